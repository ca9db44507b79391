/- The plain laws of settling. -/
import Derived.Test.YtkdkjbneohdofaaDoorSe9
namespace Go.Proofs.YtkdkjbneohdofaaDoor
open Go Go.RowKit
set_option linter.unusedSimpArgs false
set_option linter.unusedVariables false
set_option linter.deprecated false
theorem sum_app {l m : List Int} : (l ++ m).sum = l.sum + m.sum := by
  induction l with
  | nil => simp
  | cons x l ih => rw [List.cons_append, List.sum_cons, List.sum_cons, ih]; omega
theorem adP_sum (R : List Post) (n : List UInt8) (a : Int) : sumT (adP R n a) = sumT R + a := by
  induction R with
  | nil => simp [adP, sumT]
  | cons p R ih =>
    rw [adP]
    split
    · simp only [sumT, List.map_cons, List.sum_cons]; omega
    · split
      · simp only [sumT, List.map_cons, List.sum_cons]; omega
      · simp only [sumT, List.map_cons, List.sum_cons] at ih ⊢; omega
theorem netL_sum (l : List Due) : sumT (netL l) = 0 := by
  suffices h : ∀ R : List Post, sumT (l.foldl addPD R) = sumT R from (h []).trans rfl
  induction l with
  | nil => intro R; rfl
  | cons x l ih =>
    intro R
    rw [List.foldl_cons, ih]
    unfold addPD
    rw [adP_sum, adP_sum]; omega
theorem netP_sum {l : List Due} (h : OkD l) : sumT (netP l).1 = 0 := by
  by_cases h0 : (netP l).2 = 0
  · rw [(net_ok h h0).2]; exact netL_sum l
  · have : (netP l).1 = [] := by
      unfold netP at h0 ⊢
      split
      · rfl
      · rename_i c
        rw [if_neg c] at h0
        split
        · rfl
        · rename_i c2; rw [if_neg c2] at h0; exact absurd rfl h0
    rw [this]; rfl
theorem netP_bd {l : List Due} (h : OkD l) : ∀ x ∈ (netP l).1, outB x.amount = false := by
  by_cases h0 : (netP l).2 = 0
  · exact (net_ok h h0).1.bd
  · have : (netP l).1 = [] := by
      unfold netP at h0 ⊢
      split
      · rfl
      · rename_i c
        rw [if_neg c] at h0
        split
        · rfl
        · rename_i c2; rw [if_neg c2] at h0; exact absurd rfl h0
    rw [this]; intro x hx; cases hx
/-! Few. -/
theorem runT_all (P : Due → Prop) (Q : List Post → Prop) (hs : ∀ rest a b, Q rest → StepAt rest a b → Q (movT rest a b) ∧ P (dueT rest a b)) : ∀ (f : Nat) (rest : List Post) (out : List Due), Q rest → (∀ x ∈ out, P x) → ∀ x ∈ runT f rest out, P x := by
  intro f
  induction f with
  | zero => intro rest out _ ho; exact ho
  | succ f ih =>
    intro rest out hq ho
    rw [runT]
    cases h : stepT rest with
    | none => exact ho
    | some y =>
      obtain ⟨r, d⟩ := y
      obtain ⟨a, b, h1, rfl, rfl⟩ := step_inv h
      obtain ⟨q1, q2⟩ := hs rest a b hq h1
      refine ih _ _ q1 fun x hx => ?_
      rcases List.mem_append.1 hx with hx | hx
      · exact ho x hx
      · rw [List.mem_singleton.1 hx]; exact q2
theorem run_few : ∀ (f : Nat) (rest : List Post) (out : List Due), (runT f rest out).length ≤ out.length + (nz rest - 1) := by
  intro f
  induction f with
  | zero => intro rest out; rw [runT]; omega
  | succ f ih =>
    intro rest out
    rw [runT]
    cases h : stepT rest with
    | none => dsimp only; omega
    | some y =>
      obtain ⟨r, d⟩ := y
      obtain ⟨a, b, h1, rfl, rfl⟩ := step_inv h
      have h2 := ih (movT rest a b) (out ++ [dueT rest a b])
      obtain ⟨n1, n2, n3⟩ := mov_nz h1
      rw [List.length_append] at h2
      simp only [List.length_cons, List.length_nil] at h2
      dsimp only
      omega
/-- The signs stay. -/
structure Signs (l rest : List Post) : Prop where
  len : rest.length = l.length
  acc : rest.map (·.account) = l.map (·.account)
  neg : ∀ j, j < l.length → (rest.getD j Post.zero).amount < 0 → (l.getD j Post.zero).amount < 0
  pos : ∀ j, j < l.length → 0 < (rest.getD j Post.zero).amount → 0 < (l.getD j Post.zero).amount
theorem acc_at {l rest : List Post} (h : rest.map (·.account) = l.map (·.account)) (j : Nat) : (rest.getD j Post.zero).account = (l.getD j Post.zero).account := by
  have h1 := congrArg (fun m => m.getD j ([] : List UInt8)) h
  have h2 := congrArg List.length h
  simp only [List.length_map] at h2
  by_cases hj : j < l.length
  · rw [getD_lt _ _ _ hj, getD_lt _ _ _ (by omega)]
    rw [getD_lt _ _ _ (by rw [List.length_map]; omega), getD_lt _ _ _ (by rw [List.length_map]; omega)] at h1
    simpa using h1
  · rw [List.getD_eq_getElem?_getD, List.getD_eq_getElem?_getD, List.getElem?_eq_none (by omega), List.getElem?_eq_none (by omega)]
theorem Signs.step {l rest : List Post} {a b : Nat} (h : Signs l rest) (s : StepAt rest a b) : Signs l (movT rest a b) := by
  obtain ⟨m1, m2, m3, _⟩ := s.min
  have na := s.na
  have pb := s.pb
  refine ⟨(mov_len _ _ _).trans h.len, (mov_acc s).trans h.acc, fun j hj hn => ?_, fun j hj hn => ?_⟩
  · rw [mov_get s j (by rw [h.len]; exact hj)] at hn
    split at hn
    · dsimp only at hn; omega
    · split at hn
      · rename_i e; subst e; exact h.neg j hj na
      · exact h.neg j hj hn
  · rw [mov_get s j (by rw [h.len]; exact hj)] at hn
    split at hn
    · rename_i e; subst e; exact h.pos j hj pb
    · split at hn
      · dsimp only at hn; omega
      · exact h.pos j hj hn
/-- A payment of the list. -/
def Pays (l : List Post) (d : Due) : Prop := 1 ≤ d.amount ∧ ∃ a b, a < l.length ∧ b < l.length ∧ (l.getD a Post.zero).amount < 0 ∧ 0 < (l.getD b Post.zero).amount ∧ d.from' = (l.getD a Post.zero).account ∧ d.to' = (l.getD b Post.zero).account
theorem run_pays (l : List Post) : ∀ x ∈ runT l.length l [], Pays l x := by
  refine runT_all (Pays l) (Signs l) (fun rest a b h s => ⟨h.step s, s.min.1, a, b, by rw [← h.len]; exact s.ha, by rw [← h.len]; exact s.hb, h.neg a (by rw [← h.len]; exact s.ha) s.na, h.pos b (by rw [← h.len]; exact s.hb) s.pb, ?_, ?_⟩) _ _ _ ⟨rfl, rfl, fun _ _ h => h, fun _ _ h => h⟩ (fun x hx => by cases hx)
  · exact acc_at h.acc a
  · exact acc_at h.acc b
theorem pays_ne {l : List Post} (nd : (l.map (·.account)).Nodup) {d e : Due} (hd : Pays l d) (he : Pays l e) : d.from' ≠ e.to' := by
  obtain ⟨_, a, _, ha, _, h1, _, h2, _⟩ := hd
  obtain ⟨_, _, b, _, hb, _, h3, _, h4⟩ := he
  intro e
  rw [h2, h4] at e
  rw [getD_lt _ _ _ ha] at e h1
  rw [getD_lt _ _ _ hb] at e h3
  have hab : a = b := by
    refine (List.getElem_inj (i := a) (j := b) (h₀ := by rw [List.length_map]; exact ha) (h₁ := by rw [List.length_map]; exact hb) nd).1 ?_
    rw [List.getElem_map, List.getElem_map]; exact e
  subst hab
  omega
theorem tr_few {l : List Post} (h : (trP l).2 = 0) : (trP l).1.length ≤ nz l - 1 ∧ (∀ x ∈ (trP l).1, 1 ≤ x.amount) ∧ ∀ x ∈ (trP l).1, ∀ y ∈ (trP l).1, x.from' ≠ y.to' := by
  unfold trP at h ⊢
  split
  · rename_i c; rw [if_pos c] at h; cases h
  · rename_i c
    rw [if_neg c] at h
    split
    · rename_i c2
      rw [if_pos c2] at h
      split
      · have hp := run_pays l
        have hf := run_few l.length l []
        simp only [List.length_nil, Nat.zero_add] at hf
        exact ⟨hf, fun x hx => (hp x hx).1, fun x hx y hy => pays_ne c2 (hp x hx) (hp y hy)⟩
      · rename_i c3; rw [if_neg c3] at h; cases h
    · rename_i c2; rw [if_neg c2] at h; cases h
theorem tr_none {l : List Post} (h : (trP l).2 ≠ 0) : (trP l).1 = [] := by
  unfold trP at h ⊢
  repeat' split
  all_goals first | rfl | (exfalso; apply h; simp_all)
theorem tr_len (l : List Post) : (trP l).1.length ≤ l.length := by
  by_cases h : (trP l).2 = 0
  · have := (tr_few h).1; have := nz_le l; omega
  · rw [tr_none h]; simp
/-! The transfers settle the dues. -/
theorem getP_set {l : List Post} (nd : (l.map (·.account)).Nodup) {a : Nat} (ha : a < l.length) (n : Int) (k : List UInt8) : getP (l.set a ⟨(l.getD a Post.zero).account, n⟩) k = if (l.getD a Post.zero).account = k then n else getP l k := by
  induction l generalizing a with
  | nil => simp at ha
  | cons p l ih =>
    obtain ⟨n1, n2⟩ := List.nodup_cons.1 nd
    cases a with
    | zero =>
      rw [List.set_cons_zero, List.getD_cons_zero, getP, getP]
      by_cases e : p.account = k
      · rw [if_pos e, if_pos e]
      · rw [if_neg e, if_neg e, if_neg e]
    | succ a =>
      rw [List.length_cons] at ha
      rw [List.set_cons_succ, List.getD_cons_succ, getP, getP, ih n2 (by omega)]
      by_cases e : p.account = k
      · rw [if_pos e, if_pos e, if_neg]
        intro e2
        refine n1 ?_
        show p.account ∈ _
        rw [e, ← e2, getD_lt _ _ _ (by omega)]
        exact List.mem_map.2 ⟨_, List.getElem_mem _, rfl⟩
      · rw [if_neg e, if_neg e]
theorem acc_inj {l : List Post} (nd : (l.map (·.account)).Nodup) {a b : Nat} (ha : a < l.length) (hb : b < l.length) (e : (l.getD a Post.zero).account = (l.getD b Post.zero).account) : a = b := by
  rw [getD_lt _ _ _ ha, getD_lt _ _ _ hb] at e
  refine (List.getElem_inj (i := a) (j := b) (h₀ := by rw [List.length_map]; exact ha) (h₁ := by rw [List.length_map]; exact hb) nd).1 ?_
  rw [List.getElem_map, List.getElem_map]; exact e
theorem getP_at' {l : List Post} (nd : (l.map (·.account)).Nodup) {a : Nat} (ha : a < l.length) : getP l (l.getD a Post.zero).account = (l.getD a Post.zero).amount := by
  rw [getD_lt _ _ _ ha]; exact getP_mem nd (List.getElem_mem ha)
theorem mov_getP {rest : List Post} {a b : Nat} (nd : (rest.map (·.account)).Nodup) (h : StepAt rest a b) (L : Assoc Int) (k : List UInt8) : getP (movT rest a b) k + getA (addD L (dueT rest a b)) k = getP rest k + getA L k := by
  have hne := h.ne
  have hab : (rest.getD a Post.zero).account ≠ (rest.getD b Post.zero).account := fun e => hne (acc_inj nd h.ha h.hb e)
  have ga := getP_at' nd h.ha
  have gb := getP_at' nd h.hb
  have e1 : (rest.set a ⟨(rest.getD a Post.zero).account, (rest.getD a Post.zero).amount + minA rest a b⟩).map (·.account) = rest.map (·.account) := by
    rw [List.map_set]
    refine List.ext_getElem (by simp) fun j h1 h2 => ?_
    rw [List.getElem_set]
    split
    · rename_i e; subst e; rw [List.getElem_map, getD_lt _ _ _ h.ha]
    · rfl
  have e2 : (rest.set a ⟨(rest.getD a Post.zero).account, (rest.getD a Post.zero).amount + minA rest a b⟩).getD b Post.zero = rest.getD b Post.zero := by
    rw [List.getD_eq_getElem?_getD, List.getElem?_set, if_neg hne, ← List.getD_eq_getElem?_getD]
  have e3 := getP_set (l := rest.set a ⟨(rest.getD a Post.zero).account, (rest.getD a Post.zero).amount + minA rest a b⟩) (by rw [e1]; exact nd) (a := b) (by rw [List.length_set]; exact h.hb) ((rest.getD b Post.zero).amount - minA rest a b) k
  rw [e2, getP_set nd h.ha] at e3
  unfold movT
  rw [e3]
  unfold addD dueT
  simp only [getA_add]
  by_cases k1 : (rest.getD b Post.zero).account = k
  · subst k1
    rw [if_pos rfl, if_pos rfl, if_neg hab]
    omega
  · rw [if_neg k1, if_neg k1]
    by_cases k2 : (rest.getD a Post.zero).account = k
    · subst k2
      rw [if_pos rfl, if_pos rfl]
      omega
    · rw [if_neg k2, if_neg k2]
theorem sumD_snoc (out : List Due) (d : Due) : sumD (out ++ [d]) = addD (sumD out) d := by unfold sumD; rw [List.foldl_append]; rfl
theorem zero_of_sum {l : List Post} (h : (∀ x ∈ l, 0 ≤ x.amount) ∨ (∀ x ∈ l, x.amount ≤ 0)) (hs : sumT l = 0) : ∀ x ∈ l, x.amount = 0 := by
  induction l with
  | nil => intro x hx; cases hx
  | cons y l ih =>
    simp only [sumT, List.map_cons, List.sum_cons] at hs
    have hsg : ∀ {m : List Post}, ((∀ x ∈ m, 0 ≤ x.amount) → 0 ≤ (m.map (·.amount)).sum) ∧ ((∀ x ∈ m, x.amount ≤ 0) → (m.map (·.amount)).sum ≤ 0) := by
      intro m
      induction m with
      | nil => simp
      | cons z m ih =>
        simp only [List.map_cons, List.sum_cons]
        refine ⟨fun h => ?_, fun h => ?_⟩
        · have := h z (.head _); have := ih.1 fun x hx => h x (.tail _ hx); omega
        · have := h z (.head _); have := ih.2 fun x hx => h x (.tail _ hx); omega
    rcases h with h | h
    · have h1 := h y (.head _)
      have h2 := hsg.1 fun x hx => h x (.tail _ hx)
      have h3 := ih (.inl fun x hx => h x (.tail _ hx)) (show (l.map (·.amount)).sum = 0 by omega)
      intro x hx
      rcases List.mem_cons.1 hx with rfl | hx
      · omega
      · exact h3 x hx
    · have h1 := h y (.head _)
      have h2 := hsg.2 fun x hx => h x (.tail _ hx)
      have h3 := ih (.inr fun x hx => h x (.tail _ hx)) (show (l.map (·.amount)).sum = 0 by omega)
      intro x hx
      rcases List.mem_cons.1 hx with rfl | hx
      · omega
      · exact h3 x hx
theorem getP_zero {l : List Post} (h : ∀ x ∈ l, x.amount = 0) (k : List UInt8) : getP l k = 0 := by
  induction l with
  | nil => rfl
  | cons y l ih =>
    rw [getP]
    split
    · exact h y (.head _)
    · exact ih fun x hx => h x (.tail _ hx)
/-- What was paid and what is open are all. -/
structure Flow (l rest : List Post) (out : List Due) : Prop where
  nd : (rest.map (·.account)).Nodup
  sum : sumT rest = 0
  val : ∀ k, getP rest k + getA (sumD out) k = getP l k
theorem run_flow {l : List Post} : ∀ (f : Nat) (rest : List Post) (out : List Due), nz rest ≤ f → Flow l rest out → ∀ k, getA (sumD (runT f rest out)) k = getP l k := by
  intro f
  induction f with
  | zero =>
    intro rest out hn h k
    rw [runT, ← h.val k, getP_zero fun x hx => ?_]
    · omega
    · have h1 : nz rest = 0 := by omega
      have := List.countP_eq_zero.1 h1 x hx
      simpa [nzB] using this
  | succ f ih =>
    intro rest out hn h k
    rw [runT]
    cases hs : stepT rest with
    | none =>
      dsimp only
      rw [← h.val k, getP_zero (zero_of_sum (step_none hs) h.sum)]
      omega
    | some y =>
      obtain ⟨r, d⟩ := y
      obtain ⟨a, b, h1, rfl, rfl⟩ := step_inv hs
      obtain ⟨n1, n2, n3⟩ := mov_nz h1
      refine ih _ _ (by omega) ⟨by rw [mov_acc h1]; exact h.nd, ?_, fun j => ?_⟩ k
      · rw [mov_sum h1]; exact h.sum
      · rw [sumD_snoc, mov_getP h.nd h1]; exact h.val j
theorem tr_settles {du : List Due} (h : OkD du) (hl : du.length ≤ 100) (h0 : (netP du).2 = 0) : (trP (netP du).1).2 = 0 ∧ OkD (trP (netP du).1).1 ∧ setP du (trP (netP du).1).1 = true := by
  obtain ⟨hok, he⟩ := net_ok h h0
  have hnd := rise_nd hok.rise
  have htr : trP (netP du).1 = (runT (netP du).1.length (netP du).1 [], 0) := by
    unfold trP
    rw [if_neg (fun c => by obtain ⟨x, hx, h1⟩ := List.any_eq_true.1 c; rw [hok.bd x hx] at h1; cases h1), if_pos hnd, if_pos (netP_sum h)]
  have hlen := tr_len (netP du).1
  have hpay := run_pays (netP du).1
  have hflow := run_flow (l := (netP du).1) (netP du).1.length (netP du).1 [] (nz_le _) ⟨hnd, netP_sum h, fun k => by rw [show getA (sumD []) k = 0 from rfl]; omega⟩
  have hinv := netL_inv du
  rw [htr]
  rw [htr] at hlen
  dsimp only at hlen ⊢
  have hamt : ∀ x ∈ runT (netP du).1.length (netP du).1 [], outB x.amount = false := by
    refine runT_all (fun x => outB x.amount = false) (fun rest => ∀ x ∈ rest, outB x.amount = false) (fun rest a b h s => ⟨mov_bd s h, ?_⟩) _ _ _ hok.bd (fun x hx => by cases hx)
    obtain ⟨m1, _, m3, _⟩ := s.min
    have h2 := out_bd (h _ (List.getElem_mem s.hb))
    rw [← getD_lt _ _ Post.zero s.hb] at h2
    exact out_of (by show _ ≤ minA rest a b ∧ minA rest a b ≤ _; omega)
  have hkd := keys_sum (l := du) h.2 du.length (Nat.le_refl _)
  rw [List.take_length] at hkd
  have hacc : ∀ j, j < (netP du).1.length → ((netP du).1.getD j Post.zero).account.length ≤ 140737488355328 := by
    intro j hj
    refine hkd.2.2 _ ((hinv.keys _).1 ?_)
    rw [← he, getD_lt _ _ _ hj]
    exact List.mem_map.2 ⟨_, List.getElem_mem _, rfl⟩
  have hdo : ∀ x ∈ runT (netP du).1.length (netP du).1 [], x.ok := by
    intro x hx
    have hbx := hamt x hx
    obtain ⟨_, a, b, ha, hb, _, _, e1, e2⟩ := hpay x hx
    have h1 := hacc a ha
    have h2 := hacc b hb
    rw [← e1] at h1
    rw [← e2] at h2
    have h3 := out_bd hbx
    simp only [Due.ok]
    refine ⟨?_, ?_, ?_⟩ <;> first | assumption | (unfold inI; omega)
  have hol : OkD (runT (netP du).1.length (netP du).1 []) := ⟨by have := hok.len; omega, hdo⟩
  refine ⟨rfl, hol, ?_⟩
  generalize runT (netP du).1.length (netP du).1 [] = out at *
  have hks := keys_sum (l := out) hol.2 out.length (Nat.le_refl _)
  rw [List.take_length] at hks
  have hinv2 := netL_inv out
  have heq := hinv2.eq hks.2.1
  have hval : ∀ k, getP (postsA (sumD out)) k = getP (netP du).1 k := fun k => by rw [← heq, hinv2.val, hflow]
  have hbd : ∀ x ∈ postsA (sumD out), outB x.amount = false := by
    intro x hx
    rw [← heq] at hx
    have h1 := getP_mem (rise_nd hinv2.rise) hx
    rw [heq, hval] at h1
    rw [← h1]
    by_cases hm : x.account ∈ (netP du).1.map (·.account)
    · obtain ⟨y, hy, e⟩ := List.mem_map.1 hm
      rw [← e, getP_mem hnd hy]; exact hok.bd y hy
    · rw [getP_none hm]; rfl
  have hnet : netP out = (postsA (sumD out), 0) := by
    unfold netP
    rw [if_neg (fun c => by obtain ⟨x, hx, h1⟩ := List.any_eq_true.1 c; rw [hamt x hx] at h1; cases h1), if_neg (fun c => by obtain ⟨x, hx, h1⟩ := List.any_eq_true.1 c; rw [hbd x hx] at h1; cases h1)]
  unfold setP
  rw [h0, hnet]
  have hr2 : RiseP (postsA (sumD out)) := by rw [← heq]; exact hinv2.rise
  have : eqB (netP du).1 (postsA (sumD out)) = true := by
    unfold eqB
    refine Bool.and_eq_true_iff.2 ⟨List.all_eq_true.2 fun x hx => decide_eq_true ?_, List.all_eq_true.2 fun x hx => decide_eq_true ?_⟩
    · rw [hval]; exact getP_mem hnd hx
    · rw [← hval]; exact getP_mem (rise_nd hr2) hx
  rw [this]; rfl
end Go.Proofs.YtkdkjbneohdofaaDoor
