/- Balances of accounts: the plain law. -/
import Derived.Test.YthfmdkpfaehpnaaLe2
import Derived.Test.YthfmdkpfaehpnaaT6
namespace Go.Proofs.Ythfmdkpfaehpnaa
open Go Go.RowKit
set_option linter.unusedSimpArgs false
set_option linter.unusedVariables false
set_option linter.deprecated false
abbrev getA (L : Assoc Int) (k : List UInt8) : Int := (aget L k).getD 0
theorem aput_len {α : Type} (L : Assoc α) (k : List UInt8) (v : α) : (aput L k v).length ≤ L.length + 1 := by
  induction L with
  | nil => simp [aput]
  | cons p L ih => obtain ⟨k', v'⟩ := p; rw [aput]; split <;> simp; omega
theorem aput_mem {α : Type} (L : Assoc α) (k j : List UInt8) (v : α) : j ∈ (aput L k v).map (·.1) ↔ j = k ∨ j ∈ L.map (·.1) := by
  induction L with
  | nil => simp [aput]
  | cons p L ih =>
    obtain ⟨k', v'⟩ := p
    rw [aput]
    by_cases h : k' = k
    · rw [if_pos h]; subst h; simp
    · rw [if_neg h, List.map_cons, List.mem_cons, ih, List.map_cons, List.mem_cons]
      constructor
      · rintro (a | a | a); exact .inr (.inl a); exact .inl a; exact .inr (.inr a)
      · rintro (a | a | a); exact .inr (.inl a); exact .inl a; exact .inr (.inr a)
theorem aput_nd {α : Type} {L : Assoc α} (nd : (L.map (·.1)).Nodup) (k : List UInt8) (v : α) : ((aput L k v).map (·.1)).Nodup := by
  induction L with
  | nil => simp [aput]
  | cons p L ih =>
    obtain ⟨k', v'⟩ := p
    obtain ⟨n1, n2⟩ := List.nodup_cons.1 nd
    rw [aput]
    split
    · rename_i h
      exact List.nodup_cons.2 ⟨by rw [← h]; exact n1, n2⟩
    · rename_i h
      exact List.nodup_cons.2 ⟨fun hm => ((aput_mem L k k' v).1 hm).elim h n1, ih n2⟩
theorem aget_none {L : Assoc Int} {k : List UInt8} (h : k ∉ L.map (·.1)) : aget L k = none := by
  induction L with
  | nil => rfl
  | cons p L ih =>
    obtain ⟨k', v⟩ := p
    rw [List.map_cons, List.mem_cons, not_or] at h
    rw [aget_cons, if_neg (fun e => h.1 e.symm)]; exact ih h.2
/-- The balance of an account in posts. -/
def balL : List Post → List UInt8 → Int
  | [], _ => 0
  | p :: l, k => (if p.account = k then p.amount else 0) + balL l k
theorem balL_app (a b : List Post) (k : List UInt8) : balL (a ++ b) k = balL a k + balL b k := by
  induction a with
  | nil => simp [balL]
  | cons p a ih => rw [List.cons_append, balL, balL, ih]; omega
theorem balL_no {l : List Post} {k : List UInt8} (h : k ∉ l.map (·.account)) : balL l k = 0 := by
  induction l with
  | nil => rfl
  | cons p l ih =>
    rw [List.map_cons, List.mem_cons, not_or] at h
    rw [balL, if_neg (fun e => h.1 e.symm), ih h.2]; rfl
def accs (l : List Post) : List (List UInt8) := l.map (·.account)
/-- One post after another, in the map of the accounts that an entry changes. -/
def aftS (L A : Assoc Int) (p : Post) : Assoc Int := aput A p.account ((aget A p.account).getD (getA L p.account) + p.amount)
def aftL (L : Assoc Int) (l : List Post) : Assoc Int := l.foldl (aftS L) []
theorem aftL_snoc (L : Assoc Int) (l : List Post) (p : Post) : aftL L (l ++ [p]) = aftS L (aftL L l) p := by unfold aftL; rw [List.foldl_append]; rfl
structure AInv (L : Assoc Int) (l : List Post) (A : Assoc Int) : Prop where
  nd : (A.map (·.1)).Nodup
  get : ∀ k, aget A k = if k ∈ accs l then some (getA L k + balL l k) else none
  mem : ∀ k, k ∈ A.map (·.1) ↔ k ∈ accs l
  len : A.length ≤ l.length
theorem AInv.step {L : Assoc Int} {l : List Post} {A : Assoc Int} (h : AInv L l A) (p : Post) : AInv L (l ++ [p]) (aftS L A p) := by
  have e1 : accs (l ++ [p]) = accs l ++ [p.account] := by unfold accs; rw [List.map_append]; rfl
  refine ⟨aput_nd h.nd _ _, fun k => ?_, fun k => ?_, ?_⟩
  · unfold aftS
    rw [aget_put, e1, balL_app]
    by_cases e : p.account = k
    · subst e
      rw [if_pos rfl, if_pos (by simp), h.get]
      simp only [balL]
      split
      · simp; omega
      · rename_i hn; rw [balL_no hn]; simp
    · rw [if_neg e, h.get]
      have : (k ∈ accs l ++ [p.account]) ↔ k ∈ accs l := by simp; intro h; exact absurd h.symm e
      simp only [this, balL, if_neg e]; simp
  · unfold aftS
    rw [aput_mem, h.mem, e1]; simp [or_comm]
  · have := aput_len A p.account ((aget A p.account).getD (getA L p.account) + p.amount)
    have := h.len
    unfold aftS; rw [List.length_append]; simp; omega
theorem aft_inv (L : Assoc Int) (l : List Post) : AInv L l (aftL L l) := by
  suffices h : ∀ (m l0 : List Post) (A : Assoc Int), AInv L l0 A → AInv L (l0 ++ m) (m.foldl (aftS L) A) by
    have := h l [] [] ⟨List.nodup_nil, fun k => rfl, fun k => by simp [accs], Nat.le_refl _⟩
    rwa [List.nil_append] at this
  intro m
  induction m with
  | nil => intro l0 A h; rwa [List.append_nil]
  | cons p m ih => intro l0 A h; have := ih _ _ (h.step p); rwa [List.append_assoc] at this
/-- A map copied into another. -/
def copyL (L A : Assoc Int) : Assoc Int := A.foldl (fun L p => aput L p.1 p.2) L
theorem copy_get : ∀ {A : Assoc Int} (L : Assoc Int) (k : List UInt8), (A.map (·.1)).Nodup → aget (copyL L A) k = match aget A k with | some v => some v | none => aget L k
  | [], L, k, _ => rfl
  | (a, v) :: A, L, k, h => by
    obtain ⟨h1, h2⟩ := List.nodup_cons.1 h
    show aget (copyL (aput L a v) A) k = _
    rw [copy_get (aput L a v) k h2, aget_cons, aget_put]
    by_cases e : a = k
    · subst e; rw [if_pos rfl, if_pos rfl, aget_none h1]
    · rw [if_neg e, if_neg e]
theorem copy_nd : ∀ {A L : Assoc Int}, (L.map (·.1)).Nodup → ((copyL L A).map (·.1)).Nodup
  | [], L, h => h
  | (a, v) :: A, L, h => copy_nd (A := A) (aput_nd h a v)
theorem copy_mem : ∀ {A L : Assoc Int} (k : List UInt8), k ∈ (copyL L A).map (·.1) ↔ k ∈ A.map (·.1) ∨ k ∈ L.map (·.1)
  | [], L, k => by simp [copyL]
  | (a, v) :: A, L, k => by
    show k ∈ (copyL (aput L a v) A).map (·.1) ↔ _
    rw [copy_mem k, aput_mem, List.map_cons, List.mem_cons]
    constructor
    · rintro (h | h | h); exact .inl (.inr h); exact .inl (.inl h); exact .inr h
    · rintro ((h | h) | h); exact .inr (.inl h); exact .inl h; exact .inr (.inr h)
def wideB (n : Int) : Bool := decide (n < -1125899906842624) || decide (1125899906842624 < n)
theorem wide_no {n : Int} (h : wideB n = false) : -1125899906842624 ≤ n ∧ n ≤ 1125899906842624 := by
  unfold wideB at h
  simp only [Bool.or_eq_false_iff, decide_eq_false_iff_not] at h
  omega
def overA (A : Assoc Int) : Bool := A.any fun p => wideB p.2
structure LInv (l : List Post) (L : Assoc Int) : Prop where
  nd : (L.map (·.1)).Nodup
  get : ∀ k, aget L k = if k ∈ accs l then some (balL l k) else none
  mem : ∀ k, k ∈ L.map (·.1) ↔ k ∈ accs l
  bd : ∀ k, wideB (balL l k) = false
theorem LInv.start : LInv [] [] := ⟨List.nodup_nil, fun k => rfl, fun k => by simp [accs], fun k => by unfold wideB balL; simp⟩
theorem LInv.bal {l : List Post} {L : Assoc Int} (h : LInv l L) (k : List UInt8) : getA L k = balL l k := by
  unfold getA
  rw [h.get]
  split
  · rfl
  · rename_i hn; rw [balL_no hn]; rfl
theorem accs_app (a b : List Post) : accs (a ++ b) = accs a ++ accs b := by unfold accs; rw [List.map_append]
theorem aget_at {A : Assoc Int} {k : List UInt8} {v : Int} (nd : (A.map (·.1)).Nodup) (h : (k, v) ∈ A) : aget A k = some v := by
  induction A with
  | nil => cases h
  | cons p A ih =>
    obtain ⟨a, w⟩ := p
    obtain ⟨h1, h2⟩ := List.nodup_cons.1 nd
    rw [aget_cons]
    rcases List.mem_cons.1 h with e | h
    · injection e with e1 e2; subst e1 e2; rw [if_pos rfl]
    · rw [if_neg (fun e => h1 (by rw [e]; exact List.mem_map.2 ⟨_, h, rfl⟩))]; exact ih h2 h
theorem aget_in {A : Assoc Int} {k : List UInt8} {v : Int} (h : aget A k = some v) : (k, v) ∈ A := by
  induction A with
  | nil => cases h
  | cons p A ih =>
    obtain ⟨a, w⟩ := p
    rw [aget_cons] at h
    split at h
    · rename_i e; injection h with h; subst e h; exact List.mem_cons_self ..
    · exact List.mem_cons_of_mem _ (ih h)
theorem over_iff {l m : List Post} {L : Assoc Int} (h : LInv l L) : overA (aftL L m) = m.any fun p => wideB (balL (l ++ m) p.account) := by
  have A := aft_inv L m
  unfold overA
  rw [Bool.eq_iff_iff, List.any_eq_true, List.any_eq_true]
  have key : ∀ k ∈ accs m, aget (aftL L m) k = some (balL (l ++ m) k) := fun k hk => by rw [A.get, if_pos hk, h.bal, balL_app]
  constructor
  · rintro ⟨⟨k, v⟩, hp, hw⟩
    have hk := (A.mem k).1 (List.mem_map.2 ⟨_, hp, rfl⟩)
    have := aget_at A.nd hp
    rw [key k hk] at this
    injection this with this
    obtain ⟨p, hpm, rfl⟩ := List.mem_map.1 hk
    exact ⟨p, hpm, by rw [this]; exact hw⟩
  · rintro ⟨p, hp, hw⟩
    have hk : p.account ∈ accs m := List.mem_map.2 ⟨p, hp, rfl⟩
    exact ⟨_, aget_in (key _ hk), hw⟩
theorem LInv.post {l m : List Post} {L : Assoc Int} (h : LInv l L) (ho : overA (aftL L m) = false) : LInv (l ++ m) (copyL L (aftL L m)) := by
  have A := aft_inv L m
  refine ⟨copy_nd h.nd, fun k => ?_, fun k => ?_, fun k => ?_⟩
  · rw [copy_get L k A.nd, A.get, accs_app, h.get]
    by_cases hm : k ∈ accs m
    · rw [if_pos hm, if_pos (List.mem_append_right _ hm), h.bal, balL_app]
    · rw [if_neg hm, balL_app, balL_no hm]
      by_cases hl : k ∈ accs l
      · rw [if_pos hl, if_pos (List.mem_append_left _ hl)]; simp
      · rw [if_neg hl, if_neg (fun e => (List.mem_append.1 e).elim hl hm)]
  · rw [copy_mem, A.mem, h.mem, accs_app, List.mem_append, or_comm]
  · by_cases hm : k ∈ accs m
    · obtain ⟨p, hp, rfl⟩ := List.mem_map.1 hm
      rw [over_iff h, List.any_eq_false] at ho
      simpa using ho p hp
    · rw [balL_app, balL_no hm, Int.add_zero]; exact h.bd k
/-- What Trial returns. -/
def triL (L : Assoc Int) : List Post := (sortS (L.map (·.1))).map fun k => ⟨k, getA L k⟩
def sumP (l : List Post) : Int := (l.map (·.amount)).sum
/-- Balances of names without repetition, all of the posts among them, add up to all amounts. -/
theorem bal_sum : ∀ {l : List Post} {ks : List (List UInt8)}, ks.Nodup → (∀ p ∈ l, p.account ∈ ks) → (ks.map (balL l)).sum = sumP l
  | [], ks, _, _ => by
    unfold sumP
    induction ks with
    | nil => rfl
    | cons k ks ih => rw [List.map_cons, List.sum_cons]; simp_all [balL]
  | p :: l, ks, hn, h => by
    have ih := bal_sum (l := l) hn fun q hq => h q (List.mem_cons_of_mem _ hq)
    have key : ∀ {ks : List (List UInt8)}, ks.Nodup → p.account ∈ ks → (ks.map (balL (p :: l))).sum = p.amount + (ks.map (balL l)).sum := by
      intro ks
      induction ks with
      | nil => intro _ h; cases h
      | cons k ks ih2 =>
        intro hn hp
        obtain ⟨h1, h2⟩ := List.nodup_cons.1 hn
        rw [List.map_cons, List.sum_cons, List.map_cons, List.sum_cons, balL]
        by_cases e : p.account = k
        · rw [if_pos e]
          have : ks.map (balL (p :: l)) = ks.map (balL l) := List.map_congr_left fun x hx => by
            rw [balL, if_neg (fun e2 => h1 (by rw [← e, e2]; exact hx))]; omega
          rw [this]; omega
        · rw [if_neg e, ih2 h2 ((List.mem_cons.1 hp).resolve_left e)]; omega
    rw [key hn (h p (List.mem_cons_self ..)), ih]
    unfold sumP
    rw [List.map_cons, List.sum_cons]
/-- A post put into ascending ones, if its account is not there. -/
def insP : List Post → Post → List Post
  | [], p => [p]
  | x :: l, p => if slt x.account p.account = true then x :: insP l p else if x.account = p.account then x :: l else p :: x :: l
def namL (ks : List (List UInt8)) (f : List UInt8 → Int) : List Post := ks.map fun k => ⟨k, f k⟩
def insN : List (List UInt8) → List UInt8 → List (List UInt8)
  | [], k => [k]
  | x :: l, k => if slt x k = true then x :: insN l k else if x = k then x :: l else k :: x :: l
theorem insP_nam (f : List UInt8 → Int) (k : List UInt8) : ∀ ks, insP (namL ks f) ⟨k, f k⟩ = namL (insN ks k) f
  | [] => rfl
  | x :: ks => by
    have ih := insP_nam f k ks
    unfold namL at ih ⊢
    rw [List.map_cons, insP, insN]
    dsimp only
    split
    · rw [ih]; rfl
    · split <;> rfl
theorem insN_mem : ∀ (ks : List (List UInt8)) (k x : List UInt8), x ∈ insN ks k ↔ x = k ∨ x ∈ ks
  | [], k, x => by simp [insN]
  | y :: ks, k, x => by
    rw [insN]
    split
    · rw [List.mem_cons, insN_mem ks k x, List.mem_cons]
      constructor
      · rintro (h | h | h); exact .inr (.inl h); exact .inl h; exact .inr (.inr h)
      · rintro (h | h | h); exact .inr (.inl h); exact .inl h; exact .inr (.inr h)
    · split
      · rename_i e; subst e; simp
      · simp
theorem insN_rise : ∀ {ks : List (List UInt8)} {k : List UInt8}, ks.Pairwise (fun x y => slt x y = true) → (insN ks k).Pairwise (fun x y => slt x y = true)
  | [], k, _ => List.pairwise_cons.2 ⟨fun x hx => by simp at hx, List.Pairwise.nil⟩
  | y :: ks, k, h => by
    obtain ⟨h1, h2⟩ := List.pairwise_cons.1 h
    rw [insN]
    split
    · rename_i c
      refine List.pairwise_cons.2 ⟨fun x hx => ?_, insN_rise h2⟩
      rcases (insN_mem ks k x).1 hx with rfl | hx
      · exact c
      · exact h1 x hx
    · rename_i c
      split
      · exact h
      · rename_i e
        have hk : slt k y = true := by
          rcases slt_tri k y with h3 | h3 | h3
          · exact h3
          · exact absurd h3.symm e
          · exact absurd h3 c
        refine List.pairwise_cons.2 ⟨fun x hx => ?_, h⟩
        rcases List.mem_cons.1 hx with rfl | hx
        · exact hk
        · exact slt_trans hk (h1 x hx)
def namS (l : List Post) : List (List UInt8) := l.foldl (fun ks p => insN ks p.account) []
theorem namS_inv (l : List Post) : (namS l).Pairwise (fun x y => slt x y = true) ∧ ∀ x, x ∈ namS l ↔ x ∈ accs l := by
  suffices h : ∀ (m : List Post) (ks : List (List UInt8)), ks.Pairwise (fun x y => slt x y = true) → (m.foldl (fun ks p => insN ks p.account) ks).Pairwise (fun x y => slt x y = true) ∧ ∀ x, x ∈ m.foldl (fun ks p => insN ks p.account) ks ↔ x ∈ ks ∨ x ∈ accs m by
    have := h l [] List.Pairwise.nil
    unfold namS
    exact ⟨this.1, fun x => by rw [this.2]; simp⟩
  intro m
  induction m with
  | nil => intro ks h; exact ⟨h, fun x => by simp [accs]⟩
  | cons p m ih =>
    intro ks h
    obtain ⟨h1, h2⟩ := ih (insN ks p.account) (insN_rise h)
    refine ⟨h1, fun x => ?_⟩
    rw [List.foldl_cons, h2, insN_mem]
    unfold accs
    rw [List.map_cons, List.mem_cons]
    constructor
    · rintro ((h | h) | h); exact .inr (.inl h); exact .inl h; exact .inr (.inr h)
    · rintro (h | h | h); exact .inl (.inr h); exact .inl (.inl h); exact .inr h
/-- Both ledgers show the same balances. -/
theorem tri_eq {l : List Post} {L : Assoc Int} (h : LInv l L) : triL L = namL (namS l) (balL l) := by
  obtain ⟨h1, h2⟩ := namS_inv l
  have : sortS (L.map (·.1)) = namS l := rise_eq (rise_of (sortS_sorted _) ((sortS_perm _).nodup_iff.2 h.nd)) h1 fun x => by rw [(sortS_perm _).mem_iff, h.mem, h2]
  unfold triL namL
  rw [this]
  exact List.map_congr_left fun k _ => by rw [h.bal]
end Go.Proofs.Ythfmdkpfaehpnaa
