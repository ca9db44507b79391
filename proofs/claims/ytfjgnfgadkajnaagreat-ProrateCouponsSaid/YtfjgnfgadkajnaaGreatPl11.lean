/- The shortest ways: rounds until nothing changes; walks. -/
import Derived.Test.YtfjgnfgadkajnaaGreatPl7
import Derived.Test.YtfjgnfgadkajnaaGreatPl10
namespace Go.Proofs.YtfjgnfgadkajnaaGreat
open Go Go.RowKit
set_option linter.unusedSimpArgs false
set_option linter.unusedVariables false
set_option linter.deprecated false
/-! Walks. -/
def Edge (ds : List Distance) (x y : List UInt8) (n : Int) : Prop := ∃ d ∈ ds, usable d = true ∧ n = d.miles ∧ ((x = d.from' ∧ y = d.to') ∨ (x = d.to' ∧ y = d.from'))
inductive Walk (ds : List Distance) (x : List UInt8) : List UInt8 → Int → Prop
  | nil : Walk ds x x 0
  | snoc {y z : List UInt8} {n k : Int} : Walk ds x y n → Edge ds y z k → Walk ds x z (n + k)
theorem Edge.symm {ds x y n} (h : Edge ds x y n) : Edge ds y x n := by
  obtain ⟨d, h1, h2, h3, h4⟩ := h
  refine ⟨d, h1, h2, h3, ?_⟩
  rcases h4 with ⟨a, b⟩ | ⟨a, b⟩
  · exact .inr ⟨b, a⟩
  · exact .inl ⟨b, a⟩
theorem usable_iff (d : Distance) : usable d = true ↔ 1 ≤ d.miles ∧ d.miles ≤ 20000 := by unfold usable; rw [Bool.and_eq_true, decide_eq_true_iff, decide_eq_true_iff]
theorem Edge.bd {ds x y n} (h : Edge ds x y n) : 1 ≤ n ∧ n ≤ 20000 := by
  obtain ⟨d, _, h2, h3, _⟩ := h
  rw [h3]; exact (usable_iff d).1 h2
theorem Walk.cat {ds x y z n k} (h : Walk ds x y n) (h2 : Walk ds y z k) : Walk ds x z (n + k) := by
  induction h2 with
  | nil => rw [Int.add_zero]; exact h
  | snoc _ e ih => rw [← Int.add_assoc]; exact .snoc ih e
theorem Walk.symm {ds x y n} (h : Walk ds x y n) : Walk ds y x n := by
  induction h with
  | nil => exact .nil
  | snoc w e ih =>
    have h1 := (Walk.snoc (x := _) .nil e.symm).cat ih
    rw [Int.zero_add, Int.add_comm] at h1
    exact h1
/-! Rounds. -/
def ends (c : List UInt8) (ds : List Distance) : List (List UInt8) := c :: ds.flatMap fun d => [d.from', d.to']
theorem ends_len (c ds) : (ends c ds).length = 2 * ds.length + 1 := by
  unfold ends
  rw [List.length_cons]
  congr 1
  induction ds with
  | nil => rfl
  | cons d ds ih => rw [List.flatMap_cons, List.length_append, ih]; simp only [List.length_cons, List.length_nil]; omega
theorem ends_edge {c ds x y n} (h : Edge ds x y n) : x ∈ ends c ds ∧ y ∈ ends c ds := by
  obtain ⟨d, h1, _, _, h4⟩ := h
  have hf : d.from' ∈ ends c ds := List.mem_cons_of_mem _ (List.mem_flatMap.2 ⟨d, h1, by simp⟩)
  have ht : d.to' ∈ ends c ds := List.mem_cons_of_mem _ (List.mem_flatMap.2 ⟨d, h1, by simp⟩)
  rcases h4 with ⟨rfl, rfl⟩ | ⟨rfl, rfl⟩
  · exact ⟨hf, ht⟩
  · exact ⟨ht, hf⟩
def valO (L : Assoc Int) (k : List UInt8) : Nat := ((aget L k).getD 1000000000).toNat
def mu (E : List (List UInt8)) (L : Assoc Int) : Nat := (E.map (valO L)).sum
def rc (E : List (List UInt8)) (L : Assoc Int) : Nat := E.countP fun k => (aget L k).isSome
theorem sum_le {α : Type} {f g : α → Nat} : ∀ {E : List α}, (∀ k ∈ E, f k ≤ g k) → (E.map f).sum ≤ (E.map g).sum
  | [], _ => Nat.le_refl _
  | a :: E, h => by
    rw [List.map_cons, List.map_cons, List.sum_cons, List.sum_cons]
    have h1 := h a (List.mem_cons_self ..)
    have h2 := sum_le (E := E) (f := f) (g := g) fun k hk => h k (List.mem_cons_of_mem _ hk)
    omega
theorem sum_lt {α : Type} {f g : α → Nat} : ∀ {E : List α} {x : α}, (∀ k ∈ E, f k ≤ g k) → x ∈ E → f x < g x → (E.map f).sum < (E.map g).sum
  | a :: E, x, h, hx, hl => by
    rw [List.map_cons, List.map_cons, List.sum_cons, List.sum_cons]
    have h1 := h a (List.mem_cons_self ..)
    have h2 := sum_le (E := E) (f := f) (g := g) fun k hk => h k (List.mem_cons_of_mem _ hk)
    rcases List.mem_cons.1 hx with rfl | hx
    · omega
    · have h3 := sum_lt (E := E) (x := x) (f := f) (g := g) (fun k hk => h k (List.mem_cons_of_mem _ hk)) hx hl
      omega
theorem rc_sum (E L) : rc E L = (E.map fun k => if (aget L k).isSome then 1 else 0).sum := by
  unfold rc
  induction E with
  | nil => rfl
  | cons a E ih => rw [List.countP_cons, List.map_cons, List.sum_cons, ih]; omega
theorem rc_le (E L) : rc E L ≤ E.length := List.countP_le_length
theorem aput_mem {L : Assoc Int} {k : List UInt8} {v : Int} {p} : p ∈ aput L k v → p = (k, v) ∨ p ∈ L := by
  induction L with
  | nil => intro h; exact .inl (by simpa [aput] using h)
  | cons q L ih =>
    obtain ⟨k', v'⟩ := q
    rw [aput]
    intro h
    split at h
    · rcases List.mem_cons.1 h with h | h
      · exact .inl h
      · exact .inr (List.mem_cons_of_mem _ h)
    · rcases List.mem_cons.1 h with h | h
      · exact .inr (h ▸ List.mem_cons_self ..)
      · rcases ih h with h | h
        · exact .inl h
        · exact .inr (List.mem_cons_of_mem _ h)
theorem aput_len {L : Assoc Int} {k : List UInt8} {v : Int} : (aput L k v).length = L.length + if (aget L k).isSome then 0 else 1 := by
  induction L with
  | nil => rfl
  | cons q L ih =>
    obtain ⟨k', v'⟩ := q
    rw [aput, aget_cons]
    split
    · simp
    · rw [List.length_cons, ih, List.length_cons]; omega
structure InvL (ds : List Distance) (c : List UInt8) (L : Assoc Int) : Prop where
  len : L.length ≤ rc (ends c ds) L
  vals : ∀ p ∈ L, 0 ≤ p.2 ∧ p.2 ≤ 20000 * (rc (ends c ds) L : Int)
  walks : ∀ p ∈ L, Walk ds c p.1 p.2
  start : aget L c = some 0
theorem InvL.first (ds c) : InvL ds c [(c, 0)] := by
  have h1 : aget ([(c, 0)] : Assoc Int) c = some 0 := by rw [aget_cons, if_pos rfl]
  have h2 : 1 ≤ rc (ends c ds) [(c, 0)] := by
    unfold rc ends; rw [List.countP_cons_of_pos (by rw [h1]; rfl)]; omega
  refine ⟨h2, fun p hp => ?_, fun p hp => ?_, h1⟩
  · obtain rfl : p = (c, 0) := by simpa using hp
    dsimp only; omega
  · obtain rfl : p = (c, 0) := by simpa using hp
    exact .nil
theorem InvL.get {ds c L k v} (h : InvL ds c L) (hk : aget L k = some v) : 0 ≤ v ∧ v ≤ 20000 * (rc (ends c ds) L : Int) ∧ Walk ds c k v := by
  have h1 := h.vals _ (aget_mem hk)
  exact ⟨h1.1, h1.2, h.walks _ (aget_mem hk)⟩
theorem InvL.big {ds c L} (h : InvL ds c L) (hd : ds.length ≤ 1000) : L.length ≤ 1000000 ∧ ∀ p ∈ L, 0 ≤ p.2 ∧ p.2 ≤ 1000000000 := by
  have h1 := rc_le (ends c ds) L
  rw [ends_len] at h1
  have h2 := h.len
  refine ⟨by omega, fun p hp => ?_⟩
  have := h.vals p hp
  omega
/-- A shorter way is put down. -/
theorem InvL.put {ds c L x y m n} (h : InvL ds c L) (hd : ds.length ≤ 1000) (he : Edge ds x y n) (hx : aget L x = some m) (hy : ∀ o, aget L y = some o → m + n < o) : InvL ds c (aput L y (m + n)) ∧ mu (ends c ds) (aput L y (m + n)) < mu (ends c ds) L := by
  obtain ⟨g1, g2, g3⟩ := h.get hx
  have hb := he.bd
  have hE := (ends_edge (c := c) he).2
  have hrE := rc_le (ends c ds) L
  rw [ends_len] at hrE
  have hrc : rc (ends c ds) L ≤ rc (ends c ds) (aput L y (m + n)) := by
    rw [rc_sum, rc_sum]
    refine sum_le fun k _ => ?_
    rw [aget_put]
    by_cases e : y = k
    · rw [if_pos e]; split <;> simp
    · rw [if_neg e]; exact Nat.le_refl _
  have hrc2 : aget L y = none → rc (ends c ds) L + 1 ≤ rc (ends c ds) (aput L y (m + n)) := fun hn => by
    rw [rc_sum, rc_sum]
    refine sum_lt (x := y) (fun k _ => ?_) hE (by rw [aget_put, if_pos rfl, hn]; simp)
    rw [aget_put]
    by_cases e : y = k
    · rw [if_pos e]; split <;> simp
    · rw [if_neg e]; exact Nat.le_refl _
  refine ⟨⟨?_, fun p hp => ?_, fun p hp => ?_, ?_⟩, ?_⟩
  · rw [aput_len]
    have h1 := h.len
    cases hn : aget L y with
    | none => have := hrc2 hn; simp; omega
    | some o => simp; omega
  · rcases aput_mem hp with rfl | hp
    · dsimp only
      refine ⟨by omega, ?_⟩
      cases hn : aget L y with
      | none => have := hrc2 hn; omega
      | some o => have := hy o hn; have := (h.get hn).2.1; omega
    · have := h.vals p hp; omega
  · rcases aput_mem hp with rfl | hp
    · exact .snoc g3 he
    · exact h.walks p hp
  · rw [aget_put]
    by_cases e : y = c
    · have := hy 0 (e ▸ h.start); omega
    · rw [if_neg e]; exact h.start
  · unfold mu
    have hval : valO (aput L y (m + n)) y < valO L y := by
      unfold valO
      rw [aget_put, if_pos rfl, Option.getD_some]
      cases hn : aget L y with
      | none => simp only [Option.getD_none]; omega
      | some o => have := hy o hn; simp only [Option.getD_some]; omega
    refine sum_lt (x := y) (fun k _ => ?_) hE hval
    by_cases e : y = k
    · subst e; exact Nat.le_of_lt hval
    · unfold valO; rw [aget_put, if_neg e]; exact Nat.le_refl _
theorem relax_cases (L x y n) : relaxR L x y n = (L, false) ∧ (∀ m, aget L x = some m → ∃ o, aget L y = some o ∧ o ≤ m + n) ∨ ∃ m, aget L x = some m ∧ (∀ o, aget L y = some o → m + n < o) ∧ relaxR L x y n = (aput L y (m + n), true) := by
  unfold relaxR
  cases hx : aget L x with
  | none => exact .inl ⟨rfl, fun m h => by cases h⟩
  | some m =>
    cases hy : aget L y with
    | none => exact .inr ⟨m, rfl, fun o h => (by cases h), rfl⟩
    | some o =>
      dsimp only
      by_cases hc : o ≤ m + n
      · rw [if_pos hc]
        exact .inl ⟨rfl, fun m' h => ⟨o, rfl, by injection h with h; omega⟩⟩
      · rw [if_neg hc]
        exact .inr ⟨m, rfl, fun o' h => by injection h with h; omega, rfl⟩
theorem relax_inv {ds c L x y n} (h : InvL ds c L) (hd : ds.length ≤ 1000) (he : Edge ds x y n) : InvL ds c (relaxR L x y n).1 ∧ mu (ends c ds) (relaxR L x y n).1 ≤ mu (ends c ds) L ∧ ((relaxR L x y n).2 = true → mu (ends c ds) (relaxR L x y n).1 < mu (ends c ds) L) ∧ ((relaxR L x y n).2 = false → (relaxR L x y n).1 = L) := by
  rcases relax_cases L x y n with ⟨h1, _⟩ | ⟨m, h1, h2, h3⟩
  · rw [h1]; exact ⟨h, Nat.le_refl _, fun h => (by cases h), fun _ => rfl⟩
  · obtain ⟨p1, p2⟩ := h.put hd he h1 h2
    rw [h3]; exact ⟨p1, by dsimp only; omega, fun _ => p2, fun h => by cases h⟩
theorem edge_f {ds : List Distance} {d : Distance} (h : d ∈ ds) (hu : usable d = true) : Edge ds d.from' d.to' d.miles := ⟨d, h, hu, rfl, .inl ⟨rfl, rfl⟩⟩
theorem edge_t {ds : List Distance} {d : Distance} (h : d ∈ ds) (hu : usable d = true) : Edge ds d.to' d.from' d.miles := ⟨d, h, hu, rfl, .inr ⟨rfl, rfl⟩⟩
theorem step_inv {ds c L} {d : Distance} (h : InvL ds c L) (hd : ds.length ≤ 1000) (hm : d ∈ ds) (hu : usable d = true) : InvL ds c (stepP L d.from' d.to' d.miles).1 ∧ mu (ends c ds) (stepP L d.from' d.to' d.miles).1 ≤ mu (ends c ds) L ∧ ((stepP L d.from' d.to' d.miles).2 = true → mu (ends c ds) (stepP L d.from' d.to' d.miles).1 < mu (ends c ds) L) ∧ ((stepP L d.from' d.to' d.miles).2 = false → (stepP L d.from' d.to' d.miles).1 = L) := by
  obtain ⟨a1, a2, a3, a4⟩ := relax_inv h hd (edge_f hm hu)
  obtain ⟨b1, b2, b3, b4⟩ := relax_inv a1 hd (edge_t hm hu)
  unfold stepP
  refine ⟨b1, by dsimp only; omega, fun hh => ?_, fun hh => ?_⟩
  · dsimp only at hh ⊢
    rcases (Bool.or_eq_true _ _).mp hh with hh | hh
    · have := a3 hh; omega
    · have := b3 hh; omega
  · dsimp only at hh ⊢
    obtain ⟨h1, h2⟩ := Bool.or_eq_false_iff.1 hh
    rw [b4 h2, a4 h1]
/-- The distances, followed once. -/
def rnd : List Distance → Assoc Int → Bool → Assoc Int × Bool
  | [], L, b => (L, b)
  | d :: ds, L, b => if usable d = true then rnd ds (stepP L d.from' d.to' d.miles).1 (b || (stepP L d.from' d.to' d.miles).2) else rnd ds L b
theorem rnd_yes {ds : List Distance} {i : Nat} (hi : i < ds.length) (h : usable ds[i] = true) (L b) : rnd (ds.drop i) L b = rnd (ds.drop (i + 1)) (stepP L ds[i].from' ds[i].to' ds[i].miles).1 (b || (stepP L ds[i].from' ds[i].to' ds[i].miles).2) := by
  rw [List.drop_eq_getElem_cons hi, rnd, if_pos h]
theorem rnd_no {ds : List Distance} {i : Nat} (hi : i < ds.length) (h : usable ds[i] = false) (L b) : rnd (ds.drop i) L b = rnd (ds.drop (i + 1)) L b := by
  rw [List.drop_eq_getElem_cons hi, rnd, if_neg (by rw [h]; decide)]
theorem rnd_end {ds : List Distance} {i : Nat} (hi : ds.length ≤ i) (L b) : rnd (ds.drop i) L b = (L, b) := by
  rw [List.drop_eq_nil_of_le hi, rnd]
theorem rnd_inv {ds c} (hd : ds.length ≤ 1000) : ∀ (es : List Distance), (∀ d ∈ es, d ∈ ds) → ∀ L b, InvL ds c L → InvL ds c (rnd es L b).1 ∧ mu (ends c ds) (rnd es L b).1 ≤ mu (ends c ds) L ∧ ((rnd es L b).2 = true → b = true ∨ mu (ends c ds) (rnd es L b).1 < mu (ends c ds) L) ∧ ((rnd es L b).2 = false → b = false ∧ (rnd es L b).1 = L ∧ ∀ d ∈ es, usable d = true → (stepP L d.from' d.to' d.miles).2 = false)
  | [], _, L, b, h => ⟨h, Nat.le_refl _, fun h => .inl h, fun h => ⟨h, rfl, fun _ hd => absurd hd List.not_mem_nil⟩⟩
  | d :: es, hs, L, b, h => by
    have hs2 : ∀ d ∈ es, d ∈ ds := fun d hd => hs d (List.mem_cons_of_mem _ hd)
    rw [rnd]
    by_cases hu : usable d = true
    · rw [if_pos hu]
      obtain ⟨a1, a2, a3, a4⟩ := step_inv h hd (hs d (List.mem_cons_self ..)) hu
      obtain ⟨b1, b2, b3, b4⟩ := rnd_inv hd es hs2 _ (b || (stepP L d.from' d.to' d.miles).2) a1
      refine ⟨b1, by omega, fun hh => ?_, fun hh => ?_⟩
      · rcases b3 hh with h1 | h1
        · rcases (Bool.or_eq_true _ _).mp h1 with h1 | h1
          · exact .inl h1
          · have := a3 h1; exact .inr (by omega)
        · exact .inr (by omega)
      · obtain ⟨c1, c2, c3⟩ := b4 hh
        obtain ⟨e1, e2⟩ := Bool.or_eq_false_iff.1 c1
        rw [a4 e2] at c2 c3
        refine ⟨e1, by rw [a4 e2]; exact c2, fun d' hd' hu' => ?_⟩
        rcases List.mem_cons.1 hd' with rfl | hd'
        · exact e2
        · exact c3 d' hd' hu'
    · rw [if_neg hu]
      obtain ⟨b1, b2, b3, b4⟩ := rnd_inv hd es hs2 L b h
      refine ⟨b1, b2, b3, fun hh => ?_⟩
      obtain ⟨c1, c2, c3⟩ := b4 hh
      refine ⟨c1, c2, fun d' hd' hu' => ?_⟩
      rcases List.mem_cons.1 hd' with rfl | hd'
      · exact absurd hu' hu
      · exact c3 d' hd' hu'
def fixN (ds : List Distance) : Nat → Assoc Int → Assoc Int
  | 0, L => L
  | m + 1, L => if (rnd ds L false).2 = true then fixN ds m (rnd ds L false).1 else (rnd ds L false).1
def fixL (ds : List Distance) (c : List UInt8) : Assoc Int := fixN ds (mu (ends c ds) [(c, 0)] + 1) [(c, 0)]
theorem fix_more {ds c m L} (hd : ds.length ≤ 1000) (h : InvL ds c L) (hm : mu (ends c ds) L < m) (hr : (rnd ds L false).2 = true) : ∃ k, m = k + 1 ∧ mu (ends c ds) (rnd ds L false).1 < k ∧ fixN ds m L = fixN ds k (rnd ds L false).1 := by
  obtain ⟨k, rfl⟩ : ∃ k, m = k + 1 := ⟨m - 1, by omega⟩
  refine ⟨k, rfl, ?_, by rw [fixN, if_pos hr]⟩
  rcases (rnd_inv hd ds (fun _ h => h) L false h).2.2.1 hr with h1 | h1
  · cases h1
  · omega
theorem fix_stop {ds c m L} (hd : ds.length ≤ 1000) (h : InvL ds c L) (hm : mu (ends c ds) L < m) (hr : (rnd ds L false).2 = false) : fixN ds m L = (rnd ds L false).1 := by
  obtain ⟨k, rfl⟩ : ∃ k, m = k + 1 := ⟨m - 1, by omega⟩
  rw [fixN, if_neg (by rw [hr]; decide)]
/-- What is found in the end. -/
structure FinL (ds : List Distance) (c : List UInt8) (F : Assoc Int) : Prop where
  inv : InvL ds c F
  closed : ∀ x y n, Edge ds x y n → ∀ m, aget F x = some m → ∃ o, aget F y = some o ∧ o ≤ m + n
theorem fixN_fin {ds c} (hd : ds.length ≤ 1000) : ∀ m L, InvL ds c L → mu (ends c ds) L < m → FinL ds c (fixN ds m L)
  | 0, L, _, h => absurd h (Nat.not_lt_zero _)
  | m + 1, L, h, hm => by
    cases hr : (rnd ds L false).2 with
    | true =>
      obtain ⟨k, hk, h1, h2⟩ := fix_more hd h hm hr
      obtain rfl : m = k := by omega
      rw [h2]
      exact fixN_fin hd m _ (rnd_inv hd ds (fun _ h => h) L false h).1 h1
    | false =>
      rw [fix_stop hd h hm hr]
      obtain ⟨_, h2, h3⟩ := (rnd_inv hd ds (fun _ h => h) L false h).2.2.2 hr
      rw [h2]
      refine ⟨h, fun x y n he m hx => ?_⟩
      obtain ⟨d, hm, hu, rfl, hc⟩ := he
      have h4 := h3 d hm hu
      unfold stepP at h4
      dsimp only at h4
      obtain ⟨e1, e2⟩ := Bool.or_eq_false_iff.1 h4
      have k1 : relaxR L d.from' d.to' d.miles = (L, false) ∧ ∀ m, aget L d.from' = some m → ∃ o, aget L d.to' = some o ∧ o ≤ m + d.miles := by
        rcases relax_cases L d.from' d.to' d.miles with h | ⟨m, _, _, h⟩
        · exact h
        · rw [h] at e1; cases e1
      rw [k1.1] at e2
      have k2 : ∀ m, aget L d.to' = some m → ∃ o, aget L d.from' = some o ∧ o ≤ m + d.miles := by
        rcases relax_cases L d.to' d.from' d.miles with h | ⟨m, _, _, h⟩
        · exact h.2
        · rw [h] at e2; cases e2
      rcases hc with ⟨rfl, rfl⟩ | ⟨rfl, rfl⟩
      · exact k1.2 m hx
      · exact k2 m hx
theorem fixL_fin {ds} (hd : ds.length ≤ 1000) (c) : FinL ds c (fixL ds c) := fixN_fin hd _ _ (InvL.first ds c) (Nat.lt_succ_self _)
/-! Miles. -/
def milesV (o : Option Int) : Int × Int := match o with
  | none => (0, 7)
  | some n => (n, 0)
def milesOf (ps : List Airport) (ds : List Distance) (a b : List UInt8) : Int × Int := if cityOf ps a = [] ∨ cityOf ps b = [] then (0, 14) else milesV (aget (fixL ds (cityOf ps a)) (cityOf ps b))
end Go.Proofs.YtfjgnfgadkajnaaGreat
