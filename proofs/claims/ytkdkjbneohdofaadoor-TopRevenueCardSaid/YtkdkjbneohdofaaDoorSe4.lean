/- Transfers: what they are, in plain words. -/
import Derived.Test.YtkdkjbneohdofaaDoorSe3
namespace Go.Proofs.YtkdkjbneohdofaaDoor
open Go Go.RowKit
set_option linter.unusedSimpArgs false
set_option linter.unusedVariables false
set_option linter.deprecated false
/-- The first place with a property. -/
def idxOf (o : Option Nat) : Int := match o with | some k => k | none => -1
theorem idxOf_some (k : Nat) : idxOf (some k) = k := rfl
theorem findIdx_at {α : Type} {p : α → Bool} {l : List α} {i : Nat} (hi : i < l.length) (hp : ∀ x ∈ l.take i, p x = false) (h : p l[i] = true) : l.findIdx? p = some i := by
  rw [List.findIdx?_eq_some_iff_getElem]
  exact ⟨hi, h, fun j hj => by rw [hp _ (by rw [List.mem_take_iff_getElem]; exact ⟨j, by omega, rfl⟩)]; decide⟩
theorem findIdx_no {α : Type} {p : α → Bool} {l : List α} {i : Nat} (hi : l.length ≤ i) (hp : ∀ x ∈ l.take i, p x = false) : l.findIdx? p = none := by
  rw [List.take_of_length_le hi] at hp
  exact List.findIdx?_eq_none_iff.2 hp
theorem idx_any {α : Type} (p : α → Bool) (l : List α) : decide (0 ≤ idxOf (l.findIdx? p)) = l.any p := by
  cases h : l.findIdx? p with
  | none => rw [List.findIdx?_eq_none_iff] at h; rw [show l.any p = false from List.any_eq_false.2 fun x hx => by rw [h x hx]; decide]; rfl
  | some k =>
    obtain ⟨hk, h1, _⟩ := List.findIdx?_eq_some_iff_getElem.1 h
    rw [show l.any p = true from List.any_eq_true.2 ⟨_, List.getElem_mem hk, h1⟩, idxOf_some]
    simp
def negB (x : Post) : Bool := decide (x.amount < 0)
def posB (x : Post) : Bool := decide (0 < x.amount)
def nzB (x : Post) : Bool := !decide (x.amount = 0)
def nz (l : List Post) : Nat := l.countP nzB
def minA (rest : List Post) (a b : Nat) : Int := min (-(rest.getD a Post.zero).amount) (rest.getD b Post.zero).amount
def movT (rest : List Post) (a b : Nat) : List Post := (rest.set a ⟨(rest.getD a Post.zero).account, (rest.getD a Post.zero).amount + minA rest a b⟩).set b ⟨(rest.getD b Post.zero).account, (rest.getD b Post.zero).amount - minA rest a b⟩
def dueT (rest : List Post) (a b : Nat) : Due := ⟨(rest.getD a Post.zero).account, (rest.getD b Post.zero).account, minA rest a b⟩
def stepT (rest : List Post) : Option (List Post × Due) := match rest.findIdx? negB, rest.findIdx? posB with
  | some a, some b => some (movT rest a b, dueT rest a b)
  | _, _ => none
def runT : Nat → List Post → List Due → List Due
  | 0, _, out => out
  | f + 1, rest, out => match stepT rest with
    | none => out
    | some (r, d) => runT f r (out ++ [d])
def sumT (l : List Post) : Int := (l.map (·.amount)).sum
def trP (l : List Post) : List Due × Int := if (l.any fun x => outB x.amount) = true then ([], 11) else if (l.map (·.account)).Nodup then (if sumT l = 0 then (runT l.length l [], 0) else ([], 36)) else ([], 6)
/-- Where a payment goes. -/
structure StepAt (rest : List Post) (a b : Nat) : Prop where
  ha : a < rest.length
  hb : b < rest.length
  na : (rest.getD a Post.zero).amount < 0
  pb : 0 < (rest.getD b Post.zero).amount
theorem StepAt.ne {rest : List Post} {a b : Nat} (h : StepAt rest a b) : a ≠ b := fun e => by have := h.na; have := h.pb; rw [e] at *; omega
theorem StepAt.min {rest : List Post} {a b : Nat} (h : StepAt rest a b) : 1 ≤ minA rest a b ∧ minA rest a b ≤ -(rest.getD a Post.zero).amount ∧ minA rest a b ≤ (rest.getD b Post.zero).amount ∧ (minA rest a b = -(rest.getD a Post.zero).amount ∨ minA rest a b = (rest.getD b Post.zero).amount) := by
  have := h.na
  have := h.pb
  unfold minA
  omega
theorem step_inv {rest r : List Post} {d : Due} (h : stepT rest = some (r, d)) : ∃ a b, StepAt rest a b ∧ r = movT rest a b ∧ d = dueT rest a b := by
  unfold stepT at h
  split at h
  · rename_i a b h1 h2
    obtain ⟨ha, ha2, _⟩ := List.findIdx?_eq_some_iff_getElem.1 h1
    obtain ⟨hb, hb2, _⟩ := List.findIdx?_eq_some_iff_getElem.1 h2
    injection h with h
    injection h with e1 e2
    refine ⟨a, b, ⟨ha, hb, ?_, ?_⟩, e1.symm, e2.symm⟩
    · rw [getD_lt _ _ _ ha]; exact of_decide_eq_true ha2
    · rw [getD_lt _ _ _ hb]; exact of_decide_eq_true hb2
  · cases h
theorem step_none {rest : List Post} (h : stepT rest = none) : (∀ x ∈ rest, 0 ≤ x.amount) ∨ (∀ x ∈ rest, x.amount ≤ 0) := by
  unfold stepT at h
  split at h
  · cases h
  · rename_i hn
    cases h1 : rest.findIdx? negB with
    | none => left; intro x hx; have := List.findIdx?_eq_none_iff.1 h1 x hx; have := of_decide_eq_false this; omega
    | some a =>
      cases h2 : rest.findIdx? posB with
      | none => right; intro x hx; have := List.findIdx?_eq_none_iff.1 h2 x hx; have := of_decide_eq_false this; omega
      | some b => exact absurd h2 (hn a b h1)
theorem mov_get {rest : List Post} {a b : Nat} (h : StepAt rest a b) (j : Nat) (hj : j < rest.length) : (movT rest a b).getD j Post.zero = if j = b then ⟨(rest.getD b Post.zero).account, (rest.getD b Post.zero).amount - minA rest a b⟩ else if j = a then ⟨(rest.getD a Post.zero).account, (rest.getD a Post.zero).amount + minA rest a b⟩ else rest.getD j Post.zero := by
  unfold movT
  rw [List.getD_eq_getElem?_getD, List.getElem?_set]
  by_cases e1 : b = j
  · subst e1
    rw [if_pos rfl, if_pos rfl, if_pos (by rw [List.length_set]; exact hj)]; rfl
  · rw [if_neg e1, if_neg (Ne.symm e1), List.getElem?_set]
    by_cases e2 : a = j
    · subst e2
      rw [if_pos rfl, if_pos rfl, if_pos hj]; rfl
    · rw [if_neg e2, if_neg (Ne.symm e2), ← List.getD_eq_getElem?_getD]
theorem mov_len (rest : List Post) (a b : Nat) : (movT rest a b).length = rest.length := by unfold movT; rw [List.length_set, List.length_set]
theorem mov_acc {rest : List Post} {a b : Nat} (h : StepAt rest a b) : (movT rest a b).map (·.account) = rest.map (·.account) := by
  refine List.ext_getElem (by simp [mov_len]) fun j h1 h2 => ?_
  rw [List.length_map] at h2
  have := mov_get h j h2
  rw [List.getElem_map, List.getElem_map, ← getD_lt _ _ Post.zero (by rw [mov_len]; exact h2), this, ← getD_lt _ _ Post.zero h2]
  split
  · rename_i e; rw [e]
  · split
    · rename_i e; rw [e]
    · rfl
theorem mov_nz {rest : List Post} {a b : Nat} (h : StepAt rest a b) : nz (movT rest a b) < nz rest ∧ 2 ≤ nz rest ∧ nz (movT rest a b) + 1 ≤ nz rest := by
  obtain ⟨m1, m2, m3, m4⟩ := h.min
  have na := h.na
  have pb := h.pb
  have hne := h.ne
  have ha := h.ha
  have hb := h.hb
  unfold nz movT
  have hbs : b < (rest.set a (⟨(rest.getD a Post.zero).account, (rest.getD a Post.zero).amount + minA rest a b⟩ : Post)).length := by rw [List.length_set]; exact hb
  rw [List.countP_set hbs, List.countP_set ha]
  have e1 : (rest.set a (⟨(rest.getD a Post.zero).account, (rest.getD a Post.zero).amount + minA rest a b⟩ : Post))[b] = rest[b] := List.getElem_set_ne hne hbs
  rw [e1]
  have nza : nzB rest[a] = true := by rw [getD_lt _ _ _ ha] at na; unfold nzB; rw [decide_eq_false (by omega)]; rfl
  have nzb : nzB rest[b] = true := by rw [getD_lt _ _ _ hb] at pb; unfold nzB; rw [decide_eq_false (by omega)]; rfl
  rw [nza, nzb]
  simp only [if_true]
  have h2 : 2 ≤ rest.countP nzB := by
    have c1 := List.countP_set (p := nzB) (a := (⟨[], 0⟩ : Post)) ha
    have hbs2 : b < (rest.set a (⟨[], 0⟩ : Post)).length := by rw [List.length_set]; exact hb
    have e2 : (rest.set a (⟨[], 0⟩ : Post))[b] = rest[b] := List.getElem_set_ne hne hbs2
    have p1 : 0 < rest.countP nzB := List.countP_pos_iff.2 ⟨_, List.getElem_mem ha, nza⟩
    have p2 : 0 < (rest.set a (⟨[], 0⟩ : Post)).countP nzB := List.countP_pos_iff.2 ⟨_, List.getElem_mem hbs2, by rw [e2]; exact nzb⟩
    rw [nza, show nzB (⟨[], 0⟩ : Post) = false from rfl] at c1
    simp only [if_true, Bool.false_eq_true, if_false] at c1
    omega
  have zz : nzB (⟨(rest.getD a Post.zero).account, (rest.getD a Post.zero).amount + minA rest a b⟩ : Post) = false ∨ nzB (⟨(rest.getD b Post.zero).account, (rest.getD b Post.zero).amount - minA rest a b⟩ : Post) = false := by
    unfold nzB
    simp only [Bool.not_eq_false', decide_eq_true_eq]
    omega
  rcases zz with zz | zz
  · rw [zz]; simp only [Bool.false_eq_true, if_false]; split <;> omega
  · rw [zz]; simp only [Bool.false_eq_true, if_false]; split <;> omega
theorem nz_le (l : List Post) : nz l ≤ l.length := List.countP_le_length
theorem run_more (f : Nat) : ∀ (rest : List Post) (out : List Due), nz rest ≤ f → runT (f + 1) rest out = runT f rest out := by
  induction f with
  | zero =>
    intro rest out h
    rw [runT, runT]
    cases hs : stepT rest with
    | none => rfl
    | some p =>
      obtain ⟨r, d⟩ := p
      obtain ⟨a, b, hst, _⟩ := step_inv hs
      have := (mov_nz hst).2.1
      omega
  | succ f ih =>
    intro rest out h
    rw [runT, show runT (f + 1) rest out = match stepT rest with | none => out | some (r, d) => runT f r (out ++ [d]) from rfl]
    cases hs : stepT rest with
    | none => rfl
    | some p =>
      obtain ⟨r, d⟩ := p
      obtain ⟨a, b, hst, rfl, _⟩ := step_inv hs
      have := (mov_nz hst).2.2
      exact ih _ _ (by omega)
theorem run_any {f g : Nat} {rest : List Post} {out : List Due} (h : nz rest ≤ f) (hg : f ≤ g) : runT g rest out = runT f rest out := by
  induction g with
  | zero => rw [show f = 0 by omega]
  | succ g ih =>
    by_cases e : f = g + 1
    · rw [e]
    · rw [run_more g rest out (by omega), ih (by omega)]
/-- The loop's state. -/
structure TInv (l rest : List Post) (out : List Due) : Prop where
  len : rest.length = l.length
  acc : rest.map (·.account) = l.map (·.account)
  bd : ∀ x ∈ rest, outB x.amount = false
  run : runT (nz rest) rest out = runT l.length l []
  ol : out.length + nz rest ≤ l.length
theorem out_of {n : Int} (h : -1099511627776 ≤ n ∧ n ≤ 1099511627776) : outB n = false := by
  unfold outB
  rw [decide_eq_false (by omega), decide_eq_false (by omega)]; rfl
theorem TInv.start {l : List Post} (h : ∀ x ∈ l, outB x.amount = false) : TInv l l [] := ⟨rfl, rfl, h, (run_any (Nat.le_refl _) (nz_le l)).symm, by simpa using nz_le l⟩
theorem mov_bd {rest : List Post} {a b : Nat} (h : StepAt rest a b) (hb : ∀ x ∈ rest, outB x.amount = false) : ∀ x ∈ movT rest a b, outB x.amount = false := by
  intro x hx
  obtain ⟨j, hj, rfl⟩ := List.mem_iff_getElem.1 hx
  rw [mov_len] at hj
  obtain ⟨m1, m2, m3, _⟩ := h.min
  have h1 := out_bd (hb _ (List.getElem_mem h.ha))
  have h2 := out_bd (hb _ (List.getElem_mem h.hb))
  rw [← getD_lt _ _ Post.zero h.ha] at h1
  rw [← getD_lt _ _ Post.zero h.hb] at h2
  rw [← getD_lt _ _ Post.zero (by rw [mov_len]; exact hj), mov_get h j hj]
  split
  · exact out_of (by dsimp only; omega)
  · split
    · exact out_of (by dsimp only; omega)
    · rw [getD_lt _ _ _ hj]; exact hb _ (List.getElem_mem hj)
theorem step_of {rest : List Post} {a b : Nat} (ha : a < rest.length) (hb : b < rest.length) (h1 : ∀ x ∈ rest.take a, 0 ≤ x.amount) (h2 : ∀ x ∈ rest.take b, x.amount ≤ 0) (na : rest[a].amount < 0) (pb : 0 < rest[b].amount) : stepT rest = some (movT rest a b, dueT rest a b) ∧ StepAt rest a b := by
  refine ⟨?_, ha, hb, by rw [getD_lt _ _ _ ha]; exact na, by rw [getD_lt _ _ _ hb]; exact pb⟩
  unfold stepT
  rw [findIdx_at ha (fun x hx => by have := h1 x hx; exact decide_eq_false (by omega)) (decide_eq_true na), findIdx_at hb (fun x hx => by have := h2 x hx; exact decide_eq_false (by omega)) (decide_eq_true pb)]
theorem TInv.step {l rest : List Post} {out : List Due} (h : TInv l rest out) {a b : Nat} (hs : stepT rest = some (movT rest a b, dueT rest a b)) (ha : StepAt rest a b) : TInv l (movT rest a b) (out ++ [dueT rest a b]) := by
  obtain ⟨n1, n2, n3⟩ := mov_nz ha
  refine ⟨(mov_len _ _ _).trans h.len, (mov_acc ha).trans h.acc, mov_bd ha h.bd, ?_, ?_⟩
  · rw [← h.run]
    obtain ⟨f, hf⟩ : ∃ f, nz rest = f + 1 := ⟨nz rest - 1, by omega⟩
    rw [hf, runT, hs]
    exact (run_any (Nat.le_refl _) (by omega)).symm
  · have := h.ol
    rw [List.length_append]
    simp only [List.length_cons, List.length_nil]
    omega
theorem TInv.done {l rest : List Post} {out : List Due} (h : TInv l rest out) (hs : stepT rest = none) : out = runT l.length l [] := by
  rw [← h.run]
  cases nz rest with
  | zero => rfl
  | succ f => rw [runT, hs]
/-- Behind a step the places ahead of both keep their signs. -/
theorem mov_neg {rest : List Post} {a b i : Nat} (h : StepAt rest a b) (h1 : ∀ x ∈ rest.take i, 0 ≤ x.amount) : ∀ x ∈ (movT rest a b).take i, 0 ≤ x.amount := by
  intro x hx
  obtain ⟨j, hj, rfl⟩ := List.mem_take_iff_getElem.1 hx
  rw [mov_len] at hj
  have hj2 : j < rest.length := by omega
  obtain ⟨m1, m2, m3, _⟩ := h.min
  rw [← getD_lt _ _ Post.zero (by rw [mov_len]; exact hj2), mov_get h j hj2]
  have := h1 rest[j] (List.mem_take_iff_getElem.2 ⟨j, by omega, rfl⟩)
  rw [← getD_lt _ _ Post.zero hj2] at this
  split
  · rename_i e; subst e; dsimp only; omega
  · split
    · rename_i e; subst e; have := h.na; omega
    · exact this
theorem mov_pos {rest : List Post} {a b i : Nat} (h : StepAt rest a b) (h1 : ∀ x ∈ rest.take i, x.amount ≤ 0) : ∀ x ∈ (movT rest a b).take i, x.amount ≤ 0 := by
  intro x hx
  obtain ⟨j, hj, rfl⟩ := List.mem_take_iff_getElem.1 hx
  rw [mov_len] at hj
  have hj2 : j < rest.length := by omega
  obtain ⟨m1, m2, m3, _⟩ := h.min
  rw [← getD_lt _ _ Post.zero (by rw [mov_len]; exact hj2), mov_get h j hj2]
  have := h1 rest[j] (List.mem_take_iff_getElem.2 ⟨j, by omega, rfl⟩)
  rw [← getD_lt _ _ Post.zero hj2] at this
  split
  · rename_i e; subst e; have := h.pb; omega
  · split
    · rename_i e; subst e; dsimp only; omega
    · exact this
end Go.Proofs.YtkdkjbneohdofaaDoor
