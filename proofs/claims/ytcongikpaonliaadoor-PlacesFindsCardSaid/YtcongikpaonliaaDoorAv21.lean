/- Maps that stand for sets of texts; effect calls. -/
import Derived.Test.YtcongikpaonliaaDoorAv20
namespace Go.Proofs.YtcongikpaonliaaDoor
open Go Go.RowKit
set_option linter.unusedSimpArgs false
set_option linter.unusedVariables false
set_option linter.deprecated false
theorem mput_nil (k : Ky) (v : V) : mput [] k v = [(k, v)] := rfl
theorem mput_cons (k' : Ky) (v' : V) (es : List (Ky × V)) (k : Ky) (v : V) : mput ((k', v') :: es) k v = if k' = k then (k, v) :: es else (k', v') :: mput es k v := by
  unfold mput
  rw [List.findIdx?_cons]
  by_cases h : k' = k
  · simp [h]
  · simp only [h, decide_false, Bool.false_eq_true, if_false]
    cases List.findIdx? (fun p => decide (p.1 = k)) es with
    | none => rfl
    | some j => rfl
theorem mget_nil (k : Ky) (z : V) : mget [] k z = z := rfl
theorem mget_cons (k' : Ky) (v' : V) (es : List (Ky × V)) (k : Ky) (z : V) : mget ((k', v') :: es) k z = if k' = k then v' else mget es k z := by
  unfold mget
  rw [List.find?_cons]
  by_cases h : k' = k <;> simp [h]
theorem mget_put (es : List (Ky × V)) (k j : Ky) (v z : V) : mget (mput es k v) j z = if k = j then v else mget es j z := by
  induction es with
  | nil => rw [mput_nil, mget_cons]
  | cons p es ih =>
    obtain ⟨k', v'⟩ := p
    rw [mput_cons]
    by_cases h : k' = k
    · subst h
      rw [if_pos rfl, mget_cons, mget_cons]
      by_cases e : k' = j
      · rw [if_pos e, if_pos e]
      · rw [if_neg e, if_neg e, if_neg e]
    · rw [if_neg h, mget_cons, mget_cons, ih]
      by_cases e : k = j
      · subst e; rw [if_neg h, if_pos rfl, if_pos rfl]
      · rw [if_neg e, if_neg e]
theorem mhas_cons (p : Ky × V) (es : List (Ky × V)) (k : Ky) : mhas (p :: es) k = (decide (p.1 = k) || mhas es k) := rfl
theorem mhas_put (es : List (Ky × V)) (k j : Ky) (v : V) : mhas (mput es k v) j = (decide (k = j) || mhas es j) := by
  induction es with
  | nil => rfl
  | cons p es ih =>
    obtain ⟨k', v'⟩ := p
    rw [mput_cons]
    by_cases h : k' = k
    · subst h
      rw [if_pos rfl, mhas_cons, mhas_cons]
      cases decide (k' = j) <;> rfl
    · rw [if_neg h, mhas_cons, mhas_cons, ih]
      cases decide (k' = j) <;> cases decide (k = j) <;> rfl
theorem mput_all {Q : Ky × V → Prop} {es : List (Ky × V)} {k : Ky} {v : V} (h : ∀ p ∈ es, Q p) (hq : Q (k, v)) : ∀ p ∈ mput es k v, Q p := by
  unfold mput
  split
  · intro p hp
    rcases List.mem_or_eq_of_mem_set hp with hp | rfl
    · exact h p hp
    · exact hq
  · intro p hp
    rcases List.mem_append.1 hp with hp | hp
    · exact h p hp
    · rw [List.mem_singleton] at hp; subst hp; exact hq
/-- Is a text among these? -/
def seen (p : List (List UInt8)) (s : List UInt8) : Bool := decide (s ∈ p)
theorem seen_snoc (p : List (List UInt8)) (x s : List UInt8) : seen (p ++ [x]) s = (seen p s || decide (x = s)) := by
  unfold seen
  by_cases h : s ∈ p <;> by_cases e : x = s <;> simp [h, e, eq_comm]
/-- A map[string]bool into which these were put as true. -/
def smap (p : List (List UInt8)) : List (Ky × V) := p.foldl (fun es s => mput es (.s s) (.bool true)) []
theorem smap_snoc (p : List (List UInt8)) (s : List UInt8) : mput (smap p) (.s s) (.bool true) = smap (p ++ [s]) := by
  unfold smap; rw [List.foldl_append]; rfl
theorem smap_ind {Q : List (List UInt8) → Prop} (h0 : Q []) (h1 : ∀ p s, Q p → Q (p ++ [s])) (p : List (List UInt8)) : Q p := by
  rw [← List.reverse_reverse p]
  induction p.reverse with
  | nil => exact h0
  | cons a l ih => rw [List.reverse_cons]; exact h1 _ _ ih
theorem smap_get (p : List (List UInt8)) (s : List UInt8) : mget (smap p) (.s s) (.bool false) = .bool (seen p s) := by
  induction p using smap_ind with
  | h0 => rfl
  | h1 p x ih =>
    rw [← smap_snoc, mget_put, ih, seen_snoc]
    by_cases e : x = s
    · subst e; rw [if_pos rfl, decide_eq_true rfl, Bool.or_true]
    · rw [if_neg (fun h => e (by injection h)), decide_eq_false e, Bool.or_false]
theorem smap_key (p : List (List UInt8)) : ∀ q ∈ smap p, q.1.kd = 0 := by
  induction p using smap_ind with
  | h0 => intro q hq; cases hq
  | h1 p x ih => rw [← smap_snoc]; exact mput_all ih rfl
theorem smap_pur (p : List (List UInt8)) : ∀ q ∈ smap p, q.2.pur = true := by
  induction p using smap_ind with
  | h0 => intro q hq; cases hq
  | h1 p x ih => rw [← smap_snoc]; exact mput_all ih rfl
theorem smap_bool (p : List (List UInt8)) : ∀ q ∈ smap p, q.2 = .bool true := by
  induction p using smap_ind with
  | h0 => intro q hq; cases hq
  | h1 p x ih => rw [← smap_snoc]; exact mput_all ih rfl
theorem smap_keyT (p : List (List UInt8)) : (∀ q ∈ smap p, q.1.kd = 0) ↔ True := iff_true_intro (smap_key p)
theorem smap_purT (p : List (List UInt8)) : (∀ q ∈ smap p, q.2.pur = true) ↔ True := iff_true_intro (smap_pur p)
theorem smap_ninT (d : List Nat) (p : List (List UInt8)) : (∀ q ∈ smap p, q.2.nin d = true) ↔ True := iff_true_intro fun q hq => by rw [smap_bool p q hq]; simp only [V.nin]
theorem smap_ren (σ : Nat → Nat) (p : List (List UInt8)) : (smap p).map (fun q => (q.1, q.2.ren σ)) = smap p := by
  have : ∀ q ∈ smap p, (q.1, q.2.ren σ) = q := fun q hq => by
    obtain ⟨k, v⟩ := q
    have := smap_bool p _ hq
    dsimp only at this
    subst this
    simp only [V.ren]
  conv => rhs; rw [← List.map_id (smap p)]
  exact List.map_congr_left fun q hq => this q hq
attribute [go_sem] smap_snoc smap_get smap_keyT smap_purT smap_ninT smap_ren
end Go.Proofs.YtcongikpaonliaaDoor
