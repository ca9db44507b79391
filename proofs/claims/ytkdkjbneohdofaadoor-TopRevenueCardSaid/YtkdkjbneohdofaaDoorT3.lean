/- Lists of texts and of numbers, as abstract values; a function at given data. -/
import Derived.Test.YtkdkjbneohdofaaDoorT2
namespace Go.Proofs.YtkdkjbneohdofaaDoor
open Go Go.RowKit
set_option linter.unusedSimpArgs false
set_option linter.unusedVariables false
set_option linter.deprecated false
def strs (l : List (List UInt8)) : List (List V) := l.map fun s => [.str s]
theorem strs_len (l : List (List UInt8)) : (strs l).length = l.length := List.length_map _
theorem strs_getD (l : List (List UInt8)) (i : Nat) (d : List V) (h : i < l.length) : (strs l).getD i d = [.str l[i]] := by
  unfold strs
  rw [List.getD_eq_getElem?_getD, List.getElem?_map, List.getElem?_eq_getElem h]; rfl
theorem strs_take (l : List (List UInt8)) (i : Nat) : (strs l).take i = strs (l.take i) := by unfold strs; rw [List.map_take]
theorem strs_drop (l : List (List UInt8)) (i : Nat) : (strs l).drop i = strs (l.drop i) := by unfold strs; rw [List.map_drop]
theorem strs_snoc (l : List (List UInt8)) (v : List UInt8) : strs l ++ [[.str v]] = strs (l ++ [v]) := by unfold strs; rw [List.map_append]; rfl
theorem strs_app (l r : List (List UInt8)) : strs l ++ strs r = strs (l ++ r) := by unfold strs; rw [List.map_append]
theorem strs_pur (l : List (List UInt8)) : ∀ r ∈ strs l, V.purs r = true := by
  intro r hr
  obtain ⟨n, _, rfl⟩ := List.mem_map.1 hr
  rfl
theorem strs_purT (l : List (List UInt8)) : (∀ r ∈ strs l, V.purs r = true) ↔ True := iff_true_intro (strs_pur l)
theorem strs_one (l : List (List UInt8)) : ∀ r ∈ strs l, r.length = 1 := by
  intro r hr
  obtain ⟨n, _, rfl⟩ := List.mem_map.1 hr
  rfl
theorem strs_oneT (l : List (List UInt8)) : (∀ r ∈ strs l, r.length = 1) ↔ True := iff_true_intro (strs_one l)
theorem strs_inj {l r : List (List UInt8)} (h : strs l = strs r) : l = r := map_inj' (fun a b h => by simpa using h) h
theorem strs_nil : strs [] = [] := rfl
def ints (l : List Int) : List (List V) := l.map fun n => [.int .i64 n]
theorem ints_len (l : List Int) : (ints l).length = l.length := List.length_map _
theorem ints_getD (l : List Int) (i : Nat) (d : List V) (h : i < l.length) : (ints l).getD i d = [.int .i64 l[i]] := by
  unfold ints
  rw [List.getD_eq_getElem?_getD, List.getElem?_map, List.getElem?_eq_getElem h]; rfl
theorem ints_set (l : List Int) (i : Nat) (v : Int) : (ints l).set i [.int .i64 v] = ints (l.set i v) := by unfold ints; rw [List.map_set]
theorem ints_take (l : List Int) (i : Nat) : (ints l).take i = ints (l.take i) := by unfold ints; rw [List.map_take]
theorem ints_drop (l : List Int) (i : Nat) : (ints l).drop i = ints (l.drop i) := by unfold ints; rw [List.map_drop]
theorem ints_snoc (l : List Int) (v : Int) : ints l ++ [[.int .i64 v]] = ints (l ++ [v]) := by unfold ints; rw [List.map_append]; rfl
theorem ints_app (l r : List Int) : ints l ++ ints r = ints (l ++ r) := by unfold ints; rw [List.map_append]
theorem ints_pur (l : List Int) : ∀ r ∈ ints l, V.purs r = true := by
  intro r hr
  obtain ⟨n, _, rfl⟩ := List.mem_map.1 hr
  rfl
theorem ints_purT (l : List Int) : (∀ r ∈ ints l, V.purs r = true) ↔ True := iff_true_intro (ints_pur l)
theorem ints_one (l : List Int) : ∀ r ∈ ints l, r.length = 1 := by
  intro r hr
  obtain ⟨n, _, rfl⟩ := List.mem_map.1 hr
  rfl
theorem ints_oneT (l : List Int) : (∀ r ∈ ints l, r.length = 1) ↔ True := iff_true_intro (ints_one l)
theorem ints_inj {l r : List Int} (h : ints l = ints r) : l = r := map_inj' (fun a b h => by simpa using h) h
theorem ints_zero (n : Nat) : List.replicate n [V.int .i64 0] = ints (List.replicate n 0) := by unfold ints; rw [List.map_replicate]
theorem ints_nil : ints [] = [] := rfl
attribute [go_sem] strs_len strs_purT strs_oneT ints_len ints_purT ints_oneT
theorem purs_snoc (a : List (List V)) (r : List V) : (∀ x ∈ a ++ [r], V.purs x = true) ↔ (∀ x ∈ a, V.purs x = true) ∧ V.purs r = true := by
  simp only [List.forall_mem_append, List.mem_singleton, forall_eq]
theorem lens_snoc (a : List (List V)) (r : List V) (n : Nat) : (∀ x ∈ a ++ [r], x.length = n) ↔ (∀ x ∈ a, x.length = n) ∧ r.length = n := by
  simp only [List.forall_mem_append, List.mem_singleton, forall_eq]
attribute [go_sem] purs_snoc lens_snoc
theorem gOf_at {α : Type} {args : α → List V} {F : α → Prop × V} (inj : ∀ a b, args a = args b → a = b) (a : α) {vs : List V} {v : V} (h : args a = vs) (hp : (F a).1) (hv : (F a).2 = v) : gOf args F vs = (True, v) := by
  subst h hv
  rw [gOf_eq inj]
  exact Prod.ext (propext ⟨fun _ => trivial, fun _ => hp⟩) rfl
theorem getD_mapd {α : Type} (f : α → List V) (l : List α) (i : Nat) (d : List V) (h : i < l.length) : (l.map f).getD i d = f l[i] := by
  rw [List.getD_eq_getElem?_getD, List.getElem?_map, List.getElem?_eq_getElem h]; rfl
theorem take_set {α : Type} (xs : List α) (i : Nat) (v : α) (h : i < xs.length) : (xs.set i v).take (i + 1) = xs.take i ++ [v] := by
  rw [List.take_succ_eq_append_getElem (by simpa using h), List.take_set, List.set_eq_of_length_le (by simp; omega)]
  simp
theorem small_inI {p : Int} (h2 : -1000000 ≤ p ∧ p ≤ 1000000) : inI p := ⟨by omega, by omega⟩
theorem take_succ' {α : Type} {l : List α} {i : Nat} (h : i < l.length) : l.take (i + 1) = l.take i ++ [l[i]] := List.take_succ_eq_append_getElem h
def fTrue {α : Type} (_ : α) : Prop × V := (True, .bool true)
def aUnit (_ : Unit) : List V := []
theorem aUnit_inj (a b : Unit) (_ : aUnit a = aUnit b) : a = b := rfl
theorem fTrue_eq : gOf aUnit fTrue [] = (True, .bool true) := gOf_eq aUnit_inj ()
theorem cnt_t {α : Type} {p : α → Bool} {l : List α} {k : Nat} (h : k < l.length) (hp : p l[k] = true) : ((l.take (k + 1)).filter p).length = ((l.take k).filter p).length + 1 := by
  rw [take_succ' h, List.filter_append, List.filter_cons_of_pos hp, List.length_append]; rfl
theorem cnt_f {α : Type} {p : α → Bool} {l : List α} {k : Nat} (h : k < l.length) (hp : p l[k] = false) : ((l.take (k + 1)).filter p).length = ((l.take k).filter p).length := by
  rw [take_succ' h, List.filter_append, List.filter_cons_of_neg (by rw [hp]; decide), List.length_append]; rfl
theorem sum_step {α : Type} (f : α → Nat) {l : List α} {k : Nat} (h : k < l.length) : ((l.take (k + 1)).map f).sum = ((l.take k).map f).sum + f l[k] := by
  rw [take_succ' h, List.map_append, List.sum_append]; simp
/-- A specification of a loop that ends early: no element ahead of this has the property. -/
theorem any_at {α : Type} {p : α → Bool} {l : List α} {i : Nat} (h : i < l.length) (hp : p l[i] = true) : l.any p = true := List.any_eq_true.2 ⟨_, List.getElem_mem h, hp⟩
theorem any_no {α : Type} {p : α → Bool} {l : List α} {i : Nat} (h : l.length ≤ i) (hp : ∀ x ∈ l.take i, p x = false) : l.any p = false := by
  rw [List.take_of_length_le h] at hp
  rw [List.any_eq_false]
  intro x hx
  rw [hp x hx]; decide
theorem none_at {α : Type} {l : List α} {i : Nat} (h : l.length ≤ i) {P : α → Prop} (hp : ∀ x ∈ l.take i, P x) : ∀ x ∈ l, P x := by rwa [List.take_of_length_le h] at hp
end Go.Proofs.YtkdkjbneohdofaaDoor
