/- Maps from texts, as lists of pairs. -/
import Derived.Test.YtkdkjbneohdofaaDoorT3
namespace Go.Proofs.YtkdkjbneohdofaaDoor
open Go Go.RowKit
set_option linter.unusedSimpArgs false
set_option linter.unusedVariables false
set_option linter.deprecated false
abbrev Assoc (α : Type) := List (List UInt8 × α)
def aget {α : Type} (L : Assoc α) (k : List UInt8) : Option α := (L.find? fun p => decide (p.1 = k)).map (·.2)
def aput {α : Type} : Assoc α → List UInt8 → α → Assoc α
  | [], k, v => [(k, v)]
  | (k', v') :: L, k, v => if k' = k then (k, v) :: L else (k', v') :: aput L k v
def kmap {α : Type} (f : α → V) (L : Assoc α) : List (Ky × V) := L.map fun p => (.s p.1, f p.2)
theorem aget_nil {α : Type} (k : List UInt8) : aget ([] : Assoc α) k = none := rfl
theorem aget_cons {α : Type} (k' : List UInt8) (v' : α) (L : Assoc α) (k : List UInt8) : aget ((k', v') :: L) k = if k' = k then some v' else aget L k := by
  unfold aget
  rw [List.find?_cons]
  by_cases h : k' = k <;> simp [h]
theorem aget_put {α : Type} (L : Assoc α) (k j : List UInt8) (v : α) : aget (aput L k v) j = if k = j then some v else aget L j := by
  induction L with
  | nil => rw [aput, aget_cons, aget_nil]
  | cons p L ih =>
    obtain ⟨k', v'⟩ := p
    rw [aput]
    by_cases h : k' = k
    · subst h
      rw [if_pos rfl, aget_cons, aget_cons]
      split <;> rfl
    · rw [if_neg h, aget_cons, aget_cons, ih]
      by_cases e : k = j
      · subst e; rw [if_neg h, if_pos rfl, if_pos rfl]
      · rw [if_neg e, if_neg e]
theorem kmap_nil {α : Type} (f : α → V) : kmap f [] = [] := rfl
theorem kmap_put {α : Type} (f : α → V) (L : Assoc α) (k : List UInt8) (v : α) : mput (kmap f L) (.s k) (f v) = kmap f (aput L k v) := by
  induction L with
  | nil => rfl
  | cons p L ih =>
    obtain ⟨k', v'⟩ := p
    show mput ((.s k', f v') :: kmap f L) (.s k) (f v) = _
    rw [mput_cons, aput]
    by_cases h : k' = k
    · subst h; rw [if_pos rfl, if_pos rfl]; rfl
    · rw [if_neg (fun e => h (by injection e)), if_neg h, ih]; rfl
theorem kmap_get {α : Type} (f : α → V) (L : Assoc α) (k : List UInt8) (z : V) : mget (kmap f L) (.s k) z = ((aget L k).map f).getD z := by
  induction L with
  | nil => rfl
  | cons p L ih =>
    obtain ⟨k', v'⟩ := p
    show mget ((.s k', f v') :: kmap f L) (.s k) z = _
    rw [mget_cons, aget_cons]
    by_cases h : k' = k
    · subst h; rw [if_pos rfl, if_pos rfl]; rfl
    · rw [if_neg (fun e => h (by injection e)), if_neg h, ih]
theorem kmap_has {α : Type} (f : α → V) (L : Assoc α) (k : List UInt8) : mhas (kmap f L) (.s k) = (aget L k).isSome := by
  induction L with
  | nil => rfl
  | cons p L ih =>
    obtain ⟨k', v'⟩ := p
    show mhas ((.s k', f v') :: kmap f L) (.s k) = _
    rw [mhas_cons, aget_cons, ih]
    by_cases h : k' = k
    · subst h; simp
    · rw [if_neg h, decide_eq_false (fun e => h (by injection e)), Bool.false_or]
theorem kmap_key {α : Type} (f : α → V) (L : Assoc α) : (∀ q ∈ kmap f L, q.1.kd = 0) ↔ True := iff_true_intro fun q hq => by
  obtain ⟨p, _, rfl⟩ := List.mem_map.1 hq; rfl
/-- Values of texts, of numbers, of truths. -/
def fS8 (s : List UInt8) : V := .str s
def fI8 (n : Int) : V := .int .i64 n
def fB8 (b : Bool) : V := .bool b
theorem kmap_purS (L : Assoc (List UInt8)) : (∀ q ∈ kmap fS8 L, q.2.pur = true) ↔ True := iff_true_intro fun q hq => by obtain ⟨p, _, rfl⟩ := List.mem_map.1 hq; rfl
theorem kmap_purI (L : Assoc Int) : (∀ q ∈ kmap fI8 L, q.2.pur = true) ↔ True := iff_true_intro fun q hq => by obtain ⟨p, _, rfl⟩ := List.mem_map.1 hq; rfl
theorem kmap_purB (L : Assoc Bool) : (∀ q ∈ kmap fB8 L, q.2.pur = true) ↔ True := iff_true_intro fun q hq => by obtain ⟨p, _, rfl⟩ := List.mem_map.1 hq; rfl
theorem kmap_ninS (d : List Nat) (L : Assoc (List UInt8)) : (∀ q ∈ kmap fS8 L, q.2.nin d = true) ↔ True := iff_true_intro fun q hq => by obtain ⟨p, _, rfl⟩ := List.mem_map.1 hq; simp only [fS8, V.nin]
theorem kmap_ninI (d : List Nat) (L : Assoc Int) : (∀ q ∈ kmap fI8 L, q.2.nin d = true) ↔ True := iff_true_intro fun q hq => by obtain ⟨p, _, rfl⟩ := List.mem_map.1 hq; simp only [fI8, V.nin]
theorem kmap_ninB (d : List Nat) (L : Assoc Bool) : (∀ q ∈ kmap fB8 L, q.2.nin d = true) ↔ True := iff_true_intro fun q hq => by obtain ⟨p, _, rfl⟩ := List.mem_map.1 hq; simp only [fB8, V.nin]
theorem kmap_renS (σ : Nat → Nat) (L : Assoc (List UInt8)) : (kmap fS8 L).map (fun q => (q.1, q.2.ren σ)) = kmap fS8 L := by
  unfold kmap; rw [List.map_map]; exact List.map_congr_left fun p _ => by simp only [Function.comp_apply, fS8, V.ren]
theorem kmap_renI (σ : Nat → Nat) (L : Assoc Int) : (kmap fI8 L).map (fun q => (q.1, q.2.ren σ)) = kmap fI8 L := by
  unfold kmap; rw [List.map_map]; exact List.map_congr_left fun p _ => by simp only [Function.comp_apply, fI8, V.ren]
theorem kmap_renB (σ : Nat → Nat) (L : Assoc Bool) : (kmap fB8 L).map (fun q => (q.1, q.2.ren σ)) = kmap fB8 L := by
  unfold kmap; rw [List.map_map]; exact List.map_congr_left fun p _ => by simp only [Function.comp_apply, fB8, V.ren]
theorem putS (L : Assoc (List UInt8)) (k v : List UInt8) : mput (kmap fS8 L) (.s k) (.str v) = kmap fS8 (aput L k v) := kmap_put fS8 L k v
theorem putI (L : Assoc Int) (k : List UInt8) (v : Int) : mput (kmap fI8 L) (.s k) (.int .i64 v) = kmap fI8 (aput L k v) := kmap_put fI8 L k v
theorem putB (L : Assoc Bool) (k : List UInt8) (v : Bool) : mput (kmap fB8 L) (.s k) (.bool v) = kmap fB8 (aput L k v) := kmap_put fB8 L k v
theorem getS (L : Assoc (List UInt8)) (k z : List UInt8) : mget (kmap fS8 L) (.s k) (.str z) = .str ((aget L k).getD z) := by rw [kmap_get]; cases aget L k <;> rfl
theorem getI (L : Assoc Int) (k : List UInt8) (z : Int) : mget (kmap fI8 L) (.s k) (.int .i64 z) = .int .i64 ((aget L k).getD z) := by rw [kmap_get]; cases aget L k <;> rfl
theorem getB (L : Assoc Bool) (k : List UInt8) (z : Bool) : mget (kmap fB8 L) (.s k) (.bool z) = .bool ((aget L k).getD z) := by rw [kmap_get]; cases aget L k <;> rfl
attribute [go_sem] kmap_key kmap_purS kmap_purI kmap_purB kmap_ninS kmap_ninI kmap_ninB kmap_renS kmap_renI kmap_renB putS putI putB getS getI getB kmap_has
end Go.Proofs.YtkdkjbneohdofaaDoor
