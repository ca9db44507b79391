/- Faults, as every chapter's Check reports them; paths; SameFaults. -/
import Derived.Test.YtkdkjbneohdofaaDoorT1
namespace Go.Proofs.YtkdkjbneohdofaaDoor
open Go Go.RowKit
set_option linter.unusedSimpArgs false
set_option linter.unusedVariables false
set_option linter.deprecated false
structure Fault where
  err : Int
  pos : List UInt8
def Fault.enc (f : Fault) : List V := [.int .i64 f.err, .str f.pos]
def fIf (b : Bool) (e : Int) (pos : List UInt8) : List Fault := if b then [⟨e, pos⟩] else []
/-- A path with an index added. -/
def at1 (path word : List UInt8) (i : Nat) : List UInt8 := (if path = [] then [] else path ++ [32]) ++ word ++ [32] ++ dec i
theorem dec_lenN {i : Nat} (h : i ≤ 1000000) : (dec (i : Int)).length ≤ 21 := dec_len ⟨by omega, by omega⟩
theorem getD_lt {α : Type} (l : List α) (k : Nat) (d : α) (h : k < l.length) : l.getD k d = l[k] := by
  rw [List.getD_eq_getElem?_getD, List.getElem?_eq_getElem h]; rfl
def faults (l : List Fault) : List (List V) := l.map Fault.enc
theorem faults_len (l : List Fault) : (faults l).length = l.length := List.length_map _
theorem faults_pur (l : List Fault) : ∀ r ∈ faults l, V.purs r = true := by
  intro r hr
  obtain ⟨n, _, rfl⟩ := List.mem_map.1 hr
  rfl
theorem faults_purT (l : List Fault) : (∀ r ∈ faults l, V.purs r = true) ↔ True := iff_true_intro (faults_pur l)
theorem faults_snoc (l : List Fault) (e : Int) (p : List UInt8) : faults l ++ [[.int .i64 e, .str p]] = faults (l ++ [⟨e, p⟩]) := by unfold faults; rw [List.map_append]; rfl
theorem faults_app (l r : List Fault) : faults l ++ faults r = faults (l ++ r) := by unfold faults; rw [List.map_append]
theorem faults_two (l : List Fault) : ∀ r ∈ faults l, r.length = 2 := by
  intro r hr
  obtain ⟨n, _, rfl⟩ := List.mem_map.1 hr
  rfl
theorem faults_twoT (l : List Fault) : (∀ r ∈ faults l, r.length = 2) ↔ True := iff_true_intro (faults_two l)
theorem faults_nil : faults [] = [] := rfl
attribute [go_sem] faults_len faults_purT faults_snoc faults_app faults_twoT
theorem fIf_t {b : Bool} {e : Int} {p : List UInt8} (h : b = true) : fIf b e p = [⟨e, p⟩] := by rw [h]; rfl
theorem fIf_f {b : Bool} {e : Int} {p : List UInt8} (h : b = false) : fIf b e p = [] := by rw [h]; rfl
theorem fIf_len (b : Bool) (e : Int) (p : List UInt8) : (fIf b e p).length ≤ 1 := by unfold fIf; split <;> simp
theorem at1_len (p w : List UInt8) {i : Nat} (h : i ≤ 1000000) : (at1 p w i).length ≤ p.length + w.length + 30 := by
  have := dec_lenN h
  unfold at1
  split <;> simp only [List.length_append, List.length_cons, List.length_nil] <;> omega
theorem getD_mem {α : Type} (l : List α) (k : Nat) (d : α) (P : α → Prop) (hd : P d) (h : ∀ x ∈ l, P x) : P (l.getD k d) := by
  by_cases hk : k < l.length
  · rw [getD_lt l k d hk]; exact h _ (List.getElem_mem hk)
  · rw [List.getD_eq_getElem?_getD, List.getElem?_eq_none (by omega)]; exact hd
theorem take_all {α : Type} {p : α → Prop} {l : List α} {i : Nat} (hi : i < l.length) (hp : ∀ c ∈ l.take i, p c) (h : p l[i]) : ∀ c ∈ l.take (i + 1), p c := by
  intro c hc
  rw [List.take_succ_eq_append_getElem hi, List.mem_append, List.mem_singleton] at hc
  rcases hc with hc | rfl
  · exact hp c hc
  · exact h
theorem Fault.inj (a b : Fault) (h : a.enc = b.enc) : a = b := by
  cases a; cases b
  simp only [Fault.enc, List.cons.injEq, V.int.injEq, V.str.injEq, and_true, true_and] at h
  obtain ⟨rfl, rfl⟩ := h; rfl
theorem faults_at {l : List Fault} {i : Nat} {d : List V} (h : i < l.length) : (faults l).getD i d = [.int .i64 l[i].err, .str l[i].pos] := by
  unfold faults; rw [List.getD_eq_getElem?_getD, List.getElem?_map, List.getElem?_eq_getElem h]; rfl
def aSameF (x : List Fault × List Fault) : List V := [.list (faults x.1) false, .list (faults x.2) false]
theorem aSameF_inj (a b : List Fault × List Fault) (h : aSameF a = aSameF b) : a = b := by
  cases a; cases b
  simp only [aSameF, faults, List.cons.injEq, V.list.injEq, and_true] at h
  rw [map_inj' Fault.inj h.1, map_inj' Fault.inj h.2]
/-- Of two equal lists. -/
def fSameF (x : List Fault × List Fault) : Prop × V := (x.1.length ≤ 140737488355328 ∧ x.1 = x.2, .bool true)
theorem fSameF_eq (a b : List Fault) : gOf aSameF fSameF [.list (faults a) false, .list (faults b) false] = (a.length ≤ 140737488355328 ∧ a = b, .bool true) := gOf_eq aSameF_inj (a, b)
end Go.Proofs.YtkdkjbneohdofaaDoor
