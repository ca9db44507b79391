/- Faults, as every chapter's Check reports them; paths; SameFaults. -/
import Derived.Test.YtfjgnfgadkajnaaGreatT1
namespace Go.Proofs.YtfjgnfgadkajnaaGreat
open Go Go.RowKit
set_option linter.unusedSimpArgs false
set_option linter.unusedVariables false
set_option linter.deprecated false
structure Fault where
  err : Int
  pos : List UInt8
def Fault.enc (f : Fault) : List V := [.int .i64 f.err, .str f.pos]
theorem dec_lenN {i : Nat} (h : i ≤ 1000000) : (dec (i : Int)).length ≤ 21 := dec_len ⟨by omega, by omega⟩
theorem getD_lt {α : Type} (l : List α) (k : Nat) (d : α) (h : k < l.length) : l.getD k d = l[k] := by
  rw [List.getD_eq_getElem?_getD, List.getElem?_eq_getElem h]; rfl
def faults (l : List Fault) : List (List V) := l.map Fault.enc
theorem faults_len (l : List Fault) : (faults l).length = l.length := List.length_map _
theorem faults_pur (l : List Fault) : ∀ r ∈ faults l, V.purs r = true := by
  intro r hr
  obtain ⟨n, _, rfl⟩ := List.mem_map.1 hr
  rfl
theorem faults_purT (l : List Fault) : (∀ r ∈ faults l, V.purs r = true) ↔ True := iff_true_intro (faults_pur l)
theorem faults_snoc (l : List Fault) (e : Int) (p : List UInt8) : faults l ++ [[.int .i64 e, .str p]] = faults (l ++ [⟨e, p⟩]) := by unfold faults; rw [List.map_append]; rfl
theorem faults_app (l r : List Fault) : faults l ++ faults r = faults (l ++ r) := by unfold faults; rw [List.map_append]
theorem faults_two (l : List Fault) : ∀ r ∈ faults l, r.length = 2 := by
  intro r hr
  obtain ⟨n, _, rfl⟩ := List.mem_map.1 hr
  rfl
theorem faults_twoT (l : List Fault) : (∀ r ∈ faults l, r.length = 2) ↔ True := iff_true_intro (faults_two l)
attribute [go_sem] faults_len faults_purT faults_snoc faults_app faults_twoT
theorem take_all {α : Type} {p : α → Prop} {l : List α} {i : Nat} (hi : i < l.length) (hp : ∀ c ∈ l.take i, p c) (h : p l[i]) : ∀ c ∈ l.take (i + 1), p c := by
  intro c hc
  rw [List.take_succ_eq_append_getElem hi, List.mem_append, List.mem_singleton] at hc
  rcases hc with hc | rfl
  · exact hp c hc
  · exact h
theorem Fault.inj (a b : Fault) (h : a.enc = b.enc) : a = b := by
  cases a; cases b
  simp only [Fault.enc, List.cons.injEq, V.int.injEq, V.str.injEq, and_true, true_and] at h
  obtain ⟨rfl, rfl⟩ := h; rfl
end Go.Proofs.YtfjgnfgadkajnaaGreat
