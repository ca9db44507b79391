/- reach and relax: they write what they are handed. -/
import Derived.Test.YtfjgnfgadkajnaaPl4
namespace Go.Proofs.Ytfjgnfgadkajnaa
open Go Go.RowKit
set_option linter.unusedSimpArgs false
set_option linter.unusedVariables false
set_option linter.deprecated false
end Go.Proofs.Ytfjgnfgadkajnaa
/- relax, the program's closure. -/
namespace Go.Proofs.Ytfjgnfgadkajnaa
open Go Go.RowKit
set_option linter.unusedSimpArgs false
set_option linter.unusedVariables false
set_option linter.deprecated false
def relaxR (L : Assoc Int) (x y : List UInt8) (n : Int) : Assoc Int × Bool := match aget L x with
  | none => (L, false)
  | some m => match aget L y with
    | some old => if old ≤ m + n then (L, false) else (aput L y (m + n), true)
    | none => (aput L y (m + n), true)
def stopB (L : Assoc Int) (x y : List UInt8) (n : Int) : Bool := !(aget L x).isSome || ((aget L y).isSome && decide ((aget L y).getD 0 ≤ (aget L x).getD 0 + n))
theorem relax_no {L : Assoc Int} {x y : List UInt8} {n : Int} (h : stopB L x y n = true) : relaxR L x y n = (L, false) := by
  unfold stopB at h; unfold relaxR
  cases hx : aget L x with
  | none => rfl
  | some m =>
    cases hy : aget L y with
    | none => rw [hx, hy] at h; cases h
    | some old =>
      rw [hx, hy] at h
      have : old ≤ m + n := by simpa using h
      dsimp only
      rw [if_pos this]
theorem relax_yes {L : Assoc Int} {x y : List UInt8} {n : Int} (h : stopB L x y n = false) : relaxR L x y n = (aput L y ((aget L x).getD 0 + n), true) := by
  unfold stopB at h; unfold relaxR
  cases hx : aget L x with
  | none => rw [hx] at h; cases h
  | some m =>
    cases hy : aget L y with
    | none => rfl
    | some old =>
      rw [hx, hy] at h
      have : ¬ old ≤ m + n := by simpa using h
      dsimp only
      rw [if_neg this]; rfl
def mpO (nb nm : Nat) (L : Assoc Int) : List (Nat × Ob) := [(nb, .box 111 [.map nm]), (nm, .mp (kmap fI8 L))]
theorem aget_mem {L : Assoc Int} {k : List UInt8} {v : Int} (h : aget L k = some v) : (k, v) ∈ L := by
  unfold aget at h
  obtain ⟨p, hp, rfl⟩ := Option.map_eq_some_iff.1 h
  have h1 := List.mem_of_find?_eq_some hp
  have h2 : p.1 = k := by simpa using List.find?_some hp
  rw [← h2]; exact h1
theorem aget_bd {L : Assoc Int} (h : ∀ p ∈ L, 0 ≤ p.2 ∧ p.2 ≤ 1000000000) (k : List UInt8) : 0 ≤ (aget L k).getD 0 ∧ (aget L k).getD 0 ≤ 1000000000 := by
  cases e : aget L k with
  | none => simp
  | some v => exact h _ (aget_mem e)
set_option maxHeartbeats 2000000 in
theorem relax_e (L : Assoc Int) (x y : List UInt8) (n : Int) (hL : ∀ p ∈ L, 0 ≤ p.2 ∧ p.2 ≤ 1000000000) (hn : 0 ≤ n ∧ n ≤ 1000000) : Eff Try.prog UT 44 [.str x, .str y, .int .i64 n, .ptr 1000 0] (mpO 1000 1001 L) (.bool (relaxR L x y n).2) (mpO 1000 1001 (relaxR L x y n).1) := by
  have hG := tNo_ok
  generalize hR : relaxR L x y n = R
  have hx := aget_bd hL x
  have hy := aget_bd hL y
  refine Eff.of_aw Try.func44 body44 nm44 res44 (by rw [nt44]; simp) fun C hN Q hQ => ?_
  rw [nt44] at hN
  unfold c44
  refine aw_seq (aw_region (EF := EF0) hG (by rw [hN]; exact tr44_0) ?_)
  simp only [a44_0, go_sem, ↓reduceIte, Nat.reduceEqDiff, reduceCtorEq, Nat.reduceAdd, Nat.reduceLT, Nat.reduceLeDiff, Nat.reduceBNe, Nat.reduceBEq, Int.reduceToNat, mpO]
  refine aw_seq (aw_region (EF := EF0) hG (by rw [hN]; exact tr44_1) ?_)
  simp only [a44_1, go_sem, ↓reduceIte, Nat.reduceEqDiff, reduceCtorEq, Nat.reduceAdd, Nat.reduceLT, Nat.reduceLeDiff, Nat.reduceBNe, Nat.reduceBEq, Int.reduceToNat, mpO]
  (repeat' apply And.intro) <;> (try first | omega | ((fail_if_success refine idW ?_); (fail_if_success refine idS ?_); intros; (repeat' apply And.intro) <;> first | assumption | omega | (simp_all; done)))
  refine aw_seq (aw_region (EF := EF0) hG (by rw [hN]; exact tr44_2) ?_)
  simp only [a44_2, go_sem, ↓reduceIte, Nat.reduceEqDiff, reduceCtorEq, Nat.reduceAdd, Nat.reduceLT, Nat.reduceLeDiff, Nat.reduceBNe, Nat.reduceBEq, Int.reduceToNat, mpO]
  (repeat' apply And.intro) <;> (try first | omega | ((fail_if_success refine idW ?_); (fail_if_success refine idS ?_); intros; (repeat' apply And.intro) <;> first | assumption | omega | (simp_all; done)))
  refine aw_seq ?_
  refine aw_seq (aw_region (EF := EF0) hG (by rw [hN]; exact tr44_3) ?_)
  simp only [a44_3, go_sem, ↓reduceIte, Nat.reduceEqDiff, reduceCtorEq, Nat.reduceAdd, Nat.reduceLT, Nat.reduceLeDiff, Nat.reduceBNe, Nat.reduceBEq, Int.reduceToNat, inI, mpO]
  (repeat' apply And.intro) <;> (try first | omega | ((fail_if_success refine idW ?_); (fail_if_success refine idS ?_); intros; (repeat' apply And.intro) <;> first | assumption | omega | (simp_all; done)))
  refine aw_cond (b := _) rfl (fun hb => ?_) (fun hb => ?_)
  · skip
    refine aw_seq (aw_region (EF := EF0) hG (by rw [hN]; exact tr44_4) ?_)
    simp only [a44_4, go_sem, ↓reduceIte, Nat.reduceEqDiff, reduceCtorEq, Nat.reduceAdd, Nat.reduceLT, Nat.reduceLeDiff, Nat.reduceBNe, Nat.reduceBEq, Int.reduceToNat, mpO]
    have hfin : R = (L, false) := by rw [← hR]; exact relax_no hb
    subst hfin
    refine aw_ret ?_
    show Q _ _
    refine hQ _ _ ⟨mkE [(7, .bool false)], mkH (mpO 1000 1001 L)⟩ (.inl rfl) (Le.mk _ _ ?_ ?_ rfl) rfl ?_ ?_ <;> simp only [outφ, outV, AR.res, go_sem, ↓reduceIte, Nat.reduceEqDiff, reduceCtorEq, Nat.reduceAdd, Nat.reduceLT, Nat.reduceLeDiff, Nat.reduceBNe, Nat.reduceBEq, Int.reduceToNat, mpO]
  · skip
    refine aw_skip ?_
    try simp only [go_sem, ↓reduceIte, Nat.reduceEqDiff, reduceCtorEq, Nat.reduceAdd, Nat.reduceLT, Nat.reduceLeDiff, Nat.reduceBNe, Nat.reduceBEq, Int.reduceToNat]
    refine aw_seq (aw_region (EF := EF0) hG (by rw [hN]; exact tr44_5) ?_)
    simp only [a44_5, go_sem, ↓reduceIte, Nat.reduceEqDiff, reduceCtorEq, Nat.reduceAdd, Nat.reduceLT, Nat.reduceLeDiff, Nat.reduceBNe, Nat.reduceBEq, Int.reduceToNat, inI, mpO]
    (repeat' apply And.intro) <;> (try first | omega | ((fail_if_success refine idW ?_); (fail_if_success refine idS ?_); intros; (repeat' apply And.intro) <;> first | assumption | omega | (simp_all; done)))
    refine aw_seq (aw_region (EF := EF0) hG (by rw [hN]; exact tr44_6) ?_)
    simp only [a44_6, go_sem, ↓reduceIte, Nat.reduceEqDiff, reduceCtorEq, Nat.reduceAdd, Nat.reduceLT, Nat.reduceLeDiff, Nat.reduceBNe, Nat.reduceBEq, Int.reduceToNat, mpO]
    have hfin : R = (aput L y ((aget L x).getD 0 + n), true) := by rw [← hR]; exact relax_yes hb
    subst hfin
    refine aw_ret ?_
    show Q _ _
    refine hQ _ _ ⟨mkE [(7, .bool true)], mkH (mpO 1000 1001 (aput L y ((aget L x).getD 0 + n)))⟩ (.inl rfl) (Le.mk _ _ ?_ ?_ rfl) rfl ?_ ?_ <;> simp only [outφ, outV, AR.res, go_sem, ↓reduceIte, Nat.reduceEqDiff, reduceCtorEq, Nat.reduceAdd, Nat.reduceLT, Nat.reduceLeDiff, Nat.reduceBNe, Nat.reduceBEq, Int.reduceToNat, mpO]
end Go.Proofs.Ytfjgnfgadkajnaa
/- One distance, as the program and as the reference use it. -/
namespace Go.Proofs.Ytfjgnfgadkajnaa
open Go Go.RowKit
set_option linter.unusedSimpArgs false
set_option linter.unusedVariables false
set_option linter.deprecated false
def stepP (L : Assoc Int) (f t : List UInt8) (n : Int) : Assoc Int × Bool := ((relaxR (relaxR L f t n).1 t f n).1, (relaxR L f t n).2 || (relaxR (relaxR L f t n).1 t f n).2)
end Go.Proofs.Ytfjgnfgadkajnaa
