/- The chapter's examples; the laws of places. -/
import Derived.Test.YtcongikpaonliaaDoorPl16
namespace Go.Proofs.YtcongikpaonliaaDoor
open Go Go.RowKit
set_option linter.unusedSimpArgs false
set_option linter.unusedVariables false
set_option linter.deprecated false
def smpV : List V := [.list [[.str [76, 72, 82], .str [76, 79, 78], .str [71, 66], .int .i64 0, .list [] false], [.str [76, 71, 87], .str [76, 79, 78], .str [71, 66], .int .i64 0, .list [] false], [.str [67, 68, 71], .str [80, 65, 82], .str [70, 82], .int .i64 0, .list [] false], [.str [70, 67, 79], .str [82, 79, 77], .str [73, 84], .int .i64 0, .list [] false]] false, .list [[.str [76, 79, 78], .str [80, 65, 82], .int .i64 214], [.str [80, 65, 82], .str [82, 79, 77], .int .i64 688]] false]
theorem smp_at : gOf aUnit fSmp [] = (True, .agg smpV) := gOf_at aUnit_inj () rfl trivial rfl
theorem smp_M : MOk smp := ⟨⟨by decide, by decide⟩, by decide⟩
theorem mi_at1 : gOf aMi fMiles [.agg smpV, .str [76, 71, 87], .str [82, 79, 77]] = (True, .tup [.int .i64 902, .int .i64 0]) := gOf_at aMi_inj (smp, _, _) rfl smp_M (by kernel_rfl)
theorem mi_at2 : gOf aMi fMiles [.agg smpV, .str [76, 79, 78], .str [78, 89, 67]] = (True, .tup [.int .i64 0, .int .i64 14]) := gOf_at aMi_inj (smp, _, _) rfl smp_M (by kernel_rfl)
theorem wy_at : gOf aWay fWay [.agg smpV, .list [[.str [82, 79, 77]], [.str [76, 79, 78]], [.str [80, 65, 82]]] false] = (True, .tup [.int .i64 1116, .int .i64 0]) := gOf_at aWay_inj (smp, [[82, 79, 77], [76, 79, 78], [80, 65, 82]]) rfl ⟨smp_M, by decide⟩ (by kernel_rfl)
theorem fi_at : gOf aPs fFind [.agg smpV, .str [67, 68, 71]] = (True, .tup [.agg [.str [67, 68, 71], .str [80, 65, 82], .str [70, 82], .int .i64 0, .list [] false], .bool true]) := gOf_at aPs_inj (smp, _) rfl smp_M.1 (by kernel_rfl)
theorem ci_at : gOf aPs fCity [.agg smpV, .str [76, 72, 82]] = (True, .str [76, 79, 78]) := gOf_at aPs_inj (smp, _) rfl smp_M.1 (by kernel_rfl)
theorem co_at : gOf aPs fCountry [.agg smpV, .str [82, 79, 77]] = (True, .str [73, 84]) := gOf_at aPs_inj (smp, _) rfl smp_M.1 (by kernel_rfl)
theorem smp_sm : Sm smp := ⟨by decide, by decide, fun a ha => by
  simp only [smp, List.mem_cons, List.not_mem_nil, or_false] at ha
  rcases ha with rfl | rfl | rfl | rfl <;> exact ⟨by decide, by decide, by decide, by constructor <;> decide, by decide, fun z hz => absurd hz List.not_mem_nil⟩⟩
theorem ck_at : gOf aP1 fChk [.agg smpV] = (True, .list [] false) := gOf_at aP1_inj smp rfl smp_sm (by kernel_rfl)
noncomputable def tAw : Tab
  | 24 => (gOf aUnit fSmp)
  | 20 => (gOf aMi fMiles)
  | 22 => (gOf aWay fWay)
  | 13 => (gOf aPs fFind)
  | 16 => (gOf aPs fCity)
  | 18 => (gOf aPs fCountry)
  | 11 => (gOf aP1 fChk)
  | _ => gNo
theorem tAw_ok : ∀ f, PureC Tryd.prog UT f (tAw f) := fun f => by
  unfold tAw
  split
  · exact smp_p
  · exact miles_p
  · exact way_p
  · exact find_p
  · exact city_p
  · exact country_p
  · exact check_p
  · exact PureC.no
set_option maxRecDepth 20000 in
set_option maxHeartbeats 4000000 in
theorem awake_p : PureC Tryd.prog UT 9 (gOf aUnit fTrue) := by
  have hG := tAw_ok
  have e0 := smp_at
  have e1 := mi_at1
  have e2 := wy_at
  have e3 := mi_at2
  have e4 := fi_at
  have e5 := ci_at
  have e6 := co_at
  have e7 := ck_at
  simp only [smpV] at e0 e1 e2 e3 e4 e5 e6 e7
  refine PureC.ofArgs aUnit_inj Tryd.func9 body9 nm9 res9 ?_
  rintro ⟨⟩ hv
  refine ⟨by rw [nt9]; simp [aUnit], fun C hN Q hQ => ?_⟩
  rw [nt9] at hN
  unfold c9
  refine aw_seq (aw_region (EF := EF0) hG (by rw [hN]; exact tr9_0) ?_)
  simp only [a9_0, go_sem, ↓reduceIte, Nat.reduceEqDiff, reduceCtorEq, Nat.reduceAdd, Nat.reduceLT, Nat.reduceLeDiff, Nat.reduceBNe, Nat.reduceBEq, Int.reduceToNat, aUnit]
  refine aw_seq (aw_region (EF := EF0) hG (by rw [hN]; exact tr9_1) ?_)
  simp only [a9_1, go_sem, ↓reduceIte, Nat.reduceEqDiff, reduceCtorEq, Nat.reduceAdd, Nat.reduceLT, Nat.reduceLeDiff, Nat.reduceBNe, Nat.reduceBEq, Int.reduceToNat, tAw, e0, e1]
  (repeat' apply And.intro) <;> (try first | omega | (intros; (repeat' apply And.intro) <;> first | assumption | omega | (simp_all; done)))
  refine aw_seq (aw_region (EF := EF0) hG (by rw [hN]; exact tr9_2) ?_)
  simp only [a9_2, go_sem, ↓reduceIte, Nat.reduceEqDiff, reduceCtorEq, Nat.reduceAdd, Nat.reduceLT, Nat.reduceLeDiff, Nat.reduceBNe, Nat.reduceBEq, Int.reduceToNat, tAw, e0, e2]
  (repeat' apply And.intro) <;> (try first | omega | (intros; (repeat' apply And.intro) <;> first | assumption | omega | (simp_all; done)))
  refine aw_seq (aw_region (EF := EF0) hG (by rw [hN]; exact tr9_3) ?_)
  simp only [a9_3, go_sem, ↓reduceIte, Nat.reduceEqDiff, reduceCtorEq, Nat.reduceAdd, Nat.reduceLT, Nat.reduceLeDiff, Nat.reduceBNe, Nat.reduceBEq, Int.reduceToNat, tAw, e0, e3]
  (repeat' apply And.intro) <;> (try first | omega | (intros; (repeat' apply And.intro) <;> first | assumption | omega | (simp_all; done)))
  refine aw_seq (aw_region (EF := EF0) hG (by rw [hN]; exact tr9_4) ?_)
  simp only [a9_4, go_sem, ↓reduceIte, Nat.reduceEqDiff, reduceCtorEq, Nat.reduceAdd, Nat.reduceLT, Nat.reduceLeDiff, Nat.reduceBNe, Nat.reduceBEq, Int.reduceToNat, tAw, e0, e4]
  (repeat' apply And.intro) <;> (try first | omega | (intros; (repeat' apply And.intro) <;> first | assumption | omega | (simp_all; done)))
  refine aw_seq (aw_region (EF := EF0) hG (by rw [hN]; exact tr9_5) ?_)
  simp (maxSteps := 2000000) only [a9_5, go_sem, ↓reduceIte, Nat.reduceEqDiff, reduceCtorEq, Nat.reduceAdd, Nat.reduceLT, Nat.reduceLeDiff, Nat.reduceBNe, Nat.reduceBEq, Int.reduceToNat, tAw, e0, e5, e6, e7]
  (repeat' apply And.intro) <;> (try first | omega | (intros; (repeat' apply And.intro) <;> first | assumption | omega | (simp_all; done)))
  refine aw_ret ?_
  show Q _ _
  refine hQ _ _ (.inl rfl) ?_ ?_ ?_ <;> simp only [outφ, outV, AR.res, go_sem, ↓reduceIte, Nat.reduceEqDiff, reduceCtorEq, Nat.reduceAdd, Nat.reduceLT, Nat.reduceLeDiff, Nat.reduceBNe, Nat.reduceBEq, Int.reduceToNat, fTrue]
end Go.Proofs.YtcongikpaonliaaDoor
