/- The chapter's examples. -/
import Derived.Test.YtailckanpheciaaDoorTx9
namespace Go.Proofs.YtailckanpheciaaDoor
open Go Go.RowKit
set_option linter.unusedSimpArgs false
set_option linter.unusedVariables false
set_option linter.deprecated false
def sGB : List UInt8 := [71, 66]
def sFR : List UInt8 := [70, 82]
def smT : Places := ⟨[⟨[76, 72, 82], [76, 79, 78], [71, 66], ⟨0, []⟩⟩, ⟨[77, 65, 78], [77, 65, 78], [71, 66], ⟨0, []⟩⟩, ⟨[67, 68, 71], [80, 65, 82], [70, 82], ⟨0, []⟩⟩], []⟩
def smV : List V := [.list [[.str [76, 72, 82], .str [76, 79, 78], .str [71, 66], .int .i64 0, .list [] false], [.str [77, 65, 78], .str [77, 65, 78], .str [71, 66], .int .i64 0, .list [] false], [.str [67, 68, 71], .str [80, 65, 82], .str [70, 82], .int .i64 0, .list [] false]] false, .list [] false]
def fSmT (_ : Unit) : Prop × V := (True, .agg smV)
theorem smT_p : PureC Tryd.prog UT 30 (gOf aUnit fSmT) := by
  have hG := tNo_ok
  refine PureC.ofArgs aUnit_inj Tryd.func30 body30 nm30 res30 ?_
  rintro ⟨⟩ hv
  refine ⟨by rw [nt30]; simp [aUnit], fun C hN Q hQ => ?_⟩
  rw [nt30] at hN
  unfold c30
  refine aw_seq (aw_region (EF := EF0) hG (by rw [hN]; exact tr30_0) ?_)
  simp only [a30_0, go_sem, ↓reduceIte, Nat.reduceEqDiff, reduceCtorEq, Nat.reduceAdd, Nat.reduceLT, Nat.reduceLeDiff, Nat.reduceBNe, Nat.reduceBEq, Int.reduceToNat, aUnit]
  refine aw_seq (aw_region (EF := EF0) hG (by rw [hN]; exact tr30_1) ?_)
  simp only [a30_1, go_sem, ↓reduceIte, Nat.reduceEqDiff, reduceCtorEq, Nat.reduceAdd, Nat.reduceLT, Nat.reduceLeDiff, Nat.reduceBNe, Nat.reduceBEq, Int.reduceToNat]
  refine AW.le (s' := ⟨mkE [(0, .ptr 0 0)], mkH [(0, .box 31 smV)]⟩) (Le.mk _ _ ?_ ?_ rfl) (aw_ret (hQ _ _ (.inl rfl) ?_ ?_ ?_)) <;> simp only [outφ, outV, AR.res, go_sem, ↓reduceIte, Nat.reduceEqDiff, reduceCtorEq, Nat.reduceAdd, Nat.reduceLT, Nat.reduceLeDiff, Nat.reduceBNe, Nat.reduceBEq, Int.reduceToNat, fSmT, smV]
theorem sm_at : gOf aUnit fSmT [] = (True, .agg smV) := gOf_at aUnit_inj () rfl trivial rfl
def s27 : List Seg := [⟨[66, 65], 1, 0, [76, 72, 82], [77, 65, 78], 100, 160⟩, ⟨[66, 65], 2, 0, [77, 65, 78], [67, 68, 71], 280, 380⟩]
def s27V : V := .list [[.str [66, 65], .int .i64 1, .int .i64 0, .str [76, 72, 82], .str [77, 65, 78], .int .i64 100, .int .i64 160], [.str [66, 65], .int .i64 2, .int .i64 0, .str [77, 65, 78], .str [67, 68, 71], .int .i64 280, .int .i64 380]] false
def x27 : Tax := ⟨sGB, 1, sGB, 1300, 0, 240, []⟩
def y27 : Tax := ⟨sGB, 1, sGB, 1300, 0, 60, []⟩
def z27 : Tax := ⟨sFR, 4, sFR, 250, 0, 0, []⟩
def w27 : Tax := ⟨sGB, 5, [103, 98], 0, 0, 0, []⟩
theorem s27_ok : ∀ s ∈ s27, SegOk s := by
  intro s hs
  simp only [s27, List.mem_cons, List.not_mem_nil, or_false] at hs
  rcases hs with rfl | rfl <;> (unfold SegOk; decide)
theorem smT_len : LenP smT := ⟨by decide, by decide⟩
theorem x27_ok : x27.ok := by simp [x27, sGB, Tax.ok, inI]
theorem z27_ok : z27.ok := by simp [z27, sFR, Tax.ok, inI]
theorem w27_ok : w27.ok := by simp [w27, sGB, Tax.ok, inI]
theorem x27_r : RightT x27 := by unfold RightT Right1; decide
theorem z27_r : RightT z27 := by unfold RightT Right1; decide
theorem of_at : gOf aOf fTof [.agg smV, .list [[.str [71, 66], .int .i64 1, .str [71, 66], .int .i64 1300, .int .i64 0, .int .i64 240, .list [] false], [.str [70, 82], .int .i64 4, .str [70, 82], .int .i64 250, .int .i64 0, .int .i64 0, .list [] false]] false, s27V, .str [65, 68, 84], .int .i64 20000] = (True, .tup [.list [[.str [71, 66], .int .i64 1300], [.str [70, 82], .int .i64 500]] false, .int .i64 0]) :=
  gOf_at aOf_inj (smT, [x27, z27], s27, [65, 68, 84], 20000) rfl ⟨smT_len, by decide, by decide, s27_ok, fun x hx => by
    simp only [List.mem_cons, List.not_mem_nil, or_false] at hx
    rcases hx with rfl | rfl
    · exact ⟨x27_ok, x27_r⟩
    · exact ⟨z27_ok, z27_r⟩, by unfold inI; decide⟩ (by kernel_rfl)
theorem su_at : gOf aCh fSum [.list [[.str [71, 66], .int .i64 1300], [.str [70, 82], .int .i64 500]] false] = (True, .tup [.int .i64 1800, .int .i64 0]) := gOf_at aCh_inj [⟨sGB, 1300⟩, ⟨sFR, 500⟩] rfl (by unfold fSum; decide) (by kernel_rfl)
theorem sc_at : gOf aTwoC fSameC [.list [[.str [71, 66], .int .i64 1300], [.str [70, 82], .int .i64 500]] false, .list [[.str [71, 66], .int .i64 1300], [.str [70, 82], .int .i64 500]] false] = (True, .bool true) := gOf_at aTwoC_inj ([⟨sGB, 1300⟩, ⟨sFR, 500⟩], [⟨sGB, 1300⟩, ⟨sFR, 500⟩]) rfl ⟨by decide, rfl⟩ rfl
theorem ti_at1 : gOf aTimes fTimes [.agg smV, .agg [.str [71, 66], .int .i64 1, .str [71, 66], .int .i64 1300, .int .i64 0, .int .i64 240, .list [] false], s27V, .str [65, 68, 84]] = (True, .int .i64 1) := gOf_at aTimes_inj (smT, x27, s27, [65, 68, 84]) rfl ⟨smT_len, by decide, by decide, s27_ok⟩ (by kernel_rfl)
theorem ti_at2 : gOf aTimes fTimes [.agg smV, .agg [.str [71, 66], .int .i64 1, .str [71, 66], .int .i64 1300, .int .i64 0, .int .i64 60, .list [] false], s27V, .str [65, 68, 84]] = (True, .int .i64 2) := gOf_at aTimes_inj (smT, y27, s27, [65, 68, 84]) rfl ⟨smT_len, by decide, by decide, s27_ok⟩ (by kernel_rfl)
theorem ck_at : gOf aTaxes fTaxes [.list [[.str [71, 66], .int .i64 5, .str [103, 98], .int .i64 0, .int .i64 0, .int .i64 0, .list [] false]] false] = (True, .list [[.int .i64 5, .str [116, 97, 120, 32, 48]], [.int .i64 8, .str [116, 97, 120, 32, 48]]] false) := gOf_at aTaxes_inj [w27] rfl ⟨by decide, fun x hx => by rw [List.mem_singleton.1 hx]; exact w27_ok⟩ (by kernel_rfl)
theorem sf_at : gOf aSameF fSameF [.list [[.int .i64 5, .str [116, 97, 120, 32, 48]], [.int .i64 8, .str [116, 97, 120, 32, 48]]] false, .list [[.int .i64 5, .str [116, 97, 120, 32, 48]], [.int .i64 8, .str [116, 97, 120, 32, 48]]] false] = (True, .bool true) := gOf_at aSameF_inj ([⟨5, [116, 97, 120, 32, 48]⟩, ⟨8, [116, 97, 120, 32, 48]⟩], [⟨5, [116, 97, 120, 32, 48]⟩, ⟨8, [116, 97, 120, 32, 48]⟩]) rfl ⟨by decide, rfl⟩ rfl
noncomputable def tAw : Tab
  | 30 => (gOf aUnit fSmT)
  | 16 => (gOf aOf fTof)
  | 19 => (gOf aCh fSum)
  | 18 => (gOf aTwoC fSameC)
  | 14 => (gOf aTimes fTimes)
  | 10 => (gOf aTaxes fTaxes)
  | 9 => (gOf aSameF fSameF)
  | _ => gNo
theorem tAw_ok : ∀ f, PureC Tryd.prog UT f (tAw f) := fun f => by
  unfold tAw
  split
  · exact smT_p
  · exact of_p
  · exact sum_p
  · exact sameC_p
  · exact times_p
  · exact tcheck_p
  · exact sameF_p
  · exact PureC.no
set_option maxRecDepth 20000 in
set_option maxHeartbeats 8000000 in
theorem awake_p : PureC Tryd.prog UT 12 (gOf aUnit fTrue) := by
  have hG := tAw_ok
  have e0 := sm_at
  have e1 := of_at
  have e2 := su_at
  have e3 := sc_at
  have e4 := ti_at1
  have e5 := ti_at2
  have e6 := ck_at
  have e7 := sf_at
  simp only [smV, s27V] at e0 e1 e2 e3 e4 e5 e6 e7
  refine PureC.ofArgs aUnit_inj Tryd.func12 body12 nm12 res12 ?_
  rintro ⟨⟩ hv
  refine ⟨by rw [nt12]; simp [aUnit], fun C hN Q hQ => ?_⟩
  rw [nt12] at hN
  unfold c12
  refine aw_seq (aw_region (EF := EF0) hG (by rw [hN]; exact tr12_0) ?_)
  simp only [a12_0, go_sem, ↓reduceIte, Nat.reduceEqDiff, reduceCtorEq, Nat.reduceAdd, Nat.reduceLT, Nat.reduceLeDiff, Nat.reduceBNe, Nat.reduceBEq, Int.reduceToNat, aUnit]
  refine aw_seq (aw_region (EF := EF0) hG (by rw [hN]; exact tr12_1) ?_)
  simp only [a12_1, go_sem, ↓reduceIte, Nat.reduceEqDiff, reduceCtorEq, Nat.reduceAdd, Nat.reduceLT, Nat.reduceLeDiff, Nat.reduceBNe, Nat.reduceBEq, Int.reduceToNat]
  refine aw_seq (aw_region (EF := EF0) hG (by rw [hN]; exact tr12_2) ?_)
  simp only [a12_2, go_sem, ↓reduceIte, Nat.reduceEqDiff, reduceCtorEq, Nat.reduceAdd, Nat.reduceLT, Nat.reduceLeDiff, Nat.reduceBNe, Nat.reduceBEq, Int.reduceToNat]
  refine aw_seq (aw_region (EF := EF0) hG (by rw [hN]; exact tr12_3) ?_)
  simp only [a12_3, go_sem, ↓reduceIte, Nat.reduceEqDiff, reduceCtorEq, Nat.reduceAdd, Nat.reduceLT, Nat.reduceLeDiff, Nat.reduceBNe, Nat.reduceBEq, Int.reduceToNat]
  refine aw_seq (aw_region (EF := EF0) hG (by rw [hN]; exact tr12_4) ?_)
  simp only [a12_4, go_sem, ↓reduceIte, Nat.reduceEqDiff, reduceCtorEq, Nat.reduceAdd, Nat.reduceLT, Nat.reduceLeDiff, Nat.reduceBNe, Nat.reduceBEq, Int.reduceToNat]
  refine aw_seq (aw_region (EF := EF0) hG (by rw [hN]; exact tr12_5) ?_)
  simp only [a12_5, go_sem, ↓reduceIte, Nat.reduceEqDiff, reduceCtorEq, Nat.reduceAdd, Nat.reduceLT, Nat.reduceLeDiff, Nat.reduceBNe, Nat.reduceBEq, Int.reduceToNat]
  refine AW.le (s' := ⟨mkE [(0, .bool false), (1, s27V), (2, .ptr 2 0), (3, .ptr 3 0), (4, .ptr 4 0)], mkH ([(2, .box 34 [.str [71, 66], .int .i64 1, .str [71, 66], .int .i64 1300, .int .i64 0, .int .i64 240, .list [] false]), (3, .box 34 [.str [71, 66], .int .i64 1, .str [71, 66], .int .i64 1300, .int .i64 0, .int .i64 60, .list [] false]), (4, .box 34 [.str [70, 82], .int .i64 4, .str [70, 82], .int .i64 250, .int .i64 0, .int .i64 0, .list [] false])])⟩) (Le.mk _ _ (by (simp only [go_sem, ↓reduceIte, Nat.reduceEqDiff, reduceCtorEq, Nat.reduceAdd, Nat.reduceLT, Nat.reduceLeDiff, Nat.reduceBNe, Nat.reduceBEq, Int.reduceToNat, s27V]) <;> (repeat' apply And.intro) <;> (try first | exact wk_frzb rfl rfl rfl | rfl | exact wk_fn rfl | exact .nill _ | exact .nilo _ _ _ rfl rfl | exact wk_frz rfl (by simp only [ints_len, nats_len]) rfl (ints_pur _))) (by (simp only [go_sem, ↓reduceIte, Nat.reduceEqDiff, reduceCtorEq, Nat.reduceAdd, Nat.reduceLT, Nat.reduceLeDiff, Nat.reduceBNe, Nat.reduceBEq, Int.reduceToNat, s27V]) <;> (repeat' apply And.intro) <;> (try first | exact wk_frzb rfl rfl rfl | rfl | exact wk_fn rfl | exact .nill _ | exact .nilo _ _ _ rfl rfl | exact wk_frz rfl (by simp only [ints_len, nats_len]) rfl (ints_pur _))) rfl) ?_
  refine aw_seq (aw_regionD (EF := EF0) hG mixed (by rw [hN]; exact tr12_6) ok12_6 ?_)
  simp only [a12_6, d12_6, go_sem, ↓reduceIte, Nat.reduceEqDiff, reduceCtorEq, Nat.reduceAdd, Nat.reduceLT, Nat.reduceLeDiff, Nat.reduceBNe, Nat.reduceBEq, Int.reduceToNat, tAw, e0, e1, s27V]
  (repeat' apply And.intro) <;> (try first | omega | (intros; (repeat' apply And.intro) <;> first | assumption | omega | (simp_all; done)))
  refine aw_seq (aw_region (EF := EF0) hG (by rw [hN]; exact tr12_7) ?_)
  simp only [a12_7, go_sem, ↓reduceIte, Nat.reduceEqDiff, reduceCtorEq, Nat.reduceAdd, Nat.reduceLT, Nat.reduceLeDiff, Nat.reduceBNe, Nat.reduceBEq, Int.reduceToNat, tAw, e2]
  (repeat' apply And.intro) <;> (try first | omega | (intros; (repeat' apply And.intro) <;> first | assumption | omega | (simp_all; done)))
  refine aw_seq (aw_regionD (EF := EF0) hG mixed (by rw [hN]; exact tr12_8) ok12_8 ?_)
  simp (maxSteps := 2000000) only [a12_8, d12_8, go_sem, ↓reduceIte, Nat.reduceEqDiff, reduceCtorEq, Nat.reduceAdd, Nat.reduceLT, Nat.reduceLeDiff, Nat.reduceBNe, Nat.reduceBEq, Int.reduceToNat, tAw, e0, e3, e4, e5, e6, e7]
  (repeat' apply And.intro) <;> (try first | omega | (intros; (repeat' apply And.intro) <;> first | assumption | omega | (simp_all; done)))
  refine aw_ret ?_
  show Q _ _
  refine hQ _ _ (.inl rfl) ?_ ?_ ?_ <;> simp only [outφ, outV, AR.res, go_sem, ↓reduceIte, Nat.reduceEqDiff, reduceCtorEq, Nat.reduceAdd, Nat.reduceLT, Nat.reduceLeDiff, Nat.reduceBNe, Nat.reduceBEq, Int.reduceToNat, fTrue]
end Go.Proofs.YtailckanpheciaaDoor
