/- The chapter's examples; the laws Checks, Fits, Inside. -/
import Derived.Test.YtemeeeomcjdlnaaDoorBa10
namespace Go.Proofs.YtemeeeomcjdlnaaDoor
open Go Go.RowKit
set_option linter.unusedSimpArgs false
set_option linter.unusedVariables false
set_option linter.deprecated false
def bigT (t : Trim) : Bool := decide (20 < (t.bays.length : Int)) || decide (20 < (t.envelope.length : Int))
def fBig (t : Trim) : Prop × V := (t.ok, .bool (bigT t))
theorem big_p : PureC Tryd.prog UT 8 (gOf aT fBig) := by
  have hG := tNo_ok
  refine PureC.ofArgs aT_inj Tryd.func8 body8 nm8 res8 ?_
  rintro ⟨em, ix, bs, en⟩ hv
  refine ⟨by rw [nt8]; simp [aT], fun C hN Q hQ => ?_⟩
  rw [nt8] at hN
  unfold c8
  obtain ⟨-, -, ⟨hbl, -⟩, ⟨hel, -⟩⟩ : (⟨em, ix, bs, en⟩ : Trim).ok := hv
  dsimp only at hbl hel
  refine aw_seq (aw_region (EF := EF0) hG (by rw [hN]; exact tr8_0) ?_)
  simp only [a8_0, go_sem, ↓reduceIte, Nat.reduceEqDiff, reduceCtorEq, Nat.reduceAdd, Nat.reduceLT, Nat.reduceLeDiff, Nat.reduceBNe, Nat.reduceBEq, Int.reduceToNat, aT, Trim.enc]
  refine aw_seq (aw_region (EF := EF0) hG (by rw [hN]; exact tr8_1) ?_)
  simp only [a8_1, go_sem, ↓reduceIte, Nat.reduceEqDiff, reduceCtorEq, Nat.reduceAdd, Nat.reduceLT, Nat.reduceLeDiff, Nat.reduceBNe, Nat.reduceBEq, Int.reduceToNat]
  (repeat' apply And.intro) <;> (try first | omega | (intros; (repeat' apply And.intro) <;> first | assumption | omega | (simp_all; done)))
  refine aw_ret ?_
  show Q _ _
  refine hQ _ _ (.inl rfl) ?_ ?_ ?_ <;> simp only [outφ, outV, AR.res, go_sem, ↓reduceIte, Nat.reduceEqDiff, reduceCtorEq, Nat.reduceAdd, Nat.reduceLT, Nat.reduceLeDiff, Nat.reduceBNe, Nat.reduceBEq, Int.reduceToNat, fBig, bigT]
def t0 : Trim := ⟨100, 0, [⟨-2, 50⟩, ⟨2, 50⟩], [⟨100, -40⟩, ⟨200, -40⟩, ⟨200, 40⟩, ⟨100, 40⟩]⟩
def t0V : List V := [.int .i64 100, .int .i64 0, .list [[.int .i64 (-2), .int .i64 50], [.int .i64 2, .int .i64 50]] false, .list [[.int .i64 100, .int .i64 (-40)], [.int .i64 200, .int .i64 (-40)], [.int .i64 200, .int .i64 40], [.int .i64 100, .int .i64 40]] false]
theorem t0_chk : chkF t0 = [] := by kernel_rfl
theorem t0_ok : TrimOk t0 := chk_ok t0_chk
theorem w_ok {l : List Int} (h : ∀ w ∈ l, 0 ≤ w ∧ w ≤ 1000) : ∀ w ∈ l, inI w := fun w hw => by have := h w hw; exact ⟨by omega, by omega⟩
theorem pt_at : gOf aPl fPt [.agg t0V, .list [[.int .i64 10], [.int .i64 30]] false] = (True, .tup [.agg [.int .i64 140, .int .i64 40], .int .i64 0]) := gOf_at aPl_inj (t0, [10, 30]) rfl ⟨t0_ok, by decide⟩ rfl
theorem ld_at1 : gOf aPl fLoad [.agg t0V, .list [[.int .i64 30], [.int .i64 20]] false] = (True, .tup [.list [[.int .i64 0], [.int .i64 1]] false, .int .i64 0]) := gOf_at aPl_inj (t0, [30, 20]) rfl ⟨t0_ok, by decide, w_ok (by decide)⟩ (by kernel_rfl)
theorem ld_at2 : gOf aPl fLoad [.agg t0V, .list [[.int .i64 30], [.int .i64 30], [.int .i64 30]] false] = (True, .tup [.list [] false, .int .i64 32]) := gOf_at aPl_inj (t0, [30, 30, 30]) rfl ⟨t0_ok, by decide, w_ok (by decide)⟩ (by kernel_rfl)
theorem ft_at1 : gOf aPl fFits [.agg t0V, .list [[.int .i64 10], [.int .i64 30]] false] = (True, .int .i64 0) := gOf_at aPl_inj (t0, [10, 30]) rfl ⟨t0_ok, by decide⟩ (by kernel_rfl)
theorem ft_at2 : gOf aPl fFits [.agg t0V, .list [[.int .i64 9], [.int .i64 30]] false] = (True, .int .i64 33) := gOf_at aPl_inj (t0, [9, 30]) rfl ⟨t0_ok, by decide⟩ (by kernel_rfl)
theorem ft_at3 : gOf aPl fFits [.agg t0V, .list [[.int .i64 51], [.int .i64 30]] false] = (True, .int .i64 32) := gOf_at aPl_inj (t0, [51, 30]) rfl ⟨t0_ok, by decide⟩ (by kernel_rfl)
theorem ck_at : gOf aT fChk [.agg t0V] = (True, .list [] false) := gOf_at aT_inj t0 rfl ⟨by decide, by decide⟩ (by show V.list (faults (chkF t0)) false = _; rw [t0_chk]; rfl)
noncomputable def tAw : Tab
  | 13 => (gOf aPl fPt)
  | 19 => (gOf aPl fLoad)
  | 15 => (gOf aPl fFits)
  | 11 => (gOf aT fChk)
  | _ => gNo
theorem tAw_ok : ∀ f, PureC Tryd.prog UT f (tAw f) := fun f => by
  unfold tAw
  split
  · exact point_p
  · exact load_p
  · exact fits_p
  · exact check_p
  · exact PureC.no
set_option maxRecDepth 20000 in
set_option maxHeartbeats 4000000 in
theorem awake_p : PureC Tryd.prog UT 9 (gOf aUnit fTrue) := by
  have hG := tAw_ok
  have e1 := pt_at
  have e2 := ld_at1
  have e3 := ld_at2
  have e4 := ft_at1
  have e5 := ft_at2
  have e6 := ft_at3
  have e7 := ck_at
  simp only [t0V] at e1 e2 e3 e4 e5 e6 e7
  refine PureC.ofArgs aUnit_inj Tryd.func9 body9 nm9 res9 ?_
  rintro ⟨⟩ hv
  refine ⟨by rw [nt9]; simp [aUnit], fun C hN Q hQ => ?_⟩
  rw [nt9] at hN
  unfold c9
  refine aw_seq (aw_region (EF := EF0) hG (by rw [hN]; exact tr9_0) ?_)
  simp only [a9_0, go_sem, ↓reduceIte, Nat.reduceEqDiff, reduceCtorEq, Nat.reduceAdd, Nat.reduceLT, Nat.reduceLeDiff, Nat.reduceBNe, Nat.reduceBEq, Int.reduceToNat, aUnit]
  refine aw_seq (aw_region (EF := EF0) hG (by rw [hN]; exact tr9_1) ?_)
  simp only [a9_1, go_sem, ↓reduceIte, Nat.reduceEqDiff, reduceCtorEq, Nat.reduceAdd, Nat.reduceLT, Nat.reduceLeDiff, Nat.reduceBNe, Nat.reduceBEq, Int.reduceToNat]
  refine aw_seq (aw_region (EF := EF0) hG (by rw [hN]; exact tr9_2) ?_)
  simp only [a9_2, go_sem, ↓reduceIte, Nat.reduceEqDiff, reduceCtorEq, Nat.reduceAdd, Nat.reduceLT, Nat.reduceLeDiff, Nat.reduceBNe, Nat.reduceBEq, Int.reduceToNat, tAw, e1]
  (repeat' apply And.intro) <;> (try first | omega | (intros; (repeat' apply And.intro) <;> first | assumption | omega | (simp_all; done)))
  refine aw_seq (aw_region (EF := EF0) hG (by rw [hN]; exact tr9_3) ?_)
  simp only [a9_3, go_sem, ↓reduceIte, Nat.reduceEqDiff, reduceCtorEq, Nat.reduceAdd, Nat.reduceLT, Nat.reduceLeDiff, Nat.reduceBNe, Nat.reduceBEq, Int.reduceToNat, tAw, e2]
  (repeat' apply And.intro) <;> (try first | omega | (intros; (repeat' apply And.intro) <;> first | assumption | omega | (simp_all; done)))
  refine aw_seq (aw_region (EF := EF0) hG (by rw [hN]; exact tr9_4) ?_)
  simp only [a9_4, go_sem, ↓reduceIte, Nat.reduceEqDiff, reduceCtorEq, Nat.reduceAdd, Nat.reduceLT, Nat.reduceLeDiff, Nat.reduceBNe, Nat.reduceBEq, Int.reduceToNat, tAw, e3]
  (repeat' apply And.intro) <;> (try first | omega | (intros; (repeat' apply And.intro) <;> first | assumption | omega | (simp_all; done)))
  refine AW.le (s' := ⟨mkE [(1, .ptr 1 0), (2, .ptr 2 0), (3, .int .i64 0), (4, .list [[.int .i64 0], [.int .i64 1]] false), (5, .int .i64 0), (7, .int .i64 32)], mkH ([(1, .box 25 t0V), (2, .box 33 [.int .i64 140, .int .i64 40])])⟩) (Le.mk _ _ (by (simp only [go_sem, ↓reduceIte, Nat.reduceEqDiff, reduceCtorEq, Nat.reduceAdd, Nat.reduceLT, Nat.reduceLeDiff, Nat.reduceBNe, Nat.reduceBEq, Int.reduceToNat, t0V]) <;> (repeat' apply And.intro) <;> (try first | exact wk_frzb rfl rfl rfl | rfl | exact wk_fn rfl | exact .nill _ | exact .nilo _ _ _ rfl rfl | exact wk_frz rfl (by simp only [ints_len, nats_len]) rfl (ints_pur _))) (by (simp only [go_sem, ↓reduceIte, Nat.reduceEqDiff, reduceCtorEq, Nat.reduceAdd, Nat.reduceLT, Nat.reduceLeDiff, Nat.reduceBNe, Nat.reduceBEq, Int.reduceToNat, t0V]) <;> (repeat' apply And.intro) <;> (try first | exact wk_frzb rfl rfl rfl | rfl | exact wk_fn rfl | exact .nill _ | exact .nilo _ _ _ rfl rfl | exact wk_frz rfl (by simp only [ints_len, nats_len]) rfl (ints_pur _))) rfl) ?_
  refine aw_seq (aw_regionD (EF := EF0) hG mixed (by rw [hN]; exact tr9_5) ok9_5 ?_)
  simp (maxSteps := 2000000) only [a9_5, d9_5, go_sem, ↓reduceIte, Nat.reduceEqDiff, reduceCtorEq, Nat.reduceAdd, Nat.reduceLT, Nat.reduceLeDiff, Nat.reduceBNe, Nat.reduceBEq, Int.reduceToNat, tAw, e4, e5, e6, e7, t0V]
  (repeat' apply And.intro) <;> (try first | omega | (intros; (repeat' apply And.intro) <;> first | assumption | omega | (simp_all; done)))
  refine aw_ret ?_
  show Q _ _
  refine hQ _ _ (.inl rfl) ?_ ?_ ?_ <;> simp only [outφ, outV, AR.res, go_sem, ↓reduceIte, Nat.reduceEqDiff, reduceCtorEq, Nat.reduceAdd, Nat.reduceLT, Nat.reduceLeDiff, Nat.reduceBNe, Nat.reduceBEq, Int.reduceToNat, fTrue]
  rfl
/-! The laws. -/
theorem fBig_eq (em ix : Int) (bs : List Bay) (en : List Point) : gOf aT fBig [.agg [.int .i64 em, .int .i64 ix, .list (bs.map Bay.enc) false, .list (en.map Point.enc) false]] = ((⟨em, ix, bs, en⟩ : Trim).ok, .bool (bigT ⟨em, ix, bs, en⟩)) := gOf_eq aT_inj (⟨em, ix, bs, en⟩ : Trim)
theorem fChk_eq (em ix : Int) (bs : List Bay) (en : List Point) : gOf aT fChk [.agg [.int .i64 em, .int .i64 ix, .list (bs.map Bay.enc) false, .list (en.map Point.enc) false]] = (Sz ⟨em, ix, bs, en⟩, .list (faults (chkF ⟨em, ix, bs, en⟩)) false) := gOf_eq aT_inj (⟨em, ix, bs, en⟩ : Trim)
theorem sz_of {t : Trim} (h : bigT t = false) : Sz t := by
  simp only [bigT, Bool.or_eq_false_iff, decide_eq_false_iff_not] at h
  exact ⟨by omega, by omega⟩
theorem chk_len {t : Trim} (h : Sz t) : (chkF t).length ≤ 3000 := by
  obtain ⟨h1, h2⟩ := h
  have a1 := fIf_len (!within t.empty 0 1000000) 2 sEmpty
  have a2 := fIf_len (!within t.index (-1000000000) 1000000000) 2 sIndex
  have a3 := fIf_len (!within t.bays.length 1 16) 4 sBays
  have a4 := fIf_len (t.envelope.all fineB && decide (turn t.envelope = 0)) 33 sEnv
  have a5 := bayTo_len t.bays t.bays.length
  have a6 := ptTo_len t.envelope t.envelope.length
  have a7 : (if t.bays.length ≤ 16 then bayTo t.bays t.bays.length else []).length ≤ 1000 := by split; omega; simp
  have a8 : (if within t.envelope.length 3 16 then ptTo t.envelope t.envelope.length ++ fIf (t.envelope.all fineB && decide (turn t.envelope = 0)) 33 sEnv else [⟨4, sEnv⟩]).length ≤ 1001 := by
    split
    · rw [List.length_append]; omega
    · simp
  unfold chkF headF
  simp only [List.length_append]
  omega
theorem none_of {t : Trim} (h : decide (0 < ((chkF t).length : Int)) = false) : TrimOk t := chk_ok (List.length_eq_zero_iff.1 (by simp only [decide_eq_false_iff_not] at h; omega))
noncomputable def tL : Tab
  | 8 => (gOf aT fBig)
  | 9 => (gOf aUnit fTrue)
  | 11 => (gOf aT fChk)
  | 12 => (gOf aT fChk)
  | 10 => (gOf aSameF fSameF)
  | 13 => (gOf aPl fPt)
  | 14 => (gOf aPl fPt)
  | 15 => (gOf aPl fFits)
  | 16 => (gOf aPl fFits)
  | 17 => (gOf aIn fIn)
  | 18 => (gOf aIn fIn)
  | _ => gNo
theorem tL_ok : ∀ f, PureC Tryd.prog UT f (tL f) := fun f => by
  unfold tL
  split
  · exact big_p
  · exact awake_p
  · exact check_p
  · exact rcheck_p
  · exact sameF7_p
  · exact point_p
  · exact rpoint_p
  · exact fits_p
  · exact rfits_p
  · exact inside_p
  · exact rinside_p
  · exact PureC.no
def fLaw1 (t : Trim) : Prop × V := (t.ok, .bool true)
set_option maxHeartbeats 2000000 in
theorem law1_p : PureC Tryd.prog UT 3 (gOf aT fLaw1) := by
  have hG := tL_ok
  refine PureC.ofArgs aT_inj Tryd.func3 body3 nm3 res3 ?_
  rintro ⟨em, ix, bs, en⟩ hv
  refine ⟨by rw [nt3]; simp [aT], fun C hN Q hQ => ?_⟩
  rw [nt3] at hN
  unfold c3
  replace hv : (⟨em, ix, bs, en⟩ : Trim).ok := hv
  refine aw_seq (aw_region (EF := EF0) hG (by rw [hN]; exact tr3_0) ?_)
  simp only [a3_0, go_sem, ↓reduceIte, Nat.reduceEqDiff, reduceCtorEq, Nat.reduceAdd, Nat.reduceLT, Nat.reduceLeDiff, Nat.reduceBNe, Nat.reduceBEq, Int.reduceToNat, aT, Trim.enc, tL, fTrue_eq]
  refine aw_seq ?_
  refine aw_seq (aw_region (EF := EF0) hG (by rw [hN]; exact tr3_1) ?_)
  simp only [a3_1, go_sem, ↓reduceIte, Nat.reduceEqDiff, reduceCtorEq, Nat.reduceAdd, Nat.reduceLT, Nat.reduceLeDiff, Nat.reduceBNe, Nat.reduceBEq, Int.reduceToNat, fBig_eq, hv, tL, fTrue_eq]
  (repeat' apply And.intro) <;> (try first | omega | (intros; (repeat' apply And.intro) <;> first | assumption | omega | (simp_all; done)))
  refine aw_cond (b := _) rfl (fun hb => ?_) (fun hb => ?_)
  · skip
    refine aw_seq (aw_region (EF := EF0) hG (by rw [hN]; exact tr3_2) ?_)
    simp only [a3_2, go_sem, ↓reduceIte, Nat.reduceEqDiff, reduceCtorEq, Nat.reduceAdd, Nat.reduceLT, Nat.reduceLeDiff, Nat.reduceBNe, Nat.reduceBEq, Int.reduceToNat, tL, fTrue_eq]
    (repeat' apply And.intro) <;> (try first | omega | (intros; (repeat' apply And.intro) <;> first | assumption | omega | (simp_all; done)))
    refine aw_ret ?_
    show Q _ _
    refine hQ _ _ (.inl rfl) ?_ ?_ ?_ <;> simp only [outφ, outV, AR.res, go_sem, ↓reduceIte, Nat.reduceEqDiff, reduceCtorEq, Nat.reduceAdd, Nat.reduceLT, Nat.reduceLeDiff, Nat.reduceBNe, Nat.reduceBEq, Int.reduceToNat, fLaw1]
  · skip
    have hs := sz_of hb
    have hln := chk_len hs
    refine aw_skip ?_
    simp only [go_sem, ↓reduceIte, Nat.reduceEqDiff, reduceCtorEq, Nat.reduceAdd, Nat.reduceLT, Nat.reduceLeDiff, Nat.reduceBNe, Nat.reduceBEq, Int.reduceToNat]
    refine aw_seq (aw_regionD (EF := EF0) hG mixed (by rw [hN]; exact tr3_3) ok3_3 ?_)
    simp only [a3_3, d3_3, go_sem, ↓reduceIte, Nat.reduceEqDiff, reduceCtorEq, Nat.reduceAdd, Nat.reduceLT, Nat.reduceLeDiff, Nat.reduceBNe, Nat.reduceBEq, Int.reduceToNat, fChk_eq, hs, fSameF_eq, tL, fTrue_eq]
    (repeat' apply And.intro) <;> (try first | omega | (intros; (repeat' apply And.intro) <;> first | assumption | omega | (simp_all; done)))
    refine aw_ret ?_
    show Q _ _
    refine hQ _ _ (.inl rfl) ?_ ?_ ?_ <;> simp only [outφ, outV, AR.res, go_sem, ↓reduceIte, Nat.reduceEqDiff, reduceCtorEq, Nat.reduceAdd, Nat.reduceLT, Nat.reduceLeDiff, Nat.reduceBNe, Nat.reduceBEq, Int.reduceToNat, fLaw1]
def fLaw2 (x : Trim × List Int) : Prop × V := (x.1.ok ∧ x.2.length ≤ 140737488355328, .bool true)
set_option maxHeartbeats 4000000 in
theorem law2_p : PureC Tryd.prog UT 4 (gOf aPl fLaw2) := by
  have hG := tL_ok
  refine PureC.ofArgs aPl_inj Tryd.func4 body4 nm4 res4 ?_
  rintro ⟨⟨em, ix, bs, en⟩, ls⟩ hv
  refine ⟨by rw [nt4]; simp [aPl], fun C hN Q hQ => ?_⟩
  rw [nt4] at hN
  unfold c4
  obtain ⟨hv, hl⟩ : (⟨em, ix, bs, en⟩ : Trim).ok ∧ ls.length ≤ 140737488355328 := hv
  refine aw_seq (aw_region (EF := EF0) hG (by rw [hN]; exact tr4_0) ?_)
  simp only [a4_0, go_sem, ↓reduceIte, Nat.reduceEqDiff, reduceCtorEq, Nat.reduceAdd, Nat.reduceLT, Nat.reduceLeDiff, Nat.reduceBNe, Nat.reduceBEq, Int.reduceToNat, aPl, Trim.enc, tL, fTrue_eq]
  refine aw_seq ?_
  have hs := fun h => sz_of (t := ⟨em, ix, bs, en⟩) h
  have hln := fun h => chk_len (t := ⟨em, ix, bs, en⟩) (sz_of h)
  by_cases hbg : bigT ⟨em, ix, bs, en⟩ = true
  · skip
    refine aw_seq (aw_region (EF := EF0) hG (by rw [hN]; exact tr4_1) ?_)
    simp only [a4_1, go_sem, ↓reduceIte, Nat.reduceEqDiff, reduceCtorEq, Nat.reduceAdd, Nat.reduceLT, Nat.reduceLeDiff, Nat.reduceBNe, Nat.reduceBEq, Int.reduceToNat, fBig_eq, hv, hbg, fChk_eq, tL, fTrue_eq]
    (repeat' apply And.intro) <;> (try first | omega | (intros; (repeat' apply And.intro) <;> first | assumption | omega | (simp_all; done)))
    refine aw_condT rfl ?_
    refine aw_seq (aw_region (EF := EF0) hG (by rw [hN]; exact tr4_2) ?_)
    simp only [a4_2, go_sem, ↓reduceIte, Nat.reduceEqDiff, reduceCtorEq, Nat.reduceAdd, Nat.reduceLT, Nat.reduceLeDiff, Nat.reduceBNe, Nat.reduceBEq, Int.reduceToNat, tL, fTrue_eq]
    (repeat' apply And.intro) <;> (try first | omega | (intros; (repeat' apply And.intro) <;> first | assumption | omega | (simp_all; done)))
    refine aw_ret ?_
    show Q _ _
    refine hQ _ _ (.inl rfl) ?_ ?_ ?_ <;> simp only [outφ, outV, AR.res, go_sem, ↓reduceIte, Nat.reduceEqDiff, reduceCtorEq, Nat.reduceAdd, Nat.reduceLT, Nat.reduceLeDiff, Nat.reduceBNe, Nat.reduceBEq, Int.reduceToNat, fLaw2]
  · skip
    replace hbg := Bool.eq_false_iff.2 hbg
    replace hs := hs hbg
    replace hln := hln hbg
    refine aw_seq (aw_region (EF := EF0) hG (by rw [hN]; exact tr4_1) ?_)
    simp only [a4_1, go_sem, ↓reduceIte, Nat.reduceEqDiff, reduceCtorEq, Nat.reduceAdd, Nat.reduceLT, Nat.reduceLeDiff, Nat.reduceBNe, Nat.reduceBEq, Int.reduceToNat, fBig_eq, hv, hbg, fChk_eq, tL, fTrue_eq, hs]
    (repeat' apply And.intro) <;> (try first | omega | (intros; (repeat' apply And.intro) <;> first | assumption | omega | (simp_all; done)))
    refine aw_cond (b := _) rfl (fun hb => ?_) (fun hb => ?_)
    · skip
      refine aw_seq (aw_region (EF := EF0) hG (by rw [hN]; exact tr4_2) ?_)
      simp only [a4_2, go_sem, ↓reduceIte, Nat.reduceEqDiff, reduceCtorEq, Nat.reduceAdd, Nat.reduceLT, Nat.reduceLeDiff, Nat.reduceBNe, Nat.reduceBEq, Int.reduceToNat, tL, fTrue_eq]
      (repeat' apply And.intro) <;> (try first | omega | (intros; (repeat' apply And.intro) <;> first | assumption | omega | (simp_all; done)))
      refine aw_ret ?_
      show Q _ _
      refine hQ _ _ (.inl rfl) ?_ ?_ ?_ <;> simp only [outφ, outV, AR.res, go_sem, ↓reduceIte, Nat.reduceEqDiff, reduceCtorEq, Nat.reduceAdd, Nat.reduceLT, Nat.reduceLeDiff, Nat.reduceBNe, Nat.reduceBEq, Int.reduceToNat, fLaw2]
    · skip
      obtain ⟨hb1, hb2⟩ := Bool.or_eq_false_iff.1 hb
      have htr := none_of hb1
      have hl3 : ls.length ≤ 1000 := by simp only [decide_eq_false_iff_not] at hb2; omega
      have e1 := fPt_eq em ix bs en ls
      generalize pointOf ⟨em, ix, bs, en⟩ ls = r at e1
      obtain ⟨⟨pw, pi⟩, pe⟩ := r
      simp only [Point.enc] at e1
      refine aw_skip ?_
      simp only [go_sem, ↓reduceIte, Nat.reduceEqDiff, reduceCtorEq, Nat.reduceAdd, Nat.reduceLT, Nat.reduceLeDiff, Nat.reduceBNe, Nat.reduceBEq, Int.reduceToNat]
      refine aw_seq (aw_region (EF := EF0) hG (by rw [hN]; exact tr4_3) ?_)
      simp only [a4_3, go_sem, ↓reduceIte, Nat.reduceEqDiff, reduceCtorEq, Nat.reduceAdd, Nat.reduceLT, Nat.reduceLeDiff, Nat.reduceBNe, Nat.reduceBEq, Int.reduceToNat, e1, htr, hl3, tL, fTrue_eq]
      (repeat' apply And.intro) <;> (try first | omega | (intros; (repeat' apply And.intro) <;> first | assumption | omega | (simp_all; done)))
      refine aw_seq (aw_region (EF := EF0) hG (by rw [hN]; exact tr4_4) ?_)
      simp only [a4_4, go_sem, ↓reduceIte, Nat.reduceEqDiff, reduceCtorEq, Nat.reduceAdd, Nat.reduceLT, Nat.reduceLeDiff, Nat.reduceBNe, Nat.reduceBEq, Int.reduceToNat, e1, htr, hl3, tL, fTrue_eq]
      (repeat' apply And.intro) <;> (try first | omega | (intros; (repeat' apply And.intro) <;> first | assumption | omega | (simp_all; done)))
      refine aw_seq (aw_regionD (EF := EF0) hG mixed (by rw [hN]; exact tr4_5) ok4_5 ?_)
      simp only [a4_5, d4_5, go_sem, ↓reduceIte, Nat.reduceEqDiff, reduceCtorEq, Nat.reduceAdd, Nat.reduceLT, Nat.reduceLeDiff, Nat.reduceBNe, Nat.reduceBEq, Int.reduceToNat, fFits_eq, htr, hl3, tL, fTrue_eq]
      (repeat' apply And.intro) <;> (try first | omega | (intros; (repeat' apply And.intro) <;> first | assumption | omega | (simp_all; done)))
      refine aw_ret ?_
      show Q _ _
      refine hQ _ _ (.inl rfl) ?_ ?_ ?_ <;> simp only [outφ, outV, AR.res, go_sem, ↓reduceIte, Nat.reduceEqDiff, reduceCtorEq, Nat.reduceAdd, Nat.reduceLT, Nat.reduceLeDiff, Nat.reduceBNe, Nat.reduceBEq, Int.reduceToNat, fLaw2]
def fLaw3 (x : Trim × Point) : Prop × V := (x.1.ok ∧ x.2.ok, .bool true)
def aTP (x : Trim × Point) : List V := [.agg x.1.enc, .agg x.2.enc]
theorem aTP_inj (a b : Trim × Point) (h : aTP a = aTP b) : a = b := by
  obtain ⟨a_t, a_x⟩ := a
  obtain ⟨b_t, b_x⟩ := b
  simp only [aTP, List.cons.injEq, V.str.injEq, V.int.injEq, V.bool.injEq, V.agg.injEq, V.list.injEq, and_true, true_and] at h
  obtain ⟨h0, h1⟩ := h
  replace h0 := Trim.inj _ _ h0
  subst h0
  replace h1 := Point.inj _ _ h1
  subst h1
  rfl
set_option maxHeartbeats 4000000 in
theorem law3_p : PureC Tryd.prog UT 5 (gOf aTP fLaw3) := by
  have hG := tL_ok
  refine PureC.ofArgs aTP_inj Tryd.func5 body5 nm5 res5 ?_
  rintro ⟨⟨em, ix, bs, en⟩, ⟨xw, xi⟩⟩ hv
  refine ⟨by rw [nt5]; simp [aTP], fun C hN Q hQ => ?_⟩
  rw [nt5] at hN
  unfold c5
  obtain ⟨hv, hx⟩ : (⟨em, ix, bs, en⟩ : Trim).ok ∧ (⟨xw, xi⟩ : Point).ok := hv
  refine aw_seq (aw_region (EF := EF0) hG (by rw [hN]; exact tr5_0) ?_)
  simp only [a5_0, go_sem, ↓reduceIte, Nat.reduceEqDiff, reduceCtorEq, Nat.reduceAdd, Nat.reduceLT, Nat.reduceLeDiff, Nat.reduceBNe, Nat.reduceBEq, Int.reduceToNat, aTP, Trim.enc, Point.enc, tL, fTrue_eq]
  refine aw_seq ?_
  have hs := fun h => sz_of (t := ⟨em, ix, bs, en⟩) h
  have hln := fun h => chk_len (t := ⟨em, ix, bs, en⟩) (sz_of h)
  by_cases hbg : bigT ⟨em, ix, bs, en⟩ = true
  · skip
    refine aw_seq (aw_region (EF := EF0) hG (by rw [hN]; exact tr5_1) ?_)
    simp only [a5_1, go_sem, ↓reduceIte, Nat.reduceEqDiff, reduceCtorEq, Nat.reduceAdd, Nat.reduceLT, Nat.reduceLeDiff, Nat.reduceBNe, Nat.reduceBEq, Int.reduceToNat, fBig_eq, hv, hbg, fChk_eq, tL, fTrue_eq]
    (repeat' apply And.intro) <;> (try first | omega | (intros; (repeat' apply And.intro) <;> first | assumption | omega | (simp_all; done)))
    refine aw_condT rfl ?_
    refine aw_seq (aw_region (EF := EF0) hG (by rw [hN]; exact tr5_2) ?_)
    simp only [a5_2, go_sem, ↓reduceIte, Nat.reduceEqDiff, reduceCtorEq, Nat.reduceAdd, Nat.reduceLT, Nat.reduceLeDiff, Nat.reduceBNe, Nat.reduceBEq, Int.reduceToNat, tL, fTrue_eq]
    (repeat' apply And.intro) <;> (try first | omega | (intros; (repeat' apply And.intro) <;> first | assumption | omega | (simp_all; done)))
    refine aw_ret ?_
    show Q _ _
    refine hQ _ _ (.inl rfl) ?_ ?_ ?_ <;> simp only [outφ, outV, AR.res, go_sem, ↓reduceIte, Nat.reduceEqDiff, reduceCtorEq, Nat.reduceAdd, Nat.reduceLT, Nat.reduceLeDiff, Nat.reduceBNe, Nat.reduceBEq, Int.reduceToNat, fLaw3]
  · skip
    replace hbg := Bool.eq_false_iff.2 hbg
    replace hs := hs hbg
    replace hln := hln hbg
    refine aw_seq (aw_region (EF := EF0) hG (by rw [hN]; exact tr5_1) ?_)
    simp only [a5_1, go_sem, ↓reduceIte, Nat.reduceEqDiff, reduceCtorEq, Nat.reduceAdd, Nat.reduceLT, Nat.reduceLeDiff, Nat.reduceBNe, Nat.reduceBEq, Int.reduceToNat, fBig_eq, hv, hbg, fChk_eq, tL, fTrue_eq, hs]
    (repeat' apply And.intro) <;> (try first | omega | (intros; (repeat' apply And.intro) <;> first | assumption | omega | (simp_all; done)))
    refine aw_cond (b := _) rfl (fun hb => ?_) (fun hb => ?_)
    · skip
      refine aw_seq (aw_region (EF := EF0) hG (by rw [hN]; exact tr5_2) ?_)
      simp only [a5_2, go_sem, ↓reduceIte, Nat.reduceEqDiff, reduceCtorEq, Nat.reduceAdd, Nat.reduceLT, Nat.reduceLeDiff, Nat.reduceBNe, Nat.reduceBEq, Int.reduceToNat, tL, fTrue_eq]
      (repeat' apply And.intro) <;> (try first | omega | (intros; (repeat' apply And.intro) <;> first | assumption | omega | (simp_all; done)))
      refine aw_ret ?_
      show Q _ _
      refine hQ _ _ (.inl rfl) ?_ ?_ ?_ <;> simp only [outφ, outV, AR.res, go_sem, ↓reduceIte, Nat.reduceEqDiff, reduceCtorEq, Nat.reduceAdd, Nat.reduceLT, Nat.reduceLeDiff, Nat.reduceBNe, Nat.reduceBEq, Int.reduceToNat, fLaw3]
    · skip
      have htr := none_of hb
      have hvl : ValidL en := ⟨htr.2.2.2.2.1, htr.2.2.2.2.2.2⟩
      refine aw_skip ?_
      simp only [go_sem, ↓reduceIte, Nat.reduceEqDiff, reduceCtorEq, Nat.reduceAdd, Nat.reduceLT, Nat.reduceLeDiff, Nat.reduceBNe, Nat.reduceBEq, Int.reduceToNat]
      refine aw_seq (aw_regionD (EF := EF0) hG mixed (by rw [hN]; exact tr5_3) ok5_3 ?_)
      simp only [a5_3, d5_3, go_sem, ↓reduceIte, Nat.reduceEqDiff, reduceCtorEq, Nat.reduceAdd, Nat.reduceLT, Nat.reduceLeDiff, Nat.reduceBNe, Nat.reduceBEq, Int.reduceToNat, fIn_eq, hvl, tL, fTrue_eq]
      (repeat' apply And.intro) <;> (try first | omega | (intros; (repeat' apply And.intro) <;> first | assumption | omega | (simp_all; done)))
      refine aw_ret ?_
      show Q _ _
      refine hQ _ _ (.inl rfl) ?_ ?_ ?_ <;> simp only [outφ, outV, AR.res, go_sem, ↓reduceIte, Nat.reduceEqDiff, reduceCtorEq, Nat.reduceAdd, Nat.reduceLT, Nat.reduceLeDiff, Nat.reduceBNe, Nat.reduceBEq, Int.reduceToNat, fLaw3]
end Go.Proofs.YtemeeeomcjdlnaaDoor
