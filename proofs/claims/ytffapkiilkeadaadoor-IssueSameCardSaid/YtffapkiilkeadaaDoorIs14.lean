/- The example; the statement on Check. -/
import Derived.Test.YtffapkiilkeadaaDoorIs13
namespace Go.Proofs.YtffapkiilkeadaaDoor
open Go Go.RowKit
set_option linter.unusedSimpArgs false
set_option linter.unusedVariables false
set_option linter.deprecated false
theorem sameF40_p : PureC Tryd.prog UT 7 (gOf aSameF fSameF) := by
  have hG := tNo_ok
  refine PureC.ofArgs aSameF_inj Tryd.func7 body7 nm7 res7 ?_
  rintro ⟨l, r⟩ hv
  refine ⟨by rw [nt7]; simp [aSameF], fun C hN Q hQ => ?_⟩
  rw [nt7] at hN
  unfold c7
  obtain ⟨hl, rfl⟩ : l.length ≤ 140737488355328 ∧ l = r := hv
  refine aw_seq (aw_region (EF := EF0) hG (by rw [hN]; exact tr7_0) ?_)
  simp only [a7_0, go_sem, ↓reduceIte, Nat.reduceEqDiff, reduceCtorEq, Nat.reduceAdd, Nat.reduceLT, Nat.reduceLeDiff, Nat.reduceBNe, Nat.reduceBEq, Int.reduceToNat, aSameF]
  refine aw_seq ?_
  refine aw_seq (aw_region (EF := EF0) hG (by rw [hN]; exact tr7_1) ?_)
  simp only [a7_1, go_sem, ↓reduceIte, Nat.reduceEqDiff, reduceCtorEq, Nat.reduceAdd, Nat.reduceLT, Nat.reduceLeDiff, Nat.reduceBNe, Nat.reduceBEq, Int.reduceToNat]
  refine aw_condF rfl ?_
  refine aw_skip ?_
  try simp only [go_sem, ↓reduceIte, Nat.reduceEqDiff, reduceCtorEq, Nat.reduceAdd, Nat.reduceLT, Nat.reduceLeDiff, Nat.reduceBNe, Nat.reduceBEq, Int.reduceToNat]
  refine aw_seq ?_
  refine aw_seq (aw_region (EF := EF0) hG (by rw [hN]; exact tr7_3) ?_)
  simp only [a7_3, go_sem, ↓reduceIte, Nat.reduceEqDiff, reduceCtorEq, Nat.reduceAdd, Nat.reduceLT, Nat.reduceLeDiff, Nat.reduceBNe, Nat.reduceBEq, Int.reduceToNat]
  refine aw_block ?_
  refine aw_loop (α := Nat) (fun i => (i ≤ l.length)) (fun i => ⟨mkE [(0, V.list (faults l) false), (1, V.list (faults l) false), (5, .int .i64 i)], mkH []⟩) (fun i => l.length - i) 0 (by simp) ?_ ?_
  · refine Le.mk _ _ ?_ ?_ rfl <;> simp only [go_sem, ↓reduceIte, Nat.reduceEqDiff, reduceCtorEq, Nat.reduceAdd, Nat.reduceLT, Nat.reduceLeDiff, Nat.reduceBNe, Nat.reduceBEq, Int.reduceToNat] <;> (repeat' apply And.intro) <;> (try first | rfl | exact wk_frzb rfl rfl rfl | exact wk_fn rfl | exact .nilo _ _ _ rfl rfl | exact wk_frzm rfl rfl (fun kv hk => by obtain ⟨_, _, rfl⟩ := List.mem_map.1 hk; rfl))
  · rintro i hi KL0 hKL0
    try dsimp only at *
    refine aw_seq ?_
    refine aw_seq (aw_region (EF := EF0) hG (by rw [hN]; exact tr7_4) ?_)
    simp only [a7_4, go_sem, ↓reduceIte, Nat.reduceEqDiff, reduceCtorEq, Nat.reduceAdd, Nat.reduceLT, Nat.reduceLeDiff, Nat.reduceBNe, Nat.reduceBEq, Int.reduceToNat]
    refine aw_cond (b := _) rfl (fun hc4 => ?_) (fun hc4 => ?_)
    · simp only [decide_eq_true_eq, decide_eq_false_iff_not, Bool.and_eq_true, Bool.or_eq_true, Bool.not_eq_true', Bool.not_eq_false', Bool.and_eq_false_iff, Bool.or_eq_false_iff, Int.ofNat_lt, Int.ofNat_le, Nat.not_lt, Nat.not_le, Int.not_lt, Int.not_le] at hc4
      have hc4' : i < l.length := by omega
      refine aw_skip ?_
      try simp only [go_sem, ↓reduceIte, Nat.reduceEqDiff, reduceCtorEq, Nat.reduceAdd, Nat.reduceLT, Nat.reduceLeDiff, Nat.reduceBNe, Nat.reduceBEq, Int.reduceToNat]
      refine aw_seq ?_
      refine aw_block ?_
      refine aw_seq (aw_regionD (EF := EF0) hG mixed (by rw [hN]; exact tr7_6) ok7_6 ?_)
      simp only [a7_6, d7_6, go_sem, ↓reduceIte, Nat.reduceEqDiff, reduceCtorEq, Nat.reduceAdd, Nat.reduceLT, Nat.reduceLeDiff, Nat.reduceBNe, Nat.reduceBEq, Int.reduceToNat, faults_at hc4', hc4']
      (repeat' apply And.intro) <;> (try first | omega | ((fail_if_success refine idW ?_); (fail_if_success refine idS ?_); intros; (repeat' apply And.intro) <;> first | assumption | omega | (simp_all; done)))
      refine aw_condF rfl ?_
      refine aw_skip ?_
      try simp only [go_sem, ↓reduceIte, Nat.reduceEqDiff, reduceCtorEq, Nat.reduceAdd, Nat.reduceLT, Nat.reduceLeDiff, Nat.reduceBNe, Nat.reduceBEq, Int.reduceToNat]
      refine aw_region (EF := EF0) hG (by rw [hN]; exact tr7_5) ?_
      simp only [a7_5, go_sem, ↓reduceIte, Nat.reduceEqDiff, reduceCtorEq, Nat.reduceAdd, Nat.reduceLT, Nat.reduceLeDiff, Nat.reduceBNe, Nat.reduceBEq, Int.reduceToNat, inI]
      (repeat' apply And.intro) <;> (try first | omega | ((fail_if_success refine idW ?_); (fail_if_success refine idS ?_); intros; (repeat' apply And.intro) <;> first | assumption | omega | (simp_all; done)))
      refine hKL0 (i + 1) _ ?_ ?_ ?_
      · (try dsimp only); first | (refine ⟨?_, ?_⟩ <;> first | omega | assumption) | omega | trivial
      · (try dsimp only); omega
      · refine Le.mk _ _ ?_ ?_ rfl <;> simp only [go_sem, ↓reduceIte, Nat.reduceEqDiff, reduceCtorEq, Nat.reduceAdd, Nat.reduceLT, Nat.reduceLeDiff, Nat.reduceBNe, Nat.reduceBEq, Int.reduceToNat] <;> (repeat' apply And.intro) <;> (try first | rfl | exact wk_frzb rfl rfl rfl | exact wk_fn rfl | exact .nilo _ _ _ rfl rfl | exact wk_frzm rfl rfl (fun kv hk => by obtain ⟨_, _, rfl⟩ := List.mem_map.1 hk; rfl))
    · simp only [decide_eq_true_eq, decide_eq_false_iff_not, Bool.and_eq_true, Bool.or_eq_true, Bool.not_eq_true', Bool.not_eq_false', Bool.and_eq_false_iff, Bool.or_eq_false_iff, Int.ofNat_lt, Int.ofNat_le, Nat.not_lt, Nat.not_le, Int.not_lt, Int.not_le] at hc4
      refine aw_exit ?_
      simp only [go_sem, ↓reduceIte, Nat.reduceEqDiff, reduceCtorEq, Nat.reduceAdd, Nat.reduceLT, Nat.reduceLeDiff, Nat.reduceBNe, Nat.reduceBEq, Int.reduceToNat]
      refine aw_seq (aw_region (EF := EF0) hG (by rw [hN]; exact tr7_8) ?_)
      simp only [a7_8, go_sem, ↓reduceIte, Nat.reduceEqDiff, reduceCtorEq, Nat.reduceAdd, Nat.reduceLT, Nat.reduceLeDiff, Nat.reduceBNe, Nat.reduceBEq, Int.reduceToNat]
      refine aw_ret ?_
      show Q _ _
      refine hQ _ _ (.inl rfl) ?_ ?_ ?_ <;> simp only [outφ, outV, AR.res, go_sem, ↓reduceIte, Nat.reduceEqDiff, reduceCtorEq, Nat.reduceAdd, Nat.reduceLT, Nat.reduceLeDiff, Nat.reduceBNe, Nat.reduceBEq, Int.reduceToNat, fSameF]
def exC (s : Int) : Coupon := ⟨⟨⟨[], 0, 0, [], [], 0, 0⟩, []⟩, [], s, 0⟩
def exT (s : Int) : Ticket := ⟨0, [], ⟨[], [], []⟩, [exC s], 0, [], 0, 5⟩
theorem exT_ok {s : Int} (h : inI s) : TkOk (exT s) := by
  unfold inI at h
  refine ⟨?_, by simp [exT], by simp [exT]⟩
  simp [exT, exC, Ticket.ok, Coupon.ok, Want.ok, Seg.ok, Person.ok, Charge.ok, inI, h]
theorem exV1 : voidT (exT 1) 5 = (exT 8, 0) := by simp [voidT, exT, exC, vErr, voidM, vUp, vTk]
theorem exV8 : voidT (exT 8) 5 = (Ticket.zero, 27) := by simp [voidT, exT, exC, vErr, voidM, vUp, vTk]
theorem ex1 : gOf aVd fVd [.agg [.int .i64 0, .str [], .str [], .str [], .str [], .list [[.str [], .int .i64 0, .int .i64 0, .str [], .str [], .int .i64 0, .int .i64 0, .str [], .str [], .int .i64 1, .int .i64 0]] false, .int .i64 0, .list [] false, .int .i64 0, .int .i64 5], .int .i64 5] = (TkOk (exT 1), .tup [.agg [.int .i64 0, .str [], .str [], .str [], .str [], .list [[.str [], .int .i64 0, .int .i64 0, .str [], .str [], .int .i64 0, .int .i64 0, .str [], .str [], .int .i64 8, .int .i64 0]] false, .int .i64 0, .list [] false, .int .i64 0, .int .i64 5], .int .i64 0]) := (gOf_eq aVd_inj (exT 1, 5)).trans (by rw [fVd, exV1]; rfl)
theorem ex8 : gOf aVd fVd [.agg [.int .i64 0, .str [], .str [], .str [], .str [], .list [[.str [], .int .i64 0, .int .i64 0, .str [], .str [], .int .i64 0, .int .i64 0, .str [], .str [], .int .i64 8, .int .i64 0]] false, .int .i64 0, .list [] false, .int .i64 0, .int .i64 5], .int .i64 5] = (TkOk (exT 8), .tup [.agg [.int .i64 0, .str [], .str [], .str [], .str [], .list [] false, .int .i64 0, .list [] false, .int .i64 0, .int .i64 0], .int .i64 27]) := (gOf_eq aVd_inj (exT 8, 5)).trans (by rw [fVd, exV8]; rfl)
theorem exK : gOf aTk fChT [.agg [.int .i64 0, .str [], .str [], .str [], .str [], .list [[.str [], .int .i64 0, .int .i64 0, .str [], .str [], .int .i64 0, .int .i64 0, .str [], .str [], .int .i64 1, .int .i64 0]] false, .int .i64 0, .list [] false, .int .i64 0, .int .i64 5]] = (TkOk (exT 1), .list (faults (chkT (exT 1))) false) := gOf_eq aTk_inj (exT 1)
theorem exK_len : (0 : Int) < ((chkT (exT 1)).length : Int) := by
  rw [chkT, fIf_t (b := !rightN (exT 1).number) (by decide)]
  simp only [List.length_append, List.length_cons]; omega
noncomputable def tEx : Tab
  | 10 => (gOf aVd fVd)
  | 8 => (gOf aTk fChT)
  | _ => gNo
theorem tEx_ok : ∀ f, PureC Tryd.prog UT f (tEx f) := fun f => by
  unfold tEx
  split
  · exact void_p
  · exact check_p
  · exact PureC.no
set_option maxHeartbeats 4000000 in
theorem ex_p : PureC Tryd.prog UT 6 (gOf aUnit fTrue) := by
  have hG := tEx_ok
  have hk1 := exT_ok (s := 1) (by unfold inI; omega)
  have hk8 := exT_ok (s := 8) (by unfold inI; omega)
  refine PureC.ofArgs aUnit_inj Tryd.func6 body6 nm6 res6 ?_
  rintro ⟨⟩ hv
  refine ⟨by rw [nt6]; simp [aUnit], fun C hN Q hQ => ?_⟩
  rw [nt6] at hN
  unfold c6
  refine aw_seq (aw_region (EF := EF0) hG (by rw [hN]; exact tr6_0) ?_)
  simp only [a6_0, go_sem, ↓reduceIte, Nat.reduceEqDiff, reduceCtorEq, Nat.reduceAdd, Nat.reduceLT, Nat.reduceLeDiff, Nat.reduceBNe, Nat.reduceBEq, Int.reduceToNat, aUnit, tEx, ex1, ex8, exK, hk1, hk8, exK_len]
  refine aw_seq (aw_region (EF := EF0) hG (by rw [hN]; exact tr6_1) ?_)
  simp only [a6_1, go_sem, ↓reduceIte, Nat.reduceEqDiff, reduceCtorEq, Nat.reduceAdd, Nat.reduceLT, Nat.reduceLeDiff, Nat.reduceBNe, Nat.reduceBEq, Int.reduceToNat, tEx, ex1, ex8, exK, hk1, hk8, exK_len]
  refine AW.le (s' := ⟨mkE [(1, .ptr 1 0)], mkH ([(1, .box 27 [.int .i64 0, .str [], .str [], .str [], .str [], .list [[.str [], .int .i64 0, .int .i64 0, .str [], .str [], .int .i64 0, .int .i64 0, .str [], .str [], .int .i64 1, .int .i64 0]] false, .int .i64 0, .list [] false, .int .i64 0, .int .i64 5])])⟩) (Le.mk _ _ (by (simp only [go_sem, ↓reduceIte, Nat.reduceEqDiff, reduceCtorEq, Nat.reduceAdd, Nat.reduceLT, Nat.reduceLeDiff, Nat.reduceBNe, Nat.reduceBEq, Int.reduceToNat]) <;> (repeat' apply And.intro) <;> (try first | exact wk_frzb rfl rfl rfl | rfl | exact wk_fn rfl | exact .nill _ | exact .nilo _ _ _ rfl rfl | exact wk_frz rfl (by simp only [ints_len, nats_len]) rfl (ints_pur _) | exact wk_frzm rfl rfl (fun kv hk => by obtain ⟨_, _, rfl⟩ := List.mem_map.1 hk; rfl))) (by (simp only [go_sem, ↓reduceIte, Nat.reduceEqDiff, reduceCtorEq, Nat.reduceAdd, Nat.reduceLT, Nat.reduceLeDiff, Nat.reduceBNe, Nat.reduceBEq, Int.reduceToNat]) <;> (repeat' apply And.intro) <;> (try first | exact wk_frzb rfl rfl rfl | rfl | exact wk_fn rfl | exact .nill _ | exact .nilo _ _ _ rfl rfl | exact wk_frz rfl (by simp only [ints_len, nats_len]) rfl (ints_pur _) | exact wk_frzm rfl rfl (fun kv hk => by obtain ⟨_, _, rfl⟩ := List.mem_map.1 hk; rfl))) rfl) ?_
  refine aw_seq (aw_region (EF := EF0) hG (by rw [hN]; exact tr6_2) ?_)
  simp only [a6_2, go_sem, ↓reduceIte, Nat.reduceEqDiff, reduceCtorEq, Nat.reduceAdd, Nat.reduceLT, Nat.reduceLeDiff, Nat.reduceBNe, Nat.reduceBEq, Int.reduceToNat, tEx, ex1, ex8, exK, hk1, hk8, exK_len]
  (repeat' apply And.intro) <;> (try first | omega | ((fail_if_success refine idW ?_); (fail_if_success refine idS ?_); intros; (repeat' apply And.intro) <;> first | assumption | omega | (simp_all; done)))
  refine aw_seq (aw_region (EF := EF0) hG (by rw [hN]; exact tr6_3) ?_)
  simp only [a6_3, go_sem, ↓reduceIte, Nat.reduceEqDiff, reduceCtorEq, Nat.reduceAdd, Nat.reduceLT, Nat.reduceLeDiff, Nat.reduceBNe, Nat.reduceBEq, Int.reduceToNat, tEx, ex1, ex8, exK, hk1, hk8, exK_len]
  (repeat' apply And.intro) <;> (try first | omega | ((fail_if_success refine idW ?_); (fail_if_success refine idS ?_); intros; (repeat' apply And.intro) <;> first | assumption | omega | (simp_all; done)))
  refine aw_seq (aw_region (EF := EF0) hG (by rw [hN]; exact tr6_4) ?_)
  simp only [a6_4, go_sem, ↓reduceIte, Nat.reduceEqDiff, reduceCtorEq, Nat.reduceAdd, Nat.reduceLT, Nat.reduceLeDiff, Nat.reduceBNe, Nat.reduceBEq, Int.reduceToNat, tEx, ex1, ex8, exK, hk1, hk8, exK_len]
  (repeat' apply And.intro) <;> (try first | omega | ((fail_if_success refine idW ?_); (fail_if_success refine idS ?_); intros; (repeat' apply And.intro) <;> first | assumption | omega | (simp_all; done)))
  refine aw_ret ?_
  show Q _ _
  refine hQ _ _ (.inl rfl) ?_ ?_ ?_ <;> simp only [outφ, outV, AR.res, go_sem, ↓reduceIte, Nat.reduceEqDiff, reduceCtorEq, Nat.reduceAdd, Nat.reduceLT, Nat.reduceLeDiff, Nat.reduceBNe, Nat.reduceBEq, Int.reduceToNat, fTrue]
theorem fChT_eq2 (t : Ticket) : gOf aTk fChT [.agg [.int .i64 t.number, .str t.locator, .str t.person.last, .str t.person.first, .str t.person.type, .list (t.coupons.map Coupon.enc) false, .int .i64 t.fare, .list (t.taxes.map Charge.enc) false, .int .i64 t.total, .int .i64 t.issued]] = (TkOk t, .list (faults (chkT t)) false) := gOf_eq aTk_inj t
theorem chk_len {t : Ticket} (h : TkOk t) : (chkT t).length ≤ 140737488355328 := by
  obtain ⟨_, h1, h2⟩ := h
  have a1 := fIf_le (!rightN t.number) 2 sNum; have a2 := fIf_le (!locB t.locator) 5 sLoc; have a3 := fIf_le (perB t.person) 5 sPer; have a4 := fIf_le (cSz t.coupons) 4 sCps; have a5 := cTo_len t.coupons t.coupons.length
  have a6 := fIf_le (!amtB t.fare) 11 sFar; have a7 := fIf_le (farB t) 36 sFar; have a8 := tTo_len t.taxes t.taxes.length; have a9 := fIf_le (totB t) 36 sTot; have a10 := fIf_le (!dayB t.issued) 12 sIss
  rw [chkT, cupF]; simp only [List.length_append]; omega
def fL1 (t : Ticket) : Prop × V := (t.ok, .bool true)
noncomputable def tL1 : Tab
  | 6 => (gOf aUnit fTrue)
  | 8 => (gOf aTk fChT)
  | 9 => (gOf aTk fChT)
  | 7 => (gOf aSameF fSameF)
  | _ => gNo
theorem tL1_ok : ∀ f, PureC Tryd.prog UT f (tL1 f) := fun f => by
  unfold tL1
  split
  · exact ex_p
  · exact check_p
  · exact rcheck_p
  · exact sameF40_p
  · exact PureC.no
set_option maxHeartbeats 4000000 in
theorem law1_p : PureC Tryd.prog UT 3 (gOf aTk fL1) := by
  have hG := tL1_ok
  refine PureC.ofArgs aTk_inj Tryd.func3 body3 nm3 res3 ?_
  rintro t hv
  refine ⟨by rw [nt3]; simp [aTk], fun C hN Q hQ => ?_⟩
  rw [nt3] at hN
  unfold c3
  have hok : t.ok := hv
  refine aw_seq (aw_region (EF := EF0) hG (by rw [hN]; exact tr3_0) ?_)
  simp only [a3_0, go_sem, ↓reduceIte, Nat.reduceEqDiff, reduceCtorEq, Nat.reduceAdd, Nat.reduceLT, Nat.reduceLeDiff, Nat.reduceBNe, Nat.reduceBEq, Int.reduceToNat, aTk, Ticket.enc, tL1, fTrue_eq, fChT_eq2, fSameF_eq]
  refine aw_seq ?_
  refine aw_seq (aw_region (EF := EF0) hG (by rw [hN]; exact tr3_1) ?_)
  simp only [a3_1, go_sem, ↓reduceIte, Nat.reduceEqDiff, reduceCtorEq, Nat.reduceAdd, Nat.reduceLT, Nat.reduceLeDiff, Nat.reduceBNe, Nat.reduceBEq, Int.reduceToNat, List.length_map, tL1, fTrue_eq, fChT_eq2, fSameF_eq]
  (repeat' apply And.intro) <;> (try first | omega | ((fail_if_success refine idW ?_); (fail_if_success refine idS ?_); intros; (repeat' apply And.intro) <;> first | assumption | omega | (simp_all; done)))
  refine aw_cond (b := _) rfl (fun hb1 => ?_) (fun hb1 => ?_)
  · skip
    refine aw_seq (aw_region (EF := EF0) hG (by rw [hN]; exact tr3_2) ?_)
    simp only [a3_2, go_sem, ↓reduceIte, Nat.reduceEqDiff, reduceCtorEq, Nat.reduceAdd, Nat.reduceLT, Nat.reduceLeDiff, Nat.reduceBNe, Nat.reduceBEq, Int.reduceToNat, tL1, fTrue_eq, fChT_eq2, fSameF_eq]
    (repeat' apply And.intro) <;> (try first | omega | ((fail_if_success refine idW ?_); (fail_if_success refine idS ?_); intros; (repeat' apply And.intro) <;> first | assumption | omega | (simp_all; done)))
    refine aw_ret ?_
    show Q _ _
    refine hQ _ _ (.inl rfl) ?_ ?_ ?_ <;> simp only [outφ, outV, AR.res, go_sem, ↓reduceIte, Nat.reduceEqDiff, reduceCtorEq, Nat.reduceAdd, Nat.reduceLT, Nat.reduceLeDiff, Nat.reduceBNe, Nat.reduceBEq, Int.reduceToNat, fL1]
  · skip
    have hTk : TkOk t := ⟨hok, by simp at hb1; omega, by simp at hb1; omega⟩
    have hcl := chk_len hTk
    refine aw_skip ?_
    try simp only [go_sem, ↓reduceIte, Nat.reduceEqDiff, reduceCtorEq, Nat.reduceAdd, Nat.reduceLT, Nat.reduceLeDiff, Nat.reduceBNe, Nat.reduceBEq, Int.reduceToNat]
    refine aw_seq (aw_regionD (EF := EF0) hG mixed (by rw [hN]; exact tr3_3) ok3_3 ?_)
    simp only [a3_3, d3_3, go_sem, ↓reduceIte, Nat.reduceEqDiff, reduceCtorEq, Nat.reduceAdd, Nat.reduceLT, Nat.reduceLeDiff, Nat.reduceBNe, Nat.reduceBEq, Int.reduceToNat, hTk, hcl, tL1, fTrue_eq, fChT_eq2, fSameF_eq]
    (repeat' apply And.intro) <;> (try first | omega | ((fail_if_success refine idW ?_); (fail_if_success refine idS ?_); intros; (repeat' apply And.intro) <;> first | assumption | omega | (simp_all; done)))
    refine aw_ret ?_
    show Q _ _
    refine hQ _ _ (.inl rfl) ?_ ?_ ?_ <;> simp only [outφ, outV, AR.res, go_sem, ↓reduceIte, Nat.reduceEqDiff, reduceCtorEq, Nat.reduceAdd, Nat.reduceLT, Nat.reduceLeDiff, Nat.reduceBNe, Nat.reduceBEq, Int.reduceToNat, fL1]
end Go.Proofs.YtffapkiilkeadaaDoor
