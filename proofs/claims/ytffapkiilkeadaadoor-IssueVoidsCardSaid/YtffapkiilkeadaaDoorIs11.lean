/- The reference's Check of a ticket, all. -/
import Derived.Test.YtffapkiilkeadaaDoorIs10
namespace Go.Proofs.YtffapkiilkeadaaDoor
open Go Go.RowKit
set_option linter.unusedSimpArgs false
set_option linter.unusedVariables false
set_option linter.deprecated false
theorem fSms_eq2 (t : Ticket) : gOf aTk fSms [.agg [.int .i64 t.number, .str t.locator, .str t.person.last, .str t.person.first, .str t.person.type, .list (t.coupons.map Coupon.enc) false, .int .i64 t.fare, .list (t.taxes.map Charge.enc) false, .int .i64 t.total, .int .i64 t.issued]] = (TkOk t, .list (faults (sumsF t)) false) := fSms_eq t
theorem day_neg (n : Int) : (decide (n < 0) || decide (36525 ≤ n)) = !dayB n := by unfold dayB; rw [Bool.not_and, ← decide_not, ← decide_not]; congr 1 <;> exact decide_eq_decide.2 (by omega)
noncomputable def tRk : Tab
  | 24 => (gOf aInt fRgt)
  | 25 => (gOf aStr fLc)
  | 26 => (gOf aStr fName)
  | 27 => gCode
  | 28 => (gOf aCps fRCp)
  | 29 => (gOf aTk fSms)
  | _ => gNo
theorem tRk_ok : ∀ f, PureC Tryd.prog UT f (tRk f) := fun f => by
  unfold tRk
  split
  · exact rright_p
  · exact rlright_p
  · exact rname_p
  · exact rcode_p
  · exact rcoupons_p
  · exact sums_p
  · exact PureC.no
set_option maxHeartbeats 8000000 in
theorem rcheck_p : PureC Tryd.prog UT 9 (gOf aTk fChT) := by
  have hG := tRk_ok
  refine PureC.ofArgs aTk_inj Tryd.func9 body9 nm9 res9 ?_
  rintro t hv
  refine ⟨by rw [nt9]; simp [aTk], fun C hN Q hQ => ?_⟩
  rw [nt9] at hN
  unfold c9
  have hTk : TkOk t := hv
  obtain ⟨hok, hcl, htl⟩ := id hTk
  have hoc := hok.2.2.2.1
  have hnum : inI t.number := hok.1
  have hloc : t.locator.length ≤ 140737488355328 := hok.2.1
  obtain ⟨hp1, hp2, hp3⟩ : t.person.last.length ≤ 140737488355328 ∧ t.person.first.length ≤ 140737488355328 ∧ t.person.type.length ≤ 140737488355328 := hok.2.2.1
  have hcpl : (cupF t.coupons).length ≤ 301 := by have h1 := fIf_le (cSz t.coupons) 4 sCps; have h2 := cTo_len t.coupons t.coupons.length; rw [cupF, List.length_append]; omega
  have hsml : (sumsF t).length ≤ 103 := by have h1 := fIf_le (!amtB t.fare) 11 sFar; have h2 := fIf_le (farB t) 36 sFar; have h3 := tTo_len t.taxes t.taxes.length; have h4 := fIf_le (totB t) 36 sTot; rw [sumsF]; simp only [List.length_append]; omega
  have hlc1 : t.coupons.length ≤ 1000 := by omega
  refine aw_seq (aw_region (EF := EF0) hG (by rw [hN]; exact tr9_0) ?_)
  simp only [a9_0, go_sem, ↓reduceIte, Nat.reduceEqDiff, reduceCtorEq, Nat.reduceAdd, Nat.reduceLT, Nat.reduceLeDiff, Nat.reduceBNe, Nat.reduceBEq, Int.reduceToNat, aTk, Ticket.enc, tRk, fRgt_eq, fLc_eq, fName_eq, fCode_eq, fRCp_eq, fSms_eq2, imp_self, and_true, true_and]
  refine aw_seq (aw_region (EF := EF0) hG (by rw [hN]; exact tr9_1) ?_)
  simp only [a9_1, go_sem, ↓reduceIte, Nat.reduceEqDiff, reduceCtorEq, Nat.reduceAdd, Nat.reduceLT, Nat.reduceLeDiff, Nat.reduceBNe, Nat.reduceBEq, Int.reduceToNat, tRk, fRgt_eq, fLc_eq, fName_eq, fCode_eq, fRCp_eq, fSms_eq2, imp_self, and_true, true_and]
  refine aw_cut (α := (List Fault)) (fun g1 => (g1 = ([] : List Fault) ++ fIf (!rightN t.number) 2 (sNum)) ∧ (g1.length ≤ ([] : List Fault).length + 1)) (fun g1 => ⟨mkE [(1, V.ptr 1 0), (3, .own 999 g1.length)], mkH [(1, Ob.box 27 [V.int IntKind.i64 t.number, V.str t.locator, V.str t.person.last, V.str t.person.first, V.str t.person.type, V.list (List.map Coupon.enc t.coupons) false, V.int IntKind.i64 t.fare, V.list (List.map Charge.enc t.taxes) false, V.int IntKind.i64 t.total, V.int IntKind.i64 t.issued]), (999, .arr 45 2 (faults g1))]⟩) ?_ ?_
  · intro KC2 hKC2
    refine AW.le (s' := ⟨mkE [(1, .ptr 1 0), (3, .own 999 0)], mkH ([(1, .box 27 (tCells t)), (999, .arr 45 2 (faults []))])⟩) (Le.mk _ _ (by (simp only [go_sem, ↓reduceIte, Nat.reduceEqDiff, reduceCtorEq, Nat.reduceAdd, Nat.reduceLT, Nat.reduceLeDiff, Nat.reduceBNe, Nat.reduceBEq, Int.reduceToNat, tCells]) <;> (repeat' apply And.intro) <;> (try first | exact wk_frzb rfl rfl rfl | rfl | exact wk_fn rfl | exact .nill _ | exact .nilo _ _ _ rfl rfl | exact wk_frz rfl (by simp only [ints_len, nats_len]) rfl (ints_pur _) | exact wk_frzm rfl rfl (fun kv hk => by obtain ⟨_, _, rfl⟩ := List.mem_map.1 hk; rfl))) (by (simp only [go_sem, ↓reduceIte, Nat.reduceEqDiff, reduceCtorEq, Nat.reduceAdd, Nat.reduceLT, Nat.reduceLeDiff, Nat.reduceBNe, Nat.reduceBEq, Int.reduceToNat, tCells]) <;> (repeat' apply And.intro) <;> (try first | exact wk_frzb rfl rfl rfl | rfl | exact wk_fn rfl | exact .nill _ | exact .nilo _ _ _ rfl rfl | exact wk_frz rfl (by simp only [ints_len, nats_len]) rfl (ints_pur _) | exact wk_frzm rfl rfl (fun kv hk => by obtain ⟨_, _, rfl⟩ := List.mem_map.1 hk; rfl))) rfl) ?_
    simp only [tCells]
    refine aw_seq (aw_region (EF := EF0) hG (by rw [hN]; exact tr9_2) ?_)
    simp only [a9_2, go_sem, ↓reduceIte, Nat.reduceEqDiff, reduceCtorEq, Nat.reduceAdd, Nat.reduceLT, Nat.reduceLeDiff, Nat.reduceBNe, Nat.reduceBEq, Int.reduceToNat, hnum, tRk, fRgt_eq, fLc_eq, fName_eq, fCode_eq, fRCp_eq, fSms_eq2, imp_self, and_true, true_and]
    (repeat' apply And.intro) <;> (try first | omega | ((fail_if_success refine idW ?_); (fail_if_success refine idS ?_); intros; (repeat' apply And.intro) <;> first | assumption | omega | (simp_all; done)))
    refine aw_cond (b := _) rfl (fun hb2 => ?_) (fun hb2 => ?_)
    · skip
      refine aw_region (EF := EF0) hG (by rw [hN]; exact tr9_3) ?_
      simp only [a9_3, go_sem, ↓reduceIte, Nat.reduceEqDiff, reduceCtorEq, Nat.reduceAdd, Nat.reduceLT, Nat.reduceLeDiff, Nat.reduceBNe, Nat.reduceBEq, Int.reduceToNat, tRk, fRgt_eq, fLc_eq, fName_eq, fCode_eq, fRCp_eq, fSms_eq2, imp_self, and_true, true_and]
      (repeat' apply And.intro) <;> (try first | omega | ((fail_if_success refine idW ?_); (fail_if_success refine idS ?_); intros; (repeat' apply And.intro) <;> first | assumption | omega | (simp_all; done)))
      refine hKC2 (([] : List Fault) ++ [⟨2, sNum⟩]) _ ?_ ?_
      · (try dsimp only); exact ⟨by rw [fIf_t (show (!rightN t.number) = true from hb2)], by simp⟩
      · refine Le.mk _ _ ?_ ?_ rfl <;> simp only [go_sem, ↓reduceIte, Nat.reduceEqDiff, reduceCtorEq, Nat.reduceAdd, Nat.reduceLT, Nat.reduceLeDiff, Nat.reduceBNe, Nat.reduceBEq, Int.reduceToNat, List.length_append, List.length_cons, List.length_nil] <;> (repeat' apply And.intro) <;> (try first | rfl | exact wk_frzb rfl rfl rfl | exact wk_fn rfl | exact .nilo _ _ _ rfl rfl | exact wk_frzm rfl rfl (fun kv hk => by obtain ⟨_, _, rfl⟩ := List.mem_map.1 hk; rfl))
    · skip
      refine aw_skip ?_
      try simp only [go_sem, ↓reduceIte, Nat.reduceEqDiff, reduceCtorEq, Nat.reduceAdd, Nat.reduceLT, Nat.reduceLeDiff, Nat.reduceBNe, Nat.reduceBEq, Int.reduceToNat]
      refine hKC2 (([] : List Fault)) _ ?_ ?_
      · (try dsimp only); exact ⟨by rw [fIf_f (show (!rightN t.number) = false from hb2), List.append_nil], by omega⟩
      · refine Le.mk _ _ ?_ ?_ rfl <;> simp only [go_sem, ↓reduceIte, Nat.reduceEqDiff, reduceCtorEq, Nat.reduceAdd, Nat.reduceLT, Nat.reduceLeDiff, Nat.reduceBNe, Nat.reduceBEq, Int.reduceToNat] <;> (repeat' apply And.intro) <;> (try first | rfl | exact wk_frzb rfl rfl rfl | exact wk_fn rfl | exact .nilo _ _ _ rfl rfl | exact wk_frzm rfl rfl (fun kv hk => by obtain ⟨_, _, rfl⟩ := List.mem_map.1 hk; rfl))
  · rintro g1 ⟨hg1, lg1⟩
    simp only [List.length_nil] at lg1
    refine aw_cut (α := (List Fault)) (fun g2 => (g2 = g1 ++ fIf (!locB t.locator) 5 (sLoc)) ∧ (g2.length ≤ g1.length + 1)) (fun g2 => ⟨mkE [(1, V.ptr 1 0), (3, .own 999 g2.length)], mkH [(1, Ob.box 27 [V.int IntKind.i64 t.number, V.str t.locator, V.str t.person.last, V.str t.person.first, V.str t.person.type, V.list (List.map Coupon.enc t.coupons) false, V.int IntKind.i64 t.fare, V.list (List.map Charge.enc t.taxes) false, V.int IntKind.i64 t.total, V.int IntKind.i64 t.issued]), (999, .arr 45 2 (faults g2))]⟩) ?_ ?_
    · intro KC4 hKC4
      refine aw_seq (aw_region (EF := EF0) hG (by rw [hN]; exact tr9_4) ?_)
      simp only [a9_4, go_sem, ↓reduceIte, Nat.reduceEqDiff, reduceCtorEq, Nat.reduceAdd, Nat.reduceLT, Nat.reduceLeDiff, Nat.reduceBNe, Nat.reduceBEq, Int.reduceToNat, hloc, tRk, fRgt_eq, fLc_eq, fName_eq, fCode_eq, fRCp_eq, fSms_eq2, imp_self, and_true, true_and]
      (repeat' apply And.intro) <;> (try first | omega | ((fail_if_success refine idW ?_); (fail_if_success refine idS ?_); intros; (repeat' apply And.intro) <;> first | assumption | omega | (simp_all; done)))
      refine aw_cond (b := _) rfl (fun hb4 => ?_) (fun hb4 => ?_)
      · skip
        refine aw_region (EF := EF0) hG (by rw [hN]; exact tr9_5) ?_
        simp only [a9_5, go_sem, ↓reduceIte, Nat.reduceEqDiff, reduceCtorEq, Nat.reduceAdd, Nat.reduceLT, Nat.reduceLeDiff, Nat.reduceBNe, Nat.reduceBEq, Int.reduceToNat, tRk, fRgt_eq, fLc_eq, fName_eq, fCode_eq, fRCp_eq, fSms_eq2, imp_self, and_true, true_and]
        (repeat' apply And.intro) <;> (try first | omega | ((fail_if_success refine idW ?_); (fail_if_success refine idS ?_); intros; (repeat' apply And.intro) <;> first | assumption | omega | (simp_all; done)))
        refine hKC4 (g1 ++ [⟨5, sLoc⟩]) _ ?_ ?_
        · (try dsimp only); exact ⟨by rw [fIf_t (show (!locB t.locator) = true from hb4)], by simp⟩
        · refine Le.mk _ _ ?_ ?_ rfl <;> simp only [go_sem, ↓reduceIte, Nat.reduceEqDiff, reduceCtorEq, Nat.reduceAdd, Nat.reduceLT, Nat.reduceLeDiff, Nat.reduceBNe, Nat.reduceBEq, Int.reduceToNat, List.length_append, List.length_cons, List.length_nil] <;> (repeat' apply And.intro) <;> (try first | rfl | exact wk_frzb rfl rfl rfl | exact wk_fn rfl | exact .nilo _ _ _ rfl rfl | exact wk_frzm rfl rfl (fun kv hk => by obtain ⟨_, _, rfl⟩ := List.mem_map.1 hk; rfl))
      · skip
        refine aw_skip ?_
        try simp only [go_sem, ↓reduceIte, Nat.reduceEqDiff, reduceCtorEq, Nat.reduceAdd, Nat.reduceLT, Nat.reduceLeDiff, Nat.reduceBNe, Nat.reduceBEq, Int.reduceToNat]
        refine hKC4 (g1) _ ?_ ?_
        · (try dsimp only); exact ⟨by rw [fIf_f (show (!locB t.locator) = false from hb4), List.append_nil], by omega⟩
        · refine Le.mk _ _ ?_ ?_ rfl <;> simp only [go_sem, ↓reduceIte, Nat.reduceEqDiff, reduceCtorEq, Nat.reduceAdd, Nat.reduceLT, Nat.reduceLeDiff, Nat.reduceBNe, Nat.reduceBEq, Int.reduceToNat] <;> (repeat' apply And.intro) <;> (try first | rfl | exact wk_frzb rfl rfl rfl | exact wk_fn rfl | exact .nilo _ _ _ rfl rfl | exact wk_frzm rfl rfl (fun kv hk => by obtain ⟨_, _, rfl⟩ := List.mem_map.1 hk; rfl))
    · rintro g2 ⟨hg2, lg2⟩
      refine aw_cut (α := (List Fault)) (fun g3 => (g3 = g2 ++ fIf (perB t.person) 5 (sPer)) ∧ (g3.length ≤ g2.length + 1)) (fun g3 => ⟨mkE [(1, V.ptr 1 0), (3, .own 999 g3.length)], mkH [(1, Ob.box 27 [V.int IntKind.i64 t.number, V.str t.locator, V.str t.person.last, V.str t.person.first, V.str t.person.type, V.list (List.map Coupon.enc t.coupons) false, V.int IntKind.i64 t.fare, V.list (List.map Charge.enc t.taxes) false, V.int IntKind.i64 t.total, V.int IntKind.i64 t.issued]), (999, .arr 45 2 (faults g3))]⟩) ?_ ?_
      · intro KC6 hKC6
        refine aw_seq (aw_region (EF := EF0) hG (by rw [hN]; exact tr9_6) ?_)
        simp only [a9_6, go_sem, ↓reduceIte, Nat.reduceEqDiff, reduceCtorEq, Nat.reduceAdd, Nat.reduceLT, Nat.reduceLeDiff, Nat.reduceBNe, Nat.reduceBEq, Int.reduceToNat, hp1, hp2, hp3, tRk, fRgt_eq, fLc_eq, fName_eq, fCode_eq, fRCp_eq, fSms_eq2, imp_self, and_true, true_and]
        (repeat' apply And.intro) <;> (try first | omega | ((fail_if_success refine idW ?_); (fail_if_success refine idS ?_); intros; (repeat' apply And.intro) <;> first | assumption | omega | (simp_all; done)))
        refine aw_cond (b := _) rfl (fun hb6 => ?_) (fun hb6 => ?_)
        · skip
          refine aw_region (EF := EF0) hG (by rw [hN]; exact tr9_7) ?_
          simp only [a9_7, go_sem, ↓reduceIte, Nat.reduceEqDiff, reduceCtorEq, Nat.reduceAdd, Nat.reduceLT, Nat.reduceLeDiff, Nat.reduceBNe, Nat.reduceBEq, Int.reduceToNat, tRk, fRgt_eq, fLc_eq, fName_eq, fCode_eq, fRCp_eq, fSms_eq2, imp_self, and_true, true_and]
          (repeat' apply And.intro) <;> (try first | omega | ((fail_if_success refine idW ?_); (fail_if_success refine idS ?_); intros; (repeat' apply And.intro) <;> first | assumption | omega | (simp_all; done)))
          refine hKC6 (g2 ++ [⟨5, sPer⟩]) _ ?_ ?_
          · (try dsimp only); exact ⟨by rw [fIf_t (show (perB t.person) = true from hb6)], by simp⟩
          · refine Le.mk _ _ ?_ ?_ rfl <;> simp only [go_sem, ↓reduceIte, Nat.reduceEqDiff, reduceCtorEq, Nat.reduceAdd, Nat.reduceLT, Nat.reduceLeDiff, Nat.reduceBNe, Nat.reduceBEq, Int.reduceToNat, List.length_append, List.length_cons, List.length_nil] <;> (repeat' apply And.intro) <;> (try first | rfl | exact wk_frzb rfl rfl rfl | exact wk_fn rfl | exact .nilo _ _ _ rfl rfl | exact wk_frzm rfl rfl (fun kv hk => by obtain ⟨_, _, rfl⟩ := List.mem_map.1 hk; rfl))
        · skip
          refine aw_skip ?_
          try simp only [go_sem, ↓reduceIte, Nat.reduceEqDiff, reduceCtorEq, Nat.reduceAdd, Nat.reduceLT, Nat.reduceLeDiff, Nat.reduceBNe, Nat.reduceBEq, Int.reduceToNat]
          refine hKC6 (g2) _ ?_ ?_
          · (try dsimp only); exact ⟨by rw [fIf_f (show (perB t.person) = false from hb6), List.append_nil], by omega⟩
          · refine Le.mk _ _ ?_ ?_ rfl <;> simp only [go_sem, ↓reduceIte, Nat.reduceEqDiff, reduceCtorEq, Nat.reduceAdd, Nat.reduceLT, Nat.reduceLeDiff, Nat.reduceBNe, Nat.reduceBEq, Int.reduceToNat] <;> (repeat' apply And.intro) <;> (try first | rfl | exact wk_frzb rfl rfl rfl | exact wk_fn rfl | exact .nilo _ _ _ rfl rfl | exact wk_frzm rfl rfl (fun kv hk => by obtain ⟨_, _, rfl⟩ := List.mem_map.1 hk; rfl))
      · rintro g3 ⟨hg3, lg3⟩
        refine aw_seq (aw_region (EF := EF0) hG (by rw [hN]; exact tr9_8) ?_)
        simp only [a9_8, go_sem, ↓reduceIte, Nat.reduceEqDiff, reduceCtorEq, Nat.reduceAdd, Nat.reduceLT, Nat.reduceLeDiff, Nat.reduceBNe, Nat.reduceBEq, Int.reduceToNat, hlc1, hoc, faults_app, faults_len, tRk, fRgt_eq, fLc_eq, fName_eq, fCode_eq, fRCp_eq, fSms_eq2, imp_self, and_true, true_and]
        (repeat' apply And.intro) <;> (try first | omega | ((fail_if_success refine idW ?_); (fail_if_success refine idS ?_); intros; (repeat' apply And.intro) <;> first | assumption | omega | (simp_all; done)) | exact hoc.2)
        obtain ⟨g4, hg4⟩ : ∃ g4, g4 = g3 ++ cupF t.coupons := ⟨_, rfl⟩
        have hl4 : g3.length + (cupF t.coupons).length = g4.length := by rw [hg4, List.length_append]
        simp only [← hg4, hl4]
        refine aw_seq (aw_region (EF := EF0) hG (by rw [hN]; exact tr9_9) ?_)
        simp only [a9_9, go_sem, ↓reduceIte, Nat.reduceEqDiff, reduceCtorEq, Nat.reduceAdd, Nat.reduceLT, Nat.reduceLeDiff, Nat.reduceBNe, Nat.reduceBEq, Int.reduceToNat, hTk, faults_app, faults_len, tRk, fRgt_eq, fLc_eq, fName_eq, fCode_eq, fRCp_eq, fSms_eq2, imp_self, and_true, true_and]
        (repeat' apply And.intro) <;> (try first | omega | ((fail_if_success refine idW ?_); (fail_if_success refine idS ?_); intros; (repeat' apply And.intro) <;> first | assumption | omega | (simp_all; done)))
        obtain ⟨g5, hg5⟩ : ∃ g5, g5 = g4 ++ sumsF t := ⟨_, rfl⟩
        have hl5 : g4.length + (sumsF t).length = g5.length := by rw [hg5, List.length_append]
        simp only [← hg5, hl5]
        refine aw_cut (α := (List Fault)) (fun g6 => (g6 = g5 ++ fIf (!dayB t.issued) 12 (sIss)) ∧ (g6.length ≤ g5.length + 1)) (fun g6 => ⟨mkE [(3, .own 999 g6.length)], mkH [(999, .arr 45 2 (faults g6))]⟩) ?_ ?_
        · intro KC10 hKC10
          refine aw_seq (aw_region (EF := EF0) hG (by rw [hN]; exact tr9_10) ?_)
          simp only [a9_10, go_sem, ↓reduceIte, Nat.reduceEqDiff, reduceCtorEq, Nat.reduceAdd, Nat.reduceLT, Nat.reduceLeDiff, Nat.reduceBNe, Nat.reduceBEq, Int.reduceToNat, day_neg, tRk, fRgt_eq, fLc_eq, fName_eq, fCode_eq, fRCp_eq, fSms_eq2, imp_self, and_true, true_and]
          (repeat' apply And.intro) <;> (try first | omega | ((fail_if_success refine idW ?_); (fail_if_success refine idS ?_); intros; (repeat' apply And.intro) <;> first | assumption | omega | (simp_all; done)))
          refine aw_cond (b := _) rfl (fun hb10 => ?_) (fun hb10 => ?_)
          · skip
            refine aw_region (EF := EF0) hG (by rw [hN]; exact tr9_11) ?_
            simp only [a9_11, go_sem, ↓reduceIte, Nat.reduceEqDiff, reduceCtorEq, Nat.reduceAdd, Nat.reduceLT, Nat.reduceLeDiff, Nat.reduceBNe, Nat.reduceBEq, Int.reduceToNat, tRk, fRgt_eq, fLc_eq, fName_eq, fCode_eq, fRCp_eq, fSms_eq2, imp_self, and_true, true_and]
            (repeat' apply And.intro) <;> (try first | omega | ((fail_if_success refine idW ?_); (fail_if_success refine idS ?_); intros; (repeat' apply And.intro) <;> first | assumption | omega | (simp_all; done)))
            refine hKC10 (g5 ++ [⟨12, sIss⟩]) _ ?_ ?_
            · (try dsimp only); exact ⟨by rw [fIf_t (show (!dayB t.issued) = true from hb10)], by simp⟩
            · refine Le.mk _ _ ?_ ?_ rfl <;> simp only [go_sem, ↓reduceIte, Nat.reduceEqDiff, reduceCtorEq, Nat.reduceAdd, Nat.reduceLT, Nat.reduceLeDiff, Nat.reduceBNe, Nat.reduceBEq, Int.reduceToNat, List.length_append, List.length_cons, List.length_nil] <;> (repeat' apply And.intro) <;> (try first | rfl | exact wk_frzb rfl rfl rfl | exact wk_fn rfl | exact .nilo _ _ _ rfl rfl | exact wk_frzm rfl rfl (fun kv hk => by obtain ⟨_, _, rfl⟩ := List.mem_map.1 hk; rfl))
          · skip
            refine aw_skip ?_
            try simp only [go_sem, ↓reduceIte, Nat.reduceEqDiff, reduceCtorEq, Nat.reduceAdd, Nat.reduceLT, Nat.reduceLeDiff, Nat.reduceBNe, Nat.reduceBEq, Int.reduceToNat]
            refine hKC10 (g5) _ ?_ ?_
            · (try dsimp only); exact ⟨by rw [fIf_f (show (!dayB t.issued) = false from hb10), List.append_nil], by omega⟩
            · refine Le.mk _ _ ?_ ?_ rfl <;> simp only [go_sem, ↓reduceIte, Nat.reduceEqDiff, reduceCtorEq, Nat.reduceAdd, Nat.reduceLT, Nat.reduceLeDiff, Nat.reduceBNe, Nat.reduceBEq, Int.reduceToNat] <;> (repeat' apply And.intro) <;> (try first | rfl | exact wk_frzb rfl rfl rfl | exact wk_fn rfl | exact .nilo _ _ _ rfl rfl | exact wk_frzm rfl rfl (fun kv hk => by obtain ⟨_, _, rfl⟩ := List.mem_map.1 hk; rfl))
        · rintro g6 ⟨hg6, lg6⟩
          have hend : g6 = chkT t := by rw [hg6, hg5, hg4, hg3, hg2, hg1, sumsF, chkT]; simp only [List.append_assoc, List.nil_append]
          refine aw_seq (aw_region (EF := EF0) hG (by rw [hN]; exact tr9_12) ?_)
          simp only [a9_12, go_sem, ↓reduceIte, Nat.reduceEqDiff, reduceCtorEq, Nat.reduceAdd, Nat.reduceLT, Nat.reduceLeDiff, Nat.reduceBNe, Nat.reduceBEq, Int.reduceToNat, tRk, fRgt_eq, fLc_eq, fName_eq, fCode_eq, fRCp_eq, fSms_eq2, imp_self, and_true, true_and]
          refine AW.le (s' := ⟨mkE [(2, .list (faults g6) false)], mkH []⟩) (Le.mk _ _ ?_ ?_ rfl) (aw_ret (hQ _ _ (.inl rfl) ?_ ?_ ?_)) <;> simp only [outφ, outV, AR.res, go_sem, ↓reduceIte, Nat.reduceEqDiff, reduceCtorEq, Nat.reduceAdd, Nat.reduceLT, Nat.reduceLeDiff, Nat.reduceBNe, Nat.reduceBEq, Int.reduceToNat, fChT, hend]
          · exact wk_frz rfl (by rw [faults_len]) rfl (faults_pur _)
end Go.Proofs.YtffapkiilkeadaaDoor
