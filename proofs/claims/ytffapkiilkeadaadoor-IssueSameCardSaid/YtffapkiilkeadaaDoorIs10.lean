/- The reference's Check of a ticket: amounts, all. -/
import Derived.Test.YtffapkiilkeadaaDoorIs9
namespace Go.Proofs.YtffapkiilkeadaaDoor
open Go Go.RowKit
set_option linter.unusedSimpArgs false
set_option linter.unusedVariables false
set_option linter.deprecated false
theorem cSum_bd (l : List Coupon) : ∀ i, 0 ≤ cSum l i ∧ cSum l i ≤ 1099511627776 * (i : Int)
  | 0 => by simp [cSum]
  | i + 1 => by
    have ih := cSum_bd l i
    rw [cSum]
    split
    · rename_i h; have := amt_bd h; omega
    · omega
theorem tTo_len (l : List Charge) : ∀ i, (tTo l i).length ≤ i
  | 0 => Nat.le_refl _
  | i + 1 => by have := tTo_len l i; have := fIf_le (!amtB (l.getD i Charge.zero).amount) 11 (sTax ++ dec i); rw [tTo, List.length_append]; omega
def sumsF (t : Ticket) : List Fault := fIf (!amtB t.fare) 11 sFar ++ fIf (farB t) 36 sFar ++ tTo t.taxes t.taxes.length ++ fIf (totB t) 36 sTot
def fSms (t : Ticket) : Prop × V := (TkOk t, .list (faults (sumsF t)) false)
theorem fSms_eq (t : Ticket) : gOf aTk fSms [.agg (tCells t)] = (TkOk t, .list (faults (sumsF t)) false) := gOf_eq aTk_inj t
noncomputable def tSm : Tab
  | 49 => (gOf aKx fIdx)
  | 51 => (gOf aInt fOv)
  | _ => gNo
theorem tSm_ok : ∀ f, PureC Tryd.prog UT f (tSm f) := fun f => by
  unfold tSm
  split
  · exact index_p
  · exact over_p
  · exact PureC.no
set_option maxHeartbeats 8000000 in
theorem sums_p : PureC Tryd.prog UT 29 (gOf aTk fSms) := by
  have hG := tSm_ok
  refine PureC.ofArgs aTk_inj Tryd.func29 body29 nm29 res29 ?_
  rintro t hv
  refine ⟨by rw [nt29]; simp [aTk], fun C hN Q hQ => ?_⟩
  rw [nt29] at hN
  unfold c29
  obtain ⟨hok, hcl, htl⟩ : TkOk t := hv
  have hfi : inI t.fare := hok.2.2.2.2.1
  refine aw_seq (aw_region (EF := EF0) hG (by rw [hN]; exact tr29_0) ?_)
  simp only [a29_0, go_sem, ↓reduceIte, Nat.reduceEqDiff, reduceCtorEq, Nat.reduceAdd, Nat.reduceLT, Nat.reduceLeDiff, Nat.reduceBNe, Nat.reduceBEq, Int.reduceToNat, aTk, Ticket.enc, tSm, fIdx_eq, fOv_eq]
  refine aw_seq (aw_region (EF := EF0) hG (by rw [hN]; exact tr29_1) ?_)
  simp only [a29_1, go_sem, ↓reduceIte, Nat.reduceEqDiff, reduceCtorEq, Nat.reduceAdd, Nat.reduceLT, Nat.reduceLeDiff, Nat.reduceBNe, Nat.reduceBEq, Int.reduceToNat, tSm, fIdx_eq, fOv_eq]
  refine AW.le (s' := ⟨mkE [(1, .ptr 1 0), (3, .own 999 0)], mkH ([(1, .box 27 (tCells t)), (999, .arr 45 2 (faults []))])⟩) (Le.mk _ _ (by (simp only [go_sem, ↓reduceIte, Nat.reduceEqDiff, reduceCtorEq, Nat.reduceAdd, Nat.reduceLT, Nat.reduceLeDiff, Nat.reduceBNe, Nat.reduceBEq, Int.reduceToNat, tCells]) <;> (repeat' apply And.intro) <;> (try first | exact wk_frzb rfl rfl rfl | rfl | exact wk_fn rfl | exact .nill _ | exact .nilo _ _ _ rfl rfl | exact wk_frz rfl (by simp only [ints_len, nats_len]) rfl (ints_pur _) | exact wk_frzm rfl rfl (fun kv hk => by obtain ⟨_, _, rfl⟩ := List.mem_map.1 hk; rfl))) (by (simp only [go_sem, ↓reduceIte, Nat.reduceEqDiff, reduceCtorEq, Nat.reduceAdd, Nat.reduceLT, Nat.reduceLeDiff, Nat.reduceBNe, Nat.reduceBEq, Int.reduceToNat, tCells]) <;> (repeat' apply And.intro) <;> (try first | exact wk_frzb rfl rfl rfl | rfl | exact wk_fn rfl | exact .nill _ | exact .nilo _ _ _ rfl rfl | exact wk_frz rfl (by simp only [ints_len, nats_len]) rfl (ints_pur _) | exact wk_frzm rfl rfl (fun kv hk => by obtain ⟨_, _, rfl⟩ := List.mem_map.1 hk; rfl))) rfl) ?_
  simp only [tCells]
  refine aw_seq (aw_region (EF := EF0) hG (by rw [hN]; exact tr29_2) ?_)
  simp only [a29_2, go_sem, ↓reduceIte, Nat.reduceEqDiff, reduceCtorEq, Nat.reduceAdd, Nat.reduceLT, Nat.reduceLeDiff, Nat.reduceBNe, Nat.reduceBEq, Int.reduceToNat, tSm, fIdx_eq, fOv_eq]
  refine aw_seq ?_
  refine aw_seq (aw_region (EF := EF0) hG (by rw [hN]; exact tr29_3) ?_)
  simp only [a29_3, go_sem, ↓reduceIte, Nat.reduceEqDiff, reduceCtorEq, Nat.reduceAdd, Nat.reduceLT, Nat.reduceLeDiff, Nat.reduceBNe, Nat.reduceBEq, Int.reduceToNat, tSm, fIdx_eq, fOv_eq]
  refine aw_block ?_
  refine aw_loop (α := Nat × Int) (fun γ => (γ.1 ≤ t.coupons.length) ∧ ((cRt t.coupons γ.1 = true → γ.2 = cSum t.coupons γ.1)) ∧ (0 ≤ γ.2 ∧ γ.2 ≤ 1099511627776 * (γ.1 : Int))) (fun γ => ⟨mkE [(1, V.ptr 1 0), (3, V.own 999 0), (4, .int .i64 γ.2), (5, .bool (!cRt t.coupons γ.1)), (6, .int .i64 γ.1)], mkH [(1, Ob.box 27 [V.int IntKind.i64 t.number, V.str t.locator, V.str t.person.last, V.str t.person.first, V.str t.person.type, V.list (List.map Coupon.enc t.coupons) false, V.int IntKind.i64 t.fare, V.list (List.map Charge.enc t.taxes) false, V.int IntKind.i64 t.total, V.int IntKind.i64 t.issued]), (999, Ob.arr 45 2 (faults []))]⟩) (fun γ => t.coupons.length - γ.1) (0, 0) ⟨Nat.zero_le _, fun _ => rfl, Int.le_refl 0, Int.le_refl 0⟩ ?_ ?_
  · refine Le.mk _ _ ?_ ?_ rfl <;> simp only [go_sem, ↓reduceIte, Nat.reduceEqDiff, reduceCtorEq, Nat.reduceAdd, Nat.reduceLT, Nat.reduceLeDiff, Nat.reduceBNe, Nat.reduceBEq, Int.reduceToNat, cRt, Bool.not_true] <;> (repeat' apply And.intro) <;> (try first | rfl | exact wk_frzb rfl rfl rfl | exact wk_fn rfl | exact .nilo _ _ _ rfl rfl | exact wk_frzm rfl rfl (fun kv hk => by obtain ⟨_, _, rfl⟩ := List.mem_map.1 hk; rfl))
  · rintro ⟨i, v⟩ ⟨hi, hv, hvb⟩ KL0 hKL0
    try dsimp only at *
    refine aw_seq ?_
    refine aw_seq (aw_region (EF := EF0) hG (by rw [hN]; exact tr29_4) ?_)
    simp only [a29_4, go_sem, ↓reduceIte, Nat.reduceEqDiff, reduceCtorEq, Nat.reduceAdd, Nat.reduceLT, Nat.reduceLeDiff, Nat.reduceBNe, Nat.reduceBEq, Int.reduceToNat, List.length_map, tSm, fIdx_eq, fOv_eq]
    (repeat' apply And.intro) <;> (try first | omega | ((fail_if_success refine idW ?_); (fail_if_success refine idS ?_); intros; (repeat' apply And.intro) <;> first | assumption | omega | (simp_all; done)))
    refine aw_cond (b := _) rfl (fun hb4 => ?_) (fun hb4 => ?_)
    · skip
      have hc4 : i < t.coupons.length := by simp at hb4; omega
      obtain ⟨c, hcc⟩ : ∃ c, c = t.coupons[i] := ⟨_, rfl⟩
      have hgd : t.coupons.getD i Coupon.zero = c := by rw [List.getD_eq_getElem?_getD, List.getElem?_eq_getElem hc4, hcc]; rfl
      have hss : cSum t.coupons (i + 1) = if amtB c.value = true then cSum t.coupons i + c.value else cSum t.coupons i := by rw [cSum, hgd]
      have hsr : (!cRt t.coupons (i + 1)) = (!cRt t.coupons i || !amtB c.value) := by rw [cRt, hgd, Bool.not_and]
      refine aw_skip ?_
      try simp only [go_sem, ↓reduceIte, Nat.reduceEqDiff, reduceCtorEq, Nat.reduceAdd, Nat.reduceLT, Nat.reduceLeDiff, Nat.reduceBNe, Nat.reduceBEq, Int.reduceToNat]
      refine aw_seq ?_
      refine aw_block ?_
      refine aw_seq (aw_region (EF := EF0) hG (by rw [hN]; exact tr29_6) ?_)
      simp only [a29_6, go_sem, ↓reduceIte, Nat.reduceEqDiff, reduceCtorEq, Nat.reduceAdd, Nat.reduceLT, Nat.reduceLeDiff, Nat.reduceBNe, Nat.reduceBEq, Int.reduceToNat, getD_mapd _ _ _ _ hc4, hc4, Coupon.enc, ← hcc, List.length_map, imp_self, and_true, true_and, tSm, fIdx_eq, fOv_eq]
      (repeat' apply And.intro) <;> (try first | omega | ((fail_if_success refine idW ?_); (fail_if_success refine idS ?_); intros; (repeat' apply And.intro) <;> first | assumption | omega | (simp_all; done)))
      refine aw_seq (aw_region (EF := EF0) hG (by rw [hN]; exact tr29_7) ?_)
      simp only [a29_7, go_sem, ↓reduceIte, Nat.reduceEqDiff, reduceCtorEq, Nat.reduceAdd, Nat.reduceLT, Nat.reduceLeDiff, Nat.reduceBNe, Nat.reduceBEq, Int.reduceToNat, tSm, fIdx_eq, fOv_eq]
      refine aw_cond (b := _) rfl (fun hb7 => ?_) (fun hb7 => ?_)
      · skip
        have hb7 : cRt t.coupons i = true ∧ amtB c.value = true := by simpa using hb7
        have hvv := amt_bd hb7.2
        refine aw_region (EF := EF0) hG (by rw [hN]; exact tr29_8) ?_
        simp only [a29_8, go_sem, ↓reduceIte, Nat.reduceEqDiff, reduceCtorEq, Nat.reduceAdd, Nat.reduceLT, Nat.reduceLeDiff, Nat.reduceBNe, Nat.reduceBEq, Int.reduceToNat, inI, getD_mapd _ _ _ _ hc4, hc4, Coupon.enc, ← hcc, List.length_map, tSm, fIdx_eq, fOv_eq]
        (repeat' apply And.intro) <;> (try first | omega | ((fail_if_success refine idW ?_); (fail_if_success refine idS ?_); intros; (repeat' apply And.intro) <;> first | assumption | omega | (simp_all; done)))
        refine aw_region (EF := EF0) hG (by rw [hN]; exact tr29_5) ?_
        simp only [a29_5, go_sem, ↓reduceIte, Nat.reduceEqDiff, reduceCtorEq, Nat.reduceAdd, Nat.reduceLT, Nat.reduceLeDiff, Nat.reduceBNe, Nat.reduceBEq, Int.reduceToNat, inI, tSm, fIdx_eq, fOv_eq]
        (repeat' apply And.intro) <;> (try first | omega | ((fail_if_success refine idW ?_); (fail_if_success refine idS ?_); intros; (repeat' apply And.intro) <;> first | assumption | omega | (simp_all; done)))
        refine hKL0 (i + 1, v + c.value) _ ?_ ?_ ?_
        · (try dsimp only); exact ⟨hc4, fun _ => by rw [hss, if_pos hb7.2, hv hb7.1], by omega, by omega⟩
        · (try dsimp only); omega
        · refine Le.mk _ _ ?_ ?_ rfl <;> simp only [go_sem, ↓reduceIte, Nat.reduceEqDiff, reduceCtorEq, Nat.reduceAdd, Nat.reduceLT, Nat.reduceLeDiff, Nat.reduceBNe, Nat.reduceBEq, Int.reduceToNat, hsr] <;> (repeat' apply And.intro) <;> (try first | rfl | exact wk_frzb rfl rfl rfl | exact wk_fn rfl | exact .nilo _ _ _ rfl rfl | exact wk_frzm rfl rfl (fun kv hk => by obtain ⟨_, _, rfl⟩ := List.mem_map.1 hk; rfl))
      · skip
        have hb8 : cRt t.coupons (i + 1) = false := by (rw [cRt, hgd]; cases h : cRt t.coupons i <;> cases h2 : amtB c.value <;> first | rfl | (exfalso; simp [h, h2] at hb7))
        refine aw_skip ?_
        try simp only [go_sem, ↓reduceIte, Nat.reduceEqDiff, reduceCtorEq, Nat.reduceAdd, Nat.reduceLT, Nat.reduceLeDiff, Nat.reduceBNe, Nat.reduceBEq, Int.reduceToNat]
        refine aw_region (EF := EF0) hG (by rw [hN]; exact tr29_5) ?_
        simp only [a29_5, go_sem, ↓reduceIte, Nat.reduceEqDiff, reduceCtorEq, Nat.reduceAdd, Nat.reduceLT, Nat.reduceLeDiff, Nat.reduceBNe, Nat.reduceBEq, Int.reduceToNat, inI, tSm, fIdx_eq, fOv_eq]
        (repeat' apply And.intro) <;> (try first | omega | ((fail_if_success refine idW ?_); (fail_if_success refine idS ?_); intros; (repeat' apply And.intro) <;> first | assumption | omega | (simp_all; done)))
        refine hKL0 (i + 1, v) _ ?_ ?_ ?_
        · (try dsimp only); exact ⟨hc4, fun h => by (rw [hb8] at h; cases h), by omega, by omega⟩
        · (try dsimp only); omega
        · refine Le.mk _ _ ?_ ?_ rfl <;> simp only [go_sem, ↓reduceIte, Nat.reduceEqDiff, reduceCtorEq, Nat.reduceAdd, Nat.reduceLT, Nat.reduceLeDiff, Nat.reduceBNe, Nat.reduceBEq, Int.reduceToNat, hsr] <;> (repeat' apply And.intro) <;> (try first | rfl | exact wk_frzb rfl rfl rfl | exact wk_fn rfl | exact .nilo _ _ _ rfl rfl | exact wk_frzm rfl rfl (fun kv hk => by obtain ⟨_, _, rfl⟩ := List.mem_map.1 hk; rfl))
    · skip
      obtain rfl : i = t.coupons.length := by simp at hb4; omega
      refine aw_exit ?_
      simp only [go_sem, ↓reduceIte, Nat.reduceEqDiff, reduceCtorEq, Nat.reduceAdd, Nat.reduceLT, Nat.reduceLeDiff, Nat.reduceBNe, Nat.reduceBEq, Int.reduceToNat]
      refine aw_seq (aw_region (EF := EF0) hG (by rw [hN]; exact tr29_9) ?_)
      simp only [a29_9, go_sem, ↓reduceIte, Nat.reduceEqDiff, reduceCtorEq, Nat.reduceAdd, Nat.reduceLT, Nat.reduceLeDiff, Nat.reduceBNe, Nat.reduceBEq, Int.reduceToNat, tSm, fIdx_eq, fOv_eq]
      (repeat' apply And.intro) <;> (try first | omega | ((fail_if_success refine idW ?_); (fail_if_success refine idS ?_); intros; (repeat' apply And.intro) <;> first | assumption | omega | (simp_all; done)))
      refine aw_cut (α := (List Fault)) (fun g6 => (g6 = fIf (!amtB t.fare) 11 sFar ++ fIf (farB t) 36 sFar) ∧ (g6.length ≤ 2)) (fun g6 => ⟨mkE [(1, V.ptr 1 0), (3, .own 999 g6.length), (7, V.bool !amtB t.fare)], mkH [(1, Ob.box 27 [V.int IntKind.i64 t.number, V.str t.locator, V.str t.person.last, V.str t.person.first, V.str t.person.type, V.list (List.map Coupon.enc t.coupons) false, V.int IntKind.i64 t.fare, V.list (List.map Charge.enc t.taxes) false, V.int IntKind.i64 t.total, V.int IntKind.i64 t.issued]), (999, .arr 45 2 (faults g6))]⟩) ?_ ?_
      · intro KC10 hKC10
        refine aw_seq (aw_region (EF := EF0) hG (by rw [hN]; exact tr29_10) ?_)
        simp only [a29_10, go_sem, ↓reduceIte, Nat.reduceEqDiff, reduceCtorEq, Nat.reduceAdd, Nat.reduceLT, Nat.reduceLeDiff, Nat.reduceBNe, Nat.reduceBEq, Int.reduceToNat, tSm, fIdx_eq, fOv_eq]
        refine aw_cond (b := _) rfl (fun hb10 => ?_) (fun hb10 => ?_)
        · skip
          have hab : amtB t.fare = false := by simpa using hb10
          have hfb : farB t = false := by unfold farB; rw [hab]; rfl
          refine aw_region (EF := EF0) hG (by rw [hN]; exact tr29_11) ?_
          simp only [a29_11, go_sem, ↓reduceIte, Nat.reduceEqDiff, reduceCtorEq, Nat.reduceAdd, Nat.reduceLT, Nat.reduceLeDiff, Nat.reduceBNe, Nat.reduceBEq, Int.reduceToNat, tSm, fIdx_eq, fOv_eq]
          (repeat' apply And.intro) <;> (try first | omega | ((fail_if_success refine idW ?_); (fail_if_success refine idS ?_); intros; (repeat' apply And.intro) <;> first | assumption | omega | (simp_all; done)))
          refine hKC10 ([] ++ [⟨11, sFar⟩]) _ ?_ ?_
          · (try dsimp only); exact ⟨by rw [fIf_t (b := !amtB t.fare) hb10, fIf_f hfb]; rfl, by simp⟩
          · refine Le.mk _ _ ?_ ?_ rfl <;> simp only [go_sem, ↓reduceIte, Nat.reduceEqDiff, reduceCtorEq, Nat.reduceAdd, Nat.reduceLT, Nat.reduceLeDiff, Nat.reduceBNe, Nat.reduceBEq, Int.reduceToNat, List.length_append, List.length_cons, List.length_nil, List.nil_append] <;> (repeat' apply And.intro) <;> (try first | rfl | exact wk_frzb rfl rfl rfl | exact wk_fn rfl | exact .nilo _ _ _ rfl rfl | exact wk_frzm rfl rfl (fun kv hk => by obtain ⟨_, _, rfl⟩ := List.mem_map.1 hk; rfl))
        · skip
          have hab : amtB t.fare = true := by simpa using hb10
          have hna : (!amtB t.fare) = false := by rw [hab]; rfl
          refine aw_seq (aw_region (EF := EF0) hG (by rw [hN]; exact tr29_12) ?_)
          simp only [a29_12, go_sem, ↓reduceIte, Nat.reduceEqDiff, reduceCtorEq, Nat.reduceAdd, Nat.reduceLT, Nat.reduceLeDiff, Nat.reduceBNe, Nat.reduceBEq, Int.reduceToNat, imp_self, and_true, true_and, tSm, fIdx_eq, fOv_eq]
          (repeat' apply And.intro) <;> (try first | omega | ((fail_if_success refine idW ?_); (fail_if_success refine idS ?_); intros; (repeat' apply And.intro) <;> first | assumption | omega | (simp_all; done)))
          refine aw_cond (b := _) rfl (fun hb12 => ?_) (fun hb12 => ?_)
          · skip
            have hfb : farB t = true := by (simp at hb12; unfold farB; rw [hab, hb12.1, ← hv hb12.1]; simpa using hb12.2)
            refine aw_region (EF := EF0) hG (by rw [hN]; exact tr29_13) ?_
            simp only [a29_13, go_sem, ↓reduceIte, Nat.reduceEqDiff, reduceCtorEq, Nat.reduceAdd, Nat.reduceLT, Nat.reduceLeDiff, Nat.reduceBNe, Nat.reduceBEq, Int.reduceToNat, tSm, fIdx_eq, fOv_eq]
            (repeat' apply And.intro) <;> (try first | omega | ((fail_if_success refine idW ?_); (fail_if_success refine idS ?_); intros; (repeat' apply And.intro) <;> first | assumption | omega | (simp_all; done)))
            refine hKC10 ([] ++ [⟨36, sFar⟩]) _ ?_ ?_
            · (try dsimp only); exact ⟨by rw [fIf_f hna, fIf_t hfb], by simp⟩
            · refine Le.mk _ _ ?_ ?_ rfl <;> simp only [go_sem, ↓reduceIte, Nat.reduceEqDiff, reduceCtorEq, Nat.reduceAdd, Nat.reduceLT, Nat.reduceLeDiff, Nat.reduceBNe, Nat.reduceBEq, Int.reduceToNat, List.length_append, List.length_cons, List.length_nil, List.nil_append] <;> (repeat' apply And.intro) <;> (try first | rfl | exact wk_frzb rfl rfl rfl | exact wk_fn rfl | exact .nilo _ _ _ rfl rfl | exact wk_frzm rfl rfl (fun kv hk => by obtain ⟨_, _, rfl⟩ := List.mem_map.1 hk; rfl))
          · skip
            have hfb : farB t = false := by (unfold farB; rw [hab, Bool.true_and]; cases h : cRt t.coupons t.coupons.length with | false => rfl | true => (rw [← hv h]; simpa [h] using hb12))
            refine aw_skip ?_
            try simp only [go_sem, ↓reduceIte, Nat.reduceEqDiff, reduceCtorEq, Nat.reduceAdd, Nat.reduceLT, Nat.reduceLeDiff, Nat.reduceBNe, Nat.reduceBEq, Int.reduceToNat]
            refine hKC10 ([]) _ ?_ ?_
            · (try dsimp only); exact ⟨by rw [fIf_f hna, fIf_f hfb]; rfl, by simp⟩
            · refine Le.mk _ _ ?_ ?_ rfl <;> simp only [go_sem, ↓reduceIte, Nat.reduceEqDiff, reduceCtorEq, Nat.reduceAdd, Nat.reduceLT, Nat.reduceLeDiff, Nat.reduceBNe, Nat.reduceBEq, Int.reduceToNat, List.length_nil] <;> (repeat' apply And.intro) <;> (try first | rfl | exact wk_frzb rfl rfl rfl | exact wk_fn rfl | exact .nilo _ _ _ rfl rfl | exact wk_frzm rfl rfl (fun kv hk => by obtain ⟨_, _, rfl⟩ := List.mem_map.1 hk; rfl))
      · rintro g6 ⟨hg6, hl6⟩
        refine aw_seq (aw_region (EF := EF0) hG (by rw [hN]; exact tr29_14) ?_)
        simp only [a29_14, go_sem, ↓reduceIte, Nat.reduceEqDiff, reduceCtorEq, Nat.reduceAdd, Nat.reduceLT, Nat.reduceLeDiff, Nat.reduceBNe, Nat.reduceBEq, Int.reduceToNat, tSm, fIdx_eq, fOv_eq]
        refine aw_seq ?_
        refine aw_seq (aw_region (EF := EF0) hG (by rw [hN]; exact tr29_15) ?_)
        simp only [a29_15, go_sem, ↓reduceIte, Nat.reduceEqDiff, reduceCtorEq, Nat.reduceAdd, Nat.reduceLT, Nat.reduceLeDiff, Nat.reduceBNe, Nat.reduceBEq, Int.reduceToNat, tSm, fIdx_eq, fOv_eq]
        refine aw_block ?_
        refine aw_loop (α := Nat × (List Fault)) (fun γ => (γ.1 ≤ t.taxes.length) ∧ (γ.2 = g6 ++ tTo t.taxes γ.1) ∧ (γ.2.length ≤ g6.length + γ.1)) (fun γ => ⟨mkE [(1, V.ptr 1 0), (3, .own 999 γ.2.length), (7, .bool (!and (amtB t.fare) (tRt t.taxes γ.1))), (8, .int .i64 (tSum t.taxes γ.1)), (9, .int .i64 γ.1)], mkH [(1, Ob.box 27 [V.int IntKind.i64 t.number, V.str t.locator, V.str t.person.last, V.str t.person.first, V.str t.person.type, V.list (List.map Coupon.enc t.coupons) false, V.int IntKind.i64 t.fare, V.list (List.map Charge.enc t.taxes) false, V.int IntKind.i64 t.total, V.int IntKind.i64 t.issued]), (999, .arr 45 2 (faults γ.2))]⟩) (fun γ => t.taxes.length - γ.1) (0, g6) ⟨Nat.zero_le _, by simp [tTo], Nat.le_refl _⟩ ?_ ?_
        · refine Le.mk _ _ ?_ ?_ rfl <;> simp only [go_sem, ↓reduceIte, Nat.reduceEqDiff, reduceCtorEq, Nat.reduceAdd, Nat.reduceLT, Nat.reduceLeDiff, Nat.reduceBNe, Nat.reduceBEq, Int.reduceToNat, tSum, tRt, Bool.and_true] <;> (repeat' apply And.intro) <;> (try first | rfl | exact wk_frzb rfl rfl rfl | exact wk_fn rfl | exact .nilo _ _ _ rfl rfl | exact wk_frzm rfl rfl (fun kv hk => by obtain ⟨_, _, rfl⟩ := List.mem_map.1 hk; rfl))
        · rintro ⟨i, f⟩ ⟨hi, hf, hfl⟩ KL2 hKL2
          try dsimp only at *
          refine aw_seq ?_
          refine aw_seq (aw_region (EF := EF0) hG (by rw [hN]; exact tr29_16) ?_)
          simp only [a29_16, go_sem, ↓reduceIte, Nat.reduceEqDiff, reduceCtorEq, Nat.reduceAdd, Nat.reduceLT, Nat.reduceLeDiff, Nat.reduceBNe, Nat.reduceBEq, Int.reduceToNat, List.length_map, tSm, fIdx_eq, fOv_eq]
          (repeat' apply And.intro) <;> (try first | omega | ((fail_if_success refine idW ?_); (fail_if_success refine idS ?_); intros; (repeat' apply And.intro) <;> first | assumption | omega | (simp_all; done)))
          refine aw_cond (b := _) rfl (fun hb16 => ?_) (fun hb16 => ?_)
          · skip
            have hc16 : i < t.taxes.length := by simp at hb16; omega
            obtain ⟨x, hxx⟩ : ∃ x, x = t.taxes[i] := ⟨_, rfl⟩
            have hgd : t.taxes.getD i Charge.zero = x := by rw [List.getD_eq_getElem?_getD, List.getElem?_eq_getElem hc16, hxx]; rfl
            have hst : tTo t.taxes (i + 1) = tTo t.taxes i ++ fIf (!amtB x.amount) 11 (sTax ++ dec i) := by rw [tTo, hgd]
            have hss : tSum t.taxes (i + 1) = if amtB x.amount = true then tSum t.taxes i + x.amount else tSum t.taxes i := by rw [tSum, hgd]
            have hsr : tRt t.taxes (i + 1) = (tRt t.taxes i && amtB x.amount) := by rw [tRt, hgd]
            have hdl := dec_lenN (i := i) (by omega)
            have hii : inI (i : Int) := ⟨by omega, by omega⟩
            have htb := tSum_bd t.taxes i
            obtain ⟨pos, hpos⟩ : ∃ pos, pos = sTax ++ dec i := ⟨_, rfl⟩
            have hpos2 : 116 :: 97 :: 120 :: 101 :: 115 :: 46 :: dec (i : Int) = pos := hpos.symm
            refine aw_skip ?_
            try simp only [go_sem, ↓reduceIte, Nat.reduceEqDiff, reduceCtorEq, Nat.reduceAdd, Nat.reduceLT, Nat.reduceLeDiff, Nat.reduceBNe, Nat.reduceBEq, Int.reduceToNat]
            refine aw_seq ?_
            refine aw_block ?_
            refine aw_seq (aw_region (EF := EF0) hG (by rw [hN]; exact tr29_18) ?_)
            simp only [a29_18, go_sem, ↓reduceIte, Nat.reduceEqDiff, reduceCtorEq, Nat.reduceAdd, Nat.reduceLT, Nat.reduceLeDiff, Nat.reduceBNe, Nat.reduceBEq, Int.reduceToNat, getD_mapd _ _ _ _ hc16, hc16, Charge.enc, ← hxx, List.length_map, tSm, fIdx_eq, fOv_eq]
            (repeat' apply And.intro) <;> (try first | omega | ((fail_if_success refine idW ?_); (fail_if_success refine idS ?_); intros; (repeat' apply And.intro) <;> first | assumption | omega | (simp_all; done)))
            refine aw_cond (b := _) rfl (fun hb18 => ?_) (fun hb18 => ?_)
            · skip
              have hab : amtB x.amount = false := by simpa using hb18
              have hss2 : tSum t.taxes (i + 1) = tSum t.taxes i := by rw [hss, if_neg (by rw [hab]; decide)]
              have hsr2 : (!and (amtB t.fare) (tRt t.taxes (i + 1))) = true := by rw [hsr, hab]; simp
              refine aw_seq (aw_region (EF := EF0) hG (by rw [hN]; exact tr29_19) ?_)
              simp only [a29_19, go_sem, ↓reduceIte, Nat.reduceEqDiff, reduceCtorEq, Nat.reduceAdd, Nat.reduceLT, Nat.reduceLeDiff, Nat.reduceBNe, Nat.reduceBEq, Int.reduceToNat, hii, hpos2, List.length_cons, List.length_nil, tSm, fIdx_eq, fOv_eq]
              (repeat' apply And.intro) <;> (try first | omega | ((fail_if_success refine idW ?_); (fail_if_success refine idS ?_); intros; (repeat' apply And.intro) <;> first | assumption | omega | (simp_all; done)))
              refine aw_region (EF := EF0) hG (by rw [hN]; exact tr29_20) ?_
              simp only [a29_20, go_sem, ↓reduceIte, Nat.reduceEqDiff, reduceCtorEq, Nat.reduceAdd, Nat.reduceLT, Nat.reduceLeDiff, Nat.reduceBNe, Nat.reduceBEq, Int.reduceToNat, tSm, fIdx_eq, fOv_eq]
              refine aw_region (EF := EF0) hG (by rw [hN]; exact tr29_17) ?_
              simp only [a29_17, go_sem, ↓reduceIte, Nat.reduceEqDiff, reduceCtorEq, Nat.reduceAdd, Nat.reduceLT, Nat.reduceLeDiff, Nat.reduceBNe, Nat.reduceBEq, Int.reduceToNat, inI, tSm, fIdx_eq, fOv_eq]
              (repeat' apply And.intro) <;> (try first | omega | ((fail_if_success refine idW ?_); (fail_if_success refine idS ?_); intros; (repeat' apply And.intro) <;> first | assumption | omega | (simp_all; done)))
              refine hKL2 (i + 1, f ++ [⟨11, pos⟩]) _ ?_ ?_ ?_
              · (try dsimp only); exact ⟨hc16, by rw [hst, fIf_t (b := !amtB x.amount) hb18, hf, hpos, List.append_assoc], by rw [List.length_append, List.length_cons, List.length_nil]; omega⟩
              · (try dsimp only); omega
              · refine Le.mk _ _ ?_ ?_ rfl <;> simp only [go_sem, ↓reduceIte, Nat.reduceEqDiff, reduceCtorEq, Nat.reduceAdd, Nat.reduceLT, Nat.reduceLeDiff, Nat.reduceBNe, Nat.reduceBEq, Int.reduceToNat, hss2, hsr2, List.length_append, List.length_cons, List.length_nil] <;> (repeat' apply And.intro) <;> (try first | rfl | exact wk_frzb rfl rfl rfl | exact wk_fn rfl | exact .nilo _ _ _ rfl rfl | exact wk_frzm rfl rfl (fun kv hk => by obtain ⟨_, _, rfl⟩ := List.mem_map.1 hk; rfl))
            · skip
              have hab : amtB x.amount = true := by simpa using hb18
              have hvb := amt_bd hab
              have hss2 : tSum t.taxes (i + 1) = tSum t.taxes i + x.amount := by rw [hss, if_pos hab]
              have hsr2 : (!and (amtB t.fare) (tRt t.taxes (i + 1))) = (!and (amtB t.fare) (tRt t.taxes i)) := by rw [hsr, hab, Bool.and_true]
              refine aw_region (EF := EF0) hG (by rw [hN]; exact tr29_21) ?_
              simp only [a29_21, go_sem, ↓reduceIte, Nat.reduceEqDiff, reduceCtorEq, Nat.reduceAdd, Nat.reduceLT, Nat.reduceLeDiff, Nat.reduceBNe, Nat.reduceBEq, Int.reduceToNat, inI, getD_mapd _ _ _ _ hc16, hc16, Charge.enc, ← hxx, List.length_map, tSm, fIdx_eq, fOv_eq]
              (repeat' apply And.intro) <;> (try first | omega | ((fail_if_success refine idW ?_); (fail_if_success refine idS ?_); intros; (repeat' apply And.intro) <;> first | assumption | omega | (simp_all; done)))
              refine aw_region (EF := EF0) hG (by rw [hN]; exact tr29_17) ?_
              simp only [a29_17, go_sem, ↓reduceIte, Nat.reduceEqDiff, reduceCtorEq, Nat.reduceAdd, Nat.reduceLT, Nat.reduceLeDiff, Nat.reduceBNe, Nat.reduceBEq, Int.reduceToNat, inI, tSm, fIdx_eq, fOv_eq]
              (repeat' apply And.intro) <;> (try first | omega | ((fail_if_success refine idW ?_); (fail_if_success refine idS ?_); intros; (repeat' apply And.intro) <;> first | assumption | omega | (simp_all; done)))
              refine hKL2 (i + 1, f) _ ?_ ?_ ?_
              · (try dsimp only); exact ⟨hc16, by rw [hst, fIf_f (b := !amtB x.amount) hb18, hf, List.append_nil], by omega⟩
              · (try dsimp only); omega
              · refine Le.mk _ _ ?_ ?_ rfl <;> simp only [go_sem, ↓reduceIte, Nat.reduceEqDiff, reduceCtorEq, Nat.reduceAdd, Nat.reduceLT, Nat.reduceLeDiff, Nat.reduceBNe, Nat.reduceBEq, Int.reduceToNat, hss2, hsr2] <;> (repeat' apply And.intro) <;> (try first | rfl | exact wk_frzb rfl rfl rfl | exact wk_fn rfl | exact .nilo _ _ _ rfl rfl | exact wk_frzm rfl rfl (fun kv hk => by obtain ⟨_, _, rfl⟩ := List.mem_map.1 hk; rfl))
          · skip
            obtain rfl : i = t.taxes.length := by simp at hb16; omega
            have htb := tSum_bd t.taxes t.taxes.length
            have hfl2 := tTo_len t.taxes t.taxes.length
            refine aw_exit ?_
            simp only [go_sem, ↓reduceIte, Nat.reduceEqDiff, reduceCtorEq, Nat.reduceAdd, Nat.reduceLT, Nat.reduceLeDiff, Nat.reduceBNe, Nat.reduceBEq, Int.reduceToNat]
            refine aw_seq ?_
            obtain ⟨sm, hsm⟩ : ∃ sm, sm = tSum t.taxes t.taxes.length := ⟨_, rfl⟩
            rw [← hsm] at htb ⊢
            refine aw_seq (aw_region (EF := EF0) hG (by rw [hN]; exact tr29_22) ?_)
            simp only [a29_22, go_sem, ↓reduceIte, Nat.reduceEqDiff, reduceCtorEq, Nat.reduceAdd, Nat.reduceLT, Nat.reduceLeDiff, Nat.reduceBNe, Nat.reduceBEq, Int.reduceToNat, inI, tSm, fIdx_eq, fOv_eq]
            (repeat' apply And.intro) <;> (try first | omega | ((fail_if_success refine idW ?_); (fail_if_success refine idS ?_); intros; (repeat' apply And.intro) <;> first | assumption | omega | (simp_all; done)) | (intro h; refine ⟨h, ?_⟩; simp only [Bool.not_not, Bool.not_eq_true', Bool.not_eq_false', Bool.and_eq_true] at h; have := amt_bd h.1; omega))
            refine aw_cond (b := _) rfl (fun hb22 => ?_) (fun hb22 => ?_)
            · skip
              have htt : totB t = true := by (simp only [Bool.not_not] at hb22; rw [totB, ← hsm, Bool.and_eq_true]; rw [Bool.and_eq_true] at hb22; exact ⟨hb22.1, by have h := hb22.2; simp only [Bool.not_eq_true', decide_eq_false_iff_not] at h ⊢; omega⟩)
              have hend : sumsF t = f ++ [⟨36, sTot⟩] := by rw [sumsF, fIf_t htt, hf, hg6]
              refine aw_region (EF := EF0) hG (by rw [hN]; exact tr29_23) ?_
              simp only [a29_23, go_sem, ↓reduceIte, Nat.reduceEqDiff, reduceCtorEq, Nat.reduceAdd, Nat.reduceLT, Nat.reduceLeDiff, Nat.reduceBNe, Nat.reduceBEq, Int.reduceToNat, tSm, fIdx_eq, fOv_eq]
              (repeat' apply And.intro) <;> (try first | omega | ((fail_if_success refine idW ?_); (fail_if_success refine idS ?_); intros; (repeat' apply And.intro) <;> first | assumption | omega | (simp_all; done)))
              refine aw_seq (aw_region (EF := EF0) hG (by rw [hN]; exact tr29_24) ?_)
              simp only [a29_24, go_sem, ↓reduceIte, Nat.reduceEqDiff, reduceCtorEq, Nat.reduceAdd, Nat.reduceLT, Nat.reduceLeDiff, Nat.reduceBNe, Nat.reduceBEq, Int.reduceToNat, tSm, fIdx_eq, fOv_eq]
              refine AW.le (s' := ⟨mkE [(2, .list (faults (f ++ [⟨36, sTot⟩])) false)], mkH []⟩) (Le.mk _ _ ?_ ?_ rfl) (aw_ret (hQ _ _ (.inl rfl) ?_ ?_ ?_)) <;> simp only [outφ, outV, AR.res, go_sem, ↓reduceIte, Nat.reduceEqDiff, reduceCtorEq, Nat.reduceAdd, Nat.reduceLT, Nat.reduceLeDiff, Nat.reduceBNe, Nat.reduceBEq, Int.reduceToNat, fSms, hend, List.length_append, List.length_cons, List.length_nil]
              · exact wk_frz rfl (by rw [faults_len, List.length_append]; rfl) rfl (faults_pur _)
            · skip
              have htt : totB t = false := by (simp only [Bool.not_not] at hb22; rw [totB, ← hsm]; rw [Bool.and_eq_false_iff] at hb22 ⊢; rcases hb22 with h | h; exact .inl h; exact .inr (by simp only [Bool.not_eq_false', decide_eq_true_eq] at h ⊢; omega))
              have hend : sumsF t = f := by rw [sumsF, fIf_f htt, hf, hg6, List.append_nil]
              refine aw_skip ?_
              try simp only [go_sem, ↓reduceIte, Nat.reduceEqDiff, reduceCtorEq, Nat.reduceAdd, Nat.reduceLT, Nat.reduceLeDiff, Nat.reduceBNe, Nat.reduceBEq, Int.reduceToNat]
              refine aw_seq (aw_region (EF := EF0) hG (by rw [hN]; exact tr29_24) ?_)
              simp only [a29_24, go_sem, ↓reduceIte, Nat.reduceEqDiff, reduceCtorEq, Nat.reduceAdd, Nat.reduceLT, Nat.reduceLeDiff, Nat.reduceBNe, Nat.reduceBEq, Int.reduceToNat, tSm, fIdx_eq, fOv_eq]
              refine AW.le (s' := ⟨mkE [(2, .list (faults f) false)], mkH []⟩) (Le.mk _ _ ?_ ?_ rfl) (aw_ret (hQ _ _ (.inl rfl) ?_ ?_ ?_)) <;> simp only [outφ, outV, AR.res, go_sem, ↓reduceIte, Nat.reduceEqDiff, reduceCtorEq, Nat.reduceAdd, Nat.reduceLT, Nat.reduceLeDiff, Nat.reduceBNe, Nat.reduceBEq, Int.reduceToNat, fSms, hend]
              · exact wk_frz rfl (by rw [faults_len]) rfl (faults_pur _)
end Go.Proofs.YtffapkiilkeadaaDoor
