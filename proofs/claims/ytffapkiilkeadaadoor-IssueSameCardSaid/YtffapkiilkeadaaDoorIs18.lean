/- Same of two tickets, the reference's. -/
import Derived.Test.YtffapkiilkeadaaDoorIs17
namespace Go.Proofs.YtffapkiilkeadaaDoor
open Go Go.RowKit
set_option linter.unusedSimpArgs false
set_option linter.unusedVariables false
set_option linter.deprecated false
set_option maxHeartbeats 8000000 in
theorem rsame_p : PureC Tryd.prog UT 12 (gOf aTT fSam) := by
  have hG := tNo_ok
  refine PureC.ofArgs aTT_inj Tryd.func12 body12 nm12 res12 ?_
  rintro ⟨s, t⟩ hv
  refine ⟨by rw [nt12]; simp [aTT], fun C hN Q hQ => ?_⟩
  rw [nt12] at hN
  unfold c12
  obtain ⟨⟨h1, h2⟩, h3, h4⟩ : TsOk s ∧ TsOk t := hv
  refine aw_seq (aw_region (EF := EF0) hG (by rw [hN]; exact tr12_0) ?_)
  simp only [a12_0, go_sem, ↓reduceIte, Nat.reduceEqDiff, reduceCtorEq, Nat.reduceAdd, Nat.reduceLT, Nat.reduceLeDiff, Nat.reduceBNe, Nat.reduceBEq, Int.reduceToNat, aTT, Ticket.enc]
  refine aw_seq ?_
  obtain ⟨H, hH⟩ : ∃ H : List (Nat × Ob), H = [(2, .box 27 (tCells s)), (3, .box 27 (tCells t))] := ⟨_, rfl⟩
  refine aw_seq (aw_list (awl_le (s' := ⟨mkE [(2, .ptr 2 0), (3, .ptr 3 0)], mkH H⟩) ?_ ?_))
  · subst hH
    refine Le.mk _ _ ?_ ?_ rfl <;> simp only [go_sem, ↓reduceIte, Nat.reduceEqDiff, reduceCtorEq, Nat.reduceAdd, Nat.reduceLT, Nat.reduceLeDiff, Nat.reduceBNe, Nat.reduceBEq, Int.reduceToNat, tCells] <;> (repeat' apply And.intro) <;> (try first | rfl | exact wk_frzb rfl rfl rfl | exact wk_fn rfl | exact .nilo _ _ _ rfl rfl | exact wk_frzm rfl rfl (fun kv hk => by obtain ⟨_, _, rfl⟩ := List.mem_map.1 hk; rfl))
  refine awl_cut 20 (EF := EF0) hG (by rw [hN]; exact tr12_1) ?_
  subst hH
  simp only [a12_1, tCells, go_sem, ↓reduceIte, Nat.reduceEqDiff, reduceCtorEq, Nat.reduceAdd, Nat.reduceLT, Nat.reduceLeDiff, Nat.reduceBNe, Nat.reduceBEq, Int.reduceToNat, h1, h2, h3, h4, List.length_map, List.take_succ_cons, List.take_zero, List.drop_succ_cons, List.drop_zero]
  obtain ⟨b1, hb1⟩ : ∃ b : Bool, b = (!decide (s.number = t.number) || !decide (s.locator = t.locator) || !perE s.person t.person) := ⟨_, rfl⟩
  obtain ⟨H, hH⟩ : ∃ H : List (Nat × Ob), H = [(2, .box 27 (tCells s)), (3, .box 27 (tCells t))] := ⟨_, rfl⟩
  refine awl_le (s' := ⟨mkE [(2, .ptr 2 0), (3, .ptr 3 0), (26, .bool b1)], mkH H⟩) ?_ ?_
  · subst hH hb1
    refine Le.mk _ _ ?_ ?_ rfl <;> simp only [go_sem, ↓reduceIte, Nat.reduceEqDiff, reduceCtorEq, Nat.reduceAdd, Nat.reduceLT, Nat.reduceLeDiff, Nat.reduceBNe, Nat.reduceBEq, Int.reduceToNat, tCells, perE] <;> (repeat' apply And.intro) <;> (try first | rfl | exact wk_frzb rfl rfl rfl | exact wk_fn rfl | exact .nilo _ _ _ rfl rfl | exact wk_frzm rfl rfl (fun kv hk => by obtain ⟨_, _, rfl⟩ := List.mem_map.1 hk; rfl))
  refine awl_cut 21 (EF := EF0) hG (by rw [hN]; exact mapM_drop _ 20 (tr12_1)) ?_
  subst hH
  simp only [a12_1, tCells, go_sem, ↓reduceIte, Nat.reduceEqDiff, reduceCtorEq, Nat.reduceAdd, Nat.reduceLT, Nat.reduceLeDiff, Nat.reduceBNe, Nat.reduceBEq, Int.reduceToNat, h1, h2, h3, h4, List.length_map, List.take_succ_cons, List.take_zero, List.drop_succ_cons, List.drop_zero]
  obtain ⟨b2, hb2⟩ : ∃ b : Bool, b = (b1 || !decide (s.fare = t.fare) || !decide (s.total = t.total) || !decide (s.issued = t.issued)) := ⟨_, rfl⟩
  obtain ⟨H, hH⟩ : ∃ H : List (Nat × Ob), H = [(2, .box 27 (tCells s)), (3, .box 27 (tCells t))] := ⟨_, rfl⟩
  refine awl_le (s' := ⟨mkE [(2, .ptr 2 0), (3, .ptr 3 0), (47, .bool b2)], mkH H⟩) ?_ ?_
  · subst hH hb2
    refine Le.mk _ _ ?_ ?_ rfl <;> simp only [go_sem, ↓reduceIte, Nat.reduceEqDiff, reduceCtorEq, Nat.reduceAdd, Nat.reduceLT, Nat.reduceLeDiff, Nat.reduceBNe, Nat.reduceBEq, Int.reduceToNat, tCells, perE] <;> (repeat' apply And.intro) <;> (try first | rfl | exact wk_frzb rfl rfl rfl | exact wk_fn rfl | exact .nilo _ _ _ rfl rfl | exact wk_frzm rfl rfl (fun kv hk => by obtain ⟨_, _, rfl⟩ := List.mem_map.1 hk; rfl))
  refine awl_end (EF := EF0) hG (by rw [hN]; exact mapM_drop _ 21 (mapM_drop _ 20 (tr12_1))) ?_
  subst hH
  simp only [a12_1, tCells, go_sem, ↓reduceIte, Nat.reduceEqDiff, reduceCtorEq, Nat.reduceAdd, Nat.reduceLT, Nat.reduceLeDiff, Nat.reduceBNe, Nat.reduceBEq, Int.reduceToNat, h1, h2, h3, h4, List.length_map, List.take_succ_cons, List.take_zero, List.drop_succ_cons, List.drop_zero]
  obtain ⟨b3, hb3⟩ : ∃ b : Bool, b = (b2 || !decide ((s.coupons.length : Int) = t.coupons.length) || !decide ((s.taxes.length : Int) = t.taxes.length)) := ⟨_, rfl⟩
  refine AW.le (s' := ⟨mkE [(2, .ptr 2 0), (3, .ptr 3 0), (64, .bool b3)], mkH [(2, .box 27 (tCells s)), (3, .box 27 (tCells t))]⟩) ?_ ?_
  · subst hb3
    refine Le.mk _ _ ?_ ?_ rfl <;> simp only [go_sem, ↓reduceIte, Nat.reduceEqDiff, reduceCtorEq, Nat.reduceAdd, Nat.reduceLT, Nat.reduceLeDiff, Nat.reduceBNe, Nat.reduceBEq, Int.reduceToNat, tCells] <;> (repeat' apply And.intro) <;> (try first | rfl | exact wk_frzb rfl rfl rfl | exact wk_fn rfl | exact .nilo _ _ _ rfl rfl | exact wk_frzm rfl rfl (fun kv hk => by obtain ⟨_, _, rfl⟩ := List.mem_map.1 hk; rfl))
  simp only [tCells]
  refine aw_cond (b := _) rfl (fun hb => ?_) (fun hb => ?_)
  · skip
    have hm : sameT s t = false := by (cases hsm : sameT s t with | false => rfl | true => (simp only [sameT, Bool.and_eq_true, decide_eq_true_eq] at hsm; obtain ⟨⟨⟨⟨⟨⟨⟨e1, e2⟩, e3⟩, e4⟩, e5⟩, e6⟩, e7⟩, e8⟩ := hsm; rw [hb3, hb2, hb1, e1, e2, e3, e5, e7, e8, eqL_len e4, eqL_len e6] at hb; simp at hb))
    refine aw_seq (aw_region (EF := EF0) hG (by rw [hN]; exact tr12_2) ?_)
    simp only [a12_2, go_sem, ↓reduceIte, Nat.reduceEqDiff, reduceCtorEq, Nat.reduceAdd, Nat.reduceLT, Nat.reduceLeDiff, Nat.reduceBNe, Nat.reduceBEq, Int.reduceToNat]
    refine aw_ret ?_
    show Q _ _
    refine hQ _ _ (.inl rfl) ?_ ?_ ?_ <;> simp only [outφ, outV, AR.res, go_sem, ↓reduceIte, Nat.reduceEqDiff, reduceCtorEq, Nat.reduceAdd, Nat.reduceLT, Nat.reduceLeDiff, Nat.reduceBNe, Nat.reduceBEq, Int.reduceToNat, fSam, hm]
  · skip
    rw [hb3, hb2, hb1] at hb
    simp only [Bool.or_eq_false_iff, Bool.not_eq_false', decide_eq_true_eq] at hb
    obtain ⟨⟨⟨⟨⟨⟨⟨e1, e2⟩, e3⟩, e5⟩, e7⟩, e8⟩, ec⟩, eh⟩ := hb
    have hm : sameT s t = (eqL eCC s.coupons t.coupons && eqL eHH s.taxes t.taxes) := by unfold sameT; rw [e1, e2, e3, e5, e7, e8]; simp
    have hlc : s.coupons.length = t.coupons.length := by omega
    have hlh : s.taxes.length = t.taxes.length := by omega
    refine aw_skip ?_
    try simp only [go_sem, ↓reduceIte, Nat.reduceEqDiff, reduceCtorEq, Nat.reduceAdd, Nat.reduceLT, Nat.reduceLeDiff, Nat.reduceBNe, Nat.reduceBEq, Int.reduceToNat]
    refine aw_seq ?_
    refine aw_seq (aw_region (EF := EF0) hG (by rw [hN]; exact tr12_3) ?_)
    simp only [a12_3, go_sem, ↓reduceIte, Nat.reduceEqDiff, reduceCtorEq, Nat.reduceAdd, Nat.reduceLT, Nat.reduceLeDiff, Nat.reduceBNe, Nat.reduceBEq, Int.reduceToNat]
    refine aw_block ?_
    refine aw_loop (α := Nat) (fun i => (i ≤ s.coupons.length) ∧ (eqL eCC s.coupons t.coupons = eqL eCC (s.coupons.drop i) (t.coupons.drop i))) (fun i => ⟨mkE [(2, V.ptr 2 0), (3, V.ptr 3 0), (5, .int .i64 i)], mkH [(2, Ob.box 27 [V.int IntKind.i64 s.number, V.str s.locator, V.str s.person.last, V.str s.person.first, V.str s.person.type, V.list (List.map Coupon.enc s.coupons) false, V.int IntKind.i64 s.fare, V.list (List.map Charge.enc s.taxes) false, V.int IntKind.i64 s.total, V.int IntKind.i64 s.issued]), (3, Ob.box 27 [V.int IntKind.i64 t.number, V.str t.locator, V.str t.person.last, V.str t.person.first, V.str t.person.type, V.list (List.map Coupon.enc t.coupons) false, V.int IntKind.i64 t.fare, V.list (List.map Charge.enc t.taxes) false, V.int IntKind.i64 t.total, V.int IntKind.i64 t.issued])]⟩) (fun i => s.coupons.length - i) 0 ⟨Nat.zero_le _, rfl⟩ ?_ ?_
    · refine Le.mk _ _ ?_ ?_ rfl <;> simp only [go_sem, ↓reduceIte, Nat.reduceEqDiff, reduceCtorEq, Nat.reduceAdd, Nat.reduceLT, Nat.reduceLeDiff, Nat.reduceBNe, Nat.reduceBEq, Int.reduceToNat] <;> (repeat' apply And.intro) <;> (try first | rfl | exact wk_frzb rfl rfl rfl | exact wk_fn rfl | exact .nilo _ _ _ rfl rfl | exact wk_frzm rfl rfl (fun kv hk => by obtain ⟨_, _, rfl⟩ := List.mem_map.1 hk; rfl))
    · rintro i ⟨hi, he⟩ KL0 hKL0
      try dsimp only at *
      refine aw_seq ?_
      refine aw_seq (aw_region (EF := EF0) hG (by rw [hN]; exact tr12_4) ?_)
      simp only [a12_4, go_sem, ↓reduceIte, Nat.reduceEqDiff, reduceCtorEq, Nat.reduceAdd, Nat.reduceLT, Nat.reduceLeDiff, Nat.reduceBNe, Nat.reduceBEq, Int.reduceToNat, List.length_map]
      refine aw_cond (b := _) rfl (fun hb4 => ?_) (fun hb4 => ?_)
      · skip
        have hc4 : i < s.coupons.length := by simp at hb4; omega
        have hc4r : i < t.coupons.length := by omega
        obtain ⟨a, haa⟩ : ∃ a, a = s.coupons[i] := ⟨_, rfl⟩
        obtain ⟨b, hbb⟩ : ∃ b, b = t.coupons[i] := ⟨_, rfl⟩
        have hst := eqL_drop eCC hc4 hc4r
        rw [← haa, ← hbb] at hst
        refine aw_skip ?_
        try simp only [go_sem, ↓reduceIte, Nat.reduceEqDiff, reduceCtorEq, Nat.reduceAdd, Nat.reduceLT, Nat.reduceLeDiff, Nat.reduceBNe, Nat.reduceBEq, Int.reduceToNat]
        refine aw_seq ?_
        refine aw_block ?_
        refine aw_seq (aw_regionD (EF := EF0) hG mixed (by rw [hN]; exact tr12_6) ok12_6 ?_)
        simp only [a12_6, d12_6, go_sem, ↓reduceIte, Nat.reduceEqDiff, reduceCtorEq, Nat.reduceAdd, Nat.reduceLT, Nat.reduceLeDiff, Nat.reduceBNe, Nat.reduceBEq, Int.reduceToNat, getD_mapd _ _ _ _ hc4, ← haa, getD_mapd _ _ _ _ hc4r, ← hbb, Coupon.enc, hc4, hc4r, List.length_map]
        (repeat' apply And.intro) <;> (try first | omega | ((fail_if_success refine idW ?_); (fail_if_success refine idS ?_); intros; (repeat' apply And.intro) <;> first | assumption | omega | (simp_all; done)))
        refine aw_cond (b := _) rfl (fun hb6 => ?_) (fun hb6 => ?_)
        · skip
          have h6 : eCC a b = false := by (cases h : eCC a b with | false => rfl | true => (simp [eCC, Coupon.enc, eqVs, eqV] at h; simp [h] at hb6))
          have hm2 : sameT s t = false := by rw [hm, he, hst, h6]; rfl
          refine aw_seq (aw_region (EF := EF0) hG (by rw [hN]; exact tr12_7) ?_)
          simp only [a12_7, go_sem, ↓reduceIte, Nat.reduceEqDiff, reduceCtorEq, Nat.reduceAdd, Nat.reduceLT, Nat.reduceLeDiff, Nat.reduceBNe, Nat.reduceBEq, Int.reduceToNat]
          refine aw_ret ?_
          show Q _ _
          refine hQ _ _ (.inl rfl) ?_ ?_ ?_ <;> simp only [outφ, outV, AR.res, go_sem, ↓reduceIte, Nat.reduceEqDiff, reduceCtorEq, Nat.reduceAdd, Nat.reduceLT, Nat.reduceLeDiff, Nat.reduceBNe, Nat.reduceBEq, Int.reduceToNat, fSam, hm2]
        · skip
          have h6 : eCC a b = true := by simpa [eCC, Coupon.enc, eqVs, eqV] using hb6
          refine aw_skip ?_
          try simp only [go_sem, ↓reduceIte, Nat.reduceEqDiff, reduceCtorEq, Nat.reduceAdd, Nat.reduceLT, Nat.reduceLeDiff, Nat.reduceBNe, Nat.reduceBEq, Int.reduceToNat]
          refine aw_region (EF := EF0) hG (by rw [hN]; exact tr12_5) ?_
          simp only [a12_5, go_sem, ↓reduceIte, Nat.reduceEqDiff, reduceCtorEq, Nat.reduceAdd, Nat.reduceLT, Nat.reduceLeDiff, Nat.reduceBNe, Nat.reduceBEq, Int.reduceToNat, inI]
          (repeat' apply And.intro) <;> (try first | omega | ((fail_if_success refine idW ?_); (fail_if_success refine idS ?_); intros; (repeat' apply And.intro) <;> first | assumption | omega | (simp_all; done)))
          refine hKL0 (i + 1) _ ?_ ?_ ?_
          · (try dsimp only); exact ⟨hc4, by rw [he, hst, h6, Bool.true_and]⟩
          · (try dsimp only); omega
          · refine Le.mk _ _ ?_ ?_ rfl <;> simp only [go_sem, ↓reduceIte, Nat.reduceEqDiff, reduceCtorEq, Nat.reduceAdd, Nat.reduceLT, Nat.reduceLeDiff, Nat.reduceBNe, Nat.reduceBEq, Int.reduceToNat] <;> (repeat' apply And.intro) <;> (try first | rfl | exact wk_frzb rfl rfl rfl | exact wk_fn rfl | exact .nilo _ _ _ rfl rfl | exact wk_frzm rfl rfl (fun kv hk => by obtain ⟨_, _, rfl⟩ := List.mem_map.1 hk; rfl))
      · skip
        obtain rfl : i = s.coupons.length := by simp at hb4; omega
        have hm1 : sameT s t = eqL eHH s.taxes t.taxes := by rw [hm, he, List.drop_length, List.drop_of_length_le (by omega)]; rfl
        refine aw_exit ?_
        simp only [go_sem, ↓reduceIte, Nat.reduceEqDiff, reduceCtorEq, Nat.reduceAdd, Nat.reduceLT, Nat.reduceLeDiff, Nat.reduceBNe, Nat.reduceBEq, Int.reduceToNat]
        refine aw_seq ?_
        refine aw_seq (aw_region (EF := EF0) hG (by rw [hN]; exact tr12_8) ?_)
        simp only [a12_8, go_sem, ↓reduceIte, Nat.reduceEqDiff, reduceCtorEq, Nat.reduceAdd, Nat.reduceLT, Nat.reduceLeDiff, Nat.reduceBNe, Nat.reduceBEq, Int.reduceToNat]
        refine aw_block ?_
        refine aw_loop (α := Nat) (fun j => (j ≤ s.taxes.length) ∧ (eqL eHH s.taxes t.taxes = eqL eHH (s.taxes.drop j) (t.taxes.drop j))) (fun j => ⟨mkE [(2, V.ptr 2 0), (3, V.ptr 3 0), (6, .int .i64 j)], mkH [(2, Ob.box 27 [V.int IntKind.i64 s.number, V.str s.locator, V.str s.person.last, V.str s.person.first, V.str s.person.type, V.list (List.map Coupon.enc s.coupons) false, V.int IntKind.i64 s.fare, V.list (List.map Charge.enc s.taxes) false, V.int IntKind.i64 s.total, V.int IntKind.i64 s.issued]), (3, Ob.box 27 [V.int IntKind.i64 t.number, V.str t.locator, V.str t.person.last, V.str t.person.first, V.str t.person.type, V.list (List.map Coupon.enc t.coupons) false, V.int IntKind.i64 t.fare, V.list (List.map Charge.enc t.taxes) false, V.int IntKind.i64 t.total, V.int IntKind.i64 t.issued])]⟩) (fun j => s.taxes.length - j) 0 ⟨Nat.zero_le _, rfl⟩ ?_ ?_
        · refine Le.mk _ _ ?_ ?_ rfl <;> simp only [go_sem, ↓reduceIte, Nat.reduceEqDiff, reduceCtorEq, Nat.reduceAdd, Nat.reduceLT, Nat.reduceLeDiff, Nat.reduceBNe, Nat.reduceBEq, Int.reduceToNat] <;> (repeat' apply And.intro) <;> (try first | rfl | exact wk_frzb rfl rfl rfl | exact wk_fn rfl | exact .nilo _ _ _ rfl rfl | exact wk_frzm rfl rfl (fun kv hk => by obtain ⟨_, _, rfl⟩ := List.mem_map.1 hk; rfl))
        · rintro j ⟨hj, hf⟩ KL2 hKL2
          try dsimp only at *
          refine aw_seq ?_
          refine aw_seq (aw_region (EF := EF0) hG (by rw [hN]; exact tr12_9) ?_)
          simp only [a12_9, go_sem, ↓reduceIte, Nat.reduceEqDiff, reduceCtorEq, Nat.reduceAdd, Nat.reduceLT, Nat.reduceLeDiff, Nat.reduceBNe, Nat.reduceBEq, Int.reduceToNat, List.length_map]
          refine aw_cond (b := _) rfl (fun hb9 => ?_) (fun hb9 => ?_)
          · skip
            have hc9 : j < s.taxes.length := by simp at hb9; omega
            have hc9r : j < t.taxes.length := by omega
            obtain ⟨a, haa⟩ : ∃ a, a = s.taxes[j] := ⟨_, rfl⟩
            obtain ⟨b, hbb⟩ : ∃ b, b = t.taxes[j] := ⟨_, rfl⟩
            have hst := eqL_drop eHH hc9 hc9r
            rw [← haa, ← hbb] at hst
            refine aw_skip ?_
            try simp only [go_sem, ↓reduceIte, Nat.reduceEqDiff, reduceCtorEq, Nat.reduceAdd, Nat.reduceLT, Nat.reduceLeDiff, Nat.reduceBNe, Nat.reduceBEq, Int.reduceToNat]
            refine aw_seq ?_
            refine aw_block ?_
            refine aw_seq (aw_regionD (EF := EF0) hG mixed (by rw [hN]; exact tr12_11) ok12_11 ?_)
            simp only [a12_11, d12_11, go_sem, ↓reduceIte, Nat.reduceEqDiff, reduceCtorEq, Nat.reduceAdd, Nat.reduceLT, Nat.reduceLeDiff, Nat.reduceBNe, Nat.reduceBEq, Int.reduceToNat, getD_mapd _ _ _ _ hc9, ← haa, getD_mapd _ _ _ _ hc9r, ← hbb, Charge.enc, hc9, hc9r, List.length_map]
            (repeat' apply And.intro) <;> (try first | omega | ((fail_if_success refine idW ?_); (fail_if_success refine idS ?_); intros; (repeat' apply And.intro) <;> first | assumption | omega | (simp_all; done)))
            refine aw_cond (b := _) rfl (fun hb11 => ?_) (fun hb11 => ?_)
            · skip
              have h6 : eHH a b = false := by (cases h : eHH a b with | false => rfl | true => (simp [eHH, Charge.enc, eqVs, eqV] at h; simp [h] at hb11))
              have hm2 : sameT s t = false := by rw [hm1, hf, hst, h6]; rfl
              refine aw_seq (aw_region (EF := EF0) hG (by rw [hN]; exact tr12_12) ?_)
              simp only [a12_12, go_sem, ↓reduceIte, Nat.reduceEqDiff, reduceCtorEq, Nat.reduceAdd, Nat.reduceLT, Nat.reduceLeDiff, Nat.reduceBNe, Nat.reduceBEq, Int.reduceToNat]
              refine aw_ret ?_
              show Q _ _
              refine hQ _ _ (.inl rfl) ?_ ?_ ?_ <;> simp only [outφ, outV, AR.res, go_sem, ↓reduceIte, Nat.reduceEqDiff, reduceCtorEq, Nat.reduceAdd, Nat.reduceLT, Nat.reduceLeDiff, Nat.reduceBNe, Nat.reduceBEq, Int.reduceToNat, fSam, hm2]
            · skip
              have h6 : eHH a b = true := by simpa [eHH, Charge.enc, eqVs, eqV] using hb11
              refine aw_skip ?_
              try simp only [go_sem, ↓reduceIte, Nat.reduceEqDiff, reduceCtorEq, Nat.reduceAdd, Nat.reduceLT, Nat.reduceLeDiff, Nat.reduceBNe, Nat.reduceBEq, Int.reduceToNat]
              refine aw_region (EF := EF0) hG (by rw [hN]; exact tr12_10) ?_
              simp only [a12_10, go_sem, ↓reduceIte, Nat.reduceEqDiff, reduceCtorEq, Nat.reduceAdd, Nat.reduceLT, Nat.reduceLeDiff, Nat.reduceBNe, Nat.reduceBEq, Int.reduceToNat, inI]
              (repeat' apply And.intro) <;> (try first | omega | ((fail_if_success refine idW ?_); (fail_if_success refine idS ?_); intros; (repeat' apply And.intro) <;> first | assumption | omega | (simp_all; done)))
              refine hKL2 (j + 1) _ ?_ ?_ ?_
              · (try dsimp only); exact ⟨hc9, by rw [hf, hst, h6, Bool.true_and]⟩
              · (try dsimp only); omega
              · refine Le.mk _ _ ?_ ?_ rfl <;> simp only [go_sem, ↓reduceIte, Nat.reduceEqDiff, reduceCtorEq, Nat.reduceAdd, Nat.reduceLT, Nat.reduceLeDiff, Nat.reduceBNe, Nat.reduceBEq, Int.reduceToNat] <;> (repeat' apply And.intro) <;> (try first | rfl | exact wk_frzb rfl rfl rfl | exact wk_fn rfl | exact .nilo _ _ _ rfl rfl | exact wk_frzm rfl rfl (fun kv hk => by obtain ⟨_, _, rfl⟩ := List.mem_map.1 hk; rfl))
          · skip
            obtain rfl : j = s.taxes.length := by simp at hb9; omega
            have hm2 : sameT s t = true := by rw [hm1, hf, List.drop_length, List.drop_of_length_le (by omega)]; rfl
            refine aw_exit ?_
            simp only [go_sem, ↓reduceIte, Nat.reduceEqDiff, reduceCtorEq, Nat.reduceAdd, Nat.reduceLT, Nat.reduceLeDiff, Nat.reduceBNe, Nat.reduceBEq, Int.reduceToNat]
            refine aw_seq (aw_region (EF := EF0) hG (by rw [hN]; exact tr12_13) ?_)
            simp only [a12_13, go_sem, ↓reduceIte, Nat.reduceEqDiff, reduceCtorEq, Nat.reduceAdd, Nat.reduceLT, Nat.reduceLeDiff, Nat.reduceBNe, Nat.reduceBEq, Int.reduceToNat]
            refine aw_ret ?_
            show Q _ _
            refine hQ _ _ (.inl rfl) ?_ ?_ ?_ <;> simp only [outφ, outV, AR.res, go_sem, ↓reduceIte, Nat.reduceEqDiff, reduceCtorEq, Nat.reduceAdd, Nat.reduceLT, Nat.reduceLeDiff, Nat.reduceBNe, Nat.reduceBEq, Int.reduceToNat, fSam, hm2]
end Go.Proofs.YtffapkiilkeadaaDoor
