/- The statements of the chapter (sums, shares, taxes). -/
import Derived.Test.YtfjgnfgadkajnaaPr7
namespace Go.Proofs.Ytfjgnfgadkajnaa
open Go Go.RowKit
set_option linter.unusedSimpArgs false
set_option linter.unusedVariables false
set_option linter.deprecated false
def bigB (t : Ticket) (o : List (List UInt8)) : Bool := decide (12 < t.coupons.length) || decide (12 < t.taxes.length) || decide (20 < o.length) || o.any (fun s => decide (100 < s.length)) || t.taxes.any (fun c => decide (100 < c.code.length))
def BgOk (t : Ticket) (o : List (List UInt8)) : Prop := t.coupons.length ≤ 140737488355328 ∧ t.taxes.length ≤ 140737488355328 ∧ o.length ≤ 140737488355328
def fBig (x : Ticket × List (List UInt8)) : Prop × V := (BgOk x.1 x.2, .bool (bigB x.1 x.2))
theorem fBig_eq (t : Ticket) (o : List (List UInt8)) : gOf aShr fBig [.agg [.int .i64 t.number, .str t.locator, .str t.person.last, .str t.person.first, .str t.person.type, .list (t.coupons.map Coupon.enc) false, .int .i64 t.fare, .list (t.taxes.map Charge.enc) false, .int .i64 t.total, .int .i64 t.issued], .list (strs o) false] = (BgOk t o, .bool (bigB t o)) := gOf_eq aShr_inj (t, o)
theorem fBig_eqn (t : Ticket) : gNn (gOf aShr fBig) [.agg [.int .i64 t.number, .str t.locator, .str t.person.last, .str t.person.first, .str t.person.type, .list (t.coupons.map Coupon.enc) false, .int .i64 t.fare, .list (t.taxes.map Charge.enc) false, .int .i64 t.total, .int .i64 t.issued], .nils] = (BgOk t [], .bool (bigB t [])) := fBig_eq t []
theorem fTax_eq (l : List Ticket) : gOf aTax fTax [.list (l.map Ticket.enc) false] = (TxOk l, txV (taxM l)) := gOf_eq aTax_inj l
theorem fAw_eq : gOf aUnit fTrue [] = (True, .bool true) := gOf_eq aUnit_inj ()
theorem big_p : PureC Try.prog UT 9 (gOf aShr fBig) := by
  have hG := tNo_ok
  refine PureC.ofArgs aShr_inj Try.func9 body9 nm9 res9 ?_
  rintro ⟨t, o⟩ hv
  refine ⟨by rw [nt9]; simp [aShr], fun C hN Q hQ => ?_⟩
  rw [nt9] at hN
  unfold c9
  obtain ⟨h1, h2, h3⟩ : BgOk t o := hv
  refine aw_seq (aw_region (EF := EF0) hG (by rw [hN]; exact tr9_0) ?_)
  simp only [a9_0, go_sem, ↓reduceIte, Nat.reduceEqDiff, reduceCtorEq, Nat.reduceAdd, Nat.reduceLT, Nat.reduceLeDiff, Nat.reduceBNe, Nat.reduceBEq, Int.reduceToNat, aShr, Ticket.enc, tNo]
  refine aw_seq ?_
  refine aw_seq (aw_region (EF := EF0) hG (by rw [hN]; exact tr9_1) ?_)
  simp only [a9_1, go_sem, ↓reduceIte, Nat.reduceEqDiff, reduceCtorEq, Nat.reduceAdd, Nat.reduceLT, Nat.reduceLeDiff, Nat.reduceBNe, Nat.reduceBEq, Int.reduceToNat, List.length_map, strs_len, tNo]
  (repeat' apply And.intro) <;> (try first | omega | ((fail_if_success (refine (id : AW _ _ _ _ _ → AW _ _ _ _ _) ?_)); (fail_if_success (refine (id : EStep _ _ _ _ _ _ _ → EStep _ _ _ _ _ _ _) ?_)); intros; (repeat' apply And.intro) <;> first | assumption | omega | (simp_all; done)))
  refine aw_cond (b := _) rfl (fun hb1 => ?_) (fun hb1 => ?_)
  · skip
    have hb : bigB t o = true := by unfold bigB; simp only [Bool.or_eq_true, decide_eq_true_eq] at hb1 ⊢; omega
    refine aw_seq (aw_region (EF := EF0) hG (by rw [hN]; exact tr9_2) ?_)
    simp only [a9_2, go_sem, ↓reduceIte, Nat.reduceEqDiff, reduceCtorEq, Nat.reduceAdd, Nat.reduceLT, Nat.reduceLeDiff, Nat.reduceBNe, Nat.reduceBEq, Int.reduceToNat, tNo]
    refine aw_ret ?_
    show Q _ _
    refine hQ _ _ (.inl rfl) ?_ ?_ ?_ <;> simp only [outφ, outV, AR.res, go_sem, ↓reduceIte, Nat.reduceEqDiff, reduceCtorEq, Nat.reduceAdd, Nat.reduceLT, Nat.reduceLeDiff, Nat.reduceBNe, Nat.reduceBEq, Int.reduceToNat, fBig, hb]
  · skip
    have hb : bigB t o = (o.any (fun s => decide (100 < s.length)) || t.taxes.any (fun c => decide (100 < c.code.length))) := by (have hx : (decide (12 < t.coupons.length) || decide (12 < t.taxes.length) || decide (20 < o.length)) = false := by simp only [Bool.or_eq_false_iff, decide_eq_false_iff_not] at hb1 ⊢; omega); unfold bigB; rw [hx]; simp
    refine aw_skip ?_
    try simp only [go_sem, ↓reduceIte, Nat.reduceEqDiff, reduceCtorEq, Nat.reduceAdd, Nat.reduceLT, Nat.reduceLeDiff, Nat.reduceBNe, Nat.reduceBEq, Int.reduceToNat]
    refine aw_seq ?_
    refine aw_seq (aw_region (EF := EF0) hG (by rw [hN]; exact tr9_3) ?_)
    simp only [a9_3, go_sem, ↓reduceIte, Nat.reduceEqDiff, reduceCtorEq, Nat.reduceAdd, Nat.reduceLT, Nat.reduceLeDiff, Nat.reduceBNe, Nat.reduceBEq, Int.reduceToNat, tNo]
    refine aw_block ?_
    refine aw_loop (α := Nat) (fun i => (i ≤ o.length) ∧ (∀ x ∈ o.take i, decide (100 < x.length) = false)) (fun i => ⟨mkE [(1, V.list (strs o) false), (2, V.ptr 2 0), (5, .int .i64 i)], mkH [(2, Ob.box 44 [V.int IntKind.i64 t.number, V.str t.locator, V.str t.person.last, V.str t.person.first, V.str t.person.type, V.list (List.map Coupon.enc t.coupons) false, V.int IntKind.i64 t.fare, V.list (List.map Charge.enc t.taxes) false, V.int IntKind.i64 t.total, V.int IntKind.i64 t.issued])]⟩) (fun i => o.length - i) 0 (by simp) ?_ ?_
    · refine Le.mk _ _ ?_ ?_ rfl <;> simp only [go_sem, ↓reduceIte, Nat.reduceEqDiff, reduceCtorEq, Nat.reduceAdd, Nat.reduceLT, Nat.reduceLeDiff, Nat.reduceBNe, Nat.reduceBEq, Int.reduceToNat] <;> (repeat' apply And.intro) <;> (try first | rfl | exact wk_frzb rfl rfl rfl | exact wk_fn rfl | exact .nilo _ _ _ rfl rfl | exact wk_frzm rfl rfl (fun kv hk => by obtain ⟨_, _, rfl⟩ := List.mem_map.1 hk; rfl))
    · rintro i ⟨hi, hp⟩ KL0 hKL0
      try dsimp only at *
      refine aw_seq ?_
      refine aw_seq (aw_region (EF := EF0) hG (by rw [hN]; exact tr9_4) ?_)
      simp only [a9_4, go_sem, ↓reduceIte, Nat.reduceEqDiff, reduceCtorEq, Nat.reduceAdd, Nat.reduceLT, Nat.reduceLeDiff, Nat.reduceBNe, Nat.reduceBEq, Int.reduceToNat, tNo]
      refine aw_cond (b := _) rfl (fun hc4 => ?_) (fun hc4 => ?_)
      · simp only [decide_eq_true_eq, decide_eq_false_iff_not, Bool.and_eq_true, Bool.or_eq_true, Bool.not_eq_true', Bool.not_eq_false', Bool.and_eq_false_iff, Bool.or_eq_false_iff, Int.ofNat_lt, Int.ofNat_le, Nat.not_lt, Nat.not_le, Int.not_lt, Int.not_le] at hc4
        refine aw_skip ?_
        try simp only [go_sem, ↓reduceIte, Nat.reduceEqDiff, reduceCtorEq, Nat.reduceAdd, Nat.reduceLT, Nat.reduceLeDiff, Nat.reduceBNe, Nat.reduceBEq, Int.reduceToNat]
        refine aw_seq ?_
        refine aw_block ?_
        refine aw_seq (aw_region (EF := EF0) hG (by rw [hN]; exact tr9_6) ?_)
        simp only [a9_6, go_sem, ↓reduceIte, Nat.reduceEqDiff, reduceCtorEq, Nat.reduceAdd, Nat.reduceLT, Nat.reduceLeDiff, Nat.reduceBNe, Nat.reduceBEq, Int.reduceToNat, strs_getD _ _ _ hc4, hc4, tNo]
        (repeat' apply And.intro) <;> (try first | omega | ((fail_if_success (refine (id : AW _ _ _ _ _ → AW _ _ _ _ _) ?_)); (fail_if_success (refine (id : EStep _ _ _ _ _ _ _ → EStep _ _ _ _ _ _ _) ?_)); intros; (repeat' apply And.intro) <;> first | assumption | omega | (simp_all; done)))
        refine aw_cond (b := _) rfl (fun hc6 => ?_) (fun hc6 => ?_)
        · simp only [decide_eq_true_eq, decide_eq_false_iff_not, Bool.and_eq_true, Bool.or_eq_true, Bool.not_eq_true', Bool.not_eq_false', Bool.and_eq_false_iff, Bool.or_eq_false_iff, Int.ofNat_lt, Int.ofNat_le, Nat.not_lt, Nat.not_le, Int.not_lt, Int.not_le] at hc6
          have hb2 : bigB t o = true := by rw [hb, any_at (p := fun s => decide (100 < s.length)) hc4 (by simp; omega)]; rfl
          refine aw_seq (aw_region (EF := EF0) hG (by rw [hN]; exact tr9_7) ?_)
          simp only [a9_7, go_sem, ↓reduceIte, Nat.reduceEqDiff, reduceCtorEq, Nat.reduceAdd, Nat.reduceLT, Nat.reduceLeDiff, Nat.reduceBNe, Nat.reduceBEq, Int.reduceToNat, tNo]
          refine aw_ret ?_
          show Q _ _
          refine hQ _ _ (.inl rfl) ?_ ?_ ?_ <;> simp only [outφ, outV, AR.res, go_sem, ↓reduceIte, Nat.reduceEqDiff, reduceCtorEq, Nat.reduceAdd, Nat.reduceLT, Nat.reduceLeDiff, Nat.reduceBNe, Nat.reduceBEq, Int.reduceToNat, fBig, hb2]
        · simp only [decide_eq_true_eq, decide_eq_false_iff_not, Bool.and_eq_true, Bool.or_eq_true, Bool.not_eq_true', Bool.not_eq_false', Bool.and_eq_false_iff, Bool.or_eq_false_iff, Int.ofNat_lt, Int.ofNat_le, Nat.not_lt, Nat.not_le, Int.not_lt, Int.not_le] at hc6
          refine aw_skip ?_
          try simp only [go_sem, ↓reduceIte, Nat.reduceEqDiff, reduceCtorEq, Nat.reduceAdd, Nat.reduceLT, Nat.reduceLeDiff, Nat.reduceBNe, Nat.reduceBEq, Int.reduceToNat]
          refine aw_region (EF := EF0) hG (by rw [hN]; exact tr9_5) ?_
          simp only [a9_5, go_sem, ↓reduceIte, Nat.reduceEqDiff, reduceCtorEq, Nat.reduceAdd, Nat.reduceLT, Nat.reduceLeDiff, Nat.reduceBNe, Nat.reduceBEq, Int.reduceToNat, inI, tNo]
          (repeat' apply And.intro) <;> (try first | omega | ((fail_if_success (refine (id : AW _ _ _ _ _ → AW _ _ _ _ _) ?_)); (fail_if_success (refine (id : EStep _ _ _ _ _ _ _ → EStep _ _ _ _ _ _ _) ?_)); intros; (repeat' apply And.intro) <;> first | assumption | omega | (simp_all; done)))
          refine hKL0 (i + 1) _ ?_ ?_ ?_
          · (try dsimp only); exact ⟨hc4, take_all (p := fun x : List UInt8 => decide (100 < x.length) = false) hc4 hp (by simp; omega)⟩
          · (try dsimp only); omega
          · refine Le.mk _ _ ?_ ?_ rfl <;> simp only [go_sem, ↓reduceIte, Nat.reduceEqDiff, reduceCtorEq, Nat.reduceAdd, Nat.reduceLT, Nat.reduceLeDiff, Nat.reduceBNe, Nat.reduceBEq, Int.reduceToNat] <;> (repeat' apply And.intro) <;> (try first | rfl | exact wk_frzb rfl rfl rfl | exact wk_fn rfl | exact .nilo _ _ _ rfl rfl | exact wk_frzm rfl rfl (fun kv hk => by obtain ⟨_, _, rfl⟩ := List.mem_map.1 hk; rfl))
      · simp only [decide_eq_true_eq, decide_eq_false_iff_not, Bool.and_eq_true, Bool.or_eq_true, Bool.not_eq_true', Bool.not_eq_false', Bool.and_eq_false_iff, Bool.or_eq_false_iff, Int.ofNat_lt, Int.ofNat_le, Nat.not_lt, Nat.not_le, Int.not_lt, Int.not_le] at hc4
        rw [any_no (p := fun s => decide (100 < s.length)) hc4 hp, Bool.false_or] at hb
        refine aw_exit ?_
        simp only [go_sem, ↓reduceIte, Nat.reduceEqDiff, reduceCtorEq, Nat.reduceAdd, Nat.reduceLT, Nat.reduceLeDiff, Nat.reduceBNe, Nat.reduceBEq, Int.reduceToNat]
        refine aw_seq ?_
        refine aw_seq (aw_region (EF := EF0) hG (by rw [hN]; exact tr9_8) ?_)
        simp only [a9_8, go_sem, ↓reduceIte, Nat.reduceEqDiff, reduceCtorEq, Nat.reduceAdd, Nat.reduceLT, Nat.reduceLeDiff, Nat.reduceBNe, Nat.reduceBEq, Int.reduceToNat, tNo]
        refine aw_block ?_
        refine aw_loop (α := Nat) (fun j => (j ≤ t.taxes.length) ∧ (∀ x ∈ t.taxes.take j, decide (100 < x.code.length) = false)) (fun j => ⟨mkE [(2, V.ptr 2 0), (6, .int .i64 j)], mkH [(2, Ob.box 44 [V.int IntKind.i64 t.number, V.str t.locator, V.str t.person.last, V.str t.person.first, V.str t.person.type, V.list (List.map Coupon.enc t.coupons) false, V.int IntKind.i64 t.fare, V.list (List.map Charge.enc t.taxes) false, V.int IntKind.i64 t.total, V.int IntKind.i64 t.issued])]⟩) (fun j => t.taxes.length - j) 0 (by simp) ?_ ?_
        · refine Le.mk _ _ ?_ ?_ rfl <;> simp only [go_sem, ↓reduceIte, Nat.reduceEqDiff, reduceCtorEq, Nat.reduceAdd, Nat.reduceLT, Nat.reduceLeDiff, Nat.reduceBNe, Nat.reduceBEq, Int.reduceToNat] <;> (repeat' apply And.intro) <;> (try first | rfl | exact wk_frzb rfl rfl rfl | exact wk_fn rfl | exact .nilo _ _ _ rfl rfl | exact wk_frzm rfl rfl (fun kv hk => by obtain ⟨_, _, rfl⟩ := List.mem_map.1 hk; rfl))
        · rintro j ⟨hj, hq⟩ KL2 hKL2
          try dsimp only at *
          refine aw_seq ?_
          refine aw_seq (aw_region (EF := EF0) hG (by rw [hN]; exact tr9_9) ?_)
          simp only [a9_9, go_sem, ↓reduceIte, Nat.reduceEqDiff, reduceCtorEq, Nat.reduceAdd, Nat.reduceLT, Nat.reduceLeDiff, Nat.reduceBNe, Nat.reduceBEq, Int.reduceToNat, List.length_map, tNo]
          refine aw_cond (b := _) rfl (fun hc9 => ?_) (fun hc9 => ?_)
          · simp only [decide_eq_true_eq, decide_eq_false_iff_not, Bool.and_eq_true, Bool.or_eq_true, Bool.not_eq_true', Bool.not_eq_false', Bool.and_eq_false_iff, Bool.or_eq_false_iff, Int.ofNat_lt, Int.ofNat_le, Nat.not_lt, Nat.not_le, Int.not_lt, Int.not_le] at hc9
            refine aw_skip ?_
            try simp only [go_sem, ↓reduceIte, Nat.reduceEqDiff, reduceCtorEq, Nat.reduceAdd, Nat.reduceLT, Nat.reduceLeDiff, Nat.reduceBNe, Nat.reduceBEq, Int.reduceToNat]
            refine aw_seq ?_
            refine aw_block ?_
            refine aw_seq (aw_region (EF := EF0) hG (by rw [hN]; exact tr9_11) ?_)
            simp only [a9_11, go_sem, ↓reduceIte, Nat.reduceEqDiff, reduceCtorEq, Nat.reduceAdd, Nat.reduceLT, Nat.reduceLeDiff, Nat.reduceBNe, Nat.reduceBEq, Int.reduceToNat, getD_mapd _ _ _ _ hc9, hc9, Charge.enc, List.length_map, tNo]
            (repeat' apply And.intro) <;> (try first | omega | ((fail_if_success (refine (id : AW _ _ _ _ _ → AW _ _ _ _ _) ?_)); (fail_if_success (refine (id : EStep _ _ _ _ _ _ _ → EStep _ _ _ _ _ _ _) ?_)); intros; (repeat' apply And.intro) <;> first | assumption | omega | (simp_all; done)))
            refine aw_cond (b := _) rfl (fun hc11 => ?_) (fun hc11 => ?_)
            · simp only [decide_eq_true_eq, decide_eq_false_iff_not, Bool.and_eq_true, Bool.or_eq_true, Bool.not_eq_true', Bool.not_eq_false', Bool.and_eq_false_iff, Bool.or_eq_false_iff, Int.ofNat_lt, Int.ofNat_le, Nat.not_lt, Nat.not_le, Int.not_lt, Int.not_le] at hc11
              have hb2 : bigB t o = true := by rw [hb]; exact any_at (p := fun c : Charge => decide (100 < c.code.length)) hc9 (by simp; omega)
              refine aw_seq (aw_region (EF := EF0) hG (by rw [hN]; exact tr9_12) ?_)
              simp only [a9_12, go_sem, ↓reduceIte, Nat.reduceEqDiff, reduceCtorEq, Nat.reduceAdd, Nat.reduceLT, Nat.reduceLeDiff, Nat.reduceBNe, Nat.reduceBEq, Int.reduceToNat, tNo]
              refine aw_ret ?_
              show Q _ _
              refine hQ _ _ (.inl rfl) ?_ ?_ ?_ <;> simp only [outφ, outV, AR.res, go_sem, ↓reduceIte, Nat.reduceEqDiff, reduceCtorEq, Nat.reduceAdd, Nat.reduceLT, Nat.reduceLeDiff, Nat.reduceBNe, Nat.reduceBEq, Int.reduceToNat, fBig, hb2]
            · simp only [decide_eq_true_eq, decide_eq_false_iff_not, Bool.and_eq_true, Bool.or_eq_true, Bool.not_eq_true', Bool.not_eq_false', Bool.and_eq_false_iff, Bool.or_eq_false_iff, Int.ofNat_lt, Int.ofNat_le, Nat.not_lt, Nat.not_le, Int.not_lt, Int.not_le] at hc11
              refine aw_skip ?_
              try simp only [go_sem, ↓reduceIte, Nat.reduceEqDiff, reduceCtorEq, Nat.reduceAdd, Nat.reduceLT, Nat.reduceLeDiff, Nat.reduceBNe, Nat.reduceBEq, Int.reduceToNat]
              refine aw_region (EF := EF0) hG (by rw [hN]; exact tr9_10) ?_
              simp only [a9_10, go_sem, ↓reduceIte, Nat.reduceEqDiff, reduceCtorEq, Nat.reduceAdd, Nat.reduceLT, Nat.reduceLeDiff, Nat.reduceBNe, Nat.reduceBEq, Int.reduceToNat, inI, tNo]
              (repeat' apply And.intro) <;> (try first | omega | ((fail_if_success (refine (id : AW _ _ _ _ _ → AW _ _ _ _ _) ?_)); (fail_if_success (refine (id : EStep _ _ _ _ _ _ _ → EStep _ _ _ _ _ _ _) ?_)); intros; (repeat' apply And.intro) <;> first | assumption | omega | (simp_all; done)))
              refine hKL2 (j + 1) _ ?_ ?_ ?_
              · (try dsimp only); exact ⟨hc9, take_all (p := fun x : Charge => decide (100 < x.code.length) = false) hc9 hq (by simp; omega)⟩
              · (try dsimp only); omega
              · refine Le.mk _ _ ?_ ?_ rfl <;> simp only [go_sem, ↓reduceIte, Nat.reduceEqDiff, reduceCtorEq, Nat.reduceAdd, Nat.reduceLT, Nat.reduceLeDiff, Nat.reduceBNe, Nat.reduceBEq, Int.reduceToNat] <;> (repeat' apply And.intro) <;> (try first | rfl | exact wk_frzb rfl rfl rfl | exact wk_fn rfl | exact .nilo _ _ _ rfl rfl | exact wk_frzm rfl rfl (fun kv hk => by obtain ⟨_, _, rfl⟩ := List.mem_map.1 hk; rfl))
          · simp only [decide_eq_true_eq, decide_eq_false_iff_not, Bool.and_eq_true, Bool.or_eq_true, Bool.not_eq_true', Bool.not_eq_false', Bool.and_eq_false_iff, Bool.or_eq_false_iff, Int.ofNat_lt, Int.ofNat_le, Nat.not_lt, Nat.not_le, Int.not_lt, Int.not_le] at hc9
            rw [any_no (p := fun c : Charge => decide (100 < c.code.length)) hc9 hq] at hb
            refine aw_exit ?_
            simp only [go_sem, ↓reduceIte, Nat.reduceEqDiff, reduceCtorEq, Nat.reduceAdd, Nat.reduceLT, Nat.reduceLeDiff, Nat.reduceBNe, Nat.reduceBEq, Int.reduceToNat]
            refine aw_seq (aw_region (EF := EF0) hG (by rw [hN]; exact tr9_13) ?_)
            simp only [a9_13, go_sem, ↓reduceIte, Nat.reduceEqDiff, reduceCtorEq, Nat.reduceAdd, Nat.reduceLT, Nat.reduceLeDiff, Nat.reduceBNe, Nat.reduceBEq, Int.reduceToNat, tNo]
            refine aw_ret ?_
            show Q _ _
            refine hQ _ _ (.inl rfl) ?_ ?_ ?_ <;> simp only [outφ, outV, AR.res, go_sem, ↓reduceIte, Nat.reduceEqDiff, reduceCtorEq, Nat.reduceAdd, Nat.reduceLT, Nat.reduceLeDiff, Nat.reduceBNe, Nat.reduceBEq, Int.reduceToNat, fBig, hb]
end Go.Proofs.Ytfjgnfgadkajnaa
