/- Void of the reference. -/
import Derived.Test.YtffapkiilkeadaaDoorIs12
namespace Go.Proofs.YtffapkiilkeadaaDoor
open Go Go.RowKit
set_option linter.unusedSimpArgs false
set_option linter.unusedVariables false
set_option linter.deprecated false
theorem vM_step {l : List Coupon} {i : Nat} (h : i < l.length) : (l.take (i + 1)).map vUp = (l.take i).map vUp ++ [vUp l[i]] := by rw [take_succ' h, List.map_append]; rfl
noncomputable def trVd : Tab
  | 32 => (gOf aTwoN fVn)
  | _ => gNo
theorem trVd_ok : ∀ f, PureC Tryd.prog UT f (trVd f) := fun f => by
  unfold trVd
  split
  · exact rvnext_p
  · exact PureC.no
set_option maxHeartbeats 8000000 in
theorem rvoid_p : PureC Tryd.prog UT 11 (gOf aVd fVd) := by
  have hG := trVd_ok
  refine PureC.ofArgs aVd_inj Tryd.func11 body11 nm11 res11 ?_
  rintro ⟨t, d⟩ hv
  refine ⟨by rw [nt11]; simp [aVd], fun C hN Q hQ => ?_⟩
  rw [nt11] at hN
  unfold c11
  have hTk : TkOk t := hv
  obtain ⟨hok, hcl, htl⟩ := id hTk
  refine aw_seq (aw_region (EF := EF0) hG (by rw [hN]; exact tr11_0) ?_)
  simp only [a11_0, go_sem, ↓reduceIte, Nat.reduceEqDiff, reduceCtorEq, Nat.reduceAdd, Nat.reduceLT, Nat.reduceLeDiff, Nat.reduceBNe, Nat.reduceBEq, Int.reduceToNat, aVd, Ticket.enc, trVd, fVn_eq, tupI]
  refine aw_seq ?_
  refine AW.le (s' := ⟨mkE [(1, .int .i64 d), (2, .ptr 2 0), (4, .ptr 4 0), (5, .int .i64 0)], mkH ([(2, .box 27 (tCells t)), (4, .box 27 (tCells Ticket.zero))])⟩) (Le.mk _ _ (by (simp only [go_sem, ↓reduceIte, Nat.reduceEqDiff, reduceCtorEq, Nat.reduceAdd, Nat.reduceLT, Nat.reduceLeDiff, Nat.reduceBNe, Nat.reduceBEq, Int.reduceToNat, tCells, Ticket.zero, Ticket.enc]) <;> (repeat' apply And.intro) <;> (try first | exact wk_frzb rfl rfl rfl | rfl | exact wk_fn rfl | exact .nill _ | exact .nilo _ _ _ rfl rfl | exact wk_frz rfl (by simp only [ints_len, nats_len]) rfl (ints_pur _) | exact wk_frzm rfl rfl (fun kv hk => by obtain ⟨_, _, rfl⟩ := List.mem_map.1 hk; rfl))) (by (simp only [go_sem, ↓reduceIte, Nat.reduceEqDiff, reduceCtorEq, Nat.reduceAdd, Nat.reduceLT, Nat.reduceLeDiff, Nat.reduceBNe, Nat.reduceBEq, Int.reduceToNat, tCells, Ticket.zero, Ticket.enc]) <;> (repeat' apply And.intro) <;> (try first | exact wk_frzb rfl rfl rfl | rfl | exact wk_fn rfl | exact .nill _ | exact .nilo _ _ _ rfl rfl | exact wk_frz rfl (by simp only [ints_len, nats_len]) rfl (ints_pur _) | exact wk_frzm rfl rfl (fun kv hk => by obtain ⟨_, _, rfl⟩ := List.mem_map.1 hk; rfl))) rfl) ?_
  simp only [tCells]
  refine aw_seq (aw_region (EF := EF0) hG (by rw [hN]; exact tr11_1) ?_)
  simp only [a11_1, go_sem, ↓reduceIte, Nat.reduceEqDiff, reduceCtorEq, Nat.reduceAdd, Nat.reduceLT, Nat.reduceLeDiff, Nat.reduceBNe, Nat.reduceBEq, Int.reduceToNat, List.length_map, trVd, fVn_eq, tupI]
  refine aw_cond (b := _) rfl (fun hb1 => ?_) (fun hb1 => ?_)
  · skip
    have hm : voidT t d = (Ticket.zero, 2) := by unfold voidT; rw [if_pos (List.length_eq_zero_iff.1 (by simpa using hb1))]
    refine aw_seq (aw_region (EF := EF0) hG (by rw [hN]; exact tr11_2) ?_)
    simp only [a11_2, go_sem, ↓reduceIte, Nat.reduceEqDiff, reduceCtorEq, Nat.reduceAdd, Nat.reduceLT, Nat.reduceLeDiff, Nat.reduceBNe, Nat.reduceBEq, Int.reduceToNat, trVd, fVn_eq, tupI]
    refine AW.le (s' := ⟨mkE [(4, .ptr 4 0), (5, .int .i64 2)], mkH [(4, .box 27 (tCells Ticket.zero))]⟩) (Le.mk _ _ ?_ ?_ rfl) (aw_ret (hQ _ _ (.inl rfl) ?_ ?_ ?_)) <;> simp only [outφ, outV, AR.res, go_sem, ↓reduceIte, Nat.reduceEqDiff, reduceCtorEq, Nat.reduceAdd, Nat.reduceLT, Nat.reduceLeDiff, Nat.reduceBNe, Nat.reduceBEq, Int.reduceToNat, tCells, Ticket.zero, Person.zero, fVd, tkV, hm]
  · skip
    have hne : t.coupons ≠ [] := fun e => by simp [e] at hb1
    refine aw_skip ?_
    try simp only [go_sem, ↓reduceIte, Nat.reduceEqDiff, reduceCtorEq, Nat.reduceAdd, Nat.reduceLT, Nat.reduceLeDiff, Nat.reduceBNe, Nat.reduceBEq, Int.reduceToNat]
    refine aw_seq ?_
    refine aw_seq (aw_region (EF := EF0) hG (by rw [hN]; exact tr11_3) ?_)
    simp only [a11_3, go_sem, ↓reduceIte, Nat.reduceEqDiff, reduceCtorEq, Nat.reduceAdd, Nat.reduceLT, Nat.reduceLeDiff, Nat.reduceBNe, Nat.reduceBEq, Int.reduceToNat, trVd, fVn_eq, tupI]
    refine aw_cond (b := _) rfl (fun hb3 => ?_) (fun hb3 => ?_)
    · skip
      have hm : voidT t d = (Ticket.zero, 26) := by unfold voidT; rw [if_neg hne, if_pos (by simpa using hb3)]
      refine aw_seq (aw_region (EF := EF0) hG (by rw [hN]; exact tr11_4) ?_)
      simp only [a11_4, go_sem, ↓reduceIte, Nat.reduceEqDiff, reduceCtorEq, Nat.reduceAdd, Nat.reduceLT, Nat.reduceLeDiff, Nat.reduceBNe, Nat.reduceBEq, Int.reduceToNat, trVd, fVn_eq, tupI]
      refine AW.le (s' := ⟨mkE [(4, .ptr 4 0), (5, .int .i64 26)], mkH [(4, .box 27 (tCells Ticket.zero))]⟩) (Le.mk _ _ ?_ ?_ rfl) (aw_ret (hQ _ _ (.inl rfl) ?_ ?_ ?_)) <;> simp only [outφ, outV, AR.res, go_sem, ↓reduceIte, Nat.reduceEqDiff, reduceCtorEq, Nat.reduceAdd, Nat.reduceLT, Nat.reduceLeDiff, Nat.reduceBNe, Nat.reduceBEq, Int.reduceToNat, tCells, Ticket.zero, Person.zero, fVd, tkV, hm]
    · skip
      have hd : ¬ d ≠ t.issued := by simpa using hb3
      refine aw_skip ?_
      try simp only [go_sem, ↓reduceIte, Nat.reduceEqDiff, reduceCtorEq, Nat.reduceAdd, Nat.reduceLT, Nat.reduceLeDiff, Nat.reduceBNe, Nat.reduceBEq, Int.reduceToNat]
      refine aw_seq (aw_region (EF := EF0) hG (by rw [hN]; exact tr11_5) ?_)
      simp only [a11_5, go_sem, ↓reduceIte, Nat.reduceEqDiff, reduceCtorEq, Nat.reduceAdd, Nat.reduceLT, Nat.reduceLeDiff, Nat.reduceBNe, Nat.reduceBEq, Int.reduceToNat, trVd, fVn_eq, tupI]
      refine aw_seq ?_
      refine aw_seq (aw_region (EF := EF0) hG (by rw [hN]; exact tr11_6) ?_)
      simp only [a11_6, go_sem, ↓reduceIte, Nat.reduceEqDiff, reduceCtorEq, Nat.reduceAdd, Nat.reduceLT, Nat.reduceLeDiff, Nat.reduceBNe, Nat.reduceBEq, Int.reduceToNat, trVd, fVn_eq, tupI]
      refine AW.le (s' := ⟨mkE [(2, .ptr 2 0), (4, .ptr 4 0), (6, .own 999 0), (7, .int .i64 0)], mkH ([(2, .box 27 (tCells t)), (4, .box 27 (tCells Ticket.zero)), (999, .arr 43 11 [])])⟩) (Le.mk _ _ (by (simp only [go_sem, ↓reduceIte, Nat.reduceEqDiff, reduceCtorEq, Nat.reduceAdd, Nat.reduceLT, Nat.reduceLeDiff, Nat.reduceBNe, Nat.reduceBEq, Int.reduceToNat, tCells, Ticket.zero, Person.zero]) <;> (repeat' apply And.intro) <;> (try first | exact wk_frzb rfl rfl rfl | rfl | exact wk_fn rfl | exact .nill _ | exact .nilo _ _ _ rfl rfl | exact wk_frz rfl (by simp only [ints_len, nats_len]) rfl (ints_pur _) | exact wk_frzm rfl rfl (fun kv hk => by obtain ⟨_, _, rfl⟩ := List.mem_map.1 hk; rfl))) (by (simp only [go_sem, ↓reduceIte, Nat.reduceEqDiff, reduceCtorEq, Nat.reduceAdd, Nat.reduceLT, Nat.reduceLeDiff, Nat.reduceBNe, Nat.reduceBEq, Int.reduceToNat, tCells, Ticket.zero, Person.zero]) <;> (repeat' apply And.intro) <;> (try first | exact wk_frzb rfl rfl rfl | rfl | exact wk_fn rfl | exact .nill _ | exact .nilo _ _ _ rfl rfl | exact wk_frz rfl (by simp only [ints_len, nats_len]) rfl (ints_pur _) | exact wk_frzm rfl rfl (fun kv hk => by obtain ⟨_, _, rfl⟩ := List.mem_map.1 hk; rfl))) rfl) ?_
      simp only [tCells]
      refine aw_block ?_
      refine aw_loop (α := Nat) (fun i => (i ≤ t.coupons.length) ∧ (vErr t.coupons = vErr (t.coupons.drop i))) (fun i => ⟨mkE [(2, V.ptr 2 0), (4, V.ptr 4 0), (6, .own 999 i), (7, .int .i64 i)], mkH [(2, Ob.box 27 [V.int IntKind.i64 t.number, V.str t.locator, V.str t.person.last, V.str t.person.first, V.str t.person.type, V.list (List.map Coupon.enc t.coupons) false, V.int IntKind.i64 t.fare, V.list (List.map Charge.enc t.taxes) false, V.int IntKind.i64 t.total, V.int IntKind.i64 t.issued]), (4, Ob.box 27 [V.int IntKind.i64 Ticket.zero.number, V.str Ticket.zero.locator, V.str Ticket.zero.person.last, V.str Ticket.zero.person.first, V.str Ticket.zero.person.type, V.list (List.map Coupon.enc Ticket.zero.coupons) false, V.int IntKind.i64 Ticket.zero.fare, V.list (List.map Charge.enc Ticket.zero.taxes) false, V.int IntKind.i64 Ticket.zero.total, V.int IntKind.i64 Ticket.zero.issued]), (999, .arr 43 11 (((t.coupons.take i).map vUp).map Coupon.enc))]⟩) (fun i => t.coupons.length - i) 0 ⟨Nat.zero_le _, rfl⟩ ?_ ?_
      · refine Le.mk _ _ ?_ ?_ rfl <;> simp only [go_sem, ↓reduceIte, Nat.reduceEqDiff, reduceCtorEq, Nat.reduceAdd, Nat.reduceLT, Nat.reduceLeDiff, Nat.reduceBNe, Nat.reduceBEq, Int.reduceToNat, List.take_zero, List.map_nil] <;> (repeat' apply And.intro) <;> (try first | rfl | exact wk_frzb rfl rfl rfl | exact wk_fn rfl | exact .nilo _ _ _ rfl rfl | exact wk_frzm rfl rfl (fun kv hk => by obtain ⟨_, _, rfl⟩ := List.mem_map.1 hk; rfl))
      · rintro i ⟨hi, he⟩ KL0 hKL0
        try dsimp only at *
        refine aw_seq ?_
        refine aw_seq (aw_region (EF := EF0) hG (by rw [hN]; exact tr11_7) ?_)
        simp only [a11_7, go_sem, ↓reduceIte, Nat.reduceEqDiff, reduceCtorEq, Nat.reduceAdd, Nat.reduceLT, Nat.reduceLeDiff, Nat.reduceBNe, Nat.reduceBEq, Int.reduceToNat, List.length_map, trVd, fVn_eq, tupI]
        refine aw_cond (b := _) rfl (fun hb7 => ?_) (fun hb7 => ?_)
        · skip
          have hc7 : i < t.coupons.length := by simp at hb7; omega
          obtain ⟨c, hcc⟩ : ∃ c, c = t.coupons[i] := ⟨_, rfl⟩
          have hdr := vErr_drop hc7
          rw [← hcc] at hdr
          have hrow : ([.str c.want.seg.carrier, .int .i64 c.want.seg.number, .int .i64 c.want.seg.day, .str c.want.seg.from', .str c.want.seg.to', .int .i64 c.want.seg.dep, .int .i64 c.want.seg.arr, .str c.want.cls, .str c.basis, .int .i64 (voidM c.status).1, .int .i64 c.value] : List V) = (vUp t.coupons[i]).enc := by rw [← hcc]; rfl
          have hap : ∀ r, r = (vUp t.coupons[i]).enc → ((t.coupons.take i).map vUp).map Coupon.enc ++ [r] = ((t.coupons.take (i + 1)).map vUp).map Coupon.enc := fun r h => by rw [h, vM_step hc7, List.map_append]; rfl
          have hl9 : (((t.coupons.take i).map vUp).map Coupon.enc).length = i := by simp; omega
          refine aw_skip ?_
          try simp only [go_sem, ↓reduceIte, Nat.reduceEqDiff, reduceCtorEq, Nat.reduceAdd, Nat.reduceLT, Nat.reduceLeDiff, Nat.reduceBNe, Nat.reduceBEq, Int.reduceToNat]
          refine aw_seq ?_
          refine aw_block ?_
          refine aw_seq (aw_region (EF := EF0) hG (by rw [hN]; exact tr11_9) ?_)
          simp only [a11_9, go_sem, ↓reduceIte, Nat.reduceEqDiff, reduceCtorEq, Nat.reduceAdd, Nat.reduceLT, Nat.reduceLeDiff, Nat.reduceBNe, Nat.reduceBEq, Int.reduceToNat, getD_mapd _ _ _ _ hc7, ← hcc, Coupon.enc, hc7, List.length_map, trVd, fVn_eq, tupI]
          (repeat' apply And.intro) <;> (try first | omega | ((fail_if_success refine idW ?_); (fail_if_success refine idS ?_); intros; (repeat' apply And.intro) <;> first | assumption | omega | (simp_all; done)))
          refine aw_seq (aw_region (EF := EF0) hG (by rw [hN]; exact tr11_10) ?_)
          simp only [a11_10, go_sem, ↓reduceIte, Nat.reduceEqDiff, reduceCtorEq, Nat.reduceAdd, Nat.reduceLT, Nat.reduceLeDiff, Nat.reduceBNe, Nat.reduceBEq, Int.reduceToNat, trVd, fVn_eq, tupI]
          (repeat' apply And.intro) <;> (try first | omega | ((fail_if_success refine idW ?_); (fail_if_success refine idS ?_); intros; (repeat' apply And.intro) <;> first | assumption | omega | (simp_all; done)))
          refine aw_seq ?_
          refine aw_seq (aw_region (EF := EF0) hG (by rw [hN]; exact tr11_11) ?_)
          simp only [a11_11, go_sem, ↓reduceIte, Nat.reduceEqDiff, reduceCtorEq, Nat.reduceAdd, Nat.reduceLT, Nat.reduceLeDiff, Nat.reduceBNe, Nat.reduceBEq, Int.reduceToNat, trVd, fVn_eq, tupI]
          refine aw_cond (b := _) rfl (fun hb11 => ?_) (fun hb11 => ?_)
          · skip
            have hne2 : ¬ (voidM c.status).2 = 0 := by simpa using hb11
            have hve : vErr t.coupons = (voidM c.status).2 := by rw [he, hdr, if_neg hne2]
            have hm : voidT t d = (Ticket.zero, (voidM c.status).2) := by unfold voidT; rw [if_neg hne, if_neg hd, hve, if_neg hne2]
            refine aw_seq (aw_region (EF := EF0) hG (by rw [hN]; exact tr11_12) ?_)
            simp only [a11_12, go_sem, ↓reduceIte, Nat.reduceEqDiff, reduceCtorEq, Nat.reduceAdd, Nat.reduceLT, Nat.reduceLeDiff, Nat.reduceBNe, Nat.reduceBEq, Int.reduceToNat, trVd, fVn_eq, tupI]
            refine AW.le (s' := ⟨mkE [(4, .ptr 4 0), (5, .int .i64 (voidM c.status).2)], mkH [(4, .box 27 (tCells Ticket.zero))]⟩) (Le.mk _ _ ?_ ?_ rfl) (aw_ret (hQ _ _ (.inl rfl) ?_ ?_ ?_)) <;> simp only [outφ, outV, AR.res, go_sem, ↓reduceIte, Nat.reduceEqDiff, reduceCtorEq, Nat.reduceAdd, Nat.reduceLT, Nat.reduceLeDiff, Nat.reduceBNe, Nat.reduceBEq, Int.reduceToNat, tCells, Ticket.zero, Person.zero, fVd, tkV, hm]
          · skip
            have heq2 : (voidM c.status).2 = 0 := by simpa using hb11
            rw [if_pos heq2] at hdr
            refine aw_skip ?_
            try simp only [go_sem, ↓reduceIte, Nat.reduceEqDiff, reduceCtorEq, Nat.reduceAdd, Nat.reduceLT, Nat.reduceLeDiff, Nat.reduceBNe, Nat.reduceBEq, Int.reduceToNat]
            refine aw_seq (aw_region (EF := EF0) hG (by rw [hN]; exact tr11_13) ?_)
            simp only [a11_13, go_sem, ↓reduceIte, Nat.reduceEqDiff, reduceCtorEq, Nat.reduceAdd, Nat.reduceLT, Nat.reduceLeDiff, Nat.reduceBNe, Nat.reduceBEq, Int.reduceToNat, trVd, fVn_eq, tupI]
            refine aw_region (EF := EF0) hG (by rw [hN]; exact tr11_14) ?_
            simp only [a11_14, go_sem, ↓reduceIte, Nat.reduceEqDiff, reduceCtorEq, Nat.reduceAdd, Nat.reduceLT, Nat.reduceLeDiff, Nat.reduceBNe, Nat.reduceBEq, Int.reduceToNat, hl9, trVd, fVn_eq, tupI]
            (repeat' apply And.intro) <;> (try first | omega | ((fail_if_success refine idW ?_); (fail_if_success refine idS ?_); intros; (repeat' apply And.intro) <;> first | assumption | omega | (simp_all; done)))
            refine aw_region (EF := EF0) hG (by rw [hN]; exact tr11_8) ?_
            simp only [a11_8, go_sem, ↓reduceIte, Nat.reduceEqDiff, reduceCtorEq, Nat.reduceAdd, Nat.reduceLT, Nat.reduceLeDiff, Nat.reduceBNe, Nat.reduceBEq, Int.reduceToNat, inI, trVd, fVn_eq, tupI]
            (repeat' apply And.intro) <;> (try first | omega | ((fail_if_success refine idW ?_); (fail_if_success refine idS ?_); intros; (repeat' apply And.intro) <;> first | assumption | omega | (simp_all; done)))
            refine hKL0 (i + 1) _ ?_ ?_ ?_
            · (try dsimp only); exact ⟨hc7, by rw [he, hdr]⟩
            · (try dsimp only); omega
            · refine Le.mk _ _ ?_ ?_ rfl <;> simp only [go_sem, ↓reduceIte, Nat.reduceEqDiff, reduceCtorEq, Nat.reduceAdd, Nat.reduceLT, Nat.reduceLeDiff, Nat.reduceBNe, Nat.reduceBEq, Int.reduceToNat, hap _ hrow] <;> (repeat' apply And.intro) <;> (try first | rfl | exact wk_frzb rfl rfl rfl | exact wk_fn rfl | exact .nilo _ _ _ rfl rfl | exact wk_frzm rfl rfl (fun kv hk => by obtain ⟨_, _, rfl⟩ := List.mem_map.1 hk; rfl))
        · skip
          obtain rfl : i = t.coupons.length := by simp at hb7; omega
          have hv0 : vErr t.coupons = 0 := by rw [he, List.drop_length]; rfl
          have hm : voidT t d = (vTk t (t.coupons.map vUp), 0) := by unfold voidT; rw [if_neg hne, if_neg hd, if_pos hv0]
          refine aw_exit ?_
          simp only [go_sem, ↓reduceIte, Nat.reduceEqDiff, reduceCtorEq, Nat.reduceAdd, Nat.reduceLT, Nat.reduceLeDiff, Nat.reduceBNe, Nat.reduceBEq, Int.reduceToNat]
          refine aw_seq (aw_region (EF := EF0) hG (by rw [hN]; exact tr11_15) ?_)
          simp only [a11_15, go_sem, ↓reduceIte, Nat.reduceEqDiff, reduceCtorEq, Nat.reduceAdd, Nat.reduceLT, Nat.reduceLeDiff, Nat.reduceBNe, Nat.reduceBEq, Int.reduceToNat, trVd, fVn_eq, tupI]
          refine aw_seq (aw_region (EF := EF0) hG (by rw [hN]; exact tr11_16) ?_)
          simp only [a11_16, go_sem, ↓reduceIte, Nat.reduceEqDiff, reduceCtorEq, Nat.reduceAdd, Nat.reduceLT, Nat.reduceLeDiff, Nat.reduceBNe, Nat.reduceBEq, Int.reduceToNat, trVd, fVn_eq, tupI]
          refine AW.le (s' := ⟨mkE [(4, .ptr 4 0), (5, .int .i64 0)], mkH [(4, .box 27 (tCells (vTk t (t.coupons.map vUp))))]⟩) (Le.mk _ _ ?_ ?_ rfl) (aw_ret (hQ _ _ (.inl rfl) ?_ ?_ ?_)) <;> simp only [outφ, outV, AR.res, go_sem, ↓reduceIte, Nat.reduceEqDiff, reduceCtorEq, Nat.reduceAdd, Nat.reduceLT, Nat.reduceLeDiff, Nat.reduceBNe, Nat.reduceBEq, Int.reduceToNat, tCells, vTk, fVd, tkV, hm]
          · exact wk_frzO rfl (by simp) rfl ((Coupon.purs _).2 trivial) (by rw [List.take_length])
end Go.Proofs.YtffapkiilkeadaaDoor
