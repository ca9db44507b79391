/- The statements on Void and Same. -/
import Derived.Test.YtffapkiilkeadaaDoorIs18
namespace Go.Proofs.YtffapkiilkeadaaDoor
open Go Go.RowKit
set_option linter.unusedSimpArgs false
set_option linter.unusedVariables false
set_option linter.deprecated false
theorem voidM_bd (s : Int) : inI (voidM s).1 := by
  unfold voidM inI
  repeat' split
  all_goals (dsimp only; omega)
theorem vUp_ok {c : Coupon} (h : c.ok) : (vUp c).ok := ⟨h.1, h.2.1, voidM_bd _, h.2.2.2⟩
theorem voidT_ok {t : Ticket} {d : Int} (h : TkOk t) : TkOk (voidT t d).1 := by
  have hz : TkOk Ticket.zero := by
    refine ⟨?_, by simp [Ticket.zero], by simp [Ticket.zero]⟩
    simp [Ticket.zero, Person.zero, Ticket.ok, Person.ok, inI]
  unfold voidT
  split
  · exact hz
  · split
    · exact hz
    · split
      · obtain ⟨⟨h1, h2, h3, ⟨h4, h5⟩, h6⟩, h7, h8⟩ := h
        refine ⟨⟨h1, h2, h3, ⟨?_, fun z hz => ?_⟩, h6⟩, ?_, h8⟩
        · show (t.coupons.map vUp).length ≤ _
          rw [List.length_map]; exact h4
        · obtain ⟨c, hc, rfl⟩ := List.mem_map.1 hz
          exact vUp_ok (h5 c hc)
        · show (t.coupons.map vUp).length ≤ _
          rw [List.length_map]; exact h7
      · exact hz
theorem vErr_up {l : List Coupon} (h0 : l ≠ []) (h : vErr l = 0) : vErr (l.map vUp) ≠ 0 := by
  cases l with
  | nil => exact absurd rfl h0
  | cons c l =>
    rw [vErr] at h
    split at h
    · rename_i h1
      have h8 : (voidM c.status).1 = 8 := by
        unfold voidM at h1 ⊢
        split
        · rename_i h2; rw [if_pos h2] at h1; cases h1
        · rename_i h2
          rw [if_neg h2] at h1
          split
          · rename_i h3; rw [if_pos h3] at h1; cases h1
          · rename_i h3
            rw [if_neg h3] at h1
            split
            · rfl
            · rename_i h4; rw [if_neg h4] at h1; cases h1
      rw [List.map_cons, vErr]
      have h9 : (voidM (vUp c).status).2 = 27 := by
        show (voidM (voidM c.status).1).2 = 27
        rw [h8]; rfl
      rw [h9, if_neg (by decide)]; decide
    · rename_i h1; exact absurd h h1
theorem void_again {t : Ticket} {d : Int} (h : (voidT t d).2 = 0) : (voidT (voidT t d).1 d).2 ≠ 0 := by
  have key : t.coupons ≠ [] ∧ d = t.issued ∧ vErr t.coupons = 0 := by
    unfold voidT at h
    by_cases h1 : t.coupons = []
    · rw [if_pos h1] at h; cases h
    · rw [if_neg h1] at h
      by_cases h2 : d ≠ t.issued
      · rw [if_pos h2] at h; cases h
      · rw [if_neg h2] at h
        by_cases h3 : vErr t.coupons = 0
        · exact ⟨h1, by simpa using h2, h3⟩
        · rw [if_neg h3] at h; exact absurd h h3
  obtain ⟨h1, h2, h3⟩ := key
  have e : voidT t d = (vTk t (t.coupons.map vUp), 0) := by unfold voidT; rw [if_neg h1, if_neg (by simpa using h2), if_pos h3]
  rw [e]
  have h4 := vErr_up h1 h3
  unfold voidT
  rw [if_neg (by show t.coupons.map vUp ≠ []; simpa using h1), if_neg (by show ¬ d ≠ t.issued; simpa using h2), if_neg (by show ¬ vErr (t.coupons.map vUp) = 0; exact h4)]
  exact h4
theorem fVd_eq (t : Ticket) (d : Int) : gOf aVd fVd [.agg [.int .i64 t.number, .str t.locator, .str t.person.last, .str t.person.first, .str t.person.type, .list (t.coupons.map Coupon.enc) false, .int .i64 t.fare, .list (t.taxes.map Charge.enc) false, .int .i64 t.total, .int .i64 t.issued], .int .i64 d] = (TkOk t, tkV (voidT t d)) := gOf_eq aVd_inj (t, d)
theorem TkOk.ts {t : Ticket} (h : TkOk t) : TsOk t := ⟨by have := h.2.1; omega, by have := h.2.2; omega⟩
def fL2 (x : Ticket × Int) : Prop × V := (x.1.ok, .bool true)
noncomputable def tL2 : Tab
  | 6 => (gOf aUnit fTrue)
  | 10 => (gOf aVd fVd)
  | 11 => (gOf aVd fVd)
  | 12 => (gOf aTT fSam)
  | _ => gNo
theorem tL2_ok : ∀ f, PureC Tryd.prog UT f (tL2 f) := fun f => by
  unfold tL2
  split
  · exact ex_p
  · exact void_p
  · exact rvoid_p
  · exact rsame_p
  · exact PureC.no
set_option maxHeartbeats 8000000 in
theorem law2_p : PureC Tryd.prog UT 4 (gOf aVd fL2) := by
  have hG := tL2_ok
  refine PureC.ofArgs aVd_inj Tryd.func4 body4 nm4 res4 ?_
  rintro ⟨t, d⟩ hv
  refine ⟨by rw [nt4]; simp [aVd], fun C hN Q hQ => ?_⟩
  rw [nt4] at hN
  unfold c4
  have hok : t.ok := hv
  obtain ⟨r, hr⟩ : ∃ r, voidT t d = r := ⟨_, rfl⟩
  obtain ⟨v, e⟩ := r
  obtain ⟨q, hq2⟩ : ∃ q, voidT v d = q := ⟨_, rfl⟩
  obtain ⟨v2, e2⟩ := q
  refine aw_seq (aw_region (EF := EF0) hG (by rw [hN]; exact tr4_0) ?_)
  simp only [a4_0, go_sem, ↓reduceIte, Nat.reduceEqDiff, reduceCtorEq, Nat.reduceAdd, Nat.reduceLT, Nat.reduceLeDiff, Nat.reduceBNe, Nat.reduceBEq, Int.reduceToNat, aVd, Ticket.enc, tL2, fTrue_eq, fVd_eq, fSam_eq, hr, hq2, tkV, tCells]
  refine aw_seq ?_
  refine aw_seq (aw_region (EF := EF0) hG (by rw [hN]; exact tr4_1) ?_)
  simp only [a4_1, go_sem, ↓reduceIte, Nat.reduceEqDiff, reduceCtorEq, Nat.reduceAdd, Nat.reduceLT, Nat.reduceLeDiff, Nat.reduceBNe, Nat.reduceBEq, Int.reduceToNat, List.length_map, tL2, fTrue_eq, fVd_eq, fSam_eq, hr, hq2, tkV, tCells]
  (repeat' apply And.intro) <;> (try first | omega | ((fail_if_success refine idW ?_); (fail_if_success refine idS ?_); intros; (repeat' apply And.intro) <;> first | assumption | omega | (simp_all; done)))
  refine aw_cond (b := _) rfl (fun hb1 => ?_) (fun hb1 => ?_)
  · skip
    refine aw_seq (aw_region (EF := EF0) hG (by rw [hN]; exact tr4_2) ?_)
    simp only [a4_2, go_sem, ↓reduceIte, Nat.reduceEqDiff, reduceCtorEq, Nat.reduceAdd, Nat.reduceLT, Nat.reduceLeDiff, Nat.reduceBNe, Nat.reduceBEq, Int.reduceToNat, tL2, fTrue_eq, fVd_eq, fSam_eq, hr, hq2, tkV, tCells]
    (repeat' apply And.intro) <;> (try first | omega | ((fail_if_success refine idW ?_); (fail_if_success refine idS ?_); intros; (repeat' apply And.intro) <;> first | assumption | omega | (simp_all; done)))
    refine aw_ret ?_
    show Q _ _
    refine hQ _ _ (.inl rfl) ?_ ?_ ?_ <;> simp only [outφ, outV, AR.res, go_sem, ↓reduceIte, Nat.reduceEqDiff, reduceCtorEq, Nat.reduceAdd, Nat.reduceLT, Nat.reduceLeDiff, Nat.reduceBNe, Nat.reduceBEq, Int.reduceToNat, fL2]
  · skip
    have hTk : TkOk t := ⟨hok, by simp at hb1; omega, by simp at hb1; omega⟩
    have hTv : TkOk v := by have := voidT_ok (d := d) hTk; rwa [hr] at this
    have hTs : TsOk v := hTv.ts
    have hag : e = 0 → e2 ≠ 0 := fun h => by have := void_again (t := t) (d := d) (by rw [hr]; exact h); rw [hr, hq2] at this; exact this
    refine aw_skip ?_
    try simp only [go_sem, ↓reduceIte, Nat.reduceEqDiff, reduceCtorEq, Nat.reduceAdd, Nat.reduceLT, Nat.reduceLeDiff, Nat.reduceBNe, Nat.reduceBEq, Int.reduceToNat]
    refine aw_seq (aw_region (EF := EF0) hG (by rw [hN]; exact tr4_3) ?_)
    simp only [a4_3, go_sem, ↓reduceIte, Nat.reduceEqDiff, reduceCtorEq, Nat.reduceAdd, Nat.reduceLT, Nat.reduceLeDiff, Nat.reduceBNe, Nat.reduceBEq, Int.reduceToNat, hTk, tL2, fTrue_eq, fVd_eq, fSam_eq, hr, hq2, tkV, tCells]
    (repeat' apply And.intro) <;> (try first | omega | ((fail_if_success refine idW ?_); (fail_if_success refine idS ?_); intros; (repeat' apply And.intro) <;> first | assumption | omega | (simp_all; done)))
    refine AW.le (s' := ⟨mkE [(1, .int .i64 d), (2, .ptr 2 0), (5, .ptr 5 0), (6, .int .i64 e)], mkH ([(2, .box 27 (tCells t)), (5, .box 27 (tCells v))])⟩) (Le.mk _ _ (by (simp only [go_sem, ↓reduceIte, Nat.reduceEqDiff, reduceCtorEq, Nat.reduceAdd, Nat.reduceLT, Nat.reduceLeDiff, Nat.reduceBNe, Nat.reduceBEq, Int.reduceToNat, tCells]) <;> (repeat' apply And.intro) <;> (try first | exact wk_frzb rfl rfl rfl | rfl | exact wk_fn rfl | exact .nill _ | exact .nilo _ _ _ rfl rfl | exact wk_frz rfl (by simp only [ints_len, nats_len]) rfl (ints_pur _) | exact wk_frzm rfl rfl (fun kv hk => by obtain ⟨_, _, rfl⟩ := List.mem_map.1 hk; rfl))) (by (simp only [go_sem, ↓reduceIte, Nat.reduceEqDiff, reduceCtorEq, Nat.reduceAdd, Nat.reduceLT, Nat.reduceLeDiff, Nat.reduceBNe, Nat.reduceBEq, Int.reduceToNat, tCells]) <;> (repeat' apply And.intro) <;> (try first | exact wk_frzb rfl rfl rfl | rfl | exact wk_fn rfl | exact .nill _ | exact .nilo _ _ _ rfl rfl | exact wk_frz rfl (by simp only [ints_len, nats_len]) rfl (ints_pur _) | exact wk_frzm rfl rfl (fun kv hk => by obtain ⟨_, _, rfl⟩ := List.mem_map.1 hk; rfl))) rfl) ?_
    simp only [tCells]
    refine aw_seq (aw_region (EF := EF0) hG (by rw [hN]; exact tr4_4) ?_)
    simp only [a4_4, go_sem, ↓reduceIte, Nat.reduceEqDiff, reduceCtorEq, Nat.reduceAdd, Nat.reduceLT, Nat.reduceLeDiff, Nat.reduceBNe, Nat.reduceBEq, Int.reduceToNat, hTk, tL2, fTrue_eq, fVd_eq, fSam_eq, hr, hq2, tkV, tCells]
    (repeat' apply And.intro) <;> (try first | omega | ((fail_if_success refine idW ?_); (fail_if_success refine idS ?_); intros; (repeat' apply And.intro) <;> first | assumption | omega | (simp_all; done)))
    refine AW.le (s' := ⟨mkE [(1, .int .i64 d), (5, .ptr 5 0), (6, .int .i64 e), (7, .ptr 7 0), (8, .int .i64 e)], mkH ([(5, .box 27 (tCells v)), (7, .box 27 (tCells v))])⟩) (Le.mk _ _ (by (simp only [go_sem, ↓reduceIte, Nat.reduceEqDiff, reduceCtorEq, Nat.reduceAdd, Nat.reduceLT, Nat.reduceLeDiff, Nat.reduceBNe, Nat.reduceBEq, Int.reduceToNat, tCells]) <;> (repeat' apply And.intro) <;> (try first | exact wk_frzb rfl rfl rfl | rfl | exact wk_fn rfl | exact .nill _ | exact .nilo _ _ _ rfl rfl | exact wk_frz rfl (by simp only [ints_len, nats_len]) rfl (ints_pur _) | exact wk_frzm rfl rfl (fun kv hk => by obtain ⟨_, _, rfl⟩ := List.mem_map.1 hk; rfl))) (by (simp only [go_sem, ↓reduceIte, Nat.reduceEqDiff, reduceCtorEq, Nat.reduceAdd, Nat.reduceLT, Nat.reduceLeDiff, Nat.reduceBNe, Nat.reduceBEq, Int.reduceToNat, tCells]) <;> (repeat' apply And.intro) <;> (try first | exact wk_frzb rfl rfl rfl | rfl | exact wk_fn rfl | exact .nill _ | exact .nilo _ _ _ rfl rfl | exact wk_frz rfl (by simp only [ints_len, nats_len]) rfl (ints_pur _) | exact wk_frzm rfl rfl (fun kv hk => by obtain ⟨_, _, rfl⟩ := List.mem_map.1 hk; rfl))) rfl) ?_
    simp only [tCells]
    refine aw_seq ?_
    refine aw_seq (aw_region (EF := EF0) hG (by rw [hN]; exact tr4_5) ?_)
    simp only [a4_5, go_sem, ↓reduceIte, Nat.reduceEqDiff, reduceCtorEq, Nat.reduceAdd, Nat.reduceLT, Nat.reduceLeDiff, Nat.reduceBNe, Nat.reduceBEq, Int.reduceToNat, hTs, sameT_refl, decide_true, Bool.not_true, tL2, fTrue_eq, fVd_eq, fSam_eq, hr, hq2, tkV, tCells]
    (repeat' apply And.intro) <;> (try first | omega | ((fail_if_success refine idW ?_); (fail_if_success refine idS ?_); intros; (repeat' apply And.intro) <;> first | assumption | omega | (simp_all; done)))
    refine aw_condF rfl ?_
    refine aw_skip ?_
    try simp only [go_sem, ↓reduceIte, Nat.reduceEqDiff, reduceCtorEq, Nat.reduceAdd, Nat.reduceLT, Nat.reduceLeDiff, Nat.reduceBNe, Nat.reduceBEq, Int.reduceToNat]
    refine aw_seq ?_
    refine aw_seq (aw_region (EF := EF0) hG (by rw [hN]; exact tr4_7) ?_)
    simp only [a4_7, go_sem, ↓reduceIte, Nat.reduceEqDiff, reduceCtorEq, Nat.reduceAdd, Nat.reduceLT, Nat.reduceLeDiff, Nat.reduceBNe, Nat.reduceBEq, Int.reduceToNat, tL2, fTrue_eq, fVd_eq, fSam_eq, hr, hq2, tkV, tCells]
    refine aw_cond (b := _) rfl (fun hb7 => ?_) (fun hb7 => ?_)
    · skip
      have he0 : e = 0 := by simpa using hb7
      refine aw_seq (aw_region (EF := EF0) hG (by rw [hN]; exact tr4_8) ?_)
      simp only [a4_8, go_sem, ↓reduceIte, Nat.reduceEqDiff, reduceCtorEq, Nat.reduceAdd, Nat.reduceLT, Nat.reduceLeDiff, Nat.reduceBNe, Nat.reduceBEq, Int.reduceToNat, hTv, tL2, fTrue_eq, fVd_eq, fSam_eq, hr, hq2, tkV, tCells]
      (repeat' apply And.intro) <;> (try first | omega | ((fail_if_success refine idW ?_); (fail_if_success refine idS ?_); intros; (repeat' apply And.intro) <;> first | assumption | omega | (simp_all; done)))
      refine AW.le (s' := ⟨mkE [(10, .int .i64 e2)], mkH ([])⟩) (Le.mk _ _ (by (simp only [go_sem, ↓reduceIte, Nat.reduceEqDiff, reduceCtorEq, Nat.reduceAdd, Nat.reduceLT, Nat.reduceLeDiff, Nat.reduceBNe, Nat.reduceBEq, Int.reduceToNat]) <;> (repeat' apply And.intro) <;> (try first | exact wk_frzb rfl rfl rfl | rfl | exact wk_fn rfl | exact .nill _ | exact .nilo _ _ _ rfl rfl | exact wk_frz rfl (by simp only [ints_len, nats_len]) rfl (ints_pur _) | exact wk_frzm rfl rfl (fun kv hk => by obtain ⟨_, _, rfl⟩ := List.mem_map.1 hk; rfl))) (by (simp only [go_sem, ↓reduceIte, Nat.reduceEqDiff, reduceCtorEq, Nat.reduceAdd, Nat.reduceLT, Nat.reduceLeDiff, Nat.reduceBNe, Nat.reduceBEq, Int.reduceToNat]) <;> (repeat' apply And.intro) <;> (try first | exact wk_frzb rfl rfl rfl | rfl | exact wk_fn rfl | exact .nill _ | exact .nilo _ _ _ rfl rfl | exact wk_frz rfl (by simp only [ints_len, nats_len]) rfl (ints_pur _) | exact wk_frzm rfl rfl (fun kv hk => by obtain ⟨_, _, rfl⟩ := List.mem_map.1 hk; rfl))) rfl) ?_
      refine aw_seq (aw_region (EF := EF0) hG (by rw [hN]; exact tr4_9) ?_)
      simp only [a4_9, go_sem, ↓reduceIte, Nat.reduceEqDiff, reduceCtorEq, Nat.reduceAdd, Nat.reduceLT, Nat.reduceLeDiff, Nat.reduceBNe, Nat.reduceBEq, Int.reduceToNat, decide_eq_false (hag he0), Bool.not_false, tL2, fTrue_eq, fVd_eq, fSam_eq, hr, hq2, tkV, tCells]
      (repeat' apply And.intro) <;> (try first | omega | ((fail_if_success refine idW ?_); (fail_if_success refine idS ?_); intros; (repeat' apply And.intro) <;> first | assumption | omega | (simp_all; done)))
      refine aw_ret ?_
      show Q _ _
      refine hQ _ _ (.inl rfl) ?_ ?_ ?_ <;> simp only [outφ, outV, AR.res, go_sem, ↓reduceIte, Nat.reduceEqDiff, reduceCtorEq, Nat.reduceAdd, Nat.reduceLT, Nat.reduceLeDiff, Nat.reduceBNe, Nat.reduceBEq, Int.reduceToNat, fL2]
    · skip
      refine aw_skip ?_
      try simp only [go_sem, ↓reduceIte, Nat.reduceEqDiff, reduceCtorEq, Nat.reduceAdd, Nat.reduceLT, Nat.reduceLeDiff, Nat.reduceBNe, Nat.reduceBEq, Int.reduceToNat]
      refine aw_seq (aw_region (EF := EF0) hG (by rw [hN]; exact tr4_10) ?_)
      simp only [a4_10, go_sem, ↓reduceIte, Nat.reduceEqDiff, reduceCtorEq, Nat.reduceAdd, Nat.reduceLT, Nat.reduceLeDiff, Nat.reduceBNe, Nat.reduceBEq, Int.reduceToNat, tL2, fTrue_eq, fVd_eq, fSam_eq, hr, hq2, tkV, tCells]
      (repeat' apply And.intro) <;> (try first | omega | ((fail_if_success refine idW ?_); (fail_if_success refine idS ?_); intros; (repeat' apply And.intro) <;> first | assumption | omega | (simp_all; done)))
      refine aw_ret ?_
      show Q _ _
      refine hQ _ _ (.inl rfl) ?_ ?_ ?_ <;> simp only [outφ, outV, AR.res, go_sem, ↓reduceIte, Nat.reduceEqDiff, reduceCtorEq, Nat.reduceAdd, Nat.reduceLT, Nat.reduceLeDiff, Nat.reduceBNe, Nat.reduceBEq, Int.reduceToNat, fL2]
def fL3 (x : Ticket × Ticket) : Prop × V := (x.1.ok ∧ x.2.ok, .bool true)
noncomputable def tL3 : Tab
  | 6 => (gOf aUnit fTrue)
  | 13 => (gOf aTT fSam)
  | 12 => (gOf aTT fSam)
  | _ => gNo
theorem tL3_ok : ∀ f, PureC Tryd.prog UT f (tL3 f) := fun f => by
  unfold tL3
  split
  · exact ex_p
  · exact same_p
  · exact rsame_p
  · exact PureC.no
set_option maxHeartbeats 8000000 in
theorem law3_p : PureC Tryd.prog UT 5 (gOf aTT fL3) := by
  have hG := tL3_ok
  refine PureC.ofArgs aTT_inj Tryd.func5 body5 nm5 res5 ?_
  rintro ⟨s, t⟩ hv
  refine ⟨by rw [nt5]; simp [aTT], fun C hN Q hQ => ?_⟩
  rw [nt5] at hN
  unfold c5
  obtain ⟨hs, ht⟩ : s.ok ∧ t.ok := hv
  have hs2 : TsOk s := ⟨hs.2.2.2.1.1, hs.2.2.2.2.2.1.1⟩
  have ht2 : TsOk t := ⟨ht.2.2.2.1.1, ht.2.2.2.2.2.1.1⟩
  refine aw_seq (aw_region (EF := EF0) hG (by rw [hN]; exact tr5_0) ?_)
  simp only [a5_0, go_sem, ↓reduceIte, Nat.reduceEqDiff, reduceCtorEq, Nat.reduceAdd, Nat.reduceLT, Nat.reduceLeDiff, Nat.reduceBNe, Nat.reduceBEq, Int.reduceToNat, aTT, Ticket.enc, tL3, fTrue_eq, fSam_eq, tCells, hs2, ht2]
  refine aw_seq ?_
  refine AW.le (s' := ⟨mkE [(2, .ptr 2 0), (3, .ptr 3 0), (4, .bool false)], mkH ([(2, .box 27 (tCells s)), (3, .box 27 (tCells t))])⟩) (Le.mk _ _ (by (simp only [go_sem, ↓reduceIte, Nat.reduceEqDiff, reduceCtorEq, Nat.reduceAdd, Nat.reduceLT, Nat.reduceLeDiff, Nat.reduceBNe, Nat.reduceBEq, Int.reduceToNat, tCells]) <;> (repeat' apply And.intro) <;> (try first | exact wk_frzb rfl rfl rfl | rfl | exact wk_fn rfl | exact .nill _ | exact .nilo _ _ _ rfl rfl | exact wk_frz rfl (by simp only [ints_len, nats_len]) rfl (ints_pur _) | exact wk_frzm rfl rfl (fun kv hk => by obtain ⟨_, _, rfl⟩ := List.mem_map.1 hk; rfl))) (by (simp only [go_sem, ↓reduceIte, Nat.reduceEqDiff, reduceCtorEq, Nat.reduceAdd, Nat.reduceLT, Nat.reduceLeDiff, Nat.reduceBNe, Nat.reduceBEq, Int.reduceToNat, tCells]) <;> (repeat' apply And.intro) <;> (try first | exact wk_frzb rfl rfl rfl | rfl | exact wk_fn rfl | exact .nill _ | exact .nilo _ _ _ rfl rfl | exact wk_frz rfl (by simp only [ints_len, nats_len]) rfl (ints_pur _) | exact wk_frzm rfl rfl (fun kv hk => by obtain ⟨_, _, rfl⟩ := List.mem_map.1 hk; rfl))) rfl) ?_
  simp only [tCells]
  refine aw_seq (aw_region (EF := EF0) hG (by rw [hN]; exact tr5_1) ?_)
  simp only [a5_1, go_sem, ↓reduceIte, Nat.reduceEqDiff, reduceCtorEq, Nat.reduceAdd, Nat.reduceLT, Nat.reduceLeDiff, Nat.reduceBNe, Nat.reduceBEq, Int.reduceToNat, List.length_map, tL3, fTrue_eq, fSam_eq, tCells, hs2, ht2]
  (repeat' apply And.intro) <;> (try first | omega | ((fail_if_success refine idW ?_); (fail_if_success refine idS ?_); intros; (repeat' apply And.intro) <;> first | assumption | omega | (simp_all; done)))
  refine aw_cond (b := _) rfl (fun hb1 => ?_) (fun hb1 => ?_)
  · skip
    refine aw_seq (aw_region (EF := EF0) hG (by rw [hN]; exact tr5_2) ?_)
    simp only [a5_2, go_sem, ↓reduceIte, Nat.reduceEqDiff, reduceCtorEq, Nat.reduceAdd, Nat.reduceLT, Nat.reduceLeDiff, Nat.reduceBNe, Nat.reduceBEq, Int.reduceToNat, tL3, fTrue_eq, fSam_eq, tCells, hs2, ht2]
    (repeat' apply And.intro) <;> (try first | omega | ((fail_if_success refine idW ?_); (fail_if_success refine idS ?_); intros; (repeat' apply And.intro) <;> first | assumption | omega | (simp_all; done)))
    refine aw_ret ?_
    show Q _ _
    refine hQ _ _ (.inl rfl) ?_ ?_ ?_ <;> simp only [outφ, outV, AR.res, go_sem, ↓reduceIte, Nat.reduceEqDiff, reduceCtorEq, Nat.reduceAdd, Nat.reduceLT, Nat.reduceLeDiff, Nat.reduceBNe, Nat.reduceBEq, Int.reduceToNat, fL3]
  · skip
    refine aw_skip ?_
    try simp only [go_sem, ↓reduceIte, Nat.reduceEqDiff, reduceCtorEq, Nat.reduceAdd, Nat.reduceLT, Nat.reduceLeDiff, Nat.reduceBNe, Nat.reduceBEq, Int.reduceToNat]
    refine AW.le (s' := ⟨mkE [(2, .ptr 2 0), (3, .ptr 3 0), (4, .bool false)], mkH ([(2, .box 27 (tCells s)), (3, .box 27 (tCells t))])⟩) (Le.mk _ _ (by (simp only [go_sem, ↓reduceIte, Nat.reduceEqDiff, reduceCtorEq, Nat.reduceAdd, Nat.reduceLT, Nat.reduceLeDiff, Nat.reduceBNe, Nat.reduceBEq, Int.reduceToNat, tCells]) <;> (repeat' apply And.intro) <;> (try first | exact wk_frzb rfl rfl rfl | rfl | exact wk_fn rfl | exact .nill _ | exact .nilo _ _ _ rfl rfl | exact wk_frz rfl (by simp only [ints_len, nats_len]) rfl (ints_pur _) | exact wk_frzm rfl rfl (fun kv hk => by obtain ⟨_, _, rfl⟩ := List.mem_map.1 hk; rfl))) (by (simp only [go_sem, ↓reduceIte, Nat.reduceEqDiff, reduceCtorEq, Nat.reduceAdd, Nat.reduceLT, Nat.reduceLeDiff, Nat.reduceBNe, Nat.reduceBEq, Int.reduceToNat, tCells]) <;> (repeat' apply And.intro) <;> (try first | exact wk_frzb rfl rfl rfl | rfl | exact wk_fn rfl | exact .nill _ | exact .nilo _ _ _ rfl rfl | exact wk_frz rfl (by simp only [ints_len, nats_len]) rfl (ints_pur _) | exact wk_frzm rfl rfl (fun kv hk => by obtain ⟨_, _, rfl⟩ := List.mem_map.1 hk; rfl))) rfl) ?_
    simp only [tCells]
    refine aw_seq (aw_regionD (EF := EF0) hG mixed (by rw [hN]; exact tr5_3) ok5_3 ?_)
    simp only [a5_3, d5_3, go_sem, ↓reduceIte, Nat.reduceEqDiff, reduceCtorEq, Nat.reduceAdd, Nat.reduceLT, Nat.reduceLeDiff, Nat.reduceBNe, Nat.reduceBEq, Int.reduceToNat, sameT_refl, beq_self_eq_true, tL3, fTrue_eq, fSam_eq, tCells, hs2, ht2]
    (repeat' apply And.intro) <;> (try first | omega | ((fail_if_success refine idW ?_); (fail_if_success refine idS ?_); intros; (repeat' apply And.intro) <;> first | assumption | omega | (simp_all; done)))
    refine aw_ret ?_
    show Q _ _
    refine hQ _ _ (.inl rfl) ?_ ?_ ?_ <;> simp only [outφ, outV, AR.res, go_sem, ↓reduceIte, Nat.reduceEqDiff, reduceCtorEq, Nat.reduceAdd, Nat.reduceLT, Nat.reduceLeDiff, Nat.reduceBNe, Nat.reduceBEq, Int.reduceToNat, fL3]
end Go.Proofs.YtffapkiilkeadaaDoor
