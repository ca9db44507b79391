/- The laws: Checks, Adds, Uses. -/
import Derived.Test.YtnlgkeiilenojaaDoorSv6
namespace Go.Proofs.YtnlgkeiilenojaaDoor
open Go Go.RowKit
set_option linter.unusedSimpArgs false
set_option linter.unusedVariables false
set_option linter.deprecated false
theorem fMany_eq (l : List Offer) : gOf aOff fMany [.list (l.map Offer.enc) false] = (Lens l, .bool (manyB l)) := gOf_eq aOff_inj l
theorem fOffers_eq (l : List Offer) : gOf aOff fOffers [.list (l.map Offer.enc) false] = (l.length ≤ 1000000, .list (l.map Offer.enc) false) := gOf_eq aOff_inj l
theorem fCheck_eq (l : List Offer) : gOf aOff fCheck [.list (l.map Offer.enc) false] = (Small l, .list (faults (offFaults l)) false) := gOf_eq aOff_inj l
theorem fAdd_eq (l lo ps gr sg sv lm c p s u) : gOf aAll fAdd [.list (l.map Offer.enc) false, .agg [.str lo, .list (List.map Person.enc ps) false, .int .i64 gr, .list (List.map Booked.enc sg) false, .list (List.map Service.enc sv) false, .int .i64 lm], .agg [.str c, .int .i64 p, .int .i64 s], .int .i64 u] = (OkA l ⟨lo, ps, gr, sg, sv, lm⟩ ∧ sv.length ≤ 1000000, bkV (add l ⟨lo, ps, gr, sg, sv, lm⟩ ⟨c, p, s⟩ u)) := gOf_eq aAll_inj (l, ⟨lo, ps, gr, sg, sv, lm⟩, ⟨c, p, s⟩, u)
theorem fSameB_eq (lo ps gr sg sv lm) : gOf aTwoB fSameB [.agg [.str lo, .list (List.map Person.enc ps) false, .int .i64 gr, .list (List.map Booked.enc sg) false, .list (List.map Service.enc sv) false, .int .i64 lm], .agg [.str lo, .list (List.map Person.enc ps) false, .int .i64 gr, .list (List.map Booked.enc sg) false, .list (List.map Service.enc sv) false, .int .i64 lm]] = ((⟨lo, ps, gr, sg, sv, lm⟩ : Booking).ok ∧ (⟨lo, ps, gr, sg, sv, lm⟩ : Booking) = ⟨lo, ps, gr, sg, sv, lm⟩, .bool true) := gOf_eq aTwoB_inj ((⟨lo, ps, gr, sg, sv, lm⟩ : Booking), (⟨lo, ps, gr, sg, sv, lm⟩ : Booking))
theorem fUsed_eq (l a b c d e f g s) : gOf aUsed fUsed [.list (l.map Booking.enc) false, .agg [.str a, .int .i64 b, .int .i64 c, .str d, .str e, .int .i64 f, .int .i64 g], .str s] = (OkB l, .int .i64 (used l ⟨a, b, c, d, e, f, g⟩ s)) := gOf_eq aUsed_inj (l, ⟨a, b, c, d, e, f, g⟩, s)
theorem small_of {l : List Offer} (h : Lens l) (hm : manyB l = false) : Small l := by
  simp only [manyB, big, Bool.or_eq_false_iff, decide_eq_false_iff_not, List.any_eq_false, Bool.not_eq_true] at hm
  refine ⟨by omega, fun o ho => ⟨h.2 o ho, ?_, ?_⟩⟩
  · have := (hm.2 o ho).1; omega
  · have := (hm.2 o ho).2; omega
theorem offOne_len (l : List Offer) (i : Nat) (x : Offer) (hx : x.types.length ≤ 8) : (offOne l i x).length ≤ 19 := by
  have h1 := fIf_len (!codeB x.code 4 4) 5 (sOffer ++ dec i)
  have h2 := fIf_len (find (l.take i) x.code).isSome 6 (sOffer ++ dec i)
  have h3 := fIf_len (decide (x.most < 0) || decide (999 < x.most)) 2 (sOffer ++ dec i)
  have h4 := typTo_len (sOffer ++ dec i) x.types x.types.length
  rw [offOne, List.length_append, List.length_append, List.length_append]
  omega
theorem offTo_len {l : List Offer} (h : Small l) : ∀ i, (offTo l i).length ≤ 19 * i
  | 0 => Nat.le_refl _
  | i + 1 => by
    have ih := offTo_len h i
    have := offOne_len l i (l.getD i Offer.zero) (getD_mem l i Offer.zero (fun o => o.types.length ≤ 8) (by decide) fun o ho => (h.2 o ho).2.1)
    rw [offTo, List.length_append]; omega
theorem big_no {b : Booking} (h : bigB b = false) : b.persons.length ≤ 12 ∧ b.segs.length ≤ 8 ∧ b.services.length ≤ 30 ∧ b.locator.length ≤ 100 := by
  simp only [bigB, Bool.or_eq_false_iff, decide_eq_false_iff_not] at h
  omega
theorem add_ok {l : List Offer} {b : Booking} {x : Service} {u : Int} (h : OkA l b) (hx : x.ok) (hs : b.services.length ≤ 1000000) : (add l b x u).1.ok := by
  obtain ⟨-, h1, h2, h3, h4, h5, h6⟩ := h
  unfold add
  split
  · refine ⟨h1, h2, h3, h4, ⟨by dsimp only; rw [List.length_append]; simp only [List.length_cons, List.length_nil]; omega, fun z hz => ?_⟩, h6⟩
    rcases List.mem_append.1 hz with hz | hz
    · exact h5.2 z hz
    · rw [List.mem_singleton] at hz; subst hz; exact hx
  · simp [Booking.zero, Booking.ok, inI]
def fLaw1 (l : List Offer) : Prop × V := (Lens l, .bool true)
noncomputable def tL : Tab
  | 8 => (gOf aOff fMany)
  | 9 => (gOf aUnit fTrue)
  | 12 => (gOf aOff fOffers)
  | 11 => (gOf aOff fCheck)
  | 13 => (gOf aOff fCheck)
  | 10 => (gOf aSameF fSameF)
  | 14 => (gOf aBk fBig)
  | 15 => (gOf aAll fAdd)
  | 16 => (gOf aAll fAdd)
  | 17 => (gOf aTwoB fSameB)
  | 18 => (gOf aAll fAll)
  | 19 => (gOf aAll fAll)
  | 20 => (gOf aUsed fUsed)
  | 21 => (gOf aUsed fUsed)
  | _ => gNo
theorem tL_ok : ∀ f, PureC Tryd.prog UT f (tL f) := fun f => by
  unfold tL
  split
  · exact many_p
  · exact awake_p
  · exact offers_p
  · exact check_p
  · exact rcheck_p
  · exact sameF7_p
  · exact big_p
  · exact add_p
  · exact radd_p
  · exact sameB_p
  · exact allowed_p
  · exact rallowed_p
  · exact used_p
  · exact rused_p
  · exact PureC.no
set_option maxHeartbeats 2000000 in
theorem law1_p : PureC Tryd.prog UT 3 (gOf aOff fLaw1) := by
  have hG := tL_ok
  refine PureC.ofArgs aOff_inj Tryd.func3 body3 nm3 res3 ?_
  rintro l hv
  refine ⟨by rw [nt3]; simp [aOff], fun C hN Q hQ => ?_⟩
  rw [nt3] at hN
  unfold c3
  replace hv : Lens l := hv
  refine aw_seq (aw_region (EF := EF0) hG (by rw [hN]; exact tr3_0) ?_)
  simp only [a3_0, go_sem, ↓reduceIte, Nat.reduceEqDiff, reduceCtorEq, Nat.reduceAdd, Nat.reduceLT, Nat.reduceLeDiff, Nat.reduceBNe, Nat.reduceBEq, Int.reduceToNat, aOff]
  refine aw_seq ?_
  refine aw_seq (aw_region (EF := EF0) hG (by rw [hN]; exact tr3_1) ?_)
  simp only [a3_1, go_sem, ↓reduceIte, Nat.reduceEqDiff, reduceCtorEq, Nat.reduceAdd, Nat.reduceLT, Nat.reduceLeDiff, Nat.reduceBNe, Nat.reduceBEq, Int.reduceToNat, tL, fMany_eq, hv]
  (repeat' apply And.intro) <;> (try first | omega | (intros; (repeat' apply And.intro) <;> first | assumption | omega | (simp_all; done)))
  refine aw_cond (b := _) rfl (fun hb => ?_) (fun hb => ?_)
  · skip
    refine aw_seq (aw_region (EF := EF0) hG (by rw [hN]; exact tr3_2) ?_)
    simp only [a3_2, go_sem, ↓reduceIte, Nat.reduceEqDiff, reduceCtorEq, Nat.reduceAdd, Nat.reduceLT, Nat.reduceLeDiff, Nat.reduceBNe, Nat.reduceBEq, Int.reduceToNat, tL, fTrue_eq]
    (repeat' apply And.intro) <;> (try first | omega | (intros; (repeat' apply And.intro) <;> first | assumption | omega | (simp_all; done)))
    refine aw_ret ?_
    show Q _ _
    refine hQ _ _ (.inl rfl) ?_ ?_ ?_ <;> simp only [outφ, outV, AR.res, go_sem, ↓reduceIte, Nat.reduceEqDiff, reduceCtorEq, Nat.reduceAdd, Nat.reduceLT, Nat.reduceLeDiff, Nat.reduceBNe, Nat.reduceBEq, Int.reduceToNat, fLaw1]
  · skip
    have hs := small_of hv hb
    have hln := offTo_len hs l.length
    have hl15 := hs.1
    refine aw_skip ?_
    simp only [go_sem, ↓reduceIte, Nat.reduceEqDiff, reduceCtorEq, Nat.reduceAdd, Nat.reduceLT, Nat.reduceLeDiff, Nat.reduceBNe, Nat.reduceBEq, Int.reduceToNat]
    refine aw_seq (aw_region (EF := EF0) hG (by rw [hN]; exact tr3_3) ?_)
    simp only [a3_3, go_sem, ↓reduceIte, Nat.reduceEqDiff, reduceCtorEq, Nat.reduceAdd, Nat.reduceLT, Nat.reduceLeDiff, Nat.reduceBNe, Nat.reduceBEq, Int.reduceToNat, tL, fOffers_eq, fCheck_eq, fSameF_eq, fTrue_eq, hs, offFaults]
    (repeat' apply And.intro) <;> (try first | omega | (intros; (repeat' apply And.intro) <;> first | assumption | omega | (simp_all; done)))
    refine aw_ret ?_
    show Q _ _
    refine hQ _ _ (.inl rfl) ?_ ?_ ?_ <;> simp only [outφ, outV, AR.res, go_sem, ↓reduceIte, Nat.reduceEqDiff, reduceCtorEq, Nat.reduceAdd, Nat.reduceLT, Nat.reduceLeDiff, Nat.reduceBNe, Nat.reduceBEq, Int.reduceToNat, fLaw1]
def fLaw2 (x : List Offer × Booking × Service × Int) : Prop × V := (OkA x.1 x.2.1 ∧ x.2.2.1.ok, .bool true)
set_option maxHeartbeats 4000000 in
theorem law2_p : PureC Tryd.prog UT 4 (gOf aAll fLaw2) := by
  have hG := tL_ok
  refine PureC.ofArgs aAll_inj Tryd.func4 body4 nm4 res4 ?_
  rintro ⟨l, ⟨lo, ps, gr, sg, sv, lm⟩, ⟨xc, xp, xs⟩, u⟩ hv
  refine ⟨by rw [nt4]; simp [aAll], fun C hN Q hQ => ?_⟩
  rw [nt4] at hN
  unfold c4
  obtain ⟨hok, hx⟩ : OkA l ⟨lo, ps, gr, sg, sv, lm⟩ ∧ (⟨xc, xp, xs⟩ : Service).ok := hv
  have hln := hok.1
  have hbk := hok.2
  refine aw_seq (aw_region (EF := EF0) hG (by rw [hN]; exact tr4_0) ?_)
  simp only [a4_0, go_sem, ↓reduceIte, Nat.reduceEqDiff, reduceCtorEq, Nat.reduceAdd, Nat.reduceLT, Nat.reduceLeDiff, Nat.reduceBNe, Nat.reduceBEq, Int.reduceToNat, aAll, Booking.enc, Service.enc]
  refine aw_seq ?_
  refine aw_seq (aw_region (EF := EF0) hG (by rw [hN]; exact tr4_1) ?_)
  simp only [a4_1, go_sem, ↓reduceIte, Nat.reduceEqDiff, reduceCtorEq, Nat.reduceAdd, Nat.reduceLT, Nat.reduceLeDiff, Nat.reduceBNe, Nat.reduceBEq, Int.reduceToNat, tL, fMany_eq, hln, fBig_eq, hbk]
  (repeat' apply And.intro) <;> (try first | omega | (intros; (repeat' apply And.intro) <;> first | assumption | omega | (simp_all; done)))
  refine aw_cond (b := _) rfl (fun hb => ?_) (fun hb => ?_)
  · skip
    refine aw_seq (aw_region (EF := EF0) hG (by rw [hN]; exact tr4_2) ?_)
    simp only [a4_2, go_sem, ↓reduceIte, Nat.reduceEqDiff, reduceCtorEq, Nat.reduceAdd, Nat.reduceLT, Nat.reduceLeDiff, Nat.reduceBNe, Nat.reduceBEq, Int.reduceToNat, tL, fTrue_eq]
    (repeat' apply And.intro) <;> (try first | omega | (intros; (repeat' apply And.intro) <;> first | assumption | omega | (simp_all; done)))
    refine aw_ret ?_
    show Q _ _
    refine hQ _ _ (.inl rfl) ?_ ?_ ?_ <;> simp only [outφ, outV, AR.res, go_sem, ↓reduceIte, Nat.reduceEqDiff, reduceCtorEq, Nat.reduceAdd, Nat.reduceLT, Nat.reduceLeDiff, Nat.reduceBNe, Nat.reduceBEq, Int.reduceToNat, fLaw2]
  · skip
    obtain ⟨hb1, hb2⟩ := Bool.or_eq_false_iff.1 hb
    have hs := small_of hln hb1
    have hl15 := hs.1
    have hsv : sv.length ≤ 1000000 := by have := (big_no hb2).2.2.1; dsimp only at this; omega
    have hy := add_ok (u := u) hok hx hsv
    have e1 := fAdd_eq l lo ps gr sg sv lm xc xp xs u
    generalize add l ⟨lo, ps, gr, sg, sv, lm⟩ ⟨xc, xp, xs⟩ u = y at hy e1
    obtain ⟨⟨y1, y2, y3, y4, y5, y6⟩, ye⟩ := y
    simp only [bkV, Booking.enc] at e1
    dsimp only at hy
    refine aw_skip ?_
    simp only [go_sem, ↓reduceIte, Nat.reduceEqDiff, reduceCtorEq, Nat.reduceAdd, Nat.reduceLT, Nat.reduceLeDiff, Nat.reduceBNe, Nat.reduceBEq, Int.reduceToNat]
    refine aw_seq (aw_regionD (EF := EF0) hG mixed (by rw [hN]; exact tr4_3) ok4_3 ?_)
    simp only [a4_3, d4_3, go_sem, ↓reduceIte, Nat.reduceEqDiff, reduceCtorEq, Nat.reduceAdd, Nat.reduceLT, Nat.reduceLeDiff, Nat.reduceBNe, Nat.reduceBEq, Int.reduceToNat, tL, fOffers_eq, e1, hok, hsv]
    (repeat' apply And.intro) <;> (try first | omega | (intros; (repeat' apply And.intro) <;> first | assumption | omega | (simp_all; done)))
    refine aw_seq (aw_region (EF := EF0) hG (by rw [hN]; exact tr4_4) ?_)
    simp only [a4_4, go_sem, ↓reduceIte, Nat.reduceEqDiff, reduceCtorEq, Nat.reduceAdd, Nat.reduceLT, Nat.reduceLeDiff, Nat.reduceBNe, Nat.reduceBEq, Int.reduceToNat, tL, e1, hok, hsv]
    (repeat' apply And.intro) <;> (try first | omega | (intros; (repeat' apply And.intro) <;> first | assumption | omega | (simp_all; done)))
    refine aw_seq (aw_regionD (EF := EF0) hG mixed (by rw [hN]; exact tr4_5) ok4_5 ?_)
    simp only [a4_5, d4_5, go_sem, ↓reduceIte, Nat.reduceEqDiff, reduceCtorEq, Nat.reduceAdd, Nat.reduceLT, Nat.reduceLeDiff, Nat.reduceBNe, Nat.reduceBEq, Int.reduceToNat, tL, fSameB_eq, hy, fOffers_eq, fAll_eq, hok, fTrue_eq]
    (repeat' apply And.intro) <;> (try first | omega | (intros; (repeat' apply And.intro) <;> first | assumption | omega | (simp_all; done)))
    refine aw_ret ?_
    show Q _ _
    refine hQ _ _ (.inl rfl) ?_ ?_ ?_ <;> simp only [outφ, outV, AR.res, go_sem, ↓reduceIte, Nat.reduceEqDiff, reduceCtorEq, Nat.reduceAdd, Nat.reduceLT, Nat.reduceLeDiff, Nat.reduceBNe, Nat.reduceBEq, Int.reduceToNat, fLaw2]
def fLaw3 (x : List Booking × Seg × List UInt8) : Prop × V := (x.1.length ≤ 140737488355328 ∧ ∀ b ∈ x.1, b.ok, .bool true)
set_option maxHeartbeats 4000000 in
theorem law3_p : PureC Tryd.prog UT 5 (gOf aUsed fLaw3) := by
  have hG := tL_ok
  refine PureC.ofArgs aUsed_inj Tryd.func5 body5 nm5 res5 ?_
  rintro ⟨l, ⟨s1, s2, s3, s4, s5, s6, s7⟩, c⟩ hv
  refine ⟨by rw [nt5]; simp [aUsed], fun C hN Q hQ => ?_⟩
  rw [nt5] at hN
  unfold c5
  obtain ⟨hl, hb⟩ : l.length ≤ 140737488355328 ∧ ∀ b ∈ l, b.ok := hv
  refine aw_seq (aw_region (EF := EF0) hG (by rw [hN]; exact tr5_0) ?_)
  simp only [a5_0, go_sem, ↓reduceIte, Nat.reduceEqDiff, reduceCtorEq, Nat.reduceAdd, Nat.reduceLT, Nat.reduceLeDiff, Nat.reduceBNe, Nat.reduceBEq, Int.reduceToNat, aUsed, Seg.enc]
  refine aw_seq ?_
  refine aw_seq (aw_region (EF := EF0) hG (by rw [hN]; exact tr5_1) ?_)
  simp only [a5_1, go_sem, ↓reduceIte, Nat.reduceEqDiff, reduceCtorEq, Nat.reduceAdd, Nat.reduceLT, Nat.reduceLeDiff, Nat.reduceBNe, Nat.reduceBEq, Int.reduceToNat]
  refine aw_cond (b := _) rfl (fun hc1 => ?_) (fun hc1 => ?_)
  · simp only [decide_eq_true_eq, decide_eq_false_iff_not, Bool.and_eq_true, Bool.or_eq_true, Bool.not_eq_true', Bool.not_eq_false', Bool.and_eq_false_iff, Bool.or_eq_false_iff, Int.ofNat_lt, Int.ofNat_le, Nat.not_lt, Nat.not_le, Int.not_lt, Int.not_le] at hc1
    refine aw_seq (aw_region (EF := EF0) hG (by rw [hN]; exact tr5_2) ?_)
    simp only [a5_2, go_sem, ↓reduceIte, Nat.reduceEqDiff, reduceCtorEq, Nat.reduceAdd, Nat.reduceLT, Nat.reduceLeDiff, Nat.reduceBNe, Nat.reduceBEq, Int.reduceToNat, tL, fTrue_eq]
    (repeat' apply And.intro) <;> (try first | omega | (intros; (repeat' apply And.intro) <;> first | assumption | omega | (simp_all; done)))
    refine aw_ret ?_
    show Q _ _
    refine hQ _ _ (.inl rfl) ?_ ?_ ?_ <;> simp only [outφ, outV, AR.res, go_sem, ↓reduceIte, Nat.reduceEqDiff, reduceCtorEq, Nat.reduceAdd, Nat.reduceLT, Nat.reduceLeDiff, Nat.reduceBNe, Nat.reduceBEq, Int.reduceToNat, fLaw3]
  · simp only [decide_eq_true_eq, decide_eq_false_iff_not, Bool.and_eq_true, Bool.or_eq_true, Bool.not_eq_true', Bool.not_eq_false', Bool.and_eq_false_iff, Bool.or_eq_false_iff, Int.ofNat_lt, Int.ofNat_le, Nat.not_lt, Nat.not_le, Int.not_lt, Int.not_le] at hc1
    refine aw_skip ?_
    simp only [go_sem, ↓reduceIte, Nat.reduceEqDiff, reduceCtorEq, Nat.reduceAdd, Nat.reduceLT, Nat.reduceLeDiff, Nat.reduceBNe, Nat.reduceBEq, Int.reduceToNat]
    refine aw_seq ?_
    refine aw_seq (aw_region (EF := EF0) hG (by rw [hN]; exact tr5_3) ?_)
    simp only [a5_3, go_sem, ↓reduceIte, Nat.reduceEqDiff, reduceCtorEq, Nat.reduceAdd, Nat.reduceLT, Nat.reduceLeDiff, Nat.reduceBNe, Nat.reduceBEq, Int.reduceToNat]
    refine aw_block ?_
    refine aw_loop (α := Nat) (fun i => (i ≤ l.length) ∧ (∀ b ∈ l.take i, bigB b = false)) (fun i => ⟨mkE [(0, V.list (List.map Booking.enc l) false), (2, V.str c), (4, V.ptr 4 0), (7, .int .i64 i)], mkH [(4, Ob.box 49 [V.str s1, V.int IntKind.i64 s2, V.int IntKind.i64 s3, V.str s4, V.str s5, V.int IntKind.i64 s6, V.int IntKind.i64 s7])]⟩) (fun i => l.length - i) 0 (by simp) ?_ ?_
    · refine Le.mk _ _ ?_ ?_ rfl <;> simp only [go_sem, ↓reduceIte, Nat.reduceEqDiff, reduceCtorEq, Nat.reduceAdd, Nat.reduceLT, Nat.reduceLeDiff, Nat.reduceBNe, Nat.reduceBEq, Int.reduceToNat] <;> (repeat' apply And.intro) <;> (try first | rfl | exact wk_frzb rfl rfl rfl | exact wk_fn rfl | exact .nilo _ _ _ rfl rfl)
    · rintro i ⟨hi, hp⟩ KL0 hKL0
      try dsimp only at *
      refine aw_seq ?_
      refine aw_seq (aw_region (EF := EF0) hG (by rw [hN]; exact tr5_4) ?_)
      simp only [a5_4, go_sem, ↓reduceIte, Nat.reduceEqDiff, reduceCtorEq, Nat.reduceAdd, Nat.reduceLT, Nat.reduceLeDiff, Nat.reduceBNe, Nat.reduceBEq, Int.reduceToNat]
      refine aw_cond (b := _) rfl (fun hc4 => ?_) (fun hc4 => ?_)
      · simp only [decide_eq_true_eq, decide_eq_false_iff_not, Bool.and_eq_true, Bool.or_eq_true, Bool.not_eq_true', Bool.not_eq_false', Bool.and_eq_false_iff, Bool.or_eq_false_iff, Int.ofNat_lt, Int.ofNat_le, Nat.not_lt, Nat.not_le, Int.not_lt, Int.not_le] at hc4
        refine aw_skip ?_
        simp only [go_sem, ↓reduceIte, Nat.reduceEqDiff, reduceCtorEq, Nat.reduceAdd, Nat.reduceLT, Nat.reduceLeDiff, Nat.reduceBNe, Nat.reduceBEq, Int.reduceToNat]
        refine aw_seq ?_
        refine aw_block ?_
        have hbi := hb _ (List.getElem_mem hc4)
        generalize hyy : l[i] = y at hbi
        obtain ⟨lo, ps, gr, sg, sv, lm⟩ := y
        refine aw_seq (aw_region (EF := EF0) hG (by rw [hN]; exact tr5_6) ?_)
        simp only [a5_6, go_sem, ↓reduceIte, Nat.reduceEqDiff, reduceCtorEq, Nat.reduceAdd, Nat.reduceLT, Nat.reduceLeDiff, Nat.reduceBNe, Nat.reduceBEq, Int.reduceToNat, getD_mapd _ _ _ _ hc4, hc4, hyy, Booking.enc, tL, fBig_eq, hbi]
        (repeat' apply And.intro) <;> (try first | omega | (intros; (repeat' apply And.intro) <;> first | assumption | omega | (simp_all; done)))
        refine aw_cond (b := _) rfl (fun hb6 => ?_) (fun hb6 => ?_)
        · skip
          refine aw_seq (aw_region (EF := EF0) hG (by rw [hN]; exact tr5_7) ?_)
          simp only [a5_7, go_sem, ↓reduceIte, Nat.reduceEqDiff, reduceCtorEq, Nat.reduceAdd, Nat.reduceLT, Nat.reduceLeDiff, Nat.reduceBNe, Nat.reduceBEq, Int.reduceToNat, tL, fTrue_eq]
          (repeat' apply And.intro) <;> (try first | omega | (intros; (repeat' apply And.intro) <;> first | assumption | omega | (simp_all; done)))
          refine aw_ret ?_
          show Q _ _
          refine hQ _ _ (.inl rfl) ?_ ?_ ?_ <;> simp only [outφ, outV, AR.res, go_sem, ↓reduceIte, Nat.reduceEqDiff, reduceCtorEq, Nat.reduceAdd, Nat.reduceLT, Nat.reduceLeDiff, Nat.reduceBNe, Nat.reduceBEq, Int.reduceToNat, fLaw3]
        · skip
          refine aw_skip ?_
          simp only [go_sem, ↓reduceIte, Nat.reduceEqDiff, reduceCtorEq, Nat.reduceAdd, Nat.reduceLT, Nat.reduceLeDiff, Nat.reduceBNe, Nat.reduceBEq, Int.reduceToNat]
          refine aw_region (EF := EF0) hG (by rw [hN]; exact tr5_5) ?_
          simp only [a5_5, go_sem, ↓reduceIte, Nat.reduceEqDiff, reduceCtorEq, Nat.reduceAdd, Nat.reduceLT, Nat.reduceLeDiff, Nat.reduceBNe, Nat.reduceBEq, Int.reduceToNat, inI]
          (repeat' apply And.intro) <;> (try first | omega | (intros; (repeat' apply And.intro) <;> first | assumption | omega | (simp_all; done)))
          refine hKL0 (i + 1) _ ?_ ?_ ?_
          · (try dsimp only); exact ⟨hc4, take_all hc4 hp (by rw [hyy]; exact hb6)⟩
          · (try dsimp only); omega
          · refine Le.mk _ _ ?_ ?_ rfl <;> simp only [go_sem, ↓reduceIte, Nat.reduceEqDiff, reduceCtorEq, Nat.reduceAdd, Nat.reduceLT, Nat.reduceLeDiff, Nat.reduceBNe, Nat.reduceBEq, Int.reduceToNat] <;> (repeat' apply And.intro) <;> (try first | rfl | exact wk_frzb rfl rfl rfl | exact wk_fn rfl | exact .nilo _ _ _ rfl rfl)
      · simp only [decide_eq_true_eq, decide_eq_false_iff_not, Bool.and_eq_true, Bool.or_eq_true, Bool.not_eq_true', Bool.not_eq_false', Bool.and_eq_false_iff, Bool.or_eq_false_iff, Int.ofNat_lt, Int.ofNat_le, Nat.not_lt, Nat.not_le, Int.not_lt, Int.not_le] at hc4
        refine aw_exit ?_
        simp only [go_sem, ↓reduceIte, Nat.reduceEqDiff, reduceCtorEq, Nat.reduceAdd, Nat.reduceLT, Nat.reduceLeDiff, Nat.reduceBNe, Nat.reduceBEq, Int.reduceToNat]
        have hB : OkB l := ⟨by omega, fun b hm => ⟨hb b hm, by have := (big_no (none_at hc4 hp b hm)).2.2.1; omega⟩⟩
        refine aw_seq (aw_regionD (EF := EF0) hG mixed (by rw [hN]; exact tr5_8) ok5_8 ?_)
        simp only [a5_8, d5_8, go_sem, ↓reduceIte, Nat.reduceEqDiff, reduceCtorEq, Nat.reduceAdd, Nat.reduceLT, Nat.reduceLeDiff, Nat.reduceBNe, Nat.reduceBEq, Int.reduceToNat, tL, fUsed_eq, hB, fTrue_eq]
        (repeat' apply And.intro) <;> (try first | omega | (intros; (repeat' apply And.intro) <;> first | assumption | omega | (simp_all; done)))
        refine aw_ret ?_
        show Q _ _
        refine hQ _ _ (.inl rfl) ?_ ?_ ?_ <;> simp only [outφ, outV, AR.res, go_sem, ↓reduceIte, Nat.reduceEqDiff, reduceCtorEq, Nat.reduceAdd, Nat.reduceLT, Nat.reduceLeDiff, Nat.reduceBNe, Nat.reduceBEq, Int.reduceToNat, fLaw3]
end Go.Proofs.YtnlgkeiilenojaaDoor
