/- Add, Used, Same, Big. -/
import Derived.Test.YtnlgkeiilenojaaDoorSv4
namespace Go.Proofs.YtnlgkeiilenojaaDoor
open Go Go.RowKit
set_option linter.unusedSimpArgs false
set_option linter.unusedVariables false
set_option linter.deprecated false
def add (l : List Offer) (b : Booking) (x : Service) (used : Int) : Booking × Int := if allowed l b x used = 0 then (⟨b.locator, b.persons, b.group, b.segs, b.services ++ [x], b.limit⟩, 0) else (Booking.zero, allowed l b x used)
def bkV (y : Booking × Int) : V := .tup [.agg y.1.enc, .int .i64 y.2]
def fAdd (x : List Offer × Booking × Service × Int) : Prop × V := (OkA x.1 x.2.1 ∧ x.2.1.services.length ≤ 1000000, bkV (add x.1 x.2.1 x.2.2.1 x.2.2.2))
theorem fAll_eq (l lo ps gr sg sv lm c p s u) : gOf aAll fAll [.list (l.map Offer.enc) false, .agg [.str lo, .list (List.map Person.enc ps) false, .int .i64 gr, .list (List.map Booked.enc sg) false, .list (List.map Service.enc sv) false, .int .i64 lm], .agg [.str c, .int .i64 p, .int .i64 s], .int .i64 u] = (OkA l ⟨lo, ps, gr, sg, sv, lm⟩, .int .i64 (allowed l ⟨lo, ps, gr, sg, sv, lm⟩ ⟨c, p, s⟩ u)) := gOf_eq aAll_inj (l, ⟨lo, ps, gr, sg, sv, lm⟩, ⟨c, p, s⟩, u)
theorem sv_snoc (sv : List Service) (c p s) : sv.map Service.enc ++ [[.str c, .int .i64 p, .int .i64 s]] = (sv ++ [(⟨c, p, s⟩ : Service)]).map Service.enc := by rw [List.map_append]; rfl
noncomputable def tAdd : Tab
  | 18 => (gOf aAll fAll)
  | 32 => gClip
  | _ => gNo
theorem tAdd_ok : ∀ f, PureC Tryd.prog UT f (tAdd f) := fun f => by
  unfold tAdd
  split
  · exact allowed_p
  · exact clip_p
  · exact PureC.no
set_option maxHeartbeats 2000000 in
theorem add_p : PureC Tryd.prog UT 15 (gOf aAll fAdd) := by
  have hG := tAdd_ok
  refine PureC.ofArgs aAll_inj Tryd.func15 body15 nm15 res15 ?_
  rintro ⟨l, ⟨lo, ps, gr, sg, sv, lm⟩, ⟨xc, xp, xs⟩, used⟩ hv
  refine ⟨by rw [nt15]; simp [aAll], fun C hN Q hQ => ?_⟩
  rw [nt15] at hN
  unfold c15
  obtain ⟨hok, hsv⟩ : OkA l ⟨lo, ps, gr, sg, sv, lm⟩ ∧ sv.length ≤ 1000000 := hv
  refine aw_seq (aw_region (EF := EF0) hG (by rw [hN]; exact tr15_0) ?_)
  simp only [a15_0, go_sem, ↓reduceIte, Nat.reduceEqDiff, reduceCtorEq, Nat.reduceAdd, Nat.reduceLT, Nat.reduceLeDiff, Nat.reduceBNe, Nat.reduceBEq, Int.reduceToNat, aAll, Booking.enc, Service.enc]
  refine aw_seq ?_
  refine aw_seq (aw_region (EF := EF0) hG (by rw [hN]; exact tr15_1) ?_)
  simp only [a15_1, go_sem, ↓reduceIte, Nat.reduceEqDiff, reduceCtorEq, Nat.reduceAdd, Nat.reduceLT, Nat.reduceLeDiff, Nat.reduceBNe, Nat.reduceBEq, Int.reduceToNat, tAdd, fAll_eq, hok]
  (repeat' apply And.intro) <;> (try first | omega | (intros; (repeat' apply And.intro) <;> first | assumption | omega | (simp_all; done)))
  refine aw_seq (aw_region (EF := EF0) hG (by rw [hN]; exact tr15_2) ?_)
  simp only [a15_2, go_sem, ↓reduceIte, Nat.reduceEqDiff, reduceCtorEq, Nat.reduceAdd, Nat.reduceLT, Nat.reduceLeDiff, Nat.reduceBNe, Nat.reduceBEq, Int.reduceToNat]
  refine aw_cond (b := _) rfl (fun hc2 => ?_) (fun hc2 => ?_)
  · simp only [decide_eq_true_eq, decide_eq_false_iff_not, Bool.and_eq_true, Bool.or_eq_true, Bool.not_eq_true', Bool.not_eq_false', Bool.and_eq_false_iff, Bool.or_eq_false_iff, Int.ofNat_lt, Int.ofNat_le, Nat.not_lt, Nat.not_le, Int.not_lt, Int.not_le] at hc2
    refine aw_seq (aw_region (EF := EF0) hG (by rw [hN]; exact tr15_3) ?_)
    simp only [a15_3, go_sem, ↓reduceIte, Nat.reduceEqDiff, reduceCtorEq, Nat.reduceAdd, Nat.reduceLT, Nat.reduceLeDiff, Nat.reduceBNe, Nat.reduceBEq, Int.reduceToNat]
    refine AW.le (s' := ⟨mkE [(8, .ptr 8 0), (9, .int .i64 (allowed l (⟨lo, ps, gr, sg, sv, lm⟩ : Booking) (⟨xc, xp, xs⟩ : Service) used))], mkH [(8, .box 35 Booking.zero.enc)]⟩) (Le.mk _ _ ?_ ?_ rfl) (aw_ret (hQ _ _ (.inl rfl) ?_ ?_ ?_)) <;> simp only [outφ, outV, AR.res, go_sem, ↓reduceIte, Nat.reduceEqDiff, reduceCtorEq, Nat.reduceAdd, Nat.reduceLT, Nat.reduceLeDiff, Nat.reduceBNe, Nat.reduceBEq, Int.reduceToNat, Booking.enc, Booking.zero, fAdd, bkV, add, hc2]
  · simp only [decide_eq_true_eq, decide_eq_false_iff_not, Bool.and_eq_true, Bool.or_eq_true, Bool.not_eq_true', Bool.not_eq_false', Bool.and_eq_false_iff, Bool.or_eq_false_iff, Int.ofNat_lt, Int.ofNat_le, Nat.not_lt, Nat.not_le, Int.not_lt, Int.not_le] at hc2
    refine aw_skip ?_
    simp only [go_sem, ↓reduceIte, Nat.reduceEqDiff, reduceCtorEq, Nat.reduceAdd, Nat.reduceLT, Nat.reduceLeDiff, Nat.reduceBNe, Nat.reduceBEq, Int.reduceToNat]
    refine aw_seq (aw_regionD (EF := EF0) hG mixed (by rw [hN]; exact tr15_4) ok15_4 ?_)
    simp only [a15_4, d15_4, go_sem, ↓reduceIte, Nat.reduceEqDiff, reduceCtorEq, Nat.reduceAdd, Nat.reduceLT, Nat.reduceLeDiff, Nat.reduceBNe, Nat.reduceBEq, Int.reduceToNat, tAdd, gClip, List.length_map]
    (repeat' apply And.intro) <;> (try first | omega | (intros; (repeat' apply And.intro) <;> first | assumption | omega | (simp_all; done)))
    refine aw_seq (aw_region (EF := EF0) hG (by rw [hN]; exact tr15_5) ?_)
    simp only [a15_5, go_sem, ↓reduceIte, Nat.reduceEqDiff, reduceCtorEq, Nat.reduceAdd, Nat.reduceLT, Nat.reduceLeDiff, Nat.reduceBNe, Nat.reduceBEq, Int.reduceToNat]
    refine AW.le (s' := ⟨mkE [(8, .ptr 8 0), (9, .int .i64 0)], mkH [(8, .box 35 (⟨lo, ps, gr, sg, sv ++ [(⟨xc, xp, xs⟩ : Service)], lm⟩ : Booking).enc)]⟩) (Le.mk _ _ ?_ ?_ rfl) (aw_ret (hQ _ _ (.inl rfl) ?_ ?_ ?_)) <;> simp only [outφ, outV, AR.res, go_sem, ↓reduceIte, Nat.reduceEqDiff, reduceCtorEq, Nat.reduceAdd, Nat.reduceLT, Nat.reduceLeDiff, Nat.reduceBNe, Nat.reduceBEq, Int.reduceToNat, Booking.enc, fAdd, bkV, add, hc2, sv_snoc]
    · exact wk_frz rfl (by rw [List.length_map, List.length_append]; rfl) rfl ((Service.purs _).2 trivial)
noncomputable def trAdd : Tab
  | 19 => (gOf aAll fAll)
  | _ => gNo
theorem trAdd_ok : ∀ f, PureC Tryd.prog UT f (trAdd f) := fun f => by
  unfold trAdd
  split
  · exact rallowed_p
  · exact PureC.no
set_option maxHeartbeats 2000000 in
theorem radd_p : PureC Tryd.prog UT 16 (gOf aAll fAdd) := by
  have hG := trAdd_ok
  refine PureC.ofArgs aAll_inj Tryd.func16 body16 nm16 res16 ?_
  rintro ⟨l, ⟨lo, ps, gr, sg, sv, lm⟩, ⟨xc, xp, xs⟩, used⟩ hv
  refine ⟨by rw [nt16]; simp [aAll], fun C hN Q hQ => ?_⟩
  rw [nt16] at hN
  unfold c16
  obtain ⟨hok, hsv⟩ : OkA l ⟨lo, ps, gr, sg, sv, lm⟩ ∧ sv.length ≤ 1000000 := hv
  refine aw_seq (aw_region (EF := EF0) hG (by rw [hN]; exact tr16_0) ?_)
  simp only [a16_0, go_sem, ↓reduceIte, Nat.reduceEqDiff, reduceCtorEq, Nat.reduceAdd, Nat.reduceLT, Nat.reduceLeDiff, Nat.reduceBNe, Nat.reduceBEq, Int.reduceToNat, aAll, Booking.enc, Service.enc]
  refine aw_seq (aw_region (EF := EF0) hG (by rw [hN]; exact tr16_1) ?_)
  simp only [a16_1, go_sem, ↓reduceIte, Nat.reduceEqDiff, reduceCtorEq, Nat.reduceAdd, Nat.reduceLT, Nat.reduceLeDiff, Nat.reduceBNe, Nat.reduceBEq, Int.reduceToNat, trAdd, fAll_eq, hok]
  (repeat' apply And.intro) <;> (try first | omega | (intros; (repeat' apply And.intro) <;> first | assumption | omega | (simp_all; done)))
  refine aw_seq ?_
  refine aw_seq (aw_region (EF := EF0) hG (by rw [hN]; exact tr16_2) ?_)
  simp only [a16_2, go_sem, ↓reduceIte, Nat.reduceEqDiff, reduceCtorEq, Nat.reduceAdd, Nat.reduceLT, Nat.reduceLeDiff, Nat.reduceBNe, Nat.reduceBEq, Int.reduceToNat]
  refine aw_cond (b := _) rfl (fun hc2 => ?_) (fun hc2 => ?_)
  · simp only [decide_eq_true_eq, decide_eq_false_iff_not, Bool.and_eq_true, Bool.or_eq_true, Bool.not_eq_true', Bool.not_eq_false', Bool.and_eq_false_iff, Bool.or_eq_false_iff, Int.ofNat_lt, Int.ofNat_le, Nat.not_lt, Nat.not_le, Int.not_lt, Int.not_le] at hc2
    refine aw_seq (aw_region (EF := EF0) hG (by rw [hN]; exact tr16_3) ?_)
    simp only [a16_3, go_sem, ↓reduceIte, Nat.reduceEqDiff, reduceCtorEq, Nat.reduceAdd, Nat.reduceLT, Nat.reduceLeDiff, Nat.reduceBNe, Nat.reduceBEq, Int.reduceToNat]
    refine AW.le (s' := ⟨mkE [(8, .ptr 8 0), (9, .int .i64 (allowed l (⟨lo, ps, gr, sg, sv, lm⟩ : Booking) (⟨xc, xp, xs⟩ : Service) used))], mkH [(8, .box 35 Booking.zero.enc)]⟩) (Le.mk _ _ ?_ ?_ rfl) (aw_ret (hQ _ _ (.inl rfl) ?_ ?_ ?_)) <;> simp only [outφ, outV, AR.res, go_sem, ↓reduceIte, Nat.reduceEqDiff, reduceCtorEq, Nat.reduceAdd, Nat.reduceLT, Nat.reduceLeDiff, Nat.reduceBNe, Nat.reduceBEq, Int.reduceToNat, Booking.enc, Booking.zero, fAdd, bkV, add, hc2]
  · simp only [decide_eq_true_eq, decide_eq_false_iff_not, Bool.and_eq_true, Bool.or_eq_true, Bool.not_eq_true', Bool.not_eq_false', Bool.and_eq_false_iff, Bool.or_eq_false_iff, Int.ofNat_lt, Int.ofNat_le, Nat.not_lt, Nat.not_le, Int.not_lt, Int.not_le] at hc2
    refine aw_skip ?_
    simp only [go_sem, ↓reduceIte, Nat.reduceEqDiff, reduceCtorEq, Nat.reduceAdd, Nat.reduceLT, Nat.reduceLeDiff, Nat.reduceBNe, Nat.reduceBEq, Int.reduceToNat]
    refine aw_seq (aw_region (EF := EF0) hG (by rw [hN]; exact tr16_4) ?_)
    simp only [a16_4, go_sem, ↓reduceIte, Nat.reduceEqDiff, reduceCtorEq, Nat.reduceAdd, Nat.reduceLT, Nat.reduceLeDiff, Nat.reduceBNe, Nat.reduceBEq, Int.reduceToNat]
    refine aw_seq (aw_regionD (EF := EF0) hG mixed (by rw [hN]; exact tr16_5) ok16_5 ?_)
    simp only [a16_5, d16_5, go_sem, ↓reduceIte, Nat.reduceEqDiff, reduceCtorEq, Nat.reduceAdd, Nat.reduceLT, Nat.reduceLeDiff, Nat.reduceBNe, Nat.reduceBEq, Int.reduceToNat, List.length_map]
    (repeat' apply And.intro) <;> (try first | omega | (intros; (repeat' apply And.intro) <;> first | assumption | omega | (simp_all; done)))
    refine aw_seq (aw_region (EF := EF0) hG (by rw [hN]; exact tr16_6) ?_)
    simp only [a16_6, go_sem, ↓reduceIte, Nat.reduceEqDiff, reduceCtorEq, Nat.reduceAdd, Nat.reduceLT, Nat.reduceLeDiff, Nat.reduceBNe, Nat.reduceBEq, Int.reduceToNat]
    refine AW.le (s' := ⟨mkE [(8, .ptr 8 0), (9, .int .i64 0)], mkH [(8, .box 35 (⟨lo, ps, gr, sg, sv ++ [(⟨xc, xp, xs⟩ : Service)], lm⟩ : Booking).enc)]⟩) (Le.mk _ _ ?_ ?_ rfl) (aw_ret (hQ _ _ (.inl rfl) ?_ ?_ ?_)) <;> simp only [outφ, outV, AR.res, go_sem, ↓reduceIte, Nat.reduceEqDiff, reduceCtorEq, Nat.reduceAdd, Nat.reduceLT, Nat.reduceLeDiff, Nat.reduceBNe, Nat.reduceBEq, Int.reduceToNat, Booking.enc, fAdd, bkV, add, hc2, sv_snoc]
    · exact wk_frz rfl (by rw [List.length_map, List.length_append]; rfl) rfl ((Service.purs _).2 trivial)
/-! Used. -/
def segEq (a b : Seg) : Bool := decide (a.carrier = b.carrier) && (decide (a.number = b.number) && (decide (a.day = b.day) && (decide (a.from' = b.from') && (decide (a.to' = b.to') && (decide (a.dep = b.dep) && decide (a.arr = b.arr))))))
def uses (sg : List Booked) (s : Seg) (c : List UInt8) (x : Service) : Bool :=
  decide (x.code = c) && decide (0 ≤ x.seg) && decide (x.seg < (sg.length : Int)) && segEq (sg.getD x.seg.toNat Booked.zero).want.seg s && seat (sg.getD x.seg.toNat Booked.zero).status
def used1 (s : Seg) (c : List UInt8) (b : Booking) : Nat := (b.services.filter (uses b.segs s c)).length
def used (l : List Booking) (s : Seg) (c : List UInt8) : Nat := (l.map (used1 s c)).sum
def OkB (l : List Booking) : Prop := l.length ≤ 1000 ∧ ∀ b ∈ l, b.ok ∧ b.services.length ≤ 1000
def aUsed (x : List Booking × Seg × List UInt8) : List V := [.list (x.1.map Booking.enc) false, .agg x.2.1.enc, .str x.2.2]
theorem aUsed_inj (a b : List Booking × Seg × List UInt8) (h : aUsed a = aUsed b) : a = b := by
  obtain ⟨a_l, a_s, a_c⟩ := a
  obtain ⟨b_l, b_s, b_c⟩ := b
  simp only [aUsed, List.cons.injEq, V.str.injEq, V.int.injEq, V.bool.injEq, V.agg.injEq, V.list.injEq, and_true, true_and] at h
  obtain ⟨h0, h1, h2⟩ := h
  replace h0 := map_inj' Booking.inj h0
  subst h0
  replace h1 := Seg.inj _ _ h1
  subst h1
  subst h2
  rfl
def fUsed (x : List Booking × Seg × List UInt8) : Prop × V := (OkB x.1, .int .i64 (used x.1 x.2.1 x.2.2))
noncomputable def tUsed : Tab
  | 33 => (gOf aInt fSeat)
  | _ => gNo
theorem tUsed_ok : ∀ f, PureC Tryd.prog UT f (tUsed f) := fun f => by
  unfold tUsed
  split
  · exact seat_p
  · exact PureC.no
set_option maxHeartbeats 2000000 in
theorem used_p : PureC Tryd.prog UT 20 (gOf aUsed fUsed) := by
  have hG := tUsed_ok
  refine PureC.ofArgs aUsed_inj Tryd.func20 body20 nm20 res20 ?_
  rintro ⟨l, ⟨s1, s2, s3, s4, s5, s6, s7⟩, c⟩ hv
  refine ⟨by rw [nt20]; simp [aUsed], fun C hN Q hQ => ?_⟩
  rw [nt20] at hN
  unfold c20
  obtain ⟨hl, hb⟩ : OkB l := hv
  refine aw_seq (aw_region (EF := EF0) hG (by rw [hN]; exact tr20_0) ?_)
  simp only [a20_0, go_sem, ↓reduceIte, Nat.reduceEqDiff, reduceCtorEq, Nat.reduceAdd, Nat.reduceLT, Nat.reduceLeDiff, Nat.reduceBNe, Nat.reduceBEq, Int.reduceToNat, aUsed, Seg.enc]
  refine aw_seq (aw_region (EF := EF0) hG (by rw [hN]; exact tr20_1) ?_)
  simp only [a20_1, go_sem, ↓reduceIte, Nat.reduceEqDiff, reduceCtorEq, Nat.reduceAdd, Nat.reduceLT, Nat.reduceLeDiff, Nat.reduceBNe, Nat.reduceBEq, Int.reduceToNat]
  refine aw_seq ?_
  refine aw_seq (aw_region (EF := EF0) hG (by rw [hN]; exact tr20_2) ?_)
  simp only [a20_2, go_sem, ↓reduceIte, Nat.reduceEqDiff, reduceCtorEq, Nat.reduceAdd, Nat.reduceLT, Nat.reduceLeDiff, Nat.reduceBNe, Nat.reduceBEq, Int.reduceToNat]
  refine aw_block ?_
  refine aw_loop (α := Nat × Nat) (fun γ => (γ.1 ≤ l.length) ∧ (γ.2 = used (l.take γ.1) ⟨s1, s2, s3, s4, s5, s6, s7⟩ c) ∧ (γ.2 ≤ 1000 * γ.1)) (fun γ => ⟨mkE [(2, V.str c), (4, V.ptr 4 0), (7, .int .i64 γ.2), (12, V.list (List.map Booking.enc l) false), (13, V.int IntKind.i64 ↑l.length), (14, .int .i64 γ.1)], mkH [(4, Ob.box 49 [V.str s1, V.int IntKind.i64 s2, V.int IntKind.i64 s3, V.str s4, V.str s5, V.int IntKind.i64 s6, V.int IntKind.i64 s7])]⟩) (fun γ => l.length - γ.1) (0, 0) ⟨Nat.zero_le _, rfl, Nat.zero_le _⟩ ?_ ?_
  · refine Le.mk _ _ ?_ ?_ rfl <;> simp only [go_sem, ↓reduceIte, Nat.reduceEqDiff, reduceCtorEq, Nat.reduceAdd, Nat.reduceLT, Nat.reduceLeDiff, Nat.reduceBNe, Nat.reduceBEq, Int.reduceToNat] <;> (repeat' apply And.intro) <;> (try first | rfl | exact wk_frzb rfl rfl rfl | exact wk_fn rfl | exact .nilo _ _ _ rfl rfl)
  · rintro ⟨i, n⟩ ⟨hi, hn, hnl⟩ KL0 hKL0
    try dsimp only at *
    refine aw_seq (aw_region (EF := EF0) hG (by rw [hN]; exact tr20_3) ?_)
    simp only [a20_3, go_sem, ↓reduceIte, Nat.reduceEqDiff, reduceCtorEq, Nat.reduceAdd, Nat.reduceLT, Nat.reduceLeDiff, Nat.reduceBNe, Nat.reduceBEq, Int.reduceToNat]
    refine aw_seq ?_
    refine aw_cond (b := _) rfl (fun hc3 => ?_) (fun hc3 => ?_)
    · simp only [decide_eq_true_eq, decide_eq_false_iff_not, Bool.and_eq_true, Bool.or_eq_true, Bool.not_eq_true', Bool.not_eq_false', Bool.and_eq_false_iff, Bool.or_eq_false_iff, Int.ofNat_lt, Int.ofNat_le, Nat.not_lt, Nat.not_le, Int.not_lt, Int.not_le] at hc3
      refine aw_skip ?_
      simp only [go_sem, ↓reduceIte, Nat.reduceEqDiff, reduceCtorEq, Nat.reduceAdd, Nat.reduceLT, Nat.reduceLeDiff, Nat.reduceBNe, Nat.reduceBEq, Int.reduceToNat]
      refine aw_seq ?_
      refine aw_block ?_
      obtain ⟨⟨hxl, ⟨hpl, hpo⟩, -, ⟨hsl, hso⟩, ⟨hvl, -⟩, -⟩, hv1⟩ := hb _ (List.getElem_mem hc3)
      generalize hyy : l[i] = x at hxl hpl hpo hsl hso hvl hv1
      obtain ⟨lo, ps, gr, sg, sv, lm⟩ := x
      dsimp only at hxl hpl hpo hsl hso hvl hv1
      refine aw_seq (aw_region (EF := EF0) hG (by rw [hN]; exact tr20_4) ?_)
      simp only [a20_4, go_sem, ↓reduceIte, Nat.reduceEqDiff, reduceCtorEq, Nat.reduceAdd, Nat.reduceLT, Nat.reduceLeDiff, Nat.reduceBNe, Nat.reduceBEq, Int.reduceToNat, getD_mapd _ _ _ _ hc3, hc3, hyy, Booking.enc]
      (repeat' apply And.intro) <;> (try first | omega | (intros; (repeat' apply And.intro) <;> first | assumption | omega | (simp_all; done)))
      refine aw_seq (aw_region (EF := EF0) hG (by rw [hN]; exact tr20_5) ?_)
      simp only [a20_5, go_sem, ↓reduceIte, Nat.reduceEqDiff, reduceCtorEq, Nat.reduceAdd, Nat.reduceLT, Nat.reduceLeDiff, Nat.reduceBNe, Nat.reduceBEq, Int.reduceToNat]
      refine aw_block ?_
      refine aw_loop (α := Nat × Nat) (fun γ => (γ.1 ≤ sv.length) ∧ (γ.2 = n + ((sv.take γ.1).filter (uses sg ⟨s1, s2, s3, s4, s5, s6, s7⟩ c)).length) ∧ (γ.2 ≤ n + γ.1)) (fun γ => ⟨mkE [(2, V.str c), (4, V.ptr 4 0), (7, .int .i64 γ.2), (9, V.ptr 9 0), (12, V.list (List.map Booking.enc l) false), (13, V.int IntKind.i64 ↑l.length), (14, V.int IntKind.i64 ↑i), (19, V.list (List.map Service.enc sv) false), (20, V.int IntKind.i64 ↑sv.length), (21, .int .i64 γ.1)], mkH [(4, Ob.box 49 [V.str s1, V.int IntKind.i64 s2, V.int IntKind.i64 s3, V.str s4, V.str s5, V.int IntKind.i64 s6, V.int IntKind.i64 s7]), (9, Ob.box 35 [V.str lo, V.list (List.map Person.enc ps) false, V.int IntKind.i64 gr, V.list (List.map Booked.enc sg) false, V.list (List.map Service.enc sv) false, V.int IntKind.i64 lm])]⟩) (fun γ => sv.length - γ.1) (0, n) ⟨Nat.zero_le _, rfl, Nat.le_refl _⟩ ?_ ?_
      · refine Le.mk _ _ ?_ ?_ rfl <;> simp only [go_sem, ↓reduceIte, Nat.reduceEqDiff, reduceCtorEq, Nat.reduceAdd, Nat.reduceLT, Nat.reduceLeDiff, Nat.reduceBNe, Nat.reduceBEq, Int.reduceToNat] <;> (repeat' apply And.intro) <;> (try first | rfl | exact wk_frzb rfl rfl rfl | exact wk_fn rfl | exact .nilo _ _ _ rfl rfl)
      · rintro ⟨k, m⟩ ⟨hk, hm, hml⟩ KL2 hKL2
        try dsimp only at *
        refine aw_seq (aw_region (EF := EF0) hG (by rw [hN]; exact tr20_6) ?_)
        simp only [a20_6, go_sem, ↓reduceIte, Nat.reduceEqDiff, reduceCtorEq, Nat.reduceAdd, Nat.reduceLT, Nat.reduceLeDiff, Nat.reduceBNe, Nat.reduceBEq, Int.reduceToNat]
        refine aw_seq ?_
        refine aw_cond (b := _) rfl (fun hc6 => ?_) (fun hc6 => ?_)
        · simp only [decide_eq_true_eq, decide_eq_false_iff_not, Bool.and_eq_true, Bool.or_eq_true, Bool.not_eq_true', Bool.not_eq_false', Bool.and_eq_false_iff, Bool.or_eq_false_iff, Int.ofNat_lt, Int.ofNat_le, Nat.not_lt, Nat.not_le, Int.not_lt, Int.not_le] at hc6
          refine aw_skip ?_
          simp only [go_sem, ↓reduceIte, Nat.reduceEqDiff, reduceCtorEq, Nat.reduceAdd, Nat.reduceLT, Nat.reduceLeDiff, Nat.reduceBNe, Nat.reduceBEq, Int.reduceToNat]
          refine aw_seq ?_
          refine aw_block ?_
          generalize hzz : sv[k] = z
          obtain ⟨zc, zp, zs⟩ := z
          refine aw_seq (aw_region (EF := EF0) hG (by rw [hN]; exact tr20_7) ?_)
          simp only [a20_7, go_sem, ↓reduceIte, Nat.reduceEqDiff, reduceCtorEq, Nat.reduceAdd, Nat.reduceLT, Nat.reduceLeDiff, Nat.reduceBNe, Nat.reduceBEq, Int.reduceToNat, getD_mapd _ _ _ _ hc6, hc6, hzz, Service.enc]
          (repeat' apply And.intro) <;> (try first | omega | (intros; (repeat' apply And.intro) <;> first | assumption | omega | (simp_all; done)))
          by_cases hgd : (decide (zc = c) && decide (0 ≤ zs) && decide (zs < (sg.length : Int))) = true
          · skip
            obtain ⟨⟨q1, q2⟩, q3⟩ : (zc = c ∧ 0 ≤ zs) ∧ zs < (sg.length : Int) := by simpa using hgd
            have q4 : zs.toNat < sg.length := by omega
            refine aw_seq (aw_regionD (EF := EF0) hG mixed (by rw [hN]; exact tr20_8) ok20_8 ?_)
            simp only [a20_8, d20_8, go_sem, ↓reduceIte, Nat.reduceEqDiff, reduceCtorEq, Nat.reduceAdd, Nat.reduceLT, Nat.reduceLeDiff, Nat.reduceBNe, Nat.reduceBEq, Int.reduceToNat, tUsed, hgd, getD_mapd _ _ _ _ q4, q4, Booked.enc, fSeat_eq]
            (repeat' apply And.intro) <;> (try first | omega | (intros; (repeat' apply And.intro) <;> first | assumption | omega | (simp_all; done)))
            refine aw_cond (b := _) rfl (fun hb8 => ?_) (fun hb8 => ?_)
            · skip
              have hu : uses sg (⟨s1, s2, s3, s4, s5, s6, s7⟩ : Seg) c ⟨zc, zp, zs⟩ = true := by first | (cases hb8; done) | (unfold uses; dsimp only; simp only [hgd, Bool.true_and, getD_lt _ _ _ q4]; exact hb8)
              refine aw_region (EF := EF0) hG (by rw [hN]; exact tr20_9) ?_
              simp only [a20_9, go_sem, ↓reduceIte, Nat.reduceEqDiff, reduceCtorEq, Nat.reduceAdd, Nat.reduceLT, Nat.reduceLeDiff, Nat.reduceBNe, Nat.reduceBEq, Int.reduceToNat, inI]
              (repeat' apply And.intro) <;> (try first | omega | (intros; (repeat' apply And.intro) <;> first | assumption | omega | (simp_all; done)))
              refine aw_region (EF := EF0) hG (by rw [hN]; exact tr20_10) ?_
              simp only [a20_10, go_sem, ↓reduceIte, Nat.reduceEqDiff, reduceCtorEq, Nat.reduceAdd, Nat.reduceLT, Nat.reduceLeDiff, Nat.reduceBNe, Nat.reduceBEq, Int.reduceToNat, inI]
              (repeat' apply And.intro) <;> (try first | omega | (intros; (repeat' apply And.intro) <;> first | assumption | omega | (simp_all; done)))
              refine hKL2 (k + 1, m + 1) _ ?_ ?_ ?_
              · (try dsimp only); refine ⟨hc6, ?_, by omega⟩; rw [cnt_t hc6 (by rw [hzz]; exact hu), hm]; omega
              · (try dsimp only); omega
              · refine Le.mk _ _ ?_ ?_ rfl <;> simp only [go_sem, ↓reduceIte, Nat.reduceEqDiff, reduceCtorEq, Nat.reduceAdd, Nat.reduceLT, Nat.reduceLeDiff, Nat.reduceBNe, Nat.reduceBEq, Int.reduceToNat, Int.natCast_add, Int.cast_ofNat_Int] <;> (repeat' apply And.intro) <;> (try first | rfl | exact wk_frzb rfl rfl rfl | exact wk_fn rfl | exact .nilo _ _ _ rfl rfl)
            · skip
              have hu : uses sg (⟨s1, s2, s3, s4, s5, s6, s7⟩ : Seg) c ⟨zc, zp, zs⟩ = false := by first | (unfold uses; dsimp only; simp only [hgd, Bool.true_and, getD_lt _ _ _ q4]; exact hb8) | (unfold uses; dsimp only; simp only [hgd, Bool.false_and])
              refine aw_skip ?_
              simp only [go_sem, ↓reduceIte, Nat.reduceEqDiff, reduceCtorEq, Nat.reduceAdd, Nat.reduceLT, Nat.reduceLeDiff, Nat.reduceBNe, Nat.reduceBEq, Int.reduceToNat]
              refine aw_region (EF := EF0) hG (by rw [hN]; exact tr20_10) ?_
              simp only [a20_10, go_sem, ↓reduceIte, Nat.reduceEqDiff, reduceCtorEq, Nat.reduceAdd, Nat.reduceLT, Nat.reduceLeDiff, Nat.reduceBNe, Nat.reduceBEq, Int.reduceToNat, inI]
              (repeat' apply And.intro) <;> (try first | omega | (intros; (repeat' apply And.intro) <;> first | assumption | omega | (simp_all; done)))
              refine hKL2 (k + 1, m) _ ?_ ?_ ?_
              · (try dsimp only); refine ⟨hc6, ?_, by omega⟩; rw [cnt_f hc6 (by rw [hzz]; exact hu), hm]
              · (try dsimp only); omega
              · refine Le.mk _ _ ?_ ?_ rfl <;> simp only [go_sem, ↓reduceIte, Nat.reduceEqDiff, reduceCtorEq, Nat.reduceAdd, Nat.reduceLT, Nat.reduceLeDiff, Nat.reduceBNe, Nat.reduceBEq, Int.reduceToNat] <;> (repeat' apply And.intro) <;> (try first | rfl | exact wk_frzb rfl rfl rfl | exact wk_fn rfl | exact .nilo _ _ _ rfl rfl)
          · skip
            replace hgd := Bool.eq_false_iff.2 hgd
            have hu : uses sg (⟨s1, s2, s3, s4, s5, s6, s7⟩ : Seg) c ⟨zc, zp, zs⟩ = false := by unfold uses; dsimp only; simp only [hgd, Bool.false_and]
            refine aw_seq (aw_regionD (EF := EF0) hG mixed (by rw [hN]; exact tr20_8) ok20_8 ?_)
            simp only [a20_8, d20_8, go_sem, ↓reduceIte, Nat.reduceEqDiff, reduceCtorEq, Nat.reduceAdd, Nat.reduceLT, Nat.reduceLeDiff, Nat.reduceBNe, Nat.reduceBEq, Int.reduceToNat, tUsed, hgd]
            (repeat' apply And.intro) <;> (try first | omega | (intros; (repeat' apply And.intro) <;> first | assumption | omega | (simp_all; done)))
            refine aw_condF rfl ?_
            refine aw_skip ?_
            simp only [go_sem, ↓reduceIte, Nat.reduceEqDiff, reduceCtorEq, Nat.reduceAdd, Nat.reduceLT, Nat.reduceLeDiff, Nat.reduceBNe, Nat.reduceBEq, Int.reduceToNat]
            refine aw_region (EF := EF0) hG (by rw [hN]; exact tr20_10) ?_
            simp only [a20_10, go_sem, ↓reduceIte, Nat.reduceEqDiff, reduceCtorEq, Nat.reduceAdd, Nat.reduceLT, Nat.reduceLeDiff, Nat.reduceBNe, Nat.reduceBEq, Int.reduceToNat, inI]
            (repeat' apply And.intro) <;> (try first | omega | (intros; (repeat' apply And.intro) <;> first | assumption | omega | (simp_all; done)))
            refine hKL2 (k + 1, m) _ ?_ ?_ ?_
            · (try dsimp only); refine ⟨hc6, ?_, by omega⟩; rw [cnt_f hc6 (by rw [hzz]; exact hu), hm]
            · (try dsimp only); omega
            · refine Le.mk _ _ ?_ ?_ rfl <;> simp only [go_sem, ↓reduceIte, Nat.reduceEqDiff, reduceCtorEq, Nat.reduceAdd, Nat.reduceLT, Nat.reduceLeDiff, Nat.reduceBNe, Nat.reduceBEq, Int.reduceToNat] <;> (repeat' apply And.intro) <;> (try first | rfl | exact wk_frzb rfl rfl rfl | exact wk_fn rfl | exact .nilo _ _ _ rfl rfl)
        · simp only [decide_eq_true_eq, decide_eq_false_iff_not, Bool.and_eq_true, Bool.or_eq_true, Bool.not_eq_true', Bool.not_eq_false', Bool.and_eq_false_iff, Bool.or_eq_false_iff, Int.ofNat_lt, Int.ofNat_le, Nat.not_lt, Nat.not_le, Int.not_lt, Int.not_le] at hc6
          refine aw_exit ?_
          simp only [go_sem, ↓reduceIte, Nat.reduceEqDiff, reduceCtorEq, Nat.reduceAdd, Nat.reduceLT, Nat.reduceLeDiff, Nat.reduceBNe, Nat.reduceBEq, Int.reduceToNat]
          refine aw_region (EF := EF0) hG (by rw [hN]; exact tr20_11) ?_
          simp only [a20_11, go_sem, ↓reduceIte, Nat.reduceEqDiff, reduceCtorEq, Nat.reduceAdd, Nat.reduceLT, Nat.reduceLeDiff, Nat.reduceBNe, Nat.reduceBEq, Int.reduceToNat, inI]
          (repeat' apply And.intro) <;> (try first | omega | (intros; (repeat' apply And.intro) <;> first | assumption | omega | (simp_all; done)))
          refine hKL0 (i + 1, m) _ ?_ ?_ ?_
          · (try dsimp only); refine ⟨hc3, ?_, by omega⟩; unfold used; rw [sum_step _ hc3, hyy]; rw [Nat.le_antisymm hk hc6, List.take_length, hn] at hm; exact hm
          · (try dsimp only); omega
          · refine Le.mk _ _ ?_ ?_ rfl <;> simp only [go_sem, ↓reduceIte, Nat.reduceEqDiff, reduceCtorEq, Nat.reduceAdd, Nat.reduceLT, Nat.reduceLeDiff, Nat.reduceBNe, Nat.reduceBEq, Int.reduceToNat] <;> (repeat' apply And.intro) <;> (try first | rfl | exact wk_frzb rfl rfl rfl | exact wk_fn rfl | exact .nilo _ _ _ rfl rfl)
    · simp only [decide_eq_true_eq, decide_eq_false_iff_not, Bool.and_eq_true, Bool.or_eq_true, Bool.not_eq_true', Bool.not_eq_false', Bool.and_eq_false_iff, Bool.or_eq_false_iff, Int.ofNat_lt, Int.ofNat_le, Nat.not_lt, Nat.not_le, Int.not_lt, Int.not_le] at hc3
      refine aw_exit ?_
      simp only [go_sem, ↓reduceIte, Nat.reduceEqDiff, reduceCtorEq, Nat.reduceAdd, Nat.reduceLT, Nat.reduceLeDiff, Nat.reduceBNe, Nat.reduceBEq, Int.reduceToNat]
      refine aw_seq (aw_region (EF := EF0) hG (by rw [hN]; exact tr20_12) ?_)
      simp only [a20_12, go_sem, ↓reduceIte, Nat.reduceEqDiff, reduceCtorEq, Nat.reduceAdd, Nat.reduceLT, Nat.reduceLeDiff, Nat.reduceBNe, Nat.reduceBEq, Int.reduceToNat]
      refine aw_ret ?_
      show Q _ _
      refine hQ _ _ (.inl rfl) ?_ ?_ ?_ <;> simp only [outφ, outV, AR.res, go_sem, ↓reduceIte, Nat.reduceEqDiff, reduceCtorEq, Nat.reduceAdd, Nat.reduceLT, Nat.reduceLeDiff, Nat.reduceBNe, Nat.reduceBEq, Int.reduceToNat, fUsed]
      rw [hn, List.take_of_length_le hc3]
noncomputable def trUsed : Tab
  | 35 => (gOf aInt fSeat)
  | _ => gNo
theorem trUsed_ok : ∀ f, PureC Tryd.prog UT f (trUsed f) := fun f => by
  unfold trUsed
  split
  · exact rseat_p
  · exact PureC.no
set_option maxRecDepth 4000 in
set_option maxHeartbeats 2000000 in
theorem rused_p : PureC Tryd.prog UT 21 (gOf aUsed fUsed) := by
  have hG := trUsed_ok
  refine PureC.ofArgs aUsed_inj Tryd.func21 body21 nm21 res21 ?_
  rintro ⟨l, ⟨s1, s2, s3, s4, s5, s6, s7⟩, c⟩ hv
  refine ⟨by rw [nt21]; simp [aUsed], fun C hN Q hQ => ?_⟩
  rw [nt21] at hN
  unfold c21
  obtain ⟨hl, hb⟩ : OkB l := hv
  refine aw_seq (aw_region (EF := EF0) hG (by rw [hN]; exact tr21_0) ?_)
  simp only [a21_0, go_sem, ↓reduceIte, Nat.reduceEqDiff, reduceCtorEq, Nat.reduceAdd, Nat.reduceLT, Nat.reduceLeDiff, Nat.reduceBNe, Nat.reduceBEq, Int.reduceToNat, aUsed, Seg.enc]
  refine aw_seq (aw_region (EF := EF0) hG (by rw [hN]; exact tr21_1) ?_)
  simp only [a21_1, go_sem, ↓reduceIte, Nat.reduceEqDiff, reduceCtorEq, Nat.reduceAdd, Nat.reduceLT, Nat.reduceLeDiff, Nat.reduceBNe, Nat.reduceBEq, Int.reduceToNat]
  refine aw_seq ?_
  refine aw_seq (aw_region (EF := EF0) hG (by rw [hN]; exact tr21_2) ?_)
  simp only [a21_2, go_sem, ↓reduceIte, Nat.reduceEqDiff, reduceCtorEq, Nat.reduceAdd, Nat.reduceLT, Nat.reduceLeDiff, Nat.reduceBNe, Nat.reduceBEq, Int.reduceToNat]
  refine aw_block ?_
  refine aw_loop (α := Nat × Nat) (fun γ => (γ.1 ≤ l.length) ∧ (γ.2 = used (l.take γ.1) ⟨s1, s2, s3, s4, s5, s6, s7⟩ c) ∧ (γ.2 ≤ 1000 * γ.1)) (fun γ => ⟨mkE [(0, V.list (List.map Booking.enc l) false), (2, V.str c), (4, V.ptr 4 0), (7, .int .i64 γ.2), (8, .int .i64 γ.1)], mkH [(4, Ob.box 49 [V.str s1, V.int IntKind.i64 s2, V.int IntKind.i64 s3, V.str s4, V.str s5, V.int IntKind.i64 s6, V.int IntKind.i64 s7])]⟩) (fun γ => l.length - γ.1) (0, 0) ⟨Nat.zero_le _, rfl, Nat.zero_le _⟩ ?_ ?_
  · refine Le.mk _ _ ?_ ?_ rfl <;> simp only [go_sem, ↓reduceIte, Nat.reduceEqDiff, reduceCtorEq, Nat.reduceAdd, Nat.reduceLT, Nat.reduceLeDiff, Nat.reduceBNe, Nat.reduceBEq, Int.reduceToNat] <;> (repeat' apply And.intro) <;> (try first | rfl | exact wk_frzb rfl rfl rfl | exact wk_fn rfl | exact .nilo _ _ _ rfl rfl)
  · rintro ⟨i, n⟩ ⟨hi, hn, hnl⟩ KL0 hKL0
    try dsimp only at *
    refine aw_seq ?_
    refine aw_seq (aw_region (EF := EF0) hG (by rw [hN]; exact tr21_3) ?_)
    simp only [a21_3, go_sem, ↓reduceIte, Nat.reduceEqDiff, reduceCtorEq, Nat.reduceAdd, Nat.reduceLT, Nat.reduceLeDiff, Nat.reduceBNe, Nat.reduceBEq, Int.reduceToNat]
    refine aw_cond (b := _) rfl (fun hc3 => ?_) (fun hc3 => ?_)
    · simp only [decide_eq_true_eq, decide_eq_false_iff_not, Bool.and_eq_true, Bool.or_eq_true, Bool.not_eq_true', Bool.not_eq_false', Bool.and_eq_false_iff, Bool.or_eq_false_iff, Int.ofNat_lt, Int.ofNat_le, Nat.not_lt, Nat.not_le, Int.not_lt, Int.not_le] at hc3
      refine aw_skip ?_
      simp only [go_sem, ↓reduceIte, Nat.reduceEqDiff, reduceCtorEq, Nat.reduceAdd, Nat.reduceLT, Nat.reduceLeDiff, Nat.reduceBNe, Nat.reduceBEq, Int.reduceToNat]
      refine aw_seq ?_
      refine aw_block ?_
      obtain ⟨⟨hxl, ⟨hpl, hpo⟩, -, ⟨hsl, hso⟩, ⟨hvl, -⟩, -⟩, hv1⟩ := hb _ (List.getElem_mem hc3)
      generalize hyy : l[i] = x at hxl hpl hpo hsl hso hvl hv1
      obtain ⟨lo, ps, gr, sg, sv, lm⟩ := x
      dsimp only at hxl hpl hpo hsl hso hvl hv1
      refine aw_seq (aw_region (EF := EF0) hG (by rw [hN]; exact tr21_5) ?_)
      simp only [a21_5, go_sem, ↓reduceIte, Nat.reduceEqDiff, reduceCtorEq, Nat.reduceAdd, Nat.reduceLT, Nat.reduceLeDiff, Nat.reduceBNe, Nat.reduceBEq, Int.reduceToNat]
      refine aw_block ?_
      refine aw_loop (α := Nat × Nat) (fun γ => (γ.1 ≤ sv.length) ∧ (γ.2 = n + ((sv.take γ.1).filter (uses sg ⟨s1, s2, s3, s4, s5, s6, s7⟩ c)).length) ∧ (γ.2 ≤ n + γ.1)) (fun γ => ⟨mkE [(0, V.list (List.map Booking.enc l) false), (2, V.str c), (4, V.ptr 4 0), (7, .int .i64 γ.2), (8, V.int IntKind.i64 ↑i), (9, .int .i64 γ.1)], mkH [(4, Ob.box 49 [V.str s1, V.int IntKind.i64 s2, V.int IntKind.i64 s3, V.str s4, V.str s5, V.int IntKind.i64 s6, V.int IntKind.i64 s7])]⟩) (fun γ => sv.length - γ.1) (0, n) ⟨Nat.zero_le _, rfl, Nat.le_refl _⟩ ?_ ?_
      · refine Le.mk _ _ ?_ ?_ rfl <;> simp only [go_sem, ↓reduceIte, Nat.reduceEqDiff, reduceCtorEq, Nat.reduceAdd, Nat.reduceLT, Nat.reduceLeDiff, Nat.reduceBNe, Nat.reduceBEq, Int.reduceToNat] <;> (repeat' apply And.intro) <;> (try first | rfl | exact wk_frzb rfl rfl rfl | exact wk_fn rfl | exact .nilo _ _ _ rfl rfl)
      · rintro ⟨k, m⟩ ⟨hk, hm, hml⟩ KL2 hKL2
        try dsimp only at *
        refine aw_seq ?_
        refine aw_seq (aw_region (EF := EF0) hG (by rw [hN]; exact tr21_6) ?_)
        simp only [a21_6, go_sem, ↓reduceIte, Nat.reduceEqDiff, reduceCtorEq, Nat.reduceAdd, Nat.reduceLT, Nat.reduceLeDiff, Nat.reduceBNe, Nat.reduceBEq, Int.reduceToNat, getD_mapd _ _ _ _ hc3, hc3, hyy, Booking.enc]
        (repeat' apply And.intro) <;> (try first | omega | (intros; (repeat' apply And.intro) <;> first | assumption | omega | (simp_all; done)))
        refine aw_cond (b := _) rfl (fun hc6 => ?_) (fun hc6 => ?_)
        · simp only [decide_eq_true_eq, decide_eq_false_iff_not, Bool.and_eq_true, Bool.or_eq_true, Bool.not_eq_true', Bool.not_eq_false', Bool.and_eq_false_iff, Bool.or_eq_false_iff, Int.ofNat_lt, Int.ofNat_le, Nat.not_lt, Nat.not_le, Int.not_lt, Int.not_le] at hc6
          refine aw_skip ?_
          simp only [go_sem, ↓reduceIte, Nat.reduceEqDiff, reduceCtorEq, Nat.reduceAdd, Nat.reduceLT, Nat.reduceLeDiff, Nat.reduceBNe, Nat.reduceBEq, Int.reduceToNat]
          refine aw_seq ?_
          refine aw_block ?_
          generalize hzz : sv[k] = z
          obtain ⟨zc, zp, zs⟩ := z
          refine aw_seq (aw_region (EF := EF0) hG (by rw [hN]; exact tr21_8) ?_)
          simp only [a21_8, go_sem, ↓reduceIte, Nat.reduceEqDiff, reduceCtorEq, Nat.reduceAdd, Nat.reduceLT, Nat.reduceLeDiff, Nat.reduceBNe, Nat.reduceBEq, Int.reduceToNat, getD_mapd _ _ _ _ hc3, hc3, hyy, Booking.enc, getD_mapd _ _ _ _ hc6, hc6, hzz, Service.enc]
          (repeat' apply And.intro) <;> (try first | omega | (intros; (repeat' apply And.intro) <;> first | assumption | omega | (simp_all; done)))
          by_cases hgd : (decide (zc = c) && decide (0 ≤ zs) && decide (zs < (sg.length : Int))) = true
          · skip
            obtain ⟨⟨q1, q2⟩, q3⟩ : (zc = c ∧ 0 ≤ zs) ∧ zs < (sg.length : Int) := by simpa using hgd
            have q4 : zs.toNat < sg.length := by omega
            refine aw_seq (aw_regionD (EF := EF0) hG mixed (by rw [hN]; exact tr21_9) ok21_9 ?_)
            simp only [a21_9, d21_9, go_sem, ↓reduceIte, Nat.reduceEqDiff, reduceCtorEq, Nat.reduceAdd, Nat.reduceLT, Nat.reduceLeDiff, Nat.reduceBNe, Nat.reduceBEq, Int.reduceToNat, trUsed, hgd, getD_mapd _ _ _ _ hc3, hc3, hyy, Booking.enc, getD_mapd _ _ _ _ q4, q4, Booked.enc, fSeat_eq]
            (repeat' apply And.intro) <;> (try first | omega | (intros; (repeat' apply And.intro) <;> first | assumption | omega | (simp_all; done)))
            refine aw_cond (b := _) rfl (fun hb8 => ?_) (fun hb8 => ?_)
            · skip
              have hu : uses sg (⟨s1, s2, s3, s4, s5, s6, s7⟩ : Seg) c ⟨zc, zp, zs⟩ = true := by first | (cases hb8; done) | (unfold uses; dsimp only; simp only [hgd, Bool.true_and, getD_lt _ _ _ q4]; exact hb8)
              refine aw_region (EF := EF0) hG (by rw [hN]; exact tr21_10) ?_
              simp only [a21_10, go_sem, ↓reduceIte, Nat.reduceEqDiff, reduceCtorEq, Nat.reduceAdd, Nat.reduceLT, Nat.reduceLeDiff, Nat.reduceBNe, Nat.reduceBEq, Int.reduceToNat, inI]
              (repeat' apply And.intro) <;> (try first | omega | (intros; (repeat' apply And.intro) <;> first | assumption | omega | (simp_all; done)))
              refine aw_region (EF := EF0) hG (by rw [hN]; exact tr21_7) ?_
              simp only [a21_7, go_sem, ↓reduceIte, Nat.reduceEqDiff, reduceCtorEq, Nat.reduceAdd, Nat.reduceLT, Nat.reduceLeDiff, Nat.reduceBNe, Nat.reduceBEq, Int.reduceToNat, inI]
              (repeat' apply And.intro) <;> (try first | omega | (intros; (repeat' apply And.intro) <;> first | assumption | omega | (simp_all; done)))
              refine hKL2 (k + 1, m + 1) _ ?_ ?_ ?_
              · (try dsimp only); refine ⟨hc6, ?_, by omega⟩; rw [cnt_t hc6 (by rw [hzz]; exact hu), hm]; omega
              · (try dsimp only); omega
              · refine Le.mk _ _ ?_ ?_ rfl <;> simp only [go_sem, ↓reduceIte, Nat.reduceEqDiff, reduceCtorEq, Nat.reduceAdd, Nat.reduceLT, Nat.reduceLeDiff, Nat.reduceBNe, Nat.reduceBEq, Int.reduceToNat, Int.natCast_add, Int.cast_ofNat_Int] <;> (repeat' apply And.intro) <;> (try first | rfl | exact wk_frzb rfl rfl rfl | exact wk_fn rfl | exact .nilo _ _ _ rfl rfl)
            · skip
              have hu : uses sg (⟨s1, s2, s3, s4, s5, s6, s7⟩ : Seg) c ⟨zc, zp, zs⟩ = false := by first | (unfold uses; dsimp only; simp only [hgd, Bool.true_and, getD_lt _ _ _ q4]; exact hb8) | (unfold uses; dsimp only; simp only [hgd, Bool.false_and])
              refine aw_skip ?_
              simp only [go_sem, ↓reduceIte, Nat.reduceEqDiff, reduceCtorEq, Nat.reduceAdd, Nat.reduceLT, Nat.reduceLeDiff, Nat.reduceBNe, Nat.reduceBEq, Int.reduceToNat]
              refine aw_region (EF := EF0) hG (by rw [hN]; exact tr21_7) ?_
              simp only [a21_7, go_sem, ↓reduceIte, Nat.reduceEqDiff, reduceCtorEq, Nat.reduceAdd, Nat.reduceLT, Nat.reduceLeDiff, Nat.reduceBNe, Nat.reduceBEq, Int.reduceToNat, inI]
              (repeat' apply And.intro) <;> (try first | omega | (intros; (repeat' apply And.intro) <;> first | assumption | omega | (simp_all; done)))
              refine hKL2 (k + 1, m) _ ?_ ?_ ?_
              · (try dsimp only); refine ⟨hc6, ?_, by omega⟩; rw [cnt_f hc6 (by rw [hzz]; exact hu), hm]
              · (try dsimp only); omega
              · refine Le.mk _ _ ?_ ?_ rfl <;> simp only [go_sem, ↓reduceIte, Nat.reduceEqDiff, reduceCtorEq, Nat.reduceAdd, Nat.reduceLT, Nat.reduceLeDiff, Nat.reduceBNe, Nat.reduceBEq, Int.reduceToNat] <;> (repeat' apply And.intro) <;> (try first | rfl | exact wk_frzb rfl rfl rfl | exact wk_fn rfl | exact .nilo _ _ _ rfl rfl)
          · skip
            replace hgd := Bool.eq_false_iff.2 hgd
            have hu : uses sg (⟨s1, s2, s3, s4, s5, s6, s7⟩ : Seg) c ⟨zc, zp, zs⟩ = false := by unfold uses; dsimp only; simp only [hgd, Bool.false_and]
            refine aw_seq (aw_regionD (EF := EF0) hG mixed (by rw [hN]; exact tr21_9) ok21_9 ?_)
            simp only [a21_9, d21_9, go_sem, ↓reduceIte, Nat.reduceEqDiff, reduceCtorEq, Nat.reduceAdd, Nat.reduceLT, Nat.reduceLeDiff, Nat.reduceBNe, Nat.reduceBEq, Int.reduceToNat, trUsed, hgd, getD_mapd _ _ _ _ hc3, hc3, hyy, Booking.enc]
            (repeat' apply And.intro) <;> (try first | omega | (intros; (repeat' apply And.intro) <;> first | assumption | omega | (simp_all; done)))
            refine aw_condF rfl ?_
            refine aw_skip ?_
            simp only [go_sem, ↓reduceIte, Nat.reduceEqDiff, reduceCtorEq, Nat.reduceAdd, Nat.reduceLT, Nat.reduceLeDiff, Nat.reduceBNe, Nat.reduceBEq, Int.reduceToNat]
            refine aw_region (EF := EF0) hG (by rw [hN]; exact tr21_7) ?_
            simp only [a21_7, go_sem, ↓reduceIte, Nat.reduceEqDiff, reduceCtorEq, Nat.reduceAdd, Nat.reduceLT, Nat.reduceLeDiff, Nat.reduceBNe, Nat.reduceBEq, Int.reduceToNat, inI]
            (repeat' apply And.intro) <;> (try first | omega | (intros; (repeat' apply And.intro) <;> first | assumption | omega | (simp_all; done)))
            refine hKL2 (k + 1, m) _ ?_ ?_ ?_
            · (try dsimp only); refine ⟨hc6, ?_, by omega⟩; rw [cnt_f hc6 (by rw [hzz]; exact hu), hm]
            · (try dsimp only); omega
            · refine Le.mk _ _ ?_ ?_ rfl <;> simp only [go_sem, ↓reduceIte, Nat.reduceEqDiff, reduceCtorEq, Nat.reduceAdd, Nat.reduceLT, Nat.reduceLeDiff, Nat.reduceBNe, Nat.reduceBEq, Int.reduceToNat] <;> (repeat' apply And.intro) <;> (try first | rfl | exact wk_frzb rfl rfl rfl | exact wk_fn rfl | exact .nilo _ _ _ rfl rfl)
        · simp only [decide_eq_true_eq, decide_eq_false_iff_not, Bool.and_eq_true, Bool.or_eq_true, Bool.not_eq_true', Bool.not_eq_false', Bool.and_eq_false_iff, Bool.or_eq_false_iff, Int.ofNat_lt, Int.ofNat_le, Nat.not_lt, Nat.not_le, Int.not_lt, Int.not_le] at hc6
          refine aw_exit ?_
          simp only [go_sem, ↓reduceIte, Nat.reduceEqDiff, reduceCtorEq, Nat.reduceAdd, Nat.reduceLT, Nat.reduceLeDiff, Nat.reduceBNe, Nat.reduceBEq, Int.reduceToNat]
          refine aw_region (EF := EF0) hG (by rw [hN]; exact tr21_4) ?_
          simp only [a21_4, go_sem, ↓reduceIte, Nat.reduceEqDiff, reduceCtorEq, Nat.reduceAdd, Nat.reduceLT, Nat.reduceLeDiff, Nat.reduceBNe, Nat.reduceBEq, Int.reduceToNat, inI]
          (repeat' apply And.intro) <;> (try first | omega | (intros; (repeat' apply And.intro) <;> first | assumption | omega | (simp_all; done)))
          refine hKL0 (i + 1, m) _ ?_ ?_ ?_
          · (try dsimp only); refine ⟨hc3, ?_, by omega⟩; unfold used; rw [sum_step _ hc3, hyy]; rw [Nat.le_antisymm hk hc6, List.take_length, hn] at hm; exact hm
          · (try dsimp only); omega
          · refine Le.mk _ _ ?_ ?_ rfl <;> simp only [go_sem, ↓reduceIte, Nat.reduceEqDiff, reduceCtorEq, Nat.reduceAdd, Nat.reduceLT, Nat.reduceLeDiff, Nat.reduceBNe, Nat.reduceBEq, Int.reduceToNat] <;> (repeat' apply And.intro) <;> (try first | rfl | exact wk_frzb rfl rfl rfl | exact wk_fn rfl | exact .nilo _ _ _ rfl rfl)
    · simp only [decide_eq_true_eq, decide_eq_false_iff_not, Bool.and_eq_true, Bool.or_eq_true, Bool.not_eq_true', Bool.not_eq_false', Bool.and_eq_false_iff, Bool.or_eq_false_iff, Int.ofNat_lt, Int.ofNat_le, Nat.not_lt, Nat.not_le, Int.not_lt, Int.not_le] at hc3
      refine aw_exit ?_
      simp only [go_sem, ↓reduceIte, Nat.reduceEqDiff, reduceCtorEq, Nat.reduceAdd, Nat.reduceLT, Nat.reduceLeDiff, Nat.reduceBNe, Nat.reduceBEq, Int.reduceToNat]
      refine aw_seq (aw_region (EF := EF0) hG (by rw [hN]; exact tr21_11) ?_)
      simp only [a21_11, go_sem, ↓reduceIte, Nat.reduceEqDiff, reduceCtorEq, Nat.reduceAdd, Nat.reduceLT, Nat.reduceLeDiff, Nat.reduceBNe, Nat.reduceBEq, Int.reduceToNat]
      refine aw_ret ?_
      show Q _ _
      refine hQ _ _ (.inl rfl) ?_ ?_ ?_ <;> simp only [outφ, outV, AR.res, go_sem, ↓reduceIte, Nat.reduceEqDiff, reduceCtorEq, Nat.reduceAdd, Nat.reduceLT, Nat.reduceLeDiff, Nat.reduceBNe, Nat.reduceBEq, Int.reduceToNat, fUsed]
      rw [hn, List.take_of_length_le hc3]
end Go.Proofs.YtnlgkeiilenojaaDoor
