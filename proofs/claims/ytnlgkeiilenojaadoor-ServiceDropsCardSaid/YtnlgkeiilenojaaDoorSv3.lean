/- Clip. -/
import Derived.Test.YtnlgkeiilenojaaDoorSv2
namespace Go.Proofs.YtnlgkeiilenojaaDoor
open Go Go.RowKit
set_option linter.unusedSimpArgs false
set_option linter.unusedVariables false
set_option linter.deprecated false
theorem clip_run (a : Option Addr) (n cap : Nat) (hc : n ≤ cap) (ha : a = none → cap = 0) (hb : n ≤ 140737488355328) (w : World) :
    Calls Tryd.prog 32 #[.slice a n cap] w fun e w' => e = .returned (.slice a n n) ∧ w = w' := by
  cases a with
  | none =>
    have := ha rfl
    have hn : n = 0 := by omega
    subst hn this
    go_enter Tryd.func32, Tryd.ntmps32
    go_wp2_with (fail)
    go_ret
    exact ⟨rfl, rfl⟩
  | some a =>
    go_enter Tryd.func32, Tryd.ntmps32
    go_wp2_with (fail)
    go_ret
    exact ⟨rfl, rfl⟩
def gClip : List V → Prop × V
  | [.list rows _] => (rows.length ≤ 140737488355328, .list rows true)
  | _ => (False, .any)
theorem clip_p : PureC Tryd.prog UT 32 gClip := by
  intro vs M w cargs hg
  match vs, hg with
  | [.list rows f], hg =>
  replace hg : rows.length ≤ 140737488355328 := hg
  refine ⟨⟨_, Tryd.func32, by rw [body32]; rfl, nm32⟩, fun hB _ hsz hlt hargs => ?_⟩
  have h1 := args_one hsz
  have hp := hargs 0 _ rfl
  generalize cargs.getD 0 undef = cv at h1 hp
  rw [h1]
  cases hp with
  | list _ _ a cap sz g off f hf hcap hn ha hr hc hv =>
  refine (clip_run a rows.length cap hcap hn hg w).mono ?_
  rintro e w' ⟨rfl, rfl⟩
  exact ⟨_, M, rfl, .list rows true a rows.length sz g off f (fun _ => rfl) (Nat.le_refl _) (fun e => by have := hn e; omega) ha hr hc hv, fun _ h => h, hlt, fun _ _ h => h, Below.refl _ _⟩
/-! Status.Seat; the bookings' services. -/
def seat (s : Int) : Bool := decide (s = 1) || decide (s = 3) || decide (s = 4)
def aInt (x : Int) : List V := [.int .i64 x]
theorem aInt_inj (a b : Int) (h : aInt a = aInt b) : a = b := by
  simp only [aInt, List.cons.injEq, V.str.injEq, V.int.injEq, V.bool.injEq, V.agg.injEq, V.list.injEq, and_true, true_and] at h
  have h0 := h
  subst h0
  rfl
def fSeat (s : Int) : Prop × V := (True, .bool (seat s))
theorem fSeat_eq (s) : gOf aInt fSeat [.int .i64 s] = (True, .bool (seat s)) := gOf_eq aInt_inj s
theorem seat_p : PureC Tryd.prog UT 33 (gOf aInt fSeat) := by
  have hG := tNo_ok
  refine PureC.ofArgs aInt_inj Tryd.func33 body33 nm33 res33 ?_
  rintro s hv
  refine ⟨by rw [nt33]; simp [aInt], fun C hN Q hQ => ?_⟩
  rw [nt33] at hN
  unfold c33
  refine aw_seq (aw_region (EF := EF0) hG (by rw [hN]; exact tr33_0) ?_)
  simp only [a33_0, go_sem, ↓reduceIte, Nat.reduceEqDiff, reduceCtorEq, Nat.reduceAdd, Nat.reduceLT, Nat.reduceLeDiff, Nat.reduceBNe, Nat.reduceBEq, Int.reduceToNat, aInt]
  refine aw_seq (aw_region (EF := EF0) hG (by rw [hN]; exact tr33_1) ?_)
  simp only [a33_1, go_sem, ↓reduceIte, Nat.reduceEqDiff, reduceCtorEq, Nat.reduceAdd, Nat.reduceLT, Nat.reduceLeDiff, Nat.reduceBNe, Nat.reduceBEq, Int.reduceToNat]
  (repeat' apply And.intro) <;> (try first | omega | (intros; (repeat' apply And.intro) <;> first | assumption | omega | (simp_all; done)))
  refine aw_ret ?_
  show Q _ _
  refine hQ _ _ (.inl rfl) ?_ ?_ ?_ <;> simp only [outφ, outV, AR.res, go_sem, ↓reduceIte, Nat.reduceEqDiff, reduceCtorEq, Nat.reduceAdd, Nat.reduceLT, Nat.reduceLeDiff, Nat.reduceBNe, Nat.reduceBEq, Int.reduceToNat, fSeat, seat]
theorem rseat_p : PureC Tryd.prog UT 35 (gOf aInt fSeat) := by
  have hG := tNo_ok
  refine PureC.ofArgs aInt_inj Tryd.func35 body35 nm35 res35 ?_
  rintro s hv
  refine ⟨by rw [nt35]; simp [aInt], fun C hN Q hQ => ?_⟩
  rw [nt35] at hN
  unfold c35
  refine aw_seq (aw_region (EF := EF0) hG (by rw [hN]; exact tr35_0) ?_)
  simp only [a35_0, go_sem, ↓reduceIte, Nat.reduceEqDiff, reduceCtorEq, Nat.reduceAdd, Nat.reduceLT, Nat.reduceLeDiff, Nat.reduceBNe, Nat.reduceBEq, Int.reduceToNat, aInt]
  refine aw_seq (aw_region (EF := EF0) hG (by rw [hN]; exact tr35_1) ?_)
  simp only [a35_1, go_sem, ↓reduceIte, Nat.reduceEqDiff, reduceCtorEq, Nat.reduceAdd, Nat.reduceLT, Nat.reduceLeDiff, Nat.reduceBNe, Nat.reduceBEq, Int.reduceToNat]
  (repeat' apply And.intro) <;> (try first | omega | (intros; (repeat' apply And.intro) <;> first | assumption | omega | (simp_all; done)))
  refine aw_ret ?_
  show Q _ _
  refine hQ _ _ (.inl rfl) ?_ ?_ ?_ <;> simp only [outφ, outV, AR.res, go_sem, ↓reduceIte, Nat.reduceEqDiff, reduceCtorEq, Nat.reduceAdd, Nat.reduceLT, Nat.reduceLeDiff, Nat.reduceBNe, Nat.reduceBEq, Int.reduceToNat, fSeat, seat]
def big (o : Offer) : Bool := decide (8 < (o.types.length : Int)) || decide (100 < (o.code.length : Int))
def manyB (l : List Offer) : Bool := decide (15 < (l.length : Int)) || l.any big
def Lens (l : List Offer) : Prop := l.length ≤ 140737488355328 ∧ ∀ o ∈ l, o.ok
def fMany (l : List Offer) : Prop × V := (Lens l, .bool (manyB l))
theorem many_p : PureC Tryd.prog UT 8 (gOf aOff fMany) := by
  have hG := tNo_ok
  refine PureC.ofArgs aOff_inj Tryd.func8 body8 nm8 res8 ?_
  rintro l hv
  refine ⟨by rw [nt8]; simp [aOff], fun C hN Q hQ => ?_⟩
  rw [nt8] at hN
  unfold c8
  obtain ⟨hl, ho⟩ : Lens l := hv
  refine aw_seq (aw_region (EF := EF0) hG (by rw [hN]; exact tr8_0) ?_)
  simp only [a8_0, go_sem, ↓reduceIte, Nat.reduceEqDiff, reduceCtorEq, Nat.reduceAdd, Nat.reduceLT, Nat.reduceLeDiff, Nat.reduceBNe, Nat.reduceBEq, Int.reduceToNat, aOff]
  refine aw_seq ?_
  refine aw_seq (aw_region (EF := EF0) hG (by rw [hN]; exact tr8_1) ?_)
  simp only [a8_1, go_sem, ↓reduceIte, Nat.reduceEqDiff, reduceCtorEq, Nat.reduceAdd, Nat.reduceLT, Nat.reduceLeDiff, Nat.reduceBNe, Nat.reduceBEq, Int.reduceToNat]
  refine aw_cond (b := _) rfl (fun hc1 => ?_) (fun hc1 => ?_)
  · simp only [decide_eq_true_eq, decide_eq_false_iff_not, Bool.and_eq_true, Bool.or_eq_true, Bool.not_eq_true', Bool.not_eq_false', Bool.and_eq_false_iff, Bool.or_eq_false_iff, Int.ofNat_lt, Int.ofNat_le, Nat.not_lt, Nat.not_le, Int.not_lt, Int.not_le] at hc1
    refine aw_seq (aw_region (EF := EF0) hG (by rw [hN]; exact tr8_2) ?_)
    simp only [a8_2, go_sem, ↓reduceIte, Nat.reduceEqDiff, reduceCtorEq, Nat.reduceAdd, Nat.reduceLT, Nat.reduceLeDiff, Nat.reduceBNe, Nat.reduceBEq, Int.reduceToNat]
    refine aw_ret ?_
    show Q _ _
    refine hQ _ _ (.inl rfl) ?_ ?_ ?_ <;> simp only [outφ, outV, AR.res, go_sem, ↓reduceIte, Nat.reduceEqDiff, reduceCtorEq, Nat.reduceAdd, Nat.reduceLT, Nat.reduceLeDiff, Nat.reduceBNe, Nat.reduceBEq, Int.reduceToNat, fMany]
    rw [manyB, decide_eq_true (by omega), Bool.true_or]
  · simp only [decide_eq_true_eq, decide_eq_false_iff_not, Bool.and_eq_true, Bool.or_eq_true, Bool.not_eq_true', Bool.not_eq_false', Bool.and_eq_false_iff, Bool.or_eq_false_iff, Int.ofNat_lt, Int.ofNat_le, Nat.not_lt, Nat.not_le, Int.not_lt, Int.not_le] at hc1
    refine aw_skip ?_
    simp only [go_sem, ↓reduceIte, Nat.reduceEqDiff, reduceCtorEq, Nat.reduceAdd, Nat.reduceLT, Nat.reduceLeDiff, Nat.reduceBNe, Nat.reduceBEq, Int.reduceToNat]
    refine aw_seq ?_
    refine aw_seq (aw_region (EF := EF0) hG (by rw [hN]; exact tr8_3) ?_)
    simp only [a8_3, go_sem, ↓reduceIte, Nat.reduceEqDiff, reduceCtorEq, Nat.reduceAdd, Nat.reduceLT, Nat.reduceLeDiff, Nat.reduceBNe, Nat.reduceBEq, Int.reduceToNat]
    refine aw_block ?_
    refine aw_loop (α := Nat) (fun i => (i ≤ l.length) ∧ (∀ o ∈ l.take i, big o = false)) (fun i => ⟨mkE [(0, V.list (List.map Offer.enc l) false), (3, .int .i64 i)], mkH []⟩) (fun i => l.length - i) 0 (by simp) ?_ ?_
    · refine Le.mk _ _ ?_ ?_ rfl <;> simp only [go_sem, ↓reduceIte, Nat.reduceEqDiff, reduceCtorEq, Nat.reduceAdd, Nat.reduceLT, Nat.reduceLeDiff, Nat.reduceBNe, Nat.reduceBEq, Int.reduceToNat] <;> (repeat' apply And.intro) <;> (try first | rfl | exact wk_frzb rfl rfl rfl | exact wk_fn rfl | exact .nilo _ _ _ rfl rfl)
    · rintro i ⟨hi, hp⟩ KL0 hKL0
      try dsimp only at *
      refine aw_seq ?_
      refine aw_seq (aw_region (EF := EF0) hG (by rw [hN]; exact tr8_4) ?_)
      simp only [a8_4, go_sem, ↓reduceIte, Nat.reduceEqDiff, reduceCtorEq, Nat.reduceAdd, Nat.reduceLT, Nat.reduceLeDiff, Nat.reduceBNe, Nat.reduceBEq, Int.reduceToNat]
      refine aw_cond (b := _) rfl (fun hc4 => ?_) (fun hc4 => ?_)
      · simp only [decide_eq_true_eq, decide_eq_false_iff_not, Bool.and_eq_true, Bool.or_eq_true, Bool.not_eq_true', Bool.not_eq_false', Bool.and_eq_false_iff, Bool.or_eq_false_iff, Int.ofNat_lt, Int.ofNat_le, Nat.not_lt, Nat.not_le, Int.not_lt, Int.not_le] at hc4
        refine aw_skip ?_
        simp only [go_sem, ↓reduceIte, Nat.reduceEqDiff, reduceCtorEq, Nat.reduceAdd, Nat.reduceLT, Nat.reduceLeDiff, Nat.reduceBNe, Nat.reduceBEq, Int.reduceToNat]
        refine aw_seq ?_
        refine aw_block ?_
        obtain ⟨hcl, -, htl, -⟩ := ho _ (List.getElem_mem hc4)
        refine aw_seq (aw_region (EF := EF0) hG (by rw [hN]; exact tr8_6) ?_)
        simp only [a8_6, go_sem, ↓reduceIte, Nat.reduceEqDiff, reduceCtorEq, Nat.reduceAdd, Nat.reduceLT, Nat.reduceLeDiff, Nat.reduceBNe, Nat.reduceBEq, Int.reduceToNat, getD_mapd _ _ _ _ hc4, hc4, Offer.enc]
        (repeat' apply And.intro) <;> (try first | omega | (intros; (repeat' apply And.intro) <;> first | assumption | omega | (simp_all; done)))
        refine aw_cond (b := _) rfl (fun hb => ?_) (fun hb => ?_)
        · skip
          refine aw_seq (aw_region (EF := EF0) hG (by rw [hN]; exact tr8_7) ?_)
          simp only [a8_7, go_sem, ↓reduceIte, Nat.reduceEqDiff, reduceCtorEq, Nat.reduceAdd, Nat.reduceLT, Nat.reduceLeDiff, Nat.reduceBNe, Nat.reduceBEq, Int.reduceToNat]
          refine aw_ret ?_
          show Q _ _
          refine hQ _ _ (.inl rfl) ?_ ?_ ?_ <;> simp only [outφ, outV, AR.res, go_sem, ↓reduceIte, Nat.reduceEqDiff, reduceCtorEq, Nat.reduceAdd, Nat.reduceLT, Nat.reduceLeDiff, Nat.reduceBNe, Nat.reduceBEq, Int.reduceToNat, fMany]
          rw [manyB, any_at (p := big) hc4 hb, Bool.or_true]
        · skip
          refine aw_skip ?_
          simp only [go_sem, ↓reduceIte, Nat.reduceEqDiff, reduceCtorEq, Nat.reduceAdd, Nat.reduceLT, Nat.reduceLeDiff, Nat.reduceBNe, Nat.reduceBEq, Int.reduceToNat]
          refine aw_region (EF := EF0) hG (by rw [hN]; exact tr8_5) ?_
          simp only [a8_5, go_sem, ↓reduceIte, Nat.reduceEqDiff, reduceCtorEq, Nat.reduceAdd, Nat.reduceLT, Nat.reduceLeDiff, Nat.reduceBNe, Nat.reduceBEq, Int.reduceToNat, inI]
          (repeat' apply And.intro) <;> (try first | omega | (intros; (repeat' apply And.intro) <;> first | assumption | omega | (simp_all; done)))
          refine hKL0 (i + 1) _ ?_ ?_ ?_
          · (try dsimp only); exact ⟨hc4, take_all hc4 hp hb⟩
          · (try dsimp only); omega
          · refine Le.mk _ _ ?_ ?_ rfl <;> simp only [go_sem, ↓reduceIte, Nat.reduceEqDiff, reduceCtorEq, Nat.reduceAdd, Nat.reduceLT, Nat.reduceLeDiff, Nat.reduceBNe, Nat.reduceBEq, Int.reduceToNat] <;> (repeat' apply And.intro) <;> (try first | rfl | exact wk_frzb rfl rfl rfl | exact wk_fn rfl | exact .nilo _ _ _ rfl rfl)
      · simp only [decide_eq_true_eq, decide_eq_false_iff_not, Bool.and_eq_true, Bool.or_eq_true, Bool.not_eq_true', Bool.not_eq_false', Bool.and_eq_false_iff, Bool.or_eq_false_iff, Int.ofNat_lt, Int.ofNat_le, Nat.not_lt, Nat.not_le, Int.not_lt, Int.not_le] at hc4
        refine aw_exit ?_
        simp only [go_sem, ↓reduceIte, Nat.reduceEqDiff, reduceCtorEq, Nat.reduceAdd, Nat.reduceLT, Nat.reduceLeDiff, Nat.reduceBNe, Nat.reduceBEq, Int.reduceToNat]
        refine aw_seq (aw_region (EF := EF0) hG (by rw [hN]; exact tr8_8) ?_)
        simp only [a8_8, go_sem, ↓reduceIte, Nat.reduceEqDiff, reduceCtorEq, Nat.reduceAdd, Nat.reduceLT, Nat.reduceLeDiff, Nat.reduceBNe, Nat.reduceBEq, Int.reduceToNat]
        refine aw_ret ?_
        show Q _ _
        refine hQ _ _ (.inl rfl) ?_ ?_ ?_ <;> simp only [outφ, outV, AR.res, go_sem, ↓reduceIte, Nat.reduceEqDiff, reduceCtorEq, Nat.reduceAdd, Nat.reduceLT, Nat.reduceLeDiff, Nat.reduceBNe, Nat.reduceBEq, Int.reduceToNat, fMany]
        rw [manyB, any_no (p := big) hc4 hp, decide_eq_false (by omega), Bool.false_or]
def fOffers (l : List Offer) : Prop × V := (l.length ≤ 1000000, .list (l.map Offer.enc) false)
theorem offers_p : PureC Tryd.prog UT 12 (gOf aOff fOffers) := by
  have hG := tNo_ok
  refine PureC.ofArgs aOff_inj Tryd.func12 body12 nm12 res12 ?_
  rintro l hv
  refine ⟨by rw [nt12]; simp [aOff], fun C hN Q hQ => ?_⟩
  rw [nt12] at hN
  unfold c12
  replace hv : l.length ≤ 1000000 := hv
  refine aw_seq (aw_region (EF := EF0) hG (by rw [hN]; exact tr12_0) ?_)
  simp only [a12_0, go_sem, ↓reduceIte, Nat.reduceEqDiff, reduceCtorEq, Nat.reduceAdd, Nat.reduceLT, Nat.reduceLeDiff, Nat.reduceBNe, Nat.reduceBEq, Int.reduceToNat, aOff]
  refine aw_seq (aw_region (EF := EF0) hG (by rw [hN]; exact tr12_1) ?_)
  simp only [a12_1, go_sem, ↓reduceIte, Nat.reduceEqDiff, reduceCtorEq, Nat.reduceAdd, Nat.reduceLT, Nat.reduceLeDiff, Nat.reduceBNe, Nat.reduceBEq, Int.reduceToNat]
  refine aw_seq ?_
  refine aw_seq (aw_region (EF := EF0) hG (by rw [hN]; exact tr12_2) ?_)
  simp only [a12_2, go_sem, ↓reduceIte, Nat.reduceEqDiff, reduceCtorEq, Nat.reduceAdd, Nat.reduceLT, Nat.reduceLeDiff, Nat.reduceBNe, Nat.reduceBEq, Int.reduceToNat]
  refine aw_block ?_
  refine aw_loop (α := Nat) (fun i => (i ≤ l.length)) (fun i => ⟨mkE [(0, V.list (List.map Offer.enc l) false), (3, .own 999 i), (4, .int .i64 i)], mkH [(999, .arr 61 3 ((l.take i).map Offer.enc))]⟩) (fun i => l.length - i) 0 (by simp) ?_ ?_
  · refine Le.mk _ _ ?_ ?_ rfl <;> simp only [go_sem, ↓reduceIte, Nat.reduceEqDiff, reduceCtorEq, Nat.reduceAdd, Nat.reduceLT, Nat.reduceLeDiff, Nat.reduceBNe, Nat.reduceBEq, Int.reduceToNat] <;> (repeat' apply And.intro) <;> (try first | rfl | exact wk_frzb rfl rfl rfl | exact wk_fn rfl | exact .nilo _ _ _ rfl rfl)
  · rintro i hi KL0 hKL0
    try dsimp only at *
    refine aw_seq ?_
    refine aw_seq (aw_region (EF := EF0) hG (by rw [hN]; exact tr12_3) ?_)
    simp only [a12_3, go_sem, ↓reduceIte, Nat.reduceEqDiff, reduceCtorEq, Nat.reduceAdd, Nat.reduceLT, Nat.reduceLeDiff, Nat.reduceBNe, Nat.reduceBEq, Int.reduceToNat]
    refine aw_cond (b := _) rfl (fun hc3 => ?_) (fun hc3 => ?_)
    · simp only [decide_eq_true_eq, decide_eq_false_iff_not, Bool.and_eq_true, Bool.or_eq_true, Bool.not_eq_true', Bool.not_eq_false', Bool.and_eq_false_iff, Bool.or_eq_false_iff, Int.ofNat_lt, Int.ofNat_le, Nat.not_lt, Nat.not_le, Int.not_lt, Int.not_le] at hc3
      refine aw_skip ?_
      simp only [go_sem, ↓reduceIte, Nat.reduceEqDiff, reduceCtorEq, Nat.reduceAdd, Nat.reduceLT, Nat.reduceLeDiff, Nat.reduceBNe, Nat.reduceBEq, Int.reduceToNat]
      refine aw_seq ?_
      refine aw_block ?_
      refine aw_region (EF := EF0) hG (by rw [hN]; exact tr12_5) ?_
      simp only [a12_5, go_sem, ↓reduceIte, Nat.reduceEqDiff, reduceCtorEq, Nat.reduceAdd, Nat.reduceLT, Nat.reduceLeDiff, Nat.reduceBNe, Nat.reduceBEq, Int.reduceToNat, getD_mapd _ _ _ _ hc3, hc3, Offer.enc, List.length_map, List.length_take, Nat.min_eq_left hi]
      (repeat' apply And.intro) <;> (try first | omega | (intros; (repeat' apply And.intro) <;> first | assumption | omega | (simp_all; done)))
      refine aw_region (EF := EF0) hG (by rw [hN]; exact tr12_4) ?_
      simp only [a12_4, go_sem, ↓reduceIte, Nat.reduceEqDiff, reduceCtorEq, Nat.reduceAdd, Nat.reduceLT, Nat.reduceLeDiff, Nat.reduceBNe, Nat.reduceBEq, Int.reduceToNat, inI]
      (repeat' apply And.intro) <;> (try first | omega | (intros; (repeat' apply And.intro) <;> first | assumption | omega | (simp_all; done)))
      refine hKL0 (i + 1) _ ?_ ?_ ?_
      · (try dsimp only); omega
      · (try dsimp only); omega
      · refine Le.mk _ _ ?_ ?_ rfl <;> simp only [go_sem, ↓reduceIte, Nat.reduceEqDiff, reduceCtorEq, Nat.reduceAdd, Nat.reduceLT, Nat.reduceLeDiff, Nat.reduceBNe, Nat.reduceBEq, Int.reduceToNat, take_succ' hc3, List.map_append, Offer.enc] <;> (repeat' apply And.intro) <;> (try first | rfl | exact wk_frzb rfl rfl rfl | exact wk_fn rfl | exact .nilo _ _ _ rfl rfl)
    · simp only [decide_eq_true_eq, decide_eq_false_iff_not, Bool.and_eq_true, Bool.or_eq_true, Bool.not_eq_true', Bool.not_eq_false', Bool.and_eq_false_iff, Bool.or_eq_false_iff, Int.ofNat_lt, Int.ofNat_le, Nat.not_lt, Nat.not_le, Int.not_lt, Int.not_le] at hc3
      refine aw_exit ?_
      simp only [go_sem, ↓reduceIte, Nat.reduceEqDiff, reduceCtorEq, Nat.reduceAdd, Nat.reduceLT, Nat.reduceLeDiff, Nat.reduceBNe, Nat.reduceBEq, Int.reduceToNat]
      refine aw_seq (aw_region (EF := EF0) hG (by rw [hN]; exact tr12_6) ?_)
      simp only [a12_6, go_sem, ↓reduceIte, Nat.reduceEqDiff, reduceCtorEq, Nat.reduceAdd, Nat.reduceLT, Nat.reduceLeDiff, Nat.reduceBNe, Nat.reduceBEq, Int.reduceToNat]
      refine AW.le (s' := ⟨mkE [(2, .list (l.map Offer.enc) false)], mkH []⟩) (Le.mk _ _ ?_ ?_ rfl) (aw_ret (hQ _ _ (.inl rfl) ?_ ?_ ?_)) <;> simp only [outφ, outV, AR.res, go_sem, ↓reduceIte, Nat.reduceEqDiff, reduceCtorEq, Nat.reduceAdd, Nat.reduceLT, Nat.reduceLeDiff, Nat.reduceBNe, Nat.reduceBEq, Int.reduceToNat, fOffers]
      · (have : i = l.length := by omega); subst this; rw [List.take_length]; exact wk_frz rfl (by rw [List.length_map]) rfl ((Offer.purs _).2 trivial)
/-! Services of a booking. -/
def svEq (x y : Service) : Bool := decide (x.code = y.code) && (decide (x.person = y.person) && decide (x.seg = y.seg))
theorem svEq_iff (x y : Service) : svEq x y = true ↔ x = y := by
  cases x; cases y; simp [svEq]
def svIn (l : List Service) (x : Service) : Bool := l.any fun y => svEq x y
def svIdx (l : List Service) (x : Service) : Option Nat := l.findIdx? fun y => svEq x y
def aSvIn (x : List Service × Service) : List V := [.list (x.1.map Service.enc) false, .agg x.2.enc]
theorem aSvIn_inj (a b : List Service × Service) (h : aSvIn a = aSvIn b) : a = b := by
  obtain ⟨a_l, a_x⟩ := a
  obtain ⟨b_l, b_x⟩ := b
  simp only [aSvIn, List.cons.injEq, V.str.injEq, V.int.injEq, V.bool.injEq, V.agg.injEq, V.list.injEq, and_true, true_and] at h
  obtain ⟨h0, h1⟩ := h
  replace h0 := map_inj' Service.inj h0
  subst h0
  replace h1 := Service.inj _ _ h1
  subst h1
  rfl
def fSvIdx (x : List Service × Service) : Prop × V := (x.1.length ≤ 140737488355328, idxV (svIdx x.1 x.2))
def fSvIn (x : List Service × Service) : Prop × V := (x.1.length ≤ 140737488355328, .bool (svIn x.1 x.2))
theorem fSvIdx_eq (l c p s) : gOf aSvIn fSvIdx [.list (l.map Service.enc) false, .agg [.str c, .int .i64 p, .int .i64 s]] = (l.length ≤ 140737488355328, idxV (svIdx l ⟨c, p, s⟩)) := gOf_eq aSvIn_inj (l, ⟨c, p, s⟩)
theorem fSvIn_eq (l c p s) : gOf aSvIn fSvIn [.list (l.map Service.enc) false, .agg [.str c, .int .i64 p, .int .i64 s]] = (l.length ≤ 140737488355328, .bool (svIn l ⟨c, p, s⟩)) := gOf_eq aSvIn_inj (l, ⟨c, p, s⟩)
theorem svIdx_at {l : List Service} {x : Service} {k : Nat} (hk : k < l.length) (h : ∀ z ∈ l.take k, svEq x z = false) (hp : svEq x l[k] = true) : svIdx l x = some k := by
  unfold svIdx
  rw [List.findIdx?_eq_some_iff_getElem]
  refine ⟨hk, by simpa using hp, fun j hj => ?_⟩
  have := h (l[j]'(by omega)) (by rw [List.mem_take_iff_getElem]; exact ⟨j, by omega, rfl⟩)
  simpa using this
theorem svIdx_no {l : List Service} {x : Service} {k : Nat} (hk : l.length ≤ k) (h : ∀ z ∈ l.take k, svEq x z = false) : svIdx l x = none := by
  rw [List.take_of_length_le hk] at h
  unfold svIdx
  rw [List.findIdx?_eq_none_iff]
  exact h
theorem svIdx_in (l : List Service) (x : Service) : decide (0 ≤ idxI (svIdx l x)) = svIn l x := by
  unfold svIdx svIn
  cases h : l.findIdx? fun y => svEq x y with
  | none =>
    rw [List.findIdx?_eq_none_iff] at h
    rw [List.any_eq_false.2 (fun y hy => by simpa using h y hy)]; rfl
  | some k =>
    rw [List.findIdx?_eq_some_iff_getElem] at h
    obtain ⟨h1, h2, _⟩ := h
    rw [any_at h1 (by simpa using h2), idxI]; simp
theorem svidx_p : PureC Tryd.prog UT 50 (gOf aSvIn fSvIdx) := by
  have hG := tNo_ok
  refine PureC.ofArgs aSvIn_inj Tryd.func50 body50 nm50 res50 ?_
  rintro ⟨l, ⟨c, p, s⟩⟩ hv
  refine ⟨by rw [nt50]; simp [aSvIn], fun C hN Q hQ => ?_⟩
  rw [nt50] at hN
  unfold c50
  replace hv : l.length ≤ 140737488355328 := hv
  refine aw_seq (aw_region (EF := EF0) hG (by rw [hN]; exact tr50_0) ?_)
  simp only [a50_0, go_sem, ↓reduceIte, Nat.reduceEqDiff, reduceCtorEq, Nat.reduceAdd, Nat.reduceLT, Nat.reduceLeDiff, Nat.reduceBNe, Nat.reduceBEq, Int.reduceToNat, aSvIn, Service.enc]
  refine aw_seq ?_
  refine aw_seq (aw_region (EF := EF0) hG (by rw [hN]; exact tr50_1) ?_)
  simp only [a50_1, go_sem, ↓reduceIte, Nat.reduceEqDiff, reduceCtorEq, Nat.reduceAdd, Nat.reduceLT, Nat.reduceLeDiff, Nat.reduceBNe, Nat.reduceBEq, Int.reduceToNat]
  refine aw_block ?_
  refine aw_loop (α := Nat) (fun i => (i ≤ l.length) ∧ (∀ z ∈ l.take i, svEq ⟨c, p, s⟩ z = false)) (fun i => ⟨mkE [(0, V.list (List.map Service.enc l) false), (3, V.ptr 3 0), (7, V.int IntKind.i64 ↑l.length), (8, .int .i64 i)], mkH [(3, Ob.box 37 [V.str c, V.int IntKind.i64 p, V.int IntKind.i64 s])]⟩) (fun i => l.length - i) 0 (by simp) ?_ ?_
  · refine Le.mk _ _ ?_ ?_ rfl <;> simp only [go_sem, ↓reduceIte, Nat.reduceEqDiff, reduceCtorEq, Nat.reduceAdd, Nat.reduceLT, Nat.reduceLeDiff, Nat.reduceBNe, Nat.reduceBEq, Int.reduceToNat] <;> (repeat' apply And.intro) <;> (try first | rfl | exact wk_frzb rfl rfl rfl | exact wk_fn rfl | exact .nilo _ _ _ rfl rfl)
  · rintro i ⟨hi, hp⟩ KL0 hKL0
    try dsimp only at *
    refine aw_seq (aw_region (EF := EF0) hG (by rw [hN]; exact tr50_2) ?_)
    simp only [a50_2, go_sem, ↓reduceIte, Nat.reduceEqDiff, reduceCtorEq, Nat.reduceAdd, Nat.reduceLT, Nat.reduceLeDiff, Nat.reduceBNe, Nat.reduceBEq, Int.reduceToNat]
    refine aw_seq ?_
    refine aw_cond (b := _) rfl (fun hc2 => ?_) (fun hc2 => ?_)
    · simp only [decide_eq_true_eq, decide_eq_false_iff_not, Bool.and_eq_true, Bool.or_eq_true, Bool.not_eq_true', Bool.not_eq_false', Bool.and_eq_false_iff, Bool.or_eq_false_iff, Int.ofNat_lt, Int.ofNat_le, Nat.not_lt, Nat.not_le, Int.not_lt, Int.not_le] at hc2
      refine aw_skip ?_
      simp only [go_sem, ↓reduceIte, Nat.reduceEqDiff, reduceCtorEq, Nat.reduceAdd, Nat.reduceLT, Nat.reduceLeDiff, Nat.reduceBNe, Nat.reduceBEq, Int.reduceToNat]
      refine aw_seq ?_
      refine aw_block ?_
      refine aw_seq (aw_region (EF := EF0) hG (by rw [hN]; exact tr50_3) ?_)
      simp only [a50_3, go_sem, ↓reduceIte, Nat.reduceEqDiff, reduceCtorEq, Nat.reduceAdd, Nat.reduceLT, Nat.reduceLeDiff, Nat.reduceBNe, Nat.reduceBEq, Int.reduceToNat]
      refine aw_seq (aw_regionD (EF := EF0) hG mixed (by rw [hN]; exact tr50_4) ok50_4 ?_)
      simp only [a50_4, d50_4, go_sem, ↓reduceIte, Nat.reduceEqDiff, reduceCtorEq, Nat.reduceAdd, Nat.reduceLT, Nat.reduceLeDiff, Nat.reduceBNe, Nat.reduceBEq, Int.reduceToNat, getD_mapd _ _ _ _ hc2, hc2, Service.enc]
      (repeat' apply And.intro) <;> (try first | omega | (intros; (repeat' apply And.intro) <;> first | assumption | omega | (simp_all; done)))
      refine aw_cond (b := _) rfl (fun hb => ?_) (fun hb => ?_)
      · skip
        refine aw_seq (aw_region (EF := EF0) hG (by rw [hN]; exact tr50_5) ?_)
        simp only [a50_5, go_sem, ↓reduceIte, Nat.reduceEqDiff, reduceCtorEq, Nat.reduceAdd, Nat.reduceLT, Nat.reduceLeDiff, Nat.reduceBNe, Nat.reduceBEq, Int.reduceToNat]
        refine aw_ret ?_
        show Q _ _
        refine hQ _ _ (.inl rfl) ?_ ?_ ?_ <;> simp only [outφ, outV, AR.res, go_sem, ↓reduceIte, Nat.reduceEqDiff, reduceCtorEq, Nat.reduceAdd, Nat.reduceLT, Nat.reduceLeDiff, Nat.reduceBNe, Nat.reduceBEq, Int.reduceToNat, fSvIdx]
        rw [svIdx_at hc2 hp hb, idxV, idxI]
      · skip
        refine aw_skip ?_
        simp only [go_sem, ↓reduceIte, Nat.reduceEqDiff, reduceCtorEq, Nat.reduceAdd, Nat.reduceLT, Nat.reduceLeDiff, Nat.reduceBNe, Nat.reduceBEq, Int.reduceToNat]
        refine aw_region (EF := EF0) hG (by rw [hN]; exact tr50_6) ?_
        simp only [a50_6, go_sem, ↓reduceIte, Nat.reduceEqDiff, reduceCtorEq, Nat.reduceAdd, Nat.reduceLT, Nat.reduceLeDiff, Nat.reduceBNe, Nat.reduceBEq, Int.reduceToNat, inI]
        (repeat' apply And.intro) <;> (try first | omega | (intros; (repeat' apply And.intro) <;> first | assumption | omega | (simp_all; done)))
        refine hKL0 (i + 1) _ ?_ ?_ ?_
        · (try dsimp only); exact ⟨hc2, take_all hc2 hp hb⟩
        · (try dsimp only); omega
        · refine Le.mk _ _ ?_ ?_ rfl <;> simp only [go_sem, ↓reduceIte, Nat.reduceEqDiff, reduceCtorEq, Nat.reduceAdd, Nat.reduceLT, Nat.reduceLeDiff, Nat.reduceBNe, Nat.reduceBEq, Int.reduceToNat] <;> (repeat' apply And.intro) <;> (try first | rfl | exact wk_frzb rfl rfl rfl | exact wk_fn rfl | exact .nilo _ _ _ rfl rfl)
    · simp only [decide_eq_true_eq, decide_eq_false_iff_not, Bool.and_eq_true, Bool.or_eq_true, Bool.not_eq_true', Bool.not_eq_false', Bool.and_eq_false_iff, Bool.or_eq_false_iff, Int.ofNat_lt, Int.ofNat_le, Nat.not_lt, Nat.not_le, Int.not_lt, Int.not_le] at hc2
      refine aw_exit ?_
      simp only [go_sem, ↓reduceIte, Nat.reduceEqDiff, reduceCtorEq, Nat.reduceAdd, Nat.reduceLT, Nat.reduceLeDiff, Nat.reduceBNe, Nat.reduceBEq, Int.reduceToNat]
      refine aw_seq (aw_region (EF := EF0) hG (by rw [hN]; exact tr50_7) ?_)
      simp only [a50_7, go_sem, ↓reduceIte, Nat.reduceEqDiff, reduceCtorEq, Nat.reduceAdd, Nat.reduceLT, Nat.reduceLeDiff, Nat.reduceBNe, Nat.reduceBEq, Int.reduceToNat]
      refine aw_ret ?_
      show Q _ _
      refine hQ _ _ (.inl rfl) ?_ ?_ ?_ <;> simp only [outφ, outV, AR.res, go_sem, ↓reduceIte, Nat.reduceEqDiff, reduceCtorEq, Nat.reduceAdd, Nat.reduceLT, Nat.reduceLeDiff, Nat.reduceBNe, Nat.reduceBEq, Int.reduceToNat, fSvIdx]
      rw [svIdx_no hc2 hp, idxV, idxI]
noncomputable def tSvC : Tab
  | 50 => (gOf aSvIn fSvIdx)
  | _ => gNo
theorem tSvC_ok : ∀ f, PureC Tryd.prog UT f (tSvC f) := fun f => by
  unfold tSvC
  split
  · exact svidx_p
  · exact PureC.no
theorem svcont_p : PureC Tryd.prog UT 34 (gOf aSvIn fSvIn) := by
  have hG := tSvC_ok
  refine PureC.ofArgs aSvIn_inj Tryd.func34 body34 nm34 res34 ?_
  rintro ⟨l, ⟨c, p, s⟩⟩ hv
  refine ⟨by rw [nt34]; simp [aSvIn], fun C hN Q hQ => ?_⟩
  rw [nt34] at hN
  unfold c34
  replace hv : l.length ≤ 140737488355328 := hv
  refine aw_seq (aw_region (EF := EF0) hG (by rw [hN]; exact tr34_0) ?_)
  simp only [a34_0, go_sem, ↓reduceIte, Nat.reduceEqDiff, reduceCtorEq, Nat.reduceAdd, Nat.reduceLT, Nat.reduceLeDiff, Nat.reduceBNe, Nat.reduceBEq, Int.reduceToNat, aSvIn, Service.enc]
  refine aw_seq (aw_region (EF := EF0) hG (by rw [hN]; exact tr34_1) ?_)
  simp only [a34_1, go_sem, ↓reduceIte, Nat.reduceEqDiff, reduceCtorEq, Nat.reduceAdd, Nat.reduceLT, Nat.reduceLeDiff, Nat.reduceBNe, Nat.reduceBEq, Int.reduceToNat, tSvC, fSvIdx_eq, hv, idxV, svIdx_in]
  (repeat' apply And.intro) <;> (try first | omega | (intros; (repeat' apply And.intro) <;> first | assumption | omega | (simp_all; done)))
  refine aw_ret ?_
  show Q _ _
  refine hQ _ _ (.inl rfl) ?_ ?_ ?_ <;> simp only [outφ, outV, AR.res, go_sem, ↓reduceIte, Nat.reduceEqDiff, reduceCtorEq, Nat.reduceAdd, Nat.reduceLT, Nat.reduceLeDiff, Nat.reduceBNe, Nat.reduceBEq, Int.reduceToNat, fSvIn]
end Go.Proofs.YtnlgkeiilenojaaDoor
