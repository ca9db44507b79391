/- Seats, Fits, Print of both; Check of both. -/
import Derived.Test.YtbakkdnhbeldcaaDoorPa2
namespace Go.Proofs.YtbakkdnhbeldcaaDoor
open Go Go.RowKit
set_option linter.unusedSimpArgs false
set_option linter.unusedVariables false
set_option linter.deprecated false
def fFits (l : List Person) : Prop × V := (l.length ≤ 140737488355328, .bool (!aloneB l))
theorem fFits_eq (l : List Person) : gOf aPers fFits [.list (l.map Person.enc) false] = (l.length ≤ 140737488355328, .bool (!aloneB l)) := gOf_eq aPers_inj l
theorem inf_step {l : List Person} {i : Nat} (h : i < l.length) : infN (l.take (i + 1)) = infN (l.take i) + (if infB l[i] = true then 1 else 0) := by
  unfold infN
  split
  · rename_i c; rw [cnt_t h c]
  · rename_i c; rw [cnt_f h (Bool.eq_false_iff.2 c)]; rfl
theorem ad_step {l : List Person} {i : Nat} (h : i < l.length) : adN (l.take (i + 1)) = adN (l.take i) + (if adB l[i] = true then 1 else 0) := by
  unfold adN
  split
  · rename_i c; rw [cnt_t h c]
  · rename_i c; rw [cnt_f h (Bool.eq_false_iff.2 c)]; rfl
theorem infN_le (l : List Person) (i : Nat) : infN (l.take i) ≤ i := by
  have := List.length_filter_le infB (l.take i)
  unfold infN; rw [List.length_take] at this; omega
theorem adN_le (l : List Person) (i : Nat) : adN (l.take i) ≤ i := by
  have := List.length_filter_le adB (l.take i)
  unfold adN; rw [List.length_take] at this; omega
theorem fits_alone (l : List Person) : decide ((infN l : Int) ≤ (adN l : Int)) = !aloneB l := by
  unfold aloneB
  rw [← decide_not]; exact decide_eq_decide.2 (by omega)
theorem fits_aloneN (l : List Person) : decide (infN l ≤ adN l) = !aloneB l := by rw [← fits_alone]; exact decide_eq_decide.2 (by omega)
set_option maxHeartbeats 2000000 in
theorem rfits_p : PureC Tryd.prog UT 32 (gOf aPers fFits) := by
  have hG := tNo_ok
  refine PureC.ofArgs aPers_inj Tryd.func32 body32 nm32 res32 ?_
  rintro l hv
  refine ⟨by rw [nt32]; simp [aPers], fun C hN Q hQ => ?_⟩
  rw [nt32] at hN
  unfold c32
  replace hv : l.length ≤ 140737488355328 := hv
  refine aw_seq (aw_region (EF := EF0) hG (by rw [hN]; exact tr32_0) ?_)
  simp only [a32_0, go_sem, ↓reduceIte, Nat.reduceEqDiff, reduceCtorEq, Nat.reduceAdd, Nat.reduceLT, Nat.reduceLeDiff, Nat.reduceBNe, Nat.reduceBEq, Int.reduceToNat, aPers]
  refine aw_seq (aw_region (EF := EF0) hG (by rw [hN]; exact tr32_1) ?_)
  simp only [a32_1, go_sem, ↓reduceIte, Nat.reduceEqDiff, reduceCtorEq, Nat.reduceAdd, Nat.reduceLT, Nat.reduceLeDiff, Nat.reduceBNe, Nat.reduceBEq, Int.reduceToNat]
  refine aw_seq ?_
  refine aw_seq (aw_region (EF := EF0) hG (by rw [hN]; exact tr32_2) ?_)
  simp only [a32_2, go_sem, ↓reduceIte, Nat.reduceEqDiff, reduceCtorEq, Nat.reduceAdd, Nat.reduceLT, Nat.reduceLeDiff, Nat.reduceBNe, Nat.reduceBEq, Int.reduceToNat]
  refine aw_block ?_
  refine aw_loop (α := Nat) (fun i => (i ≤ l.length)) (fun i => ⟨mkE [(0, V.list (List.map Person.enc l) false), (3, .int .i64 ((infN (l.take i) : Nat) : Int)), (4, .int .i64 ((adN (l.take i) : Nat) : Int)), (5, .int .i64 i)], mkH []⟩) (fun i => l.length - i) 0 (by simp) ?_ ?_
  · refine Le.mk _ _ ?_ ?_ rfl <;> simp only [go_sem, ↓reduceIte, Nat.reduceEqDiff, reduceCtorEq, Nat.reduceAdd, Nat.reduceLT, Nat.reduceLeDiff, Nat.reduceBNe, Nat.reduceBEq, Int.reduceToNat] <;> (repeat' apply And.intro) <;> (try first | rfl | exact wk_frzb rfl rfl rfl | exact wk_fn rfl | exact .nilo _ _ _ rfl rfl)
  · rintro i hi KL0 hKL0
    try dsimp only at *
    refine aw_seq ?_
    refine aw_seq (aw_region (EF := EF0) hG (by rw [hN]; exact tr32_3) ?_)
    simp only [a32_3, go_sem, ↓reduceIte, Nat.reduceEqDiff, reduceCtorEq, Nat.reduceAdd, Nat.reduceLT, Nat.reduceLeDiff, Nat.reduceBNe, Nat.reduceBEq, Int.reduceToNat]
    refine aw_cond (b := _) rfl (fun hc3 => ?_) (fun hc3 => ?_)
    · simp only [decide_eq_true_eq, decide_eq_false_iff_not, Bool.and_eq_true, Bool.or_eq_true, Bool.not_eq_true', Bool.not_eq_false', Bool.and_eq_false_iff, Bool.or_eq_false_iff, Int.ofNat_lt, Int.ofNat_le, Nat.not_lt, Nat.not_le, Int.not_lt, Int.not_le] at hc3
      refine aw_skip ?_
      try simp only [go_sem, ↓reduceIte, Nat.reduceEqDiff, reduceCtorEq, Nat.reduceAdd, Nat.reduceLT, Nat.reduceLeDiff, Nat.reduceBNe, Nat.reduceBEq, Int.reduceToNat]
      refine aw_seq ?_
      refine aw_block ?_
      have hs1 := inf_step hc3
      have hs2 := ad_step hc3
      have hb1 := infN_le l i
      have hb2 := adN_le l i
      generalize infN (l.take i) = n1 at hs1 hb1
      generalize adN (l.take i) = n2 at hs2 hb2
      generalize hxx : l[i] = x at hs1 hs2
      obtain ⟨a, b, c⟩ := x
      have ed : adB ⟨a, b, c⟩ = (!infB ⟨a, b, c⟩ && !decide (c = [67, 72, 68])) := rfl
      have ei : decide (c = [73, 78, 70]) = infB ⟨a, b, c⟩ := rfl
      refine aw_seq (aw_region (EF := EF0) hG (by rw [hN]; exact tr32_5) ?_)
      simp only [a32_5, go_sem, ↓reduceIte, Nat.reduceEqDiff, reduceCtorEq, Nat.reduceAdd, Nat.reduceLT, Nat.reduceLeDiff, Nat.reduceBNe, Nat.reduceBEq, Int.reduceToNat, getD_mapd _ _ _ _ hc3, hc3, hxx, Person.enc, ei]
      (repeat' apply And.intro) <;> (try first | omega | (intros; (repeat' apply And.intro) <;> first | assumption | omega | (simp_all; done)))
      refine aw_cond (b := _) rfl (fun hb5 => ?_) (fun hb5 => ?_)
      · skip
        rw [hb5] at hs1 ed
        refine aw_region (EF := EF0) hG (by rw [hN]; exact tr32_6) ?_
        simp only [a32_6, go_sem, ↓reduceIte, Nat.reduceEqDiff, reduceCtorEq, Nat.reduceAdd, Nat.reduceLT, Nat.reduceLeDiff, Nat.reduceBNe, Nat.reduceBEq, Int.reduceToNat, inI]
        (repeat' apply And.intro) <;> (try first | omega | (intros; (repeat' apply And.intro) <;> first | assumption | omega | (simp_all; done)))
        refine aw_region (EF := EF0) hG (by rw [hN]; exact tr32_4) ?_
        simp only [a32_4, go_sem, ↓reduceIte, Nat.reduceEqDiff, reduceCtorEq, Nat.reduceAdd, Nat.reduceLT, Nat.reduceLeDiff, Nat.reduceBNe, Nat.reduceBEq, Int.reduceToNat, inI]
        (repeat' apply And.intro) <;> (try first | omega | (intros; (repeat' apply And.intro) <;> first | assumption | omega | (simp_all; done)))
        refine hKL0 (i + 1) _ ?_ ?_ ?_
        · (try dsimp only); exact hc3
        · (try dsimp only); omega
        · refine Le.mk _ _ ?_ ?_ rfl <;> simp only [go_sem, ↓reduceIte, Nat.reduceEqDiff, reduceCtorEq, Nat.reduceAdd, Nat.reduceLT, Nat.reduceLeDiff, Nat.reduceBNe, Nat.reduceBEq, Int.reduceToNat, hs1, hs2, ed, Bool.not_true, Bool.false_and, Bool.false_eq_true, if_false, if_true, Nat.add_zero, cast_succ] <;> (repeat' apply And.intro) <;> (try first | rfl | exact wk_frzb rfl rfl rfl | exact wk_fn rfl | exact .nilo _ _ _ rfl rfl)
      · skip
        rw [hb5] at hs1 ed
        refine aw_seq (aw_region (EF := EF0) hG (by rw [hN]; exact tr32_7) ?_)
        simp only [a32_7, go_sem, ↓reduceIte, Nat.reduceEqDiff, reduceCtorEq, Nat.reduceAdd, Nat.reduceLT, Nat.reduceLeDiff, Nat.reduceBNe, Nat.reduceBEq, Int.reduceToNat, getD_mapd _ _ _ _ hc3, hc3, hxx, Person.enc]
        (repeat' apply And.intro) <;> (try first | omega | (intros; (repeat' apply And.intro) <;> first | assumption | omega | (simp_all; done)))
        refine aw_cond (b := _) rfl (fun hb7 => ?_) (fun hb7 => ?_)
        · skip
          rw [hb7] at ed
          refine aw_region (EF := EF0) hG (by rw [hN]; exact tr32_8) ?_
          simp only [a32_8, go_sem, ↓reduceIte, Nat.reduceEqDiff, reduceCtorEq, Nat.reduceAdd, Nat.reduceLT, Nat.reduceLeDiff, Nat.reduceBNe, Nat.reduceBEq, Int.reduceToNat, inI]
          (repeat' apply And.intro) <;> (try first | omega | (intros; (repeat' apply And.intro) <;> first | assumption | omega | (simp_all; done)))
          refine aw_region (EF := EF0) hG (by rw [hN]; exact tr32_4) ?_
          simp only [a32_4, go_sem, ↓reduceIte, Nat.reduceEqDiff, reduceCtorEq, Nat.reduceAdd, Nat.reduceLT, Nat.reduceLeDiff, Nat.reduceBNe, Nat.reduceBEq, Int.reduceToNat, inI]
          (repeat' apply And.intro) <;> (try first | omega | (intros; (repeat' apply And.intro) <;> first | assumption | omega | (simp_all; done)))
          refine hKL0 (i + 1) _ ?_ ?_ ?_
          · (try dsimp only); exact hc3
          · (try dsimp only); omega
          · refine Le.mk _ _ ?_ ?_ rfl <;> simp only [go_sem, ↓reduceIte, Nat.reduceEqDiff, reduceCtorEq, Nat.reduceAdd, Nat.reduceLT, Nat.reduceLeDiff, Nat.reduceBNe, Nat.reduceBEq, Int.reduceToNat, hs1, hs2, ed, Bool.not_false, Bool.true_and, Bool.false_eq_true, if_false, if_true, Nat.add_zero, cast_succ] <;> (repeat' apply And.intro) <;> (try first | rfl | exact wk_frzb rfl rfl rfl | exact wk_fn rfl | exact .nilo _ _ _ rfl rfl)
        · skip
          rw [hb7] at ed
          refine aw_skip ?_
          try simp only [go_sem, ↓reduceIte, Nat.reduceEqDiff, reduceCtorEq, Nat.reduceAdd, Nat.reduceLT, Nat.reduceLeDiff, Nat.reduceBNe, Nat.reduceBEq, Int.reduceToNat]
          refine aw_region (EF := EF0) hG (by rw [hN]; exact tr32_4) ?_
          simp only [a32_4, go_sem, ↓reduceIte, Nat.reduceEqDiff, reduceCtorEq, Nat.reduceAdd, Nat.reduceLT, Nat.reduceLeDiff, Nat.reduceBNe, Nat.reduceBEq, Int.reduceToNat, inI]
          (repeat' apply And.intro) <;> (try first | omega | (intros; (repeat' apply And.intro) <;> first | assumption | omega | (simp_all; done)))
          refine hKL0 (i + 1) _ ?_ ?_ ?_
          · (try dsimp only); exact hc3
          · (try dsimp only); omega
          · refine Le.mk _ _ ?_ ?_ rfl <;> simp only [go_sem, ↓reduceIte, Nat.reduceEqDiff, reduceCtorEq, Nat.reduceAdd, Nat.reduceLT, Nat.reduceLeDiff, Nat.reduceBNe, Nat.reduceBEq, Int.reduceToNat, hs1, hs2, ed, Bool.not_false, Bool.and_false, Bool.false_eq_true, if_false, if_true, Nat.add_zero, cast_succ] <;> (repeat' apply And.intro) <;> (try first | rfl | exact wk_frzb rfl rfl rfl | exact wk_fn rfl | exact .nilo _ _ _ rfl rfl)
    · simp only [decide_eq_true_eq, decide_eq_false_iff_not, Bool.and_eq_true, Bool.or_eq_true, Bool.not_eq_true', Bool.not_eq_false', Bool.and_eq_false_iff, Bool.or_eq_false_iff, Int.ofNat_lt, Int.ofNat_le, Nat.not_lt, Nat.not_le, Int.not_lt, Int.not_le] at hc3
      refine aw_exit ?_
      simp only [go_sem, ↓reduceIte, Nat.reduceEqDiff, reduceCtorEq, Nat.reduceAdd, Nat.reduceLT, Nat.reduceLeDiff, Nat.reduceBNe, Nat.reduceBEq, Int.reduceToNat]
      refine aw_seq (aw_region (EF := EF0) hG (by rw [hN]; exact tr32_9) ?_)
      simp only [a32_9, go_sem, ↓reduceIte, Nat.reduceEqDiff, reduceCtorEq, Nat.reduceAdd, Nat.reduceLT, Nat.reduceLeDiff, Nat.reduceBNe, Nat.reduceBEq, Int.reduceToNat, List.take_of_length_le hc3]
      refine aw_ret ?_
      show Q _ _
      refine hQ _ _ (.inl rfl) ?_ ?_ ?_ <;> simp only [outφ, outV, AR.res, go_sem, ↓reduceIte, Nat.reduceEqDiff, reduceCtorEq, Nat.reduceAdd, Nat.reduceLT, Nat.reduceLeDiff, Nat.reduceBNe, Nat.reduceBEq, Int.reduceToNat, fFits]
      exact congrArg V.bool (fits_aloneN l)
/-! Seats. -/
def aSea (x : List Person × Int) : List V := [.list (x.1.map Person.enc) false, .int .i64 x.2]
theorem aSea_inj (a b : List Person × Int) (h : aSea a = aSea b) : a = b := by
  obtain ⟨a_l, a_g⟩ := a
  obtain ⟨b_l, b_g⟩ := b
  simp only [aSea, List.cons.injEq, V.str.injEq, V.int.injEq, V.bool.injEq, V.agg.injEq, V.list.injEq, and_true, true_and] at h
  obtain ⟨h0, h1⟩ := h
  replace h0 := map_inj' Person.inj h0
  subst h0
  subst h1
  rfl
def grpN (g : Int) : Int := min (max g 0) 99
def seatsN (l : List Person) (g : Int) : Int := grpN g + ((l.length : Int) - (infN l : Int))
def fSeats (x : List Person × Int) : Prop × V := (x.1.length ≤ 140737488355328, .int .i64 (seatsN x.1 x.2))
theorem fSeats_eq (l : List Person) (g : Int) : gOf aSea fSeats [.list (l.map Person.enc) false, .int .i64 g] = (l.length ≤ 140737488355328, .int .i64 (seatsN l g)) := gOf_eq aSea_inj (l, g)
theorem seats_step {l : List Person} {i : Nat} (h : i < l.length) (g : Int) : seatsN (l.take (i + 1)) g = seatsN (l.take i) g + (if infB l[i] = true then 0 else 1) := by
  unfold seatsN
  rw [inf_step h, List.length_take, List.length_take]
  split <;> omega
theorem seats_bd (l : List Person) (i : Nat) (g : Int) : 0 ≤ seatsN (l.take i) g ∧ seatsN (l.take i) g ≤ 99 + i := by
  have h1 : infN (l.take i) ≤ (l.take i).length := List.length_filter_le _ _
  unfold seatsN grpN; rw [List.length_take] at *; omega
theorem seats_nil (g : Int) : seatsN [] g = grpN g := by unfold seatsN infN; simp
noncomputable def tSe : Tab
  | 33 => (gOf aPer fInf)
  | _ => gNo
theorem tSe_ok : ∀ f, PureC Tryd.prog UT f (tSe f) := fun f => by
  unfold tSe
  split
  · exact infant_p
  · exact PureC.no
set_option maxHeartbeats 2000000 in
theorem seats_p : PureC Tryd.prog UT 13 (gOf aSea fSeats) := by
  have hG := tSe_ok
  refine PureC.ofArgs aSea_inj Tryd.func13 body13 nm13 res13 ?_
  rintro ⟨l, g⟩ hv
  refine ⟨by rw [nt13]; simp [aSea], fun C hN Q hQ => ?_⟩
  rw [nt13] at hN
  unfold c13
  replace hv : l.length ≤ 140737488355328 := hv
  refine aw_seq (aw_region (EF := EF0) hG (by rw [hN]; exact tr13_0) ?_)
  simp only [a13_0, go_sem, ↓reduceIte, Nat.reduceEqDiff, reduceCtorEq, Nat.reduceAdd, Nat.reduceLT, Nat.reduceLeDiff, Nat.reduceBNe, Nat.reduceBEq, Int.reduceToNat, aSea, tSe, fInf_eq]
  refine aw_seq (aw_region (EF := EF0) hG (by rw [hN]; exact tr13_1) ?_)
  simp only [a13_1, go_sem, ↓reduceIte, Nat.reduceEqDiff, reduceCtorEq, Nat.reduceAdd, Nat.reduceLT, Nat.reduceLeDiff, Nat.reduceBNe, Nat.reduceBEq, Int.reduceToNat, tSe, fInf_eq]
  refine aw_seq ?_
  refine aw_seq (aw_region (EF := EF0) hG (by rw [hN]; exact tr13_2) ?_)
  simp only [a13_2, go_sem, ↓reduceIte, Nat.reduceEqDiff, reduceCtorEq, Nat.reduceAdd, Nat.reduceLT, Nat.reduceLeDiff, Nat.reduceBNe, Nat.reduceBEq, Int.reduceToNat, tSe, fInf_eq]
  refine aw_block ?_
  refine aw_loop (α := Nat) (fun i => (i ≤ l.length)) (fun i => ⟨mkE [(5, .int .i64 (seatsN (l.take i) g)), (11, V.list (List.map Person.enc l) false), (12, V.int IntKind.i64 ↑l.length), (13, .int .i64 i)], mkH []⟩) (fun i => l.length - i) 0 (by simp) ?_ ?_
  · refine Le.mk _ _ ?_ ?_ rfl <;> simp only [go_sem, ↓reduceIte, Nat.reduceEqDiff, reduceCtorEq, Nat.reduceAdd, Nat.reduceLT, Nat.reduceLeDiff, Nat.reduceBNe, Nat.reduceBEq, Int.reduceToNat, List.take_zero, seats_nil, grpN] <;> (repeat' apply And.intro) <;> (try first | rfl | exact wk_frzb rfl rfl rfl | exact wk_fn rfl | exact .nilo _ _ _ rfl rfl)
  · rintro i hi KL0 hKL0
    try dsimp only at *
    refine aw_seq (aw_region (EF := EF0) hG (by rw [hN]; exact tr13_3) ?_)
    simp only [a13_3, go_sem, ↓reduceIte, Nat.reduceEqDiff, reduceCtorEq, Nat.reduceAdd, Nat.reduceLT, Nat.reduceLeDiff, Nat.reduceBNe, Nat.reduceBEq, Int.reduceToNat, tSe, fInf_eq]
    refine aw_seq ?_
    refine aw_cond (b := _) rfl (fun hc3 => ?_) (fun hc3 => ?_)
    · simp only [decide_eq_true_eq, decide_eq_false_iff_not, Bool.and_eq_true, Bool.or_eq_true, Bool.not_eq_true', Bool.not_eq_false', Bool.and_eq_false_iff, Bool.or_eq_false_iff, Int.ofNat_lt, Int.ofNat_le, Nat.not_lt, Nat.not_le, Int.not_lt, Int.not_le] at hc3
      refine aw_skip ?_
      try simp only [go_sem, ↓reduceIte, Nat.reduceEqDiff, reduceCtorEq, Nat.reduceAdd, Nat.reduceLT, Nat.reduceLeDiff, Nat.reduceBNe, Nat.reduceBEq, Int.reduceToNat]
      refine aw_seq ?_
      refine aw_block ?_
      have hst := seats_step hc3 g
      have hbd := seats_bd l i g
      generalize seatsN (l.take i) g = n at hst hbd
      generalize hxx : l[i] = x at hst
      obtain ⟨a, b, c⟩ := x
      refine aw_seq (aw_region (EF := EF0) hG (by rw [hN]; exact tr13_4) ?_)
      simp only [a13_4, go_sem, ↓reduceIte, Nat.reduceEqDiff, reduceCtorEq, Nat.reduceAdd, Nat.reduceLT, Nat.reduceLeDiff, Nat.reduceBNe, Nat.reduceBEq, Int.reduceToNat, getD_mapd _ _ _ _ hc3, hc3, hxx, Person.enc, tSe, fInf_eq]
      (repeat' apply And.intro) <;> (try first | omega | (intros; (repeat' apply And.intro) <;> first | assumption | omega | (simp_all; done)))
      refine aw_seq (aw_region (EF := EF0) hG (by rw [hN]; exact tr13_5) ?_)
      simp only [a13_5, go_sem, ↓reduceIte, Nat.reduceEqDiff, reduceCtorEq, Nat.reduceAdd, Nat.reduceLT, Nat.reduceLeDiff, Nat.reduceBNe, Nat.reduceBEq, Int.reduceToNat, tSe, fInf_eq]
      (repeat' apply And.intro) <;> (try first | omega | (intros; (repeat' apply And.intro) <;> first | assumption | omega | (simp_all; done)))
      refine aw_cond (b := _) rfl (fun hb5 => ?_) (fun hb5 => ?_)
      · skip
        refine aw_region (EF := EF0) hG (by rw [hN]; exact tr13_6) ?_
        simp only [a13_6, go_sem, ↓reduceIte, Nat.reduceEqDiff, reduceCtorEq, Nat.reduceAdd, Nat.reduceLT, Nat.reduceLeDiff, Nat.reduceBNe, Nat.reduceBEq, Int.reduceToNat, inI, tSe, fInf_eq]
        (repeat' apply And.intro) <;> (try first | omega | (intros; (repeat' apply And.intro) <;> first | assumption | omega | (simp_all; done)))
        refine aw_region (EF := EF0) hG (by rw [hN]; exact tr13_7) ?_
        simp only [a13_7, go_sem, ↓reduceIte, Nat.reduceEqDiff, reduceCtorEq, Nat.reduceAdd, Nat.reduceLT, Nat.reduceLeDiff, Nat.reduceBNe, Nat.reduceBEq, Int.reduceToNat, inI, tSe, fInf_eq]
        (repeat' apply And.intro) <;> (try first | omega | (intros; (repeat' apply And.intro) <;> first | assumption | omega | (simp_all; done)))
        refine hKL0 (i + 1) _ ?_ ?_ ?_
        · (try dsimp only); exact hc3
        · (try dsimp only); omega
        · refine Le.mk _ _ ?_ ?_ rfl <;> simp only [go_sem, ↓reduceIte, Nat.reduceEqDiff, reduceCtorEq, Nat.reduceAdd, Nat.reduceLT, Nat.reduceLeDiff, Nat.reduceBNe, Nat.reduceBEq, Int.reduceToNat, hst, (by simpa using hb5 : infB ⟨a, b, c⟩ = false), Bool.false_eq_true, if_false] <;> (repeat' apply And.intro) <;> (try first | rfl | exact wk_frzb rfl rfl rfl | exact wk_fn rfl | exact .nilo _ _ _ rfl rfl)
      · skip
        refine aw_skip ?_
        try simp only [go_sem, ↓reduceIte, Nat.reduceEqDiff, reduceCtorEq, Nat.reduceAdd, Nat.reduceLT, Nat.reduceLeDiff, Nat.reduceBNe, Nat.reduceBEq, Int.reduceToNat]
        refine aw_region (EF := EF0) hG (by rw [hN]; exact tr13_7) ?_
        simp only [a13_7, go_sem, ↓reduceIte, Nat.reduceEqDiff, reduceCtorEq, Nat.reduceAdd, Nat.reduceLT, Nat.reduceLeDiff, Nat.reduceBNe, Nat.reduceBEq, Int.reduceToNat, inI, tSe, fInf_eq]
        (repeat' apply And.intro) <;> (try first | omega | (intros; (repeat' apply And.intro) <;> first | assumption | omega | (simp_all; done)))
        refine hKL0 (i + 1) _ ?_ ?_ ?_
        · (try dsimp only); exact hc3
        · (try dsimp only); omega
        · refine Le.mk _ _ ?_ ?_ rfl <;> simp only [go_sem, ↓reduceIte, Nat.reduceEqDiff, reduceCtorEq, Nat.reduceAdd, Nat.reduceLT, Nat.reduceLeDiff, Nat.reduceBNe, Nat.reduceBEq, Int.reduceToNat, hst, (by simpa using hb5 : infB ⟨a, b, c⟩ = true), if_true, Int.add_zero] <;> (repeat' apply And.intro) <;> (try first | rfl | exact wk_frzb rfl rfl rfl | exact wk_fn rfl | exact .nilo _ _ _ rfl rfl)
    · simp only [decide_eq_true_eq, decide_eq_false_iff_not, Bool.and_eq_true, Bool.or_eq_true, Bool.not_eq_true', Bool.not_eq_false', Bool.and_eq_false_iff, Bool.or_eq_false_iff, Int.ofNat_lt, Int.ofNat_le, Nat.not_lt, Nat.not_le, Int.not_lt, Int.not_le] at hc3
      refine aw_exit ?_
      simp only [go_sem, ↓reduceIte, Nat.reduceEqDiff, reduceCtorEq, Nat.reduceAdd, Nat.reduceLT, Nat.reduceLeDiff, Nat.reduceBNe, Nat.reduceBEq, Int.reduceToNat]
      refine aw_seq (aw_region (EF := EF0) hG (by rw [hN]; exact tr13_8) ?_)
      simp only [a13_8, go_sem, ↓reduceIte, Nat.reduceEqDiff, reduceCtorEq, Nat.reduceAdd, Nat.reduceLT, Nat.reduceLeDiff, Nat.reduceBNe, Nat.reduceBEq, Int.reduceToNat, List.take_of_length_le hc3, tSe, fInf_eq]
      refine aw_ret ?_
      show Q _ _
      refine hQ _ _ (.inl rfl) ?_ ?_ ?_ <;> simp only [outφ, outV, AR.res, go_sem, ↓reduceIte, Nat.reduceEqDiff, reduceCtorEq, Nat.reduceAdd, Nat.reduceLT, Nat.reduceLeDiff, Nat.reduceBNe, Nat.reduceBEq, Int.reduceToNat, fSeats]
set_option maxHeartbeats 2000000 in
theorem rseats_p : PureC Tryd.prog UT 14 (gOf aSea fSeats) := by
  have hG := tNo_ok
  refine PureC.ofArgs aSea_inj Tryd.func14 body14 nm14 res14 ?_
  rintro ⟨l, g⟩ hv
  refine ⟨by rw [nt14]; simp [aSea], fun C hN Q hQ => ?_⟩
  rw [nt14] at hN
  unfold c14
  replace hv : l.length ≤ 140737488355328 := hv
  refine aw_seq (aw_region (EF := EF0) hG (by rw [hN]; exact tr14_0) ?_)
  simp only [a14_0, go_sem, ↓reduceIte, Nat.reduceEqDiff, reduceCtorEq, Nat.reduceAdd, Nat.reduceLT, Nat.reduceLeDiff, Nat.reduceBNe, Nat.reduceBEq, Int.reduceToNat, aSea]
  refine aw_seq (aw_region (EF := EF0) hG (by rw [hN]; exact tr14_1) ?_)
  simp only [a14_1, go_sem, ↓reduceIte, Nat.reduceEqDiff, reduceCtorEq, Nat.reduceAdd, Nat.reduceLT, Nat.reduceLeDiff, Nat.reduceBNe, Nat.reduceBEq, Int.reduceToNat]
  refine aw_seq ?_
  refine aw_seq (aw_region (EF := EF0) hG (by rw [hN]; exact tr14_2) ?_)
  simp only [a14_2, go_sem, ↓reduceIte, Nat.reduceEqDiff, reduceCtorEq, Nat.reduceAdd, Nat.reduceLT, Nat.reduceLeDiff, Nat.reduceBNe, Nat.reduceBEq, Int.reduceToNat]
  refine aw_block ?_
  refine aw_loop (α := Nat) (fun i => (i ≤ l.length)) (fun i => ⟨mkE [(0, V.list (List.map Person.enc l) false), (5, .int .i64 (seatsN (l.take i) g)), (6, .int .i64 i)], mkH []⟩) (fun i => l.length - i) 0 (by simp) ?_ ?_
  · refine Le.mk _ _ ?_ ?_ rfl <;> simp only [go_sem, ↓reduceIte, Nat.reduceEqDiff, reduceCtorEq, Nat.reduceAdd, Nat.reduceLT, Nat.reduceLeDiff, Nat.reduceBNe, Nat.reduceBEq, Int.reduceToNat, List.take_zero, seats_nil, grpN] <;> (repeat' apply And.intro) <;> (try first | rfl | exact wk_frzb rfl rfl rfl | exact wk_fn rfl | exact .nilo _ _ _ rfl rfl)
  · rintro i hi KL0 hKL0
    try dsimp only at *
    refine aw_seq ?_
    refine aw_seq (aw_region (EF := EF0) hG (by rw [hN]; exact tr14_3) ?_)
    simp only [a14_3, go_sem, ↓reduceIte, Nat.reduceEqDiff, reduceCtorEq, Nat.reduceAdd, Nat.reduceLT, Nat.reduceLeDiff, Nat.reduceBNe, Nat.reduceBEq, Int.reduceToNat]
    refine aw_cond (b := _) rfl (fun hc3 => ?_) (fun hc3 => ?_)
    · simp only [decide_eq_true_eq, decide_eq_false_iff_not, Bool.and_eq_true, Bool.or_eq_true, Bool.not_eq_true', Bool.not_eq_false', Bool.and_eq_false_iff, Bool.or_eq_false_iff, Int.ofNat_lt, Int.ofNat_le, Nat.not_lt, Nat.not_le, Int.not_lt, Int.not_le] at hc3
      refine aw_skip ?_
      try simp only [go_sem, ↓reduceIte, Nat.reduceEqDiff, reduceCtorEq, Nat.reduceAdd, Nat.reduceLT, Nat.reduceLeDiff, Nat.reduceBNe, Nat.reduceBEq, Int.reduceToNat]
      refine aw_seq ?_
      refine aw_block ?_
      have hst := seats_step hc3 g
      have hbd := seats_bd l i g
      generalize seatsN (l.take i) g = n at hst hbd
      generalize hxx : l[i] = x at hst
      obtain ⟨a, b, c⟩ := x
      have ei : decide (c = [73, 78, 70]) = infB ⟨a, b, c⟩ := rfl
      refine aw_seq (aw_region (EF := EF0) hG (by rw [hN]; exact tr14_5) ?_)
      simp only [a14_5, go_sem, ↓reduceIte, Nat.reduceEqDiff, reduceCtorEq, Nat.reduceAdd, Nat.reduceLT, Nat.reduceLeDiff, Nat.reduceBNe, Nat.reduceBEq, Int.reduceToNat, getD_mapd _ _ _ _ hc3, hc3, hxx, Person.enc, ei]
      (repeat' apply And.intro) <;> (try first | omega | (intros; (repeat' apply And.intro) <;> first | assumption | omega | (simp_all; done)))
      refine aw_cond (b := _) rfl (fun hb5 => ?_) (fun hb5 => ?_)
      · skip
        refine aw_region (EF := EF0) hG (by rw [hN]; exact tr14_6) ?_
        simp only [a14_6, go_sem, ↓reduceIte, Nat.reduceEqDiff, reduceCtorEq, Nat.reduceAdd, Nat.reduceLT, Nat.reduceLeDiff, Nat.reduceBNe, Nat.reduceBEq, Int.reduceToNat, inI]
        (repeat' apply And.intro) <;> (try first | omega | (intros; (repeat' apply And.intro) <;> first | assumption | omega | (simp_all; done)))
        refine aw_region (EF := EF0) hG (by rw [hN]; exact tr14_4) ?_
        simp only [a14_4, go_sem, ↓reduceIte, Nat.reduceEqDiff, reduceCtorEq, Nat.reduceAdd, Nat.reduceLT, Nat.reduceLeDiff, Nat.reduceBNe, Nat.reduceBEq, Int.reduceToNat, inI]
        (repeat' apply And.intro) <;> (try first | omega | (intros; (repeat' apply And.intro) <;> first | assumption | omega | (simp_all; done)))
        refine hKL0 (i + 1) _ ?_ ?_ ?_
        · (try dsimp only); exact hc3
        · (try dsimp only); omega
        · refine Le.mk _ _ ?_ ?_ rfl <;> simp only [go_sem, ↓reduceIte, Nat.reduceEqDiff, reduceCtorEq, Nat.reduceAdd, Nat.reduceLT, Nat.reduceLeDiff, Nat.reduceBNe, Nat.reduceBEq, Int.reduceToNat, hst, (by simpa using hb5 : infB ⟨a, b, c⟩ = false), Bool.false_eq_true, if_false] <;> (repeat' apply And.intro) <;> (try first | rfl | exact wk_frzb rfl rfl rfl | exact wk_fn rfl | exact .nilo _ _ _ rfl rfl)
      · skip
        refine aw_skip ?_
        try simp only [go_sem, ↓reduceIte, Nat.reduceEqDiff, reduceCtorEq, Nat.reduceAdd, Nat.reduceLT, Nat.reduceLeDiff, Nat.reduceBNe, Nat.reduceBEq, Int.reduceToNat]
        refine aw_region (EF := EF0) hG (by rw [hN]; exact tr14_4) ?_
        simp only [a14_4, go_sem, ↓reduceIte, Nat.reduceEqDiff, reduceCtorEq, Nat.reduceAdd, Nat.reduceLT, Nat.reduceLeDiff, Nat.reduceBNe, Nat.reduceBEq, Int.reduceToNat, inI]
        (repeat' apply And.intro) <;> (try first | omega | (intros; (repeat' apply And.intro) <;> first | assumption | omega | (simp_all; done)))
        refine hKL0 (i + 1) _ ?_ ?_ ?_
        · (try dsimp only); exact hc3
        · (try dsimp only); omega
        · refine Le.mk _ _ ?_ ?_ rfl <;> simp only [go_sem, ↓reduceIte, Nat.reduceEqDiff, reduceCtorEq, Nat.reduceAdd, Nat.reduceLT, Nat.reduceLeDiff, Nat.reduceBNe, Nat.reduceBEq, Int.reduceToNat, hst, (by simpa using hb5 : infB ⟨a, b, c⟩ = true), if_true, Int.add_zero] <;> (repeat' apply And.intro) <;> (try first | rfl | exact wk_frzb rfl rfl rfl | exact wk_fn rfl | exact .nilo _ _ _ rfl rfl)
    · simp only [decide_eq_true_eq, decide_eq_false_iff_not, Bool.and_eq_true, Bool.or_eq_true, Bool.not_eq_true', Bool.not_eq_false', Bool.and_eq_false_iff, Bool.or_eq_false_iff, Int.ofNat_lt, Int.ofNat_le, Nat.not_lt, Nat.not_le, Int.not_lt, Int.not_le] at hc3
      refine aw_exit ?_
      simp only [go_sem, ↓reduceIte, Nat.reduceEqDiff, reduceCtorEq, Nat.reduceAdd, Nat.reduceLT, Nat.reduceLeDiff, Nat.reduceBNe, Nat.reduceBEq, Int.reduceToNat]
      refine aw_seq (aw_region (EF := EF0) hG (by rw [hN]; exact tr14_7) ?_)
      simp only [a14_7, go_sem, ↓reduceIte, Nat.reduceEqDiff, reduceCtorEq, Nat.reduceAdd, Nat.reduceLT, Nat.reduceLeDiff, Nat.reduceBNe, Nat.reduceBEq, Int.reduceToNat, List.take_of_length_le hc3]
      refine aw_ret ?_
      show Q _ _
      refine hQ _ _ (.inl rfl) ?_ ?_ ?_ <;> simp only [outφ, outV, AR.res, go_sem, ↓reduceIte, Nat.reduceEqDiff, reduceCtorEq, Nat.reduceAdd, Nat.reduceLT, Nat.reduceLeDiff, Nat.reduceBNe, Nat.reduceBEq, Int.reduceToNat, fSeats]
/-! Print. -/
def prT (x : Person) : List UInt8 × Int := if namB x = true then (if typB x = true then (x.last ++ [47] ++ x.first ++ [32] ++ x.type', 0) else ([], 8)) else ([], 5)
def prV (y : List UInt8 × Int) : V := .tup [.str y.1, .int .i64 y.2]
def fPr (x : Person) : Prop × V := (x.last.length ≤ 1000000 ∧ x.first.length ≤ 1000000 ∧ x.type'.length ≤ 1000000, prV (prT x))
theorem fPr_eq (a b c) : gOf aPer fPr [.agg [.str a, .str b, .str c]] = (a.length ≤ 1000000 ∧ b.length ≤ 1000000 ∧ c.length ≤ 1000000, prV (prT ⟨a, b, c⟩)) := gOf_eq aPer_inj (⟨a, b, c⟩ : Person)
noncomputable def tPr : Tab
  | 26 => (gOf aPer fNam)
  | 27 => (gOf aPer fTyp)
  | _ => gNo
theorem tPr_ok : ∀ f, PureC Tryd.prog UT f (tPr f) := fun f => by
  unfold tPr
  split
  · exact named_p
  · exact typed_p
  · exact PureC.no
set_option maxHeartbeats 2000000 in
theorem print_p : PureC Tryd.prog UT 20 (gOf aPer fPr) := by
  have hG := tPr_ok
  refine PureC.ofArgs aPer_inj Tryd.func20 body20 nm20 res20 ?_
  rintro ⟨a, b, c⟩ hv
  refine ⟨by rw [nt20]; simp [aPer], fun C hN Q hQ => ?_⟩
  rw [nt20] at hN
  unfold c20
  obtain ⟨h1, h2, h3⟩ : a.length ≤ 1000000 ∧ b.length ≤ 1000000 ∧ c.length ≤ 1000000 := hv
  have hok : (⟨a, b, c⟩ : Person).ok := ⟨by dsimp only; omega, by dsimp only; omega, by dsimp only; omega⟩
  refine aw_seq (aw_region (EF := EF0) hG (by rw [hN]; exact tr20_0) ?_)
  simp only [a20_0, go_sem, ↓reduceIte, Nat.reduceEqDiff, reduceCtorEq, Nat.reduceAdd, Nat.reduceLT, Nat.reduceLeDiff, Nat.reduceBNe, Nat.reduceBEq, Int.reduceToNat, aPer, Person.enc, tPr, fNam_eq, fTyp_eq, hok]
  refine aw_seq ?_
  refine aw_seq (aw_region (EF := EF0) hG (by rw [hN]; exact tr20_1) ?_)
  simp only [a20_1, go_sem, ↓reduceIte, Nat.reduceEqDiff, reduceCtorEq, Nat.reduceAdd, Nat.reduceLT, Nat.reduceLeDiff, Nat.reduceBNe, Nat.reduceBEq, Int.reduceToNat, tPr, fNam_eq, fTyp_eq, hok]
  (repeat' apply And.intro) <;> (try first | omega | (intros; (repeat' apply And.intro) <;> first | assumption | omega | (simp_all; done)))
  refine aw_cond (b := _) rfl (fun hb1 => ?_) (fun hb1 => ?_)
  · skip
    refine aw_seq (aw_region (EF := EF0) hG (by rw [hN]; exact tr20_2) ?_)
    simp only [a20_2, go_sem, ↓reduceIte, Nat.reduceEqDiff, reduceCtorEq, Nat.reduceAdd, Nat.reduceLT, Nat.reduceLeDiff, Nat.reduceBNe, Nat.reduceBEq, Int.reduceToNat, tPr, fNam_eq, fTyp_eq, hok]
    refine aw_ret ?_
    show Q _ _
    refine hQ _ _ (.inl rfl) ?_ ?_ ?_ <;> simp only [outφ, outV, AR.res, go_sem, ↓reduceIte, Nat.reduceEqDiff, reduceCtorEq, Nat.reduceAdd, Nat.reduceLT, Nat.reduceLeDiff, Nat.reduceBNe, Nat.reduceBEq, Int.reduceToNat, fPr, prV, prT]
    rw [if_neg (by simpa using hb1)]
  · skip
    refine aw_skip ?_
    try simp only [go_sem, ↓reduceIte, Nat.reduceEqDiff, reduceCtorEq, Nat.reduceAdd, Nat.reduceLT, Nat.reduceLeDiff, Nat.reduceBNe, Nat.reduceBEq, Int.reduceToNat]
    refine aw_seq ?_
    refine aw_seq (aw_region (EF := EF0) hG (by rw [hN]; exact tr20_3) ?_)
    simp only [a20_3, go_sem, ↓reduceIte, Nat.reduceEqDiff, reduceCtorEq, Nat.reduceAdd, Nat.reduceLT, Nat.reduceLeDiff, Nat.reduceBNe, Nat.reduceBEq, Int.reduceToNat, tPr, fNam_eq, fTyp_eq, hok]
    (repeat' apply And.intro) <;> (try first | omega | (intros; (repeat' apply And.intro) <;> first | assumption | omega | (simp_all; done)))
    refine aw_cond (b := _) rfl (fun hb3 => ?_) (fun hb3 => ?_)
    · skip
      refine aw_seq (aw_region (EF := EF0) hG (by rw [hN]; exact tr20_4) ?_)
      simp only [a20_4, go_sem, ↓reduceIte, Nat.reduceEqDiff, reduceCtorEq, Nat.reduceAdd, Nat.reduceLT, Nat.reduceLeDiff, Nat.reduceBNe, Nat.reduceBEq, Int.reduceToNat, tPr, fNam_eq, fTyp_eq, hok]
      refine aw_ret ?_
      show Q _ _
      refine hQ _ _ (.inl rfl) ?_ ?_ ?_ <;> simp only [outφ, outV, AR.res, go_sem, ↓reduceIte, Nat.reduceEqDiff, reduceCtorEq, Nat.reduceAdd, Nat.reduceLT, Nat.reduceLeDiff, Nat.reduceBNe, Nat.reduceBEq, Int.reduceToNat, fPr, prV, prT]
      rw [if_pos (by simpa using hb1), if_neg (by simpa using hb3)]
    · skip
      refine aw_skip ?_
      try simp only [go_sem, ↓reduceIte, Nat.reduceEqDiff, reduceCtorEq, Nat.reduceAdd, Nat.reduceLT, Nat.reduceLeDiff, Nat.reduceBNe, Nat.reduceBEq, Int.reduceToNat]
      refine aw_seq (aw_region (EF := EF0) hG (by rw [hN]; exact tr20_5) ?_)
      simp only [a20_5, go_sem, ↓reduceIte, Nat.reduceEqDiff, reduceCtorEq, Nat.reduceAdd, Nat.reduceLT, Nat.reduceLeDiff, Nat.reduceBNe, Nat.reduceBEq, Int.reduceToNat, inI, tPr, fNam_eq, fTyp_eq, hok]
      (repeat' apply And.intro) <;> (try first | omega | (intros; (repeat' apply And.intro) <;> first | assumption | omega | (simp_all; done)) | (simp only [List.length_append, List.length_cons, List.length_nil]; omega))
      refine aw_ret ?_
      show Q _ _
      refine hQ _ _ (.inl rfl) ?_ ?_ ?_ <;> simp only [outφ, outV, AR.res, go_sem, ↓reduceIte, Nat.reduceEqDiff, reduceCtorEq, Nat.reduceAdd, Nat.reduceLT, Nat.reduceLeDiff, Nat.reduceBNe, Nat.reduceBEq, Int.reduceToNat, fPr, prV, prT]
      rw [if_pos (by simpa using hb1), if_pos (by simpa using hb3)]
noncomputable def trPr : Tab
  | 30 => (gOf aPer fNam)
  | 31 => (gOf aPer fTyp)
  | _ => gNo
theorem trPr_ok : ∀ f, PureC Tryd.prog UT f (trPr f) := fun f => by
  unfold trPr
  split
  · exact rnamed_p
  · exact rtyped_p
  · exact PureC.no
set_option maxHeartbeats 2000000 in
theorem rprint_p : PureC Tryd.prog UT 21 (gOf aPer fPr) := by
  have hG := trPr_ok
  refine PureC.ofArgs aPer_inj Tryd.func21 body21 nm21 res21 ?_
  rintro ⟨a, b, c⟩ hv
  refine ⟨by rw [nt21]; simp [aPer], fun C hN Q hQ => ?_⟩
  rw [nt21] at hN
  unfold c21
  obtain ⟨h1, h2, h3⟩ : a.length ≤ 1000000 ∧ b.length ≤ 1000000 ∧ c.length ≤ 1000000 := hv
  have hok : (⟨a, b, c⟩ : Person).ok := ⟨by dsimp only; omega, by dsimp only; omega, by dsimp only; omega⟩
  refine aw_seq (aw_region (EF := EF0) hG (by rw [hN]; exact tr21_0) ?_)
  simp only [a21_0, go_sem, ↓reduceIte, Nat.reduceEqDiff, reduceCtorEq, Nat.reduceAdd, Nat.reduceLT, Nat.reduceLeDiff, Nat.reduceBNe, Nat.reduceBEq, Int.reduceToNat, aPer, Person.enc, trPr, fNam_eq, fTyp_eq, hok]
  refine aw_seq ?_
  refine aw_seq (aw_region (EF := EF0) hG (by rw [hN]; exact tr21_1) ?_)
  simp only [a21_1, go_sem, ↓reduceIte, Nat.reduceEqDiff, reduceCtorEq, Nat.reduceAdd, Nat.reduceLT, Nat.reduceLeDiff, Nat.reduceBNe, Nat.reduceBEq, Int.reduceToNat, trPr, fNam_eq, fTyp_eq, hok]
  (repeat' apply And.intro) <;> (try first | omega | (intros; (repeat' apply And.intro) <;> first | assumption | omega | (simp_all; done)))
  refine aw_cond (b := _) rfl (fun hb1 => ?_) (fun hb1 => ?_)
  · skip
    refine aw_seq (aw_region (EF := EF0) hG (by rw [hN]; exact tr21_2) ?_)
    simp only [a21_2, go_sem, ↓reduceIte, Nat.reduceEqDiff, reduceCtorEq, Nat.reduceAdd, Nat.reduceLT, Nat.reduceLeDiff, Nat.reduceBNe, Nat.reduceBEq, Int.reduceToNat, trPr, fNam_eq, fTyp_eq, hok]
    refine aw_ret ?_
    show Q _ _
    refine hQ _ _ (.inl rfl) ?_ ?_ ?_ <;> simp only [outφ, outV, AR.res, go_sem, ↓reduceIte, Nat.reduceEqDiff, reduceCtorEq, Nat.reduceAdd, Nat.reduceLT, Nat.reduceLeDiff, Nat.reduceBNe, Nat.reduceBEq, Int.reduceToNat, fPr, prV, prT]
    rw [if_neg (by simpa using hb1)]
  · skip
    refine aw_skip ?_
    try simp only [go_sem, ↓reduceIte, Nat.reduceEqDiff, reduceCtorEq, Nat.reduceAdd, Nat.reduceLT, Nat.reduceLeDiff, Nat.reduceBNe, Nat.reduceBEq, Int.reduceToNat]
    refine aw_seq ?_
    refine aw_seq (aw_region (EF := EF0) hG (by rw [hN]; exact tr21_3) ?_)
    simp only [a21_3, go_sem, ↓reduceIte, Nat.reduceEqDiff, reduceCtorEq, Nat.reduceAdd, Nat.reduceLT, Nat.reduceLeDiff, Nat.reduceBNe, Nat.reduceBEq, Int.reduceToNat, trPr, fNam_eq, fTyp_eq, hok]
    (repeat' apply And.intro) <;> (try first | omega | (intros; (repeat' apply And.intro) <;> first | assumption | omega | (simp_all; done)))
    refine aw_cond (b := _) rfl (fun hb3 => ?_) (fun hb3 => ?_)
    · skip
      refine aw_seq (aw_region (EF := EF0) hG (by rw [hN]; exact tr21_4) ?_)
      simp only [a21_4, go_sem, ↓reduceIte, Nat.reduceEqDiff, reduceCtorEq, Nat.reduceAdd, Nat.reduceLT, Nat.reduceLeDiff, Nat.reduceBNe, Nat.reduceBEq, Int.reduceToNat, trPr, fNam_eq, fTyp_eq, hok]
      refine aw_ret ?_
      show Q _ _
      refine hQ _ _ (.inl rfl) ?_ ?_ ?_ <;> simp only [outφ, outV, AR.res, go_sem, ↓reduceIte, Nat.reduceEqDiff, reduceCtorEq, Nat.reduceAdd, Nat.reduceLT, Nat.reduceLeDiff, Nat.reduceBNe, Nat.reduceBEq, Int.reduceToNat, fPr, prV, prT]
      rw [if_pos (by simpa using hb1), if_neg (by simpa using hb3)]
    · skip
      refine aw_skip ?_
      try simp only [go_sem, ↓reduceIte, Nat.reduceEqDiff, reduceCtorEq, Nat.reduceAdd, Nat.reduceLT, Nat.reduceLeDiff, Nat.reduceBNe, Nat.reduceBEq, Int.reduceToNat]
      refine aw_seq (aw_region (EF := EF0) hG (by rw [hN]; exact tr21_5) ?_)
      simp only [a21_5, go_sem, ↓reduceIte, Nat.reduceEqDiff, reduceCtorEq, Nat.reduceAdd, Nat.reduceLT, Nat.reduceLeDiff, Nat.reduceBNe, Nat.reduceBEq, Int.reduceToNat, inI, trPr, fNam_eq, fTyp_eq, hok]
      (repeat' apply And.intro) <;> (try first | omega | (intros; (repeat' apply And.intro) <;> first | assumption | omega | (simp_all; done)) | (simp only [List.length_append, List.length_cons, List.length_nil]; omega))
      refine aw_ret ?_
      show Q _ _
      refine hQ _ _ (.inl rfl) ?_ ?_ ?_ <;> simp only [outφ, outV, AR.res, go_sem, ↓reduceIte, Nat.reduceEqDiff, reduceCtorEq, Nat.reduceAdd, Nat.reduceLT, Nat.reduceLeDiff, Nat.reduceBNe, Nat.reduceBEq, Int.reduceToNat, fPr, prV, prT]
      rw [if_pos (by simpa using hb1), if_pos (by simpa using hb3)]
end Go.Proofs.YtbakkdnhbeldcaaDoor
