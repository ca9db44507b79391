/- The four laws of the chapter, as functions that compute true. -/
import Derived.Test.YtopafipomaiabaaDoorCa13
namespace Go.Proofs.YtopafipomaiabaaDoor
open Go Go.RowKit
set_option linter.unusedSimpArgs false
set_option linter.unusedVariables false
set_option linter.deprecated false
theorem fCheck_eq (l : List Config) : gOf aCheck fCheck [.list (l.map Config.enc) false] = (SmallL l, .list (faults (confFaults l)) false) := gOf_eq aCheck_inj l
theorem fFind_eq (l : List Config) (e : List UInt8) : gOf aFind fFind [.list (l.map Config.enc) false, .str e] = (l.length ≤ 140737488355328, .tup [.agg ((find l e).getD zConf).enc, .bool (find l e).isSome]) := gOf_eq aFind_inj (l, e)
def fLaw1 (l : List Config) : Prop × V := (ConfigsOk l, .bool true)
noncomputable def tL1 : Tab
  | 7 => (gOf aCheck fSmall)
  | 8 => (gOf aUnit fTrue)
  | 10 => (gOf aCheck fCheck)
  | 11 => (gOf aCheck fCheck)
  | 9 => (gOf aSameF fSameF)
  | 12 => (gOf aFind fFind)
  | 13 => (gOf aFind fFind)
  | 14 => (gOf aTwo fSame)
  | 15 => (gOf aPlace fPlace)
  | 16 => (gOf aPlace fPlace)
  | 17 => (gOf aCab fLim)
  | 18 => (gOf aCab fLim)
  | 19 => (gOf aCab fAuth)
  | 20 => (gOf aCab fAuth)
  | 21 => (gOf aLike fLike)
  | 22 => (gOf aLike fLike)
  | _ => gNo
theorem tL1_ok : ∀ f, PureC Tryd.prog UT f (tL1 f) := fun f => by
  unfold tL1
  split
  · exact small_p
  · exact awake_p
  · exact check_p
  · exact rcheck_p
  · exact sameF_p
  · exact find_p
  · exact rfind_p
  · exact same_p
  · exact place_p
  · exact rplace_p
  · exact limits_p
  · exact rlimits_p
  · exact auth_p
  · exact rauth_p
  · exact like_p
  · exact rlike_p
  · exact PureC.no
set_option maxHeartbeats 2000000 in
theorem law1_p : PureC Tryd.prog UT 3 (gOf aCheck fLaw1) := by
  have hG := tL1_ok
  refine PureC.ofArgs aCheck_inj Tryd.func3 body3 nm3 res3 ?_
  rintro l hv
  refine ⟨by rw [nt3]; simp [aCheck], fun C hN Q hQ => ?_⟩
  rw [nt3] at hN
  unfold c3
  replace hv : ConfigsOk l := hv
  refine aw_seq (aw_region (EF := EF0) hG (by rw [hN]; exact tr3_0) ?_)
  simp only [a3_0, go_sem, ↓reduceIte, Nat.reduceEqDiff, reduceCtorEq, Nat.reduceAdd, Nat.reduceLT, Nat.reduceLeDiff, Nat.reduceBNe, Nat.reduceBEq, Int.reduceToNat, aCheck]
  refine aw_seq ?_
  refine aw_seq ?_
  refine aw_region (EF := EF0) hG (by rw [hN]; exact tr3_1) ?_
  simp only [a3_1, go_sem, ↓reduceIte, Nat.reduceEqDiff, reduceCtorEq, Nat.reduceAdd, Nat.reduceLT, Nat.reduceLeDiff, Nat.reduceBNe, Nat.reduceBEq, Int.reduceToNat, tL1, fSmall_eq, hv]
  cases hs : smallB l with
  | false =>
    refine aw_condT rfl ?_
    refine aw_seq (aw_region (EF := EF0) hG (by rw [hN]; exact tr3_2) ?_)
    simp only [a3_2, go_sem, ↓reduceIte, Nat.reduceEqDiff, reduceCtorEq, Nat.reduceAdd, Nat.reduceLT, Nat.reduceLeDiff, Nat.reduceBNe, Nat.reduceBEq, Int.reduceToNat, tL1, fTrue_eq]
    refine aw_ret ?_
    show Q _ _
    refine hQ _ _ (.inl rfl) ?_ ?_ ?_ <;> simp only [outφ, outV, AR.res, go_sem, ↓reduceIte, Nat.reduceEqDiff, reduceCtorEq, Nat.reduceAdd, Nat.reduceLT, Nat.reduceLeDiff, Nat.reduceBNe, Nat.reduceBEq, Int.reduceToNat, fLaw1]
  | true =>
    have hsl := smallL_of hv hs
    have hcl := confTo_len l l.length hsl.2.2.1 hsl.2.2.2
    have hl := hsl.1
    refine aw_condF rfl ?_
    refine aw_skip ?_
    simp only [go_sem, ↓reduceIte, Nat.reduceEqDiff, reduceCtorEq, Nat.reduceAdd, Nat.reduceLT, Nat.reduceLeDiff, Nat.reduceBNe, Nat.reduceBEq, Int.reduceToNat]
    refine aw_seq (aw_region (EF := EF0) hG (by rw [hN]; exact tr3_3) ?_)
    simp only [a3_3, go_sem, ↓reduceIte, Nat.reduceEqDiff, reduceCtorEq, Nat.reduceAdd, Nat.reduceLT, Nat.reduceLeDiff, Nat.reduceBNe, Nat.reduceBEq, Int.reduceToNat, tL1, fCheck_eq, fSameF_eq, fTrue_eq, hsl]
    (repeat' apply And.intro) <;> (try first | omega | (show (confTo l l.length).length ≤ 140737488355328; omega))
    refine aw_ret ?_
    show Q _ _
    refine hQ _ _ (.inl rfl) ?_ ?_ ?_ <;> simp only [outφ, outV, AR.res, go_sem, ↓reduceIte, Nat.reduceEqDiff, reduceCtorEq, Nat.reduceAdd, Nat.reduceLT, Nat.reduceLeDiff, Nat.reduceBNe, Nat.reduceBEq, Int.reduceToNat, fLaw1]
def aLaw2 (x : List Config × List UInt8 × List UInt8) : List V := [.list (x.1.map Config.enc) false, .str x.2.1, .str x.2.2]
theorem aLaw2_inj (a b : List Config × List UInt8 × List UInt8) (h : aLaw2 a = aLaw2 b) : a = b := by
  obtain ⟨a1, a2, a3⟩ := a; obtain ⟨b1, b2, b3⟩ := b
  simp only [aLaw2, List.cons.injEq, V.str.injEq, V.list.injEq, and_true] at h
  obtain ⟨h1, rfl, rfl⟩ := h
  rw [map_inj' Config.inj h1]
def fLaw2 (x : List Config × List UInt8 × List UInt8) : Prop × V := (ConfigsOk x.1, .bool true)
theorem placeV_tup (o : Option (Nat × Nat)) : ∃ a b c, placeV o = .tup [.int .i64 a, .int .i64 b, .bool c] := by
  cases o with
  | none => exact ⟨0, 0, false, rfl⟩
  | some p => exact ⟨p.1, p.2, true, rfl⟩
set_option maxHeartbeats 4000000 in
theorem law2_p : PureC Tryd.prog UT 4 (gOf aLaw2 fLaw2) := by
  have hG := tL1_ok
  refine PureC.ofArgs aLaw2_inj Tryd.func4 body4 nm4 res4 ?_
  rintro ⟨l, eq, cl⟩ hv
  refine ⟨by rw [nt4]; simp [aLaw2], fun C hN Q hQ => ?_⟩
  rw [nt4] at hN
  unfold c4
  replace hv : ConfigsOk l := hv
  have hvl : l.length ≤ 140737488355328 := hv.1
  refine aw_seq (aw_region (EF := EF0) hG (by rw [hN]; exact tr4_0) ?_)
  simp only [a4_0, go_sem, ↓reduceIte, Nat.reduceEqDiff, reduceCtorEq, Nat.reduceAdd, Nat.reduceLT, Nat.reduceLeDiff, Nat.reduceBNe, Nat.reduceBEq, Int.reduceToNat, aLaw2]
  refine aw_seq ?_
  refine aw_seq ?_
  refine aw_region (EF := EF0) hG (by rw [hN]; exact tr4_1) ?_
  simp only [a4_1, go_sem, ↓reduceIte, Nat.reduceEqDiff, reduceCtorEq, Nat.reduceAdd, Nat.reduceLT, Nat.reduceLeDiff, Nat.reduceBNe, Nat.reduceBEq, Int.reduceToNat, tL1, fSmall_eq, hv]
  cases hs : smallB l with
  | false =>
    refine aw_condT rfl ?_
    refine aw_seq (aw_region (EF := EF0) hG (by rw [hN]; exact tr4_2) ?_)
    simp only [a4_2, go_sem, ↓reduceIte, Nat.reduceEqDiff, reduceCtorEq, Nat.reduceAdd, Nat.reduceLT, Nat.reduceLeDiff, Nat.reduceBNe, Nat.reduceBEq, Int.reduceToNat, tL1, fTrue_eq]
    refine aw_ret ?_
    show Q _ _
    refine hQ _ _ (.inl rfl) ?_ ?_ ?_ <;> simp only [outφ, outV, AR.res, go_sem, ↓reduceIte, Nat.reduceEqDiff, reduceCtorEq, Nat.reduceAdd, Nat.reduceLT, Nat.reduceLeDiff, Nat.reduceBNe, Nat.reduceBEq, Int.reduceToNat, fLaw2]
  | true =>
    have hsl := smallL_of hv hs
    have hcl := confTo_len l l.length hsl.2.2.1 hsl.2.2.2
    have hl := hsl.1
    have hok := found_ok hv eq
    have hrt := fun h => found_right (l := l) h eq
    have hfe := fFind_eq l eq
    generalize hx : (find l eq).getD zConf = x at hok hrt hfe
    generalize (find l eq).isSome = fo at hfe
    obtain ⟨q, cabs⟩ := x
    simp only [Config.enc] at hfe
    dsimp only at hrt
    have hpe := fPlace_eq q cabs cl
    obtain ⟨p1, p2, p3, hpv⟩ := placeV_tup (place cabs cl)
    rw [hpv] at hpe
    refine aw_condF rfl ?_
    refine aw_skip ?_
    simp only [go_sem, ↓reduceIte, Nat.reduceEqDiff, reduceCtorEq, Nat.reduceAdd, Nat.reduceLT, Nat.reduceLeDiff, Nat.reduceBNe, Nat.reduceBEq, Int.reduceToNat]
    refine aw_seq (aw_region (EF := EF0) hG (by rw [hN]; exact tr4_3) ?_)
    simp only [a4_3, go_sem, ↓reduceIte, Nat.reduceEqDiff, reduceCtorEq, Nat.reduceAdd, Nat.reduceLT, Nat.reduceLeDiff, Nat.reduceBNe, Nat.reduceBEq, Int.reduceToNat, tL1, hfe, hvl]
    refine aw_seq (aw_region (EF := EF0) hG (by rw [hN]; exact tr4_4) ?_)
    simp only [a4_4, go_sem, ↓reduceIte, Nat.reduceEqDiff, reduceCtorEq, Nat.reduceAdd, Nat.reduceLT, Nat.reduceLeDiff, Nat.reduceBNe, Nat.reduceBEq, Int.reduceToNat, tL1, hfe, hvl]
    refine aw_seq ?_
    refine aw_seq ?_
    refine aw_region (EF := EF0) hG (by rw [hN]; exact tr4_5) ?_
    simp only [a4_5, go_sem, ↓reduceIte, Nat.reduceEqDiff, reduceCtorEq, Nat.reduceAdd, Nat.reduceLT, Nat.reduceLeDiff, Nat.reduceBNe, Nat.reduceBEq, Int.reduceToNat, tL1, fSame_eq, hok]
    refine aw_condF rfl ?_
    refine aw_skip ?_
    simp only [go_sem, ↓reduceIte, Nat.reduceEqDiff, reduceCtorEq, Nat.reduceAdd, Nat.reduceLT, Nat.reduceLeDiff, Nat.reduceBNe, Nat.reduceBEq, Int.reduceToNat]
    refine aw_seq (aw_region (EF := EF0) hG (by rw [hN]; exact tr4_7) ?_)
    simp only [a4_7, go_sem, ↓reduceIte, Nat.reduceEqDiff, reduceCtorEq, Nat.reduceAdd, Nat.reduceLT, Nat.reduceLeDiff, Nat.reduceBNe, Nat.reduceBEq, Int.reduceToNat, tL1, hpe, hok]
    refine aw_seq (aw_region (EF := EF0) hG (by rw [hN]; exact tr4_8) ?_)
    simp only [a4_8, go_sem, ↓reduceIte, Nat.reduceEqDiff, reduceCtorEq, Nat.reduceAdd, Nat.reduceLT, Nat.reduceLeDiff, Nat.reduceBNe, Nat.reduceBEq, Int.reduceToNat, tL1, hpe, hok]
    refine aw_seq ?_
    refine aw_seq ?_
    refine aw_region (EF := EF0) hG (by rw [hN]; exact tr4_9) ?_
    simp only [a4_9, go_sem, ↓reduceIte, Nat.reduceEqDiff, reduceCtorEq, Nat.reduceAdd, Nat.reduceLT, Nat.reduceLeDiff, Nat.reduceBNe, Nat.reduceBEq, Int.reduceToNat]
    refine aw_condF rfl ?_
    refine aw_skip ?_
    simp only [go_sem, ↓reduceIte, Nat.reduceEqDiff, reduceCtorEq, Nat.reduceAdd, Nat.reduceLT, Nat.reduceLeDiff, Nat.reduceBNe, Nat.reduceBEq, Int.reduceToNat]
    refine aw_seq (aw_region (EF := EF0) hG (by rw [hN]; exact tr4_11) ?_)
    simp only [a4_11, go_sem, ↓reduceIte, Nat.reduceEqDiff, reduceCtorEq, Nat.reduceAdd, Nat.reduceLT, Nat.reduceLeDiff, Nat.reduceBNe, Nat.reduceBEq, Int.reduceToNat, tL1, fCheck_eq, hsl]
    generalize hb : decide (((confFaults l).length : Int) = 0) = b
    have hrt2 : b = true → ∀ c, c < cabs.length → Right cabs c := fun e => hrt (by
      rw [← hb] at e
      simp only [decide_eq_true_eq] at e
      exact List.length_eq_zero_iff.1 (by omega))
    have hcb : cabs.length ≤ 140737488355328 := hok.2.1
    refine aw_seq ?_
    refine aw_seq ?_
    refine aw_region (EF := EF0) hG (by rw [hN]; exact tr4_12) ?_
    simp only [a4_12, go_sem, ↓reduceIte, Nat.reduceEqDiff, reduceCtorEq, Nat.reduceAdd, Nat.reduceLT, Nat.reduceLeDiff, Nat.reduceBNe, Nat.reduceBEq, Int.reduceToNat]
    refine aw_block ?_
    refine aw_loop (α := Nat) (fun i => i ≤ cabs.length) (fun i => ⟨mkE [(9, .ptr 9 0), (17, .bool b), (18, .int .i64 i)], mkH [(9, .box 30 [.str q, .list (cabs.map Cabin.enc) false])]⟩) (fun i => cabs.length - i) 0 (Nat.zero_le _) ?_ ?_
    · refine Le.mk _ _ ?_ ?_ rfl <;> simp only [go_sem, ↓reduceIte, Nat.reduceEqDiff, reduceCtorEq, Nat.reduceAdd, Nat.reduceLT, Nat.reduceLeDiff, Nat.reduceBNe, Nat.reduceBEq, Int.reduceToNat]
    · rintro i hi K hK
      refine aw_seq ?_
      refine aw_seq ?_
      refine aw_region (EF := EF0) hG (by rw [hN]; exact tr4_13) ?_
      simp only [a4_13, go_sem, ↓reduceIte, Nat.reduceEqDiff, reduceCtorEq, Nat.reduceAdd, Nat.reduceLT, Nat.reduceLeDiff, Nat.reduceBNe, Nat.reduceBEq, Int.reduceToNat]
      refine aw_cond (b := _) rfl (fun hc => ?_) (fun hc => ?_)
      · simp only [decide_eq_true_eq, decide_eq_false_iff_not, Bool.and_eq_true, Bool.or_eq_true, Bool.not_eq_true', Bool.not_eq_false', Bool.and_eq_false_iff, Bool.or_eq_false_iff, Int.ofNat_lt, Int.ofNat_le, Nat.not_lt, Nat.not_le, Int.not_lt, Int.not_le] at hc
        obtain ⟨hc, hbt⟩ := hc
        have hri := fun k => place_right (k := k) (hrt2 hbt) hc
        have hyok := hok.2.2 _ (List.getElem_mem hc)
        generalize hyy : cabs[i] = y at hri hyok
        obtain ⟨nm, se, ov, cls⟩ := y
        have hyl : cls.length ≤ 140737488355328 := hyok.2.2.2.1
        refine aw_skip ?_
        simp only [go_sem, ↓reduceIte, Nat.reduceEqDiff, reduceCtorEq, Nat.reduceAdd, Nat.reduceLT, Nat.reduceLeDiff, Nat.reduceBNe, Nat.reduceBEq, Int.reduceToNat]
        refine aw_seq ?_
        refine aw_block ?_
        refine aw_seq (aw_region (EF := EF0) hG (by rw [hN]; exact tr4_15) ?_)
        simp only [a4_15, go_sem, ↓reduceIte, Nat.reduceEqDiff, reduceCtorEq, Nat.reduceAdd, Nat.reduceLT, Nat.reduceLeDiff, Nat.reduceBNe, Nat.reduceBEq, Int.reduceToNat]
        refine aw_block ?_
        refine aw_loop (α := Nat) (fun k => k ≤ cls.length) (fun k => ⟨mkE [(9, .ptr 9 0), (17, .bool b), (18, .int .i64 i), (19, .int .i64 k)], mkH [(9, .box 30 [.str q, .list (cabs.map Cabin.enc) false])]⟩) (fun k => cls.length - k) 0 (Nat.zero_le _) ?_ ?_
        · refine Le.mk _ _ ?_ ?_ rfl <;> simp only [go_sem, ↓reduceIte, Nat.reduceEqDiff, reduceCtorEq, Nat.reduceAdd, Nat.reduceLT, Nat.reduceLeDiff, Nat.reduceBNe, Nat.reduceBEq, Int.reduceToNat]
        · rintro k hk K2 hK2
          refine aw_seq ?_
          refine aw_seq ?_
          refine aw_region (EF := EF0) hG (by rw [hN]; exact tr4_16) ?_
          simp only [a4_16, go_sem, ↓reduceIte, Nat.reduceEqDiff, reduceCtorEq, Nat.reduceAdd, Nat.reduceLT, Nat.reduceLeDiff, Nat.reduceBNe, Nat.reduceBEq, Int.reduceToNat, getD_map _ _ _ hc, hc, hyy, Cabin.enc]
          refine aw_cond (b := _) rfl (fun he => ?_) (fun he => ?_)
          · simp only [decide_eq_true_eq, decide_eq_false_iff_not, Bool.and_eq_true, Bool.or_eq_true, Bool.not_eq_true', Bool.not_eq_false', Bool.and_eq_false_iff, Bool.or_eq_false_iff, Int.ofNat_lt, Int.ofNat_le, Nat.not_lt, Nat.not_le, Int.not_lt, Int.not_le] at he
            have hpk := hri k he
            have hpk2 := fPlace_eq q cabs cls[k].code
            rw [hpk, placeV] at hpk2
            refine aw_skip ?_
            simp only [go_sem, ↓reduceIte, Nat.reduceEqDiff, reduceCtorEq, Nat.reduceAdd, Nat.reduceLT, Nat.reduceLeDiff, Nat.reduceBNe, Nat.reduceBEq, Int.reduceToNat]
            refine aw_seq ?_
            refine aw_block ?_
            refine aw_seq (aw_regionD (EF := EF0) hG mixed (by rw [hN]; exact tr4_18) ok4_18 ?_)
            simp only [a4_18, d4_18, go_sem, ↓reduceIte, Nat.reduceEqDiff, reduceCtorEq, Nat.reduceAdd, Nat.reduceLT, Nat.reduceLeDiff, Nat.reduceBNe, Nat.reduceBEq, Int.reduceToNat, getD_map _ _ _ hc, hc, hyy, Cabin.enc, getD_map _ _ _ he, he, Class.enc, tL1, hpk2, hok]
            refine aw_seq ?_
            refine aw_region (EF := EF0) hG (by rw [hN]; exact tr4_19) ?_
            simp only [a4_19, go_sem, ↓reduceIte, Nat.reduceEqDiff, reduceCtorEq, Nat.reduceAdd, Nat.reduceLT, Nat.reduceLeDiff, Nat.reduceBNe, Nat.reduceBEq, Int.reduceToNat]
            refine aw_condF rfl ?_
            refine aw_skip ?_
            simp only [go_sem, ↓reduceIte, Nat.reduceEqDiff, reduceCtorEq, Nat.reduceAdd, Nat.reduceLT, Nat.reduceLeDiff, Nat.reduceBNe, Nat.reduceBEq, Int.reduceToNat]
            refine aw_region (EF := EF0) hG (by rw [hN]; exact tr4_17) ?_
            simp only [a4_17, go_sem, ↓reduceIte, Nat.reduceEqDiff, reduceCtorEq, Nat.reduceAdd, Nat.reduceLT, Nat.reduceLeDiff, Nat.reduceBNe, Nat.reduceBEq, Int.reduceToNat, inI]
            (repeat' apply And.intro) <;> (try first | omega)
            refine hK2 (k + 1) _ ?_ ?_ ?_
            · exact he
            · omega
            · refine Le.mk _ _ ?_ ?_ rfl <;> simp only [go_sem, ↓reduceIte, Nat.reduceEqDiff, reduceCtorEq, Nat.reduceAdd, Nat.reduceLT, Nat.reduceLeDiff, Nat.reduceBNe, Nat.reduceBEq, Int.reduceToNat]
          · simp only [decide_eq_true_eq, decide_eq_false_iff_not, Bool.and_eq_true, Bool.or_eq_true, Bool.not_eq_true', Bool.not_eq_false', Bool.and_eq_false_iff, Bool.or_eq_false_iff, Int.ofNat_lt, Int.ofNat_le, Nat.not_lt, Nat.not_le, Int.not_lt, Int.not_le] at he
            refine aw_exit ?_
            simp only [go_sem, ↓reduceIte, Nat.reduceEqDiff, reduceCtorEq, Nat.reduceAdd, Nat.reduceLT, Nat.reduceLeDiff, Nat.reduceBNe, Nat.reduceBEq, Int.reduceToNat]
            refine aw_region (EF := EF0) hG (by rw [hN]; exact tr4_14) ?_
            simp only [a4_14, go_sem, ↓reduceIte, Nat.reduceEqDiff, reduceCtorEq, Nat.reduceAdd, Nat.reduceLT, Nat.reduceLeDiff, Nat.reduceBNe, Nat.reduceBEq, Int.reduceToNat, inI]
            (repeat' apply And.intro) <;> (try first | omega)
            refine hK (i + 1) _ ?_ ?_ ?_
            · exact hc
            · omega
            · refine Le.mk _ _ ?_ ?_ rfl <;> simp only [go_sem, ↓reduceIte, Nat.reduceEqDiff, reduceCtorEq, Nat.reduceAdd, Nat.reduceLT, Nat.reduceLeDiff, Nat.reduceBNe, Nat.reduceBEq, Int.reduceToNat]
      · simp only [decide_eq_true_eq, decide_eq_false_iff_not, Bool.and_eq_true, Bool.or_eq_true, Bool.not_eq_true', Bool.not_eq_false', Bool.and_eq_false_iff, Bool.or_eq_false_iff, Int.ofNat_lt, Int.ofNat_le, Nat.not_lt, Nat.not_le, Int.not_lt, Int.not_le] at hc
        refine aw_exit ?_
        simp only [go_sem, ↓reduceIte, Nat.reduceEqDiff, reduceCtorEq, Nat.reduceAdd, Nat.reduceLT, Nat.reduceLeDiff, Nat.reduceBNe, Nat.reduceBEq, Int.reduceToNat]
        refine aw_seq (aw_region (EF := EF0) hG (by rw [hN]; exact tr4_21) ?_)
        simp only [a4_21, go_sem, ↓reduceIte, Nat.reduceEqDiff, reduceCtorEq, Nat.reduceAdd, Nat.reduceLT, Nat.reduceLeDiff, Nat.reduceBNe, Nat.reduceBEq, Int.reduceToNat, tL1, fTrue_eq]
        refine aw_ret ?_
        show Q _ _
        refine hQ _ _ (.inl rfl) ?_ ?_ ?_ <;> simp only [outφ, outV, AR.res, go_sem, ↓reduceIte, Nat.reduceEqDiff, reduceCtorEq, Nat.reduceAdd, Nat.reduceLT, Nat.reduceLeDiff, Nat.reduceBNe, Nat.reduceBEq, Int.reduceToNat, fLaw2]
/-! Limits -/
theorem prot_rng {y : Cabin} (hr : inR y = true) (hp : ∀ k, k < y.cl.length → protBad y k = false) : ∀ z ∈ y.cl, 0 ≤ z.prot ∧ z.prot ≤ auth y := by
  intro z hz
  obtain ⟨k, hk, rfl⟩ := List.mem_iff_getElem.1 hz
  have := hp k hk
  unfold protBad at this
  simp only [hr, Bool.or_eq_false_iff, Bool.and_eq_false_iff, decide_eq_false_iff_not, Bool.true_and, getD_lt _ _ _ hk] at this
  obtain ⟨⟨a, b⟩, c⟩ := this
  exact ⟨by omega, by omega⟩
theorem fLim_eq (nm : List UInt8) (se ov : Int) (cl : List Class) : gOf aCab fLim [.agg [.str nm, .int .i64 se, .int .i64 ov, .list (cl.map Class.enc) false]] = (cl.length ≤ 1000000 ∧ inI (se + ov) ∧ ∀ z ∈ cl, inI (se + ov - z.prot), .list (ints (limits ⟨nm, se, ov, cl⟩)) false) := gOf_eq aCab_inj (⟨nm, se, ov, cl⟩ : Cabin)
set_option maxHeartbeats 4000000 in
theorem law3_p : PureC Tryd.prog UT 5 (gOf aCheck fLaw1) := by
  have hG := tL1_ok
  refine PureC.ofArgs aCheck_inj Tryd.func5 body5 nm5 res5 ?_
  rintro l hv
  refine ⟨by rw [nt5]; simp [aCheck], fun C hN Q hQ => ?_⟩
  rw [nt5] at hN
  unfold c5
  replace hv : ConfigsOk l := hv
  have hvl : l.length ≤ 140737488355328 := hv.1
  refine aw_seq (aw_region (EF := EF0) hG (by rw [hN]; exact tr5_0) ?_)
  simp only [a5_0, go_sem, ↓reduceIte, Nat.reduceEqDiff, reduceCtorEq, Nat.reduceAdd, Nat.reduceLT, Nat.reduceLeDiff, Nat.reduceBNe, Nat.reduceBEq, Int.reduceToNat, aCheck]
  refine aw_seq ?_
  refine aw_seq ?_
  cases hs : smallB l with
  | false =>
    refine aw_region (EF := EF0) hG (by rw [hN]; exact tr5_1) ?_
    simp only [a5_1, go_sem, ↓reduceIte, Nat.reduceEqDiff, reduceCtorEq, Nat.reduceAdd, Nat.reduceLT, Nat.reduceLeDiff, Nat.reduceBNe, Nat.reduceBEq, Int.reduceToNat, tL1, fSmall_eq, hv, hs, fCheck_eq]
    refine aw_condT rfl ?_
    refine aw_seq (aw_region (EF := EF0) hG (by rw [hN]; exact tr5_2) ?_)
    simp only [a5_2, go_sem, ↓reduceIte, Nat.reduceEqDiff, reduceCtorEq, Nat.reduceAdd, Nat.reduceLT, Nat.reduceLeDiff, Nat.reduceBNe, Nat.reduceBEq, Int.reduceToNat, tL1, fTrue_eq]
    refine aw_ret ?_
    show Q _ _
    refine hQ _ _ (.inl rfl) ?_ ?_ ?_ <;> simp only [outφ, outV, AR.res, go_sem, ↓reduceIte, Nat.reduceEqDiff, reduceCtorEq, Nat.reduceAdd, Nat.reduceLT, Nat.reduceLeDiff, Nat.reduceBNe, Nat.reduceBEq, Int.reduceToNat, fLaw1]
  | true =>
    have hsl := smallL_of hv hs
    have hl := hsl.1
    refine aw_region (EF := EF0) hG (by rw [hN]; exact tr5_1) ?_
    simp only [a5_1, go_sem, ↓reduceIte, Nat.reduceEqDiff, reduceCtorEq, Nat.reduceAdd, Nat.reduceLT, Nat.reduceLeDiff, Nat.reduceBNe, Nat.reduceBEq, Int.reduceToNat, tL1, fSmall_eq, hv, hs, fCheck_eq, hsl]
    refine aw_cond (b := _) rfl (fun hr => ?_) (fun hr => ?_)
    · simp only [decide_eq_true_eq, decide_eq_false_iff_not, Bool.and_eq_true, Bool.or_eq_true, Bool.not_eq_true', Bool.not_eq_false', Bool.and_eq_false_iff, Bool.or_eq_false_iff, Int.ofNat_lt, Int.ofNat_le, Nat.not_lt, Nat.not_le, Int.not_lt, Int.not_le] at hr
      refine aw_seq (aw_region (EF := EF0) hG (by rw [hN]; exact tr5_2) ?_)
      simp only [a5_2, go_sem, ↓reduceIte, Nat.reduceEqDiff, reduceCtorEq, Nat.reduceAdd, Nat.reduceLT, Nat.reduceLeDiff, Nat.reduceBNe, Nat.reduceBEq, Int.reduceToNat, tL1, fTrue_eq]
      refine aw_ret ?_
      show Q _ _
      refine hQ _ _ (.inl rfl) ?_ ?_ ?_ <;> simp only [outφ, outV, AR.res, go_sem, ↓reduceIte, Nat.reduceEqDiff, reduceCtorEq, Nat.reduceAdd, Nat.reduceLT, Nat.reduceLeDiff, Nat.reduceBNe, Nat.reduceBEq, Int.reduceToNat, fLaw1]
    simp only [decide_eq_true_eq, decide_eq_false_iff_not, Bool.and_eq_true, Bool.or_eq_true, Bool.not_eq_true', Bool.not_eq_false', Bool.and_eq_false_iff, Bool.or_eq_false_iff, Int.ofNat_lt, Int.ofNat_le, Nat.not_lt, Nat.not_le, Int.not_lt, Int.not_le] at hr
    have hr0 : confFaults l = [] := List.length_eq_zero_iff.1 (by omega)
    refine aw_skip ?_
    simp only [go_sem, ↓reduceIte, Nat.reduceEqDiff, reduceCtorEq, Nat.reduceAdd, Nat.reduceLT, Nat.reduceLeDiff, Nat.reduceBNe, Nat.reduceBEq, Int.reduceToNat]
    refine aw_seq ?_
    refine aw_seq ?_
    refine aw_region (EF := EF0) hG (by rw [hN]; exact tr5_3) ?_
    simp only [a5_3, go_sem, ↓reduceIte, Nat.reduceEqDiff, reduceCtorEq, Nat.reduceAdd, Nat.reduceLT, Nat.reduceLeDiff, Nat.reduceBNe, Nat.reduceBEq, Int.reduceToNat]
    refine aw_block ?_
    refine aw_loop (α := Nat) (fun i => i ≤ l.length) (fun i => ⟨mkE [(0, .list (l.map Config.enc) false), (3, .int .i64 i)], mkH []⟩) (fun i => l.length - i) 0 (Nat.zero_le _) ?_ ?_
    · refine Le.mk _ _ ?_ ?_ rfl <;> simp only [go_sem, ↓reduceIte, Nat.reduceEqDiff, reduceCtorEq, Nat.reduceAdd, Nat.reduceLT, Nat.reduceLeDiff, Nat.reduceBNe, Nat.reduceBEq, Int.reduceToNat]
    · rintro i hi K hK
      refine aw_seq ?_
      refine aw_seq ?_
      refine aw_region (EF := EF0) hG (by rw [hN]; exact tr5_4) ?_
      simp only [a5_4, go_sem, ↓reduceIte, Nat.reduceEqDiff, reduceCtorEq, Nat.reduceAdd, Nat.reduceLT, Nat.reduceLeDiff, Nat.reduceBNe, Nat.reduceBEq, Int.reduceToNat]
      refine aw_cond (b := _) rfl (fun hc => ?_) (fun hc => ?_)
      · simp only [decide_eq_true_eq, decide_eq_false_iff_not, Bool.and_eq_true, Bool.or_eq_true, Bool.not_eq_true', Bool.not_eq_false', Bool.and_eq_false_iff, Bool.or_eq_false_iff, Int.ofNat_lt, Int.ofNat_le, Nat.not_lt, Nat.not_le, Int.not_lt, Int.not_le] at hc
        have hrt := fun c => right_of (c := c) hr0 hc
        have hxk := hv.2 _ (List.getElem_mem hc)
        have hxc := hsl.2.2.2 _ (List.getElem_mem hc)
        generalize hxx : l[i] = x at hrt hxk hxc
        obtain ⟨q, cabs⟩ := x
        dsimp only at hrt hxc
        have hcb : cabs.length ≤ 140737488355328 := hxk.2.1
        refine aw_skip ?_
        simp only [go_sem, ↓reduceIte, Nat.reduceEqDiff, reduceCtorEq, Nat.reduceAdd, Nat.reduceLT, Nat.reduceLeDiff, Nat.reduceBNe, Nat.reduceBEq, Int.reduceToNat]
        refine aw_seq ?_
        refine aw_block ?_
        refine aw_seq (aw_region (EF := EF0) hG (by rw [hN]; exact tr5_6) ?_)
        simp only [a5_6, go_sem, ↓reduceIte, Nat.reduceEqDiff, reduceCtorEq, Nat.reduceAdd, Nat.reduceLT, Nat.reduceLeDiff, Nat.reduceBNe, Nat.reduceBEq, Int.reduceToNat]
        refine aw_block ?_
        refine aw_loop (α := Nat) (fun k => k ≤ cabs.length) (fun k => ⟨mkE [(0, .list (l.map Config.enc) false), (3, .int .i64 i), (4, .int .i64 k)], mkH []⟩) (fun k => cabs.length - k) 0 (Nat.zero_le _) ?_ ?_
        · refine Le.mk _ _ ?_ ?_ rfl <;> simp only [go_sem, ↓reduceIte, Nat.reduceEqDiff, reduceCtorEq, Nat.reduceAdd, Nat.reduceLT, Nat.reduceLeDiff, Nat.reduceBNe, Nat.reduceBEq, Int.reduceToNat]
        · rintro k hk K2 hK2
          refine aw_seq ?_
          refine aw_seq ?_
          refine aw_region (EF := EF0) hG (by rw [hN]; exact tr5_7) ?_
          simp only [a5_7, go_sem, ↓reduceIte, Nat.reduceEqDiff, reduceCtorEq, Nat.reduceAdd, Nat.reduceLT, Nat.reduceLeDiff, Nat.reduceBNe, Nat.reduceBEq, Int.reduceToNat, getD_map _ _ _ hc, hc, hxx, Config.enc]
          refine aw_cond (b := _) rfl (fun he => ?_) (fun he => ?_)
          · simp only [decide_eq_true_eq, decide_eq_false_iff_not, Bool.and_eq_true, Bool.or_eq_true, Bool.not_eq_true', Bool.not_eq_false', Bool.and_eq_false_iff, Bool.or_eq_false_iff, Int.ofNat_lt, Int.ofNat_le, Nat.not_lt, Nat.not_le, Int.not_lt, Int.not_le] at he
            have hy := hrt k he
            obtain ⟨hy1, _, hy3⟩ := hy
            rw [getD_lt _ _ _ he] at hy1 hy3
            have hyl := hxc _ (List.getElem_mem he)
            generalize hyy : cabs[k] = y at hy1 hy3 hyl
            have hq := fun j => limits_right hy1 hy3 (j := j)
            have hpr := prot_rng hy1 hy3
            have hau := inR_auth hy1
            obtain ⟨nm, se, ov, cls⟩ := y
            dsimp only at hyl
            have hlen : (limits ⟨nm, se, ov, cls⟩).length = cls.length := limits_len _
            have hat : ∀ j, j < cls.length → ∀ d, (ints (limits ⟨nm, se, ov, cls⟩)).getD j d = [.int .i64 (limAt (auth ⟨nm, se, ov, cls⟩) cls j)] := fun j hj d => by
              rw [ints_at (by rw [hlen]; exact hj), limits_at]
            have hfl : gOf aCab fLim [.agg [.str nm, .int .i64 se, .int .i64 ov, .list (cls.map Class.enc) false]] = (True, .list (ints (limits ⟨nm, se, ov, cls⟩)) false) := gOf_at aCab_inj (⟨nm, se, ov, cls⟩ : Cabin) rfl ⟨by dsimp only; omega, hau, fun z hz => by
              have := hpr z hz
              have h2 : auth ⟨nm, se, ov, cls⟩ = se + ov := rfl
              unfold inI at hau ⊢
              omega⟩ rfl
            have hfa : gOf aCab fAuth [.agg [.str nm, .int .i64 se, .int .i64 ov, .list (cls.map Class.enc) false]] = (True, .int .i64 (auth ⟨nm, se, ov, cls⟩)) := gOf_at aCab_inj (⟨nm, se, ov, cls⟩ : Cabin) rfl hau rfl
            generalize limits ⟨nm, se, ov, cls⟩ = li at hat hfl hlen
            refine aw_skip ?_
            simp only [go_sem, ↓reduceIte, Nat.reduceEqDiff, reduceCtorEq, Nat.reduceAdd, Nat.reduceLT, Nat.reduceLeDiff, Nat.reduceBNe, Nat.reduceBEq, Int.reduceToNat]
            refine aw_seq ?_
            refine aw_block ?_
            refine aw_seq (aw_region (EF := EF0) hG (by rw [hN]; exact tr5_9) ?_)
            simp only [a5_9, go_sem, ↓reduceIte, Nat.reduceEqDiff, reduceCtorEq, Nat.reduceAdd, Nat.reduceLT, Nat.reduceLeDiff, Nat.reduceBNe, Nat.reduceBEq, Int.reduceToNat, getD_map _ _ _ hc, hc, hxx, Config.enc, getD_map _ _ _ he, he, hyy, Cabin.enc]
            refine aw_seq (aw_regionD (EF := EF0) hG mixed (by rw [hN]; exact tr5_10) ok5_10 ?_)
            simp only [a5_10, d5_10, go_sem, ↓reduceIte, Nat.reduceEqDiff, reduceCtorEq, Nat.reduceAdd, Nat.reduceLT, Nat.reduceLeDiff, Nat.reduceBNe, Nat.reduceBEq, Int.reduceToNat, tL1, hfl]
            refine aw_seq ?_
            refine aw_seq ?_
            refine aw_regionD (EF := EF0) hG mixed (by rw [hN]; exact tr5_11) ok5_11 ?_
            simp only [a5_11, d5_11, go_sem, ↓reduceIte, Nat.reduceEqDiff, reduceCtorEq, Nat.reduceAdd, Nat.reduceLT, Nat.reduceLeDiff, Nat.reduceBNe, Nat.reduceBEq, Int.reduceToNat, tL1, hfa]
            refine aw_condF rfl ?_
            refine aw_skip ?_
            simp only [go_sem, ↓reduceIte, Nat.reduceEqDiff, reduceCtorEq, Nat.reduceAdd, Nat.reduceLT, Nat.reduceLeDiff, Nat.reduceBNe, Nat.reduceBEq, Int.reduceToNat]
            refine aw_seq (aw_region (EF := EF0) hG (by rw [hN]; exact tr5_13) ?_)
            simp only [a5_13, go_sem, ↓reduceIte, Nat.reduceEqDiff, reduceCtorEq, Nat.reduceAdd, Nat.reduceLT, Nat.reduceLeDiff, Nat.reduceBNe, Nat.reduceBEq, Int.reduceToNat]
            refine aw_block ?_
            refine aw_loop (α := Nat) (fun j => j ≤ cls.length) (fun j => ⟨mkE [(0, .list (l.map Config.enc) false), (3, .int .i64 i), (4, .int .i64 k), (6, .list (ints li) false), (7, .list (ints li) false), (8, .int .i64 j)], mkH []⟩) (fun j => cls.length - j) 0 (Nat.zero_le _) ?_ ?_
            · refine Le.mk _ _ ?_ ?_ rfl <;> simp only [go_sem, ↓reduceIte, Nat.reduceEqDiff, reduceCtorEq, Nat.reduceAdd, Nat.reduceLT, Nat.reduceLeDiff, Nat.reduceBNe, Nat.reduceBEq, Int.reduceToNat]
            · rintro j hj K3 hK3
              refine aw_seq ?_
              refine aw_seq ?_
              refine aw_region (EF := EF0) hG (by rw [hN]; exact tr5_14) ?_
              simp only [a5_14, go_sem, ↓reduceIte, Nat.reduceEqDiff, reduceCtorEq, Nat.reduceAdd, Nat.reduceLT, Nat.reduceLeDiff, Nat.reduceBNe, Nat.reduceBEq, Int.reduceToNat, ints_len, hlen]
              refine aw_cond (b := _) rfl (fun hf => ?_) (fun hf => ?_)
              · simp only [decide_eq_true_eq, decide_eq_false_iff_not, Bool.and_eq_true, Bool.or_eq_true, Bool.not_eq_true', Bool.not_eq_false', Bool.and_eq_false_iff, Bool.or_eq_false_iff, Int.ofNat_lt, Int.ofNat_le, Nat.not_lt, Nat.not_le, Int.not_lt, Int.not_le] at hf
                have hj1 : j - 1 < cls.length := by omega
                have e1 : ((j : Int) - 1).toNat = j - 1 := by omega
                have e2 : inI ((j : Int) - 1) := ⟨by omega, by omega⟩
                obtain ⟨q1, q2⟩ := hq j hf
                have hA := hat j hf
                have hB := hat (j - 1) hj1
                dsimp only at q1 q2
                generalize limAt (auth ⟨nm, se, ov, cls⟩) cls (j - 1) = B at hB q2
                generalize limAt (auth ⟨nm, se, ov, cls⟩) cls j = A at hA q1 q2
                refine aw_skip ?_
                simp only [go_sem, ↓reduceIte, Nat.reduceEqDiff, reduceCtorEq, Nat.reduceAdd, Nat.reduceLT, Nat.reduceLeDiff, Nat.reduceBNe, Nat.reduceBEq, Int.reduceToNat]
                refine aw_seq ?_
                refine aw_block ?_
                refine aw_seq ?_
                refine aw_regionD (EF := EF0) hG mixed (by rw [hN]; exact tr5_16) ok5_16 ?_
                simp only [a5_16, d5_16, go_sem, ↓reduceIte, Nat.reduceEqDiff, reduceCtorEq, Nat.reduceAdd, Nat.reduceLT, Nat.reduceLeDiff, Nat.reduceBNe, Nat.reduceBEq, Int.reduceToNat, ints_len, hlen, hA, hf, e1, e2, hB, hj1]
                refine ⟨fun h => ⟨h, ?_⟩, fun h => ⟨h, fun h2 => ?_⟩, ?_⟩
                · simp only [Bool.and_eq_true, decide_eq_true_eq] at h; omega
                · rw [h, h2]; rfl
                refine aw_cond (b := _) rfl (fun hg => ?_) (fun hg => ?_)
                · exfalso
                  simp only [decide_eq_true_eq, decide_eq_false_iff_not, Bool.and_eq_true, Bool.or_eq_true, Bool.not_eq_true', Bool.not_eq_false', Bool.and_eq_false_iff, Bool.or_eq_false_iff, Int.ofNat_lt, Int.ofNat_le, Nat.not_lt, Nat.not_le, Int.not_lt, Int.not_le] at hg
                  omega
                refine aw_skip ?_
                simp only [go_sem, ↓reduceIte, Nat.reduceEqDiff, reduceCtorEq, Nat.reduceAdd, Nat.reduceLT, Nat.reduceLeDiff, Nat.reduceBNe, Nat.reduceBEq, Int.reduceToNat]
                refine aw_region (EF := EF0) hG (by rw [hN]; exact tr5_15) ?_
                simp only [a5_15, go_sem, ↓reduceIte, Nat.reduceEqDiff, reduceCtorEq, Nat.reduceAdd, Nat.reduceLT, Nat.reduceLeDiff, Nat.reduceBNe, Nat.reduceBEq, Int.reduceToNat, inI]
                (repeat' apply And.intro) <;> (try first | omega)
                refine hK3 (j + 1) _ ?_ ?_ ?_
                · exact hf
                · omega
                · refine Le.mk _ _ ?_ ?_ rfl <;> simp only [go_sem, ↓reduceIte, Nat.reduceEqDiff, reduceCtorEq, Nat.reduceAdd, Nat.reduceLT, Nat.reduceLeDiff, Nat.reduceBNe, Nat.reduceBEq, Int.reduceToNat]
              · simp only [decide_eq_true_eq, decide_eq_false_iff_not, Bool.and_eq_true, Bool.or_eq_true, Bool.not_eq_true', Bool.not_eq_false', Bool.and_eq_false_iff, Bool.or_eq_false_iff, Int.ofNat_lt, Int.ofNat_le, Nat.not_lt, Nat.not_le, Int.not_lt, Int.not_le] at hf
                refine aw_exit ?_
                simp only [go_sem, ↓reduceIte, Nat.reduceEqDiff, reduceCtorEq, Nat.reduceAdd, Nat.reduceLT, Nat.reduceLeDiff, Nat.reduceBNe, Nat.reduceBEq, Int.reduceToNat]
                refine aw_region (EF := EF0) hG (by rw [hN]; exact tr5_8) ?_
                simp only [a5_8, go_sem, ↓reduceIte, Nat.reduceEqDiff, reduceCtorEq, Nat.reduceAdd, Nat.reduceLT, Nat.reduceLeDiff, Nat.reduceBNe, Nat.reduceBEq, Int.reduceToNat, inI]
                (repeat' apply And.intro) <;> (try first | omega)
                refine hK2 (k + 1) _ ?_ ?_ ?_
                · exact he
                · omega
                · refine Le.mk _ _ ?_ ?_ rfl <;> simp only [go_sem, ↓reduceIte, Nat.reduceEqDiff, reduceCtorEq, Nat.reduceAdd, Nat.reduceLT, Nat.reduceLeDiff, Nat.reduceBNe, Nat.reduceBEq, Int.reduceToNat]
          · simp only [decide_eq_true_eq, decide_eq_false_iff_not, Bool.and_eq_true, Bool.or_eq_true, Bool.not_eq_true', Bool.not_eq_false', Bool.and_eq_false_iff, Bool.or_eq_false_iff, Int.ofNat_lt, Int.ofNat_le, Nat.not_lt, Nat.not_le, Int.not_lt, Int.not_le] at he
            refine aw_exit ?_
            simp only [go_sem, ↓reduceIte, Nat.reduceEqDiff, reduceCtorEq, Nat.reduceAdd, Nat.reduceLT, Nat.reduceLeDiff, Nat.reduceBNe, Nat.reduceBEq, Int.reduceToNat]
            refine aw_region (EF := EF0) hG (by rw [hN]; exact tr5_5) ?_
            simp only [a5_5, go_sem, ↓reduceIte, Nat.reduceEqDiff, reduceCtorEq, Nat.reduceAdd, Nat.reduceLT, Nat.reduceLeDiff, Nat.reduceBNe, Nat.reduceBEq, Int.reduceToNat, inI]
            (repeat' apply And.intro) <;> (try first | omega)
            refine hK (i + 1) _ ?_ ?_ ?_
            · exact hc
            · omega
            · refine Le.mk _ _ ?_ ?_ rfl <;> simp only [go_sem, ↓reduceIte, Nat.reduceEqDiff, reduceCtorEq, Nat.reduceAdd, Nat.reduceLT, Nat.reduceLeDiff, Nat.reduceBNe, Nat.reduceBEq, Int.reduceToNat]
      · simp only [decide_eq_true_eq, decide_eq_false_iff_not, Bool.and_eq_true, Bool.or_eq_true, Bool.not_eq_true', Bool.not_eq_false', Bool.and_eq_false_iff, Bool.or_eq_false_iff, Int.ofNat_lt, Int.ofNat_le, Nat.not_lt, Nat.not_le, Int.not_lt, Int.not_le] at hc
        refine aw_exit ?_
        simp only [go_sem, ↓reduceIte, Nat.reduceEqDiff, reduceCtorEq, Nat.reduceAdd, Nat.reduceLT, Nat.reduceLeDiff, Nat.reduceBNe, Nat.reduceBEq, Int.reduceToNat]
        refine aw_seq (aw_region (EF := EF0) hG (by rw [hN]; exact tr5_18) ?_)
        simp only [a5_18, go_sem, ↓reduceIte, Nat.reduceEqDiff, reduceCtorEq, Nat.reduceAdd, Nat.reduceLT, Nat.reduceLeDiff, Nat.reduceBNe, Nat.reduceBEq, Int.reduceToNat, tL1, fTrue_eq]
        refine aw_ret ?_
        show Q _ _
        refine hQ _ _ (.inl rfl) ?_ ?_ ?_ <;> simp only [outφ, outV, AR.res, go_sem, ↓reduceIte, Nat.reduceEqDiff, reduceCtorEq, Nat.reduceAdd, Nat.reduceLT, Nat.reduceLeDiff, Nat.reduceBNe, Nat.reduceBEq, Int.reduceToNat, fLaw1]
def aLaw4 (x : Config × Config × List UInt8) : List V := [.agg x.1.enc, .agg x.2.1.enc, .str x.2.2]
def fLaw4 (x : Config × Config × List UInt8) : Prop × V := (x.1.ok ∧ x.2.1.ok, .bool true)
theorem placeV_some (o : Option (Nat × Nat)) : ∃ a b, placeV o = .tup [.int .i64 a, .int .i64 b, .bool o.isSome] := by
  cases o with
  | none => exact ⟨0, 0, rfl⟩
  | some p => exact ⟨p.1, p.2, rfl⟩
theorem likeV_some (o : Option (List UInt8)) : likeV o = .tup [.str (o.getD []), .bool o.isSome] := by cases o <;> rfl
set_option maxHeartbeats 4000000 in
theorem law4_p : PureC Tryd.prog UT 6 (gOf aLike fLaw4) := by
  have hG := tL1_ok
  refine PureC.ofArgs aLike_inj Tryd.func6 body6 nm6 res6 ?_
  rintro ⟨x1, x2, s⟩ hv
  refine ⟨by rw [nt6]; simp [aLike], fun C hN Q hQ => ?_⟩
  rw [nt6] at hN
  unfold c6
  obtain ⟨h1, h2⟩ : x1.ok ∧ x2.ok := hv
  have hsm : gOf aCheck fSmall [.list [x1.enc, x2.enc] false] = (True, .bool (smallB [x1, x2])) := gOf_at aCheck_inj [x1, x2] rfl ⟨by simp, fun c hc => by
    simp only [List.mem_cons, List.not_mem_nil, or_false] at hc
    rcases hc with rfl | rfl
    · exact h1
    · exact h2⟩ rfl
  have hlk : gOf aLike fLike [.agg x1.enc, .agg x2.enc, .str s] = (True, likeV (like x1.cabs x2.cabs s)) := gOf_at aLike_inj (x1, x2, s) rfl ⟨h1, h2⟩ rfl
  have hpl : ∀ t, gOf aPlace fPlace [.agg x2.enc, .str t] = (True, placeV (place x2.cabs t)) := fun t => gOf_at aPlace_inj (x2, t) rfl h2 rfl
  have hlaw := fun t => like_law (la := x1.cabs) (lb := x2.cabs) (s := s) (t := t)
  obtain ⟨a1, b1, e1⟩ := placeV_some (place x2.cabs s)
  obtain ⟨a2, b2, e2⟩ := placeV_some (place x2.cabs ((like x1.cabs x2.cabs s).getD []))
  have hp1 := hpl s
  have hp2 := hpl ((like x1.cabs x2.cabs s).getD [])
  rw [e1] at hp1
  rw [e2] at hp2
  rw [likeV_some] at hlk
  have hfin : ((!(like x1.cabs x2.cabs s).isSome) || ((place x2.cabs ((like x1.cabs x2.cabs s).getD [])).isSome && (!(place x2.cabs s).isSome || decide ((like x1.cabs x2.cabs s).getD [] = s)))) = true := by
    cases hl : like x1.cabs x2.cabs s with
    | none => rfl
    | some t =>
      obtain ⟨q1, q2⟩ := hlaw t hl
      simp only [Option.getD_some, Option.isSome_some, Bool.not_true, Bool.false_or, q1, Bool.true_and]
      cases hq : (place x2.cabs s).isSome with
      | false => rfl
      | true => rw [decide_eq_true (q2 hq)]; rfl
  generalize (like x1.cabs x2.cabs s).getD [] = t at hlk hp2 hfin
  generalize (like x1.cabs x2.cabs s).isSome = lo at hlk hfin
  generalize (place x2.cabs t).isSome = b2' at hp2 hfin
  generalize (place x2.cabs s).isSome = b1' at hp1 hfin
  obtain ⟨q1, c1⟩ := x1
  obtain ⟨q2, c2⟩ := x2
  simp only [Config.enc] at hsm hlk hp1 hp2
  refine aw_seq (aw_region (EF := EF0) hG (by rw [hN]; exact tr6_0) ?_)
  simp only [a6_0, go_sem, ↓reduceIte, Nat.reduceEqDiff, reduceCtorEq, Nat.reduceAdd, Nat.reduceLT, Nat.reduceLeDiff, Nat.reduceBNe, Nat.reduceBEq, Int.reduceToNat, aLike, Config.enc]
  refine aw_seq ?_
  refine aw_seq ?_
  refine aw_region (EF := EF0) hG (by rw [hN]; exact tr6_1) ?_
  simp only [a6_1, go_sem, ↓reduceIte, Nat.reduceEqDiff, reduceCtorEq, Nat.reduceAdd, Nat.reduceLT, Nat.reduceLeDiff, Nat.reduceBNe, Nat.reduceBEq, Int.reduceToNat, tL1, hsm]
  cases hs : smallB [⟨q1, c1⟩, ⟨q2, c2⟩] with
  | false =>
    refine aw_condT rfl ?_
    refine aw_seq (aw_region (EF := EF0) hG (by rw [hN]; exact tr6_2) ?_)
    simp only [a6_2, go_sem, ↓reduceIte, Nat.reduceEqDiff, reduceCtorEq, Nat.reduceAdd, Nat.reduceLT, Nat.reduceLeDiff, Nat.reduceBNe, Nat.reduceBEq, Int.reduceToNat, tL1, fTrue_eq]
    refine aw_ret ?_
    show Q _ _
    refine hQ _ _ (.inl rfl) ?_ ?_ ?_ <;> simp only [outφ, outV, AR.res, go_sem, ↓reduceIte, Nat.reduceEqDiff, reduceCtorEq, Nat.reduceAdd, Nat.reduceLT, Nat.reduceLeDiff, Nat.reduceBNe, Nat.reduceBEq, Int.reduceToNat, fLaw4]
  | true =>
    refine aw_condF rfl ?_
    refine aw_skip ?_
    simp only [go_sem, ↓reduceIte, Nat.reduceEqDiff, reduceCtorEq, Nat.reduceAdd, Nat.reduceLT, Nat.reduceLeDiff, Nat.reduceBNe, Nat.reduceBEq, Int.reduceToNat]
    refine aw_seq (aw_region (EF := EF0) hG (by rw [hN]; exact tr6_3) ?_)
    simp only [a6_3, go_sem, ↓reduceIte, Nat.reduceEqDiff, reduceCtorEq, Nat.reduceAdd, Nat.reduceLT, Nat.reduceLeDiff, Nat.reduceBNe, Nat.reduceBEq, Int.reduceToNat, tL1, hlk]
    refine aw_seq (aw_region (EF := EF0) hG (by rw [hN]; exact tr6_4) ?_)
    simp only [a6_4, go_sem, ↓reduceIte, Nat.reduceEqDiff, reduceCtorEq, Nat.reduceAdd, Nat.reduceLT, Nat.reduceLeDiff, Nat.reduceBNe, Nat.reduceBEq, Int.reduceToNat, tL1, hlk]
    refine aw_seq ?_
    refine aw_seq ?_
    refine aw_region (EF := EF0) hG (by rw [hN]; exact tr6_5) ?_
    simp only [a6_5, go_sem, ↓reduceIte, Nat.reduceEqDiff, reduceCtorEq, Nat.reduceAdd, Nat.reduceLT, Nat.reduceLeDiff, Nat.reduceBNe, Nat.reduceBEq, Int.reduceToNat]
    refine aw_condF rfl ?_
    refine aw_skip ?_
    simp only [go_sem, ↓reduceIte, Nat.reduceEqDiff, reduceCtorEq, Nat.reduceAdd, Nat.reduceLT, Nat.reduceLeDiff, Nat.reduceBNe, Nat.reduceBEq, Int.reduceToNat]
    refine aw_seq (aw_region (EF := EF0) hG (by rw [hN]; exact tr6_7) ?_)
    simp only [a6_7, go_sem, ↓reduceIte, Nat.reduceEqDiff, reduceCtorEq, Nat.reduceAdd, Nat.reduceLT, Nat.reduceLeDiff, Nat.reduceBNe, Nat.reduceBEq, Int.reduceToNat, tL1, hp1]
    refine aw_seq (aw_region (EF := EF0) hG (by rw [hN]; exact tr6_8) ?_)
    simp only [a6_8, go_sem, ↓reduceIte, Nat.reduceEqDiff, reduceCtorEq, Nat.reduceAdd, Nat.reduceLT, Nat.reduceLeDiff, Nat.reduceBNe, Nat.reduceBEq, Int.reduceToNat, tL1, hp2]
    refine aw_seq (aw_region (EF := EF0) hG (by rw [hN]; exact tr6_9) ?_)
    simp only [a6_9, go_sem, ↓reduceIte, Nat.reduceEqDiff, reduceCtorEq, Nat.reduceAdd, Nat.reduceLT, Nat.reduceLeDiff, Nat.reduceBNe, Nat.reduceBEq, Int.reduceToNat, tL1, fTrue_eq]
    refine ⟨by cases lo <;> cases b2' <;> cases b1' <;> simp, by cases lo <;> cases b2' <;> simp, ?_⟩
    refine aw_ret ?_
    show Q _ _
    refine hQ _ _ (.inl rfl) ?_ ?_ ?_ <;> simp only [outφ, outV, AR.res, go_sem, ↓reduceIte, Nat.reduceEqDiff, reduceCtorEq, Nat.reduceAdd, Nat.reduceLT, Nat.reduceLeDiff, Nat.reduceBNe, Nat.reduceBEq, Int.reduceToNat, fLaw4, Bool.not_not]
    revert hfin
    cases lo <;> cases b2' <;> cases b1' <;> simp
end Go.Proofs.YtopafipomaiabaaDoor
