/- Split, both. -/
import Derived.Test.YtbakkdnhbeldcaaDoorPa6
namespace Go.Proofs.YtbakkdnhbeldcaaDoor
open Go Go.RowKit
set_option linter.unusedSimpArgs false
set_option linter.unusedVariables false
set_option linter.deprecated false
def aSp (x : List Person × List Int) : List V := [.list (x.1.map Person.enc) false, .list (ints x.2) false]
theorem aSp_inj (a b : List Person × List Int) (h : aSp a = aSp b) : a = b := by
  obtain ⟨a_l, a_at'⟩ := a
  obtain ⟨b_l, b_at'⟩ := b
  simp only [aSp, List.cons.injEq, V.str.injEq, V.int.injEq, V.bool.injEq, V.agg.injEq, V.list.injEq, and_true, true_and] at h
  obtain ⟨h0, h1⟩ := h
  replace h0 := map_inj' Person.inj h0
  subst h0
  replace h1 := ints_inj h1
  subst h1
  rfl
def spV (f : Bool) (y : List Person × List Person × Int) : V := .tup [.list (y.1.map Person.enc) f, .list (y.2.1.map Person.enc) f, .int .i64 y.2.2]
def fSp (f : Bool) (z : List Person × List Int) : Prop × V := (z.1.length ≤ 1000 ∧ z.2.length ≤ 1000, spV f (splitP z.1 z.2))
theorem fSp_eq (f : Bool) (l : List Person) (at' : List Int) : gOf aSp (fSp f) [.list (l.map Person.enc) false, .list (ints at') false] = (l.length ≤ 1000 ∧ at'.length ≤ 1000, spV f (splitP l at')) := gOf_eq aSp_inj (l, at')
theorem nAlone_eq (l : List Person) (f : Bool) : gNrm (gOf aPers fAlone) [.list (l.map Person.enc) f] = (l.length ≤ 140737488355328, .bool (aloneB l)) := fAlone_eq l
theorem sp_7 {l : List Person} {at' : List Int} (h : at'.any (badAt l.length) = true) : splitP l at' = ([], [], 7) := by unfold splitP; rw [if_pos h]
theorem spR_b' {A B : List Person} {na kb : Nat} (h : A.length ≤ na) (hk : 0 < kb) (a b c : List UInt8) : List.take (na + B.length) (spR A (na - A.length) B kb) ++ [[V.str a, V.str b, V.str c]] ++ List.drop (na + B.length + 1) (spR A (na - A.length) B kb) = spR A (na - A.length) (B ++ [(⟨a, b, c⟩ : Person)]) (kb - 1) := by
  have := spR_b A (na - A.length) B kb hk a b c
  rwa [show A.length + (na - A.length) = na by omega] at this
noncomputable def tSp : Tab
  | 28 => (gNrm (gOf aPers fAlone))
  | _ => gNo
theorem tSp_ok : ∀ f, PureC Tryd.prog UT f (tSp f) := fun f => by
  unfold tSp
  split
  · exact alone_p.nrm
  · exact PureC.no
theorem seg_one {l : List Person} {i : Nat} (h : i < l.length) : List.drop i (List.take (i + 1) (l.map Person.enc)) = [l[i].enc] := by
  rw [← List.map_take, ← List.map_drop, take_succ' h, List.drop_left' (by rw [List.length_take]; omega)]; rfl
set_option maxHeartbeats 8000000 in
theorem split2_p : PureC Tryd.prog UT 18 (gOf aSp (fSp true)) := by
  have hG := tSp_ok
  refine PureC.ofArgs aSp_inj Tryd.func18 body18 nm18 res18 ?_
  rintro ⟨l, at'⟩ hv
  refine ⟨by rw [nt18]; simp [aSp], fun C hN Q hQ => ?_⟩
  rw [nt18] at hN
  unfold c18
  obtain ⟨hl, hal⟩ : l.length ≤ 1000 ∧ at'.length ≤ 1000 := hv
  have hal2 : (ints at').length = at'.length := ints_len _
  refine aw_seq (aw_region (EF := EF0) hG (by rw [hN]; exact tr18_0) ?_)
  simp only [a18_0, go_sem, ↓reduceIte, Nat.reduceEqDiff, reduceCtorEq, Nat.reduceAdd, Nat.reduceLT, Nat.reduceLeDiff, Nat.reduceBNe, Nat.reduceBEq, Int.reduceToNat, aSp, tSp, nAlone_eq]
  refine aw_seq (aw_region (EF := EF0) hG (by rw [hN]; exact tr18_1) ?_)
  simp only [a18_1, go_sem, ↓reduceIte, Nat.reduceEqDiff, reduceCtorEq, Nat.reduceAdd, Nat.reduceLT, Nat.reduceLeDiff, Nat.reduceBNe, Nat.reduceBEq, Int.reduceToNat, bl_start, Int.toNat_natCast, tSp, nAlone_eq]
  (repeat' apply And.intro) <;> (try first | omega | (intros; (repeat' apply And.intro) <;> first | assumption | omega | (simp_all; done)))
  refine aw_seq (aw_region (EF := EF0) hG (by rw [hN]; exact tr18_2) ?_)
  simp only [a18_2, go_sem, ↓reduceIte, Nat.reduceEqDiff, reduceCtorEq, Nat.reduceAdd, Nat.reduceLT, Nat.reduceLeDiff, Nat.reduceBNe, Nat.reduceBEq, Int.reduceToNat, tSp, nAlone_eq]
  refine aw_seq ?_
  refine aw_seq (aw_region (EF := EF0) hG (by rw [hN]; exact tr18_3) ?_)
  simp only [a18_3, go_sem, ↓reduceIte, Nat.reduceEqDiff, reduceCtorEq, Nat.reduceAdd, Nat.reduceLT, Nat.reduceLeDiff, Nat.reduceBNe, Nat.reduceBEq, Int.reduceToNat, tSp, nAlone_eq]
  refine aw_block ?_
  refine aw_loop (α := Nat) (fun i => (i ≤ at'.length) ∧ (∀ x ∈ at'.take i, badAt l.length x = false)) (fun i => ⟨mkE [(0, V.list (List.map Person.enc l) false), (1, V.list (ints at') false), (7, V.own 19 l.length), (8, .bool (dupTo at' i)), (20, V.list (ints at') false), (21, V.int IntKind.i64 ↑at'.length), (22, .int .i64 i)], mkH [(19, .arr 4 1 (bl (inA (at'.take i)) l.length))]⟩) (fun i => at'.length - i) 0 (by simp) ?_ ?_
  · refine Le.mk _ _ ?_ ?_ rfl <;> simp only [go_sem, ↓reduceIte, Nat.reduceEqDiff, reduceCtorEq, Nat.reduceAdd, Nat.reduceLT, Nat.reduceLeDiff, Nat.reduceBNe, Nat.reduceBEq, Int.reduceToNat] <;> (repeat' apply And.intro) <;> (try first | rfl | exact wk_frzb rfl rfl rfl | exact wk_fn rfl | exact .nilo _ _ _ rfl rfl)
  · rintro i ⟨hi, hp⟩ KL0 hKL0
    try dsimp only at *
    refine aw_seq (aw_region (EF := EF0) hG (by rw [hN]; exact tr18_4) ?_)
    simp only [a18_4, go_sem, ↓reduceIte, Nat.reduceEqDiff, reduceCtorEq, Nat.reduceAdd, Nat.reduceLT, Nat.reduceLeDiff, Nat.reduceBNe, Nat.reduceBEq, Int.reduceToNat, tSp, nAlone_eq]
    refine aw_seq ?_
    refine aw_cond (b := _) rfl (fun hc4 => ?_) (fun hc4 => ?_)
    · simp only [decide_eq_true_eq, decide_eq_false_iff_not, Bool.and_eq_true, Bool.or_eq_true, Bool.not_eq_true', Bool.not_eq_false', Bool.and_eq_false_iff, Bool.or_eq_false_iff, Int.ofNat_lt, Int.ofNat_le, Nat.not_lt, Nat.not_le, Int.not_lt, Int.not_le] at hc4
      refine aw_skip ?_
      try simp only [go_sem, ↓reduceIte, Nat.reduceEqDiff, reduceCtorEq, Nat.reduceAdd, Nat.reduceLT, Nat.reduceLeDiff, Nat.reduceBNe, Nat.reduceBEq, Int.reduceToNat]
      refine aw_seq ?_
      refine aw_block ?_
      refine aw_seq (aw_region (EF := EF0) hG (by rw [hN]; exact tr18_5) ?_)
      simp only [a18_5, go_sem, ↓reduceIte, Nat.reduceEqDiff, reduceCtorEq, Nat.reduceAdd, Nat.reduceLT, Nat.reduceLeDiff, Nat.reduceBNe, Nat.reduceBEq, Int.reduceToNat, ints_getD _ _ _ hc4, hc4, tSp, nAlone_eq]
      (repeat' apply And.intro) <;> (try first | omega | (intros; (repeat' apply And.intro) <;> first | assumption | omega | (simp_all; done)))
      refine aw_seq ?_
      refine aw_seq (aw_region (EF := EF0) hG (by rw [hN]; exact tr18_6) ?_)
      simp only [a18_6, go_sem, ↓reduceIte, Nat.reduceEqDiff, reduceCtorEq, Nat.reduceAdd, Nat.reduceLT, Nat.reduceLeDiff, Nat.reduceBNe, Nat.reduceBEq, Int.reduceToNat, tSp, nAlone_eq]
      (repeat' apply And.intro) <;> (try first | omega | (intros; (repeat' apply And.intro) <;> first | assumption | omega | (simp_all; done)))
      refine aw_cond (b := _) rfl (fun hb6 => ?_) (fun hb6 => ?_)
      · skip
        refine aw_seq (aw_region (EF := EF0) hG (by rw [hN]; exact tr18_7) ?_)
        simp only [a18_7, go_sem, ↓reduceIte, Nat.reduceEqDiff, reduceCtorEq, Nat.reduceAdd, Nat.reduceLT, Nat.reduceLeDiff, Nat.reduceBNe, Nat.reduceBEq, Int.reduceToNat, tSp, nAlone_eq]
        refine AW.le (s' := ⟨mkE [(4, .list [] true), (5, .list [] true), (6, .int .i64 7)], mkH []⟩) (Le.mk _ _ ?_ ?_ rfl) (aw_ret (hQ _ _ (.inl rfl) ?_ ?_ ?_)) <;> simp only [outφ, outV, AR.res, go_sem, ↓reduceIte, Nat.reduceEqDiff, reduceCtorEq, Nat.reduceAdd, Nat.reduceLT, Nat.reduceLeDiff, Nat.reduceBNe, Nat.reduceBEq, Int.reduceToNat, fSp, spV]
        · rw [sp_7 (any_at (p := badAt l.length) hc4 hb6)]; rfl
      · skip
        have hb6' := hb6
        simp only [Bool.or_eq_false_iff, decide_eq_false_iff_not] at hb6'
        have hsn := inA_snoc hc4 (by omega)
        have hdu : dupTo at' (i + 1) = (dupTo at' i || inA (at'.take i) (at'[i]).toNat) := by rw [dupTo, getD_lt _ _ _ hc4]
        generalize hai : at'[i] = x at hb6' hsn hdu
        obtain ⟨k, rfl⟩ := Int.eq_ofNat_of_zero_le (show 0 ≤ x by omega)
        rw [Int.toNat_natCast] at hdu hsn
        have hkn : k < l.length := by omega
        refine aw_skip ?_
        try simp only [go_sem, ↓reduceIte, Nat.reduceEqDiff, reduceCtorEq, Nat.reduceAdd, Nat.reduceLT, Nat.reduceLeDiff, Nat.reduceBNe, Nat.reduceBEq, Int.reduceToNat]
        refine aw_seq (aw_region (EF := EF0) hG (by rw [hN]; exact tr18_8) ?_)
        simp only [a18_8, go_sem, ↓reduceIte, Nat.reduceEqDiff, reduceCtorEq, Nat.reduceAdd, Nat.reduceLT, Nat.reduceLeDiff, Nat.reduceBNe, Nat.reduceBEq, Int.reduceToNat, hai, Int.toNat_natCast, bl_len, bl_get _ hkn, hkn, tSp, nAlone_eq]
        (repeat' apply And.intro) <;> (try first | omega | (intros; (repeat' apply And.intro) <;> first | assumption | omega | (simp_all; done)))
        refine aw_region (EF := EF0) hG (by rw [hN]; exact tr18_9) ?_
        simp only [a18_9, go_sem, ↓reduceIte, Nat.reduceEqDiff, reduceCtorEq, Nat.reduceAdd, Nat.reduceLT, Nat.reduceLeDiff, Nat.reduceBNe, Nat.reduceBEq, Int.reduceToNat, hai, Int.toNat_natCast, bl_len, bl_get _ hkn, hkn, List.drop_succ_cons, List.drop_zero, bl_set _ _ hkn hsn, tSp, nAlone_eq]
        (repeat' apply And.intro) <;> (try first | omega | (intros; (repeat' apply And.intro) <;> first | assumption | omega | (simp_all; done)))
        refine aw_region (EF := EF0) hG (by rw [hN]; exact tr18_10) ?_
        simp only [a18_10, go_sem, ↓reduceIte, Nat.reduceEqDiff, reduceCtorEq, Nat.reduceAdd, Nat.reduceLT, Nat.reduceLeDiff, Nat.reduceBNe, Nat.reduceBEq, Int.reduceToNat, inI, tSp, nAlone_eq]
        (repeat' apply And.intro) <;> (try first | omega | (intros; (repeat' apply And.intro) <;> first | assumption | omega | (simp_all; done)))
        refine hKL0 (i + 1) _ ?_ ?_ ?_
        · (try dsimp only); exact ⟨hc4, take_all (p := fun x => badAt l.length x = false) hc4 hp hb6⟩
        · (try dsimp only); omega
        · refine Le.mk _ _ ?_ ?_ rfl <;> simp only [go_sem, ↓reduceIte, Nat.reduceEqDiff, reduceCtorEq, Nat.reduceAdd, Nat.reduceLT, Nat.reduceLeDiff, Nat.reduceBNe, Nat.reduceBEq, Int.reduceToNat, hdu] <;> (repeat' apply And.intro) <;> (try first | rfl | exact wk_frzb rfl rfl rfl | exact wk_fn rfl | exact .nilo _ _ _ rfl rfl)
    · simp only [decide_eq_true_eq, decide_eq_false_iff_not, Bool.and_eq_true, Bool.or_eq_true, Bool.not_eq_true', Bool.not_eq_false', Bool.and_eq_false_iff, Bool.or_eq_false_iff, Int.ofNat_lt, Int.ofNat_le, Nat.not_lt, Nat.not_le, Int.not_lt, Int.not_le] at hc4
      refine aw_exit ?_
      simp only [go_sem, ↓reduceIte, Nat.reduceEqDiff, reduceCtorEq, Nat.reduceAdd, Nat.reduceLT, Nat.reduceLeDiff, Nat.reduceBNe, Nat.reduceBEq, Int.reduceToNat]
      refine aw_seq ?_
      have hie : i = at'.length := Nat.le_antisymm hi hc4
      subst hie
      have hva : ∀ x ∈ at', badAt l.length x = false := none_at (Nat.le_refl _) hp
      have hany : ¬ (at'.any (badAt l.length) = true) := by rw [any_no (Nat.le_refl _) hp]; decide
      rw [List.take_length] at hp
      refine aw_seq (aw_region (EF := EF0) hG (by rw [hN]; exact tr18_11) ?_)
      simp only [a18_11, go_sem, ↓reduceIte, Nat.reduceEqDiff, reduceCtorEq, Nat.reduceAdd, Nat.reduceLT, Nat.reduceLeDiff, Nat.reduceBNe, Nat.reduceBEq, Int.reduceToNat, List.take_length, tSp, nAlone_eq]
      refine aw_cond (b := _) rfl (fun hb11 => ?_) (fun hb11 => ?_)
      · skip
        refine aw_seq (aw_region (EF := EF0) hG (by rw [hN]; exact tr18_12) ?_)
        simp only [a18_12, go_sem, ↓reduceIte, Nat.reduceEqDiff, reduceCtorEq, Nat.reduceAdd, Nat.reduceLT, Nat.reduceLeDiff, Nat.reduceBNe, Nat.reduceBEq, Int.reduceToNat, tSp, nAlone_eq]
        refine AW.le (s' := ⟨mkE [(4, .list [] true), (5, .list [] true), (6, .int .i64 6)], mkH []⟩) (Le.mk _ _ ?_ ?_ rfl) (aw_ret (hQ _ _ (.inl rfl) ?_ ?_ ?_)) <;> simp only [outφ, outV, AR.res, go_sem, ↓reduceIte, Nat.reduceEqDiff, reduceCtorEq, Nat.reduceAdd, Nat.reduceLT, Nat.reduceLeDiff, Nat.reduceBNe, Nat.reduceBEq, Int.reduceToNat, fSp, spV]
        · rw [splitP, if_neg hany, if_pos hb11]; rfl
      · skip
        have hn11 : ¬ (dupTo at' at'.length = true) := by rw [hb11]; decide
        refine aw_skip ?_
        try simp only [go_sem, ↓reduceIte, Nat.reduceEqDiff, reduceCtorEq, Nat.reduceAdd, Nat.reduceLT, Nat.reduceLeDiff, Nat.reduceBNe, Nat.reduceBEq, Int.reduceToNat]
        refine aw_seq ?_
        refine aw_seq (aw_region (EF := EF0) hG (by rw [hN]; exact tr18_13) ?_)
        simp only [a18_13, go_sem, ↓reduceIte, Nat.reduceEqDiff, reduceCtorEq, Nat.reduceAdd, Nat.reduceLT, Nat.reduceLeDiff, Nat.reduceBNe, Nat.reduceBEq, Int.reduceToNat, tSp, nAlone_eq]
        refine aw_cond (b := _) rfl (fun hb13 => ?_) (fun hb13 => ?_)
        · skip
          refine aw_seq (aw_region (EF := EF0) hG (by rw [hN]; exact tr18_14) ?_)
          simp only [a18_14, go_sem, ↓reduceIte, Nat.reduceEqDiff, reduceCtorEq, Nat.reduceAdd, Nat.reduceLT, Nat.reduceLeDiff, Nat.reduceBNe, Nat.reduceBEq, Int.reduceToNat, tSp, nAlone_eq]
          refine AW.le (s' := ⟨mkE [(4, .list [] true), (5, .list [] true), (6, .int .i64 2)], mkH []⟩) (Le.mk _ _ ?_ ?_ rfl) (aw_ret (hQ _ _ (.inl rfl) ?_ ?_ ?_)) <;> simp only [outφ, outV, AR.res, go_sem, ↓reduceIte, Nat.reduceEqDiff, reduceCtorEq, Nat.reduceAdd, Nat.reduceLT, Nat.reduceLeDiff, Nat.reduceBNe, Nat.reduceBEq, Int.reduceToNat, fSp, spV]
          · rw [splitP, if_neg hany, if_neg hn11, if_pos (by simpa using hb13)]; rfl
        · skip
          have hn13 : ¬ at'.length = 0 := by simpa using hb13
          refine aw_skip ?_
          try simp only [go_sem, ↓reduceIte, Nat.reduceEqDiff, reduceCtorEq, Nat.reduceAdd, Nat.reduceLT, Nat.reduceLeDiff, Nat.reduceBNe, Nat.reduceBEq, Int.reduceToNat]
          have hcn := cn_in hva at'.length (Nat.le_refl _) hb11
          rw [List.take_length] at hcn
          have hle : at'.length ≤ l.length := by have := cn_le (inA at') l.length; omega
          have hnot := cn_not (inA at') l.length
          generalize hNa : at'.length = na at hcn hle hn13
          refine aw_seq (aw_region (EF := EF0) hG (by rw [hN]; exact tr18_15) ?_)
          simp only [a18_15, go_sem, ↓reduceIte, Nat.reduceEqDiff, reduceCtorEq, Nat.reduceAdd, Nat.reduceLT, Nat.reduceLeDiff, Nat.reduceBNe, Nat.reduceBEq, Int.reduceToNat, Int.toNat_natCast, spR_start l.length na hle, tSp, nAlone_eq]
          (repeat' apply And.intro) <;> (try first | omega | (intros; (repeat' apply And.intro) <;> first | assumption | omega | (simp_all; done)))
          refine aw_seq (aw_region (EF := EF0) hG (by rw [hN]; exact tr18_16) ?_)
          simp only [a18_16, go_sem, ↓reduceIte, Nat.reduceEqDiff, reduceCtorEq, Nat.reduceAdd, Nat.reduceLT, Nat.reduceLeDiff, Nat.reduceBNe, Nat.reduceBEq, Int.reduceToNat, hNa, tSp, nAlone_eq]
          refine aw_seq ?_
          refine aw_seq (aw_region (EF := EF0) hG (by rw [hN]; exact tr18_17) ?_)
          simp only [a18_17, go_sem, ↓reduceIte, Nat.reduceEqDiff, reduceCtorEq, Nat.reduceAdd, Nat.reduceLT, Nat.reduceLeDiff, Nat.reduceBNe, Nat.reduceBEq, Int.reduceToNat, tSp, nAlone_eq]
          refine aw_block ?_
          refine aw_loop (α := Nat) (fun j => (j ≤ l.length)) (fun j => ⟨mkE [(0, V.list (List.map Person.enc l) false), (7, V.own 19 l.length), (11, V.own 51 l.length), (12, .int .i64 ((selTo (inA at') l j).length : Nat)), (13, .int .i64 ((na : Int) + ((selTo (fun i => !inA at' i) l j).length : Nat))), (55, V.int IntKind.i64 ↑l.length), (56, .int .i64 j)], mkH [(19, Ob.arr 4 1 (bl (inA at') l.length)), (51, .arr 30 3 (spR (selTo (inA at') l j) (na - (selTo (inA at') l j).length) (selTo (fun i => !inA at' i) l j) (l.length - na - (selTo (fun i => !inA at' i) l j).length)))]⟩) (fun j => l.length - j) 0 (by simp) ?_ ?_
          · refine Le.mk _ _ ?_ ?_ rfl <;> simp only [go_sem, ↓reduceIte, Nat.reduceEqDiff, reduceCtorEq, Nat.reduceAdd, Nat.reduceLT, Nat.reduceLeDiff, Nat.reduceBNe, Nat.reduceBEq, Int.reduceToNat, selTo, List.length_nil, Int.add_zero, Nat.sub_zero, Int.natCast_zero] <;> (repeat' apply And.intro) <;> (try first | rfl | exact wk_frzb rfl rfl rfl | exact wk_fn rfl | exact .nilo _ _ _ rfl rfl)
          · rintro j hj KL2 hKL2
            try dsimp only at *
            refine aw_seq (aw_region (EF := EF0) hG (by rw [hN]; exact tr18_18) ?_)
            simp only [a18_18, go_sem, ↓reduceIte, Nat.reduceEqDiff, reduceCtorEq, Nat.reduceAdd, Nat.reduceLT, Nat.reduceLeDiff, Nat.reduceBNe, Nat.reduceBEq, Int.reduceToNat, tSp, nAlone_eq]
            refine aw_seq ?_
            refine aw_cond (b := _) rfl (fun hc18 => ?_) (fun hc18 => ?_)
            · simp only [decide_eq_true_eq, decide_eq_false_iff_not, Bool.and_eq_true, Bool.or_eq_true, Bool.not_eq_true', Bool.not_eq_false', Bool.and_eq_false_iff, Bool.or_eq_false_iff, Int.ofNat_lt, Int.ofNat_le, Nat.not_lt, Nat.not_le, Int.not_lt, Int.not_le] at hc18
              refine aw_skip ?_
              try simp only [go_sem, ↓reduceIte, Nat.reduceEqDiff, reduceCtorEq, Nat.reduceAdd, Nat.reduceLT, Nat.reduceLeDiff, Nat.reduceBNe, Nat.reduceBEq, Int.reduceToNat]
              refine aw_seq ?_
              refine aw_block ?_
              have hA1 := sel_len (inA at') l j
              have hB1 := sel_len (fun i => !inA at' i) l j
              have hAB := cn_not (inA at') j
              have hA2 : cn (inA at') j ≤ na := by rw [← hcn]; exact cn_mono _ hj
              have hB2 : cn (fun i => !inA at' i) j ≤ l.length - na := by have := cn_mono (fun i => !inA at' i) hj; omega
              have hA3 : inA at' j = true → cn (inA at') j < na := fun h => by rw [← hcn]; exact cn_lt _ hc18 h
              have hB3 : inA at' j = false → cn (fun i => !inA at' i) j < l.length - na := fun h => by have := cn_lt (fun i => !inA at' i) hc18 (by rw [h]; rfl); omega
              have hsA : selTo (inA at') l (j + 1) = selTo (inA at') l j ++ (if inA at' j = true then [l[j]] else []) := by rw [selTo, getD_lt _ _ _ hc18]
              have hsB : selTo (fun i => !inA at' i) l (j + 1) = selTo (fun i => !inA at' i) l j ++ (if inA at' j = true then [] else [l[j]]) := by rw [selTo, getD_lt _ _ _ hc18]; cases inA at' j <;> rfl
              have hseg := seg_one hc18
              rw [← hA1] at hA2 hA3 hAB
              rw [← hB1] at hB2 hB3 hAB
              generalize selTo (inA at') l j = A at hA2 hA3 hAB hsA
              generalize selTo (fun i => !inA at' i) l j = B at hB2 hB3 hAB hsB
              generalize hxx : l[j] = x at hsA hsB hseg
              obtain ⟨a, b, c⟩ := x
              simp only [Person.enc] at hseg
              have hlen : (spR A (na - A.length) B (l.length - na - B.length)).length = l.length := by rw [spR_len]; omega
              have hl0 : 0 < l.length := by omega
              have ej : ((j : Int) + 1).toNat = j + 1 := by omega
              refine aw_seq (aw_region (EF := EF0) hG (by rw [hN]; exact tr18_19) ?_)
              simp only [a18_19, go_sem, ↓reduceIte, Nat.reduceEqDiff, reduceCtorEq, Nat.reduceAdd, Nat.reduceLT, Nat.reduceLeDiff, Nat.reduceBNe, Nat.reduceBEq, Int.reduceToNat, tSp, nAlone_eq]
              refine aw_seq (aw_region (EF := EF0) hG (by rw [hN]; exact tr18_20) ?_)
              simp only [a18_20, go_sem, ↓reduceIte, Nat.reduceEqDiff, reduceCtorEq, Nat.reduceAdd, Nat.reduceLT, Nat.reduceLeDiff, Nat.reduceBNe, Nat.reduceBEq, Int.reduceToNat, bl_len, bl_get _ hc18, hc18, tSp, nAlone_eq]
              (repeat' apply And.intro) <;> (try first | omega | (intros; (repeat' apply And.intro) <;> first | assumption | omega | (simp_all; done)))
              refine aw_cond (b := _) rfl (fun hb20 => ?_) (fun hb20 => ?_)
              · skip
                have hlt := hA3 hb20
                have hpa := spR_a A (na - A.length) B (l.length - na - B.length) (by omega) a b c
                refine aw_regionD (EF := EF0) hG mixed (by rw [hN]; exact tr18_21) ok18_21 ?_
                simp only [a18_21, d18_21, go_sem, ↓reduceIte, Nat.reduceEqDiff, reduceCtorEq, Nat.reduceAdd, Nat.reduceLT, Nat.reduceLeDiff, Nat.reduceBNe, Nat.reduceBEq, Int.reduceToNat, inI, ej, Int.toNat_natCast, hlen, hl0, hseg, hpa, tSp, nAlone_eq]
                (repeat' apply And.intro) <;> (try first | omega | (intros; (repeat' apply And.intro) <;> first | assumption | omega | (simp_all; done)))
                refine aw_region (EF := EF0) hG (by rw [hN]; exact tr18_23) ?_
                simp only [a18_23, go_sem, ↓reduceIte, Nat.reduceEqDiff, reduceCtorEq, Nat.reduceAdd, Nat.reduceLT, Nat.reduceLeDiff, Nat.reduceBNe, Nat.reduceBEq, Int.reduceToNat, inI, tSp, nAlone_eq]
                (repeat' apply And.intro) <;> (try first | omega | (intros; (repeat' apply And.intro) <;> first | assumption | omega | (simp_all; done)))
                refine hKL2 (j + 1) _ ?_ ?_ ?_
                · (try dsimp only); omega
                · (try dsimp only); omega
                · refine Le.mk _ _ ?_ ?_ rfl <;> simp only [go_sem, ↓reduceIte, Nat.reduceEqDiff, reduceCtorEq, Nat.reduceAdd, Nat.reduceLT, Nat.reduceLeDiff, Nat.reduceBNe, Nat.reduceBEq, Int.reduceToNat, hsA, hsB, hb20, List.length_append, List.length_cons, List.length_nil, cast_succ, Nat.zero_add, Nat.sub_sub, if_true, List.append_nil] <;> (repeat' apply And.intro) <;> (try first | rfl | exact wk_frzb rfl rfl rfl | exact wk_fn rfl | exact .nilo _ _ _ rfl rfl)
              · skip
                have hlt := hB3 hb20
                have hpb := spR_b' (A := A) (B := B) (na := na) (kb := l.length - na - B.length) hA2 (by omega) a b c
                have ena : ((na : Int) + (B.length : Int)).toNat = na + B.length := by omega
                refine aw_regionD (EF := EF0) hG mixed (by rw [hN]; exact tr18_22) ok18_22 ?_
                simp only [a18_22, d18_22, go_sem, ↓reduceIte, Nat.reduceEqDiff, reduceCtorEq, Nat.reduceAdd, Nat.reduceLT, Nat.reduceLeDiff, Nat.reduceBNe, Nat.reduceBEq, Int.reduceToNat, inI, ej, Int.toNat_natCast, hlen, hl0, hseg, ena, hpb, tSp, nAlone_eq]
                (repeat' apply And.intro) <;> (try first | omega | (intros; (repeat' apply And.intro) <;> first | assumption | omega | (simp_all; done)))
                refine aw_region (EF := EF0) hG (by rw [hN]; exact tr18_23) ?_
                simp only [a18_23, go_sem, ↓reduceIte, Nat.reduceEqDiff, reduceCtorEq, Nat.reduceAdd, Nat.reduceLT, Nat.reduceLeDiff, Nat.reduceBNe, Nat.reduceBEq, Int.reduceToNat, inI, tSp, nAlone_eq]
                (repeat' apply And.intro) <;> (try first | omega | (intros; (repeat' apply And.intro) <;> first | assumption | omega | (simp_all; done)))
                refine hKL2 (j + 1) _ ?_ ?_ ?_
                · (try dsimp only); omega
                · (try dsimp only); omega
                · refine Le.mk _ _ ?_ ?_ rfl <;> simp only [go_sem, ↓reduceIte, Nat.reduceEqDiff, reduceCtorEq, Nat.reduceAdd, Nat.reduceLT, Nat.reduceLeDiff, Nat.reduceBNe, Nat.reduceBEq, Int.reduceToNat, hsA, hsB, hb20, List.length_append, List.length_cons, List.length_nil, cast_succ, Nat.zero_add, Nat.sub_sub, Bool.false_eq_true, if_false, List.append_nil, Int.add_assoc] <;> (repeat' apply And.intro) <;> (try first | rfl | exact wk_frzb rfl rfl rfl | exact wk_fn rfl | exact .nilo _ _ _ rfl rfl)
            · simp only [decide_eq_true_eq, decide_eq_false_iff_not, Bool.and_eq_true, Bool.or_eq_true, Bool.not_eq_true', Bool.not_eq_false', Bool.and_eq_false_iff, Bool.or_eq_false_iff, Int.ofNat_lt, Int.ofNat_le, Nat.not_lt, Nat.not_le, Int.not_lt, Int.not_le] at hc18
              refine aw_exit ?_
              simp only [go_sem, ↓reduceIte, Nat.reduceEqDiff, reduceCtorEq, Nat.reduceAdd, Nat.reduceLT, Nat.reduceLeDiff, Nat.reduceBNe, Nat.reduceBEq, Int.reduceToNat]
              have hje : j = l.length := Nat.le_antisymm hj hc18
              subst hje
              have hA1 : (selA at' l).length = na := by unfold selA; rw [sel_len, hcn]
              have hB1 : (selB at' l).length = l.length - na := by unfold selB; rw [sel_len]; omega
              have hl0 : 0 < l.length := by omega
              have eA : selTo (inA at') l l.length = selA at' l := rfl
              have eB : selTo (fun i => !inA at' i) l l.length = selB at' l := rfl
              have hta : List.take na (List.map Person.enc (selA at' l ++ selB at' l)) = List.map Person.enc (selA at' l) := by rw [← List.map_take, List.take_left' hA1]
              have htb : List.take (l.length - na) (List.drop na (List.map Person.enc (selA at' l ++ selB at' l))) = List.map Person.enc (selB at' l) := by rw [← List.map_drop, List.drop_left' hA1, List.take_of_length_le (by rw [List.length_map, hB1]; exact Nat.le_refl _)]
              have hAl : (selA at' l).length ≤ 140737488355328 := by omega
              have hBl : (selB at' l).length ≤ 140737488355328 := by omega
              have hlen : (List.map Person.enc (selA at' l ++ selB at' l)).length = l.length := by rw [List.length_map, List.length_append]; omega
              refine aw_seq (aw_regionD (EF := EF0) hG mixed (by rw [hN]; exact tr18_24) ok18_24 ?_)
              simp only [a18_24, d18_24, go_sem, ↓reduceIte, Nat.reduceEqDiff, reduceCtorEq, Nat.reduceAdd, Nat.reduceLT, Nat.reduceLeDiff, Nat.reduceBNe, Nat.reduceBEq, Int.reduceToNat, eA, eB, hA1, hB1, Nat.sub_self, spR_done, hl0, hle, Int.toNat_natCast, hlen, tSp, nAlone_eq]
              (repeat' apply And.intro) <;> (try first | omega | (intros; (repeat' apply And.intro) <;> first | assumption | omega | (simp_all; done)))
              refine aw_seq ?_
              refine aw_seq (aw_region (EF := EF0) hG (by rw [hN]; exact tr18_25) ?_)
              simp only [a18_25, go_sem, ↓reduceIte, Nat.reduceEqDiff, reduceCtorEq, Nat.reduceAdd, Nat.reduceLT, Nat.reduceLeDiff, Nat.reduceBNe, Nat.reduceBEq, Int.reduceToNat, hta, htb, hlen, List.drop_zero, Nat.sub_zero, hAl, hBl, tSp, nAlone_eq]
              (repeat' apply And.intro) <;> (try first | omega | (intros; (repeat' apply And.intro) <;> first | assumption | omega | (simp_all; done)))
              refine aw_cond (b := _) rfl (fun hb25 => ?_) (fun hb25 => ?_)
              · skip
                refine aw_seq (aw_region (EF := EF0) hG (by rw [hN]; exact tr18_26) ?_)
                simp only [a18_26, go_sem, ↓reduceIte, Nat.reduceEqDiff, reduceCtorEq, Nat.reduceAdd, Nat.reduceLT, Nat.reduceLeDiff, Nat.reduceBNe, Nat.reduceBEq, Int.reduceToNat, tSp, nAlone_eq]
                refine AW.le (s' := ⟨mkE [(4, .list [] true), (5, .list [] true), (6, .int .i64 25)], mkH []⟩) (Le.mk _ _ ?_ ?_ rfl) (aw_ret (hQ _ _ (.inl rfl) ?_ ?_ ?_)) <;> simp only [outφ, outV, AR.res, go_sem, ↓reduceIte, Nat.reduceEqDiff, reduceCtorEq, Nat.reduceAdd, Nat.reduceLT, Nat.reduceLeDiff, Nat.reduceBNe, Nat.reduceBEq, Int.reduceToNat, fSp, spV]
                · rw [splitP, if_neg hany, if_neg hn11, if_neg (by omega), if_pos hb25]; rfl
              · skip
                refine aw_skip ?_
                try simp only [go_sem, ↓reduceIte, Nat.reduceEqDiff, reduceCtorEq, Nat.reduceAdd, Nat.reduceLT, Nat.reduceLeDiff, Nat.reduceBNe, Nat.reduceBEq, Int.reduceToNat]
                refine aw_seq (aw_region (EF := EF0) hG (by rw [hN]; exact tr18_27) ?_)
                simp only [a18_27, go_sem, ↓reduceIte, Nat.reduceEqDiff, reduceCtorEq, Nat.reduceAdd, Nat.reduceLT, Nat.reduceLeDiff, Nat.reduceBNe, Nat.reduceBEq, Int.reduceToNat, tSp, nAlone_eq]
                refine AW.le (s' := ⟨mkE [(4, .list ((selA at' l).map Person.enc) true), (5, .list ((selB at' l).map Person.enc) true), (6, .int .i64 0)], mkH []⟩) (Le.mk _ _ ?_ ?_ rfl) (aw_ret (hQ _ _ (.inl rfl) ?_ ?_ ?_)) <;> simp only [outφ, outV, AR.res, go_sem, ↓reduceIte, Nat.reduceEqDiff, reduceCtorEq, Nat.reduceAdd, Nat.reduceLT, Nat.reduceLeDiff, Nat.reduceBNe, Nat.reduceBEq, Int.reduceToNat, fSp, spV]
                · exact ⟨wk_frzvE (rows := List.map Person.enc (selA at' l ++ selB at' l)) rfl hlen rfl ((Person.purs _).2 trivial) (by rw [List.drop_zero, hta]), wk_frzvE (rows := List.map Person.enc (selA at' l ++ selB at' l)) rfl hlen rfl ((Person.purs _).2 trivial) htb⟩
                · rw [splitP, if_neg hany, if_neg hn11, if_neg (by omega), if_neg (by rw [hb25]; decide)]
/-! The reference. -/
theorem dup_mono (at' : List Int) {i n : Nat} (h : i ≤ n) (hd : dupTo at' i = true) : dupTo at' n = true := by
  induction n with
  | zero => rw [show i = 0 by omega] at hd; exact hd
  | succ n ih =>
    by_cases e : i = n + 1
    · rw [← e]; exact hd
    · rw [dupTo, ih (by omega), Bool.true_or]
theorem enc_snoc (A : List Person) (a b c : List UInt8) : A.map Person.enc ++ [[V.str a, V.str b, V.str c]] = (A ++ [(⟨a, b, c⟩ : Person)]).map Person.enc := by rw [List.map_append]; rfl
noncomputable def trSp : Tab
  | 32 => (gOf aPers fFits)
  | _ => gNo
theorem trSp_ok : ∀ f, PureC Tryd.prog UT f (trSp f) := fun f => by
  unfold trSp
  split
  · exact rfits_p
  · exact PureC.no
set_option maxHeartbeats 8000000 in
theorem rsplit_p : PureC Tryd.prog UT 19 (gOf aSp (fSp false)) := by
  have hG := trSp_ok
  refine PureC.ofArgs aSp_inj Tryd.func19 body19 nm19 res19 ?_
  rintro ⟨l, at'⟩ hv
  refine ⟨by rw [nt19]; simp [aSp], fun C hN Q hQ => ?_⟩
  rw [nt19] at hN
  unfold c19
  obtain ⟨hl, hal⟩ : l.length ≤ 1000 ∧ at'.length ≤ 1000 := hv
  refine aw_seq (aw_region (EF := EF0) hG (by rw [hN]; exact tr19_0) ?_)
  simp only [a19_0, go_sem, ↓reduceIte, Nat.reduceEqDiff, reduceCtorEq, Nat.reduceAdd, Nat.reduceLT, Nat.reduceLeDiff, Nat.reduceBNe, Nat.reduceBEq, Int.reduceToNat, aSp, trSp, fFits_eq]
  refine aw_seq (aw_region (EF := EF0) hG (by rw [hN]; exact tr19_1) ?_)
  simp only [a19_1, go_sem, ↓reduceIte, Nat.reduceEqDiff, reduceCtorEq, Nat.reduceAdd, Nat.reduceLT, Nat.reduceLeDiff, Nat.reduceBNe, Nat.reduceBEq, Int.reduceToNat, bl_start, Int.toNat_natCast, trSp, fFits_eq]
  (repeat' apply And.intro) <;> (try first | omega | (intros; (repeat' apply And.intro) <;> first | assumption | omega | (simp_all; done)))
  refine aw_seq ?_
  refine aw_seq (aw_region (EF := EF0) hG (by rw [hN]; exact tr19_2) ?_)
  simp only [a19_2, go_sem, ↓reduceIte, Nat.reduceEqDiff, reduceCtorEq, Nat.reduceAdd, Nat.reduceLT, Nat.reduceLeDiff, Nat.reduceBNe, Nat.reduceBEq, Int.reduceToNat, trSp, fFits_eq]
  refine aw_block ?_
  refine aw_loop (α := Nat) (fun i => (i ≤ at'.length) ∧ (∀ x ∈ at'.take i, badAt l.length x = false)) (fun i => ⟨mkE [(0, V.list (List.map Person.enc l) false), (1, V.list (ints at') false), (7, V.own 15 l.length), (8, .int .i64 i)], mkH [(15, Ob.arr 4 1 (bl (fun x => false) l.length))]⟩) (fun i => at'.length - i) 0 (by simp) ?_ ?_
  · refine Le.mk _ _ ?_ ?_ rfl <;> simp only [go_sem, ↓reduceIte, Nat.reduceEqDiff, reduceCtorEq, Nat.reduceAdd, Nat.reduceLT, Nat.reduceLeDiff, Nat.reduceBNe, Nat.reduceBEq, Int.reduceToNat] <;> (repeat' apply And.intro) <;> (try first | rfl | exact wk_frzb rfl rfl rfl | exact wk_fn rfl | exact .nilo _ _ _ rfl rfl)
  · rintro i ⟨hi, hp⟩ KL0 hKL0
    try dsimp only at *
    refine aw_seq ?_
    refine aw_seq (aw_region (EF := EF0) hG (by rw [hN]; exact tr19_3) ?_)
    simp only [a19_3, go_sem, ↓reduceIte, Nat.reduceEqDiff, reduceCtorEq, Nat.reduceAdd, Nat.reduceLT, Nat.reduceLeDiff, Nat.reduceBNe, Nat.reduceBEq, Int.reduceToNat, trSp, fFits_eq]
    refine aw_cond (b := _) rfl (fun hc3 => ?_) (fun hc3 => ?_)
    · simp only [decide_eq_true_eq, decide_eq_false_iff_not, Bool.and_eq_true, Bool.or_eq_true, Bool.not_eq_true', Bool.not_eq_false', Bool.and_eq_false_iff, Bool.or_eq_false_iff, Int.ofNat_lt, Int.ofNat_le, Nat.not_lt, Nat.not_le, Int.not_lt, Int.not_le] at hc3
      refine aw_skip ?_
      try simp only [go_sem, ↓reduceIte, Nat.reduceEqDiff, reduceCtorEq, Nat.reduceAdd, Nat.reduceLT, Nat.reduceLeDiff, Nat.reduceBNe, Nat.reduceBEq, Int.reduceToNat]
      refine aw_seq ?_
      refine aw_block ?_
      refine aw_seq (aw_region (EF := EF0) hG (by rw [hN]; exact tr19_5) ?_)
      simp only [a19_5, go_sem, ↓reduceIte, Nat.reduceEqDiff, reduceCtorEq, Nat.reduceAdd, Nat.reduceLT, Nat.reduceLeDiff, Nat.reduceBNe, Nat.reduceBEq, Int.reduceToNat, ints_getD _ _ _ hc3, hc3, trSp, fFits_eq]
      (repeat' apply And.intro) <;> (try first | omega | (intros; (repeat' apply And.intro) <;> first | assumption | omega | (simp_all; done)))
      refine aw_cond (b := _) rfl (fun hb5 => ?_) (fun hb5 => ?_)
      · skip
        refine aw_seq (aw_region (EF := EF0) hG (by rw [hN]; exact tr19_6) ?_)
        simp only [a19_6, go_sem, ↓reduceIte, Nat.reduceEqDiff, reduceCtorEq, Nat.reduceAdd, Nat.reduceLT, Nat.reduceLeDiff, Nat.reduceBNe, Nat.reduceBEq, Int.reduceToNat, trSp, fFits_eq]
        refine AW.le (s' := ⟨mkE [(4, .list [] false), (5, .list [] false), (6, .int .i64 7)], mkH []⟩) (Le.mk _ _ ?_ ?_ rfl) (aw_ret (hQ _ _ (.inl rfl) ?_ ?_ ?_)) <;> simp only [outφ, outV, AR.res, go_sem, ↓reduceIte, Nat.reduceEqDiff, reduceCtorEq, Nat.reduceAdd, Nat.reduceLT, Nat.reduceLeDiff, Nat.reduceBNe, Nat.reduceBEq, Int.reduceToNat, fSp, spV]
        · rw [sp_7 (any_at (p := badAt l.length) hc3 hb5)]; rfl
      · skip
        refine aw_skip ?_
        try simp only [go_sem, ↓reduceIte, Nat.reduceEqDiff, reduceCtorEq, Nat.reduceAdd, Nat.reduceLT, Nat.reduceLeDiff, Nat.reduceBNe, Nat.reduceBEq, Int.reduceToNat]
        refine aw_region (EF := EF0) hG (by rw [hN]; exact tr19_4) ?_
        simp only [a19_4, go_sem, ↓reduceIte, Nat.reduceEqDiff, reduceCtorEq, Nat.reduceAdd, Nat.reduceLT, Nat.reduceLeDiff, Nat.reduceBNe, Nat.reduceBEq, Int.reduceToNat, inI, trSp, fFits_eq]
        (repeat' apply And.intro) <;> (try first | omega | (intros; (repeat' apply And.intro) <;> first | assumption | omega | (simp_all; done)))
        refine hKL0 (i + 1) _ ?_ ?_ ?_
        · (try dsimp only); exact ⟨hc3, take_all (p := fun x => badAt l.length x = false) hc3 hp hb5⟩
        · (try dsimp only); omega
        · refine Le.mk _ _ ?_ ?_ rfl <;> simp only [go_sem, ↓reduceIte, Nat.reduceEqDiff, reduceCtorEq, Nat.reduceAdd, Nat.reduceLT, Nat.reduceLeDiff, Nat.reduceBNe, Nat.reduceBEq, Int.reduceToNat] <;> (repeat' apply And.intro) <;> (try first | rfl | exact wk_frzb rfl rfl rfl | exact wk_fn rfl | exact .nilo _ _ _ rfl rfl)
    · simp only [decide_eq_true_eq, decide_eq_false_iff_not, Bool.and_eq_true, Bool.or_eq_true, Bool.not_eq_true', Bool.not_eq_false', Bool.and_eq_false_iff, Bool.or_eq_false_iff, Int.ofNat_lt, Int.ofNat_le, Nat.not_lt, Nat.not_le, Int.not_lt, Int.not_le] at hc3
      refine aw_exit ?_
      simp only [go_sem, ↓reduceIte, Nat.reduceEqDiff, reduceCtorEq, Nat.reduceAdd, Nat.reduceLT, Nat.reduceLeDiff, Nat.reduceBNe, Nat.reduceBEq, Int.reduceToNat]
      refine aw_seq ?_
      have hie : i = at'.length := Nat.le_antisymm hi hc3
      subst hie
      have hva : ∀ x ∈ at', badAt l.length x = false := none_at (Nat.le_refl _) hp
      have hany : ¬ (at'.any (badAt l.length) = true) := by rw [any_no (Nat.le_refl _) hp]; decide
      refine aw_seq (aw_region (EF := EF0) hG (by rw [hN]; exact tr19_7) ?_)
      simp only [a19_7, go_sem, ↓reduceIte, Nat.reduceEqDiff, reduceCtorEq, Nat.reduceAdd, Nat.reduceLT, Nat.reduceLeDiff, Nat.reduceBNe, Nat.reduceBEq, Int.reduceToNat, trSp, fFits_eq]
      refine aw_block ?_
      refine aw_loop (α := Nat) (fun m => (m ≤ at'.length) ∧ (dupTo at' m = false)) (fun m => ⟨mkE [(0, V.list (List.map Person.enc l) false), (1, V.list (ints at') false), (7, V.own 15 l.length), (9, .int .i64 m)], mkH [(15, .arr 4 1 (bl (inA (at'.take m)) l.length))]⟩) (fun m => at'.length - m) 0 ⟨Nat.zero_le _, rfl⟩ ?_ ?_
      · refine Le.mk _ _ ?_ ?_ rfl <;> simp only [go_sem, ↓reduceIte, Nat.reduceEqDiff, reduceCtorEq, Nat.reduceAdd, Nat.reduceLT, Nat.reduceLeDiff, Nat.reduceBNe, Nat.reduceBEq, Int.reduceToNat, List.take_zero] <;> (repeat' apply And.intro) <;> (try first | rfl | exact wk_frzb rfl rfl rfl | exact wk_fn rfl | exact .nilo _ _ _ rfl rfl)
      · rintro m ⟨hm, hdm⟩ KL2 hKL2
        try dsimp only at *
        refine aw_seq ?_
        refine aw_seq (aw_region (EF := EF0) hG (by rw [hN]; exact tr19_8) ?_)
        simp only [a19_8, go_sem, ↓reduceIte, Nat.reduceEqDiff, reduceCtorEq, Nat.reduceAdd, Nat.reduceLT, Nat.reduceLeDiff, Nat.reduceBNe, Nat.reduceBEq, Int.reduceToNat, trSp, fFits_eq]
        refine aw_cond (b := _) rfl (fun hc8 => ?_) (fun hc8 => ?_)
        · simp only [decide_eq_true_eq, decide_eq_false_iff_not, Bool.and_eq_true, Bool.or_eq_true, Bool.not_eq_true', Bool.not_eq_false', Bool.and_eq_false_iff, Bool.or_eq_false_iff, Int.ofNat_lt, Int.ofNat_le, Nat.not_lt, Nat.not_le, Int.not_lt, Int.not_le] at hc8
          refine aw_skip ?_
          try simp only [go_sem, ↓reduceIte, Nat.reduceEqDiff, reduceCtorEq, Nat.reduceAdd, Nat.reduceLT, Nat.reduceLeDiff, Nat.reduceBNe, Nat.reduceBEq, Int.reduceToNat]
          refine aw_seq ?_
          refine aw_block ?_
          refine aw_seq ?_
          have hb6' := hva _ (List.getElem_mem hc8)
          unfold badAt at hb6'
          simp only [Bool.or_eq_false_iff, decide_eq_false_iff_not] at hb6'
          have hsn := inA_snoc hc8 (by omega)
          have hdu : dupTo at' (m + 1) = (dupTo at' m || inA (at'.take m) (at'[m]).toNat) := by rw [dupTo, getD_lt _ _ _ hc8]
          generalize hai : at'[m] = x at hb6' hsn hdu
          obtain ⟨k, rfl⟩ := Int.eq_ofNat_of_zero_le (show 0 ≤ x by omega)
          rw [Int.toNat_natCast] at hdu hsn
          rw [hdm, Bool.false_or] at hdu
          have hkn : k < l.length := by omega
          refine aw_seq (aw_region (EF := EF0) hG (by rw [hN]; exact tr19_10) ?_)
          simp only [a19_10, go_sem, ↓reduceIte, Nat.reduceEqDiff, reduceCtorEq, Nat.reduceAdd, Nat.reduceLT, Nat.reduceLeDiff, Nat.reduceBNe, Nat.reduceBEq, Int.reduceToNat, ints_getD _ _ _ hc8, hc8, hai, Int.toNat_natCast, bl_len, bl_get _ hkn, hkn, trSp, fFits_eq]
          (repeat' apply And.intro) <;> (try first | omega | (intros; (repeat' apply And.intro) <;> first | assumption | omega | (simp_all; done)))
          refine aw_cond (b := _) rfl (fun hb10 => ?_) (fun hb10 => ?_)
          · skip
            refine aw_seq (aw_region (EF := EF0) hG (by rw [hN]; exact tr19_11) ?_)
            simp only [a19_11, go_sem, ↓reduceIte, Nat.reduceEqDiff, reduceCtorEq, Nat.reduceAdd, Nat.reduceLT, Nat.reduceLeDiff, Nat.reduceBNe, Nat.reduceBEq, Int.reduceToNat, trSp, fFits_eq]
            refine AW.le (s' := ⟨mkE [(4, .list [] false), (5, .list [] false), (6, .int .i64 6)], mkH []⟩) (Le.mk _ _ ?_ ?_ rfl) (aw_ret (hQ _ _ (.inl rfl) ?_ ?_ ?_)) <;> simp only [outφ, outV, AR.res, go_sem, ↓reduceIte, Nat.reduceEqDiff, reduceCtorEq, Nat.reduceAdd, Nat.reduceLT, Nat.reduceLeDiff, Nat.reduceBNe, Nat.reduceBEq, Int.reduceToNat, fSp, spV]
            · rw [splitP, if_neg hany, if_pos (dup_mono at' (show m + 1 ≤ at'.length by omega) (by rw [hdu]; exact hb10))]; rfl
          · skip
            refine aw_skip ?_
            try simp only [go_sem, ↓reduceIte, Nat.reduceEqDiff, reduceCtorEq, Nat.reduceAdd, Nat.reduceLT, Nat.reduceLeDiff, Nat.reduceBNe, Nat.reduceBEq, Int.reduceToNat]
            refine aw_region (EF := EF0) hG (by rw [hN]; exact tr19_12) ?_
            simp only [a19_12, go_sem, ↓reduceIte, Nat.reduceEqDiff, reduceCtorEq, Nat.reduceAdd, Nat.reduceLT, Nat.reduceLeDiff, Nat.reduceBNe, Nat.reduceBEq, Int.reduceToNat, ints_getD _ _ _ hc8, hc8, hai, Int.toNat_natCast, bl_len, bl_get _ hkn, hkn, List.drop_succ_cons, List.drop_zero, bl_set _ _ hkn hsn, trSp, fFits_eq]
            (repeat' apply And.intro) <;> (try first | omega | (intros; (repeat' apply And.intro) <;> first | assumption | omega | (simp_all; done)))
            refine aw_region (EF := EF0) hG (by rw [hN]; exact tr19_9) ?_
            simp only [a19_9, go_sem, ↓reduceIte, Nat.reduceEqDiff, reduceCtorEq, Nat.reduceAdd, Nat.reduceLT, Nat.reduceLeDiff, Nat.reduceBNe, Nat.reduceBEq, Int.reduceToNat, inI, trSp, fFits_eq]
            (repeat' apply And.intro) <;> (try first | omega | (intros; (repeat' apply And.intro) <;> first | assumption | omega | (simp_all; done)))
            refine hKL2 (m + 1) _ ?_ ?_ ?_
            · (try dsimp only); exact ⟨hc8, by rw [hdu]; exact hb10⟩
            · (try dsimp only); omega
            · refine Le.mk _ _ ?_ ?_ rfl <;> simp only [go_sem, ↓reduceIte, Nat.reduceEqDiff, reduceCtorEq, Nat.reduceAdd, Nat.reduceLT, Nat.reduceLeDiff, Nat.reduceBNe, Nat.reduceBEq, Int.reduceToNat] <;> (repeat' apply And.intro) <;> (try first | rfl | exact wk_frzb rfl rfl rfl | exact wk_fn rfl | exact .nilo _ _ _ rfl rfl)
        · simp only [decide_eq_true_eq, decide_eq_false_iff_not, Bool.and_eq_true, Bool.or_eq_true, Bool.not_eq_true', Bool.not_eq_false', Bool.and_eq_false_iff, Bool.or_eq_false_iff, Int.ofNat_lt, Int.ofNat_le, Nat.not_lt, Nat.not_le, Int.not_lt, Int.not_le] at hc8
          refine aw_exit ?_
          simp only [go_sem, ↓reduceIte, Nat.reduceEqDiff, reduceCtorEq, Nat.reduceAdd, Nat.reduceLT, Nat.reduceLeDiff, Nat.reduceBNe, Nat.reduceBEq, Int.reduceToNat]
          refine aw_seq ?_
          have hme : m = at'.length := Nat.le_antisymm hm hc8
          subst hme
          have hn11 : ¬ (dupTo at' at'.length = true) := by rw [hdm]; decide
          refine aw_seq (aw_region (EF := EF0) hG (by rw [hN]; exact tr19_13) ?_)
          simp only [a19_13, go_sem, ↓reduceIte, Nat.reduceEqDiff, reduceCtorEq, Nat.reduceAdd, Nat.reduceLT, Nat.reduceLeDiff, Nat.reduceBNe, Nat.reduceBEq, Int.reduceToNat, trSp, fFits_eq]
          refine aw_cond (b := _) rfl (fun hb13 => ?_) (fun hb13 => ?_)
          · skip
            refine aw_seq (aw_region (EF := EF0) hG (by rw [hN]; exact tr19_14) ?_)
            simp only [a19_14, go_sem, ↓reduceIte, Nat.reduceEqDiff, reduceCtorEq, Nat.reduceAdd, Nat.reduceLT, Nat.reduceLeDiff, Nat.reduceBNe, Nat.reduceBEq, Int.reduceToNat, trSp, fFits_eq]
            refine AW.le (s' := ⟨mkE [(4, .list [] false), (5, .list [] false), (6, .int .i64 2)], mkH []⟩) (Le.mk _ _ ?_ ?_ rfl) (aw_ret (hQ _ _ (.inl rfl) ?_ ?_ ?_)) <;> simp only [outφ, outV, AR.res, go_sem, ↓reduceIte, Nat.reduceEqDiff, reduceCtorEq, Nat.reduceAdd, Nat.reduceLT, Nat.reduceLeDiff, Nat.reduceBNe, Nat.reduceBEq, Int.reduceToNat, fSp, spV]
            · rw [splitP, if_neg hany, if_neg hn11, if_pos (by simpa using hb13)]; rfl
          · skip
            have hn13 : ¬ at'.length = 0 := by simpa using hb13
            refine aw_skip ?_
            try simp only [go_sem, ↓reduceIte, Nat.reduceEqDiff, reduceCtorEq, Nat.reduceAdd, Nat.reduceLT, Nat.reduceLeDiff, Nat.reduceBNe, Nat.reduceBEq, Int.reduceToNat]
            refine aw_seq (aw_region (EF := EF0) hG (by rw [hN]; exact tr19_15) ?_)
            simp only [a19_15, go_sem, ↓reduceIte, Nat.reduceEqDiff, reduceCtorEq, Nat.reduceAdd, Nat.reduceLT, Nat.reduceLeDiff, Nat.reduceBNe, Nat.reduceBEq, Int.reduceToNat, trSp, fFits_eq]
            refine aw_seq ?_
            refine aw_seq (aw_region (EF := EF0) hG (by rw [hN]; exact tr19_16) ?_)
            simp only [a19_16, go_sem, ↓reduceIte, Nat.reduceEqDiff, reduceCtorEq, Nat.reduceAdd, Nat.reduceLT, Nat.reduceLeDiff, Nat.reduceBNe, Nat.reduceBEq, Int.reduceToNat, trSp, fFits_eq]
            refine AW.le (s' := ⟨mkE [(0, .list (l.map Person.enc) false), (7, .own 15 l.length), (10, .own 998 0), (11, .own 999 0), (12, .int .i64 0)], mkH ([(15, .arr 4 1 (bl (inA at') l.length)), (998, .arr 30 3 (([] : List Person).map Person.enc)), (999, .arr 30 3 (([] : List Person).map Person.enc))])⟩) (Le.mk _ _ (by (simp only [go_sem, ↓reduceIte, Nat.reduceEqDiff, reduceCtorEq, Nat.reduceAdd, Nat.reduceLT, Nat.reduceLeDiff, Nat.reduceBNe, Nat.reduceBEq, Int.reduceToNat, List.take_length]) <;> (repeat' apply And.intro) <;> (try first | exact wk_frzb rfl rfl rfl | rfl | exact wk_fn rfl | exact .nill _ | exact .nilo _ _ _ rfl rfl | exact wk_frz rfl (by simp only [ints_len, nats_len]) rfl (ints_pur _))) (by (simp only [go_sem, ↓reduceIte, Nat.reduceEqDiff, reduceCtorEq, Nat.reduceAdd, Nat.reduceLT, Nat.reduceLeDiff, Nat.reduceBNe, Nat.reduceBEq, Int.reduceToNat, List.take_length]) <;> (repeat' apply And.intro) <;> (try first | exact wk_frzb rfl rfl rfl | rfl | exact wk_fn rfl | exact .nill _ | exact .nilo _ _ _ rfl rfl | exact wk_frz rfl (by simp only [ints_len, nats_len]) rfl (ints_pur _))) rfl) ?_
            refine aw_block ?_
            refine aw_loop (α := Nat) (fun j => (j ≤ l.length)) (fun j => ⟨mkE [(0, V.list (List.map Person.enc l) false), (7, V.own 15 l.length), (10, .own 998 (selTo (inA at') l j).length), (11, .own 999 (selTo (fun i => !inA at' i) l j).length), (12, .int .i64 j)], mkH [(15, Ob.arr 4 1 (bl (inA at') l.length)), (998, .arr 30 3 ((selTo (inA at') l j).map Person.enc)), (999, .arr 30 3 ((selTo (fun i => !inA at' i) l j).map Person.enc))]⟩) (fun j => l.length - j) 0 (by simp) ?_ ?_
            · refine Le.mk _ _ ?_ ?_ rfl <;> simp only [go_sem, ↓reduceIte, Nat.reduceEqDiff, reduceCtorEq, Nat.reduceAdd, Nat.reduceLT, Nat.reduceLeDiff, Nat.reduceBNe, Nat.reduceBEq, Int.reduceToNat, selTo, List.length_nil] <;> (repeat' apply And.intro) <;> (try first | rfl | exact wk_frzb rfl rfl rfl | exact wk_fn rfl | exact .nilo _ _ _ rfl rfl)
            · rintro j hj KL4 hKL4
              try dsimp only at *
              refine aw_seq ?_
              refine aw_seq (aw_region (EF := EF0) hG (by rw [hN]; exact tr19_17) ?_)
              simp only [a19_17, go_sem, ↓reduceIte, Nat.reduceEqDiff, reduceCtorEq, Nat.reduceAdd, Nat.reduceLT, Nat.reduceLeDiff, Nat.reduceBNe, Nat.reduceBEq, Int.reduceToNat, trSp, fFits_eq]
              refine aw_cond (b := _) rfl (fun hc17 => ?_) (fun hc17 => ?_)
              · simp only [decide_eq_true_eq, decide_eq_false_iff_not, Bool.and_eq_true, Bool.or_eq_true, Bool.not_eq_true', Bool.not_eq_false', Bool.and_eq_false_iff, Bool.or_eq_false_iff, Int.ofNat_lt, Int.ofNat_le, Nat.not_lt, Nat.not_le, Int.not_lt, Int.not_le] at hc17
                refine aw_skip ?_
                try simp only [go_sem, ↓reduceIte, Nat.reduceEqDiff, reduceCtorEq, Nat.reduceAdd, Nat.reduceLT, Nat.reduceLeDiff, Nat.reduceBNe, Nat.reduceBEq, Int.reduceToNat]
                refine aw_seq ?_
                refine aw_block ?_
                have hA1 := sel_len (inA at') l j
                have hB1 := sel_len (fun i => !inA at' i) l j
                have hA2 := cn_le (inA at') j
                have hB2 := cn_le (fun i => !inA at' i) j
                rw [← hA1] at hA2
                rw [← hB1] at hB2
                have hsA : selTo (inA at') l (j + 1) = selTo (inA at') l j ++ (if inA at' j = true then [l[j]] else []) := by rw [selTo, getD_lt _ _ _ hc17]
                have hsB : selTo (fun i => !inA at' i) l (j + 1) = selTo (fun i => !inA at' i) l j ++ (if inA at' j = true then [] else [l[j]]) := by rw [selTo, getD_lt _ _ _ hc17]; cases inA at' j <;> rfl
                generalize selTo (inA at') l j = A at hA2 hsA
                generalize selTo (fun i => !inA at' i) l j = B at hB2 hsB
                generalize hxx : l[j] = x at hsA hsB
                obtain ⟨a, b, c⟩ := x
                refine aw_seq (aw_region (EF := EF0) hG (by rw [hN]; exact tr19_19) ?_)
                simp only [a19_19, go_sem, ↓reduceIte, Nat.reduceEqDiff, reduceCtorEq, Nat.reduceAdd, Nat.reduceLT, Nat.reduceLeDiff, Nat.reduceBNe, Nat.reduceBEq, Int.reduceToNat, bl_len, bl_get _ hc17, hc17, trSp, fFits_eq]
                (repeat' apply And.intro) <;> (try first | omega | (intros; (repeat' apply And.intro) <;> first | assumption | omega | (simp_all; done)))
                refine aw_cond (b := _) rfl (fun hb19 => ?_) (fun hb19 => ?_)
                · skip
                  refine aw_region (EF := EF0) hG (by rw [hN]; exact tr19_20) ?_
                  simp only [a19_20, go_sem, ↓reduceIte, Nat.reduceEqDiff, reduceCtorEq, Nat.reduceAdd, Nat.reduceLT, Nat.reduceLeDiff, Nat.reduceBNe, Nat.reduceBEq, Int.reduceToNat, getD_mapd _ _ _ _ hc17, hc17, hxx, Person.enc, List.length_map, enc_snoc, trSp, fFits_eq]
                  (repeat' apply And.intro) <;> (try first | omega | (intros; (repeat' apply And.intro) <;> first | assumption | omega | (simp_all; done)))
                  refine aw_region (EF := EF0) hG (by rw [hN]; exact tr19_18) ?_
                  simp only [a19_18, go_sem, ↓reduceIte, Nat.reduceEqDiff, reduceCtorEq, Nat.reduceAdd, Nat.reduceLT, Nat.reduceLeDiff, Nat.reduceBNe, Nat.reduceBEq, Int.reduceToNat, inI, trSp, fFits_eq]
                  (repeat' apply And.intro) <;> (try first | omega | (intros; (repeat' apply And.intro) <;> first | assumption | omega | (simp_all; done)))
                  refine hKL4 (j + 1) _ ?_ ?_ ?_
                  · (try dsimp only); omega
                  · (try dsimp only); omega
                  · refine Le.mk _ _ ?_ ?_ rfl <;> simp only [go_sem, ↓reduceIte, Nat.reduceEqDiff, reduceCtorEq, Nat.reduceAdd, Nat.reduceLT, Nat.reduceLeDiff, Nat.reduceBNe, Nat.reduceBEq, Int.reduceToNat, hsA, hsB, hb19, List.length_append, List.length_cons, List.length_nil, if_true, List.append_nil] <;> (repeat' apply And.intro) <;> (try first | rfl | exact wk_frzb rfl rfl rfl | exact wk_fn rfl | exact .nilo _ _ _ rfl rfl)
                · skip
                  refine aw_region (EF := EF0) hG (by rw [hN]; exact tr19_21) ?_
                  simp only [a19_21, go_sem, ↓reduceIte, Nat.reduceEqDiff, reduceCtorEq, Nat.reduceAdd, Nat.reduceLT, Nat.reduceLeDiff, Nat.reduceBNe, Nat.reduceBEq, Int.reduceToNat, getD_mapd _ _ _ _ hc17, hc17, hxx, Person.enc, List.length_map, enc_snoc, trSp, fFits_eq]
                  (repeat' apply And.intro) <;> (try first | omega | (intros; (repeat' apply And.intro) <;> first | assumption | omega | (simp_all; done)))
                  refine aw_region (EF := EF0) hG (by rw [hN]; exact tr19_18) ?_
                  simp only [a19_18, go_sem, ↓reduceIte, Nat.reduceEqDiff, reduceCtorEq, Nat.reduceAdd, Nat.reduceLT, Nat.reduceLeDiff, Nat.reduceBNe, Nat.reduceBEq, Int.reduceToNat, inI, trSp, fFits_eq]
                  (repeat' apply And.intro) <;> (try first | omega | (intros; (repeat' apply And.intro) <;> first | assumption | omega | (simp_all; done)))
                  refine hKL4 (j + 1) _ ?_ ?_ ?_
                  · (try dsimp only); omega
                  · (try dsimp only); omega
                  · refine Le.mk _ _ ?_ ?_ rfl <;> simp only [go_sem, ↓reduceIte, Nat.reduceEqDiff, reduceCtorEq, Nat.reduceAdd, Nat.reduceLT, Nat.reduceLeDiff, Nat.reduceBNe, Nat.reduceBEq, Int.reduceToNat, hsA, hsB, hb19, List.length_append, List.length_cons, List.length_nil, Bool.false_eq_true, if_false, List.append_nil] <;> (repeat' apply And.intro) <;> (try first | rfl | exact wk_frzb rfl rfl rfl | exact wk_fn rfl | exact .nilo _ _ _ rfl rfl)
              · simp only [decide_eq_true_eq, decide_eq_false_iff_not, Bool.and_eq_true, Bool.or_eq_true, Bool.not_eq_true', Bool.not_eq_false', Bool.and_eq_false_iff, Bool.or_eq_false_iff, Int.ofNat_lt, Int.ofNat_le, Nat.not_lt, Nat.not_le, Int.not_lt, Int.not_le] at hc17
                refine aw_exit ?_
                simp only [go_sem, ↓reduceIte, Nat.reduceEqDiff, reduceCtorEq, Nat.reduceAdd, Nat.reduceLT, Nat.reduceLeDiff, Nat.reduceBNe, Nat.reduceBEq, Int.reduceToNat]
                refine aw_seq ?_
                have hje : j = l.length := Nat.le_antisymm hj hc17
                subst hje
                have eA : selTo (inA at') l l.length = selA at' l := rfl
                have eB : selTo (fun i => !inA at' i) l l.length = selB at' l := rfl
                have hAl : (selA at' l).length ≤ 140737488355328 := by unfold selA; rw [sel_len]; have := cn_le (inA at') l.length; omega
                have hBl : (selB at' l).length ≤ 140737488355328 := by unfold selB; rw [sel_len]; have := cn_le (fun i => !inA at' i) l.length; omega
                refine aw_seq (aw_region (EF := EF0) hG (by rw [hN]; exact tr19_22) ?_)
                simp only [a19_22, go_sem, ↓reduceIte, Nat.reduceEqDiff, reduceCtorEq, Nat.reduceAdd, Nat.reduceLT, Nat.reduceLeDiff, Nat.reduceBNe, Nat.reduceBEq, Int.reduceToNat, eA, eB, List.length_map, hAl, hBl, Bool.not_not, trSp, fFits_eq]
                (repeat' apply And.intro) <;> (try first | omega | (intros; (repeat' apply And.intro) <;> first | assumption | omega | (simp_all; done)))
                refine aw_cond (b := _) rfl (fun hb22 => ?_) (fun hb22 => ?_)
                · skip
                  refine aw_seq (aw_region (EF := EF0) hG (by rw [hN]; exact tr19_23) ?_)
                  simp only [a19_23, go_sem, ↓reduceIte, Nat.reduceEqDiff, reduceCtorEq, Nat.reduceAdd, Nat.reduceLT, Nat.reduceLeDiff, Nat.reduceBNe, Nat.reduceBEq, Int.reduceToNat, trSp, fFits_eq]
                  refine AW.le (s' := ⟨mkE [(4, .list [] false), (5, .list [] false), (6, .int .i64 25)], mkH []⟩) (Le.mk _ _ ?_ ?_ rfl) (aw_ret (hQ _ _ (.inl rfl) ?_ ?_ ?_)) <;> simp only [outφ, outV, AR.res, go_sem, ↓reduceIte, Nat.reduceEqDiff, reduceCtorEq, Nat.reduceAdd, Nat.reduceLT, Nat.reduceLeDiff, Nat.reduceBNe, Nat.reduceBEq, Int.reduceToNat, fSp, spV]
                  · rw [splitP, if_neg hany, if_neg hn11, if_neg (by omega), if_pos hb22]; rfl
                · skip
                  refine aw_skip ?_
                  try simp only [go_sem, ↓reduceIte, Nat.reduceEqDiff, reduceCtorEq, Nat.reduceAdd, Nat.reduceLT, Nat.reduceLeDiff, Nat.reduceBNe, Nat.reduceBEq, Int.reduceToNat]
                  refine aw_seq (aw_region (EF := EF0) hG (by rw [hN]; exact tr19_24) ?_)
                  simp only [a19_24, go_sem, ↓reduceIte, Nat.reduceEqDiff, reduceCtorEq, Nat.reduceAdd, Nat.reduceLT, Nat.reduceLeDiff, Nat.reduceBNe, Nat.reduceBEq, Int.reduceToNat, trSp, fFits_eq]
                  refine AW.le (s' := ⟨mkE [(4, .list ((selA at' l).map Person.enc) false), (5, .list ((selB at' l).map Person.enc) false), (6, .int .i64 0)], mkH []⟩) (Le.mk _ _ ?_ ?_ rfl) (aw_ret (hQ _ _ (.inl rfl) ?_ ?_ ?_)) <;> simp only [outφ, outV, AR.res, go_sem, ↓reduceIte, Nat.reduceEqDiff, reduceCtorEq, Nat.reduceAdd, Nat.reduceLT, Nat.reduceLeDiff, Nat.reduceBNe, Nat.reduceBEq, Int.reduceToNat, fSp, spV]
                  · exact ⟨wk_frz rfl (List.length_map _) rfl ((Person.purs _).2 trivial), wk_frz rfl (List.length_map _) rfl ((Person.purs _).2 trivial)⟩
                  · rw [splitP, if_neg hany, if_neg hn11, if_neg (by omega), if_neg (by rw [hb22]; decide)]
end Go.Proofs.YtbakkdnhbeldcaaDoor
