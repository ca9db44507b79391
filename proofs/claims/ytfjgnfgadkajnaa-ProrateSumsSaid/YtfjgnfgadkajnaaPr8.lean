/- The statements of the chapter (sums, shares, taxes). -/
import Derived.Test.YtfjgnfgadkajnaaPr7
namespace Go.Proofs.Ytfjgnfgadkajnaa
open Go Go.RowKit
set_option linter.unusedSimpArgs false
set_option linter.unusedVariables false
set_option linter.deprecated false
theorem fAw_eq : gOf aUnit fTrue [] = (True, .bool true) := gOf_eq aUnit_inj ()
theorem fRt_eq2 (ps : List Airport) (ds : List Distance) (l : List Want) (q : Quote) : gOf aCo fRt [.agg [.list (ps.map Airport.enc) false, .list (ds.map Distance.enc) false], .list (l.map Want.enc) false, .agg [.list (q.parts.map Part.enc) false, .list (q.pairs.map Two.enc) false, .list (q.taxes.map Charge.enc) false, .int .i64 q.fare, .int .i64 q.total]] = (RtOk ⟨ps, ds⟩ l q, .bool (rtB ⟨ps, ds⟩ l q)) := fRt_eq ps ds l q
theorem fCo_eq2 (ps : List Airport) (ds : List Distance) (l : List Want) (q : Quote) : gOf aCo fCo [.agg [.list (ps.map Airport.enc) false, .list (ds.map Distance.enc) false], .list (l.map Want.enc) false, .agg [.list (q.parts.map Part.enc) false, .list (q.pairs.map Two.enc) false, .list (q.taxes.map Charge.enc) false, .int .i64 q.fare, .int .i64 q.total]] = (COk ⟨ps, ds⟩ l q, shareV (coupM ⟨ps, ds⟩ l q)) := fCo_eq ps ds l q
def fL1 (x : Places × List Want × Quote) : Prop × V := (RtOk x.1 x.2.1 x.2.2, .bool true)
noncomputable def tL1 : Tab
  | 6 => (gOf aCo fRt)
  | 7 => (gOf aUnit fTrue)
  | 8 => (gOf aCo fCo)
  | _ => gNo
theorem tL1_ok : ∀ f, PureC Try.prog UT f (tL1 f) := fun f => by
  unfold tL1
  split
  · exact right_p39
  · exact awake_p39
  · exact coupons_p
  · exact PureC.no
theorem sum_ext {X : List Int} {f c : Nat} (h : f + c < X.length) : ((X.take (f + (c + 1))).drop f).sum = ((X.take (f + c)).drop f).sum + X[f + c] := by
  rw [← Nat.add_assoc, take_succ' h, List.drop_append_of_le_length (by rw [List.length_take]; omega), List.sum_append]; simp
set_option maxHeartbeats 8000000 in
theorem law1_p : PureC Try.prog UT 3 (gOf aCo fL1) := by
  have hG := tL1_ok
  refine PureC.ofArgs aCo_inj Try.func3 body3 nm3 res3 ?_
  rintro ⟨⟨ps, ds⟩, l, q⟩ hv
  refine ⟨by rw [nt3]; simp [aCo], fun C hN Q hQ => ?_⟩
  rw [nt3] at hN
  unfold c3
  obtain ⟨hp, hl, hq⟩ : RtOk ⟨ps, ds⟩ l q := hv
  refine aw_seq (aw_region (EF := EF0) hG (by rw [hN]; exact tr3_0) ?_)
  simp only [a3_0, go_sem, ↓reduceIte, Nat.reduceEqDiff, reduceCtorEq, Nat.reduceAdd, Nat.reduceLT, Nat.reduceLeDiff, Nat.reduceBNe, Nat.reduceBEq, Int.reduceToNat, aCo, Places.enc, Quote.enc, tL1, fRt_eq2, fCo_eq2, fAw_eq]
  refine aw_seq ?_
  refine aw_seq (aw_region (EF := EF0) hG (by rw [hN]; exact tr3_1) ?_)
  simp only [a3_1, go_sem, ↓reduceIte, Nat.reduceEqDiff, reduceCtorEq, Nat.reduceAdd, Nat.reduceLT, Nat.reduceLeDiff, Nat.reduceBNe, Nat.reduceBEq, Int.reduceToNat, RtOk, hp, hl, hq, tL1, fRt_eq2, fCo_eq2, fAw_eq]
  (repeat' apply And.intro) <;> (try first | omega | ((fail_if_success refine idW ?_); (fail_if_success refine idS ?_); intros; (repeat' apply And.intro) <;> first | assumption | omega | (simp_all; done)))
  refine aw_cond (b := _) rfl (fun hb1 => ?_) (fun hb1 => ?_)
  · skip
    refine aw_seq (aw_region (EF := EF0) hG (by rw [hN]; exact tr3_2) ?_)
    simp only [a3_2, go_sem, ↓reduceIte, Nat.reduceEqDiff, reduceCtorEq, Nat.reduceAdd, Nat.reduceLT, Nat.reduceLeDiff, Nat.reduceBNe, Nat.reduceBEq, Int.reduceToNat, tL1, fRt_eq2, fCo_eq2, fAw_eq]
    (repeat' apply And.intro) <;> (try first | omega | ((fail_if_success refine idW ?_); (fail_if_success refine idS ?_); intros; (repeat' apply And.intro) <;> first | assumption | omega | (simp_all; done)))
    refine aw_ret ?_
    show Q _ _
    refine hQ _ _ (.inl rfl) ?_ ?_ ?_ <;> simp only [outφ, outV, AR.res, go_sem, ↓reduceIte, Nat.reduceEqDiff, reduceCtorEq, Nat.reduceAdd, Nat.reduceLT, Nat.reduceLeDiff, Nat.reduceBNe, Nat.reduceBEq, Int.reduceToNat, fL1]
  · skip
    have hrt : rtB ⟨ps, ds⟩ l q = true := by simpa using hb1
    unfold rtB at hrt
    simp only [Bool.and_eq_true, decide_eq_true_eq] at hrt
    have hco : COk ⟨ps, ds⟩ l q := ⟨⟨⟨by dsimp only; omega, by dsimp only; omega⟩, by dsimp only; omega⟩, by omega, by omega, hq.1.2⟩
    obtain ⟨⟨e, X⟩, hcX⟩ : ∃ y, coupM ⟨ps, ds⟩ l q = y := ⟨_, rfl⟩
    have hcf : (e ≠ 0 → X = []) ∧ (e = 0 → X.length = l.length ∧ (∀ p ∈ q.parts, PtF l.length 0 X p) ∧ ∀ x ∈ X, -1099511627776 ≤ x ∧ x ≤ 1099511627776) := by (unfold coupM at hcX; split at hcX; (rename_i hdv; exact ⟨fun he => cp_len0 hcX he, fun he => by subst he; (have := cp_facts (W := l.map (wgt ⟨ps, ds⟩)) (by rw [List.length_map]; exact Int.le_refl _) hdv (Int.le_refl 0) hcX); exact ⟨by have := this.1; omega, this.2⟩⟩); (injection hcX with h1 h2; exact ⟨fun _ => h2.symm, fun he => by omega⟩))
    refine aw_skip ?_
    try simp only [go_sem, ↓reduceIte, Nat.reduceEqDiff, reduceCtorEq, Nat.reduceAdd, Nat.reduceLT, Nat.reduceLeDiff, Nat.reduceBNe, Nat.reduceBEq, Int.reduceToNat]
    refine aw_seq (aw_region (EF := EF0) hG (by rw [hN]; exact tr3_3) ?_)
    simp only [a3_3, go_sem, ↓reduceIte, Nat.reduceEqDiff, reduceCtorEq, Nat.reduceAdd, Nat.reduceLT, Nat.reduceLeDiff, Nat.reduceBNe, Nat.reduceBEq, Int.reduceToNat, hco, hcX, shareV, tL1, fRt_eq2, fCo_eq2, fAw_eq]
    (repeat' apply And.intro) <;> (try first | omega | ((fail_if_success refine idW ?_); (fail_if_success refine idS ?_); intros; (repeat' apply And.intro) <;> first | assumption | omega | (simp_all; done)))
    refine aw_seq ?_
    refine aw_seq (aw_region (EF := EF0) hG (by rw [hN]; exact tr3_4) ?_)
    simp only [a3_4, go_sem, ↓reduceIte, Nat.reduceEqDiff, reduceCtorEq, Nat.reduceAdd, Nat.reduceLT, Nat.reduceLeDiff, Nat.reduceBNe, Nat.reduceBEq, Int.reduceToNat, tL1, fRt_eq2, fCo_eq2, fAw_eq]
    refine aw_cond (b := _) rfl (fun hb4 => ?_) (fun hb4 => ?_)
    · skip
      have he : e ≠ 0 := by simpa using hb4
      have hX := hcf.1 he
      refine aw_seq (aw_region (EF := EF0) hG (by rw [hN]; exact tr3_5) ?_)
      simp only [a3_5, go_sem, ↓reduceIte, Nat.reduceEqDiff, reduceCtorEq, Nat.reduceAdd, Nat.reduceLT, Nat.reduceLeDiff, Nat.reduceBNe, Nat.reduceBEq, Int.reduceToNat, hX, ints_nil, List.length_nil, tL1, fRt_eq2, fCo_eq2, fAw_eq]
      (repeat' apply And.intro) <;> (try first | omega | ((fail_if_success refine idW ?_); (fail_if_success refine idS ?_); intros; (repeat' apply And.intro) <;> first | assumption | omega | (simp_all; done)))
      refine aw_ret ?_
      show Q _ _
      refine hQ _ _ (.inl rfl) ?_ ?_ ?_ <;> simp only [outφ, outV, AR.res, go_sem, ↓reduceIte, Nat.reduceEqDiff, reduceCtorEq, Nat.reduceAdd, Nat.reduceLT, Nat.reduceLeDiff, Nat.reduceBNe, Nat.reduceBEq, Int.reduceToNat, fL1]
    · skip
      have he : e = 0 := by simpa using hb4
      obtain ⟨hXl, hPt, hXb⟩ := hcf.2 he
      refine aw_skip ?_
      try simp only [go_sem, ↓reduceIte, Nat.reduceEqDiff, reduceCtorEq, Nat.reduceAdd, Nat.reduceLT, Nat.reduceLeDiff, Nat.reduceBNe, Nat.reduceBEq, Int.reduceToNat]
      refine aw_seq ?_
      refine aw_seq (aw_region (EF := EF0) hG (by rw [hN]; exact tr3_6) ?_)
      simp only [a3_6, go_sem, ↓reduceIte, Nat.reduceEqDiff, reduceCtorEq, Nat.reduceAdd, Nat.reduceLT, Nat.reduceLeDiff, Nat.reduceBNe, Nat.reduceBEq, Int.reduceToNat, hXl, List.length_map, ints_len, tL1, fRt_eq2, fCo_eq2, fAw_eq]
      refine aw_cond (b := _) rfl (fun hb6 => ?_) (fun hb6 => ?_)
      · exact absurd hb6 (by simp)
      · skip
        refine aw_skip ?_
        try simp only [go_sem, ↓reduceIte, Nat.reduceEqDiff, reduceCtorEq, Nat.reduceAdd, Nat.reduceLT, Nat.reduceLeDiff, Nat.reduceBNe, Nat.reduceBEq, Int.reduceToNat]
        refine aw_seq ?_
        refine aw_seq (aw_region (EF := EF0) hG (by rw [hN]; exact tr3_8) ?_)
        simp only [a3_8, go_sem, ↓reduceIte, Nat.reduceEqDiff, reduceCtorEq, Nat.reduceAdd, Nat.reduceLT, Nat.reduceLeDiff, Nat.reduceBNe, Nat.reduceBEq, Int.reduceToNat, tL1, fRt_eq2, fCo_eq2, fAw_eq]
        refine aw_block ?_
        refine aw_loop (α := Nat) (fun i => (i ≤ q.parts.length)) (fun i => ⟨mkE [(5, V.ptr 5 0), (7, V.list (ints X) false), (9, .int .i64 i)], mkH [(5, Ob.box 31 [V.list (List.map Part.enc q.parts) false, V.list (List.map Two.enc q.pairs) false, V.list (List.map Charge.enc q.taxes) false, V.int IntKind.i64 q.fare, V.int IntKind.i64 q.total])]⟩) (fun i => q.parts.length - i) 0 (by simp) ?_ ?_
        · refine Le.mk _ _ ?_ ?_ rfl <;> simp only [go_sem, ↓reduceIte, Nat.reduceEqDiff, reduceCtorEq, Nat.reduceAdd, Nat.reduceLT, Nat.reduceLeDiff, Nat.reduceBNe, Nat.reduceBEq, Int.reduceToNat] <;> (repeat' apply And.intro) <;> (try first | rfl | exact wk_frzb rfl rfl rfl | exact wk_fn rfl | exact .nilo _ _ _ rfl rfl | exact wk_frzm rfl rfl (fun kv hk => by obtain ⟨_, _, rfl⟩ := List.mem_map.1 hk; rfl))
        · rintro i hi KL0 hKL0
          try dsimp only at *
          refine aw_seq ?_
          refine aw_seq (aw_region (EF := EF0) hG (by rw [hN]; exact tr3_9) ?_)
          simp only [a3_9, go_sem, ↓reduceIte, Nat.reduceEqDiff, reduceCtorEq, Nat.reduceAdd, Nat.reduceLT, Nat.reduceLeDiff, Nat.reduceBNe, Nat.reduceBEq, Int.reduceToNat, List.length_map, tL1, fRt_eq2, fCo_eq2, fAw_eq]
          refine aw_cond (b := _) rfl (fun hc9 => ?_) (fun hc9 => ?_)
          · simp only [decide_eq_true_eq, decide_eq_false_iff_not, Bool.and_eq_true, Bool.or_eq_true, Bool.not_eq_true', Bool.not_eq_false', Bool.and_eq_false_iff, Bool.or_eq_false_iff, Int.ofNat_lt, Int.ofNat_le, Nat.not_lt, Nat.not_le, Int.not_lt, Int.not_le] at hc9
            obtain ⟨p, hpp⟩ : ∃ p, p = q.parts[i] := ⟨_, rfl⟩
            have hpf : PtF l.length 0 X p := hpp ▸ hPt _ (List.getElem_mem hc9)
            obtain ⟨f, hf⟩ := Int.eq_ofNat_of_zero_le hpf.lo
            have hmid := hpf.mid
            have hhi := hpf.hi
            obtain ⟨z, hz⟩ := Int.eq_ofNat_of_zero_le (show 0 ≤ p.to' by omega)
            have hsum := hpf.sum
            rw [show (p.to' - 0).toNat = z by omega, show (p.from' - 0).toNat = f by omega] at hsum
            have hzX : z ≤ X.length := by omega
            refine aw_skip ?_
            try simp only [go_sem, ↓reduceIte, Nat.reduceEqDiff, reduceCtorEq, Nat.reduceAdd, Nat.reduceLT, Nat.reduceLeDiff, Nat.reduceBNe, Nat.reduceBEq, Int.reduceToNat]
            refine aw_seq ?_
            refine aw_block ?_
            refine aw_seq ?_
            refine aw_seq (aw_region (EF := EF0) hG (by rw [hN]; exact tr3_11) ?_)
            simp only [a3_11, go_sem, ↓reduceIte, Nat.reduceEqDiff, reduceCtorEq, Nat.reduceAdd, Nat.reduceLT, Nat.reduceLeDiff, Nat.reduceBNe, Nat.reduceBEq, Int.reduceToNat, getD_mapd _ _ _ _ hc9, hc9, Part.enc, ← hpp, ints_len, hf, hz, List.length_map, tL1, fRt_eq2, fCo_eq2, fAw_eq]
            (repeat' apply And.intro) <;> (try first | omega | ((fail_if_success refine idW ?_); (fail_if_success refine idS ?_); intros; (repeat' apply And.intro) <;> first | assumption | omega | (simp_all; done)))
            refine aw_cond (b := _) rfl (fun hb11 => ?_) (fun hb11 => ?_)
            · exfalso; simp only [Bool.or_eq_true, decide_eq_true_eq] at hb11; omega
            · skip
              refine aw_skip ?_
              try simp only [go_sem, ↓reduceIte, Nat.reduceEqDiff, reduceCtorEq, Nat.reduceAdd, Nat.reduceLT, Nat.reduceLeDiff, Nat.reduceBNe, Nat.reduceBEq, Int.reduceToNat]
              refine aw_seq (aw_region (EF := EF0) hG (by rw [hN]; exact tr3_13) ?_)
              simp only [a3_13, go_sem, ↓reduceIte, Nat.reduceEqDiff, reduceCtorEq, Nat.reduceAdd, Nat.reduceLT, Nat.reduceLeDiff, Nat.reduceBNe, Nat.reduceBEq, Int.reduceToNat, tL1, fRt_eq2, fCo_eq2, fAw_eq]
              refine aw_seq ?_
              refine aw_seq (aw_region (EF := EF0) hG (by rw [hN]; exact tr3_14) ?_)
              simp only [a3_14, go_sem, ↓reduceIte, Nat.reduceEqDiff, reduceCtorEq, Nat.reduceAdd, Nat.reduceLT, Nat.reduceLeDiff, Nat.reduceBNe, Nat.reduceBEq, Int.reduceToNat, getD_mapd _ _ _ _ hc9, hc9, Part.enc, ← hpp, hf, List.length_map, tL1, fRt_eq2, fCo_eq2, fAw_eq]
              (repeat' apply And.intro) <;> (try first | omega | ((fail_if_success refine idW ?_); (fail_if_success refine idS ?_); intros; (repeat' apply And.intro) <;> first | assumption | omega | (simp_all; done)))
              refine aw_block ?_
              refine aw_loop (α := Nat × Int) (fun γ => (f + γ.1 ≤ z) ∧ (γ.2 = ((X.take (f + γ.1)).drop f).sum) ∧ (-(1099511627776 * (γ.1 : Int)) ≤ γ.2 ∧ γ.2 ≤ 1099511627776 * (γ.1 : Int))) (fun γ => ⟨mkE [(5, V.ptr 5 0), (7, V.list (ints X) false), (9, V.int IntKind.i64 ↑i), (10, .int .i64 γ.2), (11, .int .i64 ((f + γ.1 : Nat) : Int))], mkH [(5, Ob.box 31 [V.list (List.map Part.enc q.parts) false, V.list (List.map Two.enc q.pairs) false, V.list (List.map Charge.enc q.taxes) false, V.int IntKind.i64 q.fare, V.int IntKind.i64 q.total])]⟩) (fun γ => z - (f + γ.1)) (0, 0) ⟨by omega, by simp, by omega, by omega⟩ ?_ ?_
              · refine Le.mk _ _ ?_ ?_ rfl <;> simp only [go_sem, ↓reduceIte, Nat.reduceEqDiff, reduceCtorEq, Nat.reduceAdd, Nat.reduceLT, Nat.reduceLeDiff, Nat.reduceBNe, Nat.reduceBEq, Int.reduceToNat, Nat.add_zero] <;> (repeat' apply And.intro) <;> (try first | rfl | exact wk_frzb rfl rfl rfl | exact wk_fn rfl | exact .nilo _ _ _ rfl rfl | exact wk_frzm rfl rfl (fun kv hk => by obtain ⟨_, _, rfl⟩ := List.mem_map.1 hk; rfl))
              · rintro ⟨c, n⟩ ⟨hcz, hn, hnb⟩ KL2 hKL2
                try dsimp only at *
                refine aw_seq ?_
                refine aw_seq (aw_region (EF := EF0) hG (by rw [hN]; exact tr3_15) ?_)
                simp only [a3_15, go_sem, ↓reduceIte, Nat.reduceEqDiff, reduceCtorEq, Nat.reduceAdd, Nat.reduceLT, Nat.reduceLeDiff, Nat.reduceBNe, Nat.reduceBEq, Int.reduceToNat, getD_mapd _ _ _ _ hc9, hc9, Part.enc, ← hpp, hz, List.length_map, tL1, fRt_eq2, fCo_eq2, fAw_eq]
                (repeat' apply And.intro) <;> (try first | omega | ((fail_if_success refine idW ?_); (fail_if_success refine idS ?_); intros; (repeat' apply And.intro) <;> first | assumption | omega | (simp_all; done)))
                refine aw_cond (b := _) rfl (fun hc15 => ?_) (fun hc15 => ?_)
                · simp only [decide_eq_true_eq, decide_eq_false_iff_not, Bool.and_eq_true, Bool.or_eq_true, Bool.not_eq_true', Bool.not_eq_false', Bool.and_eq_false_iff, Bool.or_eq_false_iff, Int.ofNat_lt, Int.ofNat_le, Nat.not_lt, Nat.not_le, Int.not_lt, Int.not_le] at hc15
                  have hfc : f + c < X.length := by omega
                  have hxb := hXb _ (List.getElem_mem hfc)
                  refine aw_skip ?_
                  try simp only [go_sem, ↓reduceIte, Nat.reduceEqDiff, reduceCtorEq, Nat.reduceAdd, Nat.reduceLT, Nat.reduceLeDiff, Nat.reduceBNe, Nat.reduceBEq, Int.reduceToNat]
                  refine aw_seq ?_
                  refine aw_block ?_
                  refine aw_seq ?_
                  refine aw_seq (aw_region (EF := EF0) hG (by rw [hN]; exact tr3_17) ?_)
                  simp only [a3_17, go_sem, ↓reduceIte, Nat.reduceEqDiff, reduceCtorEq, Nat.reduceAdd, Nat.reduceLT, Nat.reduceLeDiff, Nat.reduceBNe, Nat.reduceBEq, Int.reduceToNat, getD_mapd _ _ _ _ hc9, hc9, Part.enc, ← hpp, ints_getD _ _ _ hfc, hfc, ints_len, List.length_map, tL1, fRt_eq2, fCo_eq2, fAw_eq]
                  (repeat' apply And.intro) <;> (try first | omega | ((fail_if_success refine idW ?_); (fail_if_success refine idS ?_); intros; (repeat' apply And.intro) <;> first | assumption | omega | (simp_all; done)))
                  refine aw_cond (b := _) rfl (fun hb17 => ?_) (fun hb17 => ?_)
                  · exfalso; simp only [Bool.and_eq_true, decide_eq_true_eq] at hb17; have h9 := hpf.sg hb17.1 (f + c) (by omega) (by omega); rw [List.getD_eq_getElem?_getD, List.getElem?_eq_getElem hfc] at h9; have h10 : 0 ≤ X[f + c] := h9; omega
                  · skip
                    refine aw_skip ?_
                    try simp only [go_sem, ↓reduceIte, Nat.reduceEqDiff, reduceCtorEq, Nat.reduceAdd, Nat.reduceLT, Nat.reduceLeDiff, Nat.reduceBNe, Nat.reduceBEq, Int.reduceToNat]
                    refine aw_region (EF := EF0) hG (by rw [hN]; exact tr3_19) ?_
                    simp only [a3_19, go_sem, ↓reduceIte, Nat.reduceEqDiff, reduceCtorEq, Nat.reduceAdd, Nat.reduceLT, Nat.reduceLeDiff, Nat.reduceBNe, Nat.reduceBEq, Int.reduceToNat, inI, ints_getD _ _ _ hfc, hfc, ints_len, tL1, fRt_eq2, fCo_eq2, fAw_eq]
                    (repeat' apply And.intro) <;> (try first | omega | ((fail_if_success refine idW ?_); (fail_if_success refine idS ?_); intros; (repeat' apply And.intro) <;> first | assumption | omega | (simp_all; done)))
                    refine aw_region (EF := EF0) hG (by rw [hN]; exact tr3_16) ?_
                    simp only [a3_16, go_sem, ↓reduceIte, Nat.reduceEqDiff, reduceCtorEq, Nat.reduceAdd, Nat.reduceLT, Nat.reduceLeDiff, Nat.reduceBNe, Nat.reduceBEq, Int.reduceToNat, inI, tL1, fRt_eq2, fCo_eq2, fAw_eq]
                    (repeat' apply And.intro) <;> (try first | omega | ((fail_if_success refine idW ?_); (fail_if_success refine idS ?_); intros; (repeat' apply And.intro) <;> first | assumption | omega | (simp_all; done)))
                    refine hKL2 (c + 1, n + X[f + c]) _ ?_ ?_ ?_
                    · (try dsimp only); exact ⟨by omega, by rw [hn, sum_ext hfc], by omega, by omega⟩
                    · (try dsimp only); omega
                    · refine Le.mk _ _ ?_ ?_ rfl <;> simp only [go_sem, ↓reduceIte, Nat.reduceEqDiff, reduceCtorEq, Nat.reduceAdd, Nat.reduceLT, Nat.reduceLeDiff, Nat.reduceBNe, Nat.reduceBEq, Int.reduceToNat, Nat.add_assoc, Int.natCast_add, Int.natCast_one, Int.add_assoc] <;> (repeat' apply And.intro) <;> (try first | rfl | exact wk_frzb rfl rfl rfl | exact wk_fn rfl | exact .nilo _ _ _ rfl rfl | exact wk_frzm rfl rfl (fun kv hk => by obtain ⟨_, _, rfl⟩ := List.mem_map.1 hk; rfl))
                · simp only [decide_eq_true_eq, decide_eq_false_iff_not, Bool.and_eq_true, Bool.or_eq_true, Bool.not_eq_true', Bool.not_eq_false', Bool.and_eq_false_iff, Bool.or_eq_false_iff, Int.ofNat_lt, Int.ofNat_le, Nat.not_lt, Nat.not_le, Int.not_lt, Int.not_le] at hc15
                  obtain rfl : z = f + c := by omega
                  refine aw_exit ?_
                  simp only [go_sem, ↓reduceIte, Nat.reduceEqDiff, reduceCtorEq, Nat.reduceAdd, Nat.reduceLT, Nat.reduceLeDiff, Nat.reduceBNe, Nat.reduceBEq, Int.reduceToNat]
                  refine aw_seq (aw_region (EF := EF0) hG (by rw [hN]; exact tr3_20) ?_)
                  simp only [a3_20, go_sem, ↓reduceIte, Nat.reduceEqDiff, reduceCtorEq, Nat.reduceAdd, Nat.reduceLT, Nat.reduceLeDiff, Nat.reduceBNe, Nat.reduceBEq, Int.reduceToNat, getD_mapd _ _ _ _ hc9, hc9, Part.enc, ← hpp, List.length_map, tL1, fRt_eq2, fCo_eq2, fAw_eq]
                  (repeat' apply And.intro) <;> (try first | omega | ((fail_if_success refine idW ?_); (fail_if_success refine idS ?_); intros; (repeat' apply And.intro) <;> first | assumption | omega | (simp_all; done)))
                  refine aw_cond (b := _) rfl (fun hb20 => ?_) (fun hb20 => ?_)
                  · exfalso; rw [← hsum, ← hn] at hb20; simp at hb20
                  · skip
                    refine aw_skip ?_
                    try simp only [go_sem, ↓reduceIte, Nat.reduceEqDiff, reduceCtorEq, Nat.reduceAdd, Nat.reduceLT, Nat.reduceLeDiff, Nat.reduceBNe, Nat.reduceBEq, Int.reduceToNat]
                    refine aw_region (EF := EF0) hG (by rw [hN]; exact tr3_10) ?_
                    simp only [a3_10, go_sem, ↓reduceIte, Nat.reduceEqDiff, reduceCtorEq, Nat.reduceAdd, Nat.reduceLT, Nat.reduceLeDiff, Nat.reduceBNe, Nat.reduceBEq, Int.reduceToNat, inI, tL1, fRt_eq2, fCo_eq2, fAw_eq]
                    (repeat' apply And.intro) <;> (try first | omega | ((fail_if_success refine idW ?_); (fail_if_success refine idS ?_); intros; (repeat' apply And.intro) <;> first | assumption | omega | (simp_all; done)))
                    refine hKL0 (i + 1) _ ?_ ?_ ?_
                    · (try dsimp only); exact hc9
                    · (try dsimp only); omega
                    · refine Le.mk _ _ ?_ ?_ rfl <;> simp only [go_sem, ↓reduceIte, Nat.reduceEqDiff, reduceCtorEq, Nat.reduceAdd, Nat.reduceLT, Nat.reduceLeDiff, Nat.reduceBNe, Nat.reduceBEq, Int.reduceToNat] <;> (repeat' apply And.intro) <;> (try first | rfl | exact wk_frzb rfl rfl rfl | exact wk_fn rfl | exact .nilo _ _ _ rfl rfl | exact wk_frzm rfl rfl (fun kv hk => by obtain ⟨_, _, rfl⟩ := List.mem_map.1 hk; rfl))
          · simp only [decide_eq_true_eq, decide_eq_false_iff_not, Bool.and_eq_true, Bool.or_eq_true, Bool.not_eq_true', Bool.not_eq_false', Bool.and_eq_false_iff, Bool.or_eq_false_iff, Int.ofNat_lt, Int.ofNat_le, Nat.not_lt, Nat.not_le, Int.not_lt, Int.not_le] at hc9
            refine aw_exit ?_
            simp only [go_sem, ↓reduceIte, Nat.reduceEqDiff, reduceCtorEq, Nat.reduceAdd, Nat.reduceLT, Nat.reduceLeDiff, Nat.reduceBNe, Nat.reduceBEq, Int.reduceToNat]
            refine aw_seq (aw_region (EF := EF0) hG (by rw [hN]; exact tr3_22) ?_)
            simp only [a3_22, go_sem, ↓reduceIte, Nat.reduceEqDiff, reduceCtorEq, Nat.reduceAdd, Nat.reduceLT, Nat.reduceLeDiff, Nat.reduceBNe, Nat.reduceBEq, Int.reduceToNat, tL1, fRt_eq2, fCo_eq2, fAw_eq]
            (repeat' apply And.intro) <;> (try first | omega | ((fail_if_success refine idW ?_); (fail_if_success refine idS ?_); intros; (repeat' apply And.intro) <;> first | assumption | omega | (simp_all; done)))
            refine aw_ret ?_
            show Q _ _
            refine hQ _ _ (.inl rfl) ?_ ?_ ?_ <;> simp only [outφ, outV, AR.res, go_sem, ↓reduceIte, Nat.reduceEqDiff, reduceCtorEq, Nat.reduceAdd, Nat.reduceLT, Nat.reduceLeDiff, Nat.reduceBNe, Nat.reduceBEq, Int.reduceToNat, fL1]
end Go.Proofs.Ytfjgnfgadkajnaa
