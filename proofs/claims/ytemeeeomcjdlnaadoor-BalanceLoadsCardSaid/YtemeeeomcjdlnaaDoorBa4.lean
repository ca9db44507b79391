/- The program's Check. -/
import Derived.Test.YtemeeeomcjdlnaaDoorBa3
namespace Go.Proofs.YtemeeeomcjdlnaaDoor
open Go Go.RowKit
set_option linter.unusedSimpArgs false
set_option linter.unusedVariables false
set_option linter.deprecated false
theorem fine_or (p : Point) : (!within p.weight 0 20000000 || !within p.index (-20000000000) 20000000000) = !fineB p := by
  unfold fineB; cases within p.weight 0 20000000 <;> cases within p.index (-20000000000) 20000000000 <;> rfl
def EFa : Nat → Bool := fun f => f == 22
noncomputable def tChk : Tab
  | 23 => (gOf aW fW)
  | 24 => gDec
  | 25 => (gOf aE fCx)
  | _ => gNo
theorem tChk_ok : ∀ f, PureC Tryd.prog UT f (tChk f) := fun f => by
  unfold tChk
  split
  · exact within_p
  · exact decimal_p
  · exact convex_p
  · exact PureC.no
set_option maxHeartbeats 4000000 in
theorem check_p : PureC Tryd.prog UT 11 (gOf aT fChk) := by
  have hG := tChk_ok
  refine PureC.ofArgs aT_inj Tryd.func11 body11 nm11 res11 ?_
  rintro ⟨em, ix, bs, en⟩ hv
  refine ⟨by rw [nt11]; simp [aT], fun C hN Q hQ => ?_⟩
  rw [nt11] at hN
  unfold c11
  obtain ⟨hbl, hel⟩ : bs.length ≤ 1000 ∧ en.length ≤ 1000 := hv
  refine aw_seq (aw_region (EF := EFa) hG (by rw [hN]; exact tr11_0) ?_)
  simp only [a11_0, go_sem, ↓reduceIte, Nat.reduceEqDiff, reduceCtorEq, Nat.reduceAdd, Nat.reduceLT, Nat.reduceLeDiff, Nat.reduceBNe, Nat.reduceBEq, Int.reduceToNat, aT, Trim.enc, EFa, tChk, fW_eq]
  refine aw_seq (aw_region (EF := EFa) hG (by rw [hN]; exact tr11_1) ?_)
  simp only [a11_1, go_sem, ↓reduceIte, Nat.reduceEqDiff, reduceCtorEq, Nat.reduceAdd, Nat.reduceLT, Nat.reduceLeDiff, Nat.reduceBNe, Nat.reduceBEq, Int.reduceToNat, EFa, tChk, fW_eq]
  refine AW.le (s' := ⟨mkE [(1, .ptr 1 0), (3, .ptr 3 0)], mkH ([(1, .box 25 [.int .i64 em, .int .i64 ix, .list (bs.map Bay.enc) false, .list (en.map Point.enc) false]), (3, .box 29 [.own 999 0]), (999, .arr 49 2 (faults []))])⟩) (Le.mk _ _ (by (simp only [go_sem, ↓reduceIte, Nat.reduceEqDiff, reduceCtorEq, Nat.reduceAdd, Nat.reduceLT, Nat.reduceLeDiff, Nat.reduceBNe, Nat.reduceBEq, Int.reduceToNat]) <;> (repeat' apply And.intro) <;> (try first | exact wk_frzb rfl rfl rfl | rfl | exact wk_fn rfl | exact .nill _ | exact .nilo _ _ _ rfl rfl | exact wk_frz rfl (by simp only [ints_len, nats_len]) rfl (ints_pur _))) (by (simp only [go_sem, ↓reduceIte, Nat.reduceEqDiff, reduceCtorEq, Nat.reduceAdd, Nat.reduceLT, Nat.reduceLeDiff, Nat.reduceBNe, Nat.reduceBEq, Int.reduceToNat]) <;> (repeat' apply And.intro) <;> (try first | exact wk_frzb rfl rfl rfl | rfl | exact wk_fn rfl | exact .nill _ | exact .nilo _ _ _ rfl rfl | exact wk_frz rfl (by simp only [ints_len, nats_len]) rfl (ints_pur _))) rfl) ?_
  refine aw_seq (aw_region (EF := EFa) hG (by rw [hN]; exact tr11_2) ?_)
  simp only [a11_2, go_sem, ↓reduceIte, Nat.reduceEqDiff, reduceCtorEq, Nat.reduceAdd, Nat.reduceLT, Nat.reduceLeDiff, Nat.reduceBNe, Nat.reduceBEq, Int.reduceToNat, EFa, tChk, fW_eq]
  refine aw_cut (α := (List Fault)) (fun g1 => (g1 = ([] : List Fault) ++ fIf (!within em 0 1000000) 2 (sEmpty)) ∧ (g1.length ≤ ([] : List Fault).length + 1)) (fun g1 => ⟨mkE [(1, V.ptr 1 0), (3, V.ptr 3 0), (4, V.fn 22 [V.ptr 3 0])], mkH [(1, Ob.box 25 [V.int IntKind.i64 em, V.int IntKind.i64 ix, V.list (List.map Bay.enc bs) false, V.list (List.map Point.enc en) false]), (3, .box 29 [.own 999 g1.length]), (999, .arr 49 2 (faults g1))]⟩) ?_ ?_
  · intro KC3 hKC3
    refine aw_seq (aw_region (EF := EFa) hG (by rw [hN]; exact tr11_3) ?_)
    simp only [a11_3, go_sem, ↓reduceIte, Nat.reduceEqDiff, reduceCtorEq, Nat.reduceAdd, Nat.reduceLT, Nat.reduceLeDiff, Nat.reduceBNe, Nat.reduceBEq, Int.reduceToNat, EFa, tChk, fW_eq]
    (repeat' apply And.intro) <;> (try first | omega | (intros; (repeat' apply And.intro) <;> first | assumption | omega | (simp_all; done)))
    refine aw_cond (b := _) rfl (fun hb3 => ?_) (fun hb3 => ?_)
    · skip
      refine aw_region (EF := EFa) hG (by rw [hN]; exact tr11_4) ?_
      simp only [a11_4, go_sem, ↓reduceIte, Nat.reduceEqDiff, reduceCtorEq, Nat.reduceAdd, Nat.reduceLT, Nat.reduceLeDiff, Nat.reduceBNe, Nat.reduceBEq, Int.reduceToNat, EFa, tChk, fW_eq]
      refine bx_use (nb := 3) (na := 999) (g := ([] : List Fault)) (add_e _ _ _ ?_) (by simp [V.rens, V.ren]) (by simp [V.nins, V.nin]) (by rfl) (by rfl) (by decide) ?_
      · first | omega | simp
      simp only [go_sem, ↓reduceIte, Nat.reduceEqDiff, reduceCtorEq, Nat.reduceAdd, Nat.reduceLT, Nat.reduceLeDiff, Nat.reduceBNe, Nat.reduceBEq, Int.reduceToNat, bxF]
      refine hKC3 (([] : List Fault) ++ [⟨2, sEmpty⟩]) _ ?_ ?_
      · (try dsimp only); exact ⟨by rw [fIf_t (show (!within em 0 1000000) = true from hb3)], by simp⟩
      · refine Le.mk _ _ ?_ ?_ rfl <;> simp only [go_sem, ↓reduceIte, Nat.reduceEqDiff, reduceCtorEq, Nat.reduceAdd, Nat.reduceLT, Nat.reduceLeDiff, Nat.reduceBNe, Nat.reduceBEq, Int.reduceToNat, List.length_append, List.length_cons, List.length_nil, bxF] <;> (repeat' apply And.intro) <;> (try first | rfl | exact wk_frzb rfl rfl rfl | exact wk_fn rfl | exact .nilo _ _ _ rfl rfl)
    · skip
      refine aw_skip ?_
      simp only [go_sem, ↓reduceIte, Nat.reduceEqDiff, reduceCtorEq, Nat.reduceAdd, Nat.reduceLT, Nat.reduceLeDiff, Nat.reduceBNe, Nat.reduceBEq, Int.reduceToNat]
      refine hKC3 (([] : List Fault)) _ ?_ ?_
      · (try dsimp only); exact ⟨by rw [fIf_f (show (!within em 0 1000000) = false from hb3), List.append_nil], by omega⟩
      · refine Le.mk _ _ ?_ ?_ rfl <;> simp only [go_sem, ↓reduceIte, Nat.reduceEqDiff, reduceCtorEq, Nat.reduceAdd, Nat.reduceLT, Nat.reduceLeDiff, Nat.reduceBNe, Nat.reduceBEq, Int.reduceToNat] <;> (repeat' apply And.intro) <;> (try first | rfl | exact wk_frzb rfl rfl rfl | exact wk_fn rfl | exact .nilo _ _ _ rfl rfl)
  · rintro g1 ⟨hg1, lg1⟩
    simp only [List.length_nil] at lg1
    refine aw_cut (α := (List Fault)) (fun g2 => (g2 = g1 ++ fIf (!within ix (-1000000000) 1000000000) 2 (sIndex)) ∧ (g2.length ≤ g1.length + 1)) (fun g2 => ⟨mkE [(1, V.ptr 1 0), (3, V.ptr 3 0), (4, V.fn 22 [V.ptr 3 0])], mkH [(1, Ob.box 25 [V.int IntKind.i64 em, V.int IntKind.i64 ix, V.list (List.map Bay.enc bs) false, V.list (List.map Point.enc en) false]), (3, .box 29 [.own 999 g2.length]), (999, .arr 49 2 (faults g2))]⟩) ?_ ?_
    · intro KC5 hKC5
      refine aw_seq (aw_region (EF := EFa) hG (by rw [hN]; exact tr11_5) ?_)
      simp only [a11_5, go_sem, ↓reduceIte, Nat.reduceEqDiff, reduceCtorEq, Nat.reduceAdd, Nat.reduceLT, Nat.reduceLeDiff, Nat.reduceBNe, Nat.reduceBEq, Int.reduceToNat, EFa, tChk, fW_eq]
      (repeat' apply And.intro) <;> (try first | omega | (intros; (repeat' apply And.intro) <;> first | assumption | omega | (simp_all; done)))
      refine aw_cond (b := _) rfl (fun hb5 => ?_) (fun hb5 => ?_)
      · skip
        refine aw_region (EF := EFa) hG (by rw [hN]; exact tr11_6) ?_
        simp only [a11_6, go_sem, ↓reduceIte, Nat.reduceEqDiff, reduceCtorEq, Nat.reduceAdd, Nat.reduceLT, Nat.reduceLeDiff, Nat.reduceBNe, Nat.reduceBEq, Int.reduceToNat, EFa, tChk, fW_eq]
        refine bx_use (nb := 3) (na := 999) (g := g1) (add_e _ _ _ ?_) (by simp [V.rens, V.ren]) (by simp [V.nins, V.nin]) (by rfl) (by rfl) (by decide) ?_
        · first | omega | simp
        simp only [go_sem, ↓reduceIte, Nat.reduceEqDiff, reduceCtorEq, Nat.reduceAdd, Nat.reduceLT, Nat.reduceLeDiff, Nat.reduceBNe, Nat.reduceBEq, Int.reduceToNat, bxF]
        refine hKC5 (g1 ++ [⟨2, sIndex⟩]) _ ?_ ?_
        · (try dsimp only); exact ⟨by rw [fIf_t (show (!within ix (-1000000000) 1000000000) = true from hb5)], by simp⟩
        · refine Le.mk _ _ ?_ ?_ rfl <;> simp only [go_sem, ↓reduceIte, Nat.reduceEqDiff, reduceCtorEq, Nat.reduceAdd, Nat.reduceLT, Nat.reduceLeDiff, Nat.reduceBNe, Nat.reduceBEq, Int.reduceToNat, List.length_append, List.length_cons, List.length_nil, bxF] <;> (repeat' apply And.intro) <;> (try first | rfl | exact wk_frzb rfl rfl rfl | exact wk_fn rfl | exact .nilo _ _ _ rfl rfl)
      · skip
        refine aw_skip ?_
        simp only [go_sem, ↓reduceIte, Nat.reduceEqDiff, reduceCtorEq, Nat.reduceAdd, Nat.reduceLT, Nat.reduceLeDiff, Nat.reduceBNe, Nat.reduceBEq, Int.reduceToNat]
        refine hKC5 (g1) _ ?_ ?_
        · (try dsimp only); exact ⟨by rw [fIf_f (show (!within ix (-1000000000) 1000000000) = false from hb5), List.append_nil], by omega⟩
        · refine Le.mk _ _ ?_ ?_ rfl <;> simp only [go_sem, ↓reduceIte, Nat.reduceEqDiff, reduceCtorEq, Nat.reduceAdd, Nat.reduceLT, Nat.reduceLeDiff, Nat.reduceBNe, Nat.reduceBEq, Int.reduceToNat] <;> (repeat' apply And.intro) <;> (try first | rfl | exact wk_frzb rfl rfl rfl | exact wk_fn rfl | exact .nilo _ _ _ rfl rfl)
    · rintro g2 ⟨hg2, lg2⟩
      refine aw_cut (α := (List Fault)) (fun g4 => (g4 = g2 ++ fIf (!within bs.length 1 16) 4 sBays ++ (if bs.length ≤ 16 then bayTo bs bs.length else [])) ∧ (g4.length ≤ g2.length + 17)) (fun g4 => ⟨mkE [(1, V.ptr 1 0), (3, V.ptr 3 0), (4, V.fn 22 [V.ptr 3 0])], mkH [(1, Ob.box 25 [V.int IntKind.i64 em, V.int IntKind.i64 ix, V.list (List.map Bay.enc bs) false, V.list (List.map Point.enc en) false]), (3, .box 29 [.own 999 g4.length]), (999, .arr 49 2 (faults g4))]⟩) ?_ ?_
      · intro KC7 hKC7
        refine aw_seq (aw_region (EF := EFa) hG (by rw [hN]; exact tr11_7) ?_)
        simp only [a11_7, go_sem, ↓reduceIte, Nat.reduceEqDiff, reduceCtorEq, Nat.reduceAdd, Nat.reduceLT, Nat.reduceLeDiff, Nat.reduceBNe, Nat.reduceBEq, Int.reduceToNat, EFa, tChk, fW_eq]
        (repeat' apply And.intro) <;> (try first | omega | (intros; (repeat' apply And.intro) <;> first | assumption | omega | (simp_all; done)))
        refine aw_cond (b := _) rfl (fun hb7 => ?_) (fun hb7 => ?_)
        · skip
          refine aw_region (EF := EFa) hG (by rw [hN]; exact tr11_8) ?_
          simp only [a11_8, go_sem, ↓reduceIte, Nat.reduceEqDiff, reduceCtorEq, Nat.reduceAdd, Nat.reduceLT, Nat.reduceLeDiff, Nat.reduceBNe, Nat.reduceBEq, Int.reduceToNat, EFa, tChk, fW_eq]
          refine bx_use (nb := 3) (na := 999) (g := g2) (add_e _ _ _ ?_) (by simp [V.rens, V.ren]) (by simp [V.nins, V.nin]) (by rfl) (by rfl) (by decide) ?_
          · omega
          simp only [go_sem, ↓reduceIte, Nat.reduceEqDiff, reduceCtorEq, Nat.reduceAdd, Nat.reduceLT, Nat.reduceLeDiff, Nat.reduceBNe, Nat.reduceBEq, Int.reduceToNat, bxF]
          refine hKC7 (g2 ++ [⟨4, sBays⟩]) _ ?_ ?_
          · (try dsimp only); refine ⟨?_, by simp⟩; rw [fIf_t hb7]; split; (have h0 : bs.length = 0 := by simp [within] at hb7; omega); (rw [h0, bayTo, List.append_nil]); (rw [List.append_nil])
          · refine Le.mk _ _ ?_ ?_ rfl <;> simp only [go_sem, ↓reduceIte, Nat.reduceEqDiff, reduceCtorEq, Nat.reduceAdd, Nat.reduceLT, Nat.reduceLeDiff, Nat.reduceBNe, Nat.reduceBEq, Int.reduceToNat, List.length_append, List.length_cons, List.length_nil, bxF] <;> (repeat' apply And.intro) <;> (try first | rfl | exact wk_frzb rfl rfl rfl | exact wk_fn rfl | exact .nilo _ _ _ rfl rfl)
        · skip
          have hbw : 1 ≤ bs.length ∧ bs.length ≤ 16 := by simp [within] at hb7; omega
          refine aw_seq (aw_region (EF := EFa) hG (by rw [hN]; exact tr11_9) ?_)
          simp only [a11_9, go_sem, ↓reduceIte, Nat.reduceEqDiff, reduceCtorEq, Nat.reduceAdd, Nat.reduceLT, Nat.reduceLeDiff, Nat.reduceBNe, Nat.reduceBEq, Int.reduceToNat, EFa, tChk, fW_eq]
          refine aw_block ?_
          refine aw_loop (α := Nat × (List Fault)) (fun γ => (γ.1 ≤ bs.length) ∧ (γ.2 = g2 ++ bayTo bs γ.1) ∧ (γ.2.length ≤ g2.length + γ.1)) (fun γ => ⟨mkE [(1, V.ptr 1 0), (3, V.ptr 3 0), (4, V.fn 22 [V.ptr 3 0]), (31, V.list (List.map Bay.enc bs) false), (32, V.int IntKind.i64 ↑bs.length), (33, .int .i64 γ.1)], mkH [(1, Ob.box 25 [V.int IntKind.i64 em, V.int IntKind.i64 ix, V.list (List.map Bay.enc bs) false, V.list (List.map Point.enc en) false]), (3, .box 29 [.own 999 γ.2.length]), (999, .arr 49 2 (faults γ.2))]⟩) (fun γ => bs.length - γ.1) (0, g2) ⟨Nat.zero_le _, by rw [bayTo, List.append_nil], Nat.le_refl _⟩ ?_ ?_
          · refine Le.mk _ _ ?_ ?_ rfl <;> simp only [go_sem, ↓reduceIte, Nat.reduceEqDiff, reduceCtorEq, Nat.reduceAdd, Nat.reduceLT, Nat.reduceLeDiff, Nat.reduceBNe, Nat.reduceBEq, Int.reduceToNat] <;> (repeat' apply And.intro) <;> (try first | rfl | exact wk_frzb rfl rfl rfl | exact wk_fn rfl | exact .nilo _ _ _ rfl rfl)
          · rintro ⟨i, g⟩ ⟨hi, hg, hgl⟩ KL0 hKL0
            try dsimp only at *
            refine aw_seq (aw_region (EF := EFa) hG (by rw [hN]; exact tr11_10) ?_)
            simp only [a11_10, go_sem, ↓reduceIte, Nat.reduceEqDiff, reduceCtorEq, Nat.reduceAdd, Nat.reduceLT, Nat.reduceLeDiff, Nat.reduceBNe, Nat.reduceBEq, Int.reduceToNat, EFa, tChk, fW_eq]
            refine aw_seq ?_
            refine aw_cond (b := _) rfl (fun hc10 => ?_) (fun hc10 => ?_)
            · simp only [decide_eq_true_eq, decide_eq_false_iff_not, Bool.and_eq_true, Bool.or_eq_true, Bool.not_eq_true', Bool.not_eq_false', Bool.and_eq_false_iff, Bool.or_eq_false_iff, Int.ofNat_lt, Int.ofNat_le, Nat.not_lt, Nat.not_le, Int.not_lt, Int.not_le] at hc10
              refine aw_skip ?_
              simp only [go_sem, ↓reduceIte, Nat.reduceEqDiff, reduceCtorEq, Nat.reduceAdd, Nat.reduceLT, Nat.reduceLeDiff, Nat.reduceBNe, Nat.reduceBEq, Int.reduceToNat]
              refine aw_seq ?_
              refine aw_block ?_
              have hd := dec_lenN (i := i) (by omega)
              have hi2 := inI_of (i := i) (by omega)
              refine aw_seq (aw_region (EF := EFa) hG (by rw [hN]; exact tr11_11) ?_)
              simp only [a11_11, go_sem, ↓reduceIte, Nat.reduceEqDiff, reduceCtorEq, Nat.reduceAdd, Nat.reduceLT, Nat.reduceLeDiff, Nat.reduceBNe, Nat.reduceBEq, Int.reduceToNat, getD_mapd _ _ _ _ hc10, hc10, Bay.enc, EFa, tChk, fW_eq]
              (repeat' apply And.intro) <;> (try first | omega | (intros; (repeat' apply And.intro) <;> first | assumption | omega | (simp_all; done)))
              refine aw_seq (aw_region (EF := EFa) hG (by rw [hN]; exact tr11_12) ?_)
              simp only [a11_12, go_sem, ↓reduceIte, Nat.reduceEqDiff, reduceCtorEq, Nat.reduceAdd, Nat.reduceLT, Nat.reduceLeDiff, Nat.reduceBNe, Nat.reduceBEq, Int.reduceToNat, EFa, tChk, fW_eq]
              (repeat' apply And.intro) <;> (try first | omega | (intros; (repeat' apply And.intro) <;> first | assumption | omega | (simp_all; done)))
              refine aw_cond (b := _) rfl (fun hb12 => ?_) (fun hb12 => ?_)
              · skip
                refine aw_region (EF := EFa) hG (by rw [hN]; exact tr11_13) ?_
                simp only [a11_13, go_sem, ↓reduceIte, Nat.reduceEqDiff, reduceCtorEq, Nat.reduceAdd, Nat.reduceLT, Nat.reduceLeDiff, Nat.reduceBNe, Nat.reduceBEq, Int.reduceToNat, inI, fDec_eq, hi2, EFa, tChk, fW_eq]
                (repeat' apply And.intro) <;> (try first | omega | (intros; (repeat' apply And.intro) <;> first | assumption | omega | (simp_all; done)) | (simp only [List.length_append, List.length_cons, List.length_nil]; omega))
                refine bx_use (nb := 3) (na := 999) (g := g) (add_e _ _ _ ?_) (by simp [V.rens, V.ren]) (by simp [V.nins, V.nin]) (by rfl) (by rfl) (by decide) ?_
                · omega
                simp only [go_sem, ↓reduceIte, Nat.reduceEqDiff, reduceCtorEq, Nat.reduceAdd, Nat.reduceLT, Nat.reduceLeDiff, Nat.reduceBNe, Nat.reduceBEq, Int.reduceToNat, bxF]
                refine aw_region (EF := EFa) hG (by rw [hN]; exact tr11_14) ?_
                simp only [a11_14, go_sem, ↓reduceIte, Nat.reduceEqDiff, reduceCtorEq, Nat.reduceAdd, Nat.reduceLT, Nat.reduceLeDiff, Nat.reduceBNe, Nat.reduceBEq, Int.reduceToNat, inI, EFa, tChk, fW_eq]
                (repeat' apply And.intro) <;> (try first | omega | (intros; (repeat' apply And.intro) <;> first | assumption | omega | (simp_all; done)))
                refine hKL0 (i + 1, g ++ [⟨2, sBay ++ dec i⟩]) _ ?_ ?_ ?_
                · (try dsimp only); refine ⟨hc10, ?_, by simp only [List.length_append, List.length_cons, List.length_nil]; omega⟩; rw [hg, bayTo, getD_lt _ _ _ hc10, fIf_t (b := bayBad bs[i]) hb12, List.append_assoc]
                · (try dsimp only); omega
                · refine Le.mk _ _ ?_ ?_ rfl <;> simp only [go_sem, ↓reduceIte, Nat.reduceEqDiff, reduceCtorEq, Nat.reduceAdd, Nat.reduceLT, Nat.reduceLeDiff, Nat.reduceBNe, Nat.reduceBEq, Int.reduceToNat, List.length_append, List.length_cons, List.length_nil, bxF] <;> (repeat' apply And.intro) <;> (try first | rfl | exact wk_frzb rfl rfl rfl | exact wk_fn rfl | exact .nilo _ _ _ rfl rfl)
              · skip
                refine aw_skip ?_
                simp only [go_sem, ↓reduceIte, Nat.reduceEqDiff, reduceCtorEq, Nat.reduceAdd, Nat.reduceLT, Nat.reduceLeDiff, Nat.reduceBNe, Nat.reduceBEq, Int.reduceToNat]
                refine aw_region (EF := EFa) hG (by rw [hN]; exact tr11_14) ?_
                simp only [a11_14, go_sem, ↓reduceIte, Nat.reduceEqDiff, reduceCtorEq, Nat.reduceAdd, Nat.reduceLT, Nat.reduceLeDiff, Nat.reduceBNe, Nat.reduceBEq, Int.reduceToNat, inI, EFa, tChk, fW_eq]
                (repeat' apply And.intro) <;> (try first | omega | (intros; (repeat' apply And.intro) <;> first | assumption | omega | (simp_all; done)))
                refine hKL0 (i + 1, g) _ ?_ ?_ ?_
                · (try dsimp only); refine ⟨hc10, ?_, by omega⟩; rw [hg, bayTo, getD_lt _ _ _ hc10, fIf_f (b := bayBad bs[i]) hb12, List.append_nil]
                · (try dsimp only); omega
                · refine Le.mk _ _ ?_ ?_ rfl <;> simp only [go_sem, ↓reduceIte, Nat.reduceEqDiff, reduceCtorEq, Nat.reduceAdd, Nat.reduceLT, Nat.reduceLeDiff, Nat.reduceBNe, Nat.reduceBEq, Int.reduceToNat] <;> (repeat' apply And.intro) <;> (try first | rfl | exact wk_frzb rfl rfl rfl | exact wk_fn rfl | exact .nilo _ _ _ rfl rfl)
            · simp only [decide_eq_true_eq, decide_eq_false_iff_not, Bool.and_eq_true, Bool.or_eq_true, Bool.not_eq_true', Bool.not_eq_false', Bool.and_eq_false_iff, Bool.or_eq_false_iff, Int.ofNat_lt, Int.ofNat_le, Nat.not_lt, Nat.not_le, Int.not_lt, Int.not_le] at hc10
              refine aw_exit ?_
              simp only [go_sem, ↓reduceIte, Nat.reduceEqDiff, reduceCtorEq, Nat.reduceAdd, Nat.reduceLT, Nat.reduceLeDiff, Nat.reduceBNe, Nat.reduceBEq, Int.reduceToNat]
              refine hKC7 (g) _ ?_ ?_
              · (try dsimp only); refine ⟨?_, by omega⟩; rw [fIf_f hb7, if_pos hbw.2, hg, List.append_nil, Nat.le_antisymm hi hc10]
              · refine Le.mk _ _ ?_ ?_ rfl <;> simp only [go_sem, ↓reduceIte, Nat.reduceEqDiff, reduceCtorEq, Nat.reduceAdd, Nat.reduceLT, Nat.reduceLeDiff, Nat.reduceBNe, Nat.reduceBEq, Int.reduceToNat] <;> (repeat' apply And.intro) <;> (try first | rfl | exact wk_frzb rfl rfl rfl | exact wk_fn rfl | exact .nilo _ _ _ rfl rfl)
      · rintro g4 ⟨hg4, lg4⟩
        refine aw_seq ?_
        refine aw_seq (aw_region (EF := EFa) hG (by rw [hN]; exact tr11_15) ?_)
        simp only [a11_15, go_sem, ↓reduceIte, Nat.reduceEqDiff, reduceCtorEq, Nat.reduceAdd, Nat.reduceLT, Nat.reduceLeDiff, Nat.reduceBNe, Nat.reduceBEq, Int.reduceToNat, EFa, tChk, fW_eq]
        (repeat' apply And.intro) <;> (try first | omega | (intros; (repeat' apply And.intro) <;> first | assumption | omega | (simp_all; done)))
        refine aw_cond (b := _) rfl (fun hb15 => ?_) (fun hb15 => ?_)
        · skip
          refine aw_seq (aw_region (EF := EFa) hG (by rw [hN]; exact tr11_16) ?_)
          simp only [a11_16, go_sem, ↓reduceIte, Nat.reduceEqDiff, reduceCtorEq, Nat.reduceAdd, Nat.reduceLT, Nat.reduceLeDiff, Nat.reduceBNe, Nat.reduceBEq, Int.reduceToNat, EFa, tChk, fW_eq]
          refine bx_use (nb := 3) (na := 999) (g := g4) (add_e _ _ _ ?_) (by simp [V.rens, V.ren]) (by simp [V.nins, V.nin]) (by rfl) (by rfl) (by decide) ?_
          · omega
          simp only [go_sem, ↓reduceIte, Nat.reduceEqDiff, reduceCtorEq, Nat.reduceAdd, Nat.reduceLT, Nat.reduceLeDiff, Nat.reduceBNe, Nat.reduceBEq, Int.reduceToNat, bxF]
          refine aw_seq (aw_region (EF := EFa) hG (by rw [hN]; exact tr11_17) ?_)
          simp only [a11_17, go_sem, ↓reduceIte, Nat.reduceEqDiff, reduceCtorEq, Nat.reduceAdd, Nat.reduceLT, Nat.reduceLeDiff, Nat.reduceBNe, Nat.reduceBEq, Int.reduceToNat, EFa, tChk, fW_eq]
          refine AW.le (s' := ⟨mkE [(2, .list (faults (g4 ++ [⟨4, sEnv⟩])) false)], mkH []⟩) (Le.mk _ _ ?_ ?_ rfl) (aw_ret (hQ _ _ (.inl rfl) ?_ ?_ ?_)) <;> simp only [outφ, outV, AR.res, go_sem, ↓reduceIte, Nat.reduceEqDiff, reduceCtorEq, Nat.reduceAdd, Nat.reduceLT, Nat.reduceLeDiff, Nat.reduceBNe, Nat.reduceBEq, Int.reduceToNat, fChk, List.length_append, List.length_cons, List.length_nil]
          · exact wk_frz rfl (by rw [faults_len, List.length_append]; rfl) rfl (faults_pur _)
          · unfold chkF headF; dsimp only; rw [if_neg (show ¬ within en.length 3 16 = true by intro h; rw [h] at hb15; cases hb15), hg4, hg2, hg1]; rfl
        · skip
          refine aw_skip ?_
          simp only [go_sem, ↓reduceIte, Nat.reduceEqDiff, reduceCtorEq, Nat.reduceAdd, Nat.reduceLT, Nat.reduceLeDiff, Nat.reduceBNe, Nat.reduceBEq, Int.reduceToNat]
          have hw : within en.length 3 16 = true := by simpa using hb15
          have hwl : 3 ≤ en.length ∧ en.length ≤ 16 := by simp only [within, Bool.and_eq_true, decide_eq_true_eq] at hw; omega
          refine aw_seq (aw_region (EF := EFa) hG (by rw [hN]; exact tr11_18) ?_)
          simp only [a11_18, go_sem, ↓reduceIte, Nat.reduceEqDiff, reduceCtorEq, Nat.reduceAdd, Nat.reduceLT, Nat.reduceLeDiff, Nat.reduceBNe, Nat.reduceBEq, Int.reduceToNat, EFa, tChk, fW_eq]
          refine aw_seq ?_
          refine aw_seq (aw_region (EF := EFa) hG (by rw [hN]; exact tr11_19) ?_)
          simp only [a11_19, go_sem, ↓reduceIte, Nat.reduceEqDiff, reduceCtorEq, Nat.reduceAdd, Nat.reduceLT, Nat.reduceLeDiff, Nat.reduceBNe, Nat.reduceBEq, Int.reduceToNat, EFa, tChk, fW_eq]
          refine aw_block ?_
          refine aw_loop (α := Nat × (List Fault) × Bool) (fun γ => (γ.1 ≤ en.length) ∧ (γ.2.1 = g4 ++ ptTo en γ.1) ∧ (γ.2.2 = (en.take γ.1).all fineB) ∧ (γ.2.1.length ≤ g4.length + γ.1)) (fun γ => ⟨mkE [(1, V.ptr 1 0), (3, V.ptr 3 0), (4, V.fn 22 [V.ptr 3 0]), (7, .bool γ.2.2), (63, V.list (List.map Point.enc en) false), (64, V.int IntKind.i64 ↑en.length), (65, .int .i64 γ.1)], mkH [(1, Ob.box 25 [V.int IntKind.i64 em, V.int IntKind.i64 ix, V.list (List.map Bay.enc bs) false, V.list (List.map Point.enc en) false]), (3, .box 29 [.own 999 γ.2.1.length]), (999, .arr 49 2 (faults γ.2.1))]⟩) (fun γ => en.length - γ.1) (0, g4, true) ⟨Nat.zero_le _, by rw [ptTo, List.append_nil], rfl, Nat.le_refl _⟩ ?_ ?_
          · refine Le.mk _ _ ?_ ?_ rfl <;> simp only [go_sem, ↓reduceIte, Nat.reduceEqDiff, reduceCtorEq, Nat.reduceAdd, Nat.reduceLT, Nat.reduceLeDiff, Nat.reduceBNe, Nat.reduceBEq, Int.reduceToNat] <;> (repeat' apply And.intro) <;> (try first | rfl | exact wk_frzb rfl rfl rfl | exact wk_fn rfl | exact .nilo _ _ _ rfl rfl)
          · rintro ⟨j, f, ok⟩ ⟨hj, hf, hok, hfl⟩ KL2 hKL2
            try dsimp only at *
            refine aw_seq (aw_region (EF := EFa) hG (by rw [hN]; exact tr11_20) ?_)
            simp only [a11_20, go_sem, ↓reduceIte, Nat.reduceEqDiff, reduceCtorEq, Nat.reduceAdd, Nat.reduceLT, Nat.reduceLeDiff, Nat.reduceBNe, Nat.reduceBEq, Int.reduceToNat, EFa, tChk, fW_eq]
            refine aw_seq ?_
            refine aw_cond (b := _) rfl (fun hc20 => ?_) (fun hc20 => ?_)
            · simp only [decide_eq_true_eq, decide_eq_false_iff_not, Bool.and_eq_true, Bool.or_eq_true, Bool.not_eq_true', Bool.not_eq_false', Bool.and_eq_false_iff, Bool.or_eq_false_iff, Int.ofNat_lt, Int.ofNat_le, Nat.not_lt, Nat.not_le, Int.not_lt, Int.not_le] at hc20
              refine aw_skip ?_
              simp only [go_sem, ↓reduceIte, Nat.reduceEqDiff, reduceCtorEq, Nat.reduceAdd, Nat.reduceLT, Nat.reduceLeDiff, Nat.reduceBNe, Nat.reduceBEq, Int.reduceToNat]
              refine aw_seq ?_
              refine aw_block ?_
              have hd := dec_lenN (i := j) (by omega)
              have hi2 := inI_of (i := j) (by omega)
              refine aw_seq (aw_region (EF := EFa) hG (by rw [hN]; exact tr11_21) ?_)
              simp only [a11_21, go_sem, ↓reduceIte, Nat.reduceEqDiff, reduceCtorEq, Nat.reduceAdd, Nat.reduceLT, Nat.reduceLeDiff, Nat.reduceBNe, Nat.reduceBEq, Int.reduceToNat, getD_mapd _ _ _ _ hc20, hc20, Point.enc, EFa, tChk, fW_eq]
              (repeat' apply And.intro) <;> (try first | omega | (intros; (repeat' apply And.intro) <;> first | assumption | omega | (simp_all; done)))
              refine aw_seq (aw_region (EF := EFa) hG (by rw [hN]; exact tr11_22) ?_)
              simp only [a11_22, go_sem, ↓reduceIte, Nat.reduceEqDiff, reduceCtorEq, Nat.reduceAdd, Nat.reduceLT, Nat.reduceLeDiff, Nat.reduceBNe, Nat.reduceBEq, Int.reduceToNat, EFa, tChk, fW_eq]
              (repeat' apply And.intro) <;> (try first | omega | (intros; (repeat' apply And.intro) <;> first | assumption | omega | (simp_all; done)))
              refine aw_cond (b := _) rfl (fun hb22 => ?_) (fun hb22 => ?_)
              · skip
                have hq : fineB en[j] = false := by have h := fine_or en[j]; rw [hb22] at h; simpa using h.symm
                refine aw_seq (aw_region (EF := EFa) hG (by rw [hN]; exact tr11_23) ?_)
                simp only [a11_23, go_sem, ↓reduceIte, Nat.reduceEqDiff, reduceCtorEq, Nat.reduceAdd, Nat.reduceLT, Nat.reduceLeDiff, Nat.reduceBNe, Nat.reduceBEq, Int.reduceToNat, inI, fDec_eq, hi2, EFa, tChk, fW_eq]
                (repeat' apply And.intro) <;> (try first | omega | (intros; (repeat' apply And.intro) <;> first | assumption | omega | (simp_all; done)) | (simp only [List.length_append, List.length_cons, List.length_nil]; omega))
                refine bx_use (nb := 3) (na := 999) (g := f) (add_e _ _ _ ?_) (by simp [V.rens, V.ren]) (by simp [V.nins, V.nin]) (by rfl) (by rfl) (by decide) ?_
                · omega
                simp only [go_sem, ↓reduceIte, Nat.reduceEqDiff, reduceCtorEq, Nat.reduceAdd, Nat.reduceLT, Nat.reduceLeDiff, Nat.reduceBNe, Nat.reduceBEq, Int.reduceToNat, bxF]
                refine aw_region (EF := EFa) hG (by rw [hN]; exact tr11_24) ?_
                simp only [a11_24, go_sem, ↓reduceIte, Nat.reduceEqDiff, reduceCtorEq, Nat.reduceAdd, Nat.reduceLT, Nat.reduceLeDiff, Nat.reduceBNe, Nat.reduceBEq, Int.reduceToNat, EFa, tChk, fW_eq]
                refine aw_region (EF := EFa) hG (by rw [hN]; exact tr11_25) ?_
                simp only [a11_25, go_sem, ↓reduceIte, Nat.reduceEqDiff, reduceCtorEq, Nat.reduceAdd, Nat.reduceLT, Nat.reduceLeDiff, Nat.reduceBNe, Nat.reduceBEq, Int.reduceToNat, inI, EFa, tChk, fW_eq]
                (repeat' apply And.intro) <;> (try first | omega | (intros; (repeat' apply And.intro) <;> first | assumption | omega | (simp_all; done)))
                refine hKL2 (j + 1, f ++ [⟨2, sPoint ++ dec j⟩], false) _ ?_ ?_ ?_
                · (try dsimp only); refine ⟨hc20, ?_, ?_, by simp only [List.length_append, List.length_cons, List.length_nil]; omega⟩; (rw [hf, ptTo, getD_lt _ _ _ hc20, fIf_t (b := !fineB en[j]) (by rw [hq]; rfl), List.append_assoc]); (rw [all_step' hc20, hq, Bool.and_false])
                · (try dsimp only); omega
                · refine Le.mk _ _ ?_ ?_ rfl <;> simp only [go_sem, ↓reduceIte, Nat.reduceEqDiff, reduceCtorEq, Nat.reduceAdd, Nat.reduceLT, Nat.reduceLeDiff, Nat.reduceBNe, Nat.reduceBEq, Int.reduceToNat, List.length_append, List.length_cons, List.length_nil, bxF] <;> (repeat' apply And.intro) <;> (try first | rfl | exact wk_frzb rfl rfl rfl | exact wk_fn rfl | exact .nilo _ _ _ rfl rfl)
              · skip
                have hq : fineB en[j] = true := by have h := fine_or en[j]; rw [hb22] at h; simpa using h.symm
                refine aw_skip ?_
                simp only [go_sem, ↓reduceIte, Nat.reduceEqDiff, reduceCtorEq, Nat.reduceAdd, Nat.reduceLT, Nat.reduceLeDiff, Nat.reduceBNe, Nat.reduceBEq, Int.reduceToNat]
                refine aw_region (EF := EFa) hG (by rw [hN]; exact tr11_25) ?_
                simp only [a11_25, go_sem, ↓reduceIte, Nat.reduceEqDiff, reduceCtorEq, Nat.reduceAdd, Nat.reduceLT, Nat.reduceLeDiff, Nat.reduceBNe, Nat.reduceBEq, Int.reduceToNat, inI, EFa, tChk, fW_eq]
                (repeat' apply And.intro) <;> (try first | omega | (intros; (repeat' apply And.intro) <;> first | assumption | omega | (simp_all; done)))
                refine hKL2 (j + 1, f, ok) _ ?_ ?_ ?_
                · (try dsimp only); refine ⟨hc20, ?_, ?_, by omega⟩; (rw [hf, ptTo, getD_lt _ _ _ hc20, fIf_f (b := !fineB en[j]) (by rw [hq]; rfl), List.append_nil]); (rw [all_step' hc20, hq, Bool.and_true, hok])
                · (try dsimp only); omega
                · refine Le.mk _ _ ?_ ?_ rfl <;> simp only [go_sem, ↓reduceIte, Nat.reduceEqDiff, reduceCtorEq, Nat.reduceAdd, Nat.reduceLT, Nat.reduceLeDiff, Nat.reduceBNe, Nat.reduceBEq, Int.reduceToNat] <;> (repeat' apply And.intro) <;> (try first | rfl | exact wk_frzb rfl rfl rfl | exact wk_fn rfl | exact .nilo _ _ _ rfl rfl)
            · simp only [decide_eq_true_eq, decide_eq_false_iff_not, Bool.and_eq_true, Bool.or_eq_true, Bool.not_eq_true', Bool.not_eq_false', Bool.and_eq_false_iff, Bool.or_eq_false_iff, Int.ofNat_lt, Int.ofNat_le, Nat.not_lt, Nat.not_le, Int.not_lt, Int.not_le] at hc20
              refine aw_exit ?_
              simp only [go_sem, ↓reduceIte, Nat.reduceEqDiff, reduceCtorEq, Nat.reduceAdd, Nat.reduceLT, Nat.reduceLeDiff, Nat.reduceBNe, Nat.reduceBEq, Int.reduceToNat]
              refine aw_cut (α := (List Fault)) (fun f2 => (f2 = f ++ fIf (and ok (decide (turn en = 0))) 33 sEnv) ∧ (f2.length ≤ f.length + 1)) (fun f2 => ⟨mkE [(3, V.ptr 3 0)], mkH [(3, .box 29 [.own 999 f2.length]), (999, .arr 49 2 (faults f2))]⟩) ?_ ?_
              · intro KC26 hKC26
                rw [List.take_of_length_le hc20] at hok
                have hfin : ok = true → FineL en := fun h => ⟨hwl.1, by omega, fine_all (by rw [← hok, h])⟩
                by_cases hokk : ok = true
                · skip
                  have hfn := hfin hokk
                  refine aw_seq (aw_region (EF := EFa) hG (by rw [hN]; exact tr11_26) ?_)
                  simp only [a11_26, go_sem, ↓reduceIte, Nat.reduceEqDiff, reduceCtorEq, Nat.reduceAdd, Nat.reduceLT, Nat.reduceLeDiff, Nat.reduceBNe, Nat.reduceBEq, Int.reduceToNat, hokk, fCx_eq, EFa, tChk, fW_eq, hfn]
                  (repeat' apply And.intro) <;> (try first | omega | (intros; (repeat' apply And.intro) <;> first | assumption | omega | (simp_all; done)))
                  refine aw_cond (b := _) rfl (fun hb26 => ?_) (fun hb26 => ?_)
                  · skip
                    refine aw_region (EF := EFa) hG (by rw [hN]; exact tr11_27) ?_
                    simp only [a11_27, go_sem, ↓reduceIte, Nat.reduceEqDiff, reduceCtorEq, Nat.reduceAdd, Nat.reduceLT, Nat.reduceLeDiff, Nat.reduceBNe, Nat.reduceBEq, Int.reduceToNat, EFa, tChk, fW_eq]
                    refine bx_use (nb := 3) (na := 999) (g := f) (add_e _ _ _ ?_) (by simp [V.rens, V.ren]) (by simp [V.nins, V.nin]) (by rfl) (by rfl) (by decide) ?_
                    · omega
                    simp only [go_sem, ↓reduceIte, Nat.reduceEqDiff, reduceCtorEq, Nat.reduceAdd, Nat.reduceLT, Nat.reduceLeDiff, Nat.reduceBNe, Nat.reduceBEq, Int.reduceToNat, bxF]
                    refine hKC26 (f ++ [⟨33, sEnv⟩]) _ ?_ ?_
                    · (try dsimp only); exact ⟨by rw [fIf_t (by rw [hokk]; simpa using hb26)], by simp⟩
                    · refine Le.mk _ _ ?_ ?_ rfl <;> simp only [go_sem, ↓reduceIte, Nat.reduceEqDiff, reduceCtorEq, Nat.reduceAdd, Nat.reduceLT, Nat.reduceLeDiff, Nat.reduceBNe, Nat.reduceBEq, Int.reduceToNat, List.length_append, List.length_cons, List.length_nil, bxF] <;> (repeat' apply And.intro) <;> (try first | rfl | exact wk_frzb rfl rfl rfl | exact wk_fn rfl | exact .nilo _ _ _ rfl rfl)
                  · skip
                    refine aw_skip ?_
                    simp only [go_sem, ↓reduceIte, Nat.reduceEqDiff, reduceCtorEq, Nat.reduceAdd, Nat.reduceLT, Nat.reduceLeDiff, Nat.reduceBNe, Nat.reduceBEq, Int.reduceToNat]
                    refine hKC26 (f) _ ?_ ?_
                    · (try dsimp only); exact ⟨by rw [fIf_f (by rw [hokk]; simpa using hb26), List.append_nil], by omega⟩
                    · refine Le.mk _ _ ?_ ?_ rfl <;> simp only [go_sem, ↓reduceIte, Nat.reduceEqDiff, reduceCtorEq, Nat.reduceAdd, Nat.reduceLT, Nat.reduceLeDiff, Nat.reduceBNe, Nat.reduceBEq, Int.reduceToNat] <;> (repeat' apply And.intro) <;> (try first | rfl | exact wk_frzb rfl rfl rfl | exact wk_fn rfl | exact .nilo _ _ _ rfl rfl)
                · skip
                  replace hokk := Bool.eq_false_iff.2 hokk
                  refine aw_seq (aw_region (EF := EFa) hG (by rw [hN]; exact tr11_26) ?_)
                  simp only [a11_26, go_sem, ↓reduceIte, Nat.reduceEqDiff, reduceCtorEq, Nat.reduceAdd, Nat.reduceLT, Nat.reduceLeDiff, Nat.reduceBNe, Nat.reduceBEq, Int.reduceToNat, hokk, fCx_eq, EFa, tChk, fW_eq]
                  (repeat' apply And.intro) <;> (try first | omega | (intros; (repeat' apply And.intro) <;> first | assumption | omega | (simp_all; done)))
                  refine aw_cond (b := _) rfl (fun hb26 => ?_) (fun hb26 => ?_)
                  · skip
                    refine aw_region (EF := EFa) hG (by rw [hN]; exact tr11_27) ?_
                    simp only [a11_27, go_sem, ↓reduceIte, Nat.reduceEqDiff, reduceCtorEq, Nat.reduceAdd, Nat.reduceLT, Nat.reduceLeDiff, Nat.reduceBNe, Nat.reduceBEq, Int.reduceToNat, EFa, tChk, fW_eq]
                    refine bx_use (nb := 3) (na := 999) (g := f) (add_e _ _ _ ?_) (by simp [V.rens, V.ren]) (by simp [V.nins, V.nin]) (by rfl) (by rfl) (by decide) ?_
                    · omega
                    simp only [go_sem, ↓reduceIte, Nat.reduceEqDiff, reduceCtorEq, Nat.reduceAdd, Nat.reduceLT, Nat.reduceLeDiff, Nat.reduceBNe, Nat.reduceBEq, Int.reduceToNat, bxF]
                    refine hKC26 (f ++ [⟨33, sEnv⟩]) _ ?_ ?_
                    · (try dsimp only); cases hb26
                    · refine Le.mk _ _ ?_ ?_ rfl <;> simp only [go_sem, ↓reduceIte, Nat.reduceEqDiff, reduceCtorEq, Nat.reduceAdd, Nat.reduceLT, Nat.reduceLeDiff, Nat.reduceBNe, Nat.reduceBEq, Int.reduceToNat, List.length_append, List.length_cons, List.length_nil, bxF] <;> (repeat' apply And.intro) <;> (try first | rfl | exact wk_frzb rfl rfl rfl | exact wk_fn rfl | exact .nilo _ _ _ rfl rfl)
                  · skip
                    refine aw_skip ?_
                    simp only [go_sem, ↓reduceIte, Nat.reduceEqDiff, reduceCtorEq, Nat.reduceAdd, Nat.reduceLT, Nat.reduceLeDiff, Nat.reduceBNe, Nat.reduceBEq, Int.reduceToNat]
                    refine hKC26 (f) _ ?_ ?_
                    · (try dsimp only); exact ⟨by rw [fIf_f (by rw [hokk]; rfl), List.append_nil], by omega⟩
                    · refine Le.mk _ _ ?_ ?_ rfl <;> simp only [go_sem, ↓reduceIte, Nat.reduceEqDiff, reduceCtorEq, Nat.reduceAdd, Nat.reduceLT, Nat.reduceLeDiff, Nat.reduceBNe, Nat.reduceBEq, Int.reduceToNat] <;> (repeat' apply And.intro) <;> (try first | rfl | exact wk_frzb rfl rfl rfl | exact wk_fn rfl | exact .nilo _ _ _ rfl rfl)
              · rintro f2 ⟨hf2, lf2⟩
                refine aw_seq (aw_region (EF := EFa) hG (by rw [hN]; exact tr11_28) ?_)
                simp only [a11_28, go_sem, ↓reduceIte, Nat.reduceEqDiff, reduceCtorEq, Nat.reduceAdd, Nat.reduceLT, Nat.reduceLeDiff, Nat.reduceBNe, Nat.reduceBEq, Int.reduceToNat, EFa, tChk, fW_eq]
                refine AW.le (s' := ⟨mkE [(2, .list (faults f2) false)], mkH []⟩) (Le.mk _ _ ?_ ?_ rfl) (aw_ret (hQ _ _ (.inl rfl) ?_ ?_ ?_)) <;> simp only [outφ, outV, AR.res, go_sem, ↓reduceIte, Nat.reduceEqDiff, reduceCtorEq, Nat.reduceAdd, Nat.reduceLT, Nat.reduceLeDiff, Nat.reduceBNe, Nat.reduceBEq, Int.reduceToNat, fChk]
                · exact wk_frz rfl (by rw [faults_len]) rfl (faults_pur _)
                · unfold chkF headF; dsimp only; rw [if_pos hw, hf2, hf, hg4, hg2, hg1, hok, List.take_of_length_le hc20, Nat.le_antisymm hj hc20]; simp only [List.append_assoc, List.nil_append]
end Go.Proofs.YtemeeeomcjdlnaaDoor
