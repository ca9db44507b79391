/- Check, of the program and of the reference. -/
import Derived.Test.YtemeeeomcjdlnaaDoorT4
import Derived.Test.YtemeeeomcjdlnaaDoorBa2
namespace Go.Proofs.YtemeeeomcjdlnaaDoor
open Go Go.RowKit
set_option linter.unusedSimpArgs false
set_option linter.unusedVariables false
set_option linter.deprecated false
theorem add_e (g : List Fault) (e : Int) (pos : List UInt8) (hg : g.length ≤ 1000000000) : Eff Tryd.prog UT 22 ([.int .i64 e, .str pos] ++ [.ptr 1000 0]) (bxF 1000 1001 g) (.tup []) (bxF 1000 1001 (g ++ [⟨e, pos⟩])) := by
  have hG := tNo_ok
  refine Eff.of_aw Tryd.func22 body22 nm22 res22 (by rw [nt22]; simp) fun C hN Q hQ => ?_
  rw [nt22] at hN
  unfold c22
  refine aw_region (EF := EF0) hG (by rw [hN]; exact tr22_0) ?_
  simp only [a22_0, go_sem, ↓reduceIte, Nat.reduceEqDiff, reduceCtorEq, Nat.reduceAdd, Nat.reduceLT, Nat.reduceLeDiff, Nat.reduceBNe, Nat.reduceBEq, Int.reduceToNat, bxF]
  (repeat' apply And.intro) <;> (try first | omega | (intros; (repeat' apply And.intro) <;> first | assumption | omega | (simp_all; done)))
  show Q _ _
  refine hQ _ _ ⟨mkE [], mkH (bxF 1000 1001 (g ++ [⟨e, pos⟩]))⟩ (.inr rfl) (Le.mk _ _ ?_ ?_ rfl) rfl ?_ ?_ <;> simp only [outφ, outV, AR.res, go_sem, ↓reduceIte, Nat.reduceEqDiff, reduceCtorEq, Nat.reduceAdd, Nat.reduceLT, Nat.reduceLeDiff, Nat.reduceBNe, Nat.reduceBEq, Int.reduceToNat, bxF, List.length_append, List.length_cons, List.length_nil]
def sEmpty : List UInt8 := [101, 109, 112, 116, 121]
def sIndex : List UInt8 := [105, 110, 100, 101, 120]
def sBays : List UInt8 := [98, 97, 121, 115]
def sEnv : List UInt8 := [101, 110, 118, 101, 108, 111, 112, 101]
def sBay : List UInt8 := [98, 97, 121, 32]
def sPoint : List UInt8 := [112, 111, 105, 110, 116, 32]
def bayBad (b : Bay) : Bool := !within b.arm (-1000) 1000 || !within b.max 0 1000000
def bayTo (l : List Bay) : Nat → List Fault
  | 0 => []
  | i + 1 => bayTo l i ++ fIf (bayBad (l.getD i Bay.zero)) 2 (sBay ++ dec i)
def ptTo (l : List Point) : Nat → List Fault
  | 0 => []
  | i + 1 => ptTo l i ++ fIf (!fineB (l.getD i Point.zero)) 2 (sPoint ++ dec i)
def headF (t : Trim) : List Fault := fIf (!within t.empty 0 1000000) 2 sEmpty ++ fIf (!within t.index (-1000000000) 1000000000) 2 sIndex ++ fIf (!within t.bays.length 1 16) 4 sBays ++ (if t.bays.length ≤ 16 then bayTo t.bays t.bays.length else [])
def chkF (t : Trim) : List Fault := headF t ++ if within t.envelope.length 3 16 then ptTo t.envelope t.envelope.length ++ fIf (t.envelope.all fineB && decide (turn t.envelope = 0)) 33 sEnv else [⟨4, sEnv⟩]
theorem bayTo_len (l k) : (bayTo l k).length ≤ k := by
  induction k with
  | zero => simp [bayTo]
  | succ k ih => have := fIf_len (bayBad (l.getD k Bay.zero)) 2 (sBay ++ dec k); rw [bayTo, List.length_append]; omega
theorem ptTo_len (l k) : (ptTo l k).length ≤ k := by
  induction k with
  | zero => simp [ptTo]
  | succ k ih => have := fIf_len (!fineB (l.getD k Point.zero)) 2 (sPoint ++ dec k); rw [ptTo, List.length_append]; omega
theorem all_step' {α : Type} {p : α → Bool} {l : List α} {i : Nat} (h : i < l.length) : (l.take (i + 1)).all p = ((l.take i).all p && p l[i]) := by rw [take_succ' h, List.all_append]; simp
theorem fine_all {l : List Point} (h : l.all fineB = true) : ∀ p ∈ l, fineP p := fun p hp => (fineB_iff p).1 (List.all_eq_true.1 h p hp)
def Sz (t : Trim) : Prop := t.bays.length ≤ 1000 ∧ t.envelope.length ≤ 1000
def aT (x : Trim) : List V := [.agg x.enc]
theorem aT_inj (a b : Trim) (h : aT a = aT b) : a = b := by
  simp only [aT, List.cons.injEq, V.str.injEq, V.int.injEq, V.bool.injEq, V.agg.injEq, V.list.injEq, and_true, true_and] at h
  have h0 := h
  replace h0 := Trim.inj _ _ h0
  subst h0
  rfl
def fChk (t : Trim) : Prop × V := (Sz t, .list (faults (chkF t)) false)
theorem fCx_eq (l : List Point) : gOf aE fCx [.list (l.map Point.enc) false] = (FineL l, .bool (!decide (turn l = 0))) := gOf_eq aE_inj l
theorem fTurn_eq (l : List Point) : gOf aE fTurn [.list (l.map Point.enc) false] = (FineL l, .int .i64 (turn l)) := gOf_eq aE_inj l
theorem fDec_eq (n) : gDec [.int .i64 n] = (inI n, .str (dec n)) := rfl
theorem fRDec_eq (n) : gRDec [.int .i64 n] = (inI n, .str (dec n)) := rfl
theorem inI_of {i : Nat} (h : i ≤ 1000000) : inI (i : Int) := ⟨by omega, by omega⟩
noncomputable def trChk : Tab
  | 26 => (gOf aW fW)
  | 27 => gRDec
  | 28 => (gOf aP fFine)
  | 29 => (gOf aE fTurn)
  | _ => gNo
theorem trChk_ok : ∀ f, PureC Tryd.prog UT f (trChk f) := fun f => by
  unfold trChk
  split
  · exact rwithin_p
  · exact rdecimal_p
  · exact fine_p
  · exact rconvex_p
  · exact PureC.no
set_option maxHeartbeats 2000000 in
theorem rcheck_p : PureC Tryd.prog UT 12 (gOf aT fChk) := by
  have hG := trChk_ok
  refine PureC.ofArgs aT_inj Tryd.func12 body12 nm12 res12 ?_
  rintro ⟨em, ix, bs, en⟩ hv
  refine ⟨by rw [nt12]; simp [aT], fun C hN Q hQ => ?_⟩
  rw [nt12] at hN
  unfold c12
  obtain ⟨hbl, hel⟩ : bs.length ≤ 1000 ∧ en.length ≤ 1000 := hv
  refine aw_seq (aw_region (EF := EF0) hG (by rw [hN]; exact tr12_0) ?_)
  simp only [a12_0, go_sem, ↓reduceIte, Nat.reduceEqDiff, reduceCtorEq, Nat.reduceAdd, Nat.reduceLT, Nat.reduceLeDiff, Nat.reduceBNe, Nat.reduceBEq, Int.reduceToNat, aT, Trim.enc, trChk, fW_eq]
  refine aw_seq (aw_region (EF := EF0) hG (by rw [hN]; exact tr12_1) ?_)
  simp only [a12_1, go_sem, ↓reduceIte, Nat.reduceEqDiff, reduceCtorEq, Nat.reduceAdd, Nat.reduceLT, Nat.reduceLeDiff, Nat.reduceBNe, Nat.reduceBEq, Int.reduceToNat, trChk, fW_eq]
  refine AW.le (s' := ⟨mkE [(1, .ptr 1 0), (3, .own 999 0)], mkH ([(1, .box 25 [.int .i64 em, .int .i64 ix, .list (bs.map Bay.enc) false, .list (en.map Point.enc) false]), (999, .arr 49 2 (faults []))])⟩) (Le.mk _ _ (by (simp only [go_sem, ↓reduceIte, Nat.reduceEqDiff, reduceCtorEq, Nat.reduceAdd, Nat.reduceLT, Nat.reduceLeDiff, Nat.reduceBNe, Nat.reduceBEq, Int.reduceToNat]) <;> (repeat' apply And.intro) <;> (try first | exact wk_frzb rfl rfl rfl | rfl | exact wk_fn rfl | exact .nill _ | exact .nilo _ _ _ rfl rfl)) (by (simp only [go_sem, ↓reduceIte, Nat.reduceEqDiff, reduceCtorEq, Nat.reduceAdd, Nat.reduceLT, Nat.reduceLeDiff, Nat.reduceBNe, Nat.reduceBEq, Int.reduceToNat]) <;> (repeat' apply And.intro) <;> (try first | exact wk_frzb rfl rfl rfl | rfl | exact wk_fn rfl | exact .nill _ | exact .nilo _ _ _ rfl rfl)) rfl) ?_
  refine aw_cut (α := (List Fault)) (fun g1 => (g1 = ([] : List Fault) ++ fIf (!within em 0 1000000) 2 (sEmpty)) ∧ (g1.length ≤ ([] : List Fault).length + 1)) (fun g1 => ⟨mkE [(1, V.ptr 1 0), (3, .own 999 g1.length)], mkH [(1, Ob.box 25 [V.int IntKind.i64 em, V.int IntKind.i64 ix, V.list (List.map Bay.enc bs) false, V.list (List.map Point.enc en) false]), (999, .arr 49 2 (faults g1))]⟩) ?_ ?_
  · intro KC2 hKC2
    refine aw_seq (aw_region (EF := EF0) hG (by rw [hN]; exact tr12_2) ?_)
    simp only [a12_2, go_sem, ↓reduceIte, Nat.reduceEqDiff, reduceCtorEq, Nat.reduceAdd, Nat.reduceLT, Nat.reduceLeDiff, Nat.reduceBNe, Nat.reduceBEq, Int.reduceToNat, trChk, fW_eq]
    (repeat' apply And.intro) <;> (try first | omega | (intros; (repeat' apply And.intro) <;> first | assumption | omega | (simp_all; done)))
    refine aw_cond (b := _) rfl (fun hb2 => ?_) (fun hb2 => ?_)
    · skip
      refine aw_region (EF := EF0) hG (by rw [hN]; exact tr12_3) ?_
      simp only [a12_3, go_sem, ↓reduceIte, Nat.reduceEqDiff, reduceCtorEq, Nat.reduceAdd, Nat.reduceLT, Nat.reduceLeDiff, Nat.reduceBNe, Nat.reduceBEq, Int.reduceToNat, trChk, fW_eq]
      (repeat' apply And.intro) <;> (try first | omega | (intros; (repeat' apply And.intro) <;> first | assumption | omega | (simp_all; done)))
      refine hKC2 (([] : List Fault) ++ [⟨2, sEmpty⟩]) _ ?_ ?_
      · (try dsimp only); exact ⟨by rw [fIf_t (show (!within em 0 1000000) = true from hb2)], by simp⟩
      · refine Le.mk _ _ ?_ ?_ rfl <;> simp only [go_sem, ↓reduceIte, Nat.reduceEqDiff, reduceCtorEq, Nat.reduceAdd, Nat.reduceLT, Nat.reduceLeDiff, Nat.reduceBNe, Nat.reduceBEq, Int.reduceToNat, List.length_append, List.length_cons, List.length_nil] <;> (repeat' apply And.intro) <;> (try first | rfl | exact wk_frzb rfl rfl rfl | exact wk_fn rfl | exact .nilo _ _ _ rfl rfl)
    · skip
      refine aw_skip ?_
      simp only [go_sem, ↓reduceIte, Nat.reduceEqDiff, reduceCtorEq, Nat.reduceAdd, Nat.reduceLT, Nat.reduceLeDiff, Nat.reduceBNe, Nat.reduceBEq, Int.reduceToNat]
      refine hKC2 (([] : List Fault)) _ ?_ ?_
      · (try dsimp only); exact ⟨by rw [fIf_f (show (!within em 0 1000000) = false from hb2), List.append_nil], by omega⟩
      · refine Le.mk _ _ ?_ ?_ rfl <;> simp only [go_sem, ↓reduceIte, Nat.reduceEqDiff, reduceCtorEq, Nat.reduceAdd, Nat.reduceLT, Nat.reduceLeDiff, Nat.reduceBNe, Nat.reduceBEq, Int.reduceToNat] <;> (repeat' apply And.intro) <;> (try first | rfl | exact wk_frzb rfl rfl rfl | exact wk_fn rfl | exact .nilo _ _ _ rfl rfl)
  · rintro g1 ⟨hg1, lg1⟩
    simp only [List.length_nil] at lg1
    refine aw_cut (α := (List Fault)) (fun g2 => (g2 = g1 ++ fIf (!within ix (-1000000000) 1000000000) 2 (sIndex)) ∧ (g2.length ≤ g1.length + 1)) (fun g2 => ⟨mkE [(1, V.ptr 1 0), (3, .own 999 g2.length)], mkH [(1, Ob.box 25 [V.int IntKind.i64 em, V.int IntKind.i64 ix, V.list (List.map Bay.enc bs) false, V.list (List.map Point.enc en) false]), (999, .arr 49 2 (faults g2))]⟩) ?_ ?_
    · intro KC4 hKC4
      refine aw_seq (aw_region (EF := EF0) hG (by rw [hN]; exact tr12_4) ?_)
      simp only [a12_4, go_sem, ↓reduceIte, Nat.reduceEqDiff, reduceCtorEq, Nat.reduceAdd, Nat.reduceLT, Nat.reduceLeDiff, Nat.reduceBNe, Nat.reduceBEq, Int.reduceToNat, trChk, fW_eq]
      (repeat' apply And.intro) <;> (try first | omega | (intros; (repeat' apply And.intro) <;> first | assumption | omega | (simp_all; done)))
      refine aw_cond (b := _) rfl (fun hb4 => ?_) (fun hb4 => ?_)
      · skip
        refine aw_region (EF := EF0) hG (by rw [hN]; exact tr12_5) ?_
        simp only [a12_5, go_sem, ↓reduceIte, Nat.reduceEqDiff, reduceCtorEq, Nat.reduceAdd, Nat.reduceLT, Nat.reduceLeDiff, Nat.reduceBNe, Nat.reduceBEq, Int.reduceToNat, trChk, fW_eq]
        (repeat' apply And.intro) <;> (try first | omega | (intros; (repeat' apply And.intro) <;> first | assumption | omega | (simp_all; done)))
        refine hKC4 (g1 ++ [⟨2, sIndex⟩]) _ ?_ ?_
        · (try dsimp only); exact ⟨by rw [fIf_t (show (!within ix (-1000000000) 1000000000) = true from hb4)], by simp⟩
        · refine Le.mk _ _ ?_ ?_ rfl <;> simp only [go_sem, ↓reduceIte, Nat.reduceEqDiff, reduceCtorEq, Nat.reduceAdd, Nat.reduceLT, Nat.reduceLeDiff, Nat.reduceBNe, Nat.reduceBEq, Int.reduceToNat, List.length_append, List.length_cons, List.length_nil] <;> (repeat' apply And.intro) <;> (try first | rfl | exact wk_frzb rfl rfl rfl | exact wk_fn rfl | exact .nilo _ _ _ rfl rfl)
      · skip
        refine aw_skip ?_
        simp only [go_sem, ↓reduceIte, Nat.reduceEqDiff, reduceCtorEq, Nat.reduceAdd, Nat.reduceLT, Nat.reduceLeDiff, Nat.reduceBNe, Nat.reduceBEq, Int.reduceToNat]
        refine hKC4 (g1) _ ?_ ?_
        · (try dsimp only); exact ⟨by rw [fIf_f (show (!within ix (-1000000000) 1000000000) = false from hb4), List.append_nil], by omega⟩
        · refine Le.mk _ _ ?_ ?_ rfl <;> simp only [go_sem, ↓reduceIte, Nat.reduceEqDiff, reduceCtorEq, Nat.reduceAdd, Nat.reduceLT, Nat.reduceLeDiff, Nat.reduceBNe, Nat.reduceBEq, Int.reduceToNat] <;> (repeat' apply And.intro) <;> (try first | rfl | exact wk_frzb rfl rfl rfl | exact wk_fn rfl | exact .nilo _ _ _ rfl rfl)
    · rintro g2 ⟨hg2, lg2⟩
      refine aw_cut (α := (List Fault)) (fun g3 => (g3 = g2 ++ fIf (!within bs.length 1 16) 4 (sBays)) ∧ (g3.length ≤ g2.length + 1)) (fun g3 => ⟨mkE [(1, V.ptr 1 0), (3, .own 999 g3.length)], mkH [(1, Ob.box 25 [V.int IntKind.i64 em, V.int IntKind.i64 ix, V.list (List.map Bay.enc bs) false, V.list (List.map Point.enc en) false]), (999, .arr 49 2 (faults g3))]⟩) ?_ ?_
      · intro KC6 hKC6
        refine aw_seq (aw_region (EF := EF0) hG (by rw [hN]; exact tr12_6) ?_)
        simp only [a12_6, go_sem, ↓reduceIte, Nat.reduceEqDiff, reduceCtorEq, Nat.reduceAdd, Nat.reduceLT, Nat.reduceLeDiff, Nat.reduceBNe, Nat.reduceBEq, Int.reduceToNat, trChk, fW_eq]
        (repeat' apply And.intro) <;> (try first | omega | (intros; (repeat' apply And.intro) <;> first | assumption | omega | (simp_all; done)))
        refine aw_cond (b := _) rfl (fun hb6 => ?_) (fun hb6 => ?_)
        · skip
          refine aw_region (EF := EF0) hG (by rw [hN]; exact tr12_7) ?_
          simp only [a12_7, go_sem, ↓reduceIte, Nat.reduceEqDiff, reduceCtorEq, Nat.reduceAdd, Nat.reduceLT, Nat.reduceLeDiff, Nat.reduceBNe, Nat.reduceBEq, Int.reduceToNat, trChk, fW_eq]
          (repeat' apply And.intro) <;> (try first | omega | (intros; (repeat' apply And.intro) <;> first | assumption | omega | (simp_all; done)))
          refine hKC6 (g2 ++ [⟨4, sBays⟩]) _ ?_ ?_
          · (try dsimp only); exact ⟨by rw [fIf_t (show (!within bs.length 1 16) = true from hb6)], by simp⟩
          · refine Le.mk _ _ ?_ ?_ rfl <;> simp only [go_sem, ↓reduceIte, Nat.reduceEqDiff, reduceCtorEq, Nat.reduceAdd, Nat.reduceLT, Nat.reduceLeDiff, Nat.reduceBNe, Nat.reduceBEq, Int.reduceToNat, List.length_append, List.length_cons, List.length_nil] <;> (repeat' apply And.intro) <;> (try first | rfl | exact wk_frzb rfl rfl rfl | exact wk_fn rfl | exact .nilo _ _ _ rfl rfl)
        · skip
          refine aw_skip ?_
          simp only [go_sem, ↓reduceIte, Nat.reduceEqDiff, reduceCtorEq, Nat.reduceAdd, Nat.reduceLT, Nat.reduceLeDiff, Nat.reduceBNe, Nat.reduceBEq, Int.reduceToNat]
          refine hKC6 (g2) _ ?_ ?_
          · (try dsimp only); exact ⟨by rw [fIf_f (show (!within bs.length 1 16) = false from hb6), List.append_nil], by omega⟩
          · refine Le.mk _ _ ?_ ?_ rfl <;> simp only [go_sem, ↓reduceIte, Nat.reduceEqDiff, reduceCtorEq, Nat.reduceAdd, Nat.reduceLT, Nat.reduceLeDiff, Nat.reduceBNe, Nat.reduceBEq, Int.reduceToNat] <;> (repeat' apply And.intro) <;> (try first | rfl | exact wk_frzb rfl rfl rfl | exact wk_fn rfl | exact .nilo _ _ _ rfl rfl)
      · rintro g3 ⟨hg3, lg3⟩
        refine aw_seq ?_
        refine aw_seq (aw_region (EF := EF0) hG (by rw [hN]; exact tr12_8) ?_)
        simp only [a12_8, go_sem, ↓reduceIte, Nat.reduceEqDiff, reduceCtorEq, Nat.reduceAdd, Nat.reduceLT, Nat.reduceLeDiff, Nat.reduceBNe, Nat.reduceBEq, Int.reduceToNat, trChk, fW_eq]
        refine aw_block ?_
        refine aw_loop (α := Nat × (List Fault)) (fun γ => (γ.1 ≤ bs.length) ∧ (bs.length ≤ 16 → γ.2 = g3 ++ bayTo bs γ.1) ∧ (16 < bs.length → γ.2 = g3) ∧ (γ.2.length ≤ g3.length + γ.1)) (fun γ => ⟨mkE [(1, V.ptr 1 0), (3, .own 999 γ.2.length), (4, .int .i64 γ.1)], mkH [(1, Ob.box 25 [V.int IntKind.i64 em, V.int IntKind.i64 ix, V.list (List.map Bay.enc bs) false, V.list (List.map Point.enc en) false]), (999, .arr 49 2 (faults γ.2))]⟩) (fun γ => bs.length - γ.1) (0, g3) ⟨Nat.zero_le _, fun _ => by rw [bayTo, List.append_nil], fun _ => rfl, Nat.le_refl _⟩ ?_ ?_
        · refine Le.mk _ _ ?_ ?_ rfl <;> simp only [go_sem, ↓reduceIte, Nat.reduceEqDiff, reduceCtorEq, Nat.reduceAdd, Nat.reduceLT, Nat.reduceLeDiff, Nat.reduceBNe, Nat.reduceBEq, Int.reduceToNat] <;> (repeat' apply And.intro) <;> (try first | rfl | exact wk_frzb rfl rfl rfl | exact wk_fn rfl | exact .nilo _ _ _ rfl rfl)
        · rintro ⟨i, g⟩ ⟨hi, hg, hg0, hgl⟩ KL0 hKL0
          try dsimp only at *
          refine aw_seq ?_
          refine aw_seq (aw_region (EF := EF0) hG (by rw [hN]; exact tr12_9) ?_)
          simp only [a12_9, go_sem, ↓reduceIte, Nat.reduceEqDiff, reduceCtorEq, Nat.reduceAdd, Nat.reduceLT, Nat.reduceLeDiff, Nat.reduceBNe, Nat.reduceBEq, Int.reduceToNat, trChk, fW_eq]
          (repeat' apply And.intro) <;> (try first | omega | (intros; (repeat' apply And.intro) <;> first | assumption | omega | (simp_all; done)))
          refine aw_cond (b := _) rfl (fun hc9 => ?_) (fun hc9 => ?_)
          · simp only [decide_eq_true_eq, decide_eq_false_iff_not, Bool.and_eq_true, Bool.or_eq_true, Bool.not_eq_true', Bool.not_eq_false', Bool.and_eq_false_iff, Bool.or_eq_false_iff, Int.ofNat_lt, Int.ofNat_le, Nat.not_lt, Nat.not_le, Int.not_lt, Int.not_le] at hc9
            refine aw_skip ?_
            simp only [go_sem, ↓reduceIte, Nat.reduceEqDiff, reduceCtorEq, Nat.reduceAdd, Nat.reduceLT, Nat.reduceLeDiff, Nat.reduceBNe, Nat.reduceBEq, Int.reduceToNat]
            refine aw_seq ?_
            refine aw_block ?_
            obtain ⟨hc9, hc16⟩ := hc9
            have hd := dec_lenN (i := i) (by omega)
            have hi2 := inI_of (i := i) (by omega)
            refine aw_seq (aw_region (EF := EF0) hG (by rw [hN]; exact tr12_11) ?_)
            simp only [a12_11, go_sem, ↓reduceIte, Nat.reduceEqDiff, reduceCtorEq, Nat.reduceAdd, Nat.reduceLT, Nat.reduceLeDiff, Nat.reduceBNe, Nat.reduceBEq, Int.reduceToNat, getD_mapd _ _ _ _ hc9, hc9, Bay.enc, trChk, fW_eq]
            (repeat' apply And.intro) <;> (try first | omega | (intros; (repeat' apply And.intro) <;> first | assumption | omega | (simp_all; done)))
            refine aw_cond (b := _) rfl (fun hb11 => ?_) (fun hb11 => ?_)
            · skip
              refine aw_region (EF := EF0) hG (by rw [hN]; exact tr12_12) ?_
              simp only [a12_12, go_sem, ↓reduceIte, Nat.reduceEqDiff, reduceCtorEq, Nat.reduceAdd, Nat.reduceLT, Nat.reduceLeDiff, Nat.reduceBNe, Nat.reduceBEq, Int.reduceToNat, inI, fRDec_eq, hi2, trChk, fW_eq]
              (repeat' apply And.intro) <;> (try first | omega | (intros; (repeat' apply And.intro) <;> first | assumption | omega | (simp_all; done)) | (simp only [List.length_append, List.length_cons, List.length_nil]; omega))
              refine aw_region (EF := EF0) hG (by rw [hN]; exact tr12_10) ?_
              simp only [a12_10, go_sem, ↓reduceIte, Nat.reduceEqDiff, reduceCtorEq, Nat.reduceAdd, Nat.reduceLT, Nat.reduceLeDiff, Nat.reduceBNe, Nat.reduceBEq, Int.reduceToNat, inI, trChk, fW_eq]
              (repeat' apply And.intro) <;> (try first | omega | (intros; (repeat' apply And.intro) <;> first | assumption | omega | (simp_all; done)))
              refine hKL0 (i + 1, g ++ [⟨2, sBay ++ dec i⟩]) _ ?_ ?_ ?_
              · (try dsimp only); refine ⟨hc9, fun h => ?_, fun h => by omega, by simp only [List.length_append, List.length_cons, List.length_nil]; omega⟩; rw [hg h, bayTo, getD_lt _ _ _ hc9, fIf_t (b := bayBad bs[i]) hb11, List.append_assoc]
              · (try dsimp only); omega
              · refine Le.mk _ _ ?_ ?_ rfl <;> simp only [go_sem, ↓reduceIte, Nat.reduceEqDiff, reduceCtorEq, Nat.reduceAdd, Nat.reduceLT, Nat.reduceLeDiff, Nat.reduceBNe, Nat.reduceBEq, Int.reduceToNat, List.length_append, List.length_cons, List.length_nil] <;> (repeat' apply And.intro) <;> (try first | rfl | exact wk_frzb rfl rfl rfl | exact wk_fn rfl | exact .nilo _ _ _ rfl rfl)
            · skip
              refine aw_skip ?_
              simp only [go_sem, ↓reduceIte, Nat.reduceEqDiff, reduceCtorEq, Nat.reduceAdd, Nat.reduceLT, Nat.reduceLeDiff, Nat.reduceBNe, Nat.reduceBEq, Int.reduceToNat]
              refine aw_region (EF := EF0) hG (by rw [hN]; exact tr12_10) ?_
              simp only [a12_10, go_sem, ↓reduceIte, Nat.reduceEqDiff, reduceCtorEq, Nat.reduceAdd, Nat.reduceLT, Nat.reduceLeDiff, Nat.reduceBNe, Nat.reduceBEq, Int.reduceToNat, inI, trChk, fW_eq]
              (repeat' apply And.intro) <;> (try first | omega | (intros; (repeat' apply And.intro) <;> first | assumption | omega | (simp_all; done)))
              refine hKL0 (i + 1, g) _ ?_ ?_ ?_
              · (try dsimp only); refine ⟨hc9, fun h => ?_, fun h => by omega, by omega⟩; rw [hg h, bayTo, getD_lt _ _ _ hc9, fIf_f (b := bayBad bs[i]) hb11, List.append_nil]
              · (try dsimp only); omega
              · refine Le.mk _ _ ?_ ?_ rfl <;> simp only [go_sem, ↓reduceIte, Nat.reduceEqDiff, reduceCtorEq, Nat.reduceAdd, Nat.reduceLT, Nat.reduceLeDiff, Nat.reduceBNe, Nat.reduceBEq, Int.reduceToNat] <;> (repeat' apply And.intro) <;> (try first | rfl | exact wk_frzb rfl rfl rfl | exact wk_fn rfl | exact .nilo _ _ _ rfl rfl)
          · simp only [decide_eq_true_eq, decide_eq_false_iff_not, Bool.and_eq_true, Bool.or_eq_true, Bool.not_eq_true', Bool.not_eq_false', Bool.and_eq_false_iff, Bool.or_eq_false_iff, Int.ofNat_lt, Int.ofNat_le, Nat.not_lt, Nat.not_le, Int.not_lt, Int.not_le] at hc9
            have hgf : g = g3 ++ (if bs.length ≤ 16 then bayTo bs bs.length else []) := by split; (rw [hg (by omega), Nat.le_antisymm hi (by omega)]); (rw [hg0 (by omega), List.append_nil])
            refine aw_exit ?_
            simp only [go_sem, ↓reduceIte, Nat.reduceEqDiff, reduceCtorEq, Nat.reduceAdd, Nat.reduceLT, Nat.reduceLeDiff, Nat.reduceBNe, Nat.reduceBEq, Int.reduceToNat]
            refine aw_seq ?_
            clear hg hg0
            refine aw_seq (aw_region (EF := EF0) hG (by rw [hN]; exact tr12_13) ?_)
            simp only [a12_13, go_sem, ↓reduceIte, Nat.reduceEqDiff, reduceCtorEq, Nat.reduceAdd, Nat.reduceLT, Nat.reduceLeDiff, Nat.reduceBNe, Nat.reduceBEq, Int.reduceToNat, trChk, fW_eq]
            (repeat' apply And.intro) <;> (try first | omega | (intros; (repeat' apply And.intro) <;> first | assumption | omega | (simp_all; done)))
            refine aw_cond (b := _) rfl (fun hb13 => ?_) (fun hb13 => ?_)
            · skip
              refine aw_seq (aw_region (EF := EF0) hG (by rw [hN]; exact tr12_14) ?_)
              simp only [a12_14, go_sem, ↓reduceIte, Nat.reduceEqDiff, reduceCtorEq, Nat.reduceAdd, Nat.reduceLT, Nat.reduceLeDiff, Nat.reduceBNe, Nat.reduceBEq, Int.reduceToNat, trChk, fW_eq]
              (repeat' apply And.intro) <;> (try first | omega | (intros; (repeat' apply And.intro) <;> first | assumption | omega | (simp_all; done)))
              refine AW.le (s' := ⟨mkE [(2, .list (faults (g ++ [⟨4, sEnv⟩])) false)], mkH []⟩) (Le.mk _ _ ?_ ?_ rfl) (aw_ret (hQ _ _ (.inl rfl) ?_ ?_ ?_)) <;> simp only [outφ, outV, AR.res, go_sem, ↓reduceIte, Nat.reduceEqDiff, reduceCtorEq, Nat.reduceAdd, Nat.reduceLT, Nat.reduceLeDiff, Nat.reduceBNe, Nat.reduceBEq, Int.reduceToNat, fChk, List.length_append, List.length_cons, List.length_nil]
              · exact wk_frz rfl (by rw [faults_len, List.length_append]; rfl) rfl (faults_pur _)
              · unfold chkF headF; dsimp only; rw [if_neg (show ¬ within en.length 3 16 = true by intro h; rw [h] at hb13; cases hb13), hgf, hg3, hg2, hg1]; rfl
            · skip
              refine aw_skip ?_
              simp only [go_sem, ↓reduceIte, Nat.reduceEqDiff, reduceCtorEq, Nat.reduceAdd, Nat.reduceLT, Nat.reduceLeDiff, Nat.reduceBNe, Nat.reduceBEq, Int.reduceToNat]
              have hw : within en.length 3 16 = true := by simpa using hb13
              have hwl : 3 ≤ en.length ∧ en.length ≤ 16 := by simp only [within, Bool.and_eq_true, decide_eq_true_eq] at hw; omega
              refine aw_seq (aw_region (EF := EF0) hG (by rw [hN]; exact tr12_15) ?_)
              simp only [a12_15, go_sem, ↓reduceIte, Nat.reduceEqDiff, reduceCtorEq, Nat.reduceAdd, Nat.reduceLT, Nat.reduceLeDiff, Nat.reduceBNe, Nat.reduceBEq, Int.reduceToNat, trChk, fW_eq]
              refine aw_seq ?_
              refine aw_seq (aw_region (EF := EF0) hG (by rw [hN]; exact tr12_16) ?_)
              simp only [a12_16, go_sem, ↓reduceIte, Nat.reduceEqDiff, reduceCtorEq, Nat.reduceAdd, Nat.reduceLT, Nat.reduceLeDiff, Nat.reduceBNe, Nat.reduceBEq, Int.reduceToNat, trChk, fW_eq]
              refine aw_block ?_
              refine aw_loop (α := Nat × (List Fault) × Bool) (fun γ => (γ.1 ≤ en.length) ∧ (γ.2.1 = g ++ ptTo en γ.1) ∧ (γ.2.2 = (en.take γ.1).all fineB) ∧ (γ.2.1.length ≤ g.length + γ.1)) (fun γ => ⟨mkE [(1, V.ptr 1 0), (3, .own 999 γ.2.1.length), (5, .bool γ.2.2), (6, .int .i64 γ.1)], mkH [(1, Ob.box 25 [V.int IntKind.i64 em, V.int IntKind.i64 ix, V.list (List.map Bay.enc bs) false, V.list (List.map Point.enc en) false]), (999, .arr 49 2 (faults γ.2.1))]⟩) (fun γ => en.length - γ.1) (0, g, true) ⟨Nat.zero_le _, by rw [ptTo, List.append_nil], rfl, Nat.le_refl _⟩ ?_ ?_
              · refine Le.mk _ _ ?_ ?_ rfl <;> simp only [go_sem, ↓reduceIte, Nat.reduceEqDiff, reduceCtorEq, Nat.reduceAdd, Nat.reduceLT, Nat.reduceLeDiff, Nat.reduceBNe, Nat.reduceBEq, Int.reduceToNat] <;> (repeat' apply And.intro) <;> (try first | rfl | exact wk_frzb rfl rfl rfl | exact wk_fn rfl | exact .nilo _ _ _ rfl rfl)
              · rintro ⟨j, f, ok⟩ ⟨hj, hf, hok, hfl⟩ KL2 hKL2
                try dsimp only at *
                refine aw_seq ?_
                refine aw_seq (aw_region (EF := EF0) hG (by rw [hN]; exact tr12_17) ?_)
                simp only [a12_17, go_sem, ↓reduceIte, Nat.reduceEqDiff, reduceCtorEq, Nat.reduceAdd, Nat.reduceLT, Nat.reduceLeDiff, Nat.reduceBNe, Nat.reduceBEq, Int.reduceToNat, trChk, fW_eq]
                refine aw_cond (b := _) rfl (fun hc17 => ?_) (fun hc17 => ?_)
                · simp only [decide_eq_true_eq, decide_eq_false_iff_not, Bool.and_eq_true, Bool.or_eq_true, Bool.not_eq_true', Bool.not_eq_false', Bool.and_eq_false_iff, Bool.or_eq_false_iff, Int.ofNat_lt, Int.ofNat_le, Nat.not_lt, Nat.not_le, Int.not_lt, Int.not_le] at hc17
                  refine aw_skip ?_
                  simp only [go_sem, ↓reduceIte, Nat.reduceEqDiff, reduceCtorEq, Nat.reduceAdd, Nat.reduceLT, Nat.reduceLeDiff, Nat.reduceBNe, Nat.reduceBEq, Int.reduceToNat]
                  refine aw_seq ?_
                  refine aw_block ?_
                  have hd := dec_lenN (i := j) (by omega)
                  have hi2 := inI_of (i := j) (by omega)
                  refine aw_seq (aw_region (EF := EF0) hG (by rw [hN]; exact tr12_19) ?_)
                  simp only [a12_19, go_sem, ↓reduceIte, Nat.reduceEqDiff, reduceCtorEq, Nat.reduceAdd, Nat.reduceLT, Nat.reduceLeDiff, Nat.reduceBNe, Nat.reduceBEq, Int.reduceToNat, getD_mapd _ _ _ _ hc17, hc17, Point.enc, fFine_eq, trChk, fW_eq]
                  (repeat' apply And.intro) <;> (try first | omega | (intros; (repeat' apply And.intro) <;> first | assumption | omega | (simp_all; done)))
                  refine aw_cond (b := _) rfl (fun hb19 => ?_) (fun hb19 => ?_)
                  · skip
                    refine aw_seq (aw_region (EF := EF0) hG (by rw [hN]; exact tr12_20) ?_)
                    simp only [a12_20, go_sem, ↓reduceIte, Nat.reduceEqDiff, reduceCtorEq, Nat.reduceAdd, Nat.reduceLT, Nat.reduceLeDiff, Nat.reduceBNe, Nat.reduceBEq, Int.reduceToNat, inI, fRDec_eq, hi2, trChk, fW_eq]
                    (repeat' apply And.intro) <;> (try first | omega | (intros; (repeat' apply And.intro) <;> first | assumption | omega | (simp_all; done)) | (simp only [List.length_append, List.length_cons, List.length_nil]; omega))
                    refine aw_region (EF := EF0) hG (by rw [hN]; exact tr12_21) ?_
                    simp only [a12_21, go_sem, ↓reduceIte, Nat.reduceEqDiff, reduceCtorEq, Nat.reduceAdd, Nat.reduceLT, Nat.reduceLeDiff, Nat.reduceBNe, Nat.reduceBEq, Int.reduceToNat, trChk, fW_eq]
                    refine aw_region (EF := EF0) hG (by rw [hN]; exact tr12_18) ?_
                    simp only [a12_18, go_sem, ↓reduceIte, Nat.reduceEqDiff, reduceCtorEq, Nat.reduceAdd, Nat.reduceLT, Nat.reduceLeDiff, Nat.reduceBNe, Nat.reduceBEq, Int.reduceToNat, inI, trChk, fW_eq]
                    (repeat' apply And.intro) <;> (try first | omega | (intros; (repeat' apply And.intro) <;> first | assumption | omega | (simp_all; done)))
                    refine hKL2 (j + 1, f ++ [⟨2, sPoint ++ dec j⟩], false) _ ?_ ?_ ?_
                    · (try dsimp only); refine ⟨hc17, ?_, ?_, by simp only [List.length_append, List.length_cons, List.length_nil]; omega⟩; (rw [hf, ptTo, getD_lt _ _ _ hc17, fIf_t (b := !fineB en[j]) hb19, List.append_assoc]); (rw [all_step' hc17, show fineB en[j] = false by simpa using hb19, Bool.and_false])
                    · (try dsimp only); omega
                    · refine Le.mk _ _ ?_ ?_ rfl <;> simp only [go_sem, ↓reduceIte, Nat.reduceEqDiff, reduceCtorEq, Nat.reduceAdd, Nat.reduceLT, Nat.reduceLeDiff, Nat.reduceBNe, Nat.reduceBEq, Int.reduceToNat, List.length_append, List.length_cons, List.length_nil] <;> (repeat' apply And.intro) <;> (try first | rfl | exact wk_frzb rfl rfl rfl | exact wk_fn rfl | exact .nilo _ _ _ rfl rfl)
                  · skip
                    refine aw_skip ?_
                    simp only [go_sem, ↓reduceIte, Nat.reduceEqDiff, reduceCtorEq, Nat.reduceAdd, Nat.reduceLT, Nat.reduceLeDiff, Nat.reduceBNe, Nat.reduceBEq, Int.reduceToNat]
                    refine aw_region (EF := EF0) hG (by rw [hN]; exact tr12_18) ?_
                    simp only [a12_18, go_sem, ↓reduceIte, Nat.reduceEqDiff, reduceCtorEq, Nat.reduceAdd, Nat.reduceLT, Nat.reduceLeDiff, Nat.reduceBNe, Nat.reduceBEq, Int.reduceToNat, inI, trChk, fW_eq]
                    (repeat' apply And.intro) <;> (try first | omega | (intros; (repeat' apply And.intro) <;> first | assumption | omega | (simp_all; done)))
                    refine hKL2 (j + 1, f, ok) _ ?_ ?_ ?_
                    · (try dsimp only); refine ⟨hc17, ?_, ?_, by omega⟩; (rw [hf, ptTo, getD_lt _ _ _ hc17, fIf_f (b := !fineB en[j]) hb19, List.append_nil]); (rw [all_step' hc17, show fineB en[j] = true by simpa using hb19, Bool.and_true, hok])
                    · (try dsimp only); omega
                    · refine Le.mk _ _ ?_ ?_ rfl <;> simp only [go_sem, ↓reduceIte, Nat.reduceEqDiff, reduceCtorEq, Nat.reduceAdd, Nat.reduceLT, Nat.reduceLeDiff, Nat.reduceBNe, Nat.reduceBEq, Int.reduceToNat] <;> (repeat' apply And.intro) <;> (try first | rfl | exact wk_frzb rfl rfl rfl | exact wk_fn rfl | exact .nilo _ _ _ rfl rfl)
                · simp only [decide_eq_true_eq, decide_eq_false_iff_not, Bool.and_eq_true, Bool.or_eq_true, Bool.not_eq_true', Bool.not_eq_false', Bool.and_eq_false_iff, Bool.or_eq_false_iff, Int.ofNat_lt, Int.ofNat_le, Nat.not_lt, Nat.not_le, Int.not_lt, Int.not_le] at hc17
                  refine aw_exit ?_
                  simp only [go_sem, ↓reduceIte, Nat.reduceEqDiff, reduceCtorEq, Nat.reduceAdd, Nat.reduceLT, Nat.reduceLeDiff, Nat.reduceBNe, Nat.reduceBEq, Int.reduceToNat]
                  refine aw_cut (α := (List Fault)) (fun f2 => (f2 = f ++ fIf (and ok (decide (turn en = 0))) 33 sEnv) ∧ (f2.length ≤ f.length + 1)) (fun f2 => ⟨mkE [(3, .own 999 f2.length)], mkH [(999, .arr 49 2 (faults f2))]⟩) ?_ ?_
                  · intro KC22 hKC22
                    rw [List.take_of_length_le hc17] at hok
                    have hfin : ok = true → FineL en := fun h => ⟨hwl.1, by omega, fine_all (by rw [← hok, h])⟩
                    by_cases hokk : ok = true
                    · skip
                      have hfn := hfin hokk
                      refine aw_seq (aw_region (EF := EF0) hG (by rw [hN]; exact tr12_22) ?_)
                      simp only [a12_22, go_sem, ↓reduceIte, Nat.reduceEqDiff, reduceCtorEq, Nat.reduceAdd, Nat.reduceLT, Nat.reduceLeDiff, Nat.reduceBNe, Nat.reduceBEq, Int.reduceToNat, hokk, fTurn_eq, trChk, fW_eq, hfn]
                      (repeat' apply And.intro) <;> (try first | omega | (intros; (repeat' apply And.intro) <;> first | assumption | omega | (simp_all; done)))
                      refine aw_cond (b := _) rfl (fun hb22 => ?_) (fun hb22 => ?_)
                      · skip
                        refine aw_region (EF := EF0) hG (by rw [hN]; exact tr12_23) ?_
                        simp only [a12_23, go_sem, ↓reduceIte, Nat.reduceEqDiff, reduceCtorEq, Nat.reduceAdd, Nat.reduceLT, Nat.reduceLeDiff, Nat.reduceBNe, Nat.reduceBEq, Int.reduceToNat, trChk, fW_eq]
                        (repeat' apply And.intro) <;> (try first | omega | (intros; (repeat' apply And.intro) <;> first | assumption | omega | (simp_all; done)))
                        refine hKC22 (f ++ [⟨33, sEnv⟩]) _ ?_ ?_
                        · (try dsimp only); exact ⟨by rw [fIf_t (by rw [hokk, hb22]; rfl)], by simp⟩
                        · refine Le.mk _ _ ?_ ?_ rfl <;> simp only [go_sem, ↓reduceIte, Nat.reduceEqDiff, reduceCtorEq, Nat.reduceAdd, Nat.reduceLT, Nat.reduceLeDiff, Nat.reduceBNe, Nat.reduceBEq, Int.reduceToNat, List.length_append, List.length_cons, List.length_nil] <;> (repeat' apply And.intro) <;> (try first | rfl | exact wk_frzb rfl rfl rfl | exact wk_fn rfl | exact .nilo _ _ _ rfl rfl)
                      · skip
                        refine aw_skip ?_
                        simp only [go_sem, ↓reduceIte, Nat.reduceEqDiff, reduceCtorEq, Nat.reduceAdd, Nat.reduceLT, Nat.reduceLeDiff, Nat.reduceBNe, Nat.reduceBEq, Int.reduceToNat]
                        refine hKC22 (f) _ ?_ ?_
                        · (try dsimp only); exact ⟨by rw [fIf_f (by rw [hokk, hb22]; rfl), List.append_nil], by omega⟩
                        · refine Le.mk _ _ ?_ ?_ rfl <;> simp only [go_sem, ↓reduceIte, Nat.reduceEqDiff, reduceCtorEq, Nat.reduceAdd, Nat.reduceLT, Nat.reduceLeDiff, Nat.reduceBNe, Nat.reduceBEq, Int.reduceToNat] <;> (repeat' apply And.intro) <;> (try first | rfl | exact wk_frzb rfl rfl rfl | exact wk_fn rfl | exact .nilo _ _ _ rfl rfl)
                    · skip
                      replace hokk := Bool.eq_false_iff.2 hokk
                      refine aw_seq (aw_region (EF := EF0) hG (by rw [hN]; exact tr12_22) ?_)
                      simp only [a12_22, go_sem, ↓reduceIte, Nat.reduceEqDiff, reduceCtorEq, Nat.reduceAdd, Nat.reduceLT, Nat.reduceLeDiff, Nat.reduceBNe, Nat.reduceBEq, Int.reduceToNat, hokk, fTurn_eq, trChk, fW_eq]
                      (repeat' apply And.intro) <;> (try first | omega | (intros; (repeat' apply And.intro) <;> first | assumption | omega | (simp_all; done)))
                      refine aw_cond (b := _) rfl (fun hb22 => ?_) (fun hb22 => ?_)
                      · skip
                        refine aw_region (EF := EF0) hG (by rw [hN]; exact tr12_23) ?_
                        simp only [a12_23, go_sem, ↓reduceIte, Nat.reduceEqDiff, reduceCtorEq, Nat.reduceAdd, Nat.reduceLT, Nat.reduceLeDiff, Nat.reduceBNe, Nat.reduceBEq, Int.reduceToNat, trChk, fW_eq]
                        (repeat' apply And.intro) <;> (try first | omega | (intros; (repeat' apply And.intro) <;> first | assumption | omega | (simp_all; done)))
                      · skip
                        refine aw_skip ?_
                        simp only [go_sem, ↓reduceIte, Nat.reduceEqDiff, reduceCtorEq, Nat.reduceAdd, Nat.reduceLT, Nat.reduceLeDiff, Nat.reduceBNe, Nat.reduceBEq, Int.reduceToNat]
                        refine hKC22 (f) _ ?_ ?_
                        · (try dsimp only); exact ⟨by rw [fIf_f (by rw [hokk]; rfl), List.append_nil], by omega⟩
                        · refine Le.mk _ _ ?_ ?_ rfl <;> simp only [go_sem, ↓reduceIte, Nat.reduceEqDiff, reduceCtorEq, Nat.reduceAdd, Nat.reduceLT, Nat.reduceLeDiff, Nat.reduceBNe, Nat.reduceBEq, Int.reduceToNat] <;> (repeat' apply And.intro) <;> (try first | rfl | exact wk_frzb rfl rfl rfl | exact wk_fn rfl | exact .nilo _ _ _ rfl rfl)
                  · rintro f2 ⟨hf2, lf2⟩
                    refine aw_seq (aw_region (EF := EF0) hG (by rw [hN]; exact tr12_24) ?_)
                    simp only [a12_24, go_sem, ↓reduceIte, Nat.reduceEqDiff, reduceCtorEq, Nat.reduceAdd, Nat.reduceLT, Nat.reduceLeDiff, Nat.reduceBNe, Nat.reduceBEq, Int.reduceToNat, trChk, fW_eq]
                    refine AW.le (s' := ⟨mkE [(2, .list (faults f2) false)], mkH []⟩) (Le.mk _ _ ?_ ?_ rfl) (aw_ret (hQ _ _ (.inl rfl) ?_ ?_ ?_)) <;> simp only [outφ, outV, AR.res, go_sem, ↓reduceIte, Nat.reduceEqDiff, reduceCtorEq, Nat.reduceAdd, Nat.reduceLT, Nat.reduceLeDiff, Nat.reduceBNe, Nat.reduceBEq, Int.reduceToNat, fChk]
                    · exact wk_frz rfl (by rw [faults_len]) rfl (faults_pur _)
                    · unfold chkF headF; dsimp only; rw [if_pos hw, hf2, hf, hgf, hg3, hg2, hg1, hok, List.take_of_length_le hc17, Nat.le_antisymm hj hc17]; simp only [List.append_assoc, List.nil_append]
end Go.Proofs.YtemeeeomcjdlnaaDoor
