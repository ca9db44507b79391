/- Check of offers, of the program and of the reference. -/
import Derived.Test.YtnlgkeiilenojaaDoorSv1
namespace Go.Proofs.YtnlgkeiilenojaaDoor
open Go Go.RowKit
set_option linter.unusedSimpArgs false
set_option linter.unusedVariables false
set_option linter.deprecated false
def sOffer : List UInt8 := [111, 102, 102, 101, 114, 32]
def sType : List UInt8 := [32, 116, 121, 112, 101, 32]
def notKind (t : List UInt8) : Bool := !decide (t = [65, 68, 84]) && !decide (t = [67, 72, 68]) && !decide (t = [73, 78, 70])
def typOne (pt : List UInt8) (ts : List (List UInt8)) (k : Nat) : List Fault :=
  fIf (notKind (ts.getD k [])) 8 (pt ++ sType ++ dec k) ++ fIf (inB (ts.take k) (ts.getD k [])) 6 (pt ++ sType ++ dec k)
def typTo (pt : List UInt8) (ts : List (List UInt8)) : Nat → List Fault
  | 0 => []
  | k + 1 => typTo pt ts k ++ typOne pt ts k
def offOne (l : List Offer) (i : Nat) (o : Offer) : List Fault :=
  fIf (!codeB o.code 4 4) 5 (sOffer ++ dec i) ++ fIf (find (l.take i) o.code).isSome 6 (sOffer ++ dec i) ++ fIf (decide (o.most < 0) || decide (999 < o.most)) 2 (sOffer ++ dec i) ++ typTo (sOffer ++ dec i) o.types o.types.length
def offTo (l : List Offer) : Nat → List Fault
  | 0 => []
  | i + 1 => offTo l i ++ offOne l i (l.getD i Offer.zero)
def offFaults (l : List Offer) : List Fault := offTo l l.length
def Small (l : List Offer) : Prop := l.length ≤ 15 ∧ ∀ o ∈ l, o.ok ∧ o.types.length ≤ 8 ∧ o.code.length ≤ 100
def aOff (x : List Offer) : List V := [.list (x.map Offer.enc) false]
theorem aOff_inj (a b : List Offer) (h : aOff a = aOff b) : a = b := by
  simp only [aOff, List.cons.injEq, V.str.injEq, V.int.injEq, V.bool.injEq, V.agg.injEq, V.list.injEq, and_true, true_and] at h
  have h0 := h
  replace h0 := map_inj' Offer.inj h0
  subst h0
  rfl
def fCheck (l : List Offer) : Prop × V := (Small l, .list (faults (offFaults l)) false)
theorem fFind_eq (l : List Offer) (c) : gOf aFind fFind [.list (l.map Offer.enc) false, .str c] = (l.length ≤ 140737488355328, .tup [.agg ((find l c).getD Offer.zero).enc, .bool (find l c).isSome]) := gOf_eq aFind_inj (l, c)
theorem fIn_eq (l s) : gOf aIn fIn [.list (strs l) false, .str s] = (l.length ≤ 140737488355328, .bool (inB l s)) := gOf_eq aIn_inj (l, s)
theorem typTo_len (pt ts k) : (typTo pt ts k).length ≤ 2 * k := by
  induction k with
  | zero => simp [typTo]
  | succ k ih =>
    have := fIf_len (notKind (ts.getD k [])) 8 (pt ++ sType ++ dec k)
    have := fIf_len (inB (ts.take k) (ts.getD k [])) 6 (pt ++ sType ++ dec k)
    rw [typTo, typOne, List.length_append, List.length_append]; omega
theorem fCode_eq (s lo hi) : gCode [.str s, .int .i64 lo, .int .i64 hi] = (s.length ≤ 140737488355328, .bool (codeB s lo hi)) := rfl
theorem fDec_eq (n) : gDec [.int .i64 n] = (inI n, .str (dec n)) := rfl
theorem fRDec_eq (n) : gRDec [.int .i64 n] = (inI n, .str (dec n)) := rfl
theorem offTo_succ {l : List Offer} {i : Nat} {x : Offer} (h : i < l.length) (e : l[i] = x) : offTo l (i + 1) = offTo l i ++ offOne l i x := by rw [offTo, getD_lt _ _ _ h, e]
theorem inI_of {i : Nat} (h : i ≤ 1000000) : inI (i : Int) := ⟨by omega, by omega⟩
noncomputable def tChk : Tab
  | 26 => (gOf aFind fFind)
  | 27 => (gOf aIn fIn)
  | 24 => gDec
  | 25 => gCode
  | _ => gNo
theorem tChk_ok : ∀ f, PureC Tryd.prog UT f (tChk f) := fun f => by
  unfold tChk
  split
  · exact find_p
  · exact cont_p
  · exact decimal_p
  · exact code_p
  · exact PureC.no
set_option maxHeartbeats 2000000 in
theorem check_p : PureC Tryd.prog UT 11 (gOf aOff fCheck) := by
  have hG := tChk_ok
  refine PureC.ofArgs aOff_inj Tryd.func11 body11 nm11 res11 ?_
  rintro l hv
  refine ⟨by rw [nt11]; simp [aOff], fun C hN Q hQ => ?_⟩
  rw [nt11] at hN
  unfold c11
  obtain ⟨hl, ho⟩ : Small l := hv
  refine aw_seq (aw_region (EF := EF0) hG (by rw [hN]; exact tr11_0) ?_)
  simp only [a11_0, go_sem, ↓reduceIte, Nat.reduceEqDiff, reduceCtorEq, Nat.reduceAdd, Nat.reduceLT, Nat.reduceLeDiff, Nat.reduceBNe, Nat.reduceBEq, Int.reduceToNat, aOff]
  refine aw_seq (aw_region (EF := EF0) hG (by rw [hN]; exact tr11_1) ?_)
  simp only [a11_1, go_sem, ↓reduceIte, Nat.reduceEqDiff, reduceCtorEq, Nat.reduceAdd, Nat.reduceLT, Nat.reduceLeDiff, Nat.reduceBNe, Nat.reduceBEq, Int.reduceToNat]
  refine aw_seq ?_
  refine aw_seq (aw_region (EF := EF0) hG (by rw [hN]; exact tr11_2) ?_)
  simp only [a11_2, go_sem, ↓reduceIte, Nat.reduceEqDiff, reduceCtorEq, Nat.reduceAdd, Nat.reduceLT, Nat.reduceLeDiff, Nat.reduceBNe, Nat.reduceBEq, Int.reduceToNat]
  refine aw_block ?_
  refine aw_loop (α := Nat × (List Fault)) (fun γ => (γ.1 ≤ l.length) ∧ (γ.2 = offTo l γ.1) ∧ (γ.2.length ≤ 19 * γ.1)) (fun γ => ⟨mkE [(0, V.list (List.map Offer.enc l) false), (3, .own 999 γ.2.length), (11, V.list (List.map Offer.enc l) false), (12, V.int IntKind.i64 ↑l.length), (13, .int .i64 γ.1)], mkH [(999, .arr 65 2 (faults γ.2))]⟩) (fun γ => l.length - γ.1) (0, []) ⟨Nat.zero_le _, rfl, by simp⟩ ?_ ?_
  · refine Le.mk _ _ ?_ ?_ rfl <;> simp only [go_sem, ↓reduceIte, Nat.reduceEqDiff, reduceCtorEq, Nat.reduceAdd, Nat.reduceLT, Nat.reduceLeDiff, Nat.reduceBNe, Nat.reduceBEq, Int.reduceToNat] <;> (repeat' apply And.intro) <;> (try first | rfl | exact wk_frzb rfl rfl rfl | exact wk_fn rfl | exact .nilo _ _ _ rfl rfl)
  · rintro ⟨i, g⟩ ⟨hi, hg, hgl⟩ KL0 hKL0
    try dsimp only at *
    refine aw_seq (aw_region (EF := EF0) hG (by rw [hN]; exact tr11_3) ?_)
    simp only [a11_3, go_sem, ↓reduceIte, Nat.reduceEqDiff, reduceCtorEq, Nat.reduceAdd, Nat.reduceLT, Nat.reduceLeDiff, Nat.reduceBNe, Nat.reduceBEq, Int.reduceToNat]
    refine aw_seq ?_
    refine aw_cond (b := _) rfl (fun hc3 => ?_) (fun hc3 => ?_)
    · simp only [decide_eq_true_eq, decide_eq_false_iff_not, Bool.and_eq_true, Bool.or_eq_true, Bool.not_eq_true', Bool.not_eq_false', Bool.and_eq_false_iff, Bool.or_eq_false_iff, Int.ofNat_lt, Int.ofNat_le, Nat.not_lt, Nat.not_le, Int.not_lt, Int.not_le] at hc3
      refine aw_skip ?_
      simp only [go_sem, ↓reduceIte, Nat.reduceEqDiff, reduceCtorEq, Nat.reduceAdd, Nat.reduceLT, Nat.reduceLeDiff, Nat.reduceBNe, Nat.reduceBEq, Int.reduceToNat]
      refine aw_seq ?_
      refine aw_block ?_
      obtain ⟨⟨hcl, -, htl, htz⟩, hts, hcd⟩ := ho _ (List.getElem_mem hc3)
      have hd := dec_lenN (i := i) (by omega)
      have hi2 := inI_of (i := i) (by omega)
      generalize hyy : l[i] = x at hcl htl htz hts hcd
      obtain ⟨cd, mo, ts⟩ := x
      dsimp only at hcl htl htz hts hcd
      refine aw_seq (aw_region (EF := EF0) hG (by rw [hN]; exact tr11_4) ?_)
      simp only [a11_4, go_sem, ↓reduceIte, Nat.reduceEqDiff, reduceCtorEq, Nat.reduceAdd, Nat.reduceLT, Nat.reduceLeDiff, Nat.reduceBNe, Nat.reduceBEq, Int.reduceToNat, getD_mapd _ _ _ _ hc3, hc3, hyy, Offer.enc]
      (repeat' apply And.intro) <;> (try first | omega | (intros; (repeat' apply And.intro) <;> first | assumption | omega | (simp_all; done)))
      refine aw_seq (aw_region (EF := EF0) hG (by rw [hN]; exact tr11_5) ?_)
      simp only [a11_5, go_sem, ↓reduceIte, Nat.reduceEqDiff, reduceCtorEq, Nat.reduceAdd, Nat.reduceLT, Nat.reduceLeDiff, Nat.reduceBNe, Nat.reduceBEq, Int.reduceToNat, inI, tChk, fDec_eq, hi2]
      (repeat' apply And.intro) <;> (try first | omega | (intros; (repeat' apply And.intro) <;> first | assumption | omega | (simp_all; done)) | (simp only [List.length_append, List.length_cons, List.length_nil]; omega))
      have hpl : (111 :: 102 :: 102 :: 101 :: 114 :: 32 :: dec (i : Int)).length ≤ 30 := by simp only [List.length_cons]; omega
      generalize hpt : 111 :: 102 :: 102 :: 101 :: 114 :: 32 :: dec (i : Int) = pt at hpl
      refine aw_cut (α := (List Fault)) (fun g1 => (g1 = g ++ fIf (!codeB cd 4 4) 5 (pt)) ∧ (g1.length ≤ g.length + 1)) (fun g1 => ⟨mkE [(0, V.list (List.map Offer.enc l) false), (3, .own 999 g1.length), (4, V.int IntKind.i64 ↑i), (5, V.ptr 5 0), (6, V.str pt), (11, V.list (List.map Offer.enc l) false), (12, V.int IntKind.i64 ↑l.length), (13, V.int IntKind.i64 ↑i)], mkH [(5, Ob.box 61 [V.str cd, V.int IntKind.i64 mo, V.list (strs ts) false]), (999, .arr 65 2 (faults g1))]⟩) ?_ ?_
      · intro KC6 hKC6
        refine aw_seq (aw_region (EF := EF0) hG (by rw [hN]; exact tr11_6) ?_)
        simp only [a11_6, go_sem, ↓reduceIte, Nat.reduceEqDiff, reduceCtorEq, Nat.reduceAdd, Nat.reduceLT, Nat.reduceLeDiff, Nat.reduceBNe, Nat.reduceBEq, Int.reduceToNat, tChk, fCode_eq, hcl]
        (repeat' apply And.intro) <;> (try first | omega | (intros; (repeat' apply And.intro) <;> first | assumption | omega | (simp_all; done)))
        refine aw_cond (b := _) rfl (fun hb6 => ?_) (fun hb6 => ?_)
        · skip
          refine aw_region (EF := EF0) hG (by rw [hN]; exact tr11_7) ?_
          simp only [a11_7, go_sem, ↓reduceIte, Nat.reduceEqDiff, reduceCtorEq, Nat.reduceAdd, Nat.reduceLT, Nat.reduceLeDiff, Nat.reduceBNe, Nat.reduceBEq, Int.reduceToNat]
          (repeat' apply And.intro) <;> (try first | omega | (intros; (repeat' apply And.intro) <;> first | assumption | omega | (simp_all; done)))
          refine hKC6 (g ++ [⟨5, pt⟩]) _ ?_ ?_
          · (try dsimp only); exact ⟨by rw [fIf_t (show (!codeB cd 4 4) = true from hb6)], by simp⟩
          · refine Le.mk _ _ ?_ ?_ rfl <;> simp only [go_sem, ↓reduceIte, Nat.reduceEqDiff, reduceCtorEq, Nat.reduceAdd, Nat.reduceLT, Nat.reduceLeDiff, Nat.reduceBNe, Nat.reduceBEq, Int.reduceToNat, List.length_append, List.length_cons, List.length_nil] <;> (repeat' apply And.intro) <;> (try first | rfl | exact wk_frzb rfl rfl rfl | exact wk_fn rfl | exact .nilo _ _ _ rfl rfl)
        · skip
          refine aw_skip ?_
          simp only [go_sem, ↓reduceIte, Nat.reduceEqDiff, reduceCtorEq, Nat.reduceAdd, Nat.reduceLT, Nat.reduceLeDiff, Nat.reduceBNe, Nat.reduceBEq, Int.reduceToNat]
          refine hKC6 (g) _ ?_ ?_
          · (try dsimp only); exact ⟨by rw [fIf_f (show (!codeB cd 4 4) = false from hb6), List.append_nil], by omega⟩
          · refine Le.mk _ _ ?_ ?_ rfl <;> simp only [go_sem, ↓reduceIte, Nat.reduceEqDiff, reduceCtorEq, Nat.reduceAdd, Nat.reduceLT, Nat.reduceLeDiff, Nat.reduceBNe, Nat.reduceBEq, Int.reduceToNat] <;> (repeat' apply And.intro) <;> (try first | rfl | exact wk_frzb rfl rfl rfl | exact wk_fn rfl | exact .nilo _ _ _ rfl rfl)
      · rintro g1 ⟨hg1, lg1⟩
        refine aw_cut (α := (List Fault)) (fun g2 => (g2 = g1 ++ fIf ((find (l.take i) cd).isSome) 6 (pt)) ∧ (g2.length ≤ g1.length + 1)) (fun g2 => ⟨mkE [(0, V.list (List.map Offer.enc l) false), (3, .own 999 g2.length), (5, V.ptr 5 0), (6, V.str pt), (11, V.list (List.map Offer.enc l) false), (12, V.int IntKind.i64 ↑l.length), (13, V.int IntKind.i64 ↑i)], mkH [(5, Ob.box 61 [V.str cd, V.int IntKind.i64 mo, V.list (strs ts) false]), (999, .arr 65 2 (faults g2))]⟩) ?_ ?_
        · intro KC9 hKC9
          refine aw_seq (aw_regionD (EF := EF0) hG mixed (by rw [hN]; exact tr11_8) ok11_8 ?_)
          simp only [a11_8, d11_8, go_sem, ↓reduceIte, Nat.reduceEqDiff, reduceCtorEq, Nat.reduceAdd, Nat.reduceLT, Nat.reduceLeDiff, Nat.reduceBNe, Nat.reduceBEq, Int.reduceToNat, tChk, fFind_eq, ← List.map_take, Offer.enc, List.length_take]
          (repeat' apply And.intro) <;> (try first | omega | (intros; (repeat' apply And.intro) <;> first | assumption | omega | (simp_all; done)))
          refine aw_seq (aw_region (EF := EF0) hG (by rw [hN]; exact tr11_9) ?_)
          simp only [a11_9, go_sem, ↓reduceIte, Nat.reduceEqDiff, reduceCtorEq, Nat.reduceAdd, Nat.reduceLT, Nat.reduceLeDiff, Nat.reduceBNe, Nat.reduceBEq, Int.reduceToNat]
          refine aw_cond (b := _) rfl (fun hb9 => ?_) (fun hb9 => ?_)
          · skip
            refine aw_region (EF := EF0) hG (by rw [hN]; exact tr11_10) ?_
            simp only [a11_10, go_sem, ↓reduceIte, Nat.reduceEqDiff, reduceCtorEq, Nat.reduceAdd, Nat.reduceLT, Nat.reduceLeDiff, Nat.reduceBNe, Nat.reduceBEq, Int.reduceToNat]
            (repeat' apply And.intro) <;> (try first | omega | (intros; (repeat' apply And.intro) <;> first | assumption | omega | (simp_all; done)))
            refine hKC9 (g1 ++ [⟨6, pt⟩]) _ ?_ ?_
            · (try dsimp only); exact ⟨by rw [fIf_t (show ((find (l.take i) cd).isSome) = true from hb9)], by simp⟩
            · refine Le.mk _ _ ?_ ?_ rfl <;> simp only [go_sem, ↓reduceIte, Nat.reduceEqDiff, reduceCtorEq, Nat.reduceAdd, Nat.reduceLT, Nat.reduceLeDiff, Nat.reduceBNe, Nat.reduceBEq, Int.reduceToNat, List.length_append, List.length_cons, List.length_nil] <;> (repeat' apply And.intro) <;> (try first | rfl | exact wk_frzb rfl rfl rfl | exact wk_fn rfl | exact .nilo _ _ _ rfl rfl)
          · skip
            refine aw_skip ?_
            simp only [go_sem, ↓reduceIte, Nat.reduceEqDiff, reduceCtorEq, Nat.reduceAdd, Nat.reduceLT, Nat.reduceLeDiff, Nat.reduceBNe, Nat.reduceBEq, Int.reduceToNat]
            refine hKC9 (g1) _ ?_ ?_
            · (try dsimp only); exact ⟨by rw [fIf_f (show ((find (l.take i) cd).isSome) = false from hb9), List.append_nil], by omega⟩
            · refine Le.mk _ _ ?_ ?_ rfl <;> simp only [go_sem, ↓reduceIte, Nat.reduceEqDiff, reduceCtorEq, Nat.reduceAdd, Nat.reduceLT, Nat.reduceLeDiff, Nat.reduceBNe, Nat.reduceBEq, Int.reduceToNat] <;> (repeat' apply And.intro) <;> (try first | rfl | exact wk_frzb rfl rfl rfl | exact wk_fn rfl | exact .nilo _ _ _ rfl rfl)
        · rintro g2 ⟨hg2, lg2⟩
          refine aw_cut (α := (List Fault)) (fun g3 => (g3 = g2 ++ fIf (decide (mo < 0) || decide (999 < mo)) 2 (pt)) ∧ (g3.length ≤ g2.length + 1)) (fun g3 => ⟨mkE [(0, V.list (List.map Offer.enc l) false), (3, .own 999 g3.length), (5, V.ptr 5 0), (6, V.str pt), (11, V.list (List.map Offer.enc l) false), (12, V.int IntKind.i64 ↑l.length), (13, V.int IntKind.i64 ↑i)], mkH [(5, Ob.box 61 [V.str cd, V.int IntKind.i64 mo, V.list (strs ts) false]), (999, .arr 65 2 (faults g3))]⟩) ?_ ?_
          · intro KC11 hKC11
            refine aw_seq (aw_region (EF := EF0) hG (by rw [hN]; exact tr11_11) ?_)
            simp only [a11_11, go_sem, ↓reduceIte, Nat.reduceEqDiff, reduceCtorEq, Nat.reduceAdd, Nat.reduceLT, Nat.reduceLeDiff, Nat.reduceBNe, Nat.reduceBEq, Int.reduceToNat]
            (repeat' apply And.intro) <;> (try first | omega | (intros; (repeat' apply And.intro) <;> first | assumption | omega | (simp_all; done)))
            refine aw_cond (b := _) rfl (fun hb11 => ?_) (fun hb11 => ?_)
            · skip
              refine aw_region (EF := EF0) hG (by rw [hN]; exact tr11_12) ?_
              simp only [a11_12, go_sem, ↓reduceIte, Nat.reduceEqDiff, reduceCtorEq, Nat.reduceAdd, Nat.reduceLT, Nat.reduceLeDiff, Nat.reduceBNe, Nat.reduceBEq, Int.reduceToNat]
              (repeat' apply And.intro) <;> (try first | omega | (intros; (repeat' apply And.intro) <;> first | assumption | omega | (simp_all; done)))
              refine hKC11 (g2 ++ [⟨2, pt⟩]) _ ?_ ?_
              · (try dsimp only); exact ⟨by rw [fIf_t (show (decide (mo < 0) || decide (999 < mo)) = true from hb11)], by simp⟩
              · refine Le.mk _ _ ?_ ?_ rfl <;> simp only [go_sem, ↓reduceIte, Nat.reduceEqDiff, reduceCtorEq, Nat.reduceAdd, Nat.reduceLT, Nat.reduceLeDiff, Nat.reduceBNe, Nat.reduceBEq, Int.reduceToNat, List.length_append, List.length_cons, List.length_nil] <;> (repeat' apply And.intro) <;> (try first | rfl | exact wk_frzb rfl rfl rfl | exact wk_fn rfl | exact .nilo _ _ _ rfl rfl)
            · skip
              refine aw_skip ?_
              simp only [go_sem, ↓reduceIte, Nat.reduceEqDiff, reduceCtorEq, Nat.reduceAdd, Nat.reduceLT, Nat.reduceLeDiff, Nat.reduceBNe, Nat.reduceBEq, Int.reduceToNat]
              refine hKC11 (g2) _ ?_ ?_
              · (try dsimp only); exact ⟨by rw [fIf_f (show (decide (mo < 0) || decide (999 < mo)) = false from hb11), List.append_nil], by omega⟩
              · refine Le.mk _ _ ?_ ?_ rfl <;> simp only [go_sem, ↓reduceIte, Nat.reduceEqDiff, reduceCtorEq, Nat.reduceAdd, Nat.reduceLT, Nat.reduceLeDiff, Nat.reduceBNe, Nat.reduceBEq, Int.reduceToNat] <;> (repeat' apply And.intro) <;> (try first | rfl | exact wk_frzb rfl rfl rfl | exact wk_fn rfl | exact .nilo _ _ _ rfl rfl)
          · rintro g3 ⟨hg3, lg3⟩
            refine aw_seq (aw_region (EF := EF0) hG (by rw [hN]; exact tr11_13) ?_)
            simp only [a11_13, go_sem, ↓reduceIte, Nat.reduceEqDiff, reduceCtorEq, Nat.reduceAdd, Nat.reduceLT, Nat.reduceLeDiff, Nat.reduceBNe, Nat.reduceBEq, Int.reduceToNat]
            refine aw_block ?_
            refine aw_loop (α := Nat × (List Fault)) (fun γ => (γ.1 ≤ ts.length) ∧ (γ.2 = g3 ++ typTo pt ts γ.1) ∧ (γ.2.length ≤ g3.length + 2 * γ.1)) (fun γ => ⟨mkE [(0, V.list (List.map Offer.enc l) false), (3, .own 999 γ.2.length), (5, V.ptr 5 0), (6, V.str pt), (11, V.list (List.map Offer.enc l) false), (12, V.int IntKind.i64 ↑l.length), (13, V.int IntKind.i64 ↑i), (59, V.list (strs ts) false), (60, V.int IntKind.i64 ↑ts.length), (61, .int .i64 γ.1)], mkH [(5, Ob.box 61 [V.str cd, V.int IntKind.i64 mo, V.list (strs ts) false]), (999, .arr 65 2 (faults γ.2))]⟩) (fun γ => ts.length - γ.1) (0, g3) ⟨Nat.zero_le _, by rw [typTo, List.append_nil], by simp⟩ ?_ ?_
            · refine Le.mk _ _ ?_ ?_ rfl <;> simp only [go_sem, ↓reduceIte, Nat.reduceEqDiff, reduceCtorEq, Nat.reduceAdd, Nat.reduceLT, Nat.reduceLeDiff, Nat.reduceBNe, Nat.reduceBEq, Int.reduceToNat] <;> (repeat' apply And.intro) <;> (try first | rfl | exact wk_frzb rfl rfl rfl | exact wk_fn rfl | exact .nilo _ _ _ rfl rfl)
            · rintro ⟨k, g4⟩ ⟨hk, hg4, hl4⟩ KL2 hKL2
              try dsimp only at *
              refine aw_seq (aw_region (EF := EF0) hG (by rw [hN]; exact tr11_14) ?_)
              simp only [a11_14, go_sem, ↓reduceIte, Nat.reduceEqDiff, reduceCtorEq, Nat.reduceAdd, Nat.reduceLT, Nat.reduceLeDiff, Nat.reduceBNe, Nat.reduceBEq, Int.reduceToNat]
              refine aw_seq ?_
              refine aw_cond (b := _) rfl (fun hc14 => ?_) (fun hc14 => ?_)
              · simp only [decide_eq_true_eq, decide_eq_false_iff_not, Bool.and_eq_true, Bool.or_eq_true, Bool.not_eq_true', Bool.not_eq_false', Bool.and_eq_false_iff, Bool.or_eq_false_iff, Int.ofNat_lt, Int.ofNat_le, Nat.not_lt, Nat.not_le, Int.not_lt, Int.not_le] at hc14
                refine aw_skip ?_
                simp only [go_sem, ↓reduceIte, Nat.reduceEqDiff, reduceCtorEq, Nat.reduceAdd, Nat.reduceLT, Nat.reduceLeDiff, Nat.reduceBNe, Nat.reduceBEq, Int.reduceToNat]
                refine aw_seq ?_
                refine aw_block ?_
                refine aw_seq (aw_region (EF := EF0) hG (by rw [hN]; exact tr11_15) ?_)
                simp only [a11_15, go_sem, ↓reduceIte, Nat.reduceEqDiff, reduceCtorEq, Nat.reduceAdd, Nat.reduceLT, Nat.reduceLeDiff, Nat.reduceBNe, Nat.reduceBEq, Int.reduceToNat, strs_getD _ _ _ hc14, hc14]
                (repeat' apply And.intro) <;> (try first | omega | (intros; (repeat' apply And.intro) <;> first | assumption | omega | (simp_all; done)))
                have hdk := dec_lenN (i := k) (by omega)
                have hk2 := inI_of (i := k) (by omega)
                refine aw_cut (α := (List Fault)) (fun g5 => (g5 = g4 ++ fIf (notKind ts[k]) 8 (pt ++ sType ++ dec k)) ∧ (g5.length ≤ g4.length + 1)) (fun g5 => ⟨mkE [(0, V.list (List.map Offer.enc l) false), (3, .own 999 g5.length), (5, V.ptr 5 0), (6, V.str pt), (9, V.int IntKind.i64 ↑k), (10, V.str ts[k]), (11, V.list (List.map Offer.enc l) false), (12, V.int IntKind.i64 ↑l.length), (13, V.int IntKind.i64 ↑i), (59, V.list (strs ts) false), (60, V.int IntKind.i64 ↑ts.length), (61, V.int IntKind.i64 ↑k)], mkH [(5, Ob.box 61 [V.str cd, V.int IntKind.i64 mo, V.list (strs ts) false]), (999, .arr 65 2 (faults g5))]⟩) ?_ ?_
                · intro KC16 hKC16
                  refine aw_seq (aw_region (EF := EF0) hG (by rw [hN]; exact tr11_16) ?_)
                  simp only [a11_16, go_sem, ↓reduceIte, Nat.reduceEqDiff, reduceCtorEq, Nat.reduceAdd, Nat.reduceLT, Nat.reduceLeDiff, Nat.reduceBNe, Nat.reduceBEq, Int.reduceToNat]
                  (repeat' apply And.intro) <;> (try first | omega | (intros; (repeat' apply And.intro) <;> first | assumption | omega | (simp_all; done)))
                  refine aw_cond (b := _) rfl (fun hb16 => ?_) (fun hb16 => ?_)
                  · skip
                    refine aw_region (EF := EF0) hG (by rw [hN]; exact tr11_17) ?_
                    simp only [a11_17, go_sem, ↓reduceIte, Nat.reduceEqDiff, reduceCtorEq, Nat.reduceAdd, Nat.reduceLT, Nat.reduceLeDiff, Nat.reduceBNe, Nat.reduceBEq, Int.reduceToNat, inI, tChk, fDec_eq, hk2]
                    (repeat' apply And.intro) <;> (try first | omega | (intros; (repeat' apply And.intro) <;> first | assumption | omega | (simp_all; done)) | (simp only [List.length_append, List.length_cons, List.length_nil]; omega))
                    refine hKC16 (g4 ++ [⟨8, pt ++ sType ++ dec k⟩]) _ ?_ ?_
                    · (try dsimp only); exact ⟨by rw [fIf_t (show (notKind ts[k]) = true from hb16)], by simp⟩
                    · refine Le.mk _ _ ?_ ?_ rfl <;> simp only [go_sem, ↓reduceIte, Nat.reduceEqDiff, reduceCtorEq, Nat.reduceAdd, Nat.reduceLT, Nat.reduceLeDiff, Nat.reduceBNe, Nat.reduceBEq, Int.reduceToNat, List.length_append, List.length_cons, List.length_nil] <;> (repeat' apply And.intro) <;> (try first | rfl | exact wk_frzb rfl rfl rfl | exact wk_fn rfl | exact .nilo _ _ _ rfl rfl)
                  · skip
                    refine aw_skip ?_
                    simp only [go_sem, ↓reduceIte, Nat.reduceEqDiff, reduceCtorEq, Nat.reduceAdd, Nat.reduceLT, Nat.reduceLeDiff, Nat.reduceBNe, Nat.reduceBEq, Int.reduceToNat]
                    refine hKC16 (g4) _ ?_ ?_
                    · (try dsimp only); exact ⟨by rw [fIf_f (show (notKind ts[k]) = false from hb16), List.append_nil], by omega⟩
                    · refine Le.mk _ _ ?_ ?_ rfl <;> simp only [go_sem, ↓reduceIte, Nat.reduceEqDiff, reduceCtorEq, Nat.reduceAdd, Nat.reduceLT, Nat.reduceLeDiff, Nat.reduceBNe, Nat.reduceBEq, Int.reduceToNat] <;> (repeat' apply And.intro) <;> (try first | rfl | exact wk_frzb rfl rfl rfl | exact wk_fn rfl | exact .nilo _ _ _ rfl rfl)
                · rintro g5 ⟨hg5, lg5⟩
                  refine aw_seq (aw_region (EF := EF0) hG (by rw [hN]; exact tr11_18) ?_)
                  simp only [a11_18, go_sem, ↓reduceIte, Nat.reduceEqDiff, reduceCtorEq, Nat.reduceAdd, Nat.reduceLT, Nat.reduceLeDiff, Nat.reduceBNe, Nat.reduceBEq, Int.reduceToNat, tChk, fIn_eq, strs_take, List.length_take]
                  (repeat' apply And.intro) <;> (try first | omega | (intros; (repeat' apply And.intro) <;> first | assumption | omega | (simp_all; done)))
                  refine aw_cond (b := _) rfl (fun hb18 => ?_) (fun hb18 => ?_)
                  · skip
                    refine aw_region (EF := EF0) hG (by rw [hN]; exact tr11_19) ?_
                    simp only [a11_19, go_sem, ↓reduceIte, Nat.reduceEqDiff, reduceCtorEq, Nat.reduceAdd, Nat.reduceLT, Nat.reduceLeDiff, Nat.reduceBNe, Nat.reduceBEq, Int.reduceToNat, inI, tChk, fDec_eq, hk2]
                    (repeat' apply And.intro) <;> (try first | omega | (intros; (repeat' apply And.intro) <;> first | assumption | omega | (simp_all; done)) | (simp only [List.length_append, List.length_cons, List.length_nil]; omega))
                    refine aw_region (EF := EF0) hG (by rw [hN]; exact tr11_20) ?_
                    simp only [a11_20, go_sem, ↓reduceIte, Nat.reduceEqDiff, reduceCtorEq, Nat.reduceAdd, Nat.reduceLT, Nat.reduceLeDiff, Nat.reduceBNe, Nat.reduceBEq, Int.reduceToNat, inI]
                    (repeat' apply And.intro) <;> (try first | omega | (intros; (repeat' apply And.intro) <;> first | assumption | omega | (simp_all; done)))
                    refine hKL2 (k + 1, g5 ++ [⟨6, pt ++ sType ++ dec k⟩]) _ ?_ ?_ ?_
                    · (try dsimp only); refine ⟨hc14, ?_, by simp only [List.length_append, List.length_cons, List.length_nil]; omega⟩; rw [hg5, hg4, typTo, typOne, getD_lt _ _ _ hc14, fIf_t (b := inB (ts.take k) ts[k]) hb18]; simp only [List.append_assoc]
                    · (try dsimp only); omega
                    · refine Le.mk _ _ ?_ ?_ rfl <;> simp only [go_sem, ↓reduceIte, Nat.reduceEqDiff, reduceCtorEq, Nat.reduceAdd, Nat.reduceLT, Nat.reduceLeDiff, Nat.reduceBNe, Nat.reduceBEq, Int.reduceToNat, List.length_append, List.length_cons, List.length_nil] <;> (repeat' apply And.intro) <;> (try first | rfl | exact wk_frzb rfl rfl rfl | exact wk_fn rfl | exact .nilo _ _ _ rfl rfl)
                  · skip
                    refine aw_skip ?_
                    simp only [go_sem, ↓reduceIte, Nat.reduceEqDiff, reduceCtorEq, Nat.reduceAdd, Nat.reduceLT, Nat.reduceLeDiff, Nat.reduceBNe, Nat.reduceBEq, Int.reduceToNat]
                    refine aw_region (EF := EF0) hG (by rw [hN]; exact tr11_20) ?_
                    simp only [a11_20, go_sem, ↓reduceIte, Nat.reduceEqDiff, reduceCtorEq, Nat.reduceAdd, Nat.reduceLT, Nat.reduceLeDiff, Nat.reduceBNe, Nat.reduceBEq, Int.reduceToNat, inI]
                    (repeat' apply And.intro) <;> (try first | omega | (intros; (repeat' apply And.intro) <;> first | assumption | omega | (simp_all; done)))
                    refine hKL2 (k + 1, g5) _ ?_ ?_ ?_
                    · (try dsimp only); refine ⟨hc14, ?_, by omega⟩; rw [hg5, hg4, typTo, typOne, getD_lt _ _ _ hc14, fIf_f (b := inB (ts.take k) ts[k]) hb18, List.append_nil]; simp only [List.append_assoc]
                    · (try dsimp only); omega
                    · refine Le.mk _ _ ?_ ?_ rfl <;> simp only [go_sem, ↓reduceIte, Nat.reduceEqDiff, reduceCtorEq, Nat.reduceAdd, Nat.reduceLT, Nat.reduceLeDiff, Nat.reduceBNe, Nat.reduceBEq, Int.reduceToNat] <;> (repeat' apply And.intro) <;> (try first | rfl | exact wk_frzb rfl rfl rfl | exact wk_fn rfl | exact .nilo _ _ _ rfl rfl)
              · simp only [decide_eq_true_eq, decide_eq_false_iff_not, Bool.and_eq_true, Bool.or_eq_true, Bool.not_eq_true', Bool.not_eq_false', Bool.and_eq_false_iff, Bool.or_eq_false_iff, Int.ofNat_lt, Int.ofNat_le, Nat.not_lt, Nat.not_le, Int.not_lt, Int.not_le] at hc14
                refine aw_exit ?_
                simp only [go_sem, ↓reduceIte, Nat.reduceEqDiff, reduceCtorEq, Nat.reduceAdd, Nat.reduceLT, Nat.reduceLeDiff, Nat.reduceBNe, Nat.reduceBEq, Int.reduceToNat]
                refine aw_region (EF := EF0) hG (by rw [hN]; exact tr11_21) ?_
                simp only [a11_21, go_sem, ↓reduceIte, Nat.reduceEqDiff, reduceCtorEq, Nat.reduceAdd, Nat.reduceLT, Nat.reduceLeDiff, Nat.reduceBNe, Nat.reduceBEq, Int.reduceToNat, inI]
                (repeat' apply And.intro) <;> (try first | omega | (intros; (repeat' apply And.intro) <;> first | assumption | omega | (simp_all; done)))
                refine hKL0 (i + 1, g4) _ ?_ ?_ ?_
                · (try dsimp only); refine ⟨hc3, ?_, by omega⟩; rw [offTo_succ hc3 hyy, ← hg, offOne, hg4, hg3, hg2, hg1, Nat.le_antisymm hk hc14, ← hpt]; simp only [List.append_assoc]; rfl
                · (try dsimp only); omega
                · refine Le.mk _ _ ?_ ?_ rfl <;> simp only [go_sem, ↓reduceIte, Nat.reduceEqDiff, reduceCtorEq, Nat.reduceAdd, Nat.reduceLT, Nat.reduceLeDiff, Nat.reduceBNe, Nat.reduceBEq, Int.reduceToNat] <;> (repeat' apply And.intro) <;> (try first | rfl | exact wk_frzb rfl rfl rfl | exact wk_fn rfl | exact .nilo _ _ _ rfl rfl)
    · simp only [decide_eq_true_eq, decide_eq_false_iff_not, Bool.and_eq_true, Bool.or_eq_true, Bool.not_eq_true', Bool.not_eq_false', Bool.and_eq_false_iff, Bool.or_eq_false_iff, Int.ofNat_lt, Int.ofNat_le, Nat.not_lt, Nat.not_le, Int.not_lt, Int.not_le] at hc3
      refine aw_exit ?_
      simp only [go_sem, ↓reduceIte, Nat.reduceEqDiff, reduceCtorEq, Nat.reduceAdd, Nat.reduceLT, Nat.reduceLeDiff, Nat.reduceBNe, Nat.reduceBEq, Int.reduceToNat]
      refine aw_seq (aw_region (EF := EF0) hG (by rw [hN]; exact tr11_22) ?_)
      simp only [a11_22, go_sem, ↓reduceIte, Nat.reduceEqDiff, reduceCtorEq, Nat.reduceAdd, Nat.reduceLT, Nat.reduceLeDiff, Nat.reduceBNe, Nat.reduceBEq, Int.reduceToNat]
      refine AW.le (s' := ⟨mkE [(2, .list (faults g) false)], mkH []⟩) (Le.mk _ _ ?_ ?_ rfl) (aw_ret (hQ _ _ (.inl rfl) ?_ ?_ ?_)) <;> simp only [outφ, outV, AR.res, go_sem, ↓reduceIte, Nat.reduceEqDiff, reduceCtorEq, Nat.reduceAdd, Nat.reduceLT, Nat.reduceLeDiff, Nat.reduceBNe, Nat.reduceBEq, Int.reduceToNat, fCheck, offFaults]
      · exact wk_frz rfl (by rw [faults_len]) rfl (faults_pur _)
      · rw [hg, Nat.le_antisymm hi hc3]
noncomputable def trChk : Tab
  | 30 => (gOf aFind fFindI)
  | 31 => (gOf aIn fIn)
  | 28 => gRDec
  | 29 => gCode
  | _ => gNo
theorem trChk_ok : ∀ f, PureC Tryd.prog UT f (trChk f) := fun f => by
  unfold trChk
  split
  · exact rfind_p
  · exact rin_p
  · exact rdecimal_p
  · exact rcode_p
  · exact PureC.no
theorem fFindI_eq (l : List Offer) (c) : gOf aFind fFindI [.list (l.map Offer.enc) false, .str c] = (l.length ≤ 140737488355328, idxV (findI l c)) := gOf_eq aFind_inj (l, c)
set_option maxHeartbeats 2000000 in
theorem rcheck_p : PureC Tryd.prog UT 13 (gOf aOff fCheck) := by
  have hG := trChk_ok
  refine PureC.ofArgs aOff_inj Tryd.func13 body13 nm13 res13 ?_
  rintro l hv
  refine ⟨by rw [nt13]; simp [aOff], fun C hN Q hQ => ?_⟩
  rw [nt13] at hN
  unfold c13
  obtain ⟨hl, ho⟩ : Small l := hv
  refine aw_seq (aw_region (EF := EF0) hG (by rw [hN]; exact tr13_0) ?_)
  simp only [a13_0, go_sem, ↓reduceIte, Nat.reduceEqDiff, reduceCtorEq, Nat.reduceAdd, Nat.reduceLT, Nat.reduceLeDiff, Nat.reduceBNe, Nat.reduceBEq, Int.reduceToNat, aOff]
  refine aw_seq (aw_region (EF := EF0) hG (by rw [hN]; exact tr13_1) ?_)
  simp only [a13_1, go_sem, ↓reduceIte, Nat.reduceEqDiff, reduceCtorEq, Nat.reduceAdd, Nat.reduceLT, Nat.reduceLeDiff, Nat.reduceBNe, Nat.reduceBEq, Int.reduceToNat]
  refine aw_seq ?_
  refine aw_seq (aw_region (EF := EF0) hG (by rw [hN]; exact tr13_2) ?_)
  simp only [a13_2, go_sem, ↓reduceIte, Nat.reduceEqDiff, reduceCtorEq, Nat.reduceAdd, Nat.reduceLT, Nat.reduceLeDiff, Nat.reduceBNe, Nat.reduceBEq, Int.reduceToNat]
  refine aw_block ?_
  refine aw_loop (α := Nat × (List Fault)) (fun γ => (γ.1 ≤ l.length) ∧ (γ.2 = offTo l γ.1) ∧ (γ.2.length ≤ 19 * γ.1)) (fun γ => ⟨mkE [(0, V.list (List.map Offer.enc l) false), (3, .own 999 γ.2.length), (4, .int .i64 γ.1)], mkH [(999, .arr 65 2 (faults γ.2))]⟩) (fun γ => l.length - γ.1) (0, []) ⟨Nat.zero_le _, rfl, by simp⟩ ?_ ?_
  · refine Le.mk _ _ ?_ ?_ rfl <;> simp only [go_sem, ↓reduceIte, Nat.reduceEqDiff, reduceCtorEq, Nat.reduceAdd, Nat.reduceLT, Nat.reduceLeDiff, Nat.reduceBNe, Nat.reduceBEq, Int.reduceToNat] <;> (repeat' apply And.intro) <;> (try first | rfl | exact wk_frzb rfl rfl rfl | exact wk_fn rfl | exact .nilo _ _ _ rfl rfl)
  · rintro ⟨i, g⟩ ⟨hi, hg, hgl⟩ KL0 hKL0
    try dsimp only at *
    refine aw_seq ?_
    refine aw_seq (aw_region (EF := EF0) hG (by rw [hN]; exact tr13_3) ?_)
    simp only [a13_3, go_sem, ↓reduceIte, Nat.reduceEqDiff, reduceCtorEq, Nat.reduceAdd, Nat.reduceLT, Nat.reduceLeDiff, Nat.reduceBNe, Nat.reduceBEq, Int.reduceToNat]
    refine aw_cond (b := _) rfl (fun hc3 => ?_) (fun hc3 => ?_)
    · simp only [decide_eq_true_eq, decide_eq_false_iff_not, Bool.and_eq_true, Bool.or_eq_true, Bool.not_eq_true', Bool.not_eq_false', Bool.and_eq_false_iff, Bool.or_eq_false_iff, Int.ofNat_lt, Int.ofNat_le, Nat.not_lt, Nat.not_le, Int.not_lt, Int.not_le] at hc3
      refine aw_skip ?_
      simp only [go_sem, ↓reduceIte, Nat.reduceEqDiff, reduceCtorEq, Nat.reduceAdd, Nat.reduceLT, Nat.reduceLeDiff, Nat.reduceBNe, Nat.reduceBEq, Int.reduceToNat]
      refine aw_seq ?_
      refine aw_block ?_
      obtain ⟨⟨hcl, -, htl, htz⟩, hts, hcd⟩ := ho _ (List.getElem_mem hc3)
      have hd := dec_lenN (i := i) (by omega)
      have hi2 := inI_of (i := i) (by omega)
      generalize hyy : l[i] = x at hcl htl htz hts hcd
      obtain ⟨cd, mo, ts⟩ := x
      dsimp only at hcl htl htz hts hcd
      refine aw_seq (aw_region (EF := EF0) hG (by rw [hN]; exact tr13_5) ?_)
      simp only [a13_5, go_sem, ↓reduceIte, Nat.reduceEqDiff, reduceCtorEq, Nat.reduceAdd, Nat.reduceLT, Nat.reduceLeDiff, Nat.reduceBNe, Nat.reduceBEq, Int.reduceToNat, inI, trChk, fRDec_eq, hi2]
      (repeat' apply And.intro) <;> (try first | omega | (intros; (repeat' apply And.intro) <;> first | assumption | omega | (simp_all; done)) | (simp only [List.length_append, List.length_cons, List.length_nil]; omega))
      have hpl : (111 :: 102 :: 102 :: 101 :: 114 :: 32 :: dec (i : Int)).length ≤ 30 := by simp only [List.length_cons]; omega
      generalize hpt : 111 :: 102 :: 102 :: 101 :: 114 :: 32 :: dec (i : Int) = pt at hpl
      refine aw_cut (α := (List Fault)) (fun g1 => (g1 = g ++ fIf (!codeB cd 4 4) 5 (pt)) ∧ (g1.length ≤ g.length + 1)) (fun g1 => ⟨mkE [(0, V.list (List.map Offer.enc l) false), (3, .own 999 g1.length), (4, V.int IntKind.i64 ↑i), (5, V.str pt)], mkH [(999, .arr 65 2 (faults g1))]⟩) ?_ ?_
      · intro KC6 hKC6
        refine aw_seq (aw_region (EF := EF0) hG (by rw [hN]; exact tr13_6) ?_)
        simp only [a13_6, go_sem, ↓reduceIte, Nat.reduceEqDiff, reduceCtorEq, Nat.reduceAdd, Nat.reduceLT, Nat.reduceLeDiff, Nat.reduceBNe, Nat.reduceBEq, Int.reduceToNat, trChk, fCode_eq, hcl, getD_mapd _ _ _ _ hc3, hc3, hyy, Offer.enc]
        (repeat' apply And.intro) <;> (try first | omega | (intros; (repeat' apply And.intro) <;> first | assumption | omega | (simp_all; done)))
        refine aw_cond (b := _) rfl (fun hb6 => ?_) (fun hb6 => ?_)
        · skip
          refine aw_region (EF := EF0) hG (by rw [hN]; exact tr13_7) ?_
          simp only [a13_7, go_sem, ↓reduceIte, Nat.reduceEqDiff, reduceCtorEq, Nat.reduceAdd, Nat.reduceLT, Nat.reduceLeDiff, Nat.reduceBNe, Nat.reduceBEq, Int.reduceToNat]
          (repeat' apply And.intro) <;> (try first | omega | (intros; (repeat' apply And.intro) <;> first | assumption | omega | (simp_all; done)))
          refine hKC6 (g ++ [⟨5, pt⟩]) _ ?_ ?_
          · (try dsimp only); exact ⟨by rw [fIf_t (show (!codeB cd 4 4) = true from hb6)], by simp⟩
          · refine Le.mk _ _ ?_ ?_ rfl <;> simp only [go_sem, ↓reduceIte, Nat.reduceEqDiff, reduceCtorEq, Nat.reduceAdd, Nat.reduceLT, Nat.reduceLeDiff, Nat.reduceBNe, Nat.reduceBEq, Int.reduceToNat, List.length_append, List.length_cons, List.length_nil] <;> (repeat' apply And.intro) <;> (try first | rfl | exact wk_frzb rfl rfl rfl | exact wk_fn rfl | exact .nilo _ _ _ rfl rfl)
        · skip
          refine aw_skip ?_
          simp only [go_sem, ↓reduceIte, Nat.reduceEqDiff, reduceCtorEq, Nat.reduceAdd, Nat.reduceLT, Nat.reduceLeDiff, Nat.reduceBNe, Nat.reduceBEq, Int.reduceToNat]
          refine hKC6 (g) _ ?_ ?_
          · (try dsimp only); exact ⟨by rw [fIf_f (show (!codeB cd 4 4) = false from hb6), List.append_nil], by omega⟩
          · refine Le.mk _ _ ?_ ?_ rfl <;> simp only [go_sem, ↓reduceIte, Nat.reduceEqDiff, reduceCtorEq, Nat.reduceAdd, Nat.reduceLT, Nat.reduceLeDiff, Nat.reduceBNe, Nat.reduceBEq, Int.reduceToNat] <;> (repeat' apply And.intro) <;> (try first | rfl | exact wk_frzb rfl rfl rfl | exact wk_fn rfl | exact .nilo _ _ _ rfl rfl)
      · rintro g1 ⟨hg1, lg1⟩
        refine aw_cut (α := (List Fault)) (fun g2 => (g2 = g1 ++ fIf ((find (l.take i) cd).isSome) 6 (pt)) ∧ (g2.length ≤ g1.length + 1)) (fun g2 => ⟨mkE [(0, V.list (List.map Offer.enc l) false), (3, .own 999 g2.length), (4, V.int IntKind.i64 ↑i), (5, V.str pt)], mkH [(999, .arr 65 2 (faults g2))]⟩) ?_ ?_
        · intro KC8 hKC8
          refine aw_seq (aw_regionD (EF := EF0) hG mixed (by rw [hN]; exact tr13_8) ok13_8 ?_)
          simp only [a13_8, d13_8, go_sem, ↓reduceIte, Nat.reduceEqDiff, reduceCtorEq, Nat.reduceAdd, Nat.reduceLT, Nat.reduceLeDiff, Nat.reduceBNe, Nat.reduceBEq, Int.reduceToNat, trChk, fFindI_eq, ← List.map_take, Offer.enc, List.length_take, getD_mapd _ _ _ _ hc3, hc3, hyy, idxV, findI_dec]
          (repeat' apply And.intro) <;> (try first | omega | (intros; (repeat' apply And.intro) <;> first | assumption | omega | (simp_all; done)))
          refine aw_cond (b := _) rfl (fun hb8 => ?_) (fun hb8 => ?_)
          · skip
            refine aw_region (EF := EF0) hG (by rw [hN]; exact tr13_9) ?_
            simp only [a13_9, go_sem, ↓reduceIte, Nat.reduceEqDiff, reduceCtorEq, Nat.reduceAdd, Nat.reduceLT, Nat.reduceLeDiff, Nat.reduceBNe, Nat.reduceBEq, Int.reduceToNat]
            (repeat' apply And.intro) <;> (try first | omega | (intros; (repeat' apply And.intro) <;> first | assumption | omega | (simp_all; done)))
            refine hKC8 (g1 ++ [⟨6, pt⟩]) _ ?_ ?_
            · (try dsimp only); exact ⟨by rw [fIf_t (show ((find (l.take i) cd).isSome) = true from hb8)], by simp⟩
            · refine Le.mk _ _ ?_ ?_ rfl <;> simp only [go_sem, ↓reduceIte, Nat.reduceEqDiff, reduceCtorEq, Nat.reduceAdd, Nat.reduceLT, Nat.reduceLeDiff, Nat.reduceBNe, Nat.reduceBEq, Int.reduceToNat, List.length_append, List.length_cons, List.length_nil] <;> (repeat' apply And.intro) <;> (try first | rfl | exact wk_frzb rfl rfl rfl | exact wk_fn rfl | exact .nilo _ _ _ rfl rfl)
          · skip
            refine aw_skip ?_
            simp only [go_sem, ↓reduceIte, Nat.reduceEqDiff, reduceCtorEq, Nat.reduceAdd, Nat.reduceLT, Nat.reduceLeDiff, Nat.reduceBNe, Nat.reduceBEq, Int.reduceToNat]
            refine hKC8 (g1) _ ?_ ?_
            · (try dsimp only); exact ⟨by rw [fIf_f (show ((find (l.take i) cd).isSome) = false from hb8), List.append_nil], by omega⟩
            · refine Le.mk _ _ ?_ ?_ rfl <;> simp only [go_sem, ↓reduceIte, Nat.reduceEqDiff, reduceCtorEq, Nat.reduceAdd, Nat.reduceLT, Nat.reduceLeDiff, Nat.reduceBNe, Nat.reduceBEq, Int.reduceToNat] <;> (repeat' apply And.intro) <;> (try first | rfl | exact wk_frzb rfl rfl rfl | exact wk_fn rfl | exact .nilo _ _ _ rfl rfl)
        · rintro g2 ⟨hg2, lg2⟩
          refine aw_cut (α := (List Fault)) (fun g3 => (g3 = g2 ++ fIf (decide (mo < 0) || decide (999 < mo)) 2 (pt)) ∧ (g3.length ≤ g2.length + 1)) (fun g3 => ⟨mkE [(0, V.list (List.map Offer.enc l) false), (3, .own 999 g3.length), (4, V.int IntKind.i64 ↑i), (5, V.str pt)], mkH [(999, .arr 65 2 (faults g3))]⟩) ?_ ?_
          · intro KC10 hKC10
            refine aw_seq (aw_region (EF := EF0) hG (by rw [hN]; exact tr13_10) ?_)
            simp only [a13_10, go_sem, ↓reduceIte, Nat.reduceEqDiff, reduceCtorEq, Nat.reduceAdd, Nat.reduceLT, Nat.reduceLeDiff, Nat.reduceBNe, Nat.reduceBEq, Int.reduceToNat, getD_mapd _ _ _ _ hc3, hc3, hyy, Offer.enc]
            (repeat' apply And.intro) <;> (try first | omega | (intros; (repeat' apply And.intro) <;> first | assumption | omega | (simp_all; done)))
            refine aw_cond (b := _) rfl (fun hb10 => ?_) (fun hb10 => ?_)
            · skip
              refine aw_region (EF := EF0) hG (by rw [hN]; exact tr13_11) ?_
              simp only [a13_11, go_sem, ↓reduceIte, Nat.reduceEqDiff, reduceCtorEq, Nat.reduceAdd, Nat.reduceLT, Nat.reduceLeDiff, Nat.reduceBNe, Nat.reduceBEq, Int.reduceToNat]
              (repeat' apply And.intro) <;> (try first | omega | (intros; (repeat' apply And.intro) <;> first | assumption | omega | (simp_all; done)))
              refine hKC10 (g2 ++ [⟨2, pt⟩]) _ ?_ ?_
              · (try dsimp only); exact ⟨by rw [fIf_t (show (decide (mo < 0) || decide (999 < mo)) = true from hb10)], by simp⟩
              · refine Le.mk _ _ ?_ ?_ rfl <;> simp only [go_sem, ↓reduceIte, Nat.reduceEqDiff, reduceCtorEq, Nat.reduceAdd, Nat.reduceLT, Nat.reduceLeDiff, Nat.reduceBNe, Nat.reduceBEq, Int.reduceToNat, List.length_append, List.length_cons, List.length_nil] <;> (repeat' apply And.intro) <;> (try first | rfl | exact wk_frzb rfl rfl rfl | exact wk_fn rfl | exact .nilo _ _ _ rfl rfl)
            · skip
              refine aw_skip ?_
              simp only [go_sem, ↓reduceIte, Nat.reduceEqDiff, reduceCtorEq, Nat.reduceAdd, Nat.reduceLT, Nat.reduceLeDiff, Nat.reduceBNe, Nat.reduceBEq, Int.reduceToNat]
              refine hKC10 (g2) _ ?_ ?_
              · (try dsimp only); exact ⟨by rw [fIf_f (show (decide (mo < 0) || decide (999 < mo)) = false from hb10), List.append_nil], by omega⟩
              · refine Le.mk _ _ ?_ ?_ rfl <;> simp only [go_sem, ↓reduceIte, Nat.reduceEqDiff, reduceCtorEq, Nat.reduceAdd, Nat.reduceLT, Nat.reduceLeDiff, Nat.reduceBNe, Nat.reduceBEq, Int.reduceToNat] <;> (repeat' apply And.intro) <;> (try first | rfl | exact wk_frzb rfl rfl rfl | exact wk_fn rfl | exact .nilo _ _ _ rfl rfl)
          · rintro g3 ⟨hg3, lg3⟩
            refine aw_seq (aw_region (EF := EF0) hG (by rw [hN]; exact tr13_12) ?_)
            simp only [a13_12, go_sem, ↓reduceIte, Nat.reduceEqDiff, reduceCtorEq, Nat.reduceAdd, Nat.reduceLT, Nat.reduceLeDiff, Nat.reduceBNe, Nat.reduceBEq, Int.reduceToNat]
            refine aw_block ?_
            refine aw_loop (α := Nat × (List Fault)) (fun γ => (γ.1 ≤ ts.length) ∧ (γ.2 = g3 ++ typTo pt ts γ.1) ∧ (γ.2.length ≤ g3.length + 2 * γ.1)) (fun γ => ⟨mkE [(0, V.list (List.map Offer.enc l) false), (3, .own 999 γ.2.length), (4, V.int IntKind.i64 ↑i), (5, V.str pt), (6, .int .i64 γ.1)], mkH [(999, .arr 65 2 (faults γ.2))]⟩) (fun γ => ts.length - γ.1) (0, g3) ⟨Nat.zero_le _, by rw [typTo, List.append_nil], by simp⟩ ?_ ?_
            · refine Le.mk _ _ ?_ ?_ rfl <;> simp only [go_sem, ↓reduceIte, Nat.reduceEqDiff, reduceCtorEq, Nat.reduceAdd, Nat.reduceLT, Nat.reduceLeDiff, Nat.reduceBNe, Nat.reduceBEq, Int.reduceToNat] <;> (repeat' apply And.intro) <;> (try first | rfl | exact wk_frzb rfl rfl rfl | exact wk_fn rfl | exact .nilo _ _ _ rfl rfl)
            · rintro ⟨k, g4⟩ ⟨hk, hg4, hl4⟩ KL2 hKL2
              try dsimp only at *
              refine aw_seq ?_
              refine aw_seq (aw_region (EF := EF0) hG (by rw [hN]; exact tr13_13) ?_)
              simp only [a13_13, go_sem, ↓reduceIte, Nat.reduceEqDiff, reduceCtorEq, Nat.reduceAdd, Nat.reduceLT, Nat.reduceLeDiff, Nat.reduceBNe, Nat.reduceBEq, Int.reduceToNat, getD_mapd _ _ _ _ hc3, hc3, hyy, Offer.enc]
              (repeat' apply And.intro) <;> (try first | omega | (intros; (repeat' apply And.intro) <;> first | assumption | omega | (simp_all; done)))
              refine aw_cond (b := _) rfl (fun hc13 => ?_) (fun hc13 => ?_)
              · simp only [decide_eq_true_eq, decide_eq_false_iff_not, Bool.and_eq_true, Bool.or_eq_true, Bool.not_eq_true', Bool.not_eq_false', Bool.and_eq_false_iff, Bool.or_eq_false_iff, Int.ofNat_lt, Int.ofNat_le, Nat.not_lt, Nat.not_le, Int.not_lt, Int.not_le] at hc13
                refine aw_skip ?_
                simp only [go_sem, ↓reduceIte, Nat.reduceEqDiff, reduceCtorEq, Nat.reduceAdd, Nat.reduceLT, Nat.reduceLeDiff, Nat.reduceBNe, Nat.reduceBEq, Int.reduceToNat]
                refine aw_seq ?_
                refine aw_block ?_
                refine aw_seq (aw_region (EF := EF0) hG (by rw [hN]; exact tr13_15) ?_)
                simp only [a13_15, go_sem, ↓reduceIte, Nat.reduceEqDiff, reduceCtorEq, Nat.reduceAdd, Nat.reduceLT, Nat.reduceLeDiff, Nat.reduceBNe, Nat.reduceBEq, Int.reduceToNat, getD_mapd _ _ _ _ hc3, hc3, hyy, Offer.enc, strs_getD _ _ _ hc13, hc13]
                (repeat' apply And.intro) <;> (try first | omega | (intros; (repeat' apply And.intro) <;> first | assumption | omega | (simp_all; done)))
                have hdk := dec_lenN (i := k) (by omega)
                have hk2 := inI_of (i := k) (by omega)
                refine aw_cut (α := (List Fault)) (fun g5 => (g5 = g4 ++ fIf (notKind ts[k]) 8 (pt ++ sType ++ dec k)) ∧ (g5.length ≤ g4.length + 1)) (fun g5 => ⟨mkE [(0, V.list (List.map Offer.enc l) false), (3, .own 999 g5.length), (4, V.int IntKind.i64 ↑i), (5, V.str pt), (6, V.int IntKind.i64 ↑k), (7, V.str ts[k])], mkH [(999, .arr 65 2 (faults g5))]⟩) ?_ ?_
                · intro KC16 hKC16
                  refine aw_seq (aw_region (EF := EF0) hG (by rw [hN]; exact tr13_16) ?_)
                  simp only [a13_16, go_sem, ↓reduceIte, Nat.reduceEqDiff, reduceCtorEq, Nat.reduceAdd, Nat.reduceLT, Nat.reduceLeDiff, Nat.reduceBNe, Nat.reduceBEq, Int.reduceToNat]
                  (repeat' apply And.intro) <;> (try first | omega | (intros; (repeat' apply And.intro) <;> first | assumption | omega | (simp_all; done)))
                  refine aw_cond (b := _) rfl (fun hb16 => ?_) (fun hb16 => ?_)
                  · skip
                    refine aw_region (EF := EF0) hG (by rw [hN]; exact tr13_17) ?_
                    simp only [a13_17, go_sem, ↓reduceIte, Nat.reduceEqDiff, reduceCtorEq, Nat.reduceAdd, Nat.reduceLT, Nat.reduceLeDiff, Nat.reduceBNe, Nat.reduceBEq, Int.reduceToNat, inI, trChk, fRDec_eq, hk2]
                    (repeat' apply And.intro) <;> (try first | omega | (intros; (repeat' apply And.intro) <;> first | assumption | omega | (simp_all; done)) | (simp only [List.length_append, List.length_cons, List.length_nil]; omega))
                    refine hKC16 (g4 ++ [⟨8, pt ++ sType ++ dec k⟩]) _ ?_ ?_
                    · (try dsimp only); exact ⟨by rw [fIf_t (show (notKind ts[k]) = true from hb16)], by simp⟩
                    · refine Le.mk _ _ ?_ ?_ rfl <;> simp only [go_sem, ↓reduceIte, Nat.reduceEqDiff, reduceCtorEq, Nat.reduceAdd, Nat.reduceLT, Nat.reduceLeDiff, Nat.reduceBNe, Nat.reduceBEq, Int.reduceToNat, List.length_append, List.length_cons, List.length_nil] <;> (repeat' apply And.intro) <;> (try first | rfl | exact wk_frzb rfl rfl rfl | exact wk_fn rfl | exact .nilo _ _ _ rfl rfl)
                  · skip
                    refine aw_skip ?_
                    simp only [go_sem, ↓reduceIte, Nat.reduceEqDiff, reduceCtorEq, Nat.reduceAdd, Nat.reduceLT, Nat.reduceLeDiff, Nat.reduceBNe, Nat.reduceBEq, Int.reduceToNat]
                    refine hKC16 (g4) _ ?_ ?_
                    · (try dsimp only); exact ⟨by rw [fIf_f (show (notKind ts[k]) = false from hb16), List.append_nil], by omega⟩
                    · refine Le.mk _ _ ?_ ?_ rfl <;> simp only [go_sem, ↓reduceIte, Nat.reduceEqDiff, reduceCtorEq, Nat.reduceAdd, Nat.reduceLT, Nat.reduceLeDiff, Nat.reduceBNe, Nat.reduceBEq, Int.reduceToNat] <;> (repeat' apply And.intro) <;> (try first | rfl | exact wk_frzb rfl rfl rfl | exact wk_fn rfl | exact .nilo _ _ _ rfl rfl)
                · rintro g5 ⟨hg5, lg5⟩
                  refine aw_seq (aw_region (EF := EF0) hG (by rw [hN]; exact tr13_18) ?_)
                  simp only [a13_18, go_sem, ↓reduceIte, Nat.reduceEqDiff, reduceCtorEq, Nat.reduceAdd, Nat.reduceLT, Nat.reduceLeDiff, Nat.reduceBNe, Nat.reduceBEq, Int.reduceToNat, trChk, fIn_eq, strs_take, List.length_take, getD_mapd _ _ _ _ hc3, hc3, hyy, Offer.enc]
                  (repeat' apply And.intro) <;> (try first | omega | (intros; (repeat' apply And.intro) <;> first | assumption | omega | (simp_all; done)))
                  refine aw_cond (b := _) rfl (fun hb18 => ?_) (fun hb18 => ?_)
                  · skip
                    refine aw_region (EF := EF0) hG (by rw [hN]; exact tr13_19) ?_
                    simp only [a13_19, go_sem, ↓reduceIte, Nat.reduceEqDiff, reduceCtorEq, Nat.reduceAdd, Nat.reduceLT, Nat.reduceLeDiff, Nat.reduceBNe, Nat.reduceBEq, Int.reduceToNat, inI, trChk, fRDec_eq, hk2]
                    (repeat' apply And.intro) <;> (try first | omega | (intros; (repeat' apply And.intro) <;> first | assumption | omega | (simp_all; done)) | (simp only [List.length_append, List.length_cons, List.length_nil]; omega))
                    refine aw_region (EF := EF0) hG (by rw [hN]; exact tr13_14) ?_
                    simp only [a13_14, go_sem, ↓reduceIte, Nat.reduceEqDiff, reduceCtorEq, Nat.reduceAdd, Nat.reduceLT, Nat.reduceLeDiff, Nat.reduceBNe, Nat.reduceBEq, Int.reduceToNat, inI]
                    (repeat' apply And.intro) <;> (try first | omega | (intros; (repeat' apply And.intro) <;> first | assumption | omega | (simp_all; done)))
                    refine hKL2 (k + 1, g5 ++ [⟨6, pt ++ sType ++ dec k⟩]) _ ?_ ?_ ?_
                    · (try dsimp only); refine ⟨hc13, ?_, by simp only [List.length_append, List.length_cons, List.length_nil]; omega⟩; rw [hg5, hg4, typTo, typOne, getD_lt _ _ _ hc13, fIf_t (b := inB (ts.take k) ts[k]) hb18]; simp only [List.append_assoc]
                    · (try dsimp only); omega
                    · refine Le.mk _ _ ?_ ?_ rfl <;> simp only [go_sem, ↓reduceIte, Nat.reduceEqDiff, reduceCtorEq, Nat.reduceAdd, Nat.reduceLT, Nat.reduceLeDiff, Nat.reduceBNe, Nat.reduceBEq, Int.reduceToNat, List.length_append, List.length_cons, List.length_nil] <;> (repeat' apply And.intro) <;> (try first | rfl | exact wk_frzb rfl rfl rfl | exact wk_fn rfl | exact .nilo _ _ _ rfl rfl)
                  · skip
                    refine aw_skip ?_
                    simp only [go_sem, ↓reduceIte, Nat.reduceEqDiff, reduceCtorEq, Nat.reduceAdd, Nat.reduceLT, Nat.reduceLeDiff, Nat.reduceBNe, Nat.reduceBEq, Int.reduceToNat]
                    refine aw_region (EF := EF0) hG (by rw [hN]; exact tr13_14) ?_
                    simp only [a13_14, go_sem, ↓reduceIte, Nat.reduceEqDiff, reduceCtorEq, Nat.reduceAdd, Nat.reduceLT, Nat.reduceLeDiff, Nat.reduceBNe, Nat.reduceBEq, Int.reduceToNat, inI]
                    (repeat' apply And.intro) <;> (try first | omega | (intros; (repeat' apply And.intro) <;> first | assumption | omega | (simp_all; done)))
                    refine hKL2 (k + 1, g5) _ ?_ ?_ ?_
                    · (try dsimp only); refine ⟨hc13, ?_, by omega⟩; rw [hg5, hg4, typTo, typOne, getD_lt _ _ _ hc13, fIf_f (b := inB (ts.take k) ts[k]) hb18, List.append_nil]; simp only [List.append_assoc]
                    · (try dsimp only); omega
                    · refine Le.mk _ _ ?_ ?_ rfl <;> simp only [go_sem, ↓reduceIte, Nat.reduceEqDiff, reduceCtorEq, Nat.reduceAdd, Nat.reduceLT, Nat.reduceLeDiff, Nat.reduceBNe, Nat.reduceBEq, Int.reduceToNat] <;> (repeat' apply And.intro) <;> (try first | rfl | exact wk_frzb rfl rfl rfl | exact wk_fn rfl | exact .nilo _ _ _ rfl rfl)
              · simp only [decide_eq_true_eq, decide_eq_false_iff_not, Bool.and_eq_true, Bool.or_eq_true, Bool.not_eq_true', Bool.not_eq_false', Bool.and_eq_false_iff, Bool.or_eq_false_iff, Int.ofNat_lt, Int.ofNat_le, Nat.not_lt, Nat.not_le, Int.not_lt, Int.not_le] at hc13
                refine aw_exit ?_
                simp only [go_sem, ↓reduceIte, Nat.reduceEqDiff, reduceCtorEq, Nat.reduceAdd, Nat.reduceLT, Nat.reduceLeDiff, Nat.reduceBNe, Nat.reduceBEq, Int.reduceToNat]
                refine aw_region (EF := EF0) hG (by rw [hN]; exact tr13_4) ?_
                simp only [a13_4, go_sem, ↓reduceIte, Nat.reduceEqDiff, reduceCtorEq, Nat.reduceAdd, Nat.reduceLT, Nat.reduceLeDiff, Nat.reduceBNe, Nat.reduceBEq, Int.reduceToNat, inI]
                (repeat' apply And.intro) <;> (try first | omega | (intros; (repeat' apply And.intro) <;> first | assumption | omega | (simp_all; done)))
                refine hKL0 (i + 1, g4) _ ?_ ?_ ?_
                · (try dsimp only); refine ⟨hc3, ?_, by omega⟩; rw [offTo_succ hc3 hyy, ← hg, offOne, hg4, hg3, hg2, hg1, Nat.le_antisymm hk hc13, ← hpt]; simp only [List.append_assoc]; rfl
                · (try dsimp only); omega
                · refine Le.mk _ _ ?_ ?_ rfl <;> simp only [go_sem, ↓reduceIte, Nat.reduceEqDiff, reduceCtorEq, Nat.reduceAdd, Nat.reduceLT, Nat.reduceLeDiff, Nat.reduceBNe, Nat.reduceBEq, Int.reduceToNat] <;> (repeat' apply And.intro) <;> (try first | rfl | exact wk_frzb rfl rfl rfl | exact wk_fn rfl | exact .nilo _ _ _ rfl rfl)
    · simp only [decide_eq_true_eq, decide_eq_false_iff_not, Bool.and_eq_true, Bool.or_eq_true, Bool.not_eq_true', Bool.not_eq_false', Bool.and_eq_false_iff, Bool.or_eq_false_iff, Int.ofNat_lt, Int.ofNat_le, Nat.not_lt, Nat.not_le, Int.not_lt, Int.not_le] at hc3
      refine aw_exit ?_
      simp only [go_sem, ↓reduceIte, Nat.reduceEqDiff, reduceCtorEq, Nat.reduceAdd, Nat.reduceLT, Nat.reduceLeDiff, Nat.reduceBNe, Nat.reduceBEq, Int.reduceToNat]
      refine aw_seq (aw_region (EF := EF0) hG (by rw [hN]; exact tr13_20) ?_)
      simp only [a13_20, go_sem, ↓reduceIte, Nat.reduceEqDiff, reduceCtorEq, Nat.reduceAdd, Nat.reduceLT, Nat.reduceLeDiff, Nat.reduceBNe, Nat.reduceBEq, Int.reduceToNat]
      refine AW.le (s' := ⟨mkE [(2, .list (faults g) false)], mkH []⟩) (Le.mk _ _ ?_ ?_ rfl) (aw_ret (hQ _ _ (.inl rfl) ?_ ?_ ?_)) <;> simp only [outφ, outV, AR.res, go_sem, ↓reduceIte, Nat.reduceEqDiff, reduceCtorEq, Nat.reduceAdd, Nat.reduceLT, Nat.reduceLeDiff, Nat.reduceBNe, Nat.reduceBEq, Int.reduceToNat, fCheck, offFaults]
      · exact wk_frz rfl (by rw [faults_len]) rfl (faults_pur _)
      · rw [hg, Nat.le_antisymm hi hc3]
end Go.Proofs.YtnlgkeiilenojaaDoor
