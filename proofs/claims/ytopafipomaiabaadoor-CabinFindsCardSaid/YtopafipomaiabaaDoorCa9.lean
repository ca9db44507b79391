/- The checker's cabin. -/
import Derived.Test.YtopafipomaiabaaDoorCa8
namespace Go.Proofs.YtopafipomaiabaaDoor
open Go Go.RowKit
set_option linter.unusedSimpArgs false
set_option linter.unusedVariables false
set_option linter.deprecated false
def EFc : Nat → Bool := fun f => f == 26
def posTo (path : List UInt8) : Nat → List UInt8
  | 0 => path
  | k + 1 => at1 path sClass k
theorem inR_or (y : Cabin) : (!inR y) = (decide (y.seats < 1) || decide (999 < y.seats) || decide (y.over < 0) || decide (999 < y.over)) := by
  unfold inR
  rw [Bool.eq_iff_iff]
  simp only [Bool.not_eq_true', Bool.and_eq_false_iff, decide_eq_false_iff_not, Bool.or_eq_true, decide_eq_true_eq]
  omega
def stCm (y : Cabin) (path : List UInt8) (g : List Fault) (pos : List UInt8) (prev : List (List UInt8)) (more : List (Nat × V)) (moreH : List (Nat × Ob)) : St :=
  ⟨mkE ([(0, .ptr 1000 0), (2, .map 1002), (4, .ptr 4 0), (6, .str path), (7, .bool (!inR y))] ++ more), mkH (chk 1000 1001 g pos ++ [(1002, .mp (smap prev)), (4, .box 38 y.enc)] ++ moreH)⟩
noncomputable def tCm : Tab
  | 19 => (gOf aCab fAuth)
  | 25 => gDec
  | 37 => gClass
  | _ => gNo
theorem tCm_ok : ∀ f, PureC Tryd.prog UT f (tCm f) := fun f => by
  unfold tCm
  split
  · exact auth_p
  · exact decimal_p
  · exact class_p
  · exact PureC.no
set_option maxHeartbeats 2000000 in
theorem cab_e (y : Cabin) (g : List Fault) (path : List UInt8) (prev : List (List UInt8)) (hy : y.ok) (hsm : y.cl.length ≤ 1000) (hg : g.length ≤ 100000000000) (hp : path ≠ []) (hpl : path.length ≤ 10000) :
    Eff Tryd.prog UT 28 [.ptr 1000 0, .agg y.enc, .map 1002] (chk 1000 1001 g path ++ [(1002, .mp (smap prev))]) (.tup []) (chk 1000 1001 (g ++ cabTail y path prev) (posTo path y.cl.length) ++ [(1002, .mp (smap (prev ++ codes y.cl)))]) := by
  have hG := tCm_ok
  obtain ⟨nm, se, ov, cl⟩ := y
  dsimp only at hsm
  have hin := inR_or ⟨nm, se, ov, cl⟩
  dsimp only at hin
  refine Eff.of_aw Tryd.func28 body28 nm28 res28 (by rw [nt28]; simp) fun C hN Q hQ => ?_
  rw [nt28] at hN
  unfold c28
  refine aw_seq (aw_region (EF := EFc) hG (by rw [hN]; exact tr28_0) ?_)
  simp only [a28_0, go_sem, ↓reduceIte, Nat.reduceEqDiff, reduceCtorEq, Nat.reduceAdd, Nat.reduceLT, Nat.reduceLeDiff, Nat.reduceBNe, Nat.reduceBEq, Int.reduceToNat, EFc, chk, Cabin.enc]
  refine aw_seq (aw_region (EF := EFc) hG (by rw [hN]; exact tr28_1) ?_)
  simp only [a28_1, go_sem, ↓reduceIte, Nat.reduceEqDiff, reduceCtorEq, Nat.reduceAdd, Nat.reduceLT, Nat.reduceLeDiff, Nat.reduceBNe, Nat.reduceBEq, Int.reduceToNat, EFc]
  refine aw_seq (aw_region (EF := EFc) hG (by rw [hN]; exact tr28_2) ?_)
  simp only [a28_2, go_sem, ↓reduceIte, Nat.reduceEqDiff, reduceCtorEq, Nat.reduceAdd, Nat.reduceLT, Nat.reduceLeDiff, Nat.reduceBNe, Nat.reduceBEq, Int.reduceToNat, EFc]
  rw [← hin]
  refine aw_seq (aw_region (EF := EFc) hG (by rw [hN]; exact tr28_3) ?_)
  simp only [a28_3, go_sem, ↓reduceIte, Nat.reduceEqDiff, reduceCtorEq, Nat.reduceAdd, Nat.reduceLT, Nat.reduceLeDiff, Nat.reduceBNe, Nat.reduceBEq, Int.reduceToNat, EFc]
  refine add_use (nb := 1000) (na := 1001) (by rfl) (by rfl) (by decide) ?_ ?_
  · omega
  have l1 := fIf_len (!inR ⟨nm, se, ov, cl⟩) 2 path
  simp only [go_sem, ↓reduceIte, Nat.reduceEqDiff, reduceCtorEq, Nat.reduceAdd, Nat.reduceLT, Nat.reduceLeDiff, Nat.reduceBNe, Nat.reduceBEq, Int.reduceToNat, chk]
  generalize hg1 : g ++ fIf (!inR ⟨nm, se, ov, cl⟩) 2 path = g1
  have lg1 : g1.length ≤ g.length + 1 := by rw [← hg1, List.length_append]; omega
  refine aw_seq (aw_region (EF := EFc) hG (by rw [hN]; exact tr28_4) ?_)
  simp only [a28_4, go_sem, ↓reduceIte, Nat.reduceEqDiff, reduceCtorEq, Nat.reduceAdd, Nat.reduceLT, Nat.reduceLeDiff, Nat.reduceBNe, Nat.reduceBEq, Int.reduceToNat, EFc]
  refine add_use (nb := 1000) (na := 1001) (by rfl) (by rfl) (by decide) ?_ ?_
  · omega
  have l2 := fIf_len (sizeBad cl.length 1 26) 4 path
  rw [← show sizeBad cl.length 1 26 = (decide ((cl.length : Int) < 1) || decide (26 < (cl.length : Int))) from rfl]
  simp only [go_sem, ↓reduceIte, Nat.reduceEqDiff, reduceCtorEq, Nat.reduceAdd, Nat.reduceLT, Nat.reduceLeDiff, Nat.reduceBNe, Nat.reduceBEq, Int.reduceToNat, chk]
  generalize hg2 : g1 ++ fIf (sizeBad cl.length 1 26) 4 path = g2
  have lg2 : g2.length ≤ g1.length + 1 := by rw [← hg2, List.length_append]; omega
  have hend : ∀ k, g ++ (fIf (!inR ⟨nm, se, ov, cl⟩) 2 path ++ fIf (sizeBad cl.length 1 26) 4 path ++ clsTo ⟨nm, se, ov, cl⟩ path prev k) = g2 ++ clsTo ⟨nm, se, ov, cl⟩ path prev k := by
    intro k; rw [← hg2, ← hg1]; simp only [List.append_assoc]
  refine aw_seq (aw_region (EF := EFc) hG (by rw [hN]; exact tr28_5) ?_)
  simp only [a28_5, go_sem, ↓reduceIte, Nat.reduceEqDiff, reduceCtorEq, Nat.reduceAdd, Nat.reduceLT, Nat.reduceLeDiff, Nat.reduceBNe, Nat.reduceBEq, Int.reduceToNat, EFc]
  refine aw_block ?_
  refine aw_loop (α := Nat) (fun k => k ≤ cl.length) (fun k => stCm ⟨nm, se, ov, cl⟩ path (g2 ++ clsTo ⟨nm, se, ov, cl⟩ path prev k) (posTo path k) (prev ++ codes (cl.take k)) [(48, .list (cl.map Class.enc) false), (49, .int .i64 cl.length), (50, .int .i64 k)] []) (fun k => cl.length - k) 0 (Nat.zero_le _) ?_ ?_
  · refine Le.mk _ _ ?_ ?_ rfl <;> simp only [go_sem, ↓reduceIte, Nat.reduceEqDiff, reduceCtorEq, Nat.reduceAdd, Nat.reduceLT, Nat.reduceLeDiff, Nat.reduceBNe, Nat.reduceBEq, Int.reduceToNat, chk, Cabin.enc]
    have e1 : g2 ++ clsTo ⟨nm, se, ov, cl⟩ path prev 0 = g2 := List.append_nil _
    have e2 : prev ++ codes [] = prev := List.append_nil _
    simp only [e1, e2, posTo, and_self, implies_true, true_and]
  · rintro i hi K hK
    refine aw_seq ?_
    refine aw_region (EF := EFc) hG (by rw [hN]; exact tr28_6) ?_
    simp only [a28_6, go_sem, ↓reduceIte, Nat.reduceEqDiff, reduceCtorEq, Nat.reduceAdd, Nat.reduceLT, Nat.reduceLeDiff, Nat.reduceBNe, Nat.reduceBEq, Int.reduceToNat, EFc, stCm, chk, Cabin.enc]
    refine aw_seq ?_
    refine aw_cond (b := _) rfl (fun hci => ?_) (fun hci => ?_)
    · simp only [decide_eq_true_eq, decide_eq_false_iff_not, Bool.and_eq_true, Bool.or_eq_true, Bool.not_eq_true', Bool.not_eq_false', Bool.and_eq_false_iff, Bool.or_eq_false_iff, Int.ofNat_lt, Int.ofNat_le, Nat.not_lt, Nat.not_le, Int.not_lt, Int.not_le] at hci
      have hz := hy.2.2.2.2 _ (List.getElem_mem hci)
      have hlen := clsTo_len ⟨nm, se, ov, cl⟩ path prev i
      have hstep : clsTo ⟨nm, se, ov, cl⟩ path prev (i + 1) = clsTo ⟨nm, se, ov, cl⟩ path prev i ++ (fIf (!classB cl[i].code) 16 (at1 path sClass i) ++ fIf (seen (prev ++ codes (cl.take i)) cl[i].code) 6 (at1 path sClass i) ++ fIf (protBad ⟨nm, se, ov, cl⟩ i) 2 (at1 path sClass i)) := by
        rw [clsTo, clsOne]; simp only [getD_lt _ _ _ hci]
      generalize clsTo ⟨nm, se, ov, cl⟩ path prev i = fl at hlen hstep
      have hpr1 : prev ++ codes (cl.take (i + 1)) = (prev ++ codes (cl.take i)) ++ [cl[i].code] := by rw [codes_take_succ _ _ hci, List.append_assoc]
      have hpos : posTo path (i + 1) = at1 path sClass i := rfl
      generalize prev ++ codes (cl.take i) = pr at hstep hpr1
      generalize posTo path i = pos0
      have hd := dec_lenN (i := i) (by omega)
      have hat : path ++ [32, 99, 108, 97, 115, 115, 32] ++ dec i = at1 path sClass i := by
        unfold at1 sClass; rw [if_neg hp]; simp
      have hatl := at1_len path sClass (i := i) (by omega)
      have hw : sClass.length = 5 := rfl
      have hi2 : inI (i : Int) := ⟨by omega, by omega⟩
      refine aw_skip ?_
      simp only [go_sem, ↓reduceIte, Nat.reduceEqDiff, reduceCtorEq, Nat.reduceAdd, Nat.reduceLT, Nat.reduceLeDiff, Nat.reduceBNe, Nat.reduceBEq, Int.reduceToNat]
      refine aw_seq ?_
      refine aw_block ?_
      refine aw_seq (aw_region (EF := EFc) hG (by rw [hN]; exact tr28_7) ?_)
      simp only [a28_7, go_sem, ↓reduceIte, Nat.reduceEqDiff, reduceCtorEq, Nat.reduceAdd, Nat.reduceLT, Nat.reduceLeDiff, Nat.reduceBNe, Nat.reduceBEq, Int.reduceToNat, EFc, getD_map _ _ _ hci, hci, Class.enc]
      refine aw_seq (aw_region (EF := EFc) hG (by rw [hN]; exact tr28_8) ?_)
      simp only [a28_8, go_sem, ↓reduceIte, Nat.reduceEqDiff, reduceCtorEq, Nat.reduceAdd, Nat.reduceLT, Nat.reduceLeDiff, Nat.reduceBNe, Nat.reduceBEq, Int.reduceToNat, EFc, tCm, gDec, hi2, hat]
      (repeat' apply And.intro) <;> (try first | omega | (simp only [List.length_append, List.length_cons, List.length_nil]; omega))
      generalize at1 path sClass i = pos at hstep hatl hpos
      refine aw_seq (aw_region (EF := EFc) hG (by rw [hN]; exact tr28_9) ?_)
      simp only [a28_9, go_sem, ↓reduceIte, Nat.reduceEqDiff, reduceCtorEq, Nat.reduceAdd, Nat.reduceLT, Nat.reduceLeDiff, Nat.reduceBNe, Nat.reduceBEq, Int.reduceToNat, EFc, tCm, gClass, hz.1]
      refine add_use (nb := 1000) (na := 1001) (by rfl) (by rfl) (by decide) ?_ ?_
      · rw [List.length_append]; omega
      have l3 := fIf_len (!classB cl[i].code) 16 pos
      simp only [go_sem, ↓reduceIte, Nat.reduceEqDiff, reduceCtorEq, Nat.reduceAdd, Nat.reduceLT, Nat.reduceLeDiff, Nat.reduceBNe, Nat.reduceBEq, Int.reduceToNat, chk]
      generalize hg3 : (g2 ++ fl) ++ fIf (!classB cl[i].code) 16 pos = g3
      have lg3 : g3.length ≤ g2.length + fl.length + 1 := by rw [← hg3, List.length_append, List.length_append]; omega
      refine aw_seq (aw_region (EF := EFc) hG (by rw [hN]; exact tr28_10) ?_)
      simp only [a28_10, go_sem, ↓reduceIte, Nat.reduceEqDiff, reduceCtorEq, Nat.reduceAdd, Nat.reduceLT, Nat.reduceLeDiff, Nat.reduceBNe, Nat.reduceBEq, Int.reduceToNat, EFc]
      refine add_use (nb := 1000) (na := 1001) (by rfl) (by rfl) (by decide) ?_ ?_
      · omega
      have l4 := fIf_len (seen pr cl[i].code) 6 pos
      simp only [go_sem, ↓reduceIte, Nat.reduceEqDiff, reduceCtorEq, Nat.reduceAdd, Nat.reduceLT, Nat.reduceLeDiff, Nat.reduceBNe, Nat.reduceBEq, Int.reduceToNat, chk]
      generalize hg4 : g3 ++ fIf (seen pr cl[i].code) 6 pos = g4
      have lg4 : g4.length ≤ g3.length + 1 := by rw [← hg4, List.length_append]; omega
      refine aw_seq (aw_region (EF := EFc) hG (by rw [hN]; exact tr28_11) ?_)
      simp only [a28_11, go_sem, ↓reduceIte, Nat.reduceEqDiff, reduceCtorEq, Nat.reduceAdd, Nat.reduceLT, Nat.reduceLeDiff, Nat.reduceBNe, Nat.reduceBEq, Int.reduceToNat, EFc]
      have hi1 : i - 1 < cl.length := by omega
      have e1 : ((i : Int) - 1).toNat = i - 1 := by omega
      have e2 : inI ((i : Int) - 1) := ⟨by omega, by omega⟩
      have hau : inR ⟨nm, se, ov, cl⟩ = true → inI (se + ov) := inR_auth
      refine aw_regionD (EF := EFc) hG mixed (by rw [hN]; exact tr28_12) ok28_12 ?_
      simp only [a28_12, d28_12, go_sem, ↓reduceIte, Nat.reduceEqDiff, reduceCtorEq, Nat.reduceAdd, Nat.reduceLT, Nat.reduceLeDiff, Nat.reduceBNe, Nat.reduceBEq, Int.reduceToNat, EFc, tCm, fAuth_eq, e1, e2, getD_map _ _ _ hi1, hi1, Class.enc, Bool.not_not]
      (repeat' apply And.intro) <;> (try first | omega | (intro h; simp_all; done) | (intro h; simp_all; omega))
      have hpb : protBad ⟨nm, se, ov, cl⟩ i = (decide (cl[i].prot < 0) || decide (0 < i) && decide (cl[i].prot < cl[i - 1].prot) || inR ⟨nm, se, ov, cl⟩ && decide (se + ov < cl[i].prot)) := by
        unfold protBad auth; simp only [getD_lt _ _ _ hci, getD_lt _ _ _ hi1]
      have hcast : decide (0 < (i : Int)) = decide (0 < i) := by simp
      rw [hcast, ← hpb]
      refine add_use (nb := 1000) (na := 1001) (by rfl) (by rfl) (by decide) ?_ ?_
      · omega
      have hf : g2 ++ clsTo ⟨nm, se, ov, cl⟩ path prev (i + 1) = g4 ++ fIf (protBad ⟨nm, se, ov, cl⟩ i) 2 pos := by rw [hstep, ← hg4, ← hg3]; simp only [List.append_assoc]
      simp only [go_sem, ↓reduceIte, Nat.reduceEqDiff, reduceCtorEq, Nat.reduceAdd, Nat.reduceLT, Nat.reduceLeDiff, Nat.reduceBNe, Nat.reduceBEq, Int.reduceToNat, chk]
      refine aw_region (EF := EFc) hG (by rw [hN]; exact tr28_13) ?_
      simp only [a28_13, go_sem, ↓reduceIte, Nat.reduceEqDiff, reduceCtorEq, Nat.reduceAdd, Nat.reduceLT, Nat.reduceLeDiff, Nat.reduceBNe, Nat.reduceBEq, Int.reduceToNat, EFc, inI]
      (repeat' apply And.intro) <;> (try first | omega)
      refine hK (i + 1) _ ?_ ?_ ?_
      · omega
      · omega
      · refine Le.mk _ _ ?_ ?_ rfl <;> simp only [go_sem, ↓reduceIte, Nat.reduceEqDiff, reduceCtorEq, Nat.reduceAdd, Nat.reduceLT, Nat.reduceLeDiff, Nat.reduceBNe, Nat.reduceBEq, Int.reduceToNat, hf, hpr1, hpos, chk, Cabin.enc]
    · simp only [decide_eq_true_eq, decide_eq_false_iff_not, Bool.and_eq_true, Bool.or_eq_true, Bool.not_eq_true', Bool.not_eq_false', Bool.and_eq_false_iff, Bool.or_eq_false_iff, Int.ofNat_lt, Int.ofNat_le, Nat.not_lt, Nat.not_le, Int.not_lt, Int.not_le] at hci
      refine aw_exit ?_
      simp only [go_sem, ↓reduceIte, Nat.reduceEqDiff, reduceCtorEq, Nat.reduceAdd, Nat.reduceLT, Nat.reduceLeDiff, Nat.reduceBNe, Nat.reduceBEq, Int.reduceToNat]
      have hie : i = cl.length := by omega
      subst hie
      show Q _ _
      refine hQ _ _ ⟨mkE [], mkH (chk 1000 1001 (g ++ cabTail ⟨nm, se, ov, cl⟩ path prev) (posTo path cl.length) ++ [(1002, .mp (smap (prev ++ codes cl)))])⟩ (.inr rfl) (Le.mk _ _ ?_ ?_ rfl) rfl ?_ ?_ <;> simp only [outφ, outV, AR.res, go_sem, ↓reduceIte, Nat.reduceEqDiff, reduceCtorEq, Nat.reduceAdd, Nat.reduceLT, Nat.reduceLeDiff, Nat.reduceBNe, Nat.reduceBEq, Int.reduceToNat, chk, cabTail, hend, List.take_length]
end Go.Proofs.YtopafipomaiabaaDoor
