/- Check of persons and a group, both. -/
import Derived.Test.YtbakkdnhbeldcaaDoorPa3
namespace Go.Proofs.YtbakkdnhbeldcaaDoor
open Go Go.RowKit
set_option linter.unusedSimpArgs false
set_option linter.unusedVariables false
set_option linter.deprecated false
theorem fDec_eq (n) : gDec [.int .i64 n] = (inI n, .str (dec n)) := rfl
theorem fRDec_eq (n) : gRDec [.int .i64 n] = (inI n, .str (dec n)) := rfl
theorem inI_of {i : Nat} (h : i ≤ 1000000) : inI (i : Int) := ⟨by omega, by omega⟩
def sPer : List UInt8 := [112, 101, 114, 115, 111, 110, 32]
def sParty : List UInt8 := [112, 97, 114, 116, 121]
theorem add_e (g : List Fault) (b : Bool) (e : Int) (pos : List UInt8) (hg : g.length ≤ 1000000000) : Eff Tryd.prog UT 24 ([.bool b, .int .i64 e, .str pos] ++ [.ptr 1000 0]) (bxF 1000 1001 g) (.tup []) (bxF 1000 1001 (g ++ fIf b e pos)) := by
  have hG := tNo_ok
  generalize hR : g ++ fIf b e pos = R
  rw [show ([.bool b, .int .i64 e, .str pos] ++ [.ptr 1000 0] : List V) = [.bool b, .int .i64 e, .str pos, .ptr 1000 0] from rfl]
  refine Eff.of_aw Tryd.func24 body24 nm24 res24 (by rw [nt24]; simp) fun C hN Q hQ => ?_
  rw [nt24] at hN
  unfold c24
  refine aw_seq (aw_region (EF := EF0) hG (by rw [hN]; exact tr24_0) ?_)
  simp only [a24_0, go_sem, ↓reduceIte, Nat.reduceEqDiff, reduceCtorEq, Nat.reduceAdd, Nat.reduceLT, Nat.reduceLeDiff, Nat.reduceBNe, Nat.reduceBEq, Int.reduceToNat, bxF]
  refine aw_cond (b := _) rfl (fun hb => ?_) (fun hb => ?_)
  · skip
    refine aw_region (EF := EF0) hG (by rw [hN]; exact tr24_1) ?_
    simp only [a24_1, go_sem, ↓reduceIte, Nat.reduceEqDiff, reduceCtorEq, Nat.reduceAdd, Nat.reduceLT, Nat.reduceLeDiff, Nat.reduceBNe, Nat.reduceBEq, Int.reduceToNat, bxF]
    (repeat' apply And.intro) <;> (try first | omega | (intros; (repeat' apply And.intro) <;> first | assumption | omega | (simp_all; done)))
    have hfin : R = g ++ [⟨e, pos⟩] := by rw [← hR, fIf_t hb]
    subst hfin
    show Q _ _
    refine hQ _ _ ⟨mkE [], mkH (bxF 1000 1001 (g ++ [⟨e, pos⟩]))⟩ (.inr rfl) (Le.mk _ _ ?_ ?_ rfl) rfl ?_ ?_ <;> simp only [outφ, outV, AR.res, go_sem, ↓reduceIte, Nat.reduceEqDiff, reduceCtorEq, Nat.reduceAdd, Nat.reduceLT, Nat.reduceLeDiff, Nat.reduceBNe, Nat.reduceBEq, Int.reduceToNat, bxF, List.length_append, List.length_cons, List.length_nil]
  · skip
    refine aw_skip ?_
    try simp only [go_sem, ↓reduceIte, Nat.reduceEqDiff, reduceCtorEq, Nat.reduceAdd, Nat.reduceLT, Nat.reduceLeDiff, Nat.reduceBNe, Nat.reduceBEq, Int.reduceToNat]
    have hfin : R = g := by rw [← hR, fIf_f hb, List.append_nil]
    subst hfin
    show Q _ _
    refine hQ _ _ ⟨mkE [], mkH (bxF 1000 1001 R)⟩ (.inr rfl) (Le.mk _ _ ?_ ?_ rfl) rfl ?_ ?_ <;> simp only [outφ, outV, AR.res, go_sem, ↓reduceIte, Nat.reduceEqDiff, reduceCtorEq, Nat.reduceAdd, Nat.reduceLT, Nat.reduceLeDiff, Nat.reduceBNe, Nat.reduceBEq, Int.reduceToNat, bxF]
def perOne (i : Nat) (x : Person) : List Fault := fIf (!namB x) 5 (sPer ++ dec i) ++ fIf (!typB x) 8 (sPer ++ dec i)
def perTo (l : List Person) : Nat → List Fault
  | 0 => []
  | i + 1 => perTo l i ++ perOne i (l.getD i Person.zero)
theorem perOne_len (i x) : (perOne i x).length ≤ 2 := by
  have h1 := fIf_len (!namB x) 5 (sPer ++ dec i)
  have h2 := fIf_len (!typB x) 8 (sPer ++ dec i)
  unfold perOne; rw [List.length_append]; omega
theorem perTo_len (l) : ∀ i, (perTo l i).length ≤ 2 * i
  | 0 => Nat.le_refl _
  | i + 1 => by rw [perTo, List.length_append]; have := perTo_len l i; have := perOne_len i (l.getD i Person.zero); omega
def wrongG (g : Int) : Bool := decide (g < 0) || decide (99 < g)
def sizeBad (n : Nat) (g : Int) : Bool := decide ((n : Int) + g = 0) || (decide (g = 0) && decide (9 < (n : Int))) || decide (99 < (n : Int) + g)
def goodG (g : Int) : Int := if wrongG g = true then 0 else g
def chkP (l : List Person) (g : Int) : List Fault := perTo l l.length ++ fIf (wrongG g) 2 sParty ++ fIf (sizeBad l.length (goodG g)) 4 sParty ++ fIf (aloneB l) 25 sParty
def OkC (l : List Person) : Prop := l.length ≤ 1000 ∧ ∀ x ∈ l, x.ok
def fChk (x : List Person × Int) : Prop × V := (OkC x.1, .list (faults (chkP x.1 x.2)) false)
theorem fChk_eq (l : List Person) (g : Int) : gOf aSea fChk [.list (l.map Person.enc) false, .int .i64 g] = (OkC l, .list (faults (chkP l g)) false) := gOf_eq aSea_inj (l, g)
theorem good_bd (g : Int) : 0 ≤ goodG g ∧ goodG g ≤ 99 := by
  unfold goodG
  split
  · decide
  · rename_i h; unfold wrongG at h; simp at h; omega
def EFp : Nat → Bool := fun f => f == 24
noncomputable def tCk : Tab
  | 25 => gDec
  | 26 => (gOf aPer fNam)
  | 27 => (gOf aPer fTyp)
  | 28 => (gOf aPers fAlone)
  | _ => gNo
theorem tCk_ok : ∀ f, PureC Tryd.prog UT f (tCk f) := fun f => by
  unfold tCk
  split
  · exact decimal_p
  · exact named_p
  · exact typed_p
  · exact alone_p
  · exact PureC.no
set_option maxHeartbeats 4000000 in
theorem check_p : PureC Tryd.prog UT 10 (gOf aSea fChk) := by
  have hG := tCk_ok
  refine PureC.ofArgs aSea_inj Tryd.func10 body10 nm10 res10 ?_
  rintro ⟨l, gr⟩ hv
  refine ⟨by rw [nt10]; simp [aSea], fun C hN Q hQ => ?_⟩
  rw [nt10] at hN
  unfold c10
  obtain ⟨hl, hok⟩ : OkC l := hv
  have hlb : l.length ≤ 140737488355328 := by omega
  refine aw_seq (aw_region (EF := EFp) hG (by rw [hN]; exact tr10_0) ?_)
  simp only [a10_0, go_sem, ↓reduceIte, Nat.reduceEqDiff, reduceCtorEq, Nat.reduceAdd, Nat.reduceLT, Nat.reduceLeDiff, Nat.reduceBNe, Nat.reduceBEq, Int.reduceToNat, aSea, EFp, tCk, fNam_eq, fTyp_eq, fDec_eq, fAlone_eq]
  refine aw_seq (aw_region (EF := EFp) hG (by rw [hN]; exact tr10_1) ?_)
  simp only [a10_1, go_sem, ↓reduceIte, Nat.reduceEqDiff, reduceCtorEq, Nat.reduceAdd, Nat.reduceLT, Nat.reduceLeDiff, Nat.reduceBNe, Nat.reduceBEq, Int.reduceToNat, EFp, tCk, fNam_eq, fTyp_eq, fDec_eq, fAlone_eq]
  refine aw_seq (aw_region (EF := EFp) hG (by rw [hN]; exact tr10_2) ?_)
  simp only [a10_2, go_sem, ↓reduceIte, Nat.reduceEqDiff, reduceCtorEq, Nat.reduceAdd, Nat.reduceLT, Nat.reduceLeDiff, Nat.reduceBNe, Nat.reduceBEq, Int.reduceToNat, EFp, tCk, fNam_eq, fTyp_eq, fDec_eq, fAlone_eq]
  refine AW.le (s' := ⟨mkE [(0, .list (l.map Person.enc) false), (1, .int .i64 gr), (5, .ptr 5 0), (6, .fn 24 [.ptr 5 0])], mkH ([(5, .box 25 [.own 999 0]), (999, .arr 47 2 (faults []))])⟩) (Le.mk _ _ (by (simp only [go_sem, ↓reduceIte, Nat.reduceEqDiff, reduceCtorEq, Nat.reduceAdd, Nat.reduceLT, Nat.reduceLeDiff, Nat.reduceBNe, Nat.reduceBEq, Int.reduceToNat]) <;> (repeat' apply And.intro) <;> (try first | exact wk_frzb rfl rfl rfl | rfl | exact wk_fn rfl | exact .nill _ | exact .nilo _ _ _ rfl rfl | exact wk_frz rfl (by simp only [ints_len, nats_len]) rfl (ints_pur _))) (by (simp only [go_sem, ↓reduceIte, Nat.reduceEqDiff, reduceCtorEq, Nat.reduceAdd, Nat.reduceLT, Nat.reduceLeDiff, Nat.reduceBNe, Nat.reduceBEq, Int.reduceToNat]) <;> (repeat' apply And.intro) <;> (try first | exact wk_frzb rfl rfl rfl | rfl | exact wk_fn rfl | exact .nill _ | exact .nilo _ _ _ rfl rfl | exact wk_frz rfl (by simp only [ints_len, nats_len]) rfl (ints_pur _))) rfl) ?_
  refine aw_seq ?_
  refine aw_seq (aw_region (EF := EFp) hG (by rw [hN]; exact tr10_3) ?_)
  simp only [a10_3, go_sem, ↓reduceIte, Nat.reduceEqDiff, reduceCtorEq, Nat.reduceAdd, Nat.reduceLT, Nat.reduceLeDiff, Nat.reduceBNe, Nat.reduceBEq, Int.reduceToNat, EFp, tCk, fNam_eq, fTyp_eq, fDec_eq, fAlone_eq]
  refine aw_block ?_
  refine aw_loop (α := Nat × (List Fault)) (fun γ => (γ.1 ≤ l.length) ∧ (γ.2 = perTo l γ.1) ∧ (γ.2.length ≤ 2 * γ.1)) (fun γ => ⟨mkE [(0, V.list (List.map Person.enc l) false), (1, V.int IntKind.i64 gr), (5, V.ptr 5 0), (6, V.fn 24 [V.ptr 5 0]), (13, V.list (List.map Person.enc l) false), (14, V.int IntKind.i64 ↑l.length), (15, .int .i64 γ.1)], mkH [(5, .box 25 [.own 999 γ.2.length]), (999, .arr 47 2 (faults γ.2))]⟩) (fun γ => l.length - γ.1) (0, []) ⟨Nat.zero_le _, rfl, Nat.le_refl _⟩ ?_ ?_
  · refine Le.mk _ _ ?_ ?_ rfl <;> simp only [go_sem, ↓reduceIte, Nat.reduceEqDiff, reduceCtorEq, Nat.reduceAdd, Nat.reduceLT, Nat.reduceLeDiff, Nat.reduceBNe, Nat.reduceBEq, Int.reduceToNat] <;> (repeat' apply And.intro) <;> (try first | rfl | exact wk_frzb rfl rfl rfl | exact wk_fn rfl | exact .nilo _ _ _ rfl rfl)
  · rintro ⟨i, g⟩ ⟨hi, hg, hgl⟩ KL0 hKL0
    try dsimp only at *
    refine aw_seq (aw_region (EF := EFp) hG (by rw [hN]; exact tr10_4) ?_)
    simp only [a10_4, go_sem, ↓reduceIte, Nat.reduceEqDiff, reduceCtorEq, Nat.reduceAdd, Nat.reduceLT, Nat.reduceLeDiff, Nat.reduceBNe, Nat.reduceBEq, Int.reduceToNat, EFp, tCk, fNam_eq, fTyp_eq, fDec_eq, fAlone_eq]
    refine aw_seq ?_
    refine aw_cond (b := _) rfl (fun hc4 => ?_) (fun hc4 => ?_)
    · simp only [decide_eq_true_eq, decide_eq_false_iff_not, Bool.and_eq_true, Bool.or_eq_true, Bool.not_eq_true', Bool.not_eq_false', Bool.and_eq_false_iff, Bool.or_eq_false_iff, Int.ofNat_lt, Int.ofNat_le, Nat.not_lt, Nat.not_le, Int.not_lt, Int.not_le] at hc4
      refine aw_skip ?_
      try simp only [go_sem, ↓reduceIte, Nat.reduceEqDiff, reduceCtorEq, Nat.reduceAdd, Nat.reduceLT, Nat.reduceLeDiff, Nat.reduceBNe, Nat.reduceBEq, Int.reduceToNat]
      refine aw_seq ?_
      refine aw_block ?_
      have hxo := hok _ (List.getElem_mem hc4)
      generalize hxx : l[i] = x at hxo
      obtain ⟨a, b, c⟩ := x
      have hd := dec_lenN (i := i) (by omega)
      have hi2 := inI_of (i := i) (by omega)
      refine aw_seq (aw_region (EF := EFp) hG (by rw [hN]; exact tr10_5) ?_)
      simp only [a10_5, go_sem, ↓reduceIte, Nat.reduceEqDiff, reduceCtorEq, Nat.reduceAdd, Nat.reduceLT, Nat.reduceLeDiff, Nat.reduceBNe, Nat.reduceBEq, Int.reduceToNat, getD_mapd _ _ _ _ hc4, hc4, hxx, Person.enc, EFp, tCk, fNam_eq, fTyp_eq, fDec_eq, fAlone_eq]
      (repeat' apply And.intro) <;> (try first | omega | (intros; (repeat' apply And.intro) <;> first | assumption | omega | (simp_all; done)))
      refine aw_seq (aw_region (EF := EFp) hG (by rw [hN]; exact tr10_6) ?_)
      simp only [a10_6, go_sem, ↓reduceIte, Nat.reduceEqDiff, reduceCtorEq, Nat.reduceAdd, Nat.reduceLT, Nat.reduceLeDiff, Nat.reduceBNe, Nat.reduceBEq, Int.reduceToNat, inI, hi2, EFp, tCk, fNam_eq, fTyp_eq, fDec_eq, fAlone_eq]
      (repeat' apply And.intro) <;> (try first | omega | (intros; (repeat' apply And.intro) <;> first | assumption | omega | (simp_all; done)) | (simp only [List.length_append, List.length_cons, List.length_nil]; omega))
      refine aw_seq (aw_region (EF := EFp) hG (by rw [hN]; exact tr10_7) ?_)
      simp only [a10_7, go_sem, ↓reduceIte, Nat.reduceEqDiff, reduceCtorEq, Nat.reduceAdd, Nat.reduceLT, Nat.reduceLeDiff, Nat.reduceBNe, Nat.reduceBEq, Int.reduceToNat, hxo, EFp, tCk, fNam_eq, fTyp_eq, fDec_eq, fAlone_eq]
      refine bx_use (nb := 5) (na := 999) (g := g) (add_e _ _ _ _ ?_) (by simp [V.rens, V.ren]) (by simp [V.nins, V.nin]) (by rfl) (by rfl) (by decide) ?_
      · omega
      simp only [go_sem, ↓reduceIte, Nat.reduceEqDiff, reduceCtorEq, Nat.reduceAdd, Nat.reduceLT, Nat.reduceLeDiff, Nat.reduceBNe, Nat.reduceBEq, Int.reduceToNat, bxF]
      have hl1 : (g ++ fIf (!namB ⟨a, b, c⟩) 5 (sPer ++ dec i)).length ≤ 3000 := by have := fIf_len (!namB ⟨a, b, c⟩) 5 (sPer ++ dec i); rw [List.length_append]; omega
      refine aw_region (EF := EFp) hG (by rw [hN]; exact tr10_8) ?_
      simp only [a10_8, go_sem, ↓reduceIte, Nat.reduceEqDiff, reduceCtorEq, Nat.reduceAdd, Nat.reduceLT, Nat.reduceLeDiff, Nat.reduceBNe, Nat.reduceBEq, Int.reduceToNat, hxo, EFp, tCk, fNam_eq, fTyp_eq, fDec_eq, fAlone_eq]
      refine bx_use (nb := 5) (na := 999) (g := g ++ fIf (!namB ⟨a, b, c⟩) 5 (sPer ++ dec i)) (add_e _ _ _ _ ?_) (by simp [V.rens, V.ren]) (by simp [V.nins, V.nin]) (by rfl) (by rfl) (by decide) ?_
      · omega
      simp only [go_sem, ↓reduceIte, Nat.reduceEqDiff, reduceCtorEq, Nat.reduceAdd, Nat.reduceLT, Nat.reduceLeDiff, Nat.reduceBNe, Nat.reduceBEq, Int.reduceToNat, bxF]
      refine aw_region (EF := EFp) hG (by rw [hN]; exact tr10_9) ?_
      simp only [a10_9, go_sem, ↓reduceIte, Nat.reduceEqDiff, reduceCtorEq, Nat.reduceAdd, Nat.reduceLT, Nat.reduceLeDiff, Nat.reduceBNe, Nat.reduceBEq, Int.reduceToNat, inI, EFp, tCk, fNam_eq, fTyp_eq, fDec_eq, fAlone_eq]
      (repeat' apply And.intro) <;> (try first | omega | (intros; (repeat' apply And.intro) <;> first | assumption | omega | (simp_all; done)))
      refine hKL0 (i + 1, perTo l (i + 1)) _ ?_ ?_ ?_
      · (try dsimp only); exact ⟨hc4, rfl, perTo_len l (i + 1)⟩
      · (try dsimp only); omega
      · refine Le.mk _ _ ?_ ?_ rfl <;> simp only [go_sem, ↓reduceIte, Nat.reduceEqDiff, reduceCtorEq, Nat.reduceAdd, Nat.reduceLT, Nat.reduceLeDiff, Nat.reduceBNe, Nat.reduceBEq, Int.reduceToNat, perTo, getD_lt _ _ _ hc4, hxx, perOne, ← List.append_assoc, ← hg] <;> (repeat' apply And.intro) <;> (try first | rfl | exact wk_frzb rfl rfl rfl | exact wk_fn rfl | exact .nilo _ _ _ rfl rfl)
    · simp only [decide_eq_true_eq, decide_eq_false_iff_not, Bool.and_eq_true, Bool.or_eq_true, Bool.not_eq_true', Bool.not_eq_false', Bool.and_eq_false_iff, Bool.or_eq_false_iff, Int.ofNat_lt, Int.ofNat_le, Nat.not_lt, Nat.not_le, Int.not_lt, Int.not_le] at hc4
      refine aw_exit ?_
      simp only [go_sem, ↓reduceIte, Nat.reduceEqDiff, reduceCtorEq, Nat.reduceAdd, Nat.reduceLT, Nat.reduceLeDiff, Nat.reduceBNe, Nat.reduceBEq, Int.reduceToNat]
      have hgg : perTo l l.length = g := by rw [hg, Nat.le_antisymm hi hc4]
      have hwr : (decide (gr < 0) || decide (99 < gr)) = wrongG gr := rfl
      refine aw_seq (aw_region (EF := EFp) hG (by rw [hN]; exact tr10_10) ?_)
      simp only [a10_10, go_sem, ↓reduceIte, Nat.reduceEqDiff, reduceCtorEq, Nat.reduceAdd, Nat.reduceLT, Nat.reduceLeDiff, Nat.reduceBNe, Nat.reduceBEq, Int.reduceToNat, hwr, EFp, tCk, fNam_eq, fTyp_eq, fDec_eq, fAlone_eq]
      (repeat' apply And.intro) <;> (try first | omega | (intros; (repeat' apply And.intro) <;> first | assumption | omega | (simp_all; done)))
      refine aw_seq (aw_region (EF := EFp) hG (by rw [hN]; exact tr10_11) ?_)
      simp only [a10_11, go_sem, ↓reduceIte, Nat.reduceEqDiff, reduceCtorEq, Nat.reduceAdd, Nat.reduceLT, Nat.reduceLeDiff, Nat.reduceBNe, Nat.reduceBEq, Int.reduceToNat, EFp, tCk, fNam_eq, fTyp_eq, fDec_eq, fAlone_eq]
      refine bx_use (nb := 5) (na := 999) (g := g) (add_e _ _ _ _ ?_) (by simp [V.rens, V.ren]) (by simp [V.nins, V.nin]) (by rfl) (by rfl) (by decide) ?_
      · omega
      simp only [go_sem, ↓reduceIte, Nat.reduceEqDiff, reduceCtorEq, Nat.reduceAdd, Nat.reduceLT, Nat.reduceLeDiff, Nat.reduceBNe, Nat.reduceBEq, Int.reduceToNat, bxF]
      have hl2 : (g ++ fIf (wrongG gr) 2 [112, 97, 114, 116, 121]).length ≤ 4000 := by have := fIf_len (wrongG gr) 2 [112, 97, 114, 116, 121]; rw [List.length_append]; omega
      generalize hg2 : g ++ fIf (wrongG gr) 2 [112, 97, 114, 116, 121] = g2 at hl2 ⊢
      refine aw_cut (α := Int) (fun y => (y = goodG gr)) (fun y => ⟨mkE [(0, V.list (List.map Person.enc l) false), (1, .int .i64 y), (5, V.ptr 5 0), (6, V.fn 24 [V.ptr 5 0])], mkH [(5, Ob.box 25 [V.own 999 g2.length]), (999, Ob.arr 47 2 (faults g2))]⟩) ?_ ?_
      · intro KC12 hKC12
        refine aw_seq (aw_region (EF := EFp) hG (by rw [hN]; exact tr10_12) ?_)
        simp only [a10_12, go_sem, ↓reduceIte, Nat.reduceEqDiff, reduceCtorEq, Nat.reduceAdd, Nat.reduceLT, Nat.reduceLeDiff, Nat.reduceBNe, Nat.reduceBEq, Int.reduceToNat, EFp, tCk, fNam_eq, fTyp_eq, fDec_eq, fAlone_eq]
        refine aw_cond (b := _) rfl (fun hb12 => ?_) (fun hb12 => ?_)
        · skip
          refine aw_region (EF := EFp) hG (by rw [hN]; exact tr10_13) ?_
          simp only [a10_13, go_sem, ↓reduceIte, Nat.reduceEqDiff, reduceCtorEq, Nat.reduceAdd, Nat.reduceLT, Nat.reduceLeDiff, Nat.reduceBNe, Nat.reduceBEq, Int.reduceToNat, EFp, tCk, fNam_eq, fTyp_eq, fDec_eq, fAlone_eq]
          refine hKC12 (0) _ ?_ ?_
          · (try dsimp only); unfold goodG; rw [if_pos hb12]
          · refine Le.mk _ _ ?_ ?_ rfl <;> simp only [go_sem, ↓reduceIte, Nat.reduceEqDiff, reduceCtorEq, Nat.reduceAdd, Nat.reduceLT, Nat.reduceLeDiff, Nat.reduceBNe, Nat.reduceBEq, Int.reduceToNat] <;> (repeat' apply And.intro) <;> (try first | rfl | exact wk_frzb rfl rfl rfl | exact wk_fn rfl | exact .nilo _ _ _ rfl rfl)
        · skip
          refine aw_skip ?_
          try simp only [go_sem, ↓reduceIte, Nat.reduceEqDiff, reduceCtorEq, Nat.reduceAdd, Nat.reduceLT, Nat.reduceLeDiff, Nat.reduceBNe, Nat.reduceBEq, Int.reduceToNat]
          refine hKC12 (gr) _ ?_ ?_
          · (try dsimp only); unfold goodG; rw [if_neg (by rw [hb12]; decide)]
          · refine Le.mk _ _ ?_ ?_ rfl <;> simp only [go_sem, ↓reduceIte, Nat.reduceEqDiff, reduceCtorEq, Nat.reduceAdd, Nat.reduceLT, Nat.reduceLeDiff, Nat.reduceBNe, Nat.reduceBEq, Int.reduceToNat] <;> (repeat' apply And.intro) <;> (try first | rfl | exact wk_frzb rfl rfl rfl | exact wk_fn rfl | exact .nilo _ _ _ rfl rfl)
      · rintro y hy
        have hyb := good_bd gr
        rw [← hy] at hyb
        refine aw_seq (aw_region (EF := EFp) hG (by rw [hN]; exact tr10_14) ?_)
        simp only [a10_14, go_sem, ↓reduceIte, Nat.reduceEqDiff, reduceCtorEq, Nat.reduceAdd, Nat.reduceLT, Nat.reduceLeDiff, Nat.reduceBNe, Nat.reduceBEq, Int.reduceToNat, EFp, tCk, fNam_eq, fTyp_eq, fDec_eq, fAlone_eq]
        have hsz : (decide ((l.length : Int) + y = 0) || (decide (y = 0) && decide (9 < (l.length : Int))) || decide (99 < (l.length : Int) + y)) = sizeBad l.length y := rfl
        have hA : -9223372036854775808 ≤ (l.length : Int) + y := by omega
        have hB : (l.length : Int) + y ≤ 9223372036854775807 := by omega
        refine aw_seq (aw_region (EF := EFp) hG (by rw [hN]; exact tr10_15) ?_)
        simp only [a10_15, go_sem, ↓reduceIte, Nat.reduceEqDiff, reduceCtorEq, Nat.reduceAdd, Nat.reduceLT, Nat.reduceLeDiff, Nat.reduceBNe, Nat.reduceBEq, Int.reduceToNat, inI, hsz, hA, hB, EFp, tCk, fNam_eq, fTyp_eq, fDec_eq, fAlone_eq]
        (repeat' apply And.intro) <;> (try first | omega | (intros; (repeat' apply And.intro) <;> first | assumption | omega | (simp_all; done)) | (intro h1; exact ⟨h1, fun h2 => by rw [h1, h2]; rfl⟩))
        refine bx_use (nb := 5) (na := 999) (g := g2) (add_e _ _ _ _ ?_) (by simp [V.rens, V.ren]) (by simp [V.nins, V.nin]) (by rfl) (by rfl) (by decide) ?_
        · omega
        simp only [go_sem, ↓reduceIte, Nat.reduceEqDiff, reduceCtorEq, Nat.reduceAdd, Nat.reduceLT, Nat.reduceLeDiff, Nat.reduceBNe, Nat.reduceBEq, Int.reduceToNat, bxF]
        have hl3 : (g2 ++ fIf (sizeBad l.length y) 4 [112, 97, 114, 116, 121]).length ≤ 5000 := by have := fIf_len (sizeBad l.length y) 4 [112, 97, 114, 116, 121]; rw [List.length_append]; omega
        refine aw_seq (aw_region (EF := EFp) hG (by rw [hN]; exact tr10_16) ?_)
        simp only [a10_16, go_sem, ↓reduceIte, Nat.reduceEqDiff, reduceCtorEq, Nat.reduceAdd, Nat.reduceLT, Nat.reduceLeDiff, Nat.reduceBNe, Nat.reduceBEq, Int.reduceToNat, hlb, EFp, tCk, fNam_eq, fTyp_eq, fDec_eq, fAlone_eq]
        refine bx_use (nb := 5) (na := 999) (g := g2 ++ fIf (sizeBad l.length y) 4 [112, 97, 114, 116, 121]) (add_e _ _ _ _ ?_) (by simp [V.rens, V.ren]) (by simp [V.nins, V.nin]) (by rfl) (by rfl) (by decide) ?_
        · omega
        simp only [go_sem, ↓reduceIte, Nat.reduceEqDiff, reduceCtorEq, Nat.reduceAdd, Nat.reduceLT, Nat.reduceLeDiff, Nat.reduceBNe, Nat.reduceBEq, Int.reduceToNat, bxF]
        have hfin : chkP l gr = g2 ++ fIf (sizeBad l.length y) 4 [112, 97, 114, 116, 121] ++ fIf (aloneB l) 25 [112, 97, 114, 116, 121] := by unfold chkP; rw [hgg, ← hg2, hy]; rfl
        refine aw_seq (aw_region (EF := EFp) hG (by rw [hN]; exact tr10_17) ?_)
        simp only [a10_17, go_sem, ↓reduceIte, Nat.reduceEqDiff, reduceCtorEq, Nat.reduceAdd, Nat.reduceLT, Nat.reduceLeDiff, Nat.reduceBNe, Nat.reduceBEq, Int.reduceToNat, EFp, tCk, fNam_eq, fTyp_eq, fDec_eq, fAlone_eq]
        refine AW.le (s' := ⟨mkE [(4, .list (faults (g2 ++ fIf (sizeBad l.length y) 4 [112, 97, 114, 116, 121] ++ fIf (aloneB l) 25 [112, 97, 114, 116, 121])) false)], mkH []⟩) (Le.mk _ _ ?_ ?_ rfl) (aw_ret (hQ _ _ (.inl rfl) ?_ ?_ ?_)) <;> simp only [outφ, outV, AR.res, go_sem, ↓reduceIte, Nat.reduceEqDiff, reduceCtorEq, Nat.reduceAdd, Nat.reduceLT, Nat.reduceLeDiff, Nat.reduceBNe, Nat.reduceBEq, Int.reduceToNat, fChk]
        · exact wk_frz rfl (by rw [faults_len]) rfl (faults_pur _)
        · rw [hfin]
noncomputable def trCk : Tab
  | 29 => gRDec
  | 30 => (gOf aPer fNam)
  | 31 => (gOf aPer fTyp)
  | 32 => (gOf aPers fFits)
  | _ => gNo
theorem trCk_ok : ∀ f, PureC Tryd.prog UT f (trCk f) := fun f => by
  unfold trCk
  split
  · exact rdecimal_p
  · exact rnamed_p
  · exact rtyped_p
  · exact rfits_p
  · exact PureC.no
set_option maxHeartbeats 4000000 in
theorem rcheck_p : PureC Tryd.prog UT 11 (gOf aSea fChk) := by
  have hG := trCk_ok
  refine PureC.ofArgs aSea_inj Tryd.func11 body11 nm11 res11 ?_
  rintro ⟨l, gr⟩ hv
  refine ⟨by rw [nt11]; simp [aSea], fun C hN Q hQ => ?_⟩
  rw [nt11] at hN
  unfold c11
  obtain ⟨hl, hok⟩ : OkC l := hv
  have hlb : l.length ≤ 140737488355328 := by omega
  refine aw_seq (aw_region (EF := EFp) hG (by rw [hN]; exact tr11_0) ?_)
  simp only [a11_0, go_sem, ↓reduceIte, Nat.reduceEqDiff, reduceCtorEq, Nat.reduceAdd, Nat.reduceLT, Nat.reduceLeDiff, Nat.reduceBNe, Nat.reduceBEq, Int.reduceToNat, aSea, trCk, fNam_eq, fTyp_eq, fRDec_eq, fFits_eq]
  refine aw_seq (aw_region (EF := EFp) hG (by rw [hN]; exact tr11_1) ?_)
  simp only [a11_1, go_sem, ↓reduceIte, Nat.reduceEqDiff, reduceCtorEq, Nat.reduceAdd, Nat.reduceLT, Nat.reduceLeDiff, Nat.reduceBNe, Nat.reduceBEq, Int.reduceToNat, trCk, fNam_eq, fTyp_eq, fRDec_eq, fFits_eq]
  refine AW.le (s' := ⟨mkE [(0, .list (l.map Person.enc) false), (1, .int .i64 gr), (5, .own 999 0)], mkH ([(999, .arr 47 2 (faults []))])⟩) (Le.mk _ _ (by (simp only [go_sem, ↓reduceIte, Nat.reduceEqDiff, reduceCtorEq, Nat.reduceAdd, Nat.reduceLT, Nat.reduceLeDiff, Nat.reduceBNe, Nat.reduceBEq, Int.reduceToNat]) <;> (repeat' apply And.intro) <;> (try first | exact wk_frzb rfl rfl rfl | rfl | exact wk_fn rfl | exact .nill _ | exact .nilo _ _ _ rfl rfl | exact wk_frz rfl (by simp only [ints_len, nats_len]) rfl (ints_pur _))) (by (simp only [go_sem, ↓reduceIte, Nat.reduceEqDiff, reduceCtorEq, Nat.reduceAdd, Nat.reduceLT, Nat.reduceLeDiff, Nat.reduceBNe, Nat.reduceBEq, Int.reduceToNat]) <;> (repeat' apply And.intro) <;> (try first | exact wk_frzb rfl rfl rfl | rfl | exact wk_fn rfl | exact .nill _ | exact .nilo _ _ _ rfl rfl | exact wk_frz rfl (by simp only [ints_len, nats_len]) rfl (ints_pur _))) rfl) ?_
  refine aw_seq ?_
  refine aw_seq (aw_region (EF := EFp) hG (by rw [hN]; exact tr11_2) ?_)
  simp only [a11_2, go_sem, ↓reduceIte, Nat.reduceEqDiff, reduceCtorEq, Nat.reduceAdd, Nat.reduceLT, Nat.reduceLeDiff, Nat.reduceBNe, Nat.reduceBEq, Int.reduceToNat, trCk, fNam_eq, fTyp_eq, fRDec_eq, fFits_eq]
  refine aw_block ?_
  refine aw_loop (α := Nat × (List Fault)) (fun γ => (γ.1 ≤ l.length) ∧ (γ.2 = perTo l γ.1) ∧ (γ.2.length ≤ 2 * γ.1)) (fun γ => ⟨mkE [(0, V.list (List.map Person.enc l) false), (1, V.int IntKind.i64 gr), (5, .own 999 γ.2.length), (6, .int .i64 γ.1)], mkH [(999, .arr 47 2 (faults γ.2))]⟩) (fun γ => l.length - γ.1) (0, []) ⟨Nat.zero_le _, rfl, Nat.le_refl _⟩ ?_ ?_
  · refine Le.mk _ _ ?_ ?_ rfl <;> simp only [go_sem, ↓reduceIte, Nat.reduceEqDiff, reduceCtorEq, Nat.reduceAdd, Nat.reduceLT, Nat.reduceLeDiff, Nat.reduceBNe, Nat.reduceBEq, Int.reduceToNat] <;> (repeat' apply And.intro) <;> (try first | rfl | exact wk_frzb rfl rfl rfl | exact wk_fn rfl | exact .nilo _ _ _ rfl rfl)
  · rintro ⟨i, g⟩ ⟨hi, hg, hgl⟩ KL0 hKL0
    try dsimp only at *
    refine aw_seq ?_
    refine aw_seq (aw_region (EF := EFp) hG (by rw [hN]; exact tr11_3) ?_)
    simp only [a11_3, go_sem, ↓reduceIte, Nat.reduceEqDiff, reduceCtorEq, Nat.reduceAdd, Nat.reduceLT, Nat.reduceLeDiff, Nat.reduceBNe, Nat.reduceBEq, Int.reduceToNat, trCk, fNam_eq, fTyp_eq, fRDec_eq, fFits_eq]
    refine aw_cond (b := _) rfl (fun hc3 => ?_) (fun hc3 => ?_)
    · simp only [decide_eq_true_eq, decide_eq_false_iff_not, Bool.and_eq_true, Bool.or_eq_true, Bool.not_eq_true', Bool.not_eq_false', Bool.and_eq_false_iff, Bool.or_eq_false_iff, Int.ofNat_lt, Int.ofNat_le, Nat.not_lt, Nat.not_le, Int.not_lt, Int.not_le] at hc3
      refine aw_skip ?_
      try simp only [go_sem, ↓reduceIte, Nat.reduceEqDiff, reduceCtorEq, Nat.reduceAdd, Nat.reduceLT, Nat.reduceLeDiff, Nat.reduceBNe, Nat.reduceBEq, Int.reduceToNat]
      refine aw_seq ?_
      refine aw_block ?_
      have hxo := hok _ (List.getElem_mem hc3)
      generalize hxx : l[i] = x at hxo
      obtain ⟨a, b, c⟩ := x
      have hd := dec_lenN (i := i) (by omega)
      have hi2 := inI_of (i := i) (by omega)
      refine aw_seq (aw_region (EF := EFp) hG (by rw [hN]; exact tr11_5) ?_)
      simp only [a11_5, go_sem, ↓reduceIte, Nat.reduceEqDiff, reduceCtorEq, Nat.reduceAdd, Nat.reduceLT, Nat.reduceLeDiff, Nat.reduceBNe, Nat.reduceBEq, Int.reduceToNat, inI, hi2, trCk, fNam_eq, fTyp_eq, fRDec_eq, fFits_eq]
      (repeat' apply And.intro) <;> (try first | omega | (intros; (repeat' apply And.intro) <;> first | assumption | omega | (simp_all; done)) | (simp only [List.length_append, List.length_cons, List.length_nil]; omega))
      refine aw_cut (α := (List Fault)) (fun g1 => (g1 = g ++ fIf (!namB ⟨a, b, c⟩) 5 (sPer ++ dec i)) ∧ (g1.length ≤ g.length + 1)) (fun g1 => ⟨mkE [(0, V.list (List.map Person.enc l) false), (1, V.int IntKind.i64 gr), (5, .own 999 g1.length), (6, V.int IntKind.i64 ↑i), (7, V.str (112 :: 101 :: 114 :: 115 :: 111 :: 110 :: 32 :: dec ↑i))], mkH [(999, .arr 47 2 (faults g1))]⟩) ?_ ?_
      · intro KC6 hKC6
        refine aw_seq (aw_region (EF := EFp) hG (by rw [hN]; exact tr11_6) ?_)
        simp only [a11_6, go_sem, ↓reduceIte, Nat.reduceEqDiff, reduceCtorEq, Nat.reduceAdd, Nat.reduceLT, Nat.reduceLeDiff, Nat.reduceBNe, Nat.reduceBEq, Int.reduceToNat, getD_mapd _ _ _ _ hc3, hc3, hxx, Person.enc, hxo, trCk, fNam_eq, fTyp_eq, fRDec_eq, fFits_eq]
        (repeat' apply And.intro) <;> (try first | omega | (intros; (repeat' apply And.intro) <;> first | assumption | omega | (simp_all; done)))
        refine aw_cond (b := _) rfl (fun hb6 => ?_) (fun hb6 => ?_)
        · skip
          refine aw_region (EF := EFp) hG (by rw [hN]; exact tr11_7) ?_
          simp only [a11_7, go_sem, ↓reduceIte, Nat.reduceEqDiff, reduceCtorEq, Nat.reduceAdd, Nat.reduceLT, Nat.reduceLeDiff, Nat.reduceBNe, Nat.reduceBEq, Int.reduceToNat, trCk, fNam_eq, fTyp_eq, fRDec_eq, fFits_eq]
          (repeat' apply And.intro) <;> (try first | omega | (intros; (repeat' apply And.intro) <;> first | assumption | omega | (simp_all; done)))
          refine hKC6 (g ++ [⟨5, sPer ++ dec i⟩]) _ ?_ ?_
          · (try dsimp only); exact ⟨by rw [fIf_t (show (!namB ⟨a, b, c⟩) = true from hb6)], by simp⟩
          · refine Le.mk _ _ ?_ ?_ rfl <;> simp only [go_sem, ↓reduceIte, Nat.reduceEqDiff, reduceCtorEq, Nat.reduceAdd, Nat.reduceLT, Nat.reduceLeDiff, Nat.reduceBNe, Nat.reduceBEq, Int.reduceToNat, List.length_append, List.length_cons, List.length_nil] <;> (repeat' apply And.intro) <;> (try first | rfl | exact wk_frzb rfl rfl rfl | exact wk_fn rfl | exact .nilo _ _ _ rfl rfl)
        · skip
          refine aw_skip ?_
          try simp only [go_sem, ↓reduceIte, Nat.reduceEqDiff, reduceCtorEq, Nat.reduceAdd, Nat.reduceLT, Nat.reduceLeDiff, Nat.reduceBNe, Nat.reduceBEq, Int.reduceToNat]
          refine hKC6 (g) _ ?_ ?_
          · (try dsimp only); exact ⟨by rw [fIf_f (show (!namB ⟨a, b, c⟩) = false from hb6), List.append_nil], by omega⟩
          · refine Le.mk _ _ ?_ ?_ rfl <;> simp only [go_sem, ↓reduceIte, Nat.reduceEqDiff, reduceCtorEq, Nat.reduceAdd, Nat.reduceLT, Nat.reduceLeDiff, Nat.reduceBNe, Nat.reduceBEq, Int.reduceToNat] <;> (repeat' apply And.intro) <;> (try first | rfl | exact wk_frzb rfl rfl rfl | exact wk_fn rfl | exact .nilo _ _ _ rfl rfl)
      · rintro g1 ⟨hg1, lg1⟩
        refine aw_seq (aw_region (EF := EFp) hG (by rw [hN]; exact tr11_8) ?_)
        simp only [a11_8, go_sem, ↓reduceIte, Nat.reduceEqDiff, reduceCtorEq, Nat.reduceAdd, Nat.reduceLT, Nat.reduceLeDiff, Nat.reduceBNe, Nat.reduceBEq, Int.reduceToNat, getD_mapd _ _ _ _ hc3, hc3, hxx, Person.enc, hxo, trCk, fNam_eq, fTyp_eq, fRDec_eq, fFits_eq]
        (repeat' apply And.intro) <;> (try first | omega | (intros; (repeat' apply And.intro) <;> first | assumption | omega | (simp_all; done)))
        refine aw_cond (b := _) rfl (fun hb8 => ?_) (fun hb8 => ?_)
        · skip
          refine aw_region (EF := EFp) hG (by rw [hN]; exact tr11_9) ?_
          simp only [a11_9, go_sem, ↓reduceIte, Nat.reduceEqDiff, reduceCtorEq, Nat.reduceAdd, Nat.reduceLT, Nat.reduceLeDiff, Nat.reduceBNe, Nat.reduceBEq, Int.reduceToNat, trCk, fNam_eq, fTyp_eq, fRDec_eq, fFits_eq]
          (repeat' apply And.intro) <;> (try first | omega | (intros; (repeat' apply And.intro) <;> first | assumption | omega | (simp_all; done)))
          refine aw_region (EF := EFp) hG (by rw [hN]; exact tr11_4) ?_
          simp only [a11_4, go_sem, ↓reduceIte, Nat.reduceEqDiff, reduceCtorEq, Nat.reduceAdd, Nat.reduceLT, Nat.reduceLeDiff, Nat.reduceBNe, Nat.reduceBEq, Int.reduceToNat, inI, trCk, fNam_eq, fTyp_eq, fRDec_eq, fFits_eq]
          (repeat' apply And.intro) <;> (try first | omega | (intros; (repeat' apply And.intro) <;> first | assumption | omega | (simp_all; done)))
          refine hKL0 (i + 1, g1 ++ [⟨8, sPer ++ dec i⟩]) _ ?_ ?_ ?_
          · (try dsimp only); refine ⟨hc3, ?_, by simp only [List.length_append, List.length_cons, List.length_nil]; omega⟩; rw [perTo, getD_lt _ _ _ hc3, hxx, perOne, fIf_t (b := !typB ⟨a, b, c⟩) hb8, hg1, hg]; simp only [List.append_assoc]
          · (try dsimp only); omega
          · refine Le.mk _ _ ?_ ?_ rfl <;> simp only [go_sem, ↓reduceIte, Nat.reduceEqDiff, reduceCtorEq, Nat.reduceAdd, Nat.reduceLT, Nat.reduceLeDiff, Nat.reduceBNe, Nat.reduceBEq, Int.reduceToNat, List.length_append, List.length_cons, List.length_nil] <;> (repeat' apply And.intro) <;> (try first | rfl | exact wk_frzb rfl rfl rfl | exact wk_fn rfl | exact .nilo _ _ _ rfl rfl)
        · skip
          refine aw_skip ?_
          try simp only [go_sem, ↓reduceIte, Nat.reduceEqDiff, reduceCtorEq, Nat.reduceAdd, Nat.reduceLT, Nat.reduceLeDiff, Nat.reduceBNe, Nat.reduceBEq, Int.reduceToNat]
          refine aw_region (EF := EFp) hG (by rw [hN]; exact tr11_4) ?_
          simp only [a11_4, go_sem, ↓reduceIte, Nat.reduceEqDiff, reduceCtorEq, Nat.reduceAdd, Nat.reduceLT, Nat.reduceLeDiff, Nat.reduceBNe, Nat.reduceBEq, Int.reduceToNat, inI, trCk, fNam_eq, fTyp_eq, fRDec_eq, fFits_eq]
          (repeat' apply And.intro) <;> (try first | omega | (intros; (repeat' apply And.intro) <;> first | assumption | omega | (simp_all; done)))
          refine hKL0 (i + 1, g1) _ ?_ ?_ ?_
          · (try dsimp only); refine ⟨hc3, ?_, by omega⟩; rw [perTo, getD_lt _ _ _ hc3, hxx, perOne, fIf_f (b := !typB ⟨a, b, c⟩) hb8, hg1, hg]; simp only [List.append_assoc, List.append_nil]
          · (try dsimp only); omega
          · refine Le.mk _ _ ?_ ?_ rfl <;> simp only [go_sem, ↓reduceIte, Nat.reduceEqDiff, reduceCtorEq, Nat.reduceAdd, Nat.reduceLT, Nat.reduceLeDiff, Nat.reduceBNe, Nat.reduceBEq, Int.reduceToNat] <;> (repeat' apply And.intro) <;> (try first | rfl | exact wk_frzb rfl rfl rfl | exact wk_fn rfl | exact .nilo _ _ _ rfl rfl)
    · simp only [decide_eq_true_eq, decide_eq_false_iff_not, Bool.and_eq_true, Bool.or_eq_true, Bool.not_eq_true', Bool.not_eq_false', Bool.and_eq_false_iff, Bool.or_eq_false_iff, Int.ofNat_lt, Int.ofNat_le, Nat.not_lt, Nat.not_le, Int.not_lt, Int.not_le] at hc3
      refine aw_exit ?_
      simp only [go_sem, ↓reduceIte, Nat.reduceEqDiff, reduceCtorEq, Nat.reduceAdd, Nat.reduceLT, Nat.reduceLeDiff, Nat.reduceBNe, Nat.reduceBEq, Int.reduceToNat]
      refine aw_cut (α := (List Fault) × Int) (fun γ => (γ.1 = g ++ fIf (wrongG gr) 2 sParty) ∧ (γ.2 = goodG gr) ∧ (γ.1.length ≤ 4000) ∧ (perTo l l.length = g)) (fun γ => ⟨mkE [(0, V.list (List.map Person.enc l) false), (1, .int .i64 γ.2), (5, .own 999 γ.1.length)], mkH [(999, .arr 47 2 (faults γ.1))]⟩) ?_ ?_
      · intro KC10 hKC10
        have hgg : perTo l l.length = g := by rw [hg, Nat.le_antisymm hi hc3]
        refine aw_seq (aw_region (EF := EFp) hG (by rw [hN]; exact tr11_10) ?_)
        simp only [a11_10, go_sem, ↓reduceIte, Nat.reduceEqDiff, reduceCtorEq, Nat.reduceAdd, Nat.reduceLT, Nat.reduceLeDiff, Nat.reduceBNe, Nat.reduceBEq, Int.reduceToNat, trCk, fNam_eq, fTyp_eq, fRDec_eq, fFits_eq]
        (repeat' apply And.intro) <;> (try first | omega | (intros; (repeat' apply And.intro) <;> first | assumption | omega | (simp_all; done)))
        refine aw_cond (b := _) rfl (fun hb10 => ?_) (fun hb10 => ?_)
        · skip
          refine aw_seq (aw_region (EF := EFp) hG (by rw [hN]; exact tr11_11) ?_)
          simp only [a11_11, go_sem, ↓reduceIte, Nat.reduceEqDiff, reduceCtorEq, Nat.reduceAdd, Nat.reduceLT, Nat.reduceLeDiff, Nat.reduceBNe, Nat.reduceBEq, Int.reduceToNat, trCk, fNam_eq, fTyp_eq, fRDec_eq, fFits_eq]
          (repeat' apply And.intro) <;> (try first | omega | (intros; (repeat' apply And.intro) <;> first | assumption | omega | (simp_all; done)))
          refine aw_region (EF := EFp) hG (by rw [hN]; exact tr11_12) ?_
          simp only [a11_12, go_sem, ↓reduceIte, Nat.reduceEqDiff, reduceCtorEq, Nat.reduceAdd, Nat.reduceLT, Nat.reduceLeDiff, Nat.reduceBNe, Nat.reduceBEq, Int.reduceToNat, trCk, fNam_eq, fTyp_eq, fRDec_eq, fFits_eq]
          refine hKC10 (g ++ [⟨2, sParty⟩], 0) _ ?_ ?_
          · (try dsimp only); exact ⟨by rw [fIf_t (show wrongG gr = true from hb10)], by unfold goodG; rw [if_pos (show wrongG gr = true from hb10)], by rw [List.length_append]; simp; omega, hgg⟩
          · refine Le.mk _ _ ?_ ?_ rfl <;> simp only [go_sem, ↓reduceIte, Nat.reduceEqDiff, reduceCtorEq, Nat.reduceAdd, Nat.reduceLT, Nat.reduceLeDiff, Nat.reduceBNe, Nat.reduceBEq, Int.reduceToNat, List.length_append, List.length_cons, List.length_nil] <;> (repeat' apply And.intro) <;> (try first | rfl | exact wk_frzb rfl rfl rfl | exact wk_fn rfl | exact .nilo _ _ _ rfl rfl)
        · skip
          refine aw_skip ?_
          try simp only [go_sem, ↓reduceIte, Nat.reduceEqDiff, reduceCtorEq, Nat.reduceAdd, Nat.reduceLT, Nat.reduceLeDiff, Nat.reduceBNe, Nat.reduceBEq, Int.reduceToNat]
          refine hKC10 (g, gr) _ ?_ ?_
          · (try dsimp only); exact ⟨by rw [fIf_f (show wrongG gr = false from hb10), List.append_nil], by unfold goodG; rw [if_neg (by rw [show wrongG gr = false from hb10]; decide)], by omega, hgg⟩
          · refine Le.mk _ _ ?_ ?_ rfl <;> simp only [go_sem, ↓reduceIte, Nat.reduceEqDiff, reduceCtorEq, Nat.reduceAdd, Nat.reduceLT, Nat.reduceLeDiff, Nat.reduceBNe, Nat.reduceBEq, Int.reduceToNat] <;> (repeat' apply And.intro) <;> (try first | rfl | exact wk_frzb rfl rfl rfl | exact wk_fn rfl | exact .nilo _ _ _ rfl rfl)
      · rintro ⟨g2, y⟩ ⟨hg2, hy, hl2, hgg⟩
        try dsimp only at *
        have hyb := good_bd gr
        rw [← hy] at hyb
        refine aw_seq (aw_region (EF := EFp) hG (by rw [hN]; exact tr11_13) ?_)
        simp only [a11_13, go_sem, ↓reduceIte, Nat.reduceEqDiff, reduceCtorEq, Nat.reduceAdd, Nat.reduceLT, Nat.reduceLeDiff, Nat.reduceBNe, Nat.reduceBEq, Int.reduceToNat, trCk, fNam_eq, fTyp_eq, fRDec_eq, fFits_eq]
        refine aw_cut (α := (List Fault)) (fun g3 => (g3 = g2 ++ fIf (sizeBad l.length y) 4 (sParty)) ∧ (g3.length ≤ g2.length + 1)) (fun g3 => ⟨mkE [(0, V.list (List.map Person.enc l) false), (5, .own 999 g3.length)], mkH [(999, .arr 47 2 (faults g3))]⟩) ?_ ?_
        · intro KC14 hKC14
          refine aw_seq (aw_region (EF := EFp) hG (by rw [hN]; exact tr11_14) ?_)
          simp only [a11_14, go_sem, ↓reduceIte, Nat.reduceEqDiff, reduceCtorEq, Nat.reduceAdd, Nat.reduceLT, Nat.reduceLeDiff, Nat.reduceBNe, Nat.reduceBEq, Int.reduceToNat, inI, trCk, fNam_eq, fTyp_eq, fRDec_eq, fFits_eq]
          (repeat' apply And.intro) <;> (try first | omega | (intros; (repeat' apply And.intro) <;> first | assumption | omega | (simp_all; done)) | (intro h1; exact ⟨h1, fun h2 => by rw [h1, h2]; rfl⟩))
          refine aw_cond (b := _) rfl (fun hb14 => ?_) (fun hb14 => ?_)
          · skip
            refine aw_region (EF := EFp) hG (by rw [hN]; exact tr11_15) ?_
            simp only [a11_15, go_sem, ↓reduceIte, Nat.reduceEqDiff, reduceCtorEq, Nat.reduceAdd, Nat.reduceLT, Nat.reduceLeDiff, Nat.reduceBNe, Nat.reduceBEq, Int.reduceToNat, trCk, fNam_eq, fTyp_eq, fRDec_eq, fFits_eq]
            (repeat' apply And.intro) <;> (try first | omega | (intros; (repeat' apply And.intro) <;> first | assumption | omega | (simp_all; done)))
            refine hKC14 (g2 ++ [⟨4, sParty⟩]) _ ?_ ?_
            · (try dsimp only); exact ⟨by rw [fIf_t (show (sizeBad l.length y) = true from hb14)], by simp⟩
            · refine Le.mk _ _ ?_ ?_ rfl <;> simp only [go_sem, ↓reduceIte, Nat.reduceEqDiff, reduceCtorEq, Nat.reduceAdd, Nat.reduceLT, Nat.reduceLeDiff, Nat.reduceBNe, Nat.reduceBEq, Int.reduceToNat, List.length_append, List.length_cons, List.length_nil] <;> (repeat' apply And.intro) <;> (try first | rfl | exact wk_frzb rfl rfl rfl | exact wk_fn rfl | exact .nilo _ _ _ rfl rfl)
          · skip
            refine aw_skip ?_
            try simp only [go_sem, ↓reduceIte, Nat.reduceEqDiff, reduceCtorEq, Nat.reduceAdd, Nat.reduceLT, Nat.reduceLeDiff, Nat.reduceBNe, Nat.reduceBEq, Int.reduceToNat]
            refine hKC14 (g2) _ ?_ ?_
            · (try dsimp only); exact ⟨by rw [fIf_f (show (sizeBad l.length y) = false from hb14), List.append_nil], by omega⟩
            · refine Le.mk _ _ ?_ ?_ rfl <;> simp only [go_sem, ↓reduceIte, Nat.reduceEqDiff, reduceCtorEq, Nat.reduceAdd, Nat.reduceLT, Nat.reduceLeDiff, Nat.reduceBNe, Nat.reduceBEq, Int.reduceToNat] <;> (repeat' apply And.intro) <;> (try first | rfl | exact wk_frzb rfl rfl rfl | exact wk_fn rfl | exact .nilo _ _ _ rfl rfl)
        · rintro g3 ⟨hg3, lg3⟩
          refine aw_cut (α := (List Fault)) (fun g4 => (g4 = g3 ++ fIf (aloneB l) 25 (sParty)) ∧ (g4.length ≤ g3.length + 1)) (fun g4 => ⟨mkE [(5, .own 999 g4.length)], mkH [(999, .arr 47 2 (faults g4))]⟩) ?_ ?_
          · intro KC16 hKC16
            refine aw_seq (aw_region (EF := EFp) hG (by rw [hN]; exact tr11_16) ?_)
            simp only [a11_16, go_sem, ↓reduceIte, Nat.reduceEqDiff, reduceCtorEq, Nat.reduceAdd, Nat.reduceLT, Nat.reduceLeDiff, Nat.reduceBNe, Nat.reduceBEq, Int.reduceToNat, hlb, Bool.not_not, trCk, fNam_eq, fTyp_eq, fRDec_eq, fFits_eq]
            (repeat' apply And.intro) <;> (try first | omega | (intros; (repeat' apply And.intro) <;> first | assumption | omega | (simp_all; done)))
            refine aw_cond (b := _) rfl (fun hb16 => ?_) (fun hb16 => ?_)
            · skip
              refine aw_region (EF := EFp) hG (by rw [hN]; exact tr11_17) ?_
              simp only [a11_17, go_sem, ↓reduceIte, Nat.reduceEqDiff, reduceCtorEq, Nat.reduceAdd, Nat.reduceLT, Nat.reduceLeDiff, Nat.reduceBNe, Nat.reduceBEq, Int.reduceToNat, trCk, fNam_eq, fTyp_eq, fRDec_eq, fFits_eq]
              (repeat' apply And.intro) <;> (try first | omega | (intros; (repeat' apply And.intro) <;> first | assumption | omega | (simp_all; done)))
              refine hKC16 (g3 ++ [⟨25, sParty⟩]) _ ?_ ?_
              · (try dsimp only); exact ⟨by rw [fIf_t (show (aloneB l) = true from hb16)], by simp⟩
              · refine Le.mk _ _ ?_ ?_ rfl <;> simp only [go_sem, ↓reduceIte, Nat.reduceEqDiff, reduceCtorEq, Nat.reduceAdd, Nat.reduceLT, Nat.reduceLeDiff, Nat.reduceBNe, Nat.reduceBEq, Int.reduceToNat, List.length_append, List.length_cons, List.length_nil] <;> (repeat' apply And.intro) <;> (try first | rfl | exact wk_frzb rfl rfl rfl | exact wk_fn rfl | exact .nilo _ _ _ rfl rfl)
            · skip
              refine aw_skip ?_
              try simp only [go_sem, ↓reduceIte, Nat.reduceEqDiff, reduceCtorEq, Nat.reduceAdd, Nat.reduceLT, Nat.reduceLeDiff, Nat.reduceBNe, Nat.reduceBEq, Int.reduceToNat]
              refine hKC16 (g3) _ ?_ ?_
              · (try dsimp only); exact ⟨by rw [fIf_f (show (aloneB l) = false from hb16), List.append_nil], by omega⟩
              · refine Le.mk _ _ ?_ ?_ rfl <;> simp only [go_sem, ↓reduceIte, Nat.reduceEqDiff, reduceCtorEq, Nat.reduceAdd, Nat.reduceLT, Nat.reduceLeDiff, Nat.reduceBNe, Nat.reduceBEq, Int.reduceToNat] <;> (repeat' apply And.intro) <;> (try first | rfl | exact wk_frzb rfl rfl rfl | exact wk_fn rfl | exact .nilo _ _ _ rfl rfl)
          · rintro g4 ⟨hg4, lg4⟩
            refine aw_seq (aw_region (EF := EFp) hG (by rw [hN]; exact tr11_18) ?_)
            simp only [a11_18, go_sem, ↓reduceIte, Nat.reduceEqDiff, reduceCtorEq, Nat.reduceAdd, Nat.reduceLT, Nat.reduceLeDiff, Nat.reduceBNe, Nat.reduceBEq, Int.reduceToNat, trCk, fNam_eq, fTyp_eq, fRDec_eq, fFits_eq]
            refine AW.le (s' := ⟨mkE [(4, .list (faults g4) false)], mkH []⟩) (Le.mk _ _ ?_ ?_ rfl) (aw_ret (hQ _ _ (.inl rfl) ?_ ?_ ?_)) <;> simp only [outφ, outV, AR.res, go_sem, ↓reduceIte, Nat.reduceEqDiff, reduceCtorEq, Nat.reduceAdd, Nat.reduceLT, Nat.reduceLeDiff, Nat.reduceBNe, Nat.reduceBEq, Int.reduceToNat, fChk]
            · exact wk_frz rfl (by rw [faults_len]) rfl (faults_pur _)
            · rw [hg4, hg3, hg2, hy, ← hgg]; rfl
end Go.Proofs.YtbakkdnhbeldcaaDoor
