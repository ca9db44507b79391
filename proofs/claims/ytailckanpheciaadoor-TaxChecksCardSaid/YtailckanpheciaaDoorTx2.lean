/- Check of taxes, both. -/
import Derived.Test.YtailckanpheciaaDoorTx1
namespace Go.Proofs.YtailckanpheciaaDoor
open Go Go.RowKit
set_option linter.unusedSimpArgs false
set_option linter.unusedVariables false
set_option linter.deprecated false
theorem fDec_eq (n) : gDec [.int .i64 n] = (inI n, .str (dec n)) := rfl
def sTax : List UInt8 := [116, 97, 120, 32]
def bxT (nb na ni : Nat) (g : List Fault) (i : Int) : List (Nat × Ob) := [(nb, .box 25 [.own na g.length]), (na, .arr 52 2 (faults g)), (ni, .box 3 [.int .i64 i])]
noncomputable def tAdd : Tab
  | 22 => gDec
  | _ => gNo
theorem tAdd_ok : ∀ f, PureC Tryd.prog UT f (tAdd f) := fun f => by
  unfold tAdd
  split
  · exact decimal_p
  · exact PureC.no
theorem tadd_e (g : List Fault) (b : Bool) (e : Int) (i : Nat) (hg : g.length ≤ 1000000000) (hi : i ≤ 1000000) : Eff Tryd.prog UT 21 [.bool b, .int .i64 e, .ptr 1000 0, .ptr 1002 0] (bxT 1000 1001 1002 g i) (.tup []) (bxT 1000 1001 1002 (g ++ fIf b e (sTax ++ dec i)) i) := by
  have hG := tAdd_ok
  have hd := dec_lenN (i := i) (by omega)
  have hi2 := inI_of (i := i) (by omega)
  generalize hR : g ++ fIf b e (sTax ++ dec i) = R
  refine Eff.of_aw Tryd.func21 body21 nm21 res21 (by rw [nt21]; simp) fun C hN Q hQ => ?_
  rw [nt21] at hN
  unfold c21
  refine aw_seq (aw_region (EF := EF0) hG (by rw [hN]; exact tr21_0) ?_)
  simp only [a21_0, go_sem, ↓reduceIte, Nat.reduceEqDiff, reduceCtorEq, Nat.reduceAdd, Nat.reduceLT, Nat.reduceLeDiff, Nat.reduceBNe, Nat.reduceBEq, Int.reduceToNat, bxT, tAdd, fDec_eq, hi2]
  refine aw_cond (b := _) rfl (fun hb => ?_) (fun hb => ?_)
  · skip
    refine aw_regionD (EF := EF0) hG mixed (by rw [hN]; exact tr21_1) ok21_1 ?_
    simp only [a21_1, d21_1, go_sem, ↓reduceIte, Nat.reduceEqDiff, reduceCtorEq, Nat.reduceAdd, Nat.reduceLT, Nat.reduceLeDiff, Nat.reduceBNe, Nat.reduceBEq, Int.reduceToNat, inI, bxT, tAdd, fDec_eq, hi2]
    (repeat' apply And.intro) <;> (try first | omega | (intros; (repeat' apply And.intro) <;> first | assumption | omega | (simp_all; done)) | (simp only [List.length_append, List.length_cons, List.length_nil]; omega))
    have hfin : R = g ++ [⟨e, sTax ++ dec i⟩] := by rw [← hR, fIf_t hb]
    subst hfin
    show Q _ _
    refine hQ _ _ ⟨mkE [], mkH (bxT 1000 1001 1002 (g ++ [⟨e, sTax ++ dec i⟩]) i)⟩ (.inr rfl) (Le.mk _ _ ?_ ?_ rfl) rfl ?_ ?_ <;> simp only [outφ, outV, AR.res, go_sem, ↓reduceIte, Nat.reduceEqDiff, reduceCtorEq, Nat.reduceAdd, Nat.reduceLT, Nat.reduceLeDiff, Nat.reduceBNe, Nat.reduceBEq, Int.reduceToNat, bxT, List.length_append, List.length_cons, List.length_nil]
    · rfl
  · skip
    refine aw_skip ?_
    try simp only [go_sem, ↓reduceIte, Nat.reduceEqDiff, reduceCtorEq, Nat.reduceAdd, Nat.reduceLT, Nat.reduceLeDiff, Nat.reduceBNe, Nat.reduceBEq, Int.reduceToNat]
    have hfin : R = g := by rw [← hR, fIf_f hb, List.append_nil]
    subst hfin
    show Q _ _
    refine hQ _ _ ⟨mkE [], mkH (bxT 1000 1001 1002 R i)⟩ (.inr rfl) (Le.mk _ _ ?_ ?_ rfl) rfl ?_ ?_ <;> simp only [outφ, outV, AR.res, go_sem, ↓reduceIte, Nat.reduceEqDiff, reduceCtorEq, Nat.reduceAdd, Nat.reduceLT, Nat.reduceLeDiff, Nat.reduceBNe, Nat.reduceBEq, Int.reduceToNat, bxT]
theorem tx_use {d : Option Nat} {s : St} {K : St → Prop} {nb na ni q : Nat} {g g' : List Fault} {b : Bool} {e i : Int} (he : Eff Tryd.prog UT 21 [.bool b, .int .i64 e, .ptr 1000 0, .ptr 1002 0] (bxT 1000 1001 1002 g i) (.tup []) (bxT 1000 1001 1002 g' i))
    (hb : s.h nb = some (.box 25 [.own na q])) (hq : q = g.length) (ha : s.h na = some (.arr 52 2 (faults g))) (hc : s.h ni = some (.box 3 [.int .i64 i])) (h1 : nb ≠ na) (h2 : nb ≠ ni) (h3 : na ≠ ni)
    (hK : K ⟨setE d (.tup []) s.e, hov (bxT nb na ni g' i) s.h⟩) : EStep Tryd.prog UT d 21 [.bool b, .int .i64 e, .ptr nb 0, .ptr ni 0] s K := by
  subst hq
  have h1' := Ne.symm h1
  have h2' := Ne.symm h2
  have h3' := Ne.symm h3
  refine ⟨[(1000, nb), (1001, na), (1002, ni)], [], _, _, _, _, he, ⟨by simp [okL, h1, h2, h3], rfl, rfl, by simp, by simp, ?_, by simp [V.rens, V.ren, rni, h1', h2', h3'], by simp [V.nins, V.nin], by simp [V.nin, V.nins], ?_, ?_⟩, ?_⟩
  · intro p hp
    simp only [List.mem_cons, List.not_mem_nil, or_false] at hp
    rcases hp with rfl | rfl | rfl
    · exact ⟨_, hb, by simp [bxT, mkH, Ob.ren, V.rens, V.ren, rni, h1', h2', h3'], by simp [Ob.nin, V.nins, V.nin]⟩
    · exact ⟨_, ha, by simp [bxT, mkH, Ob.ren], by simp only [Ob.nin, faults_purT]⟩
    · exact ⟨_, hc, by simp [bxT, mkH, Ob.ren, V.rens, V.ren], by simp [Ob.nin, V.nins, V.nin]⟩
  · intro q hq
    simp only [bxT, List.mem_cons, List.not_mem_nil, or_false] at hq
    rcases hq with rfl | rfl | rfl
    · simp [Ob.nin, V.nins, V.nin, bxT]
    · simp only [Ob.nin, faults_purT]
    · simp [Ob.nin, V.nins, V.nin, bxT]
  · intro p hp o o' h1 h2
    simp only [List.mem_cons, List.not_mem_nil, or_false] at hp
    rcases hp with rfl | rfl | rfl <;> simp [bxT, mkH] at h1 h2 <;> subst h1 h2 <;> simp [Ob.kind]
  · have e1 : (V.tup []).ren (rn ([(1000, nb), (1001, na), (1002, ni)] ++ [])) = .tup [] := by simp [V.ren, V.rens]
    have e2 : (bxT 1000 1001 1002 g' i).map (fun q : Nat × Ob => (rn ([(1000, nb), (1001, na), (1002, ni)] ++ []) q.1, q.2.ren (rn ([(1000, nb), (1001, na), (1002, ni)] ++ [])))) = bxT nb na ni g' i := by
      simp [bxT, rn, Ob.ren, V.rens, V.ren]
    rw [e1, e2]
    exact hK
def badK (x : Tax) : Bool := decide (x.kind < 1) || decide (4 < x.kind)
def badA (x : Tax) : Bool := decide (x.amount < 0) || decide (mostOf x.kind < x.amount) || decide (x.scope < 0) || decide (2 < x.scope) || decide (x.transit < 0) || decide (100000 < x.transit)
def taxOne (i : Nat) (x : Tax) : List Fault := fIf (!namedB x) 5 (sTax ++ dec i) ++ fIf (badK x) 8 (sTax ++ dec i) ++ fIf (badA x) 2 (sTax ++ dec i)
def taxTo (l : List Tax) : Nat → List Fault
  | 0 => []
  | i + 1 => taxTo l i ++ taxOne i (l.getD i Tax.zero)
theorem taxOne_len (i x) : (taxOne i x).length ≤ 3 := by
  have h1 := fIf_len (!namedB x) 5 (sTax ++ dec i)
  have h2 := fIf_len (badK x) 8 (sTax ++ dec i)
  have h3 := fIf_len (badA x) 2 (sTax ++ dec i)
  unfold taxOne; simp only [List.length_append]; omega
theorem taxTo_len (l) : ∀ i, (taxTo l i).length ≤ 3 * i
  | 0 => Nat.le_refl _
  | i + 1 => by rw [taxTo, List.length_append]; have := taxTo_len l i; have := taxOne_len i (l.getD i Tax.zero); omega
def aTaxes (x : List Tax) : List V := [.list (x.map Tax.enc) false]
theorem aTaxes_inj (a b : List Tax) (h : aTaxes a = aTaxes b) : a = b := by
  simp only [aTaxes, List.cons.injEq, V.str.injEq, V.int.injEq, V.bool.injEq, V.agg.injEq, V.list.injEq, and_true, true_and] at h
  have h0 := h
  replace h0 := map_inj' Tax.inj h0
  subst h0
  rfl
def SmT (l : List Tax) : Prop := l.length ≤ 1000 ∧ ∀ x ∈ l, x.ok
def fTaxes (l : List Tax) : Prop × V := (SmT l, .list (faults (taxTo l l.length)) false)
theorem named_or (x : Tax) : (!codeB x.code 2 2 || !capsB 2 x.country || x.free.any free3) = !namedB x := by
  unfold namedB; cases codeB x.code 2 2 <;> cases capsB 2 x.country <;> cases x.free.any free3 <;> rfl
def EFt : Nat → Bool := fun f => f == 21
noncomputable def tCkT : Tab
  | 23 => gCode
  | 24 => (gOf aStr (fCaps 2))
  | 25 => (gOf aCF fCF)
  | _ => gNo
theorem tCkT_ok : ∀ f, PureC Tryd.prog UT f (tCkT f) := fun f => by
  unfold tCkT
  split
  · exact code_p
  · exact tcountry_p
  · exact containsF_p
  · exact PureC.no
set_option maxHeartbeats 4000000 in
theorem tcheck_p : PureC Tryd.prog UT 10 (gOf aTaxes fTaxes) := by
  have hG := tCkT_ok
  refine PureC.ofArgs aTaxes_inj Tryd.func10 body10 nm10 res10 ?_
  rintro l hv
  refine ⟨by rw [nt10]; simp [aTaxes], fun C hN Q hQ => ?_⟩
  rw [nt10] at hN
  unfold c10
  obtain ⟨hl, hok⟩ : SmT l := hv
  refine aw_seq (aw_region (EF := EFt) hG (by rw [hN]; exact tr10_0) ?_)
  simp only [a10_0, go_sem, ↓reduceIte, Nat.reduceEqDiff, reduceCtorEq, Nat.reduceAdd, Nat.reduceLT, Nat.reduceLeDiff, Nat.reduceBNe, Nat.reduceBEq, Int.reduceToNat, aTaxes, EFt, tCkT, fCode_eq, fCaps_eq, fCF_eq]
  refine aw_seq (aw_region (EF := EFt) hG (by rw [hN]; exact tr10_1) ?_)
  simp only [a10_1, go_sem, ↓reduceIte, Nat.reduceEqDiff, reduceCtorEq, Nat.reduceAdd, Nat.reduceLT, Nat.reduceLeDiff, Nat.reduceBNe, Nat.reduceBEq, Int.reduceToNat, EFt, tCkT, fCode_eq, fCaps_eq, fCF_eq]
  refine AW.le (s' := ⟨mkE [(0, .list (l.map Tax.enc) false), (3, .ptr 3 0)], mkH ([(3, .box 25 [.own 999 0]), (999, .arr 52 2 (faults []))])⟩) (Le.mk _ _ (by (simp only [go_sem, ↓reduceIte, Nat.reduceEqDiff, reduceCtorEq, Nat.reduceAdd, Nat.reduceLT, Nat.reduceLeDiff, Nat.reduceBNe, Nat.reduceBEq, Int.reduceToNat]) <;> (repeat' apply And.intro) <;> (try first | exact wk_frzb rfl rfl rfl | rfl | exact wk_fn rfl | exact .nill _ | exact .nilo _ _ _ rfl rfl | exact wk_frz rfl (by simp only [ints_len, nats_len]) rfl (ints_pur _))) (by (simp only [go_sem, ↓reduceIte, Nat.reduceEqDiff, reduceCtorEq, Nat.reduceAdd, Nat.reduceLT, Nat.reduceLeDiff, Nat.reduceBNe, Nat.reduceBEq, Int.reduceToNat]) <;> (repeat' apply And.intro) <;> (try first | exact wk_frzb rfl rfl rfl | rfl | exact wk_fn rfl | exact .nill _ | exact .nilo _ _ _ rfl rfl | exact wk_frz rfl (by simp only [ints_len, nats_len]) rfl (ints_pur _))) rfl) ?_
  refine aw_seq ?_
  refine aw_seq (aw_region (EF := EFt) hG (by rw [hN]; exact tr10_2) ?_)
  simp only [a10_2, go_sem, ↓reduceIte, Nat.reduceEqDiff, reduceCtorEq, Nat.reduceAdd, Nat.reduceLT, Nat.reduceLeDiff, Nat.reduceBNe, Nat.reduceBEq, Int.reduceToNat, EFt, tCkT, fCode_eq, fCaps_eq, fCF_eq]
  refine aw_block ?_
  refine aw_loop (α := Nat × (List Fault)) (fun γ => (γ.1 ≤ l.length) ∧ (γ.2 = taxTo l γ.1) ∧ (γ.2.length ≤ 3 * γ.1)) (fun γ => ⟨mkE [(3, V.ptr 3 0), (8, V.list (List.map Tax.enc l) false), (9, V.int IntKind.i64 ↑l.length), (10, .int .i64 γ.1)], mkH [(3, .box 25 [.own 999 γ.2.length]), (999, .arr 52 2 (faults γ.2))]⟩) (fun γ => l.length - γ.1) (0, []) ⟨Nat.zero_le _, rfl, Nat.le_refl _⟩ ?_ ?_
  · refine Le.mk _ _ ?_ ?_ rfl <;> simp only [go_sem, ↓reduceIte, Nat.reduceEqDiff, reduceCtorEq, Nat.reduceAdd, Nat.reduceLT, Nat.reduceLeDiff, Nat.reduceBNe, Nat.reduceBEq, Int.reduceToNat] <;> (repeat' apply And.intro) <;> (try first | rfl | exact wk_frzb rfl rfl rfl | exact wk_fn rfl | exact .nilo _ _ _ rfl rfl)
  · rintro ⟨i, g⟩ ⟨hi, hg, hgl⟩ KL0 hKL0
    try dsimp only at *
    refine aw_seq (aw_region (EF := EFt) hG (by rw [hN]; exact tr10_3) ?_)
    simp only [a10_3, go_sem, ↓reduceIte, Nat.reduceEqDiff, reduceCtorEq, Nat.reduceAdd, Nat.reduceLT, Nat.reduceLeDiff, Nat.reduceBNe, Nat.reduceBEq, Int.reduceToNat, EFt, tCkT, fCode_eq, fCaps_eq, fCF_eq]
    refine aw_seq ?_
    refine aw_cond (b := _) rfl (fun hc3 => ?_) (fun hc3 => ?_)
    · simp only [decide_eq_true_eq, decide_eq_false_iff_not, Bool.and_eq_true, Bool.or_eq_true, Bool.not_eq_true', Bool.not_eq_false', Bool.and_eq_false_iff, Bool.or_eq_false_iff, Int.ofNat_lt, Int.ofNat_le, Nat.not_lt, Nat.not_le, Int.not_lt, Int.not_le] at hc3
      refine aw_skip ?_
      try simp only [go_sem, ↓reduceIte, Nat.reduceEqDiff, reduceCtorEq, Nat.reduceAdd, Nat.reduceLT, Nat.reduceLeDiff, Nat.reduceBNe, Nat.reduceBEq, Int.reduceToNat]
      refine aw_seq ?_
      refine aw_block ?_
      obtain ⟨h1, h2, h3, h4, h5, h6, h7, h8⟩ := hok _ (List.getElem_mem hc3)
      generalize hxx : l[i] = x at h1 h2 h3 h4 h5 h6 h7 h8
      obtain ⟨a, b, c, dd, e, f, fr⟩ := x
      dsimp only at h1 h2 h3 h4 h5 h6 h7 h8
      have hLS : LenS fr := ⟨h7, h8⟩
      have hno := named_or ⟨a, b, c, dd, e, f, fr⟩
      dsimp only at hno
      refine aw_seq (aw_region (EF := EFt) hG (by rw [hN]; exact tr10_4) ?_)
      simp only [a10_4, go_sem, ↓reduceIte, Nat.reduceEqDiff, reduceCtorEq, Nat.reduceAdd, Nat.reduceLT, Nat.reduceLeDiff, Nat.reduceBNe, Nat.reduceBEq, Int.reduceToNat, getD_mapd _ _ _ _ hc3, hc3, hxx, Tax.enc, EFt, tCkT, fCode_eq, fCaps_eq, fCF_eq]
      (repeat' apply And.intro) <;> (try first | omega | (intros; (repeat' apply And.intro) <;> first | assumption | omega | (simp_all; done)))
      refine aw_seq (aw_region (EF := EFt) hG (by rw [hN]; exact tr10_5) ?_)
      simp only [a10_5, go_sem, ↓reduceIte, Nat.reduceEqDiff, reduceCtorEq, Nat.reduceAdd, Nat.reduceLT, Nat.reduceLeDiff, Nat.reduceBNe, Nat.reduceBEq, Int.reduceToNat, EFt, tCkT, fCode_eq, fCaps_eq, fCF_eq]
      refine aw_seq (aw_region (EF := EFt) hG (by rw [hN]; exact tr10_6) ?_)
      simp only [a10_6, go_sem, ↓reduceIte, Nat.reduceEqDiff, reduceCtorEq, Nat.reduceAdd, Nat.reduceLT, Nat.reduceLeDiff, Nat.reduceBNe, Nat.reduceBEq, Int.reduceToNat, h1, h3, hLS, hno, EFt, tCkT, fCode_eq, fCaps_eq, fCF_eq]
      refine tx_use (g := g) (tadd_e _ _ _ i ?_ (by omega)) (by rfl) rfl (by rfl) (by rfl) (by decide) (by decide) (by decide) ?_
      · omega
      simp only [go_sem, ↓reduceIte, Nat.reduceEqDiff, reduceCtorEq, Nat.reduceAdd, Nat.reduceLT, Nat.reduceLeDiff, Nat.reduceBNe, Nat.reduceBEq, Int.reduceToNat, bxT]
      have hl1 : (g ++ fIf (!namedB ⟨a, b, c, dd, e, f, fr⟩) 5 (sTax ++ dec i)).length ≤ 4000 := by have := fIf_len (!namedB ⟨a, b, c, dd, e, f, fr⟩) 5 (sTax ++ dec i); rw [List.length_append]; omega
      refine aw_seq (aw_region (EF := EFt) hG (by rw [hN]; exact tr10_7) ?_)
      simp only [a10_7, go_sem, ↓reduceIte, Nat.reduceEqDiff, reduceCtorEq, Nat.reduceAdd, Nat.reduceLT, Nat.reduceLeDiff, Nat.reduceBNe, Nat.reduceBEq, Int.reduceToNat, EFt, tCkT, fCode_eq, fCaps_eq, fCF_eq]
      refine tx_use (g := g ++ fIf (!namedB ⟨a, b, c, dd, e, f, fr⟩) 5 (sTax ++ dec i)) (tadd_e _ _ _ i ?_ (by omega)) (by rfl) rfl (by rfl) (by rfl) (by decide) (by decide) (by decide) ?_
      · omega
      simp only [go_sem, ↓reduceIte, Nat.reduceEqDiff, reduceCtorEq, Nat.reduceAdd, Nat.reduceLT, Nat.reduceLeDiff, Nat.reduceBNe, Nat.reduceBEq, Int.reduceToNat, bxT]
      refine aw_seq (aw_region (EF := EFt) hG (by rw [hN]; exact tr10_8) ?_)
      simp only [a10_8, go_sem, ↓reduceIte, Nat.reduceEqDiff, reduceCtorEq, Nat.reduceAdd, Nat.reduceLT, Nat.reduceLeDiff, Nat.reduceBNe, Nat.reduceBEq, Int.reduceToNat, EFt, tCkT, fCode_eq, fCaps_eq, fCF_eq]
      refine aw_cut (α := Int) (fun m => (m = mostOf b)) (fun m => ⟨mkE [(3, V.ptr 3 0), (5, V.ptr 5 0), (6, V.fn 21 [V.ptr 3 0, V.ptr 4 0]), (7, .int .i64 m), (8, V.list (List.map Tax.enc l) false), (9, V.int IntKind.i64 ↑l.length), (10, V.int IntKind.i64 ↑i)], mkH [(3, Ob.box 25 [V.own 999 (g ++ fIf (!namedB { code := a, kind := b, country := c, amount := dd, scope := e, transit := f, free := fr }) 5 (sTax ++ dec ↑i) ++ fIf (decide (b < 1) || decide (4 < b)) 8 (sTax ++ dec ↑i)).length]), (4, Ob.box 3 [V.int IntKind.i64 ↑i]), (5, Ob.box 34 [V.str a, V.int IntKind.i64 b, V.str c, V.int IntKind.i64 dd, V.int IntKind.i64 e, V.int IntKind.i64 f, V.list (strs fr) false]), (999, Ob.arr 52 2 (faults (g ++ fIf (!namedB { code := a, kind := b, country := c, amount := dd, scope := e, transit := f, free := fr }) 5 (sTax ++ dec ↑i) ++ fIf (decide (b < 1) || decide (4 < b)) 8 (sTax ++ dec ↑i))))]⟩) ?_ ?_
      · intro KC9 hKC9
        refine aw_seq (aw_region (EF := EFt) hG (by rw [hN]; exact tr10_9) ?_)
        simp only [a10_9, go_sem, ↓reduceIte, Nat.reduceEqDiff, reduceCtorEq, Nat.reduceAdd, Nat.reduceLT, Nat.reduceLeDiff, Nat.reduceBNe, Nat.reduceBEq, Int.reduceToNat, EFt, tCkT, fCode_eq, fCaps_eq, fCF_eq]
        refine aw_cond (b := _) rfl (fun hb9 => ?_) (fun hb9 => ?_)
        · skip
          refine aw_region (EF := EFt) hG (by rw [hN]; exact tr10_10) ?_
          simp only [a10_10, go_sem, ↓reduceIte, Nat.reduceEqDiff, reduceCtorEq, Nat.reduceAdd, Nat.reduceLT, Nat.reduceLeDiff, Nat.reduceBNe, Nat.reduceBEq, Int.reduceToNat, EFt, tCkT, fCode_eq, fCaps_eq, fCF_eq]
          refine hKC9 (100000) _ ?_ ?_
          · (try dsimp only); unfold mostOf; rw [if_pos (of_decide_eq_true hb9)]
          · refine Le.mk _ _ ?_ ?_ rfl <;> simp only [go_sem, ↓reduceIte, Nat.reduceEqDiff, reduceCtorEq, Nat.reduceAdd, Nat.reduceLT, Nat.reduceLeDiff, Nat.reduceBNe, Nat.reduceBEq, Int.reduceToNat] <;> (repeat' apply And.intro) <;> (try first | rfl | exact wk_frzb rfl rfl rfl | exact wk_fn rfl | exact .nilo _ _ _ rfl rfl)
        · skip
          refine aw_skip ?_
          try simp only [go_sem, ↓reduceIte, Nat.reduceEqDiff, reduceCtorEq, Nat.reduceAdd, Nat.reduceLT, Nat.reduceLeDiff, Nat.reduceBNe, Nat.reduceBEq, Int.reduceToNat]
          refine hKC9 (1099511627776) _ ?_ ?_
          · (try dsimp only); unfold mostOf; rw [if_neg (of_decide_eq_false hb9)]
          · refine Le.mk _ _ ?_ ?_ rfl <;> simp only [go_sem, ↓reduceIte, Nat.reduceEqDiff, reduceCtorEq, Nat.reduceAdd, Nat.reduceLT, Nat.reduceLeDiff, Nat.reduceBNe, Nat.reduceBEq, Int.reduceToNat] <;> (repeat' apply And.intro) <;> (try first | rfl | exact wk_frzb rfl rfl rfl | exact wk_fn rfl | exact .nilo _ _ _ rfl rfl)
      · rintro m hm
        subst hm
        have hl2 : (g ++ fIf (!namedB ⟨a, b, c, dd, e, f, fr⟩) 5 (sTax ++ dec i) ++ fIf (decide (b < 1) || decide (4 < b)) 8 (sTax ++ dec i)).length ≤ 5000 := by have := fIf_len (decide (b < 1) || decide (4 < b)) 8 (sTax ++ dec i); rw [List.length_append]; omega
        refine aw_region (EF := EFt) hG (by rw [hN]; exact tr10_11) ?_
        simp only [a10_11, go_sem, ↓reduceIte, Nat.reduceEqDiff, reduceCtorEq, Nat.reduceAdd, Nat.reduceLT, Nat.reduceLeDiff, Nat.reduceBNe, Nat.reduceBEq, Int.reduceToNat, EFt, tCkT, fCode_eq, fCaps_eq, fCF_eq]
        refine tx_use (g := g ++ fIf (!namedB ⟨a, b, c, dd, e, f, fr⟩) 5 (sTax ++ dec i) ++ fIf (decide (b < 1) || decide (4 < b)) 8 (sTax ++ dec i)) (tadd_e _ _ _ i ?_ (by omega)) (by rfl) rfl (by rfl) (by rfl) (by decide) (by decide) (by decide) ?_
        · omega
        simp only [go_sem, ↓reduceIte, Nat.reduceEqDiff, reduceCtorEq, Nat.reduceAdd, Nat.reduceLT, Nat.reduceLeDiff, Nat.reduceBNe, Nat.reduceBEq, Int.reduceToNat, bxT]
        refine aw_region (EF := EFt) hG (by rw [hN]; exact tr10_12) ?_
        simp only [a10_12, go_sem, ↓reduceIte, Nat.reduceEqDiff, reduceCtorEq, Nat.reduceAdd, Nat.reduceLT, Nat.reduceLeDiff, Nat.reduceBNe, Nat.reduceBEq, Int.reduceToNat, inI, EFt, tCkT, fCode_eq, fCaps_eq, fCF_eq]
        (repeat' apply And.intro) <;> (try first | omega | (intros; (repeat' apply And.intro) <;> first | assumption | omega | (simp_all; done)))
        refine hKL0 (i + 1, taxTo l (i + 1)) _ ?_ ?_ ?_
        · (try dsimp only); exact ⟨hc3, rfl, by have := taxTo_len l (i + 1); omega⟩
        · (try dsimp only); omega
        · refine Le.mk _ _ ?_ ?_ rfl <;> simp only [go_sem, ↓reduceIte, Nat.reduceEqDiff, reduceCtorEq, Nat.reduceAdd, Nat.reduceLT, Nat.reduceLeDiff, Nat.reduceBNe, Nat.reduceBEq, Int.reduceToNat, taxTo, getD_lt _ _ _ hc3, hxx, taxOne, ← List.append_assoc, ← hg, badK, badA] <;> (repeat' apply And.intro) <;> (try first | rfl | exact wk_frzb rfl rfl rfl | exact wk_fn rfl | exact .nilo _ _ _ rfl rfl)
    · simp only [decide_eq_true_eq, decide_eq_false_iff_not, Bool.and_eq_true, Bool.or_eq_true, Bool.not_eq_true', Bool.not_eq_false', Bool.and_eq_false_iff, Bool.or_eq_false_iff, Int.ofNat_lt, Int.ofNat_le, Nat.not_lt, Nat.not_le, Int.not_lt, Int.not_le] at hc3
      refine aw_exit ?_
      simp only [go_sem, ↓reduceIte, Nat.reduceEqDiff, reduceCtorEq, Nat.reduceAdd, Nat.reduceLT, Nat.reduceLeDiff, Nat.reduceBNe, Nat.reduceBEq, Int.reduceToNat]
      refine aw_seq (aw_region (EF := EFt) hG (by rw [hN]; exact tr10_13) ?_)
      simp only [a10_13, go_sem, ↓reduceIte, Nat.reduceEqDiff, reduceCtorEq, Nat.reduceAdd, Nat.reduceLT, Nat.reduceLeDiff, Nat.reduceBNe, Nat.reduceBEq, Int.reduceToNat, EFt, tCkT, fCode_eq, fCaps_eq, fCF_eq]
      refine AW.le (s' := ⟨mkE [(2, .list (faults g) false)], mkH []⟩) (Le.mk _ _ ?_ ?_ rfl) (aw_ret (hQ _ _ (.inl rfl) ?_ ?_ ?_)) <;> simp only [outφ, outV, AR.res, go_sem, ↓reduceIte, Nat.reduceEqDiff, reduceCtorEq, Nat.reduceAdd, Nat.reduceLT, Nat.reduceLeDiff, Nat.reduceBNe, Nat.reduceBEq, Int.reduceToNat, fTaxes]
      · exact wk_frz rfl (by rw [faults_len]) rfl (faults_pur _)
      · rw [hg, Nat.le_antisymm hi hc3]
noncomputable def trCkT : Tab
  | 28 => (gOf aTax fNamed)
  | 29 => (gOf aInt fMost)
  | 27 => gRDec
  | _ => gNo
theorem trCkT_ok : ∀ f, PureC Tryd.prog UT f (trCkT f) := fun f => by
  unfold trCkT
  split
  · exact rnamed_p
  · exact rmost_p
  · exact rdecimal_p
  · exact PureC.no
set_option maxHeartbeats 4000000 in
theorem rtcheck_p : PureC Tryd.prog UT 11 (gOf aTaxes fTaxes) := by
  have hG := trCkT_ok
  refine PureC.ofArgs aTaxes_inj Tryd.func11 body11 nm11 res11 ?_
  rintro l hv
  refine ⟨by rw [nt11]; simp [aTaxes], fun C hN Q hQ => ?_⟩
  rw [nt11] at hN
  unfold c11
  obtain ⟨hl, hok⟩ : SmT l := hv
  refine aw_seq (aw_region (EF := EFt) hG (by rw [hN]; exact tr11_0) ?_)
  simp only [a11_0, go_sem, ↓reduceIte, Nat.reduceEqDiff, reduceCtorEq, Nat.reduceAdd, Nat.reduceLT, Nat.reduceLeDiff, Nat.reduceBNe, Nat.reduceBEq, Int.reduceToNat, aTaxes, trCkT, fNamed_eq, fMost_eq]
  refine aw_seq (aw_region (EF := EFt) hG (by rw [hN]; exact tr11_1) ?_)
  simp only [a11_1, go_sem, ↓reduceIte, Nat.reduceEqDiff, reduceCtorEq, Nat.reduceAdd, Nat.reduceLT, Nat.reduceLeDiff, Nat.reduceBNe, Nat.reduceBEq, Int.reduceToNat, trCkT, fNamed_eq, fMost_eq]
  refine AW.le (s' := ⟨mkE [(0, .list (l.map Tax.enc) false), (3, .own 999 0)], mkH ([(999, .arr 52 2 (faults []))])⟩) (Le.mk _ _ (by (simp only [go_sem, ↓reduceIte, Nat.reduceEqDiff, reduceCtorEq, Nat.reduceAdd, Nat.reduceLT, Nat.reduceLeDiff, Nat.reduceBNe, Nat.reduceBEq, Int.reduceToNat]) <;> (repeat' apply And.intro) <;> (try first | exact wk_frzb rfl rfl rfl | rfl | exact wk_fn rfl | exact .nill _ | exact .nilo _ _ _ rfl rfl | exact wk_frz rfl (by simp only [ints_len, nats_len]) rfl (ints_pur _))) (by (simp only [go_sem, ↓reduceIte, Nat.reduceEqDiff, reduceCtorEq, Nat.reduceAdd, Nat.reduceLT, Nat.reduceLeDiff, Nat.reduceBNe, Nat.reduceBEq, Int.reduceToNat]) <;> (repeat' apply And.intro) <;> (try first | exact wk_frzb rfl rfl rfl | rfl | exact wk_fn rfl | exact .nill _ | exact .nilo _ _ _ rfl rfl | exact wk_frz rfl (by simp only [ints_len, nats_len]) rfl (ints_pur _))) rfl) ?_
  refine aw_seq ?_
  refine aw_seq (aw_region (EF := EFt) hG (by rw [hN]; exact tr11_2) ?_)
  simp only [a11_2, go_sem, ↓reduceIte, Nat.reduceEqDiff, reduceCtorEq, Nat.reduceAdd, Nat.reduceLT, Nat.reduceLeDiff, Nat.reduceBNe, Nat.reduceBEq, Int.reduceToNat, trCkT, fNamed_eq, fMost_eq]
  refine aw_block ?_
  refine aw_loop (α := Nat × (List Fault)) (fun γ => (γ.1 ≤ l.length) ∧ (γ.2 = taxTo l γ.1) ∧ (γ.2.length ≤ 3 * γ.1)) (fun γ => ⟨mkE [(0, V.list (List.map Tax.enc l) false), (3, .own 999 γ.2.length), (4, .int .i64 γ.1)], mkH [(999, .arr 52 2 (faults γ.2))]⟩) (fun γ => l.length - γ.1) (0, []) ⟨Nat.zero_le _, rfl, Nat.le_refl _⟩ ?_ ?_
  · refine Le.mk _ _ ?_ ?_ rfl <;> simp only [go_sem, ↓reduceIte, Nat.reduceEqDiff, reduceCtorEq, Nat.reduceAdd, Nat.reduceLT, Nat.reduceLeDiff, Nat.reduceBNe, Nat.reduceBEq, Int.reduceToNat] <;> (repeat' apply And.intro) <;> (try first | rfl | exact wk_frzb rfl rfl rfl | exact wk_fn rfl | exact .nilo _ _ _ rfl rfl)
  · rintro ⟨i, g⟩ ⟨hi, hg, hgl⟩ KL0 hKL0
    try dsimp only at *
    refine aw_seq ?_
    refine aw_seq (aw_region (EF := EFt) hG (by rw [hN]; exact tr11_3) ?_)
    simp only [a11_3, go_sem, ↓reduceIte, Nat.reduceEqDiff, reduceCtorEq, Nat.reduceAdd, Nat.reduceLT, Nat.reduceLeDiff, Nat.reduceBNe, Nat.reduceBEq, Int.reduceToNat, trCkT, fNamed_eq, fMost_eq]
    refine aw_cond (b := _) rfl (fun hc3 => ?_) (fun hc3 => ?_)
    · simp only [decide_eq_true_eq, decide_eq_false_iff_not, Bool.and_eq_true, Bool.or_eq_true, Bool.not_eq_true', Bool.not_eq_false', Bool.and_eq_false_iff, Bool.or_eq_false_iff, Int.ofNat_lt, Int.ofNat_le, Nat.not_lt, Nat.not_le, Int.not_lt, Int.not_le] at hc3
      refine aw_skip ?_
      try simp only [go_sem, ↓reduceIte, Nat.reduceEqDiff, reduceCtorEq, Nat.reduceAdd, Nat.reduceLT, Nat.reduceLeDiff, Nat.reduceBNe, Nat.reduceBEq, Int.reduceToNat]
      refine aw_seq ?_
      refine aw_block ?_
      have hxo := hok _ (List.getElem_mem hc3)
      generalize hxx : l[i] = x at hxo
      obtain ⟨a, b, c, dd, e, f, fr⟩ := x
      have hd := dec_lenN (i := i) (by omega)
      have hi2 := inI_of (i := i) (by omega)
      refine aw_seq (aw_regionD (EF := EFt) hG mixed (by rw [hN]; exact tr11_5) ok11_5 ?_)
      simp only [a11_5, d11_5, go_sem, ↓reduceIte, Nat.reduceEqDiff, reduceCtorEq, Nat.reduceAdd, Nat.reduceLT, Nat.reduceLeDiff, Nat.reduceBNe, Nat.reduceBEq, Int.reduceToNat, inI, getD_mapd _ _ _ _ hc3, hc3, hxx, Tax.enc, fRDec_eq, hi2, trCkT, fNamed_eq, fMost_eq]
      (repeat' apply And.intro) <;> (try first | omega | (intros; (repeat' apply And.intro) <;> first | assumption | omega | (simp_all; done)) | (simp only [List.length_append, List.length_cons, List.length_nil]; omega))
      refine aw_cut (α := (List Fault)) (fun g1 => (g1 = g ++ fIf (!namedB ⟨a, b, c, dd, e, f, fr⟩) 5 (sTax ++ dec i)) ∧ (g1.length ≤ g.length + 1)) (fun g1 => ⟨mkE [(0, V.list (List.map Tax.enc l) false), (3, .own 999 g1.length), (4, V.int IntKind.i64 ↑i), (5, V.ptr 5 0), (6, V.str (116 :: 97 :: 120 :: 32 :: dec ↑i))], mkH [(5, Ob.box 34 [V.str a, V.int IntKind.i64 b, V.str c, V.int IntKind.i64 dd, V.int IntKind.i64 e, V.int IntKind.i64 f, V.list (strs fr) false]), (999, .arr 52 2 (faults g1))]⟩) ?_ ?_
      · intro KC6 hKC6
        refine aw_seq (aw_region (EF := EFt) hG (by rw [hN]; exact tr11_6) ?_)
        simp only [a11_6, go_sem, ↓reduceIte, Nat.reduceEqDiff, reduceCtorEq, Nat.reduceAdd, Nat.reduceLT, Nat.reduceLeDiff, Nat.reduceBNe, Nat.reduceBEq, Int.reduceToNat, hxo, trCkT, fNamed_eq, fMost_eq]
        (repeat' apply And.intro) <;> (try first | omega | (intros; (repeat' apply And.intro) <;> first | assumption | omega | (simp_all; done)))
        refine aw_cond (b := _) rfl (fun hb6 => ?_) (fun hb6 => ?_)
        · skip
          refine aw_region (EF := EFt) hG (by rw [hN]; exact tr11_7) ?_
          simp only [a11_7, go_sem, ↓reduceIte, Nat.reduceEqDiff, reduceCtorEq, Nat.reduceAdd, Nat.reduceLT, Nat.reduceLeDiff, Nat.reduceBNe, Nat.reduceBEq, Int.reduceToNat, trCkT, fNamed_eq, fMost_eq]
          (repeat' apply And.intro) <;> (try first | omega | (intros; (repeat' apply And.intro) <;> first | assumption | omega | (simp_all; done)))
          refine hKC6 (g ++ [⟨5, sTax ++ dec i⟩]) _ ?_ ?_
          · (try dsimp only); exact ⟨by rw [fIf_t (show (!namedB ⟨a, b, c, dd, e, f, fr⟩) = true from hb6)], by simp⟩
          · refine Le.mk _ _ ?_ ?_ rfl <;> simp only [go_sem, ↓reduceIte, Nat.reduceEqDiff, reduceCtorEq, Nat.reduceAdd, Nat.reduceLT, Nat.reduceLeDiff, Nat.reduceBNe, Nat.reduceBEq, Int.reduceToNat, List.length_append, List.length_cons, List.length_nil] <;> (repeat' apply And.intro) <;> (try first | rfl | exact wk_frzb rfl rfl rfl | exact wk_fn rfl | exact .nilo _ _ _ rfl rfl)
        · skip
          refine aw_skip ?_
          try simp only [go_sem, ↓reduceIte, Nat.reduceEqDiff, reduceCtorEq, Nat.reduceAdd, Nat.reduceLT, Nat.reduceLeDiff, Nat.reduceBNe, Nat.reduceBEq, Int.reduceToNat]
          refine hKC6 (g) _ ?_ ?_
          · (try dsimp only); exact ⟨by rw [fIf_f (show (!namedB ⟨a, b, c, dd, e, f, fr⟩) = false from hb6), List.append_nil], by omega⟩
          · refine Le.mk _ _ ?_ ?_ rfl <;> simp only [go_sem, ↓reduceIte, Nat.reduceEqDiff, reduceCtorEq, Nat.reduceAdd, Nat.reduceLT, Nat.reduceLeDiff, Nat.reduceBNe, Nat.reduceBEq, Int.reduceToNat] <;> (repeat' apply And.intro) <;> (try first | rfl | exact wk_frzb rfl rfl rfl | exact wk_fn rfl | exact .nilo _ _ _ rfl rfl)
      · rintro g1 ⟨hg1, lg1⟩
        refine aw_cut (α := (List Fault)) (fun g2 => (g2 = g1 ++ fIf (badK ⟨a, b, c, dd, e, f, fr⟩) 8 (sTax ++ dec i)) ∧ (g2.length ≤ g1.length + 1)) (fun g2 => ⟨mkE [(0, V.list (List.map Tax.enc l) false), (3, .own 999 g2.length), (4, V.int IntKind.i64 ↑i), (5, V.ptr 5 0), (6, V.str (116 :: 97 :: 120 :: 32 :: dec ↑i))], mkH [(5, Ob.box 34 [V.str a, V.int IntKind.i64 b, V.str c, V.int IntKind.i64 dd, V.int IntKind.i64 e, V.int IntKind.i64 f, V.list (strs fr) false]), (999, .arr 52 2 (faults g2))]⟩) ?_ ?_
        · intro KC8 hKC8
          refine aw_seq (aw_region (EF := EFt) hG (by rw [hN]; exact tr11_8) ?_)
          simp only [a11_8, go_sem, ↓reduceIte, Nat.reduceEqDiff, reduceCtorEq, Nat.reduceAdd, Nat.reduceLT, Nat.reduceLeDiff, Nat.reduceBNe, Nat.reduceBEq, Int.reduceToNat, trCkT, fNamed_eq, fMost_eq]
          (repeat' apply And.intro) <;> (try first | omega | (intros; (repeat' apply And.intro) <;> first | assumption | omega | (simp_all; done)))
          refine aw_cond (b := _) rfl (fun hb8 => ?_) (fun hb8 => ?_)
          · skip
            refine aw_region (EF := EFt) hG (by rw [hN]; exact tr11_9) ?_
            simp only [a11_9, go_sem, ↓reduceIte, Nat.reduceEqDiff, reduceCtorEq, Nat.reduceAdd, Nat.reduceLT, Nat.reduceLeDiff, Nat.reduceBNe, Nat.reduceBEq, Int.reduceToNat, trCkT, fNamed_eq, fMost_eq]
            (repeat' apply And.intro) <;> (try first | omega | (intros; (repeat' apply And.intro) <;> first | assumption | omega | (simp_all; done)))
            refine hKC8 (g1 ++ [⟨8, sTax ++ dec i⟩]) _ ?_ ?_
            · (try dsimp only); exact ⟨by rw [fIf_t (show (badK ⟨a, b, c, dd, e, f, fr⟩) = true from hb8)], by simp⟩
            · refine Le.mk _ _ ?_ ?_ rfl <;> simp only [go_sem, ↓reduceIte, Nat.reduceEqDiff, reduceCtorEq, Nat.reduceAdd, Nat.reduceLT, Nat.reduceLeDiff, Nat.reduceBNe, Nat.reduceBEq, Int.reduceToNat, List.length_append, List.length_cons, List.length_nil] <;> (repeat' apply And.intro) <;> (try first | rfl | exact wk_frzb rfl rfl rfl | exact wk_fn rfl | exact .nilo _ _ _ rfl rfl)
          · skip
            refine aw_skip ?_
            try simp only [go_sem, ↓reduceIte, Nat.reduceEqDiff, reduceCtorEq, Nat.reduceAdd, Nat.reduceLT, Nat.reduceLeDiff, Nat.reduceBNe, Nat.reduceBEq, Int.reduceToNat]
            refine hKC8 (g1) _ ?_ ?_
            · (try dsimp only); exact ⟨by rw [fIf_f (show (badK ⟨a, b, c, dd, e, f, fr⟩) = false from hb8), List.append_nil], by omega⟩
            · refine Le.mk _ _ ?_ ?_ rfl <;> simp only [go_sem, ↓reduceIte, Nat.reduceEqDiff, reduceCtorEq, Nat.reduceAdd, Nat.reduceLT, Nat.reduceLeDiff, Nat.reduceBNe, Nat.reduceBEq, Int.reduceToNat] <;> (repeat' apply And.intro) <;> (try first | rfl | exact wk_frzb rfl rfl rfl | exact wk_fn rfl | exact .nilo _ _ _ rfl rfl)
        · rintro g2 ⟨hg2, lg2⟩
          refine aw_seq (aw_regionD (EF := EFt) hG mixed (by rw [hN]; exact tr11_10) ok11_10 ?_)
          simp only [a11_10, d11_10, go_sem, ↓reduceIte, Nat.reduceEqDiff, reduceCtorEq, Nat.reduceAdd, Nat.reduceLT, Nat.reduceLeDiff, Nat.reduceBNe, Nat.reduceBEq, Int.reduceToNat, trCkT, fNamed_eq, fMost_eq]
          (repeat' apply And.intro) <;> (try first | omega | (intros; (repeat' apply And.intro) <;> first | assumption | omega | (simp_all; done)))
          refine aw_cond (b := _) rfl (fun hb10 => ?_) (fun hb10 => ?_)
          · skip
            refine aw_region (EF := EFt) hG (by rw [hN]; exact tr11_11) ?_
            simp only [a11_11, go_sem, ↓reduceIte, Nat.reduceEqDiff, reduceCtorEq, Nat.reduceAdd, Nat.reduceLT, Nat.reduceLeDiff, Nat.reduceBNe, Nat.reduceBEq, Int.reduceToNat, trCkT, fNamed_eq, fMost_eq]
            (repeat' apply And.intro) <;> (try first | omega | (intros; (repeat' apply And.intro) <;> first | assumption | omega | (simp_all; done)))
            refine aw_region (EF := EFt) hG (by rw [hN]; exact tr11_4) ?_
            simp only [a11_4, go_sem, ↓reduceIte, Nat.reduceEqDiff, reduceCtorEq, Nat.reduceAdd, Nat.reduceLT, Nat.reduceLeDiff, Nat.reduceBNe, Nat.reduceBEq, Int.reduceToNat, inI, trCkT, fNamed_eq, fMost_eq]
            (repeat' apply And.intro) <;> (try first | omega | (intros; (repeat' apply And.intro) <;> first | assumption | omega | (simp_all; done)))
            refine hKL0 (i + 1, g2 ++ [⟨2, sTax ++ dec i⟩]) _ ?_ ?_ ?_
            · (try dsimp only); refine ⟨hc3, ?_, by simp only [List.length_append, List.length_cons, List.length_nil]; omega⟩; rw [taxTo, getD_lt _ _ _ hc3, hxx, taxOne, fIf_t (b := badA ⟨a, b, c, dd, e, f, fr⟩) hb10, hg2, hg1, hg]; simp only [List.append_assoc]
            · (try dsimp only); omega
            · refine Le.mk _ _ ?_ ?_ rfl <;> simp only [go_sem, ↓reduceIte, Nat.reduceEqDiff, reduceCtorEq, Nat.reduceAdd, Nat.reduceLT, Nat.reduceLeDiff, Nat.reduceBNe, Nat.reduceBEq, Int.reduceToNat, List.length_append, List.length_cons, List.length_nil] <;> (repeat' apply And.intro) <;> (try first | rfl | exact wk_frzb rfl rfl rfl | exact wk_fn rfl | exact .nilo _ _ _ rfl rfl)
          · skip
            refine aw_skip ?_
            try simp only [go_sem, ↓reduceIte, Nat.reduceEqDiff, reduceCtorEq, Nat.reduceAdd, Nat.reduceLT, Nat.reduceLeDiff, Nat.reduceBNe, Nat.reduceBEq, Int.reduceToNat]
            refine aw_region (EF := EFt) hG (by rw [hN]; exact tr11_4) ?_
            simp only [a11_4, go_sem, ↓reduceIte, Nat.reduceEqDiff, reduceCtorEq, Nat.reduceAdd, Nat.reduceLT, Nat.reduceLeDiff, Nat.reduceBNe, Nat.reduceBEq, Int.reduceToNat, inI, trCkT, fNamed_eq, fMost_eq]
            (repeat' apply And.intro) <;> (try first | omega | (intros; (repeat' apply And.intro) <;> first | assumption | omega | (simp_all; done)))
            refine hKL0 (i + 1, g2) _ ?_ ?_ ?_
            · (try dsimp only); refine ⟨hc3, ?_, by omega⟩; rw [taxTo, getD_lt _ _ _ hc3, hxx, taxOne, fIf_f (b := badA ⟨a, b, c, dd, e, f, fr⟩) hb10, hg2, hg1, hg]; simp only [List.append_assoc, List.append_nil]
            · (try dsimp only); omega
            · refine Le.mk _ _ ?_ ?_ rfl <;> simp only [go_sem, ↓reduceIte, Nat.reduceEqDiff, reduceCtorEq, Nat.reduceAdd, Nat.reduceLT, Nat.reduceLeDiff, Nat.reduceBNe, Nat.reduceBEq, Int.reduceToNat] <;> (repeat' apply And.intro) <;> (try first | rfl | exact wk_frzb rfl rfl rfl | exact wk_fn rfl | exact .nilo _ _ _ rfl rfl)
    · simp only [decide_eq_true_eq, decide_eq_false_iff_not, Bool.and_eq_true, Bool.or_eq_true, Bool.not_eq_true', Bool.not_eq_false', Bool.and_eq_false_iff, Bool.or_eq_false_iff, Int.ofNat_lt, Int.ofNat_le, Nat.not_lt, Nat.not_le, Int.not_lt, Int.not_le] at hc3
      refine aw_exit ?_
      simp only [go_sem, ↓reduceIte, Nat.reduceEqDiff, reduceCtorEq, Nat.reduceAdd, Nat.reduceLT, Nat.reduceLeDiff, Nat.reduceBNe, Nat.reduceBEq, Int.reduceToNat]
      refine aw_seq (aw_region (EF := EFt) hG (by rw [hN]; exact tr11_12) ?_)
      simp only [a11_12, go_sem, ↓reduceIte, Nat.reduceEqDiff, reduceCtorEq, Nat.reduceAdd, Nat.reduceLT, Nat.reduceLeDiff, Nat.reduceBNe, Nat.reduceBEq, Int.reduceToNat, trCkT, fNamed_eq, fMost_eq]
      refine AW.le (s' := ⟨mkE [(2, .list (faults g) false)], mkH []⟩) (Le.mk _ _ ?_ ?_ rfl) (aw_ret (hQ _ _ (.inl rfl) ?_ ?_ ?_)) <;> simp only [outφ, outV, AR.res, go_sem, ↓reduceIte, Nat.reduceEqDiff, reduceCtorEq, Nat.reduceAdd, Nat.reduceLT, Nat.reduceLeDiff, Nat.reduceBNe, Nat.reduceBEq, Int.reduceToNat, fTaxes]
      · exact wk_frz rfl (by rw [faults_len]) rfl (faults_pur _)
      · rw [hg, Nat.le_antisymm hi hc3]
end Go.Proofs.YtailckanpheciaaDoor
