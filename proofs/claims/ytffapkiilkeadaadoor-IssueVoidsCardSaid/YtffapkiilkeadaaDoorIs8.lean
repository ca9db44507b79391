/- The program's Check of a ticket: the walk. -/
import Derived.Test.YtffapkiilkeadaaDoorIs7
namespace Go.Proofs.YtffapkiilkeadaaDoor
open Go Go.RowKit
set_option linter.unusedSimpArgs false
set_option linter.unusedVariables false
set_option linter.deprecated false
theorem cps_use {d : Option Nat} {s : St} {K : St → Prop} {nb na : Nat} {g : List Fault} {l : List Coupon} (hg : g.length ≤ 1000) (hl : l.length ≤ 1000) (hok : ∀ c ∈ l, c.ok)
    (hb : s.h nb = some (.box 48 [.own na g.length])) (ha : s.h na = some (.arr 45 2 (faults g))) (hne : nb ≠ na)
    (hK : K ⟨setE d (.tup [.int .i64 (cSum l l.length), .bool (cRt l l.length)]) s.e, hov (fbO nb na (g ++ cupF l)) s.h⟩) : EStep Tryd.prog UT d 19 [.ptr nb 0, .list (l.map Coupon.enc) false] s K :=
  fb_use (coupons_e l g hg hl hok) (fun σ => by simp [V.rens, V.ren]) (fun D => by simp [V.nins, V.nin]) (fun σ => by simp [V.ren, V.rens]) (fun D => by simp [V.nin, V.nins]) hb ha hne hK
def sNum : List UInt8 := [110, 117, 109, 98, 101, 114]
def sLoc : List UInt8 := [108, 111, 99, 97, 116, 111, 114]
def sPer : List UInt8 := [112, 101, 114, 115, 111, 110]
def sFar : List UInt8 := [102, 97, 114, 101]
def sTax : List UInt8 := [116, 97, 120, 101, 115, 46]
def sTot : List UInt8 := [116, 111, 116, 97, 108]
def sIss : List UInt8 := [105, 115, 115, 117, 101, 100]
def perB (p : Person) : Bool := !nameB p.last || !nameB p.first || !codeB p.type 3 3
def tTo (l : List Charge) : Nat → List Fault
  | 0 => []
  | i + 1 => tTo l i ++ fIf (!amtB (l.getD i Charge.zero).amount) 11 (sTax ++ dec i)
def tSum (l : List Charge) : Nat → Int
  | 0 => 0
  | i + 1 => if amtB (l.getD i Charge.zero).amount = true then tSum l i + (l.getD i Charge.zero).amount else tSum l i
def tRt (l : List Charge) : Nat → Bool
  | 0 => true
  | i + 1 => tRt l i && amtB (l.getD i Charge.zero).amount
def farB (t : Ticket) : Bool := amtB t.fare && cRt t.coupons t.coupons.length && !decide (cSum t.coupons t.coupons.length = t.fare)
def totB (t : Ticket) : Bool := amtB t.fare && tRt t.taxes t.taxes.length && !decide (t.fare + tSum t.taxes t.taxes.length = t.total)
def chkT (t : Ticket) : List Fault := fIf (!rightN t.number) 2 sNum ++ fIf (!locB t.locator) 5 sLoc ++ fIf (perB t.person) 5 sPer ++ cupF t.coupons ++ fIf (!amtB t.fare) 11 sFar ++ fIf (farB t) 36 sFar ++ tTo t.taxes t.taxes.length ++ fIf (totB t) 36 sTot ++ fIf (!dayB t.issued) 12 sIss
def TkOk (t : Ticket) : Prop := t.ok ∧ t.coupons.length ≤ 100 ∧ t.taxes.length ≤ 100
def aTk (x : Ticket) : List V := [.agg x.enc]
theorem aTk_inj (a b : Ticket) (h : aTk a = aTk b) : a = b := by
  simp only [aTk, List.cons.injEq, V.str.injEq, V.int.injEq, V.bool.injEq, V.agg.injEq, V.list.injEq, and_true, true_and] at h
  have h0 := h
  replace h0 := Ticket.inj _ _ h0
  subst h0
  rfl
def fChT (t : Ticket) : Prop × V := (TkOk t, .list (faults (chkT t)) false)
theorem tSum_bd (l : List Charge) : ∀ i, 0 ≤ tSum l i ∧ tSum l i ≤ 1099511627776 * (i : Int)
  | 0 => by simp [tSum]
  | i + 1 => by
    have ih := tSum_bd l i
    rw [tSum]
    split
    · rename_i h; have := amt_bd h; omega
    · omega
theorem wr_id {n : Int} (h : inI n) : wr n = n := by
  unfold wr inI at *
  rw [IntKind.wrap_i64]; omega
def tCells (t : Ticket) : List V := [.int .i64 t.number, .str t.locator, .str t.person.last, .str t.person.first, .str t.person.type, .list (t.coupons.map Coupon.enc) false, .int .i64 t.fare, .list (t.taxes.map Charge.enc) false, .int .i64 t.total, .int .i64 t.issued]
def EFc : Nat → Bool := fun f => f == 14 || f == 19
noncomputable def tCh : Tab
  | 15 => (gOf aInt fRgt)
  | 16 => (gOf aStr fLc)
  | 17 => (gOf aStr fName)
  | 18 => gCode
  | 20 => (gOf aInt fAmt)
  | 21 => (gOf aChs fFh)
  | 22 => gDec
  | 23 => (gOf aInt fDy)
  | _ => gNo
theorem tCh_ok : ∀ f, PureC Tryd.prog UT f (tCh f) := fun f => by
  unfold tCh
  split
  · exact right_p
  · exact lright_p
  · exact name_p
  · exact code_p
  · exact amt_p
  · exact firsth_p
  · exact itoa_p
  · exact day_p
  · exact PureC.no
set_option maxHeartbeats 8000000 in
theorem check_p : PureC Tryd.prog UT 8 (gOf aTk fChT) := by
  have hG := tCh_ok
  refine PureC.ofArgs aTk_inj Tryd.func8 body8 nm8 res8 ?_
  rintro t hv
  refine ⟨by rw [nt8]; simp [aTk], fun C hN Q hQ => ?_⟩
  rw [nt8] at hN
  unfold c8
  obtain ⟨hok, hcl, htl⟩ : TkOk t := hv
  have hoc := hok.2.2.2.1
  have hnum : inI t.number := hok.1
  have hloc : t.locator.length ≤ 140737488355328 := hok.2.1
  obtain ⟨hp1, hp2, hp3⟩ : t.person.last.length ≤ 140737488355328 ∧ t.person.first.length ≤ 140737488355328 ∧ t.person.type.length ≤ 140737488355328 := hok.2.2.1
  refine aw_seq (aw_region (EF := EFc) hG (by rw [hN]; exact tr8_0) ?_)
  simp only [a8_0, go_sem, ↓reduceIte, Nat.reduceEqDiff, reduceCtorEq, Nat.reduceAdd, Nat.reduceLT, Nat.reduceLeDiff, Nat.reduceBNe, Nat.reduceBEq, Int.reduceToNat, aTk, Ticket.enc, tCh, EFc, fRgt_eq, fLc_eq, fName_eq, fCode_eq, fAmt_eq, fFh_eq, fAdd_dec, fDy_eq, imp_self, and_true, true_and]
  refine aw_seq (aw_region (EF := EFc) hG (by rw [hN]; exact tr8_1) ?_)
  simp only [a8_1, go_sem, ↓reduceIte, Nat.reduceEqDiff, reduceCtorEq, Nat.reduceAdd, Nat.reduceLT, Nat.reduceLeDiff, Nat.reduceBNe, Nat.reduceBEq, Int.reduceToNat, tCh, EFc, fRgt_eq, fLc_eq, fName_eq, fCode_eq, fAmt_eq, fFh_eq, fAdd_dec, fDy_eq, imp_self, and_true, true_and]
  refine AW.le (s' := ⟨mkE [(1, .ptr 1 0), (3, .ptr 11 0)], mkH ([(1, .box 27 (tCells t)), (11, .box 48 [.own 999 0]), (999, .arr 45 2 (faults []))])⟩) (Le.mk _ _ (by (simp only [go_sem, ↓reduceIte, Nat.reduceEqDiff, reduceCtorEq, Nat.reduceAdd, Nat.reduceLT, Nat.reduceLeDiff, Nat.reduceBNe, Nat.reduceBEq, Int.reduceToNat, tCells]) <;> (repeat' apply And.intro) <;> (try first | exact wk_frzb rfl rfl rfl | rfl | exact wk_fn rfl | exact .nill _ | exact .nilo _ _ _ rfl rfl | exact wk_frz rfl (by simp only [ints_len, nats_len]) rfl (ints_pur _) | exact wk_frzm rfl rfl (fun kv hk => by obtain ⟨_, _, rfl⟩ := List.mem_map.1 hk; rfl))) (by (simp only [go_sem, ↓reduceIte, Nat.reduceEqDiff, reduceCtorEq, Nat.reduceAdd, Nat.reduceLT, Nat.reduceLeDiff, Nat.reduceBNe, Nat.reduceBEq, Int.reduceToNat, tCells]) <;> (repeat' apply And.intro) <;> (try first | exact wk_frzb rfl rfl rfl | rfl | exact wk_fn rfl | exact .nill _ | exact .nilo _ _ _ rfl rfl | exact wk_frz rfl (by simp only [ints_len, nats_len]) rfl (ints_pur _) | exact wk_frzm rfl rfl (fun kv hk => by obtain ⟨_, _, rfl⟩ := List.mem_map.1 hk; rfl))) rfl) ?_
  simp only [tCells]
  refine aw_seq (aw_region (EF := EFc) hG (by rw [hN]; exact tr8_2) ?_)
  simp only [a8_2, go_sem, ↓reduceIte, Nat.reduceEqDiff, reduceCtorEq, Nat.reduceAdd, Nat.reduceLT, Nat.reduceLeDiff, Nat.reduceBNe, Nat.reduceBEq, Int.reduceToNat, hnum, tCh, EFc, fRgt_eq, fLc_eq, fName_eq, fCode_eq, fAmt_eq, fFh_eq, fAdd_dec, fDy_eq, imp_self, and_true, true_and]
  refine fadd_use (g := []) (b := !rightN t.number) (e := 2) (pos := sNum) (by simp) rfl rfl (by decide) ?_
  simp only [go_sem, ↓reduceIte, Nat.reduceEqDiff, reduceCtorEq, Nat.reduceAdd, Nat.reduceLT, Nat.reduceLeDiff, Nat.reduceBNe, Nat.reduceBEq, Int.reduceToNat, fbO]
  obtain ⟨g1, hg1⟩ : ∃ g1, g1 = fIf (!rightN t.number) 2 sNum := ⟨_, rfl⟩
  have hl1 : g1.length ≤ 1 := by rw [hg1]; exact fIf_le _ _ _
  rw [← hg1]
  refine aw_seq (aw_region (EF := EFc) hG (by rw [hN]; exact tr8_3) ?_)
  simp only [a8_3, go_sem, ↓reduceIte, Nat.reduceEqDiff, reduceCtorEq, Nat.reduceAdd, Nat.reduceLT, Nat.reduceLeDiff, Nat.reduceBNe, Nat.reduceBEq, Int.reduceToNat, hloc, tCh, EFc, fRgt_eq, fLc_eq, fName_eq, fCode_eq, fAmt_eq, fFh_eq, fAdd_dec, fDy_eq, imp_self, and_true, true_and]
  refine fadd_use (g := g1) (b := !locB t.locator) (e := 5) (pos := sLoc) (by omega) rfl rfl (by decide) ?_
  simp only [go_sem, ↓reduceIte, Nat.reduceEqDiff, reduceCtorEq, Nat.reduceAdd, Nat.reduceLT, Nat.reduceLeDiff, Nat.reduceBNe, Nat.reduceBEq, Int.reduceToNat, fbO]
  obtain ⟨g2, hg2⟩ : ∃ g2, g2 = g1 ++ fIf (!locB t.locator) 5 sLoc := ⟨_, rfl⟩
  have hl2 : g2.length ≤ 2 := by have := fIf_le (!locB t.locator) 5 sLoc; rw [hg2, List.length_append]; omega
  rw [← hg2]
  refine aw_seq (aw_region (EF := EFc) hG (by rw [hN]; exact tr8_4) ?_)
  simp only [a8_4, go_sem, ↓reduceIte, Nat.reduceEqDiff, reduceCtorEq, Nat.reduceAdd, Nat.reduceLT, Nat.reduceLeDiff, Nat.reduceBNe, Nat.reduceBEq, Int.reduceToNat, hp1, hp2, hp3, tCh, EFc, fRgt_eq, fLc_eq, fName_eq, fCode_eq, fAmt_eq, fFh_eq, fAdd_dec, fDy_eq, imp_self, and_true, true_and]
  refine fadd_use (g := g2) (b := perB t.person) (e := 5) (pos := sPer) (by omega) rfl rfl (by decide) ?_
  simp only [go_sem, ↓reduceIte, Nat.reduceEqDiff, reduceCtorEq, Nat.reduceAdd, Nat.reduceLT, Nat.reduceLeDiff, Nat.reduceBNe, Nat.reduceBEq, Int.reduceToNat, fbO]
  obtain ⟨g3, hg3⟩ : ∃ g3, g3 = g2 ++ fIf (perB t.person) 5 sPer := ⟨_, rfl⟩
  have hl3 : g3.length ≤ 3 := by have := fIf_le (perB t.person) 5 sPer; rw [hg3, List.length_append]; omega
  rw [← hg3]
  refine aw_seq (aw_region (EF := EFc) hG (by rw [hN]; exact tr8_5) ?_)
  simp only [a8_5, go_sem, ↓reduceIte, Nat.reduceEqDiff, reduceCtorEq, Nat.reduceAdd, Nat.reduceLT, Nat.reduceLeDiff, Nat.reduceBNe, Nat.reduceBEq, Int.reduceToNat, tCh, EFc, fRgt_eq, fLc_eq, fName_eq, fCode_eq, fAmt_eq, fFh_eq, fAdd_dec, fDy_eq, imp_self, and_true, true_and]
  refine cps_use (g := g3) (l := t.coupons) (by omega) (by omega) hoc.2 rfl rfl (by decide) ?_
  simp only [go_sem, ↓reduceIte, Nat.reduceEqDiff, reduceCtorEq, Nat.reduceAdd, Nat.reduceLT, Nat.reduceLeDiff, Nat.reduceBNe, Nat.reduceBEq, Int.reduceToNat, fbO]
  obtain ⟨g4, hg4⟩ : ∃ g4, g4 = g3 ++ cupF t.coupons := ⟨_, rfl⟩
  have hl4 : g4.length ≤ 400 := by have h1 := fIf_le (cSz t.coupons) 4 sCps; have h2 := cTo_len t.coupons t.coupons.length; rw [hg4, List.length_append, cupF, List.length_append]; omega
  rw [← hg4]
  obtain ⟨n, hn⟩ : ∃ n, n = cSum t.coupons t.coupons.length := ⟨_, rfl⟩
  obtain ⟨r, hr⟩ : ∃ r, r = cRt t.coupons t.coupons.length := ⟨_, rfl⟩
  rw [← hn, ← hr]
  obtain ⟨g5, hg5⟩ : ∃ g5, g5 = g4 ++ fIf (!amtB t.fare) 11 sFar := ⟨_, rfl⟩
  have hl5 : g5.length ≤ 401 := by have := fIf_le (!amtB t.fare) 11 sFar; rw [hg5, List.length_append]; omega
  refine aw_seq (aw_region (EF := EFc) hG (by rw [hN]; exact tr8_6) ?_)
  simp only [a8_6, go_sem, ↓reduceIte, Nat.reduceEqDiff, reduceCtorEq, Nat.reduceAdd, Nat.reduceLT, Nat.reduceLeDiff, Nat.reduceBNe, Nat.reduceBEq, Int.reduceToNat, tCh, EFc, fRgt_eq, fLc_eq, fName_eq, fCode_eq, fAmt_eq, fFh_eq, fAdd_dec, fDy_eq, imp_self, and_true, true_and]
  refine aw_cut (α := (List Fault) × Bool) (fun γ => (γ.1 = g5 ++ fIf (farB t) 36 sFar) ∧ (γ.2 = amtB t.fare) ∧ (γ.1.length ≤ 402)) (fun γ => ⟨mkE [(1, V.ptr 1 0), (3, V.ptr 11 0), (6, .bool γ.2)], mkH [(1, Ob.box 27 [V.int IntKind.i64 t.number, V.str t.locator, V.str t.person.last, V.str t.person.first, V.str t.person.type, V.list (List.map Coupon.enc t.coupons) false, V.int IntKind.i64 t.fare, V.list (List.map Charge.enc t.taxes) false, V.int IntKind.i64 t.total, V.int IntKind.i64 t.issued]), (11, .box 48 [.own 999 γ.1.length]), (999, .arr 45 2 (faults γ.1))]⟩) ?_ ?_
  · intro KC7 hKC7
    refine aw_seq (aw_region (EF := EFc) hG (by rw [hN]; exact tr8_7) ?_)
    simp only [a8_7, go_sem, ↓reduceIte, Nat.reduceEqDiff, reduceCtorEq, Nat.reduceAdd, Nat.reduceLT, Nat.reduceLeDiff, Nat.reduceBNe, Nat.reduceBEq, Int.reduceToNat, tCh, EFc, fRgt_eq, fLc_eq, fName_eq, fCode_eq, fAmt_eq, fFh_eq, fAdd_dec, fDy_eq, imp_self, and_true, true_and]
    refine fadd_use (g := g4) (b := !amtB t.fare) (e := 11) (pos := sFar) (by omega) rfl rfl (by decide) ?_
    simp only [go_sem, ↓reduceIte, Nat.reduceEqDiff, reduceCtorEq, Nat.reduceAdd, Nat.reduceLT, Nat.reduceLeDiff, Nat.reduceBNe, Nat.reduceBEq, Int.reduceToNat, fbO]
    rw [← hg5]
    refine aw_cond (b := _) rfl (fun hb7 => ?_) (fun hb7 => ?_)
    · skip
      have hab : amtB t.fare = false := by simpa using hb7
      have hfb : farB t = false := by unfold farB; rw [hab]; rfl
      refine aw_region (EF := EFc) hG (by rw [hN]; exact tr8_8) ?_
      simp only [a8_8, go_sem, ↓reduceIte, Nat.reduceEqDiff, reduceCtorEq, Nat.reduceAdd, Nat.reduceLT, Nat.reduceLeDiff, Nat.reduceBNe, Nat.reduceBEq, Int.reduceToNat, tCh, EFc, fRgt_eq, fLc_eq, fName_eq, fCode_eq, fAmt_eq, fFh_eq, fAdd_dec, fDy_eq, imp_self, and_true, true_and]
      refine hKC7 (g5, false) _ ?_ ?_
      · (try dsimp only); exact ⟨by rw [fIf_f hfb, List.append_nil], hab.symm, by omega⟩
      · refine Le.mk _ _ ?_ ?_ rfl <;> simp only [go_sem, ↓reduceIte, Nat.reduceEqDiff, reduceCtorEq, Nat.reduceAdd, Nat.reduceLT, Nat.reduceLeDiff, Nat.reduceBNe, Nat.reduceBEq, Int.reduceToNat] <;> (repeat' apply And.intro) <;> (try first | rfl | exact wk_frzb rfl rfl rfl | exact wk_fn rfl | exact .nilo _ _ _ rfl rfl | exact wk_frzm rfl rfl (fun kv hk => by obtain ⟨_, _, rfl⟩ := List.mem_map.1 hk; rfl))
    · skip
      have hab : amtB t.fare = true := by simpa using hb7
      have hfb : farB t = (r && !decide (n = t.fare)) := by unfold farB; rw [hab, Bool.true_and, hn, hr]
      refine aw_region (EF := EFc) hG (by rw [hN]; exact tr8_9) ?_
      simp only [a8_9, go_sem, ↓reduceIte, Nat.reduceEqDiff, reduceCtorEq, Nat.reduceAdd, Nat.reduceLT, Nat.reduceLeDiff, Nat.reduceBNe, Nat.reduceBEq, Int.reduceToNat, tCh, EFc, fRgt_eq, fLc_eq, fName_eq, fCode_eq, fAmt_eq, fFh_eq, fAdd_dec, fDy_eq, imp_self, and_true, true_and]
      refine fadd_use (g := g5) (b := r && !decide (n = t.fare)) (e := 36) (pos := sFar) (by omega) rfl rfl (by decide) ?_
      simp only [go_sem, ↓reduceIte, Nat.reduceEqDiff, reduceCtorEq, Nat.reduceAdd, Nat.reduceLT, Nat.reduceLeDiff, Nat.reduceBNe, Nat.reduceBEq, Int.reduceToNat, fbO]
      refine hKC7 (g5 ++ fIf (r && !decide (n = t.fare)) 36 sFar, true) _ ?_ ?_
      · (try dsimp only); exact ⟨by rw [hfb], hab.symm, by have := fIf_le (r && !decide (n = t.fare)) 36 sFar; rw [List.length_append]; omega⟩
      · refine Le.mk _ _ ?_ ?_ rfl <;> simp only [go_sem, ↓reduceIte, Nat.reduceEqDiff, reduceCtorEq, Nat.reduceAdd, Nat.reduceLT, Nat.reduceLeDiff, Nat.reduceBNe, Nat.reduceBEq, Int.reduceToNat] <;> (repeat' apply And.intro) <;> (try first | rfl | exact wk_frzb rfl rfl rfl | exact wk_fn rfl | exact .nilo _ _ _ rfl rfl | exact wk_frzm rfl rfl (fun kv hk => by obtain ⟨_, _, rfl⟩ := List.mem_map.1 hk; rfl))
  · rintro ⟨g6, w⟩ ⟨hg6, hw, hl6⟩
    try dsimp only at *
    have hnb : inI t.fare := hok.2.2.2.2.1
    refine aw_seq (aw_region (EF := EFc) hG (by rw [hN]; exact tr8_10) ?_)
    simp only [a8_10, go_sem, ↓reduceIte, Nat.reduceEqDiff, reduceCtorEq, Nat.reduceAdd, Nat.reduceLT, Nat.reduceLeDiff, Nat.reduceBNe, Nat.reduceBEq, Int.reduceToNat, tCh, EFc, fRgt_eq, fLc_eq, fName_eq, fCode_eq, fAmt_eq, fFh_eq, fAdd_dec, fDy_eq, imp_self, and_true, true_and]
    refine aw_seq ?_
    refine aw_seq (aw_region (EF := EFc) hG (by rw [hN]; exact tr8_11) ?_)
    simp only [a8_11, go_sem, ↓reduceIte, Nat.reduceEqDiff, reduceCtorEq, Nat.reduceAdd, Nat.reduceLT, Nat.reduceLeDiff, Nat.reduceBNe, Nat.reduceBEq, Int.reduceToNat, (show t.taxes.length ≤ 1000 by omega), List.length_map, tCh, EFc, fRgt_eq, fLc_eq, fName_eq, fCode_eq, fAmt_eq, fFh_eq, fAdd_dec, fDy_eq, imp_self, and_true, true_and]
    (repeat' apply And.intro) <;> (try first | omega | ((fail_if_success refine idW ?_); (fail_if_success refine idS ?_); intros; (repeat' apply And.intro) <;> first | assumption | omega | (simp_all; done)))
    refine aw_block ?_
    refine aw_loop (α := Nat × (List Fault) × Bool × Int) (fun γ => (γ.1 ≤ t.taxes.length) ∧ (γ.2.1 = g6 ++ tTo t.taxes γ.1) ∧ (γ.2.1.length ≤ g6.length + γ.1) ∧ (γ.2.2.1 = and (amtB t.fare) (tRt t.taxes γ.1)) ∧ ((amtB t.fare = true → γ.2.2.2 = t.fare + tSum t.taxes γ.1))) (fun γ => ⟨mkE [(1, V.ptr 1 0), (3, V.ptr 11 0), (6, .bool γ.2.2.1), (7, .int .i64 γ.2.2.2), (71, V.list (List.map Charge.enc t.taxes) false), (72, V.int IntKind.i64 ↑t.taxes.length), (73, .int .i64 γ.1)], mkH [(1, Ob.box 27 [V.int IntKind.i64 t.number, V.str t.locator, V.str t.person.last, V.str t.person.first, V.str t.person.type, V.list (List.map Coupon.enc t.coupons) false, V.int IntKind.i64 t.fare, V.list (List.map Charge.enc t.taxes) false, V.int IntKind.i64 t.total, V.int IntKind.i64 t.issued]), (11, .box 48 [.own 999 γ.2.1.length]), (999, .arr 45 2 (faults γ.2.1))]⟩) (fun γ => t.taxes.length - γ.1) (0, g6, w, t.fare) ⟨Nat.zero_le _, by simp [tTo], Nat.le_refl _, by rw [hw, tRt, Bool.and_true], fun _ => by simp [tSum]⟩ ?_ ?_
    · refine Le.mk _ _ ?_ ?_ rfl <;> simp only [go_sem, ↓reduceIte, Nat.reduceEqDiff, reduceCtorEq, Nat.reduceAdd, Nat.reduceLT, Nat.reduceLeDiff, Nat.reduceBNe, Nat.reduceBEq, Int.reduceToNat] <;> (repeat' apply And.intro) <;> (try first | rfl | exact wk_frzb rfl rfl rfl | exact wk_fn rfl | exact .nilo _ _ _ rfl rfl | exact wk_frzm rfl rfl (fun kv hk => by obtain ⟨_, _, rfl⟩ := List.mem_map.1 hk; rfl))
    · rintro ⟨i, f, w2, sm⟩ ⟨hi, hf, hfl, hw2, hsm⟩ KL0 hKL0
      try dsimp only at *
      refine aw_seq (aw_region (EF := EFc) hG (by rw [hN]; exact tr8_12) ?_)
      simp only [a8_12, go_sem, ↓reduceIte, Nat.reduceEqDiff, reduceCtorEq, Nat.reduceAdd, Nat.reduceLT, Nat.reduceLeDiff, Nat.reduceBNe, Nat.reduceBEq, Int.reduceToNat, tCh, EFc, fRgt_eq, fLc_eq, fName_eq, fCode_eq, fAmt_eq, fFh_eq, fAdd_dec, fDy_eq, imp_self, and_true, true_and]
      refine aw_seq ?_
      refine aw_cond (b := _) rfl (fun hc12 => ?_) (fun hc12 => ?_)
      · simp only [decide_eq_true_eq, decide_eq_false_iff_not, Bool.and_eq_true, Bool.or_eq_true, Bool.not_eq_true', Bool.not_eq_false', Bool.and_eq_false_iff, Bool.or_eq_false_iff, Int.ofNat_lt, Int.ofNat_le, Nat.not_lt, Nat.not_le, Int.not_lt, Int.not_le] at hc12
        obtain ⟨x, hxx⟩ : ∃ x, x = t.taxes[i] := ⟨_, rfl⟩
        have hgd : t.taxes.getD i Charge.zero = x := by rw [List.getD_eq_getElem?_getD, List.getElem?_eq_getElem hc12, hxx]; rfl
        have hst : tTo t.taxes (i + 1) = tTo t.taxes i ++ fIf (!amtB x.amount) 11 (sTax ++ dec i) := by rw [tTo, hgd]
        have hss : tSum t.taxes (i + 1) = if amtB x.amount = true then tSum t.taxes i + x.amount else tSum t.taxes i := by rw [tSum, hgd]
        have hsr : tRt t.taxes (i + 1) = (tRt t.taxes i && amtB x.amount) := by rw [tRt, hgd]
        have hdl := dec_lenN (i := i) (by omega)
        have hii : inI (i : Int) := ⟨by omega, by omega⟩
        have htb := tSum_bd t.taxes i
        refine aw_skip ?_
        try simp only [go_sem, ↓reduceIte, Nat.reduceEqDiff, reduceCtorEq, Nat.reduceAdd, Nat.reduceLT, Nat.reduceLeDiff, Nat.reduceBNe, Nat.reduceBEq, Int.reduceToNat]
        refine aw_seq ?_
        refine aw_block ?_
        refine aw_seq (aw_region (EF := EFc) hG (by rw [hN]; exact tr8_13) ?_)
        simp only [a8_13, go_sem, ↓reduceIte, Nat.reduceEqDiff, reduceCtorEq, Nat.reduceAdd, Nat.reduceLT, Nat.reduceLeDiff, Nat.reduceBNe, Nat.reduceBEq, Int.reduceToNat, getD_mapd _ _ _ _ hc12, hc12, Charge.enc, ← hxx, List.length_map, tCh, EFc, fRgt_eq, fLc_eq, fName_eq, fCode_eq, fAmt_eq, fFh_eq, fAdd_dec, fDy_eq, imp_self, and_true, true_and]
        (repeat' apply And.intro) <;> (try first | omega | ((fail_if_success refine idW ?_); (fail_if_success refine idS ?_); intros; (repeat' apply And.intro) <;> first | assumption | omega | (simp_all; done)))
        refine aw_seq ?_
        obtain ⟨pos, hpos⟩ : ∃ pos, pos = sTax ++ dec i := ⟨_, rfl⟩
        have hpos2 : 116 :: 97 :: 120 :: 101 :: 115 :: 46 :: dec (i : Int) = pos := hpos.symm
        have hposl : pos.length ≤ 27 := by rw [hpos, List.length_append]; have : sTax.length = 6 := rfl; omega
        refine aw_seq (aw_region (EF := EFc) hG (by rw [hN]; exact tr8_14) ?_)
        simp only [a8_14, go_sem, ↓reduceIte, Nat.reduceEqDiff, reduceCtorEq, Nat.reduceAdd, Nat.reduceLT, Nat.reduceLeDiff, Nat.reduceBNe, Nat.reduceBEq, Int.reduceToNat, inI, hii, hpos2, tCh, EFc, fRgt_eq, fLc_eq, fName_eq, fCode_eq, fAmt_eq, fFh_eq, fAdd_dec, fDy_eq, imp_self, and_true, true_and]
        refine ⟨hii, by omega, ?_⟩
        refine fadd_use (g := f) (b := !amtB x.amount) (e := 11) (pos := pos) (by omega) rfl rfl (by decide) ?_
        simp only [go_sem, ↓reduceIte, Nat.reduceEqDiff, reduceCtorEq, Nat.reduceAdd, Nat.reduceLT, Nat.reduceLeDiff, Nat.reduceBNe, Nat.reduceBEq, Int.reduceToNat, fbO]
        obtain ⟨f1, hf1⟩ : ∃ f1, f1 = f ++ fIf (!amtB x.amount) 11 pos := ⟨_, rfl⟩
        have hf1l : f1.length ≤ f.length + 1 := by have := fIf_le (!amtB x.amount) 11 pos; rw [hf1, List.length_append]; omega
        rw [← hf1]
        have hfin : f1 = g6 ++ tTo t.taxes (i + 1) := by rw [hst, hf1, hf, hpos, List.append_assoc]
        refine aw_cond (b := _) rfl (fun hb14 => ?_) (fun hb14 => ?_)
        · skip
          have hab : amtB x.amount = false := by simpa using hb14
          refine aw_seq (aw_region (EF := EFc) hG (by rw [hN]; exact tr8_15) ?_)
          simp only [a8_15, go_sem, ↓reduceIte, Nat.reduceEqDiff, reduceCtorEq, Nat.reduceAdd, Nat.reduceLT, Nat.reduceLeDiff, Nat.reduceBNe, Nat.reduceBEq, Int.reduceToNat, tCh, EFc, fRgt_eq, fLc_eq, fName_eq, fCode_eq, fAmt_eq, fFh_eq, fAdd_dec, fDy_eq, imp_self, and_true, true_and]
          refine aw_exit ?_
          simp only [go_sem, ↓reduceIte, Nat.reduceEqDiff, reduceCtorEq, Nat.reduceAdd, Nat.reduceLT, Nat.reduceLeDiff, Nat.reduceBNe, Nat.reduceBEq, Int.reduceToNat]
          refine aw_region (EF := EFc) hG (by rw [hN]; exact tr8_17) ?_
          simp only [a8_17, go_sem, ↓reduceIte, Nat.reduceEqDiff, reduceCtorEq, Nat.reduceAdd, Nat.reduceLT, Nat.reduceLeDiff, Nat.reduceBNe, Nat.reduceBEq, Int.reduceToNat, inI, tCh, EFc, fRgt_eq, fLc_eq, fName_eq, fCode_eq, fAmt_eq, fFh_eq, fAdd_dec, fDy_eq, imp_self, and_true, true_and]
          (repeat' apply And.intro) <;> (try first | omega | ((fail_if_success refine idW ?_); (fail_if_success refine idS ?_); intros; (repeat' apply And.intro) <;> first | assumption | omega | (simp_all; done)))
          refine hKL0 (i + 1, f1, false, sm) _ ?_ ?_ ?_
          · (try dsimp only); exact ⟨hc12, hfin, by omega, by rw [hsr, hab, Bool.and_false, Bool.and_false], fun h => by rw [hss, if_neg (by rw [hab]; decide)]; exact hsm h⟩
          · (try dsimp only); omega
          · refine Le.mk _ _ ?_ ?_ rfl <;> simp only [go_sem, ↓reduceIte, Nat.reduceEqDiff, reduceCtorEq, Nat.reduceAdd, Nat.reduceLT, Nat.reduceLeDiff, Nat.reduceBNe, Nat.reduceBEq, Int.reduceToNat] <;> (repeat' apply And.intro) <;> (try first | rfl | exact wk_frzb rfl rfl rfl | exact wk_fn rfl | exact .nilo _ _ _ rfl rfl | exact wk_frzm rfl rfl (fun kv hk => by obtain ⟨_, _, rfl⟩ := List.mem_map.1 hk; rfl))
        · skip
          have hab : amtB x.amount = true := by simpa using hb14
          have hvb := amt_bd hab
          refine aw_skip ?_
          try simp only [go_sem, ↓reduceIte, Nat.reduceEqDiff, reduceCtorEq, Nat.reduceAdd, Nat.reduceLT, Nat.reduceLeDiff, Nat.reduceBNe, Nat.reduceBEq, Int.reduceToNat]
          refine aw_regionW (EF := EFc) hG (by rw [hN]; exact tr8_16) ?_
          simp only [a8_16, go_sem, ↓reduceIte, Nat.reduceEqDiff, reduceCtorEq, Nat.reduceAdd, Nat.reduceLT, Nat.reduceLeDiff, Nat.reduceBNe, Nat.reduceBEq, Int.reduceToNat, inI, tCh, EFc, fRgt_eq, fLc_eq, fName_eq, fCode_eq, fAmt_eq, fFh_eq, fAdd_dec, fDy_eq, imp_self, and_true, true_and]
          (repeat' apply And.intro) <;> (try first | omega | ((fail_if_success refine idW ?_); (fail_if_success refine idS ?_); intros; (repeat' apply And.intro) <;> first | assumption | omega | (simp_all; done)))
          refine aw_region (EF := EFc) hG (by rw [hN]; exact tr8_17) ?_
          simp only [a8_17, go_sem, ↓reduceIte, Nat.reduceEqDiff, reduceCtorEq, Nat.reduceAdd, Nat.reduceLT, Nat.reduceLeDiff, Nat.reduceBNe, Nat.reduceBEq, Int.reduceToNat, inI, tCh, EFc, fRgt_eq, fLc_eq, fName_eq, fCode_eq, fAmt_eq, fFh_eq, fAdd_dec, fDy_eq, imp_self, and_true, true_and]
          (repeat' apply And.intro) <;> (try first | omega | ((fail_if_success refine idW ?_); (fail_if_success refine idS ?_); intros; (repeat' apply And.intro) <;> first | assumption | omega | (simp_all; done)))
          refine hKL0 (i + 1, f1, w2, wr (sm + x.amount)) _ ?_ ?_ ?_
          · (try dsimp only); exact ⟨hc12, hfin, by omega, by rw [hsr, hab, Bool.and_true]; exact hw2, fun h => by have h1 := amt_bd h; rw [hss, if_pos hab, hsm h, wr_id (by unfold inI; omega)]; omega⟩
          · (try dsimp only); omega
          · refine Le.mk _ _ ?_ ?_ rfl <;> simp only [go_sem, ↓reduceIte, Nat.reduceEqDiff, reduceCtorEq, Nat.reduceAdd, Nat.reduceLT, Nat.reduceLeDiff, Nat.reduceBNe, Nat.reduceBEq, Int.reduceToNat] <;> (repeat' apply And.intro) <;> (try first | rfl | exact wk_frzb rfl rfl rfl | exact wk_fn rfl | exact .nilo _ _ _ rfl rfl | exact wk_frzm rfl rfl (fun kv hk => by obtain ⟨_, _, rfl⟩ := List.mem_map.1 hk; rfl))
      · simp only [decide_eq_true_eq, decide_eq_false_iff_not, Bool.and_eq_true, Bool.or_eq_true, Bool.not_eq_true', Bool.not_eq_false', Bool.and_eq_false_iff, Bool.or_eq_false_iff, Int.ofNat_lt, Int.ofNat_le, Nat.not_lt, Nat.not_le, Int.not_lt, Int.not_le] at hc12
        obtain rfl : i = t.taxes.length := by omega
        have htb2 : totB t = (w2 && !decide (sm = t.total)) := by (unfold totB; rw [← hw2]; cases h : w2 with | false => rfl | true => (rw [h] at hw2; have ha : amtB t.fare = true := (by have h3 := hw2.symm; rw [Bool.and_eq_true] at h3; exact h3.1); rw [hsm ha]))
        refine aw_exit ?_
        simp only [go_sem, ↓reduceIte, Nat.reduceEqDiff, reduceCtorEq, Nat.reduceAdd, Nat.reduceLT, Nat.reduceLeDiff, Nat.reduceBNe, Nat.reduceBEq, Int.reduceToNat]
        refine aw_seq (aw_region (EF := EFc) hG (by rw [hN]; exact tr8_18) ?_)
        simp only [a8_18, go_sem, ↓reduceIte, Nat.reduceEqDiff, reduceCtorEq, Nat.reduceAdd, Nat.reduceLT, Nat.reduceLeDiff, Nat.reduceBNe, Nat.reduceBEq, Int.reduceToNat, tCh, EFc, fRgt_eq, fLc_eq, fName_eq, fCode_eq, fAmt_eq, fFh_eq, fAdd_dec, fDy_eq, imp_self, and_true, true_and]
        refine fadd_use (g := f) (b := w2 && !decide (sm = t.total)) (e := 36) (pos := sTot) (by omega) rfl rfl (by decide) ?_
        simp only [go_sem, ↓reduceIte, Nat.reduceEqDiff, reduceCtorEq, Nat.reduceAdd, Nat.reduceLT, Nat.reduceLeDiff, Nat.reduceBNe, Nat.reduceBEq, Int.reduceToNat, fbO]
        obtain ⟨f2, hf2⟩ : ∃ f2, f2 = f ++ fIf (w2 && !decide (sm = t.total)) 36 sTot := ⟨_, rfl⟩
        have hf2l : f2.length ≤ f.length + 1 := by have := fIf_le (w2 && !decide (sm = t.total)) 36 sTot; rw [hf2, List.length_append]; omega
        rw [← hf2]
        refine aw_seq (aw_region (EF := EFc) hG (by rw [hN]; exact tr8_19) ?_)
        simp only [a8_19, go_sem, ↓reduceIte, Nat.reduceEqDiff, reduceCtorEq, Nat.reduceAdd, Nat.reduceLT, Nat.reduceLeDiff, Nat.reduceBNe, Nat.reduceBEq, Int.reduceToNat, tCh, EFc, fRgt_eq, fLc_eq, fName_eq, fCode_eq, fAmt_eq, fFh_eq, fAdd_dec, fDy_eq, imp_self, and_true, true_and]
        refine fadd_use (g := f2) (b := !dayB t.issued) (e := 12) (pos := sIss) (by omega) rfl rfl (by decide) ?_
        simp only [go_sem, ↓reduceIte, Nat.reduceEqDiff, reduceCtorEq, Nat.reduceAdd, Nat.reduceLT, Nat.reduceLeDiff, Nat.reduceBNe, Nat.reduceBEq, Int.reduceToNat, fbO]
        obtain ⟨f3, hf3⟩ : ∃ f3, f3 = f2 ++ fIf (!dayB t.issued) 12 sIss := ⟨_, rfl⟩
        rw [← hf3]
        have hend : f3 = chkT t := by rw [hf3, hf2, hf, hg6, hg5, hg4, hg3, hg2, hg1, ← htb2]; unfold chkT; simp only [List.append_assoc]
        refine aw_seq (aw_region (EF := EFc) hG (by rw [hN]; exact tr8_20) ?_)
        simp only [a8_20, go_sem, ↓reduceIte, Nat.reduceEqDiff, reduceCtorEq, Nat.reduceAdd, Nat.reduceLT, Nat.reduceLeDiff, Nat.reduceBNe, Nat.reduceBEq, Int.reduceToNat, tCh, EFc, fRgt_eq, fLc_eq, fName_eq, fCode_eq, fAmt_eq, fFh_eq, fAdd_dec, fDy_eq, imp_self, and_true, true_and]
        refine AW.le (s' := ⟨mkE [(2, .list (faults f3) false)], mkH []⟩) (Le.mk _ _ ?_ ?_ rfl) (aw_ret (hQ _ _ (.inl rfl) ?_ ?_ ?_)) <;> simp only [outφ, outV, AR.res, go_sem, ↓reduceIte, Nat.reduceEqDiff, reduceCtorEq, Nat.reduceAdd, Nat.reduceLT, Nat.reduceLeDiff, Nat.reduceBNe, Nat.reduceBEq, Int.reduceToNat, fChT, hend]
        · exact wk_frz rfl (by rw [faults_len]) rfl (faults_pur _)
end Go.Proofs.YtffapkiilkeadaaDoor
