/- Ticket numbers, and what makes a coupon void: both. -/
import Derived.Test.YtffapkiilkeadaaDoorIs1
namespace Go.Proofs.YtffapkiilkeadaaDoor
open Go Go.RowKit
set_option linter.unusedSimpArgs false
set_option linter.unusedVariables false
set_option linter.deprecated false
def aTwoN (x : Int × Int) : List V := [.int .i64 x.1, .int .i64 x.2]
theorem aTwoN_inj (a b : Int × Int) (h : aTwoN a = aTwoN b) : a = b := by
  obtain ⟨a_a, a_b⟩ := a
  obtain ⟨b_a, b_b⟩ := b
  simp only [aTwoN, List.cons.injEq, V.str.injEq, V.int.injEq, V.bool.injEq, V.agg.injEq, V.list.injEq, and_true, true_and] at h
  obtain ⟨h0, h1⟩ := h
  subst h0
  subst h1
  rfl
def tupI (y : Int × Int) : V := .tup [.int .i64 y.1, .int .i64 y.2]
def makM (c s : Int) : Int × Int := if c < 1 ∨ 1000 ≤ c ∨ s < 0 ∨ 10000000000 ≤ s then (0, 2) else ((c * 10000000000 + s) * 10 + (c * 10000000000 + s) % 7, 0)
def fMk (x : Int × Int) : Prop × V := (True, tupI (makM x.1 x.2))
theorem fMk_eq (a b : Int) : gOf aTwoN fMk [.int .i64 a, .int .i64 b] = (True, tupI (makM a b)) := gOf_eq aTwoN_inj (a, b)
def fCk (x : Int × Int) : Prop × V := (1 ≤ x.1 ∧ x.1 < 1000 ∧ 0 ≤ x.2 ∧ x.2 < 10000000000, .int .i64 ((x.1 * 10000000000 + x.2) % 7))
theorem fCk_eq (a b : Int) : gOf aTwoN fCk [.int .i64 a, .int .i64 b] = (1 ≤ a ∧ a < 1000 ∧ 0 ≤ b ∧ b < 10000000000, .int .i64 ((a * 10000000000 + b) % 7)) := gOf_eq aTwoN_inj (a, b)
theorem dcheck_p : PureC Tryd.prog UT 64 (gOf aTwoN fCk) := by
  have hG := tNo_ok
  refine PureC.ofArgs aTwoN_inj Tryd.func64 body64 nm64 res64 ?_
  rintro ⟨c, s⟩ hv
  refine ⟨by rw [nt64]; simp [aTwoN], fun C hN Q hQ => ?_⟩
  rw [nt64] at hN
  unfold c64
  obtain ⟨h1, h2, h3, h4⟩ : 1 ≤ c ∧ c < 1000 ∧ 0 ≤ s ∧ s < 10000000000 := hv
  refine aw_seq (aw_region (EF := EF0) hG (by rw [hN]; exact tr64_0) ?_)
  simp only [a64_0, go_sem, ↓reduceIte, Nat.reduceEqDiff, reduceCtorEq, Nat.reduceAdd, Nat.reduceLT, Nat.reduceLeDiff, Nat.reduceBNe, Nat.reduceBEq, Int.reduceToNat, aTwoN]
  refine aw_seq (aw_region (EF := EF0) hG (by rw [hN]; exact tr64_1) ?_)
  simp only [a64_1, go_sem, ↓reduceIte, Nat.reduceEqDiff, reduceCtorEq, Nat.reduceAdd, Nat.reduceLT, Nat.reduceLeDiff, Nat.reduceBNe, Nat.reduceBEq, Int.reduceToNat, inI]
  (repeat' apply And.intro) <;> (try first | omega | ((fail_if_success refine idW ?_); (fail_if_success refine idS ?_); intros; (repeat' apply And.intro) <;> first | assumption | omega | (simp_all; done)))
  refine aw_ret ?_
  show Q _ _
  refine hQ _ _ (.inl rfl) ?_ ?_ ?_ <;> simp only [outφ, outV, AR.res, go_sem, ↓reduceIte, Nat.reduceEqDiff, reduceCtorEq, Nat.reduceAdd, Nat.reduceLT, Nat.reduceLeDiff, Nat.reduceBNe, Nat.reduceBEq, Int.reduceToNat, fCk]
  rw [Int.tmod_eq_emod_of_nonneg (by omega)]
noncomputable def tMk : Tab
  | 64 => (gOf aTwoN fCk)
  | _ => gNo
theorem tMk_ok : ∀ f, PureC Tryd.prog UT f (tMk f) := fun f => by
  unfold tMk
  split
  · exact dcheck_p
  · exact PureC.no
theorem make_p : PureC Tryd.prog UT 55 (gOf aTwoN fMk) := by
  have hG := tMk_ok
  refine PureC.ofArgs aTwoN_inj Tryd.func55 body55 nm55 res55 ?_
  rintro ⟨c, s⟩ hv
  refine ⟨by rw [nt55]; simp [aTwoN], fun C hN Q hQ => ?_⟩
  rw [nt55] at hN
  unfold c55
  refine aw_seq (aw_region (EF := EF0) hG (by rw [hN]; exact tr55_0) ?_)
  simp only [a55_0, go_sem, ↓reduceIte, Nat.reduceEqDiff, reduceCtorEq, Nat.reduceAdd, Nat.reduceLT, Nat.reduceLeDiff, Nat.reduceBNe, Nat.reduceBEq, Int.reduceToNat, aTwoN, tMk, fCk_eq]
  refine aw_seq ?_
  refine aw_seq (aw_region (EF := EF0) hG (by rw [hN]; exact tr55_1) ?_)
  simp only [a55_1, go_sem, ↓reduceIte, Nat.reduceEqDiff, reduceCtorEq, Nat.reduceAdd, Nat.reduceLT, Nat.reduceLeDiff, Nat.reduceBNe, Nat.reduceBEq, Int.reduceToNat, tMk, fCk_eq]
  (repeat' apply And.intro) <;> (try first | omega | ((fail_if_success refine idW ?_); (fail_if_success refine idS ?_); intros; (repeat' apply And.intro) <;> first | assumption | omega | (simp_all; done)))
  refine aw_cond (b := _) rfl (fun hb1 => ?_) (fun hb1 => ?_)
  · skip
    have hm : makM c s = (0, 2) := by unfold makM; rw [if_pos (by simp only [Bool.or_eq_true, decide_eq_true_eq] at hb1; omega)]
    refine aw_seq (aw_region (EF := EF0) hG (by rw [hN]; exact tr55_2) ?_)
    simp only [a55_2, go_sem, ↓reduceIte, Nat.reduceEqDiff, reduceCtorEq, Nat.reduceAdd, Nat.reduceLT, Nat.reduceLeDiff, Nat.reduceBNe, Nat.reduceBEq, Int.reduceToNat, tMk, fCk_eq]
    refine aw_ret ?_
    show Q _ _
    refine hQ _ _ (.inl rfl) ?_ ?_ ?_ <;> simp only [outφ, outV, AR.res, go_sem, ↓reduceIte, Nat.reduceEqDiff, reduceCtorEq, Nat.reduceAdd, Nat.reduceLT, Nat.reduceLeDiff, Nat.reduceBNe, Nat.reduceBEq, Int.reduceToNat, fMk, tupI, hm]
  · skip
    have hb : 1 ≤ c ∧ c < 1000 ∧ 0 ≤ s ∧ s < 10000000000 := by simp only [Bool.or_eq_false_iff, decide_eq_false_iff_not] at hb1; omega
    have hm : makM c s = ((c * 10000000000 + s) * 10 + (c * 10000000000 + s) % 7, 0) := by unfold makM; rw [if_neg (by omega)]
    refine aw_skip ?_
    try simp only [go_sem, ↓reduceIte, Nat.reduceEqDiff, reduceCtorEq, Nat.reduceAdd, Nat.reduceLT, Nat.reduceLeDiff, Nat.reduceBNe, Nat.reduceBEq, Int.reduceToNat]
    refine aw_seq (aw_region (EF := EF0) hG (by rw [hN]; exact tr55_3) ?_)
    simp only [a55_3, go_sem, ↓reduceIte, Nat.reduceEqDiff, reduceCtorEq, Nat.reduceAdd, Nat.reduceLT, Nat.reduceLeDiff, Nat.reduceBNe, Nat.reduceBEq, Int.reduceToNat, inI, tMk, fCk_eq]
    (repeat' apply And.intro) <;> (try first | omega | ((fail_if_success refine idW ?_); (fail_if_success refine idS ?_); intros; (repeat' apply And.intro) <;> first | assumption | omega | (simp_all; done)))
    refine aw_ret ?_
    show Q _ _
    refine hQ _ _ (.inl rfl) ?_ ?_ ?_ <;> simp only [outφ, outV, AR.res, go_sem, ↓reduceIte, Nat.reduceEqDiff, reduceCtorEq, Nat.reduceAdd, Nat.reduceLT, Nat.reduceLeDiff, Nat.reduceBNe, Nat.reduceBEq, Int.reduceToNat, fMk, tupI, hm]
theorem rmake_p : PureC Tryd.prog UT 45 (gOf aTwoN fMk) := by
  have hG := tNo_ok
  refine PureC.ofArgs aTwoN_inj Tryd.func45 body45 nm45 res45 ?_
  rintro ⟨c, s⟩ hv
  refine ⟨by rw [nt45]; simp [aTwoN], fun C hN Q hQ => ?_⟩
  rw [nt45] at hN
  unfold c45
  refine aw_seq (aw_region (EF := EF0) hG (by rw [hN]; exact tr45_0) ?_)
  simp only [a45_0, go_sem, ↓reduceIte, Nat.reduceEqDiff, reduceCtorEq, Nat.reduceAdd, Nat.reduceLT, Nat.reduceLeDiff, Nat.reduceBNe, Nat.reduceBEq, Int.reduceToNat, aTwoN, tNo]
  refine aw_seq ?_
  refine aw_seq (aw_region (EF := EF0) hG (by rw [hN]; exact tr45_1) ?_)
  simp only [a45_1, go_sem, ↓reduceIte, Nat.reduceEqDiff, reduceCtorEq, Nat.reduceAdd, Nat.reduceLT, Nat.reduceLeDiff, Nat.reduceBNe, Nat.reduceBEq, Int.reduceToNat, tNo]
  (repeat' apply And.intro) <;> (try first | omega | ((fail_if_success refine idW ?_); (fail_if_success refine idS ?_); intros; (repeat' apply And.intro) <;> first | assumption | omega | (simp_all; done)))
  refine aw_cond (b := _) rfl (fun hb1 => ?_) (fun hb1 => ?_)
  · skip
    have hm : makM c s = (0, 2) := by unfold makM; rw [if_pos (by simp only [Bool.or_eq_true, decide_eq_true_eq] at hb1; omega)]
    refine aw_seq (aw_region (EF := EF0) hG (by rw [hN]; exact tr45_2) ?_)
    simp only [a45_2, go_sem, ↓reduceIte, Nat.reduceEqDiff, reduceCtorEq, Nat.reduceAdd, Nat.reduceLT, Nat.reduceLeDiff, Nat.reduceBNe, Nat.reduceBEq, Int.reduceToNat, tNo]
    refine aw_ret ?_
    show Q _ _
    refine hQ _ _ (.inl rfl) ?_ ?_ ?_ <;> simp only [outφ, outV, AR.res, go_sem, ↓reduceIte, Nat.reduceEqDiff, reduceCtorEq, Nat.reduceAdd, Nat.reduceLT, Nat.reduceLeDiff, Nat.reduceBNe, Nat.reduceBEq, Int.reduceToNat, fMk, tupI, hm]
  · skip
    have hb : 1 ≤ c ∧ c < 1000 ∧ 0 ≤ s ∧ s < 10000000000 := by simp only [Bool.or_eq_false_iff, decide_eq_false_iff_not] at hb1; omega
    have hm : makM c s = (10 * (c * 10000000000 + s) + (c * 10000000000 + s).tmod 7, 0) := by unfold makM; rw [if_neg (by omega), Int.tmod_eq_emod_of_nonneg (by omega), Int.mul_comm 10]
    refine aw_skip ?_
    try simp only [go_sem, ↓reduceIte, Nat.reduceEqDiff, reduceCtorEq, Nat.reduceAdd, Nat.reduceLT, Nat.reduceLeDiff, Nat.reduceBNe, Nat.reduceBEq, Int.reduceToNat]
    refine aw_seq (aw_region (EF := EF0) hG (by rw [hN]; exact tr45_3) ?_)
    simp only [a45_3, go_sem, ↓reduceIte, Nat.reduceEqDiff, reduceCtorEq, Nat.reduceAdd, Nat.reduceLT, Nat.reduceLeDiff, Nat.reduceBNe, Nat.reduceBEq, Int.reduceToNat, inI, tNo]
    (repeat' apply And.intro) <;> (try first | omega | ((fail_if_success refine idW ?_); (fail_if_success refine idS ?_); intros; (repeat' apply And.intro) <;> first | assumption | omega | (simp_all; done)))
    have hmb : 0 ≤ (c * 10000000000 + s).tmod 7 ∧ (c * 10000000000 + s).tmod 7 < 7 := by rw [Int.tmod_eq_emod_of_nonneg (by omega)]; omega
    refine aw_seq (aw_region (EF := EF0) hG (by rw [hN]; exact tr45_4) ?_)
    simp only [a45_4, go_sem, ↓reduceIte, Nat.reduceEqDiff, reduceCtorEq, Nat.reduceAdd, Nat.reduceLT, Nat.reduceLeDiff, Nat.reduceBNe, Nat.reduceBEq, Int.reduceToNat, inI, tNo]
    (repeat' apply And.intro) <;> (try first | omega | ((fail_if_success refine idW ?_); (fail_if_success refine idS ?_); intros; (repeat' apply And.intro) <;> first | assumption | omega | (simp_all; done)))
    refine aw_ret ?_
    show Q _ _
    refine hQ _ _ (.inl rfl) ?_ ?_ ?_ <;> simp only [outφ, outV, AR.res, go_sem, ↓reduceIte, Nat.reduceEqDiff, reduceCtorEq, Nat.reduceAdd, Nat.reduceLT, Nat.reduceLeDiff, Nat.reduceBNe, Nat.reduceBEq, Int.reduceToNat, fMk, tupI, hm]
def carN (n : Int) : Int := (n.tdiv 10).tdiv 10000000000
def serN (n : Int) : Int := (n.tdiv 10).tmod 10000000000
def rightN (n : Int) : Bool := decide (makM (carN n) (serN n) = (n, 0))
def prtM (n : Int) : Int × Int × Bool := if rightN n then (carN n, serN n, true) else (0, 0, false)
def fPrt (n : Int) : Prop × V := (inI n, .tup [.int .i64 (prtM n).1, .int .i64 (prtM n).2.1, .bool (prtM n).2.2])
theorem fPrt_eq (n : Int) : gOf aInt fPrt [.int .i64 n] = (inI n, .tup [.int .i64 (prtM n).1, .int .i64 (prtM n).2.1, .bool (prtM n).2.2]) := gOf_eq aInt_inj n
def fRgt (n : Int) : Prop × V := (inI n, .bool (rightN n))
theorem fRgt_eq (n : Int) : gOf aInt fRgt [.int .i64 n] = (inI n, .bool (rightN n)) := gOf_eq aInt_inj n
theorem tdiv_sg (n k : Int) : (0 ≤ n → n.tdiv k = n / k) ∧ (n ≤ 0 → n.tdiv k = -((-n) / k)) := by
  refine ⟨fun h => Int.tdiv_eq_ediv_of_nonneg h, fun h => ?_⟩
  have h1 : (-n).tdiv k = (-n) / k := Int.tdiv_eq_ediv_of_nonneg (by omega)
  rw [← h1, Int.neg_tdiv, Int.neg_neg]
theorem d10_in {n : Int} (h : inI n) : inI (n.tdiv 10) ∧ inI (n.tdiv 10000000000) := by
  unfold inI at *
  obtain ⟨a1, a2⟩ := tdiv_sg n 10
  obtain ⟨b1, b2⟩ := tdiv_sg n 10000000000
  rcases Int.le_total 0 n with h0 | h0
  · rw [a1 h0, b1 h0]; omega
  · rw [a2 h0, b2 h0]; omega
theorem right_neg {n : Int} (h : n < 0) : rightN n = false := by
  have h1 : carN n ≤ 0 := by
    unfold carN
    have h2 : n.tdiv 10 ≤ 0 := by rw [(tdiv_sg n 10).2 (by omega)]; omega
    rw [(tdiv_sg _ 10000000000).2 h2]; omega
  unfold rightN makM
  rw [if_pos (by omega)]
  exact decide_eq_false fun h => by injection h with _ h; cases h
noncomputable def tPr : Tab
  | 55 => (gOf aTwoN fMk)
  | _ => gNo
theorem tPr_ok : ∀ f, PureC Tryd.prog UT f (tPr f) := fun f => by
  unfold tPr
  split
  · exact make_p
  · exact PureC.no
theorem parts_p : PureC Tryd.prog UT 35 (gOf aInt fPrt) := by
  have hG := tPr_ok
  refine PureC.ofArgs aInt_inj Tryd.func35 body35 nm35 res35 ?_
  rintro n hv
  refine ⟨by rw [nt35]; simp [aInt], fun C hN Q hQ => ?_⟩
  rw [nt35] at hN
  unfold c35
  replace hv : inI n := hv
  obtain ⟨⟨m, e⟩, hme⟩ : ∃ y, makM (carN n) (serN n) = y := ⟨_, rfl⟩
  have hrt : rightN n = decide ((m, e) = (n, (0 : Int))) := by unfold rightN; rw [hme]
  unfold carN serN at hme
  obtain ⟨q1, q2⟩ := d10_in hv
  obtain ⟨q3, q4⟩ := d10_in q1
  unfold inI at q1 q4
  refine aw_seq (aw_region (EF := EF0) hG (by rw [hN]; exact tr35_0) ?_)
  simp only [a35_0, go_sem, ↓reduceIte, Nat.reduceEqDiff, reduceCtorEq, Nat.reduceAdd, Nat.reduceLT, Nat.reduceLeDiff, Nat.reduceBNe, Nat.reduceBEq, Int.reduceToNat, aInt, tPr, fMk_eq]
  refine aw_seq (aw_region (EF := EF0) hG (by rw [hN]; exact tr35_1) ?_)
  simp only [a35_1, go_sem, ↓reduceIte, Nat.reduceEqDiff, reduceCtorEq, Nat.reduceAdd, Nat.reduceLT, Nat.reduceLeDiff, Nat.reduceBNe, Nat.reduceBEq, Int.reduceToNat, tPr, fMk_eq]
  (repeat' apply And.intro) <;> (try first | omega | ((fail_if_success refine idW ?_); (fail_if_success refine idS ?_); intros; (repeat' apply And.intro) <;> first | assumption | omega | (simp_all; done)))
  refine aw_seq (aw_region (EF := EF0) hG (by rw [hN]; exact tr35_2) ?_)
  simp only [a35_2, go_sem, ↓reduceIte, Nat.reduceEqDiff, reduceCtorEq, Nat.reduceAdd, Nat.reduceLT, Nat.reduceLeDiff, Nat.reduceBNe, Nat.reduceBEq, Int.reduceToNat, hme, tupI, tPr, fMk_eq]
  (repeat' apply And.intro) <;> (try first | omega | ((fail_if_success refine idW ?_); (fail_if_success refine idS ?_); intros; (repeat' apply And.intro) <;> first | assumption | omega | (simp_all; done)))
  refine aw_seq ?_
  refine aw_seq (aw_region (EF := EF0) hG (by rw [hN]; exact tr35_3) ?_)
  simp only [a35_3, go_sem, ↓reduceIte, Nat.reduceEqDiff, reduceCtorEq, Nat.reduceAdd, Nat.reduceLT, Nat.reduceLeDiff, Nat.reduceBNe, Nat.reduceBEq, Int.reduceToNat, tPr, fMk_eq]
  (repeat' apply And.intro) <;> (try first | omega | ((fail_if_success refine idW ?_); (fail_if_success refine idS ?_); intros; (repeat' apply And.intro) <;> first | assumption | omega | (simp_all; done)))
  refine aw_cond (b := _) rfl (fun hb3 => ?_) (fun hb3 => ?_)
  · skip
    have hr : rightN n = false := by rw [hrt]; refine decide_eq_false fun h => ?_; injection h with h1 h2; simp [h1, h2] at hb3
    refine aw_seq (aw_region (EF := EF0) hG (by rw [hN]; exact tr35_4) ?_)
    simp only [a35_4, go_sem, ↓reduceIte, Nat.reduceEqDiff, reduceCtorEq, Nat.reduceAdd, Nat.reduceLT, Nat.reduceLeDiff, Nat.reduceBNe, Nat.reduceBEq, Int.reduceToNat, tPr, fMk_eq]
    refine aw_ret ?_
    show Q _ _
    refine hQ _ _ (.inl rfl) ?_ ?_ ?_ <;> simp only [outφ, outV, AR.res, go_sem, ↓reduceIte, Nat.reduceEqDiff, reduceCtorEq, Nat.reduceAdd, Nat.reduceLT, Nat.reduceLeDiff, Nat.reduceBNe, Nat.reduceBEq, Int.reduceToNat, fPrt, prtM, hr]
  · skip
    have hr : rightN n = true := by rw [hrt]; refine decide_eq_true ?_; simp at hb3; rw [hb3.1, hb3.2]
    refine aw_skip ?_
    try simp only [go_sem, ↓reduceIte, Nat.reduceEqDiff, reduceCtorEq, Nat.reduceAdd, Nat.reduceLT, Nat.reduceLeDiff, Nat.reduceBNe, Nat.reduceBEq, Int.reduceToNat]
    refine aw_seq (aw_region (EF := EF0) hG (by rw [hN]; exact tr35_5) ?_)
    simp only [a35_5, go_sem, ↓reduceIte, Nat.reduceEqDiff, reduceCtorEq, Nat.reduceAdd, Nat.reduceLT, Nat.reduceLeDiff, Nat.reduceBNe, Nat.reduceBEq, Int.reduceToNat, tPr, fMk_eq]
    refine aw_ret ?_
    show Q _ _
    refine hQ _ _ (.inl rfl) ?_ ?_ ?_ <;> simp only [outφ, outV, AR.res, go_sem, ↓reduceIte, Nat.reduceEqDiff, reduceCtorEq, Nat.reduceAdd, Nat.reduceLT, Nat.reduceLeDiff, Nat.reduceBNe, Nat.reduceBEq, Int.reduceToNat, fPrt, prtM, hr, carN, serN]
noncomputable def tRg : Tab
  | 35 => (gOf aInt fPrt)
  | _ => gNo
theorem tRg_ok : ∀ f, PureC Tryd.prog UT f (tRg f) := fun f => by
  unfold tRg
  split
  · exact parts_p
  · exact PureC.no
theorem right_p : PureC Tryd.prog UT 15 (gOf aInt fRgt) := by
  have hG := tRg_ok
  refine PureC.ofArgs aInt_inj Tryd.func15 body15 nm15 res15 ?_
  rintro n hv
  refine ⟨by rw [nt15]; simp [aInt], fun C hN Q hQ => ?_⟩
  rw [nt15] at hN
  unfold c15
  replace hv : inI n := hv
  refine aw_seq (aw_region (EF := EF0) hG (by rw [hN]; exact tr15_0) ?_)
  simp only [a15_0, go_sem, ↓reduceIte, Nat.reduceEqDiff, reduceCtorEq, Nat.reduceAdd, Nat.reduceLT, Nat.reduceLeDiff, Nat.reduceBNe, Nat.reduceBEq, Int.reduceToNat, aInt, tRg, fPrt_eq]
  refine aw_seq (aw_region (EF := EF0) hG (by rw [hN]; exact tr15_1) ?_)
  simp only [a15_1, go_sem, ↓reduceIte, Nat.reduceEqDiff, reduceCtorEq, Nat.reduceAdd, Nat.reduceLT, Nat.reduceLeDiff, Nat.reduceBNe, Nat.reduceBEq, Int.reduceToNat, hv, tRg, fPrt_eq]
  (repeat' apply And.intro) <;> (try first | omega | ((fail_if_success refine idW ?_); (fail_if_success refine idS ?_); intros; (repeat' apply And.intro) <;> first | assumption | omega | (simp_all; done)))
  refine aw_seq (aw_region (EF := EF0) hG (by rw [hN]; exact tr15_2) ?_)
  simp only [a15_2, go_sem, ↓reduceIte, Nat.reduceEqDiff, reduceCtorEq, Nat.reduceAdd, Nat.reduceLT, Nat.reduceLeDiff, Nat.reduceBNe, Nat.reduceBEq, Int.reduceToNat, tRg, fPrt_eq]
  refine aw_ret ?_
  show Q _ _
  refine hQ _ _ (.inl rfl) ?_ ?_ ?_ <;> simp only [outφ, outV, AR.res, go_sem, ↓reduceIte, Nat.reduceEqDiff, reduceCtorEq, Nat.reduceAdd, Nat.reduceLT, Nat.reduceLeDiff, Nat.reduceBNe, Nat.reduceBEq, Int.reduceToNat, fRgt]
  unfold prtM; split <;> simp_all
noncomputable def trRg : Tab
  | 45 => (gOf aTwoN fMk)
  | _ => gNo
theorem trRg_ok : ∀ f, PureC Tryd.prog UT f (trRg f) := fun f => by
  unfold trRg
  split
  · exact rmake_p
  · exact PureC.no
theorem rright_p : PureC Tryd.prog UT 24 (gOf aInt fRgt) := by
  have hG := trRg_ok
  refine PureC.ofArgs aInt_inj Tryd.func24 body24 nm24 res24 ?_
  rintro n hv
  refine ⟨by rw [nt24]; simp [aInt], fun C hN Q hQ => ?_⟩
  rw [nt24] at hN
  unfold c24
  replace hv : inI n := hv
  obtain ⟨⟨m, e⟩, hme⟩ : ∃ y, makM (carN n) (serN n) = y := ⟨_, rfl⟩
  have hrt : rightN n = decide ((m, e) = (n, (0 : Int))) := by unfold rightN; rw [hme]
  refine aw_seq (aw_region (EF := EF0) hG (by rw [hN]; exact tr24_0) ?_)
  simp only [a24_0, go_sem, ↓reduceIte, Nat.reduceEqDiff, reduceCtorEq, Nat.reduceAdd, Nat.reduceLT, Nat.reduceLeDiff, Nat.reduceBNe, Nat.reduceBEq, Int.reduceToNat, aInt, trRg, fMk_eq]
  refine aw_seq ?_
  refine aw_seq (aw_region (EF := EF0) hG (by rw [hN]; exact tr24_1) ?_)
  simp only [a24_1, go_sem, ↓reduceIte, Nat.reduceEqDiff, reduceCtorEq, Nat.reduceAdd, Nat.reduceLT, Nat.reduceLeDiff, Nat.reduceBNe, Nat.reduceBEq, Int.reduceToNat, trRg, fMk_eq]
  refine aw_cond (b := _) rfl (fun hc1 => ?_) (fun hc1 => ?_)
  · simp only [decide_eq_true_eq, decide_eq_false_iff_not, Bool.and_eq_true, Bool.or_eq_true, Bool.not_eq_true', Bool.not_eq_false', Bool.and_eq_false_iff, Bool.or_eq_false_iff, Int.ofNat_lt, Int.ofNat_le, Nat.not_lt, Nat.not_le, Int.not_lt, Int.not_le] at hc1
    refine aw_seq (aw_region (EF := EF0) hG (by rw [hN]; exact tr24_2) ?_)
    simp only [a24_2, go_sem, ↓reduceIte, Nat.reduceEqDiff, reduceCtorEq, Nat.reduceAdd, Nat.reduceLT, Nat.reduceLeDiff, Nat.reduceBNe, Nat.reduceBEq, Int.reduceToNat, trRg, fMk_eq]
    refine aw_ret ?_
    show Q _ _
    refine hQ _ _ (.inl rfl) ?_ ?_ ?_ <;> simp only [outφ, outV, AR.res, go_sem, ↓reduceIte, Nat.reduceEqDiff, reduceCtorEq, Nat.reduceAdd, Nat.reduceLT, Nat.reduceLeDiff, Nat.reduceBNe, Nat.reduceBEq, Int.reduceToNat, fRgt]
    rw [right_neg hc1]
  · simp only [decide_eq_true_eq, decide_eq_false_iff_not, Bool.and_eq_true, Bool.or_eq_true, Bool.not_eq_true', Bool.not_eq_false', Bool.and_eq_false_iff, Bool.or_eq_false_iff, Int.ofNat_lt, Int.ofNat_le, Nat.not_lt, Nat.not_le, Int.not_lt, Int.not_le] at hc1
    refine aw_skip ?_
    try simp only [go_sem, ↓reduceIte, Nat.reduceEqDiff, reduceCtorEq, Nat.reduceAdd, Nat.reduceLT, Nat.reduceLeDiff, Nat.reduceBNe, Nat.reduceBEq, Int.reduceToNat]
    unfold carN serN at hme
    obtain ⟨q1, q2⟩ := d10_in hv
    obtain ⟨q3, q4⟩ := d10_in q1
    unfold inI at q1 q4
    refine aw_seq (aw_region (EF := EF0) hG (by rw [hN]; exact tr24_3) ?_)
    simp only [a24_3, go_sem, ↓reduceIte, Nat.reduceEqDiff, reduceCtorEq, Nat.reduceAdd, Nat.reduceLT, Nat.reduceLeDiff, Nat.reduceBNe, Nat.reduceBEq, Int.reduceToNat, hme, tupI, trRg, fMk_eq]
    (repeat' apply And.intro) <;> (try first | omega | ((fail_if_success refine idW ?_); (fail_if_success refine idS ?_); intros; (repeat' apply And.intro) <;> first | assumption | omega | (simp_all; done)))
    refine aw_seq (aw_region (EF := EF0) hG (by rw [hN]; exact tr24_4) ?_)
    simp only [a24_4, go_sem, ↓reduceIte, Nat.reduceEqDiff, reduceCtorEq, Nat.reduceAdd, Nat.reduceLT, Nat.reduceLeDiff, Nat.reduceBNe, Nat.reduceBEq, Int.reduceToNat, trRg, fMk_eq]
    (repeat' apply And.intro) <;> (try first | omega | ((fail_if_success refine idW ?_); (fail_if_success refine idS ?_); intros; (repeat' apply And.intro) <;> first | assumption | omega | (simp_all; done)))
    refine aw_ret ?_
    show Q _ _
    refine hQ _ _ (.inl rfl) ?_ ?_ ?_ <;> simp only [outφ, outV, AR.res, go_sem, ↓reduceIte, Nat.reduceEqDiff, reduceCtorEq, Nat.reduceAdd, Nat.reduceLT, Nat.reduceLeDiff, Nat.reduceBNe, Nat.reduceBEq, Int.reduceToNat, fRgt]
    rw [hrt]; by_cases h1 : m = n <;> by_cases h2 : e = 0 <;> simp [h1, h2]
end Go.Proofs.YtffapkiilkeadaaDoor
