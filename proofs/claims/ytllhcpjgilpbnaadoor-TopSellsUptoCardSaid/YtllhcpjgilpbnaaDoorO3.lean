import Derived.Test.YtllhcpjgilpbnaaDoorTp4
import Derived.OpenShut
import Derived.SizedLaws
import Derived.Test.YtllhcpjgilpbnaaDoorAv21
import Derived.Test.YtllhcpjgilpbnaaDoorCa5
import Derived.Test.YtllhcpjgilpbnaaDoorRows
namespace Go.Proofs.YtllhcpjgilpbnaaDoor
open Go Go.RowKit
set_option linter.unusedSimpArgs false
set_option linter.unusedVariables false
set_option linter.deprecated false
theorem ag_one {cargs : Array Value} (h : cargs.size = 1) : cargs = #[cargs.getD 0 undef] := by
  obtain ⟨l⟩ := cargs
  match l, h with
  | [a], _ => rfl
theorem ag_two {cargs : Array Value} (h : cargs.size = 2) : cargs = #[cargs.getD 0 undef, cargs.getD 1 undef] := by
  obtain ⟨l⟩ := cargs
  match l, h with
  | [a, b], _ => rfl
theorem ag_three {cargs : Array Value} (h : cargs.size = 3) : cargs = #[cargs.getD 0 undef, cargs.getD 1 undef, cargs.getD 2 undef] := by
  obtain ⟨l⟩ := cargs
  match l, h with
  | [a, b, c], _ => rfl
theorem pur_int {M : Nat → Prop} {w : World} {k : IntKind} {n : Int} {cv : Value} (h : Pur M w (.int k n) cv) : cv = .int k n := by cases h; rfl
def gLenF : List V → Prop × V
  | [.int .i64 y, .int .i64 m] => (y = 2026 ∧ m = 1, .int .i64 31)
  | _ => (False, .any)
theorem length_p : PureC Tryd.prog UT 54 gLenF := by
  refine PureC.leaf Tryd.func54 body54 nm54 fun vs M w cargs hg hB hsz ha => ?_
  unfold gLenF at hg ⊢
  split at hg
  · obtain ⟨rfl, rfl⟩ := hg
    have e0 := pur_int (ha 0 _ rfl)
    have e1 := pur_int (ha 1 _ rfl)
    rw [ag_two hsz, e0, e1]
    refine (length_c w (utL hB)).mono ?_
    rintro e w' ⟨rfl, rfl⟩
    exact ⟨_, rfl, fun _ => .int _ _, Below.refl _ _⟩
  · exact hg.elim
def gCnt : List V → Prop × V
  | [.agg [.int .i64 a, .int .i64 b, .int .i64 c]] => (a = 9497 ∧ b = 9503 ∧ c = 96, .int .i64 2)
  | _ => (False, .any)
theorem count_p : PureC Tryd.prog UT 17 gCnt := by
  refine PureC.leaf Tryd.func17 rfl (by kernel_rfl) fun vs M w cargs hg hB hsz ha => ?_
  unfold gCnt at hg ⊢
  split at hg
  · obtain ⟨rfl, rfl, rfl⟩ := hg
    have h0 := ha 0 _ rfl
    rw [ag_one hsz]
    generalize cargs.getD 0 undef = cv at h0
    cases h0 with
    | agg _ cs hl ho hv =>
    have e0 := pur_int (hv 0 _ rfl)
    have e1 := pur_int (hv 1 _ rfl)
    have e2 := pur_int (hv 2 _ rfl)
    rw [ag_three hl.symm, e0, e1, e2]
    refine ((callsIn_wide (n := 5)).1 (count_in Fence.wide 5 trivial trivial trivial trivial trivial trivial rfl (by omega) w)).mono ?_
    rintro e w' ⟨rfl, hb⟩
    exact ⟨_, rfl, fun _ => .int _ _, hb⟩
  · exact hg.elim
def aDy (x : Int) : List V := [.int .i64 x]
theorem aDy_inj (a b : Int) (h : aDy a = aDy b) : a = b := by
  simp only [aDy, List.cons.injEq, V.str.injEq, V.int.injEq, V.bool.injEq, V.agg.injEq, V.list.injEq, and_true, true_and] at h
  have h0 := h
  subst h0
  rfl
def fFst (y : Int) : Prop × V := (2000 ≤ y ∧ y ≤ 10000, .int .i64 (365 * (y - 2000) + (y - 2000 + 3).tdiv 4))
theorem fFst_eq (y : Int) : gOf aDy fFst [.int .i64 y] = (2000 ≤ y ∧ y ≤ 10000, .int .i64 (365 * (y - 2000) + (y - 2000 + 3).tdiv 4)) := gOf_eq aDy_inj y
theorem first_p : PureC Tryd.prog UT 53 (gOf aDy fFst) := by
  have hG := tNo_ok
  refine PureC.ofArgs aDy_inj Tryd.func53 body53 nm53 res53 ?_
  rintro y hv
  refine ⟨by rw [nt53]; simp [aDy], fun C hN Q hQ => ?_⟩
  rw [nt53] at hN
  unfold c53
  obtain ⟨h1, h2⟩ : 2000 ≤ y ∧ y ≤ 10000 := hv
  have hd : -3000 ≤ (y - 2000 + 3).tdiv 4 ∧ (y - 2000 + 3).tdiv 4 ≤ 10000 := by
    rw [Int.tdiv_eq_ediv_of_nonneg (by omega)]; omega
  refine aw_seq (aw_region (EF := EF0) hG (by rw [hN]; exact tr53_0) ?_)
  simp only [a53_0, go_sem, simprocAttr, aDy]
  refine aw_seq (aw_region (EF := EF0) hG (by rw [hN]; exact tr53_1) ?_)
  simp only [a53_1, go_sem, simprocAttr, inI]
  (repeat' apply And.intro) <;> try exact sdA
  refine aw_seq (aw_region (EF := EF0) hG (by rw [hN]; exact tr53_2) ?_)
  simp only [a53_2, go_sem, simprocAttr, inI]
  (repeat' apply And.intro) <;> try exact sdA
  refine aw_ret ?_
  show Q _ _
  refine hQ _ _ (.inl rfl) ?_ ?_ ?_ <;> simp only [outφ, outV, AR.res, go_sem, simprocAttr, fFst]
def fDat (d : Int) : Prop × V := (d = 9497, .tup [.int .i64 2026, .int .i64 1, .int .i64 1])
theorem fDat_eq : gOf aDy fDat [.int .i64 9497] = (True, .tup [.int .i64 2026, .int .i64 1, .int .i64 1]) := (gOf_eq aDy_inj 9497).trans (by simp [fDat])
noncomputable def tDat : Tab
  | 53 => (gOf aDy fFst)
  | 54 => gLenF
  | _ => gNo
theorem tDat_ok : ∀ f, PureC Tryd.prog UT f (tDat f) := fun f => by
  unfold tDat
  split
  · exact first_p
  · exact length_p
  · exact PureC.no
set_option maxHeartbeats 4000000 in
theorem date_p : PureC Tryd.prog UT 36 (gOf aDy fDat) := by
  have hG := tDat_ok
  refine PureC.ofArgs aDy_inj Tryd.func36 body36 nm36 res36 ?_
  rintro d hv
  refine ⟨by rw [nt36]; simp [aDy], fun C hN Q hQ => ?_⟩
  rw [nt36] at hN
  unfold c36
  obtain rfl : d = 9497 := hv
  refine aw_seq (aw_region (EF := EF0) hG (by rw [hN]; exact tr36_0) ?_)
  simp only [a36_0, go_sem, simprocAttr, aDy, tDat, fFst_eq, gLenF, Int.reduceLT, Int.reduceLE, Int.reduceAdd, Int.reduceSub, Int.reduceMul, Int.reduceTDiv, Int.reduceTMod, Int.reduceEq, Int.reduceNeg, decide_true, decide_false, Bool.false_eq_true]
  refine aw_seq ?_
  refine aw_seq (aw_region (EF := EF0) hG (by rw [hN]; exact tr36_1) ?_)
  simp only [a36_1, go_sem, simprocAttr, tDat, fFst_eq, gLenF, Int.reduceLT, Int.reduceLE, Int.reduceAdd, Int.reduceSub, Int.reduceMul, Int.reduceTDiv, Int.reduceTMod, Int.reduceEq, Int.reduceNeg, decide_true, decide_false, Bool.false_eq_true]
  (repeat' apply And.intro) <;> try exact sdA
  refine aw_condF rfl ?_
  refine aw_skip ?_
  try simp only [go_sem, simprocAttr]
  refine aw_seq (aw_region (EF := EF0) hG (by rw [hN]; exact tr36_3) ?_)
  simp only [a36_3, go_sem, simprocAttr, inI, tDat, fFst_eq, gLenF, Int.reduceLT, Int.reduceLE, Int.reduceAdd, Int.reduceSub, Int.reduceMul, Int.reduceTDiv, Int.reduceTMod, Int.reduceEq, Int.reduceNeg, decide_true, decide_false, Bool.false_eq_true]
  (repeat' apply And.intro) <;> try exact sdA
  refine aw_seq ?_
  refine aw_block ?_
  refine aw_loop (α := Nat) (fun i => (i ≤ 1)) (fun i => ⟨mkE [(0, V.int IntKind.i64 9497), (5, .int .i64 (2025 + (i : Int)))], mkH []⟩) (fun i => 1 - i) 0 (by omega) ?_ ?_
  · refine Le.mk _ _ ?_ ?_ rfl <;> simp only [go_sem, simprocAttr] <;> (repeat' apply And.intro) <;> try exact leA
  · rintro i hi KL0 hKL0
    try dsimp only at *
    refine aw_seq ?_
    by_cases h0 : i = 0
    · skip
      subst h0
      refine aw_seq (aw_region (EF := EF0) hG (by rw [hN]; exact tr36_4) ?_)
      simp only [a36_4, go_sem, simprocAttr, inI, tDat, fFst_eq, gLenF, Int.reduceLT, Int.reduceLE, Int.reduceAdd, Int.reduceSub, Int.reduceMul, Int.reduceTDiv, Int.reduceTMod, Int.reduceEq, Int.reduceNeg, decide_true, decide_false, Bool.false_eq_true]
      (repeat' apply And.intro) <;> try exact sdA
      refine aw_condT rfl ?_
      refine aw_skip ?_
      try simp only [go_sem, simprocAttr]
      refine aw_block ?_
      refine aw_region (EF := EF0) hG (by rw [hN]; exact tr36_5) ?_
      simp only [a36_5, go_sem, simprocAttr, inI, tDat, fFst_eq, gLenF, Int.reduceLT, Int.reduceLE, Int.reduceAdd, Int.reduceSub, Int.reduceMul, Int.reduceTDiv, Int.reduceTMod, Int.reduceEq, Int.reduceNeg, decide_true, decide_false, Bool.false_eq_true]
      (repeat' apply And.intro) <;> try exact sdA
      refine hKL0 (1) _ ?_ ?_ ?_
      · (try dsimp only); omega
      · omega
      · refine Le.mk _ _ ?_ ?_ rfl <;> simp only [go_sem, simprocAttr] <;> (repeat' apply And.intro) <;> try exact leA
    · skip
      obtain rfl : i = 1 := by omega
      refine aw_seq (aw_region (EF := EF0) hG (by rw [hN]; exact tr36_4) ?_)
      simp only [a36_4, go_sem, simprocAttr, inI, tDat, fFst_eq, gLenF, Int.reduceLT, Int.reduceLE, Int.reduceAdd, Int.reduceSub, Int.reduceMul, Int.reduceTDiv, Int.reduceTMod, Int.reduceEq, Int.reduceNeg, decide_true, decide_false, Bool.false_eq_true]
      (repeat' apply And.intro) <;> try exact sdA
      refine aw_condF rfl ?_
      refine aw_exit ?_
      simp only [go_sem, simprocAttr]
      refine aw_seq (aw_region (EF := EF0) hG (by rw [hN]; exact tr36_6) ?_)
      simp only [a36_6, go_sem, simprocAttr, inI, tDat, fFst_eq, gLenF, Int.reduceLT, Int.reduceLE, Int.reduceAdd, Int.reduceSub, Int.reduceMul, Int.reduceTDiv, Int.reduceTMod, Int.reduceEq, Int.reduceNeg, decide_true, decide_false, Bool.false_eq_true]
      (repeat' apply And.intro) <;> try exact sdA
      refine aw_seq ?_
      refine aw_seq (aw_region (EF := EF0) hG (by rw [hN]; exact tr36_7) ?_)
      simp only [a36_7, go_sem, simprocAttr, tDat, fFst_eq, gLenF, Int.reduceLT, Int.reduceLE, Int.reduceAdd, Int.reduceSub, Int.reduceMul, Int.reduceTDiv, Int.reduceTMod, Int.reduceEq, Int.reduceNeg, decide_true, decide_false, Bool.false_eq_true]
      refine aw_block ?_
      refine aw_loop (α := Nat) (fun j => (j = 0)) (fun j => ⟨mkE [(5, V.int IntKind.i64 2026), (6, V.int IntKind.i64 0), (29, .int .i64 j)], mkH []⟩) (fun j => 0) 0 rfl ?_ ?_
      · refine Le.mk _ _ ?_ ?_ rfl <;> simp only [go_sem, simprocAttr] <;> (repeat' apply And.intro) <;> try exact leA
      · rintro j hj KL2 hKL2
        try dsimp only at *
        subst hj
        refine aw_seq (aw_region (EF := EF0) hG (by rw [hN]; exact tr36_8) ?_)
        simp only [a36_8, go_sem, simprocAttr, tDat, fFst_eq, gLenF, Int.reduceLT, Int.reduceLE, Int.reduceAdd, Int.reduceSub, Int.reduceMul, Int.reduceTDiv, Int.reduceTMod, Int.reduceEq, Int.reduceNeg, decide_true, decide_false, Bool.false_eq_true]
        refine aw_seq ?_
        refine aw_condT rfl ?_
        refine aw_skip ?_
        try simp only [go_sem, simprocAttr]
        refine aw_seq ?_
        refine aw_block ?_
        refine aw_seq (aw_region (EF := EF0) hG (by rw [hN]; exact tr36_9) ?_)
        simp only [a36_9, go_sem, simprocAttr, tDat, fFst_eq, gLenF, Int.reduceLT, Int.reduceLE, Int.reduceAdd, Int.reduceSub, Int.reduceMul, Int.reduceTDiv, Int.reduceTMod, Int.reduceEq, Int.reduceNeg, decide_true, decide_false, Bool.false_eq_true]
        refine aw_seq (aw_region (EF := EF0) hG (by rw [hN]; exact tr36_10) ?_)
        simp only [a36_10, go_sem, simprocAttr, inI, tDat, fFst_eq, gLenF, Int.reduceLT, Int.reduceLE, Int.reduceAdd, Int.reduceSub, Int.reduceMul, Int.reduceTDiv, Int.reduceTMod, Int.reduceEq, Int.reduceNeg, decide_true, decide_false, Bool.false_eq_true]
        (repeat' apply And.intro) <;> try exact sdA
        refine aw_seq ?_
        refine aw_seq (aw_region (EF := EF0) hG (by rw [hN]; exact tr36_11) ?_)
        simp only [a36_11, go_sem, simprocAttr, tDat, fFst_eq, gLenF, Int.reduceLT, Int.reduceLE, Int.reduceAdd, Int.reduceSub, Int.reduceMul, Int.reduceTDiv, Int.reduceTMod, Int.reduceEq, Int.reduceNeg, decide_true, decide_false, Bool.false_eq_true]
        refine aw_condT rfl ?_
        refine aw_seq (aw_region (EF := EF0) hG (by rw [hN]; exact tr36_12) ?_)
        simp only [a36_12, go_sem, simprocAttr, inI, tDat, fFst_eq, gLenF, Int.reduceLT, Int.reduceLE, Int.reduceAdd, Int.reduceSub, Int.reduceMul, Int.reduceTDiv, Int.reduceTMod, Int.reduceEq, Int.reduceNeg, decide_true, decide_false, Bool.false_eq_true]
        (repeat' apply And.intro) <;> try exact sdA
        refine aw_ret ?_
        show Q _ _
        refine hQ _ _ (.inl rfl) ?_ ?_ ?_ <;> simp only [outφ, outV, AR.res, go_sem, simprocAttr, fDat]
def twoS (n : Int) : List UInt8 := if n = 20 then [50, 48] else if n = 26 then [50, 54] else [48, 49]
def fTwo (n : Int) : Prop × V := (n = 20 ∨ n = 26 ∨ n = 1, .str (twoS n))
theorem fTwo_eq (n : Int) : gOf aDy fTwo [.int .i64 n] = (n = 20 ∨ n = 26 ∨ n = 1, .str (twoS n)) := gOf_eq aDy_inj n
theorem k48 : inK .u8 48 := by show _ = _; kernel_rfl
theorem k49 : inK .u8 49 := by show _ = _; kernel_rfl
theorem k50 : inK .u8 50 := by show _ = _; kernel_rfl
theorem k54 : inK .u8 54 := by show _ = _; kernel_rfl
theorem two_p : PureC Tryd.prog UT 37 (gOf aDy fTwo) := by
  have hG := tNo_ok
  refine PureC.ofArgs aDy_inj Tryd.func37 body37 nm37 res37 ?_
  rintro n hv
  refine ⟨by rw [nt37]; simp [aDy], fun C hN Q hQ => ?_⟩
  rw [nt37] at hN
  unfold c37
  have hn : n = 20 ∨ n = 26 ∨ n = 1 := hv
  clear hv
  rcases hn with rfl | rfl | rfl
  · skip
    refine aw_seq (aw_region (EF := EF0) hG (by rw [hN]; exact tr37_0) ?_)
    simp only [a37_0, go_sem, simprocAttr, aDy, Int.reduceLT, Int.reduceLE, Int.reduceAdd, Int.reduceSub, Int.reduceMul, Int.reduceTDiv, Int.reduceTMod, Int.reduceEq, Int.reduceNeg, decide_true, decide_false, Bool.false_eq_true]
    refine aw_seq (aw_region (EF := EF0) hG (by rw [hN]; exact tr37_1) ?_)
    simp only [a37_1, go_sem, simprocAttr, inI, k48, k49, k50, k54, Int.reduceLT, Int.reduceLE, Int.reduceAdd, Int.reduceSub, Int.reduceMul, Int.reduceTDiv, Int.reduceTMod, Int.reduceEq, Int.reduceNeg, decide_true, decide_false, Bool.false_eq_true]
    refine aw_ret ?_
    show Q _ _
    refine hQ _ _ (.inl rfl) ?_ ?_ ?_ <;> simp only [outφ, outV, AR.res, go_sem, simprocAttr, fTwo]
    rfl
  · skip
    refine aw_seq (aw_region (EF := EF0) hG (by rw [hN]; exact tr37_0) ?_)
    simp only [a37_0, go_sem, simprocAttr, aDy, Int.reduceLT, Int.reduceLE, Int.reduceAdd, Int.reduceSub, Int.reduceMul, Int.reduceTDiv, Int.reduceTMod, Int.reduceEq, Int.reduceNeg, decide_true, decide_false, Bool.false_eq_true]
    refine aw_seq (aw_region (EF := EF0) hG (by rw [hN]; exact tr37_1) ?_)
    simp only [a37_1, go_sem, simprocAttr, inI, k48, k49, k50, k54, Int.reduceLT, Int.reduceLE, Int.reduceAdd, Int.reduceSub, Int.reduceMul, Int.reduceTDiv, Int.reduceTMod, Int.reduceEq, Int.reduceNeg, decide_true, decide_false, Bool.false_eq_true]
    refine aw_ret ?_
    show Q _ _
    refine hQ _ _ (.inl rfl) ?_ ?_ ?_ <;> simp only [outφ, outV, AR.res, go_sem, simprocAttr, fTwo]
    rfl
  · skip
    refine aw_seq (aw_region (EF := EF0) hG (by rw [hN]; exact tr37_0) ?_)
    simp only [a37_0, go_sem, simprocAttr, aDy, Int.reduceLT, Int.reduceLE, Int.reduceAdd, Int.reduceSub, Int.reduceMul, Int.reduceTDiv, Int.reduceTMod, Int.reduceEq, Int.reduceNeg, decide_true, decide_false, Bool.false_eq_true]
    refine aw_seq (aw_region (EF := EF0) hG (by rw [hN]; exact tr37_1) ?_)
    simp only [a37_1, go_sem, simprocAttr, inI, k48, k49, k50, k54, Int.reduceLT, Int.reduceLE, Int.reduceAdd, Int.reduceSub, Int.reduceMul, Int.reduceTDiv, Int.reduceTMod, Int.reduceEq, Int.reduceNeg, decide_true, decide_false, Bool.false_eq_true]
    refine aw_ret ?_
    show Q _ _
    refine hQ _ _ (.inl rfl) ?_ ?_ ?_ <;> simp only [outφ, outV, AR.res, go_sem, simprocAttr, fTwo]
    rfl
def sDate : List UInt8 := [50, 48, 50, 54, 45, 48, 49, 45, 48, 49]
def fPrn (d : Int) : Prop × V := (d = 9497, .str sDate)
theorem fPrn_eq : gOf aDy fPrn [.int .i64 9497] = (True, .str sDate) := (gOf_eq aDy_inj 9497).trans (by simp [fPrn])
theorem tw20 : gOf aDy fTwo [.int .i64 20] = (True, .str [50, 48]) := (fTwo_eq 20).trans (by simp [twoS])
theorem tw26 : gOf aDy fTwo [.int .i64 26] = (True, .str [50, 54]) := (fTwo_eq 26).trans (by simp [twoS])
theorem tw1 : gOf aDy fTwo [.int .i64 1] = (True, .str [48, 49]) := (fTwo_eq 1).trans (by simp [twoS])
noncomputable def tPrn : Tab
  | 36 => (gOf aDy fDat)
  | 37 => (gOf aDy fTwo)
  | _ => gNo
theorem tPrn_ok : ∀ f, PureC Tryd.prog UT f (tPrn f) := fun f => by
  unfold tPrn
  split
  · exact date_p
  · exact two_p
  · exact PureC.no
theorem print_p : PureC Tryd.prog UT 16 (gOf aDy fPrn) := by
  have hG := tPrn_ok
  refine PureC.ofArgs aDy_inj Tryd.func16 body16 nm16 res16 ?_
  rintro d hv
  refine ⟨by rw [nt16]; simp [aDy], fun C hN Q hQ => ?_⟩
  rw [nt16] at hN
  unfold c16
  obtain rfl : d = 9497 := hv
  refine aw_seq (aw_region (EF := EF0) hG (by rw [hN]; exact tr16_0) ?_)
  simp only [a16_0, go_sem, simprocAttr, aDy, tPrn, fDat_eq, tw20, tw26, tw1, Int.reduceLT, Int.reduceLE, Int.reduceAdd, Int.reduceSub, Int.reduceMul, Int.reduceTDiv, Int.reduceTMod, Int.reduceEq, Int.reduceNeg, decide_true, decide_false, Bool.false_eq_true]
  refine aw_seq (aw_region (EF := EF0) hG (by rw [hN]; exact tr16_1) ?_)
  simp only [a16_1, go_sem, simprocAttr, tPrn, fDat_eq, tw20, tw26, tw1, Int.reduceLT, Int.reduceLE, Int.reduceAdd, Int.reduceSub, Int.reduceMul, Int.reduceTDiv, Int.reduceTMod, Int.reduceEq, Int.reduceNeg, decide_true, decide_false, Bool.false_eq_true]
  (repeat' apply And.intro) <;> try exact sdA
  refine aw_seq ?_
  refine aw_seq (aw_region (EF := EF0) hG (by rw [hN]; exact tr16_2) ?_)
  simp only [a16_2, go_sem, simprocAttr, tPrn, fDat_eq, tw20, tw26, tw1, Int.reduceLT, Int.reduceLE, Int.reduceAdd, Int.reduceSub, Int.reduceMul, Int.reduceTDiv, Int.reduceTMod, Int.reduceEq, Int.reduceNeg, decide_true, decide_false, Bool.false_eq_true]
  refine aw_condF rfl ?_
  refine aw_skip ?_
  try simp only [go_sem, simprocAttr]
  refine aw_seq (aw_region (EF := EF0) hG (by rw [hN]; exact tr16_4) ?_)
  simp only [a16_4, go_sem, simprocAttr, inI, List.cons_append, List.nil_append, List.length_cons, List.length_nil, tPrn, fDat_eq, tw20, tw26, tw1, Int.reduceLT, Int.reduceLE, Int.reduceAdd, Int.reduceSub, Int.reduceMul, Int.reduceTDiv, Int.reduceTMod, Int.reduceEq, Int.reduceNeg, decide_true, decide_false, Bool.false_eq_true]
  (repeat' apply And.intro) <;> try exact sdA
  refine aw_ret ?_
  show Q _ _
  refine hQ _ _ (.inl rfl) ?_ ?_ ?_ <;> simp only [outφ, outV, AR.res, go_sem, simprocAttr, fPrn, sDate]
def aZn (x : Int × Int) : List V := [.agg [.int .i64 x.1, .nils], .int .i64 x.2]
theorem aZn_inj (a b : Int × Int) (h : aZn a = aZn b) : a = b := by
  obtain ⟨a1, a2⟩ := a
  obtain ⟨b1, b2⟩ := b
  simp only [aZn, List.cons.injEq, V.agg.injEq, V.int.injEq, and_true, true_and] at h
  rw [h.1, h.2]
def fOff (x : Int × Int) : Prop × V := (True, .int .i64 x.1)
theorem fOff_eq (a b : Int) : gOf aZn fOff [.agg [.int .i64 a, .nils], .int .i64 b] = (True, .int .i64 a) := gOf_eq aZn_inj (a, b)
theorem offset_p : PureC Tryd.prog UT 39 (gOf aZn fOff) := by
  have hG := tNo_ok
  refine PureC.ofArgs aZn_inj Tryd.func39 body39 nm39 res39 ?_
  rintro ⟨a, b⟩ hv
  refine ⟨by rw [nt39]; simp [aZn], fun C hN Q hQ => ?_⟩
  rw [nt39] at hN
  unfold c39
  refine aw_seq (aw_region (EF := EF0) hG (by rw [hN]; exact tr39_0) ?_)
  simp only [a39_0, go_sem, simprocAttr, aZn]
  refine aw_seq (aw_region (EF := EF0) hG (by rw [hN]; exact tr39_1) ?_)
  simp only [a39_1, go_sem, simprocAttr]
  refine aw_seq ?_
  refine aw_seq (aw_region (EF := EF0) hG (by rw [hN]; exact tr39_2) ?_)
  simp only [a39_2, go_sem, simprocAttr]
  refine aw_block ?_
  refine aw_loop (α := Nat) (fun i => (i = 0)) (fun i => ⟨mkE [(1, V.int IntKind.i64 b), (5, V.int IntKind.i64 a), (11, V.nils), (12, V.int IntKind.i64 0), (13, .int .i64 i)], mkH []⟩) (fun i => 0) 0 rfl ?_ ?_
  · refine Le.mk _ _ ?_ ?_ rfl <;> simp only [go_sem, simprocAttr] <;> (repeat' apply And.intro) <;> try exact leA
  · rintro i hi KL0 hKL0
    try dsimp only at *
    subst hi
    refine aw_seq (aw_region (EF := EF0) hG (by rw [hN]; exact tr39_3) ?_)
    simp only [a39_3, go_sem, simprocAttr]
    refine aw_seq ?_
    refine aw_cond (b := _) rfl (fun hb3 => ?_) (fun hb3 => ?_)
    · (exfalso; simp at hb3)
    · skip
      refine aw_exit ?_
      simp only [go_sem, simprocAttr]
      refine aw_seq (aw_region (EF := EF0) hG (by rw [hN]; exact tr39_8) ?_)
      simp only [a39_8, go_sem, simprocAttr]
      refine aw_ret ?_
      show Q _ _
      refine hQ _ _ (.inl rfl) ?_ ?_ ?_ <;> simp only [outφ, outV, AR.res, go_sem, simprocAttr, fOff]
def fLoc (x : Int × Int) : Prop × V := (x = (60, 5), .int .i64 65)
theorem fLoc_eq : gOf aZn fLoc [.agg [.int .i64 60, .nils], .int .i64 5] = (True, .int .i64 65) := (gOf_eq aZn_inj (60, 5)).trans (by simp [fLoc])
noncomputable def tLoc : Tab
  | 39 => (gOf aZn fOff)
  | _ => gNo
theorem tLoc_ok : ∀ f, PureC Tryd.prog UT f (tLoc f) := fun f => by
  unfold tLoc
  split
  · exact offset_p
  · exact PureC.no
theorem local_p : PureC Tryd.prog UT 18 (gOf aZn fLoc) := by
  have hG := tLoc_ok
  refine PureC.ofArgs aZn_inj Tryd.func18 body18 nm18 res18 ?_
  rintro ⟨a, b⟩ hv
  refine ⟨by rw [nt18]; simp [aZn], fun C hN Q hQ => ?_⟩
  rw [nt18] at hN
  unfold c18
  obtain ⟨rfl, rfl⟩ : a = 60 ∧ b = 5 := by have : (a, b) = ((60, 5) : Int × Int) := hv; simpa using this
  refine aw_seq (aw_region (EF := EF0) hG (by rw [hN]; exact tr18_0) ?_)
  simp only [a18_0, go_sem, simprocAttr, aZn, tLoc, fOff_eq, Int.reduceLT, Int.reduceLE, Int.reduceAdd]
  refine aw_seq (aw_region (EF := EF0) hG (by rw [hN]; exact tr18_1) ?_)
  simp only [a18_1, go_sem, simprocAttr, inI, tLoc, fOff_eq, Int.reduceLT, Int.reduceLE, Int.reduceAdd]
  (repeat' apply And.intro) <;> try exact sdA
  refine aw_ret ?_
  show Q _ _
  refine hQ _ _ (.inl rfl) ?_ ?_ ?_ <;> simp only [outφ, outV, AR.res, go_sem, simprocAttr, fLoc]
noncomputable def tAwk : Tab
  | 16 => (gOf aDy fPrn)
  | 17 => gCnt
  | 18 => (gOf aZn fLoc)
  | _ => gNo
theorem tAwk_ok : ∀ f, PureC Tryd.prog UT f (tAwk f) := fun f => by
  unfold tAwk
  split
  · exact print_p
  · exact count_p
  · exact local_p
  · exact PureC.no
theorem awake_p : PureC Tryd.prog UT 5 (gOf aUnit fTrue) := by
  have hG := tAwk_ok
  refine PureC.ofArgs aUnit_inj Tryd.func5 body5 nm5 res5 ?_
  rintro ⟨⟩ hv
  refine ⟨by rw [nt5]; simp [aUnit], fun C hN Q hQ => ?_⟩
  rw [nt5] at hN
  unfold c5
  refine aw_seq (aw_region (EF := EF0) hG (by rw [hN]; exact tr5_0) ?_)
  simp only [a5_0, go_sem, simprocAttr, aUnit, tAwk, fPrn_eq, gCnt, fLoc_eq, sDate, decide_true]
  refine aw_seq (aw_region (EF := EF0) hG (by rw [hN]; exact tr5_1) ?_)
  simp only [a5_1, go_sem, simprocAttr, tAwk, fPrn_eq, gCnt, fLoc_eq, sDate, decide_true]
  (repeat' apply And.intro) <;> try exact sdA
  refine aw_ret ?_
  show Q _ _
  refine hQ _ _ (.inl rfl) ?_ ?_ ?_ <;> simp only [outφ, outV, AR.res, go_sem, simprocAttr, fTrue]
set_option linter.unusedSimpArgs false
set_option linter.unusedVariables false
set_option linter.deprecated false
structure Sl where
  leg : Int
  cls : List UInt8
  n : Int
def Sl.enc (x : Sl) : List V := [.int .i64 x.leg, .str x.cls, .int .i64 x.n]
theorem Sl.inj (a b : Sl) (h : a.enc = b.enc) : a = b := by
  obtain ⟨a_leg, a_cls, a_n⟩ := a
  obtain ⟨b_leg, b_cls, b_n⟩ := b
  simp only [Sl.enc, List.cons.injEq, V.str.injEq, V.int.injEq, V.bool.injEq, V.agg.injEq, V.list.injEq, and_true, true_and] at h
  obtain ⟨h0, h1, h2⟩ := h
  subst h0
  subst h1
  subst h2
  rfl
def Sl.ok (x : Sl) : Prop := inI x.leg ∧ x.cls.length ≤ 140737488355328 ∧ inI x.n
def Sl.zero : Sl := ⟨0, [], 0⟩
theorem Sl.rows (l : List Sl) : (∀ r ∈ l.map Sl.enc, r.length = 3) ↔ True := iff_true_intro fun r hr => by obtain ⟨x, _, rfl⟩ := List.mem_map.1 hr; rfl
theorem Sl.purs (l : List Sl) : (∀ r ∈ l.map Sl.enc, V.purs r = true) ↔ True := iff_true_intro fun r hr => by obtain ⟨x, _, rfl⟩ := List.mem_map.1 hr; rfl
attribute [go_sem] Sl.rows Sl.purs
def aTS (x : List Config × List Lid × List (List UInt8) × List Sl × List UInt8) : List V := [.list (x.1.map Config.enc) false, .list (x.2.1.map Lid.enc) false, .list (strs x.2.2.1) false, .list (x.2.2.2.1.map Sl.enc) false, .str x.2.2.2.2]
theorem aTS_inj (a b : List Config × List Lid × List (List UInt8) × List Sl × List UInt8) (h : aTS a = aTS b) : a = b := by
  obtain ⟨a1, a2, a3, a4, a5⟩ := a
  obtain ⟨b1, b2, b3, b4, b5⟩ := b
  simp only [aTS, List.cons.injEq, V.list.injEq, V.str.injEq, and_true] at h
  obtain ⟨h1, h2, h3, h4, h5⟩ := h
  rw [map_inj' Config.inj h1, map_inj' Lid.inj h2, strs_inj h3, map_inj' Sl.inj h4, h5]
structure TsOk (cs : List Config) (ids : List Lid) (qs : List (List UInt8)) (ss : List Sl) (k : List UInt8) : Prop where
  c0 : cs.length ≤ 140737488355328
  c1 : ∀ x ∈ cs, x.ok
  c2 : ∀ x ∈ cs, x.cabs.length ≤ 600000
  c3 : ∀ x ∈ cs, ∀ y ∈ x.cabs, y.cl.length ≤ 600000
  i0 : ids.length ≤ 140737488355328
  i1 : ∀ x ∈ ids, x.ok
  q0 : qs.length ≤ 140737488355328
  s0 : ss.length ≤ 140737488355328
  s1 : ∀ x ∈ ss, x.ok
  k0 : k.length ≤ 140737488355328
def fTS (x : List Config × List Lid × List (List UInt8) × List Sl × List UInt8) : Prop × V := (TsOk x.1 x.2.1 x.2.2.1 x.2.2.2.1 x.2.2.2.2, .bool true)
def sn (k : Nat) : Nat := 400 + 2 * k
def cn (k : Nat) : Nat := 401 + 2 * k
theorem sn_inj : Inj sn := fun a b e => by unfold sn at e; omega
theorem cn_inj : Inj cn := fun a b e => by unfold cn at e; omega
theorem sn_cn (a b : Nat) : sn a ≠ cn b := by unfold sn cn; omega
theorem st_nm {ν : Nat → Nat} {cs : List Config} {L : List Leg} (hB : LgsB L) : ∀ q ∈ stO ν cs L, ∃ k, k < 10 * L.length + 2 ∧ q.1 = ν k := fun q hq => by
  have : q.1 ∈ (stO ν cs L).map (·.1) := List.mem_map.2 ⟨q, hq, rfl⟩
  rw [(stO_fam cs L).nm] at this
  obtain ⟨k, hk, e⟩ := List.mem_map.1 this
  exact ⟨k, stK_lt hB hk, e.symm⟩
theorem sn_ge {cs : List Config} {L : List Leg} (hB : LgsB L) : ∀ q ∈ stO sn cs L, 400 ≤ q.1 ∧ q.1 < 404 + 20 * L.length := fun q hq => by
  obtain ⟨k, hk, e⟩ := st_nm hB q hq
  rw [e]; unfold sn; omega
theorem sn_none {cs : List Config} {L : List Leg} (hB : LgsB L) {m : Nat} (h : m < 400 ∨ 404 + 20 * L.length ≤ m) : mkH (stO sn cs L) m = none := mkH_none fun hc => by
  obtain ⟨q, hq, e⟩ := List.mem_map.1 hc
  have := sn_ge hB q hq
  omega
theorem cn_none {cs : List Config} {L : List Leg} (hB : LgsB L) (k : Nat) : mkH (stO sn cs L) (cn k) = none := mkH_none fun hc => by
  obtain ⟨q, hq, e⟩ := List.mem_map.1 hc
  obtain ⟨a, _, e2⟩ := st_nm hB q hq
  exact sn_cn a k (by rw [← e2, e])
theorem hov_at {ν : Nat → Nat} (hν : Inj ν) {cs : List Config} {L : List Leg} (hB : LgsB L) {h : Nat → Option Ob} : ∀ q ∈ stO ν cs L, hov (stO ν cs L) h q.1 = some q.2 := fun q hq => by
  rw [hov_eq, stO_at hν hB q hq]
theorem hov_far {ν : Nat → Nat} {cs : List Config} {L : List Leg} (hB : LgsB L) {h : Nat → Option Ob} {m : Nat} (hm : ∀ k, k < 10 * L.length + 2 → ν k ≠ m) : hov (stO ν cs L) h m = h m := hov_ne fun q hq e => by
  obtain ⟨k, hk, e2⟩ := st_nm hB q hq
  exact hm k hk (by rw [← e2, e])
theorem two_at {ν μ : Nat → Nat} (hν : Inj ν) (hμ : Inj μ) (hνμ : ∀ a b, ν a ≠ μ b) {cs : List Config} {L : List Leg} (hB : LgsB L) {h : Nat → Option Ob} : (∀ q ∈ stO ν cs L, hov (stO ν cs L ++ stO μ cs L) h q.1 = some q.2) ∧ ∀ q ∈ stO μ cs L, hov (stO ν cs L ++ stO μ cs L) h q.1 = some q.2 := by
  refine ⟨fun q hq => ?_, fun q hq => ?_⟩
  · rw [hov_eq, mkH_app, stO_at hν hB q hq]
  · have : mkH (stO ν cs L) q.1 = none := mkH_none fun hc => by
      obtain ⟨q2, hq2, e⟩ := List.mem_map.1 hc
      obtain ⟨a, _, e1⟩ := st_nm hB q hq
      obtain ⟨b, _, e2⟩ := st_nm hB q2 hq2
      exact hνμ b a (by rw [← e2, e, e1])
    rw [hov_eq, mkH_app, this, stO_at hμ hB q hq]
theorem open_ok {L : List Leg} {i : Lid} {cs : List Config} {q : List UInt8} (h : openE L i cs q = 0) : legIx L i = none ∧ ∃ c, find cs q = some c := by
  unfold openE at h
  split at h
  · cases h
  · rename_i h1
    split at h
    · cases h
    · rename_i h2
      refine ⟨by simpa using h1, ?_⟩
      cases e : find cs q with
      | none => rw [e] at h2; exact absurd rfl h2
      | some c => exact ⟨c, rfl⟩
theorem ky_nd : ∀ {ids : List Lid}, ids.Nodup → (ids.map Lid.ky).Nodup
  | [], _ => List.nodup_nil
  | i :: ids, h => by
    obtain ⟨h1, h2⟩ := List.nodup_cons.1 h
    exact List.nodup_cons.2 ⟨fun hm => by obtain ⟨a, ha, e⟩ := List.mem_map.1 hm; exact h1 (Lid.ky_inj e ▸ ha), ky_nd h2⟩
theorem here_of {L : List Leg} {ids : List Lid} (h : L.map (·.id) = ids) (hn : ids.Nodup) : Here L ids := by
  refine ⟨ky_nd hn, fun i hi => ?_⟩
  rw [← h] at hi hn
  obtain ⟨x, hx, rfl⟩ := List.mem_map.1 hi
  obtain ⟨j, hj, rfl⟩ := List.mem_iff_getElem.1 hx
  exact ⟨j, legIx_at hn hj⟩
theorem ids_of {L : List Leg} {ids : List Lid} (h : L.map (·.id) = ids) (hn : ids.Nodup) (h4 : ids.length ≤ 4) : IdsOk L ids := by
  have hh := here_of h hn
  refine ⟨hh.nd, fun i hi => ?_, by omega⟩
  obtain ⟨j, _, hj, e, _⟩ := hh.at hi
  exact ⟨_, e⟩
theorem openS_rng {y : Cabin} {s : List Int} (k : Nat) : 0 ≤ (openS y s).getD k 0 ∧ (openS y s).getD k 0 ≤ 1099511627776 := by
  unfold openS
  split
  · by_cases h : k < (spareL y s).length
    · rw [List.getD_eq_getElem?_getD, openGo_at _ _ _ h, Option.getD_some]
      have := (leastS_le ((spareL y s).take (k + 1)) 1099511627776).1
      omega
    · rw [List.getD_eq_getElem?_getD, List.getElem?_eq_none (by rw [openGo_len]; omega)]; simp
  · simp
theorem avail_rng {L : List Leg} {k : List UInt8} {ids : List Lid} : 0 ≤ avail L k ids ∧ avail L k ids ≤ 1099511627776 := by
  by_cases h : ids = []
  · subst h; show (0:Int) ≤ 0 ∧ (0:Int) ≤ 1099511627776; omega
  · obtain ⟨i, _, e⟩ := avail_at (L := L) (cls := k) h
    rw [e]
    unfold leftO
    split
    · unfold leftS
      split
      · omega
      · exact openS_rng _
    · omega
def EFts : Nat → Bool := fun f => f == 6 || f == 7 || f == 8 || f == 9 || f == 10 || f == 11 || f == 12
noncomputable def tTS : Tab
  | 5 => (gOf aUnit fTrue)
  | 4 => (gOf aCheck fCheck)
  | _ => gNo
theorem tTS_ok : ∀ f, PureC Tryd.prog UT f (tTS f) := fun f => by
  unfold tTS
  split
  · exact awake_p
  · exact rcheck_p
  · exact PureC.no
set_option maxHeartbeats 8000000 in
theorem sells_p : PureC Tryd.prog UT 3 (gOf aTS fTS) := by
  have hG := tTS_ok
  refine PureC.ofArgs aTS_inj Tryd.func3 body3 nm3 res3 ?_
  rintro ⟨cs, ids, qs, ss, k⟩ hv
  refine ⟨by rw [nt3]; simp [aTS], fun C hN Q hQ => ?_⟩
  rw [nt3] at hN
  unfold c3
  obtain ⟨c0, c1, c2, c3, i0, i1, q0, s0, s1, k0⟩ : TsOk cs ids qs ss k := hv
  refine aw_seq (aw_region (EF := EFts) hG (by rw [hN]; exact tr3_0) ?_)
  simp only [a3_0, go_sem, simprocAttr, aTS, tTS, EFts, fTrue_eq]
  refine aw_seq ?_
  refine aw_seq (aw_region (EF := EFts) hG (by rw [hN]; exact tr3_1) ?_)
  simp only [a3_1, go_sem, simprocAttr, List.length_map, strs_len, fCheck_eq, tTS, EFts, fTrue_eq]
  (repeat' apply And.intro) <;> try exact sdA
  · exact fun hg => ⟨hg, ⟨by simp at hg; omega, c1, c2, c3⟩⟩
  refine aw_cond (b := _) rfl (fun hb1 => ?_) (fun hb1 => ?_)
  · skip
    refine aw_seq (aw_region (EF := EFts) hG (by rw [hN]; exact tr3_2) ?_)
    simp only [a3_2, go_sem, simprocAttr, tTS, EFts, fTrue_eq]
    (repeat' apply And.intro) <;> try exact sdA
    refine aw_ret ?_
    show Q _ _
    refine hQ _ _ (.inl rfl) ?_ ?_ ?_ <;> simp only [outφ, outV, AR.res, go_sem, simprocAttr, fTS]
  · skip
    simp only [Bool.or_eq_false_iff, decide_eq_false_iff_not] at hb1
    obtain ⟨⟨⟨⟨b1, b2⟩, b3⟩, b4⟩, b5⟩ := hb1
    have hcs : cs.length ≤ 4 := by omega
    have hid : ids.length ≤ 4 := by omega
    have hqs : ids.length ≤ qs.length := by omega
    have hss : ss.length ≤ 12 := by omega
    have h0 : confFaults cs = [] := List.eq_nil_of_length_eq_zero (by omega)
    have hSm : SmallL cs := ⟨hcs, c1, c2, c3⟩
    clear b1 b2 b3 b4 b5
    have hB0 : LgsB ([] : List Leg) := fun x hx => nomatch hx
    have hin0 : ∀ L, ((stO sn cs L).map (·.1)).contains (sn 0) = true := fun L => st_in (stK_0 L)
    refine aw_skip ?_
    try simp only [go_sem, simprocAttr]
    refine aw_seq (aw_region (EF := EFts) hG (by rw [hN]; exact tr3_3) ?_)
    simp only [a3_3, go_sem, simprocAttr, tTS, EFts, fTrue_eq]
    refine new_use (ν := sn) (cs := cs) hSm h0 sn_inj ⟨rfl, by decide⟩ ⟨rfl, by decide⟩ ?_
    simp only [go_sem, simprocAttr]
    refine aw_seq (aw_region (EF := EFts) hG (by rw [hN]; exact tr3_4) ?_)
    simp only [a3_4, go_sem, simprocAttr, tTS, EFts, fTrue_eq]
    refine rnew_use (n := 350) (cs := cs) hSm h0 (by show hov (stO sn cs []) _ 350 = none; rw [hov_far hB0 (fun k hk => by unfold sn; omega)]; rfl) (by decide) ?_
    simp only [go_sem, simprocAttr]
    refine aw_seq ?_
    refine aw_seq (aw_region (EF := EFts) hG (by rw [hN]; exact tr3_5) ?_)
    simp only [a3_5, go_sem, simprocAttr, tTS, EFts, fTrue_eq]
    refine aw_condF rfl ?_
    refine aw_skip ?_
    try simp only [go_sem, simprocAttr]
    refine aw_seq ?_
    refine aw_seq (aw_region (EF := EFts) hG (by rw [hN]; exact tr3_7) ?_)
    simp only [a3_7, go_sem, simprocAttr, tTS, EFts, fTrue_eq]
    refine aw_block ?_
    refine aw_loop (α := Nat × (List Leg)) (fun γ => (γ.1 ≤ ids.length) ∧ (LgsOk γ.2) ∧ (γ.2.map (·.id) = ids.take γ.1) ∧ ((γ.2.map (·.id)).Nodup)) (fun γ => ⟨mkE [(1, V.list (List.map Lid.enc ids) false), (2, V.list (strs qs) false), (3, V.list (List.map Sl.enc ss) false), (4, V.str k), (11, V.ptr (sn 0) 0), (15, .int .i64 γ.1)], mkH ([] ++ stO sn cs γ.2)⟩) (fun γ => ids.length - γ.1) (0, []) ⟨Nat.zero_le _, (fun x hx => nomatch hx), rfl, List.nodup_nil⟩ ?_ ?_
    · refine Le.tail _ _ _ (fun q hq => ⟨?_, Fam.ni1 (stO_fam cs []) q hq⟩) ?_ ?_ rfl
      · have hge := sn_ge hB0 q hq
        show hupd (hov _ _) 350 _ q.1 = _
        rw [hupd_ne _ _ (by omega)]; exact hov_at sn_inj hB0 q hq
      all_goals (simp only [go_sem, simprocAttr, hin0])
    · rintro ⟨i, L⟩ ⟨hi, hok, hids, hnd⟩ KL0 hKL0
      try dsimp only at *
      refine aw_seq ?_
      refine aw_seq (aw_region (EF := EFts) hG (by rw [hN]; exact tr3_8) ?_)
      simp only [a3_8, go_sem, simprocAttr, tTS, EFts, fTrue_eq]
      refine aw_cond (b := _) rfl (fun hc8 => ?_) (fun hc8 => ?_)
      · simp only [decide_eq_true_eq, decide_eq_false_iff_not, Bool.and_eq_true, Bool.or_eq_true, Bool.not_eq_true', Bool.not_eq_false', Bool.and_eq_false_iff, Bool.or_eq_false_iff, Int.ofNat_lt, Int.ofNat_le, Nat.not_lt, Nat.not_le, Int.not_lt, Int.not_le] at hc8
        refine aw_skip ?_
        try simp only [go_sem, simprocAttr]
        refine aw_seq ?_
        refine aw_block ?_
        by_cases hE : openE L ids[i] cs qs[i] = 0
        · skip
          obtain ⟨hix, c, hf⟩ := open_ok hE
          have hcc := cfg_ok hSm h0 hf
          have okc : CfgOk c → LgsOk (L ++ [⟨ids[i], c, emptyS c.cabs⟩]) := fun hcc x hx => by rcases List.mem_append.1 hx with h | h; exact hok x h; rw [List.mem_singleton.1 h]; exact leg_new hcc _
          have hiq : i < qs.length := by omega
          have hLi : L.length = i := by have := congrArg List.length hids; rw [List.length_map, List.length_take] at this; omega
          refine aw_seq (aw_regionD (EF := EFts) hG mixed (by rw [hN]; exact tr3_10) ok3_10 ?_)
          simp only [a3_10, d3_10, go_sem, simprocAttr, getD_mapd _ _ _ _ hc8, hc8, List.length_map, Lid.enc, strs_getD _ _ _ hiq, hiq, strs_len, tTS, EFts, fTrue_eq]
          (repeat' apply And.intro) <;> try exact sdA
          refine open_good_use (ν := sn) (i := ids[i]) (eq := qs[i]) (c := c) hok.b hcs hcc hix hf sn_inj (fun q hq => stO_at sn_inj hok.b q hq) (fun k h1 h2 => ⟨sn_none hok.b (by unfold sn; omega), by unfold sn; omega⟩) ?_
          simp only [go_sem, simprocAttr]
          refine aw_condF rfl ?_
          refine aw_skip ?_
          try simp only [go_sem, simprocAttr]
          refine aw_region (EF := EFts) hG (by rw [hN]; exact tr3_9) ?_
          simp only [a3_9, go_sem, simprocAttr, inI, tTS, EFts, fTrue_eq]
          (repeat' apply And.intro) <;> try exact sdA
          refine hKL0 (i + 1, L ++ [⟨ids[i], c, emptyS c.cabs⟩]) _ ?_ ?_ ?_
          · (try dsimp only); exact ⟨hc8, fun x hx => by rcases List.mem_append.1 hx with h | h; exact hok x h; rw [List.mem_singleton.1 h]; exact leg_new hcc _, by rw [List.map_append, hids, take_succ' hc8]; rfl, by rw [List.map_append]; exact List.nodup_append.2 ⟨hnd, List.nodup_cons.2 ⟨(fun h => nomatch h), List.nodup_nil⟩, fun a ha b hb e => by obtain ⟨x, hx, rfl⟩ := List.mem_map.1 ha; rw [List.map_cons, List.map_nil, List.mem_singleton] at hb; subst hb; exact legIx_none.1 hix x hx e⟩⟩
          · (try dsimp only); omega
          · refine Le.tail _ _ _ (fun q hq => ⟨hov_at sn_inj (LgsOk.b (okc hcc)) q hq, Fam.ni1 (stO_fam cs _) q hq⟩) ?_ ?_ rfl
            all_goals (simp only [go_sem, simprocAttr, hin0])
        · skip
          have hiq : i < qs.length := by omega
          have hLi : L.length = i := by have := congrArg List.length hids; rw [List.length_map, List.length_take] at this; omega
          refine aw_seq (aw_regionD (EF := EFts) hG mixed (by rw [hN]; exact tr3_10) ok3_10 ?_)
          simp only [a3_10, d3_10, go_sem, simprocAttr, getD_mapd _ _ _ _ hc8, hc8, List.length_map, Lid.enc, strs_getD _ _ _ hiq, hiq, strs_len, tTS, EFts, fTrue_eq]
          (repeat' apply And.intro) <;> try exact sdA
          refine open_bad_use (ν := sn) (i := ids[i]) (eq := qs[i]) hok.b hcs hE sn_inj (fun q hq => stO_at sn_inj hok.b q hq) ?_
          simp only [go_sem, simprocAttr, hE]
          refine aw_condT rfl ?_
          refine aw_seq (aw_region (EF := EFts) hG (by rw [hN]; exact tr3_11) ?_)
          simp only [a3_11, go_sem, simprocAttr, tTS, EFts, fTrue_eq]
          (repeat' apply And.intro) <;> try exact sdA
          refine aw_ret ?_
          show Q _ _
          refine hQ _ _ (.inl rfl) ?_ ?_ ?_ <;> simp only [outφ, outV, AR.res, go_sem, simprocAttr, fTS]
      · simp only [decide_eq_true_eq, decide_eq_false_iff_not, Bool.and_eq_true, Bool.or_eq_true, Bool.not_eq_true', Bool.not_eq_false', Bool.and_eq_false_iff, Bool.or_eq_false_iff, Int.ofNat_lt, Int.ofNat_le, Nat.not_lt, Nat.not_le, Int.not_lt, Int.not_le] at hc8
        obtain rfl : i = ids.length := by omega
        rw [List.take_length] at hids
        have hidn : ids.Nodup := hids ▸ hnd
        refine aw_exit ?_
        simp only [go_sem, simprocAttr]
        refine aw_seq ?_
        refine aw_seq (aw_region (EF := EFts) hG (by rw [hN]; exact tr3_12) ?_)
        simp only [a3_12, go_sem, simprocAttr, tTS, EFts, fTrue_eq]
        refine aw_block ?_
        refine aw_loop (α := Nat × (List Leg)) (fun γ => (γ.1 ≤ ss.length) ∧ (LgsOk γ.2) ∧ (γ.2.map (·.id) = ids)) (fun γ => ⟨mkE [(1, V.list (List.map Lid.enc ids) false), (3, V.list (List.map Sl.enc ss) false), (4, V.str k), (11, V.ptr (sn 0) 0), (16, .int .i64 γ.1)], mkH ([] ++ stO sn cs γ.2)⟩) (fun γ => ss.length - γ.1) (0, L) ⟨Nat.zero_le _, hok, hids⟩ ?_ ?_
        · refine Le.tail _ _ _ (fun q hq => ⟨stO_at sn_inj hok.b q hq, Fam.ni1 (stO_fam cs _) q hq⟩) ?_ ?_ rfl
          all_goals (simp only [go_sem, simprocAttr, hin0])
        · rintro ⟨m, N⟩ ⟨hm, hok2, hids2⟩ KL2 hKL2
          try dsimp only at *
          refine aw_seq ?_
          refine aw_seq (aw_region (EF := EFts) hG (by rw [hN]; exact tr3_13) ?_)
          simp only [a3_13, go_sem, simprocAttr, tTS, EFts, fTrue_eq]
          refine aw_cond (b := _) rfl (fun hc13 => ?_) (fun hc13 => ?_)
          · simp only [decide_eq_true_eq, decide_eq_false_iff_not, Bool.and_eq_true, Bool.or_eq_true, Bool.not_eq_true', Bool.not_eq_false', Bool.and_eq_false_iff, Bool.or_eq_false_iff, Int.ofNat_lt, Int.ofNat_le, Nat.not_lt, Nat.not_le, Int.not_lt, Int.not_le] at hc13
            refine aw_skip ?_
            try simp only [go_sem, simprocAttr]
            refine aw_seq ?_
            refine aw_block ?_
            have hz := s1 _ (List.getElem_mem hc13)
            generalize hse : ss[m] = z at hz
            obtain ⟨lg, kc, nc⟩ := z
            refine aw_seq (aw_region (EF := EFts) hG (by rw [hN]; exact tr3_15) ?_)
            simp only [a3_15, go_sem, simprocAttr, getD_mapd _ _ _ _ hc13, hc13, hse, Sl.enc, List.length_map, tTS, EFts, fTrue_eq]
            (repeat' apply And.intro) <;> try exact sdA
            refine aw_cond (b := _) rfl (fun hb15 => ?_) (fun hb15 => ?_)
            · skip
              simp only [Bool.and_eq_true, decide_eq_true_eq] at hb15
              obtain ⟨a, ha⟩ := Int.eq_ofNat_of_zero_le hb15.1
              subst ha
              have ha : a < ids.length := by omega
              refine aw_regionD (EF := EFts) hG mixed (by rw [hN]; exact tr3_16) ok3_16 ?_
              simp only [a3_16, d3_16, go_sem, simprocAttr, getD_mapd _ _ _ _ hc13, hc13, hse, Sl.enc, getD_mapd _ _ _ _ ha, ha, List.length_map, Lid.enc, tTS, EFts, fTrue_eq]
              (repeat' apply And.intro) <;> try exact sdA
              refine sell_use (ν := sn) (ids := [ids[a]]) hok2 (by simp) sn_inj (fun q hq => stO_at sn_inj hok2.b q hq) ?_
              simp only [go_sem, simprocAttr]
              refine aw_region (EF := EFts) hG (by rw [hN]; exact tr3_14) ?_
              simp only [a3_14, go_sem, simprocAttr, inI, tTS, EFts, fTrue_eq]
              (repeat' apply And.intro) <;> try exact sdA
              refine hKL2 (m + 1, sellL N [ids[a]] kc nc) _ ?_ ?_ ?_
              · (try dsimp only); exact ⟨hc13, sellL_ok hok2, (conf_ids sellL_ids).trans hids2⟩
              · (try dsimp only); omega
              · refine Le.tail _ _ _ (fun q hq => ⟨hov_at sn_inj (sellL_ok hok2).b q hq, Fam.ni1 (stO_fam cs _) q hq⟩) ?_ ?_ rfl
                all_goals (simp only [go_sem, simprocAttr, hin0])
            · skip
              refine aw_skip ?_
              try simp only [go_sem, simprocAttr]
              refine aw_region (EF := EFts) hG (by rw [hN]; exact tr3_14) ?_
              simp only [a3_14, go_sem, simprocAttr, inI, tTS, EFts, fTrue_eq]
              (repeat' apply And.intro) <;> try exact sdA
              refine hKL2 (m + 1, N) _ ?_ ?_ ?_
              · (try dsimp only); exact ⟨hc13, hok2, hids2⟩
              · (try dsimp only); omega
              · refine Le.tail _ _ _ (fun q hq => ⟨stO_at sn_inj hok2.b q hq, Fam.ni1 (stO_fam cs _) q hq⟩) ?_ ?_ rfl
                all_goals (simp only [go_sem, simprocAttr, hin0])
          · simp only [decide_eq_true_eq, decide_eq_false_iff_not, Bool.and_eq_true, Bool.or_eq_true, Bool.not_eq_true', Bool.not_eq_false', Bool.and_eq_false_iff, Bool.or_eq_false_iff, Int.ofNat_lt, Int.ofNat_le, Nat.not_lt, Nat.not_le, Int.not_lt, Int.not_le] at hc13
            obtain rfl : m = ss.length := by omega
            obtain ⟨A, hA⟩ : ∃ A, A = avail N k ids := ⟨_, rfl⟩
            have hAr := avail_rng (L := N) (k := k) (ids := ids)
            rw [← hA] at hAr
            have hI := ids_of hids2 hidn hid
            have hH := here_of hids2 hidn
            have hNl : N.length ≤ 4 := by have := congrArg List.length hids2; rw [List.length_map] at this; omega
            refine aw_exit ?_
            simp only [go_sem, simprocAttr]
            refine aw_seq (aw_region (EF := EFts) hG (by rw [hN]; exact tr3_17) ?_)
            simp only [a3_17, go_sem, simprocAttr, tTS, EFts, fTrue_eq]
            (repeat' apply And.intro) <;> try exact sdA
            refine avail_use (ν := sn) (ids := ids) (cls := k) hok2 hI sn_inj (fun q hq => stO_at sn_inj hok2.b q hq) ?_
            simp only [go_sem, simprocAttr, ← hA]
            refine aw_seq ?_
            refine aw_seq (aw_region (EF := EFts) hG (by rw [hN]; exact tr3_18) ?_)
            simp only [a3_18, go_sem, simprocAttr, List.length_map, tTS, EFts, fTrue_eq]
            refine aw_cond (b := _) rfl (fun hb18 => ?_) (fun hb18 => ?_)
            · skip
              refine aw_seq (aw_region (EF := EFts) hG (by rw [hN]; exact tr3_19) ?_)
              simp only [a3_19, go_sem, simprocAttr, tTS, EFts, fTrue_eq]
              (repeat' apply And.intro) <;> try exact sdA
              refine aw_ret ?_
              show Q _ _
              refine hQ _ _ (.inl rfl) ?_ ?_ ?_ <;> simp only [outφ, outV, AR.res, go_sem, simprocAttr, fTS]
            · skip
              have hne : ids ≠ [] := by rintro rfl; simp at hb18
              have hmore : (sellE N ids k (A + 1) = 0) = False := eq_false (by rw [hA]; exact sell_more hH hne)
              refine aw_skip ?_
              try simp only [go_sem, simprocAttr]
              refine aw_seq ?_
              refine aw_seq (aw_region (EF := EFts) hG (by rw [hN]; exact tr3_20) ?_)
              simp only [a3_20, go_sem, simprocAttr, inI, tTS, EFts, fTrue_eq]
              refine copy_use (ν := sn) (μ := cn) hok2 (by omega) (hids2 ▸ hidn) sn_inj cn_inj sn_cn (fun q hq => stO_at sn_inj hok2.b q hq) (fun j hj => ⟨cn_none hok2.b j, by unfold cn; omega⟩) ?_
              simp only [go_sem, simprocAttr]
              refine ⟨by omega, sell_use (ν := cn) (ids := ids) (n := A + 1) hok2 (by omega) cn_inj (fun q hq => (two_at sn_inj cn_inj sn_cn hok2.b).2 q hq) ?_⟩
              simp only [go_sem, simprocAttr, hmore, decide_false]
              refine aw_condF rfl ?_
              refine aw_skip ?_
              try simp only [go_sem, simprocAttr]
              refine aw_seq ?_
              refine AW.le (s' := ⟨mkE [(1, .list (ids.map Lid.enc) false), (4, .str k), (11, .ptr (sn 0) 0), (17, .int .i64 A)], mkH ([] ++ stO sn cs N)⟩) ?_ ?_
              · refine Le.tail _ _ _ (fun q hq => ⟨?_, Fam.ni1 (stO_fam cs _) q hq⟩) ?_ ?_ rfl
                · show hov (stO cn cs _) (hov _ _) q.1 = _
                  rw [hov_far (sellL_ok hok2).b (fun j _ e => ?_)]
                  · exact (two_at sn_inj cn_inj sn_cn hok2.b).1 q hq
                  · obtain ⟨b, _, e2⟩ := st_nm hok2.b q hq
                    exact sn_cn b j (by rw [← e2, e])
                all_goals (simp only [go_sem, simprocAttr, hin0])
              refine aw_seq (aw_region (EF := EFts) hG (by rw [hN]; exact tr3_22) ?_)
              simp only [a3_22, go_sem, simprocAttr, tTS, EFts, fTrue_eq]
              refine aw_cond (b := _) rfl (fun hb22 => ?_) (fun hb22 => ?_)
              · skip
                have hA1 : 1 ≤ A := by simp at hb22; omega
                have hsell : sellE N ids k A = 0 := sell_all hH hne hA1 (by omega)
                have hsl : sellL N ids k A = addJs k A N (jsOf N ids) := by unfold sellL; rw [if_pos hsell]
                obtain ⟨z1, z2, z3, z4⟩ := sold_all hok2 hH hne (by rw [← hA]; exact hA1)
                rw [← hA] at z1 z2 z3 z4
                have hokm : LgsOk (addJs k A N (jsOf N ids)) := addJs_ok hok2
                have hidm : (addJs k A N (jsOf N ids)).map (·.id) = ids := (conf_ids addJs_ids).trans hids2
                have hjm : jsOf (addJs k A N (jsOf N ids)) ids = jsOf N ids := jsOf_ids (conf_ids addJs_ids) ids
                have hfm : findE (addJs k A N (jsOf N ids)) ids k A = 0 := (findE_conf addJs_ids ids k A).trans (find_all hH hne hA1 (by omega))
                have hIm := ids_of hidm hidn hid
                refine aw_seq (aw_region (EF := EFts) hG (by rw [hN]; exact tr3_23) ?_)
                simp only [a3_23, go_sem, simprocAttr, tTS, EFts, fTrue_eq]
                refine sell_use (ν := sn) (ids := ids) (n := A) hok2 (by omega) sn_inj (fun q hq => stO_at sn_inj hok2.b q hq) ?_
                simp only [go_sem, simprocAttr, hsell, hsl, decide_true, Bool.not_true]
                refine avail_use (ν := sn) (ids := ids) (cls := k) hokm hIm sn_inj (fun q hq => hov_at sn_inj hokm.b q hq) ?_
                simp only [go_sem, simprocAttr, z1, decide_true, Bool.not_true]
                refine cancel_use (ν := sn) (ids := ids) (n := A) hokm (by omega) hfm (by omega) (by rw [hjm]; exact z4) sn_inj (fun q hq => hov_at sn_inj hokm.b q hq) ?_
                simp only [go_sem, simprocAttr, hjm, z2, decide_true, Bool.not_true]
                refine aw_condF rfl ?_
                refine aw_skip ?_
                try simp only [go_sem, simprocAttr]
                refine aw_seq (aw_region (EF := EFts) hG (by rw [hN]; exact tr3_25) ?_)
                simp only [a3_25, go_sem, simprocAttr, tTS, EFts, fTrue_eq]
                refine avail_use (ν := sn) (ids := ids) (cls := k) hok2 hI sn_inj (fun q hq => by first | exact hov_at sn_inj hok2.b q hq | exact stO_at sn_inj hok2.b q hq) ?_
                simp only [go_sem, simprocAttr, ← hA, decide_true]
                refine aw_ret ?_
                show Q _ _
                refine hQ _ _ (.inl rfl) ?_ ?_ ?_ <;> simp only [outφ, outV, AR.res, go_sem, simprocAttr, fTS]
              · skip
                refine aw_skip ?_
                try simp only [go_sem, simprocAttr]
                refine aw_seq (aw_region (EF := EFts) hG (by rw [hN]; exact tr3_25) ?_)
                simp only [a3_25, go_sem, simprocAttr, tTS, EFts, fTrue_eq]
                refine avail_use (ν := sn) (ids := ids) (cls := k) hok2 hI sn_inj (fun q hq => by first | exact hov_at sn_inj hok2.b q hq | exact stO_at sn_inj hok2.b q hq) ?_
                simp only [go_sem, simprocAttr, ← hA, decide_true]
                refine aw_ret ?_
                show Q _ _
                refine hQ _ _ (.inl rfl) ?_ ?_ ?_ <;> simp only [outφ, outV, AR.res, go_sem, simprocAttr, fTS]
set_option linter.unusedSimpArgs false
set_option linter.unusedVariables false
set_option linter.deprecated false
inductive Sh where
  | b
  | i (k : IntKind)
  | s
  | st (fs : List Sh)
  | sl (e : Sh) (bytes : Nat)
mutual
def Sh.n : Sh → Nat
  | .b | .i _ | .s | .sl _ _ => 1
  | .st fs => Sh.ns fs
def Sh.ns : List Sh → Nat
  | [] => 0
  | f :: fs => f.n + Sh.ns fs
end
mutual
def Sh.fits : Sh → List V → Prop
  | .b, vs => ∃ x, vs = [.bool x]
  | .i k, vs => ∃ x, vs = [.int k x] ∧ (Lit.int k x).wf = true
  | .s, vs => ∃ x, vs = [.str x] ∧ x.length ≤ reachBytes
  | .sl e by', vs => ∃ rows, vs = [.list rows false] ∧ rows.length * by' ≤ reachBytes ∧ ∀ r ∈ rows, e.fits r
  | .st fs, vs => Sh.fitsL fs vs
def Sh.fitsL : List Sh → List V → Prop
  | [], vs => vs = []
  | f :: fs, vs => ∃ a b, vs = a ++ b ∧ f.fits a ∧ Sh.fitsL fs b
end
def shF (P : Program) (g : TypeId → Option Sh) : Nat → List Field → Option (List Sh)
  | _, [] => some []
  | o, f :: fs => if f.offset = o then match g f.type with
    | some u => if P.cellsOf f.type = u.n then (shF P g (o + u.n) fs).map (u :: ·) else none
    | none => none
    else none
def shT (P : Program) : Nat → TypeId → Option Sh
  | 0, _ => none
  | d + 1, t => match P.underlying t with
    | some .bool => some .b
    | some (.int k) => some (.i k)
    | some .string => some .s
    | some (.slice e) => match shT P d e with
      | some u => if P.cellsOf e = u.n ∧ 0 < u.n then some (.sl u (P.bytesOf e)) else none
      | none => none
    | some (.struct fs) => match shF P (shT P d) 0 fs.toList with
      | some l => if P.cellsOf t = Sh.ns l then some (.st l) else none
      | none => none
    | some (.array n e) => match shT P d e with
      | some u => if P.cellsOf e = u.n ∧ P.cellsOf t = n * u.n then some (.st (List.replicate n u)) else none
      | none => none
    | _ => none
section
variable {H : Type} {enc : TypeId × Value → H} {P : Program} {w : World} {M : Nat → Prop}
def CellsV (M : Nat → Prop) (w : World) (cs : List Value) (vs : List V) : Prop := vs.length = cs.length ∧ (∀ (j : Nat) (v : V), vs[j]? = some v → Pur M w v (cs.getD j undef)) ∧ ∀ c ∈ cs, c.oneCell' = true
theorem CellsV.app {c1 c2 : List Value} {v1 v2 : List V} (h1 : CellsV M w c1 v1) (h2 : CellsV M w c2 v2) : CellsV M w (c1 ++ c2) (v1 ++ v2) := by
  refine ⟨by rw [List.length_append, List.length_append, h1.1, h2.1], fun j v hj => ?_, fun c hc => (List.mem_append.1 hc).elim (h1.2.2 c) (h2.2.2 c)⟩
  have e1 := h1.1
  by_cases hlt : j < v1.length
  · rw [List.getElem?_append_left hlt] at hj
    rw [List.getD_eq_getElem?_getD, List.getElem?_append_left (by omega), ← List.getD_eq_getElem?_getD]
    exact h1.2.1 j v hj
  · rw [List.getElem?_append_right (by omega)] at hj
    rw [List.getD_eq_getElem?_getD, List.getElem?_append_right (by omega), ← List.getD_eq_getElem?_getD]
    have := h2.2.1 _ v hj
    rwa [e1] at this
theorem CellsV.one {c : Value} {v : V} (hp : Pur M w v c) (h1 : c.oneCell' = true) : CellsV M w [c] [v] := by
  refine ⟨rfl, fun j u hj => ?_, fun x hx => ?_⟩
  · cases j with
    | zero => simp only [List.getElem?_cons_zero, Option.some.injEq] at hj; subst hj; exact hp
    | succ j => simp at hj
  · rw [List.mem_singleton] at hx; subst hx; exact h1
theorem weightsAll_mem {e : TypeId} {d : DataW H} : ∀ {l : List (DataW H)}, d ∈ l → ∀ {n : Nat}, n ∈ d.weights P e → n ∈ DataW.weightsAll P e l
  | x :: l, hd, n, hn => by
    simp only [DataW.weightsAll, List.mem_append]
    rcases List.mem_cons.1 hd with rfl | hd
    · exact .inl hn
    · exact .inr (weightsAll_mem hd hn)
theorem open_cells (hM : ∀ b, b < w.heap.size → M b) : ∀ {fuel d : Nat} {t : TypeId} {cs : List Value} {x : DataW H × List MemPlace} {sh : Sh}, shT P d t = some sh → DataW.trod enc P w 0 (fun _ => true) true fuel t cs = some x → (∀ n ∈ x.1.weights P t, n ≤ reachBytes) → ∃ vs, sh.fits vs ∧ CellsV M w cs vs
  | fuel, 0, t, cs, x, sh, hs, _, _ => by simp [shT] at hs
  | fuel, d + 1, t, cs, x, sh, hs, h, hwt => by
    unfold shT at hs
    split at hs
    · rename_i ht
      injection hs with hs; subst hs
      obtain ⟨b, rfl, _⟩ := DataW.trod_bool ht h
      exact ⟨_, ⟨_, rfl⟩, .one (.bool _) rfl⟩
    · rename_i k ht
      injection hs with hs; subst hs
      obtain ⟨n, rfl, _, hw⟩ := DataW.trod_int ht h
      exact ⟨_, ⟨_, rfl, hw⟩, .one (.int _ _) rfl⟩
    · rename_i ht
      injection hs with hs; subst hs
      obtain ⟨u, rfl, rfl, _⟩ := DataW.trod_string ht h
      obtain ⟨⟨l⟩⟩ := u
      exact ⟨[.str l], ⟨_, rfl, hwt _ (by simp [DataW.weights])⟩, .one (.str l) rfl⟩
    · rename_i e ht
      split at hs
      · rename_i u hse
        split at hs
        · rename_i hc
          injection hs with hs; subst hs
          rcases DataW.trod_slice ht h with ⟨rfl, _⟩ | ⟨a, len, cap, elems, rest, n, rfl, rfl, rfl, _, hlc, hcm, helen, he, _, _⟩
          · exact ⟨[.list [] false], ⟨[], rfl, by simp, fun r hr => by cases hr⟩, .one (.list [] false none 0 0 0 0 (fun _ _ => undef) (fun e => by cases e) (Nat.le_refl _) (fun _ => rfl) (.inl rfl) (fun r hr => by cases hr) (fun i j hi _ => absurd hi (Nat.not_lt_zero _)) (fun i j r v hi => by simp at hi)) rfl⟩
          · obtain ⟨hce, hpos⟩ := hc
            simp only [DataW.weights, ht, List.length_map, List.mem_cons, List.mem_append] at hwt
            have hw0 := hwt _ (.inl rfl)
            have hwe : ∀ y ∈ elems, ∀ n ∈ y.1.weights P e, n ≤ reachBytes := fun y hy n hn => hwt n (.inr (.inl (weightsAll_mem (List.mem_map.2 ⟨y, hy, rfl⟩) hn)))
            have each : ∀ i, ∃ (ci : List Value) (vi : List V), i < len → w.cells? 0 (a.add (i * u.n)) u.n = some ci ∧ u.fits vi ∧ CellsV M w ci vi := by
              intro i
              by_cases hi : i < len
              · have h1 := he i hi
                rw [List.getElem?_eq_getElem (by omega), hce] at h1
                obtain ⟨ci, h2, h3⟩ := Option.bind_eq_some_iff.1 h1
                obtain ⟨vi, h4, h5⟩ := open_cells hM hse h3 (hwe _ (List.getElem_mem _))
                exact ⟨ci, vi, fun _ => ⟨h2, h4, h5⟩⟩
              · exact ⟨[], [], fun h => absurd h hi⟩
            obtain ⟨cf, each⟩ := Classical.skolem.1 each
            obtain ⟨vf, each⟩ := Classical.skolem.1 each
            have hrl : ((List.range len).map vf).length = len := by simp
            have hsp0 : 0 < len → a.spot = none := by
              intro h0
              obtain ⟨h1, _, _⟩ := each 0 h0
              obtain ⟨_, h4, h5⟩ := World.cells?_some h1
              have h6 := h5 0 hpos
              rw [List.getElem?_eq_getElem (by omega)] at h6
              rw [Nat.zero_mul] at h6
              have e1 : (a.add 0).add 0 = a := by simp [Addr.add]
              rw [e1] at h6
              cases hs : a.spot with
              | none => rfl
              | some q =>
                exfalso
                unfold World.cell? at h6
                split at h6
                · simp [hs] at h6
                · cases h6
            have hcell : ∀ i j, i < len → j < u.n → a.spot = none ∧ w.cell? ⟨a.block, a.off + i * u.n + j, none⟩ = some ((cf i).getD j undef) ∧ ((cf i).getD j undef).oneCell' = true := by
              intro i j hi hj
              obtain ⟨h1, _, h3⟩ := each i hi
              obtain ⟨_, h4, h5⟩ := World.cells?_some h1
              have h6 := h5 j hj
              have hlt : j < (cf i).length := by omega
              rw [List.getElem?_eq_getElem hlt] at h6
              have hd : (cf i).getD j undef = (cf i)[j] := by rw [List.getD_eq_getElem?_getD, List.getElem?_eq_getElem hlt]; rfl
              have hsp := hsp0 (by omega)
              refine ⟨hsp, ?_, ?_⟩
              · rw [hd, ← h6]
                obtain ⟨g, off, sp⟩ := a
                dsimp only at hsp
                subst hsp
                rw [addr_add, addr_add]
              · rw [hd]; exact h3.2.2 _ (List.getElem_mem hlt)
            have hrow : ∀ i r, ((List.range len).map vf)[i]? = some r → i < len ∧ r = vf i := by
              intro i r hr
              rw [List.getElem?_map] at hr
              obtain ⟨k, hk, rfl⟩ := Option.map_eq_some_iff.1 hr
              obtain ⟨hk1, hk2⟩ := List.getElem?_eq_some_iff.1 hk
              simp only [List.length_range] at hk1
              simp only [List.getElem_range] at hk2
              subst hk2
              exact ⟨hk1, rfl⟩
            have hln : ∀ i, i < len → (vf i).length = u.n := fun i hi => by
              obtain ⟨h1, _, h3⟩ := each i hi
              obtain ⟨_, h4, _⟩ := World.cells?_some h1
              rw [h3.1, h4]
            refine ⟨[.list ((List.range len).map vf) false], ⟨_, rfl, by rw [hrl, ← helen]; exact Nat.le_trans (Nat.mul_le_mul_right _ (Nat.le_add_right _ _)) hw0, fun r hr => ?_⟩, .one ?_ rfl⟩
            · obtain ⟨i, hi, rfl⟩ := List.mem_map.1 hr
              exact (each i (List.mem_range.1 hi)).2.1
            · have hp := Pur.list (M := M) (w := w) ((List.range len).map vf) false (some a) cap u.n a.block a.off (fun i j => (cf i).getD j undef) (fun e => by cases e) (by rw [hrl]; exact hlc) (fun e => by cases e) (by
                by_cases h0 : len = 0
                · left; subst h0; rfl
                · right
                  have hc0 := hcell 0 0 (by omega) hpos
                  refine ⟨by obtain ⟨_, _, _⟩ := a; simp at hc0; rw [hc0.1], hM _ ?_⟩
                  have hb := World.cells?_block (a := a.add (0 * u.n)) (each 0 (by omega)).1 hpos
                  rw [Nat.zero_mul] at hb
                  simpa [Addr.add] using hb) (fun r hr => by
                obtain ⟨i, hi, rfl⟩ := List.mem_map.1 hr
                exact hln i (List.mem_range.1 hi)) (fun i j hi hj => ?_) (fun i j r v hr hj => ?_)
              · rw [hrl] at hp; exact hp
              · rw [hrl] at hi
                exact (hcell i j hi hj).2
              · obtain ⟨hi, rfl⟩ := hrow i r hr
                exact (each i hi).2.2.2.1 j v hj
        · cases hs
      · cases hs
    · rename_i fs ht
      split at hs
      · rename_i l hl
        split at hs
        · rename_i hc
          injection hs with hs; subst hs
          obtain ⟨xs, n, rfl, rfl, hlen, hxl, hf⟩ := DataW.trod_struct ht h
          simp only [DataW.weights, ht] at hwt
          have main : ∀ (fl : List Field) (o k : Nat) (l : List Sh), (∀ i, fs.toList[k + i]? = fl[i]?) → shF P (shT P d) o fl = some l → o + Sh.ns l = cs.length → ∃ vs, Sh.fitsL l vs ∧ CellsV M w (cs.drop o) vs := by
            intro fl
            induction fl with
            | nil =>
              intro o k l _ hl hn
              simp only [shF, Option.some.injEq] at hl
              subst hl
              refine ⟨[], rfl, ?_⟩
              rw [List.drop_of_length_le (by simp only [Sh.ns] at hn; omega)]
              exact ⟨rfl, fun j v hj => by simp at hj, fun c hc => by cases hc⟩
            | cons f fl ih =>
              intro o k l hk hl hn
              unfold shF at hl
              split at hl
              · rename_i ho
                split at hl
                · rename_i u hu
                  split at hl
                  · rename_i hcu
                    obtain ⟨r, hr, rfl⟩ := Option.map_eq_some_iff.1 hl
                    simp only [Sh.ns] at hn
                    have hk0 := hk 0
                    simp only [Nat.add_zero, List.getElem?_cons_zero, Array.getElem?_toList] at hk0
                    have hfk := hf k f hk0
                    rw [ho, hcu] at hfk
                    cases hx : xs[k]? with
                    | none =>
                      have h1 := (Array.getElem?_eq_some_iff.1 hk0).1
                      have h2 := List.getElem?_eq_none_iff.1 hx
                      omega
                    | some y =>
                      rw [hx] at hfk
                      obtain ⟨v1, g1, g2⟩ := open_cells hM hu hfk (fun n hn => hwt n (DataW.weights_mem_each (j := k) (t := f.type) (d := y.1) (by rw [List.getElem?_map, Array.getElem?_toList, hk0]; rfl) (by rw [List.getElem?_map, hx]; rfl) n hn))
                      obtain ⟨v2, g3, g4⟩ := ih (o + u.n) (k + 1) r (fun i => by have := hk (i + 1); rw [List.getElem?_cons_succ] at this; rw [← this]; congr 1; omega) hr (by omega)
                      refine ⟨v1 ++ v2, ⟨v1, v2, rfl, g1, g3⟩, ?_⟩
                      have := CellsV.app g2 g4
                      rwa [← List.drop_drop, List.take_append_drop] at this
                  · cases hl
                · cases hl
              · cases hl
          obtain ⟨vs, g1, g2⟩ := main fs.toList 0 0 l (fun i => by rw [Nat.zero_add]) hl (by rw [Nat.zero_add, ← hc, hlen])
          exact ⟨vs, g1, g2⟩
        · cases hs
      · cases hs
    · rename_i n e ht
      split at hs
      · rename_i u hu
        split at hs
        · rename_i hc
          injection hs with hs; subst hs
          obtain ⟨hce, hct⟩ := hc
          obtain ⟨xs, m, rfl, rfl, hlen, hxl, hf⟩ := DataW.trod_array ht h
          simp only [DataW.weights, ht] at hwt
          have main : ∀ (j k : Nat), k + j = n → ∃ vs, Sh.fitsL (List.replicate j u) vs ∧ CellsV M w (cs.drop (k * u.n)) vs := by
            intro j
            induction j with
            | zero =>
              intro k hk
              refine ⟨[], rfl, ?_⟩
              have hk' : k = n := by omega
              rw [List.drop_of_length_le (by rw [hk', hlen, hct]; exact Nat.le_refl _)]
              exact ⟨rfl, fun j v hj => by simp at hj, fun c hc => by cases hc⟩
            | succ j ih =>
              intro k hk
              have hfk := hf k (by omega)
              rw [hce, List.getElem?_eq_getElem (by omega)] at hfk
              obtain ⟨v1, g1, g2⟩ := open_cells hM hu hfk (fun n hn => hwt n (weightsAll_mem (List.mem_map.2 ⟨_, List.getElem_mem _, rfl⟩) hn))
              obtain ⟨v2, g3, g4⟩ := ih (k + 1) (by omega)
              refine ⟨v1 ++ v2, ⟨v1, v2, rfl, g1, g3⟩, ?_⟩
              have := CellsV.app g2 g4
              rwa [Nat.add_mul, Nat.one_mul, ← List.drop_drop, List.take_append_drop] at this
          obtain ⟨vs, g1, g2⟩ := main n 0 (by omega)
          rw [Nat.zero_mul, List.drop_zero] at g2
          exact ⟨vs, g1, g2⟩
        · cases hs
      · cases hs
    · cases hs
end
set_option linter.unusedSimpArgs false
set_option linter.unusedVariables false
set_option linter.deprecated false
def Sh.val : Sh → List V → V
  | .st _, vs => .agg vs
  | _, vs => vs.headD .any
section
variable {H : Type} {enc : TypeId × Value → H} {P : Program} {W : World}
theorem agg_not {r : Reach} {b n : Nat} {t : TypeId} {sh : Sh} (hs : shT P n t = some sh) {v : Value} (hval : Value.okWide P W r b t v) : (∃ fs cs, sh = .st fs ∧ v = .agg cs) ∨ ((∀ fs, sh ≠ .st fs) ∧ v.cells = #[v]) := by
  cases n with
  | zero => simp [shT] at hs
  | succ n =>
    unfold shT at hs
    unfold Value.okWide at hval
    split at hs
    all_goals first | (rename_i ht; rw [ht] at hval; dsimp only at hval) | (cases hs; done)
    · injection hs with hs; subst hs
      refine .inr ⟨fun _ h => (by cases h), ?_⟩
      cases v <;> first | rfl | (simp [Cell.okWide, Cell.ok, ht] at hval)
    · injection hs with hs; subst hs
      refine .inr ⟨fun _ h => (by cases h), ?_⟩
      cases v <;> first | rfl | (simp [Cell.okWide, Cell.ok, ht] at hval)
    · injection hs with hs; subst hs
      refine .inr ⟨fun _ h => (by cases h), ?_⟩
      cases v <;> first | rfl | (simp [Cell.okWide, Cell.ok, ht] at hval)
    · split at hs
      · split at hs
        · injection hs with hs; subst hs
          refine .inr ⟨fun _ h => (by cases h), ?_⟩
          cases v <;> first | rfl | (simp [Cell.okWide, Cell.ok, ht] at hval)
        · cases hs
      · cases hs
    · split at hs
      · split at hs
        · injection hs with hs; subst hs
          obtain ⟨cs, rfl, _⟩ := hval
          exact .inl ⟨_, cs, rfl, rfl⟩
        · cases hs
      · cases hs
    · split at hs
      · split at hs
        · injection hs with hs; subst hs
          obtain ⟨cs, rfl, _⟩ := hval
          exact .inl ⟨_, cs, rfl, rfl⟩
        · cases hs
      · cases hs
theorem fits_one {sh : Sh} {vs : List V} (h : sh.fits vs) (hn : ∀ fs, sh ≠ .st fs) : ∃ u, vs = [u] := by
  cases sh with
  | st fs => exact absurd rfl (hn fs)
  | b => obtain ⟨x, rfl⟩ := h; exact ⟨_, rfl⟩
  | i k => obtain ⟨x, rfl, _⟩ := h; exact ⟨_, rfl⟩
  | s => obtain ⟨x, rfl, _⟩ := h; exact ⟨_, rfl⟩
  | sl e b => obtain ⟨x, rfl, _⟩ := h; exact ⟨_, rfl⟩
theorem open_arg {r : Reach} {b n : Nat} {t : TypeId} {sh : Sh} (hs : shT P n t = some sh) {v : Value} (hval : Value.okWide P W r b t v) {d : DataW H} {ps : List MemPlace} (h : DataW.Trod enc P W 0 (fun _ => true) true t v d ps) (hwt : ∀ n ∈ d.weights P t, n ≤ reachBytes) :
    ∃ vs, sh.fits vs ∧ Pur (fun b => b < W.heap.size) W (sh.val vs) v := by
  obtain ⟨fuel, hf⟩ := h
  obtain ⟨vs, h1, h2, h3, h4⟩ := open_cells (M := fun b => b < W.heap.size) (fun _ h => h) hs hf hwt
  refine ⟨vs, h1, ?_⟩
  rcases agg_not hs hval with ⟨fs, cs, rfl, rfl⟩ | ⟨hn, hc⟩
  · exact .agg vs cs (by simpa [Value.cells] using h2) (fun c hc => h4 c (by simpa [Value.cells] using hc)) (fun i u hi => by
      have := h3 i u hi
      rw [List.getD_eq_getElem?_getD, Array.getElem?_toList] at this
      simpa [Value.cells] using this)
  · obtain ⟨u, rfl⟩ := fits_one h1 hn
    have := h3 0 u rfl
    rw [hc] at this
    cases sh with
    | st fs => exact absurd rfl (hn fs)
    | _ => exact this
end
theorem fits_map {α : Type} {encA : α → List V} {ok : α → Prop} {e : Sh} (h : ∀ vs, e.fits vs → ∃ a, vs = encA a ∧ ok a) : ∀ {rows : List (List V)}, (∀ r ∈ rows, e.fits r) → ∃ l : List α, rows = l.map encA ∧ ∀ a ∈ l, ok a
  | [], _ => ⟨[], rfl, fun a ha => by cases ha⟩
  | r :: rs, hr => by
    obtain ⟨a, rfl, ha⟩ := h r (hr r (List.mem_cons_self ..))
    obtain ⟨l, rfl, hl⟩ := fits_map h fun x hx => hr x (List.mem_cons_of_mem _ hx)
    exact ⟨a :: l, rfl, fun x hx => by rcases List.mem_cons.1 hx with rfl | hx; exact ha; exact hl x hx⟩
theorem fits_s {vs : List V} (h : Sh.s.fits vs) : ∃ x : List UInt8, vs = [.str x] ∧ x.length ≤ 140737488355328 := by
  obtain ⟨x, rfl, hx⟩ := h
  exact ⟨x, rfl, by unfold reachBytes at hx; omega⟩
theorem fits_i {vs : List V} (h : (Sh.i .i64).fits vs) : ∃ x : Int, vs = [.int .i64 x] ∧ inI x := by
  obtain ⟨x, rfl, hx⟩ := h
  exact ⟨x, rfl, bounds_i64 hx⟩
theorem fits_sl {α : Type} {encA : α → List V} {ok : α → Prop} {e : Sh} {bytes : Nat} (h : ∀ vs, e.fits vs → ∃ a, vs = encA a ∧ ok a) {vs : List V} (hv : (Sh.sl e bytes).fits vs) : ∃ l : List α, vs = [.list (l.map encA) false] ∧ l.length * bytes ≤ 140737488351232 ∧ ∀ a ∈ l, ok a := by
  obtain ⟨rows, rfl, h1, h2⟩ := hv
  obtain ⟨l, rfl, hl⟩ := fits_map h h2
  rw [List.length_map] at h1
  exact ⟨l, rfl, h1, hl⟩
theorem tabW_lt {W : World} (h : TabW W) : (1 : Nat) < W.heap.size := by
  unfold TabW Lib.TabIs World.var? at h
  rw [gTab] at h
  simp only [Option.bind_some] at h
  cases hs : W.heap[(1 : Nat)]? with
  | none => rw [hs] at h; cases h
  | some o => exact (Array.getElem?_eq_some_iff.1 hs).1
theorem tabL_lt {W : World} (h : TabL W) : (0 : Nat) < W.heap.size := by
  unfold TabL Lib.TabIs World.var? at h
  rw [gLen] at h
  simp only [Option.bind_some] at h
  cases hs : W.heap[(0 : Nat)]? with
  | none => rw [hs] at h; cases h
  | some o => exact (Array.getElem?_eq_some_iff.1 hs).1
theorem UT_T {W : World} (h : UT.B W) : ∀ b, UT.T b → b < W.heap.size := by
  intro b hb
  have hb : b = 1 ∨ b = 0 := hb
  rcases hb with rfl | rfl
  · exact tabW_lt (utW h)
  · exact tabL_lt (utL h)
theorem law_calls {f : Nat} {g : List V → Prop × V} (hp : PureC Tryd.prog UT f g) {vs : List V} (h1 : (g vs).1) (h2 : (g vs).2 = .bool true) {W : World} {cargs : Array Value} (hU : UT.B W) (hsz : cargs.size = vs.length)
    (hpur : ∀ (i : Nat) (v : V), vs[i]? = some v → Pur (fun b => b < W.heap.size) W v (cargs.getD i undef)) : Calls Tryd.prog f cargs W fun e W' => e = .returned (.bool true) ∧ Below W.heap.size W W' := by
  refine ((hp vs _ W cargs h1).2 hU (UT_T hU) hsz (fun _ h => h) hpur).mono ?_
  rintro e w' ⟨cv, M', rfl, hcv, _, _, _, hb⟩
  rw [h2] at hcv
  cases hcv
  exact ⟨rfl, hb⟩
def PurL (W : World) : List V → List Value → Prop
  | [], [] => True
  | v :: vs, c :: cs => Pur (fun b => b < W.heap.size) W v c ∧ PurL W vs cs
  | _, _ => False
theorem PurL.get {W : World} : ∀ {vs : List V} {cs : List Value}, PurL W vs cs → cs.length = vs.length ∧ ∀ (i : Nat) (v : V), vs[i]? = some v → Pur (fun b => b < W.heap.size) W v (cs.getD i undef)
  | [], [], _ => ⟨rfl, fun i v h => by simp at h⟩
  | v :: vs, c :: cs, h => by
    obtain ⟨h1, h2⟩ := PurL.get h.2
    refine ⟨by simp [h1], fun i u hi => ?_⟩
    cases i with
    | zero => simp only [List.getElem?_cons_zero, Option.some.injEq] at hi; subst hi; exact h.1
    | succ i => rw [List.getElem?_cons_succ] at hi; rw [List.getD_cons_succ]; exact h2 i u hi
  | [], _ :: _, h => h.elim
  | _ :: _, [], h => h.elim
theorem law_callsA {α : Type} {args : α → List V} {F : α → Prop × V} {f : Nat} (inj : ∀ a b, args a = args b → a = b) (hp : PureC Tryd.prog UT f (gOf args F)) (a : α) (h1 : (F a).1) (h2 : (F a).2 = .bool true) {W : World} (hU : UT.B W) {cl : List Value} (hP : PurL W (args a) cl) :
    Calls Tryd.prog f cl.toArray W fun e W' => e = .returned (.bool true) ∧ Below W.heap.size W W' := by
  obtain ⟨e1, e2⟩ := hP.get
  exact law_calls hp (vs := args a) (by rw [gOf_eq inj]; exact h1) (by rw [gOf_eq inj]; exact h2) hU (by simpa using e1) (fun i v hi => by have := e2 i v hi; rwa [List.getD_eq_getElem?_getD, ← List.getElem?_toArray, ← Array.getD_eq_getD_getElem?] at this)
set_option linter.unusedSimpArgs false
set_option linter.unusedVariables false
set_option linter.deprecated false
mutual
def V.cnt : V → Nat
  | .list rows _ => 1 + V.cntR rows
  | _ => 1
def V.cntR : List (List V) → Nat
  | [] => 0
  | r :: rs => V.cntL r + V.cntR rs
def V.cntL : List V → Nat
  | [] => 0
  | v :: vs => v.cnt + V.cntL vs
end
theorem V.cntL_app : ∀ (a b : List V), V.cntL (a ++ b) = V.cntL a + V.cntL b
  | [], b => by simp [V.cntL]
  | v :: a, b => by rw [List.cons_append, V.cntL, V.cntL, V.cntL_app a b]; omega
theorem bulk_one {H : Type} (d : DataW H) : 1 ≤ Rows.uptoBulk d := by
  cases d with
  | lit l => cases l <;> simp [Rows.uptoBulk]
  | nil => simp [Rows.uptoBulk]
  | ptr d => simp [Rows.uptoBulk]
  | slice elems spare => simp [Rows.uptoBulk]
  | agg parts => simp [Rows.uptoBulk]
  | iface t d => simp [Rows.uptoBulk]
  | map entries => simp [Rows.uptoBulk]
  | held h => simp [Rows.uptoBulk]
theorem bulk_part {H : Type} {d : DataW H} : ∀ {l : List (DataW H)}, d ∈ l → Rows.uptoBulk d ≤ Rows.uptoBulkAll l
  | x :: l, h => by
    rw [Rows.uptoBulkAll]
    rcases List.mem_cons.1 h with rfl | h
    · omega
    · have := bulk_part h; omega
theorem bulk_drop {H : Type} {d : DataW H} : ∀ {l : List (DataW H)} {k : Nat}, l[k]? = some d → Rows.uptoBulkAll (l.drop k) = Rows.uptoBulk d + Rows.uptoBulkAll (l.drop (k + 1))
  | x :: l, 0, h => by
    simp only [List.getElem?_cons_zero, Option.some.injEq] at h
    subst h
    rw [List.drop_zero, List.drop_succ_cons, List.drop_zero, Rows.uptoBulkAll]
  | x :: l, k + 1, h => by
    rw [List.getElem?_cons_succ] at h
    rw [List.drop_succ_cons, List.drop_succ_cons]
    exact bulk_drop h
theorem cntR_le {H : Type} : ∀ (ds : List (DataW H)) (vf : Nat → List V) (len : Nat), len ≤ ds.length → (∀ i (h : i < ds.length), i < len → V.cntL (vf i) ≤ Rows.uptoBulk ds[i]) → V.cntR ((List.range len).map vf) ≤ Rows.uptoBulkAll ds
  | ds, vf, 0, _, _ => by simp [V.cntR]
  | d :: ds, vf, len + 1, hl, h => by
    have ih := cntR_le ds (fun i => vf (i + 1)) len (by simpa using hl) fun i h1 h2 => by
      have := h (i + 1) (by simpa using h1) (by omega)
      rwa [List.getElem_cons_succ] at this
    have h0 := h 0 (by simp) (by omega)
    rw [List.getElem_cons_zero] at h0
    rw [List.range_succ_eq_map, List.map_cons, List.map_map, V.cntR, Rows.uptoBulkAll]
    have e : (vf ∘ Nat.succ) = fun i => vf (i + 1) := rfl
    rw [e]; omega
section
variable {H : Type} {enc : TypeId × Value → H} {P : Program} {w : World} {M : Nat → Prop}
theorem open_cellsB (hM : ∀ b, b < w.heap.size → M b) : ∀ {fuel d : Nat} {t : TypeId} {cs : List Value} {x : DataW H × List MemPlace} {sh : Sh}, shT P d t = some sh → DataW.trod enc P w 0 (fun _ => true) true fuel t cs = some x → (∀ n ∈ x.1.weights P t, n ≤ reachBytes) → ∃ vs, sh.fits vs ∧ CellsV M w cs vs ∧ V.cntL vs ≤ Rows.uptoBulk x.1
  | fuel, 0, t, cs, x, sh, hs, _, _ => by simp [shT] at hs
  | fuel, d + 1, t, cs, x, sh, hs, h, hwt => by
    unfold shT at hs
    split at hs
    · rename_i ht
      injection hs with hs; subst hs
      obtain ⟨b, rfl, _⟩ := DataW.trod_bool ht h
      exact ⟨_, ⟨_, rfl⟩, .one (.bool _) rfl, bulk_one _⟩
    · rename_i k ht
      injection hs with hs; subst hs
      obtain ⟨n, rfl, _, hw⟩ := DataW.trod_int ht h
      exact ⟨_, ⟨_, rfl, hw⟩, .one (.int _ _) rfl, bulk_one _⟩
    · rename_i ht
      injection hs with hs; subst hs
      obtain ⟨u, rfl, rfl, _⟩ := DataW.trod_string ht h
      obtain ⟨⟨l⟩⟩ := u
      exact ⟨[.str l], ⟨_, rfl, hwt _ (by simp [DataW.weights])⟩, .one (.str l) rfl, bulk_one _⟩
    · rename_i e ht
      split at hs
      · rename_i u hse
        split at hs
        · rename_i hc
          injection hs with hs; subst hs
          rcases DataW.trod_slice ht h with ⟨rfl, _⟩ | ⟨a, len, cap, elems, rest, n, rfl, rfl, rfl, _, hlc, hcm, helen, he, _, _⟩
          · exact ⟨[.list [] false], ⟨[], rfl, by simp, fun r hr => by cases hr⟩, .one (.list [] false none 0 0 0 0 (fun _ _ => undef) (fun e => by cases e) (Nat.le_refl _) (fun _ => rfl) (.inl rfl) (fun r hr => by cases hr) (fun i j hi _ => absurd hi (Nat.not_lt_zero _)) (fun i j r v hi => by simp at hi)) rfl, bulk_one _⟩
          · obtain ⟨hce, hpos⟩ := hc
            simp only [DataW.weights, ht, List.length_map, List.mem_cons, List.mem_append] at hwt
            have hw0 := hwt _ (.inl rfl)
            have hwe : ∀ y ∈ elems, ∀ n ∈ y.1.weights P e, n ≤ reachBytes := fun y hy n hn => hwt n (.inr (.inl (weightsAll_mem (List.mem_map.2 ⟨y, hy, rfl⟩) hn)))
            have each : ∀ i, ∃ (ci : List Value) (vi : List V), i < len → w.cells? 0 (a.add (i * u.n)) u.n = some ci ∧ u.fits vi ∧ CellsV M w ci vi ∧ ∀ h : i < elems.length, V.cntL vi ≤ Rows.uptoBulk elems[i].1 := by
              intro i
              by_cases hi : i < len
              · have h1 := he i hi
                rw [List.getElem?_eq_getElem (by omega), hce] at h1
                obtain ⟨ci, h2, h3⟩ := Option.bind_eq_some_iff.1 h1
                obtain ⟨vi, h4, h5, h6⟩ := open_cellsB hM hse h3 (hwe _ (List.getElem_mem _))
                exact ⟨ci, vi, fun _ => ⟨h2, h4, h5, fun _ => h6⟩⟩
              · exact ⟨[], [], fun h => absurd h hi⟩
            obtain ⟨cf, each⟩ := Classical.skolem.1 each
            obtain ⟨vf, each⟩ := Classical.skolem.1 each
            have hrl : ((List.range len).map vf).length = len := by simp
            have hsp0 : 0 < len → a.spot = none := by
              intro h0
              obtain ⟨h1, _, _⟩ := each 0 h0
              obtain ⟨_, h4, h5⟩ := World.cells?_some h1
              have h6 := h5 0 hpos
              rw [List.getElem?_eq_getElem (by omega)] at h6
              rw [Nat.zero_mul] at h6
              have e1 : (a.add 0).add 0 = a := by simp [Addr.add]
              rw [e1] at h6
              cases hs : a.spot with
              | none => rfl
              | some q =>
                exfalso
                unfold World.cell? at h6
                split at h6
                · simp [hs] at h6
                · cases h6
            have hcell : ∀ i j, i < len → j < u.n → a.spot = none ∧ w.cell? ⟨a.block, a.off + i * u.n + j, none⟩ = some ((cf i).getD j undef) ∧ ((cf i).getD j undef).oneCell' = true := by
              intro i j hi hj
              obtain ⟨h1, _, h3, _⟩ := each i hi
              obtain ⟨_, h4, h5⟩ := World.cells?_some h1
              have h6 := h5 j hj
              have hlt : j < (cf i).length := by omega
              rw [List.getElem?_eq_getElem hlt] at h6
              have hd : (cf i).getD j undef = (cf i)[j] := by rw [List.getD_eq_getElem?_getD, List.getElem?_eq_getElem hlt]; rfl
              have hsp := hsp0 (by omega)
              refine ⟨hsp, ?_, ?_⟩
              · rw [hd, ← h6]
                obtain ⟨g, off, sp⟩ := a
                dsimp only at hsp
                subst hsp
                rw [addr_add, addr_add]
              · rw [hd]; exact h3.2.2 _ (List.getElem_mem hlt)
            have hrow : ∀ i r, ((List.range len).map vf)[i]? = some r → i < len ∧ r = vf i := by
              intro i r hr
              rw [List.getElem?_map] at hr
              obtain ⟨k, hk, rfl⟩ := Option.map_eq_some_iff.1 hr
              obtain ⟨hk1, hk2⟩ := List.getElem?_eq_some_iff.1 hk
              simp only [List.length_range] at hk1
              simp only [List.getElem_range] at hk2
              subst hk2
              exact ⟨hk1, rfl⟩
            have hln : ∀ i, i < len → (vf i).length = u.n := fun i hi => by
              obtain ⟨h1, _, h3, _⟩ := each i hi
              obtain ⟨_, h4, _⟩ := World.cells?_some h1
              rw [h3.1, h4]
            refine ⟨[.list ((List.range len).map vf) false], ⟨_, rfl, by rw [hrl, ← helen]; exact Nat.le_trans (Nat.mul_le_mul_right _ (Nat.le_add_right _ _)) hw0, fun r hr => ?_⟩, .one ?_ rfl, ?_⟩
            · obtain ⟨i, hi, rfl⟩ := List.mem_map.1 hr
              exact (each i (List.mem_range.1 hi)).2.1
            · have hp := Pur.list (M := M) (w := w) ((List.range len).map vf) false (some a) cap u.n a.block a.off (fun i j => (cf i).getD j undef) (fun e => by cases e) (by rw [hrl]; exact hlc) (fun e => by cases e) (by
                by_cases h0 : len = 0
                · left; subst h0; rfl
                · right
                  have hc0 := hcell 0 0 (by omega) hpos
                  refine ⟨by obtain ⟨_, _, _⟩ := a; simp at hc0; rw [hc0.1], hM _ ?_⟩
                  have hb := World.cells?_block (a := a.add (0 * u.n)) (each 0 (by omega)).1 hpos
                  rw [Nat.zero_mul] at hb
                  simpa [Addr.add] using hb) (fun r hr => by
                obtain ⟨i, hi, rfl⟩ := List.mem_map.1 hr
                exact hln i (List.mem_range.1 hi)) (fun i j hi hj => ?_) (fun i j r v hr hj => ?_)
              · rw [hrl] at hp; exact hp
              · rw [hrl] at hi
                exact (hcell i j hi hj).2
              · obtain ⟨hi, rfl⟩ := hrow i r hr
                exact (each i hi).2.2.1.2.1 j v hj
            · show 1 + V.cntR _ + 0 ≤ Rows.uptoBulkAll _ + Rows.uptoBulkAll _ + 1
              have := cntR_le (elems.map (·.1)) vf len (by rw [List.length_map]; omega) (fun i h1 h2 => by rw [List.getElem_map]; exact (each i h2).2.2.2 (by rw [List.length_map] at h1; exact h1))
              omega
        · cases hs
      · cases hs
    · rename_i fs ht
      split at hs
      · rename_i l hl
        split at hs
        · rename_i hc
          injection hs with hs; subst hs
          obtain ⟨xs, n, rfl, rfl, hlen, hxl, hf⟩ := DataW.trod_struct ht h
          simp only [DataW.weights, ht] at hwt
          have main : ∀ (fl : List Field) (o k : Nat) (l : List Sh), (∀ i, fs.toList[k + i]? = fl[i]?) → shF P (shT P d) o fl = some l → o + Sh.ns l = cs.length → ∃ vs, Sh.fitsL l vs ∧ CellsV M w (cs.drop o) vs ∧ V.cntL vs ≤ Rows.uptoBulkAll ((xs.map (·.1)).drop k) := by
            intro fl
            induction fl with
            | nil =>
              intro o k l _ hl hn
              simp only [shF, Option.some.injEq] at hl
              subst hl
              refine ⟨[], rfl, ?_⟩
              rw [List.drop_of_length_le (by simp only [Sh.ns] at hn; omega)]
              exact ⟨⟨rfl, fun j v hj => by simp at hj, fun c hc => by cases hc⟩, Nat.zero_le _⟩
            | cons f fl ih =>
              intro o k l hk hl hn
              unfold shF at hl
              split at hl
              · rename_i ho
                split at hl
                · rename_i u hu
                  split at hl
                  · rename_i hcu
                    obtain ⟨r, hr, rfl⟩ := Option.map_eq_some_iff.1 hl
                    simp only [Sh.ns] at hn
                    have hk0 := hk 0
                    simp only [Nat.add_zero, List.getElem?_cons_zero, Array.getElem?_toList] at hk0
                    have hfk := hf k f hk0
                    rw [ho, hcu] at hfk
                    cases hx : xs[k]? with
                    | none =>
                      have h1 := (Array.getElem?_eq_some_iff.1 hk0).1
                      have h2 := List.getElem?_eq_none_iff.1 hx
                      omega
                    | some y =>
                      rw [hx] at hfk
                      obtain ⟨v1, g1, g2, g5⟩ := open_cellsB hM hu hfk (fun n hn => hwt n (DataW.weights_mem_each (j := k) (t := f.type) (d := y.1) (by rw [List.getElem?_map, Array.getElem?_toList, hk0]; rfl) (by rw [List.getElem?_map, hx]; rfl) n hn))
                      obtain ⟨v2, g3, g4, g6⟩ := ih (o + u.n) (k + 1) r (fun i => by have := hk (i + 1); rw [List.getElem?_cons_succ] at this; rw [← this]; congr 1; omega) hr (by omega)
                      refine ⟨v1 ++ v2, ⟨v1, v2, rfl, g1, g3⟩, ?_⟩
                      have := CellsV.app g2 g4
                      rw [← List.drop_drop, List.take_append_drop] at this
                      refine ⟨this, ?_⟩
                      rw [V.cntL_app, bulk_drop (d := y.1) (by rw [List.getElem?_map, hx]; rfl)]
                      omega
                  · cases hl
                · cases hl
              · cases hl
          obtain ⟨vs, g1, g2, g3⟩ := main fs.toList 0 0 l (fun i => by rw [Nat.zero_add]) hl (by rw [Nat.zero_add, ← hc, hlen])
          exact ⟨vs, g1, g2, by rw [List.drop_zero] at g3; show _ ≤ Rows.uptoBulkAll _ + 1; omega⟩
        · cases hs
      · cases hs
    · rename_i n e ht
      split at hs
      · rename_i u hu
        split at hs
        · rename_i hc
          injection hs with hs; subst hs
          obtain ⟨hce, hct⟩ := hc
          obtain ⟨xs, m, rfl, rfl, hlen, hxl, hf⟩ := DataW.trod_array ht h
          simp only [DataW.weights, ht] at hwt
          have main : ∀ (j k : Nat), k + j = n → ∃ vs, Sh.fitsL (List.replicate j u) vs ∧ CellsV M w (cs.drop (k * u.n)) vs ∧ V.cntL vs ≤ Rows.uptoBulkAll ((xs.map (·.1)).drop k) := by
            intro j
            induction j with
            | zero =>
              intro k hk
              refine ⟨[], rfl, ?_⟩
              have hk' : k = n := by omega
              rw [List.drop_of_length_le (by rw [hk', hlen, hct]; exact Nat.le_refl _)]
              exact ⟨⟨rfl, fun j v hj => by simp at hj, fun c hc => by cases hc⟩, Nat.zero_le _⟩
            | succ j ih =>
              intro k hk
              have hfk := hf k (by omega)
              rw [hce, List.getElem?_eq_getElem (by omega)] at hfk
              obtain ⟨v1, g1, g2, g5⟩ := open_cellsB hM hu hfk (fun n hn => hwt n (weightsAll_mem (List.mem_map.2 ⟨_, List.getElem_mem _, rfl⟩) hn))
              obtain ⟨v2, g3, g4, g6⟩ := ih (k + 1) (by omega)
              refine ⟨v1 ++ v2, ⟨v1, v2, rfl, g1, g3⟩, ?_⟩
              have := CellsV.app g2 g4
              rw [Nat.add_mul, Nat.one_mul, ← List.drop_drop, List.take_append_drop] at this
              refine ⟨this, ?_⟩
              rw [V.cntL_app, bulk_drop (d := (xs[k]'(by omega)).1) (by rw [List.getElem?_map, List.getElem?_eq_getElem (by omega)]; rfl)]
              omega
          obtain ⟨vs, g1, g2, g3⟩ := main n 0 (by omega)
          rw [Nat.zero_mul, List.drop_zero] at g2
          exact ⟨vs, g1, g2, by rw [List.drop_zero] at g3; show _ ≤ Rows.uptoBulkAll _ + 1; omega⟩
        · cases hs
      · cases hs
    · cases hs
end
theorem open_argB {H : Type} {enc : TypeId × Value → H} {P : Program} {W : World} {r : Reach} {b n : Nat} {t : TypeId} {sh : Sh} (hs : shT P n t = some sh) {v : Value} (hval : Value.okWide P W r b t v) {d : DataW H} {ps : List MemPlace} (h : DataW.Trod enc P W 0 (fun _ => true) true t v d ps) (hwt : ∀ n ∈ d.weights P t, n ≤ reachBytes) :
    ∃ vs, sh.fits vs ∧ Pur (fun b => b < W.heap.size) W (sh.val vs) v ∧ V.cntL vs ≤ Rows.uptoBulk d := by
  obtain ⟨fuel, hf⟩ := h
  obtain ⟨vs, h1, ⟨h2, h3, h4⟩, h5⟩ := open_cellsB (M := fun b => b < W.heap.size) (fun _ h => h) hs hf hwt
  refine ⟨vs, h1, ?_, h5⟩
  rcases agg_not hs hval with ⟨fs, cs, rfl, rfl⟩ | ⟨hn, hc⟩
  · exact .agg vs cs (by simpa [Value.cells] using h2) (fun c hc => h4 c (by simpa [Value.cells] using hc)) (fun i u hi => by
      have := h3 i u hi
      rw [List.getD_eq_getElem?_getD, Array.getElem?_toList] at this
      simpa [Value.cells] using this)
  · obtain ⟨u, rfl⟩ := fits_one h1 hn
    have := h3 0 u rfl
    rw [hc] at this
    cases sh with
    | st fs => exact absurd rfl (hn fs)
    | _ => exact this
theorem cntR_mem {r : List V} : ∀ {l : List (List V)}, r ∈ l → V.cntL r ≤ V.cntR l
  | x :: l, h => by
    rw [V.cntR]
    rcases List.mem_cons.1 h with rfl | h
    · omega
    · have := cntR_mem h; omega
theorem cntR_len {k : Nat} : ∀ {l : List (List V)}, (∀ r ∈ l, k ≤ V.cntL r) → k * l.length ≤ V.cntR l
  | [], _ => by simp
  | x :: l, h => by
    have h1 := h x (List.mem_cons_self ..)
    have h2 := cntR_len (k := k) (l := l) fun r hr => h r (List.mem_cons_of_mem _ hr)
    rw [V.cntR, List.length_cons, Nat.mul_add, Nat.mul_one]; omega
end Go.Proofs.YtllhcpjgilpbnaaDoor
