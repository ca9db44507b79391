/- The examples of the laws across layers hold. -/
import Derived.Test.YtkdkjbneohdofaaDoorTp4
namespace Go.Proofs.YtkdkjbneohdofaaDoor
open Go Go.RowKit
set_option linter.unusedSimpArgs false
set_option linter.unusedVariables false
set_option linter.deprecated false
theorem ag_one {cargs : Array Value} (h : cargs.size = 1) : cargs = #[cargs.getD 0 undef] := by
  obtain ⟨l⟩ := cargs
  match l, h with
  | [a], _ => rfl
theorem ag_two {cargs : Array Value} (h : cargs.size = 2) : cargs = #[cargs.getD 0 undef, cargs.getD 1 undef] := by
  obtain ⟨l⟩ := cargs
  match l, h with
  | [a, b], _ => rfl
theorem ag_three {cargs : Array Value} (h : cargs.size = 3) : cargs = #[cargs.getD 0 undef, cargs.getD 1 undef, cargs.getD 2 undef] := by
  obtain ⟨l⟩ := cargs
  match l, h with
  | [a, b, c], _ => rfl
theorem pur_int {M : Nat → Prop} {w : World} {k : IntKind} {n : Int} {cv : Value} (h : Pur M w (.int k n) cv) : cv = .int k n := by cases h; rfl
def gLen : List V → Prop × V
  | [.int .i64 y, .int .i64 m] => (y = 2026 ∧ m = 1, .int .i64 31)
  | _ => (False, .any)
theorem length_p : PureC Tryd.prog UT 31 gLen := by
  refine PureC.leaf Tryd.func31 body31 nm31 fun vs M w cargs hg hB hsz ha => ?_
  unfold gLen at hg ⊢
  split at hg
  · obtain ⟨rfl, rfl⟩ := hg
    have e0 := pur_int (ha 0 _ rfl)
    have e1 := pur_int (ha 1 _ rfl)
    rw [ag_two hsz, e0, e1]
    refine (length_c w hB).mono ?_
    rintro e w' ⟨rfl, rfl⟩
    exact ⟨_, rfl, fun _ => .int _ _, Below.refl _ _⟩
  · exact hg.elim
def gCnt : List V → Prop × V
  | [.agg [.int .i64 a, .int .i64 b, .int .i64 c]] => (a = 9497 ∧ b = 9503 ∧ c = 96, .int .i64 2)
  | _ => (False, .any)
theorem count_p : PureC Tryd.prog UT 11 gCnt := by
  refine PureC.leaf Tryd.func11 rfl (by kernel_rfl) fun vs M w cargs hg hB hsz ha => ?_
  unfold gCnt at hg ⊢
  split at hg
  · obtain ⟨rfl, rfl, rfl⟩ := hg
    have h0 := ha 0 _ rfl
    rw [ag_one hsz]
    generalize cargs.getD 0 undef = cv at h0
    cases h0 with
    | agg _ cs hl ho hv =>
    have e0 := pur_int (hv 0 _ rfl)
    have e1 := pur_int (hv 1 _ rfl)
    have e2 := pur_int (hv 2 _ rfl)
    rw [ag_three hl.symm, e0, e1, e2]
    refine ((callsIn_wide (n := 5)).1 (count_in Fence.wide 5 trivial trivial trivial trivial trivial trivial rfl (by omega) w)).mono ?_
    rintro e w' ⟨rfl, hb⟩
    exact ⟨_, rfl, fun _ => .int _ _, hb⟩
  · exact hg.elim
def aDy (x : Int) : List V := [.int .i64 x]
theorem aDy_inj (a b : Int) (h : aDy a = aDy b) : a = b := by
  simp only [aDy, List.cons.injEq, V.str.injEq, V.int.injEq, V.bool.injEq, V.agg.injEq, V.list.injEq, and_true, true_and] at h
  have h0 := h
  subst h0
  rfl
def fFst (y : Int) : Prop × V := (2000 ≤ y ∧ y ≤ 10000, .int .i64 (365 * (y - 2000) + (y - 2000 + 3).tdiv 4))
theorem fFst_eq (y : Int) : gOf aDy fFst [.int .i64 y] = (2000 ≤ y ∧ y ≤ 10000, .int .i64 (365 * (y - 2000) + (y - 2000 + 3).tdiv 4)) := gOf_eq aDy_inj y
theorem first_p : PureC Tryd.prog UT 30 (gOf aDy fFst) := by
  have hG := tNo_ok
  refine PureC.ofArgs aDy_inj Tryd.func30 body30 nm30 res30 ?_
  rintro y hv
  refine ⟨by rw [nt30]; simp [aDy], fun C hN Q hQ => ?_⟩
  rw [nt30] at hN
  unfold c30
  obtain ⟨h1, h2⟩ : 2000 ≤ y ∧ y ≤ 10000 := hv
  have hd : -3000 ≤ (y - 2000 + 3).tdiv 4 ∧ (y - 2000 + 3).tdiv 4 ≤ 10000 := by
    rw [Int.tdiv_eq_ediv_of_nonneg (by omega)]; omega
  refine aw_seq (aw_region (EF := EF0) hG (by rw [hN]; exact tr30_0) ?_)
  simp only [a30_0, go_sem, ↓reduceIte, Nat.reduceEqDiff, reduceCtorEq, Nat.reduceAdd, Nat.reduceLT, Nat.reduceLeDiff, Nat.reduceBNe, Nat.reduceBEq, Int.reduceToNat, aDy]
  refine aw_seq (aw_region (EF := EF0) hG (by rw [hN]; exact tr30_1) ?_)
  simp only [a30_1, go_sem, ↓reduceIte, Nat.reduceEqDiff, reduceCtorEq, Nat.reduceAdd, Nat.reduceLT, Nat.reduceLeDiff, Nat.reduceBNe, Nat.reduceBEq, Int.reduceToNat, inI]
  (repeat' apply And.intro) <;> (try first | omega | ((fail_if_success refine idW ?_); (fail_if_success refine idS ?_); intros; (repeat' apply And.intro) <;> first | assumption | omega | (simp_all; done)))
  refine aw_seq (aw_region (EF := EF0) hG (by rw [hN]; exact tr30_2) ?_)
  simp only [a30_2, go_sem, ↓reduceIte, Nat.reduceEqDiff, reduceCtorEq, Nat.reduceAdd, Nat.reduceLT, Nat.reduceLeDiff, Nat.reduceBNe, Nat.reduceBEq, Int.reduceToNat, inI]
  (repeat' apply And.intro) <;> (try first | omega | ((fail_if_success refine idW ?_); (fail_if_success refine idS ?_); intros; (repeat' apply And.intro) <;> first | assumption | omega | (simp_all; done)))
  refine aw_ret ?_
  show Q _ _
  refine hQ _ _ (.inl rfl) ?_ ?_ ?_ <;> simp only [outφ, outV, AR.res, go_sem, ↓reduceIte, Nat.reduceEqDiff, reduceCtorEq, Nat.reduceAdd, Nat.reduceLT, Nat.reduceLeDiff, Nat.reduceBNe, Nat.reduceBEq, Int.reduceToNat, fFst]
def fDat (d : Int) : Prop × V := (d = 9497, .tup [.int .i64 2026, .int .i64 1, .int .i64 1])
theorem fDat_eq : gOf aDy fDat [.int .i64 9497] = (True, .tup [.int .i64 2026, .int .i64 1, .int .i64 1]) := (gOf_eq aDy_inj 9497).trans (by simp [fDat])
noncomputable def tDat : Tab
  | 30 => (gOf aDy fFst)
  | 31 => gLen
  | _ => gNo
theorem tDat_ok : ∀ f, PureC Tryd.prog UT f (tDat f) := fun f => by
  unfold tDat
  split
  · exact first_p
  · exact length_p
  · exact PureC.no
set_option maxHeartbeats 4000000 in
theorem date_p : PureC Tryd.prog UT 20 (gOf aDy fDat) := by
  have hG := tDat_ok
  refine PureC.ofArgs aDy_inj Tryd.func20 body20 nm20 res20 ?_
  rintro d hv
  refine ⟨by rw [nt20]; simp [aDy], fun C hN Q hQ => ?_⟩
  rw [nt20] at hN
  unfold c20
  obtain rfl : d = 9497 := hv
  refine aw_seq (aw_region (EF := EF0) hG (by rw [hN]; exact tr20_0) ?_)
  simp only [a20_0, go_sem, ↓reduceIte, Nat.reduceEqDiff, reduceCtorEq, Nat.reduceAdd, Nat.reduceLT, Nat.reduceLeDiff, Nat.reduceBNe, Nat.reduceBEq, Int.reduceToNat, aDy, tDat, fFst_eq, gLen, Int.reduceLT, Int.reduceLE, Int.reduceAdd, Int.reduceSub, Int.reduceMul, Int.reduceTDiv, Int.reduceTMod, Int.reduceEq, Int.reduceNeg, decide_true, decide_false, Bool.false_eq_true]
  refine aw_seq ?_
  refine aw_seq (aw_region (EF := EF0) hG (by rw [hN]; exact tr20_1) ?_)
  simp only [a20_1, go_sem, ↓reduceIte, Nat.reduceEqDiff, reduceCtorEq, Nat.reduceAdd, Nat.reduceLT, Nat.reduceLeDiff, Nat.reduceBNe, Nat.reduceBEq, Int.reduceToNat, tDat, fFst_eq, gLen, Int.reduceLT, Int.reduceLE, Int.reduceAdd, Int.reduceSub, Int.reduceMul, Int.reduceTDiv, Int.reduceTMod, Int.reduceEq, Int.reduceNeg, decide_true, decide_false, Bool.false_eq_true]
  (repeat' apply And.intro) <;> (try first | omega | ((fail_if_success refine idW ?_); (fail_if_success refine idS ?_); intros; (repeat' apply And.intro) <;> first | assumption | omega | (simp_all; done)))
  refine aw_condF rfl ?_
  refine aw_skip ?_
  try simp only [go_sem, ↓reduceIte, Nat.reduceEqDiff, reduceCtorEq, Nat.reduceAdd, Nat.reduceLT, Nat.reduceLeDiff, Nat.reduceBNe, Nat.reduceBEq, Int.reduceToNat]
  refine aw_seq (aw_region (EF := EF0) hG (by rw [hN]; exact tr20_3) ?_)
  simp only [a20_3, go_sem, ↓reduceIte, Nat.reduceEqDiff, reduceCtorEq, Nat.reduceAdd, Nat.reduceLT, Nat.reduceLeDiff, Nat.reduceBNe, Nat.reduceBEq, Int.reduceToNat, inI, tDat, fFst_eq, gLen, Int.reduceLT, Int.reduceLE, Int.reduceAdd, Int.reduceSub, Int.reduceMul, Int.reduceTDiv, Int.reduceTMod, Int.reduceEq, Int.reduceNeg, decide_true, decide_false, Bool.false_eq_true]
  (repeat' apply And.intro) <;> (try first | omega | ((fail_if_success refine idW ?_); (fail_if_success refine idS ?_); intros; (repeat' apply And.intro) <;> first | assumption | omega | (simp_all; done)))
  refine aw_seq ?_
  refine aw_block ?_
  refine aw_loop (α := Nat) (fun i => (i ≤ 1)) (fun i => ⟨mkE [(0, V.int IntKind.i64 9497), (5, .int .i64 (2025 + (i : Int)))], mkH []⟩) (fun i => 1 - i) 0 (by omega) ?_ ?_
  · refine Le.mk _ _ ?_ ?_ rfl <;> simp only [go_sem, ↓reduceIte, Nat.reduceEqDiff, reduceCtorEq, Nat.reduceAdd, Nat.reduceLT, Nat.reduceLeDiff, Nat.reduceBNe, Nat.reduceBEq, Int.reduceToNat] <;> (repeat' apply And.intro) <;> (try first | rfl | exact wk_frzb rfl rfl rfl | exact wk_fn rfl | exact .nilo _ _ _ rfl rfl | exact wk_frzm rfl rfl (fun kv hk => by obtain ⟨_, _, rfl⟩ := List.mem_map.1 hk; rfl))
  · rintro i hi KL0 hKL0
    try dsimp only at *
    refine aw_seq ?_
    by_cases h0 : i = 0
    · skip
      subst h0
      refine aw_seq (aw_region (EF := EF0) hG (by rw [hN]; exact tr20_4) ?_)
      simp only [a20_4, go_sem, ↓reduceIte, Nat.reduceEqDiff, reduceCtorEq, Nat.reduceAdd, Nat.reduceLT, Nat.reduceLeDiff, Nat.reduceBNe, Nat.reduceBEq, Int.reduceToNat, inI, tDat, fFst_eq, gLen, Int.reduceLT, Int.reduceLE, Int.reduceAdd, Int.reduceSub, Int.reduceMul, Int.reduceTDiv, Int.reduceTMod, Int.reduceEq, Int.reduceNeg, decide_true, decide_false, Bool.false_eq_true]
      (repeat' apply And.intro) <;> (try first | omega | ((fail_if_success refine idW ?_); (fail_if_success refine idS ?_); intros; (repeat' apply And.intro) <;> first | assumption | omega | (simp_all; done)))
      refine aw_condT rfl ?_
      refine aw_skip ?_
      try simp only [go_sem, ↓reduceIte, Nat.reduceEqDiff, reduceCtorEq, Nat.reduceAdd, Nat.reduceLT, Nat.reduceLeDiff, Nat.reduceBNe, Nat.reduceBEq, Int.reduceToNat]
      refine aw_block ?_
      refine aw_region (EF := EF0) hG (by rw [hN]; exact tr20_5) ?_
      simp only [a20_5, go_sem, ↓reduceIte, Nat.reduceEqDiff, reduceCtorEq, Nat.reduceAdd, Nat.reduceLT, Nat.reduceLeDiff, Nat.reduceBNe, Nat.reduceBEq, Int.reduceToNat, inI, tDat, fFst_eq, gLen, Int.reduceLT, Int.reduceLE, Int.reduceAdd, Int.reduceSub, Int.reduceMul, Int.reduceTDiv, Int.reduceTMod, Int.reduceEq, Int.reduceNeg, decide_true, decide_false, Bool.false_eq_true]
      (repeat' apply And.intro) <;> (try first | omega | ((fail_if_success refine idW ?_); (fail_if_success refine idS ?_); intros; (repeat' apply And.intro) <;> first | assumption | omega | (simp_all; done)))
      refine hKL0 (1) _ ?_ ?_ ?_
      · (try dsimp only); omega
      · omega
      · refine Le.mk _ _ ?_ ?_ rfl <;> simp only [go_sem, ↓reduceIte, Nat.reduceEqDiff, reduceCtorEq, Nat.reduceAdd, Nat.reduceLT, Nat.reduceLeDiff, Nat.reduceBNe, Nat.reduceBEq, Int.reduceToNat] <;> (repeat' apply And.intro) <;> (try first | rfl | exact wk_frzb rfl rfl rfl | exact wk_fn rfl | exact .nilo _ _ _ rfl rfl | exact wk_frzm rfl rfl (fun kv hk => by obtain ⟨_, _, rfl⟩ := List.mem_map.1 hk; rfl))
    · skip
      obtain rfl : i = 1 := by omega
      refine aw_seq (aw_region (EF := EF0) hG (by rw [hN]; exact tr20_4) ?_)
      simp only [a20_4, go_sem, ↓reduceIte, Nat.reduceEqDiff, reduceCtorEq, Nat.reduceAdd, Nat.reduceLT, Nat.reduceLeDiff, Nat.reduceBNe, Nat.reduceBEq, Int.reduceToNat, inI, tDat, fFst_eq, gLen, Int.reduceLT, Int.reduceLE, Int.reduceAdd, Int.reduceSub, Int.reduceMul, Int.reduceTDiv, Int.reduceTMod, Int.reduceEq, Int.reduceNeg, decide_true, decide_false, Bool.false_eq_true]
      (repeat' apply And.intro) <;> (try first | omega | ((fail_if_success refine idW ?_); (fail_if_success refine idS ?_); intros; (repeat' apply And.intro) <;> first | assumption | omega | (simp_all; done)))
      refine aw_condF rfl ?_
      refine aw_exit ?_
      simp only [go_sem, ↓reduceIte, Nat.reduceEqDiff, reduceCtorEq, Nat.reduceAdd, Nat.reduceLT, Nat.reduceLeDiff, Nat.reduceBNe, Nat.reduceBEq, Int.reduceToNat]
      refine aw_seq (aw_region (EF := EF0) hG (by rw [hN]; exact tr20_6) ?_)
      simp only [a20_6, go_sem, ↓reduceIte, Nat.reduceEqDiff, reduceCtorEq, Nat.reduceAdd, Nat.reduceLT, Nat.reduceLeDiff, Nat.reduceBNe, Nat.reduceBEq, Int.reduceToNat, inI, tDat, fFst_eq, gLen, Int.reduceLT, Int.reduceLE, Int.reduceAdd, Int.reduceSub, Int.reduceMul, Int.reduceTDiv, Int.reduceTMod, Int.reduceEq, Int.reduceNeg, decide_true, decide_false, Bool.false_eq_true]
      (repeat' apply And.intro) <;> (try first | omega | ((fail_if_success refine idW ?_); (fail_if_success refine idS ?_); intros; (repeat' apply And.intro) <;> first | assumption | omega | (simp_all; done)))
      refine aw_seq ?_
      refine aw_seq (aw_region (EF := EF0) hG (by rw [hN]; exact tr20_7) ?_)
      simp only [a20_7, go_sem, ↓reduceIte, Nat.reduceEqDiff, reduceCtorEq, Nat.reduceAdd, Nat.reduceLT, Nat.reduceLeDiff, Nat.reduceBNe, Nat.reduceBEq, Int.reduceToNat, tDat, fFst_eq, gLen, Int.reduceLT, Int.reduceLE, Int.reduceAdd, Int.reduceSub, Int.reduceMul, Int.reduceTDiv, Int.reduceTMod, Int.reduceEq, Int.reduceNeg, decide_true, decide_false, Bool.false_eq_true]
      refine aw_block ?_
      refine aw_loop (α := Nat) (fun j => (j = 0)) (fun j => ⟨mkE [(5, V.int IntKind.i64 2026), (6, V.int IntKind.i64 0), (29, .int .i64 j)], mkH []⟩) (fun j => 0) 0 rfl ?_ ?_
      · refine Le.mk _ _ ?_ ?_ rfl <;> simp only [go_sem, ↓reduceIte, Nat.reduceEqDiff, reduceCtorEq, Nat.reduceAdd, Nat.reduceLT, Nat.reduceLeDiff, Nat.reduceBNe, Nat.reduceBEq, Int.reduceToNat] <;> (repeat' apply And.intro) <;> (try first | rfl | exact wk_frzb rfl rfl rfl | exact wk_fn rfl | exact .nilo _ _ _ rfl rfl | exact wk_frzm rfl rfl (fun kv hk => by obtain ⟨_, _, rfl⟩ := List.mem_map.1 hk; rfl))
      · rintro j hj KL2 hKL2
        try dsimp only at *
        subst hj
        refine aw_seq (aw_region (EF := EF0) hG (by rw [hN]; exact tr20_8) ?_)
        simp only [a20_8, go_sem, ↓reduceIte, Nat.reduceEqDiff, reduceCtorEq, Nat.reduceAdd, Nat.reduceLT, Nat.reduceLeDiff, Nat.reduceBNe, Nat.reduceBEq, Int.reduceToNat, tDat, fFst_eq, gLen, Int.reduceLT, Int.reduceLE, Int.reduceAdd, Int.reduceSub, Int.reduceMul, Int.reduceTDiv, Int.reduceTMod, Int.reduceEq, Int.reduceNeg, decide_true, decide_false, Bool.false_eq_true]
        refine aw_seq ?_
        refine aw_condT rfl ?_
        refine aw_skip ?_
        try simp only [go_sem, ↓reduceIte, Nat.reduceEqDiff, reduceCtorEq, Nat.reduceAdd, Nat.reduceLT, Nat.reduceLeDiff, Nat.reduceBNe, Nat.reduceBEq, Int.reduceToNat]
        refine aw_seq ?_
        refine aw_block ?_
        refine aw_seq (aw_region (EF := EF0) hG (by rw [hN]; exact tr20_9) ?_)
        simp only [a20_9, go_sem, ↓reduceIte, Nat.reduceEqDiff, reduceCtorEq, Nat.reduceAdd, Nat.reduceLT, Nat.reduceLeDiff, Nat.reduceBNe, Nat.reduceBEq, Int.reduceToNat, tDat, fFst_eq, gLen, Int.reduceLT, Int.reduceLE, Int.reduceAdd, Int.reduceSub, Int.reduceMul, Int.reduceTDiv, Int.reduceTMod, Int.reduceEq, Int.reduceNeg, decide_true, decide_false, Bool.false_eq_true]
        refine aw_seq (aw_region (EF := EF0) hG (by rw [hN]; exact tr20_10) ?_)
        simp only [a20_10, go_sem, ↓reduceIte, Nat.reduceEqDiff, reduceCtorEq, Nat.reduceAdd, Nat.reduceLT, Nat.reduceLeDiff, Nat.reduceBNe, Nat.reduceBEq, Int.reduceToNat, inI, tDat, fFst_eq, gLen, Int.reduceLT, Int.reduceLE, Int.reduceAdd, Int.reduceSub, Int.reduceMul, Int.reduceTDiv, Int.reduceTMod, Int.reduceEq, Int.reduceNeg, decide_true, decide_false, Bool.false_eq_true]
        (repeat' apply And.intro) <;> (try first | omega | ((fail_if_success refine idW ?_); (fail_if_success refine idS ?_); intros; (repeat' apply And.intro) <;> first | assumption | omega | (simp_all; done)))
        refine aw_seq ?_
        refine aw_seq (aw_region (EF := EF0) hG (by rw [hN]; exact tr20_11) ?_)
        simp only [a20_11, go_sem, ↓reduceIte, Nat.reduceEqDiff, reduceCtorEq, Nat.reduceAdd, Nat.reduceLT, Nat.reduceLeDiff, Nat.reduceBNe, Nat.reduceBEq, Int.reduceToNat, tDat, fFst_eq, gLen, Int.reduceLT, Int.reduceLE, Int.reduceAdd, Int.reduceSub, Int.reduceMul, Int.reduceTDiv, Int.reduceTMod, Int.reduceEq, Int.reduceNeg, decide_true, decide_false, Bool.false_eq_true]
        refine aw_condT rfl ?_
        refine aw_seq (aw_region (EF := EF0) hG (by rw [hN]; exact tr20_12) ?_)
        simp only [a20_12, go_sem, ↓reduceIte, Nat.reduceEqDiff, reduceCtorEq, Nat.reduceAdd, Nat.reduceLT, Nat.reduceLeDiff, Nat.reduceBNe, Nat.reduceBEq, Int.reduceToNat, inI, tDat, fFst_eq, gLen, Int.reduceLT, Int.reduceLE, Int.reduceAdd, Int.reduceSub, Int.reduceMul, Int.reduceTDiv, Int.reduceTMod, Int.reduceEq, Int.reduceNeg, decide_true, decide_false, Bool.false_eq_true]
        (repeat' apply And.intro) <;> (try first | omega | ((fail_if_success refine idW ?_); (fail_if_success refine idS ?_); intros; (repeat' apply And.intro) <;> first | assumption | omega | (simp_all; done)))
        refine aw_ret ?_
        show Q _ _
        refine hQ _ _ (.inl rfl) ?_ ?_ ?_ <;> simp only [outφ, outV, AR.res, go_sem, ↓reduceIte, Nat.reduceEqDiff, reduceCtorEq, Nat.reduceAdd, Nat.reduceLT, Nat.reduceLeDiff, Nat.reduceBNe, Nat.reduceBEq, Int.reduceToNat, fDat]
def twoS (n : Int) : List UInt8 := if n = 20 then [50, 48] else if n = 26 then [50, 54] else [48, 49]
def fTwo (n : Int) : Prop × V := (n = 20 ∨ n = 26 ∨ n = 1, .str (twoS n))
theorem fTwo_eq (n : Int) : gOf aDy fTwo [.int .i64 n] = (n = 20 ∨ n = 26 ∨ n = 1, .str (twoS n)) := gOf_eq aDy_inj n
theorem k48 : inK .u8 48 := by show _ = _; kernel_rfl
theorem k49 : inK .u8 49 := by show _ = _; kernel_rfl
theorem k50 : inK .u8 50 := by show _ = _; kernel_rfl
theorem k54 : inK .u8 54 := by show _ = _; kernel_rfl
theorem two_p : PureC Tryd.prog UT 21 (gOf aDy fTwo) := by
  have hG := tNo_ok
  refine PureC.ofArgs aDy_inj Tryd.func21 body21 nm21 res21 ?_
  rintro n hv
  refine ⟨by rw [nt21]; simp [aDy], fun C hN Q hQ => ?_⟩
  rw [nt21] at hN
  unfold c21
  have hn : n = 20 ∨ n = 26 ∨ n = 1 := hv
  clear hv
  rcases hn with rfl | rfl | rfl
  · skip
    refine aw_seq (aw_region (EF := EF0) hG (by rw [hN]; exact tr21_0) ?_)
    simp only [a21_0, go_sem, ↓reduceIte, Nat.reduceEqDiff, reduceCtorEq, Nat.reduceAdd, Nat.reduceLT, Nat.reduceLeDiff, Nat.reduceBNe, Nat.reduceBEq, Int.reduceToNat, aDy, Int.reduceLT, Int.reduceLE, Int.reduceAdd, Int.reduceSub, Int.reduceMul, Int.reduceTDiv, Int.reduceTMod, Int.reduceEq, Int.reduceNeg, decide_true, decide_false, Bool.false_eq_true]
    refine aw_seq (aw_region (EF := EF0) hG (by rw [hN]; exact tr21_1) ?_)
    simp only [a21_1, go_sem, ↓reduceIte, Nat.reduceEqDiff, reduceCtorEq, Nat.reduceAdd, Nat.reduceLT, Nat.reduceLeDiff, Nat.reduceBNe, Nat.reduceBEq, Int.reduceToNat, inI, k48, k49, k50, k54, Int.reduceLT, Int.reduceLE, Int.reduceAdd, Int.reduceSub, Int.reduceMul, Int.reduceTDiv, Int.reduceTMod, Int.reduceEq, Int.reduceNeg, decide_true, decide_false, Bool.false_eq_true]
    refine aw_ret ?_
    show Q _ _
    refine hQ _ _ (.inl rfl) ?_ ?_ ?_ <;> simp only [outφ, outV, AR.res, go_sem, ↓reduceIte, Nat.reduceEqDiff, reduceCtorEq, Nat.reduceAdd, Nat.reduceLT, Nat.reduceLeDiff, Nat.reduceBNe, Nat.reduceBEq, Int.reduceToNat, fTwo]
    rfl
  · skip
    refine aw_seq (aw_region (EF := EF0) hG (by rw [hN]; exact tr21_0) ?_)
    simp only [a21_0, go_sem, ↓reduceIte, Nat.reduceEqDiff, reduceCtorEq, Nat.reduceAdd, Nat.reduceLT, Nat.reduceLeDiff, Nat.reduceBNe, Nat.reduceBEq, Int.reduceToNat, aDy, Int.reduceLT, Int.reduceLE, Int.reduceAdd, Int.reduceSub, Int.reduceMul, Int.reduceTDiv, Int.reduceTMod, Int.reduceEq, Int.reduceNeg, decide_true, decide_false, Bool.false_eq_true]
    refine aw_seq (aw_region (EF := EF0) hG (by rw [hN]; exact tr21_1) ?_)
    simp only [a21_1, go_sem, ↓reduceIte, Nat.reduceEqDiff, reduceCtorEq, Nat.reduceAdd, Nat.reduceLT, Nat.reduceLeDiff, Nat.reduceBNe, Nat.reduceBEq, Int.reduceToNat, inI, k48, k49, k50, k54, Int.reduceLT, Int.reduceLE, Int.reduceAdd, Int.reduceSub, Int.reduceMul, Int.reduceTDiv, Int.reduceTMod, Int.reduceEq, Int.reduceNeg, decide_true, decide_false, Bool.false_eq_true]
    refine aw_ret ?_
    show Q _ _
    refine hQ _ _ (.inl rfl) ?_ ?_ ?_ <;> simp only [outφ, outV, AR.res, go_sem, ↓reduceIte, Nat.reduceEqDiff, reduceCtorEq, Nat.reduceAdd, Nat.reduceLT, Nat.reduceLeDiff, Nat.reduceBNe, Nat.reduceBEq, Int.reduceToNat, fTwo]
    rfl
  · skip
    refine aw_seq (aw_region (EF := EF0) hG (by rw [hN]; exact tr21_0) ?_)
    simp only [a21_0, go_sem, ↓reduceIte, Nat.reduceEqDiff, reduceCtorEq, Nat.reduceAdd, Nat.reduceLT, Nat.reduceLeDiff, Nat.reduceBNe, Nat.reduceBEq, Int.reduceToNat, aDy, Int.reduceLT, Int.reduceLE, Int.reduceAdd, Int.reduceSub, Int.reduceMul, Int.reduceTDiv, Int.reduceTMod, Int.reduceEq, Int.reduceNeg, decide_true, decide_false, Bool.false_eq_true]
    refine aw_seq (aw_region (EF := EF0) hG (by rw [hN]; exact tr21_1) ?_)
    simp only [a21_1, go_sem, ↓reduceIte, Nat.reduceEqDiff, reduceCtorEq, Nat.reduceAdd, Nat.reduceLT, Nat.reduceLeDiff, Nat.reduceBNe, Nat.reduceBEq, Int.reduceToNat, inI, k48, k49, k50, k54, Int.reduceLT, Int.reduceLE, Int.reduceAdd, Int.reduceSub, Int.reduceMul, Int.reduceTDiv, Int.reduceTMod, Int.reduceEq, Int.reduceNeg, decide_true, decide_false, Bool.false_eq_true]
    refine aw_ret ?_
    show Q _ _
    refine hQ _ _ (.inl rfl) ?_ ?_ ?_ <;> simp only [outφ, outV, AR.res, go_sem, ↓reduceIte, Nat.reduceEqDiff, reduceCtorEq, Nat.reduceAdd, Nat.reduceLT, Nat.reduceLeDiff, Nat.reduceBNe, Nat.reduceBEq, Int.reduceToNat, fTwo]
    rfl
def sDate : List UInt8 := [50, 48, 50, 54, 45, 48, 49, 45, 48, 49]
def fPrn (d : Int) : Prop × V := (d = 9497, .str sDate)
theorem fPrn_eq : gOf aDy fPrn [.int .i64 9497] = (True, .str sDate) := (gOf_eq aDy_inj 9497).trans (by simp [fPrn])
theorem tw20 : gOf aDy fTwo [.int .i64 20] = (True, .str [50, 48]) := (fTwo_eq 20).trans (by simp [twoS])
theorem tw26 : gOf aDy fTwo [.int .i64 26] = (True, .str [50, 54]) := (fTwo_eq 26).trans (by simp [twoS])
theorem tw1 : gOf aDy fTwo [.int .i64 1] = (True, .str [48, 49]) := (fTwo_eq 1).trans (by simp [twoS])
noncomputable def tPrn : Tab
  | 20 => (gOf aDy fDat)
  | 21 => (gOf aDy fTwo)
  | _ => gNo
theorem tPrn_ok : ∀ f, PureC Tryd.prog UT f (tPrn f) := fun f => by
  unfold tPrn
  split
  · exact date_p
  · exact two_p
  · exact PureC.no
theorem print_p : PureC Tryd.prog UT 10 (gOf aDy fPrn) := by
  have hG := tPrn_ok
  refine PureC.ofArgs aDy_inj Tryd.func10 body10 nm10 res10 ?_
  rintro d hv
  refine ⟨by rw [nt10]; simp [aDy], fun C hN Q hQ => ?_⟩
  rw [nt10] at hN
  unfold c10
  obtain rfl : d = 9497 := hv
  refine aw_seq (aw_region (EF := EF0) hG (by rw [hN]; exact tr10_0) ?_)
  simp only [a10_0, go_sem, ↓reduceIte, Nat.reduceEqDiff, reduceCtorEq, Nat.reduceAdd, Nat.reduceLT, Nat.reduceLeDiff, Nat.reduceBNe, Nat.reduceBEq, Int.reduceToNat, aDy, tPrn, fDat_eq, tw20, tw26, tw1, Int.reduceLT, Int.reduceLE, Int.reduceAdd, Int.reduceSub, Int.reduceMul, Int.reduceTDiv, Int.reduceTMod, Int.reduceEq, Int.reduceNeg, decide_true, decide_false, Bool.false_eq_true]
  refine aw_seq (aw_region (EF := EF0) hG (by rw [hN]; exact tr10_1) ?_)
  simp only [a10_1, go_sem, ↓reduceIte, Nat.reduceEqDiff, reduceCtorEq, Nat.reduceAdd, Nat.reduceLT, Nat.reduceLeDiff, Nat.reduceBNe, Nat.reduceBEq, Int.reduceToNat, tPrn, fDat_eq, tw20, tw26, tw1, Int.reduceLT, Int.reduceLE, Int.reduceAdd, Int.reduceSub, Int.reduceMul, Int.reduceTDiv, Int.reduceTMod, Int.reduceEq, Int.reduceNeg, decide_true, decide_false, Bool.false_eq_true]
  (repeat' apply And.intro) <;> (try first | omega | ((fail_if_success refine idW ?_); (fail_if_success refine idS ?_); intros; (repeat' apply And.intro) <;> first | assumption | omega | (simp_all; done)))
  refine aw_seq ?_
  refine aw_seq (aw_region (EF := EF0) hG (by rw [hN]; exact tr10_2) ?_)
  simp only [a10_2, go_sem, ↓reduceIte, Nat.reduceEqDiff, reduceCtorEq, Nat.reduceAdd, Nat.reduceLT, Nat.reduceLeDiff, Nat.reduceBNe, Nat.reduceBEq, Int.reduceToNat, tPrn, fDat_eq, tw20, tw26, tw1, Int.reduceLT, Int.reduceLE, Int.reduceAdd, Int.reduceSub, Int.reduceMul, Int.reduceTDiv, Int.reduceTMod, Int.reduceEq, Int.reduceNeg, decide_true, decide_false, Bool.false_eq_true]
  refine aw_condF rfl ?_
  refine aw_skip ?_
  try simp only [go_sem, ↓reduceIte, Nat.reduceEqDiff, reduceCtorEq, Nat.reduceAdd, Nat.reduceLT, Nat.reduceLeDiff, Nat.reduceBNe, Nat.reduceBEq, Int.reduceToNat]
  refine aw_seq (aw_region (EF := EF0) hG (by rw [hN]; exact tr10_4) ?_)
  simp only [a10_4, go_sem, ↓reduceIte, Nat.reduceEqDiff, reduceCtorEq, Nat.reduceAdd, Nat.reduceLT, Nat.reduceLeDiff, Nat.reduceBNe, Nat.reduceBEq, Int.reduceToNat, inI, List.cons_append, List.nil_append, List.length_cons, List.length_nil, tPrn, fDat_eq, tw20, tw26, tw1, Int.reduceLT, Int.reduceLE, Int.reduceAdd, Int.reduceSub, Int.reduceMul, Int.reduceTDiv, Int.reduceTMod, Int.reduceEq, Int.reduceNeg, decide_true, decide_false, Bool.false_eq_true]
  (repeat' apply And.intro) <;> (try first | omega | ((fail_if_success refine idW ?_); (fail_if_success refine idS ?_); intros; (repeat' apply And.intro) <;> first | assumption | omega | (simp_all; done)))
  refine aw_ret ?_
  show Q _ _
  refine hQ _ _ (.inl rfl) ?_ ?_ ?_ <;> simp only [outφ, outV, AR.res, go_sem, ↓reduceIte, Nat.reduceEqDiff, reduceCtorEq, Nat.reduceAdd, Nat.reduceLT, Nat.reduceLeDiff, Nat.reduceBNe, Nat.reduceBEq, Int.reduceToNat, fPrn, sDate]
/-! Zones. -/
def aZo (x : Int) : List V := [.int .i64 x]
theorem aZo_inj (a b : Int) (h : aZo a = aZo b) : a = b := by
  simp only [aZo, List.cons.injEq, V.str.injEq, V.int.injEq, V.bool.injEq, V.agg.injEq, V.list.injEq, and_true, true_and] at h
  have h0 := h
  subst h0
  rfl
def aZn (x : Int × Int) : List V := [.agg [.int .i64 x.1, .nils], .int .i64 x.2]
theorem aZn_inj (a b : Int × Int) (h : aZn a = aZn b) : a = b := by
  obtain ⟨a1, a2⟩ := a
  obtain ⟨b1, b2⟩ := b
  simp only [aZn, List.cons.injEq, V.agg.injEq, V.int.injEq, and_true, true_and] at h
  rw [h.1, h.2]
def fOff (x : Int × Int) : Prop × V := (True, .int .i64 x.1)
theorem fOff_eq (a b : Int) : gOf aZn fOff [.agg [.int .i64 a, .nils], .int .i64 b] = (True, .int .i64 a) := gOf_eq aZn_inj (a, b)
theorem offset_p : PureC Tryd.prog UT 23 (gOf aZn fOff) := by
  have hG := tNo_ok
  refine PureC.ofArgs aZn_inj Tryd.func23 body23 nm23 res23 ?_
  rintro ⟨a, b⟩ hv
  refine ⟨by rw [nt23]; simp [aZn], fun C hN Q hQ => ?_⟩
  rw [nt23] at hN
  unfold c23
  refine aw_seq (aw_region (EF := EF0) hG (by rw [hN]; exact tr23_0) ?_)
  simp only [a23_0, go_sem, ↓reduceIte, Nat.reduceEqDiff, reduceCtorEq, Nat.reduceAdd, Nat.reduceLT, Nat.reduceLeDiff, Nat.reduceBNe, Nat.reduceBEq, Int.reduceToNat, aZn]
  refine aw_seq (aw_region (EF := EF0) hG (by rw [hN]; exact tr23_1) ?_)
  simp only [a23_1, go_sem, ↓reduceIte, Nat.reduceEqDiff, reduceCtorEq, Nat.reduceAdd, Nat.reduceLT, Nat.reduceLeDiff, Nat.reduceBNe, Nat.reduceBEq, Int.reduceToNat]
  refine aw_seq ?_
  refine aw_seq (aw_region (EF := EF0) hG (by rw [hN]; exact tr23_2) ?_)
  simp only [a23_2, go_sem, ↓reduceIte, Nat.reduceEqDiff, reduceCtorEq, Nat.reduceAdd, Nat.reduceLT, Nat.reduceLeDiff, Nat.reduceBNe, Nat.reduceBEq, Int.reduceToNat]
  refine aw_block ?_
  refine aw_loop (α := Nat) (fun i => (i = 0)) (fun i => ⟨mkE [(1, V.int IntKind.i64 b), (5, V.int IntKind.i64 a), (11, V.nils), (12, V.int IntKind.i64 0), (13, .int .i64 i)], mkH []⟩) (fun i => 0) 0 rfl ?_ ?_
  · refine Le.mk _ _ ?_ ?_ rfl <;> simp only [go_sem, ↓reduceIte, Nat.reduceEqDiff, reduceCtorEq, Nat.reduceAdd, Nat.reduceLT, Nat.reduceLeDiff, Nat.reduceBNe, Nat.reduceBEq, Int.reduceToNat] <;> (repeat' apply And.intro) <;> (try first | rfl | exact wk_frzb rfl rfl rfl | exact wk_fn rfl | exact .nilo _ _ _ rfl rfl | exact wk_frzm rfl rfl (fun kv hk => by obtain ⟨_, _, rfl⟩ := List.mem_map.1 hk; rfl))
  · rintro i hi KL0 hKL0
    try dsimp only at *
    subst hi
    refine aw_seq (aw_region (EF := EF0) hG (by rw [hN]; exact tr23_3) ?_)
    simp only [a23_3, go_sem, ↓reduceIte, Nat.reduceEqDiff, reduceCtorEq, Nat.reduceAdd, Nat.reduceLT, Nat.reduceLeDiff, Nat.reduceBNe, Nat.reduceBEq, Int.reduceToNat]
    refine aw_seq ?_
    refine aw_cond (b := _) rfl (fun hb3 => ?_) (fun hb3 => ?_)
    · (exfalso; simp at hb3)
    · skip
      refine aw_exit ?_
      simp only [go_sem, ↓reduceIte, Nat.reduceEqDiff, reduceCtorEq, Nat.reduceAdd, Nat.reduceLT, Nat.reduceLeDiff, Nat.reduceBNe, Nat.reduceBEq, Int.reduceToNat]
      refine aw_seq (aw_region (EF := EF0) hG (by rw [hN]; exact tr23_8) ?_)
      simp only [a23_8, go_sem, ↓reduceIte, Nat.reduceEqDiff, reduceCtorEq, Nat.reduceAdd, Nat.reduceLT, Nat.reduceLeDiff, Nat.reduceBNe, Nat.reduceBEq, Int.reduceToNat]
      refine aw_ret ?_
      show Q _ _
      refine hQ _ _ (.inl rfl) ?_ ?_ ?_ <;> simp only [outφ, outV, AR.res, go_sem, ↓reduceIte, Nat.reduceEqDiff, reduceCtorEq, Nat.reduceAdd, Nat.reduceLT, Nat.reduceLeDiff, Nat.reduceBNe, Nat.reduceBEq, Int.reduceToNat, fOff]
def fLoc (x : Int × Int) : Prop × V := (x = (60, 5), .int .i64 65)
theorem fLoc_eq : gOf aZn fLoc [.agg [.int .i64 60, .nils], .int .i64 5] = (True, .int .i64 65) := (gOf_eq aZn_inj (60, 5)).trans (by simp [fLoc])
noncomputable def tLoc : Tab
  | 23 => (gOf aZn fOff)
  | _ => gNo
theorem tLoc_ok : ∀ f, PureC Tryd.prog UT f (tLoc f) := fun f => by
  unfold tLoc
  split
  · exact offset_p
  · exact PureC.no
theorem local_p : PureC Tryd.prog UT 12 (gOf aZn fLoc) := by
  have hG := tLoc_ok
  refine PureC.ofArgs aZn_inj Tryd.func12 body12 nm12 res12 ?_
  rintro ⟨a, b⟩ hv
  refine ⟨by rw [nt12]; simp [aZn], fun C hN Q hQ => ?_⟩
  rw [nt12] at hN
  unfold c12
  obtain ⟨rfl, rfl⟩ : a = 60 ∧ b = 5 := by have : (a, b) = ((60, 5) : Int × Int) := hv; simpa using this
  refine aw_seq (aw_region (EF := EF0) hG (by rw [hN]; exact tr12_0) ?_)
  simp only [a12_0, go_sem, ↓reduceIte, Nat.reduceEqDiff, reduceCtorEq, Nat.reduceAdd, Nat.reduceLT, Nat.reduceLeDiff, Nat.reduceBNe, Nat.reduceBEq, Int.reduceToNat, aZn, tLoc, fOff_eq, Int.reduceLT, Int.reduceLE, Int.reduceAdd]
  refine aw_seq (aw_region (EF := EF0) hG (by rw [hN]; exact tr12_1) ?_)
  simp only [a12_1, go_sem, ↓reduceIte, Nat.reduceEqDiff, reduceCtorEq, Nat.reduceAdd, Nat.reduceLT, Nat.reduceLeDiff, Nat.reduceBNe, Nat.reduceBEq, Int.reduceToNat, inI, tLoc, fOff_eq, Int.reduceLT, Int.reduceLE, Int.reduceAdd]
  (repeat' apply And.intro) <;> (try first | omega | ((fail_if_success refine idW ?_); (fail_if_success refine idS ?_); intros; (repeat' apply And.intro) <;> first | assumption | omega | (simp_all; done)))
  refine aw_ret ?_
  show Q _ _
  refine hQ _ _ (.inl rfl) ?_ ?_ ?_ <;> simp only [outφ, outV, AR.res, go_sem, ↓reduceIte, Nat.reduceEqDiff, reduceCtorEq, Nat.reduceAdd, Nat.reduceLT, Nat.reduceLeDiff, Nat.reduceBNe, Nat.reduceBEq, Int.reduceToNat, fLoc]
noncomputable def tAwk : Tab
  | 10 => (gOf aDy fPrn)
  | 11 => gCnt
  | 12 => (gOf aZn fLoc)
  | _ => gNo
theorem tAwk_ok : ∀ f, PureC Tryd.prog UT f (tAwk f) := fun f => by
  unfold tAwk
  split
  · exact print_p
  · exact count_p
  · exact local_p
  · exact PureC.no
theorem awake_p : PureC Tryd.prog UT 4 (gOf aUnit fTrue) := by
  have hG := tAwk_ok
  refine PureC.ofArgs aUnit_inj Tryd.func4 body4 nm4 res4 ?_
  rintro ⟨⟩ hv
  refine ⟨by rw [nt4]; simp [aUnit], fun C hN Q hQ => ?_⟩
  rw [nt4] at hN
  unfold c4
  refine aw_seq (aw_region (EF := EF0) hG (by rw [hN]; exact tr4_0) ?_)
  simp only [a4_0, go_sem, ↓reduceIte, Nat.reduceEqDiff, reduceCtorEq, Nat.reduceAdd, Nat.reduceLT, Nat.reduceLeDiff, Nat.reduceBNe, Nat.reduceBEq, Int.reduceToNat, aUnit, tAwk, fPrn_eq, gCnt, fLoc_eq, sDate, decide_true]
  refine aw_seq (aw_region (EF := EF0) hG (by rw [hN]; exact tr4_1) ?_)
  simp only [a4_1, go_sem, ↓reduceIte, Nat.reduceEqDiff, reduceCtorEq, Nat.reduceAdd, Nat.reduceLT, Nat.reduceLeDiff, Nat.reduceBNe, Nat.reduceBEq, Int.reduceToNat, tAwk, fPrn_eq, gCnt, fLoc_eq, sDate, decide_true]
  (repeat' apply And.intro) <;> (try first | omega | ((fail_if_success refine idW ?_); (fail_if_success refine idS ?_); intros; (repeat' apply And.intro) <;> first | assumption | omega | (simp_all; done)))
  refine aw_ret ?_
  show Q _ _
  refine hQ _ _ (.inl rfl) ?_ ?_ ?_ <;> simp only [outφ, outV, AR.res, go_sem, ↓reduceIte, Nat.reduceEqDiff, reduceCtorEq, Nat.reduceAdd, Nat.reduceLT, Nat.reduceLeDiff, Nat.reduceBNe, Nat.reduceBEq, Int.reduceToNat, fTrue]
end Go.Proofs.YtkdkjbneohdofaaDoor
