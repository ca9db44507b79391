/- Record locators: both. -/
import Derived.Test.YtffapkiilkeadaaDoorIs3
namespace Go.Proofs.YtffapkiilkeadaaDoor
open Go Go.RowKit
set_option linter.unusedSimpArgs false
set_option linter.unusedVariables false
set_option linter.deprecated false
def vint (l : List Int) : List V := l.map fun n => .int .i64 n
theorem vint_len (l : List Int) : (vint l).length = l.length := List.length_map _
theorem vint_getD {l : List Int} {i : Nat} (h : i < l.length) (d : V) : (vint l).getD i d = .int .i64 l[i] := by
  unfold vint
  rw [List.getD_eq_getElem?_getD, List.getElem?_map, List.getElem?_eq_getElem h]; rfl
theorem vint_nin (D : List Nat) : ∀ l : List Int, V.nins D (vint l) = true
  | [] => by simp [vint, V.nins]
  | x :: l => by have := vint_nin D l; unfold vint at this ⊢; simp [V.nins, V.nin, this]
theorem vint_pur : ∀ l : List Int, V.purs (vint l) = true
  | [] => by simp [vint, V.purs]
  | x :: l => by have := vint_pur l; unfold vint at this ⊢; simp [V.purs, V.pur, this]
theorem vint_w {h : Nat → Option Ob} {hl : List (Nat × Ob)} : ∀ l : List Int, All2W h hl (vint l) (vint l) ↔ True
  | [] => iff_true_intro trivial
  | x :: l => iff_true_intro ⟨.same _ (by simp [V.nin]), (vint_w l).2 trivial⟩
theorem vint_inj {a b : List Int} (h : vint a = vint b) : a = b := List.map_inj_right (fun x y h => by injection h) |>.1 h
def aC5 (x : List Int) : List V := [.agg (vint x)]
theorem aC5_inj (a b : List Int) (h : aC5 a = aC5 b) : a = b := by
  unfold aC5 at h
  simp only [List.cons.injEq, V.agg.injEq, and_true] at h
  exact vint_inj h
def wsum (x : List Int) : Nat → Int
  | 0 => 0
  | i + 1 => wsum x i + (2 * i + 1) * x.getD i 0
def fC5 (x : List Int) : Prop × V := (x.length = 5 ∧ (∀ n ∈ x, 0 ≤ n ∧ n < 32), .int .i64 (wsum x 5 % 32))
theorem fC5_eq (x : List Int) : gOf aC5 fC5 [.agg (vint x)] = (x.length = 5 ∧ (∀ n ∈ x, 0 ≤ n ∧ n < 32), .int .i64 (wsum x 5 % 32)) := gOf_eq aC5_inj x
theorem lcheck_p : PureC Tryd.prog UT 57 (gOf aC5 fC5) := by
  have hG := tNo_ok
  refine PureC.ofArgs aC5_inj Tryd.func57 body57 nm57 res57 ?_
  rintro x hv
  refine ⟨by rw [nt57]; simp [aC5], fun C hN Q hQ => ?_⟩
  rw [nt57] at hN
  unfold c57
  obtain ⟨hl, hx⟩ : x.length = 5 ∧ ∀ n ∈ x, 0 ≤ n ∧ n < 32 := hv
  have hvl : (vint x).length = 5 := by rw [vint_len, hl]
  have htk : (vint x).take 5 = vint x := List.take_of_length_le (by omega)
  refine aw_seq (aw_region (EF := EF0) hG (by rw [hN]; exact tr57_0) ?_)
  simp only [a57_0, go_sem, ↓reduceIte, Nat.reduceEqDiff, reduceCtorEq, Nat.reduceAdd, Nat.reduceLT, Nat.reduceLeDiff, Nat.reduceBNe, Nat.reduceBEq, Int.reduceToNat, aC5, tNo, Nat.mul_one, List.drop_zero, htk, vint_nin, vint_pur]
  refine aw_seq (aw_region (EF := EF0) hG (by rw [hN]; exact tr57_1) ?_)
  simp only [a57_1, go_sem, ↓reduceIte, Nat.reduceEqDiff, reduceCtorEq, Nat.reduceAdd, Nat.reduceLT, Nat.reduceLeDiff, Nat.reduceBNe, Nat.reduceBEq, Int.reduceToNat, tNo, Nat.mul_one, List.drop_zero, htk, vint_nin, vint_pur]
  refine aw_seq ?_
  refine aw_seq (aw_region (EF := EF0) hG (by rw [hN]; exact tr57_2) ?_)
  simp only [a57_2, go_sem, ↓reduceIte, Nat.reduceEqDiff, reduceCtorEq, Nat.reduceAdd, Nat.reduceLT, Nat.reduceLeDiff, Nat.reduceBNe, Nat.reduceBEq, Int.reduceToNat, hvl, Nat.zero_add, tNo, Nat.mul_one, List.drop_zero, htk, vint_nin, vint_pur]
  refine aw_block ?_
  refine aw_loop (α := Nat × Int) (fun γ => (γ.1 ≤ 5) ∧ (γ.2 = wsum x γ.1) ∧ (0 ≤ γ.2 ∧ γ.2 ≤ 279 * (γ.1 : Int))) (fun γ => ⟨mkE [(3, .int .i64 γ.2), (6, .agg (vint x)), (7, .int .i64 γ.1)], mkH []⟩) (fun γ => 5 - γ.1) (0, 0) ⟨by omega, rfl, by omega, by omega⟩ ?_ ?_
  · refine Le.mk _ _ ?_ ?_ rfl <;> simp only [go_sem, ↓reduceIte, Nat.reduceEqDiff, reduceCtorEq, Nat.reduceAdd, Nat.reduceLT, Nat.reduceLeDiff, Nat.reduceBNe, Nat.reduceBEq, Int.reduceToNat, htk, vint_nin, List.drop_zero] <;> (repeat' apply And.intro) <;> (try first | rfl | exact wk_frzb rfl rfl rfl | exact wk_fn rfl | exact .nilo _ _ _ rfl rfl | exact wk_frzm rfl rfl (fun kv hk => by obtain ⟨_, _, rfl⟩ := List.mem_map.1 hk; rfl))
  · rintro ⟨i, s⟩ ⟨hi, hs, hsb⟩ KL0 hKL0
    try dsimp only at *
    refine aw_seq (aw_region (EF := EF0) hG (by rw [hN]; exact tr57_3) ?_)
    simp only [a57_3, go_sem, ↓reduceIte, Nat.reduceEqDiff, reduceCtorEq, Nat.reduceAdd, Nat.reduceLT, Nat.reduceLeDiff, Nat.reduceBNe, Nat.reduceBEq, Int.reduceToNat, tNo, Nat.mul_one, List.drop_zero, htk, vint_nin, vint_pur]
    refine aw_seq ?_
    refine aw_cond (b := _) rfl (fun hc3 => ?_) (fun hc3 => ?_)
    · simp only [decide_eq_true_eq, decide_eq_false_iff_not, Bool.and_eq_true, Bool.or_eq_true, Bool.not_eq_true', Bool.not_eq_false', Bool.and_eq_false_iff, Bool.or_eq_false_iff, Int.ofNat_lt, Int.ofNat_le, Nat.not_lt, Nat.not_le, Int.not_lt, Int.not_le] at hc3
      have hi5 : i < 5 := by omega
      have hix : i < x.length := by omega
      have hxi := hx _ (List.getElem_mem hix)
      have hmul : 0 ≤ (2 * (i : Int) + 1) * x[i] ∧ (2 * (i : Int) + 1) * x[i] ≤ 279 := ⟨Int.mul_nonneg (by omega) hxi.1, by have h1 : (2 * (i : Int) + 1) * x[i] ≤ 9 * x[i] := Int.mul_le_mul_of_nonneg_right (by omega) hxi.1; omega⟩
      refine aw_skip ?_
      try simp only [go_sem, ↓reduceIte, Nat.reduceEqDiff, reduceCtorEq, Nat.reduceAdd, Nat.reduceLT, Nat.reduceLeDiff, Nat.reduceBNe, Nat.reduceBEq, Int.reduceToNat]
      refine aw_seq ?_
      refine aw_block ?_
      refine aw_seq (aw_region (EF := EF0) hG (by rw [hN]; exact tr57_4) ?_)
      simp only [a57_4, go_sem, ↓reduceIte, Nat.reduceEqDiff, reduceCtorEq, Nat.reduceAdd, Nat.reduceLT, Nat.reduceLeDiff, Nat.reduceBNe, Nat.reduceBEq, Int.reduceToNat, vint_len, hl, vint_getD hix, tNo, Nat.mul_one, List.drop_zero, htk, vint_nin, vint_pur]
      (repeat' apply And.intro) <;> (try first | omega | ((fail_if_success refine idW ?_); (fail_if_success refine idS ?_); intros; (repeat' apply And.intro) <;> first | assumption | omega | (simp_all; done)))
      refine aw_region (EF := EF0) hG (by rw [hN]; exact tr57_5) ?_
      simp only [a57_5, go_sem, ↓reduceIte, Nat.reduceEqDiff, reduceCtorEq, Nat.reduceAdd, Nat.reduceLT, Nat.reduceLeDiff, Nat.reduceBNe, Nat.reduceBEq, Int.reduceToNat, inI, tNo, Nat.mul_one, List.drop_zero, htk, vint_nin, vint_pur]
      (repeat' apply And.intro) <;> (try first | omega | ((fail_if_success refine idW ?_); (fail_if_success refine idS ?_); intros; (repeat' apply And.intro) <;> first | assumption | omega | (simp_all; done)))
      refine aw_region (EF := EF0) hG (by rw [hN]; exact tr57_6) ?_
      simp only [a57_6, go_sem, ↓reduceIte, Nat.reduceEqDiff, reduceCtorEq, Nat.reduceAdd, Nat.reduceLT, Nat.reduceLeDiff, Nat.reduceBNe, Nat.reduceBEq, Int.reduceToNat, inI, tNo, Nat.mul_one, List.drop_zero, htk, vint_nin, vint_pur]
      (repeat' apply And.intro) <;> (try first | omega | ((fail_if_success refine idW ?_); (fail_if_success refine idS ?_); intros; (repeat' apply And.intro) <;> first | assumption | omega | (simp_all; done)))
      refine hKL0 (i + 1, s + (2 * i + 1) * x[i]) _ ?_ ?_ ?_
      · (try dsimp only); exact ⟨by omega, by rw [hs, wsum, List.getD_eq_getElem?_getD, List.getElem?_eq_getElem hix]; rfl, by omega, by omega⟩
      · (try dsimp only); omega
      · refine Le.mk _ _ ?_ ?_ rfl <;> simp only [go_sem, ↓reduceIte, Nat.reduceEqDiff, reduceCtorEq, Nat.reduceAdd, Nat.reduceLT, Nat.reduceLeDiff, Nat.reduceBNe, Nat.reduceBEq, Int.reduceToNat, vint_nin] <;> (repeat' apply And.intro) <;> (try first | rfl | exact wk_frzb rfl rfl rfl | exact wk_fn rfl | exact .nilo _ _ _ rfl rfl | exact wk_frzm rfl rfl (fun kv hk => by obtain ⟨_, _, rfl⟩ := List.mem_map.1 hk; rfl))
    · simp only [decide_eq_true_eq, decide_eq_false_iff_not, Bool.and_eq_true, Bool.or_eq_true, Bool.not_eq_true', Bool.not_eq_false', Bool.and_eq_false_iff, Bool.or_eq_false_iff, Int.ofNat_lt, Int.ofNat_le, Nat.not_lt, Nat.not_le, Int.not_lt, Int.not_le] at hc3
      obtain rfl : i = 5 := by omega
      refine aw_exit ?_
      simp only [go_sem, ↓reduceIte, Nat.reduceEqDiff, reduceCtorEq, Nat.reduceAdd, Nat.reduceLT, Nat.reduceLeDiff, Nat.reduceBNe, Nat.reduceBEq, Int.reduceToNat]
      refine aw_seq (aw_region (EF := EF0) hG (by rw [hN]; exact tr57_7) ?_)
      simp only [a57_7, go_sem, ↓reduceIte, Nat.reduceEqDiff, reduceCtorEq, Nat.reduceAdd, Nat.reduceLT, Nat.reduceLeDiff, Nat.reduceBNe, Nat.reduceBEq, Int.reduceToNat, tNo, Nat.mul_one, List.drop_zero, htk, vint_nin, vint_pur]
      (repeat' apply And.intro) <;> (try first | omega | ((fail_if_success refine idW ?_); (fail_if_success refine idS ?_); intros; (repeat' apply And.intro) <;> first | assumption | omega | (simp_all; done)))
      refine aw_ret ?_
      show Q _ _
      refine hQ _ _ (.inl rfl) ?_ ?_ ?_ <;> simp only [outφ, outV, AR.res, go_sem, ↓reduceIte, Nat.reduceEqDiff, reduceCtorEq, Nat.reduceAdd, Nat.reduceLT, Nat.reduceLeDiff, Nat.reduceBNe, Nat.reduceBEq, Int.reduceToNat, fC5]
      rw [hs, Int.tmod_eq_emod_of_nonneg (by rw [← hs]; exact hsb.1)]
def fLc (s : List UInt8) : Prop × V := (s.length ≤ 140737488355328, .bool (locB s))
theorem fLc_eq (s : List UInt8) : gOf aStr fLc [.str s] = (s.length ≤ 140737488355328, .bool (locB s)) := gOf_eq aStr_inj s
/-- The values up to a place, zeros behind. -/
def vsA (s : List UInt8) (i : Nat) : List Int := (s.take i).map ixA ++ List.replicate (5 - i) 0
theorem vsA_len {s : List UInt8} {i : Nat} (h : i ≤ 5) (hs : 5 ≤ s.length) : (vsA s i).length = 5 := by
  unfold vsA
  rw [List.length_append, List.length_map, List.length_take, List.length_replicate]; omega
theorem vsA_set {s : List UInt8} {i : Nat} (h : i < 5) (hs : 5 ≤ s.length) : (vsA s i).set i (ixA (s[i]'(by omega))) = vsA s (i + 1) := by
  unfold vsA
  have h1 : ((s.take i).map ixA).length = i := by rw [List.length_map, List.length_take]; omega
  rw [List.set_append_right _ _ (by omega), h1, Nat.sub_self, show 5 - i = 5 - (i + 1) + 1 by omega, List.replicate_succ, List.set_cons_zero, take_succ' (show i < s.length by omega), List.map_append, List.append_assoc]
  rfl
theorem put_v (xs : List Int) (i : Nat) (v : Int) (h : i < xs.length) : List.take i (vint xs) ++ [.int .i64 v] ++ List.drop (i + 1) (vint xs) = vint (xs.set i v) := by
  unfold vint
  rw [List.map_set, List.set_eq_take_append_cons_drop, if_pos (by rw [List.length_map]; exact h)]
  simp
theorem ixB_at {s : List UInt8} {i : Nat} (h : i < s.length) : gIxB [.str [50, 51, 52, 53, 54, 55, 56, 57, 65, 66, 67, 68, 69, 70, 71, 72, 74, 75, 76, 77, 78, 80, 81, 82, 83, 84, 85, 86, 87, 88, 89, 90], .int .u8 (((s.getD i 0).toNat : Nat) : Int)] = (True, .int .i64 (ixA s[i])) := by
  rw [List.getD_eq_getElem?_getD, List.getElem?_eq_getElem h]
  show (True, V.int .i64 (Lib.indexByte alpha (((s[i].toNat : Nat) : Int).toNat.toUInt8))) = _
  rw [Int.toNat_natCast]
  congr 3
  simp
theorem pow5 {i : Nat} (h : i < 5) : 0 < (32 : Int) ^ i ∧ (32 : Int) ^ i ≤ 1048576 := by
  match i, h with
  | 0, _ | 1, _ | 2, _ | 3, _ | 4, _ => decide
def numP (s : List UInt8) : Int × Int := if locB s = true then (num5 ((s.take 5).map ixA), 0) else (0, 3)
def fNp (s : List UInt8) : Prop × V := (s.length ≤ 140737488355328, tupI (numP s))
theorem fNp_eq (s : List UInt8) : gOf aStr fNp [.str s] = (s.length ≤ 140737488355328, tupI (numP s)) := gOf_eq aStr_inj s
theorem num5_snoc {s : List UInt8} {i : Nat} (h : i < s.length) : num5 ((s.take (i + 1)).map ixA) = 32 * num5 ((s.take i).map ixA) + ixA s[i] := by
  rw [take_succ' h, List.map_append]; unfold num5; rw [List.foldl_append]; rfl
theorem locB_neg {s : List UInt8} {i : Nat} (hi : i < 5) (h : i < s.length) (hn : ixA s[i] < 0) : locB s = false := by
  unfold locB
  split
  · match i, hi with
    | 0, _ | 1, _ | 2, _ | 3, _ | 4, _ => simp at hn ⊢; intros; omega
  · rfl
theorem u8_eq (a b : UInt8) : decide ((a.toNat : Int) = (b.toNat : Int)) = decide (a = b) := decide_eq_decide.2 ⟨fun h => UInt8.toNat_inj.1 (by omega), fun h => by rw [h]⟩
theorem loc_end {s : List UInt8} (h6 : s.length = 6) (hall : ∀ c ∈ s.take 5, 0 ≤ ixA c) : locB s = decide (((s.getD 5 0).toNat : Int) = ((alpha.getD (wsum ((s.take 5).map ixA) 5 % 32).toNat 0).toNat : Int)) := by
  match s, h6 with
  | [a, b, c, d, e, f], _ =>
    have g1 := hall a (by simp)
    have g2 := hall b (by simp)
    have g3 := hall c (by simp)
    have g4 := hall d (by simp)
    have g5 := hall e (by simp)
    rw [u8_eq]
    have hw : wsum (([a, b, c, d, e, f].take 5).map ixA) 5 % 32 = sum5 (ixA a) (ixA b) (ixA c) (ixA d) (ixA e) := by
      simp only [wsum, sum5, List.take_succ_cons, List.take_zero, List.map_cons, List.map_nil, List.getD_cons_zero, List.getD_cons_succ]
      congr 1
      omega
    rw [hw]
    simp only [locB, g1, g2, g3, g4, g5, decide_true, Bool.true_and]
    rfl
noncomputable def tNp : Tab
  | 56 => gIxB
  | 57 => (gOf aC5 fC5)
  | _ => gNo
theorem tNp_ok : ∀ f, PureC Tryd.prog UT f (tNp f) := fun f => by
  unfold tNp
  split
  · exact ixB_p
  · exact lcheck_p
  · exact PureC.no
set_option maxHeartbeats 4000000 in
theorem number_p : PureC Tryd.prog UT 36 (gOf aStr fNp) := by
  have hG := tNp_ok
  refine PureC.ofArgs aStr_inj Tryd.func36 body36 nm36 res36 ?_
  rintro s hv
  refine ⟨by rw [nt36]; simp [aStr], fun C hN Q hQ => ?_⟩
  rw [nt36] at hN
  unfold c36
  replace hv : s.length ≤ 140737488355328 := hv
  refine aw_seq (aw_region (EF := EF0) hG (by rw [hN]; exact tr36_0) ?_)
  simp only [a36_0, go_sem, ↓reduceIte, Nat.reduceEqDiff, reduceCtorEq, Nat.reduceAdd, Nat.reduceLT, Nat.reduceLeDiff, Nat.reduceBNe, Nat.reduceBEq, Int.reduceToNat, aStr, tNp, fC5_eq, vint_nin, vint_pur, vint_len]
  refine aw_seq ?_
  refine aw_seq (aw_region (EF := EF0) hG (by rw [hN]; exact tr36_1) ?_)
  simp only [a36_1, go_sem, ↓reduceIte, Nat.reduceEqDiff, reduceCtorEq, Nat.reduceAdd, Nat.reduceLT, Nat.reduceLeDiff, Nat.reduceBNe, Nat.reduceBEq, Int.reduceToNat, tNp, fC5_eq, vint_nin, vint_pur, vint_len]
  refine aw_cond (b := _) rfl (fun hb1 => ?_) (fun hb1 => ?_)
  · skip
    have hne : s.length ≠ 6 := fun e => by rw [e] at hb1; simp at hb1
    have hl := locB_len hne
    refine aw_seq (aw_region (EF := EF0) hG (by rw [hN]; exact tr36_2) ?_)
    simp only [a36_2, go_sem, ↓reduceIte, Nat.reduceEqDiff, reduceCtorEq, Nat.reduceAdd, Nat.reduceLT, Nat.reduceLeDiff, Nat.reduceBNe, Nat.reduceBEq, Int.reduceToNat, tNp, fC5_eq, vint_nin, vint_pur, vint_len]
    refine aw_ret ?_
    show Q _ _
    refine hQ _ _ (.inl rfl) ?_ ?_ ?_ <;> simp only [outφ, outV, AR.res, go_sem, ↓reduceIte, Nat.reduceEqDiff, reduceCtorEq, Nat.reduceAdd, Nat.reduceLT, Nat.reduceLeDiff, Nat.reduceBNe, Nat.reduceBEq, Int.reduceToNat, fNp, tupI, numP, hl, Bool.false_eq_true]
  · skip
    have hl6 : s.length = 6 := by simp only [Bool.not_eq_false', decide_eq_true_eq] at hb1; omega
    refine aw_skip ?_
    try simp only [go_sem, ↓reduceIte, Nat.reduceEqDiff, reduceCtorEq, Nat.reduceAdd, Nat.reduceLT, Nat.reduceLeDiff, Nat.reduceBNe, Nat.reduceBEq, Int.reduceToNat]
    refine aw_seq (aw_region (EF := EF0) hG (by rw [hN]; exact tr36_3) ?_)
    simp only [a36_3, go_sem, ↓reduceIte, Nat.reduceEqDiff, reduceCtorEq, Nat.reduceAdd, Nat.reduceLT, Nat.reduceLeDiff, Nat.reduceBNe, Nat.reduceBEq, Int.reduceToNat, tNp, fC5_eq, vint_nin, vint_pur, vint_len]
    refine aw_seq (aw_region (EF := EF0) hG (by rw [hN]; exact tr36_4) ?_)
    simp only [a36_4, go_sem, ↓reduceIte, Nat.reduceEqDiff, reduceCtorEq, Nat.reduceAdd, Nat.reduceLT, Nat.reduceLeDiff, Nat.reduceBNe, Nat.reduceBEq, Int.reduceToNat, tNp, fC5_eq, vint_nin, vint_pur, vint_len]
    refine aw_seq ?_
    refine aw_seq (aw_region (EF := EF0) hG (by rw [hN]; exact tr36_5) ?_)
    simp only [a36_5, go_sem, ↓reduceIte, Nat.reduceEqDiff, reduceCtorEq, Nat.reduceAdd, Nat.reduceLT, Nat.reduceLeDiff, Nat.reduceBNe, Nat.reduceBEq, Int.reduceToNat, tNp, fC5_eq, vint_nin, vint_pur, vint_len]
    refine aw_block ?_
    refine aw_loop (α := Nat × Int) (fun γ => (γ.1 ≤ 5) ∧ (γ.2 = num5 ((s.take γ.1).map ixA)) ∧ (∀ c ∈ s.take γ.1, 0 ≤ ixA c) ∧ (0 ≤ γ.2 ∧ γ.2 < 32 ^ γ.1)) (fun γ => ⟨mkE [(0, V.str s), (4, .ptr 4 0), (5, .int .i64 γ.2), (11, .int .i64 γ.1)], mkH [(4, .box 74 (vint (vsA s γ.1)))]⟩) (fun γ => 5 - γ.1) (0, 0) ⟨by omega, rfl, fun c hc => by simp at hc, by omega, by decide⟩ ?_ ?_
    · refine Le.mk _ _ ?_ ?_ rfl <;> simp only [go_sem, ↓reduceIte, Nat.reduceEqDiff, reduceCtorEq, Nat.reduceAdd, Nat.reduceLT, Nat.reduceLeDiff, Nat.reduceBNe, Nat.reduceBEq, Int.reduceToNat, show vint (vsA s 0) = [.int .i64 0, .int .i64 0, .int .i64 0, .int .i64 0, .int .i64 0] from rfl] <;> (repeat' apply And.intro) <;> (try first | rfl | exact wk_frzb rfl rfl rfl | exact wk_fn rfl | exact .nilo _ _ _ rfl rfl | exact wk_frzm rfl rfl (fun kv hk => by obtain ⟨_, _, rfl⟩ := List.mem_map.1 hk; rfl))
    · rintro ⟨i, n⟩ ⟨hi, hn, hall, hnb⟩ KL0 hKL0
      try dsimp only at *
      refine aw_seq (aw_region (EF := EF0) hG (by rw [hN]; exact tr36_6) ?_)
      simp only [a36_6, go_sem, ↓reduceIte, Nat.reduceEqDiff, reduceCtorEq, Nat.reduceAdd, Nat.reduceLT, Nat.reduceLeDiff, Nat.reduceBNe, Nat.reduceBEq, Int.reduceToNat, tNp, fC5_eq, vint_nin, vint_pur, vint_len]
      refine aw_seq ?_
      refine aw_cond (b := _) rfl (fun hc6 => ?_) (fun hc6 => ?_)
      · simp only [decide_eq_true_eq, decide_eq_false_iff_not, Bool.and_eq_true, Bool.or_eq_true, Bool.not_eq_true', Bool.not_eq_false', Bool.and_eq_false_iff, Bool.or_eq_false_iff, Int.ofNat_lt, Int.ofNat_le, Nat.not_lt, Nat.not_le, Int.not_lt, Int.not_le] at hc6
        have hi5 : i < 5 := by omega
        have his : i < s.length := by omega
        obtain ⟨hp0, hp1⟩ := pow5 hi5
        have hib := ixA_bd s[i]
        have hvl := vsA_len hi (show 5 ≤ s.length by omega)
        have hst := num5_snoc his
        refine aw_skip ?_
        try simp only [go_sem, ↓reduceIte, Nat.reduceEqDiff, reduceCtorEq, Nat.reduceAdd, Nat.reduceLT, Nat.reduceLeDiff, Nat.reduceBNe, Nat.reduceBEq, Int.reduceToNat]
        refine aw_seq ?_
        refine aw_block ?_
        refine aw_seq (aw_region (EF := EF0) hG (by rw [hN]; exact tr36_7) ?_)
        simp only [a36_7, go_sem, ↓reduceIte, Nat.reduceEqDiff, reduceCtorEq, Nat.reduceAdd, Nat.reduceLT, Nat.reduceLeDiff, Nat.reduceBNe, Nat.reduceBEq, Int.reduceToNat, tNp, fC5_eq, vint_nin, vint_pur, vint_len]
        refine aw_seq (aw_region (EF := EF0) hG (by rw [hN]; exact tr36_8) ?_)
        simp only [a36_8, go_sem, ↓reduceIte, Nat.reduceEqDiff, reduceCtorEq, Nat.reduceAdd, Nat.reduceLT, Nat.reduceLeDiff, Nat.reduceBNe, Nat.reduceBEq, Int.reduceToNat, ixB_at his, tNp, fC5_eq, vint_nin, vint_pur, vint_len]
        (repeat' apply And.intro) <;> (try first | omega | ((fail_if_success refine idW ?_); (fail_if_success refine idS ?_); intros; (repeat' apply And.intro) <;> first | assumption | omega | (simp_all; done)))
        refine aw_seq ?_
        refine aw_seq (aw_region (EF := EF0) hG (by rw [hN]; exact tr36_9) ?_)
        simp only [a36_9, go_sem, ↓reduceIte, Nat.reduceEqDiff, reduceCtorEq, Nat.reduceAdd, Nat.reduceLT, Nat.reduceLeDiff, Nat.reduceBNe, Nat.reduceBEq, Int.reduceToNat, tNp, fC5_eq, vint_nin, vint_pur, vint_len]
        refine aw_cond (b := _) rfl (fun hb9 => ?_) (fun hb9 => ?_)
        · skip
          have hl := locB_neg hi5 his (by simpa using hb9)
          refine aw_seq (aw_region (EF := EF0) hG (by rw [hN]; exact tr36_10) ?_)
          simp only [a36_10, go_sem, ↓reduceIte, Nat.reduceEqDiff, reduceCtorEq, Nat.reduceAdd, Nat.reduceLT, Nat.reduceLeDiff, Nat.reduceBNe, Nat.reduceBEq, Int.reduceToNat, tNp, fC5_eq, vint_nin, vint_pur, vint_len]
          refine aw_ret ?_
          show Q _ _
          refine hQ _ _ (.inl rfl) ?_ ?_ ?_ <;> simp only [outφ, outV, AR.res, go_sem, ↓reduceIte, Nat.reduceEqDiff, reduceCtorEq, Nat.reduceAdd, Nat.reduceLT, Nat.reduceLeDiff, Nat.reduceBNe, Nat.reduceBEq, Int.reduceToNat, fNp, tupI, numP, hl, Bool.false_eq_true]
        · skip
          have hv0 : 0 ≤ ixA s[i] := by simpa using hb9
          refine aw_skip ?_
          try simp only [go_sem, ↓reduceIte, Nat.reduceEqDiff, reduceCtorEq, Nat.reduceAdd, Nat.reduceLT, Nat.reduceLeDiff, Nat.reduceBNe, Nat.reduceBEq, Int.reduceToNat]
          refine aw_seq (aw_region (EF := EF0) hG (by rw [hN]; exact tr36_11) ?_)
          simp only [a36_11, go_sem, ↓reduceIte, Nat.reduceEqDiff, reduceCtorEq, Nat.reduceAdd, Nat.reduceLT, Nat.reduceLeDiff, Nat.reduceBNe, Nat.reduceBEq, Int.reduceToNat, Nat.zero_add, Nat.mul_one, hvl, put_v _ _ _ (show i < (vsA s i).length by rw [hvl]; exact hi5), vsA_set hi5 (show 5 ≤ s.length by omega), tNp, fC5_eq, vint_nin, vint_pur, vint_len]
          (repeat' apply And.intro) <;> (try first | omega | ((fail_if_success refine idW ?_); (fail_if_success refine idS ?_); intros; (repeat' apply And.intro) <;> first | assumption | omega | (simp_all; done)))
          refine aw_region (EF := EF0) hG (by rw [hN]; exact tr36_12) ?_
          simp only [a36_12, go_sem, ↓reduceIte, Nat.reduceEqDiff, reduceCtorEq, Nat.reduceAdd, Nat.reduceLT, Nat.reduceLeDiff, Nat.reduceBNe, Nat.reduceBEq, Int.reduceToNat, inI, tNp, fC5_eq, vint_nin, vint_pur, vint_len]
          (repeat' apply And.intro) <;> (try first | omega | ((fail_if_success refine idW ?_); (fail_if_success refine idS ?_); intros; (repeat' apply And.intro) <;> first | assumption | omega | (simp_all; done)))
          refine aw_region (EF := EF0) hG (by rw [hN]; exact tr36_13) ?_
          simp only [a36_13, go_sem, ↓reduceIte, Nat.reduceEqDiff, reduceCtorEq, Nat.reduceAdd, Nat.reduceLT, Nat.reduceLeDiff, Nat.reduceBNe, Nat.reduceBEq, Int.reduceToNat, inI, tNp, fC5_eq, vint_nin, vint_pur, vint_len]
          (repeat' apply And.intro) <;> (try first | omega | ((fail_if_success refine idW ?_); (fail_if_success refine idS ?_); intros; (repeat' apply And.intro) <;> first | assumption | omega | (simp_all; done)))
          refine hKL0 (i + 1, n * 32 + ixA s[i]) _ ?_ ?_ ?_
          · (try dsimp only); exact ⟨by omega, by rw [hst, ← hn]; omega, take_all (p := fun c => 0 ≤ ixA c) his hall hv0, by omega, by rw [Int.pow_succ]; omega⟩
          · (try dsimp only); omega
          · refine Le.mk _ _ ?_ ?_ rfl <;> simp only [go_sem, ↓reduceIte, Nat.reduceEqDiff, reduceCtorEq, Nat.reduceAdd, Nat.reduceLT, Nat.reduceLeDiff, Nat.reduceBNe, Nat.reduceBEq, Int.reduceToNat, vint_nin, vint_w] <;> (repeat' apply And.intro) <;> (try first | rfl | exact wk_frzb rfl rfl rfl | exact wk_fn rfl | exact .nilo _ _ _ rfl rfl | exact wk_frzm rfl rfl (fun kv hk => by obtain ⟨_, _, rfl⟩ := List.mem_map.1 hk; rfl))
      · simp only [decide_eq_true_eq, decide_eq_false_iff_not, Bool.and_eq_true, Bool.or_eq_true, Bool.not_eq_true', Bool.not_eq_false', Bool.and_eq_false_iff, Bool.or_eq_false_iff, Int.ofNat_lt, Int.ofNat_le, Nat.not_lt, Nat.not_le, Int.not_lt, Int.not_le] at hc6
        obtain rfl : i = 5 := by omega
        have hvs : vsA s 5 = (s.take 5).map ixA := by unfold vsA; simp
        rw [hvs]
        have hml : ((s.take 5).map ixA).length = 5 := by rw [List.length_map, List.length_take]; omega
        have htk : (vint ((s.take 5).map ixA)).take 5 = vint ((s.take 5).map ixA) := List.take_of_length_le (by rw [vint_len]; omega)
        have hmb : ∀ m ∈ (s.take 5).map ixA, 0 ≤ m ∧ m < 32 := fun m hm => by obtain ⟨c, hc, rfl⟩ := List.mem_map.1 hm; exact ⟨hall c hc, (ixA_bd c).2⟩
        have hle := loc_end hl6 hall
        obtain ⟨w, hw⟩ : ∃ w, w = wsum ((s.take 5).map ixA) 5 := ⟨_, rfl⟩
        refine aw_exit ?_
        simp only [go_sem, ↓reduceIte, Nat.reduceEqDiff, reduceCtorEq, Nat.reduceAdd, Nat.reduceLT, Nat.reduceLeDiff, Nat.reduceBNe, Nat.reduceBEq, Int.reduceToNat]
        refine aw_seq ?_
        refine aw_seq (aw_regionD (EF := EF0) hG mixed (by rw [hN]; exact tr36_14) ok36_14 ?_)
        simp only [a36_14, d36_14, go_sem, ↓reduceIte, Nat.reduceEqDiff, reduceCtorEq, Nat.reduceAdd, Nat.reduceLT, Nat.reduceLeDiff, Nat.reduceBNe, Nat.reduceBEq, Int.reduceToNat, List.drop_zero, htk, hml, hmb, ← hw, hl6, tNp, fC5_eq, vint_nin, vint_pur, vint_len]
        (repeat' apply And.intro) <;> (try first | omega | ((fail_if_success refine idW ?_); (fail_if_success refine idS ?_); intros; (repeat' apply And.intro) <;> first | assumption | omega | (simp_all; done)) | exact hmb)
        refine aw_cond (b := _) rfl (fun hb14 => ?_) (fun hb14 => ?_)
        · skip
          have hl : locB s = false := by rw [hle, ← hw]; unfold alpha; simpa using hb14
          refine aw_seq (aw_region (EF := EF0) hG (by rw [hN]; exact tr36_15) ?_)
          simp only [a36_15, go_sem, ↓reduceIte, Nat.reduceEqDiff, reduceCtorEq, Nat.reduceAdd, Nat.reduceLT, Nat.reduceLeDiff, Nat.reduceBNe, Nat.reduceBEq, Int.reduceToNat, tNp, fC5_eq, vint_nin, vint_pur, vint_len]
          refine aw_ret ?_
          show Q _ _
          refine hQ _ _ (.inl rfl) ?_ ?_ ?_ <;> simp only [outφ, outV, AR.res, go_sem, ↓reduceIte, Nat.reduceEqDiff, reduceCtorEq, Nat.reduceAdd, Nat.reduceLT, Nat.reduceLeDiff, Nat.reduceBNe, Nat.reduceBEq, Int.reduceToNat, fNp, tupI, numP, hl, Bool.false_eq_true]
        · skip
          have hl : locB s = true := by rw [hle, ← hw]; unfold alpha; simpa using hb14
          refine aw_skip ?_
          try simp only [go_sem, ↓reduceIte, Nat.reduceEqDiff, reduceCtorEq, Nat.reduceAdd, Nat.reduceLT, Nat.reduceLeDiff, Nat.reduceBNe, Nat.reduceBEq, Int.reduceToNat]
          refine aw_seq (aw_region (EF := EF0) hG (by rw [hN]; exact tr36_16) ?_)
          simp only [a36_16, go_sem, ↓reduceIte, Nat.reduceEqDiff, reduceCtorEq, Nat.reduceAdd, Nat.reduceLT, Nat.reduceLeDiff, Nat.reduceBNe, Nat.reduceBEq, Int.reduceToNat, tNp, fC5_eq, vint_nin, vint_pur, vint_len]
          refine aw_ret ?_
          show Q _ _
          refine hQ _ _ (.inl rfl) ?_ ?_ ?_ <;> simp only [outφ, outV, AR.res, go_sem, ↓reduceIte, Nat.reduceEqDiff, reduceCtorEq, Nat.reduceAdd, Nat.reduceLT, Nat.reduceLeDiff, Nat.reduceBNe, Nat.reduceBEq, Int.reduceToNat, fNp, tupI, numP, hl, ← hn]
noncomputable def tLr : Tab
  | 36 => (gOf aStr fNp)
  | _ => gNo
theorem tLr_ok : ∀ f, PureC Tryd.prog UT f (tLr f) := fun f => by
  unfold tLr
  split
  · exact number_p
  · exact PureC.no
theorem lright_p : PureC Tryd.prog UT 16 (gOf aStr fLc) := by
  have hG := tLr_ok
  refine PureC.ofArgs aStr_inj Tryd.func16 body16 nm16 res16 ?_
  rintro s hv
  refine ⟨by rw [nt16]; simp [aStr], fun C hN Q hQ => ?_⟩
  rw [nt16] at hN
  unfold c16
  replace hv : s.length ≤ 140737488355328 := hv
  refine aw_seq (aw_region (EF := EF0) hG (by rw [hN]; exact tr16_0) ?_)
  simp only [a16_0, go_sem, ↓reduceIte, Nat.reduceEqDiff, reduceCtorEq, Nat.reduceAdd, Nat.reduceLT, Nat.reduceLeDiff, Nat.reduceBNe, Nat.reduceBEq, Int.reduceToNat, aStr, tLr, fNp_eq, tupI]
  refine aw_seq (aw_region (EF := EF0) hG (by rw [hN]; exact tr16_1) ?_)
  simp only [a16_1, go_sem, ↓reduceIte, Nat.reduceEqDiff, reduceCtorEq, Nat.reduceAdd, Nat.reduceLT, Nat.reduceLeDiff, Nat.reduceBNe, Nat.reduceBEq, Int.reduceToNat, hv, tLr, fNp_eq, tupI]
  (repeat' apply And.intro) <;> (try first | omega | ((fail_if_success refine idW ?_); (fail_if_success refine idS ?_); intros; (repeat' apply And.intro) <;> first | assumption | omega | (simp_all; done)))
  refine aw_seq (aw_region (EF := EF0) hG (by rw [hN]; exact tr16_2) ?_)
  simp only [a16_2, go_sem, ↓reduceIte, Nat.reduceEqDiff, reduceCtorEq, Nat.reduceAdd, Nat.reduceLT, Nat.reduceLeDiff, Nat.reduceBNe, Nat.reduceBEq, Int.reduceToNat, tLr, fNp_eq, tupI]
  refine aw_ret ?_
  show Q _ _
  refine hQ _ _ (.inl rfl) ?_ ?_ ?_ <;> simp only [outφ, outV, AR.res, go_sem, ↓reduceIte, Nat.reduceEqDiff, reduceCtorEq, Nat.reduceAdd, Nat.reduceLT, Nat.reduceLeDiff, Nat.reduceBNe, Nat.reduceBEq, Int.reduceToNat, fLc]
  unfold numP; split <;> simp_all
/-! The reference. -/
theorem lit_getD {i : Nat} (h : i < 32) : (((alpha.getD i 0).toNat : Nat) : Int) = ((alpha[i]'h).toNat : Int) := by rw [List.getD_eq_getElem?_getD, List.getElem?_eq_getElem (show i < alpha.length from h)]; rfl
def aU8 (x : Int) : List V := [.int .u8 x]
theorem aU8_inj (a b : Int) (h : aU8 a = aU8 b) : a = b := by
  simp only [aU8, List.cons.injEq, V.str.injEq, V.int.injEq, V.bool.injEq, V.agg.injEq, V.list.injEq, and_true, true_and] at h
  have h0 := h
  subst h0
  rfl
def fVl (c : Int) : Prop × V := (0 ≤ c ∧ c ≤ 255, .int .i64 (ixA c.toNat.toUInt8))
theorem fVl_at {s : List UInt8} {i : Nat} (h : i < s.length) : gOf aU8 fVl [.int .u8 (((s.getD i 0).toNat : Nat) : Int)] = (True, .int .i64 (ixA s[i])) := by
  refine (gOf_eq (F := fVl) aU8_inj (((s.getD i 0).toNat : Nat) : Int)).trans ?_
  rw [List.getD_eq_getElem?_getD, List.getElem?_eq_getElem h]
  unfold fVl
  have h1 : (0 ≤ ((((some s[i]).getD 0).toNat : Nat) : Int) ∧ ((((some s[i]).getD 0).toNat : Nat) : Int) ≤ 255) = True := eq_true ⟨by omega, by have := s[i].toNat_lt; simp; omega⟩
  rw [h1]
  congr 2
  simp
theorem rvalue_p : PureC Tryd.prog UT 60 (gOf aU8 fVl) := by
  have hG := tNo_ok
  refine PureC.ofArgs aU8_inj Tryd.func60 body60 nm60 res60 ?_
  rintro c hv
  refine ⟨by rw [nt60]; simp [aU8], fun C hN Q hQ => ?_⟩
  rw [nt60] at hN
  unfold c60
  obtain ⟨h0, h1⟩ : 0 ≤ c ∧ c ≤ 255 := hv
  obtain ⟨u, hu⟩ : ∃ u, u = c.toNat.toUInt8 := ⟨_, rfl⟩
  have huc : (u.toNat : Int) = c := by rw [hu]; show ((UInt8.ofNat c.toNat).toNat : Int) = c; rw [UInt8.toNat_ofNat']; omega
  refine aw_seq (aw_region (EF := EF0) hG (by rw [hN]; exact tr60_0) ?_)
  simp only [a60_0, go_sem, ↓reduceIte, Nat.reduceEqDiff, reduceCtorEq, Nat.reduceAdd, Nat.reduceLT, Nat.reduceLeDiff, Nat.reduceBNe, Nat.reduceBEq, Int.reduceToNat, aU8, tNo]
  refine aw_seq ?_
  refine aw_seq (aw_region (EF := EF0) hG (by rw [hN]; exact tr60_1) ?_)
  simp only [a60_1, go_sem, ↓reduceIte, Nat.reduceEqDiff, reduceCtorEq, Nat.reduceAdd, Nat.reduceLT, Nat.reduceLeDiff, Nat.reduceBNe, Nat.reduceBEq, Int.reduceToNat, tNo]
  refine aw_block ?_
  refine aw_loop (α := Nat) (fun i => (i ≤ 32) ∧ (∀ x ∈ alpha.take i, x ≠ u)) (fun i => ⟨mkE [(0, V.int IntKind.u8 c), (3, .int .i64 i)], mkH []⟩) (fun i => 32 - i) 0 ⟨by omega, fun x hx => by simp at hx⟩ ?_ ?_
  · refine Le.mk _ _ ?_ ?_ rfl <;> simp only [go_sem, ↓reduceIte, Nat.reduceEqDiff, reduceCtorEq, Nat.reduceAdd, Nat.reduceLT, Nat.reduceLeDiff, Nat.reduceBNe, Nat.reduceBEq, Int.reduceToNat] <;> (repeat' apply And.intro) <;> (try first | rfl | exact wk_frzb rfl rfl rfl | exact wk_fn rfl | exact .nilo _ _ _ rfl rfl | exact wk_frzm rfl rfl (fun kv hk => by obtain ⟨_, _, rfl⟩ := List.mem_map.1 hk; rfl))
  · rintro i ⟨hi, hp⟩ KL0 hKL0
    try dsimp only at *
    refine aw_seq ?_
    refine aw_seq (aw_region (EF := EF0) hG (by rw [hN]; exact tr60_2) ?_)
    simp only [a60_2, go_sem, ↓reduceIte, Nat.reduceEqDiff, reduceCtorEq, Nat.reduceAdd, Nat.reduceLT, Nat.reduceLeDiff, Nat.reduceBNe, Nat.reduceBEq, Int.reduceToNat, tNo]
    refine aw_cond (b := _) rfl (fun hc2 => ?_) (fun hc2 => ?_)
    · simp only [decide_eq_true_eq, decide_eq_false_iff_not, Bool.and_eq_true, Bool.or_eq_true, Bool.not_eq_true', Bool.not_eq_false', Bool.and_eq_false_iff, Bool.or_eq_false_iff, Int.ofNat_lt, Int.ofNat_le, Nat.not_lt, Nat.not_le, Int.not_lt, Int.not_le] at hc2
      have hi5 : i < 32 := by omega
      refine aw_skip ?_
      try simp only [go_sem, ↓reduceIte, Nat.reduceEqDiff, reduceCtorEq, Nat.reduceAdd, Nat.reduceLT, Nat.reduceLeDiff, Nat.reduceBNe, Nat.reduceBEq, Int.reduceToNat]
      refine aw_seq ?_
      refine aw_block ?_
      refine aw_seq (aw_region (EF := EF0) hG (by rw [hN]; exact tr60_4) ?_)
      simp only [a60_4, go_sem, ↓reduceIte, Nat.reduceEqDiff, reduceCtorEq, Nat.reduceAdd, Nat.reduceLT, Nat.reduceLeDiff, Nat.reduceBNe, Nat.reduceBEq, Int.reduceToNat, lit_getD hi5, tNo]
      (repeat' apply And.intro) <;> (try first | omega | ((fail_if_success refine idW ?_); (fail_if_success refine idS ?_); intros; (repeat' apply And.intro) <;> first | assumption | omega | (simp_all; done)))
      refine aw_cond (b := _) rfl (fun hb4 => ?_) (fun hb4 => ?_)
      · skip
        have hai : alpha[i]'hi5 = u := (by have h := of_decide_eq_true hb4; change (((alpha.getD i 0).toNat : Nat) : Int) = c at h; rw [lit_getD hi5, ← huc] at h; exact UInt8.toNat_inj.1 (by omega))
        have hix : ixA u = i := ix_first (l := alpha) hi5 hp hai
        refine aw_seq (aw_region (EF := EF0) hG (by rw [hN]; exact tr60_5) ?_)
        simp only [a60_5, go_sem, ↓reduceIte, Nat.reduceEqDiff, reduceCtorEq, Nat.reduceAdd, Nat.reduceLT, Nat.reduceLeDiff, Nat.reduceBNe, Nat.reduceBEq, Int.reduceToNat, tNo]
        refine aw_ret ?_
        show Q _ _
        refine hQ _ _ (.inl rfl) ?_ ?_ ?_ <;> simp only [outφ, outV, AR.res, go_sem, ↓reduceIte, Nat.reduceEqDiff, reduceCtorEq, Nat.reduceAdd, Nat.reduceLT, Nat.reduceLeDiff, Nat.reduceBNe, Nat.reduceBEq, Int.reduceToNat, fVl, ← hu, hix]
      · skip
        have hai : alpha[i]'hi5 ≠ u := (fun e => of_decide_eq_false hb4 (by change (((alpha.getD i 0).toNat : Nat) : Int) = c; rw [lit_getD hi5, ← huc, e]))
        refine aw_skip ?_
        try simp only [go_sem, ↓reduceIte, Nat.reduceEqDiff, reduceCtorEq, Nat.reduceAdd, Nat.reduceLT, Nat.reduceLeDiff, Nat.reduceBNe, Nat.reduceBEq, Int.reduceToNat]
        refine aw_region (EF := EF0) hG (by rw [hN]; exact tr60_3) ?_
        simp only [a60_3, go_sem, ↓reduceIte, Nat.reduceEqDiff, reduceCtorEq, Nat.reduceAdd, Nat.reduceLT, Nat.reduceLeDiff, Nat.reduceBNe, Nat.reduceBEq, Int.reduceToNat, inI, tNo]
        (repeat' apply And.intro) <;> (try first | omega | ((fail_if_success refine idW ?_); (fail_if_success refine idS ?_); intros; (repeat' apply And.intro) <;> first | assumption | omega | (simp_all; done)))
        refine hKL0 (i + 1) _ ?_ ?_ ?_
        · (try dsimp only); exact ⟨hi5, take_all (l := alpha) (p := fun x => x ≠ u) hi5 hp hai⟩
        · (try dsimp only); omega
        · refine Le.mk _ _ ?_ ?_ rfl <;> simp only [go_sem, ↓reduceIte, Nat.reduceEqDiff, reduceCtorEq, Nat.reduceAdd, Nat.reduceLT, Nat.reduceLeDiff, Nat.reduceBNe, Nat.reduceBEq, Int.reduceToNat] <;> (repeat' apply And.intro) <;> (try first | rfl | exact wk_frzb rfl rfl rfl | exact wk_fn rfl | exact .nilo _ _ _ rfl rfl | exact wk_frzm rfl rfl (fun kv hk => by obtain ⟨_, _, rfl⟩ := List.mem_map.1 hk; rfl))
    · simp only [decide_eq_true_eq, decide_eq_false_iff_not, Bool.and_eq_true, Bool.or_eq_true, Bool.not_eq_true', Bool.not_eq_false', Bool.and_eq_false_iff, Bool.or_eq_false_iff, Int.ofNat_lt, Int.ofNat_le, Nat.not_lt, Nat.not_le, Int.not_lt, Int.not_le] at hc2
      have hix : ixA u = -1 := ix_none (l := alpha) fun x hx => hp x (by rw [List.take_of_length_le (show alpha.length ≤ i by change 32 ≤ i; omega)]; exact hx)
      refine aw_exit ?_
      simp only [go_sem, ↓reduceIte, Nat.reduceEqDiff, reduceCtorEq, Nat.reduceAdd, Nat.reduceLT, Nat.reduceLeDiff, Nat.reduceBNe, Nat.reduceBEq, Int.reduceToNat]
      refine aw_seq (aw_region (EF := EF0) hG (by rw [hN]; exact tr60_6) ?_)
      simp only [a60_6, go_sem, ↓reduceIte, Nat.reduceEqDiff, reduceCtorEq, Nat.reduceAdd, Nat.reduceLT, Nat.reduceLeDiff, Nat.reduceBNe, Nat.reduceBEq, Int.reduceToNat, tNo]
      refine aw_ret ?_
      show Q _ _
      refine hQ _ _ (.inl rfl) ?_ ?_ ?_ <;> simp only [outφ, outV, AR.res, go_sem, ↓reduceIte, Nat.reduceEqDiff, reduceCtorEq, Nat.reduceAdd, Nat.reduceLT, Nat.reduceLeDiff, Nat.reduceBNe, Nat.reduceBEq, Int.reduceToNat, fVl, ← hu, hix]
/-- A character of the number from its end. -/
def dgt (n : Int) (i : Nat) : Int := n / 32 ^ i % 32
end Go.Proofs.YtffapkiilkeadaaDoor
