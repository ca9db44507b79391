/- Amounts as texts: Print of both; digits. -/
import Derived.Test.YtdjeodopibaebaaDoorMo10
namespace Go.Proofs.YtdjeodopibaebaaDoor
open Go Go.RowKit
set_option linter.unusedSimpArgs false
set_option linter.unusedVariables false
set_option linter.deprecated false
def aS (x : List UInt8) : List V := [.str x]
theorem aS_inj (a b : List UInt8) (h : aS a = aS b) : a = b := by
  simp only [aS, List.cons.injEq, V.str.injEq, V.int.injEq, V.bool.injEq, V.agg.injEq, V.list.injEq, and_true, true_and] at h
  have h0 := h
  subst h0
  rfl
/-- The text of an amount. -/
def two (n : Int) : List UInt8 := if n < 10 then 48 :: Lib.decDigits n.toNat else Lib.decDigits n.toNat
def prn (a : Int) : List UInt8 := (if a < 0 then [45] else []) ++ Lib.decDigits ((a.natAbs : Int) / 100).toNat ++ [46] ++ two ((a.natAbs : Int) % 100)
def fPrn (a : Int) : Prop × V := (inI a, .str (prn a))
theorem fPrn_eq (a : Int) : gOf aI fPrn [.int .i64 a] = (inI a, .str (prn a)) := gOf_eq aI_inj a
noncomputable def tPrn : Tab
  | 30 => gSize
  | 41 => gFmtU
  | _ => gNo
theorem tPrn_ok : ∀ f, PureC Tryd.prog UT f (tPrn f) := fun f => by
  unfold tPrn
  split
  · exact size_p
  · exact fmtu_p
  · exact PureC.no
theorem print_p : PureC Tryd.prog UT 25 (gOf aI fPrn) := by
  have hG := tPrn_ok
  refine PureC.ofArgs aI_inj Tryd.func25 body25 nm25 res25 ?_
  rintro a hv
  refine ⟨by rw [nt25]; simp [aI], fun C hN Q hQ => ?_⟩
  rw [nt25] at hN
  unfold c25
  replace hv : inI a := hv
  have hiu := hv
  unfold inI at hiu
  obtain ⟨A, hA⟩ : ∃ A, A = (a.natAbs : Int) := ⟨_, rfl⟩
  have hA0 : 0 ≤ A := by omega
  have hq1 : 0 ≤ A / 100 := by omega
  have hq2 : A / 100 < u64m := by unfold u64m; omega
  have hq3 : 0 ≤ A % 100 := by omega
  have hq4 : A % 100 < u64m := by unfold u64m; omega
  have hk : inK .u64 (A / 100) := inK_u64.2 (by omega)
  have hd1 := dd_len (n := A / 100) (by omega)
  have hd2 := dd_len (n := A % 100) (by omega)
  have h100 : (0 : Int) < 100 := by decide
  refine aw_seq (aw_region (EF := EF0) hG (by rw [hN]; exact tr25_0) ?_)
  simp only [a25_0, go_sem, ↓reduceIte, Nat.reduceEqDiff, reduceCtorEq, Nat.reduceAdd, Nat.reduceLT, Nat.reduceLeDiff, Nat.reduceBNe, Nat.reduceBEq, Int.reduceToNat, aI, tPrn]
  refine aw_seq (aw_region (EF := EF0) hG (by rw [hN]; exact tr25_1) ?_)
  simp only [a25_1, go_sem, ↓reduceIte, Nat.reduceEqDiff, reduceCtorEq, Nat.reduceAdd, Nat.reduceLT, Nat.reduceLeDiff, Nat.reduceBNe, Nat.reduceBEq, Int.reduceToNat, gSize, hv, ← hA, tPrn]
  (repeat' apply And.intro) <;> (try first | omega | ((fail_if_success (refine (id : AW _ _ _ _ _ → AW _ _ _ _ _) ?_)); (fail_if_success (refine (id : EStep _ _ _ _ _ _ _ → EStep _ _ _ _ _ _ _) ?_)); intros; (repeat' apply And.intro) <;> first | assumption | omega | (simp_all; done)))
  refine aw_cut (α := (List UInt8)) (fun sg => (sg = (if a < 0 then [45] else [])) ∧ (sg.length ≤ 1)) (fun sg => ⟨mkE [(3, V.int IntKind.u64 A), (4, .str sg)], mkH []⟩) ?_ ?_
  · intro KC2 hKC2
    refine aw_seq (aw_region (EF := EF0) hG (by rw [hN]; exact tr25_2) ?_)
    simp only [a25_2, go_sem, ↓reduceIte, Nat.reduceEqDiff, reduceCtorEq, Nat.reduceAdd, Nat.reduceLT, Nat.reduceLeDiff, Nat.reduceBNe, Nat.reduceBEq, Int.reduceToNat, tPrn]
    refine aw_cond (b := _) rfl (fun hc2 => ?_) (fun hc2 => ?_)
    · simp only [decide_eq_true_eq, decide_eq_false_iff_not, Bool.and_eq_true, Bool.or_eq_true, Bool.not_eq_true', Bool.not_eq_false', Bool.and_eq_false_iff, Bool.or_eq_false_iff, Int.ofNat_lt, Int.ofNat_le, Nat.not_lt, Nat.not_le, Int.not_lt, Int.not_le] at hc2
      refine aw_region (EF := EF0) hG (by rw [hN]; exact tr25_3) ?_
      simp only [a25_3, go_sem, ↓reduceIte, Nat.reduceEqDiff, reduceCtorEq, Nat.reduceAdd, Nat.reduceLT, Nat.reduceLeDiff, Nat.reduceBNe, Nat.reduceBEq, Int.reduceToNat, tPrn]
      refine hKC2 ([45]) _ ?_ ?_
      · (try dsimp only); exact ⟨by rw [if_pos hc2], by simp⟩
      · refine Le.mk _ _ ?_ ?_ rfl <;> simp only [go_sem, ↓reduceIte, Nat.reduceEqDiff, reduceCtorEq, Nat.reduceAdd, Nat.reduceLT, Nat.reduceLeDiff, Nat.reduceBNe, Nat.reduceBEq, Int.reduceToNat] <;> (repeat' apply And.intro) <;> (try first | rfl | exact wk_frzb rfl rfl rfl | exact wk_fn rfl | exact .nilo _ _ _ rfl rfl | exact wk_frzm rfl rfl (fun kv hk => by obtain ⟨_, _, rfl⟩ := List.mem_map.1 hk; rfl))
    · simp only [decide_eq_true_eq, decide_eq_false_iff_not, Bool.and_eq_true, Bool.or_eq_true, Bool.not_eq_true', Bool.not_eq_false', Bool.and_eq_false_iff, Bool.or_eq_false_iff, Int.ofNat_lt, Int.ofNat_le, Nat.not_lt, Nat.not_le, Int.not_lt, Int.not_le] at hc2
      refine aw_skip ?_
      try simp only [go_sem, ↓reduceIte, Nat.reduceEqDiff, reduceCtorEq, Nat.reduceAdd, Nat.reduceLT, Nat.reduceLeDiff, Nat.reduceBNe, Nat.reduceBEq, Int.reduceToNat]
      refine hKC2 ([]) _ ?_ ?_
      · (try dsimp only); exact ⟨by rw [if_neg (by omega)], by simp⟩
      · refine Le.mk _ _ ?_ ?_ rfl <;> simp only [go_sem, ↓reduceIte, Nat.reduceEqDiff, reduceCtorEq, Nat.reduceAdd, Nat.reduceLT, Nat.reduceLeDiff, Nat.reduceBNe, Nat.reduceBEq, Int.reduceToNat] <;> (repeat' apply And.intro) <;> (try first | rfl | exact wk_frzb rfl rfl rfl | exact wk_fn rfl | exact .nilo _ _ _ rfl rfl | exact wk_frzm rfl rfl (fun kv hk => by obtain ⟨_, _, rfl⟩ := List.mem_map.1 hk; rfl))
  · rintro sg ⟨h1, h2⟩
    refine aw_seq (aw_region (EF := EF0) hG (by rw [hN]; exact tr25_4) ?_)
    simp only [a25_4, go_sem, ↓reduceIte, Nat.reduceEqDiff, reduceCtorEq, Nat.reduceAdd, Nat.reduceLT, Nat.reduceLeDiff, Nat.reduceBNe, Nat.reduceBEq, Int.reduceToNat, gFmtU, hA0, h100, hq3, hq4, tPrn]
    refine aw_cut (α := (List UInt8)) (fun tw => (tw = two (A % 100)) ∧ (tw.length ≤ 21)) (fun tw => ⟨mkE [(3, V.int IntKind.u64 A), (4, V.str sg), (5, .str tw)], mkH []⟩) ?_ ?_
    · intro KC5 hKC5
      refine aw_seq (aw_region (EF := EF0) hG (by rw [hN]; exact tr25_5) ?_)
      simp only [a25_5, go_sem, ↓reduceIte, Nat.reduceEqDiff, reduceCtorEq, Nat.reduceAdd, Nat.reduceLT, Nat.reduceLeDiff, Nat.reduceBNe, Nat.reduceBEq, Int.reduceToNat, hA0, h100, tPrn]
      refine aw_cond (b := _) rfl (fun hc5 => ?_) (fun hc5 => ?_)
      · simp only [decide_eq_true_eq, decide_eq_false_iff_not, Bool.and_eq_true, Bool.or_eq_true, Bool.not_eq_true', Bool.not_eq_false', Bool.and_eq_false_iff, Bool.or_eq_false_iff, Int.ofNat_lt, Int.ofNat_le, Nat.not_lt, Nat.not_le, Int.not_lt, Int.not_le] at hc5
        refine aw_region (EF := EF0) hG (by rw [hN]; exact tr25_6) ?_
        simp only [a25_6, go_sem, ↓reduceIte, Nat.reduceEqDiff, reduceCtorEq, Nat.reduceAdd, Nat.reduceLT, Nat.reduceLeDiff, Nat.reduceBNe, Nat.reduceBEq, Int.reduceToNat, inI, List.length_append, tPrn]
        (repeat' apply And.intro) <;> (try first | omega | ((fail_if_success (refine (id : AW _ _ _ _ _ → AW _ _ _ _ _) ?_)); (fail_if_success (refine (id : EStep _ _ _ _ _ _ _ → EStep _ _ _ _ _ _ _) ?_)); intros; (repeat' apply And.intro) <;> first | assumption | omega | (simp_all; done)))
        refine hKC5 (48 :: Lib.decDigits (A % 100).toNat) _ ?_ ?_
        · (try dsimp only); exact ⟨by unfold two; rw [if_pos hc5], by simp only [List.length_cons]; omega⟩
        · refine Le.mk _ _ ?_ ?_ rfl <;> simp only [go_sem, ↓reduceIte, Nat.reduceEqDiff, reduceCtorEq, Nat.reduceAdd, Nat.reduceLT, Nat.reduceLeDiff, Nat.reduceBNe, Nat.reduceBEq, Int.reduceToNat] <;> (repeat' apply And.intro) <;> (try first | rfl | exact wk_frzb rfl rfl rfl | exact wk_fn rfl | exact .nilo _ _ _ rfl rfl | exact wk_frzm rfl rfl (fun kv hk => by obtain ⟨_, _, rfl⟩ := List.mem_map.1 hk; rfl))
      · simp only [decide_eq_true_eq, decide_eq_false_iff_not, Bool.and_eq_true, Bool.or_eq_true, Bool.not_eq_true', Bool.not_eq_false', Bool.and_eq_false_iff, Bool.or_eq_false_iff, Int.ofNat_lt, Int.ofNat_le, Nat.not_lt, Nat.not_le, Int.not_lt, Int.not_le] at hc5
        refine aw_skip ?_
        try simp only [go_sem, ↓reduceIte, Nat.reduceEqDiff, reduceCtorEq, Nat.reduceAdd, Nat.reduceLT, Nat.reduceLeDiff, Nat.reduceBNe, Nat.reduceBEq, Int.reduceToNat]
        refine hKC5 (Lib.decDigits (A % 100).toNat) _ ?_ ?_
        · (try dsimp only); exact ⟨by unfold two; rw [if_neg (by omega)], by omega⟩
        · refine Le.mk _ _ ?_ ?_ rfl <;> simp only [go_sem, ↓reduceIte, Nat.reduceEqDiff, reduceCtorEq, Nat.reduceAdd, Nat.reduceLT, Nat.reduceLeDiff, Nat.reduceBNe, Nat.reduceBEq, Int.reduceToNat] <;> (repeat' apply And.intro) <;> (try first | rfl | exact wk_frzb rfl rfl rfl | exact wk_fn rfl | exact .nilo _ _ _ rfl rfl | exact wk_frzm rfl rfl (fun kv hk => by obtain ⟨_, _, rfl⟩ := List.mem_map.1 hk; rfl))
    · rintro tw ⟨h3, h4⟩
      refine aw_seq (aw_region (EF := EF0) hG (by rw [hN]; exact tr25_7) ?_)
      simp only [a25_7, go_sem, ↓reduceIte, Nat.reduceEqDiff, reduceCtorEq, Nat.reduceAdd, Nat.reduceLT, Nat.reduceLeDiff, Nat.reduceBNe, Nat.reduceBEq, Int.reduceToNat, inI, gFmtU, hA0, h100, hq1, hq2, hk, List.length_append, tPrn]
      (repeat' apply And.intro) <;> (try first | omega | ((fail_if_success (refine (id : AW _ _ _ _ _ → AW _ _ _ _ _) ?_)); (fail_if_success (refine (id : EStep _ _ _ _ _ _ _ → EStep _ _ _ _ _ _ _) ?_)); intros; (repeat' apply And.intro) <;> first | assumption | omega | (simp_all; done)))
      refine aw_ret ?_
      show Q _ _
      refine hQ _ _ (.inl rfl) ?_ ?_ ?_ <;> simp only [outφ, outV, AR.res, go_sem, ↓reduceIte, Nat.reduceEqDiff, reduceCtorEq, Nat.reduceAdd, Nat.reduceLT, Nat.reduceLeDiff, Nat.reduceBNe, Nat.reduceBEq, Int.reduceToNat, fPrn]
      unfold prn; rw [h1, h3, hA]
/-! The reference's digits. -/
def rdg : Nat → Nat → Int → List UInt8
  | 0, _, _ => []
  | f + 1, n, l => if n = 0 ∧ l ≤ 0 then [] else rdg f (n / 10) (l - 1) ++ [dch (n % 10)]
theorem rdg_nil : ∀ (f : Nat) (l : Int), l ≤ 0 → rdg f 0 l = []
  | 0, _, _ => rfl
  | f + 1, l, h => by rw [rdg, if_pos ⟨rfl, h⟩]
theorem ddN_small {n : Nat} (h : n < 10) : Lib.decDigits n = [dch n] := by rw [Lib.decDigits, dif_pos h]; rfl
theorem ddN_big {n : Nat} (h : 10 ≤ n) : Lib.decDigits n = Lib.decDigits (n / 10) ++ [dch (n % 10)] := by
  have := dd_big (n := (n : Int)) (by omega)
  rw [Int.toNat_natCast] at this
  rw [this]
  congr 2
theorem rdg_dd : ∀ (f n : Nat) (l : Int), n < 10 ^ f → l ≤ 1 → (1 ≤ n ∨ l = 1 ∧ 1 ≤ f) → rdg f n l = Lib.decDigits n
  | 0, n, l, h, hl, h1 => by omega
  | f + 1, n, l, h, hl, h1 => by
    rw [rdg, if_neg (by omega)]
    by_cases c : n < 10
    · rw [show n / 10 = 0 by omega, rdg_nil f _ (by omega), ddN_small c, show n % 10 = n by omega]; rfl
    · rw [rdg_dd f (n / 10) (l - 1) (by rw [Nat.pow_succ] at h; omega) (by omega) (.inl (by omega)), ddN_big (n := n) (by omega)]
theorem rdg_two {n : Nat} (h : n < 100) : rdg 20 n 2 = two n := by
  rw [rdg, if_neg (by omega)]
  unfold two
  rw [Int.toNat_natCast]
  by_cases c : n < 10
  · rw [if_pos (by omega), ddN_small c, show n / 10 = 0 by omega, show n % 10 = n by omega, rdg_dd 19 0 (2 - 1) (by decide) (by omega) (.inr ⟨by omega, by omega⟩), ddN_small (by omega)]
    rfl
  · rw [if_neg (by omega), ddN_big (by omega), rdg_dd 19 (n / 10) (2 - 1) (Nat.lt_of_lt_of_le (show n / 10 < 100 by omega) (by decide)) (by omega) (.inl (by omega))]
theorem rdg_len : ∀ (f n : Nat) (l : Int), (rdg f n l).length ≤ f
  | 0, _, _ => Nat.le_refl _
  | f + 1, n, l => by
    rw [rdg]
    split
    · simp
    · rw [List.length_append]; have := rdg_len f (n / 10) (l - 1); simp; omega
def gRdg : List V → Prop × V
  | [.int .u64 n, .int .i64 l] => (0 ≤ n ∧ n < u64m ∧ (l = 1 ∨ l = 2), .str (rdg 20 n.toNat l))
  | _ => (False, .any)
theorem rdg_more : ∀ (f g n : Nat) (l : Int), n < 10 ^ f → l ≤ f → f ≤ g → rdg g n l = rdg f n l
  | 0, g, n, l, h, hl, hg => by rw [show n = 0 by simp at h; omega, rdg_nil g l (by omega), rdg_nil 0 l (by omega)]
  | f + 1, 0, n, l, h, hl, hg => by omega
  | f + 1, g + 1, n, l, h, hl, hg => by
    rw [rdg, rdg]
    split
    · rfl
    · rw [rdg_more f g (n / 10) (l - 1) (by rw [Nat.pow_succ] at h; omega) (by omega) (by omega)]
theorem rdigits_p : PureC Tryd.prog UT 42 gRdg := by
  have hG := tNo_ok
  refine PureC.of_awQ Tryd.func42 body42 nm42 res42 fun vs hv => ?_
  match vs, hv with
  | [.int .u64 n0, .int .i64 l0], hv =>
  obtain ⟨g1, g2, g3⟩ : 0 ≤ n0 ∧ n0 < u64m ∧ (l0 = 1 ∨ l0 = 2) := hv
  unfold u64m at g2
  obtain ⟨N, rfl⟩ := Int.eq_ofNat_of_zero_le g1
  have hgv : gRdg [.int .u64 (N : Int), .int .i64 l0] = (0 ≤ (N : Int) ∧ (N : Int) < u64m ∧ (l0 = 1 ∨ l0 = 2), .str (rdg 20 N l0)) := by show (_, V.str (rdg 20 ((N : Int).toNat) l0)) = _; rw [Int.toNat_natCast]
  have h20 : N < 10 ^ 20 := Nat.lt_of_lt_of_le (show N < 18446744073709551616 by omega) (by decide)
  have hs1 : l0 ≤ ((20 : Nat) : Int) := by omega
  have hs2 : -20 ≤ l0 - ((20 : Nat) : Int) := by omega
  have hs3 : N < 18446744073709551616 := by omega
  obtain ⟨T, hT⟩ : ∃ T, T = rdg 20 N l0 := ⟨_, rfl⟩
  rw [← hT] at hgv
  refine ⟨by rw [nt42]; simp, fun C hN Q hQ => ?_⟩
  rw [nt42] at hN
  unfold c42
  refine aw_seq (aw_region (EF := EF0) hG (by rw [hN]; exact tr42_0) ?_)
  simp only [a42_0, go_sem, ↓reduceIte, Nat.reduceEqDiff, reduceCtorEq, Nat.reduceAdd, Nat.reduceLT, Nat.reduceLeDiff, Nat.reduceBNe, Nat.reduceBEq, Int.reduceToNat, tNo]
  refine aw_seq (aw_region (EF := EF0) hG (by rw [hN]; exact tr42_1) ?_)
  simp only [a42_1, go_sem, ↓reduceIte, Nat.reduceEqDiff, reduceCtorEq, Nat.reduceAdd, Nat.reduceLT, Nat.reduceLeDiff, Nat.reduceBNe, Nat.reduceBEq, Int.reduceToNat, tNo]
  refine aw_seq ?_
  refine aw_block ?_
  refine aw_loop (α := Nat × Nat × Int × (List UInt8)) (fun γ => (T = rdg γ.1 γ.2.1 γ.2.2.1 ++ γ.2.2.2) ∧ (γ.2.1 < 10 ^ γ.1) ∧ (γ.2.2.1 ≤ γ.1) ∧ (γ.2.2.2.length + γ.1 ≤ 20) ∧ (-20 ≤ γ.2.2.1 - γ.1) ∧ (γ.2.1 < 18446744073709551616)) (fun γ => ⟨mkE [(0, .int .u64 γ.2.1), (1, .int .i64 γ.2.2.1), (5, .str γ.2.2.2)], mkH []⟩) (fun γ => γ.1) (20, N, l0, []) ⟨hT.trans (List.append_nil _).symm, h20, hs1, by simp, hs2, hs3⟩ ?_ ?_
  · refine Le.mk _ _ ?_ ?_ rfl <;> simp only [go_sem, ↓reduceIte, Nat.reduceEqDiff, reduceCtorEq, Nat.reduceAdd, Nat.reduceLT, Nat.reduceLeDiff, Nat.reduceBNe, Nat.reduceBEq, Int.reduceToNat] <;> (repeat' apply And.intro) <;> (try first | rfl | exact wk_frzb rfl rfl rfl | exact wk_fn rfl | exact .nilo _ _ _ rfl rfl | exact wk_frzm rfl rfl (fun kv hk => by obtain ⟨_, _, rfl⟩ := List.mem_map.1 hk; rfl))
  · rintro ⟨f, n, l, s⟩ ⟨h1, h2, h3, h4, h5, h6⟩ KL0 hKL0
    try dsimp only at *
    refine aw_seq ?_
    refine aw_seq (aw_region (EF := EF0) hG (by rw [hN]; exact tr42_2) ?_)
    simp only [a42_2, go_sem, ↓reduceIte, Nat.reduceEqDiff, reduceCtorEq, Nat.reduceAdd, Nat.reduceLT, Nat.reduceLeDiff, Nat.reduceBNe, Nat.reduceBEq, Int.reduceToNat, tNo]
    (repeat' apply And.intro) <;> (try first | omega | ((fail_if_success (refine (id : AW _ _ _ _ _ → AW _ _ _ _ _) ?_)); (fail_if_success (refine (id : EStep _ _ _ _ _ _ _ → EStep _ _ _ _ _ _ _) ?_)); intros; (repeat' apply And.intro) <;> first | assumption | omega | (simp_all; done)))
    refine aw_cond (b := _) rfl (fun hb2 => ?_) (fun hb2 => ?_)
    · skip
      have hb3 : 0 < n ∨ 0 < l := by simpa using hb2
      obtain ⟨f, rfl⟩ : ∃ j, f = j + 1 := by cases f with | zero => (simp at h2; omega) | succ f => exact ⟨f, rfl⟩
      rw [rdg, if_neg (by omega)] at h1
      have hn10 : n / 10 < 10 ^ f := by rw [Nat.pow_succ] at h2; omega
      have hm : ((n : Int) % 10) = ((n % 10 : Nat) : Int) := by omega
      have hq : ((n : Int) / 10) = ((n / 10 : Nat) : Int) := by omega
      have hk1 : inK .u64 (48 + ((n % 10 : Nat) : Int)) := inK_u64.2 (by omega)
      have hk2 : inK .u8 (48 + ((n % 10 : Nat) : Int)) := inK_u8.2 (by omega)
      have hk3 : inK .u64 ((n / 10 : Nat) : Int) := inK_u64.2 (by omega)
      have hch : UInt8.ofNat (48 + ((n % 10 : Nat) : Int)).toNat = dch (n % 10) := by unfold dch; congr 1
      have hn0 : 0 ≤ (n : Int) := by omega
      have h10 : (0 : Int) < 10 := by decide
      refine aw_skip ?_
      try simp only [go_sem, ↓reduceIte, Nat.reduceEqDiff, reduceCtorEq, Nat.reduceAdd, Nat.reduceLT, Nat.reduceLeDiff, Nat.reduceBNe, Nat.reduceBEq, Int.reduceToNat]
      refine aw_block ?_
      refine aw_seq (aw_region (EF := EF0) hG (by rw [hN]; exact tr42_3) ?_)
      simp only [a42_3, go_sem, ↓reduceIte, Nat.reduceEqDiff, reduceCtorEq, Nat.reduceAdd, Nat.reduceLT, Nat.reduceLeDiff, Nat.reduceBNe, Nat.reduceBEq, Int.reduceToNat, inI, hm, hk1, hk2, hch, hn0, h10, tNo]
      (repeat' apply And.intro) <;> (try first | omega | ((fail_if_success (refine (id : AW _ _ _ _ _ → AW _ _ _ _ _) ?_)); (fail_if_success (refine (id : EStep _ _ _ _ _ _ _ → EStep _ _ _ _ _ _ _) ?_)); intros; (repeat' apply And.intro) <;> first | assumption | omega | (simp_all; done)))
      refine aw_seq (aw_region (EF := EF0) hG (by rw [hN]; exact tr42_4) ?_)
      simp only [a42_4, go_sem, ↓reduceIte, Nat.reduceEqDiff, reduceCtorEq, Nat.reduceAdd, Nat.reduceLT, Nat.reduceLeDiff, Nat.reduceBNe, Nat.reduceBEq, Int.reduceToNat, hq, hk3, hn0, h10, tNo]
      refine aw_region (EF := EF0) hG (by rw [hN]; exact tr42_5) ?_
      simp only [a42_5, go_sem, ↓reduceIte, Nat.reduceEqDiff, reduceCtorEq, Nat.reduceAdd, Nat.reduceLT, Nat.reduceLeDiff, Nat.reduceBNe, Nat.reduceBEq, Int.reduceToNat, inI, tNo]
      (repeat' apply And.intro) <;> (try first | omega | ((fail_if_success (refine (id : AW _ _ _ _ _ → AW _ _ _ _ _) ?_)); (fail_if_success (refine (id : EStep _ _ _ _ _ _ _ → EStep _ _ _ _ _ _ _) ?_)); intros; (repeat' apply And.intro) <;> first | assumption | omega | (simp_all; done)))
      refine hKL0 (f, n / 10, l - 1, dch (n % 10) :: s) _ ?_ ?_ ?_
      · (try dsimp only); exact ⟨by rw [h1]; simp, hn10, by omega, by simp only [List.length_cons]; omega, by omega, by omega⟩
      · (try dsimp only); omega
      · refine Le.mk _ _ ?_ ?_ rfl <;> simp only [go_sem, ↓reduceIte, Nat.reduceEqDiff, reduceCtorEq, Nat.reduceAdd, Nat.reduceLT, Nat.reduceLeDiff, Nat.reduceBNe, Nat.reduceBEq, Int.reduceToNat] <;> (repeat' apply And.intro) <;> (try first | rfl | exact wk_frzb rfl rfl rfl | exact wk_fn rfl | exact .nilo _ _ _ rfl rfl | exact wk_frzm rfl rfl (fun kv hk => by obtain ⟨_, _, rfl⟩ := List.mem_map.1 hk; rfl))
    · skip
      have hb3 : n = 0 ∧ l ≤ 0 := by simp at hb2; omega
      obtain ⟨rfl, hl0⟩ := hb3
      rw [rdg_nil f l hl0, List.nil_append] at h1
      refine aw_exit ?_
      simp only [go_sem, ↓reduceIte, Nat.reduceEqDiff, reduceCtorEq, Nat.reduceAdd, Nat.reduceLT, Nat.reduceLeDiff, Nat.reduceBNe, Nat.reduceBEq, Int.reduceToNat]
      refine aw_seq (aw_region (EF := EF0) hG (by rw [hN]; exact tr42_6) ?_)
      simp only [a42_6, go_sem, ↓reduceIte, Nat.reduceEqDiff, reduceCtorEq, Nat.reduceAdd, Nat.reduceLT, Nat.reduceLeDiff, Nat.reduceBNe, Nat.reduceBEq, Int.reduceToNat, tNo]
      refine aw_ret ?_
      show Q _ _
      refine hQ _ _ (.inl rfl) ?_ ?_ ?_ <;> simp only [outφ, outV, AR.res, go_sem, ↓reduceIte, Nat.reduceEqDiff, reduceCtorEq, Nat.reduceAdd, Nat.reduceLT, Nat.reduceLeDiff, Nat.reduceBNe, Nat.reduceBEq, Int.reduceToNat, hgv, h1]
theorem wrap_u (n : Int) : IntKind.u64.wrap n = n % 18446744073709551616 := wu_eq n
noncomputable def tRpr : Tab
  | 42 => gRdg
  | _ => gNo
theorem tRpr_ok : ∀ f, PureC Tryd.prog UT f (tRpr f) := fun f => by
  unfold tRpr
  split
  · exact rdigits_p
  · exact PureC.no
theorem rprint_p : PureC Tryd.prog UT 27 (gOf aI fPrn) := by
  have hG := tRpr_ok
  refine PureC.ofArgs aI_inj Tryd.func27 body27 nm27 res27 ?_
  rintro a hv
  refine ⟨by rw [nt27]; simp [aI], fun C hN Q hQ => ?_⟩
  rw [nt27] at hN
  unfold c27
  replace hv : inI a := hv
  have hiu := hv
  unfold inI at hiu
  obtain ⟨A, hA⟩ : ∃ A, A = (a.natAbs : Int) := ⟨_, rfl⟩
  have hA0 : 0 ≤ A := by omega
  have hq1 : 0 ≤ A / 100 := by omega
  have hq2 : A / 100 < u64m := by unfold u64m; omega
  have hq3 : 0 ≤ A % 100 := by omega
  have hq4 : A % 100 < u64m := by unfold u64m; omega
  have hk : inK .u64 (A / 100) := inK_u64.2 (by omega)
  have h100 : (0 : Int) < 100 := by decide
  have hd1 := rdg_len 20 (A / 100).toNat 1
  have hd2 := rdg_len 20 (A % 100).toNat 2
  have e1 : rdg 20 (A / 100).toNat 1 = Lib.decDigits (A / 100).toNat := rdg_dd 20 _ 1 (Nat.lt_of_lt_of_le (show (A / 100).toNat < 18446744073709551616 by omega) (by decide)) (by omega) (.inr ⟨rfl, by omega⟩)
  have e2 : rdg 20 (A % 100).toNat 2 = two (A % 100) := by rw [rdg_two (by omega), Int.toNat_of_nonneg hq3]
  refine aw_seq (aw_region (EF := EF0) hG (by rw [hN]; exact tr27_0) ?_)
  simp only [a27_0, go_sem, ↓reduceIte, Nat.reduceEqDiff, reduceCtorEq, Nat.reduceAdd, Nat.reduceLT, Nat.reduceLeDiff, Nat.reduceBNe, Nat.reduceBEq, Int.reduceToNat, aI, tRpr]
  refine aw_seq (aw_regionW (EF := EF0) hG (by rw [hN]; exact tr27_1) ?_)
  simp only [a27_1, go_sem, ↓reduceIte, Nat.reduceEqDiff, reduceCtorEq, Nat.reduceAdd, Nat.reduceLT, Nat.reduceLeDiff, Nat.reduceBNe, Nat.reduceBEq, Int.reduceToNat, wrap_u, tRpr]
  (repeat' apply And.intro) <;> (try first | omega | ((fail_if_success (refine (id : AW _ _ _ _ _ → AW _ _ _ _ _) ?_)); (fail_if_success (refine (id : EStep _ _ _ _ _ _ _ → EStep _ _ _ _ _ _ _) ?_)); intros; (repeat' apply And.intro) <;> first | assumption | omega | (simp_all; done)))
  refine aw_cut (α := (List UInt8)) (fun sg => (sg = (if a < 0 then [45] else [])) ∧ (sg.length ≤ 1)) (fun sg => ⟨mkE [(3, .int .u64 A), (4, .str sg)], mkH []⟩) ?_ ?_
  · intro KC2 hKC2
    refine aw_seq (aw_region (EF := EF0) hG (by rw [hN]; exact tr27_2) ?_)
    simp only [a27_2, go_sem, ↓reduceIte, Nat.reduceEqDiff, reduceCtorEq, Nat.reduceAdd, Nat.reduceLT, Nat.reduceLeDiff, Nat.reduceBNe, Nat.reduceBEq, Int.reduceToNat, tRpr]
    refine aw_cond (b := _) rfl (fun hc2 => ?_) (fun hc2 => ?_)
    · simp only [decide_eq_true_eq, decide_eq_false_iff_not, Bool.and_eq_true, Bool.or_eq_true, Bool.not_eq_true', Bool.not_eq_false', Bool.and_eq_false_iff, Bool.or_eq_false_iff, Int.ofNat_lt, Int.ofNat_le, Nat.not_lt, Nat.not_le, Int.not_lt, Int.not_le] at hc2
      refine aw_regionW (EF := EF0) hG (by rw [hN]; exact tr27_3) ?_
      simp only [a27_3, go_sem, ↓reduceIte, Nat.reduceEqDiff, reduceCtorEq, Nat.reduceAdd, Nat.reduceLT, Nat.reduceLeDiff, Nat.reduceBNe, Nat.reduceBEq, Int.reduceToNat, inI, wu_eq, tRpr]
      (repeat' apply And.intro) <;> (try first | omega | ((fail_if_success (refine (id : AW _ _ _ _ _ → AW _ _ _ _ _) ?_)); (fail_if_success (refine (id : EStep _ _ _ _ _ _ _ → EStep _ _ _ _ _ _ _) ?_)); intros; (repeat' apply And.intro) <;> first | assumption | omega | (simp_all; done)))
      refine hKC2 ([45]) _ ?_ ?_
      · (try dsimp only); exact ⟨by rw [if_pos hc2], by simp⟩
      · refine Le.mk _ _ ?_ ?_ rfl <;> simp only [go_sem, ↓reduceIte, Nat.reduceEqDiff, reduceCtorEq, Nat.reduceAdd, Nat.reduceLT, Nat.reduceLeDiff, Nat.reduceBNe, Nat.reduceBEq, Int.reduceToNat] <;> (repeat' apply And.intro) <;> (try first | rfl | exact wk_frzb rfl rfl rfl | exact wk_fn rfl | exact .nilo _ _ _ rfl rfl | exact wk_frzm rfl rfl (fun kv hk => by obtain ⟨_, _, rfl⟩ := List.mem_map.1 hk; rfl))
        all_goals (try omega)
    · simp only [decide_eq_true_eq, decide_eq_false_iff_not, Bool.and_eq_true, Bool.or_eq_true, Bool.not_eq_true', Bool.not_eq_false', Bool.and_eq_false_iff, Bool.or_eq_false_iff, Int.ofNat_lt, Int.ofNat_le, Nat.not_lt, Nat.not_le, Int.not_lt, Int.not_le] at hc2
      refine aw_skip ?_
      try simp only [go_sem, ↓reduceIte, Nat.reduceEqDiff, reduceCtorEq, Nat.reduceAdd, Nat.reduceLT, Nat.reduceLeDiff, Nat.reduceBNe, Nat.reduceBEq, Int.reduceToNat]
      refine hKC2 ([]) _ ?_ ?_
      · (try dsimp only); exact ⟨by rw [if_neg (by omega)], by simp⟩
      · refine Le.mk _ _ ?_ ?_ rfl <;> simp only [go_sem, ↓reduceIte, Nat.reduceEqDiff, reduceCtorEq, Nat.reduceAdd, Nat.reduceLT, Nat.reduceLeDiff, Nat.reduceBNe, Nat.reduceBEq, Int.reduceToNat] <;> (repeat' apply And.intro) <;> (try first | rfl | exact wk_frzb rfl rfl rfl | exact wk_fn rfl | exact .nilo _ _ _ rfl rfl | exact wk_frzm rfl rfl (fun kv hk => by obtain ⟨_, _, rfl⟩ := List.mem_map.1 hk; rfl))
        all_goals (try omega)
  · rintro sg ⟨h1, h2⟩
    refine aw_seq (aw_region (EF := EF0) hG (by rw [hN]; exact tr27_4) ?_)
    simp only [a27_4, go_sem, ↓reduceIte, Nat.reduceEqDiff, reduceCtorEq, Nat.reduceAdd, Nat.reduceLT, Nat.reduceLeDiff, Nat.reduceBNe, Nat.reduceBEq, Int.reduceToNat, inI, gRdg, hA0, h100, hq1, hq2, hq3, hq4, hk, List.length_append, tRpr]
    (repeat' apply And.intro) <;> (try first | omega | ((fail_if_success (refine (id : AW _ _ _ _ _ → AW _ _ _ _ _) ?_)); (fail_if_success (refine (id : EStep _ _ _ _ _ _ _ → EStep _ _ _ _ _ _ _) ?_)); intros; (repeat' apply And.intro) <;> first | assumption | omega | (simp_all; done)))
    refine aw_ret ?_
    show Q _ _
    refine hQ _ _ (.inl rfl) ?_ ?_ ?_ <;> simp only [outφ, outV, AR.res, go_sem, ↓reduceIte, Nat.reduceEqDiff, reduceCtorEq, Nat.reduceAdd, Nat.reduceLT, Nat.reduceLeDiff, Nat.reduceBNe, Nat.reduceBEq, Int.reduceToNat, fPrn]
    unfold prn; rw [h1, e1, e2, hA]
end Go.Proofs.YtdjeodopibaebaaDoor
