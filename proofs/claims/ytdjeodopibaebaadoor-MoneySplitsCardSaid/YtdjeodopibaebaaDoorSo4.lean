/- Exchanging ranges, turning ranges, sorting by insertion. -/
import Derived.Test.YtdjeodopibaebaaDoorSo3
namespace Go.Proofs.YtdjeodopibaebaaDoor
open Go Go.RowKit
set_option linter.unusedSimpArgs false
set_option linter.unusedVariables false
set_option linter.deprecated false
def EFs : Nat → Bool := fun f => f == 36 || f == 55 || f == 60 || f == 61 || f == 67 || f == 72
/-- What the sort's functions are handed. -/
noncomputable def DD (n : Nat) : V := .agg [.fn 36 [.ptr 1000 0, .ptr 1001 0], .fn 55 [.own 1003 n, .pin hdl]]
section
variable {dd : Option Nat} {s : St} {K : St → Prop} {r : List Int} {n : Nat} {d d' : List Nat}
theorem swap_u {x y : Int} (i j : Nat) (hx : x = i) (hy : y = j) (hn : d.length = n) (hi : i < d.length) (hj : j < d.length) (hd : swp d i j = d')
    (h0 : s.h 1000 = some (.box 48 [.own 1002 r.length])) (h1 : s.h 1001 = some (.box 22 [.own 1003 n])) (h2 : s.h 1002 = some (.arr 40 1 (urow r))) (h3 : s.h 1003 = some (.arr 3 1 (nrow d)))
    (hK : K ⟨setE dd (.tup []) s.e, hov (SO r n d') s.h⟩) : EStep Tryd.prog UT dd 55 [.int .i64 x, .int .i64 y, .own 1003 n, .pin hdl] s K := by
  subst hx hy hd
  exact so_use (swap_e r n d hn i j hi hj) (by simp [V.rens, V.ren, rni]) (by simp [V.nins, V.nin]) (by simp [V.nin, V.nins]) (by simp [V.ren, V.rens]) h0 h1 h2 h3 hK
theorem less_u {x y : Int} {b : Bool} (i j : Nat) (hx : x = i) (hy : y = j) (hn : d.length = n) (hd : ∀ k ∈ d, k < r.length) (hi : i < d.length) (hj : j < d.length) (hb : b = decide (fr r (d.getD j 0) < fr r (d.getD i 0)))
    (h0 : s.h 1000 = some (.box 48 [.own 1002 r.length])) (h1 : s.h 1001 = some (.box 22 [.own 1003 n])) (h2 : s.h 1002 = some (.arr 40 1 (urow r))) (h3 : s.h 1003 = some (.arr 3 1 (nrow d)))
    (hK : K ⟨setE dd (.bool b) s.e, hov (SO r n d) s.h⟩) : EStep Tryd.prog UT dd 36 [.int .i64 x, .int .i64 y, .ptr 1000 0, .ptr 1001 0] s K := by
  subst hx hy hb
  exact so_use (less_e r n d hn hd i j hi hj) (by simp [V.rens, V.ren, rni]) (by simp [V.nins, V.nin]) (by simp [V.nin]) (by simp [V.ren]) h0 h1 h2 h3 hK
end
theorem swp_split (P Q R : List Nat) (x y : Nat) {i j : Nat} (hi : i = P.length) (hj : j = P.length + 1 + Q.length) : swp (P ++ x :: (Q ++ y :: R)) i j = P ++ y :: (Q ++ x :: R) := by
  subst hi hj
  have g1 : (P ++ x :: (Q ++ y :: R)).getD P.length 0 = x := by simp [List.getD_eq_getElem?_getD]
  have g2 : (P ++ x :: (Q ++ y :: R)).getD (P.length + 1 + Q.length) 0 = y := by
    rw [List.getD_eq_getElem?_getD, List.getElem?_append_right (by omega), show P.length + 1 + Q.length - P.length = Q.length + 1 by omega, List.getElem?_cons_succ, List.getElem?_append_right (by omega), Nat.sub_self]
    rfl
  unfold swp
  rw [g1, g2, List.set_append_right _ _ (Nat.le_refl _), Nat.sub_self, List.set_cons_zero, List.set_append_right _ _ (by omega), show P.length + 1 + Q.length - P.length = Q.length + 1 by omega, List.set_cons_succ, List.set_append_right _ _ (by omega), Nat.sub_self, List.set_cons_zero]
theorem swapRange_e (r : List Int) (n : Nat) (A X M Y B : List Nat) (hXY : X.length = Y.length) (hn : (A ++ (X ++ (M ++ (Y ++ B)))).length = n) (hbig : n ≤ 1000000) {a b c : Int} (ha : a = A.length) (hb : b = (A.length + X.length + M.length : Nat)) (hc : c = X.length) :
    Eff Tryd.prog UT 72 [DD n, .int .i64 a, .int .i64 b, .int .i64 c] (SO r n (A ++ (X ++ (M ++ (Y ++ B))))) (.tup []) (SO r n (A ++ (Y ++ (M ++ (X ++ B))))) := by
  subst ha hb hc
  have hG := tNo_ok
  simp only [List.length_append] at hn
  refine Eff.of_aw Tryd.func72 body72 nm72 res72 (by rw [nt72]; simp) fun C hN Q hQ => ?_
  rw [nt72] at hN
  unfold c72
  refine aw_seq (aw_region (EF := EFs) hG (by rw [hN]; exact tr72_0) ?_)
  simp only [a72_0, go_sem, ↓reduceIte, Nat.reduceEqDiff, reduceCtorEq, Nat.reduceAdd, Nat.reduceLT, Nat.reduceLeDiff, Nat.reduceBNe, Nat.reduceBEq, Int.reduceToNat, EFs, tNo, SO, DD]
  refine aw_seq (aw_region (EF := EFs) hG (by rw [hN]; exact tr72_1) ?_)
  simp only [a72_1, go_sem, ↓reduceIte, Nat.reduceEqDiff, reduceCtorEq, Nat.reduceAdd, Nat.reduceLT, Nat.reduceLeDiff, Nat.reduceBNe, Nat.reduceBEq, Int.reduceToNat, EFs, tNo, SO, DD]
  refine aw_block ?_
  refine aw_loop (α := (List Nat) × (List Nat) × (List Nat) × (List Nat)) (fun γ => (X = γ.1 ++ γ.2.1) ∧ (Y = γ.2.2.1 ++ γ.2.2.2) ∧ (γ.1.length = γ.2.2.1.length)) (fun γ => ⟨mkE [(1, V.int IntKind.i64 ↑A.length), (2, V.int IntKind.i64 ↑(A.length + X.length + M.length)), (3, V.int IntKind.i64 ↑X.length), (4, V.ptr 4 0), (8, .int .i64 γ.1.length)], mkH [(4, Ob.box 67 [V.fn 36 [V.ptr 1000 0, V.ptr 1001 0], V.fn 55 [V.own 1003 n, V.pin hdl]]), (1000, Ob.box 48 [V.own 1002 r.length]), (1001, Ob.box 22 [V.own 1003 n]), (1002, Ob.arr 40 1 (urow r)), (1003, .arr 3 1 (nrow (A ++ (γ.2.2.1 ++ (γ.2.1 ++ (M ++ (γ.1 ++ (γ.2.2.2 ++ B))))))))]⟩) (fun γ => γ.2.1.length) ([], X, [], Y) ⟨rfl, rfl, rfl⟩ ?_ ?_
  · refine Le.mk _ _ ?_ ?_ rfl <;> simp only [go_sem, ↓reduceIte, Nat.reduceEqDiff, reduceCtorEq, Nat.reduceAdd, Nat.reduceLT, Nat.reduceLeDiff, Nat.reduceBNe, Nat.reduceBEq, Int.reduceToNat] <;> (repeat' apply And.intro) <;> (try first | rfl | exact wk_frzb rfl rfl rfl | exact wk_fn rfl | exact .nilo _ _ _ rfl rfl | exact wk_frzm rfl rfl (fun kv hk => by obtain ⟨_, _, rfl⟩ := List.mem_map.1 hk; rfl))
  · rintro ⟨X1, X2, Y1, Y2⟩ ⟨h1, h2, h3⟩ KL0 hKL0
    try dsimp only at *
    refine aw_seq ?_
    refine aw_seq (aw_region (EF := EFs) hG (by rw [hN]; exact tr72_2) ?_)
    simp only [a72_2, go_sem, ↓reduceIte, Nat.reduceEqDiff, reduceCtorEq, Nat.reduceAdd, Nat.reduceLT, Nat.reduceLeDiff, Nat.reduceBNe, Nat.reduceBEq, Int.reduceToNat, EFs, tNo, SO, DD]
    refine aw_cond (b := _) rfl (fun hc2 => ?_) (fun hc2 => ?_)
    · simp only [decide_eq_true_eq, decide_eq_false_iff_not, Bool.and_eq_true, Bool.or_eq_true, Bool.not_eq_true', Bool.not_eq_false', Bool.and_eq_false_iff, Bool.or_eq_false_iff, Int.ofNat_lt, Int.ofNat_le, Nat.not_lt, Nat.not_le, Int.not_lt, Int.not_le] at hc2
      refine aw_skip ?_
      try simp only [go_sem, ↓reduceIte, Nat.reduceEqDiff, reduceCtorEq, Nat.reduceAdd, Nat.reduceLT, Nat.reduceLeDiff, Nat.reduceBNe, Nat.reduceBEq, Int.reduceToNat]
      refine aw_seq ?_
      refine aw_block ?_
      obtain ⟨x, X2, rfl⟩ : ∃ x l, X2 = x :: l := List.exists_cons_of_length_pos (by rw [h1, List.length_append] at hc2; omega)
      obtain ⟨y, Y2, rfl⟩ : ∃ x l, Y2 = x :: l := List.exists_cons_of_length_pos (by have e1 := congrArg List.length h1; have e2 := congrArg List.length h2; rw [List.length_append] at e1 e2; simp only [List.length_cons] at e1; omega)
      have e1 := congrArg List.length h1
      have e2 := congrArg List.length h2
      simp only [List.length_append, List.length_cons] at e1 e2
      refine aw_region (EF := EFs) hG (by rw [hN]; exact tr72_4) ?_
      simp only [a72_4, go_sem, ↓reduceIte, Nat.reduceEqDiff, reduceCtorEq, Nat.reduceAdd, Nat.reduceLT, Nat.reduceLeDiff, Nat.reduceBNe, Nat.reduceBEq, Int.reduceToNat, inI, EFs, tNo, SO, DD]
      (repeat' apply And.intro) <;> (try first | omega | ((fail_if_success (refine (id : AW _ _ _ _ _ → AW _ _ _ _ _) ?_)); (fail_if_success (refine (id : EStep _ _ _ _ _ _ _ → EStep _ _ _ _ _ _ _) ?_)); intros; (repeat' apply And.intro) <;> first | assumption | omega | (simp_all; done)))
      refine swap_u (d' := A ++ ((Y1 ++ [y]) ++ (X2 ++ (M ++ ((X1 ++ [x]) ++ (Y2 ++ B)))))) (A.length + X1.length) (A.length + X.length + M.length + X1.length) (by simp) (by simp) ?_ ?_ ?_ ?_ rfl rfl rfl rfl ?_
      · simp only [List.length_append, List.length_cons]; omega
      · simp only [List.length_append, List.length_cons]; omega
      · simp only [List.length_append, List.length_cons]; omega
      · have := swp_split (A ++ Y1) (X2 ++ (M ++ X1)) (Y2 ++ B) x y (i := A.length + X1.length) (j := A.length + X.length + M.length + X1.length) (by simp only [List.length_append]; omega) (by simp only [List.length_append]; omega); simpa using this
      simp only [go_sem, ↓reduceIte, Nat.reduceEqDiff, reduceCtorEq, Nat.reduceAdd, Nat.reduceLT, Nat.reduceLeDiff, Nat.reduceBNe, Nat.reduceBEq, Int.reduceToNat, EFs, SO]
      refine aw_region (EF := EFs) hG (by rw [hN]; exact tr72_3) ?_
      simp only [a72_3, go_sem, ↓reduceIte, Nat.reduceEqDiff, reduceCtorEq, Nat.reduceAdd, Nat.reduceLT, Nat.reduceLeDiff, Nat.reduceBNe, Nat.reduceBEq, Int.reduceToNat, inI, EFs, tNo, SO, DD]
      (repeat' apply And.intro) <;> (try first | omega | ((fail_if_success (refine (id : AW _ _ _ _ _ → AW _ _ _ _ _) ?_)); (fail_if_success (refine (id : EStep _ _ _ _ _ _ _ → EStep _ _ _ _ _ _ _) ?_)); intros; (repeat' apply And.intro) <;> first | assumption | omega | (simp_all; done)))
      refine hKL0 (X1 ++ [x], X2, Y1 ++ [y], Y2) _ ?_ ?_ ?_
      · (try dsimp only); exact ⟨by rw [h1]; simp, by rw [h2]; simp, by simp [h3]⟩
      · (try dsimp only); simp
      · refine Le.mk _ _ ?_ ?_ rfl <;> simp only [go_sem, ↓reduceIte, Nat.reduceEqDiff, reduceCtorEq, Nat.reduceAdd, Nat.reduceLT, Nat.reduceLeDiff, Nat.reduceBNe, Nat.reduceBEq, Int.reduceToNat, List.length_append] <;> (repeat' apply And.intro) <;> (try first | rfl | exact wk_frzb rfl rfl rfl | exact wk_fn rfl | exact .nilo _ _ _ rfl rfl | exact wk_frzm rfl rfl (fun kv hk => by obtain ⟨_, _, rfl⟩ := List.mem_map.1 hk; rfl))
    · simp only [decide_eq_true_eq, decide_eq_false_iff_not, Bool.and_eq_true, Bool.or_eq_true, Bool.not_eq_true', Bool.not_eq_false', Bool.and_eq_false_iff, Bool.or_eq_false_iff, Int.ofNat_lt, Int.ofNat_le, Nat.not_lt, Nat.not_le, Int.not_lt, Int.not_le] at hc2
      have e1 := congrArg List.length h1
      have e2 := congrArg List.length h2
      simp only [List.length_append] at e1 e2
      obtain rfl : X2 = [] := List.eq_nil_of_length_eq_zero (by omega)
      obtain rfl : Y2 = [] := List.eq_nil_of_length_eq_zero (by omega)
      rw [List.append_nil] at h1 h2
      subst h1 h2
      refine aw_exit ?_
      simp only [go_sem, ↓reduceIte, Nat.reduceEqDiff, reduceCtorEq, Nat.reduceAdd, Nat.reduceLT, Nat.reduceLeDiff, Nat.reduceBNe, Nat.reduceBEq, Int.reduceToNat]
      show Q _ _
      refine hQ _ _ ⟨mkE [], mkH (SO r n (A ++ (Y ++ (M ++ (X ++ B)))))⟩ (.inr rfl) (Le.mk _ _ ?_ ?_ rfl) rfl ?_ ?_ <;> simp only [outφ, outV, AR.res, go_sem, ↓reduceIte, Nat.reduceEqDiff, reduceCtorEq, Nat.reduceAdd, Nat.reduceLT, Nat.reduceLeDiff, Nat.reduceBNe, Nat.reduceBEq, Int.reduceToNat, SO]
section
variable {dd : Option Nat} {s : St} {K : St → Prop} {r : List Int} {n : Nat} {d d' : List Nat}
/-- A function of the sort's, used under the same names. -/
theorem fn_u {f : Nat} {xs : List V} (he : Eff Tryd.prog UT f (DD n :: xs) (SO r n d) (.tup []) (SO r n d')) (hr : V.rens (rni [(1000, 1000), (1001, 1001), (1002, 1002), (1003, 1003)]) xs = xs) (hn : V.nins [1000, 1001, 1002, 1003] xs = true)
    (h0 : s.h 1000 = some (.box 48 [.own 1002 r.length])) (h1 : s.h 1001 = some (.box 22 [.own 1003 n])) (h2 : s.h 1002 = some (.arr 40 1 (urow r))) (h3 : s.h 1003 = some (.arr 3 1 (nrow d)))
    (hK : K ⟨setE dd (.tup []) s.e, hov (SO r n d') s.h⟩) : EStep Tryd.prog UT dd f (.agg [.fn 36 [.ptr 1000 0, .ptr 1001 0], .fn 55 [.own 1003 n, .pin hdl]] :: xs) s K := by
  refine so_use he ?_ ?_ (by simp [V.nin, V.nins]) (by simp [V.ren, V.rens]) h0 h1 h2 h3 hK
  · rw [V.rens, hr]; simp [V.rens, V.ren, rni]
  · simp [V.nins, V.nin, hn]
end
theorem rotate_e (r : List Int) (n : Nat) (A X Y B : List Nat) (hX : 0 < X.length) (hY : 0 < Y.length) (hn : (A ++ (X ++ (Y ++ B))).length = n) (hbig : n ≤ 1000000) {a m b : Int} (ha : a = A.length) (hm : m = (A.length + X.length : Nat)) (hb : b = (A.length + X.length + Y.length : Nat)) :
    Eff Tryd.prog UT 67 [DD n, .int .i64 a, .int .i64 m, .int .i64 b] (SO r n (A ++ (X ++ (Y ++ B)))) (.tup []) (SO r n (A ++ (Y ++ (X ++ B)))) := by
  subst ha hb hm
  have hG := tNo_ok
  have hn0 := hn
  simp only [List.length_append] at hn
  generalize hT : A ++ (Y ++ (X ++ B)) = T
  have hTl : T.length = n := by rw [← hT]; simp only [List.length_append]; omega
  generalize hmm : A.length + X.length = mm
  refine Eff.of_aw Tryd.func67 body67 nm67 res67 (by rw [nt67]; simp) fun C hN Q hQ => ?_
  rw [nt67] at hN
  unfold c67
  refine aw_seq (aw_region (EF := EFs) hG (by rw [hN]; exact tr67_0) ?_)
  simp only [a67_0, go_sem, ↓reduceIte, Nat.reduceEqDiff, reduceCtorEq, Nat.reduceAdd, Nat.reduceLT, Nat.reduceLeDiff, Nat.reduceBNe, Nat.reduceBEq, Int.reduceToNat, EFs, tNo, SO, DD]
  refine aw_seq (aw_region (EF := EFs) hG (by rw [hN]; exact tr67_1) ?_)
  simp only [a67_1, go_sem, ↓reduceIte, Nat.reduceEqDiff, reduceCtorEq, Nat.reduceAdd, Nat.reduceLT, Nat.reduceLeDiff, Nat.reduceBNe, Nat.reduceBEq, Int.reduceToNat, inI, EFs, tNo, SO, DD]
  (repeat' apply And.intro) <;> (try first | omega | ((fail_if_success (refine (id : AW _ _ _ _ _ → AW _ _ _ _ _) ?_)); (fail_if_success (refine (id : EStep _ _ _ _ _ _ _ → EStep _ _ _ _ _ _ _) ?_)); intros; (repeat' apply And.intro) <;> first | assumption | omega | (simp_all; done)))
  refine aw_seq (aw_region (EF := EFs) hG (by rw [hN]; exact tr67_2) ?_)
  simp only [a67_2, go_sem, ↓reduceIte, Nat.reduceEqDiff, reduceCtorEq, Nat.reduceAdd, Nat.reduceLT, Nat.reduceLeDiff, Nat.reduceBNe, Nat.reduceBEq, Int.reduceToNat, inI, EFs, tNo, SO, DD]
  (repeat' apply And.intro) <;> (try first | omega | ((fail_if_success (refine (id : AW _ _ _ _ _ → AW _ _ _ _ _) ?_)); (fail_if_success (refine (id : EStep _ _ _ _ _ _ _ → EStep _ _ _ _ _ _ _) ?_)); intros; (repeat' apply And.intro) <;> first | assumption | omega | (simp_all; done)))
  refine aw_seq ?_
  refine aw_block ?_
  refine aw_loop (α := (List Nat) × (List Nat) × (List Nat) × (List Nat)) (fun γ => (γ.1 ++ (γ.2.2.1 ++ (γ.2.1 ++ γ.2.2.2)) = T) ∧ (γ.1.length + γ.2.1.length = mm) ∧ (0 < γ.2.1.length) ∧ (0 < γ.2.2.1.length)) (fun γ => ⟨mkE [(2, V.int IntKind.i64 ↑mm), (4, V.ptr 4 0), (8, .int .i64 γ.2.1.length), (9, .int .i64 γ.2.2.1.length)], mkH [(4, Ob.box 67 [V.fn 36 [V.ptr 1000 0, V.ptr 1001 0], V.fn 55 [V.own 1003 n, V.pin hdl]]), (1000, Ob.box 48 [V.own 1002 r.length]), (1001, Ob.box 22 [V.own 1003 n]), (1002, Ob.arr 40 1 (urow r)), (1003, .arr 3 1 (nrow (γ.1 ++ (γ.2.1 ++ (γ.2.2.1 ++ γ.2.2.2)))))]⟩) (fun γ => γ.2.1.length + γ.2.2.1.length) (A, X, Y, B) ⟨hT, hmm, hX, hY⟩ ?_ ?_
  · refine Le.mk _ _ ?_ ?_ rfl <;> simp only [go_sem, ↓reduceIte, Nat.reduceEqDiff, reduceCtorEq, Nat.reduceAdd, Nat.reduceLT, Nat.reduceLeDiff, Nat.reduceBNe, Nat.reduceBEq, Int.reduceToNat] <;> (repeat' apply And.intro) <;> (try first | rfl | exact wk_frzb rfl rfl rfl | exact wk_fn rfl | exact .nilo _ _ _ rfl rfl | exact wk_frzm rfl rfl (fun kv hk => by obtain ⟨_, _, rfl⟩ := List.mem_map.1 hk; rfl))
    all_goals omega
  · rintro ⟨P, U, W, E⟩ ⟨h1, h2, h3, h4⟩ KL0 hKL0
    try dsimp only at *
    have hl := congrArg List.length h1
    simp only [List.length_append] at hl
    refine aw_seq ?_
    refine aw_seq (aw_region (EF := EFs) hG (by rw [hN]; exact tr67_3) ?_)
    simp only [a67_3, go_sem, ↓reduceIte, Nat.reduceEqDiff, reduceCtorEq, Nat.reduceAdd, Nat.reduceLT, Nat.reduceLeDiff, Nat.reduceBNe, Nat.reduceBEq, Int.reduceToNat, EFs, tNo, SO, DD]
    refine aw_cond (b := _) rfl (fun hb3 => ?_) (fun hb3 => ?_)
    · skip
      have hne : U.length ≠ W.length := fun e => by rw [e] at hb3; simp at hb3
      refine aw_skip ?_
      try simp only [go_sem, ↓reduceIte, Nat.reduceEqDiff, reduceCtorEq, Nat.reduceAdd, Nat.reduceLT, Nat.reduceLeDiff, Nat.reduceBNe, Nat.reduceBEq, Int.reduceToNat]
      refine aw_block ?_
      refine aw_seq (aw_region (EF := EFs) hG (by rw [hN]; exact tr67_4) ?_)
      simp only [a67_4, go_sem, ↓reduceIte, Nat.reduceEqDiff, reduceCtorEq, Nat.reduceAdd, Nat.reduceLT, Nat.reduceLeDiff, Nat.reduceBNe, Nat.reduceBEq, Int.reduceToNat, EFs, tNo, SO, DD]
      refine aw_cond (b := _) rfl (fun hc4 => ?_) (fun hc4 => ?_)
      · simp only [decide_eq_true_eq, decide_eq_false_iff_not, Bool.and_eq_true, Bool.or_eq_true, Bool.not_eq_true', Bool.not_eq_false', Bool.and_eq_false_iff, Bool.or_eq_false_iff, Int.ofNat_lt, Int.ofNat_le, Nat.not_lt, Nat.not_le, Int.not_lt, Int.not_le] at hc4
        obtain ⟨U1, U2, rfl, hU⟩ : ∃ U1 U2, U = U1 ++ U2 ∧ U1.length = W.length := ⟨U.take W.length, U.drop W.length, (List.take_append_drop _ _).symm, by rw [List.length_take]; omega⟩
        simp only [List.length_append] at hl h2 h3 hc4 hne
        refine aw_seq (aw_region (EF := EFs) hG (by rw [hN]; exact tr67_5) ?_)
        simp only [a67_5, go_sem, ↓reduceIte, Nat.reduceEqDiff, reduceCtorEq, Nat.reduceAdd, Nat.reduceLT, Nat.reduceLeDiff, Nat.reduceBNe, Nat.reduceBEq, Int.reduceToNat, inI, List.length_append, EFs, tNo, SO, DD]
        (repeat' apply And.intro) <;> (try first | omega | ((fail_if_success (refine (id : AW _ _ _ _ _ → AW _ _ _ _ _) ?_)); (fail_if_success (refine (id : EStep _ _ _ _ _ _ _ → EStep _ _ _ _ _ _ _) ?_)); intros; (repeat' apply And.intro) <;> first | assumption | omega | (simp_all; done)))
        refine fn_u (swapRange_e r n P U1 U2 W E (by omega) (by simp only [List.length_append]; omega) hbig (by omega) (by omega) (by omega)) (by simp [V.rens, V.ren]) (by simp [V.nins, V.nin]) rfl rfl rfl ?_ ?_
        · simp only [List.append_assoc]; rfl
        simp only [go_sem, ↓reduceIte, Nat.reduceEqDiff, reduceCtorEq, Nat.reduceAdd, Nat.reduceLT, Nat.reduceLeDiff, Nat.reduceBNe, Nat.reduceBEq, Int.reduceToNat, EFs, SO]
        refine aw_region (EF := EFs) hG (by rw [hN]; exact tr67_6) ?_
        simp only [a67_6, go_sem, ↓reduceIte, Nat.reduceEqDiff, reduceCtorEq, Nat.reduceAdd, Nat.reduceLT, Nat.reduceLeDiff, Nat.reduceBNe, Nat.reduceBEq, Int.reduceToNat, inI, EFs, tNo, SO, DD]
        (repeat' apply And.intro) <;> (try first | omega | ((fail_if_success (refine (id : AW _ _ _ _ _ → AW _ _ _ _ _) ?_)); (fail_if_success (refine (id : EStep _ _ _ _ _ _ _ → EStep _ _ _ _ _ _ _) ?_)); intros; (repeat' apply And.intro) <;> first | assumption | omega | (simp_all; done)))
        refine hKL0 (P ++ W, U2, U1, E) _ ?_ ?_ ?_
        · (try dsimp only); exact ⟨by rw [← h1]; simp, by simp only [List.length_append]; omega, by omega, by omega⟩
        · (try dsimp only); simp only [List.length_append]; omega
        · refine Le.mk _ _ ?_ ?_ rfl <;> simp only [go_sem, ↓reduceIte, Nat.reduceEqDiff, reduceCtorEq, Nat.reduceAdd, Nat.reduceLT, Nat.reduceLeDiff, Nat.reduceBNe, Nat.reduceBEq, Int.reduceToNat, List.length_append, List.append_assoc] <;> (repeat' apply And.intro) <;> (try first | rfl | exact wk_frzb rfl rfl rfl | exact wk_fn rfl | exact .nilo _ _ _ rfl rfl | exact wk_frzm rfl rfl (fun kv hk => by obtain ⟨_, _, rfl⟩ := List.mem_map.1 hk; rfl))
          all_goals (try omega)
      · simp only [decide_eq_true_eq, decide_eq_false_iff_not, Bool.and_eq_true, Bool.or_eq_true, Bool.not_eq_true', Bool.not_eq_false', Bool.and_eq_false_iff, Bool.or_eq_false_iff, Int.ofNat_lt, Int.ofNat_le, Nat.not_lt, Nat.not_le, Int.not_lt, Int.not_le] at hc4
        obtain ⟨W1, W2, rfl, hU⟩ : ∃ U1 U2, W = U1 ++ U2 ∧ U2.length = U.length := ⟨W.take (W.length - U.length), W.drop (W.length - U.length), (List.take_append_drop _ _).symm, by rw [List.length_drop]; omega⟩
        simp only [List.length_append] at hl h2 h3 hc4 hne
        refine aw_seq (aw_region (EF := EFs) hG (by rw [hN]; exact tr67_7) ?_)
        simp only [a67_7, go_sem, ↓reduceIte, Nat.reduceEqDiff, reduceCtorEq, Nat.reduceAdd, Nat.reduceLT, Nat.reduceLeDiff, Nat.reduceBNe, Nat.reduceBEq, Int.reduceToNat, inI, List.length_append, EFs, tNo, SO, DD]
        (repeat' apply And.intro) <;> (try first | omega | ((fail_if_success (refine (id : AW _ _ _ _ _ → AW _ _ _ _ _) ?_)); (fail_if_success (refine (id : EStep _ _ _ _ _ _ _ → EStep _ _ _ _ _ _ _) ?_)); intros; (repeat' apply And.intro) <;> first | assumption | omega | (simp_all; done)))
        refine fn_u (swapRange_e r n P U W1 W2 E (by omega) (by simp only [List.length_append]; omega) hbig (by omega) (by omega) (by omega)) (by simp [V.rens, V.ren]) (by simp [V.nins, V.nin]) rfl rfl rfl ?_ ?_
        · simp only [List.append_assoc]; rfl
        simp only [go_sem, ↓reduceIte, Nat.reduceEqDiff, reduceCtorEq, Nat.reduceAdd, Nat.reduceLT, Nat.reduceLeDiff, Nat.reduceBNe, Nat.reduceBEq, Int.reduceToNat, EFs, SO]
        refine aw_region (EF := EFs) hG (by rw [hN]; exact tr67_8) ?_
        simp only [a67_8, go_sem, ↓reduceIte, Nat.reduceEqDiff, reduceCtorEq, Nat.reduceAdd, Nat.reduceLT, Nat.reduceLeDiff, Nat.reduceBNe, Nat.reduceBEq, Int.reduceToNat, inI, EFs, tNo, SO, DD]
        (repeat' apply And.intro) <;> (try first | omega | ((fail_if_success (refine (id : AW _ _ _ _ _ → AW _ _ _ _ _) ?_)); (fail_if_success (refine (id : EStep _ _ _ _ _ _ _ → EStep _ _ _ _ _ _ _) ?_)); intros; (repeat' apply And.intro) <;> first | assumption | omega | (simp_all; done)))
        refine hKL0 (P, W2, W1, U ++ E) _ ?_ ?_ ?_
        · (try dsimp only); exact ⟨by rw [← h1]; simp, by omega, by omega, by omega⟩
        · (try dsimp only); simp only [List.length_append]; omega
        · refine Le.mk _ _ ?_ ?_ rfl <;> simp only [go_sem, ↓reduceIte, Nat.reduceEqDiff, reduceCtorEq, Nat.reduceAdd, Nat.reduceLT, Nat.reduceLeDiff, Nat.reduceBNe, Nat.reduceBEq, Int.reduceToNat, List.length_append, List.append_assoc] <;> (repeat' apply And.intro) <;> (try first | rfl | exact wk_frzb rfl rfl rfl | exact wk_fn rfl | exact .nilo _ _ _ rfl rfl | exact wk_frzm rfl rfl (fun kv hk => by obtain ⟨_, _, rfl⟩ := List.mem_map.1 hk; rfl))
          all_goals (try omega)
    · skip
      have heq0 : (U.length : Int) = W.length := by simpa using hb3
      have heq : U.length = W.length := by omega
      refine aw_exit ?_
      simp only [go_sem, ↓reduceIte, Nat.reduceEqDiff, reduceCtorEq, Nat.reduceAdd, Nat.reduceLT, Nat.reduceLeDiff, Nat.reduceBNe, Nat.reduceBEq, Int.reduceToNat]
      refine aw_region (EF := EFs) hG (by rw [hN]; exact tr67_9) ?_
      simp only [a67_9, go_sem, ↓reduceIte, Nat.reduceEqDiff, reduceCtorEq, Nat.reduceAdd, Nat.reduceLT, Nat.reduceLeDiff, Nat.reduceBNe, Nat.reduceBEq, Int.reduceToNat, inI, EFs, tNo, SO, DD]
      (repeat' apply And.intro) <;> (try first | omega | ((fail_if_success (refine (id : AW _ _ _ _ _ → AW _ _ _ _ _) ?_)); (fail_if_success (refine (id : EStep _ _ _ _ _ _ _ → EStep _ _ _ _ _ _ _) ?_)); intros; (repeat' apply And.intro) <;> first | assumption | omega | (simp_all; done)))
      refine fn_u (swapRange_e r n P U [] W E heq (by simp only [List.length_append, List.length_nil]; omega) hbig (by omega) (by rw [List.length_nil]; omega) (by omega)) (by simp [V.rens, V.ren]) (by simp [V.nins, V.nin]) rfl rfl rfl ?_ ?_
      · simp only [List.nil_append]; rfl
      simp only [go_sem, ↓reduceIte, Nat.reduceEqDiff, reduceCtorEq, Nat.reduceAdd, Nat.reduceLT, Nat.reduceLeDiff, Nat.reduceBNe, Nat.reduceBEq, Int.reduceToNat, EFs, SO]
      show Q _ _
      refine hQ _ _ ⟨mkE [], mkH (SO r n T)⟩ (.inr rfl) (Le.mk _ _ ?_ ?_ rfl) rfl ?_ ?_ <;> simp only [outφ, outV, AR.res, go_sem, ↓reduceIte, Nat.reduceEqDiff, reduceCtorEq, Nat.reduceAdd, Nat.reduceLT, Nat.reduceLeDiff, Nat.reduceBNe, Nat.reduceBEq, Int.reduceToNat, SO, h1, List.nil_append]
end Go.Proofs.YtdjeodopibaebaaDoor
