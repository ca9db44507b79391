/- Sorting by insertion. -/
import Derived.Test.YtdjeodopibaebaaDoorSo4
namespace Go.Proofs.YtdjeodopibaebaaDoor
open Go Go.RowKit
set_option linter.unusedSimpArgs false
set_option linter.unusedVariables false
set_option linter.deprecated false
section
variable {f : Nat → Int}
theorem msT_perm_eq {a b : List Nat} (h : a.Perm b) (hn : b.Nodup) : msT f a = msT f b :=
  msT_eq (msT_sort hn) ((msT_perm b).trans h.symm)
theorem ins_done {S1 S2 L1 : List Nat} {x : Nat} (hs : S1 ++ S2 = msT f L1) (hL : (L1 ++ [x]).Nodup) (h1 : ∀ y ∈ S1, Tb f y x) (h2 : ∀ y ∈ S2, Tb f x y) : msT f (L1 ++ [x]) = S1 ++ x :: S2 := by
  have hn1 : L1.Nodup := (List.nodup_append.1 hL).1
  have hv : SortT f (S1 ++ S2) := by rw [hs]; exact msT_sort hn1
  rw [← msT_one2 hv h1 h2, hs]
  exact (msT_perm_eq ((msT_perm L1).append_right [x]) hL).symm
theorem cur_perm {A S1 S2 L1 R B L : List Nat} {x : Nat} (hs : S1 ++ S2 = msT f L1) (hL : L = L1 ++ x :: R) : (A ++ (S1 ++ x :: (S2 ++ (R ++ B)))).Perm (A ++ (L ++ B)) := by
  subst hL
  refine List.Perm.append_left A ?_
  have h1 : (S1 ++ x :: S2).Perm (L1 ++ [x]) := by
    refine (List.perm_middle).trans ?_
    rw [hs]
    exact ((msT_perm L1).cons x).trans (List.perm_append_singleton x L1).symm
  have := h1.append_right (R ++ B)
  simpa using this
end
theorem swp_next (P R : List Nat) (x y : Nat) {i : Nat} (hi : i = P.length) : swp (P ++ x :: y :: R) (i + 1) i = P ++ y :: x :: R := by
  subst hi
  have g1 : (P ++ x :: y :: R).getD P.length 0 = x := by simp [List.getD_eq_getElem?_getD]
  have g2 : (P ++ x :: y :: R).getD (P.length + 1) 0 = y := by
    rw [List.getD_eq_getElem?_getD, List.getElem?_append_right (by omega), show P.length + 1 - P.length = 1 by omega]; rfl
  unfold swp
  rw [g1, g2, List.set_append_right _ _ (by omega), show P.length + 1 - P.length = 1 by omega, List.set_cons_succ, List.set_cons_zero, List.set_append_right _ _ (Nat.le_refl _), Nat.sub_self, List.set_cons_zero]
theorem ins_e (r : List Int) (n : Nat) (A B L : List Nat) (h0 : 0 < L.length) (hinc : L.Pairwise (· < ·)) (hm : ∀ k ∈ A ++ (L ++ B), k < r.length) (hn : (A ++ (L ++ B)).length = n) (hbig : n ≤ 1000000) {a b : Int} (ha : a = A.length) (hb : b = (A.length + L.length : Nat)) :
    Eff Tryd.prog UT 60 [DD n, .int .i64 a, .int .i64 b] (SO r n (A ++ (L ++ B))) (.tup []) (SO r n (A ++ (msT (fr r) L ++ B))) := by
  subst ha hb
  have hG := tNo_ok
  have hn0 := hn
  simp only [List.length_append] at hn
  have hnd : L.Nodup := hinc.imp fun h e => by omega
  obtain ⟨x0, L0, rfl⟩ := List.exists_cons_of_length_pos h0
  generalize hLL : x0 :: L0 = L at *
  refine Eff.of_aw Tryd.func60 body60 nm60 res60 (by rw [nt60]; simp) fun C hN Q hQ => ?_
  rw [nt60] at hN
  unfold c60
  refine aw_seq (aw_region (EF := EFs) hG (by rw [hN]; exact tr60_0) ?_)
  simp only [a60_0, go_sem, ↓reduceIte, Nat.reduceEqDiff, reduceCtorEq, Nat.reduceAdd, Nat.reduceLT, Nat.reduceLeDiff, Nat.reduceBNe, Nat.reduceBEq, Int.reduceToNat, EFs, tNo, SO, DD]
  refine aw_seq (aw_region (EF := EFs) hG (by rw [hN]; exact tr60_1) ?_)
  simp only [a60_1, go_sem, ↓reduceIte, Nat.reduceEqDiff, reduceCtorEq, Nat.reduceAdd, Nat.reduceLT, Nat.reduceLeDiff, Nat.reduceBNe, Nat.reduceBEq, Int.reduceToNat, inI, EFs, tNo, SO, DD]
  (repeat' apply And.intro) <;> (try first | omega | ((fail_if_success (refine (id : AW _ _ _ _ _ → AW _ _ _ _ _) ?_)); (fail_if_success (refine (id : EStep _ _ _ _ _ _ _ → EStep _ _ _ _ _ _ _) ?_)); intros; (repeat' apply And.intro) <;> first | assumption | omega | (simp_all; done)))
  refine aw_block ?_
  refine aw_loop (α := (List Nat) × (List Nat)) (fun γ => (L = γ.1 ++ γ.2) ∧ (0 < γ.1.length)) (fun γ => ⟨mkE [(1, V.int IntKind.i64 ↑A.length), (2, V.int IntKind.i64 ↑(A.length + L.length)), (3, V.ptr 3 0), (6, .int .i64 (A.length + γ.1.length : Nat))], mkH [(3, Ob.box 67 [V.fn 36 [V.ptr 1000 0, V.ptr 1001 0], V.fn 55 [V.own 1003 n, V.pin hdl]]), (1000, Ob.box 48 [V.own 1002 r.length]), (1001, Ob.box 22 [V.own 1003 n]), (1002, Ob.arr 40 1 (urow r)), (1003, .arr 3 1 (nrow (A ++ (msT (fr r) γ.1 ++ (γ.2 ++ B)))))]⟩) (fun γ => γ.2.length) ([x0], L0) ⟨by rw [← hLL]; rfl, by simp⟩ ?_ ?_
  · refine Le.mk _ _ ?_ ?_ rfl <;> simp only [go_sem, ↓reduceIte, Nat.reduceEqDiff, reduceCtorEq, Nat.reduceAdd, Nat.reduceLT, Nat.reduceLeDiff, Nat.reduceBNe, Nat.reduceBEq, Int.reduceToNat, msT, insT] <;> (repeat' apply And.intro) <;> (try first | rfl | exact wk_frzb rfl rfl rfl | exact wk_fn rfl | exact .nilo _ _ _ rfl rfl | exact wk_frzm rfl rfl (fun kv hk => by obtain ⟨_, _, rfl⟩ := List.mem_map.1 hk; rfl))
    rw [← hLL]; rfl
  · rintro ⟨L1, R⟩ ⟨h1, h2⟩ KL0 hKL0
    try dsimp only at *
    refine aw_seq ?_
    refine aw_seq (aw_region (EF := EFs) hG (by rw [hN]; exact tr60_2) ?_)
    simp only [a60_2, go_sem, ↓reduceIte, Nat.reduceEqDiff, reduceCtorEq, Nat.reduceAdd, Nat.reduceLT, Nat.reduceLeDiff, Nat.reduceBNe, Nat.reduceBEq, Int.reduceToNat, EFs, tNo, SO, DD]
    refine aw_cond (b := _) rfl (fun hc2 => ?_) (fun hc2 => ?_)
    · simp only [decide_eq_true_eq, decide_eq_false_iff_not, Bool.and_eq_true, Bool.or_eq_true, Bool.not_eq_true', Bool.not_eq_false', Bool.and_eq_false_iff, Bool.or_eq_false_iff, Int.ofNat_lt, Int.ofNat_le, Nat.not_lt, Nat.not_le, Int.not_lt, Int.not_le] at hc2
      refine aw_skip ?_
      try simp only [go_sem, ↓reduceIte, Nat.reduceEqDiff, reduceCtorEq, Nat.reduceAdd, Nat.reduceLT, Nat.reduceLeDiff, Nat.reduceBNe, Nat.reduceBEq, Int.reduceToNat]
      refine aw_seq ?_
      refine aw_block ?_
      obtain ⟨x, R, rfl⟩ : ∃ x l, R = x :: l := List.exists_cons_of_length_pos (by have := congrArg List.length h1; rw [List.length_append] at this; omega)
      have hl := congrArg List.length h1
      simp only [List.length_append, List.length_cons] at hl
      have hlm : (msT (fr r) L1).length = L1.length := msT_len L1
      have hxy : ∀ y ∈ L1, y < x := fun y hy => by rw [h1] at hinc; exact (List.pairwise_append.1 hinc).2.2 y hy x (List.mem_cons_self ..)
      have hnx : (L1 ++ [x]).Nodup := by rw [h1, show L1 ++ x :: R = (L1 ++ [x]) ++ R by simp] at hnd; exact (List.nodup_append.1 hnd).1
      refine aw_seq (aw_region (EF := EFs) hG (by rw [hN]; exact tr60_4) ?_)
      simp only [a60_4, go_sem, ↓reduceIte, Nat.reduceEqDiff, reduceCtorEq, Nat.reduceAdd, Nat.reduceLT, Nat.reduceLeDiff, Nat.reduceBNe, Nat.reduceBEq, Int.reduceToNat, EFs, tNo, SO, DD]
      refine aw_block ?_
      refine aw_loop (α := (List Nat) × (List Nat)) (fun γ => (γ.1 ++ γ.2 = msT (fr r) L1) ∧ (∀ y ∈ γ.2, Tb (fr r) x y)) (fun γ => ⟨mkE [(1, V.int IntKind.i64 ↑A.length), (2, V.int IntKind.i64 ↑(A.length + L.length)), (3, V.ptr 3 0), (6, V.int IntKind.i64 ↑(A.length + L1.length)), (7, .int .i64 (A.length + γ.1.length : Nat))], mkH [(3, Ob.box 67 [V.fn 36 [V.ptr 1000 0, V.ptr 1001 0], V.fn 55 [V.own 1003 n, V.pin hdl]]), (1000, Ob.box 48 [V.own 1002 r.length]), (1001, Ob.box 22 [V.own 1003 n]), (1002, Ob.arr 40 1 (urow r)), (1003, .arr 3 1 (nrow (A ++ (γ.1 ++ x :: (γ.2 ++ (R ++ B))))))]⟩) (fun γ => γ.1.length) (msT (fr r) L1, []) ⟨List.append_nil _, fun _ h => (by cases h)⟩ ?_ ?_
      · refine Le.mk _ _ ?_ ?_ rfl <;> simp only [go_sem, ↓reduceIte, Nat.reduceEqDiff, reduceCtorEq, Nat.reduceAdd, Nat.reduceLT, Nat.reduceLeDiff, Nat.reduceBNe, Nat.reduceBEq, Int.reduceToNat, hlm] <;> (repeat' apply And.intro) <;> (try first | rfl | exact wk_frzb rfl rfl rfl | exact wk_fn rfl | exact .nilo _ _ _ rfl rfl | exact wk_frzm rfl rfl (fun kv hk => by obtain ⟨_, _, rfl⟩ := List.mem_map.1 hk; rfl))
      · rintro ⟨S1, S2⟩ ⟨g1, g2⟩ KL2 hKL2
        try dsimp only at *
        have gl := congrArg List.length g1
        rw [List.length_append, hlm] at gl
        have hgt : ((A.length : Int) < ((A.length + S1.length : Nat) : Int)) = (0 < S1.length) := propext ⟨fun h => by omega, fun h => by omega⟩
        refine aw_seq ?_
        by_cases hS : 0 < S1.length
        · skip
          obtain ⟨S1, y, rfl⟩ : ∃ l y, S1 = l ++ [y] := ⟨S1.dropLast, S1.getLast (List.ne_nil_of_length_pos hS), (List.dropLast_concat_getLast _).symm⟩
          have hyL : y ∈ L1 := (msT_perm L1).mem_iff.1 (by rw [← g1]; simp)
          have hcp := cur_perm (A := A) (B := B) g1 h1
          have hSl : (S1 ++ [y]).length = S1.length + 1 := by simp
          simp only [List.length_append, List.length_cons, List.length_nil] at gl
          refine aw_seq (aw_region (EF := EFs) hG (by rw [hN]; exact tr60_5) ?_)
          simp only [a60_5, go_sem, ↓reduceIte, Nat.reduceEqDiff, reduceCtorEq, Nat.reduceAdd, Nat.reduceLT, Nat.reduceLeDiff, Nat.reduceBNe, Nat.reduceBEq, Int.reduceToNat, inI, EFs, tNo, SO, DD, hgt, hS, decide_true]
          (repeat' apply And.intro) <;> (try first | omega | ((fail_if_success (refine (id : AW _ _ _ _ _ → AW _ _ _ _ _) ?_)); (fail_if_success (refine (id : EStep _ _ _ _ _ _ _ → EStep _ _ _ _ _ _ _) ?_)); intros; (repeat' apply And.intro) <;> first | assumption | omega | (simp_all; done)))
          refine less_u (d := A ++ ((S1 ++ [y]) ++ x :: (S2 ++ (R ++ B)))) (b := decide (fr r y < fr r x)) (A.length + S1.length + 1) (A.length + S1.length) ?_ ?_ ?_ (fun k hk => hm k (hcp.mem_iff.1 hk)) ?_ ?_ ?_ rfl rfl rfl ?_ ?_
          iterate 5 (· simp only [List.length_append, List.length_cons, List.length_nil]; omega)
          · rw [show A ++ ((S1 ++ [y]) ++ x :: (S2 ++ (R ++ B))) = (A ++ S1) ++ y :: x :: (S2 ++ (R ++ B)) by simp]; simp only [List.getD_eq_getElem?_getD]; rw [List.getElem?_append_right (by simp), List.getElem?_append_right (by simp only [List.length_append]; omega)]; simp [Nat.add_sub_cancel_left, List.length_append]
          · rfl
          simp only [go_sem, ↓reduceIte, Nat.reduceEqDiff, reduceCtorEq, Nat.reduceAdd, Nat.reduceLT, Nat.reduceLeDiff, Nat.reduceBNe, Nat.reduceBEq, Int.reduceToNat, EFs, SO]
          refine aw_cond (b := _) rfl (fun hb5 => ?_) (fun hb5 => ?_)
          · skip
            refine aw_skip ?_
            try simp only [go_sem, ↓reduceIte, Nat.reduceEqDiff, reduceCtorEq, Nat.reduceAdd, Nat.reduceLT, Nat.reduceLeDiff, Nat.reduceBNe, Nat.reduceBEq, Int.reduceToNat]
            refine aw_seq ?_
            refine aw_block ?_
            have hlt2 : fr r y < fr r x := by simpa using hb5
            have hty : Tb (fr r) x y := (Tb.of_lt (hxy y hyL)).1.1 hlt2
            refine aw_region (EF := EFs) hG (by rw [hN]; exact tr60_7) ?_
            simp only [a60_7, go_sem, ↓reduceIte, Nat.reduceEqDiff, reduceCtorEq, Nat.reduceAdd, Nat.reduceLT, Nat.reduceLeDiff, Nat.reduceBNe, Nat.reduceBEq, Int.reduceToNat, inI, EFs, tNo, SO, DD]
            (repeat' apply And.intro) <;> (try first | omega | ((fail_if_success (refine (id : AW _ _ _ _ _ → AW _ _ _ _ _) ?_)); (fail_if_success (refine (id : EStep _ _ _ _ _ _ _ → EStep _ _ _ _ _ _ _) ?_)); intros; (repeat' apply And.intro) <;> first | assumption | omega | (simp_all; done)))
            refine swap_u (d := A ++ ((S1 ++ [y]) ++ x :: (S2 ++ (R ++ B)))) (d' := A ++ (S1 ++ x :: ((y :: S2) ++ (R ++ B)))) (A.length + S1.length + 1) (A.length + S1.length) ?_ ?_ ?_ ?_ ?_ ?_ rfl rfl rfl ?_ ?_
            iterate 5 (· simp only [List.length_append, List.length_cons, List.length_nil]; omega)
            · have := swp_next (A ++ S1) (S2 ++ (R ++ B)) y x (i := A.length + S1.length) (by simp); simpa using this
            · simp only [List.append_assoc, List.singleton_append, List.cons_append, List.nil_append]; rfl
            simp only [go_sem, ↓reduceIte, Nat.reduceEqDiff, reduceCtorEq, Nat.reduceAdd, Nat.reduceLT, Nat.reduceLeDiff, Nat.reduceBNe, Nat.reduceBEq, Int.reduceToNat, EFs, SO]
            refine aw_region (EF := EFs) hG (by rw [hN]; exact tr60_6) ?_
            simp only [a60_6, go_sem, ↓reduceIte, Nat.reduceEqDiff, reduceCtorEq, Nat.reduceAdd, Nat.reduceLT, Nat.reduceLeDiff, Nat.reduceBNe, Nat.reduceBEq, Int.reduceToNat, inI, EFs, tNo, SO, DD]
            (repeat' apply And.intro) <;> (try first | omega | ((fail_if_success (refine (id : AW _ _ _ _ _ → AW _ _ _ _ _) ?_)); (fail_if_success (refine (id : EStep _ _ _ _ _ _ _ → EStep _ _ _ _ _ _ _) ?_)); intros; (repeat' apply And.intro) <;> first | assumption | omega | (simp_all; done)))
            refine hKL2 (S1, y :: S2) _ ?_ ?_ ?_
            · (try dsimp only); exact ⟨by rw [← g1]; simp, fun z hz => by rcases List.mem_cons.1 hz with rfl | hz; exact hty; exact g2 z hz⟩
            · (try dsimp only); simp only [List.length_append, List.length_cons, List.length_nil]; omega
            · refine Le.mk _ _ ?_ ?_ rfl <;> simp only [go_sem, ↓reduceIte, Nat.reduceEqDiff, reduceCtorEq, Nat.reduceAdd, Nat.reduceLT, Nat.reduceLeDiff, Nat.reduceBNe, Nat.reduceBEq, Int.reduceToNat, List.cons_append] <;> (repeat' apply And.intro) <;> (try first | rfl | exact wk_frzb rfl rfl rfl | exact wk_fn rfl | exact .nilo _ _ _ rfl rfl | exact wk_frzm rfl rfl (fun kv hk => by obtain ⟨_, _, rfl⟩ := List.mem_map.1 hk; rfl))
              all_goals (try (simp only [List.length_append, List.length_cons, List.length_nil]; omega))
          · skip
            have hlt2 : ¬ fr r y < fr r x := by simpa using hb5
            have hty : Tb (fr r) y x := (Tb.of_lt (hxy y hyL)).2.1 hlt2
            have hsrt : SortT (fr r) ((S1 ++ [y]) ++ S2) := by rw [g1]; exact msT_sort ((List.nodup_append.1 hnx).1)
            have hdone := ins_done g1 hnx (fun z hz => by rcases List.mem_append.1 hz with hz | hz; exact (hsrt.parts.1.parts.2.2 z hz y (by simp)).tr hty; rw [List.mem_singleton.1 hz]; exact hty) g2
            refine aw_exit ?_
            simp only [go_sem, ↓reduceIte, Nat.reduceEqDiff, reduceCtorEq, Nat.reduceAdd, Nat.reduceLT, Nat.reduceLeDiff, Nat.reduceBNe, Nat.reduceBEq, Int.reduceToNat]
            refine aw_region (EF := EFs) hG (by rw [hN]; exact tr60_3) ?_
            simp only [a60_3, go_sem, ↓reduceIte, Nat.reduceEqDiff, reduceCtorEq, Nat.reduceAdd, Nat.reduceLT, Nat.reduceLeDiff, Nat.reduceBNe, Nat.reduceBEq, Int.reduceToNat, inI, EFs, tNo, SO, DD]
            (repeat' apply And.intro) <;> (try first | omega | ((fail_if_success (refine (id : AW _ _ _ _ _ → AW _ _ _ _ _) ?_)); (fail_if_success (refine (id : EStep _ _ _ _ _ _ _ → EStep _ _ _ _ _ _ _) ?_)); intros; (repeat' apply And.intro) <;> first | assumption | omega | (simp_all; done)))
            refine hKL0 (L1 ++ [x], R) _ ?_ ?_ ?_
            · (try dsimp only); exact ⟨by rw [h1]; simp, by simp⟩
            · (try dsimp only); simp only [List.length_cons]; omega
            · refine Le.mk _ _ ?_ ?_ rfl <;> simp only [go_sem, ↓reduceIte, Nat.reduceEqDiff, reduceCtorEq, Nat.reduceAdd, Nat.reduceLT, Nat.reduceLeDiff, Nat.reduceBNe, Nat.reduceBEq, Int.reduceToNat, List.length_append, List.length_cons, List.length_nil, hdone, List.append_assoc, List.cons_append, List.nil_append] <;> (repeat' apply And.intro) <;> (try first | rfl | exact wk_frzb rfl rfl rfl | exact wk_fn rfl | exact .nilo _ _ _ rfl rfl | exact wk_frzm rfl rfl (fun kv hk => by obtain ⟨_, _, rfl⟩ := List.mem_map.1 hk; rfl))
              all_goals (try omega)
        · skip
          have hdone := ins_done g1 hnx (fun z hz => absurd (List.length_pos_of_mem hz) hS) g2
          refine aw_seq (aw_region (EF := EFs) hG (by rw [hN]; exact tr60_5) ?_)
          simp only [a60_5, go_sem, ↓reduceIte, Nat.reduceEqDiff, reduceCtorEq, Nat.reduceAdd, Nat.reduceLT, Nat.reduceLeDiff, Nat.reduceBNe, Nat.reduceBEq, Int.reduceToNat, inI, EFs, tNo, SO, DD, hgt, hS, decide_false]
          (repeat' apply And.intro) <;> (try first | omega | ((fail_if_success (refine (id : AW _ _ _ _ _ → AW _ _ _ _ _) ?_)); (fail_if_success (refine (id : EStep _ _ _ _ _ _ _ → EStep _ _ _ _ _ _ _) ?_)); intros; (repeat' apply And.intro) <;> first | assumption | omega | (simp_all; done)))
          refine aw_condF rfl ?_
          refine aw_exit ?_
          simp only [go_sem, ↓reduceIte, Nat.reduceEqDiff, reduceCtorEq, Nat.reduceAdd, Nat.reduceLT, Nat.reduceLeDiff, Nat.reduceBNe, Nat.reduceBEq, Int.reduceToNat]
          refine aw_region (EF := EFs) hG (by rw [hN]; exact tr60_3) ?_
          simp only [a60_3, go_sem, ↓reduceIte, Nat.reduceEqDiff, reduceCtorEq, Nat.reduceAdd, Nat.reduceLT, Nat.reduceLeDiff, Nat.reduceBNe, Nat.reduceBEq, Int.reduceToNat, inI, EFs, tNo, SO, DD]
          (repeat' apply And.intro) <;> (try first | omega | ((fail_if_success (refine (id : AW _ _ _ _ _ → AW _ _ _ _ _) ?_)); (fail_if_success (refine (id : EStep _ _ _ _ _ _ _ → EStep _ _ _ _ _ _ _) ?_)); intros; (repeat' apply And.intro) <;> first | assumption | omega | (simp_all; done)))
          refine hKL0 (L1 ++ [x], R) _ ?_ ?_ ?_
          · (try dsimp only); exact ⟨by rw [h1]; simp, by simp⟩
          · (try dsimp only); simp only [List.length_cons]; omega
          · refine Le.mk _ _ ?_ ?_ rfl <;> simp only [go_sem, ↓reduceIte, Nat.reduceEqDiff, reduceCtorEq, Nat.reduceAdd, Nat.reduceLT, Nat.reduceLeDiff, Nat.reduceBNe, Nat.reduceBEq, Int.reduceToNat, List.length_append, List.length_cons, List.length_nil, hdone, List.append_assoc, List.cons_append, List.nil_append] <;> (repeat' apply And.intro) <;> (try first | rfl | exact wk_frzb rfl rfl rfl | exact wk_fn rfl | exact .nilo _ _ _ rfl rfl | exact wk_frzm rfl rfl (fun kv hk => by obtain ⟨_, _, rfl⟩ := List.mem_map.1 hk; rfl))
            all_goals (try omega)
    · simp only [decide_eq_true_eq, decide_eq_false_iff_not, Bool.and_eq_true, Bool.or_eq_true, Bool.not_eq_true', Bool.not_eq_false', Bool.and_eq_false_iff, Bool.or_eq_false_iff, Int.ofNat_lt, Int.ofNat_le, Nat.not_lt, Nat.not_le, Int.not_lt, Int.not_le] at hc2
      have hl := congrArg List.length h1
      rw [List.length_append] at hl
      obtain rfl : R = [] := List.eq_nil_of_length_eq_zero (by omega)
      rw [List.append_nil] at h1
      subst h1
      refine aw_exit ?_
      simp only [go_sem, ↓reduceIte, Nat.reduceEqDiff, reduceCtorEq, Nat.reduceAdd, Nat.reduceLT, Nat.reduceLeDiff, Nat.reduceBNe, Nat.reduceBEq, Int.reduceToNat]
      show Q _ _
      refine hQ _ _ ⟨mkE [], mkH (SO r n (A ++ (msT (fr r) L ++ B)))⟩ (.inr rfl) (Le.mk _ _ ?_ ?_ rfl) rfl ?_ ?_ <;> simp only [outφ, outV, AR.res, go_sem, ↓reduceIte, Nat.reduceEqDiff, reduceCtorEq, Nat.reduceAdd, Nat.reduceLT, Nat.reduceLeDiff, Nat.reduceBNe, Nat.reduceBEq, Int.reduceToNat, SO, List.nil_append]
end Go.Proofs.YtdjeodopibaebaaDoor
