/- Transfers of the program: the walk. -/
import Derived.Test.YtkdkjbneohdofaaDoorSe5
namespace Go.Proofs.YtkdkjbneohdofaaDoor
open Go Go.RowKit
set_option linter.unusedSimpArgs false
set_option linter.unusedVariables false
set_option linter.deprecated false
theorem sumT_step {l : List Post} {i : Nat} (h : i < l.length) : sumT (l.take (i + 1)) = sumT (l.take i) + l[i].amount := by
  unfold sumT
  rw [take_succ' h, List.map_append, List.sum_append]; simp
theorem sumT_bd {l : List Post} (h : ∀ x ∈ l, outB x.amount = false) : ∀ i, i ≤ l.length → -((i : Int) * 1099511627776) ≤ sumT (l.take i) ∧ sumT (l.take i) ≤ (i : Int) * 1099511627776
  | 0, _ => by simp [sumT]
  | i + 1, hi => by
    have := sumT_bd h i (by omega)
    have hb := out_bd (h _ (List.getElem_mem (by omega : i < l.length)))
    rw [sumT_step (by omega)]
    omega
theorem acc_snoc {l : List Post} {i : Nat} (h : i < l.length) : (l.take (i + 1)).map (·.account) = (l.take i).map (·.account) ++ [l[i].account] := by rw [take_succ' h, List.map_append]; rfl
theorem nodup_take {l : List Post} (i : Nat) (h : (l.map (·.account)).Nodup) : ((l.take i).map (·.account)).Nodup := by rw [List.map_take]; exact h.sublist (List.take_sublist _ _)
theorem nodup_no {l : List Post} {i : Nat} (h : i < l.length) (hm : l[i].account ∈ (l.take i).map (·.account)) : ¬ (l.map (·.account)).Nodup := fun hn => by
  have := nodup_take (i + 1) hn
  rw [acc_snoc h, List.nodup_append] at this
  exact this.2.2 _ hm _ (List.mem_singleton.2 rfl) rfl
theorem nodup_yes {l : List Post} {i : Nat} (h : i < l.length) (hn : ((l.take i).map (·.account)).Nodup) (hm : l[i].account ∉ (l.take i).map (·.account)) : ((l.take (i + 1)).map (·.account)).Nodup := by
  rw [acc_snoc h, List.nodup_append]
  exact ⟨hn, by simp, fun a ha b hb e => hm (by rw [List.mem_singleton.1 hb] at e; rw [← e]; exact ha)⟩
theorem step_no1 {rest : List Post} (h : ∀ x ∈ rest, 0 ≤ x.amount) : stepT rest = none := by
  unfold stepT
  rw [List.findIdx?_eq_none_iff.2 fun x hx => by have := h x hx; exact decide_eq_false (by omega)]
theorem step_no2 {rest : List Post} (h : ∀ x ∈ rest, x.amount ≤ 0) : stepT rest = none := by
  unfold stepT
  have h2 : rest.findIdx? posB = none := List.findIdx?_eq_none_iff.2 fun x hx => by have := h x hx; exact decide_eq_false (by omega)
  rw [h2]
  split
  · rename_i h; cases h
  · rfl
theorem take_allP {l : List Post} {P : Post → Prop} {i : Nat} (h : i < l.length) (hp : ∀ x ∈ l.take i, P x) (hx : P l[i]) : ∀ x ∈ l.take (i + 1), P x := by
  intro x hxm
  rw [take_succ' h] at hxm
  rcases List.mem_append.1 hxm with hm | hm
  · exact hp x hm
  · rw [List.mem_singleton.1 hm]; exact hx
theorem due_snoc (L : List Due) (a b : List UInt8) (n : Int) : L.map Due.enc ++ [[V.str a, V.str b, V.int .i64 n]] = (L ++ [(⟨a, b, n⟩ : Due)]).map Due.enc := by rw [List.map_append]; rfl
def trV (y : List Due × Int) : V := .tup [.list (y.1.map Due.enc) false, .int .i64 y.2]
def fTr (l : List Post) : Prop × V := (l.length ≤ 1000, trV (trP l))
def fTr1 (l : List Post) : Prop × V := (l ≠ [] ∧ l.length ≤ 1000, trV (trP l))
def fTr0 (l : List Post) : Prop × V := (l = [], trV (trP l))
theorem fTr_eq (l : List Post) : gOf aPosts fTr [.list (l.map Post.enc) false] = (l.length ≤ 1000, trV (trP l)) := gOf_eq aPosts_inj l
def EFc : Nat → Bool := fun f => f == 19
noncomputable def tTr : Tab
  | 17 => (gOf aCF fCF)
  | _ => gNo
theorem tTr_ok : ∀ f, PureC Tryd.prog UT f (tTr f) := fun f => by
  unfold tTr
  split
  · exact containsF_p
  · exact PureC.no
set_option maxHeartbeats 8000000 in
theorem trans1_p : PureC Tryd.prog UT 8 (gOf aPosts fTr1) := by
  have hG := tTr_ok
  refine PureC.ofArgs aPosts_inj Tryd.func8 body8 nm8 res8 ?_
  rintro l hv
  refine ⟨by rw [nt8]; simp [aPosts], fun C hN Q hQ => ?_⟩
  rw [nt8] at hN
  unfold c8
  obtain ⟨hne, hl⟩ : l ≠ [] ∧ l.length ≤ 1000 := hv
  have hlb : l.length ≤ 140737488355328 := by omega
  have hs0 : smap ([] : List (List UInt8)) = [] := rfl
  have hz0 : sumT [] = 0 := rfl
  refine aw_seq (aw_region (EF := EFc) hG (by rw [hN]; exact tr8_0) ?_)
  simp only [a8_0, go_sem, ↓reduceIte, Nat.reduceEqDiff, reduceCtorEq, Nat.reduceAdd, Nat.reduceLT, Nat.reduceLeDiff, Nat.reduceBNe, Nat.reduceBEq, Int.reduceToNat, aPosts, EFc, tTr, fCF_eq]
  refine aw_seq ?_
  refine aw_seq (aw_region (EF := EFc) hG (by rw [hN]; exact tr8_1) ?_)
  simp only [a8_1, go_sem, ↓reduceIte, Nat.reduceEqDiff, reduceCtorEq, Nat.reduceAdd, Nat.reduceLT, Nat.reduceLeDiff, Nat.reduceBNe, Nat.reduceBEq, Int.reduceToNat, hlb, EFc, tTr, fCF_eq]
  (repeat' apply And.intro) <;> (try first | omega | ((fail_if_success refine idW ?_); (fail_if_success refine idS ?_); intros; (repeat' apply And.intro) <;> first | assumption | omega | (simp_all; done)))
  refine aw_cond (b := _) rfl (fun hb1 => ?_) (fun hb1 => ?_)
  · skip
    refine aw_seq (aw_region (EF := EFc) hG (by rw [hN]; exact tr8_2) ?_)
    simp only [a8_2, go_sem, ↓reduceIte, Nat.reduceEqDiff, reduceCtorEq, Nat.reduceAdd, Nat.reduceLT, Nat.reduceLeDiff, Nat.reduceBNe, Nat.reduceBEq, Int.reduceToNat, EFc, tTr, fCF_eq]
    refine AW.le (s' := ⟨mkE [(2, .list [] false), (3, .int .i64 11)], mkH []⟩) (Le.mk _ _ ?_ ?_ rfl) (aw_ret (hQ _ _ (.inl rfl) ?_ ?_ ?_)) <;> simp only [outφ, outV, AR.res, go_sem, ↓reduceIte, Nat.reduceEqDiff, reduceCtorEq, Nat.reduceAdd, Nat.reduceLT, Nat.reduceLeDiff, Nat.reduceBNe, Nat.reduceBEq, Int.reduceToNat, fTr1, trV]
    · rw [trP, if_pos (show (l.any fun x => outB x.amount) = true from hb1)]; rfl
  · skip
    have hno : ∀ x ∈ l, outB x.amount = false := fun x hx => by have := List.any_eq_false.1 hb1 x hx; exact Bool.eq_false_iff.2 this
    have hany : ¬ ((l.any fun x => outB x.amount) = true) := by rw [show (l.any fun x => outB x.amount) = false from hb1]; decide
    refine aw_skip ?_
    try simp only [go_sem, ↓reduceIte, Nat.reduceEqDiff, reduceCtorEq, Nat.reduceAdd, Nat.reduceLT, Nat.reduceLeDiff, Nat.reduceBNe, Nat.reduceBEq, Int.reduceToNat]
    refine aw_seq (aw_region (EF := EFc) hG (by rw [hN]; exact tr8_3) ?_)
    simp only [a8_3, go_sem, ↓reduceIte, Nat.reduceEqDiff, reduceCtorEq, Nat.reduceAdd, Nat.reduceLT, Nat.reduceLeDiff, Nat.reduceBNe, Nat.reduceBEq, Int.reduceToNat, EFc, tTr, fCF_eq]
    refine aw_seq (aw_region (EF := EFc) hG (by rw [hN]; exact tr8_4) ?_)
    simp only [a8_4, go_sem, ↓reduceIte, Nat.reduceEqDiff, reduceCtorEq, Nat.reduceAdd, Nat.reduceLT, Nat.reduceLeDiff, Nat.reduceBNe, Nat.reduceBEq, Int.reduceToNat, EFc, tTr, fCF_eq]
    refine aw_seq ?_
    refine aw_seq (aw_region (EF := EFc) hG (by rw [hN]; exact tr8_5) ?_)
    simp only [a8_5, go_sem, ↓reduceIte, Nat.reduceEqDiff, reduceCtorEq, Nat.reduceAdd, Nat.reduceLT, Nat.reduceLeDiff, Nat.reduceBNe, Nat.reduceBEq, Int.reduceToNat, EFc, tTr, fCF_eq]
    refine aw_block ?_
    refine aw_loop (α := Nat) (fun i => (i ≤ l.length) ∧ (((l.take i).map (·.account)).Nodup)) (fun i => ⟨mkE [(0, V.list (List.map Post.enc l) false), (4, V.map 15), (5, .int .i64 (sumT (l.take i))), (16, V.list (List.map Post.enc l) false), (17, V.int IntKind.i64 ↑l.length), (18, .int .i64 i)], mkH [(15, .mp (smap ((l.take i).map (·.account))))]⟩) (fun i => l.length - i) 0 ⟨Nat.zero_le _, by simp⟩ ?_ ?_
    · refine Le.mk _ _ ?_ ?_ rfl <;> simp only [go_sem, ↓reduceIte, Nat.reduceEqDiff, reduceCtorEq, Nat.reduceAdd, Nat.reduceLT, Nat.reduceLeDiff, Nat.reduceBNe, Nat.reduceBEq, Int.reduceToNat, hs0, hz0] <;> (repeat' apply And.intro) <;> (try first | rfl | exact wk_frzb rfl rfl rfl | exact wk_fn rfl | exact .nilo _ _ _ rfl rfl | exact wk_frzm rfl rfl (fun kv hk => by obtain ⟨_, _, rfl⟩ := List.mem_map.1 hk; rfl))
    · rintro i ⟨hi, hnd⟩ KL0 hKL0
      try dsimp only at *
      refine aw_seq (aw_region (EF := EFc) hG (by rw [hN]; exact tr8_6) ?_)
      simp only [a8_6, go_sem, ↓reduceIte, Nat.reduceEqDiff, reduceCtorEq, Nat.reduceAdd, Nat.reduceLT, Nat.reduceLeDiff, Nat.reduceBNe, Nat.reduceBEq, Int.reduceToNat, EFc, tTr, fCF_eq]
      refine aw_seq ?_
      refine aw_cond (b := _) rfl (fun hc6 => ?_) (fun hc6 => ?_)
      · simp only [decide_eq_true_eq, decide_eq_false_iff_not, Bool.and_eq_true, Bool.or_eq_true, Bool.not_eq_true', Bool.not_eq_false', Bool.and_eq_false_iff, Bool.or_eq_false_iff, Int.ofNat_lt, Int.ofNat_le, Nat.not_lt, Nat.not_le, Int.not_lt, Int.not_le] at hc6
        refine aw_skip ?_
        try simp only [go_sem, ↓reduceIte, Nat.reduceEqDiff, reduceCtorEq, Nat.reduceAdd, Nat.reduceLT, Nat.reduceLeDiff, Nat.reduceBNe, Nat.reduceBEq, Int.reduceToNat]
        refine aw_seq ?_
        refine aw_block ?_
        have hst := sumT_step hc6
        have hbd := sumT_bd hno i hi
        have hxb := out_bd (hno _ (List.getElem_mem hc6))
        have has := acc_snoc hc6
        have hny := nodup_yes hc6 hnd
        have hnn := nodup_no (l := l) hc6
        generalize sumT (l.take i) = sm at hst hbd
        generalize hxx : l[i] = x at hst hxb has hny hnn
        obtain ⟨a, n⟩ := x
        dsimp only at hst hxb has hny hnn
        refine aw_seq (aw_region (EF := EFc) hG (by rw [hN]; exact tr8_7) ?_)
        simp only [a8_7, go_sem, ↓reduceIte, Nat.reduceEqDiff, reduceCtorEq, Nat.reduceAdd, Nat.reduceLT, Nat.reduceLeDiff, Nat.reduceBNe, Nat.reduceBEq, Int.reduceToNat, getD_mapd _ _ _ _ hc6, hc6, hxx, Post.enc, EFc, tTr, fCF_eq]
        (repeat' apply And.intro) <;> (try first | omega | ((fail_if_success refine idW ?_); (fail_if_success refine idS ?_); intros; (repeat' apply And.intro) <;> first | assumption | omega | (simp_all; done)))
        refine aw_seq ?_
        refine aw_seq (aw_region (EF := EFc) hG (by rw [hN]; exact tr8_8) ?_)
        simp only [a8_8, go_sem, ↓reduceIte, Nat.reduceEqDiff, reduceCtorEq, Nat.reduceAdd, Nat.reduceLT, Nat.reduceLeDiff, Nat.reduceBNe, Nat.reduceBEq, Int.reduceToNat, smap_get, smap_keyT, EFc, tTr, fCF_eq]
        (repeat' apply And.intro) <;> (try first | omega | ((fail_if_success refine idW ?_); (fail_if_success refine idS ?_); intros; (repeat' apply And.intro) <;> first | assumption | omega | (simp_all; done)))
        refine aw_cond (b := _) rfl (fun hb8 => ?_) (fun hb8 => ?_)
        · skip
          refine aw_seq (aw_region (EF := EFc) hG (by rw [hN]; exact tr8_9) ?_)
          simp only [a8_9, go_sem, ↓reduceIte, Nat.reduceEqDiff, reduceCtorEq, Nat.reduceAdd, Nat.reduceLT, Nat.reduceLeDiff, Nat.reduceBNe, Nat.reduceBEq, Int.reduceToNat, EFc, tTr, fCF_eq]
          refine AW.le (s' := ⟨mkE [(2, .list [] false), (3, .int .i64 6)], mkH []⟩) (Le.mk _ _ ?_ ?_ rfl) (aw_ret (hQ _ _ (.inl rfl) ?_ ?_ ?_)) <;> simp only [outφ, outV, AR.res, go_sem, ↓reduceIte, Nat.reduceEqDiff, reduceCtorEq, Nat.reduceAdd, Nat.reduceLT, Nat.reduceLeDiff, Nat.reduceBNe, Nat.reduceBEq, Int.reduceToNat, fTr1, trV]
          · rw [trP, if_neg hany, if_neg (hnn (of_decide_eq_true hb8))]; rfl
        · skip
          refine aw_skip ?_
          try simp only [go_sem, ↓reduceIte, Nat.reduceEqDiff, reduceCtorEq, Nat.reduceAdd, Nat.reduceLT, Nat.reduceLeDiff, Nat.reduceBNe, Nat.reduceBEq, Int.reduceToNat]
          refine aw_seq (aw_region (EF := EFc) hG (by rw [hN]; exact tr8_10) ?_)
          simp only [a8_10, go_sem, ↓reduceIte, Nat.reduceEqDiff, reduceCtorEq, Nat.reduceAdd, Nat.reduceLT, Nat.reduceLeDiff, Nat.reduceBNe, Nat.reduceBEq, Int.reduceToNat, smap_snoc, smap_keyT, EFc, tTr, fCF_eq]
          (repeat' apply And.intro) <;> (try first | omega | ((fail_if_success refine idW ?_); (fail_if_success refine idS ?_); intros; (repeat' apply And.intro) <;> first | assumption | omega | (simp_all; done)))
          refine aw_region (EF := EFc) hG (by rw [hN]; exact tr8_11) ?_
          simp only [a8_11, go_sem, ↓reduceIte, Nat.reduceEqDiff, reduceCtorEq, Nat.reduceAdd, Nat.reduceLT, Nat.reduceLeDiff, Nat.reduceBNe, Nat.reduceBEq, Int.reduceToNat, inI, EFc, tTr, fCF_eq]
          (repeat' apply And.intro) <;> (try first | omega | ((fail_if_success refine idW ?_); (fail_if_success refine idS ?_); intros; (repeat' apply And.intro) <;> first | assumption | omega | (simp_all; done)))
          refine aw_region (EF := EFc) hG (by rw [hN]; exact tr8_12) ?_
          simp only [a8_12, go_sem, ↓reduceIte, Nat.reduceEqDiff, reduceCtorEq, Nat.reduceAdd, Nat.reduceLT, Nat.reduceLeDiff, Nat.reduceBNe, Nat.reduceBEq, Int.reduceToNat, inI, EFc, tTr, fCF_eq]
          (repeat' apply And.intro) <;> (try first | omega | ((fail_if_success refine idW ?_); (fail_if_success refine idS ?_); intros; (repeat' apply And.intro) <;> first | assumption | omega | (simp_all; done)))
          refine hKL0 (i + 1) _ ?_ ?_ ?_
          · (try dsimp only); exact ⟨hc6, hny (of_decide_eq_false hb8)⟩
          · (try dsimp only); omega
          · refine Le.mk _ _ ?_ ?_ rfl <;> simp only [go_sem, ↓reduceIte, Nat.reduceEqDiff, reduceCtorEq, Nat.reduceAdd, Nat.reduceLT, Nat.reduceLeDiff, Nat.reduceBNe, Nat.reduceBEq, Int.reduceToNat, hst, has] <;> (repeat' apply And.intro) <;> (try first | rfl | exact wk_frzb rfl rfl rfl | exact wk_fn rfl | exact .nilo _ _ _ rfl rfl | exact wk_frzm rfl rfl (fun kv hk => by obtain ⟨_, _, rfl⟩ := List.mem_map.1 hk; rfl))
      · simp only [decide_eq_true_eq, decide_eq_false_iff_not, Bool.and_eq_true, Bool.or_eq_true, Bool.not_eq_true', Bool.not_eq_false', Bool.and_eq_false_iff, Bool.or_eq_false_iff, Int.ofNat_lt, Int.ofNat_le, Nat.not_lt, Nat.not_le, Int.not_lt, Int.not_le] at hc6
        refine aw_exit ?_
        simp only [go_sem, ↓reduceIte, Nat.reduceEqDiff, reduceCtorEq, Nat.reduceAdd, Nat.reduceLT, Nat.reduceLeDiff, Nat.reduceBNe, Nat.reduceBEq, Int.reduceToNat]
        refine aw_seq ?_
        have hie : i = l.length := Nat.le_antisymm hi hc6
        subst hie
        rw [List.take_length] at hnd
        refine aw_seq (aw_region (EF := EFc) hG (by rw [hN]; exact tr8_13) ?_)
        simp only [a8_13, go_sem, ↓reduceIte, Nat.reduceEqDiff, reduceCtorEq, Nat.reduceAdd, Nat.reduceLT, Nat.reduceLeDiff, Nat.reduceBNe, Nat.reduceBEq, Int.reduceToNat, List.take_length, EFc, tTr, fCF_eq]
        refine aw_cond (b := _) rfl (fun hb13 => ?_) (fun hb13 => ?_)
        · skip
          refine aw_seq (aw_region (EF := EFc) hG (by rw [hN]; exact tr8_14) ?_)
          simp only [a8_14, go_sem, ↓reduceIte, Nat.reduceEqDiff, reduceCtorEq, Nat.reduceAdd, Nat.reduceLT, Nat.reduceLeDiff, Nat.reduceBNe, Nat.reduceBEq, Int.reduceToNat, EFc, tTr, fCF_eq]
          refine AW.le (s' := ⟨mkE [(2, .list [] false), (3, .int .i64 36)], mkH []⟩) (Le.mk _ _ ?_ ?_ rfl) (aw_ret (hQ _ _ (.inl rfl) ?_ ?_ ?_)) <;> simp only [outφ, outV, AR.res, go_sem, ↓reduceIte, Nat.reduceEqDiff, reduceCtorEq, Nat.reduceAdd, Nat.reduceLT, Nat.reduceLeDiff, Nat.reduceBNe, Nat.reduceBEq, Int.reduceToNat, fTr1, trV]
          · rw [trP, if_neg hany, if_pos hnd, if_neg (by simpa using hb13)]; rfl
        · skip
          have htr : trP l = (runT l.length l [], 0) := by rw [trP, if_neg hany, if_pos hnd, if_pos (by simpa using hb13)]
          refine aw_skip ?_
          try simp only [go_sem, ↓reduceIte, Nat.reduceEqDiff, reduceCtorEq, Nat.reduceAdd, Nat.reduceLT, Nat.reduceLeDiff, Nat.reduceBNe, Nat.reduceBEq, Int.reduceToNat]
          refine aw_seq (aw_region (EF := EFc) hG (by rw [hN]; exact tr8_15) ?_)
          simp only [a8_15, go_sem, ↓reduceIte, Nat.reduceEqDiff, reduceCtorEq, Nat.reduceAdd, Nat.reduceLT, Nat.reduceLeDiff, Nat.reduceBNe, Nat.reduceBEq, Int.reduceToNat, EFc, tTr, fCF_eq]
          refine clone_use 37 hne (by omega) rfl (by decide) ?_
          simp only [go_sem, ↓reduceIte, Nat.reduceEqDiff, reduceCtorEq, Nat.reduceAdd, Nat.reduceLT, Nat.reduceLeDiff, Nat.reduceBNe, Nat.reduceBEq, Int.reduceToNat]
          refine aw_seq (aw_region (EF := EFc) hG (by rw [hN]; exact tr8_16) ?_)
          simp only [a8_16, go_sem, ↓reduceIte, Nat.reduceEqDiff, reduceCtorEq, Nat.reduceAdd, Nat.reduceLT, Nat.reduceLeDiff, Nat.reduceBNe, Nat.reduceBEq, Int.reduceToNat, EFc, tTr, fCF_eq]
          refine aw_seq (aw_region (EF := EFc) hG (by rw [hN]; exact tr8_17) ?_)
          simp only [a8_17, go_sem, ↓reduceIte, Nat.reduceEqDiff, reduceCtorEq, Nat.reduceAdd, Nat.reduceLT, Nat.reduceLeDiff, Nat.reduceBNe, Nat.reduceBEq, Int.reduceToNat, EFc, tTr, fCF_eq]
          refine AW.le (s' := ⟨mkE [(8, .own 37 l.length), (9, .own 999 0), (10, .int .i64 0), (11, .int .i64 0)], mkH ([(37, .arr 64 2 (l.map Post.enc)), (999, .arr 49 3 (([] : List Due).map Due.enc))])⟩) (Le.mk _ _ (by (simp only [go_sem, ↓reduceIte, Nat.reduceEqDiff, reduceCtorEq, Nat.reduceAdd, Nat.reduceLT, Nat.reduceLeDiff, Nat.reduceBNe, Nat.reduceBEq, Int.reduceToNat, Post.purs]) <;> (repeat' apply And.intro) <;> (try first | exact wk_frzb rfl rfl rfl | rfl | exact wk_fn rfl | exact .nill _ | exact .nilo _ _ _ rfl rfl | exact wk_frz rfl (by simp only [ints_len, nats_len]) rfl (ints_pur _) | exact wk_frzm rfl rfl (fun kv hk => by obtain ⟨_, _, rfl⟩ := List.mem_map.1 hk; rfl))) (by (simp only [go_sem, ↓reduceIte, Nat.reduceEqDiff, reduceCtorEq, Nat.reduceAdd, Nat.reduceLT, Nat.reduceLeDiff, Nat.reduceBNe, Nat.reduceBEq, Int.reduceToNat, Post.purs]) <;> (repeat' apply And.intro) <;> (try first | exact wk_frzb rfl rfl rfl | rfl | exact wk_fn rfl | exact .nill _ | exact .nilo _ _ _ rfl rfl | exact wk_frz rfl (by simp only [ints_len, nats_len]) rfl (ints_pur _) | exact wk_frzm rfl rfl (fun kv hk => by obtain ⟨_, _, rfl⟩ := List.mem_map.1 hk; rfl))) rfl) ?_
          refine aw_block ?_
          refine aw_loop (α := (List Post) × (List Due) × Nat × Nat) (fun γ => (TInv l γ.1 γ.2.1) ∧ (γ.2.2.1 ≤ l.length) ∧ (γ.2.2.2 ≤ l.length) ∧ (∀ x ∈ γ.1.take γ.2.2.1, 0 ≤ x.amount) ∧ (∀ x ∈ γ.1.take γ.2.2.2, x.amount ≤ 0)) (fun γ => ⟨mkE [(8, V.own 37 l.length), (9, .own 999 γ.2.1.length), (10, .int .i64 γ.2.2.1), (11, .int .i64 γ.2.2.2)], mkH [(37, .arr 64 2 (γ.1.map Post.enc)), (999, .arr 49 3 (γ.2.1.map Due.enc))]⟩) (fun γ => nz γ.1) (l, [], 0, 0) ⟨TInv.start hno, Nat.zero_le _, Nat.zero_le _, fun x hx => by simp at hx, fun x hx => by simp at hx⟩ ?_ ?_
          · refine Le.mk _ _ ?_ ?_ rfl <;> simp only [go_sem, ↓reduceIte, Nat.reduceEqDiff, reduceCtorEq, Nat.reduceAdd, Nat.reduceLT, Nat.reduceLeDiff, Nat.reduceBNe, Nat.reduceBEq, Int.reduceToNat, Post.purs] <;> (repeat' apply And.intro) <;> (try first | rfl | exact wk_frzb rfl rfl rfl | exact wk_fn rfl | exact .nilo _ _ _ rfl rfl | exact wk_frzm rfl rfl (fun kv hk => by obtain ⟨_, _, rfl⟩ := List.mem_map.1 hk; rfl))
          · rintro ⟨rest, out, i, k⟩ ⟨hT, hi, hk, hneg, hpos⟩ KL2 hKL2
            try dsimp only at *
            have hlen := hT.len
            refine aw_block ?_
            refine aw_cut (α := Nat) (fun i2 => (i2 ≤ l.length) ∧ (∀ x ∈ rest.take i2, 0 ≤ x.amount) ∧ (∀ h : i2 < rest.length, rest[i2].amount < 0)) (fun i2 => ⟨mkE [(8, V.own 37 l.length), (9, V.own 999 out.length), (10, .int .i64 i2), (11, V.int IntKind.i64 ↑k)], mkH [(37, Ob.arr 64 2 (List.map Post.enc rest)), (999, Ob.arr 49 3 (List.map Due.enc out))]⟩) ?_ ?_
            · intro KCb4 hKCb4
              refine aw_block ?_
              refine aw_loop (α := Nat) (fun i3 => (i3 ≤ l.length) ∧ (∀ x ∈ rest.take i3, 0 ≤ x.amount)) (fun i3 => ⟨mkE [(8, V.own 37 l.length), (9, V.own 999 out.length), (10, .int .i64 i3), (11, V.int IntKind.i64 ↑k)], mkH [(37, Ob.arr 64 2 (List.map Post.enc rest)), (999, Ob.arr 49 3 (List.map Due.enc out))]⟩) (fun i3 => l.length - i3) i ⟨hi, hneg⟩ ?_ ?_
              · refine Le.mk _ _ ?_ ?_ rfl <;> simp only [go_sem, ↓reduceIte, Nat.reduceEqDiff, reduceCtorEq, Nat.reduceAdd, Nat.reduceLT, Nat.reduceLeDiff, Nat.reduceBNe, Nat.reduceBEq, Int.reduceToNat] <;> (repeat' apply And.intro) <;> (try first | rfl | exact wk_frzb rfl rfl rfl | exact wk_fn rfl | exact .nilo _ _ _ rfl rfl | exact wk_frzm rfl rfl (fun kv hk => by obtain ⟨_, _, rfl⟩ := List.mem_map.1 hk; rfl))
              · rintro i3 ⟨hi3, hneg3⟩ KL4 hKL4
                try dsimp only at *
                refine aw_seq ?_
                by_cases hlt : i3 < rest.length
                · skip
                  generalize hxx : rest[i3] = x
                  obtain ⟨a, n⟩ := x
                  have hlt2 : i3 < l.length := by omega
                  refine aw_seq (aw_region (EF := EFc) hG (by rw [hN]; exact tr8_18) ?_)
                  simp only [a8_18, go_sem, ↓reduceIte, Nat.reduceEqDiff, reduceCtorEq, Nat.reduceAdd, Nat.reduceLT, Nat.reduceLeDiff, Nat.reduceBNe, Nat.reduceBEq, Int.reduceToNat, List.length_map, hlen, EFc, tTr, fCF_eq, getD_mapd _ _ _ _ hlt, hlt2, hxx, Post.enc]
                  (repeat' apply And.intro) <;> (try first | omega | ((fail_if_success refine idW ?_); (fail_if_success refine idS ?_); intros; (repeat' apply And.intro) <;> first | assumption | omega | (simp_all; done)))
                  refine aw_cond (b := _) rfl (fun hb18 => ?_) (fun hb18 => ?_)
                  · skip
                    refine aw_skip ?_
                    try simp only [go_sem, ↓reduceIte, Nat.reduceEqDiff, reduceCtorEq, Nat.reduceAdd, Nat.reduceLT, Nat.reduceLeDiff, Nat.reduceBNe, Nat.reduceBEq, Int.reduceToNat]
                    refine aw_block ?_
                    refine aw_region (EF := EFc) hG (by rw [hN]; exact tr8_19) ?_
                    simp only [a8_19, go_sem, ↓reduceIte, Nat.reduceEqDiff, reduceCtorEq, Nat.reduceAdd, Nat.reduceLT, Nat.reduceLeDiff, Nat.reduceBNe, Nat.reduceBEq, Int.reduceToNat, inI, EFc, tTr, fCF_eq]
                    (repeat' apply And.intro) <;> (try first | omega | ((fail_if_success refine idW ?_); (fail_if_success refine idS ?_); intros; (repeat' apply And.intro) <;> first | assumption | omega | (simp_all; done)))
                    refine hKL4 (i3 + 1) _ ?_ ?_ ?_
                    · (try dsimp only); exact ⟨by omega, take_allP hlt hneg3 (by rw [hxx]; exact of_decide_eq_true hb18)⟩
                    · (try dsimp only); omega
                    · refine Le.mk _ _ ?_ ?_ rfl <;> simp only [go_sem, ↓reduceIte, Nat.reduceEqDiff, reduceCtorEq, Nat.reduceAdd, Nat.reduceLT, Nat.reduceLeDiff, Nat.reduceBNe, Nat.reduceBEq, Int.reduceToNat] <;> (repeat' apply And.intro) <;> (try first | rfl | exact wk_frzb rfl rfl rfl | exact wk_fn rfl | exact .nilo _ _ _ rfl rfl | exact wk_frzm rfl rfl (fun kv hk => by obtain ⟨_, _, rfl⟩ := List.mem_map.1 hk; rfl))
                  · skip
                    refine aw_exit ?_
                    simp only [go_sem, ↓reduceIte, Nat.reduceEqDiff, reduceCtorEq, Nat.reduceAdd, Nat.reduceLT, Nat.reduceLeDiff, Nat.reduceBNe, Nat.reduceBEq, Int.reduceToNat]
                    refine hKCb4 (i3) _ ?_ ?_
                    · (try dsimp only); exact ⟨hi3, hneg3, fun h => by rw [hxx]; have := of_decide_eq_false hb18; show n < 0; omega⟩
                    · refine Le.mk _ _ ?_ ?_ rfl <;> simp only [go_sem, ↓reduceIte, Nat.reduceEqDiff, reduceCtorEq, Nat.reduceAdd, Nat.reduceLT, Nat.reduceLeDiff, Nat.reduceBNe, Nat.reduceBEq, Int.reduceToNat] <;> (repeat' apply And.intro) <;> (try first | rfl | exact wk_frzb rfl rfl rfl | exact wk_fn rfl | exact .nilo _ _ _ rfl rfl | exact wk_frzm rfl rfl (fun kv hk => by obtain ⟨_, _, rfl⟩ := List.mem_map.1 hk; rfl))
                · skip
                  have hdf : decide (i3 < l.length) = false := decide_eq_false (by omega)
                  refine aw_seq (aw_region (EF := EFc) hG (by rw [hN]; exact tr8_18) ?_)
                  simp only [a8_18, go_sem, ↓reduceIte, Nat.reduceEqDiff, reduceCtorEq, Nat.reduceAdd, Nat.reduceLT, Nat.reduceLeDiff, Nat.reduceBNe, Nat.reduceBEq, Int.reduceToNat, List.length_map, hlen, EFc, tTr, fCF_eq, hdf]
                  (repeat' apply And.intro) <;> (try first | omega | ((fail_if_success refine idW ?_); (fail_if_success refine idS ?_); intros; (repeat' apply And.intro) <;> first | assumption | omega | (simp_all; done)))
                  refine aw_condF rfl ?_
                  refine aw_exit ?_
                  simp only [go_sem, ↓reduceIte, Nat.reduceEqDiff, reduceCtorEq, Nat.reduceAdd, Nat.reduceLT, Nat.reduceLeDiff, Nat.reduceBNe, Nat.reduceBEq, Int.reduceToNat]
                  refine hKCb4 (i3) _ ?_ ?_
                  · (try dsimp only); exact ⟨hi3, hneg3, fun h => absurd h hlt⟩
                  · refine Le.mk _ _ ?_ ?_ rfl <;> simp only [go_sem, ↓reduceIte, Nat.reduceEqDiff, reduceCtorEq, Nat.reduceAdd, Nat.reduceLT, Nat.reduceLeDiff, Nat.reduceBNe, Nat.reduceBEq, Int.reduceToNat] <;> (repeat' apply And.intro) <;> (try first | rfl | exact wk_frzb rfl rfl rfl | exact wk_fn rfl | exact .nilo _ _ _ rfl rfl | exact wk_frzm rfl rfl (fun kv hk => by obtain ⟨_, _, rfl⟩ := List.mem_map.1 hk; rfl))
            · rintro i2 ⟨hi2, hneg2, hend⟩
              refine aw_cut (α := Nat) (fun k2 => (k2 ≤ l.length) ∧ (∀ x ∈ rest.take k2, x.amount ≤ 0) ∧ (∀ h : k2 < rest.length, 0 < rest[k2].amount)) (fun k2 => ⟨mkE [(8, V.own 37 l.length), (9, V.own 999 out.length), (10, V.int IntKind.i64 ↑i2), (11, .int .i64 k2)], mkH [(37, Ob.arr 64 2 (List.map Post.enc rest)), (999, Ob.arr 49 3 (List.map Due.enc out))]⟩) ?_ ?_
              · intro KCb6 hKCb6
                refine aw_block ?_
                refine aw_loop (α := Nat) (fun k3 => (k3 ≤ l.length) ∧ (∀ x ∈ rest.take k3, x.amount ≤ 0)) (fun k3 => ⟨mkE [(8, V.own 37 l.length), (9, V.own 999 out.length), (10, V.int IntKind.i64 ↑i2), (11, .int .i64 k3)], mkH [(37, Ob.arr 64 2 (List.map Post.enc rest)), (999, Ob.arr 49 3 (List.map Due.enc out))]⟩) (fun k3 => l.length - k3) k ⟨hk, hpos⟩ ?_ ?_
                · refine Le.mk _ _ ?_ ?_ rfl <;> simp only [go_sem, ↓reduceIte, Nat.reduceEqDiff, reduceCtorEq, Nat.reduceAdd, Nat.reduceLT, Nat.reduceLeDiff, Nat.reduceBNe, Nat.reduceBEq, Int.reduceToNat] <;> (repeat' apply And.intro) <;> (try first | rfl | exact wk_frzb rfl rfl rfl | exact wk_fn rfl | exact .nilo _ _ _ rfl rfl | exact wk_frzm rfl rfl (fun kv hk => by obtain ⟨_, _, rfl⟩ := List.mem_map.1 hk; rfl))
                · rintro k3 ⟨hk3, hpos3⟩ KL6 hKL6
                  try dsimp only at *
                  refine aw_seq ?_
                  by_cases hlt : k3 < rest.length
                  · skip
                    generalize hxx : rest[k3] = x
                    obtain ⟨a, n⟩ := x
                    have hlt2 : k3 < l.length := by omega
                    refine aw_seq (aw_region (EF := EFc) hG (by rw [hN]; exact tr8_20) ?_)
                    simp only [a8_20, go_sem, ↓reduceIte, Nat.reduceEqDiff, reduceCtorEq, Nat.reduceAdd, Nat.reduceLT, Nat.reduceLeDiff, Nat.reduceBNe, Nat.reduceBEq, Int.reduceToNat, List.length_map, hlen, EFc, tTr, fCF_eq, getD_mapd _ _ _ _ hlt, hlt2, hxx, Post.enc]
                    (repeat' apply And.intro) <;> (try first | omega | ((fail_if_success refine idW ?_); (fail_if_success refine idS ?_); intros; (repeat' apply And.intro) <;> first | assumption | omega | (simp_all; done)))
                    refine aw_cond (b := _) rfl (fun hb20 => ?_) (fun hb20 => ?_)
                    · skip
                      refine aw_skip ?_
                      try simp only [go_sem, ↓reduceIte, Nat.reduceEqDiff, reduceCtorEq, Nat.reduceAdd, Nat.reduceLT, Nat.reduceLeDiff, Nat.reduceBNe, Nat.reduceBEq, Int.reduceToNat]
                      refine aw_block ?_
                      refine aw_region (EF := EFc) hG (by rw [hN]; exact tr8_21) ?_
                      simp only [a8_21, go_sem, ↓reduceIte, Nat.reduceEqDiff, reduceCtorEq, Nat.reduceAdd, Nat.reduceLT, Nat.reduceLeDiff, Nat.reduceBNe, Nat.reduceBEq, Int.reduceToNat, inI, EFc, tTr, fCF_eq]
                      (repeat' apply And.intro) <;> (try first | omega | ((fail_if_success refine idW ?_); (fail_if_success refine idS ?_); intros; (repeat' apply And.intro) <;> first | assumption | omega | (simp_all; done)))
                      refine hKL6 (k3 + 1) _ ?_ ?_ ?_
                      · (try dsimp only); exact ⟨by omega, take_allP hlt hpos3 (by rw [hxx]; exact of_decide_eq_true hb20)⟩
                      · (try dsimp only); omega
                      · refine Le.mk _ _ ?_ ?_ rfl <;> simp only [go_sem, ↓reduceIte, Nat.reduceEqDiff, reduceCtorEq, Nat.reduceAdd, Nat.reduceLT, Nat.reduceLeDiff, Nat.reduceBNe, Nat.reduceBEq, Int.reduceToNat] <;> (repeat' apply And.intro) <;> (try first | rfl | exact wk_frzb rfl rfl rfl | exact wk_fn rfl | exact .nilo _ _ _ rfl rfl | exact wk_frzm rfl rfl (fun kv hk => by obtain ⟨_, _, rfl⟩ := List.mem_map.1 hk; rfl))
                    · skip
                      refine aw_exit ?_
                      simp only [go_sem, ↓reduceIte, Nat.reduceEqDiff, reduceCtorEq, Nat.reduceAdd, Nat.reduceLT, Nat.reduceLeDiff, Nat.reduceBNe, Nat.reduceBEq, Int.reduceToNat]
                      refine hKCb6 (k3) _ ?_ ?_
                      · (try dsimp only); exact ⟨hk3, hpos3, fun h => by rw [hxx]; have := of_decide_eq_false hb20; show 0 < n; omega⟩
                      · refine Le.mk _ _ ?_ ?_ rfl <;> simp only [go_sem, ↓reduceIte, Nat.reduceEqDiff, reduceCtorEq, Nat.reduceAdd, Nat.reduceLT, Nat.reduceLeDiff, Nat.reduceBNe, Nat.reduceBEq, Int.reduceToNat] <;> (repeat' apply And.intro) <;> (try first | rfl | exact wk_frzb rfl rfl rfl | exact wk_fn rfl | exact .nilo _ _ _ rfl rfl | exact wk_frzm rfl rfl (fun kv hk => by obtain ⟨_, _, rfl⟩ := List.mem_map.1 hk; rfl))
                  · skip
                    have hdf : decide (k3 < l.length) = false := decide_eq_false (by omega)
                    refine aw_seq (aw_region (EF := EFc) hG (by rw [hN]; exact tr8_20) ?_)
                    simp only [a8_20, go_sem, ↓reduceIte, Nat.reduceEqDiff, reduceCtorEq, Nat.reduceAdd, Nat.reduceLT, Nat.reduceLeDiff, Nat.reduceBNe, Nat.reduceBEq, Int.reduceToNat, List.length_map, hlen, EFc, tTr, fCF_eq, hdf]
                    (repeat' apply And.intro) <;> (try first | omega | ((fail_if_success refine idW ?_); (fail_if_success refine idS ?_); intros; (repeat' apply And.intro) <;> first | assumption | omega | (simp_all; done)))
                    refine aw_condF rfl ?_
                    refine aw_exit ?_
                    simp only [go_sem, ↓reduceIte, Nat.reduceEqDiff, reduceCtorEq, Nat.reduceAdd, Nat.reduceLT, Nat.reduceLeDiff, Nat.reduceBNe, Nat.reduceBEq, Int.reduceToNat]
                    refine hKCb6 (k3) _ ?_ ?_
                    · (try dsimp only); exact ⟨hk3, hpos3, fun h => absurd h hlt⟩
                    · refine Le.mk _ _ ?_ ?_ rfl <;> simp only [go_sem, ↓reduceIte, Nat.reduceEqDiff, reduceCtorEq, Nat.reduceAdd, Nat.reduceLT, Nat.reduceLeDiff, Nat.reduceBNe, Nat.reduceBEq, Int.reduceToNat] <;> (repeat' apply And.intro) <;> (try first | rfl | exact wk_frzb rfl rfl rfl | exact wk_fn rfl | exact .nilo _ _ _ rfl rfl | exact wk_frzm rfl rfl (fun kv hk => by obtain ⟨_, _, rfl⟩ := List.mem_map.1 hk; rfl))
              · rintro k2 ⟨hk2, hpos2, hend2⟩
                refine aw_seq ?_
                refine aw_seq (aw_region (EF := EFc) hG (by rw [hN]; exact tr8_22) ?_)
                simp only [a8_22, go_sem, ↓reduceIte, Nat.reduceEqDiff, reduceCtorEq, Nat.reduceAdd, Nat.reduceLT, Nat.reduceLeDiff, Nat.reduceBNe, Nat.reduceBEq, Int.reduceToNat, List.length_map, hlen, EFc, tTr, fCF_eq]
                (repeat' apply And.intro) <;> (try first | omega | ((fail_if_success refine idW ?_); (fail_if_success refine idS ?_); intros; (repeat' apply And.intro) <;> first | assumption | omega | (simp_all; done)))
                refine aw_cond (b := _) rfl (fun hb22 => ?_) (fun hb22 => ?_)
                · skip
                  refine aw_seq (aw_region (EF := EFc) hG (by rw [hN]; exact tr8_23) ?_)
                  simp only [a8_23, go_sem, ↓reduceIte, Nat.reduceEqDiff, reduceCtorEq, Nat.reduceAdd, Nat.reduceLT, Nat.reduceLeDiff, Nat.reduceBNe, Nat.reduceBEq, Int.reduceToNat, EFc, tTr, fCF_eq]
                  refine AW.le (s' := ⟨mkE [(2, .list (out.map Due.enc) false), (3, .int .i64 0)], mkH []⟩) (Le.mk _ _ ?_ ?_ rfl) (aw_ret (hQ _ _ (.inl rfl) ?_ ?_ ?_)) <;> simp only [outφ, outV, AR.res, go_sem, ↓reduceIte, Nat.reduceEqDiff, reduceCtorEq, Nat.reduceAdd, Nat.reduceLT, Nat.reduceLeDiff, Nat.reduceBNe, Nat.reduceBEq, Int.reduceToNat, fTr1, trV]
                  · exact wk_frz rfl (by rw [List.length_map]) rfl ((Due.purs _).2 trivial)
                  · rw [htr, hT.done (by
                  rcases Bool.or_eq_true_iff.1 hb22 with h | h
                  · have := of_decide_eq_true h; exact step_no1 (by rw [List.take_of_length_le (show rest.length ≤ i2 by omega)] at hneg2; exact hneg2)
                  · have := of_decide_eq_true h; exact step_no2 (by rw [List.take_of_length_le (show rest.length ≤ k2 by omega)] at hpos2; exact hpos2))]
                · skip
                  simp only [Bool.or_eq_false_iff, decide_eq_false_iff_not] at hb22
                  have hil : i2 < rest.length := by omega
                  have hkl : k2 < rest.length := by omega
                  have hil2 : i2 < l.length := by omega
                  have hkl2 : k2 < l.length := by omega
                  obtain ⟨hsa, hSA⟩ := step_of hil hkl hneg2 hpos2 (hend hil) (hend2 hkl)
                  have hab := hSA.ne
                  have hba1 := out_bd (hT.bd _ (List.getElem_mem hil))
                  have hbb1 := out_bd (hT.bd _ (List.getElem_mem hkl))
                  have hna := hend hil
                  have hpb := hend2 hkl
                  have hmv : movT rest i2 k2 = (rest.set i2 ⟨rest[i2].account, rest[i2].amount + minA rest i2 k2⟩).set k2 ⟨rest[k2].account, rest[k2].amount - minA rest i2 k2⟩ := by unfold movT; rw [getD_lt _ _ _ hil, getD_lt _ _ _ hkl]
                  have hdu : dueT rest i2 k2 = ⟨rest[i2].account, rest[k2].account, minA rest i2 k2⟩ := by unfold dueT; rw [getD_lt _ _ _ hil, getD_lt _ _ _ hkl]
                  have hmn : minA rest i2 k2 = min (-rest[i2].amount) rest[k2].amount := by unfold minA; rw [getD_lt _ _ _ hil, getD_lt _ _ _ hkl]
                  have hTS := hT.step hsa hSA
                  have hnz := (mov_nz hSA).1
                  have hn3 := mov_neg hSA hneg2
                  have hp3 := mov_pos hSA hpos2
                  have hol := hT.ol
                  have hks : k2 < (rest.set i2 (⟨rest[i2].account, rest[i2].amount + minA rest i2 k2⟩ : Post)).length := by rw [List.length_set]; exact hkl
                  have hksv : (rest.set i2 (⟨rest[i2].account, rest[i2].amount + minA rest i2 k2⟩ : Post))[k2] = rest[k2] := List.getElem_set_ne hab hks
                  have hml := mov_len rest i2 k2
                  have hmi : i2 < (movT rest i2 k2).length := by omega
                  have hmk : k2 < (movT rest i2 k2).length := by omega
                  have hga := mov_get hSA i2 hil
                  have hgb := mov_get hSA k2 hkl
                  rw [if_neg hab, if_pos rfl, getD_lt _ _ _ hmi, getD_lt _ _ _ hil] at hga
                  rw [if_pos rfl, getD_lt _ _ _ hmk, getD_lt _ _ _ hkl] at hgb
                  generalize movT rest i2 k2 = r2 at hmv hTS hnz hn3 hp3 hml hmi hmk hga hgb
                  generalize dueT rest i2 k2 = d2 at hdu hTS
                  generalize minA rest i2 k2 = m at hmv hdu hmn hks hksv hga hgb
                  generalize hxa : rest[i2] = xa at hmv hdu hmn hks hksv hga hba1 hna
                  generalize hxb : rest[k2] = xb at hmv hdu hmn hksv hgb hbb1 hpb
                  obtain ⟨aa, na⟩ := xa
                  obtain ⟨ab, nb⟩ := xb
                  dsimp only at hmv hdu hmn hks hksv hga hba1 hna hgb hbb1 hpb
                  refine aw_skip ?_
                  try simp only [go_sem, ↓reduceIte, Nat.reduceEqDiff, reduceCtorEq, Nat.reduceAdd, Nat.reduceLT, Nat.reduceLeDiff, Nat.reduceBNe, Nat.reduceBEq, Int.reduceToNat]
                  refine aw_seq (aw_regionD (EF := EFc) hG mixed (by rw [hN]; exact tr8_24) ok8_24 ?_)
                  simp only [a8_24, d8_24, go_sem, ↓reduceIte, Nat.reduceEqDiff, reduceCtorEq, Nat.reduceAdd, Nat.reduceLT, Nat.reduceLeDiff, Nat.reduceBNe, Nat.reduceBEq, Int.reduceToNat, inI, getD_mapd _ _ _ _ hil, getD_mapd _ _ _ _ hkl, hil2, hkl2, hxa, hxb, Post.enc, List.length_map, hlen, ← hmn, EFc, tTr, fCF_eq]
                  (repeat' apply And.intro) <;> (try first | omega | ((fail_if_success refine idW ?_); (fail_if_success refine idS ?_); intros; (repeat' apply And.intro) <;> first | assumption | omega | (simp_all; done)))
                  refine aw_seq (aw_region (EF := EFc) hG (by rw [hN]; exact tr8_25) ?_)
                  simp only [a8_25, go_sem, ↓reduceIte, Nat.reduceEqDiff, reduceCtorEq, Nat.reduceAdd, Nat.reduceLT, Nat.reduceLeDiff, Nat.reduceBNe, Nat.reduceBEq, Int.reduceToNat, inI, getD_mapd _ _ _ _ hil, hil2, hxa, Post.enc, List.length_map, hlen, List.set_cons_succ, List.set_cons_zero, set_post, List.length_set, EFc, tTr, fCF_eq]
                  (repeat' apply And.intro) <;> (try first | omega | ((fail_if_success refine idW ?_); (fail_if_success refine idS ?_); intros; (repeat' apply And.intro) <;> first | assumption | omega | (simp_all; done)))
                  refine aw_seq (aw_region (EF := EFc) hG (by rw [hN]; exact tr8_26) ?_)
                  simp only [a8_26, go_sem, ↓reduceIte, Nat.reduceEqDiff, reduceCtorEq, Nat.reduceAdd, Nat.reduceLT, Nat.reduceLeDiff, Nat.reduceBNe, Nat.reduceBEq, Int.reduceToNat, inI, getD_mapd _ _ _ _ hks, hksv, hkl2, Post.enc, List.length_map, List.length_set, hlen, List.set_cons_succ, List.set_cons_zero, set_post, ← hmv, EFc, tTr, fCF_eq]
                  (repeat' apply And.intro) <;> (try first | omega | ((fail_if_success refine idW ?_); (fail_if_success refine idS ?_); intros; (repeat' apply And.intro) <;> first | assumption | omega | (simp_all; done)))
                  refine aw_regionD (EF := EFc) hG mixed (by rw [hN]; exact tr8_27) ok8_27 ?_
                  simp only [a8_27, d8_27, go_sem, ↓reduceIte, Nat.reduceEqDiff, reduceCtorEq, Nat.reduceAdd, Nat.reduceLT, Nat.reduceLeDiff, Nat.reduceBNe, Nat.reduceBEq, Int.reduceToNat, getD_mapd _ _ _ _ hmi, getD_mapd _ _ _ _ hmk, hga, hgb, hil2, hkl2, Post.enc, List.length_map, hml, hlen, due_snoc, ← hdu, EFc, tTr, fCF_eq]
                  (repeat' apply And.intro) <;> (try first | omega | ((fail_if_success refine idW ?_); (fail_if_success refine idS ?_); intros; (repeat' apply And.intro) <;> first | assumption | omega | (simp_all; done)))
                  refine hKL2 (r2, out ++ [d2], i2, k2) _ ?_ ?_ ?_
                  · (try dsimp only); exact ⟨hTS, hi2, hk2, hn3, hp3⟩
                  · (dsimp only; exact hnz)
                  · refine Le.mk _ _ ?_ ?_ rfl <;> simp only [go_sem, ↓reduceIte, Nat.reduceEqDiff, reduceCtorEq, Nat.reduceAdd, Nat.reduceLT, Nat.reduceLeDiff, Nat.reduceBNe, Nat.reduceBEq, Int.reduceToNat, List.length_append, List.length_cons, List.length_nil, List.length_map] <;> (repeat' apply And.intro) <;> (try first | rfl | exact wk_frzb rfl rfl rfl | exact wk_fn rfl | exact .nilo _ _ _ rfl rfl | exact wk_frzm rfl rfl (fun kv hk => by obtain ⟨_, _, rfl⟩ := List.mem_map.1 hk; rfl))
end Go.Proofs.YtkdkjbneohdofaaDoor
