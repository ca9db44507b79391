/- Settled of the reference; Bill of both. -/
import Derived.Test.YtkdkjbneohdofaaDoorSe8
namespace Go.Proofs.YtkdkjbneohdofaaDoor
open Go Go.RowKit
set_option linter.unusedSimpArgs false
set_option linter.unusedVariables false
set_option linter.deprecated false
def aBal (x : List Post × List UInt8) : List V := [.list (x.1.map Post.enc) false, .str x.2]
theorem aBal_inj (a b : List Post × List UInt8) (h : aBal a = aBal b) : a = b := by
  obtain ⟨a_l, a_k⟩ := a
  obtain ⟨b_l, b_k⟩ := b
  simp only [aBal, List.cons.injEq, V.str.injEq, V.int.injEq, V.bool.injEq, V.agg.injEq, V.list.injEq, and_true, true_and] at h
  obtain ⟨h0, h1⟩ := h
  replace h0 := map_inj' Post.inj h0
  subst h0
  subst h1
  rfl
def fBal (x : List Post × List UInt8) : Prop × V := (x.1.length ≤ 140737488355328, .int .i64 (getP x.1 x.2))
theorem fBal_eq (l : List Post) (k : List UInt8) : gOf aBal fBal [.list (l.map Post.enc) false, .str k] = (l.length ≤ 140737488355328, .int .i64 (getP l k)) := gOf_eq aBal_inj (l, k)
theorem getP_app {a b : List Post} {k : List UInt8} (h : ∀ x ∈ a, ¬ x.account = k) : getP (a ++ b) k = getP b k := by
  induction a with
  | nil => rfl
  | cons x a ih => rw [List.cons_append, getP, if_neg (h x (List.mem_cons_self ..)), ih fun y hy => h y (List.mem_cons_of_mem _ hy)]
theorem getP_at {l : List Post} {k : List UInt8} {i : Nat} (h : i < l.length) (hp : ∀ x ∈ l.take i, ¬ x.account = k) (e : l[i].account = k) : getP l k = l[i].amount := by
  conv => lhs; rw [split_at h]
  rw [getP_app hp, getP, if_pos e]
theorem getP_no {l : List Post} {k : List UInt8} (hp : ∀ x ∈ l, ¬ x.account = k) : getP l k = 0 := by
  have := getP_app (b := []) hp
  rwa [List.append_nil] at this
theorem all_at {p : Post → Bool} {l : List Post} {i : Nat} (h : i < l.length) (hp : p l[i] = false) : l.all p = false := List.all_eq_false.2 ⟨_, List.getElem_mem h, by rw [hp]; decide⟩
theorem all_yes {p : Post → Bool} {l : List Post} {i : Nat} (h : l.length ≤ i) (hp : ∀ x ∈ l.take i, p x = true) : l.all p = true := List.all_eq_true.2 (none_at h hp)
/-! Bill. -/
def aBill (x : List UInt8 × List Post) : List V := [.str x.1, .list (x.2.map Post.enc) false]
theorem aBill_inj (a b : List UInt8 × List Post) (h : aBill a = aBill b) : a = b := by
  obtain ⟨a_k, a_l⟩ := a
  obtain ⟨b_k, b_l⟩ := b
  simp only [aBill, List.cons.injEq, V.str.injEq, V.int.injEq, V.bool.injEq, V.agg.injEq, V.list.injEq, and_true, true_and] at h
  obtain ⟨h0, h1⟩ := h
  subst h0
  replace h1 := map_inj' Post.inj h1
  subst h1
  rfl
def billB (k : List UInt8) (x : Post) : Bool := !decide (x.account = k) && !decide (x.amount = 0)
def billP (k : List UInt8) (l : List Post) : List Due := (l.filter (billB k)).map fun x => ⟨k, x.account, x.amount⟩
theorem bill_t {k : List UInt8} {l : List Post} {i : Nat} (h : i < l.length) (hb : billB k l[i] = true) : billP k (l.take (i + 1)) = billP k (l.take i) ++ [⟨k, l[i].account, l[i].amount⟩] := by
  unfold billP
  rw [take_succ' h, List.filter_append, List.filter_cons_of_pos hb, List.map_append]; rfl
theorem bill_f {k : List UInt8} {l : List Post} {i : Nat} (h : i < l.length) (hb : billB k l[i] = false) : billP k (l.take (i + 1)) = billP k (l.take i) := by
  unfold billP
  rw [take_succ' h, List.filter_append, List.filter_cons_of_neg (by rw [hb]; decide), List.map_append]; simp
theorem bill_len (k : List UInt8) (l : List Post) : (billP k l).length ≤ l.length := by unfold billP; rw [List.length_map]; exact List.length_filter_le _ _
def fBill (x : List UInt8 × List Post) : Prop × V := (x.2.length ≤ 1000, .list ((billP x.1 x.2).map Due.enc) false)
theorem fBill_eq (k : List UInt8) (l : List Post) : gOf aBill fBill [.str k, .list (l.map Post.enc) false] = (l.length ≤ 1000, .list ((billP k l).map Due.enc) false) := gOf_eq aBill_inj (k, l)
set_option maxHeartbeats 4000000 in
theorem bill_p : PureC Tryd.prog UT 6 (gOf aBill fBill) := by
  have hG := tNo_ok
  refine PureC.ofArgs aBill_inj Tryd.func6 body6 nm6 res6 ?_
  rintro ⟨k, l⟩ hv
  refine ⟨by rw [nt6]; simp [aBill], fun C hN Q hQ => ?_⟩
  rw [nt6] at hN
  unfold c6
  replace hv : l.length ≤ 1000 := hv
  refine aw_seq (aw_region (EF := EF0) hG (by rw [hN]; exact tr6_0) ?_)
  simp only [a6_0, go_sem, ↓reduceIte, Nat.reduceEqDiff, reduceCtorEq, Nat.reduceAdd, Nat.reduceLT, Nat.reduceLeDiff, Nat.reduceBNe, Nat.reduceBEq, Int.reduceToNat, aBill]
  refine aw_seq (aw_region (EF := EF0) hG (by rw [hN]; exact tr6_1) ?_)
  simp only [a6_1, go_sem, ↓reduceIte, Nat.reduceEqDiff, reduceCtorEq, Nat.reduceAdd, Nat.reduceLT, Nat.reduceLeDiff, Nat.reduceBNe, Nat.reduceBEq, Int.reduceToNat]
  refine aw_seq ?_
  refine aw_seq (aw_region (EF := EF0) hG (by rw [hN]; exact tr6_2) ?_)
  simp only [a6_2, go_sem, ↓reduceIte, Nat.reduceEqDiff, reduceCtorEq, Nat.reduceAdd, Nat.reduceLT, Nat.reduceLeDiff, Nat.reduceBNe, Nat.reduceBEq, Int.reduceToNat]
  refine AW.le (s' := ⟨mkE [(0, .str k), (5, .own 999 0), (8, .list (l.map Post.enc) false), (9, .int .i64 l.length), (10, .int .i64 0)], mkH ([(999, .arr 49 3 (([] : List Due).map Due.enc))])⟩) (Le.mk _ _ (by (simp only [go_sem, ↓reduceIte, Nat.reduceEqDiff, reduceCtorEq, Nat.reduceAdd, Nat.reduceLT, Nat.reduceLeDiff, Nat.reduceBNe, Nat.reduceBEq, Int.reduceToNat]) <;> (repeat' apply And.intro) <;> (try first | exact wk_frzb rfl rfl rfl | rfl | exact wk_fn rfl | exact .nill _ | exact .nilo _ _ _ rfl rfl | exact wk_frz rfl (by simp only [ints_len, nats_len]) rfl (ints_pur _) | exact wk_frzm rfl rfl (fun kv hk => by obtain ⟨_, _, rfl⟩ := List.mem_map.1 hk; rfl))) (by (simp only [go_sem, ↓reduceIte, Nat.reduceEqDiff, reduceCtorEq, Nat.reduceAdd, Nat.reduceLT, Nat.reduceLeDiff, Nat.reduceBNe, Nat.reduceBEq, Int.reduceToNat]) <;> (repeat' apply And.intro) <;> (try first | exact wk_frzb rfl rfl rfl | rfl | exact wk_fn rfl | exact .nill _ | exact .nilo _ _ _ rfl rfl | exact wk_frz rfl (by simp only [ints_len, nats_len]) rfl (ints_pur _) | exact wk_frzm rfl rfl (fun kv hk => by obtain ⟨_, _, rfl⟩ := List.mem_map.1 hk; rfl))) rfl) ?_
  refine aw_block ?_
  refine aw_loop (α := Nat) (fun i => (i ≤ l.length)) (fun i => ⟨mkE [(0, V.str k), (5, .own 999 (billP k (l.take i)).length), (8, V.list (List.map Post.enc l) false), (9, V.int IntKind.i64 ↑l.length), (10, .int .i64 i)], mkH [(999, .arr 49 3 ((billP k (l.take i)).map Due.enc))]⟩) (fun i => l.length - i) 0 (by simp) ?_ ?_
  · refine Le.mk _ _ ?_ ?_ rfl <;> simp only [go_sem, ↓reduceIte, Nat.reduceEqDiff, reduceCtorEq, Nat.reduceAdd, Nat.reduceLT, Nat.reduceLeDiff, Nat.reduceBNe, Nat.reduceBEq, Int.reduceToNat, show billP k ([] : List Post) = [] from rfl] <;> (repeat' apply And.intro) <;> (try first | rfl | exact wk_frzb rfl rfl rfl | exact wk_fn rfl | exact .nilo _ _ _ rfl rfl | exact wk_frzm rfl rfl (fun kv hk => by obtain ⟨_, _, rfl⟩ := List.mem_map.1 hk; rfl))
  · rintro i hi KL0 hKL0
    try dsimp only at *
    refine aw_seq (aw_region (EF := EF0) hG (by rw [hN]; exact tr6_3) ?_)
    simp only [a6_3, go_sem, ↓reduceIte, Nat.reduceEqDiff, reduceCtorEq, Nat.reduceAdd, Nat.reduceLT, Nat.reduceLeDiff, Nat.reduceBNe, Nat.reduceBEq, Int.reduceToNat]
    refine aw_seq ?_
    refine aw_cond (b := _) rfl (fun hc3 => ?_) (fun hc3 => ?_)
    · simp only [decide_eq_true_eq, decide_eq_false_iff_not, Bool.and_eq_true, Bool.or_eq_true, Bool.not_eq_true', Bool.not_eq_false', Bool.and_eq_false_iff, Bool.or_eq_false_iff, Int.ofNat_lt, Int.ofNat_le, Nat.not_lt, Nat.not_le, Int.not_lt, Int.not_le] at hc3
      refine aw_skip ?_
      try simp only [go_sem, ↓reduceIte, Nat.reduceEqDiff, reduceCtorEq, Nat.reduceAdd, Nat.reduceLT, Nat.reduceLeDiff, Nat.reduceBNe, Nat.reduceBEq, Int.reduceToNat]
      refine aw_seq ?_
      refine aw_block ?_
      have hln := bill_len k (l.take i)
      rw [List.length_take] at hln
      have ht := fun h => bill_t (k := k) hc3 h
      have hf := fun h => bill_f (k := k) hc3 h
      generalize billP k (l.take i) = out at hln ht hf
      generalize hxx : l[i] = x at ht hf
      obtain ⟨a, n⟩ := x
      dsimp only at ht hf
      refine aw_seq (aw_region (EF := EF0) hG (by rw [hN]; exact tr6_4) ?_)
      simp only [a6_4, go_sem, ↓reduceIte, Nat.reduceEqDiff, reduceCtorEq, Nat.reduceAdd, Nat.reduceLT, Nat.reduceLeDiff, Nat.reduceBNe, Nat.reduceBEq, Int.reduceToNat, getD_mapd _ _ _ _ hc3, hc3, hxx, Post.enc]
      (repeat' apply And.intro) <;> (try first | omega | ((fail_if_success refine idW ?_); (fail_if_success refine idS ?_); intros; (repeat' apply And.intro) <;> first | assumption | omega | (simp_all; done)))
      refine aw_seq (aw_region (EF := EF0) hG (by rw [hN]; exact tr6_5) ?_)
      simp only [a6_5, go_sem, ↓reduceIte, Nat.reduceEqDiff, reduceCtorEq, Nat.reduceAdd, Nat.reduceLT, Nat.reduceLeDiff, Nat.reduceBNe, Nat.reduceBEq, Int.reduceToNat]
      (repeat' apply And.intro) <;> (try first | omega | ((fail_if_success refine idW ?_); (fail_if_success refine idS ?_); intros; (repeat' apply And.intro) <;> first | assumption | omega | (simp_all; done)))
      refine aw_cond (b := _) rfl (fun hb5 => ?_) (fun hb5 => ?_)
      · skip
        refine aw_region (EF := EF0) hG (by rw [hN]; exact tr6_6) ?_
        simp only [a6_6, go_sem, ↓reduceIte, Nat.reduceEqDiff, reduceCtorEq, Nat.reduceAdd, Nat.reduceLT, Nat.reduceLeDiff, Nat.reduceBNe, Nat.reduceBEq, Int.reduceToNat, List.length_map, due_snoc]
        (repeat' apply And.intro) <;> (try first | omega | ((fail_if_success refine idW ?_); (fail_if_success refine idS ?_); intros; (repeat' apply And.intro) <;> first | assumption | omega | (simp_all; done)))
        refine aw_region (EF := EF0) hG (by rw [hN]; exact tr6_7) ?_
        simp only [a6_7, go_sem, ↓reduceIte, Nat.reduceEqDiff, reduceCtorEq, Nat.reduceAdd, Nat.reduceLT, Nat.reduceLeDiff, Nat.reduceBNe, Nat.reduceBEq, Int.reduceToNat, inI]
        (repeat' apply And.intro) <;> (try first | omega | ((fail_if_success refine idW ?_); (fail_if_success refine idS ?_); intros; (repeat' apply And.intro) <;> first | assumption | omega | (simp_all; done)))
        refine hKL0 (i + 1) _ ?_ ?_ ?_
        · (try dsimp only); exact hc3
        · (try dsimp only); omega
        · refine Le.mk _ _ ?_ ?_ rfl <;> simp only [go_sem, ↓reduceIte, Nat.reduceEqDiff, reduceCtorEq, Nat.reduceAdd, Nat.reduceLT, Nat.reduceLeDiff, Nat.reduceBNe, Nat.reduceBEq, Int.reduceToNat, ht hb5, List.length_append, List.length_cons, List.length_nil] <;> (repeat' apply And.intro) <;> (try first | rfl | exact wk_frzb rfl rfl rfl | exact wk_fn rfl | exact .nilo _ _ _ rfl rfl | exact wk_frzm rfl rfl (fun kv hk => by obtain ⟨_, _, rfl⟩ := List.mem_map.1 hk; rfl))
      · skip
        refine aw_skip ?_
        try simp only [go_sem, ↓reduceIte, Nat.reduceEqDiff, reduceCtorEq, Nat.reduceAdd, Nat.reduceLT, Nat.reduceLeDiff, Nat.reduceBNe, Nat.reduceBEq, Int.reduceToNat]
        refine aw_region (EF := EF0) hG (by rw [hN]; exact tr6_7) ?_
        simp only [a6_7, go_sem, ↓reduceIte, Nat.reduceEqDiff, reduceCtorEq, Nat.reduceAdd, Nat.reduceLT, Nat.reduceLeDiff, Nat.reduceBNe, Nat.reduceBEq, Int.reduceToNat, inI]
        (repeat' apply And.intro) <;> (try first | omega | ((fail_if_success refine idW ?_); (fail_if_success refine idS ?_); intros; (repeat' apply And.intro) <;> first | assumption | omega | (simp_all; done)))
        refine hKL0 (i + 1) _ ?_ ?_ ?_
        · (try dsimp only); exact hc3
        · (try dsimp only); omega
        · refine Le.mk _ _ ?_ ?_ rfl <;> simp only [go_sem, ↓reduceIte, Nat.reduceEqDiff, reduceCtorEq, Nat.reduceAdd, Nat.reduceLT, Nat.reduceLeDiff, Nat.reduceBNe, Nat.reduceBEq, Int.reduceToNat, hf hb5] <;> (repeat' apply And.intro) <;> (try first | rfl | exact wk_frzb rfl rfl rfl | exact wk_fn rfl | exact .nilo _ _ _ rfl rfl | exact wk_frzm rfl rfl (fun kv hk => by obtain ⟨_, _, rfl⟩ := List.mem_map.1 hk; rfl))
    · simp only [decide_eq_true_eq, decide_eq_false_iff_not, Bool.and_eq_true, Bool.or_eq_true, Bool.not_eq_true', Bool.not_eq_false', Bool.and_eq_false_iff, Bool.or_eq_false_iff, Int.ofNat_lt, Int.ofNat_le, Nat.not_lt, Nat.not_le, Int.not_lt, Int.not_le] at hc3
      refine aw_exit ?_
      simp only [go_sem, ↓reduceIte, Nat.reduceEqDiff, reduceCtorEq, Nat.reduceAdd, Nat.reduceLT, Nat.reduceLeDiff, Nat.reduceBNe, Nat.reduceBEq, Int.reduceToNat]
      have hie : i = l.length := Nat.le_antisymm hi hc3
      subst hie
      refine aw_seq (aw_region (EF := EF0) hG (by rw [hN]; exact tr6_8) ?_)
      simp only [a6_8, go_sem, ↓reduceIte, Nat.reduceEqDiff, reduceCtorEq, Nat.reduceAdd, Nat.reduceLT, Nat.reduceLeDiff, Nat.reduceBNe, Nat.reduceBEq, Int.reduceToNat, List.take_length]
      refine AW.le (s' := ⟨mkE [(4, .list ((billP k l).map Due.enc) false)], mkH []⟩) (Le.mk _ _ ?_ ?_ rfl) (aw_ret (hQ _ _ (.inl rfl) ?_ ?_ ?_)) <;> simp only [outφ, outV, AR.res, go_sem, ↓reduceIte, Nat.reduceEqDiff, reduceCtorEq, Nat.reduceAdd, Nat.reduceLT, Nat.reduceLeDiff, Nat.reduceBNe, Nat.reduceBEq, Int.reduceToNat, fBill]
      · exact wk_frz rfl (by rw [List.length_map]) rfl ((Due.purs _).2 trivial)
end Go.Proofs.YtkdkjbneohdofaaDoor
