/- What only reads, further: balances, insert, Clone, two; of the reference. -/
import Derived.Test.YthfmdkpfaehpnaaLe3
namespace Go.Proofs.Ythfmdkpfaehpnaa
open Go Go.RowKit
set_option linter.unusedSimpArgs false
set_option linter.unusedVariables false
set_option linter.deprecated false
def pst (l : List Entry) : List Post := l.flatMap (·.posts)
theorem pst_snoc (l : List Entry) (e : Entry) : pst (l ++ [e]) = pst l ++ e.posts := by unfold pst; rw [List.flatMap_append]; simp
theorem pst_take {l : List Entry} {i : Nat} (h : i < l.length) : pst (l.take (i + 1)) = pst (l.take i) ++ l[i].posts := by rw [take_succ' h, pst_snoc]
def AmB (l : List Post) : Prop := ∀ p ∈ l, -1099511627776 ≤ p.amount ∧ p.amount ≤ 1099511627776
theorem bal_bd {l : List Post} (h : AmB l) (k : List UInt8) : -(1099511627776 * (l.length : Int)) ≤ balL l k ∧ balL l k ≤ 1099511627776 * (l.length : Int) := by
  induction l with
  | nil => simp [balL]
  | cons p l ih =>
    have h1 := h p (List.mem_cons_self ..)
    have h2 := ih fun q hq => h q (List.mem_cons_of_mem _ hq)
    rw [balL, List.length_cons]
    split <;> omega
theorem bal_step {l : List Post} {i : Nat} (h : i < l.length) (k : List UInt8) : balL (l.take (i + 1)) k = balL (l.take i) k + (if l[i].account = k then l[i].amount else 0) := by
  rw [take_succ' h, balL_app]; simp [balL]
theorem pst_mem {l : List Entry} {i : Nat} (h : i < l.length) {p : Post} (hp : p ∈ l[i].posts) : p ∈ pst l := List.mem_flatMap.2 ⟨l[i], List.getElem_mem h, hp⟩
theorem pst_len {l : List Entry} {i : Nat} (h : i < l.length) : (pst (l.take i)).length + l[i].posts.length ≤ (pst l).length := by
  have e : pst l = pst (l.take i) ++ pst (l.drop i) := by unfold pst; rw [← List.flatMap_append, List.take_append_drop]
  rw [e, List.length_append, List.drop_eq_getElem_cons h]
  unfold pst
  rw [List.flatMap_cons, List.length_append]; omega
theorem pst_sub {l : List Entry} {i : Nat} {p : Post} (hp : p ∈ pst (l.take i)) : p ∈ pst l := by
  obtain ⟨e, he, h2⟩ := List.mem_flatMap.1 hp
  exact List.mem_flatMap.2 ⟨e, List.mem_of_mem_take he, h2⟩
def BalOk (l : List Entry) : Prop := l.length ≤ 100000 ∧ (pst l).length ≤ 100000 ∧ AmB (pst l)
def aEk (x : List Entry × List UInt8) : List V := [.list (x.1.map Entry.enc) false, .str x.2]
theorem aEk_inj (a b : List Entry × List UInt8) (h : aEk a = aEk b) : a = b := by
  obtain ⟨a_l, a_k⟩ := a
  obtain ⟨b_l, b_k⟩ := b
  simp only [aEk, List.cons.injEq, V.str.injEq, V.int.injEq, V.bool.injEq, V.agg.injEq, V.list.injEq, and_true, true_and] at h
  obtain ⟨h0, h1⟩ := h
  replace h0 := map_inj' Entry.inj h0
  subst h0
  subst h1
  rfl
def fBal (x : List Entry × List UInt8) : Prop × V := (BalOk x.1, .int .i64 (balL (pst x.1) x.2))
theorem fBal_eq (l : List Entry) (k : List UInt8) : gOf aEk fBal [.list (l.map Entry.enc) false, .str k] = (BalOk l, .int .i64 (balL (pst l) k)) := gOf_eq aEk_inj (l, k)
set_option maxHeartbeats 4000000 in
theorem balance_p : PureC Try.prog UT 31 (gOf aEk fBal) := by
  have hG := tNo_ok
  refine PureC.ofArgs aEk_inj Try.func31 body31 nm31 res31 ?_
  rintro ⟨l, k⟩ hv
  refine ⟨by rw [nt31]; simp [aEk], fun C hN Q hQ => ?_⟩
  rw [nt31] at hN
  unfold c31
  obtain ⟨hl, hp, ha⟩ : BalOk l := hv
  refine aw_seq (aw_region (EF := EF0) hG (by rw [hN]; exact tr31_0) ?_)
  simp only [a31_0, go_sem, ↓reduceIte, Nat.reduceEqDiff, reduceCtorEq, Nat.reduceAdd, Nat.reduceLT, Nat.reduceLeDiff, Nat.reduceBNe, Nat.reduceBEq, Int.reduceToNat, aEk]
  refine aw_seq (aw_region (EF := EF0) hG (by rw [hN]; exact tr31_1) ?_)
  simp only [a31_1, go_sem, ↓reduceIte, Nat.reduceEqDiff, reduceCtorEq, Nat.reduceAdd, Nat.reduceLT, Nat.reduceLeDiff, Nat.reduceBNe, Nat.reduceBEq, Int.reduceToNat]
  refine aw_seq ?_
  refine aw_seq (aw_region (EF := EF0) hG (by rw [hN]; exact tr31_2) ?_)
  simp only [a31_2, go_sem, ↓reduceIte, Nat.reduceEqDiff, reduceCtorEq, Nat.reduceAdd, Nat.reduceLT, Nat.reduceLeDiff, Nat.reduceBNe, Nat.reduceBEq, Int.reduceToNat]
  refine aw_block ?_
  refine aw_loop (α := Nat) (fun i => (i ≤ l.length)) (fun i => ⟨mkE [(0, V.list (List.map Entry.enc l) false), (1, V.str k), (5, .int .i64 (balL (pst (l.take i)) k)), (6, .int .i64 i)], mkH []⟩) (fun i => l.length - i) 0 (Nat.zero_le _) ?_ ?_
  · refine Le.mk _ _ ?_ ?_ rfl <;> simp only [go_sem, ↓reduceIte, Nat.reduceEqDiff, reduceCtorEq, Nat.reduceAdd, Nat.reduceLT, Nat.reduceLeDiff, Nat.reduceBNe, Nat.reduceBEq, Int.reduceToNat, List.take_zero, pst, List.flatMap_nil, balL] <;> (repeat' apply And.intro) <;> (try first | rfl | exact wk_frzb rfl rfl rfl | exact wk_fn rfl | exact .nilo _ _ _ rfl rfl | exact wk_frzm rfl rfl (fun kv hk => by obtain ⟨_, _, rfl⟩ := List.mem_map.1 hk; rfl))
  · rintro i hi KL0 hKL0
    try dsimp only at *
    refine aw_seq ?_
    refine aw_seq (aw_region (EF := EF0) hG (by rw [hN]; exact tr31_3) ?_)
    simp only [a31_3, go_sem, ↓reduceIte, Nat.reduceEqDiff, reduceCtorEq, Nat.reduceAdd, Nat.reduceLT, Nat.reduceLeDiff, Nat.reduceBNe, Nat.reduceBEq, Int.reduceToNat, List.length_map]
    refine aw_cond (b := _) rfl (fun hb3 => ?_) (fun hb3 => ?_)
    · skip
      have hc : i < l.length := by simp at hb3; omega
      have hln := pst_len hc
      have hst := pst_take hc
      have hpm : ∀ p ∈ l[i].posts, p ∈ pst l := fun p h => pst_mem hc h
      obtain ⟨e, he⟩ : ∃ e, e = l[i] := ⟨_, rfl⟩
      rw [← he] at hln hst hpm
      obtain ⟨b, hb⟩ : ∃ b, b = balL (pst (l.take i)) k := ⟨_, rfl⟩
      have hbb := bal_bd (l := pst (l.take i)) (fun p h => ha p (pst_sub h)) k
      rw [← hb] at hbb
      rw [← hb]
      refine aw_skip ?_
      try simp only [go_sem, ↓reduceIte, Nat.reduceEqDiff, reduceCtorEq, Nat.reduceAdd, Nat.reduceLT, Nat.reduceLeDiff, Nat.reduceBNe, Nat.reduceBEq, Int.reduceToNat]
      refine aw_seq ?_
      refine aw_block ?_
      refine aw_seq (aw_region (EF := EF0) hG (by rw [hN]; exact tr31_5) ?_)
      simp only [a31_5, go_sem, ↓reduceIte, Nat.reduceEqDiff, reduceCtorEq, Nat.reduceAdd, Nat.reduceLT, Nat.reduceLeDiff, Nat.reduceBNe, Nat.reduceBEq, Int.reduceToNat]
      refine aw_block ?_
      refine aw_loop (α := Nat) (fun j => (j ≤ e.posts.length)) (fun j => ⟨mkE [(0, V.list (List.map Entry.enc l) false), (1, V.str k), (5, .int .i64 (b + balL (e.posts.take j) k)), (6, V.int IntKind.i64 ↑i), (7, .int .i64 j)], mkH []⟩) (fun j => e.posts.length - j) 0 (Nat.zero_le _) ?_ ?_
      · refine Le.mk _ _ ?_ ?_ rfl <;> simp only [go_sem, ↓reduceIte, Nat.reduceEqDiff, reduceCtorEq, Nat.reduceAdd, Nat.reduceLT, Nat.reduceLeDiff, Nat.reduceBNe, Nat.reduceBEq, Int.reduceToNat, List.take_zero, balL, Int.add_zero] <;> (repeat' apply And.intro) <;> (try first | rfl | exact wk_frzb rfl rfl rfl | exact wk_fn rfl | exact .nilo _ _ _ rfl rfl | exact wk_frzm rfl rfl (fun kv hk => by obtain ⟨_, _, rfl⟩ := List.mem_map.1 hk; rfl))
      · rintro j hj KL2 hKL2
        try dsimp only at *
        refine aw_seq ?_
        refine aw_seq (aw_region (EF := EF0) hG (by rw [hN]; exact tr31_6) ?_)
        simp only [a31_6, go_sem, ↓reduceIte, Nat.reduceEqDiff, reduceCtorEq, Nat.reduceAdd, Nat.reduceLT, Nat.reduceLeDiff, Nat.reduceBNe, Nat.reduceBEq, Int.reduceToNat, getD_mapd _ _ _ _ hc, ← he, Entry.enc, hc, List.length_map]
        (repeat' apply And.intro) <;> (try first | omega | ((fail_if_success refine idW ?_); (fail_if_success refine idS ?_); intros; (repeat' apply And.intro) <;> first | assumption | omega | (simp_all; done)))
        refine aw_cond (b := _) rfl (fun hb6 => ?_) (fun hb6 => ?_)
        · skip
          have hc6 : j < e.posts.length := by simp at hb6; omega
          have hbs := bal_step hc6 k
          have hpa := ha e.posts[j] (hpm _ (List.getElem_mem _))
          obtain ⟨p, hp2⟩ : ∃ p, p = e.posts[j] := ⟨_, rfl⟩
          rw [← hp2] at hbs hpa
          have hbj := bal_bd (l := e.posts.take j) (fun p h => ha p (hpm p (List.mem_of_mem_take h))) k
          have hlj : (e.posts.take j).length = j := by rw [List.length_take]; omega
          rw [hlj] at hbj
          refine aw_skip ?_
          try simp only [go_sem, ↓reduceIte, Nat.reduceEqDiff, reduceCtorEq, Nat.reduceAdd, Nat.reduceLT, Nat.reduceLeDiff, Nat.reduceBNe, Nat.reduceBEq, Int.reduceToNat]
          refine aw_seq ?_
          refine aw_block ?_
          refine aw_seq (aw_region (EF := EF0) hG (by rw [hN]; exact tr31_8) ?_)
          simp only [a31_8, go_sem, ↓reduceIte, Nat.reduceEqDiff, reduceCtorEq, Nat.reduceAdd, Nat.reduceLT, Nat.reduceLeDiff, Nat.reduceBNe, Nat.reduceBEq, Int.reduceToNat, getD_mapd _ _ _ _ hc, ← he, Entry.enc, getD_mapd _ _ _ _ hc6, ← hp2, Post.enc, hc, hc6, List.length_map]
          (repeat' apply And.intro) <;> (try first | omega | ((fail_if_success refine idW ?_); (fail_if_success refine idS ?_); intros; (repeat' apply And.intro) <;> first | assumption | omega | (simp_all; done)))
          refine aw_cond (b := _) rfl (fun hb8 => ?_) (fun hb8 => ?_)
          · skip
            have hac : p.account = k := by simpa using hb8
            have hT : b + balL (e.posts.take j) k + p.amount = b + balL (e.posts.take (j + 1)) k := by rw [hbs, if_pos hac]; omega
            refine aw_region (EF := EF0) hG (by rw [hN]; exact tr31_9) ?_
            simp only [a31_9, go_sem, ↓reduceIte, Nat.reduceEqDiff, reduceCtorEq, Nat.reduceAdd, Nat.reduceLT, Nat.reduceLeDiff, Nat.reduceBNe, Nat.reduceBEq, Int.reduceToNat, inI, getD_mapd _ _ _ _ hc, ← he, Entry.enc, getD_mapd _ _ _ _ hc6, ← hp2, Post.enc, hc, hc6, List.length_map]
            (repeat' apply And.intro) <;> (try first | omega | ((fail_if_success refine idW ?_); (fail_if_success refine idS ?_); intros; (repeat' apply And.intro) <;> first | assumption | omega | (simp_all; done)))
            refine aw_region (EF := EF0) hG (by rw [hN]; exact tr31_7) ?_
            simp only [a31_7, go_sem, ↓reduceIte, Nat.reduceEqDiff, reduceCtorEq, Nat.reduceAdd, Nat.reduceLT, Nat.reduceLeDiff, Nat.reduceBNe, Nat.reduceBEq, Int.reduceToNat, inI]
            (repeat' apply And.intro) <;> (try first | omega | ((fail_if_success refine idW ?_); (fail_if_success refine idS ?_); intros; (repeat' apply And.intro) <;> first | assumption | omega | (simp_all; done)))
            refine hKL2 (j + 1) _ ?_ ?_ ?_
            · (try dsimp only); exact hc6
            · (try dsimp only); omega
            · refine Le.mk _ _ ?_ ?_ rfl <;> simp only [go_sem, ↓reduceIte, Nat.reduceEqDiff, reduceCtorEq, Nat.reduceAdd, Nat.reduceLT, Nat.reduceLeDiff, Nat.reduceBNe, Nat.reduceBEq, Int.reduceToNat, hT] <;> (repeat' apply And.intro) <;> (try first | rfl | exact wk_frzb rfl rfl rfl | exact wk_fn rfl | exact .nilo _ _ _ rfl rfl | exact wk_frzm rfl rfl (fun kv hk => by obtain ⟨_, _, rfl⟩ := List.mem_map.1 hk; rfl))
          · skip
            have hac : ¬ p.account = k := by simpa using hb8
            have hT : b + balL (e.posts.take j) k = b + balL (e.posts.take (j + 1)) k := by rw [hbs, if_neg hac]; omega
            refine aw_skip ?_
            try simp only [go_sem, ↓reduceIte, Nat.reduceEqDiff, reduceCtorEq, Nat.reduceAdd, Nat.reduceLT, Nat.reduceLeDiff, Nat.reduceBNe, Nat.reduceBEq, Int.reduceToNat]
            refine aw_region (EF := EF0) hG (by rw [hN]; exact tr31_7) ?_
            simp only [a31_7, go_sem, ↓reduceIte, Nat.reduceEqDiff, reduceCtorEq, Nat.reduceAdd, Nat.reduceLT, Nat.reduceLeDiff, Nat.reduceBNe, Nat.reduceBEq, Int.reduceToNat, inI]
            (repeat' apply And.intro) <;> (try first | omega | ((fail_if_success refine idW ?_); (fail_if_success refine idS ?_); intros; (repeat' apply And.intro) <;> first | assumption | omega | (simp_all; done)))
            refine hKL2 (j + 1) _ ?_ ?_ ?_
            · (try dsimp only); exact hc6
            · (try dsimp only); omega
            · refine Le.mk _ _ ?_ ?_ rfl <;> simp only [go_sem, ↓reduceIte, Nat.reduceEqDiff, reduceCtorEq, Nat.reduceAdd, Nat.reduceLT, Nat.reduceLeDiff, Nat.reduceBNe, Nat.reduceBEq, Int.reduceToNat, hT] <;> (repeat' apply And.intro) <;> (try first | rfl | exact wk_frzb rfl rfl rfl | exact wk_fn rfl | exact .nilo _ _ _ rfl rfl | exact wk_frzm rfl rfl (fun kv hk => by obtain ⟨_, _, rfl⟩ := List.mem_map.1 hk; rfl))
        · skip
          obtain rfl : j = e.posts.length := by simp at hb6; omega
          have hbe : b + balL (e.posts.take e.posts.length) k = balL (pst (l.take (i + 1))) k := by rw [List.take_length, hst, balL_app, hb]
          refine aw_exit ?_
          simp only [go_sem, ↓reduceIte, Nat.reduceEqDiff, reduceCtorEq, Nat.reduceAdd, Nat.reduceLT, Nat.reduceLeDiff, Nat.reduceBNe, Nat.reduceBEq, Int.reduceToNat]
          refine aw_region (EF := EF0) hG (by rw [hN]; exact tr31_4) ?_
          simp only [a31_4, go_sem, ↓reduceIte, Nat.reduceEqDiff, reduceCtorEq, Nat.reduceAdd, Nat.reduceLT, Nat.reduceLeDiff, Nat.reduceBNe, Nat.reduceBEq, Int.reduceToNat, inI]
          (repeat' apply And.intro) <;> (try first | omega | ((fail_if_success refine idW ?_); (fail_if_success refine idS ?_); intros; (repeat' apply And.intro) <;> first | assumption | omega | (simp_all; done)))
          refine hKL0 (i + 1) _ ?_ ?_ ?_
          · (try dsimp only); exact hc
          · (try dsimp only); omega
          · refine Le.mk _ _ ?_ ?_ rfl <;> simp only [go_sem, ↓reduceIte, Nat.reduceEqDiff, reduceCtorEq, Nat.reduceAdd, Nat.reduceLT, Nat.reduceLeDiff, Nat.reduceBNe, Nat.reduceBEq, Int.reduceToNat, hbe] <;> (repeat' apply And.intro) <;> (try first | rfl | exact wk_frzb rfl rfl rfl | exact wk_fn rfl | exact .nilo _ _ _ rfl rfl | exact wk_frzm rfl rfl (fun kv hk => by obtain ⟨_, _, rfl⟩ := List.mem_map.1 hk; rfl))
    · skip
      obtain rfl : i = l.length := by simp at hb3; omega
      rw [List.take_length]
      refine aw_exit ?_
      simp only [go_sem, ↓reduceIte, Nat.reduceEqDiff, reduceCtorEq, Nat.reduceAdd, Nat.reduceLT, Nat.reduceLeDiff, Nat.reduceBNe, Nat.reduceBEq, Int.reduceToNat]
      refine aw_seq (aw_region (EF := EF0) hG (by rw [hN]; exact tr31_10) ?_)
      simp only [a31_10, go_sem, ↓reduceIte, Nat.reduceEqDiff, reduceCtorEq, Nat.reduceAdd, Nat.reduceLT, Nat.reduceLeDiff, Nat.reduceBNe, Nat.reduceBEq, Int.reduceToNat]
      refine aw_ret ?_
      show Q _ _
      refine hQ _ _ (.inl rfl) ?_ ?_ ?_ <;> simp only [outφ, outV, AR.res, go_sem, ↓reduceIte, Nat.reduceEqDiff, reduceCtorEq, Nat.reduceAdd, Nat.reduceLT, Nat.reduceLeDiff, Nat.reduceBNe, Nat.reduceBEq, Int.reduceToNat, fBal]
/-! A post put in order. -/
def aPp (x : List Post × Post) : List V := [.list (x.1.map Post.enc) false, .agg x.2.enc]
theorem aPp_inj (a b : List Post × Post) (h : aPp a = aPp b) : a = b := by
  obtain ⟨a_l, a_p⟩ := a
  obtain ⟨b_l, b_p⟩ := b
  simp only [aPp, List.cons.injEq, V.str.injEq, V.int.injEq, V.bool.injEq, V.agg.injEq, V.list.injEq, and_true, true_and] at h
  obtain ⟨h0, h1⟩ := h
  replace h0 := map_inj' Post.inj h0
  subst h0
  replace h1 := Post.inj _ _ h1
  subst h1
  rfl
def fIns (x : List Post × Post) : Prop × V := (x.1.length ≤ 100000000, .list ((insP x.1 x.2).map Post.enc) false)
theorem fIns_eq (l : List Post) (p : Post) : gOf aPp fIns [.list (l.map Post.enc) false, .agg [.str p.account, .int .i64 p.amount]] = (l.length ≤ 100000000, .list ((insP l p).map Post.enc) false) := gOf_eq aPp_inj (l, p)
theorem insP_at {l : List Post} {i : Nat} (h : i < l.length) (p : Post) : insP (l.drop i) p = if slt l[i].account p.account = true then l[i] :: insP (l.drop (i + 1)) p else if l[i].account = p.account then l[i] :: l.drop (i + 1) else p :: l[i] :: l.drop (i + 1) := by rw [List.drop_eq_getElem_cons h, insP]
def rstI (dn : Bool) (l : List Post) (p : Post) : List Post := if dn = true then l else insP l p
set_option maxHeartbeats 4000000 in
theorem insert_p : PureC Try.prog UT 34 (gOf aPp fIns) := by
  have hG := tNo_ok
  refine PureC.ofArgs aPp_inj Try.func34 body34 nm34 res34 ?_
  rintro ⟨l, p⟩ hv
  refine ⟨by rw [nt34]; simp [aPp], fun C hN Q hQ => ?_⟩
  rw [nt34] at hN
  unfold c34
  have hl : l.length ≤ 100000000 := hv
  refine aw_seq (aw_region (EF := EF0) hG (by rw [hN]; exact tr34_0) ?_)
  simp only [a34_0, go_sem, ↓reduceIte, Nat.reduceEqDiff, reduceCtorEq, Nat.reduceAdd, Nat.reduceLT, Nat.reduceLeDiff, Nat.reduceBNe, Nat.reduceBEq, Int.reduceToNat, aPp, Post.enc]
  refine aw_seq (aw_region (EF := EF0) hG (by rw [hN]; exact tr34_1) ?_)
  simp only [a34_1, go_sem, ↓reduceIte, Nat.reduceEqDiff, reduceCtorEq, Nat.reduceAdd, Nat.reduceLT, Nat.reduceLeDiff, Nat.reduceBNe, Nat.reduceBEq, Int.reduceToNat]
  refine aw_seq (aw_region (EF := EF0) hG (by rw [hN]; exact tr34_2) ?_)
  simp only [a34_2, go_sem, ↓reduceIte, Nat.reduceEqDiff, reduceCtorEq, Nat.reduceAdd, Nat.reduceLT, Nat.reduceLeDiff, Nat.reduceBNe, Nat.reduceBEq, Int.reduceToNat]
  refine AW.le (s' := ⟨mkE [(0, .list (l.map Post.enc) false), (3, .ptr 3 0), (5, .own 999 0), (6, .bool false)], mkH ([(3, .box 43 [.str p.account, .int .i64 p.amount]), (999, .arr 43 2 [])])⟩) (Le.mk _ _ (by (simp only [go_sem, ↓reduceIte, Nat.reduceEqDiff, reduceCtorEq, Nat.reduceAdd, Nat.reduceLT, Nat.reduceLeDiff, Nat.reduceBNe, Nat.reduceBEq, Int.reduceToNat]) <;> (repeat' apply And.intro) <;> (try first | exact wk_frzb rfl rfl rfl | rfl | exact wk_fn rfl | exact .nill _ | exact .nilo _ _ _ rfl rfl | exact wk_frz rfl (by simp only [ints_len, nats_len]) rfl (ints_pur _) | exact wk_frzm rfl rfl (fun kv hk => by obtain ⟨_, _, rfl⟩ := List.mem_map.1 hk; rfl))) (by (simp only [go_sem, ↓reduceIte, Nat.reduceEqDiff, reduceCtorEq, Nat.reduceAdd, Nat.reduceLT, Nat.reduceLeDiff, Nat.reduceBNe, Nat.reduceBEq, Int.reduceToNat]) <;> (repeat' apply And.intro) <;> (try first | exact wk_frzb rfl rfl rfl | rfl | exact wk_fn rfl | exact .nill _ | exact .nilo _ _ _ rfl rfl | exact wk_frz rfl (by simp only [ints_len, nats_len]) rfl (ints_pur _) | exact wk_frzm rfl rfl (fun kv hk => by obtain ⟨_, _, rfl⟩ := List.mem_map.1 hk; rfl))) rfl) ?_
  refine aw_seq ?_
  refine aw_seq (aw_region (EF := EF0) hG (by rw [hN]; exact tr34_3) ?_)
  simp only [a34_3, go_sem, ↓reduceIte, Nat.reduceEqDiff, reduceCtorEq, Nat.reduceAdd, Nat.reduceLT, Nat.reduceLeDiff, Nat.reduceBNe, Nat.reduceBEq, Int.reduceToNat]
  refine aw_block ?_
  refine aw_loop (α := Nat × Bool × (List Post)) (fun γ => (γ.1 ≤ l.length) ∧ (insP l p = γ.2.2 ++ rstI γ.2.1 (l.drop γ.1) p) ∧ (γ.2.2.length ≤ 2 * γ.1 + 1)) (fun γ => ⟨mkE [(0, V.list (List.map Post.enc l) false), (3, V.ptr 3 0), (5, .own 999 γ.2.2.length), (6, .bool γ.2.1), (7, .int .i64 γ.1)], mkH [(3, Ob.box 43 [V.str p.account, V.int IntKind.i64 p.amount]), (999, .arr 43 2 (γ.2.2.map Post.enc))]⟩) (fun γ => l.length - γ.1) (0, false, []) ⟨Nat.zero_le _, rfl, Nat.zero_le _⟩ ?_ ?_
  · refine Le.mk _ _ ?_ ?_ rfl <;> simp only [go_sem, ↓reduceIte, Nat.reduceEqDiff, reduceCtorEq, Nat.reduceAdd, Nat.reduceLT, Nat.reduceLeDiff, Nat.reduceBNe, Nat.reduceBEq, Int.reduceToNat, List.map_nil, List.length_nil] <;> (repeat' apply And.intro) <;> (try first | rfl | exact wk_frzb rfl rfl rfl | exact wk_fn rfl | exact .nilo _ _ _ rfl rfl | exact wk_frzm rfl rfl (fun kv hk => by obtain ⟨_, _, rfl⟩ := List.mem_map.1 hk; rfl))
  · rintro ⟨i, dn, o⟩ ⟨hi, he, ho⟩ KL0 hKL0
    try dsimp only at *
    refine aw_seq ?_
    refine aw_seq (aw_region (EF := EF0) hG (by rw [hN]; exact tr34_4) ?_)
    simp only [a34_4, go_sem, ↓reduceIte, Nat.reduceEqDiff, reduceCtorEq, Nat.reduceAdd, Nat.reduceLT, Nat.reduceLeDiff, Nat.reduceBNe, Nat.reduceBEq, Int.reduceToNat, List.length_map]
    refine aw_cond (b := _) rfl (fun hb4 => ?_) (fun hb4 => ?_)
    · skip
      have hc : i < l.length := by simp at hb4; omega
      have hia := insP_at hc p
      have hdr : l.drop i = l[i] :: l.drop (i + 1) := List.drop_eq_getElem_cons hc
      obtain ⟨x, hx⟩ : ∃ x, x = l[i] := ⟨_, rfl⟩
      rw [← hx] at hia hdr
      refine aw_skip ?_
      try simp only [go_sem, ↓reduceIte, Nat.reduceEqDiff, reduceCtorEq, Nat.reduceAdd, Nat.reduceLT, Nat.reduceLeDiff, Nat.reduceBNe, Nat.reduceBEq, Int.reduceToNat]
      refine aw_seq ?_
      refine aw_block ?_
      refine aw_cut (α := Bool × (List Post)) (fun γ => (insP l p = γ.2 ++ x :: rstI γ.1 (l.drop (i + 1)) p) ∧ (γ.2.length ≤ 2 * i + 2)) (fun γ => ⟨mkE [(0, V.list (List.map Post.enc l) false), (3, V.ptr 3 0), (5, .own 999 γ.2.length), (6, .bool γ.1), (7, V.int IntKind.i64 ↑i)], mkH [(3, Ob.box 43 [V.str p.account, V.int IntKind.i64 p.amount]), (999, .arr 43 2 (γ.2.map Post.enc))]⟩) ?_ ?_
      · intro KC6 hKC6
        refine aw_seq (aw_regionD (EF := EF0) hG mixed (by rw [hN]; exact tr34_6) ok34_6 ?_)
        simp only [a34_6, d34_6, go_sem, ↓reduceIte, Nat.reduceEqDiff, reduceCtorEq, Nat.reduceAdd, Nat.reduceLT, Nat.reduceLeDiff, Nat.reduceBNe, Nat.reduceBEq, Int.reduceToNat, getD_mapd _ _ _ _ hc, ← hx, Post.enc, hc, List.length_map]
        refine aw_cond (b := _) rfl (fun hb6 => ?_) (fun hb6 => ?_)
        · skip
          have hd6 : dn = false ∧ slt x.account p.account = false := by simpa using hb6
          obtain ⟨rfl, hs6⟩ := hd6
          rw [rstI, if_neg (by decide), hia, if_neg (by rw [hs6]; decide)] at he
          refine aw_seq (aw_region (EF := EF0) hG (by rw [hN]; exact tr34_7) ?_)
          simp only [a34_7, go_sem, ↓reduceIte, Nat.reduceEqDiff, reduceCtorEq, Nat.reduceAdd, Nat.reduceLT, Nat.reduceLeDiff, Nat.reduceBNe, Nat.reduceBEq, Int.reduceToNat]
          refine aw_seq (aw_regionD (EF := EF0) hG mixed (by rw [hN]; exact tr34_8) ok34_8 ?_)
          simp only [a34_8, d34_8, go_sem, ↓reduceIte, Nat.reduceEqDiff, reduceCtorEq, Nat.reduceAdd, Nat.reduceLT, Nat.reduceLeDiff, Nat.reduceBNe, Nat.reduceBEq, Int.reduceToNat, getD_mapd _ _ _ _ hc, ← hx, Post.enc, hc, List.length_map]
          (repeat' apply And.intro) <;> (try first | omega | ((fail_if_success refine idW ?_); (fail_if_success refine idS ?_); intros; (repeat' apply And.intro) <;> first | assumption | omega | (simp_all; done)))
          refine aw_cond (b := _) rfl (fun hb8 => ?_) (fun hb8 => ?_)
          · skip
            have hne : ¬ x.account = p.account := fun h => by rw [h, slt_irr] at hb8; cases hb8
            rw [if_neg hne] at he
            refine aw_region (EF := EF0) hG (by rw [hN]; exact tr34_9) ?_
            simp only [a34_9, go_sem, ↓reduceIte, Nat.reduceEqDiff, reduceCtorEq, Nat.reduceAdd, Nat.reduceLT, Nat.reduceLeDiff, Nat.reduceBNe, Nat.reduceBEq, Int.reduceToNat, List.length_map]
            refine ⟨by omega, ?_⟩
            refine hKC6 (true, o ++ [p]) _ ?_ ?_
            · (try dsimp only); exact ⟨by rw [he, rstI, if_pos rfl]; simp, by simp; omega⟩
            · refine Le.mk _ _ ?_ ?_ rfl <;> simp only [go_sem, ↓reduceIte, Nat.reduceEqDiff, reduceCtorEq, Nat.reduceAdd, Nat.reduceLT, Nat.reduceLeDiff, Nat.reduceBNe, Nat.reduceBEq, Int.reduceToNat, List.map_append, List.map_cons, List.map_nil, Post.enc, List.length_append, List.length_cons, List.length_nil] <;> (repeat' apply And.intro) <;> (try first | rfl | exact wk_frzb rfl rfl rfl | exact wk_fn rfl | exact .nilo _ _ _ rfl rfl | exact wk_frzm rfl rfl (fun kv hk => by obtain ⟨_, _, rfl⟩ := List.mem_map.1 hk; rfl))
          · skip
            have hne : x.account = p.account := by rcases slt_tri x.account p.account with h | h | h; rw [h] at hs6; cases hs6; exact h; rw [h] at hb8; cases hb8
            rw [if_pos hne] at he
            refine aw_skip ?_
            try simp only [go_sem, ↓reduceIte, Nat.reduceEqDiff, reduceCtorEq, Nat.reduceAdd, Nat.reduceLT, Nat.reduceLeDiff, Nat.reduceBNe, Nat.reduceBEq, Int.reduceToNat]
            refine hKC6 (true, o) _ ?_ ?_
            · (try dsimp only); exact ⟨by rw [he, rstI, if_pos rfl], by omega⟩
            · refine Le.mk _ _ ?_ ?_ rfl <;> simp only [go_sem, ↓reduceIte, Nat.reduceEqDiff, reduceCtorEq, Nat.reduceAdd, Nat.reduceLT, Nat.reduceLeDiff, Nat.reduceBNe, Nat.reduceBEq, Int.reduceToNat] <;> (repeat' apply And.intro) <;> (try first | rfl | exact wk_frzb rfl rfl rfl | exact wk_fn rfl | exact .nilo _ _ _ rfl rfl | exact wk_frzm rfl rfl (fun kv hk => by obtain ⟨_, _, rfl⟩ := List.mem_map.1 hk; rfl))
        · skip
          have hd6 : dn = true ∨ slt x.account p.account = true := by revert hb6; cases dn <;> simp
          refine aw_skip ?_
          try simp only [go_sem, ↓reduceIte, Nat.reduceEqDiff, reduceCtorEq, Nat.reduceAdd, Nat.reduceLT, Nat.reduceLeDiff, Nat.reduceBNe, Nat.reduceBEq, Int.reduceToNat]
          refine hKC6 (dn, o) _ ?_ ?_
          · (try dsimp only); exact ⟨by rw [he]; unfold rstI; cases dn with | true => (rw [if_pos rfl, if_pos rfl, hdr]) | false => (rw [if_neg (by decide), if_neg (by decide), hia, if_pos (hd6.resolve_left (by decide))]), by omega⟩
          · refine Le.mk _ _ ?_ ?_ rfl <;> simp only [go_sem, ↓reduceIte, Nat.reduceEqDiff, reduceCtorEq, Nat.reduceAdd, Nat.reduceLT, Nat.reduceLeDiff, Nat.reduceBNe, Nat.reduceBEq, Int.reduceToNat] <;> (repeat' apply And.intro) <;> (try first | rfl | exact wk_frzb rfl rfl rfl | exact wk_fn rfl | exact .nilo _ _ _ rfl rfl | exact wk_frzm rfl rfl (fun kv hk => by obtain ⟨_, _, rfl⟩ := List.mem_map.1 hk; rfl))
      · rintro ⟨dn2, o2⟩ ⟨h2, ho2⟩
        try dsimp only at *
        clear hia hdr he
        refine aw_region (EF := EF0) hG (by rw [hN]; exact tr34_10) ?_
        simp only [a34_10, go_sem, ↓reduceIte, Nat.reduceEqDiff, reduceCtorEq, Nat.reduceAdd, Nat.reduceLT, Nat.reduceLeDiff, Nat.reduceBNe, Nat.reduceBEq, Int.reduceToNat, getD_mapd _ _ _ _ hc, ← hx, Post.enc, hc, List.length_map]
        refine ⟨by omega, ?_⟩
        refine aw_region (EF := EF0) hG (by rw [hN]; exact tr34_5) ?_
        simp only [a34_5, go_sem, ↓reduceIte, Nat.reduceEqDiff, reduceCtorEq, Nat.reduceAdd, Nat.reduceLT, Nat.reduceLeDiff, Nat.reduceBNe, Nat.reduceBEq, Int.reduceToNat, inI]
        (repeat' apply And.intro) <;> (try first | omega | ((fail_if_success refine idW ?_); (fail_if_success refine idS ?_); intros; (repeat' apply And.intro) <;> first | assumption | omega | (simp_all; done)))
        refine hKL0 (i + 1, dn2, o2 ++ [x]) _ ?_ ?_ ?_
        · (try dsimp only); exact ⟨hc, by rw [h2]; simp, by simp; omega⟩
        · (try dsimp only); omega
        · refine Le.mk _ _ ?_ ?_ rfl <;> simp only [go_sem, ↓reduceIte, Nat.reduceEqDiff, reduceCtorEq, Nat.reduceAdd, Nat.reduceLT, Nat.reduceLeDiff, Nat.reduceBNe, Nat.reduceBEq, Int.reduceToNat, List.map_append, List.map_cons, List.map_nil, Post.enc, List.length_append, List.length_cons, List.length_nil] <;> (repeat' apply And.intro) <;> (try first | rfl | exact wk_frzb rfl rfl rfl | exact wk_fn rfl | exact .nilo _ _ _ rfl rfl | exact wk_frzm rfl rfl (fun kv hk => by obtain ⟨_, _, rfl⟩ := List.mem_map.1 hk; rfl))
    · skip
      obtain rfl : i = l.length := by simp at hb4; omega
      rw [List.drop_length] at he
      refine aw_exit ?_
      simp only [go_sem, ↓reduceIte, Nat.reduceEqDiff, reduceCtorEq, Nat.reduceAdd, Nat.reduceLT, Nat.reduceLeDiff, Nat.reduceBNe, Nat.reduceBEq, Int.reduceToNat]
      refine aw_seq ?_
      refine aw_seq (aw_region (EF := EF0) hG (by rw [hN]; exact tr34_11) ?_)
      simp only [a34_11, go_sem, ↓reduceIte, Nat.reduceEqDiff, reduceCtorEq, Nat.reduceAdd, Nat.reduceLT, Nat.reduceLeDiff, Nat.reduceBNe, Nat.reduceBEq, Int.reduceToNat]
      refine aw_cond (b := _) rfl (fun hb11 => ?_) (fun hb11 => ?_)
      · skip
        obtain rfl : dn = false := by simpa using hb11
        have hr : insP l p = o ++ [p] := by rw [he]; rfl
        have hrow : o.map Post.enc ++ [[.str p.account, .int .i64 p.amount]] = (insP l p).map Post.enc := by rw [hr]; simp [Post.enc]
        refine aw_region (EF := EF0) hG (by rw [hN]; exact tr34_12) ?_
        simp only [a34_12, go_sem, ↓reduceIte, Nat.reduceEqDiff, reduceCtorEq, Nat.reduceAdd, Nat.reduceLT, Nat.reduceLeDiff, Nat.reduceBNe, Nat.reduceBEq, Int.reduceToNat, List.length_map]
        refine ⟨by omega, ?_⟩
        refine aw_seq (aw_region (EF := EF0) hG (by rw [hN]; exact tr34_13) ?_)
        simp only [a34_13, go_sem, ↓reduceIte, Nat.reduceEqDiff, reduceCtorEq, Nat.reduceAdd, Nat.reduceLT, Nat.reduceLeDiff, Nat.reduceBNe, Nat.reduceBEq, Int.reduceToNat]
        refine AW.le (s' := ⟨mkE [(4, .list ((insP l p).map Post.enc) false)], mkH []⟩) (Le.mk _ _ ?_ ?_ rfl) (aw_ret (hQ _ _ (.inl rfl) ?_ ?_ ?_)) <;> simp only [outφ, outV, AR.res, go_sem, ↓reduceIte, Nat.reduceEqDiff, reduceCtorEq, Nat.reduceAdd, Nat.reduceLT, Nat.reduceLeDiff, Nat.reduceBNe, Nat.reduceBEq, Int.reduceToNat, fIns]
        · exact wk_frzO rfl (by simp) rfl (by rw [hrow]; exact (Post.purs _).2 trivial) hrow
      · skip
        obtain rfl : dn = true := by simpa using hb11
        have hr : insP l p = o := by rw [he]; simp [rstI]
        refine aw_skip ?_
        try simp only [go_sem, ↓reduceIte, Nat.reduceEqDiff, reduceCtorEq, Nat.reduceAdd, Nat.reduceLT, Nat.reduceLeDiff, Nat.reduceBNe, Nat.reduceBEq, Int.reduceToNat]
        refine aw_seq (aw_region (EF := EF0) hG (by rw [hN]; exact tr34_13) ?_)
        simp only [a34_13, go_sem, ↓reduceIte, Nat.reduceEqDiff, reduceCtorEq, Nat.reduceAdd, Nat.reduceLT, Nat.reduceLeDiff, Nat.reduceBNe, Nat.reduceBEq, Int.reduceToNat]
        refine AW.le (s' := ⟨mkE [(4, .list ((insP l p).map Post.enc) false)], mkH []⟩) (Le.mk _ _ ?_ ?_ rfl) (aw_ret (hQ _ _ (.inl rfl) ?_ ?_ ?_)) <;> simp only [outφ, outV, AR.res, go_sem, ↓reduceIte, Nat.reduceEqDiff, reduceCtorEq, Nat.reduceAdd, Nat.reduceLT, Nat.reduceLeDiff, Nat.reduceBNe, Nat.reduceBEq, Int.reduceToNat, fIns]
        · exact wk_frzO rfl (by simp) rfl ((Post.purs _).2 trivial) (by rw [hr])
end Go.Proofs.Ythfmdkpfaehpnaa
