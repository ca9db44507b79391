/- Transfers: of no balances; of the reference. -/
import Derived.Test.YtajobknfhbnjcaaSe6
namespace Go.Proofs.Ytajobknfhbnjcaa
open Go Go.RowKit
set_option linter.unusedSimpArgs false
set_option linter.unusedVariables false
set_option linter.deprecated false
noncomputable def tTr0 : Tab
  | 25 => (gOf aCF fCF)
  | 27 => gCl0
  | _ => gNo
theorem tTr0_ok : ∀ f, PureC Try.prog UT f (tTr0 f) := fun f => by
  unfold tTr0
  split
  · exact containsF_p
  · exact clone0_p
  · exact PureC.no
theorem fCF_nil : gOf aCF fCF [.list [] false, .fn 26 []] = (([] : List Post).length ≤ 140737488355328, .bool false) := gOf_eq aCF_inj []
set_option maxHeartbeats 4000000 in
theorem trans0_p : PureC Try.prog UT 12 (gOf aPosts fTr0) := by
  have hG := tTr0_ok
  refine PureC.ofArgs aPosts_inj Try.func12 body12 nm12 res12 ?_
  rintro l hv
  refine ⟨by rw [nt12]; simp [aPosts], fun C hN Q hQ => ?_⟩
  rw [nt12] at hN
  unfold c12
  obtain rfl : l = [] := hv
  refine aw_seq (aw_region (EF := EF0) hG (by rw [hN]; exact tr12_0) ?_)
  simp only [a12_0, go_sem, ↓reduceIte, Nat.reduceEqDiff, reduceCtorEq, Nat.reduceAdd, Nat.reduceLT, Nat.reduceLeDiff, Nat.reduceBNe, Nat.reduceBEq, Int.reduceToNat, aPosts, tTr0, fCF_nil, gCl0, List.map_nil, List.length_nil, Nat.lt_irrefl, decide_false, Int.natCast_zero, Int.lt_irrefl]
  refine aw_seq ?_
  refine aw_seq (aw_region (EF := EF0) hG (by rw [hN]; exact tr12_1) ?_)
  simp only [a12_1, go_sem, ↓reduceIte, Nat.reduceEqDiff, reduceCtorEq, Nat.reduceAdd, Nat.reduceLT, Nat.reduceLeDiff, Nat.reduceBNe, Nat.reduceBEq, Int.reduceToNat, tTr0, fCF_nil, gCl0, List.map_nil, List.length_nil, Nat.lt_irrefl, decide_false, Int.natCast_zero, Int.lt_irrefl]
  (repeat' apply And.intro) <;> (try first | omega | (intros; (repeat' apply And.intro) <;> first | assumption | omega | (simp_all; done)))
  refine aw_condF rfl ?_
  refine aw_skip ?_
  try simp only [go_sem, ↓reduceIte, Nat.reduceEqDiff, reduceCtorEq, Nat.reduceAdd, Nat.reduceLT, Nat.reduceLeDiff, Nat.reduceBNe, Nat.reduceBEq, Int.reduceToNat]
  refine aw_seq (aw_region (EF := EF0) hG (by rw [hN]; exact tr12_3) ?_)
  simp only [a12_3, go_sem, ↓reduceIte, Nat.reduceEqDiff, reduceCtorEq, Nat.reduceAdd, Nat.reduceLT, Nat.reduceLeDiff, Nat.reduceBNe, Nat.reduceBEq, Int.reduceToNat, tTr0, fCF_nil, gCl0, List.map_nil, List.length_nil, Nat.lt_irrefl, decide_false, Int.natCast_zero, Int.lt_irrefl]
  refine aw_seq (aw_region (EF := EF0) hG (by rw [hN]; exact tr12_4) ?_)
  simp only [a12_4, go_sem, ↓reduceIte, Nat.reduceEqDiff, reduceCtorEq, Nat.reduceAdd, Nat.reduceLT, Nat.reduceLeDiff, Nat.reduceBNe, Nat.reduceBEq, Int.reduceToNat, tTr0, fCF_nil, gCl0, List.map_nil, List.length_nil, Nat.lt_irrefl, decide_false, Int.natCast_zero, Int.lt_irrefl]
  refine aw_seq ?_
  refine aw_seq (aw_region (EF := EF0) hG (by rw [hN]; exact tr12_5) ?_)
  simp only [a12_5, go_sem, ↓reduceIte, Nat.reduceEqDiff, reduceCtorEq, Nat.reduceAdd, Nat.reduceLT, Nat.reduceLeDiff, Nat.reduceBNe, Nat.reduceBEq, Int.reduceToNat, tTr0, fCF_nil, gCl0, List.map_nil, List.length_nil, Nat.lt_irrefl, decide_false, Int.natCast_zero, Int.lt_irrefl]
  refine aw_block ?_
  refine aw_loop (α := Nat) (fun i => (i = 0)) (fun i => ⟨mkE [(0, V.list [] false), (4, V.map 15), (5, V.int IntKind.i64 0), (16, V.list [] false), (17, V.int IntKind.i64 0), (18, .int .i64 i)], mkH [(15, Ob.mp [])]⟩) (fun i => 0) 0 rfl ?_ ?_
  · refine Le.mk _ _ ?_ ?_ rfl <;> simp only [go_sem, ↓reduceIte, Nat.reduceEqDiff, reduceCtorEq, Nat.reduceAdd, Nat.reduceLT, Nat.reduceLeDiff, Nat.reduceBNe, Nat.reduceBEq, Int.reduceToNat] <;> (repeat' apply And.intro) <;> (try first | rfl | exact wk_frzb rfl rfl rfl | exact wk_fn rfl | exact .nilo _ _ _ rfl rfl | exact wk_frzm rfl rfl (fun kv hk => by obtain ⟨_, _, rfl⟩ := List.mem_map.1 hk; rfl))
  · rintro i hi KL0 hKL0
    try dsimp only at *
    subst hi
    refine aw_seq (aw_region (EF := EF0) hG (by rw [hN]; exact tr12_6) ?_)
    simp only [a12_6, go_sem, ↓reduceIte, Nat.reduceEqDiff, reduceCtorEq, Nat.reduceAdd, Nat.reduceLT, Nat.reduceLeDiff, Nat.reduceBNe, Nat.reduceBEq, Int.reduceToNat, tTr0, fCF_nil, gCl0, List.map_nil, List.length_nil, Nat.lt_irrefl, decide_false, Int.natCast_zero, Int.lt_irrefl]
    refine aw_seq ?_
    refine aw_condF rfl ?_
    refine aw_exit ?_
    simp only [go_sem, ↓reduceIte, Nat.reduceEqDiff, reduceCtorEq, Nat.reduceAdd, Nat.reduceLT, Nat.reduceLeDiff, Nat.reduceBNe, Nat.reduceBEq, Int.reduceToNat]
    refine aw_seq ?_
    refine aw_seq (aw_region (EF := EF0) hG (by rw [hN]; exact tr12_13) ?_)
    simp only [a12_13, go_sem, ↓reduceIte, Nat.reduceEqDiff, reduceCtorEq, Nat.reduceAdd, Nat.reduceLT, Nat.reduceLeDiff, Nat.reduceBNe, Nat.reduceBEq, Int.reduceToNat, tTr0, fCF_nil, gCl0, List.map_nil, List.length_nil, Nat.lt_irrefl, decide_false, Int.natCast_zero, Int.lt_irrefl]
    refine aw_condF rfl ?_
    refine aw_skip ?_
    try simp only [go_sem, ↓reduceIte, Nat.reduceEqDiff, reduceCtorEq, Nat.reduceAdd, Nat.reduceLT, Nat.reduceLeDiff, Nat.reduceBNe, Nat.reduceBEq, Int.reduceToNat]
    refine aw_seq (aw_region (EF := EF0) hG (by rw [hN]; exact tr12_15) ?_)
    simp only [a12_15, go_sem, ↓reduceIte, Nat.reduceEqDiff, reduceCtorEq, Nat.reduceAdd, Nat.reduceLT, Nat.reduceLeDiff, Nat.reduceBNe, Nat.reduceBEq, Int.reduceToNat, tTr0, fCF_nil, gCl0, List.map_nil, List.length_nil, Nat.lt_irrefl, decide_false, Int.natCast_zero, Int.lt_irrefl]
    (repeat' apply And.intro) <;> (try first | omega | (intros; (repeat' apply And.intro) <;> first | assumption | omega | (simp_all; done)))
    refine aw_seq (aw_region (EF := EF0) hG (by rw [hN]; exact tr12_16) ?_)
    simp only [a12_16, go_sem, ↓reduceIte, Nat.reduceEqDiff, reduceCtorEq, Nat.reduceAdd, Nat.reduceLT, Nat.reduceLeDiff, Nat.reduceBNe, Nat.reduceBEq, Int.reduceToNat, tTr0, fCF_nil, gCl0, List.map_nil, List.length_nil, Nat.lt_irrefl, decide_false, Int.natCast_zero, Int.lt_irrefl]
    refine aw_seq (aw_region (EF := EF0) hG (by rw [hN]; exact tr12_17) ?_)
    simp only [a12_17, go_sem, ↓reduceIte, Nat.reduceEqDiff, reduceCtorEq, Nat.reduceAdd, Nat.reduceLT, Nat.reduceLeDiff, Nat.reduceBNe, Nat.reduceBEq, Int.reduceToNat, tTr0, fCF_nil, gCl0, List.map_nil, List.length_nil, Nat.lt_irrefl, decide_false, Int.natCast_zero, Int.lt_irrefl]
    refine aw_block ?_
    refine aw_loop (α := Nat) (fun k => (k = 0)) (fun k => ⟨mkE [(8, V.list [] false), (9, V.nils), (10, .int .i64 k), (11, V.int IntKind.i64 0)], mkH []⟩) (fun k => 0) 0 rfl ?_ ?_
    · refine Le.mk _ _ ?_ ?_ rfl <;> simp only [go_sem, ↓reduceIte, Nat.reduceEqDiff, reduceCtorEq, Nat.reduceAdd, Nat.reduceLT, Nat.reduceLeDiff, Nat.reduceBNe, Nat.reduceBEq, Int.reduceToNat] <;> (repeat' apply And.intro) <;> (try first | rfl | exact wk_frzb rfl rfl rfl | exact wk_fn rfl | exact .nilo _ _ _ rfl rfl | exact wk_frzm rfl rfl (fun kv hk => by obtain ⟨_, _, rfl⟩ := List.mem_map.1 hk; rfl))
    · rintro k hk KL2 hKL2
      try dsimp only at *
      subst hk
      refine aw_block ?_
      refine aw_seq ?_
      refine aw_block ?_
      refine aw_loop (α := Nat) (fun j => (j = 0)) (fun j => ⟨mkE [(8, V.list [] false), (9, V.nils), (10, .int .i64 j), (11, V.int IntKind.i64 0)], mkH []⟩) (fun j => 0) 0 rfl ?_ ?_
      · refine Le.mk _ _ ?_ ?_ rfl <;> simp only [go_sem, ↓reduceIte, Nat.reduceEqDiff, reduceCtorEq, Nat.reduceAdd, Nat.reduceLT, Nat.reduceLeDiff, Nat.reduceBNe, Nat.reduceBEq, Int.reduceToNat] <;> (repeat' apply And.intro) <;> (try first | rfl | exact wk_frzb rfl rfl rfl | exact wk_fn rfl | exact .nilo _ _ _ rfl rfl | exact wk_frzm rfl rfl (fun kv hk => by obtain ⟨_, _, rfl⟩ := List.mem_map.1 hk; rfl))
      · rintro j hj KL4 hKL4
        try dsimp only at *
        subst hj
        refine aw_seq ?_
        refine aw_seq (aw_region (EF := EF0) hG (by rw [hN]; exact tr12_18) ?_)
        simp only [a12_18, go_sem, ↓reduceIte, Nat.reduceEqDiff, reduceCtorEq, Nat.reduceAdd, Nat.reduceLT, Nat.reduceLeDiff, Nat.reduceBNe, Nat.reduceBEq, Int.reduceToNat, tTr0, fCF_nil, gCl0, List.map_nil, List.length_nil, Nat.lt_irrefl, decide_false, Int.natCast_zero, Int.lt_irrefl]
        (repeat' apply And.intro) <;> (try first | omega | (intros; (repeat' apply And.intro) <;> first | assumption | omega | (simp_all; done)))
        refine aw_condF rfl ?_
        refine aw_exit ?_
        simp only [go_sem, ↓reduceIte, Nat.reduceEqDiff, reduceCtorEq, Nat.reduceAdd, Nat.reduceLT, Nat.reduceLeDiff, Nat.reduceBNe, Nat.reduceBEq, Int.reduceToNat]
        refine aw_seq ?_
        refine aw_block ?_
        refine aw_loop (α := Nat) (fun m => (m = 0)) (fun m => ⟨mkE [(8, V.list [] false), (9, V.nils), (10, V.int IntKind.i64 0), (11, .int .i64 m)], mkH []⟩) (fun m => 0) 0 rfl ?_ ?_
        · refine Le.mk _ _ ?_ ?_ rfl <;> simp only [go_sem, ↓reduceIte, Nat.reduceEqDiff, reduceCtorEq, Nat.reduceAdd, Nat.reduceLT, Nat.reduceLeDiff, Nat.reduceBNe, Nat.reduceBEq, Int.reduceToNat] <;> (repeat' apply And.intro) <;> (try first | rfl | exact wk_frzb rfl rfl rfl | exact wk_fn rfl | exact .nilo _ _ _ rfl rfl | exact wk_frzm rfl rfl (fun kv hk => by obtain ⟨_, _, rfl⟩ := List.mem_map.1 hk; rfl))
        · rintro m hm KL6 hKL6
          try dsimp only at *
          subst hm
          refine aw_seq ?_
          refine aw_seq (aw_region (EF := EF0) hG (by rw [hN]; exact tr12_20) ?_)
          simp only [a12_20, go_sem, ↓reduceIte, Nat.reduceEqDiff, reduceCtorEq, Nat.reduceAdd, Nat.reduceLT, Nat.reduceLeDiff, Nat.reduceBNe, Nat.reduceBEq, Int.reduceToNat, tTr0, fCF_nil, gCl0, List.map_nil, List.length_nil, Nat.lt_irrefl, decide_false, Int.natCast_zero, Int.lt_irrefl]
          (repeat' apply And.intro) <;> (try first | omega | (intros; (repeat' apply And.intro) <;> first | assumption | omega | (simp_all; done)))
          refine aw_condF rfl ?_
          refine aw_exit ?_
          simp only [go_sem, ↓reduceIte, Nat.reduceEqDiff, reduceCtorEq, Nat.reduceAdd, Nat.reduceLT, Nat.reduceLeDiff, Nat.reduceBNe, Nat.reduceBEq, Int.reduceToNat]
          refine aw_seq ?_
          refine aw_seq (aw_region (EF := EF0) hG (by rw [hN]; exact tr12_22) ?_)
          simp only [a12_22, go_sem, ↓reduceIte, Nat.reduceEqDiff, reduceCtorEq, Nat.reduceAdd, Nat.reduceLT, Nat.reduceLeDiff, Nat.reduceBNe, Nat.reduceBEq, Int.reduceToNat, tTr0, fCF_nil, gCl0, List.map_nil, List.length_nil, Nat.lt_irrefl, decide_false, Int.natCast_zero, Int.lt_irrefl]
          (repeat' apply And.intro) <;> (try first | omega | (intros; (repeat' apply And.intro) <;> first | assumption | omega | (simp_all; done)))
          refine aw_condT rfl ?_
          refine aw_seq (aw_region (EF := EF0) hG (by rw [hN]; exact tr12_23) ?_)
          simp only [a12_23, go_sem, ↓reduceIte, Nat.reduceEqDiff, reduceCtorEq, Nat.reduceAdd, Nat.reduceLT, Nat.reduceLeDiff, Nat.reduceBNe, Nat.reduceBEq, Int.reduceToNat, tTr0, fCF_nil, gCl0, List.map_nil, List.length_nil, Nat.lt_irrefl, decide_false, Int.natCast_zero, Int.lt_irrefl]
          refine AW.le (s' := ⟨mkE [(2, .list [] false), (3, .int .i64 0)], mkH []⟩) (Le.mk _ _ ?_ ?_ rfl) (aw_ret (hQ _ _ (.inl rfl) ?_ ?_ ?_)) <;> simp only [outφ, outV, AR.res, go_sem, ↓reduceIte, Nat.reduceEqDiff, reduceCtorEq, Nat.reduceAdd, Nat.reduceLT, Nat.reduceLeDiff, Nat.reduceBNe, Nat.reduceBEq, Int.reduceToNat, fTr0, trV]
          · rfl
theorem gOf_none {α : Type} {args : α → List V} {F : α → Prop × V} {vs : List V} (h : ∀ a, args a ≠ vs) : gOf args F vs = (False, .any) := by
  unfold gOf
  exact dif_neg fun ⟨a, e⟩ => h a e
theorem trans_p : PureC Try.prog UT 12 (gOf aPosts fTr) := PureC.or trans1_p trans0_p fun vs hv => by
  by_cases h : ∃ l, aPosts l = vs
  · obtain ⟨l, rfl⟩ := h
    rw [gOf_eq aPosts_inj] at hv ⊢
    rw [gOf_eq aPosts_inj, gOf_eq aPosts_inj]
    by_cases e : l = []
    · exact .inr ⟨e, rfl⟩
    · exact .inl ⟨⟨e, hv⟩, rfl⟩
  · rw [gOf_none (fun l e => h ⟨l, e⟩)] at hv
    exact hv.elim
/-! The reference. -/
def aFirst (x : List Post × Int) : List V := [.list (x.1.map Post.enc) false, .int .i64 x.2]
theorem aFirst_inj (a b : List Post × Int) (h : aFirst a = aFirst b) : a = b := by
  obtain ⟨a_l, a_s⟩ := a
  obtain ⟨b_l, b_s⟩ := b
  simp only [aFirst, List.cons.injEq, V.str.injEq, V.int.injEq, V.bool.injEq, V.agg.injEq, V.list.injEq, and_true, true_and] at h
  obtain ⟨h0, h1⟩ := h
  replace h0 := map_inj' Post.inj h0
  subst h0
  subst h1
  rfl
def sgB (s : Int) (x : Post) : Bool := decide (0 < s * x.amount)
def SgOk (l : List Post) (s : Int) : Prop := l.length ≤ 1000 ∧ (∀ x ∈ l, outB x.amount = false) ∧ (s = -1 ∨ s = 1)
def fFirst (x : List Post × Int) : Prop × V := (SgOk x.1 x.2, .int .i64 (idxOf (x.1.findIdx? (sgB x.2))))
theorem fFirst_eq (l : List Post) (s : Int) : gOf aFirst fFirst [.list (l.map Post.enc) false, .int .i64 s] = (SgOk l s, .int .i64 (idxOf (l.findIdx? (sgB s)))) := gOf_eq aFirst_inj (l, s)
theorem first_p : PureC Try.prog UT 28 (gOf aFirst fFirst) := by
  have hG := tNo_ok
  refine PureC.ofArgs aFirst_inj Try.func28 body28 nm28 res28 ?_
  rintro ⟨l, s⟩ hv
  refine ⟨by rw [nt28]; simp [aFirst], fun C hN Q hQ => ?_⟩
  rw [nt28] at hN
  unfold c28
  obtain ⟨hl, hb, hs⟩ : SgOk l s := hv
  refine aw_seq (aw_region (EF := EF0) hG (by rw [hN]; exact tr28_0) ?_)
  simp only [a28_0, go_sem, ↓reduceIte, Nat.reduceEqDiff, reduceCtorEq, Nat.reduceAdd, Nat.reduceLT, Nat.reduceLeDiff, Nat.reduceBNe, Nat.reduceBEq, Int.reduceToNat, aFirst]
  refine aw_seq ?_
  refine aw_seq (aw_region (EF := EF0) hG (by rw [hN]; exact tr28_1) ?_)
  simp only [a28_1, go_sem, ↓reduceIte, Nat.reduceEqDiff, reduceCtorEq, Nat.reduceAdd, Nat.reduceLT, Nat.reduceLeDiff, Nat.reduceBNe, Nat.reduceBEq, Int.reduceToNat]
  refine aw_block ?_
  refine aw_loop (α := Nat) (fun i => (i ≤ l.length) ∧ (∀ x ∈ l.take i, sgB s x = false)) (fun i => ⟨mkE [(0, V.list (List.map Post.enc l) false), (1, V.int IntKind.i64 s), (5, .int .i64 i)], mkH []⟩) (fun i => l.length - i) 0 (by simp) ?_ ?_
  · refine Le.mk _ _ ?_ ?_ rfl <;> simp only [go_sem, ↓reduceIte, Nat.reduceEqDiff, reduceCtorEq, Nat.reduceAdd, Nat.reduceLT, Nat.reduceLeDiff, Nat.reduceBNe, Nat.reduceBEq, Int.reduceToNat] <;> (repeat' apply And.intro) <;> (try first | rfl | exact wk_frzb rfl rfl rfl | exact wk_fn rfl | exact .nilo _ _ _ rfl rfl | exact wk_frzm rfl rfl (fun kv hk => by obtain ⟨_, _, rfl⟩ := List.mem_map.1 hk; rfl))
  · rintro i ⟨hi, hp⟩ KL0 hKL0
    try dsimp only at *
    refine aw_seq ?_
    refine aw_seq (aw_region (EF := EF0) hG (by rw [hN]; exact tr28_2) ?_)
    simp only [a28_2, go_sem, ↓reduceIte, Nat.reduceEqDiff, reduceCtorEq, Nat.reduceAdd, Nat.reduceLT, Nat.reduceLeDiff, Nat.reduceBNe, Nat.reduceBEq, Int.reduceToNat]
    refine aw_cond (b := _) rfl (fun hc2 => ?_) (fun hc2 => ?_)
    · simp only [decide_eq_true_eq, decide_eq_false_iff_not, Bool.and_eq_true, Bool.or_eq_true, Bool.not_eq_true', Bool.not_eq_false', Bool.and_eq_false_iff, Bool.or_eq_false_iff, Int.ofNat_lt, Int.ofNat_le, Nat.not_lt, Nat.not_le, Int.not_lt, Int.not_le] at hc2
      refine aw_skip ?_
      try simp only [go_sem, ↓reduceIte, Nat.reduceEqDiff, reduceCtorEq, Nat.reduceAdd, Nat.reduceLT, Nat.reduceLeDiff, Nat.reduceBNe, Nat.reduceBEq, Int.reduceToNat]
      refine aw_seq ?_
      refine aw_block ?_
      have hxb := out_bd (hb _ (List.getElem_mem hc2))
      generalize hxx : l[i] = x at hxb
      obtain ⟨a, n⟩ := x
      dsimp only at hxb
      have hsn : -1099511627776 ≤ s * n ∧ s * n ≤ 1099511627776 := by rcases hs with rfl | rfl <;> omega
      refine aw_seq (aw_region (EF := EF0) hG (by rw [hN]; exact tr28_4) ?_)
      simp only [a28_4, go_sem, ↓reduceIte, Nat.reduceEqDiff, reduceCtorEq, Nat.reduceAdd, Nat.reduceLT, Nat.reduceLeDiff, Nat.reduceBNe, Nat.reduceBEq, Int.reduceToNat, inI, getD_mapd _ _ _ _ hc2, hc2, hxx, Post.enc]
      (repeat' apply And.intro) <;> (try first | omega | (intros; (repeat' apply And.intro) <;> first | assumption | omega | (simp_all; done)))
      refine aw_cond (b := _) rfl (fun hb4 => ?_) (fun hb4 => ?_)
      · skip
        refine aw_seq (aw_region (EF := EF0) hG (by rw [hN]; exact tr28_5) ?_)
        simp only [a28_5, go_sem, ↓reduceIte, Nat.reduceEqDiff, reduceCtorEq, Nat.reduceAdd, Nat.reduceLT, Nat.reduceLeDiff, Nat.reduceBNe, Nat.reduceBEq, Int.reduceToNat]
        refine aw_ret ?_
        show Q _ _
        refine hQ _ _ (.inl rfl) ?_ ?_ ?_ <;> simp only [outφ, outV, AR.res, go_sem, ↓reduceIte, Nat.reduceEqDiff, reduceCtorEq, Nat.reduceAdd, Nat.reduceLT, Nat.reduceLeDiff, Nat.reduceBNe, Nat.reduceBEq, Int.reduceToNat, fFirst]
        rw [findIdx_at hc2 hp (by rw [hxx]; exact hb4)]; rfl
      · skip
        refine aw_skip ?_
        try simp only [go_sem, ↓reduceIte, Nat.reduceEqDiff, reduceCtorEq, Nat.reduceAdd, Nat.reduceLT, Nat.reduceLeDiff, Nat.reduceBNe, Nat.reduceBEq, Int.reduceToNat]
        refine aw_region (EF := EF0) hG (by rw [hN]; exact tr28_3) ?_
        simp only [a28_3, go_sem, ↓reduceIte, Nat.reduceEqDiff, reduceCtorEq, Nat.reduceAdd, Nat.reduceLT, Nat.reduceLeDiff, Nat.reduceBNe, Nat.reduceBEq, Int.reduceToNat, inI]
        (repeat' apply And.intro) <;> (try first | omega | (intros; (repeat' apply And.intro) <;> first | assumption | omega | (simp_all; done)))
        refine hKL0 (i + 1) _ ?_ ?_ ?_
        · (try dsimp only); exact ⟨hc2, take_all hc2 hp (by rw [hxx]; exact hb4)⟩
        · (try dsimp only); omega
        · refine Le.mk _ _ ?_ ?_ rfl <;> simp only [go_sem, ↓reduceIte, Nat.reduceEqDiff, reduceCtorEq, Nat.reduceAdd, Nat.reduceLT, Nat.reduceLeDiff, Nat.reduceBNe, Nat.reduceBEq, Int.reduceToNat] <;> (repeat' apply And.intro) <;> (try first | rfl | exact wk_frzb rfl rfl rfl | exact wk_fn rfl | exact .nilo _ _ _ rfl rfl | exact wk_frzm rfl rfl (fun kv hk => by obtain ⟨_, _, rfl⟩ := List.mem_map.1 hk; rfl))
    · simp only [decide_eq_true_eq, decide_eq_false_iff_not, Bool.and_eq_true, Bool.or_eq_true, Bool.not_eq_true', Bool.not_eq_false', Bool.and_eq_false_iff, Bool.or_eq_false_iff, Int.ofNat_lt, Int.ofNat_le, Nat.not_lt, Nat.not_le, Int.not_lt, Int.not_le] at hc2
      refine aw_exit ?_
      simp only [go_sem, ↓reduceIte, Nat.reduceEqDiff, reduceCtorEq, Nat.reduceAdd, Nat.reduceLT, Nat.reduceLeDiff, Nat.reduceBNe, Nat.reduceBEq, Int.reduceToNat]
      refine aw_seq (aw_region (EF := EF0) hG (by rw [hN]; exact tr28_6) ?_)
      simp only [a28_6, go_sem, ↓reduceIte, Nat.reduceEqDiff, reduceCtorEq, Nat.reduceAdd, Nat.reduceLT, Nat.reduceLeDiff, Nat.reduceBNe, Nat.reduceBEq, Int.reduceToNat]
      refine aw_ret ?_
      show Q _ _
      refine hQ _ _ (.inl rfl) ?_ ?_ ?_ <;> simp only [outφ, outV, AR.res, go_sem, ↓reduceIte, Nat.reduceEqDiff, reduceCtorEq, Nat.reduceAdd, Nat.reduceLT, Nat.reduceLeDiff, Nat.reduceBNe, Nat.reduceBEq, Int.reduceToNat, fFirst]
      rw [findIdx_no hc2 hp]; rfl
theorem sg_neg : sgB (-1) = negB := funext fun x => decide_eq_decide.2 (by omega)
theorem sg_pos : sgB 1 = posB := funext fun x => decide_eq_decide.2 (by omega)
theorem sumT_set {l : List Post} {i : Nat} (h : i < l.length) (x : Post) : sumT (l.set i x) = sumT l - l[i].amount + x.amount := by
  induction l generalizing i with
  | nil => simp at h
  | cons p l ih =>
    cases i with
    | zero => unfold sumT; simp; omega
    | succ i =>
      have := ih (i := i) (by simpa using h)
      unfold sumT at this ⊢
      simp only [List.set_cons_succ, List.map_cons, List.sum_cons, List.getElem_cons_succ]
      omega
theorem mov_sum {rest : List Post} {a b : Nat} (h : StepAt rest a b) : sumT (movT rest a b) = sumT rest := by
  have ha := h.ha
  have hb := h.hb
  unfold movT
  have hbs : b < (rest.set a (⟨(rest.getD a Post.zero).account, (rest.getD a Post.zero).amount + minA rest a b⟩ : Post)).length := by rw [List.length_set]; exact hb
  rw [sumT_set hbs, sumT_set ha, List.getElem_set_ne h.ne]
  dsimp only
  have e1 : (rest.getD a Post.zero).amount = rest[a].amount := congrArg Post.amount (getD_lt _ _ _ ha)
  have e2 : (rest.getD b Post.zero).amount = rest[b].amount := congrArg Post.amount (getD_lt _ _ _ hb)
  omega
theorem sum_neg {l : List Post} (h : ∀ x ∈ l, x.amount ≤ 0) : sumT l ≤ 0 ∧ (sumT l = 0 → ∀ x ∈ l, x.amount = 0) := by
  induction l with
  | nil => exact ⟨Int.le_refl _, fun _ x hx => by cases hx⟩
  | cons p l ih =>
    obtain ⟨h1, h2⟩ := ih fun x hx => h x (List.mem_cons_of_mem _ hx)
    have hp := h p (List.mem_cons_self ..)
    have e : sumT (p :: l) = p.amount + sumT l := by unfold sumT; simp
    refine ⟨by omega, fun h0 x hx => ?_⟩
    rcases List.mem_cons.1 hx with rfl | hx
    · omega
    · exact h2 (by omega) x hx
/-- With a sum of 0, who pays has somebody to pay. -/
theorem pos_of_neg {rest : List Post} {a : Nat} (hs : sumT rest = 0) (h : rest.findIdx? negB = some a) : ∃ b, rest.findIdx? posB = some b := by
  cases h2 : rest.findIdx? posB with
  | some b => exact ⟨b, rfl⟩
  | none =>
    have hle : ∀ x ∈ rest, x.amount ≤ 0 := fun x hx => by have := List.findIdx?_eq_none_iff.1 h2 x hx; have := of_decide_eq_false this; omega
    obtain ⟨ha, ha2, _⟩ := List.findIdx?_eq_some_iff_getElem.1 h
    have := (sum_neg hle).2 hs _ (List.getElem_mem ha)
    have := of_decide_eq_true ha2
    omega
noncomputable def trTr : Tab
  | 23 => (gOf aI fWithin)
  | 28 => (gOf aFirst fFirst)
  | _ => gNo
theorem trTr_ok : ∀ f, PureC Try.prog UT f (trTr f) := fun f => by
  unfold trTr
  split
  · exact within_p
  · exact first_p
  · exact PureC.no
set_option maxHeartbeats 8000000 in
theorem rtrans_p : PureC Try.prog UT 13 (gOf aPosts fTr) := by
  have hG := trTr_ok
  refine PureC.ofArgs aPosts_inj Try.func13 body13 nm13 res13 ?_
  rintro l hv
  refine ⟨by rw [nt13]; simp [aPosts], fun C hN Q hQ => ?_⟩
  rw [nt13] at hN
  unfold c13
  have hl : l.length ≤ 1000 := hv
  have hz0 : sumT [] = 0 := rfl
  refine aw_seq (aw_region (EF := EF0) hG (by rw [hN]; exact tr13_0) ?_)
  simp only [a13_0, go_sem, ↓reduceIte, Nat.reduceEqDiff, reduceCtorEq, Nat.reduceAdd, Nat.reduceLT, Nat.reduceLeDiff, Nat.reduceBNe, Nat.reduceBEq, Int.reduceToNat, aPosts, trTr, fWithin_eq]
  refine aw_seq (aw_region (EF := EF0) hG (by rw [hN]; exact tr13_1) ?_)
  simp only [a13_1, go_sem, ↓reduceIte, Nat.reduceEqDiff, reduceCtorEq, Nat.reduceAdd, Nat.reduceLT, Nat.reduceLeDiff, Nat.reduceBNe, Nat.reduceBEq, Int.reduceToNat, trTr, fWithin_eq]
  refine aw_seq ?_
  refine aw_seq (aw_region (EF := EF0) hG (by rw [hN]; exact tr13_2) ?_)
  simp only [a13_2, go_sem, ↓reduceIte, Nat.reduceEqDiff, reduceCtorEq, Nat.reduceAdd, Nat.reduceLT, Nat.reduceLeDiff, Nat.reduceBNe, Nat.reduceBEq, Int.reduceToNat, trTr, fWithin_eq]
  refine aw_block ?_
  refine aw_loop (α := Nat) (fun i => (i ≤ l.length) ∧ (∀ x ∈ l.take i, outB x.amount = false)) (fun i => ⟨mkE [(0, V.list (List.map Post.enc l) false), (4, V.int IntKind.i64 0), (5, .int .i64 i)], mkH []⟩) (fun i => l.length - i) 0 (by simp) ?_ ?_
  · refine Le.mk _ _ ?_ ?_ rfl <;> simp only [go_sem, ↓reduceIte, Nat.reduceEqDiff, reduceCtorEq, Nat.reduceAdd, Nat.reduceLT, Nat.reduceLeDiff, Nat.reduceBNe, Nat.reduceBEq, Int.reduceToNat] <;> (repeat' apply And.intro) <;> (try first | rfl | exact wk_frzb rfl rfl rfl | exact wk_fn rfl | exact .nilo _ _ _ rfl rfl | exact wk_frzm rfl rfl (fun kv hk => by obtain ⟨_, _, rfl⟩ := List.mem_map.1 hk; rfl))
  · rintro i ⟨hi, hp⟩ KL0 hKL0
    try dsimp only at *
    refine aw_seq ?_
    refine aw_seq (aw_region (EF := EF0) hG (by rw [hN]; exact tr13_3) ?_)
    simp only [a13_3, go_sem, ↓reduceIte, Nat.reduceEqDiff, reduceCtorEq, Nat.reduceAdd, Nat.reduceLT, Nat.reduceLeDiff, Nat.reduceBNe, Nat.reduceBEq, Int.reduceToNat, trTr, fWithin_eq]
    refine aw_cond (b := _) rfl (fun hc3 => ?_) (fun hc3 => ?_)
    · simp only [decide_eq_true_eq, decide_eq_false_iff_not, Bool.and_eq_true, Bool.or_eq_true, Bool.not_eq_true', Bool.not_eq_false', Bool.and_eq_false_iff, Bool.or_eq_false_iff, Int.ofNat_lt, Int.ofNat_le, Nat.not_lt, Nat.not_le, Int.not_lt, Int.not_le] at hc3
      refine aw_skip ?_
      try simp only [go_sem, ↓reduceIte, Nat.reduceEqDiff, reduceCtorEq, Nat.reduceAdd, Nat.reduceLT, Nat.reduceLeDiff, Nat.reduceBNe, Nat.reduceBEq, Int.reduceToNat]
      refine aw_seq ?_
      refine aw_block ?_
      generalize hxx : l[i] = x
      obtain ⟨a, n⟩ := x
      refine aw_seq (aw_region (EF := EF0) hG (by rw [hN]; exact tr13_5) ?_)
      simp only [a13_5, go_sem, ↓reduceIte, Nat.reduceEqDiff, reduceCtorEq, Nat.reduceAdd, Nat.reduceLT, Nat.reduceLeDiff, Nat.reduceBNe, Nat.reduceBEq, Int.reduceToNat, getD_mapd _ _ _ _ hc3, hc3, hxx, Post.enc, Bool.not_not, trTr, fWithin_eq]
      (repeat' apply And.intro) <;> (try first | omega | (intros; (repeat' apply And.intro) <;> first | assumption | omega | (simp_all; done)))
      refine aw_cond (b := _) rfl (fun hb5 => ?_) (fun hb5 => ?_)
      · skip
        refine aw_seq (aw_region (EF := EF0) hG (by rw [hN]; exact tr13_6) ?_)
        simp only [a13_6, go_sem, ↓reduceIte, Nat.reduceEqDiff, reduceCtorEq, Nat.reduceAdd, Nat.reduceLT, Nat.reduceLeDiff, Nat.reduceBNe, Nat.reduceBEq, Int.reduceToNat, trTr, fWithin_eq]
        refine AW.le (s' := ⟨mkE [(2, .list [] false), (3, .int .i64 11)], mkH []⟩) (Le.mk _ _ ?_ ?_ rfl) (aw_ret (hQ _ _ (.inl rfl) ?_ ?_ ?_)) <;> simp only [outφ, outV, AR.res, go_sem, ↓reduceIte, Nat.reduceEqDiff, reduceCtorEq, Nat.reduceAdd, Nat.reduceLT, Nat.reduceLeDiff, Nat.reduceBNe, Nat.reduceBEq, Int.reduceToNat, fTr, trV]
        · rw [trP, if_pos (any_at (p := fun x : Post => outB x.amount) hc3 (by rw [hxx]; exact hb5))]; rfl
      · skip
        refine aw_skip ?_
        try simp only [go_sem, ↓reduceIte, Nat.reduceEqDiff, reduceCtorEq, Nat.reduceAdd, Nat.reduceLT, Nat.reduceLeDiff, Nat.reduceBNe, Nat.reduceBEq, Int.reduceToNat]
        refine aw_region (EF := EF0) hG (by rw [hN]; exact tr13_4) ?_
        simp only [a13_4, go_sem, ↓reduceIte, Nat.reduceEqDiff, reduceCtorEq, Nat.reduceAdd, Nat.reduceLT, Nat.reduceLeDiff, Nat.reduceBNe, Nat.reduceBEq, Int.reduceToNat, inI, trTr, fWithin_eq]
        (repeat' apply And.intro) <;> (try first | omega | (intros; (repeat' apply And.intro) <;> first | assumption | omega | (simp_all; done)))
        refine hKL0 (i + 1) _ ?_ ?_ ?_
        · (try dsimp only); exact ⟨hc3, take_all (p := fun x : Post => outB x.amount = false) hc3 hp (by rw [hxx]; exact hb5)⟩
        · (try dsimp only); omega
        · refine Le.mk _ _ ?_ ?_ rfl <;> simp only [go_sem, ↓reduceIte, Nat.reduceEqDiff, reduceCtorEq, Nat.reduceAdd, Nat.reduceLT, Nat.reduceLeDiff, Nat.reduceBNe, Nat.reduceBEq, Int.reduceToNat] <;> (repeat' apply And.intro) <;> (try first | rfl | exact wk_frzb rfl rfl rfl | exact wk_fn rfl | exact .nilo _ _ _ rfl rfl | exact wk_frzm rfl rfl (fun kv hk => by obtain ⟨_, _, rfl⟩ := List.mem_map.1 hk; rfl))
    · simp only [decide_eq_true_eq, decide_eq_false_iff_not, Bool.and_eq_true, Bool.or_eq_true, Bool.not_eq_true', Bool.not_eq_false', Bool.and_eq_false_iff, Bool.or_eq_false_iff, Int.ofNat_lt, Int.ofNat_le, Nat.not_lt, Nat.not_le, Int.not_lt, Int.not_le] at hc3
      refine aw_exit ?_
      simp only [go_sem, ↓reduceIte, Nat.reduceEqDiff, reduceCtorEq, Nat.reduceAdd, Nat.reduceLT, Nat.reduceLeDiff, Nat.reduceBNe, Nat.reduceBEq, Int.reduceToNat]
      refine aw_seq ?_
      have hie : i = l.length := Nat.le_antisymm hi hc3
      subst hie
      rw [List.take_length] at hp
      have hno := hp
      have hany : ¬ ((l.any fun x => outB x.amount) = true) := by rw [List.any_eq_true]; rintro ⟨x, hx, h⟩; rw [hp x hx] at h; cases h
      refine aw_seq (aw_region (EF := EF0) hG (by rw [hN]; exact tr13_7) ?_)
      simp only [a13_7, go_sem, ↓reduceIte, Nat.reduceEqDiff, reduceCtorEq, Nat.reduceAdd, Nat.reduceLT, Nat.reduceLeDiff, Nat.reduceBNe, Nat.reduceBEq, Int.reduceToNat, trTr, fWithin_eq]
      refine aw_block ?_
      refine aw_loop (α := Nat) (fun i => (i ≤ l.length) ∧ (((l.take i).map (·.account)).Nodup)) (fun i => ⟨mkE [(0, V.list (List.map Post.enc l) false), (4, .int .i64 (sumT (l.take i))), (6, .int .i64 i)], mkH []⟩) (fun i => l.length - i) 0 ⟨Nat.zero_le _, by simp⟩ ?_ ?_
      · refine Le.mk _ _ ?_ ?_ rfl <;> simp only [go_sem, ↓reduceIte, Nat.reduceEqDiff, reduceCtorEq, Nat.reduceAdd, Nat.reduceLT, Nat.reduceLeDiff, Nat.reduceBNe, Nat.reduceBEq, Int.reduceToNat, hz0] <;> (repeat' apply And.intro) <;> (try first | rfl | exact wk_frzb rfl rfl rfl | exact wk_fn rfl | exact .nilo _ _ _ rfl rfl | exact wk_frzm rfl rfl (fun kv hk => by obtain ⟨_, _, rfl⟩ := List.mem_map.1 hk; rfl))
      · rintro i ⟨hi, hnd⟩ KL2 hKL2
        try dsimp only at *
        refine aw_seq ?_
        refine aw_seq (aw_region (EF := EF0) hG (by rw [hN]; exact tr13_8) ?_)
        simp only [a13_8, go_sem, ↓reduceIte, Nat.reduceEqDiff, reduceCtorEq, Nat.reduceAdd, Nat.reduceLT, Nat.reduceLeDiff, Nat.reduceBNe, Nat.reduceBEq, Int.reduceToNat, trTr, fWithin_eq]
        refine aw_cond (b := _) rfl (fun hc8 => ?_) (fun hc8 => ?_)
        · simp only [decide_eq_true_eq, decide_eq_false_iff_not, Bool.and_eq_true, Bool.or_eq_true, Bool.not_eq_true', Bool.not_eq_false', Bool.and_eq_false_iff, Bool.or_eq_false_iff, Int.ofNat_lt, Int.ofNat_le, Nat.not_lt, Nat.not_le, Int.not_lt, Int.not_le] at hc8
          refine aw_skip ?_
          try simp only [go_sem, ↓reduceIte, Nat.reduceEqDiff, reduceCtorEq, Nat.reduceAdd, Nat.reduceLT, Nat.reduceLeDiff, Nat.reduceBNe, Nat.reduceBEq, Int.reduceToNat]
          refine aw_seq ?_
          refine aw_block ?_
          refine aw_seq ?_
          have hst := sumT_step hc8
          have hbd := sumT_bd hno i hi
          have hxb := out_bd (hno _ (List.getElem_mem hc8))
          have hny := nodup_yes hc8 hnd
          have hnn := nodup_no (l := l) hc8
          generalize sumT (l.take i) = sm at hst hbd
          generalize hxx : l[i] = x at hst hxb hny hnn
          obtain ⟨a, n⟩ := x
          dsimp only at hst hxb hny hnn
          refine aw_seq (aw_region (EF := EF0) hG (by rw [hN]; exact tr13_10) ?_)
          simp only [a13_10, go_sem, ↓reduceIte, Nat.reduceEqDiff, reduceCtorEq, Nat.reduceAdd, Nat.reduceLT, Nat.reduceLeDiff, Nat.reduceBNe, Nat.reduceBEq, Int.reduceToNat, trTr, fWithin_eq]
          refine aw_block ?_
          refine aw_loop (α := Nat) (fun k => (k ≤ i) ∧ (∀ x ∈ l.take k, ¬ x.account = a)) (fun k => ⟨mkE [(0, V.list (List.map Post.enc l) false), (4, V.int IntKind.i64 sm), (6, V.int IntKind.i64 ↑i), (7, .int .i64 k)], mkH []⟩) (fun k => i - k) 0 (by simp) ?_ ?_
          · refine Le.mk _ _ ?_ ?_ rfl <;> simp only [go_sem, ↓reduceIte, Nat.reduceEqDiff, reduceCtorEq, Nat.reduceAdd, Nat.reduceLT, Nat.reduceLeDiff, Nat.reduceBNe, Nat.reduceBEq, Int.reduceToNat] <;> (repeat' apply And.intro) <;> (try first | rfl | exact wk_frzb rfl rfl rfl | exact wk_fn rfl | exact .nilo _ _ _ rfl rfl | exact wk_frzm rfl rfl (fun kv hk => by obtain ⟨_, _, rfl⟩ := List.mem_map.1 hk; rfl))
          · rintro k ⟨hk, hq⟩ KL4 hKL4
            try dsimp only at *
            refine aw_seq ?_
            refine aw_seq (aw_region (EF := EF0) hG (by rw [hN]; exact tr13_11) ?_)
            simp only [a13_11, go_sem, ↓reduceIte, Nat.reduceEqDiff, reduceCtorEq, Nat.reduceAdd, Nat.reduceLT, Nat.reduceLeDiff, Nat.reduceBNe, Nat.reduceBEq, Int.reduceToNat, trTr, fWithin_eq]
            refine aw_cond (b := _) rfl (fun hc11 => ?_) (fun hc11 => ?_)
            · simp only [decide_eq_true_eq, decide_eq_false_iff_not, Bool.and_eq_true, Bool.or_eq_true, Bool.not_eq_true', Bool.not_eq_false', Bool.and_eq_false_iff, Bool.or_eq_false_iff, Int.ofNat_lt, Int.ofNat_le, Nat.not_lt, Nat.not_le, Int.not_lt, Int.not_le] at hc11
              refine aw_skip ?_
              try simp only [go_sem, ↓reduceIte, Nat.reduceEqDiff, reduceCtorEq, Nat.reduceAdd, Nat.reduceLT, Nat.reduceLeDiff, Nat.reduceBNe, Nat.reduceBEq, Int.reduceToNat]
              refine aw_seq ?_
              refine aw_block ?_
              have hkl : k < l.length := by omega
              generalize hyy : l[k] = y
              obtain ⟨b, m⟩ := y
              refine aw_seq (aw_regionD (EF := EF0) hG mixed (by rw [hN]; exact tr13_13) ok13_13 ?_)
              simp only [a13_13, d13_13, go_sem, ↓reduceIte, Nat.reduceEqDiff, reduceCtorEq, Nat.reduceAdd, Nat.reduceLT, Nat.reduceLeDiff, Nat.reduceBNe, Nat.reduceBEq, Int.reduceToNat, getD_mapd _ _ _ _ hc8, hc8, hxx, getD_mapd _ _ _ _ hkl, hkl, hyy, Post.enc, trTr, fWithin_eq]
              (repeat' apply And.intro) <;> (try first | omega | (intros; (repeat' apply And.intro) <;> first | assumption | omega | (simp_all; done)))
              refine aw_cond (b := _) rfl (fun hb13 => ?_) (fun hb13 => ?_)
              · skip
                refine aw_seq (aw_region (EF := EF0) hG (by rw [hN]; exact tr13_14) ?_)
                simp only [a13_14, go_sem, ↓reduceIte, Nat.reduceEqDiff, reduceCtorEq, Nat.reduceAdd, Nat.reduceLT, Nat.reduceLeDiff, Nat.reduceBNe, Nat.reduceBEq, Int.reduceToNat, trTr, fWithin_eq]
                refine AW.le (s' := ⟨mkE [(2, .list [] false), (3, .int .i64 6)], mkH []⟩) (Le.mk _ _ ?_ ?_ rfl) (aw_ret (hQ _ _ (.inl rfl) ?_ ?_ ?_)) <;> simp only [outφ, outV, AR.res, go_sem, ↓reduceIte, Nat.reduceEqDiff, reduceCtorEq, Nat.reduceAdd, Nat.reduceLT, Nat.reduceLeDiff, Nat.reduceBNe, Nat.reduceBEq, Int.reduceToNat, fTr, trV]
                · rw [trP, if_neg hany, if_neg (hnn (List.mem_map.2 ⟨l[k], List.mem_take_iff_getElem.2 ⟨k, by omega, rfl⟩, by rw [hyy]; exact of_decide_eq_true hb13⟩))]; rfl
              · skip
                refine aw_skip ?_
                try simp only [go_sem, ↓reduceIte, Nat.reduceEqDiff, reduceCtorEq, Nat.reduceAdd, Nat.reduceLT, Nat.reduceLeDiff, Nat.reduceBNe, Nat.reduceBEq, Int.reduceToNat]
                refine aw_region (EF := EF0) hG (by rw [hN]; exact tr13_12) ?_
                simp only [a13_12, go_sem, ↓reduceIte, Nat.reduceEqDiff, reduceCtorEq, Nat.reduceAdd, Nat.reduceLT, Nat.reduceLeDiff, Nat.reduceBNe, Nat.reduceBEq, Int.reduceToNat, inI, trTr, fWithin_eq]
                (repeat' apply And.intro) <;> (try first | omega | (intros; (repeat' apply And.intro) <;> first | assumption | omega | (simp_all; done)))
                refine hKL4 (k + 1) _ ?_ ?_ ?_
                · (try dsimp only); exact ⟨by omega, take_allP hkl hq (by rw [hyy]; exact of_decide_eq_false hb13)⟩
                · (try dsimp only); omega
                · refine Le.mk _ _ ?_ ?_ rfl <;> simp only [go_sem, ↓reduceIte, Nat.reduceEqDiff, reduceCtorEq, Nat.reduceAdd, Nat.reduceLT, Nat.reduceLeDiff, Nat.reduceBNe, Nat.reduceBEq, Int.reduceToNat] <;> (repeat' apply And.intro) <;> (try first | rfl | exact wk_frzb rfl rfl rfl | exact wk_fn rfl | exact .nilo _ _ _ rfl rfl | exact wk_frzm rfl rfl (fun kv hk => by obtain ⟨_, _, rfl⟩ := List.mem_map.1 hk; rfl))
            · simp only [decide_eq_true_eq, decide_eq_false_iff_not, Bool.and_eq_true, Bool.or_eq_true, Bool.not_eq_true', Bool.not_eq_false', Bool.and_eq_false_iff, Bool.or_eq_false_iff, Int.ofNat_lt, Int.ofNat_le, Nat.not_lt, Nat.not_le, Int.not_lt, Int.not_le] at hc11
              refine aw_exit ?_
              simp only [go_sem, ↓reduceIte, Nat.reduceEqDiff, reduceCtorEq, Nat.reduceAdd, Nat.reduceLT, Nat.reduceLeDiff, Nat.reduceBNe, Nat.reduceBEq, Int.reduceToNat]
              have hki : k = i := by omega
              subst hki
              have hni : a ∉ (l.take k).map (·.account) := fun hm => by obtain ⟨x, hx, e⟩ := List.mem_map.1 hm; exact hq x hx e
              refine aw_region (EF := EF0) hG (by rw [hN]; exact tr13_15) ?_
              simp only [a13_15, go_sem, ↓reduceIte, Nat.reduceEqDiff, reduceCtorEq, Nat.reduceAdd, Nat.reduceLT, Nat.reduceLeDiff, Nat.reduceBNe, Nat.reduceBEq, Int.reduceToNat, inI, getD_mapd _ _ _ _ hc8, hc8, hxx, Post.enc, trTr, fWithin_eq]
              (repeat' apply And.intro) <;> (try first | omega | (intros; (repeat' apply And.intro) <;> first | assumption | omega | (simp_all; done)))
              refine aw_region (EF := EF0) hG (by rw [hN]; exact tr13_9) ?_
              simp only [a13_9, go_sem, ↓reduceIte, Nat.reduceEqDiff, reduceCtorEq, Nat.reduceAdd, Nat.reduceLT, Nat.reduceLeDiff, Nat.reduceBNe, Nat.reduceBEq, Int.reduceToNat, inI, trTr, fWithin_eq]
              (repeat' apply And.intro) <;> (try first | omega | (intros; (repeat' apply And.intro) <;> first | assumption | omega | (simp_all; done)))
              refine hKL2 (k + 1) _ ?_ ?_ ?_
              · (try dsimp only); exact ⟨hc8, hny hni⟩
              · (try dsimp only); omega
              · refine Le.mk _ _ ?_ ?_ rfl <;> simp only [go_sem, ↓reduceIte, Nat.reduceEqDiff, reduceCtorEq, Nat.reduceAdd, Nat.reduceLT, Nat.reduceLeDiff, Nat.reduceBNe, Nat.reduceBEq, Int.reduceToNat, hst] <;> (repeat' apply And.intro) <;> (try first | rfl | exact wk_frzb rfl rfl rfl | exact wk_fn rfl | exact .nilo _ _ _ rfl rfl | exact wk_frzm rfl rfl (fun kv hk => by obtain ⟨_, _, rfl⟩ := List.mem_map.1 hk; rfl))
        · simp only [decide_eq_true_eq, decide_eq_false_iff_not, Bool.and_eq_true, Bool.or_eq_true, Bool.not_eq_true', Bool.not_eq_false', Bool.and_eq_false_iff, Bool.or_eq_false_iff, Int.ofNat_lt, Int.ofNat_le, Nat.not_lt, Nat.not_le, Int.not_lt, Int.not_le] at hc8
          refine aw_exit ?_
          simp only [go_sem, ↓reduceIte, Nat.reduceEqDiff, reduceCtorEq, Nat.reduceAdd, Nat.reduceLT, Nat.reduceLeDiff, Nat.reduceBNe, Nat.reduceBEq, Int.reduceToNat]
          refine aw_seq ?_
          have hie : i = l.length := Nat.le_antisymm hi hc8
          subst hie
          rw [List.take_length] at hnd
          refine aw_seq (aw_region (EF := EF0) hG (by rw [hN]; exact tr13_16) ?_)
          simp only [a13_16, go_sem, ↓reduceIte, Nat.reduceEqDiff, reduceCtorEq, Nat.reduceAdd, Nat.reduceLT, Nat.reduceLeDiff, Nat.reduceBNe, Nat.reduceBEq, Int.reduceToNat, List.take_length, trTr, fWithin_eq]
          refine aw_cond (b := _) rfl (fun hb16 => ?_) (fun hb16 => ?_)
          · skip
            refine aw_seq (aw_region (EF := EF0) hG (by rw [hN]; exact tr13_17) ?_)
            simp only [a13_17, go_sem, ↓reduceIte, Nat.reduceEqDiff, reduceCtorEq, Nat.reduceAdd, Nat.reduceLT, Nat.reduceLeDiff, Nat.reduceBNe, Nat.reduceBEq, Int.reduceToNat, trTr, fWithin_eq]
            refine AW.le (s' := ⟨mkE [(2, .list [] false), (3, .int .i64 36)], mkH []⟩) (Le.mk _ _ ?_ ?_ rfl) (aw_ret (hQ _ _ (.inl rfl) ?_ ?_ ?_)) <;> simp only [outφ, outV, AR.res, go_sem, ↓reduceIte, Nat.reduceEqDiff, reduceCtorEq, Nat.reduceAdd, Nat.reduceLT, Nat.reduceLeDiff, Nat.reduceBNe, Nat.reduceBEq, Int.reduceToNat, fTr, trV]
            · rw [trP, if_neg hany, if_pos hnd, if_neg (by simpa using hb16)]; rfl
          · skip
            have hs0 : sumT l = 0 := by simpa using hb16
            have htr : trP l = (runT l.length l [], 0) := by rw [trP, if_neg hany, if_pos hnd, if_pos hs0]
            refine aw_skip ?_
            try simp only [go_sem, ↓reduceIte, Nat.reduceEqDiff, reduceCtorEq, Nat.reduceAdd, Nat.reduceLT, Nat.reduceLeDiff, Nat.reduceBNe, Nat.reduceBEq, Int.reduceToNat]
            refine aw_seq (aw_region (EF := EF0) hG (by rw [hN]; exact tr13_18) ?_)
            simp only [a13_18, go_sem, ↓reduceIte, Nat.reduceEqDiff, reduceCtorEq, Nat.reduceAdd, Nat.reduceLT, Nat.reduceLeDiff, Nat.reduceBNe, Nat.reduceBEq, Int.reduceToNat, trTr, fWithin_eq]
            refine aw_seq (aw_region (EF := EF0) hG (by rw [hN]; exact tr13_19) ?_)
            simp only [a13_19, go_sem, ↓reduceIte, Nat.reduceEqDiff, reduceCtorEq, Nat.reduceAdd, Nat.reduceLT, Nat.reduceLeDiff, Nat.reduceBNe, Nat.reduceBEq, Int.reduceToNat, List.length_map, trTr, fWithin_eq]
            (repeat' apply And.intro) <;> (try first | omega | (intros; (repeat' apply And.intro) <;> first | assumption | omega | (simp_all; done)))
            refine AW.le (s' := ⟨mkE [(8, .own 999 0), (9, .own 57 l.length)], mkH ([(57, .arr 30 2 (l.map Post.enc)), (999, .arr 37 3 (([] : List Due).map Due.enc))])⟩) (Le.mk _ _ (by (simp only [go_sem, ↓reduceIte, Nat.reduceEqDiff, reduceCtorEq, Nat.reduceAdd, Nat.reduceLT, Nat.reduceLeDiff, Nat.reduceBNe, Nat.reduceBEq, Int.reduceToNat, Post.purs]) <;> (repeat' apply And.intro) <;> (try first | exact wk_frzb rfl rfl rfl | rfl | exact wk_fn rfl | exact .nill _ | exact .nilo _ _ _ rfl rfl | exact wk_frz rfl (by simp only [ints_len, nats_len]) rfl (ints_pur _) | exact wk_frzm rfl rfl (fun kv hk => by obtain ⟨_, _, rfl⟩ := List.mem_map.1 hk; rfl))) (by (simp only [go_sem, ↓reduceIte, Nat.reduceEqDiff, reduceCtorEq, Nat.reduceAdd, Nat.reduceLT, Nat.reduceLeDiff, Nat.reduceBNe, Nat.reduceBEq, Int.reduceToNat, Post.purs]) <;> (repeat' apply And.intro) <;> (try first | exact wk_frzb rfl rfl rfl | rfl | exact wk_fn rfl | exact .nill _ | exact .nilo _ _ _ rfl rfl | exact wk_frz rfl (by simp only [ints_len, nats_len]) rfl (ints_pur _) | exact wk_frzm rfl rfl (fun kv hk => by obtain ⟨_, _, rfl⟩ := List.mem_map.1 hk; rfl))) rfl) ?_
            refine aw_seq ?_
            refine aw_block ?_
            refine aw_loop (α := (List Post) × (List Due)) (fun γ => (TInv l γ.1 γ.2) ∧ (sumT γ.1 = 0)) (fun γ => ⟨mkE [(8, .own 999 γ.2.length), (9, V.own 57 l.length)], mkH [(57, .arr 30 2 (γ.1.map Post.enc)), (999, .arr 37 3 (γ.2.map Due.enc))]⟩) (fun γ => nz γ.1) (l, []) ⟨TInv.start hno, hs0⟩ ?_ ?_
            · refine Le.mk _ _ ?_ ?_ rfl <;> simp only [go_sem, ↓reduceIte, Nat.reduceEqDiff, reduceCtorEq, Nat.reduceAdd, Nat.reduceLT, Nat.reduceLeDiff, Nat.reduceBNe, Nat.reduceBEq, Int.reduceToNat, Post.purs] <;> (repeat' apply And.intro) <;> (try first | rfl | exact wk_frzb rfl rfl rfl | exact wk_fn rfl | exact .nilo _ _ _ rfl rfl | exact wk_frzm rfl rfl (fun kv hk => by obtain ⟨_, _, rfl⟩ := List.mem_map.1 hk; rfl))
            · rintro ⟨rest, out⟩ ⟨hT, hsr⟩ KL6 hKL6
              try dsimp only at *
              have hlen := hT.len
              have hl9 : rest.length ≤ 1000 := by omega
              have hbr := hT.bd
              have hk1 : SgOk rest (-1) := ⟨hl9, hbr, .inl rfl⟩
              have hk2 : SgOk rest 1 := ⟨hl9, hbr, .inr rfl⟩
              refine aw_seq ?_
              refine aw_seq (aw_region (EF := EF0) hG (by rw [hN]; exact tr13_20) ?_)
              simp only [a13_20, go_sem, ↓reduceIte, Nat.reduceEqDiff, reduceCtorEq, Nat.reduceAdd, Nat.reduceLT, Nat.reduceLeDiff, Nat.reduceBNe, Nat.reduceBEq, Int.reduceToNat, fFirst_eq, List.length_map, hlen, Post.purs, hk1, sg_neg, trTr, fWithin_eq]
              (repeat' apply And.intro) <;> (try first | omega | (intros; (repeat' apply And.intro) <;> first | assumption | omega | (simp_all; done)))
              refine aw_cond (b := _) rfl (fun hb20 => ?_) (fun hb20 => ?_)
              · skip
                obtain ⟨i2, hi2⟩ : ∃ a, rest.findIdx? negB = some a := by cases h : rest.findIdx? negB with | some a => exact ⟨a, rfl⟩ | none => rw [h] at hb20; exact absurd hb20 (by decide)
                obtain ⟨k2, hk3⟩ := pos_of_neg hsr hi2
                have hsa : stepT rest = some (movT rest i2 k2, dueT rest i2 k2) := by unfold stepT; rw [hi2, hk3]
                obtain ⟨hil, hnb, _⟩ := List.findIdx?_eq_some_iff_getElem.1 hi2
                obtain ⟨hkl, hpb2, _⟩ := List.findIdx?_eq_some_iff_getElem.1 hk3
                have hSA : StepAt rest i2 k2 := ⟨hil, hkl, by rw [getD_lt _ _ _ hil]; exact of_decide_eq_true hnb, by rw [getD_lt _ _ _ hkl]; exact of_decide_eq_true hpb2⟩
                have hms := mov_sum hSA
                have hil2 : i2 < l.length := by omega
                have hkl2 : k2 < l.length := by omega
                have hab := hSA.ne
                have hba1 := out_bd (hT.bd _ (List.getElem_mem hil))
                have hbb1 := out_bd (hT.bd _ (List.getElem_mem hkl))
                have hmv : movT rest i2 k2 = (rest.set i2 ⟨rest[i2].account, rest[i2].amount + minA rest i2 k2⟩).set k2 ⟨rest[k2].account, rest[k2].amount - minA rest i2 k2⟩ := by unfold movT; rw [getD_lt _ _ _ hil, getD_lt _ _ _ hkl]
                have hdu : dueT rest i2 k2 = ⟨rest[i2].account, rest[k2].account, minA rest i2 k2⟩ := by unfold dueT; rw [getD_lt _ _ _ hil, getD_lt _ _ _ hkl]
                have hmn : minA rest i2 k2 = min (-rest[i2].amount) rest[k2].amount := by unfold minA; rw [getD_lt _ _ _ hil, getD_lt _ _ _ hkl]
                have hTS := hT.step hsa hSA
                have hnz := (mov_nz hSA).1
                have hol := hT.ol
                have hks : k2 < (rest.set i2 (⟨rest[i2].account, rest[i2].amount + minA rest i2 k2⟩ : Post)).length := by rw [List.length_set]; exact hkl
                have hksv : (rest.set i2 (⟨rest[i2].account, rest[i2].amount + minA rest i2 k2⟩ : Post))[k2] = rest[k2] := List.getElem_set_ne hab hks
                generalize movT rest i2 k2 = r2 at hmv hTS hnz hms
                generalize dueT rest i2 k2 = d2 at hdu hTS
                have hm4 := hSA.min
                rw [getD_lt _ _ _ hil, getD_lt _ _ _ hkl] at hm4
                generalize minA rest i2 k2 = m at hmv hdu hmn hks hksv hm4
                generalize hxa : rest[i2] = xa at hmv hdu hmn hks hksv hba1 hm4
                generalize hxb : rest[k2] = xb at hmv hdu hmn hksv hbb1 hm4
                obtain ⟨aa, na⟩ := xa
                obtain ⟨ab, nb⟩ := xb
                dsimp only at hmv hdu hmn hks hksv hba1 hbb1 hm4
                refine aw_skip ?_
                try simp only [go_sem, ↓reduceIte, Nat.reduceEqDiff, reduceCtorEq, Nat.reduceAdd, Nat.reduceLT, Nat.reduceLeDiff, Nat.reduceBNe, Nat.reduceBEq, Int.reduceToNat]
                refine aw_block ?_
                refine aw_seq (aw_region (EF := EF0) hG (by rw [hN]; exact tr13_21) ?_)
                simp only [a13_21, go_sem, ↓reduceIte, Nat.reduceEqDiff, reduceCtorEq, Nat.reduceAdd, Nat.reduceLT, Nat.reduceLeDiff, Nat.reduceBNe, Nat.reduceBEq, Int.reduceToNat, fFirst_eq, List.length_map, hlen, Post.purs, hk1, hk2, sg_neg, sg_pos, hi2, hk3, idxOf_some, trTr, fWithin_eq]
                (repeat' apply And.intro) <;> (try first | omega | (intros; (repeat' apply And.intro) <;> first | assumption | omega | (simp_all; done)))
                refine aw_seq (aw_regionD (EF := EF0) hG mixed (by rw [hN]; exact tr13_22) ok13_22 ?_)
                simp only [a13_22, d13_22, go_sem, ↓reduceIte, Nat.reduceEqDiff, reduceCtorEq, Nat.reduceAdd, Nat.reduceLT, Nat.reduceLeDiff, Nat.reduceBNe, Nat.reduceBEq, Int.reduceToNat, inI, getD_mapd _ _ _ _ hil, getD_mapd _ _ _ _ hkl, hil2, hkl2, hxa, hxb, Post.enc, List.length_map, hlen, ← hmn, trTr, fWithin_eq]
                (repeat' apply And.intro) <;> (try first | omega | (intros; (repeat' apply And.intro) <;> first | assumption | omega | (simp_all; done)))
                refine aw_seq (aw_regionD (EF := EF0) hG mixed (by rw [hN]; exact tr13_23) ok13_23 ?_)
                simp only [a13_23, d13_23, go_sem, ↓reduceIte, Nat.reduceEqDiff, reduceCtorEq, Nat.reduceAdd, Nat.reduceLT, Nat.reduceLeDiff, Nat.reduceBNe, Nat.reduceBEq, Int.reduceToNat, getD_mapd _ _ _ _ hil, getD_mapd _ _ _ _ hkl, hil2, hkl2, hxa, hxb, Post.enc, List.length_map, hlen, due_snoc, ← hdu, trTr, fWithin_eq]
                (repeat' apply And.intro) <;> (try first | omega | (intros; (repeat' apply And.intro) <;> first | assumption | omega | (simp_all; done)))
                refine aw_seq (aw_region (EF := EF0) hG (by rw [hN]; exact tr13_24) ?_)
                simp only [a13_24, go_sem, ↓reduceIte, Nat.reduceEqDiff, reduceCtorEq, Nat.reduceAdd, Nat.reduceLT, Nat.reduceLeDiff, Nat.reduceBNe, Nat.reduceBEq, Int.reduceToNat, inI, getD_mapd _ _ _ _ hil, hil2, hxa, Post.enc, List.length_map, hlen, List.set_cons_succ, List.set_cons_zero, set_post, List.length_set, trTr, fWithin_eq]
                (repeat' apply And.intro) <;> (try first | omega | (intros; (repeat' apply And.intro) <;> first | assumption | omega | (simp_all; done)))
                refine aw_region (EF := EF0) hG (by rw [hN]; exact tr13_25) ?_
                simp only [a13_25, go_sem, ↓reduceIte, Nat.reduceEqDiff, reduceCtorEq, Nat.reduceAdd, Nat.reduceLT, Nat.reduceLeDiff, Nat.reduceBNe, Nat.reduceBEq, Int.reduceToNat, inI, getD_mapd _ _ _ _ hks, hksv, hkl2, Post.enc, List.length_map, List.length_set, hlen, List.set_cons_succ, List.set_cons_zero, set_post, ← hmv, trTr, fWithin_eq]
                (repeat' apply And.intro) <;> (try first | omega | (intros; (repeat' apply And.intro) <;> first | assumption | omega | (simp_all; done)))
                refine hKL6 (r2, out ++ [d2]) _ ?_ ?_ ?_
                · (try dsimp only); exact ⟨hTS, hms.trans hsr⟩
                · (dsimp only; exact hnz)
                · refine Le.mk _ _ ?_ ?_ rfl <;> simp only [go_sem, ↓reduceIte, Nat.reduceEqDiff, reduceCtorEq, Nat.reduceAdd, Nat.reduceLT, Nat.reduceLeDiff, Nat.reduceBNe, Nat.reduceBEq, Int.reduceToNat, List.length_append, List.length_cons, List.length_nil, List.length_map] <;> (repeat' apply And.intro) <;> (try first | rfl | exact wk_frzb rfl rfl rfl | exact wk_fn rfl | exact .nilo _ _ _ rfl rfl | exact wk_frzm rfl rfl (fun kv hk => by obtain ⟨_, _, rfl⟩ := List.mem_map.1 hk; rfl))
              · skip
                have hnn : stepT rest = none := by unfold stepT; cases h : rest.findIdx? negB with | none => rfl | some a => rw [h, idxOf_some] at hb20; exact absurd (decide_eq_true (show (0 : Int) ≤ (a : Int) by omega)) (by rw [hb20]; decide)
                refine aw_exit ?_
                simp only [go_sem, ↓reduceIte, Nat.reduceEqDiff, reduceCtorEq, Nat.reduceAdd, Nat.reduceLT, Nat.reduceLeDiff, Nat.reduceBNe, Nat.reduceBEq, Int.reduceToNat]
                refine aw_seq (aw_region (EF := EF0) hG (by rw [hN]; exact tr13_26) ?_)
                simp only [a13_26, go_sem, ↓reduceIte, Nat.reduceEqDiff, reduceCtorEq, Nat.reduceAdd, Nat.reduceLT, Nat.reduceLeDiff, Nat.reduceBNe, Nat.reduceBEq, Int.reduceToNat, trTr, fWithin_eq]
                refine AW.le (s' := ⟨mkE [(2, .list (out.map Due.enc) false), (3, .int .i64 0)], mkH []⟩) (Le.mk _ _ ?_ ?_ rfl) (aw_ret (hQ _ _ (.inl rfl) ?_ ?_ ?_)) <;> simp only [outφ, outV, AR.res, go_sem, ↓reduceIte, Nat.reduceEqDiff, reduceCtorEq, Nat.reduceAdd, Nat.reduceLT, Nat.reduceLeDiff, Nat.reduceBNe, Nat.reduceBEq, Int.reduceToNat, fTr, trV]
                · exact wk_frz rfl (by rw [List.length_map]) rfl ((Due.purs _).2 trivial)
                · rw [htr, hT.done hnn]
end Go.Proofs.Ytajobknfhbnjcaa
