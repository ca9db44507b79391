/- Transfers: of no balances; of the reference. -/
import Derived.Test.YtkdkjbneohdofaaDoorSe6
namespace Go.Proofs.YtkdkjbneohdofaaDoor
open Go Go.RowKit
set_option linter.unusedSimpArgs false
set_option linter.unusedVariables false
set_option linter.deprecated false
noncomputable def tTr0 : Tab
  | 17 => (gOf aCF fCF)
  | 19 => gCl0
  | _ => gNo
theorem tTr0_ok : ∀ f, PureC Tryd.prog UT f (tTr0 f) := fun f => by
  unfold tTr0
  split
  · exact containsF_p
  · exact clone0_p
  · exact PureC.no
theorem fCF_nil : gOf aCF fCF [.list [] false, .fn 18 []] = (([] : List Post).length ≤ 140737488355328, .bool false) := gOf_eq aCF_inj []
set_option maxHeartbeats 4000000 in
theorem trans0_p : PureC Tryd.prog UT 8 (gOf aPosts fTr0) := by
  have hG := tTr0_ok
  refine PureC.ofArgs aPosts_inj Tryd.func8 body8 nm8 res8 ?_
  rintro l hv
  refine ⟨by rw [nt8]; simp [aPosts], fun C hN Q hQ => ?_⟩
  rw [nt8] at hN
  unfold c8
  obtain rfl : l = [] := hv
  refine aw_seq (aw_region (EF := EF0) hG (by rw [hN]; exact tr8_0) ?_)
  simp only [a8_0, go_sem, ↓reduceIte, Nat.reduceEqDiff, reduceCtorEq, Nat.reduceAdd, Nat.reduceLT, Nat.reduceLeDiff, Nat.reduceBNe, Nat.reduceBEq, Int.reduceToNat, aPosts, tTr0, fCF_nil, gCl0, List.map_nil, List.length_nil, Nat.lt_irrefl, decide_false, Int.natCast_zero, Int.lt_irrefl]
  refine aw_seq ?_
  refine aw_seq (aw_region (EF := EF0) hG (by rw [hN]; exact tr8_1) ?_)
  simp only [a8_1, go_sem, ↓reduceIte, Nat.reduceEqDiff, reduceCtorEq, Nat.reduceAdd, Nat.reduceLT, Nat.reduceLeDiff, Nat.reduceBNe, Nat.reduceBEq, Int.reduceToNat, tTr0, fCF_nil, gCl0, List.map_nil, List.length_nil, Nat.lt_irrefl, decide_false, Int.natCast_zero, Int.lt_irrefl]
  (repeat' apply And.intro) <;> (try first | omega | ((fail_if_success refine idW ?_); (fail_if_success refine idS ?_); intros; (repeat' apply And.intro) <;> first | assumption | omega | (simp_all; done)))
  refine aw_condF rfl ?_
  refine aw_skip ?_
  try simp only [go_sem, ↓reduceIte, Nat.reduceEqDiff, reduceCtorEq, Nat.reduceAdd, Nat.reduceLT, Nat.reduceLeDiff, Nat.reduceBNe, Nat.reduceBEq, Int.reduceToNat]
  refine aw_seq (aw_region (EF := EF0) hG (by rw [hN]; exact tr8_3) ?_)
  simp only [a8_3, go_sem, ↓reduceIte, Nat.reduceEqDiff, reduceCtorEq, Nat.reduceAdd, Nat.reduceLT, Nat.reduceLeDiff, Nat.reduceBNe, Nat.reduceBEq, Int.reduceToNat, tTr0, fCF_nil, gCl0, List.map_nil, List.length_nil, Nat.lt_irrefl, decide_false, Int.natCast_zero, Int.lt_irrefl]
  refine aw_seq (aw_region (EF := EF0) hG (by rw [hN]; exact tr8_4) ?_)
  simp only [a8_4, go_sem, ↓reduceIte, Nat.reduceEqDiff, reduceCtorEq, Nat.reduceAdd, Nat.reduceLT, Nat.reduceLeDiff, Nat.reduceBNe, Nat.reduceBEq, Int.reduceToNat, tTr0, fCF_nil, gCl0, List.map_nil, List.length_nil, Nat.lt_irrefl, decide_false, Int.natCast_zero, Int.lt_irrefl]
  refine aw_seq ?_
  refine aw_seq (aw_region (EF := EF0) hG (by rw [hN]; exact tr8_5) ?_)
  simp only [a8_5, go_sem, ↓reduceIte, Nat.reduceEqDiff, reduceCtorEq, Nat.reduceAdd, Nat.reduceLT, Nat.reduceLeDiff, Nat.reduceBNe, Nat.reduceBEq, Int.reduceToNat, tTr0, fCF_nil, gCl0, List.map_nil, List.length_nil, Nat.lt_irrefl, decide_false, Int.natCast_zero, Int.lt_irrefl]
  refine aw_block ?_
  refine aw_loop (α := Nat) (fun i => (i = 0)) (fun i => ⟨mkE [(0, V.list [] false), (4, V.map 15), (5, V.int IntKind.i64 0), (16, V.list [] false), (17, V.int IntKind.i64 0), (18, .int .i64 i)], mkH [(15, Ob.mp [])]⟩) (fun i => 0) 0 rfl ?_ ?_
  · refine Le.mk _ _ ?_ ?_ rfl <;> simp only [go_sem, ↓reduceIte, Nat.reduceEqDiff, reduceCtorEq, Nat.reduceAdd, Nat.reduceLT, Nat.reduceLeDiff, Nat.reduceBNe, Nat.reduceBEq, Int.reduceToNat] <;> (repeat' apply And.intro) <;> (try first | rfl | exact wk_frzb rfl rfl rfl | exact wk_fn rfl | exact .nilo _ _ _ rfl rfl | exact wk_frzm rfl rfl (fun kv hk => by obtain ⟨_, _, rfl⟩ := List.mem_map.1 hk; rfl))
  · rintro i hi KL0 hKL0
    try dsimp only at *
    subst hi
    refine aw_seq (aw_region (EF := EF0) hG (by rw [hN]; exact tr8_6) ?_)
    simp only [a8_6, go_sem, ↓reduceIte, Nat.reduceEqDiff, reduceCtorEq, Nat.reduceAdd, Nat.reduceLT, Nat.reduceLeDiff, Nat.reduceBNe, Nat.reduceBEq, Int.reduceToNat, tTr0, fCF_nil, gCl0, List.map_nil, List.length_nil, Nat.lt_irrefl, decide_false, Int.natCast_zero, Int.lt_irrefl]
    refine aw_seq ?_
    refine aw_condF rfl ?_
    refine aw_exit ?_
    simp only [go_sem, ↓reduceIte, Nat.reduceEqDiff, reduceCtorEq, Nat.reduceAdd, Nat.reduceLT, Nat.reduceLeDiff, Nat.reduceBNe, Nat.reduceBEq, Int.reduceToNat]
    refine aw_seq ?_
    refine aw_seq (aw_region (EF := EF0) hG (by rw [hN]; exact tr8_13) ?_)
    simp only [a8_13, go_sem, ↓reduceIte, Nat.reduceEqDiff, reduceCtorEq, Nat.reduceAdd, Nat.reduceLT, Nat.reduceLeDiff, Nat.reduceBNe, Nat.reduceBEq, Int.reduceToNat, tTr0, fCF_nil, gCl0, List.map_nil, List.length_nil, Nat.lt_irrefl, decide_false, Int.natCast_zero, Int.lt_irrefl]
    refine aw_condF rfl ?_
    refine aw_skip ?_
    try simp only [go_sem, ↓reduceIte, Nat.reduceEqDiff, reduceCtorEq, Nat.reduceAdd, Nat.reduceLT, Nat.reduceLeDiff, Nat.reduceBNe, Nat.reduceBEq, Int.reduceToNat]
    refine aw_seq (aw_region (EF := EF0) hG (by rw [hN]; exact tr8_15) ?_)
    simp only [a8_15, go_sem, ↓reduceIte, Nat.reduceEqDiff, reduceCtorEq, Nat.reduceAdd, Nat.reduceLT, Nat.reduceLeDiff, Nat.reduceBNe, Nat.reduceBEq, Int.reduceToNat, tTr0, fCF_nil, gCl0, List.map_nil, List.length_nil, Nat.lt_irrefl, decide_false, Int.natCast_zero, Int.lt_irrefl]
    (repeat' apply And.intro) <;> (try first | omega | ((fail_if_success refine idW ?_); (fail_if_success refine idS ?_); intros; (repeat' apply And.intro) <;> first | assumption | omega | (simp_all; done)))
    refine aw_seq (aw_region (EF := EF0) hG (by rw [hN]; exact tr8_16) ?_)
    simp only [a8_16, go_sem, ↓reduceIte, Nat.reduceEqDiff, reduceCtorEq, Nat.reduceAdd, Nat.reduceLT, Nat.reduceLeDiff, Nat.reduceBNe, Nat.reduceBEq, Int.reduceToNat, tTr0, fCF_nil, gCl0, List.map_nil, List.length_nil, Nat.lt_irrefl, decide_false, Int.natCast_zero, Int.lt_irrefl]
    refine aw_seq (aw_region (EF := EF0) hG (by rw [hN]; exact tr8_17) ?_)
    simp only [a8_17, go_sem, ↓reduceIte, Nat.reduceEqDiff, reduceCtorEq, Nat.reduceAdd, Nat.reduceLT, Nat.reduceLeDiff, Nat.reduceBNe, Nat.reduceBEq, Int.reduceToNat, tTr0, fCF_nil, gCl0, List.map_nil, List.length_nil, Nat.lt_irrefl, decide_false, Int.natCast_zero, Int.lt_irrefl]
    refine aw_block ?_
    refine aw_loop (α := Nat) (fun k => (k = 0)) (fun k => ⟨mkE [(8, V.list [] false), (9, V.nils), (10, .int .i64 k), (11, V.int IntKind.i64 0)], mkH []⟩) (fun k => 0) 0 rfl ?_ ?_
    · refine Le.mk _ _ ?_ ?_ rfl <;> simp only [go_sem, ↓reduceIte, Nat.reduceEqDiff, reduceCtorEq, Nat.reduceAdd, Nat.reduceLT, Nat.reduceLeDiff, Nat.reduceBNe, Nat.reduceBEq, Int.reduceToNat] <;> (repeat' apply And.intro) <;> (try first | rfl | exact wk_frzb rfl rfl rfl | exact wk_fn rfl | exact .nilo _ _ _ rfl rfl | exact wk_frzm rfl rfl (fun kv hk => by obtain ⟨_, _, rfl⟩ := List.mem_map.1 hk; rfl))
    · rintro k hk KL2 hKL2
      try dsimp only at *
      subst hk
      refine aw_block ?_
      refine aw_seq ?_
      refine aw_block ?_
      refine aw_loop (α := Nat) (fun j => (j = 0)) (fun j => ⟨mkE [(8, V.list [] false), (9, V.nils), (10, .int .i64 j), (11, V.int IntKind.i64 0)], mkH []⟩) (fun j => 0) 0 rfl ?_ ?_
      · refine Le.mk _ _ ?_ ?_ rfl <;> simp only [go_sem, ↓reduceIte, Nat.reduceEqDiff, reduceCtorEq, Nat.reduceAdd, Nat.reduceLT, Nat.reduceLeDiff, Nat.reduceBNe, Nat.reduceBEq, Int.reduceToNat] <;> (repeat' apply And.intro) <;> (try first | rfl | exact wk_frzb rfl rfl rfl | exact wk_fn rfl | exact .nilo _ _ _ rfl rfl | exact wk_frzm rfl rfl (fun kv hk => by obtain ⟨_, _, rfl⟩ := List.mem_map.1 hk; rfl))
      · rintro j hj KL4 hKL4
        try dsimp only at *
        subst hj
        refine aw_seq ?_
        refine aw_seq (aw_region (EF := EF0) hG (by rw [hN]; exact tr8_18) ?_)
        simp only [a8_18, go_sem, ↓reduceIte, Nat.reduceEqDiff, reduceCtorEq, Nat.reduceAdd, Nat.reduceLT, Nat.reduceLeDiff, Nat.reduceBNe, Nat.reduceBEq, Int.reduceToNat, tTr0, fCF_nil, gCl0, List.map_nil, List.length_nil, Nat.lt_irrefl, decide_false, Int.natCast_zero, Int.lt_irrefl]
        (repeat' apply And.intro) <;> (try first | omega | ((fail_if_success refine idW ?_); (fail_if_success refine idS ?_); intros; (repeat' apply And.intro) <;> first | assumption | omega | (simp_all; done)))
        refine aw_condF rfl ?_
        refine aw_exit ?_
        simp only [go_sem, ↓reduceIte, Nat.reduceEqDiff, reduceCtorEq, Nat.reduceAdd, Nat.reduceLT, Nat.reduceLeDiff, Nat.reduceBNe, Nat.reduceBEq, Int.reduceToNat]
        refine aw_seq ?_
        refine aw_block ?_
        refine aw_loop (α := Nat) (fun m => (m = 0)) (fun m => ⟨mkE [(8, V.list [] false), (9, V.nils), (10, V.int IntKind.i64 0), (11, .int .i64 m)], mkH []⟩) (fun m => 0) 0 rfl ?_ ?_
        · refine Le.mk _ _ ?_ ?_ rfl <;> simp only [go_sem, ↓reduceIte, Nat.reduceEqDiff, reduceCtorEq, Nat.reduceAdd, Nat.reduceLT, Nat.reduceLeDiff, Nat.reduceBNe, Nat.reduceBEq, Int.reduceToNat] <;> (repeat' apply And.intro) <;> (try first | rfl | exact wk_frzb rfl rfl rfl | exact wk_fn rfl | exact .nilo _ _ _ rfl rfl | exact wk_frzm rfl rfl (fun kv hk => by obtain ⟨_, _, rfl⟩ := List.mem_map.1 hk; rfl))
        · rintro m hm KL6 hKL6
          try dsimp only at *
          subst hm
          refine aw_seq ?_
          refine aw_seq (aw_region (EF := EF0) hG (by rw [hN]; exact tr8_20) ?_)
          simp only [a8_20, go_sem, ↓reduceIte, Nat.reduceEqDiff, reduceCtorEq, Nat.reduceAdd, Nat.reduceLT, Nat.reduceLeDiff, Nat.reduceBNe, Nat.reduceBEq, Int.reduceToNat, tTr0, fCF_nil, gCl0, List.map_nil, List.length_nil, Nat.lt_irrefl, decide_false, Int.natCast_zero, Int.lt_irrefl]
          (repeat' apply And.intro) <;> (try first | omega | ((fail_if_success refine idW ?_); (fail_if_success refine idS ?_); intros; (repeat' apply And.intro) <;> first | assumption | omega | (simp_all; done)))
          refine aw_condF rfl ?_
          refine aw_exit ?_
          simp only [go_sem, ↓reduceIte, Nat.reduceEqDiff, reduceCtorEq, Nat.reduceAdd, Nat.reduceLT, Nat.reduceLeDiff, Nat.reduceBNe, Nat.reduceBEq, Int.reduceToNat]
          refine aw_seq ?_
          refine aw_seq (aw_region (EF := EF0) hG (by rw [hN]; exact tr8_22) ?_)
          simp only [a8_22, go_sem, ↓reduceIte, Nat.reduceEqDiff, reduceCtorEq, Nat.reduceAdd, Nat.reduceLT, Nat.reduceLeDiff, Nat.reduceBNe, Nat.reduceBEq, Int.reduceToNat, tTr0, fCF_nil, gCl0, List.map_nil, List.length_nil, Nat.lt_irrefl, decide_false, Int.natCast_zero, Int.lt_irrefl]
          (repeat' apply And.intro) <;> (try first | omega | ((fail_if_success refine idW ?_); (fail_if_success refine idS ?_); intros; (repeat' apply And.intro) <;> first | assumption | omega | (simp_all; done)))
          refine aw_condT rfl ?_
          refine aw_seq (aw_region (EF := EF0) hG (by rw [hN]; exact tr8_23) ?_)
          simp only [a8_23, go_sem, ↓reduceIte, Nat.reduceEqDiff, reduceCtorEq, Nat.reduceAdd, Nat.reduceLT, Nat.reduceLeDiff, Nat.reduceBNe, Nat.reduceBEq, Int.reduceToNat, tTr0, fCF_nil, gCl0, List.map_nil, List.length_nil, Nat.lt_irrefl, decide_false, Int.natCast_zero, Int.lt_irrefl]
          refine AW.le (s' := ⟨mkE [(2, .list [] false), (3, .int .i64 0)], mkH []⟩) (Le.mk _ _ ?_ ?_ rfl) (aw_ret (hQ _ _ (.inl rfl) ?_ ?_ ?_)) <;> simp only [outφ, outV, AR.res, go_sem, ↓reduceIte, Nat.reduceEqDiff, reduceCtorEq, Nat.reduceAdd, Nat.reduceLT, Nat.reduceLeDiff, Nat.reduceBNe, Nat.reduceBEq, Int.reduceToNat, fTr0, trV]
          · rfl
theorem gOf_none {α : Type} {args : α → List V} {F : α → Prop × V} {vs : List V} (h : ∀ a, args a ≠ vs) : gOf args F vs = (False, .any) := by
  unfold gOf
  exact dif_neg fun ⟨a, e⟩ => h a e
theorem trans_p : PureC Tryd.prog UT 8 (gOf aPosts fTr) := PureC.or trans1_p trans0_p fun vs hv => by
  by_cases h : ∃ l, aPosts l = vs
  · obtain ⟨l, rfl⟩ := h
    rw [gOf_eq aPosts_inj] at hv ⊢
    rw [gOf_eq aPosts_inj, gOf_eq aPosts_inj]
    by_cases e : l = []
    · exact .inr ⟨e, rfl⟩
    · exact .inl ⟨⟨e, hv⟩, rfl⟩
  · rw [gOf_none (fun l e => h ⟨l, e⟩)] at hv
    exact hv.elim
/-! The reference. -/
def aFirst (x : List Post × Int) : List V := [.list (x.1.map Post.enc) false, .int .i64 x.2]
theorem aFirst_inj (a b : List Post × Int) (h : aFirst a = aFirst b) : a = b := by
  obtain ⟨a_l, a_s⟩ := a
  obtain ⟨b_l, b_s⟩ := b
  simp only [aFirst, List.cons.injEq, V.str.injEq, V.int.injEq, V.bool.injEq, V.agg.injEq, V.list.injEq, and_true, true_and] at h
  obtain ⟨h0, h1⟩ := h
  replace h0 := map_inj' Post.inj h0
  subst h0
  subst h1
  rfl
def sgB (s : Int) (x : Post) : Bool := decide (0 < s * x.amount)
def SgOk (l : List Post) (s : Int) : Prop := l.length ≤ 1000 ∧ (∀ x ∈ l, outB x.amount = false) ∧ (s = -1 ∨ s = 1)
def fFirst (x : List Post × Int) : Prop × V := (SgOk x.1 x.2, .int .i64 (idxOf (x.1.findIdx? (sgB x.2))))
theorem fFirst_eq (l : List Post) (s : Int) : gOf aFirst fFirst [.list (l.map Post.enc) false, .int .i64 s] = (SgOk l s, .int .i64 (idxOf (l.findIdx? (sgB s)))) := gOf_eq aFirst_inj (l, s)
theorem sg_neg : sgB (-1) = negB := funext fun x => decide_eq_decide.2 (by omega)
theorem sg_pos : sgB 1 = posB := funext fun x => decide_eq_decide.2 (by omega)
theorem sumT_set {l : List Post} {i : Nat} (h : i < l.length) (x : Post) : sumT (l.set i x) = sumT l - l[i].amount + x.amount := by
  induction l generalizing i with
  | nil => simp at h
  | cons p l ih =>
    cases i with
    | zero => unfold sumT; simp; omega
    | succ i =>
      have := ih (i := i) (by simpa using h)
      unfold sumT at this ⊢
      simp only [List.set_cons_succ, List.map_cons, List.sum_cons, List.getElem_cons_succ]
      omega
theorem mov_sum {rest : List Post} {a b : Nat} (h : StepAt rest a b) : sumT (movT rest a b) = sumT rest := by
  have ha := h.ha
  have hb := h.hb
  unfold movT
  have hbs : b < (rest.set a (⟨(rest.getD a Post.zero).account, (rest.getD a Post.zero).amount + minA rest a b⟩ : Post)).length := by rw [List.length_set]; exact hb
  rw [sumT_set hbs, sumT_set ha, List.getElem_set_ne h.ne]
  dsimp only
  have e1 : (rest.getD a Post.zero).amount = rest[a].amount := congrArg Post.amount (getD_lt _ _ _ ha)
  have e2 : (rest.getD b Post.zero).amount = rest[b].amount := congrArg Post.amount (getD_lt _ _ _ hb)
  omega
theorem sum_neg {l : List Post} (h : ∀ x ∈ l, x.amount ≤ 0) : sumT l ≤ 0 ∧ (sumT l = 0 → ∀ x ∈ l, x.amount = 0) := by
  induction l with
  | nil => exact ⟨Int.le_refl _, fun _ x hx => by cases hx⟩
  | cons p l ih =>
    obtain ⟨h1, h2⟩ := ih fun x hx => h x (List.mem_cons_of_mem _ hx)
    have hp := h p (List.mem_cons_self ..)
    have e : sumT (p :: l) = p.amount + sumT l := by unfold sumT; simp
    refine ⟨by omega, fun h0 x hx => ?_⟩
    rcases List.mem_cons.1 hx with rfl | hx
    · omega
    · exact h2 (by omega) x hx
/-- With a sum of 0, who pays has somebody to pay. -/
theorem pos_of_neg {rest : List Post} {a : Nat} (hs : sumT rest = 0) (h : rest.findIdx? negB = some a) : ∃ b, rest.findIdx? posB = some b := by
  cases h2 : rest.findIdx? posB with
  | some b => exact ⟨b, rfl⟩
  | none =>
    have hle : ∀ x ∈ rest, x.amount ≤ 0 := fun x hx => by have := List.findIdx?_eq_none_iff.1 h2 x hx; have := of_decide_eq_false this; omega
    obtain ⟨ha, ha2, _⟩ := List.findIdx?_eq_some_iff_getElem.1 h
    have := (sum_neg hle).2 hs _ (List.getElem_mem ha)
    have := of_decide_eq_true ha2
    omega
end Go.Proofs.YtkdkjbneohdofaaDoor
