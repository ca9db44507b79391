/- Transfers of the program. -/
import Derived.Test.YtkdkjbneohdofaaDoorSe4
namespace Go.Proofs.YtkdkjbneohdofaaDoor
open Go Go.RowKit
set_option linter.unusedSimpArgs false
set_option linter.unusedVariables false
set_option linter.deprecated false
/-! The closure, IndexFunc, ContainsFunc. -/
def aPost (x : Post) : List V := [.agg x.enc]
theorem aPost_inj (a b : Post) (h : aPost a = aPost b) : a = b := by
  simp only [aPost, List.cons.injEq, V.str.injEq, V.int.injEq, V.bool.injEq, V.agg.injEq, V.list.injEq, and_true, true_and] at h
  have h0 := h
  replace h0 := Post.inj _ _ h0
  subst h0
  rfl
def fOutP (x : Post) : Prop × V := (True, .bool (outB x.amount))
theorem fOutP_eq (a : List UInt8) (n : Int) : gOf aPost fOutP [.agg [.str a, .int .i64 n]] = (True, .bool (outB n)) := gOf_eq aPost_inj (⟨a, n⟩ : Post)
noncomputable def tOP : Tab
  | 14 => (gOf aI fOut)
  | _ => gNo
theorem tOP_ok : ∀ f, PureC Tryd.prog UT f (tOP f) := fun f => by
  unfold tOP
  split
  · exact out_p
  · exact PureC.no
theorem outP_p : PureC Tryd.prog UT 18 (gOf aPost fOutP) := by
  have hG := tOP_ok
  refine PureC.ofArgs aPost_inj Tryd.func18 body18 nm18 res18 ?_
  rintro ⟨a, n⟩ hv
  refine ⟨by rw [nt18]; simp [aPost], fun C hN Q hQ => ?_⟩
  rw [nt18] at hN
  unfold c18
  refine aw_seq (aw_region (EF := EF0) hG (by rw [hN]; exact tr18_0) ?_)
  simp only [a18_0, go_sem, ↓reduceIte, Nat.reduceEqDiff, reduceCtorEq, Nat.reduceAdd, Nat.reduceLT, Nat.reduceLeDiff, Nat.reduceBNe, Nat.reduceBEq, Int.reduceToNat, aPost, Post.enc, tOP, fOut_eq]
  refine aw_seq (aw_region (EF := EF0) hG (by rw [hN]; exact tr18_1) ?_)
  simp only [a18_1, go_sem, ↓reduceIte, Nat.reduceEqDiff, reduceCtorEq, Nat.reduceAdd, Nat.reduceLT, Nat.reduceLeDiff, Nat.reduceBNe, Nat.reduceBEq, Int.reduceToNat, tOP, fOut_eq]
  (repeat' apply And.intro) <;> (try first | omega | ((fail_if_success refine idW ?_); (fail_if_success refine idS ?_); intros; (repeat' apply And.intro) <;> first | assumption | omega | (simp_all; done)))
  refine aw_ret ?_
  show Q _ _
  refine hQ _ _ (.inl rfl) ?_ ?_ ?_ <;> simp only [outφ, outV, AR.res, go_sem, ↓reduceIte, Nat.reduceEqDiff, reduceCtorEq, Nat.reduceAdd, Nat.reduceLT, Nat.reduceLeDiff, Nat.reduceBNe, Nat.reduceBEq, Int.reduceToNat, fOutP]
def aCF (l : List Post) : List V := [.list (l.map Post.enc) false, .fn 18 []]
theorem aCF_inj (a b : List Post) (h : aCF a = aCF b) : a = b := by
  simp only [aCF, List.cons.injEq, V.list.injEq, and_true] at h
  exact map_inj' Post.inj h
def oB (x : Post) : Bool := outB x.amount
def fIF (l : List Post) : Prop × V := (l.length ≤ 140737488355328, .int .i64 (idxOf (l.findIdx? oB)))
def fCF (l : List Post) : Prop × V := (l.length ≤ 140737488355328, .bool (l.any oB))
theorem fIF_eq (l : List Post) : gOf aCF fIF [.list (l.map Post.enc) false, .fn 18 []] = (l.length ≤ 140737488355328, .int .i64 (idxOf (l.findIdx? oB))) := gOf_eq aCF_inj l
theorem fCF_eq (l : List Post) : gOf aCF fCF [.list (l.map Post.enc) false, .fn 18 []] = (l.length ≤ 140737488355328, .bool (l.any oB)) := gOf_eq aCF_inj l
noncomputable def tIF : Tab
  | 18 => (gOf aPost fOutP)
  | _ => gNo
theorem tIF_ok : ∀ f, PureC Tryd.prog UT f (tIF f) := fun f => by
  unfold tIF
  split
  · exact outP_p
  · exact PureC.no
theorem indexF_p : PureC Tryd.prog UT 29 (gOf aCF fIF) := by
  have hG := tIF_ok
  refine PureC.ofArgs aCF_inj Tryd.func29 body29 nm29 res29 ?_
  rintro l hv
  refine ⟨by rw [nt29]; simp [aCF], fun C hN Q hQ => ?_⟩
  rw [nt29] at hN
  unfold c29
  replace hv : l.length ≤ 140737488355328 := hv
  refine aw_seq (aw_region (EF := EF0) hG (by rw [hN]; exact tr29_0) ?_)
  simp only [a29_0, go_sem, ↓reduceIte, Nat.reduceEqDiff, reduceCtorEq, Nat.reduceAdd, Nat.reduceLT, Nat.reduceLeDiff, Nat.reduceBNe, Nat.reduceBEq, Int.reduceToNat, aCF, tIF, fOutP_eq]
  refine aw_seq ?_
  refine aw_seq (aw_region (EF := EF0) hG (by rw [hN]; exact tr29_1) ?_)
  simp only [a29_1, go_sem, ↓reduceIte, Nat.reduceEqDiff, reduceCtorEq, Nat.reduceAdd, Nat.reduceLT, Nat.reduceLeDiff, Nat.reduceBNe, Nat.reduceBEq, Int.reduceToNat, tIF, fOutP_eq]
  refine aw_block ?_
  refine aw_loop (α := Nat) (fun i => (i ≤ l.length) ∧ (∀ s ∈ l.take i, oB s = false)) (fun i => ⟨mkE [(0, V.list (List.map Post.enc l) false), (1, V.fn 18 []), (7, V.int IntKind.i64 ↑l.length), (8, .int .i64 i)], mkH []⟩) (fun i => l.length - i) 0 (by simp) ?_ ?_
  · refine Le.mk _ _ ?_ ?_ rfl <;> simp only [go_sem, ↓reduceIte, Nat.reduceEqDiff, reduceCtorEq, Nat.reduceAdd, Nat.reduceLT, Nat.reduceLeDiff, Nat.reduceBNe, Nat.reduceBEq, Int.reduceToNat] <;> (repeat' apply And.intro) <;> (try first | rfl | exact wk_frzb rfl rfl rfl | exact wk_fn rfl | exact .nilo _ _ _ rfl rfl | exact wk_frzm rfl rfl (fun kv hk => by obtain ⟨_, _, rfl⟩ := List.mem_map.1 hk; rfl))
  · rintro i ⟨hi, hp⟩ KL0 hKL0
    try dsimp only at *
    refine aw_seq (aw_region (EF := EF0) hG (by rw [hN]; exact tr29_2) ?_)
    simp only [a29_2, go_sem, ↓reduceIte, Nat.reduceEqDiff, reduceCtorEq, Nat.reduceAdd, Nat.reduceLT, Nat.reduceLeDiff, Nat.reduceBNe, Nat.reduceBEq, Int.reduceToNat, tIF, fOutP_eq]
    refine aw_seq ?_
    refine aw_cond (b := _) rfl (fun hc2 => ?_) (fun hc2 => ?_)
    · simp only [decide_eq_true_eq, decide_eq_false_iff_not, Bool.and_eq_true, Bool.or_eq_true, Bool.not_eq_true', Bool.not_eq_false', Bool.and_eq_false_iff, Bool.or_eq_false_iff, Int.ofNat_lt, Int.ofNat_le, Nat.not_lt, Nat.not_le, Int.not_lt, Int.not_le] at hc2
      refine aw_skip ?_
      try simp only [go_sem, ↓reduceIte, Nat.reduceEqDiff, reduceCtorEq, Nat.reduceAdd, Nat.reduceLT, Nat.reduceLeDiff, Nat.reduceBNe, Nat.reduceBEq, Int.reduceToNat]
      refine aw_seq ?_
      refine aw_block ?_
      refine aw_seq (aw_region (EF := EF0) hG (by rw [hN]; exact tr29_3) ?_)
      simp only [a29_3, go_sem, ↓reduceIte, Nat.reduceEqDiff, reduceCtorEq, Nat.reduceAdd, Nat.reduceLT, Nat.reduceLeDiff, Nat.reduceBNe, Nat.reduceBEq, Int.reduceToNat, tIF, fOutP_eq]
      generalize hxx : l[i] = x
      obtain ⟨a, n⟩ := x
      refine aw_seq (aw_region (EF := EF0) hG (by rw [hN]; exact tr29_4) ?_)
      simp only [a29_4, go_sem, ↓reduceIte, Nat.reduceEqDiff, reduceCtorEq, Nat.reduceAdd, Nat.reduceLT, Nat.reduceLeDiff, Nat.reduceBNe, Nat.reduceBEq, Int.reduceToNat, getD_mapd _ _ _ _ hc2, hc2, hxx, Post.enc, tIF, fOutP_eq]
      (repeat' apply And.intro) <;> (try first | omega | ((fail_if_success refine idW ?_); (fail_if_success refine idS ?_); intros; (repeat' apply And.intro) <;> first | assumption | omega | (simp_all; done)))
      refine aw_cond (b := _) rfl (fun hb => ?_) (fun hb => ?_)
      · skip
        refine aw_seq (aw_region (EF := EF0) hG (by rw [hN]; exact tr29_5) ?_)
        simp only [a29_5, go_sem, ↓reduceIte, Nat.reduceEqDiff, reduceCtorEq, Nat.reduceAdd, Nat.reduceLT, Nat.reduceLeDiff, Nat.reduceBNe, Nat.reduceBEq, Int.reduceToNat, tIF, fOutP_eq]
        refine aw_ret ?_
        show Q _ _
        refine hQ _ _ (.inl rfl) ?_ ?_ ?_ <;> simp only [outφ, outV, AR.res, go_sem, ↓reduceIte, Nat.reduceEqDiff, reduceCtorEq, Nat.reduceAdd, Nat.reduceLT, Nat.reduceLeDiff, Nat.reduceBNe, Nat.reduceBEq, Int.reduceToNat, fIF]
        rw [findIdx_at hc2 hp (by rw [hxx]; exact hb)]; rfl
      · skip
        refine aw_skip ?_
        try simp only [go_sem, ↓reduceIte, Nat.reduceEqDiff, reduceCtorEq, Nat.reduceAdd, Nat.reduceLT, Nat.reduceLeDiff, Nat.reduceBNe, Nat.reduceBEq, Int.reduceToNat]
        refine aw_region (EF := EF0) hG (by rw [hN]; exact tr29_6) ?_
        simp only [a29_6, go_sem, ↓reduceIte, Nat.reduceEqDiff, reduceCtorEq, Nat.reduceAdd, Nat.reduceLT, Nat.reduceLeDiff, Nat.reduceBNe, Nat.reduceBEq, Int.reduceToNat, inI, tIF, fOutP_eq]
        (repeat' apply And.intro) <;> (try first | omega | ((fail_if_success refine idW ?_); (fail_if_success refine idS ?_); intros; (repeat' apply And.intro) <;> first | assumption | omega | (simp_all; done)))
        refine hKL0 (i + 1) _ ?_ ?_ ?_
        · (try dsimp only); exact ⟨hc2, take_all hc2 hp (by rw [hxx]; exact hb)⟩
        · (try dsimp only); omega
        · refine Le.mk _ _ ?_ ?_ rfl <;> simp only [go_sem, ↓reduceIte, Nat.reduceEqDiff, reduceCtorEq, Nat.reduceAdd, Nat.reduceLT, Nat.reduceLeDiff, Nat.reduceBNe, Nat.reduceBEq, Int.reduceToNat] <;> (repeat' apply And.intro) <;> (try first | rfl | exact wk_frzb rfl rfl rfl | exact wk_fn rfl | exact .nilo _ _ _ rfl rfl | exact wk_frzm rfl rfl (fun kv hk => by obtain ⟨_, _, rfl⟩ := List.mem_map.1 hk; rfl))
    · simp only [decide_eq_true_eq, decide_eq_false_iff_not, Bool.and_eq_true, Bool.or_eq_true, Bool.not_eq_true', Bool.not_eq_false', Bool.and_eq_false_iff, Bool.or_eq_false_iff, Int.ofNat_lt, Int.ofNat_le, Nat.not_lt, Nat.not_le, Int.not_lt, Int.not_le] at hc2
      refine aw_exit ?_
      simp only [go_sem, ↓reduceIte, Nat.reduceEqDiff, reduceCtorEq, Nat.reduceAdd, Nat.reduceLT, Nat.reduceLeDiff, Nat.reduceBNe, Nat.reduceBEq, Int.reduceToNat]
      refine aw_seq (aw_region (EF := EF0) hG (by rw [hN]; exact tr29_7) ?_)
      simp only [a29_7, go_sem, ↓reduceIte, Nat.reduceEqDiff, reduceCtorEq, Nat.reduceAdd, Nat.reduceLT, Nat.reduceLeDiff, Nat.reduceBNe, Nat.reduceBEq, Int.reduceToNat, tIF, fOutP_eq]
      refine aw_ret ?_
      show Q _ _
      refine hQ _ _ (.inl rfl) ?_ ?_ ?_ <;> simp only [outφ, outV, AR.res, go_sem, ↓reduceIte, Nat.reduceEqDiff, reduceCtorEq, Nat.reduceAdd, Nat.reduceLT, Nat.reduceLeDiff, Nat.reduceBNe, Nat.reduceBEq, Int.reduceToNat, fIF]
      rw [findIdx_no hc2 hp]; rfl
noncomputable def tCF : Tab
  | 29 => (gOf aCF fIF)
  | _ => gNo
theorem tCF_ok : ∀ f, PureC Tryd.prog UT f (tCF f) := fun f => by
  unfold tCF
  split
  · exact indexF_p
  · exact PureC.no
theorem containsF_p : PureC Tryd.prog UT 17 (gOf aCF fCF) := by
  have hG := tCF_ok
  refine PureC.ofArgs aCF_inj Tryd.func17 body17 nm17 res17 ?_
  rintro l hv
  refine ⟨by rw [nt17]; simp [aCF], fun C hN Q hQ => ?_⟩
  rw [nt17] at hN
  unfold c17
  replace hv : l.length ≤ 140737488355328 := hv
  refine aw_seq (aw_region (EF := EF0) hG (by rw [hN]; exact tr17_0) ?_)
  simp only [a17_0, go_sem, ↓reduceIte, Nat.reduceEqDiff, reduceCtorEq, Nat.reduceAdd, Nat.reduceLT, Nat.reduceLeDiff, Nat.reduceBNe, Nat.reduceBEq, Int.reduceToNat, aCF]
  refine aw_seq (aw_region (EF := EF0) hG (by rw [hN]; exact tr17_1) ?_)
  simp only [a17_1, go_sem, ↓reduceIte, Nat.reduceEqDiff, reduceCtorEq, Nat.reduceAdd, Nat.reduceLT, Nat.reduceLeDiff, Nat.reduceBNe, Nat.reduceBEq, Int.reduceToNat, tCF, fIF_eq, hv]
  (repeat' apply And.intro) <;> (try first | omega | ((fail_if_success refine idW ?_); (fail_if_success refine idS ?_); intros; (repeat' apply And.intro) <;> first | assumption | omega | (simp_all; done)))
  refine aw_ret ?_
  show Q _ _
  refine hQ _ _ (.inl rfl) ?_ ?_ ?_ <;> simp only [outφ, outV, AR.res, go_sem, ↓reduceIte, Nat.reduceEqDiff, reduceCtorEq, Nat.reduceAdd, Nat.reduceLT, Nat.reduceLeDiff, Nat.reduceBNe, Nat.reduceBEq, Int.reduceToNat, fCF]
  rw [idx_any]
/-! Clone: of rows; of none. -/
theorem clone_e (l : List Post) (h0 : l ≠ []) (hl : l.length ≤ 1000000) : Eff Tryd.prog UT 19 [.list (l.map Post.enc) false] [] (.own 5 l.length) [(5, .arr 64 2 (l.map Post.enc))] := by
  have hG := tNo_ok
  have hne : l.map Post.enc ≠ [] := fun e => h0 (List.map_eq_nil_iff.1 e)
  refine Eff.of_aw Tryd.func19 body19 nm19 res19 (by rw [nt19]; simp) fun C hN Q hQ => ?_
  rw [nt19] at hN
  unfold c19
  refine aw_seq (aw_region (EF := EF0) hG (by rw [hN]; exact tr19_0) ?_)
  simp only [a19_0, go_sem, ↓reduceIte, Nat.reduceEqDiff, reduceCtorEq, Nat.reduceAdd, Nat.reduceLT, Nat.reduceLeDiff, Nat.reduceBNe, Nat.reduceBEq, Int.reduceToNat]
  refine aw_seq ?_
  refine aw_seq (aw_region (EF := EF0) hG (by rw [hN]; exact tr19_1) ?_)
  simp only [a19_1, go_sem, ↓reduceIte, Nat.reduceEqDiff, reduceCtorEq, Nat.reduceAdd, Nat.reduceLT, Nat.reduceLeDiff, Nat.reduceBNe, Nat.reduceBEq, Int.reduceToNat, hne]
  refine aw_condF rfl ?_
  refine aw_skip ?_
  try simp only [go_sem, ↓reduceIte, Nat.reduceEqDiff, reduceCtorEq, Nat.reduceAdd, Nat.reduceLT, Nat.reduceLeDiff, Nat.reduceBNe, Nat.reduceBEq, Int.reduceToNat]
  refine aw_seq (aw_region (EF := EF0) hG (by rw [hN]; exact tr19_3) ?_)
  simp only [a19_3, go_sem, ↓reduceIte, Nat.reduceEqDiff, reduceCtorEq, Nat.reduceAdd, Nat.reduceLT, Nat.reduceLeDiff, Nat.reduceBNe, Nat.reduceBEq, Int.reduceToNat]
  (repeat' apply And.intro) <;> (try first | omega | ((fail_if_success refine idW ?_); (fail_if_success refine idS ?_); intros; (repeat' apply And.intro) <;> first | assumption | omega | (simp_all; done)))
  refine aw_ret ?_
  show Q _ _
  refine hQ _ _ ⟨mkE [(2, .own 5 l.length)], mkH ([(5, .arr 64 2 (l.map Post.enc))])⟩ (.inl rfl) (Le.mk _ _ ?_ ?_ rfl) rfl ?_ ?_ <;> simp only [outφ, outV, AR.res, go_sem, ↓reduceIte, Nat.reduceEqDiff, reduceCtorEq, Nat.reduceAdd, Nat.reduceLT, Nat.reduceLeDiff, Nat.reduceBNe, Nat.reduceBEq, Int.reduceToNat, List.length_map]
theorem clone_use {d : Option Nat} {s : St} {K : St → Prop} (nn : Nat) {l : List Post} (h0 : l ≠ []) (hl : l.length ≤ 1000000) (hn : s.h nn = none) (h1 : nn < 1000) (hK : K ⟨setE d (.own nn l.length) s.e, hov [(nn, .arr 64 2 (l.map Post.enc))] s.h⟩) : EStep Tryd.prog UT d 19 [.list (l.map Post.enc) false] s K := by
  refine ⟨[], [(5, nn)], _, _, _, _, clone_e l h0 hl, ⟨by simp [okL], rfl, rfl, by simp, ?_, by simp, by simp [V.rens, V.ren], by simp [V.nins, V.nin], by simp [V.nin], ?_, by simp⟩, ?_⟩
  · intro p hp
    simp only [List.mem_cons, List.not_mem_nil, or_false] at hp
    subst hp; exact ⟨hn, h1⟩
  · intro q hq
    simp only [List.mem_cons, List.not_mem_nil, or_false] at hq
    subst hq; simp only [Ob.nin, Post.purs]
  · have e1 : (V.own 5 l.length).ren (rn ([] ++ [(5, nn)])) = .own nn l.length := by simp [V.ren, rn]
    have e2 : [((5, .arr 64 2 (l.map Post.enc)) : Nat × Ob)].map (fun q : Nat × Ob => (rn ([] ++ [(5, nn)]) q.1, q.2.ren (rn ([] ++ [(5, nn)])))) = [(nn, .arr 64 2 (l.map Post.enc))] := by simp [rn, Ob.ren]
    rw [e1, e2]; exact hK
def aNil (_ : Unit) : List V := [.nils]
theorem aNil_inj (a b : Unit) (_ : aNil a = aNil b) : a = b := rfl
def fNil (_ : Unit) : Prop × V := (True, .list [] false)
theorem cloneN_p : PureC Tryd.prog UT 19 (gOf aNil fNil) := by
  have hG := tNo_ok
  refine PureC.ofArgs aNil_inj Tryd.func19 body19 nm19 res19 ?_
  rintro ⟨⟩ hv
  refine ⟨by rw [nt19]; simp [aNil], fun C hN Q hQ => ?_⟩
  rw [nt19] at hN
  unfold c19
  refine aw_seq (aw_region (EF := EF0) hG (by rw [hN]; exact tr19_0) ?_)
  simp only [a19_0, go_sem, ↓reduceIte, Nat.reduceEqDiff, reduceCtorEq, Nat.reduceAdd, Nat.reduceLT, Nat.reduceLeDiff, Nat.reduceBNe, Nat.reduceBEq, Int.reduceToNat, aNil]
  refine aw_seq ?_
  refine aw_seq (aw_region (EF := EF0) hG (by rw [hN]; exact tr19_1) ?_)
  simp only [a19_1, go_sem, ↓reduceIte, Nat.reduceEqDiff, reduceCtorEq, Nat.reduceAdd, Nat.reduceLT, Nat.reduceLeDiff, Nat.reduceBNe, Nat.reduceBEq, Int.reduceToNat]
  refine aw_condT rfl ?_
  refine aw_seq (aw_region (EF := EF0) hG (by rw [hN]; exact tr19_2) ?_)
  simp only [a19_2, go_sem, ↓reduceIte, Nat.reduceEqDiff, reduceCtorEq, Nat.reduceAdd, Nat.reduceLT, Nat.reduceLeDiff, Nat.reduceBNe, Nat.reduceBEq, Int.reduceToNat]
  refine AW.le (s' := ⟨mkE [(2, .list [] false)], mkH []⟩) (Le.mk _ _ ?_ ?_ rfl) (aw_ret (hQ _ _ (.inl rfl) ?_ ?_ ?_)) <;> simp only [outφ, outV, AR.res, go_sem, ↓reduceIte, Nat.reduceEqDiff, reduceCtorEq, Nat.reduceAdd, Nat.reduceLT, Nat.reduceLeDiff, Nat.reduceBNe, Nat.reduceBEq, Int.reduceToNat, fNil]
def aPin (x : Addr × Nat) : List V := [.pin (.slice (some x.1) 0 x.2)]
theorem aPin_inj (a b : Addr × Nat) (h : aPin a = aPin b) : a = b := by
  simp only [aPin, List.cons.injEq, V.pin.injEq, Value.slice.injEq, Option.some.injEq, and_true, true_and] at h
  exact Prod.ext h.1 h.2
def fPin (_ : Addr × Nat) : Prop × V := (True, .list [] false)
theorem cloneE_p : PureC Tryd.prog UT 19 (gOf aPin fPin) := by
  have hG := tNo_ok
  refine PureC.ofArgs aPin_inj Tryd.func19 body19 nm19 res19 ?_
  rintro ⟨ad, c⟩ hv
  refine ⟨by rw [nt19]; simp [aPin], fun C hN Q hQ => ?_⟩
  rw [nt19] at hN
  unfold c19
  refine aw_seq (aw_region (EF := EF0) hG (by rw [hN]; exact tr19_0) ?_)
  simp only [a19_0, go_sem, ↓reduceIte, Nat.reduceEqDiff, reduceCtorEq, Nat.reduceAdd, Nat.reduceLT, Nat.reduceLeDiff, Nat.reduceBNe, Nat.reduceBEq, Int.reduceToNat, aPin]
  refine aw_seq ?_
  refine aw_seq (aw_region (EF := EF0) hG (by rw [hN]; exact tr19_1) ?_)
  simp only [a19_1, go_sem, ↓reduceIte, Nat.reduceEqDiff, reduceCtorEq, Nat.reduceAdd, Nat.reduceLT, Nat.reduceLeDiff, Nat.reduceBNe, Nat.reduceBEq, Int.reduceToNat]
  refine aw_condF rfl ?_
  refine aw_skip ?_
  try simp only [go_sem, ↓reduceIte, Nat.reduceEqDiff, reduceCtorEq, Nat.reduceAdd, Nat.reduceLT, Nat.reduceLeDiff, Nat.reduceBNe, Nat.reduceBEq, Int.reduceToNat]
  refine aw_seq (aw_region (EF := EF0) hG (by rw [hN]; exact tr19_3) ?_)
  simp only [a19_3, go_sem, ↓reduceIte, Nat.reduceEqDiff, reduceCtorEq, Nat.reduceAdd, Nat.reduceLT, Nat.reduceLeDiff, Nat.reduceBNe, Nat.reduceBEq, Int.reduceToNat]
  (repeat' apply And.intro) <;> (try first | omega | ((fail_if_success refine idW ?_); (fail_if_success refine idS ?_); intros; (repeat' apply And.intro) <;> first | assumption | omega | (simp_all; done)))
  refine AW.le (s' := ⟨mkE [(2, .list [] false)], mkH []⟩) (Le.mk _ _ ?_ ?_ rfl) (aw_ret (hQ _ _ (.inl rfl) ?_ ?_ ?_)) <;> simp only [outφ, outV, AR.res, go_sem, ↓reduceIte, Nat.reduceEqDiff, reduceCtorEq, Nat.reduceAdd, Nat.reduceLT, Nat.reduceLeDiff, Nat.reduceBNe, Nat.reduceBEq, Int.reduceToNat, fPin]
  · exact wk_frz rfl rfl rfl (fun r hr => by simp at hr)
def gCl0 : List V → Prop × V
  | [.list [] _] => (True, .list [] false)
  | _ => (False, .any)
theorem clone0_p : PureC Tryd.prog UT 19 gCl0 := by
  intro vs M w cargs hv
  match vs, hv with
  | [.list [] _], hv =>
  refine ⟨(cloneN_p [.nils] M w cargs (by rw [show ([.nils] : List V) = aNil () from rfl, gOf_eq aNil_inj]; trivial)).1, fun h1 h2 h3 h4 h5 => ?_⟩
  have h0 := h5 0 _ rfl
  generalize hcv : cargs.getD 0 undef = cv at h0
  have e0 := args_one h3
  cases h0 with
  | list _ fit a cap sz g off f hf hcap hn ha hr hc hv2 =>
  cases a with
  | none =>
    have := hn rfl
    subst this
    have := (cloneN_p [.nils] M w cargs (by rw [show ([.nils] : List V) = aNil () from rfl, gOf_eq aNil_inj]; trivial)).2 h1 h2 h3 h4 (fun i v hi => by
      obtain rfl : i = 0 := by have := (List.getElem?_eq_some_iff.1 hi).1; simp at this; omega
      injection hi with hi
      subst hi
      rw [hcv]; exact .nils)
    rwa [show ([.nils] : List V) = aNil () from rfl, gOf_eq aNil_inj] at this
  | some ad =>
    have := (cloneE_p (aPin (ad, cap)) M w cargs (by rw [gOf_eq aPin_inj]; trivial)).2 h1 h2 h3 h4 (fun i v hi => by
      obtain rfl : i = 0 := by have := (List.getElem?_eq_some_iff.1 hi).1; simp [aPin] at this; omega
      injection hi with hi
      subst hi
      rw [hcv]; exact .pin _)
    rwa [gOf_eq aPin_inj] at this
theorem PureC.or {P : Program} {U : Tbl} {f : Nat} {g1 g2 g : List V → Prop × V} (h1 : PureC P U f g1) (h2 : PureC P U f g2) (hs : ∀ vs, (g vs).1 → ((g1 vs).1 ∧ (g1 vs).2 = (g vs).2) ∨ ((g2 vs).1 ∧ (g2 vs).2 = (g vs).2)) : PureC P U f g := by
  intro vs M w cargs hv
  rcases hs vs hv with ⟨a, b⟩ | ⟨a, b⟩
  · have := h1 vs M w cargs a; rwa [b] at this
  · have := h2 vs M w cargs a; rwa [b] at this
end Go.Proofs.YtkdkjbneohdofaaDoor
