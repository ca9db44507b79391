/- A nil ledger, and one that New did not return. -/
import Derived.Test.YthfmdkpfaehpnaaLe12
import Derived.Test.YthfmdkpfaehpnaaTS
namespace Go.Proofs.Ythfmdkpfaehpnaa
open Go Go.RowKit
set_option linter.unusedSimpArgs false
set_option linter.unusedVariables false
set_option linter.deprecated false
theorem mget_nil0 (k : Ky) (z : V) : mget [] k z = z := rfl
def nilV (b : Bool) : V := if b = true then .row [.nils, .nilm] 0 else .nilp
theorem nilV_inj {a b : Bool} (h : nilV a = nilV b) : a = b := by cases a <;> cases b <;> first | rfl | (simp [nilV] at h)
def aNP (x : Bool × Entry) : List V := [nilV x.1, .agg x.2.enc]
theorem aNP_inj (a b : Bool × Entry) (h : aNP a = aNP b) : a = b := by
  obtain ⟨a1, a2⟩ := a
  obtain ⟨b1, b2⟩ := b
  simp only [aNP, List.cons.injEq, V.agg.injEq, and_true] at h
  obtain ⟨h1, h2⟩ := h
  rw [nilV_inj h1, Entry.inj _ _ h2]
def aNB (x : Bool × List UInt8) : List V := [nilV x.1, .str x.2]
theorem aNB_inj (a b : Bool × List UInt8) (h : aNB a = aNB b) : a = b := by
  obtain ⟨a1, a2⟩ := a
  obtain ⟨b1, b2⟩ := b
  simp only [aNB, List.cons.injEq, V.str.injEq, and_true] at h
  obtain ⟨h1, h2⟩ := h
  rw [nilV_inj h1, h2]
def aNT (x : Bool) : List V := [nilV x]
theorem aNT_inj (a b : Bool) (h : aNT a = aNT b) : a = b := by
  simp only [aNT, List.cons.injEq, and_true] at h
  exact nilV_inj h
def aNE (x : Bool × Int × Int) : List V := [nilV x.1, .int .i64 x.2.1, .int .i64 x.2.2]
theorem aNE_inj (a b : Bool × Int × Int) (h : aNE a = aNE b) : a = b := by
  obtain ⟨a1, a2, a3⟩ := a
  obtain ⟨b1, b2, b3⟩ := b
  simp only [aNE, List.cons.injEq, V.int.injEq, and_true, true_and] at h
  obtain ⟨h1, h2, h3⟩ := h
  rw [nilV_inj h1, h2, h3]
def fNP (_ : Bool × Entry) : Prop × V := (True, .int .i64 1)
def fNB (_ : Bool × List UInt8) : Prop × V := (True, .int .i64 0)
def fNT (_ : Bool) : Prop × V := (True, .list [] false)
def fNE (_ : Bool × Int × Int) : Prop × V := (True, .list [] false)
theorem postN_p : PureC Try.prog UT 17 (gOf aNP fNP) := by
  have hG := tNo_ok
  refine PureC.ofArgs aNP_inj Try.func17 body17 nm17 res17 ?_
  rintro ⟨b, e⟩ hv
  refine ⟨by rw [nt17]; simp [aNP], fun C hN Q hQ => ?_⟩
  rw [nt17] at hN
  unfold c17
  cases b
  · skip
    refine aw_seq (aw_region (EF := EF0) hG (by rw [hN]; exact tr17_0) ?_)
    simp only [a17_0, go_sem, ↓reduceIte, Nat.reduceEqDiff, reduceCtorEq, Nat.reduceAdd, Nat.reduceLT, Nat.reduceLeDiff, Nat.reduceBNe, Nat.reduceBEq, Int.reduceToNat, aNP, nilV, Entry.enc]
    refine aw_seq ?_
    refine aw_seq (aw_region (EF := EF0) hG (by rw [hN]; exact tr17_1) ?_)
    simp only [a17_1, go_sem, ↓reduceIte, Nat.reduceEqDiff, reduceCtorEq, Nat.reduceAdd, Nat.reduceLT, Nat.reduceLeDiff, Nat.reduceBNe, Nat.reduceBEq, Int.reduceToNat]
    (repeat' apply And.intro) <;> (try first | omega | ((fail_if_success refine idW ?_); (fail_if_success refine idS ?_); intros; (repeat' apply And.intro) <;> first | assumption | omega | (simp_all; done)))
    refine aw_condT rfl ?_
    refine aw_seq (aw_region (EF := EF0) hG (by rw [hN]; exact tr17_2) ?_)
    simp only [a17_2, go_sem, ↓reduceIte, Nat.reduceEqDiff, reduceCtorEq, Nat.reduceAdd, Nat.reduceLT, Nat.reduceLeDiff, Nat.reduceBNe, Nat.reduceBEq, Int.reduceToNat]
    refine aw_ret ?_
    show Q _ _
    refine hQ _ _ (.inl rfl) ?_ ?_ ?_ <;> simp only [outφ, outV, AR.res, go_sem, ↓reduceIte, Nat.reduceEqDiff, reduceCtorEq, Nat.reduceAdd, Nat.reduceLT, Nat.reduceLeDiff, Nat.reduceBNe, Nat.reduceBEq, Int.reduceToNat, fNP]
  · skip
    refine aw_seq (aw_region (EF := EF0) hG (by rw [hN]; exact tr17_0) ?_)
    simp only [a17_0, go_sem, ↓reduceIte, Nat.reduceEqDiff, reduceCtorEq, Nat.reduceAdd, Nat.reduceLT, Nat.reduceLeDiff, Nat.reduceBNe, Nat.reduceBEq, Int.reduceToNat, aNP, nilV, Entry.enc]
    refine aw_seq ?_
    refine aw_seq (aw_region (EF := EF0) hG (by rw [hN]; exact tr17_1) ?_)
    simp only [a17_1, go_sem, ↓reduceIte, Nat.reduceEqDiff, reduceCtorEq, Nat.reduceAdd, Nat.reduceLT, Nat.reduceLeDiff, Nat.reduceBNe, Nat.reduceBEq, Int.reduceToNat]
    (repeat' apply And.intro) <;> (try first | omega | ((fail_if_success refine idW ?_); (fail_if_success refine idS ?_); intros; (repeat' apply And.intro) <;> first | assumption | omega | (simp_all; done)))
    refine aw_condT rfl ?_
    refine aw_seq (aw_region (EF := EF0) hG (by rw [hN]; exact tr17_2) ?_)
    simp only [a17_2, go_sem, ↓reduceIte, Nat.reduceEqDiff, reduceCtorEq, Nat.reduceAdd, Nat.reduceLT, Nat.reduceLeDiff, Nat.reduceBNe, Nat.reduceBEq, Int.reduceToNat]
    refine aw_ret ?_
    show Q _ _
    refine hQ _ _ (.inl rfl) ?_ ?_ ?_ <;> simp only [outφ, outV, AR.res, go_sem, ↓reduceIte, Nat.reduceEqDiff, reduceCtorEq, Nat.reduceAdd, Nat.reduceLT, Nat.reduceLeDiff, Nat.reduceBNe, Nat.reduceBEq, Int.reduceToNat, fNP]
theorem balN_p : PureC Try.prog UT 22 (gOf aNB fNB) := by
  have hG := tNo_ok
  refine PureC.ofArgs aNB_inj Try.func22 body22 nm22 res22 ?_
  rintro ⟨b, k⟩ hv
  refine ⟨by rw [nt22]; simp [aNB], fun C hN Q hQ => ?_⟩
  rw [nt22] at hN
  unfold c22
  cases b
  · skip
    refine aw_seq (aw_region (EF := EF0) hG (by rw [hN]; exact tr22_0) ?_)
    simp only [a22_0, go_sem, ↓reduceIte, Nat.reduceEqDiff, reduceCtorEq, Nat.reduceAdd, Nat.reduceLT, Nat.reduceLeDiff, Nat.reduceBNe, Nat.reduceBEq, Int.reduceToNat, aNB, nilV]
    refine aw_seq ?_
    refine aw_seq (aw_region (EF := EF0) hG (by rw [hN]; exact tr22_1) ?_)
    simp only [a22_1, go_sem, ↓reduceIte, Nat.reduceEqDiff, reduceCtorEq, Nat.reduceAdd, Nat.reduceLT, Nat.reduceLeDiff, Nat.reduceBNe, Nat.reduceBEq, Int.reduceToNat]
    refine aw_condT rfl ?_
    refine aw_seq (aw_region (EF := EF0) hG (by rw [hN]; exact tr22_2) ?_)
    simp only [a22_2, go_sem, ↓reduceIte, Nat.reduceEqDiff, reduceCtorEq, Nat.reduceAdd, Nat.reduceLT, Nat.reduceLeDiff, Nat.reduceBNe, Nat.reduceBEq, Int.reduceToNat]
    refine aw_ret ?_
    show Q _ _
    refine hQ _ _ (.inl rfl) ?_ ?_ ?_ <;> simp only [outφ, outV, AR.res, go_sem, ↓reduceIte, Nat.reduceEqDiff, reduceCtorEq, Nat.reduceAdd, Nat.reduceLT, Nat.reduceLeDiff, Nat.reduceBNe, Nat.reduceBEq, Int.reduceToNat, fNB]
  · skip
    refine aw_seq (aw_region (EF := EF0) hG (by rw [hN]; exact tr22_0) ?_)
    simp only [a22_0, go_sem, ↓reduceIte, Nat.reduceEqDiff, reduceCtorEq, Nat.reduceAdd, Nat.reduceLT, Nat.reduceLeDiff, Nat.reduceBNe, Nat.reduceBEq, Int.reduceToNat, aNB, nilV]
    refine aw_seq ?_
    refine aw_seq (aw_region (EF := EF0) hG (by rw [hN]; exact tr22_1) ?_)
    simp only [a22_1, go_sem, ↓reduceIte, Nat.reduceEqDiff, reduceCtorEq, Nat.reduceAdd, Nat.reduceLT, Nat.reduceLeDiff, Nat.reduceBNe, Nat.reduceBEq, Int.reduceToNat]
    refine aw_condF rfl ?_
    refine aw_skip ?_
    try simp only [go_sem, ↓reduceIte, Nat.reduceEqDiff, reduceCtorEq, Nat.reduceAdd, Nat.reduceLT, Nat.reduceLeDiff, Nat.reduceBNe, Nat.reduceBEq, Int.reduceToNat]
    refine aw_seq (aw_region (EF := EF0) hG (by rw [hN]; exact tr22_3) ?_)
    simp only [a22_3, go_sem, ↓reduceIte, Nat.reduceEqDiff, reduceCtorEq, Nat.reduceAdd, Nat.reduceLT, Nat.reduceLeDiff, Nat.reduceBNe, Nat.reduceBEq, Int.reduceToNat]
    (repeat' apply And.intro) <;> (try first | omega | ((fail_if_success refine idW ?_); (fail_if_success refine idS ?_); intros; (repeat' apply And.intro) <;> first | assumption | omega | (simp_all; done)))
    refine aw_ret ?_
    show Q _ _
    refine hQ _ _ (.inl rfl) ?_ ?_ ?_ <;> simp only [outφ, outV, AR.res, go_sem, ↓reduceIte, Nat.reduceEqDiff, reduceCtorEq, Nat.reduceAdd, Nat.reduceLT, Nat.reduceLeDiff, Nat.reduceBNe, Nat.reduceBEq, Int.reduceToNat, fNB, mget_nil0]
theorem trialN_p : PureC Try.prog UT 20 (gOf aNT fNT) := by
  have hG := tNo_ok
  refine PureC.ofArgs aNT_inj Try.func20 body20 nm20 res20 ?_
  rintro b hv
  refine ⟨by rw [nt20]; simp [aNT], fun C hN Q hQ => ?_⟩
  rw [nt20] at hN
  unfold c20
  cases b
  · skip
    refine aw_seq (aw_region (EF := EFt) hG (by rw [hN]; exact tr20_0) ?_)
    simp only [a20_0, go_sem, ↓reduceIte, Nat.reduceEqDiff, reduceCtorEq, Nat.reduceAdd, Nat.reduceLT, Nat.reduceLeDiff, Nat.reduceBNe, Nat.reduceBEq, Int.reduceToNat, aNT, nilV]
    refine aw_seq ?_
    refine aw_seq (aw_region (EF := EFt) hG (by rw [hN]; exact tr20_1) ?_)
    simp only [a20_1, go_sem, ↓reduceIte, Nat.reduceEqDiff, reduceCtorEq, Nat.reduceAdd, Nat.reduceLT, Nat.reduceLeDiff, Nat.reduceBNe, Nat.reduceBEq, Int.reduceToNat]
    refine aw_condT rfl ?_
    refine aw_seq (aw_region (EF := EFt) hG (by rw [hN]; exact tr20_2) ?_)
    simp only [a20_2, go_sem, ↓reduceIte, Nat.reduceEqDiff, reduceCtorEq, Nat.reduceAdd, Nat.reduceLT, Nat.reduceLeDiff, Nat.reduceBNe, Nat.reduceBEq, Int.reduceToNat]
    refine AW.le (s' := ⟨mkE [(2, .list [] false)], mkH []⟩) (Le.mk _ _ ?_ ?_ rfl) (aw_ret (hQ _ _ (.inl rfl) ?_ ?_ ?_)) <;> simp only [outφ, outV, AR.res, go_sem, ↓reduceIte, Nat.reduceEqDiff, reduceCtorEq, Nat.reduceAdd, Nat.reduceLT, Nat.reduceLeDiff, Nat.reduceBNe, Nat.reduceBEq, Int.reduceToNat, fNT]
  · skip
    refine aw_seq (aw_region (EF := EFt) hG (by rw [hN]; exact tr20_0) ?_)
    simp only [a20_0, go_sem, ↓reduceIte, Nat.reduceEqDiff, reduceCtorEq, Nat.reduceAdd, Nat.reduceLT, Nat.reduceLeDiff, Nat.reduceBNe, Nat.reduceBEq, Int.reduceToNat, aNT, nilV, EFt, fKeysI]
    refine aw_seq ?_
    refine aw_seq (aw_region (EF := EFt) hG (by rw [hN]; exact tr20_1) ?_)
    simp only [a20_1, go_sem, ↓reduceIte, Nat.reduceEqDiff, reduceCtorEq, Nat.reduceAdd, Nat.reduceLT, Nat.reduceLeDiff, Nat.reduceBNe, Nat.reduceBEq, Int.reduceToNat, EFt, fKeysI]
    refine aw_condF rfl ?_
    refine aw_skip ?_
    try simp only [go_sem, ↓reduceIte, Nat.reduceEqDiff, reduceCtorEq, Nat.reduceAdd, Nat.reduceLT, Nat.reduceLeDiff, Nat.reduceBNe, Nat.reduceBEq, Int.reduceToNat]
    refine aw_seq (aw_region (EF := EFt) hG (by rw [hN]; exact tr20_3) ?_)
    simp only [a20_3, go_sem, ↓reduceIte, Nat.reduceEqDiff, reduceCtorEq, Nat.reduceAdd, Nat.reduceLT, Nat.reduceLeDiff, Nat.reduceBNe, Nat.reduceBEq, Int.reduceToNat, EFt, fKeysI]
    refine aw_seq ?_
    refine aw_seq (aw_region (EF := EFt) hG (by rw [hN]; exact tr20_4) ?_)
    simp only [a20_4, go_sem, ↓reduceIte, Nat.reduceEqDiff, reduceCtorEq, Nat.reduceAdd, Nat.reduceLT, Nat.reduceLeDiff, Nat.reduceBNe, Nat.reduceBEq, Int.reduceToNat, EFt, fKeysI]
    refine keysN_use 12 rfl (by decide) ?_
    simp only [go_sem, ↓reduceIte, Nat.reduceEqDiff, reduceCtorEq, Nat.reduceAdd, Nat.reduceLT, Nat.reduceLeDiff, Nat.reduceBNe, Nat.reduceBEq, Int.reduceToNat, EFt]
    refine sortedN_use rfl ?_
    simp only [go_sem, ↓reduceIte, Nat.reduceEqDiff, reduceCtorEq, Nat.reduceAdd, Nat.reduceLT, Nat.reduceLeDiff, Nat.reduceBNe, Nat.reduceBEq, Int.reduceToNat]
    refine aw_block ?_
    refine aw_loop (α := Nat) (fun i => (i = 0)) (fun i => ⟨mkE [(0, V.row [V.nils, V.nilm] 0), (3, V.nils), (13, V.list [] false), (14, V.int IntKind.i64 0), (15, .int .i64 i)], mkH []⟩) (fun i => 0) 0 rfl ?_ ?_
    · refine Le.mk _ _ ?_ ?_ rfl <;> simp only [go_sem, ↓reduceIte, Nat.reduceEqDiff, reduceCtorEq, Nat.reduceAdd, Nat.reduceLT, Nat.reduceLeDiff, Nat.reduceBNe, Nat.reduceBEq, Int.reduceToNat] <;> (repeat' apply And.intro) <;> (try first | rfl | exact wk_frzb rfl rfl rfl | exact wk_fn rfl | exact .nilo _ _ _ rfl rfl | exact wk_frzm rfl rfl (fun kv hk => by obtain ⟨_, _, rfl⟩ := List.mem_map.1 hk; rfl))
    · rintro i hi KL0 hKL0
      try dsimp only at *
      refine aw_seq (aw_region (EF := EFt) hG (by rw [hN]; exact tr20_5) ?_)
      simp only [a20_5, go_sem, ↓reduceIte, Nat.reduceEqDiff, reduceCtorEq, Nat.reduceAdd, Nat.reduceLT, Nat.reduceLeDiff, Nat.reduceBNe, Nat.reduceBEq, Int.reduceToNat, EFt, fKeysI]
      refine aw_seq ?_
      refine aw_cond (b := _) rfl (fun hb5 => ?_) (fun hb5 => ?_)
      · (exfalso; subst hi; simp at hb5)
      · skip
        refine aw_exit ?_
        simp only [go_sem, ↓reduceIte, Nat.reduceEqDiff, reduceCtorEq, Nat.reduceAdd, Nat.reduceLT, Nat.reduceLeDiff, Nat.reduceBNe, Nat.reduceBEq, Int.reduceToNat]
        refine aw_seq (aw_region (EF := EFt) hG (by rw [hN]; exact tr20_9) ?_)
        simp only [a20_9, go_sem, ↓reduceIte, Nat.reduceEqDiff, reduceCtorEq, Nat.reduceAdd, Nat.reduceLT, Nat.reduceLeDiff, Nat.reduceBNe, Nat.reduceBEq, Int.reduceToNat, EFt, fKeysI]
        refine AW.le (s' := ⟨mkE [(2, .list [] false)], mkH []⟩) (Le.mk _ _ ?_ ?_ rfl) (aw_ret (hQ _ _ (.inl rfl) ?_ ?_ ?_)) <;> simp only [outφ, outV, AR.res, go_sem, ↓reduceIte, Nat.reduceEqDiff, reduceCtorEq, Nat.reduceAdd, Nat.reduceLT, Nat.reduceLeDiff, Nat.reduceBNe, Nat.reduceBEq, Int.reduceToNat, fNT]
theorem entsN_p : PureC Try.prog UT 24 (gOf aNE fNE) := by
  have hG := tNo_ok
  refine PureC.ofArgs aNE_inj Try.func24 body24 nm24 res24 ?_
  rintro ⟨b, x, y⟩ hv
  refine ⟨by rw [nt24]; simp [aNE], fun C hN Q hQ => ?_⟩
  rw [nt24] at hN
  unfold c24
  cases b
  · skip
    refine aw_seq (aw_region (EF := EFt) hG (by rw [hN]; exact tr24_0) ?_)
    simp only [a24_0, go_sem, ↓reduceIte, Nat.reduceEqDiff, reduceCtorEq, Nat.reduceAdd, Nat.reduceLT, Nat.reduceLeDiff, Nat.reduceBNe, Nat.reduceBEq, Int.reduceToNat, aNE, nilV]
    refine aw_seq ?_
    refine aw_seq (aw_region (EF := EFt) hG (by rw [hN]; exact tr24_1) ?_)
    simp only [a24_1, go_sem, ↓reduceIte, Nat.reduceEqDiff, reduceCtorEq, Nat.reduceAdd, Nat.reduceLT, Nat.reduceLeDiff, Nat.reduceBNe, Nat.reduceBEq, Int.reduceToNat]
    refine aw_condT rfl ?_
    refine aw_seq (aw_region (EF := EFt) hG (by rw [hN]; exact tr24_2) ?_)
    simp only [a24_2, go_sem, ↓reduceIte, Nat.reduceEqDiff, reduceCtorEq, Nat.reduceAdd, Nat.reduceLT, Nat.reduceLeDiff, Nat.reduceBNe, Nat.reduceBEq, Int.reduceToNat]
    refine AW.le (s' := ⟨mkE [(6, .list [] false)], mkH []⟩) (Le.mk _ _ ?_ ?_ rfl) (aw_ret (hQ _ _ (.inl rfl) ?_ ?_ ?_)) <;> simp only [outφ, outV, AR.res, go_sem, ↓reduceIte, Nat.reduceEqDiff, reduceCtorEq, Nat.reduceAdd, Nat.reduceLT, Nat.reduceLeDiff, Nat.reduceBNe, Nat.reduceBEq, Int.reduceToNat, fNE]
  · skip
    refine aw_seq (aw_region (EF := EFt) hG (by rw [hN]; exact tr24_0) ?_)
    simp only [a24_0, go_sem, ↓reduceIte, Nat.reduceEqDiff, reduceCtorEq, Nat.reduceAdd, Nat.reduceLT, Nat.reduceLeDiff, Nat.reduceBNe, Nat.reduceBEq, Int.reduceToNat, aNE, nilV]
    refine aw_seq ?_
    refine aw_seq (aw_region (EF := EFt) hG (by rw [hN]; exact tr24_1) ?_)
    simp only [a24_1, go_sem, ↓reduceIte, Nat.reduceEqDiff, reduceCtorEq, Nat.reduceAdd, Nat.reduceLT, Nat.reduceLeDiff, Nat.reduceBNe, Nat.reduceBEq, Int.reduceToNat]
    refine aw_condF rfl ?_
    refine aw_skip ?_
    try simp only [go_sem, ↓reduceIte, Nat.reduceEqDiff, reduceCtorEq, Nat.reduceAdd, Nat.reduceLT, Nat.reduceLeDiff, Nat.reduceBNe, Nat.reduceBEq, Int.reduceToNat]
    refine aw_seq (aw_region (EF := EFt) hG (by rw [hN]; exact tr24_3) ?_)
    simp only [a24_3, go_sem, ↓reduceIte, Nat.reduceEqDiff, reduceCtorEq, Nat.reduceAdd, Nat.reduceLT, Nat.reduceLeDiff, Nat.reduceBNe, Nat.reduceBEq, Int.reduceToNat]
    refine aw_seq ?_
    refine aw_seq (aw_region (EF := EFt) hG (by rw [hN]; exact tr24_4) ?_)
    simp only [a24_4, go_sem, ↓reduceIte, Nat.reduceEqDiff, reduceCtorEq, Nat.reduceAdd, Nat.reduceLT, Nat.reduceLeDiff, Nat.reduceBNe, Nat.reduceBEq, Int.reduceToNat]
    refine aw_block ?_
    refine aw_loop (α := Nat) (fun i => (i = 0)) (fun i => ⟨mkE [(1, V.int IntKind.i64 x), (2, V.int IntKind.i64 y), (7, V.nils), (15, V.nils), (16, V.int IntKind.i64 0), (17, .int .i64 i)], mkH []⟩) (fun i => 0) 0 rfl ?_ ?_
    · refine Le.mk _ _ ?_ ?_ rfl <;> simp only [go_sem, ↓reduceIte, Nat.reduceEqDiff, reduceCtorEq, Nat.reduceAdd, Nat.reduceLT, Nat.reduceLeDiff, Nat.reduceBNe, Nat.reduceBEq, Int.reduceToNat] <;> (repeat' apply And.intro) <;> (try first | rfl | exact wk_frzb rfl rfl rfl | exact wk_fn rfl | exact .nilo _ _ _ rfl rfl | exact wk_frzm rfl rfl (fun kv hk => by obtain ⟨_, _, rfl⟩ := List.mem_map.1 hk; rfl))
    · rintro i hi KL0 hKL0
      try dsimp only at *
      refine aw_seq (aw_region (EF := EFt) hG (by rw [hN]; exact tr24_5) ?_)
      simp only [a24_5, go_sem, ↓reduceIte, Nat.reduceEqDiff, reduceCtorEq, Nat.reduceAdd, Nat.reduceLT, Nat.reduceLeDiff, Nat.reduceBNe, Nat.reduceBEq, Int.reduceToNat]
      refine aw_seq ?_
      refine aw_cond (b := _) rfl (fun hb5 => ?_) (fun hb5 => ?_)
      · (exfalso; subst hi; simp at hb5)
      · skip
        refine aw_exit ?_
        simp only [go_sem, ↓reduceIte, Nat.reduceEqDiff, reduceCtorEq, Nat.reduceAdd, Nat.reduceLT, Nat.reduceLeDiff, Nat.reduceBNe, Nat.reduceBEq, Int.reduceToNat]
        refine aw_seq (aw_region (EF := EFt) hG (by rw [hN]; exact tr24_11) ?_)
        simp only [a24_11, go_sem, ↓reduceIte, Nat.reduceEqDiff, reduceCtorEq, Nat.reduceAdd, Nat.reduceLT, Nat.reduceLeDiff, Nat.reduceBNe, Nat.reduceBEq, Int.reduceToNat]
        refine AW.le (s' := ⟨mkE [(6, .list [] false)], mkH []⟩) (Le.mk _ _ ?_ ?_ rfl) (aw_ret (hQ _ _ (.inl rfl) ?_ ?_ ?_)) <;> simp only [outφ, outV, AR.res, go_sem, ↓reduceIte, Nat.reduceEqDiff, reduceCtorEq, Nat.reduceAdd, Nat.reduceLT, Nat.reduceLeDiff, Nat.reduceBNe, Nat.reduceBEq, Int.reduceToNat, fNE]
def fLN (x : Entry × List UInt8) : Prop × V := (x.1.ok, .bool true)
def aEk2 (x : Entry × List UInt8) : List V := [.agg x.1.enc, .str x.2]
theorem aEk2_inj (a b : Entry × List UInt8) (h : aEk2 a = aEk2 b) : a = b := by
  obtain ⟨a_e, a_k⟩ := a
  obtain ⟨b_e, b_k⟩ := b
  simp only [aEk2, List.cons.injEq, V.str.injEq, V.int.injEq, V.bool.injEq, V.agg.injEq, V.list.injEq, and_true, true_and] at h
  obtain ⟨h0, h1⟩ := h
  replace h0 := Entry.inj _ _ h0
  subst h0
  subst h1
  rfl
theorem nP0 (e : Entry) : gOf aNP fNP [.nilp, .agg [.int .i64 e.day, .str e.text, .list (e.posts.map Post.enc) false]] = (True, .int .i64 1) := gOf_eq aNP_inj (false, e)
theorem nP1 (e : Entry) : gOf aNP fNP [.row [.nils, .nilm] 0, .agg [.int .i64 e.day, .str e.text, .list (e.posts.map Post.enc) false]] = (True, .int .i64 1) := gOf_eq aNP_inj (true, e)
theorem nB0 (k : List UInt8) : gOf aNB fNB [.nilp, .str k] = (True, .int .i64 0) := gOf_eq aNB_inj (false, k)
theorem nB1 (k : List UInt8) : gOf aNB fNB [.row [.nils, .nilm] 0, .str k] = (True, .int .i64 0) := gOf_eq aNB_inj (true, k)
theorem nT0 : gOf aNT fNT [.nilp] = (True, .list [] false) := gOf_eq aNT_inj false
theorem nT1 : gOf aNT fNT [.row [.nils, .nilm] 0] = (True, .list [] false) := gOf_eq aNT_inj true
theorem nE0 (a b : Int) : gOf aNE fNE [.nilp, .int .i64 a, .int .i64 b] = (True, .list [] false) := gOf_eq aNE_inj (false, a, b)
theorem nE1 (a b : Int) : gOf aNE fNE [.row [.nils, .nilm] 0, .int .i64 a, .int .i64 b] = (True, .list [] false) := gOf_eq aNE_inj (true, a, b)
noncomputable def tLN : Tab
  | 9 => (gOf aUnit fTrue)
  | 17 => (gOf aNP fNP)
  | 22 => (gOf aNB fNB)
  | 20 => (gOf aNT fNT)
  | 24 => (gOf aNE fNE)
  | _ => gNo
theorem tLN_ok : ∀ f, PureC Try.prog UT f (tLN f) := fun f => by
  unfold tLN
  split
  · exact knows_p
  · exact postN_p
  · exact balN_p
  · exact trialN_p
  · exact entsN_p
  · exact PureC.no
set_option maxHeartbeats 4000000 in
theorem lawN_p : PureC Try.prog UT 7 (gOf aEk2 fLN) := by
  have hG := tLN_ok
  refine PureC.ofArgs aEk2_inj Try.func7 body7 nm7 res7 ?_
  rintro ⟨e, k⟩ hv
  refine ⟨by rw [nt7]; simp [aEk2], fun C hN Q hQ => ?_⟩
  rw [nt7] at hN
  unfold c7
  have hok : e.ok := hv
  refine aw_seq (aw_region (EF := EFt) hG (by rw [hN]; exact tr7_0) ?_)
  simp only [a7_0, go_sem, ↓reduceIte, Nat.reduceEqDiff, reduceCtorEq, Nat.reduceAdd, Nat.reduceLT, Nat.reduceLeDiff, Nat.reduceBNe, Nat.reduceBEq, Int.reduceToNat, aEk2, Entry.enc, tLN, fTrue_eq, nP0, nP1, nB0, nB1, nT0, nT1, nE0, nE1]
  refine aw_seq (aw_region (EF := EFt) hG (by rw [hN]; exact tr7_1) ?_)
  simp only [a7_1, go_sem, ↓reduceIte, Nat.reduceEqDiff, reduceCtorEq, Nat.reduceAdd, Nat.reduceLT, Nat.reduceLeDiff, Nat.reduceBNe, Nat.reduceBEq, Int.reduceToNat, tLN, fTrue_eq, nP0, nP1, nB0, nB1, nT0, nT1, nE0, nE1]
  refine aw_seq ?_
  refine aw_seq (aw_list ?_)
  refine awl_cut 2 (aos := a7_2) (EF := EF0) hG (by rw [hN]; exact tr7_2) ?_
  simp only [a7_2, go_sem, ↓reduceIte, Nat.reduceEqDiff, reduceCtorEq, Nat.reduceAdd, Nat.reduceLT, Nat.reduceLeDiff, Nat.reduceBNe, Nat.reduceBEq, Int.reduceToNat, List.take_succ_cons, List.take_zero]
  refine awl_le (s' := ⟨mkE [(1, .str k), (2, .ptr 2 0), (8, .nilp), (9, .row [.nils, .nilm] 0)], mkH [(2, .box 24 [.int .i64 e.day, .str e.text, .list (e.posts.map Post.enc) false])]⟩) ?_ ?_
  · refine Le.mk _ _ ?_ ?_ rfl <;> simp only [go_sem, ↓reduceIte, Nat.reduceEqDiff, reduceCtorEq, Nat.reduceAdd, Nat.reduceLT, Nat.reduceLeDiff, Nat.reduceBNe, Nat.reduceBEq, Int.reduceToNat] <;> (repeat' apply And.intro) <;> (try first | rfl | exact wk_frzb rfl rfl rfl | exact wk_fn rfl | exact .nilo _ _ _ rfl rfl | exact wk_frzm rfl rfl (fun kv hk => by obtain ⟨_, _, rfl⟩ := List.mem_map.1 hk; rfl))
  refine awl_end (aos := a7_2.drop 2) (EF := EF0) hG (by rw [hN]; exact mapM_drop _ 2 tr7_2) ?_
  simp only [a7_2, go_sem, ↓reduceIte, Nat.reduceEqDiff, reduceCtorEq, Nat.reduceAdd, Nat.reduceLT, Nat.reduceLeDiff, Nat.reduceBNe, Nat.reduceBEq, Int.reduceToNat, List.drop_succ_cons, List.drop_zero]
  refine aw_block ?_
  refine aw_loop (α := Nat) (fun i => (i ≤ 2)) (fun i => ⟨mkE [(1, V.str k), (2, V.ptr 2 0), (10, V.list [[V.nilp], [V.row [V.nils, V.nilm] 0]] false), (11, V.int IntKind.i64 2), (12, .int .i64 i)], mkH [(2, Ob.box 24 [V.int IntKind.i64 e.day, V.str e.text, V.list (List.map Post.enc e.posts) false])]⟩) (fun i => 2 - i) 0 (by omega) ?_ ?_
  · refine Le.mk _ _ ?_ ?_ rfl <;> simp only [go_sem, ↓reduceIte, Nat.reduceEqDiff, reduceCtorEq, Nat.reduceAdd, Nat.reduceLT, Nat.reduceLeDiff, Nat.reduceBNe, Nat.reduceBEq, Int.reduceToNat] <;> (repeat' apply And.intro) <;> (try first | rfl | exact wk_frzb rfl rfl rfl | exact wk_fn rfl | exact .nilo _ _ _ rfl rfl | exact wk_frzm rfl rfl (fun kv hk => by obtain ⟨_, _, rfl⟩ := List.mem_map.1 hk; rfl))
  · rintro i hi KL0 hKL0
    try dsimp only at *
    refine aw_seq (aw_region (EF := EFt) hG (by rw [hN]; exact tr7_3) ?_)
    simp only [a7_3, go_sem, ↓reduceIte, Nat.reduceEqDiff, reduceCtorEq, Nat.reduceAdd, Nat.reduceLT, Nat.reduceLeDiff, Nat.reduceBNe, Nat.reduceBEq, Int.reduceToNat, tLN, fTrue_eq, nP0, nP1, nB0, nB1, nT0, nT1, nE0, nE1]
    refine aw_seq ?_
    refine aw_cond (b := _) rfl (fun hb3 => ?_) (fun hb3 => ?_)
    · skip
      have hc : i < 2 := by simp at hb3; omega
      refine aw_skip ?_
      try simp only [go_sem, ↓reduceIte, Nat.reduceEqDiff, reduceCtorEq, Nat.reduceAdd, Nat.reduceLT, Nat.reduceLeDiff, Nat.reduceBNe, Nat.reduceBEq, Int.reduceToNat]
      refine aw_seq ?_
      refine aw_block ?_
      by_cases h0 : i = 0
      · skip
        subst h0
        refine aw_seq (aw_region (EF := EFt) hG (by rw [hN]; exact tr7_4) ?_)
        simp only [a7_4, go_sem, ↓reduceIte, Nat.reduceEqDiff, reduceCtorEq, Nat.reduceAdd, Nat.reduceLT, Nat.reduceLeDiff, Nat.reduceBNe, Nat.reduceBEq, Int.reduceToNat, tLN, fTrue_eq, nP0, nP1, nB0, nB1, nT0, nT1, nE0, nE1]
        (repeat' apply And.intro) <;> (try first | omega | ((fail_if_success refine idW ?_); (fail_if_success refine idS ?_); intros; (repeat' apply And.intro) <;> first | assumption | omega | (simp_all; done)))
        refine aw_seq (aw_region (EF := EFt) hG (by rw [hN]; exact tr7_5) ?_)
        simp only [a7_5, go_sem, ↓reduceIte, Nat.reduceEqDiff, reduceCtorEq, Nat.reduceAdd, Nat.reduceLT, Nat.reduceLeDiff, Nat.reduceBNe, Nat.reduceBEq, Int.reduceToNat, tLN, fTrue_eq, nP0, nP1, nB0, nB1, nT0, nT1, nE0, nE1]
        (repeat' apply And.intro) <;> (try first | omega | ((fail_if_success refine idW ?_); (fail_if_success refine idS ?_); intros; (repeat' apply And.intro) <;> first | assumption | omega | (simp_all; done)))
        refine aw_condF rfl ?_
        refine aw_skip ?_
        try simp only [go_sem, ↓reduceIte, Nat.reduceEqDiff, reduceCtorEq, Nat.reduceAdd, Nat.reduceLT, Nat.reduceLeDiff, Nat.reduceBNe, Nat.reduceBEq, Int.reduceToNat]
        refine aw_region (EF := EFt) hG (by rw [hN]; exact tr7_7) ?_
        simp only [a7_7, go_sem, ↓reduceIte, Nat.reduceEqDiff, reduceCtorEq, Nat.reduceAdd, Nat.reduceLT, Nat.reduceLeDiff, Nat.reduceBNe, Nat.reduceBEq, Int.reduceToNat, inI, tLN, fTrue_eq, nP0, nP1, nB0, nB1, nT0, nT1, nE0, nE1]
        (repeat' apply And.intro) <;> (try first | omega | ((fail_if_success refine idW ?_); (fail_if_success refine idS ?_); intros; (repeat' apply And.intro) <;> first | assumption | omega | (simp_all; done)))
        refine hKL0 (1) _ ?_ ?_ ?_
        · (try dsimp only); omega
        · omega
        · refine Le.mk _ _ ?_ ?_ rfl <;> simp only [go_sem, ↓reduceIte, Nat.reduceEqDiff, reduceCtorEq, Nat.reduceAdd, Nat.reduceLT, Nat.reduceLeDiff, Nat.reduceBNe, Nat.reduceBEq, Int.reduceToNat] <;> (repeat' apply And.intro) <;> (try first | rfl | exact wk_frzb rfl rfl rfl | exact wk_fn rfl | exact .nilo _ _ _ rfl rfl | exact wk_frzm rfl rfl (fun kv hk => by obtain ⟨_, _, rfl⟩ := List.mem_map.1 hk; rfl))
      · skip
        obtain rfl : i = 1 := by omega
        refine aw_seq (aw_region (EF := EFt) hG (by rw [hN]; exact tr7_4) ?_)
        simp only [a7_4, go_sem, ↓reduceIte, Nat.reduceEqDiff, reduceCtorEq, Nat.reduceAdd, Nat.reduceLT, Nat.reduceLeDiff, Nat.reduceBNe, Nat.reduceBEq, Int.reduceToNat, tLN, fTrue_eq, nP0, nP1, nB0, nB1, nT0, nT1, nE0, nE1]
        (repeat' apply And.intro) <;> (try first | omega | ((fail_if_success refine idW ?_); (fail_if_success refine idS ?_); intros; (repeat' apply And.intro) <;> first | assumption | omega | (simp_all; done)))
        refine aw_seq (aw_region (EF := EFt) hG (by rw [hN]; exact tr7_5) ?_)
        simp only [a7_5, go_sem, ↓reduceIte, Nat.reduceEqDiff, reduceCtorEq, Nat.reduceAdd, Nat.reduceLT, Nat.reduceLeDiff, Nat.reduceBNe, Nat.reduceBEq, Int.reduceToNat, tLN, fTrue_eq, nP0, nP1, nB0, nB1, nT0, nT1, nE0, nE1]
        (repeat' apply And.intro) <;> (try first | omega | ((fail_if_success refine idW ?_); (fail_if_success refine idS ?_); intros; (repeat' apply And.intro) <;> first | assumption | omega | (simp_all; done)))
        refine aw_condF rfl ?_
        refine aw_skip ?_
        try simp only [go_sem, ↓reduceIte, Nat.reduceEqDiff, reduceCtorEq, Nat.reduceAdd, Nat.reduceLT, Nat.reduceLeDiff, Nat.reduceBNe, Nat.reduceBEq, Int.reduceToNat]
        refine aw_region (EF := EFt) hG (by rw [hN]; exact tr7_7) ?_
        simp only [a7_7, go_sem, ↓reduceIte, Nat.reduceEqDiff, reduceCtorEq, Nat.reduceAdd, Nat.reduceLT, Nat.reduceLeDiff, Nat.reduceBNe, Nat.reduceBEq, Int.reduceToNat, inI, tLN, fTrue_eq, nP0, nP1, nB0, nB1, nT0, nT1, nE0, nE1]
        (repeat' apply And.intro) <;> (try first | omega | ((fail_if_success refine idW ?_); (fail_if_success refine idS ?_); intros; (repeat' apply And.intro) <;> first | assumption | omega | (simp_all; done)))
        refine hKL0 (2) _ ?_ ?_ ?_
        · (try dsimp only); omega
        · omega
        · refine Le.mk _ _ ?_ ?_ rfl <;> simp only [go_sem, ↓reduceIte, Nat.reduceEqDiff, reduceCtorEq, Nat.reduceAdd, Nat.reduceLT, Nat.reduceLeDiff, Nat.reduceBNe, Nat.reduceBEq, Int.reduceToNat] <;> (repeat' apply And.intro) <;> (try first | rfl | exact wk_frzb rfl rfl rfl | exact wk_fn rfl | exact .nilo _ _ _ rfl rfl | exact wk_frzm rfl rfl (fun kv hk => by obtain ⟨_, _, rfl⟩ := List.mem_map.1 hk; rfl))
    · skip
      refine aw_exit ?_
      simp only [go_sem, ↓reduceIte, Nat.reduceEqDiff, reduceCtorEq, Nat.reduceAdd, Nat.reduceLT, Nat.reduceLeDiff, Nat.reduceBNe, Nat.reduceBEq, Int.reduceToNat]
      refine aw_seq (aw_region (EF := EFt) hG (by rw [hN]; exact tr7_8) ?_)
      simp only [a7_8, go_sem, ↓reduceIte, Nat.reduceEqDiff, reduceCtorEq, Nat.reduceAdd, Nat.reduceLT, Nat.reduceLeDiff, Nat.reduceBNe, Nat.reduceBEq, Int.reduceToNat, tLN, fTrue_eq, nP0, nP1, nB0, nB1, nT0, nT1, nE0, nE1]
      (repeat' apply And.intro) <;> (try first | omega | ((fail_if_success refine idW ?_); (fail_if_success refine idS ?_); intros; (repeat' apply And.intro) <;> first | assumption | omega | (simp_all; done)))
      refine aw_ret ?_
      show Q _ _
      refine hQ _ _ (.inl rfl) ?_ ?_ ?_ <;> simp only [outφ, outV, AR.res, go_sem, ↓reduceIte, Nat.reduceEqDiff, reduceCtorEq, Nat.reduceAdd, Nat.reduceLT, Nat.reduceLeDiff, Nat.reduceBNe, Nat.reduceBEq, Int.reduceToNat, fLN]
end Go.Proofs.Ythfmdkpfaehpnaa
