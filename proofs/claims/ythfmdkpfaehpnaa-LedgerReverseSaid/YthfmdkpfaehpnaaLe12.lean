/- The statements on Check and on sequences of entries. -/
import Derived.Test.YthfmdkpfaehpnaaLe11
namespace Go.Proofs.Ythfmdkpfaehpnaa
open Go Go.RowKit
set_option linter.unusedSimpArgs false
set_option linter.unusedVariables false
set_option linter.deprecated false
def fLC (x : Entry × Int) : Prop × V := (x.1.ok, .bool true)
noncomputable def tLC : Tab
  | 9 => (gOf aUnit fTrue)
  | 8 => (gOf aEn fLar)
  | 11 => (gOf aEn fChkE)
  | 10 => (gOf aEn fChkE)
  | 13 => (gOf aEd fRev)
  | 14 => (gOf aEd fRev)
  | 12 => (gOf aEE fSmE)
  | _ => gNo
theorem tLC_ok : ∀ f, PureC Try.prog UT f (tLC f) := fun f => by
  unfold tLC
  split
  · exact knows_p
  · exact large_p
  · exact check_p
  · exact rcheck_p
  · exact reverse_p
  · exact rreverse_p
  · exact sameE_p
  · exact PureC.no
theorem sm_one (e : Entry) (h : e.posts.length ≤ 140737488355328) : SmOk [e] := ⟨by simp, fun x hx => by rw [List.mem_singleton.1 hx]; exact h⟩
theorem sm1_eq (e : Entry) : gOf aEE fSmE [.list [[.int .i64 e.day, .str e.text, .list (e.posts.map Post.enc) false]] false, .list [[.int .i64 e.day, .str e.text, .list (e.posts.map Post.enc) false]] false] = (SmOk [e] ∧ [e] = [e], .bool true) := fSmE_eq [e] [e]
theorem smR_eq (e : Entry) (d : Int) : gOf aEE fSmE [.list [[.int .i64 d, .str e.text, .list ((e.posts.map revP).map Post.enc) false]] false, .list [[.int .i64 d, .str e.text, .list ((e.posts.map revP).map Post.enc) false]] false] = (SmOk [revE e d] ∧ [revE e d] = [revE e d], .bool true) := fSmE_eq [revE e d] [revE e d]
set_option maxHeartbeats 4000000 in
theorem lawC_p : PureC Try.prog UT 3 (gOf aEd fLC) := by
  have hG := tLC_ok
  refine PureC.ofArgs aEd_inj Try.func3 body3 nm3 res3 ?_
  rintro ⟨e, d⟩ hv
  refine ⟨by rw [nt3]; simp [aEd], fun C hN Q hQ => ?_⟩
  rw [nt3] at hN
  unfold c3
  have hok : e.ok := hv
  obtain ⟨c, hc⟩ : ∃ c, chkE e = c := ⟨_, rfl⟩
  have hsm : SmOk [revE e d] := sm_one _ (by show (e.posts.map revP).length ≤ _; rw [List.length_map]; exact hok.2.2.1)
  refine aw_seq (aw_region (EF := EF0) hG (by rw [hN]; exact tr3_0) ?_)
  simp only [a3_0, go_sem, ↓reduceIte, Nat.reduceEqDiff, reduceCtorEq, Nat.reduceAdd, Nat.reduceLT, Nat.reduceLeDiff, Nat.reduceBNe, Nat.reduceBEq, Int.reduceToNat, aEd, Entry.enc, tLC, fTrue_eq, fLar_eq, fChkE_eq, fRev_eq, entV, revE, smR_eq, hc]
  refine aw_seq ?_
  refine aw_seq (aw_region (EF := EF0) hG (by rw [hN]; exact tr3_1) ?_)
  simp only [a3_1, go_sem, ↓reduceIte, Nat.reduceEqDiff, reduceCtorEq, Nat.reduceAdd, Nat.reduceLT, Nat.reduceLeDiff, Nat.reduceBNe, Nat.reduceBEq, Int.reduceToNat, hok, tLC, fTrue_eq, fLar_eq, fChkE_eq, fRev_eq, entV, revE, smR_eq, hc]
  (repeat' apply And.intro) <;> (try first | omega | ((fail_if_success refine idW ?_); (fail_if_success refine idS ?_); intros; (repeat' apply And.intro) <;> first | assumption | omega | (simp_all; done)))
  refine aw_cond (b := _) rfl (fun hb1 => ?_) (fun hb1 => ?_)
  · skip
    refine aw_seq (aw_region (EF := EF0) hG (by rw [hN]; exact tr3_2) ?_)
    simp only [a3_2, go_sem, ↓reduceIte, Nat.reduceEqDiff, reduceCtorEq, Nat.reduceAdd, Nat.reduceLT, Nat.reduceLeDiff, Nat.reduceBNe, Nat.reduceBEq, Int.reduceToNat, tLC, fTrue_eq, fLar_eq, fChkE_eq, fRev_eq, entV, revE, smR_eq, hc]
    (repeat' apply And.intro) <;> (try first | omega | ((fail_if_success refine idW ?_); (fail_if_success refine idS ?_); intros; (repeat' apply And.intro) <;> first | assumption | omega | (simp_all; done)))
    refine aw_ret ?_
    show Q _ _
    refine hQ _ _ (.inl rfl) ?_ ?_ ?_ <;> simp only [outφ, outV, AR.res, go_sem, ↓reduceIte, Nat.reduceEqDiff, reduceCtorEq, Nat.reduceAdd, Nat.reduceLT, Nat.reduceLeDiff, Nat.reduceBNe, Nat.reduceBEq, Int.reduceToNat, fLC]
  · skip
    refine aw_skip ?_
    try simp only [go_sem, ↓reduceIte, Nat.reduceEqDiff, reduceCtorEq, Nat.reduceAdd, Nat.reduceLT, Nat.reduceLeDiff, Nat.reduceBNe, Nat.reduceBEq, Int.reduceToNat]
    refine aw_seq (aw_region (EF := EF0) hG (by rw [hN]; exact tr3_3) ?_)
    simp only [a3_3, go_sem, ↓reduceIte, Nat.reduceEqDiff, reduceCtorEq, Nat.reduceAdd, Nat.reduceLT, Nat.reduceLeDiff, Nat.reduceBNe, Nat.reduceBEq, Int.reduceToNat, hok, tLC, fTrue_eq, fLar_eq, fChkE_eq, fRev_eq, entV, revE, smR_eq, hc]
    (repeat' apply And.intro) <;> (try first | omega | ((fail_if_success refine idW ?_); (fail_if_success refine idS ?_); intros; (repeat' apply And.intro) <;> first | assumption | omega | (simp_all; done)))
    refine aw_seq ?_
    refine aw_seq (aw_region (EF := EF0) hG (by rw [hN]; exact tr3_4) ?_)
    simp only [a3_4, go_sem, ↓reduceIte, Nat.reduceEqDiff, reduceCtorEq, Nat.reduceAdd, Nat.reduceLT, Nat.reduceLeDiff, Nat.reduceBNe, Nat.reduceBEq, Int.reduceToNat, hok, decide_true, Bool.not_true, tLC, fTrue_eq, fLar_eq, fChkE_eq, fRev_eq, entV, revE, smR_eq, hc]
    (repeat' apply And.intro) <;> (try first | omega | ((fail_if_success refine idW ?_); (fail_if_success refine idS ?_); intros; (repeat' apply And.intro) <;> first | assumption | omega | (simp_all; done)))
    refine aw_condF rfl ?_
    refine aw_skip ?_
    try simp only [go_sem, ↓reduceIte, Nat.reduceEqDiff, reduceCtorEq, Nat.reduceAdd, Nat.reduceLT, Nat.reduceLeDiff, Nat.reduceBNe, Nat.reduceBEq, Int.reduceToNat]
    by_cases hz : c = 0
    · skip
      subst hz
      have hck := chk_ok hc
      have ham : AmtOk e.posts := ⟨by have := hck.sz; omega, hck.am⟩
      have hsm2 : SmOk [⟨d, e.text, e.posts.map revP⟩] := hsm
      refine aw_seq (aw_regionD (EF := EF0) hG mixed (by rw [hN]; exact tr3_6) ok3_6 ?_)
      simp only [a3_6, d3_6, go_sem, ↓reduceIte, Nat.reduceEqDiff, reduceCtorEq, Nat.reduceAdd, Nat.reduceLT, Nat.reduceLeDiff, Nat.reduceBNe, Nat.reduceBEq, Int.reduceToNat, tLC, fTrue_eq, fLar_eq, fChkE_eq, fRev_eq, entV, revE, smR_eq, hc, ham, hsm2, decide_true, Bool.not_true]
      (repeat' apply And.intro) <;> (try first | omega | ((fail_if_success refine idW ?_); (fail_if_success refine idS ?_); intros; (repeat' apply And.intro) <;> first | assumption | omega | (simp_all; done)))
      refine aw_ret ?_
      show Q _ _
      refine hQ _ _ (.inl rfl) ?_ ?_ ?_ <;> simp only [outφ, outV, AR.res, go_sem, ↓reduceIte, Nat.reduceEqDiff, reduceCtorEq, Nat.reduceAdd, Nat.reduceLT, Nat.reduceLeDiff, Nat.reduceBNe, Nat.reduceBEq, Int.reduceToNat, fLC]
    · skip
      have hz2 : decide (c = 0) = false := decide_eq_false hz
      refine aw_seq (aw_regionD (EF := EF0) hG mixed (by rw [hN]; exact tr3_6) ok3_6 ?_)
      simp only [a3_6, d3_6, go_sem, ↓reduceIte, Nat.reduceEqDiff, reduceCtorEq, Nat.reduceAdd, Nat.reduceLT, Nat.reduceLeDiff, Nat.reduceBNe, Nat.reduceBEq, Int.reduceToNat, tLC, fTrue_eq, fLar_eq, fChkE_eq, fRev_eq, entV, revE, smR_eq, hc, hz2, Bool.not_false]
      (repeat' apply And.intro) <;> (try first | omega | ((fail_if_success refine idW ?_); (fail_if_success refine idS ?_); intros; (repeat' apply And.intro) <;> first | assumption | omega | (simp_all; done)))
      refine aw_ret ?_
      show Q _ _
      refine hQ _ _ (.inl rfl) ?_ ?_ ?_ <;> simp only [outφ, outV, AR.res, go_sem, ↓reduceIte, Nat.reduceEqDiff, reduceCtorEq, Nat.reduceAdd, Nat.reduceLT, Nat.reduceLeDiff, Nat.reduceBNe, Nat.reduceBEq, Int.reduceToNat, fLC]
def aRu (x : List Entry × List UInt8 × Int × Int) : List V := [.list (x.1.map Entry.enc) false, .str x.2.1, .int .i64 x.2.2.1, .int .i64 x.2.2.2]
theorem aRu_inj (a b : List Entry × List UInt8 × Int × Int) (h : aRu a = aRu b) : a = b := by
  obtain ⟨a_l, a_k, a_a, a_b⟩ := a
  obtain ⟨b_l, b_k, b_a, b_b⟩ := b
  simp only [aRu, List.cons.injEq, V.str.injEq, V.int.injEq, V.bool.injEq, V.agg.injEq, V.list.injEq, and_true, true_and] at h
  obtain ⟨h0, h1, h2, h3⟩ := h
  replace h0 := map_inj' Entry.inj h0
  subst h0
  subst h1
  subst h2
  subst h3
  rfl
def EsOk (l : List Entry) : Prop := l.length ≤ 140737488355328 ∧ ∀ e ∈ l, e.ok
def fLR (x : List Entry × List UInt8 × Int × Int) : Prop × V := (EsOk x.1, .bool true)
def EFr : Nat → Bool := fun f => f == 15 || f == 17 || f == 20 || f == 16 || f == 18 || f == 21
noncomputable def tLR : Tab
  | 9 => (gOf aUnit fTrue)
  | 8 => (gOf aEn fLar)
  | 19 => (gOf aPP fSmP)
  | 12 => (gOf aEE fSmE)
  | 22 => (gOf aLB fLB)
  | 24 => (gOf aLE fLE)
  | 23 => (gOf aRB fRB)
  | 25 => (gOf aRE fRE)
  | _ => gNo
theorem tLR_ok : ∀ f, PureC Try.prog UT f (tLR f) := fun f => by
  unfold tLR
  split
  · exact knows_p
  · exact large_p
  · exact sameP_p
  · exact sameE_p
  · exact balF_p
  · exact entsF_p
  · exact rbalF_p
  · exact rentsF_p
  · exact PureC.no
def H2 (es : List Entry) (L : Assoc Int) : List (Nat × Ob) := lgO 500 501 502 es L ++ lrO 510 es
theorem lgB_eq (es : List Entry) (L : Assoc Int) (k : List UInt8) : gOf aLB fLB [.row [.list (es.map Entry.enc) false, .fmap (kmap fI8 L)] 0, .str k] = (True, .int .i64 (getA L k)) := fLB_eq es L k
theorem lgE_eq (es : List Entry) (L : Assoc Int) (a b : Int) : gOf aLE fLE [.row [.list (es.map Entry.enc) false, .fmap (kmap fI8 L)] 0, .int .i64 a, .int .i64 b] = (EntOk es, .list ((entF es a b).map Entry.enc) false) := fLE_eq es L a b
theorem lrB_eq (es : List Entry) (k : List UInt8) : gOf aRB fRB [.row [.list (es.map Entry.enc) false, .bool true] 0, .str k] = (BalOk es, .int .i64 (balL (pst es) k)) := fRB_eq es k
theorem lrE_eq (es : List Entry) (a b : Int) : gOf aRE fRE [.row [.list (es.map Entry.enc) false, .bool true] 0, .int .i64 a, .int .i64 b] = (es.length ≤ 100000, .list ((entF es a b).map Entry.enc) false) := fRE_eq es a b
theorem RunI.smE {n : Nat} {es : List Entry} {L : Assoc Int} (h : RunI n es L) (hn : n ≤ 1000) (a b : Int) : SmOk (entF es a b) := ⟨by have := h.len; have := List.length_filter_le (inD a b) es; unfold entF; omega, fun e he => by have := h.en e (List.mem_filter.1 he).1; omega⟩
theorem RunI.tl {n : Nat} {es : List Entry} {L : Assoc Int} (h : RunI n es L) (hn : n ≤ 1000) : (triL L).length ≤ 140737488355328 := by
  rw [tri_len, (sortS_perm _).length_eq, List.length_map]; have := h.ml; omega
set_option maxHeartbeats 8000000 in
theorem lawR_p : PureC Try.prog UT 4 (gOf aRu fLR) := by
  have hG := tLR_ok
  refine PureC.ofArgs aRu_inj Try.func4 body4 nm4 res4 ?_
  rintro ⟨l, k, a, b⟩ hv
  refine ⟨by rw [nt4]; simp [aRu], fun C hN Q hQ => ?_⟩
  rw [nt4] at hN
  unfold c4
  obtain ⟨hll, hlok⟩ : EsOk l := hv
  refine aw_seq (aw_region (EF := EFr) hG (by rw [hN]; exact tr4_0) ?_)
  simp only [a4_0, go_sem, ↓reduceIte, Nat.reduceEqDiff, reduceCtorEq, Nat.reduceAdd, Nat.reduceLT, Nat.reduceLeDiff, Nat.reduceBNe, Nat.reduceBEq, Int.reduceToNat, aRu, tLR, EFr, fTrue_eq, fLar_eq]
  refine aw_seq (aw_region (EF := EFr) hG (by rw [hN]; exact tr4_1) ?_)
  simp only [a4_1, go_sem, ↓reduceIte, Nat.reduceEqDiff, reduceCtorEq, Nat.reduceAdd, Nat.reduceLT, Nat.reduceLeDiff, Nat.reduceBNe, Nat.reduceBEq, Int.reduceToNat, tLR, EFr, fTrue_eq, fLar_eq]
  refine new_use 500 501 502 (by decide) (by decide) (by decide) rfl rfl rfl (by decide) (by decide) (by decide) ?_
  simp only [go_sem, ↓reduceIte, Nat.reduceEqDiff, reduceCtorEq, Nat.reduceAdd, Nat.reduceLT, Nat.reduceLeDiff, Nat.reduceBNe, Nat.reduceBEq, Int.reduceToNat, EFr, lgO]
  refine rnew_use 510 (by simp [lgO, hov, mkH]) (by decide) ?_
  simp only [go_sem, ↓reduceIte, Nat.reduceEqDiff, reduceCtorEq, Nat.reduceAdd, Nat.reduceLT, Nat.reduceLeDiff, Nat.reduceBNe, Nat.reduceBEq, Int.reduceToNat, lrO]
  refine AW.le (s' := ⟨mkE [(0, .list (l.map Entry.enc) false), (1, .str k), (2, .int .i64 a), (3, .int .i64 b), (9, .ptr 500 0), (10, .ptr 510 0)], mkH (H2 [] [])⟩) (Le.mk _ _ (by (simp only [go_sem, ↓reduceIte, Nat.reduceEqDiff, reduceCtorEq, Nat.reduceAdd, Nat.reduceLT, Nat.reduceLeDiff, Nat.reduceBNe, Nat.reduceBEq, Int.reduceToNat, H2, lgO, lrO, List.cons_append, List.nil_append]) <;> (repeat' apply And.intro) <;> (try first | exact wk_frzb rfl rfl rfl | rfl | exact wk_fn rfl | exact .nill _ | exact .nilo _ _ _ rfl rfl | exact wk_frz rfl (by simp only [ints_len, nats_len]) rfl (ints_pur _) | exact wk_frzm rfl rfl (fun kv hk => by obtain ⟨_, _, rfl⟩ := List.mem_map.1 hk; rfl))) (by (simp only [go_sem, ↓reduceIte, Nat.reduceEqDiff, reduceCtorEq, Nat.reduceAdd, Nat.reduceLT, Nat.reduceLeDiff, Nat.reduceBNe, Nat.reduceBEq, Int.reduceToNat, H2, lgO, lrO, List.cons_append, List.nil_append]) <;> (repeat' apply And.intro) <;> (try first | exact wk_frzb rfl rfl rfl | rfl | exact wk_fn rfl | exact .nill _ | exact .nilo _ _ _ rfl rfl | exact wk_frz rfl (by simp only [ints_len, nats_len]) rfl (ints_pur _) | exact wk_frzm rfl rfl (fun kv hk => by obtain ⟨_, _, rfl⟩ := List.mem_map.1 hk; rfl))) rfl) ?_
  refine aw_seq ?_
  refine aw_seq (aw_region (EF := EFr) hG (by rw [hN]; exact tr4_2) ?_)
  simp only [a4_2, go_sem, ↓reduceIte, Nat.reduceEqDiff, reduceCtorEq, Nat.reduceAdd, Nat.reduceLT, Nat.reduceLeDiff, Nat.reduceBNe, Nat.reduceBEq, Int.reduceToNat, H2, lgO, lrO, List.cons_append, List.nil_append, tLR, EFr, fTrue_eq, fLar_eq]
  refine aw_condF rfl ?_
  refine aw_skip ?_
  try simp only [go_sem, ↓reduceIte, Nat.reduceEqDiff, reduceCtorEq, Nat.reduceAdd, Nat.reduceLT, Nat.reduceLeDiff, Nat.reduceBNe, Nat.reduceBEq, Int.reduceToNat]
  refine aw_seq ?_
  refine aw_seq (aw_region (EF := EFr) hG (by rw [hN]; exact tr4_4) ?_)
  simp only [a4_4, go_sem, ↓reduceIte, Nat.reduceEqDiff, reduceCtorEq, Nat.reduceAdd, Nat.reduceLT, Nat.reduceLeDiff, Nat.reduceBNe, Nat.reduceBEq, Int.reduceToNat, tLR, EFr, fTrue_eq, fLar_eq]
  refine aw_block ?_
  refine aw_loop (α := Nat × (List Entry) × (Assoc Int)) (fun γ => (γ.1 ≤ l.length) ∧ (γ.1 ≤ 30) ∧ (RunI γ.1 γ.2.1 γ.2.2)) (fun γ => ⟨mkE [(0, V.list (List.map Entry.enc l) false), (1, V.str k), (2, V.int IntKind.i64 a), (3, V.int IntKind.i64 b), (9, V.ptr 500 0), (10, V.ptr 510 0), (11, .int .i64 γ.1)], mkH [(500, .box 49 [.own 501 γ.2.1.length, .map 502]), (501, .arr 24 3 (γ.2.1.map Entry.enc)), (502, .mp (kmap fI8 γ.2.2)), (510, .box 55 [.list (γ.2.1.map Entry.enc) false, .bool true])]⟩) (fun γ => l.length - γ.1) (0, [], []) ⟨Nat.zero_le _, Nat.zero_le _, RunI.start⟩ ?_ ?_
  · refine Le.mk _ _ ?_ ?_ rfl <;> simp only [go_sem, ↓reduceIte, Nat.reduceEqDiff, reduceCtorEq, Nat.reduceAdd, Nat.reduceLT, Nat.reduceLeDiff, Nat.reduceBNe, Nat.reduceBEq, Int.reduceToNat, kmap_nil, List.map_nil, List.length_nil] <;> (repeat' apply And.intro) <;> (try first | rfl | exact wk_frzb rfl rfl rfl | exact wk_fn rfl | exact .nilo _ _ _ rfl rfl | exact wk_frzm rfl rfl (fun kv hk => by obtain ⟨_, _, rfl⟩ := List.mem_map.1 hk; rfl))
  · rintro ⟨i, es, L⟩ ⟨hi, hi3, hR⟩ KL0 hKL0
    try dsimp only at *
    refine aw_seq ?_
    refine aw_seq (aw_region (EF := EFr) hG (by rw [hN]; exact tr4_5) ?_)
    simp only [a4_5, go_sem, ↓reduceIte, Nat.reduceEqDiff, reduceCtorEq, Nat.reduceAdd, Nat.reduceLT, Nat.reduceLeDiff, Nat.reduceBNe, Nat.reduceBEq, Int.reduceToNat, List.length_map, tLR, EFr, fTrue_eq, fLar_eq]
    (repeat' apply And.intro) <;> (try first | omega | ((fail_if_success refine idW ?_); (fail_if_success refine idS ?_); intros; (repeat' apply And.intro) <;> first | assumption | omega | (simp_all; done)))
    refine aw_cond (b := _) rfl (fun hb5 => ?_) (fun hb5 => ?_)
    · skip
      have hc : i < l.length ∧ i < 30 := by simp at hb5; omega
      obtain ⟨hc, hc2⟩ := hc
      have heok := hlok l[i] (List.getElem_mem _)
      obtain ⟨e, he⟩ : ∃ e, e = l[i] := ⟨_, rfl⟩
      rw [← he] at heok
      refine aw_skip ?_
      try simp only [go_sem, ↓reduceIte, Nat.reduceEqDiff, reduceCtorEq, Nat.reduceAdd, Nat.reduceLT, Nat.reduceLeDiff, Nat.reduceBNe, Nat.reduceBEq, Int.reduceToNat]
      refine aw_seq ?_
      refine aw_block ?_
      refine aw_seq ?_
      refine aw_seq (aw_region (EF := EFr) hG (by rw [hN]; exact tr4_7) ?_)
      simp only [a4_7, go_sem, ↓reduceIte, Nat.reduceEqDiff, reduceCtorEq, Nat.reduceAdd, Nat.reduceLT, Nat.reduceLeDiff, Nat.reduceBNe, Nat.reduceBEq, Int.reduceToNat, getD_mapd _ _ _ _ hc, ← he, Entry.enc, hc, heok, List.length_map, tLR, EFr, fTrue_eq, fLar_eq]
      (repeat' apply And.intro) <;> (try first | omega | ((fail_if_success refine idW ?_); (fail_if_success refine idS ?_); intros; (repeat' apply And.intro) <;> first | assumption | omega | (simp_all; done)))
      refine aw_cond (b := _) rfl (fun hb7 => ?_) (fun hb7 => ?_)
      · skip
        refine aw_seq (aw_region (EF := EFr) hG (by rw [hN]; exact tr4_8) ?_)
        simp only [a4_8, go_sem, ↓reduceIte, Nat.reduceEqDiff, reduceCtorEq, Nat.reduceAdd, Nat.reduceLT, Nat.reduceLeDiff, Nat.reduceBNe, Nat.reduceBEq, Int.reduceToNat, tLR, EFr, fTrue_eq, fLar_eq]
        (repeat' apply And.intro) <;> (try first | omega | ((fail_if_success refine idW ?_); (fail_if_success refine idS ?_); intros; (repeat' apply And.intro) <;> first | assumption | omega | (simp_all; done)))
        refine aw_ret ?_
        show Q _ _
        refine hQ _ _ (.inl rfl) ?_ ?_ ?_ <;> simp only [outφ, outV, AR.res, go_sem, ↓reduceIte, Nat.reduceEqDiff, reduceCtorEq, Nat.reduceAdd, Nat.reduceLT, Nat.reduceLeDiff, Nat.reduceBNe, Nat.reduceBEq, Int.reduceToNat, fLR]
      · skip
        have hl10 : e.posts.length ≤ 10 := by simp at hb7; omega
        have hR2 := hR.post heok hl10
        have hcode := hR.code e
        have hsame := hR.same e
        obtain ⟨es2, he2⟩ : ∃ x, x = postE L es e := ⟨_, rfl⟩
        obtain ⟨L2, hL2⟩ : ∃ x, x = postL L e := ⟨_, rfl⟩
        rw [← he2, ← hL2] at hR2
        refine aw_skip ?_
        try simp only [go_sem, ↓reduceIte, Nat.reduceEqDiff, reduceCtorEq, Nat.reduceAdd, Nat.reduceLT, Nat.reduceLeDiff, Nat.reduceBNe, Nat.reduceBEq, Int.reduceToNat]
        refine aw_seq ?_
        refine aw_seq (aw_regionD (EF := EFr) hG mixed (by rw [hN]; exact tr4_9) ok4_9 ?_)
        simp only [a4_9, d4_9, go_sem, ↓reduceIte, Nat.reduceEqDiff, reduceCtorEq, Nat.reduceAdd, Nat.reduceLT, Nat.reduceLeDiff, Nat.reduceBNe, Nat.reduceBEq, Int.reduceToNat, getD_mapd _ _ _ _ hc, ← he, Entry.enc, hc, List.length_map, tLR, EFr, fTrue_eq, fLar_eq]
        refine post_use hR.inv heok (by have := hR.len; omega) rfl rfl rfl (by decide) (by decide) (by decide) ?_
        simp only [go_sem, ↓reduceIte, Nat.reduceEqDiff, reduceCtorEq, Nat.reduceAdd, Nat.reduceLT, Nat.reduceLeDiff, Nat.reduceBNe, Nat.reduceBEq, Int.reduceToNat, EFr, lgO, getD_mapd _ _ _ _ hc, ← he, Entry.enc, hc, List.length_map]
        refine rpost_use (hR.bal (by omega)) (by have := hR.pl; omega) (by have := hR.len; omega) heok rfl ?_
        rw [hcode, hsame]
        simp only [go_sem, ↓reduceIte, Nat.reduceEqDiff, reduceCtorEq, Nat.reduceAdd, Nat.reduceLT, Nat.reduceLeDiff, Nat.reduceBNe, Nat.reduceBEq, Int.reduceToNat, lrO, decide_true, Bool.not_true]
        refine aw_condF rfl ?_
        refine aw_skip ?_
        try simp only [go_sem, ↓reduceIte, Nat.reduceEqDiff, reduceCtorEq, Nat.reduceAdd, Nat.reduceLT, Nat.reduceLeDiff, Nat.reduceBNe, Nat.reduceBEq, Int.reduceToNat]
        refine AW.le (s' := ⟨mkE [(0, .list (l.map Entry.enc) false), (1, .str k), (2, .int .i64 a), (3, .int .i64 b), (9, .ptr 500 0), (10, .ptr 510 0), (11, .int .i64 i)], mkH (H2 es2 L2)⟩) (Le.mk _ _ (by (simp only [go_sem, ↓reduceIte, Nat.reduceEqDiff, reduceCtorEq, Nat.reduceAdd, Nat.reduceLT, Nat.reduceLeDiff, Nat.reduceBNe, Nat.reduceBEq, Int.reduceToNat, H2, lgO, lrO, List.cons_append, List.nil_append, ← he2, ← hL2]) <;> (repeat' apply And.intro) <;> (try first | exact wk_frzb rfl rfl rfl | rfl | exact wk_fn rfl | exact .nill _ | exact .nilo _ _ _ rfl rfl | exact wk_frz rfl (by simp only [ints_len, nats_len]) rfl (ints_pur _) | exact wk_frzm rfl rfl (fun kv hk => by obtain ⟨_, _, rfl⟩ := List.mem_map.1 hk; rfl))) (by (simp only [go_sem, ↓reduceIte, Nat.reduceEqDiff, reduceCtorEq, Nat.reduceAdd, Nat.reduceLT, Nat.reduceLeDiff, Nat.reduceBNe, Nat.reduceBEq, Int.reduceToNat, H2, lgO, lrO, List.cons_append, List.nil_append, ← he2, ← hL2]) <;> (repeat' apply And.intro) <;> (try first | exact wk_frzb rfl rfl rfl | rfl | exact wk_fn rfl | exact .nill _ | exact .nilo _ _ _ rfl rfl | exact wk_frz rfl (by simp only [ints_len, nats_len]) rfl (ints_pur _) | exact wk_frzm rfl rfl (fun kv hk => by obtain ⟨_, _, rfl⟩ := List.mem_map.1 hk; rfl))) rfl) ?_
        refine aw_seq (aw_region (EF := EFr) hG (by rw [hN]; exact tr4_11) ?_)
        simp only [a4_11, go_sem, ↓reduceIte, Nat.reduceEqDiff, reduceCtorEq, Nat.reduceAdd, Nat.reduceLT, Nat.reduceLeDiff, Nat.reduceBNe, Nat.reduceBEq, Int.reduceToNat, H2, lgO, lrO, List.cons_append, List.nil_append, tLR, EFr, fTrue_eq, fLar_eq]
        refine trial_use (by have := hR2.ml; omega) hR2.key rfl rfl rfl (by decide) (by decide) (by decide) ?_
        simp only [go_sem, ↓reduceIte, Nat.reduceEqDiff, reduceCtorEq, Nat.reduceAdd, Nat.reduceLT, Nat.reduceLeDiff, Nat.reduceBNe, Nat.reduceBEq, Int.reduceToNat, EFr, lgO]
        refine rtrial_use (hR2.bal (by omega)) rfl ?_
        rw [hR2.tri]
        simp only [go_sem, ↓reduceIte, Nat.reduceEqDiff, reduceCtorEq, Nat.reduceAdd, Nat.reduceLT, Nat.reduceLeDiff, Nat.reduceBNe, Nat.reduceBEq, Int.reduceToNat, lrO, fSmP_eq, hR2.tl (by omega), Bool.not_true]
        refine aw_condF rfl ?_
        refine aw_skip ?_
        try simp only [go_sem, ↓reduceIte, Nat.reduceEqDiff, reduceCtorEq, Nat.reduceAdd, Nat.reduceLT, Nat.reduceLeDiff, Nat.reduceBNe, Nat.reduceBEq, Int.reduceToNat]
        refine aw_region (EF := EFr) hG (by rw [hN]; exact tr4_6) ?_
        simp only [a4_6, go_sem, ↓reduceIte, Nat.reduceEqDiff, reduceCtorEq, Nat.reduceAdd, Nat.reduceLT, Nat.reduceLeDiff, Nat.reduceBNe, Nat.reduceBEq, Int.reduceToNat, inI, tLR, EFr, fTrue_eq, fLar_eq]
        (repeat' apply And.intro) <;> (try first | omega | ((fail_if_success refine idW ?_); (fail_if_success refine idS ?_); intros; (repeat' apply And.intro) <;> first | assumption | omega | (simp_all; done)))
        refine hKL0 (i + 1, es2, L2) _ ?_ ?_ ?_
        · (try dsimp only); exact ⟨hc, hc2, hR2⟩
        · (try dsimp only); omega
        · refine Le.mk _ _ ?_ ?_ rfl <;> simp only [go_sem, ↓reduceIte, Nat.reduceEqDiff, reduceCtorEq, Nat.reduceAdd, Nat.reduceLT, Nat.reduceLeDiff, Nat.reduceBNe, Nat.reduceBEq, Int.reduceToNat] <;> (repeat' apply And.intro) <;> (try first | rfl | exact wk_frzb rfl rfl rfl | exact wk_fn rfl | exact .nilo _ _ _ rfl rfl | exact wk_frzm rfl rfl (fun kv hk => by obtain ⟨_, _, rfl⟩ := List.mem_map.1 hk; rfl))
    · skip
      refine aw_exit ?_
      simp only [go_sem, ↓reduceIte, Nat.reduceEqDiff, reduceCtorEq, Nat.reduceAdd, Nat.reduceLT, Nat.reduceLeDiff, Nat.reduceBNe, Nat.reduceBEq, Int.reduceToNat]
      refine AW.le (s' := ⟨mkE [(1, .str k), (2, .int .i64 a), (3, .int .i64 b), (9, .ptr 500 0), (10, .ptr 510 0)], mkH [(500, .box 49 [.list (es.map Entry.enc) false, .fmap (kmap fI8 L)]), (510, .box 55 [.list (es.map Entry.enc) false, .bool true])]⟩) ?_ ?_
      · refine Le.mk _ _ ?_ ?_ rfl <;> simp only [go_sem, ↓reduceIte, Nat.reduceEqDiff, reduceCtorEq, Nat.reduceAdd, Nat.reduceLT, Nat.reduceLeDiff, Nat.reduceBNe, Nat.reduceBEq, Int.reduceToNat, lgO] <;> (repeat' apply And.intro) <;> (try first | rfl | exact wk_frzb rfl rfl rfl | exact wk_fn rfl | exact .nilo _ _ _ rfl rfl | exact wk_frzm rfl rfl (fun kv hk => by obtain ⟨_, _, rfl⟩ := List.mem_map.1 hk; rfl))
        · exact wk_frzO rfl (by rw [List.length_map]) rfl ((Entry.purs es).2 trivial) rfl
      refine AW.le (s' := ⟨mkE [(1, .str k), (2, .int .i64 a), (3, .int .i64 b), (9, .row [.list (es.map Entry.enc) false, .fmap (kmap fI8 L)] 0), (10, .row [.list (es.map Entry.enc) false, .bool true] 0)], mkH ([])⟩) (Le.mk _ _ (by (simp only [go_sem, ↓reduceIte, Nat.reduceEqDiff, reduceCtorEq, Nat.reduceAdd, Nat.reduceLT, Nat.reduceLeDiff, Nat.reduceBNe, Nat.reduceBEq, Int.reduceToNat]) <;> (repeat' apply And.intro) <;> (try first | exact wk_frzb rfl rfl rfl | rfl | exact wk_fn rfl | exact .nill _ | exact .nilo _ _ _ rfl rfl | exact wk_frz rfl (by simp only [ints_len, nats_len]) rfl (ints_pur _) | exact wk_frzm rfl rfl (fun kv hk => by obtain ⟨_, _, rfl⟩ := List.mem_map.1 hk; rfl))) (by (simp only [go_sem, ↓reduceIte, Nat.reduceEqDiff, reduceCtorEq, Nat.reduceAdd, Nat.reduceLT, Nat.reduceLeDiff, Nat.reduceBNe, Nat.reduceBEq, Int.reduceToNat]) <;> (repeat' apply And.intro) <;> (try first | exact wk_frzb rfl rfl rfl | rfl | exact wk_fn rfl | exact .nill _ | exact .nilo _ _ _ rfl rfl | exact wk_frz rfl (by simp only [ints_len, nats_len]) rfl (ints_pur _) | exact wk_frzm rfl rfl (fun kv hk => by obtain ⟨_, _, rfl⟩ := List.mem_map.1 hk; rfl))) rfl) ?_
      refine aw_seq (aw_region (EF := EF0) hG (by rw [hN]; exact tr4_13) ?_)
      simp only [a4_13, go_sem, ↓reduceIte, Nat.reduceEqDiff, reduceCtorEq, Nat.reduceAdd, Nat.reduceLT, Nat.reduceLeDiff, Nat.reduceBNe, Nat.reduceBEq, Int.reduceToNat, lgB_eq, lgE_eq, lrB_eq, lrE_eq, hR.inv.bal, hR.bal (by omega), hR.ent (by omega), (hR.ent (by omega)).1, fSmE_eq, hR.smE (by omega), decide_true, tLR, EFr, fTrue_eq, fLar_eq]
      (repeat' apply And.intro) <;> (try first | omega | ((fail_if_success refine idW ?_); (fail_if_success refine idS ?_); intros; (repeat' apply And.intro) <;> first | assumption | omega | (simp_all; done)))
      refine aw_ret ?_
      show Q _ _
      refine hQ _ _ (.inl rfl) ?_ ?_ ?_ <;> simp only [outφ, outV, AR.res, go_sem, ↓reduceIte, Nat.reduceEqDiff, reduceCtorEq, Nat.reduceAdd, Nat.reduceLT, Nat.reduceLeDiff, Nat.reduceBNe, Nat.reduceBEq, Int.reduceToNat, fLR]
end Go.Proofs.Ythfmdkpfaehpnaa
