/- A ledger that is only read. -/
import Derived.Test.YthfmdkpfaehpnaaLe9
namespace Go.Proofs.Ythfmdkpfaehpnaa
open Go Go.RowKit
set_option linter.unusedSimpArgs false
set_option linter.unusedVariables false
set_option linter.deprecated false
/-! A ledger that is only read from here on. -/
theorem kmapI_inj {A B : Assoc Int} (h : kmap fI8 A = kmap fI8 B) : A = B := by
  induction A generalizing B with
  | nil => cases B with
    | nil => rfl
    | cons q B => cases h
  | cons p A ih =>
    cases B with
    | nil => cases h
    | cons q B =>
      injection h with h1 h2
      rw [ih h2]
      obtain ⟨a, b⟩ := p
      obtain ⟨c, d⟩ := q
      injection h1 with h3 h4
      injection h3 with h3
      injection h4 with _ h4
      dsimp only at h3 h4
      rw [h3, h4]
def lgV (es : List Entry) (L : Assoc Int) : V := .row [.list (es.map Entry.enc) false, .fmap (kmap fI8 L)] 0
def lrV (es : List Entry) : V := .row [.list (es.map Entry.enc) false, .bool true] 0
theorem lgV_inj {a b : List Entry} {A B : Assoc Int} (h : lgV a A = lgV b B) : a = b ∧ A = B := by
  simp only [lgV, V.row.injEq, List.cons.injEq, V.list.injEq, V.fmap.injEq, and_true] at h
  exact ⟨map_inj' Entry.inj h.1, kmapI_inj h.2⟩
theorem lrV_inj {a b : List Entry} (h : lrV a = lrV b) : a = b := by
  simp only [lrV, V.row.injEq, List.cons.injEq, V.list.injEq, and_true] at h
  exact map_inj' Entry.inj h
def aLB (x : List Entry × Assoc Int × List UInt8) : List V := [lgV x.1 x.2.1, .str x.2.2]
theorem aLB_inj (a b : List Entry × Assoc Int × List UInt8) (h : aLB a = aLB b) : a = b := by
  obtain ⟨a1, a2, a3⟩ := a
  obtain ⟨b1, b2, b3⟩ := b
  simp only [aLB, List.cons.injEq, V.str.injEq, and_true] at h
  obtain ⟨h1, h2⟩ := h
  obtain ⟨rfl, rfl⟩ := lgV_inj h1
  subst h2; rfl
def aLE (x : List Entry × Assoc Int × Int × Int) : List V := [lgV x.1 x.2.1, .int .i64 x.2.2.1, .int .i64 x.2.2.2]
theorem aLE_inj (a b : List Entry × Assoc Int × Int × Int) (h : aLE a = aLE b) : a = b := by
  obtain ⟨a1, a2, a3, a4⟩ := a
  obtain ⟨b1, b2, b3, b4⟩ := b
  simp only [aLE, List.cons.injEq, V.int.injEq, and_true, true_and] at h
  obtain ⟨h1, h2, h3⟩ := h
  obtain ⟨rfl, rfl⟩ := lgV_inj h1
  subst h2 h3; rfl
def aRB (x : List Entry × List UInt8) : List V := [lrV x.1, .str x.2]
theorem aRB_inj (a b : List Entry × List UInt8) (h : aRB a = aRB b) : a = b := by
  obtain ⟨a1, a2⟩ := a
  obtain ⟨b1, b2⟩ := b
  simp only [aRB, List.cons.injEq, V.str.injEq, and_true] at h
  obtain ⟨h1, h2⟩ := h
  cases lrV_inj h1
  subst h2; rfl
def aRE (x : List Entry × Int × Int) : List V := [lrV x.1, .int .i64 x.2.1, .int .i64 x.2.2]
theorem aRE_inj (a b : List Entry × Int × Int) (h : aRE a = aRE b) : a = b := by
  obtain ⟨a1, a3, a4⟩ := a
  obtain ⟨b1, b3, b4⟩ := b
  simp only [aRE, List.cons.injEq, V.int.injEq, and_true, true_and] at h
  obtain ⟨h1, h2, h3⟩ := h
  cases lrV_inj h1
  subst h2 h3; rfl
def fLB (x : List Entry × Assoc Int × List UInt8) : Prop × V := (True, .int .i64 (getA x.2.1 x.2.2))
theorem fLB_eq (es : List Entry) (L : Assoc Int) (k : List UInt8) : gOf aLB fLB [lgV es L, .str k] = (True, .int .i64 (getA L k)) := gOf_eq aLB_inj (es, L, k)
theorem balF_p : PureC Try.prog UT 22 (gOf aLB fLB) := by
  have hG := tNo_ok
  refine PureC.ofArgs aLB_inj Try.func22 body22 nm22 res22 ?_
  rintro ⟨es, L, k⟩ hv
  refine ⟨by rw [nt22]; simp [aLB], fun C hN Q hQ => ?_⟩
  rw [nt22] at hN
  unfold c22
  refine aw_seq (aw_region (EF := EF0) hG (by rw [hN]; exact tr22_0) ?_)
  simp only [a22_0, go_sem, ↓reduceIte, Nat.reduceEqDiff, reduceCtorEq, Nat.reduceAdd, Nat.reduceLT, Nat.reduceLeDiff, Nat.reduceBNe, Nat.reduceBEq, Int.reduceToNat, aLB, lgV]
  refine aw_seq ?_
  refine aw_seq (aw_region (EF := EF0) hG (by rw [hN]; exact tr22_1) ?_)
  simp only [a22_1, go_sem, ↓reduceIte, Nat.reduceEqDiff, reduceCtorEq, Nat.reduceAdd, Nat.reduceLT, Nat.reduceLeDiff, Nat.reduceBNe, Nat.reduceBEq, Int.reduceToNat]
  refine aw_condF rfl ?_
  refine aw_skip ?_
  try simp only [go_sem, ↓reduceIte, Nat.reduceEqDiff, reduceCtorEq, Nat.reduceAdd, Nat.reduceLT, Nat.reduceLeDiff, Nat.reduceBNe, Nat.reduceBEq, Int.reduceToNat]
  refine aw_seq (aw_region (EF := EF0) hG (by rw [hN]; exact tr22_3) ?_)
  simp only [a22_3, go_sem, ↓reduceIte, Nat.reduceEqDiff, reduceCtorEq, Nat.reduceAdd, Nat.reduceLT, Nat.reduceLeDiff, Nat.reduceBNe, Nat.reduceBEq, Int.reduceToNat]
  (repeat' apply And.intro) <;> (try first | omega | ((fail_if_success refine idW ?_); (fail_if_success refine idS ?_); intros; (repeat' apply And.intro) <;> first | assumption | omega | (simp_all; done)))
  refine aw_ret ?_
  show Q _ _
  refine hQ _ _ (.inl rfl) ?_ ?_ ?_ <;> simp only [outφ, outV, AR.res, go_sem, ↓reduceIte, Nat.reduceEqDiff, reduceCtorEq, Nat.reduceAdd, Nat.reduceLT, Nat.reduceLeDiff, Nat.reduceBNe, Nat.reduceBEq, Int.reduceToNat, fLB, getA]
def EntOk (es : List Entry) : Prop := es.length ≤ 100000 ∧ ∀ e ∈ es, e.posts ≠ [] ∧ e.posts.length ≤ 1000000000
def fLE (x : List Entry × Assoc Int × Int × Int) : Prop × V := (EntOk x.1, .list ((entF x.1 x.2.2.1 x.2.2.2).map Entry.enc) false)
theorem fLE_eq (es : List Entry) (L : Assoc Int) (a b : Int) : gOf aLE fLE [lgV es L, .int .i64 a, .int .i64 b] = (EntOk es, .list ((entF es a b).map Entry.enc) false) := gOf_eq aLE_inj (es, L, a, b)
set_option maxHeartbeats 4000000 in
theorem entsF_p : PureC Try.prog UT 24 (gOf aLE fLE) := by
  have hG := tEn_ok
  refine PureC.ofArgs aLE_inj Try.func24 body24 nm24 res24 ?_
  rintro ⟨es, L, a, b⟩ hv
  refine ⟨by rw [nt24]; simp [aLE], fun C hN Q hQ => ?_⟩
  rw [nt24] at hN
  unfold c24
  obtain ⟨hes, hp⟩ : EntOk es := hv
  refine aw_seq (aw_region (EF := EF0) hG (by rw [hN]; exact tr24_0) ?_)
  simp only [a24_0, go_sem, ↓reduceIte, Nat.reduceEqDiff, reduceCtorEq, Nat.reduceAdd, Nat.reduceLT, Nat.reduceLeDiff, Nat.reduceBNe, Nat.reduceBEq, Int.reduceToNat, aLE, lgV, tEn, fCln_eq]
  refine aw_seq ?_
  refine aw_seq (aw_region (EF := EF0) hG (by rw [hN]; exact tr24_1) ?_)
  simp only [a24_1, go_sem, ↓reduceIte, Nat.reduceEqDiff, reduceCtorEq, Nat.reduceAdd, Nat.reduceLT, Nat.reduceLeDiff, Nat.reduceBNe, Nat.reduceBEq, Int.reduceToNat, tEn, fCln_eq]
  refine aw_condF rfl ?_
  refine aw_skip ?_
  try simp only [go_sem, ↓reduceIte, Nat.reduceEqDiff, reduceCtorEq, Nat.reduceAdd, Nat.reduceLT, Nat.reduceLeDiff, Nat.reduceBNe, Nat.reduceBEq, Int.reduceToNat]
  refine aw_seq (aw_region (EF := EF0) hG (by rw [hN]; exact tr24_3) ?_)
  simp only [a24_3, go_sem, ↓reduceIte, Nat.reduceEqDiff, reduceCtorEq, Nat.reduceAdd, Nat.reduceLT, Nat.reduceLeDiff, Nat.reduceBNe, Nat.reduceBEq, Int.reduceToNat, tEn, fCln_eq]
  refine aw_seq ?_
  refine aw_seq (aw_region (EF := EF0) hG (by rw [hN]; exact tr24_4) ?_)
  simp only [a24_4, go_sem, ↓reduceIte, Nat.reduceEqDiff, reduceCtorEq, Nat.reduceAdd, Nat.reduceLT, Nat.reduceLeDiff, Nat.reduceBNe, Nat.reduceBEq, Int.reduceToNat, List.length_map, tEn, fCln_eq]
  refine AW.le (s' := ⟨mkE [(0, lgV es L), (1, .int .i64 a), (2, .int .i64 b), (7, .own 999 0), (15, .list (es.map Entry.enc) false), (16, .int .i64 es.length), (17, .int .i64 0)], mkH ([(999, .arr 24 3 [])])⟩) (Le.mk _ _ (by (simp only [go_sem, ↓reduceIte, Nat.reduceEqDiff, reduceCtorEq, Nat.reduceAdd, Nat.reduceLT, Nat.reduceLeDiff, Nat.reduceBNe, Nat.reduceBEq, Int.reduceToNat, lgV]) <;> (repeat' apply And.intro) <;> (try first | exact wk_frzb rfl rfl rfl | rfl | exact wk_fn rfl | exact .nill _ | exact .nilo _ _ _ rfl rfl | exact wk_frz rfl (by simp only [ints_len, nats_len]) rfl (ints_pur _) | exact wk_frzm rfl rfl (fun kv hk => by obtain ⟨_, _, rfl⟩ := List.mem_map.1 hk; rfl))) (by (simp only [go_sem, ↓reduceIte, Nat.reduceEqDiff, reduceCtorEq, Nat.reduceAdd, Nat.reduceLT, Nat.reduceLeDiff, Nat.reduceBNe, Nat.reduceBEq, Int.reduceToNat, lgV]) <;> (repeat' apply And.intro) <;> (try first | exact wk_frzb rfl rfl rfl | rfl | exact wk_fn rfl | exact .nill _ | exact .nilo _ _ _ rfl rfl | exact wk_frz rfl (by simp only [ints_len, nats_len]) rfl (ints_pur _) | exact wk_frzm rfl rfl (fun kv hk => by obtain ⟨_, _, rfl⟩ := List.mem_map.1 hk; rfl))) rfl) ?_
  refine aw_block ?_
  refine aw_loop (α := Nat × (List Entry)) (fun γ => (γ.1 ≤ es.length) ∧ (γ.2 = entF (es.take γ.1) a b)) (fun γ => ⟨mkE [(1, V.int IntKind.i64 a), (2, V.int IntKind.i64 b), (7, .own 999 γ.2.length), (15, V.list (List.map Entry.enc es) false), (16, V.int IntKind.i64 ↑es.length), (17, .int .i64 γ.1)], mkH [(999, .arr 24 3 (γ.2.map Entry.enc))]⟩) (fun γ => es.length - γ.1) (0, []) ⟨Nat.zero_le _, rfl⟩ ?_ ?_
  · refine Le.mk _ _ ?_ ?_ rfl <;> simp only [go_sem, ↓reduceIte, Nat.reduceEqDiff, reduceCtorEq, Nat.reduceAdd, Nat.reduceLT, Nat.reduceLeDiff, Nat.reduceBNe, Nat.reduceBEq, Int.reduceToNat, List.map_nil, List.length_nil] <;> (repeat' apply And.intro) <;> (try first | rfl | exact wk_frzb rfl rfl rfl | exact wk_fn rfl | exact .nilo _ _ _ rfl rfl | exact wk_frzm rfl rfl (fun kv hk => by obtain ⟨_, _, rfl⟩ := List.mem_map.1 hk; rfl))
  · rintro ⟨i, o⟩ ⟨hi, ho⟩ KL0 hKL0
    try dsimp only at *
    refine aw_seq (aw_region (EF := EF0) hG (by rw [hN]; exact tr24_5) ?_)
    simp only [a24_5, go_sem, ↓reduceIte, Nat.reduceEqDiff, reduceCtorEq, Nat.reduceAdd, Nat.reduceLT, Nat.reduceLeDiff, Nat.reduceBNe, Nat.reduceBEq, Int.reduceToNat, tEn, fCln_eq]
    refine aw_seq ?_
    refine aw_cond (b := _) rfl (fun hb5 => ?_) (fun hb5 => ?_)
    · skip
      have hc : i < es.length := by simp at hb5; omega
      have hs := ent_step (a := a) (b := b) hc
      have hol := ent_len es a b i
      rw [← ho] at hs hol
      obtain ⟨hpe1, hpe2⟩ := hp es[i] (List.getElem_mem _)
      obtain ⟨e, he⟩ : ∃ e, e = es[i] := ⟨_, rfl⟩
      rw [← he] at hs hpe1 hpe2
      refine aw_skip ?_
      try simp only [go_sem, ↓reduceIte, Nat.reduceEqDiff, reduceCtorEq, Nat.reduceAdd, Nat.reduceLT, Nat.reduceLeDiff, Nat.reduceBNe, Nat.reduceBEq, Int.reduceToNat]
      refine aw_seq ?_
      refine aw_block ?_
      refine aw_seq (aw_region (EF := EF0) hG (by rw [hN]; exact tr24_6) ?_)
      simp only [a24_6, go_sem, ↓reduceIte, Nat.reduceEqDiff, reduceCtorEq, Nat.reduceAdd, Nat.reduceLT, Nat.reduceLeDiff, Nat.reduceBNe, Nat.reduceBEq, Int.reduceToNat, getD_mapd _ _ _ _ hc, ← he, Entry.enc, hc, List.length_map, tEn, fCln_eq]
      (repeat' apply And.intro) <;> (try first | omega | ((fail_if_success refine idW ?_); (fail_if_success refine idS ?_); intros; (repeat' apply And.intro) <;> first | assumption | omega | (simp_all; done)))
      refine aw_seq (aw_region (EF := EF0) hG (by rw [hN]; exact tr24_7) ?_)
      simp only [a24_7, go_sem, ↓reduceIte, Nat.reduceEqDiff, reduceCtorEq, Nat.reduceAdd, Nat.reduceLT, Nat.reduceLeDiff, Nat.reduceBNe, Nat.reduceBEq, Int.reduceToNat, tEn, fCln_eq]
      (repeat' apply And.intro) <;> (try first | omega | ((fail_if_success refine idW ?_); (fail_if_success refine idS ?_); intros; (repeat' apply And.intro) <;> first | assumption | omega | (simp_all; done)))
      refine aw_cond (b := _) rfl (fun hb7 => ?_) (fun hb7 => ?_)
      · skip
        have hin : inD a b e = true := hb7
        rw [if_pos hin] at hs
        refine aw_seq (aw_region (EF := EF0) hG (by rw [hN]; exact tr24_8) ?_)
        simp only [a24_8, go_sem, ↓reduceIte, Nat.reduceEqDiff, reduceCtorEq, Nat.reduceAdd, Nat.reduceLT, Nat.reduceLeDiff, Nat.reduceBNe, Nat.reduceBEq, Int.reduceToNat, hpe1, hpe2, tEn, fCln_eq]
        (repeat' apply And.intro) <;> (try first | omega | ((fail_if_success refine idW ?_); (fail_if_success refine idS ?_); intros; (repeat' apply And.intro) <;> first | assumption | omega | (simp_all; done)))
        refine aw_region (EF := EF0) hG (by rw [hN]; exact tr24_9) ?_
        simp only [a24_9, go_sem, ↓reduceIte, Nat.reduceEqDiff, reduceCtorEq, Nat.reduceAdd, Nat.reduceLT, Nat.reduceLeDiff, Nat.reduceBNe, Nat.reduceBEq, Int.reduceToNat, List.length_map, tEn, fCln_eq]
        (repeat' apply And.intro) <;> (try first | omega | ((fail_if_success refine idW ?_); (fail_if_success refine idS ?_); intros; (repeat' apply And.intro) <;> first | assumption | omega | (simp_all; done)))
        refine aw_region (EF := EF0) hG (by rw [hN]; exact tr24_10) ?_
        simp only [a24_10, go_sem, ↓reduceIte, Nat.reduceEqDiff, reduceCtorEq, Nat.reduceAdd, Nat.reduceLT, Nat.reduceLeDiff, Nat.reduceBNe, Nat.reduceBEq, Int.reduceToNat, inI, tEn, fCln_eq]
        (repeat' apply And.intro) <;> (try first | omega | ((fail_if_success refine idW ?_); (fail_if_success refine idS ?_); intros; (repeat' apply And.intro) <;> first | assumption | omega | (simp_all; done)))
        refine hKL0 (i + 1, o ++ [e]) _ ?_ ?_ ?_
        · (try dsimp only); exact ⟨hc, hs.symm⟩
        · (try dsimp only); omega
        · refine Le.mk _ _ ?_ ?_ rfl <;> simp only [go_sem, ↓reduceIte, Nat.reduceEqDiff, reduceCtorEq, Nat.reduceAdd, Nat.reduceLT, Nat.reduceLeDiff, Nat.reduceBNe, Nat.reduceBEq, Int.reduceToNat, List.map_append, List.map_cons, List.map_nil, Entry.enc, List.length_append, List.length_cons, List.length_nil] <;> (repeat' apply And.intro) <;> (try first | rfl | exact wk_frzb rfl rfl rfl | exact wk_fn rfl | exact .nilo _ _ _ rfl rfl | exact wk_frzm rfl rfl (fun kv hk => by obtain ⟨_, _, rfl⟩ := List.mem_map.1 hk; rfl))
      · skip
        have hin : ¬ inD a b e = true := by rw [show inD a b e = false from hb7]; decide
        rw [if_neg hin, List.append_nil] at hs
        refine aw_skip ?_
        try simp only [go_sem, ↓reduceIte, Nat.reduceEqDiff, reduceCtorEq, Nat.reduceAdd, Nat.reduceLT, Nat.reduceLeDiff, Nat.reduceBNe, Nat.reduceBEq, Int.reduceToNat]
        refine aw_region (EF := EF0) hG (by rw [hN]; exact tr24_10) ?_
        simp only [a24_10, go_sem, ↓reduceIte, Nat.reduceEqDiff, reduceCtorEq, Nat.reduceAdd, Nat.reduceLT, Nat.reduceLeDiff, Nat.reduceBNe, Nat.reduceBEq, Int.reduceToNat, inI, tEn, fCln_eq]
        (repeat' apply And.intro) <;> (try first | omega | ((fail_if_success refine idW ?_); (fail_if_success refine idS ?_); intros; (repeat' apply And.intro) <;> first | assumption | omega | (simp_all; done)))
        refine hKL0 (i + 1, o) _ ?_ ?_ ?_
        · (try dsimp only); exact ⟨hc, hs.symm⟩
        · (try dsimp only); omega
        · refine Le.mk _ _ ?_ ?_ rfl <;> simp only [go_sem, ↓reduceIte, Nat.reduceEqDiff, reduceCtorEq, Nat.reduceAdd, Nat.reduceLT, Nat.reduceLeDiff, Nat.reduceBNe, Nat.reduceBEq, Int.reduceToNat] <;> (repeat' apply And.intro) <;> (try first | rfl | exact wk_frzb rfl rfl rfl | exact wk_fn rfl | exact .nilo _ _ _ rfl rfl | exact wk_frzm rfl rfl (fun kv hk => by obtain ⟨_, _, rfl⟩ := List.mem_map.1 hk; rfl))
    · skip
      obtain rfl : i = es.length := by simp at hb5; omega
      rw [List.take_length] at ho
      refine aw_exit ?_
      simp only [go_sem, ↓reduceIte, Nat.reduceEqDiff, reduceCtorEq, Nat.reduceAdd, Nat.reduceLT, Nat.reduceLeDiff, Nat.reduceBNe, Nat.reduceBEq, Int.reduceToNat]
      refine aw_seq (aw_region (EF := EF0) hG (by rw [hN]; exact tr24_11) ?_)
      simp only [a24_11, go_sem, ↓reduceIte, Nat.reduceEqDiff, reduceCtorEq, Nat.reduceAdd, Nat.reduceLT, Nat.reduceLeDiff, Nat.reduceBNe, Nat.reduceBEq, Int.reduceToNat, tEn, fCln_eq]
      refine AW.le (s' := ⟨mkE [(6, .list ((entF es a b).map Entry.enc) false)], mkH []⟩) (Le.mk _ _ ?_ ?_ rfl) (aw_ret (hQ _ _ (.inl rfl) ?_ ?_ ?_)) <;> simp only [outφ, outV, AR.res, go_sem, ↓reduceIte, Nat.reduceEqDiff, reduceCtorEq, Nat.reduceAdd, Nat.reduceLT, Nat.reduceLeDiff, Nat.reduceBNe, Nat.reduceBEq, Int.reduceToNat, fLE]
      · exact wk_frzO rfl (by rw [List.length_map]) rfl ((Entry.purs _).2 trivial) (by rw [ho])
def fRB (x : List Entry × List UInt8) : Prop × V := (BalOk x.1, .int .i64 (balL (pst x.1) x.2))
theorem fRB_eq (es : List Entry) (k : List UInt8) : gOf aRB fRB [lrV es, .str k] = (BalOk es, .int .i64 (balL (pst es) k)) := gOf_eq aRB_inj (es, k)
theorem rbalF_p : PureC Try.prog UT 23 (gOf aRB fRB) := by
  have hG := tRb_ok
  refine PureC.ofArgs aRB_inj Try.func23 body23 nm23 res23 ?_
  rintro ⟨es, k⟩ hv
  refine ⟨by rw [nt23]; simp [aRB], fun C hN Q hQ => ?_⟩
  rw [nt23] at hN
  unfold c23
  have hb : BalOk es := hv
  refine aw_seq (aw_region (EF := EF0) hG (by rw [hN]; exact tr23_0) ?_)
  simp only [a23_0, go_sem, ↓reduceIte, Nat.reduceEqDiff, reduceCtorEq, Nat.reduceAdd, Nat.reduceLT, Nat.reduceLeDiff, Nat.reduceBNe, Nat.reduceBEq, Int.reduceToNat, aRB, lrV, tRb, fBal_eq]
  refine aw_seq ?_
  refine aw_seq (aw_region (EF := EF0) hG (by rw [hN]; exact tr23_1) ?_)
  simp only [a23_1, go_sem, ↓reduceIte, Nat.reduceEqDiff, reduceCtorEq, Nat.reduceAdd, Nat.reduceLT, Nat.reduceLeDiff, Nat.reduceBNe, Nat.reduceBEq, Int.reduceToNat, tRb, fBal_eq]
  refine aw_condF rfl ?_
  refine aw_skip ?_
  try simp only [go_sem, ↓reduceIte, Nat.reduceEqDiff, reduceCtorEq, Nat.reduceAdd, Nat.reduceLT, Nat.reduceLeDiff, Nat.reduceBNe, Nat.reduceBEq, Int.reduceToNat]
  refine aw_seq (aw_region (EF := EF0) hG (by rw [hN]; exact tr23_3) ?_)
  simp only [a23_3, go_sem, ↓reduceIte, Nat.reduceEqDiff, reduceCtorEq, Nat.reduceAdd, Nat.reduceLT, Nat.reduceLeDiff, Nat.reduceBNe, Nat.reduceBEq, Int.reduceToNat, hb, tRb, fBal_eq]
  (repeat' apply And.intro) <;> (try first | omega | ((fail_if_success refine idW ?_); (fail_if_success refine idS ?_); intros; (repeat' apply And.intro) <;> first | assumption | omega | (simp_all; done)))
  refine aw_ret ?_
  show Q _ _
  refine hQ _ _ (.inl rfl) ?_ ?_ ?_ <;> simp only [outφ, outV, AR.res, go_sem, ↓reduceIte, Nat.reduceEqDiff, reduceCtorEq, Nat.reduceAdd, Nat.reduceLT, Nat.reduceLeDiff, Nat.reduceBNe, Nat.reduceBEq, Int.reduceToNat, fRB]
def fRE (x : List Entry × Int × Int) : Prop × V := (x.1.length ≤ 100000, .list ((entF x.1 x.2.1 x.2.2).map Entry.enc) false)
theorem fRE_eq (es : List Entry) (a b : Int) : gOf aRE fRE [lrV es, .int .i64 a, .int .i64 b] = (es.length ≤ 100000, .list ((entF es a b).map Entry.enc) false) := gOf_eq aRE_inj (es, a, b)
set_option maxHeartbeats 4000000 in
theorem rentsF_p : PureC Try.prog UT 25 (gOf aRE fRE) := by
  have hG := tNo_ok
  refine PureC.ofArgs aRE_inj Try.func25 body25 nm25 res25 ?_
  rintro ⟨es, a, b⟩ hv
  refine ⟨by rw [nt25]; simp [aRE], fun C hN Q hQ => ?_⟩
  rw [nt25] at hN
  unfold c25
  have hes : es.length ≤ 100000 := hv
  refine aw_seq (aw_region (EF := EF0) hG (by rw [hN]; exact tr25_0) ?_)
  simp only [a25_0, go_sem, ↓reduceIte, Nat.reduceEqDiff, reduceCtorEq, Nat.reduceAdd, Nat.reduceLT, Nat.reduceLeDiff, Nat.reduceBNe, Nat.reduceBEq, Int.reduceToNat, aRE, lrV]
  refine aw_seq (aw_region (EF := EF0) hG (by rw [hN]; exact tr25_1) ?_)
  simp only [a25_1, go_sem, ↓reduceIte, Nat.reduceEqDiff, reduceCtorEq, Nat.reduceAdd, Nat.reduceLT, Nat.reduceLeDiff, Nat.reduceBNe, Nat.reduceBEq, Int.reduceToNat]
  refine aw_seq ?_
  refine aw_seq (aw_region (EF := EF0) hG (by rw [hN]; exact tr25_2) ?_)
  simp only [a25_2, go_sem, ↓reduceIte, Nat.reduceEqDiff, reduceCtorEq, Nat.reduceAdd, Nat.reduceLT, Nat.reduceLeDiff, Nat.reduceBNe, Nat.reduceBEq, Int.reduceToNat]
  refine AW.le (s' := ⟨mkE [(0, .row [.list (es.map Entry.enc) false, .bool true] 0), (1, .int .i64 a), (2, .int .i64 b), (7, .own 999 0), (8, .int .i64 0)], mkH ([(999, .arr 24 3 [])])⟩) (Le.mk _ _ (by (simp only [go_sem, ↓reduceIte, Nat.reduceEqDiff, reduceCtorEq, Nat.reduceAdd, Nat.reduceLT, Nat.reduceLeDiff, Nat.reduceBNe, Nat.reduceBEq, Int.reduceToNat]) <;> (repeat' apply And.intro) <;> (try first | exact wk_frzb rfl rfl rfl | rfl | exact wk_fn rfl | exact .nill _ | exact .nilo _ _ _ rfl rfl | exact wk_frz rfl (by simp only [ints_len, nats_len]) rfl (ints_pur _) | exact wk_frzm rfl rfl (fun kv hk => by obtain ⟨_, _, rfl⟩ := List.mem_map.1 hk; rfl))) (by (simp only [go_sem, ↓reduceIte, Nat.reduceEqDiff, reduceCtorEq, Nat.reduceAdd, Nat.reduceLT, Nat.reduceLeDiff, Nat.reduceBNe, Nat.reduceBEq, Int.reduceToNat]) <;> (repeat' apply And.intro) <;> (try first | exact wk_frzb rfl rfl rfl | rfl | exact wk_fn rfl | exact .nill _ | exact .nilo _ _ _ rfl rfl | exact wk_frz rfl (by simp only [ints_len, nats_len]) rfl (ints_pur _) | exact wk_frzm rfl rfl (fun kv hk => by obtain ⟨_, _, rfl⟩ := List.mem_map.1 hk; rfl))) rfl) ?_
  refine aw_block ?_
  refine aw_loop (α := Nat × (List Entry)) (fun γ => (γ.1 ≤ es.length) ∧ (γ.2 = entF (es.take γ.1) a b)) (fun γ => ⟨mkE [(0, V.row [V.list (List.map Entry.enc es) false, V.bool true] 0), (1, V.int IntKind.i64 a), (2, V.int IntKind.i64 b), (7, .own 999 γ.2.length), (8, .int .i64 γ.1)], mkH [(999, .arr 24 3 (γ.2.map Entry.enc))]⟩) (fun γ => es.length - γ.1) (0, []) ⟨Nat.zero_le _, rfl⟩ ?_ ?_
  · refine Le.mk _ _ ?_ ?_ rfl <;> simp only [go_sem, ↓reduceIte, Nat.reduceEqDiff, reduceCtorEq, Nat.reduceAdd, Nat.reduceLT, Nat.reduceLeDiff, Nat.reduceBNe, Nat.reduceBEq, Int.reduceToNat, List.map_nil, List.length_nil] <;> (repeat' apply And.intro) <;> (try first | rfl | exact wk_frzb rfl rfl rfl | exact wk_fn rfl | exact .nilo _ _ _ rfl rfl | exact wk_frzm rfl rfl (fun kv hk => by obtain ⟨_, _, rfl⟩ := List.mem_map.1 hk; rfl))
  · rintro ⟨i, o⟩ ⟨hi, ho⟩ KL0 hKL0
    try dsimp only at *
    refine aw_seq ?_
    refine aw_seq (aw_region (EF := EF0) hG (by rw [hN]; exact tr25_3) ?_)
    simp only [a25_3, go_sem, ↓reduceIte, Nat.reduceEqDiff, reduceCtorEq, Nat.reduceAdd, Nat.reduceLT, Nat.reduceLeDiff, Nat.reduceBNe, Nat.reduceBEq, Int.reduceToNat, List.length_map]
    (repeat' apply And.intro) <;> (try first | omega | ((fail_if_success refine idW ?_); (fail_if_success refine idS ?_); intros; (repeat' apply And.intro) <;> first | assumption | omega | (simp_all; done)))
    refine aw_cond (b := _) rfl (fun hb5 => ?_) (fun hb5 => ?_)
    · skip
      have hc : i < es.length := by simp at hb5; omega
      have hs := ent_step (a := a) (b := b) hc
      have hol := ent_len es a b i
      rw [← ho] at hs hol
      obtain ⟨e, he⟩ : ∃ e, e = es[i] := ⟨_, rfl⟩
      rw [← he] at hs
      refine aw_skip ?_
      try simp only [go_sem, ↓reduceIte, Nat.reduceEqDiff, reduceCtorEq, Nat.reduceAdd, Nat.reduceLT, Nat.reduceLeDiff, Nat.reduceBNe, Nat.reduceBEq, Int.reduceToNat]
      refine aw_seq ?_
      refine aw_block ?_
      refine aw_seq (aw_region (EF := EF0) hG (by rw [hN]; exact tr25_5) ?_)
      simp only [a25_5, go_sem, ↓reduceIte, Nat.reduceEqDiff, reduceCtorEq, Nat.reduceAdd, Nat.reduceLT, Nat.reduceLeDiff, Nat.reduceBNe, Nat.reduceBEq, Int.reduceToNat, getD_mapd _ _ _ _ hc, ← he, Entry.enc, hc, List.length_map]
      (repeat' apply And.intro) <;> (try first | omega | ((fail_if_success refine idW ?_); (fail_if_success refine idS ?_); intros; (repeat' apply And.intro) <;> first | assumption | omega | (simp_all; done)))
      refine aw_cond (b := _) rfl (fun hb7 => ?_) (fun hb7 => ?_)
      · skip
        have hin : inD a b e = true := hb7
        rw [if_pos hin] at hs
        refine aw_region (EF := EF0) hG (by rw [hN]; exact tr25_6) ?_
        simp only [a25_6, go_sem, ↓reduceIte, Nat.reduceEqDiff, reduceCtorEq, Nat.reduceAdd, Nat.reduceLT, Nat.reduceLeDiff, Nat.reduceBNe, Nat.reduceBEq, Int.reduceToNat, getD_mapd _ _ _ _ hc, ← he, Entry.enc, hc, List.length_map]
        (repeat' apply And.intro) <;> (try first | omega | ((fail_if_success refine idW ?_); (fail_if_success refine idS ?_); intros; (repeat' apply And.intro) <;> first | assumption | omega | (simp_all; done)))
        refine aw_region (EF := EF0) hG (by rw [hN]; exact tr25_4) ?_
        simp only [a25_4, go_sem, ↓reduceIte, Nat.reduceEqDiff, reduceCtorEq, Nat.reduceAdd, Nat.reduceLT, Nat.reduceLeDiff, Nat.reduceBNe, Nat.reduceBEq, Int.reduceToNat, inI]
        (repeat' apply And.intro) <;> (try first | omega | ((fail_if_success refine idW ?_); (fail_if_success refine idS ?_); intros; (repeat' apply And.intro) <;> first | assumption | omega | (simp_all; done)))
        refine hKL0 (i + 1, o ++ [e]) _ ?_ ?_ ?_
        · (try dsimp only); exact ⟨hc, hs.symm⟩
        · (try dsimp only); omega
        · refine Le.mk _ _ ?_ ?_ rfl <;> simp only [go_sem, ↓reduceIte, Nat.reduceEqDiff, reduceCtorEq, Nat.reduceAdd, Nat.reduceLT, Nat.reduceLeDiff, Nat.reduceBNe, Nat.reduceBEq, Int.reduceToNat, List.map_append, List.map_cons, List.map_nil, Entry.enc, List.length_append, List.length_cons, List.length_nil] <;> (repeat' apply And.intro) <;> (try first | rfl | exact wk_frzb rfl rfl rfl | exact wk_fn rfl | exact .nilo _ _ _ rfl rfl | exact wk_frzm rfl rfl (fun kv hk => by obtain ⟨_, _, rfl⟩ := List.mem_map.1 hk; rfl))
      · skip
        have hin : ¬ inD a b e = true := by rw [show inD a b e = false from hb7]; decide
        rw [if_neg hin, List.append_nil] at hs
        refine aw_skip ?_
        try simp only [go_sem, ↓reduceIte, Nat.reduceEqDiff, reduceCtorEq, Nat.reduceAdd, Nat.reduceLT, Nat.reduceLeDiff, Nat.reduceBNe, Nat.reduceBEq, Int.reduceToNat]
        refine aw_region (EF := EF0) hG (by rw [hN]; exact tr25_4) ?_
        simp only [a25_4, go_sem, ↓reduceIte, Nat.reduceEqDiff, reduceCtorEq, Nat.reduceAdd, Nat.reduceLT, Nat.reduceLeDiff, Nat.reduceBNe, Nat.reduceBEq, Int.reduceToNat, inI]
        (repeat' apply And.intro) <;> (try first | omega | ((fail_if_success refine idW ?_); (fail_if_success refine idS ?_); intros; (repeat' apply And.intro) <;> first | assumption | omega | (simp_all; done)))
        refine hKL0 (i + 1, o) _ ?_ ?_ ?_
        · (try dsimp only); exact ⟨hc, hs.symm⟩
        · (try dsimp only); omega
        · refine Le.mk _ _ ?_ ?_ rfl <;> simp only [go_sem, ↓reduceIte, Nat.reduceEqDiff, reduceCtorEq, Nat.reduceAdd, Nat.reduceLT, Nat.reduceLeDiff, Nat.reduceBNe, Nat.reduceBEq, Int.reduceToNat] <;> (repeat' apply And.intro) <;> (try first | rfl | exact wk_frzb rfl rfl rfl | exact wk_fn rfl | exact .nilo _ _ _ rfl rfl | exact wk_frzm rfl rfl (fun kv hk => by obtain ⟨_, _, rfl⟩ := List.mem_map.1 hk; rfl))
    · skip
      obtain rfl : i = es.length := by simp at hb5; omega
      rw [List.take_length] at ho
      refine aw_exit ?_
      simp only [go_sem, ↓reduceIte, Nat.reduceEqDiff, reduceCtorEq, Nat.reduceAdd, Nat.reduceLT, Nat.reduceLeDiff, Nat.reduceBNe, Nat.reduceBEq, Int.reduceToNat]
      refine aw_seq (aw_region (EF := EF0) hG (by rw [hN]; exact tr25_7) ?_)
      simp only [a25_7, go_sem, ↓reduceIte, Nat.reduceEqDiff, reduceCtorEq, Nat.reduceAdd, Nat.reduceLT, Nat.reduceLeDiff, Nat.reduceBNe, Nat.reduceBEq, Int.reduceToNat]
      refine AW.le (s' := ⟨mkE [(6, .list ((entF es a b).map Entry.enc) false)], mkH []⟩) (Le.mk _ _ ?_ ?_ rfl) (aw_ret (hQ _ _ (.inl rfl) ?_ ?_ ?_)) <;> simp only [outφ, outV, AR.res, go_sem, ↓reduceIte, Nat.reduceEqDiff, reduceCtorEq, Nat.reduceAdd, Nat.reduceLT, Nat.reduceLeDiff, Nat.reduceBNe, Nat.reduceBEq, Int.reduceToNat, fRE]
      · exact wk_frzO rfl (by rw [List.length_map]) rfl ((Entry.purs _).2 trivial) (by rw [ho])
end Go.Proofs.Ythfmdkpfaehpnaa
