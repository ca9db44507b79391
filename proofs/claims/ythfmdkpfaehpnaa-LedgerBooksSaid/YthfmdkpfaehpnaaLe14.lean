/- The statements on books and on reverses. -/
import Derived.Test.YthfmdkpfaehpnaaLe13
namespace Go.Proofs.Ythfmdkpfaehpnaa
open Go Go.RowKit
set_option linter.unusedSimpArgs false
set_option linter.unusedVariables false
set_option linter.deprecated false
/-! Sums of balances. -/
def sumN (ks : List (List UInt8)) (f : List UInt8 → Int) (i : Nat) : Int := ((ks.take i).map f).sum
theorem sumN_step {ks : List (List UInt8)} {f : List UInt8 → Int} {i : Nat} (h : i < ks.length) : sumN ks f (i + 1) = sumN ks f i + f ks[i] := by
  unfold sumN
  rw [take_succ' h, List.map_append, List.sum_append]; simp
theorem sumN_bd {ks : List (List UInt8)} {f : List UInt8 → Int} (hf : ∀ k, -1125899906842624 ≤ f k ∧ f k ≤ 1125899906842624) : ∀ i, i ≤ ks.length → -(1125899906842624 * (i : Int)) ≤ sumN ks f i ∧ sumN ks f i ≤ 1125899906842624 * (i : Int)
  | 0, _ => by simp [sumN]
  | i + 1, h => by
    have := sumN_bd (ks := ks) hf i (by omega)
    have h2 := hf ks[i]
    rw [sumN_step (by omega)]
    omega
theorem sumP_pst : ∀ {es : List Entry}, (∀ e ∈ es, sumP e.posts = 0) → sumP (pst es) = 0
  | [], _ => rfl
  | e :: es, h => by
    have h1 := h e (List.mem_cons_self ..)
    have h2 := sumP_pst (es := es) fun x hx => h x (List.mem_cons_of_mem _ hx)
    unfold sumP pst at *
    rw [List.flatMap_cons, List.map_append, List.sum_append, h1]
    simpa using h2
theorem RunI.total {n : Nat} {es : List Entry} {L : Assoc Int} (h : RunI n es L) : sumN (sortS (L.map (·.1))) (getA L) (sortS (L.map (·.1))).length = 0 := by
  unfold sumN
  rw [List.take_length]
  have e1 : (sortS (L.map (·.1))).map (getA L) = (sortS (L.map (·.1))).map (balL (pst es)) := List.map_congr_left fun k _ => h.inv.bal k
  rw [e1, bal_sum ((sortS_perm _).nodup_iff.2 h.inv.nd) (fun p hp => (sortS_perm _).mem_iff.2 ((h.inv.mem _).2 (List.mem_map.2 ⟨p, hp, rfl⟩)))]
  exact sumP_pst fun e he => (h.en e he).2.2.2
theorem RunI.all {n : Nat} {es : List Entry} {L : Assoc Int} (h : RunI n es L) : entF es (-1) 36525 = es := by
  unfold entF
  refine List.filter_eq_self.2 fun e he => ?_
  have := (h.en e he).2.2.1
  unfold dayX at this
  simp only [Bool.or_eq_false_iff, decide_eq_false_iff_not] at this
  unfold inD
  simp only [Bool.and_eq_true, decide_eq_true_eq]
  omega
theorem RunI.rise {n : Nat} {es : List Entry} {L : Assoc Int} (h : RunI n es L) {i : Nat} (hi : i + 1 < (sortS (L.map (·.1))).length) : slt (sortS (L.map (·.1)))[i] (sortS (L.map (·.1)))[i + 1] = true :=
  List.pairwise_iff_getElem.1 (rise_of (sortS_sorted _) ((sortS_perm _).nodup_iff.2 h.inv.nd)) i (i + 1) (by omega) hi (by omega)
theorem post_code {L : Assoc Int} {e : Entry} (h : postC L e ≠ 0) (h2 : postC L e ≠ chkE e) : postC L e = 11 := by
  unfold postC at h h2 ⊢
  split
  · rename_i h3
    rw [if_pos h3] at h
    split
    · rfl
    · rename_i h4; rw [if_neg h4] at h; exact absurd rfl h
  · rename_i h3
    rw [if_neg h3] at h2; exact absurd rfl h2
theorem postE_len {L : Assoc Int} {es : List Entry} {e : Entry} : ((postE L es e).length : Int) = if postC L e = 0 then (es.length : Int) + 1 else es.length := by
  unfold postE
  split <;> simp
def aLe (x : List Entry) : List V := [.list (x.map Entry.enc) false]
theorem aLe_inj (a b : List Entry) (h : aLe a = aLe b) : a = b := by
  simp only [aLe, List.cons.injEq, V.str.injEq, V.int.injEq, V.bool.injEq, V.agg.injEq, V.list.injEq, and_true, true_and] at h
  have h0 := h
  replace h0 := map_inj' Entry.inj h0
  subst h0
  rfl
def fLB2 (l : List Entry) : Prop × V := (EsOk l, .bool true)
def EFq : Nat → Bool := fun f => f == 15 || f == 17 || f == 20 || f == 24
noncomputable def tBk : Tab
  | 9 => (gOf aUnit fTrue)
  | 11 => (gOf aEn fChkE)
  | 22 => (gOf aLB fLB)
  | _ => gNo
theorem tBk_ok : ∀ f, PureC Try.prog UT f (tBk f) := fun f => by
  unfold tBk
  split
  · exact knows_p
  · exact check_p
  · exact balF_p
  · exact PureC.no
set_option maxHeartbeats 8000000 in
theorem lawB_p : PureC Try.prog UT 5 (gOf aLe fLB2) := by
  have hG := tBk_ok
  refine PureC.ofArgs aLe_inj Try.func5 body5 nm5 res5 ?_
  rintro l hv
  refine ⟨by rw [nt5]; simp [aLe], fun C hN Q hQ => ?_⟩
  rw [nt5] at hN
  unfold c5
  obtain ⟨hll, hlok⟩ : EsOk l := hv
  refine aw_seq (aw_region (EF := EFq) hG (by rw [hN]; exact tr5_0) ?_)
  simp only [a5_0, go_sem, ↓reduceIte, Nat.reduceEqDiff, reduceCtorEq, Nat.reduceAdd, Nat.reduceLT, Nat.reduceLeDiff, Nat.reduceBNe, Nat.reduceBEq, Int.reduceToNat, aLe, tBk, EFq, fTrue_eq, fChkE_eq]
  refine aw_seq (aw_region (EF := EFq) hG (by rw [hN]; exact tr5_1) ?_)
  simp only [a5_1, go_sem, ↓reduceIte, Nat.reduceEqDiff, reduceCtorEq, Nat.reduceAdd, Nat.reduceLT, Nat.reduceLeDiff, Nat.reduceBNe, Nat.reduceBEq, Int.reduceToNat, tBk, EFq, fTrue_eq, fChkE_eq]
  refine new_use 500 501 502 (by decide) (by decide) (by decide) rfl rfl rfl (by decide) (by decide) (by decide) ?_
  simp only [go_sem, ↓reduceIte, Nat.reduceEqDiff, reduceCtorEq, Nat.reduceAdd, Nat.reduceLT, Nat.reduceLeDiff, Nat.reduceBNe, Nat.reduceBEq, Int.reduceToNat]
  refine AW.le (s' := ⟨mkE [(0, .list (l.map Entry.enc) false), (3, .ptr 500 0)], mkH (lgO 500 501 502 [] [])⟩) (Le.mk _ _ (by (simp only [go_sem, ↓reduceIte, Nat.reduceEqDiff, reduceCtorEq, Nat.reduceAdd, Nat.reduceLT, Nat.reduceLeDiff, Nat.reduceBNe, Nat.reduceBEq, Int.reduceToNat, lgO]) <;> (repeat' apply And.intro) <;> (try first | exact wk_frzb rfl rfl rfl | rfl | exact wk_fn rfl | exact .nill _ | exact .nilo _ _ _ rfl rfl | exact wk_frz rfl (by simp only [ints_len, nats_len]) rfl (ints_pur _) | exact wk_frzm rfl rfl (fun kv hk => by obtain ⟨_, _, rfl⟩ := List.mem_map.1 hk; rfl))) (by (simp only [go_sem, ↓reduceIte, Nat.reduceEqDiff, reduceCtorEq, Nat.reduceAdd, Nat.reduceLT, Nat.reduceLeDiff, Nat.reduceBNe, Nat.reduceBEq, Int.reduceToNat, lgO]) <;> (repeat' apply And.intro) <;> (try first | exact wk_frzb rfl rfl rfl | rfl | exact wk_fn rfl | exact .nill _ | exact .nilo _ _ _ rfl rfl | exact wk_frz rfl (by simp only [ints_len, nats_len]) rfl (ints_pur _) | exact wk_frzm rfl rfl (fun kv hk => by obtain ⟨_, _, rfl⟩ := List.mem_map.1 hk; rfl))) rfl) ?_
  refine aw_seq ?_
  refine aw_seq (aw_region (EF := EFq) hG (by rw [hN]; exact tr5_2) ?_)
  simp only [a5_2, go_sem, ↓reduceIte, Nat.reduceEqDiff, reduceCtorEq, Nat.reduceAdd, Nat.reduceLT, Nat.reduceLeDiff, Nat.reduceBNe, Nat.reduceBEq, Int.reduceToNat, lgO, tBk, EFq, fTrue_eq, fChkE_eq]
  refine aw_condF rfl ?_
  refine aw_skip ?_
  try simp only [go_sem, ↓reduceIte, Nat.reduceEqDiff, reduceCtorEq, Nat.reduceAdd, Nat.reduceLT, Nat.reduceLeDiff, Nat.reduceBNe, Nat.reduceBEq, Int.reduceToNat]
  refine aw_seq (aw_region (EF := EFq) hG (by rw [hN]; exact tr5_4) ?_)
  simp only [a5_4, go_sem, ↓reduceIte, Nat.reduceEqDiff, reduceCtorEq, Nat.reduceAdd, Nat.reduceLT, Nat.reduceLeDiff, Nat.reduceBNe, Nat.reduceBEq, Int.reduceToNat, tBk, EFq, fTrue_eq, fChkE_eq]
  refine aw_seq ?_
  refine aw_seq (aw_region (EF := EFq) hG (by rw [hN]; exact tr5_5) ?_)
  simp only [a5_5, go_sem, ↓reduceIte, Nat.reduceEqDiff, reduceCtorEq, Nat.reduceAdd, Nat.reduceLT, Nat.reduceLeDiff, Nat.reduceBNe, Nat.reduceBEq, Int.reduceToNat, tBk, EFq, fTrue_eq, fChkE_eq]
  refine aw_block ?_
  refine aw_loop (α := Nat × (List Entry) × (Assoc Int)) (fun γ => (γ.1 ≤ l.length) ∧ (γ.1 ≤ 60) ∧ (RunI γ.1 γ.2.1 γ.2.2)) (fun γ => ⟨mkE [(0, V.list (List.map Entry.enc l) false), (3, V.ptr 500 0), (4, .int .i64 γ.2.1.length), (5, .int .i64 γ.1)], mkH [(500, .box 49 [.own 501 γ.2.1.length, .map 502]), (501, .arr 24 3 (γ.2.1.map Entry.enc)), (502, .mp (kmap fI8 γ.2.2))]⟩) (fun γ => l.length - γ.1) (0, [], []) ⟨Nat.zero_le _, Nat.zero_le _, RunI.start⟩ ?_ ?_
  · refine Le.mk _ _ ?_ ?_ rfl <;> simp only [go_sem, ↓reduceIte, Nat.reduceEqDiff, reduceCtorEq, Nat.reduceAdd, Nat.reduceLT, Nat.reduceLeDiff, Nat.reduceBNe, Nat.reduceBEq, Int.reduceToNat, kmap_nil, List.map_nil, List.length_nil] <;> (repeat' apply And.intro) <;> (try first | rfl | exact wk_frzb rfl rfl rfl | exact wk_fn rfl | exact .nilo _ _ _ rfl rfl | exact wk_frzm rfl rfl (fun kv hk => by obtain ⟨_, _, rfl⟩ := List.mem_map.1 hk; rfl))
  · rintro ⟨i, es, L⟩ ⟨hi, hi3, hR⟩ KL0 hKL0
    try dsimp only at *
    refine aw_seq ?_
    refine aw_seq (aw_region (EF := EFq) hG (by rw [hN]; exact tr5_6) ?_)
    simp only [a5_6, go_sem, ↓reduceIte, Nat.reduceEqDiff, reduceCtorEq, Nat.reduceAdd, Nat.reduceLT, Nat.reduceLeDiff, Nat.reduceBNe, Nat.reduceBEq, Int.reduceToNat, List.length_map, tBk, EFq, fTrue_eq, fChkE_eq]
    (repeat' apply And.intro) <;> (try first | omega | ((fail_if_success refine idW ?_); (fail_if_success refine idS ?_); intros; (repeat' apply And.intro) <;> first | assumption | omega | (simp_all; done)))
    refine aw_cond (b := _) rfl (fun hb5 => ?_) (fun hb5 => ?_)
    · skip
      have hc : i < l.length ∧ i < 60 := by simp at hb5; omega
      obtain ⟨hc, hc2⟩ := hc
      have heok := hlok l[i] (List.getElem_mem _)
      obtain ⟨e, he⟩ : ∃ e, e = l[i] := ⟨_, rfl⟩
      rw [← he] at heok
      refine aw_skip ?_
      try simp only [go_sem, ↓reduceIte, Nat.reduceEqDiff, reduceCtorEq, Nat.reduceAdd, Nat.reduceLT, Nat.reduceLeDiff, Nat.reduceBNe, Nat.reduceBEq, Int.reduceToNat]
      refine aw_seq ?_
      refine aw_block ?_
      refine aw_seq ?_
      refine aw_seq (aw_region (EF := EFq) hG (by rw [hN]; exact tr5_8) ?_)
      simp only [a5_8, go_sem, ↓reduceIte, Nat.reduceEqDiff, reduceCtorEq, Nat.reduceAdd, Nat.reduceLT, Nat.reduceLeDiff, Nat.reduceBNe, Nat.reduceBEq, Int.reduceToNat, getD_mapd _ _ _ _ hc, ← he, Entry.enc, hc, heok, List.length_map, tBk, EFq, fTrue_eq, fChkE_eq]
      (repeat' apply And.intro) <;> (try first | omega | ((fail_if_success refine idW ?_); (fail_if_success refine idS ?_); intros; (repeat' apply And.intro) <;> first | assumption | omega | (simp_all; done)))
      refine aw_cond (b := _) rfl (fun hb7 => ?_) (fun hb7 => ?_)
      · skip
        refine aw_seq (aw_region (EF := EFq) hG (by rw [hN]; exact tr5_9) ?_)
        simp only [a5_9, go_sem, ↓reduceIte, Nat.reduceEqDiff, reduceCtorEq, Nat.reduceAdd, Nat.reduceLT, Nat.reduceLeDiff, Nat.reduceBNe, Nat.reduceBEq, Int.reduceToNat, tBk, EFq, fTrue_eq, fChkE_eq]
        (repeat' apply And.intro) <;> (try first | omega | ((fail_if_success refine idW ?_); (fail_if_success refine idS ?_); intros; (repeat' apply And.intro) <;> first | assumption | omega | (simp_all; done)))
        refine aw_ret ?_
        show Q _ _
        refine hQ _ _ (.inl rfl) ?_ ?_ ?_ <;> simp only [outφ, outV, AR.res, go_sem, ↓reduceIte, Nat.reduceEqDiff, reduceCtorEq, Nat.reduceAdd, Nat.reduceLT, Nat.reduceLeDiff, Nat.reduceBNe, Nat.reduceBEq, Int.reduceToNat, fLB2]
      · skip
        have hl10 : e.posts.length ≤ 10 := by simp at hb7; omega
        have hR2 := hR.post heok hl10
        have hel := hR.len
        have hpl := postE_len (L := L) (es := es) (e := e)
        obtain ⟨pc, hpc⟩ : ∃ x, x = postC L e := ⟨_, rfl⟩
        obtain ⟨ck, hck⟩ : ∃ x, x = chkE e := ⟨_, rfl⟩
        have hco : pc ≠ 0 → pc ≠ ck → pc = 11 := fun h1 h2 => by rw [hpc] at h1 h2 ⊢; exact post_code h1 (by rw [← hck]; exact h2)
        obtain ⟨es2, he2⟩ : ∃ x, x = postE L es e := ⟨_, rfl⟩
        obtain ⟨L2, hL2⟩ : ∃ x, x = postL L e := ⟨_, rfl⟩
        rw [← he2, ← hL2] at hR2
        rw [← he2, ← hpc] at hpl
        refine aw_skip ?_
        try simp only [go_sem, ↓reduceIte, Nat.reduceEqDiff, reduceCtorEq, Nat.reduceAdd, Nat.reduceLT, Nat.reduceLeDiff, Nat.reduceBNe, Nat.reduceBEq, Int.reduceToNat]
        refine aw_seq (aw_region (EF := EFq) hG (by rw [hN]; exact tr5_10) ?_)
        simp only [a5_10, go_sem, ↓reduceIte, Nat.reduceEqDiff, reduceCtorEq, Nat.reduceAdd, Nat.reduceLT, Nat.reduceLeDiff, Nat.reduceBNe, Nat.reduceBEq, Int.reduceToNat, getD_mapd _ _ _ _ hc, ← he, Entry.enc, hc, List.length_map, tBk, EFq, fTrue_eq, fChkE_eq]
        refine post_use hR.inv heok (by omega) rfl rfl rfl (by decide) (by decide) (by decide) ?_
        rw [← hpc, ← he2, ← hL2]
        simp only [go_sem, ↓reduceIte, Nat.reduceEqDiff, reduceCtorEq, Nat.reduceAdd, Nat.reduceLT, Nat.reduceLeDiff, Nat.reduceBNe, Nat.reduceBEq, Int.reduceToNat, lgO]
        refine AW.le (s' := ⟨mkE [(0, .list (l.map Entry.enc) false), (3, .ptr 500 0), (4, .int .i64 es.length), (5, .int .i64 i), (6, .int .i64 pc)], mkH (lgO 500 501 502 es2 L2)⟩) (Le.mk _ _ (by (simp only [go_sem, ↓reduceIte, Nat.reduceEqDiff, reduceCtorEq, Nat.reduceAdd, Nat.reduceLT, Nat.reduceLeDiff, Nat.reduceBNe, Nat.reduceBEq, Int.reduceToNat, lgO]) <;> (repeat' apply And.intro) <;> (try first | exact wk_frzb rfl rfl rfl | rfl | exact wk_fn rfl | exact .nill _ | exact .nilo _ _ _ rfl rfl | exact wk_frz rfl (by simp only [ints_len, nats_len]) rfl (ints_pur _) | exact wk_frzm rfl rfl (fun kv hk => by obtain ⟨_, _, rfl⟩ := List.mem_map.1 hk; rfl))) (by (simp only [go_sem, ↓reduceIte, Nat.reduceEqDiff, reduceCtorEq, Nat.reduceAdd, Nat.reduceLT, Nat.reduceLeDiff, Nat.reduceBNe, Nat.reduceBEq, Int.reduceToNat, lgO]) <;> (repeat' apply And.intro) <;> (try first | exact wk_frzb rfl rfl rfl | rfl | exact wk_fn rfl | exact .nill _ | exact .nilo _ _ _ rfl rfl | exact wk_frz rfl (by simp only [ints_len, nats_len]) rfl (ints_pur _) | exact wk_frzm rfl rfl (fun kv hk => by obtain ⟨_, _, rfl⟩ := List.mem_map.1 hk; rfl))) rfl) ?_
        refine aw_seq (aw_region (EF := EFq) hG (by rw [hN]; exact tr5_11) ?_)
        simp only [a5_11, go_sem, ↓reduceIte, Nat.reduceEqDiff, reduceCtorEq, Nat.reduceAdd, Nat.reduceLT, Nat.reduceLeDiff, Nat.reduceBNe, Nat.reduceBEq, Int.reduceToNat, tBk, EFq, fTrue_eq, fChkE_eq]
        refine aw_cond (b := _) rfl (fun hb11 => ?_) (fun hb11 => ?_)
        · skip
          have hz : pc = 0 := by simpa using hb11
          rw [if_pos hz] at hpl
          refine aw_region (EF := EFq) hG (by rw [hN]; exact tr5_12) ?_
          simp only [a5_12, go_sem, ↓reduceIte, Nat.reduceEqDiff, reduceCtorEq, Nat.reduceAdd, Nat.reduceLT, Nat.reduceLeDiff, Nat.reduceBNe, Nat.reduceBEq, Int.reduceToNat, inI, tBk, EFq, fTrue_eq, fChkE_eq]
          (repeat' apply And.intro) <;> (try first | omega | ((fail_if_success refine idW ?_); (fail_if_success refine idS ?_); intros; (repeat' apply And.intro) <;> first | assumption | omega | (simp_all; done)))
          refine aw_region (EF := EFq) hG (by rw [hN]; exact tr5_7) ?_
          simp only [a5_7, go_sem, ↓reduceIte, Nat.reduceEqDiff, reduceCtorEq, Nat.reduceAdd, Nat.reduceLT, Nat.reduceLeDiff, Nat.reduceBNe, Nat.reduceBEq, Int.reduceToNat, inI, tBk, EFq, fTrue_eq, fChkE_eq]
          (repeat' apply And.intro) <;> (try first | omega | ((fail_if_success refine idW ?_); (fail_if_success refine idS ?_); intros; (repeat' apply And.intro) <;> first | assumption | omega | (simp_all; done)))
          refine hKL0 (i + 1, es2, L2) _ ?_ ?_ ?_
          · (try dsimp only); exact ⟨hc, hc2, hR2⟩
          · (try dsimp only); omega
          · refine Le.mk _ _ ?_ ?_ rfl <;> simp only [go_sem, ↓reduceIte, Nat.reduceEqDiff, reduceCtorEq, Nat.reduceAdd, Nat.reduceLT, Nat.reduceLeDiff, Nat.reduceBNe, Nat.reduceBEq, Int.reduceToNat, lgO, hpl] <;> (repeat' apply And.intro) <;> (try first | rfl | exact wk_frzb rfl rfl rfl | exact wk_fn rfl | exact .nilo _ _ _ rfl rfl | exact wk_frzm rfl rfl (fun kv hk => by obtain ⟨_, _, rfl⟩ := List.mem_map.1 hk; rfl))
        · skip
          have hz : pc ≠ 0 := by simpa using hb11
          rw [if_neg hz] at hpl
          refine aw_seq (aw_region (EF := EFq) hG (by rw [hN]; exact tr5_13) ?_)
          simp only [a5_13, go_sem, ↓reduceIte, Nat.reduceEqDiff, reduceCtorEq, Nat.reduceAdd, Nat.reduceLT, Nat.reduceLeDiff, Nat.reduceBNe, Nat.reduceBEq, Int.reduceToNat, getD_mapd _ _ _ _ hc, ← he, Entry.enc, hc, heok, List.length_map, ← hck, tBk, EFq, fTrue_eq, fChkE_eq]
          (repeat' apply And.intro) <;> (try first | omega | ((fail_if_success refine idW ?_); (fail_if_success refine idS ?_); intros; (repeat' apply And.intro) <;> first | assumption | omega | (simp_all; done)))
          refine aw_cond (b := _) rfl (fun hb13 => ?_) (fun hb13 => ?_)
          · (exfalso; simp at hb13; exact hb13.2 (hco hz hb13.1))
          · skip
            refine aw_skip ?_
            try simp only [go_sem, ↓reduceIte, Nat.reduceEqDiff, reduceCtorEq, Nat.reduceAdd, Nat.reduceLT, Nat.reduceLeDiff, Nat.reduceBNe, Nat.reduceBEq, Int.reduceToNat]
            refine aw_region (EF := EFq) hG (by rw [hN]; exact tr5_7) ?_
            simp only [a5_7, go_sem, ↓reduceIte, Nat.reduceEqDiff, reduceCtorEq, Nat.reduceAdd, Nat.reduceLT, Nat.reduceLeDiff, Nat.reduceBNe, Nat.reduceBEq, Int.reduceToNat, inI, tBk, EFq, fTrue_eq, fChkE_eq]
            (repeat' apply And.intro) <;> (try first | omega | ((fail_if_success refine idW ?_); (fail_if_success refine idS ?_); intros; (repeat' apply And.intro) <;> first | assumption | omega | (simp_all; done)))
            refine hKL0 (i + 1, es2, L2) _ ?_ ?_ ?_
            · (try dsimp only); exact ⟨hc, hc2, hR2⟩
            · (try dsimp only); omega
            · refine Le.mk _ _ ?_ ?_ rfl <;> simp only [go_sem, ↓reduceIte, Nat.reduceEqDiff, reduceCtorEq, Nat.reduceAdd, Nat.reduceLT, Nat.reduceLeDiff, Nat.reduceBNe, Nat.reduceBEq, Int.reduceToNat, lgO, hpl] <;> (repeat' apply And.intro) <;> (try first | rfl | exact wk_frzb rfl rfl rfl | exact wk_fn rfl | exact .nilo _ _ _ rfl rfl | exact wk_frzm rfl rfl (fun kv hk => by obtain ⟨_, _, rfl⟩ := List.mem_map.1 hk; rfl))
    · skip
      refine aw_exit ?_
      simp only [go_sem, ↓reduceIte, Nat.reduceEqDiff, reduceCtorEq, Nat.reduceAdd, Nat.reduceLT, Nat.reduceLeDiff, Nat.reduceBNe, Nat.reduceBEq, Int.reduceToNat]
      have hE := hR.ent (by omega)
      refine aw_seq (aw_region (EF := EFq) hG (by rw [hN]; exact tr5_15) ?_)
      simp only [a5_15, go_sem, ↓reduceIte, Nat.reduceEqDiff, reduceCtorEq, Nat.reduceAdd, Nat.reduceLT, Nat.reduceLeDiff, Nat.reduceBNe, Nat.reduceBEq, Int.reduceToNat, lgO, tBk, EFq, fTrue_eq, fChkE_eq]
      refine ents_use (es := es) (L := L) hE rfl rfl rfl (by decide) (by decide) (by decide) ?_
      rw [hR.all]
      simp only [go_sem, ↓reduceIte, Nat.reduceEqDiff, reduceCtorEq, Nat.reduceAdd, Nat.reduceLT, Nat.reduceLeDiff, Nat.reduceBNe, Nat.reduceBEq, Int.reduceToNat]
      refine AW.le (s' := ⟨mkE [(3, .ptr 500 0), (4, .int .i64 es.length), (7, .list (es.map Entry.enc) false)], mkH (lgO 500 501 502 es L)⟩) (Le.mk _ _ (by (simp only [go_sem, ↓reduceIte, Nat.reduceEqDiff, reduceCtorEq, Nat.reduceAdd, Nat.reduceLT, Nat.reduceLeDiff, Nat.reduceBNe, Nat.reduceBEq, Int.reduceToNat, lgO]) <;> (repeat' apply And.intro) <;> (try first | exact wk_frzb rfl rfl rfl | rfl | exact wk_fn rfl | exact .nill _ | exact .nilo _ _ _ rfl rfl | exact wk_frz rfl (by simp only [ints_len, nats_len]) rfl (ints_pur _) | exact wk_frzm rfl rfl (fun kv hk => by obtain ⟨_, _, rfl⟩ := List.mem_map.1 hk; rfl))) (by (simp only [go_sem, ↓reduceIte, Nat.reduceEqDiff, reduceCtorEq, Nat.reduceAdd, Nat.reduceLT, Nat.reduceLeDiff, Nat.reduceBNe, Nat.reduceBEq, Int.reduceToNat, lgO]) <;> (repeat' apply And.intro) <;> (try first | exact wk_frzb rfl rfl rfl | rfl | exact wk_fn rfl | exact .nill _ | exact .nilo _ _ _ rfl rfl | exact wk_frz rfl (by simp only [ints_len, nats_len]) rfl (ints_pur _) | exact wk_frzm rfl rfl (fun kv hk => by obtain ⟨_, _, rfl⟩ := List.mem_map.1 hk; rfl))) rfl) ?_
      refine aw_seq (aw_region (EF := EFq) hG (by rw [hN]; exact tr5_16) ?_)
      simp only [a5_16, go_sem, ↓reduceIte, Nat.reduceEqDiff, reduceCtorEq, Nat.reduceAdd, Nat.reduceLT, Nat.reduceLeDiff, Nat.reduceBNe, Nat.reduceBEq, Int.reduceToNat, lgO, tBk, EFq, fTrue_eq, fChkE_eq]
      refine trial_use (es := es) (L := L) (by have := hR.ml; omega) hR.key rfl rfl rfl (by decide) (by decide) (by decide) ?_
      simp only [go_sem, ↓reduceIte, Nat.reduceEqDiff, reduceCtorEq, Nat.reduceAdd, Nat.reduceLT, Nat.reduceLeDiff, Nat.reduceBNe, Nat.reduceBEq, Int.reduceToNat, lgO]
      have hTl := tri_len L
      have hks2 := fun (a : Nat) (h : a + 1 < (sortS (L.map (·.1))).length) => hR.rise h
      have hsl : (sortS (L.map (·.1))).length ≤ 1000 := by rw [(sortS_perm _).length_eq, List.length_map]; have := hR.ml; omega
      have htot := hR.total
      have hTg : ∀ (j : Nat) (h : j < (sortS (L.map (·.1))).length), (triL L)[j]'(by rw [hTl]; exact h) = ⟨(sortS (L.map (·.1)))[j], getA L (sortS (L.map (·.1)))[j]⟩ := fun j h => by simp only [triL, List.getElem_map]
      obtain ⟨T, hT⟩ : ∃ T, T = triL L := ⟨_, rfl⟩
      obtain ⟨ks, hks⟩ : ∃ ks, ks = sortS (L.map (·.1)) := ⟨_, rfl⟩
      simp only [← hT, ← hks] at hTl hks2 hsl htot hTg ⊢
      refine AW.le (s' := ⟨mkE [(3, .ptr 500 0), (4, .int .i64 es.length), (7, .list (es.map Entry.enc) false), (8, .list (T.map Post.enc) false)], mkH [(500, .box 49 [.list (es.map Entry.enc) false, .fmap (kmap fI8 L)])]⟩) ?_ ?_
      · refine Le.mk _ _ ?_ ?_ rfl <;> simp only [go_sem, ↓reduceIte, Nat.reduceEqDiff, reduceCtorEq, Nat.reduceAdd, Nat.reduceLT, Nat.reduceLeDiff, Nat.reduceBNe, Nat.reduceBEq, Int.reduceToNat] <;> (repeat' apply And.intro) <;> (try first | rfl | exact wk_frzb rfl rfl rfl | exact wk_fn rfl | exact .nilo _ _ _ rfl rfl | exact wk_frzm rfl rfl (fun kv hk => by obtain ⟨_, _, rfl⟩ := List.mem_map.1 hk; rfl))
        · exact wk_frzO rfl (by rw [List.length_map]) rfl ((Entry.purs es).2 trivial) rfl
      refine AW.le (s' := ⟨mkE [(3, .row [.list (es.map Entry.enc) false, .fmap (kmap fI8 L)] 0), (4, .int .i64 es.length), (7, .list (es.map Entry.enc) false), (8, .list (T.map Post.enc) false)], mkH ([])⟩) (Le.mk _ _ (by (simp only [go_sem, ↓reduceIte, Nat.reduceEqDiff, reduceCtorEq, Nat.reduceAdd, Nat.reduceLT, Nat.reduceLeDiff, Nat.reduceBNe, Nat.reduceBEq, Int.reduceToNat]) <;> (repeat' apply And.intro) <;> (try first | exact wk_frzb rfl rfl rfl | rfl | exact wk_fn rfl | exact .nill _ | exact .nilo _ _ _ rfl rfl | exact wk_frz rfl (by simp only [ints_len, nats_len]) rfl (ints_pur _) | exact wk_frzm rfl rfl (fun kv hk => by obtain ⟨_, _, rfl⟩ := List.mem_map.1 hk; rfl))) (by (simp only [go_sem, ↓reduceIte, Nat.reduceEqDiff, reduceCtorEq, Nat.reduceAdd, Nat.reduceLT, Nat.reduceLeDiff, Nat.reduceBNe, Nat.reduceBEq, Int.reduceToNat]) <;> (repeat' apply And.intro) <;> (try first | exact wk_frzb rfl rfl rfl | rfl | exact wk_fn rfl | exact .nill _ | exact .nilo _ _ _ rfl rfl | exact wk_frz rfl (by simp only [ints_len, nats_len]) rfl (ints_pur _) | exact wk_frzm rfl rfl (fun kv hk => by obtain ⟨_, _, rfl⟩ := List.mem_map.1 hk; rfl))) rfl) ?_
      obtain ⟨hel, hepl, heam⟩ : BalOk es := hR.bal (by omega)
      refine aw_seq (aw_region (EF := EF0) hG (by rw [hN]; exact tr5_17) ?_)
      simp only [a5_17, go_sem, ↓reduceIte, Nat.reduceEqDiff, reduceCtorEq, Nat.reduceAdd, Nat.reduceLT, Nat.reduceLeDiff, Nat.reduceBNe, Nat.reduceBEq, Int.reduceToNat, tBk, EFq, fTrue_eq, fChkE_eq]
      refine aw_seq ?_
      refine aw_seq (aw_region (EF := EF0) hG (by rw [hN]; exact tr5_18) ?_)
      simp only [a5_18, go_sem, ↓reduceIte, Nat.reduceEqDiff, reduceCtorEq, Nat.reduceAdd, Nat.reduceLT, Nat.reduceLeDiff, Nat.reduceBNe, Nat.reduceBEq, Int.reduceToNat, tBk, EFq, fTrue_eq, fChkE_eq]
      refine aw_block ?_
      refine aw_loop (α := Nat) (fun j => (j ≤ ks.length)) (fun j => ⟨mkE [(3, V.row [V.list (List.map Entry.enc es) false, V.fmap (kmap fI8 L)] 0), (4, V.int IntKind.i64 ↑es.length), (7, V.list (List.map Entry.enc es) false), (8, V.list (List.map Post.enc T) false), (9, .int .i64 (sumN ks (getA L) j)), (10, .int .i64 j)], mkH []⟩) (fun j => ks.length - j) 0 (Nat.zero_le _) ?_ ?_
      · refine Le.mk _ _ ?_ ?_ rfl <;> simp only [go_sem, ↓reduceIte, Nat.reduceEqDiff, reduceCtorEq, Nat.reduceAdd, Nat.reduceLT, Nat.reduceLeDiff, Nat.reduceBNe, Nat.reduceBEq, Int.reduceToNat, sumN, List.take_zero, List.map_nil, List.sum_nil] <;> (repeat' apply And.intro) <;> (try first | rfl | exact wk_frzb rfl rfl rfl | exact wk_fn rfl | exact .nilo _ _ _ rfl rfl | exact wk_frzm rfl rfl (fun kv hk => by obtain ⟨_, _, rfl⟩ := List.mem_map.1 hk; rfl))
      · rintro j hj KL2 hKL2
        try dsimp only at *
        refine aw_seq ?_
        refine aw_seq (aw_region (EF := EF0) hG (by rw [hN]; exact tr5_19) ?_)
        simp only [a5_19, go_sem, ↓reduceIte, Nat.reduceEqDiff, reduceCtorEq, Nat.reduceAdd, Nat.reduceLT, Nat.reduceLeDiff, Nat.reduceBNe, Nat.reduceBEq, Int.reduceToNat, List.length_map, hTl, tBk, EFq, fTrue_eq, fChkE_eq]
        refine aw_cond (b := _) rfl (fun hb19 => ?_) (fun hb19 => ?_)
        · skip
          have hc19 : j < ks.length := by simp at hb19; omega
          have hcT : j < T.length := by rw [hTl]; exact hc19
          have hTj := hTg j hc19
          have hss := sumN_step (f := getA L) hc19
          have hsb := sumN_bd (ks := ks) (f := getA L) (fun k => hR.inv.getA_bd k) j hj
          obtain ⟨k, hk⟩ : ∃ k, k = ks[j] := ⟨_, rfl⟩
          rw [← hk] at hTj hss
          have hbk := hR.inv.bal k
          have hgb := hR.inv.getA_bd k
          refine aw_skip ?_
          try simp only [go_sem, ↓reduceIte, Nat.reduceEqDiff, reduceCtorEq, Nat.reduceAdd, Nat.reduceLT, Nat.reduceLeDiff, Nat.reduceBNe, Nat.reduceBEq, Int.reduceToNat]
          refine aw_seq ?_
          refine aw_block ?_
          refine aw_seq (aw_region (EF := EF0) hG (by rw [hN]; exact tr5_21) ?_)
          simp only [a5_21, go_sem, ↓reduceIte, Nat.reduceEqDiff, reduceCtorEq, Nat.reduceAdd, Nat.reduceLT, Nat.reduceLeDiff, Nat.reduceBNe, Nat.reduceBEq, Int.reduceToNat, tBk, EFq, fTrue_eq, fChkE_eq]
          refine aw_seq ?_
          refine aw_seq (aw_region (EF := EF0) hG (by rw [hN]; exact tr5_22) ?_)
          simp only [a5_22, go_sem, ↓reduceIte, Nat.reduceEqDiff, reduceCtorEq, Nat.reduceAdd, Nat.reduceLT, Nat.reduceLeDiff, Nat.reduceBNe, Nat.reduceBEq, Int.reduceToNat, tBk, EFq, fTrue_eq, fChkE_eq]
          refine aw_block ?_
          refine aw_loop (α := Nat) (fun m => (m ≤ es.length)) (fun m => ⟨mkE [(3, V.row [V.list (List.map Entry.enc es) false, V.fmap (kmap fI8 L)] 0), (4, V.int IntKind.i64 ↑es.length), (7, V.list (List.map Entry.enc es) false), (8, V.list (List.map Post.enc T) false), (9, V.int IntKind.i64 (sumN ks (getA L) j)), (10, V.int IntKind.i64 ↑j), (11, .int .i64 (balL (pst (es.take m)) k)), (12, .int .i64 m)], mkH []⟩) (fun m => es.length - m) 0 (Nat.zero_le _) ?_ ?_
          · refine Le.mk _ _ ?_ ?_ rfl <;> simp only [go_sem, ↓reduceIte, Nat.reduceEqDiff, reduceCtorEq, Nat.reduceAdd, Nat.reduceLT, Nat.reduceLeDiff, Nat.reduceBNe, Nat.reduceBEq, Int.reduceToNat, List.take_zero, pst, List.flatMap_nil, balL] <;> (repeat' apply And.intro) <;> (try first | rfl | exact wk_frzb rfl rfl rfl | exact wk_fn rfl | exact .nilo _ _ _ rfl rfl | exact wk_frzm rfl rfl (fun kv hk => by obtain ⟨_, _, rfl⟩ := List.mem_map.1 hk; rfl))
          · rintro m hm KL4 hKL4
            try dsimp only at *
            refine aw_seq ?_
            refine aw_seq (aw_region (EF := EF0) hG (by rw [hN]; exact tr5_23) ?_)
            simp only [a5_23, go_sem, ↓reduceIte, Nat.reduceEqDiff, reduceCtorEq, Nat.reduceAdd, Nat.reduceLT, Nat.reduceLeDiff, Nat.reduceBNe, Nat.reduceBEq, Int.reduceToNat, List.length_map, tBk, EFq, fTrue_eq, fChkE_eq]
            refine aw_cond (b := _) rfl (fun hb23 => ?_) (fun hb23 => ?_)
            · skip
              have hc23 : m < es.length := by simp at hb23; omega
              have hln := pst_len hc23
              have hst := pst_take hc23
              have hpm : ∀ p ∈ es[m].posts, p ∈ pst es := fun p h => pst_mem hc23 h
              obtain ⟨e, he⟩ : ∃ e, e = es[m] := ⟨_, rfl⟩
              rw [← he] at hln hst hpm
              obtain ⟨b, hb⟩ : ∃ b, b = balL (pst (es.take m)) k := ⟨_, rfl⟩
              have hbb := bal_bd (l := pst (es.take m)) (fun p h => heam p (pst_sub h)) k
              rw [← hb] at hbb
              rw [← hb]
              refine aw_skip ?_
              try simp only [go_sem, ↓reduceIte, Nat.reduceEqDiff, reduceCtorEq, Nat.reduceAdd, Nat.reduceLT, Nat.reduceLeDiff, Nat.reduceBNe, Nat.reduceBEq, Int.reduceToNat]
              refine aw_seq ?_
              refine aw_block ?_
              refine aw_seq (aw_region (EF := EF0) hG (by rw [hN]; exact tr5_25) ?_)
              simp only [a5_25, go_sem, ↓reduceIte, Nat.reduceEqDiff, reduceCtorEq, Nat.reduceAdd, Nat.reduceLT, Nat.reduceLeDiff, Nat.reduceBNe, Nat.reduceBEq, Int.reduceToNat, tBk, EFq, fTrue_eq, fChkE_eq]
              refine aw_block ?_
              refine aw_loop (α := Nat) (fun n => (n ≤ e.posts.length)) (fun n => ⟨mkE [(3, V.row [V.list (List.map Entry.enc es) false, V.fmap (kmap fI8 L)] 0), (4, V.int IntKind.i64 ↑es.length), (7, V.list (List.map Entry.enc es) false), (8, V.list (List.map Post.enc T) false), (9, V.int IntKind.i64 (sumN ks (getA L) j)), (10, V.int IntKind.i64 ↑j), (11, .int .i64 (b + balL (e.posts.take n) k)), (12, V.int IntKind.i64 ↑m), (13, .int .i64 n)], mkH []⟩) (fun n => e.posts.length - n) 0 (Nat.zero_le _) ?_ ?_
              · refine Le.mk _ _ ?_ ?_ rfl <;> simp only [go_sem, ↓reduceIte, Nat.reduceEqDiff, reduceCtorEq, Nat.reduceAdd, Nat.reduceLT, Nat.reduceLeDiff, Nat.reduceBNe, Nat.reduceBEq, Int.reduceToNat, List.take_zero, balL, Int.add_zero] <;> (repeat' apply And.intro) <;> (try first | rfl | exact wk_frzb rfl rfl rfl | exact wk_fn rfl | exact .nilo _ _ _ rfl rfl | exact wk_frzm rfl rfl (fun kv hk => by obtain ⟨_, _, rfl⟩ := List.mem_map.1 hk; rfl))
              · rintro n hn KL6 hKL6
                try dsimp only at *
                refine aw_seq ?_
                refine aw_seq (aw_region (EF := EF0) hG (by rw [hN]; exact tr5_26) ?_)
                simp only [a5_26, go_sem, ↓reduceIte, Nat.reduceEqDiff, reduceCtorEq, Nat.reduceAdd, Nat.reduceLT, Nat.reduceLeDiff, Nat.reduceBNe, Nat.reduceBEq, Int.reduceToNat, getD_mapd _ _ _ _ hc23, ← he, Entry.enc, hc23, List.length_map, tBk, EFq, fTrue_eq, fChkE_eq]
                (repeat' apply And.intro) <;> (try first | omega | ((fail_if_success refine idW ?_); (fail_if_success refine idS ?_); intros; (repeat' apply And.intro) <;> first | assumption | omega | (simp_all; done)))
                refine aw_cond (b := _) rfl (fun hb26 => ?_) (fun hb26 => ?_)
                · skip
                  have hc26 : n < e.posts.length := by simp at hb26; omega
                  have hbs := bal_step hc26 k
                  have hpa := heam e.posts[n] (hpm _ (List.getElem_mem _))
                  obtain ⟨p, hp2⟩ : ∃ p, p = e.posts[n] := ⟨_, rfl⟩
                  rw [← hp2] at hbs hpa
                  have hbj := bal_bd (l := e.posts.take n) (fun p h => heam p (hpm p (List.mem_of_mem_take h))) k
                  have hlj : (e.posts.take n).length = n := by rw [List.length_take]; omega
                  rw [hlj] at hbj
                  refine aw_skip ?_
                  try simp only [go_sem, ↓reduceIte, Nat.reduceEqDiff, reduceCtorEq, Nat.reduceAdd, Nat.reduceLT, Nat.reduceLeDiff, Nat.reduceBNe, Nat.reduceBEq, Int.reduceToNat]
                  refine aw_seq ?_
                  refine aw_block ?_
                  refine aw_seq (aw_regionD (EF := EF0) hG mixed (by rw [hN]; exact tr5_28) ok5_28 ?_)
                  simp only [a5_28, d5_28, go_sem, ↓reduceIte, Nat.reduceEqDiff, reduceCtorEq, Nat.reduceAdd, Nat.reduceLT, Nat.reduceLeDiff, Nat.reduceBNe, Nat.reduceBEq, Int.reduceToNat, getD_mapd _ _ _ _ hc23, ← he, Entry.enc, getD_mapd _ _ _ _ hc26, ← hp2, Post.enc, getD_mapd _ _ _ _ hcT, hTj, hc23, hc26, hcT, List.length_map, tBk, EFq, fTrue_eq, fChkE_eq]
                  (repeat' apply And.intro) <;> (try first | omega | ((fail_if_success refine idW ?_); (fail_if_success refine idS ?_); intros; (repeat' apply And.intro) <;> first | assumption | omega | (simp_all; done)))
                  refine aw_cond (b := _) rfl (fun hb28 => ?_) (fun hb28 => ?_)
                  · skip
                    have hac : p.account = k := by simpa using hb28
                    have hTt : b + balL (e.posts.take n) k + p.amount = b + balL (e.posts.take (n + 1)) k := by rw [hbs, if_pos hac]; omega
                    refine aw_region (EF := EF0) hG (by rw [hN]; exact tr5_29) ?_
                    simp only [a5_29, go_sem, ↓reduceIte, Nat.reduceEqDiff, reduceCtorEq, Nat.reduceAdd, Nat.reduceLT, Nat.reduceLeDiff, Nat.reduceBNe, Nat.reduceBEq, Int.reduceToNat, inI, getD_mapd _ _ _ _ hc23, ← he, Entry.enc, getD_mapd _ _ _ _ hc26, ← hp2, Post.enc, hc23, hc26, List.length_map, tBk, EFq, fTrue_eq, fChkE_eq]
                    (repeat' apply And.intro) <;> (try first | omega | ((fail_if_success refine idW ?_); (fail_if_success refine idS ?_); intros; (repeat' apply And.intro) <;> first | assumption | omega | (simp_all; done)))
                    refine aw_region (EF := EF0) hG (by rw [hN]; exact tr5_27) ?_
                    simp only [a5_27, go_sem, ↓reduceIte, Nat.reduceEqDiff, reduceCtorEq, Nat.reduceAdd, Nat.reduceLT, Nat.reduceLeDiff, Nat.reduceBNe, Nat.reduceBEq, Int.reduceToNat, inI, tBk, EFq, fTrue_eq, fChkE_eq]
                    (repeat' apply And.intro) <;> (try first | omega | ((fail_if_success refine idW ?_); (fail_if_success refine idS ?_); intros; (repeat' apply And.intro) <;> first | assumption | omega | (simp_all; done)))
                    refine hKL6 (n + 1) _ ?_ ?_ ?_
                    · (try dsimp only); exact hc26
                    · (try dsimp only); omega
                    · refine Le.mk _ _ ?_ ?_ rfl <;> simp only [go_sem, ↓reduceIte, Nat.reduceEqDiff, reduceCtorEq, Nat.reduceAdd, Nat.reduceLT, Nat.reduceLeDiff, Nat.reduceBNe, Nat.reduceBEq, Int.reduceToNat, hTt] <;> (repeat' apply And.intro) <;> (try first | rfl | exact wk_frzb rfl rfl rfl | exact wk_fn rfl | exact .nilo _ _ _ rfl rfl | exact wk_frzm rfl rfl (fun kv hk => by obtain ⟨_, _, rfl⟩ := List.mem_map.1 hk; rfl))
                  · skip
                    have hac : ¬ p.account = k := by simpa using hb28
                    have hTt : b + balL (e.posts.take n) k = b + balL (e.posts.take (n + 1)) k := by rw [hbs, if_neg hac]; omega
                    refine aw_skip ?_
                    try simp only [go_sem, ↓reduceIte, Nat.reduceEqDiff, reduceCtorEq, Nat.reduceAdd, Nat.reduceLT, Nat.reduceLeDiff, Nat.reduceBNe, Nat.reduceBEq, Int.reduceToNat]
                    refine aw_region (EF := EF0) hG (by rw [hN]; exact tr5_27) ?_
                    simp only [a5_27, go_sem, ↓reduceIte, Nat.reduceEqDiff, reduceCtorEq, Nat.reduceAdd, Nat.reduceLT, Nat.reduceLeDiff, Nat.reduceBNe, Nat.reduceBEq, Int.reduceToNat, inI, tBk, EFq, fTrue_eq, fChkE_eq]
                    (repeat' apply And.intro) <;> (try first | omega | ((fail_if_success refine idW ?_); (fail_if_success refine idS ?_); intros; (repeat' apply And.intro) <;> first | assumption | omega | (simp_all; done)))
                    refine hKL6 (n + 1) _ ?_ ?_ ?_
                    · (try dsimp only); exact hc26
                    · (try dsimp only); omega
                    · refine Le.mk _ _ ?_ ?_ rfl <;> simp only [go_sem, ↓reduceIte, Nat.reduceEqDiff, reduceCtorEq, Nat.reduceAdd, Nat.reduceLT, Nat.reduceLeDiff, Nat.reduceBNe, Nat.reduceBEq, Int.reduceToNat, hTt] <;> (repeat' apply And.intro) <;> (try first | rfl | exact wk_frzb rfl rfl rfl | exact wk_fn rfl | exact .nilo _ _ _ rfl rfl | exact wk_frzm rfl rfl (fun kv hk => by obtain ⟨_, _, rfl⟩ := List.mem_map.1 hk; rfl))
                · skip
                  obtain rfl : n = e.posts.length := by simp at hb26; omega
                  have hbe : b + balL (e.posts.take e.posts.length) k = balL (pst (es.take (m + 1))) k := by rw [List.take_length, hst, balL_app, hb]
                  refine aw_exit ?_
                  simp only [go_sem, ↓reduceIte, Nat.reduceEqDiff, reduceCtorEq, Nat.reduceAdd, Nat.reduceLT, Nat.reduceLeDiff, Nat.reduceBNe, Nat.reduceBEq, Int.reduceToNat]
                  refine aw_region (EF := EF0) hG (by rw [hN]; exact tr5_24) ?_
                  simp only [a5_24, go_sem, ↓reduceIte, Nat.reduceEqDiff, reduceCtorEq, Nat.reduceAdd, Nat.reduceLT, Nat.reduceLeDiff, Nat.reduceBNe, Nat.reduceBEq, Int.reduceToNat, inI, tBk, EFq, fTrue_eq, fChkE_eq]
                  (repeat' apply And.intro) <;> (try first | omega | ((fail_if_success refine idW ?_); (fail_if_success refine idS ?_); intros; (repeat' apply And.intro) <;> first | assumption | omega | (simp_all; done)))
                  refine hKL4 (m + 1) _ ?_ ?_ ?_
                  · (try dsimp only); exact hc23
                  · (try dsimp only); omega
                  · refine Le.mk _ _ ?_ ?_ rfl <;> simp only [go_sem, ↓reduceIte, Nat.reduceEqDiff, reduceCtorEq, Nat.reduceAdd, Nat.reduceLT, Nat.reduceLeDiff, Nat.reduceBNe, Nat.reduceBEq, Int.reduceToNat, hbe] <;> (repeat' apply And.intro) <;> (try first | rfl | exact wk_frzb rfl rfl rfl | exact wk_fn rfl | exact .nilo _ _ _ rfl rfl | exact wk_frzm rfl rfl (fun kv hk => by obtain ⟨_, _, rfl⟩ := List.mem_map.1 hk; rfl))
            · skip
              obtain rfl : m = es.length := by simp at hb23; omega
              rw [List.take_length, ← hbk]
              refine aw_exit ?_
              simp only [go_sem, ↓reduceIte, Nat.reduceEqDiff, reduceCtorEq, Nat.reduceAdd, Nat.reduceLT, Nat.reduceLeDiff, Nat.reduceBNe, Nat.reduceBEq, Int.reduceToNat]
              refine aw_seq ?_
              by_cases hj0 : 0 < j
              · skip
                have hjj : ((j : Int) - 1).toNat = j - 1 := by omega
                have hc29 : j - 1 < ks.length := by omega
                have hcU : j - 1 < T.length := by rw [hTl]; exact hc29
                have hTi := hTg (j - 1) hc29
                have hri : slt ks[j - 1] k = true := by have := hks2 (j - 1) (by omega); rw [hk]; simpa only [Nat.sub_add_cancel hj0] using this
                obtain ⟨q, hq3⟩ : ∃ q, q = ks[j - 1] := ⟨_, rfl⟩
                rw [← hq3] at hTi hri
                have hgt : decide (0 < (j : Int)) = true := by simpa using hj0
                refine aw_seq (aw_regionD (EF := EF0) hG mixed (by rw [hN]; exact tr5_30) ok5_30 ?_)
                simp only [a5_30, d5_30, go_sem, ↓reduceIte, Nat.reduceEqDiff, reduceCtorEq, Nat.reduceAdd, Nat.reduceLT, Nat.reduceLeDiff, Nat.reduceBNe, Nat.reduceBEq, Int.reduceToNat, inI, tBk, EFq, fTrue_eq, fChkE_eq, getD_mapd _ _ _ _ hcT, hTj, Post.enc, hcT, List.length_map, lgB_eq, hgt, hjj, getD_mapd _ _ _ _ hcU, hTi, hri, decide_true, Bool.not_true]
                (repeat' apply And.intro) <;> (try first | omega | ((fail_if_success refine idW ?_); (fail_if_success refine idS ?_); intros; (repeat' apply And.intro) <;> first | assumption | omega | (simp_all; done)))
                refine aw_condF rfl ?_
                refine aw_skip ?_
                try simp only [go_sem, ↓reduceIte, Nat.reduceEqDiff, reduceCtorEq, Nat.reduceAdd, Nat.reduceLT, Nat.reduceLeDiff, Nat.reduceBNe, Nat.reduceBEq, Int.reduceToNat]
                refine aw_region (EF := EF0) hG (by rw [hN]; exact tr5_32) ?_
                simp only [a5_32, go_sem, ↓reduceIte, Nat.reduceEqDiff, reduceCtorEq, Nat.reduceAdd, Nat.reduceLT, Nat.reduceLeDiff, Nat.reduceBNe, Nat.reduceBEq, Int.reduceToNat, inI, tBk, EFq, fTrue_eq, fChkE_eq]
                (repeat' apply And.intro) <;> (try first | omega | ((fail_if_success refine idW ?_); (fail_if_success refine idS ?_); intros; (repeat' apply And.intro) <;> first | assumption | omega | (simp_all; done)))
                refine aw_region (EF := EF0) hG (by rw [hN]; exact tr5_20) ?_
                simp only [a5_20, go_sem, ↓reduceIte, Nat.reduceEqDiff, reduceCtorEq, Nat.reduceAdd, Nat.reduceLT, Nat.reduceLeDiff, Nat.reduceBNe, Nat.reduceBEq, Int.reduceToNat, inI, tBk, EFq, fTrue_eq, fChkE_eq]
                (repeat' apply And.intro) <;> (try first | omega | ((fail_if_success refine idW ?_); (fail_if_success refine idS ?_); intros; (repeat' apply And.intro) <;> first | assumption | omega | (simp_all; done)))
                refine hKL2 (j + 1) _ ?_ ?_ ?_
                · (try dsimp only); exact hc19
                · (try dsimp only); omega
                · refine Le.mk _ _ ?_ ?_ rfl <;> simp only [go_sem, ↓reduceIte, Nat.reduceEqDiff, reduceCtorEq, Nat.reduceAdd, Nat.reduceLT, Nat.reduceLeDiff, Nat.reduceBNe, Nat.reduceBEq, Int.reduceToNat, hss] <;> (repeat' apply And.intro) <;> (try first | rfl | exact wk_frzb rfl rfl rfl | exact wk_fn rfl | exact .nilo _ _ _ rfl rfl | exact wk_frzm rfl rfl (fun kv hk => by obtain ⟨_, _, rfl⟩ := List.mem_map.1 hk; rfl))
              · skip
                obtain rfl : j = 0 := by omega
                have hgt0 : decide (0 < ((0 : Nat) : Int)) = false := rfl
                have hz1 : ((0 : Int) - 1).toNat = 0 := rfl
                have hz2 : (((0 : Nat) : Int) - 1).toNat = 0 := rfl
                have hss1 : sumN ks (getA L) 1 = sumN ks (getA L) 0 + getA L k := hss
                refine aw_seq (aw_regionD (EF := EF0) hG mixed (by rw [hN]; exact tr5_30) ok5_30 ?_)
                simp only [a5_30, d5_30, go_sem, ↓reduceIte, Nat.reduceEqDiff, reduceCtorEq, Nat.reduceAdd, Nat.reduceLT, Nat.reduceLeDiff, Nat.reduceBNe, Nat.reduceBEq, Int.reduceToNat, inI, tBk, EFq, fTrue_eq, fChkE_eq, hz1, hz2, hgt0, getD_mapd _ _ _ _ hcT, hTj, Post.enc, hcT, List.length_map, lgB_eq, decide_true, Bool.not_true]
                (repeat' apply And.intro) <;> (try first | omega | ((fail_if_success refine idW ?_); (fail_if_success refine idS ?_); intros; (repeat' apply And.intro) <;> first | assumption | omega | (simp_all; done)))
                refine aw_condF rfl ?_
                refine aw_skip ?_
                try simp only [go_sem, ↓reduceIte, Nat.reduceEqDiff, reduceCtorEq, Nat.reduceAdd, Nat.reduceLT, Nat.reduceLeDiff, Nat.reduceBNe, Nat.reduceBEq, Int.reduceToNat]
                refine aw_region (EF := EF0) hG (by rw [hN]; exact tr5_32) ?_
                simp only [a5_32, go_sem, ↓reduceIte, Nat.reduceEqDiff, reduceCtorEq, Nat.reduceAdd, Nat.reduceLT, Nat.reduceLeDiff, Nat.reduceBNe, Nat.reduceBEq, Int.reduceToNat, inI, tBk, EFq, fTrue_eq, fChkE_eq]
                (repeat' apply And.intro) <;> (try first | omega | ((fail_if_success refine idW ?_); (fail_if_success refine idS ?_); intros; (repeat' apply And.intro) <;> first | assumption | omega | (simp_all; done)))
                refine aw_region (EF := EF0) hG (by rw [hN]; exact tr5_20) ?_
                simp only [a5_20, go_sem, ↓reduceIte, Nat.reduceEqDiff, reduceCtorEq, Nat.reduceAdd, Nat.reduceLT, Nat.reduceLeDiff, Nat.reduceBNe, Nat.reduceBEq, Int.reduceToNat, inI, tBk, EFq, fTrue_eq, fChkE_eq]
                (repeat' apply And.intro) <;> (try first | omega | ((fail_if_success refine idW ?_); (fail_if_success refine idS ?_); intros; (repeat' apply And.intro) <;> first | assumption | omega | (simp_all; done)))
                refine hKL2 (1) _ ?_ ?_ ?_
                · (try dsimp only); exact hc19
                · (try dsimp only); omega
                · refine Le.mk _ _ ?_ ?_ rfl <;> simp only [go_sem, ↓reduceIte, Nat.reduceEqDiff, reduceCtorEq, Nat.reduceAdd, Nat.reduceLT, Nat.reduceLeDiff, Nat.reduceBNe, Nat.reduceBEq, Int.reduceToNat, hss1] <;> (repeat' apply And.intro) <;> (try first | rfl | exact wk_frzb rfl rfl rfl | exact wk_fn rfl | exact .nilo _ _ _ rfl rfl | exact wk_frzm rfl rfl (fun kv hk => by obtain ⟨_, _, rfl⟩ := List.mem_map.1 hk; rfl))
        · skip
          obtain rfl : j = ks.length := by simp at hb19; omega
          refine aw_exit ?_
          simp only [go_sem, ↓reduceIte, Nat.reduceEqDiff, reduceCtorEq, Nat.reduceAdd, Nat.reduceLT, Nat.reduceLeDiff, Nat.reduceBNe, Nat.reduceBEq, Int.reduceToNat]
          refine aw_seq (aw_region (EF := EF0) hG (by rw [hN]; exact tr5_33) ?_)
          simp only [a5_33, go_sem, ↓reduceIte, Nat.reduceEqDiff, reduceCtorEq, Nat.reduceAdd, Nat.reduceLT, Nat.reduceLeDiff, Nat.reduceBNe, Nat.reduceBEq, Int.reduceToNat, htot, List.length_map, decide_true, tBk, EFq, fTrue_eq, fChkE_eq]
          (repeat' apply And.intro) <;> (try first | omega | ((fail_if_success refine idW ?_); (fail_if_success refine idS ?_); intros; (repeat' apply And.intro) <;> first | assumption | omega | (simp_all; done)))
          refine aw_ret ?_
          show Q _ _
          refine hQ _ _ (.inl rfl) ?_ ?_ ?_ <;> simp only [outφ, outV, AR.res, go_sem, ↓reduceIte, Nat.reduceEqDiff, reduceCtorEq, Nat.reduceAdd, Nat.reduceLT, Nat.reduceLeDiff, Nat.reduceBNe, Nat.reduceBEq, Int.reduceToNat, fLB2]
end Go.Proofs.Ythfmdkpfaehpnaa
