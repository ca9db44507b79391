/- Balance, Trial and Entries of the program. -/
import Derived.Test.YthfmdkpfaehpnaaLe6
namespace Go.Proofs.Ythfmdkpfaehpnaa
open Go Go.RowKit
set_option linter.unusedSimpArgs false
set_option linter.unusedVariables false
set_option linter.deprecated false
theorem bal_e (es : List Entry) (L : Assoc Int) (k : List UInt8) : Eff Try.prog UT 22 (.ptr 1000 0 :: [.str k]) (lgO 1000 1001 1002 es L) (.int .i64 (getA L k)) (lgO 1000 1001 1002 es L) := by
  have hG := tNo_ok
  refine Eff.of_aw Try.func22 body22 nm22 res22 (by rw [nt22]; simp) fun C hN Q hQ => ?_
  rw [nt22] at hN
  unfold c22
  refine aw_seq (aw_region (EF := EF0) hG (by rw [hN]; exact tr22_0) ?_)
  simp only [a22_0, go_sem, ↓reduceIte, Nat.reduceEqDiff, reduceCtorEq, Nat.reduceAdd, Nat.reduceLT, Nat.reduceLeDiff, Nat.reduceBNe, Nat.reduceBEq, Int.reduceToNat, lgO]
  refine aw_seq ?_
  refine aw_seq (aw_region (EF := EF0) hG (by rw [hN]; exact tr22_1) ?_)
  simp only [a22_1, go_sem, ↓reduceIte, Nat.reduceEqDiff, reduceCtorEq, Nat.reduceAdd, Nat.reduceLT, Nat.reduceLeDiff, Nat.reduceBNe, Nat.reduceBEq, Int.reduceToNat, lgO]
  refine aw_condF rfl ?_
  refine aw_skip ?_
  try simp only [go_sem, ↓reduceIte, Nat.reduceEqDiff, reduceCtorEq, Nat.reduceAdd, Nat.reduceLT, Nat.reduceLeDiff, Nat.reduceBNe, Nat.reduceBEq, Int.reduceToNat]
  refine aw_seq (aw_region (EF := EF0) hG (by rw [hN]; exact tr22_3) ?_)
  simp only [a22_3, go_sem, ↓reduceIte, Nat.reduceEqDiff, reduceCtorEq, Nat.reduceAdd, Nat.reduceLT, Nat.reduceLeDiff, Nat.reduceBNe, Nat.reduceBEq, Int.reduceToNat, lgO]
  (repeat' apply And.intro) <;> (try first | omega | ((fail_if_success refine idW ?_); (fail_if_success refine idS ?_); intros; (repeat' apply And.intro) <;> first | assumption | omega | (simp_all; done)))
  refine aw_ret ?_
  show Q _ _
  refine hQ _ _ ⟨mkE [(4, .int .i64 (getA L k))], mkH (lgO 1000 1001 1002 es L)⟩ (.inl rfl) (Le.mk _ _ ?_ ?_ rfl) rfl ?_ ?_ <;> simp only [outφ, outV, AR.res, go_sem, ↓reduceIte, Nat.reduceEqDiff, reduceCtorEq, Nat.reduceAdd, Nat.reduceLT, Nat.reduceLeDiff, Nat.reduceBNe, Nat.reduceBEq, Int.reduceToNat, lgO, getA]
theorem tri_len (L : Assoc Int) : (triL L).length = (sortS (L.map (·.1))).length := by unfold triL; rw [List.length_map]
theorem tri_step {L : Assoc Int} {i : Nat} (h : i < (sortS (L.map (·.1))).length) : (triL L).take (i + 1) = (triL L).take i ++ [⟨(sortS (L.map (·.1)))[i], getA L (sortS (L.map (·.1)))[i]⟩] := by
  rw [take_succ' (by rw [tri_len]; exact h)]
  congr 1
  unfold triL
  rw [List.getElem_map]
theorem keyok {L : Assoc Int} (h1 : L.length ≤ 1000000) (h2 : ∀ k ∈ L.map (·.1), k.length ≤ 140737488355328) : KeyOk (kmap fI8 L) := by
  refine ⟨by unfold kmap; rw [List.length_map]; exact h1, fun q hq => ?_⟩
  obtain ⟨k, v, hkv, rfl⟩ := mem_kmap.1 hq
  exact ⟨rfl, h2 k (List.mem_map.2 ⟨_, hkv, rfl⟩)⟩
def EFt : Nat → Bool := fun f => f == fKeysI || f == 32
set_option maxHeartbeats 4000000 in
theorem trial_e (es : List Entry) (L : Assoc Int) (hL : L.length ≤ 1000000) (hK : ∀ k ∈ L.map (·.1), k.length ≤ 140737488355328) : Eff Try.prog UT 20 (.ptr 1000 0 :: []) (lgO 1000 1001 1002 es L) (.list ((triL L).map Post.enc) false) (lgO 1000 1001 1002 es L) := by
  have hG := tNo_ok
  have hko := keyok hL hK
  obtain ⟨T, hT⟩ : ∃ T, T = triL L := ⟨_, rfl⟩
  rw [← hT]
  have hTs := fun i h => tri_step (L := L) (i := i) h
  have hTl := tri_len L
  rw [← hT] at hTs hTl
  have hkl : (sortS (L.map (·.1))).length ≤ 1000000 := by rw [(sortS_perm _).length_eq, List.length_map]; exact hL
  obtain ⟨ks, hks⟩ : ∃ ks, ks = sortS (L.map (·.1)) := ⟨_, rfl⟩
  rw [← hks] at hTs hTl hkl
  refine Eff.of_aw Try.func20 body20 nm20 res20 (by rw [nt20]; simp) fun C hN Q hQ => ?_
  rw [nt20] at hN
  unfold c20
  refine aw_seq (aw_region (EF := EFt) hG (by rw [hN]; exact tr20_0) ?_)
  simp only [a20_0, go_sem, ↓reduceIte, Nat.reduceEqDiff, reduceCtorEq, Nat.reduceAdd, Nat.reduceLT, Nat.reduceLeDiff, Nat.reduceBNe, Nat.reduceBEq, Int.reduceToNat, EFt, fKeysI, lgO]
  refine aw_seq ?_
  refine aw_seq (aw_region (EF := EFt) hG (by rw [hN]; exact tr20_1) ?_)
  simp only [a20_1, go_sem, ↓reduceIte, Nat.reduceEqDiff, reduceCtorEq, Nat.reduceAdd, Nat.reduceLT, Nat.reduceLeDiff, Nat.reduceBNe, Nat.reduceBEq, Int.reduceToNat, EFt, fKeysI, lgO]
  refine aw_condF rfl ?_
  refine aw_skip ?_
  try simp only [go_sem, ↓reduceIte, Nat.reduceEqDiff, reduceCtorEq, Nat.reduceAdd, Nat.reduceLT, Nat.reduceLeDiff, Nat.reduceBNe, Nat.reduceBEq, Int.reduceToNat]
  refine aw_seq (aw_region (EF := EFt) hG (by rw [hN]; exact tr20_3) ?_)
  simp only [a20_3, go_sem, ↓reduceIte, Nat.reduceEqDiff, reduceCtorEq, Nat.reduceAdd, Nat.reduceLT, Nat.reduceLeDiff, Nat.reduceBNe, Nat.reduceBEq, Int.reduceToNat, EFt, fKeysI, lgO]
  refine aw_seq ?_
  refine aw_seq (aw_region (EF := EFt) hG (by rw [hN]; exact tr20_4) ?_)
  simp only [a20_4, go_sem, ↓reduceIte, Nat.reduceEqDiff, reduceCtorEq, Nat.reduceAdd, Nat.reduceLT, Nat.reduceLeDiff, Nat.reduceBNe, Nat.reduceBEq, Int.reduceToNat, EFt, fKeysI, lgO]
  refine keysO_use (L := L) 12 rfl (by decide) rfl ?_
  simp only [go_sem, ↓reduceIte, Nat.reduceEqDiff, reduceCtorEq, Nat.reduceAdd, Nat.reduceLT, Nat.reduceLeDiff, Nat.reduceBNe, Nat.reduceBEq, Int.reduceToNat, EFt]
  refine sortedO_use (L := L) hko rfl rfl (by decide) ?_
  simp only [go_sem, ↓reduceIte, Nat.reduceEqDiff, reduceCtorEq, Nat.reduceAdd, Nat.reduceLT, Nat.reduceLeDiff, Nat.reduceBNe, Nat.reduceBEq, Int.reduceToNat, strs_len]
  rw [← hks]
  refine AW.le (s' := ⟨mkE [(0, .ptr 1000 0), (3, .own 999 0), (13, .list (strs ks) false), (14, .int .i64 ks.length), (15, .int .i64 0)], mkH ([(1000, .box 49 [.own 1001 es.length, .map 1002]), (1001, .arr 24 3 (es.map Entry.enc)), (1002, .mp (kmap fI8 L)), (999, .arr 43 2 [])])⟩) (Le.mk _ _ (by (simp only [go_sem, ↓reduceIte, Nat.reduceEqDiff, reduceCtorEq, Nat.reduceAdd, Nat.reduceLT, Nat.reduceLeDiff, Nat.reduceBNe, Nat.reduceBEq, Int.reduceToNat]) <;> (repeat' apply And.intro) <;> (try first | exact wk_frzb rfl rfl rfl | rfl | exact wk_fn rfl | exact .nill _ | exact .nilo _ _ _ rfl rfl | exact wk_frz rfl (by simp only [ints_len, nats_len]) rfl (ints_pur _) | exact wk_frzm rfl rfl (fun kv hk => by obtain ⟨_, _, rfl⟩ := List.mem_map.1 hk; rfl))) (by (simp only [go_sem, ↓reduceIte, Nat.reduceEqDiff, reduceCtorEq, Nat.reduceAdd, Nat.reduceLT, Nat.reduceLeDiff, Nat.reduceBNe, Nat.reduceBEq, Int.reduceToNat]) <;> (repeat' apply And.intro) <;> (try first | exact wk_frzb rfl rfl rfl | rfl | exact wk_fn rfl | exact .nill _ | exact .nilo _ _ _ rfl rfl | exact wk_frz rfl (by simp only [ints_len, nats_len]) rfl (ints_pur _) | exact wk_frzm rfl rfl (fun kv hk => by obtain ⟨_, _, rfl⟩ := List.mem_map.1 hk; rfl))) rfl) ?_
  refine aw_block ?_
  refine aw_loop (α := Nat) (fun i => (i ≤ ks.length)) (fun i => ⟨mkE [(0, V.ptr 1000 0), (3, .own 999 i), (13, V.list (strs ks) false), (14, V.int IntKind.i64 ↑ks.length), (15, .int .i64 i)], mkH [(999, .arr 43 2 ((T.take i).map Post.enc)), (1000, Ob.box 49 [V.own 1001 es.length, V.map 1002]), (1001, Ob.arr 24 3 (List.map Entry.enc es)), (1002, Ob.mp (kmap fI8 L))]⟩) (fun i => ks.length - i) 0 (Nat.zero_le _) ?_ ?_
  · refine Le.mk _ _ ?_ ?_ rfl <;> simp only [go_sem, ↓reduceIte, Nat.reduceEqDiff, reduceCtorEq, Nat.reduceAdd, Nat.reduceLT, Nat.reduceLeDiff, Nat.reduceBNe, Nat.reduceBEq, Int.reduceToNat, List.take_zero, List.map_nil] <;> (repeat' apply And.intro) <;> (try first | rfl | exact wk_frzb rfl rfl rfl | exact wk_fn rfl | exact .nilo _ _ _ rfl rfl | exact wk_frzm rfl rfl (fun kv hk => by obtain ⟨_, _, rfl⟩ := List.mem_map.1 hk; rfl))
  · rintro i hi KL0 hKL0
    try dsimp only at *
    refine aw_seq (aw_region (EF := EFt) hG (by rw [hN]; exact tr20_5) ?_)
    simp only [a20_5, go_sem, ↓reduceIte, Nat.reduceEqDiff, reduceCtorEq, Nat.reduceAdd, Nat.reduceLT, Nat.reduceLeDiff, Nat.reduceBNe, Nat.reduceBEq, Int.reduceToNat, EFt, fKeysI, lgO]
    refine aw_seq ?_
    refine aw_cond (b := _) rfl (fun hb5 => ?_) (fun hb5 => ?_)
    · skip
      have hc : i < ks.length := by simp at hb5; omega
      have hs := hTs i hc
      obtain ⟨k, hk⟩ : ∃ k, k = ks[i] := ⟨_, rfl⟩
      rw [← hk] at hs
      have hap : (T.take i).map Post.enc ++ [[.str k, .int .i64 ((aget L k).getD 0)]] = (T.take (i + 1)).map Post.enc := by rw [hs, List.map_append]; rfl
      have hli : ((T.take i).map Post.enc).length = i := by rw [List.length_map, List.length_take]; omega
      refine aw_skip ?_
      try simp only [go_sem, ↓reduceIte, Nat.reduceEqDiff, reduceCtorEq, Nat.reduceAdd, Nat.reduceLT, Nat.reduceLeDiff, Nat.reduceBNe, Nat.reduceBEq, Int.reduceToNat]
      refine aw_seq ?_
      refine aw_block ?_
      refine aw_seq (aw_region (EF := EFt) hG (by rw [hN]; exact tr20_6) ?_)
      simp only [a20_6, go_sem, ↓reduceIte, Nat.reduceEqDiff, reduceCtorEq, Nat.reduceAdd, Nat.reduceLT, Nat.reduceLeDiff, Nat.reduceBNe, Nat.reduceBEq, Int.reduceToNat, strs_getD _ _ _ hc, ← hk, hc, strs_len, EFt, fKeysI, lgO]
      (repeat' apply And.intro) <;> (try first | omega | ((fail_if_success refine idW ?_); (fail_if_success refine idS ?_); intros; (repeat' apply And.intro) <;> first | assumption | omega | (simp_all; done)))
      refine aw_region (EF := EFt) hG (by rw [hN]; exact tr20_7) ?_
      simp only [a20_7, go_sem, ↓reduceIte, Nat.reduceEqDiff, reduceCtorEq, Nat.reduceAdd, Nat.reduceLT, Nat.reduceLeDiff, Nat.reduceBNe, Nat.reduceBEq, Int.reduceToNat, hli, EFt, fKeysI, lgO]
      (repeat' apply And.intro) <;> (try first | omega | ((fail_if_success refine idW ?_); (fail_if_success refine idS ?_); intros; (repeat' apply And.intro) <;> first | assumption | omega | (simp_all; done)))
      refine aw_region (EF := EFt) hG (by rw [hN]; exact tr20_8) ?_
      simp only [a20_8, go_sem, ↓reduceIte, Nat.reduceEqDiff, reduceCtorEq, Nat.reduceAdd, Nat.reduceLT, Nat.reduceLeDiff, Nat.reduceBNe, Nat.reduceBEq, Int.reduceToNat, inI, EFt, fKeysI, lgO]
      (repeat' apply And.intro) <;> (try first | omega | ((fail_if_success refine idW ?_); (fail_if_success refine idS ?_); intros; (repeat' apply And.intro) <;> first | assumption | omega | (simp_all; done)))
      refine hKL0 (i + 1) _ ?_ ?_ ?_
      · (try dsimp only); exact hc
      · (try dsimp only); omega
      · refine Le.mk _ _ ?_ ?_ rfl <;> simp only [go_sem, ↓reduceIte, Nat.reduceEqDiff, reduceCtorEq, Nat.reduceAdd, Nat.reduceLT, Nat.reduceLeDiff, Nat.reduceBNe, Nat.reduceBEq, Int.reduceToNat, hap] <;> (repeat' apply And.intro) <;> (try first | rfl | exact wk_frzb rfl rfl rfl | exact wk_fn rfl | exact .nilo _ _ _ rfl rfl | exact wk_frzm rfl rfl (fun kv hk => by obtain ⟨_, _, rfl⟩ := List.mem_map.1 hk; rfl))
    · skip
      obtain rfl : i = ks.length := by simp at hb5; omega
      rw [← hTl, List.take_length]
      refine aw_exit ?_
      simp only [go_sem, ↓reduceIte, Nat.reduceEqDiff, reduceCtorEq, Nat.reduceAdd, Nat.reduceLT, Nat.reduceLeDiff, Nat.reduceBNe, Nat.reduceBEq, Int.reduceToNat]
      refine aw_seq (aw_region (EF := EFt) hG (by rw [hN]; exact tr20_9) ?_)
      simp only [a20_9, go_sem, ↓reduceIte, Nat.reduceEqDiff, reduceCtorEq, Nat.reduceAdd, Nat.reduceLT, Nat.reduceLeDiff, Nat.reduceBNe, Nat.reduceBEq, Int.reduceToNat, EFt, fKeysI, lgO]
      refine aw_ret ?_
      show Q _ _
      refine hQ _ _ ⟨mkE [(2, .list (T.map Post.enc) false)], mkH (lgO 1000 1001 1002 es L)⟩ (.inl rfl) (Le.mk _ _ ?_ ?_ rfl) rfl ?_ ?_ <;> simp only [outφ, outV, AR.res, go_sem, ↓reduceIte, Nat.reduceEqDiff, reduceCtorEq, Nat.reduceAdd, Nat.reduceLT, Nat.reduceLeDiff, Nat.reduceBNe, Nat.reduceBEq, Int.reduceToNat, lgO]
      · exact wk_frzO rfl (by rw [List.length_map]) rfl ((Post.purs _).2 trivial) rfl
def inD (a b : Int) (e : Entry) : Bool := decide (a ≤ e.day) && decide (e.day ≤ b)
def entF (es : List Entry) (a b : Int) : List Entry := es.filter (inD a b)
theorem ent_step {es : List Entry} {a b : Int} {i : Nat} (h : i < es.length) : entF (es.take (i + 1)) a b = entF (es.take i) a b ++ (if inD a b es[i] = true then [es[i]] else []) := by
  unfold entF
  rw [take_succ' h, List.filter_append, List.filter_cons, List.filter_nil]
theorem ent_len (es : List Entry) (a b : Int) (i : Nat) : (entF (es.take i) a b).length ≤ i := Nat.le_trans (List.length_filter_le _ _) (by rw [List.length_take]; omega)
noncomputable def tEn : Tab
  | 30 => (gOf aPs fCln)
  | _ => gNo
theorem tEn_ok : ∀ f, PureC Try.prog UT f (tEn f) := fun f => by
  unfold tEn
  split
  · exact clone_p
  · exact PureC.no
set_option maxHeartbeats 4000000 in
theorem ents_e (es : List Entry) (L : Assoc Int) (a b : Int) (hes : es.length ≤ 100000) (hp : ∀ e ∈ es, e.posts ≠ [] ∧ e.posts.length ≤ 1000000000) : Eff Try.prog UT 24 (.ptr 1000 0 :: [.int .i64 a, .int .i64 b]) (lgO 1000 1001 1002 es L) (.list ((entF es a b).map Entry.enc) false) (lgO 1000 1001 1002 es L) := by
  have hG := tEn_ok
  refine Eff.of_aw Try.func24 body24 nm24 res24 (by rw [nt24]; simp) fun C hN Q hQ => ?_
  rw [nt24] at hN
  unfold c24
  refine aw_seq (aw_region (EF := EFt) hG (by rw [hN]; exact tr24_0) ?_)
  simp only [a24_0, go_sem, ↓reduceIte, Nat.reduceEqDiff, reduceCtorEq, Nat.reduceAdd, Nat.reduceLT, Nat.reduceLeDiff, Nat.reduceBNe, Nat.reduceBEq, Int.reduceToNat, tEn, fCln_eq, lgO]
  refine aw_seq ?_
  refine aw_seq (aw_region (EF := EFt) hG (by rw [hN]; exact tr24_1) ?_)
  simp only [a24_1, go_sem, ↓reduceIte, Nat.reduceEqDiff, reduceCtorEq, Nat.reduceAdd, Nat.reduceLT, Nat.reduceLeDiff, Nat.reduceBNe, Nat.reduceBEq, Int.reduceToNat, tEn, fCln_eq, lgO]
  refine aw_condF rfl ?_
  refine aw_skip ?_
  try simp only [go_sem, ↓reduceIte, Nat.reduceEqDiff, reduceCtorEq, Nat.reduceAdd, Nat.reduceLT, Nat.reduceLeDiff, Nat.reduceBNe, Nat.reduceBEq, Int.reduceToNat]
  refine aw_seq (aw_region (EF := EFt) hG (by rw [hN]; exact tr24_3) ?_)
  simp only [a24_3, go_sem, ↓reduceIte, Nat.reduceEqDiff, reduceCtorEq, Nat.reduceAdd, Nat.reduceLT, Nat.reduceLeDiff, Nat.reduceBNe, Nat.reduceBEq, Int.reduceToNat, tEn, fCln_eq, lgO]
  refine aw_seq ?_
  refine aw_seq (aw_region (EF := EFt) hG (by rw [hN]; exact tr24_4) ?_)
  simp only [a24_4, go_sem, ↓reduceIte, Nat.reduceEqDiff, reduceCtorEq, Nat.reduceAdd, Nat.reduceLT, Nat.reduceLeDiff, Nat.reduceBNe, Nat.reduceBEq, Int.reduceToNat, List.length_map, tEn, fCln_eq, lgO]
  refine AW.le (s' := ⟨mkE [(0, .ptr 1000 0), (1, .int .i64 a), (2, .int .i64 b), (7, .own 999 0), (15, .own 1001 es.length), (16, .int .i64 es.length), (17, .int .i64 0)], mkH ([(1000, .box 49 [.own 1001 es.length, .map 1002]), (1001, .arr 24 3 (es.map Entry.enc)), (1002, .mp (kmap fI8 L)), (999, .arr 24 3 [])])⟩) (Le.mk _ _ (by (simp only [go_sem, ↓reduceIte, Nat.reduceEqDiff, reduceCtorEq, Nat.reduceAdd, Nat.reduceLT, Nat.reduceLeDiff, Nat.reduceBNe, Nat.reduceBEq, Int.reduceToNat]) <;> (repeat' apply And.intro) <;> (try first | exact wk_frzb rfl rfl rfl | rfl | exact wk_fn rfl | exact .nill _ | exact .nilo _ _ _ rfl rfl | exact wk_frz rfl (by simp only [ints_len, nats_len]) rfl (ints_pur _) | exact wk_frzm rfl rfl (fun kv hk => by obtain ⟨_, _, rfl⟩ := List.mem_map.1 hk; rfl))) (by (simp only [go_sem, ↓reduceIte, Nat.reduceEqDiff, reduceCtorEq, Nat.reduceAdd, Nat.reduceLT, Nat.reduceLeDiff, Nat.reduceBNe, Nat.reduceBEq, Int.reduceToNat]) <;> (repeat' apply And.intro) <;> (try first | exact wk_frzb rfl rfl rfl | rfl | exact wk_fn rfl | exact .nill _ | exact .nilo _ _ _ rfl rfl | exact wk_frz rfl (by simp only [ints_len, nats_len]) rfl (ints_pur _) | exact wk_frzm rfl rfl (fun kv hk => by obtain ⟨_, _, rfl⟩ := List.mem_map.1 hk; rfl))) rfl) ?_
  refine aw_block ?_
  refine aw_loop (α := Nat × (List Entry)) (fun γ => (γ.1 ≤ es.length) ∧ (γ.2 = entF (es.take γ.1) a b)) (fun γ => ⟨mkE [(1, V.int IntKind.i64 a), (2, V.int IntKind.i64 b), (7, .own 999 γ.2.length), (15, V.own 1001 es.length), (16, V.int IntKind.i64 ↑es.length), (17, .int .i64 γ.1)], mkH [(999, .arr 24 3 (γ.2.map Entry.enc)), (1001, Ob.arr 24 3 (List.map Entry.enc es)), (1000, Ob.box 49 [V.own 1001 es.length, V.map 1002]), (1002, Ob.mp (kmap fI8 L))]⟩) (fun γ => es.length - γ.1) (0, []) ⟨Nat.zero_le _, rfl⟩ ?_ ?_
  · refine Le.mk _ _ ?_ ?_ rfl <;> simp only [go_sem, ↓reduceIte, Nat.reduceEqDiff, reduceCtorEq, Nat.reduceAdd, Nat.reduceLT, Nat.reduceLeDiff, Nat.reduceBNe, Nat.reduceBEq, Int.reduceToNat, List.map_nil, List.length_nil] <;> (repeat' apply And.intro) <;> (try first | rfl | exact wk_frzb rfl rfl rfl | exact wk_fn rfl | exact .nilo _ _ _ rfl rfl | exact wk_frzm rfl rfl (fun kv hk => by obtain ⟨_, _, rfl⟩ := List.mem_map.1 hk; rfl))
  · rintro ⟨i, o⟩ ⟨hi, ho⟩ KL0 hKL0
    try dsimp only at *
    refine aw_seq (aw_region (EF := EFt) hG (by rw [hN]; exact tr24_5) ?_)
    simp only [a24_5, go_sem, ↓reduceIte, Nat.reduceEqDiff, reduceCtorEq, Nat.reduceAdd, Nat.reduceLT, Nat.reduceLeDiff, Nat.reduceBNe, Nat.reduceBEq, Int.reduceToNat, tEn, fCln_eq, lgO]
    refine aw_seq ?_
    refine aw_cond (b := _) rfl (fun hb5 => ?_) (fun hb5 => ?_)
    · skip
      have hc : i < es.length := by simp at hb5; omega
      have hs := ent_step (a := a) (b := b) hc
      have hol := ent_len es a b i
      rw [← ho] at hs hol
      obtain ⟨hpe1, hpe2⟩ := hp es[i] (List.getElem_mem _)
      obtain ⟨e, he⟩ : ∃ e, e = es[i] := ⟨_, rfl⟩
      rw [← he] at hs hpe1 hpe2
      refine aw_skip ?_
      try simp only [go_sem, ↓reduceIte, Nat.reduceEqDiff, reduceCtorEq, Nat.reduceAdd, Nat.reduceLT, Nat.reduceLeDiff, Nat.reduceBNe, Nat.reduceBEq, Int.reduceToNat]
      refine aw_seq ?_
      refine aw_block ?_
      refine aw_seq (aw_region (EF := EFt) hG (by rw [hN]; exact tr24_6) ?_)
      simp only [a24_6, go_sem, ↓reduceIte, Nat.reduceEqDiff, reduceCtorEq, Nat.reduceAdd, Nat.reduceLT, Nat.reduceLeDiff, Nat.reduceBNe, Nat.reduceBEq, Int.reduceToNat, getD_mapd _ _ _ _ hc, ← he, Entry.enc, hc, List.length_map, tEn, fCln_eq, lgO]
      (repeat' apply And.intro) <;> (try first | omega | ((fail_if_success refine idW ?_); (fail_if_success refine idS ?_); intros; (repeat' apply And.intro) <;> first | assumption | omega | (simp_all; done)))
      refine aw_seq (aw_region (EF := EFt) hG (by rw [hN]; exact tr24_7) ?_)
      simp only [a24_7, go_sem, ↓reduceIte, Nat.reduceEqDiff, reduceCtorEq, Nat.reduceAdd, Nat.reduceLT, Nat.reduceLeDiff, Nat.reduceBNe, Nat.reduceBEq, Int.reduceToNat, tEn, fCln_eq, lgO]
      (repeat' apply And.intro) <;> (try first | omega | ((fail_if_success refine idW ?_); (fail_if_success refine idS ?_); intros; (repeat' apply And.intro) <;> first | assumption | omega | (simp_all; done)))
      refine aw_cond (b := _) rfl (fun hb7 => ?_) (fun hb7 => ?_)
      · skip
        have hin : inD a b e = true := hb7
        rw [if_pos hin] at hs
        refine aw_seq (aw_region (EF := EFt) hG (by rw [hN]; exact tr24_8) ?_)
        simp only [a24_8, go_sem, ↓reduceIte, Nat.reduceEqDiff, reduceCtorEq, Nat.reduceAdd, Nat.reduceLT, Nat.reduceLeDiff, Nat.reduceBNe, Nat.reduceBEq, Int.reduceToNat, hpe1, hpe2, tEn, fCln_eq, lgO]
        (repeat' apply And.intro) <;> (try first | omega | ((fail_if_success refine idW ?_); (fail_if_success refine idS ?_); intros; (repeat' apply And.intro) <;> first | assumption | omega | (simp_all; done)))
        refine aw_region (EF := EFt) hG (by rw [hN]; exact tr24_9) ?_
        simp only [a24_9, go_sem, ↓reduceIte, Nat.reduceEqDiff, reduceCtorEq, Nat.reduceAdd, Nat.reduceLT, Nat.reduceLeDiff, Nat.reduceBNe, Nat.reduceBEq, Int.reduceToNat, List.length_map, tEn, fCln_eq, lgO]
        (repeat' apply And.intro) <;> (try first | omega | ((fail_if_success refine idW ?_); (fail_if_success refine idS ?_); intros; (repeat' apply And.intro) <;> first | assumption | omega | (simp_all; done)))
        refine aw_region (EF := EFt) hG (by rw [hN]; exact tr24_10) ?_
        simp only [a24_10, go_sem, ↓reduceIte, Nat.reduceEqDiff, reduceCtorEq, Nat.reduceAdd, Nat.reduceLT, Nat.reduceLeDiff, Nat.reduceBNe, Nat.reduceBEq, Int.reduceToNat, inI, tEn, fCln_eq, lgO]
        (repeat' apply And.intro) <;> (try first | omega | ((fail_if_success refine idW ?_); (fail_if_success refine idS ?_); intros; (repeat' apply And.intro) <;> first | assumption | omega | (simp_all; done)))
        refine hKL0 (i + 1, o ++ [e]) _ ?_ ?_ ?_
        · (try dsimp only); exact ⟨hc, hs.symm⟩
        · (try dsimp only); omega
        · refine Le.mk _ _ ?_ ?_ rfl <;> simp only [go_sem, ↓reduceIte, Nat.reduceEqDiff, reduceCtorEq, Nat.reduceAdd, Nat.reduceLT, Nat.reduceLeDiff, Nat.reduceBNe, Nat.reduceBEq, Int.reduceToNat, List.map_append, List.map_cons, List.map_nil, Entry.enc, List.length_append, List.length_cons, List.length_nil] <;> (repeat' apply And.intro) <;> (try first | rfl | exact wk_frzb rfl rfl rfl | exact wk_fn rfl | exact .nilo _ _ _ rfl rfl | exact wk_frzm rfl rfl (fun kv hk => by obtain ⟨_, _, rfl⟩ := List.mem_map.1 hk; rfl))
      · skip
        have hin : ¬ inD a b e = true := by rw [show inD a b e = false from hb7]; decide
        rw [if_neg hin, List.append_nil] at hs
        refine aw_skip ?_
        try simp only [go_sem, ↓reduceIte, Nat.reduceEqDiff, reduceCtorEq, Nat.reduceAdd, Nat.reduceLT, Nat.reduceLeDiff, Nat.reduceBNe, Nat.reduceBEq, Int.reduceToNat]
        refine aw_region (EF := EFt) hG (by rw [hN]; exact tr24_10) ?_
        simp only [a24_10, go_sem, ↓reduceIte, Nat.reduceEqDiff, reduceCtorEq, Nat.reduceAdd, Nat.reduceLT, Nat.reduceLeDiff, Nat.reduceBNe, Nat.reduceBEq, Int.reduceToNat, inI, tEn, fCln_eq, lgO]
        (repeat' apply And.intro) <;> (try first | omega | ((fail_if_success refine idW ?_); (fail_if_success refine idS ?_); intros; (repeat' apply And.intro) <;> first | assumption | omega | (simp_all; done)))
        refine hKL0 (i + 1, o) _ ?_ ?_ ?_
        · (try dsimp only); exact ⟨hc, hs.symm⟩
        · (try dsimp only); omega
        · refine Le.mk _ _ ?_ ?_ rfl <;> simp only [go_sem, ↓reduceIte, Nat.reduceEqDiff, reduceCtorEq, Nat.reduceAdd, Nat.reduceLT, Nat.reduceLeDiff, Nat.reduceBNe, Nat.reduceBEq, Int.reduceToNat] <;> (repeat' apply And.intro) <;> (try first | rfl | exact wk_frzb rfl rfl rfl | exact wk_fn rfl | exact .nilo _ _ _ rfl rfl | exact wk_frzm rfl rfl (fun kv hk => by obtain ⟨_, _, rfl⟩ := List.mem_map.1 hk; rfl))
    · skip
      obtain rfl : i = es.length := by simp at hb5; omega
      rw [List.take_length] at ho
      refine aw_exit ?_
      simp only [go_sem, ↓reduceIte, Nat.reduceEqDiff, reduceCtorEq, Nat.reduceAdd, Nat.reduceLT, Nat.reduceLeDiff, Nat.reduceBNe, Nat.reduceBEq, Int.reduceToNat]
      refine aw_seq (aw_region (EF := EFt) hG (by rw [hN]; exact tr24_11) ?_)
      simp only [a24_11, go_sem, ↓reduceIte, Nat.reduceEqDiff, reduceCtorEq, Nat.reduceAdd, Nat.reduceLT, Nat.reduceLeDiff, Nat.reduceBNe, Nat.reduceBEq, Int.reduceToNat, tEn, fCln_eq, lgO]
      refine aw_ret ?_
      show Q _ _
      refine hQ _ _ ⟨mkE [(6, .list ((entF es a b).map Entry.enc) false)], mkH (lgO 1000 1001 1002 es L)⟩ (.inl rfl) (Le.mk _ _ ?_ ?_ rfl) rfl ?_ ?_ <;> simp only [outφ, outV, AR.res, go_sem, ↓reduceIte, Nat.reduceEqDiff, reduceCtorEq, Nat.reduceAdd, Nat.reduceLT, Nat.reduceLeDiff, Nat.reduceBNe, Nat.reduceBEq, Int.reduceToNat, lgO]
      · exact wk_frzO rfl (by rw [List.length_map]) rfl ((Entry.purs _).2 trivial) (by rw [ho])
end Go.Proofs.Ythfmdkpfaehpnaa
