/- Trial of the reference; the examples. -/
import Derived.Test.YthfmdkpfaehpnaaLe8
namespace Go.Proofs.Ythfmdkpfaehpnaa
open Go Go.RowKit
set_option linter.unusedSimpArgs false
set_option linter.unusedVariables false
set_option linter.deprecated false
theorem namS_snoc (l : List Post) (p : Post) : namS (l ++ [p]) = insN (namS l) p.account := by unfold namS; rw [List.foldl_append]; rfl
theorem insN_len (k : List UInt8) : ∀ ks, (insN ks k).length ≤ ks.length + 1
  | [] => by simp [insN]
  | x :: ks => by
    have := insN_len k ks
    rw [insN]
    split
    · simp; omega
    · split <;> simp
theorem namS_len (l : List Post) : (namS l).length ≤ l.length := by
  suffices h : ∀ (m : List Post) (ks : List (List UInt8)), (m.foldl (fun ks p => insN ks p.account) ks).length ≤ ks.length + m.length by have := h l []; rw [List.length_nil, Nat.zero_add] at this; exact this
  intro m
  induction m with
  | nil => intro ks; simp
  | cons p m ih => intro ks; rw [List.foldl_cons]; have := ih (insN ks p.account); have := insN_len p.account ks; simp; omega
def EFb : Nat → Bool := fun f => f == 23
noncomputable def tRt : Tab
  | 34 => (gOf aPp fIns)
  | _ => gNo
theorem tRt_ok : ∀ f, PureC Try.prog UT f (tRt f) := fun f => by
  unfold tRt
  split
  · exact insert_p
  · exact PureC.no
set_option maxHeartbeats 4000000 in
theorem rtrial_e (es : List Entry) (hb : BalOk es) : Eff Try.prog UT 21 (.ptr 1000 0 :: []) (lrO 1000 es) (.list ((namL (namS (pst es)) (balL (pst es))).map Post.enc) false) (lrO 1000 es) := by
  have hG := tRt_ok
  obtain ⟨f, hf⟩ : ∃ f, f = balL (pst es) := ⟨_, rfl⟩
  rw [← hf]
  have hfe : ∀ k, balL (pst es) k = f k := fun k => by rw [hf]
  obtain ⟨h1, h2, h3⟩ := id hb
  refine Eff.of_aw Try.func21 body21 nm21 res21 (by rw [nt21]; simp) fun C hN Q hQ => ?_
  rw [nt21] at hN
  unfold c21
  refine aw_seq (aw_region (EF := EFb) hG (by rw [hN]; exact tr21_0) ?_)
  simp only [a21_0, go_sem, ↓reduceIte, Nat.reduceEqDiff, reduceCtorEq, Nat.reduceAdd, Nat.reduceLT, Nat.reduceLeDiff, Nat.reduceBNe, Nat.reduceBEq, Int.reduceToNat, tRt, EFb, lrO, fIns_eq]
  refine aw_seq (aw_region (EF := EFb) hG (by rw [hN]; exact tr21_1) ?_)
  simp only [a21_1, go_sem, ↓reduceIte, Nat.reduceEqDiff, reduceCtorEq, Nat.reduceAdd, Nat.reduceLT, Nat.reduceLeDiff, Nat.reduceBNe, Nat.reduceBEq, Int.reduceToNat, tRt, EFb, lrO, fIns_eq]
  refine aw_seq ?_
  refine aw_seq (aw_region (EF := EFb) hG (by rw [hN]; exact tr21_2) ?_)
  simp only [a21_2, go_sem, ↓reduceIte, Nat.reduceEqDiff, reduceCtorEq, Nat.reduceAdd, Nat.reduceLT, Nat.reduceLeDiff, Nat.reduceBNe, Nat.reduceBEq, Int.reduceToNat, tRt, EFb, lrO, fIns_eq]
  refine AW.le (s' := ⟨mkE [(0, .ptr 1000 0), (3, .list [] false), (4, .int .i64 0)], mkH ([(1000, .box 55 [.list (es.map Entry.enc) false, .bool true])])⟩) (Le.mk _ _ (by (simp only [go_sem, ↓reduceIte, Nat.reduceEqDiff, reduceCtorEq, Nat.reduceAdd, Nat.reduceLT, Nat.reduceLeDiff, Nat.reduceBNe, Nat.reduceBEq, Int.reduceToNat]) <;> (repeat' apply And.intro) <;> (try first | exact wk_frzb rfl rfl rfl | rfl | exact wk_fn rfl | exact .nill _ | exact .nilo _ _ _ rfl rfl | exact wk_frz rfl (by simp only [ints_len, nats_len]) rfl (ints_pur _) | exact wk_frzm rfl rfl (fun kv hk => by obtain ⟨_, _, rfl⟩ := List.mem_map.1 hk; rfl))) (by (simp only [go_sem, ↓reduceIte, Nat.reduceEqDiff, reduceCtorEq, Nat.reduceAdd, Nat.reduceLT, Nat.reduceLeDiff, Nat.reduceBNe, Nat.reduceBEq, Int.reduceToNat]) <;> (repeat' apply And.intro) <;> (try first | exact wk_frzb rfl rfl rfl | rfl | exact wk_fn rfl | exact .nill _ | exact .nilo _ _ _ rfl rfl | exact wk_frz rfl (by simp only [ints_len, nats_len]) rfl (ints_pur _) | exact wk_frzm rfl rfl (fun kv hk => by obtain ⟨_, _, rfl⟩ := List.mem_map.1 hk; rfl))) rfl) ?_
  refine aw_block ?_
  refine aw_loop (α := Nat) (fun i => (i ≤ es.length)) (fun i => ⟨mkE [(0, V.ptr 1000 0), (3, .list ((namL (namS (pst (es.take i))) f).map Post.enc) false), (4, .int .i64 i)], mkH [(1000, Ob.box 55 [V.list (List.map Entry.enc es) false, V.bool true])]⟩) (fun i => es.length - i) 0 (Nat.zero_le _) ?_ ?_
  · refine Le.mk _ _ ?_ ?_ rfl <;> simp only [go_sem, ↓reduceIte, Nat.reduceEqDiff, reduceCtorEq, Nat.reduceAdd, Nat.reduceLT, Nat.reduceLeDiff, Nat.reduceBNe, Nat.reduceBEq, Int.reduceToNat, List.take_zero, pst, List.flatMap_nil, namS, List.foldl_nil, namL, List.map_nil] <;> (repeat' apply And.intro) <;> (try first | rfl | exact wk_frzb rfl rfl rfl | exact wk_fn rfl | exact .nilo _ _ _ rfl rfl | exact wk_frzm rfl rfl (fun kv hk => by obtain ⟨_, _, rfl⟩ := List.mem_map.1 hk; rfl))
  · rintro i hi KL0 hKL0
    try dsimp only at *
    refine aw_seq ?_
    refine aw_seq (aw_region (EF := EFb) hG (by rw [hN]; exact tr21_3) ?_)
    simp only [a21_3, go_sem, ↓reduceIte, Nat.reduceEqDiff, reduceCtorEq, Nat.reduceAdd, Nat.reduceLT, Nat.reduceLeDiff, Nat.reduceBNe, Nat.reduceBEq, Int.reduceToNat, List.length_map, tRt, EFb, lrO, fIns_eq]
    (repeat' apply And.intro) <;> (try first | omega | ((fail_if_success refine idW ?_); (fail_if_success refine idS ?_); intros; (repeat' apply And.intro) <;> first | assumption | omega | (simp_all; done)))
    refine aw_cond (b := _) rfl (fun hb3 => ?_) (fun hb3 => ?_)
    · skip
      have hc : i < es.length := by simp at hb3; omega
      have hln := pst_len hc
      have hst := pst_take hc
      obtain ⟨e, he⟩ : ∃ e, e = es[i] := ⟨_, rfl⟩
      rw [← he] at hln hst
      obtain ⟨m, hm⟩ : ∃ m, m = pst (es.take i) := ⟨_, rfl⟩
      rw [← hm] at hln hst
      rw [← hm]
      refine aw_skip ?_
      try simp only [go_sem, ↓reduceIte, Nat.reduceEqDiff, reduceCtorEq, Nat.reduceAdd, Nat.reduceLT, Nat.reduceLeDiff, Nat.reduceBNe, Nat.reduceBEq, Int.reduceToNat]
      refine aw_seq ?_
      refine aw_block ?_
      refine aw_seq (aw_region (EF := EFb) hG (by rw [hN]; exact tr21_5) ?_)
      simp only [a21_5, go_sem, ↓reduceIte, Nat.reduceEqDiff, reduceCtorEq, Nat.reduceAdd, Nat.reduceLT, Nat.reduceLeDiff, Nat.reduceBNe, Nat.reduceBEq, Int.reduceToNat, tRt, EFb, lrO, fIns_eq]
      refine aw_block ?_
      refine aw_loop (α := Nat) (fun j => (j ≤ e.posts.length)) (fun j => ⟨mkE [(0, V.ptr 1000 0), (3, .list ((namL (namS (m ++ e.posts.take j)) f).map Post.enc) false), (4, V.int IntKind.i64 ↑i), (5, .int .i64 j)], mkH [(1000, Ob.box 55 [V.list (List.map Entry.enc es) false, V.bool true])]⟩) (fun j => e.posts.length - j) 0 (Nat.zero_le _) ?_ ?_
      · refine Le.mk _ _ ?_ ?_ rfl <;> simp only [go_sem, ↓reduceIte, Nat.reduceEqDiff, reduceCtorEq, Nat.reduceAdd, Nat.reduceLT, Nat.reduceLeDiff, Nat.reduceBNe, Nat.reduceBEq, Int.reduceToNat, List.take_zero, List.append_nil] <;> (repeat' apply And.intro) <;> (try first | rfl | exact wk_frzb rfl rfl rfl | exact wk_fn rfl | exact .nilo _ _ _ rfl rfl | exact wk_frzm rfl rfl (fun kv hk => by obtain ⟨_, _, rfl⟩ := List.mem_map.1 hk; rfl))
      · rintro j hj KL2 hKL2
        try dsimp only at *
        refine aw_seq ?_
        refine aw_seq (aw_region (EF := EFb) hG (by rw [hN]; exact tr21_6) ?_)
        simp only [a21_6, go_sem, ↓reduceIte, Nat.reduceEqDiff, reduceCtorEq, Nat.reduceAdd, Nat.reduceLT, Nat.reduceLeDiff, Nat.reduceBNe, Nat.reduceBEq, Int.reduceToNat, getD_mapd _ _ _ _ hc, ← he, Entry.enc, hc, List.length_map, tRt, EFb, lrO, fIns_eq]
        (repeat' apply And.intro) <;> (try first | omega | ((fail_if_success refine idW ?_); (fail_if_success refine idS ?_); intros; (repeat' apply And.intro) <;> first | assumption | omega | (simp_all; done)))
        refine aw_cond (b := _) rfl (fun hb6 => ?_) (fun hb6 => ?_)
        · skip
          have hc6 : j < e.posts.length := by simp at hb6; omega
          have hts := take_succ' hc6
          obtain ⟨p, hp2⟩ : ∃ p, p = e.posts[j] := ⟨_, rfl⟩
          rw [← hp2] at hts
          obtain ⟨ks, hks⟩ : ∃ ks, ks = namS (m ++ e.posts.take j) := ⟨_, rfl⟩
          have hkl : (namL ks f).length ≤ 100000000 := by unfold namL; rw [List.length_map, hks]; have := namS_len (m ++ e.posts.take j); rw [List.length_append, List.length_take] at this; omega
          have hin : insP (namL ks f) ⟨p.account, f p.account⟩ = namL (namS (m ++ e.posts.take (j + 1))) f := by rw [insP_nam, hts, ← List.append_assoc, namS_snoc, hks]
          have hins : gOf aPp fIns [.list ((namL ks f).map Post.enc) false, .agg [.str p.account, .int .i64 (f p.account)]] = ((namL ks f).length ≤ 100000000, .list ((namL (namS (m ++ e.posts.take (j + 1))) f).map Post.enc) false) := by rw [← hin]; exact fIns_eq _ ⟨p.account, f p.account⟩
          rw [← hks]
          refine aw_skip ?_
          try simp only [go_sem, ↓reduceIte, Nat.reduceEqDiff, reduceCtorEq, Nat.reduceAdd, Nat.reduceLT, Nat.reduceLeDiff, Nat.reduceBNe, Nat.reduceBEq, Int.reduceToNat]
          refine aw_seq ?_
          refine aw_block ?_
          refine aw_seq (aw_region (EF := EFb) hG (by rw [hN]; exact tr21_8) ?_)
          simp only [a21_8, go_sem, ↓reduceIte, Nat.reduceEqDiff, reduceCtorEq, Nat.reduceAdd, Nat.reduceLT, Nat.reduceLeDiff, Nat.reduceBNe, Nat.reduceBEq, Int.reduceToNat, getD_mapd _ _ _ _ hc, ← he, Entry.enc, getD_mapd _ _ _ _ hc6, ← hp2, Post.enc, hc, hc6, List.length_map, tRt, EFb, lrO, fIns_eq]
          (repeat' apply And.intro) <;> (try first | omega | ((fail_if_success refine idW ?_); (fail_if_success refine idS ?_); intros; (repeat' apply And.intro) <;> first | assumption | omega | (simp_all; done)))
          refine aw_region (EF := EFb) hG (by rw [hN]; exact tr21_9) ?_
          simp only [a21_9, go_sem, ↓reduceIte, Nat.reduceEqDiff, reduceCtorEq, Nat.reduceAdd, Nat.reduceLT, Nat.reduceLeDiff, Nat.reduceBNe, Nat.reduceBEq, Int.reduceToNat, tRt, EFb, lrO, fIns_eq]
          refine lr_use (es := es) (rbal_e es p.account hb) (fun σ => by simp [V.rens, V.ren]) (fun D => by simp [V.nins, V.nin]) (fun σ => by simp [V.ren]) (fun D => by simp [V.nin]) rfl ?_
          simp only [go_sem, ↓reduceIte, Nat.reduceEqDiff, reduceCtorEq, Nat.reduceAdd, Nat.reduceLT, Nat.reduceLeDiff, Nat.reduceBNe, Nat.reduceBEq, Int.reduceToNat, lrO, hfe, hins, hkl]
          refine aw_region (EF := EFb) hG (by rw [hN]; exact tr21_7) ?_
          simp only [a21_7, go_sem, ↓reduceIte, Nat.reduceEqDiff, reduceCtorEq, Nat.reduceAdd, Nat.reduceLT, Nat.reduceLeDiff, Nat.reduceBNe, Nat.reduceBEq, Int.reduceToNat, inI, tRt, EFb, lrO, fIns_eq]
          (repeat' apply And.intro) <;> (try first | omega | ((fail_if_success refine idW ?_); (fail_if_success refine idS ?_); intros; (repeat' apply And.intro) <;> first | assumption | omega | (simp_all; done)))
          refine hKL2 (j + 1) _ ?_ ?_ ?_
          · (try dsimp only); exact hc6
          · (try dsimp only); omega
          · refine Le.mk _ _ ?_ ?_ rfl <;> simp only [go_sem, ↓reduceIte, Nat.reduceEqDiff, reduceCtorEq, Nat.reduceAdd, Nat.reduceLT, Nat.reduceLeDiff, Nat.reduceBNe, Nat.reduceBEq, Int.reduceToNat] <;> (repeat' apply And.intro) <;> (try first | rfl | exact wk_frzb rfl rfl rfl | exact wk_fn rfl | exact .nilo _ _ _ rfl rfl | exact wk_frzm rfl rfl (fun kv hk => by obtain ⟨_, _, rfl⟩ := List.mem_map.1 hk; rfl))
        · skip
          obtain rfl : j = e.posts.length := by simp at hb6; omega
          have hbe : m ++ e.posts.take e.posts.length = pst (es.take (i + 1)) := by rw [List.take_length, hst]
          refine aw_exit ?_
          simp only [go_sem, ↓reduceIte, Nat.reduceEqDiff, reduceCtorEq, Nat.reduceAdd, Nat.reduceLT, Nat.reduceLeDiff, Nat.reduceBNe, Nat.reduceBEq, Int.reduceToNat]
          refine aw_region (EF := EFb) hG (by rw [hN]; exact tr21_4) ?_
          simp only [a21_4, go_sem, ↓reduceIte, Nat.reduceEqDiff, reduceCtorEq, Nat.reduceAdd, Nat.reduceLT, Nat.reduceLeDiff, Nat.reduceBNe, Nat.reduceBEq, Int.reduceToNat, inI, tRt, EFb, lrO, fIns_eq]
          (repeat' apply And.intro) <;> (try first | omega | ((fail_if_success refine idW ?_); (fail_if_success refine idS ?_); intros; (repeat' apply And.intro) <;> first | assumption | omega | (simp_all; done)))
          refine hKL0 (i + 1) _ ?_ ?_ ?_
          · (try dsimp only); exact hc
          · (try dsimp only); omega
          · refine Le.mk _ _ ?_ ?_ rfl <;> simp only [go_sem, ↓reduceIte, Nat.reduceEqDiff, reduceCtorEq, Nat.reduceAdd, Nat.reduceLT, Nat.reduceLeDiff, Nat.reduceBNe, Nat.reduceBEq, Int.reduceToNat, hbe] <;> (repeat' apply And.intro) <;> (try first | rfl | exact wk_frzb rfl rfl rfl | exact wk_fn rfl | exact .nilo _ _ _ rfl rfl | exact wk_frzm rfl rfl (fun kv hk => by obtain ⟨_, _, rfl⟩ := List.mem_map.1 hk; rfl))
    · skip
      obtain rfl : i = es.length := by simp at hb3; omega
      rw [List.take_length]
      refine aw_exit ?_
      simp only [go_sem, ↓reduceIte, Nat.reduceEqDiff, reduceCtorEq, Nat.reduceAdd, Nat.reduceLT, Nat.reduceLeDiff, Nat.reduceBNe, Nat.reduceBEq, Int.reduceToNat]
      refine aw_seq (aw_region (EF := EFb) hG (by rw [hN]; exact tr21_10) ?_)
      simp only [a21_10, go_sem, ↓reduceIte, Nat.reduceEqDiff, reduceCtorEq, Nat.reduceAdd, Nat.reduceLT, Nat.reduceLeDiff, Nat.reduceBNe, Nat.reduceBEq, Int.reduceToNat, tRt, EFb, lrO, fIns_eq]
      refine aw_ret ?_
      show Q _ _
      refine hQ _ _ ⟨mkE [(2, .list ((namL (namS (pst es)) f).map Post.enc) false)], mkH (lrO 1000 es)⟩ (.inl rfl) (Le.mk _ _ ?_ ?_ rfl) rfl ?_ ?_ <;> simp only [outφ, outV, AR.res, go_sem, ↓reduceIte, Nat.reduceEqDiff, reduceCtorEq, Nat.reduceAdd, Nat.reduceLT, Nat.reduceLeDiff, Nat.reduceBNe, Nat.reduceBEq, Int.reduceToNat, lrO]
/-! Examples. -/
def twoE (d : Int) (a b : List UInt8) (n : Int) : Entry := ⟨d, [116], [⟨a, n⟩, ⟨b, -n⟩]⟩
theorem two_e (d : Int) (a b : List UInt8) (n : Int) (hn : inI (-n)) : Eff Try.prog UT 26 [.int .i64 d, .str a, .str b, .int .i64 n] [] (entV (twoE d a b n)) [] := by
  have hG := tNo_ok
  unfold inI at hn
  refine Eff.of_aw Try.func26 body26 nm26 res26 (by rw [nt26]; simp) fun C hN Q hQ => ?_
  rw [nt26] at hN
  unfold c26
  refine aw_seq (aw_region (EF := EFb) hG (by rw [hN]; exact tr26_0) ?_)
  simp only [a26_0, go_sem, ↓reduceIte, Nat.reduceEqDiff, reduceCtorEq, Nat.reduceAdd, Nat.reduceLT, Nat.reduceLeDiff, Nat.reduceBNe, Nat.reduceBEq, Int.reduceToNat]
  refine aw_seq (aw_region (EF := EFb) hG (by rw [hN]; exact tr26_1) ?_)
  simp only [a26_1, go_sem, ↓reduceIte, Nat.reduceEqDiff, reduceCtorEq, Nat.reduceAdd, Nat.reduceLT, Nat.reduceLeDiff, Nat.reduceBNe, Nat.reduceBEq, Int.reduceToNat, inI]
  (repeat' apply And.intro) <;> (try first | omega | ((fail_if_success refine idW ?_); (fail_if_success refine idS ?_); intros; (repeat' apply And.intro) <;> first | assumption | omega | (simp_all; done)))
  refine aw_ret ?_
  show Q _ _
  refine hQ _ _ ⟨mkE [(8, .row [.int .i64 d, .str [116], .list [[.str a, .int .i64 n], [.str b, .int .i64 (-n)]] false] 0)], mkH ([])⟩ (.inl rfl) (Le.mk _ _ ?_ ?_ rfl) rfl ?_ ?_ <;> simp only [outφ, outV, AR.res, go_sem, ↓reduceIte, Nat.reduceEqDiff, reduceCtorEq, Nat.reduceAdd, Nat.reduceLT, Nat.reduceLeDiff, Nat.reduceBNe, Nat.reduceBEq, Int.reduceToNat, entV, twoE, List.map_cons, List.map_nil, Post.enc]
  · exact wk_frzb rfl rfl rfl
theorem two_o (d : Int) (a b : List UInt8) (n : Int) (hn : inI (-n)) : Eff Try.prog UT 26 [.int .i64 d, .str a, .str b, .int .i64 n] [] (.agg [.int .i64 d, .str [116], .own 17 2]) [(17, .arr 43 2 [[.str a, .int .i64 n], [.str b, .int .i64 (-n)]]), (8, .box 24 [.int .i64 d, .str [116], .own 17 2])] := by
  have hG := tNo_ok
  unfold inI at hn
  refine Eff.of_aw Try.func26 body26 nm26 res26 (by rw [nt26]; simp) fun C hN Q hQ => ?_
  rw [nt26] at hN
  unfold c26
  refine aw_seq (aw_region (EF := EFb) hG (by rw [hN]; exact tr26_0) ?_)
  simp only [a26_0, go_sem, ↓reduceIte, Nat.reduceEqDiff, reduceCtorEq, Nat.reduceAdd, Nat.reduceLT, Nat.reduceLeDiff, Nat.reduceBNe, Nat.reduceBEq, Int.reduceToNat]
  refine aw_seq (aw_regionO (EF := EFb) hG (by rw [hN]; exact tr26_1) ?_)
  simp only [a26_1, go_sem, ↓reduceIte, Nat.reduceEqDiff, reduceCtorEq, Nat.reduceAdd, Nat.reduceLT, Nat.reduceLeDiff, Nat.reduceBNe, Nat.reduceBEq, Int.reduceToNat, inI]
  (repeat' apply And.intro) <;> (try first | omega | ((fail_if_success refine idW ?_); (fail_if_success refine idS ?_); intros; (repeat' apply And.intro) <;> first | assumption | omega | (simp_all; done)))
  refine aw_ret ?_
  show Q _ _
  refine hQ _ _ ⟨mkE [(8, .ptr 8 0)], mkH ([(17, .arr 43 2 [[.str a, .int .i64 n], [.str b, .int .i64 (-n)]]), (8, .box 24 [.int .i64 d, .str [116], .own 17 2])])⟩ (.inl rfl) (Le.mk _ _ ?_ ?_ rfl) rfl ?_ ?_ <;> simp only [outφ, outV, AR.res, go_sem, ↓reduceIte, Nat.reduceEqDiff, reduceCtorEq, Nat.reduceAdd, Nat.reduceLT, Nat.reduceLeDiff, Nat.reduceBNe, Nat.reduceBEq, Int.reduceToNat]
end Go.Proofs.Ythfmdkpfaehpnaa
