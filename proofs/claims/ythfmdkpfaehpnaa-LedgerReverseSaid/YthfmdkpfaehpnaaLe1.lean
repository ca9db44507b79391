/- Accounts and entries: what is right, both. -/
import Derived.Test.YthfmdkpfaehpnaaT5
namespace Go.Proofs.Ythfmdkpfaehpnaa
open Go Go.RowKit
set_option linter.unusedSimpArgs false
set_option linter.unusedVariables false
set_option linter.deprecated false
structure Post where
  account : List UInt8
  amount : Int
def Post.enc (x : Post) : List V := [.str x.account, .int .i64 x.amount]
theorem Post.inj (a b : Post) (h : a.enc = b.enc) : a = b := by
  obtain ⟨a_account, a_amount⟩ := a
  obtain ⟨b_account, b_amount⟩ := b
  simp only [Post.enc, List.cons.injEq, V.str.injEq, V.int.injEq, V.bool.injEq, V.agg.injEq, V.list.injEq, and_true, true_and] at h
  obtain ⟨h0, h1⟩ := h
  subst h0
  subst h1
  rfl
def Post.ok (x : Post) : Prop := x.account.length ≤ 140737488355328 ∧ inI x.amount
def Post.zero : Post := ⟨[], 0⟩
theorem Post.rows (l : List Post) : (∀ r ∈ l.map Post.enc, r.length = 2) ↔ True := iff_true_intro fun r hr => by obtain ⟨x, _, rfl⟩ := List.mem_map.1 hr; rfl
theorem Post.purs (l : List Post) : (∀ r ∈ l.map Post.enc, V.purs r = true) ↔ True := iff_true_intro fun r hr => by obtain ⟨x, _, rfl⟩ := List.mem_map.1 hr; rfl
attribute [go_sem] Post.rows Post.purs
theorem Post.mapLen (l : List Post) : (l.map Post.enc).length = l.length := List.length_map _
structure Entry where
  day : Int
  text : List UInt8
  posts : List Post
def Entry.enc (x : Entry) : List V := [.int .i64 x.day, .str x.text, .list (x.posts.map Post.enc) false]
theorem Entry.inj (a b : Entry) (h : a.enc = b.enc) : a = b := by
  obtain ⟨a_day, a_text, a_posts⟩ := a
  obtain ⟨b_day, b_text, b_posts⟩ := b
  simp only [Entry.enc, List.cons.injEq, V.str.injEq, V.int.injEq, V.bool.injEq, V.agg.injEq, V.list.injEq, and_true, true_and] at h
  obtain ⟨h0, h1, h2⟩ := h
  subst h0
  subst h1
  replace h2 := map_inj' Post.inj h2
  subst h2
  rfl
def Entry.ok (x : Entry) : Prop := inI x.day ∧ x.text.length ≤ 140737488355328 ∧ (x.posts.length ≤ 140737488355328 ∧ ∀ z ∈ x.posts, z.ok)
def Entry.zero : Entry := ⟨0, [], []⟩
theorem Entry.rows (l : List Entry) : (∀ r ∈ l.map Entry.enc, r.length = 3) ↔ True := iff_true_intro fun r hr => by obtain ⟨x, _, rfl⟩ := List.mem_map.1 hr; rfl
theorem Entry.purs (l : List Entry) : (∀ r ∈ l.map Entry.enc, V.purs r = true) ↔ True := iff_true_intro fun r hr => by obtain ⟨x, _, rfl⟩ := List.mem_map.1 hr; rfl
attribute [go_sem] Entry.rows Entry.purs
theorem Entry.mapLen (l : List Entry) : (l.map Entry.enc).length = l.length := List.length_map _
def aS (x : List UInt8) : List V := [.str x]
theorem aS_inj (a b : List UInt8) (h : aS a = aS b) : a = b := by
  simp only [aS, List.cons.injEq, V.str.injEq, V.int.injEq, V.bool.injEq, V.agg.injEq, V.list.injEq, and_true, true_and] at h
  have h0 := h
  subst h0
  rfl
def aI8 (x : Int) : List V := [.int .u8 x]
theorem aI8_inj (a b : Int) (h : aI8 a = aI8 b) : a = b := by
  simp only [aI8, List.cons.injEq, V.str.injEq, V.int.injEq, V.bool.injEq, V.agg.injEq, V.list.injEq, and_true, true_and] at h
  have h0 := h
  subst h0
  rfl
def aEn (x : Entry) : List V := [.agg x.enc]
theorem aEn_inj (a b : Entry) (h : aEn a = aEn b) : a = b := by
  simp only [aEn, List.cons.injEq, V.str.injEq, V.int.injEq, V.bool.injEq, V.agg.injEq, V.list.injEq, and_true, true_and] at h
  have h0 := h
  replace h0 := Entry.inj _ _ h0
  subst h0
  rfl
def wordB (c : Int) : Bool := (decide (65 ≤ c) && decide (c ≤ 90)) || (decide (97 ≤ c) && decide (c ≤ 122)) || (decide (48 ≤ c) && decide (c ≤ 57))
def atB (s : List UInt8) (i : Nat) : Int := ((s.getD i 0).toNat : Int)
def innB (s : List UInt8) (i : Nat) : Bool := decide (0 < i) && wordB (atB s (i - 1))
def okAt (s : List UInt8) (i : Nat) : Bool := wordB (atB s i) || (decide (atB s i = 32) && innB s i)
def accB (s : List UInt8) : Bool := decide (1 ≤ s.length) && decide (s.length ≤ 30) && (List.range s.length).all (okAt s) && innB s s.length
theorem acc_len {s : List UInt8} (h : s.length < 1 ∨ 30 < s.length) : accB s = false := by
  unfold accB
  rcases h with h | h
  · rw [decide_eq_false (by omega : ¬ 1 ≤ s.length)]; rfl
  · rw [decide_eq_false (by omega : ¬ s.length ≤ 30), Bool.and_false]; rfl
theorem acc_bad {s : List UInt8} {i : Nat} (h : i < s.length) (hb : okAt s i = false) : accB s = false := by
  have : (List.range s.length).all (okAt s) = false := List.all_eq_false.2 ⟨i, List.mem_range.2 h, by rw [hb]; decide⟩
  unfold accB
  rw [this, Bool.and_false]; rfl
theorem acc_end {s : List UInt8} (h1 : 1 ≤ s.length) (h2 : s.length ≤ 30) (h : ∀ k, k < s.length → okAt s k = true) : accB s = innB s s.length := by
  have : (List.range s.length).all (okAt s) = true := List.all_eq_true.2 fun k hk => h k (List.mem_range.1 hk)
  unfold accB
  rw [this, decide_eq_true h1, decide_eq_true h2]; rfl
def fAcc (s : List UInt8) : Prop × V := (s.length ≤ 140737488355328, .bool (accB s))
theorem fAcc_eq (s : List UInt8) : gOf aS fAcc [.str s] = (s.length ≤ 140737488355328, .bool (accB s)) := gOf_eq aS_inj s
theorem named_p : PureC Try.prog UT 28 (gOf aS fAcc) := by
  have hG := tNo_ok
  refine PureC.ofArgs aS_inj Try.func28 body28 nm28 res28 ?_
  rintro s hv
  refine ⟨by rw [nt28]; simp [aS], fun C hN Q hQ => ?_⟩
  rw [nt28] at hN
  unfold c28
  replace hv : s.length ≤ 140737488355328 := hv
  refine aw_seq (aw_region (EF := EF0) hG (by rw [hN]; exact tr28_0) ?_)
  simp only [a28_0, go_sem, ↓reduceIte, Nat.reduceEqDiff, reduceCtorEq, Nat.reduceAdd, Nat.reduceLT, Nat.reduceLeDiff, Nat.reduceBNe, Nat.reduceBEq, Int.reduceToNat, aS]
  refine aw_seq ?_
  refine aw_seq (aw_region (EF := EF0) hG (by rw [hN]; exact tr28_1) ?_)
  simp only [a28_1, go_sem, ↓reduceIte, Nat.reduceEqDiff, reduceCtorEq, Nat.reduceAdd, Nat.reduceLT, Nat.reduceLeDiff, Nat.reduceBNe, Nat.reduceBEq, Int.reduceToNat]
  (repeat' apply And.intro) <;> (try first | omega | ((fail_if_success refine idW ?_); (fail_if_success refine idS ?_); intros; (repeat' apply And.intro) <;> first | assumption | omega | (simp_all; done)))
  refine aw_cond (b := _) rfl (fun hb1 => ?_) (fun hb1 => ?_)
  · skip
    have hm : accB s = false := acc_len (by simp at hb1; omega)
    refine aw_seq (aw_region (EF := EF0) hG (by rw [hN]; exact tr28_2) ?_)
    simp only [a28_2, go_sem, ↓reduceIte, Nat.reduceEqDiff, reduceCtorEq, Nat.reduceAdd, Nat.reduceLT, Nat.reduceLeDiff, Nat.reduceBNe, Nat.reduceBEq, Int.reduceToNat]
    refine aw_ret ?_
    show Q _ _
    refine hQ _ _ (.inl rfl) ?_ ?_ ?_ <;> simp only [outφ, outV, AR.res, go_sem, ↓reduceIte, Nat.reduceEqDiff, reduceCtorEq, Nat.reduceAdd, Nat.reduceLT, Nat.reduceLeDiff, Nat.reduceBNe, Nat.reduceBEq, Int.reduceToNat, fAcc, hm]
  · skip
    have hs : 1 ≤ s.length ∧ s.length ≤ 30 := by simp at hb1; omega
    refine aw_skip ?_
    try simp only [go_sem, ↓reduceIte, Nat.reduceEqDiff, reduceCtorEq, Nat.reduceAdd, Nat.reduceLT, Nat.reduceLeDiff, Nat.reduceBNe, Nat.reduceBEq, Int.reduceToNat]
    refine aw_seq (aw_region (EF := EF0) hG (by rw [hN]; exact tr28_3) ?_)
    simp only [a28_3, go_sem, ↓reduceIte, Nat.reduceEqDiff, reduceCtorEq, Nat.reduceAdd, Nat.reduceLT, Nat.reduceLeDiff, Nat.reduceBNe, Nat.reduceBEq, Int.reduceToNat]
    refine aw_seq ?_
    refine aw_seq (aw_region (EF := EF0) hG (by rw [hN]; exact tr28_4) ?_)
    simp only [a28_4, go_sem, ↓reduceIte, Nat.reduceEqDiff, reduceCtorEq, Nat.reduceAdd, Nat.reduceLT, Nat.reduceLeDiff, Nat.reduceBNe, Nat.reduceBEq, Int.reduceToNat]
    refine aw_block ?_
    refine aw_loop (α := Nat) (fun i => (i ≤ s.length) ∧ (∀ k, k < i → okAt s k = true)) (fun i => ⟨mkE [(0, V.str s), (3, .bool (innB s i)), (16, V.int IntKind.i64 ↑s.length), (17, .int .i64 i)], mkH []⟩) (fun i => s.length - i) 0 ⟨Nat.zero_le _, fun k h => absurd h (Nat.not_lt_zero _)⟩ ?_ ?_
    · refine Le.mk _ _ ?_ ?_ rfl <;> simp only [go_sem, ↓reduceIte, Nat.reduceEqDiff, reduceCtorEq, Nat.reduceAdd, Nat.reduceLT, Nat.reduceLeDiff, Nat.reduceBNe, Nat.reduceBEq, Int.reduceToNat, innB] <;> (repeat' apply And.intro) <;> (try first | rfl | exact wk_frzb rfl rfl rfl | exact wk_fn rfl | exact .nilo _ _ _ rfl rfl | exact wk_frzm rfl rfl (fun kv hk => by obtain ⟨_, _, rfl⟩ := List.mem_map.1 hk; rfl))
    · rintro i ⟨hi, hk⟩ KL0 hKL0
      try dsimp only at *
      refine aw_seq (aw_region (EF := EF0) hG (by rw [hN]; exact tr28_5) ?_)
      simp only [a28_5, go_sem, ↓reduceIte, Nat.reduceEqDiff, reduceCtorEq, Nat.reduceAdd, Nat.reduceLT, Nat.reduceLeDiff, Nat.reduceBNe, Nat.reduceBEq, Int.reduceToNat]
      refine aw_seq ?_
      refine aw_cond (b := _) rfl (fun hb5 => ?_) (fun hb5 => ?_)
      · skip
        have hc5 : i < s.length := by simp at hb5; omega
        obtain ⟨c, hc⟩ : ∃ c, c = atB s i := ⟨_, rfl⟩
        have hc' : ((s.getD i 0).toNat : Int) = c := hc.symm
        refine aw_skip ?_
        try simp only [go_sem, ↓reduceIte, Nat.reduceEqDiff, reduceCtorEq, Nat.reduceAdd, Nat.reduceLT, Nat.reduceLeDiff, Nat.reduceBNe, Nat.reduceBEq, Int.reduceToNat]
        refine aw_seq ?_
        refine aw_block ?_
        refine aw_seq (aw_region (EF := EF0) hG (by rw [hN]; exact tr28_6) ?_)
        simp only [a28_6, go_sem, ↓reduceIte, Nat.reduceEqDiff, reduceCtorEq, Nat.reduceAdd, Nat.reduceLT, Nat.reduceLeDiff, Nat.reduceBNe, Nat.reduceBEq, Int.reduceToNat]
        refine aw_seq (aw_region (EF := EF0) hG (by rw [hN]; exact tr28_7) ?_)
        simp only [a28_7, go_sem, ↓reduceIte, Nat.reduceEqDiff, reduceCtorEq, Nat.reduceAdd, Nat.reduceLT, Nat.reduceLeDiff, Nat.reduceBNe, Nat.reduceBEq, Int.reduceToNat, hc', Int.toNat_natCast]
        (repeat' apply And.intro) <;> (try first | omega | ((fail_if_success refine idW ?_); (fail_if_success refine idS ?_); intros; (repeat' apply And.intro) <;> first | assumption | omega | (simp_all; done)))
        obtain ⟨wd, hw⟩ : ∃ w, w = wordB c := ⟨_, rfl⟩
        refine aw_seq (aw_region (EF := EF0) hG (by rw [hN]; exact tr28_8) ?_)
        simp only [a28_8, go_sem, ↓reduceIte, Nat.reduceEqDiff, reduceCtorEq, Nat.reduceAdd, Nat.reduceLT, Nat.reduceLeDiff, Nat.reduceBNe, Nat.reduceBEq, Int.reduceToNat]
        (repeat' apply And.intro) <;> (try first | omega | ((fail_if_success refine idW ?_); (fail_if_success refine idS ?_); intros; (repeat' apply And.intro) <;> first | assumption | omega | (simp_all; done)))
        refine AW.le (s' := ⟨mkE [(0, .str s), (3, .bool (innB s i)), (5, .int .u8 c), (6, .bool wd), (16, .int .i64 s.length), (17, .int .i64 i)], mkH ([])⟩) (Le.mk _ _ (by (simp only [go_sem, ↓reduceIte, Nat.reduceEqDiff, reduceCtorEq, Nat.reduceAdd, Nat.reduceLT, Nat.reduceLeDiff, Nat.reduceBNe, Nat.reduceBEq, Int.reduceToNat, hw, wordB]) <;> (repeat' apply And.intro) <;> (try first | exact wk_frzb rfl rfl rfl | rfl | exact wk_fn rfl | exact .nill _ | exact .nilo _ _ _ rfl rfl | exact wk_frz rfl (by simp only [ints_len, nats_len]) rfl (ints_pur _) | exact wk_frzm rfl rfl (fun kv hk => by obtain ⟨_, _, rfl⟩ := List.mem_map.1 hk; rfl))) (by (simp only [go_sem, ↓reduceIte, Nat.reduceEqDiff, reduceCtorEq, Nat.reduceAdd, Nat.reduceLT, Nat.reduceLeDiff, Nat.reduceBNe, Nat.reduceBEq, Int.reduceToNat, hw, wordB]) <;> (repeat' apply And.intro) <;> (try first | exact wk_frzb rfl rfl rfl | rfl | exact wk_fn rfl | exact .nill _ | exact .nilo _ _ _ rfl rfl | exact wk_frz rfl (by simp only [ints_len, nats_len]) rfl (ints_pur _) | exact wk_frzm rfl rfl (fun kv hk => by obtain ⟨_, _, rfl⟩ := List.mem_map.1 hk; rfl))) rfl) ?_
        refine aw_seq ?_
        refine aw_seq (aw_region (EF := EF0) hG (by rw [hN]; exact tr28_9) ?_)
        simp only [a28_9, go_sem, ↓reduceIte, Nat.reduceEqDiff, reduceCtorEq, Nat.reduceAdd, Nat.reduceLT, Nat.reduceLeDiff, Nat.reduceBNe, Nat.reduceBEq, Int.reduceToNat]
        (repeat' apply And.intro) <;> (try first | omega | ((fail_if_success refine idW ?_); (fail_if_success refine idS ?_); intros; (repeat' apply And.intro) <;> first | assumption | omega | (simp_all; done)) | ((cases wd <;> simp); done))
        refine aw_cond (b := _) rfl (fun hb9 => ?_) (fun hb9 => ?_)
        · skip
          have hbad : okAt s i = false := by unfold okAt; rw [← hc, ← hw]; revert hb9; cases wd <;> cases innB s i <;> simp
          refine aw_seq (aw_region (EF := EF0) hG (by rw [hN]; exact tr28_10) ?_)
          simp only [a28_10, go_sem, ↓reduceIte, Nat.reduceEqDiff, reduceCtorEq, Nat.reduceAdd, Nat.reduceLT, Nat.reduceLeDiff, Nat.reduceBNe, Nat.reduceBEq, Int.reduceToNat]
          refine aw_ret ?_
          show Q _ _
          refine hQ _ _ (.inl rfl) ?_ ?_ ?_ <;> simp only [outφ, outV, AR.res, go_sem, ↓reduceIte, Nat.reduceEqDiff, reduceCtorEq, Nat.reduceAdd, Nat.reduceLT, Nat.reduceLeDiff, Nat.reduceBNe, Nat.reduceBEq, Int.reduceToNat, fAcc, acc_bad hc5 hbad]
        · skip
          have hok : okAt s i = true := by unfold okAt; rw [← hc, ← hw]; revert hb9; cases wd <;> cases innB s i <;> simp
          have hin : wd = innB s (i + 1) := by unfold innB; rw [Nat.add_sub_cancel, ← hc, ← hw]; simp
          refine aw_skip ?_
          try simp only [go_sem, ↓reduceIte, Nat.reduceEqDiff, reduceCtorEq, Nat.reduceAdd, Nat.reduceLT, Nat.reduceLeDiff, Nat.reduceBNe, Nat.reduceBEq, Int.reduceToNat]
          refine aw_region (EF := EF0) hG (by rw [hN]; exact tr28_11) ?_
          simp only [a28_11, go_sem, ↓reduceIte, Nat.reduceEqDiff, reduceCtorEq, Nat.reduceAdd, Nat.reduceLT, Nat.reduceLeDiff, Nat.reduceBNe, Nat.reduceBEq, Int.reduceToNat]
          refine aw_region (EF := EF0) hG (by rw [hN]; exact tr28_12) ?_
          simp only [a28_12, go_sem, ↓reduceIte, Nat.reduceEqDiff, reduceCtorEq, Nat.reduceAdd, Nat.reduceLT, Nat.reduceLeDiff, Nat.reduceBNe, Nat.reduceBEq, Int.reduceToNat, inI]
          (repeat' apply And.intro) <;> (try first | omega | ((fail_if_success refine idW ?_); (fail_if_success refine idS ?_); intros; (repeat' apply And.intro) <;> first | assumption | omega | (simp_all; done)))
          refine hKL0 (i + 1) _ ?_ ?_ ?_
          · (try dsimp only); exact ⟨hc5, fun k h => by rcases Nat.lt_succ_iff_lt_or_eq.1 h with h | rfl; exact hk k h; exact hok⟩
          · (try dsimp only); omega
          · refine Le.mk _ _ ?_ ?_ rfl <;> simp only [go_sem, ↓reduceIte, Nat.reduceEqDiff, reduceCtorEq, Nat.reduceAdd, Nat.reduceLT, Nat.reduceLeDiff, Nat.reduceBNe, Nat.reduceBEq, Int.reduceToNat, hin] <;> (repeat' apply And.intro) <;> (try first | rfl | exact wk_frzb rfl rfl rfl | exact wk_fn rfl | exact .nilo _ _ _ rfl rfl | exact wk_frzm rfl rfl (fun kv hk => by obtain ⟨_, _, rfl⟩ := List.mem_map.1 hk; rfl))
      · skip
        obtain rfl : i = s.length := by simp at hb5; omega
        refine aw_exit ?_
        simp only [go_sem, ↓reduceIte, Nat.reduceEqDiff, reduceCtorEq, Nat.reduceAdd, Nat.reduceLT, Nat.reduceLeDiff, Nat.reduceBNe, Nat.reduceBEq, Int.reduceToNat]
        refine aw_seq (aw_region (EF := EF0) hG (by rw [hN]; exact tr28_13) ?_)
        simp only [a28_13, go_sem, ↓reduceIte, Nat.reduceEqDiff, reduceCtorEq, Nat.reduceAdd, Nat.reduceLT, Nat.reduceLeDiff, Nat.reduceBNe, Nat.reduceBEq, Int.reduceToNat]
        refine aw_ret ?_
        show Q _ _
        refine hQ _ _ (.inl rfl) ?_ ?_ ?_ <;> simp only [outφ, outV, AR.res, go_sem, ↓reduceIte, Nat.reduceEqDiff, reduceCtorEq, Nat.reduceAdd, Nat.reduceLT, Nat.reduceLeDiff, Nat.reduceBNe, Nat.reduceBEq, Int.reduceToNat, fAcc, acc_end hs.1 hs.2 hk]
def fLet (c : Int) : Prop × V := (True, .bool (wordB c))
theorem fLet_eq (c : Int) : gOf aI8 fLet [.int .u8 c] = (True, .bool (wordB c)) := gOf_eq aI8_inj c
theorem letter_p : PureC Try.prog UT 35 (gOf aI8 fLet) := by
  have hG := tNo_ok
  refine PureC.ofArgs aI8_inj Try.func35 body35 nm35 res35 ?_
  rintro c hv
  refine ⟨by rw [nt35]; simp [aI8], fun C hN Q hQ => ?_⟩
  rw [nt35] at hN
  unfold c35
  refine aw_seq (aw_region (EF := EF0) hG (by rw [hN]; exact tr35_0) ?_)
  simp only [a35_0, go_sem, ↓reduceIte, Nat.reduceEqDiff, reduceCtorEq, Nat.reduceAdd, Nat.reduceLT, Nat.reduceLeDiff, Nat.reduceBNe, Nat.reduceBEq, Int.reduceToNat, aI8]
  refine aw_seq (aw_region (EF := EF0) hG (by rw [hN]; exact tr35_1) ?_)
  simp only [a35_1, go_sem, ↓reduceIte, Nat.reduceEqDiff, reduceCtorEq, Nat.reduceAdd, Nat.reduceLT, Nat.reduceLeDiff, Nat.reduceBNe, Nat.reduceBEq, Int.reduceToNat]
  (repeat' apply And.intro) <;> (try first | omega | ((fail_if_success refine idW ?_); (fail_if_success refine idS ?_); intros; (repeat' apply And.intro) <;> first | assumption | omega | (simp_all; done)))
  refine aw_ret ?_
  show Q _ _
  refine hQ _ _ (.inl rfl) ?_ ?_ ?_ <;> simp only [outφ, outV, AR.res, go_sem, ↓reduceIte, Nat.reduceEqDiff, reduceCtorEq, Nat.reduceAdd, Nat.reduceLT, Nat.reduceLeDiff, Nat.reduceBNe, Nat.reduceBEq, Int.reduceToNat, fLet, wordB]
noncomputable def tAc : Tab
  | 35 => (gOf aI8 fLet)
  | _ => gNo
theorem tAc_ok : ∀ f, PureC Try.prog UT f (tAc f) := fun f => by
  unfold tAc
  split
  · exact letter_p
  · exact PureC.no
theorem word32 : wordB 32 = false := by decide
theorem acc_no {s : List UInt8} {i : Nat} (h5 : i < s.length) (hb : (!wordB (atB s i) && (!decide (atB s i = 32) || decide ((i : Int) = 0) || decide ((i : Int) = (s.length : Int) - 1) || decide (atB s (i - 1) = 32))) = true) : accB s = false := by
  simp only [Bool.and_eq_true, Bool.or_eq_true, Bool.not_eq_true', decide_eq_true_eq, decide_eq_false_iff_not] at hb
  obtain ⟨w0, h⟩ := hb
  have hok : okAt s i = (decide (atB s i = 32) && innB s i) := by unfold okAt; rw [w0]; rfl
  rcases h with ((h | h) | h) | h
  · exact acc_bad h5 (by rw [hok, decide_eq_false h]; rfl)
  · exact acc_bad h5 (by rw [hok]; unfold innB; rw [decide_eq_false (by omega : ¬ 0 < i)]; simp)
  · have e : innB s s.length = false := by
      have : s.length - 1 = i := by omega
      unfold innB; rw [this, w0, Bool.and_false]
    unfold accB; rw [e, Bool.and_false]
  · exact acc_bad h5 (by rw [hok]; unfold innB; rw [h, word32]; simp)
theorem acc_yes {s : List UInt8} {i : Nat} (h5 : i < s.length) (hk : ∀ k, k < i → okAt s k = true) (hb : (!wordB (atB s i) && (!decide (atB s i = 32) || decide ((i : Int) = 0) || decide ((i : Int) = (s.length : Int) - 1) || decide (atB s (i - 1) = 32))) = false) : okAt s i = true ∧ (i + 1 = s.length → wordB (atB s i) = true) := by
  cases hw : wordB (atB s i) with
  | true => exact ⟨by unfold okAt; rw [hw]; rfl, fun _ => rfl⟩
  | false =>
    rw [hw] at hb
    simp only [Bool.not_false, Bool.true_and, Bool.or_eq_false_iff, Bool.not_eq_false', decide_eq_true_eq, decide_eq_false_iff_not] at hb
    obtain ⟨⟨⟨h1, h2⟩, h3⟩, h4⟩ := hb
    refine ⟨?_, fun h => absurd h (by omega)⟩
    have h6 := hk (i - 1) (by omega)
    unfold okAt at h6
    rw [decide_eq_false h4, Bool.false_and, Bool.or_false] at h6
    unfold okAt innB
    rw [hw, h6, decide_eq_true h1, decide_eq_true (by omega : 0 < i)]; rfl
set_option maxHeartbeats 4000000 in
theorem account_p : PureC Try.prog UT 27 (gOf aS fAcc) := by
  have hG := tAc_ok
  refine PureC.ofArgs aS_inj Try.func27 body27 nm27 res27 ?_
  rintro s hv
  refine ⟨by rw [nt27]; simp [aS], fun C hN Q hQ => ?_⟩
  rw [nt27] at hN
  unfold c27
  replace hv : s.length ≤ 140737488355328 := hv
  refine aw_seq (aw_region (EF := EF0) hG (by rw [hN]; exact tr27_0) ?_)
  simp only [a27_0, go_sem, ↓reduceIte, Nat.reduceEqDiff, reduceCtorEq, Nat.reduceAdd, Nat.reduceLT, Nat.reduceLeDiff, Nat.reduceBNe, Nat.reduceBEq, Int.reduceToNat, aS, tAc, fLet_eq]
  refine aw_seq ?_
  refine aw_seq (aw_region (EF := EF0) hG (by rw [hN]; exact tr27_1) ?_)
  simp only [a27_1, go_sem, ↓reduceIte, Nat.reduceEqDiff, reduceCtorEq, Nat.reduceAdd, Nat.reduceLT, Nat.reduceLeDiff, Nat.reduceBNe, Nat.reduceBEq, Int.reduceToNat, tAc, fLet_eq]
  (repeat' apply And.intro) <;> (try first | omega | ((fail_if_success refine idW ?_); (fail_if_success refine idS ?_); intros; (repeat' apply And.intro) <;> first | assumption | omega | (simp_all; done)))
  refine aw_cond (b := _) rfl (fun hb1 => ?_) (fun hb1 => ?_)
  · skip
    have hm : accB s = false := acc_len (by simp at hb1; omega)
    refine aw_seq (aw_region (EF := EF0) hG (by rw [hN]; exact tr27_2) ?_)
    simp only [a27_2, go_sem, ↓reduceIte, Nat.reduceEqDiff, reduceCtorEq, Nat.reduceAdd, Nat.reduceLT, Nat.reduceLeDiff, Nat.reduceBNe, Nat.reduceBEq, Int.reduceToNat, tAc, fLet_eq]
    refine aw_ret ?_
    show Q _ _
    refine hQ _ _ (.inl rfl) ?_ ?_ ?_ <;> simp only [outφ, outV, AR.res, go_sem, ↓reduceIte, Nat.reduceEqDiff, reduceCtorEq, Nat.reduceAdd, Nat.reduceLT, Nat.reduceLeDiff, Nat.reduceBNe, Nat.reduceBEq, Int.reduceToNat, fAcc, hm]
  · skip
    have hs : 1 ≤ s.length ∧ s.length ≤ 30 := by simp at hb1; omega
    refine aw_skip ?_
    try simp only [go_sem, ↓reduceIte, Nat.reduceEqDiff, reduceCtorEq, Nat.reduceAdd, Nat.reduceLT, Nat.reduceLeDiff, Nat.reduceBNe, Nat.reduceBEq, Int.reduceToNat]
    refine aw_seq ?_
    refine aw_seq (aw_region (EF := EF0) hG (by rw [hN]; exact tr27_3) ?_)
    simp only [a27_3, go_sem, ↓reduceIte, Nat.reduceEqDiff, reduceCtorEq, Nat.reduceAdd, Nat.reduceLT, Nat.reduceLeDiff, Nat.reduceBNe, Nat.reduceBEq, Int.reduceToNat, tAc, fLet_eq]
    refine aw_block ?_
    refine aw_loop (α := Nat) (fun i => (i ≤ s.length) ∧ (∀ k, k < i → okAt s k = true) ∧ (i = s.length → wordB (atB s (i - 1)) = true)) (fun i => ⟨mkE [(0, V.str s), (3, .int .i64 i)], mkH []⟩) (fun i => s.length - i) 0 ⟨Nat.zero_le _, fun k h => absurd h (Nat.not_lt_zero _), fun h => by omega⟩ ?_ ?_
    · refine Le.mk _ _ ?_ ?_ rfl <;> simp only [go_sem, ↓reduceIte, Nat.reduceEqDiff, reduceCtorEq, Nat.reduceAdd, Nat.reduceLT, Nat.reduceLeDiff, Nat.reduceBNe, Nat.reduceBEq, Int.reduceToNat] <;> (repeat' apply And.intro) <;> (try first | rfl | exact wk_frzb rfl rfl rfl | exact wk_fn rfl | exact .nilo _ _ _ rfl rfl | exact wk_frzm rfl rfl (fun kv hk => by obtain ⟨_, _, rfl⟩ := List.mem_map.1 hk; rfl))
    · rintro i ⟨hi, hk, hl⟩ KL0 hKL0
      try dsimp only at *
      refine aw_seq ?_
      refine aw_seq (aw_region (EF := EF0) hG (by rw [hN]; exact tr27_4) ?_)
      simp only [a27_4, go_sem, ↓reduceIte, Nat.reduceEqDiff, reduceCtorEq, Nat.reduceAdd, Nat.reduceLT, Nat.reduceLeDiff, Nat.reduceBNe, Nat.reduceBEq, Int.reduceToNat, tAc, fLet_eq]
      refine aw_cond (b := _) rfl (fun hb4 => ?_) (fun hb4 => ?_)
      · skip
        have hc5 : i < s.length := by simp at hb4; omega
        obtain ⟨c, hc⟩ : ∃ c, c = atB s i := ⟨_, rfl⟩
        have hc' : ((s.getD i 0).toNat : Int) = c := hc.symm
        obtain ⟨wd, hw⟩ : ∃ w, wordB c = w := ⟨_, rfl⟩
        obtain ⟨p, hp⟩ : ∃ p, p = atB s (i - 1) := ⟨_, rfl⟩
        have hp' : ((s.getD ((i : Int) - 1).toNat 0).toNat : Int) = p := by rw [hp, show ((i : Int) - 1).toNat = i - 1 by omega]; rfl
        refine aw_skip ?_
        try simp only [go_sem, ↓reduceIte, Nat.reduceEqDiff, reduceCtorEq, Nat.reduceAdd, Nat.reduceLT, Nat.reduceLeDiff, Nat.reduceBNe, Nat.reduceBEq, Int.reduceToNat]
        refine aw_seq ?_
        refine aw_block ?_
        refine aw_seq (aw_region (EF := EF0) hG (by rw [hN]; exact tr27_6) ?_)
        simp only [a27_6, go_sem, ↓reduceIte, Nat.reduceEqDiff, reduceCtorEq, Nat.reduceAdd, Nat.reduceLT, Nat.reduceLeDiff, Nat.reduceBNe, Nat.reduceBEq, Int.reduceToNat, inI, hc', hw, hp', Int.toNat_natCast, tAc, fLet_eq]
        (repeat' apply And.intro) <;> (try first | omega | ((fail_if_success refine idW ?_); (fail_if_success refine idS ?_); intros; (repeat' apply And.intro) <;> first | assumption | omega | (simp_all; done)) | (intro h; refine ⟨h, ?_⟩; simp at h; omega))
        refine aw_cond (b := _) rfl (fun hb6 => ?_) (fun hb6 => ?_)
        · skip
          have hm : accB s = false := acc_no hc5 (by rw [← hc, hw, ← hp]; exact hb6)
          refine aw_seq (aw_region (EF := EF0) hG (by rw [hN]; exact tr27_7) ?_)
          simp only [a27_7, go_sem, ↓reduceIte, Nat.reduceEqDiff, reduceCtorEq, Nat.reduceAdd, Nat.reduceLT, Nat.reduceLeDiff, Nat.reduceBNe, Nat.reduceBEq, Int.reduceToNat, tAc, fLet_eq]
          refine aw_ret ?_
          show Q _ _
          refine hQ _ _ (.inl rfl) ?_ ?_ ?_ <;> simp only [outφ, outV, AR.res, go_sem, ↓reduceIte, Nat.reduceEqDiff, reduceCtorEq, Nat.reduceAdd, Nat.reduceLT, Nat.reduceLeDiff, Nat.reduceBNe, Nat.reduceBEq, Int.reduceToNat, fAcc, hm]
        · skip
          obtain ⟨hy1, hy2⟩ := acc_yes hc5 hk (by rw [← hc, hw, ← hp]; exact hb6)
          refine aw_skip ?_
          try simp only [go_sem, ↓reduceIte, Nat.reduceEqDiff, reduceCtorEq, Nat.reduceAdd, Nat.reduceLT, Nat.reduceLeDiff, Nat.reduceBNe, Nat.reduceBEq, Int.reduceToNat]
          refine aw_region (EF := EF0) hG (by rw [hN]; exact tr27_5) ?_
          simp only [a27_5, go_sem, ↓reduceIte, Nat.reduceEqDiff, reduceCtorEq, Nat.reduceAdd, Nat.reduceLT, Nat.reduceLeDiff, Nat.reduceBNe, Nat.reduceBEq, Int.reduceToNat, inI, tAc, fLet_eq]
          (repeat' apply And.intro) <;> (try first | omega | ((fail_if_success refine idW ?_); (fail_if_success refine idS ?_); intros; (repeat' apply And.intro) <;> first | assumption | omega | (simp_all; done)))
          refine hKL0 (i + 1) _ ?_ ?_ ?_
          · (try dsimp only); exact ⟨hc5, fun k h => by rcases Nat.lt_succ_iff_lt_or_eq.1 h with h | rfl; exact hk k h; exact hy1, hy2⟩
          · (try dsimp only); omega
          · refine Le.mk _ _ ?_ ?_ rfl <;> simp only [go_sem, ↓reduceIte, Nat.reduceEqDiff, reduceCtorEq, Nat.reduceAdd, Nat.reduceLT, Nat.reduceLeDiff, Nat.reduceBNe, Nat.reduceBEq, Int.reduceToNat] <;> (repeat' apply And.intro) <;> (try first | rfl | exact wk_frzb rfl rfl rfl | exact wk_fn rfl | exact .nilo _ _ _ rfl rfl | exact wk_frzm rfl rfl (fun kv hk => by obtain ⟨_, _, rfl⟩ := List.mem_map.1 hk; rfl))
      · skip
        obtain rfl : i = s.length := by simp at hb4; omega
        have hin : innB s s.length = true := by unfold innB; rw [hl rfl, decide_eq_true (by omega : 0 < s.length)]; rfl
        refine aw_exit ?_
        simp only [go_sem, ↓reduceIte, Nat.reduceEqDiff, reduceCtorEq, Nat.reduceAdd, Nat.reduceLT, Nat.reduceLeDiff, Nat.reduceBNe, Nat.reduceBEq, Int.reduceToNat]
        refine aw_seq (aw_region (EF := EF0) hG (by rw [hN]; exact tr27_8) ?_)
        simp only [a27_8, go_sem, ↓reduceIte, Nat.reduceEqDiff, reduceCtorEq, Nat.reduceAdd, Nat.reduceLT, Nat.reduceLeDiff, Nat.reduceBNe, Nat.reduceBEq, Int.reduceToNat, tAc, fLet_eq]
        refine aw_ret ?_
        show Q _ _
        refine hQ _ _ (.inl rfl) ?_ ?_ ?_ <;> simp only [outφ, outV, AR.res, go_sem, ↓reduceIte, Nat.reduceEqDiff, reduceCtorEq, Nat.reduceAdd, Nat.reduceLT, Nat.reduceLeDiff, Nat.reduceBNe, Nat.reduceBEq, Int.reduceToNat, fAcc, acc_end hs.1 hs.2 hk, hin]
end Go.Proofs.Ythfmdkpfaehpnaa
