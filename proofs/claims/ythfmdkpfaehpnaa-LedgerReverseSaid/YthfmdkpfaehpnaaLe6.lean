/- Post of the program. -/
import Derived.Test.YthfmdkpfaehpnaaLe5
namespace Go.Proofs.Ythfmdkpfaehpnaa
open Go Go.RowKit
set_option linter.unusedSimpArgs false
set_option linter.unusedVariables false
set_option linter.deprecated false
def aPs (x : List Post) : List V := [.list (x.map Post.enc) false]
theorem aPs_inj (a b : List Post) (h : aPs a = aPs b) : a = b := by
  simp only [aPs, List.cons.injEq, V.str.injEq, V.int.injEq, V.bool.injEq, V.agg.injEq, V.list.injEq, and_true, true_and] at h
  have h0 := h
  replace h0 := map_inj' Post.inj h0
  subst h0
  rfl
def fCln (l : List Post) : Prop × V := (l ≠ [] ∧ l.length ≤ 1000000000, .list (l.map Post.enc) false)
theorem fCln_eq (l : List Post) : gOf aPs fCln [.list (l.map Post.enc) false] = (l ≠ [] ∧ l.length ≤ 1000000000, .list (l.map Post.enc) false) := gOf_eq aPs_inj l
theorem clone_p : PureC Try.prog UT 30 (gOf aPs fCln) := by
  have hG := tNo_ok
  refine PureC.ofArgs aPs_inj Try.func30 body30 nm30 res30 ?_
  rintro l hv
  refine ⟨by rw [nt30]; simp [aPs], fun C hN Q hQ => ?_⟩
  rw [nt30] at hN
  unfold c30
  obtain ⟨h0, hl⟩ : l ≠ [] ∧ l.length ≤ 1000000000 := hv
  have hne : l.map Post.enc ≠ [] := fun e => h0 (List.map_eq_nil_iff.1 e)
  refine aw_seq (aw_region (EF := EF0) hG (by rw [hN]; exact tr30_0) ?_)
  simp only [a30_0, go_sem, ↓reduceIte, Nat.reduceEqDiff, reduceCtorEq, Nat.reduceAdd, Nat.reduceLT, Nat.reduceLeDiff, Nat.reduceBNe, Nat.reduceBEq, Int.reduceToNat, aPs]
  refine aw_seq ?_
  refine aw_seq (aw_region (EF := EF0) hG (by rw [hN]; exact tr30_1) ?_)
  simp only [a30_1, go_sem, ↓reduceIte, Nat.reduceEqDiff, reduceCtorEq, Nat.reduceAdd, Nat.reduceLT, Nat.reduceLeDiff, Nat.reduceBNe, Nat.reduceBEq, Int.reduceToNat, hne]
  refine aw_condF rfl ?_
  refine aw_skip ?_
  try simp only [go_sem, ↓reduceIte, Nat.reduceEqDiff, reduceCtorEq, Nat.reduceAdd, Nat.reduceLT, Nat.reduceLeDiff, Nat.reduceBNe, Nat.reduceBEq, Int.reduceToNat]
  refine aw_seq (aw_region (EF := EF0) hG (by rw [hN]; exact tr30_3) ?_)
  simp only [a30_3, go_sem, ↓reduceIte, Nat.reduceEqDiff, reduceCtorEq, Nat.reduceAdd, Nat.reduceLT, Nat.reduceLeDiff, Nat.reduceBNe, Nat.reduceBEq, Int.reduceToNat, List.length_map]
  (repeat' apply And.intro) <;> (try first | omega | ((fail_if_success refine idW ?_); (fail_if_success refine idS ?_); intros; (repeat' apply And.intro) <;> first | assumption | omega | (simp_all; done)))
  refine AW.le (s' := ⟨mkE [(2, .list (l.map Post.enc) false)], mkH []⟩) (Le.mk _ _ ?_ ?_ rfl) (aw_ret (hQ _ _ (.inl rfl) ?_ ?_ ?_)) <;> simp only [outφ, outV, AR.res, go_sem, ↓reduceIte, Nat.reduceEqDiff, reduceCtorEq, Nat.reduceAdd, Nat.reduceLT, Nat.reduceLeDiff, Nat.reduceBNe, Nat.reduceBEq, Int.reduceToNat, fCln]
  · exact wk_frzO rfl (by simp) rfl ((Post.purs _).2 trivial) rfl
/-! What Check says of an entry. -/
theorem chkGo_ok : ∀ {l : List Post} {s : Int}, chkGo s l = 0 → (∀ p ∈ l, accB p.account = true ∧ overB p.amount = false) ∧ s + sumP l = 0
  | [], s, h => by
    rw [chkGo] at h
    split at h
    · rename_i h0; exact ⟨fun p hp => (by cases hp), by simp [sumP, h0]⟩
    · cases h
  | p :: l, s, h => by
    rw [chkGo] at h
    split at h
    · cases h
    · rename_i h1
      split at h
      · cases h
      · rename_i h2
        obtain ⟨a1, a2⟩ := chkGo_ok h
        refine ⟨fun q hq => ?_, ?_⟩
        · rcases List.mem_cons.1 hq with rfl | hq
          · exact ⟨by simpa using h1, by simpa using h2⟩
          · exact a1 q hq
        · unfold sumP at a2 ⊢
          rw [List.map_cons, List.sum_cons]; omega
structure ChkOk (e : Entry) : Prop where
  day : dayX e.day = false
  sz : e.posts.length ≤ 2048
  ne : e.posts ≠ []
  am : AmB e.posts
  sum : sumP e.posts = 0
theorem chk_ok {e : Entry} (h : chkE e = 0) : ChkOk e := by
  unfold chkE at h
  split at h
  · cases h
  · rename_i h1
    split at h
    · cases h
    · rename_i h2
      split at h
      · cases h
      · rename_i h3
        obtain ⟨a1, a2⟩ := chkGo_ok h
        refine ⟨by simpa using h1, ?_, h3, fun p hp => over_bd (a1 p hp).2, by omega⟩
        unfold szX at h2; simp at h2; omega
theorem aput_aput {α : Type} (A : Assoc α) (k : List UInt8) (v w : α) : aput (aput A k v) k w = aput A k w := by
  induction A with
  | nil => simp [aput]
  | cons p A ih =>
    obtain ⟨a, b⟩ := p
    rw [aput, aput]
    by_cases h : a = k
    · rw [if_pos h, if_pos h, aput, if_pos rfl]
    · rw [if_neg h, if_neg h, aput, if_neg h, ih]
def wid (x : Int) : Prop := -9007199254740992 ≤ x ∧ x ≤ 9007199254740992
theorem LInv.getA_bd {l : List Post} {L : Assoc Int} (h : LInv l L) (k : List UInt8) : -1125899906842624 ≤ getA L k ∧ getA L k ≤ 1125899906842624 := by rw [h.bal]; exact wide_no (h.bd k)
theorem post_new {l m : List Post} {L A : Assoc Int} (h : LInv l L) {p : Post} (hn : (!(aget A p.account).isSome) = true) : aput (aput A p.account ((aget L p.account).getD 0)) p.account ((aget (aput A p.account ((aget L p.account).getD 0)) p.account).getD 0 + p.amount) = aftS L A p ∧ wid ((aget (aput A p.account ((aget L p.account).getD 0)) p.account).getD 0) := by
  have hnn : aget A p.account = none := by cases e : aget A p.account with | none => rfl | some v => rw [e] at hn; cases hn
  have hb := h.getA_bd p.account
  unfold getA at hb
  rw [aput_aput, aget_put, if_pos rfl]
  refine ⟨by unfold aftS; rw [hnn]; rfl, ?_⟩
  show wid ((aget L p.account).getD 0)
  unfold wid; omega
theorem post_old {l m : List Post} {L A : Assoc Int} {i : Nat} (h : LInv l L) (hA : A = aftL L (m.take i)) (hm : AmB m) (hlen : m.length ≤ 2048) {p : Post} (hn : (!(aget A p.account).isSome) = false) : aput A p.account ((aget A p.account).getD 0 + p.amount) = aftS L A p ∧ wid ((aget A p.account).getD 0) := by
  have hb := h.getA_bd p.account
  have hg := (aft_inv L (m.take i)).get p.account
  rw [← hA] at hg
  have hbb := bal_bd (l := m.take i) (fun q hq => hm q (List.mem_of_mem_take hq)) p.account
  have hl2 : (m.take i).length ≤ 2048 := by rw [List.length_take]; omega
  split at hg
  · rw [hg]
    refine ⟨by unfold aftS; rw [hg]; rfl, ?_⟩
    show wid (getA L p.account + balL (m.take i) p.account)
    unfold wid; omega
  · rw [hg] at hn; cases hn
def postC (L : Assoc Int) (e : Entry) : Int := if chkE e = 0 then (if overA (aftL L e.posts) = true then 11 else 0) else chkE e
def postE (L : Assoc Int) (es : List Entry) (e : Entry) : List Entry := if postC L e = 0 then es ++ [e] else es
def postL (L : Assoc Int) (e : Entry) : Assoc Int := if postC L e = 0 then copyL L (aftL L e.posts) else L
def EFp : Nat → Bool := fun f => f == 29
noncomputable def tPo : Tab
  | 11 => (gOf aEn fChkE)
  | 30 => (gOf aPs fCln)
  | _ => gNo
theorem tPo_ok : ∀ f, PureC Try.prog UT f (tPo f) := fun f => by
  unfold tPo
  split
  · exact check_p
  · exact clone_p
  · exact PureC.no
set_option maxHeartbeats 8000000 in
theorem post_e (es : List Entry) (L : Assoc Int) (e : Entry) (hI : LInv (pst es) L) (hok : e.ok) (hes : es.length ≤ 100000) : Eff Try.prog UT 17 (.ptr 1000 0 :: [.agg [.int .i64 e.day, .str e.text, .list (e.posts.map Post.enc) false]]) (lgO 1000 1001 1002 es L) (.int .i64 (postC L e)) (lgO 1000 1001 1002 (postE L es e) (postL L e)) := by
  have hG := tPo_ok
  obtain ⟨C', hC'⟩ : ∃ x, x = postC L e := ⟨_, rfl⟩
  obtain ⟨E', hE'⟩ : ∃ x, x = postE L es e := ⟨_, rfl⟩
  obtain ⟨L', hL'⟩ : ∃ x, x = postL L e := ⟨_, rfl⟩
  rw [← hC', ← hE', ← hL']
  obtain ⟨o1, o2, o3, o4⟩ := id hok
  have hbad : C' ≠ 0 → E' = es ∧ L' = L := fun h => by rw [hE', hL']; unfold postE postL; rw [if_neg (by rw [← hC']; exact h), if_neg (by rw [← hC']; exact h)]; exact ⟨rfl, rfl⟩
  obtain ⟨ck, hck⟩ : ∃ ck, chkE e = ck := ⟨_, rfl⟩
  refine Eff.of_aw Try.func17 body17 nm17 res17 (by rw [nt17]; simp) fun C hN Q hQ => ?_
  rw [nt17] at hN
  unfold c17
  refine aw_seq (aw_region (EF := EFp) hG (by rw [hN]; exact tr17_0) ?_)
  simp only [a17_0, go_sem, ↓reduceIte, Nat.reduceEqDiff, reduceCtorEq, Nat.reduceAdd, Nat.reduceLT, Nat.reduceLeDiff, Nat.reduceBNe, Nat.reduceBEq, Int.reduceToNat, tPo, EFp, lgO, fChkE_eq, fCln_eq, hck]
  refine aw_seq ?_
  refine aw_seq (aw_region (EF := EFp) hG (by rw [hN]; exact tr17_1) ?_)
  simp only [a17_1, go_sem, ↓reduceIte, Nat.reduceEqDiff, reduceCtorEq, Nat.reduceAdd, Nat.reduceLT, Nat.reduceLeDiff, Nat.reduceBNe, Nat.reduceBEq, Int.reduceToNat, cond_false, tPo, EFp, lgO, fChkE_eq, fCln_eq, hck]
  (repeat' apply And.intro) <;> (try first | omega | ((fail_if_success refine idW ?_); (fail_if_success refine idS ?_); intros; (repeat' apply And.intro) <;> first | assumption | omega | (simp_all; done)))
  refine aw_condF rfl ?_
  refine aw_skip ?_
  try simp only [go_sem, ↓reduceIte, Nat.reduceEqDiff, reduceCtorEq, Nat.reduceAdd, Nat.reduceLT, Nat.reduceLeDiff, Nat.reduceBNe, Nat.reduceBEq, Int.reduceToNat]
  refine aw_seq ?_
  refine aw_seq (aw_region (EF := EFp) hG (by rw [hN]; exact tr17_3) ?_)
  simp only [a17_3, go_sem, ↓reduceIte, Nat.reduceEqDiff, reduceCtorEq, Nat.reduceAdd, Nat.reduceLT, Nat.reduceLeDiff, Nat.reduceBNe, Nat.reduceBEq, Int.reduceToNat, hok, tPo, EFp, lgO, fChkE_eq, fCln_eq, hck]
  (repeat' apply And.intro) <;> (try first | omega | ((fail_if_success refine idW ?_); (fail_if_success refine idS ?_); intros; (repeat' apply And.intro) <;> first | assumption | omega | (simp_all; done)))
  refine aw_seq (aw_region (EF := EFp) hG (by rw [hN]; exact tr17_4) ?_)
  simp only [a17_4, go_sem, ↓reduceIte, Nat.reduceEqDiff, reduceCtorEq, Nat.reduceAdd, Nat.reduceLT, Nat.reduceLeDiff, Nat.reduceBNe, Nat.reduceBEq, Int.reduceToNat, tPo, EFp, lgO, fChkE_eq, fCln_eq, hck]
  refine aw_cond (b := _) rfl (fun hb4 => ?_) (fun hb4 => ?_)
  · skip
    have hck0 : ¬ chkE e = 0 := by rw [hck]; simpa using hb4
    have hCv : C' = ck := by rw [hC']; unfold postC; rw [if_neg hck0, hck]
    obtain ⟨hE2, hL2⟩ := hbad (by rw [hCv, ← hck]; exact hck0)
    subst hE2 hL2
    refine aw_seq (aw_region (EF := EFp) hG (by rw [hN]; exact tr17_5) ?_)
    simp only [a17_5, go_sem, ↓reduceIte, Nat.reduceEqDiff, reduceCtorEq, Nat.reduceAdd, Nat.reduceLT, Nat.reduceLeDiff, Nat.reduceBNe, Nat.reduceBEq, Int.reduceToNat, tPo, EFp, lgO, fChkE_eq, fCln_eq, hck]
    refine aw_ret ?_
    show Q _ _
    refine hQ _ _ ⟨mkE [(4, .int .i64 ck)], mkH (lgO 1000 1001 1002 E' L')⟩ (.inl rfl) (Le.mk _ _ ?_ ?_ rfl) rfl ?_ ?_ <;> simp only [outφ, outV, AR.res, go_sem, ↓reduceIte, Nat.reduceEqDiff, reduceCtorEq, Nat.reduceAdd, Nat.reduceLT, Nat.reduceLeDiff, Nat.reduceBNe, Nat.reduceBEq, Int.reduceToNat, lgO, hCv]
  · skip
    have hck0 : chkE e = 0 := by rw [hck]; simpa using hb4
    obtain ⟨q1, q2, q3, q4, q5⟩ := chk_ok hck0
    refine aw_skip ?_
    try simp only [go_sem, ↓reduceIte, Nat.reduceEqDiff, reduceCtorEq, Nat.reduceAdd, Nat.reduceLT, Nat.reduceLeDiff, Nat.reduceBNe, Nat.reduceBEq, Int.reduceToNat]
    refine aw_seq (aw_region (EF := EFp) hG (by rw [hN]; exact tr17_6) ?_)
    simp only [a17_6, go_sem, ↓reduceIte, Nat.reduceEqDiff, reduceCtorEq, Nat.reduceAdd, Nat.reduceLT, Nat.reduceLeDiff, Nat.reduceBNe, Nat.reduceBEq, Int.reduceToNat, tPo, EFp, lgO, fChkE_eq, fCln_eq, hck]
    refine aw_seq ?_
    refine aw_seq (aw_region (EF := EFp) hG (by rw [hN]; exact tr17_7) ?_)
    simp only [a17_7, go_sem, ↓reduceIte, Nat.reduceEqDiff, reduceCtorEq, Nat.reduceAdd, Nat.reduceLT, Nat.reduceLeDiff, Nat.reduceBNe, Nat.reduceBEq, Int.reduceToNat, List.length_map, tPo, EFp, lgO, fChkE_eq, fCln_eq, hck]
    refine aw_block ?_
    refine aw_loop (α := Nat × (Assoc Int)) (fun γ => (γ.1 ≤ e.posts.length) ∧ (γ.2 = aftL L (e.posts.take γ.1))) (fun γ => ⟨mkE [(0, V.ptr 1000 0), (3, V.ptr 3 0), (6, V.map 27), (29, V.list (List.map Post.enc e.posts) false), (30, V.int IntKind.i64 ↑e.posts.length), (31, .int .i64 γ.1)], mkH [(3, Ob.box 24 [V.int IntKind.i64 e.day, V.str e.text, V.list (List.map Post.enc e.posts) false]), (27, .mp (kmap fI8 γ.2)), (1000, Ob.box 49 [V.own 1001 es.length, V.map 1002]), (1001, Ob.arr 24 3 (List.map Entry.enc es)), (1002, Ob.mp (kmap fI8 L))]⟩) (fun γ => e.posts.length - γ.1) (0, []) ⟨Nat.zero_le _, rfl⟩ ?_ ?_
    · refine Le.mk _ _ ?_ ?_ rfl <;> simp only [go_sem, ↓reduceIte, Nat.reduceEqDiff, reduceCtorEq, Nat.reduceAdd, Nat.reduceLT, Nat.reduceLeDiff, Nat.reduceBNe, Nat.reduceBEq, Int.reduceToNat, kmap_nil] <;> (repeat' apply And.intro) <;> (try first | rfl | exact wk_frzb rfl rfl rfl | exact wk_fn rfl | exact .nilo _ _ _ rfl rfl | exact wk_frzm rfl rfl (fun kv hk => by obtain ⟨_, _, rfl⟩ := List.mem_map.1 hk; rfl))
    · rintro ⟨i, A⟩ ⟨hi, hA⟩ KL0 hKL0
      try dsimp only at *
      refine aw_seq (aw_region (EF := EFp) hG (by rw [hN]; exact tr17_8) ?_)
      simp only [a17_8, go_sem, ↓reduceIte, Nat.reduceEqDiff, reduceCtorEq, Nat.reduceAdd, Nat.reduceLT, Nat.reduceLeDiff, Nat.reduceBNe, Nat.reduceBEq, Int.reduceToNat, tPo, EFp, lgO, fChkE_eq, fCln_eq, hck]
      refine aw_seq ?_
      refine aw_cond (b := _) rfl (fun hb8 => ?_) (fun hb8 => ?_)
      · skip
        have hc : i < e.posts.length := by simp at hb8; omega
        have hsn := aftL_snoc L (e.posts.take i) e.posts[i]
        rw [← take_succ' hc, ← hA] at hsn
        have hpa := q4 e.posts[i] (List.getElem_mem _)
        obtain ⟨p, hp⟩ : ∃ p, p = e.posts[i] := ⟨_, rfl⟩
        rw [← hp] at hsn hpa
        refine aw_skip ?_
        try simp only [go_sem, ↓reduceIte, Nat.reduceEqDiff, reduceCtorEq, Nat.reduceAdd, Nat.reduceLT, Nat.reduceLeDiff, Nat.reduceBNe, Nat.reduceBEq, Int.reduceToNat]
        refine aw_seq ?_
        refine aw_block ?_
        refine aw_seq (aw_region (EF := EFp) hG (by rw [hN]; exact tr17_9) ?_)
        simp only [a17_9, go_sem, ↓reduceIte, Nat.reduceEqDiff, reduceCtorEq, Nat.reduceAdd, Nat.reduceLT, Nat.reduceLeDiff, Nat.reduceBNe, Nat.reduceBEq, Int.reduceToNat, getD_mapd _ _ _ _ hc, ← hp, Post.enc, hc, tPo, EFp, lgO, fChkE_eq, fCln_eq, hck]
        (repeat' apply And.intro) <;> (try first | omega | ((fail_if_success refine idW ?_); (fail_if_success refine idS ?_); intros; (repeat' apply And.intro) <;> first | assumption | omega | (simp_all; done)))
        refine aw_cut (α := (Assoc Int)) (fun A2 => (aput A2 p.account ((aget A2 p.account).getD 0 + p.amount) = aftS L A p) ∧ (wid ((aget A2 p.account).getD 0))) (fun A2 => ⟨mkE [(0, V.ptr 1000 0), (3, V.ptr 3 0), (6, V.map 27), (8, V.ptr 8 0), (29, V.list (List.map Post.enc e.posts) false), (30, V.int IntKind.i64 ↑e.posts.length), (31, V.int IntKind.i64 ↑i)], mkH [(3, Ob.box 24 [V.int IntKind.i64 e.day, V.str e.text, V.list (List.map Post.enc e.posts) false]), (8, Ob.box 43 [V.str p.account, V.int IntKind.i64 p.amount]), (27, .mp (kmap fI8 A2)), (1000, Ob.box 49 [V.own 1001 es.length, V.map 1002]), (1001, Ob.arr 24 3 (List.map Entry.enc es)), (1002, Ob.mp (kmap fI8 L))]⟩) ?_ ?_
        · intro KC11 hKC11
          refine aw_seq (aw_region (EF := EFp) hG (by rw [hN]; exact tr17_10) ?_)
          simp only [a17_10, go_sem, ↓reduceIte, Nat.reduceEqDiff, reduceCtorEq, Nat.reduceAdd, Nat.reduceLT, Nat.reduceLeDiff, Nat.reduceBNe, Nat.reduceBEq, Int.reduceToNat, tPo, EFp, lgO, fChkE_eq, fCln_eq, hck]
          (repeat' apply And.intro) <;> (try first | omega | ((fail_if_success refine idW ?_); (fail_if_success refine idS ?_); intros; (repeat' apply And.intro) <;> first | assumption | omega | (simp_all; done)))
          refine aw_seq (aw_region (EF := EFp) hG (by rw [hN]; exact tr17_11) ?_)
          simp only [a17_11, go_sem, ↓reduceIte, Nat.reduceEqDiff, reduceCtorEq, Nat.reduceAdd, Nat.reduceLT, Nat.reduceLeDiff, Nat.reduceBNe, Nat.reduceBEq, Int.reduceToNat, tPo, EFp, lgO, fChkE_eq, fCln_eq, hck]
          refine aw_cond (b := _) rfl (fun hb11 => ?_) (fun hb11 => ?_)
          · skip
            refine aw_regionD (EF := EFp) hG mixed (by rw [hN]; exact tr17_12) ok17_12 ?_
            simp only [a17_12, d17_12, go_sem, ↓reduceIte, Nat.reduceEqDiff, reduceCtorEq, Nat.reduceAdd, Nat.reduceLT, Nat.reduceLeDiff, Nat.reduceBNe, Nat.reduceBEq, Int.reduceToNat, tPo, EFp, lgO, fChkE_eq, fCln_eq, hck]
            (repeat' apply And.intro) <;> (try first | omega | ((fail_if_success refine idW ?_); (fail_if_success refine idS ?_); intros; (repeat' apply And.intro) <;> first | assumption | omega | (simp_all; done)))
            refine hKC11 (aput A p.account ((aget L p.account).getD 0)) _ ?_ ?_
            · (try dsimp only); exact post_new (m := []) hI hb11
            · refine Le.mk _ _ ?_ ?_ rfl <;> simp only [go_sem, ↓reduceIte, Nat.reduceEqDiff, reduceCtorEq, Nat.reduceAdd, Nat.reduceLT, Nat.reduceLeDiff, Nat.reduceBNe, Nat.reduceBEq, Int.reduceToNat] <;> (repeat' apply And.intro) <;> (try first | rfl | exact wk_frzb rfl rfl rfl | exact wk_fn rfl | exact .nilo _ _ _ rfl rfl | exact wk_frzm rfl rfl (fun kv hk => by obtain ⟨_, _, rfl⟩ := List.mem_map.1 hk; rfl))
          · skip
            refine aw_skip ?_
            try simp only [go_sem, ↓reduceIte, Nat.reduceEqDiff, reduceCtorEq, Nat.reduceAdd, Nat.reduceLT, Nat.reduceLeDiff, Nat.reduceBNe, Nat.reduceBEq, Int.reduceToNat]
            refine hKC11 (A) _ ?_ ?_
            · (try dsimp only); exact post_old hI hA q4 q2 hb11
            · refine Le.mk _ _ ?_ ?_ rfl <;> simp only [go_sem, ↓reduceIte, Nat.reduceEqDiff, reduceCtorEq, Nat.reduceAdd, Nat.reduceLT, Nat.reduceLeDiff, Nat.reduceBNe, Nat.reduceBEq, Int.reduceToNat] <;> (repeat' apply And.intro) <;> (try first | rfl | exact wk_frzb rfl rfl rfl | exact wk_fn rfl | exact .nilo _ _ _ rfl rfl | exact wk_frzm rfl rfl (fun kv hk => by obtain ⟨_, _, rfl⟩ := List.mem_map.1 hk; rfl))
        · rintro A2 ⟨h2, hw⟩
          unfold wid at hw
          refine aw_region (EF := EFp) hG (by rw [hN]; exact tr17_13) ?_
          simp only [a17_13, go_sem, ↓reduceIte, Nat.reduceEqDiff, reduceCtorEq, Nat.reduceAdd, Nat.reduceLT, Nat.reduceLeDiff, Nat.reduceBNe, Nat.reduceBEq, Int.reduceToNat, inI, tPo, EFp, lgO, fChkE_eq, fCln_eq, hck]
          (repeat' apply And.intro) <;> (try first | omega | ((fail_if_success refine idW ?_); (fail_if_success refine idS ?_); intros; (repeat' apply And.intro) <;> first | assumption | omega | (simp_all; done)))
          refine aw_region (EF := EFp) hG (by rw [hN]; exact tr17_14) ?_
          simp only [a17_14, go_sem, ↓reduceIte, Nat.reduceEqDiff, reduceCtorEq, Nat.reduceAdd, Nat.reduceLT, Nat.reduceLeDiff, Nat.reduceBNe, Nat.reduceBEq, Int.reduceToNat, inI, tPo, EFp, lgO, fChkE_eq, fCln_eq, hck]
          (repeat' apply And.intro) <;> (try first | omega | ((fail_if_success refine idW ?_); (fail_if_success refine idS ?_); intros; (repeat' apply And.intro) <;> first | assumption | omega | (simp_all; done)))
          refine hKL0 (i + 1, aftS L A p) _ ?_ ?_ ?_
          · (try dsimp only); exact ⟨hc, hsn.symm⟩
          · (try dsimp only); omega
          · refine Le.mk _ _ ?_ ?_ rfl <;> simp only [go_sem, ↓reduceIte, Nat.reduceEqDiff, reduceCtorEq, Nat.reduceAdd, Nat.reduceLT, Nat.reduceLeDiff, Nat.reduceBNe, Nat.reduceBEq, Int.reduceToNat, h2] <;> (repeat' apply And.intro) <;> (try first | rfl | exact wk_frzb rfl rfl rfl | exact wk_fn rfl | exact .nilo _ _ _ rfl rfl | exact wk_frzm rfl rfl (fun kv hk => by obtain ⟨_, _, rfl⟩ := List.mem_map.1 hk; rfl))
      · skip
        obtain rfl : i = e.posts.length := by simp at hb8; omega
        rw [List.take_length] at hA
        have hAI := aft_inv L e.posts
        rw [← hA] at hAI
        refine aw_exit ?_
        simp only [go_sem, ↓reduceIte, Nat.reduceEqDiff, reduceCtorEq, Nat.reduceAdd, Nat.reduceLT, Nat.reduceLeDiff, Nat.reduceBNe, Nat.reduceBEq, Int.reduceToNat]
        refine aw_seq ?_
        refine AW.le (s' := ⟨mkE [(0, .ptr 1000 0), (3, .ptr 3 0), (6, .fmap (kmap fI8 A))], mkH ([(1000, .box 49 [.own 1001 es.length, .map 1002]), (1001, .arr 24 3 (es.map Entry.enc)), (1002, .mp (kmap fI8 L)), (3, .box 24 [.int .i64 e.day, .str e.text, .list (e.posts.map Post.enc) false])])⟩) (Le.mk _ _ (by (simp only [go_sem, ↓reduceIte, Nat.reduceEqDiff, reduceCtorEq, Nat.reduceAdd, Nat.reduceLT, Nat.reduceLeDiff, Nat.reduceBNe, Nat.reduceBEq, Int.reduceToNat]) <;> (repeat' apply And.intro) <;> (try first | exact wk_frzb rfl rfl rfl | rfl | exact wk_fn rfl | exact .nill _ | exact .nilo _ _ _ rfl rfl | exact wk_frz rfl (by simp only [ints_len, nats_len]) rfl (ints_pur _) | exact wk_frzm rfl rfl (fun kv hk => by obtain ⟨_, _, rfl⟩ := List.mem_map.1 hk; rfl))) (by (simp only [go_sem, ↓reduceIte, Nat.reduceEqDiff, reduceCtorEq, Nat.reduceAdd, Nat.reduceLT, Nat.reduceLeDiff, Nat.reduceBNe, Nat.reduceBEq, Int.reduceToNat]) <;> (repeat' apply And.intro) <;> (try first | exact wk_frzb rfl rfl rfl | rfl | exact wk_fn rfl | exact .nill _ | exact .nilo _ _ _ rfl rfl | exact wk_frz rfl (by simp only [ints_len, nats_len]) rfl (ints_pur _) | exact wk_frzm rfl rfl (fun kv hk => by obtain ⟨_, _, rfl⟩ := List.mem_map.1 hk; rfl))) rfl) ?_
        refine aw_rangeM (EF := EFp) (l0 := (ro Try.f17 15).toList.dropLast) (o0 := (ro Try.f17 15).toList.getD 1 default) (o1 := (ro Try.f17 16).toList.getD 0 default) (o2 := (ro Try.f17 16).toList.getD 1 default) (o3 := (ro Try.f17 17).toList.getD 0 default) (l3 := (ro Try.f17 17).toList.tail) (pre := a17_15p) (aos3 := a17_17s) (tm := 62) (it := 63) (nx := 64) (more := 65) (pair := 66) (mt := 47) (es := kmap fI8 A) (α := Unit) hG hN (by kernel_rfl) tr17_15p ⟨by kernel_rfl, by kernel_rfl, by kernel_rfl⟩ Try.underlying47 (by kernel_rfl) ⟨by kernel_rfl, by kernel_rfl, by kernel_rfl⟩ ⟨by kernel_rfl, by kernel_rfl, by kernel_rfl⟩ (by kernel_rfl) ⟨by kernel_rfl, by kernel_rfl, by kernel_rfl⟩ tr17_17s (by decide) (by decide) (fun p hp => by obtain ⟨_, _, rfl⟩ := List.mem_map.1 hp; rfl) (fun done _ => (∀ q ∈ done, ∃ k n, q = (Ky.s k, V.int .i64 n) ∧ wideB n = false)) (fun _ iv => ⟨mkE [(0, .ptr 1000 0), (3, .ptr 3 0), (6, .fmap (kmap fI8 A)), (63, .pin iv)], mkH [(1000, .box 49 [.own 1001 es.length, .map 1002]), (1001, .arr 24 3 (es.map Entry.enc)), (1002, .mp (kmap fI8 L)), (3, .box 24 [.int .i64 e.day, .str e.text, .list (e.posts.map Post.enc) false])]⟩) (()) (fun _ _ => rfl) (fun q hq => nomatch hq) ?_ ?_ ?_
        · intro KRP hKRP
          simp only [a17_15p, go_sem, ↓reduceIte, Nat.reduceEqDiff, reduceCtorEq, Nat.reduceAdd, Nat.reduceLT, Nat.reduceLeDiff, Nat.reduceBNe, Nat.reduceBEq, Int.reduceToNat, tPo, EFp, lgO, fChkE_eq, fCln_eq, hck]
          refine hKRP _ ?_ (fun iv => ?_)
          · first | rfl | (simp only [go_sem, ↓reduceIte, Nat.reduceEqDiff, reduceCtorEq, Nat.reduceAdd, Nat.reduceLT, Nat.reduceLeDiff, Nat.reduceBNe, Nat.reduceBEq, Int.reduceToNat, tPo, EFp, lgO, fChkE_eq, fCln_eq, hck]; done)
          refine Le.mk _ _ ?_ ?_ rfl <;> simp only [go_sem, ↓reduceIte, Nat.reduceEqDiff, reduceCtorEq, Nat.reduceAdd, Nat.reduceLT, Nat.reduceLeDiff, Nat.reduceBNe, Nat.reduceBEq, Int.reduceToNat, tPo, EFp, lgO, fChkE_eq, fCln_eq, hck] <;> (repeat' apply And.intro) <;> (try first | rfl | exact wk_frzb rfl rfl rfl | exact wk_fn rfl | exact .nilo _ _ _ rfl rfl | exact wk_frzm rfl rfl (fun kv hk => by obtain ⟨_, _, rfl⟩ := List.mem_map.1 hk; rfl))
        · rintro C hN iv _ done p hz hpm hpn hsub KRM hKRM
          try dsimp only at *
          obtain ⟨k, v, hkv, rfl⟩ := mem_kmap.1 hpm
          simp only [a17_17s, kyV, go_sem, ↓reduceIte, Nat.reduceEqDiff, reduceCtorEq, Nat.reduceAdd, Nat.reduceLT, Nat.reduceLeDiff, Nat.reduceBNe, Nat.reduceBEq, Int.reduceToNat, tPo, EFp, lgO, fChkE_eq, fCln_eq, hck]
          refine aw_seq (aw_region (EF := EFp) hG (by rw [hN]; exact tr17_18) ?_)
          simp only [a17_18, go_sem, ↓reduceIte, Nat.reduceEqDiff, reduceCtorEq, Nat.reduceAdd, Nat.reduceLT, Nat.reduceLeDiff, Nat.reduceBNe, Nat.reduceBEq, Int.reduceToNat, tPo, EFp, lgO, fChkE_eq, fCln_eq, hck]
          (repeat' apply And.intro) <;> (try first | omega | ((fail_if_success refine idW ?_); (fail_if_success refine idS ?_); intros; (repeat' apply And.intro) <;> first | assumption | omega | (simp_all; done)))
          refine aw_cond (b := _) rfl (fun hb18 => ?_) (fun hb18 => ?_)
          · skip
            have hov : overA (aftL L e.posts) = true := by rw [← hA]; exact List.any_eq_true.2 ⟨_, hkv, hb18⟩
            have hCv : C' = 11 := by rw [hC']; unfold postC; rw [if_pos hck0, if_pos hov]
            obtain ⟨hE2, hL2⟩ := hbad (by rw [hCv]; decide)
            subst hE2 hL2
            refine aw_seq (aw_region (EF := EFp) hG (by rw [hN]; exact tr17_19) ?_)
            simp only [a17_19, go_sem, ↓reduceIte, Nat.reduceEqDiff, reduceCtorEq, Nat.reduceAdd, Nat.reduceLT, Nat.reduceLeDiff, Nat.reduceBNe, Nat.reduceBEq, Int.reduceToNat, tPo, EFp, lgO, fChkE_eq, fCln_eq, hck]
            refine aw_ret ?_
            show Q _ _
            refine hQ _ _ ⟨mkE [(4, .int .i64 11)], mkH (lgO 1000 1001 1002 E' L')⟩ (.inl rfl) (Le.mk _ _ ?_ ?_ rfl) rfl ?_ ?_ <;> simp only [outφ, outV, AR.res, go_sem, ↓reduceIte, Nat.reduceEqDiff, reduceCtorEq, Nat.reduceAdd, Nat.reduceLT, Nat.reduceLeDiff, Nat.reduceBNe, Nat.reduceBEq, Int.reduceToNat, lgO, hCv]
          · skip
            refine aw_skip ?_
            try simp only [go_sem, ↓reduceIte, Nat.reduceEqDiff, reduceCtorEq, Nat.reduceAdd, Nat.reduceLT, Nat.reduceLeDiff, Nat.reduceBNe, Nat.reduceBEq, Int.reduceToNat]
            refine hKRM (()) _ ?_ ?_
            · (try dsimp only); intro q hq2; rcases List.mem_append.1 hq2 with h | h; exact hz q h; exact ⟨k, v, by rw [List.mem_singleton.1 h], hb18⟩
            · refine Le.mk _ _ ?_ ?_ rfl <;> simp only [go_sem, ↓reduceIte, Nat.reduceEqDiff, reduceCtorEq, Nat.reduceAdd, Nat.reduceLT, Nat.reduceLeDiff, Nat.reduceBNe, Nat.reduceBEq, Int.reduceToNat] <;> (repeat' apply And.intro) <;> (try first | rfl | exact wk_frzb rfl rfl rfl | exact wk_fn rfl | exact .nilo _ _ _ rfl rfl | exact wk_frzm rfl rfl (fun kv hk => by obtain ⟨_, _, rfl⟩ := List.mem_map.1 hk; rfl))
        · rintro iv _ done hz hall
          try dsimp only at *
          have hov : overA (aftL L e.posts) = false := by rw [← hA]; exact List.any_eq_false.2 fun q hq => by obtain ⟨k, n, e1, e2⟩ := hz _ ((hall _).2 (mem_kmap.2 ⟨q.1, q.2, hq, rfl⟩)); injection e1 with e3 e4; injection e4 with _ e4; subst e4; rw [e2]; decide
          have hCv : C' = 0 := by rw [hC']; unfold postC; rw [if_pos hck0, if_neg (by rw [hov]; decide)]
          have hE2 : E' = es ++ [e] := by rw [hE']; unfold postE; rw [if_pos (by rw [← hC', hCv])]
          have hL2 : L' = copyL L A := by rw [hL']; unfold postL; rw [if_pos (by rw [← hC', hCv]), ← hA]
          simp only [go_sem, ↓reduceIte, Nat.reduceEqDiff, reduceCtorEq, Nat.reduceAdd, Nat.reduceLT, Nat.reduceLeDiff, Nat.reduceBNe, Nat.reduceBEq, Int.reduceToNat]
          refine aw_seq (aw_region (EF := EFp) hG (by rw [hN]; exact tr17_20) ?_)
          simp only [a17_20, go_sem, ↓reduceIte, Nat.reduceEqDiff, reduceCtorEq, Nat.reduceAdd, Nat.reduceLT, Nat.reduceLeDiff, Nat.reduceBNe, Nat.reduceBEq, Int.reduceToNat, tPo, EFp, lgO, fChkE_eq, fCln_eq, hck]
          refine mcopy_use hI.nd hAI.nd rfl ?_
          simp only [go_sem, ↓reduceIte, Nat.reduceEqDiff, reduceCtorEq, Nat.reduceAdd, Nat.reduceLT, Nat.reduceLeDiff, Nat.reduceBNe, Nat.reduceBEq, Int.reduceToNat]
          refine aw_seq (aw_region (EF := EFp) hG (by rw [hN]; exact tr17_21) ?_)
          simp only [a17_21, go_sem, ↓reduceIte, Nat.reduceEqDiff, reduceCtorEq, Nat.reduceAdd, Nat.reduceLT, Nat.reduceLeDiff, Nat.reduceBNe, Nat.reduceBEq, Int.reduceToNat, q3, o3, tPo, EFp, lgO, fChkE_eq, fCln_eq, hck]
          (repeat' apply And.intro) <;> (try first | omega | ((fail_if_success refine idW ?_); (fail_if_success refine idS ?_); intros; (repeat' apply And.intro) <;> first | assumption | omega | (simp_all; done)))
          refine aw_seq (aw_regionD (EF := EFp) hG mixed (by rw [hN]; exact tr17_22) ok17_22 ?_)
          simp only [a17_22, d17_22, go_sem, ↓reduceIte, Nat.reduceEqDiff, reduceCtorEq, Nat.reduceAdd, Nat.reduceLT, Nat.reduceLeDiff, Nat.reduceBNe, Nat.reduceBEq, Int.reduceToNat, List.length_map, tPo, EFp, lgO, fChkE_eq, fCln_eq, hck]
          (repeat' apply And.intro) <;> (try first | omega | ((fail_if_success refine idW ?_); (fail_if_success refine idS ?_); intros; (repeat' apply And.intro) <;> first | assumption | omega | (simp_all; done)))
          refine aw_seq (aw_region (EF := EFp) hG (by rw [hN]; exact tr17_23) ?_)
          simp only [a17_23, go_sem, ↓reduceIte, Nat.reduceEqDiff, reduceCtorEq, Nat.reduceAdd, Nat.reduceLT, Nat.reduceLeDiff, Nat.reduceBNe, Nat.reduceBEq, Int.reduceToNat, tPo, EFp, lgO, fChkE_eq, fCln_eq, hck]
          refine aw_ret ?_
          show Q _ _
          refine hQ _ _ ⟨mkE [(4, .int .i64 0)], mkH (lgO 1000 1001 1002 E' L')⟩ (.inl rfl) (Le.mk _ _ ?_ ?_ rfl) rfl ?_ ?_ <;> simp only [outφ, outV, AR.res, go_sem, ↓reduceIte, Nat.reduceEqDiff, reduceCtorEq, Nat.reduceAdd, Nat.reduceLT, Nat.reduceLeDiff, Nat.reduceBNe, Nat.reduceBEq, Int.reduceToNat, lgO, hCv]
          · exact ⟨by rw [hE2]; simp, by rw [hE2]; simp [Entry.enc], by rw [hL2]⟩
end Go.Proofs.Ythfmdkpfaehpnaa
