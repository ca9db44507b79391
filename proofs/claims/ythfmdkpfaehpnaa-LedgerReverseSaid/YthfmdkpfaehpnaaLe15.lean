/- The statement on reverses. -/
import Derived.Test.YthfmdkpfaehpnaaLe14
namespace Go.Proofs.Ythfmdkpfaehpnaa
open Go Go.RowKit
set_option linter.unusedSimpArgs false
set_option linter.unusedVariables false
set_option linter.deprecated false
theorem balL_rev : ∀ (m : List Post) (k : List UInt8), balL (m.map revP) k = - balL m k
  | [], _ => rfl
  | p :: m, k => by
    rw [List.map_cons, balL, balL, balL_rev m k]
    show (if p.account = k then -p.amount else 0) + _ = _
    split <;> omega
theorem revP_revP (p : Post) : revP (revP p) = p := by
  obtain ⟨a, n⟩ := p
  show (⟨a, - -n⟩ : Post) = ⟨a, n⟩
  rw [Int.neg_neg]
theorem revE_revE (e : Entry) (d : Int) : revE (revE e d) e.day = e := by
  obtain ⟨a, b, c⟩ := e
  show (⟨a, b, (c.map revP).map revP⟩ : Entry) = ⟨a, b, c⟩
  rw [List.map_map]
  have : c.map (revP ∘ revP) = c := by
    conv => rhs; rw [← List.map_id c]
    exact List.map_congr_left fun p _ => revP_revP p
  rw [this]
theorem overB_neg (n : Int) : overB (-n) = overB n := by
  unfold overB
  rw [Bool.eq_iff_iff]
  simp only [Bool.or_eq_true, decide_eq_true_eq]
  omega
theorem chkGo_of : ∀ {l : List Post} {s : Int}, (∀ p ∈ l, accB p.account = true ∧ overB p.amount = false) → s + sumP l = 0 → chkGo s l = 0
  | [], s, _, h => by rw [chkGo, if_pos (by simpa [sumP] using h)]
  | p :: l, s, h1, h => by
    obtain ⟨a1, a2⟩ := h1 p (List.mem_cons_self ..)
    rw [chkGo, if_neg (by rw [a1]; decide), if_neg (by rw [a2]; decide)]
    refine chkGo_of (fun q hq => h1 q (List.mem_cons_of_mem _ hq)) ?_
    unfold sumP at h ⊢
    rw [List.map_cons, List.sum_cons] at h
    omega
theorem chk_all {e : Entry} (h : chkE e = 0) : szX e = false ∧ e.posts ≠ [] ∧ (∀ p ∈ e.posts, accB p.account = true ∧ overB p.amount = false) ∧ sumP e.posts = 0 := by
  have h0 := h
  unfold chkE at h
  split at h
  · cases h
  · split at h
    · cases h
    · rename_i h2
      split at h
      · cases h
      · rename_i h3
        obtain ⟨a1, a2⟩ := chkGo_ok h
        exact ⟨by simpa using h2, h3, a1, by omega⟩
theorem sumP_rev : ∀ m : List Post, sumP (m.map revP) = - sumP m
  | [] => rfl
  | p :: m => by
    have := sumP_rev m
    unfold sumP at *
    rw [List.map_cons, List.map_cons, List.sum_cons, List.map_cons, List.sum_cons, this]
    show -p.amount + _ = _
    omega
theorem rev_chk {e : Entry} {d : Int} (h : chkE e = 0) (h1 : 0 ≤ d) (h2 : d < 36525) : chkE (revE e d) = 0 := by
  obtain ⟨a1, a2, a3, a4⟩ := chk_all h
  rw [chkE_at (e := revE e d)]
  · refine chkGo_of (fun p hp => ?_) ?_
    · obtain ⟨q, hq, rfl⟩ := List.mem_map.1 hp
      exact ⟨(a3 q hq).1, by show overB (-q.amount) = false; rw [overB_neg]; exact (a3 q hq).2⟩
    · show 0 + sumP (e.posts.map revP) = 0
      rw [sumP_rev, a4]; rfl
  · show dayX d = false
    unfold dayX; simp; omega
  · show szX ⟨d, e.text, e.posts.map revP⟩ = false
    unfold szX at a1 ⊢
    rw [List.length_map]; exact a1
  · show e.posts.map revP ≠ []
    simpa using a2
theorem rev_ok {e : Entry} {d : Int} (hok : e.ok) (h : chkE e = 0) (hd : inI d) : (revE e d).ok := by
  have ck := chk_ok h
  refine ⟨hd, hok.2.1, by show (e.posts.map revP).length ≤ _; rw [List.length_map]; exact hok.2.2.1, fun p hp => ?_⟩
  obtain ⟨q, hq, rfl⟩ := List.mem_map.1 hp
  have := ck.am q hq
  exact ⟨(hok.2.2.2 q hq).1, by show inI (-q.amount); unfold inI; omega⟩
/-- Behind an entry its reverse can be posted, and the balances are what they were. -/
theorem rev_post {n : Nat} {es : List Entry} {L : Assoc Int} (h : RunI n es L) {e : Entry} {d : Int} (hok : e.ok) (hl : e.posts.length ≤ 10) (hc : postC L e = 0) (h1 : 0 ≤ d) (h2 : d < 36525) : postC (postL L e) (revE e d) = 0 ∧ ∀ k, getA (postL (postL L e) (revE e d)) k = getA L k := by
  obtain ⟨z1, z2⟩ := postC_z hc
  have hR := h.post hok hl
  have eE : postE L es e = es ++ [e] := by unfold postE; rw [if_pos hc]
  rw [eE] at hR
  have hch := rev_chk (d := d) z1 h1 h2
  have hbal : ∀ k, balL (pst (es ++ [e]) ++ (revE e d).posts) k = balL (pst es) k := fun k => by
    rw [pst_snoc, balL_app, balL_app]
    show _ + balL (e.posts.map revP) k = _
    rw [balL_rev]; omega
  have hov : overA (aftL (postL L e) (revE e d).posts) = false := by
    rw [over_iff hR.inv]
    refine List.any_eq_false.2 fun p hp => ?_
    rw [hbal, h.inv.bd]; decide
  have hp0 : postC (postL L e) (revE e d) = 0 := by unfold postC; rw [if_pos hch, if_neg (by rw [hov]; decide)]
  refine ⟨hp0, fun k => ?_⟩
  have hI := hR.inv.post (m := (revE e d).posts) hov
  have eL : postL (postL L e) (revE e d) = copyL (postL L e) (aftL (postL L e) (revE e d).posts) := by unfold postL at hp0 ⊢; rw [if_pos hp0]
  rw [eL, hI.bal, h.inv.bal, hbal]
def wasL (L : Assoc Int) (l : List Post) : List Int := l.map fun p => getA L p.account
theorem was_step {L : Assoc Int} {l : List Post} {i : Nat} (h : i < l.length) : wasL L (l.take (i + 1)) = wasL L (l.take i) ++ [getA L l[i].account] := by unfold wasL; rw [take_succ' h, List.map_append]; rfl
theorem rr_eq (e : Entry) (d : Int) : gOf aEd fRev [.agg [.int .i64 d, .str e.text, .list ((e.posts.map revP).map Post.enc) false], .int .i64 e.day] = (AmtOk (e.posts.map revP), .agg [.int .i64 e.day, .str e.text, .list (e.posts.map Post.enc) false]) := by
  have := fRev_eq (revE e d) e.day
  rw [revE_revE] at this
  exact this
theorem chR_eq (e : Entry) (d : Int) : gOf aEn fChkE [.agg [.int .i64 d, .str e.text, .list ((e.posts.map revP).map Post.enc) false]] = ((revE e d).ok, .int .i64 (chkE (revE e d))) := fChkE_eq (revE e d)
def aLv (x : List Entry × Entry × Int) : List V := [.list (x.1.map Entry.enc) false, .agg x.2.1.enc, .int .i64 x.2.2]
theorem aLv_inj (a b : List Entry × Entry × Int) (h : aLv a = aLv b) : a = b := by
  obtain ⟨a_l, a_e, a_d⟩ := a
  obtain ⟨b_l, b_e, b_d⟩ := b
  simp only [aLv, List.cons.injEq, V.str.injEq, V.int.injEq, V.bool.injEq, V.agg.injEq, V.list.injEq, and_true, true_and] at h
  obtain ⟨h0, h1, h2⟩ := h
  replace h0 := map_inj' Entry.inj h0
  subst h0
  replace h1 := Entry.inj _ _ h1
  subst h1
  subst h2
  rfl
def fLV (x : List Entry × Entry × Int) : Prop × V := (EsOk x.1 ∧ x.2.1.ok ∧ inI x.2.2, .bool true)
def EFv : Nat → Bool := fun f => f == 15 || f == 17 || f == 22
noncomputable def tLv : Tab
  | 9 => (gOf aUnit fTrue)
  | 11 => (gOf aEn fChkE)
  | 13 => (gOf aEd fRev)
  | 12 => (gOf aEE fSmE)
  | 22 => (gOf aLB fLB)
  | _ => gNo
theorem tLv_ok : ∀ f, PureC Try.prog UT f (tLv f) := fun f => by
  unfold tLv
  split
  · exact knows_p
  · exact check_p
  · exact reverse_p
  · exact sameE_p
  · exact balF_p
  · exact PureC.no
set_option maxHeartbeats 8000000 in
theorem lawV_p : PureC Try.prog UT 6 (gOf aLv fLV) := by
  have hG := tLv_ok
  refine PureC.ofArgs aLv_inj Try.func6 body6 nm6 res6 ?_
  rintro ⟨l, e, d⟩ hv
  refine ⟨by rw [nt6]; simp [aLv], fun C hN Q hQ => ?_⟩
  rw [nt6] at hN
  unfold c6
  obtain ⟨⟨hll, hlok⟩, hok, hd⟩ : EsOk l ∧ e.ok ∧ inI d := hv
  obtain ⟨B4, hB4⟩ : ∃ x : Ob, x = .box 24 [.int .i64 e.day, .str e.text, .list (e.posts.map Post.enc) false] := ⟨_, rfl⟩
  obtain ⟨ck, hck⟩ : ∃ ck, chkE e = ck := ⟨_, rfl⟩
  refine aw_seq (aw_region (EF := EFv) hG (by rw [hN]; exact tr6_0) ?_)
  simp only [a6_0, go_sem, ↓reduceIte, Nat.reduceEqDiff, reduceCtorEq, Nat.reduceAdd, Nat.reduceLT, Nat.reduceLeDiff, Nat.reduceBNe, Nat.reduceBEq, Int.reduceToNat, aLv, Entry.enc, tLv, EFv, fTrue_eq, fChkE_eq, hck]
  refine aw_seq (aw_region (EF := EFv) hG (by rw [hN]; exact tr6_1) ?_)
  simp only [a6_1, go_sem, ↓reduceIte, Nat.reduceEqDiff, reduceCtorEq, Nat.reduceAdd, Nat.reduceLT, Nat.reduceLeDiff, Nat.reduceBNe, Nat.reduceBEq, Int.reduceToNat, tLv, EFv, fTrue_eq, fChkE_eq, hck]
  refine new_use 500 501 502 (by decide) (by decide) (by decide) rfl rfl rfl (by decide) (by decide) (by decide) ?_
  simp only [go_sem, ↓reduceIte, Nat.reduceEqDiff, reduceCtorEq, Nat.reduceAdd, Nat.reduceLT, Nat.reduceLeDiff, Nat.reduceBNe, Nat.reduceBEq, Int.reduceToNat]
  refine AW.le (s' := ⟨mkE [(0, .list (l.map Entry.enc) false), (2, .int .i64 d), (4, .ptr 4 0), (7, .ptr 500 0)], mkH ((4, .box 24 [.int .i64 e.day, .str e.text, .list (e.posts.map Post.enc) false]) :: lgO 500 501 502 [] [])⟩) (Le.mk _ _ (by (simp only [go_sem, ↓reduceIte, Nat.reduceEqDiff, reduceCtorEq, Nat.reduceAdd, Nat.reduceLT, Nat.reduceLeDiff, Nat.reduceBNe, Nat.reduceBEq, Int.reduceToNat, lgO]) <;> (repeat' apply And.intro) <;> (try first | exact wk_frzb rfl rfl rfl | rfl | exact wk_fn rfl | exact .nill _ | exact .nilo _ _ _ rfl rfl | exact wk_frz rfl (by simp only [ints_len, nats_len]) rfl (ints_pur _) | exact wk_frzm rfl rfl (fun kv hk => by obtain ⟨_, _, rfl⟩ := List.mem_map.1 hk; rfl))) (by (simp only [go_sem, ↓reduceIte, Nat.reduceEqDiff, reduceCtorEq, Nat.reduceAdd, Nat.reduceLT, Nat.reduceLeDiff, Nat.reduceBNe, Nat.reduceBEq, Int.reduceToNat, lgO]) <;> (repeat' apply And.intro) <;> (try first | exact wk_frzb rfl rfl rfl | rfl | exact wk_fn rfl | exact .nill _ | exact .nilo _ _ _ rfl rfl | exact wk_frz rfl (by simp only [ints_len, nats_len]) rfl (ints_pur _) | exact wk_frzm rfl rfl (fun kv hk => by obtain ⟨_, _, rfl⟩ := List.mem_map.1 hk; rfl))) rfl) ?_
  refine aw_seq ?_
  refine aw_seq (aw_region (EF := EFv) hG (by rw [hN]; exact tr6_2) ?_)
  simp only [a6_2, go_sem, ↓reduceIte, Nat.reduceEqDiff, reduceCtorEq, Nat.reduceAdd, Nat.reduceLT, Nat.reduceLeDiff, Nat.reduceBNe, Nat.reduceBEq, Int.reduceToNat, lgO, List.length_map, cond_false, cond_true, tLv, EFv, fTrue_eq, fChkE_eq, hck]
  (repeat' apply And.intro) <;> (try first | omega | ((fail_if_success refine idW ?_); (fail_if_success refine idS ?_); intros; (repeat' apply And.intro) <;> first | assumption | omega | (simp_all; done)))
  refine aw_cond (b := _) rfl (fun hb2 => ?_) (fun hb2 => ?_)
  · skip
    refine aw_seq (aw_region (EF := EFv) hG (by rw [hN]; exact tr6_3) ?_)
    simp only [a6_3, go_sem, ↓reduceIte, Nat.reduceEqDiff, reduceCtorEq, Nat.reduceAdd, Nat.reduceLT, Nat.reduceLeDiff, Nat.reduceBNe, Nat.reduceBEq, Int.reduceToNat, lgO, tLv, EFv, fTrue_eq, fChkE_eq, hck]
    (repeat' apply And.intro) <;> (try first | omega | ((fail_if_success refine idW ?_); (fail_if_success refine idS ?_); intros; (repeat' apply And.intro) <;> first | assumption | omega | (simp_all; done)))
    refine aw_ret ?_
    show Q _ _
    refine hQ _ _ (.inl rfl) ?_ ?_ ?_ <;> simp only [outφ, outV, AR.res, go_sem, ↓reduceIte, Nat.reduceEqDiff, reduceCtorEq, Nat.reduceAdd, Nat.reduceLT, Nat.reduceLeDiff, Nat.reduceBNe, Nat.reduceBEq, Int.reduceToNat, fLV]
  · skip
    have hl10 : e.posts.length ≤ 10 := by simp at hb2; omega
    refine aw_skip ?_
    try simp only [go_sem, ↓reduceIte, Nat.reduceEqDiff, reduceCtorEq, Nat.reduceAdd, Nat.reduceLT, Nat.reduceLeDiff, Nat.reduceBNe, Nat.reduceBEq, Int.reduceToNat]
    refine aw_seq ?_
    refine aw_seq (aw_region (EF := EFv) hG (by rw [hN]; exact tr6_4) ?_)
    simp only [a6_4, go_sem, ↓reduceIte, Nat.reduceEqDiff, reduceCtorEq, Nat.reduceAdd, Nat.reduceLT, Nat.reduceLeDiff, Nat.reduceBNe, Nat.reduceBEq, Int.reduceToNat, tLv, EFv, fTrue_eq, fChkE_eq, hck]
    refine aw_block ?_
    refine aw_loop (α := Nat × (List Entry) × (Assoc Int)) (fun γ => (γ.1 ≤ l.length) ∧ (γ.1 ≤ 20) ∧ (RunI γ.1 γ.2.1 γ.2.2)) (fun γ => ⟨mkE [(0, V.list (List.map Entry.enc l) false), (2, V.int IntKind.i64 d), (4, V.ptr 4 0), (7, V.ptr 500 0), (8, .int .i64 γ.1)], mkH [(4, Ob.box 24 [V.int IntKind.i64 e.day, V.str e.text, V.list (List.map Post.enc e.posts) false]), (500, .box 49 [.own 501 γ.2.1.length, .map 502]), (501, .arr 24 3 (γ.2.1.map Entry.enc)), (502, .mp (kmap fI8 γ.2.2))]⟩) (fun γ => l.length - γ.1) (0, [], []) ⟨Nat.zero_le _, Nat.zero_le _, RunI.start⟩ ?_ ?_
    · refine Le.mk _ _ ?_ ?_ rfl <;> simp only [go_sem, ↓reduceIte, Nat.reduceEqDiff, reduceCtorEq, Nat.reduceAdd, Nat.reduceLT, Nat.reduceLeDiff, Nat.reduceBNe, Nat.reduceBEq, Int.reduceToNat, lgO, kmap_nil, List.map_nil, List.length_nil] <;> (repeat' apply And.intro) <;> (try first | rfl | exact wk_frzb rfl rfl rfl | exact wk_fn rfl | exact .nilo _ _ _ rfl rfl | exact wk_frzm rfl rfl (fun kv hk => by obtain ⟨_, _, rfl⟩ := List.mem_map.1 hk; rfl))
    · rintro ⟨i, es, L⟩ ⟨hi, hi3, hR⟩ KL0 hKL0
      try dsimp only at *
      refine aw_seq ?_
      refine aw_seq (aw_region (EF := EFv) hG (by rw [hN]; exact tr6_5) ?_)
      simp only [a6_5, go_sem, ↓reduceIte, Nat.reduceEqDiff, reduceCtorEq, Nat.reduceAdd, Nat.reduceLT, Nat.reduceLeDiff, Nat.reduceBNe, Nat.reduceBEq, Int.reduceToNat, List.length_map, tLv, EFv, fTrue_eq, fChkE_eq, hck]
      (repeat' apply And.intro) <;> (try first | omega | ((fail_if_success refine idW ?_); (fail_if_success refine idS ?_); intros; (repeat' apply And.intro) <;> first | assumption | omega | (simp_all; done)))
      refine aw_cond (b := _) rfl (fun hb5 => ?_) (fun hb5 => ?_)
      · skip
        have hc : i < l.length ∧ i < 20 := by simp at hb5; omega
        obtain ⟨hc, hc2⟩ := hc
        have hxok := hlok l[i] (List.getElem_mem _)
        obtain ⟨x, hx⟩ : ∃ x, x = l[i] := ⟨_, rfl⟩
        rw [← hx] at hxok
        refine aw_skip ?_
        try simp only [go_sem, ↓reduceIte, Nat.reduceEqDiff, reduceCtorEq, Nat.reduceAdd, Nat.reduceLT, Nat.reduceLeDiff, Nat.reduceBNe, Nat.reduceBEq, Int.reduceToNat]
        refine aw_seq ?_
        refine aw_block ?_
        refine aw_seq ?_
        refine aw_seq (aw_region (EF := EFv) hG (by rw [hN]; exact tr6_7) ?_)
        simp only [a6_7, go_sem, ↓reduceIte, Nat.reduceEqDiff, reduceCtorEq, Nat.reduceAdd, Nat.reduceLT, Nat.reduceLeDiff, Nat.reduceBNe, Nat.reduceBEq, Int.reduceToNat, getD_mapd _ _ _ _ hc, ← hx, Entry.enc, hc, hxok, List.length_map, tLv, EFv, fTrue_eq, fChkE_eq, hck]
        (repeat' apply And.intro) <;> (try first | omega | ((fail_if_success refine idW ?_); (fail_if_success refine idS ?_); intros; (repeat' apply And.intro) <;> first | assumption | omega | (simp_all; done)))
        refine aw_cond (b := _) rfl (fun hb7 => ?_) (fun hb7 => ?_)
        · skip
          refine aw_seq (aw_region (EF := EFv) hG (by rw [hN]; exact tr6_8) ?_)
          simp only [a6_8, go_sem, ↓reduceIte, Nat.reduceEqDiff, reduceCtorEq, Nat.reduceAdd, Nat.reduceLT, Nat.reduceLeDiff, Nat.reduceBNe, Nat.reduceBEq, Int.reduceToNat, tLv, EFv, fTrue_eq, fChkE_eq, hck]
          (repeat' apply And.intro) <;> (try first | omega | ((fail_if_success refine idW ?_); (fail_if_success refine idS ?_); intros; (repeat' apply And.intro) <;> first | assumption | omega | (simp_all; done)))
          refine aw_ret ?_
          show Q _ _
          refine hQ _ _ (.inl rfl) ?_ ?_ ?_ <;> simp only [outφ, outV, AR.res, go_sem, ↓reduceIte, Nat.reduceEqDiff, reduceCtorEq, Nat.reduceAdd, Nat.reduceLT, Nat.reduceLeDiff, Nat.reduceBNe, Nat.reduceBEq, Int.reduceToNat, fLV]
        · skip
          have hx10 : x.posts.length ≤ 10 := by simp at hb7; omega
          have hR2 := hR.post hxok hx10
          have hel := hR.len
          obtain ⟨es2, he2⟩ : ∃ y, y = postE L es x := ⟨_, rfl⟩
          obtain ⟨L2, hL2⟩ : ∃ y, y = postL L x := ⟨_, rfl⟩
          rw [← he2, ← hL2] at hR2
          refine aw_skip ?_
          try simp only [go_sem, ↓reduceIte, Nat.reduceEqDiff, reduceCtorEq, Nat.reduceAdd, Nat.reduceLT, Nat.reduceLeDiff, Nat.reduceBNe, Nat.reduceBEq, Int.reduceToNat]
          refine aw_region (EF := EFv) hG (by rw [hN]; exact tr6_9) ?_
          simp only [a6_9, go_sem, ↓reduceIte, Nat.reduceEqDiff, reduceCtorEq, Nat.reduceAdd, Nat.reduceLT, Nat.reduceLeDiff, Nat.reduceBNe, Nat.reduceBEq, Int.reduceToNat, getD_mapd _ _ _ _ hc, ← hx, Entry.enc, hc, List.length_map, tLv, EFv, fTrue_eq, fChkE_eq, hck]
          refine post_use hR.inv hxok (by omega) rfl rfl rfl (by decide) (by decide) (by decide) ?_
          rw [← he2, ← hL2]
          simp only [go_sem, ↓reduceIte, Nat.reduceEqDiff, reduceCtorEq, Nat.reduceAdd, Nat.reduceLT, Nat.reduceLeDiff, Nat.reduceBNe, Nat.reduceBEq, Int.reduceToNat, lgO]
          refine aw_region (EF := EFv) hG (by rw [hN]; exact tr6_6) ?_
          simp only [a6_6, go_sem, ↓reduceIte, Nat.reduceEqDiff, reduceCtorEq, Nat.reduceAdd, Nat.reduceLT, Nat.reduceLeDiff, Nat.reduceBNe, Nat.reduceBEq, Int.reduceToNat, inI, tLv, EFv, fTrue_eq, fChkE_eq, hck]
          (repeat' apply And.intro) <;> (try first | omega | ((fail_if_success refine idW ?_); (fail_if_success refine idS ?_); intros; (repeat' apply And.intro) <;> first | assumption | omega | (simp_all; done)))
          refine hKL0 (i + 1, es2, L2) _ ?_ ?_ ?_
          · (try dsimp only); exact ⟨hc, hc2, hR2⟩
          · (try dsimp only); omega
          · refine Le.mk _ _ ?_ ?_ rfl <;> simp only [go_sem, ↓reduceIte, Nat.reduceEqDiff, reduceCtorEq, Nat.reduceAdd, Nat.reduceLT, Nat.reduceLeDiff, Nat.reduceBNe, Nat.reduceBEq, Int.reduceToNat] <;> (repeat' apply And.intro) <;> (try first | rfl | exact wk_frzb rfl rfl rfl | exact wk_fn rfl | exact .nilo _ _ _ rfl rfl | exact wk_frzm rfl rfl (fun kv hk => by obtain ⟨_, _, rfl⟩ := List.mem_map.1 hk; rfl))
      · skip
        refine aw_exit ?_
        simp only [go_sem, ↓reduceIte, Nat.reduceEqDiff, reduceCtorEq, Nat.reduceAdd, Nat.reduceLT, Nat.reduceLeDiff, Nat.reduceBNe, Nat.reduceBEq, Int.reduceToNat]
        refine aw_seq ?_
        refine aw_seq (aw_region (EF := EFv) hG (by rw [hN]; exact tr6_10) ?_)
        simp only [a6_10, go_sem, ↓reduceIte, Nat.reduceEqDiff, reduceCtorEq, Nat.reduceAdd, Nat.reduceLT, Nat.reduceLeDiff, Nat.reduceBNe, Nat.reduceBEq, Int.reduceToNat, hok, tLv, EFv, fTrue_eq, fChkE_eq, hck]
        (repeat' apply And.intro) <;> (try first | omega | ((fail_if_success refine idW ?_); (fail_if_success refine idS ?_); intros; (repeat' apply And.intro) <;> first | assumption | omega | (simp_all; done)))
        refine aw_cond (b := _) rfl (fun hb10 => ?_) (fun hb10 => ?_)
        · skip
          refine aw_seq (aw_region (EF := EFv) hG (by rw [hN]; exact tr6_11) ?_)
          simp only [a6_11, go_sem, ↓reduceIte, Nat.reduceEqDiff, reduceCtorEq, Nat.reduceAdd, Nat.reduceLT, Nat.reduceLeDiff, Nat.reduceBNe, Nat.reduceBEq, Int.reduceToNat, tLv, EFv, fTrue_eq, fChkE_eq, hck]
          (repeat' apply And.intro) <;> (try first | omega | ((fail_if_success refine idW ?_); (fail_if_success refine idS ?_); intros; (repeat' apply And.intro) <;> first | assumption | omega | (simp_all; done)))
          refine aw_ret ?_
          show Q _ _
          refine hQ _ _ (.inl rfl) ?_ ?_ ?_ <;> simp only [outφ, outV, AR.res, go_sem, ↓reduceIte, Nat.reduceEqDiff, reduceCtorEq, Nat.reduceAdd, Nat.reduceLT, Nat.reduceLeDiff, Nat.reduceBNe, Nat.reduceBEq, Int.reduceToNat, fLV]
        · skip
          have hd2 : ck = 0 ∧ 0 ≤ d ∧ d < 36525 := by simp at hb10; omega
          obtain ⟨hck0, hd3, hd4⟩ := hd2
          rw [hck0] at hck
          have hcko := chk_ok hck
          have ham : AmtOk e.posts := ⟨by omega, hcko.am⟩
          have hrc := rev_chk (d := d) hck hd3 hd4
          have hrok := rev_ok (d := d) hok hck hd
          have hamr : AmtOk (e.posts.map revP) := ⟨by rw [List.length_map]; omega, (chk_ok hrc).am⟩
          have hsm : SmOk [e] := sm_one e hok.2.2.1
          have hrl : (revE e d).posts.length ≤ 10 := by show (e.posts.map revP).length ≤ _; rw [List.length_map]; exact hl10
          refine aw_skip ?_
          try simp only [go_sem, ↓reduceIte, Nat.reduceEqDiff, reduceCtorEq, Nat.reduceAdd, Nat.reduceLT, Nat.reduceLeDiff, Nat.reduceBNe, Nat.reduceBEq, Int.reduceToNat]
          refine aw_seq (aw_region (EF := EFv) hG (by rw [hN]; exact tr6_12) ?_)
          simp only [a6_12, go_sem, ↓reduceIte, Nat.reduceEqDiff, reduceCtorEq, Nat.reduceAdd, Nat.reduceLT, Nat.reduceLeDiff, Nat.reduceBNe, Nat.reduceBEq, Int.reduceToNat, fRev_eq, ham, entV, revE, tLv, EFv, fTrue_eq, fChkE_eq, hck]
          (repeat' apply And.intro) <;> (try first | omega | ((fail_if_success refine idW ?_); (fail_if_success refine idS ?_); intros; (repeat' apply And.intro) <;> first | assumption | omega | (simp_all; done)))
          refine aw_seq ?_
          refine aw_seq (aw_regionD (EF := EFv) hG mixed (by rw [hN]; exact tr6_13) ok6_13 ?_)
          simp only [a6_13, d6_13, go_sem, ↓reduceIte, Nat.reduceEqDiff, reduceCtorEq, Nat.reduceAdd, Nat.reduceLT, Nat.reduceLeDiff, Nat.reduceBNe, Nat.reduceBEq, Int.reduceToNat, chR_eq, hrok, hrc, rr_eq, hamr, sm1_eq, hsm, decide_true, Bool.not_true, tLv, EFv, fTrue_eq, fChkE_eq, hck]
          (repeat' apply And.intro) <;> (try first | omega | ((fail_if_success refine idW ?_); (fail_if_success refine idS ?_); intros; (repeat' apply And.intro) <;> first | assumption | omega | (simp_all; done)))
          refine aw_condF rfl ?_
          refine aw_skip ?_
          try simp only [go_sem, ↓reduceIte, Nat.reduceEqDiff, reduceCtorEq, Nat.reduceAdd, Nat.reduceLT, Nat.reduceLeDiff, Nat.reduceBNe, Nat.reduceBEq, Int.reduceToNat]
          refine aw_seq (aw_region (EF := EFv) hG (by rw [hN]; exact tr6_15) ?_)
          simp only [a6_15, go_sem, ↓reduceIte, Nat.reduceEqDiff, reduceCtorEq, Nat.reduceAdd, Nat.reduceLT, Nat.reduceLeDiff, Nat.reduceBNe, Nat.reduceBEq, Int.reduceToNat, tLv, EFv, fTrue_eq, fChkE_eq, hck]
          refine AW.le (s' := ⟨mkE [(2, .int .i64 d), (4, .ptr 4 0), (7, .ptr 500 0), (9, .ptr 9 0), (10, .own 520 0)], mkH ([(4, .box 24 [.int .i64 e.day, .str e.text, .list (e.posts.map Post.enc) false]), (9, .box 24 [.int .i64 d, .str e.text, .list ((e.posts.map revP).map Post.enc) false]), (500, .box 49 [.own 501 es.length, .map 502]), (501, .arr 24 3 (es.map Entry.enc)), (502, .mp (kmap fI8 L)), (520, .arr 3 1 [])])⟩) (Le.mk _ _ (by (simp only [go_sem, ↓reduceIte, Nat.reduceEqDiff, reduceCtorEq, Nat.reduceAdd, Nat.reduceLT, Nat.reduceLeDiff, Nat.reduceBNe, Nat.reduceBEq, Int.reduceToNat]) <;> (repeat' apply And.intro) <;> (try first | exact wk_frzb rfl rfl rfl | rfl | exact wk_fn rfl | exact .nill _ | exact .nilo _ _ _ rfl rfl | exact wk_frz rfl (by simp only [ints_len, nats_len]) rfl (ints_pur _) | exact wk_frzm rfl rfl (fun kv hk => by obtain ⟨_, _, rfl⟩ := List.mem_map.1 hk; rfl))) (by (simp only [go_sem, ↓reduceIte, Nat.reduceEqDiff, reduceCtorEq, Nat.reduceAdd, Nat.reduceLT, Nat.reduceLeDiff, Nat.reduceBNe, Nat.reduceBEq, Int.reduceToNat]) <;> (repeat' apply And.intro) <;> (try first | exact wk_frzb rfl rfl rfl | rfl | exact wk_fn rfl | exact .nill _ | exact .nilo _ _ _ rfl rfl | exact wk_frz rfl (by simp only [ints_len, nats_len]) rfl (ints_pur _) | exact wk_frzm rfl rfl (fun kv hk => by obtain ⟨_, _, rfl⟩ := List.mem_map.1 hk; rfl))) rfl) ?_
          refine aw_seq ?_
          refine aw_seq (aw_region (EF := EFv) hG (by rw [hN]; exact tr6_16) ?_)
          simp only [a6_16, go_sem, ↓reduceIte, Nat.reduceEqDiff, reduceCtorEq, Nat.reduceAdd, Nat.reduceLT, Nat.reduceLeDiff, Nat.reduceBNe, Nat.reduceBEq, Int.reduceToNat, tLv, EFv, fTrue_eq, fChkE_eq, hck]
          refine aw_block ?_
          refine aw_loop (α := Nat) (fun j => (j ≤ e.posts.length)) (fun j => ⟨mkE [(4, V.ptr 4 0), (7, V.ptr 500 0), (9, V.ptr 9 0), (10, .own 520 j), (11, .int .i64 j)], mkH [(4, Ob.box 24 [V.int IntKind.i64 e.day, V.str e.text, V.list (List.map Post.enc e.posts) false]), (9, Ob.box 24 [V.int IntKind.i64 d, V.str e.text, V.list (List.map Post.enc (List.map revP e.posts)) false]), (500, Ob.box 49 [V.own 501 es.length, V.map 502]), (501, Ob.arr 24 3 (List.map Entry.enc es)), (502, Ob.mp (kmap fI8 L)), (520, .arr 3 1 (ints (wasL L (e.posts.take j))))]⟩) (fun j => e.posts.length - j) 0 (Nat.zero_le _) ?_ ?_
          · refine Le.mk _ _ ?_ ?_ rfl <;> simp only [go_sem, ↓reduceIte, Nat.reduceEqDiff, reduceCtorEq, Nat.reduceAdd, Nat.reduceLT, Nat.reduceLeDiff, Nat.reduceBNe, Nat.reduceBEq, Int.reduceToNat, List.take_zero, wasL, List.map_nil, ints] <;> (repeat' apply And.intro) <;> (try first | rfl | exact wk_frzb rfl rfl rfl | exact wk_fn rfl | exact .nilo _ _ _ rfl rfl | exact wk_frzm rfl rfl (fun kv hk => by obtain ⟨_, _, rfl⟩ := List.mem_map.1 hk; rfl))
          · rintro j hj KL2 hKL2
            try dsimp only at *
            refine aw_seq ?_
            refine aw_seq (aw_region (EF := EFv) hG (by rw [hN]; exact tr6_17) ?_)
            simp only [a6_17, go_sem, ↓reduceIte, Nat.reduceEqDiff, reduceCtorEq, Nat.reduceAdd, Nat.reduceLT, Nat.reduceLeDiff, Nat.reduceBNe, Nat.reduceBEq, Int.reduceToNat, List.length_map, tLv, EFv, fTrue_eq, fChkE_eq, hck]
            refine aw_cond (b := _) rfl (fun hb17 => ?_) (fun hb17 => ?_)
            · skip
              have hc17 : j < e.posts.length := by simp at hb17; omega
              have hws := was_step (L := L) hc17
              obtain ⟨p, hp⟩ : ∃ p, p = e.posts[j] := ⟨_, rfl⟩
              rw [← hp] at hws
              have hwl : (wasL L (e.posts.take j)).length = j := by unfold wasL; rw [List.length_map, List.length_take]; omega
              refine aw_skip ?_
              try simp only [go_sem, ↓reduceIte, Nat.reduceEqDiff, reduceCtorEq, Nat.reduceAdd, Nat.reduceLT, Nat.reduceLeDiff, Nat.reduceBNe, Nat.reduceBEq, Int.reduceToNat]
              refine aw_seq ?_
              refine aw_block ?_
              refine aw_region (EF := EFv) hG (by rw [hN]; exact tr6_19) ?_
              simp only [a6_19, go_sem, ↓reduceIte, Nat.reduceEqDiff, reduceCtorEq, Nat.reduceAdd, Nat.reduceLT, Nat.reduceLeDiff, Nat.reduceBNe, Nat.reduceBEq, Int.reduceToNat, getD_mapd _ _ _ _ hc17, ← hp, Post.enc, hc17, List.length_map, tLv, EFv, fTrue_eq, fChkE_eq, hck]
              refine bal_use (es := es) (L := L) rfl rfl rfl (by decide) (by decide) (by decide) ?_
              simp only [go_sem, ↓reduceIte, Nat.reduceEqDiff, reduceCtorEq, Nat.reduceAdd, Nat.reduceLT, Nat.reduceLeDiff, Nat.reduceBNe, Nat.reduceBEq, Int.reduceToNat, lgO, ints_len, hwl]
              refine ⟨by omega, ?_⟩
              refine aw_region (EF := EFv) hG (by rw [hN]; exact tr6_18) ?_
              simp only [a6_18, go_sem, ↓reduceIte, Nat.reduceEqDiff, reduceCtorEq, Nat.reduceAdd, Nat.reduceLT, Nat.reduceLeDiff, Nat.reduceBNe, Nat.reduceBEq, Int.reduceToNat, inI, tLv, EFv, fTrue_eq, fChkE_eq, hck]
              (repeat' apply And.intro) <;> (try first | omega | ((fail_if_success refine idW ?_); (fail_if_success refine idS ?_); intros; (repeat' apply And.intro) <;> first | assumption | omega | (simp_all; done)))
              refine hKL2 (j + 1) _ ?_ ?_ ?_
              · (try dsimp only); exact hc17
              · (try dsimp only); omega
              · refine Le.mk _ _ ?_ ?_ rfl <;> simp only [go_sem, ↓reduceIte, Nat.reduceEqDiff, reduceCtorEq, Nat.reduceAdd, Nat.reduceLT, Nat.reduceLeDiff, Nat.reduceBNe, Nat.reduceBEq, Int.reduceToNat, hws, ints_snoc] <;> (repeat' apply And.intro) <;> (try first | rfl | exact wk_frzb rfl rfl rfl | exact wk_fn rfl | exact .nilo _ _ _ rfl rfl | exact wk_frzm rfl rfl (fun kv hk => by obtain ⟨_, _, rfl⟩ := List.mem_map.1 hk; rfl))
            · skip
              obtain rfl : j = e.posts.length := by simp at hb17; omega
              rw [List.take_length]
              have hel := hR.len
              refine aw_exit ?_
              simp only [go_sem, ↓reduceIte, Nat.reduceEqDiff, reduceCtorEq, Nat.reduceAdd, Nat.reduceLT, Nat.reduceLeDiff, Nat.reduceBNe, Nat.reduceBEq, Int.reduceToNat]
              refine aw_seq ?_
              refine aw_seq (aw_region (EF := EFv) hG (by rw [hN]; exact tr6_20) ?_)
              simp only [a6_20, go_sem, ↓reduceIte, Nat.reduceEqDiff, reduceCtorEq, Nat.reduceAdd, Nat.reduceLT, Nat.reduceLeDiff, Nat.reduceBNe, Nat.reduceBEq, Int.reduceToNat, tLv, EFv, fTrue_eq, fChkE_eq, hck]
              refine post_use hR.inv hok (by omega) rfl rfl rfl (by decide) (by decide) (by decide) ?_
              obtain ⟨pc, hpc⟩ : ∃ x, x = postC L e := ⟨_, rfl⟩
              rw [← hpc]
              simp only [go_sem, ↓reduceIte, Nat.reduceEqDiff, reduceCtorEq, Nat.reduceAdd, Nat.reduceLT, Nat.reduceLeDiff, Nat.reduceBNe, Nat.reduceBEq, Int.reduceToNat, lgO]
              refine aw_cond (b := _) rfl (fun hb20 => ?_) (fun hb20 => ?_)
              · skip
                refine aw_seq (aw_region (EF := EFv) hG (by rw [hN]; exact tr6_21) ?_)
                simp only [a6_21, go_sem, ↓reduceIte, Nat.reduceEqDiff, reduceCtorEq, Nat.reduceAdd, Nat.reduceLT, Nat.reduceLeDiff, Nat.reduceBNe, Nat.reduceBEq, Int.reduceToNat, tLv, EFv, fTrue_eq, fChkE_eq, hck]
                (repeat' apply And.intro) <;> (try first | omega | ((fail_if_success refine idW ?_); (fail_if_success refine idS ?_); intros; (repeat' apply And.intro) <;> first | assumption | omega | (simp_all; done)))
                refine aw_ret ?_
                show Q _ _
                refine hQ _ _ (.inl rfl) ?_ ?_ ?_ <;> simp only [outφ, outV, AR.res, go_sem, ↓reduceIte, Nat.reduceEqDiff, reduceCtorEq, Nat.reduceAdd, Nat.reduceLT, Nat.reduceLeDiff, Nat.reduceBNe, Nat.reduceBEq, Int.reduceToNat, fLV]
              · skip
                have hpc0 : postC L e = 0 := by rw [← hpc]; simpa using hb20
                obtain ⟨hp2, hget⟩ := rev_post hR hok hl10 hpc0 hd3 hd4
                have hR2 := hR.post hok hl10
                have hel2 := hR2.len
                have hR3 := hR2.post hrok hrl
                refine aw_skip ?_
                try simp only [go_sem, ↓reduceIte, Nat.reduceEqDiff, reduceCtorEq, Nat.reduceAdd, Nat.reduceLT, Nat.reduceLeDiff, Nat.reduceBNe, Nat.reduceBEq, Int.reduceToNat]
                refine aw_seq ?_
                refine aw_seq (aw_region (EF := EFv) hG (by rw [hN]; exact tr6_22) ?_)
                simp only [a6_22, go_sem, ↓reduceIte, Nat.reduceEqDiff, reduceCtorEq, Nat.reduceAdd, Nat.reduceLT, Nat.reduceLeDiff, Nat.reduceBNe, Nat.reduceBEq, Int.reduceToNat, tLv, EFv, fTrue_eq, fChkE_eq, hck]
                refine post_use (e := revE e d) hR2.inv hrok (by omega) rfl rfl rfl (by decide) (by decide) (by decide) ?_
                rw [hp2]
                simp only [go_sem, ↓reduceIte, Nat.reduceEqDiff, reduceCtorEq, Nat.reduceAdd, Nat.reduceLT, Nat.reduceLeDiff, Nat.reduceBNe, Nat.reduceBEq, Int.reduceToNat, lgO, decide_true, Bool.not_true]
                refine aw_condF rfl ?_
                refine aw_skip ?_
                try simp only [go_sem, ↓reduceIte, Nat.reduceEqDiff, reduceCtorEq, Nat.reduceAdd, Nat.reduceLT, Nat.reduceLeDiff, Nat.reduceBNe, Nat.reduceBEq, Int.reduceToNat]
                refine aw_seq ?_
                obtain ⟨es3, he3⟩ : ∃ y, y = postE (postL L e) (postE L es e) (revE e d) := ⟨_, rfl⟩
                obtain ⟨L3, hL3⟩ : ∃ y, y = postL (postL L e) (revE e d) := ⟨_, rfl⟩
                rw [← hL3] at hget
                simp only [← he3, ← hL3]
                refine AW.le (s' := ⟨mkE [(4, .row [.int .i64 e.day, .str e.text, .list (e.posts.map Post.enc) false] 0), (7, .ptr 500 0), (10, .list (ints (wasL L e.posts)) false)], mkH [(500, .box 49 [.list (es3.map Entry.enc) false, .fmap (kmap fI8 L3)])]⟩) ?_ ?_
                · refine Le.mk _ _ ?_ ?_ rfl <;> simp only [go_sem, ↓reduceIte, Nat.reduceEqDiff, reduceCtorEq, Nat.reduceAdd, Nat.reduceLT, Nat.reduceLeDiff, Nat.reduceBNe, Nat.reduceBEq, Int.reduceToNat] <;> (repeat' apply And.intro) <;> (try first | rfl | exact wk_frzb rfl rfl rfl | exact wk_fn rfl | exact .nilo _ _ _ rfl rfl | exact wk_frzm rfl rfl (fun kv hk => by obtain ⟨_, _, rfl⟩ := List.mem_map.1 hk; rfl))
                  · exact wk_frz rfl (by rw [ints_len]; unfold wasL; rw [List.length_map]) rfl (ints_pur _)
                  · exact wk_frzO rfl (by rw [List.length_map]) rfl ((Entry.purs es3).2 trivial) rfl
                refine AW.le (s' := ⟨mkE [(4, .row [.int .i64 e.day, .str e.text, .list (e.posts.map Post.enc) false] 0), (7, .row [.list (es3.map Entry.enc) false, .fmap (kmap fI8 L3)] 0), (10, .list (ints (wasL L e.posts)) false)], mkH ([])⟩) (Le.mk _ _ (by (simp only [go_sem, ↓reduceIte, Nat.reduceEqDiff, reduceCtorEq, Nat.reduceAdd, Nat.reduceLT, Nat.reduceLeDiff, Nat.reduceBNe, Nat.reduceBEq, Int.reduceToNat]) <;> (repeat' apply And.intro) <;> (try first | exact wk_frzb rfl rfl rfl | rfl | exact wk_fn rfl | exact .nill _ | exact .nilo _ _ _ rfl rfl | exact wk_frz rfl (by simp only [ints_len, nats_len]) rfl (ints_pur _) | exact wk_frzm rfl rfl (fun kv hk => by obtain ⟨_, _, rfl⟩ := List.mem_map.1 hk; rfl))) (by (simp only [go_sem, ↓reduceIte, Nat.reduceEqDiff, reduceCtorEq, Nat.reduceAdd, Nat.reduceLT, Nat.reduceLeDiff, Nat.reduceBNe, Nat.reduceBEq, Int.reduceToNat]) <;> (repeat' apply And.intro) <;> (try first | exact wk_frzb rfl rfl rfl | rfl | exact wk_fn rfl | exact .nill _ | exact .nilo _ _ _ rfl rfl | exact wk_frz rfl (by simp only [ints_len, nats_len]) rfl (ints_pur _) | exact wk_frzm rfl rfl (fun kv hk => by obtain ⟨_, _, rfl⟩ := List.mem_map.1 hk; rfl))) rfl) ?_
                refine aw_seq (aw_region (EF := EF0) hG (by rw [hN]; exact tr6_24) ?_)
                simp only [a6_24, go_sem, ↓reduceIte, Nat.reduceEqDiff, reduceCtorEq, Nat.reduceAdd, Nat.reduceLT, Nat.reduceLeDiff, Nat.reduceBNe, Nat.reduceBEq, Int.reduceToNat, tLv, EFv, fTrue_eq, fChkE_eq, hck]
                refine aw_block ?_
                refine aw_loop (α := Nat) (fun m => (m ≤ e.posts.length)) (fun m => ⟨mkE [(4, V.row [V.int IntKind.i64 e.day, V.str e.text, V.list (List.map Post.enc e.posts) false] 0), (7, V.row [V.list (List.map Entry.enc es3) false, V.fmap (kmap fI8 L3)] 0), (10, V.list (ints (wasL L e.posts)) false), (12, .int .i64 m)], mkH []⟩) (fun m => e.posts.length - m) 0 (Nat.zero_le _) ?_ ?_
                · refine Le.mk _ _ ?_ ?_ rfl <;> simp only [go_sem, ↓reduceIte, Nat.reduceEqDiff, reduceCtorEq, Nat.reduceAdd, Nat.reduceLT, Nat.reduceLeDiff, Nat.reduceBNe, Nat.reduceBEq, Int.reduceToNat] <;> (repeat' apply And.intro) <;> (try first | rfl | exact wk_frzb rfl rfl rfl | exact wk_fn rfl | exact .nilo _ _ _ rfl rfl | exact wk_frzm rfl rfl (fun kv hk => by obtain ⟨_, _, rfl⟩ := List.mem_map.1 hk; rfl))
                · rintro m hm KL4 hKL4
                  try dsimp only at *
                  refine aw_seq ?_
                  refine aw_seq (aw_region (EF := EF0) hG (by rw [hN]; exact tr6_25) ?_)
                  simp only [a6_25, go_sem, ↓reduceIte, Nat.reduceEqDiff, reduceCtorEq, Nat.reduceAdd, Nat.reduceLT, Nat.reduceLeDiff, Nat.reduceBNe, Nat.reduceBEq, Int.reduceToNat, List.length_map, tLv, EFv, fTrue_eq, fChkE_eq, hck]
                  refine aw_cond (b := _) rfl (fun hb25 => ?_) (fun hb25 => ?_)
                  · skip
                    have hc25 : m < e.posts.length := by simp at hb25; omega
                    have hcw : m < (wasL L e.posts).length := by unfold wasL; rw [List.length_map]; exact hc25
                    have hwv : (wasL L e.posts)[m] = getA L e.posts[m].account := by simp only [wasL, List.getElem_map]
                    obtain ⟨p, hp⟩ : ∃ p, p = e.posts[m] := ⟨_, rfl⟩
                    rw [← hp] at hwv
                    refine aw_skip ?_
                    try simp only [go_sem, ↓reduceIte, Nat.reduceEqDiff, reduceCtorEq, Nat.reduceAdd, Nat.reduceLT, Nat.reduceLeDiff, Nat.reduceBNe, Nat.reduceBEq, Int.reduceToNat]
                    refine aw_seq ?_
                    refine aw_block ?_
                    refine aw_seq (aw_regionD (EF := EF0) hG mixed (by rw [hN]; exact tr6_27) ok6_27 ?_)
                    simp only [a6_27, d6_27, go_sem, ↓reduceIte, Nat.reduceEqDiff, reduceCtorEq, Nat.reduceAdd, Nat.reduceLT, Nat.reduceLeDiff, Nat.reduceBNe, Nat.reduceBEq, Int.reduceToNat, getD_mapd _ _ _ _ hc25, ← hp, Post.enc, hc25, List.length_map, lgB_eq, hget, ints_getD _ _ _ hcw, hwv, ints_len, hcw, decide_true, Bool.not_true, tLv, EFv, fTrue_eq, fChkE_eq, hck]
                    (repeat' apply And.intro) <;> (try first | omega | ((fail_if_success refine idW ?_); (fail_if_success refine idS ?_); intros; (repeat' apply And.intro) <;> first | assumption | omega | (simp_all; done)))
                    refine aw_condF rfl ?_
                    refine aw_skip ?_
                    try simp only [go_sem, ↓reduceIte, Nat.reduceEqDiff, reduceCtorEq, Nat.reduceAdd, Nat.reduceLT, Nat.reduceLeDiff, Nat.reduceBNe, Nat.reduceBEq, Int.reduceToNat]
                    refine aw_region (EF := EF0) hG (by rw [hN]; exact tr6_26) ?_
                    simp only [a6_26, go_sem, ↓reduceIte, Nat.reduceEqDiff, reduceCtorEq, Nat.reduceAdd, Nat.reduceLT, Nat.reduceLeDiff, Nat.reduceBNe, Nat.reduceBEq, Int.reduceToNat, inI, tLv, EFv, fTrue_eq, fChkE_eq, hck]
                    (repeat' apply And.intro) <;> (try first | omega | ((fail_if_success refine idW ?_); (fail_if_success refine idS ?_); intros; (repeat' apply And.intro) <;> first | assumption | omega | (simp_all; done)))
                    refine hKL4 (m + 1) _ ?_ ?_ ?_
                    · (try dsimp only); first | (refine ⟨?_, ?_⟩ <;> first | omega | assumption) | omega | trivial
                    · (try dsimp only); omega
                    · refine Le.mk _ _ ?_ ?_ rfl <;> simp only [go_sem, ↓reduceIte, Nat.reduceEqDiff, reduceCtorEq, Nat.reduceAdd, Nat.reduceLT, Nat.reduceLeDiff, Nat.reduceBNe, Nat.reduceBEq, Int.reduceToNat] <;> (repeat' apply And.intro) <;> (try first | rfl | exact wk_frzb rfl rfl rfl | exact wk_fn rfl | exact .nilo _ _ _ rfl rfl | exact wk_frzm rfl rfl (fun kv hk => by obtain ⟨_, _, rfl⟩ := List.mem_map.1 hk; rfl))
                  · skip
                    refine aw_exit ?_
                    simp only [go_sem, ↓reduceIte, Nat.reduceEqDiff, reduceCtorEq, Nat.reduceAdd, Nat.reduceLT, Nat.reduceLeDiff, Nat.reduceBNe, Nat.reduceBEq, Int.reduceToNat]
                    refine aw_seq (aw_region (EF := EF0) hG (by rw [hN]; exact tr6_29) ?_)
                    simp only [a6_29, go_sem, ↓reduceIte, Nat.reduceEqDiff, reduceCtorEq, Nat.reduceAdd, Nat.reduceLT, Nat.reduceLeDiff, Nat.reduceBNe, Nat.reduceBEq, Int.reduceToNat, tLv, EFv, fTrue_eq, fChkE_eq, hck]
                    (repeat' apply And.intro) <;> (try first | omega | ((fail_if_success refine idW ?_); (fail_if_success refine idS ?_); intros; (repeat' apply And.intro) <;> first | assumption | omega | (simp_all; done)))
                    refine aw_ret ?_
                    show Q _ _
                    refine hQ _ _ (.inl rfl) ?_ ?_ ?_ <;> simp only [outφ, outV, AR.res, go_sem, ↓reduceIte, Nat.reduceEqDiff, reduceCtorEq, Nat.reduceAdd, Nat.reduceLT, Nat.reduceLeDiff, Nat.reduceBNe, Nat.reduceBEq, Int.reduceToNat, fLV]
end Go.Proofs.Ythfmdkpfaehpnaa
