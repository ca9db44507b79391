/- Net of the reference; both are the same. -/
import Derived.Test.YtajobknfhbnjcaaSe2
import Derived.Test.YtajobknfhbnjcaaAv23
namespace Go.Proofs.Ytajobknfhbnjcaa
open Go Go.RowKit
set_option linter.unusedSimpArgs false
set_option linter.unusedVariables false
set_option linter.deprecated false
theorem add_use1 {d : Option Nat} {s : St} {K : St → Prop} {na : Nat} {l : List Post} {n : List UInt8} {a : Int} (hb : ¬ insB l n = true) (hl : l.length ≤ 100000) (ha : ∀ x ∈ l, inI (x.amount + a))
    (hn : s.h na = some (.arr 30 2 (l.map Post.enc))) (hK : K ⟨setE d (.own na (addP l n a).length) s.e, hov [(na, .arr 30 2 ((addP l n a).map Post.enc))] s.h⟩) : EStep Try.prog UT d 24 [.own na l.length, .str n, .int .i64 a] s K := by
  refine ⟨[(1000, na)], [], _, _, _, _, add_e l n a _ _ hl ha (fun _ => ⟨rfl, rfl⟩) (fun h => absurd h hb), ⟨by simp [okL], rfl, rfl, by simp, by simp, ?_, by simp [V.rens, V.ren, rni], by simp [V.nins, V.nin], by simp [V.nin], ?_, ?_⟩, ?_⟩
  · intro p hp
    simp only [List.mem_cons, List.not_mem_nil, or_false] at hp
    subst hp
    exact ⟨_, hn, by simp [mkH, Ob.ren], by simp only [Ob.nin, Post.purs]⟩
  · intro q hq
    simp only [List.mem_cons, List.not_mem_nil, or_false] at hq
    subst hq; simp only [Ob.nin, Post.purs]
  · intro p hp o o' h1 h2
    simp only [List.mem_cons, List.not_mem_nil, or_false] at hp
    subst hp; simp [mkH] at h1 h2; subst h1 h2; simp [Ob.kind]
  · simp only [List.append_nil, V.ren, rn, List.map_cons, List.map_nil, Ob.ren, if_true]
    exact hK
theorem add_use2 {d : Option Nat} {s : St} {K : St → Prop} {na : Nat} (nb : Nat) {l : List Post} {n : List UInt8} {a : Int} (hb : insB l n = true) (hl : l.length ≤ 100000) (ha : ∀ x ∈ l, inI (x.amount + a))
    (hn : s.h na = some (.arr 30 2 (l.map Post.enc))) (hf : s.h nb = none) (hlt : nb < 1000) (hne : na ≠ nb) (hK : K ⟨setE d (.own nb (addP l n a).length) s.e, hov [(na, .arr 30 2 (l.map Post.enc)), (nb, .arr 30 2 ((addP l n a).map Post.enc))] s.h⟩) : EStep Try.prog UT d 24 [.own na l.length, .str n, .int .i64 a] s K := by
  refine ⟨[(1000, na)], [(54, nb)], _, _, _, _, add_e l n a _ _ hl ha (fun h => by rw [hb] at h; cases h) (fun _ => ⟨rfl, rfl⟩), ⟨by simp [okL, hne], rfl, rfl, by simp, ?_, ?_, by simp [V.rens, V.ren, rni], by simp [V.nins, V.nin], by simp [V.nin], ?_, ?_⟩, ?_⟩
  · intro p hp
    simp only [List.mem_cons, List.not_mem_nil, or_false] at hp
    subst hp; exact ⟨hf, hlt⟩
  · intro p hp
    simp only [List.mem_cons, List.not_mem_nil, or_false] at hp
    subst hp
    exact ⟨_, hn, by simp [mkH, Ob.ren], by simp only [Ob.nin, Post.purs]⟩
  · intro q hq
    simp only [List.mem_cons, List.not_mem_nil, or_false] at hq
    rcases hq with rfl | rfl <;> simp only [Ob.nin, Post.purs]
  · intro p hp o o' h1 h2
    simp only [List.mem_cons, List.not_mem_nil, or_false] at hp
    subst hp; simp [mkH] at h1 h2; subst h1 h2; simp [Ob.kind]
  · have e1 : (V.own 54 (addP l n a).length).ren (rn ([(1000, na)] ++ [(54, nb)])) = .own nb (addP l n a).length := by simp [V.ren, rn]
    have e2 : [((1000, .arr 30 2 (l.map Post.enc)) : Nat × Ob), (54, .arr 30 2 ((addP l n a).map Post.enc))].map (fun q : Nat × Ob => (rn ([(1000, na)] ++ [(54, nb)]) q.1, q.2.ren (rn ([(1000, na)] ++ [(54, nb)])))) = [(na, .arr 30 2 (l.map Post.enc)), (nb, .arr 30 2 ((addP l n a).map Post.enc))] := by simp [rn, Ob.ren]
    rw [e1, e2]; exact hK
/-! Balances in order are the sums. -/
def getP : List Post → List UInt8 → Int
  | [], _ => 0
  | p :: l, k => if p.account = k then p.amount else getP l k
def RiseP (R : List Post) : Prop := (R.map (·.account)).Pairwise (fun x y => slt x y = true)
theorem addP_mem (R : List Post) (n : List UInt8) (a : Int) (k : List UInt8) : k ∈ (addP R n a).map (·.account) ↔ k = n ∨ k ∈ R.map (·.account) := by
  induction R with
  | nil => simp [addP]
  | cons p R ih =>
    rw [addP]
    split
    · rename_i h; simp [h]
    · split
      · simp
      · rw [List.map_cons, List.mem_cons, ih, List.map_cons, List.mem_cons]
        constructor
        · rintro (a | a | a); exact .inr (.inl a); exact .inl a; exact .inr (.inr a)
        · rintro (a | a | a); exact .inr (.inl a); exact .inl a; exact .inr (.inr a)
theorem addP_rise {R : List Post} (h : RiseP R) (n : List UInt8) (a : Int) : RiseP (addP R n a) := by
  induction R with
  | nil => exact List.pairwise_cons.2 ⟨fun x hx => by simp at hx, List.Pairwise.nil⟩
  | cons p R ih =>
    obtain ⟨h1, h2⟩ := List.pairwise_cons.1 h
    rw [addP]
    split
    · exact List.pairwise_cons.2 ⟨h1, h2⟩
    · split
      · rename_i h3 h4
        exact List.pairwise_cons.2 ⟨fun x hx => by
          rcases List.mem_cons.1 hx with rfl | hx
          · exact h4
          · exact slt_trans h4 (h1 x hx), h⟩
      · rename_i h3 h4
        refine List.pairwise_cons.2 ⟨fun x hx => ?_, ih h2⟩
        rcases (addP_mem R n a x).1 hx with rfl | hx
        · rcases slt_tri p.account x with h5 | h5 | h5
          · exact h5
          · exact absurd h5 h3
          · exact absurd h5 h4
        · exact h1 x hx
theorem getP_none {R : List Post} {k : List UInt8} (h : k ∉ R.map (·.account)) : getP R k = 0 := by
  induction R with
  | nil => rfl
  | cons p R ih =>
    rw [List.map_cons, List.mem_cons, not_or] at h
    rw [getP, if_neg (Ne.symm h.1), ih h.2]
theorem getP_add {R : List Post} (h : RiseP R) (n : List UInt8) (a : Int) (k : List UInt8) : getP (addP R n a) k = if n = k then getP R n + a else getP R k := by
  induction R with
  | nil => rw [addP]; simp [getP]
  | cons p R ih =>
    obtain ⟨h1, h2⟩ := List.pairwise_cons.1 h
    rw [addP]
    split
    · rename_i h3
      simp only [getP, h3]
      by_cases e : n = k
      · simp [e]
      · simp [e]
    · rename_i h3
      split
      · rename_i h4
        have hn : n ∉ R.map (·.account) := fun hm => by
          have := slt_trans h4 (h1 n hm)
          rw [slt_irr] at this; cases this
        simp only [getP]
        rw [if_neg h3, getP_none hn]
        by_cases e : n = k
        · simp [e]
        · simp [e]
      · simp only [getP]
        rw [ih h2, if_neg h3]
        by_cases e : n = k
        · subst e; simp [h3]
        · simp [e]
structure RInv (L : Assoc Int) (R : List Post) : Prop where
  rise : RiseP R
  keys : ∀ k, k ∈ R.map (·.account) ↔ k ∈ L.map (·.1)
  val : ∀ k, getP R k = getA L k
theorem RInv.add {L : Assoc Int} {R : List Post} (h : RInv L R) (n : List UInt8) (a : Int) : RInv (addA L n a) (addP R n a) := by
  refine ⟨addP_rise h.rise n a, fun k => ?_, fun k => ?_⟩
  · rw [addP_mem, h.keys k]; exact (aput_mem L n k _).symm
  · rw [getP_add h.rise, getA_add, h.val, h.val]
theorem post_of {R : List Post} (h : (R.map (·.account)).Nodup) : R = (R.map (·.account)).map fun k => ⟨k, getP R k⟩ := by
  induction R with
  | nil => rfl
  | cons p R ih =>
    obtain ⟨h1, h2⟩ := List.nodup_cons.1 h
    rw [List.map_cons, List.map_cons]
    congr 1
    · simp [getP]
    · conv => lhs; rw [ih h2]
      refine List.map_congr_left fun k hk => ?_
      rw [getP, if_neg (fun e => h1 (by show p.account ∈ _; rw [e]; exact hk))]
theorem RInv.eq {L : Assoc Int} {R : List Post} (h : RInv L R) (nd : (L.map (·.1)).Nodup) : R = postsA L := by
  have hs : R.map (·.account) = sortS (L.map (·.1)) := rise_eq h.rise (rise_of (sortS_sorted _) ((sortS_perm _).nodup_iff.2 nd)) fun x => by rw [h.keys x, (sortS_perm _).mem_iff]
  have hnd : (R.map (·.account)).Nodup := by rw [hs]; exact (sortS_perm _).nodup_iff.2 nd
  rw [post_of hnd, hs]
  unfold postsA
  exact List.map_congr_left fun k _ => by rw [h.val]
def addPD (R : List Post) (x : Due) : List Post := addP (addP R x.from' (-x.amount)) x.to' x.amount
def netL (l : List Due) : List Post := l.foldl addPD []
theorem netL_step {l : List Due} {i : Nat} (h : i < l.length) : netL (l.take (i + 1)) = addPD (netL (l.take i)) l[i] := by
  unfold netL
  rw [take_succ' h, List.foldl_append]; rfl
theorem netL_inv (l : List Due) : RInv (sumD l) (netL l) := by
  suffices h : ∀ (L : Assoc Int) (R : List Post), RInv L R → RInv (l.foldl addD L) (l.foldl addPD R) from h [] [] ⟨List.Pairwise.nil, fun k => by simp, fun k => rfl⟩
  induction l with
  | nil => intro L R h; exact h
  | cons x l ih => intro L R h; exact ih _ _ ((h.add _ _).add _ _)
theorem getP_bd {R : List Post} {B : Int} (hr : RiseP R) (h : ∀ k, -B ≤ getP R k ∧ getP R k ≤ B) : ∀ x ∈ R, -B ≤ x.amount ∧ x.amount ≤ B := by
  induction R with
  | nil => intro x hx; cases hx
  | cons p R ih =>
    obtain ⟨h1, h2⟩ := List.pairwise_cons.1 hr
    intro x hx
    rcases List.mem_cons.1 hx with rfl | hx
    · have := h x.account; simpa [getP] using this
    · have hb : 0 ≤ B := by have := h p.account; omega
      refine ih h2 (fun k => ?_) x hx
      by_cases e : p.account = k
      · subst e
        rw [getP_none (fun hm => by have := h1 _ hm; rw [slt_irr] at this; cases this)]
        omega
      · have := h k; rwa [getP, if_neg e] at this
theorem addP_len (R : List Post) (n : List UInt8) (a : Int) : (addP R n a).length ≤ R.length + 1 := by
  induction R with
  | nil => simp [addP]
  | cons p R ih => rw [addP]; split; (· simp); (· split; (· simp); (· simp; omega))
theorem netL_len (l : List Due) : (netL l).length ≤ 2 * l.length := by
  suffices h : ∀ R : List Post, (l.foldl addPD R).length ≤ R.length + 2 * l.length from by have := h []; unfold netL; simp only [List.length_nil] at this; omega
  induction l with
  | nil => intro R; simp
  | cons x l ih =>
    intro R
    have h1 := ih (addPD R x)
    have h2 := addP_len R x.from' (-x.amount)
    have h3 := addP_len (addP R x.from' (-x.amount)) x.to' x.amount
    unfold addPD at h1
    rw [List.foldl_cons, List.length_cons]
    unfold addPD
    omega
def EFa : Nat → Bool := fun f => f == 24
noncomputable def trNet : Tab
  | 23 => (gOf aI fWithin)
  | _ => gNo
theorem trNet_ok : ∀ f, PureC Try.prog UT f (trNet f) := fun f => by
  unfold trNet
  split
  · exact within_p
  · exact PureC.no
set_option maxHeartbeats 8000000 in
theorem rnet_p : PureC Try.prog UT 10 (gOf aDues fNet) := by
  have hG := trNet_ok
  refine PureC.ofArgs aDues_inj Try.func10 body10 nm10 res10 ?_
  rintro l hv
  refine ⟨by rw [nt10]; simp [aDues], fun C hN Q hQ => ?_⟩
  rw [nt10] at hN
  unfold c10
  obtain ⟨hl, hok⟩ : OkD l := hv
  refine aw_seq (aw_region (EF := EFa) hG (by rw [hN]; exact tr10_0) ?_)
  simp only [a10_0, go_sem, ↓reduceIte, Nat.reduceEqDiff, reduceCtorEq, Nat.reduceAdd, Nat.reduceLT, Nat.reduceLeDiff, Nat.reduceBNe, Nat.reduceBEq, Int.reduceToNat, aDues, EFa, trNet, fWithin_eq]
  refine aw_seq (aw_region (EF := EFa) hG (by rw [hN]; exact tr10_1) ?_)
  simp only [a10_1, go_sem, ↓reduceIte, Nat.reduceEqDiff, reduceCtorEq, Nat.reduceAdd, Nat.reduceLT, Nat.reduceLeDiff, Nat.reduceBNe, Nat.reduceBEq, Int.reduceToNat, EFa, trNet, fWithin_eq]
  refine aw_seq ?_
  refine aw_seq (aw_region (EF := EFa) hG (by rw [hN]; exact tr10_2) ?_)
  simp only [a10_2, go_sem, ↓reduceIte, Nat.reduceEqDiff, reduceCtorEq, Nat.reduceAdd, Nat.reduceLT, Nat.reduceLeDiff, Nat.reduceBNe, Nat.reduceBEq, Int.reduceToNat, EFa, trNet, fWithin_eq]
  refine aw_block ?_
  refine aw_loop (α := Nat) (fun i => (i ≤ l.length) ∧ (∀ x ∈ l.take i, outB x.amount = false)) (fun i => ⟨mkE [(0, V.list (List.map Due.enc l) false), (4, V.nils), (5, .int .i64 i)], mkH []⟩) (fun i => l.length - i) 0 (by simp) ?_ ?_
  · refine Le.mk _ _ ?_ ?_ rfl <;> simp only [go_sem, ↓reduceIte, Nat.reduceEqDiff, reduceCtorEq, Nat.reduceAdd, Nat.reduceLT, Nat.reduceLeDiff, Nat.reduceBNe, Nat.reduceBEq, Int.reduceToNat] <;> (repeat' apply And.intro) <;> (try first | rfl | exact wk_frzb rfl rfl rfl | exact wk_fn rfl | exact .nilo _ _ _ rfl rfl | exact wk_frzm rfl rfl (fun kv hk => by obtain ⟨_, _, rfl⟩ := List.mem_map.1 hk; rfl))
  · rintro i ⟨hi, hp⟩ KL0 hKL0
    try dsimp only at *
    refine aw_seq ?_
    refine aw_seq (aw_region (EF := EFa) hG (by rw [hN]; exact tr10_3) ?_)
    simp only [a10_3, go_sem, ↓reduceIte, Nat.reduceEqDiff, reduceCtorEq, Nat.reduceAdd, Nat.reduceLT, Nat.reduceLeDiff, Nat.reduceBNe, Nat.reduceBEq, Int.reduceToNat, EFa, trNet, fWithin_eq]
    refine aw_cond (b := _) rfl (fun hc3 => ?_) (fun hc3 => ?_)
    · simp only [decide_eq_true_eq, decide_eq_false_iff_not, Bool.and_eq_true, Bool.or_eq_true, Bool.not_eq_true', Bool.not_eq_false', Bool.and_eq_false_iff, Bool.or_eq_false_iff, Int.ofNat_lt, Int.ofNat_le, Nat.not_lt, Nat.not_le, Int.not_lt, Int.not_le] at hc3
      refine aw_skip ?_
      try simp only [go_sem, ↓reduceIte, Nat.reduceEqDiff, reduceCtorEq, Nat.reduceAdd, Nat.reduceLT, Nat.reduceLeDiff, Nat.reduceBNe, Nat.reduceBEq, Int.reduceToNat]
      refine aw_seq ?_
      refine aw_block ?_
      generalize hxx : l[i] = x
      obtain ⟨a, b, n⟩ := x
      refine aw_seq (aw_region (EF := EFa) hG (by rw [hN]; exact tr10_5) ?_)
      simp only [a10_5, go_sem, ↓reduceIte, Nat.reduceEqDiff, reduceCtorEq, Nat.reduceAdd, Nat.reduceLT, Nat.reduceLeDiff, Nat.reduceBNe, Nat.reduceBEq, Int.reduceToNat, getD_mapd _ _ _ _ hc3, hc3, hxx, Due.enc, Bool.not_not, EFa, trNet, fWithin_eq]
      (repeat' apply And.intro) <;> (try first | omega | (intros; (repeat' apply And.intro) <;> first | assumption | omega | (simp_all; done)))
      refine aw_cond (b := _) rfl (fun hb5 => ?_) (fun hb5 => ?_)
      · skip
        refine aw_seq (aw_region (EF := EFa) hG (by rw [hN]; exact tr10_6) ?_)
        simp only [a10_6, go_sem, ↓reduceIte, Nat.reduceEqDiff, reduceCtorEq, Nat.reduceAdd, Nat.reduceLT, Nat.reduceLeDiff, Nat.reduceBNe, Nat.reduceBEq, Int.reduceToNat, EFa, trNet, fWithin_eq]
        refine AW.le (s' := ⟨mkE [(2, .list [] false), (3, .int .i64 11)], mkH []⟩) (Le.mk _ _ ?_ ?_ rfl) (aw_ret (hQ _ _ (.inl rfl) ?_ ?_ ?_)) <;> simp only [outφ, outV, AR.res, go_sem, ↓reduceIte, Nat.reduceEqDiff, reduceCtorEq, Nat.reduceAdd, Nat.reduceLT, Nat.reduceLeDiff, Nat.reduceBNe, Nat.reduceBEq, Int.reduceToNat, fNet, netV]
        · rw [netP, if_pos (any_at (p := fun x : Due => outB x.amount) hc3 (by rw [hxx]; exact hb5))]; rfl
      · skip
        refine aw_skip ?_
        try simp only [go_sem, ↓reduceIte, Nat.reduceEqDiff, reduceCtorEq, Nat.reduceAdd, Nat.reduceLT, Nat.reduceLeDiff, Nat.reduceBNe, Nat.reduceBEq, Int.reduceToNat]
        refine aw_region (EF := EFa) hG (by rw [hN]; exact tr10_4) ?_
        simp only [a10_4, go_sem, ↓reduceIte, Nat.reduceEqDiff, reduceCtorEq, Nat.reduceAdd, Nat.reduceLT, Nat.reduceLeDiff, Nat.reduceBNe, Nat.reduceBEq, Int.reduceToNat, inI, EFa, trNet, fWithin_eq]
        (repeat' apply And.intro) <;> (try first | omega | (intros; (repeat' apply And.intro) <;> first | assumption | omega | (simp_all; done)))
        refine hKL0 (i + 1) _ ?_ ?_ ?_
        · (try dsimp only); exact ⟨hc3, take_all (p := fun x : Due => outB x.amount = false) hc3 hp (by rw [hxx]; exact hb5)⟩
        · (try dsimp only); omega
        · refine Le.mk _ _ ?_ ?_ rfl <;> simp only [go_sem, ↓reduceIte, Nat.reduceEqDiff, reduceCtorEq, Nat.reduceAdd, Nat.reduceLT, Nat.reduceLeDiff, Nat.reduceBNe, Nat.reduceBEq, Int.reduceToNat] <;> (repeat' apply And.intro) <;> (try first | rfl | exact wk_frzb rfl rfl rfl | exact wk_fn rfl | exact .nilo _ _ _ rfl rfl | exact wk_frzm rfl rfl (fun kv hk => by obtain ⟨_, _, rfl⟩ := List.mem_map.1 hk; rfl))
    · simp only [decide_eq_true_eq, decide_eq_false_iff_not, Bool.and_eq_true, Bool.or_eq_true, Bool.not_eq_true', Bool.not_eq_false', Bool.and_eq_false_iff, Bool.or_eq_false_iff, Int.ofNat_lt, Int.ofNat_le, Nat.not_lt, Nat.not_le, Int.not_lt, Int.not_le] at hc3
      refine aw_exit ?_
      simp only [go_sem, ↓reduceIte, Nat.reduceEqDiff, reduceCtorEq, Nat.reduceAdd, Nat.reduceLT, Nat.reduceLeDiff, Nat.reduceBNe, Nat.reduceBEq, Int.reduceToNat]
      refine aw_seq ?_
      have hie : i = l.length := Nat.le_antisymm hi hc3
      subst hie
      rw [List.take_length] at hp
      have hany : ¬ ((l.any fun x => outB x.amount) = true) := by rw [List.any_eq_true]; rintro ⟨x, hx, h⟩; rw [hp x hx] at h; cases h
      have hks := keys_sum (l := l) hok l.length (Nat.le_refl _)
      rw [List.take_length] at hks
      have hnet : netP l = if ((netL l).any fun p => outB p.amount) = true then ([], 11) else (netL l, 0) := by rw [netP, if_neg hany, (netL_inv l).eq hks.2.1]
      refine aw_seq (aw_region (EF := EFa) hG (by rw [hN]; exact tr10_7) ?_)
      simp only [a10_7, go_sem, ↓reduceIte, Nat.reduceEqDiff, reduceCtorEq, Nat.reduceAdd, Nat.reduceLT, Nat.reduceLeDiff, Nat.reduceBNe, Nat.reduceBEq, Int.reduceToNat, EFa, trNet, fWithin_eq]
      refine AW.le (s' := ⟨mkE [(0, .list (l.map Due.enc) false), (4, .own 999 0), (6, .int .i64 0)], mkH ([(999, .arr 30 2 (([] : List Post).map Post.enc))])⟩) (Le.mk _ _ (by (simp only [go_sem, ↓reduceIte, Nat.reduceEqDiff, reduceCtorEq, Nat.reduceAdd, Nat.reduceLT, Nat.reduceLeDiff, Nat.reduceBNe, Nat.reduceBEq, Int.reduceToNat]) <;> (repeat' apply And.intro) <;> (try first | exact wk_frzb rfl rfl rfl | rfl | exact wk_fn rfl | exact .nill _ | exact .nilo _ _ _ rfl rfl | exact wk_frz rfl (by simp only [ints_len, nats_len]) rfl (ints_pur _) | exact wk_frzm rfl rfl (fun kv hk => by obtain ⟨_, _, rfl⟩ := List.mem_map.1 hk; rfl))) (by (simp only [go_sem, ↓reduceIte, Nat.reduceEqDiff, reduceCtorEq, Nat.reduceAdd, Nat.reduceLT, Nat.reduceLeDiff, Nat.reduceBNe, Nat.reduceBEq, Int.reduceToNat]) <;> (repeat' apply And.intro) <;> (try first | exact wk_frzb rfl rfl rfl | rfl | exact wk_fn rfl | exact .nill _ | exact .nilo _ _ _ rfl rfl | exact wk_frz rfl (by simp only [ints_len, nats_len]) rfl (ints_pur _) | exact wk_frzm rfl rfl (fun kv hk => by obtain ⟨_, _, rfl⟩ := List.mem_map.1 hk; rfl))) rfl) ?_
      refine aw_block ?_
      refine aw_loop (α := Nat × (List Post)) (fun γ => (γ.1 ≤ l.length) ∧ (γ.2 = netL (l.take γ.1))) (fun γ => ⟨mkE [(0, V.list (List.map Due.enc l) false), (4, .own 999 γ.2.length), (6, .int .i64 γ.1)], mkH [(999, .arr 30 2 (γ.2.map Post.enc))]⟩) (fun γ => l.length - γ.1) (0, []) ⟨Nat.zero_le _, rfl⟩ ?_ ?_
      · refine Le.mk _ _ ?_ ?_ rfl <;> simp only [go_sem, ↓reduceIte, Nat.reduceEqDiff, reduceCtorEq, Nat.reduceAdd, Nat.reduceLT, Nat.reduceLeDiff, Nat.reduceBNe, Nat.reduceBEq, Int.reduceToNat] <;> (repeat' apply And.intro) <;> (try first | rfl | exact wk_frzb rfl rfl rfl | exact wk_fn rfl | exact .nilo _ _ _ rfl rfl | exact wk_frzm rfl rfl (fun kv hk => by obtain ⟨_, _, rfl⟩ := List.mem_map.1 hk; rfl))
      · rintro ⟨j, R⟩ ⟨hj, hR⟩ KL2 hKL2
        try dsimp only at *
        refine aw_seq ?_
        refine aw_seq (aw_region (EF := EFa) hG (by rw [hN]; exact tr10_8) ?_)
        simp only [a10_8, go_sem, ↓reduceIte, Nat.reduceEqDiff, reduceCtorEq, Nat.reduceAdd, Nat.reduceLT, Nat.reduceLeDiff, Nat.reduceBNe, Nat.reduceBEq, Int.reduceToNat, EFa, trNet, fWithin_eq]
        refine aw_cond (b := _) rfl (fun hc8 => ?_) (fun hc8 => ?_)
        · simp only [decide_eq_true_eq, decide_eq_false_iff_not, Bool.and_eq_true, Bool.or_eq_true, Bool.not_eq_true', Bool.not_eq_false', Bool.and_eq_false_iff, Bool.or_eq_false_iff, Int.ofNat_lt, Int.ofNat_le, Nat.not_lt, Nat.not_le, Int.not_lt, Int.not_le] at hc8
          have hbd := bd_sum (l := l.take j) (fun x hx => hp x (List.mem_of_mem_take hx)) j (by rw [List.length_take]; omega)
          rw [List.take_take, Nat.min_self] at hbd
          have hinv := netL_inv (l.take j)
          have hlen := netL_len (l.take j)
          rw [List.length_take] at hlen
          have hst := netL_step hc8
          have hob := out_bd (hp _ (List.getElem_mem hc8))
          rw [← hR] at hinv hlen hst
          generalize hxx : l[j] = x at hst hob
          obtain ⟨a, b, n⟩ := x
          dsimp only at hob
          have hb1 := getP_bd hinv.rise (fun k => by rw [hinv.val]; exact hbd k)
          have hinv2 := hinv.add a (-n)
          have hb2 := getP_bd hinv2.rise (fun k => by rw [hinv2.val]; exact bd_add hbd a (n := -n) (by omega) k)
          have ha1 : ∀ x ∈ R, inI (x.amount + -n) := fun x hx => by have := hb1 x hx; unfold inI; omega
          have ha2 : ∀ x ∈ addP R a (-n), inI (x.amount + n) := fun x hx => by have := hb2 x hx; unfold inI; omega
          have hl2 := addP_len R a (-n)
          have hR1 : R.length ≤ 100000 := by omega
          have hR2 : (addP R a (-n)).length ≤ 100000 := by omega
          refine aw_skip ?_
          try simp only [go_sem, ↓reduceIte, Nat.reduceEqDiff, reduceCtorEq, Nat.reduceAdd, Nat.reduceLT, Nat.reduceLeDiff, Nat.reduceBNe, Nat.reduceBEq, Int.reduceToNat]
          refine aw_cut (α := (List Post)) (fun R2 => (R2 = addPD R ⟨a, b, n⟩)) (fun R2 => ⟨mkE [(0, V.list (List.map Due.enc l) false), (4, .own 999 R2.length), (6, V.int IntKind.i64 ↑j)], mkH [(999, .arr 30 2 (R2.map Post.enc))]⟩) ?_ ?_
          · intro KCb3 hKCb3
            refine aw_block ?_
            by_cases hf : insB R a = true
            · skip
              refine aw_seq (aw_regionD (EF := EFa) hG mixed (by rw [hN]; exact tr10_10) ok10_10 ?_)
              simp only [a10_10, d10_10, go_sem, ↓reduceIte, Nat.reduceEqDiff, reduceCtorEq, Nat.reduceAdd, Nat.reduceLT, Nat.reduceLeDiff, Nat.reduceBNe, Nat.reduceBEq, Int.reduceToNat, inI, getD_mapd _ _ _ _ hc8, hc8, hxx, Due.enc, EFa, trNet, fWithin_eq]
              refine ⟨by omega, ?_⟩
              first | refine add_use2 39 hf hR1 ha1 rfl rfl (by decide) (by decide) ?_ | refine add_use1 hf hR1 ha1 rfl ?_
              simp only [go_sem, ↓reduceIte, Nat.reduceEqDiff, reduceCtorEq, Nat.reduceAdd, Nat.reduceLT, Nat.reduceLeDiff, Nat.reduceBNe, Nat.reduceBEq, Int.reduceToNat]
              by_cases hg : insB (addP R a (-n)) b = true
              · skip
                refine aw_regionD (EF := EFa) hG mixed (by rw [hN]; exact tr10_11) ok10_11 ?_
                simp only [a10_11, d10_11, go_sem, ↓reduceIte, Nat.reduceEqDiff, reduceCtorEq, Nat.reduceAdd, Nat.reduceLT, Nat.reduceLeDiff, Nat.reduceBNe, Nat.reduceBEq, Int.reduceToNat, getD_mapd _ _ _ _ hc8, hc8, hxx, Due.enc, EFa, trNet, fWithin_eq]
                first | refine add_use2 51 hg hR2 ha2 rfl rfl (by decide) (by decide) ?_ | refine add_use1 hg hR2 ha2 rfl ?_
                simp only [go_sem, ↓reduceIte, Nat.reduceEqDiff, reduceCtorEq, Nat.reduceAdd, Nat.reduceLT, Nat.reduceLeDiff, Nat.reduceBNe, Nat.reduceBEq, Int.reduceToNat]
                refine hKCb3 (addPD R ⟨a, b, n⟩) _ ?_ ?_
                · (try dsimp only); all_goals rfl
                · have hren := Le.ren (fun n => if n = 51 then 999 else n) (fun n => if n = 999 then 51 else n) [(0, .list (l.map Due.enc) false), (4, .own 51 (addPD R ⟨a, b, n⟩).length), (6, .int .i64 j)] [(51, .arr 30 2 ((addPD R ⟨a, b, n⟩).map Post.enc))] (by simp) (by simp) (by simp [V.nin, V.nins]) (by simp only [List.forall_mem_cons, List.not_mem_nil, false_implies, implies_true, forall_const, and_true, and_self, Ob.nin, addPD, Post.purs])
                  simp only [List.map_cons, List.map_nil, V.ren, V.rens, Ob.ren, if_true, Nat.reduceEqDiff, if_false] at hren
                  refine Le.trans (Le.mk [(0, .list (l.map Due.enc) false), (4, .own 51 (addPD R ⟨a, b, n⟩).length), (6, .int .i64 j)] [(51, .arr 30 2 ((addPD R ⟨a, b, n⟩).map Post.enc))] ?_ ?_ rfl) hren <;> simp only [go_sem, ↓reduceIte, Nat.reduceEqDiff, reduceCtorEq, Nat.reduceAdd, Nat.reduceLT, Nat.reduceLeDiff, Nat.reduceBNe, Nat.reduceBEq, Int.reduceToNat, addPD, Post.purs] <;> (repeat' apply And.intro) <;> (try first | rfl | exact wk_frzb rfl rfl rfl | exact wk_fn rfl | exact .nilo _ _ _ rfl rfl | exact wk_frzm rfl rfl (fun kv hk => by obtain ⟨_, _, rfl⟩ := List.mem_map.1 hk; rfl))
              · skip
                refine aw_regionD (EF := EFa) hG mixed (by rw [hN]; exact tr10_11) ok10_11 ?_
                simp only [a10_11, d10_11, go_sem, ↓reduceIte, Nat.reduceEqDiff, reduceCtorEq, Nat.reduceAdd, Nat.reduceLT, Nat.reduceLeDiff, Nat.reduceBNe, Nat.reduceBEq, Int.reduceToNat, getD_mapd _ _ _ _ hc8, hc8, hxx, Due.enc, EFa, trNet, fWithin_eq]
                first | refine add_use2 51 hg hR2 ha2 rfl rfl (by decide) (by decide) ?_ | refine add_use1 hg hR2 ha2 rfl ?_
                simp only [go_sem, ↓reduceIte, Nat.reduceEqDiff, reduceCtorEq, Nat.reduceAdd, Nat.reduceLT, Nat.reduceLeDiff, Nat.reduceBNe, Nat.reduceBEq, Int.reduceToNat]
                refine hKCb3 (addPD R ⟨a, b, n⟩) _ ?_ ?_
                · (try dsimp only); all_goals rfl
                · have hren := Le.ren (fun n => if n = 39 then 999 else n) (fun n => if n = 999 then 39 else n) [(0, .list (l.map Due.enc) false), (4, .own 39 (addPD R ⟨a, b, n⟩).length), (6, .int .i64 j)] [(39, .arr 30 2 ((addPD R ⟨a, b, n⟩).map Post.enc))] (by simp) (by simp) (by simp [V.nin, V.nins]) (by simp only [List.forall_mem_cons, List.not_mem_nil, false_implies, implies_true, forall_const, and_true, and_self, Ob.nin, addPD, Post.purs])
                  simp only [List.map_cons, List.map_nil, V.ren, V.rens, Ob.ren, if_true, Nat.reduceEqDiff, if_false] at hren
                  refine Le.trans (Le.mk [(0, .list (l.map Due.enc) false), (4, .own 39 (addPD R ⟨a, b, n⟩).length), (6, .int .i64 j)] [(39, .arr 30 2 ((addPD R ⟨a, b, n⟩).map Post.enc))] ?_ ?_ rfl) hren <;> simp only [go_sem, ↓reduceIte, Nat.reduceEqDiff, reduceCtorEq, Nat.reduceAdd, Nat.reduceLT, Nat.reduceLeDiff, Nat.reduceBNe, Nat.reduceBEq, Int.reduceToNat, addPD, Post.purs] <;> (repeat' apply And.intro) <;> (try first | rfl | exact wk_frzb rfl rfl rfl | exact wk_fn rfl | exact .nilo _ _ _ rfl rfl | exact wk_frzm rfl rfl (fun kv hk => by obtain ⟨_, _, rfl⟩ := List.mem_map.1 hk; rfl))
            · skip
              refine aw_seq (aw_regionD (EF := EFa) hG mixed (by rw [hN]; exact tr10_10) ok10_10 ?_)
              simp only [a10_10, d10_10, go_sem, ↓reduceIte, Nat.reduceEqDiff, reduceCtorEq, Nat.reduceAdd, Nat.reduceLT, Nat.reduceLeDiff, Nat.reduceBNe, Nat.reduceBEq, Int.reduceToNat, inI, getD_mapd _ _ _ _ hc8, hc8, hxx, Due.enc, EFa, trNet, fWithin_eq]
              refine ⟨by omega, ?_⟩
              first | refine add_use2 39 hf hR1 ha1 rfl rfl (by decide) (by decide) ?_ | refine add_use1 hf hR1 ha1 rfl ?_
              simp only [go_sem, ↓reduceIte, Nat.reduceEqDiff, reduceCtorEq, Nat.reduceAdd, Nat.reduceLT, Nat.reduceLeDiff, Nat.reduceBNe, Nat.reduceBEq, Int.reduceToNat]
              by_cases hg : insB (addP R a (-n)) b = true
              · skip
                refine aw_regionD (EF := EFa) hG mixed (by rw [hN]; exact tr10_11) ok10_11 ?_
                simp only [a10_11, d10_11, go_sem, ↓reduceIte, Nat.reduceEqDiff, reduceCtorEq, Nat.reduceAdd, Nat.reduceLT, Nat.reduceLeDiff, Nat.reduceBNe, Nat.reduceBEq, Int.reduceToNat, getD_mapd _ _ _ _ hc8, hc8, hxx, Due.enc, EFa, trNet, fWithin_eq]
                first | refine add_use2 51 hg hR2 ha2 rfl rfl (by decide) (by decide) ?_ | refine add_use1 hg hR2 ha2 rfl ?_
                simp only [go_sem, ↓reduceIte, Nat.reduceEqDiff, reduceCtorEq, Nat.reduceAdd, Nat.reduceLT, Nat.reduceLeDiff, Nat.reduceBNe, Nat.reduceBEq, Int.reduceToNat]
                refine hKCb3 (addPD R ⟨a, b, n⟩) _ ?_ ?_
                · (try dsimp only); all_goals rfl
                · have hren := Le.ren (fun n => if n = 51 then 999 else n) (fun n => if n = 999 then 51 else n) [(0, .list (l.map Due.enc) false), (4, .own 51 (addPD R ⟨a, b, n⟩).length), (6, .int .i64 j)] [(51, .arr 30 2 ((addPD R ⟨a, b, n⟩).map Post.enc))] (by simp) (by simp) (by simp [V.nin, V.nins]) (by simp only [List.forall_mem_cons, List.not_mem_nil, false_implies, implies_true, forall_const, and_true, and_self, Ob.nin, addPD, Post.purs])
                  simp only [List.map_cons, List.map_nil, V.ren, V.rens, Ob.ren, if_true, Nat.reduceEqDiff, if_false] at hren
                  refine Le.trans (Le.mk [(0, .list (l.map Due.enc) false), (4, .own 51 (addPD R ⟨a, b, n⟩).length), (6, .int .i64 j)] [(51, .arr 30 2 ((addPD R ⟨a, b, n⟩).map Post.enc))] ?_ ?_ rfl) hren <;> simp only [go_sem, ↓reduceIte, Nat.reduceEqDiff, reduceCtorEq, Nat.reduceAdd, Nat.reduceLT, Nat.reduceLeDiff, Nat.reduceBNe, Nat.reduceBEq, Int.reduceToNat, addPD, Post.purs] <;> (repeat' apply And.intro) <;> (try first | rfl | exact wk_frzb rfl rfl rfl | exact wk_fn rfl | exact .nilo _ _ _ rfl rfl | exact wk_frzm rfl rfl (fun kv hk => by obtain ⟨_, _, rfl⟩ := List.mem_map.1 hk; rfl))
              · skip
                refine aw_regionD (EF := EFa) hG mixed (by rw [hN]; exact tr10_11) ok10_11 ?_
                simp only [a10_11, d10_11, go_sem, ↓reduceIte, Nat.reduceEqDiff, reduceCtorEq, Nat.reduceAdd, Nat.reduceLT, Nat.reduceLeDiff, Nat.reduceBNe, Nat.reduceBEq, Int.reduceToNat, getD_mapd _ _ _ _ hc8, hc8, hxx, Due.enc, EFa, trNet, fWithin_eq]
                first | refine add_use2 51 hg hR2 ha2 rfl rfl (by decide) (by decide) ?_ | refine add_use1 hg hR2 ha2 rfl ?_
                simp only [go_sem, ↓reduceIte, Nat.reduceEqDiff, reduceCtorEq, Nat.reduceAdd, Nat.reduceLT, Nat.reduceLeDiff, Nat.reduceBNe, Nat.reduceBEq, Int.reduceToNat]
                refine hKCb3 (addPD R ⟨a, b, n⟩) _ ?_ ?_
                · (try dsimp only); all_goals rfl
                · refine Le.mk _ _ ?_ ?_ rfl <;> simp only [go_sem, ↓reduceIte, Nat.reduceEqDiff, reduceCtorEq, Nat.reduceAdd, Nat.reduceLT, Nat.reduceLeDiff, Nat.reduceBNe, Nat.reduceBEq, Int.reduceToNat, addPD] <;> (repeat' apply And.intro) <;> (try first | rfl | exact wk_frzb rfl rfl rfl | exact wk_fn rfl | exact .nilo _ _ _ rfl rfl | exact wk_frzm rfl rfl (fun kv hk => by obtain ⟨_, _, rfl⟩ := List.mem_map.1 hk; rfl))
          · rintro R2 hR2
            refine aw_region (EF := EFa) hG (by rw [hN]; exact tr10_9) ?_
            simp only [a10_9, go_sem, ↓reduceIte, Nat.reduceEqDiff, reduceCtorEq, Nat.reduceAdd, Nat.reduceLT, Nat.reduceLeDiff, Nat.reduceBNe, Nat.reduceBEq, Int.reduceToNat, inI, EFa, trNet, fWithin_eq]
            (repeat' apply And.intro) <;> (try first | omega | (intros; (repeat' apply And.intro) <;> first | assumption | omega | (simp_all; done)))
            refine hKL2 (j + 1, R2) _ ?_ ?_ ?_
            · (try dsimp only); exact ⟨hc8, by rw [hR2, hst]⟩
            · (try dsimp only); omega
            · refine Le.mk _ _ ?_ ?_ rfl <;> simp only [go_sem, ↓reduceIte, Nat.reduceEqDiff, reduceCtorEq, Nat.reduceAdd, Nat.reduceLT, Nat.reduceLeDiff, Nat.reduceBNe, Nat.reduceBEq, Int.reduceToNat] <;> (repeat' apply And.intro) <;> (try first | rfl | exact wk_frzb rfl rfl rfl | exact wk_fn rfl | exact .nilo _ _ _ rfl rfl | exact wk_frzm rfl rfl (fun kv hk => by obtain ⟨_, _, rfl⟩ := List.mem_map.1 hk; rfl))
        · simp only [decide_eq_true_eq, decide_eq_false_iff_not, Bool.and_eq_true, Bool.or_eq_true, Bool.not_eq_true', Bool.not_eq_false', Bool.and_eq_false_iff, Bool.or_eq_false_iff, Int.ofNat_lt, Int.ofNat_le, Nat.not_lt, Nat.not_le, Int.not_lt, Int.not_le] at hc8
          refine aw_exit ?_
          simp only [go_sem, ↓reduceIte, Nat.reduceEqDiff, reduceCtorEq, Nat.reduceAdd, Nat.reduceLT, Nat.reduceLeDiff, Nat.reduceBNe, Nat.reduceBEq, Int.reduceToNat]
          refine aw_seq ?_
          have hje : j = l.length := Nat.le_antisymm hj hc8
          subst hje
          rw [List.take_length] at hR
          rw [← hR] at hnet
          have hlen2 := netL_len l
          rw [← hR] at hlen2
          refine aw_seq (aw_region (EF := EFa) hG (by rw [hN]; exact tr10_12) ?_)
          simp only [a10_12, go_sem, ↓reduceIte, Nat.reduceEqDiff, reduceCtorEq, Nat.reduceAdd, Nat.reduceLT, Nat.reduceLeDiff, Nat.reduceBNe, Nat.reduceBEq, Int.reduceToNat, EFa, trNet, fWithin_eq]
          refine aw_block ?_
          refine aw_loop (α := Nat) (fun k => (k ≤ R.length) ∧ (∀ p ∈ R.take k, outB p.amount = false)) (fun k => ⟨mkE [(4, V.own 999 R.length), (7, .int .i64 k)], mkH [(999, Ob.arr 30 2 (List.map Post.enc R))]⟩) (fun k => R.length - k) 0 (by simp) ?_ ?_
          · refine Le.mk _ _ ?_ ?_ rfl <;> simp only [go_sem, ↓reduceIte, Nat.reduceEqDiff, reduceCtorEq, Nat.reduceAdd, Nat.reduceLT, Nat.reduceLeDiff, Nat.reduceBNe, Nat.reduceBEq, Int.reduceToNat] <;> (repeat' apply And.intro) <;> (try first | rfl | exact wk_frzb rfl rfl rfl | exact wk_fn rfl | exact .nilo _ _ _ rfl rfl | exact wk_frzm rfl rfl (fun kv hk => by obtain ⟨_, _, rfl⟩ := List.mem_map.1 hk; rfl))
          · rintro k ⟨hk, hq⟩ KL4 hKL4
            try dsimp only at *
            refine aw_seq ?_
            refine aw_seq (aw_region (EF := EFa) hG (by rw [hN]; exact tr10_13) ?_)
            simp only [a10_13, go_sem, ↓reduceIte, Nat.reduceEqDiff, reduceCtorEq, Nat.reduceAdd, Nat.reduceLT, Nat.reduceLeDiff, Nat.reduceBNe, Nat.reduceBEq, Int.reduceToNat, EFa, trNet, fWithin_eq]
            refine aw_cond (b := _) rfl (fun hc13 => ?_) (fun hc13 => ?_)
            · simp only [decide_eq_true_eq, decide_eq_false_iff_not, Bool.and_eq_true, Bool.or_eq_true, Bool.not_eq_true', Bool.not_eq_false', Bool.and_eq_false_iff, Bool.or_eq_false_iff, Int.ofNat_lt, Int.ofNat_le, Nat.not_lt, Nat.not_le, Int.not_lt, Int.not_le] at hc13
              refine aw_skip ?_
              try simp only [go_sem, ↓reduceIte, Nat.reduceEqDiff, reduceCtorEq, Nat.reduceAdd, Nat.reduceLT, Nat.reduceLeDiff, Nat.reduceBNe, Nat.reduceBEq, Int.reduceToNat]
              refine aw_seq ?_
              refine aw_block ?_
              generalize hyy : R[k] = y
              obtain ⟨c, m⟩ := y
              refine aw_seq (aw_region (EF := EFa) hG (by rw [hN]; exact tr10_15) ?_)
              simp only [a10_15, go_sem, ↓reduceIte, Nat.reduceEqDiff, reduceCtorEq, Nat.reduceAdd, Nat.reduceLT, Nat.reduceLeDiff, Nat.reduceBNe, Nat.reduceBEq, Int.reduceToNat, getD_mapd _ _ _ _ hc13, hc13, hyy, Post.enc, Bool.not_not, List.length_map, EFa, trNet, fWithin_eq]
              (repeat' apply And.intro) <;> (try first | omega | (intros; (repeat' apply And.intro) <;> first | assumption | omega | (simp_all; done)))
              refine aw_cond (b := _) rfl (fun hb15 => ?_) (fun hb15 => ?_)
              · skip
                refine aw_seq (aw_region (EF := EFa) hG (by rw [hN]; exact tr10_16) ?_)
                simp only [a10_16, go_sem, ↓reduceIte, Nat.reduceEqDiff, reduceCtorEq, Nat.reduceAdd, Nat.reduceLT, Nat.reduceLeDiff, Nat.reduceBNe, Nat.reduceBEq, Int.reduceToNat, EFa, trNet, fWithin_eq]
                refine AW.le (s' := ⟨mkE [(2, .list [] false), (3, .int .i64 11)], mkH []⟩) (Le.mk _ _ ?_ ?_ rfl) (aw_ret (hQ _ _ (.inl rfl) ?_ ?_ ?_)) <;> simp only [outφ, outV, AR.res, go_sem, ↓reduceIte, Nat.reduceEqDiff, reduceCtorEq, Nat.reduceAdd, Nat.reduceLT, Nat.reduceLeDiff, Nat.reduceBNe, Nat.reduceBEq, Int.reduceToNat, fNet, netV]
                · rw [hnet, if_pos (any_at (p := fun p : Post => outB p.amount) hc13 (by rw [hyy]; exact hb15))]; rfl
              · skip
                refine aw_skip ?_
                try simp only [go_sem, ↓reduceIte, Nat.reduceEqDiff, reduceCtorEq, Nat.reduceAdd, Nat.reduceLT, Nat.reduceLeDiff, Nat.reduceBNe, Nat.reduceBEq, Int.reduceToNat]
                refine aw_region (EF := EFa) hG (by rw [hN]; exact tr10_14) ?_
                simp only [a10_14, go_sem, ↓reduceIte, Nat.reduceEqDiff, reduceCtorEq, Nat.reduceAdd, Nat.reduceLT, Nat.reduceLeDiff, Nat.reduceBNe, Nat.reduceBEq, Int.reduceToNat, inI, EFa, trNet, fWithin_eq]
                (repeat' apply And.intro) <;> (try first | omega | (intros; (repeat' apply And.intro) <;> first | assumption | omega | (simp_all; done)))
                refine hKL4 (k + 1) _ ?_ ?_ ?_
                · (try dsimp only); exact ⟨hc13, take_all (p := fun x : Post => outB x.amount = false) hc13 hq (by rw [hyy]; exact hb15)⟩
                · (try dsimp only); omega
                · refine Le.mk _ _ ?_ ?_ rfl <;> simp only [go_sem, ↓reduceIte, Nat.reduceEqDiff, reduceCtorEq, Nat.reduceAdd, Nat.reduceLT, Nat.reduceLeDiff, Nat.reduceBNe, Nat.reduceBEq, Int.reduceToNat] <;> (repeat' apply And.intro) <;> (try first | rfl | exact wk_frzb rfl rfl rfl | exact wk_fn rfl | exact .nilo _ _ _ rfl rfl | exact wk_frzm rfl rfl (fun kv hk => by obtain ⟨_, _, rfl⟩ := List.mem_map.1 hk; rfl))
            · simp only [decide_eq_true_eq, decide_eq_false_iff_not, Bool.and_eq_true, Bool.or_eq_true, Bool.not_eq_true', Bool.not_eq_false', Bool.and_eq_false_iff, Bool.or_eq_false_iff, Int.ofNat_lt, Int.ofNat_le, Nat.not_lt, Nat.not_le, Int.not_lt, Int.not_le] at hc13
              refine aw_exit ?_
              simp only [go_sem, ↓reduceIte, Nat.reduceEqDiff, reduceCtorEq, Nat.reduceAdd, Nat.reduceLT, Nat.reduceLeDiff, Nat.reduceBNe, Nat.reduceBEq, Int.reduceToNat]
              have hke : k = R.length := Nat.le_antisymm hk hc13
              subst hke
              rw [List.take_length] at hq
              refine aw_seq (aw_region (EF := EFa) hG (by rw [hN]; exact tr10_17) ?_)
              simp only [a10_17, go_sem, ↓reduceIte, Nat.reduceEqDiff, reduceCtorEq, Nat.reduceAdd, Nat.reduceLT, Nat.reduceLeDiff, Nat.reduceBNe, Nat.reduceBEq, Int.reduceToNat, EFa, trNet, fWithin_eq]
              refine AW.le (s' := ⟨mkE [(2, .list (R.map Post.enc) false), (3, .int .i64 0)], mkH []⟩) (Le.mk _ _ ?_ ?_ rfl) (aw_ret (hQ _ _ (.inl rfl) ?_ ?_ ?_)) <;> simp only [outφ, outV, AR.res, go_sem, ↓reduceIte, Nat.reduceEqDiff, reduceCtorEq, Nat.reduceAdd, Nat.reduceLT, Nat.reduceLeDiff, Nat.reduceBNe, Nat.reduceBEq, Int.reduceToNat, fNet, netV]
              · exact wk_frz rfl (by rw [List.length_map]) rfl ((Post.purs _).2 trivial)
              · rw [hnet, if_neg (by rw [List.any_eq_true]; rintro ⟨x, hx, h⟩; rw [hq x hx] at h; cases h)]
end Go.Proofs.Ytajobknfhbnjcaa
