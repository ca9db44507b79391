/- Settled and Bill, both. -/
import Derived.Test.YtkdkjbneohdofaaDoorSe7
namespace Go.Proofs.YtkdkjbneohdofaaDoor
open Go Go.RowKit
set_option linter.unusedSimpArgs false
set_option linter.unusedVariables false
set_option linter.deprecated false
def aSet (x : List Due × List Due) : List V := [.list (x.1.map Due.enc) false, .list (x.2.map Due.enc) false]
theorem aSet_inj (a b : List Due × List Due) (h : aSet a = aSet b) : a = b := by
  obtain ⟨a_a, a_b⟩ := a
  obtain ⟨b_a, b_b⟩ := b
  simp only [aSet, List.cons.injEq, V.str.injEq, V.int.injEq, V.bool.injEq, V.agg.injEq, V.list.injEq, and_true, true_and] at h
  obtain ⟨h0, h1⟩ := h
  replace h0 := map_inj' Due.inj h0
  subst h0
  replace h1 := map_inj' Due.inj h1
  subst h1
  rfl
def eqB (a b : List Post) : Bool := (a.all fun x => decide (getP b x.account = x.amount)) && (b.all fun x => decide (getP a x.account = x.amount))
def setP (d p : List Due) : Bool := decide ((netP d).2 = 0) && decide ((netP p).2 = 0) && eqB (netP d).1 (netP p).1
def fSet (x : List Due × List Due) : Prop × V := (OkD x.1 ∧ OkD x.2, .bool (setP x.1 x.2))
theorem fSet_eq (a b : List Due) : gOf aSet fSet [.list (a.map Due.enc) false, .list (b.map Due.enc) false] = (OkD a ∧ OkD b, .bool (setP a b)) := gOf_eq aSet_inj (a, b)
/-- The balances that come out of Net. -/
structure NetOk (a : List Post) (n : Nat) : Prop where
  rise : RiseP a
  bd : ∀ x ∈ a, outB x.amount = false
  len : a.length ≤ n
theorem net_ok {l : List Due} (h : OkD l) (h0 : (netP l).2 = 0) : NetOk (netP l).1 (2 * l.length) ∧ (netP l).1 = netL l := by
  have hks := keys_sum (l := l) h.2 l.length (Nat.le_refl _)
  rw [List.take_length] at hks
  have he := (netL_inv l).eq hks.2.1
  unfold netP at h0 ⊢
  split
  · rename_i c; rw [if_pos c] at h0; cases h0
  · rename_i c
    rw [if_neg c] at h0
    split
    · rename_i c2; rw [if_pos c2] at h0; cases h0
    · rename_i c2
      refine ⟨⟨?_, fun x hx => ?_, ?_⟩, he.symm⟩
      · rw [← he]; exact (netL_inv l).rise
      · cases h3 : outB x.amount with
        | false => rfl
        | true => exact absurd (List.any_eq_true.2 ⟨x, hx, h3⟩) c2
      · rw [← he]; exact netL_len l
theorem net_len {l : List Due} (h : OkD l) : (netP l).1.length ≤ 2000 := by
  by_cases h0 : (netP l).2 = 0
  · have := (net_ok h h0).1.len; have := h.1; omega
  · unfold netP at h0 ⊢
    split
    · simp
    · rename_i c
      rw [if_neg c] at h0
      split
      · simp
      · rename_i c2; rw [if_neg c2] at h0; exact absurd rfl h0
/-! Two lists of balances, one taken from the other. -/
def plusA (L : Assoc Int) (a : List Post) : Assoc Int := a.foldl (fun L x => addA L x.account x.amount) L
def minusA (L : Assoc Int) (b : List Post) : Assoc Int := b.foldl (fun L x => addA L x.account (-x.amount)) L
theorem plusA_step {L : Assoc Int} {a : List Post} {i : Nat} (h : i < a.length) : plusA L (a.take (i + 1)) = addA (plusA L (a.take i)) a[i].account a[i].amount := by
  unfold plusA; rw [take_succ' h, List.foldl_append]; rfl
theorem minusA_step {L : Assoc Int} {a : List Post} {i : Nat} (h : i < a.length) : minusA L (a.take (i + 1)) = addA (minusA L (a.take i)) a[i].account (-a[i].amount) := by
  unfold minusA; rw [take_succ' h, List.foldl_append]; rfl
theorem rise_nd {a : List Post} (h : RiseP a) : (a.map (·.account)).Nodup := h.imp fun {x y} h e => by subst e; rw [slt_irr] at h; cases h
theorem getA_plus {a : List Post} (h : (a.map (·.account)).Nodup) : ∀ (L : Assoc Int) (k : List UInt8), getA (plusA L a) k = getA L k + getP a k := by
  induction a with
  | nil => intro L k; simp [plusA, getP]
  | cons x a ih =>
    intro L k
    obtain ⟨h1, h2⟩ := List.nodup_cons.1 h
    show getA (plusA (addA L x.account x.amount) a) k = _
    rw [ih h2, getA_add, getP]
    by_cases e : x.account = k
    · subst e; rw [if_pos rfl, if_pos rfl, getP_none h1]; omega
    · rw [if_neg e, if_neg e]
theorem getA_minus {a : List Post} (h : (a.map (·.account)).Nodup) : ∀ (L : Assoc Int) (k : List UInt8), getA (minusA L a) k = getA L k - getP a k := by
  induction a with
  | nil => intro L k; simp [minusA, getP]
  | cons x a ih =>
    intro L k
    obtain ⟨h1, h2⟩ := List.nodup_cons.1 h
    show getA (minusA (addA L x.account (-x.amount)) a) k = _
    rw [ih h2, getA_add, getP]
    by_cases e : x.account = k
    · subst e; rw [if_pos rfl, if_pos rfl, getP_none h1]; omega
    · rw [if_neg e, if_neg e]
theorem mem_plus (a : List Post) : ∀ (L : Assoc Int) (k : List UInt8), k ∈ (plusA L a).map (·.1) ↔ k ∈ a.map (·.account) ∨ k ∈ L.map (·.1) := by
  induction a with
  | nil => intro L k; simp [plusA]
  | cons x a ih =>
    intro L k
    show k ∈ (plusA (addA L x.account x.amount) a).map (·.1) ↔ _
    rw [ih, show k ∈ (addA L x.account x.amount).map (·.1) ↔ k = x.account ∨ k ∈ L.map (·.1) from aput_mem L x.account k _, List.map_cons, List.mem_cons]
    constructor
    · rintro (h | h | h); exact .inl (.inr h); exact .inl (.inl h); exact .inr h
    · rintro ((h | h) | h); exact .inr (.inl h); exact .inl h; exact .inr (.inr h)
theorem mem_minus (a : List Post) : ∀ (L : Assoc Int) (k : List UInt8), k ∈ (minusA L a).map (·.1) ↔ k ∈ a.map (·.account) ∨ k ∈ L.map (·.1) := by
  induction a with
  | nil => intro L k; simp [minusA]
  | cons x a ih =>
    intro L k
    show k ∈ (minusA (addA L x.account (-x.amount)) a).map (·.1) ↔ _
    rw [ih, show k ∈ (addA L x.account (-x.amount)).map (·.1) ↔ k = x.account ∨ k ∈ L.map (·.1) from aput_mem L x.account k _, List.map_cons, List.mem_cons]
    constructor
    · rintro (h | h | h); exact .inl (.inr h); exact .inl (.inl h); exact .inr h
    · rintro ((h | h) | h); exact .inr (.inl h); exact .inl h; exact .inr (.inr h)
theorem nd_plus (a : List Post) : ∀ {L : Assoc Int}, (L.map (·.1)).Nodup → ((plusA L a).map (·.1)).Nodup := by
  induction a with
  | nil => intro L h; exact h
  | cons x a ih => intro L h; exact ih (aput_nd h _ _)
theorem nd_minus (a : List Post) : ∀ {L : Assoc Int}, (L.map (·.1)).Nodup → ((minusA L a).map (·.1)).Nodup := by
  induction a with
  | nil => intro L h; exact h
  | cons x a ih => intro L h; exact ih (aput_nd h _ _)
theorem getA_mem {L : Assoc Int} (nd : (L.map (·.1)).Nodup) {p : List UInt8 × Int} (h : p ∈ L) : getA L p.1 = p.2 := by
  induction L with
  | nil => cases h
  | cons q L ih =>
    obtain ⟨k', v'⟩ := q
    obtain ⟨n1, n2⟩ := List.nodup_cons.1 nd
    unfold getA
    rw [aget_cons]
    rcases List.mem_cons.1 h with rfl | h
    · rw [if_pos rfl]; rfl
    · rw [if_neg (fun e => n1 (by rw [show k' = p.1 from e]; exact List.mem_map.2 ⟨p, h, rfl⟩))]
      exact ih n2 h
def allZ (L : Assoc Int) : Bool := L.all fun p => decide (p.2 = 0)
theorem getP_mem {a : List Post} (h : (a.map (·.account)).Nodup) {x : Post} (hx : x ∈ a) : getP a x.account = x.amount := by
  induction a with
  | nil => cases hx
  | cons y a ih =>
    obtain ⟨n1, n2⟩ := List.nodup_cons.1 h
    rw [getP]
    rcases List.mem_cons.1 hx with rfl | hx
    · rw [if_pos rfl]
    · rw [if_neg (fun e => n1 (by show y.account ∈ _; rw [e]; exact List.mem_map.2 ⟨x, hx, rfl⟩)), ih n2 hx]
theorem all_eq {a b : List Post} (ha : RiseP a) (hb : RiseP b) : allZ (minusA (plusA [] a) b) = eqB a b := by
  have na := rise_nd ha
  have nb := rise_nd hb
  have hg : ∀ k, getA (minusA (plusA [] a) b) k = getP a k - getP b k := fun k => by
    rw [getA_minus nb, getA_plus na]; show 0 + _ - _ = _; omega
  have hm : ∀ k, k ∈ (minusA (plusA [] a) b).map (·.1) ↔ k ∈ b.map (·.account) ∨ k ∈ a.map (·.account) := fun k => by
    rw [mem_minus, mem_plus]; simp
  have nd : ((minusA (plusA [] a) b).map (·.1)).Nodup := nd_minus b (nd_plus a (by simp))
  generalize minusA (plusA [] a) b = M at hg hm nd
  have key : allZ M = true ↔ ∀ k, getP a k = getP b k := by
    unfold allZ
    rw [List.all_eq_true]
    constructor
    · intro h k
      by_cases hk : k ∈ M.map (·.1)
      · obtain ⟨p, hp, rfl⟩ := List.mem_map.1 hk
        have := of_decide_eq_true (h p hp)
        have h2 := hg p.1
        rw [getA_mem nd hp] at h2
        omega
      · rw [hm, not_or] at hk
        rw [getP_none hk.1, getP_none hk.2]
    · intro h p hp
      have h2 := hg p.1
      rw [getA_mem nd hp, h] at h2
      exact decide_eq_true (by omega)
  have key2 : eqB a b = true ↔ ∀ k, getP a k = getP b k := by
    unfold eqB
    rw [Bool.and_eq_true, List.all_eq_true, List.all_eq_true]
    constructor
    · rintro ⟨h1, h2⟩ k
      by_cases hk : k ∈ a.map (·.account)
      · obtain ⟨x, hx, rfl⟩ := List.mem_map.1 hk
        rw [getP_mem na hx]; exact (of_decide_eq_true (h1 x hx)).symm
      · by_cases hk2 : k ∈ b.map (·.account)
        · obtain ⟨x, hx, rfl⟩ := List.mem_map.1 hk2
          rw [getP_mem nb hx]; exact of_decide_eq_true (h2 x hx)
        · rw [getP_none hk, getP_none hk2]
    · intro h
      exact ⟨fun x hx => decide_eq_true (by rw [← h, getP_mem na hx]), fun x hx => decide_eq_true (by rw [h, getP_mem nb hx])⟩
  rw [Bool.eq_iff_iff, key, key2]
theorem bd_plus {L : Assoc Int} {B : Int} (h : BdA L B) {a : List Post} (ha : ∀ x ∈ a, outB x.amount = false) : ∀ i, i ≤ a.length → BdA (plusA L (a.take i)) (B + i * 1099511627776)
  | 0, _ => by simpa [plusA] using h
  | i + 1, hi => by
    rw [plusA_step (by omega)]
    have := bd_add (bd_plus h ha i (by omega)) a[i].account (out_bd (ha _ (List.getElem_mem (by omega : i < a.length))))
    rw [show B + (i : Int) * 1099511627776 + 1099511627776 = B + ((i + 1 : Nat) : Int) * 1099511627776 by omega] at this
    exact this
theorem bd_minus {L : Assoc Int} {B : Int} (h : BdA L B) {a : List Post} (ha : ∀ x ∈ a, outB x.amount = false) : ∀ i, i ≤ a.length → BdA (minusA L (a.take i)) (B + i * 1099511627776)
  | 0, _ => by simpa [minusA] using h
  | i + 1, hi => by
    rw [minusA_step (by omega)]
    have hb := out_bd (ha _ (List.getElem_mem (by omega : i < a.length)))
    have := bd_add (bd_minus h ha i (by omega)) a[i].account (n := -a[i].amount) (by omega)
    rw [show B + (i : Int) * 1099511627776 + 1099511627776 = B + ((i + 1 : Nat) : Int) * 1099511627776 by omega] at this
    exact this
noncomputable def tSet : Tab
  | 7 => (gOf aDues fNet)
  | _ => gNo
theorem tSet_ok : ∀ f, PureC Tryd.prog UT f (tSet f) := fun f => by
  unfold tSet
  split
  · exact net_p
  · exact PureC.no
set_option maxHeartbeats 8000000 in
theorem settled_p : PureC Tryd.prog UT 9 (gOf aSet fSet) := by
  have hG := tSet_ok
  refine PureC.ofArgs aSet_inj Tryd.func9 body9 nm9 res9 ?_
  rintro ⟨du, pa⟩ hv
  refine ⟨by rw [nt9]; simp [aSet], fun C hN Q hQ => ?_⟩
  rw [nt9] at hN
  unfold c9
  obtain ⟨hd, hp⟩ : OkD du ∧ OkD pa := hv
  have hnd := net_ok hd
  have hnp := net_ok hp
  have hset : setP du pa = (decide ((netP du).2 = 0) && decide ((netP pa).2 = 0) && eqB (netP du).1 (netP pa).1) := rfl
  obtain ⟨⟨a, e⟩, hna⟩ : ∃ y, netP du = y := ⟨_, rfl⟩
  obtain ⟨⟨b, f⟩, hnb⟩ : ∃ y, netP pa = y := ⟨_, rfl⟩
  rw [hna] at hnd hset
  rw [hnb] at hnp hset
  dsimp only at hnd hnp hset
  have hdl := hd.1
  have hpl := hp.1
  refine aw_seq (aw_region (EF := EF0) hG (by rw [hN]; exact tr9_0) ?_)
  simp only [a9_0, go_sem, ↓reduceIte, Nat.reduceEqDiff, reduceCtorEq, Nat.reduceAdd, Nat.reduceLT, Nat.reduceLeDiff, Nat.reduceBNe, Nat.reduceBEq, Int.reduceToNat, aSet, tSet, fNet_eq]
  refine aw_seq (aw_region (EF := EF0) hG (by rw [hN]; exact tr9_1) ?_)
  simp only [a9_1, go_sem, ↓reduceIte, Nat.reduceEqDiff, reduceCtorEq, Nat.reduceAdd, Nat.reduceLT, Nat.reduceLeDiff, Nat.reduceBNe, Nat.reduceBEq, Int.reduceToNat, hd, hna, netV, tSet, fNet_eq]
  (repeat' apply And.intro) <;> (try first | omega | ((fail_if_success refine idW ?_); (fail_if_success refine idS ?_); intros; (repeat' apply And.intro) <;> first | assumption | omega | (simp_all; done)))
  refine aw_seq (aw_region (EF := EF0) hG (by rw [hN]; exact tr9_2) ?_)
  simp only [a9_2, go_sem, ↓reduceIte, Nat.reduceEqDiff, reduceCtorEq, Nat.reduceAdd, Nat.reduceLT, Nat.reduceLeDiff, Nat.reduceBNe, Nat.reduceBEq, Int.reduceToNat, hp, hnb, netV, tSet, fNet_eq]
  (repeat' apply And.intro) <;> (try first | omega | ((fail_if_success refine idW ?_); (fail_if_success refine idS ?_); intros; (repeat' apply And.intro) <;> first | assumption | omega | (simp_all; done)))
  refine aw_seq ?_
  refine aw_seq (aw_region (EF := EF0) hG (by rw [hN]; exact tr9_3) ?_)
  simp only [a9_3, go_sem, ↓reduceIte, Nat.reduceEqDiff, reduceCtorEq, Nat.reduceAdd, Nat.reduceLT, Nat.reduceLeDiff, Nat.reduceBNe, Nat.reduceBEq, Int.reduceToNat, tSet, fNet_eq]
  (repeat' apply And.intro) <;> (try first | omega | ((fail_if_success refine idW ?_); (fail_if_success refine idS ?_); intros; (repeat' apply And.intro) <;> first | assumption | omega | (simp_all; done)))
  refine aw_cond (b := _) rfl (fun hb3 => ?_) (fun hb3 => ?_)
  · skip
    refine aw_seq (aw_region (EF := EF0) hG (by rw [hN]; exact tr9_4) ?_)
    simp only [a9_4, go_sem, ↓reduceIte, Nat.reduceEqDiff, reduceCtorEq, Nat.reduceAdd, Nat.reduceLT, Nat.reduceLeDiff, Nat.reduceBNe, Nat.reduceBEq, Int.reduceToNat, tSet, fNet_eq]
    refine aw_ret ?_
    show Q _ _
    refine hQ _ _ (.inl rfl) ?_ ?_ ?_ <;> simp only [outφ, outV, AR.res, go_sem, ↓reduceIte, Nat.reduceEqDiff, reduceCtorEq, Nat.reduceAdd, Nat.reduceLT, Nat.reduceLeDiff, Nat.reduceBNe, Nat.reduceBEq, Int.reduceToNat, fSet]
    rw [hset]; refine congrArg V.bool ?_; rcases Bool.or_eq_true_iff.1 hb3 with h | h; (have : decide (e = 0) = false := by simpa using h); (rw [this]; rfl); (have : decide (f = 0) = false := by simpa using h); (rw [this, Bool.and_false]; rfl)
  · skip
    obtain ⟨he0, hf0⟩ : e = 0 ∧ f = 0 := by simpa using hb3
    obtain ⟨⟨hra, hba, hla⟩, _⟩ := hnd he0
    obtain ⟨⟨hrb, hbb, hlb⟩, _⟩ := hnp hf0
    rw [he0, hf0] at hset
    refine aw_skip ?_
    try simp only [go_sem, ↓reduceIte, Nat.reduceEqDiff, reduceCtorEq, Nat.reduceAdd, Nat.reduceLT, Nat.reduceLeDiff, Nat.reduceBNe, Nat.reduceBEq, Int.reduceToNat]
    refine aw_seq (aw_region (EF := EF0) hG (by rw [hN]; exact tr9_5) ?_)
    simp only [a9_5, go_sem, ↓reduceIte, Nat.reduceEqDiff, reduceCtorEq, Nat.reduceAdd, Nat.reduceLT, Nat.reduceLeDiff, Nat.reduceBNe, Nat.reduceBEq, Int.reduceToNat, tSet, fNet_eq]
    refine aw_seq ?_
    refine aw_seq (aw_region (EF := EF0) hG (by rw [hN]; exact tr9_6) ?_)
    simp only [a9_6, go_sem, ↓reduceIte, Nat.reduceEqDiff, reduceCtorEq, Nat.reduceAdd, Nat.reduceLT, Nat.reduceLeDiff, Nat.reduceBNe, Nat.reduceBEq, Int.reduceToNat, tSet, fNet_eq]
    refine aw_block ?_
    refine aw_loop (α := Nat) (fun i => (i ≤ a.length)) (fun i => ⟨mkE [(7, V.list (List.map Post.enc b) false), (9, V.map 32), (33, V.list (List.map Post.enc a) false), (34, V.int IntKind.i64 ↑a.length), (35, .int .i64 i)], mkH [(32, .mp (kmap fI8 (plusA [] (a.take i))))]⟩) (fun i => a.length - i) 0 (by simp) ?_ ?_
    · refine Le.mk _ _ ?_ ?_ rfl <;> simp only [go_sem, ↓reduceIte, Nat.reduceEqDiff, reduceCtorEq, Nat.reduceAdd, Nat.reduceLT, Nat.reduceLeDiff, Nat.reduceBNe, Nat.reduceBEq, Int.reduceToNat, show plusA [] ([] : List Post) = [] from rfl] <;> (repeat' apply And.intro) <;> (try first | rfl | exact wk_frzb rfl rfl rfl | exact wk_fn rfl | exact .nilo _ _ _ rfl rfl | exact wk_frzm rfl rfl (fun kv hk => by obtain ⟨_, _, rfl⟩ := List.mem_map.1 hk; rfl))
    · rintro i hi KL0 hKL0
      try dsimp only at *
      refine aw_seq (aw_region (EF := EF0) hG (by rw [hN]; exact tr9_7) ?_)
      simp only [a9_7, go_sem, ↓reduceIte, Nat.reduceEqDiff, reduceCtorEq, Nat.reduceAdd, Nat.reduceLT, Nat.reduceLeDiff, Nat.reduceBNe, Nat.reduceBEq, Int.reduceToNat, tSet, fNet_eq]
      refine aw_seq ?_
      refine aw_cond (b := _) rfl (fun hc7 => ?_) (fun hc7 => ?_)
      · simp only [decide_eq_true_eq, decide_eq_false_iff_not, Bool.and_eq_true, Bool.or_eq_true, Bool.not_eq_true', Bool.not_eq_false', Bool.and_eq_false_iff, Bool.or_eq_false_iff, Int.ofNat_lt, Int.ofNat_le, Nat.not_lt, Nat.not_le, Int.not_lt, Int.not_le] at hc7
        refine aw_skip ?_
        try simp only [go_sem, ↓reduceIte, Nat.reduceEqDiff, reduceCtorEq, Nat.reduceAdd, Nat.reduceLT, Nat.reduceLeDiff, Nat.reduceBNe, Nat.reduceBEq, Int.reduceToNat]
        refine aw_seq ?_
        refine aw_block ?_
        have hst := plusA_step (L := []) hc7
        have hbd := bd_plus (L := []) bd_nil hba i hi
        have hxb := out_bd (hba _ (List.getElem_mem hc7))
        generalize plusA [] (a.take i) = L at hst hbd
        generalize hxx : a[i] = x at hst hxb
        obtain ⟨k, n⟩ := x
        dsimp only at hst hxb
        have h1 := hbd k
        unfold addA at hst
        simp only [getA] at hst h1
        refine aw_seq (aw_region (EF := EF0) hG (by rw [hN]; exact tr9_8) ?_)
        simp only [a9_8, go_sem, ↓reduceIte, Nat.reduceEqDiff, reduceCtorEq, Nat.reduceAdd, Nat.reduceLT, Nat.reduceLeDiff, Nat.reduceBNe, Nat.reduceBEq, Int.reduceToNat, getD_mapd _ _ _ _ hc7, hc7, hxx, Post.enc, tSet, fNet_eq]
        (repeat' apply And.intro) <;> (try first | omega | ((fail_if_success refine idW ?_); (fail_if_success refine idS ?_); intros; (repeat' apply And.intro) <;> first | assumption | omega | (simp_all; done)))
        refine aw_region (EF := EF0) hG (by rw [hN]; exact tr9_9) ?_
        simp only [a9_9, go_sem, ↓reduceIte, Nat.reduceEqDiff, reduceCtorEq, Nat.reduceAdd, Nat.reduceLT, Nat.reduceLeDiff, Nat.reduceBNe, Nat.reduceBEq, Int.reduceToNat, inI, tSet, fNet_eq]
        (repeat' apply And.intro) <;> (try first | omega | ((fail_if_success refine idW ?_); (fail_if_success refine idS ?_); intros; (repeat' apply And.intro) <;> first | assumption | omega | (simp_all; done)))
        refine aw_region (EF := EF0) hG (by rw [hN]; exact tr9_10) ?_
        simp only [a9_10, go_sem, ↓reduceIte, Nat.reduceEqDiff, reduceCtorEq, Nat.reduceAdd, Nat.reduceLT, Nat.reduceLeDiff, Nat.reduceBNe, Nat.reduceBEq, Int.reduceToNat, inI, tSet, fNet_eq]
        (repeat' apply And.intro) <;> (try first | omega | ((fail_if_success refine idW ?_); (fail_if_success refine idS ?_); intros; (repeat' apply And.intro) <;> first | assumption | omega | (simp_all; done)))
        refine hKL0 (i + 1) _ ?_ ?_ ?_
        · (try dsimp only); exact hc7
        · (try dsimp only); omega
        · refine Le.mk _ _ ?_ ?_ rfl <;> simp only [go_sem, ↓reduceIte, Nat.reduceEqDiff, reduceCtorEq, Nat.reduceAdd, Nat.reduceLT, Nat.reduceLeDiff, Nat.reduceBNe, Nat.reduceBEq, Int.reduceToNat, hst] <;> (repeat' apply And.intro) <;> (try first | rfl | exact wk_frzb rfl rfl rfl | exact wk_fn rfl | exact .nilo _ _ _ rfl rfl | exact wk_frzm rfl rfl (fun kv hk => by obtain ⟨_, _, rfl⟩ := List.mem_map.1 hk; rfl))
      · simp only [decide_eq_true_eq, decide_eq_false_iff_not, Bool.and_eq_true, Bool.or_eq_true, Bool.not_eq_true', Bool.not_eq_false', Bool.and_eq_false_iff, Bool.or_eq_false_iff, Int.ofNat_lt, Int.ofNat_le, Nat.not_lt, Nat.not_le, Int.not_lt, Int.not_le] at hc7
        refine aw_exit ?_
        simp only [go_sem, ↓reduceIte, Nat.reduceEqDiff, reduceCtorEq, Nat.reduceAdd, Nat.reduceLT, Nat.reduceLeDiff, Nat.reduceBNe, Nat.reduceBEq, Int.reduceToNat]
        refine aw_seq ?_
        have hie : i = a.length := Nat.le_antisymm hi hc7
        subst hie
        refine aw_seq (aw_region (EF := EF0) hG (by rw [hN]; exact tr9_11) ?_)
        simp only [a9_11, go_sem, ↓reduceIte, Nat.reduceEqDiff, reduceCtorEq, Nat.reduceAdd, Nat.reduceLT, Nat.reduceLeDiff, Nat.reduceBNe, Nat.reduceBEq, Int.reduceToNat, List.take_length, tSet, fNet_eq]
        refine aw_block ?_
        refine aw_loop (α := Nat) (fun j => (j ≤ b.length)) (fun j => ⟨mkE [(9, V.map 32), (47, V.list (List.map Post.enc b) false), (48, V.int IntKind.i64 ↑b.length), (49, .int .i64 j)], mkH [(32, .mp (kmap fI8 (minusA (plusA [] a) (b.take j))))]⟩) (fun j => b.length - j) 0 (by simp) ?_ ?_
        · refine Le.mk _ _ ?_ ?_ rfl <;> simp only [go_sem, ↓reduceIte, Nat.reduceEqDiff, reduceCtorEq, Nat.reduceAdd, Nat.reduceLT, Nat.reduceLeDiff, Nat.reduceBNe, Nat.reduceBEq, Int.reduceToNat, show minusA (plusA [] a) ([] : List Post) = plusA [] a from rfl] <;> (repeat' apply And.intro) <;> (try first | rfl | exact wk_frzb rfl rfl rfl | exact wk_fn rfl | exact .nilo _ _ _ rfl rfl | exact wk_frzm rfl rfl (fun kv hk => by obtain ⟨_, _, rfl⟩ := List.mem_map.1 hk; rfl))
        · rintro j hj KL2 hKL2
          try dsimp only at *
          refine aw_seq (aw_region (EF := EF0) hG (by rw [hN]; exact tr9_12) ?_)
          simp only [a9_12, go_sem, ↓reduceIte, Nat.reduceEqDiff, reduceCtorEq, Nat.reduceAdd, Nat.reduceLT, Nat.reduceLeDiff, Nat.reduceBNe, Nat.reduceBEq, Int.reduceToNat, tSet, fNet_eq]
          refine aw_seq ?_
          refine aw_cond (b := _) rfl (fun hc12 => ?_) (fun hc12 => ?_)
          · simp only [decide_eq_true_eq, decide_eq_false_iff_not, Bool.and_eq_true, Bool.or_eq_true, Bool.not_eq_true', Bool.not_eq_false', Bool.and_eq_false_iff, Bool.or_eq_false_iff, Int.ofNat_lt, Int.ofNat_le, Nat.not_lt, Nat.not_le, Int.not_lt, Int.not_le] at hc12
            refine aw_skip ?_
            try simp only [go_sem, ↓reduceIte, Nat.reduceEqDiff, reduceCtorEq, Nat.reduceAdd, Nat.reduceLT, Nat.reduceLeDiff, Nat.reduceBNe, Nat.reduceBEq, Int.reduceToNat]
            refine aw_seq ?_
            refine aw_block ?_
            have hst := minusA_step (L := plusA [] a) hc12
            have hbp := bd_plus (L := []) bd_nil hba a.length (Nat.le_refl _)
            rw [List.take_length] at hbp
            have hbd := bd_minus hbp hbb j hj
            have hxb := out_bd (hbb _ (List.getElem_mem hc12))
            generalize minusA (plusA [] a) (b.take j) = L at hst hbd
            generalize hxx : b[j] = x at hst hxb
            obtain ⟨k, n⟩ := x
            dsimp only at hst hxb
            have h1 := hbd k
            unfold addA at hst
            simp only [getA] at hst h1
            rw [← Int.sub_eq_add_neg] at hst
            refine aw_seq (aw_region (EF := EF0) hG (by rw [hN]; exact tr9_13) ?_)
            simp only [a9_13, go_sem, ↓reduceIte, Nat.reduceEqDiff, reduceCtorEq, Nat.reduceAdd, Nat.reduceLT, Nat.reduceLeDiff, Nat.reduceBNe, Nat.reduceBEq, Int.reduceToNat, getD_mapd _ _ _ _ hc12, hc12, hxx, Post.enc, tSet, fNet_eq]
            (repeat' apply And.intro) <;> (try first | omega | ((fail_if_success refine idW ?_); (fail_if_success refine idS ?_); intros; (repeat' apply And.intro) <;> first | assumption | omega | (simp_all; done)))
            refine aw_region (EF := EF0) hG (by rw [hN]; exact tr9_14) ?_
            simp only [a9_14, go_sem, ↓reduceIte, Nat.reduceEqDiff, reduceCtorEq, Nat.reduceAdd, Nat.reduceLT, Nat.reduceLeDiff, Nat.reduceBNe, Nat.reduceBEq, Int.reduceToNat, inI, tSet, fNet_eq]
            (repeat' apply And.intro) <;> (try first | omega | ((fail_if_success refine idW ?_); (fail_if_success refine idS ?_); intros; (repeat' apply And.intro) <;> first | assumption | omega | (simp_all; done)))
            refine aw_region (EF := EF0) hG (by rw [hN]; exact tr9_15) ?_
            simp only [a9_15, go_sem, ↓reduceIte, Nat.reduceEqDiff, reduceCtorEq, Nat.reduceAdd, Nat.reduceLT, Nat.reduceLeDiff, Nat.reduceBNe, Nat.reduceBEq, Int.reduceToNat, inI, tSet, fNet_eq]
            (repeat' apply And.intro) <;> (try first | omega | ((fail_if_success refine idW ?_); (fail_if_success refine idS ?_); intros; (repeat' apply And.intro) <;> first | assumption | omega | (simp_all; done)))
            refine hKL2 (j + 1) _ ?_ ?_ ?_
            · (try dsimp only); exact hc12
            · (try dsimp only); omega
            · refine Le.mk _ _ ?_ ?_ rfl <;> simp only [go_sem, ↓reduceIte, Nat.reduceEqDiff, reduceCtorEq, Nat.reduceAdd, Nat.reduceLT, Nat.reduceLeDiff, Nat.reduceBNe, Nat.reduceBEq, Int.reduceToNat, hst] <;> (repeat' apply And.intro) <;> (try first | rfl | exact wk_frzb rfl rfl rfl | exact wk_fn rfl | exact .nilo _ _ _ rfl rfl | exact wk_frzm rfl rfl (fun kv hk => by obtain ⟨_, _, rfl⟩ := List.mem_map.1 hk; rfl))
          · simp only [decide_eq_true_eq, decide_eq_false_iff_not, Bool.and_eq_true, Bool.or_eq_true, Bool.not_eq_true', Bool.not_eq_false', Bool.and_eq_false_iff, Bool.or_eq_false_iff, Int.ofNat_lt, Int.ofNat_le, Nat.not_lt, Nat.not_le, Int.not_lt, Int.not_le] at hc12
            refine aw_exit ?_
            simp only [go_sem, ↓reduceIte, Nat.reduceEqDiff, reduceCtorEq, Nat.reduceAdd, Nat.reduceLT, Nat.reduceLeDiff, Nat.reduceBNe, Nat.reduceBEq, Int.reduceToNat]
            refine aw_seq ?_
            have hje : j = b.length := Nat.le_antisymm hj hc12
            subst hje
            rw [List.take_length]
            refine AW.le (s' := ⟨mkE [(9, .fmap (kmap fI8 (minusA (plusA [] a) b)))], mkH ([])⟩) (Le.mk _ _ (by (simp only [go_sem, ↓reduceIte, Nat.reduceEqDiff, reduceCtorEq, Nat.reduceAdd, Nat.reduceLT, Nat.reduceLeDiff, Nat.reduceBNe, Nat.reduceBEq, Int.reduceToNat]) <;> (repeat' apply And.intro) <;> (try first | exact wk_frzb rfl rfl rfl | rfl | exact wk_fn rfl | exact .nill _ | exact .nilo _ _ _ rfl rfl | exact wk_frz rfl (by simp only [ints_len, nats_len]) rfl (ints_pur _) | exact wk_frzm rfl rfl (fun kv hk => by obtain ⟨_, _, rfl⟩ := List.mem_map.1 hk; rfl))) (by (simp only [go_sem, ↓reduceIte, Nat.reduceEqDiff, reduceCtorEq, Nat.reduceAdd, Nat.reduceLT, Nat.reduceLeDiff, Nat.reduceBNe, Nat.reduceBEq, Int.reduceToNat]) <;> (repeat' apply And.intro) <;> (try first | exact wk_frzb rfl rfl rfl | rfl | exact wk_fn rfl | exact .nill _ | exact .nilo _ _ _ rfl rfl | exact wk_frz rfl (by simp only [ints_len, nats_len]) rfl (ints_pur _) | exact wk_frzm rfl rfl (fun kv hk => by obtain ⟨_, _, rfl⟩ := List.mem_map.1 hk; rfl))) rfl) ?_
            refine aw_rangeM (EF := EF0) (l0 := (ro Tryd.f9 16).toList.dropLast) (o0 := (ro Tryd.f9 16).toList.getD 1 default) (o1 := (ro Tryd.f9 17).toList.getD 0 default) (o2 := (ro Tryd.f9 17).toList.getD 1 default) (o3 := (ro Tryd.f9 18).toList.getD 0 default) (l3 := (ro Tryd.f9 18).toList.tail) (pre := a9_16p) (aos3 := a9_18s) (tm := 61) (it := 62) (nx := 63) (more := 64) (pair := 65) (mt := 65) (es := kmap fI8 (minusA (plusA [] a) b)) (α := Unit) hG hN (by kernel_rfl) tr9_16p ⟨by kernel_rfl, by kernel_rfl, by kernel_rfl⟩ Tryd.underlying65 (by kernel_rfl) ⟨by kernel_rfl, by kernel_rfl, by kernel_rfl⟩ ⟨by kernel_rfl, by kernel_rfl, by kernel_rfl⟩ (by kernel_rfl) ⟨by kernel_rfl, by kernel_rfl, by kernel_rfl⟩ tr9_18s (by decide) (by decide) (fun p hp => by obtain ⟨_, _, rfl⟩ := List.mem_map.1 hp; rfl) (fun done _ => (∀ q ∈ done, ∃ k, q = (Ky.s k, V.int .i64 0))) (fun _ iv => ⟨mkE [(62, .pin iv)], mkH []⟩) (()) (fun _ _ => rfl) (fun q hq => nomatch hq) ?_ ?_ ?_
            · intro KRP hKRP
              simp only [a9_16p, go_sem, ↓reduceIte, Nat.reduceEqDiff, reduceCtorEq, Nat.reduceAdd, Nat.reduceLT, Nat.reduceLeDiff, Nat.reduceBNe, Nat.reduceBEq, Int.reduceToNat, tSet, fNet_eq]
              refine hKRP _ ?_ (fun iv => ?_)
              · first | rfl | (simp only [go_sem, ↓reduceIte, Nat.reduceEqDiff, reduceCtorEq, Nat.reduceAdd, Nat.reduceLT, Nat.reduceLeDiff, Nat.reduceBNe, Nat.reduceBEq, Int.reduceToNat, tSet, fNet_eq]; done)
              refine Le.mk _ _ ?_ ?_ rfl <;> simp only [go_sem, ↓reduceIte, Nat.reduceEqDiff, reduceCtorEq, Nat.reduceAdd, Nat.reduceLT, Nat.reduceLeDiff, Nat.reduceBNe, Nat.reduceBEq, Int.reduceToNat, tSet, fNet_eq] <;> (repeat' apply And.intro) <;> (try first | rfl | exact wk_frzb rfl rfl rfl | exact wk_fn rfl | exact .nilo _ _ _ rfl rfl | exact wk_frzm rfl rfl (fun kv hk => by obtain ⟨_, _, rfl⟩ := List.mem_map.1 hk; rfl))
            · rintro C hN iv _ done p hz hpm hpn hsub KRM hKRM
              try dsimp only at *
              obtain ⟨⟨k, n⟩, hq, rfl⟩ := List.mem_map.1 hpm
              simp only [a9_18s, kyV, go_sem, ↓reduceIte, Nat.reduceEqDiff, reduceCtorEq, Nat.reduceAdd, Nat.reduceLT, Nat.reduceLeDiff, Nat.reduceBNe, Nat.reduceBEq, Int.reduceToNat, fI8, tSet, fNet_eq]
              refine aw_seq (aw_region (EF := EF0) hG (by rw [hN]; exact tr9_19) ?_)
              simp only [a9_19, go_sem, ↓reduceIte, Nat.reduceEqDiff, reduceCtorEq, Nat.reduceAdd, Nat.reduceLT, Nat.reduceLeDiff, Nat.reduceBNe, Nat.reduceBEq, Int.reduceToNat, tSet, fNet_eq]
              refine aw_cond (b := _) rfl (fun hb19 => ?_) (fun hb19 => ?_)
              · skip
                refine aw_seq (aw_region (EF := EF0) hG (by rw [hN]; exact tr9_20) ?_)
                simp only [a9_20, go_sem, ↓reduceIte, Nat.reduceEqDiff, reduceCtorEq, Nat.reduceAdd, Nat.reduceLT, Nat.reduceLeDiff, Nat.reduceBNe, Nat.reduceBEq, Int.reduceToNat, tSet, fNet_eq]
                refine aw_ret ?_
                show Q _ _
                refine hQ _ _ (.inl rfl) ?_ ?_ ?_ <;> simp only [outφ, outV, AR.res, go_sem, ↓reduceIte, Nat.reduceEqDiff, reduceCtorEq, Nat.reduceAdd, Nat.reduceLT, Nat.reduceLeDiff, Nat.reduceBNe, Nat.reduceBEq, Int.reduceToNat, fSet]
                rw [hset, ← all_eq hra hrb, show allZ (minusA (plusA [] a) b) = false from List.all_eq_false.2 ⟨_, hq, by simpa using hb19⟩]; rfl
              · skip
                refine aw_skip ?_
                try simp only [go_sem, ↓reduceIte, Nat.reduceEqDiff, reduceCtorEq, Nat.reduceAdd, Nat.reduceLT, Nat.reduceLeDiff, Nat.reduceBNe, Nat.reduceBEq, Int.reduceToNat]
                refine hKRM (()) _ ?_ ?_
                · (try dsimp only); intro q hq2; rcases List.mem_append.1 hq2 with h | h; exact hz q h; exact ⟨k, by rw [List.mem_singleton.1 h, show n = 0 by simpa using hb19]; rfl⟩
                · refine Le.mk _ _ ?_ ?_ rfl <;> simp only [go_sem, ↓reduceIte, Nat.reduceEqDiff, reduceCtorEq, Nat.reduceAdd, Nat.reduceLT, Nat.reduceLeDiff, Nat.reduceBNe, Nat.reduceBEq, Int.reduceToNat] <;> (repeat' apply And.intro) <;> (try first | rfl | exact wk_frzb rfl rfl rfl | exact wk_fn rfl | exact .nilo _ _ _ rfl rfl | exact wk_frzm rfl rfl (fun kv hk => by obtain ⟨_, _, rfl⟩ := List.mem_map.1 hk; rfl))
            · rintro iv _ done hz hall
              try dsimp only at *
              simp only [go_sem, ↓reduceIte, Nat.reduceEqDiff, reduceCtorEq, Nat.reduceAdd, Nat.reduceLT, Nat.reduceLeDiff, Nat.reduceBNe, Nat.reduceBEq, Int.reduceToNat]
              refine aw_seq (aw_region (EF := EF0) hG (by rw [hN]; exact tr9_21) ?_)
              simp only [a9_21, go_sem, ↓reduceIte, Nat.reduceEqDiff, reduceCtorEq, Nat.reduceAdd, Nat.reduceLT, Nat.reduceLeDiff, Nat.reduceBNe, Nat.reduceBEq, Int.reduceToNat, tSet, fNet_eq]
              refine aw_ret ?_
              show Q _ _
              refine hQ _ _ (.inl rfl) ?_ ?_ ?_ <;> simp only [outφ, outV, AR.res, go_sem, ↓reduceIte, Nat.reduceEqDiff, reduceCtorEq, Nat.reduceAdd, Nat.reduceLT, Nat.reduceLeDiff, Nat.reduceBNe, Nat.reduceBEq, Int.reduceToNat, fSet]
              rw [hset, ← all_eq hra hrb, show allZ (minusA (plusA [] a) b) = true from List.all_eq_true.2 fun q hq => by obtain ⟨k, h⟩ := hz _ ((hall _).2 (List.mem_map.2 ⟨q, hq, rfl⟩)); injection h with _ h; injection h with _ h; exact decide_eq_true h]; rfl
end Go.Proofs.YtkdkjbneohdofaaDoor
