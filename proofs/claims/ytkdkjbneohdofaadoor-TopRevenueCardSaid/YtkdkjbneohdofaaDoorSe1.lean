/- Dues and balances; Net of the program. -/
import Derived.Test.YtkdkjbneohdofaaDoorT6
import Derived.Test.YtkdkjbneohdofaaDoorPr4
namespace Go.Proofs.YtkdkjbneohdofaaDoor
open Go Go.RowKit
set_option linter.unusedSimpArgs false
set_option linter.unusedVariables false
set_option linter.deprecated false
structure Due where
  from' : List UInt8
  to' : List UInt8
  amount : Int
def Due.enc (x : Due) : List V := [.str x.from', .str x.to', .int .i64 x.amount]
theorem Due.inj (a b : Due) (h : a.enc = b.enc) : a = b := by
  obtain ⟨a_from', a_to', a_amount⟩ := a
  obtain ⟨b_from', b_to', b_amount⟩ := b
  simp only [Due.enc, List.cons.injEq, V.str.injEq, V.int.injEq, V.bool.injEq, V.agg.injEq, V.list.injEq, and_true, true_and] at h
  obtain ⟨h0, h1, h2⟩ := h
  subst h0
  subst h1
  subst h2
  rfl
def Due.ok (x : Due) : Prop := x.from'.length ≤ 140737488355328 ∧ x.to'.length ≤ 140737488355328 ∧ inI x.amount
def Due.zero : Due := ⟨[], [], 0⟩
theorem Due.rows (l : List Due) : (∀ r ∈ l.map Due.enc, r.length = 3) ↔ True := iff_true_intro fun r hr => by obtain ⟨x, _, rfl⟩ := List.mem_map.1 hr; rfl
theorem Due.purs (l : List Due) : (∀ r ∈ l.map Due.enc, V.purs r = true) ↔ True := iff_true_intro fun r hr => by obtain ⟨x, _, rfl⟩ := List.mem_map.1 hr; rfl
attribute [go_sem] Due.rows Due.purs
theorem Due.mapLen (l : List Due) : (l.map Due.enc).length = l.length := List.length_map _
def aDues (x : List Due) : List V := [.list (x.map Due.enc) false]
theorem aDues_inj (a b : List Due) (h : aDues a = aDues b) : a = b := by
  simp only [aDues, List.cons.injEq, V.str.injEq, V.int.injEq, V.bool.injEq, V.agg.injEq, V.list.injEq, and_true, true_and] at h
  have h0 := h
  replace h0 := map_inj' Due.inj h0
  subst h0
  rfl
def aPosts (x : List Post) : List V := [.list (x.map Post.enc) false]
theorem aPosts_inj (a b : List Post) (h : aPosts a = aPosts b) : a = b := by
  simp only [aPosts, List.cons.injEq, V.str.injEq, V.int.injEq, V.bool.injEq, V.agg.injEq, V.list.injEq, and_true, true_and] at h
  have h0 := h
  replace h0 := map_inj' Post.inj h0
  subst h0
  rfl
def aTwoD (x : List Due × List Due) : List V := [.list (x.1.map Due.enc) false, .list (x.2.map Due.enc) false]
theorem aTwoD_inj (a b : List Due × List Due) (h : aTwoD a = aTwoD b) : a = b := by
  obtain ⟨a_a, a_b⟩ := a
  obtain ⟨b_a, b_b⟩ := b
  simp only [aTwoD, List.cons.injEq, V.str.injEq, V.int.injEq, V.bool.injEq, V.agg.injEq, V.list.injEq, and_true, true_and] at h
  obtain ⟨h0, h1⟩ := h
  replace h0 := map_inj' Due.inj h0
  subst h0
  replace h1 := map_inj' Due.inj h1
  subst h1
  rfl
def aTwoPo (x : List Post × List Post) : List V := [.list (x.1.map Post.enc) false, .list (x.2.map Post.enc) false]
theorem aTwoPo_inj (a b : List Post × List Post) (h : aTwoPo a = aTwoPo b) : a = b := by
  obtain ⟨a_a, a_b⟩ := a
  obtain ⟨b_a, b_b⟩ := b
  simp only [aTwoPo, List.cons.injEq, V.str.injEq, V.int.injEq, V.bool.injEq, V.agg.injEq, V.list.injEq, and_true, true_and] at h
  obtain ⟨h0, h1⟩ := h
  replace h0 := map_inj' Post.inj h0
  subst h0
  replace h1 := map_inj' Post.inj h1
  subst h1
  rfl
def outB (n : Int) : Bool := decide (n < -1099511627776) || decide (1099511627776 < n)
theorem out_bd {n : Int} (h : outB n = false) : -1099511627776 ≤ n ∧ n ≤ 1099511627776 := by
  unfold outB at h
  simp only [Bool.or_eq_false_iff, decide_eq_false_iff_not] at h
  omega
theorem within_eq (n : Int) : (decide (-1099511627776 ≤ n) && decide (n ≤ 1099511627776)) = !outB n := by
  unfold outB
  rw [Bool.not_or, ← decide_not, ← decide_not]
  congr 1 <;> exact decide_eq_decide.2 (by omega)
def fOut (n : Int) : Prop × V := (True, .bool (outB n))
def fWithin (n : Int) : Prop × V := (True, .bool (!outB n))
theorem fOut_eq (n : Int) : gOf aI fOut [.int .i64 n] = (True, .bool (outB n)) := gOf_eq aI_inj n
theorem fWithin_eq (n : Int) : gOf aI fWithin [.int .i64 n] = (True, .bool (!outB n)) := gOf_eq aI_inj n
theorem out_p : PureC Tryd.prog UT 14 (gOf aI fOut) := by
  have hG := tNo_ok
  refine PureC.ofArgs aI_inj Tryd.func14 body14 nm14 res14 ?_
  rintro n hv
  refine ⟨by rw [nt14]; simp [aI], fun C hN Q hQ => ?_⟩
  rw [nt14] at hN
  unfold c14
  refine aw_seq (aw_region (EF := EF0) hG (by rw [hN]; exact tr14_0) ?_)
  simp only [a14_0, go_sem, ↓reduceIte, Nat.reduceEqDiff, reduceCtorEq, Nat.reduceAdd, Nat.reduceLT, Nat.reduceLeDiff, Nat.reduceBNe, Nat.reduceBEq, Int.reduceToNat, aI]
  refine aw_seq (aw_region (EF := EF0) hG (by rw [hN]; exact tr14_1) ?_)
  simp only [a14_1, go_sem, ↓reduceIte, Nat.reduceEqDiff, reduceCtorEq, Nat.reduceAdd, Nat.reduceLT, Nat.reduceLeDiff, Nat.reduceBNe, Nat.reduceBEq, Int.reduceToNat]
  (repeat' apply And.intro) <;> (try first | omega | ((fail_if_success refine idW ?_); (fail_if_success refine idS ?_); intros; (repeat' apply And.intro) <;> first | assumption | omega | (simp_all; done)))
  refine aw_ret ?_
  show Q _ _
  refine hQ _ _ (.inl rfl) ?_ ?_ ?_ <;> simp only [outφ, outV, AR.res, go_sem, ↓reduceIte, Nat.reduceEqDiff, reduceCtorEq, Nat.reduceAdd, Nat.reduceLT, Nat.reduceLeDiff, Nat.reduceBNe, Nat.reduceBEq, Int.reduceToNat, fOut]
  rfl
/-! The sums of dues. -/
abbrev getA (L : Assoc Int) (k : List UInt8) : Int := (aget L k).getD 0
def addA (L : Assoc Int) (k : List UInt8) (n : Int) : Assoc Int := aput L k (getA L k + n)
theorem getA_add (L : Assoc Int) (k j : List UInt8) (n : Int) : getA (addA L k n) j = if k = j then getA L k + n else getA L j := by
  unfold getA addA
  rw [aget_put]
  split
  · rfl
  · rfl
def addD (L : Assoc Int) (x : Due) : Assoc Int := addA (addA L x.from' (-x.amount)) x.to' x.amount
def sumD (l : List Due) : Assoc Int := l.foldl addD []
theorem sumD_step {l : List Due} {i : Nat} (h : i < l.length) : sumD (l.take (i + 1)) = addD (sumD (l.take i)) l[i] := by
  unfold sumD
  rw [take_succ' h, List.foldl_append]; rfl
def BdA (L : Assoc Int) (B : Int) : Prop := ∀ k, -B ≤ getA L k ∧ getA L k ≤ B
theorem bd_add {L : Assoc Int} {B : Int} (h : BdA L B) (k : List UInt8) {n : Int} (hn : -1099511627776 ≤ n ∧ n ≤ 1099511627776) : BdA (addA L k n) (B + 1099511627776) := by
  intro j
  rw [getA_add]
  have h1 := h k
  have h2 := h j
  split <;> omega
theorem bd_nil : BdA [] 0 := fun k => by rw [show getA [] k = 0 from rfl]; omega
theorem bd_sum {l : List Due} (h : ∀ x ∈ l, outB x.amount = false) : ∀ i, i ≤ l.length → BdA (sumD (l.take i)) (i * 2199023255552)
  | 0, _ => by
    rw [List.take_zero, show (((0 : Nat) : Int) * 2199023255552) = 0 by decide]; exact bd_nil
  | i + 1, hi => by
    rw [sumD_step (by omega)]
    have hb := out_bd (h _ (List.getElem_mem (by omega : i < l.length)))
    have := bd_add (bd_add (bd_sum h i (by omega)) l[i].from' (n := -l[i].amount) (by omega)) l[i].to' hb
    rw [show ((i : Int) * 2199023255552 + 1099511627776 + 1099511627776) = ((i + 1 : Nat) : Int) * 2199023255552 by omega] at this
    exact this
theorem aput_len {α : Type} (L : Assoc α) (k : List UInt8) (v : α) : (aput L k v).length ≤ L.length + 1 := by
  induction L with
  | nil => simp [aput]
  | cons p L ih => obtain ⟨k', v'⟩ := p; rw [aput]; split <;> simp; omega
theorem aput_mem {α : Type} (L : Assoc α) (k j : List UInt8) (v : α) : j ∈ (aput L k v).map (·.1) ↔ j = k ∨ j ∈ L.map (·.1) := by
  induction L with
  | nil => simp [aput]
  | cons p L ih =>
    obtain ⟨k', v'⟩ := p
    rw [aput]
    by_cases h : k' = k
    · rw [if_pos h]; subst h; simp
    · rw [if_neg h, List.map_cons, List.mem_cons, ih, List.map_cons, List.mem_cons]
      constructor
      · rintro (a | a | a); exact .inr (.inl a); exact .inl a; exact .inr (.inr a)
      · rintro (a | a | a); exact .inr (.inl a); exact .inl a; exact .inr (.inr a)
theorem aput_nd {α : Type} {L : Assoc α} (nd : (L.map (·.1)).Nodup) (k : List UInt8) (v : α) : ((aput L k v).map (·.1)).Nodup := by
  induction L with
  | nil => simp [aput]
  | cons p L ih =>
    obtain ⟨k', v'⟩ := p
    obtain ⟨n1, n2⟩ := List.nodup_cons.1 nd
    rw [aput]
    split
    · rename_i h
      exact List.nodup_cons.2 ⟨by rw [← h]; exact n1, n2⟩
    · rename_i h
      exact List.nodup_cons.2 ⟨fun hm => ((aput_mem L k k' v).1 hm).elim h n1, ih n2⟩
def KeysOk (L : Assoc Int) (n : Nat) : Prop := L.length ≤ n ∧ (L.map (·.1)).Nodup ∧ ∀ k ∈ L.map (·.1), k.length ≤ 140737488355328
theorem keys_add {L : Assoc Int} {n : Nat} (h : KeysOk L n) {k : List UInt8} (hk : k.length ≤ 140737488355328) (v : Int) : KeysOk (addA L k v) (n + 1) :=
  ⟨by have := aput_len L k (getA L k + v); have := h.1; unfold addA; omega, aput_nd h.2.1 _ _, fun j hj => by
    rcases (aput_mem _ _ _ _).1 hj with rfl | hj
    · exact hk
    · exact h.2.2 j hj⟩
theorem keys_sum {l : List Due} (h : ∀ x ∈ l, x.ok) : ∀ i, i ≤ l.length → KeysOk (sumD (l.take i)) (2 * i)
  | 0, _ => ⟨by simp [sumD], by simp [sumD], fun k hk => by simp [sumD] at hk⟩
  | i + 1, hi => by
    rw [sumD_step (by omega)]
    have hx := h _ (List.getElem_mem (by omega : i < l.length))
    have := keys_add (keys_add (keys_sum h i (by omega)) hx.1 (-l[i].amount)) hx.2.1 l[i].amount
    rw [show 2 * (i + 1) = 2 * i + 1 + 1 by omega]
    exact this
theorem keyok_of {L : Assoc Int} {n : Nat} (h : KeysOk L n) (hn : n ≤ 1000000) : KeyOk (kmap fI8 L) := by
  refine ⟨by unfold kmap; rw [List.length_map]; have := h.1; omega, fun p hp => ?_⟩
  obtain ⟨q, hq, rfl⟩ := List.mem_map.1 hp
  exact ⟨rfl, h.2.2 _ (List.mem_map.2 ⟨q, hq, rfl⟩)⟩
def postsA (L : Assoc Int) : List Post := (sortS (L.map (·.1))).map fun k => ⟨k, getA L k⟩
def netP (l : List Due) : List Post × Int := if (l.any fun x => outB x.amount) = true then ([], 11) else if ((postsA (sumD l)).any fun p => outB p.amount) = true then ([], 11) else (postsA (sumD l), 0)
def netV (y : List Post × Int) : V := .tup [.list (y.1.map Post.enc) false, .int .i64 y.2]
def OkD (l : List Due) : Prop := l.length ≤ 1000 ∧ ∀ x ∈ l, x.ok
def fNet (l : List Due) : Prop × V := (OkD l, netV (netP l))
theorem fNet_eq (l : List Due) : gOf aDues fNet [.list (l.map Due.enc) false] = (OkD l, netV (netP l)) := gOf_eq aDues_inj l
theorem post_snoc (L : List Post) (a : List UInt8) (n : Int) : L.map Post.enc ++ [[V.str a, V.int .i64 n]] = (L ++ [(⟨a, n⟩ : Post)]).map Post.enc := by rw [List.map_append]; rfl
def EFs : Nat → Bool := fun f => f == fKeysI || f == 15
noncomputable def tNet : Tab
  | 14 => (gOf aI fOut)
  | _ => gNo
theorem tNet_ok : ∀ f, PureC Tryd.prog UT f (tNet f) := fun f => by
  unfold tNet
  split
  · exact out_p
  · exact PureC.no
set_option maxHeartbeats 4000000 in
theorem net_p : PureC Tryd.prog UT 7 (gOf aDues fNet) := by
  have hG := tNet_ok
  refine PureC.ofArgs aDues_inj Tryd.func7 body7 nm7 res7 ?_
  rintro l hv
  refine ⟨by rw [nt7]; simp [aDues], fun C hN Q hQ => ?_⟩
  rw [nt7] at hN
  unfold c7
  obtain ⟨hl, hok⟩ : OkD l := hv
  refine aw_seq (aw_region (EF := EFs) hG (by rw [hN]; exact tr7_0) ?_)
  simp only [a7_0, go_sem, ↓reduceIte, Nat.reduceEqDiff, reduceCtorEq, Nat.reduceAdd, Nat.reduceLT, Nat.reduceLeDiff, Nat.reduceBNe, Nat.reduceBEq, Int.reduceToNat, aDues, EFs, tNet, fOut_eq]
  refine aw_seq (aw_region (EF := EFs) hG (by rw [hN]; exact tr7_1) ?_)
  simp only [a7_1, go_sem, ↓reduceIte, Nat.reduceEqDiff, reduceCtorEq, Nat.reduceAdd, Nat.reduceLT, Nat.reduceLeDiff, Nat.reduceBNe, Nat.reduceBEq, Int.reduceToNat, EFs, tNet, fOut_eq]
  refine aw_seq ?_
  refine aw_seq (aw_region (EF := EFs) hG (by rw [hN]; exact tr7_2) ?_)
  simp only [a7_2, go_sem, ↓reduceIte, Nat.reduceEqDiff, reduceCtorEq, Nat.reduceAdd, Nat.reduceLT, Nat.reduceLeDiff, Nat.reduceBNe, Nat.reduceBEq, Int.reduceToNat, EFs, tNet, fOut_eq]
  refine aw_block ?_
  refine aw_loop (α := Nat) (fun i => (i ≤ l.length) ∧ (∀ x ∈ l.take i, outB x.amount = false)) (fun i => ⟨mkE [(4, V.map 10), (11, V.list (List.map Due.enc l) false), (12, V.int IntKind.i64 ↑l.length), (13, .int .i64 i)], mkH [(10, .mp (kmap fI8 (sumD (l.take i))))]⟩) (fun i => l.length - i) 0 (by simp) ?_ ?_
  · refine Le.mk _ _ ?_ ?_ rfl <;> simp only [go_sem, ↓reduceIte, Nat.reduceEqDiff, reduceCtorEq, Nat.reduceAdd, Nat.reduceLT, Nat.reduceLeDiff, Nat.reduceBNe, Nat.reduceBEq, Int.reduceToNat] <;> (repeat' apply And.intro) <;> (try first | rfl | exact wk_frzb rfl rfl rfl | exact wk_fn rfl | exact .nilo _ _ _ rfl rfl | exact wk_frzm rfl rfl (fun kv hk => by obtain ⟨_, _, rfl⟩ := List.mem_map.1 hk; rfl))
  · rintro i ⟨hi, hp⟩ KL0 hKL0
    try dsimp only at *
    refine aw_seq (aw_region (EF := EFs) hG (by rw [hN]; exact tr7_3) ?_)
    simp only [a7_3, go_sem, ↓reduceIte, Nat.reduceEqDiff, reduceCtorEq, Nat.reduceAdd, Nat.reduceLT, Nat.reduceLeDiff, Nat.reduceBNe, Nat.reduceBEq, Int.reduceToNat, EFs, tNet, fOut_eq]
    refine aw_seq ?_
    refine aw_cond (b := _) rfl (fun hc3 => ?_) (fun hc3 => ?_)
    · simp only [decide_eq_true_eq, decide_eq_false_iff_not, Bool.and_eq_true, Bool.or_eq_true, Bool.not_eq_true', Bool.not_eq_false', Bool.and_eq_false_iff, Bool.or_eq_false_iff, Int.ofNat_lt, Int.ofNat_le, Nat.not_lt, Nat.not_le, Int.not_lt, Int.not_le] at hc3
      refine aw_skip ?_
      try simp only [go_sem, ↓reduceIte, Nat.reduceEqDiff, reduceCtorEq, Nat.reduceAdd, Nat.reduceLT, Nat.reduceLeDiff, Nat.reduceBNe, Nat.reduceBEq, Int.reduceToNat]
      refine aw_seq ?_
      refine aw_block ?_
      have hst := sumD_step hc3
      have hbd := bd_sum (l := l.take i) hp i (by rw [List.length_take]; omega)
      rw [List.take_take, Nat.min_self] at hbd
      generalize sumD (l.take i) = L at hst hbd
      generalize hxx : l[i] = x at hst
      obtain ⟨a, b, n⟩ := x
      refine aw_seq (aw_region (EF := EFs) hG (by rw [hN]; exact tr7_4) ?_)
      simp only [a7_4, go_sem, ↓reduceIte, Nat.reduceEqDiff, reduceCtorEq, Nat.reduceAdd, Nat.reduceLT, Nat.reduceLeDiff, Nat.reduceBNe, Nat.reduceBEq, Int.reduceToNat, getD_mapd _ _ _ _ hc3, hc3, hxx, Due.enc, EFs, tNet, fOut_eq]
      (repeat' apply And.intro) <;> (try first | omega | ((fail_if_success refine idW ?_); (fail_if_success refine idS ?_); intros; (repeat' apply And.intro) <;> first | assumption | omega | (simp_all; done)))
      refine aw_seq ?_
      refine aw_seq (aw_region (EF := EFs) hG (by rw [hN]; exact tr7_5) ?_)
      simp only [a7_5, go_sem, ↓reduceIte, Nat.reduceEqDiff, reduceCtorEq, Nat.reduceAdd, Nat.reduceLT, Nat.reduceLeDiff, Nat.reduceBNe, Nat.reduceBEq, Int.reduceToNat, EFs, tNet, fOut_eq]
      (repeat' apply And.intro) <;> (try first | omega | ((fail_if_success refine idW ?_); (fail_if_success refine idS ?_); intros; (repeat' apply And.intro) <;> first | assumption | omega | (simp_all; done)))
      refine aw_cond (b := _) rfl (fun hb5 => ?_) (fun hb5 => ?_)
      · skip
        refine aw_seq (aw_region (EF := EFs) hG (by rw [hN]; exact tr7_6) ?_)
        simp only [a7_6, go_sem, ↓reduceIte, Nat.reduceEqDiff, reduceCtorEq, Nat.reduceAdd, Nat.reduceLT, Nat.reduceLeDiff, Nat.reduceBNe, Nat.reduceBEq, Int.reduceToNat, EFs, tNet, fOut_eq]
        refine AW.le (s' := ⟨mkE [(2, .list [] false), (3, .int .i64 11)], mkH []⟩) (Le.mk _ _ ?_ ?_ rfl) (aw_ret (hQ _ _ (.inl rfl) ?_ ?_ ?_)) <;> simp only [outφ, outV, AR.res, go_sem, ↓reduceIte, Nat.reduceEqDiff, reduceCtorEq, Nat.reduceAdd, Nat.reduceLT, Nat.reduceLeDiff, Nat.reduceBNe, Nat.reduceBEq, Int.reduceToNat, fNet, netV]
        · rw [netP, if_pos (any_at (p := fun x : Due => outB x.amount) hc3 (by rw [hxx]; exact hb5))]; rfl
      · skip
        have hn := out_bd hb5
        refine aw_skip ?_
        try simp only [go_sem, ↓reduceIte, Nat.reduceEqDiff, reduceCtorEq, Nat.reduceAdd, Nat.reduceLT, Nat.reduceLeDiff, Nat.reduceBNe, Nat.reduceBEq, Int.reduceToNat]
        have h1 := hbd a
        have h2 := bd_add hbd a (n := -n) (by omega) b
        unfold addD addA at hst
        unfold addA at h2
        simp only [getA] at hst h1 h2
        rw [← Int.sub_eq_add_neg] at hst h2
        refine aw_seq (aw_region (EF := EFs) hG (by rw [hN]; exact tr7_7) ?_)
        simp only [a7_7, go_sem, ↓reduceIte, Nat.reduceEqDiff, reduceCtorEq, Nat.reduceAdd, Nat.reduceLT, Nat.reduceLeDiff, Nat.reduceBNe, Nat.reduceBEq, Int.reduceToNat, inI, EFs, tNet, fOut_eq]
        (repeat' apply And.intro) <;> (try first | omega | ((fail_if_success refine idW ?_); (fail_if_success refine idS ?_); intros; (repeat' apply And.intro) <;> first | assumption | omega | (simp_all; done)))
        refine aw_region (EF := EFs) hG (by rw [hN]; exact tr7_8) ?_
        simp only [a7_8, go_sem, ↓reduceIte, Nat.reduceEqDiff, reduceCtorEq, Nat.reduceAdd, Nat.reduceLT, Nat.reduceLeDiff, Nat.reduceBNe, Nat.reduceBEq, Int.reduceToNat, inI, EFs, tNet, fOut_eq]
        (repeat' apply And.intro) <;> (try first | omega | ((fail_if_success refine idW ?_); (fail_if_success refine idS ?_); intros; (repeat' apply And.intro) <;> first | assumption | omega | (simp_all; done)))
        refine aw_region (EF := EFs) hG (by rw [hN]; exact tr7_9) ?_
        simp only [a7_9, go_sem, ↓reduceIte, Nat.reduceEqDiff, reduceCtorEq, Nat.reduceAdd, Nat.reduceLT, Nat.reduceLeDiff, Nat.reduceBNe, Nat.reduceBEq, Int.reduceToNat, inI, EFs, tNet, fOut_eq]
        (repeat' apply And.intro) <;> (try first | omega | ((fail_if_success refine idW ?_); (fail_if_success refine idS ?_); intros; (repeat' apply And.intro) <;> first | assumption | omega | (simp_all; done)))
        refine hKL0 (i + 1) _ ?_ ?_ ?_
        · (try dsimp only); exact ⟨hc3, take_all (p := fun x : Due => outB x.amount = false) hc3 hp (by rw [hxx]; exact hb5)⟩
        · (try dsimp only); omega
        · refine Le.mk _ _ ?_ ?_ rfl <;> simp only [go_sem, ↓reduceIte, Nat.reduceEqDiff, reduceCtorEq, Nat.reduceAdd, Nat.reduceLT, Nat.reduceLeDiff, Nat.reduceBNe, Nat.reduceBEq, Int.reduceToNat, hst] <;> (repeat' apply And.intro) <;> (try first | rfl | exact wk_frzb rfl rfl rfl | exact wk_fn rfl | exact .nilo _ _ _ rfl rfl | exact wk_frzm rfl rfl (fun kv hk => by obtain ⟨_, _, rfl⟩ := List.mem_map.1 hk; rfl))
    · simp only [decide_eq_true_eq, decide_eq_false_iff_not, Bool.and_eq_true, Bool.or_eq_true, Bool.not_eq_true', Bool.not_eq_false', Bool.and_eq_false_iff, Bool.or_eq_false_iff, Int.ofNat_lt, Int.ofNat_le, Nat.not_lt, Nat.not_le, Int.not_lt, Int.not_le] at hc3
      refine aw_exit ?_
      simp only [go_sem, ↓reduceIte, Nat.reduceEqDiff, reduceCtorEq, Nat.reduceAdd, Nat.reduceLT, Nat.reduceLeDiff, Nat.reduceBNe, Nat.reduceBEq, Int.reduceToNat]
      have hie : i = l.length := Nat.le_antisymm hi hc3
      subst hie
      rw [List.take_length] at hp
      have hany : ¬ ((l.any fun x => outB x.amount) = true) := by rw [List.any_eq_true]; rintro ⟨x, hx, h⟩; rw [hp x hx] at h; cases h
      have hbd := bd_sum (l := l) hp l.length (Nat.le_refl _)
      have hks := keys_sum (l := l) hok l.length (Nat.le_refl _)
      have hko := keyok_of hks (by omega)
      rw [List.take_length] at hbd hks hko
      have hnet : netP l = if ((postsA (sumD l)).any fun p => outB p.amount) = true then ([], 11) else (postsA (sumD l), 0) := by rw [netP, if_neg hany]
      refine aw_seq (aw_region (EF := EFs) hG (by rw [hN]; exact tr7_10) ?_)
      simp only [a7_10, go_sem, ↓reduceIte, Nat.reduceEqDiff, reduceCtorEq, Nat.reduceAdd, Nat.reduceLT, Nat.reduceLeDiff, Nat.reduceBNe, Nat.reduceBEq, Int.reduceToNat, List.take_length, EFs, tNet, fOut_eq]
      refine aw_seq ?_
      generalize sumD l = L at hbd hks hko hnet
      refine AW.le (s' := ⟨mkE [(4, .fmap (kmap fI8 L)), (7, .own 999 0)], mkH ([(999, .arr 64 2 (([] : List Post).map Post.enc))])⟩) (Le.mk _ _ (by (simp only [go_sem, ↓reduceIte, Nat.reduceEqDiff, reduceCtorEq, Nat.reduceAdd, Nat.reduceLT, Nat.reduceLeDiff, Nat.reduceBNe, Nat.reduceBEq, Int.reduceToNat]) <;> (repeat' apply And.intro) <;> (try first | exact wk_frzb rfl rfl rfl | rfl | exact wk_fn rfl | exact .nill _ | exact .nilo _ _ _ rfl rfl | exact wk_frz rfl (by simp only [ints_len, nats_len]) rfl (ints_pur _) | exact wk_frzm rfl rfl (fun kv hk => by obtain ⟨_, _, rfl⟩ := List.mem_map.1 hk; rfl))) (by (simp only [go_sem, ↓reduceIte, Nat.reduceEqDiff, reduceCtorEq, Nat.reduceAdd, Nat.reduceLT, Nat.reduceLeDiff, Nat.reduceBNe, Nat.reduceBEq, Int.reduceToNat]) <;> (repeat' apply And.intro) <;> (try first | exact wk_frzb rfl rfl rfl | rfl | exact wk_fn rfl | exact .nill _ | exact .nilo _ _ _ rfl rfl | exact wk_frz rfl (by simp only [ints_len, nats_len]) rfl (ints_pur _) | exact wk_frzm rfl rfl (fun kv hk => by obtain ⟨_, _, rfl⟩ := List.mem_map.1 hk; rfl))) rfl) ?_
      refine aw_seq (aw_region (EF := EFs) hG (by rw [hN]; exact tr7_11) ?_)
      simp only [a7_11, go_sem, ↓reduceIte, Nat.reduceEqDiff, reduceCtorEq, Nat.reduceAdd, Nat.reduceLT, Nat.reduceLeDiff, Nat.reduceBNe, Nat.reduceBEq, Int.reduceToNat, EFs, tNet, fOut_eq]
      refine keysI_use 36 rfl (by decide) ?_
      simp only [go_sem, ↓reduceIte, Nat.reduceEqDiff, reduceCtorEq, Nat.reduceAdd, Nat.reduceLT, Nat.reduceLeDiff, Nat.reduceBNe, Nat.reduceBEq, Int.reduceToNat]
      refine sortedI_use hko rfl ?_
      simp only [go_sem, ↓reduceIte, Nat.reduceEqDiff, reduceCtorEq, Nat.reduceAdd, Nat.reduceLT, Nat.reduceLeDiff, Nat.reduceBNe, Nat.reduceBEq, Int.reduceToNat, keysS_kmap]
      have hps : postsA L = (sortS (L.map (·.1))).map fun k => (⟨k, getA L k⟩ : Post) := rfl
      have hkl : (sortS (L.map (·.1))).length ≤ 2000 := by rw [(sortS_perm _).length_eq, List.length_map]; have := hks.1; omega
      generalize sortS (L.map (·.1)) = ks at hps hkl ⊢
      refine aw_block ?_
      refine aw_loop (α := Nat) (fun j => (j ≤ ks.length) ∧ (∀ p ∈ (postsA L).take j, outB p.amount = false)) (fun j => ⟨mkE [(4, V.fmap (kmap fI8 L)), (7, .own 999 j), (37, V.list (strs ks) false), (38, V.int IntKind.i64 ↑ks.length), (39, .int .i64 j)], mkH [(999, .arr 64 2 (((postsA L).take j).map Post.enc))]⟩) (fun j => ks.length - j) 0 ⟨Nat.zero_le _, fun p hp => by simp at hp⟩ ?_ ?_
      · refine Le.mk _ _ ?_ ?_ rfl <;> simp only [go_sem, ↓reduceIte, Nat.reduceEqDiff, reduceCtorEq, Nat.reduceAdd, Nat.reduceLT, Nat.reduceLeDiff, Nat.reduceBNe, Nat.reduceBEq, Int.reduceToNat] <;> (repeat' apply And.intro) <;> (try first | rfl | exact wk_frzb rfl rfl rfl | exact wk_fn rfl | exact .nilo _ _ _ rfl rfl | exact wk_frzm rfl rfl (fun kv hk => by obtain ⟨_, _, rfl⟩ := List.mem_map.1 hk; rfl))
      · rintro j ⟨hj, hq⟩ KL2 hKL2
        try dsimp only at *
        refine aw_seq (aw_region (EF := EFs) hG (by rw [hN]; exact tr7_12) ?_)
        simp only [a7_12, go_sem, ↓reduceIte, Nat.reduceEqDiff, reduceCtorEq, Nat.reduceAdd, Nat.reduceLT, Nat.reduceLeDiff, Nat.reduceBNe, Nat.reduceBEq, Int.reduceToNat, EFs, tNet, fOut_eq]
        refine aw_seq ?_
        refine aw_cond (b := _) rfl (fun hc12 => ?_) (fun hc12 => ?_)
        · simp only [decide_eq_true_eq, decide_eq_false_iff_not, Bool.and_eq_true, Bool.or_eq_true, Bool.not_eq_true', Bool.not_eq_false', Bool.and_eq_false_iff, Bool.or_eq_false_iff, Int.ofNat_lt, Int.ofNat_le, Nat.not_lt, Nat.not_le, Int.not_lt, Int.not_le] at hc12
          refine aw_skip ?_
          try simp only [go_sem, ↓reduceIte, Nat.reduceEqDiff, reduceCtorEq, Nat.reduceAdd, Nat.reduceLT, Nat.reduceLeDiff, Nat.reduceBNe, Nat.reduceBEq, Int.reduceToNat]
          refine aw_seq ?_
          refine aw_block ?_
          have hpl : j < (postsA L).length := by rw [hps, List.length_map]; exact hc12
          have hpj : (postsA L)[j] = ⟨ks[j], getA L ks[j]⟩ := by simp only [hps, List.getElem_map]
          have htk := take_succ' hpl
          rw [hpj] at htk
          have hlj : ((postsA L).take j).length = j := by rw [List.length_take]; omega
          generalize hkk : ks[j] = k at hpj htk
          refine aw_seq (aw_region (EF := EFs) hG (by rw [hN]; exact tr7_13) ?_)
          simp only [a7_13, go_sem, ↓reduceIte, Nat.reduceEqDiff, reduceCtorEq, Nat.reduceAdd, Nat.reduceLT, Nat.reduceLeDiff, Nat.reduceBNe, Nat.reduceBEq, Int.reduceToNat, strs_getD _ _ _ hc12, hc12, hkk, EFs, tNet, fOut_eq]
          (repeat' apply And.intro) <;> (try first | omega | ((fail_if_success refine idW ?_); (fail_if_success refine idS ?_); intros; (repeat' apply And.intro) <;> first | assumption | omega | (simp_all; done)))
          refine aw_seq ?_
          refine aw_seq (aw_region (EF := EFs) hG (by rw [hN]; exact tr7_14) ?_)
          simp only [a7_14, go_sem, ↓reduceIte, Nat.reduceEqDiff, reduceCtorEq, Nat.reduceAdd, Nat.reduceLT, Nat.reduceLeDiff, Nat.reduceBNe, Nat.reduceBEq, Int.reduceToNat, EFs, tNet, fOut_eq]
          (repeat' apply And.intro) <;> (try first | omega | ((fail_if_success refine idW ?_); (fail_if_success refine idS ?_); intros; (repeat' apply And.intro) <;> first | assumption | omega | (simp_all; done)))
          refine aw_cond (b := _) rfl (fun hb14 => ?_) (fun hb14 => ?_)
          · skip
            refine aw_seq (aw_region (EF := EFs) hG (by rw [hN]; exact tr7_15) ?_)
            simp only [a7_15, go_sem, ↓reduceIte, Nat.reduceEqDiff, reduceCtorEq, Nat.reduceAdd, Nat.reduceLT, Nat.reduceLeDiff, Nat.reduceBNe, Nat.reduceBEq, Int.reduceToNat, EFs, tNet, fOut_eq]
            refine AW.le (s' := ⟨mkE [(2, .list [] false), (3, .int .i64 11)], mkH []⟩) (Le.mk _ _ ?_ ?_ rfl) (aw_ret (hQ _ _ (.inl rfl) ?_ ?_ ?_)) <;> simp only [outφ, outV, AR.res, go_sem, ↓reduceIte, Nat.reduceEqDiff, reduceCtorEq, Nat.reduceAdd, Nat.reduceLT, Nat.reduceLeDiff, Nat.reduceBNe, Nat.reduceBEq, Int.reduceToNat, fNet, netV]
            · rw [hnet, if_pos (any_at (p := fun p : Post => outB p.amount) hpl (by rw [hpj]; exact hb14))]; rfl
          · skip
            refine aw_skip ?_
            try simp only [go_sem, ↓reduceIte, Nat.reduceEqDiff, reduceCtorEq, Nat.reduceAdd, Nat.reduceLT, Nat.reduceLeDiff, Nat.reduceBNe, Nat.reduceBEq, Int.reduceToNat]
            refine aw_region (EF := EFs) hG (by rw [hN]; exact tr7_16) ?_
            simp only [a7_16, go_sem, ↓reduceIte, Nat.reduceEqDiff, reduceCtorEq, Nat.reduceAdd, Nat.reduceLT, Nat.reduceLeDiff, Nat.reduceBNe, Nat.reduceBEq, Int.reduceToNat, List.length_map, hlj, post_snoc, EFs, tNet, fOut_eq]
            (repeat' apply And.intro) <;> (try first | omega | ((fail_if_success refine idW ?_); (fail_if_success refine idS ?_); intros; (repeat' apply And.intro) <;> first | assumption | omega | (simp_all; done)))
            refine aw_region (EF := EFs) hG (by rw [hN]; exact tr7_17) ?_
            simp only [a7_17, go_sem, ↓reduceIte, Nat.reduceEqDiff, reduceCtorEq, Nat.reduceAdd, Nat.reduceLT, Nat.reduceLeDiff, Nat.reduceBNe, Nat.reduceBEq, Int.reduceToNat, inI, EFs, tNet, fOut_eq]
            (repeat' apply And.intro) <;> (try first | omega | ((fail_if_success refine idW ?_); (fail_if_success refine idS ?_); intros; (repeat' apply And.intro) <;> first | assumption | omega | (simp_all; done)))
            refine hKL2 (j + 1) _ ?_ ?_ ?_
            · (try dsimp only); exact ⟨hc12, by rw [htk]; intro p hp; rcases List.mem_append.1 hp with hp | hp; exact hq p hp; (rw [List.mem_singleton.1 hp]; exact hb14)⟩
            · (try dsimp only); omega
            · refine Le.mk _ _ ?_ ?_ rfl <;> simp only [go_sem, ↓reduceIte, Nat.reduceEqDiff, reduceCtorEq, Nat.reduceAdd, Nat.reduceLT, Nat.reduceLeDiff, Nat.reduceBNe, Nat.reduceBEq, Int.reduceToNat, htk] <;> (repeat' apply And.intro) <;> (try first | rfl | exact wk_frzb rfl rfl rfl | exact wk_fn rfl | exact .nilo _ _ _ rfl rfl | exact wk_frzm rfl rfl (fun kv hk => by obtain ⟨_, _, rfl⟩ := List.mem_map.1 hk; rfl))
        · simp only [decide_eq_true_eq, decide_eq_false_iff_not, Bool.and_eq_true, Bool.or_eq_true, Bool.not_eq_true', Bool.not_eq_false', Bool.and_eq_false_iff, Bool.or_eq_false_iff, Int.ofNat_lt, Int.ofNat_le, Nat.not_lt, Nat.not_le, Int.not_lt, Int.not_le] at hc12
          refine aw_exit ?_
          simp only [go_sem, ↓reduceIte, Nat.reduceEqDiff, reduceCtorEq, Nat.reduceAdd, Nat.reduceLT, Nat.reduceLeDiff, Nat.reduceBNe, Nat.reduceBEq, Int.reduceToNat]
          have hje : j = ks.length := Nat.le_antisymm hj hc12
          subst hje
          have hpt : (postsA L).take ks.length = postsA L := List.take_of_length_le (by rw [hps, List.length_map]; exact Nat.le_refl _)
          rw [hpt] at hq
          have hpl : (postsA L).length = ks.length := by rw [hps, List.length_map]
          refine aw_seq (aw_region (EF := EFs) hG (by rw [hN]; exact tr7_18) ?_)
          simp only [a7_18, go_sem, ↓reduceIte, Nat.reduceEqDiff, reduceCtorEq, Nat.reduceAdd, Nat.reduceLT, Nat.reduceLeDiff, Nat.reduceBNe, Nat.reduceBEq, Int.reduceToNat, hpt, EFs, tNet, fOut_eq]
          refine AW.le (s' := ⟨mkE [(2, .list ((postsA L).map Post.enc) false), (3, .int .i64 0)], mkH []⟩) (Le.mk _ _ ?_ ?_ rfl) (aw_ret (hQ _ _ (.inl rfl) ?_ ?_ ?_)) <;> simp only [outφ, outV, AR.res, go_sem, ↓reduceIte, Nat.reduceEqDiff, reduceCtorEq, Nat.reduceAdd, Nat.reduceLT, Nat.reduceLeDiff, Nat.reduceBNe, Nat.reduceBEq, Int.reduceToNat, fNet, netV]
          · exact wk_frz rfl (by rw [List.length_map, hpl]) rfl ((Post.purs _).2 trivial)
          · rw [hnet, if_neg (by rw [List.any_eq_true]; rintro ⟨x, hx, h⟩; rw [hq x hx] at h; cases h)]
end Go.Proofs.YtkdkjbneohdofaaDoor
