/- Bills: what they come to. Sums here may be too large for an int, and come out right all the same. -/
import Derived.Test.YtajobknfhbnjcaaSe12
namespace Go.Proofs.Ytajobknfhbnjcaa
open Go Go.RowKit
set_option linter.unusedSimpArgs false
set_option linter.unusedVariables false
set_option linter.deprecated false
def aOwn (x : List Post × List UInt8) : List V := [.list (x.1.map Post.enc) false, .str x.2]
theorem aOwn_inj (a b : List Post × List UInt8) (h : aOwn a = aOwn b) : a = b := by
  obtain ⟨a_l, a_k⟩ := a
  obtain ⟨b_l, b_k⟩ := b
  simp only [aOwn, List.cons.injEq, V.str.injEq, V.int.injEq, V.bool.injEq, V.agg.injEq, V.list.injEq, and_true, true_and] at h
  obtain ⟨h0, h1⟩ := h
  replace h0 := map_inj' Post.inj h0
  subst h0
  subst h1
  rfl
theorem wr_eq (n : Int) : wr n = (n + 9223372036854775808) % 18446744073709551616 - 9223372036854775808 := by unfold wr; rw [IntKind.wrap_i64]
theorem wr_in {n : Int} (h : inI n) : wr n = n := by unfold inI at h; rw [wr_eq]; omega
theorem wr_add (a b : Int) : wr (wr a + b) = wr (a + b) := by rw [wr_eq, wr_eq, wr_eq]; omega
theorem wr_all (s o : Int) : wr (wr (-(wr s)) + wr o) = wr (o - s) := by rw [wr_eq, wr_eq, wr_eq, wr_eq, wr_eq]; omega
def sumB (p : Post → Bool) (l : List Post) : Int := ((l.filter p).map (·.amount)).sum
theorem sumB_cons (p : Post → Bool) (x : Post) (l : List Post) : sumB p (x :: l) = (if p x = true then x.amount else 0) + sumB p l := by
  unfold sumB
  by_cases h : p x = true
  · rw [if_pos h, List.filter_cons_of_pos h, List.map_cons, List.sum_cons]
  · rw [if_neg h, List.filter_cons_of_neg h, Int.zero_add]
theorem sumB_nil (p : Post → Bool) : sumB p [] = 0 := rfl
theorem wr_zero : wr 0 = 0 := by rw [wr_eq]; rfl
theorem sumB_0 (p : Post → Bool) : wr (sumB p []) = 0 := wr_zero
theorem sumB_t {p : Post → Bool} {l : List Post} {i : Nat} (h : i < l.length) (hp : p l[i] = true) : sumB p (l.take (i + 1)) = sumB p (l.take i) + l[i].amount := by
  unfold sumB
  rw [take_succ' h, List.filter_append, List.filter_cons_of_pos hp, List.map_append, sum_app]
  simp
theorem sumB_f {p : Post → Bool} {l : List Post} {i : Nat} (h : i < l.length) (hp : p l[i] = false) : sumB p (l.take (i + 1)) = sumB p (l.take i) := by
  unfold sumB
  rw [take_succ' h, List.filter_append, List.filter_cons_of_neg (by rw [hp]; decide), List.map_append, sum_app]
  simp
def ownB (k : List UInt8) (x : Post) : Bool := decide (x.account = k)
def fOwn (x : List Post × List UInt8) : Prop × V := (x.1.length ≤ 140737488355328, .int .i64 (wr (sumB (ownB x.2) x.1)))
theorem fOwn_eq (l : List Post) (k : List UInt8) : gOf aOwn fOwn [.list (l.map Post.enc) false, .str k] = (l.length ≤ 140737488355328, .int .i64 (wr (sumB (ownB k) l))) := gOf_eq aOwn_inj (l, k)
set_option maxHeartbeats 4000000 in
theorem own_p : PureC Try.prog UT 19 (gOf aOwn fOwn) := by
  have hG := tNo_ok
  refine PureC.ofArgs aOwn_inj Try.func19 body19 nm19 res19 ?_
  rintro ⟨l, k⟩ hv
  refine ⟨by rw [nt19]; simp [aOwn], fun C hN Q hQ => ?_⟩
  rw [nt19] at hN
  unfold c19
  replace hv : l.length ≤ 140737488355328 := hv
  refine aw_seq (aw_region (EF := EF0) hG (by rw [hN]; exact tr19_0) ?_)
  simp only [a19_0, go_sem, ↓reduceIte, Nat.reduceEqDiff, reduceCtorEq, Nat.reduceAdd, Nat.reduceLT, Nat.reduceLeDiff, Nat.reduceBNe, Nat.reduceBEq, Int.reduceToNat, aOwn]
  refine aw_seq (aw_region (EF := EF0) hG (by rw [hN]; exact tr19_1) ?_)
  simp only [a19_1, go_sem, ↓reduceIte, Nat.reduceEqDiff, reduceCtorEq, Nat.reduceAdd, Nat.reduceLT, Nat.reduceLeDiff, Nat.reduceBNe, Nat.reduceBEq, Int.reduceToNat]
  refine aw_seq ?_
  refine aw_seq (aw_region (EF := EF0) hG (by rw [hN]; exact tr19_2) ?_)
  simp only [a19_2, go_sem, ↓reduceIte, Nat.reduceEqDiff, reduceCtorEq, Nat.reduceAdd, Nat.reduceLT, Nat.reduceLeDiff, Nat.reduceBNe, Nat.reduceBEq, Int.reduceToNat]
  refine aw_block ?_
  refine aw_loop (α := Nat) (fun i => (i ≤ l.length)) (fun i => ⟨mkE [(0, V.list (List.map Post.enc l) false), (1, V.str k), (5, .int .i64 (wr (sumB (ownB k) (l.take i)))), (6, .int .i64 i)], mkH []⟩) (fun i => l.length - i) 0 (by simp) ?_ ?_
  · refine Le.mk _ _ ?_ ?_ rfl <;> simp only [go_sem, ↓reduceIte, Nat.reduceEqDiff, reduceCtorEq, Nat.reduceAdd, Nat.reduceLT, Nat.reduceLeDiff, Nat.reduceBNe, Nat.reduceBEq, Int.reduceToNat, sumB_0] <;> (repeat' apply And.intro) <;> (try first | rfl | exact wk_frzb rfl rfl rfl | exact wk_fn rfl | exact .nilo _ _ _ rfl rfl | exact wk_frzm rfl rfl (fun kv hk => by obtain ⟨_, _, rfl⟩ := List.mem_map.1 hk; rfl))
  · rintro i hi KL0 hKL0
    try dsimp only at *
    refine aw_seq ?_
    refine aw_seq (aw_region (EF := EF0) hG (by rw [hN]; exact tr19_3) ?_)
    simp only [a19_3, go_sem, ↓reduceIte, Nat.reduceEqDiff, reduceCtorEq, Nat.reduceAdd, Nat.reduceLT, Nat.reduceLeDiff, Nat.reduceBNe, Nat.reduceBEq, Int.reduceToNat]
    refine aw_cond (b := _) rfl (fun hc3 => ?_) (fun hc3 => ?_)
    · simp only [decide_eq_true_eq, decide_eq_false_iff_not, Bool.and_eq_true, Bool.or_eq_true, Bool.not_eq_true', Bool.not_eq_false', Bool.and_eq_false_iff, Bool.or_eq_false_iff, Int.ofNat_lt, Int.ofNat_le, Nat.not_lt, Nat.not_le, Int.not_lt, Int.not_le] at hc3
      refine aw_skip ?_
      try simp only [go_sem, ↓reduceIte, Nat.reduceEqDiff, reduceCtorEq, Nat.reduceAdd, Nat.reduceLT, Nat.reduceLeDiff, Nat.reduceBNe, Nat.reduceBEq, Int.reduceToNat]
      refine aw_seq ?_
      refine aw_block ?_
      have ht := fun h => sumB_t (p := ownB k) hc3 h
      have hf := fun h => sumB_f (p := ownB k) hc3 h
      generalize sumB (ownB k) (l.take i) = ss at ht hf
      generalize hxx : l[i] = x at ht hf
      obtain ⟨a, n⟩ := x
      dsimp only at ht hf
      refine aw_seq (aw_region (EF := EF0) hG (by rw [hN]; exact tr19_5) ?_)
      simp only [a19_5, go_sem, ↓reduceIte, Nat.reduceEqDiff, reduceCtorEq, Nat.reduceAdd, Nat.reduceLT, Nat.reduceLeDiff, Nat.reduceBNe, Nat.reduceBEq, Int.reduceToNat, getD_mapd _ _ _ _ hc3, hc3, hxx, Post.enc]
      (repeat' apply And.intro) <;> (try first | omega | (intros; (repeat' apply And.intro) <;> first | assumption | omega | (simp_all; done)))
      refine aw_cond (b := _) rfl (fun hb5 => ?_) (fun hb5 => ?_)
      · skip
        refine aw_regionW (EF := EF0) hG (by rw [hN]; exact tr19_6) ?_
        simp only [a19_6, go_sem, ↓reduceIte, Nat.reduceEqDiff, reduceCtorEq, Nat.reduceAdd, Nat.reduceLT, Nat.reduceLeDiff, Nat.reduceBNe, Nat.reduceBEq, Int.reduceToNat, inI, getD_mapd _ _ _ _ hc3, hc3, hxx, Post.enc, wr_add]
        (repeat' apply And.intro) <;> (try first | omega | (intros; (repeat' apply And.intro) <;> first | assumption | omega | (simp_all; done)))
        refine aw_region (EF := EF0) hG (by rw [hN]; exact tr19_4) ?_
        simp only [a19_4, go_sem, ↓reduceIte, Nat.reduceEqDiff, reduceCtorEq, Nat.reduceAdd, Nat.reduceLT, Nat.reduceLeDiff, Nat.reduceBNe, Nat.reduceBEq, Int.reduceToNat, inI]
        (repeat' apply And.intro) <;> (try first | omega | (intros; (repeat' apply And.intro) <;> first | assumption | omega | (simp_all; done)))
        refine hKL0 (i + 1) _ ?_ ?_ ?_
        · (try dsimp only); exact hc3
        · (try dsimp only); omega
        · refine Le.mk _ _ ?_ ?_ rfl <;> simp only [go_sem, ↓reduceIte, Nat.reduceEqDiff, reduceCtorEq, Nat.reduceAdd, Nat.reduceLT, Nat.reduceLeDiff, Nat.reduceBNe, Nat.reduceBEq, Int.reduceToNat, ht hb5] <;> (repeat' apply And.intro) <;> (try first | rfl | exact wk_frzb rfl rfl rfl | exact wk_fn rfl | exact .nilo _ _ _ rfl rfl | exact wk_frzm rfl rfl (fun kv hk => by obtain ⟨_, _, rfl⟩ := List.mem_map.1 hk; rfl))
      · skip
        refine aw_skip ?_
        try simp only [go_sem, ↓reduceIte, Nat.reduceEqDiff, reduceCtorEq, Nat.reduceAdd, Nat.reduceLT, Nat.reduceLeDiff, Nat.reduceBNe, Nat.reduceBEq, Int.reduceToNat]
        refine aw_region (EF := EF0) hG (by rw [hN]; exact tr19_4) ?_
        simp only [a19_4, go_sem, ↓reduceIte, Nat.reduceEqDiff, reduceCtorEq, Nat.reduceAdd, Nat.reduceLT, Nat.reduceLeDiff, Nat.reduceBNe, Nat.reduceBEq, Int.reduceToNat, inI]
        (repeat' apply And.intro) <;> (try first | omega | (intros; (repeat' apply And.intro) <;> first | assumption | omega | (simp_all; done)))
        refine hKL0 (i + 1) _ ?_ ?_ ?_
        · (try dsimp only); exact hc3
        · (try dsimp only); omega
        · refine Le.mk _ _ ?_ ?_ rfl <;> simp only [go_sem, ↓reduceIte, Nat.reduceEqDiff, reduceCtorEq, Nat.reduceAdd, Nat.reduceLT, Nat.reduceLeDiff, Nat.reduceBNe, Nat.reduceBEq, Int.reduceToNat, hf hb5] <;> (repeat' apply And.intro) <;> (try first | rfl | exact wk_frzb rfl rfl rfl | exact wk_fn rfl | exact .nilo _ _ _ rfl rfl | exact wk_frzm rfl rfl (fun kv hk => by obtain ⟨_, _, rfl⟩ := List.mem_map.1 hk; rfl))
    · simp only [decide_eq_true_eq, decide_eq_false_iff_not, Bool.and_eq_true, Bool.or_eq_true, Bool.not_eq_true', Bool.not_eq_false', Bool.and_eq_false_iff, Bool.or_eq_false_iff, Int.ofNat_lt, Int.ofNat_le, Nat.not_lt, Nat.not_le, Int.not_lt, Int.not_le] at hc3
      refine aw_exit ?_
      simp only [go_sem, ↓reduceIte, Nat.reduceEqDiff, reduceCtorEq, Nat.reduceAdd, Nat.reduceLT, Nat.reduceLeDiff, Nat.reduceBNe, Nat.reduceBEq, Int.reduceToNat]
      have hie : i = l.length := Nat.le_antisymm hi hc3
      subst hie
      refine aw_seq (aw_region (EF := EF0) hG (by rw [hN]; exact tr19_7) ?_)
      simp only [a19_7, go_sem, ↓reduceIte, Nat.reduceEqDiff, reduceCtorEq, Nat.reduceAdd, Nat.reduceLT, Nat.reduceLeDiff, Nat.reduceBNe, Nat.reduceBEq, Int.reduceToNat, List.take_length]
      refine aw_ret ?_
      show Q _ _
      refine hQ _ _ (.inl rfl) ?_ ?_ ?_ <;> simp only [outφ, outV, AR.res, go_sem, ↓reduceIte, Nat.reduceEqDiff, reduceCtorEq, Nat.reduceAdd, Nat.reduceLT, Nat.reduceLeDiff, Nat.reduceBNe, Nat.reduceBEq, Int.reduceToNat, fOwn]
/-! What a bill comes to. -/
theorem bill_cons (k : List UInt8) (x : Post) (l : List Post) : billP k (x :: l) = if billB k x = true then ⟨k, x.account, x.amount⟩ :: billP k l else billP k l := by
  unfold billP
  by_cases h : billB k x = true
  · rw [if_pos h, List.filter_cons_of_pos h, List.map_cons]
  · rw [if_neg h, List.filter_cons_of_neg h]
theorem bill_sum (k c : List UInt8) (l : List Post) : getA (sumD (billP k l)) c = if c = k then -(sumB (fun y => !ownB k y) l) else sumB (ownB c) l := by
  suffices h : ∀ L : Assoc Int, getA ((billP k l).foldl addD L) c = getA L c + (if c = k then -(sumB (fun y => !ownB k y) l) else sumB (ownB c) l) from by
    have := h []
    rw [show getA [] c = 0 from rfl, Int.zero_add] at this
    exact this
  induction l with
  | nil => intro L; rw [sumB_nil, sumB_nil]; simp [billP]
  | cons x l ih =>
    intro L
    rw [bill_cons, sumB_cons, sumB_cons]
    obtain ⟨a, n⟩ := x
    by_cases hb : billB k ⟨a, n⟩ = true
    · rw [if_pos hb, List.foldl_cons, ih]
      unfold billB at hb
      simp only [Bool.and_eq_true, Bool.not_eq_true', decide_eq_false_iff_not] at hb
      obtain ⟨h1, h2⟩ := hb
      unfold addD ownB
      simp only [getA_add]
      by_cases hc : c = k
      · subst hc
        rw [if_pos rfl, if_pos rfl, if_neg h1, if_pos rfl, if_pos (by simpa using h1)]
        omega
      · rw [if_neg hc, if_neg hc, if_neg (Ne.symm hc)]
        by_cases ha : a = c
        · subst ha
          rw [if_pos rfl, if_neg (Ne.symm hc), if_pos (by simp)]
          omega
        · rw [if_neg ha, if_neg (by simpa using ha)]
          omega
    · rw [if_neg hb, ih]
      unfold billB at hb
      simp only [Bool.and_eq_true, Bool.not_eq_true', decide_eq_false_iff_not] at hb
      unfold ownB
      by_cases hc : c = k
      · subst hc
        rw [if_pos rfl, if_pos rfl]
        by_cases ha : a = c
        · rw [if_neg (by simpa using ha)]; omega
        · have : n = 0 := Classical.byContradiction fun hn => hb ⟨ha, hn⟩
          rw [this]; dsimp only; split <;> omega
      · rw [if_neg hc, if_neg hc]
        by_cases ha : a = c
        · have : n = 0 := Classical.byContradiction fun hn => hb ⟨fun e => hc (ha.symm.trans e), hn⟩
          rw [this]; dsimp only; split <;> omega
        · rw [if_neg (by simpa using ha)]; omega
theorem bill_ok {k : List UInt8} {l : List Post} (hk : k.length ≤ 140737488355328) (hl : ∀ x ∈ l, x.ok) (hn : l.length ≤ 1000) : OkD (billP k l) := by
  refine ⟨by have := bill_len k l; omega, fun x hx => ?_⟩
  unfold billP at hx
  obtain ⟨y, hy, rfl⟩ := List.mem_map.1 hx
  have := hl y (List.mem_filter.1 hy).1
  simp only [Post.ok] at this
  simp only [Due.ok]
  exact ⟨hk, this.1, this.2⟩
theorem bill_net {k : List UInt8} {l : List Post} (h : OkD (billP k l)) (h0 : (netP (billP k l)).2 = 0) : ∀ x ∈ (netP (billP k l)).1, outB x.amount = false ∧ x.amount = if x.account = k then -(sumB (fun y => !ownB k y) l) else sumB (ownB x.account) l := by
  intro x hx
  obtain ⟨hok, he⟩ := net_ok h h0
  refine ⟨hok.bd x hx, ?_⟩
  rw [← bill_sum, ← (netL_inv _).val, ← he]
  exact (getP_mem (rise_nd hok.rise) hx).symm
def pickB (c k : List UInt8) (y : Post) : Bool := decide (y.account = c) || (decide (c = k) && !decide (y.account = k))
theorem pick_k (k : List UInt8) (l : List Post) : sumB (pickB k k) l = sumB (ownB k) l + sumB (fun y => !ownB k y) l := by
  induction l with
  | nil => rfl
  | cons x l ih =>
    rw [sumB_cons, sumB_cons, sumB_cons, ih]
    unfold pickB ownB
    by_cases h : x.account = k
    · simp [h]; omega
    · simp [h]; omega
theorem pick_c {c k : List UInt8} (h : c ≠ k) (l : List Post) : sumB (pickB c k) l = sumB (ownB c) l := by
  rw [show pickB c k = ownB c from funext fun y => by unfold pickB ownB; rw [decide_eq_false h]; simp]
theorem bill_at {k : List UInt8} {l : List Post} {c : List UInt8} {n : Int} (h : outB n = false ∧ n = if c = k then -(sumB (fun y => !ownB k y) l) else sumB (ownB c) l) : (c = k → wr (wr (-(wr (sumB (pickB c k) l))) + wr (sumB (ownB k) l)) = n) ∧ (c ≠ k → wr (sumB (pickB c k) l) = n) := by
  obtain ⟨h1, h2⟩ := h
  have h3 := out_bd h1
  have h4 : wr n = n := wr_in (by unfold inI; omega)
  refine ⟨fun e => ?_, fun e => ?_⟩
  · subst e
    rw [if_pos rfl] at h2
    rw [wr_all, pick_k, ← h4]
    congr 1; omega
  · rw [if_neg e] at h2
    rw [pick_c e, ← h2, h4]
noncomputable def tLB : Tab
  | 9 => (gOf aDues fNet)
  | 17 => (gOf aBill fBill)
  | 18 => (gOf aBill fBill)
  | 14 => (gOf aTwoD fSameD)
  | 19 => (gOf aOwn fOwn)
  | 8 => (gOf aUnit fTrue)
  | _ => gNo
theorem tLB_ok : ∀ f, PureC Try.prog UT f (tLB f) := fun f => by
  unfold tLB
  split
  · exact net_p
  · exact bill_p
  · exact rbill_p
  · exact sameD_p
  · exact own_p
  · exact awake_p
  · exact PureC.no
def LawB (k : List UInt8) (l : List Post) : Prop := k.length ≤ 140737488355328 ∧ LenP l
def fLaw5 (x : List UInt8 × List Post) : Prop × V := (LawB x.1 x.2, .bool true)
set_option maxHeartbeats 8000000 in
theorem law5_p : PureC Try.prog UT 7 (gOf aBill fLaw5) := by
  have hG := tLB_ok
  refine PureC.ofArgs aBill_inj Try.func7 body7 nm7 res7 ?_
  rintro ⟨k, l⟩ hv
  refine ⟨by rw [nt7]; simp [aBill], fun C hN Q hQ => ?_⟩
  rw [nt7] at hN
  unfold c7
  obtain ⟨hk, hv⟩ : LawB k l := hv
  have hv1 := hv.1
  have hbl := bill_len k l
  have hbo := fun h => @bill_ok k l hk hv.2 h
  have hbn := fun h => @bill_net k l h
  have hnl := fun h => @net_len (billP k l) h
  generalize hbb : billP k l = bl at hbl hbo hbn hnl
  obtain ⟨⟨a, e⟩, hn⟩ : ∃ y, netP bl = y := ⟨_, rfl⟩
  rw [hn] at hbn hnl
  dsimp only at hbn hnl
  refine aw_seq (aw_region (EF := EF0) hG (by rw [hN]; exact tr7_0) ?_)
  simp only [a7_0, go_sem, ↓reduceIte, Nat.reduceEqDiff, reduceCtorEq, Nat.reduceAdd, Nat.reduceLT, Nat.reduceLeDiff, Nat.reduceBNe, Nat.reduceBEq, Int.reduceToNat, aBill, tLB, fTrue_eq]
  refine aw_seq ?_
  refine aw_seq (aw_region (EF := EF0) hG (by rw [hN]; exact tr7_1) ?_)
  simp only [a7_1, go_sem, ↓reduceIte, Nat.reduceEqDiff, reduceCtorEq, Nat.reduceAdd, Nat.reduceLT, Nat.reduceLeDiff, Nat.reduceBNe, Nat.reduceBEq, Int.reduceToNat, tLB, fTrue_eq]
  refine aw_cond (b := _) rfl (fun hb1 => ?_) (fun hb1 => ?_)
  · skip
    refine aw_seq (aw_region (EF := EF0) hG (by rw [hN]; exact tr7_2) ?_)
    simp only [a7_2, go_sem, ↓reduceIte, Nat.reduceEqDiff, reduceCtorEq, Nat.reduceAdd, Nat.reduceLT, Nat.reduceLeDiff, Nat.reduceBNe, Nat.reduceBEq, Int.reduceToNat, tLB, fTrue_eq]
    (repeat' apply And.intro) <;> (try first | omega | (intros; (repeat' apply And.intro) <;> first | assumption | omega | (simp_all; done)))
    refine aw_ret ?_
    show Q _ _
    refine hQ _ _ (.inl rfl) ?_ ?_ ?_ <;> simp only [outφ, outV, AR.res, go_sem, ↓reduceIte, Nat.reduceEqDiff, reduceCtorEq, Nat.reduceAdd, Nat.reduceLT, Nat.reduceLeDiff, Nat.reduceBNe, Nat.reduceBEq, Int.reduceToNat, fLaw5]
  · skip
    have hs : l.length ≤ 1000 := by have := of_decide_eq_false hb1; omega
    have hbd : OkD bl := hbo hs
    replace hnl := hnl hbd
    have hal : a.length ≤ 140737488355328 := by omega
    have hbl1 : bl.length ≤ 140737488355328 := by omega
    refine aw_skip ?_
    try simp only [go_sem, ↓reduceIte, Nat.reduceEqDiff, reduceCtorEq, Nat.reduceAdd, Nat.reduceLT, Nat.reduceLeDiff, Nat.reduceBNe, Nat.reduceBEq, Int.reduceToNat]
    refine aw_seq (aw_region (EF := EF0) hG (by rw [hN]; exact tr7_3) ?_)
    simp only [a7_3, go_sem, ↓reduceIte, Nat.reduceEqDiff, reduceCtorEq, Nat.reduceAdd, Nat.reduceLT, Nat.reduceLeDiff, Nat.reduceBNe, Nat.reduceBEq, Int.reduceToNat, fBill_eq, hs, hbb, tLB, fTrue_eq]
    (repeat' apply And.intro) <;> (try first | omega | (intros; (repeat' apply And.intro) <;> first | assumption | omega | (simp_all; done)))
    refine aw_seq ?_
    refine aw_seq (aw_region (EF := EF0) hG (by rw [hN]; exact tr7_4) ?_)
    simp only [a7_4, go_sem, ↓reduceIte, Nat.reduceEqDiff, reduceCtorEq, Nat.reduceAdd, Nat.reduceLT, Nat.reduceLeDiff, Nat.reduceBNe, Nat.reduceBEq, Int.reduceToNat, fBill_eq, hs, hbb, fSameD_eq, hbl1, tLB, fTrue_eq]
    (repeat' apply And.intro) <;> (try first | omega | (intros; (repeat' apply And.intro) <;> first | assumption | omega | (simp_all; done)))
    refine aw_condF rfl ?_
    refine aw_skip ?_
    try simp only [go_sem, ↓reduceIte, Nat.reduceEqDiff, reduceCtorEq, Nat.reduceAdd, Nat.reduceLT, Nat.reduceLeDiff, Nat.reduceBNe, Nat.reduceBEq, Int.reduceToNat]
    refine aw_seq (aw_region (EF := EF0) hG (by rw [hN]; exact tr7_6) ?_)
    simp only [a7_6, go_sem, ↓reduceIte, Nat.reduceEqDiff, reduceCtorEq, Nat.reduceAdd, Nat.reduceLT, Nat.reduceLeDiff, Nat.reduceBNe, Nat.reduceBEq, Int.reduceToNat, fNet_eq, hbd, hn, netV, tLB, fTrue_eq]
    (repeat' apply And.intro) <;> (try first | omega | (intros; (repeat' apply And.intro) <;> first | assumption | omega | (simp_all; done)))
    refine aw_seq ?_
    refine aw_seq (aw_region (EF := EF0) hG (by rw [hN]; exact tr7_7) ?_)
    simp only [a7_7, go_sem, ↓reduceIte, Nat.reduceEqDiff, reduceCtorEq, Nat.reduceAdd, Nat.reduceLT, Nat.reduceLeDiff, Nat.reduceBNe, Nat.reduceBEq, Int.reduceToNat, tLB, fTrue_eq]
    refine aw_cond (b := _) rfl (fun hb7 => ?_) (fun hb7 => ?_)
    · skip
      refine aw_seq (aw_region (EF := EF0) hG (by rw [hN]; exact tr7_8) ?_)
      simp only [a7_8, go_sem, ↓reduceIte, Nat.reduceEqDiff, reduceCtorEq, Nat.reduceAdd, Nat.reduceLT, Nat.reduceLeDiff, Nat.reduceBNe, Nat.reduceBEq, Int.reduceToNat, tLB, fTrue_eq]
      (repeat' apply And.intro) <;> (try first | omega | (intros; (repeat' apply And.intro) <;> first | assumption | omega | (simp_all; done)))
      refine aw_ret ?_
      show Q _ _
      refine hQ _ _ (.inl rfl) ?_ ?_ ?_ <;> simp only [outφ, outV, AR.res, go_sem, ↓reduceIte, Nat.reduceEqDiff, reduceCtorEq, Nat.reduceAdd, Nat.reduceLT, Nat.reduceLeDiff, Nat.reduceBNe, Nat.reduceBEq, Int.reduceToNat, fLaw5]
    · skip
      have he0 : e = 0 := by simpa using hb7
      replace hbn := hbn hbd he0
      refine aw_skip ?_
      try simp only [go_sem, ↓reduceIte, Nat.reduceEqDiff, reduceCtorEq, Nat.reduceAdd, Nat.reduceLT, Nat.reduceLeDiff, Nat.reduceBNe, Nat.reduceBEq, Int.reduceToNat]
      refine aw_seq ?_
      refine aw_seq (aw_region (EF := EF0) hG (by rw [hN]; exact tr7_9) ?_)
      simp only [a7_9, go_sem, ↓reduceIte, Nat.reduceEqDiff, reduceCtorEq, Nat.reduceAdd, Nat.reduceLT, Nat.reduceLeDiff, Nat.reduceBNe, Nat.reduceBEq, Int.reduceToNat, tLB, fTrue_eq]
      refine aw_block ?_
      refine aw_loop (α := Nat) (fun i => (i ≤ a.length)) (fun i => ⟨mkE [(0, V.str k), (1, V.list (List.map Post.enc l) false), (6, V.list (List.map Post.enc a) false), (8, .int .i64 i)], mkH []⟩) (fun i => a.length - i) 0 (by simp) ?_ ?_
      · refine Le.mk _ _ ?_ ?_ rfl <;> simp only [go_sem, ↓reduceIte, Nat.reduceEqDiff, reduceCtorEq, Nat.reduceAdd, Nat.reduceLT, Nat.reduceLeDiff, Nat.reduceBNe, Nat.reduceBEq, Int.reduceToNat] <;> (repeat' apply And.intro) <;> (try first | rfl | exact wk_frzb rfl rfl rfl | exact wk_fn rfl | exact .nilo _ _ _ rfl rfl | exact wk_frzm rfl rfl (fun kv hk => by obtain ⟨_, _, rfl⟩ := List.mem_map.1 hk; rfl))
      · rintro i hi KL0 hKL0
        try dsimp only at *
        refine aw_seq ?_
        refine aw_seq (aw_region (EF := EF0) hG (by rw [hN]; exact tr7_10) ?_)
        simp only [a7_10, go_sem, ↓reduceIte, Nat.reduceEqDiff, reduceCtorEq, Nat.reduceAdd, Nat.reduceLT, Nat.reduceLeDiff, Nat.reduceBNe, Nat.reduceBEq, Int.reduceToNat, tLB, fTrue_eq]
        refine aw_cond (b := _) rfl (fun hc10 => ?_) (fun hc10 => ?_)
        · simp only [decide_eq_true_eq, decide_eq_false_iff_not, Bool.and_eq_true, Bool.or_eq_true, Bool.not_eq_true', Bool.not_eq_false', Bool.and_eq_false_iff, Bool.or_eq_false_iff, Int.ofNat_lt, Int.ofNat_le, Nat.not_lt, Nat.not_le, Int.not_lt, Int.not_le] at hc10
          refine aw_skip ?_
          try simp only [go_sem, ↓reduceIte, Nat.reduceEqDiff, reduceCtorEq, Nat.reduceAdd, Nat.reduceLT, Nat.reduceLeDiff, Nat.reduceBNe, Nat.reduceBEq, Int.reduceToNat]
          refine aw_seq ?_
          refine aw_block ?_
          have hat := bill_at (hbn _ (List.getElem_mem hc10))
          generalize hxx : a[i] = x at hat
          obtain ⟨c, n⟩ := x
          dsimp only at hat
          refine aw_seq (aw_region (EF := EF0) hG (by rw [hN]; exact tr7_12) ?_)
          simp only [a7_12, go_sem, ↓reduceIte, Nat.reduceEqDiff, reduceCtorEq, Nat.reduceAdd, Nat.reduceLT, Nat.reduceLeDiff, Nat.reduceBNe, Nat.reduceBEq, Int.reduceToNat, tLB, fTrue_eq]
          refine aw_seq ?_
          refine aw_seq (aw_region (EF := EF0) hG (by rw [hN]; exact tr7_13) ?_)
          simp only [a7_13, go_sem, ↓reduceIte, Nat.reduceEqDiff, reduceCtorEq, Nat.reduceAdd, Nat.reduceLT, Nat.reduceLeDiff, Nat.reduceBNe, Nat.reduceBEq, Int.reduceToNat, tLB, fTrue_eq]
          refine aw_block ?_
          refine aw_loop (α := Nat) (fun j => (j ≤ l.length)) (fun j => ⟨mkE [(0, V.str k), (1, V.list (List.map Post.enc l) false), (6, V.list (List.map Post.enc a) false), (8, V.int IntKind.i64 ↑i), (9, .int .i64 (wr (sumB (pickB c k) (l.take j)))), (10, .int .i64 j)], mkH []⟩) (fun j => l.length - j) 0 (by simp) ?_ ?_
          · refine Le.mk _ _ ?_ ?_ rfl <;> simp only [go_sem, ↓reduceIte, Nat.reduceEqDiff, reduceCtorEq, Nat.reduceAdd, Nat.reduceLT, Nat.reduceLeDiff, Nat.reduceBNe, Nat.reduceBEq, Int.reduceToNat, sumB_0] <;> (repeat' apply And.intro) <;> (try first | rfl | exact wk_frzb rfl rfl rfl | exact wk_fn rfl | exact .nilo _ _ _ rfl rfl | exact wk_frzm rfl rfl (fun kv hk => by obtain ⟨_, _, rfl⟩ := List.mem_map.1 hk; rfl))
          · rintro j hj KL2 hKL2
            try dsimp only at *
            refine aw_seq ?_
            refine aw_seq (aw_region (EF := EF0) hG (by rw [hN]; exact tr7_14) ?_)
            simp only [a7_14, go_sem, ↓reduceIte, Nat.reduceEqDiff, reduceCtorEq, Nat.reduceAdd, Nat.reduceLT, Nat.reduceLeDiff, Nat.reduceBNe, Nat.reduceBEq, Int.reduceToNat, tLB, fTrue_eq]
            refine aw_cond (b := _) rfl (fun hc14 => ?_) (fun hc14 => ?_)
            · simp only [decide_eq_true_eq, decide_eq_false_iff_not, Bool.and_eq_true, Bool.or_eq_true, Bool.not_eq_true', Bool.not_eq_false', Bool.and_eq_false_iff, Bool.or_eq_false_iff, Int.ofNat_lt, Int.ofNat_le, Nat.not_lt, Nat.not_le, Int.not_lt, Int.not_le] at hc14
              refine aw_skip ?_
              try simp only [go_sem, ↓reduceIte, Nat.reduceEqDiff, reduceCtorEq, Nat.reduceAdd, Nat.reduceLT, Nat.reduceLeDiff, Nat.reduceBNe, Nat.reduceBEq, Int.reduceToNat]
              refine aw_seq ?_
              refine aw_block ?_
              have ht := fun h => sumB_t (p := pickB c k) hc14 h
              have hf := fun h => sumB_f (p := pickB c k) hc14 h
              generalize sumB (pickB c k) (l.take j) = ss at ht hf
              generalize hyy : l[j] = y at ht hf
              obtain ⟨b, m⟩ := y
              dsimp only at ht hf
              refine aw_seq (aw_regionD (EF := EF0) hG mixed (by rw [hN]; exact tr7_16) ok7_16 ?_)
              simp (maxSteps := 2000000) only [a7_16, d7_16, go_sem, ↓reduceIte, Nat.reduceEqDiff, reduceCtorEq, Nat.reduceAdd, Nat.reduceLT, Nat.reduceLeDiff, Nat.reduceBNe, Nat.reduceBEq, Int.reduceToNat, getD_mapd _ _ _ _ hc10, hc10, hxx, getD_mapd _ _ _ _ hc14, hc14, hyy, Post.enc, tLB, fTrue_eq]
              (repeat' apply And.intro) <;> (try first | omega | (intros; (repeat' apply And.intro) <;> first | assumption | omega | (simp_all; done)) | (show (!decide (b = c)) = true → _; by_cases e1 : b = c <;> by_cases e2 : c = k <;> simp [e1, e2]))
              refine aw_cond (b := _) rfl (fun hb16 => ?_) (fun hb16 => ?_)
              · skip
                refine aw_regionW (EF := EF0) hG (by rw [hN]; exact tr7_17) ?_
                simp only [a7_17, go_sem, ↓reduceIte, Nat.reduceEqDiff, reduceCtorEq, Nat.reduceAdd, Nat.reduceLT, Nat.reduceLeDiff, Nat.reduceBNe, Nat.reduceBEq, Int.reduceToNat, inI, getD_mapd _ _ _ _ hc14, hc14, hyy, Post.enc, wr_add, tLB, fTrue_eq]
                (repeat' apply And.intro) <;> (try first | omega | (intros; (repeat' apply And.intro) <;> first | assumption | omega | (simp_all; done)))
                refine aw_region (EF := EF0) hG (by rw [hN]; exact tr7_15) ?_
                simp only [a7_15, go_sem, ↓reduceIte, Nat.reduceEqDiff, reduceCtorEq, Nat.reduceAdd, Nat.reduceLT, Nat.reduceLeDiff, Nat.reduceBNe, Nat.reduceBEq, Int.reduceToNat, inI, tLB, fTrue_eq]
                (repeat' apply And.intro) <;> (try first | omega | (intros; (repeat' apply And.intro) <;> first | assumption | omega | (simp_all; done)))
                refine hKL2 (j + 1) _ ?_ ?_ ?_
                · (try dsimp only); exact hc14
                · (try dsimp only); omega
                · refine Le.mk _ _ ?_ ?_ rfl <;> simp only [go_sem, ↓reduceIte, Nat.reduceEqDiff, reduceCtorEq, Nat.reduceAdd, Nat.reduceLT, Nat.reduceLeDiff, Nat.reduceBNe, Nat.reduceBEq, Int.reduceToNat, ht hb16] <;> (repeat' apply And.intro) <;> (try first | rfl | exact wk_frzb rfl rfl rfl | exact wk_fn rfl | exact .nilo _ _ _ rfl rfl | exact wk_frzm rfl rfl (fun kv hk => by obtain ⟨_, _, rfl⟩ := List.mem_map.1 hk; rfl))
              · skip
                refine aw_skip ?_
                try simp only [go_sem, ↓reduceIte, Nat.reduceEqDiff, reduceCtorEq, Nat.reduceAdd, Nat.reduceLT, Nat.reduceLeDiff, Nat.reduceBNe, Nat.reduceBEq, Int.reduceToNat]
                refine aw_region (EF := EF0) hG (by rw [hN]; exact tr7_15) ?_
                simp only [a7_15, go_sem, ↓reduceIte, Nat.reduceEqDiff, reduceCtorEq, Nat.reduceAdd, Nat.reduceLT, Nat.reduceLeDiff, Nat.reduceBNe, Nat.reduceBEq, Int.reduceToNat, inI, tLB, fTrue_eq]
                (repeat' apply And.intro) <;> (try first | omega | (intros; (repeat' apply And.intro) <;> first | assumption | omega | (simp_all; done)))
                refine hKL2 (j + 1) _ ?_ ?_ ?_
                · (try dsimp only); exact hc14
                · (try dsimp only); omega
                · refine Le.mk _ _ ?_ ?_ rfl <;> simp only [go_sem, ↓reduceIte, Nat.reduceEqDiff, reduceCtorEq, Nat.reduceAdd, Nat.reduceLT, Nat.reduceLeDiff, Nat.reduceBNe, Nat.reduceBEq, Int.reduceToNat, hf hb16] <;> (repeat' apply And.intro) <;> (try first | rfl | exact wk_frzb rfl rfl rfl | exact wk_fn rfl | exact .nilo _ _ _ rfl rfl | exact wk_frzm rfl rfl (fun kv hk => by obtain ⟨_, _, rfl⟩ := List.mem_map.1 hk; rfl))
            · simp only [decide_eq_true_eq, decide_eq_false_iff_not, Bool.and_eq_true, Bool.or_eq_true, Bool.not_eq_true', Bool.not_eq_false', Bool.and_eq_false_iff, Bool.or_eq_false_iff, Int.ofNat_lt, Int.ofNat_le, Nat.not_lt, Nat.not_le, Int.not_lt, Int.not_le] at hc14
              refine aw_exit ?_
              simp only [go_sem, ↓reduceIte, Nat.reduceEqDiff, reduceCtorEq, Nat.reduceAdd, Nat.reduceLT, Nat.reduceLeDiff, Nat.reduceBNe, Nat.reduceBEq, Int.reduceToNat]
              by_cases hck : c = k
              · skip
                have hq := hat.1 hck
                rw [hck] at hq
                have hje : j = l.length := Nat.le_antisymm hj hc14
                subst hje
                rw [List.take_length]
                refine aw_seq (aw_regionDW (EF := EF0) hG mixed (by rw [hN]; exact tr7_18) (show okReg (ro Try.f7 18) (a7_18.map AO.wrp) d7_18 = true by kernel_rfl) ?_)
                simp (maxSteps := 2000000) only [a7_18, d7_18, go_sem, ↓reduceIte, Nat.reduceEqDiff, reduceCtorEq, Nat.reduceAdd, Nat.reduceLT, Nat.reduceLeDiff, Nat.reduceBNe, Nat.reduceBEq, Int.reduceToNat, inI, getD_mapd _ _ _ _ hc10, hc10, hxx, Post.enc, fOwn_eq, hv1, hck, hq, tLB, fTrue_eq]
                (repeat' apply And.intro) <;> (try first | omega | (intros; (repeat' apply And.intro) <;> first | assumption | omega | (simp_all; done)))
                refine aw_condF rfl ?_
                refine aw_skip ?_
                try simp only [go_sem, ↓reduceIte, Nat.reduceEqDiff, reduceCtorEq, Nat.reduceAdd, Nat.reduceLT, Nat.reduceLeDiff, Nat.reduceBNe, Nat.reduceBEq, Int.reduceToNat]
                refine aw_region (EF := EF0) hG (by rw [hN]; exact tr7_11) ?_
                simp only [a7_11, go_sem, ↓reduceIte, Nat.reduceEqDiff, reduceCtorEq, Nat.reduceAdd, Nat.reduceLT, Nat.reduceLeDiff, Nat.reduceBNe, Nat.reduceBEq, Int.reduceToNat, inI, tLB, fTrue_eq]
                (repeat' apply And.intro) <;> (try first | omega | (intros; (repeat' apply And.intro) <;> first | assumption | omega | (simp_all; done)))
                refine hKL0 (i + 1) _ ?_ ?_ ?_
                · (try dsimp only); exact hc10
                · (try dsimp only); omega
                · refine Le.mk _ _ ?_ ?_ rfl <;> simp only [go_sem, ↓reduceIte, Nat.reduceEqDiff, reduceCtorEq, Nat.reduceAdd, Nat.reduceLT, Nat.reduceLeDiff, Nat.reduceBNe, Nat.reduceBEq, Int.reduceToNat] <;> (repeat' apply And.intro) <;> (try first | rfl | exact wk_frzb rfl rfl rfl | exact wk_fn rfl | exact .nilo _ _ _ rfl rfl | exact wk_frzm rfl rfl (fun kv hk => by obtain ⟨_, _, rfl⟩ := List.mem_map.1 hk; rfl))
              · skip
                have hq := hat.2 hck
                have hje : j = l.length := Nat.le_antisymm hj hc14
                subst hje
                rw [List.take_length]
                refine aw_seq (aw_regionDW (EF := EF0) hG mixed (by rw [hN]; exact tr7_18) (show okReg (ro Try.f7 18) (a7_18.map AO.wrp) d7_18 = true by kernel_rfl) ?_)
                simp (maxSteps := 2000000) only [a7_18, d7_18, go_sem, ↓reduceIte, Nat.reduceEqDiff, reduceCtorEq, Nat.reduceAdd, Nat.reduceLT, Nat.reduceLeDiff, Nat.reduceBNe, Nat.reduceBEq, Int.reduceToNat, inI, getD_mapd _ _ _ _ hc10, hc10, hxx, Post.enc, fOwn_eq, hv1, hck, hq, tLB, fTrue_eq]
                (repeat' apply And.intro) <;> (try first | omega | (intros; (repeat' apply And.intro) <;> first | assumption | omega | (simp_all; done)))
                refine aw_condF rfl ?_
                refine aw_skip ?_
                try simp only [go_sem, ↓reduceIte, Nat.reduceEqDiff, reduceCtorEq, Nat.reduceAdd, Nat.reduceLT, Nat.reduceLeDiff, Nat.reduceBNe, Nat.reduceBEq, Int.reduceToNat]
                refine aw_region (EF := EF0) hG (by rw [hN]; exact tr7_11) ?_
                simp only [a7_11, go_sem, ↓reduceIte, Nat.reduceEqDiff, reduceCtorEq, Nat.reduceAdd, Nat.reduceLT, Nat.reduceLeDiff, Nat.reduceBNe, Nat.reduceBEq, Int.reduceToNat, inI, tLB, fTrue_eq]
                (repeat' apply And.intro) <;> (try first | omega | (intros; (repeat' apply And.intro) <;> first | assumption | omega | (simp_all; done)))
                refine hKL0 (i + 1) _ ?_ ?_ ?_
                · (try dsimp only); exact hc10
                · (try dsimp only); omega
                · refine Le.mk _ _ ?_ ?_ rfl <;> simp only [go_sem, ↓reduceIte, Nat.reduceEqDiff, reduceCtorEq, Nat.reduceAdd, Nat.reduceLT, Nat.reduceLeDiff, Nat.reduceBNe, Nat.reduceBEq, Int.reduceToNat] <;> (repeat' apply And.intro) <;> (try first | rfl | exact wk_frzb rfl rfl rfl | exact wk_fn rfl | exact .nilo _ _ _ rfl rfl | exact wk_frzm rfl rfl (fun kv hk => by obtain ⟨_, _, rfl⟩ := List.mem_map.1 hk; rfl))
        · simp only [decide_eq_true_eq, decide_eq_false_iff_not, Bool.and_eq_true, Bool.or_eq_true, Bool.not_eq_true', Bool.not_eq_false', Bool.and_eq_false_iff, Bool.or_eq_false_iff, Int.ofNat_lt, Int.ofNat_le, Nat.not_lt, Nat.not_le, Int.not_lt, Int.not_le] at hc10
          refine aw_exit ?_
          simp only [go_sem, ↓reduceIte, Nat.reduceEqDiff, reduceCtorEq, Nat.reduceAdd, Nat.reduceLT, Nat.reduceLeDiff, Nat.reduceBNe, Nat.reduceBEq, Int.reduceToNat]
          refine aw_seq (aw_region (EF := EF0) hG (by rw [hN]; exact tr7_20) ?_)
          simp only [a7_20, go_sem, ↓reduceIte, Nat.reduceEqDiff, reduceCtorEq, Nat.reduceAdd, Nat.reduceLT, Nat.reduceLeDiff, Nat.reduceBNe, Nat.reduceBEq, Int.reduceToNat, tLB, fTrue_eq]
          (repeat' apply And.intro) <;> (try first | omega | (intros; (repeat' apply And.intro) <;> first | assumption | omega | (simp_all; done)))
          refine aw_ret ?_
          show Q _ _
          refine hQ _ _ (.inl rfl) ?_ ?_ ?_ <;> simp only [outφ, outV, AR.res, go_sem, ↓reduceIte, Nat.reduceEqDiff, reduceCtorEq, Nat.reduceAdd, Nat.reduceLT, Nat.reduceLeDiff, Nat.reduceBNe, Nat.reduceBEq, Int.reduceToNat, fLaw5]
end Go.Proofs.Ytajobknfhbnjcaa
