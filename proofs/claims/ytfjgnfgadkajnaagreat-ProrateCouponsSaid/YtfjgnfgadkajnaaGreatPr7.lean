/- What is right, what is big, the examples; the shares of components add up. -/
import Derived.Test.YtfjgnfgadkajnaaGreatPr6
import Derived.Test.YtfjgnfgadkajnaaGreatPr1
import Derived.Test.YtfjgnfgadkajnaaGreatT8
namespace Go.Proofs.YtfjgnfgadkajnaaGreat
open Go Go.RowKit
set_option linter.unusedSimpArgs false
set_option linter.unusedVariables false
set_option linter.deprecated false
def aL2 (x : List Int × List Int) : List V := [.list (ints x.1) false, .list (ints x.2) false]
theorem aL2_inj (a b : List Int × List Int) (h : aL2 a = aL2 b) : a = b := by
  obtain ⟨a_a, a_b⟩ := a
  obtain ⟨b_a, b_b⟩ := b
  simp only [aL2, List.cons.injEq, V.str.injEq, V.int.injEq, V.bool.injEq, V.agg.injEq, V.list.injEq, and_true, true_and] at h
  obtain ⟨h0, h1⟩ := h
  replace h0 := ints_inj h0
  subst h0
  replace h1 := ints_inj h1
  subst h1
  rfl
def fS13 (x : List Int × List Int) : Prop × V := (x.1.length ≤ 140737488355328 ∧ x.2.length ≤ 140737488355328, .bool (decide (x.1 = x.2)))
theorem fS13_eq (a b : List Int) : gOf aL2 fS13 [.list (ints a) false, .list (ints b) false] = (a.length ≤ 140737488355328 ∧ b.length ≤ 140737488355328, .bool (decide (a = b))) := gOf_eq aL2_inj (a, b)
theorem same13_p : PureC Tryz.prog UT 8 (gOf aL2 fS13) := by
  have hG := tNo_ok
  refine PureC.ofArgs aL2_inj Tryz.func8 body8 nm8 res8 ?_
  rintro ⟨a, b⟩ hv
  refine ⟨by rw [nt8]; simp [aL2], fun C hN Q hQ => ?_⟩
  rw [nt8] at hN
  unfold c8
  obtain ⟨ha, hb⟩ : a.length ≤ 140737488355328 ∧ b.length ≤ 140737488355328 := hv
  refine aw_seq (aw_region (EF := EF0) hG (by rw [hN]; exact tr8_0) ?_)
  simp only [a8_0, go_sem, simprocAttr, aL2, tNo]
  refine aw_seq ?_
  refine aw_seq (aw_region (EF := EF0) hG (by rw [hN]; exact tr8_1) ?_)
  simp only [a8_1, go_sem, simprocAttr, tNo]
  refine aw_cond (b := _) rfl (fun hb1 => ?_) (fun hb1 => ?_)
  · skip
    have hne : (a.length : Int) ≠ b.length := by simpa using hb1
    refine aw_seq (aw_region (EF := EF0) hG (by rw [hN]; exact tr8_2) ?_)
    simp only [a8_2, go_sem, simprocAttr, tNo]
    refine aw_ret ?_
    show Q _ _
    refine hQ _ _ (.inl rfl) ?_ ?_ ?_ <;> simp only [outφ, outV, AR.res, go_sem, simprocAttr, fS13]
    rw [decide_eq_false (fun e => hne (by rw [show a = b from e]))]
  · skip
    have hl0 : (a.length : Int) = b.length := by simpa using hb1
    have hl : a.length = b.length := by omega
    refine aw_skip ?_
    try simp only [go_sem, simprocAttr]
    refine aw_seq ?_
    refine aw_seq (aw_region (EF := EF0) hG (by rw [hN]; exact tr8_3) ?_)
    simp only [a8_3, go_sem, simprocAttr, tNo]
    refine aw_block ?_
    refine aw_loop (α := Nat) (fun i => (i ≤ a.length) ∧ (a.take i = b.take i)) (fun i => ⟨mkE [(0, V.list (ints a) false), (1, V.list (ints b) false), (5, .int .i64 i)], mkH []⟩) (fun i => a.length - i) 0 ⟨Nat.zero_le _, rfl⟩ ?_ ?_
    · refine Le.mk _ _ ?_ ?_ rfl <;> simp only [go_sem, simprocAttr] <;> (repeat' apply And.intro) <;> (try first | rfl | exact wk_frzb rfl rfl rfl | exact wk_fn rfl | exact .nilo _ _ _ rfl rfl)
    · rintro i ⟨hi, hs⟩ KL0 hKL0
      try dsimp only at *
      refine aw_seq ?_
      refine aw_seq (aw_region (EF := EF0) hG (by rw [hN]; exact tr8_4) ?_)
      simp only [a8_4, go_sem, simprocAttr, tNo]
      refine aw_cond (b := _) rfl (fun hc4 => ?_) (fun hc4 => ?_)
      · simp only [hcL] at hc4
        refine aw_skip ?_
        try simp only [go_sem, simprocAttr]
        refine aw_seq ?_
        refine aw_block ?_
        have hib : i < b.length := by omega
        refine aw_seq (aw_regionD (EF := EF0) hG mixed (by rw [hN]; exact tr8_6) ok8_6 ?_)
        simp only [a8_6, d8_6, go_sem, simprocAttr, ints_getD _ _ _ hc4, hc4, ints_getD _ _ _ hib, hib, tNo]
        (repeat' apply And.intro) <;> (try first | omega | ((fail_if_success refine idW ?_); (fail_if_success refine idS ?_); intros; (repeat' apply And.intro) <;> first | assumption | omega | (simp_all; done)))
        refine aw_cond (b := _) rfl (fun hb6 => ?_) (fun hb6 => ?_)
        · skip
          have hne : a[i] ≠ b[i] := by simpa using hb6
          refine aw_seq (aw_region (EF := EF0) hG (by rw [hN]; exact tr8_7) ?_)
          simp only [a8_7, go_sem, simprocAttr, tNo]
          refine aw_ret ?_
          show Q _ _
          refine hQ _ _ (.inl rfl) ?_ ?_ ?_ <;> simp only [outφ, outV, AR.res, go_sem, simprocAttr, fS13]
          rw [decide_eq_false (fun e => hne (by have e2 : a = b := e; subst e2; rfl))]
        · skip
          have he : a[i] = b[i] := by simpa using hb6
          refine aw_skip ?_
          try simp only [go_sem, simprocAttr]
          refine aw_region (EF := EF0) hG (by rw [hN]; exact tr8_5) ?_
          simp only [a8_5, go_sem, simprocAttr, inI, tNo]
          (repeat' apply And.intro) <;> (try first | omega | ((fail_if_success refine idW ?_); (fail_if_success refine idS ?_); intros; (repeat' apply And.intro) <;> first | assumption | omega | (simp_all; done)))
          refine hKL0 (i + 1) _ ?_ ?_ ?_
          · (try dsimp only); exact ⟨hc4, by rw [take_succ' hc4, take_succ' hib, hs, he]⟩
          · (try dsimp only); omega
          · refine Le.mk _ _ ?_ ?_ rfl <;> simp only [go_sem, simprocAttr] <;> (repeat' apply And.intro) <;> (try first | rfl | exact wk_frzb rfl rfl rfl | exact wk_fn rfl | exact .nilo _ _ _ rfl rfl)
      · simp only [hcL] at hc4
        obtain rfl : i = a.length := by omega
        rw [List.take_length, List.take_of_length_le (by omega)] at hs
        refine aw_exit ?_
        simp only [go_sem, simprocAttr]
        refine aw_seq (aw_region (EF := EF0) hG (by rw [hN]; exact tr8_8) ?_)
        simp only [a8_8, go_sem, simprocAttr, tNo]
        refine aw_ret ?_
        show Q _ _
        refine hQ _ _ (.inl rfl) ?_ ?_ ?_ <;> simp only [outφ, outV, AR.res, go_sem, simprocAttr, fS13]
        rw [decide_eq_true hs]
theorem neg_sum : ∀ L : List Int, (L.map fun x => -x).sum = -L.sum
  | [] => rfl
  | y :: L => by rw [List.map_cons, List.sum_cons, neg_sum L, List.sum_cons]; omega
theorem shf_bd {a : Int} {l L : List Int} (h : ShF a l L) : ∀ x ∈ L, -1099511627776 ≤ x ∧ x ≤ 1099511627776 := by
  intro x hx
  obtain ⟨i, hi, rfl⟩ := List.mem_iff_getElem.1 hx
  have hb := h.bd
  have hs := h.sum
  have hg := h.sg
  rcases Int.le_total 0 a with h0 | h0
  · have hnn : ∀ w ∈ L, 0 ≤ w := fun w hw => by obtain ⟨j, hj, rfl⟩ := List.mem_iff_getElem.1 hw; exact (hg j hj).1 h0
    have := mem_le_sum hnn _ hx
    have := hnn _ hx
    omega
  · have hnn : ∀ w ∈ L.map (fun x => -x), 0 ≤ w := fun w hw => by
      obtain ⟨y, hy, rfl⟩ := List.mem_map.1 hw
      obtain ⟨j, hj, rfl⟩ := List.mem_iff_getElem.1 hy
      have := (hg j hj).2 h0; omega
    have h1 := mem_le_sum hnn _ (List.mem_map.2 ⟨_, hx, rfl⟩)
    have h2 := hnn _ (List.mem_map.2 ⟨_, hx, rfl⟩)
    have h3 := neg_sum L
    omega
structure PtF (n at' : Int) (X : List Int) (p : Part) : Prop where
  lo : at' ≤ p.from'
  mid : p.from' < p.to'
  hi : p.to' ≤ n
  sg : 0 ≤ p.amount → ∀ k : Nat, p.from' ≤ at' + k → at' + k < p.to' → 0 ≤ X.getD k 0
  sum : ((X.take (p.to' - at').toNat).drop (p.from' - at').toNat).sum = p.amount
theorem cp_facts {W : List Int} {n : Int} (hn : n ≤ W.length) : ∀ {parts : List Part} {at' : Int} {X : List Int}, divGo n at' parts = true → 0 ≤ at' → cpGo W parts = (0, X) →
    at' + X.length = n ∧ (∀ p ∈ parts, PtF n at' X p) ∧ ∀ x ∈ X, -1099511627776 ≤ x ∧ x ≤ 1099511627776
  | [], at', X, hd, h0, hc => by
    rw [divGo, decide_eq_true_eq] at hd
    rw [cpGo] at hc
    injection hc with _ hc
    subst hc
    exact ⟨by simp; exact hd, fun p hp => by simp at hp, fun x hx => by simp at hx⟩
  | p :: parts, at', X, hd, h0, hc => by
    rw [divGo] at hd
    split at hd
    · cases hd
    rename_i hp
    have hp1 : p.from' = at' ∧ at' < p.to' ∧ p.to' ≤ n := by omega
    rw [cpGo] at hc
    dsimp only at hc
    split at hc
    · rename_i he; injection hc with hc1 hc2; exact absurd hc1 he
    rename_i he
    have he0 : (splitM p.amount ((W.take p.to'.toNat).drop p.from'.toNat)).1 = 0 := by simpa using he
    split at hc
    · rename_i he2; injection hc with hc1 hc2; exact absurd hc1 he2
    rename_i he2
    have he20 : (cpGo W parts).1 = 0 := by simpa using he2
    injection hc with _ hc
    obtain ⟨⟨e1, s⟩, hs⟩ : ∃ y, splitM p.amount ((W.take p.to'.toNat).drop p.from'.toNat) = y := ⟨_, rfl⟩
    obtain ⟨⟨e2, r⟩, hr⟩ : ∃ y, cpGo W parts = y := ⟨_, rfl⟩
    rw [hs] at he0 hc
    rw [hr] at he20 hc
    dsimp only at he0 he20 hc
    subst he0 he20 hc
    have hF := (spl_facts hs).2 rfl
    have hsl : s.length = (p.to' - p.from').toNat := by rw [hF.len, List.length_drop, List.length_take]; omega
    obtain ⟨g1, g2, g3⟩ := cp_facts hn hd (by omega) hr
    refine ⟨by rw [List.length_append, hsl]; omega, fun q hq => ?_, fun x hx => ?_⟩
    · rcases List.mem_cons.1 hq with rfl | hq
      · refine ⟨by omega, by omega, by omega, fun ha k h1 h2 => ?_, ?_⟩
        · have hk : k < s.length := by omega
          rw [List.getD_eq_getElem?_getD, List.getElem?_append_left hk, List.getElem?_eq_getElem hk]
          exact (hF.sg k hk).1 ha
        · rw [show (q.from' - at').toNat = 0 by omega, List.drop_zero, show (q.to' - at').toNat = s.length by omega, List.take_left']
          · exact hF.sum
          · rfl
      · have f := g2 q hq
        have hl := f.lo
        refine ⟨by omega, f.mid, f.hi, fun ha k h1 h2 => ?_, ?_⟩
        · have hk : s.length ≤ k := by omega
          rw [List.getD_eq_getElem?_getD, List.getElem?_append_right hk, ← List.getD_eq_getElem?_getD]
          exact f.sg ha _ (by omega) (by omega)
        · have hm := f.mid
          rw [← f.sum, show (q.to' - at').toNat = s.length + (q.to' - p.to').toNat by omega, show (q.from' - at').toNat = s.length + (q.from' - p.to').toNat by omega, List.take_length_add_append, List.drop_length_add_append]
    · rcases List.mem_append.1 hx with hx | hx
      · exact shf_bd hF x hx
      · exact g3 x hx
theorem cp_len0 {W : List Int} {parts : List Part} {e : Int} {X : List Int} (h : cpGo W parts = (e, X)) (he : e ≠ 0) : X = [] := by
  have := glue_nil W parts
  rw [h] at this
  unfold glue at this
  rw [if_pos he] at this
  injection this
def rtB (p : Places) (l : List Want) (q : Quote) : Bool := decide ((p.airports.length : Int) ≤ 20) && decide ((p.distances.length : Int) ≤ 40) && decide ((l.length : Int) ≤ 8) && decide ((q.parts.length : Int) ≤ 10) && decide (((chkF p).length : Int) = 0)
def RtOk (p : Places) (l : List Want) (q : Quote) : Prop := p.ok ∧ l.length ≤ 140737488355328 ∧ q.ok
def fRt (x : Places × List Want × Quote) : Prop × V := (RtOk x.1 x.2.1 x.2.2, .bool (rtB x.1 x.2.1 x.2.2))
theorem fChk_eq39 (ps : List Airport) (ds : List Distance) : gOf aP1 fChk [.agg [.list (ps.map Airport.enc) false, .list (ds.map Distance.enc) false]] = (Sm ⟨ps, ds⟩, .list (faults (chkF ⟨ps, ds⟩)) false) := gOf_eq aP1_inj (⟨ps, ds⟩ : Places)
theorem fRt_eq (ps : List Airport) (ds : List Distance) (l : List Want) (q : Quote) : gOf aCo fRt [.agg [.list (ps.map Airport.enc) false, .list (ds.map Distance.enc) false], .list (l.map Want.enc) false, .agg q.enc] = (RtOk ⟨ps, ds⟩ l q, .bool (rtB ⟨ps, ds⟩ l q)) := gOf_eq aCo_inj (⟨ps, ds⟩, l, q)
theorem fCo_eq (ps : List Airport) (ds : List Distance) (l : List Want) (q : Quote) : gOf aCo fCo [.agg [.list (ps.map Airport.enc) false, .list (ds.map Distance.enc) false], .list (l.map Want.enc) false, .agg q.enc] = (COk ⟨ps, ds⟩ l q, shareV (coupM ⟨ps, ds⟩ l q)) := gOf_eq aCo_inj (⟨ps, ds⟩, l, q)
noncomputable def tRt : Tab
  | 11 => (gOf aP1 fChk)
  | _ => gNo
theorem tRt_ok : ∀ f, PureC Tryz.prog UT f (tRt f) := fun f => by
  unfold tRt
  split
  · exact rcheck_p
  · exact PureC.no
set_option maxHeartbeats 4000000 in
theorem right_p39 : PureC Tryz.prog UT 4 (gOf aCo fRt) := by
  have hG := tRt_ok
  refine PureC.ofArgs aCo_inj Tryz.func4 body4 nm4 res4 ?_
  rintro ⟨⟨ps, ds⟩, l, q⟩ hv
  refine ⟨by rw [nt4]; simp [aCo], fun C hN Q hQ => ?_⟩
  rw [nt4] at hN
  unfold c4
  obtain ⟨hp, hl, hq⟩ : RtOk ⟨ps, ds⟩ l q := hv
  refine aw_seq (aw_region (EF := EF0) hG (by rw [hN]; exact tr4_0) ?_)
  simp only [a4_0, go_sem, simprocAttr, aCo, Places.enc, Quote.enc, tRt, fChk_eq39]
  refine aw_seq (aw_region (EF := EF0) hG (by rw [hN]; exact tr4_1) ?_)
  simp only [a4_1, go_sem, simprocAttr, List.length_map, tRt, fChk_eq39]
  refine ⟨fun h => ⟨h, ?_⟩, ?_⟩
  · simp only [Bool.and_eq_true, decide_eq_true_eq] at h; exact ⟨by dsimp only; omega, by dsimp only; omega, hp.1.2⟩
  refine aw_ret ?_
  show Q _ _
  refine hQ _ _ (.inl rfl) ?_ ?_ ?_ <;> simp only [outφ, outV, AR.res, go_sem, simprocAttr, fRt]
  rfl
/-! The examples. -/
def exP : Places := ⟨[⟨[76, 72, 82], [76, 79, 78], [71, 66], ⟨0, []⟩⟩, ⟨[74, 70, 75], [78, 89, 67], [85, 83], ⟨0, []⟩⟩, ⟨[67, 68, 71], [80, 65, 82], [70, 82], ⟨0, []⟩⟩], [⟨[76, 79, 78], [78, 89, 67], 3458⟩, ⟨[76, 79, 78], [80, 65, 82], 214⟩]⟩
def exS (a b : List UInt8) : Want := ⟨⟨[], 0, 0, a, b, 0, 0⟩, []⟩
def exL : List Want := [exS [74, 70, 75] [76, 72, 82], exS [76, 72, 82] [67, 68, 71]]
def exQ : Quote := ⟨[⟨0, 2, 0, 10000⟩], [], [], 0, 0⟩
def exC (n : Int) : Coupon := ⟨exS [] [], [], 5, n⟩
def exT : Ticket := ⟨0, [], ⟨[], [], []⟩, [exC 1000, exC 2000, exC 500], 0, [], 0, 0⟩
theorem ex_co : gOf aCo fCo [.agg [.list [[.str [76, 72, 82], .str [76, 79, 78], .str [71, 66], .int .i64 0, .list [] false], [.str [74, 70, 75], .str [78, 89, 67], .str [85, 83], .int .i64 0, .list [] false], [.str [67, 68, 71], .str [80, 65, 82], .str [70, 82], .int .i64 0, .list [] false]] false, .list [[.str [76, 79, 78], .str [78, 89, 67], .int .i64 3458], [.str [76, 79, 78], .str [80, 65, 82], .int .i64 214]] false],
    .list [[.str [], .int .i64 0, .int .i64 0, .str [74, 70, 75], .str [76, 72, 82], .int .i64 0, .int .i64 0, .str []], [.str [], .int .i64 0, .int .i64 0, .str [76, 72, 82], .str [67, 68, 71], .int .i64 0, .int .i64 0, .str []]] false,
    .agg [.list [[.int .i64 0, .int .i64 2, .int .i64 0, .int .i64 10000]] false, .list [] false, .list [] false, .int .i64 0, .int .i64 0]] = (True, .tup [.list [[.int .i64 9417], [.int .i64 583]] false, .int .i64 0]) :=
  gOf_at aCo_inj (exP, exL, exQ) rfl ⟨⟨⟨by decide, by decide⟩, by decide⟩, by decide, by decide, fun x hx => by obtain rfl := List.mem_singleton.1 hx; unfold Part.ok inI; decide⟩ (by kernel_rfl)
theorem ex_sh : gOf aShr fShr [.agg [.int .i64 0, .str [], .str [], .str [], .str [], .list [[.str [], .int .i64 0, .int .i64 0, .str [], .str [], .int .i64 0, .int .i64 0, .str [], .str [], .int .i64 5, .int .i64 1000], [.str [], .int .i64 0, .int .i64 0, .str [], .str [], .int .i64 0, .int .i64 0, .str [], .str [], .int .i64 5, .int .i64 2000], [.str [], .int .i64 0, .int .i64 0, .str [], .str [], .int .i64 0, .int .i64 0, .str [], .str [], .int .i64 5, .int .i64 500]] false, .int .i64 0, .list [] false, .int .i64 0, .int .i64 0],
    .list [[.str [66, 65]], [.str [65, 70]], [.str [66, 65]]] false] = (True, .tup [.list [[.str [65, 70], .int .i64 2000], [.str [66, 65], .int .i64 1500]] false, .int .i64 0]) :=
  gOf_at aShr_inj (exT, [[66, 65], [65, 70], [66, 65]]) rfl ⟨by decide, by decide, by decide⟩ (by kernel_rfl)
theorem ex_sm : gOf aL2 fS13 [.list [[.int .i64 9417], [.int .i64 583]] false, .list [[.int .i64 9417], [.int .i64 583]] false] = (True, .bool true) := gOf_at aL2_inj ([9417, 583], [9417, 583]) rfl ⟨by decide, by decide⟩ (by kernel_rfl)
theorem ex_co2 : gNn (gOf aCo fCo) [.agg [.list [[.str [76, 72, 82], .str [76, 79, 78], .str [71, 66], .int .i64 0, .list [] false], [.str [74, 70, 75], .str [78, 89, 67], .str [85, 83], .int .i64 0, .list [] false], [.str [67, 68, 71], .str [80, 65, 82], .str [70, 82], .int .i64 0, .list [] false]] false, .list [[.str [76, 79, 78], .str [78, 89, 67], .int .i64 3458], [.str [76, 79, 78], .str [80, 65, 82], .int .i64 214]] false],
    .list [[.str [], .int .i64 0, .int .i64 0, .str [74, 70, 75], .str [76, 72, 82], .int .i64 0, .int .i64 0, .str []], [.str [], .int .i64 0, .int .i64 0, .str [76, 72, 82], .str [67, 68, 71], .int .i64 0, .int .i64 0, .str []]] false,
    .agg [.list [[.int .i64 0, .int .i64 2, .int .i64 0, .int .i64 10000]] false, .nils, .nils, .int .i64 0, .int .i64 0]] = (True, .tup [.list [[.int .i64 9417], [.int .i64 583]] false, .int .i64 0]) := ex_co
theorem ex_sh2 : gNn (gOf aShr fShr) [.agg [.int .i64 0, .str [], .str [], .str [], .str [], .list [[.str [], .int .i64 0, .int .i64 0, .str [], .str [], .int .i64 0, .int .i64 0, .str [], .str [], .int .i64 5, .int .i64 1000], [.str [], .int .i64 0, .int .i64 0, .str [], .str [], .int .i64 0, .int .i64 0, .str [], .str [], .int .i64 5, .int .i64 2000], [.str [], .int .i64 0, .int .i64 0, .str [], .str [], .int .i64 0, .int .i64 0, .str [], .str [], .int .i64 5, .int .i64 500]] false, .int .i64 0, .nils, .int .i64 0, .int .i64 0],
    .list [[.str [66, 65]], [.str [65, 70]], [.str [66, 65]]] false] = (True, .tup [.list [[.str [65, 70], .int .i64 2000], [.str [66, 65], .int .i64 1500]] false, .int .i64 0]) := ex_sh
noncomputable def tAw39 : Tab
  | 6 => (gNn (gOf aCo fCo))
  | 12 => (gNn (gOf aShr fShr))
  | 8 => (gOf aL2 fS13)
  | _ => gNo
theorem tAw39_ok : ∀ f, PureC Tryz.prog UT f (tAw39 f) := fun f => by
  unfold tAw39
  split
  · exact coupons_p.nn
  · exact shares_p.nn
  · exact same13_p
  · exact PureC.no
set_option maxHeartbeats 4000000 in
set_option maxRecDepth 20000 in
theorem awake_p39 : PureC Tryz.prog UT 5 (gOf aUnit fTrue) := by
  have hG := tAw39_ok
  refine PureC.ofArgs aUnit_inj Tryz.func5 body5 nm5 res5 ?_
  rintro u hv
  refine ⟨by rw [nt5]; simp [aUnit], fun C hN Q hQ => ?_⟩
  rw [nt5] at hN
  unfold c5
  refine aw_seq (aw_region (EF := EF0) hG (by rw [hN]; exact tr5_0) ?_)
  simp only [a5_0, go_sem, simprocAttr, aUnit, tAw39]
  refine aw_seq (aw_region (EF := EF0) hG (by rw [hN]; exact tr5_1) ?_)
  simp only [a5_1, go_sem, simprocAttr, tAw39]
  refine aw_seq (aw_region (EF := EF0) hG (by rw [hN]; exact tr5_2) ?_)
  simp only [a5_2, go_sem, simprocAttr, tAw39]
  refine aw_seq (aw_region (EF := EF0) hG (by rw [hN]; exact tr5_3) ?_)
  simp only [a5_3, go_sem, simprocAttr, ex_co2, tAw39]
  (repeat' apply And.intro) <;> (try first | omega | ((fail_if_success refine idW ?_); (fail_if_success refine idS ?_); intros; (repeat' apply And.intro) <;> first | assumption | omega | (simp_all; done)))
  refine aw_seq (aw_region (EF := EF0) hG (by rw [hN]; exact tr5_4) ?_)
  simp only [a5_4, go_sem, simprocAttr, tAw39]
  refine aw_seq (aw_region (EF := EF0) hG (by rw [hN]; exact tr5_5) ?_)
  simp only [a5_5, go_sem, simprocAttr, ex_sh2, tAw39]
  (repeat' apply And.intro) <;> (try first | omega | ((fail_if_success refine idW ?_); (fail_if_success refine idS ?_); intros; (repeat' apply And.intro) <;> first | assumption | omega | (simp_all; done)))
  refine aw_seq (aw_region (EF := EF0) hG (by rw [hN]; exact tr5_6) ?_)
  simp only [a5_6, go_sem, simprocAttr, ex_sm, tAw39]
  (repeat' apply And.intro) <;> (try first | omega | ((fail_if_success refine idW ?_); (fail_if_success refine idS ?_); intros; (repeat' apply And.intro) <;> first | assumption | omega | (simp_all; done)))
  refine aw_ret ?_
  show Q _ _
  refine hQ _ _ (.inl rfl) ?_ ?_ ?_ <;> simp only [outφ, outV, AR.res, go_sem, simprocAttr, fTrue]
end Go.Proofs.YtfjgnfgadkajnaaGreat
