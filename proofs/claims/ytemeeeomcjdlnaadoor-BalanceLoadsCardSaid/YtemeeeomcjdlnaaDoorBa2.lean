/- Convexity, of the program and of the reference. -/
import Derived.Test.YtemeeeomcjdlnaaDoorBa1
namespace Go.Proofs.YtemeeeomcjdlnaaDoor
open Go Go.RowKit
set_option linter.unusedSimpArgs false
set_option linter.unusedVariables false
set_option linter.deprecated false
def nx (n i : Nat) : Nat := (i + 1) % n
def sd (l : List Point) (i m : Nat) : Int := side (l.getD i Point.zero) (l.getD (nx l.length i) Point.zero) (l.getD m Point.zero)
def s0 (l : List Point) : Int := sd l 0 2
def okp (l : List Point) (i m : Nat) : Bool := decide (m = i) || decide (m = nx l.length i) || decide (sd l i m = s0 l)
def allG (l : List Point) : Bool := (List.range l.length).all fun i => (List.range l.length).all fun m => okp l i m
def turn (l : List Point) : Int := if allG l then s0 l else 0
theorem allG_iff (l : List Point) : allG l = true ↔ ∀ i, i < l.length → ∀ m, m < l.length → okp l i m = true := by simp [allG, List.all_eq_true]
theorem turn_bad {l : List Point} {i m : Nat} (hi : i < l.length) (hm : m < l.length) (h : okp l i m = false) : turn l = 0 := by
  unfold turn
  rw [if_neg]
  intro ha
  rw [(allG_iff l).1 ha i hi m hm] at h
  cases h
theorem turn_all {l : List Point} (h : ∀ i, i < l.length → ∀ m, m < l.length → okp l i m = true) : turn l = s0 l := by unfold turn; rw [if_pos ((allG_iff l).2 h)]
theorem nx_cast (n i : Nat) : ((i : Int) + 1).tmod (n : Int) = ((nx n i : Nat) : Int) := by rw [Int.tmod_eq_emod_of_nonneg (by omega)]; rfl
theorem nx_lt {n i : Nat} (h : i < n) : nx n i < n := Nat.mod_lt _ (by omega)
def FineL (l : List Point) : Prop := 3 ≤ l.length ∧ l.length ≤ 1000 ∧ ∀ p ∈ l, fineP p
theorem fine_mem {l : List Point} (h : FineL l) {i : Nat} (hi : i < l.length) : fineP l[i] := h.2.2 _ (List.getElem_mem hi)
theorem sd_at {l : List Point} {i m : Nat} (hi : i < l.length) (hm : m < l.length) : sd l i m = side l[i] (l[nx l.length i]'(nx_lt hi)) l[m] := by
  unfold sd
  rw [getD_lt _ _ _ hi, getD_lt _ _ _ (nx_lt hi), getD_lt _ _ _ hm]
theorem all_step {P : Nat → Prop} {m : Nat} (h : ∀ n, n < m → P n) (hm : P m) : ∀ n, n < m + 1 → P n := by
  intro n hn
  by_cases e : n = m
  · subst e; exact hm
  · exact h n (by omega)
theorem okp_eq {l : List Point} {i m k : Nat} (hi : i < l.length) (hm : m < l.length) (hkk : nx l.length i = k) (hk : k < l.length) : okp l i m = !(!decide ((m : Int) = i) && !decide ((m : Int) = k) && !decide (side l[i] l[k] l[m] = s0 l)) := by
  subst hkk
  unfold okp
  rw [sd_at hi hm]
  simp [Int.ofNat_inj]
theorem nx0 {n : Nat} (h : 3 ≤ n) : nx n 0 = 1 := Nat.mod_eq_of_lt (by omega)
theorem cx_fail {l : List Point} {i m k : Nat} {t : Int} (h3 : 3 ≤ l.length) (hi : i < l.length) (hm : m < l.length) (hkk : nx l.length i = k) (hk : k < l.length) (hb9 : (decide ((m : Int) = i) || decide ((m : Int) = k)) = false) (ht : t = if i = 0 ∧ m ≤ 2 then 0 else s0 l) (hz : ¬(i = 0 ∧ m ≤ 2) → s0 l ≠ 0)
    (hb : (decide (side l[i] l[k] l[m] = 0) || (!decide (t = 0) && !decide (side l[i] l[k] l[m] = t))) = true) : turn l = 0 := by
  have hs : side l[i] l[k] l[m] = sd l i m := by subst hkk; exact (sd_at hi hm).symm
  rw [hs] at hb
  simp only [Bool.or_eq_false_iff, decide_eq_false_iff_not, Int.ofNat_inj] at hb9
  by_cases c : i = 0 ∧ m ≤ 2
  · obtain ⟨rfl, c2⟩ := c
    rw [nx0 h3] at hkk
    have : m = 2 := by omega
    subst this
    rw [if_pos (by omega)] at ht
    subst ht
    simp only [decide_true, Bool.not_true, Bool.false_and, Bool.or_false, decide_eq_true_eq] at hb
    unfold turn s0
    split
    · exact hb
    · rfl
  · rw [if_neg c] at ht
    subst ht
    have hz := hz c
    refine turn_bad hi hm ?_
    rw [okp_eq hi hm hkk hk, hs]
    have h1 : sd l i m ≠ s0 l := by
      simp only [Bool.or_eq_true, Bool.and_eq_true, Bool.not_eq_true', decide_eq_true_eq, decide_eq_false_iff_not] at hb
      rcases hb with hb | hb
      · rw [hb]; exact Ne.symm hz
      · exact hb.2
    simp only [Int.ofNat_inj, hb9.1, hb9.2, h1, decide_false, Bool.not_false, Bool.and_self, Bool.not_true]
theorem cx_step {l : List Point} {i m k : Nat} {t : Int} (h3 : 3 ≤ l.length) (hi : i < l.length) (hm : m < l.length) (hkk : nx l.length i = k) (hk : k < l.length) (hb9 : (decide ((m : Int) = i) || decide ((m : Int) = k)) = false) (ht : t = if i = 0 ∧ m ≤ 2 then 0 else s0 l)
    (hb : (decide (side l[i] l[k] l[m] = 0) || (!decide (t = 0) && !decide (side l[i] l[k] l[m] = t))) = false) (hz : ¬(i = 0 ∧ m ≤ 2) → s0 l ≠ 0) : okp l i m = true ∧ side l[i] l[k] l[m] = s0 l ∧ s0 l ≠ 0 ∧ ¬(i = 0 ∧ m + 1 ≤ 2) := by
  have hs : side l[i] l[k] l[m] = sd l i m := by subst hkk; exact (sd_at hi hm).symm
  simp only [Bool.or_eq_false_iff, decide_eq_false_iff_not, Int.ofNat_inj] at hb9
  simp only [Bool.or_eq_false_iff, Bool.and_eq_false_iff, Bool.not_eq_false', decide_eq_true_eq, decide_eq_false_iff_not] at hb
  have hn : ¬(i = 0 ∧ m + 1 ≤ 2) := by
    rintro ⟨rfl, c2⟩
    rw [nx0 h3] at hkk
    omega
  have key : side l[i] l[k] l[m] = s0 l ∧ s0 l ≠ 0 := by
    by_cases c : i = 0 ∧ m ≤ 2
    · obtain ⟨rfl, c2⟩ := c
      rw [nx0 h3] at hkk
      have : m = 2 := by omega
      subst this
      rw [hs] at hb ⊢
      exact ⟨rfl, hb.1⟩
    · rw [if_neg c] at ht
      have hz := hz c
      subst ht
      exact ⟨hb.2.resolve_left hz, hz⟩
  refine ⟨?_, key.1, key.2, hn⟩
  rw [okp_eq hi hm hkk hk, key.1]
  simp
theorem cx_skip {l : List Point} {i m k : Nat} (hi : i < l.length) (hm : m < l.length) (hkk : nx l.length i = k) (hk : k < l.length) (hb9 : (decide ((m : Int) = i) || decide ((m : Int) = k)) = true) : okp l i m = true := by
  rw [okp_eq hi hm hkk hk]
  simp only [Bool.or_eq_true, decide_eq_true_eq] at hb9
  rcases hb9 with h | h <;> simp [h]
theorem cx_skip0 {n i m k : Nat} (h3 : 3 ≤ n) (hkk : nx n i = k) (hb9 : (decide ((m : Int) = i) || decide ((m : Int) = k)) = true) : (i = 0 ∧ m ≤ 2) = (i = 0 ∧ m + 1 ≤ 2) := by
  simp only [Bool.or_eq_true, decide_eq_true_eq, Int.ofNat_inj] at hb9
  refine propext ⟨?_, fun h => ⟨h.1, by omega⟩⟩
  rintro ⟨rfl, h⟩
  rw [nx0 h3] at hkk
  omega
def aE (x : List Point) : List V := [.list (x.map Point.enc) false]
theorem aE_inj (a b : List Point) (h : aE a = aE b) : a = b := by
  simp only [aE, List.cons.injEq, V.str.injEq, V.int.injEq, V.bool.injEq, V.agg.injEq, V.list.injEq, and_true, true_and] at h
  have h0 := h
  replace h0 := map_inj' Point.inj h0
  subst h0
  rfl
def fTurn (l : List Point) : Prop × V := (FineL l, .int .i64 (turn l))
theorem fSg_eq (p q r : Point) : gOf aS fS [.agg [.int .i64 p.weight, .int .i64 p.index], .agg [.int .i64 q.weight, .int .i64 q.index], .agg [.int .i64 r.weight, .int .i64 r.index]] = (fineP p ∧ fineP q ∧ fineP r, .int .i64 (side p q r)) := gOf_eq aS_inj (p, q, r)
noncomputable def trCx : Tab
  | 31 => (gOf aS fS)
  | _ => gNo
theorem trCx_ok : ∀ f, PureC Tryd.prog UT f (trCx f) := fun f => by
  unfold trCx
  split
  · exact rside_p
  · exact PureC.no
set_option maxHeartbeats 2000000 in
theorem rconvex_p : PureC Tryd.prog UT 29 (gOf aE fTurn) := by
  have hG := trCx_ok
  refine PureC.ofArgs aE_inj Tryd.func29 body29 nm29 res29 ?_
  rintro l hv
  refine ⟨by rw [nt29]; simp [aE], fun C hN Q hQ => ?_⟩
  rw [nt29] at hN
  unfold c29
  replace hv : FineL l := hv
  obtain ⟨h3, hl, -⟩ := id hv
  have q0 : 0 < l.length := by omega
  have q1 : 1 < l.length := by omega
  have q2 : 2 < l.length := by omega
  have e0 : side l[0] l[1] l[2] = s0 l := by
    unfold s0; rw [sd_at q0 q2]
    have : nx l.length 0 = 1 := Nat.mod_eq_of_lt q1
    simp only [this]
  have f0 := fine_mem hv q0
  have f1 := fine_mem hv q1
  have f2 := fine_mem hv q2
  refine aw_seq (aw_region (EF := EF0) hG (by rw [hN]; exact tr29_0) ?_)
  simp only [a29_0, go_sem, ↓reduceIte, Nat.reduceEqDiff, reduceCtorEq, Nat.reduceAdd, Nat.reduceLT, Nat.reduceLeDiff, Nat.reduceBNe, Nat.reduceBEq, Int.reduceToNat, aE]
  refine aw_seq (aw_regionD (EF := EF0) hG mixed (by rw [hN]; exact tr29_1) ok29_1 ?_)
  simp only [a29_1, d29_1, go_sem, ↓reduceIte, Nat.reduceEqDiff, reduceCtorEq, Nat.reduceAdd, Nat.reduceLT, Nat.reduceLeDiff, Nat.reduceBNe, Nat.reduceBEq, Int.reduceToNat, trCx, getD_mapd _ _ _ _ q0, getD_mapd _ _ _ _ q1, getD_mapd _ _ _ _ q2, q0, q1, q2, Point.enc, fSg_eq, e0, f0, f1, f2]
  (repeat' apply And.intro) <;> (try first | omega | (intros; (repeat' apply And.intro) <;> first | assumption | omega | (simp_all; done)))
  refine aw_seq ?_
  refine aw_seq (aw_region (EF := EF0) hG (by rw [hN]; exact tr29_2) ?_)
  simp only [a29_2, go_sem, ↓reduceIte, Nat.reduceEqDiff, reduceCtorEq, Nat.reduceAdd, Nat.reduceLT, Nat.reduceLeDiff, Nat.reduceBNe, Nat.reduceBEq, Int.reduceToNat]
  refine aw_block ?_
  refine aw_loop (α := Nat) (fun i => (i ≤ l.length) ∧ (∀ j, j < i → ∀ m, m < l.length → okp l j m = true)) (fun i => ⟨mkE [(0, V.list (List.map Point.enc l) false), (3, V.int IntKind.i64 (s0 l)), (4, .int .i64 i)], mkH []⟩) (fun i => l.length - i) 0 (by simp) ?_ ?_
  · refine Le.mk _ _ ?_ ?_ rfl <;> simp only [go_sem, ↓reduceIte, Nat.reduceEqDiff, reduceCtorEq, Nat.reduceAdd, Nat.reduceLT, Nat.reduceLeDiff, Nat.reduceBNe, Nat.reduceBEq, Int.reduceToNat] <;> (repeat' apply And.intro) <;> (try first | rfl | exact wk_frzb rfl rfl rfl | exact wk_fn rfl | exact .nilo _ _ _ rfl rfl)
  · rintro i ⟨hi, hp⟩ KL0 hKL0
    try dsimp only at *
    refine aw_seq ?_
    refine aw_seq (aw_region (EF := EF0) hG (by rw [hN]; exact tr29_3) ?_)
    simp only [a29_3, go_sem, ↓reduceIte, Nat.reduceEqDiff, reduceCtorEq, Nat.reduceAdd, Nat.reduceLT, Nat.reduceLeDiff, Nat.reduceBNe, Nat.reduceBEq, Int.reduceToNat]
    refine aw_cond (b := _) rfl (fun hc3 => ?_) (fun hc3 => ?_)
    · simp only [decide_eq_true_eq, decide_eq_false_iff_not, Bool.and_eq_true, Bool.or_eq_true, Bool.not_eq_true', Bool.not_eq_false', Bool.and_eq_false_iff, Bool.or_eq_false_iff, Int.ofNat_lt, Int.ofNat_le, Nat.not_lt, Nat.not_le, Int.not_lt, Int.not_le] at hc3
      refine aw_skip ?_
      simp only [go_sem, ↓reduceIte, Nat.reduceEqDiff, reduceCtorEq, Nat.reduceAdd, Nat.reduceLT, Nat.reduceLeDiff, Nat.reduceBNe, Nat.reduceBEq, Int.reduceToNat]
      refine aw_seq ?_
      refine aw_block ?_
      refine aw_seq (aw_region (EF := EF0) hG (by rw [hN]; exact tr29_5) ?_)
      simp only [a29_5, go_sem, ↓reduceIte, Nat.reduceEqDiff, reduceCtorEq, Nat.reduceAdd, Nat.reduceLT, Nat.reduceLeDiff, Nat.reduceBNe, Nat.reduceBEq, Int.reduceToNat, inI, nx_cast]
      (repeat' apply And.intro) <;> (try first | omega | (intros; (repeat' apply And.intro) <;> first | assumption | omega | (simp_all; done)))
      have hk := nx_lt hc3
      generalize hkk : nx l.length i = k at hk
      refine aw_seq (aw_region (EF := EF0) hG (by rw [hN]; exact tr29_6) ?_)
      simp only [a29_6, go_sem, ↓reduceIte, Nat.reduceEqDiff, reduceCtorEq, Nat.reduceAdd, Nat.reduceLT, Nat.reduceLeDiff, Nat.reduceBNe, Nat.reduceBEq, Int.reduceToNat]
      refine aw_block ?_
      refine aw_loop (α := Nat) (fun m => (m ≤ l.length) ∧ (∀ n, n < m → okp l i n = true)) (fun m => ⟨mkE [(0, V.list (List.map Point.enc l) false), (3, V.int IntKind.i64 (s0 l)), (4, V.int IntKind.i64 ↑i), (5, V.int IntKind.i64 ↑k), (6, .int .i64 m)], mkH []⟩) (fun m => l.length - m) 0 (by simp) ?_ ?_
      · refine Le.mk _ _ ?_ ?_ rfl <;> simp only [go_sem, ↓reduceIte, Nat.reduceEqDiff, reduceCtorEq, Nat.reduceAdd, Nat.reduceLT, Nat.reduceLeDiff, Nat.reduceBNe, Nat.reduceBEq, Int.reduceToNat] <;> (repeat' apply And.intro) <;> (try first | rfl | exact wk_frzb rfl rfl rfl | exact wk_fn rfl | exact .nilo _ _ _ rfl rfl)
      · rintro m ⟨hm, hq⟩ KL2 hKL2
        try dsimp only at *
        refine aw_seq ?_
        refine aw_seq (aw_region (EF := EF0) hG (by rw [hN]; exact tr29_7) ?_)
        simp only [a29_7, go_sem, ↓reduceIte, Nat.reduceEqDiff, reduceCtorEq, Nat.reduceAdd, Nat.reduceLT, Nat.reduceLeDiff, Nat.reduceBNe, Nat.reduceBEq, Int.reduceToNat]
        refine aw_cond (b := _) rfl (fun hc7 => ?_) (fun hc7 => ?_)
        · simp only [decide_eq_true_eq, decide_eq_false_iff_not, Bool.and_eq_true, Bool.or_eq_true, Bool.not_eq_true', Bool.not_eq_false', Bool.and_eq_false_iff, Bool.or_eq_false_iff, Int.ofNat_lt, Int.ofNat_le, Nat.not_lt, Nat.not_le, Int.not_lt, Int.not_le] at hc7
          refine aw_skip ?_
          simp only [go_sem, ↓reduceIte, Nat.reduceEqDiff, reduceCtorEq, Nat.reduceAdd, Nat.reduceLT, Nat.reduceLeDiff, Nat.reduceBNe, Nat.reduceBEq, Int.reduceToNat]
          refine aw_seq ?_
          refine aw_block ?_
          have g1 := fine_mem hv hc3
          have g2 := fine_mem hv hk
          have g3 := fine_mem hv hc7
          refine aw_seq (aw_regionD (EF := EF0) hG mixed (by rw [hN]; exact tr29_9) ok29_9 ?_)
          simp only [a29_9, d29_9, go_sem, ↓reduceIte, Nat.reduceEqDiff, reduceCtorEq, Nat.reduceAdd, Nat.reduceLT, Nat.reduceLeDiff, Nat.reduceBNe, Nat.reduceBEq, Int.reduceToNat, trCx, getD_mapd _ _ _ _ hc3, hc3, getD_mapd _ _ _ _ hk, hk, getD_mapd _ _ _ _ hc7, hc7, Point.enc, fSg_eq, g1, g2, g3]
          (repeat' apply And.intro) <;> (try first | omega | (intros; (repeat' apply And.intro) <;> first | assumption | omega | (simp_all; done)))
          refine aw_cond (b := _) rfl (fun hb9 => ?_) (fun hb9 => ?_)
          · skip
            refine aw_seq (aw_region (EF := EF0) hG (by rw [hN]; exact tr29_10) ?_)
            simp only [a29_10, go_sem, ↓reduceIte, Nat.reduceEqDiff, reduceCtorEq, Nat.reduceAdd, Nat.reduceLT, Nat.reduceLeDiff, Nat.reduceBNe, Nat.reduceBEq, Int.reduceToNat]
            refine aw_ret ?_
            show Q _ _
            refine hQ _ _ (.inl rfl) ?_ ?_ ?_ <;> simp only [outφ, outV, AR.res, go_sem, ↓reduceIte, Nat.reduceEqDiff, reduceCtorEq, Nat.reduceAdd, Nat.reduceLT, Nat.reduceLeDiff, Nat.reduceBNe, Nat.reduceBEq, Int.reduceToNat, fTurn]
            rw [turn_bad hc3 hc7 (by rw [okp_eq hc3 hc7 hkk hk, hb9]; rfl)]
          · skip
            refine aw_skip ?_
            simp only [go_sem, ↓reduceIte, Nat.reduceEqDiff, reduceCtorEq, Nat.reduceAdd, Nat.reduceLT, Nat.reduceLeDiff, Nat.reduceBNe, Nat.reduceBEq, Int.reduceToNat]
            refine aw_region (EF := EF0) hG (by rw [hN]; exact tr29_8) ?_
            simp only [a29_8, go_sem, ↓reduceIte, Nat.reduceEqDiff, reduceCtorEq, Nat.reduceAdd, Nat.reduceLT, Nat.reduceLeDiff, Nat.reduceBNe, Nat.reduceBEq, Int.reduceToNat, inI]
            (repeat' apply And.intro) <;> (try first | omega | (intros; (repeat' apply And.intro) <;> first | assumption | omega | (simp_all; done)))
            refine hKL2 (m + 1) _ ?_ ?_ ?_
            · (try dsimp only); exact ⟨hc7, all_step hq (by rw [okp_eq hc3 hc7 hkk hk, hb9]; rfl)⟩
            · (try dsimp only); omega
            · refine Le.mk _ _ ?_ ?_ rfl <;> simp only [go_sem, ↓reduceIte, Nat.reduceEqDiff, reduceCtorEq, Nat.reduceAdd, Nat.reduceLT, Nat.reduceLeDiff, Nat.reduceBNe, Nat.reduceBEq, Int.reduceToNat] <;> (repeat' apply And.intro) <;> (try first | rfl | exact wk_frzb rfl rfl rfl | exact wk_fn rfl | exact .nilo _ _ _ rfl rfl)
        · simp only [decide_eq_true_eq, decide_eq_false_iff_not, Bool.and_eq_true, Bool.or_eq_true, Bool.not_eq_true', Bool.not_eq_false', Bool.and_eq_false_iff, Bool.or_eq_false_iff, Int.ofNat_lt, Int.ofNat_le, Nat.not_lt, Nat.not_le, Int.not_lt, Int.not_le] at hc7
          refine aw_exit ?_
          simp only [go_sem, ↓reduceIte, Nat.reduceEqDiff, reduceCtorEq, Nat.reduceAdd, Nat.reduceLT, Nat.reduceLeDiff, Nat.reduceBNe, Nat.reduceBEq, Int.reduceToNat]
          refine aw_region (EF := EF0) hG (by rw [hN]; exact tr29_4) ?_
          simp only [a29_4, go_sem, ↓reduceIte, Nat.reduceEqDiff, reduceCtorEq, Nat.reduceAdd, Nat.reduceLT, Nat.reduceLeDiff, Nat.reduceBNe, Nat.reduceBEq, Int.reduceToNat, inI]
          (repeat' apply And.intro) <;> (try first | omega | (intros; (repeat' apply And.intro) <;> first | assumption | omega | (simp_all; done)))
          refine hKL0 (i + 1) _ ?_ ?_ ?_
          · (try dsimp only); exact ⟨hc3, all_step hp fun n hn => hq n (by omega)⟩
          · (try dsimp only); omega
          · refine Le.mk _ _ ?_ ?_ rfl <;> simp only [go_sem, ↓reduceIte, Nat.reduceEqDiff, reduceCtorEq, Nat.reduceAdd, Nat.reduceLT, Nat.reduceLeDiff, Nat.reduceBNe, Nat.reduceBEq, Int.reduceToNat] <;> (repeat' apply And.intro) <;> (try first | rfl | exact wk_frzb rfl rfl rfl | exact wk_fn rfl | exact .nilo _ _ _ rfl rfl)
    · simp only [decide_eq_true_eq, decide_eq_false_iff_not, Bool.and_eq_true, Bool.or_eq_true, Bool.not_eq_true', Bool.not_eq_false', Bool.and_eq_false_iff, Bool.or_eq_false_iff, Int.ofNat_lt, Int.ofNat_le, Nat.not_lt, Nat.not_le, Int.not_lt, Int.not_le] at hc3
      refine aw_exit ?_
      simp only [go_sem, ↓reduceIte, Nat.reduceEqDiff, reduceCtorEq, Nat.reduceAdd, Nat.reduceLT, Nat.reduceLeDiff, Nat.reduceBNe, Nat.reduceBEq, Int.reduceToNat]
      refine aw_seq (aw_region (EF := EF0) hG (by rw [hN]; exact tr29_11) ?_)
      simp only [a29_11, go_sem, ↓reduceIte, Nat.reduceEqDiff, reduceCtorEq, Nat.reduceAdd, Nat.reduceLT, Nat.reduceLeDiff, Nat.reduceBNe, Nat.reduceBEq, Int.reduceToNat]
      refine aw_ret ?_
      show Q _ _
      refine hQ _ _ (.inl rfl) ?_ ?_ ?_ <;> simp only [outφ, outV, AR.res, go_sem, ↓reduceIte, Nat.reduceEqDiff, reduceCtorEq, Nat.reduceAdd, Nat.reduceLT, Nat.reduceLeDiff, Nat.reduceBNe, Nat.reduceBEq, Int.reduceToNat, fTurn]
      rw [turn_all fun j hj => hp j (by omega)]
def fCx (l : List Point) : Prop × V := (FineL l, .bool (!decide (turn l = 0)))
noncomputable def tCx : Tab
  | 30 => (gOf aS fS)
  | _ => gNo
theorem tCx_ok : ∀ f, PureC Tryd.prog UT f (tCx f) := fun f => by
  unfold tCx
  split
  · exact side_p
  · exact PureC.no
set_option maxHeartbeats 2000000 in
theorem convex_p : PureC Tryd.prog UT 25 (gOf aE fCx) := by
  have hG := tCx_ok
  refine PureC.ofArgs aE_inj Tryd.func25 body25 nm25 res25 ?_
  rintro l hv
  refine ⟨by rw [nt25]; simp [aE], fun C hN Q hQ => ?_⟩
  rw [nt25] at hN
  unfold c25
  replace hv : FineL l := hv
  obtain ⟨h3, hl, -⟩ := id hv
  refine aw_seq (aw_region (EF := EF0) hG (by rw [hN]; exact tr25_0) ?_)
  simp only [a25_0, go_sem, ↓reduceIte, Nat.reduceEqDiff, reduceCtorEq, Nat.reduceAdd, Nat.reduceLT, Nat.reduceLeDiff, Nat.reduceBNe, Nat.reduceBEq, Int.reduceToNat, aE]
  refine aw_seq (aw_region (EF := EF0) hG (by rw [hN]; exact tr25_1) ?_)
  simp only [a25_1, go_sem, ↓reduceIte, Nat.reduceEqDiff, reduceCtorEq, Nat.reduceAdd, Nat.reduceLT, Nat.reduceLeDiff, Nat.reduceBNe, Nat.reduceBEq, Int.reduceToNat]
  refine aw_seq ?_
  refine aw_seq (aw_region (EF := EF0) hG (by rw [hN]; exact tr25_2) ?_)
  simp only [a25_2, go_sem, ↓reduceIte, Nat.reduceEqDiff, reduceCtorEq, Nat.reduceAdd, Nat.reduceLT, Nat.reduceLeDiff, Nat.reduceBNe, Nat.reduceBEq, Int.reduceToNat]
  refine aw_block ?_
  refine aw_loop (α := Nat × Int) (fun γ => (γ.1 ≤ l.length) ∧ (∀ j, j < γ.1 → ∀ m, m < l.length → okp l j m = true) ∧ (γ.2 = if γ.1 = 0 then 0 else s0 l) ∧ (0 < γ.1 → s0 l ≠ 0)) (fun γ => ⟨mkE [(0, V.list (List.map Point.enc l) false), (3, .int .i64 γ.2), (10, V.list (List.map Point.enc l) false), (11, V.int IntKind.i64 ↑l.length), (12, .int .i64 γ.1)], mkH []⟩) (fun γ => l.length - γ.1) (0, 0) ⟨Nat.zero_le _, fun j hj => absurd hj (Nat.not_lt_zero _), rfl, fun h => absurd h (Nat.lt_irrefl _)⟩ ?_ ?_
  · refine Le.mk _ _ ?_ ?_ rfl <;> simp only [go_sem, ↓reduceIte, Nat.reduceEqDiff, reduceCtorEq, Nat.reduceAdd, Nat.reduceLT, Nat.reduceLeDiff, Nat.reduceBNe, Nat.reduceBEq, Int.reduceToNat] <;> (repeat' apply And.intro) <;> (try first | rfl | exact wk_frzb rfl rfl rfl | exact wk_fn rfl | exact .nilo _ _ _ rfl rfl)
  · rintro ⟨i, t⟩ ⟨hi, hp, ht, hz⟩ KL0 hKL0
    try dsimp only at *
    refine aw_seq (aw_region (EF := EF0) hG (by rw [hN]; exact tr25_3) ?_)
    simp only [a25_3, go_sem, ↓reduceIte, Nat.reduceEqDiff, reduceCtorEq, Nat.reduceAdd, Nat.reduceLT, Nat.reduceLeDiff, Nat.reduceBNe, Nat.reduceBEq, Int.reduceToNat]
    refine aw_seq ?_
    refine aw_cond (b := _) rfl (fun hc3 => ?_) (fun hc3 => ?_)
    · simp only [decide_eq_true_eq, decide_eq_false_iff_not, Bool.and_eq_true, Bool.or_eq_true, Bool.not_eq_true', Bool.not_eq_false', Bool.and_eq_false_iff, Bool.or_eq_false_iff, Int.ofNat_lt, Int.ofNat_le, Nat.not_lt, Nat.not_le, Int.not_lt, Int.not_le] at hc3
      refine aw_skip ?_
      simp only [go_sem, ↓reduceIte, Nat.reduceEqDiff, reduceCtorEq, Nat.reduceAdd, Nat.reduceLT, Nat.reduceLeDiff, Nat.reduceBNe, Nat.reduceBEq, Int.reduceToNat]
      refine aw_seq ?_
      refine aw_block ?_
      refine aw_seq (aw_region (EF := EF0) hG (by rw [hN]; exact tr25_4) ?_)
      simp only [a25_4, go_sem, ↓reduceIte, Nat.reduceEqDiff, reduceCtorEq, Nat.reduceAdd, Nat.reduceLT, Nat.reduceLeDiff, Nat.reduceBNe, Nat.reduceBEq, Int.reduceToNat, getD_mapd _ _ _ _ hc3, hc3, Point.enc]
      (repeat' apply And.intro) <;> (try first | omega | (intros; (repeat' apply And.intro) <;> first | assumption | omega | (simp_all; done)))
      refine aw_seq (aw_region (EF := EF0) hG (by rw [hN]; exact tr25_5) ?_)
      simp only [a25_5, go_sem, ↓reduceIte, Nat.reduceEqDiff, reduceCtorEq, Nat.reduceAdd, Nat.reduceLT, Nat.reduceLeDiff, Nat.reduceBNe, Nat.reduceBEq, Int.reduceToNat, inI, nx_cast]
      (repeat' apply And.intro) <;> (try first | omega | (intros; (repeat' apply And.intro) <;> first | assumption | omega | (simp_all; done)))
      have hk := nx_lt hc3
      generalize hkk : nx l.length i = k at hk
      refine aw_seq (aw_region (EF := EF0) hG (by rw [hN]; exact tr25_6) ?_)
      simp only [a25_6, go_sem, ↓reduceIte, Nat.reduceEqDiff, reduceCtorEq, Nat.reduceAdd, Nat.reduceLT, Nat.reduceLeDiff, Nat.reduceBNe, Nat.reduceBEq, Int.reduceToNat]
      refine aw_block ?_
      refine aw_loop (α := Nat × Int) (fun γ => (γ.1 ≤ l.length) ∧ (∀ n, n < γ.1 → okp l i n = true) ∧ (γ.2 = if i = 0 ∧ γ.1 ≤ 2 then 0 else s0 l) ∧ (¬(i = 0 ∧ γ.1 ≤ 2) → s0 l ≠ 0)) (fun γ => ⟨mkE [(0, V.list (List.map Point.enc l) false), (3, .int .i64 γ.2), (4, V.int IntKind.i64 ↑i), (5, V.ptr 5 0), (6, V.int IntKind.i64 ↑k), (10, V.list (List.map Point.enc l) false), (11, V.int IntKind.i64 ↑l.length), (12, V.int IntKind.i64 ↑i), (22, V.list (List.map Point.enc l) false), (23, V.int IntKind.i64 ↑l.length), (24, .int .i64 γ.1)], mkH [(5, Ob.box 33 [V.int IntKind.i64 l[i].weight, V.int IntKind.i64 l[i].index])]⟩) (fun γ => l.length - γ.1) (0, t) ⟨Nat.zero_le _, fun j hj => absurd hj (Nat.not_lt_zero _), by rw [ht]; simp, fun h => hz (by omega)⟩ ?_ ?_
      · refine Le.mk _ _ ?_ ?_ rfl <;> simp only [go_sem, ↓reduceIte, Nat.reduceEqDiff, reduceCtorEq, Nat.reduceAdd, Nat.reduceLT, Nat.reduceLeDiff, Nat.reduceBNe, Nat.reduceBEq, Int.reduceToNat] <;> (repeat' apply And.intro) <;> (try first | rfl | exact wk_frzb rfl rfl rfl | exact wk_fn rfl | exact .nilo _ _ _ rfl rfl)
      · rintro ⟨m, u⟩ ⟨hm, hq, hu, hy⟩ KL2 hKL2
        try dsimp only at *
        refine aw_seq (aw_region (EF := EF0) hG (by rw [hN]; exact tr25_7) ?_)
        simp only [a25_7, go_sem, ↓reduceIte, Nat.reduceEqDiff, reduceCtorEq, Nat.reduceAdd, Nat.reduceLT, Nat.reduceLeDiff, Nat.reduceBNe, Nat.reduceBEq, Int.reduceToNat]
        refine aw_seq ?_
        refine aw_cond (b := _) rfl (fun hc7 => ?_) (fun hc7 => ?_)
        · simp only [decide_eq_true_eq, decide_eq_false_iff_not, Bool.and_eq_true, Bool.or_eq_true, Bool.not_eq_true', Bool.not_eq_false', Bool.and_eq_false_iff, Bool.or_eq_false_iff, Int.ofNat_lt, Int.ofNat_le, Nat.not_lt, Nat.not_le, Int.not_lt, Int.not_le] at hc7
          refine aw_skip ?_
          simp only [go_sem, ↓reduceIte, Nat.reduceEqDiff, reduceCtorEq, Nat.reduceAdd, Nat.reduceLT, Nat.reduceLeDiff, Nat.reduceBNe, Nat.reduceBEq, Int.reduceToNat]
          refine aw_seq ?_
          refine aw_block ?_
          refine aw_seq (aw_region (EF := EF0) hG (by rw [hN]; exact tr25_8) ?_)
          simp only [a25_8, go_sem, ↓reduceIte, Nat.reduceEqDiff, reduceCtorEq, Nat.reduceAdd, Nat.reduceLT, Nat.reduceLeDiff, Nat.reduceBNe, Nat.reduceBEq, Int.reduceToNat, getD_mapd _ _ _ _ hc7, hc7, Point.enc]
          (repeat' apply And.intro) <;> (try first | omega | (intros; (repeat' apply And.intro) <;> first | assumption | omega | (simp_all; done)))
          refine aw_seq ?_
          refine aw_seq (aw_region (EF := EF0) hG (by rw [hN]; exact tr25_9) ?_)
          simp only [a25_9, go_sem, ↓reduceIte, Nat.reduceEqDiff, reduceCtorEq, Nat.reduceAdd, Nat.reduceLT, Nat.reduceLeDiff, Nat.reduceBNe, Nat.reduceBEq, Int.reduceToNat]
          (repeat' apply And.intro) <;> (try first | omega | (intros; (repeat' apply And.intro) <;> first | assumption | omega | (simp_all; done)))
          refine aw_cond (b := _) rfl (fun hb9 => ?_) (fun hb9 => ?_)
          · skip
            refine aw_exit ?_
            simp only [go_sem, ↓reduceIte, Nat.reduceEqDiff, reduceCtorEq, Nat.reduceAdd, Nat.reduceLT, Nat.reduceLeDiff, Nat.reduceBNe, Nat.reduceBEq, Int.reduceToNat]
            refine aw_region (EF := EF0) hG (by rw [hN]; exact tr25_14) ?_
            simp only [a25_14, go_sem, ↓reduceIte, Nat.reduceEqDiff, reduceCtorEq, Nat.reduceAdd, Nat.reduceLT, Nat.reduceLeDiff, Nat.reduceBNe, Nat.reduceBEq, Int.reduceToNat, inI]
            (repeat' apply And.intro) <;> (try first | omega | (intros; (repeat' apply And.intro) <;> first | assumption | omega | (simp_all; done)))
            refine hKL2 (m + 1, u) _ ?_ ?_ ?_
            · (try dsimp only); refine ⟨hc7, all_step hq (cx_skip hc3 hc7 hkk hk hb9), ?_, ?_⟩ <;> simp only [← cx_skip0 h3 hkk hb9] <;> assumption
            · (try dsimp only); omega
            · refine Le.mk _ _ ?_ ?_ rfl <;> simp only [go_sem, ↓reduceIte, Nat.reduceEqDiff, reduceCtorEq, Nat.reduceAdd, Nat.reduceLT, Nat.reduceLeDiff, Nat.reduceBNe, Nat.reduceBEq, Int.reduceToNat] <;> (repeat' apply And.intro) <;> (try first | rfl | exact wk_frzb rfl rfl rfl | exact wk_fn rfl | exact .nilo _ _ _ rfl rfl)
          · skip
            refine aw_skip ?_
            simp only [go_sem, ↓reduceIte, Nat.reduceEqDiff, reduceCtorEq, Nat.reduceAdd, Nat.reduceLT, Nat.reduceLeDiff, Nat.reduceBNe, Nat.reduceBEq, Int.reduceToNat]
            have g1 := fine_mem hv hc3
            have g2 := fine_mem hv hk
            have g3 := fine_mem hv hc7
            refine aw_seq (aw_regionD (EF := EF0) hG mixed (by rw [hN]; exact tr25_10) ok25_10 ?_)
            simp only [a25_10, d25_10, go_sem, ↓reduceIte, Nat.reduceEqDiff, reduceCtorEq, Nat.reduceAdd, Nat.reduceLT, Nat.reduceLeDiff, Nat.reduceBNe, Nat.reduceBEq, Int.reduceToNat, tCx, getD_mapd _ _ _ _ hk, hk, Point.enc, fSg_eq, g1, g2, g3]
            (repeat' apply And.intro) <;> (try first | omega | (intros; (repeat' apply And.intro) <;> first | assumption | omega | (simp_all; done)))
            refine aw_seq ?_
            refine aw_seq (aw_region (EF := EF0) hG (by rw [hN]; exact tr25_11) ?_)
            simp only [a25_11, go_sem, ↓reduceIte, Nat.reduceEqDiff, reduceCtorEq, Nat.reduceAdd, Nat.reduceLT, Nat.reduceLeDiff, Nat.reduceBNe, Nat.reduceBEq, Int.reduceToNat]
            (repeat' apply And.intro) <;> (try first | omega | (intros; (repeat' apply And.intro) <;> first | assumption | omega | (simp_all; done)))
            refine aw_cond (b := _) rfl (fun hb11 => ?_) (fun hb11 => ?_)
            · skip
              refine aw_seq (aw_region (EF := EF0) hG (by rw [hN]; exact tr25_12) ?_)
              simp only [a25_12, go_sem, ↓reduceIte, Nat.reduceEqDiff, reduceCtorEq, Nat.reduceAdd, Nat.reduceLT, Nat.reduceLeDiff, Nat.reduceBNe, Nat.reduceBEq, Int.reduceToNat]
              refine aw_ret ?_
              show Q _ _
              refine hQ _ _ (.inl rfl) ?_ ?_ ?_ <;> simp only [outφ, outV, AR.res, go_sem, ↓reduceIte, Nat.reduceEqDiff, reduceCtorEq, Nat.reduceAdd, Nat.reduceLT, Nat.reduceLeDiff, Nat.reduceBNe, Nat.reduceBEq, Int.reduceToNat, fCx]
              rw [cx_fail h3 hc3 hc7 hkk hk hb9 hu hy hb11]; rfl
            · skip
              refine aw_skip ?_
              simp only [go_sem, ↓reduceIte, Nat.reduceEqDiff, reduceCtorEq, Nat.reduceAdd, Nat.reduceLT, Nat.reduceLeDiff, Nat.reduceBNe, Nat.reduceBEq, Int.reduceToNat]
              obtain ⟨z1, z2, z3, z4⟩ := cx_step h3 hc3 hc7 hkk hk hb9 hu hb11 hy
              refine aw_region (EF := EF0) hG (by rw [hN]; exact tr25_13) ?_
              simp only [a25_13, go_sem, ↓reduceIte, Nat.reduceEqDiff, reduceCtorEq, Nat.reduceAdd, Nat.reduceLT, Nat.reduceLeDiff, Nat.reduceBNe, Nat.reduceBEq, Int.reduceToNat, z2]
              refine aw_region (EF := EF0) hG (by rw [hN]; exact tr25_14) ?_
              simp only [a25_14, go_sem, ↓reduceIte, Nat.reduceEqDiff, reduceCtorEq, Nat.reduceAdd, Nat.reduceLT, Nat.reduceLeDiff, Nat.reduceBNe, Nat.reduceBEq, Int.reduceToNat, inI]
              (repeat' apply And.intro) <;> (try first | omega | (intros; (repeat' apply And.intro) <;> first | assumption | omega | (simp_all; done)))
              refine hKL2 (m + 1, s0 l) _ ?_ ?_ ?_
              · (try dsimp only); exact ⟨hc7, all_step hq z1, by rw [if_neg z4], fun _ => z3⟩
              · (try dsimp only); omega
              · refine Le.mk _ _ ?_ ?_ rfl <;> simp only [go_sem, ↓reduceIte, Nat.reduceEqDiff, reduceCtorEq, Nat.reduceAdd, Nat.reduceLT, Nat.reduceLeDiff, Nat.reduceBNe, Nat.reduceBEq, Int.reduceToNat] <;> (repeat' apply And.intro) <;> (try first | rfl | exact wk_frzb rfl rfl rfl | exact wk_fn rfl | exact .nilo _ _ _ rfl rfl)
        · simp only [decide_eq_true_eq, decide_eq_false_iff_not, Bool.and_eq_true, Bool.or_eq_true, Bool.not_eq_true', Bool.not_eq_false', Bool.and_eq_false_iff, Bool.or_eq_false_iff, Int.ofNat_lt, Int.ofNat_le, Nat.not_lt, Nat.not_le, Int.not_lt, Int.not_le] at hc7
          refine aw_exit ?_
          simp only [go_sem, ↓reduceIte, Nat.reduceEqDiff, reduceCtorEq, Nat.reduceAdd, Nat.reduceLT, Nat.reduceLeDiff, Nat.reduceBNe, Nat.reduceBEq, Int.reduceToNat]
          refine aw_region (EF := EF0) hG (by rw [hN]; exact tr25_15) ?_
          simp only [a25_15, go_sem, ↓reduceIte, Nat.reduceEqDiff, reduceCtorEq, Nat.reduceAdd, Nat.reduceLT, Nat.reduceLeDiff, Nat.reduceBNe, Nat.reduceBEq, Int.reduceToNat, inI]
          (repeat' apply And.intro) <;> (try first | omega | (intros; (repeat' apply And.intro) <;> first | assumption | omega | (simp_all; done)))
          refine hKL0 (i + 1, u) _ ?_ ?_ ?_
          · (try dsimp only); refine ⟨hc3, all_step hp fun n hn => hq n (by omega), ?_, fun _ => hy (by omega)⟩; rw [hu, if_neg (by omega), if_neg (by omega)]
          · (try dsimp only); omega
          · refine Le.mk _ _ ?_ ?_ rfl <;> simp only [go_sem, ↓reduceIte, Nat.reduceEqDiff, reduceCtorEq, Nat.reduceAdd, Nat.reduceLT, Nat.reduceLeDiff, Nat.reduceBNe, Nat.reduceBEq, Int.reduceToNat] <;> (repeat' apply And.intro) <;> (try first | rfl | exact wk_frzb rfl rfl rfl | exact wk_fn rfl | exact .nilo _ _ _ rfl rfl)
    · simp only [decide_eq_true_eq, decide_eq_false_iff_not, Bool.and_eq_true, Bool.or_eq_true, Bool.not_eq_true', Bool.not_eq_false', Bool.and_eq_false_iff, Bool.or_eq_false_iff, Int.ofNat_lt, Int.ofNat_le, Nat.not_lt, Nat.not_le, Int.not_lt, Int.not_le] at hc3
      refine aw_exit ?_
      simp only [go_sem, ↓reduceIte, Nat.reduceEqDiff, reduceCtorEq, Nat.reduceAdd, Nat.reduceLT, Nat.reduceLeDiff, Nat.reduceBNe, Nat.reduceBEq, Int.reduceToNat]
      refine aw_seq (aw_region (EF := EF0) hG (by rw [hN]; exact tr25_16) ?_)
      simp only [a25_16, go_sem, ↓reduceIte, Nat.reduceEqDiff, reduceCtorEq, Nat.reduceAdd, Nat.reduceLT, Nat.reduceLeDiff, Nat.reduceBNe, Nat.reduceBEq, Int.reduceToNat]
      refine aw_ret ?_
      show Q _ _
      refine hQ _ _ (.inl rfl) ?_ ?_ ?_ <;> simp only [outφ, outV, AR.res, go_sem, ↓reduceIte, Nat.reduceEqDiff, reduceCtorEq, Nat.reduceAdd, Nat.reduceLT, Nat.reduceLeDiff, Nat.reduceBNe, Nat.reduceBEq, Int.reduceToNat, fCx]
      rw [turn_all fun j hj => hp j (by omega), decide_eq_false (hz (by omega))]; rfl
end Go.Proofs.YtemeeeomcjdlnaaDoor
