/- How often a tax is due: the reference; both are the same. -/
import Derived.Test.YtailckanpheciaaDoorTx4
namespace Go.Proofs.YtailckanpheciaaDoor
open Go Go.RowKit
set_option linter.unusedSimpArgs false
set_option linter.unusedVariables false
set_option linter.deprecated false
def trB (t : Int) (a b : Seg) : Bool := decide (a.to' = b.from') && decide (a.arr ≤ b.dep) && decide (b.dep - a.arr ≤ t)
theorem trB_eq (t a b) : trB t a b = follB t a b := by
  unfold trB follB
  rw [show decide (a.arr ≤ b.dep) = decide (0 ≤ b.dep - a.arr) from decide_eq_decide.2 (by omega)]
def aTr (x : Tax × Seg × Seg) : List V := [.agg x.1.enc, .agg x.2.1.enc, .agg x.2.2.enc]
theorem aTr_inj (a b : Tax × Seg × Seg) (h : aTr a = aTr b) : a = b := by
  obtain ⟨a_x, a_a, a_b⟩ := a
  obtain ⟨b_x, b_a, b_b⟩ := b
  simp only [aTr, List.cons.injEq, V.str.injEq, V.int.injEq, V.bool.injEq, V.agg.injEq, V.list.injEq, and_true, true_and] at h
  obtain ⟨h0, h1, h2⟩ := h
  replace h0 := Tax.inj _ _ h0
  subst h0
  replace h1 := Seg.inj _ _ h1
  subst h1
  replace h2 := Seg.inj _ _ h2
  subst h2
  rfl
def fTr (x : Tax × Seg × Seg) : Prop × V := (SegOk x.2.1 ∧ SegOk x.2.2, .bool (trB x.1.transit x.2.1 x.2.2))
theorem fTr_eq (a b c d e f g a1 a2 a3 a4 a5 a6 a7 b1 b2 b3 b4 b5 b6 b7) : gOf aTr fTr [.agg [.str a, .int .i64 b, .str c, .int .i64 d, .int .i64 e, .int .i64 f, .list (strs g) false], .agg [.str a1, .int .i64 a2, .int .i64 a3, .str a4, .str a5, .int .i64 a6, .int .i64 a7], .agg [.str b1, .int .i64 b2, .int .i64 b3, .str b4, .str b5, .int .i64 b6, .int .i64 b7]] = (SegOk ⟨a1, a2, a3, a4, a5, a6, a7⟩ ∧ SegOk ⟨b1, b2, b3, b4, b5, b6, b7⟩, .bool (trB f ⟨a1, a2, a3, a4, a5, a6, a7⟩ ⟨b1, b2, b3, b4, b5, b6, b7⟩)) := gOf_eq aTr_inj ((⟨a, b, c, d, e, f, g⟩ : Tax), (⟨a1, a2, a3, a4, a5, a6, a7⟩ : Seg), (⟨b1, b2, b3, b4, b5, b6, b7⟩ : Seg))
theorem rtransit_p : PureC Tryd.prog UT 57 (gOf aTr fTr) := by
  have hG := tNo_ok
  refine PureC.ofArgs aTr_inj Tryd.func57 body57 nm57 res57 ?_
  rintro ⟨⟨a, b, c, d, e, f, g⟩, ⟨a1, a2, a3, a4, a5, a6, a7⟩, ⟨b1, b2, b3, b4, b5, b6, b7⟩⟩ hv
  refine ⟨by rw [nt57]; simp [aTr], fun C hN Q hQ => ?_⟩
  rw [nt57] at hN
  unfold c57
  obtain ⟨⟨h1, h2, h3, h4⟩, ⟨h5, h6, h7, h8⟩⟩ : SegOk ⟨a1, a2, a3, a4, a5, a6, a7⟩ ∧ SegOk ⟨b1, b2, b3, b4, b5, b6, b7⟩ := hv
  dsimp only at h1 h2 h3 h4 h5 h6 h7 h8
  refine aw_seq (aw_region (EF := EF0) hG (by rw [hN]; exact tr57_0) ?_)
  simp only [a57_0, go_sem, ↓reduceIte, Nat.reduceEqDiff, reduceCtorEq, Nat.reduceAdd, Nat.reduceLT, Nat.reduceLeDiff, Nat.reduceBNe, Nat.reduceBEq, Int.reduceToNat, aTr, Seg.enc, Tax.enc]
  refine aw_seq (aw_region (EF := EF0) hG (by rw [hN]; exact tr57_1) ?_)
  simp only [a57_1, go_sem, ↓reduceIte, Nat.reduceEqDiff, reduceCtorEq, Nat.reduceAdd, Nat.reduceLT, Nat.reduceLeDiff, Nat.reduceBNe, Nat.reduceBEq, Int.reduceToNat, inI]
  (repeat' apply And.intro) <;> (try first | omega | (intros; (repeat' apply And.intro) <;> first | assumption | omega | (simp_all; done)))
  refine aw_ret ?_
  show Q _ _
  refine hQ _ _ (.inl rfl) ?_ ?_ ?_ <;> simp only [outφ, outV, AR.res, go_sem, ↓reduceIte, Nat.reduceEqDiff, reduceCtorEq, Nat.reduceAdd, Nat.reduceLT, Nat.reduceLeDiff, Nat.reduceBNe, Nat.reduceBEq, Int.reduceToNat, fTr, trB]
def scopeR (sc : Int) (a b : Bool) : Bool := if sc = 0 then a || b else if sc = 1 then a && b else a != b
def aSc (x : Places × Tax × Seg) : List V := [.agg x.1.enc, .agg x.2.1.enc, .agg x.2.2.enc]
theorem aSc_inj (a b : Places × Tax × Seg) (h : aSc a = aSc b) : a = b := by
  obtain ⟨a_p, a_x, a_s⟩ := a
  obtain ⟨b_p, b_x, b_s⟩ := b
  simp only [aSc, List.cons.injEq, V.str.injEq, V.int.injEq, V.bool.injEq, V.agg.injEq, V.list.injEq, and_true, true_and] at h
  obtain ⟨h0, h1, h2⟩ := h
  replace h0 := Places.inj _ _ h0
  subst h0
  replace h1 := Tax.inj _ _ h1
  subst h1
  replace h2 := Seg.inj _ _ h2
  subst h2
  rfl
def fSc (x : Places × Tax × Seg) : Prop × V := (LenP x.1, .bool (scopeR x.2.1.scope (fromB x.1.airports x.2.1.country x.2.2) (toB x.1.airports x.2.1.country x.2.2)))
theorem fSc_eq (ps ds a b c d e f g a1 a2 a3 a4 a5 a6 a7) : gOf aSc fSc [.agg [.list (List.map Airport.enc ps) false, .list (List.map Distance.enc ds) false], .agg [.str a, .int .i64 b, .str c, .int .i64 d, .int .i64 e, .int .i64 f, .list (strs g) false], .agg [.str a1, .int .i64 a2, .int .i64 a3, .str a4, .str a5, .int .i64 a6, .int .i64 a7]] = (LenP ⟨ps, ds⟩, .bool (scopeR e (fromB ps c ⟨a1, a2, a3, a4, a5, a6, a7⟩) (toB ps c ⟨a1, a2, a3, a4, a5, a6, a7⟩))) := gOf_eq aSc_inj ((⟨ps, ds⟩ : Places), (⟨a, b, c, d, e, f, g⟩ : Tax), (⟨a1, a2, a3, a4, a5, a6, a7⟩ : Seg))
noncomputable def trSc : Tab
  | 56 => (gOf aPs fCountry)
  | _ => gNo
theorem trSc_ok : ∀ f, PureC Tryd.prog UT f (trSc f) := fun f => by
  unfold trSc
  split
  · exact rcountry_p
  · exact PureC.no
theorem rscoped_p : PureC Tryd.prog UT 55 (gOf aSc fSc) := by
  have hG := trSc_ok
  refine PureC.ofArgs aSc_inj Tryd.func55 body55 nm55 res55 ?_
  rintro ⟨⟨ps, ds⟩, ⟨a, b, c, d, e, f, g⟩, ⟨a1, a2, a3, a4, a5, a6, a7⟩⟩ hv
  refine ⟨by rw [nt55]; simp [aSc], fun C hN Q hQ => ?_⟩
  rw [nt55] at hN
  unfold c55
  replace hv : LenP ⟨ps, ds⟩ := hv
  refine aw_seq (aw_region (EF := EF0) hG (by rw [hN]; exact tr55_0) ?_)
  simp only [a55_0, go_sem, ↓reduceIte, Nat.reduceEqDiff, reduceCtorEq, Nat.reduceAdd, Nat.reduceLT, Nat.reduceLeDiff, Nat.reduceBNe, Nat.reduceBEq, Int.reduceToNat, aSc, Places.enc, Tax.enc, Seg.enc, trSc, fCountry_eq, hv]
  refine aw_seq (aw_regionD (EF := EF0) hG mixed (by rw [hN]; exact tr55_1) ok55_1 ?_)
  simp only [a55_1, d55_1, go_sem, ↓reduceIte, Nat.reduceEqDiff, reduceCtorEq, Nat.reduceAdd, Nat.reduceLT, Nat.reduceLeDiff, Nat.reduceBNe, Nat.reduceBEq, Int.reduceToNat, trSc, fCountry_eq, hv]
  (repeat' apply And.intro) <;> (try first | omega | (intros; (repeat' apply And.intro) <;> first | assumption | omega | (simp_all; done)))
  refine aw_seq ?_
  refine aw_seq (aw_region (EF := EF0) hG (by rw [hN]; exact tr55_2) ?_)
  simp only [a55_2, go_sem, ↓reduceIte, Nat.reduceEqDiff, reduceCtorEq, Nat.reduceAdd, Nat.reduceLT, Nat.reduceLeDiff, Nat.reduceBNe, Nat.reduceBEq, Int.reduceToNat, trSc, fCountry_eq, hv]
  refine aw_block ?_
  refine aw_seq (aw_region (EF := EF0) hG (by rw [hN]; exact tr55_3) ?_)
  simp only [a55_3, go_sem, ↓reduceIte, Nat.reduceEqDiff, reduceCtorEq, Nat.reduceAdd, Nat.reduceLT, Nat.reduceLeDiff, Nat.reduceBNe, Nat.reduceBEq, Int.reduceToNat, trSc, fCountry_eq, hv]
  refine aw_cond (b := _) rfl (fun hb3 => ?_) (fun hb3 => ?_)
  · skip
    refine aw_seq (aw_region (EF := EF0) hG (by rw [hN]; exact tr55_4) ?_)
    simp only [a55_4, go_sem, ↓reduceIte, Nat.reduceEqDiff, reduceCtorEq, Nat.reduceAdd, Nat.reduceLT, Nat.reduceLeDiff, Nat.reduceBNe, Nat.reduceBEq, Int.reduceToNat, trSc, fCountry_eq, hv]
    (repeat' apply And.intro) <;> (try first | omega | (intros; (repeat' apply And.intro) <;> first | assumption | omega | (simp_all; done)))
    refine aw_ret ?_
    show Q _ _
    refine hQ _ _ (.inl rfl) ?_ ?_ ?_ <;> simp only [outφ, outV, AR.res, go_sem, ↓reduceIte, Nat.reduceEqDiff, reduceCtorEq, Nat.reduceAdd, Nat.reduceLT, Nat.reduceLeDiff, Nat.reduceBNe, Nat.reduceBEq, Int.reduceToNat, fSc, scopeR, fromB, toB]
    rw [if_pos (of_decide_eq_true hb3)]
  · skip
    refine aw_seq (aw_region (EF := EF0) hG (by rw [hN]; exact tr55_5) ?_)
    simp only [a55_5, go_sem, ↓reduceIte, Nat.reduceEqDiff, reduceCtorEq, Nat.reduceAdd, Nat.reduceLT, Nat.reduceLeDiff, Nat.reduceBNe, Nat.reduceBEq, Int.reduceToNat, trSc, fCountry_eq, hv]
    refine aw_cond (b := _) rfl (fun hb5 => ?_) (fun hb5 => ?_)
    · skip
      refine aw_seq (aw_region (EF := EF0) hG (by rw [hN]; exact tr55_6) ?_)
      simp only [a55_6, go_sem, ↓reduceIte, Nat.reduceEqDiff, reduceCtorEq, Nat.reduceAdd, Nat.reduceLT, Nat.reduceLeDiff, Nat.reduceBNe, Nat.reduceBEq, Int.reduceToNat, trSc, fCountry_eq, hv]
      (repeat' apply And.intro) <;> (try first | omega | (intros; (repeat' apply And.intro) <;> first | assumption | omega | (simp_all; done)))
      refine aw_ret ?_
      show Q _ _
      refine hQ _ _ (.inl rfl) ?_ ?_ ?_ <;> simp only [outφ, outV, AR.res, go_sem, ↓reduceIte, Nat.reduceEqDiff, reduceCtorEq, Nat.reduceAdd, Nat.reduceLT, Nat.reduceLeDiff, Nat.reduceBNe, Nat.reduceBEq, Int.reduceToNat, fSc, scopeR, fromB, toB]
      rw [if_neg (of_decide_eq_false hb3), if_pos (of_decide_eq_true hb5)]
    · skip
      refine aw_skip ?_
      try simp only [go_sem, ↓reduceIte, Nat.reduceEqDiff, reduceCtorEq, Nat.reduceAdd, Nat.reduceLT, Nat.reduceLeDiff, Nat.reduceBNe, Nat.reduceBEq, Int.reduceToNat]
      refine aw_seq (aw_region (EF := EF0) hG (by rw [hN]; exact tr55_7) ?_)
      simp only [a55_7, go_sem, ↓reduceIte, Nat.reduceEqDiff, reduceCtorEq, Nat.reduceAdd, Nat.reduceLT, Nat.reduceLeDiff, Nat.reduceBNe, Nat.reduceBEq, Int.reduceToNat, trSc, fCountry_eq, hv]
      (repeat' apply And.intro) <;> (try first | omega | (intros; (repeat' apply And.intro) <;> first | assumption | omega | (simp_all; done)))
      refine aw_ret ?_
      show Q _ _
      refine hQ _ _ (.inl rfl) ?_ ?_ ?_ <;> simp only [outφ, outV, AR.res, go_sem, ↓reduceIte, Nat.reduceEqDiff, reduceCtorEq, Nat.reduceAdd, Nat.reduceLT, Nat.reduceLeDiff, Nat.reduceBNe, Nat.reduceBEq, Int.reduceToNat, fSc, scopeR, fromB, toB]
      rw [if_neg (of_decide_eq_false hb3), if_neg (of_decide_eq_false hb5)]
def k1R (x : Tax) (A : Bool) (l : List Seg) (i : Nat) : Bool := decide (x.kind = 1) && (!A || (decide (0 < i) && trB x.transit (l.getD (i - 1) Seg.zero) (l.getD i Seg.zero)))
def k2R (x : Tax) (B : Bool) (l : List Seg) (i : Nat) : Bool := decide (x.kind = 2) && (!B || (decide (i + 1 < l.length) && trB x.transit (l.getD i Seg.zero) (l.getD (i + 1) Seg.zero)))
def onceR (ps : List Airport) (x : Tax) (l : List Seg) (i : Nat) : Bool :=
  scopeR x.scope (fromB ps x.country (l.getD i Seg.zero)) (toB ps x.country (l.getD i Seg.zero)) && !k1R x (fromB ps x.country (l.getD i Seg.zero)) l i && !k2R x (toB ps x.country (l.getD i Seg.zero)) l i
def bit (b : Bool) : Int := if b = true then 1 else 0
theorem bit_t {b : Bool} (h : b = true) : bit b = 1 := by unfold bit; rw [if_pos h]
theorem bit_f {b : Bool} (h : b = false) : bit b = 0 := by unfold bit; rw [if_neg (by rw [h]; decide)]
def aDue (x : Places × Tax × List Seg × Int) : List V := [.agg x.1.enc, .agg x.2.1.enc, .list (x.2.2.1.map Seg.enc) false, .int .i64 x.2.2.2]
theorem aDue_inj (a b : Places × Tax × List Seg × Int) (h : aDue a = aDue b) : a = b := by
  obtain ⟨a_p, a_x, a_l, a_i⟩ := a
  obtain ⟨b_p, b_x, b_l, b_i⟩ := b
  simp only [aDue, List.cons.injEq, V.str.injEq, V.int.injEq, V.bool.injEq, V.agg.injEq, V.list.injEq, and_true, true_and] at h
  obtain ⟨h0, h1, h2, h3⟩ := h
  replace h0 := Places.inj _ _ h0
  subst h0
  replace h1 := Tax.inj _ _ h1
  subst h1
  replace h2 := map_inj' Seg.inj h2
  subst h2
  subst h3
  rfl
def fDue (x : Places × Tax × List Seg × Int) : Prop × V := (LenP x.1 ∧ x.2.2.1.length ≤ 1000 ∧ (∀ s ∈ x.2.2.1, SegOk s) ∧ 0 ≤ x.2.2.2 ∧ x.2.2.2.toNat < x.2.2.1.length, .int .i64 (bit (onceR x.1.airports x.2.1 x.2.2.1 x.2.2.2.toNat)))
theorem fDue_eq (ps ds a b c d e f g) (l : List Seg) (i : Nat) : gOf aDue fDue [.agg [.list (List.map Airport.enc ps) false, .list (List.map Distance.enc ds) false], .agg [.str a, .int .i64 b, .str c, .int .i64 d, .int .i64 e, .int .i64 f, .list (strs g) false], .list (l.map Seg.enc) false, .int .i64 (i : Int)] = (LenP ⟨ps, ds⟩ ∧ l.length ≤ 1000 ∧ (∀ s ∈ l, SegOk s) ∧ 0 ≤ (i : Int) ∧ i < l.length, .int .i64 (bit (onceR ps ⟨a, b, c, d, e, f, g⟩ l i))) := gOf_eq aDue_inj ((⟨ps, ds⟩ : Places), (⟨a, b, c, d, e, f, g⟩ : Tax), l, (i : Int))
noncomputable def trDue : Tab
  | 56 => (gOf aPs fCountry)
  | 55 => (gOf aSc fSc)
  | 57 => (gOf aTr fTr)
  | _ => gNo
theorem trDue_ok : ∀ f, PureC Tryd.prog UT f (trDue f) := fun f => by
  unfold trDue
  split
  · exact rcountry_p
  · exact rscoped_p
  · exact rtransit_p
  · exact PureC.no
set_option maxRecDepth 20000 in
set_option maxHeartbeats 8000000 in
theorem rdue_p : PureC Tryd.prog UT 36 (gOf aDue fDue) := by
  have hG := trDue_ok
  refine PureC.ofArgs aDue_inj Tryd.func36 body36 nm36 res36 ?_
  rintro ⟨⟨ps, ds⟩, ⟨xa, xk, xc, xm, xs, xt, xf⟩, l, ii⟩ hv
  refine ⟨by rw [nt36]; simp [aDue], fun C hN Q hQ => ?_⟩
  rw [nt36] at hN
  unfold c36
  obtain ⟨hlp, hll, hso, hi0, hin⟩ : LenP ⟨ps, ds⟩ ∧ l.length ≤ 1000 ∧ (∀ s ∈ l, SegOk s) ∧ 0 ≤ ii ∧ ii.toNat < l.length := hv
  obtain ⟨i, rfl⟩ : ∃ i : Nat, ii = (i : Int) := ⟨ii.toNat, by omega⟩
  rw [Int.toNat_natCast] at hin
  have hsi := hso _ (List.getElem_mem hin)
  have hgd : l.getD i Seg.zero = l[i] := getD_lt _ _ _ hin
  generalize hss : l[i] = s at hsi hgd
  obtain ⟨s1, s2, s3, s4, s5, s6, s7⟩ := s
  have hon : onceR ps ⟨xa, xk, xc, xm, xs, xt, xf⟩ l i = (scopeR xs (fromB ps xc ⟨s1, s2, s3, s4, s5, s6, s7⟩) (toB ps xc ⟨s1, s2, s3, s4, s5, s6, s7⟩) && !k1R ⟨xa, xk, xc, xm, xs, xt, xf⟩ (fromB ps xc ⟨s1, s2, s3, s4, s5, s6, s7⟩) l i && !k2R ⟨xa, xk, xc, xm, xs, xt, xf⟩ (toB ps xc ⟨s1, s2, s3, s4, s5, s6, s7⟩) l i) := by unfold onceR; rw [hgd]
  refine aw_seq (aw_region (EF := EF0) hG (by rw [hN]; exact tr36_0) ?_)
  simp only [a36_0, go_sem, ↓reduceIte, Nat.reduceEqDiff, reduceCtorEq, Nat.reduceAdd, Nat.reduceLT, Nat.reduceLeDiff, Nat.reduceBNe, Nat.reduceBEq, Int.reduceToNat, aDue, Places.enc, Tax.enc, trDue, fCountry_eq, hlp]
  refine aw_seq ?_
  refine aw_seq (aw_regionD (EF := EF0) hG mixed (by rw [hN]; exact tr36_1) ok36_1 ?_)
  simp only [a36_1, d36_1, go_sem, ↓reduceIte, Nat.reduceEqDiff, reduceCtorEq, Nat.reduceAdd, Nat.reduceLT, Nat.reduceLeDiff, Nat.reduceBNe, Nat.reduceBEq, Int.reduceToNat, getD_mapd _ _ _ _ hin, hin, hss, Seg.enc, fSc_eq, trDue, fCountry_eq, hlp]
  (repeat' apply And.intro) <;> (try first | omega | (intros; (repeat' apply And.intro) <;> first | assumption | omega | (simp_all; done)))
  refine aw_cond (b := _) rfl (fun hb1 => ?_) (fun hb1 => ?_)
  · skip
    refine aw_seq (aw_region (EF := EF0) hG (by rw [hN]; exact tr36_2) ?_)
    simp only [a36_2, go_sem, ↓reduceIte, Nat.reduceEqDiff, reduceCtorEq, Nat.reduceAdd, Nat.reduceLT, Nat.reduceLeDiff, Nat.reduceBNe, Nat.reduceBEq, Int.reduceToNat, trDue, fCountry_eq, hlp]
    refine aw_ret ?_
    show Q _ _
    refine hQ _ _ (.inl rfl) ?_ ?_ ?_ <;> simp only [outφ, outV, AR.res, go_sem, ↓reduceIte, Nat.reduceEqDiff, reduceCtorEq, Nat.reduceAdd, Nat.reduceLT, Nat.reduceLeDiff, Nat.reduceBNe, Nat.reduceBEq, Int.reduceToNat, fDue, Int.toNat_natCast]
    rw [bit_f (by rw [hon]; revert hb1; cases scopeR xs (fromB ps xc ⟨s1, s2, s3, s4, s5, s6, s7⟩) (toB ps xc ⟨s1, s2, s3, s4, s5, s6, s7⟩) <;> simp)]
  · skip
    have hs1 : scopeR xs (fromB ps xc ⟨s1, s2, s3, s4, s5, s6, s7⟩) (toB ps xc ⟨s1, s2, s3, s4, s5, s6, s7⟩) = true := by simpa using hb1
    refine aw_skip ?_
    try simp only [go_sem, ↓reduceIte, Nat.reduceEqDiff, reduceCtorEq, Nat.reduceAdd, Nat.reduceLT, Nat.reduceLeDiff, Nat.reduceBNe, Nat.reduceBEq, Int.reduceToNat]
    refine aw_cut (α := Unit) (fun _ => (k1R ⟨xa, xk, xc, xm, xs, xt, xf⟩ (fromB ps xc ⟨s1, s2, s3, s4, s5, s6, s7⟩) l i = false)) (fun _ => ⟨mkE [(2, V.list (List.map Seg.enc l) false), (3, V.int IntKind.i64 ↑i), (4, V.ptr 4 0), (5, V.ptr 5 0)], mkH [(4, Ob.box 31 [V.list (List.map Airport.enc ps) false, V.list (List.map Distance.enc ds) false]), (5, Ob.box 34 [V.str xa, V.int IntKind.i64 xk, V.str xc, V.int IntKind.i64 xm, V.int IntKind.i64 xs, V.int IntKind.i64 xt, V.list (strs xf) false])]⟩) ?_ ?_
    · intro KC3 hKC3
      by_cases hz : 0 < i
      · skip
        have hzi : ((0 : Int) < (i : Int)) = True := eq_true (by omega)
        have hj1 : i - 1 < l.length := by omega
        have e1 : (i : Int) - 1 = ((i - 1 : Nat) : Int) := by omega
        have hsp := hso _ (List.getElem_mem hj1)
        have hgp : l.getD (i - 1) Seg.zero = l[i - 1] := getD_lt _ _ _ hj1
        generalize hpp : l[i - 1] = p at hsp hgp
        obtain ⟨p1, p2, p3, p4, p5, p6, p7⟩ := p
        have hk1 : k1R ⟨xa, xk, xc, xm, xs, xt, xf⟩ (fromB ps xc ⟨s1, s2, s3, s4, s5, s6, s7⟩) l i = (decide (xk = 1) && (!decide (countryOf ps s4 = xc) || trB xt ⟨p1, p2, p3, p4, p5, p6, p7⟩ ⟨s1, s2, s3, s4, s5, s6, s7⟩)) := by unfold k1R; rw [hgd, hgp, decide_eq_true hz, Bool.true_and]; rfl
        refine aw_seq (aw_regionD (EF := EF0) hG mixed (by rw [hN]; exact tr36_3) ok36_3 ?_)
        simp only [a36_3, d36_3, go_sem, ↓reduceIte, Nat.reduceEqDiff, reduceCtorEq, Nat.reduceAdd, Nat.reduceLT, Nat.reduceLeDiff, Nat.reduceBNe, Nat.reduceBEq, Int.reduceToNat, inI, getD_mapd _ _ _ _ hin, hin, hss, Seg.enc, fTr_eq, hsi, trDue, fCountry_eq, hlp, hzi, e1, getD_mapd _ _ _ _ hj1, hj1, hpp, hsp]
        (repeat' apply And.intro) <;> (try first | omega | (intros; (repeat' apply And.intro) <;> first | assumption | omega | (simp_all; done)) | (split <;> rfl))
        refine aw_cond (b := _) rfl (fun hb3 => ?_) (fun hb3 => ?_)
        · skip
          refine aw_seq (aw_region (EF := EF0) hG (by rw [hN]; exact tr36_4) ?_)
          simp only [a36_4, go_sem, ↓reduceIte, Nat.reduceEqDiff, reduceCtorEq, Nat.reduceAdd, Nat.reduceLT, Nat.reduceLeDiff, Nat.reduceBNe, Nat.reduceBEq, Int.reduceToNat, trDue, fCountry_eq, hlp]
          refine aw_ret ?_
          show Q _ _
          refine hQ _ _ (.inl rfl) ?_ ?_ ?_ <;> simp only [outφ, outV, AR.res, go_sem, ↓reduceIte, Nat.reduceEqDiff, reduceCtorEq, Nat.reduceAdd, Nat.reduceLT, Nat.reduceLeDiff, Nat.reduceBNe, Nat.reduceBEq, Int.reduceToNat, fDue, Int.toNat_natCast]
          rw [bit_f (by rw [hon, hk1, hb3]; simp)]
        · skip
          refine aw_skip ?_
          try simp only [go_sem, ↓reduceIte, Nat.reduceEqDiff, reduceCtorEq, Nat.reduceAdd, Nat.reduceLT, Nat.reduceLeDiff, Nat.reduceBNe, Nat.reduceBEq, Int.reduceToNat]
          refine hKC3 (()) _ ?_ ?_
          · (try dsimp only); rw [hk1]; exact hb3
          · refine Le.mk _ _ ?_ ?_ rfl <;> simp only [go_sem, ↓reduceIte, Nat.reduceEqDiff, reduceCtorEq, Nat.reduceAdd, Nat.reduceLT, Nat.reduceLeDiff, Nat.reduceBNe, Nat.reduceBEq, Int.reduceToNat] <;> (repeat' apply And.intro) <;> (try first | rfl | exact wk_frzb rfl rfl rfl | exact wk_fn rfl | exact .nilo _ _ _ rfl rfl)
      · skip
        have hzi : ((0 : Int) < (i : Int)) = False := eq_false (by omega)
        have hk1 : k1R ⟨xa, xk, xc, xm, xs, xt, xf⟩ (fromB ps xc ⟨s1, s2, s3, s4, s5, s6, s7⟩) l i = (decide (xk = 1) && !decide (countryOf ps s4 = xc)) := by unfold k1R; rw [decide_eq_false hz, Bool.false_and, Bool.or_false]; rfl
        refine aw_seq (aw_regionD (EF := EF0) hG mixed (by rw [hN]; exact tr36_3) ok36_3 ?_)
        simp only [a36_3, d36_3, go_sem, ↓reduceIte, Nat.reduceEqDiff, reduceCtorEq, Nat.reduceAdd, Nat.reduceLT, Nat.reduceLeDiff, Nat.reduceBNe, Nat.reduceBEq, Int.reduceToNat, inI, getD_mapd _ _ _ _ hin, hin, hss, Seg.enc, fTr_eq, hsi, trDue, fCountry_eq, hlp, hzi]
        (repeat' apply And.intro) <;> (try first | omega | (intros; (repeat' apply And.intro) <;> first | assumption | omega | (simp_all; done)) | (split <;> rfl))
        refine aw_cond (b := _) rfl (fun hb3 => ?_) (fun hb3 => ?_)
        · skip
          refine aw_seq (aw_region (EF := EF0) hG (by rw [hN]; exact tr36_4) ?_)
          simp only [a36_4, go_sem, ↓reduceIte, Nat.reduceEqDiff, reduceCtorEq, Nat.reduceAdd, Nat.reduceLT, Nat.reduceLeDiff, Nat.reduceBNe, Nat.reduceBEq, Int.reduceToNat, trDue, fCountry_eq, hlp]
          refine aw_ret ?_
          show Q _ _
          refine hQ _ _ (.inl rfl) ?_ ?_ ?_ <;> simp only [outφ, outV, AR.res, go_sem, ↓reduceIte, Nat.reduceEqDiff, reduceCtorEq, Nat.reduceAdd, Nat.reduceLT, Nat.reduceLeDiff, Nat.reduceBNe, Nat.reduceBEq, Int.reduceToNat, fDue, Int.toNat_natCast]
          rw [bit_f (by rw [hon, hk1, hb3]; simp)]
        · skip
          refine aw_skip ?_
          try simp only [go_sem, ↓reduceIte, Nat.reduceEqDiff, reduceCtorEq, Nat.reduceAdd, Nat.reduceLT, Nat.reduceLeDiff, Nat.reduceBNe, Nat.reduceBEq, Int.reduceToNat]
          refine hKC3 (()) _ ?_ ?_
          · (try dsimp only); rw [hk1]; exact hb3
          · refine Le.mk _ _ ?_ ?_ rfl <;> simp only [go_sem, ↓reduceIte, Nat.reduceEqDiff, reduceCtorEq, Nat.reduceAdd, Nat.reduceLT, Nat.reduceLeDiff, Nat.reduceBNe, Nat.reduceBEq, Int.reduceToNat] <;> (repeat' apply And.intro) <;> (try first | rfl | exact wk_frzb rfl rfl rfl | exact wk_fn rfl | exact .nilo _ _ _ rfl rfl)
    · rintro _ hk3
      refine aw_seq ?_
      by_cases hz2 : i + 1 < l.length
      · skip
        have hzi2 : ((i : Int) + 1 < (l.length : Int)) = True := eq_true (by omega)
        have e2 : ((i : Int) + 1).toNat = i + 1 := by omega
        have hsn := hso _ (List.getElem_mem hz2)
        have hgn : l.getD (i + 1) Seg.zero = l[i + 1] := getD_lt _ _ _ hz2
        generalize hnn : l[i + 1] = q at hsn hgn
        obtain ⟨q1, q2, q3, q4, q5, q6, q7⟩ := q
        have hk2 : k2R ⟨xa, xk, xc, xm, xs, xt, xf⟩ (toB ps xc ⟨s1, s2, s3, s4, s5, s6, s7⟩) l i = (decide (xk = 2) && (!decide (countryOf ps s5 = xc) || trB xt ⟨s1, s2, s3, s4, s5, s6, s7⟩ ⟨q1, q2, q3, q4, q5, q6, q7⟩)) := by unfold k2R; rw [hgd, hgn, decide_eq_true hz2, Bool.true_and]; rfl
        refine aw_seq (aw_regionD (EF := EF0) hG mixed (by rw [hN]; exact tr36_5) ok36_5 ?_)
        simp only [a36_5, d36_5, go_sem, ↓reduceIte, Nat.reduceEqDiff, reduceCtorEq, Nat.reduceAdd, Nat.reduceLT, Nat.reduceLeDiff, Nat.reduceBNe, Nat.reduceBEq, Int.reduceToNat, inI, getD_mapd _ _ _ _ hin, hin, hss, Seg.enc, fTr_eq, hsi, trDue, fCountry_eq, hlp, hzi2, e2, getD_mapd _ _ _ _ hz2, hz2, hnn, hsn]
        (repeat' apply And.intro) <;> (try first | omega | (split <;> rfl) | (intro h; exact ⟨h, fun h2 => by rw [h, h2]; rfl⟩) | (intros; omega) | (intros; (repeat' apply And.intro) <;> omega))
        refine aw_cond (b := _) rfl (fun hb5 => ?_) (fun hb5 => ?_)
        · skip
          refine aw_seq (aw_region (EF := EF0) hG (by rw [hN]; exact tr36_6) ?_)
          simp only [a36_6, go_sem, ↓reduceIte, Nat.reduceEqDiff, reduceCtorEq, Nat.reduceAdd, Nat.reduceLT, Nat.reduceLeDiff, Nat.reduceBNe, Nat.reduceBEq, Int.reduceToNat, trDue, fCountry_eq, hlp]
          refine aw_ret ?_
          show Q _ _
          refine hQ _ _ (.inl rfl) ?_ ?_ ?_ <;> simp only [outφ, outV, AR.res, go_sem, ↓reduceIte, Nat.reduceEqDiff, reduceCtorEq, Nat.reduceAdd, Nat.reduceLT, Nat.reduceLeDiff, Nat.reduceBNe, Nat.reduceBEq, Int.reduceToNat, fDue, Int.toNat_natCast]
          rw [bit_f (by rw [hon, hk2, hb5]; simp)]
        · skip
          refine aw_skip ?_
          try simp only [go_sem, ↓reduceIte, Nat.reduceEqDiff, reduceCtorEq, Nat.reduceAdd, Nat.reduceLT, Nat.reduceLeDiff, Nat.reduceBNe, Nat.reduceBEq, Int.reduceToNat]
          refine aw_seq (aw_region (EF := EF0) hG (by rw [hN]; exact tr36_7) ?_)
          simp only [a36_7, go_sem, ↓reduceIte, Nat.reduceEqDiff, reduceCtorEq, Nat.reduceAdd, Nat.reduceLT, Nat.reduceLeDiff, Nat.reduceBNe, Nat.reduceBEq, Int.reduceToNat, trDue, fCountry_eq, hlp]
          refine aw_ret ?_
          show Q _ _
          refine hQ _ _ (.inl rfl) ?_ ?_ ?_ <;> simp only [outφ, outV, AR.res, go_sem, ↓reduceIte, Nat.reduceEqDiff, reduceCtorEq, Nat.reduceAdd, Nat.reduceLT, Nat.reduceLeDiff, Nat.reduceBNe, Nat.reduceBEq, Int.reduceToNat, fDue, Int.toNat_natCast]
          rw [bit_t (by rw [hon, hs1, hk3, hk2, hb5]; rfl)]
      · skip
        have hzi2 : ((i : Int) + 1 < (l.length : Int)) = False := eq_false (by omega)
        have hk2 : k2R ⟨xa, xk, xc, xm, xs, xt, xf⟩ (toB ps xc ⟨s1, s2, s3, s4, s5, s6, s7⟩) l i = (decide (xk = 2) && !decide (countryOf ps s5 = xc)) := by unfold k2R; rw [decide_eq_false hz2, Bool.false_and, Bool.or_false]; rfl
        refine aw_seq (aw_regionD (EF := EF0) hG mixed (by rw [hN]; exact tr36_5) ok36_5 ?_)
        simp only [a36_5, d36_5, go_sem, ↓reduceIte, Nat.reduceEqDiff, reduceCtorEq, Nat.reduceAdd, Nat.reduceLT, Nat.reduceLeDiff, Nat.reduceBNe, Nat.reduceBEq, Int.reduceToNat, inI, getD_mapd _ _ _ _ hin, hin, hss, Seg.enc, fTr_eq, hsi, trDue, fCountry_eq, hlp, hzi2]
        (repeat' apply And.intro) <;> (try first | omega | (split <;> rfl) | (intro h; exact ⟨h, fun h2 => by rw [h, h2]; rfl⟩) | (intros; omega) | (intros; (repeat' apply And.intro) <;> omega))
        refine aw_cond (b := _) rfl (fun hb5 => ?_) (fun hb5 => ?_)
        · skip
          refine aw_seq (aw_region (EF := EF0) hG (by rw [hN]; exact tr36_6) ?_)
          simp only [a36_6, go_sem, ↓reduceIte, Nat.reduceEqDiff, reduceCtorEq, Nat.reduceAdd, Nat.reduceLT, Nat.reduceLeDiff, Nat.reduceBNe, Nat.reduceBEq, Int.reduceToNat, trDue, fCountry_eq, hlp]
          refine aw_ret ?_
          show Q _ _
          refine hQ _ _ (.inl rfl) ?_ ?_ ?_ <;> simp only [outφ, outV, AR.res, go_sem, ↓reduceIte, Nat.reduceEqDiff, reduceCtorEq, Nat.reduceAdd, Nat.reduceLT, Nat.reduceLeDiff, Nat.reduceBNe, Nat.reduceBEq, Int.reduceToNat, fDue, Int.toNat_natCast]
          rw [bit_f (by rw [hon, hk2, hb5]; simp)]
        · skip
          refine aw_skip ?_
          try simp only [go_sem, ↓reduceIte, Nat.reduceEqDiff, reduceCtorEq, Nat.reduceAdd, Nat.reduceLT, Nat.reduceLeDiff, Nat.reduceBNe, Nat.reduceBEq, Int.reduceToNat]
          refine aw_seq (aw_region (EF := EF0) hG (by rw [hN]; exact tr36_7) ?_)
          simp only [a36_7, go_sem, ↓reduceIte, Nat.reduceEqDiff, reduceCtorEq, Nat.reduceAdd, Nat.reduceLT, Nat.reduceLeDiff, Nat.reduceBNe, Nat.reduceBEq, Int.reduceToNat, trDue, fCountry_eq, hlp]
          refine aw_ret ?_
          show Q _ _
          refine hQ _ _ (.inl rfl) ?_ ?_ ?_ <;> simp only [outφ, outV, AR.res, go_sem, ↓reduceIte, Nat.reduceEqDiff, reduceCtorEq, Nat.reduceAdd, Nat.reduceLT, Nat.reduceLeDiff, Nat.reduceBNe, Nat.reduceBEq, Int.reduceToNat, fDue, Int.toNat_natCast]
          rw [bit_t (by rw [hon, hs1, hk3, hk2, hb5]; rfl)]
def cntR (ps : List Airport) (x : Tax) (l : List Seg) : Nat → Int
  | 0 => 0
  | i + 1 => cntR ps x l i + bit (onceR ps x l i)
theorem bit_bd (b : Bool) : 0 ≤ bit b ∧ bit b ≤ 1 := by unfold bit; split <;> decide
theorem cntR_bd (ps x l) : ∀ i : Nat, 0 ≤ cntR ps x l i ∧ cntR ps x l i ≤ i
  | 0 => ⟨Int.le_refl _, Int.le_refl _⟩
  | i + 1 => by have := cntR_bd ps x l i; have := bit_bd (onceR ps x l i); rw [cntR]; omega
def timesR (ps : List Airport) (x : Tax) (l : List Seg) (p : List UInt8) : Int := if x.free.any (isS p) then 0 else if x.kind < 1 ∨ 4 < x.kind then 0 else if x.kind = 4 then min (cntR ps x l l.length) 1 else cntR ps x l l.length
def fTimesR (x : Places × Tax × List Seg × List UInt8) : Prop × V := (TimesOk x.1 x.2.1 x.2.2.1, .int .i64 (timesR x.1.airports x.2.1 x.2.2.1 x.2.2.2))
theorem isS_comm (a b : List UInt8) : isS a b = decide (b = a) := by unfold isS; exact decide_eq_decide.2 eq_comm
noncomputable def trTi : Tab
  | 36 => (gOf aDue fDue)
  | _ => gNo
theorem trTi_ok : ∀ f, PureC Tryd.prog UT f (trTi f) := fun f => by
  unfold trTi
  split
  · exact rdue_p
  · exact PureC.no
set_option maxHeartbeats 4000000 in
theorem rtimes_p : PureC Tryd.prog UT 15 (gOf aTimes fTimesR) := by
  have hG := trTi_ok
  refine PureC.ofArgs aTimes_inj Tryd.func15 body15 nm15 res15 ?_
  rintro ⟨⟨ps, ds⟩, ⟨xa, xk, xc, xm, xs, xt, xf⟩, l, q⟩ hv
  refine ⟨by rw [nt15]; simp [aTimes], fun C hN Q hQ => ?_⟩
  rw [nt15] at hN
  unfold c15
  obtain ⟨hlp, hfl, hll, hso⟩ : TimesOk ⟨ps, ds⟩ ⟨xa, xk, xc, xm, xs, xt, xf⟩ l := hv
  dsimp only at hfl
  refine aw_seq (aw_region (EF := EF0) hG (by rw [hN]; exact tr15_0) ?_)
  simp only [a15_0, go_sem, ↓reduceIte, Nat.reduceEqDiff, reduceCtorEq, Nat.reduceAdd, Nat.reduceLT, Nat.reduceLeDiff, Nat.reduceBNe, Nat.reduceBEq, Int.reduceToNat, aTimes, Places.enc, Tax.enc, trTi]
  refine aw_seq ?_
  refine aw_seq (aw_region (EF := EF0) hG (by rw [hN]; exact tr15_1) ?_)
  simp only [a15_1, go_sem, ↓reduceIte, Nat.reduceEqDiff, reduceCtorEq, Nat.reduceAdd, Nat.reduceLT, Nat.reduceLeDiff, Nat.reduceBNe, Nat.reduceBEq, Int.reduceToNat, trTi]
  refine aw_block ?_
  refine aw_loop (α := Nat) (fun i => (i ≤ xf.length) ∧ (∀ s ∈ xf.take i, isS q s = false)) (fun i => ⟨mkE [(2, V.list (List.map Seg.enc l) false), (3, V.str q), (4, V.ptr 4 0), (5, V.ptr 5 0), (9, .int .i64 i)], mkH [(4, Ob.box 31 [V.list (List.map Airport.enc ps) false, V.list (List.map Distance.enc ds) false]), (5, Ob.box 34 [V.str xa, V.int IntKind.i64 xk, V.str xc, V.int IntKind.i64 xm, V.int IntKind.i64 xs, V.int IntKind.i64 xt, V.list (strs xf) false])]⟩) (fun i => xf.length - i) 0 (by simp) ?_ ?_
  · refine Le.mk _ _ ?_ ?_ rfl <;> simp only [go_sem, ↓reduceIte, Nat.reduceEqDiff, reduceCtorEq, Nat.reduceAdd, Nat.reduceLT, Nat.reduceLeDiff, Nat.reduceBNe, Nat.reduceBEq, Int.reduceToNat] <;> (repeat' apply And.intro) <;> (try first | rfl | exact wk_frzb rfl rfl rfl | exact wk_fn rfl | exact .nilo _ _ _ rfl rfl)
  · rintro i ⟨hi, hp⟩ KL0 hKL0
    try dsimp only at *
    refine aw_seq ?_
    refine aw_seq (aw_region (EF := EF0) hG (by rw [hN]; exact tr15_2) ?_)
    simp only [a15_2, go_sem, ↓reduceIte, Nat.reduceEqDiff, reduceCtorEq, Nat.reduceAdd, Nat.reduceLT, Nat.reduceLeDiff, Nat.reduceBNe, Nat.reduceBEq, Int.reduceToNat, trTi]
    refine aw_cond (b := _) rfl (fun hc2 => ?_) (fun hc2 => ?_)
    · simp only [decide_eq_true_eq, decide_eq_false_iff_not, Bool.and_eq_true, Bool.or_eq_true, Bool.not_eq_true', Bool.not_eq_false', Bool.and_eq_false_iff, Bool.or_eq_false_iff, Int.ofNat_lt, Int.ofNat_le, Nat.not_lt, Nat.not_le, Int.not_lt, Int.not_le] at hc2
      refine aw_skip ?_
      try simp only [go_sem, ↓reduceIte, Nat.reduceEqDiff, reduceCtorEq, Nat.reduceAdd, Nat.reduceLT, Nat.reduceLeDiff, Nat.reduceBNe, Nat.reduceBEq, Int.reduceToNat]
      refine aw_seq ?_
      refine aw_block ?_
      refine aw_seq (aw_region (EF := EF0) hG (by rw [hN]; exact tr15_4) ?_)
      simp only [a15_4, go_sem, ↓reduceIte, Nat.reduceEqDiff, reduceCtorEq, Nat.reduceAdd, Nat.reduceLT, Nat.reduceLeDiff, Nat.reduceBNe, Nat.reduceBEq, Int.reduceToNat, strs_getD _ _ _ hc2, hc2, trTi]
      (repeat' apply And.intro) <;> (try first | omega | (intros; (repeat' apply And.intro) <;> first | assumption | omega | (simp_all; done)))
      refine aw_cond (b := _) rfl (fun hb4 => ?_) (fun hb4 => ?_)
      · skip
        refine aw_seq (aw_region (EF := EF0) hG (by rw [hN]; exact tr15_5) ?_)
        simp only [a15_5, go_sem, ↓reduceIte, Nat.reduceEqDiff, reduceCtorEq, Nat.reduceAdd, Nat.reduceLT, Nat.reduceLeDiff, Nat.reduceBNe, Nat.reduceBEq, Int.reduceToNat, trTi]
        refine aw_ret ?_
        show Q _ _
        refine hQ _ _ (.inl rfl) ?_ ?_ ?_ <;> simp only [outφ, outV, AR.res, go_sem, ↓reduceIte, Nat.reduceEqDiff, reduceCtorEq, Nat.reduceAdd, Nat.reduceLT, Nat.reduceLeDiff, Nat.reduceBNe, Nat.reduceBEq, Int.reduceToNat, fTimesR, timesR]
        rw [if_pos (any_at (p := isS q) hc2 (by rw [isS_comm]; exact hb4))]
      · skip
        refine aw_skip ?_
        try simp only [go_sem, ↓reduceIte, Nat.reduceEqDiff, reduceCtorEq, Nat.reduceAdd, Nat.reduceLT, Nat.reduceLeDiff, Nat.reduceBNe, Nat.reduceBEq, Int.reduceToNat]
        refine aw_region (EF := EF0) hG (by rw [hN]; exact tr15_3) ?_
        simp only [a15_3, go_sem, ↓reduceIte, Nat.reduceEqDiff, reduceCtorEq, Nat.reduceAdd, Nat.reduceLT, Nat.reduceLeDiff, Nat.reduceBNe, Nat.reduceBEq, Int.reduceToNat, inI, trTi]
        (repeat' apply And.intro) <;> (try first | omega | (intros; (repeat' apply And.intro) <;> first | assumption | omega | (simp_all; done)))
        refine hKL0 (i + 1) _ ?_ ?_ ?_
        · (try dsimp only); exact ⟨hc2, take_all hc2 hp (by rw [isS_comm]; exact hb4)⟩
        · (try dsimp only); omega
        · refine Le.mk _ _ ?_ ?_ rfl <;> simp only [go_sem, ↓reduceIte, Nat.reduceEqDiff, reduceCtorEq, Nat.reduceAdd, Nat.reduceLT, Nat.reduceLeDiff, Nat.reduceBNe, Nat.reduceBEq, Int.reduceToNat] <;> (repeat' apply And.intro) <;> (try first | rfl | exact wk_frzb rfl rfl rfl | exact wk_fn rfl | exact .nilo _ _ _ rfl rfl)
    · simp only [decide_eq_true_eq, decide_eq_false_iff_not, Bool.and_eq_true, Bool.or_eq_true, Bool.not_eq_true', Bool.not_eq_false', Bool.and_eq_false_iff, Bool.or_eq_false_iff, Int.ofNat_lt, Int.ofNat_le, Nat.not_lt, Nat.not_le, Int.not_lt, Int.not_le] at hc2
      refine aw_exit ?_
      simp only [go_sem, ↓reduceIte, Nat.reduceEqDiff, reduceCtorEq, Nat.reduceAdd, Nat.reduceLT, Nat.reduceLeDiff, Nat.reduceBNe, Nat.reduceBEq, Int.reduceToNat]
      refine aw_seq ?_
      have hno : xf.any (isS q) = false := any_no (p := isS q) hc2 hp
      refine aw_seq (aw_region (EF := EF0) hG (by rw [hN]; exact tr15_6) ?_)
      simp only [a15_6, go_sem, ↓reduceIte, Nat.reduceEqDiff, reduceCtorEq, Nat.reduceAdd, Nat.reduceLT, Nat.reduceLeDiff, Nat.reduceBNe, Nat.reduceBEq, Int.reduceToNat, trTi]
      (repeat' apply And.intro) <;> (try first | omega | (intros; (repeat' apply And.intro) <;> first | assumption | omega | (simp_all; done)))
      refine aw_cond (b := _) rfl (fun hb6 => ?_) (fun hb6 => ?_)
      · skip
        refine aw_seq (aw_region (EF := EF0) hG (by rw [hN]; exact tr15_7) ?_)
        simp only [a15_7, go_sem, ↓reduceIte, Nat.reduceEqDiff, reduceCtorEq, Nat.reduceAdd, Nat.reduceLT, Nat.reduceLeDiff, Nat.reduceBNe, Nat.reduceBEq, Int.reduceToNat, trTi]
        refine aw_ret ?_
        show Q _ _
        refine hQ _ _ (.inl rfl) ?_ ?_ ?_ <;> simp only [outφ, outV, AR.res, go_sem, ↓reduceIte, Nat.reduceEqDiff, reduceCtorEq, Nat.reduceAdd, Nat.reduceLT, Nat.reduceLeDiff, Nat.reduceBNe, Nat.reduceBEq, Int.reduceToNat, fTimesR, timesR]
        rw [if_neg (by rw [hno]; decide), if_pos (by simpa using hb6)]
      · skip
        refine aw_skip ?_
        try simp only [go_sem, ↓reduceIte, Nat.reduceEqDiff, reduceCtorEq, Nat.reduceAdd, Nat.reduceLT, Nat.reduceLeDiff, Nat.reduceBNe, Nat.reduceBEq, Int.reduceToNat]
        have hk : ¬ (xk < 1 ∨ 4 < xk) := by simpa using hb6
        refine aw_seq (aw_region (EF := EF0) hG (by rw [hN]; exact tr15_8) ?_)
        simp only [a15_8, go_sem, ↓reduceIte, Nat.reduceEqDiff, reduceCtorEq, Nat.reduceAdd, Nat.reduceLT, Nat.reduceLeDiff, Nat.reduceBNe, Nat.reduceBEq, Int.reduceToNat, trTi]
        refine aw_seq ?_
        refine aw_seq (aw_region (EF := EF0) hG (by rw [hN]; exact tr15_9) ?_)
        simp only [a15_9, go_sem, ↓reduceIte, Nat.reduceEqDiff, reduceCtorEq, Nat.reduceAdd, Nat.reduceLT, Nat.reduceLeDiff, Nat.reduceBNe, Nat.reduceBEq, Int.reduceToNat, trTi]
        refine aw_block ?_
        refine aw_loop (α := Nat × Int) (fun γ => (γ.1 ≤ l.length) ∧ (γ.2 = cntR ps ⟨xa, xk, xc, xm, xs, xt, xf⟩ l γ.1)) (fun γ => ⟨mkE [(2, V.list (List.map Seg.enc l) false), (4, V.ptr 4 0), (5, V.ptr 5 0), (10, .int .i64 γ.2), (11, .int .i64 γ.1)], mkH [(4, Ob.box 31 [V.list (List.map Airport.enc ps) false, V.list (List.map Distance.enc ds) false]), (5, Ob.box 34 [V.str xa, V.int IntKind.i64 xk, V.str xc, V.int IntKind.i64 xm, V.int IntKind.i64 xs, V.int IntKind.i64 xt, V.list (strs xf) false])]⟩) (fun γ => l.length - γ.1) (0, 0) ⟨Nat.zero_le _, rfl⟩ ?_ ?_
        · refine Le.mk _ _ ?_ ?_ rfl <;> simp only [go_sem, ↓reduceIte, Nat.reduceEqDiff, reduceCtorEq, Nat.reduceAdd, Nat.reduceLT, Nat.reduceLeDiff, Nat.reduceBNe, Nat.reduceBEq, Int.reduceToNat] <;> (repeat' apply And.intro) <;> (try first | rfl | exact wk_frzb rfl rfl rfl | exact wk_fn rfl | exact .nilo _ _ _ rfl rfl)
        · rintro ⟨j, n⟩ ⟨hj, hn⟩ KL2 hKL2
          try dsimp only at *
          refine aw_seq ?_
          refine aw_seq (aw_region (EF := EF0) hG (by rw [hN]; exact tr15_10) ?_)
          simp only [a15_10, go_sem, ↓reduceIte, Nat.reduceEqDiff, reduceCtorEq, Nat.reduceAdd, Nat.reduceLT, Nat.reduceLeDiff, Nat.reduceBNe, Nat.reduceBEq, Int.reduceToNat, trTi]
          refine aw_cond (b := _) rfl (fun hc10 => ?_) (fun hc10 => ?_)
          · simp only [decide_eq_true_eq, decide_eq_false_iff_not, Bool.and_eq_true, Bool.or_eq_true, Bool.not_eq_true', Bool.not_eq_false', Bool.and_eq_false_iff, Bool.or_eq_false_iff, Int.ofNat_lt, Int.ofNat_le, Nat.not_lt, Nat.not_le, Int.not_lt, Int.not_le] at hc10
            refine aw_skip ?_
            try simp only [go_sem, ↓reduceIte, Nat.reduceEqDiff, reduceCtorEq, Nat.reduceAdd, Nat.reduceLT, Nat.reduceLeDiff, Nat.reduceBNe, Nat.reduceBEq, Int.reduceToNat]
            refine aw_seq ?_
            refine aw_block ?_
            have hnb := cntR_bd ps ⟨xa, xk, xc, xm, xs, xt, xf⟩ l j
            have hbb := bit_bd (onceR ps ⟨xa, xk, xc, xm, xs, xt, xf⟩ l j)
            have hj0 : (0 : Int) ≤ (j : Int) := by omega
            refine aw_region (EF := EF0) hG (by rw [hN]; exact tr15_12) ?_
            simp only [a15_12, go_sem, ↓reduceIte, Nat.reduceEqDiff, reduceCtorEq, Nat.reduceAdd, Nat.reduceLT, Nat.reduceLeDiff, Nat.reduceBNe, Nat.reduceBEq, Int.reduceToNat, inI, fDue_eq, hlp, hll, hso, hj0, hc10, trTi]
            (repeat' apply And.intro) <;> (try first | omega | (intros; (repeat' apply And.intro) <;> first | assumption | omega | (simp_all; done)))
            refine aw_region (EF := EF0) hG (by rw [hN]; exact tr15_11) ?_
            simp only [a15_11, go_sem, ↓reduceIte, Nat.reduceEqDiff, reduceCtorEq, Nat.reduceAdd, Nat.reduceLT, Nat.reduceLeDiff, Nat.reduceBNe, Nat.reduceBEq, Int.reduceToNat, inI, trTi]
            (repeat' apply And.intro) <;> (try first | omega | (intros; (repeat' apply And.intro) <;> first | assumption | omega | (simp_all; done)))
            refine hKL2 (j + 1, n + bit (onceR ps ⟨xa, xk, xc, xm, xs, xt, xf⟩ l j)) _ ?_ ?_ ?_
            · (try dsimp only); exact ⟨hc10, by rw [cntR, hn]⟩
            · (try dsimp only); omega
            · refine Le.mk _ _ ?_ ?_ rfl <;> simp only [go_sem, ↓reduceIte, Nat.reduceEqDiff, reduceCtorEq, Nat.reduceAdd, Nat.reduceLT, Nat.reduceLeDiff, Nat.reduceBNe, Nat.reduceBEq, Int.reduceToNat] <;> (repeat' apply And.intro) <;> (try first | rfl | exact wk_frzb rfl rfl rfl | exact wk_fn rfl | exact .nilo _ _ _ rfl rfl)
          · simp only [decide_eq_true_eq, decide_eq_false_iff_not, Bool.and_eq_true, Bool.or_eq_true, Bool.not_eq_true', Bool.not_eq_false', Bool.and_eq_false_iff, Bool.or_eq_false_iff, Int.ofNat_lt, Int.ofNat_le, Nat.not_lt, Nat.not_le, Int.not_lt, Int.not_le] at hc10
            refine aw_exit ?_
            simp only [go_sem, ↓reduceIte, Nat.reduceEqDiff, reduceCtorEq, Nat.reduceAdd, Nat.reduceLT, Nat.reduceLeDiff, Nat.reduceBNe, Nat.reduceBEq, Int.reduceToNat]
            refine aw_seq ?_
            refine aw_seq (aw_region (EF := EF0) hG (by rw [hN]; exact tr15_13) ?_)
            simp only [a15_13, go_sem, ↓reduceIte, Nat.reduceEqDiff, reduceCtorEq, Nat.reduceAdd, Nat.reduceLT, Nat.reduceLeDiff, Nat.reduceBNe, Nat.reduceBEq, Int.reduceToNat, trTi]
            refine aw_cond (b := _) rfl (fun hb13 => ?_) (fun hb13 => ?_)
            · skip
              refine aw_seq (aw_region (EF := EF0) hG (by rw [hN]; exact tr15_14) ?_)
              simp only [a15_14, go_sem, ↓reduceIte, Nat.reduceEqDiff, reduceCtorEq, Nat.reduceAdd, Nat.reduceLT, Nat.reduceLeDiff, Nat.reduceBNe, Nat.reduceBEq, Int.reduceToNat, trTi]
              refine aw_ret ?_
              show Q _ _
              refine hQ _ _ (.inl rfl) ?_ ?_ ?_ <;> simp only [outφ, outV, AR.res, go_sem, ↓reduceIte, Nat.reduceEqDiff, reduceCtorEq, Nat.reduceAdd, Nat.reduceLT, Nat.reduceLeDiff, Nat.reduceBNe, Nat.reduceBEq, Int.reduceToNat, fTimesR, timesR]
              rw [if_neg (by rw [hno]; decide), if_neg hk, if_pos (of_decide_eq_true hb13), hn, Nat.le_antisymm hj hc10]
            · skip
              refine aw_skip ?_
              try simp only [go_sem, ↓reduceIte, Nat.reduceEqDiff, reduceCtorEq, Nat.reduceAdd, Nat.reduceLT, Nat.reduceLeDiff, Nat.reduceBNe, Nat.reduceBEq, Int.reduceToNat]
              refine aw_seq (aw_region (EF := EF0) hG (by rw [hN]; exact tr15_15) ?_)
              simp only [a15_15, go_sem, ↓reduceIte, Nat.reduceEqDiff, reduceCtorEq, Nat.reduceAdd, Nat.reduceLT, Nat.reduceLeDiff, Nat.reduceBNe, Nat.reduceBEq, Int.reduceToNat, trTi]
              refine aw_ret ?_
              show Q _ _
              refine hQ _ _ (.inl rfl) ?_ ?_ ?_ <;> simp only [outφ, outV, AR.res, go_sem, ↓reduceIte, Nat.reduceEqDiff, reduceCtorEq, Nat.reduceAdd, Nat.reduceLT, Nat.reduceLeDiff, Nat.reduceBNe, Nat.reduceBEq, Int.reduceToNat, fTimesR, timesR]
              rw [if_neg (by rw [hno]; decide), if_neg hk, if_neg (of_decide_eq_false hb13), hn, Nat.le_antisymm hj hc10]
/-! Both are the same, for a right tax. -/
def Right1 (x : Tax) : Prop := 1 ≤ x.kind ∧ x.kind ≤ 4 ∧ 0 ≤ x.scope ∧ x.scope ≤ 2
theorem bools (A B F G P Q : Bool) (sc kd : Int) (hk : kd = 1 ∨ kd = 2 ∨ kd = 3) (hs : sc = 0 ∨ sc = 1 ∨ sc = 2) :
    ((if sc = 0 then true else if sc = 1 then A && B else if sc = 2 then A != B else false) && (if kd = 1 then A && (P || !F) else if kd = 2 then B && (Q || !G) else if kd = 3 then A || B else if kd = 4 then (A || B) && P else false)) = ((if sc = 0 then A || B else if sc = 1 then A && B else A != B) && !(decide (kd = 1) && (!A || (!P && F))) && !(decide (kd = 2) && (!B || (!Q && G)))) := by
  rcases hk with rfl | rfl | rfl <;> rcases hs with rfl | rfl | rfl <;> cases A <;> cases B <;> cases P <;> cases F <;> cases Q <;> cases G <;> rfl
theorem bools4 (A B P : Bool) (sc : Int) (hs : sc = 0 ∨ sc = 1 ∨ sc = 2) : ((if sc = 0 then true else if sc = 1 then A && B else if sc = 2 then A != B else false) && ((A || B) && P)) = ((if sc = 0 then A || B else if sc = 1 then A && B else A != B) && P) := by
  rcases hs with rfl | rfl | rfl <;> cases A <;> cases B <;> cases P <;> rfl
theorem once_eq {ps x l i n} (h : Right1 x) (h4 : x.kind ≠ 4) (hi : i < l.length) : onceP ps x l i n = onceR ps x l i := by
  obtain ⟨h1, h2, h3, h5⟩ := h
  have hi1 : decide (0 < i) = !decide (i = 0) := by rw [← decide_not]; exact decide_eq_decide.2 (by omega)
  have hi2 : decide (i + 1 < l.length) = !decide (i + 1 = l.length) := by rw [← decide_not]; exact decide_eq_decide.2 (by omega)
  have hk : x.kind = 1 ∨ x.kind = 2 ∨ x.kind = 3 := by omega
  have hs : x.scope = 0 ∨ x.scope = 1 ∨ x.scope = 2 := by omega
  have := bools (fromB ps x.country (l.getD i Seg.zero)) (toB ps x.country (l.getD i Seg.zero)) (follB x.transit (l.getD (i - 1) Seg.zero) (l.getD i Seg.zero)) (follB x.transit (l.getD i Seg.zero) (l.getD (i + 1) Seg.zero)) (decide (i = 0)) (decide (i + 1 = l.length)) x.scope x.kind hk hs
  unfold onceP onceR dueP k1R k2R scopeP scopeR
  rw [trB_eq, trB_eq, hi1, hi2, if_neg h4, ← this, if_neg h4]
theorem times_ne4 {ps x l} (h : Right1 x) (h4 : x.kind ≠ 4) : ∀ i, i ≤ l.length → timesTo ps x l i = cntR ps x l i
  | 0, _ => rfl
  | i + 1, hi => by
    rw [timesTo, cntR, once_eq h h4 (by omega), times_ne4 h h4 i (by omega)]
    cases hb : onceR ps x l i with
    | true => rw [if_pos rfl, bit_t rfl]
    | false => rw [if_neg (by decide), bit_f rfl, Int.add_zero]
theorem once4 {ps x l i n} (h : Right1 x) (h4 : x.kind = 4) : onceP ps x l i n = (onceR ps x l i && decide (n = 0)) := by
  obtain ⟨h1, h2, h3, h5⟩ := h
  have hs : x.scope = 0 ∨ x.scope = 1 ∨ x.scope = 2 := by omega
  have e : ∀ A B P : Bool, (scopeP x.scope A B && ((A || B) && P)) = (scopeR x.scope A B && P) := fun A B P => bools4 A B P x.scope hs
  have hd : ∀ A B : Bool, dueP x A B l i n = ((A || B) && decide (n = 0)) := fun A B => by unfold dueP; rw [if_neg (by omega), if_neg (by omega), if_neg (by omega), if_pos h4]
  have k1 : ∀ A : Bool, k1R x A l i = false := fun A => by unfold k1R; rw [decide_eq_false (by omega : ¬ x.kind = 1), Bool.false_and]
  have k2 : ∀ A : Bool, k2R x A l i = false := fun A => by unfold k2R; rw [decide_eq_false (by omega : ¬ x.kind = 2), Bool.false_and]
  unfold onceP onceR
  rw [hd, k1, k2, e, Bool.not_false, Bool.and_true, Bool.and_true]
theorem times_4 {ps x l} (h : Right1 x) (h4 : x.kind = 4) : ∀ i, timesTo ps x l i = min (cntR ps x l i) 1
  | 0 => rfl
  | i + 1 => by
    have hb := cntR_bd ps x l i
    rw [timesTo, cntR, once4 h h4, times_4 h h4 i]
    cases hr : onceR ps x l i with
    | true =>
      rw [bit_t rfl, Bool.true_and]
      by_cases hc : cntR ps x l i = 0
      · rw [hc]; decide
      · rw [if_neg (by rw [decide_eq_true_iff]; omega)]; omega
    | false => rw [if_neg (by simp), bit_f rfl, Int.add_zero]
theorem times_eq {ps x l q} (h : Right1 x) : timesP ps x l q = timesR ps x l q := by
  unfold timesP timesR
  split
  · rfl
  · rw [if_neg (by have := h.1; have := h.2.1; omega)]
    by_cases h4 : x.kind = 4
    · rw [if_pos h4, times_4 h h4]
    · rw [if_neg h4, times_ne4 h h4 _ (Nat.le_refl _)]
end Go.Proofs.YtailckanpheciaaDoor
