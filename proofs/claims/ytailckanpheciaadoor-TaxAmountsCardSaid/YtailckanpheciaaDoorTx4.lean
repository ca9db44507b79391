/- How often a tax is due: the program. -/
import Derived.Test.YtailckanpheciaaDoorTx3
namespace Go.Proofs.YtailckanpheciaaDoor
open Go Go.RowKit
set_option linter.unusedSimpArgs false
set_option linter.unusedVariables false
set_option linter.deprecated false
def SegOk (s : Seg) : Prop := -1000000000000 ≤ s.dep ∧ s.dep ≤ 1000000000000 ∧ -1000000000000 ≤ s.arr ∧ s.arr ≤ 1000000000000
def follB (t : Int) (a b : Seg) : Bool := decide (a.to' = b.from') && decide (0 ≤ b.dep - a.arr) && decide (b.dep - a.arr ≤ t)
def aFo (x : Seg × Seg × Int) : List V := [.agg x.1.enc, .agg x.2.1.enc, .int .i64 x.2.2]
theorem aFo_inj (a b : Seg × Seg × Int) (h : aFo a = aFo b) : a = b := by
  obtain ⟨a_a, a_b, a_t⟩ := a
  obtain ⟨b_a, b_b, b_t⟩ := b
  simp only [aFo, List.cons.injEq, V.str.injEq, V.int.injEq, V.bool.injEq, V.agg.injEq, V.list.injEq, and_true, true_and] at h
  obtain ⟨h0, h1, h2⟩ := h
  replace h0 := Seg.inj _ _ h0
  subst h0
  replace h1 := Seg.inj _ _ h1
  subst h1
  subst h2
  rfl
def fFo (x : Seg × Seg × Int) : Prop × V := (SegOk x.1 ∧ SegOk x.2.1, .bool (follB x.2.2 x.1 x.2.1))
theorem fFo_eq (a1 a2 a3 a4 a5 a6 a7 b1 b2 b3 b4 b5 b6 b7 t) : gOf aFo fFo [.agg [.str a1, .int .i64 a2, .int .i64 a3, .str a4, .str a5, .int .i64 a6, .int .i64 a7], .agg [.str b1, .int .i64 b2, .int .i64 b3, .str b4, .str b5, .int .i64 b6, .int .i64 b7], .int .i64 t] = (SegOk ⟨a1, a2, a3, a4, a5, a6, a7⟩ ∧ SegOk ⟨b1, b2, b3, b4, b5, b6, b7⟩, .bool (follB t ⟨a1, a2, a3, a4, a5, a6, a7⟩ ⟨b1, b2, b3, b4, b5, b6, b7⟩)) := gOf_eq aFo_inj ((⟨a1, a2, a3, a4, a5, a6, a7⟩ : Seg), (⟨b1, b2, b3, b4, b5, b6, b7⟩ : Seg), t)
theorem follows_p : PureC Tryd.prog UT 35 (gOf aFo fFo) := by
  have hG := tNo_ok
  refine PureC.ofArgs aFo_inj Tryd.func35 body35 nm35 res35 ?_
  rintro ⟨⟨a1, a2, a3, a4, a5, a6, a7⟩, ⟨b1, b2, b3, b4, b5, b6, b7⟩, t⟩ hv
  refine ⟨by rw [nt35]; simp [aFo], fun C hN Q hQ => ?_⟩
  rw [nt35] at hN
  unfold c35
  obtain ⟨⟨h1, h2, h3, h4⟩, ⟨h5, h6, h7, h8⟩⟩ : SegOk ⟨a1, a2, a3, a4, a5, a6, a7⟩ ∧ SegOk ⟨b1, b2, b3, b4, b5, b6, b7⟩ := hv
  dsimp only at h1 h2 h3 h4 h5 h6 h7 h8
  refine aw_seq (aw_region (EF := EF0) hG (by rw [hN]; exact tr35_0) ?_)
  simp only [a35_0, go_sem, ↓reduceIte, Nat.reduceEqDiff, reduceCtorEq, Nat.reduceAdd, Nat.reduceLT, Nat.reduceLeDiff, Nat.reduceBNe, Nat.reduceBEq, Int.reduceToNat, aFo, Seg.enc]
  refine aw_seq (aw_region (EF := EF0) hG (by rw [hN]; exact tr35_1) ?_)
  simp only [a35_1, go_sem, ↓reduceIte, Nat.reduceEqDiff, reduceCtorEq, Nat.reduceAdd, Nat.reduceLT, Nat.reduceLeDiff, Nat.reduceBNe, Nat.reduceBEq, Int.reduceToNat, inI]
  (repeat' apply And.intro) <;> (try first | omega | (intros; (repeat' apply And.intro) <;> first | assumption | omega | (simp_all; done)))
  refine aw_ret ?_
  show Q _ _
  refine hQ _ _ (.inl rfl) ?_ ?_ ?_ <;> simp only [outφ, outV, AR.res, go_sem, ↓reduceIte, Nat.reduceEqDiff, reduceCtorEq, Nat.reduceAdd, Nat.reduceLT, Nat.reduceLeDiff, Nat.reduceBNe, Nat.reduceBEq, Int.reduceToNat, fFo, follB]
/-! Times. -/
def fromB (ps : List Airport) (c : List UInt8) (s : Seg) : Bool := decide (countryOf ps s.from' = c)
def toB (ps : List Airport) (c : List UInt8) (s : Seg) : Bool := decide (countryOf ps s.to' = c)
def scopeP (sc : Int) (a b : Bool) : Bool := if sc = 0 then true else if sc = 1 then a && b else if sc = 2 then a != b else false
def dueP (x : Tax) (a b : Bool) (l : List Seg) (i : Nat) (n : Int) : Bool :=
  if x.kind = 1 then a && (decide (i = 0) || !follB x.transit (l.getD (i - 1) Seg.zero) (l.getD i Seg.zero))
  else if x.kind = 2 then b && (decide (i + 1 = l.length) || !follB x.transit (l.getD i Seg.zero) (l.getD (i + 1) Seg.zero))
  else if x.kind = 3 then a || b
  else if x.kind = 4 then (a || b) && decide (n = 0) else false
def onceP (ps : List Airport) (x : Tax) (l : List Seg) (i : Nat) (n : Int) : Bool :=
  scopeP x.scope (fromB ps x.country (l.getD i Seg.zero)) (toB ps x.country (l.getD i Seg.zero)) && dueP x (fromB ps x.country (l.getD i Seg.zero)) (toB ps x.country (l.getD i Seg.zero)) l i n
def timesTo (ps : List Airport) (x : Tax) (l : List Seg) : Nat → Int
  | 0 => 0
  | i + 1 => if onceP ps x l i (timesTo ps x l i) = true then timesTo ps x l i + 1 else timesTo ps x l i
def timesP (ps : List Airport) (x : Tax) (l : List Seg) (p : List UInt8) : Int := if x.free.any (isS p) then 0 else timesTo ps x l l.length
theorem timesTo_bd (ps x l) : ∀ i : Nat, 0 ≤ timesTo ps x l i ∧ timesTo ps x l i ≤ i
  | 0 => ⟨Int.le_refl _, Int.le_refl _⟩
  | i + 1 => by have := timesTo_bd ps x l i; rw [timesTo]; split <;> omega
def aTimes (x : Places × Tax × List Seg × List UInt8) : List V := [.agg x.1.enc, .agg x.2.1.enc, .list (x.2.2.1.map Seg.enc) false, .str x.2.2.2]
theorem aTimes_inj (a b : Places × Tax × List Seg × List UInt8) (h : aTimes a = aTimes b) : a = b := by
  obtain ⟨a_p, a_x, a_l, a_q⟩ := a
  obtain ⟨b_p, b_x, b_l, b_q⟩ := b
  simp only [aTimes, List.cons.injEq, V.str.injEq, V.int.injEq, V.bool.injEq, V.agg.injEq, V.list.injEq, and_true, true_and] at h
  obtain ⟨h0, h1, h2, h3⟩ := h
  replace h0 := Places.inj _ _ h0
  subst h0
  replace h1 := Tax.inj _ _ h1
  subst h1
  replace h2 := map_inj' Seg.inj h2
  subst h2
  subst h3
  rfl
def TimesOk (p : Places) (x : Tax) (l : List Seg) : Prop := LenP p ∧ x.free.length ≤ 140737488355328 ∧ l.length ≤ 1000 ∧ ∀ s ∈ l, SegOk s
def fTimes (x : Places × Tax × List Seg × List UInt8) : Prop × V := (TimesOk x.1 x.2.1 x.2.2.1, .int .i64 (timesP x.1.airports x.2.1 x.2.2.1 x.2.2.2))
theorem fCountry_eq (ps : List Airport) (ds : List Distance) (c : List UInt8) : gOf aPs fCountry [.agg [.list (ps.map Airport.enc) false, .list (ds.map Distance.enc) false], .str c] = (LenP ⟨ps, ds⟩, .str (countryOf ps c)) := gOf_eq aPs_inj (⟨ps, ds⟩, c)
noncomputable def tTi : Tab
  | 33 => (gOf aIdx fCont)
  | 34 => (gOf aPs fCountry)
  | 35 => (gOf aFo fFo)
  | _ => gNo
theorem tTi_ok : ∀ f, PureC Tryd.prog UT f (tTi f) := fun f => by
  unfold tTi
  split
  · exact contains_p
  · exact country_p
  · exact follows_p
  · exact PureC.no
theorem timesTo_no {ps x l} {i : Nat} (h : onceP ps x l i (timesTo ps x l i) = false) : timesTo ps x l (i + 1) = timesTo ps x l i := by rw [timesTo, if_neg (by rw [h]; decide)]
theorem timesTo_yes {ps x l} {i : Nat} (h : onceP ps x l i (timesTo ps x l i) = true) : timesTo ps x l (i + 1) = timesTo ps x l i + 1 := by rw [timesTo, if_pos h]
set_option maxHeartbeats 8000000 in
theorem times_p : PureC Tryd.prog UT 14 (gOf aTimes fTimes) := by
  have hG := tTi_ok
  refine PureC.ofArgs aTimes_inj Tryd.func14 body14 nm14 res14 ?_
  rintro ⟨⟨ps, ds⟩, ⟨xa, xk, xc, xm, xs, xt, xf⟩, l, q⟩ hv
  refine ⟨by rw [nt14]; simp [aTimes], fun C hN Q hQ => ?_⟩
  rw [nt14] at hN
  unfold c14
  obtain ⟨hlp, hfl, hll, hso⟩ : TimesOk ⟨ps, ds⟩ ⟨xa, xk, xc, xm, xs, xt, xf⟩ l := hv
  dsimp only at hfl
  refine aw_seq (aw_region (EF := EF0) hG (by rw [hN]; exact tr14_0) ?_)
  simp only [a14_0, go_sem, ↓reduceIte, Nat.reduceEqDiff, reduceCtorEq, Nat.reduceAdd, Nat.reduceLT, Nat.reduceLeDiff, Nat.reduceBNe, Nat.reduceBEq, Int.reduceToNat, aTimes, Places.enc, Tax.enc, tTi]
  refine aw_seq ?_
  refine aw_seq (aw_region (EF := EF0) hG (by rw [hN]; exact tr14_1) ?_)
  simp only [a14_1, go_sem, ↓reduceIte, Nat.reduceEqDiff, reduceCtorEq, Nat.reduceAdd, Nat.reduceLT, Nat.reduceLeDiff, Nat.reduceBNe, Nat.reduceBEq, Int.reduceToNat, fCont_eq, hfl, tTi]
  (repeat' apply And.intro) <;> (try first | omega | (intros; (repeat' apply And.intro) <;> first | assumption | omega | (simp_all; done)))
  refine aw_cond (b := _) rfl (fun hb1 => ?_) (fun hb1 => ?_)
  · skip
    refine aw_seq (aw_region (EF := EF0) hG (by rw [hN]; exact tr14_2) ?_)
    simp only [a14_2, go_sem, ↓reduceIte, Nat.reduceEqDiff, reduceCtorEq, Nat.reduceAdd, Nat.reduceLT, Nat.reduceLeDiff, Nat.reduceBNe, Nat.reduceBEq, Int.reduceToNat, tTi]
    refine aw_ret ?_
    show Q _ _
    refine hQ _ _ (.inl rfl) ?_ ?_ ?_ <;> simp only [outφ, outV, AR.res, go_sem, ↓reduceIte, Nat.reduceEqDiff, reduceCtorEq, Nat.reduceAdd, Nat.reduceLT, Nat.reduceLeDiff, Nat.reduceBNe, Nat.reduceBEq, Int.reduceToNat, fTimes, timesP]
    rw [if_pos hb1]
  · skip
    refine aw_skip ?_
    try simp only [go_sem, ↓reduceIte, Nat.reduceEqDiff, reduceCtorEq, Nat.reduceAdd, Nat.reduceLT, Nat.reduceLeDiff, Nat.reduceBNe, Nat.reduceBEq, Int.reduceToNat]
    refine aw_seq (aw_region (EF := EF0) hG (by rw [hN]; exact tr14_3) ?_)
    simp only [a14_3, go_sem, ↓reduceIte, Nat.reduceEqDiff, reduceCtorEq, Nat.reduceAdd, Nat.reduceLT, Nat.reduceLeDiff, Nat.reduceBNe, Nat.reduceBEq, Int.reduceToNat, tTi]
    refine aw_seq ?_
    refine aw_seq (aw_region (EF := EF0) hG (by rw [hN]; exact tr14_4) ?_)
    simp only [a14_4, go_sem, ↓reduceIte, Nat.reduceEqDiff, reduceCtorEq, Nat.reduceAdd, Nat.reduceLT, Nat.reduceLeDiff, Nat.reduceBNe, Nat.reduceBEq, Int.reduceToNat, tTi]
    refine aw_block ?_
    refine aw_loop (α := Nat × Int) (fun γ => (γ.1 ≤ l.length) ∧ (γ.2 = timesTo ps ⟨xa, xk, xc, xm, xs, xt, xf⟩ l γ.1)) (fun γ => ⟨mkE [(2, V.list (List.map Seg.enc l) false), (4, V.ptr 4 0), (5, V.ptr 5 0), (9, .int .i64 γ.2), (19, V.list (List.map Seg.enc l) false), (20, V.int IntKind.i64 ↑l.length), (21, .int .i64 γ.1)], mkH [(4, Ob.box 31 [V.list (List.map Airport.enc ps) false, V.list (List.map Distance.enc ds) false]), (5, Ob.box 34 [V.str xa, V.int IntKind.i64 xk, V.str xc, V.int IntKind.i64 xm, V.int IntKind.i64 xs, V.int IntKind.i64 xt, V.list (strs xf) false])]⟩) (fun γ => l.length - γ.1) (0, 0) ⟨Nat.zero_le _, rfl⟩ ?_ ?_
    · refine Le.mk _ _ ?_ ?_ rfl <;> simp only [go_sem, ↓reduceIte, Nat.reduceEqDiff, reduceCtorEq, Nat.reduceAdd, Nat.reduceLT, Nat.reduceLeDiff, Nat.reduceBNe, Nat.reduceBEq, Int.reduceToNat] <;> (repeat' apply And.intro) <;> (try first | rfl | exact wk_frzb rfl rfl rfl | exact wk_fn rfl | exact .nilo _ _ _ rfl rfl)
    · rintro ⟨i, n⟩ ⟨hi, hn⟩ KL0 hKL0
      try dsimp only at *
      refine aw_seq (aw_region (EF := EF0) hG (by rw [hN]; exact tr14_5) ?_)
      simp only [a14_5, go_sem, ↓reduceIte, Nat.reduceEqDiff, reduceCtorEq, Nat.reduceAdd, Nat.reduceLT, Nat.reduceLeDiff, Nat.reduceBNe, Nat.reduceBEq, Int.reduceToNat, tTi]
      refine aw_seq ?_
      refine aw_cond (b := _) rfl (fun hc5 => ?_) (fun hc5 => ?_)
      · simp only [decide_eq_true_eq, decide_eq_false_iff_not, Bool.and_eq_true, Bool.or_eq_true, Bool.not_eq_true', Bool.not_eq_false', Bool.and_eq_false_iff, Bool.or_eq_false_iff, Int.ofNat_lt, Int.ofNat_le, Nat.not_lt, Nat.not_le, Int.not_lt, Int.not_le] at hc5
        refine aw_skip ?_
        try simp only [go_sem, ↓reduceIte, Nat.reduceEqDiff, reduceCtorEq, Nat.reduceAdd, Nat.reduceLT, Nat.reduceLeDiff, Nat.reduceBNe, Nat.reduceBEq, Int.reduceToNat]
        refine aw_cut (α := Int) (fun n2 => (n2 = timesTo ps ⟨xa, xk, xc, xm, xs, xt, xf⟩ l (i + 1))) (fun n2 => ⟨mkE [(2, V.list (List.map Seg.enc l) false), (4, V.ptr 4 0), (5, V.ptr 5 0), (9, .int .i64 n2), (19, V.list (List.map Seg.enc l) false), (20, V.int IntKind.i64 ↑l.length), (21, V.int IntKind.i64 ↑i)], mkH [(4, Ob.box 31 [V.list (List.map Airport.enc ps) false, V.list (List.map Distance.enc ds) false]), (5, Ob.box 34 [V.str xa, V.int IntKind.i64 xk, V.str xc, V.int IntKind.i64 xm, V.int IntKind.i64 xs, V.int IntKind.i64 xt, V.list (strs xf) false])]⟩) ?_ ?_
        · intro KCb1 hKCb1
          refine aw_block ?_
          have hsi := hso _ (List.getElem_mem hc5)
          have hgd : l.getD i Seg.zero = l[i] := getD_lt _ _ _ hc5
          have hnb := timesTo_bd ps ⟨xa, xk, xc, xm, xs, xt, xf⟩ l i
          generalize hss : l[i] = s at hsi hgd
          obtain ⟨s1, s2, s3, s4, s5, s6, s7⟩ := s
          refine aw_seq (aw_region (EF := EF0) hG (by rw [hN]; exact tr14_6) ?_)
          simp only [a14_6, go_sem, ↓reduceIte, Nat.reduceEqDiff, reduceCtorEq, Nat.reduceAdd, Nat.reduceLT, Nat.reduceLeDiff, Nat.reduceBNe, Nat.reduceBEq, Int.reduceToNat, getD_mapd _ _ _ _ hc5, hc5, hss, Seg.enc, tTi]
          (repeat' apply And.intro) <;> (try first | omega | (intros; (repeat' apply And.intro) <;> first | assumption | omega | (simp_all; done)))
          refine aw_seq (aw_regionD (EF := EF0) hG mixed (by rw [hN]; exact tr14_7) ok14_7 ?_)
          simp only [a14_7, d14_7, go_sem, ↓reduceIte, Nat.reduceEqDiff, reduceCtorEq, Nat.reduceAdd, Nat.reduceLT, Nat.reduceLeDiff, Nat.reduceBNe, Nat.reduceBEq, Int.reduceToNat, fCountry_eq, hlp, tTi]
          (repeat' apply And.intro) <;> (try first | omega | (intros; (repeat' apply And.intro) <;> first | assumption | omega | (simp_all; done)))
          generalize hA : decide (countryOf ps s4 = xc) = A
          generalize hB : decide (countryOf ps s5 = xc) = B
          have hon : onceP ps ⟨xa, xk, xc, xm, xs, xt, xf⟩ l i n = (scopeP xs A B && dueP ⟨xa, xk, xc, xm, xs, xt, xf⟩ A B l i n) := by unfold onceP fromB toB; rw [hgd, ← hA, ← hB]
          have hno : onceP ps ⟨xa, xk, xc, xm, xs, xt, xf⟩ l i n = false → n = timesTo ps ⟨xa, xk, xc, xm, xs, xt, xf⟩ l (i + 1) := fun h => by rw [timesTo_no (by rw [← hn]; exact h), hn]
          have hyes : onceP ps ⟨xa, xk, xc, xm, xs, xt, xf⟩ l i n = true → n + 1 = timesTo ps ⟨xa, xk, xc, xm, xs, xt, xf⟩ l (i + 1) := fun h => by rw [timesTo_yes (by rw [← hn]; exact h), hn]
          refine aw_cut (α := Unit) (fun _ => (scopeP xs A B = true)) (fun _ => ⟨mkE [(2, V.list (List.map Seg.enc l) false), (4, V.ptr 4 0), (5, V.ptr 5 0), (9, V.int IntKind.i64 n), (10, V.int IntKind.i64 ↑i), (11, V.ptr 11 0), (12, V.bool A), (13, V.bool B), (19, V.list (List.map Seg.enc l) false), (20, V.int IntKind.i64 ↑l.length), (21, V.int IntKind.i64 ↑i)], mkH [(4, Ob.box 31 [V.list (List.map Airport.enc ps) false, V.list (List.map Distance.enc ds) false]), (5, Ob.box 34 [V.str xa, V.int IntKind.i64 xk, V.str xc, V.int IntKind.i64 xm, V.int IntKind.i64 xs, V.int IntKind.i64 xt, V.list (strs xf) false]), (11, Ob.box 46 [V.str s1, V.int IntKind.i64 s2, V.int IntKind.i64 s3, V.str s4, V.str s5, V.int IntKind.i64 s6, V.int IntKind.i64 s7])]⟩) ?_ ?_
          · intro KCb2 hKCb2
            refine aw_seq (aw_region (EF := EF0) hG (by rw [hN]; exact tr14_8) ?_)
            simp only [a14_8, go_sem, ↓reduceIte, Nat.reduceEqDiff, reduceCtorEq, Nat.reduceAdd, Nat.reduceLT, Nat.reduceLeDiff, Nat.reduceBNe, Nat.reduceBEq, Int.reduceToNat, tTi]
            refine aw_block ?_
            refine aw_seq (aw_region (EF := EF0) hG (by rw [hN]; exact tr14_9) ?_)
            simp only [a14_9, go_sem, ↓reduceIte, Nat.reduceEqDiff, reduceCtorEq, Nat.reduceAdd, Nat.reduceLT, Nat.reduceLeDiff, Nat.reduceBNe, Nat.reduceBEq, Int.reduceToNat, tTi]
            refine aw_cond (b := _) rfl (fun hb9 => ?_) (fun hb9 => ?_)
            · skip
              refine aw_skip ?_
              try simp only [go_sem, ↓reduceIte, Nat.reduceEqDiff, reduceCtorEq, Nat.reduceAdd, Nat.reduceLT, Nat.reduceLeDiff, Nat.reduceBNe, Nat.reduceBEq, Int.reduceToNat]
              refine hKCb2 (()) _ ?_ ?_
              · (try dsimp only); unfold scopeP; rw [if_pos (of_decide_eq_true hb9)]
              · refine Le.mk _ _ ?_ ?_ rfl <;> simp only [go_sem, ↓reduceIte, Nat.reduceEqDiff, reduceCtorEq, Nat.reduceAdd, Nat.reduceLT, Nat.reduceLeDiff, Nat.reduceBNe, Nat.reduceBEq, Int.reduceToNat] <;> (repeat' apply And.intro) <;> (try first | rfl | exact wk_frzb rfl rfl rfl | exact wk_fn rfl | exact .nilo _ _ _ rfl rfl)
            · skip
              refine aw_seq (aw_region (EF := EF0) hG (by rw [hN]; exact tr14_10) ?_)
              simp only [a14_10, go_sem, ↓reduceIte, Nat.reduceEqDiff, reduceCtorEq, Nat.reduceAdd, Nat.reduceLT, Nat.reduceLeDiff, Nat.reduceBNe, Nat.reduceBEq, Int.reduceToNat, tTi]
              refine aw_cond (b := _) rfl (fun hb10 => ?_) (fun hb10 => ?_)
              · skip
                refine aw_seq (aw_region (EF := EF0) hG (by rw [hN]; exact tr14_11) ?_)
                simp only [a14_11, go_sem, ↓reduceIte, Nat.reduceEqDiff, reduceCtorEq, Nat.reduceAdd, Nat.reduceLT, Nat.reduceLeDiff, Nat.reduceBNe, Nat.reduceBEq, Int.reduceToNat, tTi]
                (repeat' apply And.intro) <;> (try first | omega | (intros; (repeat' apply And.intro) <;> first | assumption | omega | (simp_all; done)))
                refine aw_cond (b := _) rfl (fun hb11 => ?_) (fun hb11 => ?_)
                · skip
                  refine aw_exit ?_
                  simp only [go_sem, ↓reduceIte, Nat.reduceEqDiff, reduceCtorEq, Nat.reduceAdd, Nat.reduceLT, Nat.reduceLeDiff, Nat.reduceBNe, Nat.reduceBEq, Int.reduceToNat]
                  refine hKCb1 (n) _ ?_ ?_
                  · (try dsimp only); refine hno ?_; rw [hon]; unfold scopeP; rw [if_neg (of_decide_eq_false hb9), if_pos (of_decide_eq_true hb10)]; revert hb11; cases A <;> cases B <;> simp
                  · refine Le.mk _ _ ?_ ?_ rfl <;> simp only [go_sem, ↓reduceIte, Nat.reduceEqDiff, reduceCtorEq, Nat.reduceAdd, Nat.reduceLT, Nat.reduceLeDiff, Nat.reduceBNe, Nat.reduceBEq, Int.reduceToNat] <;> (repeat' apply And.intro) <;> (try first | rfl | exact wk_frzb rfl rfl rfl | exact wk_fn rfl | exact .nilo _ _ _ rfl rfl)
                · skip
                  refine aw_skip ?_
                  try simp only [go_sem, ↓reduceIte, Nat.reduceEqDiff, reduceCtorEq, Nat.reduceAdd, Nat.reduceLT, Nat.reduceLeDiff, Nat.reduceBNe, Nat.reduceBEq, Int.reduceToNat]
                  refine hKCb2 (()) _ ?_ ?_
                  · (try dsimp only); unfold scopeP; rw [if_neg (of_decide_eq_false hb9), if_pos (of_decide_eq_true hb10)]; revert hb11; cases A <;> cases B <;> simp
                  · refine Le.mk _ _ ?_ ?_ rfl <;> simp only [go_sem, ↓reduceIte, Nat.reduceEqDiff, reduceCtorEq, Nat.reduceAdd, Nat.reduceLT, Nat.reduceLeDiff, Nat.reduceBNe, Nat.reduceBEq, Int.reduceToNat] <;> (repeat' apply And.intro) <;> (try first | rfl | exact wk_frzb rfl rfl rfl | exact wk_fn rfl | exact .nilo _ _ _ rfl rfl)
              · skip
                refine aw_seq (aw_region (EF := EF0) hG (by rw [hN]; exact tr14_12) ?_)
                simp only [a14_12, go_sem, ↓reduceIte, Nat.reduceEqDiff, reduceCtorEq, Nat.reduceAdd, Nat.reduceLT, Nat.reduceLeDiff, Nat.reduceBNe, Nat.reduceBEq, Int.reduceToNat, tTi]
                refine aw_cond (b := _) rfl (fun hb12 => ?_) (fun hb12 => ?_)
                · skip
                  refine aw_seq (aw_region (EF := EF0) hG (by rw [hN]; exact tr14_13) ?_)
                  simp only [a14_13, go_sem, ↓reduceIte, Nat.reduceEqDiff, reduceCtorEq, Nat.reduceAdd, Nat.reduceLT, Nat.reduceLeDiff, Nat.reduceBNe, Nat.reduceBEq, Int.reduceToNat, tTi]
                  (repeat' apply And.intro) <;> (try first | omega | (intros; (repeat' apply And.intro) <;> first | assumption | omega | (simp_all; done)))
                  refine aw_cond (b := _) rfl (fun hb13 => ?_) (fun hb13 => ?_)
                  · skip
                    refine aw_exit ?_
                    simp only [go_sem, ↓reduceIte, Nat.reduceEqDiff, reduceCtorEq, Nat.reduceAdd, Nat.reduceLT, Nat.reduceLeDiff, Nat.reduceBNe, Nat.reduceBEq, Int.reduceToNat]
                    refine hKCb1 (n) _ ?_ ?_
                    · (try dsimp only); refine hno ?_; rw [hon]; unfold scopeP; rw [if_neg (of_decide_eq_false hb9), if_neg (of_decide_eq_false hb10), if_pos (of_decide_eq_true hb12)]; revert hb13; cases A <;> cases B <;> simp
                    · refine Le.mk _ _ ?_ ?_ rfl <;> simp only [go_sem, ↓reduceIte, Nat.reduceEqDiff, reduceCtorEq, Nat.reduceAdd, Nat.reduceLT, Nat.reduceLeDiff, Nat.reduceBNe, Nat.reduceBEq, Int.reduceToNat] <;> (repeat' apply And.intro) <;> (try first | rfl | exact wk_frzb rfl rfl rfl | exact wk_fn rfl | exact .nilo _ _ _ rfl rfl)
                  · skip
                    refine aw_skip ?_
                    try simp only [go_sem, ↓reduceIte, Nat.reduceEqDiff, reduceCtorEq, Nat.reduceAdd, Nat.reduceLT, Nat.reduceLeDiff, Nat.reduceBNe, Nat.reduceBEq, Int.reduceToNat]
                    refine hKCb2 (()) _ ?_ ?_
                    · (try dsimp only); unfold scopeP; rw [if_neg (of_decide_eq_false hb9), if_neg (of_decide_eq_false hb10), if_pos (of_decide_eq_true hb12)]; revert hb13; cases A <;> cases B <;> simp
                    · refine Le.mk _ _ ?_ ?_ rfl <;> simp only [go_sem, ↓reduceIte, Nat.reduceEqDiff, reduceCtorEq, Nat.reduceAdd, Nat.reduceLT, Nat.reduceLeDiff, Nat.reduceBNe, Nat.reduceBEq, Int.reduceToNat] <;> (repeat' apply And.intro) <;> (try first | rfl | exact wk_frzb rfl rfl rfl | exact wk_fn rfl | exact .nilo _ _ _ rfl rfl)
                · skip
                  refine aw_exit ?_
                  simp only [go_sem, ↓reduceIte, Nat.reduceEqDiff, reduceCtorEq, Nat.reduceAdd, Nat.reduceLT, Nat.reduceLeDiff, Nat.reduceBNe, Nat.reduceBEq, Int.reduceToNat]
                  refine hKCb1 (n) _ ?_ ?_
                  · (try dsimp only); refine hno ?_; rw [hon]; unfold scopeP; rw [if_neg (of_decide_eq_false hb9), if_neg (of_decide_eq_false hb10), if_neg (of_decide_eq_false hb12), Bool.false_and]
                  · refine Le.mk _ _ ?_ ?_ rfl <;> simp only [go_sem, ↓reduceIte, Nat.reduceEqDiff, reduceCtorEq, Nat.reduceAdd, Nat.reduceLT, Nat.reduceLeDiff, Nat.reduceBNe, Nat.reduceBEq, Int.reduceToNat] <;> (repeat' apply And.intro) <;> (try first | rfl | exact wk_frzb rfl rfl rfl | exact wk_fn rfl | exact .nilo _ _ _ rfl rfl)
          · rintro _ hsc
            refine aw_seq (aw_region (EF := EF0) hG (by rw [hN]; exact tr14_14) ?_)
            simp only [a14_14, go_sem, ↓reduceIte, Nat.reduceEqDiff, reduceCtorEq, Nat.reduceAdd, Nat.reduceLT, Nat.reduceLeDiff, Nat.reduceBNe, Nat.reduceBEq, Int.reduceToNat, tTi]
            refine aw_cut (α := Bool) (fun du => (du = dueP ⟨xa, xk, xc, xm, xs, xt, xf⟩ A B l i n)) (fun du => ⟨mkE [(2, V.list (List.map Seg.enc l) false), (4, V.ptr 4 0), (5, V.ptr 5 0), (9, V.int IntKind.i64 n), (14, .bool du), (19, V.list (List.map Seg.enc l) false), (20, V.int IntKind.i64 ↑l.length), (21, V.int IntKind.i64 ↑i)], mkH [(4, Ob.box 31 [V.list (List.map Airport.enc ps) false, V.list (List.map Distance.enc ds) false]), (5, Ob.box 34 [V.str xa, V.int IntKind.i64 xk, V.str xc, V.int IntKind.i64 xm, V.int IntKind.i64 xs, V.int IntKind.i64 xt, V.list (strs xf) false])]⟩) ?_ ?_
            · intro KCb3 hKCb3
              refine aw_seq (aw_region (EF := EF0) hG (by rw [hN]; exact tr14_15) ?_)
              simp only [a14_15, go_sem, ↓reduceIte, Nat.reduceEqDiff, reduceCtorEq, Nat.reduceAdd, Nat.reduceLT, Nat.reduceLeDiff, Nat.reduceBNe, Nat.reduceBEq, Int.reduceToNat, tTi]
              refine aw_block ?_
              refine aw_seq (aw_region (EF := EF0) hG (by rw [hN]; exact tr14_16) ?_)
              simp only [a14_16, go_sem, ↓reduceIte, Nat.reduceEqDiff, reduceCtorEq, Nat.reduceAdd, Nat.reduceLT, Nat.reduceLeDiff, Nat.reduceBNe, Nat.reduceBEq, Int.reduceToNat, tTi]
              refine aw_cond (b := _) rfl (fun hb16 => ?_) (fun hb16 => ?_)
              · skip
                by_cases hz : 0 < i
                · skip
                  have hzi : ((i : Int) = 0) = False := eq_false (by omega)
                  have hj1 : i - 1 < l.length := by omega
                  have e1 : (i : Int) - 1 = ((i - 1 : Nat) : Int) := by omega
                  have hsp := hso _ (List.getElem_mem hj1)
                  have hgp : l.getD (i - 1) Seg.zero = l[i - 1] := getD_lt _ _ _ hj1
                  generalize hpp : l[i - 1] = p at hsp hgp
                  obtain ⟨p1, p2, p3, p4, p5, p6, p7⟩ := p
                  have hdd : dueP ⟨xa, xk, xc, xm, xs, xt, xf⟩ A B l i n = (A && !follB xt ⟨p1, p2, p3, p4, p5, p6, p7⟩ (⟨s1, s2, s3, s4, s5, s6, s7⟩ : Seg)) := by unfold dueP; rw [if_pos (of_decide_eq_true hb16), hgd, hgp, decide_eq_false (by omega : ¬ i = 0), Bool.false_or]
                  refine aw_regionD (EF := EF0) hG mixed (by rw [hN]; exact tr14_17) ok14_17 ?_
                  simp only [a14_17, d14_17, go_sem, ↓reduceIte, Nat.reduceEqDiff, reduceCtorEq, Nat.reduceAdd, Nat.reduceLT, Nat.reduceLeDiff, Nat.reduceBNe, Nat.reduceBEq, Int.reduceToNat, inI, tTi, hzi, e1, getD_mapd _ _ _ _ hj1, hj1, hpp, Seg.enc, fFo_eq, hsi, hsp]
                  (repeat' apply And.intro) <;> (try first | omega | (intros; (repeat' apply And.intro) <;> first | assumption | omega | (simp_all; done)) | (split <;> rfl))
                  refine hKCb3 ((A && !follB xt ⟨p1, p2, p3, p4, p5, p6, p7⟩ (⟨s1, s2, s3, s4, s5, s6, s7⟩ : Seg))) _ ?_ ?_
                  · (try dsimp only); rw [hdd]
                  · refine Le.mk _ _ ?_ ?_ rfl <;> simp only [go_sem, ↓reduceIte, Nat.reduceEqDiff, reduceCtorEq, Nat.reduceAdd, Nat.reduceLT, Nat.reduceLeDiff, Nat.reduceBNe, Nat.reduceBEq, Int.reduceToNat] <;> (repeat' apply And.intro) <;> (try first | rfl | exact wk_frzb rfl rfl rfl | exact wk_fn rfl | exact .nilo _ _ _ rfl rfl)
                · skip
                  have hdd : dueP ⟨xa, xk, xc, xm, xs, xt, xf⟩ A B l i n = A := by unfold dueP; rw [if_pos (of_decide_eq_true hb16), decide_eq_true (by omega : i = 0), Bool.true_or, Bool.and_true]
                  have hzi : ((i : Int) = 0) = True := eq_true (by omega)
                  refine aw_regionD (EF := EF0) hG mixed (by rw [hN]; exact tr14_17) ok14_17 ?_
                  simp only [a14_17, d14_17, go_sem, ↓reduceIte, Nat.reduceEqDiff, reduceCtorEq, Nat.reduceAdd, Nat.reduceLT, Nat.reduceLeDiff, Nat.reduceBNe, Nat.reduceBEq, Int.reduceToNat, inI, tTi, hzi]
                  (repeat' apply And.intro) <;> (try first | omega | (intros; (repeat' apply And.intro) <;> first | assumption | omega | (simp_all; done)) | (split <;> rfl))
                  refine hKCb3 (A) _ ?_ ?_
                  · (try dsimp only); rw [hdd]
                  · refine Le.mk _ _ ?_ ?_ rfl <;> simp only [go_sem, ↓reduceIte, Nat.reduceEqDiff, reduceCtorEq, Nat.reduceAdd, Nat.reduceLT, Nat.reduceLeDiff, Nat.reduceBNe, Nat.reduceBEq, Int.reduceToNat] <;> (repeat' apply And.intro) <;> (try first | rfl | exact wk_frzb rfl rfl rfl | exact wk_fn rfl | exact .nilo _ _ _ rfl rfl)
              · skip
                refine aw_seq (aw_region (EF := EF0) hG (by rw [hN]; exact tr14_18) ?_)
                simp only [a14_18, go_sem, ↓reduceIte, Nat.reduceEqDiff, reduceCtorEq, Nat.reduceAdd, Nat.reduceLT, Nat.reduceLeDiff, Nat.reduceBNe, Nat.reduceBEq, Int.reduceToNat, tTi]
                refine aw_cond (b := _) rfl (fun hb18 => ?_) (fun hb18 => ?_)
                · skip
                  by_cases hz : i + 1 < l.length
                  · skip
                    have hzi : ((i : Int) + 1 = (l.length : Int)) = False := eq_false (by omega)
                    have e1 : ((i : Int) + 1).toNat = i + 1 := by omega
                    have hsp := hso _ (List.getElem_mem hz)
                    have hgp : l.getD (i + 1) Seg.zero = l[i + 1] := getD_lt _ _ _ hz
                    generalize hpp : l[i + 1] = p at hsp hgp
                    obtain ⟨p1, p2, p3, p4, p5, p6, p7⟩ := p
                    have hdd : dueP ⟨xa, xk, xc, xm, xs, xt, xf⟩ A B l i n = (B && !follB xt (⟨s1, s2, s3, s4, s5, s6, s7⟩ : Seg) ⟨p1, p2, p3, p4, p5, p6, p7⟩) := by unfold dueP; rw [if_neg (of_decide_eq_false hb16), if_pos (of_decide_eq_true hb18), hgd, hgp, decide_eq_false (by omega : ¬ i + 1 = l.length), Bool.false_or]
                    refine aw_regionD (EF := EF0) hG mixed (by rw [hN]; exact tr14_19) ok14_19 ?_
                    simp only [a14_19, d14_19, go_sem, ↓reduceIte, Nat.reduceEqDiff, reduceCtorEq, Nat.reduceAdd, Nat.reduceLT, Nat.reduceLeDiff, Nat.reduceBNe, Nat.reduceBEq, Int.reduceToNat, inI, tTi, hzi, e1, getD_mapd _ _ _ _ hz, hz, hpp, Seg.enc, fFo_eq, hsi, hsp]
                    (repeat' apply And.intro) <;> (try first | omega | (intros; (repeat' apply And.intro) <;> first | assumption | omega | (simp_all; done)) | (split <;> rfl))
                    refine hKCb3 ((B && !follB xt (⟨s1, s2, s3, s4, s5, s6, s7⟩ : Seg) ⟨p1, p2, p3, p4, p5, p6, p7⟩)) _ ?_ ?_
                    · (try dsimp only); rw [hdd]
                    · refine Le.mk _ _ ?_ ?_ rfl <;> simp only [go_sem, ↓reduceIte, Nat.reduceEqDiff, reduceCtorEq, Nat.reduceAdd, Nat.reduceLT, Nat.reduceLeDiff, Nat.reduceBNe, Nat.reduceBEq, Int.reduceToNat] <;> (repeat' apply And.intro) <;> (try first | rfl | exact wk_frzb rfl rfl rfl | exact wk_fn rfl | exact .nilo _ _ _ rfl rfl)
                  · skip
                    have hdd : dueP ⟨xa, xk, xc, xm, xs, xt, xf⟩ A B l i n = B := by unfold dueP; rw [if_neg (of_decide_eq_false hb16), if_pos (of_decide_eq_true hb18), decide_eq_true (by omega : i + 1 = l.length), Bool.true_or, Bool.and_true]
                    have hzi : ((i : Int) + 1 = (l.length : Int)) = True := eq_true (by omega)
                    refine aw_regionD (EF := EF0) hG mixed (by rw [hN]; exact tr14_19) ok14_19 ?_
                    simp only [a14_19, d14_19, go_sem, ↓reduceIte, Nat.reduceEqDiff, reduceCtorEq, Nat.reduceAdd, Nat.reduceLT, Nat.reduceLeDiff, Nat.reduceBNe, Nat.reduceBEq, Int.reduceToNat, inI, tTi, hzi]
                    (repeat' apply And.intro) <;> (try first | omega | (intros; (repeat' apply And.intro) <;> first | assumption | omega | (simp_all; done)) | (split <;> rfl))
                    refine hKCb3 (B) _ ?_ ?_
                    · (try dsimp only); rw [hdd]
                    · refine Le.mk _ _ ?_ ?_ rfl <;> simp only [go_sem, ↓reduceIte, Nat.reduceEqDiff, reduceCtorEq, Nat.reduceAdd, Nat.reduceLT, Nat.reduceLeDiff, Nat.reduceBNe, Nat.reduceBEq, Int.reduceToNat] <;> (repeat' apply And.intro) <;> (try first | rfl | exact wk_frzb rfl rfl rfl | exact wk_fn rfl | exact .nilo _ _ _ rfl rfl)
                · skip
                  refine aw_seq (aw_region (EF := EF0) hG (by rw [hN]; exact tr14_20) ?_)
                  simp only [a14_20, go_sem, ↓reduceIte, Nat.reduceEqDiff, reduceCtorEq, Nat.reduceAdd, Nat.reduceLT, Nat.reduceLeDiff, Nat.reduceBNe, Nat.reduceBEq, Int.reduceToNat, tTi]
                  refine aw_cond (b := _) rfl (fun hb20 => ?_) (fun hb20 => ?_)
                  · skip
                    refine aw_region (EF := EF0) hG (by rw [hN]; exact tr14_21) ?_
                    simp only [a14_21, go_sem, ↓reduceIte, Nat.reduceEqDiff, reduceCtorEq, Nat.reduceAdd, Nat.reduceLT, Nat.reduceLeDiff, Nat.reduceBNe, Nat.reduceBEq, Int.reduceToNat, tTi]
                    (repeat' apply And.intro) <;> (try first | omega | (intros; (repeat' apply And.intro) <;> first | assumption | omega | (simp_all; done)))
                    refine hKCb3 ((A || B)) _ ?_ ?_
                    · (try dsimp only); unfold dueP; rw [if_neg (of_decide_eq_false hb16), if_neg (of_decide_eq_false hb18), if_pos (of_decide_eq_true hb20)]
                    · refine Le.mk _ _ ?_ ?_ rfl <;> simp only [go_sem, ↓reduceIte, Nat.reduceEqDiff, reduceCtorEq, Nat.reduceAdd, Nat.reduceLT, Nat.reduceLeDiff, Nat.reduceBNe, Nat.reduceBEq, Int.reduceToNat] <;> (repeat' apply And.intro) <;> (try first | rfl | exact wk_frzb rfl rfl rfl | exact wk_fn rfl | exact .nilo _ _ _ rfl rfl)
                  · skip
                    refine aw_seq (aw_region (EF := EF0) hG (by rw [hN]; exact tr14_22) ?_)
                    simp only [a14_22, go_sem, ↓reduceIte, Nat.reduceEqDiff, reduceCtorEq, Nat.reduceAdd, Nat.reduceLT, Nat.reduceLeDiff, Nat.reduceBNe, Nat.reduceBEq, Int.reduceToNat, tTi]
                    refine aw_cond (b := _) rfl (fun hb22 => ?_) (fun hb22 => ?_)
                    · skip
                      refine aw_region (EF := EF0) hG (by rw [hN]; exact tr14_23) ?_
                      simp only [a14_23, go_sem, ↓reduceIte, Nat.reduceEqDiff, reduceCtorEq, Nat.reduceAdd, Nat.reduceLT, Nat.reduceLeDiff, Nat.reduceBNe, Nat.reduceBEq, Int.reduceToNat, tTi]
                      (repeat' apply And.intro) <;> (try first | omega | (intros; (repeat' apply And.intro) <;> first | assumption | omega | (simp_all; done)))
                      refine hKCb3 (((A || B) && decide (n = 0))) _ ?_ ?_
                      · (try dsimp only); unfold dueP; rw [if_neg (of_decide_eq_false hb16), if_neg (of_decide_eq_false hb18), if_neg (of_decide_eq_false hb20), if_pos (of_decide_eq_true hb22)]
                      · refine Le.mk _ _ ?_ ?_ rfl <;> simp only [go_sem, ↓reduceIte, Nat.reduceEqDiff, reduceCtorEq, Nat.reduceAdd, Nat.reduceLT, Nat.reduceLeDiff, Nat.reduceBNe, Nat.reduceBEq, Int.reduceToNat] <;> (repeat' apply And.intro) <;> (try first | rfl | exact wk_frzb rfl rfl rfl | exact wk_fn rfl | exact .nilo _ _ _ rfl rfl)
                    · skip
                      refine aw_skip ?_
                      try simp only [go_sem, ↓reduceIte, Nat.reduceEqDiff, reduceCtorEq, Nat.reduceAdd, Nat.reduceLT, Nat.reduceLeDiff, Nat.reduceBNe, Nat.reduceBEq, Int.reduceToNat]
                      refine hKCb3 (false) _ ?_ ?_
                      · (try dsimp only); unfold dueP; rw [if_neg (of_decide_eq_false hb16), if_neg (of_decide_eq_false hb18), if_neg (of_decide_eq_false hb20), if_neg (of_decide_eq_false hb22)]
                      · refine Le.mk _ _ ?_ ?_ rfl <;> simp only [go_sem, ↓reduceIte, Nat.reduceEqDiff, reduceCtorEq, Nat.reduceAdd, Nat.reduceLT, Nat.reduceLeDiff, Nat.reduceBNe, Nat.reduceBEq, Int.reduceToNat] <;> (repeat' apply And.intro) <;> (try first | rfl | exact wk_frzb rfl rfl rfl | exact wk_fn rfl | exact .nilo _ _ _ rfl rfl)
            · rintro du hdu
              refine aw_seq (aw_region (EF := EF0) hG (by rw [hN]; exact tr14_24) ?_)
              simp only [a14_24, go_sem, ↓reduceIte, Nat.reduceEqDiff, reduceCtorEq, Nat.reduceAdd, Nat.reduceLT, Nat.reduceLeDiff, Nat.reduceBNe, Nat.reduceBEq, Int.reduceToNat, tTi]
              refine aw_cond (b := _) rfl (fun hb24 => ?_) (fun hb24 => ?_)
              · skip
                refine aw_region (EF := EF0) hG (by rw [hN]; exact tr14_25) ?_
                simp only [a14_25, go_sem, ↓reduceIte, Nat.reduceEqDiff, reduceCtorEq, Nat.reduceAdd, Nat.reduceLT, Nat.reduceLeDiff, Nat.reduceBNe, Nat.reduceBEq, Int.reduceToNat, inI, tTi]
                (repeat' apply And.intro) <;> (try first | omega | (intros; (repeat' apply And.intro) <;> first | assumption | omega | (simp_all; done)))
                refine hKCb1 (n + 1) _ ?_ ?_
                · (try dsimp only); refine hyes ?_; rw [hon, hsc, Bool.true_and, ← hdu]; exact hb24
                · refine Le.mk _ _ ?_ ?_ rfl <;> simp only [go_sem, ↓reduceIte, Nat.reduceEqDiff, reduceCtorEq, Nat.reduceAdd, Nat.reduceLT, Nat.reduceLeDiff, Nat.reduceBNe, Nat.reduceBEq, Int.reduceToNat] <;> (repeat' apply And.intro) <;> (try first | rfl | exact wk_frzb rfl rfl rfl | exact wk_fn rfl | exact .nilo _ _ _ rfl rfl)
              · skip
                refine aw_skip ?_
                try simp only [go_sem, ↓reduceIte, Nat.reduceEqDiff, reduceCtorEq, Nat.reduceAdd, Nat.reduceLT, Nat.reduceLeDiff, Nat.reduceBNe, Nat.reduceBEq, Int.reduceToNat]
                refine hKCb1 (n) _ ?_ ?_
                · (try dsimp only); refine hno ?_; rw [hon, hsc, Bool.true_and, ← hdu]; exact hb24
                · refine Le.mk _ _ ?_ ?_ rfl <;> simp only [go_sem, ↓reduceIte, Nat.reduceEqDiff, reduceCtorEq, Nat.reduceAdd, Nat.reduceLT, Nat.reduceLeDiff, Nat.reduceBNe, Nat.reduceBEq, Int.reduceToNat] <;> (repeat' apply And.intro) <;> (try first | rfl | exact wk_frzb rfl rfl rfl | exact wk_fn rfl | exact .nilo _ _ _ rfl rfl)
        · rintro n2 hn2
          refine aw_region (EF := EF0) hG (by rw [hN]; exact tr14_26) ?_
          simp only [a14_26, go_sem, ↓reduceIte, Nat.reduceEqDiff, reduceCtorEq, Nat.reduceAdd, Nat.reduceLT, Nat.reduceLeDiff, Nat.reduceBNe, Nat.reduceBEq, Int.reduceToNat, inI, tTi]
          (repeat' apply And.intro) <;> (try first | omega | (intros; (repeat' apply And.intro) <;> first | assumption | omega | (simp_all; done)))
          refine hKL0 (i + 1, n2) _ ?_ ?_ ?_
          · (try dsimp only); exact ⟨hc5, hn2⟩
          · (try dsimp only); omega
          · refine Le.mk _ _ ?_ ?_ rfl <;> simp only [go_sem, ↓reduceIte, Nat.reduceEqDiff, reduceCtorEq, Nat.reduceAdd, Nat.reduceLT, Nat.reduceLeDiff, Nat.reduceBNe, Nat.reduceBEq, Int.reduceToNat] <;> (repeat' apply And.intro) <;> (try first | rfl | exact wk_frzb rfl rfl rfl | exact wk_fn rfl | exact .nilo _ _ _ rfl rfl)
      · simp only [decide_eq_true_eq, decide_eq_false_iff_not, Bool.and_eq_true, Bool.or_eq_true, Bool.not_eq_true', Bool.not_eq_false', Bool.and_eq_false_iff, Bool.or_eq_false_iff, Int.ofNat_lt, Int.ofNat_le, Nat.not_lt, Nat.not_le, Int.not_lt, Int.not_le] at hc5
        refine aw_exit ?_
        simp only [go_sem, ↓reduceIte, Nat.reduceEqDiff, reduceCtorEq, Nat.reduceAdd, Nat.reduceLT, Nat.reduceLeDiff, Nat.reduceBNe, Nat.reduceBEq, Int.reduceToNat]
        refine aw_seq (aw_region (EF := EF0) hG (by rw [hN]; exact tr14_27) ?_)
        simp only [a14_27, go_sem, ↓reduceIte, Nat.reduceEqDiff, reduceCtorEq, Nat.reduceAdd, Nat.reduceLT, Nat.reduceLeDiff, Nat.reduceBNe, Nat.reduceBEq, Int.reduceToNat, tTi]
        refine aw_ret ?_
        show Q _ _
        refine hQ _ _ (.inl rfl) ?_ ?_ ?_ <;> simp only [outφ, outV, AR.res, go_sem, ↓reduceIte, Nat.reduceEqDiff, reduceCtorEq, Nat.reduceAdd, Nat.reduceLT, Nat.reduceLeDiff, Nat.reduceBNe, Nat.reduceBEq, Int.reduceToNat, fTimes, timesP]
        rw [if_neg (by rw [hb1]; decide), hn, Nat.le_antisymm hi hc5]
end Go.Proofs.YtailckanpheciaaDoor
