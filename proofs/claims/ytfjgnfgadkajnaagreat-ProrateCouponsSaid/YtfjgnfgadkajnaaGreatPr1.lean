/- Data of the chapter; parts divide segments; weights of segments; shares of segments. -/
import Derived.Test.YtfjgnfgadkajnaaGreatPl12
import Derived.Test.YtfjgnfgadkajnaaGreatMo16
import Derived.Test.YtfjgnfgadkajnaaGreatPr0
namespace Go.Proofs.YtfjgnfgadkajnaaGreat
open Go Go.RowKit
set_option linter.unusedSimpArgs false
set_option linter.unusedVariables false
set_option linter.deprecated false
def aDiv (x : List Part × Int) : List V := [.list (x.1.map Part.enc) false, .int .i64 x.2]
theorem aDiv_inj (a b : List Part × Int) (h : aDiv a = aDiv b) : a = b := by
  obtain ⟨a_l, a_n⟩ := a
  obtain ⟨b_l, b_n⟩ := b
  simp only [aDiv, List.cons.injEq, V.str.injEq, V.int.injEq, V.bool.injEq, V.agg.injEq, V.list.injEq, and_true, true_and] at h
  obtain ⟨h0, h1⟩ := h
  replace h0 := map_inj' Part.inj h0
  subst h0
  subst h1
  rfl
def divGo (n at' : Int) : List Part → Bool
  | [] => decide (at' = n)
  | x :: l => if x.from' ≠ at' ∨ x.to' ≤ at' ∨ n < x.to' then false else divGo n x.to' l
def fDiv (x : List Part × Int) : Prop × V := (x.1.length ≤ 140737488355328, .bool (divGo x.2 0 x.1))
theorem fDiv_eq (l : List Part) (n : Int) : gOf aDiv fDiv [.list (l.map Part.enc) false, .int .i64 n] = (l.length ≤ 140737488355328, .bool (divGo n 0 l)) := gOf_eq aDiv_inj (l, n)
theorem divides_p : PureC Tryz.prog UT 13 (gOf aDiv fDiv) := by
  have hG := tNo_ok
  refine PureC.ofArgs aDiv_inj Tryz.func13 body13 nm13 res13 ?_
  rintro ⟨l, n⟩ hv
  refine ⟨by rw [nt13]; simp [aDiv], fun C hN Q hQ => ?_⟩
  rw [nt13] at hN
  unfold c13
  replace hv : l.length ≤ 140737488355328 := hv
  refine aw_seq (aw_region (EF := EF0) hG (by rw [hN]; exact tr13_0) ?_)
  simp only [a13_0, go_sem, simprocAttr, aDiv]
  refine aw_seq (aw_region (EF := EF0) hG (by rw [hN]; exact tr13_1) ?_)
  simp only [a13_1, go_sem, simprocAttr]
  refine aw_seq ?_
  refine aw_seq (aw_region (EF := EF0) hG (by rw [hN]; exact tr13_2) ?_)
  simp only [a13_2, go_sem, simprocAttr]
  refine aw_block ?_
  refine aw_loop (α := Nat × Int) (fun γ => (γ.1 ≤ l.length) ∧ (divGo n 0 l = divGo n γ.2 (l.drop γ.1))) (fun γ => ⟨mkE [(1, V.int IntKind.i64 n), (5, .int .i64 γ.2), (8, V.list (List.map Part.enc l) false), (9, V.int IntKind.i64 ↑l.length), (10, .int .i64 γ.1)], mkH []⟩) (fun γ => l.length - γ.1) (0, 0) ⟨Nat.zero_le _, rfl⟩ ?_ ?_
  · refine Le.mk _ _ ?_ ?_ rfl <;> simp only [go_sem, simprocAttr] <;> (repeat' apply And.intro) <;> (try first | rfl | exact wk_frzb rfl rfl rfl | exact wk_fn rfl | exact .nilo _ _ _ rfl rfl)
  · rintro ⟨i, a⟩ ⟨hi, hs⟩ KL0 hKL0
    try dsimp only at *
    refine aw_seq (aw_region (EF := EF0) hG (by rw [hN]; exact tr13_3) ?_)
    simp only [a13_3, go_sem, simprocAttr]
    refine aw_seq ?_
    refine aw_cond (b := _) rfl (fun hc3 => ?_) (fun hc3 => ?_)
    · simp only [hcL] at hc3
      refine aw_skip ?_
      try simp only [go_sem, simprocAttr]
      refine aw_seq ?_
      refine aw_block ?_
      have hd := List.drop_eq_getElem_cons hc3
      rw [hd, divGo] at hs
      refine aw_seq (aw_region (EF := EF0) hG (by rw [hN]; exact tr13_4) ?_)
      simp only [a13_4, go_sem, simprocAttr, getD_mapd _ _ _ _ hc3, hc3, Part.enc]
      (repeat' apply And.intro) <;> (try first | omega | ((fail_if_success refine idW ?_); (fail_if_success refine idS ?_); intros; (repeat' apply And.intro) <;> first | assumption | omega | (simp_all; done)))
      refine aw_seq ?_
      refine aw_seq (aw_region (EF := EF0) hG (by rw [hN]; exact tr13_5) ?_)
      simp only [a13_5, go_sem, simprocAttr]
      (repeat' apply And.intro) <;> (try first | omega | ((fail_if_success refine idW ?_); (fail_if_success refine idS ?_); intros; (repeat' apply And.intro) <;> first | assumption | omega | (simp_all; done)))
      refine aw_cond (b := _) rfl (fun hb5 => ?_) (fun hb5 => ?_)
      · skip
        rw [if_pos (by simp only [Bool.or_eq_true, Bool.not_eq_true', decide_eq_true_eq, decide_eq_false_iff_not] at hb5; omega)] at hs
        refine aw_seq (aw_region (EF := EF0) hG (by rw [hN]; exact tr13_6) ?_)
        simp only [a13_6, go_sem, simprocAttr]
        refine aw_ret ?_
        show Q _ _
        refine hQ _ _ (.inl rfl) ?_ ?_ ?_ <;> simp only [outφ, outV, AR.res, go_sem, simprocAttr, fDiv, hs]
      · skip
        rw [if_neg (by simp only [Bool.or_eq_false_iff, Bool.not_eq_false', decide_eq_true_eq, decide_eq_false_iff_not] at hb5; omega)] at hs
        refine aw_skip ?_
        try simp only [go_sem, simprocAttr]
        refine aw_region (EF := EF0) hG (by rw [hN]; exact tr13_7) ?_
        simp only [a13_7, go_sem, simprocAttr]
        refine aw_region (EF := EF0) hG (by rw [hN]; exact tr13_8) ?_
        simp only [a13_8, go_sem, simprocAttr, inI]
        (repeat' apply And.intro) <;> (try first | omega | ((fail_if_success refine idW ?_); (fail_if_success refine idS ?_); intros; (repeat' apply And.intro) <;> first | assumption | omega | (simp_all; done)))
        refine hKL0 (i + 1, l[i].to') _ ?_ ?_ ?_
        · (try dsimp only); exact ⟨hc3, hs⟩
        · (try dsimp only); omega
        · refine Le.mk _ _ ?_ ?_ rfl <;> simp only [go_sem, simprocAttr] <;> (repeat' apply And.intro) <;> (try first | rfl | exact wk_frzb rfl rfl rfl | exact wk_fn rfl | exact .nilo _ _ _ rfl rfl)
    · simp only [hcL] at hc3
      rw [List.drop_eq_nil_of_le hc3, divGo] at hs
      refine aw_exit ?_
      simp only [go_sem, simprocAttr]
      refine aw_seq (aw_region (EF := EF0) hG (by rw [hN]; exact tr13_9) ?_)
      simp only [a13_9, go_sem, simprocAttr]
      refine aw_ret ?_
      show Q _ _
      refine hQ _ _ (.inl rfl) ?_ ?_ ?_ <;> simp only [outφ, outV, AR.res, go_sem, simprocAttr, fDiv, hs]
/-- The weight of a segment. -/
def wgt (p : Places) (w : Want) : Int :=
  let m := milesOf p.airports p.distances w.seg.from' w.seg.to'
  if m.2 ≠ 0 ∨ m.1 = 0 then 1 else m.1
def aWe (x : Places × List Want) : List V := [.agg x.1.enc, .list (x.2.map Want.enc) false]
theorem aWe_inj (a b : Places × List Want) (h : aWe a = aWe b) : a = b := by
  obtain ⟨a_p, a_l⟩ := a
  obtain ⟨b_p, b_l⟩ := b
  simp only [aWe, List.cons.injEq, V.str.injEq, V.int.injEq, V.bool.injEq, V.agg.injEq, V.list.injEq, and_true, true_and] at h
  obtain ⟨h0, h1⟩ := h
  replace h0 := Places.inj _ _ h0
  subst h0
  replace h1 := map_inj' Want.inj h1
  subst h1
  rfl
def fWe (x : Places × List Want) : Prop × V := (MOk x.1 ∧ x.2.length ≤ 1000000, .list (ints (x.2.map (wgt x.1))) false)
theorem fWe_eq (ps : List Airport) (ds : List Distance) (l : List Want) : gOf aWe fWe [.agg [.list (ps.map Airport.enc) false, .list (ds.map Distance.enc) false], .list (l.map Want.enc) false] = (MOk ⟨ps, ds⟩ ∧ l.length ≤ 1000000, .list (ints (l.map (wgt ⟨ps, ds⟩))) false) := gOf_eq aWe_inj (⟨ps, ds⟩, l)
theorem fMil_eq (ps : List Airport) (ds : List Distance) (a b : List UInt8) : gOf aMi fMiles [.agg [.list (ps.map Airport.enc) false, .list (ds.map Distance.enc) false], .str a, .str b] = (MOk ⟨ps, ds⟩, .tup [.int .i64 (milesOf ps ds a b).1, .int .i64 (milesOf ps ds a b).2]) := gOf_eq aMi_inj (⟨ps, ds⟩, a, b)
noncomputable def tWe : Tab
  | 17 => (gOf aMi fMiles)
  | _ => gNo
theorem tWe_ok : ∀ f, PureC Tryz.prog UT f (tWe f) := fun f => by
  unfold tWe
  split
  · exact miles_p
  · exact PureC.no
theorem weights_p : PureC Tryz.prog UT 9 (gOf aWe fWe) := by
  have hG := tWe_ok
  refine PureC.ofArgs aWe_inj Tryz.func9 body9 nm9 res9 ?_
  rintro ⟨⟨ps, ds⟩, l⟩ hv
  refine ⟨by rw [nt9]; simp [aWe], fun C hN Q hQ => ?_⟩
  rw [nt9] at hN
  unfold c9
  obtain ⟨hm, hl⟩ : MOk ⟨ps, ds⟩ ∧ l.length ≤ 1000000 := hv
  refine aw_seq (aw_region (EF := EF0) hG (by rw [hN]; exact tr9_0) ?_)
  simp only [a9_0, go_sem, simprocAttr, aWe, Places.enc, tWe, fMil_eq]
  refine aw_seq (aw_region (EF := EF0) hG (by rw [hN]; exact tr9_1) ?_)
  simp only [a9_1, go_sem, simprocAttr, List.length_map, tWe, fMil_eq]
  (repeat' apply And.intro) <;> (try first | omega | ((fail_if_success refine idW ?_); (fail_if_success refine idS ?_); intros; (repeat' apply And.intro) <;> first | assumption | omega | (simp_all; done)))
  refine aw_seq ?_
  refine aw_seq (aw_region (EF := EF0) hG (by rw [hN]; exact tr9_2) ?_)
  simp only [a9_2, go_sem, simprocAttr, tWe, fMil_eq]
  refine aw_block ?_
  refine aw_loop (α := Nat × (List Int)) (fun γ => (γ.1 ≤ l.length) ∧ (γ.2 = (l.take γ.1).map (wgt ⟨ps, ds⟩)) ∧ (γ.2.length = γ.1)) (fun γ => ⟨mkE [(2, V.ptr 2 0), (5, .own 12 γ.2.length), (13, V.list (List.map Want.enc l) false), (14, V.int IntKind.i64 ↑l.length), (15, .int .i64 γ.1)], mkH [(2, Ob.box 25 [V.list (List.map Airport.enc ps) false, V.list (List.map Distance.enc ds) false]), (12, .arr 3 1 (ints γ.2))]⟩) (fun γ => l.length - γ.1) (0, []) ⟨Nat.zero_le _, rfl, rfl⟩ ?_ ?_
  · refine Le.mk _ _ ?_ ?_ rfl <;> simp only [go_sem, simprocAttr] <;> (repeat' apply And.intro) <;> (try first | rfl | exact wk_frzb rfl rfl rfl | exact wk_fn rfl | exact .nilo _ _ _ rfl rfl)
  · rintro ⟨i, xs⟩ ⟨hi, hx, hxl⟩ KL0 hKL0
    try dsimp only at *
    refine aw_seq (aw_region (EF := EF0) hG (by rw [hN]; exact tr9_3) ?_)
    simp only [a9_3, go_sem, simprocAttr, tWe, fMil_eq]
    refine aw_seq ?_
    refine aw_cond (b := _) rfl (fun hc3 => ?_) (fun hc3 => ?_)
    · simp only [hcL] at hc3
      refine aw_skip ?_
      try simp only [go_sem, simprocAttr]
      refine aw_seq ?_
      refine aw_block ?_
      refine aw_seq (aw_region (EF := EF0) hG (by rw [hN]; exact tr9_4) ?_)
      simp only [a9_4, go_sem, simprocAttr, getD_mapd _ _ _ _ hc3, hc3, Want.enc, tWe, fMil_eq]
      (repeat' apply And.intro) <;> (try first | omega | ((fail_if_success refine idW ?_); (fail_if_success refine idS ?_); intros; (repeat' apply And.intro) <;> first | assumption | omega | (simp_all; done)))
      obtain ⟨⟨n, e⟩, hne⟩ : ∃ y, milesOf ps ds l[i].seg.from' l[i].seg.to' = y := ⟨_, rfl⟩
      have hw : wgt ⟨ps, ds⟩ l[i] = if e ≠ 0 ∨ n = 0 then 1 else n := by unfold wgt; dsimp only; rw [hne]
      refine aw_seq (aw_region (EF := EF0) hG (by rw [hN]; exact tr9_5) ?_)
      simp only [a9_5, go_sem, simprocAttr, hm, hne, tWe, fMil_eq]
      (repeat' apply And.intro) <;> (try first | omega | ((fail_if_success refine idW ?_); (fail_if_success refine idS ?_); intros; (repeat' apply And.intro) <;> first | assumption | omega | (simp_all; done)))
      refine aw_cut (α := Int) (fun m => (m = wgt ⟨ps, ds⟩ l[i])) (fun m => ⟨mkE [(2, V.ptr 2 0), (5, V.own 12 xs.length), (8, .int .i64 m), (13, V.list (List.map Want.enc l) false), (14, V.int IntKind.i64 ↑l.length), (15, V.int IntKind.i64 ↑i)], mkH [(2, Ob.box 25 [V.list (List.map Airport.enc ps) false, V.list (List.map Distance.enc ds) false]), (12, Ob.arr 3 1 (ints xs))]⟩) ?_ ?_
      · intro KC6 hKC6
        refine aw_seq (aw_region (EF := EF0) hG (by rw [hN]; exact tr9_6) ?_)
        simp only [a9_6, go_sem, simprocAttr, tWe, fMil_eq]
        (repeat' apply And.intro) <;> (try first | omega | ((fail_if_success refine idW ?_); (fail_if_success refine idS ?_); intros; (repeat' apply And.intro) <;> first | assumption | omega | (simp_all; done)))
        refine aw_cond (b := _) rfl (fun hb6 => ?_) (fun hb6 => ?_)
        · skip
          refine aw_region (EF := EF0) hG (by rw [hN]; exact tr9_7) ?_
          simp only [a9_7, go_sem, simprocAttr, tWe, fMil_eq]
          refine hKC6 (1) _ ?_ ?_
          · (try dsimp only); (rw [hw, if_pos (by simpa using hb6)])
          · refine Le.mk _ _ ?_ ?_ rfl <;> simp only [go_sem, simprocAttr] <;> (repeat' apply And.intro) <;> (try first | rfl | exact wk_frzb rfl rfl rfl | exact wk_fn rfl | exact .nilo _ _ _ rfl rfl)
        · skip
          refine aw_skip ?_
          try simp only [go_sem, simprocAttr]
          refine hKC6 (n) _ ?_ ?_
          · (try dsimp only); (rw [hw, if_neg (by simpa using hb6)])
          · refine Le.mk _ _ ?_ ?_ rfl <;> simp only [go_sem, simprocAttr] <;> (repeat' apply And.intro) <;> (try first | rfl | exact wk_frzb rfl rfl rfl | exact wk_fn rfl | exact .nilo _ _ _ rfl rfl)
      · rintro m hmw
        refine aw_region (EF := EF0) hG (by rw [hN]; exact tr9_8) ?_
        simp only [a9_8, go_sem, simprocAttr, tWe, fMil_eq]
        (repeat' apply And.intro) <;> (try first | omega | ((fail_if_success refine idW ?_); (fail_if_success refine idS ?_); intros; (repeat' apply And.intro) <;> first | assumption | omega | (simp_all; done)))
        refine aw_region (EF := EF0) hG (by rw [hN]; exact tr9_9) ?_
        simp only [a9_9, go_sem, simprocAttr, inI, tWe, fMil_eq]
        (repeat' apply And.intro) <;> (try first | omega | ((fail_if_success refine idW ?_); (fail_if_success refine idS ?_); intros; (repeat' apply And.intro) <;> first | assumption | omega | (simp_all; done)))
        refine hKL0 (i + 1, xs ++ [m]) _ ?_ ?_ ?_
        · (try dsimp only); exact ⟨hc3, by rw [hx, hmw, take_succ' hc3, List.map_append]; rfl, by simp [hxl]⟩
        · (try dsimp only); omega
        · refine Le.mk _ _ ?_ ?_ rfl <;> simp only [go_sem, simprocAttr, ints_snoc, List.length_append, List.length_cons, List.length_nil] <;> (repeat' apply And.intro) <;> (try first | rfl | exact wk_frzb rfl rfl rfl | exact wk_fn rfl | exact .nilo _ _ _ rfl rfl)
    · simp only [hcL] at hc3
      rw [List.take_of_length_le hc3] at hx
      refine aw_exit ?_
      simp only [go_sem, simprocAttr]
      refine aw_seq (aw_region (EF := EF0) hG (by rw [hN]; exact tr9_10) ?_)
      simp only [a9_10, go_sem, simprocAttr, tWe, fMil_eq]
      refine AW.le (s' := ⟨mkE [(4, .list (ints xs) false)], mkH []⟩) (Le.mk _ _ ?_ ?_ rfl) (aw_ret (hQ _ _ (.inl rfl) ?_ ?_ ?_)) <;> simp only [outφ, outV, AR.res, go_sem, simprocAttr, fWe, ← hx]
      · exact wk_frz rfl (by rw [ints_len]) rfl (ints_pur _)
/-- What Coupons returns. -/
def cpGo (W : List Int) : List Part → Int × List Int
  | [] => (0, [])
  | x :: l =>
    let s := splitM x.amount ((W.take x.to'.toNat).drop x.from'.toNat)
    if s.1 ≠ 0 then (s.1, []) else
      let r := cpGo W l
      if r.1 ≠ 0 then (r.1, []) else (0, s.2 ++ r.2)
def coupM (p : Places) (l : List Want) (q : Quote) : Int × List Int := if divGo l.length 0 q.parts then cpGo (l.map (wgt p)) q.parts else (2, [])
def aCo (x : Places × List Want × Quote) : List V := [.agg x.1.enc, .list (x.2.1.map Want.enc) false, .agg x.2.2.enc]
theorem aCo_inj (a b : Places × List Want × Quote) (h : aCo a = aCo b) : a = b := by
  obtain ⟨a_p, a_l, a_q⟩ := a
  obtain ⟨b_p, b_l, b_q⟩ := b
  simp only [aCo, List.cons.injEq, V.str.injEq, V.int.injEq, V.bool.injEq, V.agg.injEq, V.list.injEq, and_true, true_and] at h
  obtain ⟨h0, h1, h2⟩ := h
  replace h0 := Places.inj _ _ h0
  subst h0
  replace h1 := map_inj' Want.inj h1
  subst h1
  replace h2 := Quote.inj _ _ h2
  subst h2
  rfl
def COk (p : Places) (l : List Want) (q : Quote) : Prop := MOk p ∧ l.length ≤ 1000000 ∧ q.parts.length ≤ 1000000 ∧ (∀ x ∈ q.parts, x.ok)
def fCo (x : Places × List Want × Quote) : Prop × V := (COk x.1 x.2.1 x.2.2, shareV (coupM x.1 x.2.1 x.2.2))
def glue (xs : List Int) (r : Int × List Int) : Int × List Int := if r.1 ≠ 0 then (r.1, []) else (0, xs ++ r.2)
theorem cp_step {W : List Int} {x : Part} {l : List Part} {e : Int} {s : List Int} (h : splitM x.amount ((W.take x.to'.toNat).drop x.from'.toNat) = (e, s)) (xs : List Int) : glue xs (cpGo W (x :: l)) = if e ≠ 0 then (e, []) else glue (xs ++ s) (cpGo W l) := by
  rw [cpGo, h]
  dsimp only
  unfold glue
  by_cases he : e = 0
  · subst he
    simp only [ne_eq, not_true_eq_false, if_false]
    by_cases h2 : (cpGo W l).1 = 0 <;> simp [h2]
  · simp [he]
theorem glue_nil (W : List Int) : ∀ l : List Part, cpGo W l = glue [] (cpGo W l)
  | [] => rfl
  | x :: l => by
    rw [cpGo]
    dsimp only
    unfold glue
    split
    · simp [*]
    · split
      · simp [*]
      · simp
theorem fSplit_eq' (a : Int) (l : List Int) : gOf aSp fSplit [.int .i64 a, .list (ints l) false] = (l.length ≤ 1000000 ∧ inI a ∧ ∀ w ∈ l, inI w, shareV (splitM a l)) := gOf_eq aSp_inj (a, l)
theorem milesV_in (L : Assoc Int) (hL : ∀ p ∈ L, 0 ≤ p.2 ∧ p.2 ≤ 1000000000) (k : List UInt8) : 0 ≤ (milesV (aget L k)).1 ∧ (milesV (aget L k)).1 ≤ 1000000000 := by
  cases h : aget L k with
  | none => unfold milesV; simp
  | some v => unfold milesV; exact hL _ (aget_mem h)
theorem wgt_bd {p : Places} (hp : MOk p) (w : Want) : 1 ≤ wgt p w ∧ wgt p w ≤ 1000000000 := by
  unfold wgt
  dsimp only
  have h : 0 ≤ (milesOf p.airports p.distances w.seg.from' w.seg.to').1 ∧ (milesOf p.airports p.distances w.seg.from' w.seg.to').1 ≤ 1000000000 := by
    unfold milesOf
    split
    · simp
    · exact milesV_in _ ((fixL_fin hp.2 _).inv.big hp.2).2 _
  split
  · omega
  · rename_i hh; omega
set_option maxHeartbeats 4000000 in
noncomputable def tCo : Tab
  | 13 => (gOf aDiv fDiv)
  | 9 => (gOf aWe fWe)
  | 14 => (gOf aSp fSplit)
  | _ => gNo
theorem tCo_ok : ∀ f, PureC Tryz.prog UT f (tCo f) := fun f => by
  unfold tCo
  split
  · exact divides_p
  · exact weights_p
  · exact split_p
  · exact PureC.no
set_option maxHeartbeats 4000000 in
theorem coupons_p : PureC Tryz.prog UT 6 (gOf aCo fCo) := by
  have hG := tCo_ok
  refine PureC.ofArgs aCo_inj Tryz.func6 body6 nm6 res6 ?_
  rintro ⟨⟨ps, ds⟩, l, q⟩ hv
  refine ⟨by rw [nt6]; simp [aCo], fun C hN Q hQ => ?_⟩
  rw [nt6] at hN
  unfold c6
  obtain ⟨hm, hl, hpl, hpo⟩ : COk ⟨ps, ds⟩ l q := hv
  have hl2 : l.length ≤ 140737488355328 := by omega
  have hpl2 : q.parts.length ≤ 140737488355328 := by omega
  refine aw_seq (aw_region (EF := EF0) hG (by rw [hN]; exact tr6_0) ?_)
  simp only [a6_0, go_sem, simprocAttr, aCo, Places.enc, Quote.enc, tCo, fDiv_eq, fWe_eq, fSplit_eq']
  refine aw_seq ?_
  refine aw_seq (aw_region (EF := EF0) hG (by rw [hN]; exact tr6_1) ?_)
  simp only [a6_1, go_sem, simprocAttr, hpl2, List.length_map, tCo, fDiv_eq, fWe_eq, fSplit_eq']
  (repeat' apply And.intro) <;> (try first | omega | ((fail_if_success refine idW ?_); (fail_if_success refine idS ?_); intros; (repeat' apply And.intro) <;> first | assumption | omega | (simp_all; done)))
  refine aw_cond (b := _) rfl (fun hb1 => ?_) (fun hb1 => ?_)
  · skip
    have hcm : coupM ⟨ps, ds⟩ l q = (2, []) := by unfold coupM; rw [if_neg (by simpa using hb1)]
    refine aw_seq (aw_region (EF := EF0) hG (by rw [hN]; exact tr6_2) ?_)
    simp only [a6_2, go_sem, simprocAttr, tCo, fDiv_eq, fWe_eq, fSplit_eq']
    refine AW.le (s' := ⟨mkE [(6, .list [] false), (7, .int .i64 2)], mkH []⟩) (Le.mk _ _ ?_ ?_ rfl) (aw_ret (hQ _ _ (.inl rfl) ?_ ?_ ?_)) <;> simp only [outφ, outV, AR.res, go_sem, simprocAttr, fCo, hcm, shareV, ints_nil]
  · skip
    have hdv : divGo l.length 0 q.parts = true := by simpa using hb1
    refine aw_skip ?_
    try simp only [go_sem, simprocAttr]
    obtain ⟨W, hW⟩ : ∃ W, W = l.map (wgt ⟨ps, ds⟩) := ⟨_, rfl⟩
    have hWl : W.length = l.length := by rw [hW, List.length_map]
    have hWi : ∀ w ∈ W, inI w := fun w hw => by rw [hW] at hw; obtain ⟨x, _, rfl⟩ := List.mem_map.1 hw; have := wgt_bd hm x; unfold inI; omega
    have hcm : coupM ⟨ps, ds⟩ l q = cpGo W q.parts := by unfold coupM; rw [if_pos hdv, hW]
    refine aw_seq (aw_region (EF := EF0) hG (by rw [hN]; exact tr6_3) ?_)
    simp only [a6_3, go_sem, simprocAttr, hm, hl, tCo, fDiv_eq, fWe_eq, fSplit_eq']
    (repeat' apply And.intro) <;> (try first | omega | ((fail_if_success refine idW ?_); (fail_if_success refine idS ?_); intros; (repeat' apply And.intro) <;> first | assumption | omega | (simp_all; done)))
    rw [← hW]
    refine aw_seq (aw_region (EF := EF0) hG (by rw [hN]; exact tr6_4) ?_)
    simp only [a6_4, go_sem, simprocAttr, tCo, fDiv_eq, fWe_eq, fSplit_eq']
    refine aw_seq ?_
    refine aw_seq (aw_region (EF := EF0) hG (by rw [hN]; exact tr6_5) ?_)
    simp only [a6_5, go_sem, simprocAttr, List.length_map, tCo, fDiv_eq, fWe_eq, fSplit_eq']
    refine aw_block ?_
    refine aw_loop (α := Nat × (List Int)) (fun γ => (γ.1 ≤ q.parts.length) ∧ (divGo l.length γ.2.length (q.parts.drop γ.1) = true) ∧ (cpGo W q.parts = glue γ.2 (cpGo W (q.parts.drop γ.1))) ∧ (γ.2.length ≤ l.length)) (fun γ => ⟨mkE [(8, V.list (ints W) false), (9, .own 47 γ.2.length), (24, V.list (List.map Part.enc q.parts) false), (25, V.int IntKind.i64 ↑q.parts.length), (26, .int .i64 γ.1)], mkH [(47, .arr 3 1 (ints γ.2))]⟩) (fun γ => q.parts.length - γ.1) (0, []) ⟨Nat.zero_le _, hdv, (glue_nil _ _), Nat.zero_le _⟩ ?_ ?_
    · refine Le.mk _ _ ?_ ?_ rfl <;> simp only [go_sem, simprocAttr] <;> (repeat' apply And.intro) <;> (try first | rfl | exact wk_frzb rfl rfl rfl | exact wk_fn rfl | exact .nilo _ _ _ rfl rfl)
    · rintro ⟨i, xs⟩ ⟨hi, hd, hc, hx⟩ KL0 hKL0
      try dsimp only at *
      refine aw_seq (aw_region (EF := EF0) hG (by rw [hN]; exact tr6_6) ?_)
      simp only [a6_6, go_sem, simprocAttr, tCo, fDiv_eq, fWe_eq, fSplit_eq']
      refine aw_seq ?_
      refine aw_cond (b := _) rfl (fun hc6 => ?_) (fun hc6 => ?_)
      · simp only [hcL] at hc6
        refine aw_skip ?_
        try simp only [go_sem, simprocAttr]
        refine aw_seq ?_
        refine aw_block ?_
        have hdd := List.drop_eq_getElem_cons hc6
        rw [hdd, divGo] at hd
        obtain ⟨x, hxx⟩ : ∃ x, x = q.parts[i] := ⟨_, rfl⟩
        rw [← hxx] at hd
        have hxo : x.ok := hxx ▸ hpo _ (List.getElem_mem hc6)
        obtain ⟨hdx, hd⟩ : ¬(x.from' ≠ xs.length ∨ x.to' ≤ xs.length ∨ (l.length : Int) < x.to') ∧ divGo l.length x.to' (q.parts.drop (i + 1)) = true := by split at hd; cases hd; exact ⟨‹_›, hd⟩
        have hb1 : 0 ≤ x.from' ∧ x.from' ≤ x.to' ∧ x.to' ≤ W.length := by omega
        obtain ⟨⟨e, s⟩, hsp⟩ : ∃ y, splitM x.amount ((W.take x.to'.toNat).drop x.from'.toNat) = y := ⟨_, rfl⟩
        have hsl : ((W.take x.to'.toNat).drop x.from'.toNat).length = (x.to' - x.from').toNat := by rw [List.length_drop, List.length_take]; omega
        have hsi : ∀ w ∈ (W.take x.to'.toNat).drop x.from'.toNat, inI w := fun w hw => hWi w (List.mem_of_mem_take (List.mem_of_mem_drop hw))
        have hsub : ((ints W).take x.to'.toNat).drop x.from'.toNat = ints ((W.take x.to'.toNat).drop x.from'.toNat) := by rw [ints_take, ints_drop]
        have hstep := cp_step (l := q.parts.drop (i + 1)) hsp xs
        rw [hdd, ← hxx, hstep] at hc
        have hfa := spl_facts hsp
        have hsl2 : ((W.take x.to'.toNat).drop x.from'.toNat).length ≤ 1000000 := by omega
        have hxi : inI x.amount := hxo.2.2.2
        refine aw_seq (aw_region (EF := EF0) hG (by rw [hN]; exact tr6_7) ?_)
        simp only [a6_7, go_sem, simprocAttr, getD_mapd _ _ _ _ hc6, hc6, ← hxx, Part.enc, tCo, fDiv_eq, fWe_eq, fSplit_eq']
        (repeat' apply And.intro) <;> (try first | omega | ((fail_if_success refine idW ?_); (fail_if_success refine idS ?_); intros; (repeat' apply And.intro) <;> first | assumption | omega | (simp_all; done)))
        refine aw_seq (aw_regionD (EF := EF0) hG mixed (by rw [hN]; exact tr6_8) ok6_8 ?_)
        simp only [a6_8, d6_8, go_sem, simprocAttr, hsub, hsp, shareV, hsl2, hxi, hsi, ints_len, hb1.1, hb1.2.1, hb1.2.2, tCo, fDiv_eq, fWe_eq, fSplit_eq']
        (repeat' apply And.intro) <;> (try first | omega | ((fail_if_success refine idW ?_); (fail_if_success refine idS ?_); intros; (repeat' apply And.intro) <;> first | assumption | omega | (simp_all; done)) | exact hsi)
        refine aw_seq ?_
        refine aw_seq (aw_region (EF := EF0) hG (by rw [hN]; exact tr6_9) ?_)
        simp only [a6_9, go_sem, simprocAttr, tCo, fDiv_eq, fWe_eq, fSplit_eq']
        refine aw_cond (b := _) rfl (fun hb9 => ?_) (fun hb9 => ?_)
        · skip
          have he : e ≠ 0 := by simpa using hb9
          rw [if_pos he] at hc
          refine aw_seq (aw_region (EF := EF0) hG (by rw [hN]; exact tr6_10) ?_)
          simp only [a6_10, go_sem, simprocAttr, tCo, fDiv_eq, fWe_eq, fSplit_eq']
          refine AW.le (s' := ⟨mkE [(6, .list [] false), (7, .int .i64 e)], mkH []⟩) (Le.mk _ _ ?_ ?_ rfl) (aw_ret (hQ _ _ (.inl rfl) ?_ ?_ ?_)) <;> simp only [outφ, outV, AR.res, go_sem, simprocAttr, fCo, shareV, hcm, hc, ints_nil]
        · skip
          have he : e = 0 := by simpa using hb9
          rw [if_neg (by simpa using he)] at hc
          have hS := hfa.2 he
          have hsl3 : s.length = (x.to' - x.from').toNat := by rw [hS.len, hsl]
          refine aw_skip ?_
          try simp only [go_sem, simprocAttr]
          refine aw_region (EF := EF0) hG (by rw [hN]; exact tr6_11) ?_
          simp only [a6_11, go_sem, simprocAttr, tCo, fDiv_eq, fWe_eq, fSplit_eq']
          (repeat' apply And.intro) <;> (try first | omega | ((fail_if_success refine idW ?_); (fail_if_success refine idS ?_); intros; (repeat' apply And.intro) <;> first | assumption | omega | (simp_all; done)))
          refine aw_region (EF := EF0) hG (by rw [hN]; exact tr6_12) ?_
          simp only [a6_12, go_sem, simprocAttr, inI, tCo, fDiv_eq, fWe_eq, fSplit_eq']
          (repeat' apply And.intro) <;> (try first | omega | ((fail_if_success refine idW ?_); (fail_if_success refine idS ?_); intros; (repeat' apply And.intro) <;> first | assumption | omega | (simp_all; done)))
          refine hKL0 (i + 1, xs ++ s) _ ?_ ?_ ?_
          · (try dsimp only); exact ⟨hc6, by rw [List.length_append, hsl3, show (((xs.length + (x.to' - x.from').toNat : Nat)) : Int) = x.to' by omega]; exact hd, hc, by rw [List.length_append, hsl3]; omega⟩
          · (try dsimp only); omega
          · refine Le.mk _ _ ?_ ?_ rfl <;> simp only [go_sem, simprocAttr, ints_app, List.length_append] <;> (repeat' apply And.intro) <;> (try first | rfl | exact wk_frzb rfl rfl rfl | exact wk_fn rfl | exact .nilo _ _ _ rfl rfl)
      · simp only [hcL] at hc6
        rw [List.drop_eq_nil_of_le hc6, cpGo] at hc
        refine aw_exit ?_
        simp only [go_sem, simprocAttr]
        refine aw_seq (aw_region (EF := EF0) hG (by rw [hN]; exact tr6_13) ?_)
        simp only [a6_13, go_sem, simprocAttr, tCo, fDiv_eq, fWe_eq, fSplit_eq']
        refine AW.le (s' := ⟨mkE [(6, .list (ints xs) false), (7, .int .i64 0)], mkH []⟩) (Le.mk _ _ ?_ ?_ rfl) (aw_ret (hQ _ _ (.inl rfl) ?_ ?_ ?_)) <;> simp only [outφ, outV, AR.res, go_sem, simprocAttr, fCo, shareV, hcm, hc, glue, List.append_nil, not_true_eq_false, ne_eq]
        · exact wk_frz rfl (by rw [ints_len]) rfl (ints_pur _)
end Go.Proofs.YtfjgnfgadkajnaaGreat
