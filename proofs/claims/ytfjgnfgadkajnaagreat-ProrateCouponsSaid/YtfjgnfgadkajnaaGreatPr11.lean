/- Weights and Coupons of the reference; the statement about both. -/
import Derived.Test.YtfjgnfgadkajnaaGreatPr9
import Derived.Test.YtfjgnfgadkajnaaGreatPl13
import Derived.Test.YtfjgnfgadkajnaaGreatMo9
namespace Go.Proofs.YtfjgnfgadkajnaaGreat
open Go Go.RowKit
set_option linter.unusedSimpArgs false
set_option linter.unusedVariables false
set_option linter.deprecated false
theorem miles_nn {p : Places} (hp : MOk p) (a b : List UInt8) : 0 ≤ (milesOf p.airports p.distances a b).1 := by
  unfold milesOf
  split
  · simp
  · exact (milesV_in _ ((fixL_fin hp.2 _).inv.big hp.2).2 _).1
theorem rdivides_p : PureC Tryz.prog UT 15 (gOf aDiv fDiv) := by
  have hG := tNo_ok
  refine PureC.ofArgs aDiv_inj Tryz.func15 body15 nm15 res15 ?_
  rintro ⟨l, n⟩ hv
  refine ⟨by rw [nt15]; simp [aDiv], fun C hN Q hQ => ?_⟩
  rw [nt15] at hN
  unfold c15
  replace hv : l.length ≤ 140737488355328 := hv
  refine aw_seq (aw_region (EF := EF0) hG (by rw [hN]; exact tr15_0) ?_)
  simp only [a15_0, go_sem, simprocAttr, aDiv]
  refine aw_seq (aw_region (EF := EF0) hG (by rw [hN]; exact tr15_1) ?_)
  simp only [a15_1, go_sem, simprocAttr]
  refine aw_seq ?_
  refine aw_seq (aw_region (EF := EF0) hG (by rw [hN]; exact tr15_2) ?_)
  simp only [a15_2, go_sem, simprocAttr]
  refine aw_block ?_
  refine aw_loop (α := Nat × Int) (fun γ => (γ.1 ≤ l.length) ∧ (divGo n 0 l = divGo n γ.2 (l.drop γ.1))) (fun γ => ⟨mkE [(0, V.list (List.map Part.enc l) false), (1, V.int IntKind.i64 n), (5, .int .i64 γ.2), (6, .int .i64 γ.1)], mkH []⟩) (fun γ => l.length - γ.1) (0, 0) ⟨Nat.zero_le _, rfl⟩ ?_ ?_
  · refine Le.mk _ _ ?_ ?_ rfl <;> simp only [go_sem, simprocAttr] <;> (repeat' apply And.intro) <;> (try first | rfl | exact wk_frzb rfl rfl rfl | exact wk_fn rfl | exact .nilo _ _ _ rfl rfl)
  · rintro ⟨i, a⟩ ⟨hi, hs⟩ KL0 hKL0
    try dsimp only at *
    refine aw_seq ?_
    refine aw_seq (aw_region (EF := EF0) hG (by rw [hN]; exact tr15_3) ?_)
    simp only [a15_3, go_sem, simprocAttr, List.length_map]
    refine aw_cond (b := _) rfl (fun hc3 => ?_) (fun hc3 => ?_)
    · simp only [hcL] at hc3
      refine aw_skip ?_
      try simp only [go_sem, simprocAttr]
      refine aw_seq ?_
      refine aw_block ?_
      refine aw_seq ?_
      have hd := List.drop_eq_getElem_cons hc3
      rw [hd, divGo] at hs
      refine aw_seq (aw_region (EF := EF0) hG (by rw [hN]; exact tr15_5) ?_)
      simp only [a15_5, go_sem, simprocAttr, getD_mapd _ _ _ _ hc3, hc3, Part.enc, List.length_map]
      (repeat' apply And.intro) <;> (try first | omega | ((fail_if_success refine idW ?_); (fail_if_success refine idS ?_); intros; (repeat' apply And.intro) <;> first | assumption | omega | (simp_all; done)))
      refine aw_cond (b := _) rfl (fun hb5 => ?_) (fun hb5 => ?_)
      · skip
        rw [if_pos (by simp only [Bool.or_eq_true, Bool.not_eq_true', decide_eq_true_eq, decide_eq_false_iff_not] at hb5; omega)] at hs
        refine aw_seq (aw_region (EF := EF0) hG (by rw [hN]; exact tr15_6) ?_)
        simp only [a15_6, go_sem, simprocAttr]
        refine aw_ret ?_
        show Q _ _
        refine hQ _ _ (.inl rfl) ?_ ?_ ?_ <;> simp only [outφ, outV, AR.res, go_sem, simprocAttr, fDiv, hs]
      · skip
        rw [if_neg (by simp only [Bool.or_eq_false_iff, Bool.not_eq_false', decide_eq_true_eq, decide_eq_false_iff_not] at hb5; omega)] at hs
        refine aw_skip ?_
        try simp only [go_sem, simprocAttr]
        refine aw_region (EF := EF0) hG (by rw [hN]; exact tr15_7) ?_
        simp only [a15_7, go_sem, simprocAttr, getD_mapd _ _ _ _ hc3, hc3, Part.enc, List.length_map]
        (repeat' apply And.intro) <;> (try first | omega | ((fail_if_success refine idW ?_); (fail_if_success refine idS ?_); intros; (repeat' apply And.intro) <;> first | assumption | omega | (simp_all; done)))
        refine aw_region (EF := EF0) hG (by rw [hN]; exact tr15_4) ?_
        simp only [a15_4, go_sem, simprocAttr, inI]
        (repeat' apply And.intro) <;> (try first | omega | ((fail_if_success refine idW ?_); (fail_if_success refine idS ?_); intros; (repeat' apply And.intro) <;> first | assumption | omega | (simp_all; done)))
        refine hKL0 (i + 1, l[i].to') _ ?_ ?_ ?_
        · (try dsimp only); exact ⟨hc3, hs⟩
        · (try dsimp only); omega
        · refine Le.mk _ _ ?_ ?_ rfl <;> simp only [go_sem, simprocAttr] <;> (repeat' apply And.intro) <;> (try first | rfl | exact wk_frzb rfl rfl rfl | exact wk_fn rfl | exact .nilo _ _ _ rfl rfl)
    · simp only [hcL] at hc3
      rw [List.drop_eq_nil_of_le hc3, divGo] at hs
      refine aw_exit ?_
      simp only [go_sem, simprocAttr]
      refine aw_seq (aw_region (EF := EF0) hG (by rw [hN]; exact tr15_8) ?_)
      simp only [a15_8, go_sem, simprocAttr]
      refine aw_ret ?_
      show Q _ _
      refine hQ _ _ (.inl rfl) ?_ ?_ ?_ <;> simp only [outφ, outV, AR.res, go_sem, simprocAttr, fDiv, hs]
noncomputable def trWe : Tab
  | 18 => (gOf aMi fMiles)
  | _ => gNo
theorem trWe_ok : ∀ f, PureC Tryz.prog UT f (trWe f) := fun f => by
  unfold trWe
  split
  · exact rmiles_p
  · exact PureC.no
theorem rweights_p : PureC Tryz.prog UT 10 (gOf aWe fWe) := by
  have hG := trWe_ok
  refine PureC.ofArgs aWe_inj Tryz.func10 body10 nm10 res10 ?_
  rintro ⟨⟨ps, ds⟩, l⟩ hv
  refine ⟨by rw [nt10]; simp [aWe], fun C hN Q hQ => ?_⟩
  rw [nt10] at hN
  unfold c10
  obtain ⟨hm, hl⟩ : MOk ⟨ps, ds⟩ ∧ l.length ≤ 1000000 := hv
  refine aw_seq (aw_region (EF := EF0) hG (by rw [hN]; exact tr10_0) ?_)
  simp only [a10_0, go_sem, simprocAttr, aWe, Places.enc, trWe, fMil_eq]
  refine aw_seq (aw_region (EF := EF0) hG (by rw [hN]; exact tr10_1) ?_)
  simp only [a10_1, go_sem, simprocAttr, trWe, fMil_eq]
  refine aw_seq ?_
  refine aw_seq (aw_region (EF := EF0) hG (by rw [hN]; exact tr10_2) ?_)
  simp only [a10_2, go_sem, simprocAttr, trWe, fMil_eq]
  refine aw_block ?_
  refine aw_loop (α := Nat × (List Int)) (fun γ => (γ.1 ≤ l.length) ∧ (γ.2 = (l.take γ.1).map (wgt ⟨ps, ds⟩)) ∧ (γ.2.length = γ.1)) (fun γ => ⟨mkE [(1, V.list (List.map Want.enc l) false), (2, V.ptr 2 0), (5, .own 41 γ.2.length), (6, .int .i64 γ.1)], mkH [(2, Ob.box 25 [V.list (List.map Airport.enc ps) false, V.list (List.map Distance.enc ds) false]), (41, .arr 3 1 (ints γ.2))]⟩) (fun γ => l.length - γ.1) (0, []) ⟨Nat.zero_le _, rfl, rfl⟩ ?_ ?_
  · refine Le.mk _ _ ?_ ?_ rfl <;> simp only [go_sem, simprocAttr, ints_nil] <;> (repeat' apply And.intro) <;> (try first | rfl | exact wk_frzb rfl rfl rfl | exact wk_fn rfl | exact .nilo _ _ _ rfl rfl)
  · rintro ⟨i, xs⟩ ⟨hi, hx, hxl⟩ KL0 hKL0
    try dsimp only at *
    refine aw_seq ?_
    refine aw_seq (aw_region (EF := EF0) hG (by rw [hN]; exact tr10_3) ?_)
    simp only [a10_3, go_sem, simprocAttr, List.length_map, trWe, fMil_eq]
    refine aw_cond (b := _) rfl (fun hc3 => ?_) (fun hc3 => ?_)
    · simp only [hcL] at hc3
      refine aw_skip ?_
      try simp only [go_sem, simprocAttr]
      refine aw_seq ?_
      refine aw_block ?_
      obtain ⟨⟨n, e⟩, hne⟩ : ∃ y, milesOf ps ds l[i].seg.from' l[i].seg.to' = y := ⟨_, rfl⟩
      have hn0 := miles_nn hm l[i].seg.from' l[i].seg.to'
      have hw : wgt ⟨ps, ds⟩ l[i] = if e ≠ 0 ∨ n = 0 then 1 else n := by unfold wgt; dsimp only; rw [hne]
      dsimp only at hn0
      rw [hne] at hn0
      dsimp only at hn0
      refine aw_seq (aw_regionD (EF := EF0) hG mixed (by rw [hN]; exact tr10_5) ok10_5 ?_)
      simp only [a10_5, d10_5, go_sem, simprocAttr, getD_mapd _ _ _ _ hc3, hc3, Want.enc, hm, hne, List.length_map, trWe, fMil_eq]
      (repeat' apply And.intro) <;> (try first | omega | ((fail_if_success refine idW ?_); (fail_if_success refine idS ?_); intros; (repeat' apply And.intro) <;> first | assumption | omega | (simp_all; done)))
      refine aw_cut (α := Int) (fun m => (m = wgt ⟨ps, ds⟩ l[i])) (fun m => ⟨mkE [(1, V.list (List.map Want.enc l) false), (2, V.ptr 2 0), (5, V.own 41 xs.length), (6, V.int IntKind.i64 ↑i), (7, .int .i64 m)], mkH [(2, Ob.box 25 [V.list (List.map Airport.enc ps) false, V.list (List.map Distance.enc ds) false]), (41, Ob.arr 3 1 (ints xs))]⟩) ?_ ?_
      · intro KC6 hKC6
        refine aw_seq (aw_region (EF := EF0) hG (by rw [hN]; exact tr10_6) ?_)
        simp only [a10_6, go_sem, simprocAttr, trWe, fMil_eq]
        (repeat' apply And.intro) <;> (try first | omega | ((fail_if_success refine idW ?_); (fail_if_success refine idS ?_); intros; (repeat' apply And.intro) <;> first | assumption | omega | (simp_all; done)))
        refine aw_cond (b := _) rfl (fun hb6 => ?_) (fun hb6 => ?_)
        · skip
          refine aw_region (EF := EF0) hG (by rw [hN]; exact tr10_7) ?_
          simp only [a10_7, go_sem, simprocAttr, trWe, fMil_eq]
          refine hKC6 (1) _ ?_ ?_
          · (try dsimp only); (rw [hw, if_pos (by simp only [Bool.or_eq_true, Bool.not_eq_true', decide_eq_true_eq, decide_eq_false_iff_not] at hb6; omega)])
          · refine Le.mk _ _ ?_ ?_ rfl <;> simp only [go_sem, simprocAttr] <;> (repeat' apply And.intro) <;> (try first | rfl | exact wk_frzb rfl rfl rfl | exact wk_fn rfl | exact .nilo _ _ _ rfl rfl)
        · skip
          refine aw_skip ?_
          try simp only [go_sem, simprocAttr]
          refine hKC6 (n) _ ?_ ?_
          · (try dsimp only); (rw [hw, if_neg (by simp only [Bool.or_eq_false_iff, Bool.not_eq_false', decide_eq_true_eq, decide_eq_false_iff_not] at hb6; omega)])
          · refine Le.mk _ _ ?_ ?_ rfl <;> simp only [go_sem, simprocAttr] <;> (repeat' apply And.intro) <;> (try first | rfl | exact wk_frzb rfl rfl rfl | exact wk_fn rfl | exact .nilo _ _ _ rfl rfl)
      · rintro m hmw
        refine aw_region (EF := EF0) hG (by rw [hN]; exact tr10_8) ?_
        simp only [a10_8, go_sem, simprocAttr, trWe, fMil_eq]
        (repeat' apply And.intro) <;> (try first | omega | ((fail_if_success refine idW ?_); (fail_if_success refine idS ?_); intros; (repeat' apply And.intro) <;> first | assumption | omega | (simp_all; done)))
        refine aw_region (EF := EF0) hG (by rw [hN]; exact tr10_4) ?_
        simp only [a10_4, go_sem, simprocAttr, inI, trWe, fMil_eq]
        (repeat' apply And.intro) <;> (try first | omega | ((fail_if_success refine idW ?_); (fail_if_success refine idS ?_); intros; (repeat' apply And.intro) <;> first | assumption | omega | (simp_all; done)))
        refine hKL0 (i + 1, xs ++ [m]) _ ?_ ?_ ?_
        · (try dsimp only); exact ⟨hc3, by rw [hx, hmw, take_succ' hc3, List.map_append]; rfl, by simp [hxl]⟩
        · (try dsimp only); omega
        · refine Le.mk _ _ ?_ ?_ rfl <;> simp only [go_sem, simprocAttr, ints_snoc, List.length_append, List.length_cons, List.length_nil] <;> (repeat' apply And.intro) <;> (try first | rfl | exact wk_frzb rfl rfl rfl | exact wk_fn rfl | exact .nilo _ _ _ rfl rfl)
    · simp only [hcL] at hc3
      rw [List.take_of_length_le hc3] at hx
      refine aw_exit ?_
      simp only [go_sem, simprocAttr]
      refine aw_seq (aw_region (EF := EF0) hG (by rw [hN]; exact tr10_9) ?_)
      simp only [a10_9, go_sem, simprocAttr, trWe, fMil_eq]
      refine AW.le (s' := ⟨mkE [(4, .list (ints xs) false)], mkH []⟩) (Le.mk _ _ ?_ ?_ rfl) (aw_ret (hQ _ _ (.inl rfl) ?_ ?_ ?_)) <;> simp only [outφ, outV, AR.res, go_sem, simprocAttr, fWe, ← hx]
      · exact wk_frz rfl (by rw [ints_len]) rfl (ints_pur _)
noncomputable def trCo : Tab
  | 15 => (gOf aDiv fDiv)
  | 10 => (gOf aWe fWe)
  | 16 => (gOf aSp fSplit)
  | _ => gNo
theorem trCo_ok : ∀ f, PureC Tryz.prog UT f (trCo f) := fun f => by
  unfold trCo
  split
  · exact rdivides_p
  · exact rweights_p
  · exact rsplit_p
  · exact PureC.no
set_option maxHeartbeats 4000000 in
theorem rcoupons_p : PureC Tryz.prog UT 7 (gOf aCo fCo) := by
  have hG := trCo_ok
  refine PureC.ofArgs aCo_inj Tryz.func7 body7 nm7 res7 ?_
  rintro ⟨⟨ps, ds⟩, l, q⟩ hv
  refine ⟨by rw [nt7]; simp [aCo], fun C hN Q hQ => ?_⟩
  rw [nt7] at hN
  unfold c7
  obtain ⟨hm, hl, hpl, hpo⟩ : COk ⟨ps, ds⟩ l q := hv
  have hl2 : l.length ≤ 140737488355328 := by omega
  have hpl2 : q.parts.length ≤ 140737488355328 := by omega
  refine aw_seq (aw_region (EF := EF0) hG (by rw [hN]; exact tr7_0) ?_)
  simp only [a7_0, go_sem, simprocAttr, aCo, Places.enc, Quote.enc, trCo, fDiv_eq, fWe_eq, fSplit_eq']
  refine aw_seq ?_
  refine aw_seq (aw_region (EF := EF0) hG (by rw [hN]; exact tr7_1) ?_)
  simp only [a7_1, go_sem, simprocAttr, hpl2, List.length_map, trCo, fDiv_eq, fWe_eq, fSplit_eq']
  (repeat' apply And.intro) <;> (try first | omega | ((fail_if_success refine idW ?_); (fail_if_success refine idS ?_); intros; (repeat' apply And.intro) <;> first | assumption | omega | (simp_all; done)))
  refine aw_cond (b := _) rfl (fun hb1 => ?_) (fun hb1 => ?_)
  · skip
    have hcm : coupM ⟨ps, ds⟩ l q = (2, []) := by unfold coupM; rw [if_neg (by simpa using hb1)]
    refine aw_seq (aw_region (EF := EF0) hG (by rw [hN]; exact tr7_2) ?_)
    simp only [a7_2, go_sem, simprocAttr, trCo, fDiv_eq, fWe_eq, fSplit_eq']
    refine AW.le (s' := ⟨mkE [(6, .list [] false), (7, .int .i64 2)], mkH []⟩) (Le.mk _ _ ?_ ?_ rfl) (aw_ret (hQ _ _ (.inl rfl) ?_ ?_ ?_)) <;> simp only [outφ, outV, AR.res, go_sem, simprocAttr, fCo, hcm, shareV, ints_nil]
  · skip
    have hdv : divGo l.length 0 q.parts = true := by simpa using hb1
    refine aw_skip ?_
    try simp only [go_sem, simprocAttr]
    obtain ⟨W, hW⟩ : ∃ W, W = l.map (wgt ⟨ps, ds⟩) := ⟨_, rfl⟩
    have hWl : W.length = l.length := by rw [hW, List.length_map]
    have hWi : ∀ w ∈ W, inI w := fun w hw => by rw [hW] at hw; obtain ⟨x, _, rfl⟩ := List.mem_map.1 hw; have := wgt_bd hm x; unfold inI; omega
    have hcm : coupM ⟨ps, ds⟩ l q = cpGo W q.parts := by unfold coupM; rw [if_pos hdv, hW]
    refine aw_seq (aw_region (EF := EF0) hG (by rw [hN]; exact tr7_3) ?_)
    simp only [a7_3, go_sem, simprocAttr, hm, hl, trCo, fDiv_eq, fWe_eq, fSplit_eq']
    (repeat' apply And.intro) <;> (try first | omega | ((fail_if_success refine idW ?_); (fail_if_success refine idS ?_); intros; (repeat' apply And.intro) <;> first | assumption | omega | (simp_all; done)))
    rw [← hW]
    refine aw_seq (aw_region (EF := EF0) hG (by rw [hN]; exact tr7_4) ?_)
    simp only [a7_4, go_sem, simprocAttr, trCo, fDiv_eq, fWe_eq, fSplit_eq']
    refine aw_seq ?_
    refine aw_seq (aw_region (EF := EF0) hG (by rw [hN]; exact tr7_5) ?_)
    simp only [a7_5, go_sem, simprocAttr, trCo, fDiv_eq, fWe_eq, fSplit_eq']
    refine aw_block ?_
    refine aw_loop (α := Nat × (List Int)) (fun γ => (γ.1 ≤ q.parts.length) ∧ (divGo l.length γ.2.length (q.parts.drop γ.1) = true) ∧ (cpGo W q.parts = glue γ.2 (cpGo W (q.parts.drop γ.1))) ∧ (γ.2.length ≤ l.length)) (fun γ => ⟨mkE [(5, V.ptr 5 0), (8, V.list (ints W) false), (9, .own 52 γ.2.length), (10, .int .i64 γ.1)], mkH [(5, Ob.box 31 [V.list (List.map Part.enc q.parts) false, V.list (List.map Two.enc q.pairs) false, V.list (List.map Charge.enc q.taxes) false, V.int IntKind.i64 q.fare, V.int IntKind.i64 q.total]), (52, .arr 3 1 (ints γ.2))]⟩) (fun γ => q.parts.length - γ.1) (0, []) ⟨Nat.zero_le _, hdv, (glue_nil _ _), Nat.zero_le _⟩ ?_ ?_
    · refine Le.mk _ _ ?_ ?_ rfl <;> simp only [go_sem, simprocAttr, ints_nil] <;> (repeat' apply And.intro) <;> (try first | rfl | exact wk_frzb rfl rfl rfl | exact wk_fn rfl | exact .nilo _ _ _ rfl rfl)
    · rintro ⟨i, xs⟩ ⟨hi, hd, hc, hx⟩ KL0 hKL0
      try dsimp only at *
      refine aw_seq ?_
      refine aw_seq (aw_region (EF := EF0) hG (by rw [hN]; exact tr7_6) ?_)
      simp only [a7_6, go_sem, simprocAttr, List.length_map, trCo, fDiv_eq, fWe_eq, fSplit_eq']
      refine aw_cond (b := _) rfl (fun hc6 => ?_) (fun hc6 => ?_)
      · simp only [hcL] at hc6
        refine aw_skip ?_
        try simp only [go_sem, simprocAttr]
        refine aw_seq ?_
        refine aw_block ?_
        have hdd := List.drop_eq_getElem_cons hc6
        rw [hdd, divGo] at hd
        obtain ⟨x, hxx⟩ : ∃ x, x = q.parts[i] := ⟨_, rfl⟩
        rw [← hxx] at hd
        have hxo : x.ok := hxx ▸ hpo _ (List.getElem_mem hc6)
        obtain ⟨hdx, hd⟩ : ¬(x.from' ≠ xs.length ∨ x.to' ≤ xs.length ∨ (l.length : Int) < x.to') ∧ divGo l.length x.to' (q.parts.drop (i + 1)) = true := by split at hd; cases hd; exact ⟨‹_›, hd⟩
        have hb1 : 0 ≤ x.from' ∧ x.from' ≤ x.to' ∧ x.to' ≤ W.length := by omega
        obtain ⟨⟨e, s⟩, hsp⟩ : ∃ y, splitM x.amount ((W.take x.to'.toNat).drop x.from'.toNat) = y := ⟨_, rfl⟩
        have hsl : ((W.take x.to'.toNat).drop x.from'.toNat).length = (x.to' - x.from').toNat := by rw [List.length_drop, List.length_take]; omega
        have hsi : ∀ w ∈ (W.take x.to'.toNat).drop x.from'.toNat, inI w := fun w hw => hWi w (List.mem_of_mem_take (List.mem_of_mem_drop hw))
        have hsub : ((ints W).take x.to'.toNat).drop x.from'.toNat = ints ((W.take x.to'.toNat).drop x.from'.toNat) := by rw [ints_take, ints_drop]
        have hstep := cp_step (l := q.parts.drop (i + 1)) hsp xs
        rw [hdd, ← hxx, hstep] at hc
        have hfa := spl_facts hsp
        have hsl2 : ((W.take x.to'.toNat).drop x.from'.toNat).length ≤ 1000000 := by omega
        have hxi : inI x.amount := hxo.2.2.2
        refine aw_seq (aw_region (EF := EF0) hG (by rw [hN]; exact tr7_8) ?_)
        simp only [a7_8, go_sem, simprocAttr, getD_mapd _ _ _ _ hc6, hc6, ← hxx, Part.enc, List.length_map, trCo, fDiv_eq, fWe_eq, fSplit_eq']
        (repeat' apply And.intro) <;> (try first | omega | ((fail_if_success refine idW ?_); (fail_if_success refine idS ?_); intros; (repeat' apply And.intro) <;> first | assumption | omega | (simp_all; done)))
        refine aw_seq (aw_regionD (EF := EF0) hG mixed (by rw [hN]; exact tr7_9) ok7_9 ?_)
        simp only [a7_9, d7_9, go_sem, simprocAttr, hsub, hsp, shareV, hsl2, hxi, hsi, ints_len, hb1.1, hb1.2.1, hb1.2.2, trCo, fDiv_eq, fWe_eq, fSplit_eq']
        (repeat' apply And.intro) <;> (try first | omega | ((fail_if_success refine idW ?_); (fail_if_success refine idS ?_); intros; (repeat' apply And.intro) <;> first | assumption | omega | (simp_all; done)) | exact hsi)
        refine aw_seq ?_
        refine aw_seq (aw_region (EF := EF0) hG (by rw [hN]; exact tr7_10) ?_)
        simp only [a7_10, go_sem, simprocAttr, trCo, fDiv_eq, fWe_eq, fSplit_eq']
        refine aw_cond (b := _) rfl (fun hb10 => ?_) (fun hb10 => ?_)
        · skip
          have he : e ≠ 0 := by simpa using hb10
          rw [if_pos he] at hc
          refine aw_seq (aw_region (EF := EF0) hG (by rw [hN]; exact tr7_11) ?_)
          simp only [a7_11, go_sem, simprocAttr, trCo, fDiv_eq, fWe_eq, fSplit_eq']
          refine AW.le (s' := ⟨mkE [(6, .list [] false), (7, .int .i64 e)], mkH []⟩) (Le.mk _ _ ?_ ?_ rfl) (aw_ret (hQ _ _ (.inl rfl) ?_ ?_ ?_)) <;> simp only [outφ, outV, AR.res, go_sem, simprocAttr, fCo, shareV, hcm, hc, ints_nil]
        · skip
          have he : e = 0 := by simpa using hb10
          rw [if_neg (by simpa using he)] at hc
          have hS := hfa.2 he
          have hsl3 : s.length = (x.to' - x.from').toNat := by rw [hS.len, hsl]
          refine aw_skip ?_
          try simp only [go_sem, simprocAttr]
          refine aw_region (EF := EF0) hG (by rw [hN]; exact tr7_12) ?_
          simp only [a7_12, go_sem, simprocAttr, trCo, fDiv_eq, fWe_eq, fSplit_eq']
          (repeat' apply And.intro) <;> (try first | omega | ((fail_if_success refine idW ?_); (fail_if_success refine idS ?_); intros; (repeat' apply And.intro) <;> first | assumption | omega | (simp_all; done)))
          refine aw_region (EF := EF0) hG (by rw [hN]; exact tr7_7) ?_
          simp only [a7_7, go_sem, simprocAttr, inI, trCo, fDiv_eq, fWe_eq, fSplit_eq']
          (repeat' apply And.intro) <;> (try first | omega | ((fail_if_success refine idW ?_); (fail_if_success refine idS ?_); intros; (repeat' apply And.intro) <;> first | assumption | omega | (simp_all; done)))
          refine hKL0 (i + 1, xs ++ s) _ ?_ ?_ ?_
          · (try dsimp only); exact ⟨hc6, by rw [List.length_append, hsl3, show (((xs.length + (x.to' - x.from').toNat : Nat)) : Int) = x.to' by omega]; exact hd, hc, by rw [List.length_append, hsl3]; omega⟩
          · (try dsimp only); omega
          · refine Le.mk _ _ ?_ ?_ rfl <;> simp only [go_sem, simprocAttr, ints_app, List.length_append] <;> (repeat' apply And.intro) <;> (try first | rfl | exact wk_frzb rfl rfl rfl | exact wk_fn rfl | exact .nilo _ _ _ rfl rfl)
      · simp only [hcL] at hc6
        rw [List.drop_eq_nil_of_le hc6, cpGo] at hc
        refine aw_exit ?_
        simp only [go_sem, simprocAttr]
        refine aw_seq (aw_region (EF := EF0) hG (by rw [hN]; exact tr7_13) ?_)
        simp only [a7_13, go_sem, simprocAttr, trCo, fDiv_eq, fWe_eq, fSplit_eq']
        refine AW.le (s' := ⟨mkE [(6, .list (ints xs) false), (7, .int .i64 0)], mkH []⟩) (Le.mk _ _ ?_ ?_ rfl) (aw_ret (hQ _ _ (.inl rfl) ?_ ?_ ?_)) <;> simp only [outφ, outV, AR.res, go_sem, simprocAttr, fCo, shareV, hcm, hc, glue, List.append_nil, not_true_eq_false, ne_eq]
        · exact wk_frz rfl (by rw [ints_len]) rfl (ints_pur _)
theorem cp_any {n : Int} {W : List Int} (hn : n ≤ W.length) {parts : List Part} {e : Int} {X : List Int} (hd : divGo n 0 parts = true) (hc : cpGo W parts = (e, X)) : X.length ≤ n.toNat := by
  by_cases he : e = 0
  · subst he
    have := (cp_facts hn hd (Int.le_refl 0) hc).1
    omega
  · rw [cp_len0 hc he]; simp
def fL0 (x : Places × List Want × Quote) : Prop × V := (RtOk x.1 x.2.1 x.2.2, .bool true)
noncomputable def tL0 : Tab
  | 4 => (gOf aCo fRt)
  | 5 => (gOf aUnit fTrue)
  | 6 => (gOf aCo fCo)
  | 7 => (gOf aCo fCo)
  | 9 => (gOf aWe fWe)
  | 10 => (gOf aWe fWe)
  | 8 => (gOf aL2 fS13)
  | _ => gNo
theorem tL0_ok : ∀ f, PureC Tryz.prog UT f (tL0 f) := fun f => by
  unfold tL0
  split
  · exact right_p39
  · exact awake_p39
  · exact coupons_p
  · exact rcoupons_p
  · exact weights_p
  · exact rweights_p
  · exact same13_p
  · exact PureC.no
set_option maxHeartbeats 8000000 in
theorem law0_p : PureC Tryz.prog UT 3 (gOf aCo fL0) := by
  have hG := tL0_ok
  refine PureC.ofArgs aCo_inj Tryz.func3 body3 nm3 res3 ?_
  rintro ⟨⟨ps, ds⟩, l, q⟩ hv
  refine ⟨by rw [nt3]; simp [aCo], fun C hN Q hQ => ?_⟩
  rw [nt3] at hN
  unfold c3
  obtain ⟨hp, hl, hq⟩ : RtOk ⟨ps, ds⟩ l q := hv
  refine aw_seq (aw_region (EF := EF0) hG (by rw [hN]; exact tr3_0) ?_)
  simp only [a3_0, go_sem, simprocAttr, aCo, Places.enc, Quote.enc, tL0, fRt_eq2, fCo_eq2, fAw_eq, fWe_eq, fS13_eq]
  refine aw_seq ?_
  refine aw_seq (aw_region (EF := EF0) hG (by rw [hN]; exact tr3_1) ?_)
  simp only [a3_1, go_sem, simprocAttr, RtOk, hp, hl, hq, tL0, fRt_eq2, fCo_eq2, fAw_eq, fWe_eq, fS13_eq]
  (repeat' apply And.intro) <;> (try first | omega | ((fail_if_success refine idW ?_); (fail_if_success refine idS ?_); intros; (repeat' apply And.intro) <;> first | assumption | omega | (simp_all; done)))
  refine aw_cond (b := _) rfl (fun hb1 => ?_) (fun hb1 => ?_)
  · skip
    refine aw_seq (aw_region (EF := EF0) hG (by rw [hN]; exact tr3_2) ?_)
    simp only [a3_2, go_sem, simprocAttr, tL0, fRt_eq2, fCo_eq2, fAw_eq, fWe_eq, fS13_eq]
    (repeat' apply And.intro) <;> (try first | omega | ((fail_if_success refine idW ?_); (fail_if_success refine idS ?_); intros; (repeat' apply And.intro) <;> first | assumption | omega | (simp_all; done)))
    refine aw_ret ?_
    show Q _ _
    refine hQ _ _ (.inl rfl) ?_ ?_ ?_ <;> simp only [outφ, outV, AR.res, go_sem, simprocAttr, fL0]
  · skip
    have hrt : rtB ⟨ps, ds⟩ l q = true := by simpa using hb1
    unfold rtB at hrt
    simp only [Bool.and_eq_true, decide_eq_true_eq] at hrt
    have hmo : MOk ⟨ps, ds⟩ := ⟨⟨by dsimp only; omega, by dsimp only; omega⟩, by dsimp only; omega⟩
    have hl1 : l.length ≤ 1000000 := by omega
    have hco : COk ⟨ps, ds⟩ l q := ⟨hmo, hl1, by omega, hq.1.2⟩
    obtain ⟨⟨e, X⟩, hcX⟩ : ∃ y, coupM ⟨ps, ds⟩ l q = y := ⟨_, rfl⟩
    have hXl : X.length ≤ 140737488355328 := by (unfold coupM at hcX; split at hcX; (rename_i hdv; have := cp_any (W := l.map (wgt ⟨ps, ds⟩)) (by rw [List.length_map]; exact Int.le_refl _) hdv hcX; omega); (injection hcX with h1 h2; rw [← h2]; simp))
    have hWl : (l.map (wgt ⟨ps, ds⟩)).length ≤ 140737488355328 := by rw [List.length_map]; omega
    refine aw_skip ?_
    try simp only [go_sem, simprocAttr]
    refine aw_seq (aw_region (EF := EF0) hG (by rw [hN]; exact tr3_3) ?_)
    simp only [a3_3, go_sem, simprocAttr, hco, hcX, shareV, tL0, fRt_eq2, fCo_eq2, fAw_eq, fWe_eq, fS13_eq]
    (repeat' apply And.intro) <;> (try first | omega | ((fail_if_success refine idW ?_); (fail_if_success refine idS ?_); intros; (repeat' apply And.intro) <;> first | assumption | omega | (simp_all; done)))
    refine aw_seq (aw_region (EF := EF0) hG (by rw [hN]; exact tr3_4) ?_)
    simp only [a3_4, go_sem, simprocAttr, hco, hcX, shareV, tL0, fRt_eq2, fCo_eq2, fAw_eq, fWe_eq, fS13_eq]
    (repeat' apply And.intro) <;> (try first | omega | ((fail_if_success refine idW ?_); (fail_if_success refine idS ?_); intros; (repeat' apply And.intro) <;> first | assumption | omega | (simp_all; done)))
    refine aw_seq (aw_regionD (EF := EF0) hG mixed (by rw [hN]; exact tr3_5) ok3_5 ?_)
    simp only [a3_5, d3_5, go_sem, simprocAttr, hXl, hWl, hmo, hl1, tL0, fRt_eq2, fCo_eq2, fAw_eq, fWe_eq, fS13_eq]
    (repeat' apply And.intro) <;> (try first | omega | ((fail_if_success refine idW ?_); (fail_if_success refine idS ?_); intros; (repeat' apply And.intro) <;> first | assumption | omega | (simp_all; done)))
    refine aw_ret ?_
    show Q _ _
    refine hQ _ _ (.inl rfl) ?_ ?_ ?_ <;> simp only [outφ, outV, AR.res, go_sem, simprocAttr, fL0]
end Go.Proofs.YtfjgnfgadkajnaaGreat
