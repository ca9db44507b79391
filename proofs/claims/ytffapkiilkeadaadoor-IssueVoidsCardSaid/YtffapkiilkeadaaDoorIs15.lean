/- Rows compared: slices.Equal. -/
import Derived.Test.YtffapkiilkeadaaDoorIs14
namespace Go.Proofs.YtffapkiilkeadaaDoor
open Go Go.RowKit
set_option linter.unusedSimpArgs false
set_option linter.unusedVariables false
set_option linter.deprecated false
def eqL {α : Type} (e : α → α → Bool) : List α → List α → Bool
  | [], [] => true
  | a :: l, b :: r => e a b && eqL e l r
  | _, _ => false
theorem eqL_ne {α : Type} {e : α → α → Bool} : ∀ {l r : List α}, l.length ≠ r.length → eqL e l r = false
  | [], [], h => absurd rfl h
  | [], _ :: _, _ => rfl
  | _ :: _, [], _ => rfl
  | a :: l, b :: r, h => by rw [eqL, eqL_ne (l := l) (r := r) (fun h2 => h (by simp [h2])), Bool.and_false]
theorem eqL_drop {α : Type} (e : α → α → Bool) {l r : List α} {i : Nat} (h : i < l.length) (h2 : i < r.length) : eqL e (l.drop i) (r.drop i) = (e l[i] r[i] && eqL e (l.drop (i + 1)) (r.drop (i + 1))) := by
  rw [List.drop_eq_getElem_cons h, List.drop_eq_getElem_cons h2, eqL]
theorem eqL_refl {α : Type} {e : α → α → Bool} (he : ∀ a, e a a = true) : ∀ l : List α, eqL e l l = true
  | [] => rfl
  | a :: l => by rw [eqL, he, eqL_refl he l]; rfl
theorem eqL_len {α : Type} {e : α → α → Bool} {l r : List α} (h : eqL e l r = true) : l.length = r.length := by
  rcases Nat.decEq l.length r.length with h2 | h2
  · rw [eqL_ne h2] at h; cases h
  · exact h2
def eCC (a b : Coupon) : Bool := eqVs a.enc b.enc
def eHH (a b : Charge) : Bool := eqVs a.enc b.enc
theorem eCC_refl (a : Coupon) : eCC a a = true := by simp [eCC, Coupon.enc, eqVs, eqV]
theorem eHH_refl (a : Charge) : eHH a a = true := by simp [eHH, Charge.enc, eqVs, eqV]
def aCC (x : List Coupon × List Coupon) : List V := [.list (x.1.map Coupon.enc) false, .list (x.2.map Coupon.enc) false]
theorem aCC_inj (a b : List Coupon × List Coupon) (h : aCC a = aCC b) : a = b := by
  obtain ⟨a_a, a_b⟩ := a
  obtain ⟨b_a, b_b⟩ := b
  simp only [aCC, List.cons.injEq, V.str.injEq, V.int.injEq, V.bool.injEq, V.agg.injEq, V.list.injEq, and_true, true_and] at h
  obtain ⟨h0, h1⟩ := h
  replace h0 := map_inj' Coupon.inj h0
  subst h0
  replace h1 := map_inj' Coupon.inj h1
  subst h1
  rfl
def fCC (x : List Coupon × List Coupon) : Prop × V := (x.1.length ≤ 140737488355328 ∧ x.2.length ≤ 140737488355328, .bool (eqL eCC x.1 x.2))
theorem fCC_eq (l r : List Coupon) : gOf aCC fCC [.list (l.map Coupon.enc) false, .list (r.map Coupon.enc) false] = (l.length ≤ 140737488355328 ∧ r.length ≤ 140737488355328, .bool (eqL eCC l r)) := gOf_eq aCC_inj (l, r)
set_option maxHeartbeats 4000000 in
theorem eqCC_p : PureC Tryd.prog UT 33 (gOf aCC fCC) := by
  have hG := tNo_ok
  refine PureC.ofArgs aCC_inj Tryd.func33 body33 nm33 res33 ?_
  rintro ⟨l, r⟩ hv
  refine ⟨by rw [nt33]; simp [aCC], fun C hN Q hQ => ?_⟩
  rw [nt33] at hN
  unfold c33
  obtain ⟨hl, hr⟩ : l.length ≤ 140737488355328 ∧ r.length ≤ 140737488355328 := hv
  refine aw_seq (aw_region (EF := EF0) hG (by rw [hN]; exact tr33_0) ?_)
  simp only [a33_0, go_sem, ↓reduceIte, Nat.reduceEqDiff, reduceCtorEq, Nat.reduceAdd, Nat.reduceLT, Nat.reduceLeDiff, Nat.reduceBNe, Nat.reduceBEq, Int.reduceToNat, aCC]
  refine aw_seq ?_
  refine aw_seq (aw_region (EF := EF0) hG (by rw [hN]; exact tr33_1) ?_)
  simp only [a33_1, go_sem, ↓reduceIte, Nat.reduceEqDiff, reduceCtorEq, Nat.reduceAdd, Nat.reduceLT, Nat.reduceLeDiff, Nat.reduceBNe, Nat.reduceBEq, Int.reduceToNat, List.length_map]
  refine aw_cond (b := _) rfl (fun hb1 => ?_) (fun hb1 => ?_)
  · skip
    have hm : eqL eCC l r = false := eqL_ne (by simp at hb1; omega)
    refine aw_seq (aw_region (EF := EF0) hG (by rw [hN]; exact tr33_2) ?_)
    simp only [a33_2, go_sem, ↓reduceIte, Nat.reduceEqDiff, reduceCtorEq, Nat.reduceAdd, Nat.reduceLT, Nat.reduceLeDiff, Nat.reduceBNe, Nat.reduceBEq, Int.reduceToNat]
    refine aw_ret ?_
    show Q _ _
    refine hQ _ _ (.inl rfl) ?_ ?_ ?_ <;> simp only [outφ, outV, AR.res, go_sem, ↓reduceIte, Nat.reduceEqDiff, reduceCtorEq, Nat.reduceAdd, Nat.reduceLT, Nat.reduceLeDiff, Nat.reduceBNe, Nat.reduceBEq, Int.reduceToNat, fCC, hm]
  · skip
    have hlr : l.length = r.length := by simp at hb1; omega
    refine aw_skip ?_
    try simp only [go_sem, ↓reduceIte, Nat.reduceEqDiff, reduceCtorEq, Nat.reduceAdd, Nat.reduceLT, Nat.reduceLeDiff, Nat.reduceBNe, Nat.reduceBEq, Int.reduceToNat]
    refine aw_seq ?_
    refine aw_seq (aw_region (EF := EF0) hG (by rw [hN]; exact tr33_3) ?_)
    simp only [a33_3, go_sem, ↓reduceIte, Nat.reduceEqDiff, reduceCtorEq, Nat.reduceAdd, Nat.reduceLT, Nat.reduceLeDiff, Nat.reduceBNe, Nat.reduceBEq, Int.reduceToNat, List.length_map]
    refine aw_block ?_
    refine aw_loop (α := Nat) (fun i => (i ≤ l.length) ∧ (eqL eCC l r = eqL eCC (l.drop i) (r.drop i))) (fun i => ⟨mkE [(0, V.list (List.map Coupon.enc l) false), (1, V.list (List.map Coupon.enc r) false), (12, V.int IntKind.i64 ↑l.length), (13, .int .i64 i)], mkH []⟩) (fun i => l.length - i) 0 ⟨Nat.zero_le _, rfl⟩ ?_ ?_
    · refine Le.mk _ _ ?_ ?_ rfl <;> simp only [go_sem, ↓reduceIte, Nat.reduceEqDiff, reduceCtorEq, Nat.reduceAdd, Nat.reduceLT, Nat.reduceLeDiff, Nat.reduceBNe, Nat.reduceBEq, Int.reduceToNat] <;> (repeat' apply And.intro) <;> (try first | rfl | exact wk_frzb rfl rfl rfl | exact wk_fn rfl | exact .nilo _ _ _ rfl rfl | exact wk_frzm rfl rfl (fun kv hk => by obtain ⟨_, _, rfl⟩ := List.mem_map.1 hk; rfl))
    · rintro i ⟨hi, he⟩ KL0 hKL0
      try dsimp only at *
      refine aw_seq (aw_region (EF := EF0) hG (by rw [hN]; exact tr33_4) ?_)
      simp only [a33_4, go_sem, ↓reduceIte, Nat.reduceEqDiff, reduceCtorEq, Nat.reduceAdd, Nat.reduceLT, Nat.reduceLeDiff, Nat.reduceBNe, Nat.reduceBEq, Int.reduceToNat]
      refine aw_seq ?_
      refine aw_cond (b := _) rfl (fun hb4 => ?_) (fun hb4 => ?_)
      · skip
        have hc4 : i < l.length := by simp at hb4; omega
        have hc4r : i < r.length := by omega
        obtain ⟨a, haa⟩ : ∃ a, a = l[i] := ⟨_, rfl⟩
        obtain ⟨b, hbb⟩ : ∃ b, b = r[i] := ⟨_, rfl⟩
        have hst := eqL_drop eCC hc4 hc4r
        rw [← haa, ← hbb] at hst
        refine aw_skip ?_
        try simp only [go_sem, ↓reduceIte, Nat.reduceEqDiff, reduceCtorEq, Nat.reduceAdd, Nat.reduceLT, Nat.reduceLeDiff, Nat.reduceBNe, Nat.reduceBEq, Int.reduceToNat]
        refine aw_seq ?_
        refine aw_block ?_
        refine aw_seq (aw_region (EF := EF0) hG (by rw [hN]; exact tr33_5) ?_)
        simp only [a33_5, go_sem, ↓reduceIte, Nat.reduceEqDiff, reduceCtorEq, Nat.reduceAdd, Nat.reduceLT, Nat.reduceLeDiff, Nat.reduceBNe, Nat.reduceBEq, Int.reduceToNat]
        refine aw_seq (aw_regionD (EF := EF0) hG mixed (by rw [hN]; exact tr33_6) ok33_6 ?_)
        simp only [a33_6, d33_6, go_sem, ↓reduceIte, Nat.reduceEqDiff, reduceCtorEq, Nat.reduceAdd, Nat.reduceLT, Nat.reduceLeDiff, Nat.reduceBNe, Nat.reduceBEq, Int.reduceToNat, getD_mapd _ _ _ _ hc4, ← haa, getD_mapd _ _ _ _ hc4r, ← hbb, Coupon.enc, hc4, hc4r, List.length_map]
        (repeat' apply And.intro) <;> (try first | omega | ((fail_if_success refine idW ?_); (fail_if_success refine idS ?_); intros; (repeat' apply And.intro) <;> first | assumption | omega | (simp_all; done)))
        refine aw_cond (b := _) rfl (fun hb6 => ?_) (fun hb6 => ?_)
        · skip
          have h6 : eCC a b = false := by (cases h : eCC a b with | false => rfl | true => (simp [eCC, Coupon.enc, eqVs, eqV] at h; simp [h] at hb6))
          have hm : eqL eCC l r = false := by rw [he, hst, h6]; rfl
          refine aw_seq (aw_region (EF := EF0) hG (by rw [hN]; exact tr33_7) ?_)
          simp only [a33_7, go_sem, ↓reduceIte, Nat.reduceEqDiff, reduceCtorEq, Nat.reduceAdd, Nat.reduceLT, Nat.reduceLeDiff, Nat.reduceBNe, Nat.reduceBEq, Int.reduceToNat]
          refine aw_ret ?_
          show Q _ _
          refine hQ _ _ (.inl rfl) ?_ ?_ ?_ <;> simp only [outφ, outV, AR.res, go_sem, ↓reduceIte, Nat.reduceEqDiff, reduceCtorEq, Nat.reduceAdd, Nat.reduceLT, Nat.reduceLeDiff, Nat.reduceBNe, Nat.reduceBEq, Int.reduceToNat, fCC, hm]
        · skip
          have h6 : eCC a b = true := by simpa [eCC, Coupon.enc, eqVs, eqV] using hb6
          refine aw_skip ?_
          try simp only [go_sem, ↓reduceIte, Nat.reduceEqDiff, reduceCtorEq, Nat.reduceAdd, Nat.reduceLT, Nat.reduceLeDiff, Nat.reduceBNe, Nat.reduceBEq, Int.reduceToNat]
          refine aw_region (EF := EF0) hG (by rw [hN]; exact tr33_8) ?_
          simp only [a33_8, go_sem, ↓reduceIte, Nat.reduceEqDiff, reduceCtorEq, Nat.reduceAdd, Nat.reduceLT, Nat.reduceLeDiff, Nat.reduceBNe, Nat.reduceBEq, Int.reduceToNat, inI]
          (repeat' apply And.intro) <;> (try first | omega | ((fail_if_success refine idW ?_); (fail_if_success refine idS ?_); intros; (repeat' apply And.intro) <;> first | assumption | omega | (simp_all; done)))
          refine hKL0 (i + 1) _ ?_ ?_ ?_
          · (try dsimp only); exact ⟨hc4, by rw [he, hst, h6, Bool.true_and]⟩
          · (try dsimp only); omega
          · refine Le.mk _ _ ?_ ?_ rfl <;> simp only [go_sem, ↓reduceIte, Nat.reduceEqDiff, reduceCtorEq, Nat.reduceAdd, Nat.reduceLT, Nat.reduceLeDiff, Nat.reduceBNe, Nat.reduceBEq, Int.reduceToNat] <;> (repeat' apply And.intro) <;> (try first | rfl | exact wk_frzb rfl rfl rfl | exact wk_fn rfl | exact .nilo _ _ _ rfl rfl | exact wk_frzm rfl rfl (fun kv hk => by obtain ⟨_, _, rfl⟩ := List.mem_map.1 hk; rfl))
      · skip
        obtain rfl : i = l.length := by simp at hb4; omega
        have hm : eqL eCC l r = true := by rw [he, List.drop_length, List.drop_of_length_le (by omega)]; rfl
        refine aw_exit ?_
        simp only [go_sem, ↓reduceIte, Nat.reduceEqDiff, reduceCtorEq, Nat.reduceAdd, Nat.reduceLT, Nat.reduceLeDiff, Nat.reduceBNe, Nat.reduceBEq, Int.reduceToNat]
        refine aw_seq (aw_region (EF := EF0) hG (by rw [hN]; exact tr33_9) ?_)
        simp only [a33_9, go_sem, ↓reduceIte, Nat.reduceEqDiff, reduceCtorEq, Nat.reduceAdd, Nat.reduceLT, Nat.reduceLeDiff, Nat.reduceBNe, Nat.reduceBEq, Int.reduceToNat]
        refine aw_ret ?_
        show Q _ _
        refine hQ _ _ (.inl rfl) ?_ ?_ ?_ <;> simp only [outφ, outV, AR.res, go_sem, ↓reduceIte, Nat.reduceEqDiff, reduceCtorEq, Nat.reduceAdd, Nat.reduceLT, Nat.reduceLeDiff, Nat.reduceBNe, Nat.reduceBEq, Int.reduceToNat, fCC, hm]
def aHH (x : List Charge × List Charge) : List V := [.list (x.1.map Charge.enc) false, .list (x.2.map Charge.enc) false]
theorem aHH_inj (a b : List Charge × List Charge) (h : aHH a = aHH b) : a = b := by
  obtain ⟨a_a, a_b⟩ := a
  obtain ⟨b_a, b_b⟩ := b
  simp only [aHH, List.cons.injEq, V.str.injEq, V.int.injEq, V.bool.injEq, V.agg.injEq, V.list.injEq, and_true, true_and] at h
  obtain ⟨h0, h1⟩ := h
  replace h0 := map_inj' Charge.inj h0
  subst h0
  replace h1 := map_inj' Charge.inj h1
  subst h1
  rfl
def fHH (x : List Charge × List Charge) : Prop × V := (x.1.length ≤ 140737488355328 ∧ x.2.length ≤ 140737488355328, .bool (eqL eHH x.1 x.2))
theorem fHH_eq (l r : List Charge) : gOf aHH fHH [.list (l.map Charge.enc) false, .list (r.map Charge.enc) false] = (l.length ≤ 140737488355328 ∧ r.length ≤ 140737488355328, .bool (eqL eHH l r)) := gOf_eq aHH_inj (l, r)
set_option maxHeartbeats 4000000 in
theorem eqHH_p : PureC Tryd.prog UT 34 (gOf aHH fHH) := by
  have hG := tNo_ok
  refine PureC.ofArgs aHH_inj Tryd.func34 body34 nm34 res34 ?_
  rintro ⟨l, r⟩ hv
  refine ⟨by rw [nt34]; simp [aHH], fun C hN Q hQ => ?_⟩
  rw [nt34] at hN
  unfold c34
  obtain ⟨hl, hr⟩ : l.length ≤ 140737488355328 ∧ r.length ≤ 140737488355328 := hv
  refine aw_seq (aw_region (EF := EF0) hG (by rw [hN]; exact tr34_0) ?_)
  simp only [a34_0, go_sem, ↓reduceIte, Nat.reduceEqDiff, reduceCtorEq, Nat.reduceAdd, Nat.reduceLT, Nat.reduceLeDiff, Nat.reduceBNe, Nat.reduceBEq, Int.reduceToNat, aHH]
  refine aw_seq ?_
  refine aw_seq (aw_region (EF := EF0) hG (by rw [hN]; exact tr34_1) ?_)
  simp only [a34_1, go_sem, ↓reduceIte, Nat.reduceEqDiff, reduceCtorEq, Nat.reduceAdd, Nat.reduceLT, Nat.reduceLeDiff, Nat.reduceBNe, Nat.reduceBEq, Int.reduceToNat, List.length_map]
  refine aw_cond (b := _) rfl (fun hb1 => ?_) (fun hb1 => ?_)
  · skip
    have hm : eqL eHH l r = false := eqL_ne (by simp at hb1; omega)
    refine aw_seq (aw_region (EF := EF0) hG (by rw [hN]; exact tr34_2) ?_)
    simp only [a34_2, go_sem, ↓reduceIte, Nat.reduceEqDiff, reduceCtorEq, Nat.reduceAdd, Nat.reduceLT, Nat.reduceLeDiff, Nat.reduceBNe, Nat.reduceBEq, Int.reduceToNat]
    refine aw_ret ?_
    show Q _ _
    refine hQ _ _ (.inl rfl) ?_ ?_ ?_ <;> simp only [outφ, outV, AR.res, go_sem, ↓reduceIte, Nat.reduceEqDiff, reduceCtorEq, Nat.reduceAdd, Nat.reduceLT, Nat.reduceLeDiff, Nat.reduceBNe, Nat.reduceBEq, Int.reduceToNat, fHH, hm]
  · skip
    have hlr : l.length = r.length := by simp at hb1; omega
    refine aw_skip ?_
    try simp only [go_sem, ↓reduceIte, Nat.reduceEqDiff, reduceCtorEq, Nat.reduceAdd, Nat.reduceLT, Nat.reduceLeDiff, Nat.reduceBNe, Nat.reduceBEq, Int.reduceToNat]
    refine aw_seq ?_
    refine aw_seq (aw_region (EF := EF0) hG (by rw [hN]; exact tr34_3) ?_)
    simp only [a34_3, go_sem, ↓reduceIte, Nat.reduceEqDiff, reduceCtorEq, Nat.reduceAdd, Nat.reduceLT, Nat.reduceLeDiff, Nat.reduceBNe, Nat.reduceBEq, Int.reduceToNat, List.length_map]
    refine aw_block ?_
    refine aw_loop (α := Nat) (fun i => (i ≤ l.length) ∧ (eqL eHH l r = eqL eHH (l.drop i) (r.drop i))) (fun i => ⟨mkE [(0, V.list (List.map Charge.enc l) false), (1, V.list (List.map Charge.enc r) false), (12, V.int IntKind.i64 ↑l.length), (13, .int .i64 i)], mkH []⟩) (fun i => l.length - i) 0 ⟨Nat.zero_le _, rfl⟩ ?_ ?_
    · refine Le.mk _ _ ?_ ?_ rfl <;> simp only [go_sem, ↓reduceIte, Nat.reduceEqDiff, reduceCtorEq, Nat.reduceAdd, Nat.reduceLT, Nat.reduceLeDiff, Nat.reduceBNe, Nat.reduceBEq, Int.reduceToNat] <;> (repeat' apply And.intro) <;> (try first | rfl | exact wk_frzb rfl rfl rfl | exact wk_fn rfl | exact .nilo _ _ _ rfl rfl | exact wk_frzm rfl rfl (fun kv hk => by obtain ⟨_, _, rfl⟩ := List.mem_map.1 hk; rfl))
    · rintro i ⟨hi, he⟩ KL0 hKL0
      try dsimp only at *
      refine aw_seq (aw_region (EF := EF0) hG (by rw [hN]; exact tr34_4) ?_)
      simp only [a34_4, go_sem, ↓reduceIte, Nat.reduceEqDiff, reduceCtorEq, Nat.reduceAdd, Nat.reduceLT, Nat.reduceLeDiff, Nat.reduceBNe, Nat.reduceBEq, Int.reduceToNat]
      refine aw_seq ?_
      refine aw_cond (b := _) rfl (fun hb4 => ?_) (fun hb4 => ?_)
      · skip
        have hc4 : i < l.length := by simp at hb4; omega
        have hc4r : i < r.length := by omega
        obtain ⟨a, haa⟩ : ∃ a, a = l[i] := ⟨_, rfl⟩
        obtain ⟨b, hbb⟩ : ∃ b, b = r[i] := ⟨_, rfl⟩
        have hst := eqL_drop eHH hc4 hc4r
        rw [← haa, ← hbb] at hst
        refine aw_skip ?_
        try simp only [go_sem, ↓reduceIte, Nat.reduceEqDiff, reduceCtorEq, Nat.reduceAdd, Nat.reduceLT, Nat.reduceLeDiff, Nat.reduceBNe, Nat.reduceBEq, Int.reduceToNat]
        refine aw_seq ?_
        refine aw_block ?_
        refine aw_seq (aw_region (EF := EF0) hG (by rw [hN]; exact tr34_5) ?_)
        simp only [a34_5, go_sem, ↓reduceIte, Nat.reduceEqDiff, reduceCtorEq, Nat.reduceAdd, Nat.reduceLT, Nat.reduceLeDiff, Nat.reduceBNe, Nat.reduceBEq, Int.reduceToNat]
        refine aw_seq (aw_regionD (EF := EF0) hG mixed (by rw [hN]; exact tr34_6) ok34_6 ?_)
        simp only [a34_6, d34_6, go_sem, ↓reduceIte, Nat.reduceEqDiff, reduceCtorEq, Nat.reduceAdd, Nat.reduceLT, Nat.reduceLeDiff, Nat.reduceBNe, Nat.reduceBEq, Int.reduceToNat, getD_mapd _ _ _ _ hc4, ← haa, getD_mapd _ _ _ _ hc4r, ← hbb, Charge.enc, hc4, hc4r, List.length_map]
        (repeat' apply And.intro) <;> (try first | omega | ((fail_if_success refine idW ?_); (fail_if_success refine idS ?_); intros; (repeat' apply And.intro) <;> first | assumption | omega | (simp_all; done)))
        refine aw_cond (b := _) rfl (fun hb6 => ?_) (fun hb6 => ?_)
        · skip
          have h6 : eHH a b = false := by (cases h : eHH a b with | false => rfl | true => (simp [eHH, Charge.enc, eqVs, eqV] at h; simp [h] at hb6))
          have hm : eqL eHH l r = false := by rw [he, hst, h6]; rfl
          refine aw_seq (aw_region (EF := EF0) hG (by rw [hN]; exact tr34_7) ?_)
          simp only [a34_7, go_sem, ↓reduceIte, Nat.reduceEqDiff, reduceCtorEq, Nat.reduceAdd, Nat.reduceLT, Nat.reduceLeDiff, Nat.reduceBNe, Nat.reduceBEq, Int.reduceToNat]
          refine aw_ret ?_
          show Q _ _
          refine hQ _ _ (.inl rfl) ?_ ?_ ?_ <;> simp only [outφ, outV, AR.res, go_sem, ↓reduceIte, Nat.reduceEqDiff, reduceCtorEq, Nat.reduceAdd, Nat.reduceLT, Nat.reduceLeDiff, Nat.reduceBNe, Nat.reduceBEq, Int.reduceToNat, fHH, hm]
        · skip
          have h6 : eHH a b = true := by simpa [eHH, Charge.enc, eqVs, eqV] using hb6
          refine aw_skip ?_
          try simp only [go_sem, ↓reduceIte, Nat.reduceEqDiff, reduceCtorEq, Nat.reduceAdd, Nat.reduceLT, Nat.reduceLeDiff, Nat.reduceBNe, Nat.reduceBEq, Int.reduceToNat]
          refine aw_region (EF := EF0) hG (by rw [hN]; exact tr34_8) ?_
          simp only [a34_8, go_sem, ↓reduceIte, Nat.reduceEqDiff, reduceCtorEq, Nat.reduceAdd, Nat.reduceLT, Nat.reduceLeDiff, Nat.reduceBNe, Nat.reduceBEq, Int.reduceToNat, inI]
          (repeat' apply And.intro) <;> (try first | omega | ((fail_if_success refine idW ?_); (fail_if_success refine idS ?_); intros; (repeat' apply And.intro) <;> first | assumption | omega | (simp_all; done)))
          refine hKL0 (i + 1) _ ?_ ?_ ?_
          · (try dsimp only); exact ⟨hc4, by rw [he, hst, h6, Bool.true_and]⟩
          · (try dsimp only); omega
          · refine Le.mk _ _ ?_ ?_ rfl <;> simp only [go_sem, ↓reduceIte, Nat.reduceEqDiff, reduceCtorEq, Nat.reduceAdd, Nat.reduceLT, Nat.reduceLeDiff, Nat.reduceBNe, Nat.reduceBEq, Int.reduceToNat] <;> (repeat' apply And.intro) <;> (try first | rfl | exact wk_frzb rfl rfl rfl | exact wk_fn rfl | exact .nilo _ _ _ rfl rfl | exact wk_frzm rfl rfl (fun kv hk => by obtain ⟨_, _, rfl⟩ := List.mem_map.1 hk; rfl))
      · skip
        obtain rfl : i = l.length := by simp at hb4; omega
        have hm : eqL eHH l r = true := by rw [he, List.drop_length, List.drop_of_length_le (by omega)]; rfl
        refine aw_exit ?_
        simp only [go_sem, ↓reduceIte, Nat.reduceEqDiff, reduceCtorEq, Nat.reduceAdd, Nat.reduceLT, Nat.reduceLeDiff, Nat.reduceBNe, Nat.reduceBEq, Int.reduceToNat]
        refine aw_seq (aw_region (EF := EF0) hG (by rw [hN]; exact tr34_9) ?_)
        simp only [a34_9, go_sem, ↓reduceIte, Nat.reduceEqDiff, reduceCtorEq, Nat.reduceAdd, Nat.reduceLT, Nat.reduceLeDiff, Nat.reduceBNe, Nat.reduceBEq, Int.reduceToNat]
        refine aw_ret ?_
        show Q _ _
        refine hQ _ _ (.inl rfl) ?_ ?_ ?_ <;> simp only [outφ, outV, AR.res, go_sem, ↓reduceIte, Nat.reduceEqDiff, reduceCtorEq, Nat.reduceAdd, Nat.reduceLT, Nat.reduceLeDiff, Nat.reduceBNe, Nat.reduceBEq, Int.reduceToNat, fHH, hm]
end Go.Proofs.YtffapkiilkeadaaDoor
