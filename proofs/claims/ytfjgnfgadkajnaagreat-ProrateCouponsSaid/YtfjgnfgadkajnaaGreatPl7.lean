/- reach and relax: they write what they are handed. -/
import Derived.Test.YtfjgnfgadkajnaaGreatPl4
namespace Go.Proofs.YtfjgnfgadkajnaaGreat
open Go Go.RowKit
set_option linter.unusedSimpArgs false
set_option linter.unusedVariables false
set_option linter.deprecated false
theorem aput_at : ∀ {L : Assoc Int} {c : List UInt8} {i : Nat} (hi : i < L.length) (v : Int), (∀ p ∈ L.take i, decide (p.1 = c) = false) → L[i].1 = c → aput L c v = L.set i (c, v)
  | (k, w) :: L, c, 0, _, v, _, h => by
    simp only [List.getElem_cons_zero] at h
    rw [aput, if_pos h]; rfl
  | (k, w) :: L, c, i + 1, hi, v, hp, h => by
    have h1 := hp (k, w) (by simp)
    rw [aput, if_neg (of_decide_eq_false h1), List.set_cons_succ]
    rw [aput_at (L := L) (i := i) (by simpa using hi) v (fun p hq => hp p (by rw [List.take_succ_cons]; exact List.mem_cons_of_mem _ hq)) (by simpa using h)]
theorem aput_no : ∀ {L : Assoc Int} {c : List UInt8} (v : Int), (∀ p ∈ L, decide (p.1 = c) = false) → aput L c v = L ++ [(c, v)]
  | [], _, _, _ => rfl
  | (k, w) :: L, c, v, hp => by
    rw [aput, if_neg (of_decide_eq_false (hp (k, w) (List.mem_cons_self ..))), aput_no v fun p hq => hp p (List.mem_cons_of_mem _ hq)]; rfl
def reachR (L : Assoc Int) (c : List UInt8) (m : Int) : Assoc Int × Bool := match aget L c with
  | some v => if v ≤ m then (L, false) else (aput L c m, true)
  | none => (aput L c m, true)
theorem reach_some {L : Assoc Int} {c : List UInt8} {m v : Int} (h : aget L c = some v) : reachR L c m = if v ≤ m then (L, false) else (aput L c m, true) := by unfold reachR; rw [h]
theorem reach_none {L : Assoc Int} {c : List UInt8} {m : Int} (h : aget L c = none) : reachR L c m = (aput L c m, true) := by unfold reachR; rw [h]
def spO (n : Nat) (L : Assoc Int) : List (Nat × Ob) := [(n, .arr 100 2 (spots L))]
set_option maxHeartbeats 2000000 in
theorem reach_e (L : Assoc Int) (c : List UInt8) (m : Int) (hL : L.length ≤ 1000000) : Eff Tryz.prog UT 41 [.own 1000 L.length, .str c, .int .i64 m] (spO 1000 L) (.tup [.own 1000 (reachR L c m).1.length, .bool (reachR L c m).2]) (spO 1000 (reachR L c m).1) := by
  have hG := tNo_ok
  generalize hR : reachR L c m = R
  refine Eff.of_aw Tryz.func41 body41 nm41 res41 (by rw [nt41]; simp) fun C hN Q hQ => ?_
  rw [nt41] at hN
  unfold c41
  refine aw_seq (aw_region (EF := EF0) hG (by rw [hN]; exact tr41_0) ?_)
  simp only [a41_0, go_sem, simprocAttr, spO]
  refine aw_seq ?_
  refine aw_seq (aw_region (EF := EF0) hG (by rw [hN]; exact tr41_1) ?_)
  simp only [a41_1, go_sem, simprocAttr, spO]
  refine aw_block ?_
  refine aw_loop (α := Nat) (fun i => (i ≤ L.length) ∧ (∀ p ∈ L.take i, decide (p.1 = c) = false)) (fun i => ⟨mkE [(0, V.own 1000 (List.length L)), (1, V.str c), (2, V.int IntKind.i64 m), (8, .int .i64 i)], mkH [(1000, Ob.arr 100 2 (spots L))]⟩) (fun i => L.length - i) 0 (by simp) ?_ ?_
  · refine Le.mk _ _ ?_ ?_ rfl <;> simp only [go_sem, simprocAttr] <;> (repeat' apply And.intro) <;> (try first | rfl | exact wk_frzb rfl rfl rfl | exact wk_fn rfl | exact .nilo _ _ _ rfl rfl)
  · rintro i ⟨hi, hp⟩ KL0 hKL0
    try dsimp only at *
    refine aw_seq ?_
    refine aw_seq (aw_region (EF := EF0) hG (by rw [hN]; exact tr41_2) ?_)
    simp only [a41_2, go_sem, simprocAttr, spO]
    refine aw_cond (b := _) rfl (fun hc2 => ?_) (fun hc2 => ?_)
    · simp only [hcL] at hc2
      refine aw_skip ?_
      try simp only [go_sem, simprocAttr]
      refine aw_seq ?_
      refine aw_block ?_
      refine aw_seq (aw_region (EF := EF0) hG (by rw [hN]; exact tr41_4) ?_)
      simp only [a41_4, go_sem, simprocAttr, spots_getD _ _ _ hc2, hc2, spO]
      (repeat' apply And.intro) <;> (try first | omega | ((fail_if_success refine idW ?_); (fail_if_success refine idS ?_); intros; (repeat' apply And.intro) <;> first | assumption | omega | (simp_all; done)))
      refine aw_cond (b := _) rfl (fun hb => ?_) (fun hb => ?_)
      · skip
        refine aw_seq ?_
        have hag := aget_at hc2 hp (of_decide_eq_true hb)
        refine aw_seq (aw_region (EF := EF0) hG (by rw [hN]; exact tr41_5) ?_)
        simp only [a41_5, go_sem, simprocAttr, spots_getD _ _ _ hc2, hc2, spO]
        (repeat' apply And.intro) <;> (try first | omega | ((fail_if_success refine idW ?_); (fail_if_success refine idS ?_); intros; (repeat' apply And.intro) <;> first | assumption | omega | (simp_all; done)))
        refine aw_cond (b := _) rfl (fun hb5 => ?_) (fun hb5 => ?_)
        · simp only [hcL] at hb5
          refine aw_seq (aw_region (EF := EF0) hG (by rw [hN]; exact tr41_6) ?_)
          simp only [a41_6, go_sem, simprocAttr, spO]
          have hfin : R = (L, false) := by rw [← hR, reach_some hag, if_pos hb5]
          subst hfin
          refine aw_ret ?_
          show Q _ _
          refine hQ _ _ ⟨mkE [(6, .own 1000 L.length), (7, .bool false)], mkH (spO 1000 L)⟩ (.inl rfl) (Le.mk _ _ ?_ ?_ rfl) rfl ?_ ?_ <;> simp only [outφ, outV, AR.res, go_sem, simprocAttr, spO]
        · simp only [hcL] at hb5
          refine aw_skip ?_
          try simp only [go_sem, simprocAttr]
          have hec : L[i].1 = c := of_decide_eq_true hb
          refine aw_seq (aw_region (EF := EF0) hG (by rw [hN]; exact tr41_7) ?_)
          simp only [a41_7, go_sem, simprocAttr, spots_getD _ _ _ hc2, hc2, hec, spots_set, spO]
          (repeat' apply And.intro) <;> (try first | omega | ((fail_if_success refine idW ?_); (fail_if_success refine idS ?_); intros; (repeat' apply And.intro) <;> first | assumption | omega | (simp_all; done)))
          refine aw_seq (aw_region (EF := EF0) hG (by rw [hN]; exact tr41_8) ?_)
          simp only [a41_8, go_sem, simprocAttr, spO]
          have hfin : R = (L.set i (c, m), true) := by rw [← hR, reach_some hag, if_neg (by omega), aput_at hc2 m hp hec]
          subst hfin
          refine aw_ret ?_
          show Q _ _
          refine hQ _ _ ⟨mkE [(6, .own 1000 (L.set i (c, m)).length), (7, .bool true)], mkH (spO 1000 (L.set i (c, m)))⟩ (.inl rfl) (Le.mk _ _ ?_ ?_ rfl) rfl ?_ ?_ <;> simp only [outφ, outV, AR.res, go_sem, simprocAttr, spO, List.length_set]
      · skip
        refine aw_skip ?_
        try simp only [go_sem, simprocAttr]
        refine aw_region (EF := EF0) hG (by rw [hN]; exact tr41_3) ?_
        simp only [a41_3, go_sem, simprocAttr, inI, spO]
        (repeat' apply And.intro) <;> (try first | omega | ((fail_if_success refine idW ?_); (fail_if_success refine idS ?_); intros; (repeat' apply And.intro) <;> first | assumption | omega | (simp_all; done)))
        refine hKL0 (i + 1) _ ?_ ?_ ?_
        · (try dsimp only); exact ⟨hc2, take_all hc2 hp hb⟩
        · (try dsimp only); omega
        · refine Le.mk _ _ ?_ ?_ rfl <;> simp only [go_sem, simprocAttr] <;> (repeat' apply And.intro) <;> (try first | rfl | exact wk_frzb rfl rfl rfl | exact wk_fn rfl | exact .nilo _ _ _ rfl rfl)
    · simp only [hcL] at hc2
      refine aw_exit ?_
      simp only [go_sem, simprocAttr]
      refine aw_seq (aw_region (EF := EF0) hG (by rw [hN]; exact tr41_9) ?_)
      simp only [a41_9, go_sem, simprocAttr, spots_snoc, spO]
      (repeat' apply And.intro) <;> (try first | omega | ((fail_if_success refine idW ?_); (fail_if_success refine idS ?_); intros; (repeat' apply And.intro) <;> first | assumption | omega | (simp_all; done)))
      have hfin : R = (L ++ [(c, m)], true) := by rw [← hR, reach_none (aget_no hc2 hp), aput_no m (none_at hc2 hp)]
      subst hfin
      refine aw_ret ?_
      show Q _ _
      refine hQ _ _ ⟨mkE [(6, .own 1000 (L ++ [(c, m)]).length), (7, .bool true)], mkH (spO 1000 (L ++ [(c, m)]))⟩ (.inl rfl) (Le.mk _ _ ?_ ?_ rfl) rfl ?_ ?_ <;> simp only [outφ, outV, AR.res, go_sem, simprocAttr, spO, List.length_append, List.length_cons, List.length_nil]
end Go.Proofs.YtfjgnfgadkajnaaGreat
/- relax, the program's closure. -/
namespace Go.Proofs.YtfjgnfgadkajnaaGreat
open Go Go.RowKit
set_option linter.unusedSimpArgs false
set_option linter.unusedVariables false
set_option linter.deprecated false
def relaxR (L : Assoc Int) (x y : List UInt8) (n : Int) : Assoc Int × Bool := match aget L x with
  | none => (L, false)
  | some m => match aget L y with
    | some old => if old ≤ m + n then (L, false) else (aput L y (m + n), true)
    | none => (aput L y (m + n), true)
def stopB (L : Assoc Int) (x y : List UInt8) (n : Int) : Bool := !(aget L x).isSome || ((aget L y).isSome && decide ((aget L y).getD 0 ≤ (aget L x).getD 0 + n))
theorem relax_no {L : Assoc Int} {x y : List UInt8} {n : Int} (h : stopB L x y n = true) : relaxR L x y n = (L, false) := by
  unfold stopB at h; unfold relaxR
  cases hx : aget L x with
  | none => rfl
  | some m =>
    cases hy : aget L y with
    | none => rw [hx, hy] at h; cases h
    | some old =>
      rw [hx, hy] at h
      have : old ≤ m + n := by simpa using h
      dsimp only
      rw [if_pos this]
theorem relax_yes {L : Assoc Int} {x y : List UInt8} {n : Int} (h : stopB L x y n = false) : relaxR L x y n = (aput L y ((aget L x).getD 0 + n), true) := by
  unfold stopB at h; unfold relaxR
  cases hx : aget L x with
  | none => rw [hx] at h; cases h
  | some m =>
    cases hy : aget L y with
    | none => rfl
    | some old =>
      rw [hx, hy] at h
      have : ¬ old ≤ m + n := by simpa using h
      dsimp only
      rw [if_neg this]; rfl
def mpO (nb nm : Nat) (L : Assoc Int) : List (Nat × Ob) := [(nb, .box 95 [.map nm]), (nm, .mp (kmap fI8 L))]
theorem aget_mem {L : Assoc Int} {k : List UInt8} {v : Int} (h : aget L k = some v) : (k, v) ∈ L := by
  unfold aget at h
  obtain ⟨p, hp, rfl⟩ := Option.map_eq_some_iff.1 h
  have h1 := List.mem_of_find?_eq_some hp
  have h2 : p.1 = k := by simpa using List.find?_some hp
  rw [← h2]; exact h1
theorem aget_bd {L : Assoc Int} (h : ∀ p ∈ L, 0 ≤ p.2 ∧ p.2 ≤ 1000000000) (k : List UInt8) : 0 ≤ (aget L k).getD 0 ∧ (aget L k).getD 0 ≤ 1000000000 := by
  cases e : aget L k with
  | none => simp
  | some v => exact h _ (aget_mem e)
set_option maxHeartbeats 2000000 in
theorem relax_e (L : Assoc Int) (x y : List UInt8) (n : Int) (hL : ∀ p ∈ L, 0 ≤ p.2 ∧ p.2 ≤ 1000000000) (hn : 0 ≤ n ∧ n ≤ 1000000) : Eff Tryz.prog UT 36 [.str x, .str y, .int .i64 n, .ptr 1000 0] (mpO 1000 1001 L) (.bool (relaxR L x y n).2) (mpO 1000 1001 (relaxR L x y n).1) := by
  have hG := tNo_ok
  generalize hR : relaxR L x y n = R
  have hx := aget_bd hL x
  have hy := aget_bd hL y
  refine Eff.of_aw Tryz.func36 body36 nm36 res36 (by rw [nt36]; simp) fun C hN Q hQ => ?_
  rw [nt36] at hN
  unfold c36
  refine aw_seq (aw_region (EF := EF0) hG (by rw [hN]; exact tr36_0) ?_)
  simp only [a36_0, go_sem, simprocAttr, mpO]
  refine aw_seq (aw_region (EF := EF0) hG (by rw [hN]; exact tr36_1) ?_)
  simp only [a36_1, go_sem, simprocAttr, mpO]
  (repeat' apply And.intro) <;> (try first | omega | ((fail_if_success refine idW ?_); (fail_if_success refine idS ?_); intros; (repeat' apply And.intro) <;> first | assumption | omega | (simp_all; done)))
  refine aw_seq (aw_region (EF := EF0) hG (by rw [hN]; exact tr36_2) ?_)
  simp only [a36_2, go_sem, simprocAttr, mpO]
  (repeat' apply And.intro) <;> (try first | omega | ((fail_if_success refine idW ?_); (fail_if_success refine idS ?_); intros; (repeat' apply And.intro) <;> first | assumption | omega | (simp_all; done)))
  refine aw_seq ?_
  refine aw_seq (aw_region (EF := EF0) hG (by rw [hN]; exact tr36_3) ?_)
  simp only [a36_3, go_sem, simprocAttr, inI, mpO]
  (repeat' apply And.intro) <;> (try first | omega | ((fail_if_success refine idW ?_); (fail_if_success refine idS ?_); intros; (repeat' apply And.intro) <;> first | assumption | omega | (simp_all; done)))
  refine aw_cond (b := _) rfl (fun hb => ?_) (fun hb => ?_)
  · skip
    refine aw_seq (aw_region (EF := EF0) hG (by rw [hN]; exact tr36_4) ?_)
    simp only [a36_4, go_sem, simprocAttr, mpO]
    have hfin : R = (L, false) := by rw [← hR]; exact relax_no hb
    subst hfin
    refine aw_ret ?_
    show Q _ _
    refine hQ _ _ ⟨mkE [(7, .bool false)], mkH (mpO 1000 1001 L)⟩ (.inl rfl) (Le.mk _ _ ?_ ?_ rfl) rfl ?_ ?_ <;> simp only [outφ, outV, AR.res, go_sem, simprocAttr, mpO]
  · skip
    refine aw_skip ?_
    try simp only [go_sem, simprocAttr]
    refine aw_seq (aw_region (EF := EF0) hG (by rw [hN]; exact tr36_5) ?_)
    simp only [a36_5, go_sem, simprocAttr, inI, mpO]
    (repeat' apply And.intro) <;> (try first | omega | ((fail_if_success refine idW ?_); (fail_if_success refine idS ?_); intros; (repeat' apply And.intro) <;> first | assumption | omega | (simp_all; done)))
    refine aw_seq (aw_region (EF := EF0) hG (by rw [hN]; exact tr36_6) ?_)
    simp only [a36_6, go_sem, simprocAttr, mpO]
    have hfin : R = (aput L y ((aget L x).getD 0 + n), true) := by rw [← hR]; exact relax_yes hb
    subst hfin
    refine aw_ret ?_
    show Q _ _
    refine hQ _ _ ⟨mkE [(7, .bool true)], mkH (mpO 1000 1001 (aput L y ((aget L x).getD 0 + n)))⟩ (.inl rfl) (Le.mk _ _ ?_ ?_ rfl) rfl ?_ ?_ <;> simp only [outφ, outV, AR.res, go_sem, simprocAttr, mpO]
end Go.Proofs.YtfjgnfgadkajnaaGreat
/- One distance, as the program and as the reference use it. -/
namespace Go.Proofs.YtfjgnfgadkajnaaGreat
open Go Go.RowKit
set_option linter.unusedSimpArgs false
set_option linter.unusedVariables false
set_option linter.deprecated false
def stepP (L : Assoc Int) (f t : List UInt8) (n : Int) : Assoc Int × Bool := ((relaxR (relaxR L f t n).1 t f n).1, (relaxR L f t n).2 || (relaxR (relaxR L f t n).1 t f n).2)
def firstR (L : Assoc Int) (f t : List UInt8) (n : Int) : Assoc Int × Bool := if 0 ≤ (aget L f).getD (-1) then reachR L t ((aget L f).getD (-1) + n) else (L, false)
def stepR (L : Assoc Int) (f t : List UInt8) (n : Int) : Assoc Int × Bool :=
  let r := firstR L f t n
  let q := if 0 ≤ (aget L t).getD (-1) then reachR r.1 f ((aget L t).getD (-1) + n) else (r.1, false)
  (q.1, r.2 || q.2)
theorem first_eq {L : Assoc Int} (hL : ∀ p ∈ L, 0 ≤ p.2) (f t : List UInt8) (n : Int) : firstR L f t n = relaxR L f t n := by
  unfold firstR relaxR reachR
  cases hf : aget L f with
  | none => rfl
  | some m =>
    have hm : 0 ≤ m := hL _ (aget_mem hf)
    simp only [Option.getD_some]
    rw [if_pos hm]
    try (cases aget L t <;> rfl)
theorem step_eq {L : Assoc Int} (hL : ∀ p ∈ L, 0 ≤ p.2) (f t : List UInt8) {n : Int} (hn : 0 ≤ n) : stepR L f t n = stepP L f t n := by
  unfold stepR stepP
  rw [first_eq hL]
  dsimp only
  cases h1 : stopB L f t n with
  | true =>
    rw [relax_no h1]
    have := first_eq hL t f n
    unfold firstR at this
    dsimp only
    rw [this]
  | false =>
    rw [relax_yes h1]
    dsimp only
    have hx : ∃ m, aget L f = some m := by
      unfold stopB at h1
      cases e : aget L f with
      | none => rw [e] at h1; cases h1
      | some m => exact ⟨m, rfl⟩
    obtain ⟨m, hm⟩ := hx
    have hm0 : 0 ≤ m := hL _ (aget_mem hm)
    rw [hm, Option.getD_some]
    have hlt : ∀ o, aget L t = some o → m + n < o := fun o ho => by
      unfold stopB at h1
      rw [hm, ho] at h1
      simp at h1
      omega
    have hne : t ≠ f := fun e => by
      subst e
      have := hlt m hm
      omega
    have g1 : aget (aput L t (m + n)) t = some (m + n) := by rw [aget_put, if_pos rfl]
    have g2 : aget (aput L t (m + n)) f = some m := by rw [aget_put, if_neg hne, hm]
    have e2 : relaxR (aput L t (m + n)) t f n = (aput L t (m + n), false) := relax_no (by
      unfold stopB; rw [g1, g2]; simp; omega)
    rw [e2]
    cases ht : aget L t with
    | none => rfl
    | some o =>
      have ho := hlt o ht
      rw [Option.getD_some, if_pos (by omega), reach_some g2, if_pos (by omega)]
end Go.Proofs.YtfjgnfgadkajnaaGreat
