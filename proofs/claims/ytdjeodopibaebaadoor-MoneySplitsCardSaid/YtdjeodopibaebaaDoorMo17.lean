/- The laws of shares and of near amounts. -/
import Derived.Test.YtdjeodopibaebaaDoorMo16
namespace Go.Proofs.YtdjeodopibaebaaDoor
open Go Go.RowKit
set_option linter.unusedSimpArgs false
set_option linter.unusedVariables false
set_option linter.deprecated false
theorem neg_sum (L : List Int) : (L.map fun x => -x).sum = -L.sum := by
  induction L with
  | nil => rfl
  | cons x xs ih => rw [List.map_cons, List.sum_cons, List.sum_cons, ih]; omega
theorem ShF.at_bd {a : Int} {l L : List Int} (h : ShF a l L) : ∀ x ∈ L, -1099511627776 ≤ x ∧ x ≤ 1099511627776 := by
  have hb := h.bd
  intro x hx
  obtain ⟨i, hi, rfl⟩ := List.mem_iff_getElem.1 hx
  rcases Int.le_total 0 a with c | c
  · have hn : ∀ w ∈ L, 0 ≤ w := fun w hw => by obtain ⟨j, hj, rfl⟩ := List.mem_iff_getElem.1 hw; exact (h.sg j hj).1 c
    have := mem_le_sum hn L[i] hx
    have := hn _ hx
    rw [h.sum] at *; omega
  · have hn : ∀ w ∈ L.map (fun x => -x), 0 ≤ w := fun w hw => by
      obtain ⟨y, hy, rfl⟩ := List.mem_map.1 hw
      obtain ⟨j, hj, rfl⟩ := List.mem_iff_getElem.1 hy
      have := (h.sg j hj).2 c; omega
    have h1 := mem_le_sum hn (-L[i]) (List.mem_map.2 ⟨L[i], hx, rfl⟩)
    have h2 := hn (-L[i]) (List.mem_map.2 ⟨L[i], hx, rfl⟩)
    have h3 := neg_sum L
    rw [h3, h.sum] at h1; omega
theorem take_bd {L : List Int} (h : ∀ x ∈ L, -1099511627776 ≤ x ∧ x ≤ 1099511627776) : ∀ i : Nat, i ≤ L.length → -1099511627776 * (i : Int) ≤ (L.take i).sum ∧ (L.take i).sum ≤ 1099511627776 * (i : Int)
  | 0, _ => by simp
  | i + 1, hi => by
    obtain ⟨h1, h2⟩ := take_bd h i (by omega)
    obtain ⟨h3, h4⟩ := h L[i] (List.getElem_mem (by omega))
    rw [sum_step' L (by omega)]
    omega
def fL5 (x : Int × List Int) : Prop × V := (x.2.length ≤ 140737488355328 ∧ inI x.1 ∧ ∀ w ∈ x.2, inI w, .bool true)
noncomputable def tL5 : Tab
  | 9 => (gOf aUnit fKn)
  | 20 => (gOf aSp fSplit)
  | _ => gNo
theorem tL5_ok : ∀ f, PureC Tryd.prog UT f (tL5 f) := fun f => by
  unfold tL5
  split
  · exact knows_p
  · exact split_p
  · exact PureC.no
theorem law5_p : PureC Tryd.prog UT 7 (gOf aSp fL5) := by
  have hG := tL5_ok
  refine PureC.ofArgs aSp_inj Tryd.func7 body7 nm7 res7 ?_
  rintro ⟨a, l⟩ hv
  refine ⟨by rw [nt7]; simp [aSp], fun C hN Q hQ => ?_⟩
  rw [nt7] at hN
  unfold c7
  obtain ⟨h1, h2, h3⟩ : l.length ≤ 140737488355328 ∧ inI a ∧ ∀ w ∈ l, inI w := hv
  obtain ⟨⟨e, L⟩, hspl⟩ : ∃ y, splitM a l = y := ⟨_, rfl⟩
  obtain ⟨hno, hyes⟩ := spl_facts hspl
  refine aw_seq (aw_region (EF := EF0) hG (by rw [hN]; exact tr7_0) ?_)
  simp only [a7_0, go_sem, ↓reduceIte, Nat.reduceEqDiff, reduceCtorEq, Nat.reduceAdd, Nat.reduceLT, Nat.reduceLeDiff, Nat.reduceBNe, Nat.reduceBEq, Int.reduceToNat, aSp, tL5, fKn_eq, fSplit_eq, shareV, decide_true]
  refine aw_seq ?_
  refine aw_seq (aw_region (EF := EF0) hG (by rw [hN]; exact tr7_1) ?_)
  simp only [a7_1, go_sem, ↓reduceIte, Nat.reduceEqDiff, reduceCtorEq, Nat.reduceAdd, Nat.reduceLT, Nat.reduceLeDiff, Nat.reduceBNe, Nat.reduceBEq, Int.reduceToNat, tL5, fKn_eq, fSplit_eq, shareV, decide_true]
  refine aw_cond (b := _) rfl (fun hc1 => ?_) (fun hc1 => ?_)
  · simp only [decide_eq_true_eq, decide_eq_false_iff_not, Bool.and_eq_true, Bool.or_eq_true, Bool.not_eq_true', Bool.not_eq_false', Bool.and_eq_false_iff, Bool.or_eq_false_iff, Int.ofNat_lt, Int.ofNat_le, Nat.not_lt, Nat.not_le, Int.not_lt, Int.not_le] at hc1
    refine aw_seq (aw_region (EF := EF0) hG (by rw [hN]; exact tr7_2) ?_)
    simp only [a7_2, go_sem, ↓reduceIte, Nat.reduceEqDiff, reduceCtorEq, Nat.reduceAdd, Nat.reduceLT, Nat.reduceLeDiff, Nat.reduceBNe, Nat.reduceBEq, Int.reduceToNat, tL5, fKn_eq, fSplit_eq, shareV, decide_true]
    (repeat' apply And.intro) <;> (try first | omega | ((fail_if_success (refine (id : AW _ _ _ _ _ → AW _ _ _ _ _) ?_)); (fail_if_success (refine (id : EStep _ _ _ _ _ _ _ → EStep _ _ _ _ _ _ _) ?_)); intros; (repeat' apply And.intro) <;> first | assumption | omega | (simp_all; done)))
    refine aw_ret ?_
    show Q _ _
    refine hQ _ _ (.inl rfl) ?_ ?_ ?_ <;> simp only [outφ, outV, AR.res, go_sem, ↓reduceIte, Nat.reduceEqDiff, reduceCtorEq, Nat.reduceAdd, Nat.reduceLT, Nat.reduceLeDiff, Nat.reduceBNe, Nat.reduceBEq, Int.reduceToNat, fL5]
  · simp only [decide_eq_true_eq, decide_eq_false_iff_not, Bool.and_eq_true, Bool.or_eq_true, Bool.not_eq_true', Bool.not_eq_false', Bool.and_eq_false_iff, Bool.or_eq_false_iff, Int.ofNat_lt, Int.ofNat_le, Nat.not_lt, Nat.not_le, Int.not_lt, Int.not_le] at hc1
    refine aw_skip ?_
    try simp only [go_sem, ↓reduceIte, Nat.reduceEqDiff, reduceCtorEq, Nat.reduceAdd, Nat.reduceLT, Nat.reduceLeDiff, Nat.reduceBNe, Nat.reduceBEq, Int.reduceToNat]
    have hl6 : l.length ≤ 1000000 := by omega
    refine aw_seq (aw_region (EF := EF0) hG (by rw [hN]; exact tr7_3) ?_)
    simp only [a7_3, go_sem, ↓reduceIte, Nat.reduceEqDiff, reduceCtorEq, Nat.reduceAdd, Nat.reduceLT, Nat.reduceLeDiff, Nat.reduceBNe, Nat.reduceBEq, Int.reduceToNat, hl6, h2, h3, hspl, tL5, fKn_eq, fSplit_eq, shareV, decide_true]
    (repeat' apply And.intro) <;> (try first | omega | ((fail_if_success (refine (id : AW _ _ _ _ _ → AW _ _ _ _ _) ?_)); (fail_if_success (refine (id : EStep _ _ _ _ _ _ _ → EStep _ _ _ _ _ _ _) ?_)); intros; (repeat' apply And.intro) <;> first | assumption | omega | (simp_all; done)))
    refine aw_seq ?_
    refine aw_seq (aw_region (EF := EF0) hG (by rw [hN]; exact tr7_4) ?_)
    simp only [a7_4, go_sem, ↓reduceIte, Nat.reduceEqDiff, reduceCtorEq, Nat.reduceAdd, Nat.reduceLT, Nat.reduceLeDiff, Nat.reduceBNe, Nat.reduceBEq, Int.reduceToNat, tL5, fKn_eq, fSplit_eq, shareV, decide_true]
    refine aw_cond (b := _) rfl (fun he => ?_) (fun he => ?_)
    · skip
      have he2 : e ≠ 0 := by simpa using he
      obtain rfl := hno he2
      refine aw_seq (aw_region (EF := EF0) hG (by rw [hN]; exact tr7_5) ?_)
      simp only [a7_5, go_sem, ↓reduceIte, Nat.reduceEqDiff, reduceCtorEq, Nat.reduceAdd, Nat.reduceLT, Nat.reduceLeDiff, Nat.reduceBNe, Nat.reduceBEq, Int.reduceToNat, ints_nil, tL5, fKn_eq, fSplit_eq, shareV, decide_true]
      (repeat' apply And.intro) <;> (try first | omega | ((fail_if_success (refine (id : AW _ _ _ _ _ → AW _ _ _ _ _) ?_)); (fail_if_success (refine (id : EStep _ _ _ _ _ _ _ → EStep _ _ _ _ _ _ _) ?_)); intros; (repeat' apply And.intro) <;> first | assumption | omega | (simp_all; done)))
      refine aw_ret ?_
      show Q _ _
      refine hQ _ _ (.inl rfl) ?_ ?_ ?_ <;> simp only [outφ, outV, AR.res, go_sem, ↓reduceIte, Nat.reduceEqDiff, reduceCtorEq, Nat.reduceAdd, Nat.reduceLT, Nat.reduceLeDiff, Nat.reduceBNe, Nat.reduceBEq, Int.reduceToNat, fL5]
    · skip
      obtain rfl : e = 0 := by simpa using he
      have hsh := hyes rfl
      clear hyes hno
      have hbd := hsh.bd
      have hlen := hsh.len
      have hat := hsh.at_bd
      have hneg := hsh.neg
      have hna : inI (-a) := by unfold inI; omega
      refine aw_skip ?_
      try simp only [go_sem, ↓reduceIte, Nat.reduceEqDiff, reduceCtorEq, Nat.reduceAdd, Nat.reduceLT, Nat.reduceLeDiff, Nat.reduceBNe, Nat.reduceBEq, Int.reduceToNat]
      refine aw_seq (aw_region (EF := EF0) hG (by rw [hN]; exact tr7_6) ?_)
      simp only [a7_6, go_sem, ↓reduceIte, Nat.reduceEqDiff, reduceCtorEq, Nat.reduceAdd, Nat.reduceLT, Nat.reduceLeDiff, Nat.reduceBNe, Nat.reduceBEq, Int.reduceToNat, tL5, fKn_eq, fSplit_eq, shareV, decide_true]
      refine aw_seq ?_
      refine aw_seq (aw_region (EF := EF0) hG (by rw [hN]; exact tr7_7) ?_)
      simp only [a7_7, go_sem, ↓reduceIte, Nat.reduceEqDiff, reduceCtorEq, Nat.reduceAdd, Nat.reduceLT, Nat.reduceLeDiff, Nat.reduceBNe, Nat.reduceBEq, Int.reduceToNat, tL5, fKn_eq, fSplit_eq, shareV, decide_true]
      refine aw_block ?_
      refine aw_loop (α := Nat) (fun i => (i ≤ L.length)) (fun i => ⟨mkE [(0, V.int IntKind.i64 a), (1, V.list (ints l) false), (5, V.list (ints L) false), (7, .int .i64 (L.take i).sum), (8, .int .i64 i)], mkH []⟩) (fun i => L.length - i) 0 (Nat.zero_le _) ?_ ?_
      · refine Le.mk _ _ ?_ ?_ rfl <;> simp only [go_sem, ↓reduceIte, Nat.reduceEqDiff, reduceCtorEq, Nat.reduceAdd, Nat.reduceLT, Nat.reduceLeDiff, Nat.reduceBNe, Nat.reduceBEq, Int.reduceToNat] <;> (repeat' apply And.intro) <;> (try first | rfl | exact wk_frzb rfl rfl rfl | exact wk_fn rfl | exact .nilo _ _ _ rfl rfl | exact wk_frzm rfl rfl (fun kv hk => by obtain ⟨_, _, rfl⟩ := List.mem_map.1 hk; rfl))
      · rintro i hi KL0 hKL0
        try dsimp only at *
        refine aw_seq ?_
        refine aw_seq (aw_region (EF := EF0) hG (by rw [hN]; exact tr7_8) ?_)
        simp only [a7_8, go_sem, ↓reduceIte, Nat.reduceEqDiff, reduceCtorEq, Nat.reduceAdd, Nat.reduceLT, Nat.reduceLeDiff, Nat.reduceBNe, Nat.reduceBEq, Int.reduceToNat, tL5, fKn_eq, fSplit_eq, shareV, decide_true]
        refine aw_cond (b := _) rfl (fun hc8 => ?_) (fun hc8 => ?_)
        · simp only [decide_eq_true_eq, decide_eq_false_iff_not, Bool.and_eq_true, Bool.or_eq_true, Bool.not_eq_true', Bool.not_eq_false', Bool.and_eq_false_iff, Bool.or_eq_false_iff, Int.ofNat_lt, Int.ofNat_le, Nat.not_lt, Nat.not_le, Int.not_lt, Int.not_le] at hc8
          refine aw_skip ?_
          try simp only [go_sem, ↓reduceIte, Nat.reduceEqDiff, reduceCtorEq, Nat.reduceAdd, Nat.reduceLT, Nat.reduceLeDiff, Nat.reduceBNe, Nat.reduceBEq, Int.reduceToNat]
          refine aw_seq ?_
          refine aw_block ?_
          have hil : i < l.length := by omega
          have htb := take_bd hat i hi
          have hai := hat L[i] (List.getElem_mem hc8)
          refine aw_seq (aw_region (EF := EF0) hG (by rw [hN]; exact tr7_10) ?_)
          simp only [a7_10, go_sem, ↓reduceIte, Nat.reduceEqDiff, reduceCtorEq, Nat.reduceAdd, Nat.reduceLT, Nat.reduceLeDiff, Nat.reduceBNe, Nat.reduceBEq, Int.reduceToNat, inI, ints_getD _ _ _ hc8, hc8, tL5, fKn_eq, fSplit_eq, shareV, decide_true]
          (repeat' apply And.intro) <;> (try first | omega | ((fail_if_success (refine (id : AW _ _ _ _ _ → AW _ _ _ _ _) ?_)); (fail_if_success (refine (id : EStep _ _ _ _ _ _ _ → EStep _ _ _ _ _ _ _) ?_)); intros; (repeat' apply And.intro) <;> first | assumption | omega | (simp_all; done)))
          refine aw_seq ?_
          refine aw_seq (aw_region (EF := EF0) hG (by rw [hN]; exact tr7_11) ?_)
          simp only [a7_11, go_sem, ↓reduceIte, Nat.reduceEqDiff, reduceCtorEq, Nat.reduceAdd, Nat.reduceLT, Nat.reduceLeDiff, Nat.reduceBNe, Nat.reduceBEq, Int.reduceToNat, ints_getD _ _ _ hc8, hc8, ints_getD _ _ _ hil, hil, tL5, fKn_eq, fSplit_eq, shareV, decide_true]
          (repeat' apply And.intro) <;> (try first | omega | ((fail_if_success (refine (id : AW _ _ _ _ _ → AW _ _ _ _ _) ?_)); (fail_if_success (refine (id : EStep _ _ _ _ _ _ _ → EStep _ _ _ _ _ _ _) ?_)); intros; (repeat' apply And.intro) <;> first | assumption | omega | (simp_all; done)))
          refine aw_cond (b := _) rfl (fun hb11 => ?_) (fun hb11 => ?_)
          · skip
            refine aw_seq (aw_region (EF := EF0) hG (by rw [hN]; exact tr7_12) ?_)
            simp only [a7_12, go_sem, ↓reduceIte, Nat.reduceEqDiff, reduceCtorEq, Nat.reduceAdd, Nat.reduceLT, Nat.reduceLeDiff, Nat.reduceBNe, Nat.reduceBEq, Int.reduceToNat, tL5, fKn_eq, fSplit_eq, shareV, decide_true]
            refine aw_ret ?_
            show Q _ _
            refine hQ _ _ (.inl rfl) ?_ ?_ ?_ <;> simp only [outφ, outV, AR.res, go_sem, ↓reduceIte, Nat.reduceEqDiff, reduceCtorEq, Nat.reduceAdd, Nat.reduceLT, Nat.reduceLeDiff, Nat.reduceBNe, Nat.reduceBEq, Int.reduceToNat, fL5]
            obtain ⟨hs1, hs2⟩ := hsh.sg i hc8
            have hz := hsh.zero i hc8 hil
            simp at hb11
            omega
          · skip
            clear hb11 htb hai
            refine aw_skip ?_
            try simp only [go_sem, ↓reduceIte, Nat.reduceEqDiff, reduceCtorEq, Nat.reduceAdd, Nat.reduceLT, Nat.reduceLeDiff, Nat.reduceBNe, Nat.reduceBEq, Int.reduceToNat]
            refine aw_seq (aw_region (EF := EF0) hG (by rw [hN]; exact tr7_13) ?_)
            simp only [a7_13, go_sem, ↓reduceIte, Nat.reduceEqDiff, reduceCtorEq, Nat.reduceAdd, Nat.reduceLT, Nat.reduceLeDiff, Nat.reduceBNe, Nat.reduceBEq, Int.reduceToNat, tL5, fKn_eq, fSplit_eq, shareV, decide_true]
            refine aw_block ?_
            refine aw_loop (α := Nat) (fun k => (k ≤ i)) (fun k => ⟨mkE [(0, V.int IntKind.i64 a), (1, V.list (ints l) false), (5, V.list (ints L) false), (7, V.int IntKind.i64 ((List.take i L).sum + L[i])), (8, V.int IntKind.i64 ↑i), (9, .int .i64 k)], mkH []⟩) (fun k => i - k) 0 (Nat.zero_le _) ?_ ?_
            · refine Le.mk _ _ ?_ ?_ rfl <;> simp only [go_sem, ↓reduceIte, Nat.reduceEqDiff, reduceCtorEq, Nat.reduceAdd, Nat.reduceLT, Nat.reduceLeDiff, Nat.reduceBNe, Nat.reduceBEq, Int.reduceToNat] <;> (repeat' apply And.intro) <;> (try first | rfl | exact wk_frzb rfl rfl rfl | exact wk_fn rfl | exact .nilo _ _ _ rfl rfl | exact wk_frzm rfl rfl (fun kv hk => by obtain ⟨_, _, rfl⟩ := List.mem_map.1 hk; rfl))
            · rintro k hk KL2 hKL2
              try dsimp only at *
              refine aw_seq ?_
              refine aw_seq (aw_region (EF := EF0) hG (by rw [hN]; exact tr7_14) ?_)
              simp only [a7_14, go_sem, ↓reduceIte, Nat.reduceEqDiff, reduceCtorEq, Nat.reduceAdd, Nat.reduceLT, Nat.reduceLeDiff, Nat.reduceBNe, Nat.reduceBEq, Int.reduceToNat, tL5, fKn_eq, fSplit_eq, shareV, decide_true]
              refine aw_cond (b := _) rfl (fun hc14 => ?_) (fun hc14 => ?_)
              · simp only [decide_eq_true_eq, decide_eq_false_iff_not, Bool.and_eq_true, Bool.or_eq_true, Bool.not_eq_true', Bool.not_eq_false', Bool.and_eq_false_iff, Bool.or_eq_false_iff, Int.ofNat_lt, Int.ofNat_le, Nat.not_lt, Nat.not_le, Int.not_lt, Int.not_le] at hc14
                refine aw_skip ?_
                try simp only [go_sem, ↓reduceIte, Nat.reduceEqDiff, reduceCtorEq, Nat.reduceAdd, Nat.reduceLT, Nat.reduceLeDiff, Nat.reduceBNe, Nat.reduceBEq, Int.reduceToNat]
                refine aw_seq ?_
                refine aw_block ?_
                have hkL : k < L.length := by omega
                have hkl : k < l.length := by omega
                refine aw_seq (aw_regionD (EF := EF0) hG mixed (by rw [hN]; exact tr7_16) ok7_16 ?_)
                simp only [a7_16, d7_16, go_sem, ↓reduceIte, Nat.reduceEqDiff, reduceCtorEq, Nat.reduceAdd, Nat.reduceLT, Nat.reduceLeDiff, Nat.reduceBNe, Nat.reduceBEq, Int.reduceToNat, ints_getD _ _ _ hc8, hc8, ints_getD _ _ _ hil, hil, ints_getD _ _ _ hkL, hkL, ints_getD _ _ _ hkl, hkl, tL5, fKn_eq, fSplit_eq, shareV, decide_true]
                (repeat' apply And.intro) <;> (try first | omega | ((fail_if_success (refine (id : AW _ _ _ _ _ → AW _ _ _ _ _) ?_)); (fail_if_success (refine (id : EStep _ _ _ _ _ _ _ → EStep _ _ _ _ _ _ _) ?_)); intros; (repeat' apply And.intro) <;> first | assumption | omega | (simp_all; done)))
                refine aw_cond (b := _) rfl (fun hb16 => ?_) (fun hb16 => ?_)
                · skip
                  refine aw_seq (aw_region (EF := EF0) hG (by rw [hN]; exact tr7_17) ?_)
                  simp only [a7_17, go_sem, ↓reduceIte, Nat.reduceEqDiff, reduceCtorEq, Nat.reduceAdd, Nat.reduceLT, Nat.reduceLeDiff, Nat.reduceBNe, Nat.reduceBEq, Int.reduceToNat, tL5, fKn_eq, fSplit_eq, shareV, decide_true]
                  refine aw_ret ?_
                  show Q _ _
                  refine hQ _ _ (.inl rfl) ?_ ?_ ?_ <;> simp only [outφ, outV, AR.res, go_sem, ↓reduceIte, Nat.reduceEqDiff, reduceCtorEq, Nat.reduceAdd, Nat.reduceLT, Nat.reduceLeDiff, Nat.reduceBNe, Nat.reduceBEq, Int.reduceToNat, fL5]
                  simp at hb16
                  have hm := hsh.mono (by omega) i k hc8 hkL hil hkl (by omega)
                  omega
                · skip
                  refine aw_skip ?_
                  try simp only [go_sem, ↓reduceIte, Nat.reduceEqDiff, reduceCtorEq, Nat.reduceAdd, Nat.reduceLT, Nat.reduceLeDiff, Nat.reduceBNe, Nat.reduceBEq, Int.reduceToNat]
                  refine aw_region (EF := EF0) hG (by rw [hN]; exact tr7_15) ?_
                  simp only [a7_15, go_sem, ↓reduceIte, Nat.reduceEqDiff, reduceCtorEq, Nat.reduceAdd, Nat.reduceLT, Nat.reduceLeDiff, Nat.reduceBNe, Nat.reduceBEq, Int.reduceToNat, inI, tL5, fKn_eq, fSplit_eq, shareV, decide_true]
                  (repeat' apply And.intro) <;> (try first | omega | ((fail_if_success (refine (id : AW _ _ _ _ _ → AW _ _ _ _ _) ?_)); (fail_if_success (refine (id : EStep _ _ _ _ _ _ _ → EStep _ _ _ _ _ _ _) ?_)); intros; (repeat' apply And.intro) <;> first | assumption | omega | (simp_all; done)))
                  refine hKL2 (k + 1) _ ?_ ?_ ?_
                  · (try dsimp only); exact (by omega)
                  · (try dsimp only); omega
                  · refine Le.mk _ _ ?_ ?_ rfl <;> simp only [go_sem, ↓reduceIte, Nat.reduceEqDiff, reduceCtorEq, Nat.reduceAdd, Nat.reduceLT, Nat.reduceLeDiff, Nat.reduceBNe, Nat.reduceBEq, Int.reduceToNat] <;> (repeat' apply And.intro) <;> (try first | rfl | exact wk_frzb rfl rfl rfl | exact wk_fn rfl | exact .nilo _ _ _ rfl rfl | exact wk_frzm rfl rfl (fun kv hk => by obtain ⟨_, _, rfl⟩ := List.mem_map.1 hk; rfl))
              · simp only [decide_eq_true_eq, decide_eq_false_iff_not, Bool.and_eq_true, Bool.or_eq_true, Bool.not_eq_true', Bool.not_eq_false', Bool.and_eq_false_iff, Bool.or_eq_false_iff, Int.ofNat_lt, Int.ofNat_le, Nat.not_lt, Nat.not_le, Int.not_lt, Int.not_le] at hc14
                refine aw_exit ?_
                simp only [go_sem, ↓reduceIte, Nat.reduceEqDiff, reduceCtorEq, Nat.reduceAdd, Nat.reduceLT, Nat.reduceLeDiff, Nat.reduceBNe, Nat.reduceBEq, Int.reduceToNat]
                refine aw_region (EF := EF0) hG (by rw [hN]; exact tr7_9) ?_
                simp only [a7_9, go_sem, ↓reduceIte, Nat.reduceEqDiff, reduceCtorEq, Nat.reduceAdd, Nat.reduceLT, Nat.reduceLeDiff, Nat.reduceBNe, Nat.reduceBEq, Int.reduceToNat, inI, tL5, fKn_eq, fSplit_eq, shareV, decide_true]
                (repeat' apply And.intro) <;> (try first | omega | ((fail_if_success (refine (id : AW _ _ _ _ _ → AW _ _ _ _ _) ?_)); (fail_if_success (refine (id : EStep _ _ _ _ _ _ _ → EStep _ _ _ _ _ _ _) ?_)); intros; (repeat' apply And.intro) <;> first | assumption | omega | (simp_all; done)))
                refine hKL0 (i + 1) _ ?_ ?_ ?_
                · (try dsimp only); exact hc8
                · (try dsimp only); omega
                · refine Le.mk _ _ ?_ ?_ rfl <;> simp only [go_sem, ↓reduceIte, Nat.reduceEqDiff, reduceCtorEq, Nat.reduceAdd, Nat.reduceLT, Nat.reduceLeDiff, Nat.reduceBNe, Nat.reduceBEq, Int.reduceToNat, sum_step' L hc8] <;> (repeat' apply And.intro) <;> (try first | rfl | exact wk_frzb rfl rfl rfl | exact wk_fn rfl | exact .nilo _ _ _ rfl rfl | exact wk_frzm rfl rfl (fun kv hk => by obtain ⟨_, _, rfl⟩ := List.mem_map.1 hk; rfl))
        · simp only [decide_eq_true_eq, decide_eq_false_iff_not, Bool.and_eq_true, Bool.or_eq_true, Bool.not_eq_true', Bool.not_eq_false', Bool.and_eq_false_iff, Bool.or_eq_false_iff, Int.ofNat_lt, Int.ofNat_le, Nat.not_lt, Nat.not_le, Int.not_lt, Int.not_le] at hc8
          refine aw_exit ?_
          simp only [go_sem, ↓reduceIte, Nat.reduceEqDiff, reduceCtorEq, Nat.reduceAdd, Nat.reduceLT, Nat.reduceLeDiff, Nat.reduceBNe, Nat.reduceBEq, Int.reduceToNat]
          have h3' : ∀ w ∈ l, -9223372036854775808 ≤ w ∧ w ≤ 9223372036854775807 := h3
          refine aw_seq (aw_region (EF := EF0) hG (by rw [hN]; exact tr7_18) ?_)
          simp only [a7_18, go_sem, ↓reduceIte, Nat.reduceEqDiff, reduceCtorEq, Nat.reduceAdd, Nat.reduceLT, Nat.reduceLeDiff, Nat.reduceBNe, Nat.reduceBEq, Int.reduceToNat, inI, hl6, hna, h3, eq_true h3', hneg, tL5, fKn_eq, fSplit_eq, shareV, decide_true]
          (repeat' apply And.intro) <;> (try first | omega | ((fail_if_success (refine (id : AW _ _ _ _ _ → AW _ _ _ _ _) ?_)); (fail_if_success (refine (id : EStep _ _ _ _ _ _ _ → EStep _ _ _ _ _ _ _) ?_)); intros; (repeat' apply And.intro) <;> first | assumption | omega | (simp_all; done)))
          refine aw_seq ?_
          refine aw_seq (aw_region (EF := EF0) hG (by rw [hN]; exact tr7_19) ?_)
          simp only [a7_19, go_sem, ↓reduceIte, Nat.reduceEqDiff, reduceCtorEq, Nat.reduceAdd, Nat.reduceLT, Nat.reduceLeDiff, Nat.reduceBNe, Nat.reduceBEq, Int.reduceToNat, tL5, fKn_eq, fSplit_eq, shareV, decide_true]
          refine aw_block ?_
          refine aw_loop (α := Nat) (fun j => (j ≤ L.length)) (fun j => ⟨mkE [(0, V.int IntKind.i64 a), (1, V.list (ints l) false), (5, V.list (ints L) false), (7, V.int IntKind.i64 (List.take i L).sum), (10, V.list (ints (List.map (fun x => -x) L)) false), (11, V.int IntKind.i64 0), (12, .int .i64 j)], mkH []⟩) (fun j => L.length - j) 0 (Nat.zero_le _) ?_ ?_
          · refine Le.mk _ _ ?_ ?_ rfl <;> simp only [go_sem, ↓reduceIte, Nat.reduceEqDiff, reduceCtorEq, Nat.reduceAdd, Nat.reduceLT, Nat.reduceLeDiff, Nat.reduceBNe, Nat.reduceBEq, Int.reduceToNat] <;> (repeat' apply And.intro) <;> (try first | rfl | exact wk_frzb rfl rfl rfl | exact wk_fn rfl | exact .nilo _ _ _ rfl rfl | exact wk_frzm rfl rfl (fun kv hk => by obtain ⟨_, _, rfl⟩ := List.mem_map.1 hk; rfl))
          · rintro j hj KL4 hKL4
            try dsimp only at *
            refine aw_seq ?_
            refine aw_seq (aw_region (EF := EF0) hG (by rw [hN]; exact tr7_20) ?_)
            simp only [a7_20, go_sem, ↓reduceIte, Nat.reduceEqDiff, reduceCtorEq, Nat.reduceAdd, Nat.reduceLT, Nat.reduceLeDiff, Nat.reduceBNe, Nat.reduceBEq, Int.reduceToNat, tL5, fKn_eq, fSplit_eq, shareV, decide_true]
            (repeat' apply And.intro) <;> (try first | omega | ((fail_if_success (refine (id : AW _ _ _ _ _ → AW _ _ _ _ _) ?_)); (fail_if_success (refine (id : EStep _ _ _ _ _ _ _ → EStep _ _ _ _ _ _ _) ?_)); intros; (repeat' apply And.intro) <;> first | assumption | omega | (simp_all; done)))
            refine aw_cond (b := _) rfl (fun hc20 => ?_) (fun hc20 => ?_)
            · simp only [decide_eq_true_eq, decide_eq_false_iff_not, Bool.and_eq_true, Bool.or_eq_true, Bool.not_eq_true', Bool.not_eq_false', Bool.and_eq_false_iff, Bool.or_eq_false_iff, Int.ofNat_lt, Int.ofNat_le, Nat.not_lt, Nat.not_le, Int.not_lt, Int.not_le] at hc20
              refine aw_skip ?_
              try simp only [go_sem, ↓reduceIte, Nat.reduceEqDiff, reduceCtorEq, Nat.reduceAdd, Nat.reduceLT, Nat.reduceLeDiff, Nat.reduceBNe, Nat.reduceBEq, Int.reduceToNat]
              refine aw_seq ?_
              refine aw_block ?_
              have hjm : j < (L.map fun x => -x).length := by rw [List.length_map]; omega
              have hjL : j < L.length := by omega
              have hje : (L.map fun x => -x)[j] = -L[j] := List.getElem_map ..
              have haj := hat L[j] (List.getElem_mem hjL)
              refine aw_seq (aw_regionD (EF := EF0) hG mixed (by rw [hN]; exact tr7_22) ok7_22 ?_)
              simp only [a7_22, d7_22, go_sem, ↓reduceIte, Nat.reduceEqDiff, reduceCtorEq, Nat.reduceAdd, Nat.reduceLT, Nat.reduceLeDiff, Nat.reduceBNe, Nat.reduceBEq, Int.reduceToNat, inI, ints_getD _ _ _ hjL, hjL, ints_getD _ _ _ hjm, hjm, hje, Int.neg_neg, tL5, fKn_eq, fSplit_eq, shareV, decide_true]
              (repeat' apply And.intro) <;> (try first | omega | ((fail_if_success (refine (id : AW _ _ _ _ _ → AW _ _ _ _ _) ?_)); (fail_if_success (refine (id : EStep _ _ _ _ _ _ _ → EStep _ _ _ _ _ _ _) ?_)); intros; (repeat' apply And.intro) <;> first | assumption | omega | (simp_all; done)))
              refine aw_condF rfl ?_
              refine aw_skip ?_
              try simp only [go_sem, ↓reduceIte, Nat.reduceEqDiff, reduceCtorEq, Nat.reduceAdd, Nat.reduceLT, Nat.reduceLeDiff, Nat.reduceBNe, Nat.reduceBEq, Int.reduceToNat]
              refine aw_region (EF := EF0) hG (by rw [hN]; exact tr7_21) ?_
              simp only [a7_21, go_sem, ↓reduceIte, Nat.reduceEqDiff, reduceCtorEq, Nat.reduceAdd, Nat.reduceLT, Nat.reduceLeDiff, Nat.reduceBNe, Nat.reduceBEq, Int.reduceToNat, inI, tL5, fKn_eq, fSplit_eq, shareV, decide_true]
              (repeat' apply And.intro) <;> (try first | omega | ((fail_if_success (refine (id : AW _ _ _ _ _ → AW _ _ _ _ _) ?_)); (fail_if_success (refine (id : EStep _ _ _ _ _ _ _ → EStep _ _ _ _ _ _ _) ?_)); intros; (repeat' apply And.intro) <;> first | assumption | omega | (simp_all; done)))
              refine hKL4 (j + 1) _ ?_ ?_ ?_
              · (try dsimp only); exact hjL
              · (try dsimp only); omega
              · refine Le.mk _ _ ?_ ?_ rfl <;> simp only [go_sem, ↓reduceIte, Nat.reduceEqDiff, reduceCtorEq, Nat.reduceAdd, Nat.reduceLT, Nat.reduceLeDiff, Nat.reduceBNe, Nat.reduceBEq, Int.reduceToNat] <;> (repeat' apply And.intro) <;> (try first | rfl | exact wk_frzb rfl rfl rfl | exact wk_fn rfl | exact .nilo _ _ _ rfl rfl | exact wk_frzm rfl rfl (fun kv hk => by obtain ⟨_, _, rfl⟩ := List.mem_map.1 hk; rfl))
            · simp only [decide_eq_true_eq, decide_eq_false_iff_not, Bool.and_eq_true, Bool.or_eq_true, Bool.not_eq_true', Bool.not_eq_false', Bool.and_eq_false_iff, Bool.or_eq_false_iff, Int.ofNat_lt, Int.ofNat_le, Nat.not_lt, Nat.not_le, Int.not_lt, Int.not_le] at hc20
              refine aw_exit ?_
              simp only [go_sem, ↓reduceIte, Nat.reduceEqDiff, reduceCtorEq, Nat.reduceAdd, Nat.reduceLT, Nat.reduceLeDiff, Nat.reduceBNe, Nat.reduceBEq, Int.reduceToNat]
              have hie : i = L.length := by omega
              have hsum : (L.take i).sum = a := by rw [hie, List.take_length]; exact hsh.sum
              refine aw_seq (aw_region (EF := EF0) hG (by rw [hN]; exact tr7_24) ?_)
              simp only [a7_24, go_sem, ↓reduceIte, Nat.reduceEqDiff, reduceCtorEq, Nat.reduceAdd, Nat.reduceLT, Nat.reduceLeDiff, Nat.reduceBNe, Nat.reduceBEq, Int.reduceToNat, hsum, hlen, List.length_map, tL5, fKn_eq, fSplit_eq, shareV, decide_true]
              (repeat' apply And.intro) <;> (try first | omega | ((fail_if_success (refine (id : AW _ _ _ _ _ → AW _ _ _ _ _) ?_)); (fail_if_success (refine (id : EStep _ _ _ _ _ _ _ → EStep _ _ _ _ _ _ _) ?_)); intros; (repeat' apply And.intro) <;> first | assumption | omega | (simp_all; done)))
              refine aw_ret ?_
              show Q _ _
              refine hQ _ _ (.inl rfl) ?_ ?_ ?_ <;> simp only [outφ, outV, AR.res, go_sem, ↓reduceIte, Nat.reduceEqDiff, reduceCtorEq, Nat.reduceAdd, Nat.reduceLT, Nat.reduceLeDiff, Nat.reduceBNe, Nat.reduceBEq, Int.reduceToNat, fL5]
/-! Near amounts. -/
theorem wr_id {n : Int} (h : inI n) : IntKind.i64.wrap n = n := inK_i64.2 h
def aNr (x : Int × Int) : List V := [.int .i32 x.1, .int .i32 x.2]
theorem aNr_inj (a b : Int × Int) (h : aNr a = aNr b) : a = b := by
  obtain ⟨a1, a2⟩ := a
  obtain ⟨b1, b2⟩ := b
  simp only [aNr, List.cons.injEq, V.int.injEq, and_true, true_and] at h
  rw [h.1, h.2]
def fL6 (x : Int × Int) : Prop × V := ((-2147483648 ≤ x.1 ∧ x.1 ≤ 2147483647) ∧ -2147483648 ≤ x.2 ∧ x.2 ≤ 2147483647, .bool true)
noncomputable def tL6 : Tab
  | 9 => (gOf aUnit fKn)
  | 16 => (gOf aTwo fPer)
  | 18 => (gOf aTwo fUp)
  | 10 => (gOf aTwo fAdd)
  | 12 => (gOf aTwo fSub)
  | _ => gNo
theorem tL6_ok : ∀ f, PureC Tryd.prog UT f (tL6 f) := fun f => by
  unfold tL6
  split
  · exact knows_p
  · exact percent_p
  · exact up_p
  · exact add_p
  · exact sub_p
  · exact PureC.no
set_option maxRecDepth 20000 in
theorem law6_p : PureC Tryd.prog UT 8 (gOf aNr fL6) := by
  have hG := tL6_ok
  refine PureC.ofArgs aNr_inj Tryd.func8 body8 nm8 res8 ?_
  rintro ⟨a, b⟩ hv
  refine ⟨by rw [nt8]; simp [aNr], fun C hN Q hQ => ?_⟩
  rw [nt8] at hN
  unfold c8
  obtain ⟨h1, h2⟩ : (-2147483648 ≤ a ∧ a ≤ 2147483647) ∧ -2147483648 ≤ b ∧ b ≤ 2147483647 := hv
  obtain ⟨n, hn⟩ : ∃ n, a.tmod 1000000000 = n := ⟨_, rfl⟩
  obtain ⟨h, hh⟩ : ∃ h, b.tmod 100000 = h := ⟨_, rfl⟩
  have n1 : n < 1000000000 := hn ▸ Int.tmod_lt_of_pos a (by decide)
  have n2 : -1000000000 < n := hn ▸ Int.lt_tmod_of_pos a (by decide)
  have m1 : h < 100000 := hh ▸ Int.tmod_lt_of_pos b (by decide)
  have m2 : -100000 < h := hh ▸ Int.lt_tmod_of_pos b (by decide)
  have ka : inK .i64 a := inK_i64.2 (by unfold inI; omega)
  have kb : inK .i64 b := inK_i64.2 (by unfold inI; omega)
  obtain ⟨P, hP⟩ : ∃ P, n * h = P := ⟨_, rfl⟩
  have hab : (n.natAbs : Int) * h.natAbs = (P.natAbs : Int) := by rw [← hP, Int.natAbs_mul, Int.natCast_mul]
  have hPb : (P.natAbs : Int) ≤ 1000000000 * 100000 := by
    rw [← hab]; exact Int.mul_le_mul (by omega) (by omega) (by omega) (by decide)
  obtain ⟨X, hX⟩ : ∃ X, X = (2 * P + 10000) / 20000 := ⟨_, rfl⟩
  have fn : fitB n = true := (fits_iff n).2 (by omega)
  have fh : fitB h = true := (fits_iff h).2 (by omega)
  have hp1 : perM n h = (X, 0) := by
    rw [hX, ← hP]; exact perM_yes (by rw [fn, fh]; exact (fits_iff _).2 (by unfold perR; rw [hP]; omega))
  have hp2 : perM n 10000 = (n, 0) := by
    have e : perR n 10000 = n := by unfold perR; omega
    rw [perM_yes (by rw [fn, e, fn]; rfl), e]
  have ok1 : PerOk n h := ⟨by unfold inI; omega, by unfold inI; omega, fun _ _ => by rw [hab]; unfold u64m; omega⟩
  have ok2 : PerOk n 10000 := ⟨by unfold inI; omega, by unfold inI; decide, fun _ _ => by show (n.natAbs : Int) * 10000 < _; unfold u64m; omega⟩
  have hs1 : addP n h = (n + h, 0) := by
    unfold addP; rw [fn, fh, (fits_iff (n + h)).2 (by omega)]; rfl
  have hs2 : addP (n + h) (-h) = (n, 0) := by
    unfold addP; rw [(fits_iff (n + h)).2 (by omega), (fits_iff (-h)).2 (by omega), show n + h + -h = n by omega, fn]; rfl
  obtain ⟨U, hU⟩ : ∃ U, wr (1 + IntKind.i64.wrap (IntKind.u32.wrap b % 1000)) = U := ⟨_, rfl⟩
  have hU2 : 1 ≤ U ∧ U ≤ 1000 := by
    obtain ⟨z, hz⟩ : ∃ z, IntKind.u32.wrap b % 1000 = z := ⟨_, rfl⟩
    have hz2 : 0 ≤ z ∧ z < 1000 := by omega
    have e1 : IntKind.i64.wrap z = z := wr_id (by unfold inI; omega)
    have e2 : wr (1 + z) = 1 + z := wr_id (n := 1 + z) (by unfold inI; omega)
    rw [← hU, hz, e1, e2]; omega
  have hUi : inI U := by unfold inI; omega
  have htm : (n.tmod U).natAbs ≤ n.natAbs ∧ -U < n.tmod U ∧ n.tmod U < U := by
    have q1 : (n.tmod U).natAbs ≤ n.natAbs := by rw [Int.natAbs_tmod]; exact Nat.mod_le _ _
    have q2 : (n.tmod U).natAbs < U.natAbs := by rw [Int.natAbs_tmod]; exact Nat.mod_lt _ (by omega)
    omega
  have htd : n.tmod U = n - U * n.tdiv U := by have := Int.mul_tdiv_add_tmod n U; omega
  obtain ⟨Y, hY⟩ : ∃ Y, upM n U = (Y, 0) ∧ n ≤ Y ∧ Y < n + U ∧ Y.tmod U = 0 := by
    unfold upM
    rw [if_neg (by omega), if_pos fn]
    by_cases c : n.tmod U ≤ 0
    · rw [if_pos c]
      refine ⟨_, rfl, by omega, by omega, ?_⟩
      rw [show n - n.tmod U = U * n.tdiv U by omega, Int.mul_tmod_right]
    · rw [if_neg c, if_neg (by omega)]
      refine ⟨_, rfl, by omega, by omega, ?_⟩
      rw [show n + (U - n.tmod U) = U * (n.tdiv U + 1) by rw [Int.mul_add]; omega, Int.mul_tmod_right]
  obtain ⟨y1, y2, y3, y4⟩ := hY
  clear htm htd hab
  have lo : ¬ (2 * (P - 10000 * X) < -10000) := by omega
  have up : ¬ (10000 ≤ 2 * (P - 10000 * X)) := by omega
  refine aw_seq (aw_region (EF := EF0) hG (by rw [hN]; exact tr8_0) ?_)
  simp only [a8_0, go_sem, ↓reduceIte, Nat.reduceEqDiff, reduceCtorEq, Nat.reduceAdd, Nat.reduceLT, Nat.reduceLeDiff, Nat.reduceBNe, Nat.reduceBEq, Int.reduceToNat, aNr, tL6, fKn_eq, fPer_eq, fUp_eq, fAdd_eq, fSub_eq, pairV, decide_true]
  refine aw_seq (aw_region (EF := EF0) hG (by rw [hN]; exact tr8_1) ?_)
  simp only [a8_1, go_sem, ↓reduceIte, Nat.reduceEqDiff, reduceCtorEq, Nat.reduceAdd, Nat.reduceLT, Nat.reduceLeDiff, Nat.reduceBNe, Nat.reduceBEq, Int.reduceToNat, hn, hh, ka, kb, tL6, fKn_eq, fPer_eq, fUp_eq, fAdd_eq, fSub_eq, pairV, decide_true]
  (repeat' apply And.intro) <;> (try first | omega | ((fail_if_success (refine (id : AW _ _ _ _ _ → AW _ _ _ _ _) ?_)); (fail_if_success (refine (id : EStep _ _ _ _ _ _ _ → EStep _ _ _ _ _ _ _) ?_)); intros; (repeat' apply And.intro) <;> first | assumption | omega | (simp_all; done)))
  refine aw_seq (aw_region (EF := EF0) hG (by rw [hN]; exact tr8_2) ?_)
  simp only [a8_2, go_sem, ↓reduceIte, Nat.reduceEqDiff, reduceCtorEq, Nat.reduceAdd, Nat.reduceLT, Nat.reduceLeDiff, Nat.reduceBNe, Nat.reduceBEq, Int.reduceToNat, ok1, hp1, tL6, fKn_eq, fPer_eq, fUp_eq, fAdd_eq, fSub_eq, pairV, decide_true]
  (repeat' apply And.intro) <;> (try first | omega | ((fail_if_success (refine (id : AW _ _ _ _ _ → AW _ _ _ _ _) ?_)); (fail_if_success (refine (id : EStep _ _ _ _ _ _ _ → EStep _ _ _ _ _ _ _) ?_)); intros; (repeat' apply And.intro) <;> first | assumption | omega | (simp_all; done)))
  refine aw_seq (aw_region (EF := EF0) hG (by rw [hN]; exact tr8_3) ?_)
  simp only [a8_3, go_sem, ↓reduceIte, Nat.reduceEqDiff, reduceCtorEq, Nat.reduceAdd, Nat.reduceLT, Nat.reduceLeDiff, Nat.reduceBNe, Nat.reduceBEq, Int.reduceToNat, inI, hP, tL6, fKn_eq, fPer_eq, fUp_eq, fAdd_eq, fSub_eq, pairV, decide_true]
  (repeat' apply And.intro) <;> (try first | omega | ((fail_if_success (refine (id : AW _ _ _ _ _ → AW _ _ _ _ _) ?_)); (fail_if_success (refine (id : EStep _ _ _ _ _ _ _ → EStep _ _ _ _ _ _ _) ?_)); intros; (repeat' apply And.intro) <;> first | assumption | omega | (simp_all; done)))
  refine aw_seq (aw_region (EF := EF0) hG (by rw [hN]; exact tr8_4) ?_)
  simp only [a8_4, go_sem, ↓reduceIte, Nat.reduceEqDiff, reduceCtorEq, Nat.reduceAdd, Nat.reduceLT, Nat.reduceLeDiff, Nat.reduceBNe, Nat.reduceBEq, Int.reduceToNat, ok2, hp2, tL6, fKn_eq, fPer_eq, fUp_eq, fAdd_eq, fSub_eq, pairV, decide_true]
  (repeat' apply And.intro) <;> (try first | omega | ((fail_if_success (refine (id : AW _ _ _ _ _ → AW _ _ _ _ _) ?_)); (fail_if_success (refine (id : EStep _ _ _ _ _ _ _ → EStep _ _ _ _ _ _ _) ?_)); intros; (repeat' apply And.intro) <;> first | assumption | omega | (simp_all; done)))
  refine aw_seq ?_
  refine aw_seq (aw_region (EF := EF0) hG (by rw [hN]; exact tr8_5) ?_)
  simp only [a8_5, go_sem, ↓reduceIte, Nat.reduceEqDiff, reduceCtorEq, Nat.reduceAdd, Nat.reduceLT, Nat.reduceLeDiff, Nat.reduceBNe, Nat.reduceBEq, Int.reduceToNat, lo, up, tL6, fKn_eq, fPer_eq, fUp_eq, fAdd_eq, fSub_eq, pairV, decide_true]
  (repeat' apply And.intro) <;> (try first | omega | ((fail_if_success (refine (id : AW _ _ _ _ _ → AW _ _ _ _ _) ?_)); (fail_if_success (refine (id : EStep _ _ _ _ _ _ _ → EStep _ _ _ _ _ _ _) ?_)); intros; (repeat' apply And.intro) <;> first | assumption | omega | (simp_all; done)))
  refine aw_condF rfl ?_
  refine aw_skip ?_
  try simp only [go_sem, ↓reduceIte, Nat.reduceEqDiff, reduceCtorEq, Nat.reduceAdd, Nat.reduceLT, Nat.reduceLeDiff, Nat.reduceBNe, Nat.reduceBEq, Int.reduceToNat]
  refine aw_seq (aw_regionW (EF := EF0) hG (by rw [hN]; exact tr8_7) ?_)
  simp only [a8_7, go_sem, ↓reduceIte, Nat.reduceEqDiff, reduceCtorEq, Nat.reduceAdd, Nat.reduceLT, Nat.reduceLeDiff, Nat.reduceBNe, Nat.reduceBEq, Int.reduceToNat, inI, hU, tL6, fKn_eq, fPer_eq, fUp_eq, fAdd_eq, fSub_eq, pairV, decide_true]
  (repeat' apply And.intro) <;> (try first | omega | ((fail_if_success (refine (id : AW _ _ _ _ _ → AW _ _ _ _ _) ?_)); (fail_if_success (refine (id : EStep _ _ _ _ _ _ _ → EStep _ _ _ _ _ _ _) ?_)); intros; (repeat' apply And.intro) <;> first | assumption | omega | (simp_all; done)))
  refine aw_seq (aw_region (EF := EF0) hG (by rw [hN]; exact tr8_8) ?_)
  simp only [a8_8, go_sem, ↓reduceIte, Nat.reduceEqDiff, reduceCtorEq, Nat.reduceAdd, Nat.reduceLT, Nat.reduceLeDiff, Nat.reduceBNe, Nat.reduceBEq, Int.reduceToNat, hUi, y1, tL6, fKn_eq, fPer_eq, fUp_eq, fAdd_eq, fSub_eq, pairV, decide_true]
  (repeat' apply And.intro) <;> (try first | omega | ((fail_if_success (refine (id : AW _ _ _ _ _ → AW _ _ _ _ _) ?_)); (fail_if_success (refine (id : EStep _ _ _ _ _ _ _ → EStep _ _ _ _ _ _ _) ?_)); intros; (repeat' apply And.intro) <;> first | assumption | omega | (simp_all; done)))
  refine aw_seq (aw_region (EF := EF0) hG (by rw [hN]; exact tr8_9) ?_)
  simp only [a8_9, go_sem, ↓reduceIte, Nat.reduceEqDiff, reduceCtorEq, Nat.reduceAdd, Nat.reduceLT, Nat.reduceLeDiff, Nat.reduceBNe, Nat.reduceBEq, Int.reduceToNat, hs1, tL6, fKn_eq, fPer_eq, fUp_eq, fAdd_eq, fSub_eq, pairV, decide_true]
  (repeat' apply And.intro) <;> (try first | omega | ((fail_if_success (refine (id : AW _ _ _ _ _ → AW _ _ _ _ _) ?_)); (fail_if_success (refine (id : EStep _ _ _ _ _ _ _ → EStep _ _ _ _ _ _ _) ?_)); intros; (repeat' apply And.intro) <;> first | assumption | omega | (simp_all; done)))
  refine aw_seq (aw_region (EF := EF0) hG (by rw [hN]; exact tr8_10) ?_)
  simp only [a8_10, go_sem, ↓reduceIte, Nat.reduceEqDiff, reduceCtorEq, Nat.reduceAdd, Nat.reduceLT, Nat.reduceLeDiff, Nat.reduceBNe, Nat.reduceBEq, Int.reduceToNat, hs2, tL6, fKn_eq, fPer_eq, fUp_eq, fAdd_eq, fSub_eq, pairV, decide_true]
  (repeat' apply And.intro) <;> (try first | omega | ((fail_if_success (refine (id : AW _ _ _ _ _ → AW _ _ _ _ _) ?_)); (fail_if_success (refine (id : EStep _ _ _ _ _ _ _ → EStep _ _ _ _ _ _ _) ?_)); intros; (repeat' apply And.intro) <;> first | assumption | omega | (simp_all; done)))
  refine aw_seq (aw_region (EF := EF0) hG (by rw [hN]; exact tr8_11) ?_)
  simp (maxSteps := 2000000) only [a8_11, go_sem, ↓reduceIte, Nat.reduceEqDiff, reduceCtorEq, Nat.reduceAdd, Nat.reduceLT, Nat.reduceLeDiff, Nat.reduceBNe, Nat.reduceBEq, Int.reduceToNat, inI, y4, tL6, fKn_eq, fPer_eq, fUp_eq, fAdd_eq, fSub_eq, pairV, decide_true]
  (repeat' apply And.intro) <;> (try first | omega | ((fail_if_success (refine (id : AW _ _ _ _ _ → AW _ _ _ _ _) ?_)); (fail_if_success (refine (id : EStep _ _ _ _ _ _ _ → EStep _ _ _ _ _ _ _) ?_)); intros; (repeat' apply And.intro) <;> first | assumption | omega | (simp_all; done)))
  refine aw_ret ?_
  show Q _ _
  refine hQ _ _ (.inl rfl) ?_ ?_ ?_ <;> simp only [outφ, outV, AR.res, go_sem, ↓reduceIte, Nat.reduceEqDiff, reduceCtorEq, Nat.reduceAdd, Nat.reduceLT, Nat.reduceLeDiff, Nat.reduceBNe, Nat.reduceBEq, Int.reduceToNat, fL6, decide_eq_true y2, decide_eq_true y3, Bool.and_true]
end Go.Proofs.YtdjeodopibaebaaDoor
