/- Split of the reference, walked. -/
import Derived.Test.YtfjgnfgadkajnaaGreatMo8
namespace Go.Proofs.YtfjgnfgadkajnaaGreat
open Go Go.RowKit
set_option linter.unusedSimpArgs false
set_option linter.unusedVariables false
set_option linter.deprecated false
theorem mix_len {f : Int → Int} {ys : List Int} {i : Nat} (hi : i ≤ ys.length) : ((ys.map f).take i ++ ys.drop i).length = ys.length := by
  rw [List.length_append, List.length_take, List.length_map, List.length_drop]; omega
theorem mix_at {f : Int → Int} {ys : List Int} {i : Nat} (hi : i < ys.length) (h : i < ((ys.map f).take i ++ ys.drop i).length) : ((ys.map f).take i ++ ys.drop i)[i] = ys[i] := by
  have h1 : ((ys.map f).take i).length = i := by rw [List.length_take, List.length_map]; omega
  rw [List.getElem_append_right (by omega)]
  simp [h1]
theorem mix_set {f : Int → Int} {ys : List Int} {i : Nat} (hi : i < ys.length) : ((ys.map f).take i ++ ys.drop i).set i (f ys[i]) = (ys.map f).take (i + 1) ++ ys.drop (i + 1) := by
  have h1 : ((ys.map f).take i).length = i := by rw [List.length_take, List.length_map]; omega
  rw [List.set_append_right _ _ (by omega), h1, Nat.sub_self, List.drop_eq_getElem_cons hi, List.set_cons_zero, List.take_succ_eq_append_getElem (show i < (ys.map f).length by rw [List.length_map]; exact hi), List.getElem_map, List.append_assoc]
  rfl
theorem mix_keep {f : Int → Int} {ys : List Int} {i : Nat} (hi : i < ys.length) (hf : f ys[i] = ys[i]) : (ys.map f).take i ++ ys.drop i = (ys.map f).take (i + 1) ++ ys.drop (i + 1) := by
  rw [← mix_set hi, hf, ← mix_at (f := f) hi (by rw [mix_len (by omega)]; exact hi), List.set_getElem_self]
theorem tot_big : ∀ {l : List Int} {s : Int}, 1099511627776 < s → (∀ w ∈ l, 0 ≤ w) → totR s l = (s, 0)
  | [], s, h, _ => by rw [totR, if_neg (by omega)]
  | w :: l, s, h, hn => by
    rw [totR, if_neg (by have := hn w (List.mem_cons_self ..); omega), show stepT s w = s by unfold stepT; rw [if_neg (by omega)]]
    exact tot_big h fun x hx => hn x (List.mem_cons_of_mem _ hx)
theorem run_tot : ∀ {l : List Int} {s : Int}, 0 ≤ s → s ≤ 1099511627776 → (∀ w ∈ l, 0 ≤ w) → (runW s l = (0, 11) ∧ ∃ T, totR s l = (T, 0) ∧ 1099511627776 < T) ∨ (runW s l = totR s l ∧ (totR s l).1 ≤ 1099511627776)
  | [], s, h0, h1, _ => .inr ⟨rfl, by rw [totR]; split <;> simp_all⟩
  | w :: l, s, h0, h1, hn => by
    have hw := hn w (List.mem_cons_self ..)
    have hl : ∀ x ∈ l, 0 ≤ x := fun x hx => hn x (List.mem_cons_of_mem _ hx)
    rw [runW, totR, if_neg (show ¬ w < 0 by omega)]
    have hst : stepT s w = s + min w 1099511627777 := by unfold stepT; rw [if_pos (by omega)]
    rw [hst]
    split
    · exact .inl ⟨rfl, _, tot_big (by omega) hl, by omega⟩
    · rw [show min w 1099511627777 = w by omega]
      exact run_tot (by omega) (by omega) hl
theorem tot_neg : ∀ {l : List Int} {s : Int}, l.any (fun w => decide (w < 0)) = true → totR s l = (0, 2)
  | [], s, h => by simp at h
  | w :: l, s, h => by
    rw [totR]
    split
    · rfl
    · rename_i c
      rw [List.any_cons, decide_eq_false c, Bool.false_or] at h
      exact tot_neg h
/-- What the sum of weights tells of Split. -/
theorem wgh_split (a : Int) (l : List Int) : ((wghM l).2 ≠ 0 → splitM a l = ((wghM l).2, [])) ∧ ((wghM l).2 = 0 → totR 0 l = ((wghM l).1, 0) ∧ (wghM l).1 ≤ 1099511627776) := by
  unfold wghM
  by_cases hany : l.any (fun w => decide (w < 0)) = true
  · rw [if_pos hany]
    have := tot_neg (s := 0) hany
    exact ⟨fun _ => by unfold splitM; rw [this]; rfl, fun h => by cases h⟩
  · rw [if_neg hany]
    have hn : ∀ w ∈ l, 0 ≤ w := fun w hw => by
      have := List.any_eq_false.1 (Bool.eq_false_iff.2 hany) w hw
      simpa using this
    rcases run_tot (Int.le_refl 0) (by omega) hn with ⟨h1, T, h2, h3⟩ | ⟨h1, h2⟩
    · rw [h1]
      exact ⟨fun _ => by unfold splitM; rw [h2, if_neg (by simp), if_pos (.inr h3)], fun h => by cases h⟩
    · rw [h1]
      exact ⟨fun h => by have := tot_err (l := l) (s := 0) h; unfold splitM; rw [if_pos h, this], fun h => ⟨Prod.ext rfl h, h2⟩⟩
noncomputable def tRs : Tab
  | 30 => (gOf aLi fWgh)
  | 31 => (gOf aI fFit)
  | 32 => (gOf aI fRsz)
  | 33 => (gOf aThree fSh)
  | 34 => (gOf aLi fGr)
  | _ => gNo
theorem tRs_ok : ∀ f, PureC Tryz.prog UT f (tRs f) := fun f => by
  unfold tRs
  split
  · exact weigh_p
  · exact amount_p
  · exact rsize_p
  · exact share_p
  · exact greatest_p
  · exact PureC.no
set_option maxHeartbeats 4000000 in
theorem rsplit_p : PureC Tryz.prog UT 16 (gOf aSp fSplit) := by
  have hG := tRs_ok
  refine PureC.ofArgs aSp_inj Tryz.func16 body16 nm16 res16 ?_
  rintro ⟨a, l⟩ hv
  refine ⟨by rw [nt16]; simp [aSp], fun C hN Q hQ => ?_⟩
  rw [nt16] at hN
  unfold c16
  obtain ⟨hl, hia, hil⟩ : l.length ≤ 1000000 ∧ inI a ∧ ∀ w ∈ l, inI w := hv
  have hl2 : l.length ≤ 140737488355328 := by omega
  obtain ⟨w1, w2⟩ := wgh_split a l
  obtain ⟨⟨S, e⟩, htr⟩ : ∃ y, wghM l = y := ⟨_, rfl⟩
  rw [htr] at w1 w2
  dsimp only at w1 w2
  refine aw_seq (aw_region (EF := EF0) hG (by rw [hN]; exact tr16_0) ?_)
  simp only [a16_0, go_sem, simprocAttr, aSp, tRs, fWgh_eq, fFit_eq, fRsz_eq, fSh_eq]
  refine aw_seq (aw_region (EF := EF0) hG (by rw [hN]; exact tr16_1) ?_)
  simp only [a16_1, go_sem, simprocAttr, hl2, htr, pairV, tRs, fWgh_eq, fFit_eq, fRsz_eq, fSh_eq]
  (repeat' apply And.intro) <;> (try first | omega | ((fail_if_success refine idW ?_); (fail_if_success refine idS ?_); intros; (repeat' apply And.intro) <;> first | assumption | omega | (simp_all; done)))
  refine aw_seq ?_
  refine aw_seq (aw_region (EF := EF0) hG (by rw [hN]; exact tr16_2) ?_)
  simp only [a16_2, go_sem, simprocAttr, tRs, fWgh_eq, fFit_eq, fRsz_eq, fSh_eq]
  refine aw_cond (b := _) rfl (fun hb2 => ?_) (fun hb2 => ?_)
  · skip
    have he : e ≠ 0 := by simpa using hb2
    have hsp := w1 he
    refine aw_seq (aw_region (EF := EF0) hG (by rw [hN]; exact tr16_3) ?_)
    simp only [a16_3, go_sem, simprocAttr, tRs, fWgh_eq, fFit_eq, fRsz_eq, fSh_eq]
    refine AW.le (s' := ⟨mkE [(4, .list [] false), (5, .int .i64 e)], mkH []⟩) (Le.mk _ _ ?_ ?_ rfl) (aw_ret (hQ _ _ (.inl rfl) ?_ ?_ ?_)) <;> simp only [outφ, outV, AR.res, go_sem, simprocAttr, fSplit, shareV, hsp, ints_nil]
  · skip
    have he : e = 0 := by simpa using hb2
    obtain ⟨htt, hSm⟩ := w2 he
    obtain ⟨hnn, hsum, hS0⟩ := tot_ok htt hSm (Int.le_refl 0)
    rw [Int.zero_add] at hsum
    refine aw_skip ?_
    try simp only [go_sem, simprocAttr]
    refine aw_seq ?_
    refine aw_seq (aw_region (EF := EF0) hG (by rw [hN]; exact tr16_4) ?_)
    simp only [a16_4, go_sem, simprocAttr, tRs, fWgh_eq, fFit_eq, fRsz_eq, fSh_eq]
    (repeat' apply And.intro) <;> (try first | omega | ((fail_if_success refine idW ?_); (fail_if_success refine idS ?_); intros; (repeat' apply And.intro) <;> first | assumption | omega | (simp_all; done)))
    refine aw_cond (b := _) rfl (fun hb4 => ?_) (fun hb4 => ?_)
    · skip
      have hf : fitB a = false := by simpa using hb4
      have hsp : splitM a l = (11, []) := by unfold splitM; rw [htt, if_neg (by simp), if_pos (.inl hf)]
      refine aw_seq (aw_region (EF := EF0) hG (by rw [hN]; exact tr16_5) ?_)
      simp only [a16_5, go_sem, simprocAttr, tRs, fWgh_eq, fFit_eq, fRsz_eq, fSh_eq]
      refine AW.le (s' := ⟨mkE [(4, .list [] false), (5, .int .i64 11)], mkH []⟩) (Le.mk _ _ ?_ ?_ rfl) (aw_ret (hQ _ _ (.inl rfl) ?_ ?_ ?_)) <;> simp only [outφ, outV, AR.res, go_sem, simprocAttr, fSplit, shareV, hsp, ints_nil]
    · skip
      have hf : fitB a = true := by simpa using hb4
      have hle : ∀ w ∈ l, w ≤ S := fun w hw => hsum ▸ mem_le_sum hnn w hw
      have hsp : splitM a l = (0, sharesM a S l) := by unfold splitM; rw [htt, if_neg (by simp), if_neg (by rw [hf]; simp; omega)]
      have hlen0 : 0 < l.length := by cases l with | nil => (simp at hsum; omega) | cons x l => simp
      rw [shares_ref hS0 hsum hlen0] at hsp
      obtain ⟨A, hA⟩ : ∃ A, A = (a.natAbs : Int) := ⟨_, rfl⟩
      have hfb := fitB_bd hf
      have hA0 : 0 ≤ A ∧ A ≤ 1099511627776 := by omega
      have hamn : a ≠ -9223372036854775808 := by omega
      obtain ⟨qs1, hqs1⟩ : ∃ Q, Q = qsP A S l := ⟨_, rfl⟩
      obtain ⟨rs1, hrs1⟩ : ∃ R, R = rsP A S l := ⟨_, rfl⟩
      rw [← hA, ← hqs1, ← hrs1] at hsp
      have lqs1 : qs1.length = l.length := by rw [hqs1]; exact List.length_map _
      have lrs1 : rs1.length = l.length := by rw [hrs1]; exact List.length_map _
      have bqs1 : ∀ x ∈ qs1, 0 ≤ x ∧ x ≤ 1099511627776 := fun x hx => by rw [hqs1] at hx; obtain ⟨w, hw, rfl⟩ := List.mem_map.1 hx; have := q_bd hA0.1 (hnn w hw) (hle w hw) hS0; exact ⟨this.1, by omega⟩
      refine aw_skip ?_
      try simp only [go_sem, simprocAttr]
      refine aw_seq (aw_region (EF := EF0) hG (by rw [hN]; exact tr16_6) ?_)
      simp only [a16_6, go_sem, simprocAttr, tRs, fWgh_eq, fFit_eq, fRsz_eq, fSh_eq]
      refine aw_seq (aw_region (EF := EF0) hG (by rw [hN]; exact tr16_7) ?_)
      simp only [a16_7, go_sem, simprocAttr, hia, hamn, ← hA, tRs, fWgh_eq, fFit_eq, fRsz_eq, fSh_eq]
      (repeat' apply And.intro) <;> (try first | omega | ((fail_if_success refine idW ?_); (fail_if_success refine idS ?_); intros; (repeat' apply And.intro) <;> first | assumption | omega | (simp_all; done)))
      refine aw_seq ?_
      refine aw_seq (aw_region (EF := EF0) hG (by rw [hN]; exact tr16_8) ?_)
      simp only [a16_8, go_sem, simprocAttr, tRs, fWgh_eq, fFit_eq, fRsz_eq, fSh_eq]
      refine aw_block ?_
      refine aw_loop (α := Nat × (List Int) × (List Int)) (fun γ => (γ.1 ≤ l.length) ∧ (γ.2.1 = qs1.take γ.1) ∧ (γ.2.2 = rs1.take γ.1) ∧ (γ.2.1.length = γ.1) ∧ (γ.2.2.length = γ.1)) (fun γ => ⟨mkE [(0, V.int IntKind.i64 a), (1, V.list (ints l) false), (6, V.int IntKind.i64 S), (8, .own 49 γ.2.1.length), (9, .own 53 γ.2.2.length), (10, .int .i64 (A - γ.2.1.sum)), (11, .int .i64 γ.1)], mkH [(49, .arr 3 1 (ints γ.2.1)), (53, .arr 3 1 (ints γ.2.2))]⟩) (fun γ => l.length - γ.1) (0, [], []) ⟨Nat.zero_le _, rfl, rfl, rfl, rfl⟩ ?_ ?_
      · refine Le.mk _ _ ?_ ?_ rfl <;> simp only [go_sem, simprocAttr, ints_nil, List.length_nil, List.sum_nil, Int.sub_zero] <;> (repeat' apply And.intro) <;> (try first | rfl | exact wk_frzb rfl rfl rfl | exact wk_fn rfl | exact .nilo _ _ _ rfl rfl)
      · rintro ⟨i, xs, rs⟩ ⟨hi, g1, g2, g3, g4⟩ KL0 hKL0
        try dsimp only at *
        refine aw_seq ?_
        refine aw_seq (aw_region (EF := EF0) hG (by rw [hN]; exact tr16_9) ?_)
        simp only [a16_9, go_sem, simprocAttr, tRs, fWgh_eq, fFit_eq, fRsz_eq, fSh_eq]
        refine aw_cond (b := _) rfl (fun hc9 => ?_) (fun hc9 => ?_)
        · simp only [hcL] at hc9
          refine aw_skip ?_
          try simp only [go_sem, simprocAttr]
          refine aw_seq ?_
          refine aw_block ?_
          obtain ⟨w, hw⟩ : ∃ w, w = l[i] := ⟨_, rfl⟩
          have hwm : w ∈ l := hw ▸ List.getElem_mem _
          have hw0 := hnn w hwm
          have hwS := hle w hwm
          have qb := q_bd hA0.1 hw0 hwS hS0
          refine aw_seq (aw_regionD (EF := EF0) hG mixed (by rw [hN]; exact tr16_11) ok16_11 ?_)
          simp only [a16_11, d16_11, go_sem, simprocAttr, ints_getD _ _ _ hc9, hc9, ← hw, hia, hamn, ← hA, hA0.1, hA0.2, hw0, hwS, hS0, hSm, tRs, fWgh_eq, fFit_eq, fRsz_eq, fSh_eq]
          have hRi : rs1[i]'(by omega) = A * w % S := by simp only [hrs1, rsP, List.getElem_map, ← hw]
          have hQi : qs1[i]'(by omega) = A * w / S := by simp only [hqs1, qsP, List.getElem_map, ← hw]
          have hQs := sum_take_bd bqs1 i (by omega)
          rw [← g1] at hQs
          have hsap : A - (xs ++ [A * w / S]).sum = A - xs.sum - A * w / S := by rw [List.sum_append]; simp; omega
          refine aw_seq (aw_region (EF := EF0) hG (by rw [hN]; exact tr16_12) ?_)
          simp only [a16_12, go_sem, simprocAttr, tRs, fWgh_eq, fFit_eq, fRsz_eq, fSh_eq]
          (repeat' apply And.intro) <;> (try first | omega | ((fail_if_success refine idW ?_); (fail_if_success refine idS ?_); intros; (repeat' apply And.intro) <;> first | assumption | omega | (simp_all; done)))
          refine aw_seq (aw_region (EF := EF0) hG (by rw [hN]; exact tr16_13) ?_)
          simp only [a16_13, go_sem, simprocAttr, tRs, fWgh_eq, fFit_eq, fRsz_eq, fSh_eq]
          (repeat' apply And.intro) <;> (try first | omega | ((fail_if_success refine idW ?_); (fail_if_success refine idS ?_); intros; (repeat' apply And.intro) <;> first | assumption | omega | (simp_all; done)))
          refine aw_region (EF := EF0) hG (by rw [hN]; exact tr16_14) ?_
          simp only [a16_14, go_sem, simprocAttr, inI, tRs, fWgh_eq, fFit_eq, fRsz_eq, fSh_eq]
          (repeat' apply And.intro) <;> (try first | omega | ((fail_if_success refine idW ?_); (fail_if_success refine idS ?_); intros; (repeat' apply And.intro) <;> first | assumption | omega | (simp_all; done)))
          refine aw_region (EF := EF0) hG (by rw [hN]; exact tr16_10) ?_
          simp only [a16_10, go_sem, simprocAttr, inI, tRs, fWgh_eq, fFit_eq, fRsz_eq, fSh_eq]
          (repeat' apply And.intro) <;> (try first | omega | ((fail_if_success refine idW ?_); (fail_if_success refine idS ?_); intros; (repeat' apply And.intro) <;> first | assumption | omega | (simp_all; done)))
          refine hKL0 (i + 1, xs ++ [A * w / S], rs ++ [A * w % S]) _ ?_ ?_ ?_
          · (try dsimp only); exact ⟨hc9, by rw [g1, take_succ' (by omega), hQi], by rw [g2, take_succ' (by omega), hRi], by simp [g3], by simp [g4]⟩
          · (try dsimp only); omega
          · refine Le.mk _ _ ?_ ?_ rfl <;> simp only [go_sem, simprocAttr, ints_snoc, List.length_append, List.length_cons, List.length_nil, hsap] <;> (repeat' apply And.intro) <;> (try first | rfl | exact wk_frzb rfl rfl rfl | exact wk_fn rfl | exact .nilo _ _ _ rfl rfl)
        · simp only [hcL] at hc9
          obtain rfl : i = l.length := by omega
          rw [List.take_of_length_le (by omega)] at g1 g2
          subst g1 g2
          obtain ⟨b1, b2⟩ := left_bd (A := A) hS0 hsum hlen0
          rw [← hqs1] at b1 b2
          obtain ⟨L0, hL0⟩ := Int.eq_ofNat_of_zero_le b1
          rw [hL0, Int.toNat_natCast] at hsp
          rw [hL0]
          refine aw_exit ?_
          simp only [go_sem, simprocAttr]
          refine aw_seq ?_
          refine aw_block ?_
          refine aw_loop (α := Nat × (List Int) × (List Int)) (fun γ => (pickR L0 rs xs = pickR γ.1 γ.2.2 γ.2.1) ∧ (γ.2.1.length = l.length) ∧ (γ.2.2.length = l.length) ∧ ((∀ x ∈ γ.2.1, 0 ≤ x ∧ x + (γ.1 : Int) ≤ 1099511627776 + L0)) ∧ (γ.1 ≤ L0)) (fun γ => ⟨mkE [(0, V.int IntKind.i64 a), (8, .own 49 l.length), (9, .own 53 l.length), (10, .int .i64 γ.1)], mkH [(49, .arr 3 1 (ints γ.2.1)), (53, .arr 3 1 (ints γ.2.2))]⟩) (fun γ => γ.1) (L0, xs, rs) ⟨rfl, lqs1, lrs1, fun x hx => (by have := bqs1 x hx; omega), Nat.le_refl _⟩ ?_ ?_
          · refine Le.mk _ _ ?_ ?_ rfl <;> simp only [go_sem, simprocAttr, lqs1, lrs1] <;> (repeat' apply And.intro) <;> (try first | rfl | exact wk_frzb rfl rfl rfl | exact wk_fn rfl | exact .nilo _ _ _ rfl rfl)
          · rintro ⟨k, ys, ts⟩ ⟨p1, p2, p3, p4, p5⟩ KL2 hKL2
            try dsimp only at *
            refine aw_seq ?_
            refine aw_seq (aw_region (EF := EF0) hG (by rw [hN]; exact tr16_15) ?_)
            simp only [a16_15, go_sem, simprocAttr, tRs, fWgh_eq, fFit_eq, fRsz_eq, fSh_eq]
            refine aw_cond (b := _) rfl (fun hc15 => ?_) (fun hc15 => ?_)
            · simp only [hcL] at hc15
              refine aw_skip ?_
              try simp only [go_sem, simprocAttr]
              refine aw_block ?_
              have hne : ts ≠ [] := fun e => by rw [e] at p3; simp at p3; omega
              have htl : ts.length ≤ 140737488355328 := by omega
              obtain ⟨k, rfl⟩ : ∃ j, k = j + 1 := ⟨k - 1, by omega⟩
              obtain ⟨at', hat⟩ : ∃ m, m = maxAt ts := ⟨_, rfl⟩
              have hml : at' < l.length := by rw [hat, ← p3]; rcases (maxAt_spec ts).2 with h | h; exact h; omega
              rw [pickR, ← hat] at p1
              refine aw_seq (aw_region (EF := EF0) hG (by rw [hN]; exact tr16_16) ?_)
              simp only [a16_16, go_sem, simprocAttr, p3, fGr_eq, htl, hne, ← hat, tRs, fWgh_eq, fFit_eq, fRsz_eq, fSh_eq]
              (repeat' apply And.intro) <;> (try first | omega | ((fail_if_success refine idW ?_); (fail_if_success refine idS ?_); intros; (repeat' apply And.intro) <;> first | assumption | omega | (simp_all; done)))
              have hmy : at' < ys.length := by omega
              have hmt : at' < ts.length := by omega
              have hyb := p4 ys[at'] (List.getElem_mem hmy)
              refine aw_seq (aw_region (EF := EF0) hG (by rw [hN]; exact tr16_17) ?_)
              simp only [a16_17, go_sem, simprocAttr, inI, p2, hml, ints_getD _ _ _ hmy, ints_set, tRs, fWgh_eq, fFit_eq, fRsz_eq, fSh_eq]
              (repeat' apply And.intro) <;> (try first | omega | ((fail_if_success refine idW ?_); (fail_if_success refine idS ?_); intros; (repeat' apply And.intro) <;> first | assumption | omega | (simp_all; done)))
              refine aw_seq (aw_region (EF := EF0) hG (by rw [hN]; exact tr16_18) ?_)
              simp only [a16_18, go_sem, simprocAttr, p3, hml, ints_getD _ _ _ hmt, ints_set, tRs, fWgh_eq, fFit_eq, fRsz_eq, fSh_eq]
              (repeat' apply And.intro) <;> (try first | omega | ((fail_if_success refine idW ?_); (fail_if_success refine idS ?_); intros; (repeat' apply And.intro) <;> first | assumption | omega | (simp_all; done)))
              refine aw_region (EF := EF0) hG (by rw [hN]; exact tr16_19) ?_
              simp only [a16_19, go_sem, simprocAttr, inI, tRs, fWgh_eq, fFit_eq, fRsz_eq, fSh_eq]
              (repeat' apply And.intro) <;> (try first | omega | ((fail_if_success refine idW ?_); (fail_if_success refine idS ?_); intros; (repeat' apply And.intro) <;> first | assumption | omega | (simp_all; done)))
              refine hKL2 (k, ys.set at' (ys[at'] + 1), ts.set at' (-1)) _ ?_ ?_ ?_
              · (try dsimp only); exact ⟨by rw [p1, getD_i hmy], by rw [List.length_set]; exact p2, by rw [List.length_set]; exact p3, fun x hx => by rcases List.mem_or_eq_of_mem_set hx with hx | rfl; have := p4 x hx; omega; omega, by omega⟩
              · (try dsimp only); omega
              · refine Le.mk _ _ ?_ ?_ rfl <;> simp only [go_sem, simprocAttr] <;> (repeat' apply And.intro) <;> (try first | rfl | exact wk_frzb rfl rfl rfl | exact wk_fn rfl | exact .nilo _ _ _ rfl rfl)
                all_goals (try omega)
            · simp only [hcL] at hc15
              obtain rfl : k = 0 := by omega
              rw [p1, pickR] at hsp
              refine aw_exit ?_
              simp only [go_sem, simprocAttr]
              refine aw_seq ?_
              refine aw_seq (aw_region (EF := EF0) hG (by rw [hN]; exact tr16_20) ?_)
              simp only [a16_20, go_sem, simprocAttr, tRs, fWgh_eq, fFit_eq, fRsz_eq, fSh_eq]
              refine aw_block ?_
              refine aw_loop (α := Nat) (fun i => (i ≤ l.length)) (fun i => ⟨mkE [(0, V.int IntKind.i64 a), (8, V.own 49 l.length), (15, .int .i64 i)], mkH [(49, .arr 3 1 (ints ((ys.map fun q => sgn a * q).take i ++ ys.drop i)))]⟩) (fun i => l.length - i) 0 (Nat.zero_le _) ?_ ?_
              · refine Le.mk _ _ ?_ ?_ rfl <;> simp only [go_sem, simprocAttr, List.take_zero, List.drop_zero, List.nil_append] <;> (repeat' apply And.intro) <;> (try first | rfl | exact wk_frzb rfl rfl rfl | exact wk_fn rfl | exact .nilo _ _ _ rfl rfl)
              · rintro i hi KL4 hKL4
                try dsimp only at *
                refine aw_seq ?_
                have hml := mix_len (f := fun q => sgn a * q) (show i ≤ ys.length by omega)
                rw [p2] at hml
                refine aw_seq (aw_region (EF := EF0) hG (by rw [hN]; exact tr16_21) ?_)
                simp only [a16_21, go_sem, simprocAttr, p2, hml, tRs, fWgh_eq, fFit_eq, fRsz_eq, fSh_eq]
                refine aw_cond (b := _) rfl (fun hc21 => ?_) (fun hc21 => ?_)
                · simp only [hcL] at hc21
                  refine aw_skip ?_
                  try simp only [go_sem, simprocAttr]
                  refine aw_seq ?_
                  refine aw_block ?_
                  have hiy : i < ys.length := by omega
                  have him : i < ((ys.map fun q => sgn a * q).take i ++ ys.drop i).length := by omega
                  have hyb := p4 ys[i] (List.getElem_mem hiy)
                  refine aw_seq (aw_region (EF := EF0) hG (by rw [hN]; exact tr16_23) ?_)
                  simp only [a16_23, go_sem, simprocAttr, tRs, fWgh_eq, fFit_eq, fRsz_eq, fSh_eq]
                  refine aw_cond (b := _) rfl (fun hc23 => ?_) (fun hc23 => ?_)
                  · simp only [hcL] at hc23
                    have hsg : sgn a * ys[i] = -ys[i] := by unfold sgn; rw [if_pos (by omega)]; omega
                    have hms := mix_set (f := fun q => sgn a * q) hiy
                    rw [hsg] at hms
                    refine aw_region (EF := EF0) hG (by rw [hN]; exact tr16_24) ?_
                    simp only [a16_24, go_sem, simprocAttr, inI, hml, hc21, ints_getD _ _ _ him, mix_at hiy him, ints_set, hms, tRs, fWgh_eq, fFit_eq, fRsz_eq, fSh_eq]
                    (repeat' apply And.intro) <;> (try first | omega | ((fail_if_success refine idW ?_); (fail_if_success refine idS ?_); intros; (repeat' apply And.intro) <;> first | assumption | omega | (simp_all; done)))
                    refine aw_region (EF := EF0) hG (by rw [hN]; exact tr16_22) ?_
                    simp only [a16_22, go_sem, simprocAttr, inI, tRs, fWgh_eq, fFit_eq, fRsz_eq, fSh_eq]
                    (repeat' apply And.intro) <;> (try first | omega | ((fail_if_success refine idW ?_); (fail_if_success refine idS ?_); intros; (repeat' apply And.intro) <;> first | assumption | omega | (simp_all; done)))
                    refine hKL4 (i + 1) _ ?_ ?_ ?_
                    · (try dsimp only); exact hc21
                    · (try dsimp only); omega
                    · refine Le.mk _ _ ?_ ?_ rfl <;> simp only [go_sem, simprocAttr] <;> (repeat' apply And.intro) <;> (try first | rfl | exact wk_frzb rfl rfl rfl | exact wk_fn rfl | exact .nilo _ _ _ rfl rfl)
                  · simp only [hcL] at hc23
                    have hsg1 : sgn a * ys[i] = ys[i] := by unfold sgn; rw [if_neg (by omega)]; omega
                    refine aw_skip ?_
                    try simp only [go_sem, simprocAttr]
                    refine aw_region (EF := EF0) hG (by rw [hN]; exact tr16_22) ?_
                    simp only [a16_22, go_sem, simprocAttr, inI, tRs, fWgh_eq, fFit_eq, fRsz_eq, fSh_eq]
                    (repeat' apply And.intro) <;> (try first | omega | ((fail_if_success refine idW ?_); (fail_if_success refine idS ?_); intros; (repeat' apply And.intro) <;> first | assumption | omega | (simp_all; done)))
                    refine hKL4 (i + 1) _ ?_ ?_ ?_
                    · (try dsimp only); exact hc21
                    · (try dsimp only); omega
                    · refine Le.mk _ _ ?_ ?_ rfl <;> simp only [go_sem, simprocAttr, ← mix_keep hiy hsg1] <;> (repeat' apply And.intro) <;> (try first | rfl | exact wk_frzb rfl rfl rfl | exact wk_fn rfl | exact .nilo _ _ _ rfl rfl)
                · simp only [hcL] at hc21
                  obtain rfl : i = l.length := by omega
                  have hfull : (ys.map fun q => sgn a * q).take l.length ++ ys.drop l.length = ys.map fun q => sgn a * q := by rw [List.take_of_length_le (by rw [List.length_map]; omega), List.drop_eq_nil_of_le (by omega), List.append_nil]
                  refine aw_exit ?_
                  simp only [go_sem, simprocAttr]
                  refine aw_seq (aw_region (EF := EF0) hG (by rw [hN]; exact tr16_25) ?_)
                  simp only [a16_25, go_sem, simprocAttr, tRs, fWgh_eq, fFit_eq, fRsz_eq, fSh_eq]
                  refine AW.le (s' := ⟨mkE [(4, .list (ints (ys.map fun q => sgn a * q)) false), (5, .int .i64 0)], mkH []⟩) (Le.mk _ _ ?_ ?_ rfl) (aw_ret (hQ _ _ (.inl rfl) ?_ ?_ ?_)) <;> simp only [outφ, outV, AR.res, go_sem, simprocAttr, fSplit, shareV, hsp, hfull]
                  · exact wk_frz rfl (by rw [ints_len, List.length_map, p2]) rfl (ints_pur _)
end Go.Proofs.YtfjgnfgadkajnaaGreat
