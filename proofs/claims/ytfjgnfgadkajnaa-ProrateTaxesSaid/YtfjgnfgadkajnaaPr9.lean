/- The statements of the chapter: shares of carriers, taxes. -/
import Derived.Test.YtfjgnfgadkajnaaPr8
namespace Go.Proofs.Ytfjgnfgadkajnaa
open Go Go.RowKit
set_option linter.unusedSimpArgs false
set_option linter.unusedVariables false
set_option linter.deprecated false
structure OutF {α : Type} (nm : α → List UInt8) (am : α → Int) (P : NA) (a : List α) (e : Int) : Prop where
  err : e ≠ 0 → a = []
  len : a.length ≤ P.length
  sum : e = 0 → (a.map am).sum = (P.map (·.2)).sum
  fitP : e = 0 → ∀ p ∈ P, -1099511627776 ≤ p.2 ∧ p.2 ≤ 1099511627776
  fitA : ∀ x ∈ a, -1099511627776 ≤ am x ∧ am x ≤ 1099511627776
  rise : ∀ i (h : i < a.length) (h' : i - 1 < a.length), 0 < i → slt (nm a[i - 1]) (nm a[i]) = true
theorem zipW_am {α : Type} (mk : List UInt8 → Int → α) (am : α → Int) (h : ∀ n v, am (mk n v) = v) : ∀ {ns : List (List UInt8)} {av : List Int}, av.length = ns.length → (List.zipWith mk ns av).map am = av
  | [], [], _ => rfl
  | n :: ns, v :: av, hl => by rw [List.zipWith_cons_cons, List.map_cons, h, zipW_am mk am h (by simpa using hl)]
theorem out_facts {α : Type} (mk : List UInt8 → Int → α) (nm : α → List UInt8) (am : α → Int) (hn : ∀ n v, nm (mk n v) = n) (ha : ∀ n v, am (mk n v) = v) (P : NA) : OutF nm am P (List.zipWith mk (uR P).1 (uR P).2.1) (uR P).2.2 := by
  unfold uR
  cases h : upP P with
  | none => exact ⟨fun _ => rfl, by simp [uRes], fun e => by simp [uRes] at e, fun e => by simp [uRes] at e, fun x hx => by simp [uRes] at hx, fun i hi => by simp [uRes] at hi⟩
  | some av =>
    have F := upP_facts h
    show OutF nm am P (List.zipWith mk (namesP P) av) 0
    have hz := zipW_am mk am ha F.len
    refine ⟨fun e => absurd rfl e, by rw [List.length_zipWith]; have := F.le; omega, fun _ => by rw [hz]; exact F.sum, fun _ p hp => fitB_bd (F.fit p hp), fun x hx => ?_, fun i h1 h2 h0 => ?_⟩
    · have : am x ∈ av := by rw [← hz]; exact List.mem_map.2 ⟨x, hx, rfl⟩
      exact fitB_bd (F.fits _ this)
    · rw [List.length_zipWith] at h1 h2
      simp only [List.getElem_zipWith, hn]
      exact F.rise i (by omega) (by omega) h0
theorem sum_ms {α : Type} (f : α → Int) {a : List α} {i : Nat} (h : i < a.length) : ((a.take (i + 1)).map f).sum = ((a.take i).map f).sum + f a[i] := by
  rw [take_succ' h, List.map_append, List.sum_append]; simp
theorem big_no {t : Ticket} {o : List (List UInt8)} (h : bigB t o = false) : t.coupons.length ≤ 12 ∧ t.taxes.length ≤ 12 ∧ o.length ≤ 20 ∧ (∀ s ∈ o, s.length ≤ 100) ∧ ∀ c ∈ t.taxes, c.code.length ≤ 100 := by
  unfold bigB at h
  simp only [Bool.or_eq_false_iff, decide_eq_false_iff_not, List.any_eq_false, decide_eq_true_eq] at h
  exact ⟨by omega, by omega, by omega, fun s hs => by have := h.1.2 s hs; omega, fun c hc => by have := h.2 c hc; omega⟩
theorem tax_out {l : List Ticket} {a : List Charge} {e : Int} (h : taxM l = (a, e)) : OutF Charge.code Charge.amount (txS l) a e := by
  have := out_facts Charge.mk Charge.code Charge.amount (fun _ _ => rfl) (fun _ _ => rfl) (txS l)
  unfold taxM chargesZ at h
  injection h with h1 h2
  rw [h1, h2] at this
  exact this
theorem txS_map {l : List Ticket} {i : Nat} (h : i < l.length) : (txS (l.take (i + 1))).map (·.2) = (txS (l.take i)).map (·.2) ++ l[i].taxes.map Charge.amount := by
  rw [txS_step h, List.map_append, List.map_map]; rfl
theorem txS_in {l : List Ticket} {t : Ticket} {c : Charge} (ht : t ∈ l) (hc : c ∈ t.taxes) : chP c ∈ txS l := List.mem_flatMap.2 ⟨t, ht, List.mem_map.2 ⟨c, hc, rfl⟩⟩
def fL3 (l : List Ticket) : Prop × V := (l.length ≤ 140737488355328 ∧ ∀ t ∈ l, t.ok, .bool true)
noncomputable def tL3 : Tab
  | 9 => (gNn (gOf aShr fBig))
  | 7 => (gOf aUnit fTrue)
  | 12 => (gOf aTax fTax)
  | 13 => (gOf aTax fTax)
  | _ => gNo
theorem tL3_ok : ∀ f, PureC Try.prog UT f (tL3 f) := fun f => by
  unfold tL3
  split
  · exact big_p.nn
  · exact awake_p39
  · exact taxes_p
  · exact rtaxes_p
  · exact PureC.no
set_option maxHeartbeats 8000000 in
theorem law3_p : PureC Try.prog UT 5 (gOf aTax fL3) := by
  have hG := tL3_ok
  refine PureC.ofArgs aTax_inj Try.func5 body5 nm5 res5 ?_
  rintro l hv
  refine ⟨by rw [nt5]; simp [aTax], fun C hN Q hQ => ?_⟩
  rw [nt5] at hN
  unfold c5
  obtain ⟨hl0, hok⟩ : l.length ≤ 140737488355328 ∧ ∀ t ∈ l, t.ok := hv
  refine aw_seq (aw_region (EF := EF0) hG (by rw [hN]; exact tr5_0) ?_)
  simp only [a5_0, go_sem, ↓reduceIte, Nat.reduceEqDiff, reduceCtorEq, Nat.reduceAdd, Nat.reduceLT, Nat.reduceLeDiff, Nat.reduceBNe, Nat.reduceBEq, Int.reduceToNat, aTax, tL3, fBig_eqn, fTax_eq, fAw_eq]
  refine aw_seq ?_
  refine aw_seq (aw_region (EF := EF0) hG (by rw [hN]; exact tr5_1) ?_)
  simp only [a5_1, go_sem, ↓reduceIte, Nat.reduceEqDiff, reduceCtorEq, Nat.reduceAdd, Nat.reduceLT, Nat.reduceLeDiff, Nat.reduceBNe, Nat.reduceBEq, Int.reduceToNat, List.length_map, tL3, fBig_eqn, fTax_eq, fAw_eq]
  refine aw_cond (b := _) rfl (fun hc1 => ?_) (fun hc1 => ?_)
  · simp only [decide_eq_true_eq, decide_eq_false_iff_not, Bool.and_eq_true, Bool.or_eq_true, Bool.not_eq_true', Bool.not_eq_false', Bool.and_eq_false_iff, Bool.or_eq_false_iff, Int.ofNat_lt, Int.ofNat_le, Nat.not_lt, Nat.not_le, Int.not_lt, Int.not_le] at hc1
    refine aw_seq (aw_region (EF := EF0) hG (by rw [hN]; exact tr5_2) ?_)
    simp only [a5_2, go_sem, ↓reduceIte, Nat.reduceEqDiff, reduceCtorEq, Nat.reduceAdd, Nat.reduceLT, Nat.reduceLeDiff, Nat.reduceBNe, Nat.reduceBEq, Int.reduceToNat, tL3, fBig_eqn, fTax_eq, fAw_eq]
    (repeat' apply And.intro) <;> (try first | omega | ((fail_if_success (refine (id : AW _ _ _ _ _ → AW _ _ _ _ _) ?_)); (fail_if_success (refine (id : EStep _ _ _ _ _ _ _ → EStep _ _ _ _ _ _ _) ?_)); intros; (repeat' apply And.intro) <;> first | assumption | omega | (simp_all; done)))
    refine aw_ret ?_
    show Q _ _
    refine hQ _ _ (.inl rfl) ?_ ?_ ?_ <;> simp only [outφ, outV, AR.res, go_sem, ↓reduceIte, Nat.reduceEqDiff, reduceCtorEq, Nat.reduceAdd, Nat.reduceLT, Nat.reduceLeDiff, Nat.reduceBNe, Nat.reduceBEq, Int.reduceToNat, fL3]
  · simp only [decide_eq_true_eq, decide_eq_false_iff_not, Bool.and_eq_true, Bool.or_eq_true, Bool.not_eq_true', Bool.not_eq_false', Bool.and_eq_false_iff, Bool.or_eq_false_iff, Int.ofNat_lt, Int.ofNat_le, Nat.not_lt, Nat.not_le, Int.not_lt, Int.not_le] at hc1
    refine aw_skip ?_
    try simp only [go_sem, ↓reduceIte, Nat.reduceEqDiff, reduceCtorEq, Nat.reduceAdd, Nat.reduceLT, Nat.reduceLeDiff, Nat.reduceBNe, Nat.reduceBEq, Int.reduceToNat]
    refine aw_seq (aw_region (EF := EF0) hG (by rw [hN]; exact tr5_3) ?_)
    simp only [a5_3, go_sem, ↓reduceIte, Nat.reduceEqDiff, reduceCtorEq, Nat.reduceAdd, Nat.reduceLT, Nat.reduceLeDiff, Nat.reduceBNe, Nat.reduceBEq, Int.reduceToNat, tL3, fBig_eqn, fTax_eq, fAw_eq]
    refine aw_seq ?_
    refine aw_seq (aw_region (EF := EF0) hG (by rw [hN]; exact tr5_4) ?_)
    simp only [a5_4, go_sem, ↓reduceIte, Nat.reduceEqDiff, reduceCtorEq, Nat.reduceAdd, Nat.reduceLT, Nat.reduceLeDiff, Nat.reduceBNe, Nat.reduceBEq, Int.reduceToNat, tL3, fBig_eqn, fTax_eq, fAw_eq]
    refine aw_block ?_
    refine aw_loop (α := Nat) (fun i => (i ≤ l.length) ∧ (∀ t ∈ l.take i, bigB t [] = false)) (fun i => ⟨mkE [(0, V.list (List.map Ticket.enc l) false), (3, V.int IntKind.i64 0), (4, .int .i64 i)], mkH []⟩) (fun i => l.length - i) 0 (by simp) ?_ ?_
    · refine Le.mk _ _ ?_ ?_ rfl <;> simp only [go_sem, ↓reduceIte, Nat.reduceEqDiff, reduceCtorEq, Nat.reduceAdd, Nat.reduceLT, Nat.reduceLeDiff, Nat.reduceBNe, Nat.reduceBEq, Int.reduceToNat] <;> (repeat' apply And.intro) <;> (try first | rfl | exact wk_frzb rfl rfl rfl | exact wk_fn rfl | exact .nilo _ _ _ rfl rfl | exact wk_frzm rfl rfl (fun kv hk => by obtain ⟨_, _, rfl⟩ := List.mem_map.1 hk; rfl))
    · rintro i ⟨hi, hp⟩ KL0 hKL0
      try dsimp only at *
      refine aw_seq ?_
      refine aw_seq (aw_region (EF := EF0) hG (by rw [hN]; exact tr5_5) ?_)
      simp only [a5_5, go_sem, ↓reduceIte, Nat.reduceEqDiff, reduceCtorEq, Nat.reduceAdd, Nat.reduceLT, Nat.reduceLeDiff, Nat.reduceBNe, Nat.reduceBEq, Int.reduceToNat, List.length_map, tL3, fBig_eqn, fTax_eq, fAw_eq]
      refine aw_cond (b := _) rfl (fun hc5 => ?_) (fun hc5 => ?_)
      · simp only [decide_eq_true_eq, decide_eq_false_iff_not, Bool.and_eq_true, Bool.or_eq_true, Bool.not_eq_true', Bool.not_eq_false', Bool.and_eq_false_iff, Bool.or_eq_false_iff, Int.ofNat_lt, Int.ofNat_le, Nat.not_lt, Nat.not_le, Int.not_lt, Int.not_le] at hc5
        have htk := hok _ (List.getElem_mem hc5)
        have hbg : BgOk l[i] [] := ⟨htk.2.2.2.1.1, htk.2.2.2.2.2.1.1, by simp⟩
        refine aw_skip ?_
        try simp only [go_sem, ↓reduceIte, Nat.reduceEqDiff, reduceCtorEq, Nat.reduceAdd, Nat.reduceLT, Nat.reduceLeDiff, Nat.reduceBNe, Nat.reduceBEq, Int.reduceToNat]
        refine aw_seq ?_
        refine aw_block ?_
        refine aw_seq (aw_region (EF := EF0) hG (by rw [hN]; exact tr5_7) ?_)
        simp only [a5_7, go_sem, ↓reduceIte, Nat.reduceEqDiff, reduceCtorEq, Nat.reduceAdd, Nat.reduceLT, Nat.reduceLeDiff, Nat.reduceBNe, Nat.reduceBEq, Int.reduceToNat, getD_mapd _ _ _ _ hc5, hc5, Ticket.enc, hbg, List.length_map, tL3, fBig_eqn, fTax_eq, fAw_eq]
        (repeat' apply And.intro) <;> (try first | omega | ((fail_if_success (refine (id : AW _ _ _ _ _ → AW _ _ _ _ _) ?_)); (fail_if_success (refine (id : EStep _ _ _ _ _ _ _ → EStep _ _ _ _ _ _ _) ?_)); intros; (repeat' apply And.intro) <;> first | assumption | omega | (simp_all; done)))
        refine aw_cond (b := _) rfl (fun hb7 => ?_) (fun hb7 => ?_)
        · skip
          refine aw_seq (aw_region (EF := EF0) hG (by rw [hN]; exact tr5_8) ?_)
          simp only [a5_8, go_sem, ↓reduceIte, Nat.reduceEqDiff, reduceCtorEq, Nat.reduceAdd, Nat.reduceLT, Nat.reduceLeDiff, Nat.reduceBNe, Nat.reduceBEq, Int.reduceToNat, tL3, fBig_eqn, fTax_eq, fAw_eq]
          (repeat' apply And.intro) <;> (try first | omega | ((fail_if_success (refine (id : AW _ _ _ _ _ → AW _ _ _ _ _) ?_)); (fail_if_success (refine (id : EStep _ _ _ _ _ _ _ → EStep _ _ _ _ _ _ _) ?_)); intros; (repeat' apply And.intro) <;> first | assumption | omega | (simp_all; done)))
          refine aw_ret ?_
          show Q _ _
          refine hQ _ _ (.inl rfl) ?_ ?_ ?_ <;> simp only [outφ, outV, AR.res, go_sem, ↓reduceIte, Nat.reduceEqDiff, reduceCtorEq, Nat.reduceAdd, Nat.reduceLT, Nat.reduceLeDiff, Nat.reduceBNe, Nat.reduceBEq, Int.reduceToNat, fL3]
        · skip
          refine aw_skip ?_
          try simp only [go_sem, ↓reduceIte, Nat.reduceEqDiff, reduceCtorEq, Nat.reduceAdd, Nat.reduceLT, Nat.reduceLeDiff, Nat.reduceBNe, Nat.reduceBEq, Int.reduceToNat]
          refine aw_region (EF := EF0) hG (by rw [hN]; exact tr5_6) ?_
          simp only [a5_6, go_sem, ↓reduceIte, Nat.reduceEqDiff, reduceCtorEq, Nat.reduceAdd, Nat.reduceLT, Nat.reduceLeDiff, Nat.reduceBNe, Nat.reduceBEq, Int.reduceToNat, inI, tL3, fBig_eqn, fTax_eq, fAw_eq]
          (repeat' apply And.intro) <;> (try first | omega | ((fail_if_success (refine (id : AW _ _ _ _ _ → AW _ _ _ _ _) ?_)); (fail_if_success (refine (id : EStep _ _ _ _ _ _ _ → EStep _ _ _ _ _ _ _) ?_)); intros; (repeat' apply And.intro) <;> first | assumption | omega | (simp_all; done)))
          refine hKL0 (i + 1) _ ?_ ?_ ?_
          · (try dsimp only); exact ⟨hc5, take_all (p := fun t : Ticket => bigB t [] = false) hc5 hp hb7⟩
          · (try dsimp only); omega
          · refine Le.mk _ _ ?_ ?_ rfl <;> simp only [go_sem, ↓reduceIte, Nat.reduceEqDiff, reduceCtorEq, Nat.reduceAdd, Nat.reduceLT, Nat.reduceLeDiff, Nat.reduceBNe, Nat.reduceBEq, Int.reduceToNat] <;> (repeat' apply And.intro) <;> (try first | rfl | exact wk_frzb rfl rfl rfl | exact wk_fn rfl | exact .nilo _ _ _ rfl rfl | exact wk_frzm rfl rfl (fun kv hk => by obtain ⟨_, _, rfl⟩ := List.mem_map.1 hk; rfl))
      · simp only [decide_eq_true_eq, decide_eq_false_iff_not, Bool.and_eq_true, Bool.or_eq_true, Bool.not_eq_true', Bool.not_eq_false', Bool.and_eq_false_iff, Bool.or_eq_false_iff, Int.ofNat_lt, Int.ofNat_le, Nat.not_lt, Nat.not_le, Int.not_lt, Int.not_le] at hc5
        rw [List.take_of_length_le hc5] at hp
        have hl6 : l.length ≤ 6 := by omega
        have htx : TxOk l := ⟨by omega, fun t ht => ⟨(big_no (hp t ht)).2.1, fun c hc => by have := (big_no (hp t ht)).2.2.2.2 c hc; omega⟩⟩
        obtain ⟨⟨a, e⟩, hae⟩ : ∃ y, taxM l = y := ⟨_, rfl⟩
        have F := tax_out hae
        have hPl : (txS l).length ≤ 12 * l.length := txS_len fun t ht => (htx.2 t ht).1
        have hal := F.len
        refine aw_exit ?_
        simp only [go_sem, ↓reduceIte, Nat.reduceEqDiff, reduceCtorEq, Nat.reduceAdd, Nat.reduceLT, Nat.reduceLeDiff, Nat.reduceBNe, Nat.reduceBEq, Int.reduceToNat]
        refine aw_seq (aw_region (EF := EF0) hG (by rw [hN]; exact tr5_9) ?_)
        simp only [a5_9, go_sem, ↓reduceIte, Nat.reduceEqDiff, reduceCtorEq, Nat.reduceAdd, Nat.reduceLT, Nat.reduceLeDiff, Nat.reduceBNe, Nat.reduceBEq, Int.reduceToNat, htx, hae, txV, tL3, fBig_eqn, fTax_eq, fAw_eq]
        (repeat' apply And.intro) <;> (try first | omega | ((fail_if_success (refine (id : AW _ _ _ _ _ → AW _ _ _ _ _) ?_)); (fail_if_success (refine (id : EStep _ _ _ _ _ _ _ → EStep _ _ _ _ _ _ _) ?_)); intros; (repeat' apply And.intro) <;> first | assumption | omega | (simp_all; done)))
        refine aw_seq (aw_region (EF := EF0) hG (by rw [hN]; exact tr5_10) ?_)
        simp only [a5_10, go_sem, ↓reduceIte, Nat.reduceEqDiff, reduceCtorEq, Nat.reduceAdd, Nat.reduceLT, Nat.reduceLeDiff, Nat.reduceBNe, Nat.reduceBEq, Int.reduceToNat, htx, hae, txV, tL3, fBig_eqn, fTax_eq, fAw_eq]
        (repeat' apply And.intro) <;> (try first | omega | ((fail_if_success (refine (id : AW _ _ _ _ _ → AW _ _ _ _ _) ?_)); (fail_if_success (refine (id : EStep _ _ _ _ _ _ _ → EStep _ _ _ _ _ _ _) ?_)); intros; (repeat' apply And.intro) <;> first | assumption | omega | (simp_all; done)))
        refine aw_seq ?_
        refine aw_seq (aw_region (EF := EF0) hG (by rw [hN]; exact tr5_11) ?_)
        simp only [a5_11, go_sem, ↓reduceIte, Nat.reduceEqDiff, reduceCtorEq, Nat.reduceAdd, Nat.reduceLT, Nat.reduceLeDiff, Nat.reduceBNe, Nat.reduceBEq, Int.reduceToNat, List.length_map, tL3, fBig_eqn, fTax_eq, fAw_eq]
        (repeat' apply And.intro) <;> (try first | omega | ((fail_if_success (refine (id : AW _ _ _ _ _ → AW _ _ _ _ _) ?_)); (fail_if_success (refine (id : EStep _ _ _ _ _ _ _ → EStep _ _ _ _ _ _ _) ?_)); intros; (repeat' apply And.intro) <;> first | assumption | omega | (simp_all; done)))
        refine aw_cond (b := _) rfl (fun hb11 => ?_) (fun hb11 => ?_)
        · exfalso; simp at hb11
        · skip
          refine aw_skip ?_
          try simp only [go_sem, ↓reduceIte, Nat.reduceEqDiff, reduceCtorEq, Nat.reduceAdd, Nat.reduceLT, Nat.reduceLeDiff, Nat.reduceBNe, Nat.reduceBEq, Int.reduceToNat]
          refine aw_seq ?_
          refine aw_seq (aw_region (EF := EF0) hG (by rw [hN]; exact tr5_13) ?_)
          simp only [a5_13, go_sem, ↓reduceIte, Nat.reduceEqDiff, reduceCtorEq, Nat.reduceAdd, Nat.reduceLT, Nat.reduceLeDiff, Nat.reduceBNe, Nat.reduceBEq, Int.reduceToNat, tL3, fBig_eqn, fTax_eq, fAw_eq]
          refine aw_block ?_
          refine aw_loop (α := Nat × Int) (fun γ => (γ.1 ≤ a.length) ∧ (γ.2 = -((a.take γ.1).map Charge.amount).sum) ∧ (-(1099511627776 * (γ.1 : Int)) ≤ γ.2 ∧ γ.2 ≤ 1099511627776 * (γ.1 : Int))) (fun γ => ⟨mkE [(0, V.list (List.map Ticket.enc l) false), (3, .int .i64 γ.2), (5, V.list (List.map Charge.enc a) false), (6, V.int IntKind.i64 e), (7, V.list (List.map Charge.enc a) false), (9, .int .i64 γ.1)], mkH []⟩) (fun γ => a.length - γ.1) (0, 0) ⟨Nat.zero_le _, by simp, by omega, by omega⟩ ?_ ?_
          · refine Le.mk _ _ ?_ ?_ rfl <;> simp only [go_sem, ↓reduceIte, Nat.reduceEqDiff, reduceCtorEq, Nat.reduceAdd, Nat.reduceLT, Nat.reduceLeDiff, Nat.reduceBNe, Nat.reduceBEq, Int.reduceToNat] <;> (repeat' apply And.intro) <;> (try first | rfl | exact wk_frzb rfl rfl rfl | exact wk_fn rfl | exact .nilo _ _ _ rfl rfl | exact wk_frzm rfl rfl (fun kv hk => by obtain ⟨_, _, rfl⟩ := List.mem_map.1 hk; rfl))
          · rintro ⟨i, n⟩ ⟨hi, hn, hnb⟩ KL2 hKL2
            try dsimp only at *
            refine aw_seq ?_
            refine aw_seq (aw_region (EF := EF0) hG (by rw [hN]; exact tr5_14) ?_)
            simp only [a5_14, go_sem, ↓reduceIte, Nat.reduceEqDiff, reduceCtorEq, Nat.reduceAdd, Nat.reduceLT, Nat.reduceLeDiff, Nat.reduceBNe, Nat.reduceBEq, Int.reduceToNat, List.length_map, tL3, fBig_eqn, fTax_eq, fAw_eq]
            refine aw_cond (b := _) rfl (fun hc14 => ?_) (fun hc14 => ?_)
            · simp only [decide_eq_true_eq, decide_eq_false_iff_not, Bool.and_eq_true, Bool.or_eq_true, Bool.not_eq_true', Bool.not_eq_false', Bool.and_eq_false_iff, Bool.or_eq_false_iff, Int.ofNat_lt, Int.ofNat_le, Nat.not_lt, Nat.not_le, Int.not_lt, Int.not_le] at hc14
              have hi1 : i - 1 < a.length := by omega
              have hit2 : ((i : Int) - 1).toNat = i - 1 := by omega
              have hxb := F.fitA _ (List.getElem_mem hc14)
              refine aw_skip ?_
              try simp only [go_sem, ↓reduceIte, Nat.reduceEqDiff, reduceCtorEq, Nat.reduceAdd, Nat.reduceLT, Nat.reduceLeDiff, Nat.reduceBNe, Nat.reduceBEq, Int.reduceToNat]
              refine aw_seq ?_
              refine aw_block ?_
              refine aw_seq ?_
              refine aw_seq (aw_regionD (EF := EF0) hG mixed (by rw [hN]; exact tr5_16) ok5_16 ?_)
              simp only [a5_16, d5_16, go_sem, ↓reduceIte, Nat.reduceEqDiff, reduceCtorEq, Nat.reduceAdd, Nat.reduceLT, Nat.reduceLeDiff, Nat.reduceBNe, Nat.reduceBEq, Int.reduceToNat, inI, getD_mapd _ _ _ _ hc14, hc14, getD_mapd _ _ _ _ hi1, hit2, Charge.enc, List.length_map, tL3, fBig_eqn, fTax_eq, fAw_eq]
              (repeat' apply And.intro) <;> (try first | omega | ((fail_if_success (refine (id : AW _ _ _ _ _ → AW _ _ _ _ _) ?_)); (fail_if_success (refine (id : EStep _ _ _ _ _ _ _ → EStep _ _ _ _ _ _ _) ?_)); intros; (repeat' apply And.intro) <;> first | assumption | omega | (simp_all; done)) | (intro h; refine ⟨h, ?_, ?_⟩ <;> simp only [decide_eq_true_eq] at h <;> omega))
              refine aw_cond (b := _) rfl (fun hb16 => ?_) (fun hb16 => ?_)
              · exfalso; simp at hb16; have hr := F.rise i hc14 hi1 (by omega); simp [hr] at hb16
              · skip
                refine aw_skip ?_
                try simp only [go_sem, ↓reduceIte, Nat.reduceEqDiff, reduceCtorEq, Nat.reduceAdd, Nat.reduceLT, Nat.reduceLeDiff, Nat.reduceBNe, Nat.reduceBEq, Int.reduceToNat]
                refine aw_region (EF := EF0) hG (by rw [hN]; exact tr5_18) ?_
                simp only [a5_18, go_sem, ↓reduceIte, Nat.reduceEqDiff, reduceCtorEq, Nat.reduceAdd, Nat.reduceLT, Nat.reduceLeDiff, Nat.reduceBNe, Nat.reduceBEq, Int.reduceToNat, inI, getD_mapd _ _ _ _ hc14, hc14, Charge.enc, List.length_map, tL3, fBig_eqn, fTax_eq, fAw_eq]
                (repeat' apply And.intro) <;> (try first | omega | ((fail_if_success (refine (id : AW _ _ _ _ _ → AW _ _ _ _ _) ?_)); (fail_if_success (refine (id : EStep _ _ _ _ _ _ _ → EStep _ _ _ _ _ _ _) ?_)); intros; (repeat' apply And.intro) <;> first | assumption | omega | (simp_all; done)))
                refine aw_region (EF := EF0) hG (by rw [hN]; exact tr5_15) ?_
                simp only [a5_15, go_sem, ↓reduceIte, Nat.reduceEqDiff, reduceCtorEq, Nat.reduceAdd, Nat.reduceLT, Nat.reduceLeDiff, Nat.reduceBNe, Nat.reduceBEq, Int.reduceToNat, inI, tL3, fBig_eqn, fTax_eq, fAw_eq]
                (repeat' apply And.intro) <;> (try first | omega | ((fail_if_success (refine (id : AW _ _ _ _ _ → AW _ _ _ _ _) ?_)); (fail_if_success (refine (id : EStep _ _ _ _ _ _ _ → EStep _ _ _ _ _ _ _) ?_)); intros; (repeat' apply And.intro) <;> first | assumption | omega | (simp_all; done)))
                refine hKL2 (i + 1, n - a[i].amount) _ ?_ ?_ ?_
                · (try dsimp only); exact ⟨hc14, by rw [hn, sum_ms _ hc14]; omega, by omega, by omega⟩
                · (try dsimp only); omega
                · refine Le.mk _ _ ?_ ?_ rfl <;> simp only [go_sem, ↓reduceIte, Nat.reduceEqDiff, reduceCtorEq, Nat.reduceAdd, Nat.reduceLT, Nat.reduceLeDiff, Nat.reduceBNe, Nat.reduceBEq, Int.reduceToNat] <;> (repeat' apply And.intro) <;> (try first | rfl | exact wk_frzb rfl rfl rfl | exact wk_fn rfl | exact .nilo _ _ _ rfl rfl | exact wk_frzm rfl rfl (fun kv hk => by obtain ⟨_, _, rfl⟩ := List.mem_map.1 hk; rfl))
            · simp only [decide_eq_true_eq, decide_eq_false_iff_not, Bool.and_eq_true, Bool.or_eq_true, Bool.not_eq_true', Bool.not_eq_false', Bool.and_eq_false_iff, Bool.or_eq_false_iff, Int.ofNat_lt, Int.ofNat_le, Nat.not_lt, Nat.not_le, Int.not_lt, Int.not_le] at hc14
              obtain rfl : i = a.length := by omega
              rw [List.take_length] at hn
              have hT0 : e ≠ 0 → n = 0 := fun he => by rw [hn, F.err he]; rfl
              obtain ⟨T, hT⟩ : ∃ T, T = n := ⟨_, rfl⟩
              refine aw_exit ?_
              simp only [go_sem, ↓reduceIte, Nat.reduceEqDiff, reduceCtorEq, Nat.reduceAdd, Nat.reduceLT, Nat.reduceLeDiff, Nat.reduceBNe, Nat.reduceBEq, Int.reduceToNat]
              refine aw_seq ?_
              refine aw_seq (aw_region (EF := EF0) hG (by rw [hN]; exact tr5_19) ?_)
              simp only [a5_19, go_sem, ↓reduceIte, Nat.reduceEqDiff, reduceCtorEq, Nat.reduceAdd, Nat.reduceLT, Nat.reduceLeDiff, Nat.reduceBNe, Nat.reduceBEq, Int.reduceToNat, tL3, fBig_eqn, fTax_eq, fAw_eq]
              refine aw_block ?_
              refine aw_loop (α := Nat × Int) (fun γ => (γ.1 ≤ l.length) ∧ (γ.2 = ((txS (l.take γ.1)).map (·.2)).sum) ∧ (-(13194139533312 * (γ.1 : Int)) ≤ γ.2 ∧ γ.2 ≤ 13194139533312 * (γ.1 : Int)) ∧ (e ≠ 0 → γ.1 = 0)) (fun γ => ⟨mkE [(0, V.list (List.map Ticket.enc l) false), (3, .int .i64 (T + γ.2)), (6, V.int IntKind.i64 e), (10, .int .i64 γ.1)], mkH []⟩) (fun γ => l.length - γ.1) (0, 0) ⟨Nat.zero_le _, rfl, ⟨by omega, by omega⟩, fun _ => rfl⟩ ?_ ?_
              · refine Le.mk _ _ ?_ ?_ rfl <;> simp only [go_sem, ↓reduceIte, Nat.reduceEqDiff, reduceCtorEq, Nat.reduceAdd, Nat.reduceLT, Nat.reduceLeDiff, Nat.reduceBNe, Nat.reduceBEq, Int.reduceToNat, hT, Int.add_zero] <;> (repeat' apply And.intro) <;> (try first | rfl | exact wk_frzb rfl rfl rfl | exact wk_fn rfl | exact .nilo _ _ _ rfl rfl | exact wk_frzm rfl rfl (fun kv hk => by obtain ⟨_, _, rfl⟩ := List.mem_map.1 hk; rfl))
              · rintro ⟨i, m⟩ ⟨hi, hm, hmb, he⟩ KL4 hKL4
                try dsimp only at *
                refine aw_seq ?_
                refine aw_seq (aw_region (EF := EF0) hG (by rw [hN]; exact tr5_20) ?_)
                simp only [a5_20, go_sem, ↓reduceIte, Nat.reduceEqDiff, reduceCtorEq, Nat.reduceAdd, Nat.reduceLT, Nat.reduceLeDiff, Nat.reduceBNe, Nat.reduceBEq, Int.reduceToNat, List.length_map, tL3, fBig_eqn, fTax_eq, fAw_eq]
                (repeat' apply And.intro) <;> (try first | omega | ((fail_if_success (refine (id : AW _ _ _ _ _ → AW _ _ _ _ _) ?_)); (fail_if_success (refine (id : EStep _ _ _ _ _ _ _ → EStep _ _ _ _ _ _ _) ?_)); intros; (repeat' apply And.intro) <;> first | assumption | omega | (simp_all; done)))
                refine aw_cond (b := _) rfl (fun hb20 => ?_) (fun hb20 => ?_)
                · skip
                  have hb : i < l.length ∧ e = 0 := by simpa using hb20
                  have hst := txS_map hb.1
                  have hfP := F.fitP hb.2
                  have h12 := (htx.2 _ (List.getElem_mem hb.1)).1
                  refine aw_skip ?_
                  try simp only [go_sem, ↓reduceIte, Nat.reduceEqDiff, reduceCtorEq, Nat.reduceAdd, Nat.reduceLT, Nat.reduceLeDiff, Nat.reduceBNe, Nat.reduceBEq, Int.reduceToNat]
                  refine aw_seq ?_
                  refine aw_block ?_
                  refine aw_seq (aw_region (EF := EF0) hG (by rw [hN]; exact tr5_22) ?_)
                  simp only [a5_22, go_sem, ↓reduceIte, Nat.reduceEqDiff, reduceCtorEq, Nat.reduceAdd, Nat.reduceLT, Nat.reduceLeDiff, Nat.reduceBNe, Nat.reduceBEq, Int.reduceToNat, tL3, fBig_eqn, fTax_eq, fAw_eq]
                  refine aw_block ?_
                  refine aw_loop (α := Nat × Int) (fun γ => (γ.1 ≤ l[i].taxes.length) ∧ (γ.2 = ((l[i].taxes.take γ.1).map Charge.amount).sum) ∧ (-(1099511627776 * (γ.1 : Int)) ≤ γ.2 ∧ γ.2 ≤ 1099511627776 * (γ.1 : Int))) (fun γ => ⟨mkE [(0, V.list (List.map Ticket.enc l) false), (3, .int .i64 (T + (m + γ.2))), (6, V.int IntKind.i64 e), (10, V.int IntKind.i64 ↑i), (11, .int .i64 γ.1)], mkH []⟩) (fun γ => l[i].taxes.length - γ.1) (0, 0) ⟨Nat.zero_le _, rfl, by omega, by omega⟩ ?_ ?_
                  · refine Le.mk _ _ ?_ ?_ rfl <;> simp only [go_sem, ↓reduceIte, Nat.reduceEqDiff, reduceCtorEq, Nat.reduceAdd, Nat.reduceLT, Nat.reduceLeDiff, Nat.reduceBNe, Nat.reduceBEq, Int.reduceToNat, Int.add_zero] <;> (repeat' apply And.intro) <;> (try first | rfl | exact wk_frzb rfl rfl rfl | exact wk_fn rfl | exact .nilo _ _ _ rfl rfl | exact wk_frzm rfl rfl (fun kv hk => by obtain ⟨_, _, rfl⟩ := List.mem_map.1 hk; rfl))
                  · rintro ⟨j, k⟩ ⟨hj, hk, hkb⟩ KL6 hKL6
                    try dsimp only at *
                    refine aw_seq ?_
                    refine aw_seq (aw_region (EF := EF0) hG (by rw [hN]; exact tr5_23) ?_)
                    simp only [a5_23, go_sem, ↓reduceIte, Nat.reduceEqDiff, reduceCtorEq, Nat.reduceAdd, Nat.reduceLT, Nat.reduceLeDiff, Nat.reduceBNe, Nat.reduceBEq, Int.reduceToNat, getD_mapd _ _ _ _ hb.1, hb.1, Ticket.enc, List.length_map, tL3, fBig_eqn, fTax_eq, fAw_eq]
                    (repeat' apply And.intro) <;> (try first | omega | ((fail_if_success (refine (id : AW _ _ _ _ _ → AW _ _ _ _ _) ?_)); (fail_if_success (refine (id : EStep _ _ _ _ _ _ _ → EStep _ _ _ _ _ _ _) ?_)); intros; (repeat' apply And.intro) <;> first | assumption | omega | (simp_all; done)))
                    refine aw_cond (b := _) rfl (fun hc23 => ?_) (fun hc23 => ?_)
                    · simp only [decide_eq_true_eq, decide_eq_false_iff_not, Bool.and_eq_true, Bool.or_eq_true, Bool.not_eq_true', Bool.not_eq_false', Bool.and_eq_false_iff, Bool.or_eq_false_iff, Int.ofNat_lt, Int.ofNat_le, Nat.not_lt, Nat.not_le, Int.not_lt, Int.not_le] at hc23
                      have hvb := hfP _ (txS_in (List.getElem_mem hb.1) (List.getElem_mem hc23))
                      replace hvb : -1099511627776 ≤ l[i].taxes[j].amount ∧ l[i].taxes[j].amount ≤ 1099511627776 := hvb
                      refine aw_skip ?_
                      try simp only [go_sem, ↓reduceIte, Nat.reduceEqDiff, reduceCtorEq, Nat.reduceAdd, Nat.reduceLT, Nat.reduceLeDiff, Nat.reduceBNe, Nat.reduceBEq, Int.reduceToNat]
                      refine aw_seq ?_
                      refine aw_block ?_
                      refine aw_region (EF := EF0) hG (by rw [hN]; exact tr5_25) ?_
                      simp only [a5_25, go_sem, ↓reduceIte, Nat.reduceEqDiff, reduceCtorEq, Nat.reduceAdd, Nat.reduceLT, Nat.reduceLeDiff, Nat.reduceBNe, Nat.reduceBEq, Int.reduceToNat, inI, getD_mapd _ _ _ _ hb.1, hb.1, Ticket.enc, getD_mapd _ _ _ _ hc23, hc23, Charge.enc, List.length_map, tL3, fBig_eqn, fTax_eq, fAw_eq]
                      (repeat' apply And.intro) <;> (try first | omega | ((fail_if_success (refine (id : AW _ _ _ _ _ → AW _ _ _ _ _) ?_)); (fail_if_success (refine (id : EStep _ _ _ _ _ _ _ → EStep _ _ _ _ _ _ _) ?_)); intros; (repeat' apply And.intro) <;> first | assumption | omega | (simp_all; done)))
                      refine aw_region (EF := EF0) hG (by rw [hN]; exact tr5_24) ?_
                      simp only [a5_24, go_sem, ↓reduceIte, Nat.reduceEqDiff, reduceCtorEq, Nat.reduceAdd, Nat.reduceLT, Nat.reduceLeDiff, Nat.reduceBNe, Nat.reduceBEq, Int.reduceToNat, inI, tL3, fBig_eqn, fTax_eq, fAw_eq]
                      (repeat' apply And.intro) <;> (try first | omega | ((fail_if_success (refine (id : AW _ _ _ _ _ → AW _ _ _ _ _) ?_)); (fail_if_success (refine (id : EStep _ _ _ _ _ _ _ → EStep _ _ _ _ _ _ _) ?_)); intros; (repeat' apply And.intro) <;> first | assumption | omega | (simp_all; done)))
                      refine hKL6 (j + 1, k + l[i].taxes[j].amount) _ ?_ ?_ ?_
                      · (try dsimp only); exact ⟨hc23, by rw [hk, sum_ms _ hc23], by omega, by omega⟩
                      · (try dsimp only); omega
                      · refine Le.mk _ _ ?_ ?_ rfl <;> simp only [go_sem, ↓reduceIte, Nat.reduceEqDiff, reduceCtorEq, Nat.reduceAdd, Nat.reduceLT, Nat.reduceLeDiff, Nat.reduceBNe, Nat.reduceBEq, Int.reduceToNat, Int.add_assoc] <;> (repeat' apply And.intro) <;> (try first | rfl | exact wk_frzb rfl rfl rfl | exact wk_fn rfl | exact .nilo _ _ _ rfl rfl | exact wk_frzm rfl rfl (fun kv hk => by obtain ⟨_, _, rfl⟩ := List.mem_map.1 hk; rfl))
                    · simp only [decide_eq_true_eq, decide_eq_false_iff_not, Bool.and_eq_true, Bool.or_eq_true, Bool.not_eq_true', Bool.not_eq_false', Bool.and_eq_false_iff, Bool.or_eq_false_iff, Int.ofNat_lt, Int.ofNat_le, Nat.not_lt, Nat.not_le, Int.not_lt, Int.not_le] at hc23
                      rw [List.take_of_length_le hc23] at hk
                      refine aw_exit ?_
                      simp only [go_sem, ↓reduceIte, Nat.reduceEqDiff, reduceCtorEq, Nat.reduceAdd, Nat.reduceLT, Nat.reduceLeDiff, Nat.reduceBNe, Nat.reduceBEq, Int.reduceToNat]
                      refine aw_region (EF := EF0) hG (by rw [hN]; exact tr5_21) ?_
                      simp only [a5_21, go_sem, ↓reduceIte, Nat.reduceEqDiff, reduceCtorEq, Nat.reduceAdd, Nat.reduceLT, Nat.reduceLeDiff, Nat.reduceBNe, Nat.reduceBEq, Int.reduceToNat, inI, tL3, fBig_eqn, fTax_eq, fAw_eq]
                      (repeat' apply And.intro) <;> (try first | omega | ((fail_if_success (refine (id : AW _ _ _ _ _ → AW _ _ _ _ _) ?_)); (fail_if_success (refine (id : EStep _ _ _ _ _ _ _ → EStep _ _ _ _ _ _ _) ?_)); intros; (repeat' apply And.intro) <;> first | assumption | omega | (simp_all; done)))
                      refine hKL4 (i + 1, m + k) _ ?_ ?_ ?_
                      · (try dsimp only); exact ⟨hb.1, by rw [hst, List.sum_append, hm, hk], ⟨by omega, by omega⟩, fun h => absurd hb.2 h⟩
                      · (try dsimp only); omega
                      · refine Le.mk _ _ ?_ ?_ rfl <;> simp only [go_sem, ↓reduceIte, Nat.reduceEqDiff, reduceCtorEq, Nat.reduceAdd, Nat.reduceLT, Nat.reduceLeDiff, Nat.reduceBNe, Nat.reduceBEq, Int.reduceToNat] <;> (repeat' apply And.intro) <;> (try first | rfl | exact wk_frzb rfl rfl rfl | exact wk_fn rfl | exact .nilo _ _ _ rfl rfl | exact wk_frzm rfl rfl (fun kv hk => by obtain ⟨_, _, rfl⟩ := List.mem_map.1 hk; rfl))
                · skip
                  have hfin : T + m = 0 := by (by_cases h0 : e = 0; ((have hi2 : i = l.length := by simp [h0] at hb20; omega); subst hi2; rw [List.take_length] at hm; rw [hT, hn, F.sum h0, hm]; omega); (have hi0 := he h0; subst hi0; rw [hT, hT0 h0, hm]; rfl))
                  refine aw_exit ?_
                  simp only [go_sem, ↓reduceIte, Nat.reduceEqDiff, reduceCtorEq, Nat.reduceAdd, Nat.reduceLT, Nat.reduceLeDiff, Nat.reduceBNe, Nat.reduceBEq, Int.reduceToNat]
                  refine aw_seq (aw_region (EF := EF0) hG (by rw [hN]; exact tr5_26) ?_)
                  simp only [a5_26, go_sem, ↓reduceIte, Nat.reduceEqDiff, reduceCtorEq, Nat.reduceAdd, Nat.reduceLT, Nat.reduceLeDiff, Nat.reduceBNe, Nat.reduceBEq, Int.reduceToNat, hfin, tL3, fBig_eqn, fTax_eq, fAw_eq]
                  (repeat' apply And.intro) <;> (try first | omega | ((fail_if_success (refine (id : AW _ _ _ _ _ → AW _ _ _ _ _) ?_)); (fail_if_success (refine (id : EStep _ _ _ _ _ _ _ → EStep _ _ _ _ _ _ _) ?_)); intros; (repeat' apply And.intro) <;> first | assumption | omega | (simp_all; done)))
                  refine aw_ret ?_
                  show Q _ _
                  refine hQ _ _ (.inl rfl) ?_ ?_ ?_ <;> simp only [outφ, outV, AR.res, go_sem, ↓reduceIte, Nat.reduceEqDiff, reduceCtorEq, Nat.reduceAdd, Nat.reduceLT, Nat.reduceLeDiff, Nat.reduceBNe, Nat.reduceBEq, Int.reduceToNat, fL3]
end Go.Proofs.Ytfjgnfgadkajnaa
