/- The statements of the chapter: shares of carriers, taxes. -/
import Derived.Test.YtfjgnfgadkajnaaPr8
namespace Go.Proofs.Ytfjgnfgadkajnaa
open Go Go.RowKit
set_option linter.unusedSimpArgs false
set_option linter.unusedVariables false
set_option linter.deprecated false
structure OutF {α : Type} (nm : α → List UInt8) (am : α → Int) (P : NA) (a : List α) (e : Int) : Prop where
  err : e ≠ 0 → a = []
  len : a.length ≤ P.length
  sum : e = 0 → (a.map am).sum = (P.map (·.2)).sum
  fitP : e = 0 → ∀ p ∈ P, -1099511627776 ≤ p.2 ∧ p.2 ≤ 1099511627776
  fitA : ∀ x ∈ a, -1099511627776 ≤ am x ∧ am x ≤ 1099511627776
  rise : ∀ i (h : i < a.length) (h' : i - 1 < a.length), 0 < i → slt (nm a[i - 1]) (nm a[i]) = true
theorem zipW_am {α : Type} (mk : List UInt8 → Int → α) (am : α → Int) (h : ∀ n v, am (mk n v) = v) : ∀ {ns : List (List UInt8)} {av : List Int}, av.length = ns.length → (List.zipWith mk ns av).map am = av
  | [], [], _ => rfl
  | n :: ns, v :: av, hl => by rw [List.zipWith_cons_cons, List.map_cons, h, zipW_am mk am h (by simpa using hl)]
theorem out_facts {α : Type} (mk : List UInt8 → Int → α) (nm : α → List UInt8) (am : α → Int) (hn : ∀ n v, nm (mk n v) = n) (ha : ∀ n v, am (mk n v) = v) (P : NA) : OutF nm am P (List.zipWith mk (uR P).1 (uR P).2.1) (uR P).2.2 := by
  unfold uR
  cases h : upP P with
  | none => exact ⟨fun _ => rfl, by simp [uRes], fun e => by simp [uRes] at e, fun e => by simp [uRes] at e, fun x hx => by simp [uRes] at hx, fun i hi => by simp [uRes] at hi⟩
  | some av =>
    have F := upP_facts h
    show OutF nm am P (List.zipWith mk (namesP P) av) 0
    have hz := zipW_am mk am ha F.len
    refine ⟨fun e => absurd rfl e, by rw [List.length_zipWith]; have := F.le; omega, fun _ => by rw [hz]; exact F.sum, fun _ p hp => fitB_bd (F.fit p hp), fun x hx => ?_, fun i h1 h2 h0 => ?_⟩
    · have : am x ∈ av := by rw [← hz]; exact List.mem_map.2 ⟨x, hx, rfl⟩
      exact fitB_bd (F.fits _ this)
    · rw [List.length_zipWith] at h1 h2
      simp only [List.getElem_zipWith, hn]
      exact F.rise i (by omega) (by omega) h0
theorem sum_ms {α : Type} (f : α → Int) {a : List α} {i : Nat} (h : i < a.length) : ((a.take (i + 1)).map f).sum = ((a.take i).map f).sum + f a[i] := by
  rw [take_succ' h, List.map_append, List.sum_append]; simp
theorem prS_sub {cs : List Coupon} {o : List (List UInt8)} {p : List UInt8 × Int} {i : Nat} : ∀ {j : Nat}, i ≤ j → p ∈ prS cs o i → p ∈ prS cs o j
  | 0, h, hp => by obtain rfl : i = 0 := (by omega); exact hp
  | j + 1, h, hp => by
    rcases Nat.lt_or_ge i (j + 1) with h1 | h1
    · have := prS_sub (j := j) (by omega) hp
      rw [prS]; split
      · exact List.mem_append_left _ this
      · exact this
    · obtain rfl : i = j + 1 := (by omega)
      exact hp
theorem shrM_ok {t : Ticket} {o : List (List UInt8)} : (o.length ≠ t.coupons.length → shrM t o = ([], 2)) ∧ (o.length = t.coupons.length → OutF Post.account Post.amount (prS t.coupons o t.coupons.length) (shrM t o).1 (shrM t o).2) := by
  unfold shrM
  refine ⟨fun h => by rw [if_pos h], fun h => ?_⟩
  rw [if_neg (by omega)]
  exact out_facts Post.mk Post.account Post.amount (fun _ _ => rfl) (fun _ _ => rfl) _
theorem shr_facts {t : Ticket} {o : List (List UInt8)} {a : List Post} {e : Int} (h : shrM t o = (a, e)) (hc : t.coupons.length ≤ 12) :
    (e ≠ 0 → a = []) ∧ a.length ≤ 12 ∧ (∀ x ∈ a, -1099511627776 ≤ x.amount ∧ x.amount ≤ 1099511627776) ∧ (∀ i (h : i < a.length) (h' : i - 1 < a.length), 0 < i → slt a[i - 1].account a[i].account = true) ∧
      (e = 0 → o.length = t.coupons.length ∧ (a.map Post.amount).sum = ((prS t.coupons o t.coupons.length).map (·.2)).sum ∧ ∀ p ∈ prS t.coupons o t.coupons.length, -1099511627776 ≤ p.2 ∧ p.2 ≤ 1099511627776) := by
  obtain ⟨h1, h2⟩ := @shrM_ok t o
  by_cases hl : o.length = t.coupons.length
  · have F := h2 hl
    rw [h] at F
    have := prS_len t.coupons o t.coupons.length
    have hl2 := F.len
    dsimp only at hl2
    exact ⟨F.err, by omega, F.fitA, F.rise, fun e => ⟨hl, F.sum e, F.fitP e⟩⟩
  · have := h1 hl
    rw [h] at this
    injection this with h3 h4
    subst h3 h4
    exact ⟨fun _ => rfl, by simp, fun x hx => (by cases hx), fun i hi => (by simp at hi), fun e => (by simp at e)⟩
theorem big_no {t : Ticket} {o : List (List UInt8)} (h : bigB t o = false) : t.coupons.length ≤ 12 ∧ t.taxes.length ≤ 12 ∧ o.length ≤ 20 ∧ (∀ s ∈ o, s.length ≤ 100) ∧ ∀ c ∈ t.taxes, c.code.length ≤ 100 := by
  unfold bigB at h
  simp only [Bool.or_eq_false_iff, decide_eq_false_iff_not, List.any_eq_false, decide_eq_true_eq] at h
  exact ⟨by omega, by omega, by omega, fun s hs => by have := h.1.2 s hs; omega, fun c hc => by have := h.2 c hc; omega⟩
def fL2 (x : Ticket × List (List UInt8)) : Prop × V := (x.1.ok ∧ x.2.length ≤ 140737488355328 ∧ ∀ s ∈ x.2, s.length ≤ 140737488355328, .bool true)
noncomputable def tL2 : Tab
  | 9 => (gOf aShr fBig)
  | 7 => (gOf aUnit fTrue)
  | 10 => (gOf aShr fShr)
  | 11 => (gOf aShr fShr)
  | _ => gNo
theorem tL2_ok : ∀ f, PureC Try.prog UT f (tL2 f) := fun f => by
  unfold tL2
  split
  · exact big_p
  · exact awake_p39
  · exact shares_p
  · exact rshares_p
  · exact PureC.no
set_option maxHeartbeats 8000000 in
theorem law2_p : PureC Try.prog UT 4 (gOf aShr fL2) := by
  have hG := tL2_ok
  refine PureC.ofArgs aShr_inj Try.func4 body4 nm4 res4 ?_
  rintro ⟨t, o⟩ hv
  refine ⟨by rw [nt4]; simp [aShr], fun C hN Q hQ => ?_⟩
  rw [nt4] at hN
  unfold c4
  obtain ⟨hp, hl, hs⟩ : t.ok ∧ o.length ≤ 140737488355328 ∧ ∀ s ∈ o, s.length ≤ 140737488355328 := hv
  have hbg : BgOk t o := ⟨hp.2.2.2.1.1, hp.2.2.2.2.2.1.1, hl⟩
  refine aw_seq (aw_region (EF := EF0) hG (by rw [hN]; exact tr4_0) ?_)
  simp only [a4_0, go_sem, ↓reduceIte, Nat.reduceEqDiff, reduceCtorEq, Nat.reduceAdd, Nat.reduceLT, Nat.reduceLeDiff, Nat.reduceBNe, Nat.reduceBEq, Int.reduceToNat, aShr, Ticket.enc, tL2, fBig_eq, fShr_eq, fAw_eq]
  refine aw_seq ?_
  refine aw_seq (aw_region (EF := EF0) hG (by rw [hN]; exact tr4_1) ?_)
  simp only [a4_1, go_sem, ↓reduceIte, Nat.reduceEqDiff, reduceCtorEq, Nat.reduceAdd, Nat.reduceLT, Nat.reduceLeDiff, Nat.reduceBNe, Nat.reduceBEq, Int.reduceToNat, hbg, tL2, fBig_eq, fShr_eq, fAw_eq]
  (repeat' apply And.intro) <;> (try first | omega | ((fail_if_success (refine (id : AW _ _ _ _ _ → AW _ _ _ _ _) ?_)); (fail_if_success (refine (id : EStep _ _ _ _ _ _ _ → EStep _ _ _ _ _ _ _) ?_)); intros; (repeat' apply And.intro) <;> first | assumption | omega | (simp_all; done)))
  refine aw_cond (b := _) rfl (fun hb1 => ?_) (fun hb1 => ?_)
  · skip
    refine aw_seq (aw_region (EF := EF0) hG (by rw [hN]; exact tr4_2) ?_)
    simp only [a4_2, go_sem, ↓reduceIte, Nat.reduceEqDiff, reduceCtorEq, Nat.reduceAdd, Nat.reduceLT, Nat.reduceLeDiff, Nat.reduceBNe, Nat.reduceBEq, Int.reduceToNat, tL2, fBig_eq, fShr_eq, fAw_eq]
    (repeat' apply And.intro) <;> (try first | omega | ((fail_if_success (refine (id : AW _ _ _ _ _ → AW _ _ _ _ _) ?_)); (fail_if_success (refine (id : EStep _ _ _ _ _ _ _ → EStep _ _ _ _ _ _ _) ?_)); intros; (repeat' apply And.intro) <;> first | assumption | omega | (simp_all; done)))
    refine aw_ret ?_
    show Q _ _
    refine hQ _ _ (.inl rfl) ?_ ?_ ?_ <;> simp only [outφ, outV, AR.res, go_sem, ↓reduceIte, Nat.reduceEqDiff, reduceCtorEq, Nat.reduceAdd, Nat.reduceLT, Nat.reduceLeDiff, Nat.reduceBNe, Nat.reduceBEq, Int.reduceToNat, fL2]
  · skip
    obtain ⟨b1, b2, b3, b4, b5⟩ := big_no hb1
    have hso : ShOk t o := ⟨by omega, hl, hs⟩
    obtain ⟨⟨a, e⟩, hae⟩ : ∃ y, shrM t o = y := ⟨_, rfl⟩
    obtain ⟨f1, f2, f3, f4, f5⟩ := shr_facts hae b1
    refine aw_skip ?_
    try simp only [go_sem, ↓reduceIte, Nat.reduceEqDiff, reduceCtorEq, Nat.reduceAdd, Nat.reduceLT, Nat.reduceLeDiff, Nat.reduceBNe, Nat.reduceBEq, Int.reduceToNat]
    refine aw_seq (aw_region (EF := EF0) hG (by rw [hN]; exact tr4_3) ?_)
    simp only [a4_3, go_sem, ↓reduceIte, Nat.reduceEqDiff, reduceCtorEq, Nat.reduceAdd, Nat.reduceLT, Nat.reduceLeDiff, Nat.reduceBNe, Nat.reduceBEq, Int.reduceToNat, hso, hae, shrV, tL2, fBig_eq, fShr_eq, fAw_eq]
    (repeat' apply And.intro) <;> (try first | omega | ((fail_if_success (refine (id : AW _ _ _ _ _ → AW _ _ _ _ _) ?_)); (fail_if_success (refine (id : EStep _ _ _ _ _ _ _ → EStep _ _ _ _ _ _ _) ?_)); intros; (repeat' apply And.intro) <;> first | assumption | omega | (simp_all; done)))
    refine aw_seq (aw_region (EF := EF0) hG (by rw [hN]; exact tr4_4) ?_)
    simp only [a4_4, go_sem, ↓reduceIte, Nat.reduceEqDiff, reduceCtorEq, Nat.reduceAdd, Nat.reduceLT, Nat.reduceLeDiff, Nat.reduceBNe, Nat.reduceBEq, Int.reduceToNat, hso, hae, shrV, tL2, fBig_eq, fShr_eq, fAw_eq]
    (repeat' apply And.intro) <;> (try first | omega | ((fail_if_success (refine (id : AW _ _ _ _ _ → AW _ _ _ _ _) ?_)); (fail_if_success (refine (id : EStep _ _ _ _ _ _ _ → EStep _ _ _ _ _ _ _) ?_)); intros; (repeat' apply And.intro) <;> first | assumption | omega | (simp_all; done)))
    refine aw_seq ?_
    refine aw_seq (aw_region (EF := EF0) hG (by rw [hN]; exact tr4_5) ?_)
    simp only [a4_5, go_sem, ↓reduceIte, Nat.reduceEqDiff, reduceCtorEq, Nat.reduceAdd, Nat.reduceLT, Nat.reduceLeDiff, Nat.reduceBNe, Nat.reduceBEq, Int.reduceToNat, List.length_map, tL2, fBig_eq, fShr_eq, fAw_eq]
    (repeat' apply And.intro) <;> (try first | omega | ((fail_if_success (refine (id : AW _ _ _ _ _ → AW _ _ _ _ _) ?_)); (fail_if_success (refine (id : EStep _ _ _ _ _ _ _ → EStep _ _ _ _ _ _ _) ?_)); intros; (repeat' apply And.intro) <;> first | assumption | omega | (simp_all; done)))
    refine aw_cond (b := _) rfl (fun hb5 => ?_) (fun hb5 => ?_)
    · exfalso; simp at hb5
    · skip
      refine aw_skip ?_
      try simp only [go_sem, ↓reduceIte, Nat.reduceEqDiff, reduceCtorEq, Nat.reduceAdd, Nat.reduceLT, Nat.reduceLeDiff, Nat.reduceBNe, Nat.reduceBEq, Int.reduceToNat]
      refine aw_seq (aw_region (EF := EF0) hG (by rw [hN]; exact tr4_7) ?_)
      simp only [a4_7, go_sem, ↓reduceIte, Nat.reduceEqDiff, reduceCtorEq, Nat.reduceAdd, Nat.reduceLT, Nat.reduceLeDiff, Nat.reduceBNe, Nat.reduceBEq, Int.reduceToNat, tL2, fBig_eq, fShr_eq, fAw_eq]
      refine aw_seq ?_
      refine aw_seq (aw_region (EF := EF0) hG (by rw [hN]; exact tr4_8) ?_)
      simp only [a4_8, go_sem, ↓reduceIte, Nat.reduceEqDiff, reduceCtorEq, Nat.reduceAdd, Nat.reduceLT, Nat.reduceLeDiff, Nat.reduceBNe, Nat.reduceBEq, Int.reduceToNat, tL2, fBig_eq, fShr_eq, fAw_eq]
      refine aw_block ?_
      refine aw_loop (α := Nat × Int) (fun γ => (γ.1 ≤ a.length) ∧ (γ.2 = -((a.take γ.1).map Post.amount).sum) ∧ (-(1099511627776 * (γ.1 : Int)) ≤ γ.2 ∧ γ.2 ≤ 1099511627776 * (γ.1 : Int))) (fun γ => ⟨mkE [(2, V.ptr 2 0), (5, V.list (List.map Post.enc a) false), (6, V.int IntKind.i64 e), (7, V.list (List.map Post.enc a) false), (9, .int .i64 γ.2), (10, .int .i64 γ.1)], mkH [(2, Ob.box 44 [V.int IntKind.i64 t.number, V.str t.locator, V.str t.person.last, V.str t.person.first, V.str t.person.type, V.list (List.map Coupon.enc t.coupons) false, V.int IntKind.i64 t.fare, V.list (List.map Charge.enc t.taxes) false, V.int IntKind.i64 t.total, V.int IntKind.i64 t.issued])]⟩) (fun γ => a.length - γ.1) (0, 0) ⟨Nat.zero_le _, by simp, by omega, by omega⟩ ?_ ?_
      · refine Le.mk _ _ ?_ ?_ rfl <;> simp only [go_sem, ↓reduceIte, Nat.reduceEqDiff, reduceCtorEq, Nat.reduceAdd, Nat.reduceLT, Nat.reduceLeDiff, Nat.reduceBNe, Nat.reduceBEq, Int.reduceToNat] <;> (repeat' apply And.intro) <;> (try first | rfl | exact wk_frzb rfl rfl rfl | exact wk_fn rfl | exact .nilo _ _ _ rfl rfl | exact wk_frzm rfl rfl (fun kv hk => by obtain ⟨_, _, rfl⟩ := List.mem_map.1 hk; rfl))
      · rintro ⟨i, n⟩ ⟨hi, hn, hnb⟩ KL0 hKL0
        try dsimp only at *
        refine aw_seq ?_
        refine aw_seq (aw_region (EF := EF0) hG (by rw [hN]; exact tr4_9) ?_)
        simp only [a4_9, go_sem, ↓reduceIte, Nat.reduceEqDiff, reduceCtorEq, Nat.reduceAdd, Nat.reduceLT, Nat.reduceLeDiff, Nat.reduceBNe, Nat.reduceBEq, Int.reduceToNat, List.length_map, tL2, fBig_eq, fShr_eq, fAw_eq]
        refine aw_cond (b := _) rfl (fun hc9 => ?_) (fun hc9 => ?_)
        · simp only [decide_eq_true_eq, decide_eq_false_iff_not, Bool.and_eq_true, Bool.or_eq_true, Bool.not_eq_true', Bool.not_eq_false', Bool.and_eq_false_iff, Bool.or_eq_false_iff, Int.ofNat_lt, Int.ofNat_le, Nat.not_lt, Nat.not_le, Int.not_lt, Int.not_le] at hc9
          have hi1 : i - 1 < a.length := by omega
          have hit : 0 < i → ((i : Int) - 1).toNat = i - 1 := fun _ => by omega
          have hit2 : ((i : Int) - 1).toNat = i - 1 := by omega
          have hxb := f3 _ (List.getElem_mem hc9)
          refine aw_skip ?_
          try simp only [go_sem, ↓reduceIte, Nat.reduceEqDiff, reduceCtorEq, Nat.reduceAdd, Nat.reduceLT, Nat.reduceLeDiff, Nat.reduceBNe, Nat.reduceBEq, Int.reduceToNat]
          refine aw_seq ?_
          refine aw_block ?_
          refine aw_seq ?_
          refine aw_seq (aw_regionD (EF := EF0) hG mixed (by rw [hN]; exact tr4_11) ok4_11 ?_)
          simp only [a4_11, d4_11, go_sem, ↓reduceIte, Nat.reduceEqDiff, reduceCtorEq, Nat.reduceAdd, Nat.reduceLT, Nat.reduceLeDiff, Nat.reduceBNe, Nat.reduceBEq, Int.reduceToNat, inI, getD_mapd _ _ _ _ hc9, hc9, getD_mapd _ _ _ _ hi1, hit2, Post.enc, List.length_map, tL2, fBig_eq, fShr_eq, fAw_eq]
          (repeat' apply And.intro) <;> (try first | omega | ((fail_if_success (refine (id : AW _ _ _ _ _ → AW _ _ _ _ _) ?_)); (fail_if_success (refine (id : EStep _ _ _ _ _ _ _ → EStep _ _ _ _ _ _ _) ?_)); intros; (repeat' apply And.intro) <;> first | assumption | omega | (simp_all; done)) | (intro h; refine ⟨h, ?_, ?_⟩ <;> simp only [decide_eq_true_eq] at h <;> omega))
          refine aw_cond (b := _) rfl (fun hb11 => ?_) (fun hb11 => ?_)
          · exfalso; simp at hb11; have hr := f4 i hc9 hi1 (by omega); simp [hr] at hb11
          · skip
            refine aw_skip ?_
            try simp only [go_sem, ↓reduceIte, Nat.reduceEqDiff, reduceCtorEq, Nat.reduceAdd, Nat.reduceLT, Nat.reduceLeDiff, Nat.reduceBNe, Nat.reduceBEq, Int.reduceToNat]
            refine aw_region (EF := EF0) hG (by rw [hN]; exact tr4_13) ?_
            simp only [a4_13, go_sem, ↓reduceIte, Nat.reduceEqDiff, reduceCtorEq, Nat.reduceAdd, Nat.reduceLT, Nat.reduceLeDiff, Nat.reduceBNe, Nat.reduceBEq, Int.reduceToNat, inI, getD_mapd _ _ _ _ hc9, hc9, Post.enc, List.length_map, tL2, fBig_eq, fShr_eq, fAw_eq]
            (repeat' apply And.intro) <;> (try first | omega | ((fail_if_success (refine (id : AW _ _ _ _ _ → AW _ _ _ _ _) ?_)); (fail_if_success (refine (id : EStep _ _ _ _ _ _ _ → EStep _ _ _ _ _ _ _) ?_)); intros; (repeat' apply And.intro) <;> first | assumption | omega | (simp_all; done)))
            refine aw_region (EF := EF0) hG (by rw [hN]; exact tr4_10) ?_
            simp only [a4_10, go_sem, ↓reduceIte, Nat.reduceEqDiff, reduceCtorEq, Nat.reduceAdd, Nat.reduceLT, Nat.reduceLeDiff, Nat.reduceBNe, Nat.reduceBEq, Int.reduceToNat, inI, tL2, fBig_eq, fShr_eq, fAw_eq]
            (repeat' apply And.intro) <;> (try first | omega | ((fail_if_success (refine (id : AW _ _ _ _ _ → AW _ _ _ _ _) ?_)); (fail_if_success (refine (id : EStep _ _ _ _ _ _ _ → EStep _ _ _ _ _ _ _) ?_)); intros; (repeat' apply And.intro) <;> first | assumption | omega | (simp_all; done)))
            refine hKL0 (i + 1, n - a[i].amount) _ ?_ ?_ ?_
            · (try dsimp only); exact ⟨hc9, by rw [hn, sum_ms _ hc9]; omega, by omega, by omega⟩
            · (try dsimp only); omega
            · refine Le.mk _ _ ?_ ?_ rfl <;> simp only [go_sem, ↓reduceIte, Nat.reduceEqDiff, reduceCtorEq, Nat.reduceAdd, Nat.reduceLT, Nat.reduceLeDiff, Nat.reduceBNe, Nat.reduceBEq, Int.reduceToNat] <;> (repeat' apply And.intro) <;> (try first | rfl | exact wk_frzb rfl rfl rfl | exact wk_fn rfl | exact .nilo _ _ _ rfl rfl | exact wk_frzm rfl rfl (fun kv hk => by obtain ⟨_, _, rfl⟩ := List.mem_map.1 hk; rfl))
        · simp only [decide_eq_true_eq, decide_eq_false_iff_not, Bool.and_eq_true, Bool.or_eq_true, Bool.not_eq_true', Bool.not_eq_false', Bool.and_eq_false_iff, Bool.or_eq_false_iff, Int.ofNat_lt, Int.ofNat_le, Nat.not_lt, Nat.not_le, Int.not_lt, Int.not_le] at hc9
          obtain rfl : i = a.length := by omega
          rw [List.take_length] at hn
          have hT0 : e ≠ 0 → n = 0 := fun he => by rw [hn, f1 he]; rfl
          obtain ⟨T, hT⟩ : ∃ T, T = n := ⟨_, rfl⟩
          refine aw_exit ?_
          simp only [go_sem, ↓reduceIte, Nat.reduceEqDiff, reduceCtorEq, Nat.reduceAdd, Nat.reduceLT, Nat.reduceLeDiff, Nat.reduceBNe, Nat.reduceBEq, Int.reduceToNat]
          refine aw_seq ?_
          refine aw_seq (aw_region (EF := EF0) hG (by rw [hN]; exact tr4_14) ?_)
          simp only [a4_14, go_sem, ↓reduceIte, Nat.reduceEqDiff, reduceCtorEq, Nat.reduceAdd, Nat.reduceLT, Nat.reduceLeDiff, Nat.reduceBNe, Nat.reduceBEq, Int.reduceToNat, tL2, fBig_eq, fShr_eq, fAw_eq]
          refine aw_block ?_
          refine aw_loop (α := Nat × Int) (fun γ => (γ.1 ≤ t.coupons.length) ∧ (γ.2 = ((prS t.coupons o γ.1).map (·.2)).sum) ∧ (-(1099511627776 * (γ.1 : Int)) ≤ γ.2 ∧ γ.2 ≤ 1099511627776 * (γ.1 : Int)) ∧ (e ≠ 0 → γ.1 = 0)) (fun γ => ⟨mkE [(2, V.ptr 2 0), (6, V.int IntKind.i64 e), (9, .int .i64 (T + γ.2)), (11, .int .i64 γ.1)], mkH [(2, Ob.box 44 [V.int IntKind.i64 t.number, V.str t.locator, V.str t.person.last, V.str t.person.first, V.str t.person.type, V.list (List.map Coupon.enc t.coupons) false, V.int IntKind.i64 t.fare, V.list (List.map Charge.enc t.taxes) false, V.int IntKind.i64 t.total, V.int IntKind.i64 t.issued])]⟩) (fun γ => t.coupons.length - γ.1) (0, 0) ⟨Nat.zero_le _, rfl, ⟨by omega, by omega⟩, fun _ => rfl⟩ ?_ ?_
          · refine Le.mk _ _ ?_ ?_ rfl <;> simp only [go_sem, ↓reduceIte, Nat.reduceEqDiff, reduceCtorEq, Nat.reduceAdd, Nat.reduceLT, Nat.reduceLeDiff, Nat.reduceBNe, Nat.reduceBEq, Int.reduceToNat, hT, Int.add_zero] <;> (repeat' apply And.intro) <;> (try first | rfl | exact wk_frzb rfl rfl rfl | exact wk_fn rfl | exact .nilo _ _ _ rfl rfl | exact wk_frzm rfl rfl (fun kv hk => by obtain ⟨_, _, rfl⟩ := List.mem_map.1 hk; rfl))
          · rintro ⟨i, m⟩ ⟨hi, hm, hmb, he⟩ KL2 hKL2
            try dsimp only at *
            refine aw_seq ?_
            refine aw_seq (aw_region (EF := EF0) hG (by rw [hN]; exact tr4_15) ?_)
            simp only [a4_15, go_sem, ↓reduceIte, Nat.reduceEqDiff, reduceCtorEq, Nat.reduceAdd, Nat.reduceLT, Nat.reduceLeDiff, Nat.reduceBNe, Nat.reduceBEq, Int.reduceToNat, List.length_map, tL2, fBig_eq, fShr_eq, fAw_eq]
            (repeat' apply And.intro) <;> (try first | omega | ((fail_if_success (refine (id : AW _ _ _ _ _ → AW _ _ _ _ _) ?_)); (fail_if_success (refine (id : EStep _ _ _ _ _ _ _ → EStep _ _ _ _ _ _ _) ?_)); intros; (repeat' apply And.intro) <;> first | assumption | omega | (simp_all; done)))
            refine aw_cond (b := _) rfl (fun hb15 => ?_) (fun hb15 => ?_)
            · skip
              have hb : i < t.coupons.length ∧ e = 0 := by simpa using hb15
              obtain ⟨hlen, hsum, hfP⟩ := f5 hb.2
              have hio : i < o.length := by omega
              have hst : prS t.coupons o (i + 1) = if t.coupons[i].status = 5 then prS t.coupons o i ++ [(o[i], t.coupons[i].value)] else prS t.coupons o i := by rw [prS, List.getD_eq_getElem?_getD, List.getElem?_eq_getElem hb.1, List.getD_eq_getElem?_getD, List.getElem?_eq_getElem hio]; rfl
              refine aw_skip ?_
              try simp only [go_sem, ↓reduceIte, Nat.reduceEqDiff, reduceCtorEq, Nat.reduceAdd, Nat.reduceLT, Nat.reduceLeDiff, Nat.reduceBNe, Nat.reduceBEq, Int.reduceToNat]
              refine aw_seq ?_
              refine aw_block ?_
              refine aw_seq (aw_region (EF := EF0) hG (by rw [hN]; exact tr4_17) ?_)
              simp only [a4_17, go_sem, ↓reduceIte, Nat.reduceEqDiff, reduceCtorEq, Nat.reduceAdd, Nat.reduceLT, Nat.reduceLeDiff, Nat.reduceBNe, Nat.reduceBEq, Int.reduceToNat, getD_mapd _ _ _ _ hb.1, hb.1, Coupon.enc, List.length_map, tL2, fBig_eq, fShr_eq, fAw_eq]
              (repeat' apply And.intro) <;> (try first | omega | ((fail_if_success (refine (id : AW _ _ _ _ _ → AW _ _ _ _ _) ?_)); (fail_if_success (refine (id : EStep _ _ _ _ _ _ _ → EStep _ _ _ _ _ _ _) ?_)); intros; (repeat' apply And.intro) <;> first | assumption | omega | (simp_all; done)))
              refine aw_cond (b := _) rfl (fun hc17 => ?_) (fun hc17 => ?_)
              · simp only [decide_eq_true_eq, decide_eq_false_iff_not, Bool.and_eq_true, Bool.or_eq_true, Bool.not_eq_true', Bool.not_eq_false', Bool.and_eq_false_iff, Bool.or_eq_false_iff, Int.ofNat_lt, Int.ofNat_le, Nat.not_lt, Nat.not_le, Int.not_lt, Int.not_le] at hc17
                have hvb := hfP (o[i], t.coupons[i].value) (prS_sub (i := i + 1) (by omega) (by rw [hst, if_pos hc17]; simp))
                dsimp only at hvb
                refine aw_region (EF := EF0) hG (by rw [hN]; exact tr4_18) ?_
                simp only [a4_18, go_sem, ↓reduceIte, Nat.reduceEqDiff, reduceCtorEq, Nat.reduceAdd, Nat.reduceLT, Nat.reduceLeDiff, Nat.reduceBNe, Nat.reduceBEq, Int.reduceToNat, inI, getD_mapd _ _ _ _ hb.1, hb.1, Coupon.enc, List.length_map, Int.add_assoc, tL2, fBig_eq, fShr_eq, fAw_eq]
                (repeat' apply And.intro) <;> (try first | omega | ((fail_if_success (refine (id : AW _ _ _ _ _ → AW _ _ _ _ _) ?_)); (fail_if_success (refine (id : EStep _ _ _ _ _ _ _ → EStep _ _ _ _ _ _ _) ?_)); intros; (repeat' apply And.intro) <;> first | assumption | omega | (simp_all; done)))
                refine aw_region (EF := EF0) hG (by rw [hN]; exact tr4_16) ?_
                simp only [a4_16, go_sem, ↓reduceIte, Nat.reduceEqDiff, reduceCtorEq, Nat.reduceAdd, Nat.reduceLT, Nat.reduceLeDiff, Nat.reduceBNe, Nat.reduceBEq, Int.reduceToNat, inI, tL2, fBig_eq, fShr_eq, fAw_eq]
                (repeat' apply And.intro) <;> (try first | omega | ((fail_if_success (refine (id : AW _ _ _ _ _ → AW _ _ _ _ _) ?_)); (fail_if_success (refine (id : EStep _ _ _ _ _ _ _ → EStep _ _ _ _ _ _ _) ?_)); intros; (repeat' apply And.intro) <;> first | assumption | omega | (simp_all; done)))
                refine hKL2 (i + 1, m + t.coupons[i].value) _ ?_ ?_ ?_
                · (try dsimp only); exact ⟨hb.1, by rw [hst, if_pos hc17, List.map_append, List.sum_append, hm]; simp, ⟨by omega, by omega⟩, fun h => absurd hb.2 h⟩
                · (try dsimp only); omega
                · refine Le.mk _ _ ?_ ?_ rfl <;> simp only [go_sem, ↓reduceIte, Nat.reduceEqDiff, reduceCtorEq, Nat.reduceAdd, Nat.reduceLT, Nat.reduceLeDiff, Nat.reduceBNe, Nat.reduceBEq, Int.reduceToNat, Int.add_assoc] <;> (repeat' apply And.intro) <;> (try first | rfl | exact wk_frzb rfl rfl rfl | exact wk_fn rfl | exact .nilo _ _ _ rfl rfl | exact wk_frzm rfl rfl (fun kv hk => by obtain ⟨_, _, rfl⟩ := List.mem_map.1 hk; rfl))
              · simp only [decide_eq_true_eq, decide_eq_false_iff_not, Bool.and_eq_true, Bool.or_eq_true, Bool.not_eq_true', Bool.not_eq_false', Bool.and_eq_false_iff, Bool.or_eq_false_iff, Int.ofNat_lt, Int.ofNat_le, Nat.not_lt, Nat.not_le, Int.not_lt, Int.not_le] at hc17
                refine aw_skip ?_
                try simp only [go_sem, ↓reduceIte, Nat.reduceEqDiff, reduceCtorEq, Nat.reduceAdd, Nat.reduceLT, Nat.reduceLeDiff, Nat.reduceBNe, Nat.reduceBEq, Int.reduceToNat]
                refine aw_region (EF := EF0) hG (by rw [hN]; exact tr4_16) ?_
                simp only [a4_16, go_sem, ↓reduceIte, Nat.reduceEqDiff, reduceCtorEq, Nat.reduceAdd, Nat.reduceLT, Nat.reduceLeDiff, Nat.reduceBNe, Nat.reduceBEq, Int.reduceToNat, inI, tL2, fBig_eq, fShr_eq, fAw_eq]
                (repeat' apply And.intro) <;> (try first | omega | ((fail_if_success (refine (id : AW _ _ _ _ _ → AW _ _ _ _ _) ?_)); (fail_if_success (refine (id : EStep _ _ _ _ _ _ _ → EStep _ _ _ _ _ _ _) ?_)); intros; (repeat' apply And.intro) <;> first | assumption | omega | (simp_all; done)))
                refine hKL2 (i + 1, m) _ ?_ ?_ ?_
                · (try dsimp only); exact ⟨hb.1, by rw [hst, if_neg hc17, hm], ⟨by omega, by omega⟩, fun h => absurd hb.2 h⟩
                · (try dsimp only); omega
                · refine Le.mk _ _ ?_ ?_ rfl <;> simp only [go_sem, ↓reduceIte, Nat.reduceEqDiff, reduceCtorEq, Nat.reduceAdd, Nat.reduceLT, Nat.reduceLeDiff, Nat.reduceBNe, Nat.reduceBEq, Int.reduceToNat] <;> (repeat' apply And.intro) <;> (try first | rfl | exact wk_frzb rfl rfl rfl | exact wk_fn rfl | exact .nilo _ _ _ rfl rfl | exact wk_frzm rfl rfl (fun kv hk => by obtain ⟨_, _, rfl⟩ := List.mem_map.1 hk; rfl))
            · skip
              have hfin : T + m = 0 := by (by_cases h0 : e = 0; (obtain ⟨hlen, hsum, hfP⟩ := f5 h0; (have hi2 : i = t.coupons.length := by simp [h0] at hb15; omega); subst hi2; rw [hT, hn, hsum, hm]; omega); (have hi0 := he h0; subst hi0; rw [hT, hT0 h0, hm]; rfl))
              refine aw_exit ?_
              simp only [go_sem, ↓reduceIte, Nat.reduceEqDiff, reduceCtorEq, Nat.reduceAdd, Nat.reduceLT, Nat.reduceLeDiff, Nat.reduceBNe, Nat.reduceBEq, Int.reduceToNat]
              refine aw_seq (aw_region (EF := EF0) hG (by rw [hN]; exact tr4_19) ?_)
              simp only [a4_19, go_sem, ↓reduceIte, Nat.reduceEqDiff, reduceCtorEq, Nat.reduceAdd, Nat.reduceLT, Nat.reduceLeDiff, Nat.reduceBNe, Nat.reduceBEq, Int.reduceToNat, hfin, tL2, fBig_eq, fShr_eq, fAw_eq]
              (repeat' apply And.intro) <;> (try first | omega | ((fail_if_success (refine (id : AW _ _ _ _ _ → AW _ _ _ _ _) ?_)); (fail_if_success (refine (id : EStep _ _ _ _ _ _ _ → EStep _ _ _ _ _ _ _) ?_)); intros; (repeat' apply And.intro) <;> first | assumption | omega | (simp_all; done)))
              refine aw_ret ?_
              show Q _ _
              refine hQ _ _ (.inl rfl) ?_ ?_ ?_ <;> simp only [outφ, outV, AR.res, go_sem, ↓reduceIte, Nat.reduceEqDiff, reduceCtorEq, Nat.reduceAdd, Nat.reduceLT, Nat.reduceLeDiff, Nat.reduceBNe, Nat.reduceBEq, Int.reduceToNat, fL2]
end Go.Proofs.Ytfjgnfgadkajnaa
