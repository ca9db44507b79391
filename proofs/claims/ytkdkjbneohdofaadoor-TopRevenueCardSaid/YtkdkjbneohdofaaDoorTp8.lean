/- TopRevenue is always true: the walk. -/
import Derived.Test.YtkdkjbneohdofaaDoorTp7
import Derived.Test.YtkdkjbneohdofaaDoorTp5
namespace Go.Proofs.YtkdkjbneohdofaaDoor
open Go Go.RowKit
set_option linter.unusedSimpArgs false
set_option linter.unusedVariables false
set_option linter.deprecated false
structure Ops where
  l : List (List UInt8)
def Ops.enc (x : Ops) : List V := [.list (strs x.l) false]
theorem Ops.inj (a b : Ops) (h : a.enc = b.enc) : a = b := by
  obtain ⟨a_l⟩ := a
  obtain ⟨b_l⟩ := b
  simp only [Ops.enc, List.cons.injEq, V.str.injEq, V.int.injEq, V.bool.injEq, V.agg.injEq, V.list.injEq, and_true, true_and] at h
  have h0 := h
  replace h0 := strs_inj h0
  subst h0
  rfl
def Ops.ok (x : Ops) : Prop := (x.l.length ≤ 140737488355328 ∧ ∀ z ∈ x.l, z.length ≤ 140737488355328)
def Ops.zero : Ops := ⟨[]⟩
theorem Ops.rows (l : List Ops) : (∀ r ∈ l.map Ops.enc, r.length = 1) ↔ True := iff_true_intro fun r hr => by obtain ⟨x, _, rfl⟩ := List.mem_map.1 hr; rfl
theorem Ops.purs (l : List Ops) : (∀ r ∈ l.map Ops.enc, V.purs r = true) ↔ True := iff_true_intro fun r hr => by obtain ⟨x, _, rfl⟩ := List.mem_map.1 hr; rfl
attribute [go_sem] Ops.rows Ops.purs
theorem Ops.mapLen (l : List Ops) : (l.map Ops.enc).length = l.length := List.length_map _
def aTR (x : List Ticket × List Ops × List UInt8) : List V := [.list (x.1.map Ticket.enc) false, .list (x.2.1.map Ops.enc) false, .str x.2.2]
theorem aTR_inj (a b : List Ticket × List Ops × List UInt8) (h : aTR a = aTR b) : a = b := by
  obtain ⟨a_t, a_o, a_k⟩ := a
  obtain ⟨b_t, b_o, b_k⟩ := b
  simp only [aTR, List.cons.injEq, V.str.injEq, V.int.injEq, V.bool.injEq, V.agg.injEq, V.list.injEq, and_true, true_and] at h
  obtain ⟨h0, h1, h2⟩ := h
  replace h0 := map_inj' Ticket.inj h0
  subst h0
  replace h1 := map_inj' Ops.inj h1
  subst h1
  subst h2
  rfl
def TrOk (x : List Ticket × List Ops × List UInt8) : Prop := (x.1.length ≤ 140737488355328 ∧ ∀ t ∈ x.1, t.ok) ∧ (x.2.1.length ≤ 140737488355328 ∧ ∀ o ∈ x.2.1, o.ok) ∧ x.2.2.length ≤ 140737488355328
def fTR (x : List Ticket × List Ops × List UInt8) : Prop × V := (TrOk x, .bool true)
theorem fShr_eq (t : Ticket) (o : List (List UInt8)) : gOf aShr fShr [.agg [.int .i64 t.number, .str t.locator, .str t.person.last, .str t.person.first, .str t.person.type, .list (t.coupons.map Coupon.enc) false, .int .i64 t.fare, .list (t.taxes.map Charge.enc) false, .int .i64 t.total, .int .i64 t.issued], .list (strs o) false] = (ShOk t o, shrV (shrM t o)) := gOf_eq aShr_inj (t, o)
theorem shr_good {t : Ticket} {o : List (List UInt8)} (ht : t.coupons.length ≤ 8) (h : o.length = t.coupons.length) (hs : ∀ k (h : k < t.coupons.length), k < t.coupons.length → small t.coupons[k].value) : shrM t o = (shP (prS t.coupons o t.coupons.length), 0) := by
  have hl := prS_len t.coupons o t.coupons.length
  obtain ⟨e1, e2⟩ := uR_ok (P := prS t.coupons o t.coupons.length) (by omega) (prS_sm _ (Nat.le_refl _) hs)
  unfold shrM
  rw [if_neg (by omega), e1, e2]
theorem pay_step {l : List Due} {i : Nat} (h : i < l.length) : dsum (l.take (i + 1)) = dsum (l.take i) + l[i].amount := by
  rw [take_succ' h, dsum_app]; simp [dsum]
theorem pay_nn {c : List UInt8} : ∀ {l : List Due}, (∀ p ∈ l, Star c p) → 0 ≤ dsum l
  | [], _ => by simp [dsum]
  | x :: l, h => by
    have h1 := pay_nn fun p hp => h p (List.mem_cons_of_mem _ hp)
    have h2 := (h x (List.mem_cons_self ..)).2.2
    unfold dsum at *
    rw [List.map_cons, List.sum_cons]; omega
theorem pay_bd {c : List UInt8} {l : List Due} (h : ∀ p ∈ l, Star c p) (i : Nat) : 0 ≤ dsum (l.take i) ∧ dsum (l.take i) ≤ dsum l := by
  have e := dsum_app (l.take i) (l.drop i)
  rw [List.take_append_drop] at e
  have h1 := pay_nn (l := l.take i) fun p hp => h p (List.mem_of_mem_take hp)
  have h2 := pay_nn (l := l.drop i) fun p hp => h p (List.mem_of_mem_drop hp)
  omega
theorem owC_bd {c : List UInt8} {cs : List Coupon} {o : List (List UInt8)} {i : Nat} (hi : i ≤ cs.length) (h : ∀ k (h : k < cs.length), k < i → small cs[k].value) : 0 ≤ owC c cs o i ∧ owC c cs o i ≤ 1073741824 * (i : Int) := by
  have h1 := owe_bd c (prS_sm (o := o) i hi h)
  have h2 := prS_len cs o i
  unfold owC; omega
theorem due_app (a b : List Due) : a.map Due.enc ++ b.map Due.enc = (a ++ b).map Due.enc := List.map_append.symm
noncomputable def tTR : Tab
  | 4 => (gOf aUnit fTrue)
  | 5 => (gOf aShr fShr)
  | 6 => (gOf aBill fBill)
  | 7 => (gOf aDues fNet)
  | 8 => (gOf aPosts fTr)
  | 9 => (gOf aSet fSet)
  | _ => gNo
theorem tTR_ok : ∀ f, PureC Tryd.prog UT f (tTR f) := fun f => by
  unfold tTR
  split
  · exact awake_p
  · exact shares_p
  · exact bill_p
  · exact net_p
  · exact trans_p
  · exact settled_p
  · exact PureC.no
set_option maxHeartbeats 8000000 in
theorem revenue_p : PureC Tryd.prog UT 3 (gOf aTR fTR) := by
  have hG := tTR_ok
  refine PureC.ofArgs aTR_inj Tryd.func3 body3 nm3 res3 ?_
  rintro ⟨l, o, k⟩ hv
  refine ⟨by rw [nt3]; simp [aTR], fun C hN Q hQ => ?_⟩
  rw [nt3] at hN
  unfold c3
  obtain ⟨⟨hl, hlo⟩, ⟨ho, hoo⟩, hk⟩ : TrOk (l, o, k) := hv
  dsimp only at hl hlo ho hoo hk
  refine aw_seq (aw_region (EF := EF0) hG (by rw [hN]; exact tr3_0) ?_)
  simp only [a3_0, go_sem, ↓reduceIte, Nat.reduceEqDiff, reduceCtorEq, Nat.reduceAdd, Nat.reduceLT, Nat.reduceLeDiff, Nat.reduceBNe, Nat.reduceBEq, Int.reduceToNat, aTR, tTR, fTrue_eq]
  refine aw_seq ?_
  refine aw_seq (aw_region (EF := EF0) hG (by rw [hN]; exact tr3_1) ?_)
  simp only [a3_1, go_sem, ↓reduceIte, Nat.reduceEqDiff, reduceCtorEq, Nat.reduceAdd, Nat.reduceLT, Nat.reduceLeDiff, Nat.reduceBNe, Nat.reduceBEq, Int.reduceToNat, List.length_map, tTR, fTrue_eq]
  (repeat' apply And.intro) <;> (try first | omega | ((fail_if_success refine idW ?_); (fail_if_success refine idS ?_); intros; (repeat' apply And.intro) <;> first | assumption | omega | (simp_all; done)))
  refine aw_cond (b := _) rfl (fun hb1 => ?_) (fun hb1 => ?_)
  · skip
    refine aw_seq (aw_region (EF := EF0) hG (by rw [hN]; exact tr3_2) ?_)
    simp only [a3_2, go_sem, ↓reduceIte, Nat.reduceEqDiff, reduceCtorEq, Nat.reduceAdd, Nat.reduceLT, Nat.reduceLeDiff, Nat.reduceBNe, Nat.reduceBEq, Int.reduceToNat, tTR, fTrue_eq]
    (repeat' apply And.intro) <;> (try first | omega | ((fail_if_success refine idW ?_); (fail_if_success refine idS ?_); intros; (repeat' apply And.intro) <;> first | assumption | omega | (simp_all; done)))
    refine aw_ret ?_
    show Q _ _
    refine hQ _ _ (.inl rfl) ?_ ?_ ?_ <;> simp only [outφ, outV, AR.res, go_sem, ↓reduceIte, Nat.reduceEqDiff, reduceCtorEq, Nat.reduceAdd, Nat.reduceLT, Nat.reduceLeDiff, Nat.reduceBNe, Nat.reduceBEq, Int.reduceToNat, fTR]
  · skip
    obtain ⟨hl8, hol⟩ : l.length ≤ 8 ∧ l.length ≤ o.length := by simp only [Bool.or_eq_false_iff, decide_eq_false_iff_not] at hb1; omega
    refine aw_skip ?_
    try simp only [go_sem, ↓reduceIte, Nat.reduceEqDiff, reduceCtorEq, Nat.reduceAdd, Nat.reduceLT, Nat.reduceLeDiff, Nat.reduceBNe, Nat.reduceBEq, Int.reduceToNat]
    refine aw_seq (aw_region (EF := EF0) hG (by rw [hN]; exact tr3_3) ?_)
    simp only [a3_3, go_sem, ↓reduceIte, Nat.reduceEqDiff, reduceCtorEq, Nat.reduceAdd, Nat.reduceLT, Nat.reduceLeDiff, Nat.reduceBNe, Nat.reduceBEq, Int.reduceToNat, tTR, fTrue_eq]
    refine aw_seq (aw_region (EF := EF0) hG (by rw [hN]; exact tr3_4) ?_)
    simp only [a3_4, go_sem, ↓reduceIte, Nat.reduceEqDiff, reduceCtorEq, Nat.reduceAdd, Nat.reduceLT, Nat.reduceLeDiff, Nat.reduceBNe, Nat.reduceBEq, Int.reduceToNat, tTR, fTrue_eq]
    refine aw_seq ?_
    refine aw_seq (aw_region (EF := EF0) hG (by rw [hN]; exact tr3_5) ?_)
    simp only [a3_5, go_sem, ↓reduceIte, Nat.reduceEqDiff, reduceCtorEq, Nat.reduceAdd, Nat.reduceLT, Nat.reduceLeDiff, Nat.reduceBNe, Nat.reduceBEq, Int.reduceToNat, tTR, fTrue_eq]
    refine aw_block ?_
    refine aw_loop (α := Nat × (List Due) × Int) (fun γ => (γ.1 ≤ l.length) ∧ (Rev γ.1 k γ.2.1 γ.2.2)) (fun γ => ⟨mkE [(0, V.list (List.map Ticket.enc l) false), (1, V.list (List.map Ops.enc o) false), (2, V.str k), (7, .own 999 γ.2.1.length), (8, .int .i64 γ.2.2), (9, .int .i64 γ.1)], mkH [(999, .arr 49 3 (γ.2.1.map Due.enc))]⟩) (fun γ => l.length - γ.1) (0, [], 0) ⟨Nat.zero_le _, Rev.start k⟩ ?_ ?_
    · refine Le.mk _ _ ?_ ?_ rfl <;> simp only [go_sem, ↓reduceIte, Nat.reduceEqDiff, reduceCtorEq, Nat.reduceAdd, Nat.reduceLT, Nat.reduceLeDiff, Nat.reduceBNe, Nat.reduceBEq, Int.reduceToNat] <;> (repeat' apply And.intro) <;> (try first | rfl | exact wk_frzb rfl rfl rfl | exact wk_fn rfl | exact .nilo _ _ _ rfl rfl | exact wk_frzm rfl rfl (fun kv hk => by obtain ⟨_, _, rfl⟩ := List.mem_map.1 hk; rfl))
    · rintro ⟨i, D, w⟩ ⟨hi, hr⟩ KL0 hKL0
      try dsimp only at *
      refine aw_seq ?_
      have hrb := hr.bd
      have hrl := hr.len
      refine aw_seq (aw_region (EF := EF0) hG (by rw [hN]; exact tr3_6) ?_)
      simp only [a3_6, go_sem, ↓reduceIte, Nat.reduceEqDiff, reduceCtorEq, Nat.reduceAdd, Nat.reduceLT, Nat.reduceLeDiff, Nat.reduceBNe, Nat.reduceBEq, Int.reduceToNat, tTR, fTrue_eq]
      refine aw_cond (b := _) rfl (fun hc6 => ?_) (fun hc6 => ?_)
      · simp only [decide_eq_true_eq, decide_eq_false_iff_not, Bool.and_eq_true, Bool.or_eq_true, Bool.not_eq_true', Bool.not_eq_false', Bool.and_eq_false_iff, Bool.or_eq_false_iff, Int.ofNat_lt, Int.ofNat_le, Nat.not_lt, Nat.not_le, Int.not_lt, Int.not_le] at hc6
        refine aw_skip ?_
        try simp only [go_sem, ↓reduceIte, Nat.reduceEqDiff, reduceCtorEq, Nat.reduceAdd, Nat.reduceLT, Nat.reduceLeDiff, Nat.reduceBNe, Nat.reduceBEq, Int.reduceToNat]
        refine aw_seq ?_
        refine aw_block ?_
        refine aw_seq ?_
        have hio : i < o.length := by omega
        have hto := hlo _ (List.getElem_mem hc6)
        have hoi := hoo _ (List.getElem_mem hio)
        generalize htt : l[i] = t at hto
        generalize hot : o[i] = q at hoi
        obtain ⟨q⟩ := q
        simp only [Ticket.ok] at hto
        simp only [Ops.ok] at hoi
        refine aw_seq (aw_regionD (EF := EF0) hG mixed (by rw [hN]; exact tr3_8) ok3_8 ?_)
        simp only [a3_8, d3_8, go_sem, ↓reduceIte, Nat.reduceEqDiff, reduceCtorEq, Nat.reduceAdd, Nat.reduceLT, Nat.reduceLeDiff, Nat.reduceBNe, Nat.reduceBEq, Int.reduceToNat, getD_mapd _ _ _ _ hc6, getD_mapd _ _ _ _ hio, hc6, hio, htt, hot, Ticket.enc, Ops.enc, List.length_map, strs_len, tTR, fTrue_eq]
        (repeat' apply And.intro) <;> (try first | omega | ((fail_if_success refine idW ?_); (fail_if_success refine idS ?_); intros; (repeat' apply And.intro) <;> first | assumption | omega | (simp_all; done)))
        refine aw_cond (b := _) rfl (fun hb8 => ?_) (fun hb8 => ?_)
        · skip
          refine aw_seq (aw_region (EF := EF0) hG (by rw [hN]; exact tr3_9) ?_)
          simp only [a3_9, go_sem, ↓reduceIte, Nat.reduceEqDiff, reduceCtorEq, Nat.reduceAdd, Nat.reduceLT, Nat.reduceLeDiff, Nat.reduceBNe, Nat.reduceBEq, Int.reduceToNat, tTR, fTrue_eq]
          (repeat' apply And.intro) <;> (try first | omega | ((fail_if_success refine idW ?_); (fail_if_success refine idS ?_); intros; (repeat' apply And.intro) <;> first | assumption | omega | (simp_all; done)))
          refine aw_ret ?_
          show Q _ _
          refine hQ _ _ (.inl rfl) ?_ ?_ ?_ <;> simp only [outφ, outV, AR.res, go_sem, ↓reduceIte, Nat.reduceEqDiff, reduceCtorEq, Nat.reduceAdd, Nat.reduceLT, Nat.reduceLeDiff, Nat.reduceBNe, Nat.reduceBEq, Int.reduceToNat, fTR]
        · skip
          obtain ⟨hcl, hql⟩ : t.coupons.length ≤ 8 ∧ q.length = t.coupons.length := by simp only [Bool.or_eq_false_iff, Bool.not_eq_false', decide_eq_false_iff_not, decide_eq_true_eq] at hb8; omega
          refine aw_skip ?_
          try simp only [go_sem, ↓reduceIte, Nat.reduceEqDiff, reduceCtorEq, Nat.reduceAdd, Nat.reduceLT, Nat.reduceLeDiff, Nat.reduceBNe, Nat.reduceBEq, Int.reduceToNat]
          refine aw_seq ?_
          refine aw_seq (aw_region (EF := EF0) hG (by rw [hN]; exact tr3_10) ?_)
          simp only [a3_10, go_sem, ↓reduceIte, Nat.reduceEqDiff, reduceCtorEq, Nat.reduceAdd, Nat.reduceLT, Nat.reduceLeDiff, Nat.reduceBNe, Nat.reduceBEq, Int.reduceToNat, tTR, fTrue_eq]
          refine aw_block ?_
          refine aw_loop (α := Nat) (fun j => (j ≤ t.coupons.length) ∧ (∀ m (h : m < t.coupons.length), m < j → small t.coupons[m].value)) (fun j => ⟨mkE [(0, V.list (List.map Ticket.enc l) false), (1, V.list (List.map Ops.enc o) false), (2, V.str k), (7, V.own 999 D.length), (8, .int .i64 (w + owC k t.coupons q j)), (9, V.int IntKind.i64 ↑i), (10, .int .i64 j)], mkH [(999, Ob.arr 49 3 (List.map Due.enc D))]⟩) (fun j => t.coupons.length - j) 0 ⟨Nat.zero_le _, fun m _ h => by omega⟩ ?_ ?_
          · refine Le.mk _ _ ?_ ?_ rfl <;> simp only [go_sem, ↓reduceIte, Nat.reduceEqDiff, reduceCtorEq, Nat.reduceAdd, Nat.reduceLT, Nat.reduceLeDiff, Nat.reduceBNe, Nat.reduceBEq, Int.reduceToNat, show owC k t.coupons q 0 = 0 from rfl, Int.add_zero] <;> (repeat' apply And.intro) <;> (try first | rfl | exact wk_frzb rfl rfl rfl | exact wk_fn rfl | exact .nilo _ _ _ rfl rfl | exact wk_frzm rfl rfl (fun kv hk => by obtain ⟨_, _, rfl⟩ := List.mem_map.1 hk; rfl))
          · rintro j ⟨hj, hsm⟩ KL2 hKL2
            try dsimp only at *
            refine aw_seq ?_
            refine aw_seq (aw_region (EF := EF0) hG (by rw [hN]; exact tr3_11) ?_)
            simp only [a3_11, go_sem, ↓reduceIte, Nat.reduceEqDiff, reduceCtorEq, Nat.reduceAdd, Nat.reduceLT, Nat.reduceLeDiff, Nat.reduceBNe, Nat.reduceBEq, Int.reduceToNat, getD_mapd _ _ _ _ hc6, hc6, htt, Ticket.enc, List.length_map, tTR, fTrue_eq]
            (repeat' apply And.intro) <;> (try first | omega | ((fail_if_success refine idW ?_); (fail_if_success refine idS ?_); intros; (repeat' apply And.intro) <;> first | assumption | omega | (simp_all; done)))
            refine aw_cond (b := _) rfl (fun hc11 => ?_) (fun hc11 => ?_)
            · simp only [decide_eq_true_eq, decide_eq_false_iff_not, Bool.and_eq_true, Bool.or_eq_true, Bool.not_eq_true', Bool.not_eq_false', Bool.and_eq_false_iff, Bool.or_eq_false_iff, Int.ofNat_lt, Int.ofNat_le, Nat.not_lt, Nat.not_le, Int.not_lt, Int.not_le] at hc11
              refine aw_skip ?_
              try simp only [go_sem, ↓reduceIte, Nat.reduceEqDiff, reduceCtorEq, Nat.reduceAdd, Nat.reduceLT, Nat.reduceLeDiff, Nat.reduceBNe, Nat.reduceBEq, Int.reduceToNat]
              refine aw_seq ?_
              refine aw_block ?_
              have hjq : j < q.length := by omega
              refine aw_seq (aw_region (EF := EF0) hG (by rw [hN]; exact tr3_13) ?_)
              simp only [a3_13, go_sem, ↓reduceIte, Nat.reduceEqDiff, reduceCtorEq, Nat.reduceAdd, Nat.reduceLT, Nat.reduceLeDiff, Nat.reduceBNe, Nat.reduceBEq, Int.reduceToNat, getD_mapd _ _ _ _ hc6, getD_mapd _ _ _ _ hc11, hc6, hc11, htt, Ticket.enc, Coupon.enc, tTR, fTrue_eq]
              (repeat' apply And.intro) <;> (try first | omega | ((fail_if_success refine idW ?_); (fail_if_success refine idS ?_); intros; (repeat' apply And.intro) <;> first | assumption | omega | (simp_all; done)))
              refine aw_seq ?_
              refine aw_seq (aw_region (EF := EF0) hG (by rw [hN]; exact tr3_14) ?_)
              simp only [a3_14, go_sem, ↓reduceIte, Nat.reduceEqDiff, reduceCtorEq, Nat.reduceAdd, Nat.reduceLT, Nat.reduceLeDiff, Nat.reduceBNe, Nat.reduceBEq, Int.reduceToNat, tTR, fTrue_eq]
              (repeat' apply And.intro) <;> (try first | omega | ((fail_if_success refine idW ?_); (fail_if_success refine idS ?_); intros; (repeat' apply And.intro) <;> first | assumption | omega | (simp_all; done)))
              refine aw_cond (b := _) rfl (fun hb14 => ?_) (fun hb14 => ?_)
              · skip
                refine aw_seq (aw_region (EF := EF0) hG (by rw [hN]; exact tr3_15) ?_)
                simp only [a3_15, go_sem, ↓reduceIte, Nat.reduceEqDiff, reduceCtorEq, Nat.reduceAdd, Nat.reduceLT, Nat.reduceLeDiff, Nat.reduceBNe, Nat.reduceBEq, Int.reduceToNat, tTR, fTrue_eq]
                (repeat' apply And.intro) <;> (try first | omega | ((fail_if_success refine idW ?_); (fail_if_success refine idS ?_); intros; (repeat' apply And.intro) <;> first | assumption | omega | (simp_all; done)))
                refine aw_ret ?_
                show Q _ _
                refine hQ _ _ (.inl rfl) ?_ ?_ ?_ <;> simp only [outφ, outV, AR.res, go_sem, ↓reduceIte, Nat.reduceEqDiff, reduceCtorEq, Nat.reduceAdd, Nat.reduceLT, Nat.reduceLeDiff, Nat.reduceBNe, Nat.reduceBEq, Int.reduceToNat, fTR]
              · skip
                have hsj : small t.coupons[j].value := by simp only [Bool.or_eq_false_iff, decide_eq_false_iff_not] at hb14; unfold small; omega
                have hst := owC_step (c := k) hc11 hjq
                have hob := owC_bd (c := k) (o := q) hj hsm
                have hsj2 := hsj
                unfold small at hsj2
                refine aw_skip ?_
                try simp only [go_sem, ↓reduceIte, Nat.reduceEqDiff, reduceCtorEq, Nat.reduceAdd, Nat.reduceLT, Nat.reduceLeDiff, Nat.reduceBNe, Nat.reduceBEq, Int.reduceToNat]
                refine aw_seq (aw_region (EF := EF0) hG (by rw [hN]; exact tr3_16) ?_)
                simp only [a3_16, go_sem, ↓reduceIte, Nat.reduceEqDiff, reduceCtorEq, Nat.reduceAdd, Nat.reduceLT, Nat.reduceLeDiff, Nat.reduceBNe, Nat.reduceBEq, Int.reduceToNat, getD_mapd _ _ _ _ hio, hio, hot, Ops.enc, strs_getD _ _ _ hjq, hjq, tTR, fTrue_eq]
                (repeat' apply And.intro) <;> (try first | omega | ((fail_if_success refine idW ?_); (fail_if_success refine idS ?_); intros; (repeat' apply And.intro) <;> first | assumption | omega | (simp_all; done)))
                refine aw_cond (b := _) rfl (fun hb16 => ?_) (fun hb16 => ?_)
                · skip
                  rw [if_pos (by simpa using hb16)] at hst
                  refine aw_region (EF := EF0) hG (by rw [hN]; exact tr3_17) ?_
                  simp only [a3_17, go_sem, ↓reduceIte, Nat.reduceEqDiff, reduceCtorEq, Nat.reduceAdd, Nat.reduceLT, Nat.reduceLeDiff, Nat.reduceBNe, Nat.reduceBEq, Int.reduceToNat, inI, tTR, fTrue_eq]
                  (repeat' apply And.intro) <;> (try first | omega | ((fail_if_success refine idW ?_); (fail_if_success refine idS ?_); intros; (repeat' apply And.intro) <;> first | assumption | omega | (simp_all; done)))
                  refine aw_region (EF := EF0) hG (by rw [hN]; exact tr3_12) ?_
                  simp only [a3_12, go_sem, ↓reduceIte, Nat.reduceEqDiff, reduceCtorEq, Nat.reduceAdd, Nat.reduceLT, Nat.reduceLeDiff, Nat.reduceBNe, Nat.reduceBEq, Int.reduceToNat, inI, tTR, fTrue_eq]
                  (repeat' apply And.intro) <;> (try first | omega | ((fail_if_success refine idW ?_); (fail_if_success refine idS ?_); intros; (repeat' apply And.intro) <;> first | assumption | omega | (simp_all; done)))
                  refine hKL2 (j + 1) _ ?_ ?_ ?_
                  · (try dsimp only); exact ⟨hc11, fun m h hm => by rcases Nat.lt_or_eq_of_le (Nat.lt_succ_iff.1 hm) with e | e; exact hsm m h e; subst e; exact hsj⟩
                  · (try dsimp only); omega
                  · refine Le.mk _ _ ?_ ?_ rfl <;> simp only [go_sem, ↓reduceIte, Nat.reduceEqDiff, reduceCtorEq, Nat.reduceAdd, Nat.reduceLT, Nat.reduceLeDiff, Nat.reduceBNe, Nat.reduceBEq, Int.reduceToNat, hst, Int.add_assoc] <;> (repeat' apply And.intro) <;> (try first | rfl | exact wk_frzb rfl rfl rfl | exact wk_fn rfl | exact .nilo _ _ _ rfl rfl | exact wk_frzm rfl rfl (fun kv hk => by obtain ⟨_, _, rfl⟩ := List.mem_map.1 hk; rfl))
                · skip
                  rw [if_neg (fun h => by simp [h] at hb16)] at hst
                  refine aw_skip ?_
                  try simp only [go_sem, ↓reduceIte, Nat.reduceEqDiff, reduceCtorEq, Nat.reduceAdd, Nat.reduceLT, Nat.reduceLeDiff, Nat.reduceBNe, Nat.reduceBEq, Int.reduceToNat]
                  refine aw_region (EF := EF0) hG (by rw [hN]; exact tr3_12) ?_
                  simp only [a3_12, go_sem, ↓reduceIte, Nat.reduceEqDiff, reduceCtorEq, Nat.reduceAdd, Nat.reduceLT, Nat.reduceLeDiff, Nat.reduceBNe, Nat.reduceBEq, Int.reduceToNat, inI, tTR, fTrue_eq]
                  (repeat' apply And.intro) <;> (try first | omega | ((fail_if_success refine idW ?_); (fail_if_success refine idS ?_); intros; (repeat' apply And.intro) <;> first | assumption | omega | (simp_all; done)))
                  refine hKL2 (j + 1) _ ?_ ?_ ?_
                  · (try dsimp only); exact ⟨hc11, fun m h hm => by rcases Nat.lt_or_eq_of_le (Nat.lt_succ_iff.1 hm) with e | e; exact hsm m h e; subst e; exact hsj⟩
                  · (try dsimp only); omega
                  · refine Le.mk _ _ ?_ ?_ rfl <;> simp only [go_sem, ↓reduceIte, Nat.reduceEqDiff, reduceCtorEq, Nat.reduceAdd, Nat.reduceLT, Nat.reduceLeDiff, Nat.reduceBNe, Nat.reduceBEq, Int.reduceToNat, hst] <;> (repeat' apply And.intro) <;> (try first | rfl | exact wk_frzb rfl rfl rfl | exact wk_fn rfl | exact .nilo _ _ _ rfl rfl | exact wk_frzm rfl rfl (fun kv hk => by obtain ⟨_, _, rfl⟩ := List.mem_map.1 hk; rfl))
            · simp only [decide_eq_true_eq, decide_eq_false_iff_not, Bool.and_eq_true, Bool.or_eq_true, Bool.not_eq_true', Bool.not_eq_false', Bool.and_eq_false_iff, Bool.or_eq_false_iff, Int.ofNat_lt, Int.ofNat_le, Nat.not_lt, Nat.not_le, Int.not_lt, Int.not_le] at hc11
              obtain rfl : j = t.coupons.length := by omega
              have hob := owC_bd (c := k) (o := q) (Nat.le_refl _) hsm
              have hsho : ShOk t q := ⟨by omega, by omega, hoi.2⟩
              have hgood := shr_good hcl hql hsm
              have hPl := prS_len t.coupons q t.coupons.length
              have hstp := hr.step (P := prS t.coupons q t.coupons.length) (prS_sm _ (Nat.le_refl _) hsm) (prS_key hoi.2 _) (by omega)
              change Rev _ _ _ (w + owC k t.coupons q t.coupons.length) at hstp
              have hSl := shP_len (prS t.coupons q t.coupons.length)
              have hBl := bill_len k (shP (prS t.coupons q t.coupons.length))
              generalize shP (prS t.coupons q t.coupons.length) = sh at hgood hstp hSl hBl
              have hsh : sh.length ≤ 1000 := by omega
              refine aw_exit ?_
              simp only [go_sem, ↓reduceIte, Nat.reduceEqDiff, reduceCtorEq, Nat.reduceAdd, Nat.reduceLT, Nat.reduceLeDiff, Nat.reduceBNe, Nat.reduceBEq, Int.reduceToNat]
              refine aw_seq (aw_regionD (EF := EF0) hG mixed (by rw [hN]; exact tr3_18) ok3_18 ?_)
              simp only [a3_18, d3_18, go_sem, ↓reduceIte, Nat.reduceEqDiff, reduceCtorEq, Nat.reduceAdd, Nat.reduceLT, Nat.reduceLeDiff, Nat.reduceBNe, Nat.reduceBEq, Int.reduceToNat, getD_mapd _ _ _ _ hc6, getD_mapd _ _ _ _ hio, hc6, hio, htt, hot, Ticket.enc, Ops.enc, fShr_eq, hsho, hgood, shrV, tTR, fTrue_eq]
              (repeat' apply And.intro) <;> (try first | omega | ((fail_if_success refine idW ?_); (fail_if_success refine idS ?_); intros; (repeat' apply And.intro) <;> first | assumption | omega | (simp_all; done)))
              refine aw_seq ?_
              refine aw_seq (aw_region (EF := EF0) hG (by rw [hN]; exact tr3_19) ?_)
              simp only [a3_19, go_sem, ↓reduceIte, Nat.reduceEqDiff, reduceCtorEq, Nat.reduceAdd, Nat.reduceLT, Nat.reduceLeDiff, Nat.reduceBNe, Nat.reduceBEq, Int.reduceToNat, tTR, fTrue_eq]
              refine aw_condF rfl ?_
              refine aw_skip ?_
              try simp only [go_sem, ↓reduceIte, Nat.reduceEqDiff, reduceCtorEq, Nat.reduceAdd, Nat.reduceLT, Nat.reduceLeDiff, Nat.reduceBNe, Nat.reduceBEq, Int.reduceToNat]
              refine aw_seq (aw_region (EF := EF0) hG (by rw [hN]; exact tr3_21) ?_)
              simp only [a3_21, go_sem, ↓reduceIte, Nat.reduceEqDiff, reduceCtorEq, Nat.reduceAdd, Nat.reduceLT, Nat.reduceLeDiff, Nat.reduceBNe, Nat.reduceBEq, Int.reduceToNat, fBill_eq, hsh, tTR, fTrue_eq]
              (repeat' apply And.intro) <;> (try first | omega | ((fail_if_success refine idW ?_); (fail_if_success refine idS ?_); intros; (repeat' apply And.intro) <;> first | assumption | omega | (simp_all; done)))
              refine aw_region (EF := EF0) hG (by rw [hN]; exact tr3_22) ?_
              simp only [a3_22, go_sem, ↓reduceIte, Nat.reduceEqDiff, reduceCtorEq, Nat.reduceAdd, Nat.reduceLT, Nat.reduceLeDiff, Nat.reduceBNe, Nat.reduceBEq, Int.reduceToNat, List.length_map, due_app, tTR, fTrue_eq]
              (repeat' apply And.intro) <;> (try first | omega | ((fail_if_success refine idW ?_); (fail_if_success refine idS ?_); intros; (repeat' apply And.intro) <;> first | assumption | omega | (simp_all; done)))
              refine aw_region (EF := EF0) hG (by rw [hN]; exact tr3_7) ?_
              simp only [a3_7, go_sem, ↓reduceIte, Nat.reduceEqDiff, reduceCtorEq, Nat.reduceAdd, Nat.reduceLT, Nat.reduceLeDiff, Nat.reduceBNe, Nat.reduceBEq, Int.reduceToNat, inI, tTR, fTrue_eq]
              (repeat' apply And.intro) <;> (try first | omega | ((fail_if_success refine idW ?_); (fail_if_success refine idS ?_); intros; (repeat' apply And.intro) <;> first | assumption | omega | (simp_all; done)))
              refine hKL0 (i + 1, D ++ billP k sh, w + owC k t.coupons q t.coupons.length) _ ?_ ?_ ?_
              · (try dsimp only); exact ⟨hc6, hstp⟩
              · (try dsimp only); omega
              · refine Le.mk _ _ ?_ ?_ rfl <;> simp only [go_sem, ↓reduceIte, Nat.reduceEqDiff, reduceCtorEq, Nat.reduceAdd, Nat.reduceLT, Nat.reduceLeDiff, Nat.reduceBNe, Nat.reduceBEq, Int.reduceToNat, due_app, List.length_append] <;> (repeat' apply And.intro) <;> (try first | rfl | exact wk_frzb rfl rfl rfl | exact wk_fn rfl | exact .nilo _ _ _ rfl rfl | exact wk_frzm rfl rfl (fun kv hk => by obtain ⟨_, _, rfl⟩ := List.mem_map.1 hk; rfl))
      · simp only [decide_eq_true_eq, decide_eq_false_iff_not, Bool.and_eq_true, Bool.or_eq_true, Bool.not_eq_true', Bool.not_eq_false', Bool.and_eq_false_iff, Bool.or_eq_false_iff, Int.ofNat_lt, Int.ofNat_le, Nat.not_lt, Nat.not_le, Int.not_lt, Int.not_le] at hc6
        obtain rfl : i = l.length := by omega
        refine aw_exit ?_
        simp only [go_sem, ↓reduceIte, Nat.reduceEqDiff, reduceCtorEq, Nat.reduceAdd, Nat.reduceLT, Nat.reduceLeDiff, Nat.reduceBNe, Nat.reduceBEq, Int.reduceToNat]
        obtain ⟨a, pay, hP⟩ := hr.pay hl8 hk
        obtain ⟨hnet, hal, htr, hpok, hset, hstar, hsum⟩ := hP
        have hDok := hr.ok hl8 hk
        have hpl := hpok.1
        refine AW.le (s' := ⟨mkE [(2, .str k), (7, .list (D.map Due.enc) false), (8, .int .i64 w)], mkH []⟩) ?_ ?_
        · refine Le.mk _ _ ?_ ?_ rfl <;> simp only [go_sem, ↓reduceIte, Nat.reduceEqDiff, reduceCtorEq, Nat.reduceAdd, Nat.reduceLT, Nat.reduceLeDiff, Nat.reduceBNe, Nat.reduceBEq, Int.reduceToNat] <;> (repeat' apply And.intro) <;> (try first | rfl | exact wk_frzb rfl rfl rfl | exact wk_fn rfl | exact .nilo _ _ _ rfl rfl | exact wk_frzm rfl rfl (fun kv hk => by obtain ⟨_, _, rfl⟩ := List.mem_map.1 hk; rfl))
          · exact wk_frz rfl (by rw [List.length_map]) rfl ((Due.purs _).2 trivial)
        refine aw_seq (aw_region (EF := EF0) hG (by rw [hN]; exact tr3_23) ?_)
        simp only [a3_23, go_sem, ↓reduceIte, Nat.reduceEqDiff, reduceCtorEq, Nat.reduceAdd, Nat.reduceLT, Nat.reduceLeDiff, Nat.reduceBNe, Nat.reduceBEq, Int.reduceToNat, fNet_eq, hDok, hnet, netV, tTR, fTrue_eq]
        (repeat' apply And.intro) <;> (try first | omega | ((fail_if_success refine idW ?_); (fail_if_success refine idS ?_); intros; (repeat' apply And.intro) <;> first | assumption | omega | (simp_all; done)))
        refine aw_seq (aw_region (EF := EF0) hG (by rw [hN]; exact tr3_24) ?_)
        simp only [a3_24, go_sem, ↓reduceIte, Nat.reduceEqDiff, reduceCtorEq, Nat.reduceAdd, Nat.reduceLT, Nat.reduceLeDiff, Nat.reduceBNe, Nat.reduceBEq, Int.reduceToNat, fTr_eq, hal, htr, trV, tTR, fTrue_eq]
        (repeat' apply And.intro) <;> (try first | omega | ((fail_if_success refine idW ?_); (fail_if_success refine idS ?_); intros; (repeat' apply And.intro) <;> first | assumption | omega | (simp_all; done)))
        refine aw_seq ?_
        refine aw_seq (aw_region (EF := EF0) hG (by rw [hN]; exact tr3_25) ?_)
        simp only [a3_25, go_sem, ↓reduceIte, Nat.reduceEqDiff, reduceCtorEq, Nat.reduceAdd, Nat.reduceLT, Nat.reduceLeDiff, Nat.reduceBNe, Nat.reduceBEq, Int.reduceToNat, fSet_eq, hDok, hpok, hset, tTR, fTrue_eq]
        (repeat' apply And.intro) <;> (try first | omega | ((fail_if_success refine idW ?_); (fail_if_success refine idS ?_); intros; (repeat' apply And.intro) <;> first | assumption | omega | (simp_all; done)))
        refine aw_condF rfl ?_
        refine aw_skip ?_
        try simp only [go_sem, ↓reduceIte, Nat.reduceEqDiff, reduceCtorEq, Nat.reduceAdd, Nat.reduceLT, Nat.reduceLeDiff, Nat.reduceBNe, Nat.reduceBEq, Int.reduceToNat]
        refine aw_seq (aw_region (EF := EF0) hG (by rw [hN]; exact tr3_27) ?_)
        simp only [a3_27, go_sem, ↓reduceIte, Nat.reduceEqDiff, reduceCtorEq, Nat.reduceAdd, Nat.reduceLT, Nat.reduceLeDiff, Nat.reduceBNe, Nat.reduceBEq, Int.reduceToNat, tTR, fTrue_eq]
        refine aw_seq ?_
        refine aw_seq (aw_region (EF := EF0) hG (by rw [hN]; exact tr3_28) ?_)
        simp only [a3_28, go_sem, ↓reduceIte, Nat.reduceEqDiff, reduceCtorEq, Nat.reduceAdd, Nat.reduceLT, Nat.reduceLeDiff, Nat.reduceBNe, Nat.reduceBEq, Int.reduceToNat, tTR, fTrue_eq]
        refine aw_block ?_
        refine aw_loop (α := Nat) (fun m => (m ≤ pay.length)) (fun m => ⟨mkE [(2, V.str k), (8, V.int IntKind.i64 w), (17, V.list (List.map Due.enc pay) false), (19, .int .i64 (dsum (pay.take m))), (20, .int .i64 m)], mkH []⟩) (fun m => pay.length - m) 0 (by simp) ?_ ?_
        · refine Le.mk _ _ ?_ ?_ rfl <;> simp only [go_sem, ↓reduceIte, Nat.reduceEqDiff, reduceCtorEq, Nat.reduceAdd, Nat.reduceLT, Nat.reduceLeDiff, Nat.reduceBNe, Nat.reduceBEq, Int.reduceToNat] <;> (repeat' apply And.intro) <;> (try first | rfl | exact wk_frzb rfl rfl rfl | exact wk_fn rfl | exact .nilo _ _ _ rfl rfl | exact wk_frzm rfl rfl (fun kv hk => by obtain ⟨_, _, rfl⟩ := List.mem_map.1 hk; rfl))
        · rintro m hm KL4 hKL4
          try dsimp only at *
          refine aw_seq ?_
          refine aw_seq (aw_region (EF := EF0) hG (by rw [hN]; exact tr3_29) ?_)
          simp only [a3_29, go_sem, ↓reduceIte, Nat.reduceEqDiff, reduceCtorEq, Nat.reduceAdd, Nat.reduceLT, Nat.reduceLeDiff, Nat.reduceBNe, Nat.reduceBEq, Int.reduceToNat, List.length_map, tTR, fTrue_eq]
          refine aw_cond (b := _) rfl (fun hc29 => ?_) (fun hc29 => ?_)
          · simp only [decide_eq_true_eq, decide_eq_false_iff_not, Bool.and_eq_true, Bool.or_eq_true, Bool.not_eq_true', Bool.not_eq_false', Bool.and_eq_false_iff, Bool.or_eq_false_iff, Int.ofNat_lt, Int.ofNat_le, Nat.not_lt, Nat.not_le, Int.not_lt, Int.not_le] at hc29
            refine aw_skip ?_
            try simp only [go_sem, ↓reduceIte, Nat.reduceEqDiff, reduceCtorEq, Nat.reduceAdd, Nat.reduceLT, Nat.reduceLeDiff, Nat.reduceBNe, Nat.reduceBEq, Int.reduceToNat]
            refine aw_seq ?_
            refine aw_block ?_
            refine aw_seq ?_
            have hpst := pay_step hc29
            have hpb := pay_bd hstar m
            have hpb2 := pay_bd hstar (m + 1)
            obtain ⟨p1, p2, p3⟩ := hstar _ (List.getElem_mem hc29)
            generalize dsum (pay.take m) = ds at hpst hpb
            generalize hxx : pay[m] = x at hpst p1 p2 p3
            obtain ⟨xf, xt, xa⟩ := x
            dsimp only at hpst p1 p2 p3
            subst p1
            have h31 : decide (xa ≤ 0) = false := decide_eq_false (by omega)
            refine aw_seq (aw_region (EF := EF0) hG (by rw [hN]; exact tr3_31) ?_)
            simp only [a3_31, go_sem, ↓reduceIte, Nat.reduceEqDiff, reduceCtorEq, Nat.reduceAdd, Nat.reduceLT, Nat.reduceLeDiff, Nat.reduceBNe, Nat.reduceBEq, Int.reduceToNat, getD_mapd _ _ _ _ hc29, hc29, hxx, Due.enc, h31, tTR, fTrue_eq]
            (repeat' apply And.intro) <;> (try first | omega | ((fail_if_success refine idW ?_); (fail_if_success refine idS ?_); intros; (repeat' apply And.intro) <;> first | assumption | omega | (simp_all; done)))
            refine aw_condF rfl ?_
            refine aw_skip ?_
            try simp only [go_sem, ↓reduceIte, Nat.reduceEqDiff, reduceCtorEq, Nat.reduceAdd, Nat.reduceLT, Nat.reduceLeDiff, Nat.reduceBNe, Nat.reduceBEq, Int.reduceToNat]
            refine aw_region (EF := EF0) hG (by rw [hN]; exact tr3_33) ?_
            simp only [a3_33, go_sem, ↓reduceIte, Nat.reduceEqDiff, reduceCtorEq, Nat.reduceAdd, Nat.reduceLT, Nat.reduceLeDiff, Nat.reduceBNe, Nat.reduceBEq, Int.reduceToNat, inI, getD_mapd _ _ _ _ hc29, hc29, hxx, Due.enc, tTR, fTrue_eq]
            (repeat' apply And.intro) <;> (try first | omega | ((fail_if_success refine idW ?_); (fail_if_success refine idS ?_); intros; (repeat' apply And.intro) <;> first | assumption | omega | (simp_all; done)))
            refine aw_region (EF := EF0) hG (by rw [hN]; exact tr3_30) ?_
            simp only [a3_30, go_sem, ↓reduceIte, Nat.reduceEqDiff, reduceCtorEq, Nat.reduceAdd, Nat.reduceLT, Nat.reduceLeDiff, Nat.reduceBNe, Nat.reduceBEq, Int.reduceToNat, inI, tTR, fTrue_eq]
            (repeat' apply And.intro) <;> (try first | omega | ((fail_if_success refine idW ?_); (fail_if_success refine idS ?_); intros; (repeat' apply And.intro) <;> first | assumption | omega | (simp_all; done)))
            refine hKL4 (m + 1) _ ?_ ?_ ?_
            · (try dsimp only); exact hc29
            · (try dsimp only); omega
            · refine Le.mk _ _ ?_ ?_ rfl <;> simp only [go_sem, ↓reduceIte, Nat.reduceEqDiff, reduceCtorEq, Nat.reduceAdd, Nat.reduceLT, Nat.reduceLeDiff, Nat.reduceBNe, Nat.reduceBEq, Int.reduceToNat, hpst] <;> (repeat' apply And.intro) <;> (try first | rfl | exact wk_frzb rfl rfl rfl | exact wk_fn rfl | exact .nilo _ _ _ rfl rfl | exact wk_frzm rfl rfl (fun kv hk => by obtain ⟨_, _, rfl⟩ := List.mem_map.1 hk; rfl))
          · simp only [decide_eq_true_eq, decide_eq_false_iff_not, Bool.and_eq_true, Bool.or_eq_true, Bool.not_eq_true', Bool.not_eq_false', Bool.and_eq_false_iff, Bool.or_eq_false_iff, Int.ofNat_lt, Int.ofNat_le, Nat.not_lt, Nat.not_le, Int.not_lt, Int.not_le] at hc29
            obtain rfl : m = pay.length := by omega
            refine aw_exit ?_
            simp only [go_sem, ↓reduceIte, Nat.reduceEqDiff, reduceCtorEq, Nat.reduceAdd, Nat.reduceLT, Nat.reduceLeDiff, Nat.reduceBNe, Nat.reduceBEq, Int.reduceToNat]
            refine aw_seq (aw_region (EF := EF0) hG (by rw [hN]; exact tr3_34) ?_)
            simp only [a3_34, go_sem, ↓reduceIte, Nat.reduceEqDiff, reduceCtorEq, Nat.reduceAdd, Nat.reduceLT, Nat.reduceLeDiff, Nat.reduceBNe, Nat.reduceBEq, Int.reduceToNat, List.take_length, hsum, tTR, fTrue_eq]
            (repeat' apply And.intro) <;> (try first | omega | ((fail_if_success refine idW ?_); (fail_if_success refine idS ?_); intros; (repeat' apply And.intro) <;> first | assumption | omega | (simp_all; done)))
            refine aw_ret ?_
            show Q _ _
            refine hQ _ _ (.inl rfl) ?_ ?_ ?_ <;> simp only [outφ, outV, AR.res, go_sem, ↓reduceIte, Nat.reduceEqDiff, reduceCtorEq, Nat.reduceAdd, Nat.reduceLT, Nat.reduceLeDiff, Nat.reduceBNe, Nat.reduceBEq, Int.reduceToNat, fTR]
end Go.Proofs.YtkdkjbneohdofaaDoor
