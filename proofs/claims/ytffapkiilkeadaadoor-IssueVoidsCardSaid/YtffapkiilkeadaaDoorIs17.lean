/- Same of two tickets, the program's. -/
import Derived.Test.YtffapkiilkeadaaDoorIs15
import Derived.Test.YtffapkiilkeadaaDoorTS
namespace Go.Proofs.YtffapkiilkeadaaDoor
open Go Go.RowKit
set_option linter.unusedSimpArgs false
set_option linter.unusedVariables false
set_option linter.deprecated false
def perE (a b : Person) : Bool := decide (a.last = b.last) && (decide (a.first = b.first) && decide (a.type = b.type))
def sameT (s t : Ticket) : Bool := decide (s.number = t.number) && decide (s.locator = t.locator) && perE s.person t.person && eqL eCC s.coupons t.coupons && decide (s.fare = t.fare) && eqL eHH s.taxes t.taxes && decide (s.total = t.total) && decide (s.issued = t.issued)
theorem perE_refl (a : Person) : perE a a = true := by simp [perE]
theorem sameT_refl (t : Ticket) : sameT t t = true := by simp [sameT, perE_refl, eqL_refl eCC_refl, eqL_refl eHH_refl]
def aTT (x : Ticket × Ticket) : List V := [.agg x.1.enc, .agg x.2.enc]
theorem aTT_inj (a b : Ticket × Ticket) (h : aTT a = aTT b) : a = b := by
  obtain ⟨a_s, a_t⟩ := a
  obtain ⟨b_s, b_t⟩ := b
  simp only [aTT, List.cons.injEq, V.str.injEq, V.int.injEq, V.bool.injEq, V.agg.injEq, V.list.injEq, and_true, true_and] at h
  obtain ⟨h0, h1⟩ := h
  replace h0 := Ticket.inj _ _ h0
  subst h0
  replace h1 := Ticket.inj _ _ h1
  subst h1
  rfl
def TsOk (t : Ticket) : Prop := t.coupons.length ≤ 140737488355328 ∧ t.taxes.length ≤ 140737488355328
def fSam (x : Ticket × Ticket) : Prop × V := (TsOk x.1 ∧ TsOk x.2, .bool (sameT x.1 x.2))
theorem fSam_eq (s t : Ticket) : gOf aTT fSam [.agg [.int .i64 s.number, .str s.locator, .str s.person.last, .str s.person.first, .str s.person.type, .list (s.coupons.map Coupon.enc) false, .int .i64 s.fare, .list (s.taxes.map Charge.enc) false, .int .i64 s.total, .int .i64 s.issued], .agg [.int .i64 t.number, .str t.locator, .str t.person.last, .str t.person.first, .str t.person.type, .list (t.coupons.map Coupon.enc) false, .int .i64 t.fare, .list (t.taxes.map Charge.enc) false, .int .i64 t.total, .int .i64 t.issued]] = (TsOk s ∧ TsOk t, .bool (sameT s t)) := gOf_eq aTT_inj (s, t)
noncomputable def tSa : Tab
  | 33 => (gOf aCC fCC)
  | 34 => (gOf aHH fHH)
  | _ => gNo
theorem tSa_ok : ∀ f, PureC Tryd.prog UT f (tSa f) := fun f => by
  unfold tSa
  split
  · exact eqCC_p
  · exact eqHH_p
  · exact PureC.no
theorem idL {P : Program} {U : Tbl} {C : Ctx U} {ops : Array Oper} {l : List Oper} {Q : Exit → St → Prop} {s : St} (h : AWL P C ops l Q s) : AWL P C ops l Q s := h
set_option maxHeartbeats 8000000 in
theorem same_p : PureC Tryd.prog UT 13 (gOf aTT fSam) := by
  have hG := tSa_ok
  refine PureC.ofArgs aTT_inj Tryd.func13 body13 nm13 res13 ?_
  rintro ⟨s, t⟩ hv
  refine ⟨by rw [nt13]; simp [aTT], fun C hN Q hQ => ?_⟩
  rw [nt13] at hN
  unfold c13
  obtain ⟨⟨h1, h2⟩, h3, h4⟩ : TsOk s ∧ TsOk t := hv
  refine aw_seq (aw_region (EF := EF0) hG (by rw [hN]; exact tr13_0) ?_)
  simp only [a13_0, go_sem, ↓reduceIte, Nat.reduceEqDiff, reduceCtorEq, Nat.reduceAdd, Nat.reduceLT, Nat.reduceLeDiff, Nat.reduceBNe, Nat.reduceBEq, Int.reduceToNat, aTT, Ticket.enc]
  obtain ⟨H, hH⟩ : ∃ H : List (Nat × Ob), H = [(2, .box 27 (tCells s)), (3, .box 27 (tCells t))] := ⟨_, rfl⟩
  refine aw_seq (aw_list (awl_le (s' := ⟨mkE [(2, .ptr 2 0), (3, .ptr 3 0)], mkH H⟩) ?_ ?_))
  · subst hH
    refine Le.mk _ _ ?_ ?_ rfl <;> simp only [go_sem, ↓reduceIte, Nat.reduceEqDiff, reduceCtorEq, Nat.reduceAdd, Nat.reduceLT, Nat.reduceLeDiff, Nat.reduceBNe, Nat.reduceBEq, Int.reduceToNat, tCells] <;> (repeat' apply And.intro) <;> (try first | rfl | exact wk_frzb rfl rfl rfl | exact wk_fn rfl | exact .nilo _ _ _ rfl rfl | exact wk_frzm rfl rfl (fun kv hk => by obtain ⟨_, _, rfl⟩ := List.mem_map.1 hk; rfl))
  refine awl_cut 20 (EF := EF0) hG (by rw [hN]; exact tr13_1) ?_
  subst hH
  simp only [a13_1, tCells, go_sem, ↓reduceIte, Nat.reduceEqDiff, reduceCtorEq, Nat.reduceAdd, Nat.reduceLT, Nat.reduceLeDiff, Nat.reduceBNe, Nat.reduceBEq, Int.reduceToNat, tSa, fCC_eq, fHH_eq, h1, h2, h3, h4, List.take_succ_cons, List.take_zero, List.drop_succ_cons, List.drop_zero]
  obtain ⟨b1, hb1⟩ : ∃ b : Bool, b = (decide (s.number = t.number) && decide (s.locator = t.locator) && perE s.person t.person) := ⟨_, rfl⟩
  obtain ⟨H, hH⟩ : ∃ H : List (Nat × Ob), H = [(2, .box 27 (tCells s)), (3, .box 27 (tCells t))] := ⟨_, rfl⟩
  refine awl_le (s' := ⟨mkE [(2, .ptr 2 0), (3, .ptr 3 0), (24, .bool b1)], mkH H⟩) ?_ ?_
  · subst hH hb1
    refine Le.mk _ _ ?_ ?_ rfl <;> simp only [go_sem, ↓reduceIte, Nat.reduceEqDiff, reduceCtorEq, Nat.reduceAdd, Nat.reduceLT, Nat.reduceLeDiff, Nat.reduceBNe, Nat.reduceBEq, Int.reduceToNat, tCells, perE] <;> (repeat' apply And.intro) <;> (try first | rfl | exact wk_frzb rfl rfl rfl | exact wk_fn rfl | exact .nilo _ _ _ rfl rfl | exact wk_frzm rfl rfl (fun kv hk => by obtain ⟨_, _, rfl⟩ := List.mem_map.1 hk; rfl))
  refine awl_cut 14 (EF := EF0) hG (by rw [hN]; exact mapM_drop _ 20 (tr13_1)) ?_
  subst hH
  simp only [a13_1, tCells, go_sem, ↓reduceIte, Nat.reduceEqDiff, reduceCtorEq, Nat.reduceAdd, Nat.reduceLT, Nat.reduceLeDiff, Nat.reduceBNe, Nat.reduceBEq, Int.reduceToNat, tSa, fCC_eq, fHH_eq, h1, h2, h3, h4, List.take_succ_cons, List.take_zero, List.drop_succ_cons, List.drop_zero]
  obtain ⟨b2, hb2⟩ : ∃ b : Bool, b = (b1 && eqL eCC s.coupons t.coupons && decide (s.fare = t.fare)) := ⟨_, rfl⟩
  obtain ⟨H, hH⟩ : ∃ H : List (Nat × Ob), H = [(2, .box 27 (tCells s)), (3, .box 27 (tCells t))] := ⟨_, rfl⟩
  refine awl_le (s' := ⟨mkE [(2, .ptr 2 0), (3, .ptr 3 0), (38, .bool b2)], mkH H⟩) ?_ ?_
  · subst hH hb2
    refine Le.mk _ _ ?_ ?_ rfl <;> simp only [go_sem, ↓reduceIte, Nat.reduceEqDiff, reduceCtorEq, Nat.reduceAdd, Nat.reduceLT, Nat.reduceLeDiff, Nat.reduceBNe, Nat.reduceBEq, Int.reduceToNat, tCells, perE] <;> (repeat' apply And.intro) <;> (try first | rfl | exact wk_frzb rfl rfl rfl | exact wk_fn rfl | exact .nilo _ _ _ rfl rfl | exact wk_frzm rfl rfl (fun kv hk => by obtain ⟨_, _, rfl⟩ := List.mem_map.1 hk; rfl))
  refine awl_cut 14 (EF := EF0) hG (by rw [hN]; exact mapM_drop _ 14 (mapM_drop _ 20 (tr13_1))) ?_
  subst hH
  simp only [a13_1, tCells, go_sem, ↓reduceIte, Nat.reduceEqDiff, reduceCtorEq, Nat.reduceAdd, Nat.reduceLT, Nat.reduceLeDiff, Nat.reduceBNe, Nat.reduceBEq, Int.reduceToNat, tSa, fCC_eq, fHH_eq, h1, h2, h3, h4, List.take_succ_cons, List.take_zero, List.drop_succ_cons, List.drop_zero]
  obtain ⟨b3, hb3⟩ : ∃ b : Bool, b = (b2 && eqL eHH s.taxes t.taxes && decide (s.total = t.total)) := ⟨_, rfl⟩
  obtain ⟨H, hH⟩ : ∃ H : List (Nat × Ob), H = [(2, .box 27 (tCells s)), (3, .box 27 (tCells t))] := ⟨_, rfl⟩
  refine awl_le (s' := ⟨mkE [(2, .ptr 2 0), (3, .ptr 3 0), (52, .bool b3)], mkH H⟩) ?_ ?_
  · subst hH hb3
    refine Le.mk _ _ ?_ ?_ rfl <;> simp only [go_sem, ↓reduceIte, Nat.reduceEqDiff, reduceCtorEq, Nat.reduceAdd, Nat.reduceLT, Nat.reduceLeDiff, Nat.reduceBNe, Nat.reduceBEq, Int.reduceToNat, tCells, perE] <;> (repeat' apply And.intro) <;> (try first | rfl | exact wk_frzb rfl rfl rfl | exact wk_fn rfl | exact .nilo _ _ _ rfl rfl | exact wk_frzm rfl rfl (fun kv hk => by obtain ⟨_, _, rfl⟩ := List.mem_map.1 hk; rfl))
  refine awl_end (EF := EF0) hG (by rw [hN]; exact mapM_drop _ 14 (mapM_drop _ 14 (mapM_drop _ 20 (tr13_1)))) ?_
  subst hH
  simp only [a13_1, tCells, go_sem, ↓reduceIte, Nat.reduceEqDiff, reduceCtorEq, Nat.reduceAdd, Nat.reduceLT, Nat.reduceLeDiff, Nat.reduceBNe, Nat.reduceBEq, Int.reduceToNat, tSa, fCC_eq, fHH_eq, h1, h2, h3, h4, List.take_succ_cons, List.take_zero, List.drop_succ_cons, List.drop_zero]
  have hs : sameT s t = (b3 && decide (s.issued = t.issued)) := by subst hb3 hb2 hb1; unfold sameT; rfl
  refine aw_ret ?_
  show Q _ _
  refine hQ _ _ (.inl rfl) ?_ ?_ ?_ <;> simp only [outφ, outV, AR.res, go_sem, ↓reduceIte, Nat.reduceEqDiff, reduceCtorEq, Nat.reduceAdd, Nat.reduceLT, Nat.reduceLeDiff, Nat.reduceBNe, Nat.reduceBEq, Int.reduceToNat, fSam, hs]
end Go.Proofs.YtffapkiilkeadaaDoor
