/- The program's Check of a ticket. -/
import Derived.Test.YtffapkiilkeadaaDoorIs6
namespace Go.Proofs.YtffapkiilkeadaaDoor
open Go Go.RowKit
set_option linter.unusedSimpArgs false
set_option linter.unusedVariables false
set_option linter.deprecated false
theorem fadd_use {d : Option Nat} {s : St} {K : St → Prop} {nb na : Nat} {g : List Fault} {b : Bool} {e : Int} {pos : List UInt8} (hg : g.length ≤ 1000000000)
    (hb : s.h nb = some (.box 48 [.own na g.length])) (ha : s.h na = some (.arr 45 2 (faults g))) (hne : nb ≠ na)
    (hK : K ⟨setE d (.bool b) s.e, hov (fbO nb na (g ++ fIf b e pos)) s.h⟩) : EStep Tryd.prog UT d 14 [.ptr nb 0, .bool b, .int .i64 e, .str pos] s K :=
  fb_use (fadd_e g b e pos hg) (fun σ => by simp [V.rens, V.ren]) (fun D => by simp [V.nins, V.nin]) (fun σ => by simp [V.ren]) (fun D => by simp [V.nin]) hb ha hne hK
def amtB (n : Int) : Bool := decide (0 ≤ n) && decide (n ≤ 1099511627776)
theorem amt_bd {n : Int} (h : amtB n = true) : 0 ≤ n ∧ n ≤ 1099511627776 := by
  unfold amtB at h
  simpa using h
def fAmt (n : Int) : Prop × V := (True, .bool (amtB n))
theorem fAmt_eq (n : Int) : gOf aInt fAmt [.int .i64 n] = (True, .bool (amtB n)) := gOf_eq aInt_inj n
theorem amt_p : PureC Tryd.prog UT 20 (gOf aInt fAmt) := by
  have hG := tNo_ok
  refine PureC.ofArgs aInt_inj Tryd.func20 body20 nm20 res20 ?_
  rintro n hv
  refine ⟨by rw [nt20]; simp [aInt], fun C hN Q hQ => ?_⟩
  rw [nt20] at hN
  unfold c20
  refine aw_seq (aw_region (EF := EF0) hG (by rw [hN]; exact tr20_0) ?_)
  simp only [a20_0, go_sem, ↓reduceIte, Nat.reduceEqDiff, reduceCtorEq, Nat.reduceAdd, Nat.reduceLT, Nat.reduceLeDiff, Nat.reduceBNe, Nat.reduceBEq, Int.reduceToNat, aInt]
  refine aw_seq (aw_region (EF := EF0) hG (by rw [hN]; exact tr20_1) ?_)
  simp only [a20_1, go_sem, ↓reduceIte, Nat.reduceEqDiff, reduceCtorEq, Nat.reduceAdd, Nat.reduceLT, Nat.reduceLeDiff, Nat.reduceBNe, Nat.reduceBEq, Int.reduceToNat]
  (repeat' apply And.intro) <;> (try first | omega | ((fail_if_success refine idW ?_); (fail_if_success refine idS ?_); intros; (repeat' apply And.intro) <;> first | assumption | omega | (simp_all; done)))
  refine aw_ret ?_
  show Q _ _
  refine hQ _ _ (.inl rfl) ?_ ?_ ?_ <;> simp only [outφ, outV, AR.res, go_sem, ↓reduceIte, Nat.reduceEqDiff, reduceCtorEq, Nat.reduceAdd, Nat.reduceLT, Nat.reduceLeDiff, Nat.reduceBNe, Nat.reduceBEq, Int.reduceToNat, fAmt, amtB]
def dayB (n : Int) : Bool := decide (0 ≤ n) && decide (n < 36525)
def fDy (n : Int) : Prop × V := (True, .bool (dayB n))
theorem fDy_eq (n : Int) : gOf aInt fDy [.int .i64 n] = (True, .bool (dayB n)) := gOf_eq aInt_inj n
theorem day_p : PureC Tryd.prog UT 23 (gOf aInt fDy) := by
  have hG := tNo_ok
  refine PureC.ofArgs aInt_inj Tryd.func23 body23 nm23 res23 ?_
  rintro n hv
  refine ⟨by rw [nt23]; simp [aInt], fun C hN Q hQ => ?_⟩
  rw [nt23] at hN
  unfold c23
  refine aw_seq (aw_region (EF := EF0) hG (by rw [hN]; exact tr23_0) ?_)
  simp only [a23_0, go_sem, ↓reduceIte, Nat.reduceEqDiff, reduceCtorEq, Nat.reduceAdd, Nat.reduceLT, Nat.reduceLeDiff, Nat.reduceBNe, Nat.reduceBEq, Int.reduceToNat, aInt]
  refine aw_seq (aw_region (EF := EF0) hG (by rw [hN]; exact tr23_1) ?_)
  simp only [a23_1, go_sem, ↓reduceIte, Nat.reduceEqDiff, reduceCtorEq, Nat.reduceAdd, Nat.reduceLT, Nat.reduceLeDiff, Nat.reduceBNe, Nat.reduceBEq, Int.reduceToNat]
  (repeat' apply And.intro) <;> (try first | omega | ((fail_if_success refine idW ?_); (fail_if_success refine idS ?_); intros; (repeat' apply And.intro) <;> first | assumption | omega | (simp_all; done)))
  refine aw_ret ?_
  show Q _ _
  refine hQ _ _ (.inl rfl) ?_ ?_ ?_ <;> simp only [outφ, outV, AR.res, go_sem, ↓reduceIte, Nat.reduceEqDiff, reduceCtorEq, Nat.reduceAdd, Nat.reduceLT, Nat.reduceLeDiff, Nat.reduceBNe, Nat.reduceBEq, Int.reduceToNat, fDy, dayB]
def aCps (x : List Coupon) : List V := [.list (x.map Coupon.enc) false]
theorem aCps_inj (a b : List Coupon) (h : aCps a = aCps b) : a = b := by
  simp only [aCps, List.cons.injEq, V.str.injEq, V.int.injEq, V.bool.injEq, V.agg.injEq, V.list.injEq, and_true, true_and] at h
  have h0 := h
  replace h0 := map_inj' Coupon.inj h0
  subst h0
  rfl
def aChs (x : List Charge) : List V := [.list (x.map Charge.enc) false]
theorem aChs_inj (a b : List Charge) (h : aChs a = aChs b) : a = b := by
  simp only [aChs, List.cons.injEq, V.str.injEq, V.int.injEq, V.bool.injEq, V.agg.injEq, V.list.injEq, and_true, true_and] at h
  have h0 := h
  replace h0 := map_inj' Charge.inj h0
  subst h0
  rfl
def fFc (l : List Coupon) : Prop × V := (l.length ≤ 1000, .list (l.map Coupon.enc) false)
theorem fFc_eq (l : List Coupon) : gOf aCps fFc [.list (l.map Coupon.enc) false] = (l.length ≤ 1000, .list (l.map Coupon.enc) false) := gOf_eq aCps_inj l
theorem firstc_p : PureC Tryd.prog UT 42 (gOf aCps fFc) := by
  have hG := tNo_ok
  refine PureC.ofArgs aCps_inj Tryd.func42 body42 nm42 res42 ?_
  rintro l hv
  refine ⟨by rw [nt42]; simp [aCps], fun C hN Q hQ => ?_⟩
  rw [nt42] at hN
  unfold c42
  replace hv : l.length ≤ 1000 := hv
  have hmin : min (l.length : Int) 1024 = l.length := by omega
  have htk : ((l.map Coupon.enc).take ((l.length : Int)).toNat).drop (0 : Int).toNat = l.map Coupon.enc := by rw [Int.toNat_natCast, show (0 : Int).toNat = 0 from rfl, List.drop_zero, List.take_of_length_le (by rw [List.length_map]; exact Nat.le_refl _)]
  refine aw_seq (aw_region (EF := EF0) hG (by rw [hN]; exact tr42_0) ?_)
  simp only [a42_0, go_sem, ↓reduceIte, Nat.reduceEqDiff, reduceCtorEq, Nat.reduceAdd, Nat.reduceLT, Nat.reduceLeDiff, Nat.reduceBNe, Nat.reduceBEq, Int.reduceToNat, aCps]
  refine aw_seq (aw_region (EF := EF0) hG (by rw [hN]; exact tr42_1) ?_)
  simp only [a42_1, go_sem, ↓reduceIte, Nat.reduceEqDiff, reduceCtorEq, Nat.reduceAdd, Nat.reduceLT, Nat.reduceLeDiff, Nat.reduceBNe, Nat.reduceBEq, Int.reduceToNat, List.length_map, hmin, htk, Coupon.rows]
  (repeat' apply And.intro) <;> (try first | omega | ((fail_if_success refine idW ?_); (fail_if_success refine idS ?_); intros; (repeat' apply And.intro) <;> first | assumption | omega | (simp_all; done)))
  refine aw_ret ?_
  show Q _ _
  refine hQ _ _ (.inl rfl) ?_ ?_ ?_ <;> simp only [outφ, outV, AR.res, go_sem, ↓reduceIte, Nat.reduceEqDiff, reduceCtorEq, Nat.reduceAdd, Nat.reduceLT, Nat.reduceLeDiff, Nat.reduceBNe, Nat.reduceBEq, Int.reduceToNat, fFc]
  rw [List.take_of_length_le (by rw [List.length_map]; exact Nat.le_refl _)]
def fFh (l : List Charge) : Prop × V := (l.length ≤ 1000, .list (l.map Charge.enc) false)
theorem fFh_eq (l : List Charge) : gOf aChs fFh [.list (l.map Charge.enc) false] = (l.length ≤ 1000, .list (l.map Charge.enc) false) := gOf_eq aChs_inj l
theorem firsth_p : PureC Tryd.prog UT 21 (gOf aChs fFh) := by
  have hG := tNo_ok
  refine PureC.ofArgs aChs_inj Tryd.func21 body21 nm21 res21 ?_
  rintro l hv
  refine ⟨by rw [nt21]; simp [aChs], fun C hN Q hQ => ?_⟩
  rw [nt21] at hN
  unfold c21
  replace hv : l.length ≤ 1000 := hv
  have hmin : min (l.length : Int) 1024 = l.length := by omega
  have htk : ((l.map Charge.enc).take ((l.length : Int)).toNat).drop (0 : Int).toNat = l.map Charge.enc := by rw [Int.toNat_natCast, show (0 : Int).toNat = 0 from rfl, List.drop_zero, List.take_of_length_le (by rw [List.length_map]; exact Nat.le_refl _)]
  refine aw_seq (aw_region (EF := EF0) hG (by rw [hN]; exact tr21_0) ?_)
  simp only [a21_0, go_sem, ↓reduceIte, Nat.reduceEqDiff, reduceCtorEq, Nat.reduceAdd, Nat.reduceLT, Nat.reduceLeDiff, Nat.reduceBNe, Nat.reduceBEq, Int.reduceToNat, aChs]
  refine aw_seq (aw_region (EF := EF0) hG (by rw [hN]; exact tr21_1) ?_)
  simp only [a21_1, go_sem, ↓reduceIte, Nat.reduceEqDiff, reduceCtorEq, Nat.reduceAdd, Nat.reduceLT, Nat.reduceLeDiff, Nat.reduceBNe, Nat.reduceBEq, Int.reduceToNat, List.length_map, hmin, htk, Charge.rows]
  (repeat' apply And.intro) <;> (try first | omega | ((fail_if_success refine idW ?_); (fail_if_success refine idS ?_); intros; (repeat' apply And.intro) <;> first | assumption | omega | (simp_all; done)))
  refine aw_ret ?_
  show Q _ _
  refine hQ _ _ (.inl rfl) ?_ ?_ ?_ <;> simp only [outφ, outV, AR.res, go_sem, ↓reduceIte, Nat.reduceEqDiff, reduceCtorEq, Nat.reduceAdd, Nat.reduceLT, Nat.reduceLeDiff, Nat.reduceBNe, Nat.reduceBEq, Int.reduceToNat, fFh]
  rw [List.take_of_length_le (by rw [List.length_map]; exact Nat.le_refl _)]
/-! Faults of coupons. -/
def sCps : List UInt8 := [99, 111, 117, 112, 111, 110, 115]
def sCpd : List UInt8 := [99, 111, 117, 112, 111, 110, 115, 46]
def kdB (c : Coupon) : Bool := decide (c.status < 1) || decide (8 < c.status)
def cF (i : Nat) (c : Coupon) : List Fault := fIf (kdB c) 8 (sCpd ++ dec i) ++ fIf (!classB c.want.cls) 16 (sCpd ++ dec i) ++ fIf (!amtB c.value) 11 (sCpd ++ dec i)
def cTo (l : List Coupon) : Nat → List Fault
  | 0 => []
  | i + 1 => cTo l i ++ cF i (l.getD i Coupon.zero)
def cSz (l : List Coupon) : Bool := decide ((l.length : Int) < 1) || decide (6 < (l.length : Int))
def cupF (l : List Coupon) : List Fault := fIf (cSz l) 4 sCps ++ cTo l l.length
def cSum (l : List Coupon) : Nat → Int
  | 0 => 0
  | i + 1 => if amtB (l.getD i Coupon.zero).value = true then cSum l i + (l.getD i Coupon.zero).value else cSum l i
def cRt (l : List Coupon) : Nat → Bool
  | 0 => true
  | i + 1 => cRt l i && amtB (l.getD i Coupon.zero).value
theorem fIf_le (b : Bool) (e : Int) (p : List UInt8) : (fIf b e p).length ≤ 1 := by unfold fIf; split <;> simp
theorem cF_len (i : Nat) (c : Coupon) : (cF i c).length ≤ 3 := by
  unfold cF
  have a1 := fIf_le (kdB c) 8 (sCpd ++ dec i)
  have a2 := fIf_le (!classB c.want.cls) 16 (sCpd ++ dec i)
  have a3 := fIf_le (!amtB c.value) 11 (sCpd ++ dec i)
  simp only [List.length_append]; omega
theorem cTo_len (l : List Coupon) : ∀ i, (cTo l i).length ≤ 3 * i
  | 0 => Nat.le_refl _
  | i + 1 => by have := cTo_len l i; have := cF_len i (l.getD i Coupon.zero); rw [cTo, List.length_append]; omega
theorem fAdd_dec (n : Int) : gDec [.int .i64 n] = (inI n, .str (dec n)) := rfl
theorem fCls_eq (s : List UInt8) : gClass [.str s] = (s.length ≤ 140737488355328, .bool (classB s)) := rfl
theorem cat_fix {p q R : List Fault} (h : p ++ q = R) : p ++ q = R := h
def EFf : Nat → Bool := fun f => f == 14
noncomputable def tCps : Tab
  | 42 => (gOf aCps fFc)
  | 22 => gDec
  | 43 => gClass
  | 20 => (gOf aInt fAmt)
  | _ => gNo
theorem tCps_ok : ∀ f, PureC Tryd.prog UT f (tCps f) := fun f => by
  unfold tCps
  split
  · exact firstc_p
  · exact itoa_p
  · exact class_p
  · exact amt_p
  · exact PureC.no
set_option maxHeartbeats 4000000 in
theorem coupons_e (l : List Coupon) (g : List Fault) (hg : g.length ≤ 1000) (hl : l.length ≤ 1000) (hok : ∀ c ∈ l, c.ok) : Eff Tryd.prog UT 19 (.ptr 1000 0 :: [.list (l.map Coupon.enc) false]) (fbO 1000 1001 g) (.tup [.int .i64 (cSum l l.length), .bool (cRt l l.length)]) (fbO 1000 1001 (g ++ cupF l)) := by
  have hG := tCps_ok
  obtain ⟨R, hR⟩ : ∃ R, R = g ++ cupF l := ⟨_, rfl⟩
  rw [← hR]
  obtain ⟨g1, hg1⟩ : ∃ g1, g1 = g ++ fIf (cSz l) 4 sCps := ⟨_, rfl⟩
  have hg1l : g1.length ≤ 1001 := by rw [hg1, List.length_append]; have := fIf_le (cSz l) 4 sCps; omega
  refine Eff.of_aw Tryd.func19 body19 nm19 res19 (by rw [nt19]; simp) fun C hN Q hQ => ?_
  rw [nt19] at hN
  unfold c19
  refine aw_seq (aw_region (EF := EFf) hG (by rw [hN]; exact tr19_0) ?_)
  simp only [a19_0, go_sem, ↓reduceIte, Nat.reduceEqDiff, reduceCtorEq, Nat.reduceAdd, Nat.reduceLT, Nat.reduceLeDiff, Nat.reduceBNe, Nat.reduceBEq, Int.reduceToNat, tCps, EFf, fbO, fFc_eq, fAdd_dec, fCls_eq, fAmt_eq]
  refine aw_seq (aw_region (EF := EFf) hG (by rw [hN]; exact tr19_1) ?_)
  simp only [a19_1, go_sem, ↓reduceIte, Nat.reduceEqDiff, reduceCtorEq, Nat.reduceAdd, Nat.reduceLT, Nat.reduceLeDiff, Nat.reduceBNe, Nat.reduceBEq, Int.reduceToNat, List.length_map, tCps, EFf, fbO, fFc_eq, fAdd_dec, fCls_eq, fAmt_eq]
  refine fadd_use (g := g) (b := cSz l) (e := 4) (pos := sCps) (by omega) rfl rfl (by decide) ?_
  simp only [go_sem, ↓reduceIte, Nat.reduceEqDiff, reduceCtorEq, Nat.reduceAdd, Nat.reduceLT, Nat.reduceLeDiff, Nat.reduceBNe, Nat.reduceBEq, Int.reduceToNat, fbO]
  rw [← hg1]
  refine aw_seq (aw_region (EF := EFf) hG (by rw [hN]; exact tr19_2) ?_)
  simp only [a19_2, go_sem, ↓reduceIte, Nat.reduceEqDiff, reduceCtorEq, Nat.reduceAdd, Nat.reduceLT, Nat.reduceLeDiff, Nat.reduceBNe, Nat.reduceBEq, Int.reduceToNat, tCps, EFf, fbO, fFc_eq, fAdd_dec, fCls_eq, fAmt_eq]
  refine aw_seq ?_
  refine aw_seq (aw_region (EF := EFf) hG (by rw [hN]; exact tr19_3) ?_)
  simp only [a19_3, go_sem, ↓reduceIte, Nat.reduceEqDiff, reduceCtorEq, Nat.reduceAdd, Nat.reduceLT, Nat.reduceLeDiff, Nat.reduceBNe, Nat.reduceBEq, Int.reduceToNat, hl, List.length_map, tCps, EFf, fbO, fFc_eq, fAdd_dec, fCls_eq, fAmt_eq]
  (repeat' apply And.intro) <;> (try first | omega | ((fail_if_success refine idW ?_); (fail_if_success refine idS ?_); intros; (repeat' apply And.intro) <;> first | assumption | omega | (simp_all; done)))
  refine aw_block ?_
  refine aw_loop (α := Nat × (List Fault) × Int × Bool) (fun γ => (γ.1 ≤ l.length) ∧ (γ.2.1 = g1 ++ cTo l γ.1) ∧ (γ.2.1.length ≤ g1.length + 3 * γ.1) ∧ (γ.2.2.1 = cSum l γ.1) ∧ (γ.2.2.2 = cRt l γ.1) ∧ (0 ≤ γ.2.2.1 ∧ γ.2.2.1 ≤ 1099511627776 * (γ.1 : Int))) (fun γ => ⟨mkE [(0, V.ptr 1000 0), (6, .int .i64 γ.2.2.1), (7, .bool γ.2.2.2), (22, V.list (List.map Coupon.enc l) false), (23, V.int IntKind.i64 ↑l.length), (24, .int .i64 γ.1)], mkH [(1000, .box 48 [.own 1001 γ.2.1.length]), (1001, .arr 45 2 (faults γ.2.1))]⟩) (fun γ => l.length - γ.1) (0, g1, 0, true) ⟨Nat.zero_le _, by simp [cTo], Nat.le_refl _, rfl, rfl, Int.le_refl 0, Int.le_refl 0⟩ ?_ ?_
  · refine Le.mk _ _ ?_ ?_ rfl <;> simp only [go_sem, ↓reduceIte, Nat.reduceEqDiff, reduceCtorEq, Nat.reduceAdd, Nat.reduceLT, Nat.reduceLeDiff, Nat.reduceBNe, Nat.reduceBEq, Int.reduceToNat, ← hg1] <;> (repeat' apply And.intro) <;> (try first | rfl | exact wk_frzb rfl rfl rfl | exact wk_fn rfl | exact .nilo _ _ _ rfl rfl | exact wk_frzm rfl rfl (fun kv hk => by obtain ⟨_, _, rfl⟩ := List.mem_map.1 hk; rfl))
  · rintro ⟨i, f, n, r⟩ ⟨hi, hf, hfl, hn, hr, hnb⟩ KL0 hKL0
    try dsimp only at *
    refine aw_seq (aw_region (EF := EFf) hG (by rw [hN]; exact tr19_4) ?_)
    simp only [a19_4, go_sem, ↓reduceIte, Nat.reduceEqDiff, reduceCtorEq, Nat.reduceAdd, Nat.reduceLT, Nat.reduceLeDiff, Nat.reduceBNe, Nat.reduceBEq, Int.reduceToNat, tCps, EFf, fbO, fFc_eq, fAdd_dec, fCls_eq, fAmt_eq]
    refine aw_seq ?_
    refine aw_cond (b := _) rfl (fun hc4 => ?_) (fun hc4 => ?_)
    · simp only [decide_eq_true_eq, decide_eq_false_iff_not, Bool.and_eq_true, Bool.or_eq_true, Bool.not_eq_true', Bool.not_eq_false', Bool.and_eq_false_iff, Bool.or_eq_false_iff, Int.ofNat_lt, Int.ofNat_le, Nat.not_lt, Nat.not_le, Int.not_lt, Int.not_le] at hc4
      obtain ⟨c, hcc⟩ : ∃ c, c = l[i] := ⟨_, rfl⟩
      have hco : c.ok := hcc ▸ hok _ (List.getElem_mem hc4)
      have hcl : c.want.cls.length ≤ 140737488355328 := hco.1.2
      have hgd : l.getD i Coupon.zero = c := by rw [List.getD_eq_getElem?_getD, List.getElem?_eq_getElem hc4, hcc]; rfl
      have hst : cTo l (i + 1) = cTo l i ++ cF i c := by rw [cTo, hgd]
      have hss : cSum l (i + 1) = if amtB c.value = true then n + c.value else n := by rw [cSum, hgd, hn]
      have hsr : cRt l (i + 1) = (r && amtB c.value) := by rw [cRt, hgd, hr]
      have hdl := dec_lenN (i := i) (by omega)
      have hii : inI (i : Int) := ⟨by omega, by omega⟩
      refine aw_skip ?_
      try simp only [go_sem, ↓reduceIte, Nat.reduceEqDiff, reduceCtorEq, Nat.reduceAdd, Nat.reduceLT, Nat.reduceLeDiff, Nat.reduceBNe, Nat.reduceBEq, Int.reduceToNat]
      refine aw_seq ?_
      refine aw_block ?_
      refine aw_seq (aw_region (EF := EFf) hG (by rw [hN]; exact tr19_5) ?_)
      simp only [a19_5, go_sem, ↓reduceIte, Nat.reduceEqDiff, reduceCtorEq, Nat.reduceAdd, Nat.reduceLT, Nat.reduceLeDiff, Nat.reduceBNe, Nat.reduceBEq, Int.reduceToNat, getD_mapd _ _ _ _ hc4, hc4, Coupon.enc, ← hcc, List.length_map, tCps, EFf, fbO, fFc_eq, fAdd_dec, fCls_eq, fAmt_eq]
      (repeat' apply And.intro) <;> (try first | omega | ((fail_if_success refine idW ?_); (fail_if_success refine idS ?_); intros; (repeat' apply And.intro) <;> first | assumption | omega | (simp_all; done)))
      refine aw_seq (aw_region (EF := EFf) hG (by rw [hN]; exact tr19_6) ?_)
      simp only [a19_6, go_sem, ↓reduceIte, Nat.reduceEqDiff, reduceCtorEq, Nat.reduceAdd, Nat.reduceLT, Nat.reduceLeDiff, Nat.reduceBNe, Nat.reduceBEq, Int.reduceToNat, inI, hii, tCps, EFf, fbO, fFc_eq, fAdd_dec, fCls_eq, fAmt_eq]
      (repeat' apply And.intro) <;> (try first | omega | ((fail_if_success refine idW ?_); (fail_if_success refine idS ?_); intros; (repeat' apply And.intro) <;> first | assumption | omega | (simp_all; done)) | (simp only [List.length_append, List.length_cons, List.length_nil]; omega))
      obtain ⟨pos, hpos⟩ : ∃ pos, pos = sCpd ++ dec i := ⟨_, rfl⟩
      have hpos2 : 99 :: 111 :: 117 :: 112 :: 111 :: 110 :: 115 :: 46 :: dec (i : Int) = pos := hpos.symm
      have a1 := fIf_le (kdB c) 8 pos
      have a2 := fIf_le (!classB c.want.cls) 16 pos
      have a3 := fIf_le (!amtB c.value) 11 pos
      refine aw_seq (aw_region (EF := EFf) hG (by rw [hN]; exact tr19_7) ?_)
      simp only [a19_7, go_sem, ↓reduceIte, Nat.reduceEqDiff, reduceCtorEq, Nat.reduceAdd, Nat.reduceLT, Nat.reduceLeDiff, Nat.reduceBNe, Nat.reduceBEq, Int.reduceToNat, hpos2, tCps, EFf, fbO, fFc_eq, fAdd_dec, fCls_eq, fAmt_eq]
      refine fadd_use (g := f) (b := kdB c) (e := 8) (pos := pos) (by omega) rfl rfl (by decide) ?_
      simp only [go_sem, ↓reduceIte, Nat.reduceEqDiff, reduceCtorEq, Nat.reduceAdd, Nat.reduceLT, Nat.reduceLeDiff, Nat.reduceBNe, Nat.reduceBEq, Int.reduceToNat, fbO]
      obtain ⟨f1, hf1⟩ : ∃ f1, f1 = f ++ fIf (kdB c) 8 pos := ⟨_, rfl⟩
      have hf1l : f1.length ≤ f.length + 1 := by rw [hf1, List.length_append]; omega
      rw [← hf1]
      refine aw_seq (aw_region (EF := EFf) hG (by rw [hN]; exact tr19_8) ?_)
      simp only [a19_8, go_sem, ↓reduceIte, Nat.reduceEqDiff, reduceCtorEq, Nat.reduceAdd, Nat.reduceLT, Nat.reduceLeDiff, Nat.reduceBNe, Nat.reduceBEq, Int.reduceToNat, hcl, tCps, EFf, fbO, fFc_eq, fAdd_dec, fCls_eq, fAmt_eq]
      refine fadd_use (g := f1) (b := !classB c.want.cls) (e := 16) (pos := pos) (by omega) rfl rfl (by decide) ?_
      simp only [go_sem, ↓reduceIte, Nat.reduceEqDiff, reduceCtorEq, Nat.reduceAdd, Nat.reduceLT, Nat.reduceLeDiff, Nat.reduceBNe, Nat.reduceBEq, Int.reduceToNat, fbO]
      obtain ⟨f2, hf2⟩ : ∃ f2, f2 = f1 ++ fIf (!classB c.want.cls) 16 pos := ⟨_, rfl⟩
      have hf2l : f2.length ≤ f1.length + 1 := by rw [hf2, List.length_append]; omega
      rw [← hf2]
      refine aw_seq ?_
      refine aw_seq (aw_region (EF := EFf) hG (by rw [hN]; exact tr19_9) ?_)
      simp only [a19_9, go_sem, ↓reduceIte, Nat.reduceEqDiff, reduceCtorEq, Nat.reduceAdd, Nat.reduceLT, Nat.reduceLeDiff, Nat.reduceBNe, Nat.reduceBEq, Int.reduceToNat, tCps, EFf, fbO, fFc_eq, fAdd_dec, fCls_eq, fAmt_eq]
      refine fadd_use (g := f2) (b := !amtB c.value) (e := 11) (pos := pos) (by omega) rfl rfl (by decide) ?_
      simp only [go_sem, ↓reduceIte, Nat.reduceEqDiff, reduceCtorEq, Nat.reduceAdd, Nat.reduceLT, Nat.reduceLeDiff, Nat.reduceBNe, Nat.reduceBEq, Int.reduceToNat, fbO]
      obtain ⟨f3, hf3⟩ : ∃ f3, f3 = f2 ++ fIf (!amtB c.value) 11 pos := ⟨_, rfl⟩
      have hf3l : f3.length ≤ f2.length + 1 := by rw [hf3, List.length_append]; omega
      rw [← hf3]
      have hfin : f3 = g1 ++ cTo l (i + 1) := by rw [hst, hf3, hf2, hf1, hf, hpos, cF]; simp only [List.append_assoc]
      refine aw_cond (b := _) rfl (fun hb9 => ?_) (fun hb9 => ?_)
      · skip
        have hab : amtB c.value = false := by simpa using hb9
        refine aw_seq (aw_region (EF := EFf) hG (by rw [hN]; exact tr19_10) ?_)
        simp only [a19_10, go_sem, ↓reduceIte, Nat.reduceEqDiff, reduceCtorEq, Nat.reduceAdd, Nat.reduceLT, Nat.reduceLeDiff, Nat.reduceBNe, Nat.reduceBEq, Int.reduceToNat, tCps, EFf, fbO, fFc_eq, fAdd_dec, fCls_eq, fAmt_eq]
        refine aw_exit ?_
        simp only [go_sem, ↓reduceIte, Nat.reduceEqDiff, reduceCtorEq, Nat.reduceAdd, Nat.reduceLT, Nat.reduceLeDiff, Nat.reduceBNe, Nat.reduceBEq, Int.reduceToNat]
        refine aw_region (EF := EFf) hG (by rw [hN]; exact tr19_12) ?_
        simp only [a19_12, go_sem, ↓reduceIte, Nat.reduceEqDiff, reduceCtorEq, Nat.reduceAdd, Nat.reduceLT, Nat.reduceLeDiff, Nat.reduceBNe, Nat.reduceBEq, Int.reduceToNat, inI, tCps, EFf, fbO, fFc_eq, fAdd_dec, fCls_eq, fAmt_eq]
        (repeat' apply And.intro) <;> (try first | omega | ((fail_if_success refine idW ?_); (fail_if_success refine idS ?_); intros; (repeat' apply And.intro) <;> first | assumption | omega | (simp_all; done)))
        refine hKL0 (i + 1, f3, n, false) _ ?_ ?_ ?_
        · (try dsimp only); exact ⟨hc4, hfin, by omega, by rw [hss, if_neg (by rw [hab]; decide)], by rw [hsr, hab, Bool.and_false], by omega, by omega⟩
        · (try dsimp only); omega
        · refine Le.mk _ _ ?_ ?_ rfl <;> simp only [go_sem, ↓reduceIte, Nat.reduceEqDiff, reduceCtorEq, Nat.reduceAdd, Nat.reduceLT, Nat.reduceLeDiff, Nat.reduceBNe, Nat.reduceBEq, Int.reduceToNat] <;> (repeat' apply And.intro) <;> (try first | rfl | exact wk_frzb rfl rfl rfl | exact wk_fn rfl | exact .nilo _ _ _ rfl rfl | exact wk_frzm rfl rfl (fun kv hk => by obtain ⟨_, _, rfl⟩ := List.mem_map.1 hk; rfl))
      · skip
        have hab : amtB c.value = true := by simpa using hb9
        have hvb := amt_bd hab
        refine aw_skip ?_
        try simp only [go_sem, ↓reduceIte, Nat.reduceEqDiff, reduceCtorEq, Nat.reduceAdd, Nat.reduceLT, Nat.reduceLeDiff, Nat.reduceBNe, Nat.reduceBEq, Int.reduceToNat]
        refine aw_region (EF := EFf) hG (by rw [hN]; exact tr19_11) ?_
        simp only [a19_11, go_sem, ↓reduceIte, Nat.reduceEqDiff, reduceCtorEq, Nat.reduceAdd, Nat.reduceLT, Nat.reduceLeDiff, Nat.reduceBNe, Nat.reduceBEq, Int.reduceToNat, inI, tCps, EFf, fbO, fFc_eq, fAdd_dec, fCls_eq, fAmt_eq]
        (repeat' apply And.intro) <;> (try first | omega | ((fail_if_success refine idW ?_); (fail_if_success refine idS ?_); intros; (repeat' apply And.intro) <;> first | assumption | omega | (simp_all; done)))
        refine aw_region (EF := EFf) hG (by rw [hN]; exact tr19_12) ?_
        simp only [a19_12, go_sem, ↓reduceIte, Nat.reduceEqDiff, reduceCtorEq, Nat.reduceAdd, Nat.reduceLT, Nat.reduceLeDiff, Nat.reduceBNe, Nat.reduceBEq, Int.reduceToNat, inI, tCps, EFf, fbO, fFc_eq, fAdd_dec, fCls_eq, fAmt_eq]
        (repeat' apply And.intro) <;> (try first | omega | ((fail_if_success refine idW ?_); (fail_if_success refine idS ?_); intros; (repeat' apply And.intro) <;> first | assumption | omega | (simp_all; done)))
        refine hKL0 (i + 1, f3, n + c.value, r) _ ?_ ?_ ?_
        · (try dsimp only); exact ⟨hc4, hfin, by omega, by rw [hss, if_pos hab], by rw [hsr, hab, Bool.and_true], by omega, by omega⟩
        · (try dsimp only); omega
        · refine Le.mk _ _ ?_ ?_ rfl <;> simp only [go_sem, ↓reduceIte, Nat.reduceEqDiff, reduceCtorEq, Nat.reduceAdd, Nat.reduceLT, Nat.reduceLeDiff, Nat.reduceBNe, Nat.reduceBEq, Int.reduceToNat] <;> (repeat' apply And.intro) <;> (try first | rfl | exact wk_frzb rfl rfl rfl | exact wk_fn rfl | exact .nilo _ _ _ rfl rfl | exact wk_frzm rfl rfl (fun kv hk => by obtain ⟨_, _, rfl⟩ := List.mem_map.1 hk; rfl))
    · simp only [decide_eq_true_eq, decide_eq_false_iff_not, Bool.and_eq_true, Bool.or_eq_true, Bool.not_eq_true', Bool.not_eq_false', Bool.and_eq_false_iff, Bool.or_eq_false_iff, Int.ofNat_lt, Int.ofNat_le, Nat.not_lt, Nat.not_le, Int.not_lt, Int.not_le] at hc4
      obtain rfl : i = l.length := by omega
      have hRf : R = f := by rw [hR, hf, hg1, cupF, List.append_assoc]
      subst hRf
      refine aw_exit ?_
      simp only [go_sem, ↓reduceIte, Nat.reduceEqDiff, reduceCtorEq, Nat.reduceAdd, Nat.reduceLT, Nat.reduceLeDiff, Nat.reduceBNe, Nat.reduceBEq, Int.reduceToNat]
      refine aw_seq (aw_region (EF := EFf) hG (by rw [hN]; exact tr19_13) ?_)
      simp only [a19_13, go_sem, ↓reduceIte, Nat.reduceEqDiff, reduceCtorEq, Nat.reduceAdd, Nat.reduceLT, Nat.reduceLeDiff, Nat.reduceBNe, Nat.reduceBEq, Int.reduceToNat, tCps, EFf, fbO, fFc_eq, fAdd_dec, fCls_eq, fAmt_eq]
      refine aw_ret ?_
      show Q _ _
      refine hQ _ _ ⟨mkE [(4, .int .i64 n), (5, .bool r)], mkH (fbO 1000 1001 R)⟩ (.inl rfl) (Le.mk _ _ ?_ ?_ rfl) rfl ?_ ?_ <;> simp only [outφ, outV, AR.res, go_sem, ↓reduceIte, Nat.reduceEqDiff, reduceCtorEq, Nat.reduceAdd, Nat.reduceLT, Nat.reduceLeDiff, Nat.reduceBNe, Nat.reduceBEq, Int.reduceToNat, fbO, hn, hr]
end Go.Proofs.YtffapkiilkeadaaDoor
