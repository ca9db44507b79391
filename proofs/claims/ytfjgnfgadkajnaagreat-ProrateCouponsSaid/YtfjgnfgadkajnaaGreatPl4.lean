/- Texts of airports and countries; zones. -/
import Derived.Test.YtfjgnfgadkajnaaGreatPl2
namespace Go.Proofs.YtfjgnfgadkajnaaGreat
open Go Go.RowKit
set_option linter.unusedSimpArgs false
set_option linter.unusedVariables false
set_option linter.deprecated false
/-- So many capital letters. -/
def capsB (n : Int) (s : List UInt8) : Bool := decide ((s.length : Int) = n) && allB capB s
def aStr (x : List UInt8) : List V := [.str x]
theorem aStr_inj (a b : List UInt8) (h : aStr a = aStr b) : a = b := by
  simp only [aStr, List.cons.injEq, V.str.injEq, V.int.injEq, V.bool.injEq, V.agg.injEq, V.list.injEq, and_true, true_and] at h
  have h0 := h
  subst h0
  rfl
def fCaps (n : Int) (s : List UInt8) : Prop × V := (s.length ≤ 140737488355328, .bool (capsB n s))
theorem fCaps_eq (n : Int) (s : List UInt8) : gOf aStr (fCaps n) [.str s] = (s.length ≤ 140737488355328, .bool (capsB n s)) := gOf_eq aStr_inj s
noncomputable def trTx : Tab
  | 59 => gLetters
  | _ => gNo
theorem trTx_ok : ∀ f, PureC Tryz.prog UT f (trTx f) := fun f => by
  unfold trTx
  split
  · exact rletters_p
  · exact PureC.no
theorem rairport_p : PureC Tryz.prog UT 42 (gOf aStr (fCaps 3)) := by
  have hG := trTx_ok
  refine PureC.ofArgs aStr_inj Tryz.func42 body42 nm42 res42 ?_
  rintro s hv
  refine ⟨by rw [nt42]; simp [aStr], fun C hN Q hQ => ?_⟩
  rw [nt42] at hN
  unfold c42
  replace hv : s.length ≤ 140737488355328 := hv
  refine aw_seq (aw_region (EF := EF0) hG (by rw [hN]; exact tr42_0) ?_)
  simp only [a42_0, go_sem, simprocAttr, aStr]
  refine aw_seq (aw_region (EF := EF0) hG (by rw [hN]; exact tr42_1) ?_)
  simp only [a42_1, go_sem, simprocAttr, trTx, gLetters, hv]
  (repeat' apply And.intro) <;> (try first | omega | ((fail_if_success refine idW ?_); (fail_if_success refine idS ?_); intros; (repeat' apply And.intro) <;> first | assumption | omega | (simp_all; done)))
  refine aw_ret ?_
  show Q _ _
  refine hQ _ _ (.inl rfl) ?_ ?_ ?_ <;> simp only [outφ, outV, AR.res, go_sem, simprocAttr, fCaps, capsB]
  rw [Bool.and_comm]
theorem rtcountry_p : PureC Tryz.prog UT 43 (gOf aStr (fCaps 2)) := by
  have hG := trTx_ok
  refine PureC.ofArgs aStr_inj Tryz.func43 body43 nm43 res43 ?_
  rintro s hv
  refine ⟨by rw [nt43]; simp [aStr], fun C hN Q hQ => ?_⟩
  rw [nt43] at hN
  unfold c43
  replace hv : s.length ≤ 140737488355328 := hv
  refine aw_seq (aw_region (EF := EF0) hG (by rw [hN]; exact tr43_0) ?_)
  simp only [a43_0, go_sem, simprocAttr, aStr]
  refine aw_seq (aw_region (EF := EF0) hG (by rw [hN]; exact tr43_1) ?_)
  simp only [a43_1, go_sem, simprocAttr, trTx, gLetters, hv]
  (repeat' apply And.intro) <;> (try first | omega | ((fail_if_success refine idW ?_); (fail_if_success refine idS ?_); intros; (repeat' apply And.intro) <;> first | assumption | omega | (simp_all; done)))
  refine aw_ret ?_
  show Q _ _
  refine hQ _ _ (.inl rfl) ?_ ?_ ?_ <;> simp only [outφ, outV, AR.res, go_sem, simprocAttr, fCaps, capsB]
  rw [Bool.and_comm]
/-! Zones. -/
def offR (n : Int) : Bool := decide (-840 ≤ n) && decide (n ≤ 840)
def aInt (x : Int) : List V := [.int .i64 x]
theorem aInt_inj (a b : Int) (h : aInt a = aInt b) : a = b := by
  simp only [aInt, List.cons.injEq, V.str.injEq, V.int.injEq, V.bool.injEq, V.agg.injEq, V.list.injEq, and_true, true_and] at h
  have h0 := h
  subst h0
  rfl
def fOff (n : Int) : Prop × V := (True, .bool (offR n))
theorem fOff_eq (n : Int) : gOf aInt fOff [.int .i64 n] = (True, .bool (offR n)) := gOf_eq aInt_inj n
theorem roff_p : PureC Tryz.prog UT 60 (gOf aInt fOff) := by
  have hG := tNo_ok
  refine PureC.ofArgs aInt_inj Tryz.func60 body60 nm60 res60 ?_
  rintro n hv
  refine ⟨by rw [nt60]; simp [aInt], fun C hN Q hQ => ?_⟩
  rw [nt60] at hN
  unfold c60
  refine aw_seq (aw_region (EF := EF0) hG (by rw [hN]; exact tr60_0) ?_)
  simp only [a60_0, go_sem, simprocAttr, aInt]
  refine aw_seq (aw_region (EF := EF0) hG (by rw [hN]; exact tr60_1) ?_)
  simp only [a60_1, go_sem, simprocAttr]
  (repeat' apply And.intro) <;> (try first | omega | ((fail_if_success refine idW ?_); (fail_if_success refine idS ?_); intros; (repeat' apply And.intro) <;> first | assumption | omega | (simp_all; done)))
  refine aw_ret ?_
  show Q _ _
  refine hQ _ _ (.inl rfl) ?_ ?_ ?_ <;> simp only [outφ, outV, AR.res, go_sem, simprocAttr, fOff, offR]
def atB (n : Int) : Bool := decide (n < 0) || decide (52596000 ≤ n)
def shiftBad (l : List Shift) (i : Nat) : Bool := atB (l.getD i Shift.zero).at' || (decide (0 < i) && decide ((l.getD i Shift.zero).at' - (l.getD (i - 1) Shift.zero).at' < 2880))
def shiftErr (l : List Shift) (i : Nat) : Int := if shiftBad l i then 13 else if offR (l.getD i Shift.zero).offset then 0 else 2
def zFrom (l : List Shift) : Nat → Nat → Int
  | 0, _ => 0
  | f + 1, i => if shiftErr l i = 0 then zFrom l f (i + 1) else shiftErr l i
def zErr (z : Zone) : Int := if 256 < z.shifts.length then 4 else if offR z.offset then zFrom z.shifts z.shifts.length 0 else 2
theorem zFrom_ok {l : List Shift} {i : Nat} (hi : i < l.length) (h1 : shiftBad l i = false) (h2 : offR l[i].offset = true) : zFrom l (l.length - i) i = zFrom l (l.length - (i + 1)) (i + 1) := by
  obtain ⟨m, hm⟩ : ∃ m, l.length - i = m + 1 := ⟨l.length - i - 1, by omega⟩
  have e : shiftErr l i = 0 := by unfold shiftErr; rw [h1, getD_lt _ _ _ hi, h2]; rfl
  rw [hm, zFrom, if_pos e, show l.length - (i + 1) = m by omega]
theorem zFrom_bad {l : List Shift} {i : Nat} (hi : i < l.length) (h1 : shiftBad l i = true) : zFrom l (l.length - i) i = 13 := by
  obtain ⟨m, hm⟩ : ∃ m, l.length - i = m + 1 := ⟨l.length - i - 1, by omega⟩
  have e : shiftErr l i = 13 := by unfold shiftErr; rw [h1]; rfl
  rw [hm, zFrom, e]; rfl
theorem zFrom_off {l : List Shift} {i : Nat} (hi : i < l.length) (h1 : shiftBad l i = false) (h2 : offR l[i].offset = false) : zFrom l (l.length - i) i = 2 := by
  obtain ⟨m, hm⟩ : ∃ m, l.length - i = m + 1 := ⟨l.length - i - 1, by omega⟩
  have e : shiftErr l i = 2 := by unfold shiftErr; rw [h1, getD_lt _ _ _ hi, h2]; rfl
  rw [hm, zFrom, e]; rfl
theorem bad_at {l : List Shift} {i : Nat} (hi : i < l.length) (hz : 0 < i) : shiftBad l i = (decide (l[i].at' < 0) || decide (52596000 ≤ l[i].at') || decide (l[i].at' - l[i - 1].at' < 2880)) := by
  unfold shiftBad atB; rw [getD_lt _ _ _ hi, getD_lt _ _ _ (by omega), decide_eq_true hz, Bool.true_and]
theorem bad_0 {l : List Shift} {i : Nat} (hi : i < l.length) (hz : ¬ 0 < i) : shiftBad l i = (decide (l[i].at' < 0) || decide (52596000 ≤ l[i].at')) := by
  unfold shiftBad atB; rw [getD_lt _ _ _ hi, decide_eq_false hz, Bool.false_and, Bool.or_false]
theorem at_ok {l : List Shift} {i : Nat} (hi : i < l.length) (h : shiftBad l i = false) : 0 ≤ l[i].at' ∧ l[i].at' < 52596000 := by
  unfold shiftBad atB at h; rw [getD_lt _ _ _ hi] at h
  simp only [Bool.or_eq_false_iff, decide_eq_false_iff_not] at h
  omega
def aZone (x : Zone) : List V := [.agg x.enc]
theorem aZone_inj (a b : Zone) (h : aZone a = aZone b) : a = b := by
  simp only [aZone, List.cons.injEq, V.str.injEq, V.int.injEq, V.bool.injEq, V.agg.injEq, V.list.injEq, and_true, true_and] at h
  have h0 := h
  replace h0 := Zone.inj _ _ h0
  subst h0
  rfl
def fZone (z : Zone) : Prop × V := (z.ok, .int .i64 (zErr z))
noncomputable def trZ : Tab
  | 60 => (gOf aInt fOff)
  | _ => gNo
theorem trZ_ok : ∀ f, PureC Tryz.prog UT f (trZ f) := fun f => by
  unfold trZ
  split
  · exact roff_p
  · exact PureC.no
set_option maxHeartbeats 2000000 in
theorem rzone_p : PureC Tryz.prog UT 44 (gOf aZone fZone) := by
  have hG := trZ_ok
  refine PureC.ofArgs aZone_inj Tryz.func44 body44 nm44 res44 ?_
  rintro ⟨zo, sh⟩ hv
  refine ⟨by rw [nt44]; simp [aZone], fun C hN Q hQ => ?_⟩
  rw [nt44] at hN
  unfold c44
  obtain ⟨hzo, hsl, hss⟩ : (⟨zo, sh⟩ : Zone).ok := hv
  dsimp only at hzo hsl hss
  refine aw_seq (aw_region (EF := EF0) hG (by rw [hN]; exact tr44_0) ?_)
  simp only [a44_0, go_sem, simprocAttr, aZone, Zone.enc, trZ, fOff_eq]
  refine aw_seq ?_
  refine aw_seq (aw_region (EF := EF0) hG (by rw [hN]; exact tr44_1) ?_)
  simp only [a44_1, go_sem, simprocAttr, trZ, fOff_eq]
  refine aw_cond (b := _) rfl (fun hc1 => ?_) (fun hc1 => ?_)
  · simp only [hcL] at hc1
    refine aw_seq (aw_region (EF := EF0) hG (by rw [hN]; exact tr44_2) ?_)
    simp only [a44_2, go_sem, simprocAttr, trZ, fOff_eq]
    refine aw_ret ?_
    show Q _ _
    refine hQ _ _ (.inl rfl) ?_ ?_ ?_ <;> simp only [outφ, outV, AR.res, go_sem, simprocAttr, fZone]
    unfold zErr; rw [if_pos (by dsimp only; omega)]
  · simp only [hcL] at hc1
    refine aw_skip ?_
    try simp only [go_sem, simprocAttr]
    refine aw_seq ?_
    refine aw_seq (aw_region (EF := EF0) hG (by rw [hN]; exact tr44_3) ?_)
    simp only [a44_3, go_sem, simprocAttr, trZ, fOff_eq]
    (repeat' apply And.intro) <;> (try first | omega | ((fail_if_success refine idW ?_); (fail_if_success refine idS ?_); intros; (repeat' apply And.intro) <;> first | assumption | omega | (simp_all; done)))
    refine aw_cond (b := _) rfl (fun hb3 => ?_) (fun hb3 => ?_)
    · skip
      refine aw_seq (aw_region (EF := EF0) hG (by rw [hN]; exact tr44_4) ?_)
      simp only [a44_4, go_sem, simprocAttr, trZ, fOff_eq]
      refine aw_ret ?_
      show Q _ _
      refine hQ _ _ (.inl rfl) ?_ ?_ ?_ <;> simp only [outφ, outV, AR.res, go_sem, simprocAttr, fZone]
      unfold zErr; rw [if_neg (by dsimp only; omega), if_neg (by simpa using hb3)]
    · skip
      refine aw_skip ?_
      try simp only [go_sem, simprocAttr]
      refine aw_seq ?_
      have hze : zErr ⟨zo, sh⟩ = zFrom sh (sh.length - 0) 0 := by unfold zErr; rw [if_neg (by dsimp only; omega), if_pos (by simpa using hb3)]; rfl
      refine aw_seq (aw_region (EF := EF0) hG (by rw [hN]; exact tr44_5) ?_)
      simp only [a44_5, go_sem, simprocAttr, trZ, fOff_eq]
      refine aw_block ?_
      refine aw_loop (α := Nat) (fun i => (i ≤ sh.length) ∧ (zErr ⟨zo, sh⟩ = zFrom sh (sh.length - i) i) ∧ (∀ j (hj : j < sh.length), j < i → 0 ≤ sh[j].at' ∧ sh[j].at' < 52596000)) (fun i => ⟨mkE [(1, V.ptr 1 0), (3, .int .i64 i)], mkH [(1, Ob.box 44 [V.int IntKind.i64 zo, V.list (List.map Shift.enc sh) false])]⟩) (fun i => sh.length - i) 0 ⟨Nat.zero_le _, hze, fun j _ hj => absurd hj (Nat.not_lt_zero _)⟩ ?_ ?_
      · refine Le.mk _ _ ?_ ?_ rfl <;> simp only [go_sem, simprocAttr] <;> (repeat' apply And.intro) <;> (try first | rfl | exact wk_frzb rfl rfl rfl | exact wk_fn rfl | exact .nilo _ _ _ rfl rfl)
      · rintro i ⟨hi, hinv, hpr⟩ KL0 hKL0
        try dsimp only at *
        refine aw_seq ?_
        refine aw_seq (aw_region (EF := EF0) hG (by rw [hN]; exact tr44_6) ?_)
        simp only [a44_6, go_sem, simprocAttr, trZ, fOff_eq]
        refine aw_cond (b := _) rfl (fun hc6 => ?_) (fun hc6 => ?_)
        · simp only [hcL] at hc6
          refine aw_skip ?_
          try simp only [go_sem, simprocAttr]
          refine aw_seq ?_
          refine aw_block ?_
          refine aw_seq (aw_region (EF := EF0) hG (by rw [hN]; exact tr44_8) ?_)
          simp only [a44_8, go_sem, simprocAttr, getD_mapd _ _ _ _ hc6, hc6, Shift.enc, trZ, fOff_eq]
          (repeat' apply And.intro) <;> (try first | omega | ((fail_if_success refine idW ?_); (fail_if_success refine idS ?_); intros; (repeat' apply And.intro) <;> first | assumption | omega | (simp_all; done)))
          refine aw_seq ?_
          by_cases hz : 0 < i
          · skip
            have hzi : ((0 : Int) < (i : Int)) = True := eq_true (by omega)
            have hj1 : i - 1 < sh.length := by omega
            have hpj := hpr (i - 1) hj1 (by omega)
            have e1 : (i : Int) - 1 = ((i - 1 : Nat) : Int) := by omega
            have hsb := bad_at hc6 hz
            refine aw_seq (aw_regionD (EF := EF0) hG mixed (by rw [hN]; exact tr44_9) ok44_9 ?_)
            simp only [a44_9, d44_9, go_sem, simprocAttr, inI, hzi, trZ, fOff_eq, e1, getD_mapd _ _ _ _ hj1, hj1, Shift.enc]
            (repeat' apply And.intro) <;> (try first | omega | ((fail_if_success refine idW ?_); (fail_if_success refine idS ?_); intros; (repeat' apply And.intro) <;> first | assumption | omega | (simp_all; done)) | (intro h; refine ⟨h, ?_, ?_⟩ <;> (simp only [Bool.not_eq_true', Bool.or_eq_false_iff, decide_eq_false_iff_not] at h; omega)))
            refine aw_cond (b := _) rfl (fun hb => ?_) (fun hb => ?_)
            · skip
              refine aw_seq (aw_region (EF := EF0) hG (by rw [hN]; exact tr44_10) ?_)
              simp only [a44_10, go_sem, simprocAttr, trZ, fOff_eq]
              refine aw_ret ?_
              show Q _ _
              refine hQ _ _ (.inl rfl) ?_ ?_ ?_ <;> simp only [outφ, outV, AR.res, go_sem, simprocAttr, fZone]
              rw [hinv, zFrom_bad hc6 (hsb.trans hb)]
            · skip
              refine aw_skip ?_
              try simp only [go_sem, simprocAttr]
              refine aw_seq (aw_region (EF := EF0) hG (by rw [hN]; exact tr44_11) ?_)
              simp only [a44_11, go_sem, simprocAttr, trZ, fOff_eq]
              (repeat' apply And.intro) <;> (try first | omega | ((fail_if_success refine idW ?_); (fail_if_success refine idS ?_); intros; (repeat' apply And.intro) <;> first | assumption | omega | (simp_all; done)))
              refine aw_cond (b := _) rfl (fun hbo => ?_) (fun hbo => ?_)
              · skip
                refine aw_seq (aw_region (EF := EF0) hG (by rw [hN]; exact tr44_12) ?_)
                simp only [a44_12, go_sem, simprocAttr, trZ, fOff_eq]
                refine aw_ret ?_
                show Q _ _
                refine hQ _ _ (.inl rfl) ?_ ?_ ?_ <;> simp only [outφ, outV, AR.res, go_sem, simprocAttr, fZone]
                rw [hinv, zFrom_off hc6 (hsb.trans hb) (by simpa using hbo)]
              · skip
                refine aw_skip ?_
                try simp only [go_sem, simprocAttr]
                refine aw_region (EF := EF0) hG (by rw [hN]; exact tr44_7) ?_
                simp only [a44_7, go_sem, simprocAttr, inI, trZ, fOff_eq]
                (repeat' apply And.intro) <;> (try first | omega | ((fail_if_success refine idW ?_); (fail_if_success refine idS ?_); intros; (repeat' apply And.intro) <;> first | assumption | omega | (simp_all; done)))
                refine hKL0 (i + 1) _ ?_ ?_ ?_
                · (try dsimp only); refine ⟨hc6, by rw [hinv, zFrom_ok hc6 (hsb.trans hb) (by simpa using hbo)], fun j hj hji => ?_⟩; by_cases e : j = i; (subst e; exact at_ok hj (hsb.trans hb)); (exact hpr j hj (by omega))
                · (try dsimp only); omega
                · refine Le.mk _ _ ?_ ?_ rfl <;> simp only [go_sem, simprocAttr] <;> (repeat' apply And.intro) <;> (try first | rfl | exact wk_frzb rfl rfl rfl | exact wk_fn rfl | exact .nilo _ _ _ rfl rfl)
          · skip
            have hzi : ((0 : Int) < (i : Int)) = False := eq_false (by omega)
            have hsb := bad_0 hc6 hz
            obtain rfl : i = 0 := by omega
            have e0 : ((0 : Int) - 1).toNat = 0 := rfl
            refine aw_seq (aw_regionD (EF := EF0) hG mixed (by rw [hN]; exact tr44_9) ok44_9 ?_)
            simp only [a44_9, d44_9, go_sem, simprocAttr, inI, hzi, trZ, fOff_eq, e0, Int.lt_irrefl, Nat.lt_irrefl, getD_mapd _ _ _ _ hc6, hc6, Shift.enc]
            (repeat' apply And.intro) <;> (try first | omega | ((fail_if_success refine idW ?_); (fail_if_success refine idS ?_); intros; (repeat' apply And.intro) <;> first | assumption | omega | (simp_all; done)) | (intro h; refine ⟨h, ?_, ?_⟩ <;> (simp only [Bool.not_eq_true', Bool.or_eq_false_iff, decide_eq_false_iff_not] at h; omega)))
            refine aw_cond (b := _) rfl (fun hb => ?_) (fun hb => ?_)
            · skip
              refine aw_seq (aw_region (EF := EF0) hG (by rw [hN]; exact tr44_10) ?_)
              simp only [a44_10, go_sem, simprocAttr, trZ, fOff_eq]
              refine aw_ret ?_
              show Q _ _
              refine hQ _ _ (.inl rfl) ?_ ?_ ?_ <;> simp only [outφ, outV, AR.res, go_sem, simprocAttr, fZone]
              rw [hinv, zFrom_bad hc6 (hsb.trans hb)]
            · skip
              refine aw_skip ?_
              try simp only [go_sem, simprocAttr]
              refine aw_seq (aw_region (EF := EF0) hG (by rw [hN]; exact tr44_11) ?_)
              simp only [a44_11, go_sem, simprocAttr, trZ, fOff_eq]
              (repeat' apply And.intro) <;> (try first | omega | ((fail_if_success refine idW ?_); (fail_if_success refine idS ?_); intros; (repeat' apply And.intro) <;> first | assumption | omega | (simp_all; done)))
              refine aw_cond (b := _) rfl (fun hbo => ?_) (fun hbo => ?_)
              · skip
                refine aw_seq (aw_region (EF := EF0) hG (by rw [hN]; exact tr44_12) ?_)
                simp only [a44_12, go_sem, simprocAttr, trZ, fOff_eq]
                refine aw_ret ?_
                show Q _ _
                refine hQ _ _ (.inl rfl) ?_ ?_ ?_ <;> simp only [outφ, outV, AR.res, go_sem, simprocAttr, fZone]
                rw [hinv, zFrom_off hc6 (hsb.trans hb) (by simpa using hbo)]
              · skip
                refine aw_skip ?_
                try simp only [go_sem, simprocAttr]
                refine aw_region (EF := EF0) hG (by rw [hN]; exact tr44_7) ?_
                simp only [a44_7, go_sem, simprocAttr, inI, trZ, fOff_eq]
                (repeat' apply And.intro) <;> (try first | omega | ((fail_if_success refine idW ?_); (fail_if_success refine idS ?_); intros; (repeat' apply And.intro) <;> first | assumption | omega | (simp_all; done)))
                refine hKL0 (0 + 1) _ ?_ ?_ ?_
                · (try dsimp only); refine ⟨hc6, by rw [hinv, zFrom_ok hc6 (hsb.trans hb) (by simpa using hbo)], fun j hj hji => ?_⟩; (obtain rfl : j = 0 := by omega); exact at_ok hj (hsb.trans hb)
                · (try dsimp only); omega
                · refine Le.mk _ _ ?_ ?_ rfl <;> simp only [go_sem, simprocAttr] <;> (repeat' apply And.intro) <;> (try first | rfl | exact wk_frzb rfl rfl rfl | exact wk_fn rfl | exact .nilo _ _ _ rfl rfl)
        · simp only [hcL] at hc6
          refine aw_exit ?_
          simp only [go_sem, simprocAttr]
          refine aw_seq (aw_region (EF := EF0) hG (by rw [hN]; exact tr44_13) ?_)
          simp only [a44_13, go_sem, simprocAttr, trZ, fOff_eq]
          refine aw_ret ?_
          show Q _ _
          refine hQ _ _ (.inl rfl) ?_ ?_ ?_ <;> simp only [outφ, outV, AR.res, go_sem, simprocAttr, fZone]
          rw [hinv, show sh.length - i = 0 by omega]; rfl
end Go.Proofs.YtfjgnfgadkajnaaGreat
/- Small, sameAirport, the sample; what is reached. -/
namespace Go.Proofs.YtfjgnfgadkajnaaGreat
open Go Go.RowKit
set_option linter.unusedSimpArgs false
set_option linter.unusedVariables false
set_option linter.deprecated false
def aP1 (x : Places) : List V := [.agg x.enc]
theorem aP1_inj (a b : Places) (h : aP1 a = aP1 b) : a = b := by
  simp only [aP1, List.cons.injEq, V.str.injEq, V.int.injEq, V.bool.injEq, V.agg.injEq, V.list.injEq, and_true, true_and] at h
  have h0 := h
  replace h0 := Places.inj _ _ h0
  subst h0
  rfl
/-! What is reached: a list of cities with miles. -/
def spots (L : Assoc Int) : List (List V) := L.map fun p => [.str p.1, .int .i64 p.2]
theorem spots_len (L : Assoc Int) : (spots L).length = L.length := List.length_map _
theorem spots_getD (L : Assoc Int) (i : Nat) (d : List V) (h : i < L.length) : (spots L).getD i d = [.str L[i].1, .int .i64 L[i].2] := by
  unfold spots; rw [List.getD_eq_getElem?_getD, List.getElem?_map, List.getElem?_eq_getElem h]; rfl
theorem spots_set (L : Assoc Int) (i : Nat) (c : List UInt8) (v : Int) : (spots L).set i [.str c, .int .i64 v] = spots (L.set i (c, v)) := by unfold spots; rw [List.map_set]
theorem spots_snoc (L : Assoc Int) (c : List UInt8) (v : Int) : spots L ++ [[.str c, .int .i64 v]] = spots (L ++ [(c, v)]) := by unfold spots; rw [List.map_append]; rfl
theorem spots_pur (L : Assoc Int) : ∀ r ∈ spots L, V.purs r = true := by intro r hr; obtain ⟨p, _, rfl⟩ := List.mem_map.1 hr; rfl
theorem spots_purT (L : Assoc Int) : (∀ r ∈ spots L, V.purs r = true) ↔ True := iff_true_intro (spots_pur L)
theorem spots_twoT (L : Assoc Int) : (∀ r ∈ spots L, r.length = 2) ↔ True := iff_true_intro fun r hr => by obtain ⟨p, _, rfl⟩ := List.mem_map.1 hr; rfl
attribute [go_sem] spots_len spots_purT spots_twoT
theorem aget_at {L : Assoc Int} {c : List UInt8} {i : Nat} (hi : i < L.length) (hp : ∀ p ∈ L.take i, decide (p.1 = c) = false) (h : L[i].1 = c) : aget L c = some L[i].2 := by
  unfold aget
  have e1 : L.find? (fun p => decide (p.1 = c)) = (L.take i ++ L.drop i).find? fun p => decide (p.1 = c) := by rw [List.take_append_drop]
  rw [e1, List.find?_append, List.find?_eq_none.2 (fun p hq => by rw [hp p hq]; decide), Option.none_or, List.drop_eq_getElem_cons hi, List.find?_cons_of_pos (by simpa using h)]; rfl
theorem aget_no {L : Assoc Int} {c : List UInt8} {i : Nat} (hi : L.length ≤ i) (hp : ∀ p ∈ L.take i, decide (p.1 = c) = false) : aget L c = none := by
  rw [List.take_of_length_le hi] at hp
  unfold aget
  rw [List.find?_eq_none.2 fun p hq => by rw [hp p hq]; decide]; rfl
def aRe (x : Assoc Int × List UInt8) : List V := [.list (spots x.1) false, .str x.2]
theorem aRe_inj (a b : Assoc Int × List UInt8) (h : aRe a = aRe b) : a = b := by
  obtain ⟨a1, a2⟩ := a
  obtain ⟨b1, b2⟩ := b
  simp only [aRe, spots, List.cons.injEq, V.list.injEq, V.str.injEq, and_true] at h
  obtain ⟨h1, rfl⟩ := h
  rw [map_inj' (fun a b h => by obtain ⟨x, y⟩ := a; obtain ⟨z, w⟩ := b; simpa using h) h1]
def fRe (x : Assoc Int × List UInt8) : Prop × V := (x.1.length ≤ 140737488355328, .int .i64 ((aget x.1 x.2).getD (-1)))
theorem reached_p : PureC Tryz.prog UT 40 (gOf aRe fRe) := by
  have hG := tNo_ok
  refine PureC.ofArgs aRe_inj Tryz.func40 body40 nm40 res40 ?_
  rintro ⟨L, c⟩ hv
  refine ⟨by rw [nt40]; simp [aRe], fun C hN Q hQ => ?_⟩
  rw [nt40] at hN
  unfold c40
  replace hv : L.length ≤ 140737488355328 := hv
  refine aw_seq (aw_region (EF := EF0) hG (by rw [hN]; exact tr40_0) ?_)
  simp only [a40_0, go_sem, simprocAttr, aRe]
  refine aw_seq ?_
  refine aw_seq (aw_region (EF := EF0) hG (by rw [hN]; exact tr40_1) ?_)
  simp only [a40_1, go_sem, simprocAttr]
  refine aw_block ?_
  refine aw_loop (α := Nat) (fun i => (i ≤ L.length) ∧ (∀ p ∈ L.take i, decide (p.1 = c) = false)) (fun i => ⟨mkE [(0, V.list (spots L) false), (1, V.str c), (5, .int .i64 i)], mkH []⟩) (fun i => L.length - i) 0 (by simp) ?_ ?_
  · refine Le.mk _ _ ?_ ?_ rfl <;> simp only [go_sem, simprocAttr] <;> (repeat' apply And.intro) <;> (try first | rfl | exact wk_frzb rfl rfl rfl | exact wk_fn rfl | exact .nilo _ _ _ rfl rfl)
  · rintro i ⟨hi, hp⟩ KL0 hKL0
    try dsimp only at *
    refine aw_seq ?_
    refine aw_seq (aw_region (EF := EF0) hG (by rw [hN]; exact tr40_2) ?_)
    simp only [a40_2, go_sem, simprocAttr]
    refine aw_cond (b := _) rfl (fun hc2 => ?_) (fun hc2 => ?_)
    · simp only [hcL] at hc2
      refine aw_skip ?_
      try simp only [go_sem, simprocAttr]
      refine aw_seq ?_
      refine aw_block ?_
      refine aw_seq (aw_region (EF := EF0) hG (by rw [hN]; exact tr40_4) ?_)
      simp only [a40_4, go_sem, simprocAttr, spots_getD _ _ _ hc2, hc2]
      (repeat' apply And.intro) <;> (try first | omega | ((fail_if_success refine idW ?_); (fail_if_success refine idS ?_); intros; (repeat' apply And.intro) <;> first | assumption | omega | (simp_all; done)))
      refine aw_cond (b := _) rfl (fun hb => ?_) (fun hb => ?_)
      · skip
        refine aw_seq (aw_region (EF := EF0) hG (by rw [hN]; exact tr40_5) ?_)
        simp only [a40_5, go_sem, simprocAttr, spots_getD _ _ _ hc2, hc2]
        (repeat' apply And.intro) <;> (try first | omega | ((fail_if_success refine idW ?_); (fail_if_success refine idS ?_); intros; (repeat' apply And.intro) <;> first | assumption | omega | (simp_all; done)))
        refine aw_ret ?_
        show Q _ _
        refine hQ _ _ (.inl rfl) ?_ ?_ ?_ <;> simp only [outφ, outV, AR.res, go_sem, simprocAttr, fRe]
        rw [aget_at hc2 hp (of_decide_eq_true hb)]; rfl
      · skip
        refine aw_skip ?_
        try simp only [go_sem, simprocAttr]
        refine aw_region (EF := EF0) hG (by rw [hN]; exact tr40_3) ?_
        simp only [a40_3, go_sem, simprocAttr, inI]
        (repeat' apply And.intro) <;> (try first | omega | ((fail_if_success refine idW ?_); (fail_if_success refine idS ?_); intros; (repeat' apply And.intro) <;> first | assumption | omega | (simp_all; done)))
        refine hKL0 (i + 1) _ ?_ ?_ ?_
        · (try dsimp only); exact ⟨hc2, take_all hc2 hp hb⟩
        · (try dsimp only); omega
        · refine Le.mk _ _ ?_ ?_ rfl <;> simp only [go_sem, simprocAttr] <;> (repeat' apply And.intro) <;> (try first | rfl | exact wk_frzb rfl rfl rfl | exact wk_fn rfl | exact .nilo _ _ _ rfl rfl)
    · simp only [hcL] at hc2
      refine aw_exit ?_
      simp only [go_sem, simprocAttr]
      refine aw_seq (aw_region (EF := EF0) hG (by rw [hN]; exact tr40_6) ?_)
      simp only [a40_6, go_sem, simprocAttr]
      refine aw_ret ?_
      show Q _ _
      refine hQ _ _ (.inl rfl) ?_ ?_ ?_ <;> simp only [outφ, outV, AR.res, go_sem, simprocAttr, fRe]
      rw [aget_no hc2 hp]; rfl
end Go.Proofs.YtfjgnfgadkajnaaGreat
