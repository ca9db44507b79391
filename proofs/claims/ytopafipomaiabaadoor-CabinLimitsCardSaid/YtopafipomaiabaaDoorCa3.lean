/- Authorized, inRange, Limits. -/
import Derived.Test.YtopafipomaiabaaDoorCa2
namespace Go.Proofs.YtopafipomaiabaaDoor
open Go Go.RowKit
set_option linter.unusedSimpArgs false
set_option linter.unusedVariables false
set_option linter.deprecated false
def aCab (y : Cabin) : List V := [.agg y.enc]
theorem aCab_inj (a b : Cabin) (h : aCab a = aCab b) : a = b := by
  simp only [aCab, List.cons.injEq, V.agg.injEq, and_true] at h
  exact Cabin.inj _ _ h
def auth (y : Cabin) : Int := y.seats + y.over
def fAuth (y : Cabin) : Prop × V := (inI (auth y), .int .i64 (auth y))
set_option maxHeartbeats 1000000 in
theorem auth_p : PureC Tryd.prog UT 19 (gOf aCab fAuth) := by
  have hG := tNo_ok
  refine PureC.ofArgs aCab_inj Tryd.func19 body19 nm19 res19 ?_
  rintro y hv
  refine ⟨by rw [nt19]; simp [aCab], fun C hN Q hQ => ?_⟩
  rw [nt19] at hN
  unfold c19
  replace hv : inI (y.seats + y.over) := hv
  refine aw_seq (aw_region (EF := EF0) hG (by rw [hN]; exact tr19_0) ?_)
  simp only [a19_0, go_sem, ↓reduceIte, Nat.reduceEqDiff, reduceCtorEq, Nat.reduceAdd, Nat.reduceLT, Nat.reduceLeDiff, Nat.reduceBNe, Nat.reduceBEq, Int.reduceToNat, aCab, Cabin.enc]
  refine aw_seq (aw_region (EF := EF0) hG (by rw [hN]; exact tr19_1) ?_)
  simp only [a19_1, go_sem, ↓reduceIte, Nat.reduceEqDiff, reduceCtorEq, Nat.reduceAdd, Nat.reduceLT, Nat.reduceLeDiff, Nat.reduceBNe, Nat.reduceBEq, Int.reduceToNat, hv]
  refine aw_ret ?_
  show Q _ _
  refine hQ _ _ (.inl rfl) ?_ ?_ ?_ <;> simp only [outφ, outV, AR.res, go_sem, ↓reduceIte, Nat.reduceEqDiff, reduceCtorEq, Nat.reduceAdd, Nat.reduceLT, Nat.reduceLeDiff, Nat.reduceBNe, Nat.reduceBEq, Int.reduceToNat, fAuth, auth]
set_option maxHeartbeats 1000000 in
theorem rauth_p : PureC Tryd.prog UT 20 (gOf aCab fAuth) := by
  have hG := tNo_ok
  refine PureC.ofArgs aCab_inj Tryd.func20 body20 nm20 res20 ?_
  rintro y hv
  refine ⟨by rw [nt20]; simp [aCab], fun C hN Q hQ => ?_⟩
  rw [nt20] at hN
  unfold c20
  replace hv : inI (y.seats + y.over) := hv
  refine aw_seq (aw_region (EF := EF0) hG (by rw [hN]; exact tr20_0) ?_)
  simp only [a20_0, go_sem, ↓reduceIte, Nat.reduceEqDiff, reduceCtorEq, Nat.reduceAdd, Nat.reduceLT, Nat.reduceLeDiff, Nat.reduceBNe, Nat.reduceBEq, Int.reduceToNat, aCab, Cabin.enc]
  refine aw_seq (aw_region (EF := EF0) hG (by rw [hN]; exact tr20_1) ?_)
  simp only [a20_1, go_sem, ↓reduceIte, Nat.reduceEqDiff, reduceCtorEq, Nat.reduceAdd, Nat.reduceLT, Nat.reduceLeDiff, Nat.reduceBNe, Nat.reduceBEq, Int.reduceToNat, hv]
  refine aw_ret ?_
  show Q _ _
  refine hQ _ _ (.inl rfl) ?_ ?_ ?_ <;> simp only [outφ, outV, AR.res, go_sem, ↓reduceIte, Nat.reduceEqDiff, reduceCtorEq, Nat.reduceAdd, Nat.reduceLT, Nat.reduceLeDiff, Nat.reduceBNe, Nat.reduceBEq, Int.reduceToNat, fAuth, auth]
def inR (y : Cabin) : Bool := decide (1 ≤ y.seats) && decide (y.seats ≤ 999) && decide (0 ≤ y.over) && decide (y.over ≤ 999)
def fInR (y : Cabin) : Prop × V := (True, .bool (inR y))
set_option maxHeartbeats 1000000 in
theorem inRange_p : PureC Tryd.prog UT 41 (gOf aCab fInR) := by
  have hG := tNo_ok
  refine PureC.ofArgs aCab_inj Tryd.func41 body41 nm41 res41 ?_
  rintro y hv
  refine ⟨by rw [nt41]; simp [aCab], fun C hN Q hQ => ?_⟩
  rw [nt41] at hN
  unfold c41
  refine aw_seq (aw_region (EF := EF0) hG (by rw [hN]; exact tr41_0) ?_)
  simp only [a41_0, go_sem, ↓reduceIte, Nat.reduceEqDiff, reduceCtorEq, Nat.reduceAdd, Nat.reduceLT, Nat.reduceLeDiff, Nat.reduceBNe, Nat.reduceBEq, Int.reduceToNat, aCab, Cabin.enc]
  refine aw_seq (aw_region (EF := EF0) hG (by rw [hN]; exact tr41_1) ?_)
  simp only [a41_1, go_sem, ↓reduceIte, Nat.reduceEqDiff, reduceCtorEq, Nat.reduceAdd, Nat.reduceLT, Nat.reduceLeDiff, Nat.reduceBNe, Nat.reduceBEq, Int.reduceToNat]
  refine aw_ret ?_
  show Q _ _
  refine hQ _ _ (.inl rfl) ?_ ?_ ?_ <;> simp only [outφ, outV, AR.res, go_sem, ↓reduceIte, Nat.reduceEqDiff, reduceCtorEq, Nat.reduceAdd, Nat.reduceLT, Nat.reduceLeDiff, Nat.reduceBNe, Nat.reduceBEq, Int.reduceToNat, fInR, inR]
/-! Limits. -/
theorem fAuth_eq (nm : List UInt8) (se ov : Int) (cl : List Class) : gOf aCab fAuth [.agg [.str nm, .int .i64 se, .int .i64 ov, .list (cl.map Class.enc) false]] = (inI (se + ov), .int .i64 (se + ov)) := gOf_eq aCab_inj (⟨nm, se, ov, cl⟩ : Cabin)
def ints (l : List Int) : List (List V) := l.map fun n => [.int .i64 n]
theorem ints_len (l : List Int) : (ints l).length = l.length := List.length_map _
theorem ints_getD (l : List Int) (i : Nat) (h : i < l.length) : (ints l).getD i [] = [.int .i64 (l.getD i 0)] := by
  unfold ints
  rw [getD_map _ _ _ h, List.getD_eq_getElem?_getD, List.getElem?_eq_getElem h]; rfl
theorem ints_set (l : List Int) (i : Nat) (v : Int) : (ints l).set i [.int .i64 v] = ints (l.set i v) := by unfold ints; rw [List.map_set]
theorem ints_snoc (l : List Int) (v : Int) : ints l ++ [[.int .i64 v]] = ints (l ++ [v]) := by unfold ints; rw [List.map_append]; rfl
theorem ints_pur (l : List Int) : ∀ r ∈ ints l, V.purs r = true := by
  intro r hr
  obtain ⟨n, _, rfl⟩ := List.mem_map.1 hr
  rfl
theorem ints_purT (l : List Int) : (∀ r ∈ ints l, V.purs r = true) ↔ True := iff_true_intro (ints_pur l)
attribute [go_sem] ints_purT ints_len
theorem ints_one (l : List Int) : ∀ r ∈ ints l, r.length = 1 := by
  intro r hr
  obtain ⟨n, _, rfl⟩ := List.mem_map.1 hr
  rfl
theorem ints_zero (n : Nat) : List.replicate n [V.int .i64 0] = ints (List.replicate n 0) := by unfold ints; rw [List.map_replicate]
def zClass : Class := ⟨[], 0⟩
def limAt (a : Int) (l : List Class) (i : Nat) : Int := if i = 0 then a else a - (l.getD (i - 1) zClass).prot
def limTo (a : Int) (l : List Class) (k : Nat) : List Int := (List.range k).map (limAt a l)
def limits (y : Cabin) : List Int := limTo (auth y) y.cl y.cl.length
theorem limTo_succ (a : Int) (l : List Class) (k : Nat) : limTo a l (k + 1) = limTo a l k ++ [limAt a l k] := by simp [limTo, List.range_succ]
theorem limTo_len (a : Int) (l : List Class) (k : Nat) : (limTo a l k).length = k := by simp [limTo]
def fLim (y : Cabin) : Prop × V := (y.cl.length ≤ 1000000 ∧ inI (auth y) ∧ ∀ z ∈ y.cl, inI (auth y - z.prot), .list (ints (limits y)) false)
noncomputable def trLim : Tab
  | 20 => (gOf aCab fAuth)
  | _ => gNo
theorem trLim_ok : ∀ f, PureC Tryd.prog UT f (trLim f) := fun f => by
  unfold trLim
  split
  · exact rauth_p
  · exact PureC.no
set_option maxHeartbeats 1000000 in
theorem rlimits_p : PureC Tryd.prog UT 18 (gOf aCab fLim) := by
  have hG := trLim_ok
  refine PureC.ofArgs aCab_inj Tryd.func18 body18 nm18 res18 ?_
  rintro ⟨nm, se, ov, cl⟩ hv
  refine ⟨by rw [nt18]; simp [aCab], fun C hN Q hQ => ?_⟩
  rw [nt18] at hN
  unfold c18
  obtain ⟨h1, h2, h3⟩ : cl.length ≤ 1000000 ∧ inI (se + ov) ∧ ∀ z ∈ cl, inI (se + ov - z.prot) := hv
  refine aw_seq (aw_region (EF := EF0) hG (by rw [hN]; exact tr18_0) ?_)
  simp only [a18_0, go_sem, ↓reduceIte, Nat.reduceEqDiff, reduceCtorEq, Nat.reduceAdd, Nat.reduceLT, Nat.reduceLeDiff, Nat.reduceBNe, Nat.reduceBEq, Int.reduceToNat, aCab, Cabin.enc]
  refine aw_seq (aw_region (EF := EF0) hG (by rw [hN]; exact tr18_1) ?_)
  simp only [a18_1, go_sem, ↓reduceIte, Nat.reduceEqDiff, reduceCtorEq, Nat.reduceAdd, Nat.reduceLT, Nat.reduceLeDiff, Nat.reduceBNe, Nat.reduceBEq, Int.reduceToNat]
  refine aw_seq ?_
  refine aw_seq ?_
  refine aw_region (EF := EF0) hG (by rw [hN]; exact tr18_2) ?_
  simp only [a18_2, go_sem, ↓reduceIte, Nat.reduceEqDiff, reduceCtorEq, Nat.reduceAdd, Nat.reduceLT, Nat.reduceLeDiff, Nat.reduceBNe, Nat.reduceBEq, Int.reduceToNat]
  refine aw_block ?_
  refine aw_loop (α := Nat) (fun i => i ≤ cl.length) (fun i => ⟨mkE [(1, .ptr 1 0), (3, .own 29 i), (4, .int .i64 i)], mkH [(1, .box 38 [.str nm, .int .i64 se, .int .i64 ov, .list (cl.map Class.enc) false]), (29, .arr 3 1 (ints (limTo (se + ov) cl i)))]⟩) (fun i => cl.length - i) 0 (Nat.zero_le _) ?_ ?_
  · refine Le.mk _ _ ?_ ?_ rfl <;> simp only [go_sem, ↓reduceIte, Nat.reduceEqDiff, reduceCtorEq, Nat.reduceAdd, Nat.reduceLT, Nat.reduceLeDiff, Nat.reduceBNe, Nat.reduceBEq, Int.reduceToNat]
    · exact .nilo 29 3 1 rfl rfl
    · rfl
  · rintro i hi K hK
    refine aw_seq ?_
    refine aw_seq ?_
    refine aw_region (EF := EF0) hG (by rw [hN]; exact tr18_3) ?_
    simp only [a18_3, go_sem, ↓reduceIte, Nat.reduceEqDiff, reduceCtorEq, Nat.reduceAdd, Nat.reduceLT, Nat.reduceLeDiff, Nat.reduceBNe, Nat.reduceBEq, Int.reduceToNat]
    refine aw_cond (b := _) rfl (fun hc => ?_) (fun hc => ?_)
    · simp only [decide_eq_true_eq, decide_eq_false_iff_not, Bool.and_eq_true, Bool.or_eq_true, Bool.not_eq_true', Bool.not_eq_false', Bool.and_eq_false_iff, Bool.or_eq_false_iff, Int.ofNat_lt, Int.ofNat_le, Nat.not_lt, Nat.not_le, Int.not_lt, Int.not_le] at hc
      refine aw_skip ?_
      simp only [go_sem, ↓reduceIte, Nat.reduceEqDiff, reduceCtorEq, Nat.reduceAdd, Nat.reduceLT, Nat.reduceLeDiff, Nat.reduceBNe, Nat.reduceBEq, Int.reduceToNat]
      refine aw_seq ?_
      refine aw_block ?_
      refine aw_seq (aw_region (EF := EF0) hG (by rw [hN]; exact tr18_5) ?_)
      simp only [a18_5, go_sem, ↓reduceIte, Nat.reduceEqDiff, reduceCtorEq, Nat.reduceAdd, Nat.reduceLT, Nat.reduceLeDiff, Nat.reduceBNe, Nat.reduceBEq, Int.reduceToNat, trLim, fAuth_eq, h2]
      refine aw_cut (α := Unit) (fun _ => True) (fun _ => ⟨mkE [(1, .ptr 1 0), (3, .own 29 i), (4, .int .i64 i), (5, .int .i64 (limAt (se + ov) cl i))], mkH [(1, .box 38 [.str nm, .int .i64 se, .int .i64 ov, .list (cl.map Class.enc) false]), (29, .arr 3 1 (ints (limTo (se + ov) cl i)))]⟩) ?_ ?_
      · intro K2 hK2
        refine aw_seq (aw_region (EF := EF0) hG (by rw [hN]; exact tr18_6) ?_)
        simp only [a18_6, go_sem, ↓reduceIte, Nat.reduceEqDiff, reduceCtorEq, Nat.reduceAdd, Nat.reduceLT, Nat.reduceLeDiff, Nat.reduceBNe, Nat.reduceBEq, Int.reduceToNat]
        refine aw_cond (b := _) rfl (fun h0 => ?_) (fun h0 => ?_)
        · simp only [decide_eq_true_eq, decide_eq_false_iff_not, Bool.and_eq_true, Bool.or_eq_true, Bool.not_eq_true', Bool.not_eq_false', Bool.and_eq_false_iff, Bool.or_eq_false_iff, Int.ofNat_lt, Int.ofNat_le, Nat.not_lt, Nat.not_le, Int.not_lt, Int.not_le] at h0
          have hz : i - 1 < cl.length := by omega
          have hp := h3 _ (List.getElem_mem hz)
          have e0 : (i : Int) - 1 = ((i - 1 : Nat) : Int) := by omega
          refine aw_region (EF := EF0) hG (by rw [hN]; exact tr18_7) ?_
          simp only [a18_7, go_sem, ↓reduceIte, Nat.reduceEqDiff, reduceCtorEq, Nat.reduceAdd, Nat.reduceLT, Nat.reduceLeDiff, Nat.reduceBNe, Nat.reduceBEq, Int.reduceToNat, e0, getD_map _ _ _ hz, Class.enc, hz, hp]
          (repeat' apply And.intro) <;> (try first | omega | (first | omega | (unfold inI; omega)))
          refine hK2 () _ trivial ?_
          refine Le.mk _ _ ?_ ?_ rfl <;> simp only [go_sem, ↓reduceIte, Nat.reduceEqDiff, reduceCtorEq, Nat.reduceAdd, Nat.reduceLT, Nat.reduceLeDiff, Nat.reduceBNe, Nat.reduceBEq, Int.reduceToNat]
          rw [limAt, if_neg (by omega), List.getD_eq_getElem?_getD, List.getElem?_eq_getElem hz]; rfl
        · simp only [decide_eq_true_eq, decide_eq_false_iff_not, Bool.and_eq_true, Bool.or_eq_true, Bool.not_eq_true', Bool.not_eq_false', Bool.and_eq_false_iff, Bool.or_eq_false_iff, Int.ofNat_lt, Int.ofNat_le, Nat.not_lt, Nat.not_le, Int.not_lt, Int.not_le] at h0
          refine aw_skip ?_
          simp only [go_sem, ↓reduceIte, Nat.reduceEqDiff, reduceCtorEq, Nat.reduceAdd, Nat.reduceLT, Nat.reduceLeDiff, Nat.reduceBNe, Nat.reduceBEq, Int.reduceToNat]
          refine hK2 () _ trivial ?_
          refine Le.mk _ _ ?_ ?_ rfl <;> simp only [go_sem, ↓reduceIte, Nat.reduceEqDiff, reduceCtorEq, Nat.reduceAdd, Nat.reduceLT, Nat.reduceLeDiff, Nat.reduceBNe, Nat.reduceBEq, Int.reduceToNat]
          rw [limAt, if_pos (by omega)]
      · rintro _ -
        refine aw_region (EF := EF0) hG (by rw [hN]; exact tr18_8) ?_
        simp only [a18_8, go_sem, ↓reduceIte, Nat.reduceEqDiff, reduceCtorEq, Nat.reduceAdd, Nat.reduceLT, Nat.reduceLeDiff, Nat.reduceBNe, Nat.reduceBEq, Int.reduceToNat, ints_len, limTo_len, ints_snoc, ← limTo_succ]
        (repeat' apply And.intro) <;> (try first | omega)
        refine aw_region (EF := EF0) hG (by rw [hN]; exact tr18_4) ?_
        simp only [a18_4, go_sem, ↓reduceIte, Nat.reduceEqDiff, reduceCtorEq, Nat.reduceAdd, Nat.reduceLT, Nat.reduceLeDiff, Nat.reduceBNe, Nat.reduceBEq, Int.reduceToNat, inI]
        (repeat' apply And.intro) <;> (try first | omega)
        refine hK (i + 1) _ ?_ ?_ ?_
        · omega
        · omega
        · refine Le.mk _ _ ?_ ?_ rfl <;> simp only [go_sem, ↓reduceIte, Nat.reduceEqDiff, reduceCtorEq, Nat.reduceAdd, Nat.reduceLT, Nat.reduceLeDiff, Nat.reduceBNe, Nat.reduceBEq, Int.reduceToNat]
    · simp only [decide_eq_true_eq, decide_eq_false_iff_not, Bool.and_eq_true, Bool.or_eq_true, Bool.not_eq_true', Bool.not_eq_false', Bool.and_eq_false_iff, Bool.or_eq_false_iff, Int.ofNat_lt, Int.ofNat_le, Nat.not_lt, Nat.not_le, Int.not_lt, Int.not_le] at hc
      refine aw_exit ?_
      simp only [go_sem, ↓reduceIte, Nat.reduceEqDiff, reduceCtorEq, Nat.reduceAdd, Nat.reduceLT, Nat.reduceLeDiff, Nat.reduceBNe, Nat.reduceBEq, Int.reduceToNat]
      refine aw_seq (aw_region (EF := EF0) hG (by rw [hN]; exact tr18_9) ?_)
      simp only [a18_9, go_sem, ↓reduceIte, Nat.reduceEqDiff, reduceCtorEq, Nat.reduceAdd, Nat.reduceLT, Nat.reduceLeDiff, Nat.reduceBNe, Nat.reduceBEq, Int.reduceToNat]
      refine AW.le (s' := ⟨mkE [(2, .list (ints (limTo (se + ov) cl i)) false)], mkH []⟩) (Le.mk _ _ ?_ ?_ rfl) (aw_ret (hQ _ _ (.inl rfl) ?_ ?_ ?_)) <;> simp only [outφ, outV, AR.res, go_sem, ↓reduceIte, Nat.reduceEqDiff, reduceCtorEq, Nat.reduceAdd, Nat.reduceLT, Nat.reduceLeDiff, Nat.reduceBNe, Nat.reduceBEq, Int.reduceToNat, fLim, limits, auth]
      · exact wk_frz rfl (by rw [ints_len, limTo_len]) rfl (ints_pur _)
      · rw [Nat.le_antisymm hi hc]
noncomputable def tLim : Tab
  | 19 => (gOf aCab fAuth)
  | _ => gNo
theorem tLim_ok : ∀ f, PureC Tryd.prog UT f (tLim f) := fun f => by
  unfold tLim
  split
  · exact auth_p
  · exact PureC.no
theorem take_set {α : Type} (xs : List α) (i : Nat) (v : α) (h : i < xs.length) : (xs.set i v).take (i + 1) = xs.take i ++ [v] := by
  rw [List.take_succ_eq_append_getElem (by simpa using h), List.take_set, List.set_eq_of_length_le (by simp; omega)]
  simp
theorem getD_set_self {α : Type} (xs : List α) (i : Nat) (v d : α) (h : i < xs.length) : (xs.set i v).getD i d = v := by
  rw [List.getD_eq_getElem?_getD, List.getElem?_set_self h]; rfl
set_option maxHeartbeats 1000000 in
theorem limits_p : PureC Tryd.prog UT 17 (gOf aCab fLim) := by
  have hG := tLim_ok
  refine PureC.ofArgs aCab_inj Tryd.func17 body17 nm17 res17 ?_
  rintro ⟨nm, se, ov, cl⟩ hv
  refine ⟨by rw [nt17]; simp [aCab], fun C hN Q hQ => ?_⟩
  rw [nt17] at hN
  unfold c17
  obtain ⟨h1, h2, h3⟩ : cl.length ≤ 1000000 ∧ inI (se + ov) ∧ ∀ z ∈ cl, inI (se + ov - z.prot) := hv
  refine aw_seq (aw_region (EF := EF0) hG (by rw [hN]; exact tr17_0) ?_)
  simp only [a17_0, go_sem, ↓reduceIte, Nat.reduceEqDiff, reduceCtorEq, Nat.reduceAdd, Nat.reduceLT, Nat.reduceLeDiff, Nat.reduceBNe, Nat.reduceBEq, Int.reduceToNat, aCab, Cabin.enc]
  refine aw_seq (aw_region (EF := EF0) hG (by rw [hN]; exact tr17_1) ?_)
  simp only [a17_1, go_sem, ↓reduceIte, Nat.reduceEqDiff, reduceCtorEq, Nat.reduceAdd, Nat.reduceLT, Nat.reduceLeDiff, Nat.reduceBNe, Nat.reduceBEq, Int.reduceToNat, ints_zero]
  (repeat' apply And.intro) <;> (try first | omega)
  refine aw_seq ?_
  refine aw_seq ?_
  refine aw_region (EF := EF0) hG (by rw [hN]; exact tr17_2) ?_
  simp only [a17_2, go_sem, ↓reduceIte, Nat.reduceEqDiff, reduceCtorEq, Nat.reduceAdd, Nat.reduceLT, Nat.reduceLeDiff, Nat.reduceBNe, Nat.reduceBEq, Int.reduceToNat, List.length_replicate]
  refine aw_block ?_
  refine aw_loop (α := Nat × List Int) (fun g => g.1 ≤ cl.length ∧ g.2.length = cl.length ∧ g.2.take g.1 = limTo (se + ov) cl g.1) (fun g => ⟨mkE [(1, .ptr 1 0), (3, .own 8 cl.length), (10, .int .i64 cl.length), (11, .int .i64 g.1)], mkH [(1, .box 38 [.str nm, .int .i64 se, .int .i64 ov, .list (cl.map Class.enc) false]), (8, .arr 3 1 (ints g.2))]⟩) (fun g => cl.length - g.1) (0, List.replicate cl.length 0) ⟨Nat.zero_le _, by simp, rfl⟩ ?_ ?_
  · refine Le.mk _ _ ?_ ?_ rfl <;> simp only [go_sem, ↓reduceIte, Nat.reduceEqDiff, reduceCtorEq, Nat.reduceAdd, Nat.reduceLT, Nat.reduceLeDiff, Nat.reduceBNe, Nat.reduceBEq, Int.reduceToNat]
  · rintro ⟨i, xs⟩ ⟨hi, hl, ht⟩ K hK
    dsimp only at hi hl ht
    refine aw_seq ?_
    refine aw_region (EF := EF0) hG (by rw [hN]; exact tr17_3) ?_
    simp only [a17_3, go_sem, ↓reduceIte, Nat.reduceEqDiff, reduceCtorEq, Nat.reduceAdd, Nat.reduceLT, Nat.reduceLeDiff, Nat.reduceBNe, Nat.reduceBEq, Int.reduceToNat]
    refine aw_seq ?_
    refine aw_cond (b := _) rfl (fun hc => ?_) (fun hc => ?_)
    · simp only [decide_eq_true_eq, decide_eq_false_iff_not, Bool.and_eq_true, Bool.or_eq_true, Bool.not_eq_true', Bool.not_eq_false', Bool.and_eq_false_iff, Bool.or_eq_false_iff, Int.ofNat_lt, Int.ofNat_le, Nat.not_lt, Nat.not_le, Int.not_lt, Int.not_le] at hc
      refine aw_skip ?_
      simp only [go_sem, ↓reduceIte, Nat.reduceEqDiff, reduceCtorEq, Nat.reduceAdd, Nat.reduceLT, Nat.reduceLeDiff, Nat.reduceBNe, Nat.reduceBEq, Int.reduceToNat]
      refine aw_seq ?_
      refine aw_block ?_
      have hix : i < xs.length := by omega
      refine aw_seq (aw_region (EF := EF0) hG (by rw [hN]; exact tr17_4) ?_)
      simp only [a17_4, go_sem, ↓reduceIte, Nat.reduceEqDiff, reduceCtorEq, Nat.reduceAdd, Nat.reduceLT, Nat.reduceLeDiff, Nat.reduceBNe, Nat.reduceBEq, Int.reduceToNat]
      refine aw_seq (aw_region (EF := EF0) hG (by rw [hN]; exact tr17_5) ?_)
      simp only [a17_5, go_sem, ↓reduceIte, Nat.reduceEqDiff, reduceCtorEq, Nat.reduceAdd, Nat.reduceLT, Nat.reduceLeDiff, Nat.reduceBNe, Nat.reduceBEq, Int.reduceToNat, tLim, fAuth_eq, h2, hl, ints_getD xs i hix, ints_set]
      (repeat' apply And.intro) <;> (try first | omega)
      refine aw_seq (aw_region (EF := EF0) hG (by rw [hN]; exact tr17_6) ?_)
      simp only [a17_6, go_sem, ↓reduceIte, Nat.reduceEqDiff, reduceCtorEq, Nat.reduceAdd, Nat.reduceLT, Nat.reduceLeDiff, Nat.reduceBNe, Nat.reduceBEq, Int.reduceToNat]
      refine aw_cond (b := _) rfl (fun h0 => ?_) (fun h0 => ?_)
      · simp only [decide_eq_true_eq, decide_eq_false_iff_not, Bool.and_eq_true, Bool.or_eq_true, Bool.not_eq_true', Bool.not_eq_false', Bool.and_eq_false_iff, Bool.or_eq_false_iff, Int.ofNat_lt, Int.ofNat_le, Nat.not_lt, Nat.not_le, Int.not_lt, Int.not_le] at h0
        have hz : i - 1 < cl.length := by omega
        have hp := h3 _ (List.getElem_mem hz)
        have e0 : (i : Int) - 1 = ((i - 1 : Nat) : Int) := by omega
        refine aw_regionD (EF := EF0) hG mixed (by rw [hN]; exact tr17_7) ok17_7 ?_
        simp only [a17_7, d17_7, go_sem, ↓reduceIte, Nat.reduceEqDiff, reduceCtorEq, Nat.reduceAdd, Nat.reduceLT, Nat.reduceLeDiff, Nat.reduceBNe, Nat.reduceBEq, Int.reduceToNat, e0, getD_map _ _ _ hz, Class.enc, hz, hp, hl, hc, List.length_set, ints_getD (xs.set i (se + ov)) i (by simpa using hix), getD_set_self xs i (se + ov) 0 hix, ints_set, List.set_set]
        (repeat' apply And.intro) <;> (try first | omega | (first | omega | (unfold inI; omega)))
        refine aw_region (EF := EF0) hG (by rw [hN]; exact tr17_8) ?_
        simp only [a17_8, go_sem, ↓reduceIte, Nat.reduceEqDiff, reduceCtorEq, Nat.reduceAdd, Nat.reduceLT, Nat.reduceLeDiff, Nat.reduceBNe, Nat.reduceBEq, Int.reduceToNat, inI]
        (repeat' apply And.intro) <;> (try first | omega)
        refine hK (i + 1, xs.set i (se + ov - cl[i - 1].prot)) _ ?_ ?_ ?_
        · refine ⟨hc, by rw [List.length_set, hl], ?_⟩
          rw [take_set _ _ _ hix, ht, limTo_succ, limAt, if_neg (by omega), List.getD_eq_getElem?_getD, List.getElem?_eq_getElem hz]; rfl
        · dsimp only; omega
        · refine Le.mk _ _ ?_ ?_ rfl <;> simp only [go_sem, ↓reduceIte, Nat.reduceEqDiff, reduceCtorEq, Nat.reduceAdd, Nat.reduceLT, Nat.reduceLeDiff, Nat.reduceBNe, Nat.reduceBEq, Int.reduceToNat]
      · simp only [decide_eq_true_eq, decide_eq_false_iff_not, Bool.and_eq_true, Bool.or_eq_true, Bool.not_eq_true', Bool.not_eq_false', Bool.and_eq_false_iff, Bool.or_eq_false_iff, Int.ofNat_lt, Int.ofNat_le, Nat.not_lt, Nat.not_le, Int.not_lt, Int.not_le] at h0
        refine aw_skip ?_
        simp only [go_sem, ↓reduceIte, Nat.reduceEqDiff, reduceCtorEq, Nat.reduceAdd, Nat.reduceLT, Nat.reduceLeDiff, Nat.reduceBNe, Nat.reduceBEq, Int.reduceToNat]
        refine aw_region (EF := EF0) hG (by rw [hN]; exact tr17_8) ?_
        simp only [a17_8, go_sem, ↓reduceIte, Nat.reduceEqDiff, reduceCtorEq, Nat.reduceAdd, Nat.reduceLT, Nat.reduceLeDiff, Nat.reduceBNe, Nat.reduceBEq, Int.reduceToNat, inI]
        (repeat' apply And.intro) <;> (try first | omega)
        refine hK (i + 1, xs.set i (se + ov)) _ ?_ ?_ ?_
        · refine ⟨hc, by rw [List.length_set, hl], ?_⟩
          rw [take_set _ _ _ hix, ht, limTo_succ, limAt, if_pos (by omega)]
        · dsimp only; omega
        · refine Le.mk _ _ ?_ ?_ rfl <;> simp only [go_sem, ↓reduceIte, Nat.reduceEqDiff, reduceCtorEq, Nat.reduceAdd, Nat.reduceLT, Nat.reduceLeDiff, Nat.reduceBNe, Nat.reduceBEq, Int.reduceToNat]
    · simp only [decide_eq_true_eq, decide_eq_false_iff_not, Bool.and_eq_true, Bool.or_eq_true, Bool.not_eq_true', Bool.not_eq_false', Bool.and_eq_false_iff, Bool.or_eq_false_iff, Int.ofNat_lt, Int.ofNat_le, Nat.not_lt, Nat.not_le, Int.not_lt, Int.not_le] at hc
      refine aw_exit ?_
      simp only [go_sem, ↓reduceIte, Nat.reduceEqDiff, reduceCtorEq, Nat.reduceAdd, Nat.reduceLT, Nat.reduceLeDiff, Nat.reduceBNe, Nat.reduceBEq, Int.reduceToNat]
      refine aw_seq (aw_region (EF := EF0) hG (by rw [hN]; exact tr17_9) ?_)
      simp only [a17_9, go_sem, ↓reduceIte, Nat.reduceEqDiff, reduceCtorEq, Nat.reduceAdd, Nat.reduceLT, Nat.reduceLeDiff, Nat.reduceBNe, Nat.reduceBEq, Int.reduceToNat]
      refine AW.le (s' := ⟨mkE [(2, .list (ints xs) false)], mkH []⟩) (Le.mk _ _ ?_ ?_ rfl) (aw_ret (hQ _ _ (.inl rfl) ?_ ?_ ?_)) <;> simp only [outφ, outV, AR.res, go_sem, ↓reduceIte, Nat.reduceEqDiff, reduceCtorEq, Nat.reduceAdd, Nat.reduceLT, Nat.reduceLeDiff, Nat.reduceBNe, Nat.reduceBEq, Int.reduceToNat, fLim, limits, auth]
      · exact wk_frz rfl (by rw [ints_len, hl]) rfl (ints_pur _)
      · rw [List.take_of_length_le (by omega)] at ht
        rw [ht, Nat.le_antisymm hi hc]
end Go.Proofs.YtopafipomaiabaaDoor
