import Derived.Test.YtjkclhbckfkeeaaGreatDoorPaN
set_option linter.unusedSimpArgs false
set_option linter.unusedVariables false
set_option linter.deprecated false
set_option maxHeartbeats 8000000
noncomputable section
namespace Go.Proofs.YtjkclhbckfkeeaaGreatDoor
open Go Go.RowKit
def JL : List UInt8 := [50, 51, 52, 53, 54, 55, 56, 57, 65, 66, 67, 68, 69, 70, 71, 72, 74, 75, 76, 77, 78, 80, 81, 82, 83, 84, 85, 86, 87, 88, 89, 90]
def ixA (c : UInt8) : Int := Lib.indexByte JL c
def al (k : Int) : UInt8 := JL.getD k.toNat 0
theorem XE (c : UInt8) : -1 ≤ ixA c ∧ ixA c < 32 := by
 have h1 := Lib.indexByte_ge JL c
 have h2 := Ad0 JL c
 have h3 : JL.length = 32 := rfl
 unfold ixA
 rcases h2 with h2 | h2
 ·rw [h3] at h2; exact ⟨h1, h2⟩
 ·omega
def AdP (v : List Int) : Int := v.foldl (fun n x => 32 * n + x) 0
def AgC (v0 v1 v2 v3 v4 : Int) : Int := (v0 + 3 * v1 + 5 * v2 + 7 * v3 + 9 * v4) % 32
def Mf : List UInt8 → Bool
 | [a, b, c, d, e, f] => decide (0 ≤ ixA a) && decide (0 ≤ ixA b) && decide (0 ≤ ixA c) && decide (0 ≤ ixA d) && decide (0 ≤ ixA e) && decide (f = al (AgC (ixA a) (ixA b) (ixA c) (ixA d) (ixA e)))
 | _ => false
theorem Wb {s : List UInt8} (h : s.length ≠ 6) : Mf s = false := by
 unfold Mf
 split
 ·simp at h
 ·rfl
def CP (x : Int × Int) : List V := [.int .i64 x.1, .int .i64 x.2]
theorem CE (a b : Int × Int) (h : CP a = CP b) : a = b := by
 obtain ⟨a_a, a_b⟩ := a
 obtain ⟨b_a, b_b⟩ := b
 simp only [CP, List.cons.injEq, V.str.injEq, V.int.injEq, V.bool.injEq, V.agg.injEq, V.list.injEq, and_true, true_and] at h
 obtain ⟨h0, h1⟩ := h
 subst h0
 subst h1
 rfl
def Eu (y : Int × Int) : V := .tup [.int .i64 y.1, .int .i64 y.2]
def Nx (c s : Int) : Int × Int := if c < 1 ∨ 1000 ≤ c ∨ s < 0 ∨ 10000000000 ≤ s then (0, 2) else ((c * 10000000000 + s) * 10 + (c * 10000000000 + s) % 7, 0)
def fMk (x : Int × Int) : Prop × V := (True, Eu (Nx x.1 x.2))
theorem EN (a b : Int) : gOf CP fMk [.int .i64 a, .int .i64 b] = (True, Eu (Nx a b)) := Ar CE (a, b)
def fCk (x : Int × Int) : Prop × V := (1 ≤ x.1 ∧ x.1 < 1000 ∧ 0 ≤ x.2 ∧ x.2 < 10000000000, .int .i64 ((x.1 * 10000000000 + x.2) % 7))
theorem NT (a b : Int) : gOf CP fCk [.int .i64 a, .int .i64 b] = (1 ≤ a ∧ a < 1000 ∧ 0 ≤ b ∧ b < 10000000000, .int .i64 ((a * 10000000000 + b) % 7)) := Ar CE (a, b)
theorem WJ : PU 179 (gOf CP fCk) := by
 have hG := AC
 refine AeB.a CE (by simp [CP]) ?_
 rintro ⟨c, s⟩ hv C hN Q hQ
 have Z := AeB.R EF0 hG hN
 obtain ⟨h1, h2, h3, h4⟩ : 1 ≤ c ∧ c < 1000 ∧ 0 ≤ s ∧ s < 10000000000 := hv
 refine Aa (Z 0 rfl ?_)
 simp only [go_sem, simprocAttr, CP]
 refine Aa (Z 1 rfl ?_)
 simp only [go_sem, simprocAttr, inI]
 and_intros <;> try exact sdA
 refine Ae (hQ _ _ (.inl rfl) ?_ ?_ ?_) <;> simp only [go_sem, simprocAttr, fCk]
 rw [Int.tmod_eq_emod_of_nonneg (by omega)]
def tMk : Tab
 | 179 => (gOf CP fCk)
 | _ => gNo
theorem AcT : ∀ f, PU f (tMk f) := fun f => by
 unfold tMk
 split
 ·exact WJ
 ·exact Ao.no
theorem AdV : PU 137 (gOf CP fMk) := by
 have hG := AcT
 refine AeY.a CE (by simp [CP]) ?_
 rintro ⟨c, s⟩ hv C hN Q hQ
 have Z := AeY.R EF0 hG hN
 refine Aa (Z 0 rfl ?_)
 simp only [go_sem, simprocAttr, CP, tMk, NT]
 refine Aa (Aa (Z 1 rfl ?_))
 simp only [go_sem, simprocAttr, tMk, NT]
 and_intros <;> try exact sdA
 refine Ab rfl (fun hb1 => ?_) fun hb1 => ?_
 ·have hm : Nx c s = (0, 2) := by unfold Nx; rw [if_pos (by simp only [Bool.or_eq_true, decide_eq_true_eq] at hb1; omega)]
  refine Aa (Z 2 rfl ?_)
  simp only [go_sem, simprocAttr, tMk, NT]
  refine Ae (hQ _ _ (.inl rfl) ?_ ?_ ?_) <;> simp only [go_sem, simprocAttr, fMk, Eu, hm]
 have hb : 1 ≤ c ∧ c < 1000 ∧ 0 ≤ s ∧ s < 10000000000 := by simp only [Bool.or_eq_false_iff, decide_eq_false_iff_not] at hb1; omega
 have hm : Nx c s = ((c * 10000000000 + s) * 10 + (c * 10000000000 + s) % 7, 0) := by unfold Nx; rw [if_neg (by omega)]
 refine Ac ?_
 refine Aa (Z 3 rfl ?_)
 simp only [go_sem, simprocAttr, inI, tMk, NT]
 and_intros <;> try exact sdA
 refine Ae (hQ _ _ (.inl rfl) ?_ ?_ ?_) <;> simp only [go_sem, simprocAttr, fMk, Eu, hm]
theorem Aae : PU 55 (gOf CP fMk) := by
 have hG := AC
 refine Ai4.a CE (by simp [CP]) ?_
 rintro ⟨c, s⟩ hv C hN Q hQ
 have Z := Ai4.R EF0 hG hN
 refine Aa (Z 0 rfl ?_)
 simp only [go_sem, simprocAttr, CP, tNo]
 refine Aa (Aa (Z 1 rfl ?_))
 simp only [go_sem, simprocAttr, tNo]
 and_intros <;> try exact sdA
 refine Ab rfl (fun hb1 => ?_) fun hb1 => ?_
 ·have hm : Nx c s = (0, 2) := by unfold Nx; rw [if_pos (by simp only [Bool.or_eq_true, decide_eq_true_eq] at hb1; omega)]
  refine Aa (Z 2 rfl ?_)
  simp only [go_sem, simprocAttr, tNo]
  refine Ae (hQ _ _ (.inl rfl) ?_ ?_ ?_) <;> simp only [go_sem, simprocAttr, fMk, Eu, hm]
 have hb : 1 ≤ c ∧ c < 1000 ∧ 0 ≤ s ∧ s < 10000000000 := by simp only [Bool.or_eq_false_iff, decide_eq_false_iff_not] at hb1; omega
 have hm : Nx c s = (10 * (c * 10000000000 + s) + (c * 10000000000 + s).tmod 7, 0) := by unfold Nx; rw [if_neg (by omega), Int.tmod_eq_emod_of_nonneg (by omega), Int.mul_comm 10]
 refine Ac ?_
 refine Aa (Z 3 rfl ?_)
 simp only [go_sem, simprocAttr, inI, tNo]
 and_intros <;> try exact sdA
 have hmb : 0 ≤ (c * 10000000000 + s).tmod 7 ∧ (c * 10000000000 + s).tmod 7 < 7 := by rw [Int.tmod_eq_emod_of_nonneg (by omega)]; omega
 refine Aa (Z 4 rfl ?_)
 simp only [go_sem, simprocAttr, inI, tNo]
 and_intros <;> try exact sdA
 refine Ae (hQ _ _ (.inl rfl) ?_ ?_ ?_) <;> simp only [go_sem, simprocAttr, fMk, Eu, hm]
def WS (n : Int) : Int := (n.tdiv 10).tdiv 10000000000
def ZX (n : Int) : Int := (n.tdiv 10).tmod 10000000000
def Cs (n : Int) : Bool := decide (Nx (WS n) (ZX n) = (n, 0))
def VL (n : Int) : Int × Int × Bool := if Cs n then (WS n, ZX n, true) else (0, 0, false)
def Afj (n : Int) : Prop × V := (inI n, .tup [.int .i64 (VL n).1, .int .i64 (VL n).2.1, .bool (VL n).2.2])
theorem Mn (n : Int) : gOf Eb Afj [.int .i64 n] = (inI n, .tup [.int .i64 (VL n).1, .int .i64 (VL n).2.1, .bool (VL n).2.2]) := Ar Cb n
def Ww (n : Int) : Prop × V := (inI n, .bool (Cs n))
theorem At (n : Int) : gOf Eb Ww [.int .i64 n] = (inI n, .bool (Cs n)) := Ar Cb n
theorem IP (n k : Int) : (0 ≤ n → n.tdiv k = n / k) ∧ (n ≤ 0 → n.tdiv k = -((-n) / k)) := by
 refine ⟨fun h => Int.tdiv_eq_ediv_of_nonneg h, fun h => ?_⟩
 have h1 : (-n).tdiv k = (-n) / k := Int.tdiv_eq_ediv_of_nonneg (by omega)
 rw [← h1, Int.neg_tdiv, Int.neg_neg]
theorem Oj {n : Int} (h : inI n) : inI (n.tdiv 10) ∧ inI (n.tdiv 10000000000) := by
 unfold inI at *
 obtain ⟨a1, a2⟩ := IP n 10
 obtain ⟨b1, b2⟩ := IP n 10000000000
 rcases Int.le_total 0 n with h0 | h0
 ·rw [a1 h0, b1 h0]; omega
 ·rw [a2 h0, b2 h0]; omega
theorem Ri {n : Int} (h : n < 0) : Cs n = false := by
 have h1 : WS n ≤ 0 := by
  unfold WS
  have h2 : n.tdiv 10 ≤ 0 := by rw [(IP n 10).2 (by omega)]; omega
  rw [(IP _ 10000000000).2 h2]; omega
 unfold Cs Nx
 rw [if_pos (by omega)]
 exact decide_eq_false fun h => by injection h with _ h; cases h
def tPr : Tab
 | 137 => (gOf CP fMk)
 | _ => gNo
theorem AcQ : ∀ f, PU f (tPr f) := fun f => by
 unfold tPr
 split
 ·exact AdV
 ·exact Ao.no
theorem Aam : PU 78 (gOf Eb Afj) := by
 have hG := AcQ
 refine AiN.a Cb (by simp [Eb]) ?_
 rintro n hv C hN Q hQ
 have Z := AiN.R EF0 hG hN
 replace hv : inI n := hv
 obtain ⟨⟨m, e⟩, hme⟩ : ∃ y, Nx (WS n) (ZX n) = y := ⟨_, rfl⟩
 have hrt : Cs n = decide ((m, e) = (n, (0 : Int))) := by unfold Cs; rw [hme]
 unfold WS ZX at hme
 obtain ⟨q1, q2⟩ := Oj hv
 obtain ⟨q3, q4⟩ := Oj q1
 unfold inI at q1 q4
 refine Aa (Z 0 rfl ?_)
 simp only [go_sem, simprocAttr, Eb, tPr, EN]
 refine Aa (Z 1 rfl ?_)
 simp only [go_sem, simprocAttr, tPr, EN]
 and_intros <;> try exact sdA
 refine Aa (Z 2 rfl ?_)
 simp only [go_sem, simprocAttr, hme, Eu, tPr, EN]
 and_intros <;> try exact sdA
 refine Aa (Aa (Z 3 rfl ?_))
 simp only [go_sem, simprocAttr, tPr, EN]
 and_intros <;> try exact sdA
 refine Ab rfl (fun hb3 => ?_) fun hb3 => ?_
 ·have hr : Cs n = false := by rw [hrt]; refine decide_eq_false fun h => ?_; injection h with h1 h2; simp [h1, h2] at hb3
  refine Aa (Z 4 rfl ?_)
  simp only [go_sem, simprocAttr, tPr, EN]
  refine Ae (hQ _ _ (.inl rfl) ?_ ?_ ?_) <;> simp only [go_sem, simprocAttr, Afj, VL, hr]
 have hr : Cs n = true := by rw [hrt]; refine decide_eq_true ?_; simp at hb3; rw [hb3.1, hb3.2]
 refine Ac ?_
 refine Aa (Z 5 rfl ?_)
 simp only [go_sem, simprocAttr, tPr, EN]
 refine Ae (hQ _ _ (.inl rfl) ?_ ?_ ?_) <;> simp only [go_sem, simprocAttr, Afj, VL, hr, WS, ZX]
def tRg : Tab
 | 78 => (gOf Eb Afj)
 | _ => gNo
theorem AcP : ∀ f, PU f (tRg f) := fun f => by
 unfold tRg
 split
 ·exact Aam
 ·exact Ao.no
theorem Nr : PU 34 (gOf Eb Ww) := by
 have hG := AcP
 refine Aje.a Cb (by simp [Eb]) ?_
 rintro n hv C hN Q hQ
 have Z := Aje.R EF0 hG hN
 replace hv : inI n := hv
 refine Aa (Z 0 rfl ?_)
 simp only [go_sem, simprocAttr, Eb, tRg, Mn]
 refine Aa (Z 1 rfl ?_)
 simp only [go_sem, simprocAttr, hv, tRg, Mn]
 and_intros <;> try exact sdA
 refine Aa (Z 2 rfl ?_)
 simp only [go_sem, simprocAttr, tRg, Mn]
 refine Ae (hQ _ _ (.inl rfl) ?_ ?_ ?_) <;> simp only [go_sem, simprocAttr, Ww]
 unfold VL; split <;> simp_all
def YJ : Tab
 | 55 => (gOf CP fMk)
 | _ => gNo
theorem YI : ∀ f, PU f (YJ f) := fun f => by
 unfold YJ
 split
 ·exact Aae
 ·exact Ao.no
theorem VC : PU 20 (gOf Eb Ww) := by
 have hG := YI
 refine Ajk.a Cb (by simp [Eb]) ?_
 rintro n hv C hN Q hQ
 have Z := Ajk.R EF0 hG hN
 replace hv : inI n := hv
 obtain ⟨⟨m, e⟩, hme⟩ : ∃ y, Nx (WS n) (ZX n) = y := ⟨_, rfl⟩
 have hrt : Cs n = decide ((m, e) = (n, (0 : Int))) := by unfold Cs; rw [hme]
 refine Aa (Z 0 rfl ?_)
 simp only [go_sem, simprocAttr, Eb, YJ, EN]
 refine Aa (Aa (Z 1 rfl ?_))
 simp only [go_sem, simprocAttr, YJ, EN]
 refine Ab rfl (fun hc1 => ?_) fun hc1 => ?_
 ·simp only [hcL] at hc1
  refine Aa (Z 2 rfl ?_)
  simp only [go_sem, simprocAttr, YJ, EN]
  refine Ae (hQ _ _ (.inl rfl) ?_ ?_ ?_) <;> simp only [go_sem, simprocAttr, Ww]
  rw [Ri hc1]
 simp only [hcL] at hc1
 refine Ac ?_
 unfold WS ZX at hme
 obtain ⟨q1, q2⟩ := Oj hv
 obtain ⟨q3, q4⟩ := Oj q1
 unfold inI at q1 q4
 refine Aa (Z 3 rfl ?_)
 simp only [go_sem, simprocAttr, hme, Eu, YJ, EN]
 and_intros <;> try exact sdA
 refine Aa (Z 4 rfl ?_)
 simp only [go_sem, simprocAttr, YJ, EN]
 and_intros <;> try exact sdA
 refine Ae (hQ _ _ (.inl rfl) ?_ ?_ ?_) <;> simp only [go_sem, simprocAttr, Ww]
 rw [hrt]; by_cases h1 : m = n <;> by_cases h2 : e = 0 <;> simp [h1, h2]
def fNx (x : Int × Int) : Prop × V := (x.2 = 10 ∧ 1 ≤ x.1 ∧ x.1 ≤ 8, .int .i64 (if x.1 = 1 then 8 else 0))
theorem FL (a b : Int) : gOf CP fNx [.int .i64 a, .int .i64 b] = (b = 10 ∧ 1 ≤ a ∧ a ≤ 8, .int .i64 (if a = 1 then 8 else 0)) := Ar CE (a, b)
theorem AdQ : PU 82 (gOf CP fNx) := by
 have hG := AC
 refine AiJ.a CE (by simp [CP]) ?_
 rintro ⟨s, e⟩ hv C hN Q hQ
 have Z := AiJ.R EF0 hG hN
 obtain ⟨he, h1, h2⟩ : e = 10 ∧ 1 ≤ s ∧ s ≤ 8 := hv
 subst he
 refine Aa (Z 0 rfl ?_)
 simp only [go_sem, simprocAttr, CP, tNo, Int.reduceEq, decide_false, decide_true, Bool.and_false, Bool.and_true]
 refine Aa (Aa (Z 1 rfl ?_))
 simp only [go_sem, simprocAttr, tNo, Int.reduceEq, decide_false, decide_true, Bool.and_false, Bool.and_true]
 refine Ad (Aa (Z 2 rfl ?_))
 simp only [go_sem, simprocAttr, tNo, Int.reduceEq, decide_false, decide_true, Bool.and_false, Bool.and_true]
 refine Be rfl ?_
 refine Aa (Aa (Z 4 rfl ?_))
 simp only [go_sem, simprocAttr, tNo, Int.reduceEq, decide_false, decide_true, Bool.and_false, Bool.and_true]
 refine Be rfl ?_
 refine Aa (Z 5 rfl ?_)
 simp only [go_sem, simprocAttr, tNo, Int.reduceEq, decide_false, decide_true, Bool.and_false, Bool.and_true]
 refine Be rfl ?_
 refine Z 6 rfl ?_
 simp only [go_sem, simprocAttr, tNo, Int.reduceEq, decide_false, decide_true, Bool.and_false, Bool.and_true]
 refine Be rfl ?_
 refine Aa (Z 8 rfl ?_)
 simp only [go_sem, simprocAttr, tNo, Int.reduceEq, decide_false, decide_true, Bool.and_false, Bool.and_true]
 refine Be rfl ?_
 refine Aa (Z 10 rfl ?_)
 simp only [go_sem, simprocAttr, tNo, Int.reduceEq, decide_false, decide_true, Bool.and_false, Bool.and_true]
 refine Be rfl ?_
 refine Aa (Z 12 rfl ?_)
 simp only [go_sem, simprocAttr, tNo, Int.reduceEq, decide_false, decide_true, Bool.and_false, Bool.and_true]
 refine Ab rfl (fun hc12 => ?_) fun hc12 => ?_
 ·simp only [hcL] at hc12
  refine Aa (Z 13 rfl ?_)
  simp only [go_sem, simprocAttr, tNo, Int.reduceEq, decide_false, decide_true, Bool.and_false, Bool.and_true]
  refine Ae (hQ _ _ (.inl rfl) ?_ ?_ ?_) <;> simp only [go_sem, simprocAttr, fNx, hc12]
 simp only [hcL] at hc12
 refine Aa (Aa (Z 14 rfl ?_))
 simp only [go_sem, simprocAttr, tNo, Int.reduceEq, decide_false, decide_true, Bool.and_false, Bool.and_true]
 refine Be rfl ?_
 refine Z 15 rfl ?_
 simp only [go_sem, simprocAttr, tNo, Int.reduceEq, decide_false, decide_true, Bool.and_false, Bool.and_true]
 refine Be rfl ?_
 refine Aa (Z 17 rfl ?_)
 simp only [go_sem, simprocAttr, tNo, Int.reduceEq, decide_false, decide_true, Bool.and_false, Bool.and_true]
 refine Be rfl ?_
 refine Aa (Z 19 rfl ?_)
 simp only [go_sem, simprocAttr, tNo, Int.reduceEq, decide_false, decide_true, Bool.and_false, Bool.and_true]
 refine Be rfl ?_
 refine Ac ?_
 refine Aa (Z 21 rfl ?_)
 simp only [go_sem, simprocAttr, tNo, Int.reduceEq, decide_false, decide_true, Bool.and_false, Bool.and_true]
 refine Ae (hQ _ _ (.inl rfl) ?_ ?_ ?_) <;> simp only [go_sem, simprocAttr, fNx, hc12]
def DJ (s : Int) : Int × Int := if s < 1 ∨ 8 < s then (0, 8) else if s = 2 then (0, 28) else if s = 1 then (8, 0) else (0, 27)
def fVn (x : Int × Int) : Prop × V := (x.2 = 10, Eu (DJ x.1))
theorem Dp (a b : Int) : gOf CP fVn [.int .i64 a, .int .i64 b] = (b = 10, Eu (DJ a)) := Ar CE (a, b)
def tVn : Tab
 | 82 => (gOf CP fNx)
 | _ => gNo
theorem AcL : ∀ f, PU f (tVn f) := fun f => by
 unfold tVn
 split
 ·exact AdQ
 ·exact Ao.no
theorem YG : PU 38 (gOf CP fVn) := by
 have hG := AcL
 refine Ajb.a CE (by simp [CP]) ?_
 rintro ⟨s, e⟩ hv C hN Q hQ
 have Z := Ajb.R EF0 hG hN
 replace hv : e = 10 := hv
 subst hv
 refine Aa (Z 0 rfl ?_)
 simp only [go_sem, simprocAttr, CP, tVn, FL]
 refine Aa (Aa (Z 1 rfl ?_))
 simp only [go_sem, simprocAttr, tVn, FL]
 and_intros <;> try exact sdA
 refine Ab rfl (fun hb1 => ?_) fun hb1 => ?_
 ·have hm : DJ s = (0, 8) := by unfold DJ; rw [if_pos (by simp at hb1; omega)]
  refine Aa (Z 2 rfl ?_)
  simp only [go_sem, simprocAttr, tVn, FL]
  refine Ae (hQ _ _ (.inl rfl) ?_ ?_ ?_) <;> simp only [go_sem, simprocAttr, fVn, Eu, hm]
 have hb : 1 ≤ s ∧ s ≤ 8 := by simp at hb1; omega
 refine Ac ?_
 refine Aa (Aa (Z 3 rfl ?_))
 simp only [go_sem, simprocAttr, tVn, FL]
 and_intros <;> try exact sdA
 refine Ab rfl (fun hb3 => ?_) fun hb3 => ?_
 ·have hm : DJ s = (0, 28) := by simp at hb3; unfold DJ; rw [if_neg (by omega), if_pos hb3]
  refine Aa (Z 4 rfl ?_)
  simp only [go_sem, simprocAttr, tVn, FL]
  refine Ae (hQ _ _ (.inl rfl) ?_ ?_ ?_) <;> simp only [go_sem, simprocAttr, fVn, Eu, hm]
 have hs2 : ¬ s = 2 := by simpa using hb3
 refine Ac ?_
 refine Aa (Aa (Z 5 rfl ?_))
 simp only [go_sem, simprocAttr, hb.1, hb.2, tVn, FL]
 and_intros <;> try exact sdA
 refine Aa (Z 6 rfl ?_)
 simp only [go_sem, simprocAttr, tVn, FL]
 refine Ab rfl (fun hb6 => ?_) fun hb6 => ?_
 ·have hs1 : s = 1 := by (by_cases h : s = 1; exact h; simp [h] at hb6)
  subst hs1
  refine Aa (Z 7 rfl ?_)
  simp only [go_sem, simprocAttr, tVn, FL]
  refine Ae (hQ _ _ (.inl rfl) ?_ ?_ ?_) <;> simp only [go_sem, simprocAttr, fVn]
  rfl
 have hs1 : ¬ s = 1 := fun h => by simp [h] at hb6
 have hm : DJ s = (0, 27) := by unfold DJ; rw [if_neg (by omega), if_neg hs2, if_neg hs1]
 refine Ac ?_
 refine Aa (Z 8 rfl ?_)
 simp only [go_sem, simprocAttr, tVn, FL]
 refine Ae (hQ _ _ (.inl rfl) ?_ ?_ ?_) <;> simp only [go_sem, simprocAttr, fVn, Eu, hm]
def FV (l : List Int) : List V := l.map fun n => .int .i64 n
theorem Bj (l : List Int) : (FV l).length = l.length := List.length_map _
theorem PY {l : List Int} {i : Nat} (h : i < l.length) (d : V) : (FV l).getD i d = .int .i64 l[i] := by
 unfold FV
 rw [List.getD_eq_getElem?_getD, List.getElem?_map, List.getElem?_eq_getElem h]; rfl
theorem AF (D : List Nat) : ∀ l : List Int, V.nins D (FV l) = true
 | [] => by simp [FV, V.nins]
 | x :: l => by have := AF D l; unfold FV at this ⊢; simp [V.nins, V.nin, this]
theorem AM : ∀ l : List Int, V.purs (FV l) = true
 | [] => by simp [FV, V.purs]
 | x :: l => by have := AM l; unfold FV at this ⊢; simp [V.purs, V.pur, this]
theorem Xm {h : Nat → Option Ob} {hl : List (Nat × Ob)} : ∀ l : List Int, Ik h hl (FV l) (FV l) ↔ True
 | [] => iff_true_intro trivial
 | x :: l => iff_true_intro ⟨.same _ (by simp [V.nin]), (Xm l).2 trivial⟩
theorem Uw {a b : List Int} (h : FV a = FV b) : a = b := List.map_inj_right (fun x y h => by injection h) |>.1 h
def aC5 (x : List Int) : List V := [.agg (FV x)]
theorem TI (a b : List Int) (h : aC5 a = aC5 b) : a = b := by
 unfold aC5 at h
 simp only [List.cons.injEq, V.agg.injEq, and_true] at h
 exact Uw h
def Ur (x : List Int) : Nat → Int
 | 0 => 0
 | i + 1 => Ur x i + (2 * i + 1) * x.getD i 0
def fC5 (x : List Int) : Prop × V := (x.length = 5 ∧ (∀ n ∈ x, 0 ≤ n ∧ n < 32), .int .i64 (Ur x 5 % 32))
theorem CZ (x : List Int) : gOf aC5 fC5 [.agg (FV x)] = (x.length = 5 ∧ (∀ n ∈ x, 0 ≤ n ∧ n < 32), .int .i64 (Ur x 5 % 32)) := Ar TI x
theorem Wc : PU 172 (gOf aC5 fC5) := by
 have hG := AC
 refine AeG.a TI (by simp [aC5]) ?_
 rintro x hv C hN Q hQ
 have Z := AeG.R EF0 hG hN
 obtain ⟨hl, hx⟩ : x.length = 5 ∧ ∀ n ∈ x, 0 ≤ n ∧ n < 32 := hv
 have hvl : (FV x).length = 5 := by rw [Bj, hl]
 have htk : (FV x).take 5 = FV x := List.take_of_length_le (by omega)
 refine Aa (Z 0 rfl ?_)
 simp only [go_sem, simprocAttr, aC5, tNo, Nat.mul_one, List.drop_zero, htk, AF, AM]
 refine Aa (Z 1 rfl ?_)
 simp only [go_sem, simprocAttr, tNo, Nat.mul_one, List.drop_zero, htk, AF, AM]
 refine Aa (Aa (Z 2 rfl ?_))
 simp only [go_sem, simprocAttr, hvl, Nat.zero_add, tNo, Nat.mul_one, List.drop_zero, htk, AF, AM]
 refine Ad ?_
 refine Aj (α := Nat × Int) (fun γ => (γ.1 ≤ 5) ∧ (γ.2 = Ur x γ.1) ∧ (0 ≤ γ.2 ∧ γ.2 ≤ 279 * (γ.1 : Int))) (fun γ => ⟨mkE [(3, .int .i64 γ.2), (6, .agg (FV x)), (7, .int .i64 γ.1)], mkH []⟩) (fun γ => 5 - γ.1) (0, 0) ⟨by omega, rfl, by omega, by omega⟩ ?_ ?_
 ·refine Le.mk _ _ ?_ ?_ rfl <;> simp only [go_sem, simprocAttr, htk, AF, List.drop_zero] <;> and_intros <;> try exact leA
 rintro ⟨i, s⟩ ⟨hi, hs, hsb⟩ KL0 hKL0
 try dsimp only at *
 refine Aa (Z 3 rfl ?_)
 simp only [go_sem, simprocAttr, tNo, Nat.mul_one, List.drop_zero, htk, AF, AM]
 refine Aa ?_
 refine Ab rfl (fun hc3 => ?_) fun hc3 => ?_
 ·simp only [hcL] at hc3
  have hi5 : i < 5 := by omega
  have hix : i < x.length := by omega
  have hxi := hx _ (List.getElem_mem hix)
  have hmul : 0 ≤ (2 * (i : Int) + 1) * x[i] ∧ (2 * (i : Int) + 1) * x[i] ≤ 279 := ⟨Int.mul_nonneg (by omega) hxi.1, by have h1 : (2 * (i : Int) + 1) * x[i] ≤ 9 * x[i] := Int.mul_le_mul_of_nonneg_right (by omega) hxi.1; omega⟩
  refine Ac ?_
  refine Aa (Ad ?_)
  refine Aa (Z 4 rfl ?_)
  simp only [go_sem, simprocAttr, Bj, hl, PY hix, tNo, Nat.mul_one, List.drop_zero, htk, AF, AM]
  and_intros <;> try exact sdA
  refine Z 5 rfl ?_
  simp only [go_sem, simprocAttr, inI, tNo, Nat.mul_one, List.drop_zero, htk, AF, AM]
  and_intros <;> try exact sdA
  refine Z 6 rfl ?_
  simp only [go_sem, simprocAttr, inI, tNo, Nat.mul_one, List.drop_zero, htk, AF, AM]
  and_intros <;> try exact sdA
  refine hKL0 (i + 1, s + (2 * i + 1) * x[i]) _ ?_ ?_ ?_
  ·(try dsimp only); exact ⟨by omega, by rw [hs, Ur, List.getD_eq_getElem?_getD, List.getElem?_eq_getElem hix]; rfl, by omega, by omega⟩
  ·(try dsimp only); omega
  refine Le.mk _ _ ?_ ?_ rfl <;> simp only [go_sem, simprocAttr, AF] <;> and_intros <;> try exact leA
 simp only [hcL] at hc3
 obtain rfl : i = 5 := by omega
 refine Ai ?_
 simp only [go_sem, simprocAttr]
 refine Aa (Z 7 rfl ?_)
 simp only [go_sem, simprocAttr, tNo, Nat.mul_one, List.drop_zero, htk, AF, AM]
 and_intros <;> try exact sdA
 refine Ae (hQ _ _ (.inl rfl) ?_ ?_ ?_) <;> simp only [go_sem, simprocAttr, fC5]
 rw [hs, Int.tmod_eq_emod_of_nonneg (by rw [← hs]; exact hsb.1)]
def fLc (s : List UInt8) : Prop × V := (s.length ≤ 140737488355328, .bool (Mf s))
theorem Cf (s : List UInt8) : gOf Ey fLc [.str s] = (s.length ≤ 140737488355328, .bool (Mf s)) := Ar CF s
def vsA (s : List UInt8) (i : Nat) : List Int := (s.take i).map ixA ++ List.replicate (5 - i) 0
theorem YF {s : List UInt8} {i : Nat} (h : i ≤ 5) (hs : 5 ≤ s.length) : (vsA s i).length = 5 := by
 unfold vsA
 rw [List.length_append, List.length_map, List.length_take, List.length_replicate]; omega
theorem YE {s : List UInt8} {i : Nat} (h : i < 5) (hs : 5 ≤ s.length) : (vsA s i).set i (ixA (s[i]'(by omega))) = vsA s (i + 1) := by
 unfold vsA
 have h1 : ((s.take i).map ixA).length = i := by rw [List.length_map, List.length_take]; omega
 rw [List.set_append_right _ _ (by omega), h1, Nat.sub_self, show 5 - i = 5 - (i + 1) + 1 by omega, List.replicate_succ, List.set_cons_zero, AI (show i < s.length by omega), List.map_append, List.append_assoc]
 rfl
theorem AhM (xs : List Int) (i : Nat) (v : Int) (h : i < xs.length) : List.take i (FV xs) ++ [.int .i64 v] ++ List.drop (i + 1) (FV xs) = FV (xs.set i v) := by
 unfold FV
 rw [List.map_set, List.set_eq_take_append_cons_drop, if_pos (by rw [List.length_map]; exact h)]
 simp
theorem Ad1 {s : List UInt8} {i : Nat} (h : i < s.length) : Ah9 [.str [50, 51, 52, 53, 54, 55, 56, 57, 65, 66, 67, 68, 69, 70, 71, 72, 74, 75, 76, 77, 78, 80, 81, 82, 83, 84, 85, 86, 87, 88, 89, 90], .int .u8 (((s.getD i 0).toNat : Nat) : Int)] = (True, .int .i64 (ixA s[i])) := by
 rw [List.getD_eq_getElem?_getD, List.getElem?_eq_getElem h]
 show (True, V.int .i64 (Lib.indexByte JL (((s[i].toNat : Nat) : Int).toNat.toUInt8))) = _
 rw [Int.toNat_natCast]
 congr 3
 simp
theorem Akr {i : Nat} (h : i < 5) : 0 < (32 : Int) ^ i ∧ (32 : Int) ^ i ≤ 1048576 := by
 match i, h with
 | 0, _ | 1, _ | 2, _ | 3, _ | 4, _ => decide
def AaJ (s : List UInt8) : Int × Int := if Mf s = true then (AdP ((s.take 5).map ixA), 0) else (0, 3)
def fNp (s : List UInt8) : Prop × V := (s.length ≤ 140737488355328, Eu (AaJ s))
theorem Su (s : List UInt8) : gOf Ey fNp [.str s] = (s.length ≤ 140737488355328, Eu (AaJ s)) := Ar CF s
theorem RC {s : List UInt8} {i : Nat} (h : i < s.length) : AdP ((s.take (i + 1)).map ixA) = 32 * AdP ((s.take i).map ixA) + ixA s[i] := by
 rw [AI h, List.map_append]; unfold AdP; rw [List.foldl_append]; rfl
theorem Wa {s : List UInt8} {i : Nat} (hi : i < 5) (h : i < s.length) (hn : ixA s[i] < 0) : Mf s = false := by
 unfold Mf
 split
 ·match i, hi with
  | 0, _ | 1, _ | 2, _ | 3, _ | 4, _ => simp at hn ⊢; intros; omega
 ·rfl
theorem Agv (a b : UInt8) : decide ((a.toNat : Int) = (b.toNat : Int)) = decide (a = b) := decide_eq_decide.2 ⟨fun h => UInt8.toNat_inj.1 (by omega), fun h => by rw [h]⟩
theorem AaQ {s : List UInt8} (h6 : s.length = 6) (hall : ∀ c ∈ s.take 5, 0 ≤ ixA c) : Mf s = decide (((s.getD 5 0).toNat : Int) = ((JL.getD (Ur ((s.take 5).map ixA) 5 % 32).toNat 0).toNat : Int)) := by
 match s, h6 with
 | [a, b, c, d, e, f], _ =>
  have g1 := hall a (by simp)
  have g2 := hall b (by simp)
  have g3 := hall c (by simp)
  have g4 := hall d (by simp)
  have g5 := hall e (by simp)
  rw [Agv]
  have hw : Ur (([a, b, c, d, e, f].take 5).map ixA) 5 % 32 = AgC (ixA a) (ixA b) (ixA c) (ixA d) (ixA e) := by
   simp only [Ur, AgC, List.take_succ_cons, List.take_zero, List.map_cons, List.map_nil, List.getD_cons_zero, List.getD_cons_succ]
   congr 1
   omega
  rw [hw]
  simp only [Mf, g1, g2, g3, g4, g5, decide_true, Bool.true_and]
  rfl
def tNp : Tab
 | 171 => Ah9
 | 172 => (gOf aC5 fC5)
 | _ => gNo
theorem AcR : ∀ f, PU f (tNp f) := fun f => by
 unfold tNp
 split
 ·exact AhZ
 ·exact Wc
 ·exact Ao.no
theorem VS : PU 114 (gOf Ey fNp) := by
 have hG := AcR
 refine Aff.a CF (by simp [Ey]) ?_
 rintro s hv C hN Q hQ
 have Y := Aff.D EF0 hG hN mixed
 have Z := Aff.R EF0 hG hN
 replace hv : s.length ≤ 140737488355328 := hv
 refine Aa (Z 0 rfl ?_)
 simp only [go_sem, simprocAttr, Ey, tNp, CZ, AF, AM, Bj]
 refine Aa (Aa (Z 1 rfl ?_))
 simp only [go_sem, simprocAttr, tNp, CZ, AF, AM, Bj]
 refine Ab rfl (fun hb1 => ?_) fun hb1 => ?_
 ·have hne : s.length ≠ 6 := fun e => by rw [e] at hb1; simp at hb1
  have hl := Wb hne
  refine Aa (Z 2 rfl ?_)
  simp only [go_sem, simprocAttr, tNp, CZ, AF, AM, Bj]
  refine Ae (hQ _ _ (.inl rfl) ?_ ?_ ?_) <;> simp only [go_sem, simprocAttr, fNp, Eu, AaJ, hl, Bool.false_eq_true]
 have hl6 : s.length = 6 := by simp only [Bool.not_eq_false', decide_eq_true_eq] at hb1; omega
 refine Ac ?_
 refine Aa (Z 3 rfl ?_)
 simp only [go_sem, simprocAttr, tNp, CZ, AF, AM, Bj]
 refine Aa (Z 4 rfl ?_)
 simp only [go_sem, simprocAttr, tNp, CZ, AF, AM, Bj]
 refine Aa (Aa (Z 5 rfl ?_))
 simp only [go_sem, simprocAttr, tNp, CZ, AF, AM, Bj]
 refine Ad ?_
 refine Aj (α := Nat × Int) (fun γ => (γ.1 ≤ 5) ∧ (γ.2 = AdP ((s.take γ.1).map ixA)) ∧ (∀ c ∈ s.take γ.1, 0 ≤ ixA c) ∧ (0 ≤ γ.2 ∧ γ.2 < 32 ^ γ.1)) (fun γ => ⟨mkE [(0, V.str s), (4, .ptr 4 0), (5, .int .i64 γ.2), (11, .int .i64 γ.1)], mkH [(4, .box 233 (FV (vsA s γ.1)))]⟩) (fun γ => 5 - γ.1) (0, 0) ⟨by omega, rfl, fun c hc => by simp at hc, by omega, by decide⟩ ?_ ?_
 ·refine Le.mk _ _ ?_ ?_ rfl <;> simp only [go_sem, simprocAttr, show FV (vsA s 0) = [.int .i64 0, .int .i64 0, .int .i64 0, .int .i64 0, .int .i64 0] from rfl] <;> and_intros <;> try exact leA
 rintro ⟨i, n⟩ ⟨hi, hn, hall, hnb⟩ KL0 hKL0
 try dsimp only at *
 refine Aa (Z 6 rfl ?_)
 simp only [go_sem, simprocAttr, tNp, CZ, AF, AM, Bj]
 refine Aa ?_
 refine Ab rfl (fun hc6 => ?_) fun hc6 => ?_
 ·simp only [hcL] at hc6
  have hi5 : i < 5 := by omega
  have his : i < s.length := by omega
  obtain ⟨hp0, hp1⟩ := Akr hi5
  have hib := XE s[i]
  have hvl := YF hi (show 5 ≤ s.length by omega)
  have hst := RC his
  refine Ac ?_
  refine Aa (Ad ?_)
  refine Aa (Z 7 rfl ?_)
  simp only [go_sem, simprocAttr, tNp, CZ, AF, AM, Bj]
  refine Aa (Z 8 rfl ?_)
  simp only [go_sem, simprocAttr, Ad1 his, tNp, CZ, AF, AM, Bj]
  and_intros <;> try exact sdA
  refine Aa (Aa (Z 9 rfl ?_))
  simp only [go_sem, simprocAttr, tNp, CZ, AF, AM, Bj]
  refine Ab rfl (fun hb9 => ?_) fun hb9 => ?_
  ·have hl := Wa hi5 his (by simpa using hb9)
   refine Aa (Z 10 rfl ?_)
   simp only [go_sem, simprocAttr, tNp, CZ, AF, AM, Bj]
   refine Ae (hQ _ _ (.inl rfl) ?_ ?_ ?_) <;> simp only [go_sem, simprocAttr, fNp, Eu, AaJ, hl, Bool.false_eq_true]
  have hv0 : 0 ≤ ixA s[i] := by simpa using hb9
  refine Ac ?_
  refine Aa (Z 11 rfl ?_)
  simp only [go_sem, simprocAttr, Nat.zero_add, Nat.mul_one, hvl, AhM _ _ _ (show i < (vsA s i).length by rw [hvl]; exact hi5), YE hi5 (show 5 ≤ s.length by omega), tNp, CZ, AF, AM, Bj]
  and_intros <;> try exact sdA
  refine Z 12 rfl ?_
  simp only [go_sem, simprocAttr, inI, tNp, CZ, AF, AM, Bj]
  and_intros <;> try exact sdA
  refine Z 13 rfl ?_
  simp only [go_sem, simprocAttr, inI, tNp, CZ, AF, AM, Bj]
  and_intros <;> try exact sdA
  refine hKL0 (i + 1, n * 32 + ixA s[i]) _ ?_ ?_ ?_
  ·(try dsimp only); exact ⟨by omega, by rw [hst, ← hn]; omega, Dz (p := fun c => 0 ≤ ixA c) his hall hv0, by omega, by rw [Int.pow_succ]; omega⟩
  ·(try dsimp only); omega
  refine Le.mk _ _ ?_ ?_ rfl <;> simp only [go_sem, simprocAttr, AF, Xm] <;> and_intros <;> try exact leA
 simp only [hcL] at hc6
 obtain rfl : i = 5 := by omega
 have hvs : vsA s 5 = (s.take 5).map ixA := by unfold vsA; simp
 rw [hvs]
 have hml : ((s.take 5).map ixA).length = 5 := by rw [List.length_map, List.length_take]; omega
 have htk : (FV ((s.take 5).map ixA)).take 5 = FV ((s.take 5).map ixA) := List.take_of_length_le (by rw [Bj]; omega)
 have hmb : ∀ m ∈ (s.take 5).map ixA, 0 ≤ m ∧ m < 32 := fun m hm => by obtain ⟨c, hc, rfl⟩ := List.mem_map.1 hm; exact ⟨hall c hc, (XE c).2⟩
 have hle := AaQ hl6 hall
 obtain ⟨w, hw⟩ : ∃ w, w = Ur ((s.take 5).map ixA) 5 := ⟨_, rfl⟩
 refine Ai ?_
 simp only [go_sem, simprocAttr]
 refine Aa (Aa (Y 14 rfl (by kernel_rfl) ?_))
 simp only [go_sem, simprocAttr, List.drop_zero, htk, hml, hmb, ← hw, hl6, tNp, CZ, AF, AM, Bj]
 and_intros <;> (try first | exact sdA | exact hmb)
 refine Ab rfl (fun hb14 => ?_) fun hb14 => ?_
 ·have hl : Mf s = false := by rw [hle, ← hw]; unfold JL; simpa using hb14
  refine Aa (Z 15 rfl ?_)
  simp only [go_sem, simprocAttr, tNp, CZ, AF, AM, Bj]
  refine Ae (hQ _ _ (.inl rfl) ?_ ?_ ?_) <;> simp only [go_sem, simprocAttr, fNp, Eu, AaJ, hl, Bool.false_eq_true]
 have hl : Mf s = true := by rw [hle, ← hw]; unfold JL; simpa using hb14
 refine Ac ?_
 refine Aa (Z 16 rfl ?_)
 simp only [go_sem, simprocAttr, tNp, CZ, AF, AM, Bj]
 refine Ae (hQ _ _ (.inl rfl) ?_ ?_ ?_) <;> simp only [go_sem, simprocAttr, fNp, Eu, AaJ, hl, ← hn]
def tLr : Tab
 | 114 => (gOf Ey fNp)
 | _ => gNo
theorem AcV : ∀ f, PU f (tLr f) := fun f => by
 unfold tLr
 split
 ·exact VS
 ·exact Ao.no
theorem VZ : PU 60 (gOf Ey fLc) := by
 have hG := AcV
 refine Ai0.a CF (by simp [Ey]) ?_
 rintro s hv C hN Q hQ
 have Z := Ai0.R EF0 hG hN
 replace hv : s.length ≤ 140737488355328 := hv
 refine Aa (Z 0 rfl ?_)
 simp only [go_sem, simprocAttr, Ey, tLr, Su, Eu]
 refine Aa (Z 1 rfl ?_)
 simp only [go_sem, simprocAttr, hv, tLr, Su, Eu]
 and_intros <;> try exact sdA
 refine Aa (Z 2 rfl ?_)
 simp only [go_sem, simprocAttr, tLr, Su, Eu]
 refine Ae (hQ _ _ (.inl rfl) ?_ ?_ ?_) <;> simp only [go_sem, simprocAttr, fLc]
 unfold AaJ; split <;> simp_all
def fbO (nb na : Nat) (g : List Fault) : List (Nat × Ob) := [(nb, .box 121 [.own na g.length]), (na, .arr 126 2 (An g))]
theorem XH {d : Option Nat} {s : St} {K : St → Prop} {f nb na : Nat} {g g' : List Fault} {xs : List V} {v : V} (he : Eff Tryz.prog UT f (.ptr 1000 0 :: xs) (fbO 1000 1001 g) v (fbO 1000 1001 g')) (hr : ∀ σ, V.rens σ xs = xs) (hn : ∀ D, V.nins D xs = true) (hv : ∀ σ, v.ren σ = v) (hvn : ∀ D, v.nin D = true)
  (hb : s.h nb = some (.box 121 [.own na g.length])) (ha : s.h na = some (.arr 126 2 (An g))) (hne : nb ≠ na)
  (hK : K ⟨Ew d v s.e, hov (fbO nb na g') s.h⟩) : CQ Tryz.prog UT d f (.ptr nb 0 :: xs) s K := by
 have hne2 : na ≠ nb := Ne.symm hne
 refine ⟨[(1000, nb), (1001, na)], [], _, _, _, _, he, ⟨by simp [okL, hne], rfl, rfl, by simp, by simp, ?_, ?_, ?_, hvn _, ?_, ?_⟩, ?_⟩
 ·intro p hp
  simp only [List.mem_cons, List.not_mem_nil, or_false] at hp
  rcases hp with rfl | rfl
  ·exact ⟨_, hb, by simp [fbO, mkH, Ob.ren, Al ((CM _).2 trivial), V.rens, V.ren, rni, hne2], by simp [Ob.nin, V.nins, V.nin]⟩
  ·exact ⟨_, ha, by simp [fbO, mkH, Ob.ren, Al ((CM _).2 trivial)], by simp only [Ob.nin, true_or, CM]⟩
 ·simp only [V.rens, V.ren, hr]; simp [rni]
 ·simp only [V.nins, V.nin, hn]; simp
 ·intro q hq
  simp only [fbO, List.mem_cons, List.not_mem_nil, or_false] at hq
  rcases hq with rfl | rfl
  ·simp [Ob.nin, V.nins, V.nin, fbO]
  ·simp only [Ob.nin, true_or, CM]
 ·intro p hp o o' h1 h2
  simp only [List.mem_cons, List.not_mem_nil, or_false] at hp
  rcases hp with rfl | rfl <;> simp [fbO, mkH] at h1 h2 <;> subst h1 h2 <;> simp [Ob.kind]
 ·have e2 : (fbO 1000 1001 g').map (fun q => (rn ([(1000, nb), (1001, na)] ++ []) q.1, q.2.ren (rn ([(1000, nb), (1001, na)] ++ [])))) = fbO nb na g' := by
   simp [fbO, rn, Ob.ren, Al ((CM _).2 trivial), V.rens, V.ren]
  rw [hv, e2]
  exact hK
theorem Afg (g : List Fault) (b : Bool) (e : Int) (pos : List UInt8) (hg : g.length ≤ 1000000000) : Eff Tryz.prog UT 59 (.ptr 1000 0 :: [.bool b, .int .i64 e, .str pos]) (fbO 1000 1001 g) (.bool b) (fbO 1000 1001 (g ++ fIf b e pos)) := by
 have hG := AC
 obtain ⟨R, hR⟩ : ∃ R, R = g ++ fIf b e pos := ⟨_, rfl⟩
 rw [← hR]
 refine Ai1.e (by simp) fun C hN Q hQ => ?_
 have Z := Ai1.R EF0 hG hN
 refine Aa (Z 0 rfl ?_)
 simp only [go_sem, simprocAttr, fbO]
 refine Aa ?_
 by_cases hb : b = true
 ·have hfin : R = g ++ [⟨e, pos⟩] := by rw [hR, Dx hb]
  subst hfin hb
  refine Aa (Z 1 rfl ?_)
  simp only [go_sem, simprocAttr, fbO]
  refine FQ rfl ?_
  refine Z 2 rfl ?_
  simp only [go_sem, simprocAttr, fbO]
  and_intros <;> try exact sdA
  refine Aa (Z 3 rfl ?_)
  simp only [go_sem, simprocAttr, fbO]
  refine Ae ?_
  show Q _ _
  refine hQ _ _ ⟨mkE [(8, .bool true)], mkH (fbO 1000 1001 (g ++ [⟨e, pos⟩]))⟩ (.inl rfl) (Le.mk _ _ ?_ ?_ rfl) rfl ?_ ?_ <;> simp only [go_sem, simprocAttr, fbO, List.length_append, List.length_cons, List.length_nil]
 replace hb := Bool.eq_false_iff.2 hb
 have hfin : R = g := by rw [hR, Dy hb, List.append_nil]
 subst hfin hb
 refine Aa (Z 1 rfl ?_)
 simp only [go_sem, simprocAttr, fbO]
 refine Be rfl ?_
 refine Ac ?_
 refine Aa (Z 3 rfl ?_)
 simp only [go_sem, simprocAttr, fbO]
 refine Ae ?_
 show Q _ _
 refine hQ _ _ ⟨mkE [(8, .bool false)], mkH (fbO 1000 1001 R)⟩ (.inl rfl) (Le.mk _ _ ?_ ?_ rfl) rfl ?_ ?_ <;> simp only [go_sem, simprocAttr, fbO]
theorem Cm {d : Option Nat} {s : St} {K : St → Prop} {nb na : Nat} {g : List Fault} {b : Bool} {e : Int} {pos : List UInt8} (hg : g.length ≤ 1000000000)
  (hb : s.h nb = some (.box 121 [.own na g.length])) (ha : s.h na = some (.arr 126 2 (An g))) (hne : nb ≠ na)
  (hK : K ⟨Ew d (.bool b) s.e, hov (fbO nb na (g ++ fIf b e pos)) s.h⟩) : CQ Tryz.prog UT d 59 [.ptr nb 0, .bool b, .int .i64 e, .str pos] s K :=
 XH (Afg g b e pos hg) (fun σ => by simp [V.rens, V.ren]) (fun D => by simp [V.nins, V.nin]) (fun σ => by simp [V.ren]) (fun D => by simp [V.nin]) hb ha hne hK
def Ek (n : Int) : Bool := decide (0 ≤ n) && decide (n ≤ 1099511627776)
theorem Oy {n : Int} (h : Ek n = true) : 0 ≤ n ∧ n ≤ 1099511627776 := by
 unfold Ek at h
 simpa using h
def Afq (n : Int) : Prop × V := (True, .bool (Ek n))
theorem AD (n : Int) : gOf Eb Afq [.int .i64 n] = (True, .bool (Ek n)) := Ar Cb n
theorem AfR : PU 64 (gOf Eb Afq) := by
 have hG := AC
 refine AiW.a Cb (by simp [Eb]) ?_
 rintro n hv C hN Q hQ
 have Z := AiW.R EF0 hG hN
 refine Aa (Z 0 rfl ?_)
 simp only [go_sem, simprocAttr, Eb]
 refine Aa (Z 1 rfl ?_)
 simp only [go_sem, simprocAttr]
 and_intros <;> try exact sdA
 refine Ae (hQ _ _ (.inl rfl) ?_ ?_ ?_) <;> simp only [go_sem, simprocAttr, Afq, Ek]
def MA (n : Int) : Bool := decide (0 ≤ n) && decide (n < 36525)
def fDy (n : Int) : Prop × V := (True, .bool (MA n))
theorem AZ (n : Int) : gOf Eb fDy [.int .i64 n] = (True, .bool (MA n)) := Ar Cb n
theorem Afu : PU 35 (gOf Eb fDy) := by
 have hG := AC
 refine Ajd.a Cb (by simp [Eb]) ?_
 rintro n hv C hN Q hQ
 have Z := Ajd.R EF0 hG hN
 refine Aa (Z 0 rfl ?_)
 simp only [go_sem, simprocAttr, Eb]
 refine Aa (Z 1 rfl ?_)
 simp only [go_sem, simprocAttr]
 and_intros <;> try exact sdA
 refine Ae (hQ _ _ (.inl rfl) ?_ ?_ ?_) <;> simp only [go_sem, simprocAttr, fDy, MA]
def Yn (x : List Coupon) : List V := [.list (x.map Coupon.enc) false]
theorem OH (a b : List Coupon) (h : Yn a = Yn b) : a = b := by
 simp only [Yn, List.cons.injEq, V.str.injEq, V.int.injEq, V.bool.injEq, V.agg.injEq, V.list.injEq, and_true, true_and] at h
 have h0 := h
 replace h0 := Aw Coupon.inj h0
 subst h0
 rfl
def LB (x : List Charge) : List V := [.list (x.map Charge.enc) false]
theorem En (a b : List Charge) (h : LB a = LB b) : a = b := by
 simp only [LB, List.cons.injEq, V.str.injEq, V.int.injEq, V.bool.injEq, V.agg.injEq, V.list.injEq, and_true, true_and] at h
 have h0 := h
 replace h0 := Aw Charge.inj h0
 subst h0
 rfl
def fFc (l : List Coupon) : Prop × V := (l.length ≤ 1000, .list (l.map Coupon.enc) false)
theorem Dr (l : List Coupon) : gOf Yn fFc [.list (l.map Coupon.enc) false] = (l.length ≤ 1000, .list (l.map Coupon.enc) false) := Ar OH l
theorem Wq : PU 120 (gOf Yn fFc) := by
 have hG := AC
 refine Ae9.a OH (by simp [Yn]) ?_
 rintro l hv C hN Q hQ
 have Z := Ae9.R EF0 hG hN
 replace hv : l.length ≤ 1000 := hv
 have hmin : min (l.length : Int) 1024 = l.length := by omega
 have htk : ((l.map Coupon.enc).take ((l.length : Int)).toNat).drop (0 : Int).toNat = l.map Coupon.enc := by rw [Int.toNat_natCast, show (0 : Int).toNat = 0 from rfl, List.drop_zero, List.take_of_length_le (by rw [List.length_map]; exact Nat.le_refl _)]
 refine Aa (Z 0 rfl ?_)
 simp only [go_sem, simprocAttr, Yn]
 refine Aa (Z 1 rfl ?_)
 simp only [go_sem, simprocAttr, List.length_map, hmin, htk, Coupon.rows]
 and_intros <;> try exact sdA
 refine Ae (hQ _ _ (.inl rfl) ?_ ?_ ?_) <;> simp only [go_sem, simprocAttr, fFc]
 rw [List.take_of_length_le (by rw [List.length_map]; exact Nat.le_refl _)]
def fFh (l : List Charge) : Prop × V := (l.length ≤ 1000, .list (l.map Charge.enc) false)
theorem Cg (l : List Charge) : gOf LB fFh [.list (l.map Charge.enc) false] = (l.length ≤ 1000, .list (l.map Charge.enc) false) := Ar En l
theorem Wp : PU 65 (gOf LB fFh) := by
 have hG := AC
 refine AiV.a En (by simp [LB]) ?_
 rintro l hv C hN Q hQ
 have Z := AiV.R EF0 hG hN
 replace hv : l.length ≤ 1000 := hv
 have hmin : min (l.length : Int) 1024 = l.length := by omega
 have htk : ((l.map Charge.enc).take ((l.length : Int)).toNat).drop (0 : Int).toNat = l.map Charge.enc := by rw [Int.toNat_natCast, show (0 : Int).toNat = 0 from rfl, List.drop_zero, List.take_of_length_le (by rw [List.length_map]; exact Nat.le_refl _)]
 refine Aa (Z 0 rfl ?_)
 simp only [go_sem, simprocAttr, LB]
 refine Aa (Z 1 rfl ?_)
 simp only [go_sem, simprocAttr, List.length_map, hmin, htk, Charge.rows]
 and_intros <;> try exact sdA
 refine Ae (hQ _ _ (.inl rfl) ?_ ?_ ?_) <;> simp only [go_sem, simprocAttr, fFh]
 rw [List.take_of_length_le (by rw [List.length_map]; exact Nat.le_refl _)]
def Adg : List UInt8 := [99, 111, 117, 112, 111, 110, 115]
def ZZ : List UInt8 := [99, 111, 117, 112, 111, 110, 115, 46]
def kdB (c : Coupon) : Bool := decide (c.status < 1) || decide (8 < c.status)
def cF (i : Nat) (c : Coupon) : List Fault := fIf (kdB c) 8 (ZZ ++ dec i) ++ fIf (!DY c.want.cls) 16 (ZZ ++ dec i) ++ fIf (!Ek c.value) 11 (ZZ ++ dec i)
def cTo (l : List Coupon) : Nat → List Fault
 | 0 => []
 | i + 1 => cTo l i ++ cF i (l.getD i Coupon.zero)
def cSz (l : List Coupon) : Bool := decide ((l.length : Int) < 1) || decide (6 < (l.length : Int))
def Abc (l : List Coupon) : List Fault := fIf (cSz l) 4 Adg ++ cTo l l.length
def WT (l : List Coupon) : Nat → Int
 | 0 => 0
 | i + 1 => if Ek (l.getD i Coupon.zero).value = true then WT l i + (l.getD i Coupon.zero).value else WT l i
def cRt (l : List Coupon) : Nat → Bool
 | 0 => true
 | i + 1 => cRt l i && Ek (l.getD i Coupon.zero).value
theorem Dq (b : Bool) (e : Int) (p : List UInt8) : (fIf b e p).length ≤ 1 := by unfold fIf; split <;> simp
theorem AfL (i : Nat) (c : Coupon) : (cF i c).length ≤ 3 := by
 unfold cF
 have a1 := Dq (kdB c) 8 (ZZ ++ dec i)
 have a2 := Dq (!DY c.want.cls) 16 (ZZ ++ dec i)
 have a3 := Dq (!Ek c.value) 11 (ZZ ++ dec i)
 simp only [List.length_append]; omega
theorem Tl (l : List Coupon) : ∀ i, (cTo l i).length ≤ 3 * i
 | 0 => Nat.le_refl _
 | i + 1 => by have := Tl l i; have := AfL i (l.getD i Coupon.zero); rw [cTo, List.length_append]; omega
theorem AA (n : Int) : Agf [.int .i64 n] = (inI n, .str (dec n)) := rfl
theorem Cp (s : List UInt8) : GC [.str s] = (s.length ≤ 140737488355328, .bool (DY s)) := rfl
def EFf : Nat → Bool := fun f => f == 59
def Ka : Tab
 | 120 => (gOf Yn fFc)
 | 66 => Agf
 | 121 => GC
 | 64 => (gOf Eb Afq)
 | _ => gNo
theorem Zy : ∀ f, PU f (Ka f) := fun f => by
 unfold Ka
 split
 ·exact Wq
 ·exact XF
 ·exact Abj
 ·exact AfR
 exact Ao.no
theorem Ta (l : List Coupon) (g : List Fault) (hg : g.length ≤ 1000) (hl : l.length ≤ 1000) (hok : ∀ c ∈ l, c.ok) : Eff Tryz.prog UT 63 (.ptr 1000 0 :: [.list (l.map Coupon.enc) false]) (fbO 1000 1001 g) (.tup [.int .i64 (WT l l.length), .bool (cRt l l.length)]) (fbO 1000 1001 (g ++ Abc l)) := by
 have hG := Zy
 obtain ⟨R, hR⟩ : ∃ R, R = g ++ Abc l := ⟨_, rfl⟩
 rw [← hR]
 obtain ⟨g1, hg1⟩ : ∃ g1, g1 = g ++ fIf (cSz l) 4 Adg := ⟨_, rfl⟩
 have hg1l : g1.length ≤ 1001 := by rw [hg1, List.length_append]; have := Dq (cSz l) 4 Adg; omega
 refine AiX.e (by simp) fun C hN Q hQ => ?_
 have Z := AiX.R EFf hG hN
 refine Aa (Z 0 rfl ?_)
 simp only [go_sem, simprocAttr, Ka, EFf, fbO, Dr, AA, Cp, AD]
 refine Aa (Z 1 rfl ?_)
 simp only [go_sem, simprocAttr, List.length_map, Ka, EFf, fbO, Dr, AA, Cp, AD]
 refine Cm (g := g) (b := cSz l) (e := 4) (pos := Adg) (by omega) rfl rfl (by decide) ?_
 simp only [go_sem, simprocAttr, fbO]
 rw [← hg1]
 refine Aa (Z 2 rfl ?_)
 simp only [go_sem, simprocAttr, Ka, EFf, fbO, Dr, AA, Cp, AD]
 refine Aa (Aa (Z 3 rfl ?_))
 simp only [go_sem, simprocAttr, hl, List.length_map, Ka, EFf, fbO, Dr, AA, Cp, AD]
 and_intros <;> try exact sdA
 refine Ad ?_
 refine Aj (α := Nat × (List Fault) × Int × Bool) (fun γ => (γ.1 ≤ l.length) ∧ (γ.2.1 = g1 ++ cTo l γ.1) ∧ (γ.2.1.length ≤ g1.length + 3 * γ.1) ∧ (γ.2.2.1 = WT l γ.1) ∧ (γ.2.2.2 = cRt l γ.1) ∧ (0 ≤ γ.2.2.1 ∧ γ.2.2.1 ≤ 1099511627776 * (γ.1 : Int))) (fun γ => ⟨mkE [(0, V.ptr 1000 0), (6, .int .i64 γ.2.2.1), (7, .bool γ.2.2.2), (22, V.list (List.map Coupon.enc l) false), (23, V.int IntKind.i64 ↑l.length), (24, .int .i64 γ.1)], mkH [(1000, .box 121 [.own 1001 γ.2.1.length]), (1001, .arr 126 2 (An γ.2.1))]⟩) (fun γ => l.length - γ.1) (0, g1, 0, true) ⟨Nat.zero_le _, by simp [cTo], Nat.le_refl _, rfl, rfl, Int.le_refl 0, Int.le_refl 0⟩ ?_ ?_
 ·refine Le.mk _ _ ?_ ?_ rfl <;> simp only [go_sem, simprocAttr, ← hg1] <;> and_intros <;> try exact leA
 rintro ⟨i, f, n, r⟩ ⟨hi, hf, hfl, hn, hr, hnb⟩ KL0 hKL0
 try dsimp only at *
 refine Aa (Z 4 rfl ?_)
 simp only [go_sem, simprocAttr, Ka, EFf, fbO, Dr, AA, Cp, AD]
 refine Aa ?_
 refine Ab rfl (fun hc4 => ?_) fun hc4 => ?_
 ·simp only [hcL] at hc4
  obtain ⟨c, hcc⟩ : ∃ c, c = l[i] := ⟨_, rfl⟩
  have hco : c.ok := hcc ▸ hok _ (List.getElem_mem hc4)
  have hcl : c.want.cls.length ≤ 140737488355328 := hco.1.2
  have hgd : l.getD i Coupon.zero = c := by rw [List.getD_eq_getElem?_getD, List.getElem?_eq_getElem hc4, hcc]; rfl
  have hst : cTo l (i + 1) = cTo l i ++ cF i c := by rw [cTo, hgd]
  have hss : WT l (i + 1) = if Ek c.value = true then n + c.value else n := by rw [WT, hgd, hn]
  have hsr : cRt l (i + 1) = (r && Ek c.value) := by rw [cRt, hgd, hr]
  have hdl := CB (i := i) (by omega)
  have hii : inI (i : Int) := ⟨by omega, by omega⟩
  refine Ac ?_
  refine Aa (Ad ?_)
  refine Aa (Z 5 rfl ?_)
  simp only [go_sem, simprocAttr, Af _ _ _ _ hc4, hc4, Coupon.enc, ← hcc, List.length_map, Ka, EFf, fbO, Dr, AA, Cp, AD]
  and_intros <;> try exact sdA
  refine Aa (Z 6 rfl ?_)
  simp only [go_sem, simprocAttr, inI, hii, Ka, EFf, fbO, Dr, AA, Cp, AD]
  and_intros <;> (try first | exact sdA | (simp only [List.length_append, List.length_cons, List.length_nil]; omega))
  obtain ⟨pos, hpos⟩ : ∃ pos, pos = ZZ ++ dec i := ⟨_, rfl⟩
  have hpos2 : 99 :: 111 :: 117 :: 112 :: 111 :: 110 :: 115 :: 46 :: dec (i : Int) = pos := hpos.symm
  have a1 := Dq (kdB c) 8 pos
  have a2 := Dq (!DY c.want.cls) 16 pos
  have a3 := Dq (!Ek c.value) 11 pos
  refine Aa (Z 7 rfl ?_)
  simp only [go_sem, simprocAttr, hpos2, Ka, EFf, fbO, Dr, AA, Cp, AD]
  refine Cm (g := f) (b := kdB c) (e := 8) (pos := pos) (by omega) rfl rfl (by decide) ?_
  simp only [go_sem, simprocAttr, fbO]
  obtain ⟨f1, hf1⟩ : ∃ f1, f1 = f ++ fIf (kdB c) 8 pos := ⟨_, rfl⟩
  have hf1l : f1.length ≤ f.length + 1 := by rw [hf1, List.length_append]; omega
  rw [← hf1]
  refine Aa (Z 8 rfl ?_)
  simp only [go_sem, simprocAttr, hcl, Ka, EFf, fbO, Dr, AA, Cp, AD]
  refine Cm (g := f1) (b := !DY c.want.cls) (e := 16) (pos := pos) (by omega) rfl rfl (by decide) ?_
  simp only [go_sem, simprocAttr, fbO]
  obtain ⟨f2, hf2⟩ : ∃ f2, f2 = f1 ++ fIf (!DY c.want.cls) 16 pos := ⟨_, rfl⟩
  have hf2l : f2.length ≤ f1.length + 1 := by rw [hf2, List.length_append]; omega
  rw [← hf2]
  refine Aa (Aa (Z 9 rfl ?_))
  simp only [go_sem, simprocAttr, Ka, EFf, fbO, Dr, AA, Cp, AD]
  refine Cm (g := f2) (b := !Ek c.value) (e := 11) (pos := pos) (by omega) rfl rfl (by decide) ?_
  simp only [go_sem, simprocAttr, fbO]
  obtain ⟨f3, hf3⟩ : ∃ f3, f3 = f2 ++ fIf (!Ek c.value) 11 pos := ⟨_, rfl⟩
  have hf3l : f3.length ≤ f2.length + 1 := by rw [hf3, List.length_append]; omega
  rw [← hf3]
  have hfin : f3 = g1 ++ cTo l (i + 1) := by rw [hst, hf3, hf2, hf1, hf, hpos, cF]; simp only [List.append_assoc]
  refine Ab rfl (fun hb9 => ?_) fun hb9 => ?_
  ·have hab : Ek c.value = false := by simpa using hb9
   refine Aa (Z 10 rfl ?_)
   simp only [go_sem, simprocAttr, Ka, EFf, fbO, Dr, AA, Cp, AD]
   refine Ai ?_
   simp only [go_sem, simprocAttr]
   refine Z 12 rfl ?_
   simp only [go_sem, simprocAttr, inI, Ka, EFf, fbO, Dr, AA, Cp, AD]
   and_intros <;> try exact sdA
   refine hKL0 (i + 1, f3, n, false) _ ?_ ?_ ?_
   ·(try dsimp only); exact ⟨hc4, hfin, by omega, by rw [hss, if_neg (by rw [hab]; decide)], by rw [hsr, hab, Bool.and_false], by omega, by omega⟩
   ·(try dsimp only); omega
   exact leM
  have hab : Ek c.value = true := by simpa using hb9
  have hvb := Oy hab
  refine Ac ?_
  refine Z 11 rfl ?_
  simp only [go_sem, simprocAttr, inI, Ka, EFf, fbO, Dr, AA, Cp, AD]
  and_intros <;> try exact sdA
  refine Z 12 rfl ?_
  simp only [go_sem, simprocAttr, inI, Ka, EFf, fbO, Dr, AA, Cp, AD]
  and_intros <;> try exact sdA
  refine hKL0 (i + 1, f3, n + c.value, r) _ ?_ ?_ ?_
  ·(try dsimp only); exact ⟨hc4, hfin, by omega, by rw [hss, if_pos hab], by rw [hsr, hab, Bool.and_true], by omega, by omega⟩
  ·(try dsimp only); omega
  exact leM
 simp only [hcL] at hc4
 obtain rfl : i = l.length := by omega
 have hRf : R = f := by rw [hR, hf, hg1, Abc, List.append_assoc]
 subst hRf
 refine Ai ?_
 simp only [go_sem, simprocAttr]
 refine Aa (Z 13 rfl ?_)
 simp only [go_sem, simprocAttr, Ka, EFf, fbO, Dr, AA, Cp, AD]
 refine Ae ?_
 show Q _ _
 refine hQ _ _ ⟨mkE [(4, .int .i64 n), (5, .bool r)], mkH (fbO 1000 1001 R)⟩ (.inl rfl) (Le.mk _ _ ?_ ?_ rfl) rfl ?_ ?_ <;> simp only [go_sem, simprocAttr, fbO, hn, hr]
theorem Abd {d : Option Nat} {s : St} {K : St → Prop} {nb na : Nat} {g : List Fault} {l : List Coupon} (hg : g.length ≤ 1000) (hl : l.length ≤ 1000) (hok : ∀ c ∈ l, c.ok)
  (hb : s.h nb = some (.box 121 [.own na g.length])) (ha : s.h na = some (.arr 126 2 (An g))) (hne : nb ≠ na)
  (hK : K ⟨Ew d (.tup [.int .i64 (WT l l.length), .bool (cRt l l.length)]) s.e, hov (fbO nb na (g ++ Abc l)) s.h⟩) : CQ Tryz.prog UT d 63 [.ptr nb 0, .list (l.map Coupon.enc) false] s K :=
 XH (Ta l g hg hl hok) (fun σ => by simp [V.rens, V.ren]) (fun D => by simp [V.nins, V.nin]) (fun σ => by simp [V.ren, V.rens]) (fun D => by simp [V.nin, V.nins]) hb ha hne hK
def AgF : List UInt8 := [110, 117, 109, 98, 101, 114]
def Af5 : List UInt8 := [108, 111, 99, 97, 116, 111, 114]
def Af2 : List UInt8 := [112, 101, 114, 115, 111, 110]
def Vz : List UInt8 := [102, 97, 114, 101]
def Af0 : List UInt8 := [116, 97, 120, 101, 115, 46]
def AfZ : List UInt8 := [116, 111, 116, 97, 108]
def AgG : List UInt8 := [105, 115, 115, 117, 101, 100]
def Agc (p : Person) : Bool := !Md p.last || !Md p.first || !Dt p.type 3 3
def tTo (l : List Charge) : Nat → List Fault
 | 0 => []
 | i + 1 => tTo l i ++ fIf (!Ek (l.getD i Charge.zero).amount) 11 (Af0 ++ dec i)
def OO (l : List Charge) : Nat → Int
 | 0 => 0
 | i + 1 => if Ek (l.getD i Charge.zero).amount = true then OO l i + (l.getD i Charge.zero).amount else OO l i
def tRt (l : List Charge) : Nat → Bool
 | 0 => true
 | i + 1 => tRt l i && Ek (l.getD i Charge.zero).amount
def AbZ (t : Ticket) : Bool := Ek t.fare && cRt t.coupons t.coupons.length && !decide (WT t.coupons t.coupons.length = t.fare)
def Agx (t : Ticket) : Bool := Ek t.fare && tRt t.taxes t.taxes.length && !decide (t.fare + OO t.taxes t.taxes.length = t.total)
def Ab3 (t : Ticket) : List Fault := fIf (!Cs t.number) 2 AgF ++ fIf (!Mf t.locator) 5 Af5 ++ fIf (Agc t.person) 5 Af2 ++ Abc t.coupons ++ fIf (!Ek t.fare) 11 Vz ++ fIf (AbZ t) 36 Vz ++ tTo t.taxes t.taxes.length ++ fIf (Agx t) 36 AfZ ++ fIf (!MA t.issued) 12 AgG
def Yt (t : Ticket) : Prop := t.ok ∧ t.coupons.length ≤ 100 ∧ t.taxes.length ≤ 100
def aTk (x : Ticket) : List V := [.agg x.enc]
theorem Tx (a b : Ticket) (h : aTk a = aTk b) : a = b := by
 simp only [aTk, List.cons.injEq, V.str.injEq, V.int.injEq, V.bool.injEq, V.agg.injEq, V.list.injEq, and_true, true_and] at h
 have h0 := h
 replace h0 := Ticket.inj _ _ h0
 subst h0
 rfl
def Agl (t : Ticket) : Prop × V := (Yt t, .list (An (Ab3 t)) false)
theorem Qm (l : List Charge) : ∀ i, 0 ≤ OO l i ∧ OO l i ≤ 1099511627776 * (i : Int)
 | 0 => by simp [OO]
 | i + 1 => by
  have ih := Qm l i
  rw [OO]
  split
  ·rename_i h; have := Oy h; omega
  ·omega
theorem Agu {n : Int} (h : inI n) : wr n = n := by
 unfold wr inI at *
 rw [IntKind.wrap_i64]; omega
def Ay (t : Ticket) : List V := [.int .i64 t.number, .str t.locator, .str t.person.last, .str t.person.first, .str t.person.type, .list (t.coupons.map Coupon.enc) false, .int .i64 t.fare, .list (t.taxes.map Charge.enc) false, .int .i64 t.total, .int .i64 t.issued]
def EFc : Nat → Bool := fun f => f == 59 || f == 63
def tCh : Tab
 | 34 => (gOf Eb Ww)
 | 60 => (gOf Ey fLc)
 | 61 => (gOf Ey Pv)
 | 62 => BS
 | 64 => (gOf Eb Afq)
 | 65 => (gOf LB fFh)
 | 66 => Agf
 | 35 => (gOf Eb fDy)
 | _ => gNo
theorem Ac1 : ∀ f, PU f (tCh f) := fun f => by
 unfold tCh
 split
 ·exact Nr
 ·exact VZ
 ·exact AdR
 ·exact AfG
 ·exact AfR
 ·exact Wp
 ·exact XF
 ·exact Afu
 ·exact Ao.no
theorem Abl : PU 24 (gOf aTk Agl) := by
 have hG := Ac1
 refine Aji.a Tx (by simp [aTk]) ?_
 rintro t hv C hN Q hQ
 have Z := Aji.R EFc hG hN
 obtain ⟨hok, hcl, htl⟩ : Yt t := hv
 have hoc := hok.2.2.2.1
 have hnum : inI t.number := hok.1
 have hloc : t.locator.length ≤ 140737488355328 := hok.2.1
 obtain ⟨hp1, hp2, hp3⟩ : t.person.last.length ≤ 140737488355328 ∧ t.person.first.length ≤ 140737488355328 ∧ t.person.type.length ≤ 140737488355328 := hok.2.2.1
 refine Aa (Z 0 rfl ?_)
 simp only [go_sem, simprocAttr, aTk, Ticket.enc, tCh, EFc, At, Cf, Bd, Ap, AD, Cg, AA, AZ, imp_self, and_true, true_and]
 refine Aa (Z 1 rfl ?_)
 simp only [go_sem, simprocAttr, tCh, EFc, At, Cf, Bd, Ap, AD, Cg, AA, AZ, imp_self, and_true, true_and]
 refine AW.le (s' := ⟨mkE [(1, .ptr 1 0), (3, .ptr 11 0)], mkH ([(1, .box 47 (Ay t)), (11, .box 121 [.own 999 0]), (999, .arr 126 2 (An []))])⟩) (Le.mk _ _ (by (simp only [go_sem, simprocAttr, Ay]) <;> and_intros <;> try exact leB) (by (simp only [go_sem, simprocAttr, Ay]) <;> and_intros <;> try exact leB) rfl) ?_
 simp only [Ay]
 refine Aa (Z 2 rfl ?_)
 simp only [go_sem, simprocAttr, hnum, tCh, EFc, At, Cf, Bd, Ap, AD, Cg, AA, AZ, imp_self, and_true, true_and]
 refine Cm (g := []) (b := !Cs t.number) (e := 2) (pos := AgF) (by simp) rfl rfl (by decide) ?_
 simp only [go_sem, simprocAttr, fbO]
 obtain ⟨g1, hg1⟩ : ∃ g1, g1 = fIf (!Cs t.number) 2 AgF := ⟨_, rfl⟩
 have hl1 : g1.length ≤ 1 := by rw [hg1]; exact Dq _ _ _
 rw [← hg1]
 refine Aa (Z 3 rfl ?_)
 simp only [go_sem, simprocAttr, hloc, tCh, EFc, At, Cf, Bd, Ap, AD, Cg, AA, AZ, imp_self, and_true, true_and]
 refine Cm (g := g1) (b := !Mf t.locator) (e := 5) (pos := Af5) (by omega) rfl rfl (by decide) ?_
 simp only [go_sem, simprocAttr, fbO]
 obtain ⟨g2, hg2⟩ : ∃ g2, g2 = g1 ++ fIf (!Mf t.locator) 5 Af5 := ⟨_, rfl⟩
 have hl2 : g2.length ≤ 2 := by have := Dq (!Mf t.locator) 5 Af5; rw [hg2, List.length_append]; omega
 rw [← hg2]
 refine Aa (Z 4 rfl ?_)
 simp only [go_sem, simprocAttr, hp1, hp2, hp3, tCh, EFc, At, Cf, Bd, Ap, AD, Cg, AA, AZ, imp_self, and_true, true_and]
 refine Cm (g := g2) (b := Agc t.person) (e := 5) (pos := Af2) (by omega) rfl rfl (by decide) ?_
 simp only [go_sem, simprocAttr, fbO]
 obtain ⟨g3, hg3⟩ : ∃ g3, g3 = g2 ++ fIf (Agc t.person) 5 Af2 := ⟨_, rfl⟩
 have hl3 : g3.length ≤ 3 := by have := Dq (Agc t.person) 5 Af2; rw [hg3, List.length_append]; omega
 rw [← hg3]
 refine Aa (Z 5 rfl ?_)
 simp only [go_sem, simprocAttr, tCh, EFc, At, Cf, Bd, Ap, AD, Cg, AA, AZ, imp_self, and_true, true_and]
 refine Abd (g := g3) (l := t.coupons) (by omega) (by omega) hoc.2 rfl rfl (by decide) ?_
 simp only [go_sem, simprocAttr, fbO]
 obtain ⟨g4, hg4⟩ : ∃ g4, g4 = g3 ++ Abc t.coupons := ⟨_, rfl⟩
 have hl4 : g4.length ≤ 400 := by have h1 := Dq (cSz t.coupons) 4 Adg; have h2 := Tl t.coupons t.coupons.length; rw [hg4, List.length_append, Abc, List.length_append]; omega
 rw [← hg4]
 obtain ⟨n, hn⟩ : ∃ n, n = WT t.coupons t.coupons.length := ⟨_, rfl⟩
 obtain ⟨r, hr⟩ : ∃ r, r = cRt t.coupons t.coupons.length := ⟨_, rfl⟩
 rw [← hn, ← hr]
 obtain ⟨g5, hg5⟩ : ∃ g5, g5 = g4 ++ fIf (!Ek t.fare) 11 Vz := ⟨_, rfl⟩
 have hl5 : g5.length ≤ 401 := by have := Dq (!Ek t.fare) 11 Vz; rw [hg5, List.length_append]; omega
 refine Aa (Z 6 rfl ?_)
 simp only [go_sem, simprocAttr, tCh, EFc, At, Cf, Bd, Ap, AD, Cg, AA, AZ, imp_self, and_true, true_and]
 refine BD (α := (List Fault) × Bool) (fun γ => (γ.1 = g5 ++ fIf (AbZ t) 36 Vz) ∧ (γ.2 = Ek t.fare) ∧ (γ.1.length ≤ 402)) (fun γ => ⟨mkE [(1, V.ptr 1 0), (3, V.ptr 11 0), (6, .bool γ.2)], mkH [(1, Ob.box 47 [V.int IntKind.i64 t.number, V.str t.locator, V.str t.person.last, V.str t.person.first, V.str t.person.type, V.list (List.map Coupon.enc t.coupons) false, V.int IntKind.i64 t.fare, V.list (List.map Charge.enc t.taxes) false, V.int IntKind.i64 t.total, V.int IntKind.i64 t.issued]), (11, .box 121 [.own 999 γ.1.length]), (999, .arr 126 2 (An γ.1))]⟩) ?_ ?_
 ·intro KC7 hKC7
  refine Aa (Z 7 rfl ?_)
  simp only [go_sem, simprocAttr, tCh, EFc, At, Cf, Bd, Ap, AD, Cg, AA, AZ, imp_self, and_true, true_and]
  refine Cm (g := g4) (b := !Ek t.fare) (e := 11) (pos := Vz) (by omega) rfl rfl (by decide) ?_
  simp only [go_sem, simprocAttr, fbO]
  rw [← hg5]
  refine Ab rfl (fun hb7 => ?_) fun hb7 => ?_
  ·have hab : Ek t.fare = false := by simpa using hb7
   have hfb : AbZ t = false := by unfold AbZ; rw [hab]; rfl
   refine Z 8 rfl ?_
   simp only [go_sem, simprocAttr, tCh, EFc, At, Cf, Bd, Ap, AD, Cg, AA, AZ, imp_self, and_true, true_and]
   refine hKC7 (g5, false) _ ?_ ?_
   ·(try dsimp only); exact ⟨by rw [Dy hfb, List.append_nil], hab.symm, by omega⟩
   exact leM
  have hab : Ek t.fare = true := by simpa using hb7
  have hfb : AbZ t = (r && !decide (n = t.fare)) := by unfold AbZ; rw [hab, Bool.true_and, hn, hr]
  refine Z 9 rfl ?_
  simp only [go_sem, simprocAttr, tCh, EFc, At, Cf, Bd, Ap, AD, Cg, AA, AZ, imp_self, and_true, true_and]
  refine Cm (g := g5) (b := r && !decide (n = t.fare)) (e := 36) (pos := Vz) (by omega) rfl rfl (by decide) ?_
  simp only [go_sem, simprocAttr, fbO]
  refine hKC7 (g5 ++ fIf (r && !decide (n = t.fare)) 36 Vz, true) _ ?_ ?_
  ·(try dsimp only); exact ⟨by rw [hfb], hab.symm, by have := Dq (r && !decide (n = t.fare)) 36 Vz; rw [List.length_append]; omega⟩
  exact leM
 rintro ⟨g6, w⟩ ⟨hg6, hw, hl6⟩
 try dsimp only at *
 have hnb : inI t.fare := hok.2.2.2.2.1
 refine Aa (Z 10 rfl ?_)
 simp only [go_sem, simprocAttr, tCh, EFc, At, Cf, Bd, Ap, AD, Cg, AA, AZ, imp_self, and_true, true_and]
 refine Aa (Aa (Z 11 rfl ?_))
 simp only [go_sem, simprocAttr, (show t.taxes.length ≤ 1000 by omega), List.length_map, tCh, EFc, At, Cf, Bd, Ap, AD, Cg, AA, AZ, imp_self, and_true, true_and]
 and_intros <;> try exact sdA
 refine Ad ?_
 refine Aj (α := Nat × (List Fault) × Bool × Int) (fun γ => (γ.1 ≤ t.taxes.length) ∧ (γ.2.1 = g6 ++ tTo t.taxes γ.1) ∧ (γ.2.1.length ≤ g6.length + γ.1) ∧ (γ.2.2.1 = and (Ek t.fare) (tRt t.taxes γ.1)) ∧ ((Ek t.fare = true → γ.2.2.2 = t.fare + OO t.taxes γ.1))) (fun γ => ⟨mkE [(1, V.ptr 1 0), (3, V.ptr 11 0), (6, .bool γ.2.2.1), (7, .int .i64 γ.2.2.2), (71, V.list (List.map Charge.enc t.taxes) false), (72, V.int IntKind.i64 ↑t.taxes.length), (73, .int .i64 γ.1)], mkH [(1, Ob.box 47 [V.int IntKind.i64 t.number, V.str t.locator, V.str t.person.last, V.str t.person.first, V.str t.person.type, V.list (List.map Coupon.enc t.coupons) false, V.int IntKind.i64 t.fare, V.list (List.map Charge.enc t.taxes) false, V.int IntKind.i64 t.total, V.int IntKind.i64 t.issued]), (11, .box 121 [.own 999 γ.2.1.length]), (999, .arr 126 2 (An γ.2.1))]⟩) (fun γ => t.taxes.length - γ.1) (0, g6, w, t.fare) ⟨Nat.zero_le _, by simp [tTo], Nat.le_refl _, by rw [hw, tRt, Bool.and_true], fun _ => by simp [OO]⟩ ?_ ?_
 ·exact leM
 rintro ⟨i, f, w2, sm⟩ ⟨hi, hf, hfl, hw2, hsm⟩ KL0 hKL0
 try dsimp only at *
 refine Aa (Z 12 rfl ?_)
 simp only [go_sem, simprocAttr, tCh, EFc, At, Cf, Bd, Ap, AD, Cg, AA, AZ, imp_self, and_true, true_and]
 refine Aa ?_
 refine Ab rfl (fun hc12 => ?_) fun hc12 => ?_
 ·simp only [hcL] at hc12
  obtain ⟨x, hxx⟩ : ∃ x, x = t.taxes[i] := ⟨_, rfl⟩
  have hgd : t.taxes.getD i Charge.zero = x := by rw [List.getD_eq_getElem?_getD, List.getElem?_eq_getElem hc12, hxx]; rfl
  have hst : tTo t.taxes (i + 1) = tTo t.taxes i ++ fIf (!Ek x.amount) 11 (Af0 ++ dec i) := by rw [tTo, hgd]
  have hss : OO t.taxes (i + 1) = if Ek x.amount = true then OO t.taxes i + x.amount else OO t.taxes i := by rw [OO, hgd]
  have hsr : tRt t.taxes (i + 1) = (tRt t.taxes i && Ek x.amount) := by rw [tRt, hgd]
  have hdl := CB (i := i) (by omega)
  have hii : inI (i : Int) := ⟨by omega, by omega⟩
  have htb := Qm t.taxes i
  refine Ac ?_
  refine Aa (Ad ?_)
  refine Aa (Z 13 rfl ?_)
  simp only [go_sem, simprocAttr, Af _ _ _ _ hc12, hc12, Charge.enc, ← hxx, List.length_map, tCh, EFc, At, Cf, Bd, Ap, AD, Cg, AA, AZ, imp_self, and_true, true_and]
  and_intros <;> try exact sdA
  refine Aa ?_
  obtain ⟨pos, hpos⟩ : ∃ pos, pos = Af0 ++ dec i := ⟨_, rfl⟩
  have hpos2 : 116 :: 97 :: 120 :: 101 :: 115 :: 46 :: dec (i : Int) = pos := hpos.symm
  have hposl : pos.length ≤ 27 := by rw [hpos, List.length_append]; have : Af0.length = 6 := rfl; omega
  refine Aa (Z 14 rfl ?_)
  simp only [go_sem, simprocAttr, inI, hii, hpos2, tCh, EFc, At, Cf, Bd, Ap, AD, Cg, AA, AZ, imp_self, and_true, true_and]
  refine ⟨hii, by omega, ?_⟩
  refine Cm (g := f) (b := !Ek x.amount) (e := 11) (pos := pos) (by omega) rfl rfl (by decide) ?_
  simp only [go_sem, simprocAttr, fbO]
  obtain ⟨f1, hf1⟩ : ∃ f1, f1 = f ++ fIf (!Ek x.amount) 11 pos := ⟨_, rfl⟩
  have hf1l : f1.length ≤ f.length + 1 := by have := Dq (!Ek x.amount) 11 pos; rw [hf1, List.length_append]; omega
  rw [← hf1]
  have hfin : f1 = g6 ++ tTo t.taxes (i + 1) := by rw [hst, hf1, hf, hpos, List.append_assoc]
  refine Ab rfl (fun hb14 => ?_) fun hb14 => ?_
  ·have hab : Ek x.amount = false := by simpa using hb14
   refine Aa (Z 15 rfl ?_)
   simp only [go_sem, simprocAttr, tCh, EFc, At, Cf, Bd, Ap, AD, Cg, AA, AZ, imp_self, and_true, true_and]
   refine Ai ?_
   simp only [go_sem, simprocAttr]
   refine Z 17 rfl ?_
   simp only [go_sem, simprocAttr, inI, tCh, EFc, At, Cf, Bd, Ap, AD, Cg, AA, AZ, imp_self, and_true, true_and]
   and_intros <;> try exact sdA
   refine hKL0 (i + 1, f1, false, sm) _ ?_ ?_ ?_
   ·(try dsimp only); exact ⟨hc12, hfin, by omega, by rw [hsr, hab, Bool.and_false, Bool.and_false], fun h => by rw [hss, if_neg (by rw [hab]; decide)]; exact hsm h⟩
   ·(try dsimp only); omega
   exact leM
  have hab : Ek x.amount = true := by simpa using hb14
  have hvb := Oy hab
  refine Ac ?_
  refine DZ (EF := EFc) hG (by rw [hN]; exact YW) ?_
  simp only [Yo, go_sem, simprocAttr, inI, tCh, EFc, At, Cf, Bd, Ap, AD, Cg, AA, AZ, imp_self, and_true, true_and]
  and_intros <;> try exact sdA
  refine Z 17 rfl ?_
  simp only [go_sem, simprocAttr, inI, tCh, EFc, At, Cf, Bd, Ap, AD, Cg, AA, AZ, imp_self, and_true, true_and]
  and_intros <;> try exact sdA
  refine hKL0 (i + 1, f1, w2, wr (sm + x.amount)) _ ?_ ?_ ?_
  ·(try dsimp only); exact ⟨hc12, hfin, by omega, by rw [hsr, hab, Bool.and_true]; exact hw2, fun h => by have h1 := Oy h; rw [hss, if_pos hab, hsm h, Agu (by unfold inI; omega)]; omega⟩
  ·(try dsimp only); omega
  exact leM
 simp only [hcL] at hc12
 obtain rfl : i = t.taxes.length := by omega
 have htb2 : Agx t = (w2 && !decide (sm = t.total)) := by (unfold Agx; rw [← hw2]; cases h : w2 with | false => rfl | true => (rw [h] at hw2; have ha : Ek t.fare = true := (by have h3 := hw2.symm; rw [Bool.and_eq_true] at h3; exact h3.1); rw [hsm ha]))
 refine Ai ?_
 simp only [go_sem, simprocAttr]
 refine Aa (Z 18 rfl ?_)
 simp only [go_sem, simprocAttr, tCh, EFc, At, Cf, Bd, Ap, AD, Cg, AA, AZ, imp_self, and_true, true_and]
 refine Cm (g := f) (b := w2 && !decide (sm = t.total)) (e := 36) (pos := AfZ) (by omega) rfl rfl (by decide) ?_
 simp only [go_sem, simprocAttr, fbO]
 obtain ⟨f2, hf2⟩ : ∃ f2, f2 = f ++ fIf (w2 && !decide (sm = t.total)) 36 AfZ := ⟨_, rfl⟩
 have hf2l : f2.length ≤ f.length + 1 := by have := Dq (w2 && !decide (sm = t.total)) 36 AfZ; rw [hf2, List.length_append]; omega
 rw [← hf2]
 refine Aa (Z 19 rfl ?_)
 simp only [go_sem, simprocAttr, tCh, EFc, At, Cf, Bd, Ap, AD, Cg, AA, AZ, imp_self, and_true, true_and]
 refine Cm (g := f2) (b := !MA t.issued) (e := 12) (pos := AgG) (by omega) rfl rfl (by decide) ?_
 simp only [go_sem, simprocAttr, fbO]
 obtain ⟨f3, hf3⟩ : ∃ f3, f3 = f2 ++ fIf (!MA t.issued) 12 AgG := ⟨_, rfl⟩
 rw [← hf3]
 have hend : f3 = Ab3 t := by rw [hf3, hf2, hf, hg6, hg5, hg4, hg3, hg2, hg1, ← htb2]; unfold Ab3; simp only [List.append_assoc]
 refine Aa (Z 20 rfl ?_)
 simp only [go_sem, simprocAttr, tCh, EFc, At, Cf, Bd, Ap, AD, Cg, AA, AZ, imp_self, and_true, true_and]
 refine AW.le (s' := ⟨mkE [(2, .list (An f3) false)], mkH []⟩) (Le.mk _ _ ?_ ?_ rfl) (Ae (hQ _ _ (.inl rfl) ?_ ?_ ?_)) <;> simp only [go_sem, simprocAttr, Agl, hend]
 exact Cq rfl (by rw [Bk]) rfl (Bq _)
theorem Abi (l : List Coupon) (h0 : l ≠ []) (hl : l.length ≤ 1000000) : Eff Tryz.prog UT 39 [.list (l.map Coupon.enc) false] [] (.own 5 l.length) [(5, .arr 57 11 (l.map Coupon.enc))] := by
 have hG := AC
 have hne : l.map Coupon.enc ≠ [] := fun e => h0 (List.map_eq_nil_iff.1 e)
 refine Aja.e (by simp) fun C hN Q hQ => ?_
 have Z := Aja.R EF0 hG hN
 refine Aa (Z 0 rfl ?_)
 simp only [go_sem, simprocAttr]
 refine Aa (Aa (Z 1 rfl ?_))
 simp only [go_sem, simprocAttr, hne]
 refine Be rfl ?_
 refine Ac ?_
 refine Aa (Z 3 rfl ?_)
 simp only [go_sem, simprocAttr]
 and_intros <;> try exact sdA
 refine Ae ?_
 show Q _ _
 refine hQ _ _ ⟨mkE [(2, .own 5 l.length)], mkH ([(5, .arr 57 11 (l.map Coupon.enc))])⟩ (.inl rfl) (Le.mk _ _ ?_ ?_ rfl) rfl ?_ ?_ <;> simp only [go_sem, simprocAttr, List.length_map]
theorem Tf {d : Option Nat} {s : St} {K : St → Prop} (nn : Nat) {l : List Coupon} (h0 : l ≠ []) (hl : l.length ≤ 1000000) (hn : s.h nn = none) (h1 : nn < 1000) (hK : K ⟨Ew d (.own nn l.length) s.e, hov [(nn, .arr 57 11 (l.map Coupon.enc))] s.h⟩) : CQ Tryz.prog UT d 39 [.list (l.map Coupon.enc) false] s K := by
 refine ⟨[], [(5, nn)], _, _, _, _, Abi l h0 hl, ⟨by simp [okL], rfl, rfl, by simp, ?_, by simp, by simp [V.rens, V.ren], by simp [V.nins, V.nin], by simp [V.nin], ?_, by simp⟩, ?_⟩
 ·intro p hp
  simp only [List.mem_cons, List.not_mem_nil, or_false] at hp
  subst hp; exact ⟨hn, h1⟩
 ·intro q hq
  simp only [List.mem_cons, List.not_mem_nil, or_false] at hq
  subst hq; simp only [Ob.nin, true_or, Coupon.purs]
 ·have e1 : (V.own 5 l.length).ren (rn ([] ++ [(5, nn)])) = .own nn l.length := by simp [V.ren, rn]
  have e2 : [((5, .arr 57 11 (l.map Coupon.enc)) : Nat × Ob)].map (fun q : Nat × Ob => (rn ([] ++ [(5, nn)]) q.1, q.2.ren (rn ([] ++ [(5, nn)])))) = [(nn, .arr 57 11 (l.map Coupon.enc))] := by simp [rn, Ob.ren, Al ((Coupon.purs _).2 trivial)]
  rw [e1, e2]; exact hK
theorem LD {h : Nat → Option Ob} {hl : List (Nat × Ob)} {n len : Nat} {rows R : List (List V)} {t : TypeId} {sz : Nat} (hn : h n = some (.arr t sz rows)) (hm : rows.length = len) (h' : mkH hl n = none) (hp : ∀ r ∈ rows, V.purs r = true) (hR : rows = R) : Wk h hl (.own n len) (.list R false) := by
 subst hm hR; exact .frz n t sz rows hn h' hp
def PM : List Coupon → Int
 | [] => 0
 | c :: l => if (DJ c.status).2 = 0 then PM l else (DJ c.status).2
def vUp (c : Coupon) : Coupon := ⟨c.want, c.basis, (DJ c.status).1, c.value⟩
theorem PZ {l : List Coupon} {i : Nat} (h : i < l.length) : PM (l.drop i) = if (DJ l[i].status).2 = 0 then PM (l.drop (i + 1)) else (DJ l[i].status).2 := by rw [List.drop_eq_getElem_cons h, PM]
def vTk (t : Ticket) (l : List Coupon) : Ticket := ⟨t.number, t.locator, t.person, l, t.fare, t.taxes, t.total, t.issued⟩
def FU (t : Ticket) (d : Int) : Ticket × Int := if t.coupons = [] then (Ticket.zero, 2) else if d ≠ t.issued then (Ticket.zero, 26) else if PM t.coupons = 0 then (vTk t (t.coupons.map vUp), 0) else (Ticket.zero, PM t.coupons)
def tkV (y : Ticket × Int) : V := .tup [.agg (Ay y.1), .int .i64 y.2]
def aVd (x : Ticket × Int) : List V := [.agg x.1.enc, .int .i64 x.2]
theorem MF (a b : Ticket × Int) (h : aVd a = aVd b) : a = b := by
 obtain ⟨a_t, a_i⟩ := a
 obtain ⟨b_t, b_i⟩ := b
 simp only [aVd, List.cons.injEq, V.str.injEq, V.int.injEq, V.bool.injEq, V.agg.injEq, V.list.injEq, and_true, true_and] at h
 obtain ⟨h0, h1⟩ := h
 replace h0 := Ticket.inj _ _ h0
 subst h0
 subst h1
 rfl
def fVd (x : Ticket × Int) : Prop × V := (Yt x.1, tkV (FU x.1 x.2))
def vG (l : List Coupon) (i : Nat) : List Coupon := (l.take i).map vUp ++ l.drop i
theorem JV (l : List Coupon) (i : Nat) : (vG l i).length = l.length := by unfold vG; simp; omega
theorem Acl {l : List Coupon} {i : Nat} (h : i < l.length) : (vG l i)[i]'(by rw [JV]; exact h) = l[i] := by
 unfold vG
 rw [List.getElem_append_right (by simp; omega)]
 simp [Nat.min_eq_left (Nat.le_of_lt h)]
theorem Acj {l : List Coupon} {i : Nat} (h : i < l.length) : (vG l i).set i (vUp l[i]) = vG l (i + 1) := by
 unfold vG
 have e : i - ((l.take i).map vUp).length = 0 := by simp; omega
 rw [List.set_append_right _ _ (by simp; omega), e, AI h, List.map_append, List.append_assoc, List.drop_eq_getElem_cons h]; rfl
theorem Acm (l : List Coupon) : vG l l.length = l.map vUp := by unfold vG; simp
theorem Ack {l : List Coupon} {i : Nat} (h : i < l.length) (r : List V) (hr : r = (vUp l[i]).enc) : ((vG l i).map Coupon.enc).set i r = (vG l (i + 1)).map Coupon.enc := by
 rw [hr, ← List.map_set, Acj h]
def EFv : Nat → Bool := fun f => f == 39
def tVd : Tab
 | 38 => (gOf CP fVn)
 | _ => gNo
theorem AcM : ∀ f, PU f (tVd f) := fun f => by
 unfold tVd
 split
 ·exact YG
 ·exact Ao.no
theorem Ach : PU 44 (gOf aVd fVd) := by
 have hG := AcM
 refine Ai8.a MF (by simp [aVd]) ?_
 rintro ⟨t, d⟩ hv C hN Q hQ
 have Z := Ai8.R EFv hG hN
 have hTk : Yt t := hv
 obtain ⟨hok, hcl, htl⟩ := id hTk
 refine Aa (Z 0 rfl ?_)
 simp only [go_sem, simprocAttr, aVd, Ticket.enc, tVd, EFv, Dp, Eu]
 refine Aa (Ad ?_)
 refine AW.le (s' := ⟨mkE [(1, .int .i64 d), (2, .ptr 2 0), (4, .ptr 4 0), (5, .int .i64 0)], mkH ([(2, .box 47 (Ay t)), (4, .box 47 (Ay Ticket.zero))])⟩) (Le.mk _ _ (by (simp only [go_sem, simprocAttr, Ay, Ticket.zero, Ticket.enc]) <;> and_intros <;> try exact leB) (by (simp only [go_sem, simprocAttr, Ay, Ticket.zero, Ticket.enc]) <;> and_intros <;> try exact leB) rfl) ?_
 simp only [Ay]
 refine Aa (Z 1 rfl ?_)
 simp only [go_sem, simprocAttr, List.length_map, tVd, EFv, Dp, Eu]
 refine Ab rfl (fun hb1 => ?_) fun hb1 => ?_
 ·have hm : FU t d = (Ticket.zero, 2) := by unfold FU; rw [if_pos (List.length_eq_zero_iff.1 (by simpa using hb1))]
  refine Aa (Z 2 rfl ?_)
  simp only [go_sem, simprocAttr, tVd, EFv, Dp, Eu]
  refine AW.le (s' := ⟨mkE [(4, .ptr 4 0), (5, .int .i64 2)], mkH [(4, .box 47 (Ay Ticket.zero))]⟩) (Le.mk _ _ ?_ ?_ rfl) (Ae (hQ _ _ (.inl rfl) ?_ ?_ ?_)) <;> simp only [go_sem, simprocAttr, Ay, Ticket.zero, Person.zero, fVd, tkV, hm]
 have hne : t.coupons ≠ [] := fun e => by simp [e] at hb1
 refine Aa (Z 3 rfl ?_)
 simp only [go_sem, simprocAttr, tVd, EFv, Dp, Eu]
 refine Ab rfl (fun hb3 => ?_) fun hb3 => ?_
 ·have hm : FU t d = (Ticket.zero, 26) := by unfold FU; rw [if_neg hne, if_pos (by simpa using hb3)]
  refine Aa (Z 4 rfl ?_)
  simp only [go_sem, simprocAttr, tVd, EFv, Dp, Eu]
  refine AW.le (s' := ⟨mkE [(4, .ptr 4 0), (5, .int .i64 26)], mkH [(4, .box 47 (Ay Ticket.zero))]⟩) (Le.mk _ _ ?_ ?_ rfl) (Ae (hQ _ _ (.inl rfl) ?_ ?_ ?_)) <;> simp only [go_sem, simprocAttr, Ay, Ticket.zero, Person.zero, fVd, tkV, hm]
 have hd : ¬ d ≠ t.issued := by simpa using hb3
 refine Ac ?_
 refine Aa (Z 5 rfl ?_)
 simp only [go_sem, simprocAttr, tVd, EFv, Dp, Eu]
 refine Tf 18 hne (by omega) rfl (by decide) ?_
 simp only [go_sem, simprocAttr]
 refine Aa (Aa (Z 6 rfl ?_))
 simp only [go_sem, simprocAttr, tVd, EFv, Dp, Eu]
 refine Ad ?_
 refine Aj (α := Nat) (fun i => (i ≤ t.coupons.length) ∧ (PM t.coupons = PM (t.coupons.drop i))) (fun i => ⟨mkE [(2, V.ptr 2 0), (4, V.ptr 4 0), (27, V.own 18 t.coupons.length), (28, V.int IntKind.i64 ↑t.coupons.length), (29, .int .i64 i)], mkH [(2, Ob.box 47 [V.int IntKind.i64 t.number, V.str t.locator, V.str t.person.last, V.str t.person.first, V.str t.person.type, V.own 18 t.coupons.length, V.int IntKind.i64 t.fare, V.list (List.map Charge.enc t.taxes) false, V.int IntKind.i64 t.total, V.int IntKind.i64 t.issued]), (4, Ob.box 47 [V.int IntKind.i64 Ticket.zero.number, V.str Ticket.zero.locator, V.str Ticket.zero.person.last, V.str Ticket.zero.person.first, V.str Ticket.zero.person.type, V.list (List.map Coupon.enc Ticket.zero.coupons) false, V.int IntKind.i64 Ticket.zero.fare, V.list (List.map Charge.enc Ticket.zero.taxes) false, V.int IntKind.i64 Ticket.zero.total, V.int IntKind.i64 Ticket.zero.issued]), (18, .arr 57 11 ((vG t.coupons i).map Coupon.enc))]⟩) (fun i => t.coupons.length - i) 0 ⟨Nat.zero_le _, rfl⟩ ?_ ?_
 ·refine Le.mk _ _ ?_ ?_ rfl <;> simp only [go_sem, simprocAttr, vG, List.take_zero, List.map_nil, List.nil_append, List.drop_zero] <;> and_intros <;> try exact leA
 rintro i ⟨hi, he⟩ KL1 hKL1
 try dsimp only at *
 refine Aa (Z 7 rfl ?_)
 simp only [go_sem, simprocAttr, tVd, EFv, Dp, Eu]
 refine Aa ?_
 refine Ab rfl (fun hb7 => ?_) fun hb7 => ?_
 ·have hc7 : i < t.coupons.length := by simp at hb7; omega
  obtain ⟨c, hcc⟩ : ∃ c, c = t.coupons[i] := ⟨_, rfl⟩
  have hdr := PZ hc7
  rw [← hcc] at hdr
  have hi8 : i < (vG t.coupons i).length := by rw [JV]; exact hc7
  have hgv : (vG t.coupons i)[i] = c := by rw [hcc]; exact Acl hc7
  have hrow : ([.str c.want.seg.carrier, .int .i64 c.want.seg.number, .int .i64 c.want.seg.day, .str c.want.seg.from', .str c.want.seg.to', .int .i64 c.want.seg.dep, .int .i64 c.want.seg.arr, .str c.want.cls, .str c.basis, .int .i64 (DJ c.status).1, .int .i64 c.value] : List V) = (vUp t.coupons[i]).enc := by rw [← hcc]; rfl
  refine Ac ?_
  refine Aa (Ad ?_)
  refine Aa (Z 8 rfl ?_)
  simp only [go_sem, simprocAttr, Af _ _ _ _ hi8, hgv, Coupon.enc, hc7, JV, List.length_map, tVd, EFv, Dp, Eu]
  and_intros <;> try exact sdA
  refine Aa (Z 9 rfl ?_)
  simp only [go_sem, simprocAttr, tVd, EFv, Dp, Eu]
  and_intros <;> try exact sdA
  refine Aa (Aa (Z 10 rfl ?_))
  simp only [go_sem, simprocAttr, tVd, EFv, Dp, Eu]
  refine Ab rfl (fun hb10 => ?_) fun hb10 => ?_
  ·have hne2 : ¬ (DJ c.status).2 = 0 := by simpa using hb10
   have hve : PM t.coupons = (DJ c.status).2 := by rw [he, hdr, if_neg hne2]
   have hm : FU t d = (Ticket.zero, (DJ c.status).2) := by unfold FU; rw [if_neg hne, if_neg hd, hve, if_neg hne2]
   refine Aa (Z 11 rfl ?_)
   simp only [go_sem, simprocAttr, tVd, EFv, Dp, Eu]
   refine AW.le (s' := ⟨mkE [(4, .ptr 4 0), (5, .int .i64 (DJ c.status).2)], mkH [(4, .box 47 (Ay Ticket.zero))]⟩) (Le.mk _ _ ?_ ?_ rfl) (Ae (hQ _ _ (.inl rfl) ?_ ?_ ?_)) <;> simp only [go_sem, simprocAttr, Ay, Ticket.zero, Person.zero, fVd, tkV, hm]
  have heq2 : (DJ c.status).2 = 0 := by simpa using hb10
  rw [if_pos heq2] at hdr
  refine Ac ?_
  refine Z 12 rfl ?_
  simp only [go_sem, simprocAttr, Af _ _ _ _ hi8, hgv, Coupon.enc, hc7, JV, List.length_map, tVd, EFv, Dp, Eu]
  and_intros <;> try exact sdA
  refine Z 13 rfl ?_
  simp only [go_sem, simprocAttr, inI, tVd, EFv, Dp, Eu]
  and_intros <;> try exact sdA
  refine hKL1 (i + 1) _ ?_ ?_ ?_
  ·(try dsimp only); exact ⟨hc7, by rw [he, hdr]⟩
  ·(try dsimp only); omega
  refine Le.mk _ _ ?_ ?_ rfl <;> simp only [go_sem, simprocAttr, Ack hc7 _ hrow] <;> and_intros <;> try exact leA
 obtain rfl : i = t.coupons.length := by simp at hb7; omega
 have hv0 : PM t.coupons = 0 := by rw [he, List.drop_length]; rfl
 have hm : FU t d = (vTk t (t.coupons.map vUp), 0) := by unfold FU; rw [if_neg hne, if_neg hd, if_pos hv0]
 refine Ai ?_
 simp only [go_sem, simprocAttr]
 refine Aa (Z 14 rfl ?_)
 simp only [go_sem, simprocAttr, tVd, EFv, Dp, Eu]
 refine AW.le (s' := ⟨mkE [(4, .ptr 4 0), (5, .int .i64 0)], mkH [(4, .box 47 (Ay (vTk t (t.coupons.map vUp))))]⟩) (Le.mk _ _ ?_ ?_ rfl) (Ae (hQ _ _ (.inl rfl) ?_ ?_ ?_)) <;> simp only [go_sem, simprocAttr, Ay, vTk, fVd, tkV, hm]
 exact LD rfl (by rw [List.length_map, JV]) rfl ((Coupon.purs _).2 trivial) (by rw [Acm])
end Go.Proofs.YtjkclhbckfkeeaaGreatDoor
end
