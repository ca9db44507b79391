import Derived.Test.YtjkclhbckfkeeaaGreatDoorMo5
set_option linter.unusedSimpArgs false
set_option linter.unusedVariables false
set_option linter.deprecated false
set_option maxHeartbeats 4000000
namespace Go.Proofs.YtjkclhbckfkeeaaGreatDoor
open Go Go.RowKit
def aSp (x : Int × List Int) : List V := [.int .i64 x.1, .list (AY x.2) false]
theorem MH (a b : Int × List Int) (h : aSp a = aSp b) : a = b := by
 obtain ⟨a_a, a_l⟩ := a
 obtain ⟨b_a, b_l⟩ := b
 simp only [aSp, List.cons.injEq, V.str.injEq, V.int.injEq, V.bool.injEq, V.agg.injEq, V.list.injEq, and_true, true_and] at h
 obtain ⟨h0, h1⟩ := h
 subst h0
 replace h1 := GT h1
 subst h1
 rfl
theorem Qu : ∀ {l : List Int}, (∀ w ∈ l, 0 ≤ w) → 0 ≤ l.sum
 | [], _ => by simp
 | x :: l, h => by rw [List.sum_cons]; have := h x (List.mem_cons_self ..); have := Qu (l := l) fun w hw => h w (List.mem_cons_of_mem _ hw); omega
theorem MT : ∀ {l : List Int} {s S : Int}, Fx s l = (S, 0) → S ≤ 1099511627776 → 0 ≤ s → (∀ w ∈ l, 0 ≤ w) ∧ s + l.sum = S ∧ 0 < S
 | [], s, S, h, hS, h0 => by
  rw [Fx] at h
  split at h
  ·cases h
  ·injection h with h; subst h; exact ⟨by simp, by simp, by omega⟩
 | w :: l, s, S, h, hS, h0 => by
  rw [Fx] at h
  split at h
  ·cases h
  ·rename_i hw
   have h1 : 0 ≤ stepT s w := by unfold stepT; split <;> omega
   obtain ⟨a1, a2, a3⟩ := MT h hS h1
   have h2 : 0 ≤ l.sum := Qu a1
   refine ⟨fun x hx => by rcases List.mem_cons.1 hx with rfl | hx; omega; exact a1 x hx, ?_, a3⟩
   rw [List.sum_cons]
   unfold stepT at a2
   split at a2 <;> omega
theorem Dl : ∀ {l : List Int}, (∀ w ∈ l, 0 ≤ w) → ∀ w ∈ l, w ≤ l.sum
 | x :: l, h, w, hw => by
  have h1 : 0 ≤ l.sum := Qu fun w hw => h w (List.mem_cons_of_mem _ hw)
  rw [List.sum_cons]
  rcases List.mem_cons.1 hw with rfl | hw
  ·omega
  ·have := Dl (fun w hw => h w (List.mem_cons_of_mem _ hw)) w hw
   have := h x (List.mem_cons_self ..)
   omega
theorem LG : ∀ {l : List Int} {s : Int}, (Fx s l).2 ≠ 0 → (Fx s l).2 = 2
 | [], s, h => by rw [Fx] at h ⊢; split at h <;> simp_all
 | w :: l, s, h => by
  rw [Fx] at h ⊢
  split
  ·rfl
  ·rename_i hw; rw [if_neg hw] at h; exact LG h
def qsP (A S : Int) (l : List Int) : List Int := l.map fun w => A * w / S
def rsP (A S : Int) (l : List Int) : List Int := l.map fun w => A * w % S
def CL (sg : Int) : List Nat → Int → List Int → List Int
 | [], _, xs => xs
 | i :: os, left, xs => if 0 < left then CL sg os (left - 1) (xs.set i (xs.getD i 0 + sg * 1)) else CL sg os left xs
def sgn (a : Int) : Int := if a < 0 then -1 else 1
def DL (a S : Int) (l : List Int) : List Int :=
 CL (sgn a) (msT (fr (rsP a.natAbs S l)) (List.range' 0 l.length)) (a.natAbs - (qsP a.natAbs S l).sum) ((qsP a.natAbs S l).map fun q => sgn a * q)
def BE (a : Int) (l : List Int) : Int × List Int :=
 if (Fx 0 l).2 ≠ 0 then (2, []) else if NP a = false ∨ 1099511627776 < (Fx 0 l).1 then (11, []) else (0, DL a (Fx 0 l).1 l)
def Cr (y : Int × List Int) : V := .tup [.list (AY y.2) false, .int .i64 y.1]
def EM (x : Int × List Int) : Prop × V := (x.2.length ≤ 1000000 ∧ inI x.1 ∧ ∀ w ∈ x.2, inI w, Cr (BE x.1 x.2))
theorem HH {α : Type} (L : List α) (z : α) {i n : Nat} (hn : L.length = n) (hi : i < n) : (L.take i ++ List.replicate (n - i) z).set i (L[i]'(by omega)) = L.take (i + 1) ++ List.replicate (n - (i + 1)) z := by
 have h1 : (L.take i).length = i := by rw [List.length_take]; omega
 rw [List.set_append_right _ _ (by omega), h1, Nat.sub_self, show n - i = n - (i + 1) + 1 by omega, List.replicate_succ, List.set_cons_zero, List.take_succ_eq_append_getElem (show i < L.length by omega), List.append_assoc]
 rfl
theorem Sp {α : Type} (L : List α) (z : α) {i n : Nat} (hn : L.length = n) (hi : i < n) (h : i < (L.take i ++ List.replicate (n - i) z).length) : (L.take i ++ List.replicate (n - i) z)[i] = z := by
 have h1 : (L.take i).length = i := by rw [List.length_take]; omega
 rw [List.getElem_append_right (by omega)]
 simp
theorem Ju {α : Type} (L : List α) (z : α) {i n : Nat} (hn : L.length = n) (hi : i ≤ n) : (L.take i ++ List.replicate (n - i) z).length = n := by
 rw [List.length_append, List.length_take, List.length_replicate]; omega
theorem Kc (L : List Int) {i : Nat} (hi : i < L.length) : (L.take (i + 1)).sum = (L.take i).sum + L[i] := by
 rw [List.take_succ_eq_append_getElem hi, List.sum_append]; simp
theorem Aga {A S w : Int} (hA : 0 ≤ A) (h0 : 0 ≤ w) (h1 : w ≤ S) (hS : 0 < S) : 0 ≤ A * w / S ∧ A * w / S ≤ A :=
 ⟨Int.ediv_nonneg (Int.mul_nonneg hA h0) (by omega), Int.ediv_le_of_le_mul hS (Int.mul_le_mul_of_nonneg_left h1 hA)⟩
theorem Ed {L : List Int} {B : Int} (h : ∀ x ∈ L, 0 ≤ x ∧ x ≤ B) : ∀ i : Nat, i ≤ L.length → 0 ≤ (L.take i).sum ∧ (L.take i).sum ≤ B * i
 | 0, _ => by simp
 | i + 1, hi => by
  obtain ⟨h1, h2⟩ := Ed h i (by omega)
  obtain ⟨h3, h4⟩ := h L[i] (List.getElem_mem (by omega))
  rw [Kc L (by omega)]
  have : B * ((i + 1 : Nat) : Int) = B * i + B := by rw [Int.natCast_add, Int.mul_add]; simp
  omega
theorem JW (n : Nat) : List.replicate n [V.int .u64 0] = Et (List.replicate n 0) := by unfold Et; rw [List.map_replicate]
theorem KA (n : Nat) : List.replicate n [V.int .i64 0] = Dw (List.replicate n 0) := by unfold Dw; rw [List.map_replicate]; rfl
theorem Jv {α : Type} (L : List α) (z : α) {n : Nat} (hn : L.length = n) : L.take n ++ List.replicate (n - n) z = L := by subst hn; simp
theorem Jh {O : List Nat} {n i : Nat} (hO : O.Perm (List.range' 0 n)) (hi : i < O.length) : O.getD i 0 < n := by
 have := Fh (hO.mem_iff.1 (HB hi)); omega
noncomputable def Ez : Tab
 | 139 => (gOf aLi Ab0)
 | 140 => (gOf aI Aa5)
 | 141 => Wl
 | 143 => NK
 | _ => gNo
theorem Zp : ∀ f, PU f (Ez f) := fun f => by
 unfold Ez
 split
 ·exact Zl
 ·exact Aeb
 ·exact Ac7
 ·exact ZY
 ·exact Ao.no
def EFq : Nat → Bool := fun f => f == 142 || f == 144
theorem ZH : PU 81 (gOf aSp EM) := by
 have hG := Zp
 refine AiK.a MH (by simp [aSp]) ?_
 rintro ⟨a, l⟩ hv C hN Q hQ
 have Z := AiK.R EFq hG hN
 obtain ⟨hl, hia, hil⟩ : l.length ≤ 1000000 ∧ inI a ∧ ∀ w ∈ l, inI w := hv
 have hl2 : l.length ≤ 140737488355328 := by omega
 obtain ⟨⟨S, e⟩, htr⟩ : ∃ y, Fx 0 l = y := ⟨_, rfl⟩
 refine Aa (Z 0 rfl ?_)
 simp only [go_sem, simprocAttr, aSp, Ez, EFq, AL, Aq]
 refine Aa (Z 1 rfl ?_)
 simp only [go_sem, simprocAttr, hl2, htr, Pi, Ez, EFq, AL, Aq]
 and_intros <;> try exact sdA
 refine Aa (Aa (Z 2 rfl ?_))
 simp only [go_sem, simprocAttr, Ez, EFq, AL, Aq]
 refine Ab rfl (fun hb2 => ?_) fun hb2 => ?_
 ·have he : e ≠ 0 := by simpa using hb2
  obtain rfl : e = 2 := by have := LG (l := l) (s := 0); rw [htr] at this; exact this he
  have hsp : BE a l = (2, []) := by unfold BE; rw [htr]; rfl
  refine Aa (Z 3 rfl ?_)
  simp only [go_sem, simprocAttr, Ez, EFq, AL, Aq]
  refine AW.le (s' := ⟨mkE [(4, .list [] false), (5, .int .i64 2)], mkH []⟩) (Le.mk _ _ ?_ ?_ rfl) (Ae (hQ _ _ (.inl rfl) ?_ ?_ ?_)) <;> simp only [go_sem, simprocAttr, EM, Cr, hsp, Cy]
 have he : e = 0 := by simpa using hb2
 subst he
 refine Ac ?_
 refine Aa (Aa (Z 4 rfl ?_))
 simp only [go_sem, simprocAttr, Ez, EFq, AL, Aq]
 and_intros <;> try exact sdA
 refine Ab rfl (fun hc4 => ?_) fun hc4 => ?_
 ·simp only [hcL] at hc4
  have hsp : BE a l = (11, []) := by unfold BE; rw [htr, if_neg (by simp), if_pos hc4]
  refine Aa (Z 5 rfl ?_)
  simp only [go_sem, simprocAttr, Ez, EFq, AL, Aq]
  refine AW.le (s' := ⟨mkE [(4, .list [] false), (5, .int .i64 11)], mkH []⟩) (Le.mk _ _ ?_ ?_ rfl) (Ae (hQ _ _ (.inl rfl) ?_ ?_ ?_)) <;> simp only [go_sem, simprocAttr, EM, Cr, hsp, Cy]
 simp only [hcL] at hc4
 obtain ⟨hnn, hsum, hS0⟩ := MT htr hc4.2 (Int.le_refl 0)
 rw [Int.zero_add] at hsum
 have hle : ∀ w ∈ l, w ≤ S := fun w hw => hsum ▸ Dl hnn w hw
 have hsp : BE a l = (0, DL a S l) := by unfold BE; rw [htr, if_neg (by simp), if_neg (by rw [hc4.1]; simp; omega)]
 obtain ⟨A, hA⟩ : ∃ A, A = (a.natAbs : Int) := ⟨_, rfl⟩
 have hfb := Sn hc4.1
 have hA0 : 0 ≤ A ∧ A ≤ 1099511627776 := by omega
 have hkA : inK .i64 A := Ax.2 (by unfold inI; omega)
 have hlen0 : 0 < l.length := by cases l with | nil => (simp at hsum; omega) | cons x l => simp
 refine Ac ?_
 refine Aa (Z 6 rfl ?_)
 simp only [go_sem, simprocAttr, Wl, hia, ← hA, hkA, Ez, EFq, AL, Aq]
 and_intros <;> try exact sdA
 refine BD (α := Unit) (fun u => (True)) (fun u => ⟨mkE [(0, V.int IntKind.i64 a), (1, V.list (AY l) false), (6, V.int IntKind.i64 S), (8, V.ptr 8 0), (9, V.ptr 9 0)], mkH [(8, Ob.box 3 [V.int IntKind.i64 A]), (9, .box 3 [.int .i64 (sgn a)])]⟩) ?_ ?_
 ·intro KC7 hKC7
  refine Aa (Z 7 rfl ?_)
  simp only [go_sem, simprocAttr, Ez, EFq, AL, Aq]
  refine Ab rfl (fun hc7 => ?_) fun hc7 => ?_
  ·simp only [hcL] at hc7
   have hsg : sgn a = -1 := by unfold sgn; rw [if_pos (by omega)]
   refine Z 8 rfl ?_
   simp only [go_sem, simprocAttr, Ez, EFq, AL, Aq]
   refine hKC7 (()) _ ?_ ?_
   ·(try dsimp only); try trivial
   refine Le.mk _ _ ?_ ?_ rfl <;> simp only [go_sem, simprocAttr, hsg] <;> and_intros <;> try exact leA
  simp only [hcL] at hc7
  have hsg : sgn a = 1 := by unfold sgn; rw [if_neg (by omega)]
  refine Ac ?_
  refine hKC7 (()) _ ?_ ?_
  ·(try dsimp only); try trivial
  refine Le.mk _ _ ?_ ?_ rfl <;> simp only [go_sem, simprocAttr, hsg] <;> and_intros <;> try exact leA
 rintro u k0
 have hsg2 : sgn a = 1 ∨ sgn a = -1 := by unfold sgn; split <;> simp
 obtain ⟨qs1, hqs1⟩ : ∃ qs1, qs1 = qsP A S l := ⟨_, rfl⟩
 obtain ⟨rs1, hrs1⟩ : ∃ rs1, rs1 = rsP A S l := ⟨_, rfl⟩
 obtain ⟨xs1, hxs1⟩ : ∃ xs1, xs1 = qs1.map fun q => sgn a * q := ⟨_, rfl⟩
 have lqs1 : qs1.length = l.length := by rw [hqs1]; exact List.length_map _
 have lrs1 : rs1.length = l.length := by rw [hrs1]; exact List.length_map _
 have lxs1 : xs1.length = l.length := by rw [hxs1, List.length_map, lqs1]
 have bqs1 : ∀ x ∈ qs1, 0 ≤ x ∧ x ≤ 1099511627776 := fun x hx => by rw [hqs1] at hx; obtain ⟨w, hw, rfl⟩ := List.mem_map.1 hx; have := Aga hA0.1 (hnn w hw) (hle w hw) hS0; exact ⟨this.1, by omega⟩
 have hsm : DL a S l = CL (sgn a) (msT (fr rs1) (List.range' 0 l.length)) (A - qs1.sum) xs1 := by unfold DL; rw [← hA, ← hrs1, ← hqs1, ← hxs1]
 refine Aa (As (EF := EFq) hG mixed (by rw [hN]; exact Acu) AdG ?_)
 simp only [Aby, Afy, go_sem, simprocAttr, KL, JW, Ez, EFq, AL, Aq]
 and_intros <;> try exact sdA
 refine Aa (Z 10 rfl ?_)
 simp only [go_sem, simprocAttr, Ez, EFq, AL, Aq]
 refine Aa (Aa (Z 11 rfl ?_))
 simp only [go_sem, simprocAttr, Ez, EFq, AL, Aq]
 refine Ad ?_
 refine Aj (α := Nat) (fun i => (i ≤ l.length)) (fun i => ⟨mkE [(0, V.int IntKind.i64 a), (1, V.list (AY l) false), (6, V.int IntKind.i64 S), (8, V.ptr 8 0), (10, V.ptr 10 0), (11, V.ptr 11 0), (12, V.fn 142 [V.ptr 10 0, V.ptr 9 0, V.ptr 8 0]), (49, V.list (AY l) false), (50, V.int IntKind.i64 ↑l.length), (51, .int .i64 i)], mkH [(8, .box 3 [.int .i64 (A - (qs1.take i).sum)]), (9, Ob.box 3 [V.int IntKind.i64 (sgn a)]), (10, Ob.box 42 [V.own 44 l.length]), (11, Ob.box 204 [V.own 47 l.length]), (44, .arr 3 1 (AY (xs1.take i ++ List.replicate (l.length - i) 0))), (47, .arr 189 1 (Et (rs1.take i ++ List.replicate (l.length - i) 0)))]⟩) (fun i => l.length - i) 0 (Nat.zero_le _) ?_ ?_
 ·refine Le.mk _ _ ?_ ?_ rfl <;> simp only [go_sem, simprocAttr, List.take_zero, List.nil_append, Nat.sub_zero, List.sum_nil, Int.sub_zero, KL, JW] <;> and_intros <;> try exact leA
 rintro i hi KL0 hKL0
 try dsimp only at *
 have hQs := Ed bqs1 i (by omega)
 refine Aa (Z 12 rfl ?_)
 simp only [go_sem, simprocAttr, Ez, EFq, AL, Aq]
 refine Aa ?_
 refine Ab rfl (fun hc12 => ?_) fun hc12 => ?_
 ·simp only [hcL] at hc12
  refine Ac ?_
  refine Aa (Ad ?_)
  refine Aa (Z 13 rfl ?_)
  simp only [go_sem, simprocAttr, AV _ _ _ hc12, hc12, Ez, EFq, AL, Aq]
  and_intros <;> try exact sdA
  obtain ⟨w, hw⟩ : ∃ w, w = l[i] := ⟨_, rfl⟩
  have hwm : w ∈ l := hw ▸ List.getElem_mem _
  have hw0 := hnn w hwm
  have hwS := hle w hwm
  have hku : inK .u64 w := Ak.2 (by omega)
  have hkS : inK .u64 S := Ak.2 (by omega)
  have qb := Aga hA0.1 hw0 hwS hS0
  have hsc : A * w / Dd < S := (Int.ediv_lt_iff_lt_mul (by decide)).2 (by have h1 : A * w ≤ A * S := Int.mul_le_mul_of_nonneg_left hwS hA0.1; have h2 : A * S < Dd * S := Int.mul_lt_mul_of_pos_right (by unfold Dd; omega) hS0; rw [Int.mul_comm S]; omega)
  have hAu : A < Dd := by unfold Dd; omega
  have hwu : w < Dd := by unfold Dd; omega
  have hSu : S < Dd := by unfold Dd; omega
  have hkq : inK .i64 (A * w / S) := Ax.2 (by unfold inI; omega)
  refine Aa (Z 14 rfl ?_)
  simp only [go_sem, simprocAttr, ← hw, Wl, hia, ← hA, NK, hA0.1, hAu, hw0, hwu, hS0, hSu, hsc, hku, hkS, Ez, EFq, AL, Aq]
  have hRi : rs1[i]'(by omega) = A * w % S := by simp only [hrs1, rsP, List.getElem_map, ← hw]
  have hQi : qs1[i]'(by omega) = A * w / S := by simp only [hqs1, qsP, List.getElem_map, ← hw]
  have hXi : xs1[i]'(by omega) = sgn a * (A * w / S) := by simp only [hxs1, List.getElem_map, hQi]
  have hfl := Ju rs1 0 lrs1 hi
  have hfR := HH rs1 0 lrs1 hc12
  rw [hRi] at hfR
  have hil2 : i < (rs1.take i ++ List.replicate (l.length - i) 0).length := by rw [hfl]; exact hc12
  refine Aa (Z 15 rfl ?_)
  simp only [go_sem, simprocAttr, hfl, hc12, Uy, hfR, Hb _ _ _ hil2, Ez, EFq, AL, Aq]
  and_intros <;> try exact sdA
  have hfx := Ju xs1 0 lxs1 hi
  have hqs : sgn a * (A * w / S) ≤ 1099511627776 ∧ -1099511627776 ≤ sgn a * (A * w / S) := by rcases hsg2 with h | h <;> rw [h] <;> omega
  refine Z 16 rfl ?_
  simp only [go_sem, simprocAttr, hkq, Ez, EFq, AL, Aq]
  refine NH (xs := xs1.take i ++ List.replicate (l.length - i) 0) (xs' := xs1.take (i + 1) ++ List.replicate (l.length - (i + 1)) 0) (left' := A - (qs1.take (i + 1)).sum) i rfl hfx (by omega) (by unfold inI; omega) (by rw [Sp xs1 0 lxs1 hc12]; unfold inI; omega) (by unfold inI; omega) (by rw [Sp xs1 0 lxs1 hc12, Int.zero_add, ← hXi]; exact HH xs1 0 lxs1 hc12) (by rw [Kc qs1 (by omega), hQi]; omega) rfl rfl rfl rfl ?_
  simp only [go_sem, simprocAttr, EFq, GO]
  refine Z 17 rfl ?_
  simp only [go_sem, simprocAttr, inI, Ez, EFq, AL, Aq]
  and_intros <;> try exact sdA
  refine hKL0 (i + 1) _ ?_ ?_ ?_
  ·(try dsimp only); exact hc12
  ·(try dsimp only); omega
  exact leM
 simp only [hcL] at hc12
 obtain rfl : i = l.length := by omega
 have hXe := Jv xs1 0 lxs1
 have hRe := Jv rs1 0 lrs1
 have hQe : qs1.take l.length = qs1 := List.take_of_length_le (by omega)
 refine Ai ?_
 simp only [go_sem, simprocAttr]
 rw [hXe, hRe, hQe]
 refine Aa (Z 18 rfl ?_)
 simp only [go_sem, simprocAttr, KA, hXe, hRe, hQe, Ez, EFq, AL, Aq]
 and_intros <;> try exact sdA
 refine Aa (Aa (Z 19 rfl ?_))
 simp only [go_sem, simprocAttr, List.length_replicate, Ez, EFq, AL, Aq]
 refine Ad ?_
 refine Aj (α := Nat) (fun i => (i ≤ l.length)) (fun i => ⟨mkE [(8, V.ptr 8 0), (10, V.ptr 10 0), (11, V.ptr 11 0), (12, V.fn 142 [V.ptr 10 0, V.ptr 9 0, V.ptr 8 0]), (18, V.ptr 18 0), (81, V.int IntKind.i64 ↑l.length), (82, .int .i64 i)], mkH [(8, Ob.box 3 [V.int IntKind.i64 (A - qs1.sum)]), (9, Ob.box 3 [V.int IntKind.i64 (sgn a)]), (10, Ob.box 42 [V.own 44 l.length]), (11, Ob.box 204 [V.own 47 l.length]), (18, Ob.box 42 [V.own 79 l.length]), (44, Ob.arr 3 1 (AY xs1)), (47, Ob.arr 189 1 (Et rs1)), (79, .arr 3 1 (Dw ((List.range' 0 l.length).take i ++ List.replicate (l.length - i) 0)))]⟩) (fun i => l.length - i) 0 (Nat.zero_le _) ?_ ?_
 ·refine Le.mk _ _ ?_ ?_ rfl <;> simp only [go_sem, simprocAttr, List.take_zero, List.nil_append, Nat.sub_zero, KA] <;> and_intros <;> try exact leA
 rintro i hi KL2 hKL2
 try dsimp only at *
 refine Aa (Z 20 rfl ?_)
 simp only [go_sem, simprocAttr, Ez, EFq, AL, Aq]
 refine Aa ?_
 refine Ab rfl (fun hc20 => ?_) fun hc20 => ?_
 ·simp only [hcL] at hc20
  refine Ac ?_
  refine Aa (Ad ?_)
  refine Aa (Z 21 rfl ?_)
  simp only [go_sem, simprocAttr, Ez, EFq, AL, Aq]
  have hfo := Ju (List.range' 0 l.length) 0 List.length_range' hi
  have hfs := HH (List.range' 0 l.length) 0 List.length_range' hc20
  rw [show (List.range' 0 l.length)[i]'(by rw [List.length_range']; exact hc20) = i by simp] at hfs
  have hil2 : i < ((List.range' 0 l.length).take i ++ List.replicate (l.length - i) 0).length := by rw [hfo]; exact hc20
  refine Z 22 rfl ?_
  simp only [go_sem, simprocAttr, hfo, hc20, VT, hfs, DV _ _ _ hil2, Ez, EFq, AL, Aq]
  and_intros <;> try exact sdA
  refine Z 23 rfl ?_
  simp only [go_sem, simprocAttr, inI, Ez, EFq, AL, Aq]
  and_intros <;> try exact sdA
  refine hKL2 (i + 1) _ ?_ ?_ ?_
  ·(try dsimp only); exact hc20
  ·(try dsimp only); omega
  exact leM
 simp only [hcL] at hc20
 obtain rfl : i = l.length := by omega
 have hOe := Jv (List.range' 0 l.length) 0 List.length_range'
 rw [hOe]
 refine Ai ?_
 simp only [go_sem, simprocAttr]
 refine Aa (Z 24 rfl ?_)
 simp only [go_sem, simprocAttr, Ez, EFq, AL, Aq]
 and_intros <;> try exact sdA
 refine Va (r := rs1) lrs1 (by omega) hl rfl rfl rfl rfl ?_
 simp only [go_sem, simprocAttr, EFq, SP, lrs1]
 refine Aa ?_
 obtain ⟨O, hO⟩ : ∃ O, O = msT (fr rs1) (List.range' 0 l.length) := ⟨_, rfl⟩
 have hOp : O.Perm (List.range' 0 l.length) := hO ▸ AP _
 have hOl : O.length = l.length := by rw [hOp.length_eq, List.length_range']
 rw [← hO] at hsm ⊢
 have hs0 := Ed bqs1 l.length (by omega)
 rw [List.take_of_length_le (by omega)] at hs0
 replace hs0 : A - qs1.sum ≤ 2199023255552 ∧ -(4611686018427387904) ≤ A - qs1.sum := by omega
 have hx0 : ∀ x ∈ xs1, -(2199023255552 + ((0 : Nat) : Int)) ≤ x ∧ x ≤ 2199023255552 + ((0 : Nat) : Int) := fun x hx => by rw [hxs1] at hx; obtain ⟨q, hq, rfl⟩ := List.mem_map.1 hx; have := bqs1 q hq; rcases hsg2 with h | h <;> rw [h] <;> omega
 refine Aa (Z 25 rfl ?_)
 simp only [go_sem, simprocAttr, hOl, Ez, EFq, AL, Aq]
 refine Ad ?_
 refine Aj (α := Nat × Int × (List Int)) (fun γ => (γ.1 ≤ l.length) ∧ (CL (sgn a) O (A - qs1.sum) xs1 = CL (sgn a) (O.drop γ.1) γ.2.1 γ.2.2) ∧ (γ.2.2.length = l.length) ∧ ((∀ x ∈ γ.2.2, -(2199023255552 + (γ.1 : Int)) ≤ x ∧ x ≤ 2199023255552 + (γ.1 : Int))) ∧ (γ.2.1 ≤ 2199023255552) ∧ (-(4611686018427387904) ≤ γ.2.1)) (fun γ => ⟨mkE [(8, V.ptr 8 0), (10, V.ptr 10 0), (12, V.fn 142 [V.ptr 10 0, V.ptr 9 0, V.ptr 8 0]), (94, V.own 79 l.length), (95, V.int IntKind.i64 ↑l.length), (96, .int .i64 γ.1)], mkH [(8, .box 3 [.int .i64 γ.2.1]), (9, Ob.box 3 [V.int IntKind.i64 (sgn a)]), (10, Ob.box 42 [V.own 44 l.length]), (44, .arr 3 1 (AY γ.2.2)), (79, Ob.arr 3 1 (Dw O))]⟩) (fun γ => l.length - γ.1) (0, A - qs1.sum, xs1) ⟨Nat.zero_le _, rfl, lxs1, hx0, hs0.1, hs0.2⟩ ?_ ?_
 ·exact leM
 rintro ⟨i, lf, xs⟩ ⟨hi, g1, g2, g3, g4, g5⟩ KL4 hKL4
 try dsimp only at *
 refine Aa (Z 26 rfl ?_)
 simp only [go_sem, simprocAttr, Ez, EFq, AL, Aq]
 refine Aa ?_
 refine Ab rfl (fun hc26 => ?_) fun hc26 => ?_
 ·simp only [hcL] at hc26
  refine Ac ?_
  refine Aa (Ad ?_)
  have hOi : i < O.length := by omega
  have hkn := Jh hOp hOi
  have hdr : O.drop i = O.getD i 0 :: O.drop (i + 1) := by rw [List.drop_eq_getElem_cons hOi, List.getD_eq_getElem?_getD, List.getElem?_eq_getElem hOi]; rfl
  obtain ⟨k, hk⟩ : ∃ k, k = O.getD i 0 := ⟨_, rfl⟩
  rw [← hk] at hkn hdr
  refine Aa (Z 27 rfl ?_)
  simp only [go_sem, simprocAttr, hOl, hc26, DV _ _ _ hOi, ← hk, Ez, EFq, AL, Aq]
  and_intros <;> try exact sdA
  refine Aa (Z 28 rfl ?_)
  simp only [go_sem, simprocAttr, Ez, EFq, AL, Aq]
  refine Ab rfl (fun hc28 => ?_) fun hc28 => ?_
  ·simp only [hcL] at hc28
   have hxk : k < xs.length := by omega
   have hb3 := g3 xs[k] (List.getElem_mem hxk)
   have hs1 : sgn a * 1 = 1 ∨ sgn a * 1 = -1 := by rw [Int.mul_one]; exact hsg2
   refine Z 29 rfl ?_
   simp only [go_sem, simprocAttr, Ez, EFq, AL, Aq]
   and_intros <;> try exact sdA
   refine NH (xs := xs) (xs' := xs.set k (xs[k] + sgn a * 1)) (left' := lf - 1) k rfl g2 hxk (by unfold inI; omega) (by unfold inI; omega) (by unfold inI; omega) rfl rfl rfl rfl rfl rfl ?_
   simp only [go_sem, simprocAttr, EFq, GO]
   refine Z 30 rfl ?_
   simp only [go_sem, simprocAttr, inI, Ez, EFq, AL, Aq]
   and_intros <;> try exact sdA
   refine hKL4 (i + 1, lf - 1, xs.set k (xs[k] + sgn a * 1)) _ ?_ ?_ ?_
   ·(try dsimp only); exact ⟨hc26, by rw [g1, hdr, CL, if_pos (by omega), List.getD_eq_getElem?_getD, List.getElem?_eq_getElem hxk]; rfl, by rw [List.length_set]; exact g2, fun x hx => by rcases List.mem_or_eq_of_mem_set hx with hx | rfl; have := g3 x hx; omega; omega, by omega, by omega⟩
   ·(try dsimp only); omega
   exact leM
  simp only [hcL] at hc28
  refine Ac ?_
  refine Z 30 rfl ?_
  simp only [go_sem, simprocAttr, inI, Ez, EFq, AL, Aq]
  and_intros <;> try exact sdA
  refine hKL4 (i + 1, lf, xs) _ ?_ ?_ ?_
  ·(try dsimp only); exact ⟨hc26, by rw [g1, hdr, CL, if_neg (by omega)], g2, fun x hx => by have := g3 x hx; omega, g4, g5⟩
  ·(try dsimp only); omega
  exact leM
 simp only [hcL] at hc26
 obtain rfl : i = l.length := by omega
 rw [← hOl, List.drop_length, CL] at g1
 rw [g1] at hsm
 refine Ai ?_
 simp only [go_sem, simprocAttr]
 refine Aa (Z 31 rfl ?_)
 simp only [go_sem, simprocAttr, Ez, EFq, AL, Aq]
 refine AW.le (s' := ⟨mkE [(4, .list (AY xs) false), (5, .int .i64 0)], mkH []⟩) (Le.mk _ _ ?_ ?_ rfl) (Ae (hQ _ _ (.inl rfl) ?_ ?_ ?_)) <;> simp only [go_sem, simprocAttr, EM, Cr, hsp, hsm]
 exact Cq rfl (by rw [Bp, g2]) rfl (CV _)
def Afh (n : Int) : Prop × V := (inI n ∧ n ≠ -9223372036854775808, .int .i64 (n.natAbs : Int))
theorem Bg (n : Int) : gOf aI Afh [.int .i64 n] = (inI n ∧ n ≠ -9223372036854775808, .int .i64 (n.natAbs : Int)) := Ar Lw n
theorem Aab : PU 155 (gOf aI Afh) := by
 have hG := AC
 refine AeL.a Lw (by simp [aI]) ?_
 rintro n hv C hN Q hQ
 have Z := AeL.R EF0 hG hN
 obtain ⟨h1, h2⟩ : inI n ∧ n ≠ -9223372036854775808 := hv
 unfold inI at h1
 refine Aa (Z 0 rfl ?_)
 simp only [go_sem, simprocAttr, aI]
 refine Aa (Aa (Z 1 rfl ?_))
 simp only [go_sem, simprocAttr]
 refine Ab rfl (fun hc1 => ?_) fun hc1 => ?_
 ·simp only [hcL] at hc1
  refine Aa (Z 2 rfl ?_)
  simp only [go_sem, simprocAttr, inI]
  and_intros <;> try exact sdA
  refine Ae (hQ _ _ (.inl rfl) ?_ ?_ ?_) <;> simp only [go_sem, simprocAttr, Afh]
  congr 1; omega
 simp only [hcL] at hc1
 refine Ac ?_
 refine Aa (Z 3 rfl ?_)
 simp only [go_sem, simprocAttr]
 refine Ae (hQ _ _ (.inl rfl) ?_ ?_ ?_) <;> simp only [go_sem, simprocAttr, Afh]
 congr 1; omega
def Um (t : Int) : List Int → Int × Int
 | [] => if t = 0 then (0, 2) else (t, 0)
 | w :: l => if 1099511627776 - t < w then (0, 11) else Um (t + w) l
def PL (l : List Int) : Int × Int := if l.any (fun w => decide (w < 0)) then (0, 2) else Um 0 l
def Aa0 (l : List Int) : Prop × V := (l.length ≤ 140737488355328, Pi (PL l))
theorem Bf (l : List Int) : gOf aLi Aa0 [.list (AY l) false] = (l.length ≤ 140737488355328, Pi (PL l)) := Ar Gu l
theorem YD : PU 153 (gOf aLi Aa0) := by
 have hG := AC
 refine AeN.a Gu (by simp [aLi]) ?_
 rintro l hv C hN Q hQ
 have Z := AeN.R EF0 hG hN
 replace hv : l.length ≤ 140737488355328 := hv
 refine Aa (Z 0 rfl ?_)
 simp only [go_sem, simprocAttr, aLi, tNo]
 refine Aa (Z 1 rfl ?_)
 simp only [go_sem, simprocAttr, tNo]
 refine Aa (Aa (Z 2 rfl ?_))
 simp only [go_sem, simprocAttr, tNo]
 refine Ad ?_
 refine Aj (α := Nat) (fun i => (i ≤ l.length) ∧ (∀ x ∈ l.take i, decide (x < 0) = false)) (fun i => ⟨mkE [(0, V.list (AY l) false), (4, V.int IntKind.i64 0), (5, .int .i64 i)], mkH []⟩) (fun i => l.length - i) 0 ⟨Nat.zero_le _, by simp⟩ ?_ ?_
 ·exact leM
 rintro i ⟨hi, hs⟩ KL0 hKL0
 try dsimp only at *
 refine Aa (Aa (Z 3 rfl ?_))
 simp only [go_sem, simprocAttr, tNo]
 refine Ab rfl (fun hc3 => ?_) fun hc3 => ?_
 ·simp only [hcL] at hc3
  refine Ac ?_
  refine Aa (Ad ?_)
  refine Aa (Z 5 rfl ?_)
  simp only [go_sem, simprocAttr, AV _ _ _ hc3, hc3, tNo]
  and_intros <;> try exact sdA
  refine Ab rfl (fun hc5 => ?_) fun hc5 => ?_
  ·simp only [hcL] at hc5
   refine Aa (Z 6 rfl ?_)
   simp only [go_sem, simprocAttr, tNo]
   refine Ae (hQ _ _ (.inl rfl) ?_ ?_ ?_) <;> simp only [go_sem, simprocAttr, Aa0]
   unfold PL; rw [if_pos (Yi hc3 (by simpa using hc5))]; rfl
  simp only [hcL] at hc5
  refine Ac ?_
  refine Z 4 rfl ?_
  simp only [go_sem, simprocAttr, inI, tNo]
  and_intros <;> try exact sdA
  refine hKL0 (i + 1) _ ?_ ?_ ?_
  ·(try dsimp only); exact ⟨hc3, fun x hx => by rw [AI hc3] at hx; rcases List.mem_append.1 hx with hx | hx; exact hs x hx; rw [List.mem_singleton.1 hx]; simpa using hc5⟩
  ·(try dsimp only); omega
  exact leM
 simp only [hcL] at hc3
 have hany := Yh hc3 hs
 have hw : PL l = Um 0 l := by unfold PL; rw [hany]; rfl
 have hnn : ∀ x ∈ l, 0 ≤ x := fun x hx => by have := List.any_eq_false.1 hany x hx; simpa using this
 refine Ai ?_
 simp only [go_sem, simprocAttr]
 refine Aa (Aa (Z 7 rfl ?_))
 simp only [go_sem, simprocAttr, tNo]
 refine Ad ?_
 refine Aj (α := Nat × Int) (fun γ => (γ.1 ≤ l.length) ∧ (Um 0 l = Um γ.2 (l.drop γ.1)) ∧ (0 ≤ γ.2) ∧ (γ.2 ≤ 1099511627776)) (fun γ => ⟨mkE [(0, V.list (AY l) false), (4, .int .i64 γ.2), (6, .int .i64 γ.1)], mkH []⟩) (fun γ => l.length - γ.1) (0, 0) ⟨Nat.zero_le _, rfl, by omega, by omega⟩ ?_ ?_
 ·exact leM
 rintro ⟨j, t⟩ ⟨hj, hr, ht0, ht1⟩ KL2 hKL2
 try dsimp only at *
 refine Aa (Aa (Z 8 rfl ?_))
 simp only [go_sem, simprocAttr, tNo]
 refine Ab rfl (fun hc8 => ?_) fun hc8 => ?_
 ·simp only [hcL] at hc8
  refine Ac ?_
  refine Aa (Ad ?_)
  refine Aa ?_
  have hd := List.drop_eq_getElem_cons hc8
  rw [hd, Um] at hr
  have hx0 := hnn l[j] (List.getElem_mem _)
  generalize hxx : l[j] = x at hr hx0
  refine Aa (Z 10 rfl ?_)
  simp only [go_sem, simprocAttr, inI, AV _ _ _ hc8, hc8, hxx, tNo]
  and_intros <;> try exact sdA
  refine Ab rfl (fun hc10 => ?_) fun hc10 => ?_
  ·simp only [hcL] at hc10
   refine Aa (Z 11 rfl ?_)
   simp only [go_sem, simprocAttr, tNo]
   refine Ae (hQ _ _ (.inl rfl) ?_ ?_ ?_) <;> simp only [go_sem, simprocAttr, Aa0]
   rw [hw, hr, if_pos hc10]; rfl
  simp only [hcL] at hc10
  rw [if_neg (by omega)] at hr
  refine Ac ?_
  refine Z 12 rfl ?_
  simp only [go_sem, simprocAttr, inI, AV _ _ _ hc8, hc8, hxx, tNo]
  and_intros <;> try exact sdA
  refine Z 9 rfl ?_
  simp only [go_sem, simprocAttr, inI, tNo]
  and_intros <;> try exact sdA
  refine hKL2 (j + 1, t + x) _ ?_ ?_ ?_
  ·(try dsimp only); exact ⟨hc8, hr, by omega, by omega⟩
  ·(try dsimp only); omega
  exact leM
 simp only [hcL] at hc8
 obtain rfl : j = l.length := by omega
 rw [List.drop_length, Um] at hr
 refine Ai ?_
 simp only [go_sem, simprocAttr]
 refine Aa (Aa (Z 13 rfl ?_))
 simp only [go_sem, simprocAttr, tNo]
 refine Ab rfl (fun hc13 => ?_) fun hc13 => ?_
 ·simp only [hcL] at hc13
  refine Aa (Z 14 rfl ?_)
  simp only [go_sem, simprocAttr, tNo]
  refine Ae (hQ _ _ (.inl rfl) ?_ ?_ ?_) <;> simp only [go_sem, simprocAttr, Aa0]
  rw [hw, hr, if_pos hc13]; rfl
 simp only [hcL] at hc13
 refine Ac ?_
 refine Aa (Z 15 rfl ?_)
 simp only [go_sem, simprocAttr, tNo]
 refine Ae (hQ _ _ (.inl rfl) ?_ ?_ ?_) <;> simp only [go_sem, simprocAttr, Aa0]
 rw [hw, hr, if_neg hc13]; rfl
def GF (x : Int × Int × Int) : List V := [.int .i64 x.1, .int .i64 x.2.1, .int .i64 x.2.2]
theorem IJ (a b : Int × Int × Int) (h : GF a = GF b) : a = b := by
 obtain ⟨a_a, a_b, a_c⟩ := a
 obtain ⟨b_a, b_b, b_c⟩ := b
 simp only [GF, List.cons.injEq, V.str.injEq, V.int.injEq, V.bool.injEq, V.agg.injEq, V.list.injEq, and_true, true_and] at h
 obtain ⟨h0, h1, h2⟩ := h
 subst h0
 subst h1
 subst h2
 rfl
def fSh (x : Int × Int × Int) : Prop × V := (0 ≤ x.1 ∧ x.1 ≤ 1099511627776 ∧ 0 ≤ x.2.1 ∧ x.2.1 ≤ x.2.2 ∧ 0 < x.2.2 ∧ x.2.2 ≤ 1099511627776, .tup [.int .i64 (x.1 * x.2.1 / x.2.2), .int .i64 (x.1 * x.2.1 % x.2.2)])
theorem BI (a w s : Int) : gOf GF fSh [.int .i64 a, .int .i64 w, .int .i64 s] = (0 ≤ a ∧ a ≤ 1099511627776 ∧ 0 ≤ w ∧ w ≤ s ∧ 0 < s ∧ s ≤ 1099511627776, .tup [.int .i64 (a * w / s), .int .i64 (a * w % s)]) := Ar IJ (a, w, s)
def Tn : Nat → Int
 | 0 => 0
 | k + 1 => 2 ^ k
theorem Rr {k : Nat} (h : k ≤ 40) : (1 : Int) ≤ 2 ^ k ∧ (2 : Int) ^ k ≤ 1099511627776 := by
 have h1 : (1 : Nat) ≤ 2 ^ k := Nat.one_le_two_pow
 have h2 : (2 : Nat) ^ k ≤ 2 ^ 40 := Nat.pow_le_pow_right (by omega) h
 have e : ((2 : Int) ^ k) = ((2 ^ k : Nat) : Int) := by rw [Int.natCast_pow]; rfl
 rw [e]; omega
theorem VM (a : Int) (k : Nat) : a / 2 ^ k - a / 2 ^ k % 2 = 2 * (a / 2 ^ (k + 1)) := by
 have e : a / 2 ^ (k + 1) = a / 2 ^ k / 2 := by rw [Int.pow_succ, Int.ediv_ediv_of_nonneg (Int.pow_nonneg (by decide))]
 rw [e]; omega
theorem Abq {k : Nat} (h : k ≤ 41) : 0 ≤ Tn k ∧ Tn k ≤ 1099511627776 := by
 cases k with
 | zero => exact ⟨Int.le_refl _, by decide⟩
 | succ k => have := Rr (show k ≤ 40 by omega); exact ⟨Int.le_trans (by decide) this.1, this.2⟩
theorem Ot (k : Nat) : (Tn (k + 1)).tdiv 2 = Tn k := by
 cases k with
 | zero => rfl
 | succ k =>
  show ((2 : Int) ^ (k + 1)).tdiv 2 = 2 ^ k
  rw [Int.pow_succ, Int.mul_tdiv_cancel _ (by decide)]
theorem Aiy {p w q r s : Int} (h : p * w = q * s + r) (hr : 0 ≤ r) (hp : 0 ≤ p) (hw : w ≤ s) (hs : 0 < s) : q ≤ p := by
 have h1 : p * w ≤ p * s := Int.mul_le_mul_of_nonneg_left hw hp
 exact Int.le_of_mul_le_mul_right (show q * s ≤ p * s by omega) hs
theorem Akn {p w q r s : Int} (h : p * w = q * s + r) (hr : r < s) (hp : 0 ≤ p) (hw : 0 ≤ w) (hs : 0 < s) : 0 ≤ q := by
 have h1 : 0 ≤ p * w := Int.mul_nonneg hp hw
 by_cases c : q < 0
 ·have : (q + 1) * s ≤ 0 := Int.mul_nonpos_of_nonpos_of_nonneg (by omega) (by omega)
  rw [Int.add_mul, Int.one_mul] at this
  omega
 ·omega
theorem Afs {x q r s : Int} (h : x = q * s + r) (hr0 : 0 ≤ r) (hr : r < s) : x / s = q ∧ x % s = r := by
 subst h
 have hs : 0 < s := by omega
 rw [Int.add_comm, Int.add_mul_ediv_right _ _ (by omega), Int.add_mul_emod_self_right, Int.ediv_eq_zero_of_lt hr0 hr, Int.emod_eq_of_lt hr0 hr]
 exact ⟨by omega, rfl⟩
theorem ZW : PU 156 (gOf GF fSh) := by
 have hG := AC
 refine AeK.a IJ (by simp [GF]) ?_
 rintro ⟨a, w, s⟩ hv C hN Q hQ
 have Z := AeK.R EF0 hG hN
 obtain ⟨a0, a1, w0, w1, s0, s1⟩ : 0 ≤ a ∧ a ≤ 1099511627776 ∧ 0 ≤ w ∧ w ≤ s ∧ 0 < s ∧ s ≤ 1099511627776 := hv
 have hst : a / 2 ^ 41 * w = 0 * s + 0 := by rw [Int.ediv_eq_zero_of_lt a0 (Int.lt_of_le_of_lt a1 (by decide))]; simp
 refine Aa (Z 0 rfl ?_)
 simp only [go_sem, simprocAttr, GF, tNo]
 refine Aa (Z 1 rfl ?_)
 simp only [go_sem, simprocAttr, tNo]
 refine Aa (Aa (Z 2 rfl ?_))
 simp only [go_sem, simprocAttr, tNo]
 refine Ad ?_
 refine Aj (α := Nat × Int × Int) (fun γ => (γ.1 ≤ 41) ∧ (a / 2 ^ γ.1 * w = γ.2.1 * s + γ.2.2) ∧ (0 ≤ γ.2.2) ∧ (γ.2.2 < s)) (fun γ => ⟨mkE [(0, V.int IntKind.i64 a), (1, V.int IntKind.i64 w), (2, V.int IntKind.i64 s), (8, .int .i64 γ.2.1), (9, .int .i64 γ.2.2), (10, .int .i64 (Tn γ.1))], mkH []⟩) (fun γ => γ.1) (41, 0, 0) ⟨Nat.le_refl _, hst, Int.le_refl _, s0⟩ ?_ ?_
 ·exact leM
 rintro ⟨k, q, r⟩ ⟨hk, h1, h2, h3⟩ KL0 hKL0
 try dsimp only at *
 refine Aa (Aa (Z 3 rfl ?_))
 simp only [go_sem, simprocAttr, tNo]
 refine Ab rfl (fun hb3 => ?_) fun hb3 => ?_
 ·obtain ⟨k, rfl⟩ : ∃ j, k = j + 1 := by cases k with | zero => (simp [Tn] at hb3) | succ k => exact ⟨k, rfl⟩
  have pb := Rr (show k ≤ 40 by omega)
  have hp0 : 0 ≤ a / 2 ^ (k + 1) := Int.ediv_nonneg a0 (Int.pow_nonneg (by decide))
  have hpa : a / 2 ^ (k + 1) ≤ a := Int.ediv_le_self _ a0
  have hq1 := Aiy h1 h2 hp0 w1 s0
  have hq0 := Akn h1 h3 hp0 w0 s0
  have hps := VM a k
  have hn0 : 0 ≤ a / 2 ^ k := Int.ediv_nonneg a0 (Int.pow_nonneg (by decide))
  have hna : a / 2 ^ k ≤ a := Int.ediv_le_self _ a0
  have htd : a.tdiv (Tn (k + 1)) = a / 2 ^ k := Int.tdiv_eq_ediv_of_nonneg a0
  have htm : (a / 2 ^ k).tmod 2 = a / 2 ^ k % 2 := Int.tmod_eq_emod_of_nonneg hn0
  have hbn : Tn (k + 1) = 0 ↔ False := ⟨fun h => by simp only [Tn] at h; omega, False.elim⟩
  generalize hP : a / 2 ^ (k + 1) = P at *
  generalize hNN : a / 2 ^ k = N at *
  refine Ac ?_
  refine Aa (Ad ?_)
  refine Aa (Z 5 rfl ?_)
  simp only [go_sem, simprocAttr, inI, tNo]
  and_intros <;> try exact sdA
  refine BD (α := Int) (fun b => (b = N % 2)) (fun b => ⟨mkE [(0, V.int IntKind.i64 a), (1, V.int IntKind.i64 w), (2, V.int IntKind.i64 s), (8, V.int IntKind.i64 (2 * q)), (9, .int .i64 (2 * r + b * w)), (10, V.int IntKind.i64 (Tn (k + 1)))], mkH []⟩) ?_ ?_
  ·intro KC6 hKC6
   refine Aa (Z 6 rfl ?_)
   simp only [go_sem, simprocAttr, htd, htm, hbn, tNo]
   and_intros <;> try exact sdA
   refine Ab rfl (fun hb6 => ?_) fun hb6 => ?_
   ·refine Z 7 rfl ?_
    simp only [go_sem, simprocAttr, inI, tNo]
    and_intros <;> try exact sdA
    refine hKC6 (1) _ ?_ ?_
    ·(try dsimp only); exact (by have h9 : N % 2 = 1 := (by simpa using hb6); omega)
    refine Le.mk _ _ ?_ ?_ rfl <;> simp only [go_sem, simprocAttr, Int.one_mul] <;> and_intros <;> try exact leA
   refine Ac ?_
   refine hKC6 (0) _ ?_ ?_
   ·(try dsimp only); exact (by have h9 : ¬ N % 2 = 1 := (by simpa using hb6); omega)
   refine Le.mk _ _ ?_ ?_ rfl <;> simp only [go_sem, simprocAttr, Int.zero_mul, Int.add_zero] <;> and_intros <;> try exact leA
  rintro b hb
  have hb2 : b = 0 ∨ b = 1 := by omega
  have hbw : 0 ≤ b * w ∧ b * w ≤ s := by rcases hb2 with rfl | rfl <;> omega
  have hNw : N * w = 2 * q * s + (2 * r + b * w) := by rw [show N = 2 * P + b by omega, show (2 * P + b) * w = 2 * (P * w) + b * w by grind, h1]; grind
  refine Ad ?_
  refine Aj (α := Int × Int) (fun γ => (N * w = γ.1 * s + γ.2) ∧ (0 ≤ γ.2) ∧ (γ.2 ≤ 3298534883328) ∧ (0 ≤ γ.1)) (fun γ => ⟨mkE [(0, V.int IntKind.i64 a), (1, V.int IntKind.i64 w), (2, V.int IntKind.i64 s), (8, .int .i64 γ.1), (9, .int .i64 γ.2), (10, V.int IntKind.i64 (Tn (k + 1)))], mkH []⟩) (fun γ => γ.2.toNat) (2 * q, 2 * r + b * w) ⟨hNw, by omega, by omega, by omega⟩ ?_ ?_
  ·exact leM
  rintro ⟨q2, r2⟩ ⟨i1, i2, i3, i4⟩ KL2 hKL2
  try dsimp only at *
  refine Aa (Aa (Z 8 rfl ?_))
  simp only [go_sem, simprocAttr, tNo]
  refine Ab rfl (fun hc8 => ?_) fun hc8 => ?_
  ·simp only [hcL] at hc8
   refine Ac ?_
   refine Ad ?_
   have hqq := Aiy i1 i2 hn0 w1 s0
   refine Z 9 rfl ?_
   simp only [go_sem, simprocAttr, inI, tNo]
   and_intros <;> try exact sdA
   refine hKL2 (q2 + 1, r2 - s) _ ?_ ?_ ?_
   ·(try dsimp only); exact ⟨by rw [i1, Int.add_mul, Int.one_mul]; omega, by omega, by omega, by omega⟩
   ·(try dsimp only); omega
   exact leM
  simp only [hcL] at hc8
  refine Ai ?_
  simp only [go_sem, simprocAttr]
  have hbk := Abq (show k ≤ 41 by omega)
  refine Z 4 rfl ?_
  simp only [go_sem, simprocAttr, Ot, tNo]
  and_intros <;> try exact sdA
  refine hKL0 (k, q2, r2) _ ?_ ?_ ?_
  ·(try dsimp only); exact ⟨by omega, by rw [hNN]; exact i1, i2, by omega⟩
  ·(try dsimp only); omega
  refine Le.mk _ _ ?_ ?_ rfl <;> simp only [go_sem, simprocAttr, Ot] <;> and_intros <;> try exact leA
 obtain rfl : k = 0 := by cases k with | zero => rfl | succ k => (have pb := Rr (show k ≤ 40 by omega); have h9 : ¬ ((0 : Int) < 2 ^ k) := of_decide_eq_false hb3; omega)
 rw [Int.pow_zero, Int.ediv_one] at h1
 obtain ⟨e1, e2⟩ := Afs h1 h2 h3
 refine Ai ?_
 simp only [go_sem, simprocAttr]
 refine Aa (Z 10 rfl ?_)
 simp only [go_sem, simprocAttr, tNo]
 refine Ae (hQ _ _ (.inl rfl) ?_ ?_ ?_) <;> simp only [go_sem, simprocAttr, fSh]
 rw [e1, e2]
def Wi (l : List Int) : Nat → Nat → Nat → Nat
 | 0, _, at' => at'
 | f + 1, i, at' => Wi l f (i + 1) (if l.getD at' 0 < l.getD i 0 then i else at')
def Ht (l : List Int) : Nat := Wi l l.length 0 0
def fGr (l : List Int) : Prop × V := (l.length ≤ 140737488355328 ∧ l ≠ [], .int .i64 (Ht l : Int))
theorem Afn (l : List Int) : gOf aLi fGr [.list (AY l) false] = (l.length ≤ 140737488355328 ∧ l ≠ [], .int .i64 (Ht l : Int)) := Ar Gu l
theorem Cd {l : List Int} {i : Nat} (h : i < l.length) : l.getD i 0 = l[i] := by rw [List.getD_eq_getElem?_getD, List.getElem?_eq_getElem h]; rfl
def PJ (l : List Int) (n k : Nat) : Prop := (∀ j, j < n → l.getD j 0 ≤ l.getD k 0) ∧ ∀ j, j < k → l.getD j 0 < l.getD k 0
theorem KR (l : List Int) : ∀ (f i k : Nat), k < i ∨ i = 0 ∧ k = 0 → PJ l i k → PJ l (i + f) (Wi l f i k) ∧ (Wi l f i k < i + f ∨ i + f = 0 ∧ Wi l f i k = 0)
 | 0, i, k, hk, h => ⟨h, hk⟩
 | f + 1, i, k, hk, h => by
  rw [Wi, show i + (f + 1) = i + 1 + f by omega]
  refine KR l f (i + 1) _ (by split <;> omega) ?_
  split
  ·rename_i c
   refine ⟨fun j hj => ?_, fun j hj => ?_⟩
   ·rcases Nat.lt_or_ge j i with c2 | c2
    ·have := h.1 j c2; omega
    ·obtain rfl : j = i := by omega
     exact Int.le_refl _
   ·have := h.1 j hj; omega
  ·rename_i c
   refine ⟨fun j hj => ?_, h.2⟩
   rcases Nat.lt_or_ge j i with c2 | c2
   ·exact h.1 j c2
   ·obtain rfl : j = i := by omega
    omega
theorem Iy (l : List Int) : PJ l l.length (Ht l) ∧ (Ht l < l.length ∨ l.length = 0 ∧ Ht l = 0) := by
 have := KR l l.length 0 0 (.inr ⟨rfl, rfl⟩) ⟨fun j hj => by omega, fun j hj => by omega⟩
 rw [Nat.zero_add] at this
 exact this
theorem Wf {l : List Int} {n k m : Nat} (hk : k < n) (hm : m < n) (h1 : PJ l n k) (h2 : PJ l n m) : k = m := by
 rcases Nat.lt_or_ge k m with c | c
 ·have a1 := h2.2 k c
  have a2 := h1.1 m hm
  omega
 ·rcases Nat.lt_or_ge m k with c2 | c2
  ·have a1 := h1.2 m c2
   have a2 := h2.1 k hk
   omega
  ·omega
theorem Pp : PU 157 (gOf aLi fGr) := by
 have hG := AC
 refine AeJ.a Gu (by simp [aLi]) ?_
 rintro l hv C hN Q hQ
 have Y := AeJ.D EF0 hG hN mixed
 have Z := AeJ.R EF0 hG hN
 obtain ⟨hv, hne⟩ : l.length ≤ 140737488355328 ∧ l ≠ [] := hv
 have hpos : 0 < l.length := List.length_pos_iff.2 hne
 refine Aa (Z 0 rfl ?_)
 simp only [go_sem, simprocAttr, aLi, tNo]
 refine Aa (Z 1 rfl ?_)
 simp only [go_sem, simprocAttr, tNo]
 refine Aa (Aa (Z 2 rfl ?_))
 simp only [go_sem, simprocAttr, tNo]
 refine Ad ?_
 refine Aj (α := Nat × Nat) (fun γ => (γ.1 ≤ l.length) ∧ (γ.2 < l.length) ∧ (Ht l = Wi l (l.length - γ.1) γ.1 γ.2)) (fun γ => ⟨mkE [(0, V.list (AY l) false), (3, .int .i64 γ.2), (4, .int .i64 γ.1)], mkH []⟩) (fun γ => l.length - γ.1) (0, 0) ⟨Nat.zero_le _, hpos, rfl⟩ ?_ ?_
 ·exact leM
 rintro ⟨i, k⟩ ⟨hi, hk, hs⟩ KL0 hKL0
 try dsimp only at *
 refine Aa (Aa (Z 3 rfl ?_))
 simp only [go_sem, simprocAttr, tNo]
 refine Ab rfl (fun hc3 => ?_) fun hc3 => ?_
 ·simp only [hcL] at hc3
  refine Ac ?_
  refine Aa (Ad ?_)
  have hst : l.length - i = l.length - (i + 1) + 1 := by omega
  rw [hst, Wi, Cd hc3, Cd hk] at hs
  refine Aa (Y 5 rfl (by kernel_rfl) ?_)
  simp only [go_sem, simprocAttr, AV _ _ _ hc3, AV _ _ _ hk, hc3, hk, tNo]
  and_intros <;> try exact sdA
  refine Ab rfl (fun hc5 => ?_) fun hc5 => ?_
  ·simp only [hcL] at hc5
   rw [if_pos hc5] at hs
   refine Z 6 rfl ?_
   simp only [go_sem, simprocAttr, tNo]
   refine Z 4 rfl ?_
   simp only [go_sem, simprocAttr, inI, tNo]
   and_intros <;> try exact sdA
   refine hKL0 (i + 1, i) _ ?_ ?_ ?_
   ·(try dsimp only); exact ⟨hc3, hc3, hs⟩
   ·(try dsimp only); omega
   exact leM
  simp only [hcL] at hc5
  rw [if_neg (by omega)] at hs
  refine Ac ?_
  refine Z 4 rfl ?_
  simp only [go_sem, simprocAttr, inI, tNo]
  and_intros <;> try exact sdA
  refine hKL0 (i + 1, k) _ ?_ ?_ ?_
  ·(try dsimp only); exact ⟨hc3, hk, hs⟩
  ·(try dsimp only); omega
  exact leM
 simp only [hcL] at hc3
 obtain rfl : i = l.length := by omega
 rw [Nat.sub_self, Wi] at hs
 refine Ai ?_
 simp only [go_sem, simprocAttr]
 refine Aa (Z 7 rfl ?_)
 simp only [go_sem, simprocAttr, tNo]
 refine Ae (hQ _ _ (.inl rfl) ?_ ?_ ?_) <;> simp only [go_sem, simprocAttr, fGr, hs]
def Fn : List Nat → List Int → List Int
 | [], xs => xs
 | i :: os, xs => Fn os (xs.set i (xs.getD i 0 + 1))
theorem KT : ∀ (O : List Nat) (xs : List Int), (Fn O xs).length = xs.length
 | [], _ => rfl
 | i :: O, xs => by rw [Fn, KT O, List.length_set]
theorem GB (sg : Int) : ∀ (O : List Nat) (left : Int) (xs : List Int), left ≤ 0 → CL sg O left xs = xs
 | [], _, _, _ => rfl
 | i :: O, left, xs, h => by rw [CL, if_neg (by omega)]; exact GB sg O left xs h
theorem Pk (sg : Int) (xs : List Int) (i : Nat) (hi : i < xs.length) : (xs.map fun q => sg * q).set i ((xs.map fun q => sg * q).getD i 0 + sg * 1) = (xs.set i (xs.getD i 0 + 1)).map fun q => sg * q := by
 rw [List.map_set]
 congr 1
 rw [Cd (by rw [List.length_map]; exact hi), List.getElem_map, Cd hi, Int.mul_add]
theorem HA (sg : Int) : ∀ (O : List Nat) (k : Nat) (xs : List Int), (∀ i ∈ O, i < xs.length) → k ≤ O.length → CL sg O k (xs.map fun q => sg * q) = (Fn (O.take k) xs).map fun q => sg * q
 | O, 0, xs, _, _ => by rw [GB _ _ _ _ (by omega)]; rfl
 | [], k + 1, xs, _, h => by simp at h
 | i :: O, k + 1, xs, h, hk => by
  rw [CL, if_pos (by omega), Pk sg xs i (h i (List.mem_cons_self ..)), List.take_succ_cons, Fn, show ((k + 1 : Nat) : Int) - 1 = k by omega]
  exact HA sg O k _ (fun j hj => by rw [List.length_set]; exact h j (List.mem_cons_of_mem _ hj)) (by simpa using hk)
def Ku : Nat → List Int → List Int → List Int
 | 0, _, xs => xs
 | k + 1, rs, xs => Ku k (rs.set (Ht rs) (-1)) (xs.set (Ht rs) (xs.getD (Ht rs) 0 + 1))
def Aim (R rs : List Int) (O : List Nat) : Prop := rs.length = R.length ∧ ∀ j, j < R.length → rs.getD j 0 = if j ∈ O then R.getD j 0 else -1
theorem Rt {R : List Int} (hR : ∀ x ∈ R, 0 ≤ x) : ∀ (O : List Nat) (k : Nat) (rs xs : List Int), Bu (fr R) O → (∀ i ∈ O, i < R.length) → Aim R rs O → k ≤ O.length → Ku k rs xs = Fn (O.take k) xs
 | O, 0, rs, xs, _, _, _, _ => rfl
 | [], k + 1, rs, xs, _, _, _, h => by simp at h
 | i :: O, k + 1, rs, xs, hs, hO, hT, hk => by
  obtain ⟨s1, s2⟩ := List.pairwise_cons.1 hs
  have hi := hO i (List.mem_cons_self ..)
  have h0 : 0 ≤ R.getD i 0 := by rw [Cd hi]; exact hR _ (List.getElem_mem hi)
  have hval : ∀ j, j < R.length → rs.getD j 0 ≤ R.getD i 0 ∧ (j < i → rs.getD j 0 < R.getD i 0) := fun j hj => by
   rw [hT.2 j hj]
   by_cases c : j ∈ i :: O
   ·rw [if_pos c]
    rcases List.mem_cons.1 c with rfl | c
    ·exact ⟨Int.le_refl _, fun h => by omega⟩
    ·have := s1 j c
     unfold Tb fr at this
     exact ⟨by omega, fun h => by omega⟩
   ·rw [if_neg c]; exact ⟨by omega, fun _ => by omega⟩
  have hii : rs.getD i 0 = R.getD i 0 := by rw [hT.2 i hi, if_pos (List.mem_cons_self ..)]
  have hmax : PJ rs rs.length i := ⟨fun j hj => by rw [hii]; exact (hval j (hT.1 ▸ hj)).1, fun j hj => by rw [hii]; exact (hval j (by omega)).2 hj⟩
  obtain ⟨m1, m2⟩ := Iy rs
  have hm : Ht rs = i := Wf (l := rs) (n := rs.length) (by have := hT.1; omega) (by have := hT.1; omega) m1 hmax
  rw [Ku, hm, List.take_succ_cons, Fn]
  have hni : i ∉ O := fun h => Tb.irr (s1 i h)
  refine Rt hR O k _ _ s2 (fun j hj => hO j (List.mem_cons_of_mem _ hj)) ⟨by rw [List.length_set]; exact hT.1, fun j hj => ?_⟩ (by simpa using hk)
  rw [List.getD_eq_getElem?_getD, List.getElem?_set]
  by_cases c : i = j
  ·subst c
   rw [if_pos rfl, if_pos (by have := hT.1; omega), if_neg hni]; rfl
  ·rw [if_neg c, ← List.getD_eq_getElem?_getD, hT.2 j hj]
   by_cases c2 : j ∈ O
   ·rw [if_pos c2, if_pos (List.mem_cons_of_mem _ c2)]
   ·rw [if_neg c2, if_neg (fun h => by rcases List.mem_cons.1 h with h | h; exact c h.symm; exact c2 h)]
theorem Mg {A S : Int} (hS : 0 < S) : ∀ {l : List Int}, A * l.sum = S * (qsP A S l).sum + (rsP A S l).sum ∧ 0 ≤ (rsP A S l).sum ∧ (rsP A S l).sum ≤ (l.length : Int) * (S - 1)
 | [] => by simp [qsP, rsP]
 | w :: l => by
  obtain ⟨h1, h2, h3⟩ := Mg (A := A) hS (l := l)
  have e1 : (qsP A S (w :: l)).sum = A * w / S + (qsP A S l).sum := by simp [qsP]
  have e2 : (rsP A S (w :: l)).sum = A * w % S + (rsP A S l).sum := by simp [rsP]
  have m1 := Int.emod_nonneg (A * w) (show S ≠ 0 by omega)
  have m2 := Int.emod_lt_of_pos (A * w) hS
  have m3 := Int.mul_ediv_add_emod (A * w) S
  rw [e1, e2, List.sum_cons, Int.mul_add, Int.mul_add, List.length_cons]
  refine ⟨by omega, by omega, ?_⟩
  rw [show ((l.length + 1 : Nat) : Int) * (S - 1) = (l.length : Int) * (S - 1) + (S - 1) by rw [Int.natCast_add, Int.add_mul]; simp]
  omega
theorem Ji {A S : Int} {l : List Int} (hS : 0 < S) (hsum : l.sum = S) (hl : 0 < l.length) : 0 ≤ A - (qsP A S l).sum ∧ A - (qsP A S l).sum < l.length := by
 obtain ⟨h1, h2, h3⟩ := Mg (A := A) hS (l := l)
 rw [hsum] at h1
 have e : (A - (qsP A S l).sum) * S = (rsP A S l).sum := by rw [Int.sub_mul, Int.mul_comm (qsP A S l).sum S]; omega
 generalize A - (qsP A S l).sum = D at *
 refine ⟨?_, ?_⟩
 ·by_cases c : D < 0
  ·have : D * S < 0 := Int.mul_neg_of_neg_of_pos c hS
   omega
  ·omega
 ·refine Int.lt_of_mul_lt_mul_right (a := S) ?_ (by omega)
  have : (l.length : Int) * (S - 1) = (l.length : Int) * S - l.length := by rw [Int.mul_sub]; simp
  omega
theorem OY {a S : Int} {l : List Int} (hS : 0 < S) (hsum : l.sum = S) (hl : 0 < l.length) :
  DL a S l = (Ku ((a.natAbs : Int) - (qsP a.natAbs S l).sum).toNat (rsP a.natAbs S l) (qsP a.natAbs S l)).map fun q => sgn a * q := by
 obtain ⟨b1, b2⟩ := Ji (A := (a.natAbs : Int)) hS hsum hl
 obtain ⟨k, hk⟩ := Int.eq_ofNat_of_zero_le b1
 have hlR : (rsP a.natAbs S l).length = l.length := List.length_map _
 have hlQ : (qsP a.natAbs S l).length = l.length := List.length_map _
 generalize hO : msT (fr (rsP a.natAbs S l)) (List.range' 0 l.length) = O
 have hOp : O.Perm (List.range' 0 l.length) := hO ▸ AP _
 have hOl : O.length = l.length := by rw [hOp.length_eq, List.length_range']
 have hOs : Bu (fr (rsP a.natAbs S l)) O := hO ▸ Cx (EE _ _)
 have hOm : ∀ i ∈ O, i < l.length := fun i hi => by have := Fh (hOp.mem_iff.1 hi); omega
 unfold DL
 rw [hO, hk, Int.toNat_natCast, HA _ O k _ (fun i hi => by rw [hlQ]; exact hOm i hi) (by omega)]
 rw [Rt (R := rsP a.natAbs S l) (fun x hx => by obtain ⟨w, _, rfl⟩ := List.mem_map.1 hx; exact Int.emod_nonneg _ (by omega)) O k _ _ hOs (fun i hi => by rw [hlR]; exact hOm i hi) ⟨rfl, fun j hj => by rw [if_pos (hOp.mem_iff.2 (by rw [List.mem_range'_1]; omega))]⟩ (by omega)]
theorem RK {f : Int → Int} {ys : List Int} {i : Nat} (hi : i ≤ ys.length) : ((ys.map f).take i ++ ys.drop i).length = ys.length := by
 rw [List.length_append, List.length_take, List.length_map, List.length_drop]; omega
theorem XB {f : Int → Int} {ys : List Int} {i : Nat} (hi : i < ys.length) (h : i < ((ys.map f).take i ++ ys.drop i).length) : ((ys.map f).take i ++ ys.drop i)[i] = ys[i] := by
 have h1 : ((ys.map f).take i).length = i := by rw [List.length_take, List.length_map]; omega
 rw [List.getElem_append_right (by omega)]
 simp [h1]
theorem RJ {f : Int → Int} {ys : List Int} {i : Nat} (hi : i < ys.length) : ((ys.map f).take i ++ ys.drop i).set i (f ys[i]) = (ys.map f).take (i + 1) ++ ys.drop (i + 1) := by
 have h1 : ((ys.map f).take i).length = i := by rw [List.length_take, List.length_map]; omega
 rw [List.set_append_right _ _ (by omega), h1, Nat.sub_self, List.drop_eq_getElem_cons hi, List.set_cons_zero, List.take_succ_eq_append_getElem (show i < (ys.map f).length by rw [List.length_map]; exact hi), List.getElem_map, List.append_assoc]
 rfl
theorem VV {f : Int → Int} {ys : List Int} {i : Nat} (hi : i < ys.length) (hf : f ys[i] = ys[i]) : (ys.map f).take i ++ ys.drop i = (ys.map f).take (i + 1) ++ ys.drop (i + 1) := by
 rw [← RJ hi, hf, ← XB (f := f) hi (by rw [RK (by omega)]; exact hi), List.set_getElem_self]
theorem Qj : ∀ {l : List Int} {s : Int}, 1099511627776 < s → (∀ w ∈ l, 0 ≤ w) → Fx s l = (s, 0)
 | [], s, h, _ => by rw [Fx, if_neg (by omega)]
 | w :: l, s, h, hn => by
  rw [Fx, if_neg (by have := hn w (List.mem_cons_self ..); omega), show stepT s w = s by unfold stepT; rw [if_neg (by omega)]]
  exact Qj h fun x hx => hn x (List.mem_cons_of_mem _ hx)
theorem Rb : ∀ {l : List Int} {s : Int}, 0 ≤ s → s ≤ 1099511627776 → (∀ w ∈ l, 0 ≤ w) → (Um s l = (0, 11) ∧ ∃ T, Fx s l = (T, 0) ∧ 1099511627776 < T) ∨ (Um s l = Fx s l ∧ (Fx s l).1 ≤ 1099511627776)
 | [], s, h0, h1, _ => .inr ⟨rfl, by rw [Fx]; split <;> simp_all⟩
 | w :: l, s, h0, h1, hn => by
  have hw := hn w (List.mem_cons_self ..)
  have hl : ∀ x ∈ l, 0 ≤ x := fun x hx => hn x (List.mem_cons_of_mem _ hx)
  rw [Um, Fx, if_neg (show ¬ w < 0 by omega)]
  have hst : stepT s w = s + min w 1099511627777 := by unfold stepT; rw [if_pos (by omega)]
  rw [hst]
  split
  ·exact .inl ⟨rfl, _, Qj (by omega) hl, by omega⟩
  ·rw [show min w 1099511627777 = w by omega]
   exact Rb (by omega) (by omega) hl
theorem Qi : ∀ {l : List Int} {s : Int}, l.any (fun w => decide (w < 0)) = true → Fx s l = (0, 2)
 | [], s, h => by simp at h
 | w :: l, s, h => by
  rw [Fx]
  split
  ·rfl
  ·rename_i c
   rw [List.any_cons, decide_eq_false c, Bool.false_or] at h
   exact Qi h
theorem PW (a : Int) (l : List Int) : ((PL l).2 ≠ 0 → BE a l = ((PL l).2, [])) ∧ ((PL l).2 = 0 → Fx 0 l = ((PL l).1, 0) ∧ (PL l).1 ≤ 1099511627776) := by
 unfold PL
 by_cases hany : l.any (fun w => decide (w < 0)) = true
 ·rw [if_pos hany]
  have := Qi (s := 0) hany
  exact ⟨fun _ => by unfold BE; rw [this]; rfl, fun h => by cases h⟩
 ·rw [if_neg hany]
  have hn : ∀ w ∈ l, 0 ≤ w := fun w hw => by
   have := List.any_eq_false.1 (Bool.eq_false_iff.2 hany) w hw
   simpa using this
  rcases Rb (Int.le_refl 0) (by omega) hn with ⟨h1, T, h2, h3⟩ | ⟨h1, h2⟩
  ·rw [h1]
   exact ⟨fun _ => by unfold BE; rw [h2, if_neg (by simp), if_pos (.inr h3)], fun h => by cases h⟩
  ·rw [h1]
   exact ⟨fun h => by have := LG (l := l) (s := 0) h; unfold BE; rw [if_pos h, this], fun h => ⟨Prod.ext rfl h, h2⟩⟩
noncomputable def tRs : Tab
 | 153 => (gOf aLi Aa0)
 | 154 => (gOf aI Aa5)
 | 155 => (gOf aI Afh)
 | 156 => (gOf GF fSh)
 | 157 => (gOf aLi fGr)
 | _ => gNo
theorem AcO : ∀ f, PU f (tRs f) := fun f => by
 unfold tRs
 split
 ·exact YD
 ·exact WY
 ·exact Aab
 ·exact ZW
 ·exact Pp
 ·exact Ao.no
theorem VB : PU 93 (gOf aSp EM) := by
 have hG := AcO
 refine AiE.a MH (by simp [aSp]) ?_
 rintro ⟨a, l⟩ hv C hN Q hQ
 have Y := AiE.D EF0 hG hN mixed
 have Z := AiE.R EF0 hG hN
 obtain ⟨hl, hia, hil⟩ : l.length ≤ 1000000 ∧ inI a ∧ ∀ w ∈ l, inI w := hv
 have hl2 : l.length ≤ 140737488355328 := by omega
 obtain ⟨w1, w2⟩ := PW a l
 obtain ⟨⟨S, e⟩, htr⟩ : ∃ y, PL l = y := ⟨_, rfl⟩
 rw [htr] at w1 w2
 dsimp only at w1 w2
 refine Aa (Z 0 rfl ?_)
 simp only [go_sem, simprocAttr, aSp, tRs, Bf, Aq, Bg, BI]
 refine Aa (Z 1 rfl ?_)
 simp only [go_sem, simprocAttr, hl2, htr, Pi, tRs, Bf, Aq, Bg, BI]
 and_intros <;> try exact sdA
 refine Aa (Aa (Z 2 rfl ?_))
 simp only [go_sem, simprocAttr, tRs, Bf, Aq, Bg, BI]
 refine Ab rfl (fun hb2 => ?_) fun hb2 => ?_
 ·have he : e ≠ 0 := by simpa using hb2
  have hsp := w1 he
  refine Aa (Z 3 rfl ?_)
  simp only [go_sem, simprocAttr, tRs, Bf, Aq, Bg, BI]
  refine AW.le (s' := ⟨mkE [(4, .list [] false), (5, .int .i64 e)], mkH []⟩) (Le.mk _ _ ?_ ?_ rfl) (Ae (hQ _ _ (.inl rfl) ?_ ?_ ?_)) <;> simp only [go_sem, simprocAttr, EM, Cr, hsp, Cy]
 have he : e = 0 := by simpa using hb2
 obtain ⟨htt, hSm⟩ := w2 he
 obtain ⟨hnn, hsum, hS0⟩ := MT htt hSm (Int.le_refl 0)
 rw [Int.zero_add] at hsum
 refine Ac ?_
 refine Aa (Aa (Z 4 rfl ?_))
 simp only [go_sem, simprocAttr, tRs, Bf, Aq, Bg, BI]
 and_intros <;> try exact sdA
 refine Ab rfl (fun hb4 => ?_) fun hb4 => ?_
 ·have hf : NP a = false := by simpa using hb4
  have hsp : BE a l = (11, []) := by unfold BE; rw [htt, if_neg (by simp), if_pos (.inl hf)]
  refine Aa (Z 5 rfl ?_)
  simp only [go_sem, simprocAttr, tRs, Bf, Aq, Bg, BI]
  refine AW.le (s' := ⟨mkE [(4, .list [] false), (5, .int .i64 11)], mkH []⟩) (Le.mk _ _ ?_ ?_ rfl) (Ae (hQ _ _ (.inl rfl) ?_ ?_ ?_)) <;> simp only [go_sem, simprocAttr, EM, Cr, hsp, Cy]
 have hf : NP a = true := by simpa using hb4
 have hle : ∀ w ∈ l, w ≤ S := fun w hw => hsum ▸ Dl hnn w hw
 have hsp : BE a l = (0, DL a S l) := by unfold BE; rw [htt, if_neg (by simp), if_neg (by rw [hf]; simp; omega)]
 have hlen0 : 0 < l.length := by cases l with | nil => (simp at hsum; omega) | cons x l => simp
 rw [OY hS0 hsum hlen0] at hsp
 obtain ⟨A, hA⟩ : ∃ A, A = (a.natAbs : Int) := ⟨_, rfl⟩
 have hfb := Sn hf
 have hA0 : 0 ≤ A ∧ A ≤ 1099511627776 := by omega
 have hamn : a ≠ -9223372036854775808 := by omega
 obtain ⟨qs1, hqs1⟩ : ∃ Q, Q = qsP A S l := ⟨_, rfl⟩
 obtain ⟨rs1, hrs1⟩ : ∃ R, R = rsP A S l := ⟨_, rfl⟩
 rw [← hA, ← hqs1, ← hrs1] at hsp
 have lqs1 : qs1.length = l.length := by rw [hqs1]; exact List.length_map _
 have lrs1 : rs1.length = l.length := by rw [hrs1]; exact List.length_map _
 have bqs1 : ∀ x ∈ qs1, 0 ≤ x ∧ x ≤ 1099511627776 := fun x hx => by rw [hqs1] at hx; obtain ⟨w, hw, rfl⟩ := List.mem_map.1 hx; have := Aga hA0.1 (hnn w hw) (hle w hw) hS0; exact ⟨this.1, by omega⟩
 refine Ac ?_
 refine Aa (Z 6 rfl ?_)
 simp only [go_sem, simprocAttr, tRs, Bf, Aq, Bg, BI]
 refine Aa (Z 7 rfl ?_)
 simp only [go_sem, simprocAttr, hia, hamn, ← hA, tRs, Bf, Aq, Bg, BI]
 and_intros <;> try exact sdA
 refine Aa (Aa (Z 8 rfl ?_))
 simp only [go_sem, simprocAttr, tRs, Bf, Aq, Bg, BI]
 refine Ad ?_
 refine Aj (α := Nat × (List Int) × (List Int)) (fun γ => (γ.1 ≤ l.length) ∧ (γ.2.1 = qs1.take γ.1) ∧ (γ.2.2 = rs1.take γ.1) ∧ (γ.2.1.length = γ.1) ∧ (γ.2.2.length = γ.1)) (fun γ => ⟨mkE [(0, V.int IntKind.i64 a), (1, V.list (AY l) false), (6, V.int IntKind.i64 S), (8, .own 49 γ.2.1.length), (9, .own 53 γ.2.2.length), (10, .int .i64 (A - γ.2.1.sum)), (11, .int .i64 γ.1)], mkH [(49, .arr 3 1 (AY γ.2.1)), (53, .arr 3 1 (AY γ.2.2))]⟩) (fun γ => l.length - γ.1) (0, [], []) ⟨Nat.zero_le _, rfl, rfl, rfl, rfl⟩ ?_ ?_
 ·refine Le.mk _ _ ?_ ?_ rfl <;> simp only [go_sem, simprocAttr, Cy, List.length_nil, List.sum_nil, Int.sub_zero] <;> and_intros <;> try exact leA
 rintro ⟨i, xs, rs⟩ ⟨hi, g1, g2, g3, g4⟩ KL0 hKL0
 try dsimp only at *
 refine Aa (Aa (Z 9 rfl ?_))
 simp only [go_sem, simprocAttr, tRs, Bf, Aq, Bg, BI]
 refine Ab rfl (fun hc9 => ?_) fun hc9 => ?_
 ·simp only [hcL] at hc9
  refine Ac ?_
  refine Aa (Ad ?_)
  obtain ⟨w, hw⟩ : ∃ w, w = l[i] := ⟨_, rfl⟩
  have hwm : w ∈ l := hw ▸ List.getElem_mem _
  have hw0 := hnn w hwm
  have hwS := hle w hwm
  have qb := Aga hA0.1 hw0 hwS hS0
  refine Aa (Y 11 rfl (by kernel_rfl) ?_)
  simp only [go_sem, simprocAttr, AV _ _ _ hc9, hc9, ← hw, hia, hamn, ← hA, hA0.1, hA0.2, hw0, hwS, hS0, hSm, tRs, Bf, Aq, Bg, BI]
  have hRi : rs1[i]'(by omega) = A * w % S := by simp only [hrs1, rsP, List.getElem_map, ← hw]
  have hQi : qs1[i]'(by omega) = A * w / S := by simp only [hqs1, qsP, List.getElem_map, ← hw]
  have hQs := Ed bqs1 i (by omega)
  rw [← g1] at hQs
  have hsap : A - (xs ++ [A * w / S]).sum = A - xs.sum - A * w / S := by rw [List.sum_append]; simp; omega
  refine Aa (Z 12 rfl ?_)
  simp only [go_sem, simprocAttr, tRs, Bf, Aq, Bg, BI]
  and_intros <;> try exact sdA
  refine Aa (Z 13 rfl ?_)
  simp only [go_sem, simprocAttr, tRs, Bf, Aq, Bg, BI]
  and_intros <;> try exact sdA
  refine Z 14 rfl ?_
  simp only [go_sem, simprocAttr, inI, tRs, Bf, Aq, Bg, BI]
  and_intros <;> try exact sdA
  refine Z 10 rfl ?_
  simp only [go_sem, simprocAttr, inI, tRs, Bf, Aq, Bg, BI]
  and_intros <;> try exact sdA
  refine hKL0 (i + 1, xs ++ [A * w / S], rs ++ [A * w % S]) _ ?_ ?_ ?_
  ·(try dsimp only); exact ⟨hc9, by rw [g1, AI (by omega), hQi], by rw [g2, AI (by omega), hRi], by simp [g3], by simp [g4]⟩
  ·(try dsimp only); omega
  refine Le.mk _ _ ?_ ?_ rfl <;> simp only [go_sem, simprocAttr, Bm, List.length_append, List.length_cons, List.length_nil, hsap] <;> and_intros <;> try exact leA
 simp only [hcL] at hc9
 obtain rfl : i = l.length := by omega
 rw [List.take_of_length_le (by omega)] at g1 g2
 subst g1 g2
 obtain ⟨b1, b2⟩ := Ji (A := A) hS0 hsum hlen0
 rw [← hqs1] at b1 b2
 obtain ⟨L0, hL0⟩ := Int.eq_ofNat_of_zero_le b1
 rw [hL0, Int.toNat_natCast] at hsp
 rw [hL0]
 refine Ai ?_
 simp only [go_sem, simprocAttr]
 refine Aa (Ad ?_)
 refine Aj (α := Nat × (List Int) × (List Int)) (fun γ => (Ku L0 rs xs = Ku γ.1 γ.2.2 γ.2.1) ∧ (γ.2.1.length = l.length) ∧ (γ.2.2.length = l.length) ∧ ((∀ x ∈ γ.2.1, 0 ≤ x ∧ x + (γ.1 : Int) ≤ 1099511627776 + L0)) ∧ (γ.1 ≤ L0)) (fun γ => ⟨mkE [(0, V.int IntKind.i64 a), (8, .own 49 l.length), (9, .own 53 l.length), (10, .int .i64 γ.1)], mkH [(49, .arr 3 1 (AY γ.2.1)), (53, .arr 3 1 (AY γ.2.2))]⟩) (fun γ => γ.1) (L0, xs, rs) ⟨rfl, lqs1, lrs1, fun x hx => (by have := bqs1 x hx; omega), Nat.le_refl _⟩ ?_ ?_
 ·refine Le.mk _ _ ?_ ?_ rfl <;> simp only [go_sem, simprocAttr, lqs1, lrs1] <;> and_intros <;> try exact leA
 rintro ⟨k, ys, ts⟩ ⟨p1, p2, p3, p4, p5⟩ KL2 hKL2
 try dsimp only at *
 refine Aa (Aa (Z 15 rfl ?_))
 simp only [go_sem, simprocAttr, tRs, Bf, Aq, Bg, BI]
 refine Ab rfl (fun hc15 => ?_) fun hc15 => ?_
 ·simp only [hcL] at hc15
  refine Ac ?_
  refine Ad ?_
  have hne : ts ≠ [] := fun e => by rw [e] at p3; simp at p3; omega
  have htl : ts.length ≤ 140737488355328 := by omega
  obtain ⟨k, rfl⟩ : ∃ j, k = j + 1 := ⟨k - 1, by omega⟩
  obtain ⟨at', hat⟩ : ∃ m, m = Ht ts := ⟨_, rfl⟩
  have hml : at' < l.length := by rw [hat, ← p3]; rcases (Iy ts).2 with h | h; exact h; omega
  rw [Ku, ← hat] at p1
  refine Aa (Z 16 rfl ?_)
  simp only [go_sem, simprocAttr, p3, Afn, htl, hne, ← hat, tRs, Bf, Aq, Bg, BI]
  and_intros <;> try exact sdA
  have hmy : at' < ys.length := by omega
  have hmt : at' < ts.length := by omega
  have hyb := p4 ys[at'] (List.getElem_mem hmy)
  refine Aa (Z 17 rfl ?_)
  simp only [go_sem, simprocAttr, inI, p2, hml, AV _ _ _ hmy, ints_set, tRs, Bf, Aq, Bg, BI]
  and_intros <;> try exact sdA
  refine Aa (Z 18 rfl ?_)
  simp only [go_sem, simprocAttr, p3, hml, AV _ _ _ hmt, ints_set, tRs, Bf, Aq, Bg, BI]
  and_intros <;> try exact sdA
  refine Z 19 rfl ?_
  simp only [go_sem, simprocAttr, inI, tRs, Bf, Aq, Bg, BI]
  and_intros <;> try exact sdA
  refine hKL2 (k, ys.set at' (ys[at'] + 1), ts.set at' (-1)) _ ?_ ?_ ?_
  ·(try dsimp only); exact ⟨by rw [p1, Cd hmy], by rw [List.length_set]; exact p2, by rw [List.length_set]; exact p3, fun x hx => by rcases List.mem_or_eq_of_mem_set hx with hx | rfl; have := p4 x hx; omega; omega, by omega⟩
  ·(try dsimp only); omega
  refine Le.mk _ _ ?_ ?_ rfl <;> simp only [go_sem, simprocAttr] <;> and_intros <;> try exact leA
  all_goals (try omega)
 simp only [hcL] at hc15
 obtain rfl : k = 0 := by omega
 rw [p1, Ku] at hsp
 refine Ai ?_
 simp only [go_sem, simprocAttr]
 refine Aa (Aa (Z 20 rfl ?_))
 simp only [go_sem, simprocAttr, tRs, Bf, Aq, Bg, BI]
 refine Ad ?_
 refine Aj (α := Nat) (fun i => (i ≤ l.length)) (fun i => ⟨mkE [(0, V.int IntKind.i64 a), (8, V.own 49 l.length), (15, .int .i64 i)], mkH [(49, .arr 3 1 (AY ((ys.map fun q => sgn a * q).take i ++ ys.drop i)))]⟩) (fun i => l.length - i) 0 (Nat.zero_le _) ?_ ?_
 ·refine Le.mk _ _ ?_ ?_ rfl <;> simp only [go_sem, simprocAttr, List.take_zero, List.drop_zero, List.nil_append] <;> and_intros <;> try exact leA
 rintro i hi KL4 hKL4
 try dsimp only at *
 refine Aa ?_
 have hml := RK (f := fun q => sgn a * q) (show i ≤ ys.length by omega)
 rw [p2] at hml
 refine Aa (Z 21 rfl ?_)
 simp only [go_sem, simprocAttr, p2, hml, tRs, Bf, Aq, Bg, BI]
 refine Ab rfl (fun hc21 => ?_) fun hc21 => ?_
 ·simp only [hcL] at hc21
  refine Ac ?_
  refine Aa (Ad ?_)
  have hiy : i < ys.length := by omega
  have him : i < ((ys.map fun q => sgn a * q).take i ++ ys.drop i).length := by omega
  have hyb := p4 ys[i] (List.getElem_mem hiy)
  refine Aa (Z 23 rfl ?_)
  simp only [go_sem, simprocAttr, tRs, Bf, Aq, Bg, BI]
  refine Ab rfl (fun hc23 => ?_) fun hc23 => ?_
  ·simp only [hcL] at hc23
   have hsg : sgn a * ys[i] = -ys[i] := by unfold sgn; rw [if_pos (by omega)]; omega
   have hms := RJ (f := fun q => sgn a * q) hiy
   rw [hsg] at hms
   refine Z 24 rfl ?_
   simp only [go_sem, simprocAttr, inI, hml, hc21, AV _ _ _ him, XB hiy him, ints_set, hms, tRs, Bf, Aq, Bg, BI]
   and_intros <;> try exact sdA
   refine Z 22 rfl ?_
   simp only [go_sem, simprocAttr, inI, tRs, Bf, Aq, Bg, BI]
   and_intros <;> try exact sdA
   refine hKL4 (i + 1) _ ?_ ?_ ?_
   ·(try dsimp only); exact hc21
   ·(try dsimp only); omega
   exact leM
  simp only [hcL] at hc23
  have hsg1 : sgn a * ys[i] = ys[i] := by unfold sgn; rw [if_neg (by omega)]; omega
  refine Ac ?_
  refine Z 22 rfl ?_
  simp only [go_sem, simprocAttr, inI, tRs, Bf, Aq, Bg, BI]
  and_intros <;> try exact sdA
  refine hKL4 (i + 1) _ ?_ ?_ ?_
  ·(try dsimp only); exact hc21
  ·(try dsimp only); omega
  refine Le.mk _ _ ?_ ?_ rfl <;> simp only [go_sem, simprocAttr, ← VV hiy hsg1] <;> and_intros <;> try exact leA
 simp only [hcL] at hc21
 obtain rfl : i = l.length := by omega
 have hfull : (ys.map fun q => sgn a * q).take l.length ++ ys.drop l.length = ys.map fun q => sgn a * q := by rw [List.take_of_length_le (by rw [List.length_map]; omega), List.drop_eq_nil_of_le (by omega), List.append_nil]
 refine Ai ?_
 simp only [go_sem, simprocAttr]
 refine Aa (Z 25 rfl ?_)
 simp only [go_sem, simprocAttr, tRs, Bf, Aq, Bg, BI]
 refine AW.le (s' := ⟨mkE [(4, .list (AY (ys.map fun q => sgn a * q)) false), (5, .int .i64 0)], mkH []⟩) (Le.mk _ _ ?_ ?_ rfl) (Ae (hQ _ _ (.inl rfl) ?_ ?_ ?_)) <;> simp only [go_sem, simprocAttr, EM, Cr, hsp, hfull]
 exact Cq rfl (by rw [Bp, List.length_map, p2]) rfl (CV _)
theorem Nk : ∀ (xs : List Int) (j : Nat), j < xs.length → (xs.set j (xs.getD j 0 + 1)).sum = xs.sum + 1
 | x :: xs, 0, _ => by simp; omega
 | x :: xs, j + 1, h => by
  have := Nk xs j (by simpa using h)
  rw [List.set_cons_succ, List.sum_cons, List.sum_cons, List.getD_cons_succ, this]; omega
theorem KS : ∀ (T : List Nat) (xs : List Int), (∀ j ∈ T, j < xs.length) → (Fn T xs).sum = xs.sum + T.length
 | [], xs, _ => by simp [Fn]
 | i :: T, xs, h => by
  rw [Fn, KS T _ (fun j hj => by rw [List.length_set]; exact h j (List.mem_cons_of_mem _ hj)), Nk xs i (h i (List.mem_cons_self ..)), List.length_cons]; omega
theorem NI : ∀ (T : List Nat) (xs : List Int) (i : Nat), i < xs.length → (Fn T xs).getD i 0 = xs.getD i 0 + (T.count i : Int)
 | [], xs, i, _ => by simp [Fn]
 | j :: T, xs, i, h => by
  rw [Fn, NI T _ i (by rw [List.length_set]; exact h), List.count_cons]
  by_cases c : j = i
  ·subst c
   rw [Cd (by rw [List.length_set]; exact h), List.getElem_set_self]; simp; omega
  ·rw [Cd (by rw [List.length_set]; exact h), List.getElem_set_ne c, ← Cd h, if_neg (by simpa using c)]; simp
theorem VN {a b : List Int} (h : a.Perm b) : a.sum = b.sum := by
 induction h with
 | nil => rfl
 | cons x _ ih => rw [List.sum_cons, List.sum_cons, ih]
 | swap x y l => simp only [List.sum_cons]; omega
 | trans _ _ i1 i2 => rw [i1, i2]
theorem AdU (R : List Int) : (List.range' 0 R.length).map (fr R) = R := by
 apply List.ext_getElem
 ·simp
 ·intro i h1 h2
  rw [List.getElem_map, List.getElem_range', fr]
  simp only [Nat.zero_add, Nat.one_mul]
  exact Cd h2
theorem LJ {B : Int} : ∀ {l : List Int}, (∀ x ∈ l, x ≤ B) → l.sum ≤ B * l.length
 | [], _ => by simp
 | x :: l, h => by
  have := LJ (l := l) fun y hy => h y (List.mem_cons_of_mem _ hy)
  have := h x (List.mem_cons_self ..)
  rw [List.sum_cons, List.length_cons, Int.natCast_add, Int.mul_add]; simp; omega
def gS (A S : Int) (l : List Int) : List Int := Fn ((msT (fr (rsP A S l)) (List.range' 0 l.length)).take (A - (qsP A S l).sum).toNat) (qsP A S l)
theorem Wm {A S : Int} {l : List Int} (hA : 0 ≤ A) (hS : 0 < S) (hsum : l.sum = S) (hl : 0 < l.length) (hnn : ∀ w ∈ l, 0 ≤ w) :
  (gS A S l).length = l.length ∧ (gS A S l).sum = A ∧ (∀ i, i < l.length → 0 ≤ (gS A S l).getD i 0 ∧ (l.getD i 0 = 0 → (gS A S l).getD i 0 = 0)) ∧
  (0 < A → ∀ i k, i < l.length → k < l.length → l.getD k 0 < l.getD i 0 → (gS A S l).getD k 0 ≤ (gS A S l).getD i 0) := by
 obtain ⟨b1, b2⟩ := Ji (A := A) hS hsum hl
 obtain ⟨k, hk⟩ := Int.eq_ofNat_of_zero_le b1
 have hlR : (rsP A S l).length = l.length := List.length_map _
 have hlQ : (qsP A S l).length = l.length := List.length_map _
 have hl3 := (Mg (A := A) hS (l := l)).1
 unfold gS
 rw [hk, Int.toNat_natCast]
 obtain ⟨R, hR⟩ : ∃ R, R = rsP A S l := ⟨_, rfl⟩
 obtain ⟨Q, hQ⟩ : ∃ Q, Q = qsP A S l := ⟨_, rfl⟩
 have hRi : ∀ i, i < l.length → R.getD i 0 = A * l.getD i 0 % S := fun i hi => by rw [Cd (by rw [hR, hlR]; exact hi), Cd hi]; simp [hR, rsP]
 have hQi : ∀ i, i < l.length → Q.getD i 0 = A * l.getD i 0 / S := fun i hi => by rw [Cd (by rw [hQ, hlQ]; exact hi), Cd hi]; simp [hQ, qsP]
 rw [← hR, ← hQ]
 rw [← hR] at hlR hl3
 rw [← hQ] at hlQ hl3 hk b1 b2
 obtain ⟨O, hO⟩ : ∃ O, O = msT (fr R) (List.range' 0 l.length) := ⟨_, rfl⟩
 rw [← hO]
 have hOp : O.Perm (List.range' 0 l.length) := hO ▸ AP _
 have hOl : O.length = l.length := by rw [hOp.length_eq, List.length_range']
 have hOs : Bu (fr R) O := hO ▸ Cx (EE _ _)
 have hOm : ∀ i ∈ O, i < l.length := fun i hi => by have := Fh (hOp.mem_iff.1 hi); omega
 obtain ⟨T, hT⟩ : ∃ T, T = O.take k := ⟨_, rfl⟩
 obtain ⟨D, hD⟩ : ∃ D, D = O.drop k := ⟨_, rfl⟩
 have hTD : O = T ++ D := by rw [hT, hD, List.take_append_drop]
 have hTl : T.length = k := by rw [hT, List.length_take]; omega
 have hRb : ∀ i, i < l.length → 0 ≤ R.getD i 0 ∧ R.getD i 0 ≤ S - 1 := fun i hi => by
  rw [hRi i hi]
  have := Int.emod_nonneg (A * l.getD i 0) (show S ≠ 0 by omega)
  have := Int.emod_lt_of_pos (A * l.getD i 0) hS
  omega
 rw [← hT]
 rw [hTD] at hOs hOm
 obtain ⟨_, _, hbf⟩ := hOs.parts
 have hTn : T.Nodup := by
  have := Bu.nodup hOs
  exact (List.nodup_append.1 this).1
 have hc1 : ∀ i, T.count i ≤ 1 := fun i => List.nodup_iff_count.1 hTn i
 have hG : ∀ i, i < l.length → (Fn T Q).getD i 0 = Q.getD i 0 + (T.count i : Int) := fun i hi => NI T Q i (by omega)
 have hli : ∀ i, i < l.length → 0 ≤ l.getD i 0 := fun i hi => by rw [Cd hi]; exact hnn _ (List.getElem_mem hi)
 refine ⟨by rw [KT, hlQ], ?_, fun i hi => ⟨?_, fun h0 => ?_⟩, fun h0 i k2 hi hk2 hw => ?_⟩
 ·rw [KS _ _ (fun j hj => by rw [hlQ]; exact hOm j (List.mem_append_left _ hj)), hTl]; omega
 ·rw [hG i hi, hQi i hi]
  have := Int.ediv_nonneg (Int.mul_nonneg hA (hli i hi)) (show 0 ≤ S by omega)
  omega
 ·rw [hG i hi, hQi i hi, h0, Int.mul_zero, Int.zero_ediv]
  have : ¬ i ∈ T := fun hiT => by
   have hRi0 : fr R i = 0 := by show R.getD i 0 = 0; rw [hRi i hi, h0]; simp
   have hD0 : (D.map (fr R)).sum ≤ 0 * ((D.map (fr R)).length : Int) := LJ fun x hx => by
    obtain ⟨y, hy, rfl⟩ := List.mem_map.1 hx
    have := hbf i hiT y hy
    unfold Tb at this
    omega
   have hT0 : (T.map (fr R)).sum ≤ (S - 1) * ((T.map (fr R)).length : Int) := LJ fun x hx => by
    obtain ⟨y, hy, rfl⟩ := List.mem_map.1 hx
    exact (hRb y (hOm y (List.mem_append_left _ hy))).2
   have hs : R.sum = (T.map (fr R)).sum + (D.map (fr R)).sum := by
    rw [← List.sum_append, ← List.map_append, ← hTD, VN (hOp.map (fr R)), ← hlR, AdU]
   rw [List.length_map, hTl, Int.sub_mul] at hT0
   rw [hsum] at hl3
   have h1 : A * S = S * Q.sum + S * (k : Int) := by rw [← Int.mul_add, Int.mul_comm A S]; congr 1; omega
   have : 1 ≤ T.length := List.length_pos_of_mem hiT
   omega
  rw [List.count_eq_zero_of_not_mem this]; rfl
 ·rw [hG i hi, hG k2 hk2, hQi i hi, hQi k2 hk2]
  have hm : A * l.getD k2 0 ≤ A * l.getD i 0 := Int.mul_le_mul_of_nonneg_left (by omega) (by omega)
  have hm2 : A * l.getD k2 0 < A * l.getD i 0 := Int.mul_lt_mul_of_pos_left hw h0
  have hq := Int.ediv_le_ediv hS hm
  have e1 := Int.mul_ediv_add_emod (A * l.getD i 0) S
  have e2 := Int.mul_ediv_add_emod (A * l.getD k2 0) S
  have c1 := hc1 i
  have c2 := hc1 k2
  by_cases c : A * l.getD k2 0 / S = A * l.getD i 0 / S
  ·rw [c] at e2 ⊢
   rw [← hRi i hi] at e1
   rw [← hRi k2 hk2] at e2
   have hr : fr R k2 < fr R i := by show R.getD k2 0 < R.getD i 0; omega
   by_cases ck : k2 ∈ T
   ·have ci : i ∈ T := by
     have : i ∈ T ++ D := by rw [← hTD]; exact hOp.mem_iff.2 (by rw [List.mem_range'_1]; omega)
     rcases List.mem_append.1 this with h | h
     ·exact h
     ·have := hbf k2 ck i h
      unfold Tb at this
      omega
    have := List.count_pos_iff.2 ci
    omega
   ·have := List.count_eq_zero_of_not_mem ck
    omega
  ·omega
theorem Io {a S : Int} {l : List Int} (hS : 0 < S) (hsum : l.sum = S) (hl : 0 < l.length) : DL a S l = (gS a.natAbs S l).map fun q => sgn a * q := by
 obtain ⟨b1, b2⟩ := Ji (A := (a.natAbs : Int)) hS hsum hl
 obtain ⟨k, hk⟩ := Int.eq_ofNat_of_zero_le b1
 have hlQ : (qsP a.natAbs S l).length = l.length := List.length_map _
 have hOp := AP (f := fr (rsP a.natAbs S l)) (List.range' 0 l.length)
 unfold DL gS
 rw [hk, Int.toNat_natCast, HA _ _ k _ (fun i hi => by have := Fh (hOp.mem_iff.1 hi); omega) (by rw [hOp.length_eq, List.length_range']; omega)]
structure ShF (a : Int) (l L : List Int) : Prop where
 bd : -1099511627776 ≤ a ∧ a ≤ 1099511627776
 len : L.length = l.length
 sum : L.sum = a
 sg : ∀ i (h : i < L.length), (0 ≤ a → 0 ≤ L[i]) ∧ (a ≤ 0 → L[i] ≤ 0)
 zero : ∀ i (h : i < L.length) (h' : i < l.length), l[i] = 0 → L[i] = 0
 mono : 0 < a → ∀ i k (h : i < L.length) (hk : k < L.length) (h' : i < l.length) (hk' : k < l.length), l[k] < l[i] → L[k] ≤ L[i]
 neg : BE (-a) l = (0, L.map fun x => -x)
theorem Hf {a e : Int} {l L : List Int} (h : BE a l = (e, L)) : (e ≠ 0 → L = []) ∧ (e = 0 → ShF a l L) := by
 unfold BE at h
 obtain ⟨⟨S, e0⟩, htr⟩ : ∃ y, Fx 0 l = y := ⟨_, rfl⟩
 rw [htr] at h
 split at h
 ·injection h with h1 h2; subst h1 h2; exact ⟨fun _ => rfl, fun h => by omega⟩
 ·rename_i he
  split at h
  ·injection h with h1 h2; subst h1 h2; exact ⟨fun _ => rfl, fun h => by omega⟩
  ·rename_i hf
   injection h with h1 h2
   subst h1
   refine ⟨fun h => absurd rfl h, fun _ => ?_⟩
   obtain rfl : e0 = 0 := by simpa using he
   have hfa : NP a = true := by cases h : NP a with | true => rfl | false => exact absurd (.inl h) hf
   have hfS : S ≤ 1099511627776 := by have : ¬ 1099511627776 < S := fun h => hf (.inr h); omega
   obtain ⟨hnn, hsum, hS0⟩ := MT htr hfS (Int.le_refl 0)
   rw [Int.zero_add] at hsum
   have hl : 0 < l.length := by cases l with | nil => (simp at hsum; omega) | cons x l => simp
   have hb := (NO a).1 hfa
   replace h2 : DL a S l = L := h2
   rw [Io hS0 hsum hl] at h2
   obtain ⟨g1, g2, g3, g4⟩ := Wm (A := (a.natAbs : Int)) (by omega) hS0 hsum hl hnn
   have hng : BE (-a) l = (0, (gS a.natAbs S l).map fun q => sgn (-a) * q) := by
    unfold BE
    have hfn : NP (-a) = true := (NO (-a)).2 (by omega)
    rw [htr]
    dsimp only
    rw [if_neg (by simp), if_neg (by rw [hfn]; simp; omega), Io hS0 hsum hl, Int.natAbs_neg]
   have hL : L.length = l.length := by rw [← h2, List.length_map, g1]
   have hLi : ∀ i (hi : i < L.length), L[i] = sgn a * (gS a.natAbs S l).getD i 0 := fun i hi => by
    subst h2; rw [List.getElem_map, Cd (by simpa using hi)]
   have hle : ∀ i, i < l.length → (gS a.natAbs S l).getD i 0 ≤ (a.natAbs : Int) := fun i hi => by
    refine Int.le_trans (Dl (fun w hw => ?_) _ (by rw [Cd (by omega)]; exact List.getElem_mem _)) (Int.le_of_eq g2)
    obtain ⟨j, hj, rfl⟩ := List.mem_iff_getElem.1 hw
    rw [← Cd hj]; exact (g3 j (by omega)).1
   have hms : ∀ (s : Int) (xs : List Int), (xs.map fun q => s * q).sum = s * xs.sum := fun s xs => by
    induction xs with
    | nil => simp
    | cons x xs ih => rw [List.map_cons, List.sum_cons, List.sum_cons, ih, Int.mul_add]
   refine ⟨hb, hL, ?_, fun i hi => ?_, fun i hi hi' h0 => ?_, fun h0 i k hi hk hi' hk' hw => ?_, ?_⟩
   ·rw [← h2, hms, g2]; unfold sgn; split <;> omega
   ·rw [hLi i hi]
    have := (g3 i (by omega)).1
    refine ⟨fun h => ?_, fun h => ?_⟩
    ·unfold sgn; rw [if_neg (by omega)]; omega
    ·by_cases c : a = 0
     ·have h8 := hle i (by omega)
      rw [show (gS (a.natAbs : Int) S l).getD i 0 = 0 by omega]; simp
     ·unfold sgn; rw [if_pos (by omega)]; omega
   ·rw [hLi i hi, (g3 i (by omega)).2 (by rw [Cd hi']; exact h0), Int.mul_zero]
   ·rw [hLi i hi, hLi k hk]
    have := g4 (by omega) i k hi' hk' (by rw [Cd hi', Cd hk']; exact hw)
    unfold sgn; rw [if_neg (by omega)]; omega
   ·rw [hng, ← h2, List.map_map]
    congr 1
    apply List.map_congr_left
    intro x hx
    show sgn (-a) * x = -(sgn a * x)
    by_cases c : a = 0
    ·have hx0 : x = 0 := by
      obtain ⟨j, hj, rfl⟩ := List.mem_iff_getElem.1 hx
      have h9 := (g3 j (by omega)).1
      have h8 := hle j (by omega)
      rw [Cd hj] at h9 h8
      omega
     rw [hx0]; simp
    ·unfold sgn; split <;> split <;> omega
end Go.Proofs.YtjkclhbckfkeeaaGreatDoor
