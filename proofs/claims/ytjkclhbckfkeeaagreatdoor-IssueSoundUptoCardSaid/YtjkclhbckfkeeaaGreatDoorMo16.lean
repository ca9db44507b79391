import Derived.Test.YtjkclhbckfkeeaaGreatDoorMo5
import Derived.Test.YtjkclhbckfkeeaaGreatDoorPl4
import Derived.Test.YtjkclhbckfkeeaaGreatDoorPl10
set_option linter.unusedSimpArgs false
set_option linter.unusedVariables false
set_option linter.deprecated false
set_option maxHeartbeats 4000000
namespace Go.Proofs.YtjkclhbckfkeeaaGreatDoor
open Go Go.RowKit
def aSp (x : Int × List Int) : List V := [.int .i64 x.1, .list (Aq x.2) false]
theorem Wy (a b : Int × List Int) (h : aSp a = aSp b) : a = b := by
 obtain ⟨a_a, a_l⟩ := a
 obtain ⟨b_a, b_l⟩ := b
 simp only [aSp, Bz, V.str.injEq, V.int.injEq, V.bool.injEq, V.agg.injEq, V.list.injEq, and_true, true_and] at h
 obtain ⟨h0, h1⟩ := h
 subst h0
 replace h1 := Mw h1
 subst h1
 rfl
theorem UU : ∀ {l : List Int}, (∀ w ∈ l, 0 <= w) -> 0 <= l.sum
 | [], _ => by simp
 | x :: l, h => by rw [Fv]; have := h x (AJ ..); have := UU (l := l) fun w hw => h w (AU _ hw); omega
theorem Vi : ∀ {l : List Int} {s S : Int}, Dk s l = (S, 0) -> S <= 1099511627776 -> 0 <= s -> (∀ w ∈ l, 0 <= w) /\ s + l.sum = S /\ 0 < S
 | [], s, S, h, hS, h0 => by
  rw [Dk] at h
  split at h
  ·cases h
  ·injection h with h; subst h; exact ⟨by simp, by simp, by omega⟩
 | w :: l, s, S, h, hS, h0 => by
  rw [Dk] at h
  split at h
  ·cases h
  ·rename_i hw
   have h1 : 0 <= stepT s w := by unfold stepT; split <;> omega
   obtain ⟨a1, a2, a3⟩ := Vi h hS h1
   have h2 : 0 <= l.sum := UU a1
   refine ⟨fun x hx => by rcases AK.1 hx with rfl | hx; omega; exact a1 x hx, ?_, a3⟩
   rw [Fv]
   unfold stepT at a2
   split at a2 <;> omega
theorem On : ∀ {l : List Int}, (∀ w ∈ l, 0 <= w) -> ∀ w ∈ l, w <= l.sum
 | x :: l, h, w, hw => by
  have h1 : 0 <= l.sum := UU fun w hw => h w (AU _ hw)
  rw [Fv]
  rcases AK.1 hw with rfl | hw
  ·omega
  ·have := On (fun w hw => h w (AU _ hw)) w hw
   have := h x (AJ ..)
   omega
theorem AdN : ∀ {l : List Int} {s : Int}, (Dk s l).2 ≠ 0 -> (Dk s l).2 = 2
 | [], s, h => by rw [Dk] at h ⊢; split at h <;> simp_all
 | w :: l, s, h => by
  rw [Dk] at h ⊢
  split
  ·rfl
  ·rename_i hw; rw [if_neg hw] at h; exact AdN h
def qsP (A S : Int) (l : List Int) : List Int := l.map fun w => A * w / S
def rsP (A S : Int) (l : List Int) : List Int := l.map fun w => A * w % S
def Gq (sg : Int) : List Nat -> Int -> List Int -> List Int
 | [], _, xs => xs
 | i :: os, left, xs => if 0 < left then Gq sg os (left - 1) (xs.set i (xs.getD i 0 + sg * 1)) else Gq sg os left xs
def sgn (a : Int) : Int := if a < 0 then -1 else 1
def LJ (a S : Int) (l : List Int) : List Int :=
 Gq (sgn a) (msT (fr (rsP a.natAbs S l)) (List.range' 0 l.length)) (a.natAbs - (qsP a.natAbs S l).sum) ((qsP a.natAbs S l).map fun q => sgn a * q)
def Ey (a : Int) (l : List Int) : Int × List Int :=
 if (Dk 0 l).2 ≠ 0 then (2, []) else if CR a = false \/ 1099511627776 < (Dk 0 l).1 then (11, []) else (0, LJ a (Dk 0 l).1 l)
def GW (y : Int × List Int) : V := .tup [.list (Aq y.2) false, .int .i64 y.1]
def Mq (x : Int × List Int) : Prop × V := (x.2.length <= 20 /\ inI x.1 /\ ∀ w ∈ x.2, w <= 8388608, GW (Ey x.1 x.2))
theorem Ti {α : Type} (L : List α) (z : α) {i n : Nat} (hn : L.length = n) (hi : i < n) : (L.take i ++ List.replicate (n - i) z).set i (L[i]'(by omega)) = L.take (i + 1) ++ List.replicate (n - (i + 1)) z := by
 have h1 : (L.take i).length = i := by rw [Bx]; omega
 rw [Qd _ _ (by omega), h1, Nat.sub_self, show n - i = n - (i + 1) + 1 by omega, My, List.set_cons_zero, Oi (show i < L.length by omega), Dg]
 rfl
theorem AaN {α : Type} (L : List α) (z : α) {i n : Nat} (hn : L.length = n) (hi : i < n) (h : i < (L.take i ++ List.replicate (n - i) z).length) : (L.take i ++ List.replicate (n - i) z)[i] = z := by
 have h1 : (L.take i).length = i := by rw [Bx]; omega
 rw [List.getElem_append_right (by omega)]
 simp
theorem Tg {α : Type} (L : List α) (z : α) {i n : Nat} (hn : L.length = n) (hi : i <= n) : (L.take i ++ List.replicate (n - i) z).length = n := by
 rw [Ai, Bx, Ih]; omega
theorem Adz (L : List Int) {i : Nat} (hi : i < L.length) : (L.take (i + 1)).sum = (L.take i).sum + L[i] := by
 rw [Oi hi, MG]; simp
theorem Acb {A S w : Int} (hA : 0 <= A) (h0 : 0 <= w) (h1 : w <= S) (hS : 0 < S) : 0 <= A * w / S /\ A * w / S <= A :=
 ⟨MH (Il hA h0) (by omega), Int.ediv_le_of_le_mul hS (Qc h1 hA)⟩
theorem UV {L : List Int} {B : Int} (h : ∀ x ∈ L, 0 <= x /\ x <= B) : ∀ i : Nat, i <= L.length -> 0 <= (L.take i).sum /\ (L.take i).sum <= B * i
 | 0, _ => by simp
 | i + 1, hi => by
  obtain ⟨h1, h2⟩ := UV h i (by omega)
  obtain ⟨h3, h4⟩ := h L[i] (AF (by omega))
  rw [Adz L (by omega)]
  have : B * ((i + 1 : Nat) : Int) = B * i + B := by rw [Int.natCast_add, Ls]; simp
  omega
theorem AdU (n : Nat) : List.replicate n [V.int .u64 0] = Ez (List.replicate n 0) := by unfold Ez; rw [Qh]
theorem AbQ (n : Nat) : List.replicate n [V.int .i64 0] = CG (List.replicate n 0) := by unfold CG; rw [Qh]; rfl
theorem Tf {α : Type} (L : List α) (z : α) {n : Nat} (hn : L.length = n) : L.take n ++ List.replicate (n - n) z = L := by subst hn; simp
theorem Ahz {O : List Nat} {n i : Nat} (hO : O.Perm (List.range' 0 n)) (hi : i < O.length) : O.getD i 0 < n := by
 have := Ut (hO.mem_iff.1 (AgI hi)); omega
noncomputable def BN : Tab
 | 139 => (gOf aLi Mr)
 | 140 => (gOf aI KY)
 | 141 => PV
 | 143 => PT
 | _ => gNo
theorem Amm : ∀ f, PU f (BN f) := fun f => by
 unfold BN
 split
 ·exact AmS
 ·exact AgB
 ·exact AkO
 ·exact Aj4
 ·exact Ah.no
def EFq : Nat -> Bool := fun f => f == 142 || f == 144
theorem Ak7 : PU 81 (gOf aSp Mq) := by
 have hG := Amm
 refine AaG.a Wy (by simp [aSp]) ?_
 rintro ⟨a, l⟩ hv C hN Q hQ
 have Z := AaG.R EFq hG hN
 obtain ⟨hl, hia, hil⟩ : l.length <= 20 /\ inI a /\ ∀ w ∈ l, w <= 8388608 := hv
 have hl2 : l.length <= 140737488355328 := by omega
 obtain ⟨⟨S, e⟩, htr⟩ : ∃ y, Dk 0 l = y := ⟨_, rfl⟩
 refine Aa (Z 0 rfl ?_)
 simp only [go_sem, simprocAttr, aSp, BN, EFq, BQ, Be]
 refine Aa (Z 1 rfl ?_)
 simp only [go_sem, simprocAttr, hl2, htr, Am, BN, EFq, BQ, Be]
 and_intros <;> try exact sdA
 refine Aa (Aa (Z 2 rfl ?_))
 simp only [go_sem, simprocAttr, BN, EFq, BQ, Be]
 refine Ae rfl (fun hb2 => ?_) fun hb2 => ?_
 ·have he : e ≠ 0 := by simpa using hb2
  obtain rfl : e = 2 := by have := AdN (l := l) (s := 0); rw [htr] at this; exact this he
  have hsp : Ey a l = (2, []) := by unfold Ey; rw [htr]; rfl
  refine Aa (Z 3 rfl ?_)
  simp only [go_sem, simprocAttr, BN, EFq, BQ, Be]
  refine AW.le (s' := ⟨mkE [(4, .list [] false), (5, .int .i64 2)], mkH []⟩) (Le.mk _ _ ?_ ?_ rfl) (Ad (hQ _ _ (.inl rfl) ?_ ?_ ?_)) <;> simp only [go_sem, simprocAttr, Mq, GW, hsp, PY]
 have he : e = 0 := by simpa using hb2
 subst he
 refine Af ?_
 refine Aa (Aa (Z 4 rfl ?_))
 simp only [go_sem, simprocAttr, BN, EFq, BQ, Be]
 and_intros <;> try exact sdA
 refine Ae rfl (fun hc4 => ?_) fun hc4 => ?_
 ·simp only [hcL] at hc4
  have hsp : Ey a l = (11, []) := by unfold Ey; rw [htr, if_neg (by simp), if_pos hc4]
  refine Aa (Z 5 rfl ?_)
  simp only [go_sem, simprocAttr, BN, EFq, BQ, Be]
  refine AW.le (s' := ⟨mkE [(4, .list [] false), (5, .int .i64 11)], mkH []⟩) (Le.mk _ _ ?_ ?_ rfl) (Ad (hQ _ _ (.inl rfl) ?_ ?_ ?_)) <;> simp only [go_sem, simprocAttr, Mq, GW, hsp, PY]
 simp only [hcL] at hc4
 obtain ⟨hnn, hsum, hS0⟩ := Vi htr hc4.2 (EZ 0)
 rw [Int.zero_add] at hsum
 have hle : ∀ w ∈ l, w <= S := fun w hw => hsum ▸ On hnn w hw
 have hsp : Ey a l = (0, LJ a S l) := by unfold Ey; rw [htr, if_neg (by simp), if_neg (by rw [hc4.1]; simp; omega)]
 obtain ⟨A, hA⟩ : ∃ A, A = (a.natAbs : Int) := ⟨_, rfl⟩
 have hfb := Agy hc4.1
 have hA0 : 0 <= A /\ A <= 1099511627776 := by omega
 have hkA : inK .i64 A := Aa8.2 (by unfold inI; omega)
 have hlen0 : 0 < l.length := by cases l with | nil => (simp at hsum; omega) | cons x l => simp
 refine Af ?_
 refine Aa (Z 6 rfl ?_)
 simp only [go_sem, simprocAttr, PV, hia, <- hA, hkA, BN, EFq, BQ, Be]
 and_intros <;> try exact sdA
 refine Dw (α := Unit) (fun u => (True)) (fun u => ⟨mkE [(0, V.int IntKind.i64 a), (1, V.list (Aq l) false), (6, V.int IntKind.i64 S), (8, V.ptr 8 0), (9, V.ptr 9 0)], mkH [(8, Ob.box 3 [V.int IntKind.i64 A]), (9, .box 3 [.int .i64 (sgn a)])]⟩) ?_ ?_
 ·intro KC7 hKC7
  refine Aa (Z 7 rfl ?_)
  simp only [go_sem, simprocAttr, BN, EFq, BQ, Be]
  refine Ae rfl (fun hc7 => ?_) fun hc7 => ?_
  ·simp only [hcL] at hc7
   have hsg : sgn a = -1 := by unfold sgn; rw [if_pos (by omega)]
   refine Z 8 rfl ?_
   simp only [go_sem, simprocAttr, BN, EFq, BQ, Be]
   refine hKC7 (()) _ ?_ ?_
   ·(try dsimp only); try trivial
   refine Le.mk _ _ ?_ ?_ rfl <;> simp only [go_sem, simprocAttr, hsg] <;> and_intros <;> try exact leA
  simp only [hcL] at hc7
  have hsg : sgn a = 1 := by unfold sgn; rw [if_neg (by omega)]
  refine Af ?_
  refine hKC7 (()) _ ?_ ?_
  ·(try dsimp only); try trivial
  refine Le.mk _ _ ?_ ?_ rfl <;> simp only [go_sem, simprocAttr, hsg] <;> and_intros <;> try exact leA
 rintro u k0
 have hsg2 : sgn a = 1 \/ sgn a = -1 := by unfold sgn; split <;> simp
 obtain ⟨qs1, hqs1⟩ : ∃ qs1, qs1 = qsP A S l := ⟨_, rfl⟩
 obtain ⟨rs1, hrs1⟩ : ∃ rs1, rs1 = rsP A S l := ⟨_, rfl⟩
 obtain ⟨xs1, hxs1⟩ : ∃ xs1, xs1 = qs1.map fun q => sgn a * q := ⟨_, rfl⟩
 have lqs1 : qs1.length = l.length := by rw [hqs1]; exact Ac _
 have lrs1 : rs1.length = l.length := by rw [hrs1]; exact Ac _
 have lxs1 : xs1.length = l.length := by rw [hxs1, Ac, lqs1]
 have bqs1 : ∀ x ∈ qs1, 0 <= x /\ x <= 1099511627776 := fun x hx => by rw [hqs1] at hx; obtain ⟨w, hw, rfl⟩ := An.1 hx; have := Acb hA0.1 (hnn w hw) (hle w hw) hS0; exact ⟨this.1, by omega⟩
 have hsm : LJ a S l = Gq (sgn a) (msT (fr rs1) (List.range' 0 l.length)) (A - qs1.sum) xs1 := by unfold LJ; rw [<- hA, <- hrs1, <- hqs1, <- hxs1]
 refine Aa (He (EF := EFq) hG mixed (by rw [hN]; exact Ana) Ais ?_)
 simp only [Rz, XT, go_sem, simprocAttr, Abd, AdU, BN, EFq, BQ, Be]
 and_intros <;> try exact sdA
 refine Aa (Z 10 rfl ?_)
 simp only [go_sem, simprocAttr, BN, EFq, BQ, Be]
 refine Aa (Aa (Z 11 rfl ?_))
 simp only [go_sem, simprocAttr, BN, EFq, BQ, Be]
 refine Ao ?_
 refine AX (α := Nat) (fun i => (i <= l.length)) (fun i => ⟨mkE [(0, V.int IntKind.i64 a), (1, V.list (Aq l) false), (6, V.int IntKind.i64 S), (8, V.ptr 8 0), (10, V.ptr 10 0), (11, V.ptr 11 0), (12, V.fn 142 [V.ptr 10 0, V.ptr 9 0, V.ptr 8 0]), (49, V.list (Aq l) false), (50, V.int IntKind.i64 ↑l.length), (51, .int .i64 i)], mkH [(8, .box 3 [.int .i64 (A - (qs1.take i).sum)]), (9, Ob.box 3 [V.int IntKind.i64 (sgn a)]), (10, Ob.box 42 [V.own 44 l.length]), (11, Ob.box 204 [V.own 47 l.length]), (44, .arr 3 1 (Aq (xs1.take i ++ List.replicate (l.length - i) 0))), (47, .arr 189 1 (Ez (rs1.take i ++ List.replicate (l.length - i) 0)))]⟩) (fun i => l.length - i) 0 (Ar _) ?_ ?_
 ·refine Le.mk _ _ ?_ ?_ rfl <;> simp only [go_sem, simprocAttr, HC, FR, Nat.sub_zero, List.sum_nil, Int.sub_zero, Abd, AdU] <;> and_intros <;> try exact leA
 rintro i hi KL0 hKL0
 try dsimp only at *
 have hQs := UV bqs1 i (by omega)
 refine Aa (Z 12 rfl ?_)
 simp only [go_sem, simprocAttr, BN, EFq, BQ, Be]
 refine Aa ?_
 refine Ae rfl (fun hc12 => ?_) fun hc12 => ?_
 ·simp only [hcL] at hc12
  refine Af ?_
  refine Aa (Ao ?_)
  refine Aa (Z 13 rfl ?_)
  simp only [go_sem, simprocAttr, GL _ _ _ hc12, hc12, BN, EFq, BQ, Be]
  and_intros <;> try exact sdA
  obtain ⟨w, hw⟩ : ∃ w, w = l[i] := ⟨_, rfl⟩
  have hwm : w ∈ l := hw ▸ AF _
  have hw0 := hnn w hwm
  have hwS := hle w hwm
  have hku : inK .u64 w := Ln.2 (by omega)
  have hkS : inK .u64 S := Ln.2 (by omega)
  have qb := Acb hA0.1 hw0 hwS hS0
  have hsc : A * w < Cp := by have h1 := Int.mul_le_mul hA0.2 (hil w hwm) hw0 (by decide); unfold Cp; omega
  have hAu : A < Cp := by unfold Cp; omega
  have hwu : w < Cp := by unfold Cp; omega
  have hSu : S < Cp := by unfold Cp; omega
  have hkq : inK .i64 (A * w / S) := Aa8.2 (by unfold inI; omega)
  refine Aa (Z 14 rfl ?_)
  simp only [go_sem, simprocAttr, <- hw, PV, hia, <- hA, PT, hA0.1, hAu, hw0, hwu, hS0, hSu, hsc, hku, hkS, BN, EFq, BQ, Be]
  have hRi : rs1[i]'(by omega) = A * w % S := by simp only [hrs1, rsP, GQ, <- hw]
  have hQi : qs1[i]'(by omega) = A * w / S := by simp only [hqs1, qsP, GQ, <- hw]
  have hXi : xs1[i]'(by omega) = sgn a * (A * w / S) := by simp only [hxs1, GQ, hQi]
  have hfl := Tg rs1 0 lrs1 hi
  have hfR := Ti rs1 0 lrs1 hc12
  rw [hRi] at hfR
  have hil2 : i < (rs1.take i ++ List.replicate (l.length - i) 0).length := by rw [hfl]; exact hc12
  refine Aa (Z 15 rfl ?_)
  simp only [go_sem, simprocAttr, hfl, hc12, AnK, hfR, AnI _ _ _ hil2, BN, EFq, BQ, Be]
  and_intros <;> try exact sdA
  have hfx := Tg xs1 0 lxs1 hi
  have hqs : sgn a * (A * w / S) <= 1099511627776 /\ -1099511627776 <= sgn a * (A * w / S) := by rcases hsg2 with h | h <;> rw [h] <;> omega
  refine Z 16 rfl ?_
  simp only [go_sem, simprocAttr, hkq, BN, EFq, BQ, Be]
  refine Aa5 (xs := xs1.take i ++ List.replicate (l.length - i) 0) (xs' := xs1.take (i + 1) ++ List.replicate (l.length - (i + 1)) 0) (left' := A - (qs1.take (i + 1)).sum) i rfl hfx (by omega) (by unfold inI; omega) (by rw [AaN xs1 0 lxs1 hc12]; unfold inI; omega) (by unfold inI; omega) (by rw [AaN xs1 0 lxs1 hc12, Int.zero_add, <- hXi]; exact Ti xs1 0 lxs1 hc12) (by rw [Adz qs1 (by omega), hQi]; omega) rfl rfl rfl rfl ?_
  simp only [go_sem, simprocAttr, EFq, GO]
  refine Z 17 rfl ?_
  simp only [go_sem, simprocAttr, inI, BN, EFq, BQ, Be]
  and_intros <;> try exact sdA
  refine hKL0 (i + 1) _ ?_ ?_ ?_
  ·(try dsimp only); exact hc12
  ·(try dsimp only); omega
  exact leM
 simp only [hcL] at hc12
 obtain rfl : i = l.length := by omega
 have hXe := Tf xs1 0 lxs1
 have hRe := Tf rs1 0 lrs1
 have hQe : qs1.take l.length = qs1 := Bu (by omega)
 refine AS ?_
 simp only [go_sem, simprocAttr]
 rw [hXe, hRe, hQe]
 refine Aa (Z 18 rfl ?_)
 simp only [go_sem, simprocAttr, AbQ, hXe, hRe, hQe, BN, EFq, BQ, Be]
 and_intros <;> try exact sdA
 refine Aa (Aa (Z 19 rfl ?_))
 simp only [go_sem, simprocAttr, Ih, BN, EFq, BQ, Be]
 refine Ao ?_
 refine AX (α := Nat) (fun i => (i <= l.length)) (fun i => ⟨mkE [(8, V.ptr 8 0), (10, V.ptr 10 0), (11, V.ptr 11 0), (12, V.fn 142 [V.ptr 10 0, V.ptr 9 0, V.ptr 8 0]), (18, V.ptr 18 0), (81, V.int IntKind.i64 ↑l.length), (82, .int .i64 i)], mkH [(8, Ob.box 3 [V.int IntKind.i64 (A - qs1.sum)]), (9, Ob.box 3 [V.int IntKind.i64 (sgn a)]), (10, Ob.box 42 [V.own 44 l.length]), (11, Ob.box 204 [V.own 47 l.length]), (18, Ob.box 42 [V.own 79 l.length]), (44, Ob.arr 3 1 (Aq xs1)), (47, Ob.arr 189 1 (Ez rs1)), (79, .arr 3 1 (CG ((List.range' 0 l.length).take i ++ List.replicate (l.length - i) 0)))]⟩) (fun i => l.length - i) 0 (Ar _) ?_ ?_
 ·refine Le.mk _ _ ?_ ?_ rfl <;> simp only [go_sem, simprocAttr, HC, FR, Nat.sub_zero, AbQ] <;> and_intros <;> try exact leA
 rintro i hi KL2 hKL2
 try dsimp only at *
 refine Aa (Z 20 rfl ?_)
 simp only [go_sem, simprocAttr, BN, EFq, BQ, Be]
 refine Aa ?_
 refine Ae rfl (fun hc20 => ?_) fun hc20 => ?_
 ·simp only [hcL] at hc20
  refine Af ?_
  refine Aa (Ao ?_)
  refine Aa (Z 21 rfl ?_)
  simp only [go_sem, simprocAttr, BN, EFq, BQ, Be]
  have hfo := Tg (List.range' 0 l.length) 0 Gx hi
  have hfs := Ti (List.range' 0 l.length) 0 Gx hc20
  rw [show (List.range' 0 l.length)[i]'(by rw [Gx]; exact hc20) = i by simp] at hfs
  have hil2 : i < ((List.range' 0 l.length).take i ++ List.replicate (l.length - i) 0).length := by rw [hfo]; exact hc20
  refine Z 22 rfl ?_
  simp only [go_sem, simprocAttr, hfo, hc20, Ah9, hfs, AbO _ _ _ hil2, BN, EFq, BQ, Be]
  and_intros <;> try exact sdA
  refine Z 23 rfl ?_
  simp only [go_sem, simprocAttr, inI, BN, EFq, BQ, Be]
  and_intros <;> try exact sdA
  refine hKL2 (i + 1) _ ?_ ?_ ?_
  ·(try dsimp only); exact hc20
  ·(try dsimp only); omega
  exact leM
 simp only [hcL] at hc20
 obtain rfl : i = l.length := by omega
 have hOe := Tf (List.range' 0 l.length) 0 Gx
 rw [hOe]
 refine AS ?_
 simp only [go_sem, simprocAttr]
 refine Aa (Z 24 rfl ?_)
 simp only [go_sem, simprocAttr, BN, EFq, BQ, Be]
 and_intros <;> try exact sdA
 refine Ak0 (r := rs1) lrs1 (by omega) hl rfl rfl rfl rfl ?_
 simp only [go_sem, simprocAttr, EFq, SP, lrs1]
 refine Aa ?_
 obtain ⟨O, hO⟩ : ∃ O, O = msT (fr rs1) (List.range' 0 l.length) := ⟨_, rfl⟩
 have hOp : O.Perm (List.range' 0 l.length) := hO ▸ Qq _
 have hOl : O.length = l.length := by rw [hOp.length_eq, Gx]
 rw [<- hO] at hsm ⊢
 have hs0 := UV bqs1 l.length (by omega)
 rw [Bu (by omega)] at hs0
 replace hs0 : A - qs1.sum <= 2199023255552 /\ -(4611686018427387904) <= A - qs1.sum := by omega
 have hx0 : ∀ x ∈ xs1, -(2199023255552 + ((0 : Nat) : Int)) <= x /\ x <= 2199023255552 + ((0 : Nat) : Int) := fun x hx => by rw [hxs1] at hx; obtain ⟨q, hq, rfl⟩ := An.1 hx; have := bqs1 q hq; rcases hsg2 with h | h <;> rw [h] <;> omega
 refine Aa (Z 25 rfl ?_)
 simp only [go_sem, simprocAttr, hOl, BN, EFq, BQ, Be]
 refine Ao ?_
 refine AX (α := Nat × Int × (List Int)) (fun γ => (γ.1 <= l.length) /\ (Gq (sgn a) O (A - qs1.sum) xs1 = Gq (sgn a) (O.drop γ.1) γ.2.1 γ.2.2) /\ (γ.2.2.length = l.length) /\ ((∀ x ∈ γ.2.2, -(2199023255552 + (γ.1 : Int)) <= x /\ x <= 2199023255552 + (γ.1 : Int))) /\ (γ.2.1 <= 2199023255552) /\ (-(4611686018427387904) <= γ.2.1)) (fun γ => ⟨mkE [(8, V.ptr 8 0), (10, V.ptr 10 0), (12, V.fn 142 [V.ptr 10 0, V.ptr 9 0, V.ptr 8 0]), (94, V.own 79 l.length), (95, V.int IntKind.i64 ↑l.length), (96, .int .i64 γ.1)], mkH [(8, .box 3 [.int .i64 γ.2.1]), (9, Ob.box 3 [V.int IntKind.i64 (sgn a)]), (10, Ob.box 42 [V.own 44 l.length]), (44, .arr 3 1 (Aq γ.2.2)), (79, Ob.arr 3 1 (CG O))]⟩) (fun γ => l.length - γ.1) (0, A - qs1.sum, xs1) ⟨Ar _, rfl, lxs1, hx0, hs0.1, hs0.2⟩ ?_ ?_
 ·exact leM
 rintro ⟨i, lf, xs⟩ ⟨hi, g1, g2, g3, g4, g5⟩ KL4 hKL4
 try dsimp only at *
 refine Aa (Z 26 rfl ?_)
 simp only [go_sem, simprocAttr, BN, EFq, BQ, Be]
 refine Aa ?_
 refine Ae rfl (fun hc26 => ?_) fun hc26 => ?_
 ·simp only [hcL] at hc26
  refine Af ?_
  refine Aa (Ao ?_)
  have hOi : i < O.length := by omega
  have hkn := Ahz hOp hOi
  have hdr : O.drop i = O.getD i 0 :: O.drop (i + 1) := by rw [DS hOi, AI, AY hOi]; rfl
  obtain ⟨k, hk⟩ : ∃ k, k = O.getD i 0 := ⟨_, rfl⟩
  rw [<- hk] at hkn hdr
  refine Aa (Z 27 rfl ?_)
  simp only [go_sem, simprocAttr, hOl, hc26, AbO _ _ _ hOi, <- hk, BN, EFq, BQ, Be]
  and_intros <;> try exact sdA
  refine Aa (Z 28 rfl ?_)
  simp only [go_sem, simprocAttr, BN, EFq, BQ, Be]
  refine Ae rfl (fun hc28 => ?_) fun hc28 => ?_
  ·simp only [hcL] at hc28
   have hxk : k < xs.length := by omega
   have hb3 := g3 xs[k] (AF hxk)
   have hs1 : sgn a * 1 = 1 \/ sgn a * 1 = -1 := by rw [Int.mul_one]; exact hsg2
   refine Z 29 rfl ?_
   simp only [go_sem, simprocAttr, BN, EFq, BQ, Be]
   and_intros <;> try exact sdA
   refine Aa5 (xs := xs) (xs' := xs.set k (xs[k] + sgn a * 1)) (left' := lf - 1) k rfl g2 hxk (by unfold inI; omega) (by unfold inI; omega) (by unfold inI; omega) rfl rfl rfl rfl rfl rfl ?_
   simp only [go_sem, simprocAttr, EFq, GO]
   refine Z 30 rfl ?_
   simp only [go_sem, simprocAttr, inI, BN, EFq, BQ, Be]
   and_intros <;> try exact sdA
   refine hKL4 (i + 1, lf - 1, xs.set k (xs[k] + sgn a * 1)) _ ?_ ?_ ?_
   ·(try dsimp only); exact ⟨hc26, by rw [g1, hdr, Gq, if_pos (by omega), AI, AY hxk]; rfl, by rw [Ik]; exact g2, fun x hx => by rcases List.mem_or_eq_of_mem_set hx with hx | rfl; have := g3 x hx; omega; omega, by omega, by omega⟩
   ·(try dsimp only); omega
   exact leM
  simp only [hcL] at hc28
  refine Af ?_
  refine Z 30 rfl ?_
  simp only [go_sem, simprocAttr, inI, BN, EFq, BQ, Be]
  and_intros <;> try exact sdA
  refine hKL4 (i + 1, lf, xs) _ ?_ ?_ ?_
  ·(try dsimp only); exact ⟨hc26, by rw [g1, hdr, Gq, if_neg (by omega)], g2, fun x hx => by have := g3 x hx; omega, g4, g5⟩
  ·(try dsimp only); omega
  exact leM
 simp only [hcL] at hc26
 obtain rfl : i = l.length := by omega
 rw [<- hOl, List.drop_length, Gq] at g1
 rw [g1] at hsm
 refine AS ?_
 simp only [go_sem, simprocAttr]
 refine Aa (Z 31 rfl ?_)
 simp only [go_sem, simprocAttr, BN, EFq, BQ, Be]
 refine AW.le (s' := ⟨mkE [(4, .list (Aq xs) false), (5, .int .i64 0)], mkH []⟩) (Le.mk _ _ ?_ ?_ rfl) (Ad (hQ _ _ (.inl rfl) ?_ ?_ ?_)) <;> simp only [go_sem, simprocAttr, Mq, GW, hsp, hsm]
 exact DO rfl (by rw [DB, g2]) rfl (JQ _)
def NG (n : Int) : Prop × V := (inI n /\ n ≠ -9223372036854775808, .int .i64 (n.natAbs : Int))
theorem Fm (n : Int) : gOf aI NG [.int .i64 n] = (inI n /\ n ≠ -9223372036854775808, .int .i64 (n.natAbs : Int)) := Al Nk n
theorem AjI : PU 155 (gOf aI NG) := by
 have hG := AH
 refine Zb.a Nk (by simp [aI]) ?_
 rintro n hv C hN Q hQ
 have Z := Zb.R EF0 hG hN
 obtain ⟨h1, h2⟩ : inI n /\ n ≠ -9223372036854775808 := hv
 unfold inI at h1
 refine Aa (Z 0 rfl ?_)
 simp only [go_sem, simprocAttr, aI]
 refine Aa (Aa (Z 1 rfl ?_))
 simp only [go_sem, simprocAttr]
 refine Ae rfl (fun hc1 => ?_) fun hc1 => ?_
 ·simp only [hcL] at hc1
  refine Aa (Z 2 rfl ?_)
  simp only [go_sem, simprocAttr, inI]
  and_intros <;> try exact sdA
  refine Ad (hQ _ _ (.inl rfl) ?_ ?_ ?_) <;> simp only [go_sem, simprocAttr, NG]
  congr 1; omega
 simp only [hcL] at hc1
 refine Af ?_
 refine Aa (Z 3 rfl ?_)
 simp only [go_sem, simprocAttr]
 refine Ad (hQ _ _ (.inl rfl) ?_ ?_ ?_) <;> simp only [go_sem, simprocAttr, NG]
 congr 1; omega
theorem IX {l : List Int} {i : Nat} (h : i < l.length) : l.getD i 0 = l[i] := by rw [AI, AY h]; rfl
def GK : List Nat -> List Int -> List Int
 | [], xs => xs
 | i :: os, xs => GK os (xs.set i (xs.getD i 0 + 1))
theorem Aa3 : ∀ (O : List Nat) (xs : List Int), (GK O xs).length = xs.length
 | [], _ => rfl
 | i :: O, xs => by rw [GK, Aa3 O, Ik]
theorem Aa1 (sg : Int) : ∀ (O : List Nat) (left : Int) (xs : List Int), left <= 0 -> Gq sg O left xs = xs
 | [], _, _, _ => rfl
 | i :: O, left, xs, h => by rw [Gq, if_neg (by omega)]; exact Aa1 sg O left xs h
theorem AhI (sg : Int) (xs : List Int) (i : Nat) (hi : i < xs.length) : (xs.map fun q => sg * q).set i ((xs.map fun q => sg * q).getD i 0 + sg * 1) = (xs.set i (xs.getD i 0 + 1)).map fun q => sg * q := by
 rw [JW]
 congr 1
 rw [IX (by rw [Ac]; exact hi), GQ, IX hi, Ls]
theorem Aa0 (sg : Int) : ∀ (O : List Nat) (k : Nat) (xs : List Int), (∀ i ∈ O, i < xs.length) -> k <= O.length -> Gq sg O k (xs.map fun q => sg * q) = (GK (O.take k) xs).map fun q => sg * q
 | O, 0, xs, _, _ => by rw [Aa1 _ _ _ _ (by omega)]; rfl
 | [], k + 1, xs, _, h => by simp at h
 | i :: O, k + 1, xs, h, hk => by
  rw [Gq, if_pos (by omega), AhI sg xs i (h i (AJ ..)), JZ, GK, show ((k + 1 : Nat) : Int) - 1 = k by omega]
  exact Aa0 sg O k _ (fun j hj => by rw [Ik]; exact h j (AU _ hj)) (by simpa using hk)
theorem Abq {A S : Int} (hS : 0 < S) : ∀ {l : List Int}, A * l.sum = S * (qsP A S l).sum + (rsP A S l).sum /\ 0 <= (rsP A S l).sum /\ (rsP A S l).sum <= (l.length : Int) * (S - 1)
 | [] => by simp [qsP, rsP]
 | w :: l => by
  obtain ⟨h1, h2, h3⟩ := Abq (A := A) hS (l := l)
  have e1 : (qsP A S (w :: l)).sum = A * w / S + (qsP A S l).sum := by simp [qsP]
  have e2 : (rsP A S (w :: l)).sum = A * w % S + (rsP A S l).sum := by simp [rsP]
  have m1 := Int.emod_nonneg (A * w) (show S ≠ 0 by omega)
  have m2 := Int.emod_lt_of_pos (A * w) hS
  have m3 := Int.mul_ediv_add_emod (A * w) S
  rw [e1, e2, Fv, Ls, Ls, Av]
  refine ⟨by omega, by omega, ?_⟩
  rw [show ((l.length + 1 : Nat) : Int) * (S - 1) = (l.length : Int) * (S - 1) + (S - 1) by rw [Int.natCast_add, Int.add_mul]; simp]
  omega
theorem Abp {A S : Int} {l : List Int} (hS : 0 < S) (hsum : l.sum = S) (hl : 0 < l.length) : 0 <= A - (qsP A S l).sum /\ A - (qsP A S l).sum < l.length := by
 obtain ⟨h1, h2, h3⟩ := Abq (A := A) hS (l := l)
 rw [hsum] at h1
 have e : (A - (qsP A S l).sum) * S = (rsP A S l).sum := by rw [Int.sub_mul, Lr (qsP A S l).sum S]; omega
 generalize A - (qsP A S l).sum = D at *
 refine ⟨?_, ?_⟩
 ·by_cases c : D < 0
  ·have : D * S < 0 := Int.mul_neg_of_neg_of_pos c hS
   omega
  ·omega
 ·refine Int.lt_of_mul_lt_mul_right (a := S) ?_ (by omega)
  have : (l.length : Int) * (S - 1) = (l.length : Int) * S - l.length := by rw [Int.mul_sub]; simp
  omega
theorem AgC {a b : Int} (hb : 0 < b) (h : a.tmod b < 0) : a.tdiv b - 1 = a / b /\ a.tmod b + b = a % b := by
 have h1 := Int.mul_tdiv_add_tmod a b
 have h2 := Int.lt_tmod_of_pos a hb
 have := (Int.ediv_emod_unique (a := a) (b := b) (q := a.tdiv b - 1) (r := a.tmod b + b) hb).2 ⟨by rw [<- h1]; grind, by omega, by omega⟩
 exact ⟨this.1.symm, this.2.symm⟩
theorem AgD {a b : Int} (hb : 0 < b) (h : ¬ a.tmod b < 0) : a.tdiv b = a / b /\ a.tmod b = a % b := by
 have h1 := Int.mul_tdiv_add_tmod a b
 have h2 := Qj a hb
 have := (Int.ediv_emod_unique (a := a) (b := b) (q := a.tdiv b) (r := a.tmod b) hb).2 ⟨by rw [<- h1]; grind, by omega, by omega⟩
 exact ⟨this.1.symm, this.2.symm⟩
def fFl (x : Int × Int) : Prop × V := (-4611686018427387904 <= x.1 /\ x.1 <= 4611686018427387904 /\ 0 < x.2 /\ x.2 <= 1099511627776, Am (x.1 / x.2, x.1 % x.2))
theorem Fk (a b : Int) : gOf CP fFl [.int .i64 a, .int .i64 b] = (-4611686018427387904 <= a /\ a <= 4611686018427387904 /\ 0 < b /\ b <= 1099511627776, Am (a / b, a % b)) := Al Jz (a, b)
theorem AdJ {a b : Int} (hb : 0 < b) (h1 : -4611686018427387904 <= a) (h2 : a <= 4611686018427387904) : -4611686018427387904 <= a.tdiv b /\ a.tdiv b <= 4611686018427387904 := by
 have h := Int.natAbs_tdiv a b
 have h3 : a.natAbs / b.natAbs <= a.natAbs := Nat.div_le_self _ _
 have h4 : (a.tdiv b).natAbs <= a.natAbs := by rw [h]; exact h3
 omega
theorem Ajr : PU 198 (gOf CP fFl) := by
 have hG := AH
 refine SN.a Jz (by simp [CP]) ?_
 rintro ⟨a, b⟩ hv C hN Q hQ
 have Y := SN.D EF0 hG hN mixed
 have Z := SN.R EF0 hG hN
 obtain ⟨h1, h2, h3, h4⟩ : -4611686018427387904 <= a /\ a <= 4611686018427387904 /\ 0 < b /\ b <= 1099511627776 := hv
 have hq := AdJ h3 h1 h2
 have hb0 : b ≠ 0 := by omega
 have hm1 := Int.lt_tmod_of_pos a h3
 have hm2 := Qj a h3
 refine Aa (Z 0 rfl ?_)
 simp only [go_sem, simprocAttr, CP]
 refine Aa (Y 1 rfl (by kernel_rfl) ?_)
 simp only [go_sem, simprocAttr, hb0]
 and_intros <;> try exact sdA
 refine Aa (Aa (Z 2 rfl ?_))
 simp only [go_sem, simprocAttr]
 refine Ae rfl (fun hb2 => ?_) fun hb2 => ?_
 ·have hfl := AgC h3 (of_decide_eq_true hb2)
  refine Aa (Z 3 rfl ?_)
  simp only [go_sem, simprocAttr, inI]
  and_intros <;> try exact sdA
  refine Ad (hQ _ _ (.inl rfl) ?_ ?_ ?_) <;> simp only [go_sem, simprocAttr, fFl, Am]
  rw [hfl.1, hfl.2]
 have hfl := AgD h3 (of_decide_eq_false hb2)
 refine Af ?_
 refine Aa (Z 4 rfl ?_)
 simp only [go_sem, simprocAttr]
 refine Ad (hQ _ _ (.inl rfl) ?_ ?_ ?_) <;> simp only [go_sem, simprocAttr, fFl, Am]
 rw [hfl.1, hfl.2]
theorem RK {A W : Int} {a w : Int} (h1 : (a.natAbs : Int) = A) (h2 : (w.natAbs : Int) = W) : ((a * w).natAbs : Int) = A * W := by
 rw [Int.natAbs_mul, Int.natCast_mul, h1, h2]
theorem Xf {a s A : Int} (hA : (a.natAbs : Int) = A) (hs : 0 <= s /\ s < 10000) : -(9999 * A) <= a * s /\ a * s <= 9999 * A := by
 have h1 := RK (a := a) (w := s) hA (show (s.natAbs : Int) = s by omega)
 have h2 : A * s <= A * 9999 := Qc (by omega) (by omega)
 omega
theorem Ab5 (a w s : Int) : Jj a (10000 * w + s) = a * w + (2 * (a * s) + 10000) / 20000 := by
 unfold Jj
 rw [show a * (10000 * w + s) = 10000 * (a * w) + a * s by grind]
 omega
theorem AiL {a w s A W : Int} (hA : (a.natAbs : Int) = A) (hW : (w.natAbs : Int) = W) (ha : a ≠ 0) (ha1 : A <= 1099511627776) (hs : 0 <= s /\ s < 10000) (hb : 2199023255552 / A < W) : CR (Jj a (10000 * w + s)) = false := by
 have hA0 : 0 < A := by omega
 have h1 : 2199023255552 < A * W := by rw [Lr]; exact (Int.ediv_lt_iff_lt_mul hA0).1 hb
 have h2 := RK hA hW
 have h3 := Xf hA hs
 rw [Ab5]
 refine ME.2 fun h => ?_
 have := (Mu _).1 h
 omega
theorem AiM {a w A W : Int} (hA : (a.natAbs : Int) = A) (hW : (w.natAbs : Int) = W) (hb : a = 0 \/ ¬ 2199023255552 / A < W) : -2199023255552 <= a * w /\ a * w <= 2199023255552 := by
 by_cases ha : a = 0
 ·rw [ha, Int.zero_mul]; decide
 ·have hA0 : 0 < A := by omega
  have h1 : W * A <= 2199023255552 := (Int.le_ediv_iff_mul_le hA0).1 (by omega)
  have h2 := RK hA hW
  rw [Lr] at h1
  omega
noncomputable def EO : Tab
 | 154 => (gOf aI KY)
 | 198 => (gOf CP fFl)
 | 155 => (gOf aI NG)
 | _ => gNo
theorem AnA : ∀ f, PU f (EO f) := fun f => by
 unfold EO
 split
 ·exact AeI
 ·exact Ajr
 ·exact AjI
 ·exact Ah.no
def HZ (x : Int × Int) : Prop × V := (True, Am (Gz x.1 x.2))
theorem Cb (a h : Int) : gOf CP HZ [.int .i64 a, .int .i64 h] = (True, Am (Gz a h)) := Al Jz (a, h)
theorem Acu : PU 165 (gOf CP HZ) := by
 have hG := AnA
 refine Zi.a Jz (by simp [CP]) ?_
 rintro ⟨a, h⟩ hv C hN Q hQ
 have Z := Zi.R EF0 hG hN
 refine Aa (Z 0 rfl ?_)
 simp only [go_sem, simprocAttr, CP, EO, Be, Fk, Fm, Am]
 refine Aa ?_
 by_cases hfa : CR a = true
 ·by_cases hfb : CR h = true
  ·refine Aa (Z 1 rfl ?_)
   simp only [go_sem, simprocAttr, hfa, hfb, EO, Be, Fk, Fm, Am]
   and_intros <;> try exact sdA
   refine Da rfl ?_
   refine Af ?_
   have hba := (Mu _).1 hfa
   have hbh := (Mu _).1 hfb
   have hdm : 10000 * (h / 10000) + h % 10000 = h := by omega
   have hs0 : 0 <= h % 10000 /\ h % 10000 < 10000 := by omega
   have hw0 : -110000000 <= h / 10000 /\ h / 10000 <= 110000000 := by omega
   generalize hw : h / 10000 = w at hdm hw0
   generalize hs : h % 10000 = s at hdm hs0
   generalize hA : (a.natAbs : Int) = A
   generalize hW : (w.natAbs : Int) = W
   have hab := Xf hA hs0
   have hpe := Ab5 a w s
   have hA1 : A <= 1099511627776 := by omega
   refine Aa (Z 3 rfl ?_)
   simp only [go_sem, simprocAttr, hw, hs, EO, Be, Fk, Fm, Am]
   and_intros <;> try exact sdA
   refine Dw (α := Unit) (fun _ => (-2199023255552 <= a * w /\ a * w <= 2199023255552)) (fun _ => ⟨mkE [(0, V.int IntKind.i64 a), (6, V.int IntKind.i64 w), (7, V.int IntKind.i64 s)], mkH []⟩) ?_ ?_
   ·intro KC4 hKC4
    have hqe : Int.tdiv 2199023255552 A = 2199023255552 / A := Lt (by decide)
    have hq1 : 0 <= 2199023255552 / A /\ 2199023255552 / A <= 2199023255552 := ⟨MH (by decide) (by omega), Ql _ (by decide)⟩
    have hq4 : inI (2199023255552 / A) := by unfold inI; omega
    have hA2 : (!decide (a = 0)) = true -> ¬A = 0 := by simp; omega
    refine Aa (Z 4 rfl ?_)
    simp only [go_sem, simprocAttr, hA, hW, hqe, EO, Be, Fk, Fm, Am]
    and_intros <;> (try first | exact sdA | (intro hz; exact ⟨hz, hA2 hz, hq4⟩))
    refine Ae rfl (fun hb4 => ?_) fun hb4 => ?_
    ·simp only [By, MD, decide_eq_true_eq, decide_eq_false_iff_not] at hb4
     refine Aa (Z 5 rfl ?_)
     simp only [go_sem, simprocAttr, EO, Be, Fk, Fm, Am]
     refine Ad (hQ _ _ (.inl rfl) ?_ ?_ ?_) <;> simp only [go_sem, simprocAttr, HZ, Am]
     rw [Ot (by rw [<- hdm, AiL hA hW hb4.1 hA1 hs0 hb4.2]; simp)]
    simp only [Qe, Ii, decide_eq_true_eq, decide_eq_false_iff_not] at hb4
    refine Af ?_
    refine hKC4 (()) _ ?_ ?_
    ·(try dsimp only); exact AiM hA hW hb4
    exact leM
   rintro _ hsm
   refine Aa (Z 6 rfl ?_)
   simp only [go_sem, simprocAttr, inI, show 2 * a * s = 2 * (a * s) from Int.mul_assoc _ _ _, EO, Be, Fk, Fm, Am]
   and_intros <;> try exact sdA
   refine Aa ?_
   have hn0 : -1100000000000 <= (2 * (a * s) + 10000) / 20000 /\ (2 * (a * s) + 10000) / 20000 <= 1100000000000 := by omega
   refine Aa (Z 7 rfl ?_)
   simp only [go_sem, simprocAttr, inI, EO, Be, Fk, Fm, Am]
   and_intros <;> try exact sdA
   refine Ae rfl (fun hb7 => ?_) fun hb7 => ?_
   ·refine Aa (Z 8 rfl ?_)
    simp only [go_sem, simprocAttr, EO, Be, Fk, Fm, Am]
    refine Ad (hQ _ _ (.inl rfl) ?_ ?_ ?_) <;> simp only [go_sem, simprocAttr, HZ, Am]
    rw [Ot (by rw [hfa, hfb, <- hdm, hpe]; simpa using hb7)]
   refine Af ?_
   refine Aa (Z 9 rfl ?_)
   simp only [go_sem, simprocAttr, inI, EO, Be, Fk, Fm, Am]
   and_intros <;> try exact sdA
   refine Ad (hQ _ _ (.inl rfl) ?_ ?_ ?_) <;> simp only [go_sem, simprocAttr, HZ, Am]
   rw [AiK (by rw [hfa, hfb, <- hdm, hpe]; simpa using hb7), <- hdm, hpe]
  replace hfb := ME.2 hfb
  refine Aa (Z 1 rfl ?_)
  simp only [go_sem, simprocAttr, hfa, hfb, EO, Be, Fk, Fm, Am]
  and_intros <;> try exact sdA
  refine IJ rfl ?_
  refine Aa (Z 2 rfl ?_)
  simp only [go_sem, simprocAttr, EO, Be, Fk, Fm, Am]
  refine Ad (hQ _ _ (.inl rfl) ?_ ?_ ?_) <;> simp only [go_sem, simprocAttr, HZ, Am]
  rw [Ot (by rw [hfb]; simp)]
 replace hfa := ME.2 hfa
 by_cases hfb : CR h = true
 ·refine Aa (Z 1 rfl ?_)
  simp only [go_sem, simprocAttr, hfa, hfb, EO, Be, Fk, Fm, Am]
  and_intros <;> try exact sdA
  refine IJ rfl ?_
  refine Aa (Z 2 rfl ?_)
  simp only [go_sem, simprocAttr, EO, Be, Fk, Fm, Am]
  refine Ad (hQ _ _ (.inl rfl) ?_ ?_ ?_) <;> simp only [go_sem, simprocAttr, HZ, Am]
  rw [Ot (by rw [hfa]; simp)]
 replace hfb := ME.2 hfb
 refine Aa (Z 1 rfl ?_)
 simp only [go_sem, simprocAttr, hfa, hfb, EO, Be, Fk, Fm, Am]
 and_intros <;> try exact sdA
 refine IJ rfl ?_
 refine Aa (Z 2 rfl ?_)
 simp only [go_sem, simprocAttr, EO, Be, Fk, Fm, Am]
 refine Ad (hQ _ _ (.inl rfl) ?_ ?_ ?_) <;> simp only [go_sem, simprocAttr, HZ, Am]
 rw [Ot (by rw [hfa]; simp)]
theorem Xa : ∀ {L : Aw Int} {c : List UInt8} {i : Nat} (hi : i < L.length) (v : Int), (∀ p ∈ L.take i, decide (p.1 = c) = false) -> L[i].1 = c -> BB L c v = L.set i (c, v)
 | (k, w) :: L, c, 0, _, v, _, h => by
  simp only [List.getElem_cons_zero] at h
  rw [BB, if_pos h]; rfl
 | (k, w) :: L, c, i + 1, hi, v, hp, h => by
  have h1 := hp (k, w) (by simp)
  rw [BB, if_neg (of_decide_eq_false h1), List.set_cons_succ]
  rw [Xa (L := L) (i := i) (by simpa using hi) v (fun p hq => hp p (by rw [JZ]; exact AU _ hq)) (by simpa using h)]
theorem Xc : ∀ {L : Aw Int} {c : List UInt8} (v : Int), (∀ p ∈ L, decide (p.1 = c) = false) -> BB L c v = L ++ [(c, v)]
 | [], _, _, _ => rfl
 | (k, w) :: L, c, v, hp => by
  rw [BB, if_neg (of_decide_eq_false (hp (k, w) (AJ ..))), Xc v fun p hq => hp p (AU _ hq)]; rfl
def Ek (L : Aw Int) (c : List UInt8) (m : Int) : Aw Int × Bool := match As L c with
 | some v => if v <= m then (L, false) else (BB L c m, true)
 | none => (BB L c m, true)
theorem Ul {L : Aw Int} {c : List UInt8} {m v : Int} (h : As L c = some v) : Ek L c m = if v <= m then (L, false) else (BB L c m, true) := by unfold Ek; rw [h]
theorem Ajo {L : Aw Int} {c : List UInt8} {m : Int} (h : As L c = none) : Ek L c m = (BB L c m, true) := by unfold Ek; rw [h]
def spO (n : Nat) (L : Aw Int) : List (Nat × Ob) := [(n, .arr 256 2 (CV L))]
theorem Aci (L : Aw Int) (c : List UInt8) (m : Int) (hL : L.length <= 1000000) : Eff Tryz.prog UT 191 [.own 1000 L.length, .str c, .int .i64 m] (spO 1000 L) (.tup [.own 1000 (Ek L c m).1.length, .bool (Ek L c m).2]) (spO 1000 (Ek L c m).1) := by
 have hG := AH
 generalize hR : Ek L c m = R
 refine ZA.e (by simp) fun C hN Q hQ => ?_
 have Z := ZA.R EF0 hG hN
 refine Aa (Z 0 rfl ?_)
 simp only [go_sem, simprocAttr, spO]
 refine Aa (Aa (Z 1 rfl ?_))
 simp only [go_sem, simprocAttr, spO]
 refine Ao ?_
 refine AX (α := Nat) (fun i => (i <= L.length) /\ (∀ p ∈ L.take i, decide (p.1 = c) = false)) (fun i => ⟨mkE [(0, V.own 1000 (List.length L)), (1, V.str c), (2, V.int IntKind.i64 m), (8, .int .i64 i)], mkH [(1000, Ob.arr 256 2 (CV L))]⟩) (fun i => L.length - i) 0 (by simp) ?_ ?_
 ·exact leM
 rintro i ⟨hi, hp⟩ KL0 hKL0
 try dsimp only at *
 refine Aa (Aa (Z 2 rfl ?_))
 simp only [go_sem, simprocAttr, spO]
 refine Ae rfl (fun hc2 => ?_) fun hc2 => ?_
 ·simp only [hcL] at hc2
  refine Af ?_
  refine Aa (Ao ?_)
  refine Aa (Z 4 rfl ?_)
  simp only [go_sem, simprocAttr, OA _ _ _ hc2, hc2, spO]
  and_intros <;> try exact sdA
  refine Ae rfl (fun hb => ?_) fun hb => ?_
  ·refine Aa ?_
   have hag := WS hc2 hp (of_decide_eq_true hb)
   refine Aa (Z 5 rfl ?_)
   simp only [go_sem, simprocAttr, OA _ _ _ hc2, hc2, spO]
   and_intros <;> try exact sdA
   refine Ae rfl (fun hb5 => ?_) fun hb5 => ?_
   ·simp only [hcL] at hb5
    refine Aa (Z 6 rfl ?_)
    simp only [go_sem, simprocAttr, spO]
    have hfin : R = (L, false) := by rw [<- hR, Ul hag, if_pos hb5]
    subst hfin
    refine Ad ?_
    show Q _ _
    refine hQ _ _ ⟨mkE [(6, .own 1000 L.length), (7, .bool false)], mkH (spO 1000 L)⟩ (.inl rfl) (Le.mk _ _ ?_ ?_ rfl) rfl ?_ ?_ <;> simp only [go_sem, simprocAttr, spO]
   simp only [hcL] at hb5
   refine Af ?_
   have hec : L[i].1 = c := of_decide_eq_true hb
   refine Aa (Z 7 rfl ?_)
   simp only [go_sem, simprocAttr, OA _ _ _ hc2, hc2, hec, Ala, spO]
   and_intros <;> try exact sdA
   refine Aa (Z 8 rfl ?_)
   simp only [go_sem, simprocAttr, spO]
   have hfin : R = (L.set i (c, m), true) := by rw [<- hR, Ul hag, if_neg (by omega), Xa hc2 m hp hec]
   subst hfin
   refine Ad ?_
   show Q _ _
   refine hQ _ _ ⟨mkE [(6, .own 1000 (L.set i (c, m)).length), (7, .bool true)], mkH (spO 1000 (L.set i (c, m)))⟩ (.inl rfl) (Le.mk _ _ ?_ ?_ rfl) rfl ?_ ?_ <;> simp only [go_sem, simprocAttr, spO, Ik]
  refine Af ?_
  refine Z 3 rfl ?_
  simp only [go_sem, simprocAttr, inI, spO]
  and_intros <;> try exact sdA
  refine hKL0 (i + 1) _ ?_ ?_ ?_
  ·(try dsimp only); exact ⟨hc2, Iz hc2 hp hb⟩
  ·(try dsimp only); omega
  exact leM
 simp only [hcL] at hc2
 refine AS ?_
 simp only [go_sem, simprocAttr]
 refine Aa (Z 9 rfl ?_)
 simp only [go_sem, simprocAttr, Alb, spO]
 and_intros <;> try exact sdA
 have hfin : R = (L ++ [(c, m)], true) := by rw [<- hR, Ajo (WU hc2 hp), Xc m (AbM hc2 hp)]
 subst hfin
 refine Ad ?_
 show Q _ _
 refine hQ _ _ ⟨mkE [(6, .own 1000 (L ++ [(c, m)]).length), (7, .bool true)], mkH (spO 1000 (L ++ [(c, m)]))⟩ (.inl rfl) (Le.mk _ _ ?_ ?_ rfl) rfl ?_ ?_ <;> simp only [go_sem, simprocAttr, spO, Ai, Av, Ay]
def CN (L : Aw Int) (x y : List UInt8) (n : Int) : Aw Int × Bool := match As L x with
 | none => (L, false)
 | some m => match As L y with
  | some old => if old <= m + n then (L, false) else (BB L y (m + n), true)
  | none => (BB L y (m + n), true)
def Ki (L : Aw Int) (x y : List UInt8) (n : Int) : Bool := !(As L x).isSome || ((As L y).isSome && decide ((As L y).getD 0 <= (As L x).getD 0 + n))
theorem Uo {L : Aw Int} {x y : List UInt8} {n : Int} (h : Ki L x y n = true) : CN L x y n = (L, false) := by
 unfold Ki at h; unfold CN
 cases hx : As L x with
 | none => rfl
 | some m =>
  cases hy : As L y with
  | none => rw [hx, hy] at h; cases h
  | some old =>
   rw [hx, hy] at h
   have : old <= m + n := by simpa using h
   dsimp only
   rw [if_pos this]
theorem Acm {L : Aw Int} {x y : List UInt8} {n : Int} (h : Ki L x y n = false) : CN L x y n = (BB L y ((As L x).getD 0 + n), true) := by
 unfold Ki at h; unfold CN
 cases hx : As L x with
 | none => rw [hx] at h; cases h
 | some m =>
  cases hy : As L y with
  | none => rfl
  | some old =>
   rw [hx, hy] at h
   have : ¬ old <= m + n := by simpa using h
   dsimp only
   rw [if_neg this]; rfl
def mpO (nb nm : Nat) (L : Aw Int) : List (Nat × Ob) := [(nb, .box 240 [.map nm]), (nm, .mp (BD fI8 L))]
theorem KF {L : Aw Int} {k : List UInt8} {v : Int} (h : As L k = some v) : (k, v) ∈ L := by
 unfold As at h
 obtain ⟨p, hp, rfl⟩ := AZ.1 h
 have h1 := List.mem_of_find?_eq_some hp
 have h2 : p.1 = k := by simpa using List.find?_some hp
 rw [<- h2]; exact h1
theorem WT {L : Aw Int} (h : ∀ p ∈ L, 0 <= p.2 /\ p.2 <= 1000000000) (k : List UInt8) : 0 <= (As L k).getD 0 /\ (As L k).getD 0 <= 1000000000 := by
 cases e : As L k with
 | none => simp
 | some v => exact h _ (KF e)
theorem Ack (L : Aw Int) (x y : List UInt8) (n : Int) (hL : ∀ p ∈ L, 0 <= p.2 /\ p.2 <= 1000000000) (hn : 0 <= n /\ n <= 1000000) : Eff Tryz.prog UT 181 [.str x, .str y, .int .i64 n, .ptr 1000 0] (mpO 1000 1001 L) (.bool (CN L x y n).2) (mpO 1000 1001 (CN L x y n).1) := by
 have hG := AH
 generalize hR : CN L x y n = R
 have hx := WT hL x
 have hy := WT hL y
 refine Zv.e (by simp) fun C hN Q hQ => ?_
 have Z := Zv.R EF0 hG hN
 refine Aa (Z 0 rfl ?_)
 simp only [go_sem, simprocAttr, mpO]
 refine Aa (Z 1 rfl ?_)
 simp only [go_sem, simprocAttr, mpO]
 and_intros <;> try exact sdA
 refine Aa (Z 2 rfl ?_)
 simp only [go_sem, simprocAttr, mpO]
 and_intros <;> try exact sdA
 refine Aa (Aa (Z 3 rfl ?_))
 simp only [go_sem, simprocAttr, inI, mpO]
 and_intros <;> try exact sdA
 refine Ae rfl (fun hb => ?_) fun hb => ?_
 ·refine Aa (Z 4 rfl ?_)
  simp only [go_sem, simprocAttr, mpO]
  have hfin : R = (L, false) := by rw [<- hR]; exact Uo hb
  subst hfin
  refine Ad ?_
  show Q _ _
  refine hQ _ _ ⟨mkE [(7, .bool false)], mkH (mpO 1000 1001 L)⟩ (.inl rfl) (Le.mk _ _ ?_ ?_ rfl) rfl ?_ ?_ <;> simp only [go_sem, simprocAttr, mpO]
 refine Af ?_
 refine Aa (Z 5 rfl ?_)
 simp only [go_sem, simprocAttr, inI, mpO]
 and_intros <;> try exact sdA
 refine Aa (Z 6 rfl ?_)
 simp only [go_sem, simprocAttr, mpO]
 have hfin : R = (BB L y ((As L x).getD 0 + n), true) := by rw [<- hR]; exact Acm hb
 subst hfin
 refine Ad ?_
 show Q _ _
 refine hQ _ _ ⟨mkE [(7, .bool true)], mkH (mpO 1000 1001 (BB L y ((As L x).getD 0 + n)))⟩ (.inl rfl) (Le.mk _ _ ?_ ?_ rfl) rfl ?_ ?_ <;> simp only [go_sem, simprocAttr, mpO]
def El (L : Aw Int) (f t : List UInt8) (n : Int) : Aw Int × Bool := ((CN (CN L f t n).1 t f n).1, (CN L f t n).2 || (CN (CN L f t n).1 t f n).2)
def GJ (L : Aw Int) (f t : List UInt8) (n : Int) : Aw Int × Bool := if 0 <= (As L f).getD (-1) then Ek L t ((As L f).getD (-1) + n) else (L, false)
def MX (L : Aw Int) (f t : List UInt8) (n : Int) : Aw Int × Bool :=
 let r := GJ L f t n
 let q := if 0 <= (As L t).getD (-1) then Ek r.1 f ((As L t).getD (-1) + n) else (r.1, false)
 (q.1, r.2 || q.2)
theorem Tj {L : Aw Int} (hL : ∀ p ∈ L, 0 <= p.2) (f t : List UInt8) (n : Int) : GJ L f t n = CN L f t n := by
 unfold GJ CN Ek
 cases hf : As L f with
 | none => rfl
 | some m =>
  have hm : 0 <= m := hL _ (KF hf)
  simp only [Fu]
  rw [if_pos hm]
  try (cases As L t <;> rfl)
theorem Adw {L : Aw Int} (hL : ∀ p ∈ L, 0 <= p.2) (f t : List UInt8) {n : Int} (hn : 0 <= n) : MX L f t n = El L f t n := by
 unfold MX El
 rw [Tj hL]
 dsimp only
 cases h1 : Ki L f t n with
 | true =>
  rw [Uo h1]
  have := Tj hL t f n
  unfold GJ at this
  dsimp only
  rw [this]
 | false =>
  rw [Acm h1]
  dsimp only
  have hx : ∃ m, As L f = some m := by
   unfold Ki at h1
   cases e : As L f with
   | none => rw [e] at h1; cases h1
   | some m => exact ⟨m, rfl⟩
  obtain ⟨m, hm⟩ := hx
  have hm0 : 0 <= m := hL _ (KF hm)
  rw [hm, Fu]
  have hlt : ∀ o, As L t = some o -> m + n < o := fun o ho => by
   unfold Ki at h1
   rw [hm, ho] at h1
   simp at h1
   omega
  have hne : t ≠ f := fun e => by
   subst e
   have := hlt m hm
   omega
  have g1 : As (BB L t (m + n)) t = some (m + n) := by rw [JA, if_pos rfl]
  have g2 : As (BB L t (m + n)) f = some m := by rw [JA, if_neg hne, hm]
  have e2 : CN (BB L t (m + n)) t f n = (BB L t (m + n), false) := Uo (by
   unfold Ki; rw [g1, g2]; simp; omega)
  rw [e2]
  cases ht : As L t with
  | none => rfl
  | some o =>
   have ho := hlt o ht
   rw [Fu, if_pos (by omega), Ul g2, if_pos (by omega)]
def Edge (ds : List Distance) (x y : List UInt8) (n : Int) : Prop := ∃ d ∈ ds, DL d = true /\ n = d.miles /\ ((x = d.from' /\ y = d.to') \/ (x = d.to' /\ y = d.from'))
inductive Walk (ds : List Distance) (x : List UInt8) : List UInt8 -> Int -> Prop
 | nil : Walk ds x x 0
 | snoc {y z : List UInt8} {n k : Int} : Walk ds x y n -> Edge ds y z k -> Walk ds x z (n + k)
theorem Vo (d : Distance) : DL d = true ↔ 1 <= d.miles /\ d.miles <= 20000 := by unfold DL; rw [By, decide_eq_true_iff, decide_eq_true_iff]
theorem Edge.bd {ds x y n} (h : Edge ds x y n) : 1 <= n /\ n <= 20000 := by
 obtain ⟨d, _, h2, h3, _⟩ := h
 rw [h3]; exact (Vo d).1 h2
def ends (c : List UInt8) (ds : List Distance) : List (List UInt8) := c :: ds.flatMap fun d => [d.from', d.to']
theorem Ph (c ds) : (ends c ds).length = 2 * ds.length + 1 := by
 unfold ends
 rw [Av]
 congr 1
 induction ds with
 | nil => rfl
 | cons d ds ih => rw [Oa, Ai, ih]; simp only [Av, Ay]; omega
theorem AfV {c ds x y n} (h : Edge ds x y n) : x ∈ ends c ds /\ y ∈ ends c ds := by
 obtain ⟨d, h1, _, _, h4⟩ := h
 have hf : d.from' ∈ ends c ds := AU _ (Lp.2 ⟨d, h1, by simp⟩)
 have ht : d.to' ∈ ends c ds := AU _ (Lp.2 ⟨d, h1, by simp⟩)
 rcases h4 with ⟨rfl, rfl⟩ | ⟨rfl, rfl⟩
 ·exact ⟨hf, ht⟩
 ·exact ⟨ht, hf⟩
def OH (L : Aw Int) (k : List UInt8) : Nat := ((As L k).getD 1000000000).toNat
def mu (E : List (List UInt8)) (L : Aw Int) : Nat := (E.map (OH L)).sum
def rc (E : List (List UInt8)) (L : Aw Int) : Nat := E.countP fun k => (As L k).isSome
theorem UR {α : Type} {f g : α -> Nat} : ∀ {E : List α}, (∀ k ∈ E, f k <= g k) -> (E.map f).sum <= (E.map g).sum
 | [], _ => Az _
 | a :: E, h => by
  rw [BP, BP, Fv, Fv]
  have h1 := h a (AJ ..)
  have h2 := UR (E := E) (f := f) (g := g) fun k hk => h k (AU _ hk)
  omega
theorem US {α : Type} {f g : α -> Nat} : ∀ {E : List α} {x : α}, (∀ k ∈ E, f k <= g k) -> x ∈ E -> f x < g x -> (E.map f).sum < (E.map g).sum
 | a :: E, x, h, hx, hl => by
  rw [BP, BP, Fv, Fv]
  have h1 := h a (AJ ..)
  have h2 := UR (E := E) (f := f) (g := g) fun k hk => h k (AU _ hk)
  rcases AK.1 hx with rfl | hx
  ·omega
  ·have h3 := US (E := E) (x := x) (f := f) (g := g) (fun k hk => h k (AU _ hk)) hx hl
   omega
theorem QA (E L) : rc E L = (E.map fun k => if (As L k).isSome then 1 else 0).sum := by
 unfold rc
 induction E with
 | nil => rfl
 | cons a E ih => rw [List.countP_cons, BP, Fv, ih]; omega
theorem Qz (E L) : rc E L <= E.length := List.countP_le_length
theorem Xb {L : Aw Int} {k : List UInt8} {v : Int} {p} : p ∈ BB L k v -> p = (k, v) \/ p ∈ L := by
 induction L with
 | nil => intro h; exact .inl (by simpa [BB] using h)
 | cons q L ih =>
  obtain ⟨k', v'⟩ := q
  rw [BB]
  intro h
  split at h
  ·rcases AK.1 h with h | h
   ·exact .inl h
   ·exact .inr (AU _ h)
  ·rcases AK.1 h with h | h
   ·exact .inr (h ▸ AJ ..)
   ·rcases ih h with h | h
    ·exact .inl h
    ·exact .inr (AU _ h)
theorem AeN {L : Aw Int} {k : List UInt8} {v : Int} : (BB L k v).length = L.length + if (As L k).isSome then 0 else 1 := by
 induction L with
 | nil => rfl
 | cons q L ih =>
  obtain ⟨k', v'⟩ := q
  rw [BB, IH]
  split
  ·simp
  ·rw [Av, ih, Av]; omega
structure InvL (ds : List Distance) (c : List UInt8) (L : Aw Int) : Prop where
 len : L.length <= rc (ends c ds) L
 vals : ∀ p ∈ L, 0 <= p.2 /\ p.2 <= 20000 * (rc (ends c ds) L : Int)
 walks : ∀ p ∈ L, Walk ds c p.1 p.2
 start : As L c = some 0
theorem InvL.first (ds c) : InvL ds c [(c, 0)] := by
 have h1 : As ([(c, 0)] : Aw Int) c = some 0 := by rw [IH, if_pos rfl]
 have h2 : 1 <= rc (ends c ds) [(c, 0)] := by
  unfold rc ends; rw [List.countP_cons_of_pos (by rw [h1]; rfl)]; omega
 refine ⟨h2, fun p hp => ?_, fun p hp => ?_, h1⟩
 ·obtain rfl : p = (c, 0) := by simpa using hp
  dsimp only; omega
 ·obtain rfl : p = (c, 0) := by simpa using hp
  exact .nil
theorem InvL.get {ds c L k v} (h : InvL ds c L) (hk : As L k = some v) : 0 <= v /\ v <= 20000 * (rc (ends c ds) L : Int) /\ Walk ds c k v := by
 have h1 := h.vals _ (KF hk)
 exact ⟨h1.1, h1.2, h.walks _ (KF hk)⟩
theorem InvL.big {ds c L} (h : InvL ds c L) (hd : ds.length <= 1000) : L.length <= 1000000 /\ ∀ p ∈ L, 0 <= p.2 /\ p.2 <= 1000000000 := by
 have h1 := Qz (ends c ds) L
 rw [Ph] at h1
 have h2 := h.len
 refine ⟨by omega, fun p hp => ?_⟩
 have := h.vals p hp
 omega
theorem InvL.put {ds c L x y m n} (h : InvL ds c L) (hd : ds.length <= 1000) (he : Edge ds x y n) (hx : As L x = some m) (hy : ∀ o, As L y = some o -> m + n < o) : InvL ds c (BB L y (m + n)) /\ mu (ends c ds) (BB L y (m + n)) < mu (ends c ds) L := by
 obtain ⟨g1, g2, g3⟩ := h.get hx
 have hb := he.bd
 have hE := (AfV (c := c) he).2
 have hrE := Qz (ends c ds) L
 rw [Ph] at hrE
 have hrc : rc (ends c ds) L <= rc (ends c ds) (BB L y (m + n)) := by
  rw [QA, QA]
  refine UR fun k _ => ?_
  rw [JA]
  by_cases e : y = k
  ·rw [if_pos e]; split <;> simp
  ·rw [if_neg e]; exact Az _
 have hrc2 : As L y = none -> rc (ends c ds) L + 1 <= rc (ends c ds) (BB L y (m + n)) := fun hn => by
  rw [QA, QA]
  refine US (x := y) (fun k _ => ?_) hE (by rw [JA, if_pos rfl, hn]; simp)
  rw [JA]
  by_cases e : y = k
  ·rw [if_pos e]; split <;> simp
  ·rw [if_neg e]; exact Az _
 refine ⟨⟨?_, fun p hp => ?_, fun p hp => ?_, ?_⟩, ?_⟩
 ·rw [AeN]
  have h1 := h.len
  cases hn : As L y with
  | none => have := hrc2 hn; simp; omega
  | some o => simp; omega
 ·rcases Xb hp with rfl | hp
  ·dsimp only
   refine ⟨by omega, ?_⟩
   cases hn : As L y with
   | none => have := hrc2 hn; omega
   | some o => have := hy o hn; have := (h.get hn).2.1; omega
  ·have := h.vals p hp; omega
 ·rcases Xb hp with rfl | hp
  ·exact .snoc g3 he
  ·exact h.walks p hp
 ·rw [JA]
  by_cases e : y = c
  ·have := hy 0 (e ▸ h.start); omega
  ·rw [if_neg e]; exact h.start
 ·unfold mu
  have hval : OH (BB L y (m + n)) y < OH L y := by
   unfold OH
   rw [JA, if_pos rfl, Fu]
   cases hn : As L y with
   | none => simp only [MF]; omega
   | some o => have := hy o hn; simp only [Fu]; omega
  refine US (x := y) (fun k _ => ?_) hE hval
  by_cases e : y = k
  ·subst e; exact Nat.le_of_lt hval
  ·unfold OH; rw [JA, if_neg e]; exact Az _
theorem Un (L x y n) : CN L x y n = (L, false) /\ (∀ m, As L x = some m -> ∃ o, As L y = some o /\ o <= m + n) \/ ∃ m, As L x = some m /\ (∀ o, As L y = some o -> m + n < o) /\ CN L x y n = (BB L y (m + n), true) := by
 unfold CN
 cases hx : As L x with
 | none => exact .inl ⟨rfl, fun m h => by cases h⟩
 | some m =>
  cases hy : As L y with
  | none => exact .inr ⟨m, rfl, fun o h => (by cases h), rfl⟩
  | some o =>
   dsimp only
   by_cases hc : o <= m + n
   ·rw [if_pos hc]
    exact .inl ⟨rfl, fun m' h => ⟨o, rfl, by injection h with h; omega⟩⟩
   ·rw [if_neg hc]
    exact .inr ⟨m, rfl, fun o' h => by injection h with h; omega, rfl⟩
theorem QC {ds c L x y n} (h : InvL ds c L) (hd : ds.length <= 1000) (he : Edge ds x y n) : InvL ds c (CN L x y n).1 /\ mu (ends c ds) (CN L x y n).1 <= mu (ends c ds) L /\ ((CN L x y n).2 = true -> mu (ends c ds) (CN L x y n).1 < mu (ends c ds) L) /\ ((CN L x y n).2 = false -> (CN L x y n).1 = L) := by
 rcases Un L x y n with ⟨h1, _⟩ | ⟨m, h1, h2, h3⟩
 ·rw [h1]; exact ⟨h, Az _, fun h => (by cases h), fun _ => rfl⟩
 ·obtain ⟨p1, p2⟩ := h.put hd he h1 h2
  rw [h3]; exact ⟨p1, by dsimp only; omega, fun _ => p2, fun h => by cases h⟩
theorem Sn {ds : List Distance} {d : Distance} (h : d ∈ ds) (hu : DL d = true) : Edge ds d.from' d.to' d.miles := ⟨d, h, hu, rfl, .inl ⟨rfl, rfl⟩⟩
theorem AfT {ds : List Distance} {d : Distance} (h : d ∈ ds) (hu : DL d = true) : Edge ds d.to' d.from' d.miles := ⟨d, h, hu, rfl, .inr ⟨rfl, rfl⟩⟩
theorem UO {ds c L} {d : Distance} (h : InvL ds c L) (hd : ds.length <= 1000) (hm : d ∈ ds) (hu : DL d = true) : InvL ds c (El L d.from' d.to' d.miles).1 /\ mu (ends c ds) (El L d.from' d.to' d.miles).1 <= mu (ends c ds) L /\ ((El L d.from' d.to' d.miles).2 = true -> mu (ends c ds) (El L d.from' d.to' d.miles).1 < mu (ends c ds) L) /\ ((El L d.from' d.to' d.miles).2 = false -> (El L d.from' d.to' d.miles).1 = L) := by
 obtain ⟨a1, a2, a3, a4⟩ := QC h hd (Sn hm hu)
 obtain ⟨b1, b2, b3, b4⟩ := QC a1 hd (AfT hm hu)
 unfold El
 refine ⟨b1, by dsimp only; omega, fun hh => ?_, fun hh => ?_⟩
 ·dsimp only at hh ⊢
  rcases (EW _ _).mp hh with hh | hh
  ·have := a3 hh; omega
  ·have := b3 hh; omega
 ·dsimp only at hh ⊢
  obtain ⟨h1, h2⟩ := Ce.1 hh
  rw [b4 h2, a4 h1]
def rnd : List Distance -> Aw Int -> Bool -> Aw Int × Bool
 | [], L, b => (L, b)
 | d :: ds, L, b => if DL d = true then rnd ds (El L d.from' d.to' d.miles).1 (b || (El L d.from' d.to' d.miles).2) else rnd ds L b
theorem Us {ds : List Distance} {i : Nat} (hi : i < ds.length) (h : DL ds[i] = true) (L b) : rnd (ds.drop i) L b = rnd (ds.drop (i + 1)) (El L ds[i].from' ds[i].to' ds[i].miles).1 (b || (El L ds[i].from' ds[i].to' ds[i].miles).2) := by
 rw [DS hi, rnd, if_pos h]
theorem Acr {ds : List Distance} {i : Nat} (hi : i < ds.length) (h : DL ds[i] = false) (L b) : rnd (ds.drop i) L b = rnd (ds.drop (i + 1)) L b := by
 rw [DS hi, rnd, if_neg (by rw [h]; decide)]
theorem Acq {ds : List Distance} {i : Nat} (hi : ds.length <= i) (L b) : rnd (ds.drop i) L b = (L, b) := by
 rw [GN hi, rnd]
theorem Ow {ds c} (hd : ds.length <= 1000) : ∀ (es : List Distance), (∀ d ∈ es, d ∈ ds) -> ∀ L b, InvL ds c L -> InvL ds c (rnd es L b).1 /\ mu (ends c ds) (rnd es L b).1 <= mu (ends c ds) L /\ ((rnd es L b).2 = true -> b = true \/ mu (ends c ds) (rnd es L b).1 < mu (ends c ds) L) /\ ((rnd es L b).2 = false -> b = false /\ (rnd es L b).1 = L /\ ∀ d ∈ es, DL d = true -> (El L d.from' d.to' d.miles).2 = false)
 | [], _, L, b, h => ⟨h, Az _, fun h => .inl h, fun h => ⟨h, rfl, fun _ hd => absurd hd CS⟩⟩
 | d :: es, hs, L, b, h => by
  have hs2 : ∀ d ∈ es, d ∈ ds := fun d hd => hs d (AU _ hd)
  rw [rnd]
  by_cases hu : DL d = true
  ·rw [if_pos hu]
   obtain ⟨a1, a2, a3, a4⟩ := UO h hd (hs d (AJ ..)) hu
   obtain ⟨b1, b2, b3, b4⟩ := Ow hd es hs2 _ (b || (El L d.from' d.to' d.miles).2) a1
   refine ⟨b1, by omega, fun hh => ?_, fun hh => ?_⟩
   ·rcases b3 hh with h1 | h1
    ·rcases (EW _ _).mp h1 with h1 | h1
     ·exact .inl h1
     ·have := a3 h1; exact .inr (by omega)
    ·exact .inr (by omega)
   ·obtain ⟨c1, c2, c3⟩ := b4 hh
    obtain ⟨e1, e2⟩ := Ce.1 c1
    rw [a4 e2] at c2 c3
    refine ⟨e1, by rw [a4 e2]; exact c2, fun d' hd' hu' => ?_⟩
    rcases AK.1 hd' with rfl | hd'
    ·exact e2
    ·exact c3 d' hd' hu'
  ·rw [if_neg hu]
   obtain ⟨b1, b2, b3, b4⟩ := Ow hd es hs2 L b h
   refine ⟨b1, b2, b3, fun hh => ?_⟩
   obtain ⟨c1, c2, c3⟩ := b4 hh
   refine ⟨c1, c2, fun d' hd' hu' => ?_⟩
   rcases AK.1 hd' with rfl | hd'
   ·exact absurd hu' hu
   ·exact c3 d' hd' hu'
def Ie (ds : List Distance) : Nat -> Aw Int -> Aw Int
 | 0, L => L
 | m + 1, L => if (rnd ds L false).2 = true then Ie ds m (rnd ds L false).1 else (rnd ds L false).1
def Hs (ds : List Distance) (c : List UInt8) : Aw Int := Ie ds (mu (ends c ds) [(c, 0)] + 1) [(c, 0)]
theorem Tm {ds c m L} (hd : ds.length <= 1000) (h : InvL ds c L) (hm : mu (ends c ds) L < m) (hr : (rnd ds L false).2 = true) : ∃ k, m = k + 1 /\ mu (ends c ds) (rnd ds L false).1 < k /\ Ie ds m L = Ie ds k (rnd ds L false).1 := by
 obtain ⟨k, rfl⟩ : ∃ k, m = k + 1 := ⟨m - 1, by omega⟩
 refine ⟨k, rfl, ?_, by rw [Ie, if_pos hr]⟩
 rcases (Ow hd ds (fun _ h => h) L false h).2.2.1 hr with h1 | h1
 ·cases h1
 ·omega
theorem Tn {ds c m L} (hd : ds.length <= 1000) (h : InvL ds c L) (hm : mu (ends c ds) L < m) (hr : (rnd ds L false).2 = false) : Ie ds m L = (rnd ds L false).1 := by
 obtain ⟨k, rfl⟩ : ∃ k, m = k + 1 := ⟨m - 1, by omega⟩
 rw [Ie, if_neg (by rw [hr]; decide)]
structure FinL (ds : List Distance) (c : List UInt8) (F : Aw Int) : Prop where
 inv : InvL ds c F
 closed : ∀ x y n, Edge ds x y n -> ∀ m, As F x = some m -> ∃ o, As F y = some o /\ o <= m + n
theorem AaW {ds c} (hd : ds.length <= 1000) : ∀ m L, InvL ds c L -> mu (ends c ds) L < m -> FinL ds c (Ie ds m L)
 | 0, L, _, h => absurd h (EK _)
 | m + 1, L, h, hm => by
  cases hr : (rnd ds L false).2 with
  | true =>
   obtain ⟨k, hk, h1, h2⟩ := Tm hd h hm hr
   obtain rfl : m = k := by omega
   rw [h2]
   exact AaW hd m _ (Ow hd ds (fun _ h => h) L false h).1 h1
  | false =>
   rw [Tn hd h hm hr]
   obtain ⟨_, h2, h3⟩ := (Ow hd ds (fun _ h => h) L false h).2.2.2 hr
   rw [h2]
   refine ⟨h, fun x y n he m hx => ?_⟩
   obtain ⟨d, hm, hu, rfl, hc⟩ := he
   have h4 := h3 d hm hu
   unfold El at h4
   dsimp only at h4
   obtain ⟨e1, e2⟩ := Ce.1 h4
   have k1 : CN L d.from' d.to' d.miles = (L, false) /\ ∀ m, As L d.from' = some m -> ∃ o, As L d.to' = some o /\ o <= m + d.miles := by
    rcases Un L d.from' d.to' d.miles with h | ⟨m, _, _, h⟩
    ·exact h
    ·rw [h] at e1; cases e1
   rw [k1.1] at e2
   have k2 : ∀ m, As L d.to' = some m -> ∃ o, As L d.from' = some o /\ o <= m + d.miles := by
    rcases Un L d.to' d.from' d.miles with h | ⟨m, _, _, h⟩
    ·exact h.2
    ·rw [h] at e2; cases e2
   rcases hc with ⟨rfl, rfl⟩ | ⟨rfl, rfl⟩
   ·exact k1.2 m hx
   ·exact k2 m hx
theorem AaV {ds} (hd : ds.length <= 1000) (c) : FinL ds c (Hs ds c) := AaW hd _ _ (InvL.first ds c) (Jf _)
def Oo (o : Option Int) : Int × Int := match o with
 | none => (0, 7)
 | some n => (n, 0)
def Ex (ps : List Airport) (ds : List Distance) (a b : List UInt8) : Int × Int := if BZ ps a = [] \/ BZ ps b = [] then (0, 14) else Oo (As (Hs ds (BZ ps a)) (BZ ps b))
theorem Acl {d : Option Nat} {s : St} {K : St -> Prop} {nb nm : Nat} {L L' : Aw Int} {x y : List UInt8} {n : Int} {ok : Bool} (he : Eff Tryz.prog UT 181 [.str x, .str y, .int .i64 n, .ptr 1000 0] (mpO 1000 1001 L) (.bool ok) (mpO 1000 1001 L'))
  (hb : s.h nb = some (.box 240 [.map nm])) (ha : s.h nm = some (.mp (BD fI8 L))) (hne : nb ≠ nm)
  (hK : K ⟨BX d (.bool ok) s.e, hov (mpO nb nm L') s.h⟩) : CX Tryz.prog UT d 181 [.str x, .str y, .int .i64 n, .ptr nb 0] s K := by
 have hne2 : nm ≠ nb := Ne.symm hne
 refine ⟨[(1000, nb), (1001, nm)], [], _, _, _, _, he, ⟨by simp [okL, hne], rfl, rfl, by simp, by simp, ?_, by simp [V.rens, V.ren, rni, hne2], by simp [V.nins, V.nin], by simp [V.nin, V.nins], ?_, ?_⟩, ?_⟩
 ·intro p hp
  simp only [AK, CS, or_false] at hp
  rcases hp with rfl | rfl
  ·exact ⟨_, hb, by simp [mpO, mkH, Ob.ren, V.rens, V.ren, rni, hne2], by simp [Ob.nin, V.nins, V.nin]⟩
  ·exact ⟨_, ha, by simp only [mpO, mkH, Ob.ren]; simp [TF], by simp only [Ob.nin, TD]⟩
 ·intro q hq
  simp only [mpO, AK, CS, or_false] at hq
  rcases hq with rfl | rfl
  ·simp [Ob.nin, V.nins, V.nin, mpO]
  ·simp only [Ob.nin, TD]
 ·intro p hp o o' h1 h2
  simp only [AK, CS, or_false] at hp
  rcases hp with rfl | rfl <;> simp [mpO, mkH] at h1 h2 <;> subst h1 h2 <;> simp [Ob.kind]
 ·have e1 : (V.bool ok).ren (rn ([(1000, nb), (1001, nm)] ++ [])) = .bool ok := by simp [V.ren]
  have e2 : (mpO 1000 1001 L').map (fun q : Nat × Ob => (rn ([(1000, nb), (1001, nm)] ++ []) q.1, q.2.ren (rn ([(1000, nb), (1001, nm)] ++ [])))) = mpO nb nm L' := by
   simp [mpO, rn, Ob.ren, V.rens, V.ren, TF]
  rw [e1, e2]
  exact hK
def MOk (p : Places) : Prop := BH p /\ p.distances.length <= 1000
def aMi := ar (vg Places.enc) (ar V.str (ao V.str))
theorem RH : Ij aMi := ijr (ijg Places.inj) (ijr ijs (ijo ijs))
def Ho (x : Places × List UInt8 × List UInt8) : Prop × V := (MOk x.1, .tup [.int .i64 (Ex x.1.airports x.1.distances x.2.1 x.2.2).1, .int .i64 (Ex x.1.airports x.1.distances x.2.1 x.2.2).2])
theorem Gi (ps : List Airport) (ds : List Distance) (c : List UInt8) : gOf aPs GF [.agg [.list (ps.map Airport.enc) false, .list (ds.map Distance.enc) false], .str c] = (BH ⟨ps, ds⟩, .str (BZ ps c)) := Al Hd (⟨ps, ds⟩, c)
def EFm : Nat -> Bool := fun f => f == 181
noncomputable def tMi : Tab
 | 180 => (gOf aPs GF)
 | 182 => (gOf Hc JJ)
 | _ => gNo
theorem AlZ : ∀ f, PU f (tMi f) := fun f => by
 unfold tMi
 split
 ·exact Afb
 ·exact AnL
 ·exact Ah.no
theorem Aca (k : List UInt8) (v : Int) : BM [] (.s k) (.int .i64 v) = BD fI8 [(k, v)] := Ab9 [] k v
theorem AbB {ps ds a b f t} (hcf : BZ ps a = f) (hct : BZ ps b = t) (h : (decide (f = []) || decide (t = [])) = true) : Ex ps ds a b = (0, 14) := by
 subst hcf hct; unfold Ex; rw [if_pos (by simpa using h)]
theorem Qp {ps ds a b f t} (hcf : BZ ps a = f) (hct : BZ ps b = t) (h : (decide (f = []) || decide (t = [])) = false) : Ex ps ds a b = Oo (As (Hs ds f) t) := by
 subst hcf hct; unfold Ex; rw [if_neg (by simpa using h)]
theorem AhP : PU 138 (gOf aMi Ho) := by
 have hG := AlZ
 refine SD.a RH (by simp [aMi]) ?_
 rintro ⟨⟨ps, ds⟩, a, b⟩ hv C hN Q hQ
 have Y := SD.D EFm hG hN mixed
 have Z := SD.R EFm hG hN
 obtain ⟨hl, hd⟩ : MOk ⟨ps, ds⟩ := hv
 dsimp only at hd
 generalize hcf : BZ ps a = f
 generalize hct : BZ ps b = t
 refine Aa (Z 0 rfl ?_)
 simp only [go_sem, simprocAttr, aMi, Places.enc, tMi, EFm]
 refine Aa (Y 1 rfl (by kernel_rfl) ?_)
 simp only [go_sem, simprocAttr, Gi, hl, hcf, hct, tMi, EFm]
 and_intros <;> try exact sdA
 refine Aa (Aa (Z 2 rfl ?_))
 simp only [go_sem, simprocAttr, tMi, EFm]
 and_intros <;> try exact sdA
 refine Ae rfl (fun hb2 => ?_) fun hb2 => ?_
 ·refine Aa (Z 3 rfl ?_)
  simp only [go_sem, simprocAttr, tMi, EFm]
  refine Ad (hQ _ _ (.inl rfl) ?_ ?_ ?_) <;> simp only [go_sem, simprocAttr, Ho]
  rw [AbB hcf hct hb2]
 refine Af ?_
 refine Aa (Z 4 rfl ?_)
 simp only [go_sem, simprocAttr, mpO, Aca, tMi, EFm]
 and_intros <;> try exact sdA
 refine Aa (Z 5 rfl ?_)
 simp only [go_sem, simprocAttr, tMi, EFm]
 refine Aa (Aa (Z 6 rfl ?_))
 simp only [go_sem, simprocAttr, tMi, EFm]
 refine Ao ?_
 refine AX (α := (Aw Int) × Bool × Nat) (fun γ => (InvL ds f γ.1) /\ (γ.2.1 = true -> mu (ends f ds) γ.1 < γ.2.2 /\ Hs ds f = Ie ds γ.2.2 γ.1) /\ (γ.2.1 = false -> Hs ds f = γ.1)) (fun γ => ⟨mkE [(3, V.ptr 3 0), (9, V.str t), (10, V.ptr 10 0), (11, V.fn 181 [V.ptr 10 0]), (12, .bool γ.2.1)], mkH [(3, Ob.box 25 [V.list (List.map Airport.enc ps) false, V.list (List.map Distance.enc ds) false]), (10, Ob.box 240 [V.map 31]), (31, .mp (BD fI8 γ.1))]⟩) (fun γ => γ.2.2) ([(f, 0)], true, mu (ends f ds) [(f, 0)] + 1) ⟨InvL.first ds f, fun _ => ⟨Jf _, rfl⟩, fun h => by cases h⟩ ?_ ?_
 ·refine Le.mk _ _ ?_ ?_ rfl <;> simp only [go_sem, simprocAttr, Aca] <;> and_intros <;> try exact leA
 rintro ⟨L, more, m⟩ ⟨hI, hm, hs⟩ KL0 hKL0
 try dsimp only at *
 refine Aa (Aa (Z 7 rfl ?_))
 simp only [go_sem, simprocAttr, tMi, EFm]
 refine Ae rfl (fun hb7 => ?_) fun hb7 => ?_
 ·refine Af ?_
  refine Ao (Aa (Z 8 rfl ?_))
  simp only [go_sem, simprocAttr, tMi, EFm]
  refine Aa (Z 9 rfl ?_)
  simp only [go_sem, simprocAttr, tMi, EFm]
  refine Ao ?_
  refine AX (α := Nat × (Aw Int) × Bool) (fun γ => (γ.1 <= ds.length) /\ (rnd ds L false = rnd (ds.drop γ.1) γ.2.1 γ.2.2) /\ (InvL ds f γ.2.1)) (fun γ => ⟨mkE [(3, V.ptr 3 0), (9, V.str t), (10, V.ptr 10 0), (11, V.fn 181 [V.ptr 10 0]), (12, .bool γ.2.2), (37, V.list (List.map Distance.enc ds) false), (38, V.int IntKind.i64 ↑ds.length), (39, .int .i64 γ.1)], mkH [(3, Ob.box 25 [V.list (List.map Airport.enc ps) false, V.list (List.map Distance.enc ds) false]), (10, Ob.box 240 [V.map 31]), (31, .mp (BD fI8 γ.2.1))]⟩) (fun γ => ds.length - γ.1) (0, L, false) ⟨Ar _, by rw [CT], hI⟩ ?_ ?_
  ·exact leM
  rintro ⟨i, L2, b2⟩ ⟨hi, hr, hI2⟩ KL2 hKL2
  try dsimp only at *
  refine Aa (Z 10 rfl ?_)
  simp only [go_sem, simprocAttr, tMi, EFm]
  refine Aa ?_
  refine Ae rfl (fun hc10 => ?_) fun hc10 => ?_
  ·simp only [hcL] at hc10
   refine Af ?_
   refine Dw (α := (Aw Int) × Bool) (fun γ => (rnd ds L false = rnd (ds.drop (i + 1)) γ.1 γ.2) /\ (InvL ds f γ.1)) (fun γ => ⟨mkE [(3, V.ptr 3 0), (9, V.str t), (10, V.ptr 10 0), (11, V.fn 181 [V.ptr 10 0]), (12, .bool γ.2), (37, V.list (List.map Distance.enc ds) false), (38, V.int IntKind.i64 ↑ds.length), (39, V.int IntKind.i64 ↑i)], mkH [(3, Ob.box 25 [V.list (List.map Airport.enc ps) false, V.list (List.map Distance.enc ds) false]), (10, Ob.box 240 [V.map 31]), (31, .mp (BD fI8 γ.1))]⟩) ?_ ?_
   ·intro KCb3 hKCb3
    refine Ao (Aa (Z 11 rfl ?_))
    simp only [go_sem, simprocAttr, Ap _ _ _ _ hc10, hc10, Distance.enc, tMi, EFm]
    and_intros <;> try exact sdA
    refine Aa (Z 12 rfl ?_)
    simp only [go_sem, simprocAttr, Sq, tMi, EFm]
    and_intros <;> try exact sdA
    refine Ae rfl (fun hb12 => ?_) fun hb12 => ?_
    ·have hu := (Vo ds[i]).1 hb12
     have hmem := AF hc10
     have hs2 := QC hI2 hd (Sn hmem hb12)
     have hs3 := UO hI2 hd hmem hb12
     refine Aa (Z 13 rfl ?_)
     simp only [go_sem, simprocAttr, tMi, EFm]
     refine Acl (Ack L2 _ _ _ (hI2.big hd).2 ⟨by omega, by omega⟩) (by rfl) (by rfl) (by decide) ?_
     simp only [go_sem, simprocAttr, mpO]
     refine Aa (Z 14 rfl ?_)
     simp only [go_sem, simprocAttr, tMi, EFm]
     refine Acl (Ack _ _ _ _ (hs2.1.big hd).2 ⟨by omega, by omega⟩) (by rfl) (by rfl) (by decide) ?_
     simp only [go_sem, simprocAttr, mpO]
     refine Z 15 rfl ?_
     simp only [go_sem, simprocAttr, tMi, EFm]
     and_intros <;> try exact sdA
     refine hKCb3 ((El L2 ds[i].from' ds[i].to' ds[i].miles).1, (b2 || (El L2 ds[i].from' ds[i].to' ds[i].miles).2)) _ ?_ ?_
     ·(try dsimp only); exact ⟨by rw [hr, Us hc10 hb12], hs3.1⟩
     refine Le.mk _ _ ?_ ?_ rfl <;> simp only [go_sem, simprocAttr, El, mpO, Bool.or_assoc] <;> and_intros <;> try exact leA
    refine Af ?_
    refine hKCb3 (L2, b2) _ ?_ ?_
    ·(try dsimp only); exact ⟨by rw [hr, Acr hc10 hb12], hI2⟩
    exact leM
   rintro ⟨L3, b3⟩ ⟨hr3, hI3⟩
   try dsimp only at *
   refine Z 16 rfl ?_
   simp only [go_sem, simprocAttr, inI, tMi, EFm]
   and_intros <;> try exact sdA
   refine hKL2 (i + 1, L3, b3) _ ?_ ?_ ?_
   ·(try dsimp only); exact ⟨hc10, hr3, hI3⟩
   ·(try dsimp only); omega
   exact leM
  simp only [hcL] at hc10
  rw [Acq hc10] at hr
  obtain ⟨hm1, hm2⟩ := hm hb7
  refine AS ?_
  simp only [go_sem, simprocAttr]
  refine hKL0 (L2, b2, m - 1) _ ?_ ?_ ?_
  ·(try dsimp only); exact ⟨hI2, fun h => (by obtain ⟨k, rfl, h1, h2⟩ := Tm hd hI hm1 (by rw [hr]; exact h); rw [hr] at h1 h2; exact ⟨h1, hm2.trans h2⟩), fun h => (by rw [hm2, Tn hd hI hm1 (by rw [hr]; exact h), hr])⟩
  ·(try dsimp only); omega
  exact leM
 refine AS ?_
 simp only [go_sem, simprocAttr]
 refine Aa (Z 17 rfl ?_)
 simp only [go_sem, simprocAttr, tMi, EFm]
 and_intros <;> try exact sdA
 refine Aa (Aa (Z 18 rfl ?_))
 simp only [go_sem, simprocAttr, tMi, EFm]
 refine Ae rfl (fun hc18 => ?_) fun hc18 => ?_
 ·simp only [hcL] at hc18
  refine Aa (Z 19 rfl ?_)
  simp only [go_sem, simprocAttr, tMi, EFm]
  refine Ad (hQ _ _ (.inl rfl) ?_ ?_ ?_) <;> simp only [go_sem, simprocAttr, Ho]
  rw [Qp hcf hct hb2, hs hb7, PZ hc18]; rfl
 simp only [hcL] at hc18
 refine Af ?_
 refine Aa (Z 20 rfl ?_)
 simp only [go_sem, simprocAttr, tMi, EFm]
 refine Ad (hQ _ _ (.inl rfl) ?_ ?_ ?_) <;> simp only [go_sem, simprocAttr, Ho]
 obtain ⟨v, hv2⟩ := FO.1 hc18; rw [Qp hcf hct hb2, hs hb7, hv2]; rfl
theorem AcP : ∀ (xs : List Int) (j : Nat), j < xs.length -> (xs.set j (xs.getD j 0 + 1)).sum = xs.sum + 1
 | x :: xs, 0, _ => by simp; omega
 | x :: xs, j + 1, h => by
  have := AcP xs j (by simpa using h)
  rw [List.set_cons_succ, Fv, Fv, Ka, this]; omega
theorem Aa4 : ∀ (T : List Nat) (xs : List Int), (∀ j ∈ T, j < xs.length) -> (GK T xs).sum = xs.sum + T.length
 | [], xs, _ => by simp [GK]
 | i :: T, xs, h => by
  rw [GK, Aa4 T _ (fun j hj => by rw [Ik]; exact h j (AU _ hj)), AcP xs i (h i (AJ ..)), Av]; omega
theorem Aa2 : ∀ (T : List Nat) (xs : List Int) (i : Nat), i < xs.length -> (GK T xs).getD i 0 = xs.getD i 0 + (T.count i : Int)
 | [], xs, i, _ => by simp [GK]
 | j :: T, xs, i, h => by
  rw [GK, Aa2 T _ i (by rw [Ik]; exact h), List.count_cons]
  by_cases c : j = i
  ·subst c
   rw [IX (by rw [Ik]; exact h), List.getElem_set_self]; simp; omega
  ·rw [IX (by rw [Ik]; exact h), List.getElem_set_ne c, <- IX h, if_neg (by simpa using c)]; simp
def gS (A S : Int) (l : List Int) : List Int := GK ((msT (fr (rsP A S l)) (List.range' 0 l.length)).take (A - (qsP A S l).sum).toNat) (qsP A S l)
theorem AgF {A S : Int} {l : List Int} (hA : 0 <= A) (hS : 0 < S) (hsum : l.sum = S) (hl : 0 < l.length) (hnn : ∀ w ∈ l, 0 <= w) :
  (gS A S l).length = l.length /\ (gS A S l).sum = A /\ ∀ i, i < l.length -> 0 <= (gS A S l).getD i 0 := by
 obtain ⟨b1, b2⟩ := Abp (A := A) hS hsum hl
 obtain ⟨k, hk⟩ := Hz b1
 have hlQ : (qsP A S l).length = l.length := Ac _
 have hOp := Qq (f := fr (rsP A S l)) l.length
 have hOl := hOp.length_eq
 rw [Gx] at hOl
 unfold gS
 rw [hk, Du]
 refine ⟨by rw [Aa3, hlQ], ?_, fun i hi => ?_⟩
 ·rw [Aa4 _ _ (fun j hj => by have := Ut (hOp.mem_iff.1 (Ft hj)); omega), Bx]; omega
 ·rw [Aa2 _ _ i (by omega), IX (by omega), show (qsP A S l)[i]'(by omega) = A * l[i] / S by simp [qsP]]
  have := MH (Il hA (hnn _ (AF hi))) (show 0 <= S by omega)
  omega
theorem Aj9 {a S : Int} {l : List Int} (hS : 0 < S) (hsum : l.sum = S) (hl : 0 < l.length) : LJ a S l = (gS a.natAbs S l).map fun q => sgn a * q := by
 obtain ⟨b1, b2⟩ := Abp (A := (a.natAbs : Int)) hS hsum hl
 obtain ⟨k, hk⟩ := Hz b1
 have hlQ : (qsP a.natAbs S l).length = l.length := Ac _
 have hOp := Qq (f := fr (rsP a.natAbs S l)) l.length
 unfold LJ gS
 rw [hk, Du, Aa0 _ _ k _ (fun i hi => by have := Ut (hOp.mem_iff.1 hi); omega) (by rw [hOp.length_eq, Gx]; omega)]
structure ShF (a : Int) (l L : List Int) : Prop where
 bd : -1099511627776 <= a /\ a <= 1099511627776
 len : L.length = l.length
 sum : L.sum = a
 sg : ∀ i (h : i < L.length), (0 <= a -> 0 <= L[i]) /\ (a <= 0 -> L[i] <= 0)
theorem UJ {a e : Int} {l L : List Int} (h : Ey a l = (e, L)) : (e ≠ 0 -> L = []) /\ (e = 0 -> ShF a l L) := by
 unfold Ey at h
 obtain ⟨⟨S, e0⟩, htr⟩ : ∃ y, Dk 0 l = y := ⟨_, rfl⟩
 rw [htr] at h
 split at h
 ·injection h with h1 h2; subst h1 h2; exact ⟨fun _ => rfl, fun h => by omega⟩
 ·rename_i he
  split at h
  ·injection h with h1 h2; subst h1 h2; exact ⟨fun _ => rfl, fun h => by omega⟩
  ·rename_i hf
   injection h with h1 h2
   subst h1
   refine ⟨fun h => absurd rfl h, fun _ => ?_⟩
   obtain rfl : e0 = 0 := by simpa using he
   have hfa : CR a = true := by cases h : CR a with | true => rfl | false => exact absurd (.inl h) hf
   have hfS : S <= 1099511627776 := by have : ¬ 1099511627776 < S := fun h => hf (.inr h); omega
   obtain ⟨hnn, hsum, hS0⟩ := Vi htr hfS (EZ 0)
   rw [Int.zero_add] at hsum
   have hl : 0 < l.length := by cases l with | nil => (simp at hsum; omega) | cons x l => simp
   have hb := (Mu a).1 hfa
   replace h2 : LJ a S l = L := h2
   rw [Aj9 hS0 hsum hl] at h2
   obtain ⟨g1, g2, g3⟩ := AgF (A := (a.natAbs : Int)) (by omega) hS0 hsum hl hnn
   have hL : L.length = l.length := by rw [<- h2, Ac, g1]
   have hLi : ∀ i (hi : i < L.length), L[i] = sgn a * (gS a.natAbs S l).getD i 0 := fun i hi => by
    subst h2; rw [GQ, IX (by simpa using hi)]
   have hms : ∀ (s : Int) (xs : List Int), (xs.map fun q => s * q).sum = s * xs.sum := fun s xs => by
    induction xs with
    | nil => simp
    | cons x xs ih => rw [BP, Fv, Fv, ih, Ls]
   refine ⟨hb, hL, ?_, fun i hi => ?_⟩
   ·rw [<- h2, hms, g2]; unfold sgn; split <;> omega
   ·rw [hLi i hi]
    have := g3 i (by omega)
    refine ⟨fun h => ?_, fun h => ?_⟩
    ·unfold sgn; rw [if_neg (by omega)]; omega
    ·rcases Int.lt_or_eq_of_le h with c | c
     ·unfold sgn; rw [if_pos c]; omega
     ·have hnn : ∀ w ∈ gS (a.natAbs : Int) S l, 0 <= w := fun w hw => by
       obtain ⟨j, hj, rfl⟩ := Gv.1 hw
       rw [<- IX hj]; exact g3 j (by omega)
      have := On hnn _ (AF (show i < (gS (a.natAbs : Int) S l).length by omega))
      rw [<- IX (by omega)] at this
      rw [show (gS (a.natAbs : Int) S l).getD i 0 = 0 by omega]; simp
end Go.Proofs.YtjkclhbckfkeeaaGreatDoor
