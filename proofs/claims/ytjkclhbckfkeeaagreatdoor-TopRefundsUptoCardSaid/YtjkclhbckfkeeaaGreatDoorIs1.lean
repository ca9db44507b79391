import Derived.Test.YtjkclhbckfkeeaaGreatDoorSk
import Derived.Test.YtjkclhbckfkeeaaGreatDoorT5
import Derived.Test.YtjkclhbckfkeeaaGreatDoorPl9
import Derived.Lib.Bytealg
set_option linter.unusedSimpArgs false
set_option linter.unusedVariables false
set_option linter.deprecated false
set_option maxHeartbeats 4000000
namespace Go.Proofs.YtjkclhbckfkeeaaGreatDoor
open Go Go.RowKit
def stepT (s w : Int) : Int := if s <= 1099511627776 then s + min w 1099511627777 else s
def CY (s : Int) : List Int -> Int × Int
 | [] => if s = 0 then (0, 2) else (s, 0)
 | w :: l => if w < 0 then (0, 2) else CY (stepT s w) l
def Lu (l : List Int) : Prop × V := (l.length <= 140737488355328, Ak (CY 0 l))
theorem BO (l : List Int) : gOf aLi Lu [.list (Ao l) false] = (l.length <= 140737488355328, Ak (CY 0 l)) := Al Mz l
theorem AkU {s w : Int} (h0 : 0 <= s) (h1 : s <= 2199023255553) (hw : 0 <= w) : 0 <= stepT s w /\ stepT s w <= 2199023255553 := by
 unfold stepT; split <;> omega
theorem AmC : PU 139 (gOf aLi Lu) := by
 have hG := AJ
 refine Yj.a Mz (by simp [aLi]) ?_
 rintro l hv C hN Q hQ
 have Z := Yj.R EF0 hG hN
 replace hv : l.length <= 140737488355328 := hv
 refine Ab (Z 0 rfl ?_)
 simp only [go_sem, simprocAttr, aLi, tNo]
 refine Ab (Z 1 rfl ?_)
 simp only [go_sem, simprocAttr, tNo]
 refine Ab (Ab (Z 2 rfl ?_))
 simp only [go_sem, simprocAttr, tNo]
 refine Ar ?_
 refine Bj (α := Nat × Int) (fun γ => (γ.1 <= l.length) /\ (CY 0 l = CY γ.2 (l.drop γ.1)) /\ (0 <= γ.2) /\ (γ.2 <= 2199023255553)) (fun γ => ⟨mkE [(4, .int .i64 γ.2), (7, V.list (Ao l) false), (8, V.int IntKind.i64 ↑l.length), (9, .int .i64 γ.1)], mkH []⟩) (fun γ => l.length - γ.1) (0, 0) ⟨As _, rfl, by omega, by omega⟩ ?_ ?_
 ·exact leM
 rintro ⟨i, s⟩ ⟨hi, hs, h0, h1⟩ KL0 hKL0
 try dsimp only at *
 refine Ab (Z 3 rfl ?_)
 simp only [go_sem, simprocAttr, tNo]
 refine Ab ?_
 refine Ai rfl (fun hc3 => ?_) fun hc3 => ?_
 ·simp only [hcL] at hc3
  refine Ah ?_
  refine Ab (Ar ?_)
  have hd := DL hc3
  rw [hd, CY] at hs
  generalize hxx : l[i] = x at hs
  refine Ab (Z 4 rfl ?_)
  simp only [go_sem, simprocAttr, EY _ _ _ hc3, hc3, hxx, tNo]
  and_intros <;> try exact sdA
  refine Ab (Ab (Z 5 rfl ?_))
  simp only [go_sem, simprocAttr, tNo]
  refine Ai rfl (fun hc5 => ?_) fun hc5 => ?_
  ·simp only [hcL] at hc5
   refine Ab (Z 6 rfl ?_)
   simp only [go_sem, simprocAttr, tNo]
   refine Ag (hQ _ _ (.inl rfl) ?_ ?_ ?_) <;> simp only [go_sem, simprocAttr, Lu]
   rw [hs, if_pos hc5]; rfl
  simp only [hcL] at hc5
  rw [if_neg (by omega)] at hs
  have hbd := AkU (w := x) h0 h1 (by omega)
  refine Ah ?_
  refine Ab (Z 7 rfl ?_)
  simp only [go_sem, simprocAttr, tNo]
  refine Ai rfl (fun hc7 => ?_) fun hc7 => ?_
  ·simp only [hcL] at hc7
   have hst : stepT s x = s + min x 1099511627777 := by unfold stepT; rw [if_pos (by omega)]
   refine Z 8 rfl ?_
   simp only [go_sem, simprocAttr, inI, tNo]
   and_intros <;> try exact sdA
   refine Z 9 rfl ?_
   simp only [go_sem, simprocAttr, inI, tNo]
   and_intros <;> try exact sdA
   refine hKL0 (i + 1, stepT s x) _ ?_ ?_ ?_
   ·(try dsimp only); exact ⟨hc3, hs, hbd.1, hbd.2⟩
   ·(try dsimp only); omega
   refine Le.mk _ _ ?_ ?_ rfl <;> simp only [go_sem, simprocAttr, hst] <;> and_intros <;> try exact leA
  simp only [hcL] at hc7
  have hst : stepT s x = s := by unfold stepT; rw [if_neg (by omega)]
  refine Ah ?_
  refine Z 9 rfl ?_
  simp only [go_sem, simprocAttr, inI, tNo]
  and_intros <;> try exact sdA
  refine hKL0 (i + 1, stepT s x) _ ?_ ?_ ?_
  ·(try dsimp only); exact ⟨hc3, hs, hbd.1, hbd.2⟩
  ·(try dsimp only); omega
  refine Le.mk _ _ ?_ ?_ rfl <;> simp only [go_sem, simprocAttr, hst] <;> and_intros <;> try exact leA
 simp only [hcL] at hc3
 refine Be ?_
 simp only [go_sem, simprocAttr]
 refine Ab ?_
 have hie : i = l.length := NC hi hc3
 subst hie
 rw [List.drop_length, CY] at hs
 refine Ab (Z 10 rfl ?_)
 simp only [go_sem, simprocAttr, tNo]
 refine Ai rfl (fun hc10 => ?_) fun hc10 => ?_
 ·simp only [hcL] at hc10
  refine Ab (Z 11 rfl ?_)
  simp only [go_sem, simprocAttr, tNo]
  refine Ag (hQ _ _ (.inl rfl) ?_ ?_ ?_) <;> simp only [go_sem, simprocAttr, Lu]
  rw [hs, if_pos hc10]; rfl
 simp only [hcL] at hc10
 refine Ah ?_
 refine Ab (Z 12 rfl ?_)
 simp only [go_sem, simprocAttr, tNo]
 refine Ag (hQ _ _ (.inl rfl) ?_ ?_ ?_) <;> simp only [go_sem, simprocAttr, Lu]
 rw [hs, if_neg hc10]; rfl
def GO (nb na ns nl n : Nat) (sg left : Int) (xs : List Int) : List (Nat × Ob) :=
 [(nb, .box 42 [.own na n]), (na, .arr 3 1 (Ao xs)), (ns, .box 3 [.int .i64 sg]), (nl, .box 3 [.int .i64 left])]
theorem Agl (n : Nat) (sg left k : Int) (xs : List Int) (i : Nat) (hn : xs.length = n) (hi : i < xs.length) (h1 : inI (sg * k)) (h2 : inI (xs[i] + sg * k)) (h3 : inI (left - k)) :
  Eff Tryz.prog UT 142 [.int .i64 i, .int .i64 k, .ptr 1000 0, .ptr 1002 0, .ptr 1003 0] (GO 1000 1001 1002 1003 n sg left xs) (.tup []) (GO 1000 1001 1002 1003 n sg (left - k) (xs.set i (xs[i] + sg * k))) := by
 have hG := AJ
 have hi2 : i < n := hn ▸ hi
 have h1u := h1
 have h2u := h2
 have h3u := h3
 unfold inI at h1u h2u h3u
 refine Yl.e (by simp) fun C hN Q hQ => ?_
 have Z := Yl.R EF0 hG hN
 refine Ab (FG (EF := EF0) hG mixed (by rw [hN]; exact AmI) AhV ?_)
 simp only [QT, Xk, go_sem, simprocAttr, inI, hn, EY _ _ _ hi, ints_set, GO, tNo]
 and_intros <;> try exact sdA
 refine Z 1 rfl ?_
 simp only [go_sem, simprocAttr, inI, GO, tNo]
 and_intros <;> try exact sdA
 show Q _ _
 refine hQ _ _ ⟨mkE [], mkH (GO 1000 1001 1002 1003 n sg (left - k) (xs.set i (xs[i] + sg * k)))⟩ (.inr rfl) (Le.mk _ _ ?_ ?_ rfl) rfl ?_ ?_ <;> simp only [go_sem, simprocAttr, GO]
theorem Aax {dd : Option Nat} {s : St} {K : St -> Prop} {n : Nat} {sg left left' k j : Int} {xs xs' : List Int} (i : Nat) (hj : j = i) (hn : xs.length = n) (hi : i < xs.length) (h1 : inI (sg * k)) (h2 : inI (xs[i] + sg * k)) (h3 : inI (left - k)) (hx : xs.set i (xs[i] + sg * k) = xs') (hl : left - k = left')
  (a0 : s.h 10 = some (.box 42 [.own 44 n])) (a1 : s.h 44 = some (.arr 3 1 (Ao xs))) (a2 : s.h 9 = some (.box 3 [.int .i64 sg])) (a3 : s.h 8 = some (.box 3 [.int .i64 left]))
  (hK : K ⟨Cm dd (.tup []) s.e, hov (GO 10 44 9 8 n sg left' xs') s.h⟩) : Dp Tryz.prog UT dd 142 [.int .i64 j, .int .i64 k, .ptr 10 0, .ptr 9 0, .ptr 8 0] s K := by
 subst hj hx hl
 refine ⟨[(1000, 10), (1001, 44), (1002, 9), (1003, 8)], [], _, _, _, _, Agl n sg left k xs i hn hi h1 h2 h3, ⟨by decide, rfl, rfl, by simp, by simp, ?_, by simp [V.rens, V.ren, rni], by simp [V.nins, V.nin], by simp [V.nin, V.nins], ?_, ?_⟩, ?_⟩
 ·intro p hp
  simp only [AN, Dh, or_false] at hp
  rcases hp with rfl | rfl | rfl | rfl
  ·exact ⟨_, a0, by simp [GO, mkH, Ob.ren, BF ((FV _).2 trivial), BF ((Gh _).2 trivial), BF ((Ge _).2 trivial), V.rens, V.ren, rni], by simp [Ob.nin, V.nins, V.nin]⟩
  ·exact ⟨_, a1, by simp [GO, mkH, Ob.ren, BF ((FV _).2 trivial), BF ((Gh _).2 trivial), BF ((Ge _).2 trivial)], by simp only [Ob.nin, true_or, FV]⟩
  ·exact ⟨_, a2, by simp [GO, mkH, Ob.ren, BF ((FV _).2 trivial), BF ((Gh _).2 trivial), BF ((Ge _).2 trivial), V.rens, V.ren], by simp [Ob.nin, V.nins, V.nin]⟩
  ·exact ⟨_, a3, by simp [GO, mkH, Ob.ren, BF ((FV _).2 trivial), BF ((Gh _).2 trivial), BF ((Ge _).2 trivial), V.rens, V.ren], by simp [Ob.nin, V.nins, V.nin]⟩
 ·intro q hq
  simp only [GO, AN, Dh, or_false] at hq
  rcases hq with rfl | rfl | rfl | rfl
  ·simp [Ob.nin, V.nins, V.nin, GO]
  ·simp only [Ob.nin, true_or, FV]
  ·simp [Ob.nin, V.nins, V.nin]
  ·simp [Ob.nin, V.nins, V.nin]
 ·intro p hp o o' h1 h2
  simp only [AN, Dh, or_false] at hp
  rcases hp with rfl | rfl | rfl | rfl <;> simp [GO, mkH] at h1 h2 <;> subst h1 h2 <;> simp [Ob.kind]
 ·have e2 : (GO 1000 1001 1002 1003 n sg (left - k) (xs.set i (xs[i] + sg * k))).map (fun q => (rn ([(1000, 10), (1001, 44), (1002, 9), (1003, 8)] ++ []) q.1, q.2.ren (rn ([(1000, 10), (1001, 44), (1002, 9), (1003, 8)] ++ [])))) = GO 10 44 9 8 n sg (left - k) (xs.set i (xs[i] + sg * k)) := by
   simp [GO, rn, Ob.ren, BF ((FV _).2 trivial), BF ((Gh _).2 trivial), BF ((Ge _).2 trivial), V.rens, V.ren]
  rw [show (V.tup []).ren (rn ([(1000, 10), (1001, 44), (1002, 9), (1003, 8)] ++ [])) = V.tup [] by simp [V.ren, V.rens], e2]
  exact hK
def SP (r : List Int) (n : Nat) (d : List Nat) : List (Nat × Ob) :=
 [(11, .box 204 [.own 47 r.length]), (18, .box 42 [.own 79 n]), (47, .arr 189 1 (Ei r)), (79, .arr 3 1 (CC d))]
theorem AkE {dd : Option Nat} {s : St} {K : St -> Prop} {r : List Int} {n : Nat} (hr : r.length = n) (h1 : 1 <= n) (hbig : n <= 20)
  (a0 : s.h 11 = some (.box 204 [.own 47 n])) (a1 : s.h 18 = some (.box 42 [.own 79 n])) (a2 : s.h 47 = some (.arr 189 1 (Ei r))) (a3 : s.h 79 = some (.arr 3 1 (CC (List.range' 0 n))))
  (hK : K ⟨Cm dd (.tup []) s.e, hov (SP r n (msT (fr r) (List.range' 0 n))) s.h⟩) : Dp Tryz.prog UT dd 144 [.iown 42 79 n, .fn 145 [.ptr 11 0, .ptr 18 0]] s K := by
 refine ⟨[(1000, 11), (1001, 18), (1002, 47), (1003, 79)], [], _, _, _, _, AkR r n hr h1 hbig, ⟨by decide, rfl, rfl, by simp, by simp, ?_, by simp [V.rens, V.ren, rni], by simp [V.nins, V.nin], by simp [V.nin, V.nins], ?_, ?_⟩, ?_⟩
 ·intro p hp
  simp only [AN, Dh, or_false] at hp
  rcases hp with rfl | rfl | rfl | rfl
  ·exact ⟨_, a0, by simp [SO, mkH, Ob.ren, BF ((FV _).2 trivial), BF ((Gh _).2 trivial), BF ((Ge _).2 trivial), V.rens, V.ren, rni, hr], by simp [Ob.nin, V.nins, V.nin]⟩
  ·exact ⟨_, a1, by simp [SO, mkH, Ob.ren, BF ((FV _).2 trivial), BF ((Gh _).2 trivial), BF ((Ge _).2 trivial), V.rens, V.ren, rni], by simp [Ob.nin, V.nins, V.nin]⟩
  ·exact ⟨_, a2, by simp [SO, mkH, Ob.ren, BF ((FV _).2 trivial), BF ((Gh _).2 trivial), BF ((Ge _).2 trivial)], by simp only [Ob.nin, true_or, Gh]⟩
  ·exact ⟨_, a3, by simp [SO, mkH, Ob.ren, BF ((FV _).2 trivial), BF ((Gh _).2 trivial), BF ((Ge _).2 trivial)], by simp only [Ob.nin, true_or, Ge]⟩
 ·intro q hq
  simp only [SO, AN, Dh, or_false] at hq
  rcases hq with rfl | rfl | rfl | rfl
  ·simp [Ob.nin, V.nins, V.nin, SO]
  ·simp [Ob.nin, V.nins, V.nin, SO]
  ·simp only [Ob.nin, true_or, Gh]
  ·simp only [Ob.nin, true_or, Ge]
 ·intro p hp o o' h1 h2
  simp only [AN, Dh, or_false] at hp
  rcases hp with rfl | rfl | rfl | rfl <;> simp [SO, mkH] at h1 h2 <;> subst h1 h2 <;> simp [Ob.kind]
 ·have e2 : (SO r n (msT (fr r) (List.range' 0 n))).map (fun q => (rn ([(1000, 11), (1001, 18), (1002, 47), (1003, 79)] ++ []) q.1, q.2.ren (rn ([(1000, 11), (1001, 18), (1002, 47), (1003, 79)] ++ [])))) = SP r n (msT (fr r) (List.range' 0 n)) := by
   simp [SO, SP, rn, Ob.ren, BF ((FV _).2 trivial), BF ((Gh _).2 trivial), BF ((Ge _).2 trivial), V.rens, V.ren]
  rw [show (V.tup []).ren (rn ([(1000, 11), (1001, 18), (1002, 47), (1003, 79)] ++ [])) = V.tup [] by simp [V.ren, V.rens], e2]
  exact hK
def aSp (x : Int × List Int) : List V := [.int .i64 x.1, .list (Ao x.2) false]
theorem VW (a b : Int × List Int) (h : aSp a = aSp b) : a = b := by
 obtain ⟨a_a, a_l⟩ := a
 obtain ⟨b_a, b_l⟩ := b
 simp only [aSp, Bz, V.str.injEq, V.int.injEq, V.bool.injEq, V.agg.injEq, V.list.injEq, and_true, true_and] at h
 obtain ⟨h0, h1⟩ := h
 subst h0
 replace h1 := Kr h1
 subst h1
 rfl
theorem Ux : ∀ {l : List Int}, (∀ w ∈ l, 0 <= w) -> 0 <= l.sum
 | [], _ => by simp
 | x :: l, h => by rw [DP]; have := h x (AH ..); have := Ux (l := l) fun w hw => h w (AU _ hw); omega
theorem UL : ∀ {l : List Int} {s S : Int}, CY s l = (S, 0) -> S <= 1099511627776 -> 0 <= s -> (∀ w ∈ l, 0 <= w) /\ s + l.sum = S /\ 0 < S
 | [], s, S, h, hS, h0 => by
  rw [CY] at h
  split at h
  ·cases h
  ·injection h with h; subst h; exact ⟨by simp, by simp, by omega⟩
 | w :: l, s, S, h, hS, h0 => by
  rw [CY] at h
  split at h
  ·cases h
  ·rename_i hw
   have h1 : 0 <= stepT s w := by unfold stepT; split <;> omega
   obtain ⟨a1, a2, a3⟩ := UL h hS h1
   have h2 : 0 <= l.sum := Ux a1
   refine ⟨fun x hx => by rcases AN.1 hx with rfl | hx; omega; exact a1 x hx, ?_, a3⟩
   rw [DP]
   unfold stepT at a2
   split at a2 <;> omega
theorem NO : ∀ {l : List Int}, (∀ w ∈ l, 0 <= w) -> ∀ w ∈ l, w <= l.sum
 | x :: l, h, w, hw => by
  have h1 : 0 <= l.sum := Ux fun w hw => h w (AU _ hw)
  rw [DP]
  rcases AN.1 hw with rfl | hw
  ·omega
  ·have := NO (fun w hw => h w (AU _ hw)) w hw
   have := h x (AH ..)
   omega
theorem Adb : ∀ {l : List Int} {s : Int}, (CY s l).2 ≠ 0 -> (CY s l).2 = 2
 | [], s, h => by rw [CY] at h ⊢; split at h <;> simp_all
 | w :: l, s, h => by
  rw [CY] at h ⊢
  split
  ·rfl
  ·rename_i hw; rw [if_neg hw] at h; exact Adb h
def qsP (A S : Int) (l : List Int) : List Int := l.map fun w => A * w / S
def rsP (A S : Int) (l : List Int) : List Int := l.map fun w => A * w % S
def FS (sg : Int) : List Nat -> Int -> List Int -> List Int
 | [], _, xs => xs
 | i :: os, left, xs => if 0 < left then FS sg os (left - 1) (xs.set i (xs.getD i 0 + sg * 1)) else FS sg os left xs
def sgn (a : Int) : Int := if a < 0 then -1 else 1
def KM (a S : Int) (l : List Int) : List Int :=
 FS (sgn a) (msT (fr (rsP a.natAbs S l)) (List.range' 0 l.length)) (a.natAbs - (qsP a.natAbs S l).sum) ((qsP a.natAbs S l).map fun q => sgn a * q)
def Eh (a : Int) (l : List Int) : Int × List Int :=
 if (CY 0 l).2 ≠ 0 then (2, []) else if Bq a = false \/ 1099511627776 < (CY 0 l).1 then (11, []) else (0, KM a (CY 0 l).1 l)
def Gy (y : Int × List Int) : V := .tup [.list (Ao y.2) false, .int .i64 y.1]
def Ls (x : Int × List Int) : Prop × V := (x.2.length <= 20 /\ inI x.1 /\ ∀ w ∈ x.2, w <= 8388608, Gy (Eh x.1 x.2))
theorem SL {α : Type} (L : List α) (z : α) {i n : Nat} (hn : L.length = n) (hi : i < n) : (L.take i ++ List.replicate (n - i) z).set i (L[i]'(by omega)) = L.take (i + 1) ++ List.replicate (n - (i + 1)) z := by
 have h1 : (L.take i).length = i := by rw [BJ]; omega
 rw [List.set_append_right _ _ (by omega), h1, Nat.sub_self, show n - i = n - (i + 1) + 1 by omega, PK, List.set_cons_zero, NJ (show i < L.length by omega), EH]
 rfl
theorem Aae {α : Type} (L : List α) (z : α) {i n : Nat} (hn : L.length = n) (hi : i < n) (h : i < (L.take i ++ List.replicate (n - i) z).length) : (L.take i ++ List.replicate (n - i) z)[i] = z := by
 have h1 : (L.take i).length = i := by rw [BJ]; omega
 rw [List.getElem_append_right (by omega)]
 simp
theorem SJ {α : Type} (L : List α) (z : α) {i n : Nat} (hn : L.length = n) (hi : i <= n) : (L.take i ++ List.replicate (n - i) z).length = n := by
 rw [An, BJ, KB]; omega
theorem AcZ (L : List Int) {i : Nat} (hi : i < L.length) : (L.take (i + 1)).sum = (L.take i).sum + L[i] := by
 rw [NJ hi, ND]; simp
theorem AbA {A S w : Int} (hA : 0 <= A) (h0 : 0 <= w) (h1 : w <= S) (hS : 0 < S) : 0 <= A * w / S /\ A * w / S <= A :=
 ⟨LJ (Jg hA h0) (by omega), Int.ediv_le_of_le_mul hS (PR h1 hA)⟩
theorem Uz {L : List Int} {B : Int} (h : ∀ x ∈ L, 0 <= x /\ x <= B) : ∀ i : Nat, i <= L.length -> 0 <= (L.take i).sum /\ (L.take i).sum <= B * i
 | 0, _ => by simp
 | i + 1, hi => by
  obtain ⟨h1, h2⟩ := Uz h i (by omega)
  obtain ⟨h3, h4⟩ := h L[i] (AI (by omega))
  rw [AcZ L (by omega)]
  have : B * ((i + 1 : Nat) : Int) = B * i + B := by rw [Int.natCast_add, Kx]; simp
  omega
theorem Adj (n : Nat) : List.replicate n [V.int .u64 0] = Ei (List.replicate n 0) := by unfold Ei; rw [List.map_replicate]
theorem Abb (n : Nat) : List.replicate n [V.int .i64 0] = CC (List.replicate n 0) := by unfold CC; rw [List.map_replicate]; rfl
theorem SI {α : Type} (L : List α) (z : α) {n : Nat} (hn : L.length = n) : L.take n ++ List.replicate (n - n) z = L := by subst hn; simp
theorem Ag9 {O : List Nat} {n i : Nat} (hO : O.Perm (List.range' 0 n)) (hi : i < O.length) : O.getD i 0 < n := by
 have := TY (hO.mem_iff.1 (Agh hi)); omega
noncomputable def BL : Tab
 | 139 => (gOf aLi Lu)
 | 140 => (gOf aI IX)
 | 141 => PE
 | 143 => PD
 | _ => gNo
theorem Al0 : ∀ f, PU f (BL f) := fun f => by
 unfold BL
 split
 ·exact AmC
 ·exact Aam
 ·exact Akq
 ·exact AjF
 ·exact Aj.no
def EFq : Nat -> Bool := fun f => f == 142 || f == 144
theorem AkH : PU 81 (gOf aSp Ls) := by
 have hG := Al0
 refine ZQ.a VW (by simp [aSp]) ?_
 rintro ⟨a, l⟩ hv C hN Q hQ
 have Z := ZQ.R EFq hG hN
 obtain ⟨hl, hia, hil⟩ : l.length <= 20 /\ inI a /\ ∀ w ∈ l, w <= 8388608 := hv
 have hl2 : l.length <= 140737488355328 := by omega
 obtain ⟨⟨S, e⟩, htr⟩ : ∃ y, CY 0 l = y := ⟨_, rfl⟩
 refine Ab (Z 0 rfl ?_)
 simp only [go_sem, simprocAttr, aSp, BL, EFq, BO, AQ]
 refine Ab (Z 1 rfl ?_)
 simp only [go_sem, simprocAttr, hl2, htr, Ak, BL, EFq, BO, AQ]
 and_intros <;> try exact sdA
 refine Ab (Ab (Z 2 rfl ?_))
 simp only [go_sem, simprocAttr, BL, EFq, BO, AQ]
 refine Ai rfl (fun hb2 => ?_) fun hb2 => ?_
 ·have he : e ≠ 0 := by simpa using hb2
  obtain rfl : e = 2 := by have := Adb (l := l) (s := 0); rw [htr] at this; exact this he
  have hsp : Eh a l = (2, []) := by unfold Eh; rw [htr]; rfl
  refine Ab (Z 3 rfl ?_)
  simp only [go_sem, simprocAttr, BL, EFq, BO, AQ]
  refine AW.le (s' := ⟨mkE [(4, .list [] false), (5, .int .i64 2)], mkH []⟩) (Le.mk _ _ ?_ ?_ rfl) (Ag (hQ _ _ (.inl rfl) ?_ ?_ ?_)) <;> simp only [go_sem, simprocAttr, Ls, Gy, hsp, Ly]
 have he : e = 0 := by simpa using hb2
 subst he
 refine Ah ?_
 refine Ab (Ab (Z 4 rfl ?_))
 simp only [go_sem, simprocAttr, BL, EFq, BO, AQ]
 and_intros <;> try exact sdA
 refine Ai rfl (fun hc4 => ?_) fun hc4 => ?_
 ·simp only [hcL] at hc4
  have hsp : Eh a l = (11, []) := by unfold Eh; rw [htr, if_neg (by simp), if_pos hc4]
  refine Ab (Z 5 rfl ?_)
  simp only [go_sem, simprocAttr, BL, EFq, BO, AQ]
  refine AW.le (s' := ⟨mkE [(4, .list [] false), (5, .int .i64 11)], mkH []⟩) (Le.mk _ _ ?_ ?_ rfl) (Ag (hQ _ _ (.inl rfl) ?_ ?_ ?_)) <;> simp only [go_sem, simprocAttr, Ls, Gy, hsp, Ly]
 simp only [hcL] at hc4
 obtain ⟨hnn, hsum, hS0⟩ := UL htr hc4.2 (Gu 0)
 rw [PP] at hsum
 have hle : ∀ w ∈ l, w <= S := fun w hw => hsum ▸ NO hnn w hw
 have hsp : Eh a l = (0, KM a S l) := by unfold Eh; rw [htr, if_neg (by simp), if_neg (by rw [hc4.1]; simp; omega)]
 obtain ⟨A, hA⟩ : ∃ A, A = (a.natAbs : Int) := ⟨_, rfl⟩
 have hfb := Kn hc4.1
 have hA0 : 0 <= A /\ A <= 1099511627776 := by omega
 have hkA : inK .i64 A := AaA.2 (by unfold inI; omega)
 have hlen0 : 0 < l.length := by cases l with | nil => (simp at hsum; omega) | cons x l => simp
 refine Ah ?_
 refine Ab (Z 6 rfl ?_)
 simp only [go_sem, simprocAttr, PE, hia, <- hA, hkA, BL, EFq, BO, AQ]
 and_intros <;> try exact sdA
 refine Dq (α := Unit) (fun u => (True)) (fun u => ⟨mkE [(0, V.int IntKind.i64 a), (1, V.list (Ao l) false), (6, V.int IntKind.i64 S), (8, V.ptr 8 0), (9, V.ptr 9 0)], mkH [(8, Ob.box 3 [V.int IntKind.i64 A]), (9, .box 3 [.int .i64 (sgn a)])]⟩) ?_ ?_
 ·intro KC7 hKC7
  refine Ab (Z 7 rfl ?_)
  simp only [go_sem, simprocAttr, BL, EFq, BO, AQ]
  refine Ai rfl (fun hc7 => ?_) fun hc7 => ?_
  ·simp only [hcL] at hc7
   have hsg : sgn a = -1 := by unfold sgn; rw [if_pos (by omega)]
   refine Z 8 rfl ?_
   simp only [go_sem, simprocAttr, BL, EFq, BO, AQ]
   refine hKC7 (()) _ ?_ ?_
   ·(try dsimp only); try trivial
   refine Le.mk _ _ ?_ ?_ rfl <;> simp only [go_sem, simprocAttr, hsg] <;> and_intros <;> try exact leA
  simp only [hcL] at hc7
  have hsg : sgn a = 1 := by unfold sgn; rw [if_neg (by omega)]
  refine Ah ?_
  refine hKC7 (()) _ ?_ ?_
  ·(try dsimp only); try trivial
  refine Le.mk _ _ ?_ ?_ rfl <;> simp only [go_sem, simprocAttr, hsg] <;> and_intros <;> try exact leA
 rintro u k0
 have hsg2 : sgn a = 1 \/ sgn a = -1 := by unfold sgn; split <;> simp
 obtain ⟨qs1, hqs1⟩ : ∃ qs1, qs1 = qsP A S l := ⟨_, rfl⟩
 obtain ⟨rs1, hrs1⟩ : ∃ rs1, rs1 = rsP A S l := ⟨_, rfl⟩
 obtain ⟨xs1, hxs1⟩ : ∃ xs1, xs1 = qs1.map fun q => sgn a * q := ⟨_, rfl⟩
 have lqs1 : qs1.length = l.length := by rw [hqs1]; exact Ac _
 have lrs1 : rs1.length = l.length := by rw [hrs1]; exact Ac _
 have lxs1 : xs1.length = l.length := by rw [hxs1, Ac, lqs1]
 have bqs1 : ∀ x ∈ qs1, 0 <= x /\ x <= 1099511627776 := fun x hx => by rw [hqs1] at hx; obtain ⟨w, hw, rfl⟩ := Am.1 hx; have := AbA hA0.1 (hnn w hw) (hle w hw) hS0; exact ⟨this.1, by omega⟩
 have hsm : KM a S l = FS (sgn a) (msT (fr rs1) (List.range' 0 l.length)) (A - qs1.sum) xs1 := by unfold KM; rw [<- hA, <- hrs1, <- hqs1, <- hxs1]
 refine Ab (FG (EF := EFq) hG mixed (by rw [hN]; exact AmZ) Ah4 ?_)
 simp only [Rd, Xt, go_sem, simprocAttr, AaF, Adj, BL, EFq, BO, AQ]
 and_intros <;> try exact sdA
 refine Ab (Z 10 rfl ?_)
 simp only [go_sem, simprocAttr, BL, EFq, BO, AQ]
 refine Ab (Ab (Z 11 rfl ?_))
 simp only [go_sem, simprocAttr, BL, EFq, BO, AQ]
 refine Ar ?_
 refine Bj (α := Nat) (fun i => (i <= l.length)) (fun i => ⟨mkE [(0, V.int IntKind.i64 a), (1, V.list (Ao l) false), (6, V.int IntKind.i64 S), (8, V.ptr 8 0), (10, V.ptr 10 0), (11, V.ptr 11 0), (12, V.fn 142 [V.ptr 10 0, V.ptr 9 0, V.ptr 8 0]), (49, V.list (Ao l) false), (50, V.int IntKind.i64 ↑l.length), (51, .int .i64 i)], mkH [(8, .box 3 [.int .i64 (A - (qs1.take i).sum)]), (9, Ob.box 3 [V.int IntKind.i64 (sgn a)]), (10, Ob.box 42 [V.own 44 l.length]), (11, Ob.box 204 [V.own 47 l.length]), (44, .arr 3 1 (Ao (xs1.take i ++ List.replicate (l.length - i) 0))), (47, .arr 189 1 (Ei (rs1.take i ++ List.replicate (l.length - i) 0)))]⟩) (fun i => l.length - i) 0 (As _) ?_ ?_
 ·refine Le.mk _ _ ?_ ?_ rfl <;> simp only [go_sem, simprocAttr, HA, Ef, Nat.sub_zero, List.sum_nil, Int.sub_zero, AaF, Adj] <;> and_intros <;> try exact leA
 rintro i hi KL0 hKL0
 try dsimp only at *
 have hQs := Uz bqs1 i (by omega)
 refine Ab (Z 12 rfl ?_)
 simp only [go_sem, simprocAttr, BL, EFq, BO, AQ]
 refine Ab ?_
 refine Ai rfl (fun hc12 => ?_) fun hc12 => ?_
 ·simp only [hcL] at hc12
  refine Ah ?_
  refine Ab (Ar ?_)
  refine Ab (Z 13 rfl ?_)
  simp only [go_sem, simprocAttr, EY _ _ _ hc12, hc12, BL, EFq, BO, AQ]
  and_intros <;> try exact sdA
  obtain ⟨w, hw⟩ : ∃ w, w = l[i] := ⟨_, rfl⟩
  have hwm : w ∈ l := hw ▸ AI _
  have hw0 := hnn w hwm
  have hwS := hle w hwm
  have hku : inK .u64 w := Kq.2 (by omega)
  have hkS : inK .u64 S := Kq.2 (by omega)
  have qb := AbA hA0.1 hw0 hwS hS0
  have hsc : A * w < Cq := by have h1 := Int.mul_le_mul hA0.2 (hil w hwm) hw0 (by decide); unfold Cq; omega
  have hAu : A < Cq := by unfold Cq; omega
  have hwu : w < Cq := by unfold Cq; omega
  have hSu : S < Cq := by unfold Cq; omega
  have hkq : inK .i64 (A * w / S) := AaA.2 (by unfold inI; omega)
  refine Ab (Z 14 rfl ?_)
  simp only [go_sem, simprocAttr, <- hw, PE, hia, <- hA, PD, hA0.1, hAu, hw0, hwu, hS0, hSu, hsc, hku, hkS, BL, EFq, BO, AQ]
  have hRi : rs1[i]'(by omega) = A * w % S := by simp only [hrs1, rsP, Gb, <- hw]
  have hQi : qs1[i]'(by omega) = A * w / S := by simp only [hqs1, qsP, Gb, <- hw]
  have hXi : xs1[i]'(by omega) = sgn a * (A * w / S) := by simp only [hxs1, Gb, hQi]
  have hfl := SJ rs1 0 lrs1 hi
  have hfR := SL rs1 0 lrs1 hc12
  rw [hRi] at hfR
  have hil2 : i < (rs1.take i ++ List.replicate (l.length - i) 0).length := by rw [hfl]; exact hc12
  refine Ab (Z 15 rfl ?_)
  simp only [go_sem, simprocAttr, hfl, hc12, Anz, hfR, Anw _ _ _ hil2, BL, EFq, BO, AQ]
  and_intros <;> try exact sdA
  have hfx := SJ xs1 0 lxs1 hi
  have hqs : sgn a * (A * w / S) <= 1099511627776 /\ -1099511627776 <= sgn a * (A * w / S) := by rcases hsg2 with h | h <;> rw [h] <;> omega
  refine Z 16 rfl ?_
  simp only [go_sem, simprocAttr, hkq, BL, EFq, BO, AQ]
  refine Aax (xs := xs1.take i ++ List.replicate (l.length - i) 0) (xs' := xs1.take (i + 1) ++ List.replicate (l.length - (i + 1)) 0) (left' := A - (qs1.take (i + 1)).sum) i rfl hfx (by omega) (by unfold inI; omega) (by rw [Aae xs1 0 lxs1 hc12]; unfold inI; omega) (by unfold inI; omega) (by rw [Aae xs1 0 lxs1 hc12, PP, <- hXi]; exact SL xs1 0 lxs1 hc12) (by rw [AcZ qs1 (by omega), hQi]; omega) rfl rfl rfl rfl ?_
  simp only [go_sem, simprocAttr, EFq, GO]
  refine Z 17 rfl ?_
  simp only [go_sem, simprocAttr, inI, BL, EFq, BO, AQ]
  and_intros <;> try exact sdA
  refine hKL0 (i + 1) _ ?_ ?_ ?_
  ·(try dsimp only); exact hc12
  ·(try dsimp only); omega
  exact leM
 simp only [hcL] at hc12
 obtain rfl : i = l.length := by omega
 have hXe := SI xs1 0 lxs1
 have hRe := SI rs1 0 lrs1
 have hQe : qs1.take l.length = qs1 := BR (by omega)
 refine Be ?_
 simp only [go_sem, simprocAttr]
 rw [hXe, hRe, hQe]
 refine Ab (Z 18 rfl ?_)
 simp only [go_sem, simprocAttr, Abb, hXe, hRe, hQe, BL, EFq, BO, AQ]
 and_intros <;> try exact sdA
 refine Ab (Ab (Z 19 rfl ?_))
 simp only [go_sem, simprocAttr, KB, BL, EFq, BO, AQ]
 refine Ar ?_
 refine Bj (α := Nat) (fun i => (i <= l.length)) (fun i => ⟨mkE [(8, V.ptr 8 0), (10, V.ptr 10 0), (11, V.ptr 11 0), (12, V.fn 142 [V.ptr 10 0, V.ptr 9 0, V.ptr 8 0]), (18, V.ptr 18 0), (81, V.int IntKind.i64 ↑l.length), (82, .int .i64 i)], mkH [(8, Ob.box 3 [V.int IntKind.i64 (A - qs1.sum)]), (9, Ob.box 3 [V.int IntKind.i64 (sgn a)]), (10, Ob.box 42 [V.own 44 l.length]), (11, Ob.box 204 [V.own 47 l.length]), (18, Ob.box 42 [V.own 79 l.length]), (44, Ob.arr 3 1 (Ao xs1)), (47, Ob.arr 189 1 (Ei rs1)), (79, .arr 3 1 (CC ((List.range' 0 l.length).take i ++ List.replicate (l.length - i) 0)))]⟩) (fun i => l.length - i) 0 (As _) ?_ ?_
 ·refine Le.mk _ _ ?_ ?_ rfl <;> simp only [go_sem, simprocAttr, HA, Ef, Nat.sub_zero, Abb] <;> and_intros <;> try exact leA
 rintro i hi KL2 hKL2
 try dsimp only at *
 refine Ab (Z 20 rfl ?_)
 simp only [go_sem, simprocAttr, BL, EFq, BO, AQ]
 refine Ab ?_
 refine Ai rfl (fun hc20 => ?_) fun hc20 => ?_
 ·simp only [hcL] at hc20
  refine Ah ?_
  refine Ab (Ar ?_)
  refine Ab (Z 21 rfl ?_)
  simp only [go_sem, simprocAttr, BL, EFq, BO, AQ]
  have hfo := SJ (List.range' 0 l.length) 0 Ga hi
  have hfs := SL (List.range' 0 l.length) 0 Ga hc20
  rw [show (List.range' 0 l.length)[i]'(by rw [Ga]; exact hc20) = i by simp] at hfs
  have hil2 : i < ((List.range' 0 l.length).take i ++ List.replicate (l.length - i) 0).length := by rw [hfo]; exact hc20
  refine Z 22 rfl ?_
  simp only [go_sem, simprocAttr, hfo, hc20, AhF, hfs, Aa9 _ _ _ hil2, BL, EFq, BO, AQ]
  and_intros <;> try exact sdA
  refine Z 23 rfl ?_
  simp only [go_sem, simprocAttr, inI, BL, EFq, BO, AQ]
  and_intros <;> try exact sdA
  refine hKL2 (i + 1) _ ?_ ?_ ?_
  ·(try dsimp only); exact hc20
  ·(try dsimp only); omega
  exact leM
 simp only [hcL] at hc20
 obtain rfl : i = l.length := by omega
 have hOe := SI (List.range' 0 l.length) 0 Ga
 rw [hOe]
 refine Be ?_
 simp only [go_sem, simprocAttr]
 refine Ab (Z 24 rfl ?_)
 simp only [go_sem, simprocAttr, BL, EFq, BO, AQ]
 and_intros <;> try exact sdA
 refine AkE (r := rs1) lrs1 (by omega) hl rfl rfl rfl rfl ?_
 simp only [go_sem, simprocAttr, EFq, SP, lrs1]
 refine Ab ?_
 obtain ⟨O, hO⟩ : ∃ O, O = msT (fr rs1) (List.range' 0 l.length) := ⟨_, rfl⟩
 have hOp : O.Perm (List.range' 0 l.length) := hO ▸ PV _
 have hOl : O.length = l.length := by rw [hOp.length_eq, Ga]
 rw [<- hO] at hsm ⊢
 have hs0 := Uz bqs1 l.length (by omega)
 rw [BR (by omega)] at hs0
 replace hs0 : A - qs1.sum <= 2199023255552 /\ -(4611686018427387904) <= A - qs1.sum := by omega
 have hx0 : ∀ x ∈ xs1, -(2199023255552 + ((0 : Nat) : Int)) <= x /\ x <= 2199023255552 + ((0 : Nat) : Int) := fun x hx => by rw [hxs1] at hx; obtain ⟨q, hq, rfl⟩ := Am.1 hx; have := bqs1 q hq; rcases hsg2 with h | h <;> rw [h] <;> omega
 refine Ab (Z 25 rfl ?_)
 simp only [go_sem, simprocAttr, hOl, BL, EFq, BO, AQ]
 refine Ar ?_
 refine Bj (α := Nat × Int × (List Int)) (fun γ => (γ.1 <= l.length) /\ (FS (sgn a) O (A - qs1.sum) xs1 = FS (sgn a) (O.drop γ.1) γ.2.1 γ.2.2) /\ (γ.2.2.length = l.length) /\ ((∀ x ∈ γ.2.2, -(2199023255552 + (γ.1 : Int)) <= x /\ x <= 2199023255552 + (γ.1 : Int))) /\ (γ.2.1 <= 2199023255552) /\ (-(4611686018427387904) <= γ.2.1)) (fun γ => ⟨mkE [(8, V.ptr 8 0), (10, V.ptr 10 0), (12, V.fn 142 [V.ptr 10 0, V.ptr 9 0, V.ptr 8 0]), (94, V.own 79 l.length), (95, V.int IntKind.i64 ↑l.length), (96, .int .i64 γ.1)], mkH [(8, .box 3 [.int .i64 γ.2.1]), (9, Ob.box 3 [V.int IntKind.i64 (sgn a)]), (10, Ob.box 42 [V.own 44 l.length]), (44, .arr 3 1 (Ao γ.2.2)), (79, Ob.arr 3 1 (CC O))]⟩) (fun γ => l.length - γ.1) (0, A - qs1.sum, xs1) ⟨As _, rfl, lxs1, hx0, hs0.1, hs0.2⟩ ?_ ?_
 ·exact leM
 rintro ⟨i, lf, xs⟩ ⟨hi, g1, g2, g3, g4, g5⟩ KL4 hKL4
 try dsimp only at *
 refine Ab (Z 26 rfl ?_)
 simp only [go_sem, simprocAttr, BL, EFq, BO, AQ]
 refine Ab ?_
 refine Ai rfl (fun hc26 => ?_) fun hc26 => ?_
 ·simp only [hcL] at hc26
  refine Ah ?_
  refine Ab (Ar ?_)
  have hOi : i < O.length := by omega
  have hkn := Ag9 hOp hOi
  have hdr : O.drop i = O.getD i 0 :: O.drop (i + 1) := by rw [DL hOi, AS, Bm hOi]; rfl
  obtain ⟨k, hk⟩ : ∃ k, k = O.getD i 0 := ⟨_, rfl⟩
  rw [<- hk] at hkn hdr
  refine Ab (Z 27 rfl ?_)
  simp only [go_sem, simprocAttr, hOl, hc26, Aa9 _ _ _ hOi, <- hk, BL, EFq, BO, AQ]
  and_intros <;> try exact sdA
  refine Ab (Z 28 rfl ?_)
  simp only [go_sem, simprocAttr, BL, EFq, BO, AQ]
  refine Ai rfl (fun hc28 => ?_) fun hc28 => ?_
  ·simp only [hcL] at hc28
   have hxk : k < xs.length := by omega
   have hb3 := g3 xs[k] (AI hxk)
   have hs1 : sgn a * 1 = 1 \/ sgn a * 1 = -1 := by rw [Int.mul_one]; exact hsg2
   refine Z 29 rfl ?_
   simp only [go_sem, simprocAttr, BL, EFq, BO, AQ]
   and_intros <;> try exact sdA
   refine Aax (xs := xs) (xs' := xs.set k (xs[k] + sgn a * 1)) (left' := lf - 1) k rfl g2 hxk (by unfold inI; omega) (by unfold inI; omega) (by unfold inI; omega) rfl rfl rfl rfl rfl rfl ?_
   simp only [go_sem, simprocAttr, EFq, GO]
   refine Z 30 rfl ?_
   simp only [go_sem, simprocAttr, inI, BL, EFq, BO, AQ]
   and_intros <;> try exact sdA
   refine hKL4 (i + 1, lf - 1, xs.set k (xs[k] + sgn a * 1)) _ ?_ ?_ ?_
   ·(try dsimp only); exact ⟨hc26, by rw [g1, hdr, FS, if_pos (by omega), AS, Bm hxk]; rfl, by rw [Gc]; exact g2, fun x hx => by rcases PJ hx with hx | rfl; have := g3 x hx; omega; omega, by omega, by omega⟩
   ·(try dsimp only); omega
   exact leM
  simp only [hcL] at hc28
  refine Ah ?_
  refine Z 30 rfl ?_
  simp only [go_sem, simprocAttr, inI, BL, EFq, BO, AQ]
  and_intros <;> try exact sdA
  refine hKL4 (i + 1, lf, xs) _ ?_ ?_ ?_
  ·(try dsimp only); exact ⟨hc26, by rw [g1, hdr, FS, if_neg (by omega)], g2, fun x hx => by have := g3 x hx; omega, g4, g5⟩
  ·(try dsimp only); omega
  exact leM
 simp only [hcL] at hc26
 obtain rfl : i = l.length := by omega
 rw [<- hOl, List.drop_length, FS] at g1
 rw [g1] at hsm
 refine Be ?_
 simp only [go_sem, simprocAttr]
 refine Ab (Z 31 rfl ?_)
 simp only [go_sem, simprocAttr, BL, EFq, BO, AQ]
 refine AW.le (s' := ⟨mkE [(4, .list (Ao xs) false), (5, .int .i64 0)], mkH []⟩) (Le.mk _ _ ?_ ?_ rfl) (Ag (hQ _ _ (.inl rfl) ?_ ?_ ?_)) <;> simp only [go_sem, simprocAttr, Ls, Gy, hsp, hsm]
 exact DA rfl (by rw [AG, g2]) rfl (Jf _)
def MZ (n : Int) : Prop × V := (inI n /\ n ≠ -9223372036854775808, .int .i64 (n.natAbs : Int))
theorem EV (n : Int) : gOf aI MZ [.int .i64 n] = (inI n /\ n ≠ -9223372036854775808, .int .i64 (n.natAbs : Int)) := Al Mx n
theorem Ajl : PU 155 (gOf aI MZ) := by
 have hG := AJ
 refine Yt.a Mx (by simp [aI]) ?_
 rintro n hv C hN Q hQ
 have Z := Yt.R EF0 hG hN
 obtain ⟨h1, h2⟩ : inI n /\ n ≠ -9223372036854775808 := hv
 unfold inI at h1
 refine Ab (Z 0 rfl ?_)
 simp only [go_sem, simprocAttr, aI]
 refine Ab (Ab (Z 1 rfl ?_))
 simp only [go_sem, simprocAttr]
 refine Ai rfl (fun hc1 => ?_) fun hc1 => ?_
 ·simp only [hcL] at hc1
  refine Ab (Z 2 rfl ?_)
  simp only [go_sem, simprocAttr, inI]
  and_intros <;> try exact sdA
  refine Ag (hQ _ _ (.inl rfl) ?_ ?_ ?_) <;> simp only [go_sem, simprocAttr, MZ]
  congr 1; omega
 simp only [hcL] at hc1
 refine Ah ?_
 refine Ab (Z 3 rfl ?_)
 simp only [go_sem, simprocAttr]
 refine Ag (hQ _ _ (.inl rfl) ?_ ?_ ?_) <;> simp only [go_sem, simprocAttr, MZ]
 congr 1; omega
theorem In {l : List Int} {i : Nat} (h : i < l.length) : l.getD i 0 = l[i] := by rw [AS, Bm h]; rfl
def Gr : List Nat -> List Int -> List Int
 | [], xs => xs
 | i :: os, xs => Gr os (xs.set i (xs.getD i 0 + 1))
theorem Aav : ∀ (O : List Nat) (xs : List Int), (Gr O xs).length = xs.length
 | [], _ => rfl
 | i :: O, xs => by rw [Gr, Aav O, Gc]
theorem Aat (sg : Int) : ∀ (O : List Nat) (left : Int) (xs : List Int), left <= 0 -> FS sg O left xs = xs
 | [], _, _, _ => rfl
 | i :: O, left, xs, h => by rw [FS, if_neg (by omega)]; exact Aat sg O left xs h
theorem Ahg (sg : Int) (xs : List Int) (i : Nat) (hi : i < xs.length) : (xs.map fun q => sg * q).set i ((xs.map fun q => sg * q).getD i 0 + sg * 1) = (xs.set i (xs.getD i 0 + 1)).map fun q => sg * q := by
 rw [Kv]
 congr 1
 rw [In (by rw [Ac]; exact hi), Gb, In hi, Kx]
theorem Aas (sg : Int) : ∀ (O : List Nat) (k : Nat) (xs : List Int), (∀ i ∈ O, i < xs.length) -> k <= O.length -> FS sg O k (xs.map fun q => sg * q) = (Gr (O.take k) xs).map fun q => sg * q
 | O, 0, xs, _, _ => by rw [Aat _ _ _ _ (by omega)]; rfl
 | [], k + 1, xs, _, h => by simp at h
 | i :: O, k + 1, xs, h, hk => by
  rw [FS, if_pos (by omega), Ahg sg xs i (h i (AH ..)), LT, Gr, show ((k + 1 : Nat) : Int) - 1 = k by omega]
  exact Aas sg O k _ (fun j hj => by rw [Gc]; exact h j (AU _ hj)) (by simpa using hk)
theorem AaN {A S : Int} (hS : 0 < S) : ∀ {l : List Int}, A * l.sum = S * (qsP A S l).sum + (rsP A S l).sum /\ 0 <= (rsP A S l).sum /\ (rsP A S l).sum <= (l.length : Int) * (S - 1)
 | [] => by simp [qsP, rsP]
 | w :: l => by
  obtain ⟨h1, h2, h3⟩ := AaN (A := A) hS (l := l)
  have e1 : (qsP A S (w :: l)).sum = A * w / S + (qsP A S l).sum := by simp [qsP]
  have e2 : (rsP A S (w :: l)).sum = A * w % S + (rsP A S l).sum := by simp [rsP]
  have m1 := Int.emod_nonneg (A * w) (show S ≠ 0 by omega)
  have m2 := Int.emod_lt_of_pos (A * w) hS
  have m3 := Int.mul_ediv_add_emod (A * w) S
  rw [e1, e2, DP, Kx, Kx, Aw]
  refine ⟨by omega, by omega, ?_⟩
  rw [show ((l.length + 1 : Nat) : Int) * (S - 1) = (l.length : Int) * (S - 1) + (S - 1) by rw [Int.natCast_add, Int.add_mul]; simp]
  omega
theorem AaM {A S : Int} {l : List Int} (hS : 0 < S) (hsum : l.sum = S) (hl : 0 < l.length) : 0 <= A - (qsP A S l).sum /\ A - (qsP A S l).sum < l.length := by
 obtain ⟨h1, h2, h3⟩ := AaN (A := A) hS (l := l)
 rw [hsum] at h1
 have e : (A - (qsP A S l).sum) * S = (rsP A S l).sum := by rw [Int.sub_mul, LO (qsP A S l).sum S]; omega
 generalize A - (qsP A S l).sum = D at *
 refine ⟨?_, ?_⟩
 ·by_cases c : D < 0
  ·have : D * S < 0 := Int.mul_neg_of_neg_of_pos c hS
   omega
  ·omega
 ·refine Int.lt_of_mul_lt_mul_right (a := S) ?_ (by omega)
  have : (l.length : Int) * (S - 1) = (l.length : Int) * S - l.length := by rw [Int.mul_sub]; simp
  omega
theorem Acg : ∀ (xs : List Int) (j : Nat), j < xs.length -> (xs.set j (xs.getD j 0 + 1)).sum = xs.sum + 1
 | x :: xs, 0, _ => by simp; omega
 | x :: xs, j + 1, h => by
  have := Acg xs j (by simpa using h)
  rw [List.set_cons_succ, DP, DP, LU, this]; omega
theorem Aaw : ∀ (T : List Nat) (xs : List Int), (∀ j ∈ T, j < xs.length) -> (Gr T xs).sum = xs.sum + T.length
 | [], xs, _ => by simp [Gr]
 | i :: T, xs, h => by
  rw [Gr, Aaw T _ (fun j hj => by rw [Gc]; exact h j (AU _ hj)), Acg xs i (h i (AH ..)), Aw]; omega
theorem Aau : ∀ (T : List Nat) (xs : List Int) (i : Nat), i < xs.length -> (Gr T xs).getD i 0 = xs.getD i 0 + (T.count i : Int)
 | [], xs, i, _ => by simp [Gr]
 | j :: T, xs, i, h => by
  rw [Gr, Aau T _ i (by rw [Gc]; exact h), List.count_cons]
  by_cases c : j = i
  ·subst c
   rw [In (by rw [Gc]; exact h), List.getElem_set_self]; simp; omega
  ·rw [In (by rw [Gc]; exact h), List.getElem_set_ne c, <- In h, if_neg (by simpa using c)]; simp
def gS (A S : Int) (l : List Int) : List Int := Gr ((msT (fr (rsP A S l)) (List.range' 0 l.length)).take (A - (qsP A S l).sum).toNat) (qsP A S l)
theorem Agf {A S : Int} {l : List Int} (hA : 0 <= A) (hS : 0 < S) (hsum : l.sum = S) (hl : 0 < l.length) (hnn : ∀ w ∈ l, 0 <= w) :
  (gS A S l).length = l.length /\ (gS A S l).sum = A /\ ∀ i, i < l.length -> 0 <= (gS A S l).getD i 0 := by
 obtain ⟨b1, b2⟩ := AaM (A := A) hS hsum hl
 obtain ⟨k, hk⟩ := Jj b1
 have hlQ : (qsP A S l).length = l.length := Ac _
 have hOp := PV (f := fr (rsP A S l)) l.length
 have hOl := hOp.length_eq
 rw [Ga] at hOl
 unfold gS
 rw [hk, Fc]
 refine ⟨by rw [Aav, hlQ], ?_, fun i hi => ?_⟩
 ·rw [Aaw _ _ (fun j hj => by have := TY (hOp.mem_iff.1 (EG hj)); omega), BJ]; omega
 ·rw [Aau _ _ i (by omega), In (by omega), show (qsP A S l)[i]'(by omega) = A * l[i] / S by simp [qsP]]
  have := LJ (Jg hA (hnn _ (AI hi))) (show 0 <= S by omega)
  omega
theorem AjK {a S : Int} {l : List Int} (hS : 0 < S) (hsum : l.sum = S) (hl : 0 < l.length) : KM a S l = (gS a.natAbs S l).map fun q => sgn a * q := by
 obtain ⟨b1, b2⟩ := AaM (A := (a.natAbs : Int)) hS hsum hl
 obtain ⟨k, hk⟩ := Jj b1
 have hlQ : (qsP a.natAbs S l).length = l.length := Ac _
 have hOp := PV (f := fr (rsP a.natAbs S l)) l.length
 unfold KM gS
 rw [hk, Fc, Aas _ _ k _ (fun i hi => by have := TY (hOp.mem_iff.1 hi); omega) (by rw [hOp.length_eq, Ga]; omega)]
structure ShF (a : Int) (l L : List Int) : Prop where
 bd : -1099511627776 <= a /\ a <= 1099511627776
 len : L.length = l.length
 sum : L.sum = a
 sg : ∀ i (h : i < L.length), (0 <= a -> 0 <= L[i]) /\ (a <= 0 -> L[i] <= 0)
theorem Un {a e : Int} {l L : List Int} (h : Eh a l = (e, L)) : (e ≠ 0 -> L = []) /\ (e = 0 -> ShF a l L) := by
 unfold Eh at h
 obtain ⟨⟨S, e0⟩, htr⟩ : ∃ y, CY 0 l = y := ⟨_, rfl⟩
 rw [htr] at h
 split at h
 ·injection h with h1 h2; subst h1 h2; exact ⟨fun _ => rfl, fun h => by omega⟩
 ·rename_i he
  split at h
  ·injection h with h1 h2; subst h1 h2; exact ⟨fun _ => rfl, fun h => by omega⟩
  ·rename_i hf
   injection h with h1 h2
   subst h1
   refine ⟨fun h => absurd rfl h, fun _ => ?_⟩
   obtain rfl : e0 = 0 := by simpa using he
   have hfa : Bq a = true := by cases h : Bq a with | true => rfl | false => exact absurd (.inl h) hf
   have hfS : S <= 1099511627776 := by have : ¬ 1099511627776 < S := fun h => hf (.inr h); omega
   obtain ⟨hnn, hsum, hS0⟩ := UL htr hfS (Gu 0)
   rw [PP] at hsum
   have hl : 0 < l.length := by cases l with | nil => (simp at hsum; omega) | cons x l => simp
   have hb := (Lw a).1 hfa
   replace h2 : KM a S l = L := h2
   rw [AjK hS0 hsum hl] at h2
   obtain ⟨g1, g2, g3⟩ := Agf (A := (a.natAbs : Int)) (by omega) hS0 hsum hl hnn
   have hL : L.length = l.length := by rw [<- h2, Ac, g1]
   have hLi : ∀ i (hi : i < L.length), L[i] = sgn a * (gS a.natAbs S l).getD i 0 := fun i hi => by
    subst h2; rw [Gb, In (by simpa using hi)]
   have hms : ∀ (s : Int) (xs : List Int), (xs.map fun q => s * q).sum = s * xs.sum := fun s xs => by
    induction xs with
    | nil => simp
    | cons x xs ih => rw [BE, DP, DP, ih, Kx]
   refine ⟨hb, hL, ?_, fun i hi => ?_⟩
   ·rw [<- h2, hms, g2]; unfold sgn; split <;> omega
   ·rw [hLi i hi]
    have := g3 i (by omega)
    refine ⟨fun h => ?_, fun h => ?_⟩
    ·unfold sgn; rw [if_neg (by omega)]; omega
    ·rcases Int.lt_or_eq_of_le h with c | c
     ·unfold sgn; rw [if_pos c]; omega
     ·have hnn : ∀ w ∈ gS (a.natAbs : Int) S l, 0 <= w := fun w hw => by
       obtain ⟨j, hj, rfl⟩ := FY.1 hw
       rw [<- In hj]; exact g3 j (by omega)
      have := NO hnn _ (AI (show i < (gS (a.natAbs : Int) S l).length by omega))
      rw [<- In (by omega)] at this
      rw [show (gS (a.natAbs : Int) S l).getD i 0 = 0 by omega]; simp
structure Seg where
 carrier : List UInt8
 number : Int
 day : Int
 from' : List UInt8
 to' : List UInt8
 dep : Int
 arr : Int
def Seg.enc (x : Seg) : List V := [.str x.carrier, .int .i64 x.number, .int .i64 x.day, .str x.from', .str x.to', .int .i64 x.dep, .int .i64 x.arr]
theorem Seg.inj (a b : Seg) (h : a.enc = b.enc) : a = b := by
 obtain ⟨a_carrier, a_number, a_day, a_from', a_to', a_dep, a_arr⟩ := a
 obtain ⟨b_carrier, b_number, b_day, b_from', b_to', b_dep, b_arr⟩ := b
 simp only [Seg.enc, Bz, V.str.injEq, V.int.injEq, V.bool.injEq, V.agg.injEq, V.list.injEq, and_true, true_and] at h
 obtain ⟨h0, h1, h2, h3, h4, h5, h6⟩ := h
 subst h0
 subst h1
 subst h2
 subst h3
 subst h4
 subst h5
 subst h6
 rfl
def Seg.ok (x : Seg) : Prop := x.carrier.length <= 140737488355328 /\ inI x.number /\ inI x.day /\ x.from'.length <= 140737488355328 /\ x.to'.length <= 140737488355328 /\ inI x.dep /\ inI x.arr
def Seg.zero : Seg := ⟨[], 0, 0, [], [], 0, 0⟩
theorem Seg.rows (l : List Seg) : (∀ r ∈ l.map Seg.enc, r.length = 7) ↔ True := iff_true_intro fun r hr => by obtain ⟨x, _, rfl⟩ := Am.1 hr; rfl
theorem Seg.purs (l : List Seg) : (∀ r ∈ l.map Seg.enc, V.purs r = true) ↔ True := iff_true_intro fun r hr => by obtain ⟨x, _, rfl⟩ := Am.1 hr; rfl
attribute [go_sem] Seg.rows Seg.purs
structure Want where
 seg : Seg
 cls : List UInt8
def Want.enc (x : Want) : List V := [.str x.seg.carrier, .int .i64 x.seg.number, .int .i64 x.seg.day, .str x.seg.from', .str x.seg.to', .int .i64 x.seg.dep, .int .i64 x.seg.arr, .str x.cls]
theorem Want.inj (a b : Want) (h : a.enc = b.enc) : a = b := by
 obtain ⟨⟨a_seg_carrier, a_seg_number, a_seg_day, a_seg_from', a_seg_to', a_seg_dep, a_seg_arr⟩, a_cls⟩ := a
 obtain ⟨⟨b_seg_carrier, b_seg_number, b_seg_day, b_seg_from', b_seg_to', b_seg_dep, b_seg_arr⟩, b_cls⟩ := b
 simp only [Want.enc, Bz, V.str.injEq, V.int.injEq, V.bool.injEq, V.agg.injEq, V.list.injEq, and_true, true_and] at h
 obtain ⟨h0, h1, h2, h3, h4, h5, h6, h7⟩ := h
 subst h0
 subst h1
 subst h2
 subst h3
 subst h4
 subst h5
 subst h6
 subst h7
 rfl
def Want.ok (x : Want) : Prop := x.seg.ok /\ x.cls.length <= 140737488355328
def Want.zero : Want := ⟨Seg.zero, []⟩
theorem Want.rows (l : List Want) : (∀ r ∈ l.map Want.enc, r.length = 8) ↔ True := iff_true_intro fun r hr => by obtain ⟨x, _, rfl⟩ := Am.1 hr; rfl
theorem Want.purs (l : List Want) : (∀ r ∈ l.map Want.enc, V.purs r = true) ↔ True := iff_true_intro fun r hr => by obtain ⟨x, _, rfl⟩ := Am.1 hr; rfl
attribute [go_sem] Want.rows Want.purs
structure Part where
 from' : Int
 to' : Int
 fare : Int
 amount : Int
def Part.enc (x : Part) : List V := [.int .i64 x.from', .int .i64 x.to', .int .i64 x.fare, .int .i64 x.amount]
theorem Part.inj (a b : Part) (h : a.enc = b.enc) : a = b := by
 obtain ⟨a_from', a_to', a_fare, a_amount⟩ := a
 obtain ⟨b_from', b_to', b_fare, b_amount⟩ := b
 simp only [Part.enc, Bz, V.str.injEq, V.int.injEq, V.bool.injEq, V.agg.injEq, V.list.injEq, and_true, true_and] at h
 obtain ⟨h0, h1, h2, h3⟩ := h
 subst h0
 subst h1
 subst h2
 subst h3
 rfl
def Part.ok (x : Part) : Prop := inI x.from' /\ inI x.to' /\ inI x.fare /\ inI x.amount
theorem Part.rows (l : List Part) : (∀ r ∈ l.map Part.enc, r.length = 4) ↔ True := iff_true_intro fun r hr => by obtain ⟨x, _, rfl⟩ := Am.1 hr; rfl
theorem Part.purs (l : List Part) : (∀ r ∈ l.map Part.enc, V.purs r = true) ↔ True := iff_true_intro fun r hr => by obtain ⟨x, _, rfl⟩ := Am.1 hr; rfl
attribute [go_sem] Part.rows Part.purs
structure Charge where
 code : List UInt8
 amount : Int
def Charge.enc (x : Charge) : List V := [.str x.code, .int .i64 x.amount]
theorem Charge.inj (a b : Charge) (h : a.enc = b.enc) : a = b := by
 obtain ⟨a_code, a_amount⟩ := a
 obtain ⟨b_code, b_amount⟩ := b
 simp only [Charge.enc, Bz, V.str.injEq, V.int.injEq, V.bool.injEq, V.agg.injEq, V.list.injEq, and_true, true_and] at h
 obtain ⟨h0, h1⟩ := h
 subst h0
 subst h1
 rfl
def Charge.ok (x : Charge) : Prop := x.code.length <= 140737488355328 /\ inI x.amount
theorem Charge.rows (l : List Charge) : (∀ r ∈ l.map Charge.enc, r.length = 2) ↔ True := iff_true_intro fun r hr => by obtain ⟨x, _, rfl⟩ := Am.1 hr; rfl
theorem Charge.purs (l : List Charge) : (∀ r ∈ l.map Charge.enc, V.purs r = true) ↔ True := iff_true_intro fun r hr => by obtain ⟨x, _, rfl⟩ := Am.1 hr; rfl
attribute [go_sem] Charge.rows Charge.purs
structure Two where
 a : Int
 b : Int
def Two.enc (x : Two) : List V := [.int .i64 x.a, .int .i64 x.b]
theorem Two.inj (a b : Two) (h : a.enc = b.enc) : a = b := by
 obtain ⟨a_a, a_b⟩ := a
 obtain ⟨b_a, b_b⟩ := b
 simp only [Two.enc, Bz, V.str.injEq, V.int.injEq, V.bool.injEq, V.agg.injEq, V.list.injEq, and_true, true_and] at h
 obtain ⟨h0, h1⟩ := h
 subst h0
 subst h1
 rfl
def Two.ok (x : Two) : Prop := inI x.a /\ inI x.b
theorem Two.rows (l : List Two) : (∀ r ∈ l.map Two.enc, r.length = 2) ↔ True := iff_true_intro fun r hr => by obtain ⟨x, _, rfl⟩ := Am.1 hr; rfl
theorem Two.purs (l : List Two) : (∀ r ∈ l.map Two.enc, V.purs r = true) ↔ True := iff_true_intro fun r hr => by obtain ⟨x, _, rfl⟩ := Am.1 hr; rfl
attribute [go_sem] Two.rows Two.purs
structure Quote where
 parts : List Part
 pairs : List Two
 taxes : List Charge
 fare : Int
 total : Int
def Quote.enc (x : Quote) : List V := [.list (x.parts.map Part.enc) false, .list (x.pairs.map Two.enc) false, .list (x.taxes.map Charge.enc) false, .int .i64 x.fare, .int .i64 x.total]
theorem Quote.inj (a b : Quote) (h : a.enc = b.enc) : a = b := by
 obtain ⟨a_parts, a_pairs, a_taxes, a_fare, a_total⟩ := a
 obtain ⟨b_parts, b_pairs, b_taxes, b_fare, b_total⟩ := b
 simp only [Quote.enc, Bz, V.str.injEq, V.int.injEq, V.bool.injEq, V.agg.injEq, V.list.injEq, and_true, true_and] at h
 obtain ⟨h0, h1, h2, h3, h4⟩ := h
 replace h0 := Cl Part.inj h0
 subst h0
 replace h1 := Cl Two.inj h1
 subst h1
 replace h2 := Cl Charge.inj h2
 subst h2
 subst h3
 subst h4
 rfl
def Quote.ok (x : Quote) : Prop := (x.parts.length <= 140737488355328 /\ ∀ z ∈ x.parts, z.ok) /\ (x.pairs.length <= 140737488355328 /\ ∀ z ∈ x.pairs, z.ok) /\ (x.taxes.length <= 140737488355328 /\ ∀ z ∈ x.taxes, z.ok) /\ inI x.fare /\ inI x.total
theorem Quote.rows (l : List Quote) : (∀ r ∈ l.map Quote.enc, r.length = 5) ↔ True := iff_true_intro fun r hr => by obtain ⟨x, _, rfl⟩ := Am.1 hr; rfl
theorem Quote.purs (l : List Quote) : (∀ r ∈ l.map Quote.enc, V.purs r = true) ↔ True := iff_true_intro fun r hr => by obtain ⟨x, _, rfl⟩ := Am.1 hr; rfl
attribute [go_sem] Quote.rows Quote.purs
structure Person where
 last : List UInt8
 first : List UInt8
 type : List UInt8
def Person.enc (x : Person) : List V := [.str x.last, .str x.first, .str x.type]
theorem Person.inj (a b : Person) (h : a.enc = b.enc) : a = b := by
 obtain ⟨a_last, a_first, a_type⟩ := a
 obtain ⟨b_last, b_first, b_type⟩ := b
 simp only [Person.enc, Bz, V.str.injEq, V.int.injEq, V.bool.injEq, V.agg.injEq, V.list.injEq, and_true, true_and] at h
 obtain ⟨h0, h1, h2⟩ := h
 subst h0
 subst h1
 subst h2
 rfl
def Person.ok (x : Person) : Prop := x.last.length <= 140737488355328 /\ x.first.length <= 140737488355328 /\ x.type.length <= 140737488355328
def Person.zero : Person := ⟨[], [], []⟩
theorem Person.rows (l : List Person) : (∀ r ∈ l.map Person.enc, r.length = 3) ↔ True := iff_true_intro fun r hr => by obtain ⟨x, _, rfl⟩ := Am.1 hr; rfl
theorem Person.purs (l : List Person) : (∀ r ∈ l.map Person.enc, V.purs r = true) ↔ True := iff_true_intro fun r hr => by obtain ⟨x, _, rfl⟩ := Am.1 hr; rfl
attribute [go_sem] Person.rows Person.purs
structure Coupon where
 want : Want
 basis : List UInt8
 status : Int
 value : Int
def Coupon.enc (x : Coupon) : List V := [.str x.want.seg.carrier, .int .i64 x.want.seg.number, .int .i64 x.want.seg.day, .str x.want.seg.from', .str x.want.seg.to', .int .i64 x.want.seg.dep, .int .i64 x.want.seg.arr, .str x.want.cls, .str x.basis, .int .i64 x.status, .int .i64 x.value]
theorem Coupon.inj (a b : Coupon) (h : a.enc = b.enc) : a = b := by
 obtain ⟨⟨⟨a_want_seg_carrier, a_want_seg_number, a_want_seg_day, a_want_seg_from', a_want_seg_to', a_want_seg_dep, a_want_seg_arr⟩, a_want_cls⟩, a_basis, a_status, a_value⟩ := a
 obtain ⟨⟨⟨b_want_seg_carrier, b_want_seg_number, b_want_seg_day, b_want_seg_from', b_want_seg_to', b_want_seg_dep, b_want_seg_arr⟩, b_want_cls⟩, b_basis, b_status, b_value⟩ := b
 simp only [Coupon.enc, Bz, V.str.injEq, V.int.injEq, V.bool.injEq, V.agg.injEq, V.list.injEq, and_true, true_and] at h
 obtain ⟨h0, h1, h2, h3, h4, h5, h6, h7, h8, h9, h10⟩ := h
 subst h0
 subst h1
 subst h2
 subst h3
 subst h4
 subst h5
 subst h6
 subst h7
 subst h8
 subst h9
 subst h10
 rfl
def Coupon.ok (x : Coupon) : Prop := x.want.ok /\ x.basis.length <= 140737488355328 /\ inI x.status /\ inI x.value
theorem Coupon.rows (l : List Coupon) : (∀ r ∈ l.map Coupon.enc, r.length = 11) ↔ True := iff_true_intro fun r hr => by obtain ⟨x, _, rfl⟩ := Am.1 hr; rfl
theorem Coupon.purs (l : List Coupon) : (∀ r ∈ l.map Coupon.enc, V.purs r = true) ↔ True := iff_true_intro fun r hr => by obtain ⟨x, _, rfl⟩ := Am.1 hr; rfl
attribute [go_sem] Coupon.rows Coupon.purs
structure Ticket where
 number : Int
 locator : List UInt8
 person : Person
 coupons : List Coupon
 fare : Int
 taxes : List Charge
 total : Int
 issued : Int
def Ticket.enc (x : Ticket) : List V := [.int .i64 x.number, .str x.locator, .str x.person.last, .str x.person.first, .str x.person.type, .list (x.coupons.map Coupon.enc) false, .int .i64 x.fare, .list (x.taxes.map Charge.enc) false, .int .i64 x.total, .int .i64 x.issued]
theorem Ticket.inj (a b : Ticket) (h : a.enc = b.enc) : a = b := by
 obtain ⟨a_number, a_locator, ⟨a_person_last, a_person_first, a_person_type⟩, a_coupons, a_fare, a_taxes, a_total, a_issued⟩ := a
 obtain ⟨b_number, b_locator, ⟨b_person_last, b_person_first, b_person_type⟩, b_coupons, b_fare, b_taxes, b_total, b_issued⟩ := b
 simp only [Ticket.enc, Bz, V.str.injEq, V.int.injEq, V.bool.injEq, V.agg.injEq, V.list.injEq, and_true, true_and] at h
 obtain ⟨h0, h1, h2, h3, h4, h5, h6, h7, h8, h9⟩ := h
 subst h0
 subst h1
 subst h2
 subst h3
 subst h4
 replace h5 := Cl Coupon.inj h5
 subst h5
 subst h6
 replace h7 := Cl Charge.inj h7
 subst h7
 subst h8
 subst h9
 rfl
def Ticket.ok (x : Ticket) : Prop := inI x.number /\ x.locator.length <= 140737488355328 /\ x.person.ok /\ (x.coupons.length <= 140737488355328 /\ ∀ z ∈ x.coupons, z.ok) /\ inI x.fare /\ (x.taxes.length <= 140737488355328 /\ ∀ z ∈ x.taxes, z.ok) /\ inI x.total /\ inI x.issued
def Ticket.zero : Ticket := ⟨0, [], Person.zero, [], 0, [], 0, 0⟩
theorem Ticket.rows (l : List Ticket) : (∀ r ∈ l.map Ticket.enc, r.length = 10) ↔ True := iff_true_intro fun r hr => by obtain ⟨x, _, rfl⟩ := Am.1 hr; rfl
theorem Ticket.purs (l : List Ticket) : (∀ r ∈ l.map Ticket.enc, V.purs r = true) ↔ True := iff_true_intro fun r hr => by obtain ⟨x, _, rfl⟩ := Am.1 hr; rfl
attribute [go_sem] Ticket.rows Ticket.purs
structure Post where
 account : List UInt8
 amount : Int
def Post.enc (x : Post) : List V := [.str x.account, .int .i64 x.amount]
theorem Post.rows (l : List Post) : (∀ r ∈ l.map Post.enc, r.length = 2) ↔ True := iff_true_intro fun r hr => by obtain ⟨x, _, rfl⟩ := Am.1 hr; rfl
theorem Post.purs (l : List Post) : (∀ r ∈ l.map Post.enc, V.purs r = true) ↔ True := iff_true_intro fun r hr => by obtain ⟨x, _, rfl⟩ := Am.1 hr; rfl
attribute [go_sem] Post.rows Post.purs
def KV := ar (vl Part.enc) (ao vi)
theorem Vm : Ij KV := ijr (ijl Part.inj) (ijo iji)
def DE (n at' : Int) : List Part -> Bool
 | [] => decide (at' = n)
 | x :: l => if x.from' ≠ at' \/ x.to' <= at' \/ n < x.to' then false else DE n x.to' l
def MP (x : List Part × Int) : Prop × V := (x.1.length <= 140737488355328, .bool (DE x.2 0 x.1))
theorem Fm (l : List Part) (n : Int) : gOf KV MP [.list (l.map Part.enc) false, .int .i64 n] = (l.length <= 140737488355328, .bool (DE n 0 l)) := Al Vm (l, n)
theorem Afj : PU 79 (gOf KV MP) := by
 have hG := AJ
 refine ZO.a Vm (by simp [KV]) ?_
 rintro ⟨l, n⟩ hv C hN Q hQ
 have Z := ZO.R EF0 hG hN
 replace hv : l.length <= 140737488355328 := hv
 refine Ab (Z 0 rfl ?_)
 simp only [go_sem, simprocAttr, KV]
 refine Ab (Z 1 rfl ?_)
 simp only [go_sem, simprocAttr]
 refine Ab (Ab (Z 2 rfl ?_))
 simp only [go_sem, simprocAttr]
 refine Ar ?_
 refine Bj (α := Nat × Int) (fun γ => (γ.1 <= l.length) /\ (DE n 0 l = DE n γ.2 (l.drop γ.1))) (fun γ => ⟨mkE [(1, V.int IntKind.i64 n), (5, .int .i64 γ.2), (8, V.list (List.map Part.enc l) false), (9, V.int IntKind.i64 ↑l.length), (10, .int .i64 γ.1)], mkH []⟩) (fun γ => l.length - γ.1) (0, 0) ⟨As _, rfl⟩ ?_ ?_
 ·exact leM
 rintro ⟨i, a⟩ ⟨hi, hs⟩ KL0 hKL0
 try dsimp only at *
 refine Ab (Z 3 rfl ?_)
 simp only [go_sem, simprocAttr]
 refine Ab ?_
 refine Ai rfl (fun hc3 => ?_) fun hc3 => ?_
 ·simp only [hcL] at hc3
  refine Ah ?_
  refine Ab (Ar ?_)
  have hd := DL hc3
  rw [hd, DE] at hs
  refine Ab (Z 4 rfl ?_)
  simp only [go_sem, simprocAttr, Ap _ _ _ _ hc3, hc3, Part.enc]
  and_intros <;> try exact sdA
  refine Ab (Ab (Z 5 rfl ?_))
  simp only [go_sem, simprocAttr]
  and_intros <;> try exact sdA
  refine Ai rfl (fun hb5 => ?_) fun hb5 => ?_
  ·rw [if_pos (by simp only [Gd, LG, decide_eq_true_eq, decide_eq_false_iff_not] at hb5; omega)] at hs
   refine Ab (Z 6 rfl ?_)
   simp only [go_sem, simprocAttr]
   refine Ag (hQ _ _ (.inl rfl) ?_ ?_ ?_) <;> simp only [go_sem, simprocAttr, MP, hs]
  rw [if_neg (by simp only [Cg, It, decide_eq_true_eq, decide_eq_false_iff_not] at hb5; omega)] at hs
  refine Ah ?_
  refine Z 7 rfl ?_
  simp only [go_sem, simprocAttr]
  refine Z 8 rfl ?_
  simp only [go_sem, simprocAttr, inI]
  and_intros <;> try exact sdA
  refine hKL0 (i + 1, l[i].to') _ ?_ ?_ ?_
  ·(try dsimp only); exact ⟨hc3, hs⟩
  ·(try dsimp only); omega
  exact leM
 simp only [hcL] at hc3
 rw [Hz hc3, DE] at hs
 refine Be ?_
 simp only [go_sem, simprocAttr]
 refine Ab (Z 9 rfl ?_)
 simp only [go_sem, simprocAttr]
 refine Ag (hQ _ _ (.inl rfl) ?_ ?_ ?_) <;> simp only [go_sem, simprocAttr, MP, hs]
def wgt (p : Places) (w : Want) : Int :=
 let m := Eg p.airports p.distances w.seg.from' w.seg.to'
 if m.2 ≠ 0 \/ m.1 = 0 then 1 else m.1
def aWe := ar (vg Places.enc) (ao (vl Want.enc))
theorem Wl : Ij aWe := ijr (ijg Places.inj) (ijo (ijl Want.inj))
def fWe (x : Places × List Want) : Prop × V := (MOk x.1 /\ x.2.length <= 20, .list (Ao (x.2.map (wgt x.1))) false)
theorem Fu (ps : List Airport) (ds : List Distance) (l : List Want) : gOf aWe fWe [.agg [.list (ps.map Airport.enc) false, .list (ds.map Distance.enc) false], .list (l.map Want.enc) false] = (MOk ⟨ps, ds⟩ /\ l.length <= 20, .list (Ao (l.map (wgt ⟨ps, ds⟩))) false) := Al Wl (⟨ps, ds⟩, l)
theorem Gm (ps : List Airport) (ds : List Distance) (a b : List UInt8) : gOf aMi GN [.agg [.list (ps.map Airport.enc) false, .list (ds.map Distance.enc) false], .str a, .str b] = (MOk ⟨ps, ds⟩, .tup [.int .i64 (Eg ps ds a b).1, .int .i64 (Eg ps ds a b).2]) := Al Rl (⟨ps, ds⟩, a, b)
noncomputable def tWe : Tab
 | 138 => (gOf aMi GN)
 | _ => gNo
theorem Amd : ∀ f, PU f (tWe f) := fun f => by
 unfold tWe
 split
 ·exact Ahn
 ·exact Aj.no
theorem AnJ : PU 80 (gOf aWe fWe) := by
 have hG := Amd
 refine ZP.a Wl (by simp [aWe]) ?_
 rintro ⟨⟨ps, ds⟩, l⟩ hv C hN Q hQ
 have Z := ZP.R EF0 hG hN
 obtain ⟨hm, hl⟩ : MOk ⟨ps, ds⟩ /\ l.length <= 20 := hv
 refine Ab (Z 0 rfl ?_)
 simp only [go_sem, simprocAttr, aWe, Places.enc, tWe, Gm]
 refine Ab (Z 1 rfl ?_)
 simp only [go_sem, simprocAttr, Ac, tWe, Gm]
 and_intros <;> try exact sdA
 refine Ab (Ab (Z 2 rfl ?_))
 simp only [go_sem, simprocAttr, tWe, Gm]
 refine Ar ?_
 refine Bj (α := Nat × (List Int)) (fun γ => (γ.1 <= l.length) /\ (γ.2 = (l.take γ.1).map (wgt ⟨ps, ds⟩)) /\ (γ.2.length = γ.1)) (fun γ => ⟨mkE [(2, V.ptr 2 0), (5, .own 12 γ.2.length), (13, V.list (List.map Want.enc l) false), (14, V.int IntKind.i64 ↑l.length), (15, .int .i64 γ.1)], mkH [(2, Ob.box 25 [V.list (List.map Airport.enc ps) false, V.list (List.map Distance.enc ds) false]), (12, .arr 3 1 (Ao γ.2))]⟩) (fun γ => l.length - γ.1) (0, []) ⟨As _, rfl, rfl⟩ ?_ ?_
 ·exact leM
 rintro ⟨i, xs⟩ ⟨hi, hx, hxl⟩ KL0 hKL0
 try dsimp only at *
 refine Ab (Z 3 rfl ?_)
 simp only [go_sem, simprocAttr, tWe, Gm]
 refine Ab ?_
 refine Ai rfl (fun hc3 => ?_) fun hc3 => ?_
 ·simp only [hcL] at hc3
  refine Ah ?_
  refine Ab (Ar ?_)
  refine Ab (Z 4 rfl ?_)
  simp only [go_sem, simprocAttr, Ap _ _ _ _ hc3, hc3, Want.enc, tWe, Gm]
  and_intros <;> try exact sdA
  obtain ⟨⟨n, e⟩, hne⟩ : ∃ y, Eg ps ds l[i].seg.from' l[i].seg.to' = y := ⟨_, rfl⟩
  have hw : wgt ⟨ps, ds⟩ l[i] = if e ≠ 0 \/ n = 0 then 1 else n := by unfold wgt; dsimp only; rw [hne]
  refine Ab (Z 5 rfl ?_)
  simp only [go_sem, simprocAttr, hm, hne, tWe, Gm]
  and_intros <;> try exact sdA
  refine Dq (α := Int) (fun m => (m = wgt ⟨ps, ds⟩ l[i])) (fun m => ⟨mkE [(2, V.ptr 2 0), (5, V.own 12 xs.length), (8, .int .i64 m), (13, V.list (List.map Want.enc l) false), (14, V.int IntKind.i64 ↑l.length), (15, V.int IntKind.i64 ↑i)], mkH [(2, Ob.box 25 [V.list (List.map Airport.enc ps) false, V.list (List.map Distance.enc ds) false]), (12, Ob.arr 3 1 (Ao xs))]⟩) ?_ ?_
  ·intro KC6 hKC6
   refine Ab (Z 6 rfl ?_)
   simp only [go_sem, simprocAttr, tWe, Gm]
   and_intros <;> try exact sdA
   refine Ai rfl (fun hb6 => ?_) fun hb6 => ?_
   ·refine Z 7 rfl ?_
    simp only [go_sem, simprocAttr, tWe, Gm]
    refine hKC6 (1) _ ?_ ?_
    ·(try dsimp only); (rw [hw, if_pos (by simpa using hb6)])
    exact leM
   refine Ah ?_
   refine hKC6 (n) _ ?_ ?_
   ·(try dsimp only); (rw [hw, if_neg (by simpa using hb6)])
   exact leM
  rintro m hmw
  refine Z 8 rfl ?_
  simp only [go_sem, simprocAttr, tWe, Gm]
  and_intros <;> try exact sdA
  refine Z 9 rfl ?_
  simp only [go_sem, simprocAttr, inI, tWe, Gm]
  and_intros <;> try exact sdA
  refine hKL0 (i + 1, xs ++ [m]) _ ?_ ?_ ?_
  ·(try dsimp only); exact ⟨hc3, by rw [hx, hmw, Dm hc3, DO]; rfl, by simp [hxl]⟩
  ·(try dsimp only); omega
  refine Le.mk _ _ ?_ ?_ rfl <;> simp only [go_sem, simprocAttr, EE, An, Aw, Ax] <;> and_intros <;> try exact leA
 simp only [hcL] at hc3
 rw [BR hc3] at hx
 refine Be ?_
 simp only [go_sem, simprocAttr]
 refine Ab (Z 10 rfl ?_)
 simp only [go_sem, simprocAttr, tWe, Gm]
 refine AW.le (s' := ⟨mkE [(4, .list (Ao xs) false)], mkH []⟩) (Le.mk _ _ ?_ ?_ rfl) (Ag (hQ _ _ (.inl rfl) ?_ ?_ ?_)) <;> simp only [go_sem, simprocAttr, fWe, <- hx]
 exact DA rfl (by rw [AG]) rfl (Jf _)
def Ds (W : List Int) : List Part -> Int × List Int
 | [] => (0, [])
 | x :: l =>
  let s := Eh x.amount ((W.take x.to'.toNat).drop x.from'.toNat)
  if s.1 ≠ 0 then (s.1, []) else
   let r := Ds W l
   if r.1 ≠ 0 then (r.1, []) else (0, s.2 ++ r.2)
def Ey (p : Places) (l : List Want) (q : Quote) : Int × List Int := if DE l.length 0 q.parts then Ds (l.map (wgt p)) q.parts else (2, [])
def aCo := ar (vg Places.enc) (ar (vl Want.enc) (ao (vg Quote.enc)))
theorem Vk : Ij aCo := ijr (ijg Places.inj) (ijr (ijl Want.inj) (ijo (ijg Quote.inj)))
def COk (p : Places) (l : List Want) (q : Quote) : Prop := (MOk p /\ p.distances.length <= 100) /\ l.length <= 20 /\ q.parts.length <= 1000000 /\ (∀ x ∈ q.parts, x.ok)
def fCo (x : Places × List Want × Quote) : Prop × V := (COk x.1 x.2.1 x.2.2, Gy (Ey x.1 x.2.1 x.2.2))
def Ko (xs : List Int) (r : Int × List Int) : Int × List Int := if r.1 ≠ 0 then (r.1, []) else (0, xs ++ r.2)
theorem Ae6 {W : List Int} {x : Part} {l : List Part} {e : Int} {s : List Int} (h : Eh x.amount ((W.take x.to'.toNat).drop x.from'.toNat) = (e, s)) (xs : List Int) : Ko xs (Ds W (x :: l)) = if e ≠ 0 then (e, []) else Ko (xs ++ s) (Ds W l) := by
 rw [Ds, h]
 dsimp only
 unfold Ko
 by_cases he : e = 0
 ·subst he
  simp only [ne_eq, not_true_eq_false, if_false]
  by_cases h2 : (Ds W l).1 = 0 <;> simp [h2]
 ·simp [he]
theorem Agm (W : List Int) : ∀ l : List Part, Ds W l = Ko [] (Ds W l)
 | [] => rfl
 | x :: l => by
  rw [Ds]
  dsimp only
  unfold Ko
  split
  ·simp [*]
  ·split
   ·simp [*]
   ·simp
theorem Ft (a : Int) (l : List Int) : gOf aSp Ls [.int .i64 a, .list (Ao l) false] = (l.length <= 20 /\ inI a /\ ∀ w ∈ l, w <= 8388608, Gy (Eh a l)) := Al VW (a, l)
theorem AnL {p : Places} (hp : p.distances.length <= 100) (w : Want) : 1 <= wgt p w /\ wgt p w <= 8388608 := by
 have h : 0 <= (Eg p.airports p.distances w.seg.from' w.seg.to').1 /\ (Eg p.airports p.distances w.seg.from' w.seg.to').1 <= 8388608 := by
  unfold Eg
  split
  ·simp
  ·have hI := (Aan (show p.distances.length <= 1000 by omega) (BZ p.airports w.seg.from')).inv
   have h1 := Qd (ends (BZ p.airports w.seg.from') p.distances) (GS p.distances (BZ p.airports w.seg.from'))
   rw [OO] at h1
   cases h : Au (GS p.distances (BZ p.airports w.seg.from')) (BZ p.airports w.seg.to') with
   | none => unfold NP; simp
   | some v => unfold NP; have := hI.vals _ (JN h); dsimp only at this ⊢; omega
 unfold wgt
 dsimp only
 split
 ·omega
 ·rename_i hh; omega
noncomputable def tCo : Tab
 | 79 => (gOf KV MP)
 | 80 => (gOf aWe fWe)
 | 81 => (gOf aSp Ls)
 | _ => gNo
theorem Alj : ∀ f, PU f (tCo f) := fun f => by
 unfold tCo
 split
 ·exact Afj
 ·exact AnJ
 ·exact AkH
 ·exact Aj.no
theorem Ae3 : PU 36 (gOf aCo fCo) := by
 have hG := Alj
 refine Sy.a Vk (by simp [aCo]) ?_
 rintro ⟨⟨ps, ds⟩, l, q⟩ hv C hN Q hQ
 have Y := Sy.D EF0 hG hN mixed
 have Z := Sy.R EF0 hG hN
 obtain ⟨⟨hm, hm2⟩, hl, hpl, hpo⟩ : COk ⟨ps, ds⟩ l q := hv
 have hl2 : l.length <= 140737488355328 := by omega
 have hpl2 : q.parts.length <= 140737488355328 := by omega
 refine Ab (Z 0 rfl ?_)
 simp only [go_sem, simprocAttr, aCo, Places.enc, Quote.enc, tCo, Fm, Fu, Ft]
 refine Ab (Ab (Z 1 rfl ?_))
 simp only [go_sem, simprocAttr, hpl2, Ac, tCo, Fm, Fu, Ft]
 and_intros <;> try exact sdA
 refine Ai rfl (fun hb1 => ?_) fun hb1 => ?_
 ·have hcm : Ey ⟨ps, ds⟩ l q = (2, []) := by unfold Ey; rw [if_neg (by simpa using hb1)]
  refine Ab (Z 2 rfl ?_)
  simp only [go_sem, simprocAttr, tCo, Fm, Fu, Ft]
  refine AW.le (s' := ⟨mkE [(6, .list [] false), (7, .int .i64 2)], mkH []⟩) (Le.mk _ _ ?_ ?_ rfl) (Ag (hQ _ _ (.inl rfl) ?_ ?_ ?_)) <;> simp only [go_sem, simprocAttr, fCo, hcm, Gy, Ly]
 have hdv : DE l.length 0 q.parts = true := by simpa using hb1
 refine Ah ?_
 obtain ⟨W, hW⟩ : ∃ W, W = l.map (wgt ⟨ps, ds⟩) := ⟨_, rfl⟩
 have hWl : W.length = l.length := by rw [hW, Ac]
 have hWi : ∀ w ∈ W, w <= 8388608 := fun w hw => by rw [hW] at hw; obtain ⟨x, _, rfl⟩ := Am.1 hw; exact (AnL hm2 x).2
 have hcm : Ey ⟨ps, ds⟩ l q = Ds W q.parts := by unfold Ey; rw [if_pos hdv, hW]
 refine Ab (Z 3 rfl ?_)
 simp only [go_sem, simprocAttr, hm, hl, tCo, Fm, Fu, Ft]
 and_intros <;> try exact sdA
 rw [<- hW]
 refine Ab (Z 4 rfl ?_)
 simp only [go_sem, simprocAttr, tCo, Fm, Fu, Ft]
 refine Ab (Ab (Z 5 rfl ?_))
 simp only [go_sem, simprocAttr, Ac, tCo, Fm, Fu, Ft]
 refine Ar ?_
 refine Bj (α := Nat × (List Int)) (fun γ => (γ.1 <= q.parts.length) /\ (DE l.length γ.2.length (q.parts.drop γ.1) = true) /\ (Ds W q.parts = Ko γ.2 (Ds W (q.parts.drop γ.1))) /\ (γ.2.length <= l.length)) (fun γ => ⟨mkE [(8, V.list (Ao W) false), (9, .own 47 γ.2.length), (24, V.list (List.map Part.enc q.parts) false), (25, V.int IntKind.i64 ↑q.parts.length), (26, .int .i64 γ.1)], mkH [(47, .arr 3 1 (Ao γ.2))]⟩) (fun γ => q.parts.length - γ.1) (0, []) ⟨As _, hdv, (Agm _ _), As _⟩ ?_ ?_
 ·exact leM
 rintro ⟨i, xs⟩ ⟨hi, hd, hc, hx⟩ KL0 hKL0
 try dsimp only at *
 refine Ab (Z 6 rfl ?_)
 simp only [go_sem, simprocAttr, tCo, Fm, Fu, Ft]
 refine Ab ?_
 refine Ai rfl (fun hc6 => ?_) fun hc6 => ?_
 ·simp only [hcL] at hc6
  refine Ah ?_
  refine Ab (Ar ?_)
  have hdd := DL hc6
  rw [hdd, DE] at hd
  obtain ⟨x, hxx⟩ : ∃ x, x = q.parts[i] := ⟨_, rfl⟩
  rw [<- hxx] at hd
  have hxo : x.ok := hxx ▸ hpo _ (AI hc6)
  obtain ⟨hdx, hd⟩ : ¬(x.from' ≠ xs.length \/ x.to' <= xs.length \/ (l.length : Int) < x.to') /\ DE l.length x.to' (q.parts.drop (i + 1)) = true := by split at hd; cases hd; exact ⟨‹_›, hd⟩
  have hb1 : 0 <= x.from' /\ x.from' <= x.to' /\ x.to' <= W.length := by omega
  obtain ⟨⟨e, s⟩, hsp⟩ : ∃ y, Eh x.amount ((W.take x.to'.toNat).drop x.from'.toNat) = y := ⟨_, rfl⟩
  have hsl : ((W.take x.to'.toNat).drop x.from'.toNat).length = (x.to' - x.from').toNat := by rw [BW, BJ]; omega
  have hsi : ∀ w ∈ (W.take x.to'.toNat).drop x.from'.toNat, w <= 8388608 := fun w hw => hWi w (EG (Fb hw))
  have hsub : ((Ao W).take x.to'.toNat).drop x.from'.toNat = Ao ((W.take x.to'.toNat).drop x.from'.toNat) := by rw [AgG, AgD]
  have hstep := Ae6 (l := q.parts.drop (i + 1)) hsp xs
  rw [hdd, <- hxx, hstep] at hc
  have hfa := Un hsp
  have hsl2 : ((W.take x.to'.toNat).drop x.from'.toNat).length <= 20 := by omega
  have hxi : inI x.amount := hxo.2.2.2
  refine Ab (Z 7 rfl ?_)
  simp only [go_sem, simprocAttr, Ap _ _ _ _ hc6, hc6, <- hxx, Part.enc, tCo, Fm, Fu, Ft]
  and_intros <;> try exact sdA
  refine Ab (Y 8 rfl (by kernel_rfl) ?_)
  simp only [go_sem, simprocAttr, hsub, hsp, Gy, hsl2, hxi, hsi, AG, hb1.1, hb1.2.1, hb1.2.2, tCo, Fm, Fu, Ft]
  and_intros <;> (try first | exact sdA | exact hsi)
  refine Ab (Ab (Z 9 rfl ?_))
  simp only [go_sem, simprocAttr, tCo, Fm, Fu, Ft]
  refine Ai rfl (fun hb9 => ?_) fun hb9 => ?_
  ·have he : e ≠ 0 := by simpa using hb9
   rw [if_pos he] at hc
   refine Ab (Z 10 rfl ?_)
   simp only [go_sem, simprocAttr, tCo, Fm, Fu, Ft]
   refine AW.le (s' := ⟨mkE [(6, .list [] false), (7, .int .i64 e)], mkH []⟩) (Le.mk _ _ ?_ ?_ rfl) (Ag (hQ _ _ (.inl rfl) ?_ ?_ ?_)) <;> simp only [go_sem, simprocAttr, fCo, Gy, hcm, hc, Ly]
  have he : e = 0 := by simpa using hb9
  rw [if_neg (by simpa using he)] at hc
  have hS := hfa.2 he
  have hsl3 : s.length = (x.to' - x.from').toNat := by rw [hS.len, hsl]
  refine Ah ?_
  refine Z 11 rfl ?_
  simp only [go_sem, simprocAttr, tCo, Fm, Fu, Ft]
  and_intros <;> try exact sdA
  refine Z 12 rfl ?_
  simp only [go_sem, simprocAttr, inI, tCo, Fm, Fu, Ft]
  and_intros <;> try exact sdA
  refine hKL0 (i + 1, xs ++ s) _ ?_ ?_ ?_
  ·(try dsimp only); exact ⟨hc6, by rw [An, hsl3, show (((xs.length + (x.to' - x.from').toNat : Nat)) : Int) = x.to' by omega]; exact hd, hc, by rw [An, hsl3]; omega⟩
  ·(try dsimp only); omega
  refine Le.mk _ _ ?_ ?_ rfl <;> simp only [go_sem, simprocAttr, AgC, An] <;> and_intros <;> try exact leA
 simp only [hcL] at hc6
 rw [Hz hc6, Ds] at hc
 refine Be ?_
 simp only [go_sem, simprocAttr]
 refine Ab (Z 13 rfl ?_)
 simp only [go_sem, simprocAttr, tCo, Fm, Fu, Ft]
 refine AW.le (s' := ⟨mkE [(6, .list (Ao xs) false), (7, .int .i64 0)], mkH []⟩) (Le.mk _ _ ?_ ?_ rfl) (Ag (hQ _ _ (.inl rfl) ?_ ?_ ?_)) <;> simp only [go_sem, simprocAttr, fCo, Gy, hcm, hc, Ko, Br, not_true_eq_false, ne_eq]
 exact DA rfl (by rw [AG]) rfl (Jf _)
theorem Aa7 : ∀ L : List Int, (L.map fun x => -x).sum = -L.sum
 | [] => rfl
 | y :: L => by rw [BE, DP, Aa7 L, DP]; omega
theorem AcE {a : Int} {l L : List Int} (h : ShF a l L) : ∀ x ∈ L, -1099511627776 <= x /\ x <= 1099511627776 := by
 intro x hx
 obtain ⟨i, hi, rfl⟩ := FY.1 hx
 have hb := h.bd
 have hs := h.sum
 have hg := h.sg
 rcases Int.le_total 0 a with h0 | h0
 ·have hnn : ∀ w ∈ L, 0 <= w := fun w hw => by obtain ⟨j, hj, rfl⟩ := FY.1 hw; exact (hg j hj).1 h0
  have := NO hnn _ hx
  have := hnn _ hx
  omega
 ·have hnn : ∀ w ∈ L.map (fun x => -x), 0 <= w := fun w hw => by
   obtain ⟨y, hy, rfl⟩ := Am.1 hw
   obtain ⟨j, hj, rfl⟩ := FY.1 hy
   have := (hg j hj).2 h0; omega
  have h1 := NO hnn _ (Am.2 ⟨_, hx, rfl⟩)
  have h2 := hnn _ (Am.2 ⟨_, hx, rfl⟩)
  have h3 := Aa7 L
  omega
structure PtF (n at' : Int) (X : List Int) (p : Part) : Prop where
 lo : at' <= p.from'
 mid : p.from' < p.to'
 hi : p.to' <= n
 sg : 0 <= p.amount -> ∀ k : Nat, p.from' <= at' + k -> at' + k < p.to' -> 0 <= X.getD k 0
 sum : ((X.take (p.to' - at').toNat).drop (p.from' - at').toNat).sum = p.amount
theorem Xd {W : List Int} {n : Int} (hn : n <= W.length) : ∀ {parts : List Part} {at' : Int} {X : List Int}, DE n at' parts = true -> 0 <= at' -> Ds W parts = (0, X) ->
  at' + X.length = n /\ (∀ p ∈ parts, PtF n at' X p) /\ ∀ x ∈ X, -1099511627776 <= x /\ x <= 1099511627776
 | [], at', X, hd, h0, hc => by
  rw [DE, decide_eq_true_eq] at hd
  rw [Ds] at hc
  injection hc with _ hc
  subst hc
  exact ⟨by simp; exact hd, fun p hp => by simp at hp, fun x hx => by simp at hx⟩
 | p :: parts, at', X, hd, h0, hc => by
  rw [DE] at hd
  split at hd
  ·cases hd
  rename_i hp
  have hp1 : p.from' = at' /\ at' < p.to' /\ p.to' <= n := by omega
  rw [Ds] at hc
  dsimp only at hc
  split at hc
  ·rename_i he; injection hc with hc1 hc2; exact absurd hc1 he
  rename_i he
  have he0 : (Eh p.amount ((W.take p.to'.toNat).drop p.from'.toNat)).1 = 0 := by simpa using he
  split at hc
  ·rename_i he2; injection hc with hc1 hc2; exact absurd hc1 he2
  rename_i he2
  have he20 : (Ds W parts).1 = 0 := by simpa using he2
  injection hc with _ hc
  obtain ⟨⟨e1, s⟩, hs⟩ : ∃ y, Eh p.amount ((W.take p.to'.toNat).drop p.from'.toNat) = y := ⟨_, rfl⟩
  obtain ⟨⟨e2, r⟩, hr⟩ : ∃ y, Ds W parts = y := ⟨_, rfl⟩
  rw [hs] at he0 hc
  rw [hr] at he20 hc
  dsimp only at he0 he20 hc
  subst he0 he20 hc
  have hF := (Un hs).2 rfl
  have hsl : s.length = (p.to' - p.from').toNat := by rw [hF.len, BW, BJ]; omega
  obtain ⟨g1, g2, g3⟩ := Xd hn hd (by omega) hr
  refine ⟨by rw [An, hsl]; omega, fun q hq => ?_, fun x hx => ?_⟩
  ·rcases AN.1 hq with rfl | hq
   ·refine ⟨by omega, by omega, by omega, fun ha k h1 h2 => ?_, ?_⟩
    ·have hk : k < s.length := by omega
     rw [AS, GY hk, Bm hk]
     exact (hF.sg k hk).1 ha
    ·rw [show (q.from' - at').toNat = 0 by omega, Hb, show (q.to' - at').toNat = s.length by omega, List.take_left']
     ·exact hF.sum
     ·rfl
   ·have f := g2 q hq
    have hl := f.lo
    refine ⟨by omega, f.mid, f.hi, fun ha k h1 h2 => ?_, ?_⟩
    ·have hk : s.length <= k := by omega
     rw [AS, GX hk, <- AS]
     exact f.sg ha _ (by omega) (by omega)
    ·have hm := f.mid
     rw [<- f.sum, show (q.to' - at').toNat = s.length + (q.to' - p.to').toNat by omega, show (q.from' - at').toNat = s.length + (q.from' - p.to').toNat by omega, List.take_length_add_append, List.drop_length_add_append]
  ·rcases BT.1 hx with hx | hx
   ·exact AcE hF x hx
   ·exact g3 x hx
theorem Cz (s : List UInt8) (a b : Int) : BN [.str s, .int .i64 a, .int .i64 b] = (s.length <= 140737488355328, .bool (Df s a b)) := rfl
def Acb (d : List (List UInt8)) (k : Nat) : List (List V) := strs (d ++ List.replicate k [])
theorem AjB (d : List (List UInt8)) (k : Nat) : (∀ r ∈ Acb d k, r.length = 1) ↔ True := iff_true_intro (AcY _)
theorem AjC (d : List (List UInt8)) (k : Nat) : (∀ r ∈ Acb d k, V.purs r = true) ↔ True := iff_true_intro (Qt _)
attribute [go_sem] AjB AjC
end Go.Proofs.YtjkclhbckfkeeaaGreatDoor
