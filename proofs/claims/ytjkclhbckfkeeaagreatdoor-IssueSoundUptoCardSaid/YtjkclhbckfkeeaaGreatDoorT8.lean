import Derived.Test.YtjkclhbckfkeeaaGreatDoorIs2
import Derived.Test.YtjkclhbckfkeeaaGreatDoorRu10
import Derived.Test.YtjkclhbckfkeeaaGreatDoorPl4
set_option linter.unusedSimpArgs false
set_option linter.unusedVariables false
set_option linter.deprecated false
set_option maxHeartbeats 8000000
noncomputable section
namespace Go.Proofs.YtjkclhbckfkeeaaGreatDoor
open Go Go.RowKit
def fNx (x : Int × Int) : Prop × V := (x.2 = 10 /\ 1 <= x.1 /\ x.1 <= 8, .int .i64 (if x.1 = 1 then 8 else 0))
theorem IS (a b : Int) : gOf CK fNx [.int .i64 a, .int .i64 b] = (b = 10 /\ 1 <= a /\ a <= 8, .int .i64 (if a = 1 then 8 else 0)) := Al IF (a, b)
theorem Ah4 : PU 82 (gOf CK fNx) := by
 have hG := AH
 refine AaH.a IF (by simp [CK]) ?_
 rintro ⟨s, e⟩ hv C hN Q hQ
 have Z := AaH.R EF0 hG hN
 obtain ⟨he, h1, h2⟩ : e = 10 /\ 1 <= s /\ s <= 8 := hv
 subst he
 refine Aa (Z 0 rfl ?_)
 simp only [go_sem, simprocAttr, CK, tNo, Int.reduceEq, decide_false, decide_true, Dh, CF]
 refine Aa (Aa (Z 1 rfl ?_))
 simp only [go_sem, simprocAttr, tNo, Int.reduceEq, decide_false, decide_true, Dh, CF]
 refine Ao (Aa (Z 2 rfl ?_))
 simp only [go_sem, simprocAttr, tNo, Int.reduceEq, decide_false, decide_true, Dh, CF]
 refine Da rfl ?_
 refine Aa (Aa (Z 4 rfl ?_))
 simp only [go_sem, simprocAttr, tNo, Int.reduceEq, decide_false, decide_true, Dh, CF]
 refine Da rfl ?_
 refine Aa (Z 5 rfl ?_)
 simp only [go_sem, simprocAttr, tNo, Int.reduceEq, decide_false, decide_true, Dh, CF]
 refine Da rfl ?_
 refine Z 6 rfl ?_
 simp only [go_sem, simprocAttr, tNo, Int.reduceEq, decide_false, decide_true, Dh, CF]
 refine Da rfl ?_
 refine Aa (Z 8 rfl ?_)
 simp only [go_sem, simprocAttr, tNo, Int.reduceEq, decide_false, decide_true, Dh, CF]
 refine Da rfl ?_
 refine Aa (Z 10 rfl ?_)
 simp only [go_sem, simprocAttr, tNo, Int.reduceEq, decide_false, decide_true, Dh, CF]
 refine Da rfl ?_
 refine Aa (Z 12 rfl ?_)
 simp only [go_sem, simprocAttr, tNo, Int.reduceEq, decide_false, decide_true, Dh, CF]
 refine Ae rfl (fun hc12 => ?_) fun hc12 => ?_
 ·simp only [hcL] at hc12
  refine Aa (Z 13 rfl ?_)
  simp only [go_sem, simprocAttr, tNo, Int.reduceEq, decide_false, decide_true, Dh, CF]
  refine Ad (hQ _ _ (.inl rfl) ?_ ?_ ?_) <;> simp only [go_sem, simprocAttr, fNx, hc12]
 simp only [hcL] at hc12
 refine Aa (Aa (Z 14 rfl ?_))
 simp only [go_sem, simprocAttr, tNo, Int.reduceEq, decide_false, decide_true, Dh, CF]
 refine Da rfl ?_
 refine Z 15 rfl ?_
 simp only [go_sem, simprocAttr, tNo, Int.reduceEq, decide_false, decide_true, Dh, CF]
 refine Da rfl ?_
 refine Aa (Z 17 rfl ?_)
 simp only [go_sem, simprocAttr, tNo, Int.reduceEq, decide_false, decide_true, Dh, CF]
 refine Da rfl ?_
 refine Aa (Z 19 rfl ?_)
 simp only [go_sem, simprocAttr, tNo, Int.reduceEq, decide_false, decide_true, Dh, CF]
 refine Da rfl ?_
 refine Af ?_
 refine Aa (Z 21 rfl ?_)
 simp only [go_sem, simprocAttr, tNo, Int.reduceEq, decide_false, decide_true, Dh, CF]
 refine Ad (hQ _ _ (.inl rfl) ?_ ?_ ?_) <;> simp only [go_sem, simprocAttr, fNx, hc12]
def DN (s : Int) : Int × Int := if s < 1 \/ 8 < s then (0, 8) else if s = 2 then (0, 28) else if s = 1 then (8, 0) else (0, 27)
def fVn (x : Int × Int) : Prop × V := (x.2 = 10, Bp (DN x.1))
theorem Fn (a b : Int) : gOf CK fVn [.int .i64 a, .int .i64 b] = (b = 10, Bp (DN a)) := Al IF (a, b)
def tVn : Tab
 | 82 => (gOf CK fNx)
 | _ => gNo
theorem Amv : ∀ f, PU f (tVn f) := fun f => by
 unfold tVn
 split
 ·exact Ah4
 ·exact Ah.no
theorem AnV : PU 38 (gOf CK fVn) := by
 have hG := Amv
 refine Aaf.a IF (by simp [CK]) ?_
 rintro ⟨s, e⟩ hv C hN Q hQ
 have Z := Aaf.R EF0 hG hN
 replace hv : e = 10 := hv
 subst hv
 refine Aa (Z 0 rfl ?_)
 simp only [go_sem, simprocAttr, CK, tVn, IS]
 refine Aa (Aa (Z 1 rfl ?_))
 simp only [go_sem, simprocAttr, tVn, IS]
 and_intros <;> try exact sdA
 refine Ae rfl (fun hb1 => ?_) fun hb1 => ?_
 ·have hm : DN s = (0, 8) := by unfold DN; rw [if_pos (by simp at hb1; omega)]
  refine Aa (Z 2 rfl ?_)
  simp only [go_sem, simprocAttr, tVn, IS]
  refine Ad (hQ _ _ (.inl rfl) ?_ ?_ ?_) <;> simp only [go_sem, simprocAttr, fVn, Bp, hm]
 have hb : 1 <= s /\ s <= 8 := by simp at hb1; omega
 refine Af ?_
 refine Aa (Aa (Z 3 rfl ?_))
 simp only [go_sem, simprocAttr, tVn, IS]
 and_intros <;> try exact sdA
 refine Ae rfl (fun hb3 => ?_) fun hb3 => ?_
 ·have hm : DN s = (0, 28) := by simp at hb3; unfold DN; rw [if_neg (by omega), if_pos hb3]
  refine Aa (Z 4 rfl ?_)
  simp only [go_sem, simprocAttr, tVn, IS]
  refine Ad (hQ _ _ (.inl rfl) ?_ ?_ ?_) <;> simp only [go_sem, simprocAttr, fVn, Bp, hm]
 have hs2 : ¬ s = 2 := by simpa using hb3
 refine Af ?_
 refine Aa (Aa (Z 5 rfl ?_))
 simp only [go_sem, simprocAttr, hb.1, hb.2, tVn, IS]
 and_intros <;> try exact sdA
 refine Aa (Z 6 rfl ?_)
 simp only [go_sem, simprocAttr, tVn, IS]
 refine Ae rfl (fun hb6 => ?_) fun hb6 => ?_
 ·have hs1 : s = 1 := by (by_cases h : s = 1; exact h; simp [h] at hb6)
  subst hs1
  refine Aa (Z 7 rfl ?_)
  simp only [go_sem, simprocAttr, tVn, IS]
  refine Ad (hQ _ _ (.inl rfl) ?_ ?_ ?_) <;> simp only [go_sem, simprocAttr, fVn]
  rfl
 have hs1 : ¬ s = 1 := fun h => by simp [h] at hb6
 have hm : DN s = (0, 27) := by unfold DN; rw [if_neg (by omega), if_neg hs2, if_neg hs1]
 refine Af ?_
 refine Aa (Z 8 rfl ?_)
 simp only [go_sem, simprocAttr, tVn, IS]
 refine Ad (hQ _ _ (.inl rfl) ?_ ?_ ?_) <;> simp only [go_sem, simprocAttr, fVn, Bp, hm]
def Cz (l : List Int) : List V := l.map fun n => .int .i64 n
theorem DY (l : List Int) : (Cz l).length = l.length := Ac _
theorem AnT {l : List Int} {i : Nat} (h : i < l.length) (d : V) : (Cz l).getD i d = .int .i64 l[i] := by
 unfold Cz
 rw [AI, BE, AY h]; rfl
theorem Ck (D : List Nat) : ∀ l : List Int, V.nins D (Cz l) = true
 | [] => by simp [Cz, V.nins]
 | x :: l => by have := Ck D l; unfold Cz at this ⊢; simp [V.nins, V.nin, this]
theorem CJ : ∀ l : List Int, V.purs (Cz l) = true
 | [] => by simp [Cz, V.purs]
 | x :: l => by have := CJ l; unfold Cz at this ⊢; simp [V.purs, V.pur, this]
theorem AdV {h : Nat -> Option Ob} {hl : List (Nat × Ob)} : ∀ l : List Int, HL h hl (Cz l) (Cz l) ↔ True
 | [] => iff_true_intro trivial
 | x :: l => iff_true_intro ⟨.same _ (by simp [V.nin]), (AdV l).2 trivial⟩
theorem AnU {a b : List Int} (h : Cz a = Cz b) : a = b := Qi (fun x y h => by injection h) |>.1 h
def aC5 (x : List Int) : List V := [.agg (Cz x)]
theorem VF (a b : List Int) (h : aC5 a = aC5 b) : a = b := by
 unfold aC5 at h
 simp only [Bz, V.agg.injEq, and_true] at h
 exact AnU h
def Jt (x : List Int) : Nat -> Int
 | 0 => 0
 | i + 1 => Jt x i + (2 * i + 1) * x.getD i 0
def fC5 (x : List Int) : Prop × V := (x.length = 5 /\ (∀ n ∈ x, 0 <= n /\ n < 32), .int .i64 (Jt x 5 % 32))
theorem ED (x : List Int) : gOf aC5 fC5 [.agg (Cz x)] = (x.length = 5 /\ (∀ n ∈ x, 0 <= n /\ n < 32), .int .i64 (Jt x 5 % 32)) := Al VF x
theorem Ahr : PU 172 (gOf aC5 fC5) := by
 have hG := AH
 refine Zo.a VF (by simp [aC5]) ?_
 rintro x hv C hN Q hQ
 have Z := Zo.R EF0 hG hN
 obtain ⟨hl, hx⟩ : x.length = 5 /\ ∀ n ∈ x, 0 <= n /\ n < 32 := hv
 have hvl : (Cz x).length = 5 := by rw [DY, hl]
 have htk : (Cz x).take 5 = Cz x := Bu (by omega)
 refine Aa (Z 0 rfl ?_)
 simp only [go_sem, simprocAttr, aC5, tNo, FT, CT, htk, Ck, CJ]
 refine Aa (Z 1 rfl ?_)
 simp only [go_sem, simprocAttr, tNo, FT, CT, htk, Ck, CJ]
 refine Aa (Aa (Z 2 rfl ?_))
 simp only [go_sem, simprocAttr, hvl, Cw, tNo, FT, CT, htk, Ck, CJ]
 refine Ao ?_
 refine AX (α := Nat × Int) (fun γ => (γ.1 <= 5) /\ (γ.2 = Jt x γ.1) /\ (0 <= γ.2 /\ γ.2 <= 279 * (γ.1 : Int))) (fun γ => ⟨mkE [(3, .int .i64 γ.2), (6, .agg (Cz x)), (7, .int .i64 γ.1)], mkH []⟩) (fun γ => 5 - γ.1) (0, 0) ⟨by omega, rfl, by omega, by omega⟩ ?_ ?_
 ·refine Le.mk _ _ ?_ ?_ rfl <;> simp only [go_sem, simprocAttr, htk, Ck, CT] <;> and_intros <;> try exact leA
 rintro ⟨i, s⟩ ⟨hi, hs, hsb⟩ KL0 hKL0
 try dsimp only at *
 refine Aa (Z 3 rfl ?_)
 simp only [go_sem, simprocAttr, tNo, FT, CT, htk, Ck, CJ]
 refine Aa ?_
 refine Ae rfl (fun hc3 => ?_) fun hc3 => ?_
 ·simp only [hcL] at hc3
  have hi5 : i < 5 := by omega
  have hix : i < x.length := by omega
  have hxi := hx _ (AF hix)
  have hmul : 0 <= (2 * (i : Int) + 1) * x[i] /\ (2 * (i : Int) + 1) * x[i] <= 279 := ⟨Il (by omega) hxi.1, by have h1 : (2 * (i : Int) + 1) * x[i] <= 9 * x[i] := Qa (by omega) hxi.1; omega⟩
  refine Af ?_
  refine Aa (Ao ?_)
  refine Aa (Z 4 rfl ?_)
  simp only [go_sem, simprocAttr, DY, hl, AnT hix, tNo, FT, CT, htk, Ck, CJ]
  and_intros <;> try exact sdA
  refine Z 5 rfl ?_
  simp only [go_sem, simprocAttr, inI, tNo, FT, CT, htk, Ck, CJ]
  and_intros <;> try exact sdA
  refine Z 6 rfl ?_
  simp only [go_sem, simprocAttr, inI, tNo, FT, CT, htk, Ck, CJ]
  and_intros <;> try exact sdA
  refine hKL0 (i + 1, s + (2 * i + 1) * x[i]) _ ?_ ?_ ?_
  ·(try dsimp only); exact ⟨by omega, by rw [hs, Jt, AI, AY hix]; rfl, by omega, by omega⟩
  ·(try dsimp only); omega
  refine Le.mk _ _ ?_ ?_ rfl <;> simp only [go_sem, simprocAttr, Ck] <;> and_intros <;> try exact leA
 simp only [hcL] at hc3
 obtain rfl : i = 5 := by omega
 refine AS ?_
 simp only [go_sem, simprocAttr]
 refine Aa (Z 7 rfl ?_)
 simp only [go_sem, simprocAttr, tNo, FT, CT, htk, Ck, CJ]
 and_intros <;> try exact sdA
 refine Ad (hQ _ _ (.inl rfl) ?_ ?_ ?_) <;> simp only [go_sem, simprocAttr, fC5]
 rw [hs, MM (by rw [<- hs]; exact hsb.1)]
def fLc (s : List UInt8) : Prop × V := (s.length <= 140737488355328, .bool (DT s))
theorem Bn (s : List UInt8) : gOf Bh fLc [.str s] = (s.length <= 140737488355328, .bool (DT s)) := Al FD s
def vsA (s : List UInt8) (i : Nat) : List Int := (s.take i).map ixA ++ List.replicate (5 - i) 0
theorem AnX {s : List UInt8} {i : Nat} (h : i <= 5) (hs : 5 <= s.length) : (vsA s i).length = 5 := by
 unfold vsA
 rw [Ai, Ac, Bx, Ih]; omega
theorem AnY {s : List UInt8} {i : Nat} (h : i < 5) (hs : 5 <= s.length) : (vsA s i).set i (ixA (s[i]'(by omega))) = vsA s (i + 1) := by
 unfold vsA
 have h1 : ((s.take i).map ixA).length = i := by rw [Ac, Bx]; omega
 rw [Qd _ _ (by omega), h1, Nat.sub_self, show 5 - i = 5 - (i + 1) + 1 by omega, My, List.set_cons_zero, CW (show i < s.length by omega), DC, Dg]
 rfl
theorem Aja (xs : List Int) (i : Nat) (v : Int) (h : i < xs.length) : List.take i (Cz xs) ++ [.int .i64 v] ++ List.drop (i + 1) (Cz xs) = Cz (xs.set i v) := by
 unfold Cz
 rw [JW, List.set_eq_take_append_cons_drop, if_pos (by rw [Ac]; exact h)]
 simp
theorem Ahc {s : List UInt8} {i : Nat} (h : i < s.length) : Ts [.str [50, 51, 52, 53, 54, 55, 56, 57, 65, 66, 67, 68, 69, 70, 71, 72, 74, 75, 76, 77, 78, 80, 81, 82, 83, 84, 85, 86, 87, 88, 89, 90], .int .u8 (((s.getD i 0).toNat : Nat) : Int)] = (True, .int .i64 (ixA s[i])) := by
 rw [AI, AY h]
 show (True, V.int .i64 (Lib.indexByte CA (((s[i].toNat : Nat) : Int).toNat.toUInt8))) = _
 rw [Du]
 congr 3
 simp
theorem Ud {i : Nat} (h : i < 5) : 0 < (32 : Int) ^ i /\ (32 : Int) ^ i <= 1048576 := by
 match i, h with
 | 0, _ | 1, _ | 2, _ | 3, _ | 4, _ => decide
def HE (s : List UInt8) : Int × Int := if DT s = true then (Jh ((s.take 5).map ixA), 0) else (0, 3)
def fNp (s : List UInt8) : Prop × V := (s.length <= 140737488355328, Bp (HE s))
theorem Mn (s : List UInt8) : gOf Bh fNp [.str s] = (s.length <= 140737488355328, Bp (HE s)) := Al FD s
theorem AbR {s : List UInt8} {i : Nat} (h : i < s.length) : Jh ((s.take (i + 1)).map ixA) = 32 * Jh ((s.take i).map ixA) + ixA s[i] := by
 rw [CW h, DC]; unfold Jh; rw [List.foldl_append]; rfl
theorem Abx {s : List UInt8} {i : Nat} (hi : i < 5) (h : i < s.length) (hn : ixA s[i] < 0) : DT s = false := by
 unfold DT
 split
 ·match i, hi with
  | 0, _ | 1, _ | 2, _ | 3, _ | 4, _ => simp at hn ⊢; intros; omega
 ·rfl
theorem AnH (a b : UInt8) : decide ((a.toNat : Int) = (b.toNat : Int)) = decide (a = b) := decide_eq_decide.2 ⟨fun h => UInt8.toNat_inj.1 (by omega), fun h => by rw [h]⟩
theorem AhA {s : List UInt8} (h6 : s.length = 6) (hall : ∀ c ∈ s.take 5, 0 <= ixA c) : DT s = decide (((s.getD 5 0).toNat : Int) = ((CA.getD (Jt ((s.take 5).map ixA) 5 % 32).toNat 0).toNat : Int)) := by
 match s, h6 with
 | [a, b, c, d, e, f], _ =>
  have g1 := hall a (by simp)
  have g2 := hall b (by simp)
  have g3 := hall c (by simp)
  have g4 := hall d (by simp)
  have g5 := hall e (by simp)
  rw [AnH]
  have hw : Jt (([a, b, c, d, e, f].take 5).map ixA) 5 % 32 = QW (ixA a) (ixA b) (ixA c) (ixA d) (ixA e) := by
   simp only [Jt, QW, JZ, HC, BP, GR, List.getD_cons_zero, Ka]
   congr 1
   omega
  rw [hw]
  simp only [DT, g1, g2, g3, g4, g5, decide_true, HD]
  rfl
def tNp : Tab
 | 171 => Ts
 | 172 => (gOf aC5 fC5)
 | _ => gNo
theorem Al5 : ∀ f, PU f (tNp f) := fun f => by
 unfold tNp
 split
 ·exact Ahd
 ·exact Ahr
 ·exact Ah.no
theorem Aib : PU 114 (gOf Bh fNp) := by
 have hG := Al5
 refine Sz.a FD (by simp [Bh]) ?_
 rintro s hv C hN Q hQ
 have Y := Sz.D EF0 hG hN mixed
 have Z := Sz.R EF0 hG hN
 replace hv : s.length <= 140737488355328 := hv
 refine Aa (Z 0 rfl ?_)
 simp only [go_sem, simprocAttr, Bh, tNp, ED, Ck, CJ, DY]
 refine Aa (Aa (Z 1 rfl ?_))
 simp only [go_sem, simprocAttr, tNp, ED, Ck, CJ, DY]
 refine Ae rfl (fun hb1 => ?_) fun hb1 => ?_
 ·have hne : s.length ≠ 6 := fun e => by rw [e] at hb1; simp at hb1
  have hl := Abw hne
  refine Aa (Z 2 rfl ?_)
  simp only [go_sem, simprocAttr, tNp, ED, Ck, CJ, DY]
  refine Ad (hQ _ _ (.inl rfl) ?_ ?_ ?_) <;> simp only [go_sem, simprocAttr, fNp, Bp, HE, hl, BV]
 have hl6 : s.length = 6 := by simp only [Ii, decide_eq_true_eq] at hb1; omega
 refine Af ?_
 refine Aa (Z 3 rfl ?_)
 simp only [go_sem, simprocAttr, tNp, ED, Ck, CJ, DY]
 refine Aa (Z 4 rfl ?_)
 simp only [go_sem, simprocAttr, tNp, ED, Ck, CJ, DY]
 refine Aa (Aa (Z 5 rfl ?_))
 simp only [go_sem, simprocAttr, tNp, ED, Ck, CJ, DY]
 refine Ao ?_
 refine AX (α := Nat × Int) (fun γ => (γ.1 <= 5) /\ (γ.2 = Jh ((s.take γ.1).map ixA)) /\ (∀ c ∈ s.take γ.1, 0 <= ixA c) /\ (0 <= γ.2 /\ γ.2 < 32 ^ γ.1)) (fun γ => ⟨mkE [(0, V.str s), (4, .ptr 4 0), (5, .int .i64 γ.2), (11, .int .i64 γ.1)], mkH [(4, .box 233 (Cz (vsA s γ.1)))]⟩) (fun γ => 5 - γ.1) (0, 0) ⟨by omega, rfl, fun c hc => by simp at hc, by omega, by decide⟩ ?_ ?_
 ·refine Le.mk _ _ ?_ ?_ rfl <;> simp only [go_sem, simprocAttr, show Cz (vsA s 0) = [.int .i64 0, .int .i64 0, .int .i64 0, .int .i64 0, .int .i64 0] from rfl] <;> and_intros <;> try exact leA
 rintro ⟨i, n⟩ ⟨hi, hn, hall, hnb⟩ KL0 hKL0
 try dsimp only at *
 refine Aa (Z 6 rfl ?_)
 simp only [go_sem, simprocAttr, tNp, ED, Ck, CJ, DY]
 refine Aa ?_
 refine Ae rfl (fun hc6 => ?_) fun hc6 => ?_
 ·simp only [hcL] at hc6
  have hi5 : i < 5 := by omega
  have his : i < s.length := by omega
  obtain ⟨hp0, hp1⟩ := Ud hi5
  have hib := JR s[i]
  have hvl := AnX hi (show 5 <= s.length by omega)
  have hst := AbR his
  refine Af ?_
  refine Aa (Ao ?_)
  refine Aa (Z 7 rfl ?_)
  simp only [go_sem, simprocAttr, tNp, ED, Ck, CJ, DY]
  refine Aa (Z 8 rfl ?_)
  simp only [go_sem, simprocAttr, Ahc his, tNp, ED, Ck, CJ, DY]
  and_intros <;> try exact sdA
  refine Aa (Aa (Z 9 rfl ?_))
  simp only [go_sem, simprocAttr, tNp, ED, Ck, CJ, DY]
  refine Ae rfl (fun hb9 => ?_) fun hb9 => ?_
  ·have hl := Abx hi5 his (by simpa using hb9)
   refine Aa (Z 10 rfl ?_)
   simp only [go_sem, simprocAttr, tNp, ED, Ck, CJ, DY]
   refine Ad (hQ _ _ (.inl rfl) ?_ ?_ ?_) <;> simp only [go_sem, simprocAttr, fNp, Bp, HE, hl, BV]
  have hv0 : 0 <= ixA s[i] := by simpa using hb9
  refine Af ?_
  refine Aa (Z 11 rfl ?_)
  simp only [go_sem, simprocAttr, Cw, FT, hvl, Aja _ _ _ (show i < (vsA s i).length by rw [hvl]; exact hi5), AnY hi5 (show 5 <= s.length by omega), tNp, ED, Ck, CJ, DY]
  and_intros <;> try exact sdA
  refine Z 12 rfl ?_
  simp only [go_sem, simprocAttr, inI, tNp, ED, Ck, CJ, DY]
  and_intros <;> try exact sdA
  refine Z 13 rfl ?_
  simp only [go_sem, simprocAttr, inI, tNp, ED, Ck, CJ, DY]
  and_intros <;> try exact sdA
  refine hKL0 (i + 1, n * 32 + ixA s[i]) _ ?_ ?_ ?_
  ·(try dsimp only); exact ⟨by omega, by rw [hst, <- hn]; omega, Iz (p := fun c => 0 <= ixA c) his hall hv0, by omega, by rw [Oh]; omega⟩
  ·(try dsimp only); omega
  refine Le.mk _ _ ?_ ?_ rfl <;> simp only [go_sem, simprocAttr, Ck, AdV] <;> and_intros <;> try exact leA
 simp only [hcL] at hc6
 obtain rfl : i = 5 := by omega
 have hvs : vsA s 5 = (s.take 5).map ixA := by unfold vsA; simp
 rw [hvs]
 have hml : ((s.take 5).map ixA).length = 5 := by rw [Ac, Bx]; omega
 have htk : (Cz ((s.take 5).map ixA)).take 5 = Cz ((s.take 5).map ixA) := Bu (by rw [DY]; omega)
 have hmb : ∀ m ∈ (s.take 5).map ixA, 0 <= m /\ m < 32 := fun m hm => by obtain ⟨c, hc, rfl⟩ := An.1 hm; exact ⟨hall c hc, (JR c).2⟩
 have hle := AhA hl6 hall
 obtain ⟨w, hw⟩ : ∃ w, w = Jt ((s.take 5).map ixA) 5 := ⟨_, rfl⟩
 refine AS ?_
 simp only [go_sem, simprocAttr]
 refine Aa (Aa (Y 14 rfl (by kernel_rfl) ?_))
 simp only [go_sem, simprocAttr, CT, htk, hml, hmb, <- hw, hl6, tNp, ED, Ck, CJ, DY]
 and_intros <;> (try first | exact sdA | exact hmb)
 refine Ae rfl (fun hb14 => ?_) fun hb14 => ?_
 ·have hl : DT s = false := by rw [hle, <- hw]; unfold CA; simpa using hb14
  refine Aa (Z 15 rfl ?_)
  simp only [go_sem, simprocAttr, tNp, ED, Ck, CJ, DY]
  refine Ad (hQ _ _ (.inl rfl) ?_ ?_ ?_) <;> simp only [go_sem, simprocAttr, fNp, Bp, HE, hl, BV]
 have hl : DT s = true := by rw [hle, <- hw]; unfold CA; simpa using hb14
 refine Af ?_
 refine Aa (Z 16 rfl ?_)
 simp only [go_sem, simprocAttr, tNp, ED, Ck, CJ, DY]
 refine Ad (hQ _ _ (.inl rfl) ?_ ?_ ?_) <;> simp only [go_sem, simprocAttr, fNp, Bp, HE, hl, <- hn]
def tLr : Tab
 | 114 => (gOf Bh fNp)
 | _ => gNo
theorem AlY : ∀ f, PU f (tLr f) := fun f => by
 unfold tLr
 split
 ·exact Aib
 ·exact Ah.no
theorem AhC : PU 60 (gOf Bh fLc) := by
 have hG := AlY
 refine Aar.a FD (by simp [Bh]) ?_
 rintro s hv C hN Q hQ
 have Z := Aar.R EF0 hG hN
 replace hv : s.length <= 140737488355328 := hv
 refine Aa (Z 0 rfl ?_)
 simp only [go_sem, simprocAttr, Bh, tLr, Mn, Bp]
 refine Aa (Z 1 rfl ?_)
 simp only [go_sem, simprocAttr, hv, tLr, Mn, Bp]
 and_intros <;> try exact sdA
 refine Aa (Z 2 rfl ?_)
 simp only [go_sem, simprocAttr, tLr, Mn, Bp]
 refine Ad (hQ _ _ (.inl rfl) ?_ ?_ ?_) <;> simp only [go_sem, simprocAttr, fLc]
 unfold HE; split <;> simp_all
theorem TI {i : Nat} (h : i < 32) : (((CA.getD i 0).toNat : Nat) : Int) = ((CA[i]'h).toNat : Int) := by rw [AI, AY (show i < CA.length from h)]; rfl
def aU8 (x : Int) : List V := [.int .u8 x]
theorem WJ (a b : Int) (h : aU8 a = aU8 b) : a = b := by
 simp only [aU8, Bz, V.str.injEq, V.int.injEq, V.bool.injEq, V.agg.injEq, V.list.injEq, and_true, true_and] at h
 have h0 := h
 subst h0
 rfl
def fVl (c : Int) : Prop × V := (0 <= c /\ c <= 255, .int .i64 (ixA c.toNat.toUInt8))
theorem Yt {s : List UInt8} {i : Nat} (h : i < s.length) : gOf aU8 fVl [.int .u8 (((s.getD i 0).toNat : Nat) : Int)] = (True, .int .i64 (ixA s[i])) := by
 refine (Al (F := fVl) WJ (((s.getD i 0).toNat : Nat) : Int)).trans ?_
 rw [AI, AY h]
 unfold fVl
 have h1 : (0 <= ((((some s[i]).getD 0).toNat : Nat) : Int) /\ ((((some s[i]).getD 0).toNat : Nat) : Int) <= 255) = True := eq_true ⟨by omega, by have := s[i].toNat_lt; simp; omega⟩
 rw [h1]
 congr 2
 simp
theorem AjX : PU 112 (gOf aU8 fVl) := by
 have hG := AH
 refine YC.a WJ (by simp [aU8]) ?_
 rintro c hv C hN Q hQ
 have Z := YC.R EF0 hG hN
 obtain ⟨h0, h1⟩ : 0 <= c /\ c <= 255 := hv
 obtain ⟨u, hu⟩ : ∃ u, u = c.toNat.toUInt8 := ⟨_, rfl⟩
 have huc : (u.toNat : Int) = c := by rw [hu]; show ((UInt8.ofNat c.toNat).toNat : Int) = c; rw [UInt8.toNat_ofNat']; omega
 refine Aa (Z 0 rfl ?_)
 simp only [go_sem, simprocAttr, aU8, tNo]
 refine Aa (Aa (Z 1 rfl ?_))
 simp only [go_sem, simprocAttr, tNo]
 refine Ao ?_
 refine AX (α := Nat) (fun i => (i <= 32) /\ (∀ x ∈ CA.take i, x ≠ u)) (fun i => ⟨mkE [(0, V.int IntKind.u8 c), (3, .int .i64 i)], mkH []⟩) (fun i => 32 - i) 0 ⟨by omega, fun x hx => by simp at hx⟩ ?_ ?_
 ·exact leM
 rintro i ⟨hi, hp⟩ KL0 hKL0
 try dsimp only at *
 refine Aa (Aa (Z 2 rfl ?_))
 simp only [go_sem, simprocAttr, tNo]
 refine Ae rfl (fun hc2 => ?_) fun hc2 => ?_
 ·simp only [hcL] at hc2
  have hi5 : i < 32 := by omega
  refine Af ?_
  refine Aa (Ao ?_)
  refine Aa (Z 4 rfl ?_)
  simp only [go_sem, simprocAttr, TI hi5, tNo]
  and_intros <;> try exact sdA
  refine Ae rfl (fun hb4 => ?_) fun hb4 => ?_
  ·have hai : CA[i]'hi5 = u := (by have h := of_decide_eq_true hb4; change (((CA.getD i 0).toNat : Nat) : Int) = c at h; rw [TI hi5, <- huc] at h; exact UInt8.toNat_inj.1 (by omega))
   have hix : ixA u = i := Abf (l := CA) hi5 hp hai
   refine Aa (Z 5 rfl ?_)
   simp only [go_sem, simprocAttr, tNo]
   refine Ad (hQ _ _ (.inl rfl) ?_ ?_ ?_) <;> simp only [go_sem, simprocAttr, fVl, <- hu, hix]
  have hai : CA[i]'hi5 ≠ u := (fun e => of_decide_eq_false hb4 (by change (((CA.getD i 0).toNat : Nat) : Int) = c; rw [TI hi5, <- huc, e]))
  refine Af ?_
  refine Z 3 rfl ?_
  simp only [go_sem, simprocAttr, inI, tNo]
  and_intros <;> try exact sdA
  refine hKL0 (i + 1) _ ?_ ?_ ?_
  ·(try dsimp only); exact ⟨hi5, Iz (l := CA) (p := fun x => x ≠ u) hi5 hp hai⟩
  ·(try dsimp only); omega
  exact leM
 simp only [hcL] at hc2
 have hix : ixA u = -1 := Abi (l := CA) fun x hx => hp x (by rw [Bu (show CA.length <= i by change 32 <= i; omega)]; exact hx)
 refine AS ?_
 simp only [go_sem, simprocAttr]
 refine Aa (Z 6 rfl ?_)
 simp only [go_sem, simprocAttr, tNo]
 refine Ad (hQ _ _ (.inl rfl) ?_ ?_ ?_) <;> simp only [go_sem, simprocAttr, fVl, <- hu, hix]
def ofK (n : Int) : Nat -> List UInt8 × Int
 | 0 => ([], 0)
 | k + 1 => (al (n / 32 ^ k % 32) :: (ofK n k).1, (ofK n k).2 + (2 * (4 - k) + 1) * (n / 32 ^ k % 32))
theorem Aid (n : Int) : (ofK n 5).1 ++ [al ((ofK n 5).2 % 32)] = ofM n := by
 simp only [ofK, ofM, FQ, FR]
 have h1 : n / 32 ^ 4 = n / 1048576 := rfl
 have h2 : n / 32 ^ 3 = n / 32768 := rfl
 have h3 : n / 32 ^ 2 = n / 1024 := rfl
 have h4 : n / 32 ^ 1 = n / 32 := rfl
 have h5 : n / 32 ^ 0 = n := by show n / 1 = n; omega
 rw [h1, h2, h3, h4, h5]
 congr 6
 have : ((0 + (2 * (4 - ((0 : Nat) : Int)) + 1) * (n % 32) + (2 * (4 - ((1 : Nat) : Int)) + 1) * (n / 32 % 32) + (2 * (4 - ((2 : Nat) : Int)) + 1) * (n / 1024 % 32) + (2 * (4 - ((3 : Nat) : Int)) + 1) * (n / 32768 % 32) + (2 * (4 - ((4 : Nat) : Int)) + 1) * (n / 1048576 % 32)) % 32) = ((n / 1048576 % 32 + 3 * (n / 32768 % 32) + 5 * (n / 1024 % 32) + 7 * (n / 32 % 32) + 9 * (n % 32)) % 32) := by congr 1; omega
 rw [<- this]
theorem Abt {m : Int} (h0 : 0 <= m) (h1 : m < 32) : (List.take (m + 1).toNat [50, 51, 52, 53, 54, 55, 56, 57, 65, 66, 67, 68, 69, 70, 71, 72, 74, 75, 76, 77, 78, 80, 81, 82, 83, 84, 85, 86, 87, 88, 89, 90]).drop m.toNat = [al m] := by
 show (CA.take (m + 1).toNat).drop m.toNat = [al m]
 obtain ⟨k, rfl⟩ := Hz h0
 have hk : k < CA.length := by show k < 32; omega
 rw [show ((k : Int) + 1).toNat = k + 1 by omega, Du, CW hk, List.drop_append_of_le_length (by rw [Bx]; omega), GN (by rw [Bx]; omega)]
 show [CA[k]] = [CA.getD (k : Int).toNat 0]
 rw [Du, AI, AY hk]; rfl
def PF (n : Int) : Prop × V := (0 <= n /\ n <= 33554431, .tup [.str (ofM n), .int .i64 0])
theorem GH (n : Int) : gOf Bm PF [.int .i64 n] = (0 <= n /\ n <= 33554431, .tup [.str (ofM n), .int .i64 0]) := Al Ff n
theorem AjD : PU 113 (gOf Bm PF) := by
 have hG := AH
 refine YD.a Ff (by simp [Bm]) ?_
 rintro n hv C hN Q hQ
 have Z := YD.R EF0 hG hN
 obtain ⟨h0, h1⟩ : 0 <= n /\ n <= 33554431 := hv
 refine Aa (Z 0 rfl ?_)
 simp only [go_sem, simprocAttr, Bm, tNo]
 refine Aa (Aa (Z 1 rfl ?_))
 simp only [go_sem, simprocAttr, tNo]
 and_intros <;> try exact sdA
 refine Ae rfl (fun hb1 => ?_) fun hb1 => ?_
 ·exfalso; simp only [EW, decide_eq_true_eq] at hb1; omega
 refine Af ?_
 refine Aa (Z 3 rfl ?_)
 simp only [go_sem, simprocAttr, tNo]
 refine Aa (Z 4 rfl ?_)
 simp only [go_sem, simprocAttr, tNo]
 refine Aa (Aa (Z 5 rfl ?_))
 simp only [go_sem, simprocAttr, tNo]
 refine Ao ?_
 refine AX (α := Nat × (List UInt8) × Int × Int) (fun γ => (γ.1 <= 5) /\ ((γ.2.1, γ.2.2.1) = ofK n γ.1) /\ (γ.2.2.2 = n / 32 ^ γ.1) /\ (0 <= γ.2.2.2 /\ γ.2.2.2 <= 33554431) /\ (0 <= γ.2.2.1 /\ γ.2.2.1 <= 279 * (γ.1 : Int)) /\ (γ.2.1.length = γ.1)) (fun γ => ⟨mkE [(0, .int .i64 γ.2.2.2), (4, .str γ.2.1), (5, .int .i64 γ.2.2.1), (6, .int .i64 (4 - γ.1))], mkH []⟩) (fun γ => 5 - γ.1) (0, [], 0, n) ⟨by omega, rfl, (by show n = n / 1; omega), ⟨h0, h1⟩, ⟨EZ 0, EZ 0⟩, rfl⟩ ?_ ?_
 ·exact leM
 rintro ⟨k, w, c, q⟩ ⟨hk, hw, hq, hqb, hcb, hwl⟩ KL0 hKL0
 try dsimp only at *
 refine Aa (Aa (Z 6 rfl ?_))
 simp only [go_sem, simprocAttr, tNo]
 refine Ae rfl (fun hc6 => ?_) fun hc6 => ?_
 ·simp only [hcL] at hc6
  have hk5 : k < 5 := by omega
  have hk6 : 4 - (k : Int) - 1 = 4 - ((k + 1 : Nat) : Int) := by omega
  have htm : q.tmod 32 = q % 32 := MM hqb.1
  have htd : q.tdiv 32 = q / 32 := Lt hqb.1
  obtain ⟨m, hm⟩ : ∃ m, m = q % 32 := ⟨_, rfl⟩
  have hmb : 0 <= m /\ m < 32 := by omega
  have hsb := Abt hmb.1 hmb.2
  have hmul : 0 <= (2 * (4 - (k : Int)) + 1) * m /\ (2 * (4 - (k : Int)) + 1) * m <= 279 := ⟨Il (by omega) hmb.1, by have h1 : (2 * (4 - (k : Int)) + 1) * m <= 9 * m := Qa (by omega) hmb.1; omega⟩
  refine Af ?_
  refine Aa (Ao ?_)
  refine Aa (Z 8 rfl ?_)
  simp only [go_sem, simprocAttr, inI, htm, <- hm, hsb, hwl, Ai, Av, Ay, FQ, FR, tNo]
  and_intros <;> try exact sdA
  refine Aa (Z 9 rfl ?_)
  simp only [go_sem, simprocAttr, inI, htm, <- hm, tNo]
  and_intros <;> try exact sdA
  refine Z 10 rfl ?_
  simp only [go_sem, simprocAttr, htd, tNo]
  and_intros <;> try exact sdA
  refine Z 7 rfl ?_
  simp only [go_sem, simprocAttr, inI, tNo]
  and_intros <;> try exact sdA
  refine hKL0 (k + 1, al m :: w, c + (2 * (4 - (k : Int)) + 1) * m, q / 32) _ ?_ ?_ ?_
  ·(try dsimp only); exact ⟨by omega, by rw [ofK, <- hq, <- hm, <- hw], by rw [hq, Oh, Int.ediv_ediv_of_nonneg (Int.le_of_lt (Ud hk5).1)], by omega, by omega, by rw [Av, hwl]⟩
  ·(try dsimp only); omega
  refine Le.mk _ _ ?_ ?_ rfl <;> simp only [go_sem, simprocAttr, hk6] <;> and_intros <;> try exact leA
 simp only [hcL] at hc6
 obtain rfl : k = 5 := by omega
 have hct : c.tmod 32 = c % 32 := MM hcb.1
 obtain ⟨m, hm⟩ : ∃ m, m = c % 32 := ⟨_, rfl⟩
 have hmb : 0 <= m /\ m < 32 := by omega
 have hsb := Abt hmb.1 hmb.2
 have hend := Aid n
 rw [<- hw] at hend
 dsimp only at hend
 rw [<- hm] at hend
 refine AS ?_
 simp only [go_sem, simprocAttr]
 refine Aa (Z 11 rfl ?_)
 simp only [go_sem, simprocAttr, inI, hct, <- hm, hsb, Ai, Av, Ay, hwl, tNo]
 and_intros <;> try exact sdA
 refine Ad (hQ _ _ (.inl rfl) ?_ ?_ ?_) <;> simp only [go_sem, simprocAttr, PF, hend]
def Ga : Tab
 | 112 => (gOf aU8 fVl)
 | 113 => (gOf Bm PF)
 | _ => gNo
theorem Anr : ∀ f, PU f (Ga f) := fun f => by
 unfold Ga
 split
 ·exact AjX
 ·exact AjD
 ·exact Ah.no
theorem AjC : PU 56 (gOf Bh fNp) := by
 have hG := Anr
 refine Aan.a FD (by simp [Bh]) ?_
 rintro s hv C hN Q hQ
 have Z := Aan.R EF0 hG hN
 replace hv : s.length <= 140737488355328 := hv
 refine Aa (Z 0 rfl ?_)
 simp only [go_sem, simprocAttr, Bh, Ga, GH]
 refine Aa (Z 1 rfl ?_)
 simp only [go_sem, simprocAttr, Ga, GH]
 refine Aa (Aa (Z 2 rfl ?_))
 simp only [go_sem, simprocAttr, Ga, GH]
 refine Ao ?_
 refine AX (α := Nat × Int) (fun γ => (γ.1 <= s.length) /\ (γ.1 <= 5) /\ (γ.2 = Jh ((s.take γ.1).map ixA)) /\ ((∀ c ∈ s.take γ.1, 0 <= ixA c)) /\ (0 <= γ.2 /\ γ.2 < 32 ^ γ.1)) (fun γ => ⟨mkE [(0, V.str s), (4, .int .i64 γ.2), (5, .int .i64 γ.1)], mkH []⟩) (fun γ => 5 - γ.1) (0, 0) ⟨by omega, by omega, rfl, (fun c hc => by simp at hc), ⟨by omega, by decide⟩⟩ ?_ ?_
 ·exact leM
 rintro ⟨i, n⟩ ⟨hi, hi5, hn, hall, hnb⟩ KL0 hKL0
 try dsimp only at *
 refine Aa (Aa (Z 3 rfl ?_))
 simp only [go_sem, simprocAttr, Ga, GH]
 and_intros <;> try exact sdA
 refine Ae rfl (fun hb3 => ?_) fun hb3 => ?_
 ·have hb : i < s.length /\ i < 5 := by simp at hb3; omega
  obtain ⟨hp0, hp1⟩ := Ud hb.2
  have hib := JR s[i]
  have hst := AbR hb.1
  refine Af ?_
  refine Aa (Ao ?_)
  refine Aa (Aa (Z 5 rfl ?_))
  simp only [go_sem, simprocAttr, hb.1, Yt hb.1, Ga, GH]
  and_intros <;> try exact sdA
  refine Ae rfl (fun hb5 => ?_) fun hb5 => ?_
  ·have hl := Abx hb.2 hb.1 (by simpa using hb5)
   refine Aa (Z 6 rfl ?_)
   simp only [go_sem, simprocAttr, Ga, GH]
   refine Ad (hQ _ _ (.inl rfl) ?_ ?_ ?_) <;> simp only [go_sem, simprocAttr, fNp, Bp, HE, hl, BV]
  have hv0 : 0 <= ixA s[i] := by simpa using hb5
  refine Af ?_
  refine Z 7 rfl ?_
  simp only [go_sem, simprocAttr, inI, hb.1, Yt hb.1, Ga, GH]
  and_intros <;> try exact sdA
  refine Z 4 rfl ?_
  simp only [go_sem, simprocAttr, inI, Ga, GH]
  and_intros <;> try exact sdA
  refine hKL0 (i + 1, 32 * n + ixA s[i]) _ ?_ ?_ ?_
  ·(try dsimp only); exact ⟨hb.1, hb.2, by rw [hst, <- hn], Iz (p := fun c => 0 <= ixA c) hb.1 hall hv0, ⟨by omega, by rw [Oh]; omega⟩⟩
  ·(try dsimp only); omega
  exact leM
 have hi6 : s.take i = s.take 5 := (by simp only [Qe, decide_eq_false_iff_not] at hb3; by_cases h : i = 5; (rw [h]); (rw [Bu (by omega), Bu (by omega)]))
 rw [hi6] at hn hall
 have hlr := AhB s
 rw [<- hn, Ch.2 (fun c hc => decide_eq_true (hall c hc)), HD] at hlr
 have hp5 : (32 : Int) ^ i <= 33554432 := (by rcases (by omega : i = 0 \/ i = 1 \/ i = 2 \/ i = 3 \/ i = 4 \/ i = 5) with h | h | h | h | h | h <;> rw [h] <;> decide)
 refine AS ?_
 simp only [go_sem, simprocAttr]
 refine Aa (Z 8 rfl ?_)
 simp only [go_sem, simprocAttr, Ga, GH]
 and_intros <;> try exact sdA
 refine Aa (Aa (Z 9 rfl ?_))
 simp only [go_sem, simprocAttr, Ga, GH]
 refine Ae rfl (fun hb9 => ?_) fun hb9 => ?_
 ·have hl : DT s = false := by rw [<- hlr]; simpa using hb9
  refine Aa (Z 10 rfl ?_)
  simp only [go_sem, simprocAttr, Ga, GH]
  refine Ad (hQ _ _ (.inl rfl) ?_ ?_ ?_) <;> simp only [go_sem, simprocAttr, fNp, Bp, HE, hl, BV]
 have hl : DT s = true := by rw [<- hlr]; simpa using hb9
 refine Af ?_
 refine Aa (Z 11 rfl ?_)
 simp only [go_sem, simprocAttr, Ga, GH]
 refine Ad (hQ _ _ (.inl rfl) ?_ ?_ ?_) <;> simp only [go_sem, simprocAttr, fNp, Bp, HE, hl, <- hn]
def OF : Tab
 | 56 => (gOf Bh fNp)
 | _ => gNo
theorem Ann : ∀ f, PU f (OF f) := fun f => by
 unfold OF
 split
 ·exact AjC
 ·exact Ah.no
theorem Ajw : PU 21 (gOf Bh fLc) := by
 have hG := Ann
 refine ZJ.a FD (by simp [Bh]) ?_
 rintro s hv C hN Q hQ
 have Z := ZJ.R EF0 hG hN
 replace hv : s.length <= 140737488355328 := hv
 refine Aa (Z 0 rfl ?_)
 simp only [go_sem, simprocAttr, Bh, OF, Mn, Bp]
 refine Aa (Z 1 rfl ?_)
 simp only [go_sem, simprocAttr, hv, OF, Mn, Bp]
 and_intros <;> try exact sdA
 refine Aa (Z 2 rfl ?_)
 simp only [go_sem, simprocAttr, OF, Mn, Bp]
 refine Ad (hQ _ _ (.inl rfl) ?_ ?_ ?_) <;> simp only [go_sem, simprocAttr, fLc]
 unfold HE; split <;> simp_all
def fbO (nb na : Nat) (g : List Fault) : List (Nat × Ob) := [(nb, .box 121 [.own na g.length]), (na, .arr 126 2 (Ax g))]
theorem Yu {d : Option Nat} {s : St} {K : St -> Prop} {f nb na : Nat} {g g' : List Fault} {xs : List V} {v : V} (he : Eff Tryz.prog UT f (.ptr 1000 0 :: xs) (fbO 1000 1001 g) v (fbO 1000 1001 g')) (hr : ∀ σ, V.rens σ xs = xs) (hn : ∀ D, V.nins D xs = true) (hv : ∀ σ, v.ren σ = v) (hvn : ∀ D, v.nin D = true)
  (hb : s.h nb = some (.box 121 [.own na g.length])) (ha : s.h na = some (.arr 126 2 (Ax g))) (hne : nb ≠ na)
  (hK : K ⟨BX d v s.e, hov (fbO nb na g') s.h⟩) : CX Tryz.prog UT d f (.ptr nb 0 :: xs) s K := by
 have hne2 : na ≠ nb := Ne.symm hne
 refine ⟨[(1000, nb), (1001, na)], [], _, _, _, _, he, ⟨by simp [okL, hne], rfl, rfl, by simp, by simp, ?_, ?_, ?_, hvn _, ?_, ?_⟩, ?_⟩
 ·intro p hp
  simp only [AK, CS, or_false] at hp
  rcases hp with rfl | rfl
  ·exact ⟨_, hb, by simp [fbO, mkH, Ob.ren, BA ((Ms _).2 trivial), V.rens, V.ren, rni, hne2], by simp [Ob.nin, V.nins, V.nin]⟩
  ·exact ⟨_, ha, by simp [fbO, mkH, Ob.ren, BA ((Ms _).2 trivial)], by simp only [Ob.nin, true_or, Ms]⟩
 ·simp only [V.rens, V.ren, hr]; simp [rni]
 ·simp only [V.nins, V.nin, hn]; simp
 ·intro q hq
  simp only [fbO, AK, CS, or_false] at hq
  rcases hq with rfl | rfl
  ·simp [Ob.nin, V.nins, V.nin, fbO]
  ·simp only [Ob.nin, true_or, Ms]
 ·intro p hp o o' h1 h2
  simp only [AK, CS, or_false] at hp
  rcases hp with rfl | rfl <;> simp [fbO, mkH] at h1 h2 <;> subst h1 h2 <;> simp [Ob.kind]
 ·have e2 : (fbO 1000 1001 g').map (fun q => (rn ([(1000, nb), (1001, na)] ++ []) q.1, q.2.ren (rn ([(1000, nb), (1001, na)] ++ [])))) = fbO nb na g' := by
   simp [fbO, rn, Ob.ren, BA ((Ms _).2 trivial), V.rens, V.ren]
  rw [hv, e2]
  exact hK
theorem Agm (g : List Fault) (b : Bool) (e : Int) (pos : List UInt8) (hg : g.length <= 1000000000) : Eff Tryz.prog UT 59 (.ptr 1000 0 :: [.bool b, .int .i64 e, .str pos]) (fbO 1000 1001 g) (.bool b) (fbO 1000 1001 (g ++ fIf b e pos)) := by
 have hG := AH
 obtain ⟨R, hR⟩ : ∃ R, R = g ++ fIf b e pos := ⟨_, rfl⟩
 rw [<- hR]
 refine Aaq.e (by simp) fun C hN Q hQ => ?_
 have Z := Aaq.R EF0 hG hN
 refine Aa (Z 0 rfl ?_)
 simp only [go_sem, simprocAttr, fbO]
 refine Aa ?_
 by_cases hb : b = true
 ·have hfin : R = g ++ [⟨e, pos⟩] := by rw [hR, Dr hb]
  subst hfin hb
  refine Aa (Z 1 rfl ?_)
  simp only [go_sem, simprocAttr, fbO]
  refine IJ rfl ?_
  refine Z 2 rfl ?_
  simp only [go_sem, simprocAttr, fbO]
  and_intros <;> try exact sdA
  refine Aa (Z 3 rfl ?_)
  simp only [go_sem, simprocAttr, fbO]
  refine Ad ?_
  show Q _ _
  refine hQ _ _ ⟨mkE [(8, .bool true)], mkH (fbO 1000 1001 (g ++ [⟨e, pos⟩]))⟩ (.inl rfl) (Le.mk _ _ ?_ ?_ rfl) rfl ?_ ?_ <;> simp only [go_sem, simprocAttr, fbO, Ai, Av, Ay]
 replace hb := ME.2 hb
 have hfin : R = g := by rw [hR, Dq hb, Bl]
 subst hfin hb
 refine Aa (Z 1 rfl ?_)
 simp only [go_sem, simprocAttr, fbO]
 refine Da rfl ?_
 refine Af ?_
 refine Aa (Z 3 rfl ?_)
 simp only [go_sem, simprocAttr, fbO]
 refine Ad ?_
 show Q _ _
 refine hQ _ _ ⟨mkE [(8, .bool false)], mkH (fbO 1000 1001 R)⟩ (.inl rfl) (Le.mk _ _ ?_ ?_ rfl) rfl ?_ ?_ <;> simp only [go_sem, simprocAttr, fbO]
theorem GI {d : Option Nat} {s : St} {K : St -> Prop} {nb na : Nat} {g : List Fault} {b : Bool} {e : Int} {pos : List UInt8} (hg : g.length <= 1000000000)
  (hb : s.h nb = some (.box 121 [.own na g.length])) (ha : s.h na = some (.arr 126 2 (Ax g))) (hne : nb ≠ na)
  (hK : K ⟨BX d (.bool b) s.e, hov (fbO nb na (g ++ fIf b e pos)) s.h⟩) : CX Tryz.prog UT d 59 [.ptr nb 0, .bool b, .int .i64 e, .str pos] s K :=
 Yu (Agm g b e pos hg) (fun σ => by simp [V.rens, V.ren]) (fun D => by simp [V.nins, V.nin]) (fun σ => by simp [V.ren]) (fun D => by simp [V.nin]) hb ha hne hK
def Bi (n : Int) : Bool := decide (0 <= n) && decide (n <= 1099511627776)
theorem OT {n : Int} (h : Bi n = true) : 0 <= n /\ n <= 1099511627776 := by
 unfold Bi at h
 simpa using h
def Nw (n : Int) : Prop × V := (True, .bool (Bi n))
theorem BG (n : Int) : gOf Bm Nw [.int .i64 n] = (True, .bool (Bi n)) := Al Ff n
theorem WZ : PU 64 (gOf Bm Nw) := by
 have hG := AH
 refine Aav.a Ff (by simp [Bm]) ?_
 rintro n hv C hN Q hQ
 have Z := Aav.R EF0 hG hN
 refine Aa (Z 0 rfl ?_)
 simp only [go_sem, simprocAttr, Bm]
 refine Aa (Z 1 rfl ?_)
 simp only [go_sem, simprocAttr]
 and_intros <;> try exact sdA
 refine Ad (hQ _ _ (.inl rfl) ?_ ?_ ?_) <;> simp only [go_sem, simprocAttr, Nw, Bi]
def Fi (n : Int) : Bool := decide (0 <= n) && decide (n < 36525)
def fDy (n : Int) : Prop × V := (True, .bool (Fi n))
theorem Bw (n : Int) : gOf Bm fDy [.int .i64 n] = (True, .bool (Fi n)) := Al Ff n
theorem Ya : PU 35 (gOf Bm fDy) := by
 have hG := AH
 refine Aae.a Ff (by simp [Bm]) ?_
 rintro n hv C hN Q hQ
 have Z := Aae.R EF0 hG hN
 refine Aa (Z 0 rfl ?_)
 simp only [go_sem, simprocAttr, Bm]
 refine Aa (Z 1 rfl ?_)
 simp only [go_sem, simprocAttr]
 and_intros <;> try exact sdA
 refine Ad (hQ _ _ (.inl rfl) ?_ ?_ ?_) <;> simp only [go_sem, simprocAttr, fDy, Fi]
def LU := ao (vl Coupon.enc)
theorem VH : Ij LU := ijo (ijl Coupon.inj)
def FC := ao (vl Charge.enc)
theorem Kr : Ij FC := ijo (ijl Charge.inj)
def fFc (l : List Coupon) : Prop × V := (l.length <= 1000, .list (l.map Coupon.enc) false)
theorem Fj (l : List Coupon) : gOf LU fFc [.list (l.map Coupon.enc) false] = (l.length <= 1000, .list (l.map Coupon.enc) false) := Al VH l
theorem Agw : PU 120 (gOf LU fFc) := by
 have hG := AH
 refine YK.a VH (by simp [LU]) ?_
 rintro l hv C hN Q hQ
 have Z := YK.R EF0 hG hN
 replace hv : l.length <= 1000 := hv
 have hmin : min (l.length : Int) 1024 = l.length := by omega
 have htk : ((l.map Coupon.enc).take ((l.length : Int)).toNat).drop (0 : Int).toNat = l.map Coupon.enc := by rw [Du, show (0 : Int).toNat = 0 from rfl, CT, Bu (by rw [Ac]; exact Az _)]
 refine Aa (Z 0 rfl ?_)
 simp only [go_sem, simprocAttr, LU]
 refine Aa (Z 1 rfl ?_)
 simp only [go_sem, simprocAttr, Ac, hmin, htk, Coupon.rows]
 and_intros <;> try exact sdA
 refine Ad (hQ _ _ (.inl rfl) ?_ ?_ ?_) <;> simp only [go_sem, simprocAttr, fFc]
 rw [Bu (by rw [Ac]; exact Az _)]
def fFh (l : List Charge) : Prop × V := (l.length <= 1000, .list (l.map Charge.enc) false)
theorem Dp (l : List Charge) : gOf FC fFh [.list (l.map Charge.enc) false] = (l.length <= 1000, .list (l.map Charge.enc) false) := Al Kr l
theorem Agx : PU 65 (gOf FC fFh) := by
 have hG := AH
 refine Aaw.a Kr (by simp [FC]) ?_
 rintro l hv C hN Q hQ
 have Z := Aaw.R EF0 hG hN
 replace hv : l.length <= 1000 := hv
 have hmin : min (l.length : Int) 1024 = l.length := by omega
 have htk : ((l.map Charge.enc).take ((l.length : Int)).toNat).drop (0 : Int).toNat = l.map Charge.enc := by rw [Du, show (0 : Int).toNat = 0 from rfl, CT, Bu (by rw [Ac]; exact Az _)]
 refine Aa (Z 0 rfl ?_)
 simp only [go_sem, simprocAttr, FC]
 refine Aa (Z 1 rfl ?_)
 simp only [go_sem, simprocAttr, Ac, hmin, htk, Charge.rows]
 and_intros <;> try exact sdA
 refine Ad (hQ _ _ (.inl rfl) ?_ ?_ ?_) <;> simp only [go_sem, simprocAttr, fFh]
 rw [Bu (by rw [Ac]; exact Az _)]
def Oy : List UInt8 := [99, 111, 117, 112, 111, 110, 115]
def LH : List UInt8 := [99, 111, 117, 112, 111, 110, 115, 46]
def kdB (c : Coupon) : Bool := decide (c.status < 1) || decide (8 < c.status)
def cF (i : Nat) (c : Coupon) : List Fault := fIf (kdB c) 8 (LH ++ dec i) ++ fIf (!EC c.want.cls) 16 (LH ++ dec i) ++ fIf (!Bi c.value) 11 (LH ++ dec i)
def cTo (l : List Coupon) : Nat -> List Fault
 | 0 => []
 | i + 1 => cTo l i ++ cF i (l.getD i Coupon.zero)
def cSz (l : List Coupon) : Bool := decide ((l.length : Int) < 1) || decide (6 < (l.length : Int))
def IL (l : List Coupon) : List Fault := fIf (cSz l) 4 Oy ++ cTo l l.length
def Hf (l : List Coupon) : Nat -> Int
 | 0 => 0
 | i + 1 => if Bi (l.getD i Coupon.zero).value = true then Hf l i + (l.getD i Coupon.zero).value else Hf l i
def cRt (l : List Coupon) : Nat -> Bool
 | 0 => true
 | i + 1 => cRt l i && Bi (l.getD i Coupon.zero).value
theorem Fl (b : Bool) (e : Int) (p : List UInt8) : (fIf b e p).length <= 1 := by unfold fIf; split <;> simp
theorem Ae4 (i : Nat) (c : Coupon) : (cF i c).length <= 3 := by
 unfold cF
 have a1 := Fl (kdB c) 8 (LH ++ dec i)
 have a2 := Fl (!EC c.want.cls) 16 (LH ++ dec i)
 have a3 := Fl (!Bi c.value) 11 (LH ++ dec i)
 simp only [Ai]; omega
theorem Xq (l : List Coupon) : ∀ i, (cTo l i).length <= 3 * i
 | 0 => Az _
 | i + 1 => by have := Xq l i; have := Ae4 i (l.getD i Coupon.zero); rw [cTo, Ai]; omega
theorem BF (n : Int) : PQ [.int .i64 n] = (inI n, .str (dec n)) := rfl
theorem BI (s : List UInt8) : IV [.str s] = (s.length <= 140737488355328, .bool (EC s)) := rfl
def EFf : Nat -> Bool := fun f => f == 59
def EL : Tab
 | 120 => (gOf LU fFc)
 | 66 => PQ
 | 121 => IV
 | 64 => (gOf Bm Nw)
 | _ => gNo
theorem AlJ : ∀ f, PU f (EL f) := fun f => by
 unfold EL
 split
 ·exact Agw
 ·exact Abe
 ·exact Afh
 ·exact WZ
 exact Ah.no
theorem Afx (l : List Coupon) (g : List Fault) (hg : g.length <= 1000) (hl : l.length <= 1000) (hok : ∀ c ∈ l, c.ok) : Eff Tryz.prog UT 63 (.ptr 1000 0 :: [.list (l.map Coupon.enc) false]) (fbO 1000 1001 g) (.tup [.int .i64 (Hf l l.length), .bool (cRt l l.length)]) (fbO 1000 1001 (g ++ IL l)) := by
 have hG := AlJ
 obtain ⟨R, hR⟩ : ∃ R, R = g ++ IL l := ⟨_, rfl⟩
 rw [<- hR]
 obtain ⟨g1, hg1⟩ : ∃ g1, g1 = g ++ fIf (cSz l) 4 Oy := ⟨_, rfl⟩
 have hg1l : g1.length <= 1001 := by rw [hg1, Ai]; have := Fl (cSz l) 4 Oy; omega
 refine Aau.e (by simp) fun C hN Q hQ => ?_
 have Z := Aau.R EFf hG hN
 refine Aa (Z 0 rfl ?_)
 simp only [go_sem, simprocAttr, EL, EFf, fbO, Fj, BF, BI, BG]
 refine Aa (Z 1 rfl ?_)
 simp only [go_sem, simprocAttr, Ac, EL, EFf, fbO, Fj, BF, BI, BG]
 refine GI (g := g) (b := cSz l) (e := 4) (pos := Oy) (by omega) rfl rfl (by decide) ?_
 simp only [go_sem, simprocAttr, fbO]
 rw [<- hg1]
 refine Aa (Z 2 rfl ?_)
 simp only [go_sem, simprocAttr, EL, EFf, fbO, Fj, BF, BI, BG]
 refine Aa (Aa (Z 3 rfl ?_))
 simp only [go_sem, simprocAttr, hl, Ac, EL, EFf, fbO, Fj, BF, BI, BG]
 and_intros <;> try exact sdA
 refine Ao ?_
 refine AX (α := Nat × (List Fault) × Int × Bool) (fun γ => (γ.1 <= l.length) /\ (γ.2.1 = g1 ++ cTo l γ.1) /\ (γ.2.1.length <= g1.length + 3 * γ.1) /\ (γ.2.2.1 = Hf l γ.1) /\ (γ.2.2.2 = cRt l γ.1) /\ (0 <= γ.2.2.1 /\ γ.2.2.1 <= 1099511627776 * (γ.1 : Int))) (fun γ => ⟨mkE [(0, V.ptr 1000 0), (6, .int .i64 γ.2.2.1), (7, .bool γ.2.2.2), (22, V.list (List.map Coupon.enc l) false), (23, V.int IntKind.i64 ↑l.length), (24, .int .i64 γ.1)], mkH [(1000, .box 121 [.own 1001 γ.2.1.length]), (1001, .arr 126 2 (Ax γ.2.1))]⟩) (fun γ => l.length - γ.1) (0, g1, 0, true) ⟨Ar _, by simp [cTo], Az _, rfl, rfl, EZ 0, EZ 0⟩ ?_ ?_
 ·refine Le.mk _ _ ?_ ?_ rfl <;> simp only [go_sem, simprocAttr, <- hg1] <;> and_intros <;> try exact leA
 rintro ⟨i, f, n, r⟩ ⟨hi, hf, hfl, hn, hr, hnb⟩ KL0 hKL0
 try dsimp only at *
 refine Aa (Z 4 rfl ?_)
 simp only [go_sem, simprocAttr, EL, EFf, fbO, Fj, BF, BI, BG]
 refine Aa ?_
 refine Ae rfl (fun hc4 => ?_) fun hc4 => ?_
 ·simp only [hcL] at hc4
  obtain ⟨c, hcc⟩ : ∃ c, c = l[i] := ⟨_, rfl⟩
  have hco : c.ok := hcc ▸ hok _ (AF hc4)
  have hcl : c.want.cls.length <= 140737488355328 := hco.1.2
  have hgd : l.getD i Coupon.zero = c := by rw [AI, AY hc4, hcc]; rfl
  have hst : cTo l (i + 1) = cTo l i ++ cF i c := by rw [cTo, hgd]
  have hss : Hf l (i + 1) = if Bi c.value = true then n + c.value else n := by rw [Hf, hgd, hn]
  have hsr : cRt l (i + 1) = (r && Bi c.value) := by rw [cRt, hgd, hr]
  have hdl := Hj (i := i) (by omega)
  have hii : inI (i : Int) := ⟨by omega, by omega⟩
  refine Af ?_
  refine Aa (Ao ?_)
  refine Aa (Z 5 rfl ?_)
  simp only [go_sem, simprocAttr, Ap _ _ _ _ hc4, hc4, Coupon.enc, <- hcc, Ac, EL, EFf, fbO, Fj, BF, BI, BG]
  and_intros <;> try exact sdA
  refine Aa (Z 6 rfl ?_)
  simp only [go_sem, simprocAttr, inI, hii, EL, EFf, fbO, Fj, BF, BI, BG]
  and_intros <;> (try first | exact sdA | (simp only [Ai, Av, Ay]; omega))
  obtain ⟨pos, hpos⟩ : ∃ pos, pos = LH ++ dec i := ⟨_, rfl⟩
  have hpos2 : 99 :: 111 :: 117 :: 112 :: 111 :: 110 :: 115 :: 46 :: dec (i : Int) = pos := hpos.symm
  have a1 := Fl (kdB c) 8 pos
  have a2 := Fl (!EC c.want.cls) 16 pos
  have a3 := Fl (!Bi c.value) 11 pos
  refine Aa (Z 7 rfl ?_)
  simp only [go_sem, simprocAttr, hpos2, EL, EFf, fbO, Fj, BF, BI, BG]
  refine GI (g := f) (b := kdB c) (e := 8) (pos := pos) (by omega) rfl rfl (by decide) ?_
  simp only [go_sem, simprocAttr, fbO]
  obtain ⟨f1, hf1⟩ : ∃ f1, f1 = f ++ fIf (kdB c) 8 pos := ⟨_, rfl⟩
  have hf1l : f1.length <= f.length + 1 := by rw [hf1, Ai]; omega
  rw [<- hf1]
  refine Aa (Z 8 rfl ?_)
  simp only [go_sem, simprocAttr, hcl, EL, EFf, fbO, Fj, BF, BI, BG]
  refine GI (g := f1) (b := !EC c.want.cls) (e := 16) (pos := pos) (by omega) rfl rfl (by decide) ?_
  simp only [go_sem, simprocAttr, fbO]
  obtain ⟨f2, hf2⟩ : ∃ f2, f2 = f1 ++ fIf (!EC c.want.cls) 16 pos := ⟨_, rfl⟩
  have hf2l : f2.length <= f1.length + 1 := by rw [hf2, Ai]; omega
  rw [<- hf2]
  refine Aa (Aa (Z 9 rfl ?_))
  simp only [go_sem, simprocAttr, EL, EFf, fbO, Fj, BF, BI, BG]
  refine GI (g := f2) (b := !Bi c.value) (e := 11) (pos := pos) (by omega) rfl rfl (by decide) ?_
  simp only [go_sem, simprocAttr, fbO]
  obtain ⟨f3, hf3⟩ : ∃ f3, f3 = f2 ++ fIf (!Bi c.value) 11 pos := ⟨_, rfl⟩
  have hf3l : f3.length <= f2.length + 1 := by rw [hf3, Ai]; omega
  rw [<- hf3]
  have hfin : f3 = g1 ++ cTo l (i + 1) := by rw [hst, hf3, hf2, hf1, hf, hpos, cF]; simp only [Dg]
  refine Ae rfl (fun hb9 => ?_) fun hb9 => ?_
  ·have hab : Bi c.value = false := by simpa using hb9
   refine Aa (Z 10 rfl ?_)
   simp only [go_sem, simprocAttr, EL, EFf, fbO, Fj, BF, BI, BG]
   refine AS ?_
   simp only [go_sem, simprocAttr]
   refine Z 12 rfl ?_
   simp only [go_sem, simprocAttr, inI, EL, EFf, fbO, Fj, BF, BI, BG]
   and_intros <;> try exact sdA
   refine hKL0 (i + 1, f3, n, false) _ ?_ ?_ ?_
   ·(try dsimp only); exact ⟨hc4, hfin, by omega, by rw [hss, if_neg (by rw [hab]; decide)], by rw [hsr, hab, Dh], by omega, by omega⟩
   ·(try dsimp only); omega
   exact leM
  have hab : Bi c.value = true := by simpa using hb9
  have hvb := OT hab
  refine Af ?_
  refine Z 11 rfl ?_
  simp only [go_sem, simprocAttr, inI, EL, EFf, fbO, Fj, BF, BI, BG]
  and_intros <;> try exact sdA
  refine Z 12 rfl ?_
  simp only [go_sem, simprocAttr, inI, EL, EFf, fbO, Fj, BF, BI, BG]
  and_intros <;> try exact sdA
  refine hKL0 (i + 1, f3, n + c.value, r) _ ?_ ?_ ?_
  ·(try dsimp only); exact ⟨hc4, hfin, by omega, by rw [hss, if_pos hab], by rw [hsr, hab, CF], by omega, by omega⟩
  ·(try dsimp only); omega
  exact leM
 simp only [hcL] at hc4
 obtain rfl : i = l.length := by omega
 have hRf : R = f := by rw [hR, hf, hg1, IL, Dg]
 subst hRf
 refine AS ?_
 simp only [go_sem, simprocAttr]
 refine Aa (Z 13 rfl ?_)
 simp only [go_sem, simprocAttr, EL, EFf, fbO, Fj, BF, BI, BG]
 refine Ad ?_
 show Q _ _
 refine hQ _ _ ⟨mkE [(4, .int .i64 n), (5, .bool r)], mkH (fbO 1000 1001 R)⟩ (.inl rfl) (Le.mk _ _ ?_ ?_ rfl) rfl ?_ ?_ <;> simp only [go_sem, simprocAttr, fbO, hn, hr]
theorem AfF {d : Option Nat} {s : St} {K : St -> Prop} {nb na : Nat} {g : List Fault} {l : List Coupon} (hg : g.length <= 1000) (hl : l.length <= 1000) (hok : ∀ c ∈ l, c.ok)
  (hb : s.h nb = some (.box 121 [.own na g.length])) (ha : s.h na = some (.arr 126 2 (Ax g))) (hne : nb ≠ na)
  (hK : K ⟨BX d (.tup [.int .i64 (Hf l l.length), .bool (cRt l l.length)]) s.e, hov (fbO nb na (g ++ IL l)) s.h⟩) : CX Tryz.prog UT d 63 [.ptr nb 0, .list (l.map Coupon.enc) false] s K :=
 Yu (Afx l g hg hl hok) (fun σ => by simp [V.rens, V.ren]) (fun D => by simp [V.nins, V.nin]) (fun σ => by simp [V.ren, V.rens]) (fun D => by simp [V.nin, V.nins]) hb ha hne hK
def UB : List UInt8 := [110, 117, 109, 98, 101, 114]
def QK : List UInt8 := [108, 111, 99, 97, 116, 111, 114]
def QN : List UInt8 := [112, 101, 114, 115, 111, 110]
def Jn : List UInt8 := [102, 97, 114, 101]
def QQ : List UInt8 := [116, 97, 120, 101, 115, 46]
def QR : List UInt8 := [116, 111, 116, 97, 108]
def UA : List UInt8 := [105, 115, 115, 117, 101, 100]
def LC (p : Person) : Bool := !GU p.last || !GU p.first || !Db p.type 3 3
def tTo (l : List Charge) : Nat -> List Fault
 | 0 => []
 | i + 1 => tTo l i ++ fIf (!Bi (l.getD i Charge.zero).amount) 11 (QQ ++ dec i)
def FB (l : List Charge) : Nat -> Int
 | 0 => 0
 | i + 1 => if Bi (l.getD i Charge.zero).amount = true then FB l i + (l.getD i Charge.zero).amount else FB l i
def tRt (l : List Charge) : Nat -> Bool
 | 0 => true
 | i + 1 => tRt l i && Bi (l.getD i Charge.zero).amount
def JK (t : Ticket) : Bool := Bi t.fare && cRt t.coupons t.coupons.length && !decide (Hf t.coupons t.coupons.length = t.fare)
def OE (t : Ticket) : Bool := Bi t.fare && tRt t.taxes t.taxes.length && !decide (t.fare + FB t.taxes t.taxes.length = t.total)
def HU (t : Ticket) : List Fault := fIf (!Dv t.number) 2 UB ++ fIf (!DT t.locator) 5 QK ++ fIf (LC t.person) 5 QN ++ IL t.coupons ++ fIf (!Bi t.fare) 11 Jn ++ fIf (JK t) 36 Jn ++ tTo t.taxes t.taxes.length ++ fIf (OE t) 36 QR ++ fIf (!Fi t.issued) 12 UA
def HP (t : Ticket) : Prop := t.ok /\ t.coupons.length <= 100 /\ t.taxes.length <= 100
def aTk := ao (vg Ticket.enc)
theorem RI : Ij aTk := ijo (ijg Ticket.inj)
def KU (t : Ticket) : Prop × V := (HP t, .list (Ax (HU t)) false)
theorem AdE (l : List Charge) : ∀ i, 0 <= FB l i /\ FB l i <= 1099511627776 * (i : Int)
 | 0 => by simp [FB]
 | i + 1 => by
  have ih := AdE l i
  rw [FB]
  split
  ·rename_i h; have := OT h; omega
  ·omega
theorem Aow {n : Int} (h : inI n) : wr n = n := by
 unfold wr inI at *
 rw [IntKind.wrap_i64]; omega
def Bb (t : Ticket) : List V := [.int .i64 t.number, .str t.locator, .str t.person.last, .str t.person.first, .str t.person.type, .list (t.coupons.map Coupon.enc) false, .int .i64 t.fare, .list (t.taxes.map Charge.enc) false, .int .i64 t.total, .int .i64 t.issued]
def EFc : Nat -> Bool := fun f => f == 59 || f == 63
def tCh : Tab
 | 34 => (gOf Bm IT)
 | 60 => (gOf Bh fLc)
 | 61 => (gOf Bh Gj)
 | 62 => BC
 | 64 => (gOf Bm Nw)
 | 65 => (gOf FC fFh)
 | 66 => PQ
 | 35 => (gOf Bm fDy)
 | _ => gNo
theorem AlA : ∀ f, PU f (tCh f) := fun f => by
 unfold tCh
 split
 ·exact AbN
 ·exact AhC
 ·exact Ah3
 ·exact Aft
 ·exact WZ
 ·exact Agx
 ·exact Abe
 ·exact Ya
 ·exact Ah.no
theorem Xv : PU 24 (gOf aTk KU) := by
 have hG := AlA
 refine ZT.a RI (by simp [aTk]) ?_
 rintro t hv C hN Q hQ
 have Z := ZT.R EFc hG hN
 obtain ⟨hok, hcl, htl⟩ : HP t := hv
 have hoc := hok.2.2.2.1
 have hnum : inI t.number := hok.1
 have hloc : t.locator.length <= 140737488355328 := hok.2.1
 obtain ⟨hp1, hp2, hp3⟩ : t.person.last.length <= 140737488355328 /\ t.person.first.length <= 140737488355328 /\ t.person.type.length <= 140737488355328 := hok.2.2.1
 refine Aa (Z 0 rfl ?_)
 simp only [go_sem, simprocAttr, aTk, Ticket.enc, tCh, EFc, AN, Bn, Bo, AG, BG, Dp, BF, Bw, imp_self, and_true, true_and]
 refine Aa (Z 1 rfl ?_)
 simp only [go_sem, simprocAttr, tCh, EFc, AN, Bn, Bo, AG, BG, Dp, BF, Bw, imp_self, and_true, true_and]
 refine AW.le (s' := ⟨mkE [(1, .ptr 1 0), (3, .ptr 11 0)], mkH ([(1, .box 47 (Bb t)), (11, .box 121 [.own 999 0]), (999, .arr 126 2 (Ax []))])⟩) (Le.mk _ _ (by (simp only [go_sem, simprocAttr, Bb]) <;> and_intros <;> try exact leB) (by (simp only [go_sem, simprocAttr, Bb]) <;> and_intros <;> try exact leB) rfl) ?_
 simp only [Bb]
 refine Aa (Z 2 rfl ?_)
 simp only [go_sem, simprocAttr, hnum, tCh, EFc, AN, Bn, Bo, AG, BG, Dp, BF, Bw, imp_self, and_true, true_and]
 refine GI (g := []) (b := !Dv t.number) (e := 2) (pos := UB) (by simp) rfl rfl (by decide) ?_
 simp only [go_sem, simprocAttr, fbO]
 obtain ⟨g1, hg1⟩ : ∃ g1, g1 = fIf (!Dv t.number) 2 UB := ⟨_, rfl⟩
 have hl1 : g1.length <= 1 := by rw [hg1]; exact Fl _ _ _
 rw [<- hg1]
 refine Aa (Z 3 rfl ?_)
 simp only [go_sem, simprocAttr, hloc, tCh, EFc, AN, Bn, Bo, AG, BG, Dp, BF, Bw, imp_self, and_true, true_and]
 refine GI (g := g1) (b := !DT t.locator) (e := 5) (pos := QK) (by omega) rfl rfl (by decide) ?_
 simp only [go_sem, simprocAttr, fbO]
 obtain ⟨g2, hg2⟩ : ∃ g2, g2 = g1 ++ fIf (!DT t.locator) 5 QK := ⟨_, rfl⟩
 have hl2 : g2.length <= 2 := by have := Fl (!DT t.locator) 5 QK; rw [hg2, Ai]; omega
 rw [<- hg2]
 refine Aa (Z 4 rfl ?_)
 simp only [go_sem, simprocAttr, hp1, hp2, hp3, tCh, EFc, AN, Bn, Bo, AG, BG, Dp, BF, Bw, imp_self, and_true, true_and]
 refine GI (g := g2) (b := LC t.person) (e := 5) (pos := QN) (by omega) rfl rfl (by decide) ?_
 simp only [go_sem, simprocAttr, fbO]
 obtain ⟨g3, hg3⟩ : ∃ g3, g3 = g2 ++ fIf (LC t.person) 5 QN := ⟨_, rfl⟩
 have hl3 : g3.length <= 3 := by have := Fl (LC t.person) 5 QN; rw [hg3, Ai]; omega
 rw [<- hg3]
 refine Aa (Z 5 rfl ?_)
 simp only [go_sem, simprocAttr, tCh, EFc, AN, Bn, Bo, AG, BG, Dp, BF, Bw, imp_self, and_true, true_and]
 refine AfF (g := g3) (l := t.coupons) (by omega) (by omega) hoc.2 rfl rfl (by decide) ?_
 simp only [go_sem, simprocAttr, fbO]
 obtain ⟨g4, hg4⟩ : ∃ g4, g4 = g3 ++ IL t.coupons := ⟨_, rfl⟩
 have hl4 : g4.length <= 400 := by have h1 := Fl (cSz t.coupons) 4 Oy; have h2 := Xq t.coupons t.coupons.length; rw [hg4, Ai, IL, Ai]; omega
 rw [<- hg4]
 obtain ⟨n, hn⟩ : ∃ n, n = Hf t.coupons t.coupons.length := ⟨_, rfl⟩
 obtain ⟨r, hr⟩ : ∃ r, r = cRt t.coupons t.coupons.length := ⟨_, rfl⟩
 rw [<- hn, <- hr]
 obtain ⟨g5, hg5⟩ : ∃ g5, g5 = g4 ++ fIf (!Bi t.fare) 11 Jn := ⟨_, rfl⟩
 have hl5 : g5.length <= 401 := by have := Fl (!Bi t.fare) 11 Jn; rw [hg5, Ai]; omega
 refine Aa (Z 6 rfl ?_)
 simp only [go_sem, simprocAttr, tCh, EFc, AN, Bn, Bo, AG, BG, Dp, BF, Bw, imp_self, and_true, true_and]
 refine Dw (α := (List Fault) × Bool) (fun γ => (γ.1 = g5 ++ fIf (JK t) 36 Jn) /\ (γ.2 = Bi t.fare) /\ (γ.1.length <= 402)) (fun γ => ⟨mkE [(1, V.ptr 1 0), (3, V.ptr 11 0), (6, .bool γ.2)], mkH [(1, Ob.box 47 [V.int IntKind.i64 t.number, V.str t.locator, V.str t.person.last, V.str t.person.first, V.str t.person.type, V.list (List.map Coupon.enc t.coupons) false, V.int IntKind.i64 t.fare, V.list (List.map Charge.enc t.taxes) false, V.int IntKind.i64 t.total, V.int IntKind.i64 t.issued]), (11, .box 121 [.own 999 γ.1.length]), (999, .arr 126 2 (Ax γ.1))]⟩) ?_ ?_
 ·intro KC7 hKC7
  refine Aa (Z 7 rfl ?_)
  simp only [go_sem, simprocAttr, tCh, EFc, AN, Bn, Bo, AG, BG, Dp, BF, Bw, imp_self, and_true, true_and]
  refine GI (g := g4) (b := !Bi t.fare) (e := 11) (pos := Jn) (by omega) rfl rfl (by decide) ?_
  simp only [go_sem, simprocAttr, fbO]
  rw [<- hg5]
  refine Ae rfl (fun hb7 => ?_) fun hb7 => ?_
  ·have hab : Bi t.fare = false := by simpa using hb7
   have hfb : JK t = false := by unfold JK; rw [hab]; rfl
   refine Z 8 rfl ?_
   simp only [go_sem, simprocAttr, tCh, EFc, AN, Bn, Bo, AG, BG, Dp, BF, Bw, imp_self, and_true, true_and]
   refine hKC7 (g5, false) _ ?_ ?_
   ·(try dsimp only); exact ⟨by rw [Dq hfb, Bl], hab.symm, by omega⟩
   exact leM
  have hab : Bi t.fare = true := by simpa using hb7
  have hfb : JK t = (r && !decide (n = t.fare)) := by unfold JK; rw [hab, HD, hn, hr]
  refine Z 9 rfl ?_
  simp only [go_sem, simprocAttr, tCh, EFc, AN, Bn, Bo, AG, BG, Dp, BF, Bw, imp_self, and_true, true_and]
  refine GI (g := g5) (b := r && !decide (n = t.fare)) (e := 36) (pos := Jn) (by omega) rfl rfl (by decide) ?_
  simp only [go_sem, simprocAttr, fbO]
  refine hKC7 (g5 ++ fIf (r && !decide (n = t.fare)) 36 Jn, true) _ ?_ ?_
  ·(try dsimp only); exact ⟨by rw [hfb], hab.symm, by have := Fl (r && !decide (n = t.fare)) 36 Jn; rw [Ai]; omega⟩
  exact leM
 rintro ⟨g6, w⟩ ⟨hg6, hw, hl6⟩
 try dsimp only at *
 have hnb : inI t.fare := hok.2.2.2.2.1
 refine Aa (Z 10 rfl ?_)
 simp only [go_sem, simprocAttr, tCh, EFc, AN, Bn, Bo, AG, BG, Dp, BF, Bw, imp_self, and_true, true_and]
 refine Aa (Aa (Z 11 rfl ?_))
 simp only [go_sem, simprocAttr, (show t.taxes.length <= 1000 by omega), Ac, tCh, EFc, AN, Bn, Bo, AG, BG, Dp, BF, Bw, imp_self, and_true, true_and]
 and_intros <;> try exact sdA
 refine Ao ?_
 refine AX (α := Nat × (List Fault) × Bool × Int) (fun γ => (γ.1 <= t.taxes.length) /\ (γ.2.1 = g6 ++ tTo t.taxes γ.1) /\ (γ.2.1.length <= g6.length + γ.1) /\ (γ.2.2.1 = and (Bi t.fare) (tRt t.taxes γ.1)) /\ ((Bi t.fare = true -> γ.2.2.2 = t.fare + FB t.taxes γ.1))) (fun γ => ⟨mkE [(1, V.ptr 1 0), (3, V.ptr 11 0), (6, .bool γ.2.2.1), (7, .int .i64 γ.2.2.2), (71, V.list (List.map Charge.enc t.taxes) false), (72, V.int IntKind.i64 ↑t.taxes.length), (73, .int .i64 γ.1)], mkH [(1, Ob.box 47 [V.int IntKind.i64 t.number, V.str t.locator, V.str t.person.last, V.str t.person.first, V.str t.person.type, V.list (List.map Coupon.enc t.coupons) false, V.int IntKind.i64 t.fare, V.list (List.map Charge.enc t.taxes) false, V.int IntKind.i64 t.total, V.int IntKind.i64 t.issued]), (11, .box 121 [.own 999 γ.2.1.length]), (999, .arr 126 2 (Ax γ.2.1))]⟩) (fun γ => t.taxes.length - γ.1) (0, g6, w, t.fare) ⟨Ar _, by simp [tTo], Az _, by rw [hw, tRt, CF], fun _ => by simp [FB]⟩ ?_ ?_
 ·exact leM
 rintro ⟨i, f, w2, sm⟩ ⟨hi, hf, hfl, hw2, hsm⟩ KL0 hKL0
 try dsimp only at *
 refine Aa (Z 12 rfl ?_)
 simp only [go_sem, simprocAttr, tCh, EFc, AN, Bn, Bo, AG, BG, Dp, BF, Bw, imp_self, and_true, true_and]
 refine Aa ?_
 refine Ae rfl (fun hc12 => ?_) fun hc12 => ?_
 ·simp only [hcL] at hc12
  obtain ⟨x, hxx⟩ : ∃ x, x = t.taxes[i] := ⟨_, rfl⟩
  have hgd : t.taxes.getD i Charge.zero = x := by rw [AI, AY hc12, hxx]; rfl
  have hst : tTo t.taxes (i + 1) = tTo t.taxes i ++ fIf (!Bi x.amount) 11 (QQ ++ dec i) := by rw [tTo, hgd]
  have hss : FB t.taxes (i + 1) = if Bi x.amount = true then FB t.taxes i + x.amount else FB t.taxes i := by rw [FB, hgd]
  have hsr : tRt t.taxes (i + 1) = (tRt t.taxes i && Bi x.amount) := by rw [tRt, hgd]
  have hdl := Hj (i := i) (by omega)
  have hii : inI (i : Int) := ⟨by omega, by omega⟩
  have htb := AdE t.taxes i
  refine Af ?_
  refine Aa (Ao ?_)
  refine Aa (Z 13 rfl ?_)
  simp only [go_sem, simprocAttr, Ap _ _ _ _ hc12, hc12, Charge.enc, <- hxx, Ac, tCh, EFc, AN, Bn, Bo, AG, BG, Dp, BF, Bw, imp_self, and_true, true_and]
  and_intros <;> try exact sdA
  refine Aa ?_
  obtain ⟨pos, hpos⟩ : ∃ pos, pos = QQ ++ dec i := ⟨_, rfl⟩
  have hpos2 : 116 :: 97 :: 120 :: 101 :: 115 :: 46 :: dec (i : Int) = pos := hpos.symm
  have hposl : pos.length <= 27 := by rw [hpos, Ai]; have : QQ.length = 6 := rfl; omega
  refine Aa (Z 14 rfl ?_)
  simp only [go_sem, simprocAttr, inI, hii, hpos2, tCh, EFc, AN, Bn, Bo, AG, BG, Dp, BF, Bw, imp_self, and_true, true_and]
  refine ⟨hii, by omega, ?_⟩
  refine GI (g := f) (b := !Bi x.amount) (e := 11) (pos := pos) (by omega) rfl rfl (by decide) ?_
  simp only [go_sem, simprocAttr, fbO]
  obtain ⟨f1, hf1⟩ : ∃ f1, f1 = f ++ fIf (!Bi x.amount) 11 pos := ⟨_, rfl⟩
  have hf1l : f1.length <= f.length + 1 := by have := Fl (!Bi x.amount) 11 pos; rw [hf1, Ai]; omega
  rw [<- hf1]
  have hfin : f1 = g6 ++ tTo t.taxes (i + 1) := by rw [hst, hf1, hf, hpos, Dg]
  refine Ae rfl (fun hb14 => ?_) fun hb14 => ?_
  ·have hab : Bi x.amount = false := by simpa using hb14
   refine Aa (Z 15 rfl ?_)
   simp only [go_sem, simprocAttr, tCh, EFc, AN, Bn, Bo, AG, BG, Dp, BF, Bw, imp_self, and_true, true_and]
   refine AS ?_
   simp only [go_sem, simprocAttr]
   refine Z 17 rfl ?_
   simp only [go_sem, simprocAttr, inI, tCh, EFc, AN, Bn, Bo, AG, BG, Dp, BF, Bw, imp_self, and_true, true_and]
   and_intros <;> try exact sdA
   refine hKL0 (i + 1, f1, false, sm) _ ?_ ?_ ?_
   ·(try dsimp only); exact ⟨hc12, hfin, by omega, by rw [hsr, hab, Dh, Dh], fun h => by rw [hss, if_neg (by rw [hab]; decide)]; exact hsm h⟩
   ·(try dsimp only); omega
   exact leM
  have hab : Bi x.amount = true := by simpa using hb14
  have hvb := OT hab
  refine Af ?_
  refine OY (EF := EFc) hG (by rw [hN]; exact Am1) ?_
  simp only [VC, go_sem, simprocAttr, inI, tCh, EFc, AN, Bn, Bo, AG, BG, Dp, BF, Bw, imp_self, and_true, true_and]
  and_intros <;> try exact sdA
  refine Z 17 rfl ?_
  simp only [go_sem, simprocAttr, inI, tCh, EFc, AN, Bn, Bo, AG, BG, Dp, BF, Bw, imp_self, and_true, true_and]
  and_intros <;> try exact sdA
  refine hKL0 (i + 1, f1, w2, wr (sm + x.amount)) _ ?_ ?_ ?_
  ·(try dsimp only); exact ⟨hc12, hfin, by omega, by rw [hsr, hab, CF]; exact hw2, fun h => by have h1 := OT h; rw [hss, if_pos hab, hsm h, Aow (by unfold inI; omega)]; omega⟩
  ·(try dsimp only); omega
  exact leM
 simp only [hcL] at hc12
 obtain rfl : i = t.taxes.length := by omega
 have htb2 : OE t = (w2 && !decide (sm = t.total)) := by (unfold OE; rw [<- hw2]; cases h : w2 with | false => rfl | true => (rw [h] at hw2; have ha : Bi t.fare = true := (by have h3 := hw2.symm; rw [By] at h3; exact h3.1); rw [hsm ha]))
 refine AS ?_
 simp only [go_sem, simprocAttr]
 refine Aa (Z 18 rfl ?_)
 simp only [go_sem, simprocAttr, tCh, EFc, AN, Bn, Bo, AG, BG, Dp, BF, Bw, imp_self, and_true, true_and]
 refine GI (g := f) (b := w2 && !decide (sm = t.total)) (e := 36) (pos := QR) (by omega) rfl rfl (by decide) ?_
 simp only [go_sem, simprocAttr, fbO]
 obtain ⟨f2, hf2⟩ : ∃ f2, f2 = f ++ fIf (w2 && !decide (sm = t.total)) 36 QR := ⟨_, rfl⟩
 have hf2l : f2.length <= f.length + 1 := by have := Fl (w2 && !decide (sm = t.total)) 36 QR; rw [hf2, Ai]; omega
 rw [<- hf2]
 refine Aa (Z 19 rfl ?_)
 simp only [go_sem, simprocAttr, tCh, EFc, AN, Bn, Bo, AG, BG, Dp, BF, Bw, imp_self, and_true, true_and]
 refine GI (g := f2) (b := !Fi t.issued) (e := 12) (pos := UA) (by omega) rfl rfl (by decide) ?_
 simp only [go_sem, simprocAttr, fbO]
 obtain ⟨f3, hf3⟩ : ∃ f3, f3 = f2 ++ fIf (!Fi t.issued) 12 UA := ⟨_, rfl⟩
 rw [<- hf3]
 have hend : f3 = HU t := by rw [hf3, hf2, hf, hg6, hg5, hg4, hg3, hg2, hg1, <- htb2]; unfold HU; simp only [Dg]
 refine Aa (Z 20 rfl ?_)
 simp only [go_sem, simprocAttr, tCh, EFc, AN, Bn, Bo, AG, BG, Dp, BF, Bw, imp_self, and_true, true_and]
 refine AW.le (s' := ⟨mkE [(2, .list (Ax f3) false)], mkH []⟩) (Le.mk _ _ ?_ ?_ rfl) (Ad (hQ _ _ (.inl rfl) ?_ ?_ ?_)) <;> simp only [go_sem, simprocAttr, KU, hend]
 exact DO rfl (by rw [Fo]) rfl (Gp _)
theorem Afj (l : List Coupon) (h0 : l ≠ []) (hl : l.length <= 1000000) : Eff Tryz.prog UT 39 [.list (l.map Coupon.enc) false] [] (.own 5 l.length) [(5, .arr 57 11 (l.map Coupon.enc))] := by
 have hG := AH
 have hne : l.map Coupon.enc ≠ [] := fun e => h0 (Qf.1 e)
 refine Aag.e (by simp) fun C hN Q hQ => ?_
 have Z := Aag.R EF0 hG hN
 refine Aa (Z 0 rfl ?_)
 simp only [go_sem, simprocAttr]
 refine Aa (Aa (Z 1 rfl ?_))
 simp only [go_sem, simprocAttr, hne]
 refine Da rfl ?_
 refine Af ?_
 refine Aa (Z 3 rfl ?_)
 simp only [go_sem, simprocAttr]
 and_intros <;> try exact sdA
 refine Ad ?_
 show Q _ _
 refine hQ _ _ ⟨mkE [(2, .own 5 l.length)], mkH ([(5, .arr 57 11 (l.map Coupon.enc))])⟩ (.inl rfl) (Le.mk _ _ ?_ ?_ rfl) rfl ?_ ?_ <;> simp only [go_sem, simprocAttr, Ac]
theorem Afk {d : Option Nat} {s : St} {K : St -> Prop} (nn : Nat) {l : List Coupon} (h0 : l ≠ []) (hl : l.length <= 1000000) (hn : s.h nn = none) (h1 : nn < 1000) (hK : K ⟨BX d (.own nn l.length) s.e, hov [(nn, .arr 57 11 (l.map Coupon.enc))] s.h⟩) : CX Tryz.prog UT d 39 [.list (l.map Coupon.enc) false] s K := by
 refine ⟨[], [(5, nn)], _, _, _, _, Afj l h0 hl, ⟨by simp [okL], rfl, rfl, by simp, ?_, by simp, by simp [V.rens, V.ren], by simp [V.nins, V.nin], by simp [V.nin], ?_, by simp⟩, ?_⟩
 ·intro p hp
  simp only [AK, CS, or_false] at hp
  subst hp; exact ⟨hn, h1⟩
 ·intro q hq
  simp only [AK, CS, or_false] at hq
  subst hq; simp only [Ob.nin, true_or, Coupon.purs]
 ·have e1 : (V.own 5 l.length).ren (rn ([] ++ [(5, nn)])) = .own nn l.length := by simp [V.ren, rn]
  have e2 : [((5, .arr 57 11 (l.map Coupon.enc)) : Nat × Ob)].map (fun q : Nat × Ob => (rn ([] ++ [(5, nn)]) q.1, q.2.ren (rn ([] ++ [(5, nn)])))) = [(nn, .arr 57 11 (l.map Coupon.enc))] := by simp [rn, Ob.ren, BA ((Coupon.purs _).2 trivial)]
  rw [e1, e2]; exact hK
theorem Rg {h : Nat -> Option Ob} {hl : List (Nat × Ob)} {n len : Nat} {rows R : List (List V)} {t : TypeId} {sz : Nat} (hn : h n = some (.arr t sz rows)) (hm : rows.length = len) (h' : mkH hl n = none) (hp : ∀ r ∈ rows, V.purs r = true) (hR : rows = R) : Wk h hl (.own n len) (.list R false) := by
 subst hm hR; exact .frz n t sz rows hn h' hp
def Ha : List Coupon -> Int
 | [] => 0
 | c :: l => if (DN c.status).2 = 0 then Ha l else (DN c.status).2
def vUp (c : Coupon) : Coupon := ⟨c.want, c.basis, (DN c.status).1, c.value⟩
theorem AnM {l : List Coupon} {i : Nat} (h : i < l.length) : Ha (l.drop i) = if (DN l[i].status).2 = 0 then Ha (l.drop (i + 1)) else (DN l[i].status).2 := by rw [DS h, Ha]
def vTk (t : Ticket) (l : List Coupon) : Ticket := ⟨t.number, t.locator, t.person, l, t.fare, t.taxes, t.total, t.issued⟩
def GC (t : Ticket) (d : Int) : Ticket × Int := if t.coupons = [] then (Ticket.zero, 2) else if d ≠ t.issued then (Ticket.zero, 26) else if Ha t.coupons = 0 then (vTk t (t.coupons.map vUp), 0) else (Ticket.zero, Ha t.coupons)
def tkV (y : Ticket × Int) : V := .tup [.agg (Bb y.1), .int .i64 y.2]
def aVd := ar (vg Ticket.enc) (ao vi)
theorem RJ : Ij aVd := ijr (ijg Ticket.inj) (ijo iji)
def fVd (x : Ticket × Int) : Prop × V := (HP x.1, tkV (GC x.1 x.2))
def vG (l : List Coupon) (i : Nat) : List Coupon := (l.take i).map vUp ++ l.drop i
theorem OG (l : List Coupon) (i : Nat) : (vG l i).length = l.length := by unfold vG; simp; omega
theorem AnO {l : List Coupon} {i : Nat} (h : i < l.length) : (vG l i)[i]'(by rw [OG]; exact h) = l[i] := by
 unfold vG
 rw [List.getElem_append_right (by simp; omega)]
 simp [Nat.min_eq_left (Nat.le_of_lt h)]
theorem AnQ {l : List Coupon} {i : Nat} (h : i < l.length) : (vG l i).set i (vUp l[i]) = vG l (i + 1) := by
 unfold vG
 have e : i - ((l.take i).map vUp).length = 0 := by simp; omega
 rw [Qd _ _ (by simp; omega), e, CW h, DC, Dg, DS h]; rfl
theorem AnN (l : List Coupon) : vG l l.length = l.map vUp := by unfold vG; simp
theorem AnP {l : List Coupon} {i : Nat} (h : i < l.length) (r : List V) (hr : r = (vUp l[i]).enc) : ((vG l i).map Coupon.enc).set i r = (vG l (i + 1)).map Coupon.enc := by
 rw [hr, <- JW, AnQ h]
def EFv : Nat -> Bool := fun f => f == 39
def tVd : Tab
 | 38 => (gOf CK fVn)
 | _ => gNo
theorem Amu : ∀ f, PU f (tVd f) := fun f => by
 unfold tVd
 split
 ·exact AnV
 ·exact Ah.no
theorem AnW : PU 44 (gOf aVd fVd) := by
 have hG := Amu
 refine Aai.a RJ (by simp [aVd]) ?_
 rintro ⟨t, d⟩ hv C hN Q hQ
 have Z := Aai.R EFv hG hN
 have hTk : HP t := hv
 obtain ⟨hok, hcl, htl⟩ := id hTk
 refine Aa (Z 0 rfl ?_)
 simp only [go_sem, simprocAttr, aVd, Ticket.enc, tVd, EFv, Fn, Bp]
 refine Aa (Ao ?_)
 refine AW.le (s' := ⟨mkE [(1, .int .i64 d), (2, .ptr 2 0), (4, .ptr 4 0), (5, .int .i64 0)], mkH ([(2, .box 47 (Bb t)), (4, .box 47 (Bb Ticket.zero))])⟩) (Le.mk _ _ (by (simp only [go_sem, simprocAttr, Bb, Ticket.zero, Ticket.enc]) <;> and_intros <;> try exact leB) (by (simp only [go_sem, simprocAttr, Bb, Ticket.zero, Ticket.enc]) <;> and_intros <;> try exact leB) rfl) ?_
 simp only [Bb]
 refine Aa (Z 1 rfl ?_)
 simp only [go_sem, simprocAttr, Ac, tVd, EFv, Fn, Bp]
 refine Ae rfl (fun hb1 => ?_) fun hb1 => ?_
 ·have hm : GC t d = (Ticket.zero, 2) := by unfold GC; rw [if_pos (Hy.1 (by simpa using hb1))]
  refine Aa (Z 2 rfl ?_)
  simp only [go_sem, simprocAttr, tVd, EFv, Fn, Bp]
  refine AW.le (s' := ⟨mkE [(4, .ptr 4 0), (5, .int .i64 2)], mkH [(4, .box 47 (Bb Ticket.zero))]⟩) (Le.mk _ _ ?_ ?_ rfl) (Ad (hQ _ _ (.inl rfl) ?_ ?_ ?_)) <;> simp only [go_sem, simprocAttr, Bb, Ticket.zero, Person.zero, fVd, tkV, hm]
 have hne : t.coupons ≠ [] := fun e => by simp [e] at hb1
 refine Aa (Z 3 rfl ?_)
 simp only [go_sem, simprocAttr, tVd, EFv, Fn, Bp]
 refine Ae rfl (fun hb3 => ?_) fun hb3 => ?_
 ·have hm : GC t d = (Ticket.zero, 26) := by unfold GC; rw [if_neg hne, if_pos (by simpa using hb3)]
  refine Aa (Z 4 rfl ?_)
  simp only [go_sem, simprocAttr, tVd, EFv, Fn, Bp]
  refine AW.le (s' := ⟨mkE [(4, .ptr 4 0), (5, .int .i64 26)], mkH [(4, .box 47 (Bb Ticket.zero))]⟩) (Le.mk _ _ ?_ ?_ rfl) (Ad (hQ _ _ (.inl rfl) ?_ ?_ ?_)) <;> simp only [go_sem, simprocAttr, Bb, Ticket.zero, Person.zero, fVd, tkV, hm]
 have hd : ¬ d ≠ t.issued := by simpa using hb3
 refine Af ?_
 refine Aa (Z 5 rfl ?_)
 simp only [go_sem, simprocAttr, tVd, EFv, Fn, Bp]
 refine Afk 18 hne (by omega) rfl (by decide) ?_
 simp only [go_sem, simprocAttr]
 refine Aa (Aa (Z 6 rfl ?_))
 simp only [go_sem, simprocAttr, tVd, EFv, Fn, Bp]
 refine Ao ?_
 refine AX (α := Nat) (fun i => (i <= t.coupons.length) /\ (Ha t.coupons = Ha (t.coupons.drop i))) (fun i => ⟨mkE [(2, V.ptr 2 0), (4, V.ptr 4 0), (27, V.own 18 t.coupons.length), (28, V.int IntKind.i64 ↑t.coupons.length), (29, .int .i64 i)], mkH [(2, Ob.box 47 [V.int IntKind.i64 t.number, V.str t.locator, V.str t.person.last, V.str t.person.first, V.str t.person.type, V.own 18 t.coupons.length, V.int IntKind.i64 t.fare, V.list (List.map Charge.enc t.taxes) false, V.int IntKind.i64 t.total, V.int IntKind.i64 t.issued]), (4, Ob.box 47 [V.int IntKind.i64 Ticket.zero.number, V.str Ticket.zero.locator, V.str Ticket.zero.person.last, V.str Ticket.zero.person.first, V.str Ticket.zero.person.type, V.list (List.map Coupon.enc Ticket.zero.coupons) false, V.int IntKind.i64 Ticket.zero.fare, V.list (List.map Charge.enc Ticket.zero.taxes) false, V.int IntKind.i64 Ticket.zero.total, V.int IntKind.i64 Ticket.zero.issued]), (18, .arr 57 11 ((vG t.coupons i).map Coupon.enc))]⟩) (fun i => t.coupons.length - i) 0 ⟨Ar _, rfl⟩ ?_ ?_
 ·refine Le.mk _ _ ?_ ?_ rfl <;> simp only [go_sem, simprocAttr, vG, HC, GR, FR, CT] <;> and_intros <;> try exact leA
 rintro i ⟨hi, he⟩ KL1 hKL1
 try dsimp only at *
 refine Aa (Z 7 rfl ?_)
 simp only [go_sem, simprocAttr, tVd, EFv, Fn, Bp]
 refine Aa ?_
 refine Ae rfl (fun hb7 => ?_) fun hb7 => ?_
 ·have hc7 : i < t.coupons.length := by simp at hb7; omega
  obtain ⟨c, hcc⟩ : ∃ c, c = t.coupons[i] := ⟨_, rfl⟩
  have hdr := AnM hc7
  rw [<- hcc] at hdr
  have hi8 : i < (vG t.coupons i).length := by rw [OG]; exact hc7
  have hgv : (vG t.coupons i)[i] = c := by rw [hcc]; exact AnO hc7
  have hrow : ([.str c.want.seg.carrier, .int .i64 c.want.seg.number, .int .i64 c.want.seg.day, .str c.want.seg.from', .str c.want.seg.to', .int .i64 c.want.seg.dep, .int .i64 c.want.seg.arr, .str c.want.cls, .str c.basis, .int .i64 (DN c.status).1, .int .i64 c.value] : List V) = (vUp t.coupons[i]).enc := by rw [<- hcc]; rfl
  refine Af ?_
  refine Aa (Ao ?_)
  refine Aa (Z 8 rfl ?_)
  simp only [go_sem, simprocAttr, Ap _ _ _ _ hi8, hgv, Coupon.enc, hc7, OG, Ac, tVd, EFv, Fn, Bp]
  and_intros <;> try exact sdA
  refine Aa (Z 9 rfl ?_)
  simp only [go_sem, simprocAttr, tVd, EFv, Fn, Bp]
  and_intros <;> try exact sdA
  refine Aa (Aa (Z 10 rfl ?_))
  simp only [go_sem, simprocAttr, tVd, EFv, Fn, Bp]
  refine Ae rfl (fun hb10 => ?_) fun hb10 => ?_
  ·have hne2 : ¬ (DN c.status).2 = 0 := by simpa using hb10
   have hve : Ha t.coupons = (DN c.status).2 := by rw [he, hdr, if_neg hne2]
   have hm : GC t d = (Ticket.zero, (DN c.status).2) := by unfold GC; rw [if_neg hne, if_neg hd, hve, if_neg hne2]
   refine Aa (Z 11 rfl ?_)
   simp only [go_sem, simprocAttr, tVd, EFv, Fn, Bp]
   refine AW.le (s' := ⟨mkE [(4, .ptr 4 0), (5, .int .i64 (DN c.status).2)], mkH [(4, .box 47 (Bb Ticket.zero))]⟩) (Le.mk _ _ ?_ ?_ rfl) (Ad (hQ _ _ (.inl rfl) ?_ ?_ ?_)) <;> simp only [go_sem, simprocAttr, Bb, Ticket.zero, Person.zero, fVd, tkV, hm]
  have heq2 : (DN c.status).2 = 0 := by simpa using hb10
  rw [if_pos heq2] at hdr
  refine Af ?_
  refine Z 12 rfl ?_
  simp only [go_sem, simprocAttr, Ap _ _ _ _ hi8, hgv, Coupon.enc, hc7, OG, Ac, tVd, EFv, Fn, Bp]
  and_intros <;> try exact sdA
  refine Z 13 rfl ?_
  simp only [go_sem, simprocAttr, inI, tVd, EFv, Fn, Bp]
  and_intros <;> try exact sdA
  refine hKL1 (i + 1) _ ?_ ?_ ?_
  ·(try dsimp only); exact ⟨hc7, by rw [he, hdr]⟩
  ·(try dsimp only); omega
  refine Le.mk _ _ ?_ ?_ rfl <;> simp only [go_sem, simprocAttr, AnP hc7 _ hrow] <;> and_intros <;> try exact leA
 obtain rfl : i = t.coupons.length := by simp at hb7; omega
 have hv0 : Ha t.coupons = 0 := by rw [he, List.drop_length]; rfl
 have hm : GC t d = (vTk t (t.coupons.map vUp), 0) := by unfold GC; rw [if_neg hne, if_neg hd, if_pos hv0]
 refine AS ?_
 simp only [go_sem, simprocAttr]
 refine Aa (Z 14 rfl ?_)
 simp only [go_sem, simprocAttr, tVd, EFv, Fn, Bp]
 refine AW.le (s' := ⟨mkE [(4, .ptr 4 0), (5, .int .i64 0)], mkH [(4, .box 47 (Bb (vTk t (t.coupons.map vUp))))]⟩) (Le.mk _ _ ?_ ?_ rfl) (Ad (hQ _ _ (.inl rfl) ?_ ?_ ?_)) <;> simp only [go_sem, simprocAttr, Bb, vTk, fVd, tkV, hm]
 exact Rg rfl (by rw [Ac, OG]) rfl ((Coupon.purs _).2 trivial) (by rw [AnN])
theorem Ah5 {M : Nat -> Prop} {w : World} {v : V} {cv : Value} (h : Pur M w v cv) : Pur M w v.nn1 cv := by
 cases v with
 | nils =>
  cases h
  exact .list [] false none 0 0 0 0 (fun _ _ => undef) (fun e => by cases e) (Az _) (fun _ => rfl) (.inl rfl) (fun r hr => by simp at hr) (fun i j hi _ => absurd hi (EK _)) (fun i j r v hi => by simp at hi)
 | _ => exact h
end Go.Proofs.YtjkclhbckfkeeaaGreatDoor
end
