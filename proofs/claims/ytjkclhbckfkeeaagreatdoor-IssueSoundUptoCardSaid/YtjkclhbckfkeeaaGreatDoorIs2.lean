import Derived.Test.YtjkclhbckfkeeaaGreatDoorMo16
import Derived.Test.YtjkclhbckfkeeaaGreatDoorRu10
import Derived.Test.YtjkclhbckfkeeaaGreatDoorMo5
import Derived.Test.YtjkclhbckfkeeaaGreatDoorPa1
set_option linter.unusedSimpArgs false
set_option linter.unusedVariables false
set_option linter.deprecated false
set_option maxHeartbeats 4000000
noncomputable section
namespace Go.Proofs.YtjkclhbckfkeeaaGreatDoor
open Go Go.RowKit
def LV := ar (vl Part.enc) (ao vi)
theorem VJ : Ij LV := ijr (ijl Part.inj) (ijo iji)
def Ea (n at' : Int) : List Part -> Bool
 | [] => decide (at' = n)
 | x :: l => if x.from' ≠ at' \/ x.to' <= at' \/ n < x.to' then false else Ea n x.to' l
def Nz (x : List Part × Int) : Prop × V := (x.1.length <= 140737488355328, .bool (Ea x.2 0 x.1))
theorem FF (l : List Part) (n : Int) : gOf LV Nz [.list (l.map Part.enc) false, .int .i64 n] = (l.length <= 140737488355328, .bool (Ea n 0 l)) := Al VJ (l, n)
theorem AfO : PU 79 (gOf LV Nz) := by
 have hG := AH
 refine AaE.a VJ (by simp [LV]) ?_
 rintro ⟨l, n⟩ hv C hN Q hQ
 have Z := AaE.R EF0 hG hN
 replace hv : l.length <= 140737488355328 := hv
 refine Aa (Z 0 rfl ?_)
 simp only [go_sem, simprocAttr, LV]
 refine Aa (Z 1 rfl ?_)
 simp only [go_sem, simprocAttr]
 refine Aa (Aa (Z 2 rfl ?_))
 simp only [go_sem, simprocAttr]
 refine Ao ?_
 refine AX (α := Nat × Int) (fun γ => (γ.1 <= l.length) /\ (Ea n 0 l = Ea n γ.2 (l.drop γ.1))) (fun γ => ⟨mkE [(1, V.int IntKind.i64 n), (5, .int .i64 γ.2), (8, V.list (List.map Part.enc l) false), (9, V.int IntKind.i64 ↑l.length), (10, .int .i64 γ.1)], mkH []⟩) (fun γ => l.length - γ.1) (0, 0) ⟨Ar _, rfl⟩ ?_ ?_
 ·exact leM
 rintro ⟨i, a⟩ ⟨hi, hs⟩ KL0 hKL0
 try dsimp only at *
 refine Aa (Z 3 rfl ?_)
 simp only [go_sem, simprocAttr]
 refine Aa ?_
 refine Ae rfl (fun hc3 => ?_) fun hc3 => ?_
 ·simp only [hcL] at hc3
  refine Af ?_
  refine Aa (Ao ?_)
  have hd := DS hc3
  rw [hd, Ea] at hs
  refine Aa (Z 4 rfl ?_)
  simp only [go_sem, simprocAttr, Ap _ _ _ _ hc3, hc3, Part.enc]
  and_intros <;> try exact sdA
  refine Aa (Aa (Z 5 rfl ?_))
  simp only [go_sem, simprocAttr]
  and_intros <;> try exact sdA
  refine Ae rfl (fun hb5 => ?_) fun hb5 => ?_
  ·rw [if_pos (by simp only [EW, MD, decide_eq_true_eq, decide_eq_false_iff_not] at hb5; omega)] at hs
   refine Aa (Z 6 rfl ?_)
   simp only [go_sem, simprocAttr]
   refine Ad (hQ _ _ (.inl rfl) ?_ ?_ ?_) <;> simp only [go_sem, simprocAttr, Nz, hs]
  rw [if_neg (by simp only [Ce, Ii, decide_eq_true_eq, decide_eq_false_iff_not] at hb5; omega)] at hs
  refine Af ?_
  refine Z 7 rfl ?_
  simp only [go_sem, simprocAttr]
  refine Z 8 rfl ?_
  simp only [go_sem, simprocAttr, inI]
  and_intros <;> try exact sdA
  refine hKL0 (i + 1, l[i].to') _ ?_ ?_ ?_
  ·(try dsimp only); exact ⟨hc3, hs⟩
  ·(try dsimp only); omega
  exact leM
 simp only [hcL] at hc3
 rw [GN hc3, Ea] at hs
 refine AS ?_
 simp only [go_sem, simprocAttr]
 refine Aa (Z 9 rfl ?_)
 simp only [go_sem, simprocAttr]
 refine Ad (hQ _ _ (.inl rfl) ?_ ?_ ?_) <;> simp only [go_sem, simprocAttr, Nz, hs]
def wgt (p : Places) (w : Want) : Int :=
 let m := Ex p.airports p.distances w.seg.from' w.seg.to'
 if m.2 ≠ 0 \/ m.1 = 0 then 1 else m.1
def aWe := ar (vg Places.enc) (ao (vl Want.enc))
theorem WM : Ij aWe := ijr (ijg Places.inj) (ijo (ijl Want.inj))
def fWe (x : Places × List Want) : Prop × V := (MOk x.1 /\ x.2.length <= 20, .list (Aq (x.2.map (wgt x.1))) false)
theorem FL (ps : List Airport) (ds : List Distance) (l : List Want) : gOf aWe fWe [.agg [.list (ps.map Airport.enc) false, .list (ds.map Distance.enc) false], .list (l.map Want.enc) false] = (MOk ⟨ps, ds⟩ /\ l.length <= 20, .list (Aq (l.map (wgt ⟨ps, ds⟩))) false) := Al WM (⟨ps, ds⟩, l)
theorem GG (ps : List Airport) (ds : List Distance) (a b : List UInt8) : gOf aMi Ho [.agg [.list (ps.map Airport.enc) false, .list (ds.map Distance.enc) false], .str a, .str b] = (MOk ⟨ps, ds⟩, .tup [.int .i64 (Ex ps ds a b).1, .int .i64 (Ex ps ds a b).2]) := Al RH (⟨ps, ds⟩, a, b)
def tWe : Tab
 | 138 => (gOf aMi Ho)
 | _ => gNo
theorem Amw : ∀ f, PU f (tWe f) := fun f => by
 unfold tWe
 split
 ·exact AhP
 ·exact Ah.no
theorem An3 : PU 80 (gOf aWe fWe) := by
 have hG := Amw
 refine AaF.a WM (by simp [aWe]) ?_
 rintro ⟨⟨ps, ds⟩, l⟩ hv C hN Q hQ
 have Z := AaF.R EF0 hG hN
 obtain ⟨hm, hl⟩ : MOk ⟨ps, ds⟩ /\ l.length <= 20 := hv
 refine Aa (Z 0 rfl ?_)
 simp only [go_sem, simprocAttr, aWe, Places.enc, tWe, GG]
 refine Aa (Z 1 rfl ?_)
 simp only [go_sem, simprocAttr, Ac, tWe, GG]
 and_intros <;> try exact sdA
 refine Aa (Aa (Z 2 rfl ?_))
 simp only [go_sem, simprocAttr, tWe, GG]
 refine Ao ?_
 refine AX (α := Nat × (List Int)) (fun γ => (γ.1 <= l.length) /\ (γ.2 = (l.take γ.1).map (wgt ⟨ps, ds⟩)) /\ (γ.2.length = γ.1)) (fun γ => ⟨mkE [(2, V.ptr 2 0), (5, .own 12 γ.2.length), (13, V.list (List.map Want.enc l) false), (14, V.int IntKind.i64 ↑l.length), (15, .int .i64 γ.1)], mkH [(2, Ob.box 25 [V.list (List.map Airport.enc ps) false, V.list (List.map Distance.enc ds) false]), (12, .arr 3 1 (Aq γ.2))]⟩) (fun γ => l.length - γ.1) (0, []) ⟨Ar _, rfl, rfl⟩ ?_ ?_
 ·exact leM
 rintro ⟨i, xs⟩ ⟨hi, hx, hxl⟩ KL0 hKL0
 try dsimp only at *
 refine Aa (Z 3 rfl ?_)
 simp only [go_sem, simprocAttr, tWe, GG]
 refine Aa ?_
 refine Ae rfl (fun hc3 => ?_) fun hc3 => ?_
 ·simp only [hcL] at hc3
  refine Af ?_
  refine Aa (Ao ?_)
  refine Aa (Z 4 rfl ?_)
  simp only [go_sem, simprocAttr, Ap _ _ _ _ hc3, hc3, Want.enc, tWe, GG]
  and_intros <;> try exact sdA
  obtain ⟨⟨n, e⟩, hne⟩ : ∃ y, Ex ps ds l[i].seg.from' l[i].seg.to' = y := ⟨_, rfl⟩
  have hw : wgt ⟨ps, ds⟩ l[i] = if e ≠ 0 \/ n = 0 then 1 else n := by unfold wgt; dsimp only; rw [hne]
  refine Aa (Z 5 rfl ?_)
  simp only [go_sem, simprocAttr, hm, hne, tWe, GG]
  and_intros <;> try exact sdA
  refine Dw (α := Int) (fun m => (m = wgt ⟨ps, ds⟩ l[i])) (fun m => ⟨mkE [(2, V.ptr 2 0), (5, V.own 12 xs.length), (8, .int .i64 m), (13, V.list (List.map Want.enc l) false), (14, V.int IntKind.i64 ↑l.length), (15, V.int IntKind.i64 ↑i)], mkH [(2, Ob.box 25 [V.list (List.map Airport.enc ps) false, V.list (List.map Distance.enc ds) false]), (12, Ob.arr 3 1 (Aq xs))]⟩) ?_ ?_
  ·intro KC6 hKC6
   refine Aa (Z 6 rfl ?_)
   simp only [go_sem, simprocAttr, tWe, GG]
   and_intros <;> try exact sdA
   refine Ae rfl (fun hb6 => ?_) fun hb6 => ?_
   ·refine Z 7 rfl ?_
    simp only [go_sem, simprocAttr, tWe, GG]
    refine hKC6 (1) _ ?_ ?_
    ·(try dsimp only); (rw [hw, if_pos (by simpa using hb6)])
    exact leM
   refine Af ?_
   refine hKC6 (n) _ ?_ ?_
   ·(try dsimp only); (rw [hw, if_neg (by simpa using hb6)])
   exact leM
  rintro m hmw
  refine Z 8 rfl ?_
  simp only [go_sem, simprocAttr, tWe, GG]
  and_intros <;> try exact sdA
  refine Z 9 rfl ?_
  simp only [go_sem, simprocAttr, inI, tWe, GG]
  and_intros <;> try exact sdA
  refine hKL0 (i + 1, xs ++ [m]) _ ?_ ?_ ?_
  ·(try dsimp only); exact ⟨hc3, by rw [hx, hmw, CW hc3, DC]; rfl, by simp [hxl]⟩
  ·(try dsimp only); omega
  refine Le.mk _ _ ?_ ?_ rfl <;> simp only [go_sem, simprocAttr, FN, Ai, Av, Ay] <;> and_intros <;> try exact leA
 simp only [hcL] at hc3
 rw [Bu hc3] at hx
 refine AS ?_
 simp only [go_sem, simprocAttr]
 refine Aa (Z 10 rfl ?_)
 simp only [go_sem, simprocAttr, tWe, GG]
 refine AW.le (s' := ⟨mkE [(4, .list (Aq xs) false)], mkH []⟩) (Le.mk _ _ ?_ ?_ rfl) (Ad (hQ _ _ (.inl rfl) ?_ ?_ ?_)) <;> simp only [go_sem, simprocAttr, fWe, <- hx]
 exact DO rfl (by rw [DB]) rfl (JQ _)
def DQ (W : List Int) : List Part -> Int × List Int
 | [] => (0, [])
 | x :: l =>
  let s := Ey x.amount ((W.take x.to'.toNat).drop x.from'.toNat)
  if s.1 ≠ 0 then (s.1, []) else
   let r := DQ W l
   if r.1 ≠ 0 then (r.1, []) else (0, s.2 ++ r.2)
def ES (p : Places) (l : List Want) (q : Quote) : Int × List Int := if Ea l.length 0 q.parts then DQ (l.map (wgt p)) q.parts else (2, [])
def aCo := ar (vg Places.enc) (ar (vl Want.enc) (ao (vg Quote.enc)))
theorem VG : Ij aCo := ijr (ijg Places.inj) (ijr (ijl Want.inj) (ijo (ijg Quote.inj)))
def COk (p : Places) (l : List Want) (q : Quote) : Prop := (MOk p /\ p.distances.length <= 100) /\ l.length <= 20 /\ q.parts.length <= 1000000 /\ (∀ x ∈ q.parts, x.ok)
def fCo (x : Places × List Want × Quote) : Prop × V := (COk x.1 x.2.1 x.2.2, GW (ES x.1 x.2.1 x.2.2))
def Ll (xs : List Int) (r : Int × List Int) : Int × List Int := if r.1 ≠ 0 then (r.1, []) else (0, xs ++ r.2)
theorem AfB {W : List Int} {x : Part} {l : List Part} {e : Int} {s : List Int} (h : Ey x.amount ((W.take x.to'.toNat).drop x.from'.toNat) = (e, s)) (xs : List Int) : Ll xs (DQ W (x :: l)) = if e ≠ 0 then (e, []) else Ll (xs ++ s) (DQ W l) := by
 rw [DQ, h]
 dsimp only
 unfold Ll
 by_cases he : e = 0
 ·subst he
  simp only [ne_eq, not_true_eq_false, if_false]
  by_cases h2 : (DQ W l).1 = 0 <;> simp [h2]
 ·simp [he]
theorem AgN (W : List Int) : ∀ l : List Part, DQ W l = Ll [] (DQ W l)
 | [] => rfl
 | x :: l => by
  rw [DQ]
  dsimp only
  unfold Ll
  split
  ·simp [*]
  ·split
   ·simp [*]
   ·simp
theorem FK (a : Int) (l : List Int) : gOf aSp Mq [.int .i64 a, .list (Aq l) false] = (l.length <= 20 /\ inI a /\ ∀ w ∈ l, w <= 8388608, GW (Ey a l)) := Al Wy (a, l)
theorem An5 {p : Places} (hp : p.distances.length <= 100) (w : Want) : 1 <= wgt p w /\ wgt p w <= 8388608 := by
 have h : 0 <= (Ex p.airports p.distances w.seg.from' w.seg.to').1 /\ (Ex p.airports p.distances w.seg.from' w.seg.to').1 <= 8388608 := by
  unfold Ex
  split
  ·simp
  ·have hI := (AaV (show p.distances.length <= 1000 by omega) (BZ p.airports w.seg.from')).inv
   have h1 := Qz (ends (BZ p.airports w.seg.from') p.distances) (Hs p.distances (BZ p.airports w.seg.from'))
   rw [Ph] at h1
   cases h : As (Hs p.distances (BZ p.airports w.seg.from')) (BZ p.airports w.seg.to') with
   | none => unfold Oo; simp
   | some v => unfold Oo; have := hI.vals _ (KF h); dsimp only at this ⊢; omega
 unfold wgt
 dsimp only
 split
 ·omega
 ·rename_i hh; omega
def tCo : Tab
 | 79 => (gOf LV Nz)
 | 80 => (gOf aWe fWe)
 | 81 => (gOf aSp Mq)
 | _ => gNo
theorem AlG : ∀ f, PU f (tCo f) := fun f => by
 unfold tCo
 split
 ·exact AfO
 ·exact An3
 ·exact Ak7
 ·exact Ah.no
theorem Afy : PU 36 (gOf aCo fCo) := by
 have hG := AlG
 refine SV.a VG (by simp [aCo]) ?_
 rintro ⟨⟨ps, ds⟩, l, q⟩ hv C hN Q hQ
 have Y := SV.D EF0 hG hN mixed
 have Z := SV.R EF0 hG hN
 obtain ⟨⟨hm, hm2⟩, hl, hpl, hpo⟩ : COk ⟨ps, ds⟩ l q := hv
 have hl2 : l.length <= 140737488355328 := by omega
 have hpl2 : q.parts.length <= 140737488355328 := by omega
 refine Aa (Z 0 rfl ?_)
 simp only [go_sem, simprocAttr, aCo, Places.enc, Quote.enc, tCo, FF, FL, FK]
 refine Aa (Aa (Z 1 rfl ?_))
 simp only [go_sem, simprocAttr, hpl2, Ac, tCo, FF, FL, FK]
 and_intros <;> try exact sdA
 refine Ae rfl (fun hb1 => ?_) fun hb1 => ?_
 ·have hcm : ES ⟨ps, ds⟩ l q = (2, []) := by unfold ES; rw [if_neg (by simpa using hb1)]
  refine Aa (Z 2 rfl ?_)
  simp only [go_sem, simprocAttr, tCo, FF, FL, FK]
  refine AW.le (s' := ⟨mkE [(6, .list [] false), (7, .int .i64 2)], mkH []⟩) (Le.mk _ _ ?_ ?_ rfl) (Ad (hQ _ _ (.inl rfl) ?_ ?_ ?_)) <;> simp only [go_sem, simprocAttr, fCo, hcm, GW, PY]
 have hdv : Ea l.length 0 q.parts = true := by simpa using hb1
 refine Af ?_
 obtain ⟨W, hW⟩ : ∃ W, W = l.map (wgt ⟨ps, ds⟩) := ⟨_, rfl⟩
 have hWl : W.length = l.length := by rw [hW, Ac]
 have hWi : ∀ w ∈ W, w <= 8388608 := fun w hw => by rw [hW] at hw; obtain ⟨x, _, rfl⟩ := An.1 hw; exact (An5 hm2 x).2
 have hcm : ES ⟨ps, ds⟩ l q = DQ W q.parts := by unfold ES; rw [if_pos hdv, hW]
 refine Aa (Z 3 rfl ?_)
 simp only [go_sem, simprocAttr, hm, hl, tCo, FF, FL, FK]
 and_intros <;> try exact sdA
 rw [<- hW]
 refine Aa (Z 4 rfl ?_)
 simp only [go_sem, simprocAttr, tCo, FF, FL, FK]
 refine Aa (Aa (Z 5 rfl ?_))
 simp only [go_sem, simprocAttr, Ac, tCo, FF, FL, FK]
 refine Ao ?_
 refine AX (α := Nat × (List Int)) (fun γ => (γ.1 <= q.parts.length) /\ (Ea l.length γ.2.length (q.parts.drop γ.1) = true) /\ (DQ W q.parts = Ll γ.2 (DQ W (q.parts.drop γ.1))) /\ (γ.2.length <= l.length)) (fun γ => ⟨mkE [(8, V.list (Aq W) false), (9, .own 47 γ.2.length), (24, V.list (List.map Part.enc q.parts) false), (25, V.int IntKind.i64 ↑q.parts.length), (26, .int .i64 γ.1)], mkH [(47, .arr 3 1 (Aq γ.2))]⟩) (fun γ => q.parts.length - γ.1) (0, []) ⟨Ar _, hdv, (AgN _ _), Ar _⟩ ?_ ?_
 ·exact leM
 rintro ⟨i, xs⟩ ⟨hi, hd, hc, hx⟩ KL0 hKL0
 try dsimp only at *
 refine Aa (Z 6 rfl ?_)
 simp only [go_sem, simprocAttr, tCo, FF, FL, FK]
 refine Aa ?_
 refine Ae rfl (fun hc6 => ?_) fun hc6 => ?_
 ·simp only [hcL] at hc6
  refine Af ?_
  refine Aa (Ao ?_)
  have hdd := DS hc6
  rw [hdd, Ea] at hd
  obtain ⟨x, hxx⟩ : ∃ x, x = q.parts[i] := ⟨_, rfl⟩
  rw [<- hxx] at hd
  have hxo : x.ok := hxx ▸ hpo _ (AF hc6)
  obtain ⟨hdx, hd⟩ : ¬(x.from' ≠ xs.length \/ x.to' <= xs.length \/ (l.length : Int) < x.to') /\ Ea l.length x.to' (q.parts.drop (i + 1)) = true := by split at hd; cases hd; exact ⟨‹_›, hd⟩
  have hb1 : 0 <= x.from' /\ x.from' <= x.to' /\ x.to' <= W.length := by omega
  obtain ⟨⟨e, s⟩, hsp⟩ : ∃ y, Ey x.amount ((W.take x.to'.toNat).drop x.from'.toNat) = y := ⟨_, rfl⟩
  have hsl : ((W.take x.to'.toNat).drop x.from'.toNat).length = (x.to' - x.from').toNat := by rw [BT, Bx]; omega
  have hsi : ∀ w ∈ (W.take x.to'.toNat).drop x.from'.toNat, w <= 8388608 := fun w hw => hWi w (Ft (FP hw))
  have hsub : ((Aq W).take x.to'.toNat).drop x.from'.toNat = Aq ((W.take x.to'.toNat).drop x.from'.toNat) := by rw [Ag6, Ag3]
  have hstep := AfB (l := q.parts.drop (i + 1)) hsp xs
  rw [hdd, <- hxx, hstep] at hc
  have hfa := UJ hsp
  have hsl2 : ((W.take x.to'.toNat).drop x.from'.toNat).length <= 20 := by omega
  have hxi : inI x.amount := hxo.2.2.2
  refine Aa (Z 7 rfl ?_)
  simp only [go_sem, simprocAttr, Ap _ _ _ _ hc6, hc6, <- hxx, Part.enc, tCo, FF, FL, FK]
  and_intros <;> try exact sdA
  refine Aa (Y 8 rfl (by kernel_rfl) ?_)
  simp only [go_sem, simprocAttr, hsub, hsp, GW, hsl2, hxi, hsi, DB, hb1.1, hb1.2.1, hb1.2.2, tCo, FF, FL, FK]
  and_intros <;> (try first | exact sdA | exact hsi)
  refine Aa (Aa (Z 9 rfl ?_))
  simp only [go_sem, simprocAttr, tCo, FF, FL, FK]
  refine Ae rfl (fun hb9 => ?_) fun hb9 => ?_
  ·have he : e ≠ 0 := by simpa using hb9
   rw [if_pos he] at hc
   refine Aa (Z 10 rfl ?_)
   simp only [go_sem, simprocAttr, tCo, FF, FL, FK]
   refine AW.le (s' := ⟨mkE [(6, .list [] false), (7, .int .i64 e)], mkH []⟩) (Le.mk _ _ ?_ ?_ rfl) (Ad (hQ _ _ (.inl rfl) ?_ ?_ ?_)) <;> simp only [go_sem, simprocAttr, fCo, GW, hcm, hc, PY]
  have he : e = 0 := by simpa using hb9
  rw [if_neg (by simpa using he)] at hc
  have hS := hfa.2 he
  have hsl3 : s.length = (x.to' - x.from').toNat := by rw [hS.len, hsl]
  refine Af ?_
  refine Z 11 rfl ?_
  simp only [go_sem, simprocAttr, tCo, FF, FL, FK]
  and_intros <;> try exact sdA
  refine Z 12 rfl ?_
  simp only [go_sem, simprocAttr, inI, tCo, FF, FL, FK]
  and_intros <;> try exact sdA
  refine hKL0 (i + 1, xs ++ s) _ ?_ ?_ ?_
  ·(try dsimp only); exact ⟨hc6, by rw [Ai, hsl3, show (((xs.length + (x.to' - x.from').toNat : Nat)) : Int) = x.to' by omega]; exact hd, hc, by rw [Ai, hsl3]; omega⟩
  ·(try dsimp only); omega
  refine Le.mk _ _ ?_ ?_ rfl <;> simp only [go_sem, simprocAttr, Ag2, Ai] <;> and_intros <;> try exact leA
 simp only [hcL] at hc6
 rw [GN hc6, DQ] at hc
 refine AS ?_
 simp only [go_sem, simprocAttr]
 refine Aa (Z 13 rfl ?_)
 simp only [go_sem, simprocAttr, tCo, FF, FL, FK]
 refine AW.le (s' := ⟨mkE [(6, .list (Aq xs) false), (7, .int .i64 0)], mkH []⟩) (Le.mk _ _ ?_ ?_ rfl) (Ad (hQ _ _ (.inl rfl) ?_ ?_ ?_)) <;> simp only [go_sem, simprocAttr, fCo, GW, hcm, hc, Ll, Bl, not_true_eq_false, ne_eq]
 exact DO rfl (by rw [DB]) rfl (JQ _)
theorem Acj {d : Option Nat} {s : St} {K : St -> Prop} {na q : Nat} {L L' : Aw Int} {c : List UInt8} {m : Int} {ok : Bool} (he : Eff Tryz.prog UT 191 [.own 1000 L.length, .str c, .int .i64 m] (spO 1000 L) (.tup [.own 1000 L'.length, .bool ok]) (spO 1000 L'))
  (ha : s.h na = some (.arr 256 2 (CV L))) (hq : q = L.length)
  (hK : K ⟨BX d (.tup [.own na L'.length, .bool ok]) s.e, hov (spO na L') s.h⟩) : CX Tryz.prog UT d 191 [.own na q, .str c, .int .i64 m] s K := by
 subst hq
 refine ⟨[(1000, na)], [], _, _, _, _, he, ⟨by simp [okL], rfl, rfl, by simp, by simp, ?_, by simp [V.rens, V.ren, rni], by simp [V.nins, V.nin], by simp [V.nin, V.nins, spO], ?_, ?_⟩, ?_⟩
 ·intro p hp
  simp only [AK, CS, or_false] at hp
  subst hp
  exact ⟨_, ha, by simp [spO, mkH, Ob.ren, BA (UM L)], by simp only [Ob.nin, UN, true_or]⟩
 ·intro q hq
  simp only [spO, AK, CS, or_false] at hq
  subst hq
  simp only [Ob.nin, UN, true_or]
 ·intro p hp o o' h1 h2
  simp only [AK, CS, or_false] at hp
  subst hp; simp [spO, mkH] at h1 h2; subst h1 h2; simp [Ob.kind]
 ·have e1 : (V.tup [.own 1000 L'.length, .bool ok]).ren (rn ([(1000, na)] ++ [])) = .tup [.own na L'.length, .bool ok] := by simp [V.ren, V.rens, rn]
  have e2 : (spO 1000 L').map (fun q : Nat × Ob => (rn ([(1000, na)] ++ []) q.1, q.2.ren (rn ([(1000, na)] ++ [])))) = spO na L' := by
   simp [spO, rn, Ob.ren, V.rens, V.ren, BA (UM L')]
  rw [e1, e2]
  exact hK
theorem Ys (L : Aw Int) (c : List UInt8) : gOf aRe fRe [.list (CV L) false, .str c] = (L.length <= 140737488355328, .int .i64 ((As L c).getD (-1))) := Al Ws (L, c)
theorem Ak9 (c : List UInt8) (v : Int) : [[.str c, .int .i64 v]] = CV [(c, v)] := rfl
def EFr : Nat -> Bool := fun f => f == 191
def Cy : Tab
 | 158 => (gOf aPs GF)
 | 151 => (gOf Hc JJ)
 | 190 => (gOf aRe fRe)
 | _ => gNo
theorem Ano : ∀ f, PU f (Cy f) := fun f => by
 unfold Cy
 split
 ·exact Acd
 ·exact AcG
 ·exact Ajp
 ·exact Ah.no
theorem Agv {L x y n} (h : 0 <= (As L x).getD (-1)) : GJ L x y n = Ek L y ((As L x).getD (-1) + n) := by unfold GJ; rw [if_pos h]
theorem Agu {L x y n} (h : ¬ 0 <= (As L x).getD (-1)) : GJ L x y n = (L, false) := by unfold GJ; rw [if_neg h]
theorem Ali {L : Aw Int} {f t : List UInt8} {n : Int} {r : Aw Int × Bool} (hr : r = GJ L f t n) (h : 0 <= (As L t).getD (-1)) : MX L f t n = ((Ek r.1 f ((As L t).getD (-1) + n)).1, r.2 || (Ek r.1 f ((As L t).getD (-1) + n)).2) := by subst hr; unfold MX; dsimp only; rw [if_pos h]
theorem Alh {L : Aw Int} {f t : List UInt8} {n : Int} {r : Aw Int × Bool} (hr : r = GJ L f t n) (h : ¬ 0 <= (As L t).getD (-1)) : MX L f t n = (r.1, r.2) := by subst hr; unfold MX; dsimp only; rw [if_neg h, Oe]
theorem AaZ {L : Aw Int} (h : ∀ p ∈ L, 0 <= p.2 /\ p.2 <= 1000000000) (k : List UInt8) : -1 <= (As L k).getD (-1) /\ (As L k).getD (-1) <= 1000000000 := by
 cases e : As L k with
 | none => simp
 | some v => have := h _ (KF e); simp only [Fu]; dsimp only at this; omega
theorem Ajy : PU 152 (gOf aMi Ho) := by
 have hG := Ano
 refine SF.a RH (by simp [aMi]) ?_
 rintro ⟨⟨ps, ds⟩, a, b⟩ hv C hN Q hQ
 have Y := SF.D EFr hG hN mixed
 have Z := SF.R EFr hG hN
 obtain ⟨hl, hd⟩ : MOk ⟨ps, ds⟩ := hv
 dsimp only at hd
 generalize hcf : BZ ps a = f
 generalize hct : BZ ps b = t
 refine Aa (Z 0 rfl ?_)
 simp only [go_sem, simprocAttr, aMi, Places.enc, Cy, EFr]
 refine Aa (Y 1 rfl (by kernel_rfl) ?_)
 simp only [go_sem, simprocAttr, Gi, hl, hcf, hct, Cy, EFr]
 and_intros <;> try exact sdA
 refine Aa (Aa (Z 2 rfl ?_))
 simp only [go_sem, simprocAttr, Cy, EFr]
 and_intros <;> try exact sdA
 refine Ae rfl (fun hb2 => ?_) fun hb2 => ?_
 ·refine Aa (Z 3 rfl ?_)
  simp only [go_sem, simprocAttr, Cy, EFr]
  refine Ad (hQ _ _ (.inl rfl) ?_ ?_ ?_) <;> simp only [go_sem, simprocAttr, Ho]
  rw [AbB hcf hct hb2]
 refine Af ?_
 refine Aa (AeP (EF := EFr) hG (by rw [hN]; exact AmV) ?_)
 simp only [Vx, go_sem, simprocAttr, Ak9, Cy, EFr]
 refine Aa (Z 5 rfl ?_)
 simp only [go_sem, simprocAttr, Cy, EFr]
 refine Aa (Ao ?_)
 refine AX (α := (Aw Int) × Bool × Nat) (fun γ => (InvL ds f γ.1) /\ (γ.2.1 = true -> mu (ends f ds) γ.1 < γ.2.2 /\ Hs ds f = Ie ds γ.2.2 γ.1) /\ (γ.2.1 = false -> Hs ds f = γ.1)) (fun γ => ⟨mkE [(3, V.ptr 3 0), (9, V.str t), (10, .own 32 γ.1.length), (11, .bool γ.2.1)], mkH [(3, Ob.box 25 [V.list (List.map Airport.enc ps) false, V.list (List.map Distance.enc ds) false]), (32, .arr 256 2 (CV γ.1))]⟩) (fun γ => γ.2.2) ([(f, 0)], true, mu (ends f ds) [(f, 0)] + 1) ⟨InvL.first ds f, fun _ => ⟨Jf _, rfl⟩, fun h => by cases h⟩ ?_ ?_
 ·refine Le.mk _ _ ?_ ?_ rfl <;> simp only [go_sem, simprocAttr, Av, Ay] <;> and_intros <;> try exact leA
 rintro ⟨L, more, m⟩ ⟨hI, hm, hs⟩ KL0 hKL0
 try dsimp only at *
 refine Aa (Aa (Z 6 rfl ?_))
 simp only [go_sem, simprocAttr, Cy, EFr]
 refine Ae rfl (fun hb6 => ?_) fun hb6 => ?_
 ·refine Af ?_
  refine Ao (Aa (Z 7 rfl ?_))
  simp only [go_sem, simprocAttr, Cy, EFr]
  refine Aa (Z 8 rfl ?_)
  simp only [go_sem, simprocAttr, Cy, EFr]
  refine Ao ?_
  refine AX (α := Nat × (Aw Int) × Bool) (fun γ => (γ.1 <= ds.length) /\ (rnd ds L false = rnd (ds.drop γ.1) γ.2.1 γ.2.2) /\ (InvL ds f γ.2.1)) (fun γ => ⟨mkE [(3, V.ptr 3 0), (9, V.str t), (10, .own 32 γ.2.1.length), (11, .bool γ.2.2), (12, .int .i64 γ.1)], mkH [(3, Ob.box 25 [V.list (List.map Airport.enc ps) false, V.list (List.map Distance.enc ds) false]), (32, .arr 256 2 (CV γ.2.1))]⟩) (fun γ => ds.length - γ.1) (0, L, false) ⟨Ar _, by rw [CT], hI⟩ ?_ ?_
  ·exact leM
  rintro ⟨i, L2, b2⟩ ⟨hi, hr, hI2⟩ KL2 hKL2
  try dsimp only at *
  refine Aa (Aa (Z 9 rfl ?_))
  simp only [go_sem, simprocAttr, Cy, EFr]
  refine Ae rfl (fun hc9 => ?_) fun hc9 => ?_
  ·simp only [hcL] at hc9
   refine Af ?_
   refine Dw (α := (Aw Int) × Bool) (fun γ => (rnd ds L false = rnd (ds.drop (i + 1)) γ.1 γ.2) /\ (InvL ds f γ.1)) (fun γ => ⟨mkE [(3, V.ptr 3 0), (9, V.str t), (10, .own 32 γ.1.length), (11, .bool γ.2), (12, V.int IntKind.i64 ↑i)], mkH [(3, Ob.box 25 [V.list (List.map Airport.enc ps) false, V.list (List.map Distance.enc ds) false]), (32, .arr 256 2 (CV γ.1))]⟩) ?_ ?_
   ·intro KCb3 hKCb3
    refine Ao (Aa (Z 11 rfl ?_))
    simp only [go_sem, simprocAttr, Ap _ _ _ _ hc9, hc9, Distance.enc, Cy, EFr]
    and_intros <;> try exact sdA
    refine Aa (Aa (Z 12 rfl ?_))
    simp only [go_sem, simprocAttr, Sq, Cy, EFr]
    and_intros <;> try exact sdA
    refine Ae rfl (fun hb12 => ?_) fun hb12 => ?_
    ·refine AS ?_
     simp only [go_sem, simprocAttr]
     refine hKCb3 (L2, b2) _ ?_ ?_
     ·(try dsimp only); exact ⟨by rw [hr, Acr hc9 (by simpa using hb12)], hI2⟩
     exact leM
    refine Af ?_
    have hb12' : DL ds[i] = true := by simpa using hb12
    have hu := (Vo ds[i]).1 hb12'
    have hmem := AF hc9
    have hs2 := QC hI2 hd (Sn hmem hb12')
    have hs3 := UO hI2 hd hmem hb12'
    have hL2 := hI2.big hd
    have hnn : ∀ p ∈ L2, 0 <= p.2 := fun p hp => (hL2.2 p hp).1
    have hlen2 : L2.length <= 140737488355328 := by omega
    have hx := AaZ hL2.2 ds[i].from'
    have hy := AaZ hL2.2 ds[i].to'
    refine Aa (Y 13 rfl (by kernel_rfl) ?_)
    simp only [go_sem, simprocAttr, Ys, hlen2, Cy, EFr]
    and_intros <;> try exact sdA
    refine Aa (Z 14 rfl ?_)
    simp only [go_sem, simprocAttr, Cy, EFr]
    refine Dw (α := (Aw Int) × Bool × Bool) (fun γ => ((γ.1, γ.2.1) = GJ L2 ds[i].from' ds[i].to' ds[i].miles) /\ (γ.2.2 = (b2 || γ.2.1))) (fun γ => ⟨mkE [(3, V.ptr 3 0), (9, V.str t), (10, .own 32 γ.1.length), (11, .bool γ.2.2), (12, V.int IntKind.i64 ↑i), (13, V.ptr 13 0), (15, V.int IntKind.i64 ((As L2 ds[i].to').getD (-1)))], mkH [(3, Ob.box 25 [V.list (List.map Airport.enc ps) false, V.list (List.map Distance.enc ds) false]), (13, Ob.box 215 [V.str ds[i].from', V.str ds[i].to', V.int IntKind.i64 ds[i].miles]), (32, .arr 256 2 (CV γ.1))]⟩) ?_ ?_
    ·intro KC15 hKC15
     refine Aa (Z 15 rfl ?_)
     simp only [go_sem, simprocAttr, Cy, EFr]
     refine Ae rfl (fun hb15 => ?_) fun hb15 => ?_
     ·refine Aa (Z 16 rfl ?_)
      simp only [go_sem, simprocAttr, inI, Cy, EFr]
      refine And.intro (by omega) ?_
      refine Acj (Aci L2 _ _ hL2.1) (by rfl) rfl ?_
      simp only [go_sem, simprocAttr, spO]
      refine Z 17 rfl ?_
      simp only [go_sem, simprocAttr, Cy, EFr]
      and_intros <;> try exact sdA
      refine hKC15 ((Ek L2 ds[i].to' ((As L2 ds[i].from').getD (-1) + ds[i].miles)).1, (Ek L2 ds[i].to' ((As L2 ds[i].from').getD (-1) + ds[i].miles)).2, (b2 || (Ek L2 ds[i].to' ((As L2 ds[i].from').getD (-1) + ds[i].miles)).2)) _ ?_ ?_
      ·(try dsimp only); exact ⟨by rw [Agv (of_decide_eq_true hb15)], rfl⟩
      refine Le.mk _ _ ?_ ?_ rfl <;> simp only [go_sem, simprocAttr, spO] <;> and_intros <;> try exact leA
     refine Af ?_
     refine hKC15 (L2, false, b2) _ ?_ ?_
     ·(try dsimp only); exact ⟨by rw [Agu (of_decide_eq_false hb15)], by rw [Oe]⟩
     exact leM
    rintro ⟨L4, r4, b4⟩ ⟨h4, hb4⟩
    try dsimp only at *
    have hL4 := (show InvL ds f L4 by rw [show L4 = (GJ L2 ds[i].from' ds[i].to' ds[i].miles).1 by rw [<- h4], Tj hnn]; exact hs2.1).big hd
    refine Aa (Z 18 rfl ?_)
    simp only [go_sem, simprocAttr, Cy, EFr]
    refine Ae rfl (fun hb18 => ?_) fun hb18 => ?_
    ·refine Aa (Z 19 rfl ?_)
     simp only [go_sem, simprocAttr, inI, Cy, EFr]
     refine And.intro (by omega) ?_
     refine Acj (Aci L4 _ _ hL4.1) (by rfl) rfl ?_
     simp only [go_sem, simprocAttr, spO]
     refine Z 20 rfl ?_
     simp only [go_sem, simprocAttr, Cy, EFr]
     and_intros <;> try exact sdA
     refine hKCb3 ((Ek L4 ds[i].from' ((As L2 ds[i].to').getD (-1) + ds[i].miles)).1, (b4 || (Ek L4 ds[i].from' ((As L2 ds[i].to').getD (-1) + ds[i].miles)).2)) _ ?_ ?_
     ·(try dsimp only); (have e := Ali h4 (of_decide_eq_true hb18); rw [Adw hnn _ _ (by omega)] at e; exact ⟨by rw [hr, Us hc9 hb12', e, hb4, Bool.or_assoc], by rw [e] at hs3; exact hs3.1⟩)
     refine Le.mk _ _ ?_ ?_ rfl <;> simp only [go_sem, simprocAttr, spO] <;> and_intros <;> try exact leA
    refine Af ?_
    refine hKCb3 (L4, b4) _ ?_ ?_
    ·(try dsimp only); (have e := Alh h4 (of_decide_eq_false hb18); rw [Adw hnn _ _ (by omega)] at e; exact ⟨by rw [hr, Us hc9 hb12', e, hb4], by rw [e] at hs3; exact hs3.1⟩)
    exact leM
   rintro ⟨L3, b3⟩ ⟨hr3, hI3⟩
   try dsimp only at *
   refine Z 10 rfl ?_
   simp only [go_sem, simprocAttr, inI, Cy, EFr]
   and_intros <;> try exact sdA
   refine hKL2 (i + 1, L3, b3) _ ?_ ?_ ?_
   ·(try dsimp only); exact ⟨hc9, hr3, hI3⟩
   ·(try dsimp only); omega
   exact leM
  simp only [hcL] at hc9
  rw [Acq hc9] at hr
  obtain ⟨hm1, hm2⟩ := hm hb6
  refine AS ?_
  simp only [go_sem, simprocAttr]
  refine hKL0 (L2, b2, m - 1) _ ?_ ?_ ?_
  ·(try dsimp only); exact ⟨hI2, fun h => (by obtain ⟨k, rfl, h1, h2⟩ := Tm hd hI hm1 (by rw [hr]; exact h); rw [hr] at h1 h2; exact ⟨h1, hm2.trans h2⟩), fun h => (by rw [hm2, Tn hd hI hm1 (by rw [hr]; exact h), hr])⟩
  ·(try dsimp only); omega
  exact leM
 refine AS ?_
 simp only [go_sem, simprocAttr]
 have hLe := hI.big hd
 have hlenE : L.length <= 140737488355328 := by omega
 refine Aa (Z 21 rfl ?_)
 simp only [go_sem, simprocAttr, Ys, hlenE, Cy, EFr]
 and_intros <;> try exact sdA
 refine Aa (Aa (Z 22 rfl ?_))
 simp only [go_sem, simprocAttr, Cy, EFr]
 refine Ae rfl (fun hb22 => ?_) fun hb22 => ?_
 ·refine Aa (Z 23 rfl ?_)
  simp only [go_sem, simprocAttr, Cy, EFr]
  refine Ad (hQ _ _ (.inl rfl) ?_ ?_ ?_) <;> simp only [go_sem, simprocAttr, Ho]
  cases hag : As L t; (rw [Qp hcf hct hb2, hs hb6, hag]; rfl); (exfalso; have := hI.get hag; rw [hag] at hb22; simp at hb22; omega)
 refine Af ?_
 refine Aa (Z 24 rfl ?_)
 simp only [go_sem, simprocAttr, Cy, EFr]
 refine Ad (hQ _ _ (.inl rfl) ?_ ?_ ?_) <;> simp only [go_sem, simprocAttr, Ho]
 cases hag : As L t; (exfalso; rw [hag] at hb22; simp at hb22); (rw [Qp hcf hct hb2, hs hb6, hag]; rfl)
def aWy (x : Places × List (List UInt8)) : List V := [.agg x.1.enc, .list (strs x.2) false]
theorem WP (a b : Places × List (List UInt8)) (h : aWy a = aWy b) : a = b := by
 obtain ⟨a_p, a_cs⟩ := a
 obtain ⟨b_p, b_cs⟩ := b
 simp only [aWy, Bz, V.str.injEq, V.int.injEq, V.bool.injEq, V.agg.injEq, V.list.injEq, and_true, true_and] at h
 obtain ⟨h0, h1⟩ := h
 replace h0 := Places.inj _ _ h0
 subst h0
 replace h1 := Iy h1
 subst h1
 rfl
def WyP (x : Places × List (List UInt8)) : Prop := MOk x.1 /\ x.2.length <= 1000
theorem AbA {ps : List Airport} {ds : List Distance} (hd : ds.length <= 1000) (a b) : 0 <= (Ex ps ds a b).1 /\ (Ex ps ds a b).1 <= 100000000 := by
 unfold Ex
 split
 ·exact ⟨by decide, by decide⟩
 ·cases hg : As (Hs ds (BZ ps a)) (BZ ps b) with
  | none => exact ⟨by decide, by decide⟩
  | some v =>
   have h1 := (AaV hd (BZ ps a)).inv.get hg
   have h2 := Qz (ends (BZ ps a) ds) (Hs ds (BZ ps a))
   rw [Ph] at h2
   unfold Oo; dsimp only
   omega
theorem Aa7 {n : Int} : inI n ↔ -9223372036854775808 <= n /\ n <= 9223372036854775807 := Iff.rfl
def RW1 (_ : Places × List (List UInt8)) (y : Int × Int) : Prop := inI y.1
def tWy : Tab
 | 152 => (gOf aMi Ho)
 | _ => gNo
theorem Amz : ∀ f, PU f (tWy f) := fun f => by
 unfold tWy
 split
 ·exact Ajy
 ·exact Ah.no
theorem Vv : ∃ F : Places × List (List UInt8) -> Int × Int, (∀ x, WyP x -> RW1 x (F x)) /\ PU 163 (gOf aWy fun x => (WyP x, Am (F x))) := by
 have hG := Amz
 refine SH.p (val := Am) (R := RW1) WP (by simp [aWy]) ?_
 rintro ⟨⟨ps, ds⟩, cs⟩ hv Q hQ
 have Y := SH.E EF0 hG mixed
 have Z := SH.T EF0 hG
 obtain ⟨hM, hcl⟩ : MOk ⟨ps, ds⟩ /\ cs.length <= 1000 := hv
 have hd : ds.length <= 1000 := hM.2
 refine Ab (Z 0 rfl ?_)
 simp only [go_sem, simprocAttr, aWy, Places.enc, tWy]
 refine Ab (Z 1 rfl ?_)
 simp only [go_sem, simprocAttr, tWy]
 refine Ab (Ab (Z 2 rfl ?_))
 simp only [go_sem, simprocAttr, tWy]
 refine Au ?_
 refine Bg (α := Nat × Int) (fun γ => (0 <= γ.2 /\ γ.2 <= 100000000 * (γ.1 : Int)) /\ (γ.1 <= 1000)) (fun γ => ⟨mkE [(1, V.list (strs cs) false), (2, V.ptr 2 0), (6, .int .i64 γ.2), (7, .int .i64 γ.1)], mkH [(2, Ob.box 25 [V.list (List.map Airport.enc ps) false, V.list (List.map Distance.enc ds) false])]⟩) (fun γ => cs.length - γ.1) (0, 0) ⟨⟨by decide, by decide⟩, by decide⟩ ?_ ?_
 ·exact leM
 rintro ⟨j, s⟩ ⟨hs, hj⟩ KL0 hKL0
 try dsimp only at *
 refine Ab (Ab (Z 3 rfl ?_))
 simp only [go_sem, simprocAttr, inI, tWy]
 and_intros <;> try exact sdA
 refine Ag rfl (fun hc3 => ?_) fun hc3 => ?_
 ·have hc3 : j + 1 < cs.length := by simp at hc3; omega
  refine Aj ?_
  refine Ab (Au ?_)
  have hj0 : j < cs.length := by omega
  have e1 : ((j : Int) + 1).toNat = j + 1 := by omega
  have hbd := AbA (ps := ps) hd cs[j] cs[j + 1]
  refine Ab (Y 5 rfl (by kernel_rfl) ?_)
  simp only [go_sem, simprocAttr, inI, e1, FY _ _ _ hj0, FY _ _ _ hc3, hj0, hc3, GG, hM, tWy]
  and_intros <;> try exact sdA
  refine Ab (Ab (Z 6 rfl ?_))
  simp only [go_sem, simprocAttr, tWy]
  refine Ag rfl (fun hc6 => ?_) fun hc6 => ?_
  ·simp only [hcL] at hc6
   refine Ab (Z 7 rfl ?_)
   simp only [go_sem, simprocAttr, tWy]
   refine Ak (hQ _ _ (.inl rfl) ?_ ?_ ?_) <;> simp only [go_sem, simprocAttr, Am]
   exact ⟨(_, _), rfl, Aa7.2 ⟨by simp only; omega, by simp only; omega⟩⟩
  simp only [hcL] at hc6
  refine Aj ?_
  refine Z 8 rfl ?_
  simp only [go_sem, simprocAttr, inI, tWy]
  and_intros <;> try exact sdA
  refine Z 4 rfl ?_
  simp only [go_sem, simprocAttr, inI, tWy]
  and_intros <;> try exact sdA
  refine hKL0 (j + 1, s + (Ex ps ds cs[j] cs[j + 1]).1) _ ?_ ?_ ?_
  ·(try dsimp only); exact ⟨by omega, by omega⟩
  ·(try dsimp only); omega
  exact leM
 refine Bc ?_
 simp only [go_sem, simprocAttr]
 refine Ab (Z 9 rfl ?_)
 simp only [go_sem, simprocAttr, tWy]
 refine Ak (hQ _ _ (.inl rfl) ?_ ?_ ?_) <;> simp only [go_sem, simprocAttr, Am]
 exact ⟨(_, _), rfl, Aa7.2 ⟨by simp only; omega, by simp only; omega⟩⟩
def fWy : Places × List (List UInt8) -> Int × Int := Vv.choose
theorem AoA : ∀ x, WyP x -> RW1 x (fWy x) := Vv.choose_spec.1
theorem AoB : PU 163 (gOf aWy fun x => (WyP x, Am (fWy x))) := Vv.choose_spec.2
theorem OJ (ps : List Airport) (ds : List Distance) (cs : List (List UInt8)) : gOf aWy (fun x => (WyP x, Am (fWy x))) [.agg [.list (ps.map Airport.enc) false, .list (ds.map Distance.enc) false], .list (strs cs) false] = (WyP (⟨ps, ds⟩, cs), .tup [.int .i64 (fWy (⟨ps, ds⟩, cs)).1, .int .i64 (fWy (⟨ps, ds⟩, cs)).2]) := Al (F := fun x => (WyP x, Am (fWy x))) WP (⟨ps, ds⟩, cs)
def RI1 {α : Type} (_ : α) (y : Int × Int) : Prop := -1000 <= y.1 /\ y.1 <= 1000
theorem ri1 {α : Type} (x : α) {a b : Int} (h1 : -1000 <= a) (h2 : a <= 1000) : RI1 x (a, b) := ⟨h1, h2⟩
theorem TJ : ∃ F : Int × Int -> Int × Int, (∀ x, inI x.1 /\ inI x.2 -> RI1 x (F x)) /\ PU 164 (gOf CP fun x => (inI x.1 /\ inI x.2, Am (F x))) := by
 have hG := AH
 refine Zh.p (val := Am) (R := RI1) Jz (by simp [CP]) ?_
 rintro ⟨n, m⟩ hv Q hQ
 have Z := Zh.T EF0 hG
 obtain ⟨h1, h2⟩ : inI n /\ inI m := hv
 refine Ab (Z 0 rfl ?_)
 simp only [go_sem, simprocAttr, CP]
 refine Ab (Ab (Z 1 rfl ?_))
 simp only [go_sem, simprocAttr]
 and_intros <;> try exact sdA
 refine Ag rfl (fun hb1 => ?_) fun hb1 => ?_
 ·refine Ab (Z 2 rfl ?_)
  simp only [go_sem, simprocAttr]
  refine Ak (hQ _ _ (.inl rfl) ?_ ?_ ?_) <;> simp only [go_sem, simprocAttr, Am]
  exact ⟨(0, 2), rfl, ri1 _ (by decide) (by decide)⟩
 simp only [Ce, decide_eq_false_iff_not] at hb1
 refine Aj ?_
 refine Ab (Ab (Z 3 rfl ?_))
 simp only [go_sem, simprocAttr]
 refine Au ?_
 refine Bg (α := Nat) (fun i => (i <= 30)) (fun i => ⟨mkE [(0, V.int IntKind.i64 n), (1, V.int IntKind.i64 m), (6, .int .i64 i)], mkH []⟩) (fun i => 30 - i) 0 (Ar _) ?_ ?_
 ·exact leM
 rintro i hi KL0 hKL0
 try dsimp only at *
 refine Ab (Ab (Z 4 rfl ?_))
 simp only [go_sem, simprocAttr]
 refine Ag rfl (fun hc4 => ?_) fun hc4 => ?_
 ·simp only [hcL] at hc4
  refine Aj ?_
  refine Ab (Au ?_)
  have hmm : m * (100 + (i : Int)) <= 1099511627776 * 200 := Int.le_trans (Qa (show m <= 1099511627776 by omega) (by omega)) (Qc (by omega) (by decide))
  have hm0 : 0 <= m * (100 + (i : Int)) := Il (by omega) (by omega)
  refine Ab (Z 6 rfl ?_)
  simp only [go_sem, simprocAttr, inI]
  and_intros <;> try exact sdA
  refine Ag rfl (fun hc6 => ?_) fun hc6 => ?_
  ·simp only [hcL] at hc6
   refine Ab (Z 7 rfl ?_)
   simp only [go_sem, simprocAttr]
   refine Ak (hQ _ _ (.inl rfl) ?_ ?_ ?_) <;> simp only [go_sem, simprocAttr, Am]
   exact ⟨((i : Int), 0), rfl, ri1 _ (by omega) (by omega)⟩
  simp only [hcL] at hc6
  refine Aj ?_
  refine Z 5 rfl ?_
  simp only [go_sem, simprocAttr, inI]
  and_intros <;> try exact sdA
  refine hKL0 (i + 5) _ ?_ ?_ ?_
  ·(try dsimp only); omega
  ·(try dsimp only); omega
  exact leM
 simp only [hcL] at hc4
 refine Bc ?_
 simp only [go_sem, simprocAttr]
 refine Ab (Z 8 rfl ?_)
 simp only [go_sem, simprocAttr]
 refine Ak (hQ _ _ (.inl rfl) ?_ ?_ ?_) <;> simp only [go_sem, simprocAttr, Am]
 exact ⟨(0, 22), rfl, ri1 _ (by decide) (by decide)⟩
def fLv : Int × Int -> Int × Int := TJ.choose
theorem AhE : ∀ x : Int × Int, inI x.1 /\ inI x.2 -> RI1 x (fLv x) := TJ.choose_spec.1
theorem AhF : PU 164 (gOf CP fun x => (inI x.1 /\ inI x.2, Am (fLv x))) := TJ.choose_spec.2
theorem Ok (a b : Int) : gOf CP (fun x => (inI x.1 /\ inI x.2, Am (fLv x))) [.int .i64 a, .int .i64 b] = (inI a /\ inI b, .tup [.int .i64 (fLv (a, b)).1, .int .i64 (fLv (a, b)).2]) := Al (F := fun x => (inI x.1 /\ inI x.2, Am (fLv x))) Jz (a, b)
def HR (x : Places × List (List UInt8) × Int) : List V := [.agg x.1.enc, .list (strs x.2.1) false, .int .i64 x.2.2]
theorem VW (a b : Places × List (List UInt8) × Int) (h : HR a = HR b) : a = b := by
 obtain ⟨a_p, a_cs, a_m⟩ := a
 obtain ⟨b_p, b_cs, b_m⟩ := b
 simp only [HR, Bz, V.str.injEq, V.int.injEq, V.bool.injEq, V.agg.injEq, V.list.injEq, and_true, true_and] at h
 obtain ⟨h0, h1, h2⟩ := h
 replace h0 := Places.inj _ _ h0
 subst h0
 replace h1 := Iy h1
 subst h1
 subst h2
 rfl
def O3P (x : Places × List (List UInt8) × Int) : Prop := WyP (x.1, x.2.1) /\ inI x.2.2
def LL : Tab
 | 163 => (gOf aWy fun x => (WyP x, Am (fWy x)))
 | 164 => (gOf CP fun x => (inI x.1 /\ inI x.2, Am (fLv x)))
 | _ => gNo
theorem Al6 : ∀ f, PU f (LL f) := fun f => by
 unfold LL
 split
 ·exact AoB
 ·exact AhF
 ·exact Ah.no
theorem TQ : ∃ F : Places × List (List UInt8) × Int -> Int × Int, (∀ x, O3P x -> RI1 x (F x)) /\ PU 101 (gOf HR fun x => (O3P x, Am (F x))) := by
 have hG := Al6
 refine Yw.p (val := Am) (R := RI1) VW (by simp [HR]) ?_
 rintro ⟨⟨ps, ds⟩, cs, m⟩ hv Q hQ
 have Z := Yw.T EF0 hG
 obtain ⟨hM, hm⟩ : WyP (⟨ps, ds⟩, cs) /\ inI m := hv
 have hW : inI (fWy (⟨ps, ds⟩, cs)).1 := AoA _ hM
 refine Ab (Z 0 rfl ?_)
 simp only [go_sem, simprocAttr, HR, Places.enc, LL, OJ, Ok, hM, hm, hW]
 refine Ab (Z 1 rfl ?_)
 simp only [go_sem, simprocAttr, LL, OJ, Ok, hM, hm, hW]
 and_intros <;> try exact sdA
 refine Ab (Ab (Z 2 rfl ?_))
 simp only [go_sem, simprocAttr, LL, OJ, Ok, hM, hm, hW]
 refine Ag rfl (fun hc2 => ?_) fun hc2 => ?_
 ·simp only [hcL] at hc2
  refine Ab (Z 3 rfl ?_)
  simp only [go_sem, simprocAttr, LL, OJ, Ok, hM, hm, hW]
  refine Ak (hQ _ _ (.inl rfl) ?_ ?_ ?_) <;> simp only [go_sem, simprocAttr, Am]
  exact ⟨(_, _), rfl, ri1 _ (by decide) (by decide)⟩
 simp only [hcL] at hc2
 refine Aj ?_
 refine Ab (Z 4 rfl ?_)
 simp only [go_sem, simprocAttr, LL, OJ, Ok, hM, hm, hW]
 and_intros <;> try exact sdA
 refine Ak (hQ _ _ (.inl rfl) ?_ ?_ ?_) <;> simp only [go_sem, simprocAttr, Am]
 exact ⟨(_, _), rfl, AhE ((fWy (⟨ps, ds⟩, cs)).1, m) ⟨hW, hm⟩⟩
def fO3 : Places × List (List UInt8) × Int -> Int × Int := TQ.choose
theorem Aic : ∀ x, O3P x -> RI1 x (fO3 x) := TQ.choose_spec.1
theorem AbU : PU 101 (gOf HR fun x => (O3P x, Am (fO3 x))) := TQ.choose_spec.2
theorem Bs (ps : List Airport) (ds : List Distance) (cs : List (List UInt8)) (m : Int) : gOf HR (fun x => (O3P x, Am (fO3 x))) [.agg [.list (ps.map Airport.enc) false, .list (ds.map Distance.enc) false], .list (strs cs) false, .int .i64 m] = (O3P (⟨ps, ds⟩, cs, m), .tup [.int .i64 (fO3 (⟨ps, ds⟩, cs, m)).1, .int .i64 (fO3 (⟨ps, ds⟩, cs, m)).2]) := Al (F := fun x => (O3P x, Am (fO3 x))) VW (⟨ps, ds⟩, cs, m)
def RAm {α : Type} (_ : α) (y : Int × Int) : Prop := y.2 = 0 -> 0 <= y.1 /\ y.1 <= 1099511627776
theorem Qu {α : Type} (x : α) {a h : Int} (ha : 0 <= a) (hh : 0 <= h) : RAm x (Gz a h) := by
 intro e
 unfold Gz at e ⊢
 split at e
 ·rename_i hf
  rw [if_pos hf]
  simp only [By] at hf
  have h1 := (Mu _).1 hf.2
  refine ⟨?_, h1.2⟩
  have h2 : 0 <= a * h := Il ha hh
  unfold Jj
  dsimp only
  omega
 ·exact absurd e (by decide)
def ApP (x : Int × Int) : Prop := 0 <= x.1 /\ inI x.1 /\ inI x.2
def tAp : Tab
 | 165 => (gOf CP HZ)
 | _ => gNo
theorem AdB : ∀ f, PU f (tAp f) := fun f => by
 unfold tAp
 split
 ·exact Acu
 ·exact Ah.no
theorem RU : ∃ F : Int × Int -> Int × Int, (∀ x, ApP x -> RAm x (F x)) /\ PU 102 (gOf CP fun x => (ApP x, Am (F x))) := by
 have hG := AdB
 refine Yx.p (val := Am) (R := RAm) Jz (by simp [CP]) ?_
 rintro ⟨a, p⟩ hv Q hQ
 have Z := Yx.T EF0 hG
 obtain ⟨h0, h1, h2⟩ : 0 <= a /\ inI a /\ inI p := hv
 refine Ab (Z 0 rfl ?_)
 simp only [go_sem, simprocAttr, CP, tAp, Cb, Am]
 refine Ab (Ab (Z 1 rfl ?_))
 simp only [go_sem, simprocAttr, tAp, Cb, Am]
 refine Au ?_
 refine Bg (α := Nat) (fun i => (i <= 30)) (fun i => ⟨mkE [(0, V.int IntKind.i64 a), (1, V.int IntKind.i64 p), (6, .int .i64 i)], mkH []⟩) (fun i => 30 - i) 0 (Ar _) ?_ ?_
 ·exact leM
 rintro i hi KL0 hKL0
 try dsimp only at *
 refine Ab (Ab (Z 2 rfl ?_))
 simp only [go_sem, simprocAttr, tAp, Cb, Am]
 refine Ag rfl (fun hc2 => ?_) fun hc2 => ?_
 ·simp only [hcL] at hc2
  refine Aj ?_
  refine Ab (Au ?_)
  refine Ab (Z 4 rfl ?_)
  simp only [go_sem, simprocAttr, tAp, Cb, Am]
  refine Ag rfl (fun hc4 => ?_) fun hc4 => ?_
  ·simp only [hcL] at hc4
   refine Ab (Z 5 rfl ?_)
   simp only [go_sem, simprocAttr, inI, tAp, Cb, Am]
   and_intros <;> try exact sdA
   refine Ak (hQ _ _ (.inl rfl) ?_ ?_ ?_) <;> simp only [go_sem, simprocAttr, Am]
   exact ⟨Gz a ((100 + (i : Int)) * 100), rfl, Qu _ h0 (by omega)⟩
  simp only [hcL] at hc4
  refine Aj ?_
  refine Z 3 rfl ?_
  simp only [go_sem, simprocAttr, inI, tAp, Cb, Am]
  and_intros <;> try exact sdA
  refine hKL0 (i + 5) _ ?_ ?_ ?_
  ·(try dsimp only); omega
  ·(try dsimp only); omega
  exact leM
 simp only [hcL] at hc2
 refine Bc ?_
 simp only [go_sem, simprocAttr]
 refine Ab (Z 6 rfl ?_)
 simp only [go_sem, simprocAttr, tAp, Cb, Am]
 refine Ak (hQ _ _ (.inl rfl) ?_ ?_ ?_) <;> simp only [go_sem, simprocAttr, Am]
 exact ⟨(0, 2), rfl, fun e => absurd e (by decide)⟩
def fAp : Int × Int -> Int × Int := RU.choose
theorem AeL : ∀ x, ApP x -> RAm x (fAp x) := RU.choose_spec.1
theorem AeM : PU 102 (gOf CP fun x => (ApP x, Am (fAp x))) := RU.choose_spec.2
theorem Fg (a b : Int) : gOf CP (fun x => (ApP x, Am (fAp x))) [.int .i64 a, .int .i64 b] = (ApP (a, b), .tup [.int .i64 (fAp (a, b)).1, .int .i64 (fAp (a, b)).2]) := Al (F := fun x => (ApP x, Am (fAp x))) Jz (a, b)
def Kz := ar (vg Rule.enc) (ar V.str (ao vi))
theorem Wg : Ij Kz := ijr (ijg Rule.inj) (ijr ijs (ijo iji))
def PyP (x : Rule × List UInt8 × Int) : Prop := RuleOk x.1 /\ Ng x.1 /\ 0 <= x.2.2 /\ inI x.2.2
theorem Ui : ∃ F : Rule × List UInt8 × Int -> Int × Int, (∀ x, PyP x -> RAm x (F x)) /\ PU 103 (gOf Kz fun x => (PyP x, Am (F x))) := by
 have hG := AdB
 refine Yy.p (val := Am) (R := RAm) Wg (by simp [Kz]) ?_
 rintro ⟨⟨a1, ⟨k, l, a, b, ⟨x, y, z⟩, t⟩, a3, a4, a5, a6, a7, a8⟩, u, n⟩ hv Q hQ
 have Z := Yy.T EF0 hG
 obtain ⟨h1, h2, h3, h4⟩ : PyP (⟨a1, .mk k l a b ⟨x, y, z⟩ t, a3, a4, a5, a6, a7, a8⟩, u, n) := hv
 have hR5 : a8.length <= 1000000 := h1.p.1
 dsimp only at h3 h4
 refine Ab (Z 0 rfl ?_)
 simp only [go_sem, simprocAttr, Kz, Rule.enc_at, tAp, Cb, Am]
 refine Ab (Ab (Z 1 rfl ?_))
 simp only [go_sem, simprocAttr, tAp, Cb, Am]
 refine Au ?_
 refine Bg (α := Nat) (fun i => (i <= a8.length)) (fun i => ⟨mkE [(1, V.str u), (2, V.int IntKind.i64 n), (3, V.ptr 3 0), (8, .int .i64 i)], mkH [(3, Ob.box 135 [V.int IntKind.i64 a1, V.int IntKind.i64 k, V.list (List.map Cond.enc l) false, V.int IntKind.i64 a, V.int IntKind.i64 b, V.int IntKind.i64 x, V.int IntKind.i64 y, V.int IntKind.i64 z, V.list (strs t) false, V.list (Aq a3) false, V.int IntKind.i64 a4, V.int IntKind.i64 a5, V.int IntKind.i64 a6, V.int IntKind.i64 a7, V.list (List.map Pct.enc a8) false])]⟩) (fun i => a8.length - i) 0 (Ar _) ?_ ?_
 ·exact leM
 rintro i hi KL0 hKL0
 try dsimp only at *
 refine Ab (Ab (Z 2 rfl ?_))
 simp only [go_sem, simprocAttr, Ac, tAp, Cb, Am]
 refine Ag rfl (fun hc2 => ?_) fun hc2 => ?_
 ·simp only [hcL] at hc2
  refine Aj ?_
  refine Ab (Au ?_)
  obtain ⟨⟨q1, q2⟩, hq⟩ : ∃ q, q = a8[i] := ⟨_, rfl⟩
  have hqo : LT a8[i] := h2 _ (AF hc2)
  rw [<- hq] at hqo
  obtain ⟨hq1, hq2⟩ : 0 <= q2 /\ q2 <= 1000 := hqo
  refine Ab (Z 4 rfl ?_)
  simp only [go_sem, simprocAttr, Ap _ _ _ _ hc2, hc2, Ac, <- hq, Pct.enc, tAp, Cb, Am]
  and_intros <;> try exact sdA
  refine Ag rfl (fun hc4 => ?_) fun hc4 => ?_
  ·simp only [hcL] at hc4
   refine Ab (Z 5 rfl ?_)
   simp only [go_sem, simprocAttr, inI, Ap _ _ _ _ hc2, hc2, Ac, <- hq, Pct.enc, tAp, Cb, Am]
   and_intros <;> try exact sdA
   refine Ak (hQ _ _ (.inl rfl) ?_ ?_ ?_) <;> simp only [go_sem, simprocAttr, Am]
   exact ⟨Gz n (100 * q2), rfl, Qu _ h3 (by omega)⟩
  simp only [hcL] at hc4
  refine Aj ?_
  refine Z 3 rfl ?_
  simp only [go_sem, simprocAttr, inI, tAp, Cb, Am]
  and_intros <;> try exact sdA
  refine hKL0 (i + 1) _ ?_ ?_ ?_
  ·(try dsimp only); exact hc2
  ·(try dsimp only); omega
  exact leM
 simp only [hcL] at hc2
 refine Bc ?_
 simp only [go_sem, simprocAttr]
 refine Ab (Z 6 rfl ?_)
 simp only [go_sem, simprocAttr, tAp, Cb, Am]
 and_intros <;> try exact sdA
 refine Ak (hQ _ _ (.inl rfl) ?_ ?_ ?_) <;> simp only [go_sem, simprocAttr, Am]
 exact ⟨Gz n 10000, rfl, Qu _ h3 (by decide)⟩
def fPy : Rule × List UInt8 × Int -> Int × Int := Ui.choose
theorem Ajc : ∀ x, PyP x -> RAm x (fPy x) := Ui.choose_spec.1
theorem Aje : PU 103 (gOf Kz fun x => (PyP x, Am (fPy x))) := Ui.choose_spec.2
theorem Ajd (a1 : Int) (k : Int) (l : List Cond) (a b x y z : Int) (t : List (List UInt8)) (a3 : List Int) (a4 a5 a6 a7 : Int) (a8 : List Pct) (u : List UInt8) (n : Int) : gOf Kz (fun x => (PyP x, Am (fPy x))) [.agg [.int .i64 a1, .int .i64 k, .list (l.map Cond.enc) false, .int .i64 a, .int .i64 b, .int .i64 x, .int .i64 y, .int .i64 z, .list (strs t) false, .list (Aq a3) false, .int .i64 a4, .int .i64 a5, .int .i64 a6, .int .i64 a7, .list (a8.map Pct.enc) false], .str u, .int .i64 n] = (PyP (⟨a1, .mk k l a b ⟨x, y, z⟩ t, a3, a4, a5, a6, a7, a8⟩, u, n), .tup [.int .i64 (fPy (⟨a1, .mk k l a b ⟨x, y, z⟩ t, a3, a4, a5, a6, a7, a8⟩, u, n)).1, .int .i64 (fPy (⟨a1, .mk k l a b ⟨x, y, z⟩ t, a3, a4, a5, a6, a7, a8⟩, u, n)).2]) := by
 rw [<- Rule.enc_at]; exact Al (F := fun x => (PyP x, Am (fPy x))) Wg (_, u, n)
theorem AbK : ∀ L : List Int, (L.map fun x => -x).sum = -L.sum
 | [] => rfl
 | y :: L => by rw [BP, Fv, AbK L, Fv]; omega
theorem Adc {a : Int} {l L : List Int} (h : ShF a l L) : ∀ x ∈ L, -1099511627776 <= x /\ x <= 1099511627776 := by
 intro x hx
 obtain ⟨i, hi, rfl⟩ := Gv.1 hx
 have hb := h.bd
 have hs := h.sum
 have hg := h.sg
 rcases Int.le_total 0 a with h0 | h0
 ·have hnn : ∀ w ∈ L, 0 <= w := fun w hw => by obtain ⟨j, hj, rfl⟩ := Gv.1 hw; exact (hg j hj).1 h0
  have := On hnn _ hx
  have := hnn _ hx
  omega
 ·have hnn : ∀ w ∈ L.map (fun x => -x), 0 <= w := fun w hw => by
   obtain ⟨y, hy, rfl⟩ := An.1 hw
   obtain ⟨j, hj, rfl⟩ := Gv.1 hy
   have := (hg j hj).2 h0; omega
  have h1 := On hnn _ (An.2 ⟨_, hx, rfl⟩)
  have h2 := hnn _ (An.2 ⟨_, hx, rfl⟩)
  have h3 := AbK L
  omega
structure PtF (n at' : Int) (X : List Int) (p : Part) : Prop where
 lo : at' <= p.from'
 mid : p.from' < p.to'
 hi : p.to' <= n
 sg : 0 <= p.amount -> ∀ k : Nat, p.from' <= at' + k -> at' + k < p.to' -> 0 <= X.getD k 0
 sum : ((X.take (p.to' - at').toNat).drop (p.from' - at').toNat).sum = p.amount
theorem XG {W : List Int} {n : Int} (hn : n <= W.length) : ∀ {parts : List Part} {at' : Int} {X : List Int}, Ea n at' parts = true -> 0 <= at' -> DQ W parts = (0, X) ->
  at' + X.length = n /\ (∀ p ∈ parts, PtF n at' X p) /\ ∀ x ∈ X, -1099511627776 <= x /\ x <= 1099511627776
 | [], at', X, hd, h0, hc => by
  rw [Ea, decide_eq_true_eq] at hd
  rw [DQ] at hc
  injection hc with _ hc
  subst hc
  exact ⟨by simp; exact hd, fun p hp => by simp at hp, fun x hx => by simp at hx⟩
 | p :: parts, at', X, hd, h0, hc => by
  rw [Ea] at hd
  split at hd
  ·cases hd
  rename_i hp
  have hp1 : p.from' = at' /\ at' < p.to' /\ p.to' <= n := by omega
  rw [DQ] at hc
  dsimp only at hc
  split at hc
  ·rename_i he; injection hc with hc1 hc2; exact absurd hc1 he
  rename_i he
  have he0 : (Ey p.amount ((W.take p.to'.toNat).drop p.from'.toNat)).1 = 0 := by simpa using he
  split at hc
  ·rename_i he2; injection hc with hc1 hc2; exact absurd hc1 he2
  rename_i he2
  have he20 : (DQ W parts).1 = 0 := by simpa using he2
  injection hc with _ hc
  obtain ⟨⟨e1, s⟩, hs⟩ : ∃ y, Ey p.amount ((W.take p.to'.toNat).drop p.from'.toNat) = y := ⟨_, rfl⟩
  obtain ⟨⟨e2, r⟩, hr⟩ : ∃ y, DQ W parts = y := ⟨_, rfl⟩
  rw [hs] at he0 hc
  rw [hr] at he20 hc
  dsimp only at he0 he20 hc
  subst he0 he20 hc
  have hF := (UJ hs).2 rfl
  have hsl : s.length = (p.to' - p.from').toNat := by rw [hF.len, BT, Bx]; omega
  obtain ⟨g1, g2, g3⟩ := XG hn hd (by omega) hr
  refine ⟨by rw [Ai, hsl]; omega, fun q hq => ?_, fun x hx => ?_⟩
  ·rcases AK.1 hq with rfl | hq
   ·refine ⟨by omega, by omega, by omega, fun ha k h1 h2 => ?_, ?_⟩
    ·have hk : k < s.length := by omega
     rw [AI, Hx hk, AY hk]
     exact (hF.sg k hk).1 ha
    ·rw [show (q.from' - at').toNat = 0 by omega, CT, show (q.to' - at').toNat = s.length by omega, List.take_left']
     ·exact hF.sum
     ·rfl
   ·have f := g2 q hq
    have hl := f.lo
    refine ⟨by omega, f.mid, f.hi, fun ha k h1 h2 => ?_, ?_⟩
    ·have hk : s.length <= k := by omega
     rw [AI, Hw hk, <- AI]
     exact f.sg ha _ (by omega) (by omega)
    ·have hm := f.mid
     rw [<- f.sum, show (q.to' - at').toNat = s.length + (q.to' - p.to').toNat by omega, show (q.from' - at').toNat = s.length + (q.from' - p.to').toNat by omega, List.take_length_add_append, List.drop_length_add_append]
  ·rcases BU.1 hx with hx | hx
   ·exact Adc hF x hx
   ·exact g3 x hx
theorem TV : ∀ (s : List UInt8) (p : Bool), s ≠ [] -> s.getD (s.length - 1) 0 = 32 -> okF p s = false
 | [c], p, _, h => by
  have : c = 32 := by simpa using h
  subst this
  rw [okF, if_pos rfl]; simp [okF]
 | c :: d :: s, p, _, h => by
  have h2 : (d :: s).getD ((d :: s).length - 1) 0 = 32 := by simpa using h
  rw [okF, TV (d :: s) true (by simp) h2, TV (d :: s) false (by simp) h2]
  simp
def Kg (s : List UInt8) (i : Nat) : Bool := decide (i = 0) || decide (s.getD (i - 1) 0 = 32)
theorem Aiz {s : List UInt8} {i : Nat} (hi : i < s.length) (p : Bool) : okF p (s.drop i) = if s.getD i 0 = 32 then !p && okF true (s.drop (i + 1)) else capB ((s.getD i 0).toNat : Int) && okF false (s.drop (i + 1)) := by
 rw [DS hi, okF]
 have e : s.getD i 0 = s[i] := by rw [AI, AY hi]; rfl
 rw [e]
theorem Pc (c : UInt8) : decide ((c.toNat : Int) = 32) = decide (c = 32) := decide_eq_decide.2 ⟨fun h => UInt8.toNat_inj.1 (by show c.toNat = 32; omega), fun h => by rw [h]; rfl⟩
theorem Ae5 : capB 32 = false := by decide
theorem Ah2 {s : List UInt8} (hlast : s.getD (s.length - 1) 0 = 32 -> okF true s = false) (h : (decide ((s.length : Int) < 1) || decide (30 < (s.length : Int)) || decide (((s.getD 0 0).toNat : Int) = 32) || decide (((s.getD (s.length - 1) 0).toNat : Int) = 32)) = true) : GU s = false := by
 unfold GU
 rw [Pc, Pc] at h
 simp only [EW, decide_eq_true_eq] at h
 rcases h with ((h | h) | h) | h
 ·have : s = [] := Qb (by omega)
  subst this; decide
 ·rw [decide_eq_false (by omega), Jb]
 ·cases s with
  | nil => decide
  | cons c s =>
   have : c = 32 := by simpa using h
   subst this
   rw [okF, if_pos rfl]; simp
 ·rw [hlast h, Dh]
def Fd : Tab
 | 57 => (Ct capB)
 | _ => gNo
theorem Anq : ∀ f, PU f (Fd f) := fun f => by
 unfold Fd
 split
 ·exact QF
 ·exact Ah.no
theorem FM (p : Int -> Bool) (n : Int) : Ct p [.int .u8 n] = (True, .bool (p n)) := rfl
theorem AjA : PU 22 (gOf Bh Gj) := by
 have hG := Anq
 refine ZM.a FD (by simp [Bh]) ?_
 rintro s hv C hN Q hQ
 have Z := ZM.R EF0 hG hN
 replace hv : s.length <= 140737488355328 := hv
 refine Aa (Z 0 rfl ?_)
 simp only [go_sem, simprocAttr, Bh, Fd, FM]
 refine Aa ?_
 by_cases h0 : s = []
 ·subst h0
  refine Aa (Z 1 rfl ?_)
  simp only [go_sem, simprocAttr, inI, Fd, FM]
  and_intros <;> try exact sdA
  refine IJ rfl ?_
  refine Aa (Z 2 rfl ?_)
  simp only [go_sem, simprocAttr, Fd, FM]
  refine Ad (hQ _ _ (.inl rfl) ?_ ?_ ?_) <;> simp only [go_sem, simprocAttr, Gj]
  exact congrArg V.bool (by decide)
 have hpos : 0 < s.length := Lw.2 h0
 have e1 : ((s.length : Int) - 1).toNat = s.length - 1 := by omega
 have hlast : s.getD (s.length - 1) 0 = 32 -> okF true s = false := TV s true h0
 refine Aa (Z 1 rfl ?_)
 simp only [go_sem, simprocAttr, inI, Fd, FM, e1]
 and_intros <;> try exact sdA
 refine Ae rfl (fun hb1 => ?_) fun hb1 => ?_
 ·refine Aa (Z 2 rfl ?_)
  simp only [go_sem, simprocAttr, Fd, FM]
  refine Ad (hQ _ _ (.inl rfl) ?_ ?_ ?_) <;> simp only [go_sem, simprocAttr, Gj]
  rw [Ah2 hlast hb1]
 refine Af ?_
 refine Aa ?_
 simp only [Ce, decide_eq_false_iff_not] at hb1
 obtain ⟨⟨⟨g1, g2⟩, g3⟩, g4⟩ := hb1
 have hl : s.length <= 30 := by omega
 have hd30 : decide ((s.length : Int) <= 30) = true := decide_eq_true (by omega)
 refine Aa (Z 3 rfl ?_)
 simp only [go_sem, simprocAttr, Fd, FM]
 refine Ao ?_
 refine AX (α := Nat) (fun i => (i <= s.length) /\ (okF true s = okF (Kg s i) (s.drop i))) (fun i => ⟨mkE [(0, V.str s), (3, .int .i64 i)], mkH []⟩) (fun i => s.length - i) 0 ⟨Ar _, rfl⟩ ?_ ?_
 ·exact leM
 rintro i ⟨hi, hinv⟩ KL0 hKL0
 try dsimp only at *
 refine Aa (Aa (Z 4 rfl ?_))
 simp only [go_sem, simprocAttr, Fd, FM]
 refine Ae rfl (fun hc4 => ?_) fun hc4 => ?_
 ·simp only [hcL] at hc4
  refine Af ?_
  refine Aa (Ao ?_)
  have hst := Aiz hc4 (Kg s i)
  have hbyte := Pc (s.getD i 0)
  have hbyte1 := Pc (s.getD (i - 1) 0)
  have hr1 : Kg s (i + 1) = decide (s.getD i 0 = 32) := by unfold Kg; simp
  by_cases hz : s.getD i 0 = 32
  ·rw [decide_eq_true hz] at hbyte hr1
   have hi0 : i ≠ 0 := fun h => g3 (by rw [h] at hz; rw [hz]; rfl)
   have e2 : ((i : Int) - 1).toNat = i - 1 := by omega
   have e3 : (0 : Int) <= (i : Int) - 1 := by omega
   have e4 : (i : Int) - 1 < (s.length : Int) := by omega
   have hcz : capB ((s.getD i 0).toNat : Int) = false := by rw [hz]; exact Ae5
   have hr0 : Kg s i = decide (s.getD (i - 1) 0 = 32) := by unfold Kg; rw [decide_eq_false hi0, Bool.false_or]
   refine Aa (Z 6 rfl ?_)
   simp only [go_sem, simprocAttr, inI, hbyte, hbyte1, Fd, FM, e2, e3, e4, hcz]
   and_intros <;> try exact sdA
   refine Ae rfl (fun hb6 => ?_) fun hb6 => ?_
   ·refine Aa (Z 7 rfl ?_)
    simp only [go_sem, simprocAttr, Fd, FM]
    refine Ad (hQ _ _ (.inl rfl) ?_ ?_ ?_) <;> simp only [go_sem, simprocAttr, Gj, GU]
    rw [hinv, hst, if_pos hz, hr0, hb6]; simp
   refine Af ?_
   refine Z 5 rfl ?_
   simp only [go_sem, simprocAttr, inI, Fd, FM]
   and_intros <;> try exact sdA
   refine hKL0 (i + 1) _ ?_ ?_ ?_
   ·(try dsimp only); exact ⟨hc4, by rw [hinv, hst, if_pos hz, hr0, hb6, hr1]; rfl⟩
   ·(try dsimp only); omega
   exact leM
  rw [decide_eq_false hz] at hbyte hr1
  generalize hcb : capB ((s.getD i 0).toNat : Int) = cb at hst
  refine Aa (Z 6 rfl ?_)
  simp only [go_sem, simprocAttr, inI, hbyte, hbyte1, Fd, FM, hcb]
  and_intros <;> try exact sdA
  refine Ae rfl (fun hb6 => ?_) fun hb6 => ?_
  ·refine Aa (Z 7 rfl ?_)
   simp only [go_sem, simprocAttr, Fd, FM]
   refine Ad (hQ _ _ (.inl rfl) ?_ ?_ ?_) <;> simp only [go_sem, simprocAttr, Gj, GU]
   rw [hinv, hst, if_neg hz]; simp at hb6; rw [hb6]; simp
  refine Af ?_
  refine Z 5 rfl ?_
  simp only [go_sem, simprocAttr, inI, Fd, FM]
  and_intros <;> try exact sdA
  refine hKL0 (i + 1) _ ?_ ?_ ?_
  ·(try dsimp only); exact ⟨hc4, by rw [hinv, hst, if_neg hz, hr1]; simp at hb6; rw [hb6]; simp⟩
  ·(try dsimp only); omega
  exact leM
 simp only [hcL] at hc4
 refine AS ?_
 simp only [go_sem, simprocAttr]
 refine Aa (Z 8 rfl ?_)
 simp only [go_sem, simprocAttr, Fd, FM]
 refine Ad (hQ _ _ (.inl rfl) ?_ ?_ ?_) <;> simp only [go_sem, simprocAttr, Gj, GU]
 rw [hd30, hinv, GN hc4, okF, show Kg s i = false from by unfold Kg; rw [decide_eq_false (by omega), decide_eq_false (by rw [show i = s.length by omega]; intro h; exact g4 (by rw [h]; rfl))]; rfl]; rfl
def CA : List UInt8 := [50, 51, 52, 53, 54, 55, 56, 57, 65, 66, 67, 68, 69, 70, 71, 72, 74, 75, 76, 77, 78, 80, 81, 82, 83, 84, 85, 86, 87, 88, 89, 90]
def ixA (c : UInt8) : Int := Lib.indexByte CA c
def al (k : Int) : UInt8 := CA.getD k.toNat 0
theorem Abg : ∀ (l : List UInt8) (c : UInt8), 0 <= Lib.indexByte l c -> l.getD (Lib.indexByte l c).toNat 0 = c
 | [], c, h => by simp [Lib.indexByte] at h
 | b :: l, c, h => by
  have ih := Abg l c
  have hg := Lib.indexByte_ge l c
  unfold Lib.indexByte at h ⊢
  by_cases e : (b == c) = true
  ·rw [if_pos e]; simpa using e
  ·rw [if_neg e] at h ⊢
   by_cases e2 : (Lib.indexByte l c == -1) = true
   ·rw [if_pos e2] at h; omega
   ·rw [if_neg e2] at h ⊢
    have h1 : Lib.indexByte l c ≠ -1 := by simpa using e2
    obtain ⟨k, hk⟩ := Hz (show 0 <= Lib.indexByte l c by omega)
    have := ih (by omega)
    rw [hk] at this ⊢
    rw [show ((k : Int) + 1).toNat = k + 1 by omega, Ka]
    simpa using this
theorem Abf : ∀ {l : List UInt8} {c : UInt8} {i : Nat} (h : i < l.length), (∀ x ∈ l.take i, x ≠ c) -> l[i] = c -> Lib.indexByte l c = i
 | b :: l, c, 0, h, _, e => by
  unfold Lib.indexByte; rw [if_pos (by simpa using e)]; rfl
 | b :: l, c, i + 1, h, hp, e => by
  have h1 : b ≠ c := hp b (by simp)
  have := Abf (l := l) (i := i) (by simpa using h) (fun x hx => hp x (by rw [JZ]; exact AU _ hx)) (by simpa using e)
  unfold Lib.indexByte
  rw [if_neg (by simpa using h1), this, if_neg (by first | (simp; done) | (simp; omega))]
  try omega
theorem Abi : ∀ {l : List UInt8} {c : UInt8}, (∀ x ∈ l, x ≠ c) -> Lib.indexByte l c = -1
 | [], _, _ => rfl
 | b :: l, c, h => by
  unfold Lib.indexByte
  rw [if_neg (by simpa using h b (AJ ..)), Abi fun x hx => h x (AU _ hx)]; rfl
theorem JR (c : UInt8) : -1 <= ixA c /\ ixA c < 32 := by
 have h1 := Lib.indexByte_ge CA c
 have h2 := Abh CA c
 have h3 : CA.length = 32 := rfl
 unfold ixA
 rcases h2 with h2 | h2
 ·rw [h3] at h2; exact ⟨h1, h2⟩
 ·omega
theorem Nm {c : UInt8} (h : 0 <= ixA c) : al (ixA c) = c := Abg CA c h
def Jh (v : List Int) : Int := v.foldl (fun n x => 32 * n + x) 0
def ofM (n : Int) : List UInt8 := [al (n / 1048576 % 32), al (n / 32768 % 32), al (n / 1024 % 32), al (n / 32 % 32), al (n % 32),
 al ((n / 1048576 % 32 + 3 * (n / 32768 % 32) + 5 * (n / 1024 % 32) + 7 * (n / 32 % 32) + 9 * (n % 32)) % 32)]
def QW (v0 v1 v2 v3 v4 : Int) : Int := (v0 + 3 * v1 + 5 * v2 + 7 * v3 + 9 * v4) % 32
def DT : List UInt8 -> Bool
 | [a, b, c, d, e, f] => decide (0 <= ixA a) && decide (0 <= ixA b) && decide (0 <= ixA c) && decide (0 <= ixA d) && decide (0 <= ixA e) && decide (f = al (QW (ixA a) (ixA b) (ixA c) (ixA d) (ixA e)))
 | _ => false
theorem Abw {s : List UInt8} (h : s.length ≠ 6) : DT s = false := by
 unfold DT
 split
 ·simp at h
 ·rfl
theorem AhB (s : List UInt8) : ((s.take 5).all (fun c => decide (0 <= ixA c)) && decide (ofM (Jh ((s.take 5).map ixA)) = s)) = DT s := by
 by_cases hl : s.length = 6
 ·match s, hl with
  | [a, b, c, d, e, f], _ =>
   have ha := JR a
   have hb := JR b
   have hc := JR c
   have hd := JR d
   have he := JR e
   simp only [JZ, HC, List.all_cons, List.all_nil, CF, BP, GR, Jh, List.foldl_cons, List.foldl_nil, DT]
   by_cases g : (0 <= ixA a /\ 0 <= ixA b /\ 0 <= ixA c /\ 0 <= ixA d /\ 0 <= ixA e)
   ·obtain ⟨g1, g2, g3, g4, g5⟩ := g
    have e1 := Nm g1
    have e2 := Nm g2
    have e3 := Nm g3
    have e4 := Nm g4
    have e5 := Nm g5
    generalize ixA a = va at *
    generalize ixA b = vb at *
    generalize ixA c = vc at *
    generalize ixA d = vd at *
    generalize ixA e = ve at *
    have n0 : (32 * (32 * (32 * (32 * (32 * 0 + va) + vb) + vc) + vd) + ve) / 1048576 % 32 = va := by omega
    have n1 : (32 * (32 * (32 * (32 * (32 * 0 + va) + vb) + vc) + vd) + ve) / 32768 % 32 = vb := by omega
    have n2 : (32 * (32 * (32 * (32 * (32 * 0 + va) + vb) + vc) + vd) + ve) / 1024 % 32 = vc := by omega
    have n3 : (32 * (32 * (32 * (32 * (32 * 0 + va) + vb) + vc) + vd) + ve) / 32 % 32 = vd := by omega
    have n4 : (32 * (32 * (32 * (32 * (32 * 0 + va) + vb) + vc) + vd) + ve) % 32 = ve := by omega
    unfold ofM
    rw [n0, n1, n2, n3, n4, e1, e2, e3, e4, e5]
    simp only [g1, g2, g3, g4, g5, decide_true, HD, Bz, true_and, and_true, QW]
    exact decide_eq_decide.2 eq_comm
   ·have : (decide (0 <= ixA a) && decide (0 <= ixA b) && decide (0 <= ixA c) && decide (0 <= ixA d) && decide (0 <= ixA e)) = false := by
     rw [ME]
     intro h
     simp only [By, decide_eq_true_eq] at h
     exact g ⟨h.1.1.1.1, h.1.1.1.2, h.1.1.2, h.1.2, h.2⟩
    rw [this, Jb]
    have h2 : (decide (0 <= ixA a) && (decide (0 <= ixA b) && (decide (0 <= ixA c) && (decide (0 <= ixA d) && decide (0 <= ixA e))))) = false := by simpa only [Qn] using this
    rw [h2, Jb]
 ·rw [Abw hl]
  have : decide (ofM (Jh ((s.take 5).map ixA)) = s) = false := decide_eq_false fun h => hl (by rw [<- h]; rfl)
  rw [this, Dh]
def CK := ar vi (ao vi)
theorem IF : Ij CK := ijr iji (ijo iji)
def Bp (y : Int × Int) : V := .tup [.int .i64 y.1, .int .i64 y.2]
def FV (c s : Int) : Int × Int := if c < 1 \/ 1000 <= c \/ s < 0 \/ 10000000000 <= s then (0, 2) else ((c * 10000000000 + s) * 10 + (c * 10000000000 + s) % 7, 0)
def fMk (x : Int × Int) : Prop × V := (True, Bp (FV x.1 x.2))
theorem Hp (a b : Int) : gOf CK fMk [.int .i64 a, .int .i64 b] = (True, Bp (FV a b)) := Al IF (a, b)
def fCk (x : Int × Int) : Prop × V := (1 <= x.1 /\ x.1 < 1000 /\ 0 <= x.2 /\ x.2 < 10000000000, .int .i64 ((x.1 * 10000000000 + x.2) % 7))
theorem PA (a b : Int) : gOf CK fCk [.int .i64 a, .int .i64 b] = (1 <= a /\ a < 1000 /\ 0 <= b /\ b < 10000000000, .int .i64 ((a * 10000000000 + b) % 7)) := Al IF (a, b)
theorem AfJ : PU 179 (gOf CK fCk) := by
 have hG := AH
 refine Zt.a IF (by simp [CK]) ?_
 rintro ⟨c, s⟩ hv C hN Q hQ
 have Z := Zt.R EF0 hG hN
 obtain ⟨h1, h2, h3, h4⟩ : 1 <= c /\ c < 1000 /\ 0 <= s /\ s < 10000000000 := hv
 refine Aa (Z 0 rfl ?_)
 simp only [go_sem, simprocAttr, CK]
 refine Aa (Z 1 rfl ?_)
 simp only [go_sem, simprocAttr, inI]
 and_intros <;> try exact sdA
 refine Ad (hQ _ _ (.inl rfl) ?_ ?_ ?_) <;> simp only [go_sem, simprocAttr, fCk]
 rw [MM (by omega)]
def tMk : Tab
 | 179 => (gOf CK fCk)
 | _ => gNo
theorem Al1 : ∀ f, PU f (tMk f) := fun f => by
 unfold tMk
 split
 ·exact AfJ
 ·exact Ah.no
theorem AhG : PU 137 (gOf CK fMk) := by
 have hG := Al1
 refine YT.a IF (by simp [CK]) ?_
 rintro ⟨c, s⟩ hv C hN Q hQ
 have Z := YT.R EF0 hG hN
 refine Aa (Z 0 rfl ?_)
 simp only [go_sem, simprocAttr, CK, tMk, PA]
 refine Aa (Aa (Z 1 rfl ?_))
 simp only [go_sem, simprocAttr, tMk, PA]
 and_intros <;> try exact sdA
 refine Ae rfl (fun hb1 => ?_) fun hb1 => ?_
 ·have hm : FV c s = (0, 2) := by unfold FV; rw [if_pos (by simp only [EW, decide_eq_true_eq] at hb1; omega)]
  refine Aa (Z 2 rfl ?_)
  simp only [go_sem, simprocAttr, tMk, PA]
  refine Ad (hQ _ _ (.inl rfl) ?_ ?_ ?_) <;> simp only [go_sem, simprocAttr, fMk, Bp, hm]
 have hb : 1 <= c /\ c < 1000 /\ 0 <= s /\ s < 10000000000 := by simp only [Ce, decide_eq_false_iff_not] at hb1; omega
 have hm : FV c s = ((c * 10000000000 + s) * 10 + (c * 10000000000 + s) % 7, 0) := by unfold FV; rw [if_neg (by omega)]
 refine Af ?_
 refine Aa (Z 3 rfl ?_)
 simp only [go_sem, simprocAttr, inI, tMk, PA]
 and_intros <;> try exact sdA
 refine Ad (hQ _ _ (.inl rfl) ?_ ?_ ?_) <;> simp only [go_sem, simprocAttr, fMk, Bp, hm]
theorem Ajx : PU 55 (gOf CK fMk) := by
 have hG := AH
 refine Aam.a IF (by simp [CK]) ?_
 rintro ⟨c, s⟩ hv C hN Q hQ
 have Z := Aam.R EF0 hG hN
 refine Aa (Z 0 rfl ?_)
 simp only [go_sem, simprocAttr, CK, tNo]
 refine Aa (Aa (Z 1 rfl ?_))
 simp only [go_sem, simprocAttr, tNo]
 and_intros <;> try exact sdA
 refine Ae rfl (fun hb1 => ?_) fun hb1 => ?_
 ·have hm : FV c s = (0, 2) := by unfold FV; rw [if_pos (by simp only [EW, decide_eq_true_eq] at hb1; omega)]
  refine Aa (Z 2 rfl ?_)
  simp only [go_sem, simprocAttr, tNo]
  refine Ad (hQ _ _ (.inl rfl) ?_ ?_ ?_) <;> simp only [go_sem, simprocAttr, fMk, Bp, hm]
 have hb : 1 <= c /\ c < 1000 /\ 0 <= s /\ s < 10000000000 := by simp only [Ce, decide_eq_false_iff_not] at hb1; omega
 have hm : FV c s = (10 * (c * 10000000000 + s) + (c * 10000000000 + s).tmod 7, 0) := by unfold FV; rw [if_neg (by omega), MM (by omega), Lr 10]
 refine Af ?_
 refine Aa (Z 3 rfl ?_)
 simp only [go_sem, simprocAttr, inI, tNo]
 and_intros <;> try exact sdA
 have hmb : 0 <= (c * 10000000000 + s).tmod 7 /\ (c * 10000000000 + s).tmod 7 < 7 := by rw [MM (by omega)]; omega
 refine Aa (Z 4 rfl ?_)
 simp only [go_sem, simprocAttr, inI, tNo]
 and_intros <;> try exact sdA
 refine Ad (hQ _ _ (.inl rfl) ?_ ?_ ?_) <;> simp only [go_sem, simprocAttr, fMk, Bp, hm]
def IK (n : Int) : Int := (n.tdiv 10).tdiv 10000000000
def LI (n : Int) : Int := (n.tdiv 10).tmod 10000000000
def Dv (n : Int) : Bool := decide (FV (IK n) (LI n) = (n, 0))
def Jk (n : Int) : Int × Int × Bool := if Dv n then (IK n, LI n, true) else (0, 0, false)
def NE (n : Int) : Prop × V := (inI n, .tup [.int .i64 (Jk n).1, .int .i64 (Jk n).2.1, .bool (Jk n).2.2])
theorem Sp (n : Int) : gOf Bm NE [.int .i64 n] = (inI n, .tup [.int .i64 (Jk n).1, .int .i64 (Jk n).2.1, .bool (Jk n).2.2]) := Al Ff n
def IT (n : Int) : Prop × V := (inI n, .bool (Dv n))
theorem AN (n : Int) : gOf Bm IT [.int .i64 n] = (inI n, .bool (Dv n)) := Al Ff n
theorem Rb (n k : Int) : (0 <= n -> n.tdiv k = n / k) /\ (n <= 0 -> n.tdiv k = -((-n) / k)) := by
 refine ⟨fun h => Lt h, fun h => ?_⟩
 have h1 : (-n).tdiv k = (-n) / k := Lt (by omega)
 rw [<- h1, Int.neg_tdiv, Int.neg_neg]
theorem Pf {n : Int} (h : inI n) : inI (n.tdiv 10) /\ inI (n.tdiv 10000000000) := by
 unfold inI at *
 obtain ⟨a1, a2⟩ := Rb n 10
 obtain ⟨b1, b2⟩ := Rb n 10000000000
 rcases Int.le_total 0 n with h0 | h0
 ·rw [a1 h0, b1 h0]; omega
 ·rw [a2 h0, b2 h0]; omega
theorem Aju {n : Int} (h : n < 0) : Dv n = false := by
 have h1 : IK n <= 0 := by
  unfold IK
  have h2 : n.tdiv 10 <= 0 := by rw [(Rb n 10).2 (by omega)]; omega
  rw [(Rb _ 10000000000).2 h2]; omega
 unfold Dv FV
 rw [if_pos (by omega)]
 exact decide_eq_false fun h => by injection h with _ h; cases h
def tPr : Tab
 | 137 => (gOf CK fMk)
 | _ => gNo
theorem Amb : ∀ f, PU f (tPr f) := fun f => by
 unfold tPr
 split
 ·exact AhG
 ·exact Ah.no
theorem AiH : PU 78 (gOf Bm NE) := by
 have hG := Amb
 refine AaD.a Ff (by simp [Bm]) ?_
 rintro n hv C hN Q hQ
 have Z := AaD.R EF0 hG hN
 replace hv : inI n := hv
 obtain ⟨⟨m, e⟩, hme⟩ : ∃ y, FV (IK n) (LI n) = y := ⟨_, rfl⟩
 have hrt : Dv n = decide ((m, e) = (n, (0 : Int))) := by unfold Dv; rw [hme]
 unfold IK LI at hme
 obtain ⟨q1, q2⟩ := Pf hv
 obtain ⟨q3, q4⟩ := Pf q1
 unfold inI at q1 q4
 refine Aa (Z 0 rfl ?_)
 simp only [go_sem, simprocAttr, Bm, tPr, Hp]
 refine Aa (Z 1 rfl ?_)
 simp only [go_sem, simprocAttr, tPr, Hp]
 and_intros <;> try exact sdA
 refine Aa (Z 2 rfl ?_)
 simp only [go_sem, simprocAttr, hme, Bp, tPr, Hp]
 and_intros <;> try exact sdA
 refine Aa (Aa (Z 3 rfl ?_))
 simp only [go_sem, simprocAttr, tPr, Hp]
 and_intros <;> try exact sdA
 refine Ae rfl (fun hb3 => ?_) fun hb3 => ?_
 ·have hr : Dv n = false := by rw [hrt]; refine decide_eq_false fun h => ?_; injection h with h1 h2; simp [h1, h2] at hb3
  refine Aa (Z 4 rfl ?_)
  simp only [go_sem, simprocAttr, tPr, Hp]
  refine Ad (hQ _ _ (.inl rfl) ?_ ?_ ?_) <;> simp only [go_sem, simprocAttr, NE, Jk, hr]
 have hr : Dv n = true := by rw [hrt]; refine decide_eq_true ?_; simp at hb3; rw [hb3.1, hb3.2]
 refine Af ?_
 refine Aa (Z 5 rfl ?_)
 simp only [go_sem, simprocAttr, tPr, Hp]
 refine Ad (hQ _ _ (.inl rfl) ?_ ?_ ?_) <;> simp only [go_sem, simprocAttr, NE, Jk, hr, IK, LI]
def tRg : Tab
 | 78 => (gOf Bm NE)
 | _ => gNo
theorem Ame : ∀ f, PU f (tRg f) := fun f => by
 unfold tRg
 split
 ·exact AiH
 ·exact Ah.no
theorem AbN : PU 34 (gOf Bm IT) := by
 have hG := Ame
 refine Aad.a Ff (by simp [Bm]) ?_
 rintro n hv C hN Q hQ
 have Z := Aad.R EF0 hG hN
 replace hv : inI n := hv
 refine Aa (Z 0 rfl ?_)
 simp only [go_sem, simprocAttr, Bm, tRg, Sp]
 refine Aa (Z 1 rfl ?_)
 simp only [go_sem, simprocAttr, hv, tRg, Sp]
 and_intros <;> try exact sdA
 refine Aa (Z 2 rfl ?_)
 simp only [go_sem, simprocAttr, tRg, Sp]
 refine Ad (hQ _ _ (.inl rfl) ?_ ?_ ?_) <;> simp only [go_sem, simprocAttr, IT]
 unfold Jk; split <;> simp_all
def LO : Tab
 | 55 => (gOf CK fMk)
 | _ => gNo
theorem AnB : ∀ f, PU f (LO f) := fun f => by
 unfold LO
 split
 ·exact Ajx
 ·exact Ah.no
theorem AjG : PU 20 (gOf Bm IT) := by
 have hG := AnB
 refine ZG.a Ff (by simp [Bm]) ?_
 rintro n hv C hN Q hQ
 have Z := ZG.R EF0 hG hN
 replace hv : inI n := hv
 obtain ⟨⟨m, e⟩, hme⟩ : ∃ y, FV (IK n) (LI n) = y := ⟨_, rfl⟩
 have hrt : Dv n = decide ((m, e) = (n, (0 : Int))) := by unfold Dv; rw [hme]
 refine Aa (Z 0 rfl ?_)
 simp only [go_sem, simprocAttr, Bm, LO, Hp]
 refine Aa (Aa (Z 1 rfl ?_))
 simp only [go_sem, simprocAttr, LO, Hp]
 refine Ae rfl (fun hc1 => ?_) fun hc1 => ?_
 ·simp only [hcL] at hc1
  refine Aa (Z 2 rfl ?_)
  simp only [go_sem, simprocAttr, LO, Hp]
  refine Ad (hQ _ _ (.inl rfl) ?_ ?_ ?_) <;> simp only [go_sem, simprocAttr, IT]
  rw [Aju hc1]
 simp only [hcL] at hc1
 refine Af ?_
 unfold IK LI at hme
 obtain ⟨q1, q2⟩ := Pf hv
 obtain ⟨q3, q4⟩ := Pf q1
 unfold inI at q1 q4
 refine Aa (Z 3 rfl ?_)
 simp only [go_sem, simprocAttr, hme, Bp, LO, Hp]
 and_intros <;> try exact sdA
 refine Aa (Z 4 rfl ?_)
 simp only [go_sem, simprocAttr, LO, Hp]
 and_intros <;> try exact sdA
 refine Ad (hQ _ _ (.inl rfl) ?_ ?_ ?_) <;> simp only [go_sem, simprocAttr, IT]
 rw [hrt]; by_cases h1 : m = n <;> by_cases h2 : e = 0 <;> simp [h1, h2]
end Go.Proofs.YtjkclhbckfkeeaaGreatDoor
end
