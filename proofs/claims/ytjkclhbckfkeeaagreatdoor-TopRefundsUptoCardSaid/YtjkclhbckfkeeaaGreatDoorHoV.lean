import Derived.Test.YtjkclhbckfkeeaaGreatDoorHo15
import Derived.Test.YtjkclhbckfkeeaaGreatDoorHo9
import Derived.Test.YtjkclhbckfkeeaaGreatDoorTr3
import Derived.Test.YtjkclhbckfkeeaaGreatDoorGr1
import Derived.Test.YtjkclhbckfkeeaaGreatDoorPl13
set_option linter.unusedSimpArgs false
set_option linter.unusedVariables false
set_option linter.deprecated false
set_option maxHeartbeats 8000000
noncomputable section
namespace Go.Proofs.YtjkclhbckfkeeaaGreatDoor
open Go Go.RowKit
def aWs := ao (vl Want.enc)
theorem OC : Ij aWs := ijo (ijl Want.inj)
def KR (l : List Seg) : V := .list (l.map Seg.enc) false
def RSg (x : List Want) (y : List Seg) : Prop := y = x.map Want.seg
theorem AjJ (g : List Seg) (s : Seg) : (g ++ [s]).map Seg.enc = g.map Seg.enc ++ [s.enc] := by simp
theorem Uh : ∃ F : List Want -> List Seg, (∀ x, x.length <= 900 -> RSg x (F x)) /\ PU 108 (gOf aWs fun x => (x.length <= 900, KR (F x))) := by
 have hG := AJ
 refine XY.p (val := KR) (R := RSg) OC (by simp [aWs]) ?_
 rintro W hv Q hQ
 have Z := XY.T EF0 hG
 have h1 : W.length <= 900 := hv
 refine Aa (Z 0 rfl ?_)
 simp only [go_sem, simprocAttr, aWs]
 refine Aa (Z 1 rfl ?_)
 simp only [go_sem, simprocAttr]
 refine Aa (Aa (Z 2 rfl ?_))
 simp only [go_sem, simprocAttr]
 refine Aq ?_
 refine Ba (α := Nat × (List Seg)) (fun γ => (γ.1 <= W.length) /\ (γ.2.length = γ.1) /\ (γ.2 = (W.take γ.1).map Want.seg)) (fun γ => ⟨mkE [(0, V.list (List.map Want.enc W) false), (3, .own 999 γ.2.length), (4, .int .i64 γ.1)], mkH [(999, .arr 53 7 (γ.2.map Seg.enc))]⟩) (fun γ => W.length - γ.1) (0, []) ⟨As _, rfl, rfl⟩ ?_ ?_
 ·exact leM
 rintro ⟨i, g⟩ ⟨hi, hl, hg⟩ KL0 hKL0
 try dsimp only at *
 refine Aa (Aa (Z 3 rfl ?_))
 simp only [go_sem, simprocAttr, Ac]
 refine Ad rfl (fun hc3 => ?_) fun hc3 => ?_
 ·simp only [hcL] at hc3
  refine Af ?_
  refine Aa (Aq ?_)
  obtain ⟨⟨⟨ca, nu, da, fr, to, de, ar⟩, cl⟩, hw⟩ : ∃ w, w = W[i] := ⟨_, rfl⟩
  refine Z 5 rfl ?_
  simp only [go_sem, simprocAttr, Ap _ _ _ _ hc3, hc3, Ac, <- hw, Want.enc]
  and_intros <;> try exact sdA
  refine Z 4 rfl ?_
  simp only [go_sem, simprocAttr, inI]
  and_intros <;> try exact sdA
  refine hKL0 (i + 1, g ++ [⟨ca, nu, da, fr, to, de, ar⟩]) _ ?_ ?_ ?_
  ·(try dsimp only); exact ⟨hc3, by rw [An, hl]; rfl, by rw [Dm hc3, DO, <- hg, <- hw]; rfl⟩
  ·(try dsimp only); omega
  refine Le.mk _ _ ?_ ?_ rfl <;> simp only [go_sem, simprocAttr, An, Aw, Ax, AjJ, Seg.enc] <;> and_intros <;> try exact leA
 simp only [hcL] at hc3
 rw [BR hc3] at hg
 refine AX ?_
 simp only [go_sem, simprocAttr]
 refine Aa (Z 6 rfl ?_)
 simp only [go_sem, simprocAttr]
 refine TC.le (s' := ⟨mkE [(2, .list (g.map Seg.enc) false)], mkH []⟩) (Le.mk _ _ ?_ ?_ rfl) (Ae (hQ _ _ (.inl rfl) ?_ ?_ ?_)) <;> simp only [go_sem, simprocAttr, KR]
 ·exact DA rfl (by rw [Ac]) rfl ((Seg.purs g).2 trivial)
 exact ⟨g, rfl, hg⟩
def GQ : List Want -> List Seg := Uh.choose
theorem AjH : ∀ x : List Want, x.length <= 900 -> RSg x (GQ x) := Uh.choose_spec.1
theorem AjI : PU 108 (gOf aWs fun x => (x.length <= 900, KR (GQ x))) := Uh.choose_spec.2
theorem Dx (W : List Want) : gOf aWs (fun x => (x.length <= 900, KR (GQ x))) [.list (W.map Want.enc) false] = (W.length <= 900, .list ((GQ W).map Seg.enc) false) := Al (F := fun x => (x.length <= 900, KR (GQ x))) OC W
def JG := ar (vl Part.enc) (ao vi)
theorem VE : Ij JG := ijr (ijl Part.inj) (ijo iji)
def Chn (n : Int) : Int -> List Part -> Prop
 | a, [] => a = n
 | a, x :: l => (x.from' = a /\ a < x.to' /\ x.to' <= n) /\ Chn n x.to' l
def CsP (x : List Part × Int) : Prop := x.1.length <= 1000000
def RCs (x : List Part × Int) (b : Bool) : Prop := b = true -> Chn x.2 0 x.1
theorem RE : ∃ F : List Part × Int -> Bool, (∀ x, CsP x -> RCs x (F x)) /\ PU 47 (gOf JG fun x => (CsP x, vBB (F x))) := by
 have hG := AJ
 refine Zz.p (val := vBB) (R := RCs) VE (by simp [JG]) ?_
 rintro ⟨l, n⟩ hv Q hQ
 have Z := Zz.T EF0 hG
 have h1 : l.length <= 1000000 := hv
 refine Aa (Z 0 rfl ?_)
 simp only [go_sem, simprocAttr, JG]
 refine Aa (Z 1 rfl ?_)
 simp only [go_sem, simprocAttr]
 refine Aa (Aa (Z 2 rfl ?_))
 simp only [go_sem, simprocAttr]
 refine Aq ?_
 refine Ba (α := Nat × Int) (fun γ => (γ.1 <= l.length) /\ (Chn n γ.2 (l.drop γ.1) -> Chn n 0 l)) (fun γ => ⟨mkE [(0, V.list (List.map Part.enc l) false), (1, V.int IntKind.i64 n), (5, .int .i64 γ.2), (6, .int .i64 γ.1)], mkH []⟩) (fun γ => l.length - γ.1) (0, 0) ⟨As _, id⟩ ?_ ?_
 ·exact leM
 rintro ⟨i, a⟩ ⟨hi, hs⟩ KL0 hKL0
 try dsimp only at *
 refine Aa (Aa (Z 3 rfl ?_))
 simp only [go_sem, simprocAttr, Ac]
 refine Ad rfl (fun hc3 => ?_) fun hc3 => ?_
 ·simp only [hcL] at hc3
  refine Af ?_
  refine Aa (Aq ?_)
  refine Aa ?_
  obtain ⟨⟨pf, pt, pr, pa⟩, hp⟩ : ∃ p, p = l[i] := ⟨_, rfl⟩
  have hd := DL hc3
  rw [hd, Chn, <- hp] at hs
  refine Aa (Z 5 rfl ?_)
  simp only [go_sem, simprocAttr, Ap _ _ _ _ hc3, hc3, Ac, <- hp, Part.enc]
  and_intros <;> try exact sdA
  refine Ad rfl (fun hb5 => ?_) fun hb5 => ?_
  ·refine Aa (Z 6 rfl ?_)
   simp only [go_sem, simprocAttr]
   refine Ae (hQ _ _ (.inl rfl) ?_ ?_ ?_) <;> simp only [go_sem, simprocAttr, vBB]
   exact ⟨false, rfl, fun e => by cases e⟩
  simp only [Cg, It, decide_eq_true_eq, decide_eq_false_iff_not] at hb5
  refine Af ?_
  refine Z 7 rfl ?_
  simp only [go_sem, simprocAttr, Ap _ _ _ _ hc3, hc3, Ac, <- hp, Part.enc]
  and_intros <;> try exact sdA
  refine Z 4 rfl ?_
  simp only [go_sem, simprocAttr, inI]
  and_intros <;> try exact sdA
  refine hKL0 (i + 1, pt) _ ?_ ?_ ?_
  ·(try dsimp only); exact ⟨hc3, fun h => hs ⟨⟨by dsimp only; omega, by dsimp only; omega, by dsimp only; omega⟩, h⟩⟩
  ·(try dsimp only); omega
  exact leM
 simp only [hcL] at hc3
 rw [List.drop_of_length_le hc3] at hs
 refine AX ?_
 simp only [go_sem, simprocAttr]
 refine Aa (Z 8 rfl ?_)
 simp only [go_sem, simprocAttr]
 refine Ae (hQ _ _ (.inl rfl) ?_ ?_ ?_) <;> simp only [go_sem, simprocAttr, vBB]
 exact ⟨decide (a = n), rfl, fun e => hs (show Chn n a [] from (of_decide_eq_true e : a = n))⟩
def Kc : List Part × Int -> Bool := RE.choose
theorem Ae9 : ∀ x, CsP x -> RCs x (Kc x) := RE.choose_spec.1
theorem Afa : PU 47 (gOf JG fun x => (CsP x, vBB (Kc x))) := RE.choose_spec.2
theorem Cy (l : List Part) (n : Int) : gOf JG (fun x => (CsP x, vBB (Kc x))) [.list (l.map Part.enc) false, .int .i64 n] = (CsP (l, n), .bool (Kc (l, n))) := Al (F := fun x => (CsP x, vBB (Kc x))) VE (l, n)
def amS (l : List Part) : Int := (l.map Part.amount).sum
def chS (l : List Charge) : Int := (l.map Charge.amount).sum
theorem Ad7 {l : List Part} {i : Nat} (h : i < l.length) : amS (l.take (i + 1)) = amS (l.take i) + l[i].amount := by
 unfold amS; rw [Dm h, DO, ND]; simp
theorem AeG {l : List Charge} {i : Nat} (h : i < l.length) : chS (l.take (i + 1)) = chS (l.take i) + l[i].amount := by
 unfold chS; rw [Dm h, DO, ND]; simp
def AmK (l : List Part) : Prop := ∀ p ∈ l, 0 <= p.amount /\ p.amount <= 1099511627776
def aSm := ar (vg Places.enc) (ar (vg Tariff.enc) (ar (vl Want.enc) (ar V.str (ao (vl Part.enc)))))
theorem VV : Ij aSm := ijr (ijg Places.inj) (ijr (ijg Tariff.inj) (ijr (ijl Want.inj) (ijr ijs (ijo (ijl Part.inj)))))
structure SmP (y : Places × Tariff × List Want × List UInt8 × List Part) : Prop where
 p : BD y.1
 t : TarOk y.2.1
 x : ∀ x ∈ y.2.1.taxes, TxK x
 w : TmOk y.2.2.1
 l : y.2.2.2.2.length <= 1000000
 a : AmK y.2.2.2.2
structure QuK (l : List Part) (q : Quote) : Prop where
 f : q.fare = amS l
 f0 : 0 <= q.fare /\ q.fare <= 1099511627776
 x : ChK q.taxes
 n : q.taxes.length <= 1000000
 t : q.total = q.fare + chS q.taxes
 t0 : 0 <= q.total /\ q.total <= 1099511627776
 p : q.parts = l
def RSm (x : Places × Tariff × List Want × List UInt8 × List Part) (y : Quote × Bool) : Prop := y.1.parts.length <= 1000000 /\ y.1.taxes.length <= 1000000 /\ y.1.pairs = [] /\ (y.2 = true -> QuK x.2.2.2.2 y.1)
def vQB (y : Quote × Bool) : V := .tup [.agg y.1.enc, .bool y.2]
def Quote.none : Quote := ⟨[], [], [], 0, 0⟩
instance : Inhabited Quote := ⟨Quote.none⟩
theorem GC.segs {W : List Want} (h : TmOk W) : (GQ W).length <= 900 /\ ∀ s ∈ GQ W, GC s := by
 have e := AjH W h.n
 rw [show GQ W = W.map Want.seg from e]
 refine ⟨by rw [Ac]; exact h.n, fun s hs => ?_⟩
 obtain ⟨w, hw, rfl⟩ := Am.1 hs
 exact h.t w hw
def tSm : Tab
 | 108 => (gOf aWs fun x => (x.length <= 900, KR (GQ x)))
 | 107 => (gOf JC fun x => (OfTP x, IJ (IY x)))
 | _ => gNo
theorem AlZ : ∀ f, PU f (tSm f) := fun f => by
 unfold tSm
 split
 ·exact AjI
 ·exact AhS
 ·exact Aj.no
theorem Ul : ∃ F : Places × Tariff × List Want × List UInt8 × List Part -> Quote × Bool, (∀ x, SmP x -> RSm x (F x)) /\ PU 51 (gOf aSm fun x => (SmP x, vQB (F x))) := by
 have hG := AlZ
 refine SB.p (val := vQB) (R := RSm) VV (by simp [aSm]) ?_
 rintro ⟨⟨ps, ds⟩, ⟨fs, rs, gs, xs⟩, W, u, l⟩ hv Q hQ
 have Y := SB.E EF0 hG mixed
 have Z := SB.T EF0 hG
 obtain ⟨hL, h2, h3, h4, h5, h6⟩ : SmP (⟨ps, ds⟩, ⟨fs, rs, gs, xs⟩, W, u, l) := hv
 dsimp only at h3 h5 h6
 have hxl : xs.length <= 1000000 := h2.x
 obtain ⟨hs1, hs2⟩ := GC.segs h4
 refine Aa (Z 0 rfl ?_)
 simp only [go_sem, simprocAttr, aSm, Places.enc, Tariff.enc, tSm, Dx, Dw]
 refine Aa (Z 1 rfl ?_)
 simp only [go_sem, simprocAttr, tSm, Dx, Dw]
 refine Aa (Aa (Z 2 rfl ?_))
 simp only [go_sem, simprocAttr, tSm, Dx, Dw]
 refine Aq ?_
 refine Ba (α := Nat × Int) (fun γ => (γ.1 <= l.length) /\ (γ.2 = amS (l.take γ.1)) /\ (0 <= γ.2 /\ γ.2 <= 1099511627776)) (fun γ => ⟨mkE [(2, V.list (List.map Want.enc W) false), (3, V.str u), (4, V.list (List.map Part.enc l) false), (5, V.ptr 5 0), (6, V.ptr 6 0), (10, V.ptr 10 0), (12, V.ptr 12 0), (13, .int .i64 γ.1)], mkH [(5, Ob.box 25 [V.list (List.map Airport.enc ps) false, V.list (List.map Distance.enc ds) false]), (6, Ob.box 31 [V.list (List.map Fare.enc fs) false, V.list (List.map Rule.enc rs) false, V.list (List.map Routing.enc gs) false, V.list (List.map Tax.enc xs) false]), (10, Ob.box 37 [V.nils, V.nils, V.nils, V.int IntKind.i64 0, V.int IntKind.i64 0]), (12, .box 37 [.list (l.map Part.enc) false, .nils, .nils, .int .i64 γ.2, .int .i64 0])]⟩) (fun γ => l.length - γ.1) (0, 0) ⟨As _, rfl, by decide, by decide⟩ ?_ ?_
 ·exact leM
 rintro ⟨i, f⟩ ⟨hi, hf, hf0⟩ KL0 hKL0
 try dsimp only at *
 refine Aa (Aa (Z 3 rfl ?_))
 simp only [go_sem, simprocAttr, Ac, tSm, Dx, Dw]
 refine Ad rfl (fun hc3 => ?_) fun hc3 => ?_
 ·simp only [hcL] at hc3
  refine Af ?_
  refine Aa (Aq ?_)
  obtain ⟨⟨pf, pt, pr, pa⟩, hp⟩ : ∃ p, p = l[i] := ⟨_, rfl⟩
  have hpk := h6 _ (AI hc3)
  rw [<- hp] at hpk
  obtain ⟨p1, p2⟩ : 0 <= pa /\ pa <= 1099511627776 := hpk
  refine Aa (FA (EF := EF0) hG mixed AmW Ah2 ?_)
  simp only [Ra, Xr, go_sem, simprocAttr, inI, Ap _ _ _ _ hc3, hc3, Ac, <- hp, Part.enc, tSm, Dx, Dw]
  and_intros <;> try exact sdA
  refine Aa (Z 6 rfl ?_)
  simp only [go_sem, simprocAttr, Ap _ _ _ _ hc3, hc3, Ac, <- hp, Part.enc, tSm, Dx, Dw]
  and_intros <;> try exact sdA
  refine Ad rfl (fun hb6 => ?_) fun hb6 => ?_
  ·refine Aa (Z 7 rfl ?_)
   simp only [go_sem, simprocAttr, tSm, Dx, Dw]
   refine TC.le (s' := ⟨mkE [(10, .ptr 10 0), (11, .bool false)], mkH [(10, .box 37 (Quote.enc Quote.none))]⟩) (Le.mk _ _ ?_ ?_ rfl) (Ae (hQ _ _ (.inl rfl) ?_ ?_ ?_)) <;> simp only [go_sem, simprocAttr, vQB, Quote.enc, Quote.none]
   exact ⟨(Quote.none, false), rfl, by decide, by decide, rfl, fun e => by cases e⟩
  simp only [Cg, decide_eq_false_iff_not] at hb6
  refine Af ?_
  refine Z 4 rfl ?_
  simp only [go_sem, simprocAttr, inI, tSm, Dx, Dw]
  and_intros <;> try exact sdA
  refine hKL0 (i + 1, f + pa) _ ?_ ?_ ?_
  ·(try dsimp only); exact ⟨hc3, by rw [Ad7 hc3, <- hf, <- hp], by omega, by omega⟩
  ·(try dsimp only); omega
  exact leM
 simp only [hcL] at hc3
 rw [BR hc3] at hf
 have hO : OfTP (⟨ps, ds⟩, xs, GQ W, u, f) := ⟨hL, hxl, h3, hs1, hs2, hf0.1⟩
 have hOb := AhR _ hO
 obtain ⟨⟨X, e⟩, hX⟩ : ∃ y, y = IY (⟨ps, ds⟩, xs, GQ W, u, f) := ⟨_, rfl⟩
 rw [<- hX] at hOb
 obtain ⟨hXl, hXk⟩ : X.length <= xs.length /\ (e = 0 -> ChK X) := hOb
 have hWl : W.length <= 900 := h4.n
 refine AX ?_
 simp only [go_sem, simprocAttr]
 refine Aa (Y 8 rfl (by kernel_rfl) ?_)
 simp only [go_sem, simprocAttr, hWl, hO, <- hX, tSm, Dx, Dw]
 and_intros <;> try exact sdA
 refine Aa (Aa (Z 9 rfl ?_))
 simp only [go_sem, simprocAttr, tSm, Dx, Dw]
 refine Ad rfl (fun hc9 => ?_) fun hc9 => ?_
 ·simp only [hcL] at hc9
  refine Aa (Z 10 rfl ?_)
  simp only [go_sem, simprocAttr, tSm, Dx, Dw]
  refine TC.le (s' := ⟨mkE [(10, .ptr 10 0), (11, .bool false)], mkH [(10, .box 37 (Quote.enc Quote.none))]⟩) (Le.mk _ _ ?_ ?_ rfl) (Ae (hQ _ _ (.inl rfl) ?_ ?_ ?_)) <;> simp only [go_sem, simprocAttr, vQB, Quote.enc, Quote.none]
  exact ⟨(Quote.none, false), rfl, by decide, by decide, rfl, fun e => by cases e⟩
 simp only [hcL] at hc9
 have hXk2 : ChK X := hXk (by simpa using hc9)
 refine Af ?_
 refine Aa (Z 11 rfl ?_)
 simp only [go_sem, simprocAttr, tSm, Dx, Dw]
 refine Aa (Z 12 rfl ?_)
 simp only [go_sem, simprocAttr, tSm, Dx, Dw]
 refine Aa (Aa (Z 13 rfl ?_))
 simp only [go_sem, simprocAttr, tSm, Dx, Dw]
 refine Aq ?_
 refine Ba (α := Nat × Int) (fun γ => (γ.1 <= X.length) /\ (γ.2 = f + chS (X.take γ.1)) /\ (0 <= γ.2 /\ γ.2 <= 1099511627776)) (fun γ => ⟨mkE [(10, V.ptr 10 0), (12, V.ptr 12 0), (14, V.list (List.map Charge.enc X) false), (16, .int .i64 γ.1)], mkH [(10, Ob.box 37 [V.nils, V.nils, V.nils, V.int IntKind.i64 0, V.int IntKind.i64 0]), (12, .box 37 [.list (l.map Part.enc) false, .nils, .list (X.map Charge.enc) false, .int .i64 f, .int .i64 γ.2])]⟩) (fun γ => X.length - γ.1) (0, f) ⟨As _, (Int.add_zero f).symm, hf0⟩ ?_ ?_
 ·exact leM
 rintro ⟨j, t⟩ ⟨hj, ht, ht0⟩ KL2 hKL2
 try dsimp only at *
 refine Aa (Aa (Z 14 rfl ?_))
 simp only [go_sem, simprocAttr, Ac, tSm, Dx, Dw]
 refine Ad rfl (fun hc14 => ?_) fun hc14 => ?_
 ·simp only [hcL] at hc14
  refine Af ?_
  refine Aa (Aq ?_)
  obtain ⟨⟨co, ca⟩, hx⟩ : ∃ p, p = X[j] := ⟨_, rfl⟩
  have hxk := hXk2 _ (AI hc14)
  rw [<- hx] at hxk
  obtain ⟨x1, x2⟩ : 0 <= ca /\ ca <= 1099511627776 := hxk
  refine Aa (FA (EF := EF0) hG mixed AmV Ah1 ?_)
  simp only [QZ, Xq, go_sem, simprocAttr, inI, Ap _ _ _ _ hc14, hc14, Ac, <- hx, Charge.enc, tSm, Dx, Dw]
  and_intros <;> try exact sdA
  refine Aa (Z 17 rfl ?_)
  simp only [go_sem, simprocAttr, Ap _ _ _ _ hc14, hc14, Ac, <- hx, Charge.enc, tSm, Dx, Dw]
  and_intros <;> try exact sdA
  refine Ad rfl (fun hb17 => ?_) fun hb17 => ?_
  ·refine Aa (Z 18 rfl ?_)
   simp only [go_sem, simprocAttr, tSm, Dx, Dw]
   refine TC.le (s' := ⟨mkE [(10, .ptr 10 0), (11, .bool false)], mkH [(10, .box 37 (Quote.enc Quote.none))]⟩) (Le.mk _ _ ?_ ?_ rfl) (Ae (hQ _ _ (.inl rfl) ?_ ?_ ?_)) <;> simp only [go_sem, simprocAttr, vQB, Quote.enc, Quote.none]
   exact ⟨(Quote.none, false), rfl, by decide, by decide, rfl, fun e => by cases e⟩
  simp only [Cg, decide_eq_false_iff_not] at hb17
  refine Af ?_
  refine Z 15 rfl ?_
  simp only [go_sem, simprocAttr, inI, tSm, Dx, Dw]
  and_intros <;> try exact sdA
  refine hKL2 (j + 1, t + ca) _ ?_ ?_ ?_
  ·(try dsimp only); exact ⟨hc14, by rw [AeG hc14, <- hx, ht]; exact Int.add_assoc _ _ _, by omega, by omega⟩
  ·(try dsimp only); omega
  exact leM
 simp only [hcL] at hc14
 rw [BR hc14] at ht
 refine AX ?_
 simp only [go_sem, simprocAttr]
 refine Aa (Z 19 rfl ?_)
 simp only [go_sem, simprocAttr, tSm, Dx, Dw]
 refine TC.le (s' := ⟨mkE [(10, .ptr 10 0), (11, .bool true)], mkH [(10, .box 37 (Quote.enc ⟨l, [], X, f, t⟩))]⟩) (Le.mk _ _ ?_ ?_ rfl) (Ae (hQ _ _ (.inl rfl) ?_ ?_ ?_)) <;> simp only [go_sem, simprocAttr, vQB, Quote.enc]
 exact ⟨(⟨l, [], X, f, t⟩, true), rfl, h5, by dsimp only; omega, rfl, fun _ => ⟨hf, hf0, hXk2, by dsimp only; omega, ht, ht0, rfl⟩⟩
def fSm : Places × Tariff × List Want × List UInt8 × List Part -> Quote × Bool := Ul.choose
theorem Aku : ∀ x, SmP x -> RSm x (fSm x) := Ul.choose_spec.1
theorem Akv : PU 51 (gOf aSm fun x => (SmP x, vQB (fSm x))) := Ul.choose_spec.2
theorem CF (ps : List Airport) (ds : List Distance) (a : List Fare) (b : List Rule) (c : List Routing) (d : List Tax) (W : List Want) (u : List UInt8) (l : List Part) : gOf aSm (fun x => (SmP x, vQB (fSm x))) [.agg [.list (ps.map Airport.enc) false, .list (ds.map Distance.enc) false], .agg [.list (a.map Fare.enc) false, .list (b.map Rule.enc) false, .list (c.map Routing.enc) false, .list (d.map Tax.enc) false], .list (W.map Want.enc) false, .str u, .list (l.map Part.enc) false] = (SmP (⟨ps, ds⟩, ⟨a, b, c, d⟩, W, u, l), .tup [.agg (fSm (⟨ps, ds⟩, ⟨a, b, c, d⟩, W, u, l)).1.enc, .bool (fSm (⟨ps, ds⟩, ⟨a, b, c, d⟩, W, u, l)).2]) := Al (F := fun x => (SmP x, vQB (fSm x))) VV (⟨ps, ds⟩, ⟨a, b, c, d⟩, W, u, l)
theorem UF {α : Type} {l m : List α} {i : Nat} (h : l.take i = m.take i) (h1 : i < l.length) (h2 : i < m.length) (e : l[i] = m[i]) : l.take (i + 1) = m.take (i + 1) := by rw [Dm h1, Dm h2, h, e]
def aQQ := ar (vg Quote.enc) (ao (vg Quote.enc))
theorem VL : Ij aQQ := ijr (ijg Quote.inj) (ijo (ijg Quote.inj))
def QJ (q : Quote) : Prop := q.parts.length <= 1000000 /\ q.pairs.length <= 1000000 /\ q.taxes.length <= 1000000
def QqP (x : Quote × Quote) : Prop := QJ x.1 /\ QJ x.2
def RQq (x : Quote × Quote) (b : Bool) : Prop := b = true -> x.1 = x.2
theorem TL : ∃ F : Quote × Quote -> Bool, (∀ x, QqP x -> RQq x (F x)) /\ PU 53 (gOf aQQ fun x => (QqP x, vBB (F x))) := by
 have hG := AJ
 refine SD.p (val := vBB) (R := RQq) VL (by simp [aQQ]) ?_
 rintro ⟨⟨a1, a2, a3, a4, a5⟩, ⟨b1, b2, b3, b4, b5⟩⟩ hv Q hQ
 have Y := SD.E EF0 hG mixed
 have Z := SD.T EF0 hG
 obtain ⟨⟨h1, h2, h3⟩, h4, h5, h6⟩ : QqP (⟨a1, a2, a3, a4, a5⟩, ⟨b1, b2, b3, b4, b5⟩) := hv
 dsimp only at h1 h2 h3 h4 h5 h6
 refine Aa (Z 0 rfl ?_)
 simp only [go_sem, simprocAttr, aQQ, Quote.enc]
 refine Aa (Aa (Z 1 rfl ?_))
 simp only [go_sem, simprocAttr, Ac]
 and_intros <;> try exact sdA
 refine Ad rfl (fun hb1 => ?_) fun hb1 => ?_
 ·refine Aa (Z 2 rfl ?_)
  simp only [go_sem, simprocAttr]
  refine Ae (hQ _ _ (.inl rfl) ?_ ?_ ?_) <;> simp only [go_sem, simprocAttr, vBB]
  exact ⟨false, rfl, fun e => by cases e⟩
 simp only [Cg, It, decide_eq_true_eq] at hb1
 obtain ⟨⟨⟨⟨l1, l2⟩, l3⟩, l4⟩, l5⟩ := hb1
 refine Af ?_
 refine Aa (Aa (Z 3 rfl ?_))
 simp only [go_sem, simprocAttr]
 refine Aq ?_
 refine Ba (α := Nat) (fun i => (i <= a1.length) /\ (a1.take i = b1.take i)) (fun i => ⟨mkE [(2, V.ptr 2 0), (3, V.ptr 3 0), (5, .int .i64 i)], mkH [(2, Ob.box 37 [V.list (List.map Part.enc a1) false, V.list (List.map Two.enc a2) false, V.list (List.map Charge.enc a3) false, V.int IntKind.i64 a4, V.int IntKind.i64 a5]), (3, Ob.box 37 [V.list (List.map Part.enc b1) false, V.list (List.map Two.enc b2) false, V.list (List.map Charge.enc b3) false, V.int IntKind.i64 b4, V.int IntKind.i64 b5])]⟩) (fun i => a1.length - i) 0 ⟨As _, rfl⟩ ?_ ?_
 ·exact leM
 rintro i ⟨hi, hk⟩ KL0 hKL0
 try dsimp only at *
 refine Aa (Aa (Z 4 rfl ?_))
 simp only [go_sem, simprocAttr, Ac]
 refine Ad rfl (fun hc4 => ?_) fun hc4 => ?_
 ·simp only [hcL] at hc4
  refine Af ?_
  refine Aa (Aq ?_)
  have hi2 : i < b1.length := by omega
  obtain ⟨⟨pf, pt, pr, pa⟩, hp⟩ : ∃ p, p = a1[i] := ⟨_, rfl⟩
  obtain ⟨⟨qf, qt, qr, qa⟩, hq⟩ : ∃ p, p = b1[i] := ⟨_, rfl⟩
  refine Aa (Y 6 rfl (by kernel_rfl) ?_)
  simp only [go_sem, simprocAttr, Ap _ _ _ _ hc4, Ap _ _ _ _ hi2, hc4, hi2, Ac, <- hp, <- hq, Part.enc]
  and_intros <;> try exact sdA
  refine Ad rfl (fun hb6 => ?_) fun hb6 => ?_
  ·refine Aa (Z 7 rfl ?_)
   simp only [go_sem, simprocAttr]
   refine Ae (hQ _ _ (.inl rfl) ?_ ?_ ?_) <;> simp only [go_sem, simprocAttr, vBB]
   exact ⟨false, rfl, fun e => by cases e⟩
  refine Af ?_
  refine Z 5 rfl ?_
  simp only [go_sem, simprocAttr, inI]
  and_intros <;> try exact sdA
  refine hKL0 (i + 1) _ ?_ ?_ ?_
  ·(try dsimp only); exact ⟨hc4, UF hk hc4 hi2 (by rw [<- hp, <- hq]; simpa using hb6)⟩
  ·(try dsimp only); omega
  exact leM
 simp only [hcL] at hc4
 rw [BR hc4, BR (by omega)] at hk
 refine AX ?_
 simp only [go_sem, simprocAttr]
 refine Aa (Aa (Z 8 rfl ?_))
 simp only [go_sem, simprocAttr]
 refine Aq ?_
 refine Ba (α := Nat) (fun i => (i <= a2.length) /\ (a2.take i = b2.take i)) (fun i => ⟨mkE [(2, V.ptr 2 0), (3, V.ptr 3 0), (6, .int .i64 i)], mkH [(2, Ob.box 37 [V.list (List.map Part.enc a1) false, V.list (List.map Two.enc a2) false, V.list (List.map Charge.enc a3) false, V.int IntKind.i64 a4, V.int IntKind.i64 a5]), (3, Ob.box 37 [V.list (List.map Part.enc b1) false, V.list (List.map Two.enc b2) false, V.list (List.map Charge.enc b3) false, V.int IntKind.i64 b4, V.int IntKind.i64 b5])]⟩) (fun i => a2.length - i) 0 ⟨As _, rfl⟩ ?_ ?_
 ·exact leM
 rintro i ⟨hi, hk2⟩ KL2 hKL2
 try dsimp only at *
 refine Aa (Aa (Z 9 rfl ?_))
 simp only [go_sem, simprocAttr, Ac]
 refine Ad rfl (fun hc9 => ?_) fun hc9 => ?_
 ·simp only [hcL] at hc9
  refine Af ?_
  refine Aa (Aq ?_)
  have hi2 : i < b2.length := by omega
  obtain ⟨⟨pf, pt⟩, hp⟩ : ∃ p, p = a2[i] := ⟨_, rfl⟩
  obtain ⟨⟨qf, qt⟩, hq⟩ : ∃ p, p = b2[i] := ⟨_, rfl⟩
  refine Aa (Y 11 rfl (by kernel_rfl) ?_)
  simp only [go_sem, simprocAttr, Ap _ _ _ _ hc9, Ap _ _ _ _ hi2, hc9, hi2, Ac, <- hp, <- hq, Two.enc]
  and_intros <;> try exact sdA
  refine Ad rfl (fun hb11 => ?_) fun hb11 => ?_
  ·refine Aa (Z 12 rfl ?_)
   simp only [go_sem, simprocAttr]
   refine Ae (hQ _ _ (.inl rfl) ?_ ?_ ?_) <;> simp only [go_sem, simprocAttr, vBB]
   exact ⟨false, rfl, fun e => by cases e⟩
  refine Af ?_
  refine Z 10 rfl ?_
  simp only [go_sem, simprocAttr, inI]
  and_intros <;> try exact sdA
  refine hKL2 (i + 1) _ ?_ ?_ ?_
  ·(try dsimp only); exact ⟨hc9, UF hk2 hc9 hi2 (by rw [<- hp, <- hq]; simpa using hb11)⟩
  ·(try dsimp only); omega
  exact leM
 simp only [hcL] at hc9
 rw [BR hc9, BR (by omega)] at hk2
 refine AX ?_
 simp only [go_sem, simprocAttr]
 refine Aa (Aa (Z 13 rfl ?_))
 simp only [go_sem, simprocAttr]
 refine Aq ?_
 refine Ba (α := Nat) (fun i => (i <= a3.length) /\ (a3.take i = b3.take i)) (fun i => ⟨mkE [(2, V.ptr 2 0), (3, V.ptr 3 0), (7, .int .i64 i)], mkH [(2, Ob.box 37 [V.list (List.map Part.enc a1) false, V.list (List.map Two.enc a2) false, V.list (List.map Charge.enc a3) false, V.int IntKind.i64 a4, V.int IntKind.i64 a5]), (3, Ob.box 37 [V.list (List.map Part.enc b1) false, V.list (List.map Two.enc b2) false, V.list (List.map Charge.enc b3) false, V.int IntKind.i64 b4, V.int IntKind.i64 b5])]⟩) (fun i => a3.length - i) 0 ⟨As _, rfl⟩ ?_ ?_
 ·exact leM
 rintro i ⟨hi, hk3⟩ KL4 hKL4
 try dsimp only at *
 refine Aa (Aa (Z 14 rfl ?_))
 simp only [go_sem, simprocAttr, Ac]
 refine Ad rfl (fun hc14 => ?_) fun hc14 => ?_
 ·simp only [hcL] at hc14
  refine Af ?_
  refine Aa (Aq ?_)
  have hi2 : i < b3.length := by omega
  obtain ⟨⟨pf, pt⟩, hp⟩ : ∃ p, p = a3[i] := ⟨_, rfl⟩
  obtain ⟨⟨qf, qt⟩, hq⟩ : ∃ p, p = b3[i] := ⟨_, rfl⟩
  refine Aa (Y 16 rfl (by kernel_rfl) ?_)
  simp only [go_sem, simprocAttr, Ap _ _ _ _ hc14, Ap _ _ _ _ hi2, hc14, hi2, Ac, <- hp, <- hq, Charge.enc]
  and_intros <;> try exact sdA
  refine Ad rfl (fun hb16 => ?_) fun hb16 => ?_
  ·refine Aa (Z 17 rfl ?_)
   simp only [go_sem, simprocAttr]
   refine Ae (hQ _ _ (.inl rfl) ?_ ?_ ?_) <;> simp only [go_sem, simprocAttr, vBB]
   exact ⟨false, rfl, fun e => by cases e⟩
  refine Af ?_
  refine Z 15 rfl ?_
  simp only [go_sem, simprocAttr, inI]
  and_intros <;> try exact sdA
  refine hKL4 (i + 1) _ ?_ ?_ ?_
  ·(try dsimp only); exact ⟨hc14, UF hk3 hc14 hi2 (by rw [<- hp, <- hq]; simpa using hb16)⟩
  ·(try dsimp only); omega
  exact leM
 simp only [hcL] at hc14
 rw [BR hc14, BR (by omega)] at hk3
 refine AX ?_
 simp only [go_sem, simprocAttr]
 refine Aa (Z 18 rfl ?_)
 simp only [go_sem, simprocAttr]
 refine Ae (hQ _ _ (.inl rfl) ?_ ?_ ?_) <;> simp only [go_sem, simprocAttr, vBB]
 exact ⟨true, rfl, fun _ => by rw [hk, hk2, hk3, l4, l5]⟩
def fQq : Quote × Quote -> Bool := TL.choose
theorem AiT : ∀ x, QqP x -> RQq x (fQq x) := TL.choose_spec.1
theorem AiV : PU 53 (gOf aQQ fun x => (QqP x, vBB (fQq x))) := TL.choose_spec.2
theorem AiU (a b : Quote) : gOf aQQ (fun x => (QqP x, vBB (fQq x))) [.agg a.enc, .agg b.enc] = (QqP (a, b), .bool (fQq (a, b))) := Al (F := fun x => (QqP x, vBB (fQq x))) VL (a, b)
def Kl : Places × List Want × List UInt8 × Int -> Trip := UO.choose
theorem Ann : ∀ x, TrP x -> TrpOk (Kl x) := UO.choose_spec.1
theorem Anp : PU 97 (gOf aTr fun x => (TrP x, Ju (Kl x))) := UO.choose_spec.2
theorem Ano (ps : List Airport) (ds : List Distance) (W : List Want) (u : List UInt8) (s : Int) : gOf aTr (fun x => (TrP x, Ju (Kl x))) [.agg [.list (ps.map Airport.enc) false, .list (ds.map Distance.enc) false], .list (W.map Want.enc) false, .str u, .int .i64 s] = (TrP (⟨ps, ds⟩, W, u, s), .agg (Kl (⟨ps, ds⟩, W, u, s)).enc) := Al (F := fun x => (TrP x, Ju (Kl x))) Wh (⟨ps, ds⟩, W, u, s)
theorem Ad5 (a1 : Int) (k : Int) (l : List Cond) (a b x y z : Int) (t : List (List UInt8)) (a3 : List Int) (a4 a5 a6 a7 : Int) (a8 : List Pct) (q : Trip) : gOf aRT (fun x => (AlP x, vII (fAl x))) [.agg [.int .i64 a1, .int .i64 k, .list (l.map Cond.enc) false, .int .i64 a, .int .i64 b, .int .i64 x, .int .i64 y, .int .i64 z, .list (strs t) false, .list (Ao a3) false, .int .i64 a4, .int .i64 a5, .int .i64 a6, .int .i64 a7, .list (a8.map Pct.enc) false], .agg q.enc] = (AlP (⟨a1, .mk k l a b ⟨x, y, z⟩ t, a3, a4, a5, a6, a7, a8⟩, q), .int .i64 (fAl (⟨a1, .mk k l a b ⟨x, y, z⟩ t, a3, a4, a5, a6, a7, a8⟩, q))) := by
 rw [<- Rule.enc_at]; exact Al (F := fun x => (AlP x, vII (fAl x))) VP (_, q)
theorem Trip.pur (r : Trip) : V.purs r.enc = true := (Trip.purs [r]).2 trivial _ (by simp)
def aWh := ar (vg Places.enc) (ar (vg Tariff.enc) (ar vi (ar (vl Want.enc) (ar V.str (ao vi)))))
theorem Wm : Ij aWh := ijr (ijg Places.inj) (ijr (ijg Tariff.inj) (ijr iji (ijr (ijl Want.inj) (ijr ijs (ijo iji)))))
structure WhP (x : Places × Tariff × Int × List Want × List UInt8 × Int) : Prop where
 p : TrP (x.1, x.2.2.2.1, x.2.2.2.2.1, x.2.2.2.2.2)
 t : TarOk x.2.1
def tWh : Tab
 | 100 => (gOf aTF fun x => (TarOk x.1, vII (fMl x)))
 | 94 => (gOf aPW fun x => (CtP x, vSS (GL x)))
 | 101 => (gOf Hl fun x => (O3P x, Ak (fO3 x)))
 | 95 => (gOf aTN fun x => (TarOk x.1, vRB (fRl x)))
 | 98 => (gOf aTN fun x => (TarOk x.1, vGB (Fs x)))
 | 97 => (gOf aTr fun x => (TrP x, Ju (Kl x)))
 | 96 => (gOf aRT fun x => (AlP x, vII (fAl x)))
 | 99 => (gOf HX fun x => (RgP x, vBB (MY x)))
 | _ => gNo
theorem Ame : ∀ f, PU f (tWh f) := fun f => by
 unfold tWh
 split
 ·exact AaZ
 ·exact RB
 ·exact Abf
 ·exact Qh
 ·exact TZ
 ·exact Anp
 ·exact Ad6
 ·exact Ajd
 ·exact Aj.no
theorem Adk : ∃ F : Places × Tariff × Int × List Want × List UInt8 × Int -> Int, (∀ x, WhP x -> RT x (F x)) /\ PU 48 (gOf aWh fun x => (WhP x, vII (F x))) := by
 have hG := Ame
 refine Sz.p (val := vII) (R := RT) Wm (by simp [aWh]) ?_
 rintro ⟨⟨ps, ds⟩, ⟨fs, rs, gs, xs⟩, k, W, u, sa⟩ hv Q hQ
 have Y := Sz.E EF0 hG mixed
 have Z := Sz.T EF0 hG
 obtain ⟨hTr, h2⟩ : WhP (⟨ps, ds⟩, ⟨fs, rs, gs, xs⟩, k, W, u, sa) := hv
 dsimp only at hTr
 have h4 : W.length <= 900 := hTr.t.n
 have h1 : MOk ⟨ps, ds⟩ := hTr.p.m
 have hC : CtP (⟨ps, ds⟩, W) := ⟨h1.1, h4⟩
 obtain ⟨C, hCe⟩ : ∃ C, C = GL (⟨ps, ds⟩, W) := ⟨_, rfl⟩
 have hCl : C.length = if W = [] then 0 else W.length + 1 := by rw [hCe]; exact RA _ hC
 have hC9 : C.length <= 1000 := by rw [hCl]; split <;> omega
 have hWy : WyP (⟨ps, ds⟩, C) := ⟨h1, hC9⟩
 refine Aa (Z 0 rfl ?_)
 simp only [go_sem, simprocAttr, aWh, Places.enc, Tariff.enc, tWh, Bs, AM, Bt, AL, Bc, h2, hC, <- hCe]
 refine Aa (Aa (Z 1 rfl ?_))
 simp only [go_sem, simprocAttr, Ac, tWh, Bs, AM, Bt, AL, Bc, h2, hC, <- hCe]
 and_intros <;> try exact sdA
 refine Ad rfl (fun hb1 => ?_) fun hb1 => ?_
 ·refine Aa (Z 2 rfl ?_)
  simp only [go_sem, simprocAttr, tWh, Bs, AM, Bt, AL, Bc, h2, hC, <- hCe]
  refine Ae (hQ _ _ (.inl rfl) ?_ ?_ ?_) <;> simp only [go_sem, simprocAttr, vII]
  exact ⟨_, rfl, trivial⟩
 simp only [Cg, decide_eq_false_iff_not] at hb1
 have q1 : 0 <= k := by omega
 have q2 : k < fs.length := by omega
 have hF : k.toNat < fs.length := by omega
 obtain ⟨⟨ca, fr, to, ba, cl, rd, am, ru, rg⟩, hf⟩ : ∃ f, f = fs[k.toNat] := ⟨_, rfl⟩
 have hMi : inI (fMl (⟨fs, rs, gs, xs⟩, ⟨ca, fr, to, ba, cl, rd, am, ru, rg⟩)) := AaY _ h2
 obtain ⟨mi, hmi⟩ : ∃ m, m = fMl (⟨fs, rs, gs, xs⟩, ⟨ca, fr, to, ba, cl, rd, am, ru, rg⟩) := ⟨_, rfl⟩
 rw [<- hmi] at hMi
 have hO : O3P (⟨ps, ds⟩, C, mi) := ⟨hWy, hMi⟩
 have hW0 : 0 < W.length := by omega
 have hC2 : C.length = W.length + 1 := by rw [hCl, if_neg (by intro e; rw [e] at hW0; exact absurd hW0 (by decide))]
 have e2 : ((C.length : Int) - 1).toNat = C.length - 1 := by omega
 have hC0 : 0 < C.length := by omega
 have hC1 : C.length - 1 < C.length := by omega
 refine Af ?_
 refine Aa (Z 3 rfl ?_)
 simp only [go_sem, simprocAttr, Ap _ _ _ _ hF, hF, Ac, <- hf, Fare.enc, q1, q2, tWh, Bs, AM, Bt, AL, Bc, h2, hC, <- hCe]
 and_intros <;> try exact sdA
 refine Aa (Z 4 rfl ?_)
 simp only [go_sem, simprocAttr, tWh, Bs, AM, Bt, AL, Bc, h2, hC, <- hCe]
 and_intros <;> try exact sdA
 refine Aa (Z 5 rfl ?_)
 simp only [go_sem, simprocAttr, tWh, Bs, AM, Bt, AL, Bc, h2, hC, <- hCe]
 refine Aa (Aa (Z 6 rfl ?_))
 simp only [go_sem, simprocAttr, tWh, Bs, AM, Bt, AL, Bc, h2, hC, <- hCe]
 refine Aq ?_
 refine Ba (α := Nat × Bool) (fun γ => (γ.1 <= W.length)) (fun γ => ⟨mkE [(3, V.list (List.map Want.enc W) false), (4, V.str u), (5, V.int IntKind.i64 sa), (6, V.ptr 6 0), (7, V.ptr 7 0), (13, V.ptr 13 0), (14, V.list (strs C) false), (15, .bool γ.2), (16, .int .i64 γ.1)], mkH [(6, Ob.box 25 [V.list (List.map Airport.enc ps) false, V.list (List.map Distance.enc ds) false]), (7, Ob.box 31 [V.list (List.map Fare.enc fs) false, V.list (List.map Rule.enc rs) false, V.list (List.map Routing.enc gs) false, V.list (List.map Tax.enc xs) false]), (13, Ob.box 96 [V.str ca, V.str fr, V.str to, V.str ba, V.str cl, V.bool rd, V.int IntKind.i64 am, V.int IntKind.i64 ru, V.int IntKind.i64 rg])]⟩) (fun γ => W.length - γ.1) (0, true) (As _) ?_ ?_
 ·exact leM
 rintro ⟨i, b⟩ hi KL0 hKL0
 try dsimp only at *
 refine Aa (Aa (Z 7 rfl ?_))
 simp only [go_sem, simprocAttr, Ac, tWh, Bs, AM, Bt, AL, Bc, h2, hC, <- hCe]
 refine Ad rfl (fun hc7 => ?_) fun hc7 => ?_
 ·simp only [hcL] at hc7
  refine Af ?_
  refine Aa (Aq ?_)
  refine Aa ?_
  obtain ⟨⟨⟨ca1, nu1, da1, fr1, to1, de1, ar1⟩, cl1⟩, hw1⟩ : ∃ w, w = W[i] := ⟨_, rfl⟩
  refine Aa (Y 9 rfl (by kernel_rfl) ?_)
  simp only [go_sem, simprocAttr, Ap _ _ _ _ hc7, hc7, Ac, <- hw1, Want.enc, tWh, Bs, AM, Bt, AL, Bc, h2, hC, <- hCe]
  and_intros <;> try exact sdA
  refine Ad rfl (fun hc9 => ?_) fun hc9 => ?_
  ·simp only [hcL] at hc9
   refine Aa (Z 10 rfl ?_)
   simp only [go_sem, simprocAttr, tWh, Bs, AM, Bt, AL, Bc, h2, hC, <- hCe]
   refine Ae (hQ _ _ (.inl rfl) ?_ ?_ ?_) <;> simp only [go_sem, simprocAttr, vII]
   exact ⟨_, rfl, trivial⟩
  simp only [hcL] at hc9
  refine Af ?_
  refine Y 11 rfl (by kernel_rfl) ?_
  simp only [go_sem, simprocAttr, Ap _ _ _ _ hc7, hc7, Ac, <- hw1, Want.enc, tWh, Bs, AM, Bt, AL, Bc, h2, hC, <- hCe]
  and_intros <;> try exact sdA
  refine Z 8 rfl ?_
  simp only [go_sem, simprocAttr, inI, tWh, Bs, AM, Bt, AL, Bc, h2, hC, <- hCe]
  and_intros <;> try exact sdA
  refine hKL0 (i + 1, (b && decide (cl1 = cl))) _ ?_ ?_ ?_
  ·(try dsimp only); exact hc7
  ·(try dsimp only); omega
  exact leM
 simp only [hcL] at hc7
 refine AX ?_
 simp only [go_sem, simprocAttr]
 refine Aa (Aa (Y 12 rfl (by kernel_rfl) ?_))
 simp only [go_sem, simprocAttr, inI, EL, e2, Gz _ _ _ hC0, Gz _ _ _ hC1, hC0, hC1, tWh, Bs, AM, Bt, AL, Bc, h2, hC, <- hCe]
 and_intros <;> try exact sdA
 refine Ad rfl (fun hc12 => ?_) fun hc12 => ?_
 ·simp only [hcL] at hc12
  refine Aa (Z 13 rfl ?_)
  simp only [go_sem, simprocAttr, tWh, Bs, AM, Bt, AL, Bc, h2, hC, <- hCe]
  refine Ae (hQ _ _ (.inl rfl) ?_ ?_ ?_) <;> simp only [go_sem, simprocAttr, vII]
  exact ⟨_, rfl, trivial⟩
 simp only [hcL] at hc12
 refine Af ?_
 refine Aa (Aa (Z 14 rfl ?_))
 simp only [go_sem, simprocAttr, tWh, Bs, AM, Bt, AL, Bc, h2, hC, <- hCe]
 refine Ad rfl (fun hc14 => ?_) fun hc14 => ?_
 ·simp only [hcL] at hc14
  refine Aa (Z 15 rfl ?_)
  simp only [go_sem, simprocAttr, tWh, Bs, AM, Bt, AL, Bc, h2, hC, <- hCe]
  refine Ae (hQ _ _ (.inl rfl) ?_ ?_ ?_) <;> simp only [go_sem, simprocAttr, vII]
  exact ⟨_, rfl, trivial⟩
 simp only [hcL] at hc14
 refine Af ?_
 obtain ⟨⟨⟨a1, ⟨c1, c2, c3, c4, ⟨x, y, z⟩, t⟩, a3, a4, a5, a6, a7, a8⟩, bb⟩, hR⟩ : ∃ y, y = fRl (⟨fs, rs, gs, xs⟩, ru) := ⟨_, rfl⟩
 have hro := TW h2 ru
 rw [<- hR] at hro
 obtain ⟨T, hT⟩ : ∃ T, T = Kl (⟨ps, ds⟩, W, u, sa) := ⟨_, rfl⟩
 have hTo : TrpOk T := by rw [hT]; exact Ann _ hTr
 have hAl : AlP (⟨a1, .mk c1 c2 c3 c4 ⟨x, y, z⟩ t, a3, a4, a5, a6, a7, a8⟩, T) := ⟨hro, hTo⟩
 refine Aa (Z 16 rfl ?_)
 simp only [go_sem, simprocAttr, <- hR, Rule.enc_at, tWh, Bs, AM, Bt, AL, Bc, h2, hC, <- hCe]
 and_intros <;> try exact sdA
 refine Aa (Y 17 rfl (by kernel_rfl) ?_)
 simp only [go_sem, simprocAttr, Ano, hTr, <- hT, Ad5, hAl, Trip.pur, tWh, Bs, AM, Bt, AL, Bc, h2, hC, <- hCe]
 and_intros <;> try exact sdA
 refine Aa (Aa (Z 18 rfl ?_))
 simp only [go_sem, simprocAttr, tWh, Bs, AM, Bt, AL, Bc, h2, hC, <- hCe]
 refine Ad rfl (fun hc18 => ?_) fun hc18 => ?_
 ·simp only [hcL] at hc18
  refine Aa (Z 19 rfl ?_)
  simp only [go_sem, simprocAttr, tWh, Bs, AM, Bt, AL, Bc, h2, hC, <- hCe]
  refine Ae (hQ _ _ (.inl rfl) ?_ ?_ ?_) <;> simp only [go_sem, simprocAttr, vII]
  exact ⟨_, rfl, trivial⟩
 simp only [hcL] at hc18
 refine Af ?_
 obtain ⟨⟨⟨gn, gl, gm⟩, gb⟩, hGe⟩ : ∃ y, y = Fs (⟨fs, rs, gs, xs⟩, rg) := ⟨_, rfl⟩
 have hgo := AbW h2 rg
 rw [<- hGe] at hgo
 have hRg : RgP (⟨gn, gl, gm⟩, C) := ⟨hgo.2, show C.length <= 1000000 by omega⟩
 refine Aa (Z 20 rfl ?_)
 simp only [go_sem, simprocAttr, <- hGe, Routing.enc, tWh, Bs, AM, Bt, AL, Bc, h2, hC, <- hCe]
 and_intros <;> try exact sdA
 refine Aa (Aa (Z 21 rfl ?_))
 simp only [go_sem, simprocAttr, Ajc, hRg, tWh, Bs, AM, Bt, AL, Bc, h2, hC, <- hCe]
 and_intros <;> try exact sdA
 refine Ad rfl (fun hc21 => ?_) fun hc21 => ?_
 ·simp only [hcL] at hc21
  refine Aa (Z 22 rfl ?_)
  simp only [go_sem, simprocAttr, tWh, Bs, AM, Bt, AL, Bc, h2, hC, <- hCe]
  refine Ae (hQ _ _ (.inl rfl) ?_ ?_ ?_) <;> simp only [go_sem, simprocAttr, vII]
  exact ⟨_, rfl, trivial⟩
 simp only [hcL] at hc21
 refine Af ?_
 refine Aa (Aa (Z 23 rfl ?_))
 simp only [go_sem, simprocAttr, <- hmi, tWh, Bs, AM, Bt, AL, Bc, h2, hC, <- hCe]
 and_intros <;> try exact sdA
 refine Ad rfl (fun hc23 => ?_) fun hc23 => ?_
 ·simp only [hcL] at hc23
  refine Y 24 rfl (by kernel_rfl) ?_
  simp only [go_sem, simprocAttr, <- hmi, hO, tWh, Bs, AM, Bt, AL, Bc, h2, hC, <- hCe]
  and_intros <;> try exact sdA
  refine Aa (Z 25 rfl ?_)
  simp only [go_sem, simprocAttr, tWh, Bs, AM, Bt, AL, Bc, h2, hC, <- hCe]
  refine Ae (hQ _ _ (.inl rfl) ?_ ?_ ?_) <;> simp only [go_sem, simprocAttr, vII]
  exact ⟨_, rfl, trivial⟩
 simp only [hcL] at hc23
 refine Af ?_
 refine Aa (Z 25 rfl ?_)
 simp only [go_sem, simprocAttr, tWh, Bs, AM, Bt, AL, Bc, h2, hC, <- hCe]
 refine Ae (hQ _ _ (.inl rfl) ?_ ?_ ?_) <;> simp only [go_sem, simprocAttr, vII]
 exact ⟨_, rfl, trivial⟩
def Nf : Places × Tariff × Int × List Want × List UInt8 × Int -> Int := Adk.choose
theorem AnN : PU 48 (gOf aWh fun x => (WhP x, vII (Nf x))) := Adk.choose_spec.2
theorem AnM (ps : List Airport) (ds : List Distance) (a : List Fare) (b : List Rule) (c : List Routing) (d : List Tax) (k : Int) (W : List Want) (u : List UInt8) (s : Int) : gOf aWh (fun x => (WhP x, vII (Nf x))) [.agg [.list (ps.map Airport.enc) false, .list (ds.map Distance.enc) false], .agg [.list (a.map Fare.enc) false, .list (b.map Rule.enc) false, .list (c.map Routing.enc) false, .list (d.map Tax.enc) false], .int .i64 k, .list (W.map Want.enc) false, .str u, .int .i64 s] = (WhP (⟨ps, ds⟩, ⟨a, b, c, d⟩, k, W, u, s), .int .i64 (Nf (⟨ps, ds⟩, ⟨a, b, c, d⟩, k, W, u, s))) := Al (F := fun x => (WhP x, vII (Nf x))) Wm (⟨ps, ds⟩, ⟨a, b, c, d⟩, k, W, u, s)
def JM := ar (vg Places.enc) (ar (vg Tariff.enc) (ar (vl Want.enc) (ar V.str (ar vi (ao (vg Quote.enc))))))
theorem Wj : Ij JM := ijr (ijg Places.inj) (ijr (ijg Tariff.inj) (ijr (ijl Want.inj) (ijr ijs (ijr iji (ijo (ijg Quote.inj))))))
structure VdP (y : Places × Tariff × List Want × List UInt8 × Int × Quote) : Prop where
 p : PlK y.1
 t : TarOk y.2.1
 r : JA y.2.1
 x : ∀ x ∈ y.2.1.taxes, TxK x
 w : TmOk y.2.2.1
 u : y.2.2.2.1.length <= 140737488355328
 s : inI y.2.2.2.2.1
 o : ∀ w ∈ y.2.2.1, w.ok
 q : QJ y.2.2.2.2.2
structure VdR (x : Places × Tariff × List Want × List UInt8 × Int × Quote) : Prop where
 n : 1 <= x.2.2.1.length /\ x.2.2.1.length <= 6
 f : Hi x.2.1 x.2.2.2.2.2.parts
 c : Chn x.2.2.1.length 0 x.2.2.2.2.2.parts
 a : AmK x.2.2.2.2.2.parts
 q : QuK x.2.2.2.2.2.parts x.2.2.2.2.2
def RVd (x : Places × Tariff × List Want × List UInt8 × Int × Quote) (y : Int) : Prop := y = 0 -> VdR x
theorem CD (a1 : List Part) (a2 : List Two) (a3 : List Charge) (a4 a5 : Int) (b1 : List Part) (b2 : List Two) (b3 : List Charge) (b4 b5 : Int) : gOf aQQ (fun x => (QqP x, vBB (fQq x))) [.agg [.list (a1.map Part.enc) false, .list (a2.map Two.enc) false, .list (a3.map Charge.enc) false, .int .i64 a4, .int .i64 a5], .agg [.list (b1.map Part.enc) false, .list (b2.map Two.enc) false, .list (b3.map Charge.enc) false, .int .i64 b4, .int .i64 b5]] = (QqP (⟨a1, a2, a3, a4, a5⟩, ⟨b1, b2, b3, b4, b5⟩), .bool (fQq (⟨a1, a2, a3, a4, a5⟩, ⟨b1, b2, b3, b4, b5⟩))) := AiU ⟨a1, a2, a3, a4, a5⟩ ⟨b1, b2, b3, b4, b5⟩
theorem Chn.bd {n : Int} : ∀ {l : List Part} {a : Int}, 0 <= a -> Chn n a l -> ∀ p ∈ l, 0 <= p.from' /\ p.from' < p.to' /\ p.to' <= n
 | x :: l, a, h0, ⟨⟨h1, h2, h3⟩, h4⟩, p, hp => by
  rcases AN.1 hp with rfl | hp
  ·exact ⟨by omega, by omega, h3⟩
  ·exact Chn.bd (by omega) h4 p hp
theorem TmOk.sub {W : List Want} (h : TmOk W) {a b : Nat} : TmOk ((W.take b).drop a) := ⟨by have := h.n; simp only [BW, BJ]; omega, fun w hw => h.t w (EG (Fb hw))⟩
def Cp : Tab
 | 47 => (gOf JG fun x => (CsP x, vBB (Kc x)))
 | 48 => (gOf aWh fun x => (WhP x, vII (Nf x)))
 | 49 => (gOf aAm fun x => (AmP x, Ak (fAm x)))
 | 50 => (gOf aSs fun x => (SsP x, vII (Lh x)))
 | 51 => (gOf aSm fun x => (SmP x, vQB (fSm x)))
 | 52 => (gOf Da fun x => (KnP x, Hg (fPs x)))
 | 53 => (gOf aQQ fun x => (QqP x, vBB (fQq x)))
 | _ => gNo
theorem Amc : ∀ f, PU f (Cp f) := fun f => by
 unfold Cp
 split
 ·exact Afa
 ·exact AnN
 ·exact Aea
 ·exact AeL
 ·exact Akv
 ·exact TH
 ·exact AiV
 ·exact Aj.no
theorem UV : ∃ F : Places × Tariff × List Want × List UInt8 × Int × Quote -> Int, (∀ x, VdP x -> RVd x (F x)) /\ PU 18 (gOf JM fun x => (VdP x, vII (F x))) := by
 have hG := Amc
 refine Sn.p (val := vII) (R := RVd) Wj (by simp [JM]) ?_
 rintro ⟨⟨ps, ds⟩, ⟨fs, rs, gs, xs⟩, W, u, sa, ⟨l, pr, tx, fa, to⟩⟩ hv Q hQ
 have ZR := Sn.E EF0 hG mixed
 have Z := Sn.T EF0 hG
 obtain ⟨h1, h2, h3, h4, h5, h6, h7, h8, h9, h10, h11⟩ : VdP (⟨ps, ds⟩, ⟨fs, rs, gs, xs⟩, W, u, sa, ⟨l, pr, tx, fa, to⟩) := hv
 dsimp only at h1 h2 h3 h4 h5 h6 h7 h8 h9 h10 h11
 have hWl : W.length <= 900 := h5.n
 have hCs : CsP (l, (W.length : Int)) := h9
 have hCr := Ae9 _ hCs
 obtain ⟨cb, hcb⟩ : ∃ b, b = Kc (l, (W.length : Int)) := ⟨_, rfl⟩
 rw [<- hcb] at hCr
 have hS6 : SsP (⟨ps, ds⟩, ⟨fs, rs, gs, xs⟩, W, l) := ⟨h1, h2, h5, h9⟩
 have hK : KnP (⟨fs, rs, gs, xs⟩, l) := ⟨h2.f, h9⟩
 refine Aa (Z 0 rfl ?_)
 simp only [go_sem, simprocAttr, JM, Places.enc, Tariff.enc, Quote.enc, Cp, Cy, Cx, CF, AZ, CD, hCs, <- hcb, hS6, hK]
 refine Aa (Aa (Z 1 rfl ?_))
 simp only [go_sem, simprocAttr, Ac, Cp, Cy, Cx, CF, AZ, CD, hCs, <- hcb, hS6, hK]
 and_intros <;> try exact sdA
 refine Ad rfl (fun hb1 => ?_) fun hb1 => ?_
 ·refine Aa (Z 2 rfl ?_)
  simp only [go_sem, simprocAttr, Cp, Cy, Cx, CF, AZ, CD, hCs, <- hcb, hS6, hK]
  refine Ae (hQ _ _ (.inl rfl) ?_ ?_ ?_) <;> simp only [go_sem, simprocAttr, vII]
  exact ⟨2, rfl, fun e => absurd e (by decide)⟩
 simp only [Cg, decide_eq_false_iff_not] at hb1
 have hn : 1 <= W.length /\ W.length <= 6 := by omega
 refine Af ?_
 refine Aa (Aa (Z 3 rfl ?_))
 simp only [go_sem, simprocAttr, Ac, Cp, Cy, Cx, CF, AZ, CD, hCs, <- hcb, hS6, hK]
 and_intros <;> try exact sdA
 refine Ad rfl (fun hb3 => ?_) fun hb3 => ?_
 ·refine Aa (Z 4 rfl ?_)
  simp only [go_sem, simprocAttr, Cp, Cy, Cx, CF, AZ, CD, hCs, <- hcb, hS6, hK]
  refine Ae (hQ _ _ (.inl rfl) ?_ ?_ ?_) <;> simp only [go_sem, simprocAttr, vII]
  exact ⟨15, rfl, fun e => absurd e (by decide)⟩
 have hch : Chn W.length 0 l := hCr (by simpa using hb3)
 have hbd := Chn.bd (Gu 0) hch
 refine Af ?_
 refine Aa (Aa (Z 5 rfl ?_))
 simp only [go_sem, simprocAttr, Cp, Cy, Cx, CF, AZ, CD, hCs, <- hcb, hS6, hK]
 refine Aq ?_
 refine Ba (α := Nat) (fun i => (i <= l.length) /\ (AmK (l.take i))) (fun i => ⟨mkE [(2, V.list (List.map Want.enc W) false), (3, V.str u), (4, V.int IntKind.i64 sa), (6, V.ptr 6 0), (7, V.ptr 7 0), (11, V.ptr 11 0), (13, .int .i64 i)], mkH [(6, Ob.box 25 [V.list (List.map Airport.enc ps) false, V.list (List.map Distance.enc ds) false]), (7, Ob.box 31 [V.list (List.map Fare.enc fs) false, V.list (List.map Rule.enc rs) false, V.list (List.map Routing.enc gs) false, V.list (List.map Tax.enc xs) false]), (11, Ob.box 37 [V.list (List.map Part.enc l) false, V.list (List.map Two.enc pr) false, V.list (List.map Charge.enc tx) false, V.int IntKind.i64 fa, V.int IntKind.i64 to])]⟩) (fun i => l.length - i) 0 ⟨As _, fun p hp => by simp at hp⟩ ?_ ?_
 ·exact leM
 rintro i ⟨hi, hk⟩ KL0 hKL0
 try dsimp only at *
 refine Aa (Aa (Z 6 rfl ?_))
 simp only [go_sem, simprocAttr, Ac, Cp, Cy, Cx, CF, AZ, CD, hCs, <- hcb, hS6, hK]
 refine Ad rfl (fun hc6 => ?_) fun hc6 => ?_
 ·simp only [hcL] at hc6
  refine Af ?_
  refine Aa (Aq ?_)
  obtain ⟨⟨pf, pt, pr1, pa⟩, hp⟩ : ∃ p, p = l[i] := ⟨_, rfl⟩
  have hpb := hbd _ (AI hc6)
  rw [<- hp] at hpb
  obtain ⟨b1, b2, b3⟩ : 0 <= pf /\ pf < pt /\ pt <= W.length := hpb
  obtain ⟨Y, hY, hYt, hYo⟩ : ∃ Y : List Want, List.drop pf.toNat (List.take pt.toNat (W.map Want.enc)) = Y.map Want.enc /\ TmOk Y /\ ∀ w ∈ Y, w.ok := ⟨(W.take pt.toNat).drop pf.toNat, by rw [List.map_drop, LM], h5.sub, fun w hw => h8 w (EG (Fb hw))⟩
  have hWh : WhP (⟨ps, ds⟩, ⟨fs, rs, gs, xs⟩, pr1, Y, u, sa) := ⟨⟨h1, hYt, h6, h7, hYo⟩, h2⟩
  have hAm : AmP (⟨ps, ds⟩, ⟨fs, rs, gs, xs⟩, pr1, Y, u) := ⟨h1.m, h2, h3, hYt.n⟩
  have hAb := Ad8 _ hAm
  obtain ⟨⟨n, e⟩, hA⟩ : ∃ y, y = fAm (⟨ps, ds⟩, ⟨fs, rs, gs, xs⟩, pr1, Y, u) := ⟨_, rfl⟩
  rw [<- hA] at hAb
  refine Aa (Z 8 rfl ?_)
  simp only [go_sem, simprocAttr, Ap _ _ _ _ hc6, hc6, Ac, <- hp, Part.enc, Cp, Cy, Cx, CF, AZ, CD, hCs, <- hcb, hS6, hK]
  and_intros <;> try exact sdA
  refine Aa (ZR 9 rfl (by kernel_rfl) ?_)
  simp only [go_sem, simprocAttr, Ac, hY, AnM, hWh, Cp, Cy, Cx, CF, AZ, CD, hCs, <- hcb, hS6, hK]
  and_intros <;> try exact sdA
  refine Aa (Aa (Z 10 rfl ?_))
  simp only [go_sem, simprocAttr, Cp, Cy, Cx, CF, AZ, CD, hCs, <- hcb, hS6, hK]
  refine Ad rfl (fun hc10 => ?_) fun hc10 => ?_
  ·simp only [hcL] at hc10
   refine Aa (Z 11 rfl ?_)
   simp only [go_sem, simprocAttr, Cp, Cy, Cx, CF, AZ, CD, hCs, <- hcb, hS6, hK]
   refine Ae (hQ _ _ (.inl rfl) ?_ ?_ ?_) <;> simp only [go_sem, simprocAttr, vII]
   exact ⟨_, rfl, fun e0 => absurd e0 hc10⟩
  simp only [hcL] at hc10
  refine Af ?_
  refine Aa (ZR 12 rfl (by kernel_rfl) ?_)
  simp only [go_sem, simprocAttr, Ac, hY, Ad9, hAm, <- hA, Cp, Cy, Cx, CF, AZ, CD, hCs, <- hcb, hS6, hK]
  and_intros <;> try exact sdA
  refine Aa (Z 13 rfl ?_)
  simp only [go_sem, simprocAttr, Cp, Cy, Cx, CF, AZ, CD, hCs, <- hcb, hS6, hK]
  and_intros <;> try exact sdA
  refine Ad rfl (fun hb13 => ?_) fun hb13 => ?_
  ·refine Aa (Z 14 rfl ?_)
   simp only [go_sem, simprocAttr, Cp, Cy, Cx, CF, AZ, CD, hCs, <- hcb, hS6, hK]
   refine Ae (hQ _ _ (.inl rfl) ?_ ?_ ?_) <;> simp only [go_sem, simprocAttr, vII]
   exact ⟨36, rfl, fun e0 => absurd e0 (by decide)⟩
  simp only [Cg, It, decide_eq_true_eq] at hb13
  obtain ⟨m1, m2⟩ := hb13
  have hAb2 : 0 <= n /\ n <= 1099511627776 := hAb m1
  refine Af ?_
  refine Z 7 rfl ?_
  simp only [go_sem, simprocAttr, inI, Cp, Cy, Cx, CF, AZ, CD, hCs, <- hcb, hS6, hK]
  and_intros <;> try exact sdA
  refine hKL0 (i + 1) _ ?_ ?_ ?_
  ·(try dsimp only); exact ⟨hc6, Mo hk hc6 (by rw [<- hp]; exact ⟨show 0 <= pa by omega, show pa <= 1099511627776 by omega⟩)⟩
  ·(try dsimp only); omega
  exact leM
 simp only [hcL] at hc6
 rw [BR hc6] at hk
 have hSm : SmP (⟨ps, ds⟩, ⟨fs, rs, gs, xs⟩, W, u, l) := ⟨h1.m.1, h2, h4, h5, h9, hk⟩
 have hSb := Aku _ hSm
 have hCk := AeK _ hS6
 obtain ⟨⟨⟨q1, q2, q3, q4, q5⟩, sb⟩, hSe⟩ : ∃ y, y = fSm (⟨ps, ds⟩, ⟨fs, rs, gs, xs⟩, W, u, l) := ⟨_, rfl⟩
 rw [<- hSe] at hSb
 have hPb := TG _ hK
 obtain ⟨⟨P, pe⟩, hPe⟩ : ∃ y, y = fPs (⟨fs, rs, gs, xs⟩, l) := ⟨_, rfl⟩
 rw [<- hPe] at hPb
 refine AX ?_
 simp only [go_sem, simprocAttr]
 refine Aa (Z 15 rfl ?_)
 simp only [go_sem, simprocAttr, Cp, Cy, Cx, CF, AZ, CD, hCs, <- hcb, hS6, hK]
 and_intros <;> try exact sdA
 refine Aa (Aa (Z 16 rfl ?_))
 simp only [go_sem, simprocAttr, Cp, Cy, Cx, CF, AZ, CD, hCs, <- hcb, hS6, hK]
 refine Ad rfl (fun hc16 => ?_) fun hc16 => ?_
 ·simp only [hcL] at hc16
  refine Aa (Z 17 rfl ?_)
  simp only [go_sem, simprocAttr, Cp, Cy, Cx, CF, AZ, CD, hCs, <- hcb, hS6, hK]
  refine Ae (hQ _ _ (.inl rfl) ?_ ?_ ?_) <;> simp only [go_sem, simprocAttr, vII]
  exact ⟨_, rfl, fun e0 => absurd e0 hc16⟩
 simp only [hcL] at hc16
 refine Af ?_
 refine Aa (Z 18 rfl ?_)
 simp only [go_sem, simprocAttr, hSm, <- hSe, Quote.enc, Cp, Cy, Cx, CF, AZ, CD, hCs, <- hcb, hS6, hK]
 and_intros <;> try exact sdA
 refine Aa (Aa (Z 19 rfl ?_))
 simp only [go_sem, simprocAttr, Cp, Cy, Cx, CF, AZ, CD, hCs, <- hcb, hS6, hK]
 refine Ad rfl (fun hb19 => ?_) fun hb19 => ?_
 ·refine Aa (Z 20 rfl ?_)
  simp only [go_sem, simprocAttr, Cp, Cy, Cx, CF, AZ, CD, hCs, <- hcb, hS6, hK]
  refine Ae (hQ _ _ (.inl rfl) ?_ ?_ ?_) <;> simp only [go_sem, simprocAttr, vII]
  exact ⟨36, rfl, fun e0 => absurd e0 (by decide)⟩
 have hQu : QuK l ⟨q1, q2, q3, q4, q5⟩ := hSb.2.2.2 (by simpa using hb19)
 have hq1 : q1 = l := hQu.p
 have hPl : P.length <= l.length := hPb.1
 have hQq : QqP (⟨q1, P, q3, q4, q5⟩, ⟨l, pr, tx, fa, to⟩) := ⟨⟨show q1.length <= 1000000 by rw [hq1]; exact h9, show P.length <= 1000000 by omega, hQu.n⟩, h9, h10, h11⟩
 refine Af ?_
 refine Aa (Z 21 rfl ?_)
 simp only [go_sem, simprocAttr, <- hPe, Cp, Cy, Cx, CF, AZ, CD, hCs, <- hcb, hS6, hK]
 and_intros <;> try exact sdA
 refine Aa (Z 22 rfl ?_)
 simp only [go_sem, simprocAttr, Cp, Cy, Cx, CF, AZ, CD, hCs, <- hcb, hS6, hK]
 refine Aa (Aa (Z 23 rfl ?_))
 simp only [go_sem, simprocAttr, hQq, Cp, Cy, Cx, CF, AZ, CD, hCs, <- hcb, hS6, hK]
 and_intros <;> try exact sdA
 refine Ad rfl (fun hb23 => ?_) fun hb23 => ?_
 ·refine Aa (Z 24 rfl ?_)
  simp only [go_sem, simprocAttr, Cp, Cy, Cx, CF, AZ, CD, hCs, <- hcb, hS6, hK]
  refine Ae (hQ _ _ (.inl rfl) ?_ ?_ ?_) <;> simp only [go_sem, simprocAttr, vII]
  exact ⟨36, rfl, fun e0 => absurd e0 (by decide)⟩
 refine Af ?_
 refine Aa (Z 25 rfl ?_)
 simp only [go_sem, simprocAttr, Cp, Cy, Cx, CF, AZ, CD, hCs, <- hcb, hS6, hK]
 refine Ae (hQ _ _ (.inl rfl) ?_ ?_ ?_) <;> simp only [go_sem, simprocAttr, vII]
 obtain ⟨e1, e2, e3, e4, e5⟩ := Quote.mk.inj (AiT _ hQq (by simpa using hb23)); have hQv : QuK l ⟨q1, q2, tx, fa, to⟩ := (by rw [<- show q3 = tx from e3, <- show q4 = fa from e4, <- show q5 = to from e5]; exact hQu); exact ⟨0, rfl, fun _ => ⟨hn, hCk (by simpa using hc16), hch, hk, ⟨hQv.f, hQv.f0, hQv.x, hQv.n, hQv.t, hQv.t0, rfl⟩⟩⟩
def Km : Places × Tariff × List Want × List UInt8 × Int × Quote -> Int := UV.choose
theorem AnB : ∀ x, VdP x -> RVd x (Km x) := UV.choose_spec.1
theorem AnD : PU 18 (gOf JM fun x => (VdP x, vII (Km x))) := UV.choose_spec.2
def RNr (n : Int) (b : Bool) : Prop := b = true -> -1099511627776 <= n /\ n <= 1099511627776
def RTi (l : List Want) (b : Bool) : Prop := b = true -> ∀ w ∈ l, GC w.seg
theorem AkV {s w : Int} (h1 : s <= 1099511627776) (hw2 : w <= 100000000) : stepT s w = s + w := by
 unfold stepT; rw [if_pos h1, Int.min_eq_left (by omega)]
theorem Ada : ∀ {l : List Int} {s : Int}, (∀ w ∈ l, 1 <= w /\ w <= 100000000) -> 0 <= s -> s + 100000000 * l.length <= 1099511627776 -> 0 < s + l.length -> (CY s l).2 = 0 /\ (CY s l).1 <= 1099511627776
 | [], s, _, h0, h1, h2 => by
  simp only [Ax] at h1 h2
  rw [CY, if_neg (by omega)]
  exact ⟨rfl, by dsimp only; omega⟩
 | w :: l, s, h, h0, h1, h2 => by
  obtain ⟨a, b⟩ := h w AH
  simp only [Aw] at h1 h2
  rw [CY, if_neg (by omega), AkV (by omega) b]
  exact Ada (fun x hx => h x (AU _ hx)) (by omega) (by omega) (by omega)
theorem AnK {p : Places} (hd : p.distances.length <= 1000) (w : Want) : 1 <= wgt p w /\ wgt p w <= 100000000 := by
 have := AaU (ps := p.airports) hd w.seg.from' w.seg.to'
 unfold wgt
 dsimp only
 split
 ·omega
 ·rename_i h
  have : (Eg p.airports p.distances w.seg.from' w.seg.to').1 ≠ 0 := fun e => h (.inr e)
  omega
theorem AkG {a : Int} {l : List Int} (ha : 0 <= a /\ a <= 1099511627776) (hl : ∀ w ∈ l, 1 <= w /\ w <= 100000000) (h1 : 0 < l.length) (h2 : l.length <= 900) : (Eh a l).1 = 0 := by
 obtain ⟨q1, q2⟩ := Ada (s := 0) hl (by omega) (by omega) (by omega)
 unfold Eh
 rw [if_neg (by rw [q1]; simp), if_neg]
 rintro (h | h)
 ·have := (Lw a).2 ⟨by omega, by omega⟩
  rw [this] at h; cases h
 ·omega
theorem Xe {W : List Int} {n : Int} (hn : n <= W.length) (hW : ∀ w ∈ W, 1 <= w /\ w <= 100000000) (hl : W.length <= 900) : ∀ {parts : List Part} {a : Int}, DE n a parts = true -> 0 <= a -> AmK parts ->
  ∃ X, Ds W parts = (0, X) /\ X.sum = amS parts /\ ∀ x ∈ X, 0 <= x /\ x <= 1099511627776
 | [], a, _, _, _ => ⟨[], rfl, rfl, fun x hx => nomatch hx⟩
 | p :: parts, a, hd, h0, hA => by
  rw [DE] at hd
  split at hd
  ·cases hd
  rename_i hp
  have hp1 : p.from' = a /\ a < p.to' /\ p.to' <= n := by omega
  obtain ⟨X, e1, e2, e3⟩ := Xe hn hW hl hd (by omega) (fun q hq => hA q (AU _ hq))
  have hp0 := hA p AH
  have hs := AkG hp0 (l := (W.take p.to'.toNat).drop p.from'.toNat) (fun w hw => hW w (EG (Fb hw))) (by rw [BW, BJ]; omega) (by rw [BW, BJ]; omega)
  obtain ⟨⟨e, s⟩, hsp⟩ : ∃ y, Eh p.amount ((W.take p.to'.toNat).drop p.from'.toNat) = y := ⟨_, rfl⟩
  rw [hsp] at hs
  obtain rfl : e = 0 := hs
  have hF := (Un hsp).2 rfl
  refine ⟨s ++ X, ?_, ?_, fun x hx => ?_⟩
  ·rw [Ds, hsp]; dsimp only; rw [if_neg (by simp), e1]; simp
  ·rw [ND, hF.sum, e2]; rfl
  ·rcases BT.1 hx with hx | hx
   ·have hb := AcE hF x hx
    obtain ⟨i, hi, rfl⟩ := FY.1 hx
    have := (hF.sg i hi).1 hp0.1
    omega
   ·exact e3 x hx
theorem WT {F n : Int} : ∀ {l : List Part} {a : Int}, Chn n a l -> (∀ p ∈ l, 0 <= p.fare /\ p.fare < F) -> Dc F n a l = true
 | [], a, h, _ => decide_eq_true h
 | x :: l, a, ⟨⟨h1, h2, h3⟩, h4⟩, hf => by
  have := hf x AH
  rw [Dc, if_neg (by omega)]
  exact WT h4 fun p hp => hf p (AU _ hp)
theorem Agj {α : Type} (L : List α) (z : α) (k a : Nat) (h : a + k <= L.length) : (List.range k).map (fun j => L.getD (a + j) z) = (L.drop a).take k := by
 apply List.ext_getElem
 ·simp; omega
 ·intro i h1 h2
  simp only [Ac, List.length_range] at h1
  rw [Gb, List.getElem_range, List.getElem_take, List.getElem_drop, CT _ _ _ (by omega)]
theorem Afb {α : Type} (L : List α) {a b n : Nat} (h1 : a <= b) (h2 : b <= n) : (L.drop a).take (b - a) ++ (L.take n).drop b = (L.take n).drop a := by
 rw [show (L.drop a).take (b - a) = ((L.take n).drop a).take (b - a) by rw [List.drop_take, List.take_take, Nat.min_eq_left (by omega)], show (L.take n).drop b = ((L.take n).drop a).drop (b - a) by rw [NE, show a + (b - a) = b by omega], KA]
theorem OM {α : Type} (g : Coupon -> α) (L : List α) (z : α) {F : List Fare} {W : List Want} {X : List Int} (hg : ∀ x j, g (mkC F W X x j) = L.getD (x.from'.toNat + j) z) {f : Int} {n : Nat} (hn : n <= L.length) :
  ∀ {ps : List Part} {a : Int}, Dc f n a ps = true -> 0 <= a -> (GH F W X ps).map g = (L.take n).drop a.toNat
 | [], a, h, h0 => by
  rw [Dc, decide_eq_true_eq] at h
  rw [Hz (by rw [BJ]; omega)]; rfl
 | x :: ps, a, h, h0 => by
  rw [Dc] at h
  split at h
  ·cases h
  rename_i hx
  have ih := OM g L z hg hn h (by omega)
  unfold GH at ih ⊢
  rw [Ny, DO, ih]
  have e : (GI F W X x).map g = (L.drop a.toNat).take (x.to'.toNat - a.toNat) := by
   unfold GI
   rw [Kw, show (g ∘ mkC F W X x) = fun j => L.getD (x.from'.toNat + j) z from funext fun j => hg x j, Agj _ _ _ _ (by omega), show x.from' = a by omega, show (x.to' - a).toNat = x.to'.toNat - a.toNat by omega]
  rw [e, Afb L (by omega) (by omega)]
theorem Xg {P : Coupon -> Prop} {F : List Fare} {W : List Want} {X : List Int} {ps : List Part} (h : ∀ x j, P (mkC F W X x j)) : ∀ c ∈ GH F W X ps, P c := fun c hc => by
 unfold GH at hc
 obtain ⟨x, _, hx⟩ := Kt.1 hc
 unfold GI at hx
 obtain ⟨j, _, rfl⟩ := Am.1 hx
 exact h x j
structure CpK (W : List Want) (fa : Int) (cs : List Coupon) : Prop where
 w : cs.map Coupon.want = W
 s : ∀ c ∈ cs, c.status = 1
 v : ∀ c ∈ cs, 0 <= c.value /\ c.value <= 1099511627776
 b : ∀ c ∈ cs, c.basis.length <= 140737488355328
 t : (cs.map Coupon.value).sum = fa
theorem CpK.n {W fa cs} (h : CpK W fa cs) : cs.length = W.length := by rw [<- h.w, Ac]
theorem AkF {p : Places} {F : List Fare} {W : List Want} {q : Quote} {x : Person} {n : Int} {loc : List UInt8} {d : Int} (hp : p.distances.length <= 1000) (hW : 1 <= W.length /\ W.length <= 6) (hf : ∀ x ∈ q.parts, 0 <= x.fare /\ x.fare < F.length)
  (hc : Chn W.length 0 q.parts) (ha : AmK q.parts) (hq : q.fare = amS q.parts) (hn : Fj n = true) (hd : GJ d = true) (hFo : ∀ f ∈ F, f.basis.length <= 140737488355328) : ∃ cs, DU p F W q x n loc d = (⟨n, loc, x, cs, q.fare, q.taxes, q.total, d⟩, 0) /\ CpK W q.fare cs := by
 have hcv := WT hc hf
 obtain ⟨hdv, _⟩ := Xc hcv
 obtain ⟨X, e1, e2, e3⟩ := Xe (W := W.map (wgt p)) (n := W.length) (by rw [Ac]; exact Gu _) (fun w hw => by obtain ⟨z, _, rfl⟩ := Am.1 hw; exact AnK hp z) (by rw [Ac]; omega) hdv (Gu 0) ha
 have hcm : Ey p W q = (0, X) := by unfold Ey; rw [if_pos hdv, e1]
 have hXl := WZ hcm
 refine ⟨GH F W X q.parts, Ac8 (by rw [hcv, hn]; simp; omega) hd hcm, ?_, Xg fun _ _ => rfl, ?_, Xg fun x j => ?_, ?_⟩
 ·rw [OM Coupon.want W Want.zero (fun _ _ => rfl) (AF _) hcv (Gu 0)]; simp
 ·have hv := OM (F := F) (W := W) Coupon.value X 0 (fun _ _ => rfl) (Nat.le_of_eq hXl.symm) hcv (Gu 0)
  rw [<- hXl, NB] at hv
  intro c hc
  exact e3 _ (by rw [show X = X.drop (0 : Int).toNat from rfl, <- hv]; exact Am.2 ⟨c, hc, rfl⟩)
 ·show (F.getD x.fare.toNat Fare.zero).basis.length <= _
  rcases NI x.fare.toNat F.length with h | h
  ·rw [CT _ _ _ h]; exact hFo _ (AI h)
  ·rw [AS, List.getElem?_eq_none h]; exact As _
 ·have hv := OM (F := F) (W := W) Coupon.value X 0 (fun _ _ => rfl) (Nat.le_of_eq hXl.symm) hcv (Gu 0)
  rw [<- hXl, NB] at hv
  rw [hv, hq, <- e2]; rfl
def sTx : List UInt8 := [116, 97, 120, 32]
def ME (x : Tax) : Bool := decide (x.kind < 1) || decide (4 < x.kind)
def MD (x : Tax) : Bool := decide (x.amount < 0) || decide (LZ x.kind < x.amount) || decide (x.scope < 0) || decide (2 < x.scope) || decide (x.transit < 0) || decide (100000 < x.transit)
def Mp (i : Nat) (x : Tax) : List Fault := fIf (!HE x) 5 (sTx ++ dec i) ++ fIf (ME x) 8 (sTx ++ dec i) ++ fIf (MD x) 2 (sTx ++ dec i)
def GB (l : List Tax) : Nat -> List Fault
 | 0 => []
 | i + 1 => GB l i ++ Mp i (l.getD i Tax.zero)
theorem Aml (i x) : (Mp i x).length <= 3 := by
 have h1 := Ig (!HE x) 5 (sTx ++ dec i)
 have h2 := Ig (ME x) 8 (sTx ++ dec i)
 have h3 := Ig (MD x) 2 (sTx ++ dec i)
 unfold Mp; simp only [An]; omega
theorem Ac4 (l) : ∀ i, (GB l i).length <= 3 * i
 | 0 => AF _
 | i + 1 => by rw [GB, An]; have := Ac4 l i; have := Aml i (l.getD i Tax.zero); omega
def KY := ao (vl Tax.enc)
theorem Wd : Ij KY := ijo (ijl Tax.inj)
def SmT (l : List Tax) : Prop := l.length <= 1000 /\ ∀ x ∈ l, x.ok
def Ps (l : List Tax) : Prop × V := (SmT l, .list (Az (GB l l.length)) false)
def EO : Tab
 | 72 => (gOf KX Lp)
 | 73 => (gOf BX MT)
 | 68 => Im
 | _ => gNo
theorem Am6 : ∀ f, PU f (EO f) := fun f => by
 unfold EO
 split
 ·exact Ajh
 ·exact Ajg
 ·exact NW
 ·exact Aj.no
theorem Ajn : PU 29 (gOf KY Ps) := by
 have hG := Am6
 refine Sx.a Wd (by simp [KY]) ?_
 rintro l hv C hN Q hQ
 have Y := Sx.D EF0 hG hN mixed
 have Z := Sx.R EF0 hG hN
 obtain ⟨hl, hok⟩ : SmT l := hv
 refine Ab (Z 0 rfl ?_)
 simp only [go_sem, simprocAttr, KY, EO, Fo, Fn]
 refine Ab (Z 1 rfl ?_)
 simp only [go_sem, simprocAttr, EO, Fo, Fn]
 refine AW.le (s' := ⟨mkE [(0, .list (l.map Tax.enc) false), (3, .own 999 0)], mkH ([(999, .arr 126 2 (Az []))])⟩) (Le.mk _ _ (by (simp only [go_sem, simprocAttr]) <;> and_intros <;> try exact leB) (by (simp only [go_sem, simprocAttr]) <;> and_intros <;> try exact leB) rfl) ?_
 refine Ab (Ab (Z 2 rfl ?_))
 simp only [go_sem, simprocAttr, EO, Fo, Fn]
 refine Ar ?_
 refine Bj (α := Nat × (List Fault)) (fun γ => (γ.1 <= l.length) /\ (γ.2 = GB l γ.1) /\ (γ.2.length <= 3 * γ.1)) (fun γ => ⟨mkE [(0, V.list (List.map Tax.enc l) false), (3, .own 999 γ.2.length), (4, .int .i64 γ.1)], mkH [(999, .arr 126 2 (Az γ.2))]⟩) (fun γ => l.length - γ.1) (0, []) ⟨As _, rfl, AF _⟩ ?_ ?_
 ·exact leM
 rintro ⟨i, g⟩ ⟨hi, hg, hgl⟩ KL0 hKL0
 try dsimp only at *
 refine Ab (Ab (Z 3 rfl ?_))
 simp only [go_sem, simprocAttr, EO, Fo, Fn]
 refine Ai rfl (fun hc3 => ?_) fun hc3 => ?_
 ·simp only [hcL] at hc3
  refine Ah ?_
  refine Ab (Ar ?_)
  have hxo := hok _ (AI hc3)
  generalize hxx : l[i] = x at hxo
  obtain ⟨a, b, c, dd, e, f, fr⟩ := x
  have hd := Id (i := i) (by omega)
  have hi2 := Je (i := i) (by omega)
  refine Ab (FG (EF := EF0) hG mixed (by rw [hN]; exact AmS) AhY ?_)
  simp only [QW, Xn, go_sem, simprocAttr, inI, Ap _ _ _ _ hc3, hc3, hxx, Tax.enc, AC, hi2, EO, Fo, Fn]
  and_intros <;> (try first | exact sdA | (simp only [An, Aw, Ax]; omega))
  refine Dq (α := (List Fault)) (fun g1 => (g1 = g ++ fIf (!HE ⟨a, b, c, dd, e, f, fr⟩) 5 (sTx ++ dec i)) /\ (g1.length <= g.length + 1)) (fun g1 => ⟨mkE [(0, V.list (List.map Tax.enc l) false), (3, .own 999 g1.length), (4, V.int IntKind.i64 ↑i), (5, V.ptr 5 0), (6, V.str (116 :: 97 :: 120 :: 32 :: dec ↑i))], mkH [(5, Ob.box 143 [V.str a, V.int IntKind.i64 b, V.str c, V.int IntKind.i64 dd, V.int IntKind.i64 e, V.int IntKind.i64 f, V.list (strs fr) false]), (999, .arr 126 2 (Az g1))]⟩) ?_ ?_
  ·intro KC6 hKC6
   refine Ab (Z 6 rfl ?_)
   simp only [go_sem, simprocAttr, hxo, EO, Fo, Fn]
   and_intros <;> try exact sdA
   refine Ai rfl (fun hb6 => ?_) fun hb6 => ?_
   ·refine Z 7 rfl ?_
    simp only [go_sem, simprocAttr, EO, Fo, Fn]
    and_intros <;> try exact sdA
    refine hKC6 (g ++ [⟨5, sTx ++ dec i⟩]) _ ?_ ?_
    ·(try dsimp only); exact ⟨by rw [Du (show (!HE ⟨a, b, c, dd, e, f, fr⟩) = true from hb6)], by simp⟩
    refine Le.mk _ _ ?_ ?_ rfl <;> simp only [go_sem, simprocAttr, An, Aw, Ax] <;> and_intros <;> try exact leA
   refine Ah ?_
   refine hKC6 (g) _ ?_ ?_
   ·(try dsimp only); exact ⟨by rw [Dt (show (!HE ⟨a, b, c, dd, e, f, fr⟩) = false from hb6), Br], by omega⟩
   exact leM
  rintro g1 ⟨hg1, lg1⟩
  refine Dq (α := (List Fault)) (fun g2 => (g2 = g1 ++ fIf (ME ⟨a, b, c, dd, e, f, fr⟩) 8 (sTx ++ dec i)) /\ (g2.length <= g1.length + 1)) (fun g2 => ⟨mkE [(0, V.list (List.map Tax.enc l) false), (3, .own 999 g2.length), (4, V.int IntKind.i64 ↑i), (5, V.ptr 5 0), (6, V.str (116 :: 97 :: 120 :: 32 :: dec ↑i))], mkH [(5, Ob.box 143 [V.str a, V.int IntKind.i64 b, V.str c, V.int IntKind.i64 dd, V.int IntKind.i64 e, V.int IntKind.i64 f, V.list (strs fr) false]), (999, .arr 126 2 (Az g2))]⟩) ?_ ?_
  ·intro KC8 hKC8
   refine Ab (Z 8 rfl ?_)
   simp only [go_sem, simprocAttr, EO, Fo, Fn]
   and_intros <;> try exact sdA
   refine Ai rfl (fun hb8 => ?_) fun hb8 => ?_
   ·refine Z 9 rfl ?_
    simp only [go_sem, simprocAttr, EO, Fo, Fn]
    and_intros <;> try exact sdA
    refine hKC8 (g1 ++ [⟨8, sTx ++ dec i⟩]) _ ?_ ?_
    ·(try dsimp only); exact ⟨by rw [Du (show (ME ⟨a, b, c, dd, e, f, fr⟩) = true from hb8)], by simp⟩
    refine Le.mk _ _ ?_ ?_ rfl <;> simp only [go_sem, simprocAttr, An, Aw, Ax] <;> and_intros <;> try exact leA
   refine Ah ?_
   refine hKC8 (g1) _ ?_ ?_
   ·(try dsimp only); exact ⟨by rw [Dt (show (ME ⟨a, b, c, dd, e, f, fr⟩) = false from hb8), Br], by omega⟩
   exact leM
  rintro g2 ⟨hg2, lg2⟩
  refine Ab (Y 10 rfl (by kernel_rfl) ?_)
  simp only [go_sem, simprocAttr, EO, Fo, Fn]
  and_intros <;> try exact sdA
  refine Ai rfl (fun hb10 => ?_) fun hb10 => ?_
  ·refine Z 11 rfl ?_
   simp only [go_sem, simprocAttr, EO, Fo, Fn]
   and_intros <;> try exact sdA
   refine Z 4 rfl ?_
   simp only [go_sem, simprocAttr, inI, EO, Fo, Fn]
   and_intros <;> try exact sdA
   refine hKL0 (i + 1, g2 ++ [⟨2, sTx ++ dec i⟩]) _ ?_ ?_ ?_
   ·(try dsimp only); refine ⟨hc3, ?_, by simp only [An, Aw, Ax]; omega⟩; rw [GB, CT _ _ _ hc3, hxx, Mp, Du (b := MD ⟨a, b, c, dd, e, f, fr⟩) hb10, hg2, hg1, hg]; simp only [EH]
   ·(try dsimp only); omega
   refine Le.mk _ _ ?_ ?_ rfl <;> simp only [go_sem, simprocAttr, An, Aw, Ax] <;> and_intros <;> try exact leA
  refine Ah ?_
  refine Z 4 rfl ?_
  simp only [go_sem, simprocAttr, inI, EO, Fo, Fn]
  and_intros <;> try exact sdA
  refine hKL0 (i + 1, g2) _ ?_ ?_ ?_
  ·(try dsimp only); refine ⟨hc3, ?_, by omega⟩; rw [GB, CT _ _ _ hc3, hxx, Mp, Dt (b := MD ⟨a, b, c, dd, e, f, fr⟩) hb10, hg2, hg1, hg]; simp only [EH, Br]
  ·(try dsimp only); omega
  exact leM
 simp only [hcL] at hc3
 refine Be ?_
 simp only [go_sem, simprocAttr]
 refine Ab (Z 12 rfl ?_)
 simp only [go_sem, simprocAttr, EO, Fo, Fn]
 refine AW.le (s' := ⟨mkE [(2, .list (Az g) false)], mkH []⟩) (Le.mk _ _ ?_ ?_ rfl) (Ag (hQ _ _ (.inl rfl) ?_ ?_ ?_)) <;> simp only [go_sem, simprocAttr, Ps]
 ·exact DA rfl (by rw [EW]) rfl (Gp _)
 rw [hg, NC hi hc3]
structure Paper where
 p : Places
 t : Tariff
 l : List Want
 q : Quote
 x : Person
 number : Int
 locator : List UInt8
 day : Int
def Paper.enc (x : Paper) : List V := [.list (x.p.airports.map Airport.enc) false, .list (x.p.distances.map Distance.enc) false, .list (x.t.fares.map Fare.enc) false, .list (x.t.rules.map Rule.enc) false, .list (x.t.routings.map Routing.enc) false, .list (x.t.taxes.map Tax.enc) false, .list (x.l.map Want.enc) false, .list (x.q.parts.map Part.enc) false, .list (x.q.pairs.map Two.enc) false, .list (x.q.taxes.map Charge.enc) false, .int .i64 x.q.fare, .int .i64 x.q.total, .str x.x.last, .str x.x.first, .str x.x.type, .int .i64 x.number, .str x.locator, .int .i64 x.day]
theorem Paper.inj (a b : Paper) (h : a.enc = b.enc) : a = b := by
 obtain ⟨⟨a_p_airports, a_p_distances⟩, ⟨a_t_fares, a_t_rules, a_t_routings, a_t_taxes⟩, a_l, ⟨a_q_parts, a_q_pairs, a_q_taxes, a_q_fare, a_q_total⟩, ⟨a_x_last, a_x_first, a_x_type⟩, a_number, a_locator, a_day⟩ := a
 obtain ⟨⟨b_p_airports, b_p_distances⟩, ⟨b_t_fares, b_t_rules, b_t_routings, b_t_taxes⟩, b_l, ⟨b_q_parts, b_q_pairs, b_q_taxes, b_q_fare, b_q_total⟩, ⟨b_x_last, b_x_first, b_x_type⟩, b_number, b_locator, b_day⟩ := b
 simp only [Paper.enc, Bz, V.str.injEq, V.int.injEq, V.bool.injEq, V.agg.injEq, V.list.injEq, and_true, true_and] at h
 obtain ⟨h0, h1, h2, h3, h4, h5, h6, h7, h8, h9, h10, h11, h12, h13, h14, h15, h16, h17⟩ := h
 replace h0 := Cl Airport.inj h0
 subst h0
 replace h1 := Cl Distance.inj h1
 subst h1
 replace h2 := Cl Fare.inj h2
 subst h2
 replace h3 := Cl Rule.inj h3
 subst h3
 replace h4 := Cl Routing.inj h4
 subst h4
 replace h5 := Cl Tax.inj h5
 subst h5
 replace h6 := Cl Want.inj h6
 subst h6
 replace h7 := Cl Part.inj h7
 subst h7
 replace h8 := Cl Two.inj h8
 subst h8
 replace h9 := Cl Charge.inj h9
 subst h9
 subst h10
 subst h11
 subst h12
 subst h13
 subst h14
 subst h15
 subst h16
 subst h17
 rfl
theorem Paper.rows (l : List Paper) : (∀ r ∈ l.map Paper.enc, r.length = 18) ↔ True := iff_true_intro fun r hr => by obtain ⟨x, _, rfl⟩ := Am.1 hr; rfl
theorem Paper.purs (l : List Paper) : (∀ r ∈ l.map Paper.enc, V.purs r = true) ↔ True := iff_true_intro fun r hr => by obtain ⟨x, _, rfl⟩ := Am.1 hr; rfl
attribute [go_sem] Paper.rows Paper.purs
structure PpOk (x : Paper) : Prop where
 p : x.p.ok
 t : TarOk x.t
 l : x.l.length <= 1000000
 lo : ∀ z ∈ x.l, z.ok
 q : x.q.parts.length <= 1000000
 qo : ∀ z ∈ x.q.parts, z.ok
 qx : x.q.taxes.length <= 1000000
 n : inI x.number
 d : inI x.day
structure FitR (x : Paper) : Prop where
 l : x.l.length <= 8
 q : x.q.parts.length <= 8
 qx : x.q.taxes.length <= 20
 a : x.p.airports.length <= 12
 d : x.p.distances.length <= 20
 f : x.t.fares.length <= 20
 r : x.t.rules.length <= 8
 g : x.t.routings.length <= 8
 xx : x.t.taxes.length <= 8
 cp : Ic x.p = []
 ct : JA x.t
 cx : GB x.t.taxes x.t.taxes.length = []
theorem RO (ps : List Airport) (ds : List Distance) : gOf aP1 Ph [.agg [.list (ps.map Airport.enc) false, .list (ds.map Distance.enc) false]] = (Sm ⟨ps, ds⟩, .list (Az (Ic ⟨ps, ds⟩)) false) := Al Ow (⟨ps, ds⟩ : Places)
theorem Lt (l : List Tax) : gOf KY Ps [.list (l.map Tax.enc) false] = (SmT l, .list (Az (GB l l.length)) false) := Al Wd l
theorem XL (p es) : (FK p es).length = es.length := Ac _
theorem Wv (ps) : ∀ i, (Ib ps i).length <= 4 * i
 | 0 => AF _
 | i + 1 => by rw [Ib, An, XL]; have := Wv ps i; have := Wu ps i (ps.getD i Airport.zero); omega
theorem XG (ps ds) : ∀ i, (IU ps ds i).length <= 3 * i
 | 0 => AF _
 | i + 1 => by rw [IU, An, XL]; have := XG ps ds i; have := XF ps ds i (ds.getD i Distance.zero); omega
theorem AeI {p : Places} (h : Sm p) : (Ic p).length <= 140737488355328 := by
 have h1 := Wv p.airports p.airports.length
 have h2 := XG p.airports p.distances p.distances.length
 have h3 := h.1
 have h4 := h.2.1
 unfold Ic
 rw [An]
 omega
theorem Tk {g : List Fault} : decide ((g.length : Int) = 0) = decide (g = []) := by
 cases g <;> simp
 omega
theorem Bg (ps : List Airport) (ds : List Distance) (fs : List Fare) (rs : List Rule) (gs : List Routing) (xs : List Tax) (W : List Want) (pa : List Part) (pr : List Two) (tx : List Charge) (fa to : Int) (la fi ty : List UInt8) (n : Int) (loc : List UInt8) (d : Int) : gOf KZ Kj [.agg [.list (ps.map Airport.enc) false, .list (ds.map Distance.enc) false], .agg [.list (fs.map Fare.enc) false, .list (rs.map Rule.enc) false, .list (gs.map Routing.enc) false, .list (xs.map Tax.enc) false], .list (W.map Want.enc) false, .agg [.list (pa.map Part.enc) false, .list (pr.map Two.enc) false, .list (tx.map Charge.enc) false, .int .i64 fa, .int .i64 to], .agg [.str la, .str fi, .str ty], .int .i64 n, .str loc, .int .i64 d] = (TkIn ⟨ps, ds⟩ ⟨fs, rs, gs, xs⟩ W ⟨pa, pr, tx, fa, to⟩ n d, tkV (DU ⟨ps, ds⟩ fs W ⟨pa, pr, tx, fa, to⟩ ⟨la, fi, ty⟩ n loc d)) := Al We (⟨ps, ds⟩, ⟨fs, rs, gs, xs⟩, W, ⟨pa, pr, tx, fa, to⟩, ⟨la, fi, ty⟩, n, loc, d)
theorem Abh {n : Int} (h : HG n = true) : -2000 <= n /\ n <= 2000 := by
 unfold HG at h
 simp only [Bx, decide_eq_true_eq] at h
 omega
theorem Adr {l : List Shift} : ∀ (f i : Nat), Gi l f i = 0 -> ∀ j, i <= j -> j < i + f -> HG (l.getD j Shift.zero).offset = true
 | 0, i, _, j, h1, h2 => absurd h2 (by omega)
 | f + 1, i, h, j, h1, h2 => by
  rw [Gi] at h
  split at h
  ·rename_i he
   rcases NI i j with hj | hj
   ·exact Adr f (i + 1) h j (by omega) (by omega)
   ·obtain rfl : i = j := by omega
    unfold IF at he
    split at he
    ·cases he
    ·split at he
     ·assumption
     ·cases he
  ·rename_i he; exact absurd h he
theorem Aoh {z : Zone} (h : DV z = 0) : FC z := by
 unfold DV at h
 split at h
 ·cases h
 rename_i hl
 split at h
 ·rename_i ho
  refine ⟨by omega, Abh ho, fun s hs => ?_⟩
  obtain ⟨j, hj, rfl⟩ := FY.1 hs
  have := Adr _ 0 h j (by omega) (by omega)
  rw [CT _ _ _ hj] at this
  exact Abh this
 ·cases h
theorem Ww {ps : List Airport} : ∀ i, i <= ps.length -> Ib ps i = [] -> ∀ j (hj : j < ps.length), j < i -> DV ps[j].zone = 0
 | 0, _, _, j, _, h => absurd h (Ee _)
 | i + 1, hi, h, j, hj, hji => by
  rw [Ib, Gs] at h
  rcases NI j i with h1 | h1
  ·exact Ww i (by omega) h.1 j hj h1
  ·obtain rfl : j = i := by omega
   have h2 := h.2
   unfold FK at h2
   rw [Nr, CT _ _ _ hj] at h2
   unfold IT at h2
   have h3 := (Gs.1 h2).2
   unfold iIf at h3
   split at h3
   ·cases h3
   ·rename_i hz; simpa using hz
theorem AfP {b : Bool} {e : Int} {p : List UInt8} (h : fIf b e p = []) : b = false := by
 unfold fIf at h
 cases b with
 | true => simp at h
 | false => rfl
theorem Ac3 {l : List Tax} : ∀ i, i <= l.length -> GB l i = [] -> ∀ j (hj : j < l.length), j < i -> 0 <= l[j].amount /\ l[j].amount <= 1099511627776
 | 0, _, _, j, _, h => absurd h (Ee _)
 | i + 1, hi, h, j, hj, hji => by
  rw [GB, Gs] at h
  rcases NI j i with h1 | h1
  ·exact Ac3 i (by omega) h.1 j hj h1
  ·obtain rfl : j = i := by omega
   have h2 := h.2
   unfold Mp at h2
   rw [CT _ _ _ hj] at h2
   have h3 := AfP (Gs.1 h2).2
   unfold MD LZ at h3
   simp only [Cg, decide_eq_false_iff_not] at h3
   have h4 := h3.1.1.1.1
   split at h4 <;> omega
structure PpS (y : Paper × List UInt8 × Int) : Prop where
 a : PpOk y.1
 q : y.1.q.ok
 x : y.1.x.ok
 l : y.1.locator.length <= 140737488355328
 r : y.1.q.pairs.length <= 1000000
 f : ∀ z ∈ y.1.t.taxes, z.free.length <= 1048576
 s : y.2.1.length <= 140737488355328
 n : inI y.2.2
theorem PpS.v {y : Paper × List UInt8 × Int} (h : PpS y) (hf : FitR y.1) (h4 : y.1.l.length <= 4) (ht : ∀ w ∈ y.1.l, GC w.seg) : VdP (y.1.p, y.1.t, y.1.l, y.2.1, y.2.2, y.1.q) := by
 have f1 := hf.a; have f2 := hf.d; have f3 := h.a.q; have f4 := h.r; have f5 := h.a.qx
 refine ⟨⟨⟨⟨by dsimp only; omega, by dsimp only; omega⟩, by dsimp only; omega⟩, fun a ha => ?_⟩, h.a.t, hf.ct, fun z hz => ⟨?_, h.f z hz⟩, ⟨by dsimp only; omega, ht⟩, h.s, h.n, h.a.lo, ⟨f3, f4, f5⟩⟩
 ·obtain ⟨j, hj, rfl⟩ := FY.1 ha
  have := hf.cp
  unfold Ic at this
  exact Aoh (Ww _ (AF _) (Gs.1 this).1 j hj hj)
 ·obtain ⟨j, hj, rfl⟩ := FY.1 hz
  exact Ac3 _ (AF _) hf.cx j hj hj
theorem PpOk.tk2 {x : Paper} (h : PpOk x) (hf : FitR x) : TkIn x.p x.t x.l x.q x.number x.day := by
 have h1 := hf.a; have h2 := hf.d
 exact ⟨⟨⟨⟨⟨by omega, by omega⟩, by omega⟩, by omega⟩, by have := hf.l; omega, h.q, h.qo⟩, h.t, h.n, h.d, h.qx⟩
end Go.Proofs.YtjkclhbckfkeeaaGreatDoor
end
