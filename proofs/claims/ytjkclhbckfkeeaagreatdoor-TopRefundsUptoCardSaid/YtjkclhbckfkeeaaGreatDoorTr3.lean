import Derived.Test.YtjkclhbckfkeeaaGreatDoorGr1
import Derived.Test.YtjkclhbckfkeeaaGreatDoorCob
set_option linter.unusedSimpArgs false
set_option linter.unusedVariables false
set_option linter.deprecated false
set_option maxHeartbeats 8000000
noncomputable section
namespace Go.Proofs.YtjkclhbckfkeeaaGreatDoor
open Go Go.RowKit
def mkC (F : List Fare) (W : List Want) (X : List Int) (x : Part) (j : Nat) : Coupon := ⟨W.getD (x.from'.toNat + j) Want.zero, (F.getD x.fare.toNat Fare.zero).basis, 1, X.getD (x.from'.toNat + j) 0⟩
def GI (F : List Fare) (W : List Want) (X : List Int) (x : Part) : List Coupon := (List.range (x.to' - x.from').toNat).map (mkC F W X x)
def GH (F : List Fare) (W : List Want) (X : List Int) (ps : List Part) : List Coupon := ps.flatMap (GI F W X)
theorem Xf (F W X x) : (GI F W X x).length = (x.to' - x.from').toNat := by unfold GI; simp
theorem Ae8 {F : List Fare} {W : List Want} {X : List Int} {x : Part} {j : Nat} (h : j < (x.to' - x.from').toNat) : (GI F W X x).take (j + 1) = (GI F W X x).take j ++ [mkC F W X x j] := by
 rw [Dm (by rw [Xf]; exact h)]
 simp [GI]
theorem Ae7 {F : List Fare} {W : List Want} {X : List Int} {l : List Part} {i : Nat} (h : i < l.length) : GH F W X (l.take (i + 1)) = GH F W X (l.take i) ++ GI F W X l[i] := by
 unfold GH; rw [Dm h, List.flatMap_append]; simp
theorem Ae5 (ds : List Coupon) (w : Want) (b : List UInt8) (v : Int) : ds.map Coupon.enc ++ [[.str w.seg.carrier, .int .i64 w.seg.number, .int .i64 w.seg.day, .str w.seg.from', .str w.seg.to', .int .i64 w.seg.dep, .int .i64 w.seg.arr, .str w.cls, .str b, .int .i64 1, .int .i64 v]] = (ds ++ [(⟨w, b, 1, v⟩ : Coupon)]).map Coupon.enc := by rw [DO]; rfl
def DU (p : Places) (F : List Fare) (W : List Want) (q : Quote) (x : Person) (n : Int) (loc : List UInt8) (d : Int) : Ticket × Int :=
 if (decide ((W.length : Int) < 1) || decide (6 < (W.length : Int)) || !Dc F.length W.length 0 q.parts || !Fj n) = true then (Ticket.zero, 2) else
  if GJ d = false then (Ticket.zero, 12) else
   if (Ey p W q).1 ≠ 0 then (Ticket.zero, (Ey p W q).1) else (⟨n, loc, x, GH F W (Ey p W q).2 q.parts, q.fare, q.taxes, q.total, d⟩, 0)
def KZ := ar (vg Places.enc) (ar (vg Tariff.enc) (ar (vl Want.enc) (ar (vg Quote.enc) (ar (vg Person.enc) (ar vi (ar V.str (ao vi)))))))
theorem We : Ij KZ := ijr (ijg Places.inj) (ijr (ijg Tariff.inj) (ijr (ijl Want.inj) (ijr (ijg Quote.inj) (ijr (ijg Person.inj) (ijr iji (ijr ijs (ijo iji)))))))
structure TkIn (p : Places) (t : Tariff) (W : List Want) (q : Quote) (n d : Int) : Prop where
 co : COk p W q
 ta : TarOk t
 n : inI n
 d : inI d
 x : q.taxes.length <= 1000000
def Kj (x : Places × Tariff × List Want × Quote × Person × Int × List UInt8 × Int) : Prop × V := (TkIn x.1 x.2.1 x.2.2.1 x.2.2.2.1 x.2.2.2.2.2.1 x.2.2.2.2.2.2.2, tkV (DU x.1 x.2.1.fares x.2.2.1 x.2.2.2.1 x.2.2.2.2.1 x.2.2.2.2.2.1 x.2.2.2.2.2.2.1 x.2.2.2.2.2.2.2))
theorem DZ (ps : List Airport) (ds : List Distance) (l : List Want) (a : List Part) (b : List Two) (c : List Charge) (f t : Int) : gOf aCo fCo [.agg [.list (ps.map Airport.enc) false, .list (ds.map Distance.enc) false], .list (l.map Want.enc) false, .agg [.list (a.map Part.enc) false, .list (b.map Two.enc) false, .list (c.map Charge.enc) false, .int .i64 f, .int .i64 t]] = (COk ⟨ps, ds⟩ l ⟨a, b, c, f, t⟩, Gy (Ey ⟨ps, ds⟩ l ⟨a, b, c, f, t⟩)) := Al Vk (⟨ps, ds⟩, l, ⟨a, b, c, f, t⟩)
theorem WZ {p : Places} {W : List Want} {q : Quote} {X : List Int} (h : Ey p W q = (0, X)) : X.length = W.length := by
 unfold Ey at h
 split at h
 ·rename_i hd
  have := (Xd (W := W.map (wgt p)) (by rw [Ac]; exact Gu _) hd (Gu 0) h).1
  omega
 ·cases h
theorem Amt {p F W q x n loc d} (h : (decide ((W.length : Int) < 1) || decide (6 < (W.length : Int)) || !Dc F.length W.length 0 q.parts || !Fj n) = true) : DU p F W q x n loc d = (Ticket.zero, 2) := by unfold DU; rw [if_pos h]
theorem Amu {p F W q x n loc d} (h : (decide ((W.length : Int) < 1) || decide (6 < (W.length : Int)) || !Dc F.length W.length 0 q.parts || !Fj n) = false) (h2 : GJ d = false) : DU p F W q x n loc d = (Ticket.zero, 12) := by unfold DU; rw [if_neg (by rw [h]; decide), if_pos h2]
theorem Amv {p F W q x n loc d e X} (h : (decide ((W.length : Int) < 1) || decide (6 < (W.length : Int)) || !Dc F.length W.length 0 q.parts || !Fj n) = false) (h2 : GJ d = true) (hc : Ey p W q = (e, X)) (he : e ≠ 0) : DU p F W q x n loc d = (Ticket.zero, e) := by unfold DU; rw [if_neg (by rw [h]; decide), if_neg (by rw [h2]; decide), hc, if_pos he]
theorem Ac8 {p F W q x n loc d X} (h : (decide ((W.length : Int) < 1) || decide (6 < (W.length : Int)) || !Dc F.length W.length 0 q.parts || !Fj n) = false) (h2 : GJ d = true) (hc : Ey p W q = (0, X)) : DU p F W q x n loc d = (⟨n, loc, x, GH F W X q.parts, q.fare, q.taxes, q.total, d⟩, 0) := by unfold DU; rw [if_neg (by rw [h]; decide), if_neg (by rw [h2]; decide), hc, if_neg (by simp)]
def Dz : Tab
 | 33 => (gOf aCv fCv)
 | 34 => (gOf BX Pr)
 | 35 => (gOf BX fDy)
 | 36 => (gOf aCo fCo)
 | 37 => (gOf HU RP)
 | _ => gNo
theorem Al7 : ∀ f, PU f (Dz f) := fun f => by
 unfold Dz
 split
 ·exact Ae4
 ·exact AhD
 ·exact Afd
 ·exact Ae3
 ·exact AeO
 ·exact Aj.no
set_option maxRecDepth 20000 in
theorem Ams : PU 8 (gOf KZ Kj) := by
 have hG := Al7
 refine fi8.a We (by simp [KZ]) ?_
 rintro ⟨⟨ps, ds⟩, ⟨fs, rs, gs, xs⟩, W, ⟨pa, pr, tx, fa, to⟩, ⟨la, fi, ty⟩, n, loc, d⟩ hv C hN Q hQ
 have Z := fi8.R EF0 hG hN
 obtain ⟨h1, h2, h3, h4, h5⟩ : TkIn ⟨ps, ds⟩ ⟨fs, rs, gs, xs⟩ W ⟨pa, pr, tx, fa, to⟩ n d := hv
 obtain ⟨o1, o2, o3, o4, o5, o6, o7, o8⟩ := id h2
 obtain ⟨c1, c2, c3, c4⟩ := id h1
 dsimp only at o1 o2 o3 o4 o5 o6 o7 o8 c1 c2 c3 c4 h5
 have hcv : Ol (⟨fs, rs, gs, xs⟩, pa, (W.length : Int)) := ⟨o1, c3, by dsimp only; omega⟩
 refine Ab (Z 0 rfl ?_)
 simp only [go_sem, simprocAttr, KZ, Places.enc, Tariff.enc, Quote.enc, Person.enc, Dz, Ea, Ec, Eb, DZ, DY]
 refine Ab (Ar ?_)
 refine Ab (Z 1 rfl ?_)
 simp only [go_sem, simprocAttr, Ac, hcv, h3, Dz, Ea, Ec, Eb, DZ, DY]
 and_intros <;> try exact sdA
 refine Ai rfl (fun hb1 => ?_) fun hb1 => ?_
 ·have hm := Amt (p := ⟨ps, ds⟩) (x := ⟨la, fi, ty⟩) (loc := loc) (d := d) (q := ⟨pa, pr, tx, fa, to⟩) hb1
  refine Ab (Z 2 rfl ?_)
  simp only [go_sem, simprocAttr, Dz, Ea, Ec, Eb, DZ, DY]
  refine AW.le (s' := ⟨mkE [(16, .ptr 16 0), (17, .int .i64 2)], mkH [(16, .box 47 (Bu Ticket.zero))]⟩) (Le.mk _ _ ?_ ?_ rfl) (Ag (hQ _ _ (.inl rfl) ?_ ?_ ?_)) <;> simp only [go_sem, simprocAttr, Bu, Ticket.zero, Person.zero, Kj, tkV, hm]
 refine Ab (Z 3 rfl ?_)
 simp only [go_sem, simprocAttr, h4, Dz, Ea, Ec, Eb, DZ, DY]
 and_intros <;> try exact sdA
 refine Ai rfl (fun hb3 => ?_) fun hb3 => ?_
 ·have hm := Amu (p := ⟨ps, ds⟩) (x := ⟨la, fi, ty⟩) (loc := loc) (q := ⟨pa, pr, tx, fa, to⟩) hb1 (by simpa using hb3)
  refine Ab (Z 4 rfl ?_)
  simp only [go_sem, simprocAttr, Dz, Ea, Ec, Eb, DZ, DY]
  refine AW.le (s' := ⟨mkE [(16, .ptr 16 0), (17, .int .i64 12)], mkH [(16, .box 47 (Bu Ticket.zero))]⟩) (Le.mk _ _ ?_ ?_ rfl) (Ag (hQ _ _ (.inl rfl) ?_ ?_ ?_)) <;> simp only [go_sem, simprocAttr, Bu, Ticket.zero, Person.zero, Kj, tkV, hm]
 refine Ah ?_
 have hdy : GJ d = true := by simpa using hb3
 obtain ⟨⟨e, X⟩, hcX⟩ : ∃ y, Ey ⟨ps, ds⟩ W ⟨pa, pr, tx, fa, to⟩ = y := ⟨_, rfl⟩
 refine Ab (Z 5 rfl ?_)
 simp only [go_sem, simprocAttr, h1, hcX, Gy, Dz, Ea, Ec, Eb, DZ, DY]
 and_intros <;> try exact sdA
 refine Ab (Ab (Z 6 rfl ?_))
 simp only [go_sem, simprocAttr, Dz, Ea, Ec, Eb, DZ, DY]
 refine Ai rfl (fun hb6 => ?_) fun hb6 => ?_
 ·have hm := Amv (x := ⟨la, fi, ty⟩) (loc := loc) hb1 hdy hcX (by simpa using hb6)
  refine Ab (Z 7 rfl ?_)
  simp only [go_sem, simprocAttr, Dz, Ea, Ec, Eb, DZ, DY]
  refine AW.le (s' := ⟨mkE [(16, .ptr 16 0), (17, .int .i64 e)], mkH [(16, .box 47 (Bu Ticket.zero))]⟩) (Le.mk _ _ ?_ ?_ rfl) (Ag (hQ _ _ (.inl rfl) ?_ ?_ ?_)) <;> simp only [go_sem, simprocAttr, Bu, Ticket.zero, Person.zero, Kj, tkV, hm]
 have he0 : e = 0 := by simpa using hb6
 subst he0
 have hm := Ac8 (x := ⟨la, fi, ty⟩) (loc := loc) hb1 hdy hcX
 have hXl := WZ hcX
 obtain ⟨hcov, hW6⟩ : Dc fs.length W.length 0 pa = true /\ W.length <= 6 := by simp only [Cg, It, decide_eq_false_iff_not] at hb1; exact ⟨hb1.1.2, by omega⟩
 refine Ah ?_
 refine Ab (FG (EF := EF0) hG mixed (by rw [hN]; exact Am1) Ah6 ?_)
 simp only [Rf, Xv, go_sem, simprocAttr, h5, Dz, Ea, Ec, Eb, DZ, DY]
 and_intros <;> try exact sdA
 refine Ab (Ab (Z 9 rfl ?_))
 simp only [go_sem, simprocAttr, Ac, Dz, Ea, Ec, Eb, DZ, DY]
 refine Ar ?_
 refine Bj (α := Nat × (List Coupon)) (fun γ => (γ.1 <= pa.length) /\ (Dc fs.length W.length γ.2.length (pa.drop γ.1) = true) /\ (γ.2 = GH fs W X (pa.take γ.1)) /\ (γ.2.length <= W.length)) (fun γ => ⟨mkE [(2, V.list (List.map Want.enc W) false), (9, V.ptr 9 0), (16, V.ptr 16 0), (18, V.list (Ao X) false), (20, V.ptr 20 0), (77, V.list (List.map Part.enc pa) false), (78, V.int IntKind.i64 ↑pa.length), (79, .int .i64 γ.1)], mkH [(9, Ob.box 31 [V.list (List.map Fare.enc fs) false, V.list (List.map Rule.enc rs) false, V.list (List.map Routing.enc gs) false, V.list (List.map Tax.enc xs) false]), (16, Ob.box 47 [V.int IntKind.i64 0, V.str [], V.str [], V.str [], V.str [], V.nils, V.int IntKind.i64 0, V.nils, V.int IntKind.i64 0, V.int IntKind.i64 0]), (20, .box 47 [.int .i64 n, .str loc, .str la, .str fi, .str ty, .own 999 γ.2.length, .int .i64 fa, .list (tx.map Charge.enc) false, .int .i64 to, .int .i64 d]), (999, .arr 57 11 (γ.2.map Coupon.enc))]⟩) (fun γ => pa.length - γ.1) (0, []) ⟨As _, hcov, rfl, As _⟩ ?_ ?_
 ·exact leM
 rintro ⟨i, cs⟩ ⟨hi, hd, hcs, hcl⟩ KL1 hKL1
 try dsimp only at *
 refine Ab (Z 10 rfl ?_)
 simp only [go_sem, simprocAttr, Dz, Ea, Ec, Eb, DZ, DY]
 refine Ab ?_
 refine Ai rfl (fun hc10 => ?_) fun hc10 => ?_
 ·simp only [hcL] at hc10
  refine Ah ?_
  refine Ab (Ar ?_)
  have hdd := DL hc10
  rw [hdd, Dc] at hd
  have hst := Ae7 (F := fs) (W := W) (X := X) hc10
  obtain ⟨⟨xf, xt, xr, xa⟩, hx⟩ : ∃ x, x = pa[i] := ⟨_, rfl⟩
  rw [<- hx] at hd hst
  obtain ⟨hdx, hd2⟩ : ¬(xf ≠ cs.length \/ xt <= cs.length \/ (W.length : Int) < xt \/ xr < 0 \/ (fs.length : Int) <= xr) /\ Dc fs.length W.length xt (pa.drop (i + 1)) = true := by split at hd; cases hd; exact ⟨‹_›, hd⟩
  obtain ⟨rfl, q2, q3, q4, q5⟩ : xf = cs.length /\ (cs.length : Int) < xt /\ xt <= W.length /\ 0 <= xr /\ xr < fs.length := by omega
  refine Ab (Z 11 rfl ?_)
  simp only [go_sem, simprocAttr, Ap _ _ _ _ hc10, hc10, <- hx, Part.enc, Dz, Ea, Ec, Eb, DZ, DY]
  and_intros <;> try exact sdA
  refine Ab (Z 12 rfl ?_)
  simp only [go_sem, simprocAttr, Dz, Ea, Ec, Eb, DZ, DY]
  refine Ar ?_
  refine Bj (α := Nat × (List Coupon)) (fun γ => (γ.1 <= (xt - cs.length).toNat) /\ (γ.2 = cs ++ (GI fs W X ⟨cs.length, xt, xr, xa⟩).take γ.1) /\ (γ.2.length = cs.length + γ.1)) (fun γ => ⟨mkE [(2, V.list (List.map Want.enc W) false), (9, V.ptr 9 0), (16, V.ptr 16 0), (18, V.list (Ao X) false), (20, V.ptr 20 0), (22, V.ptr 22 0), (23, .int .i64 γ.2.length), (77, V.list (List.map Part.enc pa) false), (78, V.int IntKind.i64 ↑pa.length), (79, V.int IntKind.i64 ↑i)], mkH [(9, Ob.box 31 [V.list (List.map Fare.enc fs) false, V.list (List.map Rule.enc rs) false, V.list (List.map Routing.enc gs) false, V.list (List.map Tax.enc xs) false]), (16, Ob.box 47 [V.int IntKind.i64 0, V.str [], V.str [], V.str [], V.str [], V.nils, V.int IntKind.i64 0, V.nils, V.int IntKind.i64 0, V.int IntKind.i64 0]), (20, .box 47 [.int .i64 n, .str loc, .str la, .str fi, .str ty, .own 999 γ.2.length, .int .i64 fa, .list (tx.map Charge.enc) false, .int .i64 to, .int .i64 d]), (22, Ob.box 94 [V.int IntKind.i64 ↑cs.length, V.int IntKind.i64 xt, V.int IntKind.i64 xr, V.int IntKind.i64 xa]), (999, .arr 57 11 (γ.2.map Coupon.enc))]⟩) (fun γ => (xt - cs.length).toNat - γ.1) (0, cs) ⟨As _, by rw [HA, Br], rfl⟩ ?_ ?_
  ·exact leM
  rintro ⟨j, es⟩ ⟨hj, hes, hel⟩ KL3 hKL3
  try dsimp only at *
  refine Ab (Ab (Z 13 rfl ?_))
  simp only [go_sem, simprocAttr, Dz, Ea, Ec, Eb, DZ, DY]
  refine Ai rfl (fun hc13 => ?_) fun hc13 => ?_
  ·simp only [hcL] at hc13
   refine Ah ?_
   refine Ab (Ar ?_)
   have hW : es.length < W.length := by omega
   have hX : es.length < X.length := by omega
   have hF : xr.toNat < fs.length := by omega
   obtain ⟨w, hw⟩ : ∃ w, w = W[es.length] := ⟨_, rfl⟩
   obtain ⟨f, hf⟩ : ∃ f, f = fs[xr.toNat] := ⟨_, rfl⟩
   obtain ⟨v, hvv⟩ : ∃ v, v = X[es.length] := ⟨_, rfl⟩
   have hjj : j < (xt - (cs.length : Int)).toNat := by omega
   have hmk : mkC fs W X ⟨cs.length, xt, xr, xa⟩ j = ⟨w, f.basis, 1, v⟩ := by unfold mkC; dsimp only; rw [show (cs.length : Int).toNat + j = es.length by omega, CT _ _ _ hW, CT _ _ _ hF, CT _ _ _ hX, <- hw, <- hf, <- hvv]
   refine FG (EF := EF0) hG mixed (by rw [hN]; exact Am0) Ah5 ?_
   simp only [Re, Xu, go_sem, simprocAttr, Ap _ _ _ _ hW, Ap _ _ _ _ hF, EY _ _ _ hX, <- hw, <- hf, <- hvv, Want.enc, Fare.enc, hW, hX, q4, q5, Ac, AG, Dz, Ea, Ec, Eb, DZ, DY]
   and_intros <;> try exact sdA
   refine Z 14 rfl ?_
   simp only [go_sem, simprocAttr, inI, Dz, Ea, Ec, Eb, DZ, DY]
   and_intros <;> try exact sdA
   refine hKL3 (j + 1, es ++ [⟨w, f.basis, 1, v⟩]) _ ?_ ?_ ?_
   ·(try dsimp only); exact ⟨hjj, by rw [Ae8 hjj, hmk, hes, EH], by rw [An, hel]; rfl⟩
   ·(try dsimp only); omega
   refine Le.mk _ _ ?_ ?_ rfl <;> simp only [go_sem, simprocAttr, Ae5, An, Aw, Ax] <;> and_intros <;> try exact leA
  simp only [hcL] at hc13
  refine Be ?_
  simp only [go_sem, simprocAttr]
  refine Z 16 rfl ?_
  simp only [go_sem, simprocAttr, inI, Dz, Ea, Ec, Eb, DZ, DY]
  and_intros <;> try exact sdA
  refine hKL1 (i + 1, es) _ ?_ ?_ ?_
  ·(try dsimp only); refine ⟨hc10, ?_, ?_, by omega⟩; (rw [show (es.length : Int) = xt by omega]; exact hd2); (rw [hst, hes, <- hcs, BR (by rw [Xf]; dsimp only; omega)])
  ·(try dsimp only); omega
  exact leM
 simp only [hcL] at hc10
 rw [BR hc10] at hcs
 refine Be ?_
 simp only [go_sem, simprocAttr]
 refine Ab (Z 17 rfl ?_)
 simp only [go_sem, simprocAttr, Dz, Ea, Ec, Eb, DZ, DY]
 refine AW.le (s' := ⟨mkE [(16, .ptr 16 0), (17, .int .i64 0)], mkH [(16, .box 47 (Bu ⟨n, loc, ⟨la, fi, ty⟩, cs, fa, tx, to, d⟩))]⟩) (Le.mk _ _ ?_ ?_ rfl) (Ag (hQ _ _ (.inl rfl) ?_ ?_ ?_)) <;> simp only [go_sem, simprocAttr, Bu, Kj, tkV, hm, <- hcs]
 exact QG rfl (by rw [Ac]) rfl ((Coupon.purs _).2 trivial) rfl
structure Trip where
 type : List UInt8
 sale : Int
 day : Int
 minute : Int
 stops : Int
 transfers : Int
 carriers : List (List UInt8)
 numbers : List Int
 vias : List (List UInt8)
def Trip.enc (x : Trip) : List V := [.str x.type, .int .i64 x.sale, .int .i64 x.day, .int .i64 x.minute, .int .i64 x.stops, .int .i64 x.transfers, .list (strs x.carriers) false, .list (Ao x.numbers) false, .list (strs x.vias) false]
theorem Trip.inj (a b : Trip) (h : a.enc = b.enc) : a = b := by
 obtain ⟨a_type, a_sale, a_day, a_minute, a_stops, a_transfers, a_carriers, a_numbers, a_vias⟩ := a
 obtain ⟨b_type, b_sale, b_day, b_minute, b_stops, b_transfers, b_carriers, b_numbers, b_vias⟩ := b
 simp only [Trip.enc, Bz, V.str.injEq, V.int.injEq, V.bool.injEq, V.agg.injEq, V.list.injEq, and_true, true_and] at h
 obtain ⟨h0, h1, h2, h3, h4, h5, h6, h7, h8⟩ := h
 subst h0
 subst h1
 subst h2
 subst h3
 subst h4
 subst h5
 replace h6 := HP h6
 subst h6
 replace h7 := Kr h7
 subst h7
 replace h8 := HP h8
 subst h8
 rfl
def Trip.zero : Trip := ⟨[], 0, 0, 0, 0, 0, [], [], []⟩
theorem Trip.rows (l : List Trip) : (∀ r ∈ l.map Trip.enc, r.length = 9) ↔ True := iff_true_intro fun r hr => by obtain ⟨x, _, rfl⟩ := Am.1 hr; rfl
theorem Trip.purs (l : List Trip) : (∀ r ∈ l.map Trip.enc, V.purs r = true) ↔ True := iff_true_intro fun r hr => by obtain ⟨x, _, rfl⟩ := Am.1 hr; rfl
attribute [go_sem] Trip.rows Trip.purs
structure TrpOk (t : Trip) : Prop where
 ty : t.type.length <= 140737488355328
 s : inI t.sale
 d : inI t.day
 m : inI t.minute
 st : inI t.stops
 tr : inI t.transfers
 c : t.carriers.length <= 140737488355328
 n : t.numbers.length <= 140737488355328
 v : t.vias.length <= 140737488355328
def vII (n : Int) : V := .int .i64 n
def aI1 := ao vi
theorem IN : Ij aI1 := ijo iji
def RWd (_ : Int) (y : Int) : Prop := 0 <= y /\ y <= 6
theorem UK (n : Int) {k : Int} (hk : 0 < k) : -k < n.tmod k /\ n.tmod k < k := by
 refine ⟨?_, Nx n hk⟩
 have h := Nx (-n) hk
 rw [Int.neg_tmod] at h
 omega
theorem UW : ∃ F : Int -> Int, (∀ x, inI x -> RWd x (F x)) /\ PU 247 (gOf aI1 fun x => (inI x, vII (F x))) := by
 have hG := AJ
 refine Zi.p (val := vII) (R := RWd) IN (by simp [aI1]) ?_
 rintro n hv Q hQ
 have Z := Zi.T EF0 hG
 have hb := UK n (k := 7) (by decide)
 have hb2 := UK (n.tmod 7 + 12) (k := 7) (by decide)
 have hb3 := Int.tmod_nonneg (a := n.tmod 7 + 12) 7 (by omega)
 refine Aa (Z 0 rfl ?_)
 simp only [go_sem, simprocAttr, aI1]
 refine Aa (Z 1 rfl ?_)
 simp only [go_sem, simprocAttr, inI]
 and_intros <;> try exact sdA
 refine Ae (hQ _ _ (.inl rfl) ?_ ?_ ?_) <;> simp only [go_sem, simprocAttr, vII]
 exact ⟨_, rfl, hb3, by omega⟩
def fWd : Int -> Int := UW.choose
theorem AnG : ∀ x : Int, inI x -> RWd x (fWd x) := UW.choose_spec.1
theorem AnH : PU 247 (gOf aI1 fun x => (inI x, vII (fWd x))) := UW.choose_spec.2
theorem KS (n : Int) : gOf aI1 (fun x => (inI x, vII (fWd x))) [.int .i64 n] = (inI n, .int .i64 (fWd n)) := Al (F := fun x => (inI x, vII (fWd x))) IN n
def RBt (_ : Int) (y : Int) : Prop := 1 <= y /\ y <= 64
def tBt : Tab
 | 247 => (gOf aI1 fun x => (inI x, vII (fWd x)))
 | _ => gNo
theorem Alc : ∀ f, PU f (tBt f) := fun f => by
 unfold tBt
 split
 ·exact AnH
 ·exact Aj.no
theorem Adi {i : Nat} (h : i <= 6) : (1 : Int) <= 2 ^ i /\ (2 : Int) ^ i <= 64 := by
 rcases i with _ | _ | _ | _ | _ | _ | _ | i <;> first | decide | omega
theorem Ry : ∃ F : Int -> Int, (∀ x, inI x -> RBt x (F x)) /\ PU 227 (gOf aI1 fun x => (inI x, vII (F x))) := by
 have hG := Alc
 refine YZ.p (val := vII) (R := RBt) IN (by simp [aI1]) ?_
 rintro n hv Q hQ
 have Z := YZ.T EF0 hG
 have hn : inI n := hv
 obtain ⟨W, hW⟩ : ∃ W, W = fWd n := ⟨_, rfl⟩
 have hWb := AnG n hn
 rw [<- hW] at hWb
 obtain ⟨w0, w6⟩ : 0 <= W /\ W <= 6 := hWb
 refine Aa (Z 0 rfl ?_)
 simp only [go_sem, simprocAttr, aI1, tBt, KS, hn, <- hW]
 refine Aa (Z 1 rfl ?_)
 simp only [go_sem, simprocAttr, tBt, KS, hn, <- hW]
 refine Aa (Aa (Z 2 rfl ?_))
 simp only [go_sem, simprocAttr, tBt, KS, hn, <- hW]
 refine Aq ?_
 refine Ba (α := Nat × Int) (fun γ => ((γ.1 : Int) <= W) /\ (γ.2 = 2 ^ γ.1)) (fun γ => ⟨mkE [(0, V.int IntKind.i64 n), (3, .int .i64 γ.2), (4, .int .i64 γ.1)], mkH []⟩) (fun γ => W.toNat - γ.1) (0, 1) ⟨by simpa using w0, rfl⟩ ?_ ?_
 ·exact leM
 rintro ⟨i, t⟩ ⟨hi, ht⟩ KL0 hKL0
 try dsimp only at *
 refine Aa (Aa (Z 3 rfl ?_))
 simp only [go_sem, simprocAttr, tBt, KS, hn, <- hW]
 and_intros <;> try exact sdA
 refine Ad rfl (fun hc3 => ?_) fun hc3 => ?_
 ·simp only [hcL] at hc3
  refine Af ?_
  refine Aa (Aq ?_)
  have h6 := Adi (i := i) (by omega)
  rw [<- ht] at h6
  have hst : (2 : Int) * t = 2 ^ (i + 1) := by rw [ht, Int.pow_succ, LO]
  have hlt : (i : Int) < W := by simpa using hc3
  refine Z 5 rfl ?_
  simp only [go_sem, simprocAttr, inI, tBt, KS, hn, <- hW]
  and_intros <;> try exact sdA
  refine Z 4 rfl ?_
  simp only [go_sem, simprocAttr, inI, tBt, KS, hn, <- hW]
  and_intros <;> try exact sdA
  refine hKL0 (i + 1, 2 * t) _ ?_ ?_ ?_
  ·(try dsimp only); exact ⟨by omega, hst⟩
  ·(try dsimp only); omega
  exact leM
 simp only [hcL] at hc3
 have h6 := Adi (i := i) (by omega)
 rw [<- ht] at h6
 refine AX ?_
 simp only [go_sem, simprocAttr]
 refine Aa (Z 6 rfl ?_)
 simp only [go_sem, simprocAttr, tBt, KS, hn, <- hW]
 refine Ae (hQ _ _ (.inl rfl) ?_ ?_ ?_) <;> simp only [go_sem, simprocAttr, vII]
 exact ⟨t, rfl, h6⟩
def fBt : Int -> Int := Ry.choose
theorem Aex : ∀ x : Int, inI x -> RBt x (fBt x) := Ry.choose_spec.1
theorem Aey : PU 227 (gOf aI1 fun x => (inI x, vII (fBt x))) := Ry.choose_spec.2
theorem WN (n : Int) : gOf aI1 (fun x => (inI x, vII (fBt x))) [.int .i64 n] = (inI n, .int .i64 (fBt n)) := Al (F := fun x => (inI x, vII (fBt x))) IN n
def JJ := ar (vg Period.enc) (ao vi)
theorem VH : Ij JJ := ijr (ijg Period.inj) (ijo iji)
def tHs : Tab
 | 226 => (gOf aPd fPd)
 | 227 => (gOf aI1 fun x => (inI x, vII (fBt x)))
 | _ => gNo
theorem Alv : ∀ f, PU f (tHs f) := fun f => by
 unfold tHs
 split
 ·exact AbU
 ·exact Aey
 ·exact Aj.no
theorem Amr {c B : Int} (h : inI c) (hB : 1 <= B) : inI (c.tdiv B) := by
 unfold inI at h ⊢
 rcases Int.le_total 0 c with h0 | h0
 ·rw [Kz h0]
  have h1 := LJ h0 (show 0 <= B by omega)
  have h2 := PO B h0
  omega
 ·have e : c.tdiv B = -((-c).tdiv B) := by rw [Int.neg_tdiv]; omega
  rw [e, Kz (show 0 <= -c by omega)]
  have h1 := LJ (show 0 <= -c by omega) (show 0 <= B by omega)
  have h2 := PO B (show 0 <= -c by omega)
  omega
def HsP (x : Period × Int) : Prop := x.1.ok /\ inI x.2
theorem Aay : ∃ F : Period × Int -> Bool, (∀ x, HsP x -> RT x (F x)) /\ PU 193 (gOf JJ fun x => (HsP x, vBB (F x))) := by
 have hG := Alv
 refine Sq.p (val := vBB) (R := RT) VH (by simp [JJ]) ?_
 rintro ⟨⟨a, b, c⟩, n⟩ hv Q hQ
 have Y := Sq.E EF0 hG mixed
 have Z := Sq.T EF0 hG
 obtain ⟨⟨p1, p2, p3⟩, hn⟩ : HsP (⟨a, b, c⟩, n) := hv
 dsimp only at p1 p2 p3 hn
 obtain ⟨B, hB⟩ : ∃ B, B = fBt n := ⟨_, rfl⟩
 have hBb := Aex n hn
 rw [<- hB] at hBb
 obtain ⟨b0, b6⟩ : 1 <= B /\ B <= 64 := hBb
 have hB0 : B ≠ 0 := by omega
 have hB1 : B ≠ -1 := by omega
 have hq := Amr p3 b0
 refine Aa (Z 0 rfl ?_)
 simp only [go_sem, simprocAttr, JJ, Period.enc, tHs, Dg, WN, hn, <- hB]
 refine Aa (Y 1 rfl (by kernel_rfl) ?_)
 simp only [go_sem, simprocAttr, hB0, hB1, hq, tHs, Dg, WN, hn, <- hB]
 and_intros <;> try exact sdA
 refine Ae (hQ _ _ (.inl rfl) ?_ ?_ ?_) <;> simp only [go_sem, simprocAttr, vBB]
 exact ⟨_, rfl, trivial⟩
def fHs : Period × Int -> Bool := Aay.choose
theorem Agq : PU 193 (gOf JJ fun x => (HsP x, vBB (fHs x))) := Aay.choose_spec.2
theorem Cc (a b c n : Int) : gOf JJ (fun x => (HsP x, vBB (fHs x))) [.agg [.int .i64 a, .int .i64 b, .int .i64 c], .int .i64 n] = (HsP (⟨a, b, c⟩, n), .bool (fHs (⟨a, b, c⟩, n))) := Al (F := fun x => (HsP x, vBB (fHs x))) VH (⟨a, b, c⟩, n)
def HW (x : List (List UInt8) × List (List UInt8)) : List V := [.list (strs x.1) false, .list (strs x.2) false]
theorem Vv (a b : List (List UInt8) × List (List UInt8)) (h : HW a = HW b) : a = b := by
 obtain ⟨a_a, a_b⟩ := a
 obtain ⟨b_a, b_b⟩ := b
 simp only [HW, Bz, V.str.injEq, V.int.injEq, V.bool.injEq, V.agg.injEq, V.list.injEq, and_true, true_and] at h
 obtain ⟨h0, h1⟩ := h
 replace h0 := HP h0
 subst h0
 replace h1 := HP h1
 subst h1
 rfl
def tWi : Tab
 | 196 => (gOf Hk Ke)
 | _ => gNo
theorem Amf : ∀ f, PU f (tWi f) := fun f => by
 unfold tWi
 split
 ·exact SY
 ·exact Aj.no
def WiP (x : List (List UInt8) × List (List UInt8)) : Prop := x.1.length <= 140737488355328 /\ x.2.length <= 140737488355328
theorem Adl : ∃ F : List (List UInt8) × List (List UInt8) -> Bool, (∀ x, WiP x -> RT x (F x)) /\ PU 194 (gOf HW fun x => (WiP x, vBB (F x))) := by
 have hG := Amf
 refine YP.p (val := vBB) (R := RT) Vv (by simp [HW]) ?_
 rintro ⟨l, m⟩ hv Q hQ
 have Z := YP.T EF0 hG
 obtain ⟨h1, h2⟩ : WiP (l, m) := hv
 dsimp only at h1 h2
 refine Aa (Z 0 rfl ?_)
 simp only [go_sem, simprocAttr, HW, tWi, AT, h2]
 refine Aa (Aa (Z 1 rfl ?_))
 simp only [go_sem, simprocAttr, tWi, AT, h2]
 refine Aq ?_
 refine Ba (α := Nat) (fun i => (i <= l.length)) (fun i => ⟨mkE [(0, V.list (strs l) false), (1, V.list (strs m) false), (5, .int .i64 i)], mkH []⟩) (fun i => l.length - i) 0 (As _) ?_ ?_
 ·exact leM
 rintro i hi KL0 hKL0
 try dsimp only at *
 refine Aa (Aa (Z 2 rfl ?_))
 simp only [go_sem, simprocAttr, EL, tWi, AT, h2]
 refine Ad rfl (fun hc2 => ?_) fun hc2 => ?_
 ·simp only [hcL] at hc2
  refine Af ?_
  refine Aa (Aq ?_)
  refine Aa (Z 4 rfl ?_)
  simp only [go_sem, simprocAttr, Gz _ _ _ hc2, hc2, EL, tWi, AT, h2]
  and_intros <;> try exact sdA
  refine Ad rfl (fun hc4 => ?_) fun hc4 => ?_
  ·simp only [hcL] at hc4
   refine Aa (Z 5 rfl ?_)
   simp only [go_sem, simprocAttr, tWi, AT, h2]
   refine Ae (hQ _ _ (.inl rfl) ?_ ?_ ?_) <;> simp only [go_sem, simprocAttr, vBB]
   exact ⟨_, rfl, trivial⟩
  simp only [hcL] at hc4
  refine Af ?_
  refine Z 3 rfl ?_
  simp only [go_sem, simprocAttr, inI, tWi, AT, h2]
  and_intros <;> try exact sdA
  refine hKL0 (i + 1) _ ?_ ?_ ?_
  ·(try dsimp only); exact hc2
  ·(try dsimp only); omega
  exact leM
 simp only [hcL] at hc2
 refine AX ?_
 simp only [go_sem, simprocAttr]
 refine Aa (Z 6 rfl ?_)
 simp only [go_sem, simprocAttr, tWi, AT, h2]
 refine Ae (hQ _ _ (.inl rfl) ?_ ?_ ?_) <;> simp only [go_sem, simprocAttr, vBB]
 exact ⟨_, rfl, trivial⟩
def fWi : List (List UInt8) × List (List UInt8) -> Bool := Adl.choose
theorem AnO : PU 194 (gOf HW fun x => (WiP x, vBB (fWi x))) := Adl.choose_spec.2
theorem Ce (a b : List (List UInt8)) : gOf HW (fun x => (WiP x, vBB (fWi x))) [.list (strs a) false, .list (strs b) false] = (WiP (a, b), .bool (fWi (a, b))) := Al (F := fun x => (WiP x, vBB (fWi x))) Vv (a, b)
def HV (x : List Int × Int × Int) : List V := [.list (Ao x.1) false, .int .i64 x.2.1, .int .i64 x.2.2]
theorem Vt (a b : List Int × Int × Int) (h : HV a = HV b) : a = b := by
 obtain ⟨a_l, a_a, a_b⟩ := a
 obtain ⟨b_l, b_a, b_b⟩ := b
 simp only [HV, Bz, V.str.injEq, V.int.injEq, V.bool.injEq, V.agg.injEq, V.list.injEq, and_true, true_and] at h
 obtain ⟨h0, h1, h2⟩ := h
 replace h0 := Kr h0
 subst h0
 subst h1
 subst h2
 rfl
def BwP (x : List Int × Int × Int) : Prop := x.1.length <= 140737488355328
theorem WP : ∃ F : List Int × Int × Int -> Bool, (∀ x, BwP x -> RT x (F x)) /\ PU 195 (gOf HV fun x => (BwP x, vBB (F x))) := by
 have hG := AJ
 refine YQ.p (val := vBB) (R := RT) Vt (by simp [HV]) ?_
 rintro ⟨l, a, b⟩ hv Q hQ
 have Z := YQ.T EF0 hG
 have h1 : l.length <= 140737488355328 := hv
 refine Aa (Z 0 rfl ?_)
 simp only [go_sem, simprocAttr, HV]
 refine Aa (Aa (Z 1 rfl ?_))
 simp only [go_sem, simprocAttr]
 refine Aq ?_
 refine Ba (α := Nat) (fun i => (i <= l.length)) (fun i => ⟨mkE [(0, V.list (Ao l) false), (1, V.int IntKind.i64 a), (2, V.int IntKind.i64 b), (7, .int .i64 i)], mkH []⟩) (fun i => l.length - i) 0 (As _) ?_ ?_
 ·exact leM
 rintro i hi KL0 hKL0
 try dsimp only at *
 refine Aa (Aa (Z 2 rfl ?_))
 simp only [go_sem, simprocAttr, AG]
 refine Ad rfl (fun hc2 => ?_) fun hc2 => ?_
 ·simp only [hcL] at hc2
  refine Af ?_
  refine Aa (Aq ?_)
  refine Aa (Z 4 rfl ?_)
  simp only [go_sem, simprocAttr, EY _ _ _ hc2, hc2, AG]
  and_intros <;> try exact sdA
  refine Ad rfl (fun hc4 => ?_) fun hc4 => ?_
  ·simp only [hcL] at hc4
   refine Aa (Z 5 rfl ?_)
   simp only [go_sem, simprocAttr]
   refine Ae (hQ _ _ (.inl rfl) ?_ ?_ ?_) <;> simp only [go_sem, simprocAttr, vBB]
   exact ⟨_, rfl, trivial⟩
  simp only [hcL] at hc4
  refine Af ?_
  refine Z 3 rfl ?_
  simp only [go_sem, simprocAttr, inI]
  and_intros <;> try exact sdA
  refine hKL0 (i + 1) _ ?_ ?_ ?_
  ·(try dsimp only); exact hc2
  ·(try dsimp only); omega
  exact leM
 simp only [hcL] at hc2
 refine AX ?_
 simp only [go_sem, simprocAttr]
 refine Aa (Z 6 rfl ?_)
 simp only [go_sem, simprocAttr]
 refine Ae (hQ _ _ (.inl rfl) ?_ ?_ ?_) <;> simp only [go_sem, simprocAttr, vBB]
 exact ⟨_, rfl, trivial⟩
def fBw : List Int × Int × Int -> Bool := WP.choose
theorem Aez : PU 195 (gOf HV fun x => (BwP x, vBB (fBw x))) := WP.choose_spec.2
theorem BY (l : List Int) (a b : Int) : gOf HV (fun x => (BwP x, vBB (fBw x))) [.list (Ao l) false, .int .i64 a, .int .i64 b] = (BwP (l, a, b), .bool (fBw (l, a, b))) := Al (F := fun x => (BwP x, vBB (fBw x))) Vt (l, a, b)
def RNu (x : Int × Int) (n : Int) : Prop := 0 <= n /\ n <= 8 /\ (x.1 = 1 -> x.2 = 9 -> n = 7) /\ (x.1 = 1 -> x.2 = 8 -> n = 6)
theorem Ts : ∃ F : Int × Int -> Int, (∀ x, True -> RNu x (F x)) /\ PU 82 (gOf CO fun x => (True, vII (F x))) := by
 have hG := AJ
 refine ZS.p (val := vII) (R := RNu) IR (by simp [CO]) ?_
 rintro ⟨s, e⟩ hv Q hQ
 have Z := ZS.T EF0 hG
 refine Aa (Z 0 rfl ?_)
 simp only [go_sem, simprocAttr, CO, tNo]
 refine Aa (Aa (Z 1 rfl ?_))
 simp only [go_sem, simprocAttr, tNo]
 refine Aq (Aa (Z 2 rfl ?_))
 simp only [go_sem, simprocAttr, tNo]
 refine Ad rfl (fun hc2 => ?_) fun hc2 => ?_
 ·simp only [hcL] at hc2
  refine Aa (Z 3 rfl ?_)
  simp only [go_sem, simprocAttr, tNo]
  refine Ae (hQ _ _ (.inl rfl) ?_ ?_ ?_) <;> simp only [go_sem, simprocAttr, vII]
  exact ⟨_, rfl, by decide, by decide, fun a b => by dsimp only at a b; subst a b; simp_all, fun a b => by dsimp only at a b; subst a b; simp_all⟩
 simp only [hcL] at hc2
 refine Aa (Aa (Z 4 rfl ?_))
 simp only [go_sem, simprocAttr, tNo]
 refine Ad rfl (fun hc4 => ?_) fun hc4 => ?_
 ·simp only [hcL] at hc4
  refine Af ?_
  refine Ad rfl (fun hc4r => ?_) fun hc4r => ?_
  ·simp only [hcL] at hc4r
   refine Aa (Z 7 rfl ?_)
   simp only [go_sem, simprocAttr, tNo]
   refine Ae (hQ _ _ (.inl rfl) ?_ ?_ ?_) <;> simp only [go_sem, simprocAttr, vII]
   exact ⟨_, rfl, by decide, by decide, fun a b => by dsimp only at a b; subst a b; simp_all, fun a b => by dsimp only at a b; subst a b; simp_all⟩
  exfalso; simp_all
 simp only [hcL] at hc4
 refine Aa (Z 5 rfl ?_)
 simp only [go_sem, simprocAttr, tNo]
 refine Ad rfl (fun hc5 => ?_) fun hc5 => ?_
 ·simp only [hcL] at hc5
  refine Af ?_
  refine Ad rfl (fun hc5r => ?_) fun hc5r => ?_
  ·simp only [hcL] at hc5r
   refine Aa (Z 7 rfl ?_)
   simp only [go_sem, simprocAttr, tNo]
   refine Ae (hQ _ _ (.inl rfl) ?_ ?_ ?_) <;> simp only [go_sem, simprocAttr, vII]
   exact ⟨_, rfl, by decide, by decide, fun a b => by dsimp only at a b; subst a b; simp_all, fun a b => by dsimp only at a b; subst a b; simp_all⟩
  exfalso; simp_all
 simp only [hcL] at hc5
 refine Z 6 rfl ?_
 simp only [go_sem, simprocAttr, tNo]
 refine Ad rfl (fun hc6 => ?_) fun hc6 => ?_
 ·simp only [hcL] at hc6
  refine Aa (Z 7 rfl ?_)
  simp only [go_sem, simprocAttr, tNo]
  refine Ae (hQ _ _ (.inl rfl) ?_ ?_ ?_) <;> simp only [go_sem, simprocAttr, vII]
  exact ⟨_, rfl, by decide, by decide, fun a b => by dsimp only at a b; subst a b; simp_all, fun a b => by dsimp only at a b; subst a b; simp_all⟩
 simp only [hcL] at hc6
 refine Aa (Z 8 rfl ?_)
 simp only [go_sem, simprocAttr, tNo]
 refine Ad rfl (fun hc8 => ?_) fun hc8 => ?_
 ·simp only [hcL] at hc8
  refine Aa (Z 9 rfl ?_)
  simp only [go_sem, simprocAttr, tNo]
  refine Ae (hQ _ _ (.inl rfl) ?_ ?_ ?_) <;> simp only [go_sem, simprocAttr, vII]
  exact ⟨_, rfl, by decide, by decide, fun a b => by dsimp only at a b; subst a b; simp_all, fun a b => by dsimp only at a b; subst a b; simp_all⟩
 simp only [hcL] at hc8
 refine Aa (Z 10 rfl ?_)
 simp only [go_sem, simprocAttr, tNo]
 refine Ad rfl (fun hc10 => ?_) fun hc10 => ?_
 ·simp only [hcL] at hc10
  refine Aa (Z 11 rfl ?_)
  simp only [go_sem, simprocAttr, tNo]
  refine Ae (hQ _ _ (.inl rfl) ?_ ?_ ?_) <;> simp only [go_sem, simprocAttr, vII]
  exact ⟨_, rfl, by decide, by decide, fun a b => by dsimp only at a b; subst a b; simp_all, fun a b => by dsimp only at a b; subst a b; simp_all⟩
 simp only [hcL] at hc10
 refine Aa (Z 12 rfl ?_)
 simp only [go_sem, simprocAttr, tNo]
 refine Ad rfl (fun hc12 => ?_) fun hc12 => ?_
 ·simp only [hcL] at hc12
  refine Aa (Z 13 rfl ?_)
  simp only [go_sem, simprocAttr, tNo]
  refine Ae (hQ _ _ (.inl rfl) ?_ ?_ ?_) <;> simp only [go_sem, simprocAttr, vII]
  exact ⟨_, rfl, by decide, by decide, fun a b => by dsimp only at a b; subst a b; simp_all, fun a b => by dsimp only at a b; subst a b; simp_all⟩
 simp only [hcL] at hc12
 refine Aa (Aa (Z 14 rfl ?_))
 simp only [go_sem, simprocAttr, tNo]
 refine Ad rfl (fun hc14 => ?_) fun hc14 => ?_
 ·simp only [hcL] at hc14
  refine Af ?_
  refine Ad rfl (fun hc14r => ?_) fun hc14r => ?_
  ·simp only [hcL] at hc14r
   refine Aa (Z 16 rfl ?_)
   simp only [go_sem, simprocAttr, tNo]
   refine Ae (hQ _ _ (.inl rfl) ?_ ?_ ?_) <;> simp only [go_sem, simprocAttr, vII]
   exact ⟨_, rfl, by decide, by decide, fun a b => by dsimp only at a b; subst a b; simp_all, fun a b => by dsimp only at a b; subst a b; simp_all⟩
  exfalso; simp_all
 simp only [hcL] at hc14
 refine Z 15 rfl ?_
 simp only [go_sem, simprocAttr, tNo]
 refine Ad rfl (fun hc15 => ?_) fun hc15 => ?_
 ·simp only [hcL] at hc15
  refine Aa (Z 16 rfl ?_)
  simp only [go_sem, simprocAttr, tNo]
  refine Ae (hQ _ _ (.inl rfl) ?_ ?_ ?_) <;> simp only [go_sem, simprocAttr, vII]
  exact ⟨_, rfl, by decide, by decide, fun a b => by dsimp only at a b; subst a b; simp_all, fun a b => by dsimp only at a b; subst a b; simp_all⟩
 simp only [hcL] at hc15
 refine Aa (Z 17 rfl ?_)
 simp only [go_sem, simprocAttr, tNo]
 refine Ad rfl (fun hc17 => ?_) fun hc17 => ?_
 ·simp only [hcL] at hc17
  refine Aa (Z 18 rfl ?_)
  simp only [go_sem, simprocAttr, tNo]
  refine Ae (hQ _ _ (.inl rfl) ?_ ?_ ?_) <;> simp only [go_sem, simprocAttr, vII]
  exact ⟨_, rfl, by decide, by decide, fun a b => by dsimp only at a b; subst a b; simp_all, fun a b => by dsimp only at a b; subst a b; simp_all⟩
 simp only [hcL] at hc17
 refine Aa (Z 19 rfl ?_)
 simp only [go_sem, simprocAttr, tNo]
 refine Ad rfl (fun hc19 => ?_) fun hc19 => ?_
 ·simp only [hcL] at hc19
  refine Aa (Z 20 rfl ?_)
  simp only [go_sem, simprocAttr, tNo]
  refine Ae (hQ _ _ (.inl rfl) ?_ ?_ ?_) <;> simp only [go_sem, simprocAttr, vII]
  exact ⟨_, rfl, by decide, by decide, fun a b => by dsimp only at a b; subst a b; simp_all, fun a b => by dsimp only at a b; subst a b; simp_all⟩
 simp only [hcL] at hc19
 refine Af ?_
 refine Aa (Z 21 rfl ?_)
 simp only [go_sem, simprocAttr, tNo]
 refine Ae (hQ _ _ (.inl rfl) ?_ ?_ ?_) <;> simp only [go_sem, simprocAttr, vII]
 exact ⟨_, rfl, by decide, by decide, fun a b => by dsimp only at a b; subst a b; simp_all, fun a b => by dsimp only at a b; subst a b; simp_all⟩
def fNu : Int × Int -> Int := Ts.choose
theorem AhH : ∀ x : Int × Int, True -> RNu x (fNu x) := Ts.choose_spec.1
theorem AhI : PU 82 (gOf CO fun x => (True, vII (fNu x))) := Ts.choose_spec.2
theorem Iy (a b : Int) : gOf CO (fun x => (True, vII (fNu x))) [.int .i64 a, .int .i64 b] = (True, .int .i64 (fNu (a, b))) := Al (F := fun x => (True, vII (fNu x))) IR (a, b)
def RNz (x : Int × Int) (y : Int × Int) : Prop := (0 <= y.1 /\ y.1 <= 8) /\ (x.1 = 1 -> x.2 = 9 -> y = (7, 0)) /\ (x.1 = 1 -> x.2 = 8 -> y = (6, 0))
def tNz : Tab
 | 82 => (gOf CO fun x => (True, vII (fNu x)))
 | _ => gNo
theorem AlF : ∀ f, PU f (tNz f) := fun f => by
 unfold tNz
 split
 ·exact AhI
 ·exact Aj.no
theorem Tu : ∃ F : Int × Int -> Int × Int, (∀ x, True -> RNz x (F x)) /\ PU 38 (gOf CO fun x => (True, BU (F x))) := by
 have hG := AlF
 refine Zt.p (val := BU) (R := RNz) IR (by simp [CO]) ?_
 rintro ⟨s, e⟩ hv Q hQ
 have Z := Zt.T EF0 hG
 obtain ⟨n1, n2, n3, n4⟩ := AhH (s, e) trivial
 obtain ⟨n, hn⟩ : ∃ n, n = fNu (s, e) := ⟨_, rfl⟩
 rw [<- hn] at n1 n2 n3 n4
 refine Aa (Z 0 rfl ?_)
 simp only [go_sem, simprocAttr, CO, tNz, Iy, <- hn]
 refine Aa (Aa (Z 1 rfl ?_))
 simp only [go_sem, simprocAttr, tNz, Iy, <- hn]
 and_intros <;> try exact sdA
 refine Ad rfl (fun hb1 => ?_) fun hb1 => ?_
 ·refine Aa (Z 2 rfl ?_)
  simp only [go_sem, simprocAttr, tNz, Iy, <- hn]
  refine Ae (hQ _ _ (.inl rfl) ?_ ?_ ?_) <;> simp only [go_sem, simprocAttr, BU]
  exact ⟨(0, 8), rfl, ⟨by decide, by decide⟩, fun a b => by dsimp only at a b; subst a b; simp at hb1, fun a b => by dsimp only at a b; subst a b; simp at hb1⟩
 refine Af ?_
 refine Aa (Aa (Z 3 rfl ?_))
 simp only [go_sem, simprocAttr, tNz, Iy, <- hn]
 and_intros <;> try exact sdA
 refine Ad rfl (fun hb3 => ?_) fun hb3 => ?_
 ·refine Aa (Z 4 rfl ?_)
  simp only [go_sem, simprocAttr, tNz, Iy, <- hn]
  refine Ae (hQ _ _ (.inl rfl) ?_ ?_ ?_) <;> simp only [go_sem, simprocAttr, BU]
  exact ⟨(0, 28), rfl, ⟨by decide, by decide⟩, fun a b => by dsimp only at a b; subst a b; simp at hb3, fun a b => by dsimp only at a b; subst a b; simp at hb3⟩
 refine Af ?_
 refine Aa (Aa (Z 5 rfl ?_))
 simp only [go_sem, simprocAttr, tNz, Iy, <- hn]
 and_intros <;> try exact sdA
 refine Aa (Z 6 rfl ?_)
 simp only [go_sem, simprocAttr, tNz, Iy, <- hn]
 refine Ad rfl (fun hb6 => ?_) fun hb6 => ?_
 ·refine Aa (Z 7 rfl ?_)
  simp only [go_sem, simprocAttr, tNz, Iy, <- hn]
  refine Ae (hQ _ _ (.inl rfl) ?_ ?_ ?_) <;> simp only [go_sem, simprocAttr, BU]
  exact ⟨(n, 0), rfl, ⟨n1, n2⟩, fun a b => by rw [n3 a b], fun a b => by rw [n4 a b]⟩
 refine Af ?_
 refine Aa (Z 8 rfl ?_)
 simp only [go_sem, simprocAttr, tNz, Iy, <- hn]
 refine Ae (hQ _ _ (.inl rfl) ?_ ?_ ?_) <;> simp only [go_sem, simprocAttr, BU]
 exact ⟨(0, 27), rfl, ⟨by decide, by decide⟩, fun a b => by rw [n3 a b] at hb6; simp at hb6, fun a b => by rw [n4 a b] at hb6; simp at hb6⟩
def fNz : Int × Int -> Int × Int := Tu.choose
theorem AhK : ∀ x : Int × Int, True -> RNz x (fNz x) := Tu.choose_spec.1
theorem AhL : PU 38 (gOf CO fun x => (True, BU (fNz x))) := Tu.choose_spec.2
theorem Iz (a b : Int) : gOf CO (fun x => (True, BU (fNz x))) [.int .i64 a, .int .i64 b] = (True, .tup [.int .i64 (fNz (a, b)).1, .int .i64 (fNz (a, b)).2]) := Al (F := fun x => (True, BU (fNz x))) IR (a, b)
def stc (c : Coupon) (n : Int) : Coupon := ⟨c.want, c.basis, n, c.value⟩
def QI (t : Ticket) (a e : Int) (n : Int) (k : Nat) (t' : Ticket) : Prop := ∃ h : k < t.coupons.length, a = k /\ (0 <= n /\ n <= 8) /\ t' = vTk t (t.coupons.set k (stc t.coupons[k] n)) /\ (t.coupons[k].status = 1 -> e = 9 -> n = 7) /\ (t.coupons[k].status = 1 -> e = 8 -> n = 6)
def RMv (x : Ticket × Int × Int) (y : Ticket × Int) : Prop := (y.2 ≠ 0 /\ y.1 = Ticket.zero /\ ∀ (k : Nat) (h : k < x.1.coupons.length), x.2.1 = k -> x.1.coupons[k].status = 1 -> x.2.2 ≠ 9 /\ x.2.2 ≠ 8) \/ (y.2 = 0 /\ ∃ n k, QI x.1 x.2.1 x.2.2 n k y.1)
def aMv := ar (vg Ticket.enc) (ar vi (ao vi))
theorem Vw : Ij aMv := ijr (ijg Ticket.inj) (ijr iji (ijo iji))
def MvP (x : Ticket × Int × Int) : Prop := Bv x.1 /\ inI x.2.1
def EFw : Nat -> Bool := fun f => f == 39
def tMv : Tab
 | 38 => (gOf CO fun x => (True, BU (fNz x)))
 | _ => gNo
theorem AlD : ∀ f, PU f (tMv f) := fun f => by
 unfold tMv
 split
 ·exact AhL
 ·exact Aj.no
instance : Inhabited Ticket := ⟨Ticket.zero⟩
theorem Tr : ∃ F : Ticket × Int × Int -> Ticket × Int, (∀ x, MvP x -> RMv x (F x)) /\ PU 9 (gOf aMv fun x => (MvP x, tkV (F x))) := by
 have hG := AlD
 refine fi9.p (val := tkV) (R := RMv) Vw (by simp [aMv]) ?_
 rintro ⟨t, a, e⟩ hv Q hQ
 have Z := fi9.T EFw hG
 obtain ⟨hTk, ha⟩ : Bv t /\ inI a := hv
 obtain ⟨hok, hcl, htl⟩ := id hTk
 refine Aa (Z 0 rfl ?_)
 simp only [go_sem, simprocAttr, aMv, Ticket.enc, tMv, EFw, Iz]
 refine Aa ?_
 refine TC.le (s' := ⟨mkE [(1, .int .i64 a), (2, .int .i64 e), (3, .ptr 3 0), (6, .ptr 6 0), (7, .int .i64 0)], mkH ([(3, .box 47 (Bu t)), (6, .box 47 (Bu Ticket.zero))])⟩) (Le.mk _ _ (by (simp only [go_sem, simprocAttr, Bu, Ticket.zero, Ticket.enc]) <;> and_intros <;> try exact leB) (by (simp only [go_sem, simprocAttr, Bu, Ticket.zero, Ticket.enc]) <;> and_intros <;> try exact leB) rfl) ?_
 simp only [Bu]
 refine Aa (Z 1 rfl ?_)
 simp only [go_sem, simprocAttr, Ac, tMv, EFw, Iz]
 and_intros <;> try exact sdA
 refine Ad rfl (fun hb1 => ?_) fun hb1 => ?_
 ·refine Aa (Z 2 rfl ?_)
  simp only [go_sem, simprocAttr, tMv, EFw, Iz]
  refine TC.le (s' := ⟨mkE [(6, .ptr 6 0), (7, .int .i64 7)], mkH [(6, .box 47 (Bu Ticket.zero))]⟩) (Le.mk _ _ ?_ ?_ rfl) (Ae (hQ _ _ (.inl rfl) ?_ ?_ ?_)) <;> simp only [go_sem, simprocAttr, Bu, Ticket.zero, Person.zero, tkV]
  exact ⟨(Ticket.zero, 7), rfl, .inl ⟨(by decide : (7 : Int) ≠ 0), rfl, fun k h hk => by dsimp only at h hk; simp at hb1; omega⟩⟩
 have hab : 0 <= a /\ a < t.coupons.length := by simp only [Cg, decide_eq_false_iff_not] at hb1; omega
 obtain ⟨k, rfl⟩ : ∃ k : Nat, a = k := ⟨a.toNat, by omega⟩
 have hk : k < t.coupons.length := by omega
 obtain ⟨⟨⟨⟨sa, sb, sc, sd, se, sf, sg⟩, cl⟩, ba, st, vv⟩, hcc⟩ : ∃ c, c = t.coupons[k] := ⟨_, rfl⟩
 obtain ⟨q1, q2, q3⟩ := AhK (st, e) trivial
 obtain ⟨⟨n, er⟩, hn⟩ : ∃ y, y = fNz (st, e) := ⟨_, rfl⟩
 rw [<- hn] at q1 q2 q3
 dsimp only at q1 q2 q3
 refine Af ?_
 refine Aa (Z 3 rfl ?_)
 simp only [go_sem, simprocAttr, Ap _ _ _ _ hk, hk, <- hcc, Coupon.enc, Ac, <- hn, tMv, EFw, Iz]
 and_intros <;> try exact sdA
 refine Aa (Aa (Z 4 rfl ?_))
 simp only [go_sem, simprocAttr, tMv, EFw, Iz]
 refine Ad rfl (fun hb4 => ?_) fun hb4 => ?_
 ·refine Aa (Z 5 rfl ?_)
  simp only [go_sem, simprocAttr, tMv, EFw, Iz]
  refine TC.le (s' := ⟨mkE [(6, .ptr 6 0), (7, .int .i64 er)], mkH [(6, .box 47 (Bu Ticket.zero))]⟩) (Le.mk _ _ ?_ ?_ rfl) (Ae (hQ _ _ (.inl rfl) ?_ ?_ ?_)) <;> simp only [go_sem, simprocAttr, Bu, Ticket.zero, Person.zero, tkV]
  exact ⟨(Ticket.zero, er), rfl, .inl ⟨by simpa using hb4, rfl, fun j h hj hs => by dsimp only at h hj hs ⊢; obtain rfl : k = j := (by omega); rw [<- hcc] at hs; exact ⟨fun h9 => absurd (Prod.mk.inj (q2 hs h9)).2 (by simpa using hb4), fun h8 => absurd (Prod.mk.inj (q3 hs h8)).2 (by simpa using hb4)⟩⟩⟩
 obtain rfl : er = 0 := by simpa using hb4
 have hne : t.coupons ≠ [] := fun e => by rw [e] at hk; exact absurd hk (Ee _)
 have hset : (t.coupons.map Coupon.enc).set k [.str sa, .int .i64 sb, .int .i64 sc, .str sd, .str se, .int .i64 sf, .int .i64 sg, .str cl, .str ba, .int .i64 n, .int .i64 vv] = (t.coupons.set k (stc t.coupons[k] n)).map Coupon.enc := by rw [Kv, <- hcc]; rfl
 refine Af ?_
 refine Aa (Z 6 rfl ?_)
 simp only [go_sem, simprocAttr, tMv, EFw, Iz]
 refine AeQ 37 hne (by omega) rfl (by decide) ?_
 simp only [go_sem, simprocAttr]
 refine Aa (Z 7 rfl ?_)
 simp only [go_sem, simprocAttr, Ap _ _ _ _ hk, hk, <- hcc, Coupon.enc, Ac, hset, tMv, EFw, Iz]
 and_intros <;> try exact sdA
 refine Aa (Z 8 rfl ?_)
 simp only [go_sem, simprocAttr, tMv, EFw, Iz]
 refine TC.le (s' := ⟨mkE [(6, .ptr 6 0), (7, .int .i64 0)], mkH [(6, .box 47 (Bu (vTk t (t.coupons.set k (stc t.coupons[k] n)))))]⟩) (Le.mk _ _ ?_ ?_ rfl) (Ae (hQ _ _ (.inl rfl) ?_ ?_ ?_)) <;> simp only [go_sem, simprocAttr, Bu, vTk, tkV]
 ·exact QG rfl (by rw [Ac, Gc]) rfl ((Coupon.purs _).2 trivial) (by rw [hcc])
 exact ⟨(vTk t (t.coupons.set k (stc t.coupons[k] n)), 0), rfl, .inr ⟨rfl, n, k, hk, rfl, q1, rfl, fun h1 h9 => by rw [<- hcc] at h1; exact (Prod.mk.inj (q2 h1 h9)).1, fun h1 h8 => by rw [<- hcc] at h1; exact (Prod.mk.inj (q3 h1 h8)).1⟩⟩
def fMv : Ticket × Int × Int -> Ticket × Int := Tr.choose
theorem Aa1 : ∀ x, MvP x -> RMv x (fMv x) := Tr.choose_spec.1
theorem Tq : PU 9 (gOf aMv fun x => (MvP x, tkV (fMv x))) := Tr.choose_spec.2
theorem AB (nu : Int) (lo la fi ty : List UInt8) (cs : List Coupon) (fa : Int) (tx : List Charge) (to d a e : Int) : gOf aMv (fun x => (MvP x, tkV (fMv x))) [.agg [.int .i64 nu, .str lo, .str la, .str fi, .str ty, .list (cs.map Coupon.enc) false, .int .i64 fa, .list (tx.map Charge.enc) false, .int .i64 to, .int .i64 d], .int .i64 a, .int .i64 e] = (MvP (⟨nu, lo, ⟨la, fi, ty⟩, cs, fa, tx, to, d⟩, a, e), .tup [.agg (Bu (fMv (⟨nu, lo, ⟨la, fi, ty⟩, cs, fa, tx, to, d⟩, a, e)).1), .int .i64 (fMv (⟨nu, lo, ⟨la, fi, ty⟩, cs, fa, tx, to, d⟩, a, e)).2]) := Al (F := fun x => (MvP x, tkV (fMv x))) Vw (⟨nu, lo, ⟨la, fi, ty⟩, cs, fa, tx, to, d⟩, a, e)
def opB (b : Bool) (c : Coupon) : Bool := if b = true then decide (c.status = 1) else !decide (c.status = 1)
def Ek := ao (vg Coupon.enc)
theorem Ou : Ij Ek := ijo (ijg Coupon.inj)
def Fq (b : Bool) (c : Coupon) : Prop × V := (True, .bool (opB b c))
theorem EU (q : Bool) (sa : List UInt8) (sb sc : Int) (sd se : List UInt8) (sf sg : Int) (cl ba : List UInt8) (st vv : Int) : gOf Ek (Fq q) [.agg [.str sa, .int .i64 sb, .int .i64 sc, .str sd, .str se, .int .i64 sf, .int .i64 sg, .str cl, .str ba, .int .i64 st, .int .i64 vv]] = (True, .bool (opB q ⟨⟨⟨sa, sb, sc, sd, se, sf, sg⟩, cl⟩, ba, st, vv⟩)) := Al (F := Fq q) Ou ⟨⟨⟨sa, sb, sc, sd, se, sf, sg⟩, cl⟩, ba, st, vv⟩
theorem TA : PU 41 (gOf Ek (Fq true)) := by
 have hG := AJ
 refine Zw.a Ou (by simp [Ek]) ?_
 rintro ⟨⟨⟨sa, sb, sc, sd, se, sf, sg⟩, cl⟩, ba, st, vv⟩ hv C hN Q hQ
 have Z := Zw.R EF0 hG hN
 refine Ab (Z 0 rfl ?_)
 simp only [go_sem, simprocAttr, Ek, Coupon.enc]
 refine Ab (Z 1 rfl ?_)
 simp only [go_sem, simprocAttr]
 refine Ag (hQ _ _ (.inl rfl) ?_ ?_ ?_) <;> simp only [go_sem, simprocAttr, Fq, opB]
theorem Aog : PU 88 (gOf Ek (Fq true)) := by
 have hG := AJ
 refine ZY.a Ou (by simp [Ek]) ?_
 rintro ⟨⟨⟨sa, sb, sc, sd, se, sf, sg⟩, cl⟩, ba, st, vv⟩ hv C hN Q hQ
 have Z := ZY.R EF0 hG hN
 refine Ab (Z 0 rfl ?_)
 simp only [go_sem, simprocAttr, Ek, Coupon.enc]
 refine Ab (Z 1 rfl ?_)
 simp only [go_sem, simprocAttr]
 refine Ag (hQ _ _ (.inl rfl) ?_ ?_ ?_) <;> simp only [go_sem, simprocAttr, Fq, opB]
def Qz : Tab
 | 41 => (gOf Ek (Fq true))
 | _ => gNo
theorem Al9 : ∀ f, PU f (Qz f) := fun f => by
 unfold Qz
 split
 ·exact TA
 ·exact Aj.no
theorem AmB : PU 148 (gOf Ek (Fq false)) := by
 have hG := Al9
 refine Yp.a Ou (by simp [Ek]) ?_
 rintro ⟨⟨⟨sa, sb, sc, sd, se, sf, sg⟩, cl⟩, ba, st, vv⟩ hv C hN Q hQ
 have Z := Yp.R EF0 hG hN
 refine Ab (Z 0 rfl ?_)
 simp only [go_sem, simprocAttr, Ek, Coupon.enc, Qz, EU]
 refine Ab (Z 1 rfl ?_)
 simp only [go_sem, simprocAttr, Qz, EU]
 and_intros <;> try exact sdA
 refine Ag (hQ _ _ (.inl rfl) ?_ ?_ ?_) <;> simp only [go_sem, simprocAttr, Fq, opB]
def UE : Tab
 | 41 => (gOf Ek (Fq true))
 | 88 => (gOf Ek (Fq true))
 | 148 => (gOf Ek (Fq false))
 | _ => gNo
theorem AlJ : ∀ f, PU f (UE f) := fun f => by
 unfold UE
 split
 ·exact TA
 ·exact Aog
 ·exact AmB
 ·exact Aj.no
def opF (k : Nat) : Prop := k = 41 \/ k = 88 \/ k = 148
def opK (k : Nat) : Bool := !decide (k = 148)
theorem AlI {k : Nat} (h : opF k) : UE k = gOf Ek (Fq (opK k)) := by
 rcases h with rfl | rfl | rfl <;> rfl
def aCf (x : List Coupon × Nat) : List V := [.list (x.1.map Coupon.enc) false, .fn x.2 []]
theorem Ot (a b : List Coupon × Nat) (h : aCf a = aCf b) : a = b := by
 simp only [aCf, Bz, V.list.injEq, V.fn.injEq, and_true] at h
 exact Prod.ext (PM (fun x y h => Coupon.inj _ _ h) |>.1 h.1) h.2
def MQ (x : List Coupon × Nat) : Prop × V := (x.1.length <= 1000000 /\ opF x.2, .int .i64 (PH (x.1.findIdx? (opB (opK x.2)))))
theorem AfQ (l : List Coupon) (k : Nat) : gOf aCf MQ [.list (l.map Coupon.enc) false, .fn k []] = (l.length <= 1000000 /\ opF k, .int .i64 (PH (l.findIdx? (opB (opK k))))) := Al Ot (l, k)
theorem AgM : PU 147 (gOf aCf MQ) := by
 have hG := AlJ
 refine Yo.a Ot (by simp [aCf]) ?_
 rintro ⟨l, k⟩ hv C hN Q hQ
 have Z := Yo.R EF0 hG hN
 obtain ⟨hl, hk⟩ : l.length <= 1000000 /\ opF k := hv
 have hT := AlI hk
 refine Ab (Z 0 rfl ?_)
 simp only [go_sem, simprocAttr, aCf]
 refine Ab (Ab (Z 1 rfl ?_))
 simp only [go_sem, simprocAttr]
 refine Ar ?_
 refine Bj (α := Nat) (fun i => (i <= l.length) /\ (∀ s ∈ l.take i, opB (opK k) s = false)) (fun i => ⟨mkE [(0, V.list (List.map Coupon.enc l) false), (1, V.fn k []), (7, V.int IntKind.i64 ↑l.length), (8, .int .i64 i)], mkH []⟩) (fun i => l.length - i) 0 (by simp) ?_ ?_
 ·exact leM
 rintro i ⟨hi, hp⟩ KL0 hKL0
 try dsimp only at *
 refine Ab (Z 2 rfl ?_)
 simp only [go_sem, simprocAttr]
 refine Ab ?_
 refine Ai rfl (fun hc2 => ?_) fun hc2 => ?_
 ·simp only [hcL] at hc2
  refine Ah ?_
  refine Ab (Ar ?_)
  refine Ab (Z 3 rfl ?_)
  simp only [go_sem, simprocAttr]
  obtain ⟨⟨⟨⟨sa, sb, sc, sd, se, sf, sg⟩, cl⟩, ba, st, vv⟩, hxx⟩ : ∃ c, c = l[i] := ⟨_, rfl⟩
  refine Ab (Z 4 rfl ?_)
  simp only [go_sem, simprocAttr, Ap _ _ _ _ hc2, hc2, <- hxx, Coupon.enc, hT, EU]
  and_intros <;> try exact sdA
  refine Ai rfl (fun hb => ?_) fun hb => ?_
  ·refine Ab (Z 5 rfl ?_)
   simp only [go_sem, simprocAttr]
   refine Ag (hQ _ _ (.inl rfl) ?_ ?_ ?_) <;> simp only [go_sem, simprocAttr, MQ]
   rw [Af1 hc2 hp (by rw [<- hxx]; exact hb)]; rfl
  refine Ah ?_
  refine Z 6 rfl ?_
  simp only [go_sem, simprocAttr, inI]
  and_intros <;> try exact sdA
  refine hKL0 (i + 1) _ ?_ ?_ ?_
  ·(try dsimp only); exact ⟨hc2, HQ hc2 hp (by rw [<- hxx]; exact hb)⟩
  ·(try dsimp only); omega
  exact leM
 simp only [hcL] at hc2
 refine Be ?_
 simp only [go_sem, simprocAttr]
 refine Ab (Z 7 rfl ?_)
 simp only [go_sem, simprocAttr]
 refine Ag (hQ _ _ (.inl rfl) ?_ ?_ ?_) <;> simp only [go_sem, simprocAttr, MQ]
 rw [Af2 hc2 hp]; rfl
def Lk (x : List Coupon × Nat) : Prop × V := (x.1.length <= 1000000 /\ opF x.2, .bool (x.1.any (opB (opK x.2))))
theorem By (l : List Coupon) (k : Nat) : gOf aCf Lk [.list (l.map Coupon.enc) false, .fn k []] = (l.length <= 1000000 /\ opF k, .bool (l.any (opB (opK k)))) := Al Ot (l, k)
def UB : Tab
 | 147 => (gOf aCf MQ)
 | _ => gNo
theorem All : ∀ f, PU f (UB f) := fun f => by
 unfold UB
 split
 ·exact AgM
 ·exact Aj.no
theorem RG : PU 84 (gOf aCf Lk) := by
 have hG := All
 refine ZU.a Ot (by simp [aCf]) ?_
 rintro ⟨l, k⟩ hv C hN Q hQ
 have Z := ZU.R EF0 hG hN
 obtain ⟨hl, hk⟩ : l.length <= 1000000 /\ opF k := hv
 refine Ab (Z 0 rfl ?_)
 simp only [go_sem, simprocAttr, aCf]
 refine Ab (Z 1 rfl ?_)
 simp only [go_sem, simprocAttr, UB, AfQ, hl, hk]
 and_intros <;> try exact sdA
 refine Ag (hQ _ _ (.inl rfl) ?_ ?_ ?_) <;> simp only [go_sem, simprocAttr, Lk]
 rw [Agv]
def opV (l : List Coupon) : List Int := (l.filter (opB true)).map Coupon.value
theorem Abn {l : List Coupon} {i : Nat} (h : i < l.length) : opV (l.take (i + 1)) = if l[i].status = 1 then opV (l.take i) ++ [l[i].value] else opV (l.take i) := by
 unfold opV
 rw [Dm h, List.filter_append, DO]
 by_cases h1 : l[i].status = 1
 ·have h2 : opB true l[i] = true := by unfold opB; rw [if_pos rfl, decide_eq_true h1]
  rw [if_pos h1, List.filter_cons_of_pos h2]; rfl
 ·have h2 : ¬ opB true l[i] = true := by unfold opB; rw [if_pos rfl, decide_eq_false h1]; decide
  rw [if_neg h1, List.filter_cons_of_neg h2]; simp
theorem Uu : ∀ {l : List Int} {s : Int}, (CW s l).2 = 0 -> (CW s l).1 = s + l.sum /\ (Bq s = true -> Bq (CW s l).1 = true)
 | [], s, _ => by simp [CW]
 | x :: l, s, h => by
  rw [CW] at h ⊢
  split at h
  ·rename_i hf
   rw [if_pos hf]
   obtain ⟨a, b⟩ := Uu h
   rw [Bx] at hf
   exact ⟨by rw [a, DP]; omega, fun _ => b hf.2⟩
  ·cases h
theorem Ct (l : List Int) : gOf aLi GR [.list (Ao l) false] = (l.length <= 140737488355328, .tup [.int .i64 (CW 0 l).1, .int .i64 (CW 0 l).2]) := Al Mz l
def nbB (c : Coupon) : Bool := !(decide (c.status = 2) || decide (c.status = 3) || decide (c.status = 4))
theorem Aa6 {w : Want} {b : List UInt8} {s v : Int} (h1 : ¬ s = 2) (h2 : ¬ s = 3) (h3 : ¬ s = 4) : nbB ⟨w, b, s, v⟩ = true := by
 unfold nbB; rw [decide_eq_false h1, decide_eq_false h2, decide_eq_false h3]; rfl
def RUn (t : Ticket) (y : Int × Int) : Prop := y.2 = 0 -> (∀ c ∈ t.coupons, nbB c = true) /\ y.1 = (opV t.coupons).sum /\ -1099511627776 <= y.1 /\ y.1 <= 1099511627776
def tUn : Tab
 | 146 => (gOf aLi GR)
 | _ => gNo
theorem Amb : ∀ f, PU f (tUn f) := fun f => by
 unfold tUn
 split
 ·exact Uy
 ·exact Aj.no
theorem UQ : ∃ F : Ticket -> Int × Int, (∀ t, Bv t -> RUn t (F t)) /\ PU 83 (gOf aTk fun x => (Bv x, BU (F x))) := by
 have hG := Amb
 refine ZT.p (val := BU) (R := RUn) OB (by simp [aTk]) ?_
 rintro t hv Q hQ
 have Z := ZT.T EF0 hG
 have hTk : Bv t := hv
 obtain ⟨hok, hcl, htl⟩ := id hTk
 obtain ⟨l, hl⟩ : ∃ l, l = t.coupons := ⟨_, rfl⟩
 rw [<- hl] at hcl
 refine Aa (Z 0 rfl ?_)
 simp only [go_sem, simprocAttr, aTk, Ticket.enc, <- hl, tUn, Ct]
 refine Aa (Z 1 rfl ?_)
 simp only [go_sem, simprocAttr, tUn, Ct]
 refine Aa (Aa (Z 2 rfl ?_))
 simp only [go_sem, simprocAttr, Ac, tUn, Ct]
 refine Aq ?_
 refine Ba (α := Nat × (List Int)) (fun γ => (γ.1 <= l.length) /\ (γ.2 = opV (l.take γ.1)) /\ (γ.2.length <= γ.1) /\ (∀ c ∈ l.take γ.1, nbB c = true)) (fun γ => ⟨mkE [(4, .own 999 γ.2.length), (8, V.list (List.map Coupon.enc l) false), (9, V.int IntKind.i64 ↑l.length), (10, .int .i64 γ.1)], mkH [(999, .arr 3 1 (Ao γ.2))]⟩) (fun γ => l.length - γ.1) (0, []) ⟨As _, rfl, AF _, fun c hc => by simp at hc⟩ ?_ ?_
 ·refine Le.mk _ _ ?_ ?_ rfl <;> simp only [go_sem, simprocAttr, Ly] <;> and_intros <;> try exact leA
 rintro ⟨i, xs⟩ ⟨hi, hx, hxl, hnb⟩ KL0 hKL0
 try dsimp only at *
 refine Aa (Z 3 rfl ?_)
 simp only [go_sem, simprocAttr, tUn, Ct]
 refine Aa ?_
 refine Ad rfl (fun hc3 => ?_) fun hc3 => ?_
 ·simp only [hcL] at hc3
  refine Af ?_
  refine Aa (Aq ?_)
  have hst := Abn hc3
  obtain ⟨⟨⟨⟨sa, sb, sc, sd, se, sf, sg⟩, cl⟩, ba, st, vv⟩, hcc⟩ : ∃ c, c = l[i] := ⟨_, rfl⟩
  rw [<- hcc] at hst
  dsimp only at hst
  refine Aa (Z 4 rfl ?_)
  simp only [go_sem, simprocAttr, Ap _ _ _ _ hc3, hc3, <- hcc, Coupon.enc, tUn, Ct]
  and_intros <;> try exact sdA
  refine Aa (Z 5 rfl ?_)
  simp only [go_sem, simprocAttr, tUn, Ct]
  refine Aq (Aa (Z 6 rfl ?_))
  simp only [go_sem, simprocAttr, tUn, Ct]
  refine Ad rfl (fun hc6 => ?_) fun hc6 => ?_
  ·simp only [hcL] at hc6
   refine Aa (Z 7 rfl ?_)
   simp only [go_sem, simprocAttr, tUn, Ct]
   refine Ae (hQ _ _ (.inl rfl) ?_ ?_ ?_) <;> simp only [go_sem, simprocAttr, BU]
   exact ⟨(0, 28), rfl, fun e => absurd e (by decide)⟩
  simp only [hcL] at hc6
  refine Aa (Aa (Z 8 rfl ?_))
  simp only [go_sem, simprocAttr, tUn, Ct]
  refine Ad rfl (fun hc8 => ?_) fun hc8 => ?_
  ·simp only [hcL] at hc8
   refine Af ?_
   refine Ad rfl (fun hc8r => ?_) fun hc8r => ?_
   ·simp only [hcL] at hc8r
    refine Aa (Z 10 rfl ?_)
    simp only [go_sem, simprocAttr, tUn, Ct]
    refine Ae (hQ _ _ (.inl rfl) ?_ ?_ ?_) <;> simp only [go_sem, simprocAttr, BU]
    exact ⟨(0, 27), rfl, fun e => absurd e (by decide)⟩
   exfalso; simp_all
  simp only [hcL] at hc8
  refine Z 9 rfl ?_
  simp only [go_sem, simprocAttr, tUn, Ct]
  refine Ad rfl (fun hc9 => ?_) fun hc9 => ?_
  ·simp only [hcL] at hc9
   refine Aa (Z 10 rfl ?_)
   simp only [go_sem, simprocAttr, tUn, Ct]
   refine Ae (hQ _ _ (.inl rfl) ?_ ?_ ?_) <;> simp only [go_sem, simprocAttr, BU]
   exact ⟨(0, 27), rfl, fun e => absurd e (by decide)⟩
  simp only [hcL] at hc9
  refine Aa (Z 11 rfl ?_)
  simp only [go_sem, simprocAttr, tUn, Ct]
  refine Ad rfl (fun hc11 => ?_) fun hc11 => ?_
  ·simp only [hcL] at hc11
   refine Z 12 rfl ?_
   simp only [go_sem, simprocAttr, tUn, Ct]
   and_intros <;> try exact sdA
   refine Z 13 rfl ?_
   simp only [go_sem, simprocAttr, inI, tUn, Ct]
   and_intros <;> try exact sdA
   refine hKL0 (i + 1, xs ++ [vv]) _ ?_ ?_ ?_
   ·(try dsimp only); exact ⟨hc3, by rw [hst, if_pos hc11, hx], by rw [An]; show xs.length + 1 <= i + 1; omega, HQ hc3 hnb (by rw [<- hcc]; exact Aa6 hc6 hc8 hc9)⟩
   ·(try dsimp only); omega
   refine Le.mk _ _ ?_ ?_ rfl <;> simp only [go_sem, simprocAttr, EE, An, Aw, Ax] <;> and_intros <;> try exact leA
  simp only [hcL] at hc11
  refine Af ?_
  refine Z 13 rfl ?_
  simp only [go_sem, simprocAttr, inI, tUn, Ct]
  and_intros <;> try exact sdA
  refine hKL0 (i + 1, xs) _ ?_ ?_ ?_
  ·(try dsimp only); exact ⟨hc3, by rw [hst, if_neg hc11, hx], by omega, HQ hc3 hnb (by rw [<- hcc]; exact Aa6 hc6 hc8 hc9)⟩
  ·(try dsimp only); omega
  exact leM
 simp only [hcL] at hc3
 rw [BR hc3] at hx hnb
 refine AX ?_
 simp only [go_sem, simprocAttr]
 refine Aa (Z 14 rfl ?_)
 simp only [go_sem, simprocAttr, tUn, Ct]
 and_intros <;> try exact sdA
 refine Ae (hQ _ _ (.inl rfl) ?_ ?_ ?_) <;> simp only [go_sem, simprocAttr, BU]
 exact ⟨CW 0 xs, rfl, fun e => by obtain ⟨a, b⟩ := Uu (s := 0) e; have := Kn (b rfl); rw [<- hl]; exact ⟨hnb, by rw [a, hx]; omega, this.1, this.2⟩⟩
def fUn : Ticket -> Int × Int := UQ.choose
theorem Anu : ∀ t : Ticket, Bv t -> RUn t (fUn t) := UQ.choose_spec.1
theorem Anv : PU 83 (gOf aTk fun x => (Bv x, BU (fUn x))) := UQ.choose_spec.2
def chV (l : List Charge) : List Int := l.map Charge.amount
def txS (t : Ticket) : Int := if t.coupons.any (opB false) = true then 0 else (chV t.taxes).sum
def RTb (t : Ticket) (y : Int × Int) : Prop := y.2 = 0 -> y.1 = txS t /\ -1099511627776 <= y.1 /\ y.1 <= 1099511627776
def tTb : Tab
 | 146 => (gOf aLi GR)
 | 84 => (gOf aCf Lk)
 | _ => gNo
theorem Al6 : ∀ f, PU f (tTb f) := fun f => by
 unfold tTb
 split
 ·exact Uy
 ·exact RG
 ·exact Aj.no
theorem UH : ∃ F : Ticket -> Int × Int, (∀ t, Bv t -> RTb t (F t)) /\ PU 85 (gOf aTk fun x => (Bv x, BU (F x))) := by
 have hG := Al6
 refine ZV.p (val := BU) (R := RTb) OB (by simp [aTk]) ?_
 rintro t hv Q hQ
 have Z := ZV.T EF0 hG
 have hTk : Bv t := hv
 obtain ⟨hok, hcl, htl⟩ := id hTk
 obtain ⟨l, hl⟩ : ∃ l, l = t.taxes := ⟨_, rfl⟩
 rw [<- hl] at htl
 have hk : opF 148 := .inr (.inr rfl)
 have hkk : opK 148 = false := rfl
 have hcl2 : t.coupons.length <= 1000000 := by omega
 refine Aa (Z 0 rfl ?_)
 simp only [go_sem, simprocAttr, aTk, Ticket.enc, <- hl, tTb, Ct, By]
 refine Aa (Aa (Z 1 rfl ?_))
 simp only [go_sem, simprocAttr, hcl2, hk, hkk, tTb, Ct, By]
 and_intros <;> try exact sdA
 refine Ad rfl (fun hb1 => ?_) fun hb1 => ?_
 ·refine Aa (Z 2 rfl ?_)
  simp only [go_sem, simprocAttr, tTb, Ct, By]
  refine Ae (hQ _ _ (.inl rfl) ?_ ?_ ?_) <;> simp only [go_sem, simprocAttr, BU]
  exact ⟨(0, 0), rfl, fun _ => ⟨by show (0 : Int) = txS t; unfold txS; rw [if_pos hb1], by decide, by decide⟩⟩
 refine Af ?_
 refine Aa (Z 3 rfl ?_)
 simp only [go_sem, simprocAttr, tTb, Ct, By]
 refine Aa (Aa (Z 4 rfl ?_))
 simp only [go_sem, simprocAttr, Ac, tTb, Ct, By]
 refine Aq ?_
 refine Ba (α := Nat × (List Int)) (fun γ => (γ.1 <= l.length) /\ (γ.2 = chV (l.take γ.1)) /\ (γ.2.length = γ.1)) (fun γ => ⟨mkE [(4, .own 999 γ.2.length), (11, V.list (List.map Charge.enc l) false), (12, V.int IntKind.i64 ↑l.length), (13, .int .i64 γ.1)], mkH [(999, .arr 3 1 (Ao γ.2))]⟩) (fun γ => l.length - γ.1) (0, []) ⟨As _, rfl, rfl⟩ ?_ ?_
 ·refine Le.mk _ _ ?_ ?_ rfl <;> simp only [go_sem, simprocAttr, Ly] <;> and_intros <;> try exact leA
 rintro ⟨i, xs⟩ ⟨hi, hx, hxl⟩ KL0 hKL0
 try dsimp only at *
 refine Aa (Z 5 rfl ?_)
 simp only [go_sem, simprocAttr, tTb, Ct, By]
 refine Aa ?_
 refine Ad rfl (fun hc5 => ?_) fun hc5 => ?_
 ·simp only [hcL] at hc5
  refine Af ?_
  refine Aa (Aq ?_)
  obtain ⟨⟨co, am⟩, hcc⟩ : ∃ c, c = l[i] := ⟨_, rfl⟩
  refine Aa (Z 6 rfl ?_)
  simp only [go_sem, simprocAttr, Ap _ _ _ _ hc5, hc5, <- hcc, Charge.enc, tTb, Ct, By]
  and_intros <;> try exact sdA
  refine Z 7 rfl ?_
  simp only [go_sem, simprocAttr, tTb, Ct, By]
  and_intros <;> try exact sdA
  refine Z 8 rfl ?_
  simp only [go_sem, simprocAttr, inI, tTb, Ct, By]
  and_intros <;> try exact sdA
  refine hKL0 (i + 1, xs ++ [am]) _ ?_ ?_ ?_
  ·(try dsimp only); exact ⟨hc5, by unfold chV; rw [Dm hc5, DO, <- hcc]; unfold chV at hx; rw [hx]; rfl, by rw [An, hxl]; rfl⟩
  ·(try dsimp only); omega
  refine Le.mk _ _ ?_ ?_ rfl <;> simp only [go_sem, simprocAttr, EE, An, Aw, Ax] <;> and_intros <;> try exact leA
 simp only [hcL] at hc5
 rw [BR hc5] at hx
 refine AX ?_
 simp only [go_sem, simprocAttr]
 refine Aa (Z 9 rfl ?_)
 simp only [go_sem, simprocAttr, tTb, Ct, By]
 and_intros <;> try exact sdA
 refine Ae (hQ _ _ (.inl rfl) ?_ ?_ ?_) <;> simp only [go_sem, simprocAttr, BU]
 exact ⟨CW 0 xs, rfl, fun e => by obtain ⟨a, b⟩ := Uu (s := 0) e; have := Kn (b rfl); exact ⟨by rw [a, hx]; unfold txS; rw [if_neg (by rw [hb1]; decide), <- hl]; omega, this.1, this.2⟩⟩
def fTb : Ticket -> Int × Int := UH.choose
theorem Amm : ∀ t : Ticket, Bv t -> RTb t (fTb t) := UH.choose_spec.1
theorem Amn : PU 85 (gOf aTk fun x => (Bv x, BU (fTb x))) := UH.choose_spec.2
structure Paid where
 fare : Int
 tax : Int
 fee : Int
 pay : Int
def Paid.enc (x : Paid) : List V := [.int .i64 x.fare, .int .i64 x.tax, .int .i64 x.fee, .int .i64 x.pay]
def Paid.zero : Paid := ⟨0, 0, 0, 0⟩
theorem Paid.rows (l : List Paid) : (∀ r ∈ l.map Paid.enc, r.length = 4) ↔ True := iff_true_intro fun r hr => by obtain ⟨x, _, rfl⟩ := Am.1 hr; rfl
theorem Paid.purs (l : List Paid) : (∀ r ∈ l.map Paid.enc, V.purs r = true) ↔ True := iff_true_intro fun r hr => by obtain ⟨x, _, rfl⟩ := Am.1 hr; rfl
attribute [go_sem] Paid.rows Paid.purs
instance : Inhabited Paid := ⟨Paid.zero⟩
def opS (t : Ticket) : Int := (opV t.coupons).sum
structure PdK (t : Ticket) (z : Int) (p : Paid) : Prop where
 nb : ∀ c ∈ t.coupons, nbB c = true
 op : t.coupons.any (opB true) = true
 fare : p.fare = opS t
 tax : p.tax = txS t
 fee : p.fee = min z (opS t + txS t)
 pay : p.pay = opS t + txS t - p.fee
 a : -1099511627776 <= opS t /\ opS t <= 1099511627776
 b : -1099511627776 <= txS t /\ txS t <= 1099511627776
 c : -1099511627776 <= opS t + txS t /\ opS t + txS t <= 1099511627776
 f : 0 <= z /\ z <= 1099511627776
def aRf := ar (vg Ticket.enc) (ao vi)
theorem Oy : Ij aRf := ijr (ijg Ticket.inj) (ijo iji)
def vPE (y : Paid × Int) : V := .tup [.agg y.1.enc, .int .i64 y.2]
def RfP (x : Ticket × Int) : Prop := Bv x.1 /\ inI x.2
def QN (x : Ticket × Int) (y : Paid × Int) : Prop := y.2 = 0 -> PdK x.1 x.2 y.1
theorem AdU {a b : Int} (h : (HY a b).2 = 0) : (HY a b).1 = a + b /\ Bq (a + b) = true := by
 unfold HY at h ⊢
 split at h
 ·rename_i hf
  rw [if_pos hf]
  rw [Bx] at hf
  exact ⟨rfl, hf.2⟩
 ·cases h
theorem EP (nu : Int) (lo la fi ty : List UInt8) (cs : List Coupon) (fa : Int) (tx : List Charge) (to d : Int) : gOf aTk (fun x => (Bv x, BU (fUn x))) [.agg [.int .i64 nu, .str lo, .str la, .str fi, .str ty, .list (cs.map Coupon.enc) false, .int .i64 fa, .list (tx.map Charge.enc) false, .int .i64 to, .int .i64 d]] = (Bv ⟨nu, lo, ⟨la, fi, ty⟩, cs, fa, tx, to, d⟩, .tup [.int .i64 (fUn ⟨nu, lo, ⟨la, fi, ty⟩, cs, fa, tx, to, d⟩).1, .int .i64 (fUn ⟨nu, lo, ⟨la, fi, ty⟩, cs, fa, tx, to, d⟩).2]) := Al (F := fun x => (Bv x, BU (fUn x))) OB ⟨nu, lo, ⟨la, fi, ty⟩, cs, fa, tx, to, d⟩
theorem EN (nu : Int) (lo la fi ty : List UInt8) (cs : List Coupon) (fa : Int) (tx : List Charge) (to d : Int) : gOf aTk (fun x => (Bv x, BU (fTb x))) [.agg [.int .i64 nu, .str lo, .str la, .str fi, .str ty, .list (cs.map Coupon.enc) false, .int .i64 fa, .list (tx.map Charge.enc) false, .int .i64 to, .int .i64 d]] = (Bv ⟨nu, lo, ⟨la, fi, ty⟩, cs, fa, tx, to, d⟩, .tup [.int .i64 (fTb ⟨nu, lo, ⟨la, fi, ty⟩, cs, fa, tx, to, d⟩).1, .int .i64 (fTb ⟨nu, lo, ⟨la, fi, ty⟩, cs, fa, tx, to, d⟩).2]) := Al (F := fun x => (Bv x, BU (fTb x))) OB ⟨nu, lo, ⟨la, fi, ty⟩, cs, fa, tx, to, d⟩
def tRf : Tab
 | 83 => (gOf aTk fun x => (Bv x, BU (fUn x)))
 | 84 => (gOf aCf Lk)
 | 85 => (gOf aTk fun x => (Bv x, BU (fTb x)))
 | 86 => (gOf Cj Pf)
 | _ => gNo
theorem AlQ : ∀ f, PU f (tRf f) := fun f => by
 unfold tRf
 split
 ·exact Anv
 ·exact RG
 ·exact Amn
 ·exact AdW
 ·exact Aj.no
theorem TU : ∃ F : Ticket × Int -> Paid × Int, (∀ x, RfP x -> QN x (F x)) /\ PU 40 (gOf aRf fun x => (RfP x, vPE (F x))) := by
 have hG := AlQ
 refine Zv.p (val := vPE) (R := QN) Oy (by simp [aRf]) ?_
 rintro ⟨⟨nu, lo, ⟨la, fi, ty⟩, cs, fa, tx, to, d⟩, fee⟩ hv Q hQ
 have Z := Zv.T EF0 hG
 obtain ⟨hTk, hfe⟩ : Bv ⟨nu, lo, ⟨la, fi, ty⟩, cs, fa, tx, to, d⟩ /\ inI fee := hv
 have hcl2 : cs.length <= 1000000 := by have : cs.length <= 100 := hTk.2.1; omega
 have hU := Anu _ hTk
 have hB := Amm _ hTk
 obtain ⟨⟨n, e1⟩, hn⟩ : ∃ y, y = fUn ⟨nu, lo, ⟨la, fi, ty⟩, cs, fa, tx, to, d⟩ := ⟨_, rfl⟩
 obtain ⟨⟨m, e2⟩, hm⟩ : ∃ y, y = fTb ⟨nu, lo, ⟨la, fi, ty⟩, cs, fa, tx, to, d⟩ := ⟨_, rfl⟩
 obtain ⟨⟨s, e3⟩, hs⟩ : ∃ y, y = HY n m := ⟨_, rfl⟩
 rw [<- hn] at hU
 rw [<- hm] at hB
 have hk : opF 41 := .inl rfl
 have hkk : opK 41 = true := rfl
 refine Aa (Z 0 rfl ?_)
 simp only [go_sem, simprocAttr, aRf, Ticket.enc, tRf, EP, EN, By, EB, Ak]
 refine Aa (Aa (Z 1 rfl ?_))
 simp only [go_sem, simprocAttr, tRf, EP, EN, By, EB, Ak]
 and_intros <;> try exact sdA
 refine Ad rfl (fun hb1 => ?_) fun hb1 => ?_
 ·refine Aa (Z 2 rfl ?_)
  simp only [go_sem, simprocAttr, tRf, EP, EN, By, EB, Ak]
  refine TC.le (s' := ⟨mkE [(4, .ptr 4 0), (5, .int .i64 2)], mkH [(4, .box 59 [.int .i64 0, .int .i64 0, .int .i64 0, .int .i64 0])]⟩) (Le.mk _ _ ?_ ?_ rfl) (Ae (hQ _ _ (.inl rfl) ?_ ?_ ?_)) <;> simp only [go_sem, simprocAttr, vPE, Paid.enc]
  exact ⟨(⟨0, 0, 0, 0⟩, 2), rfl, fun e => absurd e (by decide)⟩
 have hfb : 0 <= fee /\ fee <= 1099511627776 := by simp only [Cg, decide_eq_false_iff_not] at hb1; omega
 refine Af ?_
 refine Aa (Z 3 rfl ?_)
 simp only [go_sem, simprocAttr, hTk, <- hn, tRf, EP, EN, By, EB, Ak]
 and_intros <;> try exact sdA
 refine Aa (Aa (Z 4 rfl ?_))
 simp only [go_sem, simprocAttr, tRf, EP, EN, By, EB, Ak]
 refine Ad rfl (fun hb4 => ?_) fun hb4 => ?_
 ·refine Aa (Z 5 rfl ?_)
  simp only [go_sem, simprocAttr, tRf, EP, EN, By, EB, Ak]
  refine TC.le (s' := ⟨mkE [(4, .ptr 4 0), (5, .int .i64 e1)], mkH [(4, .box 59 [.int .i64 0, .int .i64 0, .int .i64 0, .int .i64 0])]⟩) (Le.mk _ _ ?_ ?_ rfl) (Ae (hQ _ _ (.inl rfl) ?_ ?_ ?_)) <;> simp only [go_sem, simprocAttr, vPE, Paid.enc]
  exact ⟨(⟨0, 0, 0, 0⟩, e1), rfl, fun e => absurd e (by simpa using hb4)⟩
 obtain rfl : e1 = 0 := by simpa using hb4
 obtain ⟨u1, u2, u3, u4⟩ := hU rfl
 dsimp only at u1 u2 u3 u4
 refine Af ?_
 refine Aa (Aa (Z 6 rfl ?_))
 simp only [go_sem, simprocAttr, hcl2, hk, hkk, tRf, EP, EN, By, EB, Ak]
 and_intros <;> try exact sdA
 refine Ad rfl (fun hb6 => ?_) fun hb6 => ?_
 ·refine Aa (Z 7 rfl ?_)
  simp only [go_sem, simprocAttr, tRf, EP, EN, By, EB, Ak]
  refine TC.le (s' := ⟨mkE [(4, .ptr 4 0), (5, .int .i64 27)], mkH [(4, .box 59 [.int .i64 0, .int .i64 0, .int .i64 0, .int .i64 0])]⟩) (Le.mk _ _ ?_ ?_ rfl) (Ae (hQ _ _ (.inl rfl) ?_ ?_ ?_)) <;> simp only [go_sem, simprocAttr, vPE, Paid.enc]
  exact ⟨(⟨0, 0, 0, 0⟩, 27), rfl, fun e => absurd e (by decide)⟩
 have hop : cs.any (opB true) = true := by simpa using hb6
 refine Af ?_
 refine Aa (Z 8 rfl ?_)
 simp only [go_sem, simprocAttr, hTk, <- hm, tRf, EP, EN, By, EB, Ak]
 and_intros <;> try exact sdA
 refine Aa (Aa (Z 9 rfl ?_))
 simp only [go_sem, simprocAttr, tRf, EP, EN, By, EB, Ak]
 refine Ad rfl (fun hb9 => ?_) fun hb9 => ?_
 ·refine Aa (Z 10 rfl ?_)
  simp only [go_sem, simprocAttr, tRf, EP, EN, By, EB, Ak]
  refine TC.le (s' := ⟨mkE [(4, .ptr 4 0), (5, .int .i64 e2)], mkH [(4, .box 59 [.int .i64 0, .int .i64 0, .int .i64 0, .int .i64 0])]⟩) (Le.mk _ _ ?_ ?_ rfl) (Ae (hQ _ _ (.inl rfl) ?_ ?_ ?_)) <;> simp only [go_sem, simprocAttr, vPE, Paid.enc]
  exact ⟨(⟨0, 0, 0, 0⟩, e2), rfl, fun e => absurd e (by simpa using hb9)⟩
 obtain rfl : e2 = 0 := by simpa using hb9
 obtain ⟨t1, t2, t3⟩ := hB rfl
 dsimp only at t1 t2 t3
 refine Af ?_
 refine Aa (Z 11 rfl ?_)
 simp only [go_sem, simprocAttr, <- hs, tRf, EP, EN, By, EB, Ak]
 and_intros <;> try exact sdA
 refine Aa (Aa (Z 12 rfl ?_))
 simp only [go_sem, simprocAttr, tRf, EP, EN, By, EB, Ak]
 refine Ad rfl (fun hb12 => ?_) fun hb12 => ?_
 ·refine Aa (Z 13 rfl ?_)
  simp only [go_sem, simprocAttr, tRf, EP, EN, By, EB, Ak]
  refine TC.le (s' := ⟨mkE [(4, .ptr 4 0), (5, .int .i64 e3)], mkH [(4, .box 59 [.int .i64 0, .int .i64 0, .int .i64 0, .int .i64 0])]⟩) (Le.mk _ _ ?_ ?_ rfl) (Ae (hQ _ _ (.inl rfl) ?_ ?_ ?_)) <;> simp only [go_sem, simprocAttr, vPE, Paid.enc]
  exact ⟨(⟨0, 0, 0, 0⟩, e3), rfl, fun e => absurd e (by simpa using hb12)⟩
 obtain rfl : e3 = 0 := by simpa using hb12
 obtain ⟨a1, a2⟩ := AdU (a := n) (b := m) (by rw [<- hs])
 rw [<- hs] at a1
 have a3 := Kn a2
 dsimp only at a1
 obtain ⟨g, hg⟩ : ∃ g, g = min fee s := ⟨_, rfl⟩
 have hgb : g <= fee /\ g <= s /\ (g = fee \/ g = s) := by omega
 refine Af ?_
 refine Aa (Z 14 rfl ?_)
 simp only [go_sem, simprocAttr, <- hg, tRf, EP, EN, By, EB, Ak]
 refine Aa (Z 15 rfl ?_)
 simp only [go_sem, simprocAttr, inI, tRf, EP, EN, By, EB, Ak]
 and_intros <;> try exact sdA
 refine TC.le (s' := ⟨mkE [(4, .ptr 4 0), (5, .int .i64 0)], mkH [(4, .box 59 [.int .i64 n, .int .i64 m, .int .i64 g, .int .i64 (s - g)])]⟩) (Le.mk _ _ ?_ ?_ rfl) (Ae (hQ _ _ (.inl rfl) ?_ ?_ ?_)) <;> simp only [go_sem, simprocAttr, vPE, Paid.enc]
 ·exact ⟨(⟨n, m, g, s - g⟩, 0), rfl, fun _ => by
 have q1 : opS ⟨nu, lo, ⟨la, fi, ty⟩, cs, fa, tx, to, d⟩ = n := u2.symm
 have q2 : txS ⟨nu, lo, ⟨la, fi, ty⟩, cs, fa, tx, to, d⟩ = m := t1.symm
 exact ⟨u1, hop, q1.symm, q2.symm, by rw [q1, q2]; dsimp only; rw [hg, a1], by rw [q1, q2]; dsimp only; rw [a1], by rw [q1]; exact ⟨u3, u4⟩, by rw [q2]; exact ⟨t2, t3⟩, by rw [q1, q2]; exact a3, hfb⟩⟩
def fRf : Ticket × Int -> Paid × Int := TU.choose
theorem AbN : ∀ x, RfP x -> QN x (fRf x) := TU.choose_spec.1
theorem AbO : PU 40 (gOf aRf fun x => (RfP x, vPE (fRf x))) := TU.choose_spec.2
theorem CE (nu : Int) (lo la fi ty : List UInt8) (cs : List Coupon) (fa : Int) (tx : List Charge) (to d f : Int) : gOf aRf (fun x => (RfP x, vPE (fRf x))) [.agg [.int .i64 nu, .str lo, .str la, .str fi, .str ty, .list (cs.map Coupon.enc) false, .int .i64 fa, .list (tx.map Charge.enc) false, .int .i64 to, .int .i64 d], .int .i64 f] = (RfP (⟨nu, lo, ⟨la, fi, ty⟩, cs, fa, tx, to, d⟩, f), .tup [.agg (fRf (⟨nu, lo, ⟨la, fi, ty⟩, cs, fa, tx, to, d⟩, f)).1.enc, .int .i64 (fRf (⟨nu, lo, ⟨la, fi, ty⟩, cs, fa, tx, to, d⟩, f)).2]) := Al (F := fun x => (RfP x, vPE (fRf x))) Oy (⟨nu, lo, ⟨la, fi, ty⟩, cs, fa, tx, to, d⟩, f)
end Go.Proofs.YtjkclhbckfkeeaaGreatDoor
end
