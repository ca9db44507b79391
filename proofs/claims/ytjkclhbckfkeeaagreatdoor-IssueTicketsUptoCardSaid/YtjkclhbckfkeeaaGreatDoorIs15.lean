import Derived.Test.YtjkclhbckfkeeaaGreatDoorGr1
import Derived.Test.YtjkclhbckfkeeaaGreatDoorIs12
set_option linter.unusedSimpArgs false
set_option linter.unusedVariables false
set_option linter.deprecated false
set_option maxHeartbeats 8000000
noncomputable section
namespace Go.Proofs.YtjkclhbckfkeeaaGreatDoor
open Go Go.RowKit
def mkC (F : List Fare) (W : List Want) (X : List Int) (x : Part) (j : Nat) : Coupon := ⟨W.getD (x.from'.toNat + j) Want.zero, (F.getD x.fare.toNat Fare.zero).basis, 1, X.getD (x.from'.toNat + j) 0⟩
def WL (F : List Fare) (W : List Want) (X : List Int) (x : Part) : List Coupon := (List.range (x.to' - x.from').toNat).map (mkC F W X x)
def EQ (F : List Fare) (W : List Want) (X : List Int) (ps : List Part) : List Coupon := ps.flatMap (WL F W X)
theorem GW (F W X x) : (WL F W X x).length = (x.to' - x.from').toNat := by unfold WL; simp
theorem Ok {F : List Fare} {W : List Want} {X : List Int} {x : Part} {j : Nat} (h : j < (x.to' - x.from').toNat) : (WL F W X x).take (j + 1) = (WL F W X x).take j ++ [mkC F W X x j] := by
 rw [AI (by rw [GW]; exact h)]
 simp [WL]
theorem HO {F : List Fare} {W : List Want} {X : List Int} {l : List Part} {i : Nat} (h : i < l.length) : EQ F W X (l.take (i + 1)) = EQ F W X (l.take i) ++ WL F W X l[i] := by
 unfold EQ; rw [AI h, List.flatMap_append]; simp
theorem SV (ds : List Coupon) (w : Want) (b : List UInt8) (v : Int) : ds.map Coupon.enc ++ [[.str w.seg.carrier, .int .i64 w.seg.number, .int .i64 w.seg.day, .str w.seg.from', .str w.seg.to', .int .i64 w.seg.dep, .int .i64 w.seg.arr, .str w.cls, .str b, .int .i64 1, .int .i64 v]] = (ds ++ [(⟨w, b, 1, v⟩ : Coupon)]).map Coupon.enc := by rw [List.map_append]; rfl
def OM (p : Places) (F : List Fare) (W : List Want) (q : Quote) (x : Person) (n : Int) (loc : List UInt8) (d : Int) : Ticket × Int :=
 if (decide ((W.length : Int) < 1) || decide (6 < (W.length : Int)) || !Da F.length W.length 0 q.parts || !Cs n) = true then (Ticket.zero, 2) else
  if MA d = false then (Ticket.zero, 12) else
   if (DP p W q).1 ≠ 0 then (Ticket.zero, (DP p W q).1) else (⟨n, loc, x, EQ F W (DP p W q).2 q.parts, q.fare, q.taxes, q.total, d⟩, 0)
def PP (x : Places × Tariff × List Want × Quote × Person × Int × List UInt8 × Int) : List V := [.agg x.1.enc, .agg x.2.1.enc, .list (x.2.2.1.map Want.enc) false, .agg x.2.2.2.1.enc, .agg x.2.2.2.2.1.enc, .int .i64 x.2.2.2.2.2.1, .str x.2.2.2.2.2.2.1, .int .i64 x.2.2.2.2.2.2.2]
theorem JN (a b : Places × Tariff × List Want × Quote × Person × Int × List UInt8 × Int) (h : PP a = PP b) : a = b := by
 obtain ⟨a_p, a_t, a_l, a_q, a_x, a_n, a_loc, a_d⟩ := a
 obtain ⟨b_p, b_t, b_l, b_q, b_x, b_n, b_loc, b_d⟩ := b
 simp only [PP, List.cons.injEq, V.str.injEq, V.int.injEq, V.bool.injEq, V.agg.injEq, V.list.injEq, and_true, true_and] at h
 obtain ⟨h0, h1, h2, h3, h4, h5, h6, h7⟩ := h
 replace h0 := Places.inj _ _ h0
 subst h0
 replace h1 := Tariff.inj _ _ h1
 subst h1
 replace h2 := Aw Want.inj h2
 subst h2
 replace h3 := Quote.inj _ _ h3
 subst h3
 replace h4 := Person.inj _ _ h4
 subst h4
 subst h5
 subst h6
 subst h7
 rfl
structure TkIn (p : Places) (t : Tariff) (W : List Want) (q : Quote) (n d : Int) : Prop where
 co : COk p W q
 ta : TarOk t
 n : inI n
 d : inI d
 x : q.taxes.length ≤ 1000000
def Pu (x : Places × Tariff × List Want × Quote × Person × Int × List UInt8 × Int) : Prop × V := (TkIn x.1 x.2.1 x.2.2.1 x.2.2.2.1 x.2.2.2.2.2.1 x.2.2.2.2.2.2.2, tkV (OM x.1 x.2.1.fares x.2.2.1 x.2.2.2.1 x.2.2.2.2.1 x.2.2.2.2.2.1 x.2.2.2.2.2.2.1 x.2.2.2.2.2.2.2))
theorem Bi (ps : List Airport) (ds : List Distance) (l : List Want) (a : List Part) (b : List Two) (c : List Charge) (f t : Int) : gOf aCo fCo [.agg [.list (ps.map Airport.enc) false, .list (ds.map Distance.enc) false], .list (l.map Want.enc) false, .agg [.list (a.map Part.enc) false, .list (b.map Two.enc) false, .list (c.map Charge.enc) false, .int .i64 f, .int .i64 t]] = (COk ⟨ps, ds⟩ l ⟨a, b, c, f, t⟩, Cr (DP ⟨ps, ds⟩ l ⟨a, b, c, f, t⟩)) := Ar MK (⟨ps, ds⟩, l, ⟨a, b, c, f, t⟩)
theorem Om {p : Places} {W : List Want} {q : Quote} {X : List Int} (h : DP p W q = (0, X)) : X.length = W.length := by
 unfold DP at h
 split at h
 ·rename_i hd
  have := (Ol (W := W.map (wgt p)) (by rw [List.length_map]; exact Int.le_refl _) hd (Int.le_refl 0) h).1
  omega
 ·cases h
theorem AcI {p F W q x n loc d} (h : (decide ((W.length : Int) < 1) || decide (6 < (W.length : Int)) || !Da F.length W.length 0 q.parts || !Cs n) = true) : OM p F W q x n loc d = (Ticket.zero, 2) := by unfold OM; rw [if_pos h]
theorem AcH {p F W q x n loc d} (h : (decide ((W.length : Int) < 1) || decide (6 < (W.length : Int)) || !Da F.length W.length 0 q.parts || !Cs n) = false) (h2 : MA d = false) : OM p F W q x n loc d = (Ticket.zero, 12) := by unfold OM; rw [if_neg (by rw [h]; decide), if_pos h2]
theorem AcG {p F W q x n loc d e X} (h : (decide ((W.length : Int) < 1) || decide (6 < (W.length : Int)) || !Da F.length W.length 0 q.parts || !Cs n) = false) (h2 : MA d = true) (hc : DP p W q = (e, X)) (he : e ≠ 0) : OM p F W q x n loc d = (Ticket.zero, e) := by unfold OM; rw [if_neg (by rw [h]; decide), if_neg (by rw [h2]; decide), hc, if_pos he]
theorem AcF {p F W q x n loc d X} (h : (decide ((W.length : Int) < 1) || decide (6 < (W.length : Int)) || !Da F.length W.length 0 q.parts || !Cs n) = false) (h2 : MA d = true) (hc : DP p W q = (0, X)) : OM p F W q x n loc d = (⟨n, loc, x, EQ F W X q.parts, q.fare, q.taxes, q.total, d⟩, 0) := by unfold OM; rw [if_neg (by rw [h]; decide), if_neg (by rw [h2]; decide), hc, if_neg (by simp)]
def Im : Tab
 | 33 => (gOf aCv fCv)
 | 34 => (gOf Eb Ww)
 | 35 => (gOf Eb fDy)
 | 36 => (gOf aCo fCo)
 | 37 => (gOf LB Aid)
 | _ => gNo
theorem Zo : ∀ f, PU f (Im f) := fun f => by
 unfold Im
 split
 ·exact WM
 ·exact Nr
 ·exact Afu
 ·exact SZ
 ·exact WO
 ·exact Ao.no
set_option maxRecDepth 20000 in
theorem UN : PU 8 (gOf PP Pu) := by
 have hG := Zo
 refine fi8.a JN (by simp [PP]) ?_
 rintro ⟨⟨ps, ds⟩, ⟨fs, rs, gs, xs⟩, W, ⟨pa, pr, tx, fa, to⟩, ⟨la, fi, ty⟩, n, loc, d⟩ hv C hN Q hQ
 have Z := fi8.R EF0 hG hN
 obtain ⟨h1, h2, h3, h4, h5⟩ : TkIn ⟨ps, ds⟩ ⟨fs, rs, gs, xs⟩ W ⟨pa, pr, tx, fa, to⟩ n d := hv
 obtain ⟨o1, o2, o3, o4, o5, o6, o7, o8⟩ := id h2
 obtain ⟨c1, c2, c3, c4⟩ := id h1
 dsimp only at o1 o2 o3 o4 o5 o6 o7 o8 c1 c2 c3 c4 h5
 have hcv : Ab4 (⟨fs, rs, gs, xs⟩, pa, (W.length : Int)) := ⟨o1, c3, by dsimp only; omega⟩
 refine Aa (Z 0 rfl ?_)
 simp only [go_sem, simprocAttr, PP, Places.enc, Tariff.enc, Quote.enc, Person.enc, Im, Bh, At, AZ, Bi, BT]
 refine Aa (Ad ?_)
 refine Aa (Z 1 rfl ?_)
 simp only [go_sem, simprocAttr, List.length_map, hcv, h3, Im, Bh, At, AZ, Bi, BT]
 and_intros <;> try exact sdA
 refine Ab rfl (fun hb1 => ?_) fun hb1 => ?_
 ·have hm := AcI (p := ⟨ps, ds⟩) (x := ⟨la, fi, ty⟩) (loc := loc) (d := d) (q := ⟨pa, pr, tx, fa, to⟩) hb1
  refine Aa (Z 2 rfl ?_)
  simp only [go_sem, simprocAttr, Im, Bh, At, AZ, Bi, BT]
  refine AW.le (s' := ⟨mkE [(16, .ptr 16 0), (17, .int .i64 2)], mkH [(16, .box 47 (Ay Ticket.zero))]⟩) (Le.mk _ _ ?_ ?_ rfl) (Ae (hQ _ _ (.inl rfl) ?_ ?_ ?_)) <;> simp only [go_sem, simprocAttr, Ay, Ticket.zero, Person.zero, Pu, tkV, hm]
 refine Aa (Z 3 rfl ?_)
 simp only [go_sem, simprocAttr, h4, Im, Bh, At, AZ, Bi, BT]
 and_intros <;> try exact sdA
 refine Ab rfl (fun hb3 => ?_) fun hb3 => ?_
 ·have hm := AcH (p := ⟨ps, ds⟩) (x := ⟨la, fi, ty⟩) (loc := loc) (q := ⟨pa, pr, tx, fa, to⟩) hb1 (by simpa using hb3)
  refine Aa (Z 4 rfl ?_)
  simp only [go_sem, simprocAttr, Im, Bh, At, AZ, Bi, BT]
  refine AW.le (s' := ⟨mkE [(16, .ptr 16 0), (17, .int .i64 12)], mkH [(16, .box 47 (Ay Ticket.zero))]⟩) (Le.mk _ _ ?_ ?_ rfl) (Ae (hQ _ _ (.inl rfl) ?_ ?_ ?_)) <;> simp only [go_sem, simprocAttr, Ay, Ticket.zero, Person.zero, Pu, tkV, hm]
 refine Ac ?_
 have hdy : MA d = true := by simpa using hb3
 obtain ⟨⟨e, X⟩, hcX⟩ : ∃ y, DP ⟨ps, ds⟩ W ⟨pa, pr, tx, fa, to⟩ = y := ⟨_, rfl⟩
 refine Aa (Z 5 rfl ?_)
 simp only [go_sem, simprocAttr, h1, hcX, Cr, Im, Bh, At, AZ, Bi, BT]
 and_intros <;> try exact sdA
 refine Aa (Aa (Z 6 rfl ?_))
 simp only [go_sem, simprocAttr, Im, Bh, At, AZ, Bi, BT]
 refine Ab rfl (fun hb6 => ?_) fun hb6 => ?_
 ·have hm := AcG (x := ⟨la, fi, ty⟩) (loc := loc) hb1 hdy hcX (by simpa using hb6)
  refine Aa (Z 7 rfl ?_)
  simp only [go_sem, simprocAttr, Im, Bh, At, AZ, Bi, BT]
  refine AW.le (s' := ⟨mkE [(16, .ptr 16 0), (17, .int .i64 e)], mkH [(16, .box 47 (Ay Ticket.zero))]⟩) (Le.mk _ _ ?_ ?_ rfl) (Ae (hQ _ _ (.inl rfl) ?_ ?_ ?_)) <;> simp only [go_sem, simprocAttr, Ay, Ticket.zero, Person.zero, Pu, tkV, hm]
 have he0 : e = 0 := by simpa using hb6
 subst he0
 have hm := AcF (x := ⟨la, fi, ty⟩) (loc := loc) hb1 hdy hcX
 have hXl := Om hcX
 obtain ⟨hcov, hW6⟩ : Da fs.length W.length 0 pa = true ∧ W.length ≤ 6 := by simp only [Bool.or_eq_false_iff, Bool.not_eq_false', decide_eq_false_iff_not] at hb1; exact ⟨hb1.1.2, by omega⟩
 refine Ac ?_
 refine Aa (As (EF := EF0) hG mixed (by rw [hN]; exact Agw) AhR ?_)
 simp only [Ail, Ajq, go_sem, simprocAttr, h5, Im, Bh, At, AZ, Bi, BT]
 and_intros <;> try exact sdA
 refine Aa (Aa (Z 9 rfl ?_))
 simp only [go_sem, simprocAttr, List.length_map, Im, Bh, At, AZ, Bi, BT]
 refine Ad ?_
 refine Aj (α := Nat × (List Coupon)) (fun γ => (γ.1 ≤ pa.length) ∧ (Da fs.length W.length γ.2.length (pa.drop γ.1) = true) ∧ (γ.2 = EQ fs W X (pa.take γ.1)) ∧ (γ.2.length ≤ W.length)) (fun γ => ⟨mkE [(2, V.list (List.map Want.enc W) false), (9, V.ptr 9 0), (16, V.ptr 16 0), (18, V.list (AY X) false), (20, V.ptr 20 0), (77, V.list (List.map Part.enc pa) false), (78, V.int IntKind.i64 ↑pa.length), (79, .int .i64 γ.1)], mkH [(9, Ob.box 31 [V.list (List.map Fare.enc fs) false, V.list (List.map Rule.enc rs) false, V.list (List.map Routing.enc gs) false, V.list (List.map Tax.enc xs) false]), (16, Ob.box 47 [V.int IntKind.i64 0, V.str [], V.str [], V.str [], V.str [], V.nils, V.int IntKind.i64 0, V.nils, V.int IntKind.i64 0, V.int IntKind.i64 0]), (20, .box 47 [.int .i64 n, .str loc, .str la, .str fi, .str ty, .own 999 γ.2.length, .int .i64 fa, .list (tx.map Charge.enc) false, .int .i64 to, .int .i64 d]), (999, .arr 57 11 (γ.2.map Coupon.enc))]⟩) (fun γ => pa.length - γ.1) (0, []) ⟨Nat.zero_le _, hcov, rfl, Nat.zero_le _⟩ ?_ ?_
 ·exact leM
 rintro ⟨i, cs⟩ ⟨hi, hd, hcs, hcl⟩ KL1 hKL1
 try dsimp only at *
 refine Aa (Z 10 rfl ?_)
 simp only [go_sem, simprocAttr, Im, Bh, At, AZ, Bi, BT]
 refine Aa ?_
 refine Ab rfl (fun hc10 => ?_) fun hc10 => ?_
 ·simp only [hcL] at hc10
  refine Ac ?_
  refine Aa (Ad ?_)
  have hdd := List.drop_eq_getElem_cons hc10
  rw [hdd, Da] at hd
  have hst := HO (F := fs) (W := W) (X := X) hc10
  obtain ⟨⟨xf, xt, xr, xa⟩, hx⟩ : ∃ x, x = pa[i] := ⟨_, rfl⟩
  rw [← hx] at hd hst
  obtain ⟨hdx, hd2⟩ : ¬(xf ≠ cs.length ∨ xt ≤ cs.length ∨ (W.length : Int) < xt ∨ xr < 0 ∨ (fs.length : Int) ≤ xr) ∧ Da fs.length W.length xt (pa.drop (i + 1)) = true := by split at hd; cases hd; exact ⟨‹_›, hd⟩
  obtain ⟨rfl, q2, q3, q4, q5⟩ : xf = cs.length ∧ (cs.length : Int) < xt ∧ xt ≤ W.length ∧ 0 ≤ xr ∧ xr < fs.length := by omega
  refine Aa (Z 11 rfl ?_)
  simp only [go_sem, simprocAttr, Af _ _ _ _ hc10, hc10, ← hx, Part.enc, Im, Bh, At, AZ, Bi, BT]
  and_intros <;> try exact sdA
  refine Aa (Z 12 rfl ?_)
  simp only [go_sem, simprocAttr, Im, Bh, At, AZ, Bi, BT]
  refine Ad ?_
  refine Aj (α := Nat × (List Coupon)) (fun γ => (γ.1 ≤ (xt - cs.length).toNat) ∧ (γ.2 = cs ++ (WL fs W X ⟨cs.length, xt, xr, xa⟩).take γ.1) ∧ (γ.2.length = cs.length + γ.1)) (fun γ => ⟨mkE [(2, V.list (List.map Want.enc W) false), (9, V.ptr 9 0), (16, V.ptr 16 0), (18, V.list (AY X) false), (20, V.ptr 20 0), (22, V.ptr 22 0), (23, .int .i64 γ.2.length), (77, V.list (List.map Part.enc pa) false), (78, V.int IntKind.i64 ↑pa.length), (79, V.int IntKind.i64 ↑i)], mkH [(9, Ob.box 31 [V.list (List.map Fare.enc fs) false, V.list (List.map Rule.enc rs) false, V.list (List.map Routing.enc gs) false, V.list (List.map Tax.enc xs) false]), (16, Ob.box 47 [V.int IntKind.i64 0, V.str [], V.str [], V.str [], V.str [], V.nils, V.int IntKind.i64 0, V.nils, V.int IntKind.i64 0, V.int IntKind.i64 0]), (20, .box 47 [.int .i64 n, .str loc, .str la, .str fi, .str ty, .own 999 γ.2.length, .int .i64 fa, .list (tx.map Charge.enc) false, .int .i64 to, .int .i64 d]), (22, Ob.box 94 [V.int IntKind.i64 ↑cs.length, V.int IntKind.i64 xt, V.int IntKind.i64 xr, V.int IntKind.i64 xa]), (999, .arr 57 11 (γ.2.map Coupon.enc))]⟩) (fun γ => (xt - cs.length).toNat - γ.1) (0, cs) ⟨Nat.zero_le _, by rw [List.take_zero, List.append_nil], rfl⟩ ?_ ?_
  ·exact leM
  rintro ⟨j, es⟩ ⟨hj, hes, hel⟩ KL3 hKL3
  try dsimp only at *
  refine Aa (Aa (Z 13 rfl ?_))
  simp only [go_sem, simprocAttr, Im, Bh, At, AZ, Bi, BT]
  refine Ab rfl (fun hc13 => ?_) fun hc13 => ?_
  ·simp only [hcL] at hc13
   refine Ac ?_
   refine Aa (Ad ?_)
   have hW : es.length < W.length := by omega
   have hX : es.length < X.length := by omega
   have hF : xr.toNat < fs.length := by omega
   obtain ⟨w, hw⟩ : ∃ w, w = W[es.length] := ⟨_, rfl⟩
   obtain ⟨f, hf⟩ : ∃ f, f = fs[xr.toNat] := ⟨_, rfl⟩
   obtain ⟨v, hvv⟩ : ∃ v, v = X[es.length] := ⟨_, rfl⟩
   have hjj : j < (xt - (cs.length : Int)).toNat := by omega
   have hmk : mkC fs W X ⟨cs.length, xt, xr, xa⟩ j = ⟨w, f.basis, 1, v⟩ := by unfold mkC; dsimp only; rw [show (cs.length : Int).toNat + j = es.length by omega, BX _ _ _ hW, BX _ _ _ hF, BX _ _ _ hX, ← hw, ← hf, ← hvv]
   refine As (EF := EF0) hG mixed (by rw [hN]; exact Acr) AdE ?_
   simp only [Abw, Afw, go_sem, simprocAttr, Af _ _ _ _ hW, Af _ _ _ _ hF, AV _ _ _ hX, ← hw, ← hf, ← hvv, Want.enc, Fare.enc, hW, hX, q4, q5, List.length_map, Bp, Im, Bh, At, AZ, Bi, BT]
   and_intros <;> try exact sdA
   refine Z 14 rfl ?_
   simp only [go_sem, simprocAttr, inI, Im, Bh, At, AZ, Bi, BT]
   and_intros <;> try exact sdA
   refine hKL3 (j + 1, es ++ [⟨w, f.basis, 1, v⟩]) _ ?_ ?_ ?_
   ·(try dsimp only); exact ⟨hjj, by rw [Ok hjj, hmk, hes, List.append_assoc], by rw [List.length_append, hel]; rfl⟩
   ·(try dsimp only); omega
   refine Le.mk _ _ ?_ ?_ rfl <;> simp only [go_sem, simprocAttr, SV, List.length_append, List.length_cons, List.length_nil] <;> and_intros <;> try exact leA
  simp only [hcL] at hc13
  refine Ai ?_
  simp only [go_sem, simprocAttr]
  refine Z 16 rfl ?_
  simp only [go_sem, simprocAttr, inI, Im, Bh, At, AZ, Bi, BT]
  and_intros <;> try exact sdA
  refine hKL1 (i + 1, es) _ ?_ ?_ ?_
  ·(try dsimp only); refine ⟨hc10, ?_, ?_, by omega⟩; (rw [show (es.length : Int) = xt by omega]; exact hd2); (rw [hst, hes, ← hcs, List.take_of_length_le (by rw [GW]; dsimp only; omega)])
  ·(try dsimp only); omega
  exact leM
 simp only [hcL] at hc10
 rw [List.take_of_length_le hc10] at hcs
 refine Ai ?_
 simp only [go_sem, simprocAttr]
 refine Aa (Z 17 rfl ?_)
 simp only [go_sem, simprocAttr, Im, Bh, At, AZ, Bi, BT]
 refine AW.le (s' := ⟨mkE [(16, .ptr 16 0), (17, .int .i64 0)], mkH [(16, .box 47 (Ay ⟨n, loc, ⟨la, fi, ty⟩, cs, fa, tx, to, d⟩))]⟩) (Le.mk _ _ ?_ ?_ rfl) (Ae (hQ _ _ (.inl rfl) ?_ ?_ ?_)) <;> simp only [go_sem, simprocAttr, Ay, Pu, tkV, hm, ← hcs]
 exact LD rfl (by rw [List.length_map]) rfl ((Coupon.purs _).2 trivial) rfl
def Xc (x : Places × Tariff × Fare) : List V := [.agg x.1.enc, .agg x.2.1.enc, .agg x.2.2.enc]
theorem OD (a b : Places × Tariff × Fare) (h : Xc a = Xc b) : a = b := by
 obtain ⟨a_p, a_t, a_f⟩ := a
 obtain ⟨b_p, b_t, b_f⟩ := b
 simp only [Xc, List.cons.injEq, V.str.injEq, V.int.injEq, V.bool.injEq, V.agg.injEq, V.list.injEq, and_true, true_and] at h
 obtain ⟨h0, h1, h2⟩ := h
 replace h0 := Places.inj _ _ h0
 subst h0
 replace h1 := Tariff.inj _ _ h1
 subst h1
 replace h2 := Fare.inj _ _ h2
 subst h2
 rfl
def vL (l : List Int) : V := .list (AY l) false
def IL (f : Fare) : Prop := 0 ≤ f.amount ∧ f.amount ≤ 1099511627776
def RFa (x : Places × Tariff × Fare) (l : List Int) : Prop := l.length ≤ 6 ∧ (l = [] → IL x.2.2)
theorem NF {g : List Int} {b : Bool} {e : Int} (h : g ++ iIf b e = []) : g = [] ∧ b = false := by
 obtain ⟨h1, h2⟩ := List.append_eq_nil_iff.1 h
 refine ⟨h1, ?_⟩
 cases b with
 | false => rfl
 | true => simp [iIf] at h2
def tFa : Tab
 | 123 => (gOf Ey Afp)
 | 23 => BS
 | 19 => GC
 | 124 => (gOf Xd fun x => (LnP x.1, vBB (Aa4 x)))
 | 95 => (gOf aTN fun x => (TarOk x.1, vRB (fRl x)))
 | 98 => (gOf aTN fun x => (TarOk x.1, vGB (Mm x)))
 | _ => gNo
theorem AcX : ∀ f, PU f (tFa f) := fun f => by
 unfold tFa
 split
 ·exact Is
 ·exact Hm
 ·exact VH
 ·exact AaS
 ·exact Akm
 ·exact Ajw
 ·exact Ao.no
theorem Ss : ∃ F : Places × Tariff × Fare → List Int, (∀ x, LnP x.1 ∧ TarOk x.2.1 ∧ x.2.2.ok → RFa x (F x)) ∧ PU 67 (gOf Xc fun x => (LnP x.1 ∧ TarOk x.2.1 ∧ x.2.2.ok, vL (F x))) := by
 have hG := AcX
 refine AiU.p (val := vL) (R := RFa) OD (by simp [Xc]) ?_
 rintro ⟨⟨ps, ds⟩, ⟨fs, rs, gs, xs⟩, ⟨ca, fr, to, ba, cl, rd, am, ru, rg⟩⟩ hv Q hQ
 have Z := AiU.T EF0 hG
 obtain ⟨h1, h2, h3⟩ : LnP ⟨ps, ds⟩ ∧ TarOk ⟨fs, rs, gs, xs⟩ ∧ (Fare.mk ca fr to ba cl rd am ru rg).ok := hv
 simp only [Fare.ok] at h3
 obtain ⟨o1, o2, o3, o4, o5, -, o6, o7, o8⟩ := h3
 obtain ⟨k1, hk1⟩ : ∃ b, b = Aa4 (⟨ps, ds⟩, fr) := ⟨_, rfl⟩
 obtain ⟨k2, hk2⟩ : ∃ b, b = Aa4 (⟨ps, ds⟩, to) := ⟨_, rfl⟩
 obtain ⟨⟨⟨a1, ⟨k, l, a, b, ⟨x, y, z⟩, t⟩, a3, a4, a5, a6, a7, a8⟩, bR⟩, hR⟩ : ∃ y, y = fRl (⟨fs, rs, gs, xs⟩, ru) := ⟨_, rfl⟩
 obtain ⟨⟨⟨g1, g2, g3⟩, bG⟩, hT⟩ : ∃ y, y = Mm (⟨fs, rs, gs, xs⟩, rg) := ⟨_, rfl⟩
 refine Ag (Z 0 rfl ?_)
 simp only [go_sem, simprocAttr, Xc, Places.enc, Tariff.enc, Fare.enc, tFa, Bt, Ap, By, EG, EB]
 refine Ag (Z 1 rfl ?_)
 simp only [go_sem, simprocAttr, tFa, Bt, Ap, By, EG, EB]
 refine TC.le (s' := ⟨mkE [(3, .ptr 3 0), (4, .ptr 4 0), (5, .ptr 5 0), (7, .own 999 0)], mkH ([(3, .box 25 [.list (ps.map Airport.enc) false, .list (ds.map Distance.enc) false]), (4, .box 31 [.list (fs.map Fare.enc) false, .list (rs.map Rule.enc) false, .list (gs.map Routing.enc) false, .list (xs.map Tax.enc) false]), (5, .box 96 [.str ca, .str fr, .str to, .str ba, .str cl, .bool rd, .int .i64 am, .int .i64 ru, .int .i64 rg]), (999, .arr 48 1 (AY []))])⟩) (Le.mk _ _ (by (simp only [go_sem, simprocAttr]) <;> and_intros <;> try exact leB) (by (simp only [go_sem, simprocAttr]) <;> and_intros <;> try exact leB) rfl) ?_
 refine CW (α := (List Int)) (fun l1 => (l1 = ([] : List Int) ++ iIf (!Abo ca || !Dt ba 1 8) (5)) ∧ (l1.length ≤ ([] : List Int).length + 1)) (fun l1 => ⟨mkE [(3, V.ptr 3 0), (4, V.ptr 4 0), (5, V.ptr 5 0), (7, .own 999 l1.length)], mkH [(3, Ob.box 25 [V.list (List.map Airport.enc ps) false, V.list (List.map Distance.enc ds) false]), (4, Ob.box 31 [V.list (List.map Fare.enc fs) false, V.list (List.map Rule.enc rs) false, V.list (List.map Routing.enc gs) false, V.list (List.map Tax.enc xs) false]), (5, Ob.box 96 [V.str ca, V.str fr, V.str to, V.str ba, V.str cl, V.bool rd, V.int IntKind.i64 am, V.int IntKind.i64 ru, V.int IntKind.i64 rg]), (999, .arr 48 1 (AY l1))]⟩) ?_ ?_
 ·intro KC2 hKC2
  refine Ag (Z 2 rfl ?_)
  simp only [go_sem, simprocAttr, o1, o4, tFa, Bt, Ap, By, EG, EB]
  and_intros <;> try exact sdA
  refine AH rfl (fun hb2 => ?_) fun hb2 => ?_
  ·refine Z 3 rfl ?_
   simp only [go_sem, simprocAttr, tFa, Bt, Ap, By, EG, EB]
   and_intros <;> try exact sdA
   refine hKC2 (([] : List Int) ++ [5]) _ ?_ ?_
   ·(try dsimp only); exact ⟨by rw [Gi (show (!Abo ca || !Dt ba 1 8) = true from hb2)], by simp⟩
   refine Le.mk _ _ ?_ ?_ rfl <;> simp only [go_sem, simprocAttr, Bm, List.length_append, List.length_cons, List.length_nil] <;> and_intros <;> try exact leA
  refine AG ?_
  refine hKC2 (([] : List Int)) _ ?_ ?_
  ·(try dsimp only); exact ⟨by rw [Gj (show (!Abo ca || !Dt ba 1 8) = false from hb2), List.append_nil], by omega⟩
  exact leM
 rintro l1 ⟨hl1, ll1⟩
 replace ll1 : l1.length ≤ 1 := ll1
 refine CW (α := (List Int)) (fun l2 => (l2 = l1 ++ iIf (!k1 || !k2) (14)) ∧ (l2.length ≤ l1.length + 1)) (fun l2 => ⟨mkE [(4, V.ptr 4 0), (5, V.ptr 5 0), (7, .own 999 l2.length)], mkH [(4, Ob.box 31 [V.list (List.map Fare.enc fs) false, V.list (List.map Rule.enc rs) false, V.list (List.map Routing.enc gs) false, V.list (List.map Tax.enc xs) false]), (5, Ob.box 96 [V.str ca, V.str fr, V.str to, V.str ba, V.str cl, V.bool rd, V.int IntKind.i64 am, V.int IntKind.i64 ru, V.int IntKind.i64 rg]), (999, .arr 48 1 (AY l2))]⟩) ?_ ?_
 ·intro KC4 hKC4
  refine Ag (Z 4 rfl ?_)
  simp only [go_sem, simprocAttr, h1, ← hk1, ← hk2, tFa, Bt, Ap, By, EG, EB]
  and_intros <;> try exact sdA
  refine AH rfl (fun hb4 => ?_) fun hb4 => ?_
  ·refine Z 5 rfl ?_
   simp only [go_sem, simprocAttr, tFa, Bt, Ap, By, EG, EB]
   and_intros <;> try exact sdA
   refine hKC4 (l1 ++ [14]) _ ?_ ?_
   ·(try dsimp only); exact ⟨by rw [Gi (show (!k1 || !k2) = true from hb4)], by simp⟩
   refine Le.mk _ _ ?_ ?_ rfl <;> simp only [go_sem, simprocAttr, Bm, List.length_append, List.length_cons, List.length_nil] <;> and_intros <;> try exact leA
  refine AG ?_
  refine hKC4 (l1) _ ?_ ?_
  ·(try dsimp only); exact ⟨by rw [Gj (show (!k1 || !k2) = false from hb4), List.append_nil], by omega⟩
  exact leM
 rintro l2 ⟨hl2, ll2⟩
 refine CW (α := (List Int)) (fun l3 => (l3 = l2 ++ iIf (decide (fr = to) || decide (am < 0) || decide (1099511627776 < am)) (2)) ∧ (l3.length ≤ l2.length + 1)) (fun l3 => ⟨mkE [(4, V.ptr 4 0), (5, V.ptr 5 0), (7, .own 999 l3.length)], mkH [(4, Ob.box 31 [V.list (List.map Fare.enc fs) false, V.list (List.map Rule.enc rs) false, V.list (List.map Routing.enc gs) false, V.list (List.map Tax.enc xs) false]), (5, Ob.box 96 [V.str ca, V.str fr, V.str to, V.str ba, V.str cl, V.bool rd, V.int IntKind.i64 am, V.int IntKind.i64 ru, V.int IntKind.i64 rg]), (999, .arr 48 1 (AY l3))]⟩) ?_ ?_
 ·intro KC6 hKC6
  refine Ag (Z 6 rfl ?_)
  simp only [go_sem, simprocAttr, tFa, Bt, Ap, By, EG, EB]
  and_intros <;> try exact sdA
  refine AH rfl (fun hb6 => ?_) fun hb6 => ?_
  ·refine Z 7 rfl ?_
   simp only [go_sem, simprocAttr, tFa, Bt, Ap, By, EG, EB]
   and_intros <;> try exact sdA
   refine hKC6 (l2 ++ [2]) _ ?_ ?_
   ·(try dsimp only); exact ⟨by rw [Gi (show (decide (fr = to) || decide (am < 0) || decide (1099511627776 < am)) = true from hb6)], by simp⟩
   refine Le.mk _ _ ?_ ?_ rfl <;> simp only [go_sem, simprocAttr, Bm, List.length_append, List.length_cons, List.length_nil] <;> and_intros <;> try exact leA
  refine AG ?_
  refine hKC6 (l2) _ ?_ ?_
  ·(try dsimp only); exact ⟨by rw [Gj (show (decide (fr = to) || decide (am < 0) || decide (1099511627776 < am)) = false from hb6), List.append_nil], by omega⟩
  exact leM
 rintro l3 ⟨hl3, ll3⟩
 refine CW (α := (List Int)) (fun l4 => (l4 = l3 ++ iIf (!DY cl) (16)) ∧ (l4.length ≤ l3.length + 1)) (fun l4 => ⟨mkE [(4, V.ptr 4 0), (5, V.ptr 5 0), (7, .own 999 l4.length)], mkH [(4, Ob.box 31 [V.list (List.map Fare.enc fs) false, V.list (List.map Rule.enc rs) false, V.list (List.map Routing.enc gs) false, V.list (List.map Tax.enc xs) false]), (5, Ob.box 96 [V.str ca, V.str fr, V.str to, V.str ba, V.str cl, V.bool rd, V.int IntKind.i64 am, V.int IntKind.i64 ru, V.int IntKind.i64 rg]), (999, .arr 48 1 (AY l4))]⟩) ?_ ?_
 ·intro KC8 hKC8
  refine Ag (Z 8 rfl ?_)
  simp only [go_sem, simprocAttr, GC, o5, tFa, Bt, Ap, By, EG, EB]
  and_intros <;> try exact sdA
  refine AH rfl (fun hb8 => ?_) fun hb8 => ?_
  ·refine Z 9 rfl ?_
   simp only [go_sem, simprocAttr, tFa, Bt, Ap, By, EG, EB]
   and_intros <;> try exact sdA
   refine hKC8 (l3 ++ [16]) _ ?_ ?_
   ·(try dsimp only); exact ⟨by rw [Gi (show (!DY cl) = true from hb8)], by simp⟩
   refine Le.mk _ _ ?_ ?_ rfl <;> simp only [go_sem, simprocAttr, Bm, List.length_append, List.length_cons, List.length_nil] <;> and_intros <;> try exact leA
  refine AG ?_
  refine hKC8 (l3) _ ?_ ?_
  ·(try dsimp only); exact ⟨by rw [Gj (show (!DY cl) = false from hb8), List.append_nil], by omega⟩
  exact leM
 rintro l4 ⟨hl4, ll4⟩
 refine Ag (Z 10 rfl ?_)
 simp only [go_sem, simprocAttr, h2, ← hR, Rule.enc_at, tFa, Bt, Ap, By, EG, EB]
 and_intros <;> try exact sdA
 refine CW (α := (List Int)) (fun l5 => (l5 = l4 ++ iIf (!bR) (20)) ∧ (l5.length ≤ l4.length + 1)) (fun l5 => ⟨mkE [(4, V.ptr 4 0), (5, V.ptr 5 0), (7, .own 999 l5.length)], mkH [(4, Ob.box 31 [V.list (List.map Fare.enc fs) false, V.list (List.map Rule.enc rs) false, V.list (List.map Routing.enc gs) false, V.list (List.map Tax.enc xs) false]), (5, Ob.box 96 [V.str ca, V.str fr, V.str to, V.str ba, V.str cl, V.bool rd, V.int IntKind.i64 am, V.int IntKind.i64 ru, V.int IntKind.i64 rg]), (999, .arr 48 1 (AY l5))]⟩) ?_ ?_
 ·intro KC11 hKC11
  refine Ag (Z 11 rfl ?_)
  simp only [go_sem, simprocAttr, tFa, Bt, Ap, By, EG, EB]
  refine AH rfl (fun hb11 => ?_) fun hb11 => ?_
  ·refine Z 12 rfl ?_
   simp only [go_sem, simprocAttr, tFa, Bt, Ap, By, EG, EB]
   and_intros <;> try exact sdA
   refine hKC11 (l4 ++ [20]) _ ?_ ?_
   ·(try dsimp only); exact ⟨by rw [Gi (show (!bR) = true from hb11)], by simp⟩
   refine Le.mk _ _ ?_ ?_ rfl <;> simp only [go_sem, simprocAttr, Bm, List.length_append, List.length_cons, List.length_nil] <;> and_intros <;> try exact leA
  refine AG ?_
  refine hKC11 (l4) _ ?_ ?_
  ·(try dsimp only); exact ⟨by rw [Gj (show (!bR) = false from hb11), List.append_nil], by omega⟩
  exact leM
 rintro l5 ⟨hl5, ll5⟩
 refine Ag (Z 13 rfl ?_)
 simp only [go_sem, simprocAttr, h2, ← hT, Routing.enc, tFa, Bt, Ap, By, EG, EB]
 and_intros <;> try exact sdA
 refine CW (α := (List Int)) (fun l6 => (l6 = l5 ++ iIf (and (!decide (rg = 0)) (!bG)) (21)) ∧ (l6.length ≤ l5.length + 1)) (fun l6 => ⟨mkE [(7, .own 999 l6.length)], mkH [(999, .arr 48 1 (AY l6))]⟩) ?_ ?_
 ·intro KC14 hKC14
  refine Ag (Z 14 rfl ?_)
  simp only [go_sem, simprocAttr, tFa, Bt, Ap, By, EG, EB]
  and_intros <;> try exact sdA
  refine AH rfl (fun hb14 => ?_) fun hb14 => ?_
  ·refine Z 15 rfl ?_
   simp only [go_sem, simprocAttr, tFa, Bt, Ap, By, EG, EB]
   and_intros <;> try exact sdA
   refine hKC14 (l5 ++ [21]) _ ?_ ?_
   ·(try dsimp only); exact ⟨by rw [Gi (show (and (!decide (rg = 0)) (!bG)) = true from hb14)], by simp⟩
   refine Le.mk _ _ ?_ ?_ rfl <;> simp only [go_sem, simprocAttr, Bm, List.length_append, List.length_cons, List.length_nil] <;> and_intros <;> try exact leA
  refine AG ?_
  refine hKC14 (l5) _ ?_ ?_
  ·(try dsimp only); exact ⟨by rw [Gj (show (and (!decide (rg = 0)) (!bG)) = false from hb14), List.append_nil], by omega⟩
  exact leM
 rintro l6 ⟨hl6, ll6⟩
 refine Ag (Z 16 rfl ?_)
 simp only [go_sem, simprocAttr, tFa, Bt, Ap, By, EG, EB]
 refine TC.le (s' := ⟨mkE [(6, .list (AY l6) false)], mkH []⟩) (Le.mk _ _ ?_ ?_ rfl) (DR (hQ _ _ (.inl rfl) ?_ ?_ ?_)) <;> simp only [go_sem, simprocAttr, vL]
 ·exact Cq rfl (by rw [Bp]) rfl (CV _)
 refine ⟨l6, rfl, ?_, fun e => ?_⟩
 ·show l6.length ≤ 6; omega
 rw [hl6] at e; have e5 := (NF e).1; rw [hl5] at e5; have e4 := (NF e5).1; rw [hl4] at e4; have e3 := (NF e4).1; rw [hl3] at e3; have hb := (NF e3).2
 simp only [Bool.or_eq_false_iff, decide_eq_false_iff_not] at hb
 exact ⟨show 0 ≤ am by omega, show am ≤ 1099511627776 by omega⟩
def fFa : Places × Tariff × Fare → List Int := Ss.choose
theorem Aky : ∀ x : Places × Tariff × Fare, LnP x.1 ∧ TarOk x.2.1 ∧ x.2.2.ok → RFa x (fFa x) := Ss.choose_spec.1
theorem Akx : PU 67 (gOf Xc fun x => (LnP x.1 ∧ TarOk x.2.1 ∧ x.2.2.ok, vL (fFa x))) := Ss.choose_spec.2
theorem Aic (ps : List Airport) (ds : List Distance) (a : List Fare) (b : List Rule) (c : List Routing) (d : List Tax) (ca fr to ba cl : List UInt8) (rd : Bool) (am ru rg : Int) : gOf Xc (fun x => (LnP x.1 ∧ TarOk x.2.1 ∧ x.2.2.ok, vL (fFa x))) [.agg [.list (ps.map Airport.enc) false, .list (ds.map Distance.enc) false], .agg [.list (a.map Fare.enc) false, .list (b.map Rule.enc) false, .list (c.map Routing.enc) false, .list (d.map Tax.enc) false], .agg [.str ca, .str fr, .str to, .str ba, .str cl, .bool rd, .int .i64 am, .int .i64 ru, .int .i64 rg]] = (LnP ⟨ps, ds⟩ ∧ TarOk ⟨a, b, c, d⟩ ∧ (Fare.mk ca fr to ba cl rd am ru rg).ok, .list (AY (fFa (⟨ps, ds⟩, ⟨a, b, c, d⟩, ⟨ca, fr, to, ba, cl, rd, am, ru, rg⟩))) false) := Ar (F := fun x => (LnP x.1 ∧ TarOk x.2.1 ∧ x.2.2.ok, vL (fFa x))) OD (⟨ps, ds⟩, ⟨a, b, c, d⟩, ⟨ca, fr, to, ba, cl, rd, am, ru, rg⟩)
def inn (a : List UInt8) (l : List Fault) : List Fault := l.map fun f => ⟨f.err, a ++ 32 :: f.pos⟩
theorem Si (a : List UInt8) (l : List Fault) : (inn a l).length = l.length := List.length_map _
def rwF (n : Nat) (g : List Fault) : List (Nat × Ob) := [(n, .arr 126 2 (An g))]
theorem AaX (g l : List Fault) (a : List UInt8) (hg : g.length + l.length ≤ 5500000000000) (ha : a.length ≤ 1000) (hs : FSm l) : Eff Tryz.prog UT 69 [.own 1000 g.length, .str a, .list (An l) false] (rwF 1000 g) (.own 1000 (g ++ inn a l).length) (rwF 1000 (g ++ inn a l)) := by
 have hG := AC
 unfold rwF
 refine AiS.e (by simp) fun C hN Q hQ => ?_
 have Z := AiS.R EF0 hG hN
 refine Aa (Z 0 rfl ?_)
 simp only [go_sem, simprocAttr]
 refine Aa (Aa (Z 1 rfl ?_))
 simp only [go_sem, simprocAttr]
 refine Ad ?_
 refine Aj (α := Nat × (List Fault)) (fun γ => (γ.1 ≤ l.length) ∧ (γ.2 = g ++ inn a (l.take γ.1)) ∧ (γ.2.length = g.length + γ.1)) (fun γ => ⟨mkE [(0, .own 1000 γ.2.length), (1, V.str a), (2, V.list (An l) false), (7, .int .i64 γ.1)], mkH [(1000, .arr 126 2 (An γ.2))]⟩) (fun γ => l.length - γ.1) (0, g) ⟨Nat.zero_le _, by rw [List.take_zero]; exact (List.append_nil _).symm, rfl⟩ ?_ ?_
 ·exact leM
 rintro ⟨i, h⟩ ⟨hi, hh, hl⟩ KL0 hKL0
 try dsimp only at *
 refine Aa (Aa (Z 2 rfl ?_))
 simp only [go_sem, simprocAttr, Bk]
 refine Ab rfl (fun hc2 => ?_) fun hc2 => ?_
 ·simp only [hcL] at hc2
  refine Ac ?_
  refine Aa (Ad ?_)
  have hp := hs _ (List.getElem_mem hc2)
  refine As (EF := EF0) hG mixed (by rw [hN]; exact Acv) AdH ?_
  simp only [Abz, Afz, go_sem, simprocAttr, inI, Sr hc2, hc2, Bk]
  and_intros <;> (try first | exact sdA | (simp only [List.length_append, List.length_cons, List.length_nil]; omega))
  refine Z 3 rfl ?_
  simp only [go_sem, simprocAttr, inI]
  and_intros <;> try exact sdA
  refine hKL0 (i + 1, h ++ [⟨l[i].err, a ++ 32 :: l[i].pos⟩]) _ ?_ ?_ ?_
  ·(try dsimp only); exact ⟨hc2, by rw [hh, AI hc2, inn, inn, List.map_append, List.append_assoc]; rfl, by rw [List.length_append, hl]; rfl⟩
  ·(try dsimp only); omega
  refine Le.mk _ _ ?_ ?_ rfl <;> simp only [go_sem, simprocAttr, List.length_append, List.length_cons, List.length_nil, List.append_assoc, List.cons_append, List.nil_append] <;> and_intros <;> try exact leA
 simp only [hcL] at hc2
 obtain rfl : h = g ++ inn a l := by rw [hh, List.take_of_length_le (by omega)]
 refine Ai ?_
 simp only [go_sem, simprocAttr]
 refine Aa (Z 5 rfl ?_)
 simp only [go_sem, simprocAttr]
 refine Ae ?_
 show Q _ _
 refine hQ _ _ ⟨mkE [(6, .own 1000 (g ++ inn a l).length)], mkH ([(1000, .arr 126 2 (An (g ++ inn a l)))])⟩ (.inl rfl) (Le.mk _ _ ?_ ?_ rfl) rfl ?_ ?_ <;> simp only [go_sem, simprocAttr]
theorem KQ {d : Option Nat} {s : St} {K : St → Prop} {na : Nat} {g l : List Fault} {a : List UInt8} (hg : g.length + l.length ≤ 5500000000000) (ha : a.length ≤ 1000) (hs : FSm l) (hn : s.h na = some (.arr 126 2 (An g)))
  (hK : K ⟨Ew d (.own na (g ++ inn a l).length) s.e, hov (rwF na (g ++ inn a l)) s.h⟩) : CQ Tryz.prog UT d 69 [.own na g.length, .str a, .list (An l) false] s K := by
 refine ⟨[(1000, na)], [], _, _, _, _, AaX g l a hg ha hs, ⟨by simp [okL], rfl, rfl, by simp, by simp, ?_, by simp [V.rens, V.ren, rni], by simp [V.nins, V.nin], by simp [V.nin, rwF], ?_, ?_⟩, ?_⟩
 ·intro p hp
  simp only [List.mem_cons, List.not_mem_nil, or_false] at hp
  subst hp
  exact ⟨_, hn, by simp [rwF, mkH, Ob.ren, Al (Bq _)], .inl (Bq _)⟩
 ·intro q hq
  simp only [rwF, List.mem_cons, List.not_mem_nil, or_false] at hq
  subst hq
  exact .inl (Bq _)
 ·intro p hp o o' h1 h2
  simp only [List.mem_cons, List.not_mem_nil, or_false] at hp
  subst hp
  simp [rwF, mkH] at h1 h2
  subst h1 h2
  simp [Ob.kind]
 ·have e1 : (V.own 1000 (g ++ inn a l).length).ren (rn ([(1000, na)] ++ [])) = .own na (g ++ inn a l).length := by simp [V.ren, rn]
  have e2 : (rwF 1000 (g ++ inn a l)).map (fun q : Nat × Ob => (rn ([(1000, na)] ++ []) q.1, q.2.ren (rn ([(1000, na)] ++ [])))) = rwF na (g ++ inn a l) := by simp [rwF, rn, Ob.ren, Al (Bq _)]
  rw [e1, e2]
  exact hK
theorem Adj (a1 : Int) (k : Int) (l : List Cond) (a b x y z : Int) (t : List (List UInt8)) (a3 : List Int) (a4 a5 a6 a7 : Int) (a8 : List Pct) : gOf Uq (fun r => (RuleOk r, vF (Wv r))) [.agg [.int .i64 a1, .int .i64 k, .list (l.map Cond.enc) false, .int .i64 a, .int .i64 b, .int .i64 x, .int .i64 y, .int .i64 z, .list (strs t) false, .list (AY a3) false, .int .i64 a4, .int .i64 a5, .int .i64 a6, .int .i64 a7, .list (a8.map Pct.enc) false]] = (RuleOk ⟨a1, .mk k l a b ⟨x, y, z⟩ t, a3, a4, a5, a6, a7, a8⟩, .list (An (Wv ⟨a1, .mk k l a b ⟨x, y, z⟩ t, a3, a4, a5, a6, a7, a8⟩)) false) := by
 rw [← Rule.enc_at]; exact Adi _
theorem Afi (n : Int) (l : List Link) (m : Int) : gOf aRg fRg [.agg [.int .i64 n, .list (l.map Link.enc) false, .int .i64 m]] = ((Routing.mk n l m).ok ∧ l.length ≤ 1000000, .list (An (AbU ⟨n, l, m⟩)) false) := Ar Tz ⟨n, l, m⟩
theorem Nz (l : List Link) : ∀ n, (NA l n).length ≤ 3 * n ∧ (n ≤ 1000000 → FSm (NA l n))
 | 0 => ⟨Nat.le_refl _, fun _ => FSm.nil⟩
 | n + 1 => by
  obtain ⟨h1, h2⟩ := Nz l n
  refine ⟨?_, fun hn => ?_⟩
  ·rw [NA, Pl, List.length_append, List.length_append, List.length_append]
   have a1 := Ei (lkA (l.getD n Link.zero)) 5 (sLk ++ dec n)
   have a2 := Ei (decide ((l.getD n Link.zero).from' = (l.getD n Link.zero).to')) 2 (sLk ++ dec n)
   have a3 := Ei (lkC l n (l.getD n Link.zero)) 6 (sLk ++ dec n)
   omega
  ·have hp : (sLk ++ dec (n : Int)).length ≤ 1000 := Hu (by decide) (CB (by omega))
   rw [NA, Pl]
   exact (h2 (by omega)).app (((FSm.nil.fif hp).fif hp).fif hp)
theorem VA (r : Routing) : (AbU r).length ≤ 400 ∧ FSm (AbU r) := by
 have hm : (if (r.links.length : Int) ≤ 128 then NA r.links r.links.length else []).length ≤ 384 ∧ FSm (if (r.links.length : Int) ≤ 128 then NA r.links r.links.length else []) := by
  split
  ·have := Nz r.links r.links.length
   exact ⟨by omega, this.2 (by omega)⟩
  ·exact ⟨by simp, FSm.nil⟩
 unfold AbU
 refine ⟨?_, (((FSm.nil.fif (by decide)).fif (by decide)).app hm.2).fif (by decide)⟩
 rw [List.length_append, List.length_append, List.length_append]
 have a1 := Ei (decide (r.number < 1) || decide (9999 < r.number)) 2 Af3
 have a2 := Ei (decide (128 < (r.links.length : Int))) 4 Af6
 have a3 := Ei (decide (r.miles < 0) || decide (99999 < r.miles)) 2 Af4
 have := hm.1
 omega
def aPT (x : Places × Tariff) : List V := [.agg x.1.enc, .agg x.2.enc]
theorem TD (a b : Places × Tariff) (h : aPT a = aPT b) : a = b := by
 obtain ⟨a_p, a_t⟩ := a
 obtain ⟨b_p, b_t⟩ := b
 simp only [aPT, List.cons.injEq, V.str.injEq, V.int.injEq, V.bool.injEq, V.agg.injEq, V.list.injEq, and_true, true_and] at h
 obtain ⟨h0, h1⟩ := h
 replace h0 := Places.inj _ _ h0
 subst h0
 replace h1 := Tariff.inj _ _ h1
 subst h1
 rfl
def AbL (r : Rule) : Prop := ∀ x ∈ r.pcts, AfX x
def Ags (t : Tariff) : Prop := (∀ f ∈ t.fares, IL f) ∧ ∀ r ∈ t.rules, AbL r
def RTa (x : Places × Tariff) (g : List Fault) : Prop := g.length ≤ 140737488355328 ∧ (g = [] → Ags x.2)
def sFs : List UInt8 := [102, 97, 114, 101, 115]
def sFr : List UInt8 := [102, 97, 114, 101, 32]
def sRu : List UInt8 := [114, 117, 108, 101, 32]
def sRo : List UInt8 := [114, 111, 117, 116, 105, 110, 103, 32]
def EFi : Nat → Bool := fun f => f == 69
theorem MU {α : Type} {p : α → Prop} {l : List α} {i : Nat} (h : ∀ x ∈ l.take i, p x) (hi : i < l.length) (hp : p l[i]) : ∀ x ∈ l.take (i + 1), p x := fun x hx => by
 rw [AI hi] at hx
 rcases List.mem_append.1 hx with hx | hx
 ·exact h x hx
 ·rw [List.mem_singleton.1 hx]; exact hp
def tTa : Tab
 | 67 => (gOf Xc fun x => (LnP x.1 ∧ TarOk x.2.1 ∧ x.2.2.ok, vL (fFa x)))
 | 68 => Jn
 | 70 => (gOf Uq fun r => (RuleOk r, vF (Wv r)))
 | 71 => (gOf aRg fRg)
 | _ => gNo
theorem AcN : ∀ f, PU f (tTa f) := fun f => by
 unfold tTa
 split
 ·exact Akx
 ·exact DU
 ·exact AgH
 ·exact Pd
 ·exact Ao.no
theorem Zm : ∃ F : Places × Tariff → List Fault, (∀ x, LnP x.1 ∧ TarOk x.2 → RTa x (F x)) ∧ PU 28 (gOf aPT fun x => (LnP x.1 ∧ TarOk x.2, vF (F x))) := by
 have hG := AcN
 refine Ajh.p (val := vF) (R := RTa) TD (by simp [aPT]) ?_
 rintro ⟨⟨ps, ds⟩, ⟨fs, rs, gs, xs⟩⟩ hv Q hQ
 have Y := Ajh.E EFi hG mixed
 have Z := Ajh.T EFi hG
 obtain ⟨h1, h2⟩ : LnP ⟨ps, ds⟩ ∧ TarOk ⟨fs, rs, gs, xs⟩ := hv
 obtain ⟨o1, o2, o3, o4, o5, o6, o7, o8⟩ := id h2
 dsimp only at o1 o2 o3 o4 o5 o6 o7 o8
 refine Ag (Z 0 rfl ?_)
 simp only [go_sem, simprocAttr, aPT, Places.enc, Tariff.enc, tTa, EFi, Ah]
 refine Ag (Z 1 rfl ?_)
 simp only [go_sem, simprocAttr, tTa, EFi, Ah]
 refine TC.le (s' := ⟨mkE [(2, .ptr 2 0), (3, .ptr 3 0), (5, .own 999 0)], mkH ([(2, .box 25 [.list (ps.map Airport.enc) false, .list (ds.map Distance.enc) false]), (3, .box 31 [.list (fs.map Fare.enc) false, .list (rs.map Rule.enc) false, .list (gs.map Routing.enc) false, .list (xs.map Tax.enc) false]), (999, .arr 126 2 (An []))])⟩) (Le.mk _ _ (by (simp only [go_sem, simprocAttr]) <;> and_intros <;> try exact leB) (by (simp only [go_sem, simprocAttr]) <;> and_intros <;> try exact leB) rfl) ?_
 refine CW (α := (List Fault)) (fun g1 => (g1 = ([] : List Fault) ++ fIf (decide (512 < (fs.length : Int))) 4 (sFs)) ∧ (g1.length ≤ ([] : List Fault).length + 1)) (fun g1 => ⟨mkE [(2, V.ptr 2 0), (3, V.ptr 3 0), (5, .own 999 g1.length)], mkH [(2, Ob.box 25 [V.list (List.map Airport.enc ps) false, V.list (List.map Distance.enc ds) false]), (3, Ob.box 31 [V.list (List.map Fare.enc fs) false, V.list (List.map Rule.enc rs) false, V.list (List.map Routing.enc gs) false, V.list (List.map Tax.enc xs) false]), (999, .arr 126 2 (An g1))]⟩) ?_ ?_
 ·intro KC2 hKC2
  refine Ag (Z 2 rfl ?_)
  simp only [go_sem, simprocAttr, List.length_map, tTa, EFi, Ah]
  refine AH rfl (fun hb2 => ?_) fun hb2 => ?_
  ·refine Z 3 rfl ?_
   simp only [go_sem, simprocAttr, tTa, EFi, Ah]
   and_intros <;> try exact sdA
   refine hKC2 (([] : List Fault) ++ [⟨4, sFs⟩]) _ ?_ ?_
   ·(try dsimp only); exact ⟨by rw [Dx (show (decide (512 < (fs.length : Int))) = true from hb2)], by simp⟩
   refine Le.mk _ _ ?_ ?_ rfl <;> simp only [go_sem, simprocAttr, List.length_append, List.length_cons, List.length_nil] <;> and_intros <;> try exact leA
  refine AG ?_
  refine hKC2 (([] : List Fault)) _ ?_ ?_
  ·(try dsimp only); exact ⟨by rw [Dy (show (decide (512 < (fs.length : Int))) = false from hb2), List.append_nil], by omega⟩
  exact leM
 rintro g1 ⟨hg1, lg1⟩
 replace lg1 : g1.length ≤ 1 := lg1
 refine Ag (Ag (Z 4 rfl ?_))
 simp only [go_sem, simprocAttr, tTa, EFi, Ah]
 refine AN ?_
 refine CI (α := Nat × (List Fault)) (fun γ => (γ.1 ≤ fs.length) ∧ (γ.2.length ≤ 1 + 6 * γ.1) ∧ (γ.2 = [] → ∀ z ∈ fs.take γ.1, IL z)) (fun γ => ⟨mkE [(2, V.ptr 2 0), (3, V.ptr 3 0), (5, .own 999 γ.2.length), (6, .int .i64 γ.1)], mkH [(2, Ob.box 25 [V.list (List.map Airport.enc ps) false, V.list (List.map Distance.enc ds) false]), (3, Ob.box 31 [V.list (List.map Fare.enc fs) false, V.list (List.map Rule.enc rs) false, V.list (List.map Routing.enc gs) false, V.list (List.map Tax.enc xs) false]), (999, .arr 126 2 (An γ.2))]⟩) (fun γ => fs.length - γ.1) (0, g1) ⟨Nat.zero_le _, by omega, fun _ z hz => nomatch hz⟩ ?_ ?_
 ·exact leM
 rintro ⟨i, g⟩ ⟨hi, hg, hk⟩ KL0 hKL0
 try dsimp only at *
 refine Ag (Ag (Z 5 rfl ?_))
 simp only [go_sem, simprocAttr, List.length_map, tTa, EFi, Ah]
 refine AH rfl (fun hc5 => ?_) fun hc5 => ?_
 ·simp only [hcL] at hc5
  refine AG ?_
  refine Ag (AN ?_)
  obtain ⟨⟨ca, fr, to, ba, cl, rd, am, ru, rg⟩, hf⟩ : ∃ f, f = fs[i] := ⟨_, rfl⟩
  have hfo := o5 _ (List.getElem_mem hc5)
  rw [← hf] at hfo
  obtain ⟨hL1, hL2⟩ := Aky (⟨ps, ds⟩, ⟨fs, rs, gs, xs⟩, ⟨ca, fr, to, ba, cl, rd, am, ru, rg⟩) ⟨h1, h2, hfo⟩
  obtain ⟨L, hL⟩ : ∃ L, L = fFa (⟨ps, ds⟩, ⟨fs, rs, gs, xs⟩, ⟨ca, fr, to, ba, cl, rd, am, ru, rg⟩) := ⟨_, rfl⟩
  rw [← hL] at hL1 hL2
  refine Ag (Y 7 rfl (by kernel_rfl) ?_)
  simp only [go_sem, simprocAttr, Af _ _ _ _ hc5, hc5, List.length_map, ← hf, Fare.enc, Aic, h1, h2, hfo, ← hL, tTa, EFi, Ah]
  and_intros <;> try exact sdA
  refine Ag (Z 8 rfl ?_)
  simp only [go_sem, simprocAttr, tTa, EFi, Ah]
  refine AN ?_
  refine CI (α := Nat × (List Fault)) (fun γ => (γ.1 ≤ L.length) ∧ (γ.2.length = g.length + γ.1)) (fun γ => ⟨mkE [(2, V.ptr 2 0), (3, V.ptr 3 0), (5, .own 999 γ.2.length), (6, V.int IntKind.i64 ↑i), (7, V.list (AY L) false), (8, .int .i64 γ.1)], mkH [(2, Ob.box 25 [V.list (List.map Airport.enc ps) false, V.list (List.map Distance.enc ds) false]), (3, Ob.box 31 [V.list (List.map Fare.enc fs) false, V.list (List.map Rule.enc rs) false, V.list (List.map Routing.enc gs) false, V.list (List.map Tax.enc xs) false]), (999, .arr 126 2 (An γ.2))]⟩) (fun γ => L.length - γ.1) (0, g) ⟨Nat.zero_le _, rfl⟩ ?_ ?_
  ·exact leM
  rintro ⟨j, h⟩ ⟨hj, hh⟩ KL2 hKL2
  try dsimp only at *
  refine Ag (Ag (Z 9 rfl ?_))
  simp only [go_sem, simprocAttr, Bp, tTa, EFi, Ah]
  refine AH rfl (fun hc9 => ?_) fun hc9 => ?_
  ·simp only [hcL] at hc9
   refine AG ?_
   refine Ag (AN ?_)
   have hd := CB (i := i) (by omega)
   have hi2 := GA (i := i) (by omega)
   refine Dj (EF := EFi) hG mixed YV Aaw ?_
   simp only [TS, XU, go_sem, simprocAttr, inI, AV _ _ _ hc9, hc9, Bp, hi2, tTa, EFi, Ah]
   and_intros <;> try exact sdA
   refine Z 10 rfl ?_
   simp only [go_sem, simprocAttr, inI, tTa, EFi, Ah]
   and_intros <;> try exact sdA
   refine hKL2 (j + 1, h ++ [⟨L[j], sFr ++ dec i⟩]) _ ?_ ?_ ?_
   ·(try dsimp only); exact ⟨hc9, by rw [List.length_append, hh]; rfl⟩
   ·(try dsimp only); omega
   refine Le.mk _ _ ?_ ?_ rfl <;> simp only [go_sem, simprocAttr, List.length_append, List.length_cons, List.length_nil] <;> and_intros <;> try exact leA
  simp only [hcL] at hc9
  refine CJ ?_
  simp only [go_sem, simprocAttr]
  refine Z 6 rfl ?_
  simp only [go_sem, simprocAttr, inI, tTa, EFi, Ah]
  and_intros <;> try exact sdA
  refine hKL0 (i + 1, h) _ ?_ ?_ ?_
  ·(try dsimp only); exact ⟨by omega, by omega, fun e => MU (hk (List.eq_nil_of_length_eq_zero (by rw [e] at hh; simp at hh; omega))) (by assumption) (by rw [← hf]; exact hL2 (List.eq_nil_of_length_eq_zero (by rw [e] at hh; simp at hh; omega)))⟩
  ·(try dsimp only); omega
  exact leM
 simp only [hcL] at hc5
 have hk0 : g = [] → ∀ z ∈ fs, IL z := fun e => by have := hk e; rwa [List.take_of_length_le (by omega)] at this
 have hg0 : g.length ≤ 7000001 + 5200000 * 0 := by omega
 have hp0 : g = [] → (∀ z ∈ fs, IL z) ∧ ∀ z ∈ rs.take 0, AbL z := fun e => ⟨hk0 e, fun z hz => by simp at hz⟩
 refine CJ ?_
 simp only [go_sem, simprocAttr]
 refine Ag (Ag (Z 12 rfl ?_))
 simp only [go_sem, simprocAttr, tTa, EFi, Ah]
 refine AN ?_
 refine CI (α := Nat × (List Fault)) (fun γ => (γ.1 ≤ rs.length) ∧ (γ.2.length ≤ 7000001 + 5200000 * γ.1) ∧ (γ.2 = [] → (∀ z ∈ fs, IL z) ∧ ∀ z ∈ rs.take γ.1, AbL z)) (fun γ => ⟨mkE [(3, V.ptr 3 0), (5, .own 999 γ.2.length), (9, .int .i64 γ.1)], mkH [(3, Ob.box 31 [V.list (List.map Fare.enc fs) false, V.list (List.map Rule.enc rs) false, V.list (List.map Routing.enc gs) false, V.list (List.map Tax.enc xs) false]), (999, .arr 126 2 (An γ.2))]⟩) (fun γ => rs.length - γ.1) (0, g) ⟨Nat.zero_le _, hg0, hp0⟩ ?_ ?_
 ·exact leM
 rintro ⟨i, g⟩ ⟨hi, hg, hk⟩ KL4 hKL4
 try dsimp only at *
 refine Ag (Ag (Z 13 rfl ?_))
 simp only [go_sem, simprocAttr, List.length_map, tTa, EFi, Ah]
 refine AH rfl (fun hc13 => ?_) fun hc13 => ?_
 ·simp only [hcL] at hc13
  refine AG ?_
  refine Ag (AN ?_)
  have hd := CB (i := i) (by omega)
  have hi2 := GA (i := i) (by omega)
  have hp8 : (sRu ++ dec i).length ≤ 1000 := Hu (by decide) hd
  obtain ⟨⟨a1, ⟨k, l, a, b, ⟨x, y, z⟩, t⟩, a3, a4, a5, a6, a7, a8⟩, hr⟩ : ∃ r, r = rs[i] := ⟨_, rfl⟩
  have hro := o6 _ (List.getElem_mem hc13)
  rw [← hr] at hro
  obtain ⟨hR1, hR2, hR3⟩ := AgI _ hro
  have hR4 : a3.length ≤ 1048576 := hro.c
  have hR5 : a8.length ≤ 1000000 := hro.p.1
  obtain ⟨L, hL⟩ : ∃ L, L = Wv ⟨a1, .mk k l a b ⟨x, y, z⟩ t, a3, a4, a5, a6, a7, a8⟩ := ⟨_, rfl⟩
  rw [← hL] at hR1 hR2 hR3
  dsimp only at hR1
  refine Ag (Z 15 rfl ?_)
  simp only [go_sem, simprocAttr, inI, hi2, tTa, EFi, Ah]
  and_intros <;> try exact sdA
  refine Ag (Ag (Z 16 rfl ?_))
  simp only [go_sem, simprocAttr, tTa, EFi, Ah]
  refine AN ?_
  refine CI (α := Nat × Bool) (fun γ => (γ.1 ≤ i)) (fun γ => ⟨mkE [(3, V.ptr 3 0), (5, V.own 999 g.length), (9, V.int IntKind.i64 ↑i), (10, V.str (114 :: 117 :: 108 :: 101 :: 32 :: dec ↑i)), (11, .bool γ.2), (12, .int .i64 γ.1)], mkH [(3, Ob.box 31 [V.list (List.map Fare.enc fs) false, V.list (List.map Rule.enc rs) false, V.list (List.map Routing.enc gs) false, V.list (List.map Tax.enc xs) false]), (999, Ob.arr 126 2 (An g))]⟩) (fun γ => i - γ.1) (0, false) (Nat.zero_le _) ?_ ?_
  ·exact leM
  rintro ⟨j, tw⟩ hj KL6 hKL6
  try dsimp only at *
  refine Ag (Ag (Z 17 rfl ?_))
  simp only [go_sem, simprocAttr, tTa, EFi, Ah]
  refine AH rfl (fun hc17 => ?_) fun hc17 => ?_
  ·simp only [hcL] at hc17
   refine AG ?_
   refine Ag (AN ?_)
   have hjl : j < rs.length := by omega
   obtain ⟨⟨b1, ⟨bk, bl, ba, bb, ⟨bx, bY, bz⟩, bt⟩, b3, b4, b5, b6, b7, b8⟩, hb⟩ : ∃ r, r = rs[j] := ⟨_, rfl⟩
   refine Y 19 rfl (by kernel_rfl) ?_
   simp only [go_sem, simprocAttr, Af _ _ _ _ hc13, Af _ _ _ _ hjl, hc13, hjl, List.length_map, ← hr, ← hb, Rule.enc_at, tTa, EFi, Ah]
   and_intros <;> try exact sdA
   refine Z 18 rfl ?_
   simp only [go_sem, simprocAttr, inI, tTa, EFi, Ah]
   and_intros <;> try exact sdA
   refine hKL6 (j + 1, (tw || decide (b1 = a1))) _ ?_ ?_ ?_
   ·(try dsimp only); omega
   ·(try dsimp only); omega
   exact leM
  simp only [hcL] at hc17
  refine CJ ?_
  simp only [go_sem, simprocAttr]
  refine CW (α := (List Fault)) (fun f1 => (f1 = g ++ fIf (tw) 6 (sRu ++ dec i)) ∧ (f1.length ≤ g.length + 1)) (fun f1 => ⟨mkE [(3, V.ptr 3 0), (5, .own 999 f1.length), (9, V.int IntKind.i64 ↑i), (10, V.str (114 :: 117 :: 108 :: 101 :: 32 :: dec ↑i))], mkH [(3, Ob.box 31 [V.list (List.map Fare.enc fs) false, V.list (List.map Rule.enc rs) false, V.list (List.map Routing.enc gs) false, V.list (List.map Tax.enc xs) false]), (999, .arr 126 2 (An f1))]⟩) ?_ ?_
  ·intro KC20 hKC20
   refine Ag (Z 20 rfl ?_)
   simp only [go_sem, simprocAttr, tTa, EFi, Ah]
   refine AH rfl (fun hb20 => ?_) fun hb20 => ?_
   ·refine Z 21 rfl ?_
    simp only [go_sem, simprocAttr, tTa, EFi, Ah]
    and_intros <;> try exact sdA
    refine hKC20 (g ++ [⟨6, sRu ++ dec i⟩]) _ ?_ ?_
    ·(try dsimp only); exact ⟨by rw [Dx (show (tw) = true from hb20)], by simp⟩
    refine Le.mk _ _ ?_ ?_ rfl <;> simp only [go_sem, simprocAttr, List.length_append, List.length_cons, List.length_nil] <;> and_intros <;> try exact leA
   refine AG ?_
   refine hKC20 (g) _ ?_ ?_
   ·(try dsimp only); exact ⟨by rw [Dy (show (tw) = false from hb20), List.append_nil], by omega⟩
   exact leM
  rintro f1 ⟨hf1, lf1⟩
  refine Z 22 rfl ?_
  simp only [go_sem, simprocAttr, Af _ _ _ _ hc13, hc13, List.length_map, ← hr, Rule.enc_at, Adj, hro, ← hL, tTa, EFi, Ah]
  refine KQ (na := 999) (g := f1) (l := L) (a := sRu ++ dec i) (by omega) hp8 hR3 rfl ?_
  simp only [go_sem, simprocAttr, rwF]
  refine Z 14 rfl ?_
  simp only [go_sem, simprocAttr, inI, tTa, EFi, Ah]
  and_intros <;> try exact sdA
  refine hKL4 (i + 1, f1 ++ inn (sRu ++ dec i) L) _ ?_ ?_ ?_
  ·(try dsimp only); exact ⟨hc13, by rw [List.length_append, Si]; omega, fun e => by obtain ⟨e1, e2⟩ := List.append_eq_nil_iff.1 e; rw [hf1] at e1; exact ⟨(hk (List.append_eq_nil_iff.1 e1).1).1, MU (hk (List.append_eq_nil_iff.1 e1).1).2 hc13 (by rw [← hr]; exact hR2 (List.map_eq_nil_iff.1 e2))⟩⟩
  ·(try dsimp only); omega
  exact leM
 simp only [hcL] at hc13
 have hk0 : g = [] → Ags ⟨fs, rs, gs, xs⟩ := fun e => by have := hk e; rwa [List.take_of_length_le (by omega)] at this
 have hg0 : g.length ≤ 5300000000000 + 500 * 0 := by omega
 refine CJ ?_
 simp only [go_sem, simprocAttr]
 refine Ag (Ag (Z 23 rfl ?_))
 simp only [go_sem, simprocAttr, tTa, EFi, Ah]
 refine AN ?_
 refine CI (α := Nat × (List Fault)) (fun γ => (γ.1 ≤ gs.length) ∧ (γ.2.length ≤ 5300000000000 + 500 * γ.1) ∧ (γ.2 = [] → Ags ⟨fs, rs, gs, xs⟩)) (fun γ => ⟨mkE [(3, V.ptr 3 0), (5, .own 999 γ.2.length), (13, .int .i64 γ.1)], mkH [(3, Ob.box 31 [V.list (List.map Fare.enc fs) false, V.list (List.map Rule.enc rs) false, V.list (List.map Routing.enc gs) false, V.list (List.map Tax.enc xs) false]), (999, .arr 126 2 (An γ.2))]⟩) (fun γ => gs.length - γ.1) (0, g) ⟨Nat.zero_le _, hg0, hk0⟩ ?_ ?_
 ·exact leM
 rintro ⟨i, g⟩ ⟨hi, hg, hk⟩ KL8 hKL8
 try dsimp only at *
 refine Ag (Ag (Z 24 rfl ?_))
 simp only [go_sem, simprocAttr, List.length_map, tTa, EFi, Ah]
 refine AH rfl (fun hc24 => ?_) fun hc24 => ?_
 ·simp only [hcL] at hc24
  refine AG ?_
  refine Ag (AN ?_)
  have hd := CB (i := i) (by omega)
  have hi2 := GA (i := i) (by omega)
  have hp8 : (sRo ++ dec i).length ≤ 1000 := Hu (by decide) hd
  obtain ⟨⟨a1, a2, a3⟩, hr⟩ : ∃ r, r = gs[i] := ⟨_, rfl⟩
  have hro := o7 _ (List.getElem_mem hc24)
  rw [← hr] at hro
  obtain ⟨hR1, hR3⟩ := VA ⟨a1, a2, a3⟩
  obtain ⟨L, hL⟩ : ∃ L, L = AbU ⟨a1, a2, a3⟩ := ⟨_, rfl⟩
  rw [← hL] at hR1 hR3
  refine Ag (Z 26 rfl ?_)
  simp only [go_sem, simprocAttr, inI, hi2, tTa, EFi, Ah]
  and_intros <;> try exact sdA
  refine Ag (Ag (Z 27 rfl ?_))
  simp only [go_sem, simprocAttr, tTa, EFi, Ah]
  refine AN ?_
  refine CI (α := Nat × Bool) (fun γ => (γ.1 ≤ i)) (fun γ => ⟨mkE [(3, V.ptr 3 0), (5, V.own 999 g.length), (13, V.int IntKind.i64 ↑i), (14, V.str (114 :: 111 :: 117 :: 116 :: 105 :: 110 :: 103 :: 32 :: dec ↑i)), (15, .bool γ.2), (16, .int .i64 γ.1)], mkH [(3, Ob.box 31 [V.list (List.map Fare.enc fs) false, V.list (List.map Rule.enc rs) false, V.list (List.map Routing.enc gs) false, V.list (List.map Tax.enc xs) false]), (999, Ob.arr 126 2 (An g))]⟩) (fun γ => i - γ.1) (0, false) (Nat.zero_le _) ?_ ?_
  ·exact leM
  rintro ⟨j, tw⟩ hj KL10 hKL10
  try dsimp only at *
  refine Ag (Ag (Z 28 rfl ?_))
  simp only [go_sem, simprocAttr, tTa, EFi, Ah]
  refine AH rfl (fun hc28 => ?_) fun hc28 => ?_
  ·simp only [hcL] at hc28
   refine AG ?_
   refine Ag (AN ?_)
   have hjl : j < gs.length := by omega
   obtain ⟨⟨b1, b2, b3⟩, hb⟩ : ∃ r, r = gs[j] := ⟨_, rfl⟩
   refine Y 30 rfl (by kernel_rfl) ?_
   simp only [go_sem, simprocAttr, Af _ _ _ _ hc24, Af _ _ _ _ hjl, hc24, hjl, List.length_map, ← hr, ← hb, Routing.enc, tTa, EFi, Ah]
   and_intros <;> try exact sdA
   refine Z 29 rfl ?_
   simp only [go_sem, simprocAttr, inI, tTa, EFi, Ah]
   and_intros <;> try exact sdA
   refine hKL10 (j + 1, (tw || decide (b1 = a1))) _ ?_ ?_ ?_
   ·(try dsimp only); omega
   ·(try dsimp only); omega
   exact leM
  simp only [hcL] at hc28
  refine CJ ?_
  simp only [go_sem, simprocAttr]
  refine CW (α := (List Fault)) (fun f1 => (f1 = g ++ fIf (tw) 6 (sRo ++ dec i)) ∧ (f1.length ≤ g.length + 1)) (fun f1 => ⟨mkE [(3, V.ptr 3 0), (5, .own 999 f1.length), (13, V.int IntKind.i64 ↑i), (14, V.str (114 :: 111 :: 117 :: 116 :: 105 :: 110 :: 103 :: 32 :: dec ↑i))], mkH [(3, Ob.box 31 [V.list (List.map Fare.enc fs) false, V.list (List.map Rule.enc rs) false, V.list (List.map Routing.enc gs) false, V.list (List.map Tax.enc xs) false]), (999, .arr 126 2 (An f1))]⟩) ?_ ?_
  ·intro KC31 hKC31
   refine Ag (Z 31 rfl ?_)
   simp only [go_sem, simprocAttr, tTa, EFi, Ah]
   refine AH rfl (fun hb31 => ?_) fun hb31 => ?_
   ·refine Z 32 rfl ?_
    simp only [go_sem, simprocAttr, tTa, EFi, Ah]
    and_intros <;> try exact sdA
    refine hKC31 (g ++ [⟨6, sRo ++ dec i⟩]) _ ?_ ?_
    ·(try dsimp only); exact ⟨by rw [Dx (show (tw) = true from hb31)], by simp⟩
    refine Le.mk _ _ ?_ ?_ rfl <;> simp only [go_sem, simprocAttr, List.length_append, List.length_cons, List.length_nil] <;> and_intros <;> try exact leA
   refine AG ?_
   refine hKC31 (g) _ ?_ ?_
   ·(try dsimp only); exact ⟨by rw [Dy (show (tw) = false from hb31), List.append_nil], by omega⟩
   exact leM
  rintro f1 ⟨hf1, lf1⟩
  refine Z 33 rfl ?_
  simp only [go_sem, simprocAttr, Af _ _ _ _ hc24, hc24, List.length_map, ← hr, Routing.enc, Afi, hro.1, hro.2, ← hL, tTa, EFi, Ah]
  refine KQ (na := 999) (g := f1) (l := L) (a := sRo ++ dec i) (by omega) hp8 hR3 rfl ?_
  simp only [go_sem, simprocAttr, rwF]
  refine Z 25 rfl ?_
  simp only [go_sem, simprocAttr, inI, tTa, EFi, Ah]
  and_intros <;> try exact sdA
  refine hKL8 (i + 1, f1 ++ inn (sRo ++ dec i) L) _ ?_ ?_ ?_
  ·(try dsimp only); exact ⟨hc24, by rw [List.length_append, Si]; omega, fun e => by obtain ⟨e1, e2⟩ := List.append_eq_nil_iff.1 e; rw [hf1] at e1; exact hk (List.append_eq_nil_iff.1 e1).1⟩
  ·(try dsimp only); omega
  exact leM
 simp only [hcL] at hc24
 refine CJ ?_
 simp only [go_sem, simprocAttr]
 refine Ag (Z 34 rfl ?_)
 simp only [go_sem, simprocAttr, tTa, EFi, Ah]
 refine TC.le (s' := ⟨mkE [(4, .list (An g) false)], mkH []⟩) (Le.mk _ _ ?_ ?_ rfl) (DR (hQ _ _ (.inl rfl) ?_ ?_ ?_)) <;> simp only [go_sem, simprocAttr, vF]
 ·exact Cq rfl (by rw [Bk]) rfl (Bq _)
 exact ⟨g, rfl, by omega, hk⟩
def fTa : Places × Tariff → List Fault := Zm.choose
theorem Aju : ∀ x : Places × Tariff, LnP x.1 ∧ TarOk x.2 → RTa x (fTa x) := Zm.choose_spec.1
theorem Ajt : PU 28 (gOf aPT fun x => (LnP x.1 ∧ TarOk x.2, vF (fTa x))) := Zm.choose_spec.2
theorem UO (ps : List Airport) (ds : List Distance) (a : List Fare) (b : List Rule) (c : List Routing) (d : List Tax) : gOf aPT (fun x => (LnP x.1 ∧ TarOk x.2, vF (fTa x))) [.agg [.list (ps.map Airport.enc) false, .list (ds.map Distance.enc) false], .agg [.list (a.map Fare.enc) false, .list (b.map Rule.enc) false, .list (c.map Routing.enc) false, .list (d.map Tax.enc) false]] = (LnP ⟨ps, ds⟩ ∧ TarOk ⟨a, b, c, d⟩, .list (An (fTa (⟨ps, ds⟩, ⟨a, b, c, d⟩))) false) := Ar (F := fun x => (LnP x.1 ∧ TarOk x.2, vF (fTa x))) TD (⟨ps, ds⟩, ⟨a, b, c, d⟩)
def sTx : List UInt8 := [116, 97, 120, 32]
def AfP (x : Tax) : Bool := decide (x.kind < 1) || decide (4 < x.kind)
def Agr (x : Tax) : Bool := decide (x.amount < 0) || decide (KH x.kind < x.amount) || decide (x.scope < 0) || decide (2 < x.scope) || decide (x.transit < 0) || decide (100000 < x.transit)
def JY (i : Nat) (x : Tax) : List Fault := fIf (!EZ x) 5 (sTx ++ dec i) ++ fIf (AfP x) 8 (sTx ++ dec i) ++ fIf (Agr x) 2 (sTx ++ dec i)
def Ib (l : List Tax) : Nat → List Fault
 | 0 => []
 | i + 1 => Ib l i ++ JY i (l.getD i Tax.zero)
theorem ON (i x) : (JY i x).length ≤ 3 := by
 have h1 := Ei (!EZ x) 5 (sTx ++ dec i)
 have h2 := Ei (AfP x) 8 (sTx ++ dec i)
 have h3 := Ei (Agr x) 2 (sTx ++ dec i)
 unfold JY; simp only [List.length_append]; omega
theorem JX (l) : ∀ i, (Ib l i).length ≤ 3 * i
 | 0 => Nat.le_refl _
 | i + 1 => by rw [Ib, List.length_append]; have := JX l i; have := ON i (l.getD i Tax.zero); omega
def GG (x : List Tax) : List V := [.list (x.map Tax.enc) false]
theorem IK (a b : List Tax) (h : GG a = GG b) : a = b := by
 simp only [GG, List.cons.injEq, V.str.injEq, V.int.injEq, V.bool.injEq, V.agg.injEq, V.list.injEq, and_true, true_and] at h
 have h0 := h
 replace h0 := Aw Tax.inj h0
 subst h0
 rfl
def SmT (l : List Tax) : Prop := l.length ≤ 1000 ∧ ∀ x ∈ l, x.ok
def NR (l : List Tax) : Prop × V := (SmT l, .list (An (Ib l l.length)) false)
def EU : Tab
 | 72 => (gOf Yj ID)
 | 73 => (gOf Eb Sv)
 | 68 => Jn
 | _ => gNo
theorem UG : ∀ f, PU f (EU f) := fun f => by
 unfold EU
 split
 ·exact VE
 ·exact Aad
 ·exact DU
 ·exact Ao.no
theorem Rf : PU 29 (gOf GG NR) := by
 have hG := UG
 refine Ajg.a IK (by simp [GG]) ?_
 rintro l hv C hN Q hQ
 have Y := Ajg.D EF0 hG hN mixed
 have Z := Ajg.R EF0 hG hN
 obtain ⟨hl, hok⟩ : SmT l := hv
 refine Aa (Z 0 rfl ?_)
 simp only [go_sem, simprocAttr, GG, EU, Bz, BV]
 refine Aa (Z 1 rfl ?_)
 simp only [go_sem, simprocAttr, EU, Bz, BV]
 refine AW.le (s' := ⟨mkE [(0, .list (l.map Tax.enc) false), (3, .own 999 0)], mkH ([(999, .arr 126 2 (An []))])⟩) (Le.mk _ _ (by (simp only [go_sem, simprocAttr]) <;> and_intros <;> try exact leB) (by (simp only [go_sem, simprocAttr]) <;> and_intros <;> try exact leB) rfl) ?_
 refine Aa (Aa (Z 2 rfl ?_))
 simp only [go_sem, simprocAttr, EU, Bz, BV]
 refine Ad ?_
 refine Aj (α := Nat × (List Fault)) (fun γ => (γ.1 ≤ l.length) ∧ (γ.2 = Ib l γ.1) ∧ (γ.2.length ≤ 3 * γ.1)) (fun γ => ⟨mkE [(0, V.list (List.map Tax.enc l) false), (3, .own 999 γ.2.length), (4, .int .i64 γ.1)], mkH [(999, .arr 126 2 (An γ.2))]⟩) (fun γ => l.length - γ.1) (0, []) ⟨Nat.zero_le _, rfl, Nat.le_refl _⟩ ?_ ?_
 ·exact leM
 rintro ⟨i, g⟩ ⟨hi, hg, hgl⟩ KL0 hKL0
 try dsimp only at *
 refine Aa (Aa (Z 3 rfl ?_))
 simp only [go_sem, simprocAttr, EU, Bz, BV]
 refine Ab rfl (fun hc3 => ?_) fun hc3 => ?_
 ·simp only [hcL] at hc3
  refine Ac ?_
  refine Aa (Ad ?_)
  have hxo := hok _ (List.getElem_mem hc3)
  generalize hxx : l[i] = x at hxo
  obtain ⟨a, b, c, dd, e, f, fr⟩ := x
  have hd := CB (i := i) (by omega)
  have hi2 := GA (i := i) (by omega)
  refine Aa (As (EF := EF0) hG mixed (by rw [hN]; exact AcA) AdM ?_)
  simp only [AbD, AfD, go_sem, simprocAttr, inI, Af _ _ _ _ hc3, hc3, hxx, Tax.enc, Ah, hi2, EU, Bz, BV]
  and_intros <;> (try first | exact sdA | (simp only [List.length_append, List.length_cons, List.length_nil]; omega))
  refine BD (α := (List Fault)) (fun g1 => (g1 = g ++ fIf (!EZ ⟨a, b, c, dd, e, f, fr⟩) 5 (sTx ++ dec i)) ∧ (g1.length ≤ g.length + 1)) (fun g1 => ⟨mkE [(0, V.list (List.map Tax.enc l) false), (3, .own 999 g1.length), (4, V.int IntKind.i64 ↑i), (5, V.ptr 5 0), (6, V.str (116 :: 97 :: 120 :: 32 :: dec ↑i))], mkH [(5, Ob.box 143 [V.str a, V.int IntKind.i64 b, V.str c, V.int IntKind.i64 dd, V.int IntKind.i64 e, V.int IntKind.i64 f, V.list (strs fr) false]), (999, .arr 126 2 (An g1))]⟩) ?_ ?_
  ·intro KC6 hKC6
   refine Aa (Z 6 rfl ?_)
   simp only [go_sem, simprocAttr, hxo, EU, Bz, BV]
   and_intros <;> try exact sdA
   refine Ab rfl (fun hb6 => ?_) fun hb6 => ?_
   ·refine Z 7 rfl ?_
    simp only [go_sem, simprocAttr, EU, Bz, BV]
    and_intros <;> try exact sdA
    refine hKC6 (g ++ [⟨5, sTx ++ dec i⟩]) _ ?_ ?_
    ·(try dsimp only); exact ⟨by rw [Dx (show (!EZ ⟨a, b, c, dd, e, f, fr⟩) = true from hb6)], by simp⟩
    refine Le.mk _ _ ?_ ?_ rfl <;> simp only [go_sem, simprocAttr, List.length_append, List.length_cons, List.length_nil] <;> and_intros <;> try exact leA
   refine Ac ?_
   refine hKC6 (g) _ ?_ ?_
   ·(try dsimp only); exact ⟨by rw [Dy (show (!EZ ⟨a, b, c, dd, e, f, fr⟩) = false from hb6), List.append_nil], by omega⟩
   exact leM
  rintro g1 ⟨hg1, lg1⟩
  refine BD (α := (List Fault)) (fun g2 => (g2 = g1 ++ fIf (AfP ⟨a, b, c, dd, e, f, fr⟩) 8 (sTx ++ dec i)) ∧ (g2.length ≤ g1.length + 1)) (fun g2 => ⟨mkE [(0, V.list (List.map Tax.enc l) false), (3, .own 999 g2.length), (4, V.int IntKind.i64 ↑i), (5, V.ptr 5 0), (6, V.str (116 :: 97 :: 120 :: 32 :: dec ↑i))], mkH [(5, Ob.box 143 [V.str a, V.int IntKind.i64 b, V.str c, V.int IntKind.i64 dd, V.int IntKind.i64 e, V.int IntKind.i64 f, V.list (strs fr) false]), (999, .arr 126 2 (An g2))]⟩) ?_ ?_
  ·intro KC8 hKC8
   refine Aa (Z 8 rfl ?_)
   simp only [go_sem, simprocAttr, EU, Bz, BV]
   and_intros <;> try exact sdA
   refine Ab rfl (fun hb8 => ?_) fun hb8 => ?_
   ·refine Z 9 rfl ?_
    simp only [go_sem, simprocAttr, EU, Bz, BV]
    and_intros <;> try exact sdA
    refine hKC8 (g1 ++ [⟨8, sTx ++ dec i⟩]) _ ?_ ?_
    ·(try dsimp only); exact ⟨by rw [Dx (show (AfP ⟨a, b, c, dd, e, f, fr⟩) = true from hb8)], by simp⟩
    refine Le.mk _ _ ?_ ?_ rfl <;> simp only [go_sem, simprocAttr, List.length_append, List.length_cons, List.length_nil] <;> and_intros <;> try exact leA
   refine Ac ?_
   refine hKC8 (g1) _ ?_ ?_
   ·(try dsimp only); exact ⟨by rw [Dy (show (AfP ⟨a, b, c, dd, e, f, fr⟩) = false from hb8), List.append_nil], by omega⟩
   exact leM
  rintro g2 ⟨hg2, lg2⟩
  refine Aa (Y 10 rfl (by kernel_rfl) ?_)
  simp only [go_sem, simprocAttr, EU, Bz, BV]
  and_intros <;> try exact sdA
  refine Ab rfl (fun hb10 => ?_) fun hb10 => ?_
  ·refine Z 11 rfl ?_
   simp only [go_sem, simprocAttr, EU, Bz, BV]
   and_intros <;> try exact sdA
   refine Z 4 rfl ?_
   simp only [go_sem, simprocAttr, inI, EU, Bz, BV]
   and_intros <;> try exact sdA
   refine hKL0 (i + 1, g2 ++ [⟨2, sTx ++ dec i⟩]) _ ?_ ?_ ?_
   ·(try dsimp only); refine ⟨hc3, ?_, by simp only [List.length_append, List.length_cons, List.length_nil]; omega⟩; rw [Ib, BX _ _ _ hc3, hxx, JY, Dx (b := Agr ⟨a, b, c, dd, e, f, fr⟩) hb10, hg2, hg1, hg]; simp only [List.append_assoc]
   ·(try dsimp only); omega
   refine Le.mk _ _ ?_ ?_ rfl <;> simp only [go_sem, simprocAttr, List.length_append, List.length_cons, List.length_nil] <;> and_intros <;> try exact leA
  refine Ac ?_
  refine Z 4 rfl ?_
  simp only [go_sem, simprocAttr, inI, EU, Bz, BV]
  and_intros <;> try exact sdA
  refine hKL0 (i + 1, g2) _ ?_ ?_ ?_
  ·(try dsimp only); refine ⟨hc3, ?_, by omega⟩; rw [Ib, BX _ _ _ hc3, hxx, JY, Dy (b := Agr ⟨a, b, c, dd, e, f, fr⟩) hb10, hg2, hg1, hg]; simp only [List.append_assoc, List.append_nil]
  ·(try dsimp only); omega
  exact leM
 simp only [hcL] at hc3
 refine Ai ?_
 simp only [go_sem, simprocAttr]
 refine Aa (Z 12 rfl ?_)
 simp only [go_sem, simprocAttr, EU, Bz, BV]
 refine AW.le (s' := ⟨mkE [(2, .list (An g) false)], mkH []⟩) (Le.mk _ _ ?_ ?_ rfl) (Ae (hQ _ _ (.inl rfl) ?_ ?_ ?_)) <;> simp only [go_sem, simprocAttr, NR]
 ·exact Cq rfl (by rw [Bk]) rfl (Bq _)
 rw [hg, Nat.le_antisymm hi hc3]
def exC (s : Int) : Coupon := ⟨⟨⟨[], 0, 0, [], [], 0, 0⟩, []⟩, [], s, 0⟩
def exT (s : Int) : Ticket := ⟨0, [], ⟨[], [], []⟩, [exC s], 0, [], 0, 5⟩
theorem XK {s : Int} (h : inI s) : Yt (exT s) := by
 unfold inI at h
 refine ⟨?_, by simp [exT], by simp [exT]⟩
 simp [exT, exC, Ticket.ok, Coupon.ok, Want.ok, Seg.ok, Person.ok, Charge.ok, inI, h]
theorem AkB : FU (exT 1) 5 = (exT 8, 0) := by simp [FU, exT, exC, PM, DJ, vUp, vTk]
theorem AkA : FU (exT 8) 5 = (Ticket.zero, 27) := by simp [FU, exT, exC, PM, DJ, vUp, vTk]
theorem ex1 : gOf aVd fVd [.agg [.int .i64 0, .str [], .str [], .str [], .str [], .list [[.str [], .int .i64 0, .int .i64 0, .str [], .str [], .int .i64 0, .int .i64 0, .str [], .str [], .int .i64 1, .int .i64 0]] false, .int .i64 0, .list [] false, .int .i64 0, .int .i64 5], .int .i64 5] = (Yt (exT 1), .tup [.agg [.int .i64 0, .str [], .str [], .str [], .str [], .list [[.str [], .int .i64 0, .int .i64 0, .str [], .str [], .int .i64 0, .int .i64 0, .str [], .str [], .int .i64 8, .int .i64 0]] false, .int .i64 0, .list [] false, .int .i64 0, .int .i64 5], .int .i64 0]) := (Ar MF (exT 1, 5)).trans (by rw [fVd, AkB]; rfl)
theorem ex8 : gOf aVd fVd [.agg [.int .i64 0, .str [], .str [], .str [], .str [], .list [[.str [], .int .i64 0, .int .i64 0, .str [], .str [], .int .i64 0, .int .i64 0, .str [], .str [], .int .i64 8, .int .i64 0]] false, .int .i64 0, .list [] false, .int .i64 0, .int .i64 5], .int .i64 5] = (Yt (exT 8), .tup [.agg [.int .i64 0, .str [], .str [], .str [], .str [], .list [] false, .int .i64 0, .list [] false, .int .i64 0, .int .i64 0], .int .i64 27]) := (Ar MF (exT 8, 5)).trans (by rw [fVd, AkA]; rfl)
theorem exK : gOf aTk Agl [.agg [.int .i64 0, .str [], .str [], .str [], .str [], .list [[.str [], .int .i64 0, .int .i64 0, .str [], .str [], .int .i64 0, .int .i64 0, .str [], .str [], .int .i64 1, .int .i64 0]] false, .int .i64 0, .list [] false, .int .i64 0, .int .i64 5]] = (Yt (exT 1), .list (An (Ab3 (exT 1))) false) := Ar Tx (exT 1)
theorem HJ : (0 : Int) < ((Ab3 (exT 1)).length : Int) := by
 rw [Ab3, Dx (b := !Cs (exT 1).number) (by decide)]
 simp only [List.length_append, List.length_cons]; omega
def tEx : Tab
 | 44 => (gOf aVd fVd)
 | 24 => (gOf aTk Agl)
 | _ => gNo
theorem AcY : ∀ f, PU f (tEx f) := fun f => by
 unfold tEx
 split
 ·exact Ach
 ·exact Abl
 ·exact Ao.no
theorem Akz : PU 13 (gOf MG Wu) := by
 have hG := AcY
 have hk1 := XK (s := 1) (by unfold inI; omega)
 have hk8 := XK (s := 8) (by unfold inI; omega)
 refine Ajo.a Lv (by simp [MG]) ?_
 rintro ⟨⟩ hv C hN Q hQ
 have Z := Ajo.R EF0 hG hN
 refine Aa (Z 0 rfl ?_)
 simp only [go_sem, simprocAttr, MG, tEx, ex1, ex8, exK, hk1, hk8, HJ]
 refine Aa (Z 1 rfl ?_)
 simp only [go_sem, simprocAttr, tEx, ex1, ex8, exK, hk1, hk8, HJ]
 refine AW.le (s' := ⟨mkE [(1, .ptr 1 0)], mkH ([(1, .box 47 [.int .i64 0, .str [], .str [], .str [], .str [], .list [[.str [], .int .i64 0, .int .i64 0, .str [], .str [], .int .i64 0, .int .i64 0, .str [], .str [], .int .i64 1, .int .i64 0]] false, .int .i64 0, .list [] false, .int .i64 0, .int .i64 5])])⟩) (Le.mk _ _ (by (simp only [go_sem, simprocAttr]) <;> and_intros <;> try exact leB) (by (simp only [go_sem, simprocAttr]) <;> and_intros <;> try exact leB) rfl) ?_
 refine Aa (Z 2 rfl ?_)
 simp only [go_sem, simprocAttr, tEx, ex1, ex8, exK, hk1, hk8, HJ]
 and_intros <;> try exact sdA
 refine Aa (Z 3 rfl ?_)
 simp only [go_sem, simprocAttr, tEx, ex1, ex8, exK, hk1, hk8, HJ]
 and_intros <;> try exact sdA
 refine Aa (Z 4 rfl ?_)
 simp only [go_sem, simprocAttr, tEx, ex1, ex8, exK, hk1, hk8, HJ]
 and_intros <;> try exact sdA
 refine Ae (hQ _ _ (.inl rfl) ?_ ?_ ?_) <;> simp only [go_sem, simprocAttr, Wu]
def eqL {α : Type} (e : α → α → Bool) : List α → List α → Bool
 | [], [] => true
 | a :: l, b :: r => e a b && eqL e l r
 | _, _ => false
theorem XL {α : Type} {e : α → α → Bool} : ∀ {l r : List α}, l.length ≠ r.length → eqL e l r = false
 | [], [], h => absurd rfl h
 | [], _ :: _, _ => rfl
 | _ :: _, [], _ => rfl
 | a :: l, b :: r, h => by rw [eqL, XL (l := l) (r := r) (fun h2 => h (by simp [h2])), Bool.and_false]
theorem Og {α : Type} (e : α → α → Bool) {l r : List α} {i : Nat} (h : i < l.length) (h2 : i < r.length) : eqL e (l.drop i) (r.drop i) = (e l[i] r[i] && eqL e (l.drop (i + 1)) (r.drop (i + 1))) := by
 rw [List.drop_eq_getElem_cons h, List.drop_eq_getElem_cons h2, eqL]
theorem JE {α : Type} {e : α → α → Bool} (he : ∀ a, e a a = true) : ∀ l : List α, eqL e l l = true
 | [] => rfl
 | a :: l => by rw [eqL, he, JE he l]; rfl
theorem SA {α : Type} {e : α → α → Bool} {l r : List α} (h : eqL e l r = true) : l.length = r.length := by
 rcases Nat.decEq l.length r.length with h2 | h2
 ·rw [XL h2] at h; cases h
 ·exact h2
def eCC (a b : Coupon) : Bool := Fb a.enc b.enc
def eHH (a b : Charge) : Bool := Fb a.enc b.enc
theorem WF (a : Coupon) : eCC a a = true := by simp [eCC, Coupon.enc, Fb, eqV]
theorem WE (a : Charge) : eHH a a = true := by simp [eHH, Charge.enc, Fb, eqV]
end Go.Proofs.YtjkclhbckfkeeaaGreatDoor
end
