import Derived.Test.YtjkclhbckfkeeaaGreatDoorTr3
import Derived.Test.YtjkclhbckfkeeaaGreatDoorGr1
set_option linter.unusedSimpArgs false
set_option linter.unusedVariables false
set_option linter.deprecated false
set_option maxHeartbeats 8000000
noncomputable section
namespace Go.Proofs.YtjkclhbckfkeeaaGreatDoor
open Go Go.RowKit
structure Deal where
 residual : Int
 fee : Int
 collect : Int
 credit : Int
def Deal.enc (x : Deal) : List V := [.int .i64 x.residual, .int .i64 x.fee, .int .i64 x.collect, .int .i64 x.credit]
def Deal.zero : Deal := ⟨0, 0, 0, 0⟩
theorem Deal.rows (l : List Deal) : (∀ r ∈ l.map Deal.enc, r.length = 4) ↔ True := iff_true_intro fun r hr => by obtain ⟨x, _, rfl⟩ := Am.1 hr; rfl
theorem Deal.purs (l : List Deal) : (∀ r ∈ l.map Deal.enc, V.purs r = true) ↔ True := iff_true_intro fun r hr => by obtain ⟨x, _, rfl⟩ := Am.1 hr; rfl
attribute [go_sem] Deal.rows Deal.purs
instance : Inhabited Deal := ⟨Deal.zero⟩
theorem Bv.set {t : Ticket} (h : Bv t) {k : Nat} (hk : k < t.coupons.length) {n : Int} (h1 : 0 <= n /\ n <= 8) : Bv (vTk t (t.coupons.set k (stc t.coupons[k] n))) := by
 obtain ⟨⟨a1, a2, a3, ⟨a4, a5⟩, a6, a7, a8, a9⟩, b, c⟩ := h
 have hm := a5 _ (AI hk)
 refine ⟨⟨a1, a2, a3, ⟨by show (t.coupons.set k _).length <= _; rw [Gc]; exact a4, fun z hz => ?_⟩, a6, a7, a8, a9⟩, by show (t.coupons.set k _).length <= _; rw [Gc]; exact b, c⟩
 rcases PJ hz with h | rfl
 ·exact a5 _ h
 ·exact ⟨hm.1, hm.2.1, by unfold inI; show _ <= n /\ n <= _; omega, hm.2.2.2⟩
theorem zero_ok : Bv Ticket.zero := ⟨by simp [Ticket.zero, Ticket.ok, Person.zero, Person.ok, inI], by simp [Ticket.zero], by simp [Ticket.zero]⟩
theorem QI.ok {t t' : Ticket} {a e n : Int} {k : Nat} (h : Bv t) (m : QI t a e n k t') : Bv t' := by
 obtain ⟨hk, _, h1, rfl, _, _⟩ := m
 exact h.set hk h1
def rf1 (c : Coupon) : Coupon := if c.status = 1 then stc c 7 else c
def rG (l : List Coupon) (i : Nat) : List Coupon := (l.take i).map rf1 ++ l.drop i
theorem NU (l : List Coupon) (i : Nat) : (rG l i).length = l.length := by unfold rG; simp; omega
theorem TM {l : List Coupon} {i : Nat} (h : i < l.length) : (rG l i)[i]'(by rw [NU]; exact h) = l[i] := by
 unfold rG
 rw [List.getElem_append_right (by simp; omega)]
 simp [Nat.min_eq_left (Nat.le_of_lt h)]
theorem AbC {l : List Coupon} {i : Nat} (h : i < l.length) : (rG l i).set i (rf1 l[i]) = rG l (i + 1) := by
 unfold rG
 have e : i - ((l.take i).map rf1).length = 0 := by simp; omega
 rw [List.set_append_right _ _ (by simp; omega), e, Dm h, DO, EH, DL h]; rfl
theorem AiW {l : List Coupon} {i : Nat} (h : i < l.length) (hs : ¬ l[i].status = 1) : rG l (i + 1) = rG l i := by
 rw [<- AbC h, show rf1 l[i] = (rG l i)[i]'(by rw [NU]; exact h) by rw [TM h]; unfold rf1; rw [if_neg hs], List.set_getElem_self]
def vAP (y : Ticket × Paid × Int) : V := .tup [.agg (Bu y.1), .agg y.2.1.enc, .int .i64 y.2.2]
def RAp (x : Ticket × Int) (y : Ticket × Paid × Int) : Prop := Bv y.1 /\ (y.2.2 = 0 -> PdK x.1 x.2 y.2.1 /\ y.1 = vTk x.1 (x.1.coupons.map rf1))
theorem AbB {t : Ticket} (h : Bv t) (i : Nat) : Bv (vTk t (rG t.coupons i)) := by
 obtain ⟨⟨a1, a2, a3, ⟨a4, a5⟩, a6, a7, a8, a9⟩, b, c⟩ := h
 refine ⟨⟨a1, a2, a3, ⟨by show (rG _ _).length <= _; rw [NU]; exact a4, fun z hz => ?_⟩, a6, a7, a8, a9⟩, by show (rG _ _).length <= _; rw [NU]; exact b, c⟩
 rcases BT.1 hz with h | h
 ·obtain ⟨y, hy, rfl⟩ := Am.1 h
  have := a5 y (EG hy)
  unfold rf1
  split
  ·exact ⟨this.1, this.2.1, by show inI 7; unfold inI; omega, this.2.2.2⟩
  ·exact this
 ·exact a5 _ (Fb h)
theorem AiX {nu : Int} {lo la fi ty : List UInt8} {cs : List Coupon} {fa : Int} {tx : List Charge} {to d : Int} (hTk : Bv ⟨nu, lo, ⟨la, fi, ty⟩, cs, fa, tx, to, d⟩) {i : Nat} (h : i < cs.length) (hs : cs[i].status = 1) :
  MvP (⟨nu, lo, ⟨la, fi, ty⟩, rG cs i, fa, tx, to, d⟩, (i : Int), 9) /\ fMv (⟨nu, lo, ⟨la, fi, ty⟩, rG cs i, fa, tx, to, d⟩, (i : Int), 9) = (⟨nu, lo, ⟨la, fi, ty⟩, rG cs (i + 1), fa, tx, to, d⟩, 0) := by
 have hcl : cs.length <= 100 := hTk.2.1
 have hMp : MvP (⟨nu, lo, ⟨la, fi, ty⟩, rG cs i, fa, tx, to, d⟩, (i : Int), 9) := ⟨AbB hTk i, by unfold inI; dsimp only; omega⟩
 refine ⟨hMp, ?_⟩
 have hgi : i < (rG cs i).length := by rw [NU]; exact h
 have hgs : (rG cs i)[i].status = 1 := by rw [TM h]; exact hs
 rcases Aa1 _ hMp with ⟨_, _, h3⟩ | ⟨h1, n, k, hk, hik, _, h2, h4, _⟩
 ·exact absurd rfl (h3 i hgi rfl hgs).1
 ·obtain rfl : i = k := by dsimp only at hik; omega
  have h7 := h4 hgs rfl
  refine Prod.ext ?_ h1
  rw [h2, h7]
  show (⟨nu, lo, ⟨la, fi, ty⟩, (rG cs i).set i (stc (rG cs i)[i] 7), fa, tx, to, d⟩ : Ticket) = _
  rw [TM h, show stc cs[i] 7 = rf1 cs[i] by unfold rf1; rw [if_pos hs], AbC h]
def tAr : Tab
 | 40 => (gOf aRf fun x => (RfP x, vPE (fRf x)))
 | 41 => (gOf Ek (Fq true))
 | 9 => (gOf aMv fun x => (MvP x, tkV (fMv x)))
 | _ => gNo
theorem Ala : ∀ f, PU f (tAr f) := fun f => by
 unfold tAr
 split
 ·exact AbO
 ·exact TA
 ·exact Tq
 ·exact Aj.no
theorem Rs : ∃ F : Ticket × Int -> Ticket × Paid × Int, (∀ x, RfP x -> RAp x (F x)) /\ PU 10 (gOf aRf fun x => (RfP x, vAP (F x))) := by
 have hG := Ala
 refine XS.p (val := vAP) (R := RAp) Oy (by simp [aRf]) ?_
 rintro ⟨⟨nu, lo, ⟨la, fi, ty⟩, cs, fa, tx, to, d⟩, fee⟩ hv Q hQ
 have Z := XS.T EF0 hG
 have hP : RfP (⟨nu, lo, ⟨la, fi, ty⟩, cs, fa, tx, to, d⟩, fee) := hv
 have hTk : Bv ⟨nu, lo, ⟨la, fi, ty⟩, cs, fa, tx, to, d⟩ := hP.1
 have hcl : cs.length <= 100 := hTk.2.1
 have hR := AbN _ hP
 obtain ⟨⟨⟨p1, p2, p3, p4⟩, e1⟩, hn⟩ : ∃ y, y = fRf (⟨nu, lo, ⟨la, fi, ty⟩, cs, fa, tx, to, d⟩, fee) := ⟨_, rfl⟩
 rw [<- hn] at hR
 refine Aa (Z 0 rfl ?_)
 simp only [go_sem, simprocAttr, aRf, Ticket.enc, tAr, CE, EU, AB]
 refine Aa (Z 1 rfl ?_)
 simp only [go_sem, simprocAttr, hP, <- hn, Paid.enc, tAr, CE, EU, AB]
 and_intros <;> try exact sdA
 refine Aa (Aa (Z 2 rfl ?_))
 simp only [go_sem, simprocAttr, tAr, CE, EU, AB]
 refine Ad rfl (fun hb2 => ?_) fun hb2 => ?_
 ·refine Aa (Z 3 rfl ?_)
  simp only [go_sem, simprocAttr, tAr, CE, EU, AB]
  refine TC.le (s' := ⟨mkE [(4, .ptr 4 0), (5, .ptr 5 0), (6, .int .i64 e1)], mkH [(4, .box 47 (Bu Ticket.zero)), (5, .box 59 [.int .i64 0, .int .i64 0, .int .i64 0, .int .i64 0])]⟩) (Le.mk _ _ ?_ ?_ rfl) (Ae (hQ _ _ (.inl rfl) ?_ ?_ ?_)) <;> simp only [go_sem, simprocAttr, Bu, Ticket.zero, Person.zero, vAP, Paid.enc]
  exact ⟨(Ticket.zero, ⟨0, 0, 0, 0⟩, e1), rfl, zero_ok, fun e => absurd e (by simpa using hb2)⟩
 obtain rfl : e1 = 0 := by simpa using hb2
 have hK := hR rfl
 refine Af ?_
 refine Aa (Aa (Z 4 rfl ?_))
 simp only [go_sem, simprocAttr, Ac, tAr, CE, EU, AB]
 refine Aq ?_
 refine Ba (α := Nat) (fun i => (i <= cs.length)) (fun i => ⟨mkE [(2, V.ptr 2 0), (4, V.ptr 4 0), (5, V.ptr 5 0), (7, V.ptr 7 0), (23, V.list (List.map Coupon.enc cs) false), (24, V.int IntKind.i64 ↑cs.length), (25, .int .i64 i)], mkH [(2, .box 47 [.int .i64 nu, .str lo, .str la, .str fi, .str ty, .list ((rG cs i).map Coupon.enc) false, .int .i64 fa, .list (tx.map Charge.enc) false, .int .i64 to, .int .i64 d]), (4, Ob.box 47 [V.int IntKind.i64 0, V.str [], V.str [], V.str [], V.str [], V.nils, V.int IntKind.i64 0, V.nils, V.int IntKind.i64 0, V.int IntKind.i64 0]), (5, Ob.box 59 [V.int IntKind.i64 0, V.int IntKind.i64 0, V.int IntKind.i64 0, V.int IntKind.i64 0]), (7, Ob.box 59 [V.int IntKind.i64 p1, V.int IntKind.i64 p2, V.int IntKind.i64 p3, V.int IntKind.i64 p4])]⟩) (fun i => cs.length - i) 0 (As _) ?_ ?_
 ·refine Le.mk _ _ ?_ ?_ rfl <;> simp only [go_sem, simprocAttr, rG, HA, HC, Ef, Hb] <;> and_intros <;> try exact leA
 rintro i hi KL0 hKL0
 try dsimp only at *
 refine Aa (Z 5 rfl ?_)
 simp only [go_sem, simprocAttr, tAr, CE, EU, AB]
 refine Aa ?_
 refine Ad rfl (fun hc5 => ?_) fun hc5 => ?_
 ·simp only [hcL] at hc5
  refine Af ?_
  refine Aa (Aq ?_)
  obtain ⟨⟨⟨⟨sa, sb, sc, sd, se, sf, sg⟩, cl⟩, ba, st, vv⟩, hcc⟩ : ∃ c, c = cs[i] := ⟨_, rfl⟩
  refine Aa (Z 6 rfl ?_)
  simp only [go_sem, simprocAttr, Ap _ _ _ _ hc5, hc5, <- hcc, Coupon.enc, tAr, CE, EU, AB]
  and_intros <;> try exact sdA
  refine Aa (Z 7 rfl ?_)
  simp only [go_sem, simprocAttr, tAr, CE, EU, AB]
  and_intros <;> try exact sdA
  refine Ad rfl (fun hb7 => ?_) fun hb7 => ?_
  ·have hst : st = 1 := by unfold opB at hb7; simpa using hb7
   obtain ⟨hMp, hMv⟩ := AiX hTk hc5 (by rw [<- hcc]; exact hst)
   refine Z 8 rfl ?_
   simp only [go_sem, simprocAttr, hMp, hMv, Bu, tAr, CE, EU, AB]
   and_intros <;> try exact sdA
   refine Z 9 rfl ?_
   simp only [go_sem, simprocAttr, inI, tAr, CE, EU, AB]
   and_intros <;> try exact sdA
   refine hKL0 (i + 1) _ ?_ ?_ ?_
   ·(try dsimp only); exact hc5
   ·(try dsimp only); omega
   exact leM
  have hst : ¬ cs[i].status = 1 := by rw [<- hcc]; unfold opB at hb7; simpa using hb7
  have hkp := AiW hc5 hst
  refine Af ?_
  refine Z 9 rfl ?_
  simp only [go_sem, simprocAttr, inI, tAr, CE, EU, AB]
  and_intros <;> try exact sdA
  refine hKL0 (i + 1) _ ?_ ?_ ?_
  ·(try dsimp only); exact hc5
  ·(try dsimp only); omega
  refine Le.mk _ _ ?_ ?_ rfl <;> simp only [go_sem, simprocAttr, hkp] <;> and_intros <;> try exact leA
 simp only [hcL] at hc5
 obtain rfl : i = cs.length := by omega
 have hend : rG cs cs.length = cs.map rf1 := by unfold rG; simp
 refine AX ?_
 simp only [go_sem, simprocAttr]
 refine Aa (FA (EF := EF0) hG mixed AmG AhT ?_)
 simp only [QR, Xh, go_sem, simprocAttr, tAr, CE, EU, AB]
 refine Ae (hQ _ _ (.inl rfl) ?_ ?_ ?_) <;> simp only [go_sem, simprocAttr, vAP, hend]
 exact ⟨(⟨nu, lo, ⟨la, fi, ty⟩, cs.map rf1, fa, tx, to, d⟩, ⟨p1, p2, p3, p4⟩, 0), rfl, by rw [<- hend]; exact AbB hTk _, fun _ => ⟨hK, rfl⟩⟩
def FM : Ticket × Int -> Ticket × Paid × Int := Rs.choose
theorem WB : ∀ x, RfP x -> RAp x (FM x) := Rs.choose_spec.1
theorem Aee : PU 10 (gOf aRf fun x => (RfP x, vAP (FM x))) := Rs.choose_spec.2
theorem Bd (nu : Int) (lo la fi ty : List UInt8) (cs : List Coupon) (fa : Int) (tx : List Charge) (to d f : Int) : gOf aRf (fun x => (RfP x, vAP (FM x))) [.agg [.int .i64 nu, .str lo, .str la, .str fi, .str ty, .list (cs.map Coupon.enc) false, .int .i64 fa, .list (tx.map Charge.enc) false, .int .i64 to, .int .i64 d], .int .i64 f] = (RfP (⟨nu, lo, ⟨la, fi, ty⟩, cs, fa, tx, to, d⟩, f), .tup [.agg (Bu (FM (⟨nu, lo, ⟨la, fi, ty⟩, cs, fa, tx, to, d⟩, f)).1), .agg (FM (⟨nu, lo, ⟨la, fi, ty⟩, cs, fa, tx, to, d⟩, f)).2.1.enc, .int .i64 (FM (⟨nu, lo, ⟨la, fi, ty⟩, cs, fa, tx, to, d⟩, f)).2.2]) := Al (F := fun x => (RfP x, vAP (FM x))) Oy (⟨nu, lo, ⟨la, fi, ty⟩, cs, fa, tx, to, d⟩, f)
theorem Aa2 {x : Ticket × Int × Int} (h : MvP x) : ((fMv x).2 ≠ 0 /\ fMv x = (Ticket.zero, (fMv x).2)) \/ ((fMv x).2 = 0 /\ ∃ c3, fMv x = (vTk x.1 c3, 0) /\ Bv (vTk x.1 c3) /\ c3.map Coupon.value = x.1.coupons.map Coupon.value) := by
 rcases Aa1 x h with ⟨h1, h2, _⟩ | ⟨h1, n, k, hm⟩
 ·exact .inl ⟨h1, Prod.ext h2 rfl⟩
 ·have hok := hm.ok h.1
  obtain ⟨hk, _, _, h2, _⟩ := hm
  rw [h2] at hok
  refine .inr ⟨h1, _, Prod.ext h2 h1, hok, ?_⟩
  rw [Kv, show (stc x.1.coupons[k] n).value = (x.1.coupons.map Coupon.value)[k]'(by rw [Ac]; exact hk) by rw [Gb]; rfl, List.set_getElem_self]
def fOu (n : Int) : Prop × V := (True, .bool (decide (n < 0) || decide (1099511627776 < n)))
theorem Fr (n : Int) : gOf BX fOu [.int .i64 n] = (True, .bool (decide (n < 0) || decide (1099511627776 < n))) := Al Gj n
theorem Aic : PU 87 (gOf BX fOu) := by
 have hG := AJ
 refine ZX.a Gj (by simp [BX]) ?_
 rintro n hv C hN Q hQ
 have Z := ZX.R EF0 hG hN
 refine Ab (Z 0 rfl ?_)
 simp only [go_sem, simprocAttr, BX]
 refine Ab (Z 1 rfl ?_)
 simp only [go_sem, simprocAttr]
 and_intros <;> try exact sdA
 refine Ag (hQ _ _ (.inl rfl) ?_ ?_ ?_) <;> simp only [go_sem, simprocAttr, fOu]
structure DlK (t : Ticket) (q : Quote) (z : Int) (d : Deal) : Prop where
 res : d.residual = opS t + txS t
 fee : d.fee = z
 col : d.collect = max (q.total + z - (opS t + txS t)) 0
 cre : d.credit = max (-(q.total + z - (opS t + txS t))) 0
 a : -1099511627776 <= opS t + txS t /\ opS t + txS t <= 1099511627776
 b : 0 <= z /\ z <= 1099511627776
 c : 0 <= q.total /\ q.total <= 1099511627776
def aEx := ar (vg Ticket.enc) (ar (vg Quote.enc) (ao vi))
theorem Ov : Ij aEx := ijr (ijg Ticket.inj) (ijr (ijg Quote.inj) (ijo iji))
def vDE (y : Deal × Int) : V := .tup [.agg y.1.enc, .int .i64 y.2]
def ExP (x : Ticket × Quote × Int) : Prop := Bv x.1 /\ inI x.2.1.total /\ inI x.2.2
def RDl (x : Ticket × Quote × Int) (y : Deal × Int) : Prop := y.2 = 0 -> DlK x.1 x.2.1 x.2.2 y.1
def tDl : Tab
 | 87 => (gOf BX fOu)
 | 40 => (gOf aRf fun x => (RfP x, vPE (fRf x)))
 | 84 => (gOf aCf Lk)
 | _ => gNo
theorem Alo : ∀ f, PU f (tDl f) := fun f => by
 unfold tDl
 split
 ·exact Aic
 ·exact AbO
 ·exact RG
 ·exact Aj.no
theorem RJ : ∃ F : Ticket × Quote × Int -> Deal × Int, (∀ x, ExP x -> RDl x (F x)) /\ PU 42 (gOf aEx fun x => (ExP x, vDE (F x))) := by
 have hG := Alo
 refine Zx.p (val := vDE) (R := RDl) Ov (by simp [aEx]) ?_
 rintro ⟨⟨nu, lo, ⟨la, fi, ty⟩, cs, fa, tx, to, d⟩, ⟨qp, qr, qx, qf, qo⟩, fee⟩ hv Q hQ
 have Z := Zx.T EF0 hG
 obtain ⟨hTk, hqo, hfe⟩ : Bv ⟨nu, lo, ⟨la, fi, ty⟩, cs, fa, tx, to, d⟩ /\ inI qo /\ inI fee := hv
 have hcl2 : cs.length <= 1000000 := by have : cs.length <= 100 := hTk.2.1; omega
 have hP : RfP (⟨nu, lo, ⟨la, fi, ty⟩, cs, fa, tx, to, d⟩, 0) := ⟨hTk, by unfold inI; dsimp only; omega⟩
 have hR := AbN _ hP
 obtain ⟨⟨⟨p1, p2, p3, p4⟩, e1⟩, hn⟩ : ∃ y, y = fRf (⟨nu, lo, ⟨la, fi, ty⟩, cs, fa, tx, to, d⟩, 0) := ⟨_, rfl⟩
 rw [<- hn] at hR
 have hk : opF 88 := .inr (.inl rfl)
 have hkk : opK 88 = true := rfl
 refine Aa (Z 0 rfl ?_)
 simp only [go_sem, simprocAttr, aEx, Ticket.enc, Quote.enc, tDl, CE, By, Fr]
 refine Aa (Aa (Z 1 rfl ?_))
 simp only [go_sem, simprocAttr, tDl, CE, By, Fr]
 and_intros <;> try exact sdA
 refine Ad rfl (fun hb1 => ?_) fun hb1 => ?_
 ·refine Aa (Z 2 rfl ?_)
  simp only [go_sem, simprocAttr, tDl, CE, By, Fr]
  refine TC.le (s' := ⟨mkE [(6, .ptr 6 0), (7, .int .i64 2)], mkH [(6, .box 63 [.int .i64 0, .int .i64 0, .int .i64 0, .int .i64 0])]⟩) (Le.mk _ _ ?_ ?_ rfl) (Ae (hQ _ _ (.inl rfl) ?_ ?_ ?_)) <;> simp only [go_sem, simprocAttr, vDE, Deal.enc]
  exact ⟨(⟨0, 0, 0, 0⟩, 2), rfl, fun e => absurd e (by decide)⟩
 have hfb : (0 <= fee /\ fee <= 1099511627776) /\ 0 <= qo /\ qo <= 1099511627776 := by simp only [Cg, decide_eq_false_iff_not] at hb1; omega
 refine Af ?_
 refine Aa (Z 3 rfl ?_)
 simp only [go_sem, simprocAttr, hP, <- hn, Paid.enc, tDl, CE, By, Fr]
 and_intros <;> try exact sdA
 refine Aa (Aa (Z 4 rfl ?_))
 simp only [go_sem, simprocAttr, tDl, CE, By, Fr]
 refine Ad rfl (fun hb4 => ?_) fun hb4 => ?_
 ·refine Aa (Z 5 rfl ?_)
  simp only [go_sem, simprocAttr, tDl, CE, By, Fr]
  refine TC.le (s' := ⟨mkE [(6, .ptr 6 0), (7, .int .i64 e1)], mkH [(6, .box 63 [.int .i64 0, .int .i64 0, .int .i64 0, .int .i64 0])]⟩) (Le.mk _ _ ?_ ?_ rfl) (Ae (hQ _ _ (.inl rfl) ?_ ?_ ?_)) <;> simp only [go_sem, simprocAttr, vDE, Deal.enc]
  exact ⟨(⟨0, 0, 0, 0⟩, e1), rfl, fun e => absurd e (by simpa using hb4)⟩
 obtain rfl : e1 = 0 := by simpa using hb4
 have hK := hR rfl
 have k1 : p1 = opS ⟨nu, lo, ⟨la, fi, ty⟩, cs, fa, tx, to, d⟩ := hK.fare
 have k2 : p2 = txS ⟨nu, lo, ⟨la, fi, ty⟩, cs, fa, tx, to, d⟩ := hK.tax
 have k3 := hK.c
 dsimp only at k3
 rw [<- k1, <- k2] at k3
 refine Af ?_
 refine Aa (Aa (Z 6 rfl ?_))
 simp only [go_sem, simprocAttr, hcl2, hk, hkk, tDl, CE, By, Fr]
 and_intros <;> try exact sdA
 refine Ad rfl (fun hb6 => ?_) fun hb6 => ?_
 ·refine Aa (Z 7 rfl ?_)
  simp only [go_sem, simprocAttr, tDl, CE, By, Fr]
  refine TC.le (s' := ⟨mkE [(6, .ptr 6 0), (7, .int .i64 27)], mkH [(6, .box 63 [.int .i64 0, .int .i64 0, .int .i64 0, .int .i64 0])]⟩) (Le.mk _ _ ?_ ?_ rfl) (Ae (hQ _ _ (.inl rfl) ?_ ?_ ?_)) <;> simp only [go_sem, simprocAttr, vDE, Deal.enc]
  exact ⟨(⟨0, 0, 0, 0⟩, 27), rfl, fun e => absurd e (by decide)⟩
 refine Af ?_
 refine Aa (Z 8 rfl ?_)
 simp only [go_sem, simprocAttr, inI, tDl, CE, By, Fr]
 and_intros <;> try exact sdA
 refine Aa (Z 9 rfl ?_)
 simp only [go_sem, simprocAttr, inI, tDl, CE, By, Fr]
 and_intros <;> try exact sdA
 refine Aa (Z 10 rfl ?_)
 simp only [go_sem, simprocAttr, inI, tDl, CE, By, Fr]
 and_intros <;> try exact sdA
 refine Aa (Aa (Z 11 rfl ?_))
 simp only [go_sem, simprocAttr, tDl, CE, By, Fr]
 refine Ad rfl (fun hc11 => ?_) fun hc11 => ?_
 ·simp only [hcL] at hc11
  refine Aa (Z 12 rfl ?_)
  simp only [go_sem, simprocAttr, tDl, CE, By, Fr]
  refine TC.le (s' := ⟨mkE [(6, .ptr 6 0), (7, .int .i64 11)], mkH [(6, .box 63 [.int .i64 0, .int .i64 0, .int .i64 0, .int .i64 0])]⟩) (Le.mk _ _ ?_ ?_ rfl) (Ae (hQ _ _ (.inl rfl) ?_ ?_ ?_)) <;> simp only [go_sem, simprocAttr, vDE, Deal.enc]
  exact ⟨(⟨0, 0, 0, 0⟩, 11), rfl, fun e => absurd e (by decide)⟩
 simp only [hcL] at hc11
 refine Af ?_
 refine Aa (Z 13 rfl ?_)
 simp only [go_sem, simprocAttr, tDl, CE, By, Fr]
 refine Ae (hQ _ _ (.inl rfl) ?_ ?_ ?_) <;> simp only [go_sem, simprocAttr, vDE, Deal.enc]
 exact ⟨(⟨p1 + p2, fee, max (qo + fee - (p1 + p2)) 0, max (-(qo + fee - (p1 + p2))) 0⟩, 0), rfl, fun _ => ⟨by dsimp only; rw [k1, k2], rfl, by dsimp only; rw [k1, k2], by dsimp only; rw [k1, k2], by dsimp only; rw [<- k1, <- k2]; exact k3, hfb.1, hfb.2⟩⟩
def fDl : Ticket × Quote × Int -> Deal × Int := RJ.choose
theorem Afk : ∀ x, ExP x -> RDl x (fDl x) := RJ.choose_spec.1
theorem Afl : PU 42 (gOf aEx fun x => (ExP x, vDE (fDl x))) := RJ.choose_spec.2
theorem Em (nu : Int) (lo la fi ty : List UInt8) (cs : List Coupon) (fa : Int) (tx : List Charge) (to d : Int) (qp : List Part) (qr : List Two) (qx : List Charge) (qf qo f : Int) : gOf aEx (fun x => (ExP x, vDE (fDl x))) [.agg [.int .i64 nu, .str lo, .str la, .str fi, .str ty, .list (cs.map Coupon.enc) false, .int .i64 fa, .list (tx.map Charge.enc) false, .int .i64 to, .int .i64 d], .agg [.list (qp.map Part.enc) false, .list (qr.map Two.enc) false, .list (qx.map Charge.enc) false, .int .i64 qf, .int .i64 qo], .int .i64 f] = (ExP (⟨nu, lo, ⟨la, fi, ty⟩, cs, fa, tx, to, d⟩, ⟨qp, qr, qx, qf, qo⟩, f), .tup [.agg (fDl (⟨nu, lo, ⟨la, fi, ty⟩, cs, fa, tx, to, d⟩, ⟨qp, qr, qx, qf, qo⟩, f)).1.enc, .int .i64 (fDl (⟨nu, lo, ⟨la, fi, ty⟩, cs, fa, tx, to, d⟩, ⟨qp, qr, qx, qf, qo⟩, f)).2]) := Al (F := fun x => (ExP x, vDE (fDl x))) Ov (⟨nu, lo, ⟨la, fi, ty⟩, cs, fa, tx, to, d⟩, ⟨qp, qr, qx, qf, qo⟩, f)
def vEA (y : Ticket × Deal × Int) : V := .tup [.agg (Bu y.1), .agg y.2.1.enc, .int .i64 y.2.2]
def REa (x : Ticket × Quote × Int) (y : Ticket × Deal × Int) : Prop := y.2.2 = 0 -> DlK x.1 x.2.1 x.2.2 y.2.1
def tEa : Tab
 | 42 => (gOf aEx fun x => (ExP x, vDE (fDl x)))
 | 9 => (gOf aMv fun x => (MvP x, tkV (fMv x)))
 | _ => gNo
theorem Alr : ∀ f, PU f (tEa f) := fun f => by
 unfold tEa
 split
 ·exact Afl
 ·exact Tq
 ·exact Aj.no
set_option maxRecDepth 20000 in
theorem RM : ∃ F : Ticket × Quote × Int -> Ticket × Deal × Int, (∀ x, ExP x -> REa x (F x)) /\ PU 11 (gOf aEx fun x => (ExP x, vEA (F x))) := by
 have hG := Alr
 refine XZ.p (val := vEA) (R := REa) Ov (by simp [aEx]) ?_
 rintro ⟨⟨nu, lo, ⟨la, fi, ty⟩, cs, fa, tx, to, d⟩, ⟨qp, qr, qx, qf, qo⟩, fee⟩ hv Q hQ
 have Z := XZ.T EF0 hG
 have hP : ExP (⟨nu, lo, ⟨la, fi, ty⟩, cs, fa, tx, to, d⟩, ⟨qp, qr, qx, qf, qo⟩, fee) := hv
 have hTk : Bv ⟨nu, lo, ⟨la, fi, ty⟩, cs, fa, tx, to, d⟩ := hP.1
 have hcl : cs.length <= 100 := hTk.2.1
 have hR := Afk _ hP
 obtain ⟨⟨⟨p1, p2, p3, p4⟩, e1⟩, hn⟩ : ∃ y, y = fDl (⟨nu, lo, ⟨la, fi, ty⟩, cs, fa, tx, to, d⟩, ⟨qp, qr, qx, qf, qo⟩, fee) := ⟨_, rfl⟩
 rw [<- hn] at hR
 refine Aa (Z 0 rfl ?_)
 simp only [go_sem, simprocAttr, aEx, Ticket.enc, Quote.enc, tEa, Em, AB]
 refine Aa (Z 1 rfl ?_)
 simp only [go_sem, simprocAttr, hP, <- hn, Deal.enc, tEa, Em, AB]
 and_intros <;> try exact sdA
 refine Aa (Aa (Z 2 rfl ?_))
 simp only [go_sem, simprocAttr, tEa, Em, AB]
 refine Ad rfl (fun hb2 => ?_) fun hb2 => ?_
 ·refine Aa (Z 3 rfl ?_)
  simp only [go_sem, simprocAttr, tEa, Em, AB]
  refine TC.le (s' := ⟨mkE [(6, .ptr 6 0), (7, .ptr 7 0), (8, .int .i64 e1)], mkH [(6, .box 47 (Bu Ticket.zero)), (7, .box 63 [.int .i64 0, .int .i64 0, .int .i64 0, .int .i64 0])]⟩) (Le.mk _ _ ?_ ?_ rfl) (Ae (hQ _ _ (.inl rfl) ?_ ?_ ?_)) <;> simp only [go_sem, simprocAttr, Bu, Ticket.zero, Person.zero, vEA, Deal.enc]
  exact ⟨(Ticket.zero, ⟨0, 0, 0, 0⟩, e1), rfl, fun e => absurd e (by simpa using hb2)⟩
 obtain rfl : e1 = 0 := by simpa using hb2
 have hK := hR rfl
 refine Af ?_
 refine Aa (Aa (Z 4 rfl ?_))
 simp only [go_sem, simprocAttr, Ac, tEa, Em, AB]
 refine Aq ?_
 refine Ba (α := Nat × (List Coupon)) (fun γ => (γ.1 <= cs.length) /\ (Bv ⟨nu, lo, ⟨la, fi, ty⟩, γ.2, fa, tx, to, d⟩)) (fun γ => ⟨mkE [(3, V.ptr 3 0), (6, V.ptr 6 0), (7, V.ptr 7 0), (9, V.ptr 9 0), (28, V.list (List.map Coupon.enc cs) false), (29, V.int IntKind.i64 ↑cs.length), (30, .int .i64 γ.1)], mkH [(3, .box 47 [.int .i64 nu, .str lo, .str la, .str fi, .str ty, .list (γ.2.map Coupon.enc) false, .int .i64 fa, .list (tx.map Charge.enc) false, .int .i64 to, .int .i64 d]), (6, Ob.box 47 [V.int IntKind.i64 0, V.str [], V.str [], V.str [], V.str [], V.nils, V.int IntKind.i64 0, V.nils, V.int IntKind.i64 0, V.int IntKind.i64 0]), (7, Ob.box 63 [V.int IntKind.i64 0, V.int IntKind.i64 0, V.int IntKind.i64 0, V.int IntKind.i64 0]), (9, Ob.box 63 [V.int IntKind.i64 p1, V.int IntKind.i64 p2, V.int IntKind.i64 p3, V.int IntKind.i64 p4])]⟩) (fun γ => cs.length - γ.1) (0, cs) ⟨As _, hTk⟩ ?_ ?_
 ·exact leM
 rintro ⟨i, c2⟩ ⟨hi, hg⟩ KL0 hKL0
 try dsimp only at *
 refine Aa (Z 5 rfl ?_)
 simp only [go_sem, simprocAttr, tEa, Em, AB]
 refine Aa ?_
 refine Ad rfl (fun hc5 => ?_) fun hc5 => ?_
 ·simp only [hcL] at hc5
  refine Af ?_
  refine Aa (Aq ?_)
  obtain ⟨⟨⟨⟨sa, sb, sc, sd, se, sf, sg⟩, cl⟩, ba, st, vv⟩, hcc⟩ : ∃ c, c = cs[i] := ⟨_, rfl⟩
  refine Aa (Z 6 rfl ?_)
  simp only [go_sem, simprocAttr, Ap _ _ _ _ hc5, hc5, <- hcc, Coupon.enc, tEa, Em, AB]
  and_intros <;> try exact sdA
  refine Aa (Aa (Z 7 rfl ?_))
  simp only [go_sem, simprocAttr, tEa, Em, AB]
  refine Ad rfl (fun hb7 => ?_) fun hb7 => ?_
  ·refine AX ?_
   simp only [go_sem, simprocAttr]
   refine Z 12 rfl ?_
   simp only [go_sem, simprocAttr, inI, tEa, Em, AB]
   and_intros <;> try exact sdA
   refine hKL0 (i + 1, c2) _ ?_ ?_ ?_
   ·(try dsimp only); exact ⟨hc5, hg⟩
   ·(try dsimp only); omega
   exact leM
  refine Af ?_
  have hMp : MvP (⟨nu, lo, ⟨la, fi, ty⟩, c2, fa, tx, to, d⟩, (i : Int), 8) := ⟨hg, by unfold inI; dsimp only; omega⟩
  have hMc := Aa2 hMp
  by_cases hq : (fMv (⟨nu, lo, ⟨la, fi, ty⟩, c2, fa, tx, to, d⟩, (i : Int), 8)).2 = 0
  ·obtain ⟨c3, hM, hk3, _⟩ := (hMc.resolve_left fun h => h.1 hq).2
   replace hM : fMv (⟨nu, lo, ⟨la, fi, ty⟩, c2, fa, tx, to, d⟩, (i : Int), 8) = (⟨nu, lo, ⟨la, fi, ty⟩, c3, fa, tx, to, d⟩, 0) := hM
   refine Aa (Z 8 rfl ?_)
   simp only [go_sem, simprocAttr, tEa, Em, AB, hMp, hM, Bu]
   and_intros <;> try exact sdA
   refine Aa (Aa (Z 9 rfl ?_))
   simp only [go_sem, simprocAttr, hq, tEa, Em, AB]
   refine Amo rfl ?_
   refine Af ?_
   refine Z 11 rfl ?_
   simp only [go_sem, simprocAttr, tEa, Em, AB]
   refine Z 12 rfl ?_
   simp only [go_sem, simprocAttr, inI, tEa, Em, AB]
   and_intros <;> try exact sdA
   refine hKL0 (i + 1, c3) _ ?_ ?_ ?_
   ·(try dsimp only); exact ⟨hc5, hk3⟩
   ·(try dsimp only); omega
   exact leM
  have hM := (hMc.resolve_right fun h => hq h.1).2
  obtain ⟨er, hre⟩ : ∃ er, er = (fMv (⟨nu, lo, ⟨la, fi, ty⟩, c2, fa, tx, to, d⟩, (i : Int), 8)).2 := ⟨_, rfl⟩
  rw [<- hre] at hM hq
  clear hre
  refine Aa (Z 8 rfl ?_)
  simp only [go_sem, simprocAttr, tEa, Em, AB, hMp, hM, Bu, Ticket.zero, Person.zero]
  and_intros <;> try exact sdA
  refine Aa (Aa (Z 9 rfl ?_))
  simp only [go_sem, simprocAttr, hq, tEa, Em, AB]
  refine Amp rfl ?_
  refine Aa (Z 10 rfl ?_)
  simp only [go_sem, simprocAttr, tEa, Em, AB]
  refine TC.le (s' := ⟨mkE [(6, .ptr 6 0), (7, .ptr 7 0), (8, .int .i64 er)], mkH [(6, .box 47 (Bu Ticket.zero)), (7, .box 63 [.int .i64 0, .int .i64 0, .int .i64 0, .int .i64 0])]⟩) (Le.mk _ _ ?_ ?_ rfl) (Ae (hQ _ _ (.inl rfl) ?_ ?_ ?_)) <;> simp only [go_sem, simprocAttr, Bu, Ticket.zero, Person.zero, vEA, Deal.enc]
  exact ⟨(Ticket.zero, ⟨0, 0, 0, 0⟩, er), rfl, fun e => absurd e hq⟩
 simp only [hcL] at hc5
 refine AX ?_
 simp only [go_sem, simprocAttr]
 refine Aa (FA (EF := EF0) hG mixed AmH AhU ?_)
 simp only [QS, Xj, go_sem, simprocAttr, tEa, Em, AB]
 refine Ae (hQ _ _ (.inl rfl) ?_ ?_ ?_) <;> simp only [go_sem, simprocAttr, vEA]
 exact ⟨(⟨nu, lo, ⟨la, fi, ty⟩, c2, fa, tx, to, d⟩, ⟨p1, p2, p3, p4⟩, 0), rfl, fun _ => hK⟩
def fEa : Ticket × Quote × Int -> Ticket × Deal × Int := RM.choose
theorem Afq : ∀ x, ExP x -> REa x (fEa x) := RM.choose_spec.1
theorem Afr : PU 11 (gOf aEx fun x => (ExP x, vEA (fEa x))) := RM.choose_spec.2
theorem Bf (nu : Int) (lo la fi ty : List UInt8) (cs : List Coupon) (fa : Int) (tx : List Charge) (to d : Int) (qp : List Part) (qr : List Two) (qx : List Charge) (qf qo f : Int) : gOf aEx (fun x => (ExP x, vEA (fEa x))) [.agg [.int .i64 nu, .str lo, .str la, .str fi, .str ty, .list (cs.map Coupon.enc) false, .int .i64 fa, .list (tx.map Charge.enc) false, .int .i64 to, .int .i64 d], .agg [.list (qp.map Part.enc) false, .list (qr.map Two.enc) false, .list (qx.map Charge.enc) false, .int .i64 qf, .int .i64 qo], .int .i64 f] = (ExP (⟨nu, lo, ⟨la, fi, ty⟩, cs, fa, tx, to, d⟩, ⟨qp, qr, qx, qf, qo⟩, f), .tup [.agg (Bu (fEa (⟨nu, lo, ⟨la, fi, ty⟩, cs, fa, tx, to, d⟩, ⟨qp, qr, qx, qf, qo⟩, f)).1), .agg (fEa (⟨nu, lo, ⟨la, fi, ty⟩, cs, fa, tx, to, d⟩, ⟨qp, qr, qx, qf, qo⟩, f)).2.1.enc, .int .i64 (fEa (⟨nu, lo, ⟨la, fi, ty⟩, cs, fa, tx, to, d⟩, ⟨qp, qr, qx, qf, qo⟩, f)).2.2]) := Al (F := fun x => (ExP x, vEA (fEa x))) Ov (⟨nu, lo, ⟨la, fi, ty⟩, cs, fa, tx, to, d⟩, ⟨qp, qr, qx, qf, qo⟩, f)
def aHT := ar (vg Cond.enc) (ao (vg Trip.enc))
theorem Mw : Ij aHT := ijr (ijg Cond.inj) (ijo (ijg Trip.inj))
def My := ar (vl Cond.enc) (ao (vg Trip.enc))
theorem Vs : Ij My := ijr (ijl Cond.inj) (ijo (ijg Trip.inj))
def Jy (n : Nat) (x : Cond × Trip) : Prop := x.1.ok /\ x.1.dep < n /\ TrpOk x.2
def Jv (n : Nat) (x : List Cond × Trip) : Prop := x.1.length <= 140737488355328 /\ (∀ c ∈ x.1, c.ok /\ c.dep < n) /\ TrpOk x.2
def RCt (x : List Cond × Trip) (y : Int) : Prop := 0 <= y /\ y <= x.1.length
abbrev gHd (n : Nat) (F : Cond × Trip -> Bool) : List V -> Prop × V := gOf aHT fun x => (Jy n x, vBB (F x))
abbrev gCt (n : Nat) (G : List Cond × Trip -> Int) : List V -> Prop × V := gOf My fun x => (Jv n x, vII (G x))
def tCn (n : Nat) (F : Cond × Trip -> Bool) : Tab
 | 159 => gHd n F
 | _ => gNo
theorem Ali {n : Nat} {F : Cond × Trip -> Bool} (hF : PU 159 (gHd n F)) : ∀ f, PU f (tCn n F f) := fun f => by
 unfold tCn
 split
 ·exact hF
 ·exact Aj.no
theorem Io (n : Nat) (F : Cond × Trip -> Bool) (k : Int) (l : List Cond) (a b x y z : Int) (t : List (List UInt8)) (t1 : List UInt8) (t2 t3 t4 t5 t6 : Int) (t7 : List (List UInt8)) (t8 : List Int) (t9 : List (List UInt8)) : gOf aHT (fun x => (Jy n x, vBB (F x))) [.agg [.int .i64 k, .list (l.map Cond.enc) false, .int .i64 a, .int .i64 b, .int .i64 x, .int .i64 y, .int .i64 z, .list (strs t) false], .agg [.str t1, .int .i64 t2, .int .i64 t3, .int .i64 t4, .int .i64 t5, .int .i64 t6, .list (strs t7) false, .list (Ao t8) false, .list (strs t9) false]] = (Jy n (.mk k l a b ⟨x, y, z⟩ t, ⟨t1, t2, t3, t4, t5, t6, t7, t8, t9⟩), .bool (F (.mk k l a b ⟨x, y, z⟩ t, ⟨t1, t2, t3, t4, t5, t6, t7, t8, t9⟩))) := by
 rw [show [V.int .i64 k, .list (l.map Cond.enc) false, .int .i64 a, .int .i64 b, .int .i64 x, .int .i64 y, .int .i64 z, .list (strs t) false] = (Cond.mk k l a b ⟨x, y, z⟩ t).enc from (Cond.enc_eq k l a b ⟨x, y, z⟩ t).symm]
 exact Al (F := fun x => (Jy n x, vBB (F x))) Mw (.mk k l a b ⟨x, y, z⟩ t, ⟨t1, t2, t3, t4, t5, t6, t7, t8, t9⟩)
theorem Ca (n : Nat) (G : List Cond × Trip -> Int) (l : List Cond) (t1 : List UInt8) (t2 t3 t4 t5 t6 : Int) (t7 : List (List UInt8)) (t8 : List Int) (t9 : List (List UInt8)) : gOf My (fun x => (Jv n x, vII (G x))) [.list (l.map Cond.enc) false, .agg [.str t1, .int .i64 t2, .int .i64 t3, .int .i64 t4, .int .i64 t5, .int .i64 t6, .list (strs t7) false, .list (Ao t8) false, .list (strs t9) false]] = (Jv n (l, ⟨t1, t2, t3, t4, t5, t6, t7, t8, t9⟩), .int .i64 (G (l, ⟨t1, t2, t3, t4, t5, t6, t7, t8, t9⟩))) := Al (F := fun x => (Jv n x, vII (G x))) Vs (l, ⟨t1, t2, t3, t4, t5, t6, t7, t8, t9⟩)
theorem AeV {n : Nat} {F : Cond × Trip -> Bool} (hF : PU 159 (gHd n F)) : ∃ G : List Cond × Trip -> Int, (∀ x, Jv n x -> RCt x (G x)) /\ PU 192 (gCt n G) := by
 have hG := Ali hF
 refine Sp.p (val := vII) (R := RCt) Vs (by simp [My]) ?_
 rintro ⟨l, ⟨t1, t2, t3, t4, t5, t6, t7, t8, t9⟩⟩ hv Q hQ
 have Y := Sp.E EF0 hG mixed
 have Z := Sp.T EF0 hG
 obtain ⟨h1, h2, h3⟩ : Jv n (l, ⟨t1, t2, t3, t4, t5, t6, t7, t8, t9⟩) := hv
 dsimp only at h1 h2
 refine Aa (Z 0 rfl ?_)
 simp only [go_sem, simprocAttr, My, Trip.enc, tCn, Io]
 refine Aa (Z 1 rfl ?_)
 simp only [go_sem, simprocAttr, tCn, Io]
 refine Aa (Aa (Z 2 rfl ?_))
 simp only [go_sem, simprocAttr, tCn, Io]
 refine Aq ?_
 refine Ba (α := Nat × Int) (fun γ => (γ.1 <= l.length) /\ (0 <= γ.2) /\ (γ.2 <= γ.1)) (fun γ => ⟨mkE [(0, V.list (List.map Cond.enc l) false), (3, V.ptr 3 0), (5, .int .i64 γ.2), (6, .int .i64 γ.1)], mkH [(3, Ob.box 164 [V.str t1, V.int IntKind.i64 t2, V.int IntKind.i64 t3, V.int IntKind.i64 t4, V.int IntKind.i64 t5, V.int IntKind.i64 t6, V.list (strs t7) false, V.list (Ao t8) false, V.list (strs t9) false])]⟩) (fun γ => l.length - γ.1) (0, 0) ⟨As _, Gu _, Gu _⟩ ?_ ?_
 ·exact leM
 rintro ⟨i, m⟩ ⟨hi, h0, hm⟩ KL0 hKL0
 try dsimp only at *
 refine Aa (Aa (Z 3 rfl ?_))
 simp only [go_sem, simprocAttr, Ac, tCn, Io]
 refine Ad rfl (fun hc3 => ?_) fun hc3 => ?_
 ·simp only [hcL] at hc3
  refine Af ?_
  refine Aa (Aq ?_)
  obtain ⟨⟨k, l2, a, b, ⟨x, y, z⟩, t⟩, hr⟩ : ∃ c, c = l[i] := ⟨_, rfl⟩
  obtain ⟨q1, q2⟩ := h2 _ (AI hc3)
  rw [<- hr] at q1 q2
  have hHP : Jy n (.mk k l2 a b ⟨x, y, z⟩ t, ⟨t1, t2, t3, t4, t5, t6, t7, t8, t9⟩) := ⟨q1, q2, h3⟩
  refine Aa (Y 5 rfl (by kernel_rfl) ?_)
  simp only [go_sem, simprocAttr, Ap _ _ _ _ hc3, hc3, Ac, <- hr, Cond.enc_eq, hHP, tCn, Io]
  and_intros <;> try exact sdA
  refine Ad rfl (fun hb5 => ?_) fun hb5 => ?_
  ·refine Z 6 rfl ?_
   simp only [go_sem, simprocAttr, inI, tCn, Io]
   and_intros <;> try exact sdA
   refine Z 4 rfl ?_
   simp only [go_sem, simprocAttr, inI, tCn, Io]
   and_intros <;> try exact sdA
   refine hKL0 (i + 1, m + 1) _ ?_ ?_ ?_
   ·(try dsimp only); exact ⟨hc3, by omega, by omega⟩
   ·(try dsimp only); omega
   exact leM
  refine Af ?_
  refine Z 4 rfl ?_
  simp only [go_sem, simprocAttr, inI, tCn, Io]
  and_intros <;> try exact sdA
  refine hKL0 (i + 1, m) _ ?_ ?_ ?_
  ·(try dsimp only); exact ⟨hc3, h0, by omega⟩
  ·(try dsimp only); omega
  exact leM
 simp only [hcL] at hc3
 refine AX ?_
 simp only [go_sem, simprocAttr]
 refine Aa (Z 7 rfl ?_)
 simp only [go_sem, simprocAttr, tCn, Io]
 refine Ae (hQ _ _ (.inl rfl) ?_ ?_ ?_) <;> simp only [go_sem, simprocAttr, vII]
 exact ⟨m, rfl, h0, by dsimp only; omega⟩
def tHd (n : Nat) (G : List Cond × Trip -> Int) : Tab
 | 192 => gCt n G
 | 193 => gOf JJ fun x => (HsP x, vBB (fHs x))
 | 194 => gOf HW fun x => (WiP x, vBB (fWi x))
 | 195 => gOf HV fun x => (BwP x, vBB (fBw x))
 | 196 => gOf Hk Ke
 | _ => gNo
theorem Alu {n : Nat} {G : List Cond × Trip -> Int} (hF : PU 192 (gCt n G)) : ∀ f, PU f (tHd n G f) := fun f => by
 unfold tHd
 split
 ·exact hF
 ·exact Agq
 ·exact AnO
 ·exact Aez
 ·exact SY
 ·exact Aj.no
theorem Agp {n : Nat} {G : List Cond × Trip -> Int} (hF : PU 192 (gCt n G)) : ∃ F : Cond × Trip -> Bool, (∀ x, Jy (n + 1) x -> RT x (F x)) /\ PU 159 (gHd (n + 1) F) := by
 have hG := Alu hF
 refine Si.p (val := vBB) (R := RT) Mw (by simp [aHT]) ?_
 rintro ⟨⟨k, l, a, b, ⟨x, y, z⟩, t⟩, ⟨t1, t2, t3, t4, t5, t6, t7, t8, t9⟩⟩ hv Q hQ
 have Y := Si.E EF0 hG mixed
 have Z := Si.T EF0 hG
 obtain ⟨h1, h2, h3⟩ : Jy (n + 1) (.mk k l a b ⟨x, y, z⟩ t, ⟨t1, t2, t3, t4, t5, t6, t7, t8, t9⟩) := hv
 dsimp only at h1 h2
 obtain ⟨o1, ⟨o2, o3⟩, o4, o5, o6, o7, o8⟩ := (Cond.ok_eq ..).1 h1
 have hC : Jv n (l, ⟨t1, t2, t3, t4, t5, t6, t7, t8, t9⟩) := ⟨o2, fun c hc => ⟨o3 c hc, by have := Cond.dep_l (.mk k l a b ⟨x, y, z⟩ t) c hc; omega⟩, h3⟩
 obtain ⟨y1, y2, y3, y4, y5, y6, y7, y8, y9⟩ := id h3
 dsimp only at y1 y2 y3 y4 y5 y6 y7 y8 y9
 have hP1 : HsP (⟨x, y, z⟩, t3) := ⟨o6, y3⟩
 have hP2 : HsP (⟨x, y, z⟩, t2) := ⟨o6, y2⟩
 have hW1 : WiP (t7, t) := ⟨y7, o7⟩
 have hW2 : WiP (t9, t) := ⟨y9, o7⟩
 have hB : BwP (t8, a, b) := y8
 refine Aa (Z 0 rfl ?_)
 simp only [go_sem, simprocAttr, aHT, Trip.enc, Cond.enc_eq, tHd, Ca, Cc, Ce, BY, AT, hC, hP1, hP2, hW1, hW2, hB, o7]
 refine Aa (Aa (Z 1 rfl ?_))
 simp only [go_sem, simprocAttr, tHd, Ca, Cc, Ce, BY, AT, hC, hP1, hP2, hW1, hW2, hB, o7]
 refine Aq (Aa (Z 2 rfl ?_))
 simp only [go_sem, simprocAttr, tHd, Ca, Cc, Ce, BY, AT, hC, hP1, hP2, hW1, hW2, hB, o7]
 refine Ad rfl (fun hc2 => ?_) fun hc2 => ?_
 ·simp only [hcL] at hc2
  refine Aa (Z 3 rfl ?_)
  simp only [go_sem, simprocAttr, tHd, Ca, Cc, Ce, BY, AT, hC, hP1, hP2, hW1, hW2, hB, o7]
  refine Ae (hQ _ _ (.inl rfl) ?_ ?_ ?_) <;> simp only [go_sem, simprocAttr, vBB]
  exact ⟨_, rfl, trivial⟩
 simp only [hcL] at hc2
 refine Aa (Z 4 rfl ?_)
 simp only [go_sem, simprocAttr, tHd, Ca, Cc, Ce, BY, AT, hC, hP1, hP2, hW1, hW2, hB, o7]
 refine Ad rfl (fun hc4 => ?_) fun hc4 => ?_
 ·simp only [hcL] at hc4
  refine Aa (Y 5 rfl (by kernel_rfl) ?_)
  simp only [go_sem, simprocAttr, Ac, tHd, Ca, Cc, Ce, BY, AT, hC, hP1, hP2, hW1, hW2, hB, o7]
  and_intros <;> try exact sdA
  refine Ae (hQ _ _ (.inl rfl) ?_ ?_ ?_) <;> simp only [go_sem, simprocAttr, vBB]
  exact ⟨_, rfl, trivial⟩
 simp only [hcL] at hc4
 refine Aa (Z 6 rfl ?_)
 simp only [go_sem, simprocAttr, tHd, Ca, Cc, Ce, BY, AT, hC, hP1, hP2, hW1, hW2, hB, o7]
 refine Ad rfl (fun hc6 => ?_) fun hc6 => ?_
 ·simp only [hcL] at hc6
  refine Aa (Z 7 rfl ?_)
  simp only [go_sem, simprocAttr, tHd, Ca, Cc, Ce, BY, AT, hC, hP1, hP2, hW1, hW2, hB, o7]
  and_intros <;> try exact sdA
  refine Ae (hQ _ _ (.inl rfl) ?_ ?_ ?_) <;> simp only [go_sem, simprocAttr, vBB]
  exact ⟨_, rfl, trivial⟩
 simp only [hcL] at hc6
 refine Aa (Z 8 rfl ?_)
 simp only [go_sem, simprocAttr, tHd, Ca, Cc, Ce, BY, AT, hC, hP1, hP2, hW1, hW2, hB, o7]
 refine Ad rfl (fun hc8 => ?_) fun hc8 => ?_
 ·simp only [hcL] at hc8
  refine Aa (Z 9 rfl ?_)
  simp only [go_sem, simprocAttr, tHd, Ca, Cc, Ce, BY, AT, hC, hP1, hP2, hW1, hW2, hB, o7]
  and_intros <;> try exact sdA
  refine Ae (hQ _ _ (.inl rfl) ?_ ?_ ?_) <;> simp only [go_sem, simprocAttr, vBB]
  exact ⟨_, rfl, trivial⟩
 simp only [hcL] at hc8
 refine Aa (Z 10 rfl ?_)
 simp only [go_sem, simprocAttr, tHd, Ca, Cc, Ce, BY, AT, hC, hP1, hP2, hW1, hW2, hB, o7]
 refine Ad rfl (fun hc10 => ?_) fun hc10 => ?_
 ·simp only [hcL] at hc10
  refine Aa (Z 11 rfl ?_)
  simp only [go_sem, simprocAttr, tHd, Ca, Cc, Ce, BY, AT, hC, hP1, hP2, hW1, hW2, hB, o7]
  and_intros <;> try exact sdA
  refine Ae (hQ _ _ (.inl rfl) ?_ ?_ ?_) <;> simp only [go_sem, simprocAttr, vBB]
  exact ⟨_, rfl, trivial⟩
 simp only [hcL] at hc10
 refine Aa (Z 12 rfl ?_)
 simp only [go_sem, simprocAttr, tHd, Ca, Cc, Ce, BY, AT, hC, hP1, hP2, hW1, hW2, hB, o7]
 refine Ad rfl (fun hc12 => ?_) fun hc12 => ?_
 ·simp only [hcL] at hc12
  refine Aa (Z 13 rfl ?_)
  simp only [go_sem, simprocAttr, tHd, Ca, Cc, Ce, BY, AT, hC, hP1, hP2, hW1, hW2, hB, o7]
  and_intros <;> try exact sdA
  refine Ae (hQ _ _ (.inl rfl) ?_ ?_ ?_) <;> simp only [go_sem, simprocAttr, vBB]
  exact ⟨_, rfl, trivial⟩
 simp only [hcL] at hc12
 refine Aa (Z 14 rfl ?_)
 simp only [go_sem, simprocAttr, tHd, Ca, Cc, Ce, BY, AT, hC, hP1, hP2, hW1, hW2, hB, o7]
 refine Ad rfl (fun hc14 => ?_) fun hc14 => ?_
 ·simp only [hcL] at hc14
  refine Aa (Ac5 (EF := EF0) hG AmL ?_)
  simp only [Ve, go_sem, simprocAttr, inI, tHd, Ca, Cc, Ce, BY, AT, hC, hP1, hP2, hW1, hW2, hB, o7]
  and_intros <;> try exact sdA
  refine Ae (hQ _ _ (.inl rfl) ?_ ?_ ?_) <;> simp only [go_sem, simprocAttr, vBB]
  exact ⟨_, rfl, trivial⟩
 simp only [hcL] at hc14
 refine Aa (Z 16 rfl ?_)
 simp only [go_sem, simprocAttr, tHd, Ca, Cc, Ce, BY, AT, hC, hP1, hP2, hW1, hW2, hB, o7]
 refine Ad rfl (fun hc16 => ?_) fun hc16 => ?_
 ·simp only [hcL] at hc16
  refine Aa (Aa (Z 17 rfl ?_))
  simp only [go_sem, simprocAttr, tHd, Ca, Cc, Ce, BY, AT, hC, hP1, hP2, hW1, hW2, hB, o7]
  refine Ad rfl (fun hc17 => ?_) fun hc17 => ?_
  ·simp only [hcL] at hc17
   refine Aa (Z 18 rfl ?_)
   simp only [go_sem, simprocAttr, tHd, Ca, Cc, Ce, BY, AT, hC, hP1, hP2, hW1, hW2, hB, o7]
   and_intros <;> try exact sdA
   refine Ae (hQ _ _ (.inl rfl) ?_ ?_ ?_) <;> simp only [go_sem, simprocAttr, vBB]
   exact ⟨_, rfl, trivial⟩
  simp only [hcL] at hc17
  refine Af ?_
  refine Aa (Z 19 rfl ?_)
  simp only [go_sem, simprocAttr, tHd, Ca, Cc, Ce, BY, AT, hC, hP1, hP2, hW1, hW2, hB, o7]
  and_intros <;> try exact sdA
  refine Ae (hQ _ _ (.inl rfl) ?_ ?_ ?_) <;> simp only [go_sem, simprocAttr, vBB]
  exact ⟨_, rfl, trivial⟩
 simp only [hcL] at hc16
 refine Aa (Z 20 rfl ?_)
 simp only [go_sem, simprocAttr, tHd, Ca, Cc, Ce, BY, AT, hC, hP1, hP2, hW1, hW2, hB, o7]
 refine Ad rfl (fun hc20 => ?_) fun hc20 => ?_
 ·simp only [hcL] at hc20
  refine Aa (Z 21 rfl ?_)
  simp only [go_sem, simprocAttr, tHd, Ca, Cc, Ce, BY, AT, hC, hP1, hP2, hW1, hW2, hB, o7]
  refine Ae (hQ _ _ (.inl rfl) ?_ ?_ ?_) <;> simp only [go_sem, simprocAttr, vBB]
  exact ⟨_, rfl, trivial⟩
 simp only [hcL] at hc20
 refine Aa (Z 22 rfl ?_)
 simp only [go_sem, simprocAttr, tHd, Ca, Cc, Ce, BY, AT, hC, hP1, hP2, hW1, hW2, hB, o7]
 refine Ad rfl (fun hc22 => ?_) fun hc22 => ?_
 ·simp only [hcL] at hc22
  refine Aa (Z 23 rfl ?_)
  simp only [go_sem, simprocAttr, tHd, Ca, Cc, Ce, BY, AT, hC, hP1, hP2, hW1, hW2, hB, o7]
  refine Ae (hQ _ _ (.inl rfl) ?_ ?_ ?_) <;> simp only [go_sem, simprocAttr, vBB]
  exact ⟨_, rfl, trivial⟩
 simp only [hcL] at hc22
 refine Aa (Z 24 rfl ?_)
 simp only [go_sem, simprocAttr, tHd, Ca, Cc, Ce, BY, AT, hC, hP1, hP2, hW1, hW2, hB, o7]
 refine Ad rfl (fun hc24 => ?_) fun hc24 => ?_
 ·simp only [hcL] at hc24
  refine Aa (Z 25 rfl ?_)
  simp only [go_sem, simprocAttr, tHd, Ca, Cc, Ce, BY, AT, hC, hP1, hP2, hW1, hW2, hB, o7]
  and_intros <;> try exact sdA
  refine Ae (hQ _ _ (.inl rfl) ?_ ?_ ?_) <;> simp only [go_sem, simprocAttr, vBB]
  exact ⟨_, rfl, trivial⟩
 simp only [hcL] at hc24
 refine Aa (Z 26 rfl ?_)
 simp only [go_sem, simprocAttr, tHd, Ca, Cc, Ce, BY, AT, hC, hP1, hP2, hW1, hW2, hB, o7]
 refine Ad rfl (fun hc26 => ?_) fun hc26 => ?_
 ·simp only [hcL] at hc26
  refine Aa (Z 27 rfl ?_)
  simp only [go_sem, simprocAttr, tHd, Ca, Cc, Ce, BY, AT, hC, hP1, hP2, hW1, hW2, hB, o7]
  and_intros <;> try exact sdA
  refine Ae (hQ _ _ (.inl rfl) ?_ ?_ ?_) <;> simp only [go_sem, simprocAttr, vBB]
  exact ⟨_, rfl, trivial⟩
 simp only [hcL] at hc26
 refine Aa (Z 28 rfl ?_)
 simp only [go_sem, simprocAttr, tHd, Ca, Cc, Ce, BY, AT, hC, hP1, hP2, hW1, hW2, hB, o7]
 refine Ad rfl (fun hc28 => ?_) fun hc28 => ?_
 ·simp only [hcL] at hc28
  refine Aa (Z 29 rfl ?_)
  simp only [go_sem, simprocAttr, tHd, Ca, Cc, Ce, BY, AT, hC, hP1, hP2, hW1, hW2, hB, o7]
  and_intros <;> try exact sdA
  refine Ae (hQ _ _ (.inl rfl) ?_ ?_ ?_) <;> simp only [go_sem, simprocAttr, vBB]
  exact ⟨_, rfl, trivial⟩
 simp only [hcL] at hc28
 refine Af ?_
 refine Aa (Z 30 rfl ?_)
 simp only [go_sem, simprocAttr, tHd, Ca, Cc, Ce, BY, AT, hC, hP1, hP2, hW1, hW2, hB, o7]
 and_intros <;> try exact sdA
 refine Ae (hQ _ _ (.inl rfl) ?_ ?_ ?_) <;> simp only [go_sem, simprocAttr, vBB]
 exact ⟨_, rfl, trivial⟩
theorem SZ : ∀ n : Nat, ∃ F : Cond × Trip -> Bool, PU 159 (gHd n F)
 | 0 => ⟨fun _ => true, Aj.no.sub fun vs hv => by
  unfold gHd gOf at hv
  split at hv
  ·exact absurd hv.2.1 (Ee _)
  ·exact hv.elim⟩
 | n + 1 => by
  obtain ⟨F, hF⟩ := SZ n
  obtain ⟨G, _, hG⟩ := AeV hF
  obtain ⟨F2, _, h2⟩ := Agp hG
  exact ⟨F2, h2⟩
def HoP (x : Cond × Trip) : Prop := x.1.ok /\ TrpOk x.2
def fHo (x : Cond × Trip) : Bool := (SZ (x.1.dep + 1)).choose x
theorem Ago : PU 159 (gOf aHT fun x => (HoP x, vBB (fHo x))) := fun vs M w cargs hv => by
 by_cases h : ∃ x, aHT x = vs
 ·obtain ⟨x, rfl⟩ := h
  rw [Al Mw] at hv ⊢
  have h1 := (SZ (x.1.dep + 1)).choose_spec (aHT x) M w cargs
  unfold gHd at h1
  rw [Al Mw] at h1
  exact h1 ⟨hv.1, Iu _, hv.2⟩
 ·exact absurd hv (by unfold gOf; rw [dif_neg h]; exact fun h => h)
theorem PF (k : Int) (l : List Cond) (a b x y z : Int) (t : List (List UInt8)) (t1 : List UInt8) (t2 t3 t4 t5 t6 : Int) (t7 : List (List UInt8)) (t8 : List Int) (t9 : List (List UInt8)) : gOf aHT (fun x => (HoP x, vBB (fHo x))) [.agg [.int .i64 k, .list (l.map Cond.enc) false, .int .i64 a, .int .i64 b, .int .i64 x, .int .i64 y, .int .i64 z, .list (strs t) false], .agg [.str t1, .int .i64 t2, .int .i64 t3, .int .i64 t4, .int .i64 t5, .int .i64 t6, .list (strs t7) false, .list (Ao t8) false, .list (strs t9) false]] = (HoP (.mk k l a b ⟨x, y, z⟩ t, ⟨t1, t2, t3, t4, t5, t6, t7, t8, t9⟩), .bool (fHo (.mk k l a b ⟨x, y, z⟩ t, ⟨t1, t2, t3, t4, t5, t6, t7, t8, t9⟩))) := by
 rw [show [V.int .i64 k, .list (l.map Cond.enc) false, .int .i64 a, .int .i64 b, .int .i64 x, .int .i64 y, .int .i64 z, .list (strs t) false] = (Cond.mk k l a b ⟨x, y, z⟩ t).enc from (Cond.enc_eq k l a b ⟨x, y, z⟩ t).symm]
 exact Al (F := fun x => (HoP x, vBB (fHo x))) Mw (.mk k l a b ⟨x, y, z⟩ t, ⟨t1, t2, t3, t4, t5, t6, t7, t8, t9⟩)
def JF := ar (vg Places.enc) (ar (vg Tariff.enc) (ao (vg Fare.enc)))
theorem VB : Ij JF := ijr (ijg Places.inj) (ijr (ijg Tariff.inj) (ijo (ijg Fare.inj)))
def vL (l : List Int) : V := .list (Ao l) false
def KT (f : Fare) : Prop := 0 <= f.amount /\ f.amount <= 1099511627776
def RFa (x : Places × Tariff × Fare) (l : List Int) : Prop := l.length <= 6 /\ (l = [] -> KT x.2.2)
theorem PG {g : List Int} {b : Bool} {e : Int} (h : g ++ iIf b e = []) : g = [] /\ b = false := by
 obtain ⟨h1, h2⟩ := Gs.1 h
 refine ⟨h1, ?_⟩
 cases b with
 | false => rfl
 | true => simp [iIf] at h2
def tFa : Tab
 | 123 => (gOf DB MM)
 | 23 => BN
 | 19 => Pz
 | 124 => (gOf JD fun x => (LnP x.1, vBB (Kf x)))
 | 95 => (gOf aTN fun x => (TarOk x.1, vRB (fRl x)))
 | 98 => (gOf aTN fun x => (TarOk x.1, vGB (Fs x)))
 | _ => gNo
theorem Alt : ∀ f, PU f (tFa f) := fun f => by
 unfold tFa
 split
 ·exact AbD
 ·exact NV
 ·exact Ai0
 ·exact AgW
 ·exact Qh
 ·exact TZ
 ·exact Aj.no
theorem RU : ∃ F : Places × Tariff × Fare -> List Int, (∀ x, LnP x.1 /\ TarOk x.2.1 /\ x.2.2.ok -> RFa x (F x)) /\ PU 67 (gOf JF fun x => (LnP x.1 /\ TarOk x.2.1 /\ x.2.2.ok, vL (F x))) := by
 have hG := Alt
 refine ZE.p (val := vL) (R := RFa) VB (by simp [JF]) ?_
 rintro ⟨⟨ps, ds⟩, ⟨fs, rs, gs, xs⟩, ⟨ca, fr, to, ba, cl, rd, am, ru, rg⟩⟩ hv Q hQ
 have Z := ZE.T EF0 hG
 obtain ⟨h1, h2, h3⟩ : LnP ⟨ps, ds⟩ /\ TarOk ⟨fs, rs, gs, xs⟩ /\ (Fare.mk ca fr to ba cl rd am ru rg).ok := hv
 simp only [Fare.ok] at h3
 obtain ⟨o1, o2, o3, o4, o5, -, o6, o7, o8⟩ := h3
 obtain ⟨k1, hk1⟩ : ∃ b, b = Kf (⟨ps, ds⟩, fr) := ⟨_, rfl⟩
 obtain ⟨k2, hk2⟩ : ∃ b, b = Kf (⟨ps, ds⟩, to) := ⟨_, rfl⟩
 obtain ⟨⟨⟨a1, ⟨k, l, a, b, ⟨x, y, z⟩, t⟩, a3, a4, a5, a6, a7, a8⟩, bR⟩, hR⟩ : ∃ y, y = fRl (⟨fs, rs, gs, xs⟩, ru) := ⟨_, rfl⟩
 obtain ⟨⟨⟨g1, g2, g3⟩, bG⟩, hT⟩ : ∃ y, y = Fs (⟨fs, rs, gs, xs⟩, rg) := ⟨_, rfl⟩
 refine Aa (Z 0 rfl ?_)
 simp only [go_sem, simprocAttr, JF, Places.enc, Tariff.enc, Fare.enc, tFa, CQ, Cz, Eo, AL, Bc]
 refine Aa (Z 1 rfl ?_)
 simp only [go_sem, simprocAttr, tFa, CQ, Cz, Eo, AL, Bc]
 refine TC.le (s' := ⟨mkE [(3, .ptr 3 0), (4, .ptr 4 0), (5, .ptr 5 0), (7, .own 999 0)], mkH ([(3, .box 25 [.list (ps.map Airport.enc) false, .list (ds.map Distance.enc) false]), (4, .box 31 [.list (fs.map Fare.enc) false, .list (rs.map Rule.enc) false, .list (gs.map Routing.enc) false, .list (xs.map Tax.enc) false]), (5, .box 96 [.str ca, .str fr, .str to, .str ba, .str cl, .bool rd, .int .i64 am, .int .i64 ru, .int .i64 rg]), (999, .arr 48 1 (Ao []))])⟩) (Le.mk _ _ (by (simp only [go_sem, simprocAttr]) <;> and_intros <;> try exact leB) (by (simp only [go_sem, simprocAttr]) <;> and_intros <;> try exact leB) rfl) ?_
 refine DT (α := (List Int)) (fun l1 => (l1 = ([] : List Int) ++ iIf (!JQ ca || !Df ba 1 8) (5)) /\ (l1.length <= ([] : List Int).length + 1)) (fun l1 => ⟨mkE [(3, V.ptr 3 0), (4, V.ptr 4 0), (5, V.ptr 5 0), (7, .own 999 l1.length)], mkH [(3, Ob.box 25 [V.list (List.map Airport.enc ps) false, V.list (List.map Distance.enc ds) false]), (4, Ob.box 31 [V.list (List.map Fare.enc fs) false, V.list (List.map Rule.enc rs) false, V.list (List.map Routing.enc gs) false, V.list (List.map Tax.enc xs) false]), (5, Ob.box 96 [V.str ca, V.str fr, V.str to, V.str ba, V.str cl, V.bool rd, V.int IntKind.i64 am, V.int IntKind.i64 ru, V.int IntKind.i64 rg]), (999, .arr 48 1 (Ao l1))]⟩) ?_ ?_
 ·intro KC2 hKC2
  refine Aa (Z 2 rfl ?_)
  simp only [go_sem, simprocAttr, o1, o4, tFa, CQ, Cz, Eo, AL, Bc]
  and_intros <;> try exact sdA
  refine Ad rfl (fun hb2 => ?_) fun hb2 => ?_
  ·refine Z 3 rfl ?_
   simp only [go_sem, simprocAttr, tFa, CQ, Cz, Eo, AL, Bc]
   and_intros <;> try exact sdA
   refine hKC2 (([] : List Int) ++ [5]) _ ?_ ?_
   ·(try dsimp only); exact ⟨by rw [FU (show (!JQ ca || !Df ba 1 8) = true from hb2)], by simp⟩
   refine Le.mk _ _ ?_ ?_ rfl <;> simp only [go_sem, simprocAttr, EE, An, Aw, Ax] <;> and_intros <;> try exact leA
  refine Af ?_
  refine hKC2 (([] : List Int)) _ ?_ ?_
  ·(try dsimp only); exact ⟨by rw [FT (show (!JQ ca || !Df ba 1 8) = false from hb2), Br], by omega⟩
  exact leM
 rintro l1 ⟨hl1, ll1⟩
 replace ll1 : l1.length <= 1 := ll1
 refine DT (α := (List Int)) (fun l2 => (l2 = l1 ++ iIf (!k1 || !k2) (14)) /\ (l2.length <= l1.length + 1)) (fun l2 => ⟨mkE [(4, V.ptr 4 0), (5, V.ptr 5 0), (7, .own 999 l2.length)], mkH [(4, Ob.box 31 [V.list (List.map Fare.enc fs) false, V.list (List.map Rule.enc rs) false, V.list (List.map Routing.enc gs) false, V.list (List.map Tax.enc xs) false]), (5, Ob.box 96 [V.str ca, V.str fr, V.str to, V.str ba, V.str cl, V.bool rd, V.int IntKind.i64 am, V.int IntKind.i64 ru, V.int IntKind.i64 rg]), (999, .arr 48 1 (Ao l2))]⟩) ?_ ?_
 ·intro KC4 hKC4
  refine Aa (Z 4 rfl ?_)
  simp only [go_sem, simprocAttr, h1, <- hk1, <- hk2, tFa, CQ, Cz, Eo, AL, Bc]
  and_intros <;> try exact sdA
  refine Ad rfl (fun hb4 => ?_) fun hb4 => ?_
  ·refine Z 5 rfl ?_
   simp only [go_sem, simprocAttr, tFa, CQ, Cz, Eo, AL, Bc]
   and_intros <;> try exact sdA
   refine hKC4 (l1 ++ [14]) _ ?_ ?_
   ·(try dsimp only); exact ⟨by rw [FU (show (!k1 || !k2) = true from hb4)], by simp⟩
   refine Le.mk _ _ ?_ ?_ rfl <;> simp only [go_sem, simprocAttr, EE, An, Aw, Ax] <;> and_intros <;> try exact leA
  refine Af ?_
  refine hKC4 (l1) _ ?_ ?_
  ·(try dsimp only); exact ⟨by rw [FT (show (!k1 || !k2) = false from hb4), Br], by omega⟩
  exact leM
 rintro l2 ⟨hl2, ll2⟩
 refine DT (α := (List Int)) (fun l3 => (l3 = l2 ++ iIf (decide (fr = to) || decide (am < 0) || decide (1099511627776 < am)) (2)) /\ (l3.length <= l2.length + 1)) (fun l3 => ⟨mkE [(4, V.ptr 4 0), (5, V.ptr 5 0), (7, .own 999 l3.length)], mkH [(4, Ob.box 31 [V.list (List.map Fare.enc fs) false, V.list (List.map Rule.enc rs) false, V.list (List.map Routing.enc gs) false, V.list (List.map Tax.enc xs) false]), (5, Ob.box 96 [V.str ca, V.str fr, V.str to, V.str ba, V.str cl, V.bool rd, V.int IntKind.i64 am, V.int IntKind.i64 ru, V.int IntKind.i64 rg]), (999, .arr 48 1 (Ao l3))]⟩) ?_ ?_
 ·intro KC6 hKC6
  refine Aa (Z 6 rfl ?_)
  simp only [go_sem, simprocAttr, tFa, CQ, Cz, Eo, AL, Bc]
  and_intros <;> try exact sdA
  refine Ad rfl (fun hb6 => ?_) fun hb6 => ?_
  ·refine Z 7 rfl ?_
   simp only [go_sem, simprocAttr, tFa, CQ, Cz, Eo, AL, Bc]
   and_intros <;> try exact sdA
   refine hKC6 (l2 ++ [2]) _ ?_ ?_
   ·(try dsimp only); exact ⟨by rw [FU (show (decide (fr = to) || decide (am < 0) || decide (1099511627776 < am)) = true from hb6)], by simp⟩
   refine Le.mk _ _ ?_ ?_ rfl <;> simp only [go_sem, simprocAttr, EE, An, Aw, Ax] <;> and_intros <;> try exact leA
  refine Af ?_
  refine hKC6 (l2) _ ?_ ?_
  ·(try dsimp only); exact ⟨by rw [FT (show (decide (fr = to) || decide (am < 0) || decide (1099511627776 < am)) = false from hb6), Br], by omega⟩
  exact leM
 rintro l3 ⟨hl3, ll3⟩
 refine DT (α := (List Int)) (fun l4 => (l4 = l3 ++ iIf (!MG cl) (16)) /\ (l4.length <= l3.length + 1)) (fun l4 => ⟨mkE [(4, V.ptr 4 0), (5, V.ptr 5 0), (7, .own 999 l4.length)], mkH [(4, Ob.box 31 [V.list (List.map Fare.enc fs) false, V.list (List.map Rule.enc rs) false, V.list (List.map Routing.enc gs) false, V.list (List.map Tax.enc xs) false]), (5, Ob.box 96 [V.str ca, V.str fr, V.str to, V.str ba, V.str cl, V.bool rd, V.int IntKind.i64 am, V.int IntKind.i64 ru, V.int IntKind.i64 rg]), (999, .arr 48 1 (Ao l4))]⟩) ?_ ?_
 ·intro KC8 hKC8
  refine Aa (Z 8 rfl ?_)
  simp only [go_sem, simprocAttr, Pz, o5, tFa, CQ, Cz, Eo, AL, Bc]
  and_intros <;> try exact sdA
  refine Ad rfl (fun hb8 => ?_) fun hb8 => ?_
  ·refine Z 9 rfl ?_
   simp only [go_sem, simprocAttr, tFa, CQ, Cz, Eo, AL, Bc]
   and_intros <;> try exact sdA
   refine hKC8 (l3 ++ [16]) _ ?_ ?_
   ·(try dsimp only); exact ⟨by rw [FU (show (!MG cl) = true from hb8)], by simp⟩
   refine Le.mk _ _ ?_ ?_ rfl <;> simp only [go_sem, simprocAttr, EE, An, Aw, Ax] <;> and_intros <;> try exact leA
  refine Af ?_
  refine hKC8 (l3) _ ?_ ?_
  ·(try dsimp only); exact ⟨by rw [FT (show (!MG cl) = false from hb8), Br], by omega⟩
  exact leM
 rintro l4 ⟨hl4, ll4⟩
 refine Aa (Z 10 rfl ?_)
 simp only [go_sem, simprocAttr, h2, <- hR, Rule.enc_at, tFa, CQ, Cz, Eo, AL, Bc]
 and_intros <;> try exact sdA
 refine DT (α := (List Int)) (fun l5 => (l5 = l4 ++ iIf (!bR) (20)) /\ (l5.length <= l4.length + 1)) (fun l5 => ⟨mkE [(4, V.ptr 4 0), (5, V.ptr 5 0), (7, .own 999 l5.length)], mkH [(4, Ob.box 31 [V.list (List.map Fare.enc fs) false, V.list (List.map Rule.enc rs) false, V.list (List.map Routing.enc gs) false, V.list (List.map Tax.enc xs) false]), (5, Ob.box 96 [V.str ca, V.str fr, V.str to, V.str ba, V.str cl, V.bool rd, V.int IntKind.i64 am, V.int IntKind.i64 ru, V.int IntKind.i64 rg]), (999, .arr 48 1 (Ao l5))]⟩) ?_ ?_
 ·intro KC11 hKC11
  refine Aa (Z 11 rfl ?_)
  simp only [go_sem, simprocAttr, tFa, CQ, Cz, Eo, AL, Bc]
  refine Ad rfl (fun hb11 => ?_) fun hb11 => ?_
  ·refine Z 12 rfl ?_
   simp only [go_sem, simprocAttr, tFa, CQ, Cz, Eo, AL, Bc]
   and_intros <;> try exact sdA
   refine hKC11 (l4 ++ [20]) _ ?_ ?_
   ·(try dsimp only); exact ⟨by rw [FU (show (!bR) = true from hb11)], by simp⟩
   refine Le.mk _ _ ?_ ?_ rfl <;> simp only [go_sem, simprocAttr, EE, An, Aw, Ax] <;> and_intros <;> try exact leA
  refine Af ?_
  refine hKC11 (l4) _ ?_ ?_
  ·(try dsimp only); exact ⟨by rw [FT (show (!bR) = false from hb11), Br], by omega⟩
  exact leM
 rintro l5 ⟨hl5, ll5⟩
 refine Aa (Z 13 rfl ?_)
 simp only [go_sem, simprocAttr, h2, <- hT, Routing.enc, tFa, CQ, Cz, Eo, AL, Bc]
 and_intros <;> try exact sdA
 refine DT (α := (List Int)) (fun l6 => (l6 = l5 ++ iIf (and (!decide (rg = 0)) (!bG)) (21)) /\ (l6.length <= l5.length + 1)) (fun l6 => ⟨mkE [(7, .own 999 l6.length)], mkH [(999, .arr 48 1 (Ao l6))]⟩) ?_ ?_
 ·intro KC14 hKC14
  refine Aa (Z 14 rfl ?_)
  simp only [go_sem, simprocAttr, tFa, CQ, Cz, Eo, AL, Bc]
  and_intros <;> try exact sdA
  refine Ad rfl (fun hb14 => ?_) fun hb14 => ?_
  ·refine Z 15 rfl ?_
   simp only [go_sem, simprocAttr, tFa, CQ, Cz, Eo, AL, Bc]
   and_intros <;> try exact sdA
   refine hKC14 (l5 ++ [21]) _ ?_ ?_
   ·(try dsimp only); exact ⟨by rw [FU (show (and (!decide (rg = 0)) (!bG)) = true from hb14)], by simp⟩
   refine Le.mk _ _ ?_ ?_ rfl <;> simp only [go_sem, simprocAttr, EE, An, Aw, Ax] <;> and_intros <;> try exact leA
  refine Af ?_
  refine hKC14 (l5) _ ?_ ?_
  ·(try dsimp only); exact ⟨by rw [FT (show (and (!decide (rg = 0)) (!bG)) = false from hb14), Br], by omega⟩
  exact leM
 rintro l6 ⟨hl6, ll6⟩
 refine Aa (Z 16 rfl ?_)
 simp only [go_sem, simprocAttr, tFa, CQ, Cz, Eo, AL, Bc]
 refine TC.le (s' := ⟨mkE [(6, .list (Ao l6) false)], mkH []⟩) (Le.mk _ _ ?_ ?_ rfl) (Ae (hQ _ _ (.inl rfl) ?_ ?_ ?_)) <;> simp only [go_sem, simprocAttr, vL]
 ·exact DA rfl (by rw [AG]) rfl (Jf _)
 refine ⟨l6, rfl, ?_, fun e => ?_⟩
 ·show l6.length <= 6; omega
 rw [hl6] at e; have e5 := (PG e).1; rw [hl5] at e5; have e4 := (PG e5).1; rw [hl4] at e4; have e3 := (PG e4).1; rw [hl3] at e3; have hb := (PG e3).2
 simp only [Cg, decide_eq_false_iff_not] at hb
 exact ⟨show 0 <= am by omega, show am <= 1099511627776 by omega⟩
def fFa : Places × Tariff × Fare -> List Int := RU.choose
theorem AfT : ∀ x : Places × Tariff × Fare, LnP x.1 /\ TarOk x.2.1 /\ x.2.2.ok -> RFa x (fFa x) := RU.choose_spec.1
theorem AfV : PU 67 (gOf JF fun x => (LnP x.1 /\ TarOk x.2.1 /\ x.2.2.ok, vL (fFa x))) := RU.choose_spec.2
theorem AfU (ps : List Airport) (ds : List Distance) (a : List Fare) (b : List Rule) (c : List Routing) (d : List Tax) (ca fr to ba cl : List UInt8) (rd : Bool) (am ru rg : Int) : gOf JF (fun x => (LnP x.1 /\ TarOk x.2.1 /\ x.2.2.ok, vL (fFa x))) [.agg [.list (ps.map Airport.enc) false, .list (ds.map Distance.enc) false], .agg [.list (a.map Fare.enc) false, .list (b.map Rule.enc) false, .list (c.map Routing.enc) false, .list (d.map Tax.enc) false], .agg [.str ca, .str fr, .str to, .str ba, .str cl, .bool rd, .int .i64 am, .int .i64 ru, .int .i64 rg]] = (LnP ⟨ps, ds⟩ /\ TarOk ⟨a, b, c, d⟩ /\ (Fare.mk ca fr to ba cl rd am ru rg).ok, .list (Ao (fFa (⟨ps, ds⟩, ⟨a, b, c, d⟩, ⟨ca, fr, to, ba, cl, rd, am, ru, rg⟩))) false) := Al (F := fun x => (LnP x.1 /\ TarOk x.2.1 /\ x.2.2.ok, vL (fFa x))) VB (⟨ps, ds⟩, ⟨a, b, c, d⟩, ⟨ca, fr, to, ba, cl, rd, am, ru, rg⟩)
end Go.Proofs.YtjkclhbckfkeeaaGreatDoor
end
