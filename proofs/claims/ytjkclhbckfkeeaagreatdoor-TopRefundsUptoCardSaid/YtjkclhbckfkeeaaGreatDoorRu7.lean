import Derived.Test.YtjkclhbckfkeeaaGreatDoorIs1
import Derived.Test.YtjkclhbckfkeeaaGreatDoorT5
import Derived.Test.YtjkclhbckfkeeaaGreatDoorPl9
import Derived.Test.YtjkclhbckfkeeaaGreatDoorSk
import Derived.Test.YtjkclhbckfkeeaaGreatDoorCob
set_option linter.unusedSimpArgs false
set_option linter.unusedVariables false
set_option linter.deprecated false
set_option maxHeartbeats 2000000
noncomputable section
namespace Go.Proofs.YtjkclhbckfkeeaaGreatDoor
open Go Go.RowKit
def CO := ar vi (ao vi)
theorem IR : Ij CO := ijr iji (ijo iji)
def BU (y : Int × Int) : V := .tup [.int .i64 y.1, .int .i64 y.2]
def Jo (c s : Int) : Int × Int := if c < 1 \/ 1000 <= c \/ s < 0 \/ 10000000000 <= s then (0, 2) else ((c * 10000000000 + s) * 10 + (c * 10000000000 + s) % 7, 0)
def fMk (x : Int × Int) : Prop × V := (True, BU (Jo x.1 x.2))
theorem Lo (a b : Int) : gOf CO fMk [.int .i64 a, .int .i64 b] = (True, BU (Jo a b)) := Al IR (a, b)
def fCk (x : Int × Int) : Prop × V := (1 <= x.1 /\ x.1 < 1000 /\ 0 <= x.2 /\ x.2 < 10000000000, .int .i64 ((x.1 * 10000000000 + x.2) % 7))
theorem Pi (a b : Int) : gOf CO fCk [.int .i64 a, .int .i64 b] = (1 <= a /\ a < 1000 /\ 0 <= b /\ b < 10000000000, .int .i64 ((a * 10000000000 + b) % 7)) := Al IR (a, b)
theorem Afe : PU 179 (gOf CO fCk) := by
 have hG := AJ
 refine YH.a IR (by simp [CO]) ?_
 rintro ⟨c, s⟩ hv C hN Q hQ
 have Z := YH.R EF0 hG hN
 obtain ⟨h1, h2, h3, h4⟩ : 1 <= c /\ c < 1000 /\ 0 <= s /\ s < 10000000000 := hv
 refine Ab (Z 0 rfl ?_)
 simp only [go_sem, simprocAttr, CO]
 refine Ab (Z 1 rfl ?_)
 simp only [go_sem, simprocAttr, inI]
 and_intros <;> try exact sdA
 refine Ag (hQ _ _ (.inl rfl) ?_ ?_ ?_) <;> simp only [go_sem, simprocAttr, fCk]
 rw [Int.tmod_eq_emod_of_nonneg (by omega)]
def tMk : Tab
 | 179 => (gOf CO fCk)
 | _ => gNo
theorem AlB : ∀ f, PU f (tMk f) := fun f => by
 unfold tMk
 split
 ·exact Afe
 ·exact Aj.no
theorem Ahe : PU 137 (gOf CO fMk) := by
 have hG := AlB
 refine Yi.a IR (by simp [CO]) ?_
 rintro ⟨c, s⟩ hv C hN Q hQ
 have Z := Yi.R EF0 hG hN
 refine Ab (Z 0 rfl ?_)
 simp only [go_sem, simprocAttr, CO, tMk, Pi]
 refine Ab (Ab (Z 1 rfl ?_))
 simp only [go_sem, simprocAttr, tMk, Pi]
 and_intros <;> try exact sdA
 refine Ai rfl (fun hb1 => ?_) fun hb1 => ?_
 ·have hm : Jo c s = (0, 2) := by unfold Jo; rw [if_pos (by simp only [Gd, decide_eq_true_eq] at hb1; omega)]
  refine Ab (Z 2 rfl ?_)
  simp only [go_sem, simprocAttr, tMk, Pi]
  refine Ag (hQ _ _ (.inl rfl) ?_ ?_ ?_) <;> simp only [go_sem, simprocAttr, fMk, BU, hm]
 have hb : 1 <= c /\ c < 1000 /\ 0 <= s /\ s < 10000000000 := by simp only [Cg, decide_eq_false_iff_not] at hb1; omega
 have hm : Jo c s = ((c * 10000000000 + s) * 10 + (c * 10000000000 + s) % 7, 0) := by unfold Jo; rw [if_neg (by omega)]
 refine Ah ?_
 refine Ab (Z 3 rfl ?_)
 simp only [go_sem, simprocAttr, inI, tMk, Pi]
 and_intros <;> try exact sdA
 refine Ag (hQ _ _ (.inl rfl) ?_ ?_ ?_) <;> simp only [go_sem, simprocAttr, fMk, BU, hm]
def MF (n : Int) : Int := (n.tdiv 10).tdiv 10000000000
def Oc (n : Int) : Int := (n.tdiv 10).tmod 10000000000
def Fj (n : Int) : Bool := decide (Jo (MF n) (Oc n) = (n, 0))
def IC (n : Int) : Int × Int × Bool := if Fj n then (MF n, Oc n, true) else (0, 0, false)
def MX (n : Int) : Prop × V := (inI n, .tup [.int .i64 (IC n).1, .int .i64 (IC n).2.1, .bool (IC n).2.2])
theorem RQ (n : Int) : gOf BX MX [.int .i64 n] = (inI n, .tup [.int .i64 (IC n).1, .int .i64 (IC n).2.1, .bool (IC n).2.2]) := Al Gj n
def Pr (n : Int) : Prop × V := (inI n, .bool (Fj n))
theorem Ec (n : Int) : gOf BX Pr [.int .i64 n] = (inI n, .bool (Fj n)) := Al Gj n
theorem Ac7 (n k : Int) : (0 <= n -> n.tdiv k = n / k) /\ (n <= 0 -> n.tdiv k = -((-n) / k)) := by
 refine ⟨fun h => Kz h, fun h => ?_⟩
 have h1 : (-n).tdiv k = (-n) / k := Kz (by omega)
 rw [<- h1, Int.neg_tdiv, Int.neg_neg]
theorem Xi {n : Int} (h : inI n) : inI (n.tdiv 10) /\ inI (n.tdiv 10000000000) := by
 unfold inI at *
 obtain ⟨a1, a2⟩ := Ac7 n 10
 obtain ⟨b1, b2⟩ := Ac7 n 10000000000
 rcases Int.le_total 0 n with h0 | h0
 ·rw [a1 h0, b1 h0]; omega
 ·rw [a2 h0, b2 h0]; omega
def tPr : Tab
 | 137 => (gOf CO fMk)
 | _ => gNo
theorem AlM : ∀ f, PU f (tPr f) := fun f => by
 unfold tPr
 split
 ·exact Ahe
 ·exact Aj.no
theorem Aii : PU 78 (gOf BX MX) := by
 have hG := AlM
 refine ZN.a Gj (by simp [BX]) ?_
 rintro n hv C hN Q hQ
 have Z := ZN.R EF0 hG hN
 replace hv : inI n := hv
 obtain ⟨⟨m, e⟩, hme⟩ : ∃ y, Jo (MF n) (Oc n) = y := ⟨_, rfl⟩
 have hrt : Fj n = decide ((m, e) = (n, (0 : Int))) := by unfold Fj; rw [hme]
 unfold MF Oc at hme
 obtain ⟨q1, q2⟩ := Xi hv
 obtain ⟨q3, q4⟩ := Xi q1
 unfold inI at q1 q4
 refine Ab (Z 0 rfl ?_)
 simp only [go_sem, simprocAttr, BX, tPr, Lo]
 refine Ab (Z 1 rfl ?_)
 simp only [go_sem, simprocAttr, tPr, Lo]
 and_intros <;> try exact sdA
 refine Ab (Z 2 rfl ?_)
 simp only [go_sem, simprocAttr, hme, BU, tPr, Lo]
 and_intros <;> try exact sdA
 refine Ab (Ab (Z 3 rfl ?_))
 simp only [go_sem, simprocAttr, tPr, Lo]
 and_intros <;> try exact sdA
 refine Ai rfl (fun hb3 => ?_) fun hb3 => ?_
 ·have hr : Fj n = false := by rw [hrt]; refine decide_eq_false fun h => ?_; injection h with h1 h2; simp [h1, h2] at hb3
  refine Ab (Z 4 rfl ?_)
  simp only [go_sem, simprocAttr, tPr, Lo]
  refine Ag (hQ _ _ (.inl rfl) ?_ ?_ ?_) <;> simp only [go_sem, simprocAttr, MX, IC, hr]
 have hr : Fj n = true := by rw [hrt]; refine decide_eq_true ?_; simp at hb3; rw [hb3.1, hb3.2]
 refine Ah ?_
 refine Ab (Z 5 rfl ?_)
 simp only [go_sem, simprocAttr, tPr, Lo]
 refine Ag (hQ _ _ (.inl rfl) ?_ ?_ ?_) <;> simp only [go_sem, simprocAttr, MX, IC, hr, MF, Oc]
def tRg : Tab
 | 78 => (gOf BX MX)
 | _ => gNo
theorem AlS : ∀ f, PU f (tRg f) := fun f => by
 unfold tRg
 split
 ·exact Aii
 ·exact Aj.no
theorem AhD : PU 34 (gOf BX Pr) := by
 have hG := AlS
 refine Zr.a Gj (by simp [BX]) ?_
 rintro n hv C hN Q hQ
 have Z := Zr.R EF0 hG hN
 replace hv : inI n := hv
 refine Ab (Z 0 rfl ?_)
 simp only [go_sem, simprocAttr, BX, tRg, RQ]
 refine Ab (Z 1 rfl ?_)
 simp only [go_sem, simprocAttr, hv, tRg, RQ]
 and_intros <;> try exact sdA
 refine Ab (Z 2 rfl ?_)
 simp only [go_sem, simprocAttr, tRg, RQ]
 refine Ag (hQ _ _ (.inl rfl) ?_ ?_ ?_) <;> simp only [go_sem, simprocAttr, Pr]
 unfold IC; split <;> simp_all
def GJ (n : Int) : Bool := decide (0 <= n) && decide (n < 36525)
def fDy (n : Int) : Prop × V := (True, .bool (GJ n))
theorem Eb (n : Int) : gOf BX fDy [.int .i64 n] = (True, .bool (GJ n)) := Al Gj n
theorem Afd : PU 35 (gOf BX fDy) := by
 have hG := AJ
 refine Zs.a Gj (by simp [BX]) ?_
 rintro n hv C hN Q hQ
 have Z := Zs.R EF0 hG hN
 refine Ab (Z 0 rfl ?_)
 simp only [go_sem, simprocAttr, BX]
 refine Ab (Z 1 rfl ?_)
 simp only [go_sem, simprocAttr]
 and_intros <;> try exact sdA
 refine Ag (hQ _ _ (.inl rfl) ?_ ?_ ?_) <;> simp only [go_sem, simprocAttr, fDy, GJ]
def HU := ao (vl Charge.enc)
theorem Mv : Ij HU := ijo (ijl Charge.inj)
def Bv (t : Ticket) : Prop := t.ok /\ t.coupons.length <= 100 /\ t.taxes.length <= 100
def aTk := ao (vg Ticket.enc)
theorem OB : Ij aTk := ijo (ijg Ticket.inj)
def Bu (t : Ticket) : List V := [.int .i64 t.number, .str t.locator, .str t.person.last, .str t.person.first, .str t.person.type, .list (t.coupons.map Coupon.enc) false, .int .i64 t.fare, .list (t.taxes.map Charge.enc) false, .int .i64 t.total, .int .i64 t.issued]
theorem AeP (l : List Coupon) (h0 : l ≠ []) (hl : l.length <= 1000000) : Eff Tryz.prog UT 39 [.list (l.map Coupon.enc) false] [] (.own 5 l.length) [(5, .arr 57 11 (l.map Coupon.enc))] := by
 have hG := AJ
 have hne : l.map Coupon.enc ≠ [] := fun e => h0 (Nr.1 e)
 refine Zu.e (by simp) fun C hN Q hQ => ?_
 have Z := Zu.R EF0 hG hN
 refine Ab (Z 0 rfl ?_)
 simp only [go_sem, simprocAttr]
 refine Ab (Ab (Z 1 rfl ?_))
 simp only [go_sem, simprocAttr, hne]
 refine DC rfl ?_
 refine Ah ?_
 refine Ab (Z 3 rfl ?_)
 simp only [go_sem, simprocAttr]
 and_intros <;> try exact sdA
 refine Ag ?_
 show Q _ _
 refine hQ _ _ ⟨mkE [(2, .own 5 l.length)], mkH ([(5, .arr 57 11 (l.map Coupon.enc))])⟩ (.inl rfl) (Le.mk _ _ ?_ ?_ rfl) rfl ?_ ?_ <;> simp only [go_sem, simprocAttr, Ac]
theorem AeQ {d : Option Nat} {s : St} {K : St -> Prop} (nn : Nat) {l : List Coupon} (h0 : l ≠ []) (hl : l.length <= 1000000) (hn : s.h nn = none) (h1 : nn < 1000) (hK : K ⟨Cm d (.own nn l.length) s.e, hov [(nn, .arr 57 11 (l.map Coupon.enc))] s.h⟩) : Dp Tryz.prog UT d 39 [.list (l.map Coupon.enc) false] s K := by
 refine ⟨[], [(5, nn)], _, _, _, _, AeP l h0 hl, ⟨by simp [okL], rfl, rfl, by simp, ?_, by simp, by simp [V.rens, V.ren], by simp [V.nins, V.nin], by simp [V.nin], ?_, by simp⟩, ?_⟩
 ·intro p hp
  simp only [AN, Dh, or_false] at hp
  subst hp; exact ⟨hn, h1⟩
 ·intro q hq
  simp only [AN, Dh, or_false] at hq
  subst hq; simp only [Ob.nin, true_or, Coupon.purs]
 ·have e1 : (V.own 5 l.length).ren (rn ([] ++ [(5, nn)])) = .own nn l.length := by simp [V.ren, rn]
  have e2 : [((5, .arr 57 11 (l.map Coupon.enc)) : Nat × Ob)].map (fun q : Nat × Ob => (rn ([] ++ [(5, nn)]) q.1, q.2.ren (rn ([] ++ [(5, nn)])))) = [(nn, .arr 57 11 (l.map Coupon.enc))] := by simp [rn, Ob.ren, BF ((Coupon.purs _).2 trivial)]
  rw [e1, e2]; exact hK
theorem QG {h : Nat -> Option Ob} {hl : List (Nat × Ob)} {n len : Nat} {rows R : List (List V)} {t : TypeId} {sz : Nat} (hn : h n = some (.arr t sz rows)) (hm : rows.length = len) (h' : mkH hl n = none) (hp : ∀ r ∈ rows, V.purs r = true) (hR : rows = R) : Wk h hl (.own n len) (.list R false) := by
 subst hm hR; exact .frz n t sz rows hn h' hp
def vTk (t : Ticket) (l : List Coupon) : Ticket := ⟨t.number, t.locator, t.person, l, t.fare, t.taxes, t.total, t.issued⟩
def tkV (y : Ticket × Int) : V := .tup [.agg (Bu y.1), .int .i64 y.2]
structure Period where
 from' : Int
 to' : Int
 days : Int
def Period.enc (x : Period) : List V := [.int .i64 x.from', .int .i64 x.to', .int .i64 x.days]
theorem Period.inj (a b : Period) (h : a.enc = b.enc) : a = b := by
 obtain ⟨a_from', a_to', a_days⟩ := a
 obtain ⟨b_from', b_to', b_days⟩ := b
 simp only [Period.enc, Bz, V.str.injEq, V.int.injEq, V.bool.injEq, V.agg.injEq, V.list.injEq, and_true, true_and] at h
 obtain ⟨h0, h1, h2⟩ := h
 subst h0
 subst h1
 subst h2
 rfl
def Period.ok (x : Period) : Prop := inI x.from' /\ inI x.to' /\ inI x.days
theorem Period.rows (l : List Period) : (∀ r ∈ l.map Period.enc, r.length = 3) ↔ True := iff_true_intro fun r hr => by obtain ⟨x, _, rfl⟩ := Am.1 hr; rfl
theorem Period.purs (l : List Period) : (∀ r ∈ l.map Period.enc, V.purs r = true) ↔ True := iff_true_intro fun r hr => by obtain ⟨x, _, rfl⟩ := Am.1 hr; rfl
attribute [go_sem] Period.rows Period.purs
inductive Cond where
 | mk (kind : Int) (l : List Cond) (a b : Int) (p : Period) (text : List (List UInt8))
namespace Cond
def kind : Cond -> Int | mk k _ _ _ _ _ => k
def l : Cond -> List Cond | mk _ l _ _ _ _ => l
def a : Cond -> Int | mk _ _ a _ _ _ => a
def b : Cond -> Int | mk _ _ _ b _ _ => b
def p : Cond -> Period | mk _ _ _ _ p _ => p
def text : Cond -> List (List UInt8) | mk _ _ _ _ _ t => t
mutual
def enc : Cond -> List V
 | mk k l a b p t => [.int .i64 k, .list (FJ l) false, .int .i64 a, .int .i64 b, .int .i64 p.from', .int .i64 p.to', .int .i64 p.days, .list (strs t) false]
def FJ : List Cond -> List (List V)
 | [] => []
 | c :: l => c.enc :: FJ l
end
theorem XJ : ∀ l, FJ l = l.map enc
 | [] => by rw [FJ]; rfl
 | c :: l => by rw [FJ, XJ l]; rfl
theorem enc_eq (k : Int) (l : List Cond) (a b : Int) (p : Period) (t : List (List UInt8)) : (mk k l a b p t).enc = [.int .i64 k, .list (l.map enc) false, .int .i64 a, .int .i64 b, .int .i64 p.from', .int .i64 p.to', .int .i64 p.days, .list (strs t) false] := by rw [enc, XJ]
mutual
def dep : Cond -> Nat
 | mk _ l _ _ _ _ => ON l + 1
def ON : List Cond -> Nat
 | [] => 0
 | c :: l => max c.dep (ON l)
end
theorem XC : ∀ {l : List Cond} {c : Cond}, c ∈ l -> c.dep <= ON l
 | x :: l, c, h => by
  rw [ON]
  rcases AN.1 h with rfl | h
  ·omega
  ·have := XC h; omega
theorem dep_l (c : Cond) : ∀ x ∈ c.l, x.dep < c.dep := by
 obtain ⟨k, l, a, b, p, t⟩ := c
 intro x hx
 have := XC (l := l) hx
 rw [dep]; omega
mutual
def ok : Cond -> Prop
 | mk k l a b p t => inI k /\ (l.length <= 140737488355328 /\ oks l) /\ inI a /\ inI b /\ p.ok /\ (t.length <= 140737488355328 /\ ∀ z ∈ t, z.length <= 140737488355328)
def oks : List Cond -> Prop
 | [] => True
 | c :: l => c.ok /\ oks l
end
theorem Abl : ∀ l, oks l ↔ ∀ c ∈ l, c.ok
 | [] => by rw [oks]; simp
 | c :: l => by rw [oks, Abl l]; simp
theorem ok_eq (k : Int) (l : List Cond) (a b : Int) (p : Period) (t : List (List UInt8)) : (mk k l a b p t).ok ↔ inI k /\ (l.length <= 140737488355328 /\ ∀ c ∈ l, c.ok) /\ inI a /\ inI b /\ p.ok /\ (t.length <= 140737488355328 /\ ∀ z ∈ t, z.length <= 140737488355328) := by rw [ok, Abl]
mutual
theorem inj : ∀ a b : Cond, a.enc = b.enc -> a = b
 | mk k l a b p t, mk k2 l2 a2 b2 p2 t2, h => by
  rw [enc, enc] at h
  simp only [Bz, V.int.injEq, V.list.injEq, and_true, true_and] at h
  obtain ⟨h1, h2, h3, h4, h5, h6, h7, h8⟩ := h
  obtain ⟨x, y, z⟩ := p
  obtain ⟨x2, y2, z2⟩ := p2
  dsimp only at h5 h6 h7
  rw [h1, AaB l l2 h2, h3, h4, h5, h6, h7, HP h8]
theorem AaB : ∀ a b : List Cond, FJ a = FJ b -> a = b
 | [], [], _ => rfl
 | [], c :: l, h => by rw [FJ, FJ] at h; cases h
 | c :: l, [], h => by rw [FJ, FJ] at h; cases h
 | c :: l, c2 :: l2, h => by
  rw [FJ, FJ] at h
  injection h with h1 h2
  rw [inj c c2 h1, AaB l l2 h2]
end
theorem rows (l : List Cond) : (∀ r ∈ l.map enc, r.length = 8) ↔ True := iff_true_intro fun r hr => by obtain ⟨⟨k, l, a, b, p, t⟩, _, rfl⟩ := Am.1 hr; rw [enc]; rfl
theorem purs (l : List Cond) : (∀ r ∈ l.map enc, V.purs r = true) ↔ True := iff_true_intro fun r hr => by obtain ⟨⟨k, l, a, b, p, t⟩, _, rfl⟩ := Am.1 hr; rw [enc]; rfl
mutual
def siz : Cond -> Int
 | mk _ l _ _ _ _ => sizs 1 l
def sizs : Int -> List Cond -> Int
 | n, [] => n
 | n, c :: l => sizs (wr (n + c.siz)) l
end
mutual
def lev : Cond -> Int
 | mk _ l _ _ _ _ => wr (levs 0 l + 1)
def levs : Int -> List Cond -> Int
 | n, [] => n
 | n, c :: l => levs (max n c.lev) l
end
theorem AcM (c : Cond) : ∀ (l : List Cond) (n : Int), sizs n (l ++ [c]) = wr (sizs n l + c.siz)
 | [], n => by rw [Ef, sizs, sizs, sizs]
 | x :: l, n => by rw [DN, sizs, AcM c l, sizs]
theorem AaO (c : Cond) : ∀ (l : List Cond) (n : Int), levs n (l ++ [c]) = max (levs n l) c.lev
 | [], n => by rw [Ef, levs, levs, levs]
 | x :: l, n => by rw [DN, levs, AaO c l, levs]
theorem siz_step {l : List Cond} {i : Nat} (h : i < l.length) : sizs 1 (l.take (i + 1)) = wr (sizs 1 (l.take i) + l[i].siz) := by rw [Dm h, AcM]
theorem lev_step {l : List Cond} {i : Nat} (h : i < l.length) : levs 0 (l.take (i + 1)) = max (levs 0 (l.take i)) l[i].lev := by rw [Dm h, AaO]
end Cond
attribute [go_sem] Cond.rows Cond.purs
def AP (c : Cond) : List V := [.agg c.enc]
theorem FD (a b : Cond) (h : AP a = AP b) : a = b := by
 unfold AP at h
 simp only [Bz, V.agg.injEq, and_true] at h
 exact Cond.inj _ _ h
def Dv (f : Cond -> V) (n : Nat) (c : Cond) : Prop × V := (c.ok /\ c.dep < n, f c)
def He (k : Nat) (f : Cond -> V) (n : Nat) (g : Nat) : List V -> Prop × V := if g = k then gOf AP (Dv f n) else gNo
theorem Qf {k : Nat} {f : Cond -> V} (h : ∀ n, (∀ g, PU g (He k f n g)) -> PU k (gOf AP (Dv f (n + 1)))) : ∀ n, PU k (gOf AP (Dv f n))
 | 0 => by
  refine Aj.no.sub fun vs hv => ?_
  unfold gOf at hv
  split at hv
  ·exact absurd hv.2 (Ee _)
  ·exact hv.elim
 | n + 1 => h n fun g => by
  unfold He
  by_cases e : g = k
  ·subst e; rw [if_pos rfl]; exact Qf h n
  ·rw [if_neg e]; exact Aj.no
def aK := ao vi
theorem IP : Ij aK := ijo iji
def aKS := ar vi (ao V.str)
theorem Vr : Ij aKS := ijr iji (ijo ijs)
def Hk (x : List (List UInt8) × List UInt8) : List V := [.list (strs x.1) false, .str x.2]
theorem Vp (a b : List (List UInt8) × List UInt8) (h : Hk a = Hk b) : a = b := by
 obtain ⟨a_l, a_s⟩ := a
 obtain ⟨b_l, b_s⟩ := b
 simp only [Hk, Bz, V.str.injEq, V.int.injEq, V.bool.injEq, V.agg.injEq, V.list.injEq, and_true, true_and] at h
 obtain ⟨h0, h1⟩ := h
 replace h0 := HP h0
 subst h0
 subst h1
 rfl
def aPd := ao (vg Period.enc)
theorem VI : Ij aPd := ijo (ijg Period.inj)
def PS (k : Int) : Bool := (decide (k = 2) || decide (k = 3)) || decide (k = 4)
def Md (k : Int) : Bool := decide (k = 5) || decide (k = 6)
def Lb (k : Int) : Bool := (decide (k = 11) || decide (k = 13)) || decide (k = 14)
def KE (k : Int) : Int := if (decide (k = 8) || decide (k = 12)) = true then 2 else if ((decide (k = 7) || decide (k = 9)) || decide (k = 10)) = true then 1 else 0
def Pm (k : Int) : Prop × V := (True, .bool (PS k))
def MV (k : Int) : Prop × V := (True, .bool (Md k))
def MN (k : Int) : Prop × V := (True, .bool (Lb k))
def Lq (k : Int) : Prop × V := (True, .int .i64 (KE k))
theorem Pn (k : Int) : gOf aK Pm [.int .i64 k] = (True, .bool (PS k)) := Al IP k
theorem CS (k : Int) : gOf aK MV [.int .i64 k] = (True, .bool (Md k)) := Al IP k
theorem CR (k : Int) : gOf aK MN [.int .i64 k] = (True, .bool (Lb k)) := Al IP k
theorem Po (k : Int) : gOf aK Lq [.int .i64 k] = (True, .int .i64 (KE k)) := Al IP k
theorem Ahb : PU 254 (gOf aK Pm) := by
 have hG := AJ
 refine Zk.a IP (by simp [aK]) ?_
 rintro k hv C hN Q hQ
 have Z := Zk.R EF0 hG hN
 refine Ab (Z 0 rfl ?_)
 simp only [go_sem, simprocAttr, aK]
 refine Ab (Z 1 rfl ?_)
 simp only [go_sem, simprocAttr]
 and_intros <;> try exact sdA
 refine Ag (hQ _ _ (.inl rfl) ?_ ?_ ?_) <;> simp only [go_sem, simprocAttr, Pm, PS]
theorem Abv : PU 243 (gOf aK MV) := by
 have hG := AJ
 refine Zf.a IP (by simp [aK]) ?_
 rintro k hv C hN Q hQ
 have Z := Zf.R EF0 hG hN
 refine Ab (Z 0 rfl ?_)
 simp only [go_sem, simprocAttr, aK]
 refine Ab (Z 1 rfl ?_)
 simp only [go_sem, simprocAttr]
 and_intros <;> try exact sdA
 refine Ag (hQ _ _ (.inl rfl) ?_ ?_ ?_) <;> simp only [go_sem, simprocAttr, MV, Md]
theorem WR : PU 244 (gOf aK MN) := by
 have hG := AJ
 refine Zg.a IP (by simp [aK]) ?_
 rintro k hv C hN Q hQ
 have Z := Zg.R EF0 hG hN
 refine Ab (Z 0 rfl ?_)
 simp only [go_sem, simprocAttr, aK]
 refine Ab (Z 1 rfl ?_)
 simp only [go_sem, simprocAttr]
 and_intros <;> try exact sdA
 refine Ag (hQ _ _ (.inl rfl) ?_ ?_ ?_) <;> simp only [go_sem, simprocAttr, MN, Lb]
theorem AhJ : PU 255 (gOf aK Lq) := by
 have hG := AJ
 refine Zl.a IP (by simp [aK]) ?_
 rintro k hv C hN Q hQ
 have Z := Zl.R EF0 hG hN
 refine Ab (Z 0 rfl ?_)
 simp only [go_sem, simprocAttr, aK]
 refine Ab (Ab (Z 1 rfl ?_))
 simp only [go_sem, simprocAttr]
 and_intros <;> try exact sdA
 refine Ai rfl (fun hb1 => ?_) fun hb1 => ?_
 ·refine Ab (Z 2 rfl ?_)
  simp only [go_sem, simprocAttr]
  refine Ag (hQ _ _ (.inl rfl) ?_ ?_ ?_) <;> simp only [go_sem, simprocAttr, Lq, KE, hb1]
 refine Ah ?_
 refine Ab (Ab (Z 3 rfl ?_))
 simp only [go_sem, simprocAttr]
 and_intros <;> try exact sdA
 refine Ai rfl (fun hb3 => ?_) fun hb3 => ?_
 ·refine Ab (Z 4 rfl ?_)
  simp only [go_sem, simprocAttr]
  refine Ag (hQ _ _ (.inl rfl) ?_ ?_ ?_) <;> simp only [go_sem, simprocAttr, Lq, KE, hb1, hb3]
 refine Ah ?_
 refine Ab (Z 5 rfl ?_)
 simp only [go_sem, simprocAttr]
 refine Ag (hQ _ _ (.inl rfl) ?_ ?_ ?_) <;> simp only [go_sem, simprocAttr, Lq, KE, hb1, hb3]
def JQ (s : List UInt8) : Bool := Df s 2 2 && (capB (s.getD 0 0).toNat || capB (s.getD 1 0).toNat)
def MM (s : List UInt8) : Prop × V := (s.length <= 140737488355328, .bool (JQ s))
theorem CQ (s : List UInt8) : gOf DB MM [.str s] = (s.length <= 140737488355328, .bool (JQ s)) := Al MA s
theorem AeW {s : List UInt8} {a b : Int} (h : Df s a b = true) : a <= (s.length : Int) := by
 unfold Df at h
 simp only [Bx, decide_eq_true_eq] at h
 exact h.1.1
def UA : Tab
 | 23 => BN
 | 57 => (GU capB)
 | _ => gNo
theorem Ale : ∀ f, PU f (UA f) := fun f => by
 unfold UA
 split
 ·exact NV
 ·exact Uf
 ·exact Aj.no
theorem AbD : PU 123 (gOf DB MM) := by
 have hG := Ale
 refine Yb.a MA (by simp [DB]) ?_
 rintro s hv C hN Q hQ
 have Z := Yb.R EF0 hG hN
 replace hv : s.length <= 140737488355328 := hv
 refine Ab (Z 0 rfl ?_)
 simp only [go_sem, simprocAttr, DB]
 have hl : Df s 2 2 = true -> (2 : Int) <= s.length := AeW
 refine Ab (Z 1 rfl ?_)
 simp only [go_sem, simprocAttr, UA, BN, GU, hv]
 and_intros <;> try exact sdA
 ·exact fun h => ⟨h, by have := hl h; omega⟩
 ·exact fun h => ⟨h, by have := hl (by rw [Bx] at h; exact h.1); omega⟩
 refine Ag (hQ _ _ (.inl rfl) ?_ ?_ ?_) <;> simp only [go_sem, simprocAttr, MM, JQ]
def Lc (k : Int) (s : List UInt8) : Bool := if k = 11 then JQ s else if k = 13 then Cr 3 s else Df s 3 3
def Li (x : Int × List UInt8) : Prop × V := (x.2.length <= 140737488355328, .bool (Lc x.1 x.2))
theorem DG (k : Int) (s : List UInt8) : gOf aKS Li [.int .i64 k, .str s] = (s.length <= 140737488355328, .bool (Lc k s)) := Al Vr (k, s)
def tCk : Tab
 | 23 => BN
 | 123 => (gOf DB MM)
 | 129 => (gOf DB (Hs 3))
 | _ => gNo
theorem Alh : ∀ f, PU f (tCk f) := fun f => by
 unfold tCk
 split
 ·exact NV
 ·exact AbD
 ·exact TN
 ·exact Aj.no
theorem AeX : PU 245 (gOf aKS Li) := by
 have hG := Alh
 refine Zh.a Vr (by simp [aKS]) ?_
 rintro ⟨k, s⟩ hv C hN Q hQ
 have Z := Zh.R EF0 hG hN
 replace hv : s.length <= 140737488355328 := hv
 refine Ab (Z 0 rfl ?_)
 simp only [go_sem, simprocAttr, aKS, tCk, BN, CQ, AV, hv]
 refine Ab (Ab (Z 1 rfl ?_))
 simp only [go_sem, simprocAttr, tCk, BN, CQ, AV, hv]
 refine Ai rfl (fun hb1 => ?_) fun hb1 => ?_
 ·simp only [hcL] at hb1
  refine Ab (Z 2 rfl ?_)
  simp only [go_sem, simprocAttr, tCk, BN, CQ, AV, hv]
  and_intros <;> try exact sdA
  refine Ag (hQ _ _ (.inl rfl) ?_ ?_ ?_) <;> simp only [go_sem, simprocAttr, Li, Lc, hb1, if_true]
 simp only [hcL] at hb1
 refine Ah ?_
 refine Ab (Ab (Z 3 rfl ?_))
 simp only [go_sem, simprocAttr, tCk, BN, CQ, AV, hv]
 refine Ai rfl (fun hb3 => ?_) fun hb3 => ?_
 ·simp only [hcL] at hb3
  refine Ab (Z 4 rfl ?_)
  simp only [go_sem, simprocAttr, tCk, BN, CQ, AV, hv]
  and_intros <;> try exact sdA
  refine Ag (hQ _ _ (.inl rfl) ?_ ?_ ?_) <;> simp only [go_sem, simprocAttr, Li, Lc, hb1, hb3, if_true, if_false]
  try rw [if_neg (by decide)]
 simp only [hcL] at hb3
 refine Ah ?_
 refine Ab (Z 5 rfl ?_)
 simp only [go_sem, simprocAttr, tCk, BN, CQ, AV, hv]
 and_intros <;> try exact sdA
 refine Ag (hQ _ _ (.inl rfl) ?_ ?_ ?_) <;> simp only [go_sem, simprocAttr, Li, Lc, hb1, hb3, if_false]
def hasB (s : List UInt8) (l : List (List UInt8)) : Bool := l.any fun x => decide (x = s)
def Ke (x : List (List UInt8) × List UInt8) : Prop × V := (x.1.length <= 140737488355328, .bool (hasB x.2 x.1))
theorem AT (l : List (List UInt8)) (s : List UInt8) : gOf Hk Ke [.list (strs l) false, .str s] = (l.length <= 140737488355328, .bool (hasB s l)) := Al Vp (l, s)
theorem SY : PU 196 (gOf Hk Ke) := by
 have hG := AJ
 refine YR.a Vp (by simp [Hk]) ?_
 rintro ⟨l, s⟩ hv C hN Q hQ
 have Z := YR.R EF0 hG hN
 replace hv : l.length <= 140737488355328 := hv
 refine Ab (Z 0 rfl ?_)
 simp only [go_sem, simprocAttr, Hk]
 refine Ab (Ab (Z 1 rfl ?_))
 simp only [go_sem, simprocAttr]
 refine Ar ?_
 refine Bj (α := Nat) (fun i => (i <= l.length) /\ (hasB s (l.take i) = false)) (fun i => ⟨mkE [(0, V.list (strs l) false), (1, V.str s), (5, .int .i64 i)], mkH []⟩) (fun i => l.length - i) 0 ⟨As _, rfl⟩ ?_ ?_
 ·exact leM
 rintro i ⟨hi, hp⟩ KL0 hKL0
 try dsimp only at *
 refine Ab (Ab (Z 2 rfl ?_))
 simp only [go_sem, simprocAttr, EL]
 refine Ai rfl (fun hc2 => ?_) fun hc2 => ?_
 ·simp only [hcL] at hc2
  refine Ah ?_
  refine Ab (Ar ?_)
  refine Ab (Z 4 rfl ?_)
  simp only [go_sem, simprocAttr, Gz _ _ _ hc2, hc2]
  and_intros <;> try exact sdA
  refine Ai rfl (fun hb4 => ?_) fun hb4 => ?_
  ·refine Ab (Z 5 rfl ?_)
   simp only [go_sem, simprocAttr]
   refine Ag (hQ _ _ (.inl rfl) ?_ ?_ ?_) <;> simp only [go_sem, simprocAttr, Ke]
   rw [show hasB s l = true from Iv.2 ⟨_, AI hc2, hb4⟩]
  refine Ah ?_
  refine Z 3 rfl ?_
  simp only [go_sem, simprocAttr, inI]
  and_intros <;> try exact sdA
  refine hKL0 (i + 1) _ ?_ ?_ ?_
  ·(try dsimp only); exact ⟨hc2, by unfold hasB at hp ⊢; rw [Dm hc2, List.any_append, hp, List.any_cons, hb4]; rfl⟩
  ·(try dsimp only); omega
  exact leM
 simp only [hcL] at hc2
 obtain rfl : i = l.length := by omega
 refine Be ?_
 simp only [go_sem, simprocAttr]
 refine Ab (Z 6 rfl ?_)
 simp only [go_sem, simprocAttr]
 refine Ag (hQ _ _ (.inl rfl) ?_ ?_ ?_) <;> simp only [go_sem, simprocAttr, Ke]
 rw [NB] at hp; rw [hp]
def pdE (p : Period) : Int := if (decide (p.from' < 0) || decide (p.to' < p.from') || decide (36525 <= p.to')) = true then 12 else if 800 <= p.to' - p.from' then 4 else if (decide (p.days < 1) || decide (127 < p.days)) = true then 2 else 0
def fPd (p : Period) : Prop × V := (True, .int .i64 (pdE p))
theorem Dg (a b c : Int) : gOf aPd fPd [.agg [.int .i64 a, .int .i64 b, .int .i64 c]] = (True, .int .i64 (pdE ⟨a, b, c⟩)) := Al VI ⟨a, b, c⟩
theorem AbU : PU 226 (gOf aPd fPd) := by
 have hG := AJ
 refine YY.a VI (by simp [aPd]) ?_
 rintro ⟨a, b, c⟩ hv C hN Q hQ
 have Z := YY.R EF0 hG hN
 refine Ab (Z 0 rfl ?_)
 simp only [go_sem, simprocAttr, aPd, Period.enc]
 refine Ab (Ab (Z 1 rfl ?_))
 simp only [go_sem, simprocAttr]
 and_intros <;> try exact sdA
 refine Ai rfl (fun hb1 => ?_) fun hb1 => ?_
 ·refine Ab (Z 2 rfl ?_)
  simp only [go_sem, simprocAttr]
  refine Ag (hQ _ _ (.inl rfl) ?_ ?_ ?_) <;> simp only [go_sem, simprocAttr, fPd, pdE, hb1, if_true]
 obtain ⟨h1, h2, h3⟩ : 0 <= a /\ a <= b /\ b < 36525 := by simp only [Cg, decide_eq_false_iff_not] at hb1; omega
 refine Ah ?_
 refine Ab (Ab (Z 3 rfl ?_))
 simp only [go_sem, simprocAttr, inI]
 and_intros <;> try exact sdA
 refine Ai rfl (fun hb3 => ?_) fun hb3 => ?_
 ·simp only [hcL] at hb3
  refine Ab (Z 4 rfl ?_)
  simp only [go_sem, simprocAttr]
  refine Ag (hQ _ _ (.inl rfl) ?_ ?_ ?_) <;> simp only [go_sem, simprocAttr, fPd, pdE, hb1, hb3, Bl, if_true, if_false]
 simp only [hcL] at hb3
 have hb3n : ¬ 800 <= b - a := by omega
 refine Ah ?_
 refine Ab (Ab (Z 5 rfl ?_))
 simp only [go_sem, simprocAttr]
 and_intros <;> try exact sdA
 refine Ai rfl (fun hb5 => ?_) fun hb5 => ?_
 ·refine Ab (Z 6 rfl ?_)
  simp only [go_sem, simprocAttr]
  refine Ag (hQ _ _ (.inl rfl) ?_ ?_ ?_) <;> simp only [go_sem, simprocAttr, fPd, pdE, hb1, hb3n, hb5, Bl, if_true, if_false]
 refine Ah ?_
 refine Ab (Z 7 rfl ?_)
 simp only [go_sem, simprocAttr]
 refine Ag (hQ _ _ (.inl rfl) ?_ ?_ ?_) <;> simp only [go_sem, simprocAttr, fPd, pdE, hb1, hb3n, hb5, Bl, if_true, if_false]
def Ka (c : Cond) : Bool := if ((!PS c.kind && decide (0 < (c.l.length : Int))) || (!Lb c.kind && decide (0 < (c.text.length : Int)))) = true then true else ((!Md c.kind && !(decide (c.p.from' = 0) && (decide (c.p.to' = 0) && decide (c.p.days = 0)))) || (decide (KE c.kind < 1) && !decide (c.a = 0))) || (decide (KE c.kind < 2) && !decide (c.b = 0))
def FB (c : Cond) : Bool :=
 if (decide (c.kind = 2) || decide (c.kind = 3)) = true then decide ((c.l.length : Int) = 0)
 else if c.kind = 4 then !decide ((c.l.length : Int) = 1)
 else if c.kind = 7 then decide (c.a < 0) || decide (36525 <= c.a)
 else if c.kind = 8 then ((decide (c.a < 0) || decide (1440 <= c.a)) || decide (c.b < 0)) || decide (1440 <= c.b)
 else if (decide (c.kind = 9) || decide (c.kind = 10)) = true then decide (c.a < 0) || decide (6 < c.a)
 else if c.kind = 12 then (decide (c.a < 1) || decide (c.b < c.a)) || decide (9999 < c.b)
 else false
def Lm (c : Cond) : Prop × V := (c.ok, .bool (Ka c))
def FR (c : Cond) : Prop × V := (c.ok, .bool (FB c))
theorem DH (k : Int) (l : List Cond) (a b x y z : Int) (t : List (List UInt8)) : gOf AP Lm [.agg [.int .i64 k, .list (l.map Cond.enc) false, .int .i64 a, .int .i64 b, .int .i64 x, .int .i64 y, .int .i64 z, .list (strs t) false]] = ((Cond.mk k l a b ⟨x, y, z⟩ t).ok, .bool (Ka (.mk k l a b ⟨x, y, z⟩ t))) := by have := Al (F := Lm) FD (.mk k l a b ⟨x, y, z⟩ t); rw [AP, Cond.enc_eq] at this; exact this
theorem DJ (k : Int) (l : List Cond) (a b x y z : Int) (t : List (List UInt8)) : gOf AP FR [.agg [.int .i64 k, .list (l.map Cond.enc) false, .int .i64 a, .int .i64 b, .int .i64 x, .int .i64 y, .int .i64 z, .list (strs t) false]] = ((Cond.mk k l a b ⟨x, y, z⟩ t).ok, .bool (FB (.mk k l a b ⟨x, y, z⟩ t))) := by have := Al (F := FR) FD (.mk k l a b ⟨x, y, z⟩ t); rw [AP, Cond.enc_eq] at this; exact this
def Mk : Tab
 | 254 => (gOf aK Pm)
 | 244 => (gOf aK MN)
 | 243 => (gOf aK MV)
 | 255 => (gOf aK Lq)
 | _ => gNo
theorem Als : ∀ f, PU f (Mk f) := fun f => by
 unfold Mk
 split
 ·exact Ahb
 ·exact WR
 ·exact Abv
 ·exact AhJ
 ·exact Aj.no
theorem AfM : PU 241 (gOf AP Lm) := by
 have hG := Als
 refine Zd.a FD (by simp [AP]) ?_
 rintro ⟨k, l, a, b, ⟨x, y, z⟩, t⟩ hv C hN Q hQ
 have Z := Zd.R EF0 hG hN
 obtain ⟨_, ⟨hl, _⟩, _, _, _, ⟨ht, _⟩⟩ := (Cond.ok_eq ..).1 hv
 refine Ab (Z 0 rfl ?_)
 simp only [go_sem, simprocAttr, AP, Cond.enc_eq, Mk, Pn, CR, CS, Po]
 refine Ab (Ab (Z 1 rfl ?_))
 simp only [go_sem, simprocAttr, Ac, EL, Mk, Pn, CR, CS, Po]
 and_intros <;> try exact sdA
 refine Ai rfl (fun hb1 => ?_) fun hb1 => ?_
 ·refine Ab (Z 2 rfl ?_)
  simp only [go_sem, simprocAttr, Mk, Pn, CR, CS, Po]
  refine Ag (hQ _ _ (.inl rfl) ?_ ?_ ?_) <;> simp only [go_sem, simprocAttr, Lm]
  rw [show Ka (.mk k l a b ⟨x, y, z⟩ t) = true from if_pos hb1]
 refine Ah ?_
 refine Ab (Z 3 rfl ?_)
 simp only [go_sem, simprocAttr, Mk, Pn, CR, CS, Po]
 and_intros <;> try exact sdA
 refine Ag (hQ _ _ (.inl rfl) ?_ ?_ ?_) <;> simp only [go_sem, simprocAttr, Lm]
 rw [show Ka (.mk k l a b ⟨x, y, z⟩ t) = _ from if_neg (fun h => by have : true = false := h.symm.trans hb1; cases this)]; rfl
theorem Aob : PU 242 (gOf AP FR) := by
 have hG := AJ
 refine Ze.a FD (by simp [AP]) ?_
 rintro ⟨k, l, a, b, ⟨x, y, z⟩, t⟩ hv C hN Q hQ
 have Z := Ze.R EF0 hG hN
 obtain ⟨_, ⟨hl, _⟩, _, _, _, ⟨ht, _⟩⟩ := (Cond.ok_eq ..).1 hv
 refine Ab (Z 0 rfl ?_)
 simp only [go_sem, simprocAttr, AP, Cond.enc_eq, Ac]
 refine Ab (Ab (Z 1 rfl ?_))
 simp only [go_sem, simprocAttr, Ac]
 refine Ar (Ab ?_)
 refine Ab (Z 2 rfl ?_)
 simp only [go_sem, simprocAttr, Ac]
 refine Ai rfl (fun hc2 => ?_) fun hc2 => ?_
 ·simp only [hcL] at hc2
  refine Ah ?_
  refine Ai rfl (fun hc2r => ?_) fun hc2r => ?_
  ·simp only [hcL] at hc2r
   refine Ab (Z 4 rfl ?_)
   simp only [go_sem, simprocAttr, Ac]
   refine Ag (hQ _ _ (.inl rfl) ?_ ?_ ?_) <;> simp only [go_sem, simprocAttr, FR]
   refine congrArg V.bool ?_; clear hQ hG hN hv; unfold FB; dsimp only [Cond.kind, Cond.l, Cond.a, Cond.b]; first | (subst_vars; rfl) | (simp_all; done) | (simp [*]; done)
  exfalso; simp_all
 simp only [hcL] at hc2
 refine Z 3 rfl ?_
 simp only [go_sem, simprocAttr, Ac]
 refine Ai rfl (fun hc3 => ?_) fun hc3 => ?_
 ·simp only [hcL] at hc3
  refine Ab (Z 4 rfl ?_)
  simp only [go_sem, simprocAttr, Ac]
  refine Ag (hQ _ _ (.inl rfl) ?_ ?_ ?_) <;> simp only [go_sem, simprocAttr, FR]
  refine congrArg V.bool ?_; clear hQ hG hN hv; unfold FB; dsimp only [Cond.kind, Cond.l, Cond.a, Cond.b]; first | (subst_vars; rfl) | (simp_all; done) | (simp [*]; done)
 simp only [hcL] at hc3
 refine Ab (Z 5 rfl ?_)
 simp only [go_sem, simprocAttr, Ac]
 refine Ai rfl (fun hc5 => ?_) fun hc5 => ?_
 ·simp only [hcL] at hc5
  refine Ab (Z 6 rfl ?_)
  simp only [go_sem, simprocAttr, Ac]
  refine Ag (hQ _ _ (.inl rfl) ?_ ?_ ?_) <;> simp only [go_sem, simprocAttr, FR]
  refine congrArg V.bool ?_; clear hQ hG hN hv; unfold FB; dsimp only [Cond.kind, Cond.l, Cond.a, Cond.b]; first | (subst_vars; rfl) | (simp_all; done) | (simp [*]; done)
 simp only [hcL] at hc5
 refine Ab (Z 7 rfl ?_)
 simp only [go_sem, simprocAttr, Ac]
 refine Ai rfl (fun hc7 => ?_) fun hc7 => ?_
 ·simp only [hcL] at hc7
  refine Ab (Z 8 rfl ?_)
  simp only [go_sem, simprocAttr, Ac]
  and_intros <;> try exact sdA
  refine Ag (hQ _ _ (.inl rfl) ?_ ?_ ?_) <;> simp only [go_sem, simprocAttr, FR]
  refine congrArg V.bool ?_; clear hQ hG hN hv; unfold FB; dsimp only [Cond.kind, Cond.l, Cond.a, Cond.b]; first | (subst_vars; rfl) | (simp_all; done) | (simp [*]; done)
 simp only [hcL] at hc7
 refine Ab (Z 9 rfl ?_)
 simp only [go_sem, simprocAttr, Ac]
 refine Ai rfl (fun hc9 => ?_) fun hc9 => ?_
 ·simp only [hcL] at hc9
  refine Ab (Z 10 rfl ?_)
  simp only [go_sem, simprocAttr, Ac]
  and_intros <;> try exact sdA
  refine Ag (hQ _ _ (.inl rfl) ?_ ?_ ?_) <;> simp only [go_sem, simprocAttr, FR]
  refine congrArg V.bool ?_; clear hQ hG hN hv; unfold FB; dsimp only [Cond.kind, Cond.l, Cond.a, Cond.b]; first | (subst_vars; rfl) | (simp_all; done) | (simp [*]; done)
 simp only [hcL] at hc9
 refine Ab (Ab (Z 11 rfl ?_))
 simp only [go_sem, simprocAttr, Ac]
 refine Ai rfl (fun hc11 => ?_) fun hc11 => ?_
 ·simp only [hcL] at hc11
  refine Ah ?_
  refine Ai rfl (fun hc11r => ?_) fun hc11r => ?_
  ·simp only [hcL] at hc11r
   refine Ab (Z 13 rfl ?_)
   simp only [go_sem, simprocAttr, Ac]
   and_intros <;> try exact sdA
   refine Ag (hQ _ _ (.inl rfl) ?_ ?_ ?_) <;> simp only [go_sem, simprocAttr, FR]
   refine congrArg V.bool ?_; clear hQ hG hN hv; unfold FB; dsimp only [Cond.kind, Cond.l, Cond.a, Cond.b]; first | (subst_vars; rfl) | (simp_all; done) | (simp [*]; done)
  exfalso; simp_all
 simp only [hcL] at hc11
 refine Z 12 rfl ?_
 simp only [go_sem, simprocAttr, Ac]
 refine Ai rfl (fun hc12 => ?_) fun hc12 => ?_
 ·simp only [hcL] at hc12
  refine Ab (Z 13 rfl ?_)
  simp only [go_sem, simprocAttr, Ac]
  and_intros <;> try exact sdA
  refine Ag (hQ _ _ (.inl rfl) ?_ ?_ ?_) <;> simp only [go_sem, simprocAttr, FR]
  refine congrArg V.bool ?_; clear hQ hG hN hv; unfold FB; dsimp only [Cond.kind, Cond.l, Cond.a, Cond.b]; first | (subst_vars; rfl) | (simp_all; done) | (simp [*]; done)
 simp only [hcL] at hc12
 refine Ab (Z 14 rfl ?_)
 simp only [go_sem, simprocAttr, Ac]
 refine Ai rfl (fun hc14 => ?_) fun hc14 => ?_
 ·simp only [hcL] at hc14
  refine Ab (Z 15 rfl ?_)
  simp only [go_sem, simprocAttr, Ac]
  and_intros <;> try exact sdA
  refine Ag (hQ _ _ (.inl rfl) ?_ ?_ ?_) <;> simp only [go_sem, simprocAttr, FR]
  refine congrArg V.bool ?_; clear hQ hG hN hv; unfold FB; dsimp only [Cond.kind, Cond.l, Cond.a, Cond.b]; first | (subst_vars; rfl) | (simp_all; done) | (simp [*]; done)
 simp only [hcL] at hc14
 refine Ah ?_
 refine Ab (Z 16 rfl ?_)
 simp only [go_sem, simprocAttr, Ac]
 refine Ag (hQ _ _ (.inl rfl) ?_ ?_ ?_) <;> simp only [go_sem, simprocAttr, FR]
 refine congrArg V.bool ?_; clear hQ hG hN hv; unfold FB; dsimp only [Cond.kind, Cond.l, Cond.a, Cond.b]; first | (subst_vars; rfl) | (simp_all; done) | (simp [*]; done)
def KQ (k : Int) : List (List UInt8) -> List (List UInt8) -> Int
 | _, [] => 0
 | p, s :: r => if Lc k s = false then 5 else if hasB s p = true then 6 else KQ k (p ++ [s]) r
def Jr (c : Cond) : Int :=
 if (decide (c.kind < 1) || decide (14 < c.kind)) = true then 8
 else if Ka c = true then 3
 else if FB c = true then 2
 else if Md c.kind = true then pdE c.p
 else if (Lb c.kind && decide ((c.text.length : Int) = 0)) = true then 2
 else KQ c.kind [] c.text
def FP (c : Cond) : Prop × V := (c.ok, .int .i64 (Jr c))
theorem GP (k : Int) (l : List Cond) (a b x y z : Int) (t : List (List UInt8)) : gOf AP FP [.agg [.int .i64 k, .list (l.map Cond.enc) false, .int .i64 a, .int .i64 b, .int .i64 x, .int .i64 y, .int .i64 z, .list (strs t) false]] = ((Cond.mk k l a b ⟨x, y, z⟩ t).ok, .int .i64 (Jr (.mk k l a b ⟨x, y, z⟩ t))) := by have := Al (F := FP) FD (.mk k l a b ⟨x, y, z⟩ t); rw [AP, Cond.enc_eq] at this; exact this
def Dl : Tab
 | 241 => (gOf AP Lm)
 | 242 => (gOf AP FR)
 | 243 => (gOf aK MV)
 | 244 => (gOf aK MN)
 | 245 => (gOf aKS Li)
 | 196 => (gOf Hk Ke)
 | 226 => (gOf aPd fPd)
 | _ => gNo
theorem AlK : ∀ f, PU f (Dl f) := fun f => by
 unfold Dl
 split
 ·exact AfM
 ·exact Aob
 ·exact Abv
 ·exact WR
 ·exact AeX
 ·exact SY
 ·exact AbU
 ·exact Aj.no
theorem Aih : PU 211 (gOf AP FP) := by
 have hG := AlK
 refine Su.a FD (by simp [AP]) ?_
 rintro ⟨k, l, a, b, ⟨x, y, z⟩, t⟩ hv C hN Q hQ
 have Y := Su.D EF0 hG hN mixed
 have Z := Su.R EF0 hG hN
 have hok : (Cond.mk k l a b ⟨x, y, z⟩ t).ok := hv
 have hpm : Jr (Cond.mk k l a b ⟨x, y, z⟩ t) = if (decide (k < 1) || decide (14 < k)) = true then 8 else if Ka (.mk k l a b ⟨x, y, z⟩ t) = true then 3 else if FB (.mk k l a b ⟨x, y, z⟩ t) = true then 2 else if Md k = true then pdE ⟨x, y, z⟩ else if (Lb k && decide ((t.length : Int) = 0)) = true then 2 else KQ k [] t := rfl
 obtain ⟨_, ⟨hl, _⟩, _, _, _, ⟨ht, hts⟩⟩ := (Cond.ok_eq ..).1 hv
 generalize he : Ka (.mk k l a b ⟨x, y, z⟩ t) = eb at hpm
 generalize hw : FB (.mk k l a b ⟨x, y, z⟩ t) = wb at hpm
 refine Ab (Z 0 rfl ?_)
 simp only [go_sem, simprocAttr, AP, Cond.enc_eq, Dl, DH, DJ, CS, CR, DG, AT, Dg, hok, he, hw]
 refine Ab (Ab (Z 1 rfl ?_))
 simp only [go_sem, simprocAttr, Dl, DH, DJ, CS, CR, DG, AT, Dg, hok, he, hw]
 and_intros <;> try exact sdA
 refine Ai rfl (fun hb1 => ?_) fun hb1 => ?_
 ·rw [if_pos hb1] at hpm
  refine Ab (Z 2 rfl ?_)
  simp only [go_sem, simprocAttr, Dl, DH, DJ, CS, CR, DG, AT, Dg, hok, he, hw]
  refine Ag (hQ _ _ (.inl rfl) ?_ ?_ ?_) <;> simp only [go_sem, simprocAttr, FP, hpm]
 rw [if_neg (by rw [hb1]; decide)] at hpm
 refine Ah ?_
 refine Ab (Ab (Z 3 rfl ?_))
 simp only [go_sem, simprocAttr, Dl, DH, DJ, CS, CR, DG, AT, Dg, hok, he, hw]
 and_intros <;> try exact sdA
 refine Ai rfl (fun hb3 => ?_) fun hb3 => ?_
 ·rw [if_pos hb3] at hpm
  refine Ab (Z 4 rfl ?_)
  simp only [go_sem, simprocAttr, Dl, DH, DJ, CS, CR, DG, AT, Dg, hok, he, hw]
  refine Ag (hQ _ _ (.inl rfl) ?_ ?_ ?_) <;> simp only [go_sem, simprocAttr, FP, hpm]
 rw [if_neg (by rw [hb3]; decide)] at hpm
 refine Ah ?_
 refine Ab (Ab (Z 5 rfl ?_))
 simp only [go_sem, simprocAttr, Dl, DH, DJ, CS, CR, DG, AT, Dg, hok, he, hw]
 and_intros <;> try exact sdA
 refine Ai rfl (fun hb5 => ?_) fun hb5 => ?_
 ·rw [if_pos hb5] at hpm
  refine Ab (Z 6 rfl ?_)
  simp only [go_sem, simprocAttr, Dl, DH, DJ, CS, CR, DG, AT, Dg, hok, he, hw]
  refine Ag (hQ _ _ (.inl rfl) ?_ ?_ ?_) <;> simp only [go_sem, simprocAttr, FP, hpm]
 rw [if_neg (by rw [hb5]; decide)] at hpm
 refine Ah ?_
 refine Ab (Ab (Z 7 rfl ?_))
 simp only [go_sem, simprocAttr, Dl, DH, DJ, CS, CR, DG, AT, Dg, hok, he, hw]
 and_intros <;> try exact sdA
 refine Ai rfl (fun hb7 => ?_) fun hb7 => ?_
 ·rw [if_pos hb7] at hpm
  refine Ab (Z 8 rfl ?_)
  simp only [go_sem, simprocAttr, Dl, DH, DJ, CS, CR, DG, AT, Dg, hok, he, hw]
  and_intros <;> try exact sdA
  refine Ag (hQ _ _ (.inl rfl) ?_ ?_ ?_) <;> simp only [go_sem, simprocAttr, FP, hpm]
 rw [if_neg (by rw [hb7]; decide)] at hpm
 refine Ah ?_
 refine Ab (Ab (Z 9 rfl ?_))
 simp only [go_sem, simprocAttr, EL, Dl, DH, DJ, CS, CR, DG, AT, Dg, hok, he, hw]
 and_intros <;> try exact sdA
 refine Ai rfl (fun hb9 => ?_) fun hb9 => ?_
 ·rw [if_pos hb9] at hpm
  refine Ab (Z 10 rfl ?_)
  simp only [go_sem, simprocAttr, Dl, DH, DJ, CS, CR, DG, AT, Dg, hok, he, hw]
  refine Ag (hQ _ _ (.inl rfl) ?_ ?_ ?_) <;> simp only [go_sem, simprocAttr, FP, hpm]
 rw [if_neg (by rw [hb9]; decide)] at hpm
 refine Ah ?_
 refine Ab (Ab (Z 11 rfl ?_))
 simp only [go_sem, simprocAttr, Dl, DH, DJ, CS, CR, DG, AT, Dg, hok, he, hw]
 refine Ar ?_
 refine Bj (α := Nat) (fun i => (i <= t.length) /\ (KQ k [] t = KQ k (t.take i) (t.drop i))) (fun i => ⟨mkE [(1, V.ptr 1 0), (3, .int .i64 i)], mkH [(1, Ob.box 132 [V.int IntKind.i64 k, V.list (List.map Cond.enc l) false, V.int IntKind.i64 a, V.int IntKind.i64 b, V.int IntKind.i64 x, V.int IntKind.i64 y, V.int IntKind.i64 z, V.list (strs t) false])]⟩) (fun i => t.length - i) 0 ⟨As _, rfl⟩ ?_ ?_
 ·exact leM
 rintro i ⟨hi, hx⟩ KL0 hKL0
 try dsimp only at *
 refine Ab (Ab (Z 12 rfl ?_))
 simp only [go_sem, simprocAttr, EL, Dl, DH, DJ, CS, CR, DG, AT, Dg, hok, he, hw]
 refine Ai rfl (fun hc12 => ?_) fun hc12 => ?_
 ·simp only [hcL] at hc12
  refine Ah ?_
  refine Ab (Ar ?_)
  refine Ab ?_
  rw [DL hc12, KQ] at hx
  have hsl := hts _ (AI hc12)
  refine Ab (Y 14 rfl (by kernel_rfl) ?_)
  simp only [go_sem, simprocAttr, Gz _ _ _ hc12, hc12, hsl, Dl, DH, DJ, CS, CR, DG, AT, Dg, hok, he, hw]
  and_intros <;> try exact sdA
  refine Ai rfl (fun hb14 => ?_) fun hb14 => ?_
  ·rw [if_pos (by simpa using hb14)] at hx
   refine Ab (Z 15 rfl ?_)
   simp only [go_sem, simprocAttr, Dl, DH, DJ, CS, CR, DG, AT, Dg, hok, he, hw]
   refine Ag (hQ _ _ (.inl rfl) ?_ ?_ ?_) <;> simp only [go_sem, simprocAttr, FP, hpm, hx]
  rw [if_neg (by simpa using hb14)] at hx
  refine Ah ?_
  have htk : (t.take i).length <= 140737488355328 := by rw [BJ]; omega
  refine Ab (Y 16 rfl (by kernel_rfl) ?_)
  simp only [go_sem, simprocAttr, Gz _ _ _ hc12, hc12, Ak2, htk, Dl, DH, DJ, CS, CR, DG, AT, Dg, hok, he, hw]
  and_intros <;> try exact sdA
  refine Ai rfl (fun hb16 => ?_) fun hb16 => ?_
  ·rw [if_pos hb16] at hx
   refine Ab (Z 17 rfl ?_)
   simp only [go_sem, simprocAttr, Dl, DH, DJ, CS, CR, DG, AT, Dg, hok, he, hw]
   refine Ag (hQ _ _ (.inl rfl) ?_ ?_ ?_) <;> simp only [go_sem, simprocAttr, FP, hpm, hx]
  rw [if_neg (by rw [hb16]; decide), <- Dm hc12] at hx
  refine Ah ?_
  refine Z 13 rfl ?_
  simp only [go_sem, simprocAttr, inI, Dl, DH, DJ, CS, CR, DG, AT, Dg, hok, he, hw]
  and_intros <;> try exact sdA
  refine hKL0 (i + 1) _ ?_ ?_ ?_
  ·(try dsimp only); exact ⟨hc12, hx⟩
  ·(try dsimp only); omega
  exact leM
 simp only [hcL] at hc12
 rw [Hz (by omega), KQ] at hx
 refine Be ?_
 simp only [go_sem, simprocAttr]
 refine Ab (Z 18 rfl ?_)
 simp only [go_sem, simprocAttr, Dl, DH, DJ, CS, CR, DG, AT, Dg, hok, he, hw]
 refine Ag (hQ _ _ (.inl rfl) ?_ ?_ ?_) <;> simp only [go_sem, simprocAttr, FP, hpm, hx]
theorem CG (f : Cond -> V) (n : Nat) (k : Int) (l : List Cond) (a b x y z : Int) (t : List (List UInt8)) : gOf AP (Dv f n) [.agg [.int .i64 k, .list (l.map Cond.enc) false, .int .i64 a, .int .i64 b, .int .i64 x, .int .i64 y, .int .i64 z, .list (strs t) false]] = ((Cond.mk k l a b ⟨x, y, z⟩ t).ok /\ (Cond.mk k l a b ⟨x, y, z⟩ t).dep < n, f (.mk k l a b ⟨x, y, z⟩ t)) := by have := Al (F := Dv f n) FD (.mk k l a b ⟨x, y, z⟩ t); rw [AP, Cond.enc_eq] at this; exact this
def Gg (c : Cond) : V := .int .i64 c.siz
def FW (c : Cond) : V := .int .i64 c.lev
theorem Ako (n : Nat) (hG : ∀ g, PU g (He 176 Gg n g)) : PU 176 (gOf AP (Dv Gg (n + 1))) := by
 refine YF.a FD (by simp [AP]) ?_
 rintro ⟨k, l, a, b, ⟨x, y, z⟩, t⟩ hv C hN Q hQ
 have Z := YF.R EF0 hG hN
 obtain ⟨hok, hdp⟩ : (Cond.mk k l a b ⟨x, y, z⟩ t).ok /\ (Cond.mk k l a b ⟨x, y, z⟩ t).dep < n + 1 := hv
 have hds := Cond.dep_l (.mk k l a b ⟨x, y, z⟩ t)
 change ∀ u ∈ l, _ at hds
 obtain ⟨_, ⟨hl, hlo⟩, _, _, _, ⟨ht, _⟩⟩ := (Cond.ok_eq ..).1 hok
 have hT : He 176 Gg n 176 = gOf AP (Dv Gg n) := by unfold He; rw [if_pos rfl]
 refine Ab (Z 0 rfl ?_)
 simp only [go_sem, simprocAttr, AP, Cond.enc_eq, hT, CG, Ac]
 refine Ab (Z 1 rfl ?_)
 simp only [go_sem, simprocAttr, hT, CG, Ac]
 refine Ab (Ab (Z 2 rfl ?_))
 simp only [go_sem, simprocAttr, hT, CG, Ac]
 refine Ar ?_
 refine Bj (α := Nat) (fun i => (i <= l.length)) (fun i => ⟨mkE [(1, V.ptr 1 0), (3, .int .i64 (Cond.sizs 1 (l.take i))), (4, .int .i64 i)], mkH [(1, Ob.box 132 [V.int IntKind.i64 k, V.list (List.map Cond.enc l) false, V.int IntKind.i64 a, V.int IntKind.i64 b, V.int IntKind.i64 x, V.int IntKind.i64 y, V.int IntKind.i64 z, V.list (strs t) false])]⟩) (fun i => l.length - i) 0 (As _) ?_ ?_
 ·refine Le.mk _ _ ?_ ?_ rfl <;> simp only [go_sem, simprocAttr, HA, Cond.sizs] <;> and_intros <;> try exact leA
 rintro i hi KL0 hKL0
 try dsimp only at *
 refine Ab (Ab (Z 3 rfl ?_))
 simp only [go_sem, simprocAttr, hT, CG, Ac]
 refine Ai rfl (fun hc3 => ?_) fun hc3 => ?_
 ·simp only [hcL] at hc3
  refine Ah ?_
  refine Ab (Ar ?_)
  have hmem := AI hc3
  have hci := hlo _ hmem
  have hdi : l[i].dep < n := by have := hds _ hmem; omega
  have hst := Cond.siz_step hc3
  generalize hu : l[i] = u at hmem hci hdi hst
  obtain ⟨k2, l2, a2, b2, ⟨x2, y2, z2⟩, t2⟩ := u
  refine Rx (EF := EF0) hG (by rw [hN]; exact AmO) ?_
  simp only [Vg, go_sem, simprocAttr, inI, Ap _ _ _ _ hc3, hc3, hu, Cond.enc_eq, hci, hdi, Gg, hT, CG, Ac]
  and_intros <;> try exact sdA
  refine Z 4 rfl ?_
  simp only [go_sem, simprocAttr, inI, hT, CG, Ac]
  and_intros <;> try exact sdA
  refine hKL0 (i + 1) _ ?_ ?_ ?_
  ·(try dsimp only); exact hc3
  ·(try dsimp only); omega
  refine Le.mk _ _ ?_ ?_ rfl <;> simp only [go_sem, simprocAttr, hst] <;> and_intros <;> try exact leA
 simp only [hcL] at hc3
 obtain rfl : i = l.length := by omega
 refine Be ?_
 simp only [go_sem, simprocAttr]
 refine Ab (Z 6 rfl ?_)
 simp only [go_sem, simprocAttr, NB, hT, CG, Ac]
 refine Ag (hQ _ _ (.inl rfl) ?_ ?_ ?_) <;> simp only [go_sem, simprocAttr, Dv, Gg, Cond.siz]
theorem Akn : ∀ n, PU 176 (gOf AP (Dv Gg n)) := Qf Ako
theorem Ag7 (n : Nat) (hG : ∀ g, PU g (He 175 FW n g)) : PU 175 (gOf AP (Dv FW (n + 1))) := by
 refine YE.a FD (by simp [AP]) ?_
 rintro ⟨k, l, a, b, ⟨x, y, z⟩, t⟩ hv C hN Q hQ
 have Z := YE.R EF0 hG hN
 obtain ⟨hok, hdp⟩ : (Cond.mk k l a b ⟨x, y, z⟩ t).ok /\ (Cond.mk k l a b ⟨x, y, z⟩ t).dep < n + 1 := hv
 have hds := Cond.dep_l (.mk k l a b ⟨x, y, z⟩ t)
 change ∀ u ∈ l, _ at hds
 obtain ⟨_, ⟨hl, hlo⟩, _, _, _, ⟨ht, _⟩⟩ := (Cond.ok_eq ..).1 hok
 have hT : He 175 FW n 175 = gOf AP (Dv FW n) := by unfold He; rw [if_pos rfl]
 refine Ab (Z 0 rfl ?_)
 simp only [go_sem, simprocAttr, AP, Cond.enc_eq, hT, CG, Ac]
 refine Ab (Z 1 rfl ?_)
 simp only [go_sem, simprocAttr, hT, CG, Ac]
 refine Ab (Ab (Z 2 rfl ?_))
 simp only [go_sem, simprocAttr, hT, CG, Ac]
 refine Ar ?_
 refine Bj (α := Nat) (fun i => (i <= l.length)) (fun i => ⟨mkE [(1, V.ptr 1 0), (3, .int .i64 (Cond.levs 0 (l.take i))), (4, .int .i64 i)], mkH [(1, Ob.box 132 [V.int IntKind.i64 k, V.list (List.map Cond.enc l) false, V.int IntKind.i64 a, V.int IntKind.i64 b, V.int IntKind.i64 x, V.int IntKind.i64 y, V.int IntKind.i64 z, V.list (strs t) false])]⟩) (fun i => l.length - i) 0 (As _) ?_ ?_
 ·refine Le.mk _ _ ?_ ?_ rfl <;> simp only [go_sem, simprocAttr, HA, Cond.levs] <;> and_intros <;> try exact leA
 rintro i hi KL0 hKL0
 try dsimp only at *
 refine Ab (Ab (Z 3 rfl ?_))
 simp only [go_sem, simprocAttr, hT, CG, Ac]
 refine Ai rfl (fun hc3 => ?_) fun hc3 => ?_
 ·simp only [hcL] at hc3
  refine Ah ?_
  refine Ab (Ar ?_)
  have hmem := AI hc3
  have hci := hlo _ hmem
  have hdi : l[i].dep < n := by have := hds _ hmem; omega
  have hst := Cond.lev_step hc3
  generalize hu : l[i] = u at hmem hci hdi hst
  obtain ⟨k2, l2, a2, b2, ⟨x2, y2, z2⟩, t2⟩ := u
  refine Z 5 rfl ?_
  simp only [go_sem, simprocAttr, Ap _ _ _ _ hc3, hc3, hu, Cond.enc_eq, hci, hdi, FW, hT, CG, Ac]
  and_intros <;> try exact sdA
  refine Z 4 rfl ?_
  simp only [go_sem, simprocAttr, inI, hT, CG, Ac]
  and_intros <;> try exact sdA
  refine hKL0 (i + 1) _ ?_ ?_ ?_
  ·(try dsimp only); exact hc3
  ·(try dsimp only); omega
  refine Le.mk _ _ ?_ ?_ rfl <;> simp only [go_sem, simprocAttr, hst] <;> and_intros <;> try exact leA
 simp only [hcL] at hc3
 obtain rfl : i = l.length := by omega
 refine Be ?_
 simp only [go_sem, simprocAttr]
 refine Ab (Rx (EF := EF0) hG (by rw [hN]; exact AmN) ?_)
 simp only [Vf, go_sem, simprocAttr, inI, NB, hT, CG, Ac]
 and_intros <;> try exact sdA
 refine Ag (hQ _ _ (.inl rfl) ?_ ?_ ?_) <;> simp only [go_sem, simprocAttr, Dv, FW, Cond.lev]
theorem Ag6 : ∀ n, PU 175 (gOf AP (Dv FW n)) := Qf Ag7
mutual
def KF : Cond -> Int
 | .mk k l a b p t => if Jr (.mk k l a b p t) ≠ 0 then Jr (.mk k l a b p t) else KG l
def KG : List Cond -> Int
 | [] => 0
 | c :: l => if KF c ≠ 0 then KF c else KG l
end
def Fh (c : Cond) : V := .int .i64 (KF c)
def Ml (n : Nat) (g : Nat) : List V -> Prop × V := if g = 211 then gOf AP FP else He 177 Fh n g
theorem Aif (n : Nat) (hG0 : ∀ g, PU g (He 177 Fh n g)) : PU 177 (gOf AP (Dv Fh (n + 1))) := by
 have hG : ∀ g, PU g (Ml n g) := fun g => by
  unfold Ml
  split
  ·rename_i e; subst e; exact Aih
  exact hG0 g
 refine YG.a FD (by simp [AP]) ?_
 rintro ⟨k, l, a, b, ⟨x, y, z⟩, t⟩ hv C hN Q hQ
 have Z := YG.R EF0 hG hN
 obtain ⟨hok, hdp⟩ : (Cond.mk k l a b ⟨x, y, z⟩ t).ok /\ (Cond.mk k l a b ⟨x, y, z⟩ t).dep < n + 1 := hv
 have hds := Cond.dep_l (.mk k l a b ⟨x, y, z⟩ t)
 change ∀ u ∈ l, _ at hds
 have hpe : KF (.mk k l a b ⟨x, y, z⟩ t) = if Jr (.mk k l a b ⟨x, y, z⟩ t) ≠ 0 then Jr (.mk k l a b ⟨x, y, z⟩ t) else KG l := by rw [KF]
 obtain ⟨_, ⟨hl, hlo⟩, _, _, _, ⟨ht, _⟩⟩ := (Cond.ok_eq ..).1 hok
 have hT : Ml n 177 = gOf AP (Dv Fh n) := by unfold Ml He; rw [if_neg (by decide), if_pos rfl]
 have hT2 : Ml n 211 = gOf AP FP := by unfold Ml; rw [if_pos rfl]
 generalize hpt : Jr (.mk k l a b ⟨x, y, z⟩ t) = pe at hpe
 refine Ab (Z 0 rfl ?_)
 simp only [go_sem, simprocAttr, AP, Cond.enc_eq, hT, hT2, CG, Ac, GP, hok, hpt]
 refine Ab (Ab (Z 1 rfl ?_))
 simp only [go_sem, simprocAttr, hT, hT2, CG, Ac, GP, hok, hpt]
 and_intros <;> try exact sdA
 refine Ab (Z 2 rfl ?_)
 simp only [go_sem, simprocAttr, hT, hT2, CG, Ac, GP, hok, hpt]
 refine Ai rfl (fun hb2 => ?_) fun hb2 => ?_
 ·rw [if_pos (by simpa using hb2)] at hpe
  refine Ab (Z 3 rfl ?_)
  simp only [go_sem, simprocAttr, hT, hT2, CG, Ac, GP, hok, hpt]
  refine Ag (hQ _ _ (.inl rfl) ?_ ?_ ?_) <;> simp only [go_sem, simprocAttr, Dv, Fh, hpe]
 rw [if_neg (by simpa using hb2)] at hpe
 refine Ah ?_
 refine Ab (Ab (Z 4 rfl ?_))
 simp only [go_sem, simprocAttr, hT, hT2, CG, Ac, GP, hok, hpt]
 refine Ar ?_
 refine Bj (α := Nat) (fun i => (i <= l.length) /\ (KG l = KG (l.drop i))) (fun i => ⟨mkE [(1, V.ptr 1 0), (4, .int .i64 i)], mkH [(1, Ob.box 132 [V.int IntKind.i64 k, V.list (List.map Cond.enc l) false, V.int IntKind.i64 a, V.int IntKind.i64 b, V.int IntKind.i64 x, V.int IntKind.i64 y, V.int IntKind.i64 z, V.list (strs t) false])]⟩) (fun i => l.length - i) 0 ⟨As _, rfl⟩ ?_ ?_
 ·exact leM
 rintro i ⟨hi, hx⟩ KL0 hKL0
 try dsimp only at *
 refine Ab (Ab (Z 5 rfl ?_))
 simp only [go_sem, simprocAttr, hT, hT2, CG, Ac, GP, hok, hpt]
 refine Ai rfl (fun hc5 => ?_) fun hc5 => ?_
 ·simp only [hcL] at hc5
  refine Ah ?_
  refine Ab (Ar ?_)
  have hmem := AI hc5
  have hci := hlo _ hmem
  have hdi : l[i].dep < n := by have := hds _ hmem; omega
  rw [DL hc5, KG] at hx
  generalize hu : l[i] = u at hmem hci hdi hx
  obtain ⟨k2, l2, a2, b2, ⟨x2, y2, z2⟩, t2⟩ := u
  refine Ab (Z 7 rfl ?_)
  simp only [go_sem, simprocAttr, Ap _ _ _ _ hc5, hc5, hu, Cond.enc_eq, hci, hdi, Fh, hT, hT2, CG, Ac, GP, hok, hpt]
  and_intros <;> try exact sdA
  refine Ab (Z 8 rfl ?_)
  simp only [go_sem, simprocAttr, hT, hT2, CG, Ac, GP, hok, hpt]
  refine Ai rfl (fun hb8 => ?_) fun hb8 => ?_
  ·rw [if_pos (by simpa using hb8)] at hx
   refine Ab (Z 9 rfl ?_)
   simp only [go_sem, simprocAttr, hT, hT2, CG, Ac, GP, hok, hpt]
   refine Ag (hQ _ _ (.inl rfl) ?_ ?_ ?_) <;> simp only [go_sem, simprocAttr, Dv, Fh, hpe, hx]
  rw [if_neg (by simpa using hb8)] at hx
  refine Ah ?_
  refine Z 6 rfl ?_
  simp only [go_sem, simprocAttr, inI, hT, hT2, CG, Ac, GP, hok, hpt]
  and_intros <;> try exact sdA
  refine hKL0 (i + 1) _ ?_ ?_ ?_
  ·(try dsimp only); exact ⟨hc5, hx⟩
  ·(try dsimp only); omega
  exact leM
 simp only [hcL] at hc5
 rw [Hz (by omega), KG] at hx
 refine Be ?_
 simp only [go_sem, simprocAttr]
 refine Ab (Z 10 rfl ?_)
 simp only [go_sem, simprocAttr, hT, hT2, CG, Ac, GP, hok, hpt]
 refine Ag (hQ _ _ (.inl rfl) ?_ ?_ ?_) <;> simp only [go_sem, simprocAttr, Dv, Fh, hpe, hx]
theorem Aie : ∀ n, PU 177 (gOf AP (Dv Fh n)) := Qf Aif
def FL (f : Cond -> V) (c : Cond) : Prop × V := (c.ok, f c)
theorem DF (f : Cond -> V) (k : Int) (l : List Cond) (a b x y z : Int) (t : List (List UInt8)) : gOf AP (FL f) [.agg [.int .i64 k, .list (l.map Cond.enc) false, .int .i64 a, .int .i64 b, .int .i64 x, .int .i64 y, .int .i64 z, .list (strs t) false]] = ((Cond.mk k l a b ⟨x, y, z⟩ t).ok, f (.mk k l a b ⟨x, y, z⟩ t)) := by have := Al (F := FL f) FD (.mk k l a b ⟨x, y, z⟩ t); rw [AP, Cond.enc_eq] at this; exact this
theorem TP {k : Nat} {f : Cond -> V} (h : ∀ n, PU k (gOf AP (Dv f n))) : PU k (gOf AP (FL f)) := by
 intro vs M w cargs hv
 by_cases e : ∃ c, AP c = vs
 ·obtain ⟨c, rfl⟩ := e
  have := h (c.dep + 1) (AP c) M w cargs
  rw [Al FD] at hv this ⊢
  exact this ⟨hv, Iu _⟩
 ·unfold gOf at hv
  rw [dif_neg e] at hv
  exact hv.elim
theorem Akp : PU 176 (gOf AP (FL Gg)) := TP Akn
theorem Ag8 : PU 175 (gOf AP (FL FW)) := TP Ag6
theorem Aig : PU 177 (gOf AP (FL Fh)) := TP Aie
def ckE (c : Cond) : Int := if (decide (8 < c.lev) || decide (128 < c.siz)) = true then 4 else KF c
def ckV (c : Cond) : V := .int .i64 (ckE c)
def Mj : Tab
 | 176 => (gOf AP (FL Gg))
 | 175 => (gOf AP (FL FW))
 | 177 => (gOf AP (FL Fh))
 | _ => gNo
theorem Alf : ∀ f, PU f (Mj f) := fun f => by
 unfold Mj
 split
 ·exact Akp
 ·exact Ag8
 ·exact Aig
 ·exact Aj.no
theorem Ai1 : PU 126 (gOf AP (FL ckV)) := by
 have hG := Alf
 refine Yd.a FD (by simp [AP]) ?_
 rintro ⟨k, l, a, b, ⟨x, y, z⟩, t⟩ hv C hN Q hQ
 have Z := Yd.R EF0 hG hN
 have hok : (Cond.mk k l a b ⟨x, y, z⟩ t).ok := hv
 have hck : ckE (.mk k l a b ⟨x, y, z⟩ t) = if (decide (8 < Cond.lev (.mk k l a b ⟨x, y, z⟩ t)) || decide (128 < Cond.siz (.mk k l a b ⟨x, y, z⟩ t))) = true then 4 else KF (.mk k l a b ⟨x, y, z⟩ t) := rfl
 refine Ab (Z 0 rfl ?_)
 simp only [go_sem, simprocAttr, AP, Cond.enc_eq, Mj, DF, hok, Gg, FW, Fh]
 refine Ab (Ab (Z 1 rfl ?_))
 simp only [go_sem, simprocAttr, Mj, DF, hok, Gg, FW, Fh]
 and_intros <;> try exact sdA
 refine Ai rfl (fun hb1 => ?_) fun hb1 => ?_
 ·rw [if_pos hb1] at hck
  refine Ab (Z 2 rfl ?_)
  simp only [go_sem, simprocAttr, Mj, DF, hok, Gg, FW, Fh]
  refine Ag (hQ _ _ (.inl rfl) ?_ ?_ ?_) <;> simp only [go_sem, simprocAttr, FL, ckV, hck]
 rw [if_neg (by rw [hb1]; decide)] at hck
 refine Ah ?_
 refine Ab (Z 3 rfl ?_)
 simp only [go_sem, simprocAttr, Mj, DF, hok, Gg, FW, Fh]
 and_intros <;> try exact sdA
 refine Ag (hQ _ _ (.inl rfl) ?_ ?_ ?_) <;> simp only [go_sem, simprocAttr, FL, ckV, hck]
structure Pct where
 type : List UInt8
 percent : Int
def Pct.enc (x : Pct) : List V := [.str x.type, .int .i64 x.percent]
theorem Pct.inj (a b : Pct) (h : a.enc = b.enc) : a = b := by
 obtain ⟨a_type, a_percent⟩ := a
 obtain ⟨b_type, b_percent⟩ := b
 simp only [Pct.enc, Bz, V.str.injEq, V.int.injEq, V.bool.injEq, V.agg.injEq, V.list.injEq, and_true, true_and] at h
 obtain ⟨h0, h1⟩ := h
 subst h0
 subst h1
 rfl
def Pct.ok (x : Pct) : Prop := x.type.length <= 140737488355328 /\ inI x.percent
theorem Pct.rows (l : List Pct) : (∀ r ∈ l.map Pct.enc, r.length = 2) ↔ True := iff_true_intro fun r hr => by obtain ⟨x, _, rfl⟩ := Am.1 hr; rfl
theorem Pct.purs (l : List Pct) : (∀ r ∈ l.map Pct.enc, V.purs r = true) ↔ True := iff_true_intro fun r hr => by obtain ⟨x, _, rfl⟩ := Am.1 hr; rfl
attribute [go_sem] Pct.rows Pct.purs
def vF (g : List Fault) : V := .list (Az g) false
def aIs (x : List Int) : List V := [.list (Ao x) false]
theorem Vq (a b : List Int) (h : aIs a = aIs b) : a = b := by
 simp only [aIs, Bz, V.str.injEq, V.int.injEq, V.bool.injEq, V.agg.injEq, V.list.injEq, and_true, true_and] at h
 have h0 := h
 replace h0 := Kr h0
 subst h0
 rfl
def RT {α β : Type} (_ : α) (_ : β) : Prop := True
def FSm (g : List Fault) : Prop := ∀ x ∈ g, x.pos.length <= 1000
theorem FSm.nil : FSm [] := fun _ h => nomatch h
theorem FSm.app {g h : List Fault} (a : FSm g) (b : FSm h) : FSm (g ++ h) := fun x hx => (BT.1 hx).elim (a x) (b x)
theorem FSm.one {e : Int} {p : List UInt8} (h : p.length <= 1000) : FSm [⟨e, p⟩] := fun x hx => by rw [Bp.1 hx]; exact h
theorem FSm.fif {g : List Fault} (a : FSm g) {b : Bool} {e : Int} {p : List UInt8} (h : p.length <= 1000) : FSm (g ++ fIf b e p) := a.app (by unfold fIf; split; exact FSm.one h; exact FSm.nil)
theorem No {q : List UInt8} {i : Nat} (hq : q.length <= 100) (h : (dec (i : Int)).length <= 21) : (q ++ dec i).length <= 1000 := by rw [An]; omega
def QL (l : List Int) (g : List Fault) : Prop := g.length <= 2 * l.length /\ FSm g
def Qk : List UInt8 := [99, 111, 109, 98, 105, 110, 101, 32]
def Mg : List UInt8 := [112, 101, 114, 99, 101, 110, 116, 32]
def BG : Tab
 | 68 => Im
 | 23 => BN
 | _ => gNo
theorem Ac2 : ∀ f, PU f (BG f) := fun f => by
 unfold BG
 split
 ·exact NW
 ·exact NV
 ·exact Aj.no
theorem Afh {i : Nat} (h : i <= 2000000) : (dec (i : Int)).length <= 21 := XB ⟨by omega, by omega⟩
theorem Agy {i : Nat} (h : i <= 2000000) : inI (i : Int) := ⟨by omega, by omega⟩
theorem RD : ∃ F : List Int -> List Fault, (∀ l, l.length <= 1048576 -> QL l (F l)) /\ PU 127 (gOf aIs fun l => (l.length <= 1048576, vF (F l))) := by
 have hG := Ac2
 refine Sc.p (val := vF) (R := QL) Vq (by simp [aIs]) ?_
 rintro l hv Q hQ
 have Y := Sc.E EF0 hG mixed
 have Z := Sc.T EF0 hG
 refine Aa (Z 0 rfl ?_)
 simp only [go_sem, simprocAttr, aIs, BG, AC]
 refine Aa (Z 1 rfl ?_)
 simp only [go_sem, simprocAttr, BG, AC]
 refine Aa (Aa (Z 2 rfl ?_))
 simp only [go_sem, simprocAttr, BG, AC]
 refine Aq ?_
 refine Ba (α := Nat × (List Fault)) (fun γ => (γ.1 <= l.length) /\ (γ.2.length <= 2 * γ.1) /\ (FSm γ.2)) (fun γ => ⟨mkE [(0, V.list (Ao l) false), (3, .own 999 γ.2.length), (4, .int .i64 γ.1)], mkH [(999, .arr 126 2 (Az γ.2))]⟩) (fun γ => l.length - γ.1) (0, []) ⟨As _, AF _, FSm.nil⟩ ?_ ?_
 ·exact leM
 rintro ⟨i, g⟩ ⟨hi, hg, hs⟩ KL0 hKL0
 try dsimp only at *
 refine Aa (Aa (Z 3 rfl ?_))
 simp only [go_sem, simprocAttr, AG, BG, AC]
 refine Ad rfl (fun hc3 => ?_) fun hc3 => ?_
 ·simp only [hcL] at hc3
  refine Af ?_
  refine Aa (Aq ?_)
  have hd := Afh (i := i) (by omega)
  have hi2 := Agy (i := i) (by omega)
  have hp8 : (Qk ++ dec i).length <= 1000 := No (by decide) hd
  refine Aa (Z 5 rfl ?_)
  simp only [go_sem, simprocAttr, inI, hi2, BG, AC]
  and_intros <;> try exact sdA
  refine Aa (Aa (Z 6 rfl ?_))
  simp only [go_sem, simprocAttr, BG, AC]
  refine Aq ?_
  refine Ba (α := Nat × Bool) (fun γ => (γ.1 <= i)) (fun γ => ⟨mkE [(0, V.list (Ao l) false), (3, V.own 999 g.length), (4, V.int IntKind.i64 ↑i), (5, V.str (99 :: 111 :: 109 :: 98 :: 105 :: 110 :: 101 :: 32 :: dec ↑i)), (6, .bool γ.2), (7, .int .i64 γ.1)], mkH [(999, Ob.arr 126 2 (Az g))]⟩) (fun γ => i - γ.1) (0, false) (As _) ?_ ?_
  ·exact leM
  rintro ⟨j, tw⟩ hj KL2 hKL2
  try dsimp only at *
  refine Aa (Aa (Z 7 rfl ?_))
  simp only [go_sem, simprocAttr, BG, AC]
  refine Ad rfl (fun hc7 => ?_) fun hc7 => ?_
  ·simp only [hcL] at hc7
   refine Af ?_
   refine Aa (Aq ?_)
   have hjl : j < l.length := by omega
   refine Y 9 rfl (by kernel_rfl) ?_
   simp only [go_sem, simprocAttr, EY _ _ _ hc3, EY _ _ _ hjl, hc3, hjl, AG, BG, AC]
   and_intros <;> try exact sdA
   refine Z 8 rfl ?_
   simp only [go_sem, simprocAttr, inI, BG, AC]
   and_intros <;> try exact sdA
   refine hKL2 (j + 1, (tw || decide (l[j] = l[i]))) _ ?_ ?_ ?_
   ·(try dsimp only); omega
   ·(try dsimp only); omega
   exact leM
  simp only [hcL] at hc7
  refine AX ?_
  simp only [go_sem, simprocAttr]
  refine DT (α := (List Fault)) (fun f1 => (f1 = g ++ fIf (decide (l[i] < 1) || decide (9999 < l[i])) 2 (Qk ++ dec i)) /\ (f1.length <= g.length + 1)) (fun f1 => ⟨mkE [(0, V.list (Ao l) false), (3, .own 999 f1.length), (4, V.int IntKind.i64 ↑i), (5, V.str (99 :: 111 :: 109 :: 98 :: 105 :: 110 :: 101 :: 32 :: dec ↑i)), (6, V.bool tw)], mkH [(999, .arr 126 2 (Az f1))]⟩) ?_ ?_
  ·intro KC10 hKC10
   refine Aa (Z 10 rfl ?_)
   simp only [go_sem, simprocAttr, EY _ _ _ hc3, hc3, AG, BG, AC]
   and_intros <;> try exact sdA
   refine Ad rfl (fun hb10 => ?_) fun hb10 => ?_
   ·refine Z 11 rfl ?_
    simp only [go_sem, simprocAttr, BG, AC]
    and_intros <;> try exact sdA
    refine hKC10 (g ++ [⟨2, Qk ++ dec i⟩]) _ ?_ ?_
    ·(try dsimp only); exact ⟨by rw [Du (show (decide (l[i] < 1) || decide (9999 < l[i])) = true from hb10)], by simp⟩
    refine Le.mk _ _ ?_ ?_ rfl <;> simp only [go_sem, simprocAttr, An, Aw, Ax] <;> and_intros <;> try exact leA
   refine Af ?_
   refine hKC10 (g) _ ?_ ?_
   ·(try dsimp only); exact ⟨by rw [Dt (show (decide (l[i] < 1) || decide (9999 < l[i])) = false from hb10), Br], by omega⟩
   exact leM
  rintro f1 ⟨hf1, lf1⟩
  refine Aa (Z 12 rfl ?_)
  simp only [go_sem, simprocAttr, BG, AC]
  refine Ad rfl (fun hb12 => ?_) fun hb12 => ?_
  ·refine Z 13 rfl ?_
   simp only [go_sem, simprocAttr, BG, AC]
   and_intros <;> try exact sdA
   refine Z 4 rfl ?_
   simp only [go_sem, simprocAttr, inI, BG, AC]
   and_intros <;> try exact sdA
   refine hKL0 (i + 1, f1 ++ [⟨6, Qk ++ dec i⟩]) _ ?_ ?_ ?_
   ·(try dsimp only); exact ⟨hc3, by simp only [An, Aw, Ax]; omega, by rw [hf1]; exact (hs.fif hp8).app (FSm.one hp8)⟩
   ·(try dsimp only); omega
   refine Le.mk _ _ ?_ ?_ rfl <;> simp only [go_sem, simprocAttr, An, Aw, Ax] <;> and_intros <;> try exact leA
  refine Af ?_
  refine Z 4 rfl ?_
  simp only [go_sem, simprocAttr, inI, BG, AC]
  and_intros <;> try exact sdA
  refine hKL0 (i + 1, f1) _ ?_ ?_ ?_
  ·(try dsimp only); exact ⟨hc3, by omega, by rw [hf1]; exact hs.fif hp8⟩
  ·(try dsimp only); omega
  exact leM
 simp only [hcL] at hc3
 refine AX ?_
 simp only [go_sem, simprocAttr]
 refine Aa (Z 14 rfl ?_)
 simp only [go_sem, simprocAttr, BG, AC]
 refine TC.le (s' := ⟨mkE [(2, .list (Az g) false)], mkH []⟩) (Le.mk _ _ ?_ ?_ rfl) (Ae (hQ _ _ (.inl rfl) ?_ ?_ ?_)) <;> simp only [go_sem, simprocAttr, vF]
 ·exact DA rfl (by rw [EW]) rfl (Gp _)
 exact ⟨g, rfl, by omega, hs⟩
def Kb : List Int -> List Fault := RD.choose
theorem AeR : ∀ l : List Int, l.length <= 1048576 -> QL l (Kb l) := RD.choose_spec.1
theorem AeS : PU 127 (gOf aIs fun l => (l.length <= 1048576, vF (Kb l))) := RD.choose_spec.2
theorem ES (l : List Int) : gOf aIs (fun l => (l.length <= 1048576, vF (Kb l))) [.list (Ao l) false] = (l.length <= 1048576, .list (Az (Kb l)) false) := Al (F := fun l => (l.length <= 1048576, vF (Kb l))) Vq l
def JI := ao (vl Pct.enc)
theorem VG : Ij JI := ijo (ijl Pct.inj)
def KU (x : Pct) : Prop := 0 <= x.percent /\ x.percent <= 1000
def Om (l : List Pct) (i : Nat) (g : List Fault) : Prop := g = [] -> ∀ x ∈ l.take i, KU x
theorem Om.step {l : List Pct} {i : Nat} {g g' : List Fault} (h : Om l i g) (hi : i < l.length) (e : g' = [] -> g = []) (hx : g' = [] -> KU l[i]) : Om l (i + 1) g' := fun e' x hx' => by
 rw [Dm hi] at hx'
 rcases BT.1 hx' with h' | h'
 ·exact h (e e') x h'
 ·rw [Bp.1 h']; exact hx e'
def QO (l : List Pct) (g : List Fault) : Prop := g.length <= 3 * l.length /\ (g = [] -> ∀ x ∈ l, KU x) /\ FSm g
def Hj (l : List Pct) : Prop := l.length <= 1000000 /\ ∀ x ∈ l, x.ok
theorem TD : ∃ F : List Pct -> List Fault, (∀ l, Hj l -> QO l (F l)) /\ PU 128 (gOf JI fun l => (Hj l, vF (F l))) := by
 have hG := Ac2
 refine Sd.p (val := vF) (R := QO) VG (by simp [JI]) ?_
 rintro l hv Q hQ
 have Y := Sd.E EF0 hG mixed
 have Z := Sd.T EF0 hG
 obtain ⟨hll, hlo⟩ : Hj l := hv
 refine Aa (Z 0 rfl ?_)
 simp only [go_sem, simprocAttr, JI, BG, AC, BN]
 refine Aa (Z 1 rfl ?_)
 simp only [go_sem, simprocAttr, BG, AC, BN]
 refine Aa (Aa (Z 2 rfl ?_))
 simp only [go_sem, simprocAttr, BG, AC, BN]
 refine Aq ?_
 refine Ba (α := Nat × (List Fault)) (fun γ => (γ.1 <= l.length) /\ (γ.2.length <= 3 * γ.1) /\ (Om l γ.1 γ.2) /\ (FSm γ.2)) (fun γ => ⟨mkE [(0, V.list (List.map Pct.enc l) false), (3, .own 999 γ.2.length), (4, .int .i64 γ.1)], mkH [(999, .arr 126 2 (Az γ.2))]⟩) (fun γ => l.length - γ.1) (0, []) ⟨As _, AF _, (fun _ x hx => nomatch hx), FSm.nil⟩ ?_ ?_
 ·exact leM
 rintro ⟨i, g⟩ ⟨hi, hg, hok, hs⟩ KL0 hKL0
 try dsimp only at *
 refine Aa (Aa (Z 3 rfl ?_))
 simp only [go_sem, simprocAttr, Ac, BG, AC, BN]
 refine Ad rfl (fun hc3 => ?_) fun hc3 => ?_
 ·simp only [hcL] at hc3
  refine Af ?_
  refine Aa (Aq ?_)
  have hd := Id (i := i) (by omega)
  have hi2 := Je (i := i) (by omega)
  have hxo := hlo _ (AI hc3)
  obtain ⟨z, hz⟩ : ∃ z, z = l[i] := ⟨_, rfl⟩
  rw [<- hz] at hxo
  have hp8 : (Mg ++ dec i).length <= 1000 := No (by decide) hd
  refine Aa (Z 5 rfl ?_)
  simp only [go_sem, simprocAttr, inI, hi2, BG, AC, BN]
  and_intros <;> try exact sdA
  refine Aa (Aa (Z 6 rfl ?_))
  simp only [go_sem, simprocAttr, BG, AC, BN]
  refine Aq ?_
  refine Ba (α := Nat × Bool) (fun γ => (γ.1 <= i)) (fun γ => ⟨mkE [(0, V.list (List.map Pct.enc l) false), (3, V.own 999 g.length), (4, V.int IntKind.i64 ↑i), (5, V.str (112 :: 101 :: 114 :: 99 :: 101 :: 110 :: 116 :: 32 :: dec ↑i)), (6, .bool γ.2), (7, .int .i64 γ.1)], mkH [(999, Ob.arr 126 2 (Az g))]⟩) (fun γ => i - γ.1) (0, false) (As _) ?_ ?_
  ·exact leM
  rintro ⟨j, tw⟩ hj KL2 hKL2
  try dsimp only at *
  refine Aa (Aa (Z 7 rfl ?_))
  simp only [go_sem, simprocAttr, BG, AC, BN]
  refine Ad rfl (fun hc7 => ?_) fun hc7 => ?_
  ·simp only [hcL] at hc7
   refine Af ?_
   refine Aa (Aq ?_)
   have hjl : j < l.length := by omega
   refine Y 9 rfl (by kernel_rfl) ?_
   simp only [go_sem, simprocAttr, Ap _ _ _ _ hc3, Ap _ _ _ _ hjl, hc3, hjl, Pct.enc, Ac, <- hz, BG, AC, BN]
   and_intros <;> try exact sdA
   refine Z 8 rfl ?_
   simp only [go_sem, simprocAttr, inI, BG, AC, BN]
   and_intros <;> try exact sdA
   refine hKL2 (j + 1, (tw || decide (l[j].type = z.type))) _ ?_ ?_ ?_
   ·(try dsimp only); omega
   ·(try dsimp only); omega
   exact leM
  simp only [hcL] at hc7
  refine AX ?_
  simp only [go_sem, simprocAttr]
  refine DT (α := (List Fault)) (fun f1 => (f1 = g ++ fIf (!Df z.type 3 3) 5 (Mg ++ dec i)) /\ (f1.length <= g.length + 1)) (fun f1 => ⟨mkE [(0, V.list (List.map Pct.enc l) false), (3, .own 999 f1.length), (4, V.int IntKind.i64 ↑i), (5, V.str (112 :: 101 :: 114 :: 99 :: 101 :: 110 :: 116 :: 32 :: dec ↑i)), (6, V.bool tw)], mkH [(999, .arr 126 2 (Az f1))]⟩) ?_ ?_
  ·intro KC10 hKC10
   refine Aa (Z 10 rfl ?_)
   simp only [go_sem, simprocAttr, Ap _ _ _ _ hc3, hc3, Pct.enc, Ac, <- hz, hxo.1, BG, AC, BN]
   and_intros <;> try exact sdA
   refine Ad rfl (fun hb10 => ?_) fun hb10 => ?_
   ·refine Z 11 rfl ?_
    simp only [go_sem, simprocAttr, BG, AC, BN]
    and_intros <;> try exact sdA
    refine hKC10 (g ++ [⟨5, Mg ++ dec i⟩]) _ ?_ ?_
    ·(try dsimp only); exact ⟨by rw [Du (show (!Df z.type 3 3) = true from hb10)], by simp⟩
    refine Le.mk _ _ ?_ ?_ rfl <;> simp only [go_sem, simprocAttr, An, Aw, Ax] <;> and_intros <;> try exact leA
   refine Af ?_
   refine hKC10 (g) _ ?_ ?_
   ·(try dsimp only); exact ⟨by rw [Dt (show (!Df z.type 3 3) = false from hb10), Br], by omega⟩
   exact leM
  rintro f1 ⟨hf1, lf1⟩
  refine DT (α := (List Fault)) (fun f2 => (f2 = f1 ++ fIf (tw) 6 (Mg ++ dec i)) /\ (f2.length <= f1.length + 1)) (fun f2 => ⟨mkE [(0, V.list (List.map Pct.enc l) false), (3, .own 999 f2.length), (4, V.int IntKind.i64 ↑i), (5, V.str (112 :: 101 :: 114 :: 99 :: 101 :: 110 :: 116 :: 32 :: dec ↑i))], mkH [(999, .arr 126 2 (Az f2))]⟩) ?_ ?_
  ·intro KC12 hKC12
   refine Aa (Z 12 rfl ?_)
   simp only [go_sem, simprocAttr, BG, AC, BN]
   refine Ad rfl (fun hb12 => ?_) fun hb12 => ?_
   ·refine Z 13 rfl ?_
    simp only [go_sem, simprocAttr, BG, AC, BN]
    and_intros <;> try exact sdA
    refine hKC12 (f1 ++ [⟨6, Mg ++ dec i⟩]) _ ?_ ?_
    ·(try dsimp only); exact ⟨by rw [Du (show (tw) = true from hb12)], by simp⟩
    refine Le.mk _ _ ?_ ?_ rfl <;> simp only [go_sem, simprocAttr, An, Aw, Ax] <;> and_intros <;> try exact leA
   refine Af ?_
   refine hKC12 (f1) _ ?_ ?_
   ·(try dsimp only); exact ⟨by rw [Dt (show (tw) = false from hb12), Br], by omega⟩
   exact leM
  rintro f2 ⟨hf2, lf2⟩
  refine Aa (Z 14 rfl ?_)
  simp only [go_sem, simprocAttr, Ap _ _ _ _ hc3, hc3, Pct.enc, Ac, <- hz, BG, AC, BN]
  and_intros <;> try exact sdA
  refine Ad rfl (fun hb14 => ?_) fun hb14 => ?_
  ·refine Z 15 rfl ?_
   simp only [go_sem, simprocAttr, BG, AC, BN]
   and_intros <;> try exact sdA
   refine Z 4 rfl ?_
   simp only [go_sem, simprocAttr, inI, BG, AC, BN]
   and_intros <;> try exact sdA
   refine hKL0 (i + 1, f2 ++ [⟨2, Mg ++ dec i⟩]) _ ?_ ?_ ?_
   ·(try dsimp only); exact ⟨hc3, by simp only [An, Aw, Ax]; omega, fun e => by simp at e, by rw [hf2, hf1]; exact ((hs.fif hp8).fif hp8).app (FSm.one hp8)⟩
   ·(try dsimp only); omega
   refine Le.mk _ _ ?_ ?_ rfl <;> simp only [go_sem, simprocAttr, An, Aw, Ax] <;> and_intros <;> try exact leA
  refine Af ?_
  refine Z 4 rfl ?_
  simp only [go_sem, simprocAttr, inI, BG, AC, BN]
  and_intros <;> try exact sdA
  refine hKL0 (i + 1, f2) _ ?_ ?_ ?_
  ·(try dsimp only); exact ⟨hc3, by omega, hok.step hc3 (fun e => by rw [hf2, hf1] at e; simp at e; exact e.1) (fun _ => by rw [<- hz]; simp at hb14; exact ⟨by omega, by omega⟩), by rw [hf2, hf1]; exact (hs.fif hp8).fif hp8⟩
  ·(try dsimp only); omega
  exact leM
 simp only [hcL] at hc3
 refine AX ?_
 simp only [go_sem, simprocAttr]
 refine Aa (Z 16 rfl ?_)
 simp only [go_sem, simprocAttr, BG, AC, BN]
 refine TC.le (s' := ⟨mkE [(2, .list (Az g) false)], mkH []⟩) (Le.mk _ _ ?_ ?_ rfl) (Ae (hQ _ _ (.inl rfl) ?_ ?_ ?_)) <;> simp only [go_sem, simprocAttr, vF]
 ·exact DA rfl (by rw [EW]) rfl (Gp _)
 exact ⟨g, rfl, by omega, fun e => by have := hok e; rwa [BR (by omega)] at this, hs⟩
def Kh : List Pct -> List Fault := TD.choose
theorem Ail : ∀ l : List Pct, Hj l -> QO l (Kh l) := TD.choose_spec.1
theorem Aim : PU 128 (gOf JI fun l => (Hj l, vF (Kh l))) := TD.choose_spec.2
theorem Fi (l : List Pct) : gOf JI (fun l => (Hj l, vF (Kh l))) [.list (l.map Pct.enc) false] = (Hj l, .list (Az (Kh l)) false) := Al (F := fun l => (Hj l, vF (Kh l))) VG l
end Go.Proofs.YtjkclhbckfkeeaaGreatDoor
end
