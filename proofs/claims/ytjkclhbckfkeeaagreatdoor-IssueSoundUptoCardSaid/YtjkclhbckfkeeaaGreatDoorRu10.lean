import Derived.Test.YtjkclhbckfkeeaaGreatDoorPl4
import Derived.Test.YtjkclhbckfkeeaaGreatDoorPa1
import Derived.Test.YtjkclhbckfkeeaaGreatDoorPl10
import Derived.Test.YtjkclhbckfkeeaaGreatDoorCob
set_option linter.unusedSimpArgs false
set_option linter.unusedVariables false
set_option linter.deprecated false
set_option maxHeartbeats 4000000
noncomputable section
namespace Go.Proofs.YtjkclhbckfkeeaaGreatDoor
open Go Go.RowKit
structure Seg where
 carrier : List UInt8
 number : Int
 day : Int
 from' : List UInt8
 to' : List UInt8
 dep : Int
 arr : Int
def Seg.enc (x : Seg) : List V := [.str x.carrier, .int .i64 x.number, .int .i64 x.day, .str x.from', .str x.to', .int .i64 x.dep, .int .i64 x.arr]
theorem Seg.inj (a b : Seg) (h : a.enc = b.enc) : a = b := by
 obtain ⟨a_carrier, a_number, a_day, a_from', a_to', a_dep, a_arr⟩ := a
 obtain ⟨b_carrier, b_number, b_day, b_from', b_to', b_dep, b_arr⟩ := b
 simp only [Seg.enc, Bz, V.str.injEq, V.int.injEq, V.bool.injEq, V.agg.injEq, V.list.injEq, and_true, true_and] at h
 obtain ⟨h0, h1, h2, h3, h4, h5, h6⟩ := h
 subst h0
 subst h1
 subst h2
 subst h3
 subst h4
 subst h5
 subst h6
 rfl
def Seg.ok (x : Seg) : Prop := x.carrier.length <= 140737488355328 /\ inI x.number /\ inI x.day /\ x.from'.length <= 140737488355328 /\ x.to'.length <= 140737488355328 /\ inI x.dep /\ inI x.arr
def Seg.zero : Seg := ⟨[], 0, 0, [], [], 0, 0⟩
theorem Seg.rows (l : List Seg) : (∀ r ∈ l.map Seg.enc, r.length = 7) ↔ True := iff_true_intro fun r hr => by obtain ⟨x, _, rfl⟩ := An.1 hr; rfl
theorem Seg.purs (l : List Seg) : (∀ r ∈ l.map Seg.enc, V.purs r = true) ↔ True := iff_true_intro fun r hr => by obtain ⟨x, _, rfl⟩ := An.1 hr; rfl
attribute [go_sem] Seg.rows Seg.purs
structure Want where
 seg : Seg
 cls : List UInt8
def Want.enc (x : Want) : List V := [.str x.seg.carrier, .int .i64 x.seg.number, .int .i64 x.seg.day, .str x.seg.from', .str x.seg.to', .int .i64 x.seg.dep, .int .i64 x.seg.arr, .str x.cls]
theorem Want.inj (a b : Want) (h : a.enc = b.enc) : a = b := by
 obtain ⟨⟨a_seg_carrier, a_seg_number, a_seg_day, a_seg_from', a_seg_to', a_seg_dep, a_seg_arr⟩, a_cls⟩ := a
 obtain ⟨⟨b_seg_carrier, b_seg_number, b_seg_day, b_seg_from', b_seg_to', b_seg_dep, b_seg_arr⟩, b_cls⟩ := b
 simp only [Want.enc, Bz, V.str.injEq, V.int.injEq, V.bool.injEq, V.agg.injEq, V.list.injEq, and_true, true_and] at h
 obtain ⟨h0, h1, h2, h3, h4, h5, h6, h7⟩ := h
 subst h0
 subst h1
 subst h2
 subst h3
 subst h4
 subst h5
 subst h6
 subst h7
 rfl
def Want.ok (x : Want) : Prop := x.seg.ok /\ x.cls.length <= 140737488355328
def Want.zero : Want := ⟨Seg.zero, []⟩
theorem Want.rows (l : List Want) : (∀ r ∈ l.map Want.enc, r.length = 8) ↔ True := iff_true_intro fun r hr => by obtain ⟨x, _, rfl⟩ := An.1 hr; rfl
theorem Want.purs (l : List Want) : (∀ r ∈ l.map Want.enc, V.purs r = true) ↔ True := iff_true_intro fun r hr => by obtain ⟨x, _, rfl⟩ := An.1 hr; rfl
attribute [go_sem] Want.rows Want.purs
structure Part where
 from' : Int
 to' : Int
 fare : Int
 amount : Int
def Part.enc (x : Part) : List V := [.int .i64 x.from', .int .i64 x.to', .int .i64 x.fare, .int .i64 x.amount]
theorem Part.inj (a b : Part) (h : a.enc = b.enc) : a = b := by
 obtain ⟨a_from', a_to', a_fare, a_amount⟩ := a
 obtain ⟨b_from', b_to', b_fare, b_amount⟩ := b
 simp only [Part.enc, Bz, V.str.injEq, V.int.injEq, V.bool.injEq, V.agg.injEq, V.list.injEq, and_true, true_and] at h
 obtain ⟨h0, h1, h2, h3⟩ := h
 subst h0
 subst h1
 subst h2
 subst h3
 rfl
def Part.ok (x : Part) : Prop := inI x.from' /\ inI x.to' /\ inI x.fare /\ inI x.amount
theorem Part.rows (l : List Part) : (∀ r ∈ l.map Part.enc, r.length = 4) ↔ True := iff_true_intro fun r hr => by obtain ⟨x, _, rfl⟩ := An.1 hr; rfl
theorem Part.purs (l : List Part) : (∀ r ∈ l.map Part.enc, V.purs r = true) ↔ True := iff_true_intro fun r hr => by obtain ⟨x, _, rfl⟩ := An.1 hr; rfl
attribute [go_sem] Part.rows Part.purs
structure Charge where
 code : List UInt8
 amount : Int
def Charge.enc (x : Charge) : List V := [.str x.code, .int .i64 x.amount]
theorem Charge.inj (a b : Charge) (h : a.enc = b.enc) : a = b := by
 obtain ⟨a_code, a_amount⟩ := a
 obtain ⟨b_code, b_amount⟩ := b
 simp only [Charge.enc, Bz, V.str.injEq, V.int.injEq, V.bool.injEq, V.agg.injEq, V.list.injEq, and_true, true_and] at h
 obtain ⟨h0, h1⟩ := h
 subst h0
 subst h1
 rfl
def Charge.ok (x : Charge) : Prop := x.code.length <= 140737488355328 /\ inI x.amount
def Charge.zero : Charge := ⟨[], 0⟩
theorem Charge.rows (l : List Charge) : (∀ r ∈ l.map Charge.enc, r.length = 2) ↔ True := iff_true_intro fun r hr => by obtain ⟨x, _, rfl⟩ := An.1 hr; rfl
theorem Charge.purs (l : List Charge) : (∀ r ∈ l.map Charge.enc, V.purs r = true) ↔ True := iff_true_intro fun r hr => by obtain ⟨x, _, rfl⟩ := An.1 hr; rfl
attribute [go_sem] Charge.rows Charge.purs
structure Two where
 a : Int
 b : Int
def Two.enc (x : Two) : List V := [.int .i64 x.a, .int .i64 x.b]
theorem Two.inj (a b : Two) (h : a.enc = b.enc) : a = b := by
 obtain ⟨a_a, a_b⟩ := a
 obtain ⟨b_a, b_b⟩ := b
 simp only [Two.enc, Bz, V.str.injEq, V.int.injEq, V.bool.injEq, V.agg.injEq, V.list.injEq, and_true, true_and] at h
 obtain ⟨h0, h1⟩ := h
 subst h0
 subst h1
 rfl
def Two.ok (x : Two) : Prop := inI x.a /\ inI x.b
theorem Two.rows (l : List Two) : (∀ r ∈ l.map Two.enc, r.length = 2) ↔ True := iff_true_intro fun r hr => by obtain ⟨x, _, rfl⟩ := An.1 hr; rfl
theorem Two.purs (l : List Two) : (∀ r ∈ l.map Two.enc, V.purs r = true) ↔ True := iff_true_intro fun r hr => by obtain ⟨x, _, rfl⟩ := An.1 hr; rfl
attribute [go_sem] Two.rows Two.purs
structure Quote where
 parts : List Part
 pairs : List Two
 taxes : List Charge
 fare : Int
 total : Int
def Quote.enc (x : Quote) : List V := [.list (x.parts.map Part.enc) false, .list (x.pairs.map Two.enc) false, .list (x.taxes.map Charge.enc) false, .int .i64 x.fare, .int .i64 x.total]
theorem Quote.inj (a b : Quote) (h : a.enc = b.enc) : a = b := by
 obtain ⟨a_parts, a_pairs, a_taxes, a_fare, a_total⟩ := a
 obtain ⟨b_parts, b_pairs, b_taxes, b_fare, b_total⟩ := b
 simp only [Quote.enc, Bz, V.str.injEq, V.int.injEq, V.bool.injEq, V.agg.injEq, V.list.injEq, and_true, true_and] at h
 obtain ⟨h0, h1, h2, h3, h4⟩ := h
 replace h0 := Cj Part.inj h0
 subst h0
 replace h1 := Cj Two.inj h1
 subst h1
 replace h2 := Cj Charge.inj h2
 subst h2
 subst h3
 subst h4
 rfl
def Quote.ok (x : Quote) : Prop := (x.parts.length <= 140737488355328 /\ ∀ z ∈ x.parts, z.ok) /\ (x.pairs.length <= 140737488355328 /\ ∀ z ∈ x.pairs, z.ok) /\ (x.taxes.length <= 140737488355328 /\ ∀ z ∈ x.taxes, z.ok) /\ inI x.fare /\ inI x.total
theorem Quote.rows (l : List Quote) : (∀ r ∈ l.map Quote.enc, r.length = 5) ↔ True := iff_true_intro fun r hr => by obtain ⟨x, _, rfl⟩ := An.1 hr; rfl
theorem Quote.purs (l : List Quote) : (∀ r ∈ l.map Quote.enc, V.purs r = true) ↔ True := iff_true_intro fun r hr => by obtain ⟨x, _, rfl⟩ := An.1 hr; rfl
attribute [go_sem] Quote.rows Quote.purs
structure Person where
 last : List UInt8
 first : List UInt8
 type : List UInt8
def Person.enc (x : Person) : List V := [.str x.last, .str x.first, .str x.type]
theorem Person.inj (a b : Person) (h : a.enc = b.enc) : a = b := by
 obtain ⟨a_last, a_first, a_type⟩ := a
 obtain ⟨b_last, b_first, b_type⟩ := b
 simp only [Person.enc, Bz, V.str.injEq, V.int.injEq, V.bool.injEq, V.agg.injEq, V.list.injEq, and_true, true_and] at h
 obtain ⟨h0, h1, h2⟩ := h
 subst h0
 subst h1
 subst h2
 rfl
def Person.ok (x : Person) : Prop := x.last.length <= 140737488355328 /\ x.first.length <= 140737488355328 /\ x.type.length <= 140737488355328
def Person.zero : Person := ⟨[], [], []⟩
theorem Person.rows (l : List Person) : (∀ r ∈ l.map Person.enc, r.length = 3) ↔ True := iff_true_intro fun r hr => by obtain ⟨x, _, rfl⟩ := An.1 hr; rfl
theorem Person.purs (l : List Person) : (∀ r ∈ l.map Person.enc, V.purs r = true) ↔ True := iff_true_intro fun r hr => by obtain ⟨x, _, rfl⟩ := An.1 hr; rfl
attribute [go_sem] Person.rows Person.purs
structure Coupon where
 want : Want
 basis : List UInt8
 status : Int
 value : Int
def Coupon.enc (x : Coupon) : List V := [.str x.want.seg.carrier, .int .i64 x.want.seg.number, .int .i64 x.want.seg.day, .str x.want.seg.from', .str x.want.seg.to', .int .i64 x.want.seg.dep, .int .i64 x.want.seg.arr, .str x.want.cls, .str x.basis, .int .i64 x.status, .int .i64 x.value]
theorem Coupon.inj (a b : Coupon) (h : a.enc = b.enc) : a = b := by
 obtain ⟨⟨⟨a_want_seg_carrier, a_want_seg_number, a_want_seg_day, a_want_seg_from', a_want_seg_to', a_want_seg_dep, a_want_seg_arr⟩, a_want_cls⟩, a_basis, a_status, a_value⟩ := a
 obtain ⟨⟨⟨b_want_seg_carrier, b_want_seg_number, b_want_seg_day, b_want_seg_from', b_want_seg_to', b_want_seg_dep, b_want_seg_arr⟩, b_want_cls⟩, b_basis, b_status, b_value⟩ := b
 simp only [Coupon.enc, Bz, V.str.injEq, V.int.injEq, V.bool.injEq, V.agg.injEq, V.list.injEq, and_true, true_and] at h
 obtain ⟨h0, h1, h2, h3, h4, h5, h6, h7, h8, h9, h10⟩ := h
 subst h0
 subst h1
 subst h2
 subst h3
 subst h4
 subst h5
 subst h6
 subst h7
 subst h8
 subst h9
 subst h10
 rfl
def Coupon.ok (x : Coupon) : Prop := x.want.ok /\ x.basis.length <= 140737488355328 /\ inI x.status /\ inI x.value
def Coupon.zero : Coupon := ⟨Want.zero, [], 0, 0⟩
theorem Coupon.rows (l : List Coupon) : (∀ r ∈ l.map Coupon.enc, r.length = 11) ↔ True := iff_true_intro fun r hr => by obtain ⟨x, _, rfl⟩ := An.1 hr; rfl
theorem Coupon.purs (l : List Coupon) : (∀ r ∈ l.map Coupon.enc, V.purs r = true) ↔ True := iff_true_intro fun r hr => by obtain ⟨x, _, rfl⟩ := An.1 hr; rfl
attribute [go_sem] Coupon.rows Coupon.purs
structure Ticket where
 number : Int
 locator : List UInt8
 person : Person
 coupons : List Coupon
 fare : Int
 taxes : List Charge
 total : Int
 issued : Int
def Ticket.enc (x : Ticket) : List V := [.int .i64 x.number, .str x.locator, .str x.person.last, .str x.person.first, .str x.person.type, .list (x.coupons.map Coupon.enc) false, .int .i64 x.fare, .list (x.taxes.map Charge.enc) false, .int .i64 x.total, .int .i64 x.issued]
theorem Ticket.inj (a b : Ticket) (h : a.enc = b.enc) : a = b := by
 obtain ⟨a_number, a_locator, ⟨a_person_last, a_person_first, a_person_type⟩, a_coupons, a_fare, a_taxes, a_total, a_issued⟩ := a
 obtain ⟨b_number, b_locator, ⟨b_person_last, b_person_first, b_person_type⟩, b_coupons, b_fare, b_taxes, b_total, b_issued⟩ := b
 simp only [Ticket.enc, Bz, V.str.injEq, V.int.injEq, V.bool.injEq, V.agg.injEq, V.list.injEq, and_true, true_and] at h
 obtain ⟨h0, h1, h2, h3, h4, h5, h6, h7, h8, h9⟩ := h
 subst h0
 subst h1
 subst h2
 subst h3
 subst h4
 replace h5 := Cj Coupon.inj h5
 subst h5
 subst h6
 replace h7 := Cj Charge.inj h7
 subst h7
 subst h8
 subst h9
 rfl
def Ticket.ok (x : Ticket) : Prop := inI x.number /\ x.locator.length <= 140737488355328 /\ x.person.ok /\ (x.coupons.length <= 140737488355328 /\ ∀ z ∈ x.coupons, z.ok) /\ inI x.fare /\ (x.taxes.length <= 140737488355328 /\ ∀ z ∈ x.taxes, z.ok) /\ inI x.total /\ inI x.issued
def Ticket.zero : Ticket := ⟨0, [], Person.zero, [], 0, [], 0, 0⟩
theorem Ticket.rows (l : List Ticket) : (∀ r ∈ l.map Ticket.enc, r.length = 10) ↔ True := iff_true_intro fun r hr => by obtain ⟨x, _, rfl⟩ := An.1 hr; rfl
theorem Ticket.purs (l : List Ticket) : (∀ r ∈ l.map Ticket.enc, V.purs r = true) ↔ True := iff_true_intro fun r hr => by obtain ⟨x, _, rfl⟩ := An.1 hr; rfl
attribute [go_sem] Ticket.rows Ticket.purs
structure Post where
 account : List UInt8
 amount : Int
def Post.enc (x : Post) : List V := [.str x.account, .int .i64 x.amount]
theorem Post.rows (l : List Post) : (∀ r ∈ l.map Post.enc, r.length = 2) ↔ True := iff_true_intro fun r hr => by obtain ⟨x, _, rfl⟩ := An.1 hr; rfl
theorem Post.purs (l : List Post) : (∀ r ∈ l.map Post.enc, V.purs r = true) ↔ True := iff_true_intro fun r hr => by obtain ⟨x, _, rfl⟩ := An.1 hr; rfl
attribute [go_sem] Post.rows Post.purs
structure Tax where
 code : List UInt8
 kind : Int
 country : List UInt8
 amount : Int
 scope : Int
 transit : Int
 free : List (List UInt8)
def Tax.enc (x : Tax) : List V := [.str x.code, .int .i64 x.kind, .str x.country, .int .i64 x.amount, .int .i64 x.scope, .int .i64 x.transit, .list (strs x.free) false]
theorem Tax.inj (a b : Tax) (h : a.enc = b.enc) : a = b := by
 obtain ⟨a_code, a_kind, a_country, a_amount, a_scope, a_transit, a_free⟩ := a
 obtain ⟨b_code, b_kind, b_country, b_amount, b_scope, b_transit, b_free⟩ := b
 simp only [Tax.enc, Bz, V.str.injEq, V.int.injEq, V.bool.injEq, V.agg.injEq, V.list.injEq, and_true, true_and] at h
 obtain ⟨h0, h1, h2, h3, h4, h5, h6⟩ := h
 subst h0
 subst h1
 subst h2
 subst h3
 subst h4
 subst h5
 replace h6 := Iy h6
 subst h6
 rfl
def Tax.ok (x : Tax) : Prop := x.code.length <= 140737488355328 /\ inI x.kind /\ x.country.length <= 140737488355328 /\ inI x.amount /\ inI x.scope /\ inI x.transit /\ (x.free.length <= 140737488355328 /\ ∀ z ∈ x.free, z.length <= 140737488355328)
def Tax.zero : Tax := ⟨[], 0, [], 0, 0, 0, []⟩
theorem Tax.rows (l : List Tax) : (∀ r ∈ l.map Tax.enc, r.length = 7) ↔ True := iff_true_intro fun r hr => by obtain ⟨x, _, rfl⟩ := An.1 hr; rfl
theorem Tax.purs (l : List Tax) : (∀ r ∈ l.map Tax.enc, V.purs r = true) ↔ True := iff_true_intro fun r hr => by obtain ⟨x, _, rfl⟩ := An.1 hr; rfl
attribute [go_sem] Tax.rows Tax.purs
def PO (s : List UInt8) : Bool := !Db s 3 3
def isS (s : List UInt8) (t : List UInt8) : Bool := decide (s = t)
def In (x : Tax) : Bool := Db x.code 2 2 && Cq 2 x.country && !x.free.any PO
def MR (k : Int) : Int := if k = 4 then 100000 else 1099511627776
def LX := ao (vg Tax.enc)
theorem WD : Ij LX := ijo (ijg Tax.inj)
def Mm (x : Tax) : Prop × V := (x.ok, .bool (In x))
theorem FH (a b c d e f g) : gOf LX Mm [.agg [.str a, .int .i64 b, .str c, .int .i64 d, .int .i64 e, .int .i64 f, .list (strs g) false]] = ((⟨a, b, c, d, e, f, g⟩ : Tax).ok, .bool (In ⟨a, b, c, d, e, f, g⟩)) := Al WD (⟨a, b, c, d, e, f, g⟩ : Tax)
def trN : Tab
 | 23 => BC
 | 131 => (gOf Bh (HX 2))
 | _ => gNo
theorem Anp : ∀ f, PU f (trN f) := fun f => by
 unfold trN
 split
 ·exact MT
 ·exact Acw
 ·exact Ah.no
theorem AjB : PU 72 (gOf LX Mm) := by
 have hG := Anp
 refine AaB.a WD (by simp [LX]) ?_
 rintro ⟨a, b, c, d, e, f, g⟩ hv C hN Q hQ
 have Z := AaB.R EF0 hG hN
 obtain ⟨h1, h2, h3, h4, h5, h6, h7, h8⟩ : (⟨a, b, c, d, e, f, g⟩ : Tax).ok := hv
 dsimp only at h1 h3 h7 h8
 refine Aa (Z 0 rfl ?_)
 simp only [go_sem, simprocAttr, LX, Tax.enc, trN, AG, AV]
 refine Aa (Aa (Z 1 rfl ?_))
 simp only [go_sem, simprocAttr, h1, h3, trN, AG, AV]
 and_intros <;> try exact sdA
 refine Ae rfl (fun hb1 => ?_) fun hb1 => ?_
 ·refine Aa (Z 2 rfl ?_)
  simp only [go_sem, simprocAttr, trN, AG, AV]
  refine Ad (hQ _ _ (.inl rfl) ?_ ?_ ?_) <;> simp only [go_sem, simprocAttr, Mm]
  unfold In; dsimp only; rw [show (Db a 2 2 && Cq 2 c) = false by revert hb1; cases Db a 2 2 <;> cases Cq 2 c <;> simp]; rfl
 refine Af ?_
 refine Aa ?_
 have hcc : (Db a 2 2 && Cq 2 c) = true := by revert hb1; cases Db a 2 2 <;> cases Cq 2 c <;> simp
 refine Aa (Z 3 rfl ?_)
 simp only [go_sem, simprocAttr, trN, AG, AV]
 refine Ao ?_
 refine AX (α := Nat) (fun i => (i <= g.length) /\ (∀ s ∈ g.take i, PO s = false)) (fun i => ⟨mkE [(1, V.ptr 1 0), (3, .int .i64 i)], mkH [(1, Ob.box 143 [V.str a, V.int IntKind.i64 b, V.str c, V.int IntKind.i64 d, V.int IntKind.i64 e, V.int IntKind.i64 f, V.list (strs g) false])]⟩) (fun i => g.length - i) 0 (by simp) ?_ ?_
 ·exact leM
 rintro i ⟨hi, hp⟩ KL0 hKL0
 try dsimp only at *
 refine Aa (Aa (Z 4 rfl ?_))
 simp only [go_sem, simprocAttr, trN, AG, AV]
 refine Ae rfl (fun hc4 => ?_) fun hc4 => ?_
 ·simp only [hcL] at hc4
  refine Af ?_
  refine Aa (Ao ?_)
  have hsi := h8 _ (AF hc4)
  refine Aa (Z 6 rfl ?_)
  simp only [go_sem, simprocAttr, FY _ _ _ hc4, hc4, hsi, trN, AG, AV]
  and_intros <;> try exact sdA
  refine Ae rfl (fun hb6 => ?_) fun hb6 => ?_
  ·refine Aa (Z 7 rfl ?_)
   simp only [go_sem, simprocAttr, trN, AG, AV]
   refine Ad (hQ _ _ (.inl rfl) ?_ ?_ ?_) <;> simp only [go_sem, simprocAttr, Mm]
   unfold In; dsimp only; rw [hcc, AeJ (p := PO) hc4 hb6]; rfl
  refine Af ?_
  refine Z 5 rfl ?_
  simp only [go_sem, simprocAttr, inI, trN, AG, AV]
  and_intros <;> try exact sdA
  refine hKL0 (i + 1) _ ?_ ?_ ?_
  ·(try dsimp only); exact ⟨hc4, Iz hc4 hp hb6⟩
  ·(try dsimp only); omega
  exact leM
 simp only [hcL] at hc4
 refine AS ?_
 simp only [go_sem, simprocAttr]
 refine Aa (Z 8 rfl ?_)
 simp only [go_sem, simprocAttr, trN, AG, AV]
 refine Ad (hQ _ _ (.inl rfl) ?_ ?_ ?_) <;> simp only [go_sem, simprocAttr, Mm]
 unfold In; dsimp only; rw [hcc, AeK (p := PO) hc4 hp]; rfl
def NB (k : Int) : Prop × V := (True, .int .i64 (MR k))
theorem FG (k : Int) : gOf Bm NB [.int .i64 k] = (True, .int .i64 (MR k)) := Al Ff k
theorem Ajz : PU 73 (gOf Bm NB) := by
 have hG := AH
 refine AaC.a Ff (by simp [Bm]) ?_
 rintro k hv C hN Q hQ
 have Z := AaC.R EF0 hG hN
 refine Aa (Z 0 rfl ?_)
 simp only [go_sem, simprocAttr, Bm]
 refine Aa (Aa (Z 1 rfl ?_))
 simp only [go_sem, simprocAttr]
 refine Ae rfl (fun hb => ?_) fun hb => ?_
 ·refine Aa (Z 2 rfl ?_)
  simp only [go_sem, simprocAttr]
  refine Ad (hQ _ _ (.inl rfl) ?_ ?_ ?_) <;> simp only [go_sem, simprocAttr, NB]
  unfold MR; rw [if_pos (of_decide_eq_true hb)]
 refine Af ?_
 refine Aa (Z 3 rfl ?_)
 simp only [go_sem, simprocAttr]
 refine Ad (hQ _ _ (.inl rfl) ?_ ?_ ?_) <;> simp only [go_sem, simprocAttr, NB]
 unfold MR; rw [if_neg (of_decide_eq_false hb)]
structure Fare where
 carrier : List UInt8
 from' : List UInt8
 to' : List UInt8
 basis : List UInt8
 cls : List UInt8
 round : Bool
 amount : Int
 rule : Int
 routing : Int
def Fare.enc (x : Fare) : List V := [.str x.carrier, .str x.from', .str x.to', .str x.basis, .str x.cls, .bool x.round, .int .i64 x.amount, .int .i64 x.rule, .int .i64 x.routing]
theorem Fare.inj (a b : Fare) (h : a.enc = b.enc) : a = b := by
 obtain ⟨a_carrier, a_from', a_to', a_basis, a_cls, a_round, a_amount, a_rule, a_routing⟩ := a
 obtain ⟨b_carrier, b_from', b_to', b_basis, b_cls, b_round, b_amount, b_rule, b_routing⟩ := b
 simp only [Fare.enc, Bz, V.str.injEq, V.int.injEq, V.bool.injEq, V.agg.injEq, V.list.injEq, and_true, true_and] at h
 obtain ⟨h0, h1, h2, h3, h4, h5, h6, h7, h8⟩ := h
 subst h0
 subst h1
 subst h2
 subst h3
 subst h4
 subst h5
 subst h6
 subst h7
 subst h8
 rfl
def Fare.ok (x : Fare) : Prop := x.carrier.length <= 140737488355328 /\ x.from'.length <= 140737488355328 /\ x.to'.length <= 140737488355328 /\ x.basis.length <= 140737488355328 /\ x.cls.length <= 140737488355328 /\ True /\ inI x.amount /\ inI x.rule /\ inI x.routing
def Fare.zero : Fare := ⟨[], [], [], [], [], false, 0, 0, 0⟩
theorem Fare.rows (l : List Fare) : (∀ r ∈ l.map Fare.enc, r.length = 9) ↔ True := iff_true_intro fun r hr => by obtain ⟨x, _, rfl⟩ := An.1 hr; rfl
theorem Fare.purs (l : List Fare) : (∀ r ∈ l.map Fare.enc, V.purs r = true) ↔ True := iff_true_intro fun r hr => by obtain ⟨x, _, rfl⟩ := An.1 hr; rfl
attribute [go_sem] Fare.rows Fare.purs
abbrev Rule.ok (r : Rule) : Prop := RuleOk r
def Rule.zero : Rule := ⟨0, .mk 0 [] 0 0 ⟨0, 0, 0⟩ [], [], 0, 0, 0, 0, []⟩
instance : Inhabited Rule := ⟨Rule.zero⟩
instance : Inhabited Routing := ⟨Routing.zero⟩
structure Tariff where
 fares : List Fare
 rules : List Rule
 routings : List Routing
 taxes : List Tax
def Tariff.enc (x : Tariff) : List V := [.list (x.fares.map Fare.enc) false, .list (x.rules.map Rule.enc) false, .list (x.routings.map Routing.enc) false, .list (x.taxes.map Tax.enc) false]
theorem Tariff.inj (a b : Tariff) (h : a.enc = b.enc) : a = b := by
 obtain ⟨a_fares, a_rules, a_routings, a_taxes⟩ := a
 obtain ⟨b_fares, b_rules, b_routings, b_taxes⟩ := b
 simp only [Tariff.enc, Bz, V.str.injEq, V.int.injEq, V.bool.injEq, V.agg.injEq, V.list.injEq, and_true, true_and] at h
 obtain ⟨h0, h1, h2, h3⟩ := h
 replace h0 := Cj Fare.inj h0
 subst h0
 replace h1 := Cj Rule.inj h1
 subst h1
 replace h2 := Cj Routing.inj h2
 subst h2
 replace h3 := Cj Tax.inj h3
 subst h3
 rfl
theorem Tariff.rows (l : List Tariff) : (∀ r ∈ l.map Tariff.enc, r.length = 4) ↔ True := iff_true_intro fun r hr => by obtain ⟨x, _, rfl⟩ := An.1 hr; rfl
theorem Tariff.purs (l : List Tariff) : (∀ r ∈ l.map Tariff.enc, V.purs r = true) ↔ True := iff_true_intro fun r hr => by obtain ⟨x, _, rfl⟩ := An.1 hr; rfl
attribute [go_sem] Tariff.rows Tariff.purs
theorem Rule.zero_ok : Rule.zero.ok := ⟨by unfold Rule.zero inI; decide, by unfold Rule.zero; rw [Cond.ok_eq]; simp [inI, Period.ok], by decide, by unfold Rule.zero inI; decide, by unfold Rule.zero inI; decide, by unfold Rule.zero inI; decide, by unfold Rule.zero inI; decide, ⟨by decide, fun x hx => nomatch hx⟩⟩
def vBB (b : Bool) : V := .bool b
def Kt := ar (vg Places.enc) (ao V.str)
theorem VZ : Ij Kt := ijr (ijg Places.inj) (ijo ijs)
def LnP (p : Places) : Prop := p.airports.length <= 1000000 /\ p.distances.length <= 1000000
theorem Abl : ∃ F : Places × List UInt8 -> Bool, (∀ x, LnP x.1 -> RT x (F x)) /\ PU 124 (gOf Kt fun x => (LnP x.1, vBB (F x))) := by
 have hG := AH
 refine YN.p (val := vBB) (R := RT) VZ (by simp [Kt]) ?_
 rintro ⟨⟨ps, ds⟩, c⟩ hv Q hQ
 have Z := YN.T EF0 hG
 obtain ⟨h1, h2⟩ : LnP ⟨ps, ds⟩ := hv
 dsimp only at h1 h2
 refine Ab (Z 0 rfl ?_)
 simp only [go_sem, simprocAttr, Kt, Places.enc]
 refine Ab (Ab (Z 1 rfl ?_))
 simp only [go_sem, simprocAttr]
 refine Au ?_
 refine Bg (α := Nat) (fun i => (i <= ps.length)) (fun i => ⟨mkE [(1, V.str c), (2, V.ptr 2 0), (5, .int .i64 i)], mkH [(2, Ob.box 25 [V.list (List.map Airport.enc ps) false, V.list (List.map Distance.enc ds) false])]⟩) (fun i => ps.length - i) 0 (Ar _) ?_ ?_
 ·exact leM
 rintro i hi KL0 hKL0
 try dsimp only at *
 refine Ab (Ab (Z 2 rfl ?_))
 simp only [go_sem, simprocAttr, Ac]
 refine Ag rfl (fun hc2 => ?_) fun hc2 => ?_
 ·simp only [hcL] at hc2
  refine Aj ?_
  refine Ab (Au ?_)
  refine Ab (Z 4 rfl ?_)
  simp only [go_sem, simprocAttr, Ap _ _ _ _ hc2, hc2, Airport.enc, Ac]
  and_intros <;> try exact sdA
  refine Ag rfl (fun hc4 => ?_) fun hc4 => ?_
  ·simp only [hcL] at hc4
   refine Ab (Z 5 rfl ?_)
   simp only [go_sem, simprocAttr]
   refine Ak (hQ _ _ (.inl rfl) ?_ ?_ ?_) <;> simp only [go_sem, simprocAttr, vBB]
   exact ⟨true, rfl, trivial⟩
  simp only [hcL] at hc4
  refine Aj ?_
  refine Z 3 rfl ?_
  simp only [go_sem, simprocAttr, inI]
  and_intros <;> try exact sdA
  refine hKL0 (i + 1) _ ?_ ?_ ?_
  ·(try dsimp only); exact hc2
  ·(try dsimp only); omega
  exact leM
 simp only [hcL] at hc2
 refine Bc ?_
 simp only [go_sem, simprocAttr]
 refine Ab (Z 6 rfl ?_)
 simp only [go_sem, simprocAttr]
 refine Ak (hQ _ _ (.inl rfl) ?_ ?_ ?_) <;> simp only [go_sem, simprocAttr, vBB]
 exact ⟨false, rfl, trivial⟩
def La : Places × List UInt8 -> Bool := Abl.choose
theorem Ahn : PU 124 (gOf Kt fun x => (LnP x.1, vBB (La x))) := Abl.choose_spec.2
theorem EH (ps : List Airport) (ds : List Distance) (c : List UInt8) : gOf Kt (fun x => (LnP x.1, vBB (La x))) [.agg [.list (ps.map Airport.enc) false, .list (ds.map Distance.enc) false], .str c] = (LnP ⟨ps, ds⟩, .bool (La (⟨ps, ds⟩, c))) := Al (F := fun x => (LnP x.1, vBB (La x))) VZ (⟨ps, ds⟩, c)
structure TarOk (t : Tariff) : Prop where
 f : t.fares.length <= 1000000
 r : t.rules.length <= 1000000
 g : t.routings.length <= 1000000
 x : t.taxes.length <= 1000000
 fo : ∀ z ∈ t.fares, z.ok
 ro : ∀ z ∈ t.rules, z.ok
 go : ∀ z ∈ t.routings, z.ok /\ z.links.length <= 1000000
 xo : ∀ z ∈ t.taxes, z.ok
def aTN := ar (vg Tariff.enc) (ao vi)
theorem OQ : Ij aTN := ijr (ijg Tariff.inj) (ijo iji)
def vRB (y : Rule × Bool) : V := .tup [.agg y.1.enc, .bool y.2]
def RRl (x : Tariff × Int) (y : Rule × Bool) : Prop := y = (Rule.zero, false) \/ y.2 = true /\ y.1 ∈ x.1.rules
theorem Rule.pur (r : Rule) : V.purs r.enc = true := (Rule.purs [r]).2 trivial _ (by simp)
theorem Rule.enc_at (a1 : Int) (k : Int) (l : List Cond) (a b x y z : Int) (t : List (List UInt8)) (a3 : List Int) (a4 a5 a6 a7 : Int) (a8 : List Pct) : (Rule.mk a1 (.mk k l a b ⟨x, y, z⟩ t) a3 a4 a5 a6 a7 a8).enc = [.int .i64 a1, .int .i64 k, .list (l.map Cond.enc) false, .int .i64 a, .int .i64 b, .int .i64 x, .int .i64 y, .int .i64 z, .list (strs t) false, .list (Aq a3) false, .int .i64 a4, .int .i64 a5, .int .i64 a6, .int .i64 a7, .list (a8.map Pct.enc) false] := by unfold Rule.enc; rw [Cond.enc_eq]; rfl
def Rule.Z : List V := [.int .i64 0, .int .i64 0, .list [] false, .int .i64 0, .int .i64 0, .int .i64 0, .int .i64 0, .int .i64 0, .list [] false, .list [] false, .int .i64 0, .int .i64 0, .int .i64 0, .int .i64 0, .list [] false]
theorem Rule.enc_zero : Rule.zero.enc = Rule.Z := Rule.enc_at ..
theorem Ux : ∃ F : Tariff × Int -> Rule × Bool, (∀ x, TarOk x.1 -> RRl x (F x)) /\ PU 95 (gOf aTN fun x => (TarOk x.1, vRB (F x))) := by
 have hG := AH
 refine AaK.p (val := vRB) (R := RRl) OQ (by simp [aTN]) ?_
 rintro ⟨⟨fs, rs, gs, xs⟩, n⟩ hv Q hQ
 have Z := AaK.T EF0 hG
 have hl : rs.length <= 1000000 := (show TarOk ⟨fs, rs, gs, xs⟩ from hv).r
 refine Ab (Z 0 rfl ?_)
 simp only [go_sem, simprocAttr, aTN, Tariff.enc]
 refine Ab (Ab (Z 1 rfl ?_))
 simp only [go_sem, simprocAttr]
 refine Au ?_
 refine Bg (α := Nat) (fun i => (i <= rs.length)) (fun i => ⟨mkE [(1, V.int IntKind.i64 n), (2, V.ptr 2 0), (4, V.ptr 4 0), (6, .int .i64 i)], mkH [(2, Ob.box 31 [V.list (List.map Fare.enc fs) false, V.list (List.map Rule.enc rs) false, V.list (List.map Routing.enc gs) false, V.list (List.map Tax.enc xs) false]), (4, Ob.box 135 [V.int IntKind.i64 0, V.int IntKind.i64 0, V.nils, V.int IntKind.i64 0, V.int IntKind.i64 0, V.int IntKind.i64 0, V.int IntKind.i64 0, V.int IntKind.i64 0, V.nils, V.nils, V.int IntKind.i64 0, V.int IntKind.i64 0, V.int IntKind.i64 0, V.int IntKind.i64 0, V.nils])]⟩) (fun i => rs.length - i) 0 (Ar _) ?_ ?_
 ·exact leM
 rintro i hi KL0 hKL0
 try dsimp only at *
 refine Ab (Ab (Z 2 rfl ?_))
 simp only [go_sem, simprocAttr, Ac]
 refine Ag rfl (fun hc2 => ?_) fun hc2 => ?_
 ·simp only [hcL] at hc2
  refine Aj ?_
  refine Ab (Au ?_)
  obtain ⟨⟨a1, ⟨k, l, a, b, ⟨x, y, z⟩, t⟩, a3, a4, a5, a6, a7, a8⟩, hr⟩ : ∃ r, r = rs[i] := ⟨_, rfl⟩
  refine Ab (Z 4 rfl ?_)
  simp only [go_sem, simprocAttr, Ap _ _ _ _ hc2, hc2, Ac, <- hr, Rule.enc_at]
  and_intros <;> try exact sdA
  refine Ag rfl (fun hc4 => ?_) fun hc4 => ?_
  ·simp only [hcL] at hc4
   refine Ab (Z 5 rfl ?_)
   simp only [go_sem, simprocAttr, Ap _ _ _ _ hc2, hc2, Ac, <- hr, Rule.enc_at]
   and_intros <;> try exact sdA
   refine Ak (hQ _ _ (.inl rfl) ?_ ?_ ?_) <;> simp only [go_sem, simprocAttr, vRB]
   exact ⟨(rs[i], true), by rw [<- hr, Rule.enc_at], .inr ⟨rfl, AF hc2⟩⟩
  simp only [hcL] at hc4
  refine Aj ?_
  refine Z 3 rfl ?_
  simp only [go_sem, simprocAttr, inI]
  and_intros <;> try exact sdA
  refine hKL0 (i + 1) _ ?_ ?_ ?_
  ·(try dsimp only); exact hc2
  ·(try dsimp only); omega
  exact leM
 simp only [hcL] at hc2
 refine Bc ?_
 simp only [go_sem, simprocAttr]
 refine Ab (Z 6 rfl ?_)
 simp only [go_sem, simprocAttr]
 refine TC.le (s' := ⟨mkE [(4, .ptr 4 0), (5, .bool false)], mkH [(4, .box 135 Rule.Z)]⟩) (Le.mk _ _ ?_ ?_ rfl) (Ak (hQ _ _ (.inl rfl) ?_ ?_ ?_)) <;> simp only [go_sem, simprocAttr, vRB, Rule.Z]
 exact ⟨(Rule.zero, false), by simp only [Rule.enc_zero, Rule.Z], .inl rfl⟩
def fRl : Tariff × Int -> Rule × Bool := Ux.choose
theorem Aco : ∀ x : Tariff × Int, TarOk x.1 -> RRl x (fRl x) := Ux.choose_spec.1
theorem QD : PU 95 (gOf aTN fun x => (TarOk x.1, vRB (fRl x))) := Ux.choose_spec.2
theorem AL (a : List Fare) (b : List Rule) (c : List Routing) (d : List Tax) (n : Int) : gOf aTN (fun x => (TarOk x.1, vRB (fRl x))) [.agg [.list (a.map Fare.enc) false, .list (b.map Rule.enc) false, .list (c.map Routing.enc) false, .list (d.map Tax.enc) false], .int .i64 n] = (TarOk ⟨a, b, c, d⟩, .tup [.agg (fRl (⟨a, b, c, d⟩, n)).1.enc, .bool (fRl (⟨a, b, c, d⟩, n)).2]) := Al (F := fun x => (TarOk x.1, vRB (fRl x))) OQ (⟨a, b, c, d⟩, n)
def vGB (y : Routing × Bool) : V := .tup [.agg y.1.enc, .bool y.2]
def RRg (x : Tariff × Int) (y : Routing × Bool) : Prop := y = (Routing.zero, false) \/ y.2 = true /\ y.1 ∈ x.1.routings
theorem Uv : ∃ F : Tariff × Int -> Routing × Bool, (∀ x, TarOk x.1 -> RRg x (F x)) /\ PU 98 (gOf aTN fun x => (TarOk x.1, vGB (F x))) := by
 have hG := AH
 refine AaM.p (val := vGB) (R := RRg) OQ (by simp [aTN]) ?_
 rintro ⟨⟨fs, rs, gs, xs⟩, n⟩ hv Q hQ
 have Z := AaM.T EF0 hG
 have hl : gs.length <= 1000000 := (show TarOk ⟨fs, rs, gs, xs⟩ from hv).g
 refine Ab (Z 0 rfl ?_)
 simp only [go_sem, simprocAttr, aTN, Tariff.enc]
 refine Ab (Ab (Z 1 rfl ?_))
 simp only [go_sem, simprocAttr]
 refine Au ?_
 refine Bg (α := Nat) (fun i => (i <= gs.length)) (fun i => ⟨mkE [(1, V.int IntKind.i64 n), (2, V.ptr 2 0), (4, V.ptr 4 0), (6, .int .i64 i)], mkH [(2, Ob.box 31 [V.list (List.map Fare.enc fs) false, V.list (List.map Rule.enc rs) false, V.list (List.map Routing.enc gs) false, V.list (List.map Tax.enc xs) false]), (4, Ob.box 140 [V.int IntKind.i64 0, V.nils, V.int IntKind.i64 0])]⟩) (fun i => gs.length - i) 0 (Ar _) ?_ ?_
 ·exact leM
 rintro i hi KL0 hKL0
 try dsimp only at *
 refine Ab (Ab (Z 2 rfl ?_))
 simp only [go_sem, simprocAttr, Ac]
 refine Ag rfl (fun hc2 => ?_) fun hc2 => ?_
 ·simp only [hcL] at hc2
  refine Aj ?_
  refine Ab (Au ?_)
  obtain ⟨⟨a1, a2, a3⟩, hr⟩ : ∃ r, r = gs[i] := ⟨_, rfl⟩
  refine Ab (Z 4 rfl ?_)
  simp only [go_sem, simprocAttr, Ap _ _ _ _ hc2, hc2, Ac, <- hr, Routing.enc]
  and_intros <;> try exact sdA
  refine Ag rfl (fun hc4 => ?_) fun hc4 => ?_
  ·simp only [hcL] at hc4
   refine Ab (Z 5 rfl ?_)
   simp only [go_sem, simprocAttr, Ap _ _ _ _ hc2, hc2, Ac, <- hr, Routing.enc]
   and_intros <;> try exact sdA
   refine Ak (hQ _ _ (.inl rfl) ?_ ?_ ?_) <;> simp only [go_sem, simprocAttr, vGB]
   exact ⟨(gs[i], true), by rw [<- hr]; rfl, .inr ⟨rfl, AF hc2⟩⟩
  simp only [hcL] at hc4
  refine Aj ?_
  refine Z 3 rfl ?_
  simp only [go_sem, simprocAttr, inI]
  and_intros <;> try exact sdA
  refine hKL0 (i + 1) _ ?_ ?_ ?_
  ·(try dsimp only); exact hc2
  ·(try dsimp only); omega
  exact leM
 simp only [hcL] at hc2
 refine Bc ?_
 simp only [go_sem, simprocAttr]
 refine Ab (Z 6 rfl ?_)
 simp only [go_sem, simprocAttr]
 refine TC.le (s' := ⟨mkE [(4, .ptr 4 0), (5, .bool false)], mkH [(4, .box 140 [.int .i64 0, .list [] false, .int .i64 0])]⟩) (Le.mk _ _ ?_ ?_ rfl) (Ak (hQ _ _ (.inl rfl) ?_ ?_ ?_)) <;> simp only [go_sem, simprocAttr, vGB]
 exact ⟨(Routing.zero, false), rfl, .inl rfl⟩
def FJ : Tariff × Int -> Routing × Bool := Uv.choose
theorem AjJ : ∀ x : Tariff × Int, TarOk x.1 -> RRg x (FJ x) := Uv.choose_spec.1
theorem Uu : PU 98 (gOf aTN fun x => (TarOk x.1, vGB (FJ x))) := Uv.choose_spec.2
theorem Bd (a : List Fare) (b : List Rule) (c : List Routing) (d : List Tax) (n : Int) : gOf aTN (fun x => (TarOk x.1, vGB (FJ x))) [.agg [.list (a.map Fare.enc) false, .list (b.map Rule.enc) false, .list (c.map Routing.enc) false, .list (d.map Tax.enc) false], .int .i64 n] = (TarOk ⟨a, b, c, d⟩, .tup [.agg (FJ (⟨a, b, c, d⟩, n)).1.enc, .bool (FJ (⟨a, b, c, d⟩, n)).2]) := Al (F := fun x => (TarOk x.1, vGB (FJ x))) OQ (⟨a, b, c, d⟩, n)
structure Trip where
 type : List UInt8
 sale : Int
 day : Int
 minute : Int
 stops : Int
 transfers : Int
 carriers : List (List UInt8)
 numbers : List Int
 vias : List (List UInt8)
def Trip.enc (x : Trip) : List V := [.str x.type, .int .i64 x.sale, .int .i64 x.day, .int .i64 x.minute, .int .i64 x.stops, .int .i64 x.transfers, .list (strs x.carriers) false, .list (Aq x.numbers) false, .list (strs x.vias) false]
theorem Trip.inj (a b : Trip) (h : a.enc = b.enc) : a = b := by
 obtain ⟨a_type, a_sale, a_day, a_minute, a_stops, a_transfers, a_carriers, a_numbers, a_vias⟩ := a
 obtain ⟨b_type, b_sale, b_day, b_minute, b_stops, b_transfers, b_carriers, b_numbers, b_vias⟩ := b
 simp only [Trip.enc, Bz, V.str.injEq, V.int.injEq, V.bool.injEq, V.agg.injEq, V.list.injEq, and_true, true_and] at h
 obtain ⟨h0, h1, h2, h3, h4, h5, h6, h7, h8⟩ := h
 subst h0
 subst h1
 subst h2
 subst h3
 subst h4
 subst h5
 replace h6 := Iy h6
 subst h6
 replace h7 := Mw h7
 subst h7
 replace h8 := Iy h8
 subst h8
 rfl
def Trip.zero : Trip := ⟨[], 0, 0, 0, 0, 0, [], [], []⟩
theorem Trip.rows (l : List Trip) : (∀ r ∈ l.map Trip.enc, r.length = 9) ↔ True := iff_true_intro fun r hr => by obtain ⟨x, _, rfl⟩ := An.1 hr; rfl
theorem Trip.purs (l : List Trip) : (∀ r ∈ l.map Trip.enc, V.purs r = true) ↔ True := iff_true_intro fun r hr => by obtain ⟨x, _, rfl⟩ := An.1 hr; rfl
attribute [go_sem] Trip.rows Trip.purs
structure TrpOk (t : Trip) : Prop where
 ty : t.type.length <= 140737488355328
 s : inI t.sale
 d : inI t.day
 m : inI t.minute
 st : inI t.stops
 tr : inI t.transfers
 c : t.carriers.length <= 140737488355328
 n : t.numbers.length <= 140737488355328
 v : t.vias.length <= 140737488355328
def vII (n : Int) : V := .int .i64 n
def aI1 := ao vi
theorem Jv : Ij aI1 := ijo iji
def RWd (_ : Int) (y : Int) : Prop := 0 <= y /\ y <= 6
theorem Vh (n : Int) {k : Int} (hk : 0 < k) : -k < n.tmod k /\ n.tmod k < k := by
 refine ⟨?_, Qj n hk⟩
 have h := Qj (-n) hk
 rw [Int.neg_tmod] at h
 omega
theorem Vq : ∃ F : Int -> Int, (∀ x, inI x -> RWd x (F x)) /\ PU 247 (gOf aI1 fun x => (inI x, vII (F x))) := by
 have hG := AH
 refine ZZ.p (val := vII) (R := RWd) Jv (by simp [aI1]) ?_
 rintro n hv Q hQ
 have Z := ZZ.T EF0 hG
 have hb := Vh n (k := 7) (by decide)
 have hb2 := Vh (n.tmod 7 + 12) (k := 7) (by decide)
 have hb3 := Int.tmod_nonneg (a := n.tmod 7 + 12) 7 (by omega)
 refine Ab (Z 0 rfl ?_)
 simp only [go_sem, simprocAttr, aI1]
 refine Ab (Z 1 rfl ?_)
 simp only [go_sem, simprocAttr, inI]
 and_intros <;> try exact sdA
 refine Ak (hQ _ _ (.inl rfl) ?_ ?_ ?_) <;> simp only [go_sem, simprocAttr, vII]
 exact ⟨_, rfl, hb3, by omega⟩
def fWd : Int -> Int := Vq.choose
theorem An1 : ∀ x : Int, inI x -> RWd x (fWd x) := Vq.choose_spec.1
theorem An2 : PU 247 (gOf aI1 fun x => (inI x, vII (fWd x))) := Vq.choose_spec.2
theorem LR (n : Int) : gOf aI1 (fun x => (inI x, vII (fWd x))) [.int .i64 n] = (inI n, .int .i64 (fWd n)) := Al (F := fun x => (inI x, vII (fWd x))) Jv n
def RBt (_ : Int) (y : Int) : Prop := 1 <= y /\ y <= 64
def tBt : Tab
 | 247 => (gOf aI1 fun x => (inI x, vII (fWd x)))
 | _ => gNo
theorem Alx : ∀ f, PU f (tBt f) := fun f => by
 unfold tBt
 split
 ·exact An2
 ·exact Ah.no
theorem AdT {i : Nat} (h : i <= 6) : (1 : Int) <= 2 ^ i /\ (2 : Int) ^ i <= 64 := by
 rcases i with _ | _ | _ | _ | _ | _ | _ | i <;> first | decide | omega
theorem RZ : ∃ F : Int -> Int, (∀ x, inI x -> RBt x (F x)) /\ PU 227 (gOf aI1 fun x => (inI x, vII (F x))) := by
 have hG := Alx
 refine ZO.p (val := vII) (R := RBt) Jv (by simp [aI1]) ?_
 rintro n hv Q hQ
 have Z := ZO.T EF0 hG
 have hn : inI n := hv
 obtain ⟨W, hW⟩ : ∃ W, W = fWd n := ⟨_, rfl⟩
 have hWb := An1 n hn
 rw [<- hW] at hWb
 obtain ⟨w0, w6⟩ : 0 <= W /\ W <= 6 := hWb
 refine Ab (Z 0 rfl ?_)
 simp only [go_sem, simprocAttr, aI1, tBt, LR, hn, <- hW]
 refine Ab (Z 1 rfl ?_)
 simp only [go_sem, simprocAttr, tBt, LR, hn, <- hW]
 refine Ab (Ab (Z 2 rfl ?_))
 simp only [go_sem, simprocAttr, tBt, LR, hn, <- hW]
 refine Au ?_
 refine Bg (α := Nat × Int) (fun γ => ((γ.1 : Int) <= W) /\ (γ.2 = 2 ^ γ.1)) (fun γ => ⟨mkE [(0, V.int IntKind.i64 n), (3, .int .i64 γ.2), (4, .int .i64 γ.1)], mkH []⟩) (fun γ => W.toNat - γ.1) (0, 1) ⟨by simpa using w0, rfl⟩ ?_ ?_
 ·exact leM
 rintro ⟨i, t⟩ ⟨hi, ht⟩ KL0 hKL0
 try dsimp only at *
 refine Ab (Ab (Z 3 rfl ?_))
 simp only [go_sem, simprocAttr, tBt, LR, hn, <- hW]
 and_intros <;> try exact sdA
 refine Ag rfl (fun hc3 => ?_) fun hc3 => ?_
 ·simp only [hcL] at hc3
  refine Aj ?_
  refine Ab (Au ?_)
  have h6 := AdT (i := i) (by omega)
  rw [<- ht] at h6
  have hst : (2 : Int) * t = 2 ^ (i + 1) := by rw [ht, Oh, Lr]
  have hlt : (i : Int) < W := by simpa using hc3
  refine Z 5 rfl ?_
  simp only [go_sem, simprocAttr, inI, tBt, LR, hn, <- hW]
  and_intros <;> try exact sdA
  refine Z 4 rfl ?_
  simp only [go_sem, simprocAttr, inI, tBt, LR, hn, <- hW]
  and_intros <;> try exact sdA
  refine hKL0 (i + 1, 2 * t) _ ?_ ?_ ?_
  ·(try dsimp only); exact ⟨by omega, hst⟩
  ·(try dsimp only); omega
  exact leM
 simp only [hcL] at hc3
 have h6 := AdT (i := i) (by omega)
 rw [<- ht] at h6
 refine Bc ?_
 simp only [go_sem, simprocAttr]
 refine Ab (Z 6 rfl ?_)
 simp only [go_sem, simprocAttr, tBt, LR, hn, <- hW]
 refine Ak (hQ _ _ (.inl rfl) ?_ ?_ ?_) <;> simp only [go_sem, simprocAttr, vII]
 exact ⟨t, rfl, h6⟩
def fBt : Int -> Int := RZ.choose
theorem Ae0 : ∀ x : Int, inI x -> RBt x (fBt x) := RZ.choose_spec.1
theorem Ae1 : PU 227 (gOf aI1 fun x => (inI x, vII (fBt x))) := RZ.choose_spec.2
theorem Xm (n : Int) : gOf aI1 (fun x => (inI x, vII (fBt x))) [.int .i64 n] = (inI n, .int .i64 (fBt n)) := Al (F := fun x => (inI x, vII (fBt x))) Jv n
def KB := ar (vg Period.enc) (ao vi)
theorem Wi : Ij KB := ijr (ijg Period.inj) (ijo iji)
def tHs : Tab
 | 226 => (gOf aPd fPd)
 | 227 => (gOf aI1 fun x => (inI x, vII (fBt x)))
 | _ => gNo
theorem AlU : ∀ f, PU f (tHs f) := fun f => by
 unfold tHs
 split
 ·exact Acs
 ·exact Ae1
 ·exact Ah.no
theorem AmG {c B : Int} (h : inI c) (hB : 1 <= B) : inI (c.tdiv B) := by
 unfold inI at h ⊢
 rcases Int.le_total 0 c with h0 | h0
 ·rw [Lt h0]
  have h1 := MH h0 (show 0 <= B by omega)
  have h2 := Ql B h0
  omega
 ·have e : c.tdiv B = -((-c).tdiv B) := by rw [Int.neg_tdiv]; omega
  rw [e, Lt (show 0 <= -c by omega)]
  have h1 := MH (show 0 <= -c by omega) (show 0 <= B by omega)
  have h2 := Ql B (show 0 <= -c by omega)
  omega
def HsP (x : Period × Int) : Prop := x.1.ok /\ inI x.2
theorem Aa6 : ∃ F : Period × Int -> Bool, (∀ x, HsP x -> RT x (F x)) /\ PU 193 (gOf KB fun x => (HsP x, vBB (F x))) := by
 have hG := AlU
 refine SM.p (val := vBB) (R := RT) Wi (by simp [KB]) ?_
 rintro ⟨⟨a, b, c⟩, n⟩ hv Q hQ
 have Y := SM.E EF0 hG mixed
 have Z := SM.T EF0 hG
 obtain ⟨⟨p1, p2, p3⟩, hn⟩ : HsP (⟨a, b, c⟩, n) := hv
 dsimp only at p1 p2 p3 hn
 obtain ⟨B, hB⟩ : ∃ B, B = fBt n := ⟨_, rfl⟩
 have hBb := Ae0 n hn
 rw [<- hB] at hBb
 obtain ⟨b0, b6⟩ : 1 <= B /\ B <= 64 := hBb
 have hB0 : B ≠ 0 := by omega
 have hB1 : B ≠ -1 := by omega
 have hq := AmG p3 b0
 refine Ab (Z 0 rfl ?_)
 simp only [go_sem, simprocAttr, KB, Period.enc, tHs, Dy, Xm, hn, <- hB]
 refine Ab (Y 1 rfl (by kernel_rfl) ?_)
 simp only [go_sem, simprocAttr, hB0, hB1, hq, tHs, Dy, Xm, hn, <- hB]
 and_intros <;> try exact sdA
 refine Ak (hQ _ _ (.inl rfl) ?_ ?_ ?_) <;> simp only [go_sem, simprocAttr, vBB]
 exact ⟨_, rfl, trivial⟩
def fHs : Period × Int -> Bool := Aa6.choose
theorem AgR : PU 193 (gOf KB fun x => (HsP x, vBB (fHs x))) := Aa6.choose_spec.2
theorem Cc (a b c n : Int) : gOf KB (fun x => (HsP x, vBB (fHs x))) [.agg [.int .i64 a, .int .i64 b, .int .i64 c], .int .i64 n] = (HsP (⟨a, b, c⟩, n), .bool (fHs (⟨a, b, c⟩, n))) := Al (F := fun x => (HsP x, vBB (fHs x))) Wi (⟨a, b, c⟩, n)
def ID (x : List (List UInt8) × List (List UInt8)) : List V := [.list (strs x.1) false, .list (strs x.2) false]
theorem VV (a b : List (List UInt8) × List (List UInt8)) (h : ID a = ID b) : a = b := by
 obtain ⟨a_a, a_b⟩ := a
 obtain ⟨b_a, b_b⟩ := b
 simp only [ID, Bz, V.str.injEq, V.int.injEq, V.bool.injEq, V.agg.injEq, V.list.injEq, and_true, true_and] at h
 obtain ⟨h0, h1⟩ := h
 replace h0 := Iy h0
 subst h0
 replace h1 := Iy h1
 subst h1
 rfl
def tWi : Tab
 | 196 => (gOf HQ KZ)
 | _ => gNo
theorem Amy : ∀ f, PU f (tWi f) := fun f => by
 unfold tWi
 split
 ·exact Tv
 ·exact Ah.no
def WiP (x : List (List UInt8) × List (List UInt8)) : Prop := x.1.length <= 140737488355328 /\ x.2.length <= 140737488355328
theorem AdX : ∃ F : List (List UInt8) × List (List UInt8) -> Bool, (∀ x, WiP x -> RT x (F x)) /\ PU 194 (gOf ID fun x => (WiP x, vBB (F x))) := by
 have hG := Amy
 refine ZB.p (val := vBB) (R := RT) VV (by simp [ID]) ?_
 rintro ⟨l, m⟩ hv Q hQ
 have Z := ZB.T EF0 hG
 obtain ⟨h1, h2⟩ : WiP (l, m) := hv
 dsimp only at h1 h2
 refine Ab (Z 0 rfl ?_)
 simp only [go_sem, simprocAttr, ID, tWi, AT, h2]
 refine Ab (Ab (Z 1 rfl ?_))
 simp only [go_sem, simprocAttr, tWi, AT, h2]
 refine Au ?_
 refine Bg (α := Nat) (fun i => (i <= l.length)) (fun i => ⟨mkE [(0, V.list (strs l) false), (1, V.list (strs m) false), (5, .int .i64 i)], mkH []⟩) (fun i => l.length - i) 0 (Ar _) ?_ ?_
 ·exact leM
 rintro i hi KL0 hKL0
 try dsimp only at *
 refine Ab (Ab (Z 2 rfl ?_))
 simp only [go_sem, simprocAttr, Em, tWi, AT, h2]
 refine Ag rfl (fun hc2 => ?_) fun hc2 => ?_
 ·simp only [hcL] at hc2
  refine Aj ?_
  refine Ab (Au ?_)
  refine Ab (Z 4 rfl ?_)
  simp only [go_sem, simprocAttr, FY _ _ _ hc2, hc2, Em, tWi, AT, h2]
  and_intros <;> try exact sdA
  refine Ag rfl (fun hc4 => ?_) fun hc4 => ?_
  ·simp only [hcL] at hc4
   refine Ab (Z 5 rfl ?_)
   simp only [go_sem, simprocAttr, tWi, AT, h2]
   refine Ak (hQ _ _ (.inl rfl) ?_ ?_ ?_) <;> simp only [go_sem, simprocAttr, vBB]
   exact ⟨_, rfl, trivial⟩
  simp only [hcL] at hc4
  refine Aj ?_
  refine Z 3 rfl ?_
  simp only [go_sem, simprocAttr, inI, tWi, AT, h2]
  and_intros <;> try exact sdA
  refine hKL0 (i + 1) _ ?_ ?_ ?_
  ·(try dsimp only); exact hc2
  ·(try dsimp only); omega
  exact leM
 simp only [hcL] at hc2
 refine Bc ?_
 simp only [go_sem, simprocAttr]
 refine Ab (Z 6 rfl ?_)
 simp only [go_sem, simprocAttr, tWi, AT, h2]
 refine Ak (hQ _ _ (.inl rfl) ?_ ?_ ?_) <;> simp only [go_sem, simprocAttr, vBB]
 exact ⟨_, rfl, trivial⟩
def fWi : List (List UInt8) × List (List UInt8) -> Bool := AdX.choose
theorem An8 : PU 194 (gOf ID fun x => (WiP x, vBB (fWi x))) := AdX.choose_spec.2
theorem Cf (a b : List (List UInt8)) : gOf ID (fun x => (WiP x, vBB (fWi x))) [.list (strs a) false, .list (strs b) false] = (WiP (a, b), .bool (fWi (a, b))) := Al (F := fun x => (WiP x, vBB (fWi x))) VV (a, b)
def IC (x : List Int × Int × Int) : List V := [.list (Aq x.1) false, .int .i64 x.2.1, .int .i64 x.2.2]
theorem VS (a b : List Int × Int × Int) (h : IC a = IC b) : a = b := by
 obtain ⟨a_l, a_a, a_b⟩ := a
 obtain ⟨b_l, b_a, b_b⟩ := b
 simp only [IC, Bz, V.str.injEq, V.int.injEq, V.bool.injEq, V.agg.injEq, V.list.injEq, and_true, true_and] at h
 obtain ⟨h0, h1, h2⟩ := h
 replace h0 := Mw h0
 subst h0
 subst h1
 subst h2
 rfl
def BwP (x : List Int × Int × Int) : Prop := x.1.length <= 140737488355328
theorem Xo : ∃ F : List Int × Int × Int -> Bool, (∀ x, BwP x -> RT x (F x)) /\ PU 195 (gOf IC fun x => (BwP x, vBB (F x))) := by
 have hG := AH
 refine ZC.p (val := vBB) (R := RT) VS (by simp [IC]) ?_
 rintro ⟨l, a, b⟩ hv Q hQ
 have Z := ZC.T EF0 hG
 have h1 : l.length <= 140737488355328 := hv
 refine Ab (Z 0 rfl ?_)
 simp only [go_sem, simprocAttr, IC]
 refine Ab (Ab (Z 1 rfl ?_))
 simp only [go_sem, simprocAttr]
 refine Au ?_
 refine Bg (α := Nat) (fun i => (i <= l.length)) (fun i => ⟨mkE [(0, V.list (Aq l) false), (1, V.int IntKind.i64 a), (2, V.int IntKind.i64 b), (7, .int .i64 i)], mkH []⟩) (fun i => l.length - i) 0 (Ar _) ?_ ?_
 ·exact leM
 rintro i hi KL0 hKL0
 try dsimp only at *
 refine Ab (Ab (Z 2 rfl ?_))
 simp only [go_sem, simprocAttr, DB]
 refine Ag rfl (fun hc2 => ?_) fun hc2 => ?_
 ·simp only [hcL] at hc2
  refine Aj ?_
  refine Ab (Au ?_)
  refine Ab (Z 4 rfl ?_)
  simp only [go_sem, simprocAttr, GL _ _ _ hc2, hc2, DB]
  and_intros <;> try exact sdA
  refine Ag rfl (fun hc4 => ?_) fun hc4 => ?_
  ·simp only [hcL] at hc4
   refine Ab (Z 5 rfl ?_)
   simp only [go_sem, simprocAttr]
   refine Ak (hQ _ _ (.inl rfl) ?_ ?_ ?_) <;> simp only [go_sem, simprocAttr, vBB]
   exact ⟨_, rfl, trivial⟩
  simp only [hcL] at hc4
  refine Aj ?_
  refine Z 3 rfl ?_
  simp only [go_sem, simprocAttr, inI]
  and_intros <;> try exact sdA
  refine hKL0 (i + 1) _ ?_ ?_ ?_
  ·(try dsimp only); exact hc2
  ·(try dsimp only); omega
  exact leM
 simp only [hcL] at hc2
 refine Bc ?_
 simp only [go_sem, simprocAttr]
 refine Ab (Z 6 rfl ?_)
 simp only [go_sem, simprocAttr]
 refine Ak (hQ _ _ (.inl rfl) ?_ ?_ ?_) <;> simp only [go_sem, simprocAttr, vBB]
 exact ⟨_, rfl, trivial⟩
def fBw : List Int × Int × Int -> Bool := Xo.choose
theorem Ae2 : PU 195 (gOf IC fun x => (BwP x, vBB (fBw x))) := Xo.choose_spec.2
theorem BY (l : List Int) (a b : Int) : gOf IC (fun x => (BwP x, vBB (fBw x))) [.list (Aq l) false, .int .i64 a, .int .i64 b] = (BwP (l, a, b), .bool (fBw (l, a, b))) := Al (F := fun x => (BwP x, vBB (fBw x))) VS (l, a, b)
def aHT := ar (vg Cond.enc) (ao (vg Trip.enc))
theorem Nj : Ij aHT := ijr (ijg Cond.inj) (ijo (ijg Trip.inj))
def Nl := ar (vl Cond.enc) (ao (vg Trip.enc))
theorem VR : Ij Nl := ijr (ijl Cond.inj) (ijo (ijg Trip.inj))
def Km (n : Nat) (x : Cond × Trip) : Prop := x.1.ok /\ x.1.dep < n /\ TrpOk x.2
def Kk (n : Nat) (x : List Cond × Trip) : Prop := x.1.length <= 140737488355328 /\ (∀ c ∈ x.1, c.ok /\ c.dep < n) /\ TrpOk x.2
def RCt (x : List Cond × Trip) (y : Int) : Prop := 0 <= y /\ y <= x.1.length
abbrev gHd (n : Nat) (F : Cond × Trip -> Bool) : List V -> Prop × V := gOf aHT fun x => (Km n x, vBB (F x))
abbrev gCt (n : Nat) (G : List Cond × Trip -> Int) : List V -> Prop × V := gOf Nl fun x => (Kk n x, vII (G x))
def tCn (n : Nat) (F : Cond × Trip -> Bool) : Tab
 | 159 => gHd n F
 | _ => gNo
theorem AlF {n : Nat} {F : Cond × Trip -> Bool} (hF : PU 159 (gHd n F)) : ∀ f, PU f (tCn n F f) := fun f => by
 unfold tCn
 split
 ·exact hF
 ·exact Ah.no
theorem IY (n : Nat) (F : Cond × Trip -> Bool) (k : Int) (l : List Cond) (a b x y z : Int) (t : List (List UInt8)) (t1 : List UInt8) (t2 t3 t4 t5 t6 : Int) (t7 : List (List UInt8)) (t8 : List Int) (t9 : List (List UInt8)) : gOf aHT (fun x => (Km n x, vBB (F x))) [.agg [.int .i64 k, .list (l.map Cond.enc) false, .int .i64 a, .int .i64 b, .int .i64 x, .int .i64 y, .int .i64 z, .list (strs t) false], .agg [.str t1, .int .i64 t2, .int .i64 t3, .int .i64 t4, .int .i64 t5, .int .i64 t6, .list (strs t7) false, .list (Aq t8) false, .list (strs t9) false]] = (Km n (.mk k l a b ⟨x, y, z⟩ t, ⟨t1, t2, t3, t4, t5, t6, t7, t8, t9⟩), .bool (F (.mk k l a b ⟨x, y, z⟩ t, ⟨t1, t2, t3, t4, t5, t6, t7, t8, t9⟩))) := by
 rw [show [V.int .i64 k, .list (l.map Cond.enc) false, .int .i64 a, .int .i64 b, .int .i64 x, .int .i64 y, .int .i64 z, .list (strs t) false] = (Cond.mk k l a b ⟨x, y, z⟩ t).enc from (Cond.enc_eq k l a b ⟨x, y, z⟩ t).symm]
 exact Al (F := fun x => (Km n x, vBB (F x))) Nj (.mk k l a b ⟨x, y, z⟩ t, ⟨t1, t2, t3, t4, t5, t6, t7, t8, t9⟩)
theorem Ca (n : Nat) (G : List Cond × Trip -> Int) (l : List Cond) (t1 : List UInt8) (t2 t3 t4 t5 t6 : Int) (t7 : List (List UInt8)) (t8 : List Int) (t9 : List (List UInt8)) : gOf Nl (fun x => (Kk n x, vII (G x))) [.list (l.map Cond.enc) false, .agg [.str t1, .int .i64 t2, .int .i64 t3, .int .i64 t4, .int .i64 t5, .int .i64 t6, .list (strs t7) false, .list (Aq t8) false, .list (strs t9) false]] = (Kk n (l, ⟨t1, t2, t3, t4, t5, t6, t7, t8, t9⟩), .int .i64 (G (l, ⟨t1, t2, t3, t4, t5, t6, t7, t8, t9⟩))) := Al (F := fun x => (Kk n x, vII (G x))) VR (l, ⟨t1, t2, t3, t4, t5, t6, t7, t8, t9⟩)
theorem Afp {n : Nat} {F : Cond × Trip -> Bool} (hF : PU 159 (gHd n F)) : ∃ G : List Cond × Trip -> Int, (∀ x, Kk n x -> RCt x (G x)) /\ PU 192 (gCt n G) := by
 have hG := AlF hF
 refine SL.p (val := vII) (R := RCt) VR (by simp [Nl]) ?_
 rintro ⟨l, ⟨t1, t2, t3, t4, t5, t6, t7, t8, t9⟩⟩ hv Q hQ
 have Y := SL.E EF0 hG mixed
 have Z := SL.T EF0 hG
 obtain ⟨h1, h2, h3⟩ : Kk n (l, ⟨t1, t2, t3, t4, t5, t6, t7, t8, t9⟩) := hv
 dsimp only at h1 h2
 refine Ab (Z 0 rfl ?_)
 simp only [go_sem, simprocAttr, Nl, Trip.enc, tCn, IY]
 refine Ab (Z 1 rfl ?_)
 simp only [go_sem, simprocAttr, tCn, IY]
 refine Ab (Ab (Z 2 rfl ?_))
 simp only [go_sem, simprocAttr, tCn, IY]
 refine Au ?_
 refine Bg (α := Nat × Int) (fun γ => (γ.1 <= l.length) /\ (0 <= γ.2) /\ (γ.2 <= γ.1)) (fun γ => ⟨mkE [(0, V.list (List.map Cond.enc l) false), (3, V.ptr 3 0), (5, .int .i64 γ.2), (6, .int .i64 γ.1)], mkH [(3, Ob.box 164 [V.str t1, V.int IntKind.i64 t2, V.int IntKind.i64 t3, V.int IntKind.i64 t4, V.int IntKind.i64 t5, V.int IntKind.i64 t6, V.list (strs t7) false, V.list (Aq t8) false, V.list (strs t9) false])]⟩) (fun γ => l.length - γ.1) (0, 0) ⟨Ar _, EZ _, EZ _⟩ ?_ ?_
 ·exact leM
 rintro ⟨i, m⟩ ⟨hi, h0, hm⟩ KL0 hKL0
 try dsimp only at *
 refine Ab (Ab (Z 3 rfl ?_))
 simp only [go_sem, simprocAttr, Ac, tCn, IY]
 refine Ag rfl (fun hc3 => ?_) fun hc3 => ?_
 ·simp only [hcL] at hc3
  refine Aj ?_
  refine Ab (Au ?_)
  obtain ⟨⟨k, l2, a, b, ⟨x, y, z⟩, t⟩, hr⟩ : ∃ c, c = l[i] := ⟨_, rfl⟩
  obtain ⟨q1, q2⟩ := h2 _ (AF hc3)
  rw [<- hr] at q1 q2
  have hHP : Km n (.mk k l2 a b ⟨x, y, z⟩ t, ⟨t1, t2, t3, t4, t5, t6, t7, t8, t9⟩) := ⟨q1, q2, h3⟩
  refine Ab (Y 5 rfl (by kernel_rfl) ?_)
  simp only [go_sem, simprocAttr, Ap _ _ _ _ hc3, hc3, Ac, <- hr, Cond.enc_eq, hHP, tCn, IY]
  and_intros <;> try exact sdA
  refine Ag rfl (fun hb5 => ?_) fun hb5 => ?_
  ·refine Z 6 rfl ?_
   simp only [go_sem, simprocAttr, inI, tCn, IY]
   and_intros <;> try exact sdA
   refine Z 4 rfl ?_
   simp only [go_sem, simprocAttr, inI, tCn, IY]
   and_intros <;> try exact sdA
   refine hKL0 (i + 1, m + 1) _ ?_ ?_ ?_
   ·(try dsimp only); exact ⟨hc3, by omega, by omega⟩
   ·(try dsimp only); omega
   exact leM
  refine Aj ?_
  refine Z 4 rfl ?_
  simp only [go_sem, simprocAttr, inI, tCn, IY]
  and_intros <;> try exact sdA
  refine hKL0 (i + 1, m) _ ?_ ?_ ?_
  ·(try dsimp only); exact ⟨hc3, h0, by omega⟩
  ·(try dsimp only); omega
  exact leM
 simp only [hcL] at hc3
 refine Bc ?_
 simp only [go_sem, simprocAttr]
 refine Ab (Z 7 rfl ?_)
 simp only [go_sem, simprocAttr, tCn, IY]
 refine Ak (hQ _ _ (.inl rfl) ?_ ?_ ?_) <;> simp only [go_sem, simprocAttr, vII]
 exact ⟨m, rfl, h0, by dsimp only; omega⟩
def tHd (n : Nat) (G : List Cond × Trip -> Int) : Tab
 | 192 => gCt n G
 | 193 => gOf KB fun x => (HsP x, vBB (fHs x))
 | 194 => gOf ID fun x => (WiP x, vBB (fWi x))
 | 195 => gOf IC fun x => (BwP x, vBB (fBw x))
 | 196 => gOf HQ KZ
 | _ => gNo
theorem AlT {n : Nat} {G : List Cond × Trip -> Int} (hF : PU 192 (gCt n G)) : ∀ f, PU f (tHd n G f) := fun f => by
 unfold tHd
 split
 ·exact hF
 ·exact AgR
 ·exact An8
 ·exact Ae2
 ·exact Tv
 ·exact Ah.no
theorem AgQ {n : Nat} {G : List Cond × Trip -> Int} (hF : PU 192 (gCt n G)) : ∃ F : Cond × Trip -> Bool, (∀ x, Km (n + 1) x -> RT x (F x)) /\ PU 159 (gHd (n + 1) F) := by
 have hG := AlT hF
 refine SG.p (val := vBB) (R := RT) Nj (by simp [aHT]) ?_
 rintro ⟨⟨k, l, a, b, ⟨x, y, z⟩, t⟩, ⟨t1, t2, t3, t4, t5, t6, t7, t8, t9⟩⟩ hv Q hQ
 have Y := SG.E EF0 hG mixed
 have Z := SG.T EF0 hG
 obtain ⟨h1, h2, h3⟩ : Km (n + 1) (.mk k l a b ⟨x, y, z⟩ t, ⟨t1, t2, t3, t4, t5, t6, t7, t8, t9⟩) := hv
 dsimp only at h1 h2
 obtain ⟨o1, ⟨o2, o3⟩, o4, o5, o6, o7, o8⟩ := (Cond.ok_eq ..).1 h1
 have hC : Kk n (l, ⟨t1, t2, t3, t4, t5, t6, t7, t8, t9⟩) := ⟨o2, fun c hc => ⟨o3 c hc, by have := Cond.dep_l (.mk k l a b ⟨x, y, z⟩ t) c hc; omega⟩, h3⟩
 obtain ⟨y1, y2, y3, y4, y5, y6, y7, y8, y9⟩ := id h3
 dsimp only at y1 y2 y3 y4 y5 y6 y7 y8 y9
 have hP1 : HsP (⟨x, y, z⟩, t3) := ⟨o6, y3⟩
 have hP2 : HsP (⟨x, y, z⟩, t2) := ⟨o6, y2⟩
 have hW1 : WiP (t7, t) := ⟨y7, o7⟩
 have hW2 : WiP (t9, t) := ⟨y9, o7⟩
 have hB : BwP (t8, a, b) := y8
 refine Ab (Z 0 rfl ?_)
 simp only [go_sem, simprocAttr, aHT, Trip.enc, Cond.enc_eq, tHd, Ca, Cc, Cf, BY, AT, hC, hP1, hP2, hW1, hW2, hB, o7]
 refine Ab (Ab (Z 1 rfl ?_))
 simp only [go_sem, simprocAttr, tHd, Ca, Cc, Cf, BY, AT, hC, hP1, hP2, hW1, hW2, hB, o7]
 refine Au (Ab (Z 2 rfl ?_))
 simp only [go_sem, simprocAttr, tHd, Ca, Cc, Cf, BY, AT, hC, hP1, hP2, hW1, hW2, hB, o7]
 refine Ag rfl (fun hc2 => ?_) fun hc2 => ?_
 ·simp only [hcL] at hc2
  refine Ab (Z 3 rfl ?_)
  simp only [go_sem, simprocAttr, tHd, Ca, Cc, Cf, BY, AT, hC, hP1, hP2, hW1, hW2, hB, o7]
  refine Ak (hQ _ _ (.inl rfl) ?_ ?_ ?_) <;> simp only [go_sem, simprocAttr, vBB]
  exact ⟨_, rfl, trivial⟩
 simp only [hcL] at hc2
 refine Ab (Z 4 rfl ?_)
 simp only [go_sem, simprocAttr, tHd, Ca, Cc, Cf, BY, AT, hC, hP1, hP2, hW1, hW2, hB, o7]
 refine Ag rfl (fun hc4 => ?_) fun hc4 => ?_
 ·simp only [hcL] at hc4
  refine Ab (Y 5 rfl (by kernel_rfl) ?_)
  simp only [go_sem, simprocAttr, Ac, tHd, Ca, Cc, Cf, BY, AT, hC, hP1, hP2, hW1, hW2, hB, o7]
  and_intros <;> try exact sdA
  refine Ak (hQ _ _ (.inl rfl) ?_ ?_ ?_) <;> simp only [go_sem, simprocAttr, vBB]
  exact ⟨_, rfl, trivial⟩
 simp only [hcL] at hc4
 refine Ab (Z 6 rfl ?_)
 simp only [go_sem, simprocAttr, tHd, Ca, Cc, Cf, BY, AT, hC, hP1, hP2, hW1, hW2, hB, o7]
 refine Ag rfl (fun hc6 => ?_) fun hc6 => ?_
 ·simp only [hcL] at hc6
  refine Ab (Z 7 rfl ?_)
  simp only [go_sem, simprocAttr, tHd, Ca, Cc, Cf, BY, AT, hC, hP1, hP2, hW1, hW2, hB, o7]
  and_intros <;> try exact sdA
  refine Ak (hQ _ _ (.inl rfl) ?_ ?_ ?_) <;> simp only [go_sem, simprocAttr, vBB]
  exact ⟨_, rfl, trivial⟩
 simp only [hcL] at hc6
 refine Ab (Z 8 rfl ?_)
 simp only [go_sem, simprocAttr, tHd, Ca, Cc, Cf, BY, AT, hC, hP1, hP2, hW1, hW2, hB, o7]
 refine Ag rfl (fun hc8 => ?_) fun hc8 => ?_
 ·simp only [hcL] at hc8
  refine Ab (Z 9 rfl ?_)
  simp only [go_sem, simprocAttr, tHd, Ca, Cc, Cf, BY, AT, hC, hP1, hP2, hW1, hW2, hB, o7]
  and_intros <;> try exact sdA
  refine Ak (hQ _ _ (.inl rfl) ?_ ?_ ?_) <;> simp only [go_sem, simprocAttr, vBB]
  exact ⟨_, rfl, trivial⟩
 simp only [hcL] at hc8
 refine Ab (Z 10 rfl ?_)
 simp only [go_sem, simprocAttr, tHd, Ca, Cc, Cf, BY, AT, hC, hP1, hP2, hW1, hW2, hB, o7]
 refine Ag rfl (fun hc10 => ?_) fun hc10 => ?_
 ·simp only [hcL] at hc10
  refine Ab (Z 11 rfl ?_)
  simp only [go_sem, simprocAttr, tHd, Ca, Cc, Cf, BY, AT, hC, hP1, hP2, hW1, hW2, hB, o7]
  and_intros <;> try exact sdA
  refine Ak (hQ _ _ (.inl rfl) ?_ ?_ ?_) <;> simp only [go_sem, simprocAttr, vBB]
  exact ⟨_, rfl, trivial⟩
 simp only [hcL] at hc10
 refine Ab (Z 12 rfl ?_)
 simp only [go_sem, simprocAttr, tHd, Ca, Cc, Cf, BY, AT, hC, hP1, hP2, hW1, hW2, hB, o7]
 refine Ag rfl (fun hc12 => ?_) fun hc12 => ?_
 ·simp only [hcL] at hc12
  refine Ab (Z 13 rfl ?_)
  simp only [go_sem, simprocAttr, tHd, Ca, Cc, Cf, BY, AT, hC, hP1, hP2, hW1, hW2, hB, o7]
  and_intros <;> try exact sdA
  refine Ak (hQ _ _ (.inl rfl) ?_ ?_ ?_) <;> simp only [go_sem, simprocAttr, vBB]
  exact ⟨_, rfl, trivial⟩
 simp only [hcL] at hc12
 refine Ab (Z 14 rfl ?_)
 simp only [go_sem, simprocAttr, tHd, Ca, Cc, Cf, BY, AT, hC, hP1, hP2, hW1, hW2, hB, o7]
 refine Ag rfl (fun hc14 => ?_) fun hc14 => ?_
 ·simp only [hcL] at hc14
  refine Ab (AdI (EF := EF0) hG AmW ?_)
  simp only [Vy, go_sem, simprocAttr, inI, tHd, Ca, Cc, Cf, BY, AT, hC, hP1, hP2, hW1, hW2, hB, o7]
  and_intros <;> try exact sdA
  refine Ak (hQ _ _ (.inl rfl) ?_ ?_ ?_) <;> simp only [go_sem, simprocAttr, vBB]
  exact ⟨_, rfl, trivial⟩
 simp only [hcL] at hc14
 refine Ab (Z 16 rfl ?_)
 simp only [go_sem, simprocAttr, tHd, Ca, Cc, Cf, BY, AT, hC, hP1, hP2, hW1, hW2, hB, o7]
 refine Ag rfl (fun hc16 => ?_) fun hc16 => ?_
 ·simp only [hcL] at hc16
  refine Ab (Ab (Z 17 rfl ?_))
  simp only [go_sem, simprocAttr, tHd, Ca, Cc, Cf, BY, AT, hC, hP1, hP2, hW1, hW2, hB, o7]
  refine Ag rfl (fun hc17 => ?_) fun hc17 => ?_
  ·simp only [hcL] at hc17
   refine Ab (Z 18 rfl ?_)
   simp only [go_sem, simprocAttr, tHd, Ca, Cc, Cf, BY, AT, hC, hP1, hP2, hW1, hW2, hB, o7]
   and_intros <;> try exact sdA
   refine Ak (hQ _ _ (.inl rfl) ?_ ?_ ?_) <;> simp only [go_sem, simprocAttr, vBB]
   exact ⟨_, rfl, trivial⟩
  simp only [hcL] at hc17
  refine Aj ?_
  refine Ab (Z 19 rfl ?_)
  simp only [go_sem, simprocAttr, tHd, Ca, Cc, Cf, BY, AT, hC, hP1, hP2, hW1, hW2, hB, o7]
  and_intros <;> try exact sdA
  refine Ak (hQ _ _ (.inl rfl) ?_ ?_ ?_) <;> simp only [go_sem, simprocAttr, vBB]
  exact ⟨_, rfl, trivial⟩
 simp only [hcL] at hc16
 refine Ab (Z 20 rfl ?_)
 simp only [go_sem, simprocAttr, tHd, Ca, Cc, Cf, BY, AT, hC, hP1, hP2, hW1, hW2, hB, o7]
 refine Ag rfl (fun hc20 => ?_) fun hc20 => ?_
 ·simp only [hcL] at hc20
  refine Ab (Z 21 rfl ?_)
  simp only [go_sem, simprocAttr, tHd, Ca, Cc, Cf, BY, AT, hC, hP1, hP2, hW1, hW2, hB, o7]
  refine Ak (hQ _ _ (.inl rfl) ?_ ?_ ?_) <;> simp only [go_sem, simprocAttr, vBB]
  exact ⟨_, rfl, trivial⟩
 simp only [hcL] at hc20
 refine Ab (Z 22 rfl ?_)
 simp only [go_sem, simprocAttr, tHd, Ca, Cc, Cf, BY, AT, hC, hP1, hP2, hW1, hW2, hB, o7]
 refine Ag rfl (fun hc22 => ?_) fun hc22 => ?_
 ·simp only [hcL] at hc22
  refine Ab (Z 23 rfl ?_)
  simp only [go_sem, simprocAttr, tHd, Ca, Cc, Cf, BY, AT, hC, hP1, hP2, hW1, hW2, hB, o7]
  refine Ak (hQ _ _ (.inl rfl) ?_ ?_ ?_) <;> simp only [go_sem, simprocAttr, vBB]
  exact ⟨_, rfl, trivial⟩
 simp only [hcL] at hc22
 refine Ab (Z 24 rfl ?_)
 simp only [go_sem, simprocAttr, tHd, Ca, Cc, Cf, BY, AT, hC, hP1, hP2, hW1, hW2, hB, o7]
 refine Ag rfl (fun hc24 => ?_) fun hc24 => ?_
 ·simp only [hcL] at hc24
  refine Ab (Z 25 rfl ?_)
  simp only [go_sem, simprocAttr, tHd, Ca, Cc, Cf, BY, AT, hC, hP1, hP2, hW1, hW2, hB, o7]
  and_intros <;> try exact sdA
  refine Ak (hQ _ _ (.inl rfl) ?_ ?_ ?_) <;> simp only [go_sem, simprocAttr, vBB]
  exact ⟨_, rfl, trivial⟩
 simp only [hcL] at hc24
 refine Ab (Z 26 rfl ?_)
 simp only [go_sem, simprocAttr, tHd, Ca, Cc, Cf, BY, AT, hC, hP1, hP2, hW1, hW2, hB, o7]
 refine Ag rfl (fun hc26 => ?_) fun hc26 => ?_
 ·simp only [hcL] at hc26
  refine Ab (Z 27 rfl ?_)
  simp only [go_sem, simprocAttr, tHd, Ca, Cc, Cf, BY, AT, hC, hP1, hP2, hW1, hW2, hB, o7]
  and_intros <;> try exact sdA
  refine Ak (hQ _ _ (.inl rfl) ?_ ?_ ?_) <;> simp only [go_sem, simprocAttr, vBB]
  exact ⟨_, rfl, trivial⟩
 simp only [hcL] at hc26
 refine Ab (Z 28 rfl ?_)
 simp only [go_sem, simprocAttr, tHd, Ca, Cc, Cf, BY, AT, hC, hP1, hP2, hW1, hW2, hB, o7]
 refine Ag rfl (fun hc28 => ?_) fun hc28 => ?_
 ·simp only [hcL] at hc28
  refine Ab (Z 29 rfl ?_)
  simp only [go_sem, simprocAttr, tHd, Ca, Cc, Cf, BY, AT, hC, hP1, hP2, hW1, hW2, hB, o7]
  and_intros <;> try exact sdA
  refine Ak (hQ _ _ (.inl rfl) ?_ ?_ ?_) <;> simp only [go_sem, simprocAttr, vBB]
  exact ⟨_, rfl, trivial⟩
 simp only [hcL] at hc28
 refine Aj ?_
 refine Ab (Z 30 rfl ?_)
 simp only [go_sem, simprocAttr, tHd, Ca, Cc, Cf, BY, AT, hC, hP1, hP2, hW1, hW2, hB, o7]
 and_intros <;> try exact sdA
 refine Ak (hQ _ _ (.inl rfl) ?_ ?_ ?_) <;> simp only [go_sem, simprocAttr, vBB]
 exact ⟨_, rfl, trivial⟩
theorem Tw : ∀ n : Nat, ∃ F : Cond × Trip -> Bool, PU 159 (gHd n F)
 | 0 => ⟨fun _ => true, Ah.no.sub fun vs hv => by
  unfold gHd gOf at hv
  split at hv
  ·exact absurd hv.2.1 (EK _)
  ·exact hv.elim⟩
 | n + 1 => by
  obtain ⟨F, hF⟩ := Tw n
  obtain ⟨G, _, hG⟩ := Afp hF
  obtain ⟨F2, _, h2⟩ := AgQ hG
  exact ⟨F2, h2⟩
def HoP (x : Cond × Trip) : Prop := x.1.ok /\ TrpOk x.2
def fHo (x : Cond × Trip) : Bool := (Tw (x.1.dep + 1)).choose x
theorem AgP : PU 159 (gOf aHT fun x => (HoP x, vBB (fHo x))) := fun vs M w cargs hv => by
 by_cases h : ∃ x, aHT x = vs
 ·obtain ⟨x, rfl⟩ := h
  rw [Al Nj] at hv ⊢
  have h1 := (Tw (x.1.dep + 1)).choose_spec (aHT x) M w cargs
  unfold gHd at h1
  rw [Al Nj] at h1
  exact h1 ⟨hv.1, Jf _, hv.2⟩
 ·exact absurd hv (by unfold gOf; rw [dif_neg h]; exact fun h => h)
theorem PW (k : Int) (l : List Cond) (a b x y z : Int) (t : List (List UInt8)) (t1 : List UInt8) (t2 t3 t4 t5 t6 : Int) (t7 : List (List UInt8)) (t8 : List Int) (t9 : List (List UInt8)) : gOf aHT (fun x => (HoP x, vBB (fHo x))) [.agg [.int .i64 k, .list (l.map Cond.enc) false, .int .i64 a, .int .i64 b, .int .i64 x, .int .i64 y, .int .i64 z, .list (strs t) false], .agg [.str t1, .int .i64 t2, .int .i64 t3, .int .i64 t4, .int .i64 t5, .int .i64 t6, .list (strs t7) false, .list (Aq t8) false, .list (strs t9) false]] = (HoP (.mk k l a b ⟨x, y, z⟩ t, ⟨t1, t2, t3, t4, t5, t6, t7, t8, t9⟩), .bool (fHo (.mk k l a b ⟨x, y, z⟩ t, ⟨t1, t2, t3, t4, t5, t6, t7, t8, t9⟩))) := by
 rw [show [V.int .i64 k, .list (l.map Cond.enc) false, .int .i64 a, .int .i64 b, .int .i64 x, .int .i64 y, .int .i64 z, .list (strs t) false] = (Cond.mk k l a b ⟨x, y, z⟩ t).enc from (Cond.enc_eq k l a b ⟨x, y, z⟩ t).symm]
 exact Al (F := fun x => (HoP x, vBB (fHo x))) Nj (.mk k l a b ⟨x, y, z⟩ t, ⟨t1, t2, t3, t4, t5, t6, t7, t8, t9⟩)
def Kv := ar (vg Places.enc) (ar (vg Tariff.enc) (ao (vg Fare.enc)))
theorem Wb : Ij Kv := ijr (ijg Places.inj) (ijr (ijg Tariff.inj) (ijo (ijg Fare.inj)))
def vL (l : List Int) : V := .list (Aq l) false
def LS (f : Fare) : Prop := 0 <= f.amount /\ f.amount <= 1099511627776
def RFa (x : Places × Tariff × Fare) (l : List Int) : Prop := l.length <= 6 /\ (l = [] -> LS x.2.2)
theorem PX {g : List Int} {b : Bool} {e : Int} (h : g ++ iIf b e = []) : g = [] /\ b = false := by
 obtain ⟨h1, h2⟩ := GP.1 h
 refine ⟨h1, ?_⟩
 cases b with
 | false => rfl
 | true => simp [iIf] at h2
def tFa : Tab
 | 123 => (gOf Bh Nx)
 | 23 => BC
 | 19 => IV
 | 124 => (gOf Kt fun x => (LnP x.1, vBB (La x)))
 | 95 => (gOf aTN fun x => (TarOk x.1, vRB (fRl x)))
 | 98 => (gOf aTN fun x => (TarOk x.1, vGB (FJ x)))
 | _ => gNo
theorem AlR : ∀ f, PU f (tFa f) := fun f => by
 unfold tFa
 split
 ·exact Acc
 ·exact MT
 ·exact Ace
 ·exact Ahn
 ·exact QD
 ·exact Uu
 ·exact Ah.no
theorem Sr : ∃ F : Places × Tariff × Fare -> List Int, (∀ x, LnP x.1 /\ TarOk x.2.1 /\ x.2.2.ok -> RFa x (F x)) /\ PU 67 (gOf Kv fun x => (LnP x.1 /\ TarOk x.2.1 /\ x.2.2.ok, vL (F x))) := by
 have hG := AlR
 refine Aax.p (val := vL) (R := RFa) Wb (by simp [Kv]) ?_
 rintro ⟨⟨ps, ds⟩, ⟨fs, rs, gs, xs⟩, ⟨ca, fr, to, ba, cl, rd, am, ru, rg⟩⟩ hv Q hQ
 have Z := Aax.T EF0 hG
 obtain ⟨h1, h2, h3⟩ : LnP ⟨ps, ds⟩ /\ TarOk ⟨fs, rs, gs, xs⟩ /\ (Fare.mk ca fr to ba cl rd am ru rg).ok := hv
 simp only [Fare.ok] at h3
 obtain ⟨o1, o2, o3, o4, o5, -, o6, o7, o8⟩ := h3
 obtain ⟨k1, hk1⟩ : ∃ b, b = La (⟨ps, ds⟩, fr) := ⟨_, rfl⟩
 obtain ⟨k2, hk2⟩ : ∃ b, b = La (⟨ps, ds⟩, to) := ⟨_, rfl⟩
 obtain ⟨⟨⟨a1, ⟨k, l, a, b, ⟨x, y, z⟩, t⟩, a3, a4, a5, a6, a7, a8⟩, bR⟩, hR⟩ : ∃ y, y = fRl (⟨fs, rs, gs, xs⟩, ru) := ⟨_, rfl⟩
 obtain ⟨⟨⟨g1, g2, g3⟩, bG⟩, hT⟩ : ∃ y, y = FJ (⟨fs, rs, gs, xs⟩, rg) := ⟨_, rfl⟩
 refine Ab (Z 0 rfl ?_)
 simp only [go_sem, simprocAttr, Kv, Places.enc, Tariff.enc, Fare.enc, tFa, Dc, AG, EH, AL, Bd]
 refine Ab (Z 1 rfl ?_)
 simp only [go_sem, simprocAttr, tFa, Dc, AG, EH, AL, Bd]
 refine TC.le (s' := ⟨mkE [(3, .ptr 3 0), (4, .ptr 4 0), (5, .ptr 5 0), (7, .own 999 0)], mkH ([(3, .box 25 [.list (ps.map Airport.enc) false, .list (ds.map Distance.enc) false]), (4, .box 31 [.list (fs.map Fare.enc) false, .list (rs.map Rule.enc) false, .list (gs.map Routing.enc) false, .list (xs.map Tax.enc) false]), (5, .box 96 [.str ca, .str fr, .str to, .str ba, .str cl, .bool rd, .int .i64 am, .int .i64 ru, .int .i64 rg]), (999, .arr 48 1 (Aq []))])⟩) (Le.mk _ _ (by (simp only [go_sem, simprocAttr]) <;> and_intros <;> try exact leB) (by (simp only [go_sem, simprocAttr]) <;> and_intros <;> try exact leB) rfl) ?_
 refine Ep (α := (List Int)) (fun l1 => (l1 = ([] : List Int) ++ iIf (!KI ca || !Db ba 1 8) (5)) /\ (l1.length <= ([] : List Int).length + 1)) (fun l1 => ⟨mkE [(3, V.ptr 3 0), (4, V.ptr 4 0), (5, V.ptr 5 0), (7, .own 999 l1.length)], mkH [(3, Ob.box 25 [V.list (List.map Airport.enc ps) false, V.list (List.map Distance.enc ds) false]), (4, Ob.box 31 [V.list (List.map Fare.enc fs) false, V.list (List.map Rule.enc rs) false, V.list (List.map Routing.enc gs) false, V.list (List.map Tax.enc xs) false]), (5, Ob.box 96 [V.str ca, V.str fr, V.str to, V.str ba, V.str cl, V.bool rd, V.int IntKind.i64 am, V.int IntKind.i64 ru, V.int IntKind.i64 rg]), (999, .arr 48 1 (Aq l1))]⟩) ?_ ?_
 ·intro KC2 hKC2
  refine Ab (Z 2 rfl ?_)
  simp only [go_sem, simprocAttr, o1, o4, tFa, Dc, AG, EH, AL, Bd]
  and_intros <;> try exact sdA
  refine Ag rfl (fun hb2 => ?_) fun hb2 => ?_
  ·refine Z 3 rfl ?_
   simp only [go_sem, simprocAttr, tFa, Dc, AG, EH, AL, Bd]
   and_intros <;> try exact sdA
   refine hKC2 (([] : List Int) ++ [5]) _ ?_ ?_
   ·(try dsimp only); exact ⟨by rw [Gs (show (!KI ca || !Db ba 1 8) = true from hb2)], by simp⟩
   refine Le.mk _ _ ?_ ?_ rfl <;> simp only [go_sem, simprocAttr, FN, Ai, Av, Ay] <;> and_intros <;> try exact leA
  refine Aj ?_
  refine hKC2 (([] : List Int)) _ ?_ ?_
  ·(try dsimp only); exact ⟨by rw [Gr (show (!KI ca || !Db ba 1 8) = false from hb2), Bl], by omega⟩
  exact leM
 rintro l1 ⟨hl1, ll1⟩
 replace ll1 : l1.length <= 1 := ll1
 refine Ep (α := (List Int)) (fun l2 => (l2 = l1 ++ iIf (!k1 || !k2) (14)) /\ (l2.length <= l1.length + 1)) (fun l2 => ⟨mkE [(4, V.ptr 4 0), (5, V.ptr 5 0), (7, .own 999 l2.length)], mkH [(4, Ob.box 31 [V.list (List.map Fare.enc fs) false, V.list (List.map Rule.enc rs) false, V.list (List.map Routing.enc gs) false, V.list (List.map Tax.enc xs) false]), (5, Ob.box 96 [V.str ca, V.str fr, V.str to, V.str ba, V.str cl, V.bool rd, V.int IntKind.i64 am, V.int IntKind.i64 ru, V.int IntKind.i64 rg]), (999, .arr 48 1 (Aq l2))]⟩) ?_ ?_
 ·intro KC4 hKC4
  refine Ab (Z 4 rfl ?_)
  simp only [go_sem, simprocAttr, h1, <- hk1, <- hk2, tFa, Dc, AG, EH, AL, Bd]
  and_intros <;> try exact sdA
  refine Ag rfl (fun hb4 => ?_) fun hb4 => ?_
  ·refine Z 5 rfl ?_
   simp only [go_sem, simprocAttr, tFa, Dc, AG, EH, AL, Bd]
   and_intros <;> try exact sdA
   refine hKC4 (l1 ++ [14]) _ ?_ ?_
   ·(try dsimp only); exact ⟨by rw [Gs (show (!k1 || !k2) = true from hb4)], by simp⟩
   refine Le.mk _ _ ?_ ?_ rfl <;> simp only [go_sem, simprocAttr, FN, Ai, Av, Ay] <;> and_intros <;> try exact leA
  refine Aj ?_
  refine hKC4 (l1) _ ?_ ?_
  ·(try dsimp only); exact ⟨by rw [Gr (show (!k1 || !k2) = false from hb4), Bl], by omega⟩
  exact leM
 rintro l2 ⟨hl2, ll2⟩
 refine Ep (α := (List Int)) (fun l3 => (l3 = l2 ++ iIf (decide (fr = to) || decide (am < 0) || decide (1099511627776 < am)) (2)) /\ (l3.length <= l2.length + 1)) (fun l3 => ⟨mkE [(4, V.ptr 4 0), (5, V.ptr 5 0), (7, .own 999 l3.length)], mkH [(4, Ob.box 31 [V.list (List.map Fare.enc fs) false, V.list (List.map Rule.enc rs) false, V.list (List.map Routing.enc gs) false, V.list (List.map Tax.enc xs) false]), (5, Ob.box 96 [V.str ca, V.str fr, V.str to, V.str ba, V.str cl, V.bool rd, V.int IntKind.i64 am, V.int IntKind.i64 ru, V.int IntKind.i64 rg]), (999, .arr 48 1 (Aq l3))]⟩) ?_ ?_
 ·intro KC6 hKC6
  refine Ab (Z 6 rfl ?_)
  simp only [go_sem, simprocAttr, tFa, Dc, AG, EH, AL, Bd]
  and_intros <;> try exact sdA
  refine Ag rfl (fun hb6 => ?_) fun hb6 => ?_
  ·refine Z 7 rfl ?_
   simp only [go_sem, simprocAttr, tFa, Dc, AG, EH, AL, Bd]
   and_intros <;> try exact sdA
   refine hKC6 (l2 ++ [2]) _ ?_ ?_
   ·(try dsimp only); exact ⟨by rw [Gs (show (decide (fr = to) || decide (am < 0) || decide (1099511627776 < am)) = true from hb6)], by simp⟩
   refine Le.mk _ _ ?_ ?_ rfl <;> simp only [go_sem, simprocAttr, FN, Ai, Av, Ay] <;> and_intros <;> try exact leA
  refine Aj ?_
  refine hKC6 (l2) _ ?_ ?_
  ·(try dsimp only); exact ⟨by rw [Gr (show (decide (fr = to) || decide (am < 0) || decide (1099511627776 < am)) = false from hb6), Bl], by omega⟩
  exact leM
 rintro l3 ⟨hl3, ll3⟩
 refine Ep (α := (List Int)) (fun l4 => (l4 = l3 ++ iIf (!EC cl) (16)) /\ (l4.length <= l3.length + 1)) (fun l4 => ⟨mkE [(4, V.ptr 4 0), (5, V.ptr 5 0), (7, .own 999 l4.length)], mkH [(4, Ob.box 31 [V.list (List.map Fare.enc fs) false, V.list (List.map Rule.enc rs) false, V.list (List.map Routing.enc gs) false, V.list (List.map Tax.enc xs) false]), (5, Ob.box 96 [V.str ca, V.str fr, V.str to, V.str ba, V.str cl, V.bool rd, V.int IntKind.i64 am, V.int IntKind.i64 ru, V.int IntKind.i64 rg]), (999, .arr 48 1 (Aq l4))]⟩) ?_ ?_
 ·intro KC8 hKC8
  refine Ab (Z 8 rfl ?_)
  simp only [go_sem, simprocAttr, IV, o5, tFa, Dc, AG, EH, AL, Bd]
  and_intros <;> try exact sdA
  refine Ag rfl (fun hb8 => ?_) fun hb8 => ?_
  ·refine Z 9 rfl ?_
   simp only [go_sem, simprocAttr, tFa, Dc, AG, EH, AL, Bd]
   and_intros <;> try exact sdA
   refine hKC8 (l3 ++ [16]) _ ?_ ?_
   ·(try dsimp only); exact ⟨by rw [Gs (show (!EC cl) = true from hb8)], by simp⟩
   refine Le.mk _ _ ?_ ?_ rfl <;> simp only [go_sem, simprocAttr, FN, Ai, Av, Ay] <;> and_intros <;> try exact leA
  refine Aj ?_
  refine hKC8 (l3) _ ?_ ?_
  ·(try dsimp only); exact ⟨by rw [Gr (show (!EC cl) = false from hb8), Bl], by omega⟩
  exact leM
 rintro l4 ⟨hl4, ll4⟩
 refine Ab (Z 10 rfl ?_)
 simp only [go_sem, simprocAttr, h2, <- hR, Rule.enc_at, tFa, Dc, AG, EH, AL, Bd]
 and_intros <;> try exact sdA
 refine Ep (α := (List Int)) (fun l5 => (l5 = l4 ++ iIf (!bR) (20)) /\ (l5.length <= l4.length + 1)) (fun l5 => ⟨mkE [(4, V.ptr 4 0), (5, V.ptr 5 0), (7, .own 999 l5.length)], mkH [(4, Ob.box 31 [V.list (List.map Fare.enc fs) false, V.list (List.map Rule.enc rs) false, V.list (List.map Routing.enc gs) false, V.list (List.map Tax.enc xs) false]), (5, Ob.box 96 [V.str ca, V.str fr, V.str to, V.str ba, V.str cl, V.bool rd, V.int IntKind.i64 am, V.int IntKind.i64 ru, V.int IntKind.i64 rg]), (999, .arr 48 1 (Aq l5))]⟩) ?_ ?_
 ·intro KC11 hKC11
  refine Ab (Z 11 rfl ?_)
  simp only [go_sem, simprocAttr, tFa, Dc, AG, EH, AL, Bd]
  refine Ag rfl (fun hb11 => ?_) fun hb11 => ?_
  ·refine Z 12 rfl ?_
   simp only [go_sem, simprocAttr, tFa, Dc, AG, EH, AL, Bd]
   and_intros <;> try exact sdA
   refine hKC11 (l4 ++ [20]) _ ?_ ?_
   ·(try dsimp only); exact ⟨by rw [Gs (show (!bR) = true from hb11)], by simp⟩
   refine Le.mk _ _ ?_ ?_ rfl <;> simp only [go_sem, simprocAttr, FN, Ai, Av, Ay] <;> and_intros <;> try exact leA
  refine Aj ?_
  refine hKC11 (l4) _ ?_ ?_
  ·(try dsimp only); exact ⟨by rw [Gr (show (!bR) = false from hb11), Bl], by omega⟩
  exact leM
 rintro l5 ⟨hl5, ll5⟩
 refine Ab (Z 13 rfl ?_)
 simp only [go_sem, simprocAttr, h2, <- hT, Routing.enc, tFa, Dc, AG, EH, AL, Bd]
 and_intros <;> try exact sdA
 refine Ep (α := (List Int)) (fun l6 => (l6 = l5 ++ iIf (and (!decide (rg = 0)) (!bG)) (21)) /\ (l6.length <= l5.length + 1)) (fun l6 => ⟨mkE [(7, .own 999 l6.length)], mkH [(999, .arr 48 1 (Aq l6))]⟩) ?_ ?_
 ·intro KC14 hKC14
  refine Ab (Z 14 rfl ?_)
  simp only [go_sem, simprocAttr, tFa, Dc, AG, EH, AL, Bd]
  and_intros <;> try exact sdA
  refine Ag rfl (fun hb14 => ?_) fun hb14 => ?_
  ·refine Z 15 rfl ?_
   simp only [go_sem, simprocAttr, tFa, Dc, AG, EH, AL, Bd]
   and_intros <;> try exact sdA
   refine hKC14 (l5 ++ [21]) _ ?_ ?_
   ·(try dsimp only); exact ⟨by rw [Gs (show (and (!decide (rg = 0)) (!bG)) = true from hb14)], by simp⟩
   refine Le.mk _ _ ?_ ?_ rfl <;> simp only [go_sem, simprocAttr, FN, Ai, Av, Ay] <;> and_intros <;> try exact leA
  refine Aj ?_
  refine hKC14 (l5) _ ?_ ?_
  ·(try dsimp only); exact ⟨by rw [Gr (show (and (!decide (rg = 0)) (!bG)) = false from hb14), Bl], by omega⟩
  exact leM
 rintro l6 ⟨hl6, ll6⟩
 refine Ab (Z 16 rfl ?_)
 simp only [go_sem, simprocAttr, tFa, Dc, AG, EH, AL, Bd]
 refine TC.le (s' := ⟨mkE [(6, .list (Aq l6) false)], mkH []⟩) (Le.mk _ _ ?_ ?_ rfl) (Ak (hQ _ _ (.inl rfl) ?_ ?_ ?_)) <;> simp only [go_sem, simprocAttr, vL]
 ·exact DO rfl (by rw [DB]) rfl (JQ _)
 refine ⟨l6, rfl, ?_, fun e => ?_⟩
 ·show l6.length <= 6; omega
 rw [hl6] at e; have e5 := (PX e).1; rw [hl5] at e5; have e4 := (PX e5).1; rw [hl4] at e4; have e3 := (PX e4).1; rw [hl3] at e3; have hb := (PX e3).2
 simp only [Ce, decide_eq_false_iff_not] at hb
 exact ⟨show 0 <= am by omega, show am <= 1099511627776 by omega⟩
def fFa : Places × Tariff × Fare -> List Int := Sr.choose
theorem Agj : ∀ x : Places × Tariff × Fare, LnP x.1 /\ TarOk x.2.1 /\ x.2.2.ok -> RFa x (fFa x) := Sr.choose_spec.1
theorem Agl : PU 67 (gOf Kv fun x => (LnP x.1 /\ TarOk x.2.1 /\ x.2.2.ok, vL (fFa x))) := Sr.choose_spec.2
theorem Agk (ps : List Airport) (ds : List Distance) (a : List Fare) (b : List Rule) (c : List Routing) (d : List Tax) (ca fr to ba cl : List UInt8) (rd : Bool) (am ru rg : Int) : gOf Kv (fun x => (LnP x.1 /\ TarOk x.2.1 /\ x.2.2.ok, vL (fFa x))) [.agg [.list (ps.map Airport.enc) false, .list (ds.map Distance.enc) false], .agg [.list (a.map Fare.enc) false, .list (b.map Rule.enc) false, .list (c.map Routing.enc) false, .list (d.map Tax.enc) false], .agg [.str ca, .str fr, .str to, .str ba, .str cl, .bool rd, .int .i64 am, .int .i64 ru, .int .i64 rg]] = (LnP ⟨ps, ds⟩ /\ TarOk ⟨a, b, c, d⟩ /\ (Fare.mk ca fr to ba cl rd am ru rg).ok, .list (Aq (fFa (⟨ps, ds⟩, ⟨a, b, c, d⟩, ⟨ca, fr, to, ba, cl, rd, am, ru, rg⟩))) false) := Al (F := fun x => (LnP x.1 /\ TarOk x.2.1 /\ x.2.2.ok, vL (fFa x))) Wb (⟨ps, ds⟩, ⟨a, b, c, d⟩, ⟨ca, fr, to, ba, cl, rd, am, ru, rg⟩)
end Go.Proofs.YtjkclhbckfkeeaaGreatDoor
end
