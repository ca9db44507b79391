import Derived.Test.YtjkclhbckfkeeaaGreatDoorT5
set_option linter.unusedSimpArgs false
set_option linter.unusedVariables false
set_option linter.deprecated false
set_option maxHeartbeats 4000000
noncomputable section
namespace Go.Proofs.YtjkclhbckfkeeaaGreatDoor
open Go Go.RowKit
structure Shift where
 at' : Int
 offset : Int
def Shift.enc (x : Shift) : List V := [.int .i64 x.at', .int .i64 x.offset]
theorem Shift.inj (a b : Shift) (h : a.enc = b.enc) : a = b := by
 obtain ⟨a_at', a_offset⟩ := a
 obtain ⟨b_at', b_offset⟩ := b
 simp only [Shift.enc, Bz, V.str.injEq, V.int.injEq, V.bool.injEq, V.agg.injEq, V.list.injEq, and_true, true_and] at h
 obtain ⟨h0, h1⟩ := h
 subst h0
 subst h1
 rfl
def Shift.ok (x : Shift) : Prop := inI x.at' /\ inI x.offset
def Shift.zero : Shift := ⟨0, 0⟩
theorem Shift.rows (l : List Shift) : (∀ r ∈ l.map Shift.enc, r.length = 2) ↔ True := iff_true_intro fun r hr => by obtain ⟨x, _, rfl⟩ := Am.1 hr; rfl
theorem Shift.purs (l : List Shift) : (∀ r ∈ l.map Shift.enc, V.purs r = true) ↔ True := iff_true_intro fun r hr => by obtain ⟨x, _, rfl⟩ := Am.1 hr; rfl
attribute [go_sem] Shift.rows Shift.purs
structure Zone where
 offset : Int
 shifts : List Shift
def Zone.enc (x : Zone) : List V := [.int .i64 x.offset, .list (x.shifts.map Shift.enc) false]
theorem Zone.inj (a b : Zone) (h : a.enc = b.enc) : a = b := by
 obtain ⟨a_offset, a_shifts⟩ := a
 obtain ⟨b_offset, b_shifts⟩ := b
 simp only [Zone.enc, Bz, V.str.injEq, V.int.injEq, V.bool.injEq, V.agg.injEq, V.list.injEq, and_true, true_and] at h
 obtain ⟨h0, h1⟩ := h
 subst h0
 replace h1 := Cl Shift.inj h1
 subst h1
 rfl
def Zone.ok (x : Zone) : Prop := inI x.offset /\ (x.shifts.length <= 140737488355328 /\ ∀ z ∈ x.shifts, z.ok)
def Zone.zero : Zone := ⟨0, []⟩
theorem Zone.rows (l : List Zone) : (∀ r ∈ l.map Zone.enc, r.length = 2) ↔ True := iff_true_intro fun r hr => by obtain ⟨x, _, rfl⟩ := Am.1 hr; rfl
theorem Zone.purs (l : List Zone) : (∀ r ∈ l.map Zone.enc, V.purs r = true) ↔ True := iff_true_intro fun r hr => by obtain ⟨x, _, rfl⟩ := Am.1 hr; rfl
attribute [go_sem] Zone.rows Zone.purs
structure Airport where
 code : List UInt8
 city : List UInt8
 country : List UInt8
 zone : Zone
def Airport.enc (x : Airport) : List V := [.str x.code, .str x.city, .str x.country, .int .i64 x.zone.offset, .list (x.zone.shifts.map Shift.enc) false]
theorem Airport.inj (a b : Airport) (h : a.enc = b.enc) : a = b := by
 obtain ⟨a_code, a_city, a_country, ⟨a_zone_offset, a_zone_shifts⟩⟩ := a
 obtain ⟨b_code, b_city, b_country, ⟨b_zone_offset, b_zone_shifts⟩⟩ := b
 simp only [Airport.enc, Bz, V.str.injEq, V.int.injEq, V.bool.injEq, V.agg.injEq, V.list.injEq, and_true, true_and] at h
 obtain ⟨h0, h1, h2, h3, h4⟩ := h
 subst h0
 subst h1
 subst h2
 subst h3
 replace h4 := Cl Shift.inj h4
 subst h4
 rfl
def Airport.ok (x : Airport) : Prop := x.code.length <= 140737488355328 /\ x.city.length <= 140737488355328 /\ x.country.length <= 140737488355328 /\ x.zone.ok
def Airport.zero : Airport := ⟨[], [], [], Zone.zero⟩
theorem Airport.rows (l : List Airport) : (∀ r ∈ l.map Airport.enc, r.length = 5) ↔ True := iff_true_intro fun r hr => by obtain ⟨x, _, rfl⟩ := Am.1 hr; rfl
theorem Airport.purs (l : List Airport) : (∀ r ∈ l.map Airport.enc, V.purs r = true) ↔ True := iff_true_intro fun r hr => by obtain ⟨x, _, rfl⟩ := Am.1 hr; rfl
attribute [go_sem] Airport.rows Airport.purs
structure Distance where
 from' : List UInt8
 to' : List UInt8
 miles : Int
def Distance.enc (x : Distance) : List V := [.str x.from', .str x.to', .int .i64 x.miles]
theorem Distance.inj (a b : Distance) (h : a.enc = b.enc) : a = b := by
 obtain ⟨a_from', a_to', a_miles⟩ := a
 obtain ⟨b_from', b_to', b_miles⟩ := b
 simp only [Distance.enc, Bz, V.str.injEq, V.int.injEq, V.bool.injEq, V.agg.injEq, V.list.injEq, and_true, true_and] at h
 obtain ⟨h0, h1, h2⟩ := h
 subst h0
 subst h1
 subst h2
 rfl
def Distance.ok (x : Distance) : Prop := x.from'.length <= 140737488355328 /\ x.to'.length <= 140737488355328 /\ inI x.miles
def Distance.zero : Distance := ⟨[], [], 0⟩
theorem Distance.rows (l : List Distance) : (∀ r ∈ l.map Distance.enc, r.length = 3) ↔ True := iff_true_intro fun r hr => by obtain ⟨x, _, rfl⟩ := Am.1 hr; rfl
theorem Distance.purs (l : List Distance) : (∀ r ∈ l.map Distance.enc, V.purs r = true) ↔ True := iff_true_intro fun r hr => by obtain ⟨x, _, rfl⟩ := Am.1 hr; rfl
attribute [go_sem] Distance.rows Distance.purs
structure Places where
 airports : List Airport
 distances : List Distance
def Places.enc (x : Places) : List V := [.list (x.airports.map Airport.enc) false, .list (x.distances.map Distance.enc) false]
theorem Places.inj (a b : Places) (h : a.enc = b.enc) : a = b := by
 obtain ⟨a_airports, a_distances⟩ := a
 obtain ⟨b_airports, b_distances⟩ := b
 simp only [Places.enc, Bz, V.str.injEq, V.int.injEq, V.bool.injEq, V.agg.injEq, V.list.injEq, and_true, true_and] at h
 obtain ⟨h0, h1⟩ := h
 replace h0 := Cl Airport.inj h0
 subst h0
 replace h1 := Cl Distance.inj h1
 subst h1
 rfl
def Places.ok (x : Places) : Prop := (x.airports.length <= 140737488355328 /\ ∀ z ∈ x.airports, z.ok) /\ (x.distances.length <= 140737488355328 /\ ∀ z ∈ x.distances, z.ok)
theorem Places.rows (l : List Places) : (∀ r ∈ l.map Places.enc, r.length = 2) ↔ True := iff_true_intro fun r hr => by obtain ⟨x, _, rfl⟩ := Am.1 hr; rfl
theorem Places.purs (l : List Places) : (∀ r ∈ l.map Places.enc, V.purs r = true) ↔ True := iff_true_intro fun r hr => by obtain ⟨x, _, rfl⟩ := Am.1 hr; rfl
attribute [go_sem] Places.rows Places.purs
def BP (p : Airport -> Bool) (l : List Airport) : Option Airport := l.find? p
theorem Pv {p : Airport -> Bool} {l : List Airport} {i : Nat} (hi : i < l.length) (hp : ∀ c ∈ l.take i, p c = false) (h : p l[i] = true) : BP p l = some l[i] := by
 have e1 : BP p l = (l.take i ++ l.drop i).find? p := by rw [KA]; rfl
 rw [e1, List.find?_append, Nw.2 (fun c hc => by rw [hp c hc]; decide), Option.none_or, DL hi, List.find?_cons_of_pos h]
theorem Pw {p : Airport -> Bool} {l : List Airport} {i : Nat} (hi : l.length <= i) (hp : ∀ c ∈ l.take i, p c = false) : BP p l = none := by
 rw [BR hi] at hp
 exact Nw.2 fun c hc => by rw [hp c hc]; decide
def Ex (c : List UInt8) (a : Airport) : Bool := decide (a.code = c)
def DX (c : List UInt8) (a : Airport) : Bool := decide (a.city = c)
def aPs := ar (vg Places.enc) (ao V.str)
theorem GE : Ij aPs := ijr (ijg Places.inj) (ijo ijs)
def BD (p : Places) : Prop := p.airports.length <= 140737488355328 /\ p.distances.length <= 140737488355328
def Db (o : Option Airport) : V := .tup [.agg (o.getD Airport.zero).enc, .bool o.isSome]
def GM (x : Places × List UInt8) : Prop × V := (BD x.1, Db (BP (Ex x.2) x.1.airports))
def Hu (x : Places × List UInt8) : Prop × V := (BD x.1, Db (BP (DX x.2) x.1.airports))
theorem Cn (ps : List Airport) (ds : List Distance) (c : List UInt8) : gOf aPs GM [.agg [.list (ps.map Airport.enc) false, .list (ds.map Distance.enc) false], .str c] = (BD ⟨ps, ds⟩, Db (BP (Ex c) ps)) := Al GE (⟨ps, ds⟩, c)
theorem Nd (ps : List Airport) (ds : List Distance) (c : List UInt8) : gOf aPs Hu [.agg [.list (ps.map Airport.enc) false, .list (ds.map Distance.enc) false], .str c] = (BD ⟨ps, ds⟩, Db (BP (DX c) ps)) := Al GE (⟨ps, ds⟩, c)
theorem Af5 : PU 212 (gOf aPs GM) := by
 have hG := AJ
 refine YW.a GE (by simp [aPs]) ?_
 rintro ⟨⟨ps, ds⟩, c⟩ hv C hN Q hQ
 have Z := YW.R EF0 hG hN
 obtain ⟨hl, -⟩ : BD ⟨ps, ds⟩ := hv
 dsimp only at hl
 refine Ab (Z 0 rfl ?_)
 simp only [go_sem, simprocAttr, aPs, Places.enc]
 refine Ab (Ab (Z 1 rfl ?_))
 simp only [go_sem, simprocAttr]
 refine Ar ?_
 refine Bj (α := Nat) (fun i => (i <= ps.length) /\ (∀ a ∈ ps.take i, Ex c a = false)) (fun i => ⟨mkE [(1, V.str c), (4, V.ptr 4 0), (9, V.list (List.map Airport.enc ps) false), (10, V.int IntKind.i64 ↑ps.length), (11, .int .i64 i)], mkH [(4, Ob.box 212 [V.str [], V.str [], V.str [], V.int IntKind.i64 0, V.nils])]⟩) (fun i => ps.length - i) 0 (by simp) ?_ ?_
 ·exact leM
 rintro i ⟨hi, hp⟩ KL0 hKL0
 try dsimp only at *
 refine Ab (Z 2 rfl ?_)
 simp only [go_sem, simprocAttr]
 refine Ab ?_
 refine Ai rfl (fun hc2 => ?_) fun hc2 => ?_
 ·simp only [hcL] at hc2
  refine Ah ?_
  refine Ab (Ar ?_)
  refine Ab (Z 3 rfl ?_)
  simp only [go_sem, simprocAttr, Ap _ _ _ _ hc2, hc2, Airport.enc]
  and_intros <;> try exact sdA
  refine Ab (Z 4 rfl ?_)
  simp only [go_sem, simprocAttr]
  refine Ai rfl (fun hb => ?_) fun hb => ?_
  ·refine Ab (Z 5 rfl ?_)
   simp only [go_sem, simprocAttr]
   refine Ag (hQ _ _ (.inl rfl) ?_ ?_ ?_) <;> simp only [go_sem, simprocAttr, GM, Db]
   rw [Pv hc2 hp hb]; rfl
  refine Ah ?_
  refine Z 6 rfl ?_
  simp only [go_sem, simprocAttr, inI]
  and_intros <;> try exact sdA
  refine hKL0 (i + 1) _ ?_ ?_ ?_
  ·(try dsimp only); exact ⟨hc2, HQ hc2 hp hb⟩
  ·(try dsimp only); omega
  exact leM
 simp only [hcL] at hc2
 refine Be ?_
 simp only [go_sem, simprocAttr]
 refine Ab (Z 7 rfl ?_)
 simp only [go_sem, simprocAttr]
 refine AW.le (s' := ⟨mkE [(4, .ptr 4 0), (5, .bool false)], mkH [(4, .box 212 Airport.zero.enc)]⟩) (Le.mk _ _ ?_ ?_ rfl) (Ag (hQ _ _ (.inl rfl) ?_ ?_ ?_)) <;> simp only [go_sem, simprocAttr, GM, Db, Pw hc2 hp, Airport.zero, Zone.zero, Airport.enc, LI, Nt, HC]
theorem AmD : PU 213 (gOf aPs Hu) := by
 have hG := AJ
 refine YX.a GE (by simp [aPs]) ?_
 rintro ⟨⟨ps, ds⟩, c⟩ hv C hN Q hQ
 have Z := YX.R EF0 hG hN
 obtain ⟨hl, -⟩ : BD ⟨ps, ds⟩ := hv
 dsimp only at hl
 refine Ab (Z 0 rfl ?_)
 simp only [go_sem, simprocAttr, aPs, Places.enc]
 refine Ab (Ab (Z 1 rfl ?_))
 simp only [go_sem, simprocAttr]
 refine Ar ?_
 refine Bj (α := Nat) (fun i => (i <= ps.length) /\ (∀ a ∈ ps.take i, DX c a = false)) (fun i => ⟨mkE [(1, V.str c), (4, V.ptr 4 0), (9, V.list (List.map Airport.enc ps) false), (10, V.int IntKind.i64 ↑ps.length), (11, .int .i64 i)], mkH [(4, Ob.box 212 [V.str [], V.str [], V.str [], V.int IntKind.i64 0, V.nils])]⟩) (fun i => ps.length - i) 0 (by simp) ?_ ?_
 ·exact leM
 rintro i ⟨hi, hp⟩ KL0 hKL0
 try dsimp only at *
 refine Ab (Z 2 rfl ?_)
 simp only [go_sem, simprocAttr]
 refine Ab ?_
 refine Ai rfl (fun hc2 => ?_) fun hc2 => ?_
 ·simp only [hcL] at hc2
  refine Ah ?_
  refine Ab (Ar ?_)
  refine Ab (Z 3 rfl ?_)
  simp only [go_sem, simprocAttr, Ap _ _ _ _ hc2, hc2, Airport.enc]
  and_intros <;> try exact sdA
  refine Ab (Z 4 rfl ?_)
  simp only [go_sem, simprocAttr]
  refine Ai rfl (fun hb => ?_) fun hb => ?_
  ·refine Ab (Z 5 rfl ?_)
   simp only [go_sem, simprocAttr]
   refine Ag (hQ _ _ (.inl rfl) ?_ ?_ ?_) <;> simp only [go_sem, simprocAttr, Hu, Db]
   rw [Pv hc2 hp hb]; rfl
  refine Ah ?_
  refine Z 6 rfl ?_
  simp only [go_sem, simprocAttr, inI]
  and_intros <;> try exact sdA
  refine hKL0 (i + 1) _ ?_ ?_ ?_
  ·(try dsimp only); exact ⟨hc2, HQ hc2 hp hb⟩
  ·(try dsimp only); omega
  exact leM
 simp only [hcL] at hc2
 refine Be ?_
 simp only [go_sem, simprocAttr]
 refine Ab (Z 7 rfl ?_)
 simp only [go_sem, simprocAttr]
 refine AW.le (s' := ⟨mkE [(4, .ptr 4 0), (5, .bool false)], mkH [(4, .box 212 Airport.zero.enc)]⟩) (Le.mk _ _ ?_ ?_ rfl) (Ag (hQ _ _ (.inl rfl) ?_ ?_ ?_)) <;> simp only [go_sem, simprocAttr, Hu, Db, Pw hc2 hp, Airport.zero, Zone.zero, Airport.enc, LI, Nt, HC]
theorem TV : PU 160 (gOf aPs GM) := by
 have hG := AJ
 refine Yv.a GE (by simp [aPs]) ?_
 rintro ⟨⟨ps, ds⟩, c⟩ hv C hN Q hQ
 have Z := Yv.R EF0 hG hN
 obtain ⟨hl, -⟩ : BD ⟨ps, ds⟩ := hv
 dsimp only at hl
 refine Ab (Z 0 rfl ?_)
 simp only [go_sem, simprocAttr, aPs, Places.enc]
 refine Ab (Ab (Z 1 rfl ?_))
 simp only [go_sem, simprocAttr]
 refine Ar ?_
 refine Bj (α := Nat) (fun i => (i <= ps.length) /\ (∀ a ∈ ps.take i, Ex c a = false)) (fun i => ⟨mkE [(1, V.str c), (2, V.ptr 2 0), (4, V.ptr 4 0), (6, .int .i64 i)], mkH [(2, Ob.box 25 [V.list (List.map Airport.enc ps) false, V.list (List.map Distance.enc ds) false]), (4, Ob.box 212 [V.str [], V.str [], V.str [], V.int IntKind.i64 0, V.nils])]⟩) (fun i => ps.length - i) 0 (by simp) ?_ ?_
 ·exact leM
 rintro i ⟨hi, hp⟩ KL0 hKL0
 try dsimp only at *
 refine Ab (Ab (Z 2 rfl ?_))
 simp only [go_sem, simprocAttr]
 refine Ai rfl (fun hc2 => ?_) fun hc2 => ?_
 ·simp only [hcL] at hc2
  refine Ah ?_
  refine Ab (Ar ?_)
  refine Ab (Z 4 rfl ?_)
  simp only [go_sem, simprocAttr, Ap _ _ _ _ hc2, hc2, Airport.enc]
  and_intros <;> try exact sdA
  refine Ai rfl (fun hb => ?_) fun hb => ?_
  ·refine Ab (Z 5 rfl ?_)
   simp only [go_sem, simprocAttr, Ap _ _ _ _ hc2, hc2, Airport.enc]
   and_intros <;> try exact sdA
   refine Ag (hQ _ _ (.inl rfl) ?_ ?_ ?_) <;> simp only [go_sem, simprocAttr, GM, Db]
   rw [Pv hc2 hp hb]; rfl
  refine Ah ?_
  refine Z 3 rfl ?_
  simp only [go_sem, simprocAttr, inI]
  and_intros <;> try exact sdA
  refine hKL0 (i + 1) _ ?_ ?_ ?_
  ·(try dsimp only); exact ⟨hc2, HQ hc2 hp hb⟩
  ·(try dsimp only); omega
  exact leM
 simp only [hcL] at hc2
 refine Be ?_
 simp only [go_sem, simprocAttr]
 refine Ab (Z 6 rfl ?_)
 simp only [go_sem, simprocAttr]
 refine AW.le (s' := ⟨mkE [(4, .ptr 4 0), (5, .bool false)], mkH [(4, .box 212 Airport.zero.enc)]⟩) (Le.mk _ _ ?_ ?_ rfl) (Ag (hQ _ _ (.inl rfl) ?_ ?_ ?_)) <;> simp only [go_sem, simprocAttr, GM, Db, Pw hc2 hp, Airport.zero, Zone.zero, Airport.enc, LI, Nt, HC]
theorem AbZ : PU 150 (gOf aPs Hu) := by
 have hG := AJ
 refine Yq.a GE (by simp [aPs]) ?_
 rintro ⟨⟨ps, ds⟩, c⟩ hv C hN Q hQ
 have Z := Yq.R EF0 hG hN
 obtain ⟨hl, -⟩ : BD ⟨ps, ds⟩ := hv
 dsimp only at hl
 refine Ab (Z 0 rfl ?_)
 simp only [go_sem, simprocAttr, aPs, Places.enc]
 refine Ab (Ab (Z 1 rfl ?_))
 simp only [go_sem, simprocAttr]
 refine Ar ?_
 refine Bj (α := Nat) (fun i => (i <= ps.length) /\ (∀ a ∈ ps.take i, DX c a = false)) (fun i => ⟨mkE [(1, V.str c), (2, V.ptr 2 0), (4, V.ptr 4 0), (6, .int .i64 i)], mkH [(2, Ob.box 25 [V.list (List.map Airport.enc ps) false, V.list (List.map Distance.enc ds) false]), (4, Ob.box 212 [V.str [], V.str [], V.str [], V.int IntKind.i64 0, V.nils])]⟩) (fun i => ps.length - i) 0 (by simp) ?_ ?_
 ·exact leM
 rintro i ⟨hi, hp⟩ KL0 hKL0
 try dsimp only at *
 refine Ab (Ab (Z 2 rfl ?_))
 simp only [go_sem, simprocAttr]
 refine Ai rfl (fun hc2 => ?_) fun hc2 => ?_
 ·simp only [hcL] at hc2
  refine Ah ?_
  refine Ab (Ar ?_)
  refine Ab (Z 4 rfl ?_)
  simp only [go_sem, simprocAttr, Ap _ _ _ _ hc2, hc2, Airport.enc]
  and_intros <;> try exact sdA
  refine Ai rfl (fun hb => ?_) fun hb => ?_
  ·refine Ab (Z 5 rfl ?_)
   simp only [go_sem, simprocAttr, Ap _ _ _ _ hc2, hc2, Airport.enc]
   and_intros <;> try exact sdA
   refine Ag (hQ _ _ (.inl rfl) ?_ ?_ ?_) <;> simp only [go_sem, simprocAttr, Hu, Db]
   rw [Pv hc2 hp hb]; rfl
  refine Ah ?_
  refine Z 3 rfl ?_
  simp only [go_sem, simprocAttr, inI]
  and_intros <;> try exact sdA
  refine hKL0 (i + 1) _ ?_ ?_ ?_
  ·(try dsimp only); exact ⟨hc2, HQ hc2 hp hb⟩
  ·(try dsimp only); omega
  exact leM
 simp only [hcL] at hc2
 refine Be ?_
 simp only [go_sem, simprocAttr]
 refine Ab (Z 6 rfl ?_)
 simp only [go_sem, simprocAttr]
 refine AW.le (s' := ⟨mkE [(4, .ptr 4 0), (5, .bool false)], mkH [(4, .box 212 Airport.zero.enc)]⟩) (Le.mk _ _ ?_ ?_ rfl) (Ag (hQ _ _ (.inl rfl) ?_ ?_ ?_)) <;> simp only [go_sem, simprocAttr, Hu, Db, Pw hc2 hp, Airport.zero, Zone.zero, Airport.enc, LI, Nt, HC]
def BZ (ps : List Airport) (c : List UInt8) : List UInt8 := match BP (Ex c) ps with
 | some a => a.city
 | none => if (BP (DX c) ps).isSome then c else []
def Ld (ps : List Airport) (c : List UInt8) : List UInt8 := match BP (Ex c) ps with
 | some a => a.country
 | none => ((BP (DX c) ps).getD Airport.zero).country
theorem WU {ps : List Airport} {c : List UInt8} {a : Airport} (h : BP (Ex c) ps = some a) : BZ ps c = a.city := by unfold BZ; rw [h]
theorem OL {ps : List Airport} {c : List UInt8} (h : BP (Ex c) ps = none) : BZ ps c = if (BP (DX c) ps).isSome then c else [] := by unfold BZ; rw [h]
theorem Ae2 {ps : List Airport} {c : List UInt8} {a : Airport} (h : BP (Ex c) ps = some a) : Ld ps c = a.country := by unfold Ld; rw [h]
theorem Ae1 {ps : List Airport} {c : List UInt8} (h : BP (Ex c) ps = none) : Ld ps c = ((BP (DX c) ps).getD Airport.zero).country := by unfold Ld; rw [h]
theorem PI {α : Type} {o : Option α} (h : o.isSome = false) : o = none := by cases o <;> first | rfl | cases h
def Gl (x : Places × List UInt8) : Prop × V := (BD x.1, .str (BZ x.1.airports x.2))
def Lj (x : Places × List UInt8) : Prop × V := (BD x.1, .str (Ld x.1.airports x.2))
def tC : Tab
 | 212 => (gOf aPs GM)
 | 213 => (gOf aPs Hu)
 | _ => gNo
theorem Ald : ∀ f, PU f (tC f) := fun f => by
 unfold tC
 split
 ·exact Af5
 ·exact AmD
 ·exact Aj.no
def trC : Tab
 | 160 => (gOf aPs GM)
 | 150 => (gOf aPs Hu)
 | _ => gNo
theorem Ade : ∀ f, PU f (trC f) := fun f => by
 unfold trC
 split
 ·exact TV
 ·exact AbZ
 ·exact Aj.no
theorem AeJ : PU 180 (gOf aPs Gl) := by
 have hG := Ald
 refine YI.a GE (by simp [aPs]) ?_
 rintro ⟨⟨ps, ds⟩, c⟩ hv C hN Q hQ
 have Z := YI.R EF0 hG hN
 replace hv : BD ⟨ps, ds⟩ := hv
 refine Ab (Z 0 rfl ?_)
 simp only [go_sem, simprocAttr, aPs, Places.enc, tC]
 refine Ab (Ab (Z 1 rfl ?_))
 simp only [go_sem, simprocAttr, Cn, hv, Db, Airport.enc, tC]
 and_intros <;> try exact sdA
 refine Ab (Z 2 rfl ?_)
 simp only [go_sem, simprocAttr, tC]
 refine Ai rfl (fun hb2 => ?_) fun hb2 => ?_
 ·obtain ⟨a, hs⟩ := Fv.1 hb2
  refine Ab (Z 3 rfl ?_)
  simp only [go_sem, simprocAttr, hs, Fd, tC]
  refine Ag (hQ _ _ (.inl rfl) ?_ ?_ ?_) <;> simp only [go_sem, simprocAttr, Gl]
  rw [WU hs]
 have hs := PI hb2
 refine Ah ?_
 refine Ab (Ab (Z 4 rfl ?_))
 simp only [go_sem, simprocAttr, Nd, hv, Db, Airport.enc, tC]
 and_intros <;> try exact sdA
 refine Ab (Z 5 rfl ?_)
 simp only [go_sem, simprocAttr, tC]
 refine Ai rfl (fun hb5 => ?_) fun hb5 => ?_
 ·refine Ab (Z 6 rfl ?_)
  simp only [go_sem, simprocAttr, tC]
  refine Ag (hQ _ _ (.inl rfl) ?_ ?_ ?_) <;> simp only [go_sem, simprocAttr, Gl]
  rw [OL hs, if_pos hb5]
 refine Ah ?_
 refine Ab (Z 7 rfl ?_)
 simp only [go_sem, simprocAttr, tC]
 refine Ag (hQ _ _ (.inl rfl) ?_ ?_ ?_) <;> simp only [go_sem, simprocAttr, Gl]
 rw [OL hs, if_neg (by rw [hb5]; decide)]
theorem AbE : PU 158 (gOf aPs Gl) := by
 have hG := Ade
 refine Yu.a GE (by simp [aPs]) ?_
 rintro ⟨⟨ps, ds⟩, c⟩ hv C hN Q hQ
 have Z := Yu.R EF0 hG hN
 replace hv : BD ⟨ps, ds⟩ := hv
 refine Ab (Z 0 rfl ?_)
 simp only [go_sem, simprocAttr, aPs, Places.enc, trC]
 refine Ab (Z 1 rfl ?_)
 simp only [go_sem, simprocAttr, Cn, hv, Db, Airport.enc, trC]
 and_intros <;> try exact sdA
 refine Ab (Ab (Z 2 rfl ?_))
 simp only [go_sem, simprocAttr, trC]
 refine Ai rfl (fun hb2 => ?_) fun hb2 => ?_
 ·obtain ⟨a, hs⟩ := Fv.1 hb2
  refine Ab (Z 3 rfl ?_)
  simp only [go_sem, simprocAttr, hs, Fd, trC]
  refine Ag (hQ _ _ (.inl rfl) ?_ ?_ ?_) <;> simp only [go_sem, simprocAttr, Gl]
  rw [WU hs]
 have hs := PI hb2
 refine Ah ?_
 refine Ab (Z 4 rfl ?_)
 simp only [go_sem, simprocAttr, Nd, hv, Db, Airport.enc, trC]
 and_intros <;> try exact sdA
 refine Ab (Ab (Z 5 rfl ?_))
 simp only [go_sem, simprocAttr, trC]
 refine Ai rfl (fun hb5 => ?_) fun hb5 => ?_
 ·refine Ab (Z 6 rfl ?_)
  simp only [go_sem, simprocAttr, trC]
  refine Ag (hQ _ _ (.inl rfl) ?_ ?_ ?_) <;> simp only [go_sem, simprocAttr, Gl]
  rw [OL hs, if_pos hb5]
 refine Ah ?_
 refine Ab (Z 7 rfl ?_)
 simp only [go_sem, simprocAttr, trC]
 refine Ag (hQ _ _ (.inl rfl) ?_ ?_ ?_) <;> simp only [go_sem, simprocAttr, Gl]
 rw [OL hs, if_neg (by rw [hb5]; decide)]
theorem AbF : PU 229 (gOf aPs Lj) := by
 have hG := Ade
 refine Za.a GE (by simp [aPs]) ?_
 rintro ⟨⟨ps, ds⟩, c⟩ hv C hN Q hQ
 have Z := Za.R EF0 hG hN
 replace hv : BD ⟨ps, ds⟩ := hv
 refine Ab (Z 0 rfl ?_)
 simp only [go_sem, simprocAttr, aPs, Places.enc, trC]
 refine Ab (Z 1 rfl ?_)
 simp only [go_sem, simprocAttr, Cn, hv, Db, Airport.enc, trC]
 and_intros <;> try exact sdA
 refine Ab (Ab (Z 2 rfl ?_))
 simp only [go_sem, simprocAttr, trC]
 refine Ai rfl (fun hb2 => ?_) fun hb2 => ?_
 ·have hs := PI (o := BP (Ex c) ps) (by simpa using hb2)
  refine Z 3 rfl ?_
  simp only [go_sem, simprocAttr, Nd, hv, Db, Airport.enc, trC]
  and_intros <;> try exact sdA
  refine Ab (Z 4 rfl ?_)
  simp only [go_sem, simprocAttr, hs, Fd, trC]
  refine Ag (hQ _ _ (.inl rfl) ?_ ?_ ?_) <;> simp only [go_sem, simprocAttr, Lj]
  rw [Ae1 hs]
 obtain ⟨a, hs⟩ := Fv.1 (show (BP (Ex c) ps).isSome = true by simpa using hb2)
 refine Ah ?_
 refine Ab (Z 4 rfl ?_)
 simp only [go_sem, simprocAttr, hs, Fd, trC]
 refine Ag (hQ _ _ (.inl rfl) ?_ ?_ ?_) <;> simp only [go_sem, simprocAttr, Lj]
 rw [Ae2 hs]
def GD := ao (vg Distance.enc)
theorem Rk : Ij GD := ijo (ijg Distance.inj)
def Do (d : Distance) : Bool := decide (1 <= d.miles) && decide (d.miles <= 20000)
def IZ (d : Distance) : Prop × V := (True, .bool (Do d))
theorem RS (a b : List UInt8) (m : Int) : gOf GD IZ [.agg [.str a, .str b, .int .i64 m]] = (True, .bool (Do ⟨a, b, m⟩)) := Al Rk (⟨a, b, m⟩ : Distance)
theorem AnA : PU 182 (gOf GD IZ) := by
 have hG := AJ
 refine YK.a Rk (by simp [GD]) ?_
 rintro ⟨a, b, m⟩ hv C hN Q hQ
 have Z := YK.R EF0 hG hN
 refine Ab (Z 0 rfl ?_)
 simp only [go_sem, simprocAttr, GD, Distance.enc]
 refine Ab (Z 1 rfl ?_)
 simp only [go_sem, simprocAttr]
 and_intros <;> try exact sdA
 refine Ag (hQ _ _ (.inl rfl) ?_ ?_ ?_) <;> simp only [go_sem, simprocAttr, IZ, Do]
theorem Ab8 : PU 151 (gOf GD IZ) := by
 have hG := AJ
 refine Yr.a Rk (by simp [GD]) ?_
 rintro ⟨a, b, m⟩ hv C hN Q hQ
 have Z := Yr.R EF0 hG hN
 refine Ab (Z 0 rfl ?_)
 simp only [go_sem, simprocAttr, GD, Distance.enc]
 refine Ab (Z 1 rfl ?_)
 simp only [go_sem, simprocAttr]
 and_intros <;> try exact sdA
 refine Ag (hQ _ _ (.inl rfl) ?_ ?_ ?_) <;> simp only [go_sem, simprocAttr, IZ, Do]
def Cr (n : Int) (s : List UInt8) : Bool := decide ((s.length : Int) = n) && FE capB s
def DB := ao V.str
theorem MA : Ij DB := ijo ijs
def Hs (n : Int) (s : List UInt8) : Prop × V := (s.length <= 140737488355328, .bool (Cr n s))
theorem AV (n : Int) (s : List UInt8) : gOf DB (Hs n) [.str s] = (s.length <= 140737488355328, .bool (Cr n s)) := Al MA s
def QD : Tab
 | 54 => Jd
 | _ => gNo
theorem Adf : ∀ f, PU f (QD f) := fun f => by
 unfold QD
 split
 ·exact AbR
 ·exact Aj.no
theorem TN : PU 129 (gOf DB (Hs 3)) := by
 have hG := Adf
 refine Ye.a MA (by simp [DB]) ?_
 rintro s hv C hN Q hQ
 have Z := Ye.R EF0 hG hN
 replace hv : s.length <= 140737488355328 := hv
 refine Ab (Z 0 rfl ?_)
 simp only [go_sem, simprocAttr, DB]
 refine Ab (Z 1 rfl ?_)
 simp only [go_sem, simprocAttr, QD, Jd, hv]
 and_intros <;> try exact sdA
 refine Ag (hQ _ _ (.inl rfl) ?_ ?_ ?_) <;> simp only [go_sem, simprocAttr, Hs, Cr]
 rw [Bool.and_comm]
theorem AbX : PU 131 (gOf DB (Hs 2)) := by
 have hG := Adf
 refine Yg.a MA (by simp [DB]) ?_
 rintro s hv C hN Q hQ
 have Z := Yg.R EF0 hG hN
 replace hv : s.length <= 140737488355328 := hv
 refine Ab (Z 0 rfl ?_)
 simp only [go_sem, simprocAttr, DB]
 refine Ab (Z 1 rfl ?_)
 simp only [go_sem, simprocAttr, QD, Jd, hv]
 and_intros <;> try exact sdA
 refine Ag (hQ _ _ (.inl rfl) ?_ ?_ ?_) <;> simp only [go_sem, simprocAttr, Hs, Cr]
 rw [Bool.and_comm]
def HG (n : Int) : Bool := decide (-840 <= n) && decide (n <= 840)
def BX := ao vi
theorem Gj : Ij BX := ijo iji
def Pq (n : Int) : Prop × V := (True, .bool (HG n))
theorem DI (n : Int) : gOf BX Pq [.int .i64 n] = (True, .bool (HG n)) := Al Gj n
theorem Aji : PU 189 (gOf BX Pq) := by
 have hG := AJ
 refine YL.a Gj (by simp [BX]) ?_
 rintro n hv C hN Q hQ
 have Z := YL.R EF0 hG hN
 refine Ab (Z 0 rfl ?_)
 simp only [go_sem, simprocAttr, BX]
 refine Ab (Z 1 rfl ?_)
 simp only [go_sem, simprocAttr]
 and_intros <;> try exact sdA
 refine Ag (hQ _ _ (.inl rfl) ?_ ?_ ?_) <;> simp only [go_sem, simprocAttr, Pq, HG]
def atB (n : Int) : Bool := decide (n < 0) || decide (52596000 <= n)
def HM (l : List Shift) (i : Nat) : Bool := atB (l.getD i Shift.zero).at' || (decide (0 < i) && decide ((l.getD i Shift.zero).at' - (l.getD (i - 1) Shift.zero).at' < 2880))
def IF (l : List Shift) (i : Nat) : Int := if HM l i then 13 else if HG (l.getD i Shift.zero).offset then 0 else 2
def Gi (l : List Shift) : Nat -> Nat -> Int
 | 0, _ => 0
 | f + 1, i => if IF l i = 0 then Gi l f (i + 1) else IF l i
def DV (z : Zone) : Int := if 256 < z.shifts.length then 4 else if HG z.offset then Gi z.shifts z.shifts.length 0 else 2
theorem Adu {l : List Shift} {i : Nat} (hi : i < l.length) (h1 : HM l i = false) (h2 : HG l[i].offset = true) : Gi l (l.length - i) i = Gi l (l.length - (i + 1)) (i + 1) := by
 obtain ⟨m, hm⟩ : ∃ m, l.length - i = m + 1 := ⟨l.length - i - 1, by omega⟩
 have e : IF l i = 0 := by unfold IF; rw [h1, CT _ _ _ hi, h2]; rfl
 rw [hm, Gi, if_pos e, show l.length - (i + 1) = m by omega]
theorem Ads {l : List Shift} {i : Nat} (hi : i < l.length) (h1 : HM l i = true) : Gi l (l.length - i) i = 13 := by
 obtain ⟨m, hm⟩ : ∃ m, l.length - i = m + 1 := ⟨l.length - i - 1, by omega⟩
 have e : IF l i = 13 := by unfold IF; rw [h1]; rfl
 rw [hm, Gi, e]; rfl
theorem Adt {l : List Shift} {i : Nat} (hi : i < l.length) (h1 : HM l i = false) (h2 : HG l[i].offset = false) : Gi l (l.length - i) i = 2 := by
 obtain ⟨m, hm⟩ : ∃ m, l.length - i = m + 1 := ⟨l.length - i - 1, by omega⟩
 have e : IF l i = 2 := by unfold IF; rw [h1, CT _ _ _ hi, h2]; rfl
 rw [hm, Gi, e]; rfl
theorem Aeo {l : List Shift} {i : Nat} (hi : i < l.length) (hz : 0 < i) : HM l i = (decide (l[i].at' < 0) || decide (52596000 <= l[i].at') || decide (l[i].at' - l[i - 1].at' < 2880)) := by
 unfold HM atB; rw [CT _ _ _ hi, CT _ _ _ (by omega), decide_eq_true hz, NF]
theorem Aen {l : List Shift} {i : Nat} (hi : i < l.length) (hz : ¬ 0 < i) : HM l i = (decide (l[i].at' < 0) || decide (52596000 <= l[i].at')) := by
 unfold HM atB; rw [CT _ _ _ hi, decide_eq_false hz, Bool.false_and, NG]
theorem WH {l : List Shift} {i : Nat} (hi : i < l.length) (h : HM l i = false) : 0 <= l[i].at' /\ l[i].at' < 52596000 := by
 unfold HM atB at h; rw [CT _ _ _ hi] at h
 simp only [Cg, decide_eq_false_iff_not] at h
 omega
def La := ao (vg Zone.enc)
theorem Wp : Ij La := ijo (ijg Zone.inj)
def Hv (z : Zone) : Prop × V := (z.ok, .int .i64 (DV z))
def trZ : Tab
 | 189 => (gOf BX Pq)
 | _ => gNo
theorem Anm : ∀ f, PU f (trZ f) := fun f => by
 unfold trZ
 split
 ·exact Aji
 ·exact Aj.no
theorem AjA : PU 149 (gOf La Hv) := by
 have hG := Anm
 refine Sf.a Wp (by simp [La]) ?_
 rintro ⟨zo, sh⟩ hv C hN Q hQ
 have Y := Sf.D EF0 hG hN mixed
 have Z := Sf.R EF0 hG hN
 obtain ⟨hzo, hsl, hss⟩ : (⟨zo, sh⟩ : Zone).ok := hv
 dsimp only at hzo hsl hss
 refine Ab (Z 0 rfl ?_)
 simp only [go_sem, simprocAttr, La, Zone.enc, trZ, DI]
 refine Ab (Ab (Z 1 rfl ?_))
 simp only [go_sem, simprocAttr, trZ, DI]
 refine Ai rfl (fun hc1 => ?_) fun hc1 => ?_
 ·simp only [hcL] at hc1
  refine Ab (Z 2 rfl ?_)
  simp only [go_sem, simprocAttr, trZ, DI]
  refine Ag (hQ _ _ (.inl rfl) ?_ ?_ ?_) <;> simp only [go_sem, simprocAttr, Hv]
  unfold DV; rw [if_pos (by dsimp only; omega)]
 simp only [hcL] at hc1
 refine Ah ?_
 refine Ab (Ab (Z 3 rfl ?_))
 simp only [go_sem, simprocAttr, trZ, DI]
 and_intros <;> try exact sdA
 refine Ai rfl (fun hb3 => ?_) fun hb3 => ?_
 ·refine Ab (Z 4 rfl ?_)
  simp only [go_sem, simprocAttr, trZ, DI]
  refine Ag (hQ _ _ (.inl rfl) ?_ ?_ ?_) <;> simp only [go_sem, simprocAttr, Hv]
  unfold DV; rw [if_neg (by dsimp only; omega), if_neg (by simpa using hb3)]
 refine Ah ?_
 refine Ab ?_
 have hze : DV ⟨zo, sh⟩ = Gi sh (sh.length - 0) 0 := by unfold DV; rw [if_neg (by dsimp only; omega), if_pos (by simpa using hb3)]; rfl
 refine Ab (Z 5 rfl ?_)
 simp only [go_sem, simprocAttr, trZ, DI]
 refine Ar ?_
 refine Bj (α := Nat) (fun i => (i <= sh.length) /\ (DV ⟨zo, sh⟩ = Gi sh (sh.length - i) i) /\ (∀ j (hj : j < sh.length), j < i -> 0 <= sh[j].at' /\ sh[j].at' < 52596000)) (fun i => ⟨mkE [(1, V.ptr 1 0), (3, .int .i64 i)], mkH [(1, Ob.box 86 [V.int IntKind.i64 zo, V.list (List.map Shift.enc sh) false])]⟩) (fun i => sh.length - i) 0 ⟨As _, hze, fun j _ hj => absurd hj (Ee _)⟩ ?_ ?_
 ·exact leM
 rintro i ⟨hi, hinv, hpr⟩ KL0 hKL0
 try dsimp only at *
 refine Ab (Ab (Z 6 rfl ?_))
 simp only [go_sem, simprocAttr, trZ, DI]
 refine Ai rfl (fun hc6 => ?_) fun hc6 => ?_
 ·simp only [hcL] at hc6
  refine Ah ?_
  refine Ab (Ar ?_)
  refine Ab (Z 8 rfl ?_)
  simp only [go_sem, simprocAttr, Ap _ _ _ _ hc6, hc6, Shift.enc, trZ, DI]
  and_intros <;> try exact sdA
  refine Ab ?_
  by_cases hz : 0 < i
  ·have hzi : ((0 : Int) < (i : Int)) = True := eq_true (by omega)
   have hj1 : i - 1 < sh.length := by omega
   have hpj := hpr (i - 1) hj1 (by omega)
   have e1 : (i : Int) - 1 = ((i - 1 : Nat) : Int) := by omega
   have hsb := Aeo hc6 hz
   refine Ab (Y 9 rfl (by kernel_rfl) ?_)
   simp only [go_sem, simprocAttr, inI, hzi, trZ, DI, e1, Ap _ _ _ _ hj1, hj1, Shift.enc]
   and_intros <;> (try first | exact sdA | (intro h; refine ⟨h, ?_, ?_⟩ <;> (simp only [LG, Cg, decide_eq_false_iff_not] at h; omega)))
   refine Ai rfl (fun hb => ?_) fun hb => ?_
   ·refine Ab (Z 10 rfl ?_)
    simp only [go_sem, simprocAttr, trZ, DI]
    refine Ag (hQ _ _ (.inl rfl) ?_ ?_ ?_) <;> simp only [go_sem, simprocAttr, Hv]
    rw [hinv, Ads hc6 (hsb.trans hb)]
   refine Ah ?_
   refine Ab (Z 11 rfl ?_)
   simp only [go_sem, simprocAttr, trZ, DI]
   and_intros <;> try exact sdA
   refine Ai rfl (fun hbo => ?_) fun hbo => ?_
   ·refine Ab (Z 12 rfl ?_)
    simp only [go_sem, simprocAttr, trZ, DI]
    refine Ag (hQ _ _ (.inl rfl) ?_ ?_ ?_) <;> simp only [go_sem, simprocAttr, Hv]
    rw [hinv, Adt hc6 (hsb.trans hb) (by simpa using hbo)]
   refine Ah ?_
   refine Z 7 rfl ?_
   simp only [go_sem, simprocAttr, inI, trZ, DI]
   and_intros <;> try exact sdA
   refine hKL0 (i + 1) _ ?_ ?_ ?_
   ·(try dsimp only); refine ⟨hc6, by rw [hinv, Adu hc6 (hsb.trans hb) (by simpa using hbo)], fun j hj hji => ?_⟩; by_cases e : j = i; (subst e; exact WH hj (hsb.trans hb)); (exact hpr j hj (by omega))
   ·(try dsimp only); omega
   exact leM
  have hzi : ((0 : Int) < (i : Int)) = False := eq_false (by omega)
  have hsb := Aen hc6 hz
  obtain rfl : i = 0 := by omega
  have e0 : ((0 : Int) - 1).toNat = 0 := rfl
  refine Ab (Y 9 rfl (by kernel_rfl) ?_)
  simp only [go_sem, simprocAttr, inI, hzi, trZ, DI, e0, Int.lt_irrefl, Nat.lt_irrefl, Ap _ _ _ _ hc6, hc6, Shift.enc]
  and_intros <;> (try first | exact sdA | (intro h; refine ⟨h, ?_, ?_⟩ <;> (simp only [LG, Cg, decide_eq_false_iff_not] at h; omega)))
  refine Ai rfl (fun hb => ?_) fun hb => ?_
  ·refine Ab (Z 10 rfl ?_)
   simp only [go_sem, simprocAttr, trZ, DI]
   refine Ag (hQ _ _ (.inl rfl) ?_ ?_ ?_) <;> simp only [go_sem, simprocAttr, Hv]
   rw [hinv, Ads hc6 (hsb.trans hb)]
  refine Ah ?_
  refine Ab (Z 11 rfl ?_)
  simp only [go_sem, simprocAttr, trZ, DI]
  and_intros <;> try exact sdA
  refine Ai rfl (fun hbo => ?_) fun hbo => ?_
  ·refine Ab (Z 12 rfl ?_)
   simp only [go_sem, simprocAttr, trZ, DI]
   refine Ag (hQ _ _ (.inl rfl) ?_ ?_ ?_) <;> simp only [go_sem, simprocAttr, Hv]
   rw [hinv, Adt hc6 (hsb.trans hb) (by simpa using hbo)]
  refine Ah ?_
  refine Z 7 rfl ?_
  simp only [go_sem, simprocAttr, inI, trZ, DI]
  and_intros <;> try exact sdA
  refine hKL0 (0 + 1) _ ?_ ?_ ?_
  ·(try dsimp only); refine ⟨hc6, by rw [hinv, Adu hc6 (hsb.trans hb) (by simpa using hbo)], fun j hj hji => ?_⟩; (obtain rfl : j = 0 := by omega); exact WH hj (hsb.trans hb)
  ·(try dsimp only); omega
  exact leM
 simp only [hcL] at hc6
 refine Be ?_
 simp only [go_sem, simprocAttr]
 refine Ab (Z 13 rfl ?_)
 simp only [go_sem, simprocAttr, trZ, DI]
 refine Ag (hQ _ _ (.inl rfl) ?_ ?_ ?_) <;> simp only [go_sem, simprocAttr, Hv]
 rw [hinv, show sh.length - i = 0 by omega]; rfl
def aP1 := ao (vg Places.enc)
theorem Ow : Ij aP1 := ijo (ijg Places.inj)
def CN (L : Av Int) : List (List V) := L.map fun p => [.str p.1, .int .i64 p.2]
theorem AkI (L : Av Int) : (CN L).length = L.length := Ac _
theorem Oe (L : Av Int) (i : Nat) (d : List V) (h : i < L.length) : (CN L).getD i d = [.str L[i].1, .int .i64 L[i].2] := by
 unfold CN; rw [AS, BC, Bm h]; rfl
theorem AkK (L : Av Int) (i : Nat) (c : List UInt8) (v : Int) : (CN L).set i [.str c, .int .i64 v] = CN (L.set i (c, v)) := by unfold CN; rw [Kv]
theorem AkL (L : Av Int) (c : List UInt8) (v : Int) : CN L ++ [[.str c, .int .i64 v]] = CN (L ++ [(c, v)]) := by unfold CN; rw [DO]; rfl
theorem Uo (L : Av Int) : ∀ r ∈ CN L, V.purs r = true := by intro r hr; obtain ⟨p, _, rfl⟩ := Am.1 hr; rfl
theorem Up (L : Av Int) : (∀ r ∈ CN L, V.purs r = true) ↔ True := iff_true_intro (Uo L)
theorem AkM (L : Av Int) : (∀ r ∈ CN L, r.length = 2) ↔ True := iff_true_intro fun r hr => by obtain ⟨p, _, rfl⟩ := Am.1 hr; rfl
attribute [go_sem] AkI Up AkM
theorem Wr {L : Av Int} {c : List UInt8} {i : Nat} (hi : i < L.length) (hp : ∀ p ∈ L.take i, decide (p.1 = c) = false) (h : L[i].1 = c) : Au L c = some L[i].2 := by
 unfold Au
 have e1 : L.find? (fun p => decide (p.1 = c)) = (L.take i ++ L.drop i).find? fun p => decide (p.1 = c) := by rw [KA]
 rw [e1, List.find?_append, Nw.2 (fun p hq => by rw [hp p hq]; decide), Option.none_or, DL hi, List.find?_cons_of_pos (by simpa using h)]; rfl
theorem Wt {L : Av Int} {c : List UInt8} {i : Nat} (hi : L.length <= i) (hp : ∀ p ∈ L.take i, decide (p.1 = c) = false) : Au L c = none := by
 rw [BR hi] at hp
 unfold Au
 rw [Nw.2 fun p hq => by rw [hp p hq]; decide]; rfl
def aRe (x : Av Int × List UInt8) : List V := [.list (CN x.1) false, .str x.2]
theorem VQ (a b : Av Int × List UInt8) (h : aRe a = aRe b) : a = b := by
 obtain ⟨a1, a2⟩ := a
 obtain ⟨b1, b2⟩ := b
 simp only [aRe, CN, Bz, V.list.injEq, V.str.injEq, and_true] at h
 obtain ⟨h1, rfl⟩ := h
 rw [Cl (fun a b h => by obtain ⟨x, y⟩ := a; obtain ⟨z, w⟩ := b; simpa using h) h1]
def fRe (x : Av Int × List UInt8) : Prop × V := (x.1.length <= 140737488355328, .int .i64 ((Au x.1 x.2).getD (-1)))
theorem Ai6 : PU 190 (gOf aRe fRe) := by
 have hG := AJ
 refine YN.a VQ (by simp [aRe]) ?_
 rintro ⟨L, c⟩ hv C hN Q hQ
 have Z := YN.R EF0 hG hN
 replace hv : L.length <= 140737488355328 := hv
 refine Ab (Z 0 rfl ?_)
 simp only [go_sem, simprocAttr, aRe]
 refine Ab (Ab (Z 1 rfl ?_))
 simp only [go_sem, simprocAttr]
 refine Ar ?_
 refine Bj (α := Nat) (fun i => (i <= L.length) /\ (∀ p ∈ L.take i, decide (p.1 = c) = false)) (fun i => ⟨mkE [(0, V.list (CN L) false), (1, V.str c), (5, .int .i64 i)], mkH []⟩) (fun i => L.length - i) 0 (by simp) ?_ ?_
 ·exact leM
 rintro i ⟨hi, hp⟩ KL0 hKL0
 try dsimp only at *
 refine Ab (Ab (Z 2 rfl ?_))
 simp only [go_sem, simprocAttr]
 refine Ai rfl (fun hc2 => ?_) fun hc2 => ?_
 ·simp only [hcL] at hc2
  refine Ah ?_
  refine Ab (Ar ?_)
  refine Ab (Z 4 rfl ?_)
  simp only [go_sem, simprocAttr, Oe _ _ _ hc2, hc2]
  and_intros <;> try exact sdA
  refine Ai rfl (fun hb => ?_) fun hb => ?_
  ·refine Ab (Z 5 rfl ?_)
   simp only [go_sem, simprocAttr, Oe _ _ _ hc2, hc2]
   and_intros <;> try exact sdA
   refine Ag (hQ _ _ (.inl rfl) ?_ ?_ ?_) <;> simp only [go_sem, simprocAttr, fRe]
   rw [Wr hc2 hp (of_decide_eq_true hb)]; rfl
  refine Ah ?_
  refine Z 3 rfl ?_
  simp only [go_sem, simprocAttr, inI]
  and_intros <;> try exact sdA
  refine hKL0 (i + 1) _ ?_ ?_ ?_
  ·(try dsimp only); exact ⟨hc2, HQ hc2 hp hb⟩
  ·(try dsimp only); omega
  exact leM
 simp only [hcL] at hc2
 refine Be ?_
 simp only [go_sem, simprocAttr]
 refine Ab (Z 6 rfl ?_)
 simp only [go_sem, simprocAttr]
 refine Ag (hQ _ _ (.inl rfl) ?_ ?_ ?_) <;> simp only [go_sem, simprocAttr, fRe]
 rw [Wt hc2 hp]; rfl
theorem WC : ∀ {L : Av Int} {c : List UInt8} {i : Nat} (hi : i < L.length) (v : Int), (∀ p ∈ L.take i, decide (p.1 = c) = false) -> L[i].1 = c -> BA L c v = L.set i (c, v)
 | (k, w) :: L, c, 0, _, v, _, h => by
  simp only [List.getElem_cons_zero] at h
  rw [BA, if_pos h]; rfl
 | (k, w) :: L, c, i + 1, hi, v, hp, h => by
  have h1 := hp (k, w) (by simp)
  rw [BA, if_neg (of_decide_eq_false h1), List.set_cons_succ]
  rw [WC (L := L) (i := i) (by simpa using hi) v (fun p hq => hp p (by rw [LT]; exact AU _ hq)) (by simpa using h)]
theorem WE : ∀ {L : Av Int} {c : List UInt8} (v : Int), (∀ p ∈ L, decide (p.1 = c) = false) -> BA L c v = L ++ [(c, v)]
 | [], _, _, _ => rfl
 | (k, w) :: L, c, v, hp => by
  rw [BA, if_neg (of_decide_eq_false (hp (k, w) (AH ..))), WE v fun p hq => hp p (AU _ hq)]; rfl
def DQ (L : Av Int) (c : List UInt8) (m : Int) : Av Int × Bool := match Au L c with
 | some v => if v <= m then (L, false) else (BA L c m, true)
 | none => (BA L c m, true)
theorem TO {L : Av Int} {c : List UInt8} {m v : Int} (h : Au L c = some v) : DQ L c m = if v <= m then (L, false) else (BA L c m, true) := by unfold DQ; rw [h]
theorem Ai5 {L : Av Int} {c : List UInt8} {m : Int} (h : Au L c = none) : DQ L c m = (BA L c m, true) := by unfold DQ; rw [h]
def spO (n : Nat) (L : Av Int) : List (Nat × Ob) := [(n, .arr 256 2 (CN L))]
theorem AbI (L : Av Int) (c : List UInt8) (m : Int) (hL : L.length <= 1000000) : Eff Tryz.prog UT 191 [.own 1000 L.length, .str c, .int .i64 m] (spO 1000 L) (.tup [.own 1000 (DQ L c m).1.length, .bool (DQ L c m).2]) (spO 1000 (DQ L c m).1) := by
 have hG := AJ
 generalize hR : DQ L c m = R
 refine YO.e (by simp) fun C hN Q hQ => ?_
 have Z := YO.R EF0 hG hN
 refine Ab (Z 0 rfl ?_)
 simp only [go_sem, simprocAttr, spO]
 refine Ab (Ab (Z 1 rfl ?_))
 simp only [go_sem, simprocAttr, spO]
 refine Ar ?_
 refine Bj (α := Nat) (fun i => (i <= L.length) /\ (∀ p ∈ L.take i, decide (p.1 = c) = false)) (fun i => ⟨mkE [(0, V.own 1000 (List.length L)), (1, V.str c), (2, V.int IntKind.i64 m), (8, .int .i64 i)], mkH [(1000, Ob.arr 256 2 (CN L))]⟩) (fun i => L.length - i) 0 (by simp) ?_ ?_
 ·exact leM
 rintro i ⟨hi, hp⟩ KL0 hKL0
 try dsimp only at *
 refine Ab (Ab (Z 2 rfl ?_))
 simp only [go_sem, simprocAttr, spO]
 refine Ai rfl (fun hc2 => ?_) fun hc2 => ?_
 ·simp only [hcL] at hc2
  refine Ah ?_
  refine Ab (Ar ?_)
  refine Ab (Z 4 rfl ?_)
  simp only [go_sem, simprocAttr, Oe _ _ _ hc2, hc2, spO]
  and_intros <;> try exact sdA
  refine Ai rfl (fun hb => ?_) fun hb => ?_
  ·refine Ab ?_
   have hag := Wr hc2 hp (of_decide_eq_true hb)
   refine Ab (Z 5 rfl ?_)
   simp only [go_sem, simprocAttr, Oe _ _ _ hc2, hc2, spO]
   and_intros <;> try exact sdA
   refine Ai rfl (fun hb5 => ?_) fun hb5 => ?_
   ·simp only [hcL] at hb5
    refine Ab (Z 6 rfl ?_)
    simp only [go_sem, simprocAttr, spO]
    have hfin : R = (L, false) := by rw [<- hR, TO hag, if_pos hb5]
    subst hfin
    refine Ag ?_
    show Q _ _
    refine hQ _ _ ⟨mkE [(6, .own 1000 L.length), (7, .bool false)], mkH (spO 1000 L)⟩ (.inl rfl) (Le.mk _ _ ?_ ?_ rfl) rfl ?_ ?_ <;> simp only [go_sem, simprocAttr, spO]
   simp only [hcL] at hb5
   refine Ah ?_
   have hec : L[i].1 = c := of_decide_eq_true hb
   refine Ab (Z 7 rfl ?_)
   simp only [go_sem, simprocAttr, Oe _ _ _ hc2, hc2, hec, AkK, spO]
   and_intros <;> try exact sdA
   refine Ab (Z 8 rfl ?_)
   simp only [go_sem, simprocAttr, spO]
   have hfin : R = (L.set i (c, m), true) := by rw [<- hR, TO hag, if_neg (by omega), WC hc2 m hp hec]
   subst hfin
   refine Ag ?_
   show Q _ _
   refine hQ _ _ ⟨mkE [(6, .own 1000 (L.set i (c, m)).length), (7, .bool true)], mkH (spO 1000 (L.set i (c, m)))⟩ (.inl rfl) (Le.mk _ _ ?_ ?_ rfl) rfl ?_ ?_ <;> simp only [go_sem, simprocAttr, spO, Gc]
  refine Ah ?_
  refine Z 3 rfl ?_
  simp only [go_sem, simprocAttr, inI, spO]
  and_intros <;> try exact sdA
  refine hKL0 (i + 1) _ ?_ ?_ ?_
  ·(try dsimp only); exact ⟨hc2, HQ hc2 hp hb⟩
  ·(try dsimp only); omega
  exact leM
 simp only [hcL] at hc2
 refine Be ?_
 simp only [go_sem, simprocAttr]
 refine Ab (Z 9 rfl ?_)
 simp only [go_sem, simprocAttr, AkL, spO]
 and_intros <;> try exact sdA
 have hfin : R = (L ++ [(c, m)], true) := by rw [<- hR, Ai5 (Wt hc2 hp), WE m (AhC hc2 hp)]
 subst hfin
 refine Ag ?_
 show Q _ _
 refine hQ _ _ ⟨mkE [(6, .own 1000 (L ++ [(c, m)]).length), (7, .bool true)], mkH (spO 1000 (L ++ [(c, m)]))⟩ (.inl rfl) (Le.mk _ _ ?_ ?_ rfl) rfl ?_ ?_ <;> simp only [go_sem, simprocAttr, spO, An, Aw, Ax]
def CJ (L : Av Int) (x y : List UInt8) (n : Int) : Av Int × Bool := match Au L x with
 | none => (L, false)
 | some m => match Au L y with
  | some old => if old <= m + n then (L, false) else (BA L y (m + n), true)
  | none => (BA L y (m + n), true)
def Jt (L : Av Int) (x y : List UInt8) (n : Int) : Bool := !(Au L x).isSome || ((Au L y).isSome && decide ((Au L y).getD 0 <= (Au L x).getD 0 + n))
theorem TS {L : Av Int} {x y : List UInt8} {n : Int} (h : Jt L x y n = true) : CJ L x y n = (L, false) := by
 unfold Jt at h; unfold CJ
 cases hx : Au L x with
 | none => rfl
 | some m =>
  cases hy : Au L y with
  | none => rw [hx, hy] at h; cases h
  | some old =>
   rw [hx, hy] at h
   have : old <= m + n := by simpa using h
   dsimp only
   rw [if_pos this]
theorem AbM {L : Av Int} {x y : List UInt8} {n : Int} (h : Jt L x y n = false) : CJ L x y n = (BA L y ((Au L x).getD 0 + n), true) := by
 unfold Jt at h; unfold CJ
 cases hx : Au L x with
 | none => rw [hx] at h; cases h
 | some m =>
  cases hy : Au L y with
  | none => rfl
  | some old =>
   rw [hx, hy] at h
   have : ¬ old <= m + n := by simpa using h
   dsimp only
   rw [if_neg this]; rfl
def mpO (nb nm : Nat) (L : Av Int) : List (Nat × Ob) := [(nb, .box 240 [.map nm]), (nm, .mp (BB fI8 L))]
theorem JN {L : Av Int} {k : List UInt8} {v : Int} (h : Au L k = some v) : (k, v) ∈ L := by
 unfold Au at h
 obtain ⟨p, hp, rfl⟩ := AY.1 h
 have h1 := List.mem_of_find?_eq_some hp
 have h2 : p.1 = k := by simpa using List.find?_some hp
 rw [<- h2]; exact h1
theorem Ws {L : Av Int} (h : ∀ p ∈ L, 0 <= p.2 /\ p.2 <= 1000000000) (k : List UInt8) : 0 <= (Au L k).getD 0 /\ (Au L k).getD 0 <= 1000000000 := by
 cases e : Au L k with
 | none => simp
 | some v => exact h _ (JN e)
theorem AbK (L : Av Int) (x y : List UInt8) (n : Int) (hL : ∀ p ∈ L, 0 <= p.2 /\ p.2 <= 1000000000) (hn : 0 <= n /\ n <= 1000000) : Eff Tryz.prog UT 181 [.str x, .str y, .int .i64 n, .ptr 1000 0] (mpO 1000 1001 L) (.bool (CJ L x y n).2) (mpO 1000 1001 (CJ L x y n).1) := by
 have hG := AJ
 generalize hR : CJ L x y n = R
 have hx := Ws hL x
 have hy := Ws hL y
 refine YJ.e (by simp) fun C hN Q hQ => ?_
 have Z := YJ.R EF0 hG hN
 refine Ab (Z 0 rfl ?_)
 simp only [go_sem, simprocAttr, mpO]
 refine Ab (Z 1 rfl ?_)
 simp only [go_sem, simprocAttr, mpO]
 and_intros <;> try exact sdA
 refine Ab (Z 2 rfl ?_)
 simp only [go_sem, simprocAttr, mpO]
 and_intros <;> try exact sdA
 refine Ab (Ab (Z 3 rfl ?_))
 simp only [go_sem, simprocAttr, inI, mpO]
 and_intros <;> try exact sdA
 refine Ai rfl (fun hb => ?_) fun hb => ?_
 ·refine Ab (Z 4 rfl ?_)
  simp only [go_sem, simprocAttr, mpO]
  have hfin : R = (L, false) := by rw [<- hR]; exact TS hb
  subst hfin
  refine Ag ?_
  show Q _ _
  refine hQ _ _ ⟨mkE [(7, .bool false)], mkH (mpO 1000 1001 L)⟩ (.inl rfl) (Le.mk _ _ ?_ ?_ rfl) rfl ?_ ?_ <;> simp only [go_sem, simprocAttr, mpO]
 refine Ah ?_
 refine Ab (Z 5 rfl ?_)
 simp only [go_sem, simprocAttr, inI, mpO]
 and_intros <;> try exact sdA
 refine Ab (Z 6 rfl ?_)
 simp only [go_sem, simprocAttr, mpO]
 have hfin : R = (BA L y ((Au L x).getD 0 + n), true) := by rw [<- hR]; exact AbM hb
 subst hfin
 refine Ag ?_
 show Q _ _
 refine hQ _ _ ⟨mkE [(7, .bool true)], mkH (mpO 1000 1001 (BA L y ((Au L x).getD 0 + n)))⟩ (.inl rfl) (Le.mk _ _ ?_ ?_ rfl) rfl ?_ ?_ <;> simp only [go_sem, simprocAttr, mpO]
def DR (L : Av Int) (f t : List UInt8) (n : Int) : Av Int × Bool := ((CJ (CJ L f t n).1 t f n).1, (CJ L f t n).2 || (CJ (CJ L f t n).1 t f n).2)
def Gq (L : Av Int) (f t : List UInt8) (n : Int) : Av Int × Bool := if 0 <= (Au L f).getD (-1) then DQ L t ((Au L f).getD (-1) + n) else (L, false)
def Mi (L : Av Int) (f t : List UInt8) (n : Int) : Av Int × Bool :=
 let r := Gq L f t n
 let q := if 0 <= (Au L t).getD (-1) then DQ r.1 f ((Au L t).getD (-1) + n) else (r.1, false)
 (q.1, r.2 || q.2)
theorem SM {L : Av Int} (hL : ∀ p ∈ L, 0 <= p.2) (f t : List UInt8) (n : Int) : Gq L f t n = CJ L f t n := by
 unfold Gq CJ DQ
 cases hf : Au L f with
 | none => rfl
 | some m =>
  have hm : 0 <= m := hL _ (JN hf)
  simp only [Fd]
  rw [if_pos hm]
  try (cases Au L t <;> rfl)
theorem AcW {L : Av Int} (hL : ∀ p ∈ L, 0 <= p.2) (f t : List UInt8) {n : Int} (hn : 0 <= n) : Mi L f t n = DR L f t n := by
 unfold Mi DR
 rw [SM hL]
 dsimp only
 cases h1 : Jt L f t n with
 | true =>
  rw [TS h1]
  have := SM hL t f n
  unfold Gq at this
  dsimp only
  rw [this]
 | false =>
  rw [AbM h1]
  dsimp only
  have hx : ∃ m, Au L f = some m := by
   unfold Jt at h1
   cases e : Au L f with
   | none => rw [e] at h1; cases h1
   | some m => exact ⟨m, rfl⟩
  obtain ⟨m, hm⟩ := hx
  have hm0 : 0 <= m := hL _ (JN hm)
  rw [hm, Fd]
  have hlt : ∀ o, Au L t = some o -> m + n < o := fun o ho => by
   unfold Jt at h1
   rw [hm, ho] at h1
   simp at h1
   omega
  have hne : t ≠ f := fun e => by
   subst e
   have := hlt m hm
   omega
  have g1 : Au (BA L t (m + n)) t = some (m + n) := by rw [IS, if_pos rfl]
  have g2 : Au (BA L t (m + n)) f = some m := by rw [IS, if_neg hne, hm]
  have e2 : CJ (BA L t (m + n)) t f n = (BA L t (m + n), false) := TS (by
   unfold Jt; rw [g1, g2]; simp; omega)
  rw [e2]
  cases ht : Au L t with
  | none => rfl
  | some o =>
   have ho := hlt o ht
   rw [Fd, if_pos (by omega), TO g2, if_pos (by omega)]
def iIf (b : Bool) (e : Int) : List Int := if b then [e] else []
theorem FU {b : Bool} {e : Int} (h : b = true) : iIf b e = [e] := by rw [h]; rfl
theorem FT {b : Bool} {e : Int} (h : b = false) : iIf b e = [] := by rw [h]; rfl
theorem Rp {α : Type} (p : α -> Bool) {l : List α} {k : Nat} (h : k < l.length) : (l.take (k + 1)).any p = ((l.take k).any p || p l[k]) := by rw [Dm h, List.any_append]; simp
def dTwice (d x : Distance) : Bool := (decide (x.from' = d.from') && decide (x.to' = d.to')) || (decide (x.from' = d.to') && decide (x.to' = d.from'))
def JR (ps : List Airport) (ds : List Distance) (i : Nat) (d : Distance) : List Int :=
 iIf (!(BP (DX d.from') ps).isSome || !(BP (DX d.to') ps).isSome) 14 ++ iIf ((ds.take i).any (dTwice d)) 6 ++ iIf (!Do d || decide (d.from' = d.to')) 2
def aPi := ar (vg Places.enc) (ao vi)
theorem Ox : Ij aPi := ijr (ijg Places.inj) (ijo iji)
def Pk (x : Places × Int) : Prop × V := (BD x.1 /\ 0 <= x.2 /\ x.2.toNat < x.1.distances.length /\ x.1.distances.length <= 1000000, .list (Ao (JR x.1.airports x.1.distances x.2.toNat (x.1.distances.getD x.2.toNat Distance.zero))) false)
def Dy : Tab
 | 150 => (gOf aPs Hu)
 | 151 => (gOf GD IZ)
 | _ => gNo
theorem Aln : ∀ f, PU f (Dy f) := fun f => by
 unfold Dy
 split
 ·exact AbZ
 ·exact Ab8
 ·exact Aj.no
theorem Ai4 : PU 90 (gOf aPi Pk) := by
 have hG := Aln
 refine ZZ.a Ox (by simp [aPi]) ?_
 rintro ⟨⟨ps, ds⟩, ii⟩ hv C hN Q hQ
 have Z := ZZ.R EF0 hG hN
 obtain ⟨hlp, hi0, hin, hdl⟩ : BD ⟨ps, ds⟩ /\ 0 <= ii /\ ii.toNat < ds.length /\ ds.length <= 1000000 := hv
 obtain ⟨i, rfl⟩ : ∃ i : Nat, ii = (i : Int) := ⟨ii.toNat, by omega⟩
 rw [Fc] at hin
 generalize hdd : ds[i] = d
 obtain ⟨df, dt, dm⟩ := d
 refine Ab (Z 0 rfl ?_)
 simp only [go_sem, simprocAttr, aPi, Places.enc, Dy]
 refine Ab (Z 1 rfl ?_)
 simp only [go_sem, simprocAttr, Dy]
 refine AW.le (s' := ⟨mkE [(1, .int .i64 i), (2, .ptr 2 0), (5, .own 999 0)], mkH ([(2, .box 25 [.list (ps.map Airport.enc) false, .list (ds.map Distance.enc) false]), (999, .arr 48 1 (Ao []))])⟩) (Le.mk _ _ (by (simp only [go_sem, simprocAttr]) <;> and_intros <;> try exact leB) (by (simp only [go_sem, simprocAttr]) <;> and_intros <;> try exact leB) rfl) ?_
 refine Ab (Z 2 rfl ?_)
 simp only [go_sem, simprocAttr, Ap _ _ _ _ hin, hin, hdd, Distance.enc, Dy]
 and_intros <;> try exact sdA
 refine Ab (Z 3 rfl ?_)
 simp only [go_sem, simprocAttr, Nd, hlp, Db, Airport.enc, Dy]
 and_intros <;> try exact sdA
 refine Ab (Z 4 rfl ?_)
 simp only [go_sem, simprocAttr, Nd, hlp, Db, Airport.enc, Dy]
 and_intros <;> try exact sdA
 refine Dq (α := (List Int)) (fun g1 => (g1 = ([] : List Int) ++ iIf (!(BP (DX df) ps).isSome || !(BP (DX dt) ps).isSome) (14)) /\ (g1.length <= ([] : List Int).length + 1)) (fun g1 => ⟨mkE [(1, V.int IntKind.i64 ↑i), (2, V.ptr 2 0), (5, .own 999 g1.length), (6, V.ptr 6 0)], mkH [(2, Ob.box 25 [V.list (List.map Airport.enc ps) false, V.list (List.map Distance.enc ds) false]), (6, Ob.box 215 [V.str df, V.str dt, V.int IntKind.i64 dm]), (999, .arr 48 1 (Ao g1))]⟩) ?_ ?_
 ·intro KC5 hKC5
  refine Ab (Z 5 rfl ?_)
  simp only [go_sem, simprocAttr, Dy]
  and_intros <;> try exact sdA
  refine Ai rfl (fun hb5 => ?_) fun hb5 => ?_
  ·refine Z 6 rfl ?_
   simp only [go_sem, simprocAttr, Dy]
   and_intros <;> try exact sdA
   refine hKC5 (([] : List Int) ++ [14]) _ ?_ ?_
   ·(try dsimp only); exact ⟨by rw [FU (show (!(BP (DX df) ps).isSome || !(BP (DX dt) ps).isSome) = true from hb5)], by simp⟩
   refine Le.mk _ _ ?_ ?_ rfl <;> simp only [go_sem, simprocAttr, EE, An, Aw, Ax] <;> and_intros <;> try exact leA
  refine Ah ?_
  refine hKC5 (([] : List Int)) _ ?_ ?_
  ·(try dsimp only); exact ⟨by rw [FT (show (!(BP (DX df) ps).isSome || !(BP (DX dt) ps).isSome) = false from hb5), Br], by omega⟩
  exact leM
 rintro g1 ⟨hg1, lg1⟩
 simp only [Ax] at lg1
 refine Ab (Z 7 rfl ?_)
 simp only [go_sem, simprocAttr, Dy]
 refine Ab (Ab (Z 8 rfl ?_))
 simp only [go_sem, simprocAttr, Dy]
 refine Ar ?_
 refine Bj (α := Nat × Bool) (fun γ => (γ.1 <= i) /\ (γ.2 = (ds.take γ.1).any (dTwice ⟨df, dt, dm⟩))) (fun γ => ⟨mkE [(1, V.int IntKind.i64 ↑i), (2, V.ptr 2 0), (5, V.own 999 g1.length), (6, V.ptr 6 0), (11, .bool γ.2), (12, .int .i64 γ.1)], mkH [(2, Ob.box 25 [V.list (List.map Airport.enc ps) false, V.list (List.map Distance.enc ds) false]), (6, Ob.box 215 [V.str df, V.str dt, V.int IntKind.i64 dm]), (999, Ob.arr 48 1 (Ao g1))]⟩) (fun γ => i - γ.1) (0, false) ⟨As _, rfl⟩ ?_ ?_
 ·exact leM
 rintro ⟨k, tw⟩ ⟨hk, htw⟩ KL0 hKL0
 try dsimp only at *
 refine Ab (Ab (Z 9 rfl ?_))
 simp only [go_sem, simprocAttr, Dy]
 refine Ai rfl (fun hc9 => ?_) fun hc9 => ?_
 ·simp only [hcL] at hc9
  refine Ah ?_
  refine Ab (Ar ?_)
  have hkd : k < ds.length := by omega
  refine Ab (Z 11 rfl ?_)
  simp only [go_sem, simprocAttr, Ap _ _ _ _ hkd, hkd, Distance.enc, Dy]
  and_intros <;> try exact sdA
  refine Z 12 rfl ?_
  simp only [go_sem, simprocAttr, Dy]
  and_intros <;> (try first | exact sdA | (intro h; exact ⟨h, fun h2 => by rw [h, h2]; rfl⟩))
  refine Z 10 rfl ?_
  simp only [go_sem, simprocAttr, inI, Dy]
  and_intros <;> try exact sdA
  refine hKL0 (k + 1, tw || dTwice ⟨df, dt, dm⟩ ds[k]) _ ?_ ?_ ?_
  ·(try dsimp only); exact ⟨by omega, by rw [Rp _ hkd, htw]⟩
  ·(try dsimp only); omega
  refine Le.mk _ _ ?_ ?_ rfl <;> simp only [go_sem, simprocAttr, dTwice, Bool.or_assoc] <;> and_intros <;> try exact leA
 simp only [hcL] at hc9
 have hki : k = i := by omega
 refine Be ?_
 simp only [go_sem, simprocAttr]
 refine Dq (α := (List Int)) (fun g2 => (g2 = g1 ++ iIf (tw) (6)) /\ (g2.length <= g1.length + 1)) (fun g2 => ⟨mkE [(5, .own 999 g2.length), (6, V.ptr 6 0)], mkH [(6, Ob.box 215 [V.str df, V.str dt, V.int IntKind.i64 dm]), (999, .arr 48 1 (Ao g2))]⟩) ?_ ?_
 ·intro KC13 hKC13
  refine Ab (Z 13 rfl ?_)
  simp only [go_sem, simprocAttr, Dy]
  refine Ai rfl (fun hb13 => ?_) fun hb13 => ?_
  ·refine Z 14 rfl ?_
   simp only [go_sem, simprocAttr, Dy]
   and_intros <;> try exact sdA
   refine hKC13 (g1 ++ [6]) _ ?_ ?_
   ·(try dsimp only); exact ⟨by rw [FU (show (tw) = true from hb13)], by simp⟩
   refine Le.mk _ _ ?_ ?_ rfl <;> simp only [go_sem, simprocAttr, EE, An, Aw, Ax] <;> and_intros <;> try exact leA
  refine Ah ?_
  refine hKC13 (g1) _ ?_ ?_
  ·(try dsimp only); exact ⟨by rw [FT (show (tw) = false from hb13), Br], by omega⟩
  exact leM
 rintro g2 ⟨hg2, lg2⟩
 refine Dq (α := (List Int)) (fun g3 => (g3 = g2 ++ iIf (!Do ⟨df, dt, dm⟩ || decide (df = dt)) (2)) /\ (g3.length <= g2.length + 1)) (fun g3 => ⟨mkE [(5, .own 999 g3.length)], mkH [(999, .arr 48 1 (Ao g3))]⟩) ?_ ?_
 ·intro KC15 hKC15
  refine Ab (Z 15 rfl ?_)
  simp only [go_sem, simprocAttr, RS, Dy]
  and_intros <;> try exact sdA
  refine Ai rfl (fun hb15 => ?_) fun hb15 => ?_
  ·refine Z 16 rfl ?_
   simp only [go_sem, simprocAttr, Dy]
   and_intros <;> try exact sdA
   refine hKC15 (g2 ++ [2]) _ ?_ ?_
   ·(try dsimp only); exact ⟨by rw [FU (show (!Do ⟨df, dt, dm⟩ || decide (df = dt)) = true from hb15)], by simp⟩
   refine Le.mk _ _ ?_ ?_ rfl <;> simp only [go_sem, simprocAttr, EE, An, Aw, Ax] <;> and_intros <;> try exact leA
  refine Ah ?_
  refine hKC15 (g2) _ ?_ ?_
  ·(try dsimp only); exact ⟨by rw [FT (show (!Do ⟨df, dt, dm⟩ || decide (df = dt)) = false from hb15), Br], by omega⟩
  exact leM
 rintro g3 ⟨hg3, lg3⟩
 refine Ab (Z 17 rfl ?_)
 simp only [go_sem, simprocAttr, Dy]
 refine AW.le (s' := ⟨mkE [(4, .list (Ao g3) false)], mkH []⟩) (Le.mk _ _ ?_ ?_ rfl) (Ag (hQ _ _ (.inl rfl) ?_ ?_ ?_)) <;> simp only [go_sem, simprocAttr, Pk, Fc]
 ·exact DA rfl (by rw [AG]) rfl (Jf _)
 rw [CT _ _ _ hin, hdd, hg3, hg2, hg1, htw, hki]; rfl
def aTwice (a x : Airport) : Bool := decide (x.code = a.code)
def aMoved (a x : Airport) : Bool := decide (x.city = a.city) && !decide (x.country = a.country)
def IT (ps : List Airport) (i : Nat) (a : Airport) : List Int :=
 iIf (!Cr 3 a.code || !Cr 3 a.city || !Cr 2 a.country) 5 ++ iIf ((ps.take i).any (aTwice a)) 6 ++ iIf ((ps.take i).any (aMoved a)) 8 ++ iIf (!decide (DV a.zone = 0)) (DV a.zone)
def Pg (x : Places × Int) : Prop × V := (0 <= x.2 /\ x.2.toNat < x.1.airports.length /\ x.1.airports.length <= 1000000 /\ (∀ a ∈ x.1.airports, a.ok), .list (Ao (IT x.1.airports x.2.toNat (x.1.airports.getD x.2.toNat Airport.zero))) false)
theorem AfS (zo : Int) (sh : List Shift) : gOf La Hv [.agg [.int .i64 zo, .list (sh.map Shift.enc) false]] = ((⟨zo, sh⟩ : Zone).ok, .int .i64 (DV ⟨zo, sh⟩)) := Al Wp (⟨zo, sh⟩ : Zone)
def Dk : Tab
 | 129 => (gOf DB (Hs 3))
 | 131 => (gOf DB (Hs 2))
 | 149 => (gOf La Hv)
 | _ => gNo
theorem Ak7 : ∀ f, PU f (Dk f) := fun f => by
 unfold Dk
 split
 ·exact TN
 ·exact AbX
 ·exact AjA
 ·exact Aj.no
theorem AiY : PU 89 (gOf aPi Pg) := by
 have hG := Ak7
 refine SF.a Ox (by simp [aPi]) ?_
 rintro ⟨⟨ps, ds⟩, ii⟩ hv C hN Q hQ
 have Y := SF.D EF0 hG hN mixed
 have Z := SF.R EF0 hG hN
 obtain ⟨hi0, hin, hpl, hpo⟩ : 0 <= ii /\ ii.toNat < ps.length /\ ps.length <= 1000000 /\ ∀ a ∈ ps, a.ok := hv
 obtain ⟨i, rfl⟩ : ∃ i : Nat, ii = (i : Int) := ⟨ii.toNat, by omega⟩
 rw [Fc] at hin
 obtain ⟨h1, h2, h3, h4⟩ := hpo _ (AI hin)
 generalize haa : ps[i] = a at h1 h2 h3 h4
 obtain ⟨ac, at', an, ⟨zo, sh⟩⟩ := a
 dsimp only at h1 h2 h3 h4
 refine Ab (Z 0 rfl ?_)
 simp only [go_sem, simprocAttr, aPi, Places.enc, Dk, AV]
 refine Ab (Z 1 rfl ?_)
 simp only [go_sem, simprocAttr, Dk, AV]
 refine AW.le (s' := ⟨mkE [(1, .int .i64 i), (2, .ptr 2 0), (5, .own 999 0)], mkH ([(2, .box 25 [.list (ps.map Airport.enc) false, .list (ds.map Distance.enc) false]), (999, .arr 48 1 (Ao []))])⟩) (Le.mk _ _ (by (simp only [go_sem, simprocAttr]) <;> and_intros <;> try exact leB) (by (simp only [go_sem, simprocAttr]) <;> and_intros <;> try exact leB) rfl) ?_
 refine Ab (Z 2 rfl ?_)
 simp only [go_sem, simprocAttr, Ap _ _ _ _ hin, hin, haa, Airport.enc, Dk, AV]
 and_intros <;> try exact sdA
 refine Dq (α := (List Int)) (fun g1 => (g1 = ([] : List Int) ++ iIf (!Cr 3 ac || !Cr 3 at' || !Cr 2 an) (5)) /\ (g1.length <= ([] : List Int).length + 1)) (fun g1 => ⟨mkE [(1, V.int IntKind.i64 ↑i), (2, V.ptr 2 0), (5, .own 999 g1.length), (6, V.ptr 6 0)], mkH [(2, Ob.box 25 [V.list (List.map Airport.enc ps) false, V.list (List.map Distance.enc ds) false]), (6, Ob.box 212 [V.str ac, V.str at', V.str an, V.int IntKind.i64 zo, V.list (List.map Shift.enc sh) false]), (999, .arr 48 1 (Ao g1))]⟩) ?_ ?_
 ·intro KC3 hKC3
  refine Ab (Z 3 rfl ?_)
  simp only [go_sem, simprocAttr, h1, h2, h3, Dk, AV]
  and_intros <;> try exact sdA
  refine Ai rfl (fun hb3 => ?_) fun hb3 => ?_
  ·refine Z 4 rfl ?_
   simp only [go_sem, simprocAttr, Dk, AV]
   and_intros <;> try exact sdA
   refine hKC3 (([] : List Int) ++ [5]) _ ?_ ?_
   ·(try dsimp only); exact ⟨by rw [FU (show (!Cr 3 ac || !Cr 3 at' || !Cr 2 an) = true from hb3)], by simp⟩
   refine Le.mk _ _ ?_ ?_ rfl <;> simp only [go_sem, simprocAttr, EE, An, Aw, Ax] <;> and_intros <;> try exact leA
  refine Ah ?_
  refine hKC3 (([] : List Int)) _ ?_ ?_
  ·(try dsimp only); exact ⟨by rw [FT (show (!Cr 3 ac || !Cr 3 at' || !Cr 2 an) = false from hb3), Br], by omega⟩
  exact leM
 rintro g1 ⟨hg1, lg1⟩
 simp only [Ax] at lg1
 refine Ab (Z 5 rfl ?_)
 simp only [go_sem, simprocAttr, Dk, AV]
 refine Ab (Ab (Z 6 rfl ?_))
 simp only [go_sem, simprocAttr, Dk, AV]
 refine Ar ?_
 refine Bj (α := Nat × Bool × Bool) (fun γ => (γ.1 <= i) /\ (γ.2.1 = (ps.take γ.1).any (aTwice ⟨ac, at', an, ⟨zo, sh⟩⟩)) /\ (γ.2.2 = (ps.take γ.1).any (aMoved ⟨ac, at', an, ⟨zo, sh⟩⟩))) (fun γ => ⟨mkE [(1, V.int IntKind.i64 ↑i), (2, V.ptr 2 0), (5, V.own 999 g1.length), (6, V.ptr 6 0), (7, .bool γ.2.1), (8, .bool γ.2.2), (9, .int .i64 γ.1)], mkH [(2, Ob.box 25 [V.list (List.map Airport.enc ps) false, V.list (List.map Distance.enc ds) false]), (6, Ob.box 212 [V.str ac, V.str at', V.str an, V.int IntKind.i64 zo, V.list (List.map Shift.enc sh) false]), (999, Ob.arr 48 1 (Ao g1))]⟩) (fun γ => i - γ.1) (0, false, false) ⟨As _, rfl, rfl⟩ ?_ ?_
 ·exact leM
 rintro ⟨k, tw, mo⟩ ⟨hk, htw, hmo⟩ KL0 hKL0
 try dsimp only at *
 refine Ab (Ab (Z 7 rfl ?_))
 simp only [go_sem, simprocAttr, Dk, AV]
 refine Ai rfl (fun hc7 => ?_) fun hc7 => ?_
 ·simp only [hcL] at hc7
  refine Ah ?_
  refine Ab (Ar ?_)
  have hkd : k < ps.length := by omega
  refine Ab (Y 9 rfl (by kernel_rfl) ?_)
  simp only [go_sem, simprocAttr, Ap _ _ _ _ hkd, hkd, Airport.enc, Dk, AV]
  and_intros <;> try exact sdA
  refine Y 10 rfl (by kernel_rfl) ?_
  simp only [go_sem, simprocAttr, Ap _ _ _ _ hkd, hkd, Airport.enc, Dk, AV]
  and_intros <;> (try first | exact sdA | (intro h; exact ⟨h, fun h2 => by rw [h, h2]; rfl⟩))
  refine Z 8 rfl ?_
  simp only [go_sem, simprocAttr, inI, Dk, AV]
  and_intros <;> try exact sdA
  refine hKL0 (k + 1, tw || aTwice ⟨ac, at', an, ⟨zo, sh⟩⟩ ps[k], mo || aMoved ⟨ac, at', an, ⟨zo, sh⟩⟩ ps[k]) _ ?_ ?_ ?_
  ·(try dsimp only); exact ⟨by omega, by rw [Rp _ hkd, htw], by rw [Rp _ hkd, hmo]⟩
  ·(try dsimp only); omega
  refine Le.mk _ _ ?_ ?_ rfl <;> simp only [go_sem, simprocAttr, aTwice, aMoved] <;> and_intros <;> try exact leA
 simp only [hcL] at hc7
 have hki : k = i := by omega
 refine Be ?_
 simp only [go_sem, simprocAttr]
 refine Dq (α := (List Int)) (fun g2 => (g2 = g1 ++ iIf (tw) (6)) /\ (g2.length <= g1.length + 1)) (fun g2 => ⟨mkE [(5, .own 999 g2.length), (6, V.ptr 6 0), (8, V.bool mo)], mkH [(6, Ob.box 212 [V.str ac, V.str at', V.str an, V.int IntKind.i64 zo, V.list (List.map Shift.enc sh) false]), (999, .arr 48 1 (Ao g2))]⟩) ?_ ?_
 ·intro KC11 hKC11
  refine Ab (Z 11 rfl ?_)
  simp only [go_sem, simprocAttr, Dk, AV]
  refine Ai rfl (fun hb11 => ?_) fun hb11 => ?_
  ·refine Z 12 rfl ?_
   simp only [go_sem, simprocAttr, Dk, AV]
   and_intros <;> try exact sdA
   refine hKC11 (g1 ++ [6]) _ ?_ ?_
   ·(try dsimp only); exact ⟨by rw [FU (show (tw) = true from hb11)], by simp⟩
   refine Le.mk _ _ ?_ ?_ rfl <;> simp only [go_sem, simprocAttr, EE, An, Aw, Ax] <;> and_intros <;> try exact leA
  refine Ah ?_
  refine hKC11 (g1) _ ?_ ?_
  ·(try dsimp only); exact ⟨by rw [FT (show (tw) = false from hb11), Br], by omega⟩
  exact leM
 rintro g2 ⟨hg2, lg2⟩
 refine Dq (α := (List Int)) (fun g3 => (g3 = g2 ++ iIf (mo) (8)) /\ (g3.length <= g2.length + 1)) (fun g3 => ⟨mkE [(5, .own 999 g3.length), (6, V.ptr 6 0)], mkH [(6, Ob.box 212 [V.str ac, V.str at', V.str an, V.int IntKind.i64 zo, V.list (List.map Shift.enc sh) false]), (999, .arr 48 1 (Ao g3))]⟩) ?_ ?_
 ·intro KC13 hKC13
  refine Ab (Z 13 rfl ?_)
  simp only [go_sem, simprocAttr, Dk, AV]
  refine Ai rfl (fun hb13 => ?_) fun hb13 => ?_
  ·refine Z 14 rfl ?_
   simp only [go_sem, simprocAttr, Dk, AV]
   and_intros <;> try exact sdA
   refine hKC13 (g2 ++ [8]) _ ?_ ?_
   ·(try dsimp only); exact ⟨by rw [FU (show (mo) = true from hb13)], by simp⟩
   refine Le.mk _ _ ?_ ?_ rfl <;> simp only [go_sem, simprocAttr, EE, An, Aw, Ax] <;> and_intros <;> try exact leA
  refine Ah ?_
  refine hKC13 (g2) _ ?_ ?_
  ·(try dsimp only); exact ⟨by rw [FT (show (mo) = false from hb13), Br], by omega⟩
  exact leM
 rintro g3 ⟨hg3, lg3⟩
 refine Ab (Z 15 rfl ?_)
 simp only [go_sem, simprocAttr, AfS, h4, Dk, AV]
 and_intros <;> try exact sdA
 refine Dq (α := (List Int)) (fun g4 => (g4 = g3 ++ iIf (!decide (DV ⟨zo, sh⟩ = 0)) (DV ⟨zo, sh⟩)) /\ (g4.length <= g3.length + 1)) (fun g4 => ⟨mkE [(5, .own 999 g4.length)], mkH [(999, .arr 48 1 (Ao g4))]⟩) ?_ ?_
 ·intro KC16 hKC16
  refine Ab (Z 16 rfl ?_)
  simp only [go_sem, simprocAttr, Dk, AV]
  refine Ai rfl (fun hb16 => ?_) fun hb16 => ?_
  ·refine Z 17 rfl ?_
   simp only [go_sem, simprocAttr, Dk, AV]
   and_intros <;> try exact sdA
   refine hKC16 (g3 ++ [DV ⟨zo, sh⟩]) _ ?_ ?_
   ·(try dsimp only); exact ⟨by rw [FU (show (!decide (DV ⟨zo, sh⟩ = 0)) = true from hb16)], by simp⟩
   refine Le.mk _ _ ?_ ?_ rfl <;> simp only [go_sem, simprocAttr, EE, An, Aw, Ax] <;> and_intros <;> try exact leA
  refine Ah ?_
  refine hKC16 (g3) _ ?_ ?_
  ·(try dsimp only); exact ⟨by rw [FT (show (!decide (DV ⟨zo, sh⟩ = 0)) = false from hb16), Br], by omega⟩
  exact leM
 rintro g4 ⟨hg4, lg4⟩
 refine Ab (Z 18 rfl ?_)
 simp only [go_sem, simprocAttr, Dk, AV]
 refine AW.le (s' := ⟨mkE [(4, .list (Ao g4) false)], mkH []⟩) (Le.mk _ _ ?_ ?_ rfl) (Ag (hQ _ _ (.inl rfl) ?_ ?_ ?_)) <;> simp only [go_sem, simprocAttr, Pg, Fc]
 ·exact DA rfl (by rw [AG]) rfl (Jf _)
 rw [CT _ _ _ hin, haa, hg4, hg3, hg2, hg1, htw, hmo, hki]; rfl
end Go.Proofs.YtjkclhbckfkeeaaGreatDoor
end
