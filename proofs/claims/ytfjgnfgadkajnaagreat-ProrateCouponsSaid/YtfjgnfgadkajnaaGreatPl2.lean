/- Airports and cities: Find, town, City, Country; usable distances. -/
import Derived.Test.YtfjgnfgadkajnaaGreatT5
namespace Go.Proofs.YtfjgnfgadkajnaaGreat
open Go Go.RowKit
set_option linter.unusedSimpArgs false
set_option linter.unusedVariables false
set_option linter.deprecated false
structure Shift where
  at' : Int
  offset : Int
def Shift.enc (x : Shift) : List V := [.int .i64 x.at', .int .i64 x.offset]
theorem Shift.inj (a b : Shift) (h : a.enc = b.enc) : a = b := by
  obtain ⟨a_at', a_offset⟩ := a
  obtain ⟨b_at', b_offset⟩ := b
  simp only [Shift.enc, List.cons.injEq, V.str.injEq, V.int.injEq, V.bool.injEq, V.agg.injEq, V.list.injEq, and_true, true_and] at h
  obtain ⟨h0, h1⟩ := h
  subst h0
  subst h1
  rfl
def Shift.ok (x : Shift) : Prop := inI x.at' ∧ inI x.offset
def Shift.zero : Shift := ⟨0, 0⟩
theorem Shift.rows (l : List Shift) : (∀ r ∈ l.map Shift.enc, r.length = 2) ↔ True := iff_true_intro fun r hr => by obtain ⟨x, _, rfl⟩ := List.mem_map.1 hr; rfl
theorem Shift.purs (l : List Shift) : (∀ r ∈ l.map Shift.enc, V.purs r = true) ↔ True := iff_true_intro fun r hr => by obtain ⟨x, _, rfl⟩ := List.mem_map.1 hr; rfl
attribute [go_sem] Shift.rows Shift.purs
structure Zone where
  offset : Int
  shifts : List Shift
def Zone.enc (x : Zone) : List V := [.int .i64 x.offset, .list (x.shifts.map Shift.enc) false]
theorem Zone.inj (a b : Zone) (h : a.enc = b.enc) : a = b := by
  obtain ⟨a_offset, a_shifts⟩ := a
  obtain ⟨b_offset, b_shifts⟩ := b
  simp only [Zone.enc, List.cons.injEq, V.str.injEq, V.int.injEq, V.bool.injEq, V.agg.injEq, V.list.injEq, and_true, true_and] at h
  obtain ⟨h0, h1⟩ := h
  subst h0
  replace h1 := map_inj' Shift.inj h1
  subst h1
  rfl
def Zone.ok (x : Zone) : Prop := inI x.offset ∧ (x.shifts.length ≤ 140737488355328 ∧ ∀ z ∈ x.shifts, z.ok)
def Zone.zero : Zone := ⟨0, []⟩
theorem Zone.rows (l : List Zone) : (∀ r ∈ l.map Zone.enc, r.length = 2) ↔ True := iff_true_intro fun r hr => by obtain ⟨x, _, rfl⟩ := List.mem_map.1 hr; rfl
theorem Zone.purs (l : List Zone) : (∀ r ∈ l.map Zone.enc, V.purs r = true) ↔ True := iff_true_intro fun r hr => by obtain ⟨x, _, rfl⟩ := List.mem_map.1 hr; rfl
attribute [go_sem] Zone.rows Zone.purs
structure Airport where
  code : List UInt8
  city : List UInt8
  country : List UInt8
  zone : Zone
def Airport.enc (x : Airport) : List V := [.str x.code, .str x.city, .str x.country, .int .i64 x.zone.offset, .list (x.zone.shifts.map Shift.enc) false]
theorem Airport.inj (a b : Airport) (h : a.enc = b.enc) : a = b := by
  obtain ⟨a_code, a_city, a_country, ⟨a_zone_offset, a_zone_shifts⟩⟩ := a
  obtain ⟨b_code, b_city, b_country, ⟨b_zone_offset, b_zone_shifts⟩⟩ := b
  simp only [Airport.enc, List.cons.injEq, V.str.injEq, V.int.injEq, V.bool.injEq, V.agg.injEq, V.list.injEq, and_true, true_and] at h
  obtain ⟨h0, h1, h2, h3, h4⟩ := h
  subst h0
  subst h1
  subst h2
  subst h3
  replace h4 := map_inj' Shift.inj h4
  subst h4
  rfl
def Airport.ok (x : Airport) : Prop := x.code.length ≤ 140737488355328 ∧ x.city.length ≤ 140737488355328 ∧ x.country.length ≤ 140737488355328 ∧ x.zone.ok
def Airport.zero : Airport := ⟨[], [], [], Zone.zero⟩
theorem Airport.rows (l : List Airport) : (∀ r ∈ l.map Airport.enc, r.length = 5) ↔ True := iff_true_intro fun r hr => by obtain ⟨x, _, rfl⟩ := List.mem_map.1 hr; rfl
theorem Airport.purs (l : List Airport) : (∀ r ∈ l.map Airport.enc, V.purs r = true) ↔ True := iff_true_intro fun r hr => by obtain ⟨x, _, rfl⟩ := List.mem_map.1 hr; rfl
attribute [go_sem] Airport.rows Airport.purs
structure Distance where
  from' : List UInt8
  to' : List UInt8
  miles : Int
def Distance.enc (x : Distance) : List V := [.str x.from', .str x.to', .int .i64 x.miles]
theorem Distance.inj (a b : Distance) (h : a.enc = b.enc) : a = b := by
  obtain ⟨a_from', a_to', a_miles⟩ := a
  obtain ⟨b_from', b_to', b_miles⟩ := b
  simp only [Distance.enc, List.cons.injEq, V.str.injEq, V.int.injEq, V.bool.injEq, V.agg.injEq, V.list.injEq, and_true, true_and] at h
  obtain ⟨h0, h1, h2⟩ := h
  subst h0
  subst h1
  subst h2
  rfl
def Distance.ok (x : Distance) : Prop := x.from'.length ≤ 140737488355328 ∧ x.to'.length ≤ 140737488355328 ∧ inI x.miles
def Distance.zero : Distance := ⟨[], [], 0⟩
theorem Distance.rows (l : List Distance) : (∀ r ∈ l.map Distance.enc, r.length = 3) ↔ True := iff_true_intro fun r hr => by obtain ⟨x, _, rfl⟩ := List.mem_map.1 hr; rfl
theorem Distance.purs (l : List Distance) : (∀ r ∈ l.map Distance.enc, V.purs r = true) ↔ True := iff_true_intro fun r hr => by obtain ⟨x, _, rfl⟩ := List.mem_map.1 hr; rfl
attribute [go_sem] Distance.rows Distance.purs
structure Places where
  airports : List Airport
  distances : List Distance
def Places.enc (x : Places) : List V := [.list (x.airports.map Airport.enc) false, .list (x.distances.map Distance.enc) false]
theorem Places.inj (a b : Places) (h : a.enc = b.enc) : a = b := by
  obtain ⟨a_airports, a_distances⟩ := a
  obtain ⟨b_airports, b_distances⟩ := b
  simp only [Places.enc, List.cons.injEq, V.str.injEq, V.int.injEq, V.bool.injEq, V.agg.injEq, V.list.injEq, and_true, true_and] at h
  obtain ⟨h0, h1⟩ := h
  replace h0 := map_inj' Airport.inj h0
  subst h0
  replace h1 := map_inj' Distance.inj h1
  subst h1
  rfl
def Places.ok (x : Places) : Prop := (x.airports.length ≤ 140737488355328 ∧ ∀ z ∈ x.airports, z.ok) ∧ (x.distances.length ≤ 140737488355328 ∧ ∀ z ∈ x.distances, z.ok)
def Places.zero : Places := ⟨[], []⟩
theorem Places.rows (l : List Places) : (∀ r ∈ l.map Places.enc, r.length = 2) ↔ True := iff_true_intro fun r hr => by obtain ⟨x, _, rfl⟩ := List.mem_map.1 hr; rfl
theorem Places.purs (l : List Places) : (∀ r ∈ l.map Places.enc, V.purs r = true) ↔ True := iff_true_intro fun r hr => by obtain ⟨x, _, rfl⟩ := List.mem_map.1 hr; rfl
attribute [go_sem] Places.rows Places.purs
def findBy (p : Airport → Bool) (l : List Airport) : Option Airport := l.find? p
theorem findBy_at {p : Airport → Bool} {l : List Airport} {i : Nat} (hi : i < l.length) (hp : ∀ c ∈ l.take i, p c = false) (h : p l[i] = true) : findBy p l = some l[i] := by
  have e1 : findBy p l = (l.take i ++ l.drop i).find? p := by rw [List.take_append_drop]; rfl
  rw [e1, List.find?_append, List.find?_eq_none.2 (fun c hc => by rw [hp c hc]; decide), Option.none_or, List.drop_eq_getElem_cons hi, List.find?_cons_of_pos h]
theorem findBy_no {p : Airport → Bool} {l : List Airport} {i : Nat} (hi : l.length ≤ i) (hp : ∀ c ∈ l.take i, p c = false) : findBy p l = none := by
  rw [List.take_of_length_le hi] at hp
  exact List.find?_eq_none.2 fun c hc => by rw [hp c hc]; decide
def byCode (c : List UInt8) (a : Airport) : Bool := decide (a.code = c)
def byCity (c : List UInt8) (a : Airport) : Bool := decide (a.city = c)
def aPs (x : Places × List UInt8) : List V := [.agg x.1.enc, .str x.2]
theorem aPs_inj (a b : Places × List UInt8) (h : aPs a = aPs b) : a = b := by
  obtain ⟨a_p, a_c⟩ := a
  obtain ⟨b_p, b_c⟩ := b
  simp only [aPs, List.cons.injEq, V.str.injEq, V.int.injEq, V.bool.injEq, V.agg.injEq, V.list.injEq, and_true, true_and] at h
  obtain ⟨h0, h1⟩ := h
  replace h0 := Places.inj _ _ h0
  subst h0
  subst h1
  rfl
def LenP (p : Places) : Prop := p.airports.length ≤ 140737488355328 ∧ p.distances.length ≤ 140737488355328
def airV (o : Option Airport) : V := .tup [.agg (o.getD Airport.zero).enc, .bool o.isSome]
def fFind (x : Places × List UInt8) : Prop × V := (LenP x.1, airV (findBy (byCode x.2) x.1.airports))
def fTown (x : Places × List UInt8) : Prop × V := (LenP x.1, airV (findBy (byCity x.2) x.1.airports))
theorem fFind_eq (ps : List Airport) (ds : List Distance) (c : List UInt8) : gOf aPs fFind [.agg [.list (ps.map Airport.enc) false, .list (ds.map Distance.enc) false], .str c] = (LenP ⟨ps, ds⟩, airV (findBy (byCode c) ps)) := gOf_eq aPs_inj (⟨ps, ds⟩, c)
theorem fTown_eq (ps : List Airport) (ds : List Distance) (c : List UInt8) : gOf aPs fTown [.agg [.list (ps.map Airport.enc) false, .list (ds.map Distance.enc) false], .str c] = (LenP ⟨ps, ds⟩, airV (findBy (byCity c) ps)) := gOf_eq aPs_inj (⟨ps, ds⟩, c)
set_option maxHeartbeats 1000000 in
theorem find_p : PureC Tryz.prog UT 56 (gOf aPs fFind) := by
  have hG := tNo_ok
  refine PureC.ofArgs aPs_inj Tryz.func56 body56 nm56 res56 ?_
  rintro ⟨⟨ps, ds⟩, c⟩ hv
  refine ⟨by rw [nt56]; simp [aPs], fun C hN Q hQ => ?_⟩
  rw [nt56] at hN
  unfold c56
  obtain ⟨hl, -⟩ : LenP ⟨ps, ds⟩ := hv
  dsimp only at hl
  refine aw_seq (aw_region (EF := EF0) hG (by rw [hN]; exact tr56_0) ?_)
  simp only [a56_0, go_sem, simprocAttr, aPs, Places.enc]
  refine aw_seq ?_
  refine aw_seq (aw_region (EF := EF0) hG (by rw [hN]; exact tr56_1) ?_)
  simp only [a56_1, go_sem, simprocAttr]
  refine aw_block ?_
  refine aw_loop (α := Nat) (fun i => (i ≤ ps.length) ∧ (∀ a ∈ ps.take i, byCode c a = false)) (fun i => ⟨mkE [(1, V.str c), (4, V.ptr 4 0), (9, V.list (List.map Airport.enc ps) false), (10, V.int IntKind.i64 ↑ps.length), (11, .int .i64 i)], mkH [(4, Ob.box 46 [V.str [], V.str [], V.str [], V.int IntKind.i64 0, V.nils])]⟩) (fun i => ps.length - i) 0 (by simp) ?_ ?_
  · refine Le.mk _ _ ?_ ?_ rfl <;> simp only [go_sem, simprocAttr] <;> (repeat' apply And.intro) <;> (try first | rfl | exact wk_frzb rfl rfl rfl | exact wk_fn rfl | exact .nilo _ _ _ rfl rfl)
  · rintro i ⟨hi, hp⟩ KL0 hKL0
    try dsimp only at *
    refine aw_seq (aw_region (EF := EF0) hG (by rw [hN]; exact tr56_2) ?_)
    simp only [a56_2, go_sem, simprocAttr]
    refine aw_seq ?_
    refine aw_cond (b := _) rfl (fun hc2 => ?_) (fun hc2 => ?_)
    · simp only [hcL] at hc2
      refine aw_skip ?_
      try simp only [go_sem, simprocAttr]
      refine aw_seq ?_
      refine aw_block ?_
      refine aw_seq (aw_region (EF := EF0) hG (by rw [hN]; exact tr56_3) ?_)
      simp only [a56_3, go_sem, simprocAttr, getD_mapd _ _ _ _ hc2, hc2, Airport.enc]
      (repeat' apply And.intro) <;> (try first | omega | ((fail_if_success refine idW ?_); (fail_if_success refine idS ?_); intros; (repeat' apply And.intro) <;> first | assumption | omega | (simp_all; done)))
      refine aw_seq (aw_region (EF := EF0) hG (by rw [hN]; exact tr56_4) ?_)
      simp only [a56_4, go_sem, simprocAttr]
      refine aw_cond (b := _) rfl (fun hb => ?_) (fun hb => ?_)
      · skip
        refine aw_seq (aw_region (EF := EF0) hG (by rw [hN]; exact tr56_5) ?_)
        simp only [a56_5, go_sem, simprocAttr]
        refine aw_ret ?_
        show Q _ _
        refine hQ _ _ (.inl rfl) ?_ ?_ ?_ <;> simp only [outφ, outV, AR.res, go_sem, simprocAttr, fFind, airV]
        rw [findBy_at hc2 hp hb]; rfl
      · skip
        refine aw_skip ?_
        try simp only [go_sem, simprocAttr]
        refine aw_region (EF := EF0) hG (by rw [hN]; exact tr56_6) ?_
        simp only [a56_6, go_sem, simprocAttr, inI]
        (repeat' apply And.intro) <;> (try first | omega | ((fail_if_success refine idW ?_); (fail_if_success refine idS ?_); intros; (repeat' apply And.intro) <;> first | assumption | omega | (simp_all; done)))
        refine hKL0 (i + 1) _ ?_ ?_ ?_
        · (try dsimp only); exact ⟨hc2, take_all hc2 hp hb⟩
        · (try dsimp only); omega
        · refine Le.mk _ _ ?_ ?_ rfl <;> simp only [go_sem, simprocAttr] <;> (repeat' apply And.intro) <;> (try first | rfl | exact wk_frzb rfl rfl rfl | exact wk_fn rfl | exact .nilo _ _ _ rfl rfl)
    · simp only [hcL] at hc2
      refine aw_exit ?_
      simp only [go_sem, simprocAttr]
      refine aw_seq (aw_region (EF := EF0) hG (by rw [hN]; exact tr56_7) ?_)
      simp only [a56_7, go_sem, simprocAttr]
      refine AW.le (s' := ⟨mkE [(4, .ptr 4 0), (5, .bool false)], mkH [(4, .box 46 Airport.zero.enc)]⟩) (Le.mk _ _ ?_ ?_ rfl) (aw_ret (hQ _ _ (.inl rfl) ?_ ?_ ?_)) <;> simp only [outφ, outV, AR.res, go_sem, simprocAttr, fFind, airV, findBy_no hc2 hp, Airport.zero, Zone.zero, Airport.enc, Option.getD_none, Option.isSome_none, List.map_nil]
set_option maxHeartbeats 1000000 in
theorem town_p : PureC Tryz.prog UT 57 (gOf aPs fTown) := by
  have hG := tNo_ok
  refine PureC.ofArgs aPs_inj Tryz.func57 body57 nm57 res57 ?_
  rintro ⟨⟨ps, ds⟩, c⟩ hv
  refine ⟨by rw [nt57]; simp [aPs], fun C hN Q hQ => ?_⟩
  rw [nt57] at hN
  unfold c57
  obtain ⟨hl, -⟩ : LenP ⟨ps, ds⟩ := hv
  dsimp only at hl
  refine aw_seq (aw_region (EF := EF0) hG (by rw [hN]; exact tr57_0) ?_)
  simp only [a57_0, go_sem, simprocAttr, aPs, Places.enc]
  refine aw_seq ?_
  refine aw_seq (aw_region (EF := EF0) hG (by rw [hN]; exact tr57_1) ?_)
  simp only [a57_1, go_sem, simprocAttr]
  refine aw_block ?_
  refine aw_loop (α := Nat) (fun i => (i ≤ ps.length) ∧ (∀ a ∈ ps.take i, byCity c a = false)) (fun i => ⟨mkE [(1, V.str c), (4, V.ptr 4 0), (9, V.list (List.map Airport.enc ps) false), (10, V.int IntKind.i64 ↑ps.length), (11, .int .i64 i)], mkH [(4, Ob.box 46 [V.str [], V.str [], V.str [], V.int IntKind.i64 0, V.nils])]⟩) (fun i => ps.length - i) 0 (by simp) ?_ ?_
  · refine Le.mk _ _ ?_ ?_ rfl <;> simp only [go_sem, simprocAttr] <;> (repeat' apply And.intro) <;> (try first | rfl | exact wk_frzb rfl rfl rfl | exact wk_fn rfl | exact .nilo _ _ _ rfl rfl)
  · rintro i ⟨hi, hp⟩ KL0 hKL0
    try dsimp only at *
    refine aw_seq (aw_region (EF := EF0) hG (by rw [hN]; exact tr57_2) ?_)
    simp only [a57_2, go_sem, simprocAttr]
    refine aw_seq ?_
    refine aw_cond (b := _) rfl (fun hc2 => ?_) (fun hc2 => ?_)
    · simp only [hcL] at hc2
      refine aw_skip ?_
      try simp only [go_sem, simprocAttr]
      refine aw_seq ?_
      refine aw_block ?_
      refine aw_seq (aw_region (EF := EF0) hG (by rw [hN]; exact tr57_3) ?_)
      simp only [a57_3, go_sem, simprocAttr, getD_mapd _ _ _ _ hc2, hc2, Airport.enc]
      (repeat' apply And.intro) <;> (try first | omega | ((fail_if_success refine idW ?_); (fail_if_success refine idS ?_); intros; (repeat' apply And.intro) <;> first | assumption | omega | (simp_all; done)))
      refine aw_seq (aw_region (EF := EF0) hG (by rw [hN]; exact tr57_4) ?_)
      simp only [a57_4, go_sem, simprocAttr]
      refine aw_cond (b := _) rfl (fun hb => ?_) (fun hb => ?_)
      · skip
        refine aw_seq (aw_region (EF := EF0) hG (by rw [hN]; exact tr57_5) ?_)
        simp only [a57_5, go_sem, simprocAttr]
        refine aw_ret ?_
        show Q _ _
        refine hQ _ _ (.inl rfl) ?_ ?_ ?_ <;> simp only [outφ, outV, AR.res, go_sem, simprocAttr, fTown, airV]
        rw [findBy_at hc2 hp hb]; rfl
      · skip
        refine aw_skip ?_
        try simp only [go_sem, simprocAttr]
        refine aw_region (EF := EF0) hG (by rw [hN]; exact tr57_6) ?_
        simp only [a57_6, go_sem, simprocAttr, inI]
        (repeat' apply And.intro) <;> (try first | omega | ((fail_if_success refine idW ?_); (fail_if_success refine idS ?_); intros; (repeat' apply And.intro) <;> first | assumption | omega | (simp_all; done)))
        refine hKL0 (i + 1) _ ?_ ?_ ?_
        · (try dsimp only); exact ⟨hc2, take_all hc2 hp hb⟩
        · (try dsimp only); omega
        · refine Le.mk _ _ ?_ ?_ rfl <;> simp only [go_sem, simprocAttr] <;> (repeat' apply And.intro) <;> (try first | rfl | exact wk_frzb rfl rfl rfl | exact wk_fn rfl | exact .nilo _ _ _ rfl rfl)
    · simp only [hcL] at hc2
      refine aw_exit ?_
      simp only [go_sem, simprocAttr]
      refine aw_seq (aw_region (EF := EF0) hG (by rw [hN]; exact tr57_7) ?_)
      simp only [a57_7, go_sem, simprocAttr]
      refine AW.le (s' := ⟨mkE [(4, .ptr 4 0), (5, .bool false)], mkH [(4, .box 46 Airport.zero.enc)]⟩) (Le.mk _ _ ?_ ?_ rfl) (aw_ret (hQ _ _ (.inl rfl) ?_ ?_ ?_)) <;> simp only [outφ, outV, AR.res, go_sem, simprocAttr, fTown, airV, findBy_no hc2 hp, Airport.zero, Zone.zero, Airport.enc, Option.getD_none, Option.isSome_none, List.map_nil]
set_option maxHeartbeats 1000000 in
theorem rfind_p : PureC Tryz.prog UT 58 (gOf aPs fFind) := by
  have hG := tNo_ok
  refine PureC.ofArgs aPs_inj Tryz.func58 body58 nm58 res58 ?_
  rintro ⟨⟨ps, ds⟩, c⟩ hv
  refine ⟨by rw [nt58]; simp [aPs], fun C hN Q hQ => ?_⟩
  rw [nt58] at hN
  unfold c58
  obtain ⟨hl, -⟩ : LenP ⟨ps, ds⟩ := hv
  dsimp only at hl
  refine aw_seq (aw_region (EF := EF0) hG (by rw [hN]; exact tr58_0) ?_)
  simp only [a58_0, go_sem, simprocAttr, aPs, Places.enc]
  refine aw_seq ?_
  refine aw_seq (aw_region (EF := EF0) hG (by rw [hN]; exact tr58_1) ?_)
  simp only [a58_1, go_sem, simprocAttr]
  refine aw_block ?_
  refine aw_loop (α := Nat) (fun i => (i ≤ ps.length) ∧ (∀ a ∈ ps.take i, byCode c a = false)) (fun i => ⟨mkE [(1, V.str c), (2, V.ptr 2 0), (4, V.ptr 4 0), (6, .int .i64 i)], mkH [(2, Ob.box 25 [V.list (List.map Airport.enc ps) false, V.list (List.map Distance.enc ds) false]), (4, Ob.box 46 [V.str [], V.str [], V.str [], V.int IntKind.i64 0, V.nils])]⟩) (fun i => ps.length - i) 0 (by simp) ?_ ?_
  · refine Le.mk _ _ ?_ ?_ rfl <;> simp only [go_sem, simprocAttr] <;> (repeat' apply And.intro) <;> (try first | rfl | exact wk_frzb rfl rfl rfl | exact wk_fn rfl | exact .nilo _ _ _ rfl rfl)
  · rintro i ⟨hi, hp⟩ KL0 hKL0
    try dsimp only at *
    refine aw_seq ?_
    refine aw_seq (aw_region (EF := EF0) hG (by rw [hN]; exact tr58_2) ?_)
    simp only [a58_2, go_sem, simprocAttr]
    refine aw_cond (b := _) rfl (fun hc2 => ?_) (fun hc2 => ?_)
    · simp only [hcL] at hc2
      refine aw_skip ?_
      try simp only [go_sem, simprocAttr]
      refine aw_seq ?_
      refine aw_block ?_
      refine aw_seq (aw_region (EF := EF0) hG (by rw [hN]; exact tr58_4) ?_)
      simp only [a58_4, go_sem, simprocAttr, getD_mapd _ _ _ _ hc2, hc2, Airport.enc]
      (repeat' apply And.intro) <;> (try first | omega | ((fail_if_success refine idW ?_); (fail_if_success refine idS ?_); intros; (repeat' apply And.intro) <;> first | assumption | omega | (simp_all; done)))
      refine aw_cond (b := _) rfl (fun hb => ?_) (fun hb => ?_)
      · skip
        refine aw_seq (aw_region (EF := EF0) hG (by rw [hN]; exact tr58_5) ?_)
        simp only [a58_5, go_sem, simprocAttr, getD_mapd _ _ _ _ hc2, hc2, Airport.enc]
        (repeat' apply And.intro) <;> (try first | omega | ((fail_if_success refine idW ?_); (fail_if_success refine idS ?_); intros; (repeat' apply And.intro) <;> first | assumption | omega | (simp_all; done)))
        refine aw_ret ?_
        show Q _ _
        refine hQ _ _ (.inl rfl) ?_ ?_ ?_ <;> simp only [outφ, outV, AR.res, go_sem, simprocAttr, fFind, airV]
        rw [findBy_at hc2 hp hb]; rfl
      · skip
        refine aw_skip ?_
        try simp only [go_sem, simprocAttr]
        refine aw_region (EF := EF0) hG (by rw [hN]; exact tr58_3) ?_
        simp only [a58_3, go_sem, simprocAttr, inI]
        (repeat' apply And.intro) <;> (try first | omega | ((fail_if_success refine idW ?_); (fail_if_success refine idS ?_); intros; (repeat' apply And.intro) <;> first | assumption | omega | (simp_all; done)))
        refine hKL0 (i + 1) _ ?_ ?_ ?_
        · (try dsimp only); exact ⟨hc2, take_all hc2 hp hb⟩
        · (try dsimp only); omega
        · refine Le.mk _ _ ?_ ?_ rfl <;> simp only [go_sem, simprocAttr] <;> (repeat' apply And.intro) <;> (try first | rfl | exact wk_frzb rfl rfl rfl | exact wk_fn rfl | exact .nilo _ _ _ rfl rfl)
    · simp only [hcL] at hc2
      refine aw_exit ?_
      simp only [go_sem, simprocAttr]
      refine aw_seq (aw_region (EF := EF0) hG (by rw [hN]; exact tr58_6) ?_)
      simp only [a58_6, go_sem, simprocAttr]
      refine AW.le (s' := ⟨mkE [(4, .ptr 4 0), (5, .bool false)], mkH [(4, .box 46 Airport.zero.enc)]⟩) (Le.mk _ _ ?_ ?_ rfl) (aw_ret (hQ _ _ (.inl rfl) ?_ ?_ ?_)) <;> simp only [outφ, outV, AR.res, go_sem, simprocAttr, fFind, airV, findBy_no hc2 hp, Airport.zero, Zone.zero, Airport.enc, Option.getD_none, Option.isSome_none, List.map_nil]
set_option maxHeartbeats 1000000 in
theorem rtown_p : PureC Tryz.prog UT 46 (gOf aPs fTown) := by
  have hG := tNo_ok
  refine PureC.ofArgs aPs_inj Tryz.func46 body46 nm46 res46 ?_
  rintro ⟨⟨ps, ds⟩, c⟩ hv
  refine ⟨by rw [nt46]; simp [aPs], fun C hN Q hQ => ?_⟩
  rw [nt46] at hN
  unfold c46
  obtain ⟨hl, -⟩ : LenP ⟨ps, ds⟩ := hv
  dsimp only at hl
  refine aw_seq (aw_region (EF := EF0) hG (by rw [hN]; exact tr46_0) ?_)
  simp only [a46_0, go_sem, simprocAttr, aPs, Places.enc]
  refine aw_seq ?_
  refine aw_seq (aw_region (EF := EF0) hG (by rw [hN]; exact tr46_1) ?_)
  simp only [a46_1, go_sem, simprocAttr]
  refine aw_block ?_
  refine aw_loop (α := Nat) (fun i => (i ≤ ps.length) ∧ (∀ a ∈ ps.take i, byCity c a = false)) (fun i => ⟨mkE [(1, V.str c), (2, V.ptr 2 0), (4, V.ptr 4 0), (6, .int .i64 i)], mkH [(2, Ob.box 25 [V.list (List.map Airport.enc ps) false, V.list (List.map Distance.enc ds) false]), (4, Ob.box 46 [V.str [], V.str [], V.str [], V.int IntKind.i64 0, V.nils])]⟩) (fun i => ps.length - i) 0 (by simp) ?_ ?_
  · refine Le.mk _ _ ?_ ?_ rfl <;> simp only [go_sem, simprocAttr] <;> (repeat' apply And.intro) <;> (try first | rfl | exact wk_frzb rfl rfl rfl | exact wk_fn rfl | exact .nilo _ _ _ rfl rfl)
  · rintro i ⟨hi, hp⟩ KL0 hKL0
    try dsimp only at *
    refine aw_seq ?_
    refine aw_seq (aw_region (EF := EF0) hG (by rw [hN]; exact tr46_2) ?_)
    simp only [a46_2, go_sem, simprocAttr]
    refine aw_cond (b := _) rfl (fun hc2 => ?_) (fun hc2 => ?_)
    · simp only [hcL] at hc2
      refine aw_skip ?_
      try simp only [go_sem, simprocAttr]
      refine aw_seq ?_
      refine aw_block ?_
      refine aw_seq (aw_region (EF := EF0) hG (by rw [hN]; exact tr46_4) ?_)
      simp only [a46_4, go_sem, simprocAttr, getD_mapd _ _ _ _ hc2, hc2, Airport.enc]
      (repeat' apply And.intro) <;> (try first | omega | ((fail_if_success refine idW ?_); (fail_if_success refine idS ?_); intros; (repeat' apply And.intro) <;> first | assumption | omega | (simp_all; done)))
      refine aw_cond (b := _) rfl (fun hb => ?_) (fun hb => ?_)
      · skip
        refine aw_seq (aw_region (EF := EF0) hG (by rw [hN]; exact tr46_5) ?_)
        simp only [a46_5, go_sem, simprocAttr, getD_mapd _ _ _ _ hc2, hc2, Airport.enc]
        (repeat' apply And.intro) <;> (try first | omega | ((fail_if_success refine idW ?_); (fail_if_success refine idS ?_); intros; (repeat' apply And.intro) <;> first | assumption | omega | (simp_all; done)))
        refine aw_ret ?_
        show Q _ _
        refine hQ _ _ (.inl rfl) ?_ ?_ ?_ <;> simp only [outφ, outV, AR.res, go_sem, simprocAttr, fTown, airV]
        rw [findBy_at hc2 hp hb]; rfl
      · skip
        refine aw_skip ?_
        try simp only [go_sem, simprocAttr]
        refine aw_region (EF := EF0) hG (by rw [hN]; exact tr46_3) ?_
        simp only [a46_3, go_sem, simprocAttr, inI]
        (repeat' apply And.intro) <;> (try first | omega | ((fail_if_success refine idW ?_); (fail_if_success refine idS ?_); intros; (repeat' apply And.intro) <;> first | assumption | omega | (simp_all; done)))
        refine hKL0 (i + 1) _ ?_ ?_ ?_
        · (try dsimp only); exact ⟨hc2, take_all hc2 hp hb⟩
        · (try dsimp only); omega
        · refine Le.mk _ _ ?_ ?_ rfl <;> simp only [go_sem, simprocAttr] <;> (repeat' apply And.intro) <;> (try first | rfl | exact wk_frzb rfl rfl rfl | exact wk_fn rfl | exact .nilo _ _ _ rfl rfl)
    · simp only [hcL] at hc2
      refine aw_exit ?_
      simp only [go_sem, simprocAttr]
      refine aw_seq (aw_region (EF := EF0) hG (by rw [hN]; exact tr46_6) ?_)
      simp only [a46_6, go_sem, simprocAttr]
      refine AW.le (s' := ⟨mkE [(4, .ptr 4 0), (5, .bool false)], mkH [(4, .box 46 Airport.zero.enc)]⟩) (Le.mk _ _ ?_ ?_ rfl) (aw_ret (hQ _ _ (.inl rfl) ?_ ?_ ?_)) <;> simp only [outφ, outV, AR.res, go_sem, simprocAttr, fTown, airV, findBy_no hc2 hp, Airport.zero, Zone.zero, Airport.enc, Option.getD_none, Option.isSome_none, List.map_nil]
end Go.Proofs.YtfjgnfgadkajnaaGreat
/- City, Country; texts. -/
namespace Go.Proofs.YtfjgnfgadkajnaaGreat
open Go Go.RowKit
set_option linter.unusedSimpArgs false
set_option linter.unusedVariables false
set_option linter.deprecated false
def cityOf (ps : List Airport) (c : List UInt8) : List UInt8 := match findBy (byCode c) ps with
  | some a => a.city
  | none => if (findBy (byCity c) ps).isSome then c else []
theorem city_some {ps : List Airport} {c : List UInt8} {a : Airport} (h : findBy (byCode c) ps = some a) : cityOf ps c = a.city := by unfold cityOf; rw [h]
theorem city_none {ps : List Airport} {c : List UInt8} (h : findBy (byCode c) ps = none) : cityOf ps c = if (findBy (byCity c) ps).isSome then c else [] := by unfold cityOf; rw [h]
theorem isSome_no {α : Type} {o : Option α} (h : o.isSome = false) : o = none := by cases o <;> first | rfl | cases h
def fCity (x : Places × List UInt8) : Prop × V := (LenP x.1, .str (cityOf x.1.airports x.2))
noncomputable def tC : Tab
  | 56 => (gOf aPs fFind)
  | 57 => (gOf aPs fTown)
  | _ => gNo
theorem tC_ok : ∀ f, PureC Tryz.prog UT f (tC f) := fun f => by
  unfold tC
  split
  · exact find_p
  · exact town_p
  · exact PureC.no
noncomputable def trC : Tab
  | 58 => (gOf aPs fFind)
  | 46 => (gOf aPs fTown)
  | _ => gNo
theorem trC_ok : ∀ f, PureC Tryz.prog UT f (trC f) := fun f => by
  unfold trC
  split
  · exact rfind_p
  · exact rtown_p
  · exact PureC.no
set_option maxHeartbeats 1000000 in
theorem city_p : PureC Tryz.prog UT 35 (gOf aPs fCity) := by
  have hG := tC_ok
  refine PureC.ofArgs aPs_inj Tryz.func35 body35 nm35 res35 ?_
  rintro ⟨⟨ps, ds⟩, c⟩ hv
  refine ⟨by rw [nt35]; simp [aPs], fun C hN Q hQ => ?_⟩
  rw [nt35] at hN
  unfold c35
  replace hv : LenP ⟨ps, ds⟩ := hv
  refine aw_seq (aw_region (EF := EF0) hG (by rw [hN]; exact tr35_0) ?_)
  simp only [a35_0, go_sem, simprocAttr, aPs, Places.enc, tC]
  refine aw_seq ?_
  refine aw_seq (aw_region (EF := EF0) hG (by rw [hN]; exact tr35_1) ?_)
  simp only [a35_1, go_sem, simprocAttr, fFind_eq, hv, airV, Airport.enc, tC]
  (repeat' apply And.intro) <;> (try first | omega | ((fail_if_success refine idW ?_); (fail_if_success refine idS ?_); intros; (repeat' apply And.intro) <;> first | assumption | omega | (simp_all; done)))
  refine aw_seq (aw_region (EF := EF0) hG (by rw [hN]; exact tr35_2) ?_)
  simp only [a35_2, go_sem, simprocAttr, tC]
  refine aw_cond (b := _) rfl (fun hb2 => ?_) (fun hb2 => ?_)
  · skip
    obtain ⟨a, hs⟩ := Option.isSome_iff_exists.1 hb2
    refine aw_seq (aw_region (EF := EF0) hG (by rw [hN]; exact tr35_3) ?_)
    simp only [a35_3, go_sem, simprocAttr, hs, Option.getD_some, tC]
    refine aw_ret ?_
    show Q _ _
    refine hQ _ _ (.inl rfl) ?_ ?_ ?_ <;> simp only [outφ, outV, AR.res, go_sem, simprocAttr, fCity]
    rw [city_some hs]
  · skip
    have hs := isSome_no hb2
    refine aw_skip ?_
    try simp only [go_sem, simprocAttr]
    refine aw_seq ?_
    refine aw_seq (aw_region (EF := EF0) hG (by rw [hN]; exact tr35_4) ?_)
    simp only [a35_4, go_sem, simprocAttr, fTown_eq, hv, airV, Airport.enc, tC]
    (repeat' apply And.intro) <;> (try first | omega | ((fail_if_success refine idW ?_); (fail_if_success refine idS ?_); intros; (repeat' apply And.intro) <;> first | assumption | omega | (simp_all; done)))
    refine aw_seq (aw_region (EF := EF0) hG (by rw [hN]; exact tr35_5) ?_)
    simp only [a35_5, go_sem, simprocAttr, tC]
    refine aw_cond (b := _) rfl (fun hb5 => ?_) (fun hb5 => ?_)
    · skip
      refine aw_seq (aw_region (EF := EF0) hG (by rw [hN]; exact tr35_6) ?_)
      simp only [a35_6, go_sem, simprocAttr, tC]
      refine aw_ret ?_
      show Q _ _
      refine hQ _ _ (.inl rfl) ?_ ?_ ?_ <;> simp only [outφ, outV, AR.res, go_sem, simprocAttr, fCity]
      rw [city_none hs, if_pos hb5]
    · skip
      refine aw_skip ?_
      try simp only [go_sem, simprocAttr]
      refine aw_seq (aw_region (EF := EF0) hG (by rw [hN]; exact tr35_7) ?_)
      simp only [a35_7, go_sem, simprocAttr, tC]
      refine aw_ret ?_
      show Q _ _
      refine hQ _ _ (.inl rfl) ?_ ?_ ?_ <;> simp only [outφ, outV, AR.res, go_sem, simprocAttr, fCity]
      rw [city_none hs, if_neg (by rw [hb5]; decide)]
set_option maxHeartbeats 1000000 in
theorem rcity_p : PureC Tryz.prog UT 38 (gOf aPs fCity) := by
  have hG := trC_ok
  refine PureC.ofArgs aPs_inj Tryz.func38 body38 nm38 res38 ?_
  rintro ⟨⟨ps, ds⟩, c⟩ hv
  refine ⟨by rw [nt38]; simp [aPs], fun C hN Q hQ => ?_⟩
  rw [nt38] at hN
  unfold c38
  replace hv : LenP ⟨ps, ds⟩ := hv
  refine aw_seq (aw_region (EF := EF0) hG (by rw [hN]; exact tr38_0) ?_)
  simp only [a38_0, go_sem, simprocAttr, aPs, Places.enc, trC]
  refine aw_seq (aw_region (EF := EF0) hG (by rw [hN]; exact tr38_1) ?_)
  simp only [a38_1, go_sem, simprocAttr, fFind_eq, hv, airV, Airport.enc, trC]
  (repeat' apply And.intro) <;> (try first | omega | ((fail_if_success refine idW ?_); (fail_if_success refine idS ?_); intros; (repeat' apply And.intro) <;> first | assumption | omega | (simp_all; done)))
  refine aw_seq ?_
  refine aw_seq (aw_region (EF := EF0) hG (by rw [hN]; exact tr38_2) ?_)
  simp only [a38_2, go_sem, simprocAttr, trC]
  refine aw_cond (b := _) rfl (fun hb2 => ?_) (fun hb2 => ?_)
  · skip
    obtain ⟨a, hs⟩ := Option.isSome_iff_exists.1 hb2
    refine aw_seq (aw_region (EF := EF0) hG (by rw [hN]; exact tr38_3) ?_)
    simp only [a38_3, go_sem, simprocAttr, hs, Option.getD_some, trC]
    refine aw_ret ?_
    show Q _ _
    refine hQ _ _ (.inl rfl) ?_ ?_ ?_ <;> simp only [outφ, outV, AR.res, go_sem, simprocAttr, fCity]
    rw [city_some hs]
  · skip
    have hs := isSome_no hb2
    refine aw_skip ?_
    try simp only [go_sem, simprocAttr]
    refine aw_seq (aw_region (EF := EF0) hG (by rw [hN]; exact tr38_4) ?_)
    simp only [a38_4, go_sem, simprocAttr, fTown_eq, hv, airV, Airport.enc, trC]
    (repeat' apply And.intro) <;> (try first | omega | ((fail_if_success refine idW ?_); (fail_if_success refine idS ?_); intros; (repeat' apply And.intro) <;> first | assumption | omega | (simp_all; done)))
    refine aw_seq ?_
    refine aw_seq (aw_region (EF := EF0) hG (by rw [hN]; exact tr38_5) ?_)
    simp only [a38_5, go_sem, simprocAttr, trC]
    refine aw_cond (b := _) rfl (fun hb5 => ?_) (fun hb5 => ?_)
    · skip
      refine aw_seq (aw_region (EF := EF0) hG (by rw [hN]; exact tr38_6) ?_)
      simp only [a38_6, go_sem, simprocAttr, trC]
      refine aw_ret ?_
      show Q _ _
      refine hQ _ _ (.inl rfl) ?_ ?_ ?_ <;> simp only [outφ, outV, AR.res, go_sem, simprocAttr, fCity]
      rw [city_none hs, if_pos hb5]
    · skip
      refine aw_skip ?_
      try simp only [go_sem, simprocAttr]
      refine aw_seq (aw_region (EF := EF0) hG (by rw [hN]; exact tr38_7) ?_)
      simp only [a38_7, go_sem, simprocAttr, trC]
      refine aw_ret ?_
      show Q _ _
      refine hQ _ _ (.inl rfl) ?_ ?_ ?_ <;> simp only [outφ, outV, AR.res, go_sem, simprocAttr, fCity]
      rw [city_none hs, if_neg (by rw [hb5]; decide)]
def aDist (x : Distance) : List V := [.agg x.enc]
theorem aDist_inj (a b : Distance) (h : aDist a = aDist b) : a = b := by
  simp only [aDist, List.cons.injEq, V.str.injEq, V.int.injEq, V.bool.injEq, V.agg.injEq, V.list.injEq, and_true, true_and] at h
  have h0 := h
  replace h0 := Distance.inj _ _ h0
  subst h0
  rfl
def usable (d : Distance) : Bool := decide (1 ≤ d.miles) && decide (d.miles ≤ 20000)
def fUsable (d : Distance) : Prop × V := (True, .bool (usable d))
theorem fUsable_eq (a b : List UInt8) (m : Int) : gOf aDist fUsable [.agg [.str a, .str b, .int .i64 m]] = (True, .bool (usable ⟨a, b, m⟩)) := gOf_eq aDist_inj (⟨a, b, m⟩ : Distance)
theorem usable_p : PureC Tryz.prog UT 37 (gOf aDist fUsable) := by
  have hG := tNo_ok
  refine PureC.ofArgs aDist_inj Tryz.func37 body37 nm37 res37 ?_
  rintro ⟨a, b, m⟩ hv
  refine ⟨by rw [nt37]; simp [aDist], fun C hN Q hQ => ?_⟩
  rw [nt37] at hN
  unfold c37
  refine aw_seq (aw_region (EF := EF0) hG (by rw [hN]; exact tr37_0) ?_)
  simp only [a37_0, go_sem, simprocAttr, aDist, Distance.enc]
  refine aw_seq (aw_region (EF := EF0) hG (by rw [hN]; exact tr37_1) ?_)
  simp only [a37_1, go_sem, simprocAttr]
  (repeat' apply And.intro) <;> (try first | omega | ((fail_if_success refine idW ?_); (fail_if_success refine idS ?_); intros; (repeat' apply And.intro) <;> first | assumption | omega | (simp_all; done)))
  refine aw_ret ?_
  show Q _ _
  refine hQ _ _ (.inl rfl) ?_ ?_ ?_ <;> simp only [outφ, outV, AR.res, go_sem, simprocAttr, fUsable, usable]
theorem rusable_p : PureC Tryz.prog UT 39 (gOf aDist fUsable) := by
  have hG := tNo_ok
  refine PureC.ofArgs aDist_inj Tryz.func39 body39 nm39 res39 ?_
  rintro ⟨a, b, m⟩ hv
  refine ⟨by rw [nt39]; simp [aDist], fun C hN Q hQ => ?_⟩
  rw [nt39] at hN
  unfold c39
  refine aw_seq (aw_region (EF := EF0) hG (by rw [hN]; exact tr39_0) ?_)
  simp only [a39_0, go_sem, simprocAttr, aDist, Distance.enc]
  refine aw_seq (aw_region (EF := EF0) hG (by rw [hN]; exact tr39_1) ?_)
  simp only [a39_1, go_sem, simprocAttr]
  (repeat' apply And.intro) <;> (try first | omega | ((fail_if_success refine idW ?_); (fail_if_success refine idS ?_); intros; (repeat' apply And.intro) <;> first | assumption | omega | (simp_all; done)))
  refine aw_ret ?_
  show Q _ _
  refine hQ _ _ (.inl rfl) ?_ ?_ ?_ <;> simp only [outφ, outV, AR.res, go_sem, simprocAttr, fUsable, usable]
end Go.Proofs.YtfjgnfgadkajnaaGreat
