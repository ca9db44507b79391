import Derived.Test.YtjkclhbckfkeeaaGreatDoorAv22
import Derived.Laws.IdiomRangeMap
import Derived.Test.YtjkclhbckfkeeaaGreatDoorPl4
import Derived.Test.YtjkclhbckfkeeaaGreatDoorIs15
import Derived.Test.YtjkclhbckfkeeaaGreatDoorTie
import Derived.Test.YtjkclhbckfkeeaaGreatDoorCards
import Derived.WalkKit
import Derived.ProofKit
import Derived.OpenShut
import Derived.Carry
import Derived.Deep.DeepHandedRow
import Derived.Lib.LaidTab
import Derived.Stop.LaidErr
set_option linter.unusedSimpArgs false
set_option linter.unusedVariables false
set_option linter.deprecated false
set_option maxHeartbeats 8000000
namespace Go.Proofs.YtjkclhbckfkeeaaGreatDoor
open Go Go.RowKit
section
variable {P : Program}
end
section
variable {P : Program} {U : Tbl} {C : Ctx U} {G : Tab}
theorem FT {ops : Array Oper} {Q' : Exit → Act → World → Prop} {EF : Nat → Bool} (hG : ∀ f, Ao P U f (G f)) {K : St → Prop} {tail : List Oper} (hK : ∀ s' a' w' M' ι', K s' → Good C s' a' w' M' ι' → wpList P ops Q' tail a' w') : ∀ (l : List Oper) (aos : List AO), l.mapM (trO P C.N ops) = some aos →
  ∀ (s : St) (a : Act) (w : World) (M : Nat → Prop) (ι : Nat → Value), Good C s a w M ι → Fc P U EF G aos s K → wpList P ops Q' (l ++ tail) a w
 | [], aos, ht, s, a, w, M, ι, hg, h => by
  simp at ht
  subst ht
  exact hK s a w M ι h hg
 | o :: l, aos, ht, s, a, w, M, ι, hg, h => by
  rw [List.mapM_cons] at ht
  cases h1 : trO P C.N ops o with
  | none => rw [h1] at ht; cases ht
  | some ao =>
   rw [h1] at ht
   cases h2 : l.mapM (trO P C.N ops) with
   | none => rw [h2] at ht; cases ht
   | some aos' =>
    rw [h2] at ht
    have e : ao :: aos' = aos := Option.some.inj ht
    subst e
    unfold Fc at h
    rw [List.cons_append]
    refine wpList_step fun K2 hK2 => ?_
    split at h
    ·rename_i f us he
     exact Dk h1 hg he h fun s' a' w' M' ι' h3 hg' => hK2 _ _ (FT hG hK l aos' h2 s' a' w' M' ι' hg' h3)
    ·obtain ⟨p1, p2⟩ := h
     exact GM h1 hG hg p1 fun a' w' M' ι' hg' => hK2 _ _ (FT hG hK l aos' h2 _ a' w' M' ι' hg' p2)
end
theorem KJ {α β : Type} (f : α → Option β) : ∀ (k : Nat) {l : List α} {r : List β}, l.mapM f = some r → (l.take k).mapM f = some (r.take k)
 | 0, l, r, _ => by simp
 | k + 1, [], r, h => by simp at h; subst h; simp
 | k + 1, x :: l, r, h => by
  rw [List.mapM_cons] at h
  cases h1 : f x with
  | none => rw [h1] at h; cases h
  | some y =>
   rw [h1] at h
   cases h2 : l.mapM f with
   | none => rw [h2] at h; cases h
   | some r' =>
    rw [h2] at h
    have e : y :: r' = r := Option.some.inj h
    subst e
    rw [List.take_succ_cons, List.mapM_cons, h1, KJ f k h2]; rfl
theorem FG {α β : Type} (f : α → Option β) : ∀ (k : Nat) {l : List α} {r : List β}, l.mapM f = some r → (l.drop k).mapM f = some (r.drop k)
 | 0, l, r, h => h
 | k + 1, [], r, h => by simp at h; subst h; simp
 | k + 1, x :: l, r, h => by
  rw [List.mapM_cons] at h
  cases h1 : f x with
  | none => rw [h1] at h; cases h
  | some y =>
   rw [h1] at h
   cases h2 : l.mapM f with
   | none => rw [h2] at h; cases h
   | some r' =>
    rw [h2] at h
    have e : y :: r' = r := Option.some.inj h
    subst e
    rw [List.drop_succ_cons, List.drop_succ_cons]; exact FG f k h2
section
variable {P : Program} {U : Tbl} {C : Ctx U} {G : Tab} {ops : Array Oper} {Q : Exit → St → Prop} {s : St}
def AWL (P : Program) {U : Tbl} (C : Ctx U) (ops : Array Oper) (l : List Oper) (Q : Exit → St → Prop) (s : St) : Prop :=
 ∀ a w M ι, Good C s a w M ι → wpList P ops (fun e a' w' => ∃ s' M' ι', Q e s' ∧ Good C s' a' w' M' ι') l a w
theorem Abt {id : Nat} (h : AWL P C ops ops.toList Q s) : AW P C (.region id ops false) Q s := fun a w M ι hg => wp_region_list (h a w M ι hg)
theorem Tp (k : Nat) {l : List Oper} {aos : List AO} {EF : Nat → Bool} (hG : ∀ f, Ao P U f (G f)) (ht : l.mapM (trO P C.N ops) = some aos) (h : Fc P U EF G (aos.take k) s (fun s' => AWL P C ops (l.drop k) Q s')) : AWL P C ops l Q s := by
 intro a w M ι hg
 have := FT (Q' := fun e a' w' => ∃ s' M' ι', Q e s' ∧ Good C s' a' w' M' ι') hG (fun s' a' w' M' ι' h1 hg' => h1 a' w' M' ι' hg') (l.take k) (aos.take k) (KJ _ k ht) s a w M ι hg h
 rwa [List.take_append_drop] at this
theorem Abs {l : List Oper} {aos : List AO} {EF : Nat → Bool} (hG : ∀ f, Ao P U f (G f)) (ht : l.mapM (trO P C.N ops) = some aos) (h : Fc P U EF G aos s (Q .normal)) : AWL P C ops l Q s := fun a w M ι hg =>
 CR hG (K := Q .normal) (fun s' a' w' M' ι' h1 h2 => ⟨s', M', ι', h1, h2⟩) l aos ht s a w M ι hg h
theorem To {l : List Oper} {s' : St} (hl : Le s s') (h : AWL P C ops l Q s') : AWL P C ops l Q s := fun a w M ι hg => by
 obtain ⟨M', ι', hg'⟩ := hl U C a w M ι hg
 exact h a w M' ι' hg'
end
def AbW (a b : Person) : Bool := decide (a.last = b.last) && (decide (a.first = b.first) && decide (a.type = b.type))
def Gb (s t : Ticket) : Bool := decide (s.number = t.number) && decide (s.locator = t.locator) && AbW s.person t.person && eqL eCC s.coupons t.coupons && decide (s.fare = t.fare) && eqL eHH s.taxes t.taxes && decide (s.total = t.total) && decide (s.issued = t.issued)
theorem Ru (a : Person) : AbW a a = true := by simp [AbW]
theorem OZ (t : Ticket) : Gb t t = true := by simp [Gb, Ru, JE WF, JE WE]
def aTT (x : Ticket × Ticket) : List V := [.agg x.1.enc, .agg x.2.enc]
theorem Ty (a b : Ticket × Ticket) (h : aTT a = aTT b) : a = b := by
 obtain ⟨a_s, a_t⟩ := a
 obtain ⟨b_s, b_t⟩ := b
 simp only [aTT, List.cons.injEq, V.str.injEq, V.int.injEq, V.bool.injEq, V.agg.injEq, V.list.injEq, and_true, true_and] at h
 obtain ⟨h0, h1⟩ := h
 replace h0 := Ticket.inj _ _ h0
 subst h0
 replace h1 := Ticket.inj _ _ h1
 subst h1
 rfl
def Ys (t : Ticket) : Prop := t.coupons.length ≤ 140737488355328 ∧ t.taxes.length ≤ 140737488355328
def Aa1 (x : Ticket × Ticket) : Prop × V := (Ys x.1 ∧ Ys x.2, .bool (Gb x.1 x.2))
theorem Gn (s t : Ticket) : gOf aTT Aa1 [.agg [.int .i64 s.number, .str s.locator, .str s.person.last, .str s.person.first, .str s.person.type, .list (s.coupons.map Coupon.enc) false, .int .i64 s.fare, .list (s.taxes.map Charge.enc) false, .int .i64 s.total, .int .i64 s.issued], .agg [.int .i64 t.number, .str t.locator, .str t.person.last, .str t.person.first, .str t.person.type, .list (t.coupons.map Coupon.enc) false, .int .i64 t.fare, .list (t.taxes.map Charge.enc) false, .int .i64 t.total, .int .i64 t.issued]] = (Ys s ∧ Ys t, .bool (Gb s t)) := Ar Ty (s, t)
theorem Aac : PU 15 (gOf aTT Aa1) := by
 have hG := AC
 refine Ajm.a Ty (by simp [aTT]) ?_
 rintro ⟨s, t⟩ hv C hN Q hQ
 have Y := Ajm.D EF0 hG hN mixed
 have Z := Ajm.R EF0 hG hN
 obtain ⟨⟨h1, h2⟩, h3, h4⟩ : Ys s ∧ Ys t := hv
 refine Aa (Z 0 rfl ?_)
 simp only [go_sem, simprocAttr, aTT, Ticket.enc]
 refine Aa ?_
 obtain ⟨H, hH⟩ : ∃ H : List (Nat × Ob), H = [(2, .box 47 (Ay s)), (3, .box 47 (Ay t))] := ⟨_, rfl⟩
 refine Aa (Abt (To (s' := ⟨mkE [(2, .ptr 2 0), (3, .ptr 3 0)], mkH H⟩) ?_ ?_))
 ·subst hH
  refine Le.mk _ _ ?_ ?_ rfl <;> simp only [go_sem, simprocAttr, Ay] <;> and_intros <;> try exact leA
 refine Tp 20 (EF := EF0) hG (by rw [hN]; exact Qg) ?_
 subst hH
 simp only [Xe, Ay, go_sem, simprocAttr, h1, h2, h3, h4, List.length_map, List.take_succ_cons, List.take_zero, List.drop_succ_cons, List.drop_zero]
 obtain ⟨b1, hb1⟩ : ∃ b : Bool, b = (!decide (s.number = t.number) || !decide (s.locator = t.locator) || !AbW s.person t.person) := ⟨_, rfl⟩
 obtain ⟨H, hH⟩ : ∃ H : List (Nat × Ob), H = [(2, .box 47 (Ay s)), (3, .box 47 (Ay t))] := ⟨_, rfl⟩
 refine To (s' := ⟨mkE [(2, .ptr 2 0), (3, .ptr 3 0), (26, .bool b1)], mkH H⟩) ?_ ?_
 ·subst hH hb1
  refine Le.mk _ _ ?_ ?_ rfl <;> simp only [go_sem, simprocAttr, Ay, AbW] <;> and_intros <;> try exact leA
 refine Tp 21 (EF := EF0) hG (by rw [hN]; exact FG _ 20 (Qg)) ?_
 subst hH
 simp only [Xe, Ay, go_sem, simprocAttr, h1, h2, h3, h4, List.length_map, List.take_succ_cons, List.take_zero, List.drop_succ_cons, List.drop_zero]
 obtain ⟨b2, hb2⟩ : ∃ b : Bool, b = (b1 || !decide (s.fare = t.fare) || !decide (s.total = t.total) || !decide (s.issued = t.issued)) := ⟨_, rfl⟩
 obtain ⟨H, hH⟩ : ∃ H : List (Nat × Ob), H = [(2, .box 47 (Ay s)), (3, .box 47 (Ay t))] := ⟨_, rfl⟩
 refine To (s' := ⟨mkE [(2, .ptr 2 0), (3, .ptr 3 0), (47, .bool b2)], mkH H⟩) ?_ ?_
 ·subst hH hb2
  refine Le.mk _ _ ?_ ?_ rfl <;> simp only [go_sem, simprocAttr, Ay, AbW] <;> and_intros <;> try exact leA
 refine Abs (EF := EF0) hG (by rw [hN]; exact FG _ 21 (FG _ 20 (Qg))) ?_
 subst hH
 simp only [Xe, Ay, go_sem, simprocAttr, h1, h2, h3, h4, List.length_map, List.take_succ_cons, List.take_zero, List.drop_succ_cons, List.drop_zero]
 obtain ⟨b3, hb3⟩ : ∃ b : Bool, b = (b2 || !decide ((s.coupons.length : Int) = t.coupons.length) || !decide ((s.taxes.length : Int) = t.taxes.length)) := ⟨_, rfl⟩
 refine AW.le (s' := ⟨mkE [(2, .ptr 2 0), (3, .ptr 3 0), (64, .bool b3)], mkH [(2, .box 47 (Ay s)), (3, .box 47 (Ay t))]⟩) ?_ ?_
 ·subst hb3
  refine Le.mk _ _ ?_ ?_ rfl <;> simp only [go_sem, simprocAttr, Ay] <;> and_intros <;> try exact leA
 simp only [Ay]
 refine Ab rfl (fun hb => ?_) fun hb => ?_
 ·have hm : Gb s t = false := by (cases hsm : Gb s t with | false => rfl | true => (simp only [Gb, Bool.and_eq_true, decide_eq_true_eq] at hsm; obtain ⟨⟨⟨⟨⟨⟨⟨e1, e2⟩, e3⟩, e4⟩, e5⟩, e6⟩, e7⟩, e8⟩ := hsm; rw [hb3, hb2, hb1, e1, e2, e3, e5, e7, e8, SA e4, SA e6] at hb; simp at hb))
  refine Aa (Z 2 rfl ?_)
  simp only [go_sem, simprocAttr]
  refine Ae (hQ _ _ (.inl rfl) ?_ ?_ ?_) <;> simp only [go_sem, simprocAttr, Aa1, hm]
 rw [hb3, hb2, hb1] at hb
 simp only [Bool.or_eq_false_iff, Bool.not_eq_false', decide_eq_true_eq] at hb
 obtain ⟨⟨⟨⟨⟨⟨⟨e1, e2⟩, e3⟩, e5⟩, e7⟩, e8⟩, ec⟩, eh⟩ := hb
 have hm : Gb s t = (eqL eCC s.coupons t.coupons && eqL eHH s.taxes t.taxes) := by unfold Gb; rw [e1, e2, e3, e5, e7, e8]; simp
 have hlc : s.coupons.length = t.coupons.length := by omega
 have hlh : s.taxes.length = t.taxes.length := by omega
 refine Ac ?_
 refine Aa (Aa (Z 3 rfl ?_))
 simp only [go_sem, simprocAttr]
 refine Ad ?_
 refine Aj (α := Nat) (fun i => (i ≤ s.coupons.length) ∧ (eqL eCC s.coupons t.coupons = eqL eCC (s.coupons.drop i) (t.coupons.drop i))) (fun i => ⟨mkE [(2, V.ptr 2 0), (3, V.ptr 3 0), (5, .int .i64 i)], mkH [(2, Ob.box 47 [V.int IntKind.i64 s.number, V.str s.locator, V.str s.person.last, V.str s.person.first, V.str s.person.type, V.list (List.map Coupon.enc s.coupons) false, V.int IntKind.i64 s.fare, V.list (List.map Charge.enc s.taxes) false, V.int IntKind.i64 s.total, V.int IntKind.i64 s.issued]), (3, Ob.box 47 [V.int IntKind.i64 t.number, V.str t.locator, V.str t.person.last, V.str t.person.first, V.str t.person.type, V.list (List.map Coupon.enc t.coupons) false, V.int IntKind.i64 t.fare, V.list (List.map Charge.enc t.taxes) false, V.int IntKind.i64 t.total, V.int IntKind.i64 t.issued])]⟩) (fun i => s.coupons.length - i) 0 ⟨Nat.zero_le _, rfl⟩ ?_ ?_
 ·exact leM
 rintro i ⟨hi, he⟩ KL0 hKL0
 try dsimp only at *
 refine Aa (Aa (Z 4 rfl ?_))
 simp only [go_sem, simprocAttr, List.length_map]
 refine Ab rfl (fun hb4 => ?_) fun hb4 => ?_
 ·have hc4 : i < s.coupons.length := by simp at hb4; omega
  have hc4r : i < t.coupons.length := by omega
  obtain ⟨a, haa⟩ : ∃ a, a = s.coupons[i] := ⟨_, rfl⟩
  obtain ⟨b, hbb⟩ : ∃ b, b = t.coupons[i] := ⟨_, rfl⟩
  have hst := Og eCC hc4 hc4r
  rw [← haa, ← hbb] at hst
  refine Ac ?_
  refine Aa (Ad ?_)
  refine Aa (Y 6 rfl (by kernel_rfl) ?_)
  simp only [go_sem, simprocAttr, Af _ _ _ _ hc4, ← haa, Af _ _ _ _ hc4r, ← hbb, Coupon.enc, hc4, hc4r, List.length_map]
  and_intros <;> try exact sdA
  refine Ab rfl (fun hb6 => ?_) fun hb6 => ?_
  ·have h6 : eCC a b = false := by (cases h : eCC a b with | false => rfl | true => (simp [eCC, Coupon.enc, Fb, eqV] at h; simp [h] at hb6))
   have hm2 : Gb s t = false := by rw [hm, he, hst, h6]; rfl
   refine Aa (Z 7 rfl ?_)
   simp only [go_sem, simprocAttr]
   refine Ae (hQ _ _ (.inl rfl) ?_ ?_ ?_) <;> simp only [go_sem, simprocAttr, Aa1, hm2]
  have h6 : eCC a b = true := by simpa [eCC, Coupon.enc, Fb, eqV] using hb6
  refine Ac ?_
  refine Z 5 rfl ?_
  simp only [go_sem, simprocAttr, inI]
  and_intros <;> try exact sdA
  refine hKL0 (i + 1) _ ?_ ?_ ?_
  ·(try dsimp only); exact ⟨hc4, by rw [he, hst, h6, Bool.true_and]⟩
  ·(try dsimp only); omega
  exact leM
 obtain rfl : i = s.coupons.length := by simp at hb4; omega
 have hm1 : Gb s t = eqL eHH s.taxes t.taxes := by rw [hm, he, List.drop_length, List.drop_of_length_le (by omega)]; rfl
 refine Ai ?_
 simp only [go_sem, simprocAttr]
 refine Aa (Aa (Z 8 rfl ?_))
 simp only [go_sem, simprocAttr]
 refine Ad ?_
 refine Aj (α := Nat) (fun j => (j ≤ s.taxes.length) ∧ (eqL eHH s.taxes t.taxes = eqL eHH (s.taxes.drop j) (t.taxes.drop j))) (fun j => ⟨mkE [(2, V.ptr 2 0), (3, V.ptr 3 0), (6, .int .i64 j)], mkH [(2, Ob.box 47 [V.int IntKind.i64 s.number, V.str s.locator, V.str s.person.last, V.str s.person.first, V.str s.person.type, V.list (List.map Coupon.enc s.coupons) false, V.int IntKind.i64 s.fare, V.list (List.map Charge.enc s.taxes) false, V.int IntKind.i64 s.total, V.int IntKind.i64 s.issued]), (3, Ob.box 47 [V.int IntKind.i64 t.number, V.str t.locator, V.str t.person.last, V.str t.person.first, V.str t.person.type, V.list (List.map Coupon.enc t.coupons) false, V.int IntKind.i64 t.fare, V.list (List.map Charge.enc t.taxes) false, V.int IntKind.i64 t.total, V.int IntKind.i64 t.issued])]⟩) (fun j => s.taxes.length - j) 0 ⟨Nat.zero_le _, rfl⟩ ?_ ?_
 ·exact leM
 rintro j ⟨hj, hf⟩ KL2 hKL2
 try dsimp only at *
 refine Aa (Aa (Z 9 rfl ?_))
 simp only [go_sem, simprocAttr, List.length_map]
 refine Ab rfl (fun hb9 => ?_) fun hb9 => ?_
 ·have hc9 : j < s.taxes.length := by simp at hb9; omega
  have hc9r : j < t.taxes.length := by omega
  obtain ⟨a, haa⟩ : ∃ a, a = s.taxes[j] := ⟨_, rfl⟩
  obtain ⟨b, hbb⟩ : ∃ b, b = t.taxes[j] := ⟨_, rfl⟩
  have hst := Og eHH hc9 hc9r
  rw [← haa, ← hbb] at hst
  refine Ac ?_
  refine Aa (Ad ?_)
  refine Aa (Y 11 rfl (by kernel_rfl) ?_)
  simp only [go_sem, simprocAttr, Af _ _ _ _ hc9, ← haa, Af _ _ _ _ hc9r, ← hbb, Charge.enc, hc9, hc9r, List.length_map]
  and_intros <;> try exact sdA
  refine Ab rfl (fun hb11 => ?_) fun hb11 => ?_
  ·have h6 : eHH a b = false := by (cases h : eHH a b with | false => rfl | true => (simp [eHH, Charge.enc, Fb, eqV] at h; simp [h] at hb11))
   have hm2 : Gb s t = false := by rw [hm1, hf, hst, h6]; rfl
   refine Aa (Z 12 rfl ?_)
   simp only [go_sem, simprocAttr]
   refine Ae (hQ _ _ (.inl rfl) ?_ ?_ ?_) <;> simp only [go_sem, simprocAttr, Aa1, hm2]
  have h6 : eHH a b = true := by simpa [eHH, Charge.enc, Fb, eqV] using hb11
  refine Ac ?_
  refine Z 10 rfl ?_
  simp only [go_sem, simprocAttr, inI]
  and_intros <;> try exact sdA
  refine hKL2 (j + 1) _ ?_ ?_ ?_
  ·(try dsimp only); exact ⟨hc9, by rw [hf, hst, h6, Bool.true_and]⟩
  ·(try dsimp only); omega
  exact leM
 obtain rfl : j = s.taxes.length := by simp at hb9; omega
 have hm2 : Gb s t = true := by rw [hm1, hf, List.drop_length, List.drop_of_length_le (by omega)]; rfl
 refine Ai ?_
 simp only [go_sem, simprocAttr]
 refine Aa (Z 13 rfl ?_)
 simp only [go_sem, simprocAttr]
 refine Ae (hQ _ _ (.inl rfl) ?_ ?_ ?_) <;> simp only [go_sem, simprocAttr, Aa1, hm2]
structure Paper where
 p : Places
 t : Tariff
 l : List Want
 q : Quote
 x : Person
 number : Int
 locator : List UInt8
 day : Int
def Paper.enc (x : Paper) : List V := [.list (x.p.airports.map Airport.enc) false, .list (x.p.distances.map Distance.enc) false, .list (x.t.fares.map Fare.enc) false, .list (x.t.rules.map Rule.enc) false, .list (x.t.routings.map Routing.enc) false, .list (x.t.taxes.map Tax.enc) false, .list (x.l.map Want.enc) false, .list (x.q.parts.map Part.enc) false, .list (x.q.pairs.map Two.enc) false, .list (x.q.taxes.map Charge.enc) false, .int .i64 x.q.fare, .int .i64 x.q.total, .str x.x.last, .str x.x.first, .str x.x.type, .int .i64 x.number, .str x.locator, .int .i64 x.day]
theorem Paper.inj (a b : Paper) (h : a.enc = b.enc) : a = b := by
 obtain ⟨⟨a_p_airports, a_p_distances⟩, ⟨a_t_fares, a_t_rules, a_t_routings, a_t_taxes⟩, a_l, ⟨a_q_parts, a_q_pairs, a_q_taxes, a_q_fare, a_q_total⟩, ⟨a_x_last, a_x_first, a_x_type⟩, a_number, a_locator, a_day⟩ := a
 obtain ⟨⟨b_p_airports, b_p_distances⟩, ⟨b_t_fares, b_t_rules, b_t_routings, b_t_taxes⟩, b_l, ⟨b_q_parts, b_q_pairs, b_q_taxes, b_q_fare, b_q_total⟩, ⟨b_x_last, b_x_first, b_x_type⟩, b_number, b_locator, b_day⟩ := b
 simp only [Paper.enc, List.cons.injEq, V.str.injEq, V.int.injEq, V.bool.injEq, V.agg.injEq, V.list.injEq, and_true, true_and] at h
 obtain ⟨h0, h1, h2, h3, h4, h5, h6, h7, h8, h9, h10, h11, h12, h13, h14, h15, h16, h17⟩ := h
 replace h0 := Aw Airport.inj h0
 subst h0
 replace h1 := Aw Distance.inj h1
 subst h1
 replace h2 := Aw Fare.inj h2
 subst h2
 replace h3 := Aw Rule.inj h3
 subst h3
 replace h4 := Aw Routing.inj h4
 subst h4
 replace h5 := Aw Tax.inj h5
 subst h5
 replace h6 := Aw Want.inj h6
 subst h6
 replace h7 := Aw Part.inj h7
 subst h7
 replace h8 := Aw Two.inj h8
 subst h8
 replace h9 := Aw Charge.inj h9
 subst h9
 subst h10
 subst h11
 subst h12
 subst h13
 subst h14
 subst h15
 subst h16
 subst h17
 rfl
theorem Paper.rows (l : List Paper) : (∀ r ∈ l.map Paper.enc, r.length = 18) ↔ True := iff_true_intro fun r hr => by obtain ⟨x, _, rfl⟩ := List.mem_map.1 hr; rfl
theorem Paper.purs (l : List Paper) : (∀ r ∈ l.map Paper.enc, V.purs r = true) ↔ True := iff_true_intro fun r hr => by obtain ⟨x, _, rfl⟩ := List.mem_map.1 hr; rfl
attribute [go_sem] Paper.rows Paper.purs
def PQ (x : Paper) : List V := [.agg x.enc]
theorem GZ (a b : Paper) (h : PQ a = PQ b) : a = b := by
 simp only [PQ, List.cons.injEq, V.str.injEq, V.int.injEq, V.bool.injEq, V.agg.injEq, V.list.injEq, and_true, true_and] at h
 have h0 := h
 replace h0 := Paper.inj _ _ h0
 subst h0
 rfl
structure PpOk (x : Paper) : Prop where
 p : x.p.ok
 t : TarOk x.t
 l : x.l.length ≤ 1000000
 lo : ∀ z ∈ x.l, z.ok
 q : x.q.parts.length ≤ 1000000
 qo : ∀ z ∈ x.q.parts, z.ok
 qx : x.q.taxes.length ≤ 1000000
 n : inI x.number
 d : inI x.day
structure FitR (x : Paper) : Prop where
 l : x.l.length ≤ 8
 q : x.q.parts.length ≤ 8
 qx : x.q.taxes.length ≤ 20
 a : x.p.airports.length ≤ 12
 d : x.p.distances.length ≤ 20
 f : x.t.fares.length ≤ 20
 r : x.t.rules.length ≤ 8
 g : x.t.routings.length ≤ 8
 xx : x.t.taxes.length ≤ 8
 cp : Abk x.p = []
 ct : Ags x.t
 cx : Ib x.t.taxes x.t.taxes.length = []
def Aip (x : Paper) (b : Bool) : Prop := b = true → FitR x
theorem Jz (ps : List Airport) (ds : List Distance) : gOf aP1 Agk [.agg [.list (ps.map Airport.enc) false, .list (ds.map Distance.enc) false]] = (Sm ⟨ps, ds⟩, .list (An (Abk ⟨ps, ds⟩)) false) := Ar TE (⟨ps, ds⟩ : Places)
theorem FK (l : List Tax) : gOf GG NR [.list (l.map Tax.enc) false] = (SmT l, .list (An (Ib l l.length)) false) := Ar IK l
theorem Lh (p es) : (PO p es).length = es.length := List.length_map _
theorem II (ps) : ∀ i, (MD ps i).length ≤ 4 * i
 | 0 => Nat.le_refl _
 | i + 1 => by rw [MD, List.length_append, Lh]; have := II ps i; have := HW ps i (ps.getD i Airport.zero); omega
theorem IF (ps ds) : ∀ i, (Lj ps ds i).length ≤ 3 * i
 | 0 => Nat.le_refl _
 | i + 1 => by rw [Lj, List.length_append, Lh]; have := IF ps ds i; have := HN ps ds i (ds.getD i Distance.zero); omega
theorem WP {p : Places} (h : Sm p) : (Abk p).length ≤ 140737488355328 := by
 have h1 := II p.airports p.airports.length
 have h2 := IF p.airports p.distances p.distances.length
 have h3 := h.1
 have h4 := h.2.1
 unfold Abk
 rw [List.length_append]
 omega
theorem Akt {g : List Fault} : decide ((g.length : Int) = 0) = decide (g = []) := by
 cases g <;> simp
 omega
noncomputable def AbR : Tab
 | 43 => (gOf aP1 Agk)
 | 28 => (gOf aPT fun x => (LnP x.1 ∧ TarOk x.2, vF (fTa x)))
 | 29 => (gOf GG NR)
 | _ => gNo
theorem Zs : ∀ f, PU f (AbR f) := fun f => by
 unfold AbR
 split
 ·exact VI
 ·exact Ajt
 ·exact Rf
 ·exact Ao.no
set_option maxRecDepth 20000 in
theorem Rw : ∃ F : Paper → Bool, (∀ x, PpOk x → Aip x (F x)) ∧ PU 12 (gOf PQ fun x => (PpOk x, vBB (F x))) := by
 have hG := Zs
 refine Ajp.p (val := vBB) (R := Aip) GZ (by simp [PQ]) ?_
 rintro ⟨⟨ps, ds⟩, ⟨fs, rs, gs, xs⟩, W, ⟨pa, pr, tx, fa, to⟩, ⟨la, fi, ty⟩, n, loc, d⟩ hv Q hQ
 have Z := Ajp.T EF0 hG
 obtain ⟨h1, h2, h3, h4, h5, h6, h7, h8, h9⟩ : PpOk ⟨⟨ps, ds⟩, ⟨fs, rs, gs, xs⟩, W, ⟨pa, pr, tx, fa, to⟩, ⟨la, fi, ty⟩, n, loc, d⟩ := hv
 obtain ⟨o1, o2, o3, o4, o5, o6, o7, o8⟩ := id h2
 obtain ⟨⟨p1, p3⟩, p2, p4⟩ := id h1
 dsimp only at o1 o2 o3 o4 o5 o6 o7 o8 h3 h4 h5 h6 h7 h8 h9 p1 p2 p3 p4
 refine Ag (Z 0 rfl ?_)
 simp only [go_sem, simprocAttr, PQ, Paper.enc, AbR, Jz, UO, FK]
 refine Ag (Ag (Z 1 rfl ?_))
 simp only [go_sem, simprocAttr, List.length_map, AbR, Jz, UO, FK]
 and_intros <;> try exact sdA
 refine AH rfl (fun hb1 => ?_) fun hb1 => ?_
 ·refine Ag (Z 2 rfl ?_)
  simp only [go_sem, simprocAttr, AbR, Jz, UO, FK]
  refine DR (hQ _ _ (.inl rfl) ?_ ?_ ?_) <;> simp only [go_sem, simprocAttr, vBB]
  exact ⟨false, rfl, fun h => nomatch h⟩
 simp only [Bool.or_eq_false_iff, decide_eq_false_iff_not] at hb1
 have hl : W.length ≤ 8 ∧ pa.length ≤ 8 ∧ tx.length ≤ 20 ∧ fs.length ≤ 20 ∧ rs.length ≤ 8 ∧ gs.length ≤ 8 ∧ xs.length ≤ 8 ∧ ps.length ≤ 12 ∧ ds.length ≤ 20 := by omega
 obtain ⟨l1, l2, l3, l4, l5, l6, l7, l8, l9⟩ := hl
 have hS : Sm ⟨ps, ds⟩ := ⟨by dsimp only; omega, by dsimp only; omega, p3⟩
 have hL : LnP ⟨ps, ds⟩ := ⟨by dsimp only; omega, by dsimp only; omega⟩
 have hX : SmT xs := ⟨by omega, o8⟩
 obtain ⟨hT1, hT2⟩ := Aju (⟨ps, ds⟩, ⟨fs, rs, gs, xs⟩) ⟨hL, h2⟩
 obtain ⟨A, hA⟩ : ∃ A, A = Abk ⟨ps, ds⟩ := ⟨_, rfl⟩
 obtain ⟨B, hB⟩ : ∃ B, B = fTa (⟨ps, ds⟩, ⟨fs, rs, gs, xs⟩) := ⟨_, rfl⟩
 obtain ⟨C2, hC2⟩ : ∃ C2, C2 = Ib xs xs.length := ⟨_, rfl⟩
 have hA1 : A.length ≤ 140737488355328 := by rw [hA]; exact WP hS
 have hC1 : C2.length ≤ 140737488355328 := by have := JX xs xs.length; rw [hC2]; omega
 rw [← hB] at hT1 hT2
 refine AG ?_
 refine Ag (Z 3 rfl ?_)
 simp only [go_sem, simprocAttr, hS, hL, h2, hX, Bk, ← hA, ← hB, ← hC2, Akt, hA1, hT1, hC1, AbR, Jz, UO, FK]
 and_intros <;> try exact sdA
 refine DR (hQ _ _ (.inl rfl) ?_ ?_ ?_) <;> simp only [go_sem, simprocAttr, vBB]
 refine ⟨_, rfl, fun h => ?_⟩
 simp only [Bool.and_eq_true, decide_eq_true_eq] at h
 exact ⟨l1, l2, l3, l8, l9, l4, l5, l6, l7, by rw [← hA]; exact h.1.1, hT2 h.1.2, by rw [← hC2]; exact h.2⟩
noncomputable def Aa3 : Paper → Bool := Rw.choose
theorem AhQ : ∀ x : Paper, PpOk x → Aip x (Aa3 x) := Rw.choose_spec.1
theorem AhP : PU 12 (gOf PQ fun x => (PpOk x, vBB (Aa3 x))) := Rw.choose_spec.2
theorem Iu (ps : List Airport) (ds : List Distance) (fs : List Fare) (rs : List Rule) (gs : List Routing) (xs : List Tax) (W : List Want) (pa : List Part) (pr : List Two) (tx : List Charge) (fa to : Int) (la fi ty : List UInt8) (n : Int) (loc : List UInt8) (d : Int) : gOf PQ (fun x => (PpOk x, vBB (Aa3 x))) [.agg [.list (ps.map Airport.enc) false, .list (ds.map Distance.enc) false, .list (fs.map Fare.enc) false, .list (rs.map Rule.enc) false, .list (gs.map Routing.enc) false, .list (xs.map Tax.enc) false, .list (W.map Want.enc) false, .list (pa.map Part.enc) false, .list (pr.map Two.enc) false, .list (tx.map Charge.enc) false, .int .i64 fa, .int .i64 to, .str la, .str fi, .str ty, .int .i64 n, .str loc, .int .i64 d]] = (PpOk ⟨⟨ps, ds⟩, ⟨fs, rs, gs, xs⟩, W, ⟨pa, pr, tx, fa, to⟩, ⟨la, fi, ty⟩, n, loc, d⟩, .bool (Aa3 ⟨⟨ps, ds⟩, ⟨fs, rs, gs, xs⟩, W, ⟨pa, pr, tx, fa, to⟩, ⟨la, fi, ty⟩, n, loc, d⟩)) := Ar (F := fun x => (PpOk x, vBB (Aa3 x))) GZ ⟨⟨ps, ds⟩, ⟨fs, rs, gs, xs⟩, W, ⟨pa, pr, tx, fa, to⟩, ⟨la, fi, ty⟩, n, loc, d⟩
theorem Gm (ps : List Airport) (ds : List Distance) (fs : List Fare) (rs : List Rule) (gs : List Routing) (xs : List Tax) (W : List Want) (pa : List Part) (pr : List Two) (tx : List Charge) (fa to : Int) (la fi ty : List UInt8) (n : Int) (loc : List UInt8) (d : Int) : gOf PP Pu [.agg [.list (ps.map Airport.enc) false, .list (ds.map Distance.enc) false], .agg [.list (fs.map Fare.enc) false, .list (rs.map Rule.enc) false, .list (gs.map Routing.enc) false, .list (xs.map Tax.enc) false], .list (W.map Want.enc) false, .agg [.list (pa.map Part.enc) false, .list (pr.map Two.enc) false, .list (tx.map Charge.enc) false, .int .i64 fa, .int .i64 to], .agg [.str la, .str fi, .str ty], .int .i64 n, .str loc, .int .i64 d] = (TkIn ⟨ps, ds⟩ ⟨fs, rs, gs, xs⟩ W ⟨pa, pr, tx, fa, to⟩ n d, tkV (OM ⟨ps, ds⟩ fs W ⟨pa, pr, tx, fa, to⟩ ⟨la, fi, ty⟩ n loc d)) := Ar JN (⟨ps, ds⟩, ⟨fs, rs, gs, xs⟩, W, ⟨pa, pr, tx, fa, to⟩, ⟨la, fi, ty⟩, n, loc, d)
def Ni : Sh := .st [.i .i64, .i .i64, .i .i64]
theorem Uj (vs : List V) (h : Ni.fits vs) : ∃ z : Period, vs = z.enc ∧ z.ok := by
 obtain ⟨a0, b0, rfl, h0, a1, b1, rfl, h1, a2, b2, rfl, h2, rfl⟩ := h
 obtain ⟨x0, rfl, p0⟩ := AX h0
 obtain ⟨x1, rfl, p1⟩ := AX h1
 obtain ⟨x2, rfl, p2⟩ := AX h2
 exact ⟨⟨x0, x1, x2⟩, rfl, ⟨p0, p1, p2⟩⟩
def Adf : Sh := .st [.s, .i .i64]
theorem AfW (vs : List V) (h : Adf.fits vs) : ∃ z : Pct, vs = z.enc ∧ z.ok := by
 obtain ⟨a0, b0, rfl, h0, a1, b1, rfl, h1, rfl⟩ := h
 obtain ⟨x0, rfl, p0⟩ := BK h0
 obtain ⟨x1, rfl, p1⟩ := AX h1
 exact ⟨⟨x0, x1⟩, rfl, ⟨p0, p1⟩⟩
def QX : Sh := .st [.i .i64, .i .i64]
theorem Xg (vs : List V) (h : QX.fits vs) : ∃ z : Shift, vs = z.enc ∧ z.ok := by
 obtain ⟨a0, b0, rfl, h0, a1, b1, rfl, h1, rfl⟩ := h
 obtain ⟨x0, rfl, p0⟩ := AX h0
 obtain ⟨x1, rfl, p1⟩ := AX h1
 exact ⟨⟨x0, x1⟩, rfl, ⟨p0, p1⟩⟩
def Xq : Sh := .st [.i .i64, .sl QX 16]
theorem AbG (vs : List V) (h : Xq.fits vs) : ∃ z : Zone, vs = z.enc ∧ z.ok := by
 obtain ⟨a0, b0, rfl, h0, a1, b1, rfl, h1, rfl⟩ := h
 obtain ⟨x0, rfl, p0⟩ := AX h0
 obtain ⟨x1, rfl, l1, p1⟩ := BY Xg h1
 exact ⟨⟨x0, x1⟩, rfl, ⟨p0, ⟨by dsimp only; omega, p1⟩⟩⟩
def Kk : Sh := .st [.s, .s, .s, Xq]
theorem PK (vs : List V) (h : Kk.fits vs) : ∃ z : Airport, vs = z.enc ∧ z.ok := by
 obtain ⟨a0, b0, rfl, h0, a1, b1, rfl, h1, a2, b2, rfl, h2, a3, b3, rfl, h3, rfl⟩ := h
 obtain ⟨x0, rfl, p0⟩ := BK h0
 obtain ⟨x1, rfl, p1⟩ := BK h1
 obtain ⟨x2, rfl, p2⟩ := BK h2
 obtain ⟨x3, rfl, p3⟩ := AbG _ h3
 exact ⟨⟨x0, x1, x2, x3⟩, rfl, ⟨p0, p1, p2, p3⟩⟩
def Ip : Sh := .st [.s, .s, .i .i64]
theorem MP (vs : List V) (h : Ip.fits vs) : ∃ z : Distance, vs = z.enc ∧ z.ok := by
 obtain ⟨a0, b0, rfl, h0, a1, b1, rfl, h1, a2, b2, rfl, h2, rfl⟩ := h
 obtain ⟨x0, rfl, p0⟩ := BK h0
 obtain ⟨x1, rfl, p1⟩ := BK h1
 obtain ⟨x2, rfl, p2⟩ := AX h2
 exact ⟨⟨x0, x1, x2⟩, rfl, ⟨p0, p1, p2⟩⟩
def Ng : Sh := .st [.sl Kk 80, .sl Ip 40]
theorem Uh (vs : List V) (h : Ng.fits vs) : ∃ z : Places, vs = z.enc ∧ z.ok := by
 obtain ⟨a0, b0, rfl, h0, a1, b1, rfl, h1, rfl⟩ := h
 obtain ⟨x0, rfl, l0, p0⟩ := BY PK h0
 obtain ⟨x1, rfl, l1, p1⟩ := BY MP h1
 exact ⟨⟨x0, x1⟩, rfl, ⟨⟨by dsimp only; omega, p0⟩, ⟨by dsimp only; omega, p1⟩⟩⟩
def Ade : Sh := .st [.s, .i .i64, .i .i64, .s, .s, .i .i64, .i .i64]
theorem AfU (vs : List V) (h : Ade.fits vs) : ∃ z : Seg, vs = z.enc ∧ z.ok := by
 obtain ⟨a0, b0, rfl, h0, a1, b1, rfl, h1, a2, b2, rfl, h2, a3, b3, rfl, h3, a4, b4, rfl, h4, a5, b5, rfl, h5, a6, b6, rfl, h6, rfl⟩ := h
 obtain ⟨x0, rfl, p0⟩ := BK h0
 obtain ⟨x1, rfl, p1⟩ := AX h1
 obtain ⟨x2, rfl, p2⟩ := AX h2
 obtain ⟨x3, rfl, p3⟩ := BK h3
 obtain ⟨x4, rfl, p4⟩ := BK h4
 obtain ⟨x5, rfl, p5⟩ := AX h5
 obtain ⟨x6, rfl, p6⟩ := AX h6
 exact ⟨⟨x0, x1, x2, x3, x4, x5, x6⟩, rfl, ⟨p0, p1, p2, p3, p4, p5, p6⟩⟩
def Xr : Sh := .st [Ade, .s]
theorem AbH (vs : List V) (h : Xr.fits vs) : ∃ z : Want, vs = z.enc ∧ z.ok := by
 obtain ⟨a0, b0, rfl, h0, a1, b1, rfl, h1, rfl⟩ := h
 obtain ⟨x0, rfl, p0⟩ := AfU _ h0
 obtain ⟨x1, rfl, p1⟩ := BK h1
 exact ⟨⟨x0, x1⟩, rfl, ⟨p0, p1⟩⟩
def Xt : Sh := .st [.i .i64, .i .i64, .i .i64, .i .i64]
theorem AbM (vs : List V) (h : Xt.fits vs) : ∃ z : Part, vs = z.enc ∧ z.ok := by
 obtain ⟨a0, b0, rfl, h0, a1, b1, rfl, h1, a2, b2, rfl, h2, a3, b3, rfl, h3, rfl⟩ := h
 obtain ⟨x0, rfl, p0⟩ := AX h0
 obtain ⟨x1, rfl, p1⟩ := AX h1
 obtain ⟨x2, rfl, p2⟩ := AX h2
 obtain ⟨x3, rfl, p3⟩ := AX h3
 exact ⟨⟨x0, x1, x2, x3⟩, rfl, ⟨p0, p1, p2, p3⟩⟩
def Nj : Sh := .st [.s, .i .i64]
theorem Uk (vs : List V) (h : Nj.fits vs) : ∃ z : Charge, vs = z.enc ∧ z.ok := by
 obtain ⟨a0, b0, rfl, h0, a1, b1, rfl, h1, rfl⟩ := h
 obtain ⟨x0, rfl, p0⟩ := BK h0
 obtain ⟨x1, rfl, p1⟩ := AX h1
 exact ⟨⟨x0, x1⟩, rfl, ⟨p0, p1⟩⟩
def Adc : Sh := .st [.i .i64, .i .i64]
theorem AfS (vs : List V) (h : Adc.fits vs) : ∃ z : Two, vs = z.enc ∧ z.ok := by
 obtain ⟨a0, b0, rfl, h0, a1, b1, rfl, h1, rfl⟩ := h
 obtain ⟨x0, rfl, p0⟩ := AX h0
 obtain ⟨x1, rfl, p1⟩ := AX h1
 exact ⟨⟨x0, x1⟩, rfl, ⟨p0, p1⟩⟩
def QY : Sh := .st [.sl Xt 32, .sl Adc 16, .sl Nj 24, .i .i64, .i .i64]
theorem Xh (vs : List V) (h : QY.fits vs) : ∃ z : Quote, vs = z.enc ∧ z.ok := by
 obtain ⟨a0, b0, rfl, h0, a1, b1, rfl, h1, a2, b2, rfl, h2, a3, b3, rfl, h3, a4, b4, rfl, h4, rfl⟩ := h
 obtain ⟨x0, rfl, l0, p0⟩ := BY AbM h0
 obtain ⟨x1, rfl, l1, p1⟩ := BY AfS h1
 obtain ⟨x2, rfl, l2, p2⟩ := BY Uk h2
 obtain ⟨x3, rfl, p3⟩ := AX h3
 obtain ⟨x4, rfl, p4⟩ := AX h4
 exact ⟨⟨x0, x1, x2, x3, x4⟩, rfl, ⟨⟨by dsimp only; omega, p0⟩, ⟨by dsimp only; omega, p1⟩, ⟨by dsimp only; omega, p2⟩, p3, p4⟩⟩
def Nh : Sh := .st [.s, .s, .s]
theorem Ui (vs : List V) (h : Nh.fits vs) : ∃ z : Person, vs = z.enc ∧ z.ok := by
 obtain ⟨a0, b0, rfl, h0, a1, b1, rfl, h1, a2, b2, rfl, h2, rfl⟩ := h
 obtain ⟨x0, rfl, p0⟩ := BK h0
 obtain ⟨x1, rfl, p1⟩ := BK h1
 obtain ⟨x2, rfl, p2⟩ := BK h2
 exact ⟨⟨x0, x1, x2⟩, rfl, ⟨p0, p1, p2⟩⟩
def Add : Sh := .st [.s, .i .i64, .s, .i .i64, .i .i64, .i .i64, .sl .s 16]
theorem AfT (vs : List V) (h : Add.fits vs) : ∃ z : Tax, vs = z.enc ∧ z.ok := by
 obtain ⟨a0, b0, rfl, h0, a1, b1, rfl, h1, a2, b2, rfl, h2, a3, b3, rfl, h3, a4, b4, rfl, h4, a5, b5, rfl, h5, a6, b6, rfl, h6, rfl⟩ := h
 obtain ⟨x0, rfl, p0⟩ := BK h0
 obtain ⟨x1, rfl, p1⟩ := AX h1
 obtain ⟨x2, rfl, p2⟩ := BK h2
 obtain ⟨x3, rfl, p3⟩ := AX h3
 obtain ⟨x4, rfl, p4⟩ := AX h4
 obtain ⟨x5, rfl, p5⟩ := AX h5
 obtain ⟨x6, rfl, l6, p6⟩ := BY (fun _ h => BK h) h6
 exact ⟨⟨x0, x1, x2, x3, x4, x5, x6⟩, rfl, ⟨p0, p1, p2, p3, p4, p5, ⟨by dsimp only; omega, p6⟩⟩⟩
def Xu : Sh := .st [.s, .s]
theorem AbN (vs : List V) (h : Xu.fits vs) : ∃ z : Link, vs = z.enc ∧ z.ok := by
 obtain ⟨a0, b0, rfl, h0, a1, b1, rfl, h1, rfl⟩ := h
 obtain ⟨x0, rfl, p0⟩ := BK h0
 obtain ⟨x1, rfl, p1⟩ := BK h1
 exact ⟨⟨x0, x1⟩, rfl, ⟨p0, p1⟩⟩
def Kj : Sh := .st [.i .i64, .sl Xu 32, .i .i64]
theorem PI (vs : List V) (h : Kj.fits vs) : ∃ z : Routing, vs = z.enc ∧ z.ok := by
 obtain ⟨a0, b0, rfl, h0, a1, b1, rfl, h1, a2, b2, rfl, h2, rfl⟩ := h
 obtain ⟨x0, rfl, p0⟩ := AX h0
 obtain ⟨x1, rfl, l1, p1⟩ := BY AbN h1
 obtain ⟨x2, rfl, p2⟩ := AX h2
 exact ⟨⟨x0, x1, x2⟩, rfl, ⟨p0, ⟨by dsimp only; omega, p1⟩, p2⟩⟩
def Xv : Sh := .st [.s, .s, .s, .s, .s, .b, .i .i64, .i .i64, .i .i64]
theorem AbP (vs : List V) (h : Xv.fits vs) : ∃ z : Fare, vs = z.enc ∧ z.ok := by
 obtain ⟨a0, b0, rfl, h0, a1, b1, rfl, h1, a2, b2, rfl, h2, a3, b3, rfl, h3, a4, b4, rfl, h4, a5, b5, rfl, h5, a6, b6, rfl, h6, a7, b7, rfl, h7, a8, b8, rfl, h8, rfl⟩ := h
 obtain ⟨x0, rfl, p0⟩ := BK h0
 obtain ⟨x1, rfl, p1⟩ := BK h1
 obtain ⟨x2, rfl, p2⟩ := BK h2
 obtain ⟨x3, rfl, p3⟩ := BK h3
 obtain ⟨x4, rfl, p4⟩ := BK h4
 obtain ⟨x5, rfl⟩ := Aec h5
 obtain ⟨x6, rfl, p6⟩ := AX h6
 obtain ⟨x7, rfl, p7⟩ := AX h7
 obtain ⟨x8, rfl, p8⟩ := AX h8
 exact ⟨⟨x0, x1, x2, x3, x4, x5, x6, x7, x8⟩, rfl, ⟨p0, p1, p2, p3, p4, trivial, p6, p7, p8⟩⟩
def Tc (vs : List V) : Prop := ∃ c : Cond, vs = c.enc ∧ c.ok
def ovC (t : TypeId) : Option Sh := if t = 132 then some (.x Tc 8) else none
def Xw : Sh := .st [.i .i64, .sl (.x Tc 8) 96, .i .i64, .i .i64, Ni, .sl .s 16]
theorem Abe (vs : List V) (h : Xw.fits vs) : Tc vs := by
 obtain ⟨a0, b0, rfl, h0, a1, b1, rfl, h1, a2, b2, rfl, h2, a3, b3, rfl, h3, a4, b4, rfl, h4, a5, b5, rfl, h5, rfl⟩ := h
 obtain ⟨x0, rfl, p0⟩ := AX h0
 obtain ⟨x1, rfl, l1, p1⟩ := BY (e := .x Tc 8) (fun _ h => h) h1
 obtain ⟨x2, rfl, p2⟩ := AX h2
 obtain ⟨x3, rfl, p3⟩ := AX h3
 obtain ⟨x4, rfl, p4⟩ := Uj _ h4
 obtain ⟨x5, rfl, l5, p5⟩ := BY (fun _ h => BK h) h5
 refine ⟨.mk x0 x1 x2 x3 x4 x5, by rw [Cond.enc_eq]; rfl, (Cond.ok_eq ..).2 ⟨p0, ⟨by omega, p1⟩, p2, p3, p4, ⟨by omega, p5⟩⟩⟩
theorem Ah5 : shB (shT Tryz.prog ovC 8) Tryz.prog 132 = some Xw := by kernel_rfl
theorem Kw {H : Type} {enc : TypeId × Value → H} {w : World} {M : Nat → Prop} (hM : ∀ b, b < w.heap.size → M b) : ∀ (B f : Nat), f < B → ∀ {t : TypeId} {cs : List Value} {x : DataW H × List MemPlace} {sh : Sh}, ovC t = some sh → DataW.trod enc Tryz.prog w 0 (fun _ => true) true f t cs = some x → (∀ n ∈ x.1.weights Tryz.prog t, n ≤ reachBytes) → ∃ vs, sh.fits vs ∧ Db M w cs vs ∧ V.cntL vs ≤ Rows.uptoBulk x.1
 | 0, _, h, _, _, _, _, _, _, _ => absurd h (Nat.not_lt_zero _)
 | B + 1, f, hf, t, cs, x, sh, hs, h, hwt => by
  unfold ovC at hs
  split at hs
  ·rename_i e
   subst e
   injection hs with hs
   subst hs
   obtain ⟨vs, h1, h2, h3⟩ := Kx hM (fun f' hf' t cs x sh h1 h2 h3 => Fk hM (B := B) (Kw hM B) (by omega) h1 h2 h3) Ah5 h hwt
   exact ⟨vs, Abe vs h1, h2, h3⟩
  ·cases hs
def AbK (r : Rule) : Prop := inI r.number ∧ r.whn.ok ∧ inI r.mins ∧ inI r.maxs ∧ inI r.chg ∧ inI r.rfd ∧ ∀ x ∈ r.pcts, x.ok
def Xs : Sh := .st [.i .i64, .x Tc 8, .sl (.i .i64) 8, .i .i64, .i .i64, .i .i64, .i .i64, .sl Adf 24]
theorem AbJ (vs : List V) (h : Xs.fits vs) : ∃ z : Rule, vs = z.enc ∧ AbK z := by
 obtain ⟨a0, b0, rfl, h0, a1, b1, rfl, h1, a2, b2, rfl, h2, a3, b3, rfl, h3, a4, b4, rfl, h4, a5, b5, rfl, h5, a6, b6, rfl, h6, a7, b7, rfl, h7, rfl⟩ := h
 obtain ⟨x0, rfl, p0⟩ := AX h0
 obtain ⟨x1, rfl, p1⟩ := h1
 obtain ⟨x2, rfl, l2, p2⟩ := BY (fun _ h => AX h) h2
 obtain ⟨x3, rfl, p3⟩ := AX h3
 obtain ⟨x4, rfl, p4⟩ := AX h4
 obtain ⟨x5, rfl, p5⟩ := AX h5
 obtain ⟨x6, rfl, p6⟩ := AX h6
 obtain ⟨x7, rfl, l7, p7⟩ := BY AfW h7
 exact ⟨⟨x0, x1, x2, x3, x4, x5, x6, x7⟩, rfl, p0, p1, p3, p4, p5, p6, p7⟩
theorem WN {a b : List V} : V.cntL (a ++ b) = V.cntL a + V.cntL b := V.cntL_app a b
theorem DM {α : Type} {k : Nat} {enc : α → List V} (h : ∀ a, k ≤ V.cntL (enc a)) (l : List α) : k * l.length ≤ V.cntR (l.map enc) := by
 have := Oo (k := k) (l := l.map enc) fun r hr => by obtain ⟨a, _, rfl⟩ := List.mem_map.1 hr; exact h a
 rwa [List.length_map] at this
theorem RQ {α : Type} {enc : α → List V} {l : List α} {a : α} (h : a ∈ l) : V.cntL (enc a) ≤ V.cntR (l.map enc) := On (List.mem_map.2 ⟨a, h, rfl⟩)
theorem Cond.cnt (c : Cond) : 8 ≤ V.cntL c.enc := by
 obtain ⟨k, l, a, b, ⟨x, y, z⟩, t⟩ := c
 rw [Cond.enc_eq]
 simp only [V.cntL, V.cnt]
 omega
theorem Rule.cnt (r : Rule) : r.cmb.length + 2 * r.pcts.length ≤ V.cntL r.enc ∧ 8 ≤ V.cntL r.enc := by
 have h1 : 1 * r.cmb.length ≤ V.cntR (AY r.cmb) := DM (k := 1) (enc := fun n => [V.int .i64 n]) (fun a => by simp [V.cntL, V.cnt]) r.cmb
 have h2 := DM (k := 2) (enc := Pct.enc) (fun a => by simp [Pct.enc, V.cntL, V.cnt]) r.pcts
 have h3 := Cond.cnt r.whn
 unfold Rule.enc
 simp only [V.cntL, V.cnt, WN]
 omega
theorem Rule.okB {r : Rule} (h : AbK r) (hc : V.cntL r.enc ≤ 1048576) : RuleOk r := by
 obtain ⟨a, b, c, d, e, f, g⟩ := h
 have := (Rule.cnt r).1
 exact ⟨a, b, by omega, c, d, e, f, by omega, g⟩
def Nf : Sh := .st [.sl Xv 112, .sl Xs 184, .sl Kj 40, .sl Add 88]
def Ajr (t : Tariff) : Prop := (∀ z ∈ t.fares, z.ok) ∧ (∀ z ∈ t.rules, AbK z) ∧ (∀ z ∈ t.routings, z.ok) ∧ ∀ z ∈ t.taxes, z.ok
theorem Ug (vs : List V) (h : Nf.fits vs) : ∃ z : Tariff, vs = z.enc ∧ Ajr z := by
 obtain ⟨a0, b0, rfl, h0, a1, b1, rfl, h1, a2, b2, rfl, h2, a3, b3, rfl, h3, rfl⟩ := h
 obtain ⟨x0, rfl, l0, p0⟩ := BY AbP h0
 obtain ⟨x1, rfl, l1, p1⟩ := BY AbJ h1
 obtain ⟨x2, rfl, l2, p2⟩ := BY PI h2
 obtain ⟨x3, rfl, l3, p3⟩ := BY AfT h3
 exact ⟨⟨x0, x1, x2, x3⟩, rfl, p0, p1, p2, p3⟩
def QZ : Sh := .st [Ng, Nf, .sl Xr 96, QY, Nh, .i .i64, .s, .i .i64]
def Air (x : Paper) : Prop := x.p.ok ∧ Ajr x.t ∧ (∀ z ∈ x.l, z.ok) ∧ x.q.ok ∧ x.x.ok ∧ inI x.number ∧ x.locator.length ≤ 140737488355328 ∧ inI x.day
theorem Xj (vs : List V) (h : QZ.fits vs) : ∃ z : Paper, vs = z.enc ∧ Air z := by
 obtain ⟨a0, b0, rfl, h0, a1, b1, rfl, h1, a2, b2, rfl, h2, a3, b3, rfl, h3, a4, b4, rfl, h4, a5, b5, rfl, h5, a6, b6, rfl, h6, a7, b7, rfl, h7, rfl⟩ := h
 obtain ⟨x0, rfl, p0⟩ := Uh _ h0
 obtain ⟨x1, rfl, p1⟩ := Ug _ h1
 obtain ⟨x2, rfl, l2, p2⟩ := BY AbH h2
 obtain ⟨x3, rfl, p3⟩ := Xh _ h3
 obtain ⟨x4, rfl, p4⟩ := Ui _ h4
 obtain ⟨x5, rfl, p5⟩ := AX h5
 obtain ⟨x6, rfl, p6⟩ := BK h6
 obtain ⟨x7, rfl, p7⟩ := AX h7
 exact ⟨⟨x0, x1, x2, x3, x4, x5, x6, x7⟩, rfl, p0, p1, p2, p3, p4, p5, p6, p7⟩
theorem Paper.cnt (x : Paper) : V.cntR (x.p.airports.map Airport.enc) + V.cntR (x.p.distances.map Distance.enc) + V.cntR (x.t.fares.map Fare.enc) + V.cntR (x.t.rules.map Rule.enc) + V.cntR (x.t.routings.map Routing.enc) + V.cntR (x.t.taxes.map Tax.enc) + V.cntR (x.l.map Want.enc) + V.cntR (x.q.parts.map Part.enc) + V.cntR (x.q.taxes.map Charge.enc) ≤ V.cntL x.enc := by
 unfold Paper.enc
 simp only [V.cntL, V.cnt]
 omega
theorem Air.ok {x : Paper} (h : Air x) (hc : V.cntL x.enc ≤ 1048576) : PpOk x := by
 obtain ⟨p0, ⟨t1, t2, t3, t4⟩, p2, p3, p4, p5, p6, p7⟩ := h
 have hx := Paper.cnt x
 have c1 := DM (k := 9) (enc := Fare.enc) (fun a => by simp [Fare.enc, V.cntL, V.cnt]) x.t.fares
 have c2 := DM (k := 8) (enc := Rule.enc) (fun a => (Rule.cnt a).2) x.t.rules
 have c3 := DM (k := 3) (enc := Routing.enc) (fun a => by simp [Routing.enc, V.cntL, V.cnt]; omega) x.t.routings
 have c4 := DM (k := 6) (enc := Tax.enc) (fun a => by simp [Tax.enc, V.cntL, V.cnt]; omega) x.t.taxes
 have c5 := DM (k := 8) (enc := Want.enc) (fun a => by simp [Want.enc, V.cntL, V.cnt]) x.l
 have c6 := DM (k := 4) (enc := Part.enc) (fun a => by simp [Part.enc, V.cntL, V.cnt]) x.q.parts
 have c7 := DM (k := 2) (enc := Charge.enc) (fun a => by simp [Charge.enc, V.cntL, V.cnt]) x.q.taxes
 refine ⟨p0, ⟨by omega, by omega, by omega, by omega, t1, fun z hz => Rule.okB (t2 z hz) (by have := RQ (enc := Rule.enc) hz; omega), fun z hz => ⟨t3 z hz, ?_⟩, t4⟩, by omega, p2, by omega, p3.1.2, by omega, p5, p7⟩
 have h1 := RQ (enc := Routing.enc) hz
 have h2 := DM (k := 2) (enc := Link.enc) (fun a => by simp [Link.enc, V.cntL, V.cnt]) z.links
 have h3 : V.cntR (z.links.map Link.enc) ≤ V.cntL z.enc := by unfold Routing.enc; simp only [V.cntL, V.cnt]; omega
 omega
noncomputable def Ec : Tab
 | 45 => (gOf aCv fCv)
 | 20 => (gOf Eb Ww)
 | 46 => (gOf aCo fCo)
 | _ => gNo
theorem UA : ∀ f, PU f (Ec f) := fun f => by
 unfold Ec
 split
 ·exact Rn
 ·exact VC
 ·exact Ph
 ·exact Ao.no
theorem XD (n : Nat) : (decide ((n : Int) = 0) || decide (6 < (n : Int))) = (decide ((n : Int) < 1) || decide (6 < (n : Int))) := by rw [show decide ((n : Int) = 0) = decide ((n : Int) < 1) from decide_eq_decide.2 (by omega)]
set_option maxRecDepth 20000 in
theorem Re : PU 14 (gOf PP Pu) := by
 have hG := UA
 refine Ajn.a JN (by simp [PP]) ?_
 rintro ⟨⟨ps, ds⟩, ⟨fs, rs, gs, xs⟩, W, ⟨pa, pr, tx, fa, to⟩, ⟨la, fi, ty⟩, n, loc, d⟩ hv C hN Q hQ
 have Z := Ajn.R EF0 hG hN
 obtain ⟨h1, h2, h3, h4, h5⟩ : TkIn ⟨ps, ds⟩ ⟨fs, rs, gs, xs⟩ W ⟨pa, pr, tx, fa, to⟩ n d := hv
 obtain ⟨o1, o2, o3, o4, o5, o6, o7, o8⟩ := id h2
 obtain ⟨c1, c2, c3, c4⟩ := id h1
 dsimp only at o1 o2 o3 o4 o5 o6 o7 o8 c1 c2 c3 c4 h5
 have hcv : Ab4 (⟨fs, rs, gs, xs⟩, pa, (W.length : Int)) := ⟨o1, c3, by dsimp only; omega⟩
 refine Aa (Z 0 rfl ?_)
 simp only [go_sem, simprocAttr, PP, Places.enc, Tariff.enc, Quote.enc, Person.enc, Ec, Bh, At, Bi]
 refine Aa (Aa (Z 1 rfl ?_))
 simp only [go_sem, simprocAttr, List.length_map, hcv, h3, Ec, Bh, At, Bi]
 and_intros <;> try exact sdA
 refine Ab rfl (fun hb1 => ?_) fun hb1 => ?_
 ·rw [XD] at hb1
  have hm := AcI (p := ⟨ps, ds⟩) (x := ⟨la, fi, ty⟩) (loc := loc) (d := d) (q := ⟨pa, pr, tx, fa, to⟩) hb1
  refine Aa (Z 2 rfl ?_)
  simp only [go_sem, simprocAttr, Ec, Bh, At, Bi]
  refine AW.le (s' := ⟨mkE [(16, .ptr 16 0), (17, .int .i64 2)], mkH [(16, .box 47 (Ay Ticket.zero))]⟩) (Le.mk _ _ ?_ ?_ rfl) (Ae (hQ _ _ (.inl rfl) ?_ ?_ ?_)) <;> simp only [go_sem, simprocAttr, Ay, Ticket.zero, Person.zero, Pu, tkV, hm]
 rw [XD] at hb1
 refine Ac ?_
 refine Aa (Aa (Z 3 rfl ?_))
 simp only [go_sem, simprocAttr, Ec, Bh, At, Bi]
 and_intros <;> try exact sdA
 refine Ab rfl (fun hb3 => ?_) fun hb3 => ?_
 ·have hdn : MA d = false := by unfold MA; simp only [Bool.or_eq_true, decide_eq_true_eq] at hb3; rw [Bool.and_eq_false_iff, decide_eq_false_iff_not, decide_eq_false_iff_not]; omega
  have hm := AcH (p := ⟨ps, ds⟩) (x := ⟨la, fi, ty⟩) (loc := loc) (q := ⟨pa, pr, tx, fa, to⟩) hb1 hdn
  refine Aa (Z 4 rfl ?_)
  simp only [go_sem, simprocAttr, Ec, Bh, At, Bi]
  refine AW.le (s' := ⟨mkE [(16, .ptr 16 0), (17, .int .i64 12)], mkH [(16, .box 47 (Ay Ticket.zero))]⟩) (Le.mk _ _ ?_ ?_ rfl) (Ae (hQ _ _ (.inl rfl) ?_ ?_ ?_)) <;> simp only [go_sem, simprocAttr, Ay, Ticket.zero, Person.zero, Pu, tkV, hm]
 refine Ac ?_
 have hdy : MA d = true := by unfold MA; simp only [Bool.or_eq_false_iff, decide_eq_false_iff_not] at hb3; rw [Bool.and_eq_true, decide_eq_true_iff, decide_eq_true_iff]; omega
 obtain ⟨⟨e, X⟩, hcX⟩ : ∃ y, DP ⟨ps, ds⟩ W ⟨pa, pr, tx, fa, to⟩ = y := ⟨_, rfl⟩
 refine Aa (Z 5 rfl ?_)
 simp only [go_sem, simprocAttr, h1, hcX, Cr, Ec, Bh, At, Bi]
 and_intros <;> try exact sdA
 refine Aa (Aa (Z 6 rfl ?_))
 simp only [go_sem, simprocAttr, Ec, Bh, At, Bi]
 refine Ab rfl (fun hb6 => ?_) fun hb6 => ?_
 ·have hm := AcG (x := ⟨la, fi, ty⟩) (loc := loc) hb1 hdy hcX (by simpa using hb6)
  refine Aa (Z 7 rfl ?_)
  simp only [go_sem, simprocAttr, Ec, Bh, At, Bi]
  refine AW.le (s' := ⟨mkE [(16, .ptr 16 0), (17, .int .i64 e)], mkH [(16, .box 47 (Ay Ticket.zero))]⟩) (Le.mk _ _ ?_ ?_ rfl) (Ae (hQ _ _ (.inl rfl) ?_ ?_ ?_)) <;> simp only [go_sem, simprocAttr, Ay, Ticket.zero, Person.zero, Pu, tkV, hm]
 have he0 : e = 0 := by simpa using hb6
 subst he0
 have hm := AcF (x := ⟨la, fi, ty⟩) (loc := loc) hb1 hdy hcX
 have hXl := Om hcX
 obtain ⟨hcov, hW6⟩ : Da fs.length W.length 0 pa = true ∧ W.length ≤ 6 := by simp only [Bool.or_eq_false_iff, Bool.not_eq_false', decide_eq_false_iff_not] at hb1; exact ⟨hb1.1.2, by omega⟩
 refine Ac ?_
 refine Aa (Z 8 rfl ?_)
 simp only [go_sem, simprocAttr, Ec, Bh, At, Bi]
 refine Aa (Aa (Z 9 rfl ?_))
 simp only [go_sem, simprocAttr, Ec, Bh, At, Bi]
 refine Ad ?_
 refine Aj (α := Nat × (List Coupon)) (fun γ => (γ.1 ≤ pa.length) ∧ (Da fs.length W.length γ.2.length (pa.drop γ.1) = true) ∧ (γ.2 = EQ fs W X (pa.take γ.1)) ∧ (γ.2.length ≤ W.length)) (fun γ => ⟨mkE [(2, V.list (List.map Want.enc W) false), (9, V.ptr 9 0), (11, V.ptr 11 0), (16, V.ptr 16 0), (18, V.list (AY X) false), (20, V.ptr 20 0), (21, .int .i64 γ.1)], mkH [(9, Ob.box 31 [V.list (List.map Fare.enc fs) false, V.list (List.map Rule.enc rs) false, V.list (List.map Routing.enc gs) false, V.list (List.map Tax.enc xs) false]), (11, Ob.box 37 [V.list (List.map Part.enc pa) false, V.list (List.map Two.enc pr) false, V.list (List.map Charge.enc tx) false, V.int IntKind.i64 fa, V.int IntKind.i64 to]), (16, Ob.box 47 [V.int IntKind.i64 0, V.str [], V.str [], V.str [], V.str [], V.nils, V.int IntKind.i64 0, V.nils, V.int IntKind.i64 0, V.int IntKind.i64 0]), (20, .box 47 [.int .i64 n, .str loc, .str la, .str fi, .str ty, .own 999 γ.2.length, .int .i64 fa, .list (tx.map Charge.enc) false, .int .i64 to, .int .i64 d]), (999, .arr 57 11 (γ.2.map Coupon.enc))]⟩) (fun γ => pa.length - γ.1) (0, []) ⟨Nat.zero_le _, hcov, rfl, Nat.zero_le _⟩ ?_ ?_
 ·exact leM
 rintro ⟨i, cs⟩ ⟨hi, hd, hcs, hcl⟩ KL0 hKL0
 try dsimp only at *
 refine Aa (Aa (Z 10 rfl ?_))
 simp only [go_sem, simprocAttr, List.length_map, Ec, Bh, At, Bi]
 refine Ab rfl (fun hc10 => ?_) fun hc10 => ?_
 ·simp only [hcL] at hc10
  refine Ac ?_
  refine Aa (Ad ?_)
  have hdd := List.drop_eq_getElem_cons hc10
  rw [hdd, Da] at hd
  have hst := HO (F := fs) (W := W) (X := X) hc10
  obtain ⟨⟨xf, xt, xr, xa⟩, hx⟩ : ∃ x, x = pa[i] := ⟨_, rfl⟩
  rw [← hx] at hd hst
  obtain ⟨hdx, hd2⟩ : ¬(xf ≠ cs.length ∨ xt ≤ cs.length ∨ (W.length : Int) < xt ∨ xr < 0 ∨ (fs.length : Int) ≤ xr) ∧ Da fs.length W.length xt (pa.drop (i + 1)) = true := by split at hd; cases hd; exact ⟨‹_›, hd⟩
  obtain ⟨rfl, q2, q3, q4, q5⟩ : xf = cs.length ∧ (cs.length : Int) < xt ∧ xt ≤ W.length ∧ 0 ≤ xr ∧ xr < fs.length := by omega
  refine Aa (Z 12 rfl ?_)
  simp only [go_sem, simprocAttr, Af _ _ _ _ hc10, hc10, ← hx, Part.enc, List.length_map, Ec, Bh, At, Bi]
  and_intros <;> try exact sdA
  refine Ad ?_
  refine Aj (α := Nat × (List Coupon)) (fun γ => (γ.1 ≤ (xt - cs.length).toNat) ∧ (γ.2 = cs ++ (WL fs W X ⟨cs.length, xt, xr, xa⟩).take γ.1) ∧ (γ.2.length = cs.length + γ.1)) (fun γ => ⟨mkE [(2, V.list (List.map Want.enc W) false), (9, V.ptr 9 0), (11, V.ptr 11 0), (16, V.ptr 16 0), (18, V.list (AY X) false), (20, V.ptr 20 0), (21, V.int IntKind.i64 ↑i), (22, .int .i64 γ.2.length)], mkH [(9, Ob.box 31 [V.list (List.map Fare.enc fs) false, V.list (List.map Rule.enc rs) false, V.list (List.map Routing.enc gs) false, V.list (List.map Tax.enc xs) false]), (11, Ob.box 37 [V.list (List.map Part.enc pa) false, V.list (List.map Two.enc pr) false, V.list (List.map Charge.enc tx) false, V.int IntKind.i64 fa, V.int IntKind.i64 to]), (16, Ob.box 47 [V.int IntKind.i64 0, V.str [], V.str [], V.str [], V.str [], V.nils, V.int IntKind.i64 0, V.nils, V.int IntKind.i64 0, V.int IntKind.i64 0]), (20, .box 47 [.int .i64 n, .str loc, .str la, .str fi, .str ty, .own 999 γ.2.length, .int .i64 fa, .list (tx.map Charge.enc) false, .int .i64 to, .int .i64 d]), (999, .arr 57 11 (γ.2.map Coupon.enc))]⟩) (fun γ => (xt - cs.length).toNat - γ.1) (0, cs) ⟨Nat.zero_le _, by rw [List.take_zero, List.append_nil], rfl⟩ ?_ ?_
  ·exact leM
  rintro ⟨j, es⟩ ⟨hj, hes, hel⟩ KL2 hKL2
  try dsimp only at *
  refine Aa (Aa (Z 13 rfl ?_))
  simp only [go_sem, simprocAttr, Af _ _ _ _ hc10, hc10, ← hx, Part.enc, List.length_map, Ec, Bh, At, Bi]
  and_intros <;> try exact sdA
  refine Ab rfl (fun hc13 => ?_) fun hc13 => ?_
  ·simp only [hcL] at hc13
   refine Ac ?_
   refine Aa (Ad ?_)
   have hW : es.length < W.length := by omega
   have hX : es.length < X.length := by omega
   have hF : xr.toNat < fs.length := by omega
   obtain ⟨w, hw⟩ : ∃ w, w = W[es.length] := ⟨_, rfl⟩
   obtain ⟨f, hf⟩ : ∃ f, f = fs[xr.toNat] := ⟨_, rfl⟩
   obtain ⟨v, hvv⟩ : ∃ v, v = X[es.length] := ⟨_, rfl⟩
   have hjj : j < (xt - (cs.length : Int)).toNat := by omega
   have hmk : mkC fs W X ⟨cs.length, xt, xr, xa⟩ j = ⟨w, f.basis, 1, v⟩ := by unfold mkC; dsimp only; rw [show (cs.length : Int).toNat + j = es.length by omega, BX _ _ _ hW, BX _ _ _ hF, BX _ _ _ hX, ← hw, ← hf, ← hvv]
   refine As (EF := EF0) hG mixed (by rw [hN]; exact Ze) AaB ?_
   simp only [TZ, XZ, go_sem, simprocAttr, Af _ _ _ _ hc10, hc10, ← hx, Part.enc, Af _ _ _ _ hW, Af _ _ _ _ hF, AV _ _ _ hX, ← hw, ← hf, ← hvv, Want.enc, Fare.enc, hW, hX, q4, q5, List.length_map, Bp, Ec, Bh, At, Bi]
   and_intros <;> try exact sdA
   refine Z 14 rfl ?_
   simp only [go_sem, simprocAttr, inI, Ec, Bh, At, Bi]
   and_intros <;> try exact sdA
   refine hKL2 (j + 1, es ++ [⟨w, f.basis, 1, v⟩]) _ ?_ ?_ ?_
   ·(try dsimp only); exact ⟨hjj, by rw [Ok hjj, hmk, hes, List.append_assoc], by rw [List.length_append, hel]; rfl⟩
   ·(try dsimp only); omega
   refine Le.mk _ _ ?_ ?_ rfl <;> simp only [go_sem, simprocAttr, SV, List.length_append, List.length_cons, List.length_nil] <;> and_intros <;> try exact leA
  simp only [hcL] at hc13
  refine Ai ?_
  simp only [go_sem, simprocAttr]
  refine Z 11 rfl ?_
  simp only [go_sem, simprocAttr, inI, Ec, Bh, At, Bi]
  and_intros <;> try exact sdA
  refine hKL0 (i + 1, es) _ ?_ ?_ ?_
  ·(try dsimp only); refine ⟨hc10, ?_, ?_, by omega⟩; (rw [show (es.length : Int) = xt by omega]; exact hd2); (rw [hst, hes, ← hcs, List.take_of_length_le (by rw [GW]; dsimp only; omega)])
  ·(try dsimp only); omega
  exact leM
 simp only [hcL] at hc10
 rw [List.take_of_length_le hc10] at hcs
 refine Ai ?_
 simp only [go_sem, simprocAttr]
 refine Aa (Z 16 rfl ?_)
 simp only [go_sem, simprocAttr, Ec, Bh, At, Bi]
 refine AW.le (s' := ⟨mkE [(16, .ptr 16 0), (17, .int .i64 0)], mkH [(16, .box 47 (Ay ⟨n, loc, ⟨la, fi, ty⟩, cs, fa, tx, to, d⟩))]⟩) (Le.mk _ _ ?_ ?_ rfl) (Ae (hQ _ _ (.inl rfl) ?_ ?_ ?_)) <;> simp only [go_sem, simprocAttr, Ay, Pu, tkV, hm, ← hcs]
 exact LD rfl (by rw [List.length_map]) rfl ((Coupon.purs _).2 trivial) rfl
theorem Ll {F : List Fare} {W : List Want} {X : List Int} {n : Int} {f : Int} : ∀ {ps : List Part} {a : Int}, Da f n a ps = true → ((EQ F W X ps).length : Int) = n - a
 | [], a, h => by rw [Da, decide_eq_true_eq] at h; subst h; simp [EQ]
 | x :: ps, a, h => by
  rw [Da] at h
  split at h
  ·cases h
  ·have := Ll (F := F) (W := W) (X := X) h
   unfold EQ at this ⊢
   rw [List.flatMap_cons, List.length_append, GW]
   omega
theorem AcE {p F W q x n loc d} (hx : q.taxes.length ≤ 1000000) : Ys (OM p F W q x n loc d).1 := by
 unfold OM
 split
 ·exact ⟨by simp [Ticket.zero], by simp [Ticket.zero]⟩
 rename_i h1
 split
 ·exact ⟨by simp [Ticket.zero], by simp [Ticket.zero]⟩
 split
 ·exact ⟨by simp [Ticket.zero], by simp [Ticket.zero]⟩
 refine ⟨?_, by show q.taxes.length ≤ _; omega⟩
 simp only [Bool.or_eq_true, Bool.not_eq_true', decide_eq_true_eq, not_or, Bool.not_eq_false] at h1
 have := Ll (F := F) (W := W) (X := (DP p W q).2) h1.1.2
 show (EQ F W (DP p W q).2 q.parts).length ≤ _
 omega
theorem PpOk.tk {x : Paper} (h : PpOk x) (hf : FitR x) : TkIn x.p x.t x.l x.q x.number x.day := by
 have h1 := hf.a; have h2 := hf.d
 exact ⟨⟨⟨⟨by omega, by omega⟩, by omega⟩, h.l, h.q, h.qo⟩, h.t, h.n, h.d, h.qx⟩
def fLI (x : Paper) : Prop × V := (PpOk x, .bool true)
noncomputable def tLI : Tab
 | 12 => (gOf PQ fun x => (PpOk x, vBB (Aa3 x)))
 | 13 => (gOf MG Wu)
 | 8 => (gOf PP Pu)
 | 14 => (gOf PP Pu)
 | 15 => (gOf aTT Aa1)
 | _ => gNo
theorem AcW : ∀ f, PU f (tLI f) := fun f => by
 unfold tLI
 split
 ·exact AhP
 ·exact Akz
 ·exact UN
 ·exact Re
 ·exact Aac
 ·exact Ao.no
set_option maxRecDepth 20000 in
theorem Qk : PU 4 (gOf PQ fLI) := by
 have hG := AcW
 refine fi4.a GZ (by simp [PQ]) ?_
 rintro ⟨⟨ps, ds⟩, ⟨fs, rs, gs, xs⟩, W, ⟨pa, pr, tx, fa, to⟩, ⟨la, fi, ty⟩, n, loc, d⟩ hv C hN Q hQ
 have Z := fi4.R EF0 hG hN
 have hP : PpOk ⟨⟨ps, ds⟩, ⟨fs, rs, gs, xs⟩, W, ⟨pa, pr, tx, fa, to⟩, ⟨la, fi, ty⟩, n, loc, d⟩ := hv
 have hR := AhQ _ hP
 obtain ⟨b, hb⟩ : ∃ b, b = Aa3 ⟨⟨ps, ds⟩, ⟨fs, rs, gs, xs⟩, W, ⟨pa, pr, tx, fa, to⟩, ⟨la, fi, ty⟩, n, loc, d⟩ := ⟨_, rfl⟩
 rw [← hb] at hR
 obtain ⟨y, hy⟩ : ∃ y, y = OM ⟨ps, ds⟩ fs W ⟨pa, pr, tx, fa, to⟩ ⟨la, fi, ty⟩ n loc d := ⟨_, rfl⟩
 have hts : Ys y.1 := by rw [hy]; exact AcE hP.qx
 obtain ⟨v, e⟩ := y
 dsimp only at hts
 refine Aa (Z 0 rfl ?_)
 simp only [go_sem, simprocAttr, PQ, Paper.enc, tLI, Iu, ES, Gm, Gn, tkV, Ay, ← hy]
 refine Aa (Aa (Z 1 rfl ?_))
 simp only [go_sem, simprocAttr, hP, ← hb, tLI, Iu, ES, Gm, Gn, tkV, Ay, ← hy]
 and_intros <;> try exact sdA
 refine Ab rfl (fun hb1 => ?_) fun hb1 => ?_
 ·refine Aa (Z 2 rfl ?_)
  simp only [go_sem, simprocAttr, tLI, Iu, ES, Gm, Gn, tkV, Ay, ← hy]
  and_intros <;> try exact sdA
  refine Ae (hQ _ _ (.inl rfl) ?_ ?_ ?_) <;> simp only [go_sem, simprocAttr, fLI]
 have hTk := hP.tk (hR (by simpa using hb1))
 refine Ac ?_
 refine Aa (Z 3 rfl ?_)
 simp only [go_sem, simprocAttr, hTk, tLI, Iu, ES, Gm, Gn, tkV, Ay, ← hy]
 and_intros <;> try exact sdA
 refine AW.le (s' := ⟨mkE [(1, .ptr 1 0), (3, .ptr 3 0), (4, .int .i64 e)], mkH ([(1, .box 41 [.list (ps.map Airport.enc) false, .list (ds.map Distance.enc) false, .list (fs.map Fare.enc) false, .list (rs.map Rule.enc) false, .list (gs.map Routing.enc) false, .list (xs.map Tax.enc) false, .list (W.map Want.enc) false, .list (pa.map Part.enc) false, .list (pr.map Two.enc) false, .list (tx.map Charge.enc) false, .int .i64 fa, .int .i64 to, .str la, .str fi, .str ty, .int .i64 n, .str loc, .int .i64 d]), (3, .box 47 (Ay v))])⟩) (Le.mk _ _ (by (simp only [go_sem, simprocAttr, Ay]) <;> and_intros <;> try exact leB) (by (simp only [go_sem, simprocAttr, Ay]) <;> and_intros <;> try exact leB) rfl) ?_
 refine Aa (Z 4 rfl ?_)
 simp only [go_sem, simprocAttr, hTk, tLI, Iu, ES, Gm, Gn, tkV, Ay, ← hy]
 and_intros <;> try exact sdA
 refine AW.le (s' := ⟨mkE [(3, .ptr 3 0), (4, .int .i64 e), (5, .ptr 5 0), (6, .int .i64 e)], mkH ([(3, .box 47 (Ay v)), (5, .box 47 (Ay v))])⟩) (Le.mk _ _ (by (simp only [go_sem, simprocAttr, Ay]) <;> and_intros <;> try exact leB) (by (simp only [go_sem, simprocAttr, Ay]) <;> and_intros <;> try exact leB) rfl) ?_
 refine Aa (Z 5 rfl ?_)
 simp only [go_sem, simprocAttr, hts, OZ, decide_true, Bool.not_true, tLI, Iu, ES, Gm, Gn, tkV, Ay, ← hy]
 and_intros <;> try exact sdA
 refine Ae (hQ _ _ (.inl rfl) ?_ ?_ ?_) <;> simp only [go_sem, simprocAttr, fLI]
end Go.Proofs.YtjkclhbckfkeeaaGreatDoor
namespace Go.Proofs.YtjkclhbckfkeeaaGreatDoor
end Go.Proofs.YtjkclhbckfkeeaaGreatDoor
namespace Go.Proofs.YtjkclhbckfkeeaaGreatDoor
open Go Go.ChangeShapes Go.WideShapes Go.ChangeAt Go.RowKit
theorem own : ownKnob Tryz.prog.godebug = none := by kernel_rfl
theorem laidOut : laidOutB Tryz.prog = true := by kernel_rfl
theorem Fy {H : Type} {enc : TypeId × Value → H} {P : Program} (hl : laidOutB P = true) {W W' : World} (hb : Below W.heap.size W W') :
  ∀ {ts : List TypeId} {vs : List Value} {ds : List (DataW H)} {ps : List MemPlace}, (∀ t ∈ ts, P.readableRec t = true ∧ t < P.types.size) →
   DataW.TrodAll enc P W 0 (fun _ => true) true ts vs ds ps → (∀ x ∈ ps, x.block < W.heap.size) →
   DataW.TrodAll enc P W' 0 (fun b => decide (b < W.heap.size)) true ts vs ds ps
 | [], [], [], _, _, h, _ => h
 | t :: ts, v :: vs, d :: ds, ps, hts, h, hlt => by
  obtain ⟨p, q, h1, h2, rfl⟩ := h
  exact ⟨p, q, Below.trod hl (hts t (.head _)).1 (hts t (.head _)).2 h1 hb (fun x hx => hlt x (List.mem_append_left _ hx)),
   Fy hl hb (fun t ht => hts t (.tail _ ht)) h2 (fun x hx => hlt x (List.mem_append_right _ hx)), rfl⟩
 | [], _ :: _, _, _, _, h, _ => h.elim
 | [], [], _ :: _, _, _, h, _ => h.elim
 | _ :: _, [], _, _, _, h, _ => h.elim
 | _ :: _, _ :: _, [], _, _, h, _ => h.elim
theorem law_post {H : Type} {enc : TypeId × Value → H} {f : Func} {s : ChangeSpec} {W W' : World} {args : Array Value} {ds : List (DataW H)} {before : List MemPlace}
  (hl : laidOutB Tryz.prog = true) (hts : ∀ t ∈ f.params.toList, Tryz.prog.readableRec t = true ∧ t < Tryz.prog.types.size) (hvars : s.vars = [])
  (hres : f.resultTypes = #[4]) (hW : DataW.Whole enc Tryz.prog f.params.toList s.vars false W args.toList ds [] before)
  (hfn : s.fn H (ds ++ []) = { results := [.lit (.bool true)], args := ds }) (hb : Below W.heap.size W W') :
  s.post enc Tryz.prog f false true false false W args (.bool true) W' := by
 have hlt := hW.lt
 have hW2 := hW
 obtain ⟨p, q, hA, hV, rfl, hfz, hnd⟩ := hW2
 have hq : q = [] := by
  rw [hvars] at hV
  exact hV
 subst hq
 refine ⟨ds, [], p ++ [], [], p, [], hW, ?_, ?_, ?_, hb.frame _, fun h => by cases h⟩
 ·rw [hfn, hres]
  exact trodAll_cons_mk (shut_bool Tryz.underlying4 _) trodAll_mk0
 ·rw [hfn]
  exact Fy hl hb hts hA (fun x hx => hlt x (List.mem_append_left _ hx))
 rw [hfn, hvars]
 exact rfl
end Go.Proofs.YtjkclhbckfkeeaaGreatDoor
