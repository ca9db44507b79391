import Derived.Test.YtjkclhbckfkeeaaGreatDoorPl13
import Derived.Test.YtjkclhbckfkeeaaGreatDoorIs1
import Derived.Test.YtjkclhbckfkeeaaGreatDoorGr1
set_option linter.unusedSimpArgs false
set_option linter.unusedVariables false
set_option linter.deprecated false
set_option maxHeartbeats 4000000
noncomputable section
namespace Go.Proofs.YtjkclhbckfkeeaaGreatDoor
open Go Go.RowKit
def aWy (x : Places × List (List UInt8)) : List V := [.agg x.1.enc, .list (strs x.2) false]
theorem Wo (a b : Places × List (List UInt8)) (h : aWy a = aWy b) : a = b := by
 obtain ⟨a_p, a_cs⟩ := a
 obtain ⟨b_p, b_cs⟩ := b
 simp only [aWy, Bz, V.str.injEq, V.int.injEq, V.bool.injEq, V.agg.injEq, V.list.injEq, and_true, true_and] at h
 obtain ⟨h0, h1⟩ := h
 replace h0 := Places.inj _ _ h0
 subst h0
 replace h1 := HP h1
 subst h1
 rfl
def WyP (x : Places × List (List UInt8)) : Prop := MOk x.1 /\ x.2.length <= 1000
theorem AaU {ps : List Airport} {ds : List Distance} (hd : ds.length <= 1000) (a b) : 0 <= (Eg ps ds a b).1 /\ (Eg ps ds a b).1 <= 100000000 := by
 unfold Eg
 split
 ·exact ⟨by decide, by decide⟩
 ·cases hg : Au (GS ds (BZ ps a)) (BZ ps b) with
  | none => exact ⟨by decide, by decide⟩
  | some v =>
   have h1 := (Aan hd (BZ ps a)).inv.get hg
   have h2 := Qd (ends (BZ ps a) ds) (GS ds (BZ ps a))
   rw [OO] at h2
   unfold NP; dsimp only
   omega
theorem Aaz {n : Int} : inI n ↔ -9223372036854775808 <= n /\ n <= 9223372036854775807 := Iff.rfl
def RW1 (_ : Places × List (List UInt8)) (y : Int × Int) : Prop := inI y.1
def tWy : Tab
 | 152 => (gOf aMi GN)
 | _ => gNo
theorem Amg : ∀ f, PU f (tWy f) := fun f => by
 unfold tWy
 split
 ·exact Ajf
 ·exact Aj.no
theorem Vb : ∃ F : Places × List (List UInt8) -> Int × Int, (∀ x, WyP x -> RW1 x (F x)) /\ PU 163 (gOf aWy fun x => (WyP x, Ak (F x))) := by
 have hG := Amg
 refine Sj.p (val := Ak) (R := RW1) Wo (by simp [aWy]) ?_
 rintro ⟨⟨ps, ds⟩, cs⟩ hv Q hQ
 have Y := Sj.E EF0 hG mixed
 have Z := Sj.T EF0 hG
 obtain ⟨hM, hcl⟩ : MOk ⟨ps, ds⟩ /\ cs.length <= 1000 := hv
 have hd : ds.length <= 1000 := hM.2
 refine Aa (Z 0 rfl ?_)
 simp only [go_sem, simprocAttr, aWy, Places.enc, tWy]
 refine Aa (Z 1 rfl ?_)
 simp only [go_sem, simprocAttr, tWy]
 refine Aa (Aa (Z 2 rfl ?_))
 simp only [go_sem, simprocAttr, tWy]
 refine Aq ?_
 refine Ba (α := Nat × Int) (fun γ => (0 <= γ.2 /\ γ.2 <= 100000000 * (γ.1 : Int)) /\ (γ.1 <= 1000)) (fun γ => ⟨mkE [(1, V.list (strs cs) false), (2, V.ptr 2 0), (6, .int .i64 γ.2), (7, .int .i64 γ.1)], mkH [(2, Ob.box 25 [V.list (List.map Airport.enc ps) false, V.list (List.map Distance.enc ds) false])]⟩) (fun γ => cs.length - γ.1) (0, 0) ⟨⟨by decide, by decide⟩, by decide⟩ ?_ ?_
 ·exact leM
 rintro ⟨j, s⟩ ⟨hs, hj⟩ KL0 hKL0
 try dsimp only at *
 refine Aa (Aa (Z 3 rfl ?_))
 simp only [go_sem, simprocAttr, inI, tWy]
 and_intros <;> try exact sdA
 refine Ad rfl (fun hc3 => ?_) fun hc3 => ?_
 ·have hc3 : j + 1 < cs.length := by simp at hc3; omega
  refine Af ?_
  refine Aa (Aq ?_)
  have hj0 : j < cs.length := by omega
  have e1 : ((j : Int) + 1).toNat = j + 1 := by omega
  have hbd := AaU (ps := ps) hd cs[j] cs[j + 1]
  refine Aa (Y 5 rfl (by kernel_rfl) ?_)
  simp only [go_sem, simprocAttr, inI, e1, Gz _ _ _ hj0, Gz _ _ _ hc3, hj0, hc3, Gm, hM, tWy]
  and_intros <;> try exact sdA
  refine Aa (Aa (Z 6 rfl ?_))
  simp only [go_sem, simprocAttr, tWy]
  refine Ad rfl (fun hc6 => ?_) fun hc6 => ?_
  ·simp only [hcL] at hc6
   refine Aa (Z 7 rfl ?_)
   simp only [go_sem, simprocAttr, tWy]
   refine Ae (hQ _ _ (.inl rfl) ?_ ?_ ?_) <;> simp only [go_sem, simprocAttr, Ak]
   exact ⟨(_, _), rfl, Aaz.2 ⟨by simp only; omega, by simp only; omega⟩⟩
  simp only [hcL] at hc6
  refine Af ?_
  refine Z 8 rfl ?_
  simp only [go_sem, simprocAttr, inI, tWy]
  and_intros <;> try exact sdA
  refine Z 4 rfl ?_
  simp only [go_sem, simprocAttr, inI, tWy]
  and_intros <;> try exact sdA
  refine hKL0 (j + 1, s + (Eg ps ds cs[j] cs[j + 1]).1) _ ?_ ?_ ?_
  ·(try dsimp only); exact ⟨by omega, by omega⟩
  ·(try dsimp only); omega
  exact leM
 refine AX ?_
 simp only [go_sem, simprocAttr]
 refine Aa (Z 9 rfl ?_)
 simp only [go_sem, simprocAttr, tWy]
 refine Ae (hQ _ _ (.inl rfl) ?_ ?_ ?_) <;> simp only [go_sem, simprocAttr, Ak]
 exact ⟨(_, _), rfl, Aaz.2 ⟨by simp only; omega, by simp only; omega⟩⟩
def fWy : Places × List (List UInt8) -> Int × Int := Vb.choose
theorem Aoe : ∀ x, WyP x -> RW1 x (fWy x) := Vb.choose_spec.1
theorem Aof : PU 163 (gOf aWy fun x => (WyP x, Ak (fWy x))) := Vb.choose_spec.2
theorem Ok (ps : List Airport) (ds : List Distance) (cs : List (List UInt8)) : gOf aWy (fun x => (WyP x, Ak (fWy x))) [.agg [.list (ps.map Airport.enc) false, .list (ds.map Distance.enc) false], .list (strs cs) false] = (WyP (⟨ps, ds⟩, cs), .tup [.int .i64 (fWy (⟨ps, ds⟩, cs)).1, .int .i64 (fWy (⟨ps, ds⟩, cs)).2]) := Al (F := fun x => (WyP x, Ak (fWy x))) Wo (⟨ps, ds⟩, cs)
def RI1 {α : Type} (_ : α) (y : Int × Int) : Prop := -1000 <= y.1 /\ y.1 <= 1000
theorem ri1 {α : Type} (x : α) {a b : Int} (h1 : -1000 <= a) (h2 : a <= 1000) : RI1 x (a, b) := ⟨h1, h2⟩
theorem Tl : ∃ F : Int × Int -> Int × Int, (∀ x, inI x.1 /\ inI x.2 -> RI1 x (F x)) /\ PU 164 (gOf Cj fun x => (inI x.1 /\ inI x.2, Ak (F x))) := by
 have hG := AJ
 refine Yy.p (val := Ak) (R := RI1) Ho (by simp [Cj]) ?_
 rintro ⟨n, m⟩ hv Q hQ
 have Z := Yy.T EF0 hG
 obtain ⟨h1, h2⟩ : inI n /\ inI m := hv
 refine Aa (Z 0 rfl ?_)
 simp only [go_sem, simprocAttr, Cj]
 refine Aa (Aa (Z 1 rfl ?_))
 simp only [go_sem, simprocAttr]
 and_intros <;> try exact sdA
 refine Ad rfl (fun hb1 => ?_) fun hb1 => ?_
 ·refine Aa (Z 2 rfl ?_)
  simp only [go_sem, simprocAttr]
  refine Ae (hQ _ _ (.inl rfl) ?_ ?_ ?_) <;> simp only [go_sem, simprocAttr, Ak]
  exact ⟨(0, 2), rfl, ri1 _ (by decide) (by decide)⟩
 simp only [Cg, decide_eq_false_iff_not] at hb1
 refine Af ?_
 refine Aa (Aa (Z 3 rfl ?_))
 simp only [go_sem, simprocAttr]
 refine Aq ?_
 refine Ba (α := Nat) (fun i => (i <= 30)) (fun i => ⟨mkE [(0, V.int IntKind.i64 n), (1, V.int IntKind.i64 m), (6, .int .i64 i)], mkH []⟩) (fun i => 30 - i) 0 (As _) ?_ ?_
 ·exact leM
 rintro i hi KL0 hKL0
 try dsimp only at *
 refine Aa (Aa (Z 4 rfl ?_))
 simp only [go_sem, simprocAttr]
 refine Ad rfl (fun hc4 => ?_) fun hc4 => ?_
 ·simp only [hcL] at hc4
  refine Af ?_
  refine Aa (Aq ?_)
  have hmm : m * (100 + (i : Int)) <= 1099511627776 * 200 := Int.le_trans (Int.mul_le_mul_of_nonneg_right (show m <= 1099511627776 by omega) (by omega)) (PR (by omega) (by decide))
  have hm0 : 0 <= m * (100 + (i : Int)) := Jg (by omega) (by omega)
  refine Aa (Z 6 rfl ?_)
  simp only [go_sem, simprocAttr, inI]
  and_intros <;> try exact sdA
  refine Ad rfl (fun hc6 => ?_) fun hc6 => ?_
  ·simp only [hcL] at hc6
   refine Aa (Z 7 rfl ?_)
   simp only [go_sem, simprocAttr]
   refine Ae (hQ _ _ (.inl rfl) ?_ ?_ ?_) <;> simp only [go_sem, simprocAttr, Ak]
   exact ⟨((i : Int), 0), rfl, ri1 _ (by omega) (by omega)⟩
  simp only [hcL] at hc6
  refine Af ?_
  refine Z 5 rfl ?_
  simp only [go_sem, simprocAttr, inI]
  and_intros <;> try exact sdA
  refine hKL0 (i + 5) _ ?_ ?_ ?_
  ·(try dsimp only); omega
  ·(try dsimp only); omega
  exact leM
 simp only [hcL] at hc4
 refine AX ?_
 simp only [go_sem, simprocAttr]
 refine Aa (Z 8 rfl ?_)
 simp only [go_sem, simprocAttr]
 refine Ae (hQ _ _ (.inl rfl) ?_ ?_ ?_) <;> simp only [go_sem, simprocAttr, Ak]
 exact ⟨(0, 22), rfl, ri1 _ (by decide) (by decide)⟩
def fLv : Int × Int -> Int × Int := Tl.choose
theorem Ahc : ∀ x : Int × Int, inI x.1 /\ inI x.2 -> RI1 x (fLv x) := Tl.choose_spec.1
theorem Ahd : PU 164 (gOf Cj fun x => (inI x.1 /\ inI x.2, Ak (fLv x))) := Tl.choose_spec.2
theorem NL (a b : Int) : gOf Cj (fun x => (inI x.1 /\ inI x.2, Ak (fLv x))) [.int .i64 a, .int .i64 b] = (inI a /\ inI b, .tup [.int .i64 (fLv (a, b)).1, .int .i64 (fLv (a, b)).2]) := Al (F := fun x => (inI x.1 /\ inI x.2, Ak (fLv x))) Ho (a, b)
def Hl (x : Places × List (List UInt8) × Int) : List V := [.agg x.1.enc, .list (strs x.2.1) false, .int .i64 x.2.2]
theorem Vx (a b : Places × List (List UInt8) × Int) (h : Hl a = Hl b) : a = b := by
 obtain ⟨a_p, a_cs, a_m⟩ := a
 obtain ⟨b_p, b_cs, b_m⟩ := b
 simp only [Hl, Bz, V.str.injEq, V.int.injEq, V.bool.injEq, V.agg.injEq, V.list.injEq, and_true, true_and] at h
 obtain ⟨h0, h1, h2⟩ := h
 replace h0 := Places.inj _ _ h0
 subst h0
 replace h1 := HP h1
 subst h1
 subst h2
 rfl
def O3P (x : Places × List (List UInt8) × Int) : Prop := WyP (x.1, x.2.1) /\ inI x.2.2
def KN : Tab
 | 163 => (gOf aWy fun x => (WyP x, Ak (fWy x)))
 | 164 => (gOf Cj fun x => (inI x.1 /\ inI x.2, Ak (fLv x)))
 | _ => gNo
theorem AlG : ∀ f, PU f (KN f) := fun f => by
 unfold KN
 split
 ·exact Aof
 ·exact Ahd
 ·exact Aj.no
theorem Tv : ∃ F : Places × List (List UInt8) × Int -> Int × Int, (∀ x, O3P x -> RI1 x (F x)) /\ PU 101 (gOf Hl fun x => (O3P x, Ak (F x))) := by
 have hG := AlG
 refine XU.p (val := Ak) (R := RI1) Vx (by simp [Hl]) ?_
 rintro ⟨⟨ps, ds⟩, cs, m⟩ hv Q hQ
 have Z := XU.T EF0 hG
 obtain ⟨hM, hm⟩ : WyP (⟨ps, ds⟩, cs) /\ inI m := hv
 have hW : inI (fWy (⟨ps, ds⟩, cs)).1 := Aoe _ hM
 refine Aa (Z 0 rfl ?_)
 simp only [go_sem, simprocAttr, Hl, Places.enc, KN, Ok, NL, hM, hm, hW]
 refine Aa (Z 1 rfl ?_)
 simp only [go_sem, simprocAttr, KN, Ok, NL, hM, hm, hW]
 and_intros <;> try exact sdA
 refine Aa (Aa (Z 2 rfl ?_))
 simp only [go_sem, simprocAttr, KN, Ok, NL, hM, hm, hW]
 refine Ad rfl (fun hc2 => ?_) fun hc2 => ?_
 ·simp only [hcL] at hc2
  refine Aa (Z 3 rfl ?_)
  simp only [go_sem, simprocAttr, KN, Ok, NL, hM, hm, hW]
  refine Ae (hQ _ _ (.inl rfl) ?_ ?_ ?_) <;> simp only [go_sem, simprocAttr, Ak]
  exact ⟨(_, _), rfl, ri1 _ (by decide) (by decide)⟩
 simp only [hcL] at hc2
 refine Af ?_
 refine Aa (Z 4 rfl ?_)
 simp only [go_sem, simprocAttr, KN, Ok, NL, hM, hm, hW]
 and_intros <;> try exact sdA
 refine Ae (hQ _ _ (.inl rfl) ?_ ?_ ?_) <;> simp only [go_sem, simprocAttr, Ak]
 exact ⟨(_, _), rfl, Ahc ((fWy (⟨ps, ds⟩, cs)).1, m) ⟨hW, hm⟩⟩
def fO3 : Places × List (List UInt8) × Int -> Int × Int := Tv.choose
theorem AhM : ∀ x, O3P x -> RI1 x (fO3 x) := Tv.choose_spec.1
theorem Abf : PU 101 (gOf Hl fun x => (O3P x, Ak (fO3 x))) := Tv.choose_spec.2
theorem Bt (ps : List Airport) (ds : List Distance) (cs : List (List UInt8)) (m : Int) : gOf Hl (fun x => (O3P x, Ak (fO3 x))) [.agg [.list (ps.map Airport.enc) false, .list (ds.map Distance.enc) false], .list (strs cs) false, .int .i64 m] = (O3P (⟨ps, ds⟩, cs, m), .tup [.int .i64 (fO3 (⟨ps, ds⟩, cs, m)).1, .int .i64 (fO3 (⟨ps, ds⟩, cs, m)).2]) := Al (F := fun x => (O3P x, Ak (fO3 x))) Vx (⟨ps, ds⟩, cs, m)
def RAm {α : Type} (_ : α) (y : Int × Int) : Prop := y.2 = 0 -> 0 <= y.1 /\ y.1 <= 1099511627776
theorem PY {α : Type} (x : α) {a h : Int} (ha : 0 <= a) (hh : 0 <= h) : RAm x (Gf a h) := by
 intro e
 unfold Gf at e ⊢
 split at e
 ·rename_i hf
  rw [if_pos hf]
  simp only [Bx] at hf
  have h1 := (Lw _).1 hf.2
  refine ⟨?_, h1.2⟩
  have h2 : 0 <= a * h := Jg ha hh
  unfold IB
  dsimp only
  omega
 ·exact absurd e (by decide)
def ApP (x : Int × Int) : Prop := 0 <= x.1 /\ inI x.1 /\ inI x.2
def tAp : Tab
 | 165 => (gOf Cj Ht)
 | _ => gNo
theorem Ac1 : ∀ f, PU f (tAp f) := fun f => by
 unfold tAp
 split
 ·exact AbV
 ·exact Aj.no
theorem Rq : ∃ F : Int × Int -> Int × Int, (∀ x, ApP x -> RAm x (F x)) /\ PU 102 (gOf Cj fun x => (ApP x, Ak (F x))) := by
 have hG := Ac1
 refine XV.p (val := Ak) (R := RAm) Ho (by simp [Cj]) ?_
 rintro ⟨a, p⟩ hv Q hQ
 have Z := XV.T EF0 hG
 obtain ⟨h0, h1, h2⟩ : 0 <= a /\ inI a /\ inI p := hv
 refine Aa (Z 0 rfl ?_)
 simp only [go_sem, simprocAttr, Cj, tAp, Cb, Ak]
 refine Aa (Aa (Z 1 rfl ?_))
 simp only [go_sem, simprocAttr, tAp, Cb, Ak]
 refine Aq ?_
 refine Ba (α := Nat) (fun i => (i <= 30)) (fun i => ⟨mkE [(0, V.int IntKind.i64 a), (1, V.int IntKind.i64 p), (6, .int .i64 i)], mkH []⟩) (fun i => 30 - i) 0 (As _) ?_ ?_
 ·exact leM
 rintro i hi KL0 hKL0
 try dsimp only at *
 refine Aa (Aa (Z 2 rfl ?_))
 simp only [go_sem, simprocAttr, tAp, Cb, Ak]
 refine Ad rfl (fun hc2 => ?_) fun hc2 => ?_
 ·simp only [hcL] at hc2
  refine Af ?_
  refine Aa (Aq ?_)
  refine Aa (Z 4 rfl ?_)
  simp only [go_sem, simprocAttr, tAp, Cb, Ak]
  refine Ad rfl (fun hc4 => ?_) fun hc4 => ?_
  ·simp only [hcL] at hc4
   refine Aa (Z 5 rfl ?_)
   simp only [go_sem, simprocAttr, inI, tAp, Cb, Ak]
   and_intros <;> try exact sdA
   refine Ae (hQ _ _ (.inl rfl) ?_ ?_ ?_) <;> simp only [go_sem, simprocAttr, Ak]
   exact ⟨Gf a ((100 + (i : Int)) * 100), rfl, PY _ h0 (by omega)⟩
  simp only [hcL] at hc4
  refine Af ?_
  refine Z 3 rfl ?_
  simp only [go_sem, simprocAttr, inI, tAp, Cb, Ak]
  and_intros <;> try exact sdA
  refine hKL0 (i + 5) _ ?_ ?_ ?_
  ·(try dsimp only); omega
  ·(try dsimp only); omega
  exact leM
 simp only [hcL] at hc2
 refine AX ?_
 simp only [go_sem, simprocAttr]
 refine Aa (Z 6 rfl ?_)
 simp only [go_sem, simprocAttr, tAp, Cb, Ak]
 refine Ae (hQ _ _ (.inl rfl) ?_ ?_ ?_) <;> simp only [go_sem, simprocAttr, Ak]
 exact ⟨(0, 2), rfl, fun e => absurd e (by decide)⟩
def fAp : Int × Int -> Int × Int := Rq.choose
theorem Aef : ∀ x, ApP x -> RAm x (fAp x) := Rq.choose_spec.1
theorem Aeg : PU 102 (gOf Cj fun x => (ApP x, Ak (fAp x))) := Rq.choose_spec.2
theorem ER (a b : Int) : gOf Cj (fun x => (ApP x, Ak (fAp x))) [.int .i64 a, .int .i64 b] = (ApP (a, b), .tup [.int .i64 (fAp (a, b)).1, .int .i64 (fAp (a, b)).2]) := Al (F := fun x => (ApP x, Ak (fAp x))) Ho (a, b)
def JH := ar (vg Rule.enc) (ar V.str (ao vi))
theorem VF : Ij JH := ijr (ijg Rule.inj) (ijr ijs (ijo iji))
def PyP (x : Rule × List UInt8 × Int) : Prop := RuleOk x.1 /\ Ms x.1 /\ 0 <= x.2.2 /\ inI x.2.2
theorem TK : ∃ F : Rule × List UInt8 × Int -> Int × Int, (∀ x, PyP x -> RAm x (F x)) /\ PU 103 (gOf JH fun x => (PyP x, Ak (F x))) := by
 have hG := Ac1
 refine XW.p (val := Ak) (R := RAm) VF (by simp [JH]) ?_
 rintro ⟨⟨a1, ⟨k, l, a, b, ⟨x, y, z⟩, t⟩, a3, a4, a5, a6, a7, a8⟩, u, n⟩ hv Q hQ
 have Z := XW.T EF0 hG
 obtain ⟨h1, h2, h3, h4⟩ : PyP (⟨a1, .mk k l a b ⟨x, y, z⟩ t, a3, a4, a5, a6, a7, a8⟩, u, n) := hv
 have hR5 : a8.length <= 1000000 := h1.p.1
 dsimp only at h3 h4
 refine Aa (Z 0 rfl ?_)
 simp only [go_sem, simprocAttr, JH, Rule.enc_at, tAp, Cb, Ak]
 refine Aa (Aa (Z 1 rfl ?_))
 simp only [go_sem, simprocAttr, tAp, Cb, Ak]
 refine Aq ?_
 refine Ba (α := Nat) (fun i => (i <= a8.length)) (fun i => ⟨mkE [(1, V.str u), (2, V.int IntKind.i64 n), (3, V.ptr 3 0), (8, .int .i64 i)], mkH [(3, Ob.box 135 [V.int IntKind.i64 a1, V.int IntKind.i64 k, V.list (List.map Cond.enc l) false, V.int IntKind.i64 a, V.int IntKind.i64 b, V.int IntKind.i64 x, V.int IntKind.i64 y, V.int IntKind.i64 z, V.list (strs t) false, V.list (Ao a3) false, V.int IntKind.i64 a4, V.int IntKind.i64 a5, V.int IntKind.i64 a6, V.int IntKind.i64 a7, V.list (List.map Pct.enc a8) false])]⟩) (fun i => a8.length - i) 0 (As _) ?_ ?_
 ·exact leM
 rintro i hi KL0 hKL0
 try dsimp only at *
 refine Aa (Aa (Z 2 rfl ?_))
 simp only [go_sem, simprocAttr, Ac, tAp, Cb, Ak]
 refine Ad rfl (fun hc2 => ?_) fun hc2 => ?_
 ·simp only [hcL] at hc2
  refine Af ?_
  refine Aa (Aq ?_)
  obtain ⟨⟨q1, q2⟩, hq⟩ : ∃ q, q = a8[i] := ⟨_, rfl⟩
  have hqo : KU a8[i] := h2 _ (AI hc2)
  rw [<- hq] at hqo
  obtain ⟨hq1, hq2⟩ : 0 <= q2 /\ q2 <= 1000 := hqo
  refine Aa (Z 4 rfl ?_)
  simp only [go_sem, simprocAttr, Ap _ _ _ _ hc2, hc2, Ac, <- hq, Pct.enc, tAp, Cb, Ak]
  and_intros <;> try exact sdA
  refine Ad rfl (fun hc4 => ?_) fun hc4 => ?_
  ·simp only [hcL] at hc4
   refine Aa (Z 5 rfl ?_)
   simp only [go_sem, simprocAttr, inI, Ap _ _ _ _ hc2, hc2, Ac, <- hq, Pct.enc, tAp, Cb, Ak]
   and_intros <;> try exact sdA
   refine Ae (hQ _ _ (.inl rfl) ?_ ?_ ?_) <;> simp only [go_sem, simprocAttr, Ak]
   exact ⟨Gf n (100 * q2), rfl, PY _ h3 (by omega)⟩
  simp only [hcL] at hc4
  refine Af ?_
  refine Z 3 rfl ?_
  simp only [go_sem, simprocAttr, inI, tAp, Cb, Ak]
  and_intros <;> try exact sdA
  refine hKL0 (i + 1) _ ?_ ?_ ?_
  ·(try dsimp only); exact hc2
  ·(try dsimp only); omega
  exact leM
 simp only [hcL] at hc2
 refine AX ?_
 simp only [go_sem, simprocAttr]
 refine Aa (Z 6 rfl ?_)
 simp only [go_sem, simprocAttr, tAp, Cb, Ak]
 and_intros <;> try exact sdA
 refine Ae (hQ _ _ (.inl rfl) ?_ ?_ ?_) <;> simp only [go_sem, simprocAttr, Ak]
 exact ⟨Gf n 10000, rfl, PY _ h3 (by decide)⟩
def fPy : Rule × List UInt8 × Int -> Int × Int := TK.choose
theorem AiQ : ∀ x, PyP x -> RAm x (fPy x) := TK.choose_spec.1
theorem AiS : PU 103 (gOf JH fun x => (PyP x, Ak (fPy x))) := TK.choose_spec.2
theorem AiR (a1 : Int) (k : Int) (l : List Cond) (a b x y z : Int) (t : List (List UInt8)) (a3 : List Int) (a4 a5 a6 a7 : Int) (a8 : List Pct) (u : List UInt8) (n : Int) : gOf JH (fun x => (PyP x, Ak (fPy x))) [.agg [.int .i64 a1, .int .i64 k, .list (l.map Cond.enc) false, .int .i64 a, .int .i64 b, .int .i64 x, .int .i64 y, .int .i64 z, .list (strs t) false, .list (Ao a3) false, .int .i64 a4, .int .i64 a5, .int .i64 a6, .int .i64 a7, .list (a8.map Pct.enc) false], .str u, .int .i64 n] = (PyP (⟨a1, .mk k l a b ⟨x, y, z⟩ t, a3, a4, a5, a6, a7, a8⟩, u, n), .tup [.int .i64 (fPy (⟨a1, .mk k l a b ⟨x, y, z⟩ t, a3, a4, a5, a6, a7, a8⟩, u, n)).1, .int .i64 (fPy (⟨a1, .mk k l a b ⟨x, y, z⟩ t, a3, a4, a5, a6, a7, a8⟩, u, n)).2]) := by
 rw [<- Rule.enc_at]; exact Al (F := fun x => (PyP x, Ak (fPy x))) VF (_, u, n)
def FC (z : Zone) : Prop := z.shifts.length <= 1000000 /\ (-2000 <= z.offset /\ z.offset <= 2000) /\ ∀ s ∈ z.shifts, -2000 <= s.offset /\ s.offset <= 2000
def aZU := ar (vg Zone.enc) (ao vi)
theorem OD : Ij aZU := ijr (ijg Zone.inj) (ijo iji)
def ROf (_ : Zone × Int) (y : Int) : Prop := -2000 <= y /\ y <= 2000
theorem Tx : ∃ F : Zone × Int -> Int, (∀ x, FC x.1 -> ROf x (F x)) /\ PU 197 (gOf aZU fun x => (FC x.1, vII (F x))) := by
 have hG := AJ
 refine YS.p (val := vII) (R := ROf) OD (by simp [aZU]) ?_
 rintro ⟨⟨zo, sh⟩, u⟩ hv Q hQ
 have Z := YS.T EF0 hG
 obtain ⟨h1, h2, h3⟩ : sh.length <= 1000000 /\ (-2000 <= zo /\ zo <= 2000) /\ ∀ s ∈ sh, -2000 <= s.offset /\ s.offset <= 2000 := hv
 refine Aa (Z 0 rfl ?_)
 simp only [go_sem, simprocAttr, aZU, Zone.enc]
 refine Aa (Z 1 rfl ?_)
 simp only [go_sem, simprocAttr]
 refine Aa (Aa (Z 2 rfl ?_))
 simp only [go_sem, simprocAttr]
 refine Aq ?_
 refine Ba (α := Nat × Int) (fun γ => (γ.1 <= sh.length) /\ (-2000 <= γ.2 /\ γ.2 <= 2000)) (fun γ => ⟨mkE [(1, V.int IntKind.i64 u), (2, V.ptr 2 0), (5, .int .i64 γ.2), (6, .int .i64 γ.1)], mkH [(2, Ob.box 86 [V.int IntKind.i64 zo, V.list (List.map Shift.enc sh) false])]⟩) (fun γ => sh.length - γ.1) (0, zo) ⟨As _, h2⟩ ?_ ?_
 ·exact leM
 rintro ⟨i, n⟩ ⟨hi, hn⟩ KL0 hKL0
 try dsimp only at *
 refine Aa (Aa (Z 3 rfl ?_))
 simp only [go_sem, simprocAttr, Ac]
 refine Ad rfl (fun hc3 => ?_) fun hc3 => ?_
 ·simp only [hcL] at hc3
  refine Af ?_
  refine Aa (Aq ?_)
  have h5 := h3 _ (AI hc3)
  refine Aa (Z 5 rfl ?_)
  simp only [go_sem, simprocAttr, Ap _ _ _ _ hc3, hc3, Ac, Shift.enc]
  and_intros <;> try exact sdA
  refine Ad rfl (fun hc5 => ?_) fun hc5 => ?_
  ·simp only [hcL] at hc5
   refine Z 6 rfl ?_
   simp only [go_sem, simprocAttr, Ap _ _ _ _ hc3, hc3, Ac, Shift.enc]
   and_intros <;> try exact sdA
   refine Z 4 rfl ?_
   simp only [go_sem, simprocAttr, inI]
   and_intros <;> try exact sdA
   refine hKL0 (i + 1, sh[i].offset) _ ?_ ?_ ?_
   ·(try dsimp only); exact ⟨hc3, h5⟩
   ·(try dsimp only); omega
   exact leM
  simp only [hcL] at hc5
  refine Af ?_
  refine Z 4 rfl ?_
  simp only [go_sem, simprocAttr, inI]
  and_intros <;> try exact sdA
  refine hKL0 (i + 1, n) _ ?_ ?_ ?_
  ·(try dsimp only); exact ⟨hc3, hn⟩
  ·(try dsimp only); omega
  exact leM
 simp only [hcL] at hc3
 refine AX ?_
 simp only [go_sem, simprocAttr]
 refine Aa (Z 7 rfl ?_)
 simp only [go_sem, simprocAttr]
 refine Ae (hQ _ _ (.inl rfl) ?_ ?_ ?_) <;> simp only [go_sem, simprocAttr, vII]
 exact ⟨_, rfl, hn⟩
def Kg : Zone × Int -> Int := Tx.choose
theorem AhN : ∀ x : Zone × Int, FC x.1 -> ROf x (Kg x) := Tx.choose_spec.1
theorem AhO : PU 197 (gOf aZU fun x => (FC x.1, vII (Kg x))) := Tx.choose_spec.2
theorem Abg (zo : Int) (sh : List Shift) (u : Int) : gOf aZU (fun x => (FC x.1, vII (Kg x))) [.agg [.int .i64 zo, .list (sh.map Shift.enc) false], .int .i64 u] = (FC ⟨zo, sh⟩, .int .i64 (Kg (⟨zo, sh⟩, u))) := Al (F := fun x => (FC x.1, vII (Kg x))) OD (⟨zo, sh⟩, u)
def LcP (x : Zone × Int) : Prop := FC x.1 /\ 0 <= x.2 /\ x.2 <= 52596000
def RLc (_ : Zone × Int) (y : Int) : Prop := -100000000 <= y /\ y <= 100000000
def tLc : Tab
 | 197 => (gOf aZU fun x => (FC x.1, vII (Kg x)))
 | _ => gNo
theorem Alw : ∀ f, PU f (tLc f) := fun f => by
 unfold tLc
 split
 ·exact AhO
 ·exact Aj.no
theorem Tj : ∃ F : Zone × Int -> Int, (∀ x, LcP x -> RLc x (F x)) /\ PU 162 (gOf aZU fun x => (LcP x, vII (F x))) := by
 have hG := Alw
 refine Yx.p (val := vII) (R := RLc) OD (by simp [aZU]) ?_
 rintro ⟨⟨zo, sh⟩, u⟩ hv Q hQ
 have Z := Yx.T EF0 hG
 obtain ⟨h1, h2, h3⟩ : FC ⟨zo, sh⟩ /\ 0 <= u /\ u <= 52596000 := hv
 obtain ⟨W, hW⟩ : ∃ W, W = Kg (⟨zo, sh⟩, u) := ⟨_, rfl⟩
 have hWb := AhN (⟨zo, sh⟩, u) h1
 rw [<- hW] at hWb
 obtain ⟨w1, w2⟩ : -2000 <= W /\ W <= 2000 := hWb
 refine Aa (Z 0 rfl ?_)
 simp only [go_sem, simprocAttr, aZU, Zone.enc, tLc, Abg, h1, <- hW]
 refine Aa (Z 1 rfl ?_)
 simp only [go_sem, simprocAttr, inI, tLc, Abg, h1, <- hW]
 and_intros <;> try exact sdA
 refine Ae (hQ _ _ (.inl rfl) ?_ ?_ ?_) <;> simp only [go_sem, simprocAttr, vII]
 exact ⟨_, rfl, by omega, by omega⟩
def Ii : Zone × Int -> Int := Tj.choose
theorem AaK : ∀ x : Zone × Int, LcP x -> RLc x (Ii x) := Tj.choose_spec.1
theorem AaL : PU 162 (gOf aZU fun x => (LcP x, vII (Ii x))) := Tj.choose_spec.2
theorem CH (zo : Int) (sh : List Shift) (u : Int) : gOf aZU (fun x => (LcP x, vII (Ii x))) [.agg [.int .i64 zo, .list (sh.map Shift.enc) false], .int .i64 u] = (LcP (⟨zo, sh⟩, u), .int .i64 (Ii (⟨zo, sh⟩, u))) := Al (F := fun x => (LcP x, vII (Ii x))) OD (⟨zo, sh⟩, u)
theorem EX {n : Int} (h1 : -9223372036854775808 <= n) (h2 : n <= 9223372036854775807) : inI n := ⟨h1, h2⟩
def SpP (n : Int) : Prop := -100000000 <= n /\ n <= 100000000
def RSp (_ : Int) (y : Int × Int) : Prop := inI y.1 /\ inI y.2
theorem Um : ∃ F : Int -> Int × Int, (∀ x, SpP x -> RSp x (F x)) /\ PU 161 (gOf aI1 fun x => (SpP x, Ak (F x))) := by
 have hG := AJ
 refine Yw.p (val := Ak) (R := RSp) IN (by simp [aI1]) ?_
 rintro n hv Q hQ
 have Z := Yw.T EF0 hG
 obtain ⟨h1, h2⟩ : -100000000 <= n /\ n <= 100000000 := hv
 have hb := UK n (k := 1440) (by decide)
 have hd := Ac6 (a := n) (b := 1440) (by decide) (by omega) (by omega)
 have he : -9223372036854775807 <= n.tdiv 1440 /\ n.tdiv 1440 <= 9223372036854775807 := by omega
 refine Aa (Z 0 rfl ?_)
 simp only [go_sem, simprocAttr, aI1]
 refine Aa (Z 1 rfl ?_)
 simp only [go_sem, simprocAttr]
 and_intros <;> try exact sdA
 refine Aa (Aa (Z 2 rfl ?_))
 simp only [go_sem, simprocAttr]
 refine Ad rfl (fun hc2 => ?_) fun hc2 => ?_
 ·simp only [hcL] at hc2
  refine Aa (Z 3 rfl ?_)
  simp only [go_sem, simprocAttr, inI]
  and_intros <;> try exact sdA
  refine Ae (hQ _ _ (.inl rfl) ?_ ?_ ?_) <;> simp only [go_sem, simprocAttr, Ak]
  exact ⟨(n.tdiv 1440 - 1, n.tmod 1440 + 1440), rfl, EX (show -9223372036854775808 <= n.tdiv 1440 - 1 by omega) (show n.tdiv 1440 - 1 <= 9223372036854775807 by omega), EX (show -9223372036854775808 <= n.tmod 1440 + 1440 by omega) (show n.tmod 1440 + 1440 <= 9223372036854775807 by omega)⟩
 simp only [hcL] at hc2
 refine Af ?_
 refine Aa (Z 4 rfl ?_)
 simp only [go_sem, simprocAttr]
 refine Ae (hQ _ _ (.inl rfl) ?_ ?_ ?_) <;> simp only [go_sem, simprocAttr, Ak]
 exact ⟨(n.tdiv 1440, n.tmod 1440), rfl, EX (show -9223372036854775808 <= n.tdiv 1440 by omega) (show n.tdiv 1440 <= 9223372036854775807 by omega), EX (show -9223372036854775808 <= n.tmod 1440 by omega) (show n.tmod 1440 <= 9223372036854775807 by omega)⟩
def fSp : Int -> Int × Int := Um.choose
theorem AcR : ∀ x : Int, SpP x -> RSp x (fSp x) := Um.choose_spec.1
theorem AcS : PU 161 (gOf aI1 fun x => (SpP x, Ak (fSp x))) := Um.choose_spec.2
theorem CK (n : Int) : gOf aI1 (fun x => (SpP x, Ak (fSp x))) [.int .i64 n] = (SpP n, .tup [.int .i64 (fSp n).1, .int .i64 (fSp n).2]) := Al (F := fun x => (SpP x, Ak (fSp x))) IN n
structure PlK (p : Places) : Prop where
 m : MOk p
 z : ∀ a ∈ p.airports, FC a.zone
theorem PlK.find {p : Places} (h : PlK p) (c : List UInt8) : FC ((BP (Ex c) p.airports).getD Airport.zero).zone := by
 cases hf : BP (Ex c) p.airports with
 | none => exact ⟨by decide, ⟨by decide, by decide⟩, fun s hs => nomatch hs⟩
 | some a => exact h.z a (List.mem_of_find?_eq_some hf)
structure TmOk (l : List Want) : Prop where
 n : l.length <= 900
 t : ∀ w ∈ l, (0 <= w.seg.dep /\ w.seg.dep <= 52596000) /\ 0 <= w.seg.arr /\ w.seg.arr <= 52596000
def aPW := ar (vg Places.enc) (ao (vl Want.enc))
theorem VD : Ij aPW := ijr (ijg Places.inj) (ijo (ijl Want.inj))
def CtP (x : Places × List Want) : Prop := BD x.1 /\ x.2.length <= 900
def Mu (x : Places × List Want) (y : List (List UInt8)) : Prop := y.length = if x.2 = [] then 0 else x.2.length + 1
theorem Ut : strs [] = [] := rfl
theorem Qu (g : List (List UInt8)) (s : List UInt8) : strs (g ++ [s]) = strs g ++ [[.str s]] := by simp [strs]
theorem Ak3 (a b : List UInt8) : strs [a, b] = [[.str a], [.str b]] := rfl
def vSS (l : List (List UInt8)) : V := .list (strs l) false
def tCt : Tab
 | 158 => (gOf aPs Gl)
 | _ => gNo
theorem Alk : ∀ f, PU f (tCt f) := fun f => by
 unfold tCt
 split
 ·exact AbE
 ·exact Aj.no
theorem RF : ∃ F : Places × List Want -> List (List UInt8), (∀ x, CtP x -> Mu x (F x)) /\ PU 94 (gOf aPW fun x => (CtP x, vSS (F x))) := by
 have hG := Alk
 refine Aaa.p (val := vSS) (R := Mu) VD (by simp [aPW]) ?_
 rintro ⟨⟨ps, ds⟩, W⟩ hv Q hQ
 have Z := Aaa.T EF0 hG
 obtain ⟨h1, h2⟩ : BD ⟨ps, ds⟩ /\ W.length <= 900 := hv
 refine Aa (Z 0 rfl ?_)
 simp only [go_sem, simprocAttr, aPW, Places.enc, tCt, FN, h1]
 refine Aa (Z 1 rfl ?_)
 simp only [go_sem, simprocAttr, tCt, FN, h1]
 refine Aa (Aa (Z 2 rfl ?_))
 simp only [go_sem, simprocAttr, tCt, FN, h1]
 refine Aq ?_
 refine Ba (α := Nat × (List (List UInt8))) (fun γ => (γ.1 <= W.length) /\ (γ.2.length = if γ.1 = 0 then 0 else γ.1 + 1)) (fun γ => ⟨mkE [(1, V.list (List.map Want.enc W) false), (2, V.ptr 2 0), (5, .own 999 γ.2.length), (6, .int .i64 γ.1)], mkH [(2, Ob.box 25 [V.list (List.map Airport.enc ps) false, V.list (List.map Distance.enc ds) false]), (999, .arr 9 1 (strs γ.2))]⟩) (fun γ => W.length - γ.1) (0, []) ⟨As _, rfl⟩ ?_ ?_
 ·exact leM
 rintro ⟨i, g⟩ ⟨hi, hg⟩ KL0 hKL0
 try dsimp only at *
 refine Aa (Aa (Z 3 rfl ?_))
 simp only [go_sem, simprocAttr, Ac, tCt, FN, h1]
 refine Ad rfl (fun hc3 => ?_) fun hc3 => ?_
 ·simp only [hcL] at hc3
  refine Af ?_
  refine Aa (Aq ?_)
  refine Aa ?_
  obtain ⟨⟨⟨ca, nu, da, fr, to, de, ar⟩, cl⟩, hw⟩ : ∃ w, w = W[i] := ⟨_, rfl⟩
  refine Aa (Z 5 rfl ?_)
  simp only [go_sem, simprocAttr, tCt, FN, h1]
  refine Ad rfl (fun hb5 => ?_) fun hb5 => ?_
  ·obtain rfl : i = 0 := by have := of_decide_eq_true hb5; omega
   obtain rfl : g = [] := List.eq_nil_of_length_eq_zero hg
   have hc30 : 0 < W.length := hc3
   refine FA (EF := EF0) hG mixed Am2 Ah7 ?_
   simp only [Rg, Xw, go_sem, simprocAttr, Ap _ _ _ _ hc3, hc3, Ac, <- hw, Want.enc, Ax, tCt, FN, h1]
   and_intros <;> try exact sdA
   refine FA (EF := EF0) hG mixed Add Abj ?_
   simp only [Oq, RI, go_sem, simprocAttr, Ap _ _ _ _ hc3, hc3, Ac, <- hw, Want.enc, Ax, Ut, Ef, Aw, tCt, FN, h1]
   and_intros <;> try exact sdA
   refine Z 4 rfl ?_
   simp only [go_sem, simprocAttr, inI, tCt, FN, h1]
   and_intros <;> try exact sdA
   refine hKL0 (0 + 1, [BZ ps fr, BZ ps to]) _ ?_ ?_ ?_
   ·(try dsimp only); exact ⟨hc3, rfl⟩
   ·(try dsimp only); omega
   refine Le.mk _ _ ?_ ?_ rfl <;> simp only [go_sem, simprocAttr, An, Aw, Ax, Ak3, Ut, Ef, DN] <;> and_intros <;> try exact leA
  have hi0 : ¬ i = 0 := fun e => by have := of_decide_eq_false hb5; omega
  rw [if_neg hi0] at hg
  refine Af ?_
  refine FA (EF := EF0) hG mixed Add Abj ?_
  simp only [Oq, RI, go_sem, simprocAttr, Ap _ _ _ _ hc3, hc3, Ac, <- hw, Want.enc, Ax, Ut, Ef, Aw, tCt, FN, h1]
  and_intros <;> try exact sdA
  refine Z 4 rfl ?_
  simp only [go_sem, simprocAttr, inI, tCt, FN, h1]
  and_intros <;> try exact sdA
  refine hKL0 (i + 1, g ++ [BZ ps to]) _ ?_ ?_ ?_
  ·(try dsimp only); exact ⟨hc3, by rw [if_neg (by omega), An, hg]; rfl⟩
  ·(try dsimp only); omega
  refine Le.mk _ _ ?_ ?_ rfl <;> simp only [go_sem, simprocAttr, An, Aw, Ax, Qu] <;> and_intros <;> try exact leA
 simp only [hcL] at hc3
 obtain rfl : i = W.length := by omega
 have hgl : Mu (⟨ps, ds⟩, W) g := by unfold Mu; dsimp only; rw [hg]; cases W <;> simp
 refine AX ?_
 simp only [go_sem, simprocAttr]
 refine Aa (Z 8 rfl ?_)
 simp only [go_sem, simprocAttr, tCt, FN, h1]
 refine TC.le (s' := ⟨mkE [(4, .list (strs g) false)], mkH []⟩) (Le.mk _ _ ?_ ?_ rfl) (Ae (hQ _ _ (.inl rfl) ?_ ?_ ?_)) <;> simp only [go_sem, simprocAttr, vSS]
 ·exact DA rfl (by rw [EL]) rfl (Qt _)
 exact ⟨g, rfl, hgl⟩
def aTr := ar (vg Places.enc) (ar (vl Want.enc) (ar V.str (ao vi)))
theorem Wh : Ij aTr := ijr (ijg Places.inj) (ijr (ijl Want.inj) (ijr ijs (ijo iji)))
structure TrP (x : Places × List Want × List UInt8 × Int) : Prop where
 p : PlK x.1
 t : TmOk x.2.1
 u : x.2.2.1.length <= 140737488355328
 s : inI x.2.2.2
 o : ∀ w ∈ x.2.1, w.ok
def RTr (_ : Places × List Want × List UInt8 × Int) (t : Trip) : Prop := TrpOk t
def Ju (t : Trip) : V := .agg t.enc
theorem Adh {u : List UInt8} {sa D M st tr : Int} {cs X : List (List UInt8)} {ns : List Int} (h1 : u.length <= 140737488355328) (h2 : inI sa) (h3 : inI D) (h4 : inI M) (h5 : 0 <= st /\ st <= 1000) (h6 : 0 <= tr /\ tr <= 1000) (h7 : cs.length <= 1000) (h8 : ns.length <= 1000) (h9 : X.length <= 1000) : TrpOk ⟨u, sa, D, M, st, tr, cs, ns, X⟩ :=
 ⟨h1, h2, h3, h4, EX (show -9223372036854775808 <= st by omega) (show st <= 9223372036854775807 by omega), EX (show -9223372036854775808 <= tr by omega) (show tr <= 9223372036854775807 by omega), show cs.length <= 140737488355328 by omega, show ns.length <= 140737488355328 by omega, show X.length <= 140737488355328 by omega⟩
instance : Inhabited Trip := ⟨Trip.zero⟩
def GL : Places × List Want -> List (List UInt8) := RF.choose
theorem RA : ∀ x, CtP x -> Mu x (GL x) := RF.choose_spec.1
theorem RB : PU 94 (gOf aPW fun x => (CtP x, vSS (GL x))) := RF.choose_spec.2
theorem AM (ps : List Airport) (ds : List Distance) (W : List Want) : gOf aPW (fun x => (CtP x, vSS (GL x))) [.agg [.list (ps.map Airport.enc) false, .list (ds.map Distance.enc) false], .list (W.map Want.enc) false] = (CtP (⟨ps, ds⟩, W), .list (strs (GL (⟨ps, ds⟩, W))) false) := Al (F := fun x => (CtP x, vSS (GL x))) VD (⟨ps, ds⟩, W)
theorem Tb (g : List Int) (n : Int) : Ao (g ++ [n]) = Ao g ++ [[.int .i64 n]] := by simp [Ao]
def tTr : Tab
 | 160 => (gOf aPs GM)
 | 162 => (gOf aZU fun x => (LcP x, vII (Ii x)))
 | 161 => (gOf aI1 fun x => (SpP x, Ak (fSp x)))
 | 94 => (gOf aPW fun x => (CtP x, vSS (GL x)))
 | _ => gNo
theorem Ama : ∀ f, PU f (tTr f) := fun f => by
 unfold tTr
 split
 ·exact TV
 ·exact AaL
 ·exact AcS
 ·exact RB
 ·exact Aj.no
theorem UO : ∃ F : Places × List Want × List UInt8 × Int -> Trip, (∀ x, TrP x -> RTr x (F x)) /\ PU 97 (gOf aTr fun x => (TrP x, Ju (F x))) := by
 have hG := Ama
 refine SG.p (val := Ju) (R := RTr) Wh (by simp [aTr]) ?_
 rintro ⟨⟨ps, ds⟩, W, u, sa⟩ hv Q hQ
 have Y := SG.E EF0 hG mixed
 have Z := SG.T EF0 hG
 obtain ⟨h1, ⟨h2, h3⟩, h4, h5, h6⟩ : TrP (⟨ps, ds⟩, W, u, sa) := hv
 dsimp only at h2 h3 h4 h5 h6
 have hL : BD ⟨ps, ds⟩ := h1.m.1
 have hC : CtP (⟨ps, ds⟩, W) := ⟨hL, h2⟩
 obtain ⟨C, hCe⟩ : ∃ C, C = GL (⟨ps, ds⟩, W) := ⟨_, rfl⟩
 have hCl := RA _ hC
 rw [<- hCe] at hCl
 refine Aa (Z 0 rfl ?_)
 simp only [go_sem, simprocAttr, aTr, Places.enc, tTr, Cn, CH, CK, AM, hL, hC, <- hCe]
 refine Aa (Z 1 rfl ?_)
 simp only [go_sem, simprocAttr, tTr, Cn, CH, CK, AM, hL, hC, <- hCe]
 refine Aa (Aa (Z 2 rfl ?_))
 simp only [go_sem, simprocAttr, Ac, tTr, Cn, CH, CK, AM, hL, hC, <- hCe]
 refine Ad rfl (fun hb2 => ?_) fun hb2 => ?_
 ·refine Aa (Z 3 rfl ?_)
  simp only [go_sem, simprocAttr, tTr, Cn, CH, CK, AM, hL, hC, <- hCe]
  refine TC.le (s' := ⟨mkE [(8, .ptr 8 0)], mkH [(8, .box 164 (Trip.enc ⟨u, sa, 0, 0, 0, 0, [], [], []⟩))]⟩) (Le.mk _ _ ?_ ?_ rfl) (Ae (hQ _ _ (.inl rfl) ?_ ?_ ?_)) <;> simp only [go_sem, simprocAttr, Ju, Trip.enc]
  ·exact ⟨.nill _, .nill _, .nill _⟩
  exact ⟨⟨u, sa, 0, 0, 0, 0, [], [], []⟩, rfl, Adh h4 h5 (EX (by decide) (by decide)) (EX (by decide) (by decide)) (by decide) (by decide) (by simp) (by simp) (by simp)⟩
 have hW0 : 0 < W.length := by simp at hb2; cases W <;> simp at hb2 ⊢
 obtain ⟨⟨⟨ca, nu, da, fr, to, de, ar⟩, cl⟩, hw⟩ : ∃ w, w = W[0] := ⟨_, rfl⟩
 have hwt := h3 _ (AI hW0)
 rw [<- hw] at hwt
 obtain ⟨⟨d1, d2⟩, -⟩ : (0 <= de /\ de <= 52596000) /\ _ := hwt
 have hF := h1.find fr
 obtain ⟨A, hA⟩ : ∃ A, A = BP (Ex fr) ps := ⟨_, rfl⟩
 dsimp only at hF
 rw [<- hA] at hF
 obtain ⟨⟨ac, ai, ao, ⟨zo, sh⟩⟩, hAg⟩ : ∃ a, a = A.getD Airport.zero := ⟨_, rfl⟩
 rw [<- hAg] at hF
 have hLc : LcP (⟨zo, sh⟩, de) := ⟨hF, d1, d2⟩
 obtain ⟨lo, hlo⟩ : ∃ n, n = Ii (⟨zo, sh⟩, de) := ⟨_, rfl⟩
 have hlb := AaK _ hLc
 rw [<- hlo] at hlb
 obtain ⟨l1, l2⟩ : -100000000 <= lo /\ lo <= 100000000 := hlb
 have hSp : SpP lo := ⟨l1, l2⟩
 obtain ⟨⟨D, M⟩, hDM⟩ : ∃ x, x = fSp lo := ⟨_, rfl⟩
 have hDb := AcR _ hSp
 rw [<- hDM] at hDb
 obtain ⟨hD, hM⟩ : inI D /\ inI M := hDb
 refine Af ?_
 refine Aa (FA (EF := EF0) hG mixed Am3 Ah8 ?_)
 simp only [Rh, Xx, go_sem, simprocAttr, Ap _ _ _ _ hW0, hW0, Ac, <- hw, Want.enc, Db, <- hA, <- hAg, Airport.enc, tTr, Cn, CH, CK, AM, hL, hC, <- hCe]
 and_intros <;> try exact sdA
 refine Aa (FA (EF := EF0) hG mixed Am4 Ah9 ?_)
 simp only [Ri, Xy, go_sem, simprocAttr, Ap _ _ _ _ hW0, hW0, Ac, <- hw, Want.enc, hLc, <- hlo, hSp, <- hDM, tTr, Cn, CH, CK, AM, hL, hC, <- hCe]
 and_intros <;> try exact sdA
 refine Aa (Aa (Z 6 rfl ?_))
 simp only [go_sem, simprocAttr, tTr, Cn, CH, CK, AM, hL, hC, <- hCe]
 refine Aq ?_
 refine Ba (α := Nat × (List (List UInt8)) × (List Int) × Int × Int) (fun γ => (γ.1 <= W.length) /\ (γ.2.1.length = γ.1) /\ (γ.2.2.1.length = γ.1) /\ (0 <= γ.2.2.2.1 /\ γ.2.2.2.1 <= γ.1) /\ (0 <= γ.2.2.2.2 /\ γ.2.2.2.2 <= γ.1)) (fun γ => ⟨mkE [(1, V.list (List.map Want.enc W) false), (4, V.ptr 4 0), (8, V.ptr 8 0), (9, V.ptr 9 0), (12, .int .i64 γ.1)], mkH [(4, Ob.box 25 [V.list (List.map Airport.enc ps) false, V.list (List.map Distance.enc ds) false]), (8, Ob.box 164 [V.str [], V.int IntKind.i64 0, V.int IntKind.i64 0, V.int IntKind.i64 0, V.int IntKind.i64 0, V.int IntKind.i64 0, V.nils, V.nils, V.nils]), (9, .box 164 [.str u, .int .i64 sa, .int .i64 D, .int .i64 M, .int .i64 γ.2.2.2.1, .int .i64 γ.2.2.2.2, .own 999 γ.2.1.length, .own 998 γ.2.2.1.length, .nils]), (998, .arr 3 1 (Ao γ.2.2.1)), (999, .arr 9 1 (strs γ.2.1))]⟩) (fun γ => W.length - γ.1) (0, [], [], 0, 0) ⟨As _, rfl, rfl, ⟨by decide, by decide⟩, by decide, by decide⟩ ?_ ?_
 ·exact leM
 rintro ⟨i, cs, ns, st, tr⟩ ⟨hi, hcs, hns, hst, htr⟩ KL0 hKL0
 try dsimp only at *
 refine Aa (Aa (Z 7 rfl ?_))
 simp only [go_sem, simprocAttr, Ac, tTr, Cn, CH, CK, AM, hL, hC, <- hCe]
 refine Ad rfl (fun hc7 => ?_) fun hc7 => ?_
 ·simp only [hcL] at hc7
  refine Af ?_
  refine Aa (Aq ?_)
  obtain ⟨⟨⟨ca1, nu1, da1, fr1, to1, de1, ar1⟩, cl1⟩, hw1⟩ : ∃ w, w = W[i] := ⟨_, rfl⟩
  have hwt1 := h3 _ (AI hc7)
  rw [<- hw1] at hwt1
  obtain ⟨⟨d3, d4⟩, -⟩ : (0 <= de1 /\ de1 <= 52596000) /\ _ := hwt1
  have hcl1 : cs.length <= 900 := by omega
  have hnl1 : ns.length <= 900 := by omega
  refine Aa (FA (EF := EF0) hG mixed Am5 Aia ?_)
  simp only [Rj, Xz, go_sem, simprocAttr, Ap _ _ _ _ hc7, hc7, Ac, <- hw1, Want.enc, EL, AG, tTr, Cn, CH, CK, AM, hL, hC, <- hCe]
  and_intros <;> try exact sdA
  refine Aa (Aa (Z 10 rfl ?_))
  simp only [go_sem, simprocAttr, tTr, Cn, CH, CK, AM, hL, hC, <- hCe]
  refine Ad rfl (fun hb10 => ?_) fun hb10 => ?_
  ·refine AX ?_
   simp only [go_sem, simprocAttr]
   refine Z 8 rfl ?_
   simp only [go_sem, simprocAttr, inI, tTr, Cn, CH, CK, AM, hL, hC, <- hCe]
   and_intros <;> try exact sdA
   refine hKL0 (i + 1, cs ++ [ca1], ns ++ [nu1], st, tr) _ ?_ ?_ ?_
   ·(try dsimp only); exact ⟨hc7, by rw [An, hcs]; rfl, by rw [An, hns]; rfl, by omega, by omega⟩
   ·(try dsimp only); omega
   refine Le.mk _ _ ?_ ?_ rfl <;> simp only [go_sem, simprocAttr, An, Aw, Ax, Qu, Tb] <;> and_intros <;> try exact leA
  have hi0 : 0 < i := by have := of_decide_eq_false hb10; omega
  have hj : i - 1 < W.length := by omega
  have e1 : ((i : Int) - 1).toNat = i - 1 := by omega
  obtain ⟨⟨⟨ca2, nu2, da2, fr2, to2, de2, ar2⟩, cl2⟩, hw2⟩ : ∃ w, w = W[i - 1] := ⟨_, rfl⟩
  have hwt2 := h3 _ (AI hj)
  rw [<- hw2] at hwt2
  obtain ⟨-, d5, d6⟩ : _ /\ 0 <= ar2 /\ ar2 <= 52596000 := hwt2
  refine Af ?_
  refine Aa (Y 11 rfl (by kernel_rfl) ?_)
  simp only [go_sem, simprocAttr, inI, e1, Ap _ _ _ _ hc7, Ap _ _ _ _ hj, hc7, hj, Ac, <- hw1, <- hw2, Want.enc, tTr, Cn, CH, CK, AM, hL, hC, <- hCe]
  and_intros <;> try exact sdA
  refine Ad rfl (fun hc11 => ?_) fun hc11 => ?_
  ·simp only [hcL] at hc11
   refine Z 12 rfl ?_
   simp only [go_sem, simprocAttr, inI, tTr, Cn, CH, CK, AM, hL, hC, <- hCe]
   and_intros <;> try exact sdA
   refine Z 8 rfl ?_
   simp only [go_sem, simprocAttr, inI, tTr, Cn, CH, CK, AM, hL, hC, <- hCe]
   and_intros <;> try exact sdA
   refine hKL0 (i + 1, cs ++ [ca1], ns ++ [nu1], st + 1, tr) _ ?_ ?_ ?_
   ·(try dsimp only); exact ⟨hc7, by rw [An, hcs]; rfl, by rw [An, hns]; rfl, by omega, by omega⟩
   ·(try dsimp only); omega
   refine Le.mk _ _ ?_ ?_ rfl <;> simp only [go_sem, simprocAttr, An, Aw, Ax, Qu, Tb] <;> and_intros <;> try exact leA
  simp only [hcL] at hc11
  refine Z 13 rfl ?_
  simp only [go_sem, simprocAttr, inI, tTr, Cn, CH, CK, AM, hL, hC, <- hCe]
  and_intros <;> try exact sdA
  refine Z 8 rfl ?_
  simp only [go_sem, simprocAttr, inI, tTr, Cn, CH, CK, AM, hL, hC, <- hCe]
  and_intros <;> try exact sdA
  refine hKL0 (i + 1, cs ++ [ca1], ns ++ [nu1], st, tr + 1) _ ?_ ?_ ?_
  ·(try dsimp only); exact ⟨hc7, by rw [An, hcs]; rfl, by rw [An, hns]; rfl, by omega, by omega⟩
  ·(try dsimp only); omega
  refine Le.mk _ _ ?_ ?_ rfl <;> simp only [go_sem, simprocAttr, An, Aw, Ax, Qu, Tb] <;> and_intros <;> try exact leA
 simp only [hcL] at hc7
 have hC2 : C.length = W.length + 1 := by have : C.length = if W = [] then 0 else W.length + 1 := hCl; rw [this, if_neg (by intro e; rw [e] at hW0; exact absurd hW0 (by decide))]
 have e2 : ((C.length : Int) - 1).toNat = C.length - 1 := by omega
 obtain ⟨X, hX, hXl⟩ : ∃ X, List.drop 1 (List.take (C.length - 1) (strs C)) = strs X /\ X.length <= 1000 := ⟨(C.take (C.length - 1)).drop 1, by simp [strs, List.map_drop, LM], by simp; omega⟩
 refine AX ?_
 simp only [go_sem, simprocAttr]
 refine Aa (Z 14 rfl ?_)
 simp only [go_sem, simprocAttr, tTr, Cn, CH, CK, AM, hL, hC, <- hCe]
 and_intros <;> try exact sdA
 refine Aa (Z 15 rfl ?_)
 simp only [go_sem, simprocAttr, inI, EL, e2, hX, tTr, Cn, CH, CK, AM, hL, hC, <- hCe]
 and_intros <;> try exact sdA
 refine Aa (Z 16 rfl ?_)
 simp only [go_sem, simprocAttr, tTr, Cn, CH, CK, AM, hL, hC, <- hCe]
 refine TC.le (s' := ⟨mkE [(8, .ptr 8 0)], mkH [(8, .box 164 (Trip.enc ⟨u, sa, D, M, st, tr, cs, ns, X⟩))]⟩) (Le.mk _ _ ?_ ?_ rfl) (Ae (hQ _ _ (.inl rfl) ?_ ?_ ?_)) <;> simp only [go_sem, simprocAttr, Ju, Trip.enc]
 ·exact ⟨QG rfl (by rw [EL]) rfl (Qt cs) rfl, QG rfl (by rw [AG]) rfl (Jf ns) rfl⟩
 exact ⟨_, rfl, Adh h4 h5 hD hM (by omega) (by omega) (by omega) (by omega) hXl⟩
def RIi {α : Type} (_ : α) (y : Int) : Prop := inI y
theorem TW {t : Tariff} (h : TarOk t) (n : Int) : RuleOk (fRl (t, n)).1 := by
 rcases AbQ (t, n) h with e | ⟨-, e⟩
 ·rw [e]; exact Rule.zero_ok
 ·exact h.ro _ e
theorem Aje {t : Tariff} (h : TarOk t) (hr : JA t) (n : Int) : Ms (fRl (t, n)).1 := by
 rcases AbQ (t, n) h with e | ⟨-, e⟩
 ·rw [e]; intro x hx; exact nomatch hx
 ·exact hr.2 _ e
theorem AbW {t : Tariff} (h : TarOk t) (n : Int) : (Fs (t, n)).1.ok /\ (Fs (t, n)).1.links.length <= 1000000 := by
 rcases Ajm (t, n) h with e | ⟨-, e⟩
 ·rw [e]; exact ⟨⟨EX (by decide) (by decide), ⟨by decide, fun x hx => nomatch hx⟩, EX (by decide) (by decide)⟩, by decide⟩
 ·exact h.go _ e
def aTF := ar (vg Tariff.enc) (ao (vg Fare.enc))
theorem VZ : Ij aTF := ijr (ijg Tariff.inj) (ijo (ijg Fare.inj))
def tMl : Tab
 | 98 => (gOf aTN fun x => (TarOk x.1, vGB (Fs x)))
 | _ => gNo
theorem AlC : ∀ f, PU f (tMl f) := fun f => by
 unfold tMl
 split
 ·exact TZ
 ·exact Aj.no
theorem To : ∃ F : Tariff × Fare -> Int, (∀ x, TarOk x.1 -> RIi x (F x)) /\ PU 100 (gOf aTF fun x => (TarOk x.1, vII (F x))) := by
 have hG := AlC
 refine XT.p (val := vII) (R := RIi) VZ (by simp [aTF]) ?_
 rintro ⟨⟨fs, rs, gs, xs⟩, ⟨ca, fr, to, ba, cl, rd, am, ru, rg⟩⟩ hv Q hQ
 have Z := XT.T EF0 hG
 have hT : TarOk ⟨fs, rs, gs, xs⟩ := hv
 obtain ⟨⟨⟨n, l, m⟩, b⟩, hR⟩ : ∃ y, y = Fs (⟨fs, rs, gs, xs⟩, rg) := ⟨_, rfl⟩
 have hm := (AbW hT rg).1
 rw [<- hR] at hm
 obtain ⟨-, -, hm⟩ : inI n /\ _ /\ inI m := hm
 refine Aa (Z 0 rfl ?_)
 simp only [go_sem, simprocAttr, aTF, Tariff.enc, Fare.enc, tMl, Bc, hT, <- hR]
 refine Aa (Z 1 rfl ?_)
 simp only [go_sem, simprocAttr, Routing.enc, tMl, Bc, hT, <- hR]
 and_intros <;> try exact sdA
 refine Aa (Aa (Z 2 rfl ?_))
 simp only [go_sem, simprocAttr, tMl, Bc, hT, <- hR]
 refine Ad rfl (fun hc2 => ?_) fun hc2 => ?_
 ·simp only [hcL] at hc2
  refine Aa (Z 3 rfl ?_)
  simp only [go_sem, simprocAttr, tMl, Bc, hT, <- hR]
  refine Ae (hQ _ _ (.inl rfl) ?_ ?_ ?_) <;> simp only [go_sem, simprocAttr, vII]
  exact ⟨0, rfl, EX (by decide) (by decide)⟩
 simp only [hcL] at hc2
 refine Af ?_
 refine Aa (Z 4 rfl ?_)
 simp only [go_sem, simprocAttr, tMl, Bc, hT, <- hR]
 refine Ae (hQ _ _ (.inl rfl) ?_ ?_ ?_) <;> simp only [go_sem, simprocAttr, vII]
 exact ⟨m, rfl, hm⟩
def fMl : Tariff × Fare -> Int := To.choose
theorem AaY : ∀ x : Tariff × Fare, TarOk x.1 -> RIi x (fMl x) := To.choose_spec.1
theorem AaZ : PU 100 (gOf aTF fun x => (TarOk x.1, vII (fMl x))) := To.choose_spec.2
theorem Bs (a : List Fare) (b : List Rule) (c : List Routing) (d : List Tax) (ca fr to ba cl : List UInt8) (rd : Bool) (am ru rg : Int) : gOf aTF (fun x => (TarOk x.1, vII (fMl x))) [.agg [.list (a.map Fare.enc) false, .list (b.map Rule.enc) false, .list (c.map Routing.enc) false, .list (d.map Tax.enc) false], .agg [.str ca, .str fr, .str to, .str ba, .str cl, .bool rd, .int .i64 am, .int .i64 ru, .int .i64 rg]] = (TarOk ⟨a, b, c, d⟩, .int .i64 (fMl (⟨a, b, c, d⟩, ⟨ca, fr, to, ba, cl, rd, am, ru, rg⟩))) := Al (F := fun x => (TarOk x.1, vII (fMl x))) VZ (⟨a, b, c, d⟩, ⟨ca, fr, to, ba, cl, rd, am, ru, rg⟩)
def JE := ar (vg Places.enc) (ao (vg Seg.enc))
theorem VA : Ij JE := ijr (ijg Places.inj) (ijo (ijg Seg.inj))
def DyP (x : Places × Seg) : Prop := PlK x.1 /\ 0 <= x.2.dep /\ x.2.dep <= 52596000
def RDy (_ : Places × Seg) (y : Int × Int) : Prop := inI y.1
def tDy : Tab
 | 160 => (gOf aPs GM)
 | 162 => (gOf aZU fun x => (LcP x, vII (Ii x)))
 | 161 => (gOf aI1 fun x => (SpP x, Ak (fSp x)))
 | _ => gNo
theorem Alq : ∀ f, PU f (tDy f) := fun f => by
 unfold tDy
 split
 ·exact TV
 ·exact AaL
 ·exact AcS
 ·exact Aj.no
theorem XH : ∃ F : Places × Seg -> Int × Int, (∀ x, DyP x -> RDy x (F x)) /\ PU 200 (gOf JE fun x => (DyP x, Ak (F x))) := by
 have hG := Alq
 refine YU.p (val := Ak) (R := RDy) VA (by simp [JE]) ?_
 rintro ⟨⟨ps, ds⟩, ⟨ca, nu, da, fr, to, de, ar⟩⟩ hv Q hQ
 have Z := YU.T EF0 hG
 obtain ⟨h1, d1, d2⟩ : PlK ⟨ps, ds⟩ /\ 0 <= de /\ de <= 52596000 := hv
 have hL : BD ⟨ps, ds⟩ := h1.m.1
 have hF := h1.find fr
 obtain ⟨A, hA⟩ : ∃ A, A = BP (Ex fr) ps := ⟨_, rfl⟩
 dsimp only at hF
 rw [<- hA] at hF
 obtain ⟨⟨ac, ai, ao, ⟨zo, sh⟩⟩, hAg⟩ : ∃ a, a = A.getD Airport.zero := ⟨_, rfl⟩
 rw [<- hAg] at hF
 have hLc : LcP (⟨zo, sh⟩, de) := ⟨hF, d1, d2⟩
 obtain ⟨lo, hlo⟩ : ∃ n, n = Ii (⟨zo, sh⟩, de) := ⟨_, rfl⟩
 have hlb := AaK _ hLc
 rw [<- hlo] at hlb
 obtain ⟨l1, l2⟩ : -100000000 <= lo /\ lo <= 100000000 := hlb
 have hSp : SpP lo := ⟨l1, l2⟩
 obtain ⟨⟨D, M⟩, hDM⟩ : ∃ x, x = fSp lo := ⟨_, rfl⟩
 have hDb := AcR _ hSp
 rw [<- hDM] at hDb
 obtain ⟨hD, hM⟩ : inI D /\ inI M := hDb
 refine Aa (Z 0 rfl ?_)
 simp only [go_sem, simprocAttr, JE, Places.enc, Seg.enc, tDy, Cn, CH, CK, hL, hLc, hSp]
 refine Aa (Z 1 rfl ?_)
 simp only [go_sem, simprocAttr, Db, <- hA, <- hAg, Airport.enc, tDy, Cn, CH, CK, hL, hLc, hSp]
 and_intros <;> try exact sdA
 refine Aa (Aa (Z 2 rfl ?_))
 simp only [go_sem, simprocAttr, tDy, Cn, CH, CK, hL, hLc, hSp]
 refine Ad rfl (fun hb2 => ?_) fun hb2 => ?_
 ·refine Aa (Z 3 rfl ?_)
  simp only [go_sem, simprocAttr, tDy, Cn, CH, CK, hL, hLc, hSp]
  refine Ae (hQ _ _ (.inl rfl) ?_ ?_ ?_) <;> simp only [go_sem, simprocAttr, Ak]
  exact ⟨(0, 14), rfl, EX (by decide) (by decide)⟩
 refine Af ?_
 refine Aa (Z 4 rfl ?_)
 simp only [go_sem, simprocAttr, <- hlo, <- hDM, tDy, Cn, CH, CK, hL, hLc, hSp]
 and_intros <;> try exact sdA
 refine Aa (Z 5 rfl ?_)
 simp only [go_sem, simprocAttr, tDy, Cn, CH, CK, hL, hLc, hSp]
 refine Ae (hQ _ _ (.inl rfl) ?_ ?_ ?_) <;> simp only [go_sem, simprocAttr, Ak]
 exact ⟨(D, 0), rfl, hD⟩
def Ll : Places × Seg -> Int × Int := XH.choose
theorem Afo : PU 200 (gOf JE fun x => (DyP x, Ak (Ll x))) := XH.choose_spec.2
theorem Ie (ps : List Airport) (ds : List Distance) (ca : List UInt8) (nu da : Int) (fr to : List UInt8) (de ar : Int) : gOf JE (fun x => (DyP x, Ak (Ll x))) [.agg [.list (ps.map Airport.enc) false, .list (ds.map Distance.enc) false], .agg [.str ca, .int .i64 nu, .int .i64 da, .str fr, .str to, .int .i64 de, .int .i64 ar]] = (DyP (⟨ps, ds⟩, ⟨ca, nu, da, fr, to, de, ar⟩), .tup [.int .i64 (Ll (⟨ps, ds⟩, ⟨ca, nu, da, fr, to, de, ar⟩)).1, .int .i64 (Ll (⟨ps, ds⟩, ⟨ca, nu, da, fr, to, de, ar⟩)).2]) := Al (F := fun x => (DyP x, Ak (Ll x))) VA (⟨ps, ds⟩, ⟨ca, nu, da, fr, to, de, ar⟩)
def aTP := ar (vg Tariff.enc) (ao (vg Part.enc))
theorem Wa : Ij aTP := ijr (ijg Tariff.inj) (ijo (ijg Part.inj))
def RlP (x : Tariff × Part) : Prop := TarOk x.1 /\ 0 <= x.2.fare /\ x.2.fare < x.1.fares.length
def RRu (_ : Tariff × Part) (r : Rule) : Prop := RuleOk r
def vRu (r : Rule) : V := .agg r.enc
instance : Inhabited Rule := ⟨Rule.zero⟩
def Og : Tab
 | 95 => (gOf aTN fun x => (TarOk x.1, vRB (fRl x)))
 | _ => gNo
theorem AlU : ∀ f, PU f (Og f) := fun f => by
 unfold Og
 split
 ·exact Qh
 ·exact Aj.no
theorem Ub : ∃ F : Tariff × Part -> Rule, (∀ x, RlP x -> RRu x (F x)) /\ PU 167 (gOf aTP fun x => (RlP x, vRu (F x))) := by
 have hG := AlU
 refine YB.p (val := vRu) (R := RRu) Wa (by simp [aTP]) ?_
 rintro ⟨⟨fs, rs, gs, xs⟩, ⟨pf, pt, pr, pa⟩⟩ hv Q hQ
 have Z := YB.T EF0 hG
 obtain ⟨hT, q1, q2⟩ : TarOk ⟨fs, rs, gs, xs⟩ /\ 0 <= pr /\ pr < fs.length := hv
 have hF : pr.toNat < fs.length := by omega
 obtain ⟨⟨ca, fr, to, ba, cl, rd, am, ru, rg⟩, hf⟩ : ∃ f, f = fs[pr.toNat] := ⟨_, rfl⟩
 obtain ⟨⟨⟨a1, ⟨k, l, a, b, ⟨x, y, z⟩, t⟩, a3, a4, a5, a6, a7, a8⟩, bb⟩, hR⟩ : ∃ y, y = fRl (⟨fs, rs, gs, xs⟩, ru) := ⟨_, rfl⟩
 have hro := TW hT ru
 rw [<- hR] at hro
 refine Aa (Z 0 rfl ?_)
 simp only [go_sem, simprocAttr, aTP, Tariff.enc, Part.enc, Og, AL, hT, <- hR]
 refine Aa (FA (EF := EF0) hG mixed AmM AhW ?_)
 simp only [QU, Xl, go_sem, simprocAttr, Ap _ _ _ _ hF, hF, Ac, <- hf, Fare.enc, q1, q2, Rule.enc_at, Og, AL, hT, <- hR]
 and_intros <;> try exact sdA
 refine Aa (Z 2 rfl ?_)
 simp only [go_sem, simprocAttr, Og, AL, hT, <- hR]
 refine Ae (hQ _ _ (.inl rfl) ?_ ?_ ?_) <;> simp only [go_sem, simprocAttr, vRu]
 exact ⟨⟨a1, .mk k l a b ⟨x, y, z⟩ t, a3, a4, a5, a6, a7, a8⟩, by rw [Rule.enc_at], hro⟩
def FQ : Tariff × Part -> Rule := Ub.choose
theorem Qi : ∀ x, RlP x -> RRu x (FQ x) := Ub.choose_spec.1
theorem Ab0 : PU 167 (gOf aTP fun x => (RlP x, vRu (FQ x))) := Ub.choose_spec.2
theorem Dj (a : List Fare) (b : List Rule) (c : List Routing) (d : List Tax) (p1 p2 p3 p4 : Int) : gOf aTP (fun x => (RlP x, vRu (FQ x))) [.agg [.list (a.map Fare.enc) false, .list (b.map Rule.enc) false, .list (c.map Routing.enc) false, .list (d.map Tax.enc) false], .agg [.int .i64 p1, .int .i64 p2, .int .i64 p3, .int .i64 p4]] = (RlP (⟨a, b, c, d⟩, ⟨p1, p2, p3, p4⟩), .agg (FQ (⟨a, b, c, d⟩, ⟨p1, p2, p3, p4⟩)).enc) := Al (F := fun x => (RlP x, vRu (FQ x))) Wa (⟨a, b, c, d⟩, ⟨p1, p2, p3, p4⟩)
theorem IG (r : Rule) (n m : Int) : gOf JK (fun x => (StP x, vII (Nb x))) [.agg r.enc, .int .i64 n, .int .i64 m] = (RuleOk r, .int .i64 (Nb (r, n, m))) := Al (F := fun x => (StP x, vII (Nb x))) VM (r, n, m)
theorem Aoj {a b : List Want} (h : a.map Want.enc = b.map Want.enc) : a = b := PM (fun x y h => Want.inj x y (by simpa using h)) |>.1 h
def aSy := ar (vg Places.enc) (ar (vg Tariff.enc) (ar (vl Want.enc) (ar (vg Part.enc) (ao (vg Part.enc)))))
theorem VY : Ij aSy := ijr (ijg Places.inj) (ijr (ijg Tariff.inj) (ijr (ijl Want.inj) (ijr (ijg Part.inj) (ijo (ijg Part.inj)))))
def PtP (t : Tariff) (w : List Want) (x : Part) : Prop := (0 <= x.from' /\ x.from' < w.length) /\ 0 <= x.fare /\ x.fare < t.fares.length
structure SyP (x : Places × Tariff × List Want × Part × Part) : Prop where
 p : PlK x.1
 t : TarOk x.2.1
 w : TmOk x.2.2.1
 a : PtP x.2.1 x.2.2.1 x.2.2.2.1
 b : PtP x.2.1 x.2.2.1 x.2.2.2.2
def tSy : Tab
 | 200 => (gOf JE fun x => (DyP x, Ak (Ll x)))
 | 167 => (gOf aTP fun x => (RlP x, vRu (FQ x)))
 | 201 => (gOf JK fun x => (StP x, vII (Nb x)))
 | _ => gNo
theorem Al3 : ∀ f, PU f (tSy f) := fun f => by
 unfold tSy
 split
 ·exact Afo
 ·exact Ab0
 ·exact AkQ
 ·exact Aj.no
theorem Ac0 : ∃ F : Places × Tariff × List Want × Part × Part -> Int, (∀ x, SyP x -> RT x (F x)) /\ PU 168 (gOf aSy fun x => (SyP x, vII (F x))) := by
 have hG := Al3
 refine Sl.p (val := vII) (R := RT) VY (by simp [aSy]) ?_
 rintro ⟨⟨ps, ds⟩, ⟨fs, rs, gs, xs⟩, W, ⟨af, at', ar, aa⟩, ⟨bf, bt, br, ba⟩⟩ hv Q hQ
 have Y := Sl.E EF0 hG mixed
 have Z := Sl.T EF0 hG
 obtain ⟨h1, h2, ⟨h3, h4⟩, ⟨⟨a1, a2⟩, a3, a4⟩, ⟨⟨b1, b2⟩, b3, b4⟩⟩ : SyP (⟨ps, ds⟩, ⟨fs, rs, gs, xs⟩, W, ⟨af, at', ar, aa⟩, ⟨bf, bt, br, ba⟩) := hv
 dsimp only at h3 h4 a1 a2 a3 a4 b1 b2 b3 b4
 have hA : af.toNat < W.length := by omega
 have hB : bf.toNat < W.length := by omega
 obtain ⟨⟨⟨ca, nu, da, fr, to, de, ar1⟩, cl⟩, hw⟩ : ∃ w, w = W[af.toNat] := ⟨_, rfl⟩
 have hwt := h4 _ (AI hA)
 rw [<- hw] at hwt
 obtain ⟨⟨⟨ca2, nu2, da2, fr2, to2, de2, ar2⟩, cl2⟩, hw2⟩ : ∃ w, w = W[bf.toNat] := ⟨_, rfl⟩
 have hwt2 := h4 _ (AI hB)
 rw [<- hw2] at hwt2
 have dA : DyP (⟨ps, ds⟩, ⟨ca, nu, da, fr, to, de, ar1⟩) := ⟨h1, hwt.1⟩
 have dB : DyP (⟨ps, ds⟩, ⟨ca2, nu2, da2, fr2, to2, de2, ar2⟩) := ⟨h1, hwt2.1⟩
 have rA : RlP (⟨fs, rs, gs, xs⟩, ⟨af, at', ar, aa⟩) := ⟨h2, a3, a4⟩
 have rB : RlP (⟨fs, rs, gs, xs⟩, ⟨bf, bt, br, ba⟩) := ⟨h2, b3, b4⟩
 have oA : RuleOk (FQ (⟨fs, rs, gs, xs⟩, ⟨af, at', ar, aa⟩)) := Qi _ rA
 have oB : RuleOk (FQ (⟨fs, rs, gs, xs⟩, ⟨bf, bt, br, ba⟩)) := Qi _ rB
 refine Aa (Z 0 rfl ?_)
 simp only [go_sem, simprocAttr, aSy, Places.enc, Tariff.enc, Part.enc, tSy, Ie, Dj, IG, rA, rB, oA, oB, dA, dB, Rule.pur]
 refine Aa (Y 1 rfl (by kernel_rfl) ?_)
 simp only [go_sem, simprocAttr, Ap _ _ _ _ hA, hA, Ac, <- hw, Want.enc, Seg.enc, a1, a2, tSy, Ie, Dj, IG, rA, rB, oA, oB, dA, dB, Rule.pur]
 and_intros <;> try exact sdA
 refine Aa (Y 2 rfl (by kernel_rfl) ?_)
 simp only [go_sem, simprocAttr, Ap _ _ _ _ hB, hB, Ac, <- hw2, Want.enc, Seg.enc, b1, b2, tSy, Ie, Dj, IG, rA, rB, oA, oB, dA, dB, Rule.pur]
 and_intros <;> try exact sdA
 refine Aa (Aa (Z 3 rfl ?_))
 simp only [go_sem, simprocAttr, tSy, Ie, Dj, IG, rA, rB, oA, oB, dA, dB, Rule.pur]
 and_intros <;> try exact sdA
 refine Ad rfl (fun hc3 => ?_) fun hc3 => ?_
 ·simp only [hcL] at hc3
  refine Aa (Z 4 rfl ?_)
  simp only [go_sem, simprocAttr, tSy, Ie, Dj, IG, rA, rB, oA, oB, dA, dB, Rule.pur]
  refine Ae (hQ _ _ (.inl rfl) ?_ ?_ ?_) <;> simp only [go_sem, simprocAttr, vII]
  exact ⟨_, rfl, trivial⟩
 simp only [hcL] at hc3
 refine Af ?_
 refine Aa (Aa (Z 5 rfl ?_))
 simp only [go_sem, simprocAttr, tSy, Ie, Dj, IG, rA, rB, oA, oB, dA, dB, Rule.pur]
 and_intros <;> try exact sdA
 refine Aa (Z 6 rfl ?_)
 simp only [go_sem, simprocAttr, tSy, Ie, Dj, IG, rA, rB, oA, oB, dA, dB, Rule.pur]
 refine Ad rfl (fun hc6 => ?_) fun hc6 => ?_
 ·simp only [hcL] at hc6
  refine Aa (Z 7 rfl ?_)
  simp only [go_sem, simprocAttr, tSy, Ie, Dj, IG, rA, rB, oA, oB, dA, dB, Rule.pur]
  refine Ae (hQ _ _ (.inl rfl) ?_ ?_ ?_) <;> simp only [go_sem, simprocAttr, vII]
  exact ⟨_, rfl, trivial⟩
 simp only [hcL] at hc6
 refine Af ?_
 refine Aa (Z 8 rfl ?_)
 simp only [go_sem, simprocAttr, tSy, Ie, Dj, IG, rA, rB, oA, oB, dA, dB, Rule.pur]
 and_intros <;> try exact sdA
 refine Ae (hQ _ _ (.inl rfl) ?_ ?_ ?_) <;> simp only [go_sem, simprocAttr, vII]
 exact ⟨_, rfl, trivial⟩
def fSy : Places × Tariff × List Want × Part × Part -> Int := Ac0.choose
theorem Ak6 : PU 168 (gOf aSy fun x => (SyP x, vII (fSy x))) := Ac0.choose_spec.2
def aAm := ar (vg Places.enc) (ar (vg Tariff.enc) (ar vi (ar (vl Want.enc) (ao V.str))))
theorem Vj : Ij aAm := ijr (ijg Places.inj) (ijr (ijg Tariff.inj) (ijr iji (ijr (ijl Want.inj) (ijo ijs))))
structure AmP (x : Places × Tariff × Int × List Want × List UInt8) : Prop where
 p : MOk x.1
 t : TarOk x.2.1
 r : JA x.2.1
 w : x.2.2.2.1.length <= 900
def tAm : Tab
 | 100 => (gOf aTF fun x => (TarOk x.1, vII (fMl x)))
 | 94 => (gOf aPW fun x => (CtP x, vSS (GL x)))
 | 101 => (gOf Hl fun x => (O3P x, Ak (fO3 x)))
 | 102 => (gOf Cj fun x => (ApP x, Ak (fAp x)))
 | 95 => (gOf aTN fun x => (TarOk x.1, vRB (fRl x)))
 | 103 => (gOf JH fun x => (PyP x, Ak (fPy x)))
 | _ => gNo
theorem Ak9 : ∀ f, PU f (tAm f) := fun f => by
 unfold tAm
 split
 ·exact AaZ
 ·exact RB
 ·exact Abf
 ·exact Aeg
 ·exact Qh
 ·exact AiS
 ·exact Aj.no
theorem Ro : ∃ F : Places × Tariff × Int × List Want × List UInt8 -> Int × Int, (∀ x, AmP x -> RAm x (F x)) /\ PU 49 (gOf aAm fun x => (AmP x, Ak (F x))) := by
 have hG := Ak9
 refine SA.p (val := Ak) (R := RAm) Vj (by simp [aAm]) ?_
 rintro ⟨⟨ps, ds⟩, ⟨fs, rs, gs, xs⟩, k, W, u⟩ hv Q hQ
 have Y := SA.E EF0 hG mixed
 have Z := SA.T EF0 hG
 obtain ⟨h1, h2, h3, h4⟩ : AmP (⟨ps, ds⟩, ⟨fs, rs, gs, xs⟩, k, W, u) := hv
 dsimp only at h4
 have hC : CtP (⟨ps, ds⟩, W) := ⟨h1.1, h4⟩
 obtain ⟨C, hCe⟩ : ∃ C, C = GL (⟨ps, ds⟩, W) := ⟨_, rfl⟩
 have hCl : C.length = if W = [] then 0 else W.length + 1 := by rw [hCe]; exact RA _ hC
 have hC9 : C.length <= 1000 := by rw [hCl]; split <;> omega
 have hWy : WyP (⟨ps, ds⟩, C) := ⟨h1, hC9⟩
 refine Aa (Z 0 rfl ?_)
 simp only [go_sem, simprocAttr, aAm, Places.enc, Tariff.enc, tAm, Bs, AM, Bt, ER, AL, h2, hC, <- hCe]
 refine Aa (Aa (Z 1 rfl ?_))
 simp only [go_sem, simprocAttr, Ac, tAm, Bs, AM, Bt, ER, AL, h2, hC, <- hCe]
 and_intros <;> try exact sdA
 refine Ad rfl (fun hb1 => ?_) fun hb1 => ?_
 ·refine Aa (Z 2 rfl ?_)
  simp only [go_sem, simprocAttr, tAm, Bs, AM, Bt, ER, AL, h2, hC, <- hCe]
  refine Ae (hQ _ _ (.inl rfl) ?_ ?_ ?_) <;> simp only [go_sem, simprocAttr, Ak]
  exact ⟨(0, 2), rfl, fun e => absurd e (by decide)⟩
 simp only [Cg, decide_eq_false_iff_not] at hb1
 have q1 : 0 <= k := by omega
 have q2 : k < fs.length := by omega
 have hF : k.toNat < fs.length := by omega
 have hfo := h3.1 _ (AI hF)
 obtain ⟨⟨ca, fr, to, ba, cl, rd, am, ru, rg⟩, hf⟩ : ∃ f, f = fs[k.toNat] := ⟨_, rfl⟩
 rw [<- hf] at hfo
 obtain ⟨f1, f2⟩ : 0 <= am /\ am <= 1099511627776 := hfo
 have hMi : inI (fMl (⟨fs, rs, gs, xs⟩, ⟨ca, fr, to, ba, cl, rd, am, ru, rg⟩)) := AaY _ h2
 obtain ⟨mi, hmi⟩ : ∃ m, m = fMl (⟨fs, rs, gs, xs⟩, ⟨ca, fr, to, ba, cl, rd, am, ru, rg⟩) := ⟨_, rfl⟩
 rw [<- hmi] at hMi
 have hO : O3P (⟨ps, ds⟩, C, mi) := ⟨hWy, hMi⟩
 have hOb := AhM _ hO
 obtain ⟨⟨pe, er⟩, hPe⟩ : ∃ x, x = fO3 (⟨ps, ds⟩, C, mi) := ⟨_, rfl⟩
 rw [<- hPe] at hOb
 obtain ⟨o1, o2⟩ : -1000 <= pe /\ pe <= 1000 := hOb
 refine Af ?_
 refine Aa (Z 3 rfl ?_)
 simp only [go_sem, simprocAttr, Ap _ _ _ _ hF, hF, Ac, <- hf, Fare.enc, q1, q2, tAm, Bs, AM, Bt, ER, AL, h2, hC, <- hCe]
 and_intros <;> try exact sdA
 refine Aa (Z 4 rfl ?_)
 simp only [go_sem, simprocAttr, tAm, Bs, AM, Bt, ER, AL, h2, hC, <- hCe]
 refine DT (α := Int) (fun p => (-1000 <= p /\ p <= 1000)) (fun p => ⟨mkE [(4, V.str u), (6, V.ptr 6 0), (12, V.ptr 12 0), (13, .int .i64 p)], mkH [(6, Ob.box 31 [V.list (List.map Fare.enc fs) false, V.list (List.map Rule.enc rs) false, V.list (List.map Routing.enc gs) false, V.list (List.map Tax.enc xs) false]), (12, Ob.box 96 [V.str ca, V.str fr, V.str to, V.str ba, V.str cl, V.bool rd, V.int IntKind.i64 am, V.int IntKind.i64 ru, V.int IntKind.i64 rg])]⟩) ?_ ?_
 ·intro KC5 hKC5
  refine Aa (Z 5 rfl ?_)
  simp only [go_sem, simprocAttr, <- hmi, tAm, Bs, AM, Bt, ER, AL, h2, hC, <- hCe]
  and_intros <;> try exact sdA
  refine Ad rfl (fun hc5 => ?_) fun hc5 => ?_
  ·simp only [hcL] at hc5
   refine Aa (Y 6 rfl (by kernel_rfl) ?_)
   simp only [go_sem, simprocAttr, <- hmi, hO, <- hPe, tAm, Bs, AM, Bt, ER, AL, h2, hC, <- hCe]
   and_intros <;> try exact sdA
   refine Aa (Aa (Z 7 rfl ?_))
   simp only [go_sem, simprocAttr, tAm, Bs, AM, Bt, ER, AL, h2, hC, <- hCe]
   refine Ad rfl (fun hc7 => ?_) fun hc7 => ?_
   ·simp only [hcL] at hc7
    refine Aa (Z 8 rfl ?_)
    simp only [go_sem, simprocAttr, tAm, Bs, AM, Bt, ER, AL, h2, hC, <- hCe]
    refine Ae (hQ _ _ (.inl rfl) ?_ ?_ ?_) <;> simp only [go_sem, simprocAttr, Ak]
    exact ⟨(0, er), rfl, fun e => absurd e hc7⟩
   simp only [hcL] at hc7
   refine Af ?_
   refine Z 9 rfl ?_
   simp only [go_sem, simprocAttr, tAm, Bs, AM, Bt, ER, AL, h2, hC, <- hCe]
   refine hKC5 (pe) _ ?_ ?_
   ·(try dsimp only); exact ⟨o1, o2⟩
   exact leM
  simp only [hcL] at hc5
  refine Af ?_
  refine hKC5 (0) _ ?_ ?_
  ·(try dsimp only); exact ⟨by decide, by decide⟩
  exact leM
 rintro p hp
 have hAp : ApP (am, p) := ⟨f1, EX (by omega) (by omega), EX (by omega) (by omega)⟩
 have hAb := Aef _ hAp
 obtain ⟨⟨am2, e2⟩, hA2⟩ : ∃ x, x = fAp (am, p) := ⟨_, rfl⟩
 rw [<- hA2] at hAb
 refine Aa (Z 10 rfl ?_)
 simp only [go_sem, simprocAttr, hAp, <- hA2, tAm, Bs, AM, Bt, ER, AL, h2, hC, <- hCe]
 and_intros <;> try exact sdA
 refine Aa (Aa (Z 11 rfl ?_))
 simp only [go_sem, simprocAttr, tAm, Bs, AM, Bt, ER, AL, h2, hC, <- hCe]
 refine Ad rfl (fun hc11 => ?_) fun hc11 => ?_
 ·simp only [hcL] at hc11
  refine Aa (Z 12 rfl ?_)
  simp only [go_sem, simprocAttr, tAm, Bs, AM, Bt, ER, AL, h2, hC, <- hCe]
  refine Ae (hQ _ _ (.inl rfl) ?_ ?_ ?_) <;> simp only [go_sem, simprocAttr, Ak]
  exact ⟨(0, e2), rfl, fun e => absurd e hc11⟩
 simp only [hcL] at hc11
 refine Af ?_
 have hAb2 : 0 <= am2 /\ am2 <= 1099511627776 := hAb (by simpa using hc11)
 obtain ⟨⟨⟨a1, ⟨c1, c2, c3, c4, ⟨x, y, z⟩, t⟩, a3, a4, a5, a6, a7, a8⟩, bb⟩, hR⟩ : ∃ y, y = fRl (⟨fs, rs, gs, xs⟩, ru) := ⟨_, rfl⟩
 have hro := TW h2 ru
 have hrp := Aje h2 h3 ru
 rw [<- hR] at hro hrp
 have hi2 : inI am2 := EX (by omega) (by omega)
 have hPy : PyP (⟨a1, .mk c1 c2 c3 c4 ⟨x, y, z⟩ t, a3, a4, a5, a6, a7, a8⟩, u, am2) := ⟨hro, hrp, hAb2.1, hi2⟩
 refine Aa (Z 13 rfl ?_)
 simp only [go_sem, simprocAttr, <- hR, Rule.enc_at, tAm, Bs, AM, Bt, ER, AL, h2, hC, <- hCe]
 and_intros <;> try exact sdA
 refine Aa (Z 14 rfl ?_)
 simp only [go_sem, simprocAttr, hPy, AiR, tAm, Bs, AM, Bt, ER, AL, h2, hC, <- hCe]
 and_intros <;> try exact sdA
 refine Ae (hQ _ _ (.inl rfl) ?_ ?_ ?_) <;> simp only [go_sem, simprocAttr, Ak]
 exact ⟨_, rfl, AiQ _ hPy⟩
def fAm : Places × Tariff × Int × List Want × List UInt8 -> Int × Int := Ro.choose
theorem Ad8 : ∀ x, AmP x -> RAm x (fAm x) := Ro.choose_spec.1
theorem Aea : PU 49 (gOf aAm fun x => (AmP x, Ak (fAm x))) := Ro.choose_spec.2
theorem Ad9 (ps : List Airport) (ds : List Distance) (a : List Fare) (b : List Rule) (c : List Routing) (d : List Tax) (k : Int) (W : List Want) (u : List UInt8) : gOf aAm (fun x => (AmP x, Ak (fAm x))) [.agg [.list (ps.map Airport.enc) false, .list (ds.map Distance.enc) false], .agg [.list (a.map Fare.enc) false, .list (b.map Rule.enc) false, .list (c.map Routing.enc) false, .list (d.map Tax.enc) false], .int .i64 k, .list (W.map Want.enc) false, .str u] = (AmP (⟨ps, ds⟩, ⟨a, b, c, d⟩, k, W, u), .tup [.int .i64 (fAm (⟨ps, ds⟩, ⟨a, b, c, d⟩, k, W, u)).1, .int .i64 (fAm (⟨ps, ds⟩, ⟨a, b, c, d⟩, k, W, u)).2]) := Al (F := fun x => (AmP x, Ak (fAm x))) Vj (⟨ps, ds⟩, ⟨a, b, c, d⟩, k, W, u)
end Go.Proofs.YtjkclhbckfkeeaaGreatDoor
end
