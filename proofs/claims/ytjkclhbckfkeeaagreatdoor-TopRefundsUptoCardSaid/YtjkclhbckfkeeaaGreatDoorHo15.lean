import Derived.Test.YtjkclhbckfkeeaaGreatDoorHo9
set_option linter.unusedSimpArgs false
set_option linter.unusedVariables false
set_option linter.deprecated false
set_option maxHeartbeats 4000000
noncomputable section
namespace Go.Proofs.YtjkclhbckfkeeaaGreatDoor
open Go Go.RowKit
def Da := ar (vg Tariff.enc) (ao (vl Part.enc))
theorem KW : Ij Da := ijr (ijg Tariff.inj) (ijo (ijl Part.inj))
def Hi (t : Tariff) (l : List Part) : Prop := ∀ p ∈ l, 0 <= p.fare /\ p.fare < t.fares.length
def KnP (x : Tariff × List Part) : Prop := x.1.fares.length <= 1000000 /\ x.2.length <= 1000000
def RKn (x : Tariff × List Part) (b : Bool) : Prop := b = true -> Hi x.1 x.2
theorem Ti : ∃ F : Tariff × List Part -> Bool, (∀ x, KnP x -> RKn x (F x)) /\ PU 109 (gOf Da fun x => (KnP x, vBB (F x))) := by
 have hG := AJ
 refine RZ.p (val := vBB) (R := RKn) KW (by simp [Da]) ?_
 rintro ⟨⟨fs, rs, gs, xs⟩, l⟩ hv Q hQ
 have Y := RZ.E EF0 hG mixed
 have Z := RZ.T EF0 hG
 obtain ⟨h1, h2⟩ : fs.length <= 1000000 /\ l.length <= 1000000 := hv
 refine Aa (Z 0 rfl ?_)
 simp only [go_sem, simprocAttr, Da, Tariff.enc]
 refine Aa (Aa (Z 1 rfl ?_))
 simp only [go_sem, simprocAttr]
 refine Aq ?_
 refine Ba (α := Nat) (fun i => (i <= l.length) /\ (Hi ⟨fs, rs, gs, xs⟩ (l.take i))) (fun i => ⟨mkE [(1, V.list (List.map Part.enc l) false), (2, V.ptr 2 0), (5, .int .i64 i)], mkH [(2, Ob.box 31 [V.list (List.map Fare.enc fs) false, V.list (List.map Rule.enc rs) false, V.list (List.map Routing.enc gs) false, V.list (List.map Tax.enc xs) false])]⟩) (fun i => l.length - i) 0 ⟨As _, fun p hp => nomatch hp⟩ ?_ ?_
 ·exact leM
 rintro i ⟨hi, hk⟩ KL0 hKL0
 try dsimp only at *
 refine Aa (Aa (Z 2 rfl ?_))
 simp only [go_sem, simprocAttr, Ac]
 refine Ad rfl (fun hc2 => ?_) fun hc2 => ?_
 ·simp only [hcL] at hc2
  refine Af ?_
  refine Aa (Aq ?_)
  obtain ⟨⟨pf, pt, pr, pa⟩, hp⟩ : ∃ p, p = l[i] := ⟨_, rfl⟩
  refine Aa (Y 4 rfl (by kernel_rfl) ?_)
  simp only [go_sem, simprocAttr, Ap _ _ _ _ hc2, hc2, Ac, <- hp, Part.enc]
  and_intros <;> try exact sdA
  refine Ad rfl (fun hb4 => ?_) fun hb4 => ?_
  ·refine Aa (Z 5 rfl ?_)
   simp only [go_sem, simprocAttr]
   refine Ae (hQ _ _ (.inl rfl) ?_ ?_ ?_) <;> simp only [go_sem, simprocAttr, vBB]
   exact ⟨false, rfl, fun e => by cases e⟩
  simp only [Cg, decide_eq_false_iff_not] at hb4
  refine Af ?_
  refine Z 3 rfl ?_
  simp only [go_sem, simprocAttr, inI]
  and_intros <;> try exact sdA
  refine hKL0 (i + 1) _ ?_ ?_ ?_
  ·(try dsimp only); exact ⟨hc2, Mo hk hc2 (by rw [<- hp]; exact ⟨show 0 <= pr by omega, show pr < fs.length by omega⟩)⟩
  ·(try dsimp only); omega
  exact leM
 simp only [hcL] at hc2
 rw [BR hc2] at hk
 refine AX ?_
 simp only [go_sem, simprocAttr]
 refine Aa (Z 6 rfl ?_)
 simp only [go_sem, simprocAttr]
 refine Ae (hQ _ _ (.inl rfl) ?_ ?_ ?_) <;> simp only [go_sem, simprocAttr, vBB]
 exact ⟨true, rfl, fun _ => hk⟩
def Ih : Tariff × List Part -> Bool := Ti.choose
theorem AaG : ∀ x, KnP x -> RKn x (Ih x) := Ti.choose_spec.1
theorem AaH : PU 109 (gOf Da fun x => (KnP x, vBB (Ih x))) := Ti.choose_spec.2
theorem CA (a : List Fare) (b : List Rule) (c : List Routing) (d : List Tax) (l : List Part) : gOf Da (fun x => (KnP x, vBB (Ih x))) [.agg [.list (a.map Fare.enc) false, .list (b.map Rule.enc) false, .list (c.map Routing.enc) false, .list (d.map Tax.enc) false], .list (l.map Part.enc) false] = (KnP (⟨a, b, c, d⟩, l), .bool (Ih (⟨a, b, c, d⟩, l))) := Al (F := fun x => (KnP x, vBB (Ih x))) KW (⟨a, b, c, d⟩, l)
def IQ := ar (vl Two.enc) (ao vi)
theorem VK : Ij IQ := ijr (ijl Two.inj) (ijo iji)
def PrP (x : List Two × Int) : Prop := x.1.length <= 1000000
theorem Abs : ∃ F : List Two × Int -> Bool, (∀ x, PrP x -> RT x (F x)) /\ PU 110 (gOf IQ fun x => (PrP x, vBB (F x))) := by
 have hG := AJ
 refine Ya.p (val := vBB) (R := RT) VK (by simp [IQ]) ?_
 rintro ⟨l, n⟩ hv Q hQ
 have Z := Ya.T EF0 hG
 have h1 : l.length <= 1000000 := hv
 refine Aa (Z 0 rfl ?_)
 simp only [go_sem, simprocAttr, IQ]
 refine Aa (Aa (Z 1 rfl ?_))
 simp only [go_sem, simprocAttr]
 refine Aq ?_
 refine Ba (α := Nat) (fun i => (i <= l.length)) (fun i => ⟨mkE [(0, V.list (List.map Two.enc l) false), (1, V.int IntKind.i64 n), (5, .int .i64 i)], mkH []⟩) (fun i => l.length - i) 0 (As _) ?_ ?_
 ·exact leM
 rintro i hi KL0 hKL0
 try dsimp only at *
 refine Aa (Aa (Z 2 rfl ?_))
 simp only [go_sem, simprocAttr, Ac]
 refine Ad rfl (fun hc2 => ?_) fun hc2 => ?_
 ·simp only [hcL] at hc2
  refine Af ?_
  refine Aa (Aq ?_)
  obtain ⟨⟨pa, pb⟩, hp⟩ : ∃ p, p = l[i] := ⟨_, rfl⟩
  refine Aa (Z 4 rfl ?_)
  simp only [go_sem, simprocAttr, Ap _ _ _ _ hc2, hc2, Ac, <- hp, Two.enc]
  and_intros <;> try exact sdA
  refine Ad rfl (fun hc4 => ?_) fun hc4 => ?_
  ·simp only [hcL] at hc4
   refine Aa (Z 5 rfl ?_)
   simp only [go_sem, simprocAttr]
   refine Ae (hQ _ _ (.inl rfl) ?_ ?_ ?_) <;> simp only [go_sem, simprocAttr, vBB]
   exact ⟨_, rfl, trivial⟩
  simp only [hcL] at hc4
  refine Af ?_
  refine Z 3 rfl ?_
  simp only [go_sem, simprocAttr, inI]
  and_intros <;> try exact sdA
  refine hKL0 (i + 1) _ ?_ ?_ ?_
  ·(try dsimp only); exact hc2
  ·(try dsimp only); omega
  exact leM
 simp only [hcL] at hc2
 refine AX ?_
 simp only [go_sem, simprocAttr]
 refine Aa (Z 6 rfl ?_)
 simp only [go_sem, simprocAttr]
 refine Ae (hQ _ _ (.inl rfl) ?_ ?_ ?_) <;> simp only [go_sem, simprocAttr, vBB]
 exact ⟨_, rfl, trivial⟩
def Lr : List Two × Int -> Bool := Abs.choose
theorem Abr : PU 110 (gOf IQ fun x => (PrP x, vBB (Lr x))) := Abs.choose_spec.2
theorem Di (l : List Two) (n : Int) : gOf IQ (fun x => (PrP x, vBB (Lr x))) [.list (l.map Two.enc) false, .int .i64 n] = (PrP (l, n), .bool (Lr (l, n))) := Al (F := fun x => (PrP x, vBB (Lr x))) VK (l, n)
def aFF := ar (vg Fare.enc) (ao (vg Fare.enc))
theorem Vo : Ij aFF := ijr (ijg Fare.inj) (ijo (ijg Fare.inj))
theorem AbY : ∃ F : Fare × Fare -> Bool, (∀ x, True -> RT x (F x)) /\ PU 170 (gOf aFF fun x => (True, vBB (F x))) := by
 have hG := AJ
 refine YD.p (val := vBB) (R := RT) Vo (by simp [aFF]) ?_
 rintro ⟨⟨ca, fr, to, ba, cl, rd, am, ru, rg⟩, ⟨ca2, fr2, to2, ba2, cl2, rd2, am2, ru2, rg2⟩⟩ hv Q hQ
 have Z := YD.T EF0 hG
 refine Aa (Z 0 rfl ?_)
 simp only [go_sem, simprocAttr, aFF, Fare.enc]
 refine Aa (Z 1 rfl ?_)
 simp only [go_sem, simprocAttr]
 and_intros <;> try exact sdA
 refine Ae (hQ _ _ (.inl rfl) ?_ ?_ ?_) <;> simp only [go_sem, simprocAttr, vBB]
 exact ⟨_, rfl, trivial⟩
def Ki : Fare × Fare -> Bool := AbY.choose
theorem Ajq : PU 170 (gOf aFF fun x => (True, vBB (Ki x))) := AbY.choose_spec.2
theorem Ajp (a b : Fare) : gOf aFF (fun x => (True, vBB (Ki x))) [.agg a.enc, .agg b.enc] = (True, .bool (Ki (a, b))) := Al (F := fun x => (True, vBB (Ki x))) Vo (a, b)
theorem KK (ca fr to ba cl : List UInt8) (rd : Bool) (am ru rg : Int) (ca2 fr2 to2 ba2 cl2 : List UInt8) (rd2 : Bool) (am2 ru2 rg2 : Int) : gOf aFF (fun x => (True, vBB (Ki x))) [.agg [.str ca, .str fr, .str to, .str ba, .str cl, .bool rd, .int .i64 am, .int .i64 ru, .int .i64 rg], .agg [.str ca2, .str fr2, .str to2, .str ba2, .str cl2, .bool rd2, .int .i64 am2, .int .i64 ru2, .int .i64 rg2]] = (True, .bool (Ki (⟨ca, fr, to, ba, cl, rd, am, ru, rg⟩, ⟨ca2, fr2, to2, ba2, cl2, rd2, am2, ru2, rg2⟩))) := Ajp ⟨ca, fr, to, ba, cl, rd, am, ru, rg⟩ ⟨ca2, fr2, to2, ba2, cl2, rd2, am2, ru2, rg2⟩
def aPn := ar (vg Tariff.enc) (ar (vl Part.enc) (ar (vl Two.enc) (ao vi)))
theorem VJ : Ij aPn := ijr (ijg Tariff.inj) (ijr (ijl Part.inj) (ijr (ijl Two.inj) (ijo iji)))
structure PnP (x : Tariff × List Part × List Two × Int) : Prop where
 f : x.1.fares.length <= 1000000
 l : x.2.1.length <= 1000000
 k : Hi x.1 x.2.1
 q : x.2.2.1.length <= 1000000
 i : 0 <= x.2.2.2 /\ x.2.2.2 < x.2.1.length
def RPn (x : Tariff × List Part × List Two × Int) (y : Int) : Prop := y < x.2.1.length
def tPn : Tab
 | 110 => (gOf IQ fun x => (PrP x, vBB (Lr x)))
 | 170 => (gOf aFF fun x => (True, vBB (Ki x)))
 | _ => gNo
theorem AlL : ∀ f, PU f (tPn f) := fun f => by
 unfold tPn
 split
 ·exact Abr
 ·exact Ajq
 ·exact Aj.no
theorem TF : ∃ F : Tariff × List Part × List Two × Int -> Int, (∀ x, PnP x -> RPn x (F x)) /\ PU 111 (gOf aPn fun x => (PnP x, vII (F x))) := by
 have hG := AlL
 refine Sa.p (val := vII) (R := RPn) VJ (by simp [aPn]) ?_
 rintro ⟨⟨fs, rs, gs, xs⟩, l, q, n⟩ hv Q hQ
 have Y := Sa.E EF0 hG mixed
 have Z := Sa.T EF0 hG
 obtain ⟨h1, h2, h3, h4, h5, h6⟩ : PnP (⟨fs, rs, gs, xs⟩, l, q, n) := hv
 dsimp only at h1 h2 h4 h5 h6
 have hq : ∀ k, PrP (q, k) := fun _ => h4
 obtain ⟨m, hm⟩ : ∃ m : Nat, n + 1 = m := ⟨(n + 1).toNat, by omega⟩
 have hn : n.toNat < l.length := by omega
 obtain ⟨⟨pf, pt, pr, pa⟩, hp⟩ : ∃ p, p = l[n.toNat] := ⟨_, rfl⟩
 have hpk := h3 _ (AI hn)
 rw [<- hp] at hpk
 obtain ⟨p1, p2⟩ : 0 <= pr /\ pr < fs.length := hpk
 have hpF : pr.toNat < fs.length := by omega
 obtain ⟨⟨ca, fr, to, ba, cl, rd, am, ru, rg⟩, hf⟩ : ∃ f, f = fs[pr.toNat] := ⟨_, rfl⟩
 refine Aa (Z 0 rfl ?_)
 simp only [go_sem, simprocAttr, aPn, Tariff.enc, tPn, Di, KK, hq]
 refine Aa (Aa (Z 1 rfl ?_))
 simp only [go_sem, simprocAttr, inI, hm, tPn, Di, KK, hq]
 and_intros <;> try exact sdA
 refine Aq ?_
 refine Ba (α := Nat) (fun i => (m <= i) /\ (i <= l.length)) (fun i => ⟨mkE [(1, V.list (List.map Part.enc l) false), (2, V.list (List.map Two.enc q) false), (3, V.int IntKind.i64 n), (4, V.ptr 4 0), (9, .int .i64 i)], mkH [(4, Ob.box 31 [V.list (List.map Fare.enc fs) false, V.list (List.map Rule.enc rs) false, V.list (List.map Routing.enc gs) false, V.list (List.map Tax.enc xs) false])]⟩) (fun i => l.length - i) m ⟨AF _, by omega⟩ ?_ ?_
 ·exact leM
 rintro i ⟨hi, hi2⟩ KL0 hKL0
 try dsimp only at *
 refine Aa (Aa (Z 2 rfl ?_))
 simp only [go_sem, simprocAttr, Ac, tPn, Di, KK, hq]
 refine Ad rfl (fun hc2 => ?_) fun hc2 => ?_
 ·simp only [hcL] at hc2
  refine Af ?_
  refine Aa (Aq ?_)
  obtain ⟨⟨pf2, pt2, pr2, pa2⟩, hp2⟩ : ∃ p, p = l[i] := ⟨_, rfl⟩
  have hpk2 := h3 _ (AI hc2)
  rw [<- hp2] at hpk2
  obtain ⟨p3, p4⟩ : 0 <= pr2 /\ pr2 < fs.length := hpk2
  have hpF2 : pr2.toNat < fs.length := by omega
  obtain ⟨⟨ca2, fr2, to2, ba2, cl2, rd2, am2, ru2, rg2⟩, hf2⟩ : ∃ f, f = fs[pr2.toNat] := ⟨_, rfl⟩
  refine Aa (Y 4 rfl (by kernel_rfl) ?_)
  simp only [go_sem, simprocAttr, Ap _ _ _ _ hc2, Ap _ _ _ _ hn, Ap _ _ _ _ hpF, Ap _ _ _ _ hpF2, hc2, hn, hpF, hpF2, Ac, <- hp, <- hp2, <- hf, <- hf2, Part.enc, Fare.enc, p1, p2, p3, p4, h5, h6, Fc, tPn, Di, KK, hq]
  and_intros <;> try exact sdA
  refine Ad rfl (fun hc4 => ?_) fun hc4 => ?_
  ·simp only [hcL] at hc4
   refine Aa (Z 5 rfl ?_)
   simp only [go_sem, simprocAttr, tPn, Di, KK, hq]
   refine Ae (hQ _ _ (.inl rfl) ?_ ?_ ?_) <;> simp only [go_sem, simprocAttr, vII]
   exact ⟨(i : Int), rfl, show (i : Int) < l.length by omega⟩
  simp only [hcL] at hc4
  refine Af ?_
  refine Z 3 rfl ?_
  simp only [go_sem, simprocAttr, inI, tPn, Di, KK, hq]
  and_intros <;> try exact sdA
  refine hKL0 (i + 1) _ ?_ ?_ ?_
  ·(try dsimp only); exact ⟨by omega, hc2⟩
  ·(try dsimp only); omega
  exact leM
 simp only [hcL] at hc2
 refine AX ?_
 simp only [go_sem, simprocAttr]
 refine Aa (Z 6 rfl ?_)
 simp only [go_sem, simprocAttr, tPn, Di, KK, hq]
 refine Ae (hQ _ _ (.inl rfl) ?_ ?_ ?_) <;> simp only [go_sem, simprocAttr, vII]
 exact ⟨-1, rfl, show (-1 : Int) < l.length by omega⟩
def fPn : Tariff × List Part × List Two × Int -> Int := TF.choose
theorem AiA : ∀ x, PnP x -> RPn x (fPn x) := TF.choose_spec.1
theorem AiB : PU 111 (gOf aPn fun x => (PnP x, vII (fPn x))) := TF.choose_spec.2
theorem Fx (a : List Fare) (b : List Rule) (c : List Routing) (d : List Tax) (l : List Part) (q : List Two) (n : Int) : gOf aPn (fun x => (PnP x, vII (fPn x))) [.agg [.list (a.map Fare.enc) false, .list (b.map Rule.enc) false, .list (c.map Routing.enc) false, .list (d.map Tax.enc) false], .list (l.map Part.enc) false, .list (q.map Two.enc) false, .int .i64 n] = (PnP (⟨a, b, c, d⟩, l, q, n), .int .i64 (fPn (⟨a, b, c, d⟩, l, q, n))) := Al (F := fun x => (PnP x, vII (fPn x))) VJ (⟨a, b, c, d⟩, l, q, n)
def Hg (y : List Two × Int) : V := .tup [.list (y.1.map Two.enc) false, .int .i64 y.2]
def JB (n : Nat) (l : List Two) : Prop := ∀ p ∈ l, (0 <= p.a /\ p.a < n) /\ 0 <= p.b /\ p.b < n
def RPs (x : Tariff × List Part) (y : List Two × Int) : Prop := y.1.length <= x.2.length /\ (y.2 = 0 -> Hi x.1 x.2 /\ JB x.2.length y.1)
theorem Ant (g : List Two) (a b : Int) : (g ++ [(⟨a, b⟩ : Two)]).map Two.enc = g.map Two.enc ++ [[.int .i64 a, .int .i64 b]] := by simp [Two.enc]
theorem JB.sn {n : Nat} {g : List Two} (h : JB n g) {a b : Int} (h1 : 0 <= a /\ a < n) (h2 : 0 <= b /\ b < n) : JB n (g ++ [⟨a, b⟩]) := fun p hp => by
 rcases BT.1 hp with hp | hp
 ·exact h p hp
 ·rw [Bp.1 hp]; exact ⟨h1, h2⟩
def tPs : Tab
 | 109 => (gOf Da fun x => (KnP x, vBB (Ih x)))
 | 110 => (gOf IQ fun x => (PrP x, vBB (Lr x)))
 | 111 => (gOf aPn fun x => (PnP x, vII (fPn x)))
 | _ => gNo
theorem AlO : ∀ f, PU f (tPs f) := fun f => by
 unfold tPs
 split
 ·exact AaH
 ·exact Abr
 ·exact AiB
 ·exact Aj.no
theorem TI : ∃ F : Tariff × List Part -> List Two × Int, (∀ x, KnP x -> RPs x (F x)) /\ PU 52 (gOf Da fun x => (KnP x, Hg (F x))) := by
 have hG := AlO
 refine SC.p (val := Hg) (R := RPs) KW (by simp [Da]) ?_
 rintro ⟨⟨fs, rs, gs, xs⟩, l⟩ hv Q hQ
 have Y := SC.E EF0 hG mixed
 have Z := SC.T EF0 hG
 have hK : KnP (⟨fs, rs, gs, xs⟩, l) := hv
 obtain ⟨h1, h2⟩ : fs.length <= 1000000 /\ l.length <= 1000000 := hv
 have hKR := AaG _ hK
 obtain ⟨kb, hkb⟩ : ∃ b, b = Ih (⟨fs, rs, gs, xs⟩, l) := ⟨_, rfl⟩
 rw [<- hkb] at hKR
 refine Aa (Z 0 rfl ?_)
 simp only [go_sem, simprocAttr, Da, Tariff.enc, tPs, CA, Di, Fx, hK, <- hkb]
 refine Aa (Aa (Z 1 rfl ?_))
 simp only [go_sem, simprocAttr, tPs, CA, Di, Fx, hK, <- hkb]
 and_intros <;> try exact sdA
 refine Ad rfl (fun hb1 => ?_) fun hb1 => ?_
 ·refine Aa (Z 2 rfl ?_)
  simp only [go_sem, simprocAttr, tPs, CA, Di, Fx, hK, <- hkb]
  refine TC.le (s' := ⟨mkE [(4, .list ([] : List (List V)) false), (5, .int .i64 19)], mkH []⟩) (Le.mk _ _ ?_ ?_ rfl) (Ae (hQ _ _ (.inl rfl) ?_ ?_ ?_)) <;> simp only [go_sem, simprocAttr, Hg]
  exact ⟨([], 19), rfl, As _, fun e => absurd e (by decide)⟩
 have hkt : Hi ⟨fs, rs, gs, xs⟩ l := hKR (by simpa using hb1)
 refine Af ?_
 refine Aa (Z 3 rfl ?_)
 simp only [go_sem, simprocAttr, tPs, CA, Di, Fx, hK, <- hkb]
 refine Aa (Aa (Z 4 rfl ?_))
 simp only [go_sem, simprocAttr, tPs, CA, Di, Fx, hK, <- hkb]
 refine Aq ?_
 refine Ba (α := Nat × (List Two)) (fun γ => (γ.1 <= l.length) /\ (γ.2.length <= γ.1) /\ (JB l.length γ.2)) (fun γ => ⟨mkE [(1, V.list (List.map Part.enc l) false), (2, V.ptr 2 0), (6, .own 999 γ.2.length), (7, .int .i64 γ.1)], mkH [(2, Ob.box 31 [V.list (List.map Fare.enc fs) false, V.list (List.map Rule.enc rs) false, V.list (List.map Routing.enc gs) false, V.list (List.map Tax.enc xs) false]), (999, .arr 181 2 (γ.2.map Two.enc))]⟩) (fun γ => l.length - γ.1) (0, []) ⟨As _, AF _, fun p hp => nomatch hp⟩ ?_ ?_
 ·exact leM
 rintro ⟨i, g⟩ ⟨hi, hg, hq⟩ KL0 hKL0
 try dsimp only at *
 refine Aa (Aa (Z 5 rfl ?_))
 simp only [go_sem, simprocAttr, Ac, tPs, CA, Di, Fx, hK, <- hkb]
 refine Ad rfl (fun hc5 => ?_) fun hc5 => ?_
 ·simp only [hcL] at hc5
  refine Af ?_
  refine Aa (Aq ?_)
  refine Aa ?_
  obtain ⟨⟨pf, pt, pr, pa⟩, hp⟩ : ∃ p, p = l[i] := ⟨_, rfl⟩
  have hpk := hkt _ (AI hc5)
  rw [<- hp] at hpk
  obtain ⟨p1, p2⟩ : 0 <= pr /\ pr < fs.length := hpk
  have hpF : pr.toNat < fs.length := by omega
  obtain ⟨⟨ca, fr, to, ba, cl, rd, am, ru, rg⟩, hf⟩ : ∃ f, f = fs[pr.toNat] := ⟨_, rfl⟩
  have hPr : PrP (g, (i : Int)) := show g.length <= 1000000 by omega
  have hPn : PnP (⟨fs, rs, gs, xs⟩, l, g, (i : Int)) := ⟨h1, h2, hkt, show g.length <= 1000000 by omega, show 0 <= (i : Int) by omega, show (i : Int) < l.length by omega⟩
  have hPb := AiA _ hPn
  obtain ⟨k, hk⟩ : ∃ k, k = fPn (⟨fs, rs, gs, xs⟩, l, g, (i : Int)) := ⟨_, rfl⟩
  rw [<- hk] at hPb
  refine Aa (Y 7 rfl (by kernel_rfl) ?_)
  simp only [go_sem, simprocAttr, Ap _ _ _ _ hc5, Ap _ _ _ _ hpF, hc5, hpF, Ac, <- hp, <- hf, Part.enc, Fare.enc, p1, p2, hPr, tPs, CA, Di, Fx, hK, <- hkb]
  and_intros <;> try exact sdA
  refine Ad rfl (fun hb7 => ?_) fun hb7 => ?_
  ·refine AX ?_
   simp only [go_sem, simprocAttr]
   refine Z 6 rfl ?_
   simp only [go_sem, simprocAttr, inI, tPs, CA, Di, Fx, hK, <- hkb]
   and_intros <;> try exact sdA
   refine hKL0 (i + 1, g) _ ?_ ?_ ?_
   ·(try dsimp only); exact ⟨hc5, by omega, hq⟩
   ·(try dsimp only); omega
   exact leM
  refine Af ?_
  refine Aa (Z 8 rfl ?_)
  simp only [go_sem, simprocAttr, hPn, <- hk, Ac, tPs, CA, Di, Fx, hK, <- hkb]
  and_intros <;> try exact sdA
  refine Aa (Aa (Z 9 rfl ?_))
  simp only [go_sem, simprocAttr, tPs, CA, Di, Fx, hK, <- hkb]
  refine Ad rfl (fun hb9 => ?_) fun hb9 => ?_
  ·refine Aa (Z 10 rfl ?_)
   simp only [go_sem, simprocAttr, tPs, CA, Di, Fx, hK, <- hkb]
   refine TC.le (s' := ⟨mkE [(4, .list ([] : List (List V)) false), (5, .int .i64 23)], mkH []⟩) (Le.mk _ _ ?_ ?_ rfl) (Ae (hQ _ _ (.inl rfl) ?_ ?_ ?_)) <;> simp only [go_sem, simprocAttr, Hg]
   exact ⟨([], 23), rfl, As _, fun e => absurd e (by decide)⟩
  have hk0 : 0 <= k := by have := of_decide_eq_false hb9; omega
  have hkl : k < l.length := hPb
  refine Af ?_
  refine Z 11 rfl ?_
  simp only [go_sem, simprocAttr, Ac, tPs, CA, Di, Fx, hK, <- hkb]
  and_intros <;> try exact sdA
  refine Z 6 rfl ?_
  simp only [go_sem, simprocAttr, inI, tPs, CA, Di, Fx, hK, <- hkb]
  and_intros <;> try exact sdA
  refine hKL0 (i + 1, g ++ [⟨i, k⟩]) _ ?_ ?_ ?_
  ·(try dsimp only); exact ⟨hc5, by simp; omega, hq.sn ⟨by omega, by omega⟩ ⟨hk0, hkl⟩⟩
  ·(try dsimp only); omega
  refine Le.mk _ _ ?_ ?_ rfl <;> simp only [go_sem, simprocAttr, An, Aw, Ax, Ant] <;> and_intros <;> try exact leA
 simp only [hcL] at hc5
 refine AX ?_
 simp only [go_sem, simprocAttr]
 refine Aa (Z 12 rfl ?_)
 simp only [go_sem, simprocAttr, tPs, CA, Di, Fx, hK, <- hkb]
 refine TC.le (s' := ⟨mkE [(4, .list (g.map Two.enc) false), (5, .int .i64 0)], mkH []⟩) (Le.mk _ _ ?_ ?_ rfl) (Ae (hQ _ _ (.inl rfl) ?_ ?_ ?_)) <;> simp only [go_sem, simprocAttr, Hg]
 ·exact DA rfl (by rw [Ac]) rfl ((Two.purs g).2 trivial)
 exact ⟨(g, 0), rfl, show g.length <= l.length by omega, fun _ => ⟨hkt, hq⟩⟩
def fPs : Tariff × List Part -> List Two × Int := TI.choose
theorem TG : ∀ x, KnP x -> RPs x (fPs x) := TI.choose_spec.1
theorem TH : PU 52 (gOf Da fun x => (KnP x, Hg (fPs x))) := TI.choose_spec.2
theorem AZ (a : List Fare) (b : List Rule) (c : List Routing) (d : List Tax) (l : List Part) : gOf Da (fun x => (KnP x, Hg (fPs x))) [.agg [.list (a.map Fare.enc) false, .list (b.map Rule.enc) false, .list (c.map Routing.enc) false, .list (d.map Tax.enc) false], .list (l.map Part.enc) false] = (KnP (⟨a, b, c, d⟩, l), .tup [.list ((fPs (⟨a, b, c, d⟩, l)).1.map Two.enc) false, .int .i64 (fPs (⟨a, b, c, d⟩, l)).2]) := Al (F := fun x => (KnP x, Hg (fPs x))) KW (⟨a, b, c, d⟩, l)
theorem Gw (r s : Rule) : gOf aRR (fun x => (RrP x, vBB (MS x))) [.agg r.enc, .agg s.enc] = (RrP (r, s), .bool (MS (r, s))) := Al (F := fun x => (RrP x, vBB (MS x))) VO (r, s)
def MxP (x : Tariff × List Part) : Prop := TarOk x.1 /\ x.2.length <= 1000000
def Fz : Tab
 | 109 => (gOf Da fun x => (KnP x, vBB (Ih x)))
 | 167 => (gOf aTP fun x => (RlP x, vRu (FQ x)))
 | 166 => (gOf aRR fun x => (RrP x, vBB (MS x)))
 | _ => gNo
theorem AlE : ∀ f, PU f (Fz f) := fun f => by
 unfold Fz
 split
 ·exact AaH
 ·exact Ab0
 ·exact Aho
 ·exact Aj.no
theorem Aa3 : ∃ F : Tariff × List Part -> Int, (∀ x, MxP x -> RT x (F x)) /\ PU 105 (gOf Da fun x => (MxP x, vII (F x))) := by
 have hG := AlE
 refine RW.p (val := vII) (R := RT) KW (by simp [Da]) ?_
 rintro ⟨⟨fs, rs, gs, xs⟩, l⟩ hv Q hQ
 have Y := RW.E EF0 hG mixed
 have Z := RW.T EF0 hG
 obtain ⟨h1, h2⟩ : TarOk ⟨fs, rs, gs, xs⟩ /\ l.length <= 1000000 := hv
 have hK : KnP (⟨fs, rs, gs, xs⟩, l) := ⟨h1.f, h2⟩
 have hKR := AaG _ hK
 obtain ⟨kb, hkb⟩ : ∃ b, b = Ih (⟨fs, rs, gs, xs⟩, l) := ⟨_, rfl⟩
 rw [<- hkb] at hKR
 refine Aa (Z 0 rfl ?_)
 simp only [go_sem, simprocAttr, Da, Tariff.enc, Fz, CA, Dj, Gw, hK, <- hkb]
 refine Aa (Aa (Z 1 rfl ?_))
 simp only [go_sem, simprocAttr, Fz, CA, Dj, Gw, hK, <- hkb]
 and_intros <;> try exact sdA
 refine Ad rfl (fun hb1 => ?_) fun hb1 => ?_
 ·refine Aa (Z 2 rfl ?_)
  simp only [go_sem, simprocAttr, Fz, CA, Dj, Gw, hK, <- hkb]
  refine Ae (hQ _ _ (.inl rfl) ?_ ?_ ?_) <;> simp only [go_sem, simprocAttr, vII]
  exact ⟨_, rfl, trivial⟩
 have hkt : Hi ⟨fs, rs, gs, xs⟩ l := hKR (by simpa using hb1)
 refine Af ?_
 refine Aa (Aa (Z 3 rfl ?_))
 simp only [go_sem, simprocAttr, Fz, CA, Dj, Gw, hK, <- hkb]
 refine Aq ?_
 refine Ba (α := Nat) (fun i => (i <= l.length)) (fun i => ⟨mkE [(1, V.list (List.map Part.enc l) false), (2, V.ptr 2 0), (5, .int .i64 i)], mkH [(2, Ob.box 31 [V.list (List.map Fare.enc fs) false, V.list (List.map Rule.enc rs) false, V.list (List.map Routing.enc gs) false, V.list (List.map Tax.enc xs) false])]⟩) (fun i => l.length - i) 0 (As _) ?_ ?_
 ·exact leM
 rintro i hi KL0 hKL0
 try dsimp only at *
 refine Aa (Aa (Z 4 rfl ?_))
 simp only [go_sem, simprocAttr, Ac, Fz, CA, Dj, Gw, hK, <- hkb]
 refine Ad rfl (fun hc4 => ?_) fun hc4 => ?_
 ·simp only [hcL] at hc4
  refine Af ?_
  refine Aa (Aq ?_)
  obtain ⟨⟨pf, pt, pr, pa⟩, hp⟩ : ∃ p, p = l[i] := ⟨_, rfl⟩
  have hpk := hkt _ (AI hc4)
  rw [<- hp] at hpk
  have rA : RlP (⟨fs, rs, gs, xs⟩, ⟨pf, pt, pr, pa⟩) := ⟨h1, hpk.1, hpk.2⟩
  have oA : RuleOk (FQ (⟨fs, rs, gs, xs⟩, ⟨pf, pt, pr, pa⟩)) := Qi _ rA
  refine Aa (Z 6 rfl ?_)
  simp only [go_sem, simprocAttr, Fz, CA, Dj, Gw, hK, <- hkb]
  refine Aq ?_
  refine Ba (α := Nat) (fun j => (j <= i)) (fun j => ⟨mkE [(1, V.list (List.map Part.enc l) false), (2, V.ptr 2 0), (5, V.int IntKind.i64 ↑i), (6, .int .i64 j)], mkH [(2, Ob.box 31 [V.list (List.map Fare.enc fs) false, V.list (List.map Rule.enc rs) false, V.list (List.map Routing.enc gs) false, V.list (List.map Tax.enc xs) false])]⟩) (fun j => i - j) 0 (As _) ?_ ?_
  ·exact leM
  rintro j hj KL2 hKL2
  try dsimp only at *
  refine Aa (Aa (Z 7 rfl ?_))
  simp only [go_sem, simprocAttr, Fz, CA, Dj, Gw, hK, <- hkb]
  refine Ad rfl (fun hc7 => ?_) fun hc7 => ?_
  ·simp only [hcL] at hc7
   refine Af ?_
   refine Aa (Aq ?_)
   have hjl : j < l.length := by omega
   obtain ⟨⟨pf2, pt2, pr2, pa2⟩, hp2⟩ : ∃ p, p = l[j] := ⟨_, rfl⟩
   have hpk2 := hkt _ (AI hjl)
   rw [<- hp2] at hpk2
   have rB : RlP (⟨fs, rs, gs, xs⟩, ⟨pf2, pt2, pr2, pa2⟩) := ⟨h1, hpk2.1, hpk2.2⟩
   have oB : RuleOk (FQ (⟨fs, rs, gs, xs⟩, ⟨pf2, pt2, pr2, pa2⟩)) := Qi _ rB
   have oAB : RrP (FQ (⟨fs, rs, gs, xs⟩, ⟨pf, pt, pr, pa⟩), FQ (⟨fs, rs, gs, xs⟩, ⟨pf2, pt2, pr2, pa2⟩)) := ⟨oA, oB⟩
   refine Aa (Y 9 rfl (by kernel_rfl) ?_)
   simp only [go_sem, simprocAttr, Ap _ _ _ _ hc4, Ap _ _ _ _ hjl, hc4, hjl, Ac, <- hp, <- hp2, Part.enc, rA, rB, oAB, Rule.pur, Fz, CA, Dj, Gw, hK, <- hkb]
   and_intros <;> try exact sdA
   refine Ad rfl (fun hc9 => ?_) fun hc9 => ?_
   ·simp only [hcL] at hc9
    refine Aa (Z 10 rfl ?_)
    simp only [go_sem, simprocAttr, Fz, CA, Dj, Gw, hK, <- hkb]
    refine Ae (hQ _ _ (.inl rfl) ?_ ?_ ?_) <;> simp only [go_sem, simprocAttr, vII]
    exact ⟨_, rfl, trivial⟩
   simp only [hcL] at hc9
   refine Af ?_
   refine Z 8 rfl ?_
   simp only [go_sem, simprocAttr, inI, Fz, CA, Dj, Gw, hK, <- hkb]
   and_intros <;> try exact sdA
   refine hKL2 (j + 1) _ ?_ ?_ ?_
   ·(try dsimp only); omega
   ·(try dsimp only); omega
   exact leM
  simp only [hcL] at hc7
  refine AX ?_
  simp only [go_sem, simprocAttr]
  refine Z 5 rfl ?_
  simp only [go_sem, simprocAttr, inI, Fz, CA, Dj, Gw, hK, <- hkb]
  and_intros <;> try exact sdA
  refine hKL0 (i + 1) _ ?_ ?_ ?_
  ·(try dsimp only); exact hc4
  ·(try dsimp only); omega
  exact leM
 simp only [hcL] at hc4
 refine AX ?_
 simp only [go_sem, simprocAttr]
 refine Aa (Z 11 rfl ?_)
 simp only [go_sem, simprocAttr, Fz, CA, Dj, Gw, hK, <- hkb]
 refine Ae (hQ _ _ (.inl rfl) ?_ ?_ ?_) <;> simp only [go_sem, simprocAttr, vII]
 exact ⟨_, rfl, trivial⟩
def MU : Tariff × List Part -> Int := Aa3.choose
theorem Ahy : PU 105 (gOf Da fun x => (MxP x, vII (MU x))) := Aa3.choose_spec.2
theorem HD (a : List Fare) (b : List Rule) (c : List Routing) (d : List Tax) (l : List Part) : gOf Da (fun x => (MxP x, vII (MU x))) [.agg [.list (a.map Fare.enc) false, .list (b.map Rule.enc) false, .list (c.map Routing.enc) false, .list (d.map Tax.enc) false], .list (l.map Part.enc) false] = (MxP (⟨a, b, c, d⟩, l), .int .i64 (MU (⟨a, b, c, d⟩, l))) := Al (F := fun x => (MxP x, vII (MU x))) KW (⟨a, b, c, d⟩, l)
theorem Aoi {a b : List Part} (h : a.map Part.enc = b.map Part.enc) : a = b := PM (fun x y h => Part.inj x y (by simpa using h)) |>.1 h
def aSs := ar (vg Places.enc) (ar (vg Tariff.enc) (ar (vl Want.enc) (ao (vl Part.enc))))
theorem Oz : Ij aSs := ijr (ijg Places.inj) (ijr (ijg Tariff.inj) (ijr (ijl Want.inj) (ijo (ijl Part.inj))))
structure SsP (x : Places × Tariff × List Want × List Part) : Prop where
 p : PlK x.1
 t : TarOk x.2.1
 w : TmOk x.2.2.1
 l : x.2.2.2.length <= 1000000
theorem EM (ps : List Airport) (ds : List Distance) (a : List Fare) (b : List Rule) (c : List Routing) (d : List Tax) (W : List Want) (p1 p2 p3 p4 q1 q2 q3 q4 : Int) : gOf aSy (fun x => (SyP x, vII (fSy x))) [.agg [.list (ps.map Airport.enc) false, .list (ds.map Distance.enc) false], .agg [.list (a.map Fare.enc) false, .list (b.map Rule.enc) false, .list (c.map Routing.enc) false, .list (d.map Tax.enc) false], .list (W.map Want.enc) false, .agg [.int .i64 p1, .int .i64 p2, .int .i64 p3, .int .i64 p4], .agg [.int .i64 q1, .int .i64 q2, .int .i64 q3, .int .i64 q4]] = (SyP (⟨ps, ds⟩, ⟨a, b, c, d⟩, W, ⟨p1, p2, p3, p4⟩, ⟨q1, q2, q3, q4⟩), .int .i64 (fSy (⟨ps, ds⟩, ⟨a, b, c, d⟩, W, ⟨p1, p2, p3, p4⟩, ⟨q1, q2, q3, q4⟩))) := Al (F := fun x => (SyP x, vII (fSy x))) VY (⟨ps, ds⟩, ⟨a, b, c, d⟩, W, ⟨p1, p2, p3, p4⟩, ⟨q1, q2, q3, q4⟩)
def tSs : Tab
 | 52 => (gOf Da fun x => (KnP x, Hg (fPs x)))
 | 168 => (gOf aSy fun x => (SyP x, vII (fSy x)))
 | _ => gNo
theorem Al2 : ∀ f, PU f (tSs f) := fun f => by
 unfold tSs
 split
 ·exact TH
 ·exact Ak6
 ·exact Aj.no
def AdB (n : Nat) (l : List Part) : Prop := ∀ p ∈ l, 0 <= p.from' /\ p.from' < n
theorem AcU : ∃ F : Places × Tariff × List Want × List Part -> Int, (∀ x, SsP x -> RT x (F x)) /\ PU 106 (gOf aSs fun x => (SsP x, vII (F x))) := by
 have hG := Al2
 refine RX.p (val := vII) (R := RT) Oz (by simp [aSs]) ?_
 rintro ⟨⟨ps, ds⟩, ⟨fs, rs, gs, xs⟩, W, l⟩ hv Q hQ
 have Y := RX.E EF0 hG mixed
 have Z := RX.T EF0 hG
 obtain ⟨h1, h2, h3, h4⟩ : SsP (⟨ps, ds⟩, ⟨fs, rs, gs, xs⟩, W, l) := hv
 dsimp only at h4
 have hWl : W.length <= 900 := h3.n
 have hK : KnP (⟨fs, rs, gs, xs⟩, l) := ⟨h2.f, h4⟩
 have hPR := TG _ hK
 obtain ⟨⟨P, pe⟩, hPe⟩ : ∃ y, y = fPs (⟨fs, rs, gs, xs⟩, l) := ⟨_, rfl⟩
 rw [<- hPe] at hPR
 obtain ⟨hPl, hPR⟩ : P.length <= l.length /\ (pe = 0 -> Hi ⟨fs, rs, gs, xs⟩ l /\ JB l.length P) := hPR
 refine Aa (Z 0 rfl ?_)
 simp only [go_sem, simprocAttr, aSs, Places.enc, Tariff.enc, tSs, AZ, EM, hK, <- hPe]
 refine Aa (Aa (Z 1 rfl ?_))
 simp only [go_sem, simprocAttr, tSs, AZ, EM, hK, <- hPe]
 refine Aq ?_
 refine Ba (α := Nat) (fun i => (i <= l.length) /\ (AdB W.length (l.take i))) (fun i => ⟨mkE [(2, V.list (List.map Want.enc W) false), (3, V.list (List.map Part.enc l) false), (4, V.ptr 4 0), (5, V.ptr 5 0), (9, .int .i64 i)], mkH [(4, Ob.box 25 [V.list (List.map Airport.enc ps) false, V.list (List.map Distance.enc ds) false]), (5, Ob.box 31 [V.list (List.map Fare.enc fs) false, V.list (List.map Rule.enc rs) false, V.list (List.map Routing.enc gs) false, V.list (List.map Tax.enc xs) false])]⟩) (fun i => l.length - i) 0 ⟨As _, fun p hp => nomatch hp⟩ ?_ ?_
 ·exact leM
 rintro i ⟨hi, hk⟩ KL0 hKL0
 try dsimp only at *
 refine Aa (Aa (Z 2 rfl ?_))
 simp only [go_sem, simprocAttr, Ac, tSs, AZ, EM, hK, <- hPe]
 refine Ad rfl (fun hc2 => ?_) fun hc2 => ?_
 ·simp only [hcL] at hc2
  refine Af ?_
  refine Aa (Aq ?_)
  obtain ⟨⟨pf, pt, pr, pa⟩, hp⟩ : ∃ p, p = l[i] := ⟨_, rfl⟩
  refine Aa (Z 4 rfl ?_)
  simp only [go_sem, simprocAttr, Ap _ _ _ _ hc2, hc2, Ac, <- hp, Part.enc, tSs, AZ, EM, hK, <- hPe]
  and_intros <;> try exact sdA
  refine Ad rfl (fun hb4 => ?_) fun hb4 => ?_
  ·refine Aa (Z 5 rfl ?_)
   simp only [go_sem, simprocAttr, tSs, AZ, EM, hK, <- hPe]
   refine Ae (hQ _ _ (.inl rfl) ?_ ?_ ?_) <;> simp only [go_sem, simprocAttr, vII]
   exact ⟨_, rfl, trivial⟩
  simp only [Cg, decide_eq_false_iff_not] at hb4
  refine Af ?_
  refine Z 3 rfl ?_
  simp only [go_sem, simprocAttr, inI, tSs, AZ, EM, hK, <- hPe]
  and_intros <;> try exact sdA
  refine hKL0 (i + 1) _ ?_ ?_ ?_
  ·(try dsimp only); exact ⟨hc2, Mo hk hc2 (by rw [<- hp]; exact ⟨show 0 <= pf by omega, show pf < W.length by omega⟩)⟩
  ·(try dsimp only); omega
  exact leM
 simp only [hcL] at hc2
 rw [BR hc2] at hk
 refine AX ?_
 simp only [go_sem, simprocAttr]
 refine Aa (Z 6 rfl ?_)
 simp only [go_sem, simprocAttr, tSs, AZ, EM, hK, <- hPe]
 and_intros <;> try exact sdA
 refine Aa (Aa (Z 7 rfl ?_))
 simp only [go_sem, simprocAttr, tSs, AZ, EM, hK, <- hPe]
 refine Ad rfl (fun hb7 => ?_) fun hb7 => ?_
 ·refine Aa (Z 8 rfl ?_)
  simp only [go_sem, simprocAttr, tSs, AZ, EM, hK, <- hPe]
  refine Ae (hQ _ _ (.inl rfl) ?_ ?_ ?_) <;> simp only [go_sem, simprocAttr, vII]
  exact ⟨_, rfl, trivial⟩
 obtain ⟨hfi, htw⟩ := hPR (by simpa using hb7)
 refine Af ?_
 refine Aa (Aa (Z 9 rfl ?_))
 simp only [go_sem, simprocAttr, tSs, AZ, EM, hK, <- hPe]
 refine Aq ?_
 refine Ba (α := Nat) (fun k => (k <= P.length)) (fun k => ⟨mkE [(2, V.list (List.map Want.enc W) false), (3, V.list (List.map Part.enc l) false), (4, V.ptr 4 0), (5, V.ptr 5 0), (10, V.list (List.map Two.enc P) false), (12, .int .i64 k)], mkH [(4, Ob.box 25 [V.list (List.map Airport.enc ps) false, V.list (List.map Distance.enc ds) false]), (5, Ob.box 31 [V.list (List.map Fare.enc fs) false, V.list (List.map Rule.enc rs) false, V.list (List.map Routing.enc gs) false, V.list (List.map Tax.enc xs) false])]⟩) (fun k => P.length - k) 0 (As _) ?_ ?_
 ·exact leM
 rintro k hkk KL2 hKL2
 try dsimp only at *
 refine Aa (Aa (Z 10 rfl ?_))
 simp only [go_sem, simprocAttr, Ac, tSs, AZ, EM, hK, <- hPe]
 refine Ad rfl (fun hc10 => ?_) fun hc10 => ?_
 ·simp only [hcL] at hc10
  refine Af ?_
  refine Aa (Aq ?_)
  obtain ⟨⟨qa, qb⟩, hq⟩ : ∃ p, p = P[k] := ⟨_, rfl⟩
  have hqi := htw _ (AI hc10)
  rw [<- hq] at hqi
  obtain ⟨⟨r1, r2⟩, r3, r4⟩ : (0 <= qa /\ qa < l.length) /\ 0 <= qb /\ qb < l.length := hqi
  have hA : qa.toNat < l.length := by omega
  have hB : qb.toNat < l.length := by omega
  obtain ⟨⟨pf, pt, pr, pa⟩, hp⟩ : ∃ p, p = l[qa.toNat] := ⟨_, rfl⟩
  obtain ⟨⟨pf2, pt2, pr2, pa2⟩, hp2⟩ : ∃ p, p = l[qb.toNat] := ⟨_, rfl⟩
  have hpk := hk _ (AI hA)
  have hpk2 := hk _ (AI hB)
  have hpf := hfi _ (AI hA)
  have hpf2 := hfi _ (AI hB)
  rw [<- hp] at hpk hpf
  rw [<- hp2] at hpk2 hpf2
  have hSy : SyP (⟨ps, ds⟩, ⟨fs, rs, gs, xs⟩, W, ⟨pf, pt, pr, pa⟩, ⟨pf2, pt2, pr2, pa2⟩) := ⟨h1, h2, h3, ⟨hpk, hpf⟩, ⟨hpk2, hpf2⟩⟩
  refine Aa (Y 12 rfl (by kernel_rfl) ?_)
  simp only [go_sem, simprocAttr, Ap _ _ _ _ hc10, Ap _ _ _ _ hA, Ap _ _ _ _ hB, hc10, hA, hB, Ac, <- hq, <- hp, <- hp2, Two.enc, Part.enc, r1, r2, r3, r4, hSy, tSs, AZ, EM, hK, <- hPe]
  and_intros <;> try exact sdA
  refine Aa (Z 13 rfl ?_)
  simp only [go_sem, simprocAttr, tSs, AZ, EM, hK, <- hPe]
  refine Ad rfl (fun hc13 => ?_) fun hc13 => ?_
  ·simp only [hcL] at hc13
   refine Aa (Z 14 rfl ?_)
   simp only [go_sem, simprocAttr, tSs, AZ, EM, hK, <- hPe]
   refine Ae (hQ _ _ (.inl rfl) ?_ ?_ ?_) <;> simp only [go_sem, simprocAttr, vII]
   exact ⟨_, rfl, trivial⟩
  simp only [hcL] at hc13
  refine Af ?_
  refine Z 11 rfl ?_
  simp only [go_sem, simprocAttr, inI, tSs, AZ, EM, hK, <- hPe]
  and_intros <;> try exact sdA
  refine hKL2 (k + 1) _ ?_ ?_ ?_
  ·(try dsimp only); exact hc10
  ·(try dsimp only); omega
  exact leM
 simp only [hcL] at hc10
 refine AX ?_
 simp only [go_sem, simprocAttr]
 refine Aa (Z 15 rfl ?_)
 simp only [go_sem, simprocAttr, tSs, AZ, EM, hK, <- hPe]
 refine Ae (hQ _ _ (.inl rfl) ?_ ?_ ?_) <;> simp only [go_sem, simprocAttr, vII]
 exact ⟨_, rfl, trivial⟩
def fSs : Places × Tariff × List Want × List Part -> Int := AcU.choose
theorem AkP : PU 106 (gOf aSs fun x => (SsP x, vII (fSs x))) := AcU.choose_spec.2
theorem HO (ps : List Airport) (ds : List Distance) (a : List Fare) (b : List Rule) (c : List Routing) (d : List Tax) (W : List Want) (l : List Part) : gOf aSs (fun x => (SsP x, vII (fSs x))) [.agg [.list (ps.map Airport.enc) false, .list (ds.map Distance.enc) false], .agg [.list (a.map Fare.enc) false, .list (b.map Rule.enc) false, .list (c.map Routing.enc) false, .list (d.map Tax.enc) false], .list (W.map Want.enc) false, .list (l.map Part.enc) false] = (SsP (⟨ps, ds⟩, ⟨a, b, c, d⟩, W, l), .int .i64 (fSs (⟨ps, ds⟩, ⟨a, b, c, d⟩, W, l))) := Al (F := fun x => (SsP x, vII (fSs x))) Oz (⟨ps, ds⟩, ⟨a, b, c, d⟩, W, l)
def aWl := ar (vl Want.enc) (ao (vl Part.enc))
theorem Wn : Ij aWl := ijr (ijl Want.inj) (ijo (ijl Part.inj))
def WlP (x : List Want × List Part) : Prop := x.1.length <= 1000000 /\ x.2.length <= 1000000
theorem Adp : ∃ F : List Want × List Part -> Bool, (∀ x, WlP x -> RT x (F x)) /\ PU 104 (gOf aWl fun x => (WlP x, vBB (F x))) := by
 have hG := AJ
 refine XX.p (val := vBB) (R := RT) Wn (by simp [aWl]) ?_
 rintro ⟨W, l⟩ hv Q hQ
 have Z := XX.T EF0 hG
 obtain ⟨h1, h2⟩ : W.length <= 1000000 /\ l.length <= 1000000 := hv
 refine Aa (Z 0 rfl ?_)
 simp only [go_sem, simprocAttr, aWl]
 refine Aa (Z 1 rfl ?_)
 simp only [go_sem, simprocAttr]
 refine Aa (Aa (Z 2 rfl ?_))
 simp only [go_sem, simprocAttr]
 refine Aq ?_
 refine Ba (α := Nat × Int) (fun γ => (γ.1 <= l.length)) (fun γ => ⟨mkE [(0, V.list (List.map Want.enc W) false), (1, V.list (List.map Part.enc l) false), (5, .int .i64 γ.2), (6, .int .i64 γ.1)], mkH []⟩) (fun γ => l.length - γ.1) (0, 0) (As _) ?_ ?_
 ·exact leM
 rintro ⟨i, a⟩ hi KL0 hKL0
 try dsimp only at *
 refine Aa (Aa (Z 3 rfl ?_))
 simp only [go_sem, simprocAttr, Ac]
 refine Ad rfl (fun hc3 => ?_) fun hc3 => ?_
 ·simp only [hcL] at hc3
  refine Af ?_
  refine Aa (Aq ?_)
  refine Aa ?_
  obtain ⟨⟨pf, pt, pr, pa⟩, hp⟩ : ∃ p, p = l[i] := ⟨_, rfl⟩
  refine Aa (Z 5 rfl ?_)
  simp only [go_sem, simprocAttr, Ap _ _ _ _ hc3, hc3, Ac, <- hp, Part.enc]
  and_intros <;> try exact sdA
  refine Ad rfl (fun hc5 => ?_) fun hc5 => ?_
  ·simp only [hcL] at hc5
   refine Aa (Z 6 rfl ?_)
   simp only [go_sem, simprocAttr]
   refine Ae (hQ _ _ (.inl rfl) ?_ ?_ ?_) <;> simp only [go_sem, simprocAttr, vBB]
   exact ⟨_, rfl, trivial⟩
  simp only [hcL] at hc5
  refine Af ?_
  refine Z 7 rfl ?_
  simp only [go_sem, simprocAttr, Ap _ _ _ _ hc3, hc3, Ac, <- hp, Part.enc]
  and_intros <;> try exact sdA
  refine Z 4 rfl ?_
  simp only [go_sem, simprocAttr, inI]
  and_intros <;> try exact sdA
  refine hKL0 (i + 1, pt) _ ?_ ?_ ?_
  ·(try dsimp only); exact hc3
  ·(try dsimp only); omega
  exact leM
 simp only [hcL] at hc3
 refine AX ?_
 simp only [go_sem, simprocAttr]
 refine Aa (Z 8 rfl ?_)
 simp only [go_sem, simprocAttr, Ac]
 and_intros <;> try exact sdA
 refine Ae (hQ _ _ (.inl rfl) ?_ ?_ ?_) <;> simp only [go_sem, simprocAttr, vBB]
 exact ⟨_, rfl, trivial⟩
def fWl : List Want × List Part -> Bool := Adp.choose
theorem Aoa : PU 104 (gOf aWl fun x => (WlP x, vBB (fWl x))) := Adp.choose_spec.2
theorem HR (W : List Want) (l : List Part) : gOf aWl (fun x => (WlP x, vBB (fWl x))) [.list (W.map Want.enc) false, .list (l.map Part.enc) false] = (WlP (W, l), .bool (fWl (W, l))) := Al (F := fun x => (WlP x, vBB (fWl x))) Wn (W, l)
def GA : Tab
 | 104 => (gOf aWl fun x => (WlP x, vBB (fWl x)))
 | 52 => (gOf Da fun x => (KnP x, Hg (fPs x)))
 | 105 => (gOf Da fun x => (MxP x, vII (MU x)))
 | 106 => (gOf aSs fun x => (SsP x, vII (fSs x)))
 | _ => gNo
theorem Alg : ∀ f, PU f (GA f) := fun f => by
 unfold GA
 split
 ·exact Aoa
 ·exact TH
 ·exact Ahy
 ·exact AkP
 ·exact Aj.no
def QK (x : Places × Tariff × List Want × List Part) (y : Int) : Prop := y = 0 -> Hi x.2.1 x.2.2.2
theorem RC : ∃ F : Places × Tariff × List Want × List Part -> Int, (∀ x, SsP x -> QK x (F x)) /\ PU 50 (gOf aSs fun x => (SsP x, vII (F x))) := by
 have hG := Alg
 refine ZA.p (val := vII) (R := QK) Oz (by simp [aSs]) ?_
 rintro ⟨⟨ps, ds⟩, ⟨fs, rs, gs, xs⟩, W, l⟩ hv Q hQ
 have Z := ZA.T EF0 hG
 have hS : SsP (⟨ps, ds⟩, ⟨fs, rs, gs, xs⟩, W, l) := hv
 obtain ⟨h1, h2, h3, h4⟩ := id hS
 dsimp only at h4
 have hWl : W.length <= 900 := h3.n
 have hK : KnP (⟨fs, rs, gs, xs⟩, l) := ⟨h2.f, h4⟩
 have hPR := TG _ hK
 obtain ⟨⟨P, pe⟩, hPe⟩ : ∃ y, y = fPs (⟨fs, rs, gs, xs⟩, l) := ⟨_, rfl⟩
 rw [<- hPe] at hPR
 obtain ⟨-, hPf⟩ : P.length <= l.length /\ (pe = 0 -> Hi ⟨fs, rs, gs, xs⟩ l /\ JB l.length P) := hPR
 have hM : MxP (⟨fs, rs, gs, xs⟩, l) := ⟨h2, h4⟩
 have hW : WlP (W, l) := ⟨show W.length <= 1000000 by omega, h4⟩
 refine Aa (Z 0 rfl ?_)
 simp only [go_sem, simprocAttr, aSs, Places.enc, Tariff.enc, GA, HR, AZ, HD, HO, hS, hK, hM, hW, <- hPe]
 refine Aa (Aa (Z 1 rfl ?_))
 simp only [go_sem, simprocAttr, GA, HR, AZ, HD, HO, hS, hK, hM, hW, <- hPe]
 and_intros <;> try exact sdA
 refine Ad rfl (fun hc1 => ?_) fun hc1 => ?_
 ·simp only [hcL] at hc1
  refine Aa (Z 2 rfl ?_)
  simp only [go_sem, simprocAttr, GA, HR, AZ, HD, HO, hS, hK, hM, hW, <- hPe]
  refine Ae (hQ _ _ (.inl rfl) ?_ ?_ ?_) <;> simp only [go_sem, simprocAttr, vII]
  exact ⟨2, rfl, fun e => absurd e (by decide)⟩
 simp only [hcL] at hc1
 refine Af ?_
 refine Aa (Aa (Z 3 rfl ?_))
 simp only [go_sem, simprocAttr, GA, HR, AZ, HD, HO, hS, hK, hM, hW, <- hPe]
 and_intros <;> try exact sdA
 refine Aa (Z 4 rfl ?_)
 simp only [go_sem, simprocAttr, GA, HR, AZ, HD, HO, hS, hK, hM, hW, <- hPe]
 refine Ad rfl (fun hc4 => ?_) fun hc4 => ?_
 ·simp only [hcL] at hc4
  refine Aa (Z 5 rfl ?_)
  simp only [go_sem, simprocAttr, GA, HR, AZ, HD, HO, hS, hK, hM, hW, <- hPe]
  refine Ae (hQ _ _ (.inl rfl) ?_ ?_ ?_) <;> simp only [go_sem, simprocAttr, vII]
  exact ⟨pe, rfl, fun e => absurd e hc4⟩
 simp only [hcL] at hc4
 refine Af ?_
 refine Aa (Aa (Z 6 rfl ?_))
 simp only [go_sem, simprocAttr, GA, HR, AZ, HD, HO, hS, hK, hM, hW, <- hPe]
 and_intros <;> try exact sdA
 refine Aa (Z 7 rfl ?_)
 simp only [go_sem, simprocAttr, GA, HR, AZ, HD, HO, hS, hK, hM, hW, <- hPe]
 refine Ad rfl (fun hc7 => ?_) fun hc7 => ?_
 ·simp only [hcL] at hc7
  refine Aa (Z 8 rfl ?_)
  simp only [go_sem, simprocAttr, GA, HR, AZ, HD, HO, hS, hK, hM, hW, <- hPe]
  refine Ae (hQ _ _ (.inl rfl) ?_ ?_ ?_) <;> simp only [go_sem, simprocAttr, vII]
  exact ⟨_, rfl, fun e => absurd e hc7⟩
 simp only [hcL] at hc7
 refine Af ?_
 refine Aa (Z 9 rfl ?_)
 simp only [go_sem, simprocAttr, GA, HR, AZ, HD, HO, hS, hK, hM, hW, <- hPe]
 and_intros <;> try exact sdA
 refine Ae (hQ _ _ (.inl rfl) ?_ ?_ ?_) <;> simp only [go_sem, simprocAttr, vII]
 exact ⟨_, rfl, fun _ => (hPf (by simpa using hc4)).1⟩
def Lh : Places × Tariff × List Want × List Part -> Int := RC.choose
theorem AeK : ∀ x, SsP x -> QK x (Lh x) := RC.choose_spec.1
theorem AeL : PU 50 (gOf aSs fun x => (SsP x, vII (Lh x))) := RC.choose_spec.2
theorem Cx (ps : List Airport) (ds : List Distance) (a : List Fare) (b : List Rule) (c : List Routing) (d : List Tax) (W : List Want) (l : List Part) : gOf aSs (fun x => (SsP x, vII (Lh x))) [.agg [.list (ps.map Airport.enc) false, .list (ds.map Distance.enc) false], .agg [.list (a.map Fare.enc) false, .list (b.map Rule.enc) false, .list (c.map Routing.enc) false, .list (d.map Tax.enc) false], .list (W.map Want.enc) false, .list (l.map Part.enc) false] = (SsP (⟨ps, ds⟩, ⟨a, b, c, d⟩, W, l), .int .i64 (Lh (⟨ps, ds⟩, ⟨a, b, c, d⟩, W, l))) := Al (F := fun x => (SsP x, vII (Lh x))) Oz (⟨ps, ds⟩, ⟨a, b, c, d⟩, W, l)
theorem DD (ps : List Airport) (ds : List Distance) (c : List UInt8) : gOf aPs Lj [.agg [.list (ps.map Airport.enc) false, .list (ds.map Distance.enc) false], .str c] = (BD ⟨ps, ds⟩, .str (Ld ps c)) := Al GE (⟨ps, ds⟩, c)
def aSc := ar (vg Places.enc) (ar (vg Tax.enc) (ao (vg Seg.enc)))
theorem VU : Ij aSc := ijr (ijg Places.inj) (ijr (ijg Tax.inj) (ijo (ijg Seg.inj)))
def tSc : Tab
 | 229 => (gOf aPs Lj)
 | _ => gNo
theorem AlW : ∀ f, PU f (tSc f) := fun f => by
 unfold tSc
 split
 ·exact AbF
 ·exact Aj.no
theorem Acd : ∃ F : Places × Tax × Seg -> Bool, (∀ x, BD x.1 -> RT x (F x)) /\ PU 228 (gOf aSc fun x => (BD x.1, vBB (F x))) := by
 have hG := AlW
 refine Sv.p (val := vBB) (R := RT) VU (by simp [aSc]) ?_
 rintro ⟨⟨ps, ds⟩, ⟨co, ki, cy, am, sc, tr, fr⟩, ⟨ca, nu, da, f, t, de, ar⟩⟩ hv Q hQ
 have Y := Sv.E EF0 hG mixed
 have Z := Sv.T EF0 hG
 have hL : BD ⟨ps, ds⟩ := hv
 refine Aa (Z 0 rfl ?_)
 simp only [go_sem, simprocAttr, aSc, Places.enc, Tax.enc, Seg.enc, tSc, DD, hL]
 refine Aa (Y 1 rfl (by kernel_rfl) ?_)
 simp only [go_sem, simprocAttr, tSc, DD, hL]
 and_intros <;> try exact sdA
 refine Aa (Aa (Z 2 rfl ?_))
 simp only [go_sem, simprocAttr, tSc, DD, hL]
 refine Aq (Aa (Z 3 rfl ?_))
 simp only [go_sem, simprocAttr, tSc, DD, hL]
 refine Ad rfl (fun hc3 => ?_) fun hc3 => ?_
 ·simp only [hcL] at hc3
  refine Aa (Z 4 rfl ?_)
  simp only [go_sem, simprocAttr, tSc, DD, hL]
  and_intros <;> try exact sdA
  refine Ae (hQ _ _ (.inl rfl) ?_ ?_ ?_) <;> simp only [go_sem, simprocAttr, vBB]
  exact ⟨_, rfl, trivial⟩
 simp only [hcL] at hc3
 refine Aa (Z 5 rfl ?_)
 simp only [go_sem, simprocAttr, tSc, DD, hL]
 refine Ad rfl (fun hc5 => ?_) fun hc5 => ?_
 ·simp only [hcL] at hc5
  refine Aa (Z 6 rfl ?_)
  simp only [go_sem, simprocAttr, tSc, DD, hL]
  and_intros <;> try exact sdA
  refine Ae (hQ _ _ (.inl rfl) ?_ ?_ ?_) <;> simp only [go_sem, simprocAttr, vBB]
  exact ⟨_, rfl, trivial⟩
 simp only [hcL] at hc5
 refine Af ?_
 refine Aa (Z 7 rfl ?_)
 simp only [go_sem, simprocAttr, tSc, DD, hL]
 and_intros <;> try exact sdA
 refine Ae (hQ _ _ (.inl rfl) ?_ ?_ ?_) <;> simp only [go_sem, simprocAttr, vBB]
 exact ⟨_, rfl, trivial⟩
def Na : Places × Tax × Seg -> Bool := Acd.choose
theorem AjE : PU 228 (gOf aSc fun x => (BD x.1, vBB (Na x))) := Acd.choose_spec.2
theorem Hc (ps : List Airport) (ds : List Distance) (co : List UInt8) (ki : Int) (cy : List UInt8) (am sc tr : Int) (fr : List (List UInt8)) (ca : List UInt8) (nu da : Int) (f t : List UInt8) (de ar : Int) : gOf aSc (fun x => (BD x.1, vBB (Na x))) [.agg [.list (ps.map Airport.enc) false, .list (ds.map Distance.enc) false], .agg [.str co, .int .i64 ki, .str cy, .int .i64 am, .int .i64 sc, .int .i64 tr, .list (strs fr) false], .agg [.str ca, .int .i64 nu, .int .i64 da, .str f, .str t, .int .i64 de, .int .i64 ar]] = (BD ⟨ps, ds⟩, .bool (Na (⟨ps, ds⟩, ⟨co, ki, cy, am, sc, tr, fr⟩, ⟨ca, nu, da, f, t, de, ar⟩))) := Al (F := fun x => (BD x.1, vBB (Na x))) VU (⟨ps, ds⟩, ⟨co, ki, cy, am, sc, tr, fr⟩, ⟨ca, nu, da, f, t, de, ar⟩)
def GC (s : Seg) : Prop := (0 <= s.dep /\ s.dep <= 52596000) /\ 0 <= s.arr /\ s.arr <= 52596000
def aTn := ar (vg Tax.enc) (ar (vg Seg.enc) (ao (vg Seg.enc)))
theorem Wg : Ij aTn := ijr (ijg Tax.inj) (ijr (ijg Seg.inj) (ijo (ijg Seg.inj)))
def TnP (x : Tax × Seg × Seg) : Prop := GC x.2.1 /\ GC x.2.2
theorem Ac9 : ∃ F : Tax × Seg × Seg -> Bool, (∀ x, TnP x -> RT x (F x)) /\ PU 230 (gOf aTn fun x => (TnP x, vBB (F x))) := by
 have hG := AJ
 refine Zc.p (val := vBB) (R := RT) Wg (by simp [aTn]) ?_
 rintro ⟨⟨co, ki, cy, am, sc, tr, fr⟩, ⟨ca, nu, da, f, t, de, ar⟩, ⟨ca2, nu2, da2, f2, t2, de2, ar2⟩⟩ hv Q hQ
 have Z := Zc.T EF0 hG
 obtain ⟨⟨⟨a1, a2⟩, a3, a4⟩, ⟨b1, b2⟩, b3, b4⟩ : ((0 <= de /\ de <= 52596000) /\ 0 <= ar /\ ar <= 52596000) /\ (0 <= de2 /\ de2 <= 52596000) /\ 0 <= ar2 /\ ar2 <= 52596000 := hv
 refine Aa (Z 0 rfl ?_)
 simp only [go_sem, simprocAttr, aTn, Tax.enc, Seg.enc]
 refine Aa (Z 1 rfl ?_)
 simp only [go_sem, simprocAttr, inI]
 and_intros <;> try exact sdA
 refine Ae (hQ _ _ (.inl rfl) ?_ ?_ ?_) <;> simp only [go_sem, simprocAttr, vBB]
 exact ⟨_, rfl, trivial⟩
def Nc : Tax × Seg × Seg -> Bool := Ac9.choose
theorem AmA : PU 230 (gOf aTn fun x => (TnP x, vBB (Nc x))) := Ac9.choose_spec.2
theorem Hf (co : List UInt8) (ki : Int) (cy : List UInt8) (am sc tr : Int) (fr : List (List UInt8)) (ca : List UInt8) (nu da : Int) (f t : List UInt8) (de ar : Int) (ca2 : List UInt8) (nu2 da2 : Int) (f2 t2 : List UInt8) (de2 ar2 : Int) : gOf aTn (fun x => (TnP x, vBB (Nc x))) [.agg [.str co, .int .i64 ki, .str cy, .int .i64 am, .int .i64 sc, .int .i64 tr, .list (strs fr) false], .agg [.str ca, .int .i64 nu, .int .i64 da, .str f, .str t, .int .i64 de, .int .i64 ar], .agg [.str ca2, .int .i64 nu2, .int .i64 da2, .str f2, .str t2, .int .i64 de2, .int .i64 ar2]] = (TnP (⟨co, ki, cy, am, sc, tr, fr⟩, ⟨ca, nu, da, f, t, de, ar⟩, ⟨ca2, nu2, da2, f2, t2, de2, ar2⟩), .bool (Nc (⟨co, ki, cy, am, sc, tr, fr⟩, ⟨ca, nu, da, f, t, de, ar⟩, ⟨ca2, nu2, da2, f2, t2, de2, ar2⟩))) := Al (F := fun x => (TnP x, vBB (Nc x))) Wg (⟨co, ki, cy, am, sc, tr, fr⟩, ⟨ca, nu, da, f, t, de, ar⟩, ⟨ca2, nu2, da2, f2, t2, de2, ar2⟩)
def aDu := ar (vg Places.enc) (ar (vg Tax.enc) (ar (vl Seg.enc) (ao vi)))
theorem Vn : Ij aDu := ijr (ijg Places.inj) (ijr (ijg Tax.inj) (ijr (ijl Seg.inj) (ijo iji)))
structure DuP (x : Places × Tax × List Seg × Int) : Prop where
 p : BD x.1
 n : x.2.2.1.length <= 900
 s : ∀ s ∈ x.2.2.1, GC s
 i : 0 <= x.2.2.2 /\ x.2.2.2 < x.2.2.1.length
def RDu (_ : Places × Tax × List Seg × Int) (y : Int) : Prop := 0 <= y /\ y <= 1
def tDu : Tab
 | 229 => (gOf aPs Lj)
 | 228 => (gOf aSc fun x => (BD x.1, vBB (Na x)))
 | 230 => (gOf aTn fun x => (TnP x, vBB (Nc x)))
 | _ => gNo
theorem Alp : ∀ f, PU f (tDu f) := fun f => by
 unfold tDu
 split
 ·exact AbF
 ·exact AjE
 ·exact AmA
 ·exact Aj.no
set_option maxRecDepth 20000 in
theorem RK : ∃ F : Places × Tax × List Seg × Int -> Int, (∀ x, DuP x -> RDu x (F x)) /\ PU 202 (gOf aDu fun x => (DuP x, vII (F x))) := by
 have hG := Alp
 refine Ss.p (val := vII) (R := RDu) Vn (by simp [aDu]) ?_
 rintro ⟨⟨ps, ds⟩, ⟨co, ki, cy, am, sc, tr, fr⟩, S, n⟩ hv Q hQ
 have Y := Ss.E EF0 hG mixed
 have Z := Ss.T EF0 hG
 obtain ⟨hL, h2, h3, h4, h5⟩ : DuP (⟨ps, ds⟩, ⟨co, ki, cy, am, sc, tr, fr⟩, S, n) := hv
 dsimp only at h2 h3 h4 h5
 obtain ⟨i, rfl⟩ : ∃ i : Nat, n = i := ⟨n.toNat, by omega⟩
 have hi : i < S.length := by omega
 have hj : i - 1 < S.length := by omega
 have e1 : ((i : Int) - 1).toNat = i - 1 := by omega
 have e2 : ((i : Int) + 1).toNat = i + 1 := by omega
 obtain ⟨⟨ca, nu, da, f, t, de, ar⟩, hs⟩ : ∃ s, s = S[i] := ⟨_, rfl⟩
 have hso := h3 _ (AI hi)
 rw [<- hs] at hso
 obtain ⟨⟨ca2, nu2, da2, f2, t2, de2, ar2⟩, hs2⟩ : ∃ s, s = S[i - 1] := ⟨_, rfl⟩
 have hso2 := h3 _ (AI hj)
 rw [<- hs2] at hso2
 have hT1 : TnP (⟨co, ki, cy, am, sc, tr, fr⟩, ⟨ca2, nu2, da2, f2, t2, de2, ar2⟩, ⟨ca, nu, da, f, t, de, ar⟩) := ⟨hso2, hso⟩
 refine Aa (Z 0 rfl ?_)
 simp only [go_sem, simprocAttr, aDu, Places.enc, Tax.enc, tDu, DD, Hc, Hf, hL]
 refine Aa (Aa (Y 1 rfl (by kernel_rfl) ?_))
 simp only [go_sem, simprocAttr, Ap _ _ _ _ hi, hi, Ac, <- hs, Seg.enc, Fc, tDu, DD, Hc, Hf, hL]
 and_intros <;> try exact sdA
 refine Ad rfl (fun hc1 => ?_) fun hc1 => ?_
 ·simp only [hcL] at hc1
  refine Aa (Z 2 rfl ?_)
  simp only [go_sem, simprocAttr, tDu, DD, Hc, Hf, hL]
  refine Ae (hQ _ _ (.inl rfl) ?_ ?_ ?_) <;> simp only [go_sem, simprocAttr, vII]
  exact ⟨_, rfl, by decide, by decide⟩
 simp only [hcL] at hc1
 refine Af ?_
 refine Aa (Aa (Y 3 rfl (by kernel_rfl) ?_))
 simp only [go_sem, simprocAttr, inI, e1, Ap _ _ _ _ hi, Ap _ _ _ _ hj, hi, hj, Ac, <- hs, <- hs2, Seg.enc, Fc, hT1, tDu, DD, Hc, Hf, hL]
 and_intros <;> (try first | exact sdA | (intro hz; have hz2 := hz; simp only [Bx, decide_eq_true_eq] at hz2; exact ⟨hz, by omega, by omega⟩))
 refine Ad rfl (fun hc3 => ?_) fun hc3 => ?_
 ·simp only [hcL] at hc3
  refine Aa (Z 4 rfl ?_)
  simp only [go_sem, simprocAttr, tDu, DD, Hc, Hf, hL]
  refine Ae (hQ _ _ (.inl rfl) ?_ ?_ ?_) <;> simp only [go_sem, simprocAttr, vII]
  exact ⟨_, rfl, by decide, by decide⟩
 simp only [hcL] at hc3
 refine Af ?_
 refine Aa ?_
 by_cases hz : i + 1 < S.length
 ·obtain ⟨⟨ca3, nu3, da3, f3, t3, de3, ar3⟩, hs3⟩ : ∃ s, s = S[i + 1] := ⟨_, rfl⟩
  have hso3 := h3 _ (AI hz)
  rw [<- hs3] at hso3
  have hT2 : TnP (⟨co, ki, cy, am, sc, tr, fr⟩, ⟨ca, nu, da, f, t, de, ar⟩, ⟨ca3, nu3, da3, f3, t3, de3, ar3⟩) := ⟨hso, hso3⟩
  refine Aa (Y 5 rfl (by kernel_rfl) ?_)
  simp only [go_sem, simprocAttr, inI, e2, Ap _ _ _ _ hi, hi, Ac, <- hs, Seg.enc, Fc, tDu, DD, Hc, Hf, hL, Ap _ _ _ _ hz, hz, <- hs3, hT2]
  first | refine ⟨fun h => ⟨h, by omega, by omega⟩, fun h => ⟨h, by omega, by omega⟩, fun h => ⟨h, by omega, by omega⟩, fun h => ⟨h, fun h2 => by rw [h, h2]; rfl⟩, fun h => ⟨h, fun h2 => by rw [h, h2]; rfl⟩, ?_⟩ | refine ⟨fun h => ⟨h, by omega, by omega⟩, fun h => ⟨h, fun h2 => by rw [h, h2]; rfl⟩, ?_⟩
  refine Ad rfl (fun hc5 => ?_) fun hc5 => ?_
  ·simp only [hcL] at hc5
   refine Aa (Z 6 rfl ?_)
   simp only [go_sem, simprocAttr, tDu, DD, Hc, Hf, hL]
   refine Ae (hQ _ _ (.inl rfl) ?_ ?_ ?_) <;> simp only [go_sem, simprocAttr, vII]
   exact ⟨_, rfl, by decide, by decide⟩
  simp only [hcL] at hc5
  refine Af ?_
  refine Aa (Z 7 rfl ?_)
  simp only [go_sem, simprocAttr, tDu, DD, Hc, Hf, hL]
  refine Ae (hQ _ _ (.inl rfl) ?_ ?_ ?_) <;> simp only [go_sem, simprocAttr, vII]
  exact ⟨_, rfl, by decide, by decide⟩
 have e3 : ((i : Int) + 1 < (S.length : Int)) = False := eq_false (by omega)
 refine Aa (Y 5 rfl (by kernel_rfl) ?_)
 simp only [go_sem, simprocAttr, inI, e2, Ap _ _ _ _ hi, hi, Ac, <- hs, Seg.enc, Fc, tDu, DD, Hc, Hf, hL, e3, decide_false, PQ, Bl, false_implies]
 first | refine ⟨fun h => ⟨h, by omega, by omega⟩, fun h => ⟨h, by omega, by omega⟩, fun h => ⟨h, by omega, by omega⟩, fun h => ⟨h, fun h2 => by rw [h, h2]; rfl⟩, fun h => ⟨h, fun h2 => by rw [h, h2]; rfl⟩, ?_⟩ | refine ⟨fun h => ⟨h, by omega, by omega⟩, fun h => ⟨h, fun h2 => by rw [h, h2]; rfl⟩, ?_⟩
 refine Ad rfl (fun hc5 => ?_) fun hc5 => ?_
 ·simp only [hcL] at hc5
  refine Aa (Z 6 rfl ?_)
  simp only [go_sem, simprocAttr, tDu, DD, Hc, Hf, hL]
  refine Ae (hQ _ _ (.inl rfl) ?_ ?_ ?_) <;> simp only [go_sem, simprocAttr, vII]
  exact ⟨_, rfl, by decide, by decide⟩
 simp only [hcL] at hc5
 refine Af ?_
 refine Aa (Z 7 rfl ?_)
 simp only [go_sem, simprocAttr, tDu, DD, Hc, Hf, hL]
 refine Ae (hQ _ _ (.inl rfl) ?_ ?_ ?_) <;> simp only [go_sem, simprocAttr, vII]
 exact ⟨_, rfl, by decide, by decide⟩
def Kd : Places × Tax × List Seg × Int -> Int := RK.choose
theorem Afm : ∀ x, DuP x -> RDu x (Kd x) := RK.choose_spec.1
theorem Afn : PU 202 (gOf aDu fun x => (DuP x, vII (Kd x))) := RK.choose_spec.2
theorem Ez (ps : List Airport) (ds : List Distance) (co : List UInt8) (ki : Int) (cy : List UInt8) (am sc tr : Int) (fr : List (List UInt8)) (S : List Seg) (n : Int) : gOf aDu (fun x => (DuP x, vII (Kd x))) [.agg [.list (ps.map Airport.enc) false, .list (ds.map Distance.enc) false], .agg [.str co, .int .i64 ki, .str cy, .int .i64 am, .int .i64 sc, .int .i64 tr, .list (strs fr) false], .list (S.map Seg.enc) false, .int .i64 n] = (DuP (⟨ps, ds⟩, ⟨co, ki, cy, am, sc, tr, fr⟩, S, n), .int .i64 (Kd (⟨ps, ds⟩, ⟨co, ki, cy, am, sc, tr, fr⟩, S, n))) := Al (F := fun x => (DuP x, vII (Kd x))) Vn (⟨ps, ds⟩, ⟨co, ki, cy, am, sc, tr, fr⟩, S, n)
def aTm := ar (vg Places.enc) (ar (vg Tax.enc) (ar (vl Seg.enc) (ao V.str)))
theorem Wf : Ij aTm := ijr (ijg Places.inj) (ijr (ijg Tax.inj) (ijr (ijl Seg.inj) (ijo ijs)))
structure TmP (x : Places × Tax × List Seg × List UInt8) : Prop where
 p : BD x.1
 f : x.2.1.free.length <= 1048576
 n : x.2.2.1.length <= 900
 s : ∀ s ∈ x.2.2.1, GC s
def RTm (_ : Places × Tax × List Seg × List UInt8) (y : Int) : Prop := 0 <= y /\ y <= 900
def tTm : Tab
 | 202 => (gOf aDu fun x => (DuP x, vII (Kd x)))
 | _ => gNo
theorem Al8 : ∀ f, PU f (tTm f) := fun f => by
 unfold tTm
 split
 ·exact Afn
 ·exact Aj.no
theorem UJ : ∃ F : Places × Tax × List Seg × List UInt8 -> Int, (∀ x, TmP x -> RTm x (F x)) /\ PU 169 (gOf aTm fun x => (TmP x, vII (F x))) := by
 have hG := Al8
 refine YC.p (val := vII) (R := RTm) Wf (by simp [aTm]) ?_
 rintro ⟨⟨ps, ds⟩, ⟨co, ki, cy, am, sc, tr, fr⟩, S, u⟩ hv Q hQ
 have Z := YC.T EF0 hG
 obtain ⟨hL, h2, h3, h4⟩ : TmP (⟨ps, ds⟩, ⟨co, ki, cy, am, sc, tr, fr⟩, S, u) := hv
 dsimp only at h2 h3 h4
 refine Aa (Z 0 rfl ?_)
 simp only [go_sem, simprocAttr, aTm, Places.enc, Tax.enc, tTm, Ez]
 refine Aa (Aa (Z 1 rfl ?_))
 simp only [go_sem, simprocAttr, tTm, Ez]
 refine Aq ?_
 refine Ba (α := Nat) (fun i => (i <= fr.length)) (fun i => ⟨mkE [(2, V.list (List.map Seg.enc S) false), (3, V.str u), (4, V.ptr 4 0), (5, V.ptr 5 0), (9, .int .i64 i)], mkH [(4, Ob.box 25 [V.list (List.map Airport.enc ps) false, V.list (List.map Distance.enc ds) false]), (5, Ob.box 143 [V.str co, V.int IntKind.i64 ki, V.str cy, V.int IntKind.i64 am, V.int IntKind.i64 sc, V.int IntKind.i64 tr, V.list (strs fr) false])]⟩) (fun i => fr.length - i) 0 (As _) ?_ ?_
 ·exact leM
 rintro i hi KL0 hKL0
 try dsimp only at *
 refine Aa (Aa (Z 2 rfl ?_))
 simp only [go_sem, simprocAttr, EL, tTm, Ez]
 refine Ad rfl (fun hc2 => ?_) fun hc2 => ?_
 ·simp only [hcL] at hc2
  refine Af ?_
  refine Aa (Aq ?_)
  refine Aa (Z 4 rfl ?_)
  simp only [go_sem, simprocAttr, Gz _ _ _ hc2, hc2, EL, tTm, Ez]
  and_intros <;> try exact sdA
  refine Ad rfl (fun hc4 => ?_) fun hc4 => ?_
  ·simp only [hcL] at hc4
   refine Aa (Z 5 rfl ?_)
   simp only [go_sem, simprocAttr, tTm, Ez]
   refine Ae (hQ _ _ (.inl rfl) ?_ ?_ ?_) <;> simp only [go_sem, simprocAttr, vII]
   exact ⟨0, rfl, by decide, by decide⟩
  simp only [hcL] at hc4
  refine Af ?_
  refine Z 3 rfl ?_
  simp only [go_sem, simprocAttr, inI, tTm, Ez]
  and_intros <;> try exact sdA
  refine hKL0 (i + 1) _ ?_ ?_ ?_
  ·(try dsimp only); exact hc2
  ·(try dsimp only); omega
  exact leM
 simp only [hcL] at hc2
 refine AX ?_
 simp only [go_sem, simprocAttr]
 refine Aa (Aa (Z 6 rfl ?_))
 simp only [go_sem, simprocAttr, tTm, Ez]
 and_intros <;> try exact sdA
 refine Ad rfl (fun hc6 => ?_) fun hc6 => ?_
 ·simp only [hcL] at hc6
  refine Aa (Z 7 rfl ?_)
  simp only [go_sem, simprocAttr, tTm, Ez]
  refine Ae (hQ _ _ (.inl rfl) ?_ ?_ ?_) <;> simp only [go_sem, simprocAttr, vII]
  exact ⟨0, rfl, by decide, by decide⟩
 simp only [hcL] at hc6
 refine Af ?_
 refine Aa (Z 8 rfl ?_)
 simp only [go_sem, simprocAttr, tTm, Ez]
 refine Aa (Aa (Z 9 rfl ?_))
 simp only [go_sem, simprocAttr, tTm, Ez]
 refine Aq ?_
 refine Ba (α := Nat × Int) (fun γ => (γ.1 <= S.length) /\ (0 <= γ.2 /\ γ.2 <= γ.1)) (fun γ => ⟨mkE [(2, V.list (List.map Seg.enc S) false), (4, V.ptr 4 0), (5, V.ptr 5 0), (10, .int .i64 γ.2), (11, .int .i64 γ.1)], mkH [(4, Ob.box 25 [V.list (List.map Airport.enc ps) false, V.list (List.map Distance.enc ds) false]), (5, Ob.box 143 [V.str co, V.int IntKind.i64 ki, V.str cy, V.int IntKind.i64 am, V.int IntKind.i64 sc, V.int IntKind.i64 tr, V.list (strs fr) false])]⟩) (fun γ => S.length - γ.1) (0, 0) ⟨As _, by decide, by decide⟩ ?_ ?_
 ·exact leM
 rintro ⟨i, n⟩ ⟨hi, hn⟩ KL2 hKL2
 try dsimp only at *
 refine Aa (Aa (Z 10 rfl ?_))
 simp only [go_sem, simprocAttr, Ac, tTm, Ez]
 refine Ad rfl (fun hc10 => ?_) fun hc10 => ?_
 ·simp only [hcL] at hc10
  refine Af ?_
  refine Aa (Aq ?_)
  have hD : DuP (⟨ps, ds⟩, ⟨co, ki, cy, am, sc, tr, fr⟩, S, (i : Int)) := ⟨hL, h3, h4, show 0 <= (i : Int) by omega, show (i : Int) < S.length by omega⟩
  have hDb := Afm _ hD
  obtain ⟨d, hd⟩ : ∃ d, d = Kd (⟨ps, ds⟩, ⟨co, ki, cy, am, sc, tr, fr⟩, S, (i : Int)) := ⟨_, rfl⟩
  rw [<- hd] at hDb
  obtain ⟨d1, d2⟩ : 0 <= d /\ d <= 1 := hDb
  refine Z 12 rfl ?_
  simp only [go_sem, simprocAttr, inI, hD, <- hd, tTm, Ez]
  and_intros <;> try exact sdA
  refine Z 11 rfl ?_
  simp only [go_sem, simprocAttr, inI, tTm, Ez]
  and_intros <;> try exact sdA
  refine hKL2 (i + 1, n + d) _ ?_ ?_ ?_
  ·(try dsimp only); exact ⟨by omega, by omega, by omega⟩
  ·(try dsimp only); omega
  exact leM
 simp only [hcL] at hc10
 refine AX ?_
 simp only [go_sem, simprocAttr]
 refine Aa (Aa (Z 13 rfl ?_))
 simp only [go_sem, simprocAttr, tTm, Ez]
 refine Ad rfl (fun hc13 => ?_) fun hc13 => ?_
 ·simp only [hcL] at hc13
  refine Aa (Z 14 rfl ?_)
  simp only [go_sem, simprocAttr, tTm, Ez]
  refine Ae (hQ _ _ (.inl rfl) ?_ ?_ ?_) <;> simp only [go_sem, simprocAttr, vII]
  exact ⟨min n 1, rfl, show 0 <= min n 1 by omega, show min n 1 <= 900 by omega⟩
 simp only [hcL] at hc13
 refine Af ?_
 refine Aa (Z 15 rfl ?_)
 simp only [go_sem, simprocAttr, tTm, Ez]
 refine Ae (hQ _ _ (.inl rfl) ?_ ?_ ?_) <;> simp only [go_sem, simprocAttr, vII]
 exact ⟨n, rfl, show 0 <= n by omega, show n <= 900 by omega⟩
def Kk : Places × Tax × List Seg × List UInt8 -> Int := UJ.choose
theorem Amy : ∀ x, TmP x -> RTm x (Kk x) := UJ.choose_spec.1
theorem Amz : PU 169 (gOf aTm fun x => (TmP x, vII (Kk x))) := UJ.choose_spec.2
theorem Et (ps : List Airport) (ds : List Distance) (co : List UInt8) (ki : Int) (cy : List UInt8) (am sc tr : Int) (fr : List (List UInt8)) (S : List Seg) (u : List UInt8) : gOf aTm (fun x => (TmP x, vII (Kk x))) [.agg [.list (ps.map Airport.enc) false, .list (ds.map Distance.enc) false], .agg [.str co, .int .i64 ki, .str cy, .int .i64 am, .int .i64 sc, .int .i64 tr, .list (strs fr) false], .list (S.map Seg.enc) false, .str u] = (TmP (⟨ps, ds⟩, ⟨co, ki, cy, am, sc, tr, fr⟩, S, u), .int .i64 (Kk (⟨ps, ds⟩, ⟨co, ki, cy, am, sc, tr, fr⟩, S, u))) := Al (F := fun x => (TmP x, vII (Kk x))) Wf (⟨ps, ds⟩, ⟨co, ki, cy, am, sc, tr, fr⟩, S, u)
def TxK (x : Tax) : Prop := (0 <= x.amount /\ x.amount <= 1099511627776) /\ x.free.length <= 1048576
def JC := ar (vg Places.enc) (ar (vl Tax.enc) (ar (vl Seg.enc) (ar V.str (ao vi))))
theorem Vy : Ij JC := ijr (ijg Places.inj) (ijr (ijl Tax.inj) (ijr (ijl Seg.inj) (ijr ijs (ijo iji))))
structure OfTP (y : Places × List Tax × List Seg × List UInt8 × Int) : Prop where
 p : BD y.1
 l : y.2.1.length <= 1000000
 x : ∀ x ∈ y.2.1, TxK x
 n : y.2.2.1.length <= 900
 s : ∀ s ∈ y.2.2.1, GC s
 f : 0 <= y.2.2.2.2
def ChK (l : List Charge) : Prop := ∀ c ∈ l, 0 <= c.amount /\ c.amount <= 1099511627776
def QM (x : Places × List Tax × List Seg × List UInt8 × Int) (y : List Charge × Int) : Prop := y.1.length <= x.2.1.length /\ (y.2 = 0 -> ChK y.1)
def IJ (y : List Charge × Int) : V := .tup [.list (y.1.map Charge.enc) false, .int .i64 y.2]
theorem AeH (g : List Charge) (a : List UInt8) (b : Int) : (g ++ [(⟨a, b⟩ : Charge)]).map Charge.enc = g.map Charge.enc ++ [[.str a, .int .i64 b]] := by simp [Charge.enc]
theorem ChK.sn {g : List Charge} (h : ChK g) {a : List UInt8} {b : Int} (h1 : 0 <= b) (h2 : b <= 1099511627776) : ChK (g ++ [⟨a, b⟩]) := fun p hp => by
 rcases BT.1 hp with hp | hp
 ·exact h p hp
 ·rw [Bp.1 hp]; exact ⟨h1, h2⟩
def DS : Tab
 | 169 => (gOf aTm fun x => (TmP x, vII (Kk x)))
 | 165 => (gOf Cj Ht)
 | _ => gNo
theorem AlH : ∀ f, PU f (DS f) := fun f => by
 unfold DS
 split
 ·exact Amz
 ·exact AbV
 ·exact Aj.no
theorem Ty : ∃ F : Places × List Tax × List Seg × List UInt8 × Int -> List Charge × Int, (∀ x, OfTP x -> QM x (F x)) /\ PU 107 (gOf JC fun x => (OfTP x, IJ (F x))) := by
 have hG := AlH
 refine RY.p (val := IJ) (R := QM) Vy (by simp [JC]) ?_
 rintro ⟨⟨ps, ds⟩, l, S, u, fa⟩ hv Q hQ
 have Y := RY.E EF0 hG mixed
 have Z := RY.T EF0 hG
 obtain ⟨hL, h2, h3, h4, h5, h6⟩ : OfTP (⟨ps, ds⟩, l, S, u, fa) := hv
 dsimp only at h2 h3 h4 h5 h6
 refine Aa (Z 0 rfl ?_)
 simp only [go_sem, simprocAttr, JC, Places.enc, DS, Et, Cb, Ak]
 refine Aa (Z 1 rfl ?_)
 simp only [go_sem, simprocAttr, DS, Et, Cb, Ak]
 refine Aa (Aa (Z 2 rfl ?_))
 simp only [go_sem, simprocAttr, DS, Et, Cb, Ak]
 refine Aq ?_
 refine Ba (α := Nat × (List Charge)) (fun γ => (γ.1 <= l.length) /\ (γ.2.length <= γ.1) /\ (ChK γ.2)) (fun γ => ⟨mkE [(1, V.list (List.map Tax.enc l) false), (2, V.list (List.map Seg.enc S) false), (3, V.str u), (4, V.int IntKind.i64 fa), (5, V.ptr 5 0), (12, .own 999 γ.2.length), (13, .int .i64 γ.1)], mkH [(5, Ob.box 25 [V.list (List.map Airport.enc ps) false, V.list (List.map Distance.enc ds) false]), (999, .arr 92 2 (γ.2.map Charge.enc))]⟩) (fun γ => l.length - γ.1) (0, []) ⟨As _, AF _, fun p hp => nomatch hp⟩ ?_ ?_
 ·exact leM
 rintro ⟨i, g⟩ ⟨hi, hg, hk⟩ KL0 hKL0
 try dsimp only at *
 refine Aa (Aa (Z 3 rfl ?_))
 simp only [go_sem, simprocAttr, Ac, DS, Et, Cb, Ak]
 refine Ad rfl (fun hc3 => ?_) fun hc3 => ?_
 ·simp only [hcL] at hc3
  refine Af ?_
  refine Aa (Aq ?_)
  obtain ⟨⟨co, ki, cy, am, sc, tr, fr⟩, hx⟩ : ∃ x, x = l[i] := ⟨_, rfl⟩
  have hxk := h3 _ (AI hc3)
  rw [<- hx] at hxk
  obtain ⟨⟨x1, x2⟩, x3⟩ : (0 <= am /\ am <= 1099511627776) /\ fr.length <= 1048576 := hxk
  have hT : TmP (⟨ps, ds⟩, ⟨co, ki, cy, am, sc, tr, fr⟩, S, u) := ⟨hL, x3, h4, h5⟩
  have hTb := Amy _ hT
  obtain ⟨n, hn⟩ : ∃ n, n = Kk (⟨ps, ds⟩, ⟨co, ki, cy, am, sc, tr, fr⟩, S, u) := ⟨_, rfl⟩
  rw [<- hn] at hTb
  obtain ⟨n1, n2⟩ : 0 <= n /\ n <= 900 := hTb
  have hm0 : 0 <= n * am := Jg n1 x1
  have hm1 : n * am <= 900 * 1099511627776 := Int.le_trans (Int.mul_le_mul_of_nonneg_right n2 x1) (PR x2 (by decide))
  refine Aa (Y 5 rfl (by kernel_rfl) ?_)
  simp only [go_sem, simprocAttr, Ap _ _ _ _ hc3, hc3, Ac, <- hx, Tax.enc, hT, <- hn, DS, Et, Cb, Ak]
  and_intros <;> try exact sdA
  refine Aa (Z 6 rfl ?_)
  simp only [go_sem, simprocAttr, inI, Ap _ _ _ _ hc3, hc3, Ac, <- hx, Tax.enc, DS, Et, Cb, Ak]
  and_intros <;> try exact sdA
  refine DT (α := Int × Int) (fun γ => (γ.2 = 0 -> 0 <= γ.1)) (fun γ => ⟨mkE [(1, V.list (List.map Tax.enc l) false), (2, V.list (List.map Seg.enc S) false), (3, V.str u), (4, V.int IntKind.i64 fa), (5, V.ptr 5 0), (12, V.own 999 g.length), (13, V.int IntKind.i64 ↑i), (15, .int .i64 γ.1), (16, .int .i64 γ.2)], mkH [(5, Ob.box 25 [V.list (List.map Airport.enc ps) false, V.list (List.map Distance.enc ds) false]), (999, Ob.arr 92 2 (List.map Charge.enc g))]⟩) ?_ ?_
  ·intro KC7 hKC7
   refine Aa (Z 7 rfl ?_)
   simp only [go_sem, simprocAttr, Ap _ _ _ _ hc3, hc3, Ac, <- hx, Tax.enc, DS, Et, Cb, Ak]
   and_intros <;> try exact sdA
   refine Ad rfl (fun hc7 => ?_) fun hc7 => ?_
   ·simp only [hcL] at hc7
    refine Z 8 rfl ?_
    simp only [go_sem, simprocAttr, Ap _ _ _ _ hc3, hc3, Ac, <- hx, Tax.enc, DS, Et, Cb, Ak]
    and_intros <;> try exact sdA
    refine hKC7 ((Gf fa am).1, (Gf fa am).2) _ ?_ ?_
    ·(try dsimp only); exact fun e => (PY () h6 x1 e).1
    exact leM
   simp only [hcL] at hc7
   refine Af ?_
   refine hKC7 (n * am, 0) _ ?_ ?_
   ·(try dsimp only); exact fun _ => hm0
   exact leM
  rintro ⟨a, e⟩ ha
  try dsimp only at *
  refine Aa (Aa (Z 9 rfl ?_))
  simp only [go_sem, simprocAttr, DS, Et, Cb, Ak]
  refine Ad rfl (fun hc9 => ?_) fun hc9 => ?_
  ·simp only [hcL] at hc9
   refine Aa (Z 10 rfl ?_)
   simp only [go_sem, simprocAttr, DS, Et, Cb, Ak]
   refine TC.le (s' := ⟨mkE [(10, .list ([] : List (List V)) false), (11, .int .i64 e)], mkH []⟩) (Le.mk _ _ ?_ ?_ rfl) (Ae (hQ _ _ (.inl rfl) ?_ ?_ ?_)) <;> simp only [go_sem, simprocAttr, IJ]
   exact ⟨([], e), rfl, As _, fun e0 => absurd e0 hc9⟩
  simp only [hcL] at hc9
  refine Af ?_
  refine Aa (Aa (Z 11 rfl ?_))
  simp only [go_sem, simprocAttr, DS, Et, Cb, Ak]
  refine Ad rfl (fun hc11 => ?_) fun hc11 => ?_
  ·simp only [hcL] at hc11
   refine Aa (Z 12 rfl ?_)
   simp only [go_sem, simprocAttr, DS, Et, Cb, Ak]
   refine TC.le (s' := ⟨mkE [(10, .list ([] : List (List V)) false), (11, .int .i64 11)], mkH []⟩) (Le.mk _ _ ?_ ?_ rfl) (Ae (hQ _ _ (.inl rfl) ?_ ?_ ?_)) <;> simp only [go_sem, simprocAttr, IJ]
   exact ⟨([], 11), rfl, As _, fun e0 => absurd e0 (by decide)⟩
  simp only [hcL] at hc11
  refine Af ?_
  refine Aa (Z 13 rfl ?_)
  simp only [go_sem, simprocAttr, DS, Et, Cb, Ak]
  refine Ad rfl (fun hc13 => ?_) fun hc13 => ?_
  ·simp only [hcL] at hc13
   refine Z 14 rfl ?_
   simp only [go_sem, simprocAttr, Ap _ _ _ _ hc3, hc3, Ac, <- hx, Tax.enc, DS, Et, Cb, Ak]
   and_intros <;> try exact sdA
   refine Z 4 rfl ?_
   simp only [go_sem, simprocAttr, inI, DS, Et, Cb, Ak]
   and_intros <;> try exact sdA
   refine hKL0 (i + 1, g ++ [⟨co, a⟩]) _ ?_ ?_ ?_
   ·(try dsimp only); exact ⟨hc3, by simp; omega, hk.sn (ha (by simpa using hc9)) (by omega)⟩
   ·(try dsimp only); omega
   refine Le.mk _ _ ?_ ?_ rfl <;> simp only [go_sem, simprocAttr, An, Aw, Ax, AeH] <;> and_intros <;> try exact leA
  simp only [hcL] at hc13
  refine Af ?_
  refine Z 4 rfl ?_
  simp only [go_sem, simprocAttr, inI, DS, Et, Cb, Ak]
  and_intros <;> try exact sdA
  refine hKL0 (i + 1, g) _ ?_ ?_ ?_
  ·(try dsimp only); exact ⟨hc3, by omega, hk⟩
  ·(try dsimp only); omega
  exact leM
 simp only [hcL] at hc3
 refine AX ?_
 simp only [go_sem, simprocAttr]
 refine Aa (Z 15 rfl ?_)
 simp only [go_sem, simprocAttr, DS, Et, Cb, Ak]
 refine TC.le (s' := ⟨mkE [(10, .list (g.map Charge.enc) false), (11, .int .i64 0)], mkH []⟩) (Le.mk _ _ ?_ ?_ rfl) (Ae (hQ _ _ (.inl rfl) ?_ ?_ ?_)) <;> simp only [go_sem, simprocAttr, IJ]
 ·exact DA rfl (by rw [Ac]) rfl ((Charge.purs g).2 trivial)
 exact ⟨(g, 0), rfl, show g.length <= l.length by omega, fun _ => hk⟩
def IY : Places × List Tax × List Seg × List UInt8 × Int -> List Charge × Int := Ty.choose
theorem AhR : ∀ x, OfTP x -> QM x (IY x) := Ty.choose_spec.1
theorem AhS : PU 107 (gOf JC fun x => (OfTP x, IJ (IY x))) := Ty.choose_spec.2
theorem Dw (ps : List Airport) (ds : List Distance) (l : List Tax) (S : List Seg) (u : List UInt8) (f : Int) : gOf JC (fun x => (OfTP x, IJ (IY x))) [.agg [.list (ps.map Airport.enc) false, .list (ds.map Distance.enc) false], .list (l.map Tax.enc) false, .list (S.map Seg.enc) false, .str u, .int .i64 f] = (OfTP (⟨ps, ds⟩, l, S, u, f), .tup [.list ((IY (⟨ps, ds⟩, l, S, u, f)).1.map Charge.enc) false, .int .i64 (IY (⟨ps, ds⟩, l, S, u, f)).2]) := Al (F := fun x => (OfTP x, IJ (IY x))) Vy (⟨ps, ds⟩, l, S, u, f)
end Go.Proofs.YtjkclhbckfkeeaaGreatDoor
end
