import Derived.Test.YtjkclhbckfkeeaaGreatDoorHo11
set_option linter.unusedSimpArgs false
set_option linter.unusedVariables false
set_option linter.deprecated false
set_option maxHeartbeats 4000000
noncomputable section
namespace Go.Proofs.YtjkclhbckfkeeaaGreatDoor
open Go Go.RowKit
def HK (y : List Two × Int) : V := .tup [.list (y.1.map Two.enc) false, .int .i64 y.2]
def Kq (n : Nat) (l : List Two) : Prop := ∀ p ∈ l, (0 <= p.a /\ p.a < n) /\ 0 <= p.b /\ p.b < n
def RPs (x : Tariff × List Part) (y : List Two × Int) : Prop := y.1.length <= x.2.length /\ (y.2 = 0 -> HN x.1 x.2 /\ Kq x.2.length y.1)
theorem AnG (g : List Two) (a b : Int) : (g ++ [(⟨a, b⟩ : Two)]).map Two.enc = g.map Two.enc ++ [[.int .i64 a, .int .i64 b]] := by simp [Two.enc]
theorem Kq.sn {n : Nat} {g : List Two} (h : Kq n g) {a b : Int} (h1 : 0 <= a /\ a < n) (h2 : 0 <= b /\ b < n) : Kq n (g ++ [⟨a, b⟩]) := fun p hp => by
 rcases BU.1 hp with hp | hp
 ·exact h p hp
 ·rw [Bk.1 hp]; exact ⟨h1, h2⟩
def tPs : Tab
 | 109 => (gOf Dm fun x => (KnP x, vBB (IQ x)))
 | 110 => (gOf Jx fun x => (PrP x, vBB (Mp x)))
 | 111 => (gOf aPn fun x => (PnP x, vII (fPn x)))
 | _ => gNo
theorem Amc : ∀ f, PU f (tPs f) := fun f => by
 unfold tPs
 split
 ·exact Abk
 ·exact Ab3
 ·exact AiX
 ·exact Ah.no
theorem Ug : ∃ F : Tariff × List Part -> List Two × Int, (∀ x, KnP x -> RPs x (F x)) /\ PU 52 (gOf Dm fun x => (KnP x, HK (F x))) := by
 have hG := Amc
 refine SZ.p (val := HK) (R := RPs) LW (by simp [Dm]) ?_
 rintro ⟨⟨fs, rs, gs, xs⟩, l⟩ hv Q hQ
 have Y := SZ.E EF0 hG mixed
 have Z := SZ.T EF0 hG
 have hK : KnP (⟨fs, rs, gs, xs⟩, l) := hv
 obtain ⟨h1, h2⟩ : fs.length <= 1000000 /\ l.length <= 1000000 := hv
 have hKR := Abj _ hK
 obtain ⟨kb, hkb⟩ : ∃ b, b = IQ (⟨fs, rs, gs, xs⟩, l) := ⟨_, rfl⟩
 rw [<- hkb] at hKR
 refine Ab (Z 0 rfl ?_)
 simp only [go_sem, simprocAttr, Dm, Tariff.enc, tPs, CD, DF, FW, hK, <- hkb]
 refine Ab (Ab (Z 1 rfl ?_))
 simp only [go_sem, simprocAttr, tPs, CD, DF, FW, hK, <- hkb]
 and_intros <;> try exact sdA
 refine Ag rfl (fun hb1 => ?_) fun hb1 => ?_
 ·refine Ab (Z 2 rfl ?_)
  simp only [go_sem, simprocAttr, tPs, CD, DF, FW, hK, <- hkb]
  refine TC.le (s' := ⟨mkE [(4, .list ([] : List (List V)) false), (5, .int .i64 19)], mkH []⟩) (Le.mk _ _ ?_ ?_ rfl) (Ak (hQ _ _ (.inl rfl) ?_ ?_ ?_)) <;> simp only [go_sem, simprocAttr, HK]
  exact ⟨([], 19), rfl, Ar _, fun e => absurd e (by decide)⟩
 have hkt : HN ⟨fs, rs, gs, xs⟩ l := hKR (by simpa using hb1)
 refine Aj ?_
 refine Ab (Z 3 rfl ?_)
 simp only [go_sem, simprocAttr, tPs, CD, DF, FW, hK, <- hkb]
 refine Ab (Ab (Z 4 rfl ?_))
 simp only [go_sem, simprocAttr, tPs, CD, DF, FW, hK, <- hkb]
 refine Au ?_
 refine Bg (α := Nat × (List Two)) (fun γ => (γ.1 <= l.length) /\ (γ.2.length <= γ.1) /\ (Kq l.length γ.2)) (fun γ => ⟨mkE [(1, V.list (List.map Part.enc l) false), (2, V.ptr 2 0), (6, .own 999 γ.2.length), (7, .int .i64 γ.1)], mkH [(2, Ob.box 31 [V.list (List.map Fare.enc fs) false, V.list (List.map Rule.enc rs) false, V.list (List.map Routing.enc gs) false, V.list (List.map Tax.enc xs) false]), (999, .arr 181 2 (γ.2.map Two.enc))]⟩) (fun γ => l.length - γ.1) (0, []) ⟨Ar _, Az _, fun p hp => nomatch hp⟩ ?_ ?_
 ·exact leM
 rintro ⟨i, g⟩ ⟨hi, hg, hq⟩ KL0 hKL0
 try dsimp only at *
 refine Ab (Ab (Z 5 rfl ?_))
 simp only [go_sem, simprocAttr, Ac, tPs, CD, DF, FW, hK, <- hkb]
 refine Ag rfl (fun hc5 => ?_) fun hc5 => ?_
 ·simp only [hcL] at hc5
  refine Aj ?_
  refine Ab (Au ?_)
  refine Ab ?_
  obtain ⟨⟨pf, pt, pr, pa⟩, hp⟩ : ∃ p, p = l[i] := ⟨_, rfl⟩
  have hpk := hkt _ (AF hc5)
  rw [<- hp] at hpk
  obtain ⟨p1, p2⟩ : 0 <= pr /\ pr < fs.length := hpk
  have hpF : pr.toNat < fs.length := by omega
  obtain ⟨⟨ca, fr, to, ba, cl, rd, am, ru, rg⟩, hf⟩ : ∃ f, f = fs[pr.toNat] := ⟨_, rfl⟩
  have hPr : PrP (g, (i : Int)) := show g.length <= 1000000 by omega
  have hPn : PnP (⟨fs, rs, gs, xs⟩, l, g, (i : Int)) := ⟨h1, h2, hkt, show g.length <= 1000000 by omega, show 0 <= (i : Int) by omega, show (i : Int) < l.length by omega⟩
  have hPb := AiW _ hPn
  obtain ⟨k, hk⟩ : ∃ k, k = fPn (⟨fs, rs, gs, xs⟩, l, g, (i : Int)) := ⟨_, rfl⟩
  rw [<- hk] at hPb
  refine Ab (Y 7 rfl (by kernel_rfl) ?_)
  simp only [go_sem, simprocAttr, Ap _ _ _ _ hc5, Ap _ _ _ _ hpF, hc5, hpF, Ac, <- hp, <- hf, Part.enc, Fare.enc, p1, p2, hPr, tPs, CD, DF, FW, hK, <- hkb]
  and_intros <;> try exact sdA
  refine Ag rfl (fun hb7 => ?_) fun hb7 => ?_
  ·refine Bc ?_
   simp only [go_sem, simprocAttr]
   refine Z 6 rfl ?_
   simp only [go_sem, simprocAttr, inI, tPs, CD, DF, FW, hK, <- hkb]
   and_intros <;> try exact sdA
   refine hKL0 (i + 1, g) _ ?_ ?_ ?_
   ·(try dsimp only); exact ⟨hc5, by omega, hq⟩
   ·(try dsimp only); omega
   exact leM
  refine Aj ?_
  refine Ab (Z 8 rfl ?_)
  simp only [go_sem, simprocAttr, hPn, <- hk, Ac, tPs, CD, DF, FW, hK, <- hkb]
  and_intros <;> try exact sdA
  refine Ab (Ab (Z 9 rfl ?_))
  simp only [go_sem, simprocAttr, tPs, CD, DF, FW, hK, <- hkb]
  refine Ag rfl (fun hb9 => ?_) fun hb9 => ?_
  ·refine Ab (Z 10 rfl ?_)
   simp only [go_sem, simprocAttr, tPs, CD, DF, FW, hK, <- hkb]
   refine TC.le (s' := ⟨mkE [(4, .list ([] : List (List V)) false), (5, .int .i64 23)], mkH []⟩) (Le.mk _ _ ?_ ?_ rfl) (Ak (hQ _ _ (.inl rfl) ?_ ?_ ?_)) <;> simp only [go_sem, simprocAttr, HK]
   exact ⟨([], 23), rfl, Ar _, fun e => absurd e (by decide)⟩
  have hk0 : 0 <= k := by have := of_decide_eq_false hb9; omega
  have hkl : k < l.length := hPb
  refine Aj ?_
  refine Z 11 rfl ?_
  simp only [go_sem, simprocAttr, Ac, tPs, CD, DF, FW, hK, <- hkb]
  and_intros <;> try exact sdA
  refine Z 6 rfl ?_
  simp only [go_sem, simprocAttr, inI, tPs, CD, DF, FW, hK, <- hkb]
  and_intros <;> try exact sdA
  refine hKL0 (i + 1, g ++ [⟨i, k⟩]) _ ?_ ?_ ?_
  ·(try dsimp only); exact ⟨hc5, by simp; omega, hq.sn ⟨by omega, by omega⟩ ⟨hk0, hkl⟩⟩
  ·(try dsimp only); omega
  refine Le.mk _ _ ?_ ?_ rfl <;> simp only [go_sem, simprocAttr, Ai, Av, Ay, AnG] <;> and_intros <;> try exact leA
 simp only [hcL] at hc5
 refine Bc ?_
 simp only [go_sem, simprocAttr]
 refine Ab (Z 12 rfl ?_)
 simp only [go_sem, simprocAttr, tPs, CD, DF, FW, hK, <- hkb]
 refine TC.le (s' := ⟨mkE [(4, .list (g.map Two.enc) false), (5, .int .i64 0)], mkH []⟩) (Le.mk _ _ ?_ ?_ rfl) (Ak (hQ _ _ (.inl rfl) ?_ ?_ ?_)) <;> simp only [go_sem, simprocAttr, HK]
 ·exact DO rfl (by rw [Ac]) rfl ((Two.purs g).2 trivial)
 exact ⟨(g, 0), rfl, show g.length <= l.length by omega, fun _ => ⟨hkt, hq⟩⟩
def fPs : Tariff × List Part -> List Two × Int := Ug.choose
theorem Ue : ∀ x, KnP x -> RPs x (fPs x) := Ug.choose_spec.1
theorem Uf : PU 52 (gOf Dm fun x => (KnP x, HK (fPs x))) := Ug.choose_spec.2
theorem Ba (a : List Fare) (b : List Rule) (c : List Routing) (d : List Tax) (l : List Part) : gOf Dm (fun x => (KnP x, HK (fPs x))) [.agg [.list (a.map Fare.enc) false, .list (b.map Rule.enc) false, .list (c.map Routing.enc) false, .list (d.map Tax.enc) false], .list (l.map Part.enc) false] = (KnP (⟨a, b, c, d⟩, l), .tup [.list ((fPs (⟨a, b, c, d⟩, l)).1.map Two.enc) false, .int .i64 (fPs (⟨a, b, c, d⟩, l)).2]) := Al (F := fun x => (KnP x, HK (fPs x))) LW (⟨a, b, c, d⟩, l)
theorem GT (r s : Rule) : gOf aRR (fun x => (RrP x, vBB (NA x))) [.agg r.enc, .agg s.enc] = (RrP (r, s), .bool (NA (r, s))) := Al (F := fun x => (RrP x, vBB (NA x))) Wq (r, s)
def MxP (x : Tariff × List Part) : Prop := TarOk x.1 /\ x.2.length <= 1000000
def FZ : Tab
 | 109 => (gOf Dm fun x => (KnP x, vBB (IQ x)))
 | 167 => (gOf aTP fun x => (RlP x, vRu (Gl x)))
 | 166 => (gOf aRR fun x => (RrP x, vBB (NA x)))
 | _ => gNo
theorem Al3 : ∀ f, PU f (FZ f) := fun f => by
 unfold FZ
 split
 ·exact Abk
 ·exact Acz
 ·exact AhQ
 ·exact Ah.no
theorem AbH : ∃ F : Tariff × List Part -> Int, (∀ x, MxP x -> RT x (F x)) /\ PU 105 (gOf Dm fun x => (MxP x, vII (F x))) := by
 have hG := Al3
 refine Su.p (val := vII) (R := RT) LW (by simp [Dm]) ?_
 rintro ⟨⟨fs, rs, gs, xs⟩, l⟩ hv Q hQ
 have Y := Su.E EF0 hG mixed
 have Z := Su.T EF0 hG
 obtain ⟨h1, h2⟩ : TarOk ⟨fs, rs, gs, xs⟩ /\ l.length <= 1000000 := hv
 have hK : KnP (⟨fs, rs, gs, xs⟩, l) := ⟨h1.f, h2⟩
 have hKR := Abj _ hK
 obtain ⟨kb, hkb⟩ : ∃ b, b = IQ (⟨fs, rs, gs, xs⟩, l) := ⟨_, rfl⟩
 rw [<- hkb] at hKR
 refine Ab (Z 0 rfl ?_)
 simp only [go_sem, simprocAttr, Dm, Tariff.enc, FZ, CD, DG, GT, hK, <- hkb]
 refine Ab (Ab (Z 1 rfl ?_))
 simp only [go_sem, simprocAttr, FZ, CD, DG, GT, hK, <- hkb]
 and_intros <;> try exact sdA
 refine Ag rfl (fun hb1 => ?_) fun hb1 => ?_
 ·refine Ab (Z 2 rfl ?_)
  simp only [go_sem, simprocAttr, FZ, CD, DG, GT, hK, <- hkb]
  refine Ak (hQ _ _ (.inl rfl) ?_ ?_ ?_) <;> simp only [go_sem, simprocAttr, vII]
  exact ⟨_, rfl, trivial⟩
 have hkt : HN ⟨fs, rs, gs, xs⟩ l := hKR (by simpa using hb1)
 refine Aj ?_
 refine Ab (Ab (Z 3 rfl ?_))
 simp only [go_sem, simprocAttr, FZ, CD, DG, GT, hK, <- hkb]
 refine Au ?_
 refine Bg (α := Nat) (fun i => (i <= l.length)) (fun i => ⟨mkE [(1, V.list (List.map Part.enc l) false), (2, V.ptr 2 0), (5, .int .i64 i)], mkH [(2, Ob.box 31 [V.list (List.map Fare.enc fs) false, V.list (List.map Rule.enc rs) false, V.list (List.map Routing.enc gs) false, V.list (List.map Tax.enc xs) false])]⟩) (fun i => l.length - i) 0 (Ar _) ?_ ?_
 ·exact leM
 rintro i hi KL0 hKL0
 try dsimp only at *
 refine Ab (Ab (Z 4 rfl ?_))
 simp only [go_sem, simprocAttr, Ac, FZ, CD, DG, GT, hK, <- hkb]
 refine Ag rfl (fun hc4 => ?_) fun hc4 => ?_
 ·simp only [hcL] at hc4
  refine Aj ?_
  refine Ab (Au ?_)
  obtain ⟨⟨pf, pt, pr, pa⟩, hp⟩ : ∃ p, p = l[i] := ⟨_, rfl⟩
  have hpk := hkt _ (AF hc4)
  rw [<- hp] at hpk
  have rA : RlP (⟨fs, rs, gs, xs⟩, ⟨pf, pt, pr, pa⟩) := ⟨h1, hpk.1, hpk.2⟩
  have oA : RuleOk (Gl (⟨fs, rs, gs, xs⟩, ⟨pf, pt, pr, pa⟩)) := QE _ rA
  refine Ab (Z 6 rfl ?_)
  simp only [go_sem, simprocAttr, FZ, CD, DG, GT, hK, <- hkb]
  refine Au ?_
  refine Bg (α := Nat) (fun j => (j <= i)) (fun j => ⟨mkE [(1, V.list (List.map Part.enc l) false), (2, V.ptr 2 0), (5, V.int IntKind.i64 ↑i), (6, .int .i64 j)], mkH [(2, Ob.box 31 [V.list (List.map Fare.enc fs) false, V.list (List.map Rule.enc rs) false, V.list (List.map Routing.enc gs) false, V.list (List.map Tax.enc xs) false])]⟩) (fun j => i - j) 0 (Ar _) ?_ ?_
  ·exact leM
  rintro j hj KL2 hKL2
  try dsimp only at *
  refine Ab (Ab (Z 7 rfl ?_))
  simp only [go_sem, simprocAttr, FZ, CD, DG, GT, hK, <- hkb]
  refine Ag rfl (fun hc7 => ?_) fun hc7 => ?_
  ·simp only [hcL] at hc7
   refine Aj ?_
   refine Ab (Au ?_)
   have hjl : j < l.length := by omega
   obtain ⟨⟨pf2, pt2, pr2, pa2⟩, hp2⟩ : ∃ p, p = l[j] := ⟨_, rfl⟩
   have hpk2 := hkt _ (AF hjl)
   rw [<- hp2] at hpk2
   have rB : RlP (⟨fs, rs, gs, xs⟩, ⟨pf2, pt2, pr2, pa2⟩) := ⟨h1, hpk2.1, hpk2.2⟩
   have oB : RuleOk (Gl (⟨fs, rs, gs, xs⟩, ⟨pf2, pt2, pr2, pa2⟩)) := QE _ rB
   have oAB : RrP (Gl (⟨fs, rs, gs, xs⟩, ⟨pf, pt, pr, pa⟩), Gl (⟨fs, rs, gs, xs⟩, ⟨pf2, pt2, pr2, pa2⟩)) := ⟨oA, oB⟩
   refine Ab (Y 9 rfl (by kernel_rfl) ?_)
   simp only [go_sem, simprocAttr, Ap _ _ _ _ hc4, Ap _ _ _ _ hjl, hc4, hjl, Ac, <- hp, <- hp2, Part.enc, rA, rB, oAB, Rule.pur, FZ, CD, DG, GT, hK, <- hkb]
   and_intros <;> try exact sdA
   refine Ag rfl (fun hc9 => ?_) fun hc9 => ?_
   ·simp only [hcL] at hc9
    refine Ab (Z 10 rfl ?_)
    simp only [go_sem, simprocAttr, FZ, CD, DG, GT, hK, <- hkb]
    refine Ak (hQ _ _ (.inl rfl) ?_ ?_ ?_) <;> simp only [go_sem, simprocAttr, vII]
    exact ⟨_, rfl, trivial⟩
   simp only [hcL] at hc9
   refine Aj ?_
   refine Z 8 rfl ?_
   simp only [go_sem, simprocAttr, inI, FZ, CD, DG, GT, hK, <- hkb]
   and_intros <;> try exact sdA
   refine hKL2 (j + 1) _ ?_ ?_ ?_
   ·(try dsimp only); omega
   ·(try dsimp only); omega
   exact leM
  simp only [hcL] at hc7
  refine Bc ?_
  simp only [go_sem, simprocAttr]
  refine Z 5 rfl ?_
  simp only [go_sem, simprocAttr, inI, FZ, CD, DG, GT, hK, <- hkb]
  and_intros <;> try exact sdA
  refine hKL0 (i + 1) _ ?_ ?_ ?_
  ·(try dsimp only); exact hc4
  ·(try dsimp only); omega
  exact leM
 simp only [hcL] at hc4
 refine Bc ?_
 simp only [go_sem, simprocAttr]
 refine Ab (Z 11 rfl ?_)
 simp only [go_sem, simprocAttr, FZ, CD, DG, GT, hK, <- hkb]
 refine Ak (hQ _ _ (.inl rfl) ?_ ?_ ?_) <;> simp only [go_sem, simprocAttr, vII]
 exact ⟨_, rfl, trivial⟩
def NC : Tariff × List Part -> Int := AbH.choose
theorem Ah0 : PU 105 (gOf Dm fun x => (MxP x, vII (NC x))) := AbH.choose_spec.2
theorem Im (a : List Fare) (b : List Rule) (c : List Routing) (d : List Tax) (l : List Part) : gOf Dm (fun x => (MxP x, vII (NC x))) [.agg [.list (a.map Fare.enc) false, .list (b.map Rule.enc) false, .list (c.map Routing.enc) false, .list (d.map Tax.enc) false], .list (l.map Part.enc) false] = (MxP (⟨a, b, c, d⟩, l), .int .i64 (NC (⟨a, b, c, d⟩, l))) := Al (F := fun x => (MxP x, vII (NC x))) LW (⟨a, b, c, d⟩, l)
theorem AoD {a b : List Part} (h : a.map Part.enc = b.map Part.enc) : a = b := Qi (fun x y h => Part.inj x y (by simpa using h)) |>.1 h
def aSs := ar (vg Places.enc) (ar (vg Tariff.enc) (ar (vl Want.enc) (ao (vl Part.enc))))
theorem OP : Ij aSs := ijr (ijg Places.inj) (ijr (ijg Tariff.inj) (ijr (ijl Want.inj) (ijo (ijl Part.inj))))
structure SsP (x : Places × Tariff × List Want × List Part) : Prop where
 p : PlK x.1
 t : TarOk x.2.1
 w : TmOk x.2.2.1
 l : x.2.2.2.length <= 1000000
theorem Fb (ps : List Airport) (ds : List Distance) (a : List Fare) (b : List Rule) (c : List Routing) (d : List Tax) (W : List Want) (p1 p2 p3 p4 q1 q2 q3 q4 : Int) : gOf aSy (fun x => (SyP x, vII (fSy x))) [.agg [.list (ps.map Airport.enc) false, .list (ds.map Distance.enc) false], .agg [.list (a.map Fare.enc) false, .list (b.map Rule.enc) false, .list (c.map Routing.enc) false, .list (d.map Tax.enc) false], .list (W.map Want.enc) false, .agg [.int .i64 p1, .int .i64 p2, .int .i64 p3, .int .i64 p4], .agg [.int .i64 q1, .int .i64 q2, .int .i64 q3, .int .i64 q4]] = (SyP (⟨ps, ds⟩, ⟨a, b, c, d⟩, W, ⟨p1, p2, p3, p4⟩, ⟨q1, q2, q3, q4⟩), .int .i64 (fSy (⟨ps, ds⟩, ⟨a, b, c, d⟩, W, ⟨p1, p2, p3, p4⟩, ⟨q1, q2, q3, q4⟩))) := Al (F := fun x => (SyP x, vII (fSy x))) WA (⟨ps, ds⟩, ⟨a, b, c, d⟩, W, ⟨p1, p2, p3, p4⟩, ⟨q1, q2, q3, q4⟩)
def tSs : Tab
 | 52 => (gOf Dm fun x => (KnP x, HK (fPs x)))
 | 168 => (gOf aSy fun x => (SyP x, vII (fSy x)))
 | _ => gNo
theorem Amn : ∀ f, PU f (tSs f) := fun f => by
 unfold tSs
 split
 ·exact Uf
 ·exact Alt
 ·exact Ah.no
def Aee (n : Nat) (l : List Part) : Prop := ∀ p ∈ l, 0 <= p.from' /\ p.from' < n
theorem Adu : ∃ F : Places × Tariff × List Want × List Part -> Int, (∀ x, SsP x -> RT x (F x)) /\ PU 106 (gOf aSs fun x => (SsP x, vII (F x))) := by
 have hG := Amn
 refine Sv.p (val := vII) (R := RT) OP (by simp [aSs]) ?_
 rintro ⟨⟨ps, ds⟩, ⟨fs, rs, gs, xs⟩, W, l⟩ hv Q hQ
 have Y := Sv.E EF0 hG mixed
 have Z := Sv.T EF0 hG
 obtain ⟨h1, h2, h3, h4⟩ : SsP (⟨ps, ds⟩, ⟨fs, rs, gs, xs⟩, W, l) := hv
 dsimp only at h4
 have hWl : W.length <= 900 := h3.n
 have hK : KnP (⟨fs, rs, gs, xs⟩, l) := ⟨h2.f, h4⟩
 have hPR := Ue _ hK
 obtain ⟨⟨P, pe⟩, hPe⟩ : ∃ y, y = fPs (⟨fs, rs, gs, xs⟩, l) := ⟨_, rfl⟩
 rw [<- hPe] at hPR
 obtain ⟨hPl, hPR⟩ : P.length <= l.length /\ (pe = 0 -> HN ⟨fs, rs, gs, xs⟩ l /\ Kq l.length P) := hPR
 refine Ab (Z 0 rfl ?_)
 simp only [go_sem, simprocAttr, aSs, Places.enc, Tariff.enc, tSs, Ba, Fb, hK, <- hPe]
 refine Ab (Ab (Z 1 rfl ?_))
 simp only [go_sem, simprocAttr, tSs, Ba, Fb, hK, <- hPe]
 refine Au ?_
 refine Bg (α := Nat) (fun i => (i <= l.length) /\ (Aee W.length (l.take i))) (fun i => ⟨mkE [(2, V.list (List.map Want.enc W) false), (3, V.list (List.map Part.enc l) false), (4, V.ptr 4 0), (5, V.ptr 5 0), (9, .int .i64 i)], mkH [(4, Ob.box 25 [V.list (List.map Airport.enc ps) false, V.list (List.map Distance.enc ds) false]), (5, Ob.box 31 [V.list (List.map Fare.enc fs) false, V.list (List.map Rule.enc rs) false, V.list (List.map Routing.enc gs) false, V.list (List.map Tax.enc xs) false])]⟩) (fun i => l.length - i) 0 ⟨Ar _, fun p hp => nomatch hp⟩ ?_ ?_
 ·exact leM
 rintro i ⟨hi, hk⟩ KL0 hKL0
 try dsimp only at *
 refine Ab (Ab (Z 2 rfl ?_))
 simp only [go_sem, simprocAttr, Ac, tSs, Ba, Fb, hK, <- hPe]
 refine Ag rfl (fun hc2 => ?_) fun hc2 => ?_
 ·simp only [hcL] at hc2
  refine Aj ?_
  refine Ab (Au ?_)
  obtain ⟨⟨pf, pt, pr, pa⟩, hp⟩ : ∃ p, p = l[i] := ⟨_, rfl⟩
  refine Ab (Z 4 rfl ?_)
  simp only [go_sem, simprocAttr, Ap _ _ _ _ hc2, hc2, Ac, <- hp, Part.enc, tSs, Ba, Fb, hK, <- hPe]
  and_intros <;> try exact sdA
  refine Ag rfl (fun hb4 => ?_) fun hb4 => ?_
  ·refine Ab (Z 5 rfl ?_)
   simp only [go_sem, simprocAttr, tSs, Ba, Fb, hK, <- hPe]
   refine Ak (hQ _ _ (.inl rfl) ?_ ?_ ?_) <;> simp only [go_sem, simprocAttr, vII]
   exact ⟨_, rfl, trivial⟩
  simp only [Ce, decide_eq_false_iff_not] at hb4
  refine Aj ?_
  refine Z 3 rfl ?_
  simp only [go_sem, simprocAttr, inI, tSs, Ba, Fb, hK, <- hPe]
  and_intros <;> try exact sdA
  refine hKL0 (i + 1) _ ?_ ?_ ?_
  ·(try dsimp only); exact ⟨hc2, LM hk hc2 (by rw [<- hp]; exact ⟨show 0 <= pf by omega, show pf < W.length by omega⟩)⟩
  ·(try dsimp only); omega
  exact leM
 simp only [hcL] at hc2
 rw [Bu hc2] at hk
 refine Bc ?_
 simp only [go_sem, simprocAttr]
 refine Ab (Z 6 rfl ?_)
 simp only [go_sem, simprocAttr, tSs, Ba, Fb, hK, <- hPe]
 and_intros <;> try exact sdA
 refine Ab (Ab (Z 7 rfl ?_))
 simp only [go_sem, simprocAttr, tSs, Ba, Fb, hK, <- hPe]
 refine Ag rfl (fun hb7 => ?_) fun hb7 => ?_
 ·refine Ab (Z 8 rfl ?_)
  simp only [go_sem, simprocAttr, tSs, Ba, Fb, hK, <- hPe]
  refine Ak (hQ _ _ (.inl rfl) ?_ ?_ ?_) <;> simp only [go_sem, simprocAttr, vII]
  exact ⟨_, rfl, trivial⟩
 obtain ⟨hfi, htw⟩ := hPR (by simpa using hb7)
 refine Aj ?_
 refine Ab (Ab (Z 9 rfl ?_))
 simp only [go_sem, simprocAttr, tSs, Ba, Fb, hK, <- hPe]
 refine Au ?_
 refine Bg (α := Nat) (fun k => (k <= P.length)) (fun k => ⟨mkE [(2, V.list (List.map Want.enc W) false), (3, V.list (List.map Part.enc l) false), (4, V.ptr 4 0), (5, V.ptr 5 0), (10, V.list (List.map Two.enc P) false), (12, .int .i64 k)], mkH [(4, Ob.box 25 [V.list (List.map Airport.enc ps) false, V.list (List.map Distance.enc ds) false]), (5, Ob.box 31 [V.list (List.map Fare.enc fs) false, V.list (List.map Rule.enc rs) false, V.list (List.map Routing.enc gs) false, V.list (List.map Tax.enc xs) false])]⟩) (fun k => P.length - k) 0 (Ar _) ?_ ?_
 ·exact leM
 rintro k hkk KL2 hKL2
 try dsimp only at *
 refine Ab (Ab (Z 10 rfl ?_))
 simp only [go_sem, simprocAttr, Ac, tSs, Ba, Fb, hK, <- hPe]
 refine Ag rfl (fun hc10 => ?_) fun hc10 => ?_
 ·simp only [hcL] at hc10
  refine Aj ?_
  refine Ab (Au ?_)
  obtain ⟨⟨qa, qb⟩, hq⟩ : ∃ p, p = P[k] := ⟨_, rfl⟩
  have hqi := htw _ (AF hc10)
  rw [<- hq] at hqi
  obtain ⟨⟨r1, r2⟩, r3, r4⟩ : (0 <= qa /\ qa < l.length) /\ 0 <= qb /\ qb < l.length := hqi
  have hA : qa.toNat < l.length := by omega
  have hB : qb.toNat < l.length := by omega
  obtain ⟨⟨pf, pt, pr, pa⟩, hp⟩ : ∃ p, p = l[qa.toNat] := ⟨_, rfl⟩
  obtain ⟨⟨pf2, pt2, pr2, pa2⟩, hp2⟩ : ∃ p, p = l[qb.toNat] := ⟨_, rfl⟩
  have hpk := hk _ (AF hA)
  have hpk2 := hk _ (AF hB)
  have hpf := hfi _ (AF hA)
  have hpf2 := hfi _ (AF hB)
  rw [<- hp] at hpk hpf
  rw [<- hp2] at hpk2 hpf2
  have hSy : SyP (⟨ps, ds⟩, ⟨fs, rs, gs, xs⟩, W, ⟨pf, pt, pr, pa⟩, ⟨pf2, pt2, pr2, pa2⟩) := ⟨h1, h2, h3, ⟨hpk, hpf⟩, ⟨hpk2, hpf2⟩⟩
  refine Ab (Y 12 rfl (by kernel_rfl) ?_)
  simp only [go_sem, simprocAttr, Ap _ _ _ _ hc10, Ap _ _ _ _ hA, Ap _ _ _ _ hB, hc10, hA, hB, Ac, <- hq, <- hp, <- hp2, Two.enc, Part.enc, r1, r2, r3, r4, hSy, tSs, Ba, Fb, hK, <- hPe]
  and_intros <;> try exact sdA
  refine Ab (Z 13 rfl ?_)
  simp only [go_sem, simprocAttr, tSs, Ba, Fb, hK, <- hPe]
  refine Ag rfl (fun hc13 => ?_) fun hc13 => ?_
  ·simp only [hcL] at hc13
   refine Ab (Z 14 rfl ?_)
   simp only [go_sem, simprocAttr, tSs, Ba, Fb, hK, <- hPe]
   refine Ak (hQ _ _ (.inl rfl) ?_ ?_ ?_) <;> simp only [go_sem, simprocAttr, vII]
   exact ⟨_, rfl, trivial⟩
  simp only [hcL] at hc13
  refine Aj ?_
  refine Z 11 rfl ?_
  simp only [go_sem, simprocAttr, inI, tSs, Ba, Fb, hK, <- hPe]
  and_intros <;> try exact sdA
  refine hKL2 (k + 1) _ ?_ ?_ ?_
  ·(try dsimp only); exact hc10
  ·(try dsimp only); omega
  exact leM
 simp only [hcL] at hc10
 refine Bc ?_
 simp only [go_sem, simprocAttr]
 refine Ab (Z 15 rfl ?_)
 simp only [go_sem, simprocAttr, tSs, Ba, Fb, hK, <- hPe]
 refine Ak (hQ _ _ (.inl rfl) ?_ ?_ ?_) <;> simp only [go_sem, simprocAttr, vII]
 exact ⟨_, rfl, trivial⟩
def fSs : Places × Tariff × List Want × List Part -> Int := Adu.choose
theorem Ald : PU 106 (gOf aSs fun x => (SsP x, vII (fSs x))) := Adu.choose_spec.2
theorem Ix (ps : List Airport) (ds : List Distance) (a : List Fare) (b : List Rule) (c : List Routing) (d : List Tax) (W : List Want) (l : List Part) : gOf aSs (fun x => (SsP x, vII (fSs x))) [.agg [.list (ps.map Airport.enc) false, .list (ds.map Distance.enc) false], .agg [.list (a.map Fare.enc) false, .list (b.map Rule.enc) false, .list (c.map Routing.enc) false, .list (d.map Tax.enc) false], .list (W.map Want.enc) false, .list (l.map Part.enc) false] = (SsP (⟨ps, ds⟩, ⟨a, b, c, d⟩, W, l), .int .i64 (fSs (⟨ps, ds⟩, ⟨a, b, c, d⟩, W, l))) := Al (F := fun x => (SsP x, vII (fSs x))) OP (⟨ps, ds⟩, ⟨a, b, c, d⟩, W, l)
def aWl := ar (vl Want.enc) (ao (vl Part.enc))
theorem WO : Ij aWl := ijr (ijl Want.inj) (ijo (ijl Part.inj))
def WlP (x : List Want × List Part) : Prop := x.1.length <= 1000000 /\ x.2.length <= 1000000
theorem Ad1 : ∃ F : List Want × List Part -> Bool, (∀ x, WlP x -> RT x (F x)) /\ PU 104 (gOf aWl fun x => (WlP x, vBB (F x))) := by
 have hG := AH
 refine Yz.p (val := vBB) (R := RT) WO (by simp [aWl]) ?_
 rintro ⟨W, l⟩ hv Q hQ
 have Z := Yz.T EF0 hG
 obtain ⟨h1, h2⟩ : W.length <= 1000000 /\ l.length <= 1000000 := hv
 refine Ab (Z 0 rfl ?_)
 simp only [go_sem, simprocAttr, aWl]
 refine Ab (Z 1 rfl ?_)
 simp only [go_sem, simprocAttr]
 refine Ab (Ab (Z 2 rfl ?_))
 simp only [go_sem, simprocAttr]
 refine Au ?_
 refine Bg (α := Nat × Int) (fun γ => (γ.1 <= l.length)) (fun γ => ⟨mkE [(0, V.list (List.map Want.enc W) false), (1, V.list (List.map Part.enc l) false), (5, .int .i64 γ.2), (6, .int .i64 γ.1)], mkH []⟩) (fun γ => l.length - γ.1) (0, 0) (Ar _) ?_ ?_
 ·exact leM
 rintro ⟨i, a⟩ hi KL0 hKL0
 try dsimp only at *
 refine Ab (Ab (Z 3 rfl ?_))
 simp only [go_sem, simprocAttr, Ac]
 refine Ag rfl (fun hc3 => ?_) fun hc3 => ?_
 ·simp only [hcL] at hc3
  refine Aj ?_
  refine Ab (Au ?_)
  refine Ab ?_
  obtain ⟨⟨pf, pt, pr, pa⟩, hp⟩ : ∃ p, p = l[i] := ⟨_, rfl⟩
  refine Ab (Z 5 rfl ?_)
  simp only [go_sem, simprocAttr, Ap _ _ _ _ hc3, hc3, Ac, <- hp, Part.enc]
  and_intros <;> try exact sdA
  refine Ag rfl (fun hc5 => ?_) fun hc5 => ?_
  ·simp only [hcL] at hc5
   refine Ab (Z 6 rfl ?_)
   simp only [go_sem, simprocAttr]
   refine Ak (hQ _ _ (.inl rfl) ?_ ?_ ?_) <;> simp only [go_sem, simprocAttr, vBB]
   exact ⟨_, rfl, trivial⟩
  simp only [hcL] at hc5
  refine Aj ?_
  refine Z 7 rfl ?_
  simp only [go_sem, simprocAttr, Ap _ _ _ _ hc3, hc3, Ac, <- hp, Part.enc]
  and_intros <;> try exact sdA
  refine Z 4 rfl ?_
  simp only [go_sem, simprocAttr, inI]
  and_intros <;> try exact sdA
  refine hKL0 (i + 1, pt) _ ?_ ?_ ?_
  ·(try dsimp only); exact hc3
  ·(try dsimp only); omega
  exact leM
 simp only [hcL] at hc3
 refine Bc ?_
 simp only [go_sem, simprocAttr]
 refine Ab (Z 8 rfl ?_)
 simp only [go_sem, simprocAttr, Ac]
 and_intros <;> try exact sdA
 refine Ak (hQ _ _ (.inl rfl) ?_ ?_ ?_) <;> simp only [go_sem, simprocAttr, vBB]
 exact ⟨_, rfl, trivial⟩
def fWl : List Want × List Part -> Bool := Ad1.choose
theorem Aov : PU 104 (gOf aWl fun x => (WlP x, vBB (fWl x))) := Ad1.choose_spec.2
theorem IA (W : List Want) (l : List Part) : gOf aWl (fun x => (WlP x, vBB (fWl x))) [.list (W.map Want.enc) false, .list (l.map Part.enc) false] = (WlP (W, l), .bool (fWl (W, l))) := Al (F := fun x => (WlP x, vBB (fWl x))) WO (W, l)
def GX : Tab
 | 104 => (gOf aWl fun x => (WlP x, vBB (fWl x)))
 | 52 => (gOf Dm fun x => (KnP x, HK (fPs x)))
 | 105 => (gOf Dm fun x => (MxP x, vII (NC x)))
 | 106 => (gOf aSs fun x => (SsP x, vII (fSs x)))
 | _ => gNo
theorem AlC : ∀ f, PU f (GX f) := fun f => by
 unfold GX
 split
 ·exact Aov
 ·exact Uf
 ·exact Ah0
 ·exact Ald
 ·exact Ah.no
def Rj (x : Places × Tariff × List Want × List Part) (y : Int) : Prop := y = 0 -> HN x.2.1 x.2.2.2
theorem Se : ∃ F : Places × Tariff × List Want × List Part -> Int, (∀ x, SsP x -> Rj x (F x)) /\ PU 50 (gOf aSs fun x => (SsP x, vII (F x))) := by
 have hG := AlC
 refine Aak.p (val := vII) (R := Rj) OP (by simp [aSs]) ?_
 rintro ⟨⟨ps, ds⟩, ⟨fs, rs, gs, xs⟩, W, l⟩ hv Q hQ
 have Z := Aak.T EF0 hG
 have hS : SsP (⟨ps, ds⟩, ⟨fs, rs, gs, xs⟩, W, l) := hv
 obtain ⟨h1, h2, h3, h4⟩ := id hS
 dsimp only at h4
 have hWl : W.length <= 900 := h3.n
 have hK : KnP (⟨fs, rs, gs, xs⟩, l) := ⟨h2.f, h4⟩
 have hPR := Ue _ hK
 obtain ⟨⟨P, pe⟩, hPe⟩ : ∃ y, y = fPs (⟨fs, rs, gs, xs⟩, l) := ⟨_, rfl⟩
 rw [<- hPe] at hPR
 obtain ⟨-, hPf⟩ : P.length <= l.length /\ (pe = 0 -> HN ⟨fs, rs, gs, xs⟩ l /\ Kq l.length P) := hPR
 have hM : MxP (⟨fs, rs, gs, xs⟩, l) := ⟨h2, h4⟩
 have hW : WlP (W, l) := ⟨show W.length <= 1000000 by omega, h4⟩
 refine Ab (Z 0 rfl ?_)
 simp only [go_sem, simprocAttr, aSs, Places.enc, Tariff.enc, GX, IA, Ba, Im, Ix, hS, hK, hM, hW, <- hPe]
 refine Ab (Ab (Z 1 rfl ?_))
 simp only [go_sem, simprocAttr, GX, IA, Ba, Im, Ix, hS, hK, hM, hW, <- hPe]
 and_intros <;> try exact sdA
 refine Ag rfl (fun hc1 => ?_) fun hc1 => ?_
 ·simp only [hcL] at hc1
  refine Ab (Z 2 rfl ?_)
  simp only [go_sem, simprocAttr, GX, IA, Ba, Im, Ix, hS, hK, hM, hW, <- hPe]
  refine Ak (hQ _ _ (.inl rfl) ?_ ?_ ?_) <;> simp only [go_sem, simprocAttr, vII]
  exact ⟨2, rfl, fun e => absurd e (by decide)⟩
 simp only [hcL] at hc1
 refine Aj ?_
 refine Ab (Ab (Z 3 rfl ?_))
 simp only [go_sem, simprocAttr, GX, IA, Ba, Im, Ix, hS, hK, hM, hW, <- hPe]
 and_intros <;> try exact sdA
 refine Ab (Z 4 rfl ?_)
 simp only [go_sem, simprocAttr, GX, IA, Ba, Im, Ix, hS, hK, hM, hW, <- hPe]
 refine Ag rfl (fun hc4 => ?_) fun hc4 => ?_
 ·simp only [hcL] at hc4
  refine Ab (Z 5 rfl ?_)
  simp only [go_sem, simprocAttr, GX, IA, Ba, Im, Ix, hS, hK, hM, hW, <- hPe]
  refine Ak (hQ _ _ (.inl rfl) ?_ ?_ ?_) <;> simp only [go_sem, simprocAttr, vII]
  exact ⟨pe, rfl, fun e => absurd e hc4⟩
 simp only [hcL] at hc4
 refine Aj ?_
 refine Ab (Ab (Z 6 rfl ?_))
 simp only [go_sem, simprocAttr, GX, IA, Ba, Im, Ix, hS, hK, hM, hW, <- hPe]
 and_intros <;> try exact sdA
 refine Ab (Z 7 rfl ?_)
 simp only [go_sem, simprocAttr, GX, IA, Ba, Im, Ix, hS, hK, hM, hW, <- hPe]
 refine Ag rfl (fun hc7 => ?_) fun hc7 => ?_
 ·simp only [hcL] at hc7
  refine Ab (Z 8 rfl ?_)
  simp only [go_sem, simprocAttr, GX, IA, Ba, Im, Ix, hS, hK, hM, hW, <- hPe]
  refine Ak (hQ _ _ (.inl rfl) ?_ ?_ ?_) <;> simp only [go_sem, simprocAttr, vII]
  exact ⟨_, rfl, fun e => absurd e hc7⟩
 simp only [hcL] at hc7
 refine Aj ?_
 refine Ab (Z 9 rfl ?_)
 simp only [go_sem, simprocAttr, GX, IA, Ba, Im, Ix, hS, hK, hM, hW, <- hPe]
 and_intros <;> try exact sdA
 refine Ak (hQ _ _ (.inl rfl) ?_ ?_ ?_) <;> simp only [go_sem, simprocAttr, vII]
 exact ⟨_, rfl, fun _ => (hPf (by simpa using hc4)).1⟩
def Mg : Places × Tariff × List Want × List Part -> Int := Se.choose
theorem Afc : ∀ x, SsP x -> Rj x (Mg x) := Se.choose_spec.1
theorem Afd : PU 50 (gOf aSs fun x => (SsP x, vII (Mg x))) := Se.choose_spec.2
theorem CB (ps : List Airport) (ds : List Distance) (a : List Fare) (b : List Rule) (c : List Routing) (d : List Tax) (W : List Want) (l : List Part) : gOf aSs (fun x => (SsP x, vII (Mg x))) [.agg [.list (ps.map Airport.enc) false, .list (ds.map Distance.enc) false], .agg [.list (a.map Fare.enc) false, .list (b.map Rule.enc) false, .list (c.map Routing.enc) false, .list (d.map Tax.enc) false], .list (W.map Want.enc) false, .list (l.map Part.enc) false] = (SsP (⟨ps, ds⟩, ⟨a, b, c, d⟩, W, l), .int .i64 (Mg (⟨ps, ds⟩, ⟨a, b, c, d⟩, W, l))) := Al (F := fun x => (SsP x, vII (Mg x))) OP (⟨ps, ds⟩, ⟨a, b, c, d⟩, W, l)
theorem DZ (ps : List Airport) (ds : List Distance) (c : List UInt8) : gOf aPs Mi [.agg [.list (ps.map Airport.enc) false, .list (ds.map Distance.enc) false], .str c] = (BH ⟨ps, ds⟩, .str (Md ps c)) := Al Hd (⟨ps, ds⟩, c)
def aSc := ar (vg Places.enc) (ar (vg Tax.enc) (ao (vg Seg.enc)))
theorem Ww : Ij aSc := ijr (ijg Places.inj) (ijr (ijg Tax.inj) (ijo (ijg Seg.inj)))
def tSc : Tab
 | 229 => (gOf aPs Mi)
 | _ => gNo
theorem Ami : ∀ f, PU f (tSc f) := fun f => by
 unfold tSc
 split
 ·exact Acf
 ·exact Ah.no
theorem AcM : ∃ F : Places × Tax × Seg -> Bool, (∀ x, BH x.1 -> RT x (F x)) /\ PU 228 (gOf aSc fun x => (BH x.1, vBB (F x))) := by
 have hG := Ami
 refine SS.p (val := vBB) (R := RT) Ww (by simp [aSc]) ?_
 rintro ⟨⟨ps, ds⟩, ⟨co, ki, cy, am, sc, tr, fr⟩, ⟨ca, nu, da, f, t, de, ar⟩⟩ hv Q hQ
 have Y := SS.E EF0 hG mixed
 have Z := SS.T EF0 hG
 have hL : BH ⟨ps, ds⟩ := hv
 refine Ab (Z 0 rfl ?_)
 simp only [go_sem, simprocAttr, aSc, Places.enc, Tax.enc, Seg.enc, tSc, DZ, hL]
 refine Ab (Y 1 rfl (by kernel_rfl) ?_)
 simp only [go_sem, simprocAttr, tSc, DZ, hL]
 and_intros <;> try exact sdA
 refine Ab (Ab (Z 2 rfl ?_))
 simp only [go_sem, simprocAttr, tSc, DZ, hL]
 refine Au (Ab (Z 3 rfl ?_))
 simp only [go_sem, simprocAttr, tSc, DZ, hL]
 refine Ag rfl (fun hc3 => ?_) fun hc3 => ?_
 ·simp only [hcL] at hc3
  refine Ab (Z 4 rfl ?_)
  simp only [go_sem, simprocAttr, tSc, DZ, hL]
  and_intros <;> try exact sdA
  refine Ak (hQ _ _ (.inl rfl) ?_ ?_ ?_) <;> simp only [go_sem, simprocAttr, vBB]
  exact ⟨_, rfl, trivial⟩
 simp only [hcL] at hc3
 refine Ab (Z 5 rfl ?_)
 simp only [go_sem, simprocAttr, tSc, DZ, hL]
 refine Ag rfl (fun hc5 => ?_) fun hc5 => ?_
 ·simp only [hcL] at hc5
  refine Ab (Z 6 rfl ?_)
  simp only [go_sem, simprocAttr, tSc, DZ, hL]
  and_intros <;> try exact sdA
  refine Ak (hQ _ _ (.inl rfl) ?_ ?_ ?_) <;> simp only [go_sem, simprocAttr, vBB]
  exact ⟨_, rfl, trivial⟩
 simp only [hcL] at hc5
 refine Aj ?_
 refine Ab (Z 7 rfl ?_)
 simp only [go_sem, simprocAttr, tSc, DZ, hL]
 and_intros <;> try exact sdA
 refine Ak (hQ _ _ (.inl rfl) ?_ ?_ ?_) <;> simp only [go_sem, simprocAttr, vBB]
 exact ⟨_, rfl, trivial⟩
def NH : Places × Tax × Seg -> Bool := AcM.choose
theorem Aj3 : PU 228 (gOf aSc fun x => (BH x.1, vBB (NH x))) := AcM.choose_spec.2
theorem HF (ps : List Airport) (ds : List Distance) (co : List UInt8) (ki : Int) (cy : List UInt8) (am sc tr : Int) (fr : List (List UInt8)) (ca : List UInt8) (nu da : Int) (f t : List UInt8) (de ar : Int) : gOf aSc (fun x => (BH x.1, vBB (NH x))) [.agg [.list (ps.map Airport.enc) false, .list (ds.map Distance.enc) false], .agg [.str co, .int .i64 ki, .str cy, .int .i64 am, .int .i64 sc, .int .i64 tr, .list (strs fr) false], .agg [.str ca, .int .i64 nu, .int .i64 da, .str f, .str t, .int .i64 de, .int .i64 ar]] = (BH ⟨ps, ds⟩, .bool (NH (⟨ps, ds⟩, ⟨co, ki, cy, am, sc, tr, fr⟩, ⟨ca, nu, da, f, t, de, ar⟩))) := Al (F := fun x => (BH x.1, vBB (NH x))) Ww (⟨ps, ds⟩, ⟨co, ki, cy, am, sc, tr, fr⟩, ⟨ca, nu, da, f, t, de, ar⟩)
def Hb (s : Seg) : Prop := (0 <= s.dep /\ s.dep <= 52596000) /\ 0 <= s.arr /\ s.arr <= 52596000
def aTn := ar (vg Tax.enc) (ar (vg Seg.enc) (ao (vg Seg.enc)))
theorem WH : Ij aTn := ijr (ijg Tax.inj) (ijr (ijg Seg.inj) (ijo (ijg Seg.inj)))
def TnP (x : Tax × Seg × Seg) : Prop := Hb x.2.1 /\ Hb x.2.2
theorem AdL : ∃ F : Tax × Seg × Seg -> Bool, (∀ x, TnP x -> RT x (F x)) /\ PU 230 (gOf aTn fun x => (TnP x, vBB (F x))) := by
 have hG := AH
 refine ZS.p (val := vBB) (R := RT) WH (by simp [aTn]) ?_
 rintro ⟨⟨co, ki, cy, am, sc, tr, fr⟩, ⟨ca, nu, da, f, t, de, ar⟩, ⟨ca2, nu2, da2, f2, t2, de2, ar2⟩⟩ hv Q hQ
 have Z := ZS.T EF0 hG
 obtain ⟨⟨⟨a1, a2⟩, a3, a4⟩, ⟨b1, b2⟩, b3, b4⟩ : ((0 <= de /\ de <= 52596000) /\ 0 <= ar /\ ar <= 52596000) /\ (0 <= de2 /\ de2 <= 52596000) /\ 0 <= ar2 /\ ar2 <= 52596000 := hv
 refine Ab (Z 0 rfl ?_)
 simp only [go_sem, simprocAttr, aTn, Tax.enc, Seg.enc]
 refine Ab (Z 1 rfl ?_)
 simp only [go_sem, simprocAttr, inI]
 and_intros <;> try exact sdA
 refine Ak (hQ _ _ (.inl rfl) ?_ ?_ ?_) <;> simp only [go_sem, simprocAttr, vBB]
 exact ⟨_, rfl, trivial⟩
def NJ : Tax × Seg × Seg -> Bool := AdL.choose
theorem AmR : PU 230 (gOf aTn fun x => (TnP x, vBB (NJ x))) := AdL.choose_spec.2
theorem HJ (co : List UInt8) (ki : Int) (cy : List UInt8) (am sc tr : Int) (fr : List (List UInt8)) (ca : List UInt8) (nu da : Int) (f t : List UInt8) (de ar : Int) (ca2 : List UInt8) (nu2 da2 : Int) (f2 t2 : List UInt8) (de2 ar2 : Int) : gOf aTn (fun x => (TnP x, vBB (NJ x))) [.agg [.str co, .int .i64 ki, .str cy, .int .i64 am, .int .i64 sc, .int .i64 tr, .list (strs fr) false], .agg [.str ca, .int .i64 nu, .int .i64 da, .str f, .str t, .int .i64 de, .int .i64 ar], .agg [.str ca2, .int .i64 nu2, .int .i64 da2, .str f2, .str t2, .int .i64 de2, .int .i64 ar2]] = (TnP (⟨co, ki, cy, am, sc, tr, fr⟩, ⟨ca, nu, da, f, t, de, ar⟩, ⟨ca2, nu2, da2, f2, t2, de2, ar2⟩), .bool (NJ (⟨co, ki, cy, am, sc, tr, fr⟩, ⟨ca, nu, da, f, t, de, ar⟩, ⟨ca2, nu2, da2, f2, t2, de2, ar2⟩))) := Al (F := fun x => (TnP x, vBB (NJ x))) WH (⟨co, ki, cy, am, sc, tr, fr⟩, ⟨ca, nu, da, f, t, de, ar⟩, ⟨ca2, nu2, da2, f2, t2, de2, ar2⟩)
def aDu := ar (vg Places.enc) (ar (vg Tax.enc) (ar (vl Seg.enc) (ao vi)))
theorem VK : Ij aDu := ijr (ijg Places.inj) (ijr (ijg Tax.inj) (ijr (ijl Seg.inj) (ijo iji)))
structure DuP (x : Places × Tax × List Seg × Int) : Prop where
 p : BH x.1
 n : x.2.2.1.length <= 900
 s : ∀ s ∈ x.2.2.1, Hb s
 i : 0 <= x.2.2.2 /\ x.2.2.2 < x.2.2.1.length
def RDu (_ : Places × Tax × List Seg × Int) (y : Int) : Prop := 0 <= y /\ y <= 1
def tDu : Tab
 | 229 => (gOf aPs Mi)
 | 228 => (gOf aSc fun x => (BH x.1, vBB (NH x)))
 | 230 => (gOf aTn fun x => (TnP x, vBB (NJ x)))
 | _ => gNo
theorem AlM : ∀ f, PU f (tDu f) := fun f => by
 unfold tDu
 split
 ·exact Acf
 ·exact Aj3
 ·exact AmR
 ·exact Ah.no
set_option maxRecDepth 20000 in
theorem Sl : ∃ F : Places × Tax × List Seg × Int -> Int, (∀ x, DuP x -> RDu x (F x)) /\ PU 202 (gOf aDu fun x => (DuP x, vII (F x))) := by
 have hG := AlM
 refine SQ.p (val := vII) (R := RDu) VK (by simp [aDu]) ?_
 rintro ⟨⟨ps, ds⟩, ⟨co, ki, cy, am, sc, tr, fr⟩, S, n⟩ hv Q hQ
 have Y := SQ.E EF0 hG mixed
 have Z := SQ.T EF0 hG
 obtain ⟨hL, h2, h3, h4, h5⟩ : DuP (⟨ps, ds⟩, ⟨co, ki, cy, am, sc, tr, fr⟩, S, n) := hv
 dsimp only at h2 h3 h4 h5
 obtain ⟨i, rfl⟩ : ∃ i : Nat, n = i := ⟨n.toNat, by omega⟩
 have hi : i < S.length := by omega
 have hj : i - 1 < S.length := by omega
 have e1 : ((i : Int) - 1).toNat = i - 1 := by omega
 have e2 : ((i : Int) + 1).toNat = i + 1 := by omega
 obtain ⟨⟨ca, nu, da, f, t, de, ar⟩, hs⟩ : ∃ s, s = S[i] := ⟨_, rfl⟩
 have hso := h3 _ (AF hi)
 rw [<- hs] at hso
 obtain ⟨⟨ca2, nu2, da2, f2, t2, de2, ar2⟩, hs2⟩ : ∃ s, s = S[i - 1] := ⟨_, rfl⟩
 have hso2 := h3 _ (AF hj)
 rw [<- hs2] at hso2
 have hT1 : TnP (⟨co, ki, cy, am, sc, tr, fr⟩, ⟨ca2, nu2, da2, f2, t2, de2, ar2⟩, ⟨ca, nu, da, f, t, de, ar⟩) := ⟨hso2, hso⟩
 refine Ab (Z 0 rfl ?_)
 simp only [go_sem, simprocAttr, aDu, Places.enc, Tax.enc, tDu, DZ, HF, HJ, hL]
 refine Ab (Ab (Y 1 rfl (by kernel_rfl) ?_))
 simp only [go_sem, simprocAttr, Ap _ _ _ _ hi, hi, Ac, <- hs, Seg.enc, Du, tDu, DZ, HF, HJ, hL]
 and_intros <;> try exact sdA
 refine Ag rfl (fun hc1 => ?_) fun hc1 => ?_
 ·simp only [hcL] at hc1
  refine Ab (Z 2 rfl ?_)
  simp only [go_sem, simprocAttr, tDu, DZ, HF, HJ, hL]
  refine Ak (hQ _ _ (.inl rfl) ?_ ?_ ?_) <;> simp only [go_sem, simprocAttr, vII]
  exact ⟨_, rfl, by decide, by decide⟩
 simp only [hcL] at hc1
 refine Aj ?_
 refine Ab (Ab (Y 3 rfl (by kernel_rfl) ?_))
 simp only [go_sem, simprocAttr, inI, e1, Ap _ _ _ _ hi, Ap _ _ _ _ hj, hi, hj, Ac, <- hs, <- hs2, Seg.enc, Du, hT1, tDu, DZ, HF, HJ, hL]
 and_intros <;> (try first | exact sdA | (intro hz; have hz2 := hz; simp only [By, decide_eq_true_eq] at hz2; exact ⟨hz, by omega, by omega⟩))
 refine Ag rfl (fun hc3 => ?_) fun hc3 => ?_
 ·simp only [hcL] at hc3
  refine Ab (Z 4 rfl ?_)
  simp only [go_sem, simprocAttr, tDu, DZ, HF, HJ, hL]
  refine Ak (hQ _ _ (.inl rfl) ?_ ?_ ?_) <;> simp only [go_sem, simprocAttr, vII]
  exact ⟨_, rfl, by decide, by decide⟩
 simp only [hcL] at hc3
 refine Aj ?_
 refine Ab ?_
 by_cases hz : i + 1 < S.length
 ·obtain ⟨⟨ca3, nu3, da3, f3, t3, de3, ar3⟩, hs3⟩ : ∃ s, s = S[i + 1] := ⟨_, rfl⟩
  have hso3 := h3 _ (AF hz)
  rw [<- hs3] at hso3
  have hT2 : TnP (⟨co, ki, cy, am, sc, tr, fr⟩, ⟨ca, nu, da, f, t, de, ar⟩, ⟨ca3, nu3, da3, f3, t3, de3, ar3⟩) := ⟨hso, hso3⟩
  refine Ab (Y 5 rfl (by kernel_rfl) ?_)
  simp only [go_sem, simprocAttr, inI, e2, Ap _ _ _ _ hi, hi, Ac, <- hs, Seg.enc, Du, tDu, DZ, HF, HJ, hL, Ap _ _ _ _ hz, hz, <- hs3, hT2]
  first | refine ⟨fun h => ⟨h, by omega, by omega⟩, fun h => ⟨h, by omega, by omega⟩, fun h => ⟨h, by omega, by omega⟩, fun h => ⟨h, fun h2 => by rw [h, h2]; rfl⟩, fun h => ⟨h, fun h2 => by rw [h, h2]; rfl⟩, ?_⟩ | refine ⟨fun h => ⟨h, by omega, by omega⟩, fun h => ⟨h, fun h2 => by rw [h, h2]; rfl⟩, ?_⟩
  refine Ag rfl (fun hc5 => ?_) fun hc5 => ?_
  ·simp only [hcL] at hc5
   refine Ab (Z 6 rfl ?_)
   simp only [go_sem, simprocAttr, tDu, DZ, HF, HJ, hL]
   refine Ak (hQ _ _ (.inl rfl) ?_ ?_ ?_) <;> simp only [go_sem, simprocAttr, vII]
   exact ⟨_, rfl, by decide, by decide⟩
  simp only [hcL] at hc5
  refine Aj ?_
  refine Ab (Z 7 rfl ?_)
  simp only [go_sem, simprocAttr, tDu, DZ, HF, HJ, hL]
  refine Ak (hQ _ _ (.inl rfl) ?_ ?_ ?_) <;> simp only [go_sem, simprocAttr, vII]
  exact ⟨_, rfl, by decide, by decide⟩
 have e3 : ((i : Int) + 1 < (S.length : Int)) = False := eq_false (by omega)
 refine Ab (Y 5 rfl (by kernel_rfl) ?_)
 simp only [go_sem, simprocAttr, inI, e2, Ap _ _ _ _ hi, hi, Ac, <- hs, Seg.enc, Du, tDu, DZ, HF, HJ, hL, e3, decide_false, Dh, BV, false_implies]
 first | refine ⟨fun h => ⟨h, by omega, by omega⟩, fun h => ⟨h, by omega, by omega⟩, fun h => ⟨h, by omega, by omega⟩, fun h => ⟨h, fun h2 => by rw [h, h2]; rfl⟩, fun h => ⟨h, fun h2 => by rw [h, h2]; rfl⟩, ?_⟩ | refine ⟨fun h => ⟨h, by omega, by omega⟩, fun h => ⟨h, fun h2 => by rw [h, h2]; rfl⟩, ?_⟩
 refine Ag rfl (fun hc5 => ?_) fun hc5 => ?_
 ·simp only [hcL] at hc5
  refine Ab (Z 6 rfl ?_)
  simp only [go_sem, simprocAttr, tDu, DZ, HF, HJ, hL]
  refine Ak (hQ _ _ (.inl rfl) ?_ ?_ ?_) <;> simp only [go_sem, simprocAttr, vII]
  exact ⟨_, rfl, by decide, by decide⟩
 simp only [hcL] at hc5
 refine Aj ?_
 refine Ab (Z 7 rfl ?_)
 simp only [go_sem, simprocAttr, tDu, DZ, HF, HJ, hL]
 refine Ak (hQ _ _ (.inl rfl) ?_ ?_ ?_) <;> simp only [go_sem, simprocAttr, vII]
 exact ⟨_, rfl, by decide, by decide⟩
def KX : Places × Tax × List Seg × Int -> Int := Sl.choose
theorem AfP : ∀ x, DuP x -> RDu x (KX x) := Sl.choose_spec.1
theorem AfQ : PU 202 (gOf aDu fun x => (DuP x, vII (KX x))) := Sl.choose_spec.2
theorem ET (ps : List Airport) (ds : List Distance) (co : List UInt8) (ki : Int) (cy : List UInt8) (am sc tr : Int) (fr : List (List UInt8)) (S : List Seg) (n : Int) : gOf aDu (fun x => (DuP x, vII (KX x))) [.agg [.list (ps.map Airport.enc) false, .list (ds.map Distance.enc) false], .agg [.str co, .int .i64 ki, .str cy, .int .i64 am, .int .i64 sc, .int .i64 tr, .list (strs fr) false], .list (S.map Seg.enc) false, .int .i64 n] = (DuP (⟨ps, ds⟩, ⟨co, ki, cy, am, sc, tr, fr⟩, S, n), .int .i64 (KX (⟨ps, ds⟩, ⟨co, ki, cy, am, sc, tr, fr⟩, S, n))) := Al (F := fun x => (DuP x, vII (KX x))) VK (⟨ps, ds⟩, ⟨co, ki, cy, am, sc, tr, fr⟩, S, n)
def aTm := ar (vg Places.enc) (ar (vg Tax.enc) (ar (vl Seg.enc) (ao V.str)))
theorem WG : Ij aTm := ijr (ijg Places.inj) (ijr (ijg Tax.inj) (ijr (ijl Seg.inj) (ijo ijs)))
structure TmP (x : Places × Tax × List Seg × List UInt8) : Prop where
 p : BH x.1
 f : x.2.1.free.length <= 1048576
 n : x.2.2.1.length <= 900
 s : ∀ s ∈ x.2.2.1, Hb s
def RTm (_ : Places × Tax × List Seg × List UInt8) (y : Int) : Prop := 0 <= y /\ y <= 900
def tTm : Tab
 | 202 => (gOf aDu fun x => (DuP x, vII (KX x)))
 | _ => gNo
theorem Amr : ∀ f, PU f (tTm f) := fun f => by
 unfold tTm
 split
 ·exact AfQ
 ·exact Ah.no
theorem Vg : ∃ F : Places × Tax × List Seg × List UInt8 -> Int, (∀ x, TmP x -> RTm x (F x)) /\ PU 169 (gOf aTm fun x => (TmP x, vII (F x))) := by
 have hG := Amr
 refine Zl.p (val := vII) (R := RTm) WG (by simp [aTm]) ?_
 rintro ⟨⟨ps, ds⟩, ⟨co, ki, cy, am, sc, tr, fr⟩, S, u⟩ hv Q hQ
 have Z := Zl.T EF0 hG
 obtain ⟨hL, h2, h3, h4⟩ : TmP (⟨ps, ds⟩, ⟨co, ki, cy, am, sc, tr, fr⟩, S, u) := hv
 dsimp only at h2 h3 h4
 refine Ab (Z 0 rfl ?_)
 simp only [go_sem, simprocAttr, aTm, Places.enc, Tax.enc, tTm, ET]
 refine Ab (Ab (Z 1 rfl ?_))
 simp only [go_sem, simprocAttr, tTm, ET]
 refine Au ?_
 refine Bg (α := Nat) (fun i => (i <= fr.length)) (fun i => ⟨mkE [(2, V.list (List.map Seg.enc S) false), (3, V.str u), (4, V.ptr 4 0), (5, V.ptr 5 0), (9, .int .i64 i)], mkH [(4, Ob.box 25 [V.list (List.map Airport.enc ps) false, V.list (List.map Distance.enc ds) false]), (5, Ob.box 143 [V.str co, V.int IntKind.i64 ki, V.str cy, V.int IntKind.i64 am, V.int IntKind.i64 sc, V.int IntKind.i64 tr, V.list (strs fr) false])]⟩) (fun i => fr.length - i) 0 (Ar _) ?_ ?_
 ·exact leM
 rintro i hi KL0 hKL0
 try dsimp only at *
 refine Ab (Ab (Z 2 rfl ?_))
 simp only [go_sem, simprocAttr, Em, tTm, ET]
 refine Ag rfl (fun hc2 => ?_) fun hc2 => ?_
 ·simp only [hcL] at hc2
  refine Aj ?_
  refine Ab (Au ?_)
  refine Ab (Z 4 rfl ?_)
  simp only [go_sem, simprocAttr, FY _ _ _ hc2, hc2, Em, tTm, ET]
  and_intros <;> try exact sdA
  refine Ag rfl (fun hc4 => ?_) fun hc4 => ?_
  ·simp only [hcL] at hc4
   refine Ab (Z 5 rfl ?_)
   simp only [go_sem, simprocAttr, tTm, ET]
   refine Ak (hQ _ _ (.inl rfl) ?_ ?_ ?_) <;> simp only [go_sem, simprocAttr, vII]
   exact ⟨0, rfl, by decide, by decide⟩
  simp only [hcL] at hc4
  refine Aj ?_
  refine Z 3 rfl ?_
  simp only [go_sem, simprocAttr, inI, tTm, ET]
  and_intros <;> try exact sdA
  refine hKL0 (i + 1) _ ?_ ?_ ?_
  ·(try dsimp only); exact hc2
  ·(try dsimp only); omega
  exact leM
 simp only [hcL] at hc2
 refine Bc ?_
 simp only [go_sem, simprocAttr]
 refine Ab (Ab (Z 6 rfl ?_))
 simp only [go_sem, simprocAttr, tTm, ET]
 and_intros <;> try exact sdA
 refine Ag rfl (fun hc6 => ?_) fun hc6 => ?_
 ·simp only [hcL] at hc6
  refine Ab (Z 7 rfl ?_)
  simp only [go_sem, simprocAttr, tTm, ET]
  refine Ak (hQ _ _ (.inl rfl) ?_ ?_ ?_) <;> simp only [go_sem, simprocAttr, vII]
  exact ⟨0, rfl, by decide, by decide⟩
 simp only [hcL] at hc6
 refine Aj ?_
 refine Ab (Z 8 rfl ?_)
 simp only [go_sem, simprocAttr, tTm, ET]
 refine Ab (Ab (Z 9 rfl ?_))
 simp only [go_sem, simprocAttr, tTm, ET]
 refine Au ?_
 refine Bg (α := Nat × Int) (fun γ => (γ.1 <= S.length) /\ (0 <= γ.2 /\ γ.2 <= γ.1)) (fun γ => ⟨mkE [(2, V.list (List.map Seg.enc S) false), (4, V.ptr 4 0), (5, V.ptr 5 0), (10, .int .i64 γ.2), (11, .int .i64 γ.1)], mkH [(4, Ob.box 25 [V.list (List.map Airport.enc ps) false, V.list (List.map Distance.enc ds) false]), (5, Ob.box 143 [V.str co, V.int IntKind.i64 ki, V.str cy, V.int IntKind.i64 am, V.int IntKind.i64 sc, V.int IntKind.i64 tr, V.list (strs fr) false])]⟩) (fun γ => S.length - γ.1) (0, 0) ⟨Ar _, by decide, by decide⟩ ?_ ?_
 ·exact leM
 rintro ⟨i, n⟩ ⟨hi, hn⟩ KL2 hKL2
 try dsimp only at *
 refine Ab (Ab (Z 10 rfl ?_))
 simp only [go_sem, simprocAttr, Ac, tTm, ET]
 refine Ag rfl (fun hc10 => ?_) fun hc10 => ?_
 ·simp only [hcL] at hc10
  refine Aj ?_
  refine Ab (Au ?_)
  have hD : DuP (⟨ps, ds⟩, ⟨co, ki, cy, am, sc, tr, fr⟩, S, (i : Int)) := ⟨hL, h3, h4, show 0 <= (i : Int) by omega, show (i : Int) < S.length by omega⟩
  have hDb := AfP _ hD
  obtain ⟨d, hd⟩ : ∃ d, d = KX (⟨ps, ds⟩, ⟨co, ki, cy, am, sc, tr, fr⟩, S, (i : Int)) := ⟨_, rfl⟩
  rw [<- hd] at hDb
  obtain ⟨d1, d2⟩ : 0 <= d /\ d <= 1 := hDb
  refine Z 12 rfl ?_
  simp only [go_sem, simprocAttr, inI, hD, <- hd, tTm, ET]
  and_intros <;> try exact sdA
  refine Z 11 rfl ?_
  simp only [go_sem, simprocAttr, inI, tTm, ET]
  and_intros <;> try exact sdA
  refine hKL2 (i + 1, n + d) _ ?_ ?_ ?_
  ·(try dsimp only); exact ⟨by omega, by omega, by omega⟩
  ·(try dsimp only); omega
  exact leM
 simp only [hcL] at hc10
 refine Bc ?_
 simp only [go_sem, simprocAttr]
 refine Ab (Ab (Z 13 rfl ?_))
 simp only [go_sem, simprocAttr, tTm, ET]
 refine Ag rfl (fun hc13 => ?_) fun hc13 => ?_
 ·simp only [hcL] at hc13
  refine Ab (Z 14 rfl ?_)
  simp only [go_sem, simprocAttr, tTm, ET]
  refine Ak (hQ _ _ (.inl rfl) ?_ ?_ ?_) <;> simp only [go_sem, simprocAttr, vII]
  exact ⟨min n 1, rfl, show 0 <= min n 1 by omega, show min n 1 <= 900 by omega⟩
 simp only [hcL] at hc13
 refine Aj ?_
 refine Ab (Z 15 rfl ?_)
 simp only [go_sem, simprocAttr, tTm, ET]
 refine Ak (hQ _ _ (.inl rfl) ?_ ?_ ?_) <;> simp only [go_sem, simprocAttr, vII]
 exact ⟨n, rfl, show 0 <= n by omega, show n <= 900 by omega⟩
def Lh : Places × Tax × List Seg × List UInt8 -> Int := Vg.choose
theorem AmO : ∀ x, TmP x -> RTm x (Lh x) := Vg.choose_spec.1
theorem AmQ : PU 169 (gOf aTm fun x => (TmP x, vII (Lh x))) := Vg.choose_spec.2
theorem EN (ps : List Airport) (ds : List Distance) (co : List UInt8) (ki : Int) (cy : List UInt8) (am sc tr : Int) (fr : List (List UInt8)) (S : List Seg) (u : List UInt8) : gOf aTm (fun x => (TmP x, vII (Lh x))) [.agg [.list (ps.map Airport.enc) false, .list (ds.map Distance.enc) false], .agg [.str co, .int .i64 ki, .str cy, .int .i64 am, .int .i64 sc, .int .i64 tr, .list (strs fr) false], .list (S.map Seg.enc) false, .str u] = (TmP (⟨ps, ds⟩, ⟨co, ki, cy, am, sc, tr, fr⟩, S, u), .int .i64 (Lh (⟨ps, ds⟩, ⟨co, ki, cy, am, sc, tr, fr⟩, S, u))) := Al (F := fun x => (TmP x, vII (Lh x))) WG (⟨ps, ds⟩, ⟨co, ki, cy, am, sc, tr, fr⟩, S, u)
def TxK (x : Tax) : Prop := (0 <= x.amount /\ x.amount <= 1099511627776) /\ x.free.length <= 1048576
def Ks := ar (vg Places.enc) (ar (vl Tax.enc) (ar (vl Seg.enc) (ar V.str (ao vi))))
theorem VX : Ij Ks := ijr (ijg Places.inj) (ijr (ijl Tax.inj) (ijr (ijl Seg.inj) (ijr ijs (ijo iji))))
structure OfTP (y : Places × List Tax × List Seg × List UInt8 × Int) : Prop where
 p : BH y.1
 l : y.2.1.length <= 1000000
 x : ∀ x ∈ y.2.1, TxK x
 n : y.2.2.1.length <= 900
 s : ∀ s ∈ y.2.2.1, Hb s
 f : 0 <= y.2.2.2.2
def ChK (l : List Charge) : Prop := ∀ c ∈ l, 0 <= c.amount /\ c.amount <= 1099511627776
def Rl (x : Places × List Tax × List Seg × List UInt8 × Int) (y : List Charge × Int) : Prop := y.1.length <= x.2.1.length /\ (y.2 = 0 -> ChK y.1)
def Js (y : List Charge × Int) : V := .tup [.list (y.1.map Charge.enc) false, .int .i64 y.2]
theorem Ae9 (g : List Charge) (a : List UInt8) (b : Int) : (g ++ [(⟨a, b⟩ : Charge)]).map Charge.enc = g.map Charge.enc ++ [[.str a, .int .i64 b]] := by simp [Charge.enc]
theorem ChK.sn {g : List Charge} (h : ChK g) {a : List UInt8} {b : Int} (h1 : 0 <= b) (h2 : b <= 1099511627776) : ChK (g ++ [⟨a, b⟩]) := fun p hp => by
 rcases BU.1 hp with hp | hp
 ·exact h p hp
 ·rw [Bk.1 hp]; exact ⟨h1, h2⟩
def Eo : Tab
 | 169 => (gOf aTm fun x => (TmP x, vII (Lh x)))
 | 165 => (gOf CP HZ)
 | _ => gNo
theorem Al7 : ∀ f, PU f (Eo f) := fun f => by
 unfold Eo
 split
 ·exact AmQ
 ·exact Acu
 ·exact Ah.no
theorem TU : ∃ F : Places × List Tax × List Seg × List UInt8 × Int -> List Charge × Int, (∀ x, OfTP x -> Rl x (F x)) /\ PU 107 (gOf Ks fun x => (OfTP x, Js (F x))) := by
 have hG := Al7
 refine Sw.p (val := Js) (R := Rl) VX (by simp [Ks]) ?_
 rintro ⟨⟨ps, ds⟩, l, S, u, fa⟩ hv Q hQ
 have Y := Sw.E EF0 hG mixed
 have Z := Sw.T EF0 hG
 obtain ⟨hL, h2, h3, h4, h5, h6⟩ : OfTP (⟨ps, ds⟩, l, S, u, fa) := hv
 dsimp only at h2 h3 h4 h5 h6
 refine Ab (Z 0 rfl ?_)
 simp only [go_sem, simprocAttr, Ks, Places.enc, Eo, EN, Cb, Am]
 refine Ab (Z 1 rfl ?_)
 simp only [go_sem, simprocAttr, Eo, EN, Cb, Am]
 refine Ab (Ab (Z 2 rfl ?_))
 simp only [go_sem, simprocAttr, Eo, EN, Cb, Am]
 refine Au ?_
 refine Bg (α := Nat × (List Charge)) (fun γ => (γ.1 <= l.length) /\ (γ.2.length <= γ.1) /\ (ChK γ.2)) (fun γ => ⟨mkE [(1, V.list (List.map Tax.enc l) false), (2, V.list (List.map Seg.enc S) false), (3, V.str u), (4, V.int IntKind.i64 fa), (5, V.ptr 5 0), (12, .own 999 γ.2.length), (13, .int .i64 γ.1)], mkH [(5, Ob.box 25 [V.list (List.map Airport.enc ps) false, V.list (List.map Distance.enc ds) false]), (999, .arr 92 2 (γ.2.map Charge.enc))]⟩) (fun γ => l.length - γ.1) (0, []) ⟨Ar _, Az _, fun p hp => nomatch hp⟩ ?_ ?_
 ·exact leM
 rintro ⟨i, g⟩ ⟨hi, hg, hk⟩ KL0 hKL0
 try dsimp only at *
 refine Ab (Ab (Z 3 rfl ?_))
 simp only [go_sem, simprocAttr, Ac, Eo, EN, Cb, Am]
 refine Ag rfl (fun hc3 => ?_) fun hc3 => ?_
 ·simp only [hcL] at hc3
  refine Aj ?_
  refine Ab (Au ?_)
  obtain ⟨⟨co, ki, cy, am, sc, tr, fr⟩, hx⟩ : ∃ x, x = l[i] := ⟨_, rfl⟩
  have hxk := h3 _ (AF hc3)
  rw [<- hx] at hxk
  obtain ⟨⟨x1, x2⟩, x3⟩ : (0 <= am /\ am <= 1099511627776) /\ fr.length <= 1048576 := hxk
  have hT : TmP (⟨ps, ds⟩, ⟨co, ki, cy, am, sc, tr, fr⟩, S, u) := ⟨hL, x3, h4, h5⟩
  have hTb := AmO _ hT
  obtain ⟨n, hn⟩ : ∃ n, n = Lh (⟨ps, ds⟩, ⟨co, ki, cy, am, sc, tr, fr⟩, S, u) := ⟨_, rfl⟩
  rw [<- hn] at hTb
  obtain ⟨n1, n2⟩ : 0 <= n /\ n <= 900 := hTb
  have hm0 : 0 <= n * am := Il n1 x1
  have hm1 : n * am <= 900 * 1099511627776 := Int.le_trans (Qa n2 x1) (Qc x2 (by decide))
  refine Ab (Y 5 rfl (by kernel_rfl) ?_)
  simp only [go_sem, simprocAttr, Ap _ _ _ _ hc3, hc3, Ac, <- hx, Tax.enc, hT, <- hn, Eo, EN, Cb, Am]
  and_intros <;> try exact sdA
  refine Ab (Z 6 rfl ?_)
  simp only [go_sem, simprocAttr, inI, Ap _ _ _ _ hc3, hc3, Ac, <- hx, Tax.enc, Eo, EN, Cb, Am]
  and_intros <;> try exact sdA
  refine Ep (α := Int × Int) (fun γ => (γ.2 = 0 -> 0 <= γ.1)) (fun γ => ⟨mkE [(1, V.list (List.map Tax.enc l) false), (2, V.list (List.map Seg.enc S) false), (3, V.str u), (4, V.int IntKind.i64 fa), (5, V.ptr 5 0), (12, V.own 999 g.length), (13, V.int IntKind.i64 ↑i), (15, .int .i64 γ.1), (16, .int .i64 γ.2)], mkH [(5, Ob.box 25 [V.list (List.map Airport.enc ps) false, V.list (List.map Distance.enc ds) false]), (999, Ob.arr 92 2 (List.map Charge.enc g))]⟩) ?_ ?_
  ·intro KC7 hKC7
   refine Ab (Z 7 rfl ?_)
   simp only [go_sem, simprocAttr, Ap _ _ _ _ hc3, hc3, Ac, <- hx, Tax.enc, Eo, EN, Cb, Am]
   and_intros <;> try exact sdA
   refine Ag rfl (fun hc7 => ?_) fun hc7 => ?_
   ·simp only [hcL] at hc7
    refine Z 8 rfl ?_
    simp only [go_sem, simprocAttr, Ap _ _ _ _ hc3, hc3, Ac, <- hx, Tax.enc, Eo, EN, Cb, Am]
    and_intros <;> try exact sdA
    refine hKC7 ((Gz fa am).1, (Gz fa am).2) _ ?_ ?_
    ·(try dsimp only); exact fun e => (Qu () h6 x1 e).1
    exact leM
   simp only [hcL] at hc7
   refine Aj ?_
   refine hKC7 (n * am, 0) _ ?_ ?_
   ·(try dsimp only); exact fun _ => hm0
   exact leM
  rintro ⟨a, e⟩ ha
  try dsimp only at *
  refine Ab (Ab (Z 9 rfl ?_))
  simp only [go_sem, simprocAttr, Eo, EN, Cb, Am]
  refine Ag rfl (fun hc9 => ?_) fun hc9 => ?_
  ·simp only [hcL] at hc9
   refine Ab (Z 10 rfl ?_)
   simp only [go_sem, simprocAttr, Eo, EN, Cb, Am]
   refine TC.le (s' := ⟨mkE [(10, .list ([] : List (List V)) false), (11, .int .i64 e)], mkH []⟩) (Le.mk _ _ ?_ ?_ rfl) (Ak (hQ _ _ (.inl rfl) ?_ ?_ ?_)) <;> simp only [go_sem, simprocAttr, Js]
   exact ⟨([], e), rfl, Ar _, fun e0 => absurd e0 hc9⟩
  simp only [hcL] at hc9
  refine Aj ?_
  refine Ab (Ab (Z 11 rfl ?_))
  simp only [go_sem, simprocAttr, Eo, EN, Cb, Am]
  refine Ag rfl (fun hc11 => ?_) fun hc11 => ?_
  ·simp only [hcL] at hc11
   refine Ab (Z 12 rfl ?_)
   simp only [go_sem, simprocAttr, Eo, EN, Cb, Am]
   refine TC.le (s' := ⟨mkE [(10, .list ([] : List (List V)) false), (11, .int .i64 11)], mkH []⟩) (Le.mk _ _ ?_ ?_ rfl) (Ak (hQ _ _ (.inl rfl) ?_ ?_ ?_)) <;> simp only [go_sem, simprocAttr, Js]
   exact ⟨([], 11), rfl, Ar _, fun e0 => absurd e0 (by decide)⟩
  simp only [hcL] at hc11
  refine Aj ?_
  refine Ab (Z 13 rfl ?_)
  simp only [go_sem, simprocAttr, Eo, EN, Cb, Am]
  refine Ag rfl (fun hc13 => ?_) fun hc13 => ?_
  ·simp only [hcL] at hc13
   refine Z 14 rfl ?_
   simp only [go_sem, simprocAttr, Ap _ _ _ _ hc3, hc3, Ac, <- hx, Tax.enc, Eo, EN, Cb, Am]
   and_intros <;> try exact sdA
   refine Z 4 rfl ?_
   simp only [go_sem, simprocAttr, inI, Eo, EN, Cb, Am]
   and_intros <;> try exact sdA
   refine hKL0 (i + 1, g ++ [⟨co, a⟩]) _ ?_ ?_ ?_
   ·(try dsimp only); exact ⟨hc3, by simp; omega, hk.sn (ha (by simpa using hc9)) (by omega)⟩
   ·(try dsimp only); omega
   refine Le.mk _ _ ?_ ?_ rfl <;> simp only [go_sem, simprocAttr, Ai, Av, Ay, Ae9] <;> and_intros <;> try exact leA
  simp only [hcL] at hc13
  refine Aj ?_
  refine Z 4 rfl ?_
  simp only [go_sem, simprocAttr, inI, Eo, EN, Cb, Am]
  and_intros <;> try exact sdA
  refine hKL0 (i + 1, g) _ ?_ ?_ ?_
  ·(try dsimp only); exact ⟨hc3, by omega, hk⟩
  ·(try dsimp only); omega
  exact leM
 simp only [hcL] at hc3
 refine Bc ?_
 simp only [go_sem, simprocAttr]
 refine Ab (Z 15 rfl ?_)
 simp only [go_sem, simprocAttr, Eo, EN, Cb, Am]
 refine TC.le (s' := ⟨mkE [(10, .list (g.map Charge.enc) false), (11, .int .i64 0)], mkH []⟩) (Le.mk _ _ ?_ ?_ rfl) (Ak (hQ _ _ (.inl rfl) ?_ ?_ ?_)) <;> simp only [go_sem, simprocAttr, Js]
 ·exact DO rfl (by rw [Ac]) rfl ((Charge.purs g).2 trivial)
 exact ⟨(g, 0), rfl, show g.length <= l.length by omega, fun _ => hk⟩
def JI : Places × List Tax × List Seg × List UInt8 × Int -> List Charge × Int := TU.choose
theorem Aih : ∀ x, OfTP x -> Rl x (JI x) := TU.choose_spec.1
theorem Aii : PU 107 (gOf Ks fun x => (OfTP x, Js (JI x))) := TU.choose_spec.2
theorem DU (ps : List Airport) (ds : List Distance) (l : List Tax) (S : List Seg) (u : List UInt8) (f : Int) : gOf Ks (fun x => (OfTP x, Js (JI x))) [.agg [.list (ps.map Airport.enc) false, .list (ds.map Distance.enc) false], .list (l.map Tax.enc) false, .list (S.map Seg.enc) false, .str u, .int .i64 f] = (OfTP (⟨ps, ds⟩, l, S, u, f), .tup [.list ((JI (⟨ps, ds⟩, l, S, u, f)).1.map Charge.enc) false, .int .i64 (JI (⟨ps, ds⟩, l, S, u, f)).2]) := Al (F := fun x => (OfTP x, Js (JI x))) VX (⟨ps, ds⟩, l, S, u, f)
def aWs := ao (vl Want.enc)
theorem OR : Ij aWs := ijo (ijl Want.inj)
def LQ (l : List Seg) : V := .list (l.map Seg.enc) false
def RSg (x : List Want) (y : List Seg) : Prop := y = x.map Want.seg
theorem Aj8 (g : List Seg) (s : Seg) : (g ++ [s]).map Seg.enc = g.map Seg.enc ++ [s.enc] := by simp
theorem UE : ∃ F : List Want -> List Seg, (∀ x, x.length <= 900 -> RSg x (F x)) /\ PU 108 (gOf aWs fun x => (x.length <= 900, LQ (F x))) := by
 have hG := AH
 refine YA.p (val := LQ) (R := RSg) OR (by simp [aWs]) ?_
 rintro W hv Q hQ
 have Z := YA.T EF0 hG
 have h1 : W.length <= 900 := hv
 refine Ab (Z 0 rfl ?_)
 simp only [go_sem, simprocAttr, aWs]
 refine Ab (Z 1 rfl ?_)
 simp only [go_sem, simprocAttr]
 refine Ab (Ab (Z 2 rfl ?_))
 simp only [go_sem, simprocAttr]
 refine Au ?_
 refine Bg (α := Nat × (List Seg)) (fun γ => (γ.1 <= W.length) /\ (γ.2.length = γ.1) /\ (γ.2 = (W.take γ.1).map Want.seg)) (fun γ => ⟨mkE [(0, V.list (List.map Want.enc W) false), (3, .own 999 γ.2.length), (4, .int .i64 γ.1)], mkH [(999, .arr 53 7 (γ.2.map Seg.enc))]⟩) (fun γ => W.length - γ.1) (0, []) ⟨Ar _, rfl, rfl⟩ ?_ ?_
 ·exact leM
 rintro ⟨i, g⟩ ⟨hi, hl, hg⟩ KL0 hKL0
 try dsimp only at *
 refine Ab (Ab (Z 3 rfl ?_))
 simp only [go_sem, simprocAttr, Ac]
 refine Ag rfl (fun hc3 => ?_) fun hc3 => ?_
 ·simp only [hcL] at hc3
  refine Aj ?_
  refine Ab (Au ?_)
  obtain ⟨⟨⟨ca, nu, da, fr, to, de, ar⟩, cl⟩, hw⟩ : ∃ w, w = W[i] := ⟨_, rfl⟩
  refine Z 5 rfl ?_
  simp only [go_sem, simprocAttr, Ap _ _ _ _ hc3, hc3, Ac, <- hw, Want.enc]
  and_intros <;> try exact sdA
  refine Z 4 rfl ?_
  simp only [go_sem, simprocAttr, inI]
  and_intros <;> try exact sdA
  refine hKL0 (i + 1, g ++ [⟨ca, nu, da, fr, to, de, ar⟩]) _ ?_ ?_ ?_
  ·(try dsimp only); exact ⟨hc3, by rw [Ai, hl]; rfl, by rw [CW hc3, DC, <- hg, <- hw]; rfl⟩
  ·(try dsimp only); omega
  refine Le.mk _ _ ?_ ?_ rfl <;> simp only [go_sem, simprocAttr, Ai, Av, Ay, Aj8, Seg.enc] <;> and_intros <;> try exact leA
 simp only [hcL] at hc3
 rw [Bu hc3] at hg
 refine Bc ?_
 simp only [go_sem, simprocAttr]
 refine Ab (Z 6 rfl ?_)
 simp only [go_sem, simprocAttr]
 refine TC.le (s' := ⟨mkE [(2, .list (g.map Seg.enc) false)], mkH []⟩) (Le.mk _ _ ?_ ?_ rfl) (Ak (hQ _ _ (.inl rfl) ?_ ?_ ?_)) <;> simp only [go_sem, simprocAttr, LQ]
 ·exact DO rfl (by rw [Ac]) rfl ((Seg.purs g).2 trivial)
 exact ⟨g, rfl, hg⟩
def Hr : List Want -> List Seg := UE.choose
theorem Aj6 : ∀ x : List Want, x.length <= 900 -> RSg x (Hr x) := UE.choose_spec.1
theorem Aj7 : PU 108 (gOf aWs fun x => (x.length <= 900, LQ (Hr x))) := UE.choose_spec.2
theorem DV (W : List Want) : gOf aWs (fun x => (x.length <= 900, LQ (Hr x))) [.list (W.map Want.enc) false] = (W.length <= 900, .list ((Hr W).map Seg.enc) false) := Al (F := fun x => (x.length <= 900, LQ (Hr x))) OR W
def Kw := ar (vl Part.enc) (ao vi)
theorem We : Ij Kw := ijr (ijl Part.inj) (ijo iji)
def Chn (n : Int) : Int -> List Part -> Prop
 | a, [] => a = n
 | a, x :: l => (x.from' = a /\ a < x.to' /\ x.to' <= n) /\ Chn n x.to' l
def CsP (x : List Part × Int) : Prop := x.1.length <= 1000000
def RCs (x : List Part × Int) (b : Bool) : Prop := b = true -> Chn x.2 0 x.1
theorem Sg : ∃ F : List Part × Int -> Bool, (∀ x, CsP x -> RCs x (F x)) /\ PU 47 (gOf Kw fun x => (CsP x, vBB (F x))) := by
 have hG := AH
 refine Aaj.p (val := vBB) (R := RCs) We (by simp [Kw]) ?_
 rintro ⟨l, n⟩ hv Q hQ
 have Z := Aaj.T EF0 hG
 have h1 : l.length <= 1000000 := hv
 refine Ab (Z 0 rfl ?_)
 simp only [go_sem, simprocAttr, Kw]
 refine Ab (Z 1 rfl ?_)
 simp only [go_sem, simprocAttr]
 refine Ab (Ab (Z 2 rfl ?_))
 simp only [go_sem, simprocAttr]
 refine Au ?_
 refine Bg (α := Nat × Int) (fun γ => (γ.1 <= l.length) /\ (Chn n γ.2 (l.drop γ.1) -> Chn n 0 l)) (fun γ => ⟨mkE [(0, V.list (List.map Part.enc l) false), (1, V.int IntKind.i64 n), (5, .int .i64 γ.2), (6, .int .i64 γ.1)], mkH []⟩) (fun γ => l.length - γ.1) (0, 0) ⟨Ar _, id⟩ ?_ ?_
 ·exact leM
 rintro ⟨i, a⟩ ⟨hi, hs⟩ KL0 hKL0
 try dsimp only at *
 refine Ab (Ab (Z 3 rfl ?_))
 simp only [go_sem, simprocAttr, Ac]
 refine Ag rfl (fun hc3 => ?_) fun hc3 => ?_
 ·simp only [hcL] at hc3
  refine Aj ?_
  refine Ab (Au ?_)
  refine Ab ?_
  obtain ⟨⟨pf, pt, pr, pa⟩, hp⟩ : ∃ p, p = l[i] := ⟨_, rfl⟩
  have hd := DS hc3
  rw [hd, Chn, <- hp] at hs
  refine Ab (Z 5 rfl ?_)
  simp only [go_sem, simprocAttr, Ap _ _ _ _ hc3, hc3, Ac, <- hp, Part.enc]
  and_intros <;> try exact sdA
  refine Ag rfl (fun hb5 => ?_) fun hb5 => ?_
  ·refine Ab (Z 6 rfl ?_)
   simp only [go_sem, simprocAttr]
   refine Ak (hQ _ _ (.inl rfl) ?_ ?_ ?_) <;> simp only [go_sem, simprocAttr, vBB]
   exact ⟨false, rfl, fun e => by cases e⟩
  simp only [Ce, Ii, decide_eq_true_eq, decide_eq_false_iff_not] at hb5
  refine Aj ?_
  refine Z 7 rfl ?_
  simp only [go_sem, simprocAttr, Ap _ _ _ _ hc3, hc3, Ac, <- hp, Part.enc]
  and_intros <;> try exact sdA
  refine Z 4 rfl ?_
  simp only [go_sem, simprocAttr, inI]
  and_intros <;> try exact sdA
  refine hKL0 (i + 1, pt) _ ?_ ?_ ?_
  ·(try dsimp only); exact ⟨hc3, fun h => hs ⟨⟨by dsimp only; omega, by dsimp only; omega, by dsimp only; omega⟩, h⟩⟩
  ·(try dsimp only); omega
  exact leM
 simp only [hcL] at hc3
 rw [List.drop_of_length_le hc3] at hs
 refine Bc ?_
 simp only [go_sem, simprocAttr]
 refine Ab (Z 8 rfl ?_)
 simp only [go_sem, simprocAttr]
 refine Ak (hQ _ _ (.inl rfl) ?_ ?_ ?_) <;> simp only [go_sem, simprocAttr, vBB]
 exact ⟨decide (a = n), rfl, fun e => hs (show Chn n a [] from (of_decide_eq_true e : a = n))⟩
def KW : List Part × Int -> Bool := Sg.choose
theorem AfG : ∀ x, CsP x -> RCs x (KW x) := Sg.choose_spec.1
theorem AfH : PU 47 (gOf Kw fun x => (CsP x, vBB (KW x))) := Sg.choose_spec.2
theorem CC (l : List Part) (n : Int) : gOf Kw (fun x => (CsP x, vBB (KW x))) [.list (l.map Part.enc) false, .int .i64 n] = (CsP (l, n), .bool (KW (l, n))) := Al (F := fun x => (CsP x, vBB (KW x))) We (l, n)
def amS (l : List Part) : Int := (l.map Part.amount).sum
def chS (l : List Charge) : Int := (l.map Charge.amount).sum
theorem AeE {l : List Part} {i : Nat} (h : i < l.length) : amS (l.take (i + 1)) = amS (l.take i) + l[i].amount := by
 unfold amS; rw [CW h, DC, MG]; simp
theorem Xu {l : List Charge} {i : Nat} (h : i < l.length) : chS (l.take (i + 1)) = chS (l.take i) + l[i].amount := by
 unfold chS; rw [CW h, DC, MG]; simp
def AmK (l : List Part) : Prop := ∀ p ∈ l, 0 <= p.amount /\ p.amount <= 1099511627776
def aSm := ar (vg Places.enc) (ar (vg Tariff.enc) (ar (vl Want.enc) (ar V.str (ao (vl Part.enc)))))
theorem Wx : Ij aSm := ijr (ijg Places.inj) (ijr (ijg Tariff.inj) (ijr (ijl Want.inj) (ijr ijs (ijo (ijl Part.inj)))))
structure SmP (y : Places × Tariff × List Want × List UInt8 × List Part) : Prop where
 p : BH y.1
 t : TarOk y.2.1
 x : ∀ x ∈ y.2.1.taxes, TxK x
 w : TmOk y.2.2.1
 l : y.2.2.2.2.length <= 1000000
 a : AmK y.2.2.2.2
structure QuK (l : List Part) (q : Quote) : Prop where
 f : q.fare = amS l
 f0 : 0 <= q.fare /\ q.fare <= 1099511627776
 x : ChK q.taxes
 n : q.taxes.length <= 1000000
 t : q.total = q.fare + chS q.taxes
 t0 : 0 <= q.total /\ q.total <= 1099511627776
 p : q.parts = l
def RSm (x : Places × Tariff × List Want × List UInt8 × List Part) (y : Quote × Bool) : Prop := y.1.parts.length <= 1000000 /\ y.1.taxes.length <= 1000000 /\ y.1.pairs = [] /\ (y.2 = true -> QuK x.2.2.2.2 y.1)
def vQB (y : Quote × Bool) : V := .tup [.agg y.1.enc, .bool y.2]
def Quote.none : Quote := ⟨[], [], [], 0, 0⟩
instance : Inhabited Quote := ⟨Quote.none⟩
theorem Hb.segs {W : List Want} (h : TmOk W) : (Hr W).length <= 900 /\ ∀ s ∈ Hr W, Hb s := by
 have e := Aj6 W h.n
 rw [show Hr W = W.map Want.seg from e]
 refine ⟨by rw [Ac]; exact h.n, fun s hs => ?_⟩
 obtain ⟨w, hw, rfl⟩ := An.1 hs
 exact h.t w hw
def tSm : Tab
 | 108 => (gOf aWs fun x => (x.length <= 900, LQ (Hr x)))
 | 107 => (gOf Ks fun x => (OfTP x, Js (JI x)))
 | _ => gNo
theorem Amk : ∀ f, PU f (tSm f) := fun f => by
 unfold tSm
 split
 ·exact Aj7
 ·exact Aii
 ·exact Ah.no
theorem UH : ∃ F : Places × Tariff × List Want × List UInt8 × List Part -> Quote × Bool, (∀ x, SmP x -> RSm x (F x)) /\ PU 51 (gOf aSm fun x => (SmP x, vQB (F x))) := by
 have hG := Amk
 refine SY.p (val := vQB) (R := RSm) Wx (by simp [aSm]) ?_
 rintro ⟨⟨ps, ds⟩, ⟨fs, rs, gs, xs⟩, W, u, l⟩ hv Q hQ
 have Y := SY.E EF0 hG mixed
 have Z := SY.T EF0 hG
 obtain ⟨hL, h2, h3, h4, h5, h6⟩ : SmP (⟨ps, ds⟩, ⟨fs, rs, gs, xs⟩, W, u, l) := hv
 dsimp only at h3 h5 h6
 have hxl : xs.length <= 1000000 := h2.x
 obtain ⟨hs1, hs2⟩ := Hb.segs h4
 refine Ab (Z 0 rfl ?_)
 simp only [go_sem, simprocAttr, aSm, Places.enc, Tariff.enc, tSm, DV, DU]
 refine Ab (Z 1 rfl ?_)
 simp only [go_sem, simprocAttr, tSm, DV, DU]
 refine Ab (Ab (Z 2 rfl ?_))
 simp only [go_sem, simprocAttr, tSm, DV, DU]
 refine Au ?_
 refine Bg (α := Nat × Int) (fun γ => (γ.1 <= l.length) /\ (γ.2 = amS (l.take γ.1)) /\ (0 <= γ.2 /\ γ.2 <= 1099511627776)) (fun γ => ⟨mkE [(2, V.list (List.map Want.enc W) false), (3, V.str u), (4, V.list (List.map Part.enc l) false), (5, V.ptr 5 0), (6, V.ptr 6 0), (10, V.ptr 10 0), (12, V.ptr 12 0), (13, .int .i64 γ.1)], mkH [(5, Ob.box 25 [V.list (List.map Airport.enc ps) false, V.list (List.map Distance.enc ds) false]), (6, Ob.box 31 [V.list (List.map Fare.enc fs) false, V.list (List.map Rule.enc rs) false, V.list (List.map Routing.enc gs) false, V.list (List.map Tax.enc xs) false]), (10, Ob.box 37 [V.nils, V.nils, V.nils, V.int IntKind.i64 0, V.int IntKind.i64 0]), (12, .box 37 [.list (l.map Part.enc) false, .nils, .nils, .int .i64 γ.2, .int .i64 0])]⟩) (fun γ => l.length - γ.1) (0, 0) ⟨Ar _, rfl, by decide, by decide⟩ ?_ ?_
 ·exact leM
 rintro ⟨i, f⟩ ⟨hi, hf, hf0⟩ KL0 hKL0
 try dsimp only at *
 refine Ab (Ab (Z 3 rfl ?_))
 simp only [go_sem, simprocAttr, Ac, tSm, DV, DU]
 refine Ag rfl (fun hc3 => ?_) fun hc3 => ?_
 ·simp only [hcL] at hc3
  refine Aj ?_
  refine Ab (Au ?_)
  obtain ⟨⟨pf, pt, pr, pa⟩, hp⟩ : ∃ p, p = l[i] := ⟨_, rfl⟩
  have hpk := h6 _ (AF hc3)
  rw [<- hp] at hpk
  obtain ⟨p1, p2⟩ : 0 <= pa /\ pa <= 1099511627776 := hpk
  refine Ab (GZ (EF := EF0) hG mixed Am7 Aiq ?_)
  simp only [Rx, XR, go_sem, simprocAttr, inI, Ap _ _ _ _ hc3, hc3, Ac, <- hp, Part.enc, tSm, DV, DU]
  and_intros <;> try exact sdA
  refine Ab (Z 6 rfl ?_)
  simp only [go_sem, simprocAttr, Ap _ _ _ _ hc3, hc3, Ac, <- hp, Part.enc, tSm, DV, DU]
  and_intros <;> try exact sdA
  refine Ag rfl (fun hb6 => ?_) fun hb6 => ?_
  ·refine Ab (Z 7 rfl ?_)
   simp only [go_sem, simprocAttr, tSm, DV, DU]
   refine TC.le (s' := ⟨mkE [(10, .ptr 10 0), (11, .bool false)], mkH [(10, .box 37 (Quote.enc Quote.none))]⟩) (Le.mk _ _ ?_ ?_ rfl) (Ak (hQ _ _ (.inl rfl) ?_ ?_ ?_)) <;> simp only [go_sem, simprocAttr, vQB, Quote.enc, Quote.none]
   exact ⟨(Quote.none, false), rfl, by decide, by decide, rfl, fun e => by cases e⟩
  simp only [Ce, decide_eq_false_iff_not] at hb6
  refine Aj ?_
  refine Z 4 rfl ?_
  simp only [go_sem, simprocAttr, inI, tSm, DV, DU]
  and_intros <;> try exact sdA
  refine hKL0 (i + 1, f + pa) _ ?_ ?_ ?_
  ·(try dsimp only); exact ⟨hc3, by rw [AeE hc3, <- hf, <- hp], by omega, by omega⟩
  ·(try dsimp only); omega
  exact leM
 simp only [hcL] at hc3
 rw [Bu hc3] at hf
 have hO : OfTP (⟨ps, ds⟩, xs, Hr W, u, f) := ⟨hL, hxl, h3, hs1, hs2, hf0.1⟩
 have hOb := Aih _ hO
 obtain ⟨⟨X, e⟩, hX⟩ : ∃ y, y = JI (⟨ps, ds⟩, xs, Hr W, u, f) := ⟨_, rfl⟩
 rw [<- hX] at hOb
 obtain ⟨hXl, hXk⟩ : X.length <= xs.length /\ (e = 0 -> ChK X) := hOb
 have hWl : W.length <= 900 := h4.n
 refine Bc ?_
 simp only [go_sem, simprocAttr]
 refine Ab (Y 8 rfl (by kernel_rfl) ?_)
 simp only [go_sem, simprocAttr, hWl, hO, <- hX, tSm, DV, DU]
 and_intros <;> try exact sdA
 refine Ab (Ab (Z 9 rfl ?_))
 simp only [go_sem, simprocAttr, tSm, DV, DU]
 refine Ag rfl (fun hc9 => ?_) fun hc9 => ?_
 ·simp only [hcL] at hc9
  refine Ab (Z 10 rfl ?_)
  simp only [go_sem, simprocAttr, tSm, DV, DU]
  refine TC.le (s' := ⟨mkE [(10, .ptr 10 0), (11, .bool false)], mkH [(10, .box 37 (Quote.enc Quote.none))]⟩) (Le.mk _ _ ?_ ?_ rfl) (Ak (hQ _ _ (.inl rfl) ?_ ?_ ?_)) <;> simp only [go_sem, simprocAttr, vQB, Quote.enc, Quote.none]
  exact ⟨(Quote.none, false), rfl, by decide, by decide, rfl, fun e => by cases e⟩
 simp only [hcL] at hc9
 have hXk2 : ChK X := hXk (by simpa using hc9)
 refine Aj ?_
 refine Ab (Z 11 rfl ?_)
 simp only [go_sem, simprocAttr, tSm, DV, DU]
 refine Ab (Z 12 rfl ?_)
 simp only [go_sem, simprocAttr, tSm, DV, DU]
 refine Ab (Ab (Z 13 rfl ?_))
 simp only [go_sem, simprocAttr, tSm, DV, DU]
 refine Au ?_
 refine Bg (α := Nat × Int) (fun γ => (γ.1 <= X.length) /\ (γ.2 = f + chS (X.take γ.1)) /\ (0 <= γ.2 /\ γ.2 <= 1099511627776)) (fun γ => ⟨mkE [(10, V.ptr 10 0), (12, V.ptr 12 0), (14, V.list (List.map Charge.enc X) false), (16, .int .i64 γ.1)], mkH [(10, Ob.box 37 [V.nils, V.nils, V.nils, V.int IntKind.i64 0, V.int IntKind.i64 0]), (12, .box 37 [.list (l.map Part.enc) false, .nils, .list (X.map Charge.enc) false, .int .i64 f, .int .i64 γ.2])]⟩) (fun γ => X.length - γ.1) (0, f) ⟨Ar _, (Int.add_zero f).symm, hf0⟩ ?_ ?_
 ·exact leM
 rintro ⟨j, t⟩ ⟨hj, ht, ht0⟩ KL2 hKL2
 try dsimp only at *
 refine Ab (Ab (Z 14 rfl ?_))
 simp only [go_sem, simprocAttr, Ac, tSm, DV, DU]
 refine Ag rfl (fun hc14 => ?_) fun hc14 => ?_
 ·simp only [hcL] at hc14
  refine Aj ?_
  refine Ab (Au ?_)
  obtain ⟨⟨co, ca⟩, hx⟩ : ∃ p, p = X[j] := ⟨_, rfl⟩
  have hxk := hXk2 _ (AF hc14)
  rw [<- hx] at hxk
  obtain ⟨x1, x2⟩ : 0 <= ca /\ ca <= 1099511627776 := hxk
  refine Ab (GZ (EF := EF0) hG mixed Am6 Aip ?_)
  simp only [Rw, XQ, go_sem, simprocAttr, inI, Ap _ _ _ _ hc14, hc14, Ac, <- hx, Charge.enc, tSm, DV, DU]
  and_intros <;> try exact sdA
  refine Ab (Z 17 rfl ?_)
  simp only [go_sem, simprocAttr, Ap _ _ _ _ hc14, hc14, Ac, <- hx, Charge.enc, tSm, DV, DU]
  and_intros <;> try exact sdA
  refine Ag rfl (fun hb17 => ?_) fun hb17 => ?_
  ·refine Ab (Z 18 rfl ?_)
   simp only [go_sem, simprocAttr, tSm, DV, DU]
   refine TC.le (s' := ⟨mkE [(10, .ptr 10 0), (11, .bool false)], mkH [(10, .box 37 (Quote.enc Quote.none))]⟩) (Le.mk _ _ ?_ ?_ rfl) (Ak (hQ _ _ (.inl rfl) ?_ ?_ ?_)) <;> simp only [go_sem, simprocAttr, vQB, Quote.enc, Quote.none]
   exact ⟨(Quote.none, false), rfl, by decide, by decide, rfl, fun e => by cases e⟩
  simp only [Ce, decide_eq_false_iff_not] at hb17
  refine Aj ?_
  refine Z 15 rfl ?_
  simp only [go_sem, simprocAttr, inI, tSm, DV, DU]
  and_intros <;> try exact sdA
  refine hKL2 (j + 1, t + ca) _ ?_ ?_ ?_
  ·(try dsimp only); exact ⟨hc14, by rw [Xu hc14, <- hx, ht]; exact Int.add_assoc _ _ _, by omega, by omega⟩
  ·(try dsimp only); omega
  exact leM
 simp only [hcL] at hc14
 rw [Bu hc14] at ht
 refine Bc ?_
 simp only [go_sem, simprocAttr]
 refine Ab (Z 19 rfl ?_)
 simp only [go_sem, simprocAttr, tSm, DV, DU]
 refine TC.le (s' := ⟨mkE [(10, .ptr 10 0), (11, .bool true)], mkH [(10, .box 37 (Quote.enc ⟨l, [], X, f, t⟩))]⟩) (Le.mk _ _ ?_ ?_ rfl) (Ak (hQ _ _ (.inl rfl) ?_ ?_ ?_)) <;> simp only [go_sem, simprocAttr, vQB, Quote.enc]
 exact ⟨(⟨l, [], X, f, t⟩, true), rfl, h5, by dsimp only; omega, rfl, fun _ => ⟨hf, hf0, hXk2, by dsimp only; omega, ht, ht0, rfl⟩⟩
def fSm : Places × Tariff × List Want × List UInt8 × List Part -> Quote × Bool := UH.choose
theorem AkQ : ∀ x, SmP x -> RSm x (fSm x) := UH.choose_spec.1
theorem AkR : PU 51 (gOf aSm fun x => (SmP x, vQB (fSm x))) := UH.choose_spec.2
theorem CI (ps : List Airport) (ds : List Distance) (a : List Fare) (b : List Rule) (c : List Routing) (d : List Tax) (W : List Want) (u : List UInt8) (l : List Part) : gOf aSm (fun x => (SmP x, vQB (fSm x))) [.agg [.list (ps.map Airport.enc) false, .list (ds.map Distance.enc) false], .agg [.list (a.map Fare.enc) false, .list (b.map Rule.enc) false, .list (c.map Routing.enc) false, .list (d.map Tax.enc) false], .list (W.map Want.enc) false, .str u, .list (l.map Part.enc) false] = (SmP (⟨ps, ds⟩, ⟨a, b, c, d⟩, W, u, l), .tup [.agg (fSm (⟨ps, ds⟩, ⟨a, b, c, d⟩, W, u, l)).1.enc, .bool (fSm (⟨ps, ds⟩, ⟨a, b, c, d⟩, W, u, l)).2]) := Al (F := fun x => (SmP x, vQB (fSm x))) Wx (⟨ps, ds⟩, ⟨a, b, c, d⟩, W, u, l)
end Go.Proofs.YtjkclhbckfkeeaaGreatDoor
end
