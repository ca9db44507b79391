import Derived.Test.YtjkclhbckfkeeaaGreatDoorHo17
import Derived.Test.YtjkclhbckfkeeaaGreatDoorHo11
import Derived.Test.YtjkclhbckfkeeaaGreatDoorRu10
import Derived.Test.YtjkclhbckfkeeaaGreatDoorT8
import Derived.Test.YtjkclhbckfkeeaaGreatDoorAv22
import Derived.Laws.IdiomRangeMap
import Derived.Test.YtjkclhbckfkeeaaGreatDoorPl4
set_option linter.unusedSimpArgs false
set_option linter.unusedVariables false
set_option linter.deprecated false
set_option maxHeartbeats 8000000
noncomputable section
namespace Go.Proofs.YtjkclhbckfkeeaaGreatDoor
open Go Go.RowKit
theorem Vc {α : Type} {l m : List α} {i : Nat} (h : l.take i = m.take i) (h1 : i < l.length) (h2 : i < m.length) (e : l[i] = m[i]) : l.take (i + 1) = m.take (i + 1) := by rw [CW h1, CW h2, h, e]
def aQQ := ar (vg Quote.enc) (ao (vg Quote.enc))
theorem Wn : Ij aQQ := ijr (ijg Quote.inj) (ijo (ijg Quote.inj))
def Ri (q : Quote) : Prop := q.parts.length <= 1000000 /\ q.pairs.length <= 1000000 /\ q.taxes.length <= 1000000
def QqP (x : Quote × Quote) : Prop := Ri x.1 /\ Ri x.2
def RQq (x : Quote × Quote) (b : Bool) : Prop := b = true -> x.1 = x.2
theorem Uj : ∃ F : Quote × Quote -> Bool, (∀ x, QqP x -> RQq x (F x)) /\ PU 53 (gOf aQQ fun x => (QqP x, vBB (F x))) := by
 have hG := AH
 refine Ta.p (val := vBB) (R := RQq) Wn (by simp [aQQ]) ?_
 rintro ⟨⟨a1, a2, a3, a4, a5⟩, ⟨b1, b2, b3, b4, b5⟩⟩ hv Q hQ
 have Y := Ta.E EF0 hG mixed
 have Z := Ta.T EF0 hG
 obtain ⟨⟨h1, h2, h3⟩, h4, h5, h6⟩ : QqP (⟨a1, a2, a3, a4, a5⟩, ⟨b1, b2, b3, b4, b5⟩) := hv
 dsimp only at h1 h2 h3 h4 h5 h6
 refine Ab (Z 0 rfl ?_)
 simp only [go_sem, simprocAttr, aQQ, Quote.enc]
 refine Ab (Ab (Z 1 rfl ?_))
 simp only [go_sem, simprocAttr, Ac]
 and_intros <;> try exact sdA
 refine Ag rfl (fun hb1 => ?_) fun hb1 => ?_
 ·refine Ab (Z 2 rfl ?_)
  simp only [go_sem, simprocAttr]
  refine Ak (hQ _ _ (.inl rfl) ?_ ?_ ?_) <;> simp only [go_sem, simprocAttr, vBB]
  exact ⟨false, rfl, fun e => by cases e⟩
 simp only [Ce, Ii, decide_eq_true_eq] at hb1
 obtain ⟨⟨⟨⟨l1, l2⟩, l3⟩, l4⟩, l5⟩ := hb1
 refine Aj ?_
 refine Ab (Ab (Z 3 rfl ?_))
 simp only [go_sem, simprocAttr]
 refine Au ?_
 refine Bg (α := Nat) (fun i => (i <= a1.length) /\ (a1.take i = b1.take i)) (fun i => ⟨mkE [(2, V.ptr 2 0), (3, V.ptr 3 0), (5, .int .i64 i)], mkH [(2, Ob.box 37 [V.list (List.map Part.enc a1) false, V.list (List.map Two.enc a2) false, V.list (List.map Charge.enc a3) false, V.int IntKind.i64 a4, V.int IntKind.i64 a5]), (3, Ob.box 37 [V.list (List.map Part.enc b1) false, V.list (List.map Two.enc b2) false, V.list (List.map Charge.enc b3) false, V.int IntKind.i64 b4, V.int IntKind.i64 b5])]⟩) (fun i => a1.length - i) 0 ⟨Ar _, rfl⟩ ?_ ?_
 ·exact leM
 rintro i ⟨hi, hk⟩ KL0 hKL0
 try dsimp only at *
 refine Ab (Ab (Z 4 rfl ?_))
 simp only [go_sem, simprocAttr, Ac]
 refine Ag rfl (fun hc4 => ?_) fun hc4 => ?_
 ·simp only [hcL] at hc4
  refine Aj ?_
  refine Ab (Au ?_)
  have hi2 : i < b1.length := by omega
  obtain ⟨⟨pf, pt, pr, pa⟩, hp⟩ : ∃ p, p = a1[i] := ⟨_, rfl⟩
  obtain ⟨⟨qf, qt, qr, qa⟩, hq⟩ : ∃ p, p = b1[i] := ⟨_, rfl⟩
  refine Ab (Y 6 rfl (by kernel_rfl) ?_)
  simp only [go_sem, simprocAttr, Ap _ _ _ _ hc4, Ap _ _ _ _ hi2, hc4, hi2, Ac, <- hp, <- hq, Part.enc]
  and_intros <;> try exact sdA
  refine Ag rfl (fun hb6 => ?_) fun hb6 => ?_
  ·refine Ab (Z 7 rfl ?_)
   simp only [go_sem, simprocAttr]
   refine Ak (hQ _ _ (.inl rfl) ?_ ?_ ?_) <;> simp only [go_sem, simprocAttr, vBB]
   exact ⟨false, rfl, fun e => by cases e⟩
  refine Aj ?_
  refine Z 5 rfl ?_
  simp only [go_sem, simprocAttr, inI]
  and_intros <;> try exact sdA
  refine hKL0 (i + 1) _ ?_ ?_ ?_
  ·(try dsimp only); exact ⟨hc4, Vc hk hc4 hi2 (by rw [<- hp, <- hq]; simpa using hb6)⟩
  ·(try dsimp only); omega
  exact leM
 simp only [hcL] at hc4
 rw [Bu hc4, Bu (by omega)] at hk
 refine Bc ?_
 simp only [go_sem, simprocAttr]
 refine Ab (Ab (Z 8 rfl ?_))
 simp only [go_sem, simprocAttr]
 refine Au ?_
 refine Bg (α := Nat) (fun i => (i <= a2.length) /\ (a2.take i = b2.take i)) (fun i => ⟨mkE [(2, V.ptr 2 0), (3, V.ptr 3 0), (6, .int .i64 i)], mkH [(2, Ob.box 37 [V.list (List.map Part.enc a1) false, V.list (List.map Two.enc a2) false, V.list (List.map Charge.enc a3) false, V.int IntKind.i64 a4, V.int IntKind.i64 a5]), (3, Ob.box 37 [V.list (List.map Part.enc b1) false, V.list (List.map Two.enc b2) false, V.list (List.map Charge.enc b3) false, V.int IntKind.i64 b4, V.int IntKind.i64 b5])]⟩) (fun i => a2.length - i) 0 ⟨Ar _, rfl⟩ ?_ ?_
 ·exact leM
 rintro i ⟨hi, hk2⟩ KL2 hKL2
 try dsimp only at *
 refine Ab (Ab (Z 9 rfl ?_))
 simp only [go_sem, simprocAttr, Ac]
 refine Ag rfl (fun hc9 => ?_) fun hc9 => ?_
 ·simp only [hcL] at hc9
  refine Aj ?_
  refine Ab (Au ?_)
  have hi2 : i < b2.length := by omega
  obtain ⟨⟨pf, pt⟩, hp⟩ : ∃ p, p = a2[i] := ⟨_, rfl⟩
  obtain ⟨⟨qf, qt⟩, hq⟩ : ∃ p, p = b2[i] := ⟨_, rfl⟩
  refine Ab (Y 11 rfl (by kernel_rfl) ?_)
  simp only [go_sem, simprocAttr, Ap _ _ _ _ hc9, Ap _ _ _ _ hi2, hc9, hi2, Ac, <- hp, <- hq, Two.enc]
  and_intros <;> try exact sdA
  refine Ag rfl (fun hb11 => ?_) fun hb11 => ?_
  ·refine Ab (Z 12 rfl ?_)
   simp only [go_sem, simprocAttr]
   refine Ak (hQ _ _ (.inl rfl) ?_ ?_ ?_) <;> simp only [go_sem, simprocAttr, vBB]
   exact ⟨false, rfl, fun e => by cases e⟩
  refine Aj ?_
  refine Z 10 rfl ?_
  simp only [go_sem, simprocAttr, inI]
  and_intros <;> try exact sdA
  refine hKL2 (i + 1) _ ?_ ?_ ?_
  ·(try dsimp only); exact ⟨hc9, Vc hk2 hc9 hi2 (by rw [<- hp, <- hq]; simpa using hb11)⟩
  ·(try dsimp only); omega
  exact leM
 simp only [hcL] at hc9
 rw [Bu hc9, Bu (by omega)] at hk2
 refine Bc ?_
 simp only [go_sem, simprocAttr]
 refine Ab (Ab (Z 13 rfl ?_))
 simp only [go_sem, simprocAttr]
 refine Au ?_
 refine Bg (α := Nat) (fun i => (i <= a3.length) /\ (a3.take i = b3.take i)) (fun i => ⟨mkE [(2, V.ptr 2 0), (3, V.ptr 3 0), (7, .int .i64 i)], mkH [(2, Ob.box 37 [V.list (List.map Part.enc a1) false, V.list (List.map Two.enc a2) false, V.list (List.map Charge.enc a3) false, V.int IntKind.i64 a4, V.int IntKind.i64 a5]), (3, Ob.box 37 [V.list (List.map Part.enc b1) false, V.list (List.map Two.enc b2) false, V.list (List.map Charge.enc b3) false, V.int IntKind.i64 b4, V.int IntKind.i64 b5])]⟩) (fun i => a3.length - i) 0 ⟨Ar _, rfl⟩ ?_ ?_
 ·exact leM
 rintro i ⟨hi, hk3⟩ KL4 hKL4
 try dsimp only at *
 refine Ab (Ab (Z 14 rfl ?_))
 simp only [go_sem, simprocAttr, Ac]
 refine Ag rfl (fun hc14 => ?_) fun hc14 => ?_
 ·simp only [hcL] at hc14
  refine Aj ?_
  refine Ab (Au ?_)
  have hi2 : i < b3.length := by omega
  obtain ⟨⟨pf, pt⟩, hp⟩ : ∃ p, p = a3[i] := ⟨_, rfl⟩
  obtain ⟨⟨qf, qt⟩, hq⟩ : ∃ p, p = b3[i] := ⟨_, rfl⟩
  refine Ab (Y 16 rfl (by kernel_rfl) ?_)
  simp only [go_sem, simprocAttr, Ap _ _ _ _ hc14, Ap _ _ _ _ hi2, hc14, hi2, Ac, <- hp, <- hq, Charge.enc]
  and_intros <;> try exact sdA
  refine Ag rfl (fun hb16 => ?_) fun hb16 => ?_
  ·refine Ab (Z 17 rfl ?_)
   simp only [go_sem, simprocAttr]
   refine Ak (hQ _ _ (.inl rfl) ?_ ?_ ?_) <;> simp only [go_sem, simprocAttr, vBB]
   exact ⟨false, rfl, fun e => by cases e⟩
  refine Aj ?_
  refine Z 15 rfl ?_
  simp only [go_sem, simprocAttr, inI]
  and_intros <;> try exact sdA
  refine hKL4 (i + 1) _ ?_ ?_ ?_
  ·(try dsimp only); exact ⟨hc14, Vc hk3 hc14 hi2 (by rw [<- hp, <- hq]; simpa using hb16)⟩
  ·(try dsimp only); omega
  exact leM
 simp only [hcL] at hc14
 rw [Bu hc14, Bu (by omega)] at hk3
 refine Bc ?_
 simp only [go_sem, simprocAttr]
 refine Ab (Z 18 rfl ?_)
 simp only [go_sem, simprocAttr]
 refine Ak (hQ _ _ (.inl rfl) ?_ ?_ ?_) <;> simp only [go_sem, simprocAttr, vBB]
 exact ⟨true, rfl, fun _ => by rw [hk, hk2, hk3, l4, l5]⟩
def fQq : Quote × Quote -> Bool := Uj.choose
theorem Ajf : ∀ x, QqP x -> RQq x (fQq x) := Uj.choose_spec.1
theorem Ajh : PU 53 (gOf aQQ fun x => (QqP x, vBB (fQq x))) := Uj.choose_spec.2
theorem Ajg (a b : Quote) : gOf aQQ (fun x => (QqP x, vBB (fQq x))) [.agg a.enc, .agg b.enc] = (QqP (a, b), .bool (fQq (a, b))) := Al (F := fun x => (QqP x, vBB (fQq x))) Wn (a, b)
def Li : Places × List Want × List UInt8 × Int -> Trip := Vl.choose
theorem AnD : ∀ x, TrP x -> TrpOk (Li x) := Vl.choose_spec.1
theorem AnF : PU 97 (gOf aTr fun x => (TrP x, Kj (Li x))) := Vl.choose_spec.2
theorem AnE (ps : List Airport) (ds : List Distance) (W : List Want) (u : List UInt8) (s : Int) : gOf aTr (fun x => (TrP x, Kj (Li x))) [.agg [.list (ps.map Airport.enc) false, .list (ds.map Distance.enc) false], .list (W.map Want.enc) false, .str u, .int .i64 s] = (TrP (⟨ps, ds⟩, W, u, s), .agg (Li (⟨ps, ds⟩, W, u, s)).enc) := Al (F := fun x => (TrP x, Kj (Li x))) WI (⟨ps, ds⟩, W, u, s)
theorem AeC (a1 : Int) (k : Int) (l : List Cond) (a b x y z : Int) (t : List (List UInt8)) (a3 : List Int) (a4 a5 a6 a7 : Int) (a8 : List Pct) (q : Trip) : gOf aRT (fun x => (AlP x, vII (fAl x))) [.agg [.int .i64 a1, .int .i64 k, .list (l.map Cond.enc) false, .int .i64 a, .int .i64 b, .int .i64 x, .int .i64 y, .int .i64 z, .list (strs t) false, .list (Aq a3) false, .int .i64 a4, .int .i64 a5, .int .i64 a6, .int .i64 a7, .list (a8.map Pct.enc) false], .agg q.enc] = (AlP (⟨a1, .mk k l a b ⟨x, y, z⟩ t, a3, a4, a5, a6, a7, a8⟩, q), .int .i64 (fAl (⟨a1, .mk k l a b ⟨x, y, z⟩ t, a3, a4, a5, a6, a7, a8⟩, q))) := by
 rw [<- Rule.enc_at]; exact Al (F := fun x => (AlP x, vII (fAl x))) Wr (_, q)
theorem Trip.pur (r : Trip) : V.purs r.enc = true := (Trip.purs [r]).2 trivial _ (by simp)
def aWh := ar (vg Places.enc) (ar (vg Tariff.enc) (ar vi (ar (vl Want.enc) (ar V.str (ao vi)))))
theorem WN : Ij aWh := ijr (ijg Places.inj) (ijr (ijg Tariff.inj) (ijr iji (ijr (ijl Want.inj) (ijr ijs (ijo iji)))))
structure WhP (x : Places × Tariff × Int × List Want × List UInt8 × Int) : Prop where
 p : TrP (x.1, x.2.2.2.1, x.2.2.2.2.1, x.2.2.2.2.2)
 t : TarOk x.2.1
def tWh : Tab
 | 100 => (gOf aTF fun x => (TarOk x.1, vII (fMl x)))
 | 94 => (gOf aPW fun x => (CtP x, vSS (Hl x)))
 | 101 => (gOf HR fun x => (O3P x, Am (fO3 x)))
 | 95 => (gOf aTN fun x => (TarOk x.1, vRB (fRl x)))
 | 98 => (gOf aTN fun x => (TarOk x.1, vGB (FJ x)))
 | 97 => (gOf aTr fun x => (TrP x, Kj (Li x)))
 | 96 => (gOf aRT fun x => (AlP x, vII (fAl x)))
 | 99 => (gOf IE fun x => (RgP x, vBB (NF x)))
 | _ => gNo
theorem Amx : ∀ f, PU f (tWh f) := fun f => by
 unfold tWh
 split
 ·exact AbF
 ·exact Sd
 ·exact AbU
 ·exact QD
 ·exact Uu
 ·exact AnF
 ·exact AeD
 ·exact Ajt
 ·exact Ah.no
theorem AdW : ∃ F : Places × Tariff × Int × List Want × List UInt8 × Int -> Int, (∀ x, WhP x -> RT x (F x)) /\ PU 48 (gOf aWh fun x => (WhP x, vII (F x))) := by
 have hG := Amx
 refine SW.p (val := vII) (R := RT) WN (by simp [aWh]) ?_
 rintro ⟨⟨ps, ds⟩, ⟨fs, rs, gs, xs⟩, k, W, u, sa⟩ hv Q hQ
 have Y := SW.E EF0 hG mixed
 have Z := SW.T EF0 hG
 obtain ⟨hTr, h2⟩ : WhP (⟨ps, ds⟩, ⟨fs, rs, gs, xs⟩, k, W, u, sa) := hv
 dsimp only at hTr
 have h4 : W.length <= 900 := hTr.t.n
 have h1 : MOk ⟨ps, ds⟩ := hTr.p.m
 have hC : CtP (⟨ps, ds⟩, W) := ⟨h1.1, h4⟩
 obtain ⟨C, hCe⟩ : ∃ C, C = Hl (⟨ps, ds⟩, W) := ⟨_, rfl⟩
 have hCl : C.length = if W = [] then 0 else W.length + 1 := by rw [hCe]; exact Sc _ hC
 have hC9 : C.length <= 1000 := by rw [hCl]; split <;> omega
 have hWy : WyP (⟨ps, ds⟩, C) := ⟨h1, hC9⟩
 refine Ab (Z 0 rfl ?_)
 simp only [go_sem, simprocAttr, aWh, Places.enc, Tariff.enc, tWh, Br, AM, Bs, AL, Bd, h2, hC, <- hCe]
 refine Ab (Ab (Z 1 rfl ?_))
 simp only [go_sem, simprocAttr, Ac, tWh, Br, AM, Bs, AL, Bd, h2, hC, <- hCe]
 and_intros <;> try exact sdA
 refine Ag rfl (fun hb1 => ?_) fun hb1 => ?_
 ·refine Ab (Z 2 rfl ?_)
  simp only [go_sem, simprocAttr, tWh, Br, AM, Bs, AL, Bd, h2, hC, <- hCe]
  refine Ak (hQ _ _ (.inl rfl) ?_ ?_ ?_) <;> simp only [go_sem, simprocAttr, vII]
  exact ⟨_, rfl, trivial⟩
 simp only [Ce, decide_eq_false_iff_not] at hb1
 have q1 : 0 <= k := by omega
 have q2 : k < fs.length := by omega
 have hF : k.toNat < fs.length := by omega
 obtain ⟨⟨ca, fr, to, ba, cl, rd, am, ru, rg⟩, hf⟩ : ∃ f, f = fs[k.toNat] := ⟨_, rfl⟩
 have hMi : inI (fMl (⟨fs, rs, gs, xs⟩, ⟨ca, fr, to, ba, cl, rd, am, ru, rg⟩)) := AbE _ h2
 obtain ⟨mi, hmi⟩ : ∃ m, m = fMl (⟨fs, rs, gs, xs⟩, ⟨ca, fr, to, ba, cl, rd, am, ru, rg⟩) := ⟨_, rfl⟩
 rw [<- hmi] at hMi
 have hO : O3P (⟨ps, ds⟩, C, mi) := ⟨hWy, hMi⟩
 have hW0 : 0 < W.length := by omega
 have hC2 : C.length = W.length + 1 := by rw [hCl, if_neg (by intro e; rw [e] at hW0; exact absurd hW0 (by decide))]
 have e2 : ((C.length : Int) - 1).toNat = C.length - 1 := by omega
 have hC0 : 0 < C.length := by omega
 have hC1 : C.length - 1 < C.length := by omega
 refine Aj ?_
 refine Ab (Z 3 rfl ?_)
 simp only [go_sem, simprocAttr, Ap _ _ _ _ hF, hF, Ac, <- hf, Fare.enc, q1, q2, tWh, Br, AM, Bs, AL, Bd, h2, hC, <- hCe]
 and_intros <;> try exact sdA
 refine Ab (Z 4 rfl ?_)
 simp only [go_sem, simprocAttr, tWh, Br, AM, Bs, AL, Bd, h2, hC, <- hCe]
 and_intros <;> try exact sdA
 refine Ab (Z 5 rfl ?_)
 simp only [go_sem, simprocAttr, tWh, Br, AM, Bs, AL, Bd, h2, hC, <- hCe]
 refine Ab (Ab (Z 6 rfl ?_))
 simp only [go_sem, simprocAttr, tWh, Br, AM, Bs, AL, Bd, h2, hC, <- hCe]
 refine Au ?_
 refine Bg (α := Nat × Bool) (fun γ => (γ.1 <= W.length)) (fun γ => ⟨mkE [(3, V.list (List.map Want.enc W) false), (4, V.str u), (5, V.int IntKind.i64 sa), (6, V.ptr 6 0), (7, V.ptr 7 0), (13, V.ptr 13 0), (14, V.list (strs C) false), (15, .bool γ.2), (16, .int .i64 γ.1)], mkH [(6, Ob.box 25 [V.list (List.map Airport.enc ps) false, V.list (List.map Distance.enc ds) false]), (7, Ob.box 31 [V.list (List.map Fare.enc fs) false, V.list (List.map Rule.enc rs) false, V.list (List.map Routing.enc gs) false, V.list (List.map Tax.enc xs) false]), (13, Ob.box 96 [V.str ca, V.str fr, V.str to, V.str ba, V.str cl, V.bool rd, V.int IntKind.i64 am, V.int IntKind.i64 ru, V.int IntKind.i64 rg])]⟩) (fun γ => W.length - γ.1) (0, true) (Ar _) ?_ ?_
 ·exact leM
 rintro ⟨i, b⟩ hi KL0 hKL0
 try dsimp only at *
 refine Ab (Ab (Z 7 rfl ?_))
 simp only [go_sem, simprocAttr, Ac, tWh, Br, AM, Bs, AL, Bd, h2, hC, <- hCe]
 refine Ag rfl (fun hc7 => ?_) fun hc7 => ?_
 ·simp only [hcL] at hc7
  refine Aj ?_
  refine Ab (Au ?_)
  refine Ab ?_
  obtain ⟨⟨⟨ca1, nu1, da1, fr1, to1, de1, ar1⟩, cl1⟩, hw1⟩ : ∃ w, w = W[i] := ⟨_, rfl⟩
  refine Ab (Y 9 rfl (by kernel_rfl) ?_)
  simp only [go_sem, simprocAttr, Ap _ _ _ _ hc7, hc7, Ac, <- hw1, Want.enc, tWh, Br, AM, Bs, AL, Bd, h2, hC, <- hCe]
  and_intros <;> try exact sdA
  refine Ag rfl (fun hc9 => ?_) fun hc9 => ?_
  ·simp only [hcL] at hc9
   refine Ab (Z 10 rfl ?_)
   simp only [go_sem, simprocAttr, tWh, Br, AM, Bs, AL, Bd, h2, hC, <- hCe]
   refine Ak (hQ _ _ (.inl rfl) ?_ ?_ ?_) <;> simp only [go_sem, simprocAttr, vII]
   exact ⟨_, rfl, trivial⟩
  simp only [hcL] at hc9
  refine Aj ?_
  refine Y 11 rfl (by kernel_rfl) ?_
  simp only [go_sem, simprocAttr, Ap _ _ _ _ hc7, hc7, Ac, <- hw1, Want.enc, tWh, Br, AM, Bs, AL, Bd, h2, hC, <- hCe]
  and_intros <;> try exact sdA
  refine Z 8 rfl ?_
  simp only [go_sem, simprocAttr, inI, tWh, Br, AM, Bs, AL, Bd, h2, hC, <- hCe]
  and_intros <;> try exact sdA
  refine hKL0 (i + 1, (b && decide (cl1 = cl))) _ ?_ ?_ ?_
  ·(try dsimp only); exact hc7
  ·(try dsimp only); omega
  exact leM
 simp only [hcL] at hc7
 refine Bc ?_
 simp only [go_sem, simprocAttr]
 refine Ab (Ab (Y 12 rfl (by kernel_rfl) ?_))
 simp only [go_sem, simprocAttr, inI, Em, e2, FY _ _ _ hC0, FY _ _ _ hC1, hC0, hC1, tWh, Br, AM, Bs, AL, Bd, h2, hC, <- hCe]
 and_intros <;> try exact sdA
 refine Ag rfl (fun hc12 => ?_) fun hc12 => ?_
 ·simp only [hcL] at hc12
  refine Ab (Z 13 rfl ?_)
  simp only [go_sem, simprocAttr, tWh, Br, AM, Bs, AL, Bd, h2, hC, <- hCe]
  refine Ak (hQ _ _ (.inl rfl) ?_ ?_ ?_) <;> simp only [go_sem, simprocAttr, vII]
  exact ⟨_, rfl, trivial⟩
 simp only [hcL] at hc12
 refine Aj ?_
 refine Ab (Ab (Z 14 rfl ?_))
 simp only [go_sem, simprocAttr, tWh, Br, AM, Bs, AL, Bd, h2, hC, <- hCe]
 refine Ag rfl (fun hc14 => ?_) fun hc14 => ?_
 ·simp only [hcL] at hc14
  refine Ab (Z 15 rfl ?_)
  simp only [go_sem, simprocAttr, tWh, Br, AM, Bs, AL, Bd, h2, hC, <- hCe]
  refine Ak (hQ _ _ (.inl rfl) ?_ ?_ ?_) <;> simp only [go_sem, simprocAttr, vII]
  exact ⟨_, rfl, trivial⟩
 simp only [hcL] at hc14
 refine Aj ?_
 obtain ⟨⟨⟨a1, ⟨c1, c2, c3, c4, ⟨x, y, z⟩, t⟩, a3, a4, a5, a6, a7, a8⟩, bb⟩, hR⟩ : ∃ y, y = fRl (⟨fs, rs, gs, xs⟩, ru) := ⟨_, rfl⟩
 have hro := Ur h2 ru
 rw [<- hR] at hro
 obtain ⟨T, hT⟩ : ∃ T, T = Li (⟨ps, ds⟩, W, u, sa) := ⟨_, rfl⟩
 have hTo : TrpOk T := by rw [hT]; exact AnD _ hTr
 have hAl : AlP (⟨a1, .mk c1 c2 c3 c4 ⟨x, y, z⟩ t, a3, a4, a5, a6, a7, a8⟩, T) := ⟨hro, hTo⟩
 refine Ab (Z 16 rfl ?_)
 simp only [go_sem, simprocAttr, <- hR, Rule.enc_at, tWh, Br, AM, Bs, AL, Bd, h2, hC, <- hCe]
 and_intros <;> try exact sdA
 refine Ab (Y 17 rfl (by kernel_rfl) ?_)
 simp only [go_sem, simprocAttr, AnE, hTr, <- hT, AeC, hAl, Trip.pur, tWh, Br, AM, Bs, AL, Bd, h2, hC, <- hCe]
 and_intros <;> try exact sdA
 refine Ab (Ab (Z 18 rfl ?_))
 simp only [go_sem, simprocAttr, tWh, Br, AM, Bs, AL, Bd, h2, hC, <- hCe]
 refine Ag rfl (fun hc18 => ?_) fun hc18 => ?_
 ·simp only [hcL] at hc18
  refine Ab (Z 19 rfl ?_)
  simp only [go_sem, simprocAttr, tWh, Br, AM, Bs, AL, Bd, h2, hC, <- hCe]
  refine Ak (hQ _ _ (.inl rfl) ?_ ?_ ?_) <;> simp only [go_sem, simprocAttr, vII]
  exact ⟨_, rfl, trivial⟩
 simp only [hcL] at hc18
 refine Aj ?_
 obtain ⟨⟨⟨gn, gl, gm⟩, gb⟩, hGe⟩ : ∃ y, y = FJ (⟨fs, rs, gs, xs⟩, rg) := ⟨_, rfl⟩
 have hgo := Acv h2 rg
 rw [<- hGe] at hgo
 have hRg : RgP (⟨gn, gl, gm⟩, C) := ⟨hgo.2, show C.length <= 1000000 by omega⟩
 refine Ab (Z 20 rfl ?_)
 simp only [go_sem, simprocAttr, <- hGe, Routing.enc, tWh, Br, AM, Bs, AL, Bd, h2, hC, <- hCe]
 and_intros <;> try exact sdA
 refine Ab (Ab (Z 21 rfl ?_))
 simp only [go_sem, simprocAttr, Ajs, hRg, tWh, Br, AM, Bs, AL, Bd, h2, hC, <- hCe]
 and_intros <;> try exact sdA
 refine Ag rfl (fun hc21 => ?_) fun hc21 => ?_
 ·simp only [hcL] at hc21
  refine Ab (Z 22 rfl ?_)
  simp only [go_sem, simprocAttr, tWh, Br, AM, Bs, AL, Bd, h2, hC, <- hCe]
  refine Ak (hQ _ _ (.inl rfl) ?_ ?_ ?_) <;> simp only [go_sem, simprocAttr, vII]
  exact ⟨_, rfl, trivial⟩
 simp only [hcL] at hc21
 refine Aj ?_
 refine Ab (Ab (Z 23 rfl ?_))
 simp only [go_sem, simprocAttr, <- hmi, tWh, Br, AM, Bs, AL, Bd, h2, hC, <- hCe]
 and_intros <;> try exact sdA
 refine Ag rfl (fun hc23 => ?_) fun hc23 => ?_
 ·simp only [hcL] at hc23
  refine Y 24 rfl (by kernel_rfl) ?_
  simp only [go_sem, simprocAttr, <- hmi, hO, tWh, Br, AM, Bs, AL, Bd, h2, hC, <- hCe]
  and_intros <;> try exact sdA
  refine Ab (Z 25 rfl ?_)
  simp only [go_sem, simprocAttr, tWh, Br, AM, Bs, AL, Bd, h2, hC, <- hCe]
  refine Ak (hQ _ _ (.inl rfl) ?_ ?_ ?_) <;> simp only [go_sem, simprocAttr, vII]
  exact ⟨_, rfl, trivial⟩
 simp only [hcL] at hc23
 refine Aj ?_
 refine Ab (Z 25 rfl ?_)
 simp only [go_sem, simprocAttr, tWh, Br, AM, Bs, AL, Bd, h2, hC, <- hCe]
 refine Ak (hQ _ _ (.inl rfl) ?_ ?_ ?_) <;> simp only [go_sem, simprocAttr, vII]
 exact ⟨_, rfl, trivial⟩
def NL : Places × Tariff × Int × List Want × List UInt8 × Int -> Int := AdW.choose
theorem An7 : PU 48 (gOf aWh fun x => (WhP x, vII (NL x))) := AdW.choose_spec.2
theorem An6 (ps : List Airport) (ds : List Distance) (a : List Fare) (b : List Rule) (c : List Routing) (d : List Tax) (k : Int) (W : List Want) (u : List UInt8) (s : Int) : gOf aWh (fun x => (WhP x, vII (NL x))) [.agg [.list (ps.map Airport.enc) false, .list (ds.map Distance.enc) false], .agg [.list (a.map Fare.enc) false, .list (b.map Rule.enc) false, .list (c.map Routing.enc) false, .list (d.map Tax.enc) false], .int .i64 k, .list (W.map Want.enc) false, .str u, .int .i64 s] = (WhP (⟨ps, ds⟩, ⟨a, b, c, d⟩, k, W, u, s), .int .i64 (NL (⟨ps, ds⟩, ⟨a, b, c, d⟩, k, W, u, s))) := Al (F := fun x => (WhP x, vII (NL x))) WN (⟨ps, ds⟩, ⟨a, b, c, d⟩, k, W, u, s)
def KE := ar (vg Places.enc) (ar (vg Tariff.enc) (ar (vl Want.enc) (ar V.str (ar vi (ao (vg Quote.enc))))))
theorem WL : Ij KE := ijr (ijg Places.inj) (ijr (ijg Tariff.inj) (ijr (ijl Want.inj) (ijr ijs (ijr iji (ijo (ijg Quote.inj))))))
structure VdP (y : Places × Tariff × List Want × List UInt8 × Int × Quote) : Prop where
 p : PlK y.1
 t : TarOk y.2.1
 r : Kp y.2.1
 x : ∀ x ∈ y.2.1.taxes, TxK x
 w : TmOk y.2.2.1
 u : y.2.2.2.1.length <= 140737488355328
 s : inI y.2.2.2.2.1
 o : ∀ w ∈ y.2.2.1, w.ok
 q : Ri y.2.2.2.2.2
structure VdR (x : Places × Tariff × List Want × List UInt8 × Int × Quote) : Prop where
 n : 1 <= x.2.2.1.length /\ x.2.2.1.length <= 6
 f : HN x.2.1 x.2.2.2.2.2.parts
 c : Chn x.2.2.1.length 0 x.2.2.2.2.2.parts
 a : AmK x.2.2.2.2.2.parts
 q : QuK x.2.2.2.2.2.parts x.2.2.2.2.2
def RVd (x : Places × Tariff × List Want × List UInt8 × Int × Quote) (y : Int) : Prop := y = 0 -> VdR x
theorem CH (a1 : List Part) (a2 : List Two) (a3 : List Charge) (a4 a5 : Int) (b1 : List Part) (b2 : List Two) (b3 : List Charge) (b4 b5 : Int) : gOf aQQ (fun x => (QqP x, vBB (fQq x))) [.agg [.list (a1.map Part.enc) false, .list (a2.map Two.enc) false, .list (a3.map Charge.enc) false, .int .i64 a4, .int .i64 a5], .agg [.list (b1.map Part.enc) false, .list (b2.map Two.enc) false, .list (b3.map Charge.enc) false, .int .i64 b4, .int .i64 b5]] = (QqP (⟨a1, a2, a3, a4, a5⟩, ⟨b1, b2, b3, b4, b5⟩), .bool (fQq (⟨a1, a2, a3, a4, a5⟩, ⟨b1, b2, b3, b4, b5⟩))) := Ajg ⟨a1, a2, a3, a4, a5⟩ ⟨b1, b2, b3, b4, b5⟩
theorem Chn.bd {n : Int} : ∀ {l : List Part} {a : Int}, 0 <= a -> Chn n a l -> ∀ p ∈ l, 0 <= p.from' /\ p.from' < p.to' /\ p.to' <= n
 | x :: l, a, h0, ⟨⟨h1, h2, h3⟩, h4⟩, p, hp => by
  rcases AK.1 hp with rfl | hp
  ·exact ⟨by omega, by omega, h3⟩
  ·exact Chn.bd (by omega) h4 p hp
theorem TmOk.sub {W : List Want} (h : TmOk W) {a b : Nat} : TmOk ((W.take b).drop a) := ⟨by have := h.n; simp only [BT, Bx]; omega, fun w hw => h.t w (Ft (FP hw))⟩
def Co : Tab
 | 47 => (gOf Kw fun x => (CsP x, vBB (KW x)))
 | 48 => (gOf aWh fun x => (WhP x, vII (NL x)))
 | 49 => (gOf aAm fun x => (AmP x, Am (fAm x)))
 | 50 => (gOf aSs fun x => (SsP x, vII (Mg x)))
 | 51 => (gOf aSm fun x => (SmP x, vQB (fSm x)))
 | 52 => (gOf Dm fun x => (KnP x, HK (fPs x)))
 | 53 => (gOf aQQ fun x => (QqP x, vBB (fQq x)))
 | _ => gNo
theorem Amt : ∀ f, PU f (Co f) := fun f => by
 unfold Co
 split
 ·exact AfH
 ·exact An7
 ·exact AeH
 ·exact Afd
 ·exact AkR
 ·exact Uf
 ·exact Ajh
 ·exact Ah.no
theorem Vp : ∃ F : Places × Tariff × List Want × List UInt8 × Int × Quote -> Int, (∀ x, VdP x -> RVd x (F x)) /\ PU 18 (gOf KE fun x => (VdP x, vII (F x))) := by
 have hG := Amt
 refine SJ.p (val := vII) (R := RVd) WL (by simp [KE]) ?_
 rintro ⟨⟨ps, ds⟩, ⟨fs, rs, gs, xs⟩, W, u, sa, ⟨l, pr, tx, fa, to⟩⟩ hv Q hQ
 have ZR := SJ.E EF0 hG mixed
 have Z := SJ.T EF0 hG
 obtain ⟨h1, h2, h3, h4, h5, h6, h7, h8, h9, h10, h11⟩ : VdP (⟨ps, ds⟩, ⟨fs, rs, gs, xs⟩, W, u, sa, ⟨l, pr, tx, fa, to⟩) := hv
 dsimp only at h1 h2 h3 h4 h5 h6 h7 h8 h9 h10 h11
 have hWl : W.length <= 900 := h5.n
 have hCs : CsP (l, (W.length : Int)) := h9
 have hCr := AfG _ hCs
 obtain ⟨cb, hcb⟩ : ∃ b, b = KW (l, (W.length : Int)) := ⟨_, rfl⟩
 rw [<- hcb] at hCr
 have hS6 : SsP (⟨ps, ds⟩, ⟨fs, rs, gs, xs⟩, W, l) := ⟨h1, h2, h5, h9⟩
 have hK : KnP (⟨fs, rs, gs, xs⟩, l) := ⟨h2.f, h9⟩
 refine Ab (Z 0 rfl ?_)
 simp only [go_sem, simprocAttr, KE, Places.enc, Tariff.enc, Quote.enc, Co, CC, CB, CI, Ba, CH, hCs, <- hcb, hS6, hK]
 refine Ab (Ab (Z 1 rfl ?_))
 simp only [go_sem, simprocAttr, Ac, Co, CC, CB, CI, Ba, CH, hCs, <- hcb, hS6, hK]
 and_intros <;> try exact sdA
 refine Ag rfl (fun hb1 => ?_) fun hb1 => ?_
 ·refine Ab (Z 2 rfl ?_)
  simp only [go_sem, simprocAttr, Co, CC, CB, CI, Ba, CH, hCs, <- hcb, hS6, hK]
  refine Ak (hQ _ _ (.inl rfl) ?_ ?_ ?_) <;> simp only [go_sem, simprocAttr, vII]
  exact ⟨2, rfl, fun e => absurd e (by decide)⟩
 simp only [Ce, decide_eq_false_iff_not] at hb1
 have hn : 1 <= W.length /\ W.length <= 6 := by omega
 refine Aj ?_
 refine Ab (Ab (Z 3 rfl ?_))
 simp only [go_sem, simprocAttr, Ac, Co, CC, CB, CI, Ba, CH, hCs, <- hcb, hS6, hK]
 and_intros <;> try exact sdA
 refine Ag rfl (fun hb3 => ?_) fun hb3 => ?_
 ·refine Ab (Z 4 rfl ?_)
  simp only [go_sem, simprocAttr, Co, CC, CB, CI, Ba, CH, hCs, <- hcb, hS6, hK]
  refine Ak (hQ _ _ (.inl rfl) ?_ ?_ ?_) <;> simp only [go_sem, simprocAttr, vII]
  exact ⟨15, rfl, fun e => absurd e (by decide)⟩
 have hch : Chn W.length 0 l := hCr (by simpa using hb3)
 have hbd := Chn.bd (EZ 0) hch
 refine Aj ?_
 refine Ab (Ab (Z 5 rfl ?_))
 simp only [go_sem, simprocAttr, Co, CC, CB, CI, Ba, CH, hCs, <- hcb, hS6, hK]
 refine Au ?_
 refine Bg (α := Nat) (fun i => (i <= l.length) /\ (AmK (l.take i))) (fun i => ⟨mkE [(2, V.list (List.map Want.enc W) false), (3, V.str u), (4, V.int IntKind.i64 sa), (6, V.ptr 6 0), (7, V.ptr 7 0), (11, V.ptr 11 0), (13, .int .i64 i)], mkH [(6, Ob.box 25 [V.list (List.map Airport.enc ps) false, V.list (List.map Distance.enc ds) false]), (7, Ob.box 31 [V.list (List.map Fare.enc fs) false, V.list (List.map Rule.enc rs) false, V.list (List.map Routing.enc gs) false, V.list (List.map Tax.enc xs) false]), (11, Ob.box 37 [V.list (List.map Part.enc l) false, V.list (List.map Two.enc pr) false, V.list (List.map Charge.enc tx) false, V.int IntKind.i64 fa, V.int IntKind.i64 to])]⟩) (fun i => l.length - i) 0 ⟨Ar _, fun p hp => by simp at hp⟩ ?_ ?_
 ·exact leM
 rintro i ⟨hi, hk⟩ KL0 hKL0
 try dsimp only at *
 refine Ab (Ab (Z 6 rfl ?_))
 simp only [go_sem, simprocAttr, Ac, Co, CC, CB, CI, Ba, CH, hCs, <- hcb, hS6, hK]
 refine Ag rfl (fun hc6 => ?_) fun hc6 => ?_
 ·simp only [hcL] at hc6
  refine Aj ?_
  refine Ab (Au ?_)
  obtain ⟨⟨pf, pt, pr1, pa⟩, hp⟩ : ∃ p, p = l[i] := ⟨_, rfl⟩
  have hpb := hbd _ (AF hc6)
  rw [<- hp] at hpb
  obtain ⟨b1, b2, b3⟩ : 0 <= pf /\ pf < pt /\ pt <= W.length := hpb
  obtain ⟨Y, hY, hYt, hYo⟩ : ∃ Y : List Want, List.drop pf.toNat (List.take pt.toNat (W.map Want.enc)) = Y.map Want.enc /\ TmOk Y /\ ∀ w ∈ Y, w.ok := ⟨(W.take pt.toNat).drop pf.toNat, by rw [List.map_drop, MJ], h5.sub, fun w hw => h8 w (Ft (FP hw))⟩
  have hWh : WhP (⟨ps, ds⟩, ⟨fs, rs, gs, xs⟩, pr1, Y, u, sa) := ⟨⟨h1, hYt, h6, h7, hYo⟩, h2⟩
  have hAm : AmP (⟨ps, ds⟩, ⟨fs, rs, gs, xs⟩, pr1, Y, u) := ⟨h1.m, h2, h3, hYt.n⟩
  have hAb := AeF _ hAm
  obtain ⟨⟨n, e⟩, hA⟩ : ∃ y, y = fAm (⟨ps, ds⟩, ⟨fs, rs, gs, xs⟩, pr1, Y, u) := ⟨_, rfl⟩
  rw [<- hA] at hAb
  refine Ab (Z 8 rfl ?_)
  simp only [go_sem, simprocAttr, Ap _ _ _ _ hc6, hc6, Ac, <- hp, Part.enc, Co, CC, CB, CI, Ba, CH, hCs, <- hcb, hS6, hK]
  and_intros <;> try exact sdA
  refine Ab (ZR 9 rfl (by kernel_rfl) ?_)
  simp only [go_sem, simprocAttr, Ac, hY, An6, hWh, Co, CC, CB, CI, Ba, CH, hCs, <- hcb, hS6, hK]
  and_intros <;> try exact sdA
  refine Ab (Ab (Z 10 rfl ?_))
  simp only [go_sem, simprocAttr, Co, CC, CB, CI, Ba, CH, hCs, <- hcb, hS6, hK]
  refine Ag rfl (fun hc10 => ?_) fun hc10 => ?_
  ·simp only [hcL] at hc10
   refine Ab (Z 11 rfl ?_)
   simp only [go_sem, simprocAttr, Co, CC, CB, CI, Ba, CH, hCs, <- hcb, hS6, hK]
   refine Ak (hQ _ _ (.inl rfl) ?_ ?_ ?_) <;> simp only [go_sem, simprocAttr, vII]
   exact ⟨_, rfl, fun e0 => absurd e0 hc10⟩
  simp only [hcL] at hc10
  refine Aj ?_
  refine Ab (ZR 12 rfl (by kernel_rfl) ?_)
  simp only [go_sem, simprocAttr, Ac, hY, AeG, hAm, <- hA, Co, CC, CB, CI, Ba, CH, hCs, <- hcb, hS6, hK]
  and_intros <;> try exact sdA
  refine Ab (Z 13 rfl ?_)
  simp only [go_sem, simprocAttr, Co, CC, CB, CI, Ba, CH, hCs, <- hcb, hS6, hK]
  and_intros <;> try exact sdA
  refine Ag rfl (fun hb13 => ?_) fun hb13 => ?_
  ·refine Ab (Z 14 rfl ?_)
   simp only [go_sem, simprocAttr, Co, CC, CB, CI, Ba, CH, hCs, <- hcb, hS6, hK]
   refine Ak (hQ _ _ (.inl rfl) ?_ ?_ ?_) <;> simp only [go_sem, simprocAttr, vII]
   exact ⟨36, rfl, fun e0 => absurd e0 (by decide)⟩
  simp only [Ce, Ii, decide_eq_true_eq] at hb13
  obtain ⟨m1, m2⟩ := hb13
  have hAb2 : 0 <= n /\ n <= 1099511627776 := hAb m1
  refine Aj ?_
  refine Z 7 rfl ?_
  simp only [go_sem, simprocAttr, inI, Co, CC, CB, CI, Ba, CH, hCs, <- hcb, hS6, hK]
  and_intros <;> try exact sdA
  refine hKL0 (i + 1) _ ?_ ?_ ?_
  ·(try dsimp only); exact ⟨hc6, LM hk hc6 (by rw [<- hp]; exact ⟨show 0 <= pa by omega, show pa <= 1099511627776 by omega⟩)⟩
  ·(try dsimp only); omega
  exact leM
 simp only [hcL] at hc6
 rw [Bu hc6] at hk
 have hSm : SmP (⟨ps, ds⟩, ⟨fs, rs, gs, xs⟩, W, u, l) := ⟨h1.m.1, h2, h4, h5, h9, hk⟩
 have hSb := AkQ _ hSm
 have hCk := Afc _ hS6
 obtain ⟨⟨⟨q1, q2, q3, q4, q5⟩, sb⟩, hSe⟩ : ∃ y, y = fSm (⟨ps, ds⟩, ⟨fs, rs, gs, xs⟩, W, u, l) := ⟨_, rfl⟩
 rw [<- hSe] at hSb
 have hPb := Ue _ hK
 obtain ⟨⟨P, pe⟩, hPe⟩ : ∃ y, y = fPs (⟨fs, rs, gs, xs⟩, l) := ⟨_, rfl⟩
 rw [<- hPe] at hPb
 refine Bc ?_
 simp only [go_sem, simprocAttr]
 refine Ab (Z 15 rfl ?_)
 simp only [go_sem, simprocAttr, Co, CC, CB, CI, Ba, CH, hCs, <- hcb, hS6, hK]
 and_intros <;> try exact sdA
 refine Ab (Ab (Z 16 rfl ?_))
 simp only [go_sem, simprocAttr, Co, CC, CB, CI, Ba, CH, hCs, <- hcb, hS6, hK]
 refine Ag rfl (fun hc16 => ?_) fun hc16 => ?_
 ·simp only [hcL] at hc16
  refine Ab (Z 17 rfl ?_)
  simp only [go_sem, simprocAttr, Co, CC, CB, CI, Ba, CH, hCs, <- hcb, hS6, hK]
  refine Ak (hQ _ _ (.inl rfl) ?_ ?_ ?_) <;> simp only [go_sem, simprocAttr, vII]
  exact ⟨_, rfl, fun e0 => absurd e0 hc16⟩
 simp only [hcL] at hc16
 refine Aj ?_
 refine Ab (Z 18 rfl ?_)
 simp only [go_sem, simprocAttr, hSm, <- hSe, Quote.enc, Co, CC, CB, CI, Ba, CH, hCs, <- hcb, hS6, hK]
 and_intros <;> try exact sdA
 refine Ab (Ab (Z 19 rfl ?_))
 simp only [go_sem, simprocAttr, Co, CC, CB, CI, Ba, CH, hCs, <- hcb, hS6, hK]
 refine Ag rfl (fun hb19 => ?_) fun hb19 => ?_
 ·refine Ab (Z 20 rfl ?_)
  simp only [go_sem, simprocAttr, Co, CC, CB, CI, Ba, CH, hCs, <- hcb, hS6, hK]
  refine Ak (hQ _ _ (.inl rfl) ?_ ?_ ?_) <;> simp only [go_sem, simprocAttr, vII]
  exact ⟨36, rfl, fun e0 => absurd e0 (by decide)⟩
 have hQu : QuK l ⟨q1, q2, q3, q4, q5⟩ := hSb.2.2.2 (by simpa using hb19)
 have hq1 : q1 = l := hQu.p
 have hPl : P.length <= l.length := hPb.1
 have hQq : QqP (⟨q1, P, q3, q4, q5⟩, ⟨l, pr, tx, fa, to⟩) := ⟨⟨show q1.length <= 1000000 by rw [hq1]; exact h9, show P.length <= 1000000 by omega, hQu.n⟩, h9, h10, h11⟩
 refine Aj ?_
 refine Ab (Z 21 rfl ?_)
 simp only [go_sem, simprocAttr, <- hPe, Co, CC, CB, CI, Ba, CH, hCs, <- hcb, hS6, hK]
 and_intros <;> try exact sdA
 refine Ab (Z 22 rfl ?_)
 simp only [go_sem, simprocAttr, Co, CC, CB, CI, Ba, CH, hCs, <- hcb, hS6, hK]
 refine Ab (Ab (Z 23 rfl ?_))
 simp only [go_sem, simprocAttr, hQq, Co, CC, CB, CI, Ba, CH, hCs, <- hcb, hS6, hK]
 and_intros <;> try exact sdA
 refine Ag rfl (fun hb23 => ?_) fun hb23 => ?_
 ·refine Ab (Z 24 rfl ?_)
  simp only [go_sem, simprocAttr, Co, CC, CB, CI, Ba, CH, hCs, <- hcb, hS6, hK]
  refine Ak (hQ _ _ (.inl rfl) ?_ ?_ ?_) <;> simp only [go_sem, simprocAttr, vII]
  exact ⟨36, rfl, fun e0 => absurd e0 (by decide)⟩
 refine Aj ?_
 refine Ab (Z 25 rfl ?_)
 simp only [go_sem, simprocAttr, Co, CC, CB, CI, Ba, CH, hCs, <- hcb, hS6, hK]
 refine Ak (hQ _ _ (.inl rfl) ?_ ?_ ?_) <;> simp only [go_sem, simprocAttr, vII]
 obtain ⟨e1, e2, e3, e4, e5⟩ := Quote.mk.inj (Ajf _ hQq (by simpa using hb23)); have hQv : QuK l ⟨q1, q2, tx, fa, to⟩ := (by rw [<- show q3 = tx from e3, <- show q4 = fa from e4, <- show q5 = to from e5]; exact hQu); exact ⟨0, rfl, fun _ => ⟨hn, hCk (by simpa using hc16), hch, hk, ⟨hQv.f, hQv.f0, hQv.x, hQv.n, hQv.t, hQv.t0, rfl⟩⟩⟩
def Lj : Places × Tariff × List Want × List UInt8 × Int × Quote -> Int := Vp.choose
theorem AnR : ∀ x, VdP x -> RVd x (Lj x) := Vp.choose_spec.1
theorem AnS : PU 18 (gOf KE fun x => (VdP x, vII (Lj x))) := Vp.choose_spec.2
def RNr (n : Int) (b : Bool) : Prop := b = true -> -1099511627776 <= n /\ n <= 1099511627776
theorem TO : ∃ F : Int -> Bool, (∀ x, True -> RNr x (F x)) /\ PU 16 (gOf aI1 fun x => (True, vBB (F x))) := by
 have hG := AH
 refine Zd.p (val := vBB) (R := RNr) Jv (by simp [aI1]) ?_
 rintro n hv Q hQ
 have Z := Zd.T EF0 hG
 refine Ab (Z 0 rfl ?_)
 simp only [go_sem, simprocAttr, aI1]
 refine Ab (Z 1 rfl ?_)
 simp only [go_sem, simprocAttr]
 and_intros <;> try exact sdA
 refine Ak (hQ _ _ (.inl rfl) ?_ ?_ ?_) <;> simp only [go_sem, simprocAttr, vBB]
 exact ⟨_, rfl, fun e => by simpa using e⟩
def fNr : Int -> Bool := TO.choose
theorem Ah6 : ∀ x : Int, True -> RNr x (fNr x) := TO.choose_spec.1
theorem Ah7 : PU 16 (gOf aI1 fun x => (True, vBB (fNr x))) := TO.choose_spec.2
def RTi (l : List Want) (b : Bool) : Prop := b = true -> ∀ w ∈ l, Hb w.seg
theorem Vf : ∃ F : List Want -> Bool, (∀ x : List Want, x.length <= 1000000 -> RTi x (F x)) /\ PU 17 (gOf aWs fun x => (x.length <= 1000000, vBB (F x))) := by
 have hG := AH
 refine Zm.p (val := vBB) (R := RTi) OR (by simp [aWs]) ?_
 rintro W hv Q hQ
 have Z := Zm.T EF0 hG
 have h1 : W.length <= 1000000 := hv
 refine Ab (Z 0 rfl ?_)
 simp only [go_sem, simprocAttr, aWs]
 refine Ab (Ab (Z 1 rfl ?_))
 simp only [go_sem, simprocAttr]
 refine Au ?_
 refine Bg (α := Nat) (fun i => (i <= W.length) /\ (∀ w ∈ W.take i, Hb w.seg)) (fun i => ⟨mkE [(0, V.list (List.map Want.enc W) false), (3, .int .i64 i)], mkH []⟩) (fun i => W.length - i) 0 ⟨Ar _, fun p hp => by simp at hp⟩ ?_ ?_
 ·exact leM
 rintro i ⟨hi, hk⟩ KL0 hKL0
 try dsimp only at *
 refine Ab (Ab (Z 2 rfl ?_))
 simp only [go_sem, simprocAttr, Ac]
 refine Ag rfl (fun hc2 => ?_) fun hc2 => ?_
 ·simp only [hcL] at hc2
  refine Aj ?_
  refine Ab (Au ?_)
  obtain ⟨⟨⟨ca, nu, da, fr, to, de, ar⟩, cl⟩, hw⟩ : ∃ w, w = W[i] := ⟨_, rfl⟩
  refine Ab (Z 4 rfl ?_)
  simp only [go_sem, simprocAttr, Ap _ _ _ _ hc2, hc2, Ac, <- hw, Want.enc]
  and_intros <;> try exact sdA
  refine Ag rfl (fun hb4 => ?_) fun hb4 => ?_
  ·refine Ab (Z 5 rfl ?_)
   simp only [go_sem, simprocAttr]
   refine Ak (hQ _ _ (.inl rfl) ?_ ?_ ?_) <;> simp only [go_sem, simprocAttr, vBB]
   exact ⟨false, rfl, fun e => by cases e⟩
  simp only [Ce, decide_eq_false_iff_not] at hb4
  refine Aj ?_
  refine Z 3 rfl ?_
  simp only [go_sem, simprocAttr, inI]
  and_intros <;> try exact sdA
  refine hKL0 (i + 1) _ ?_ ?_ ?_
  ·(try dsimp only); exact ⟨hc2, LM hk hc2 (by rw [<- hw]; exact ⟨⟨show 0 <= de by omega, show de <= 52596000 by omega⟩, show 0 <= ar by omega, show ar <= 52596000 by omega⟩)⟩
  ·(try dsimp only); omega
  exact leM
 simp only [hcL] at hc2
 rw [Bu hc2] at hk
 refine Bc ?_
 simp only [go_sem, simprocAttr]
 refine Ab (Z 6 rfl ?_)
 simp only [go_sem, simprocAttr]
 refine Ak (hQ _ _ (.inl rfl) ?_ ?_ ?_) <;> simp only [go_sem, simprocAttr, vBB]
 exact ⟨true, rfl, fun _ => hk⟩
def fTi : List Want -> Bool := Vf.choose
theorem AmH : ∀ x : List Want, x.length <= 1000000 -> RTi x (fTi x) := Vf.choose_spec.1
theorem AmI : PU 17 (gOf aWs fun x => (x.length <= 1000000, vBB (fTi x))) := Vf.choose_spec.2
def mkC (F : List Fare) (W : List Want) (X : List Int) (x : Part) (j : Nat) : Coupon := ⟨W.getD (x.from'.toNat + j) Want.zero, (F.getD x.fare.toNat Fare.zero).basis, 1, X.getD (x.from'.toNat + j) 0⟩
def Hi (F : List Fare) (W : List Want) (X : List Int) (x : Part) : List Coupon := (List.range (x.to' - x.from').toNat).map (mkC F W X x)
def Hh (F : List Fare) (W : List Want) (X : List Int) (ps : List Part) : List Coupon := ps.flatMap (Hi F W X)
theorem XI (F W X x) : (Hi F W X x).length = (x.to' - x.from').toNat := by unfold Hi; simp
theorem AfE {F : List Fare} {W : List Want} {X : List Int} {x : Part} {j : Nat} (h : j < (x.to' - x.from').toNat) : (Hi F W X x).take (j + 1) = (Hi F W X x).take j ++ [mkC F W X x j] := by
 rw [CW (by rw [XI]; exact h)]
 simp [Hi]
theorem AfD {F : List Fare} {W : List Want} {X : List Int} {l : List Part} {i : Nat} (h : i < l.length) : Hh F W X (l.take (i + 1)) = Hh F W X (l.take i) ++ Hi F W X l[i] := by
 unfold Hh; rw [CW h, List.flatMap_append]; simp
theorem AfA (ds : List Coupon) (w : Want) (b : List UInt8) (v : Int) : ds.map Coupon.enc ++ [[.str w.seg.carrier, .int .i64 w.seg.number, .int .i64 w.seg.day, .str w.seg.from', .str w.seg.to', .int .i64 w.seg.dep, .int .i64 w.seg.arr, .str w.cls, .str b, .int .i64 1, .int .i64 v]] = (ds ++ [(⟨w, b, 1, v⟩ : Coupon)]).map Coupon.enc := by rw [DC]; rfl
def HI (p : Places) (F : List Fare) (W : List Want) (q : Quote) (x : Person) (n : Int) (loc : List UInt8) (d : Int) : Ticket × Int :=
 if (decide ((W.length : Int) < 1) || decide (6 < (W.length : Int)) || !Do F.length W.length 0 q.parts || !Dv n) = true then (Ticket.zero, 2) else
  if Fi d = false then (Ticket.zero, 12) else
   if (ES p W q).1 ≠ 0 then (Ticket.zero, (ES p W q).1) else (⟨n, loc, x, Hh F W (ES p W q).2 q.parts, q.fare, q.taxes, q.total, d⟩, 0)
def LZ := ar (vg Places.enc) (ar (vg Tariff.enc) (ar (vl Want.enc) (ar (vg Quote.enc) (ar (vg Person.enc) (ar vi (ar V.str (ao vi)))))))
theorem WF : Ij LZ := ijr (ijg Places.inj) (ijr (ijg Tariff.inj) (ijr (ijl Want.inj) (ijr (ijg Quote.inj) (ijr (ijg Person.inj) (ijr iji (ijr ijs (ijo iji)))))))
structure TkIn (p : Places) (t : Tariff) (W : List Want) (q : Quote) (n d : Int) : Prop where
 co : COk p W q
 ta : TarOk t
 n : inI n
 d : inI d
 x : q.taxes.length <= 1000000
def Lg (x : Places × Tariff × List Want × Quote × Person × Int × List UInt8 × Int) : Prop × V := (TkIn x.1 x.2.1 x.2.2.1 x.2.2.2.1 x.2.2.2.2.2.1 x.2.2.2.2.2.2.2, tkV (HI x.1 x.2.1.fares x.2.2.1 x.2.2.2.1 x.2.2.2.2.1 x.2.2.2.2.2.1 x.2.2.2.2.2.2.1 x.2.2.2.2.2.2.2))
theorem Ev (ps : List Airport) (ds : List Distance) (l : List Want) (a : List Part) (b : List Two) (c : List Charge) (f t : Int) : gOf aCo fCo [.agg [.list (ps.map Airport.enc) false, .list (ds.map Distance.enc) false], .list (l.map Want.enc) false, .agg [.list (a.map Part.enc) false, .list (b.map Two.enc) false, .list (c.map Charge.enc) false, .int .i64 f, .int .i64 t]] = (COk ⟨ps, ds⟩ l ⟨a, b, c, f, t⟩, GW (ES ⟨ps, ds⟩ l ⟨a, b, c, f, t⟩)) := Al VG (⟨ps, ds⟩, l, ⟨a, b, c, f, t⟩)
theorem XC {p : Places} {W : List Want} {q : Quote} {X : List Int} (h : ES p W q = (0, X)) : X.length = W.length := by
 unfold ES at h
 split at h
 ·rename_i hd
  have := (XG (W := W.map (wgt p)) (by rw [Ac]; exact EZ _) hd (EZ 0) h).1
  omega
 ·cases h
theorem AmL {p F W q x n loc d} (h : (decide ((W.length : Int) < 1) || decide (6 < (W.length : Int)) || !Do F.length W.length 0 q.parts || !Dv n) = true) : HI p F W q x n loc d = (Ticket.zero, 2) := by unfold HI; rw [if_pos h]
theorem AmM {p F W q x n loc d} (h : (decide ((W.length : Int) < 1) || decide (6 < (W.length : Int)) || !Do F.length W.length 0 q.parts || !Dv n) = false) (h2 : Fi d = false) : HI p F W q x n loc d = (Ticket.zero, 12) := by unfold HI; rw [if_neg (by rw [h]; decide), if_pos h2]
theorem AmN {p F W q x n loc d e X} (h : (decide ((W.length : Int) < 1) || decide (6 < (W.length : Int)) || !Do F.length W.length 0 q.parts || !Dv n) = false) (h2 : Fi d = true) (hc : ES p W q = (e, X)) (he : e ≠ 0) : HI p F W q x n loc d = (Ticket.zero, e) := by unfold HI; rw [if_neg (by rw [h]; decide), if_neg (by rw [h2]; decide), hc, if_pos he]
theorem AdK {p F W q x n loc d X} (h : (decide ((W.length : Int) < 1) || decide (6 < (W.length : Int)) || !Do F.length W.length 0 q.parts || !Dv n) = false) (h2 : Fi d = true) (hc : ES p W q = (0, X)) : HI p F W q x n loc d = (⟨n, loc, x, Hh F W X q.parts, q.fare, q.taxes, q.total, d⟩, 0) := by unfold HI; rw [if_neg (by rw [h]; decide), if_neg (by rw [h2]; decide), hc, if_neg (by simp)]
def DX : Tab
 | 33 => (gOf aCv fCv)
 | 34 => (gOf Bm IT)
 | 35 => (gOf Bm fDy)
 | 36 => (gOf aCo fCo)
 | 37 => (gOf FC So)
 | _ => gNo
theorem Amq : ∀ f, PU f (DX f) := fun f => by
 unfold DX
 split
 ·exact Afz
 ·exact AbN
 ·exact Ya
 ·exact Afy
 ·exact Afi
 ·exact Ah.no
set_option maxRecDepth 20000 in
theorem AmJ : PU 8 (gOf LZ Lg) := by
 have hG := Amq
 refine fi8.a WF (by simp [LZ]) ?_
 rintro ⟨⟨ps, ds⟩, ⟨fs, rs, gs, xs⟩, W, ⟨pa, pr, tx, fa, to⟩, ⟨la, fi, ty⟩, n, loc, d⟩ hv C hN Q hQ
 have Z := fi8.R EF0 hG hN
 obtain ⟨h1, h2, h3, h4, h5⟩ : TkIn ⟨ps, ds⟩ ⟨fs, rs, gs, xs⟩ W ⟨pa, pr, tx, fa, to⟩ n d := hv
 obtain ⟨o1, o2, o3, o4, o5, o6, o7, o8⟩ := id h2
 obtain ⟨c1, c2, c3, c4⟩ := id h1
 dsimp only at o1 o2 o3 o4 o5 o6 o7 o8 c1 c2 c3 c4 h5
 have hcv : OK (⟨fs, rs, gs, xs⟩, pa, (W.length : Int)) := ⟨o1, c3, by dsimp only; omega⟩
 refine Aa (Z 0 rfl ?_)
 simp only [go_sem, simprocAttr, LZ, Places.enc, Tariff.enc, Quote.enc, Person.enc, DX, Ew, AN, Bw, Ev, Eu]
 refine Aa (Ao ?_)
 refine Aa (Z 1 rfl ?_)
 simp only [go_sem, simprocAttr, Ac, hcv, h3, DX, Ew, AN, Bw, Ev, Eu]
 and_intros <;> try exact sdA
 refine Ae rfl (fun hb1 => ?_) fun hb1 => ?_
 ·have hm := AmL (p := ⟨ps, ds⟩) (x := ⟨la, fi, ty⟩) (loc := loc) (d := d) (q := ⟨pa, pr, tx, fa, to⟩) hb1
  refine Aa (Z 2 rfl ?_)
  simp only [go_sem, simprocAttr, DX, Ew, AN, Bw, Ev, Eu]
  refine AW.le (s' := ⟨mkE [(16, .ptr 16 0), (17, .int .i64 2)], mkH [(16, .box 47 (Bb Ticket.zero))]⟩) (Le.mk _ _ ?_ ?_ rfl) (Ad (hQ _ _ (.inl rfl) ?_ ?_ ?_)) <;> simp only [go_sem, simprocAttr, Bb, Ticket.zero, Person.zero, Lg, tkV, hm]
 refine Aa (Z 3 rfl ?_)
 simp only [go_sem, simprocAttr, h4, DX, Ew, AN, Bw, Ev, Eu]
 and_intros <;> try exact sdA
 refine Ae rfl (fun hb3 => ?_) fun hb3 => ?_
 ·have hm := AmM (p := ⟨ps, ds⟩) (x := ⟨la, fi, ty⟩) (loc := loc) (q := ⟨pa, pr, tx, fa, to⟩) hb1 (by simpa using hb3)
  refine Aa (Z 4 rfl ?_)
  simp only [go_sem, simprocAttr, DX, Ew, AN, Bw, Ev, Eu]
  refine AW.le (s' := ⟨mkE [(16, .ptr 16 0), (17, .int .i64 12)], mkH [(16, .box 47 (Bb Ticket.zero))]⟩) (Le.mk _ _ ?_ ?_ rfl) (Ad (hQ _ _ (.inl rfl) ?_ ?_ ?_)) <;> simp only [go_sem, simprocAttr, Bb, Ticket.zero, Person.zero, Lg, tkV, hm]
 refine Af ?_
 have hdy : Fi d = true := by simpa using hb3
 obtain ⟨⟨e, X⟩, hcX⟩ : ∃ y, ES ⟨ps, ds⟩ W ⟨pa, pr, tx, fa, to⟩ = y := ⟨_, rfl⟩
 refine Aa (Z 5 rfl ?_)
 simp only [go_sem, simprocAttr, h1, hcX, GW, DX, Ew, AN, Bw, Ev, Eu]
 and_intros <;> try exact sdA
 refine Aa (Aa (Z 6 rfl ?_))
 simp only [go_sem, simprocAttr, DX, Ew, AN, Bw, Ev, Eu]
 refine Ae rfl (fun hb6 => ?_) fun hb6 => ?_
 ·have hm := AmN (x := ⟨la, fi, ty⟩) (loc := loc) hb1 hdy hcX (by simpa using hb6)
  refine Aa (Z 7 rfl ?_)
  simp only [go_sem, simprocAttr, DX, Ew, AN, Bw, Ev, Eu]
  refine AW.le (s' := ⟨mkE [(16, .ptr 16 0), (17, .int .i64 e)], mkH [(16, .box 47 (Bb Ticket.zero))]⟩) (Le.mk _ _ ?_ ?_ rfl) (Ad (hQ _ _ (.inl rfl) ?_ ?_ ?_)) <;> simp only [go_sem, simprocAttr, Bb, Ticket.zero, Person.zero, Lg, tkV, hm]
 have he0 : e = 0 := by simpa using hb6
 subst he0
 have hm := AdK (x := ⟨la, fi, ty⟩) (loc := loc) hb1 hdy hcX
 have hXl := XC hcX
 obtain ⟨hcov, hW6⟩ : Do fs.length W.length 0 pa = true /\ W.length <= 6 := by simp only [Ce, Ii, decide_eq_false_iff_not] at hb1; exact ⟨hb1.1.2, by omega⟩
 refine Af ?_
 refine Aa (He (EF := EF0) hG mixed (by rw [hN]; exact Anc) Aiu ?_)
 simp only [RB, XV, go_sem, simprocAttr, h5, DX, Ew, AN, Bw, Ev, Eu]
 and_intros <;> try exact sdA
 refine Aa (Aa (Z 9 rfl ?_))
 simp only [go_sem, simprocAttr, Ac, DX, Ew, AN, Bw, Ev, Eu]
 refine Ao ?_
 refine AX (α := Nat × (List Coupon)) (fun γ => (γ.1 <= pa.length) /\ (Do fs.length W.length γ.2.length (pa.drop γ.1) = true) /\ (γ.2 = Hh fs W X (pa.take γ.1)) /\ (γ.2.length <= W.length)) (fun γ => ⟨mkE [(2, V.list (List.map Want.enc W) false), (9, V.ptr 9 0), (16, V.ptr 16 0), (18, V.list (Aq X) false), (20, V.ptr 20 0), (77, V.list (List.map Part.enc pa) false), (78, V.int IntKind.i64 ↑pa.length), (79, .int .i64 γ.1)], mkH [(9, Ob.box 31 [V.list (List.map Fare.enc fs) false, V.list (List.map Rule.enc rs) false, V.list (List.map Routing.enc gs) false, V.list (List.map Tax.enc xs) false]), (16, Ob.box 47 [V.int IntKind.i64 0, V.str [], V.str [], V.str [], V.str [], V.nils, V.int IntKind.i64 0, V.nils, V.int IntKind.i64 0, V.int IntKind.i64 0]), (20, .box 47 [.int .i64 n, .str loc, .str la, .str fi, .str ty, .own 999 γ.2.length, .int .i64 fa, .list (tx.map Charge.enc) false, .int .i64 to, .int .i64 d]), (999, .arr 57 11 (γ.2.map Coupon.enc))]⟩) (fun γ => pa.length - γ.1) (0, []) ⟨Ar _, hcov, rfl, Ar _⟩ ?_ ?_
 ·exact leM
 rintro ⟨i, cs⟩ ⟨hi, hd, hcs, hcl⟩ KL1 hKL1
 try dsimp only at *
 refine Aa (Z 10 rfl ?_)
 simp only [go_sem, simprocAttr, DX, Ew, AN, Bw, Ev, Eu]
 refine Aa ?_
 refine Ae rfl (fun hc10 => ?_) fun hc10 => ?_
 ·simp only [hcL] at hc10
  refine Af ?_
  refine Aa (Ao ?_)
  have hdd := DS hc10
  rw [hdd, Do] at hd
  have hst := AfD (F := fs) (W := W) (X := X) hc10
  obtain ⟨⟨xf, xt, xr, xa⟩, hx⟩ : ∃ x, x = pa[i] := ⟨_, rfl⟩
  rw [<- hx] at hd hst
  obtain ⟨hdx, hd2⟩ : ¬(xf ≠ cs.length \/ xt <= cs.length \/ (W.length : Int) < xt \/ xr < 0 \/ (fs.length : Int) <= xr) /\ Do fs.length W.length xt (pa.drop (i + 1)) = true := by split at hd; cases hd; exact ⟨‹_›, hd⟩
  obtain ⟨rfl, q2, q3, q4, q5⟩ : xf = cs.length /\ (cs.length : Int) < xt /\ xt <= W.length /\ 0 <= xr /\ xr < fs.length := by omega
  refine Aa (Z 11 rfl ?_)
  simp only [go_sem, simprocAttr, Ap _ _ _ _ hc10, hc10, <- hx, Part.enc, DX, Ew, AN, Bw, Ev, Eu]
  and_intros <;> try exact sdA
  refine Aa (Z 12 rfl ?_)
  simp only [go_sem, simprocAttr, DX, Ew, AN, Bw, Ev, Eu]
  refine Ao ?_
  refine AX (α := Nat × (List Coupon)) (fun γ => (γ.1 <= (xt - cs.length).toNat) /\ (γ.2 = cs ++ (Hi fs W X ⟨cs.length, xt, xr, xa⟩).take γ.1) /\ (γ.2.length = cs.length + γ.1)) (fun γ => ⟨mkE [(2, V.list (List.map Want.enc W) false), (9, V.ptr 9 0), (16, V.ptr 16 0), (18, V.list (Aq X) false), (20, V.ptr 20 0), (22, V.ptr 22 0), (23, .int .i64 γ.2.length), (77, V.list (List.map Part.enc pa) false), (78, V.int IntKind.i64 ↑pa.length), (79, V.int IntKind.i64 ↑i)], mkH [(9, Ob.box 31 [V.list (List.map Fare.enc fs) false, V.list (List.map Rule.enc rs) false, V.list (List.map Routing.enc gs) false, V.list (List.map Tax.enc xs) false]), (16, Ob.box 47 [V.int IntKind.i64 0, V.str [], V.str [], V.str [], V.str [], V.nils, V.int IntKind.i64 0, V.nils, V.int IntKind.i64 0, V.int IntKind.i64 0]), (20, .box 47 [.int .i64 n, .str loc, .str la, .str fi, .str ty, .own 999 γ.2.length, .int .i64 fa, .list (tx.map Charge.enc) false, .int .i64 to, .int .i64 d]), (22, Ob.box 94 [V.int IntKind.i64 ↑cs.length, V.int IntKind.i64 xt, V.int IntKind.i64 xr, V.int IntKind.i64 xa]), (999, .arr 57 11 (γ.2.map Coupon.enc))]⟩) (fun γ => (xt - cs.length).toNat - γ.1) (0, cs) ⟨Ar _, by rw [HC, Bl], rfl⟩ ?_ ?_
  ·exact leM
  rintro ⟨j, es⟩ ⟨hj, hes, hel⟩ KL3 hKL3
  try dsimp only at *
  refine Aa (Aa (Z 13 rfl ?_))
  simp only [go_sem, simprocAttr, DX, Ew, AN, Bw, Ev, Eu]
  refine Ae rfl (fun hc13 => ?_) fun hc13 => ?_
  ·simp only [hcL] at hc13
   refine Af ?_
   refine Aa (Ao ?_)
   have hW : es.length < W.length := by omega
   have hX : es.length < X.length := by omega
   have hF : xr.toNat < fs.length := by omega
   obtain ⟨w, hw⟩ : ∃ w, w = W[es.length] := ⟨_, rfl⟩
   obtain ⟨f, hf⟩ : ∃ f, f = fs[xr.toNat] := ⟨_, rfl⟩
   obtain ⟨v, hvv⟩ : ∃ v, v = X[es.length] := ⟨_, rfl⟩
   have hjj : j < (xt - (cs.length : Int)).toNat := by omega
   have hmk : mkC fs W X ⟨cs.length, xt, xr, xa⟩ j = ⟨w, f.basis, 1, v⟩ := by unfold mkC; dsimp only; rw [show (cs.length : Int).toNat + j = es.length by omega, Cu _ _ _ hW, Cu _ _ _ hF, Cu _ _ _ hX, <- hw, <- hf, <- hvv]
   refine He (EF := EF0) hG mixed (by rw [hN]; exact Anb) Ait ?_
   simp only [RA, XU, go_sem, simprocAttr, Ap _ _ _ _ hW, Ap _ _ _ _ hF, GL _ _ _ hX, <- hw, <- hf, <- hvv, Want.enc, Fare.enc, hW, hX, q4, q5, Ac, DB, DX, Ew, AN, Bw, Ev, Eu]
   and_intros <;> try exact sdA
   refine Z 14 rfl ?_
   simp only [go_sem, simprocAttr, inI, DX, Ew, AN, Bw, Ev, Eu]
   and_intros <;> try exact sdA
   refine hKL3 (j + 1, es ++ [⟨w, f.basis, 1, v⟩]) _ ?_ ?_ ?_
   ·(try dsimp only); exact ⟨hjj, by rw [AfE hjj, hmk, hes, Dg], by rw [Ai, hel]; rfl⟩
   ·(try dsimp only); omega
   refine Le.mk _ _ ?_ ?_ rfl <;> simp only [go_sem, simprocAttr, AfA, Ai, Av, Ay] <;> and_intros <;> try exact leA
  simp only [hcL] at hc13
  refine AS ?_
  simp only [go_sem, simprocAttr]
  refine Z 16 rfl ?_
  simp only [go_sem, simprocAttr, inI, DX, Ew, AN, Bw, Ev, Eu]
  and_intros <;> try exact sdA
  refine hKL1 (i + 1, es) _ ?_ ?_ ?_
  ·(try dsimp only); refine ⟨hc10, ?_, ?_, by omega⟩; (rw [show (es.length : Int) = xt by omega]; exact hd2); (rw [hst, hes, <- hcs, Bu (by rw [XI]; dsimp only; omega)])
  ·(try dsimp only); omega
  exact leM
 simp only [hcL] at hc10
 rw [Bu hc10] at hcs
 refine AS ?_
 simp only [go_sem, simprocAttr]
 refine Aa (Z 17 rfl ?_)
 simp only [go_sem, simprocAttr, DX, Ew, AN, Bw, Ev, Eu]
 refine AW.le (s' := ⟨mkE [(16, .ptr 16 0), (17, .int .i64 0)], mkH [(16, .box 47 (Bb ⟨n, loc, ⟨la, fi, ty⟩, cs, fa, tx, to, d⟩))]⟩) (Le.mk _ _ ?_ ?_ rfl) (Ad (hQ _ _ (.inl rfl) ?_ ?_ ?_)) <;> simp only [go_sem, simprocAttr, Bb, Lg, tkV, hm, <- hcs]
 exact Rg rfl (by rw [Ac]) rfl ((Coupon.purs _).2 trivial) rfl
def sTx : List UInt8 := [116, 97, 120, 32]
def Nq (x : Tax) : Bool := decide (x.kind < 1) || decide (4 < x.kind)
def Np (x : Tax) : Bool := decide (x.amount < 0) || decide (MR x.kind < x.amount) || decide (x.scope < 0) || decide (2 < x.scope) || decide (x.transit < 0) || decide (100000 < x.transit)
def Nc (i : Nat) (x : Tax) : List Fault := fIf (!In x) 5 (sTx ++ dec i) ++ fIf (Nq x) 8 (sTx ++ dec i) ++ fIf (Np x) 2 (sTx ++ dec i)
def GY (l : List Tax) : Nat -> List Fault
 | 0 => []
 | i + 1 => GY l i ++ Nc i (l.getD i Tax.zero)
theorem AmE (i x) : (Nc i x).length <= 3 := by
 have h1 := IP (!In x) 5 (sTx ++ dec i)
 have h2 := IP (Nq x) 8 (sTx ++ dec i)
 have h3 := IP (Np x) 2 (sTx ++ dec i)
 unfold Nc; simp only [Ai]; omega
theorem AdH (l) : ∀ i, (GY l i).length <= 3 * i
 | 0 => Az _
 | i + 1 => by rw [GY, Ai]; have := AdH l i; have := AmE i (l.getD i Tax.zero); omega
def LY := ao (vl Tax.enc)
theorem WE : Ij LY := ijo (ijl Tax.inj)
def SmT (l : List Tax) : Prop := l.length <= 1000 /\ ∀ x ∈ l, x.ok
def PH (l : List Tax) : Prop × V := (SmT l, .list (Ax (GY l l.length)) false)
def Fc : Tab
 | 72 => (gOf LX Mm)
 | 73 => (gOf Bm NB)
 | 68 => IW
 | _ => gNo
theorem Ani : ∀ f, PU f (Fc f) := fun f => by
 unfold Fc
 split
 ·exact AjB
 ·exact Ajz
 ·exact Ou
 ·exact Ah.no
theorem AjK : PU 29 (gOf LY PH) := by
 have hG := Ani
 refine SU.a WE (by simp [LY]) ?_
 rintro l hv C hN Q hQ
 have Y := SU.D EF0 hG hN mixed
 have Z := SU.R EF0 hG hN
 obtain ⟨hl, hok⟩ : SmT l := hv
 refine Aa (Z 0 rfl ?_)
 simp only [go_sem, simprocAttr, LY, Fc, FH, FG]
 refine Aa (Z 1 rfl ?_)
 simp only [go_sem, simprocAttr, Fc, FH, FG]
 refine AW.le (s' := ⟨mkE [(0, .list (l.map Tax.enc) false), (3, .own 999 0)], mkH ([(999, .arr 126 2 (Ax []))])⟩) (Le.mk _ _ (by (simp only [go_sem, simprocAttr]) <;> and_intros <;> try exact leB) (by (simp only [go_sem, simprocAttr]) <;> and_intros <;> try exact leB) rfl) ?_
 refine Aa (Aa (Z 2 rfl ?_))
 simp only [go_sem, simprocAttr, Fc, FH, FG]
 refine Ao ?_
 refine AX (α := Nat × (List Fault)) (fun γ => (γ.1 <= l.length) /\ (γ.2 = GY l γ.1) /\ (γ.2.length <= 3 * γ.1)) (fun γ => ⟨mkE [(0, V.list (List.map Tax.enc l) false), (3, .own 999 γ.2.length), (4, .int .i64 γ.1)], mkH [(999, .arr 126 2 (Ax γ.2))]⟩) (fun γ => l.length - γ.1) (0, []) ⟨Ar _, rfl, Az _⟩ ?_ ?_
 ·exact leM
 rintro ⟨i, g⟩ ⟨hi, hg, hgl⟩ KL0 hKL0
 try dsimp only at *
 refine Aa (Aa (Z 3 rfl ?_))
 simp only [go_sem, simprocAttr, Fc, FH, FG]
 refine Ae rfl (fun hc3 => ?_) fun hc3 => ?_
 ·simp only [hcL] at hc3
  refine Af ?_
  refine Aa (Ao ?_)
  have hxo := hok _ (AF hc3)
  generalize hxx : l[i] = x at hxo
  obtain ⟨a, b, c, dd, e, f, fr⟩ := x
  have hd := Hj (i := i) (by omega)
  have hi2 := JP (i := i) (by omega)
  refine Aa (He (EF := EF0) hG mixed (by rw [hN]; exact Am3) Aim ?_)
  simp only [Rt, XN, go_sem, simprocAttr, inI, Ap _ _ _ _ hc3, hc3, hxx, Tax.enc, AC, hi2, Fc, FH, FG]
  and_intros <;> (try first | exact sdA | (simp only [Ai, Av, Ay]; omega))
  refine Dw (α := (List Fault)) (fun g1 => (g1 = g ++ fIf (!In ⟨a, b, c, dd, e, f, fr⟩) 5 (sTx ++ dec i)) /\ (g1.length <= g.length + 1)) (fun g1 => ⟨mkE [(0, V.list (List.map Tax.enc l) false), (3, .own 999 g1.length), (4, V.int IntKind.i64 ↑i), (5, V.ptr 5 0), (6, V.str (116 :: 97 :: 120 :: 32 :: dec ↑i))], mkH [(5, Ob.box 143 [V.str a, V.int IntKind.i64 b, V.str c, V.int IntKind.i64 dd, V.int IntKind.i64 e, V.int IntKind.i64 f, V.list (strs fr) false]), (999, .arr 126 2 (Ax g1))]⟩) ?_ ?_
  ·intro KC6 hKC6
   refine Aa (Z 6 rfl ?_)
   simp only [go_sem, simprocAttr, hxo, Fc, FH, FG]
   and_intros <;> try exact sdA
   refine Ae rfl (fun hb6 => ?_) fun hb6 => ?_
   ·refine Z 7 rfl ?_
    simp only [go_sem, simprocAttr, Fc, FH, FG]
    and_intros <;> try exact sdA
    refine hKC6 (g ++ [⟨5, sTx ++ dec i⟩]) _ ?_ ?_
    ·(try dsimp only); exact ⟨by rw [Dr (show (!In ⟨a, b, c, dd, e, f, fr⟩) = true from hb6)], by simp⟩
    refine Le.mk _ _ ?_ ?_ rfl <;> simp only [go_sem, simprocAttr, Ai, Av, Ay] <;> and_intros <;> try exact leA
   refine Af ?_
   refine hKC6 (g) _ ?_ ?_
   ·(try dsimp only); exact ⟨by rw [Dq (show (!In ⟨a, b, c, dd, e, f, fr⟩) = false from hb6), Bl], by omega⟩
   exact leM
  rintro g1 ⟨hg1, lg1⟩
  refine Dw (α := (List Fault)) (fun g2 => (g2 = g1 ++ fIf (Nq ⟨a, b, c, dd, e, f, fr⟩) 8 (sTx ++ dec i)) /\ (g2.length <= g1.length + 1)) (fun g2 => ⟨mkE [(0, V.list (List.map Tax.enc l) false), (3, .own 999 g2.length), (4, V.int IntKind.i64 ↑i), (5, V.ptr 5 0), (6, V.str (116 :: 97 :: 120 :: 32 :: dec ↑i))], mkH [(5, Ob.box 143 [V.str a, V.int IntKind.i64 b, V.str c, V.int IntKind.i64 dd, V.int IntKind.i64 e, V.int IntKind.i64 f, V.list (strs fr) false]), (999, .arr 126 2 (Ax g2))]⟩) ?_ ?_
  ·intro KC8 hKC8
   refine Aa (Z 8 rfl ?_)
   simp only [go_sem, simprocAttr, Fc, FH, FG]
   and_intros <;> try exact sdA
   refine Ae rfl (fun hb8 => ?_) fun hb8 => ?_
   ·refine Z 9 rfl ?_
    simp only [go_sem, simprocAttr, Fc, FH, FG]
    and_intros <;> try exact sdA
    refine hKC8 (g1 ++ [⟨8, sTx ++ dec i⟩]) _ ?_ ?_
    ·(try dsimp only); exact ⟨by rw [Dr (show (Nq ⟨a, b, c, dd, e, f, fr⟩) = true from hb8)], by simp⟩
    refine Le.mk _ _ ?_ ?_ rfl <;> simp only [go_sem, simprocAttr, Ai, Av, Ay] <;> and_intros <;> try exact leA
   refine Af ?_
   refine hKC8 (g1) _ ?_ ?_
   ·(try dsimp only); exact ⟨by rw [Dq (show (Nq ⟨a, b, c, dd, e, f, fr⟩) = false from hb8), Bl], by omega⟩
   exact leM
  rintro g2 ⟨hg2, lg2⟩
  refine Aa (Y 10 rfl (by kernel_rfl) ?_)
  simp only [go_sem, simprocAttr, Fc, FH, FG]
  and_intros <;> try exact sdA
  refine Ae rfl (fun hb10 => ?_) fun hb10 => ?_
  ·refine Z 11 rfl ?_
   simp only [go_sem, simprocAttr, Fc, FH, FG]
   and_intros <;> try exact sdA
   refine Z 4 rfl ?_
   simp only [go_sem, simprocAttr, inI, Fc, FH, FG]
   and_intros <;> try exact sdA
   refine hKL0 (i + 1, g2 ++ [⟨2, sTx ++ dec i⟩]) _ ?_ ?_ ?_
   ·(try dsimp only); refine ⟨hc3, ?_, by simp only [Ai, Av, Ay]; omega⟩; rw [GY, Cu _ _ _ hc3, hxx, Nc, Dr (b := Np ⟨a, b, c, dd, e, f, fr⟩) hb10, hg2, hg1, hg]; simp only [Dg]
   ·(try dsimp only); omega
   refine Le.mk _ _ ?_ ?_ rfl <;> simp only [go_sem, simprocAttr, Ai, Av, Ay] <;> and_intros <;> try exact leA
  refine Af ?_
  refine Z 4 rfl ?_
  simp only [go_sem, simprocAttr, inI, Fc, FH, FG]
  and_intros <;> try exact sdA
  refine hKL0 (i + 1, g2) _ ?_ ?_ ?_
  ·(try dsimp only); refine ⟨hc3, ?_, by omega⟩; rw [GY, Cu _ _ _ hc3, hxx, Nc, Dq (b := Np ⟨a, b, c, dd, e, f, fr⟩) hb10, hg2, hg1, hg]; simp only [Dg, Bl]
  ·(try dsimp only); omega
  exact leM
 simp only [hcL] at hc3
 refine AS ?_
 simp only [go_sem, simprocAttr]
 refine Aa (Z 12 rfl ?_)
 simp only [go_sem, simprocAttr, Fc, FH, FG]
 refine AW.le (s' := ⟨mkE [(2, .list (Ax g) false)], mkH []⟩) (Le.mk _ _ ?_ ?_ rfl) (Ad (hQ _ _ (.inl rfl) ?_ ?_ ?_)) <;> simp only [go_sem, simprocAttr, PH]
 ·exact DO rfl (by rw [Fo]) rfl (Gp _)
 rw [hg, Qm hi hc3]
def exC (s : Int) : Coupon := ⟨⟨⟨[], 0, 0, [], [], 0, 0⟩, []⟩, [], s, 0⟩
def exT (s : Int) : Ticket := ⟨0, [], ⟨[], [], []⟩, [exC s], 0, [], 0, 5⟩
theorem Yq {s : Int} (h : inI s) : HP (exT s) := by
 unfold inI at h
 refine ⟨?_, by simp [exT], by simp [exT]⟩
 simp [exT, exC, Ticket.ok, Coupon.ok, Want.ok, Seg.ok, Person.ok, Charge.ok, inI, h]
theorem Aga : GC (exT 1) 5 = (exT 8, 0) := by simp [GC, exT, exC, Ha, DN, vUp, vTk]
theorem Agb : GC (exT 8) 5 = (Ticket.zero, 27) := by simp [GC, exT, exC, Ha, DN, vUp, vTk]
theorem ex1 : gOf aVd fVd [.agg [.int .i64 0, .str [], .str [], .str [], .str [], .list [[.str [], .int .i64 0, .int .i64 0, .str [], .str [], .int .i64 0, .int .i64 0, .str [], .str [], .int .i64 1, .int .i64 0]] false, .int .i64 0, .list [] false, .int .i64 0, .int .i64 5], .int .i64 5] = (HP (exT 1), .tup [.agg [.int .i64 0, .str [], .str [], .str [], .str [], .list [[.str [], .int .i64 0, .int .i64 0, .str [], .str [], .int .i64 0, .int .i64 0, .str [], .str [], .int .i64 8, .int .i64 0]] false, .int .i64 0, .list [] false, .int .i64 0, .int .i64 5], .int .i64 0]) := (Al RJ (exT 1, 5)).trans (by rw [fVd, Aga]; rfl)
theorem ex8 : gOf aVd fVd [.agg [.int .i64 0, .str [], .str [], .str [], .str [], .list [[.str [], .int .i64 0, .int .i64 0, .str [], .str [], .int .i64 0, .int .i64 0, .str [], .str [], .int .i64 8, .int .i64 0]] false, .int .i64 0, .list [] false, .int .i64 0, .int .i64 5], .int .i64 5] = (HP (exT 8), .tup [.agg [.int .i64 0, .str [], .str [], .str [], .str [], .list [] false, .int .i64 0, .list [] false, .int .i64 0, .int .i64 0], .int .i64 27]) := (Al RJ (exT 8, 5)).trans (by rw [fVd, Agb]; rfl)
theorem exK : gOf aTk KU [.agg [.int .i64 0, .str [], .str [], .str [], .str [], .list [[.str [], .int .i64 0, .int .i64 0, .str [], .str [], .int .i64 0, .int .i64 0, .str [], .str [], .int .i64 1, .int .i64 0]] false, .int .i64 0, .list [] false, .int .i64 0, .int .i64 5]] = (HP (exT 1), .list (Ax (HU (exT 1))) false) := Al RI (exT 1)
theorem Nv : (0 : Int) < ((HU (exT 1)).length : Int) := by
 rw [HU, Dr (b := !Dv (exT 1).number) (by decide)]
 simp only [Ai, Av]; omega
def tEx : Tab
 | 44 => (gOf aVd fVd)
 | 24 => (gOf aTk KU)
 | _ => gNo
theorem AlO : ∀ f, PU f (tEx f) := fun f => by
 unfold tEx
 split
 ·exact AnW
 ·exact Xv
 ·exact Ah.no
theorem Agc : PU 13 (gOf KD PJ) := by
 have hG := AlO
 have hk1 := Yq (s := 1) (by unfold inI; omega)
 have hk8 := Yq (s := 8) (by unfold inI; omega)
 refine YQ.a WK (by simp [KD]) ?_
 rintro ⟨⟩ hv C hN Q hQ
 have Z := YQ.R EF0 hG hN
 refine Aa (Z 0 rfl ?_)
 simp only [go_sem, simprocAttr, KD, tEx, ex1, ex8, exK, hk1, hk8, Nv]
 refine Aa (Z 1 rfl ?_)
 simp only [go_sem, simprocAttr, tEx, ex1, ex8, exK, hk1, hk8, Nv]
 refine AW.le (s' := ⟨mkE [(1, .ptr 1 0)], mkH ([(1, .box 47 [.int .i64 0, .str [], .str [], .str [], .str [], .list [[.str [], .int .i64 0, .int .i64 0, .str [], .str [], .int .i64 0, .int .i64 0, .str [], .str [], .int .i64 1, .int .i64 0]] false, .int .i64 0, .list [] false, .int .i64 0, .int .i64 5])])⟩) (Le.mk _ _ (by (simp only [go_sem, simprocAttr]) <;> and_intros <;> try exact leB) (by (simp only [go_sem, simprocAttr]) <;> and_intros <;> try exact leB) rfl) ?_
 refine Aa (Z 2 rfl ?_)
 simp only [go_sem, simprocAttr, tEx, ex1, ex8, exK, hk1, hk8, Nv]
 and_intros <;> try exact sdA
 refine Aa (Z 3 rfl ?_)
 simp only [go_sem, simprocAttr, tEx, ex1, ex8, exK, hk1, hk8, Nv]
 and_intros <;> try exact sdA
 refine Aa (Z 4 rfl ?_)
 simp only [go_sem, simprocAttr, tEx, ex1, ex8, exK, hk1, hk8, Nv]
 and_intros <;> try exact sdA
 refine Ad (hQ _ _ (.inl rfl) ?_ ?_ ?_) <;> simp only [go_sem, simprocAttr, PJ]
section
variable {P : Program}
end
section
variable {P : Program} {U : Tbl} {C : Ctx U} {G : Tab}
end
section
variable {P : Program} {U : Tbl} {C : Ctx U} {G : Tab} {ops : Array Oper} {Q : Exit -> St -> Prop} {s : St}
end
end Go.Proofs.YtjkclhbckfkeeaaGreatDoor
end
