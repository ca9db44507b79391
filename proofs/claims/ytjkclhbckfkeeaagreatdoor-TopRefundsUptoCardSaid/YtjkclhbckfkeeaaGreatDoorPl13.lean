import Derived.Test.YtjkclhbckfkeeaaGreatDoorRu10
import Derived.Test.YtjkclhbckfkeeaaGreatDoorSk
import Derived.Test.YtjkclhbckfkeeaaGreatDoorIs1
set_option linter.unusedSimpArgs false
set_option linter.unusedVariables false
set_option linter.deprecated false
set_option maxHeartbeats 8000000
noncomputable section
namespace Go.Proofs.YtjkclhbckfkeeaaGreatDoor
open Go Go.RowKit
def inn (a : List UInt8) (l : List Fault) : List Fault := l.map fun f => ⟨f.err, a ++ 32 :: f.pos⟩
theorem AaC (a : List UInt8) (l : List Fault) : (inn a l).length = l.length := Ac _
def rwF (n : Nat) (g : List Fault) : List (Nat × Ob) := [(n, .arr 126 2 (Az g))]
theorem Agz (g l : List Fault) (a : List UInt8) (hg : g.length + l.length <= 5500000000000) (ha : a.length <= 1000) (hs : FSm l) : Eff Tryz.prog UT 69 [.own 1000 g.length, .str a, .list (Az l) false] (rwF 1000 g) (.own 1000 (g ++ inn a l).length) (rwF 1000 (g ++ inn a l)) := by
 have hG := AJ
 unfold rwF
 refine ZG.e (by simp) fun C hN Q hQ => ?_
 have Z := ZG.R EF0 hG hN
 refine Ab (Z 0 rfl ?_)
 simp only [go_sem, simprocAttr]
 refine Ab (Ab (Z 1 rfl ?_))
 simp only [go_sem, simprocAttr]
 refine Ar ?_
 refine Bj (α := Nat × (List Fault)) (fun γ => (γ.1 <= l.length) /\ (γ.2 = g ++ inn a (l.take γ.1)) /\ (γ.2.length = g.length + γ.1)) (fun γ => ⟨mkE [(0, .own 1000 γ.2.length), (1, V.str a), (2, V.list (Az l) false), (7, .int .i64 γ.1)], mkH [(1000, .arr 126 2 (Az γ.2))]⟩) (fun γ => l.length - γ.1) (0, g) ⟨As _, by rw [HA]; exact (Br _).symm, rfl⟩ ?_ ?_
 ·exact leM
 rintro ⟨i, h⟩ ⟨hi, hh, hl⟩ KL0 hKL0
 try dsimp only at *
 refine Ab (Ab (Z 2 rfl ?_))
 simp only [go_sem, simprocAttr, EW]
 refine Ai rfl (fun hc2 => ?_) fun hc2 => ?_
 ·simp only [hcL] at hc2
  refine Ah ?_
  refine Ab (Ar ?_)
  have hp := hs _ (AI hc2)
  refine FG (EF := EF0) hG mixed (by rw [hN]; exact AmX) Ah3 ?_
  simp only [Rb, Xs, go_sem, simprocAttr, inI, AfW hc2, hc2, EW]
  and_intros <;> (try first | exact sdA | (simp only [An, Aw, Ax]; omega))
  refine Z 3 rfl ?_
  simp only [go_sem, simprocAttr, inI]
  and_intros <;> try exact sdA
  refine hKL0 (i + 1, h ++ [⟨l[i].err, a ++ 32 :: l[i].pos⟩]) _ ?_ ?_ ?_
  ·(try dsimp only); exact ⟨hc2, by rw [hh, Dm hc2, inn, inn, DO, EH]; rfl, by rw [An, hl]; rfl⟩
  ·(try dsimp only); omega
  refine Le.mk _ _ ?_ ?_ rfl <;> simp only [go_sem, simprocAttr, An, Aw, Ax, EH, DN, Ef] <;> and_intros <;> try exact leA
 simp only [hcL] at hc2
 obtain rfl : h = g ++ inn a l := by rw [hh, BR (by omega)]
 refine Be ?_
 simp only [go_sem, simprocAttr]
 refine Ab (Z 5 rfl ?_)
 simp only [go_sem, simprocAttr]
 refine Ag ?_
 show Q _ _
 refine hQ _ _ ⟨mkE [(6, .own 1000 (g ++ inn a l).length)], mkH ([(1000, .arr 126 2 (Az (g ++ inn a l)))])⟩ (.inl rfl) (Le.mk _ _ ?_ ?_ rfl) rfl ?_ ?_ <;> simp only [go_sem, simprocAttr]
theorem AaD {d : Option Nat} {s : St} {K : St -> Prop} {na : Nat} {g l : List Fault} {a : List UInt8} (hg : g.length + l.length <= 5500000000000) (ha : a.length <= 1000) (hs : FSm l) (hn : s.h na = some (.arr 126 2 (Az g)))
  (hK : K ⟨Cm d (.own na (g ++ inn a l).length) s.e, hov (rwF na (g ++ inn a l)) s.h⟩) : Dp Tryz.prog UT d 69 [.own na g.length, .str a, .list (Az l) false] s K := by
 refine ⟨[(1000, na)], [], _, _, _, _, Agz g l a hg ha hs, ⟨by simp [okL], rfl, rfl, by simp, by simp, ?_, by simp [V.rens, V.ren, rni], by simp [V.nins, V.nin], by simp [V.nin, rwF], ?_, ?_⟩, ?_⟩
 ·intro p hp
  simp only [AN, Dh, or_false] at hp
  subst hp
  exact ⟨_, hn, by simp [rwF, mkH, Ob.ren, BF (Gp _)], .inl (Gp _)⟩
 ·intro q hq
  simp only [rwF, AN, Dh, or_false] at hq
  subst hq
  exact .inl (Gp _)
 ·intro p hp o o' h1 h2
  simp only [AN, Dh, or_false] at hp
  subst hp
  simp [rwF, mkH] at h1 h2
  subst h1 h2
  simp [Ob.kind]
 ·have e1 : (V.own 1000 (g ++ inn a l).length).ren (rn ([(1000, na)] ++ [])) = .own na (g ++ inn a l).length := by simp [V.ren, rn]
  have e2 : (rwF 1000 (g ++ inn a l)).map (fun q : Nat × Ob => (rn ([(1000, na)] ++ []) q.1, q.2.ren (rn ([(1000, na)] ++ [])))) = rwF na (g ++ inn a l) := by simp [rwF, rn, Ob.ren, BF (Gp _)]
  rw [e1, e2]
  exact hK
theorem Ajs (a1 : Int) (k : Int) (l : List Cond) (a b x y z : Int) (t : List (List UInt8)) (a3 : List Int) (a4 a5 a6 a7 : Int) (a8 : List Pct) : gOf Hm (fun r => (RuleOk r, vF (Ik r))) [.agg [.int .i64 a1, .int .i64 k, .list (l.map Cond.enc) false, .int .i64 a, .int .i64 b, .int .i64 x, .int .i64 y, .int .i64 z, .list (strs t) false, .list (Ao a3) false, .int .i64 a4, .int .i64 a5, .int .i64 a6, .int .i64 a7, .list (a8.map Pct.enc) false]] = (RuleOk ⟨a1, .mk k l a b ⟨x, y, z⟩ t, a3, a4, a5, a6, a7, a8⟩, .list (Az (Ik ⟨a1, .mk k l a b ⟨x, y, z⟩ t, a3, a4, a5, a6, a7, a8⟩)) false) := by
 rw [<- Rule.enc_at]; exact Ajt _
theorem AfR (n : Int) (l : List Link) (m : Int) : gOf aRg fRg [.agg [.int .i64 n, .list (l.map Link.enc) false, .int .i64 m]] = ((Routing.mk n l m).ok /\ l.length <= 1000000, .list (Az (Mf ⟨n, l, m⟩)) false) := Al VS ⟨n, l, m⟩
theorem AaQ (l : List Link) : ∀ n, (Fw l n).length <= 3 * n /\ (n <= 1000000 -> FSm (Fw l n))
 | 0 => ⟨AF _, fun _ => FSm.nil⟩
 | n + 1 => by
  obtain ⟨h1, h2⟩ := AaQ l n
  refine ⟨?_, fun hn => ?_⟩
  ·rw [Fw, LV, An, An, An]
   have a1 := Ig (lkA (l.getD n Link.zero)) 5 (sLk ++ dec n)
   have a2 := Ig (decide ((l.getD n Link.zero).from' = (l.getD n Link.zero).to')) 2 (sLk ++ dec n)
   have a3 := Ig (lkC l n (l.getD n Link.zero)) 6 (sLk ++ dec n)
   omega
  ·have hp : (sLk ++ dec (n : Int)).length <= 1000 := No (by decide) (Id (by omega))
   rw [Fw, LV]
   exact (h2 (by omega)).app (((FSm.nil.fif hp).fif hp).fif hp)
theorem Ajo (r : Routing) : (Mf r).length <= 400 /\ FSm (Mf r) := by
 have hm : (if (r.links.length : Int) <= 128 then Fw r.links r.links.length else []).length <= 384 /\ FSm (if (r.links.length : Int) <= 128 then Fw r.links r.links.length else []) := by
  split
  ·have := AaQ r.links r.links.length
   exact ⟨by omega, this.2 (by omega)⟩
  ·exact ⟨by simp, FSm.nil⟩
 unfold Mf
 refine ⟨?_, (((FSm.nil.fif (by decide)).fif (by decide)).app hm.2).fif (by decide)⟩
 rw [An, An, An]
 have a1 := Ig (decide (r.number < 1) || decide (9999 < r.number)) 2 Qo
 have a2 := Ig (decide (128 < (r.links.length : Int))) 4 Qm
 have a3 := Ig (decide (r.miles < 0) || decide (99999 < r.miles)) 2 Qn
 have := hm.1
 omega
def aPT := ar (vg Places.enc) (ao (vg Tariff.enc))
theorem VC : Ij aPT := ijr (ijg Places.inj) (ijo (ijg Tariff.inj))
def Ms (r : Rule) : Prop := ∀ x ∈ r.pcts, KU x
def JA (t : Tariff) : Prop := (∀ f ∈ t.fares, KT f) /\ ∀ r ∈ t.rules, Ms r
def RTa (x : Places × Tariff) (g : List Fault) : Prop := g.length <= 140737488355328 /\ (g = [] -> JA x.2)
def sFs : List UInt8 := [102, 97, 114, 101, 115]
def sFr : List UInt8 := [102, 97, 114, 101, 32]
def sRu : List UInt8 := [114, 117, 108, 101, 32]
def sRo : List UInt8 := [114, 111, 117, 116, 105, 110, 103, 32]
def EFi : Nat -> Bool := fun f => f == 69
theorem Mo {α : Type} {p : α -> Prop} {l : List α} {i : Nat} (h : ∀ x ∈ l.take i, p x) (hi : i < l.length) (hp : p l[i]) : ∀ x ∈ l.take (i + 1), p x := fun x hx => by
 rw [Dm hi] at hx
 rcases BT.1 hx with hx | hx
 ·exact h x hx
 ·rw [Bp.1 hx]; exact hp
def tTa : Tab
 | 67 => (gOf JF fun x => (LnP x.1 /\ TarOk x.2.1 /\ x.2.2.ok, vL (fFa x)))
 | 68 => Im
 | 70 => (gOf Hm fun r => (RuleOk r, vF (Ik r)))
 | 71 => (gOf aRg fRg)
 | _ => gNo
theorem Al5 : ∀ f, PU f (tTa f) := fun f => by
 unfold tTa
 split
 ·exact AfV
 ·exact NW
 ·exact Aju
 ·exact Ajk
 ·exact Aj.no
theorem UG : ∃ F : Places × Tariff -> List Fault, (∀ x, LnP x.1 /\ TarOk x.2 -> RTa x (F x)) /\ PU 28 (gOf aPT fun x => (LnP x.1 /\ TarOk x.2, vF (F x))) := by
 have hG := Al5
 refine Sw.p (val := vF) (R := RTa) VC (by simp [aPT]) ?_
 rintro ⟨⟨ps, ds⟩, ⟨fs, rs, gs, xs⟩⟩ hv Q hQ
 have Y := Sw.E EFi hG mixed
 have Z := Sw.T EFi hG
 obtain ⟨h1, h2⟩ : LnP ⟨ps, ds⟩ /\ TarOk ⟨fs, rs, gs, xs⟩ := hv
 obtain ⟨o1, o2, o3, o4, o5, o6, o7, o8⟩ := id h2
 dsimp only at o1 o2 o3 o4 o5 o6 o7 o8
 refine Aa (Z 0 rfl ?_)
 simp only [go_sem, simprocAttr, aPT, Places.enc, Tariff.enc, tTa, EFi, AC]
 refine Aa (Z 1 rfl ?_)
 simp only [go_sem, simprocAttr, tTa, EFi, AC]
 refine TC.le (s' := ⟨mkE [(2, .ptr 2 0), (3, .ptr 3 0), (5, .own 999 0)], mkH ([(2, .box 25 [.list (ps.map Airport.enc) false, .list (ds.map Distance.enc) false]), (3, .box 31 [.list (fs.map Fare.enc) false, .list (rs.map Rule.enc) false, .list (gs.map Routing.enc) false, .list (xs.map Tax.enc) false]), (999, .arr 126 2 (Az []))])⟩) (Le.mk _ _ (by (simp only [go_sem, simprocAttr]) <;> and_intros <;> try exact leB) (by (simp only [go_sem, simprocAttr]) <;> and_intros <;> try exact leB) rfl) ?_
 refine DT (α := (List Fault)) (fun g1 => (g1 = ([] : List Fault) ++ fIf (decide (512 < (fs.length : Int))) 4 (sFs)) /\ (g1.length <= ([] : List Fault).length + 1)) (fun g1 => ⟨mkE [(2, V.ptr 2 0), (3, V.ptr 3 0), (5, .own 999 g1.length)], mkH [(2, Ob.box 25 [V.list (List.map Airport.enc ps) false, V.list (List.map Distance.enc ds) false]), (3, Ob.box 31 [V.list (List.map Fare.enc fs) false, V.list (List.map Rule.enc rs) false, V.list (List.map Routing.enc gs) false, V.list (List.map Tax.enc xs) false]), (999, .arr 126 2 (Az g1))]⟩) ?_ ?_
 ·intro KC2 hKC2
  refine Aa (Z 2 rfl ?_)
  simp only [go_sem, simprocAttr, Ac, tTa, EFi, AC]
  refine Ad rfl (fun hb2 => ?_) fun hb2 => ?_
  ·refine Z 3 rfl ?_
   simp only [go_sem, simprocAttr, tTa, EFi, AC]
   and_intros <;> try exact sdA
   refine hKC2 (([] : List Fault) ++ [⟨4, sFs⟩]) _ ?_ ?_
   ·(try dsimp only); exact ⟨by rw [Du (show (decide (512 < (fs.length : Int))) = true from hb2)], by simp⟩
   refine Le.mk _ _ ?_ ?_ rfl <;> simp only [go_sem, simprocAttr, An, Aw, Ax] <;> and_intros <;> try exact leA
  refine Af ?_
  refine hKC2 (([] : List Fault)) _ ?_ ?_
  ·(try dsimp only); exact ⟨by rw [Dt (show (decide (512 < (fs.length : Int))) = false from hb2), Br], by omega⟩
  exact leM
 rintro g1 ⟨hg1, lg1⟩
 replace lg1 : g1.length <= 1 := lg1
 refine Aa (Aa (Z 4 rfl ?_))
 simp only [go_sem, simprocAttr, tTa, EFi, AC]
 refine Aq ?_
 refine Ba (α := Nat × (List Fault)) (fun γ => (γ.1 <= fs.length) /\ (γ.2.length <= 1 + 6 * γ.1) /\ (γ.2 = [] -> ∀ z ∈ fs.take γ.1, KT z)) (fun γ => ⟨mkE [(2, V.ptr 2 0), (3, V.ptr 3 0), (5, .own 999 γ.2.length), (6, .int .i64 γ.1)], mkH [(2, Ob.box 25 [V.list (List.map Airport.enc ps) false, V.list (List.map Distance.enc ds) false]), (3, Ob.box 31 [V.list (List.map Fare.enc fs) false, V.list (List.map Rule.enc rs) false, V.list (List.map Routing.enc gs) false, V.list (List.map Tax.enc xs) false]), (999, .arr 126 2 (Az γ.2))]⟩) (fun γ => fs.length - γ.1) (0, g1) ⟨As _, by omega, fun _ z hz => nomatch hz⟩ ?_ ?_
 ·exact leM
 rintro ⟨i, g⟩ ⟨hi, hg, hk⟩ KL0 hKL0
 try dsimp only at *
 refine Aa (Aa (Z 5 rfl ?_))
 simp only [go_sem, simprocAttr, Ac, tTa, EFi, AC]
 refine Ad rfl (fun hc5 => ?_) fun hc5 => ?_
 ·simp only [hcL] at hc5
  refine Af ?_
  refine Aa (Aq ?_)
  obtain ⟨⟨ca, fr, to, ba, cl, rd, am, ru, rg⟩, hf⟩ : ∃ f, f = fs[i] := ⟨_, rfl⟩
  have hfo := o5 _ (AI hc5)
  rw [<- hf] at hfo
  obtain ⟨hL1, hL2⟩ := AfT (⟨ps, ds⟩, ⟨fs, rs, gs, xs⟩, ⟨ca, fr, to, ba, cl, rd, am, ru, rg⟩) ⟨h1, h2, hfo⟩
  obtain ⟨L, hL⟩ : ∃ L, L = fFa (⟨ps, ds⟩, ⟨fs, rs, gs, xs⟩, ⟨ca, fr, to, ba, cl, rd, am, ru, rg⟩) := ⟨_, rfl⟩
  rw [<- hL] at hL1 hL2
  refine Aa (Y 7 rfl (by kernel_rfl) ?_)
  simp only [go_sem, simprocAttr, Ap _ _ _ _ hc5, hc5, Ac, <- hf, Fare.enc, AfU, h1, h2, hfo, <- hL, tTa, EFi, AC]
  and_intros <;> try exact sdA
  refine Aa (Z 8 rfl ?_)
  simp only [go_sem, simprocAttr, tTa, EFi, AC]
  refine Aq ?_
  refine Ba (α := Nat × (List Fault)) (fun γ => (γ.1 <= L.length) /\ (γ.2.length = g.length + γ.1)) (fun γ => ⟨mkE [(2, V.ptr 2 0), (3, V.ptr 3 0), (5, .own 999 γ.2.length), (6, V.int IntKind.i64 ↑i), (7, V.list (Ao L) false), (8, .int .i64 γ.1)], mkH [(2, Ob.box 25 [V.list (List.map Airport.enc ps) false, V.list (List.map Distance.enc ds) false]), (3, Ob.box 31 [V.list (List.map Fare.enc fs) false, V.list (List.map Rule.enc rs) false, V.list (List.map Routing.enc gs) false, V.list (List.map Tax.enc xs) false]), (999, .arr 126 2 (Az γ.2))]⟩) (fun γ => L.length - γ.1) (0, g) ⟨As _, rfl⟩ ?_ ?_
  ·exact leM
  rintro ⟨j, h⟩ ⟨hj, hh⟩ KL2 hKL2
  try dsimp only at *
  refine Aa (Aa (Z 9 rfl ?_))
  simp only [go_sem, simprocAttr, AG, tTa, EFi, AC]
  refine Ad rfl (fun hc9 => ?_) fun hc9 => ?_
  ·simp only [hcL] at hc9
   refine Af ?_
   refine Aa (Aq ?_)
   have hd := Id (i := i) (by omega)
   have hi2 := Je (i := i) (by omega)
   refine FA (EF := EFi) hG mixed AmR AhX ?_
   simp only [QV, Xm, go_sem, simprocAttr, inI, EY _ _ _ hc9, hc9, AG, hi2, tTa, EFi, AC]
   and_intros <;> try exact sdA
   refine Z 10 rfl ?_
   simp only [go_sem, simprocAttr, inI, tTa, EFi, AC]
   and_intros <;> try exact sdA
   refine hKL2 (j + 1, h ++ [⟨L[j], sFr ++ dec i⟩]) _ ?_ ?_ ?_
   ·(try dsimp only); exact ⟨hc9, by rw [An, hh]; rfl⟩
   ·(try dsimp only); omega
   refine Le.mk _ _ ?_ ?_ rfl <;> simp only [go_sem, simprocAttr, An, Aw, Ax] <;> and_intros <;> try exact leA
  simp only [hcL] at hc9
  refine AX ?_
  simp only [go_sem, simprocAttr]
  refine Z 6 rfl ?_
  simp only [go_sem, simprocAttr, inI, tTa, EFi, AC]
  and_intros <;> try exact sdA
  refine hKL0 (i + 1, h) _ ?_ ?_ ?_
  ·(try dsimp only); exact ⟨by omega, by omega, fun e => Mo (hk (List.eq_nil_of_length_eq_zero (by rw [e] at hh; simp at hh; omega))) (by assumption) (by rw [<- hf]; exact hL2 (List.eq_nil_of_length_eq_zero (by rw [e] at hh; simp at hh; omega)))⟩
  ·(try dsimp only); omega
  exact leM
 simp only [hcL] at hc5
 have hk0 : g = [] -> ∀ z ∈ fs, KT z := fun e => by have := hk e; rwa [BR (by omega)] at this
 have hg0 : g.length <= 7000001 + 5200000 * 0 := by omega
 have hp0 : g = [] -> (∀ z ∈ fs, KT z) /\ ∀ z ∈ rs.take 0, Ms z := fun e => ⟨hk0 e, fun z hz => by simp at hz⟩
 refine AX ?_
 simp only [go_sem, simprocAttr]
 refine Aa (Aa (Z 12 rfl ?_))
 simp only [go_sem, simprocAttr, tTa, EFi, AC]
 refine Aq ?_
 refine Ba (α := Nat × (List Fault)) (fun γ => (γ.1 <= rs.length) /\ (γ.2.length <= 7000001 + 5200000 * γ.1) /\ (γ.2 = [] -> (∀ z ∈ fs, KT z) /\ ∀ z ∈ rs.take γ.1, Ms z)) (fun γ => ⟨mkE [(3, V.ptr 3 0), (5, .own 999 γ.2.length), (9, .int .i64 γ.1)], mkH [(3, Ob.box 31 [V.list (List.map Fare.enc fs) false, V.list (List.map Rule.enc rs) false, V.list (List.map Routing.enc gs) false, V.list (List.map Tax.enc xs) false]), (999, .arr 126 2 (Az γ.2))]⟩) (fun γ => rs.length - γ.1) (0, g) ⟨As _, hg0, hp0⟩ ?_ ?_
 ·exact leM
 rintro ⟨i, g⟩ ⟨hi, hg, hk⟩ KL4 hKL4
 try dsimp only at *
 refine Aa (Aa (Z 13 rfl ?_))
 simp only [go_sem, simprocAttr, Ac, tTa, EFi, AC]
 refine Ad rfl (fun hc13 => ?_) fun hc13 => ?_
 ·simp only [hcL] at hc13
  refine Af ?_
  refine Aa (Aq ?_)
  have hd := Id (i := i) (by omega)
  have hi2 := Je (i := i) (by omega)
  have hp8 : (sRu ++ dec i).length <= 1000 := No (by decide) hd
  obtain ⟨⟨a1, ⟨k, l, a, b, ⟨x, y, z⟩, t⟩, a3, a4, a5, a6, a7, a8⟩, hr⟩ : ∃ r, r = rs[i] := ⟨_, rfl⟩
  have hro := o6 _ (AI hc13)
  rw [<- hr] at hro
  obtain ⟨hR1, hR2, hR3⟩ := Ajr _ hro
  have hR4 : a3.length <= 1048576 := hro.c
  have hR5 : a8.length <= 1000000 := hro.p.1
  obtain ⟨L, hL⟩ : ∃ L, L = Ik ⟨a1, .mk k l a b ⟨x, y, z⟩ t, a3, a4, a5, a6, a7, a8⟩ := ⟨_, rfl⟩
  rw [<- hL] at hR1 hR2 hR3
  dsimp only at hR1
  refine Aa (Z 15 rfl ?_)
  simp only [go_sem, simprocAttr, inI, hi2, tTa, EFi, AC]
  and_intros <;> try exact sdA
  refine Aa (Aa (Z 16 rfl ?_))
  simp only [go_sem, simprocAttr, tTa, EFi, AC]
  refine Aq ?_
  refine Ba (α := Nat × Bool) (fun γ => (γ.1 <= i)) (fun γ => ⟨mkE [(3, V.ptr 3 0), (5, V.own 999 g.length), (9, V.int IntKind.i64 ↑i), (10, V.str (114 :: 117 :: 108 :: 101 :: 32 :: dec ↑i)), (11, .bool γ.2), (12, .int .i64 γ.1)], mkH [(3, Ob.box 31 [V.list (List.map Fare.enc fs) false, V.list (List.map Rule.enc rs) false, V.list (List.map Routing.enc gs) false, V.list (List.map Tax.enc xs) false]), (999, Ob.arr 126 2 (Az g))]⟩) (fun γ => i - γ.1) (0, false) (As _) ?_ ?_
  ·exact leM
  rintro ⟨j, tw⟩ hj KL6 hKL6
  try dsimp only at *
  refine Aa (Aa (Z 17 rfl ?_))
  simp only [go_sem, simprocAttr, tTa, EFi, AC]
  refine Ad rfl (fun hc17 => ?_) fun hc17 => ?_
  ·simp only [hcL] at hc17
   refine Af ?_
   refine Aa (Aq ?_)
   have hjl : j < rs.length := by omega
   obtain ⟨⟨b1, ⟨bk, bl, ba, bb, ⟨bx, bY, bz⟩, bt⟩, b3, b4, b5, b6, b7, b8⟩, hb⟩ : ∃ r, r = rs[j] := ⟨_, rfl⟩
   refine Y 19 rfl (by kernel_rfl) ?_
   simp only [go_sem, simprocAttr, Ap _ _ _ _ hc13, Ap _ _ _ _ hjl, hc13, hjl, Ac, <- hr, <- hb, Rule.enc_at, tTa, EFi, AC]
   and_intros <;> try exact sdA
   refine Z 18 rfl ?_
   simp only [go_sem, simprocAttr, inI, tTa, EFi, AC]
   and_intros <;> try exact sdA
   refine hKL6 (j + 1, (tw || decide (b1 = a1))) _ ?_ ?_ ?_
   ·(try dsimp only); omega
   ·(try dsimp only); omega
   exact leM
  simp only [hcL] at hc17
  refine AX ?_
  simp only [go_sem, simprocAttr]
  refine DT (α := (List Fault)) (fun f1 => (f1 = g ++ fIf (tw) 6 (sRu ++ dec i)) /\ (f1.length <= g.length + 1)) (fun f1 => ⟨mkE [(3, V.ptr 3 0), (5, .own 999 f1.length), (9, V.int IntKind.i64 ↑i), (10, V.str (114 :: 117 :: 108 :: 101 :: 32 :: dec ↑i))], mkH [(3, Ob.box 31 [V.list (List.map Fare.enc fs) false, V.list (List.map Rule.enc rs) false, V.list (List.map Routing.enc gs) false, V.list (List.map Tax.enc xs) false]), (999, .arr 126 2 (Az f1))]⟩) ?_ ?_
  ·intro KC20 hKC20
   refine Aa (Z 20 rfl ?_)
   simp only [go_sem, simprocAttr, tTa, EFi, AC]
   refine Ad rfl (fun hb20 => ?_) fun hb20 => ?_
   ·refine Z 21 rfl ?_
    simp only [go_sem, simprocAttr, tTa, EFi, AC]
    and_intros <;> try exact sdA
    refine hKC20 (g ++ [⟨6, sRu ++ dec i⟩]) _ ?_ ?_
    ·(try dsimp only); exact ⟨by rw [Du (show (tw) = true from hb20)], by simp⟩
    refine Le.mk _ _ ?_ ?_ rfl <;> simp only [go_sem, simprocAttr, An, Aw, Ax] <;> and_intros <;> try exact leA
   refine Af ?_
   refine hKC20 (g) _ ?_ ?_
   ·(try dsimp only); exact ⟨by rw [Dt (show (tw) = false from hb20), Br], by omega⟩
   exact leM
  rintro f1 ⟨hf1, lf1⟩
  refine Z 22 rfl ?_
  simp only [go_sem, simprocAttr, Ap _ _ _ _ hc13, hc13, Ac, <- hr, Rule.enc_at, Ajs, hro, <- hL, tTa, EFi, AC]
  refine AaD (na := 999) (g := f1) (l := L) (a := sRu ++ dec i) (by omega) hp8 hR3 rfl ?_
  simp only [go_sem, simprocAttr, rwF]
  refine Z 14 rfl ?_
  simp only [go_sem, simprocAttr, inI, tTa, EFi, AC]
  and_intros <;> try exact sdA
  refine hKL4 (i + 1, f1 ++ inn (sRu ++ dec i) L) _ ?_ ?_ ?_
  ·(try dsimp only); exact ⟨hc13, by rw [An, AaC]; omega, fun e => by obtain ⟨e1, e2⟩ := Gs.1 e; rw [hf1] at e1; exact ⟨(hk (Gs.1 e1).1).1, Mo (hk (Gs.1 e1).1).2 hc13 (by rw [<- hr]; exact hR2 (Nr.1 e2))⟩⟩
  ·(try dsimp only); omega
  exact leM
 simp only [hcL] at hc13
 have hk0 : g = [] -> JA ⟨fs, rs, gs, xs⟩ := fun e => by have := hk e; rwa [BR (by omega)] at this
 have hg0 : g.length <= 5300000000000 + 500 * 0 := by omega
 refine AX ?_
 simp only [go_sem, simprocAttr]
 refine Aa (Aa (Z 23 rfl ?_))
 simp only [go_sem, simprocAttr, tTa, EFi, AC]
 refine Aq ?_
 refine Ba (α := Nat × (List Fault)) (fun γ => (γ.1 <= gs.length) /\ (γ.2.length <= 5300000000000 + 500 * γ.1) /\ (γ.2 = [] -> JA ⟨fs, rs, gs, xs⟩)) (fun γ => ⟨mkE [(3, V.ptr 3 0), (5, .own 999 γ.2.length), (13, .int .i64 γ.1)], mkH [(3, Ob.box 31 [V.list (List.map Fare.enc fs) false, V.list (List.map Rule.enc rs) false, V.list (List.map Routing.enc gs) false, V.list (List.map Tax.enc xs) false]), (999, .arr 126 2 (Az γ.2))]⟩) (fun γ => gs.length - γ.1) (0, g) ⟨As _, hg0, hk0⟩ ?_ ?_
 ·exact leM
 rintro ⟨i, g⟩ ⟨hi, hg, hk⟩ KL8 hKL8
 try dsimp only at *
 refine Aa (Aa (Z 24 rfl ?_))
 simp only [go_sem, simprocAttr, Ac, tTa, EFi, AC]
 refine Ad rfl (fun hc24 => ?_) fun hc24 => ?_
 ·simp only [hcL] at hc24
  refine Af ?_
  refine Aa (Aq ?_)
  have hd := Id (i := i) (by omega)
  have hi2 := Je (i := i) (by omega)
  have hp8 : (sRo ++ dec i).length <= 1000 := No (by decide) hd
  obtain ⟨⟨a1, a2, a3⟩, hr⟩ : ∃ r, r = gs[i] := ⟨_, rfl⟩
  have hro := o7 _ (AI hc24)
  rw [<- hr] at hro
  obtain ⟨hR1, hR3⟩ := Ajo ⟨a1, a2, a3⟩
  obtain ⟨L, hL⟩ : ∃ L, L = Mf ⟨a1, a2, a3⟩ := ⟨_, rfl⟩
  rw [<- hL] at hR1 hR3
  refine Aa (Z 26 rfl ?_)
  simp only [go_sem, simprocAttr, inI, hi2, tTa, EFi, AC]
  and_intros <;> try exact sdA
  refine Aa (Aa (Z 27 rfl ?_))
  simp only [go_sem, simprocAttr, tTa, EFi, AC]
  refine Aq ?_
  refine Ba (α := Nat × Bool) (fun γ => (γ.1 <= i)) (fun γ => ⟨mkE [(3, V.ptr 3 0), (5, V.own 999 g.length), (13, V.int IntKind.i64 ↑i), (14, V.str (114 :: 111 :: 117 :: 116 :: 105 :: 110 :: 103 :: 32 :: dec ↑i)), (15, .bool γ.2), (16, .int .i64 γ.1)], mkH [(3, Ob.box 31 [V.list (List.map Fare.enc fs) false, V.list (List.map Rule.enc rs) false, V.list (List.map Routing.enc gs) false, V.list (List.map Tax.enc xs) false]), (999, Ob.arr 126 2 (Az g))]⟩) (fun γ => i - γ.1) (0, false) (As _) ?_ ?_
  ·exact leM
  rintro ⟨j, tw⟩ hj KL10 hKL10
  try dsimp only at *
  refine Aa (Aa (Z 28 rfl ?_))
  simp only [go_sem, simprocAttr, tTa, EFi, AC]
  refine Ad rfl (fun hc28 => ?_) fun hc28 => ?_
  ·simp only [hcL] at hc28
   refine Af ?_
   refine Aa (Aq ?_)
   have hjl : j < gs.length := by omega
   obtain ⟨⟨b1, b2, b3⟩, hb⟩ : ∃ r, r = gs[j] := ⟨_, rfl⟩
   refine Y 30 rfl (by kernel_rfl) ?_
   simp only [go_sem, simprocAttr, Ap _ _ _ _ hc24, Ap _ _ _ _ hjl, hc24, hjl, Ac, <- hr, <- hb, Routing.enc, tTa, EFi, AC]
   and_intros <;> try exact sdA
   refine Z 29 rfl ?_
   simp only [go_sem, simprocAttr, inI, tTa, EFi, AC]
   and_intros <;> try exact sdA
   refine hKL10 (j + 1, (tw || decide (b1 = a1))) _ ?_ ?_ ?_
   ·(try dsimp only); omega
   ·(try dsimp only); omega
   exact leM
  simp only [hcL] at hc28
  refine AX ?_
  simp only [go_sem, simprocAttr]
  refine DT (α := (List Fault)) (fun f1 => (f1 = g ++ fIf (tw) 6 (sRo ++ dec i)) /\ (f1.length <= g.length + 1)) (fun f1 => ⟨mkE [(3, V.ptr 3 0), (5, .own 999 f1.length), (13, V.int IntKind.i64 ↑i), (14, V.str (114 :: 111 :: 117 :: 116 :: 105 :: 110 :: 103 :: 32 :: dec ↑i))], mkH [(3, Ob.box 31 [V.list (List.map Fare.enc fs) false, V.list (List.map Rule.enc rs) false, V.list (List.map Routing.enc gs) false, V.list (List.map Tax.enc xs) false]), (999, .arr 126 2 (Az f1))]⟩) ?_ ?_
  ·intro KC31 hKC31
   refine Aa (Z 31 rfl ?_)
   simp only [go_sem, simprocAttr, tTa, EFi, AC]
   refine Ad rfl (fun hb31 => ?_) fun hb31 => ?_
   ·refine Z 32 rfl ?_
    simp only [go_sem, simprocAttr, tTa, EFi, AC]
    and_intros <;> try exact sdA
    refine hKC31 (g ++ [⟨6, sRo ++ dec i⟩]) _ ?_ ?_
    ·(try dsimp only); exact ⟨by rw [Du (show (tw) = true from hb31)], by simp⟩
    refine Le.mk _ _ ?_ ?_ rfl <;> simp only [go_sem, simprocAttr, An, Aw, Ax] <;> and_intros <;> try exact leA
   refine Af ?_
   refine hKC31 (g) _ ?_ ?_
   ·(try dsimp only); exact ⟨by rw [Dt (show (tw) = false from hb31), Br], by omega⟩
   exact leM
  rintro f1 ⟨hf1, lf1⟩
  refine Z 33 rfl ?_
  simp only [go_sem, simprocAttr, Ap _ _ _ _ hc24, hc24, Ac, <- hr, Routing.enc, AfR, hro.1, hro.2, <- hL, tTa, EFi, AC]
  refine AaD (na := 999) (g := f1) (l := L) (a := sRo ++ dec i) (by omega) hp8 hR3 rfl ?_
  simp only [go_sem, simprocAttr, rwF]
  refine Z 25 rfl ?_
  simp only [go_sem, simprocAttr, inI, tTa, EFi, AC]
  and_intros <;> try exact sdA
  refine hKL8 (i + 1, f1 ++ inn (sRo ++ dec i) L) _ ?_ ?_ ?_
  ·(try dsimp only); exact ⟨hc24, by rw [An, AaC]; omega, fun e => by obtain ⟨e1, e2⟩ := Gs.1 e; rw [hf1] at e1; exact hk (Gs.1 e1).1⟩
  ·(try dsimp only); omega
  exact leM
 simp only [hcL] at hc24
 refine AX ?_
 simp only [go_sem, simprocAttr]
 refine Aa (Z 34 rfl ?_)
 simp only [go_sem, simprocAttr, tTa, EFi, AC]
 refine TC.le (s' := ⟨mkE [(4, .list (Az g) false)], mkH []⟩) (Le.mk _ _ ?_ ?_ rfl) (Ae (hQ _ _ (.inl rfl) ?_ ?_ ?_)) <;> simp only [go_sem, simprocAttr, vF]
 ·exact DA rfl (by rw [EW]) rfl (Gp _)
 exact ⟨g, rfl, by omega, hk⟩
def fTa : Places × Tariff -> List Fault := UG.choose
theorem Amh : ∀ x : Places × Tariff, LnP x.1 /\ TarOk x.2 -> RTa x (fTa x) := UG.choose_spec.1
theorem Ami : PU 28 (gOf aPT fun x => (LnP x.1 /\ TarOk x.2, vF (fTa x))) := UG.choose_spec.2
theorem Mn (ps : List Airport) (ds : List Distance) (a : List Fare) (b : List Rule) (c : List Routing) (d : List Tax) : gOf aPT (fun x => (LnP x.1 /\ TarOk x.2, vF (fTa x))) [.agg [.list (ps.map Airport.enc) false, .list (ds.map Distance.enc) false], .agg [.list (a.map Fare.enc) false, .list (b.map Rule.enc) false, .list (c.map Routing.enc) false, .list (d.map Tax.enc) false]] = (LnP ⟨ps, ds⟩ /\ TarOk ⟨a, b, c, d⟩, .list (Az (fTa (⟨ps, ds⟩, ⟨a, b, c, d⟩))) false) := Al (F := fun x => (LnP x.1 /\ TarOk x.2, vF (fTa x))) VC (⟨ps, ds⟩, ⟨a, b, c, d⟩)
def aRT := ar (vg Rule.enc) (ao (vg Trip.enc))
theorem VP : Ij aRT := ijr (ijg Rule.inj) (ijo (ijg Trip.inj))
def AlP (x : Rule × Trip) : Prop := RuleOk x.1 /\ TrpOk x.2
def tAl : Tab
 | 159 => (gOf aHT fun x => (HoP x, vBB (fHo x)))
 | _ => gNo
theorem Ak8 : ∀ f, PU f (tAl f) := fun f => by
 unfold tAl
 split
 ·exact Ago
 ·exact Aj.no
theorem Wx : ∃ F : Rule × Trip -> Int, (∀ x, AlP x -> RT x (F x)) /\ PU 96 (gOf aRT fun x => (AlP x, vII (F x))) := by
 have hG := Ak8
 refine Aac.p (val := vII) (R := RT) VP (by simp [aRT]) ?_
 rintro ⟨⟨a1, ⟨k, l, a, b, ⟨x, y, z⟩, t⟩, a3, a4, a5, a6, a7, a8⟩, ⟨t1, t2, t3, t4, t5, t6, t7, t8, t9⟩⟩ hv Q hQ
 have Z := Aac.T EF0 hG
 obtain ⟨h1, h2⟩ : AlP (⟨a1, .mk k l a b ⟨x, y, z⟩ t, a3, a4, a5, a6, a7, a8⟩, ⟨t1, t2, t3, t4, t5, t6, t7, t8, t9⟩) := hv
 have hH : HoP (.mk k l a b ⟨x, y, z⟩ t, ⟨t1, t2, t3, t4, t5, t6, t7, t8, t9⟩) := ⟨h1.w, h2⟩
 refine Aa (Z 0 rfl ?_)
 simp only [go_sem, simprocAttr, aRT, Rule.enc_at, Trip.enc, tAl, PF, hH]
 refine Aa (Aa (Z 1 rfl ?_))
 simp only [go_sem, simprocAttr, tAl, PF, hH]
 and_intros <;> try exact sdA
 refine Ad rfl (fun hc1 => ?_) fun hc1 => ?_
 ·refine Aa (Z 2 rfl ?_)
  simp only [go_sem, simprocAttr, tAl, PF, hH]
  refine Ae (hQ _ _ (.inl rfl) ?_ ?_ ?_) <;> simp only [go_sem, simprocAttr, vII]
  exact ⟨_, rfl, trivial⟩
 refine Af ?_
 refine Aa (Z 3 rfl ?_)
 simp only [go_sem, simprocAttr, tAl, PF, hH]
 refine Ae (hQ _ _ (.inl rfl) ?_ ?_ ?_) <;> simp only [go_sem, simprocAttr, vII]
 exact ⟨_, rfl, trivial⟩
def fAl : Rule × Trip -> Int := Wx.choose
theorem Ad6 : PU 96 (gOf aRT fun x => (AlP x, vII (fAl x))) := Wx.choose_spec.2
def aRN := ar (vg Rule.enc) (ao vi)
theorem VN : Ij aRN := ijr (ijg Rule.inj) (ijo iji)
def RuP (x : Rule × Int) : Prop := RuleOk x.1
theorem Aa5 : ∃ F : Rule × Int -> Bool, (∀ x, RuP x -> RT x (F x)) /\ PU 199 (gOf aRN fun x => (RuP x, vBB (F x))) := by
 have hG := AJ
 refine YT.p (val := vBB) (R := RT) VN (by simp [aRN]) ?_
 rintro ⟨⟨a1, ⟨k, l, a, b, ⟨x, y, z⟩, t⟩, a3, a4, a5, a6, a7, a8⟩, n⟩ hv Q hQ
 have Z := YT.T EF0 hG
 have h1 : a3.length <= 1048576 := (show RuleOk _ from hv).c
 refine Aa (Z 0 rfl ?_)
 simp only [go_sem, simprocAttr, aRN, Rule.enc_at]
 refine Aa (Aa (Z 1 rfl ?_))
 simp only [go_sem, simprocAttr]
 refine Aq ?_
 refine Ba (α := Nat) (fun i => (i <= a3.length)) (fun i => ⟨mkE [(1, V.int IntKind.i64 n), (2, V.ptr 2 0), (5, .int .i64 i)], mkH [(2, Ob.box 135 [V.int IntKind.i64 a1, V.int IntKind.i64 k, V.list (List.map Cond.enc l) false, V.int IntKind.i64 a, V.int IntKind.i64 b, V.int IntKind.i64 x, V.int IntKind.i64 y, V.int IntKind.i64 z, V.list (strs t) false, V.list (Ao a3) false, V.int IntKind.i64 a4, V.int IntKind.i64 a5, V.int IntKind.i64 a6, V.int IntKind.i64 a7, V.list (List.map Pct.enc a8) false])]⟩) (fun i => a3.length - i) 0 (As _) ?_ ?_
 ·exact leM
 rintro i hi KL0 hKL0
 try dsimp only at *
 refine Aa (Aa (Z 2 rfl ?_))
 simp only [go_sem, simprocAttr, AG]
 refine Ad rfl (fun hc2 => ?_) fun hc2 => ?_
 ·simp only [hcL] at hc2
  refine Af ?_
  refine Aa (Aq ?_)
  refine Aa (Z 4 rfl ?_)
  simp only [go_sem, simprocAttr, EY _ _ _ hc2, hc2, AG]
  and_intros <;> try exact sdA
  refine Ad rfl (fun hc4 => ?_) fun hc4 => ?_
  ·simp only [hcL] at hc4
   refine Aa (Z 5 rfl ?_)
   simp only [go_sem, simprocAttr]
   refine Ae (hQ _ _ (.inl rfl) ?_ ?_ ?_) <;> simp only [go_sem, simprocAttr, vBB]
   exact ⟨_, rfl, trivial⟩
  simp only [hcL] at hc4
  refine Af ?_
  refine Z 3 rfl ?_
  simp only [go_sem, simprocAttr, inI]
  and_intros <;> try exact sdA
  refine hKL0 (i + 1) _ ?_ ?_ ?_
  ·(try dsimp only); exact hc2
  ·(try dsimp only); omega
  exact leM
 simp only [hcL] at hc2
 refine AX ?_
 simp only [go_sem, simprocAttr]
 refine Aa (Z 6 rfl ?_)
 simp only [go_sem, simprocAttr, AG]
 refine Ae (hQ _ _ (.inl rfl) ?_ ?_ ?_) <;> simp only [go_sem, simprocAttr, vBB]
 exact ⟨_, rfl, trivial⟩
def fMx : Rule × Int -> Bool := Aa5.choose
theorem Ahz : PU 199 (gOf aRN fun x => (RuP x, vBB (fMx x))) := Aa5.choose_spec.2
theorem Aa4 (a1 : Int) (k : Int) (l : List Cond) (a b x y z : Int) (t : List (List UInt8)) (a3 : List Int) (a4 a5 a6 a7 : Int) (a8 : List Pct) (n : Int) : gOf aRN (fun x => (RuP x, vBB (fMx x))) [.agg [.int .i64 a1, .int .i64 k, .list (l.map Cond.enc) false, .int .i64 a, .int .i64 b, .int .i64 x, .int .i64 y, .int .i64 z, .list (strs t) false, .list (Ao a3) false, .int .i64 a4, .int .i64 a5, .int .i64 a6, .int .i64 a7, .list (a8.map Pct.enc) false], .int .i64 n] = (RuP (⟨a1, .mk k l a b ⟨x, y, z⟩ t, a3, a4, a5, a6, a7, a8⟩, n), .bool (fMx (⟨a1, .mk k l a b ⟨x, y, z⟩ t, a3, a4, a5, a6, a7, a8⟩, n))) := by
 rw [<- Rule.enc_at]; exact Al (F := fun x => (RuP x, vBB (fMx x))) VN (_, n)
def aRR := ar (vg Rule.enc) (ao (vg Rule.enc))
theorem VO : Ij aRR := ijr (ijg Rule.inj) (ijo (ijg Rule.inj))
def RrP (x : Rule × Rule) : Prop := RuleOk x.1 /\ RuleOk x.2
def Qx : Tab
 | 199 => (gOf aRN fun x => (RuP x, vBB (fMx x)))
 | _ => gNo
theorem AlA : ∀ f, PU f (Qx f) := fun f => by
 unfold Qx
 split
 ·exact Ahz
 ·exact Aj.no
theorem AaW : ∃ F : Rule × Rule -> Bool, (∀ x, RrP x -> RT x (F x)) /\ PU 166 (gOf aRR fun x => (RrP x, vBB (F x))) := by
 have hG := AlA
 refine YA.p (val := vBB) (R := RT) VO (by simp [aRR]) ?_
 rintro ⟨⟨a1, ⟨k, l, a, b, ⟨x, y, z⟩, t⟩, a3, a4, a5, a6, a7, a8⟩, ⟨b1, ⟨bk, bl, ba, bb, ⟨bx, bY, bz⟩, bt⟩, b3, b4, b5, b6, b7, b8⟩⟩ hv Q hQ
 have Z := YA.T EF0 hG
 obtain ⟨h1, h2⟩ : RrP (⟨a1, .mk k l a b ⟨x, y, z⟩ t, a3, a4, a5, a6, a7, a8⟩, ⟨b1, .mk bk bl ba bb ⟨bx, bY, bz⟩ bt, b3, b4, b5, b6, b7, b8⟩) := hv
 have q1 : RuP (⟨a1, .mk k l a b ⟨x, y, z⟩ t, a3, a4, a5, a6, a7, a8⟩, b1) := h1
 have q2 : RuP (⟨b1, .mk bk bl ba bb ⟨bx, bY, bz⟩ bt, b3, b4, b5, b6, b7, b8⟩, a1) := h2
 refine Aa (Z 0 rfl ?_)
 simp only [go_sem, simprocAttr, aRR, Rule.enc_at, Qx, Aa4, q1, q2]
 refine Aa (Z 1 rfl ?_)
 simp only [go_sem, simprocAttr, Qx, Aa4, q1, q2]
 and_intros <;> try exact sdA
 refine Ae (hQ _ _ (.inl rfl) ?_ ?_ ?_) <;> simp only [go_sem, simprocAttr, vBB]
 exact ⟨_, rfl, trivial⟩
def MS : Rule × Rule -> Bool := AaW.choose
theorem Aho : PU 166 (gOf aRR fun x => (RrP x, vBB (MS x))) := AaW.choose_spec.2
def JK := ar (vg Rule.enc) (ar vi (ao vi))
theorem VM : Ij JK := ijr (ijg Rule.inj) (ijr iji (ijo iji))
def StP (x : Rule × Int × Int) : Prop := RuleOk x.1
theorem AcV : ∃ F : Rule × Int × Int -> Int, (∀ x, StP x -> RT x (F x)) /\ PU 201 (gOf JK fun x => (StP x, vII (F x))) := by
 have hG := AJ
 refine YV.p (val := vII) (R := RT) VM (by simp [JK]) ?_
 rintro ⟨⟨a1, ⟨k, l, a, b, ⟨x, y, z⟩, t⟩, a3, a4, a5, a6, a7, a8⟩, n, m⟩ hv Q hQ
 have Z := YV.T EF0 hG
 refine Aa (Z 0 rfl ?_)
 simp only [go_sem, simprocAttr, JK, Rule.enc_at]
 refine Aa (Aa (Z 1 rfl ?_))
 simp only [go_sem, simprocAttr]
 and_intros <;> try exact sdA
 refine Ad rfl (fun hc1 => ?_) fun hc1 => ?_
 ·simp only [hcL] at hc1
  refine Aa (Z 2 rfl ?_)
  simp only [go_sem, simprocAttr]
  refine Ae (hQ _ _ (.inl rfl) ?_ ?_ ?_) <;> simp only [go_sem, simprocAttr, vII]
  exact ⟨_, rfl, trivial⟩
 simp only [hcL] at hc1
 refine Af ?_
 refine Aa (Aa (Ac5 (EF := EF0) hG AmQ ?_))
 simp only [Vh, go_sem, simprocAttr, inI]
 and_intros <;> try exact sdA
 refine Ad rfl (fun hc3 => ?_) fun hc3 => ?_
 ·simp only [hcL] at hc3
  refine Aa (Z 4 rfl ?_)
  simp only [go_sem, simprocAttr]
  refine Ae (hQ _ _ (.inl rfl) ?_ ?_ ?_) <;> simp only [go_sem, simprocAttr, vII]
  exact ⟨_, rfl, trivial⟩
 simp only [hcL] at hc3
 refine Af ?_
 refine Aa (Z 5 rfl ?_)
 simp only [go_sem, simprocAttr]
 refine Ae (hQ _ _ (.inl rfl) ?_ ?_ ?_) <;> simp only [go_sem, simprocAttr, vII]
 exact ⟨_, rfl, trivial⟩
def Nb : Rule × Int × Int -> Int := AcV.choose
theorem AkQ : PU 201 (gOf JK fun x => (StP x, vII (Nb x))) := AcV.choose_spec.2
def HX (x : Routing × List (List UInt8)) : List V := [.agg x.1.enc, .list (strs x.2) false]
theorem VR (a b : Routing × List (List UInt8)) (h : HX a = HX b) : a = b := by
 obtain ⟨a_r, a_c⟩ := a
 obtain ⟨b_r, b_c⟩ := b
 simp only [HX, Bz, V.str.injEq, V.int.injEq, V.bool.injEq, V.agg.injEq, V.list.injEq, and_true, true_and] at h
 obtain ⟨h0, h1⟩ := h
 replace h0 := Routing.inj _ _ h0
 subst h0
 replace h1 := HP h1
 subst h1
 rfl
def RgP (x : Routing × List (List UInt8)) : Prop := x.1.links.length <= 1000000 /\ x.2.length <= 1000000
def IH : Tab
 | 130 => (gOf aLk Ln)
 | _ => gNo
theorem AlR : ∀ f, PU f (IH f) := fun f => by
 unfold IH
 split
 ·exact AaP
 ·exact Aj.no
theorem AbP : ∃ F : Routing × List (List UInt8) -> Bool, (∀ x, RgP x -> RT x (F x)) /\ PU 99 (gOf HX fun x => (RgP x, vBB (F x))) := by
 have hG := AlR
 refine SH.p (val := vBB) (R := RT) VR (by simp [HX]) ?_
 rintro ⟨⟨n, l, m⟩, c⟩ hv Q hQ
 have Y := SH.E EF0 hG mixed
 have Z := SH.T EF0 hG
 obtain ⟨h1, h2⟩ : RgP (⟨n, l, m⟩, c) := hv
 dsimp only at h1 h2
 have h3 : l.length <= 140737488355328 := by omega
 refine Aa (Z 0 rfl ?_)
 simp only [go_sem, simprocAttr, HX, Routing.enc, IH, Co, h3]
 refine Aa (Aa (Z 1 rfl ?_))
 simp only [go_sem, simprocAttr, IH, Co, h3]
 refine Aq ?_
 refine Ba (α := Nat) (fun i => (1 <= i) /\ (i <= c.length + 1)) (fun i => ⟨mkE [(1, V.list (strs c) false), (2, V.ptr 2 0), (5, .int .i64 i)], mkH [(2, Ob.box 140 [V.int IntKind.i64 n, V.list (List.map Link.enc l) false, V.int IntKind.i64 m])]⟩) (fun i => c.length + 1 - i) 1 ⟨AF _, by omega⟩ ?_ ?_
 ·exact leM
 rintro i ⟨hi, hi2⟩ KL0 hKL0
 try dsimp only at *
 refine Aa (Aa (Z 2 rfl ?_))
 simp only [go_sem, simprocAttr, EL, Ac, IH, Co, h3]
 and_intros <;> try exact sdA
 refine Ad rfl (fun hb2 => ?_) fun hb2 => ?_
 ·have hic : i < c.length := by simp only [Bx, decide_eq_true_eq] at hb2; omega
  have hic2 : i - 1 < c.length := by omega
  have hi3 : ((i : Int) - 1).toNat = i - 1 := by omega
  refine Af ?_
  refine Aa (Aq ?_)
  refine Aa (Y 4 rfl (by kernel_rfl) ?_)
  simp only [go_sem, simprocAttr, inI, hi3, Gz _ _ _ hic, Gz _ _ _ hic2, hic, hic2, EL, IH, Co, h3]
  and_intros <;> try exact sdA
  refine Ad rfl (fun hc4 => ?_) fun hc4 => ?_
  ·simp only [hcL] at hc4
   refine Aa (Z 5 rfl ?_)
   simp only [go_sem, simprocAttr, IH, Co, h3]
   refine Ae (hQ _ _ (.inl rfl) ?_ ?_ ?_) <;> simp only [go_sem, simprocAttr, vBB]
   exact ⟨_, rfl, trivial⟩
  simp only [hcL] at hc4
  refine Af ?_
  refine Z 3 rfl ?_
  simp only [go_sem, simprocAttr, inI, IH, Co, h3]
  and_intros <;> try exact sdA
  refine hKL0 (i + 1) _ ?_ ?_ ?_
  ·(try dsimp only); exact ⟨by omega, by omega⟩
  ·(try dsimp only); omega
  exact leM
 refine AX ?_
 simp only [go_sem, simprocAttr]
 refine Aa (Z 6 rfl ?_)
 simp only [go_sem, simprocAttr, IH, Co, h3]
 refine Ae (hQ _ _ (.inl rfl) ?_ ?_ ?_) <;> simp only [go_sem, simprocAttr, vBB]
 exact ⟨_, rfl, trivial⟩
def MY : Routing × List (List UInt8) -> Bool := AbP.choose
theorem Ajd : PU 99 (gOf HX fun x => (RgP x, vBB (MY x))) := AbP.choose_spec.2
theorem Ajc (n : Int) (l : List Link) (m : Int) (c : List (List UInt8)) : gOf HX (fun x => (RgP x, vBB (MY x))) [.agg [.int .i64 n, .list (l.map Link.enc) false, .int .i64 m], .list (strs c) false] = (RgP (⟨n, l, m⟩, c), .bool (MY (⟨n, l, m⟩, c))) := Al (F := fun x => (RgP x, vBB (MY x))) VR (⟨n, l, m⟩, c)
theorem Agb {a b : Int} (hb : 0 < b) (h : a.tmod b < 0) : a.tdiv b - 1 = a / b /\ a.tmod b + b = a % b := by
 have h1 := Int.mul_tdiv_add_tmod a b
 have h2 := Int.lt_tmod_of_pos a hb
 have := (Int.ediv_emod_unique (a := a) (b := b) (q := a.tdiv b - 1) (r := a.tmod b + b) hb).2 ⟨by rw [<- h1]; grind, by omega, by omega⟩
 exact ⟨this.1.symm, this.2.symm⟩
theorem Agc {a b : Int} (hb : 0 < b) (h : ¬ a.tmod b < 0) : a.tdiv b = a / b /\ a.tmod b = a % b := by
 have h1 := Int.mul_tdiv_add_tmod a b
 have h2 := Nx a hb
 have := (Int.ediv_emod_unique (a := a) (b := b) (q := a.tdiv b) (r := a.tmod b) hb).2 ⟨by rw [<- h1]; grind, by omega, by omega⟩
 exact ⟨this.1.symm, this.2.symm⟩
def fFl (x : Int × Int) : Prop × V := (-4611686018427387904 <= x.1 /\ x.1 <= 4611686018427387904 /\ 0 < x.2 /\ x.2 <= 1099511627776, Ak (x.1 / x.2, x.1 % x.2))
theorem ET (a b : Int) : gOf Cj fFl [.int .i64 a, .int .i64 b] = (-4611686018427387904 <= a /\ a <= 4611686018427387904 /\ 0 < b /\ b <= 1099511627776, Ak (a / b, a % b)) := Al Ho (a, b)
theorem Ac6 {a b : Int} (hb : 0 < b) (h1 : -4611686018427387904 <= a) (h2 : a <= 4611686018427387904) : -4611686018427387904 <= a.tdiv b /\ a.tdiv b <= 4611686018427387904 := by
 have h := Int.natAbs_tdiv a b
 have h3 : a.natAbs / b.natAbs <= a.natAbs := Nat.div_le_self _ _
 have h4 : (a.tdiv b).natAbs <= a.natAbs := by rw [h]; exact h3
 omega
theorem Ajb : PU 198 (gOf Cj fFl) := by
 have hG := AJ
 refine Sr.a Ho (by simp [Cj]) ?_
 rintro ⟨a, b⟩ hv C hN Q hQ
 have Y := Sr.D EF0 hG hN mixed
 have Z := Sr.R EF0 hG hN
 obtain ⟨h1, h2, h3, h4⟩ : -4611686018427387904 <= a /\ a <= 4611686018427387904 /\ 0 < b /\ b <= 1099511627776 := hv
 have hq := Ac6 h3 h1 h2
 have hb0 : b ≠ 0 := by omega
 have hm1 := Int.lt_tmod_of_pos a h3
 have hm2 := Nx a h3
 refine Ab (Z 0 rfl ?_)
 simp only [go_sem, simprocAttr, Cj]
 refine Ab (Y 1 rfl (by kernel_rfl) ?_)
 simp only [go_sem, simprocAttr, hb0]
 and_intros <;> try exact sdA
 refine Ab (Ab (Z 2 rfl ?_))
 simp only [go_sem, simprocAttr]
 refine Ai rfl (fun hb2 => ?_) fun hb2 => ?_
 ·have hfl := Agb h3 (of_decide_eq_true hb2)
  refine Ab (Z 3 rfl ?_)
  simp only [go_sem, simprocAttr, inI]
  and_intros <;> try exact sdA
  refine Ag (hQ _ _ (.inl rfl) ?_ ?_ ?_) <;> simp only [go_sem, simprocAttr, fFl, Ak]
  rw [hfl.1, hfl.2]
 have hfl := Agc h3 (of_decide_eq_false hb2)
 refine Ah ?_
 refine Ab (Z 4 rfl ?_)
 simp only [go_sem, simprocAttr]
 refine Ag (hQ _ _ (.inl rfl) ?_ ?_ ?_) <;> simp only [go_sem, simprocAttr, fFl, Ak]
 rw [hfl.1, hfl.2]
theorem Rm {A W : Int} {a w : Int} (h1 : (a.natAbs : Int) = A) (h2 : (w.natAbs : Int) = W) : ((a * w).natAbs : Int) = A * W := by
 rw [Int.natAbs_mul, Int.natCast_mul, h1, h2]
theorem WG {a s A : Int} (hA : (a.natAbs : Int) = A) (hs : 0 <= s /\ s < 10000) : -(9999 * A) <= a * s /\ a * s <= 9999 * A := by
 have h1 := Rm (a := a) (w := s) hA (show (s.natAbs : Int) = s by omega)
 have h2 : A * s <= A * 9999 := PR (by omega) (by omega)
 omega
theorem Abu (a w s : Int) : IB a (10000 * w + s) = a * w + (2 * (a * s) + 10000) / 20000 := by
 unfold IB
 rw [show a * (10000 * w + s) = 10000 * (a * w) + a * s by grind]
 omega
theorem Aip {a w s A W : Int} (hA : (a.natAbs : Int) = A) (hW : (w.natAbs : Int) = W) (ha : a ≠ 0) (ha1 : A <= 1099511627776) (hs : 0 <= s /\ s < 10000) (hb : 2199023255552 / A < W) : Bq (IB a (10000 * w + s)) = false := by
 have hA0 : 0 < A := by omega
 have h1 : 2199023255552 < A * W := by rw [LO]; exact (Int.ediv_lt_iff_lt_mul hA0).1 hb
 have h2 := Rm hA hW
 have h3 := WG hA hs
 rw [Abu]
 refine LH.2 fun h => ?_
 have := (Lw _).1 h
 omega
theorem Aiq {a w A W : Int} (hA : (a.natAbs : Int) = A) (hW : (w.natAbs : Int) = W) (hb : a = 0 \/ ¬ 2199023255552 / A < W) : -2199023255552 <= a * w /\ a * w <= 2199023255552 := by
 by_cases ha : a = 0
 ·rw [ha, Int.zero_mul]; decide
 ·have hA0 : 0 < A := by omega
  have h1 : W * A <= 2199023255552 := (Int.le_ediv_iff_mul_le hA0).1 (by omega)
  have h2 := Rm hA hW
  rw [LO] at h1
  omega
def Eu : Tab
 | 154 => (gOf aI IX)
 | 198 => (gOf Cj fFl)
 | 155 => (gOf aI MZ)
 | _ => gNo
theorem Anl : ∀ f, PU f (Eu f) := fun f => by
 unfold Eu
 split
 ·exact Aeb
 ·exact Ajb
 ·exact Ajl
 ·exact Aj.no
def Ht (x : Int × Int) : Prop × V := (True, Ak (Gf x.1 x.2))
theorem Cb (a h : Int) : gOf Cj Ht [.int .i64 a, .int .i64 h] = (True, Ak (Gf a h)) := Al Ho (a, h)
theorem AbV : PU 165 (gOf Cj Ht) := by
 have hG := Anl
 refine Yz.a Ho (by simp [Cj]) ?_
 rintro ⟨a, h⟩ hv C hN Q hQ
 have Z := Yz.R EF0 hG hN
 refine Ab (Z 0 rfl ?_)
 simp only [go_sem, simprocAttr, Cj, Eu, AQ, ET, EV, Ak]
 refine Ab ?_
 by_cases hfa : Bq a = true
 ·by_cases hfb : Bq h = true
  ·refine Ab (Z 1 rfl ?_)
   simp only [go_sem, simprocAttr, hfa, hfb, Eu, AQ, ET, EV, Ak]
   and_intros <;> try exact sdA
   refine DC rfl ?_
   refine Ah ?_
   have hba := (Lw _).1 hfa
   have hbh := (Lw _).1 hfb
   have hdm : 10000 * (h / 10000) + h % 10000 = h := by omega
   have hs0 : 0 <= h % 10000 /\ h % 10000 < 10000 := by omega
   have hw0 : -110000000 <= h / 10000 /\ h / 10000 <= 110000000 := by omega
   generalize hw : h / 10000 = w at hdm hw0
   generalize hs : h % 10000 = s at hdm hs0
   generalize hA : (a.natAbs : Int) = A
   generalize hW : (w.natAbs : Int) = W
   have hab := WG hA hs0
   have hpe := Abu a w s
   have hA1 : A <= 1099511627776 := by omega
   refine Ab (Z 3 rfl ?_)
   simp only [go_sem, simprocAttr, hw, hs, Eu, AQ, ET, EV, Ak]
   and_intros <;> try exact sdA
   refine Dq (α := Unit) (fun _ => (-2199023255552 <= a * w /\ a * w <= 2199023255552)) (fun _ => ⟨mkE [(0, V.int IntKind.i64 a), (6, V.int IntKind.i64 w), (7, V.int IntKind.i64 s)], mkH []⟩) ?_ ?_
   ·intro KC4 hKC4
    have hqe : Int.tdiv 2199023255552 A = 2199023255552 / A := Kz (by decide)
    have hq1 : 0 <= 2199023255552 / A /\ 2199023255552 / A <= 2199023255552 := ⟨LJ (by decide) (by omega), PO _ (by decide)⟩
    have hq4 : inI (2199023255552 / A) := by unfold inI; omega
    have hA2 : (!decide (a = 0)) = true -> ¬A = 0 := by simp; omega
    refine Ab (Z 4 rfl ?_)
    simp only [go_sem, simprocAttr, hA, hW, hqe, Eu, AQ, ET, EV, Ak]
    and_intros <;> (try first | exact sdA | (intro hz; exact ⟨hz, hA2 hz, hq4⟩))
    refine Ai rfl (fun hb4 => ?_) fun hb4 => ?_
    ·simp only [Bx, LG, decide_eq_true_eq, decide_eq_false_iff_not] at hb4
     refine Ab (Z 5 rfl ?_)
     simp only [go_sem, simprocAttr, Eu, AQ, ET, EV, Ak]
     refine Ag (hQ _ _ (.inl rfl) ?_ ?_ ?_) <;> simp only [go_sem, simprocAttr, Ht, Ak]
     rw [NS (by rw [<- hdm, Aip hA hW hb4.1 hA1 hs0 hb4.2]; simp)]
    simp only [Bool.and_eq_false_iff, It, decide_eq_true_eq, decide_eq_false_iff_not] at hb4
    refine Ah ?_
    refine hKC4 (()) _ ?_ ?_
    ·(try dsimp only); exact Aiq hA hW hb4
    exact leM
   rintro _ hsm
   refine Ab (Z 6 rfl ?_)
   simp only [go_sem, simprocAttr, inI, show 2 * a * s = 2 * (a * s) from Int.mul_assoc _ _ _, Eu, AQ, ET, EV, Ak]
   and_intros <;> try exact sdA
   refine Ab ?_
   have hn0 : -1100000000000 <= (2 * (a * s) + 10000) / 20000 /\ (2 * (a * s) + 10000) / 20000 <= 1100000000000 := by omega
   refine Ab (Z 7 rfl ?_)
   simp only [go_sem, simprocAttr, inI, Eu, AQ, ET, EV, Ak]
   and_intros <;> try exact sdA
   refine Ai rfl (fun hb7 => ?_) fun hb7 => ?_
   ·refine Ab (Z 8 rfl ?_)
    simp only [go_sem, simprocAttr, Eu, AQ, ET, EV, Ak]
    refine Ag (hQ _ _ (.inl rfl) ?_ ?_ ?_) <;> simp only [go_sem, simprocAttr, Ht, Ak]
    rw [NS (by rw [hfa, hfb, <- hdm, hpe]; simpa using hb7)]
   refine Ah ?_
   refine Ab (Z 9 rfl ?_)
   simp only [go_sem, simprocAttr, inI, Eu, AQ, ET, EV, Ak]
   and_intros <;> try exact sdA
   refine Ag (hQ _ _ (.inl rfl) ?_ ?_ ?_) <;> simp only [go_sem, simprocAttr, Ht, Ak]
   rw [Ain (by rw [hfa, hfb, <- hdm, hpe]; simpa using hb7), <- hdm, hpe]
  replace hfb := LH.2 hfb
  refine Ab (Z 1 rfl ?_)
  simp only [go_sem, simprocAttr, hfa, hfb, Eu, AQ, ET, EV, Ak]
  and_intros <;> try exact sdA
  refine GF rfl ?_
  refine Ab (Z 2 rfl ?_)
  simp only [go_sem, simprocAttr, Eu, AQ, ET, EV, Ak]
  refine Ag (hQ _ _ (.inl rfl) ?_ ?_ ?_) <;> simp only [go_sem, simprocAttr, Ht, Ak]
  rw [NS (by rw [hfb]; simp)]
 replace hfa := LH.2 hfa
 by_cases hfb : Bq h = true
 ·refine Ab (Z 1 rfl ?_)
  simp only [go_sem, simprocAttr, hfa, hfb, Eu, AQ, ET, EV, Ak]
  and_intros <;> try exact sdA
  refine GF rfl ?_
  refine Ab (Z 2 rfl ?_)
  simp only [go_sem, simprocAttr, Eu, AQ, ET, EV, Ak]
  refine Ag (hQ _ _ (.inl rfl) ?_ ?_ ?_) <;> simp only [go_sem, simprocAttr, Ht, Ak]
  rw [NS (by rw [hfa]; simp)]
 replace hfb := LH.2 hfb
 refine Ab (Z 1 rfl ?_)
 simp only [go_sem, simprocAttr, hfa, hfb, Eu, AQ, ET, EV, Ak]
 and_intros <;> try exact sdA
 refine GF rfl ?_
 refine Ab (Z 2 rfl ?_)
 simp only [go_sem, simprocAttr, Eu, AQ, ET, EV, Ak]
 refine Ag (hQ _ _ (.inl rfl) ?_ ?_ ?_) <;> simp only [go_sem, simprocAttr, Ht, Ak]
 rw [NS (by rw [hfa]; simp)]
theorem AbJ {d : Option Nat} {s : St} {K : St -> Prop} {na q : Nat} {L L' : Av Int} {c : List UInt8} {m : Int} {ok : Bool} (he : Eff Tryz.prog UT 191 [.own 1000 L.length, .str c, .int .i64 m] (spO 1000 L) (.tup [.own 1000 L'.length, .bool ok]) (spO 1000 L'))
  (ha : s.h na = some (.arr 256 2 (CN L))) (hq : q = L.length)
  (hK : K ⟨Cm d (.tup [.own na L'.length, .bool ok]) s.e, hov (spO na L') s.h⟩) : Dp Tryz.prog UT d 191 [.own na q, .str c, .int .i64 m] s K := by
 subst hq
 refine ⟨[(1000, na)], [], _, _, _, _, he, ⟨by simp [okL], rfl, rfl, by simp, by simp, ?_, by simp [V.rens, V.ren, rni], by simp [V.nins, V.nin], by simp [V.nin, V.nins, spO], ?_, ?_⟩, ?_⟩
 ·intro p hp
  simp only [AN, Dh, or_false] at hp
  subst hp
  exact ⟨_, ha, by simp [spO, mkH, Ob.ren, BF (Uo L)], by simp only [Ob.nin, Up, true_or]⟩
 ·intro q hq
  simp only [spO, AN, Dh, or_false] at hq
  subst hq
  simp only [Ob.nin, Up, true_or]
 ·intro p hp o o' h1 h2
  simp only [AN, Dh, or_false] at hp
  subst hp; simp [spO, mkH] at h1 h2; subst h1 h2; simp [Ob.kind]
 ·have e1 : (V.tup [.own 1000 L'.length, .bool ok]).ren (rn ([(1000, na)] ++ [])) = .tup [.own na L'.length, .bool ok] := by simp [V.ren, V.rens, rn]
  have e2 : (spO 1000 L').map (fun q : Nat × Ob => (rn ([(1000, na)] ++ []) q.1, q.2.ren (rn ([(1000, na)] ++ [])))) = spO na L' := by
   simp [spO, rn, Ob.ren, V.rens, V.ren, BF (Uo L')]
  rw [e1, e2]
  exact hK
theorem XQ (L : Av Int) (c : List UInt8) : gOf aRe fRe [.list (CN L) false, .str c] = (L.length <= 140737488355328, .int .i64 ((Au L c).getD (-1))) := Al VQ (L, c)
theorem AkJ (c : List UInt8) (v : Int) : [[.str c, .int .i64 v]] = CN [(c, v)] := rfl
def EFr : Nat -> Bool := fun f => f == 191
def Cw : Tab
 | 158 => (gOf aPs Gl)
 | 151 => (gOf GD IZ)
 | 190 => (gOf aRe fRe)
 | _ => gNo
theorem Anb : ∀ f, PU f (Cw f) := fun f => by
 unfold Cw
 split
 ·exact AbE
 ·exact Ab8
 ·exact Ai6
 ·exact Aj.no
theorem Af8 {L x y n} (h : 0 <= (Au L x).getD (-1)) : Gq L x y n = DQ L y ((Au L x).getD (-1) + n) := by unfold Gq; rw [if_pos h]
theorem Af6 {L x y n} (h : ¬ 0 <= (Au L x).getD (-1)) : Gq L x y n = (L, false) := by unfold Gq; rw [if_neg h]
theorem AkT {L : Av Int} {f t : List UInt8} {n : Int} {r : Av Int × Bool} (hr : r = Gq L f t n) (h : 0 <= (Au L t).getD (-1)) : Mi L f t n = ((DQ r.1 f ((Au L t).getD (-1) + n)).1, r.2 || (DQ r.1 f ((Au L t).getD (-1) + n)).2) := by subst hr; unfold Mi; dsimp only; rw [if_pos h]
theorem AkS {L : Av Int} {f t : List UInt8} {n : Int} {r : Av Int × Bool} (hr : r = Gq L f t n) (h : ¬ 0 <= (Au L t).getD (-1)) : Mi L f t n = (r.1, r.2) := by subst hr; unfold Mi; dsimp only; rw [if_neg h, NG]
theorem Aar {L : Av Int} (h : ∀ p ∈ L, 0 <= p.2 /\ p.2 <= 1000000000) (k : List UInt8) : -1 <= (Au L k).getD (-1) /\ (Au L k).getD (-1) <= 1000000000 := by
 cases e : Au L k with
 | none => simp
 | some v => have := h _ (JN e); simp only [Fd]; dsimp only at this; omega
theorem Ajf : PU 152 (gOf aMi GN) := by
 have hG := Anb
 refine Sg.a Rl (by simp [aMi]) ?_
 rintro ⟨⟨ps, ds⟩, a, b⟩ hv C hN Q hQ
 have Y := Sg.D EFr hG hN mixed
 have Z := Sg.R EFr hG hN
 obtain ⟨hl, hd⟩ : MOk ⟨ps, ds⟩ := hv
 dsimp only at hd
 generalize hcf : BZ ps a = f
 generalize hct : BZ ps b = t
 refine Ab (Z 0 rfl ?_)
 simp only [go_sem, simprocAttr, aMi, Places.enc, Cw, EFr]
 refine Ab (Y 1 rfl (by kernel_rfl) ?_)
 simp only [go_sem, simprocAttr, FN, hl, hcf, hct, Cw, EFr]
 and_intros <;> try exact sdA
 refine Ab (Ab (Z 2 rfl ?_))
 simp only [go_sem, simprocAttr, Cw, EFr]
 and_intros <;> try exact sdA
 refine Ai rfl (fun hb2 => ?_) fun hb2 => ?_
 ·refine Ab (Z 3 rfl ?_)
  simp only [go_sem, simprocAttr, Cw, EFr]
  refine Ag (hQ _ _ (.inl rfl) ?_ ?_ ?_) <;> simp only [go_sem, simprocAttr, GN]
  rw [AaV hcf hct hb2]
 refine Ah ?_
 refine Ab (Ael (EF := EFr) hG (by rw [hN]; exact AmJ) ?_)
 simp only [Vd, go_sem, simprocAttr, AkJ, Cw, EFr]
 refine Ab (Z 5 rfl ?_)
 simp only [go_sem, simprocAttr, Cw, EFr]
 refine Ab (Ar ?_)
 refine Bj (α := (Av Int) × Bool × Nat) (fun γ => (InvL ds f γ.1) /\ (γ.2.1 = true -> mu (ends f ds) γ.1 < γ.2.2 /\ GS ds f = Hw ds γ.2.2 γ.1) /\ (γ.2.1 = false -> GS ds f = γ.1)) (fun γ => ⟨mkE [(3, V.ptr 3 0), (9, V.str t), (10, .own 32 γ.1.length), (11, .bool γ.2.1)], mkH [(3, Ob.box 25 [V.list (List.map Airport.enc ps) false, V.list (List.map Distance.enc ds) false]), (32, .arr 256 2 (CN γ.1))]⟩) (fun γ => γ.2.2) ([(f, 0)], true, mu (ends f ds) [(f, 0)] + 1) ⟨InvL.first ds f, fun _ => ⟨Iu _, rfl⟩, fun h => by cases h⟩ ?_ ?_
 ·refine Le.mk _ _ ?_ ?_ rfl <;> simp only [go_sem, simprocAttr, Aw, Ax] <;> and_intros <;> try exact leA
 rintro ⟨L, more, m⟩ ⟨hI, hm, hs⟩ KL0 hKL0
 try dsimp only at *
 refine Ab (Ab (Z 6 rfl ?_))
 simp only [go_sem, simprocAttr, Cw, EFr]
 refine Ai rfl (fun hb6 => ?_) fun hb6 => ?_
 ·refine Ah ?_
  refine Ar (Ab (Z 7 rfl ?_))
  simp only [go_sem, simprocAttr, Cw, EFr]
  refine Ab (Z 8 rfl ?_)
  simp only [go_sem, simprocAttr, Cw, EFr]
  refine Ar ?_
  refine Bj (α := Nat × (Av Int) × Bool) (fun γ => (γ.1 <= ds.length) /\ (rnd ds L false = rnd (ds.drop γ.1) γ.2.1 γ.2.2) /\ (InvL ds f γ.2.1)) (fun γ => ⟨mkE [(3, V.ptr 3 0), (9, V.str t), (10, .own 32 γ.2.1.length), (11, .bool γ.2.2), (12, .int .i64 γ.1)], mkH [(3, Ob.box 25 [V.list (List.map Airport.enc ps) false, V.list (List.map Distance.enc ds) false]), (32, .arr 256 2 (CN γ.2.1))]⟩) (fun γ => ds.length - γ.1) (0, L, false) ⟨As _, by rw [Hb], hI⟩ ?_ ?_
  ·exact leM
  rintro ⟨i, L2, b2⟩ ⟨hi, hr, hI2⟩ KL2 hKL2
  try dsimp only at *
  refine Ab (Ab (Z 9 rfl ?_))
  simp only [go_sem, simprocAttr, Cw, EFr]
  refine Ai rfl (fun hc9 => ?_) fun hc9 => ?_
  ·simp only [hcL] at hc9
   refine Ah ?_
   refine Dq (α := (Av Int) × Bool) (fun γ => (rnd ds L false = rnd (ds.drop (i + 1)) γ.1 γ.2) /\ (InvL ds f γ.1)) (fun γ => ⟨mkE [(3, V.ptr 3 0), (9, V.str t), (10, .own 32 γ.1.length), (11, .bool γ.2), (12, V.int IntKind.i64 ↑i)], mkH [(3, Ob.box 25 [V.list (List.map Airport.enc ps) false, V.list (List.map Distance.enc ds) false]), (32, .arr 256 2 (CN γ.1))]⟩) ?_ ?_
   ·intro KCb3 hKCb3
    refine Ar (Ab (Z 11 rfl ?_))
    simp only [go_sem, simprocAttr, Ap _ _ _ _ hc9, hc9, Distance.enc, Cw, EFr]
    and_intros <;> try exact sdA
    refine Ab (Ab (Z 12 rfl ?_))
    simp only [go_sem, simprocAttr, RS, Cw, EFr]
    and_intros <;> try exact sdA
    refine Ai rfl (fun hb12 => ?_) fun hb12 => ?_
    ·refine Be ?_
     simp only [go_sem, simprocAttr]
     refine hKCb3 (L2, b2) _ ?_ ?_
     ·(try dsimp only); exact ⟨by rw [hr, AbT hc9 (by simpa using hb12)], hI2⟩
     exact leM
    refine Ah ?_
    have hb12' : Do ds[i] = true := by simpa using hb12
    have hu := (UU ds[i]).1 hb12'
    have hmem := AI hc9
    have hs2 := Qg hI2 hd (RN hmem hb12')
    have hs3 := Ur hI2 hd hmem hb12'
    have hL2 := hI2.big hd
    have hnn : ∀ p ∈ L2, 0 <= p.2 := fun p hp => (hL2.2 p hp).1
    have hlen2 : L2.length <= 140737488355328 := by omega
    have hx := Aar hL2.2 ds[i].from'
    have hy := Aar hL2.2 ds[i].to'
    refine Ab (Y 13 rfl (by kernel_rfl) ?_)
    simp only [go_sem, simprocAttr, XQ, hlen2, Cw, EFr]
    and_intros <;> try exact sdA
    refine Ab (Z 14 rfl ?_)
    simp only [go_sem, simprocAttr, Cw, EFr]
    refine Dq (α := (Av Int) × Bool × Bool) (fun γ => ((γ.1, γ.2.1) = Gq L2 ds[i].from' ds[i].to' ds[i].miles) /\ (γ.2.2 = (b2 || γ.2.1))) (fun γ => ⟨mkE [(3, V.ptr 3 0), (9, V.str t), (10, .own 32 γ.1.length), (11, .bool γ.2.2), (12, V.int IntKind.i64 ↑i), (13, V.ptr 13 0), (15, V.int IntKind.i64 ((Au L2 ds[i].to').getD (-1)))], mkH [(3, Ob.box 25 [V.list (List.map Airport.enc ps) false, V.list (List.map Distance.enc ds) false]), (13, Ob.box 215 [V.str ds[i].from', V.str ds[i].to', V.int IntKind.i64 ds[i].miles]), (32, .arr 256 2 (CN γ.1))]⟩) ?_ ?_
    ·intro KC15 hKC15
     refine Ab (Z 15 rfl ?_)
     simp only [go_sem, simprocAttr, Cw, EFr]
     refine Ai rfl (fun hb15 => ?_) fun hb15 => ?_
     ·refine Ab (Z 16 rfl ?_)
      simp only [go_sem, simprocAttr, inI, Cw, EFr]
      refine And.intro (by omega) ?_
      refine AbJ (AbI L2 _ _ hL2.1) (by rfl) rfl ?_
      simp only [go_sem, simprocAttr, spO]
      refine Z 17 rfl ?_
      simp only [go_sem, simprocAttr, Cw, EFr]
      and_intros <;> try exact sdA
      refine hKC15 ((DQ L2 ds[i].to' ((Au L2 ds[i].from').getD (-1) + ds[i].miles)).1, (DQ L2 ds[i].to' ((Au L2 ds[i].from').getD (-1) + ds[i].miles)).2, (b2 || (DQ L2 ds[i].to' ((Au L2 ds[i].from').getD (-1) + ds[i].miles)).2)) _ ?_ ?_
      ·(try dsimp only); exact ⟨by rw [Af8 (of_decide_eq_true hb15)], rfl⟩
      refine Le.mk _ _ ?_ ?_ rfl <;> simp only [go_sem, simprocAttr, spO] <;> and_intros <;> try exact leA
     refine Ah ?_
     refine hKC15 (L2, false, b2) _ ?_ ?_
     ·(try dsimp only); exact ⟨by rw [Af6 (of_decide_eq_false hb15)], by rw [NG]⟩
     exact leM
    rintro ⟨L4, r4, b4⟩ ⟨h4, hb4⟩
    try dsimp only at *
    have hL4 := (show InvL ds f L4 by rw [show L4 = (Gq L2 ds[i].from' ds[i].to' ds[i].miles).1 by rw [<- h4], SM hnn]; exact hs2.1).big hd
    refine Ab (Z 18 rfl ?_)
    simp only [go_sem, simprocAttr, Cw, EFr]
    refine Ai rfl (fun hb18 => ?_) fun hb18 => ?_
    ·refine Ab (Z 19 rfl ?_)
     simp only [go_sem, simprocAttr, inI, Cw, EFr]
     refine And.intro (by omega) ?_
     refine AbJ (AbI L4 _ _ hL4.1) (by rfl) rfl ?_
     simp only [go_sem, simprocAttr, spO]
     refine Z 20 rfl ?_
     simp only [go_sem, simprocAttr, Cw, EFr]
     and_intros <;> try exact sdA
     refine hKCb3 ((DQ L4 ds[i].from' ((Au L2 ds[i].to').getD (-1) + ds[i].miles)).1, (b4 || (DQ L4 ds[i].from' ((Au L2 ds[i].to').getD (-1) + ds[i].miles)).2)) _ ?_ ?_
     ·(try dsimp only); (have e := AkT h4 (of_decide_eq_true hb18); rw [AcW hnn _ _ (by omega)] at e; exact ⟨by rw [hr, TX hc9 hb12', e, hb4, Bool.or_assoc], by rw [e] at hs3; exact hs3.1⟩)
     refine Le.mk _ _ ?_ ?_ rfl <;> simp only [go_sem, simprocAttr, spO] <;> and_intros <;> try exact leA
    refine Ah ?_
    refine hKCb3 (L4, b4) _ ?_ ?_
    ·(try dsimp only); (have e := AkS h4 (of_decide_eq_false hb18); rw [AcW hnn _ _ (by omega)] at e; exact ⟨by rw [hr, TX hc9 hb12', e, hb4], by rw [e] at hs3; exact hs3.1⟩)
    exact leM
   rintro ⟨L3, b3⟩ ⟨hr3, hI3⟩
   try dsimp only at *
   refine Z 10 rfl ?_
   simp only [go_sem, simprocAttr, inI, Cw, EFr]
   and_intros <;> try exact sdA
   refine hKL2 (i + 1, L3, b3) _ ?_ ?_ ?_
   ·(try dsimp only); exact ⟨hc9, hr3, hI3⟩
   ·(try dsimp only); omega
   exact leM
  simp only [hcL] at hc9
  rw [AbS hc9] at hr
  obtain ⟨hm1, hm2⟩ := hm hb6
  refine Be ?_
  simp only [go_sem, simprocAttr]
  refine hKL0 (L2, b2, m - 1) _ ?_ ?_ ?_
  ·(try dsimp only); exact ⟨hI2, fun h => (by obtain ⟨k, rfl, h1, h2⟩ := SR hd hI hm1 (by rw [hr]; exact h); rw [hr] at h1 h2; exact ⟨h1, hm2.trans h2⟩), fun h => (by rw [hm2, SS hd hI hm1 (by rw [hr]; exact h), hr])⟩
  ·(try dsimp only); omega
  exact leM
 refine Be ?_
 simp only [go_sem, simprocAttr]
 have hLe := hI.big hd
 have hlenE : L.length <= 140737488355328 := by omega
 refine Ab (Z 21 rfl ?_)
 simp only [go_sem, simprocAttr, XQ, hlenE, Cw, EFr]
 and_intros <;> try exact sdA
 refine Ab (Ab (Z 22 rfl ?_))
 simp only [go_sem, simprocAttr, Cw, EFr]
 refine Ai rfl (fun hb22 => ?_) fun hb22 => ?_
 ·refine Ab (Z 23 rfl ?_)
  simp only [go_sem, simprocAttr, Cw, EFr]
  refine Ag (hQ _ _ (.inl rfl) ?_ ?_ ?_) <;> simp only [go_sem, simprocAttr, GN]
  cases hag : Au L t; (rw [PT hcf hct hb2, hs hb6, hag]; rfl); (exfalso; have := hI.get hag; rw [hag] at hb22; simp at hb22; omega)
 refine Ah ?_
 refine Ab (Z 24 rfl ?_)
 simp only [go_sem, simprocAttr, Cw, EFr]
 refine Ag (hQ _ _ (.inl rfl) ?_ ?_ ?_) <;> simp only [go_sem, simprocAttr, GN]
 cases hag : Au L t; (exfalso; rw [hag] at hb22; simp at hb22); (rw [PT hcf hct hb2, hs hb6, hag]; rfl)
end Go.Proofs.YtjkclhbckfkeeaaGreatDoor
end
