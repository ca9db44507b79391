import Derived.Test.YtjkclhbckfkeeaaGreatDoorRu10
import Derived.Test.YtjkclhbckfkeeaaGreatDoorPl4
import Derived.Test.YtjkclhbckfkeeaaGreatDoorShelf
import Derived.Shelf.GgSortMore.Stable
set_option linter.unusedSimpArgs false
set_option linter.unusedVariables false
set_option linter.deprecated false
set_option maxHeartbeats 8000000
noncomputable section
namespace Go.Proofs.YtjkclhbckfkeeaaGreatDoor
open Go Go.RowKit
def inn (a : List UInt8) (l : List Fault) : List Fault := l.map fun f => ⟨f.err, a ++ 32 :: f.pos⟩
theorem Aba (a : List UInt8) (l : List Fault) : (inn a l).length = l.length := Ac _
def rwF (n : Nat) (g : List Fault) : List (Nat × Ob) := [(n, .arr 126 2 (Ax g))]
theorem AgZ (g l : List Fault) (a : List UInt8) (hg : g.length + l.length <= 5500000000000) (ha : a.length <= 1000) (hs : FSm l) : Eff Tryz.prog UT 69 [.own 1000 g.length, .str a, .list (Ax l) false] (rwF 1000 g) (.own 1000 (g ++ inn a l).length) (rwF 1000 (g ++ inn a l)) := by
 have hG := AH
 unfold rwF
 refine Aaz.e (by simp) fun C hN Q hQ => ?_
 have Z := Aaz.R EF0 hG hN
 refine Aa (Z 0 rfl ?_)
 simp only [go_sem, simprocAttr]
 refine Aa (Aa (Z 1 rfl ?_))
 simp only [go_sem, simprocAttr]
 refine Ao ?_
 refine AX (α := Nat × (List Fault)) (fun γ => (γ.1 <= l.length) /\ (γ.2 = g ++ inn a (l.take γ.1)) /\ (γ.2.length = g.length + γ.1)) (fun γ => ⟨mkE [(0, .own 1000 γ.2.length), (1, V.str a), (2, V.list (Ax l) false), (7, .int .i64 γ.1)], mkH [(1000, .arr 126 2 (Ax γ.2))]⟩) (fun γ => l.length - γ.1) (0, g) ⟨Ar _, by rw [HC]; exact (Bl _).symm, rfl⟩ ?_ ?_
 ·exact leM
 rintro ⟨i, h⟩ ⟨hi, hh, hl⟩ KL0 hKL0
 try dsimp only at *
 refine Aa (Aa (Z 2 rfl ?_))
 simp only [go_sem, simprocAttr, Fo]
 refine Ae rfl (fun hc2 => ?_) fun hc2 => ?_
 ·simp only [hcL] at hc2
  refine Af ?_
  refine Aa (Ao ?_)
  have hp := hs _ (AF hc2)
  refine He (EF := EF0) hG mixed (by rw [hN]; exact Am8) Air ?_
  simp only [Ry, XS, go_sem, simprocAttr, inI, Agn hc2, hc2, Fo]
  and_intros <;> (try first | exact sdA | (simp only [Ai, Av, Ay]; omega))
  refine Z 3 rfl ?_
  simp only [go_sem, simprocAttr, inI]
  and_intros <;> try exact sdA
  refine hKL0 (i + 1, h ++ [⟨l[i].err, a ++ 32 :: l[i].pos⟩]) _ ?_ ?_ ?_
  ·(try dsimp only); exact ⟨hc2, by rw [hh, CW hc2, inn, inn, DC, Dg]; rfl, by rw [Ai, hl]; rfl⟩
  ·(try dsimp only); omega
  refine Le.mk _ _ ?_ ?_ rfl <;> simp only [go_sem, simprocAttr, Ai, Av, Ay, Dg, FQ, FR] <;> and_intros <;> try exact leA
 simp only [hcL] at hc2
 obtain rfl : h = g ++ inn a l := by rw [hh, Bu (by omega)]
 refine AS ?_
 simp only [go_sem, simprocAttr]
 refine Aa (Z 5 rfl ?_)
 simp only [go_sem, simprocAttr]
 refine Ad ?_
 show Q _ _
 refine hQ _ _ ⟨mkE [(6, .own 1000 (g ++ inn a l).length)], mkH ([(1000, .arr 126 2 (Ax (g ++ inn a l)))])⟩ (.inl rfl) (Le.mk _ _ ?_ ?_ rfl) rfl ?_ ?_ <;> simp only [go_sem, simprocAttr]
theorem Abb {d : Option Nat} {s : St} {K : St -> Prop} {na : Nat} {g l : List Fault} {a : List UInt8} (hg : g.length + l.length <= 5500000000000) (ha : a.length <= 1000) (hs : FSm l) (hn : s.h na = some (.arr 126 2 (Ax g)))
  (hK : K ⟨BX d (.own na (g ++ inn a l).length) s.e, hov (rwF na (g ++ inn a l)) s.h⟩) : CX Tryz.prog UT d 69 [.own na g.length, .str a, .list (Ax l) false] s K := by
 refine ⟨[(1000, na)], [], _, _, _, _, AgZ g l a hg ha hs, ⟨by simp [okL], rfl, rfl, by simp, by simp, ?_, by simp [V.rens, V.ren, rni], by simp [V.nins, V.nin], by simp [V.nin, rwF], ?_, ?_⟩, ?_⟩
 ·intro p hp
  simp only [AK, CS, or_false] at hp
  subst hp
  exact ⟨_, hn, by simp [rwF, mkH, Ob.ren, BA (Gp _)], .inl (Gp _)⟩
 ·intro q hq
  simp only [rwF, AK, CS, or_false] at hq
  subst hq
  exact .inl (Gp _)
 ·intro p hp o o' h1 h2
  simp only [AK, CS, or_false] at hp
  subst hp
  simp [rwF, mkH] at h1 h2
  subst h1 h2
  simp [Ob.kind]
 ·have e1 : (V.own 1000 (g ++ inn a l).length).ren (rn ([(1000, na)] ++ [])) = .own na (g ++ inn a l).length := by simp [V.ren, rn]
  have e2 : (rwF 1000 (g ++ inn a l)).map (fun q : Nat × Ob => (rn ([(1000, na)] ++ []) q.1, q.2.ren (rn ([(1000, na)] ++ [])))) = rwF na (g ++ inn a l) := by simp [rwF, rn, Ob.ren, BA (Gp _)]
  rw [e1, e2]
  exact hK
theorem AjP (a1 : Int) (k : Int) (l : List Cond) (a b x y z : Int) (t : List (List UInt8)) (a3 : List Int) (a4 a5 a6 a7 : Int) (a8 : List Pct) : gOf HS (fun r => (RuleOk r, vF (IU r))) [.agg [.int .i64 a1, .int .i64 k, .list (l.map Cond.enc) false, .int .i64 a, .int .i64 b, .int .i64 x, .int .i64 y, .int .i64 z, .list (strs t) false, .list (Aq a3) false, .int .i64 a4, .int .i64 a5, .int .i64 a6, .int .i64 a7, .list (a8.map Pct.enc) false]] = (RuleOk ⟨a1, .mk k l a b ⟨x, y, z⟩ t, a3, a4, a5, a6, a7, a8⟩, .list (Ax (IU ⟨a1, .mk k l a b ⟨x, y, z⟩ t, a3, a4, a5, a6, a7, a8⟩)) false) := by
 rw [<- Rule.enc_at]; exact AjQ _
theorem Agh (n : Int) (l : List Link) (m : Int) : gOf aRg fRg [.agg [.int .i64 n, .list (l.map Link.enc) false, .int .i64 m]] = ((Routing.mk n l m).ok /\ l.length <= 1000000, .list (Ax (MV ⟨n, l, m⟩)) false) := Al Wu ⟨n, l, m⟩
theorem Abu (l : List Link) : ∀ n, (FU l n).length <= 3 * n /\ (n <= 1000000 -> FSm (FU l n))
 | 0 => ⟨Az _, fun _ => FSm.nil⟩
 | n + 1 => by
  obtain ⟨h1, h2⟩ := Abu l n
  refine ⟨?_, fun hn => ?_⟩
  ·rw [FU, MN, Ai, Ai, Ai]
   have a1 := IP (lkA (l.getD n Link.zero)) 5 (sLk ++ dec n)
   have a2 := IP (decide ((l.getD n Link.zero).from' = (l.getD n Link.zero).to')) 2 (sLk ++ dec n)
   have a3 := IP (lkC l n (l.getD n Link.zero)) 6 (sLk ++ dec n)
   omega
  ·have hp : (sLk ++ dec (n : Int)).length <= 1000 := NT (by decide) (Hj (by omega))
   rw [FU, MN]
   exact (h2 (by omega)).app (((FSm.nil.fif hp).fif hp).fif hp)
theorem AjL (r : Routing) : (MV r).length <= 400 /\ FSm (MV r) := by
 have hm : (if (r.links.length : Int) <= 128 then FU r.links r.links.length else []).length <= 384 /\ FSm (if (r.links.length : Int) <= 128 then FU r.links r.links.length else []) := by
  split
  ·have := Abu r.links r.links.length
   exact ⟨by omega, this.2 (by omega)⟩
  ·exact ⟨by simp, FSm.nil⟩
 unfold MV
 refine ⟨?_, (((FSm.nil.fif (by decide)).fif (by decide)).app hm.2).fif (by decide)⟩
 rw [Ai, Ai, Ai]
 have a1 := IP (decide (r.number < 1) || decide (9999 < r.number)) 2 QM
 have a2 := IP (decide (128 < (r.links.length : Int))) 4 QJ
 have a3 := IP (decide (r.miles < 0) || decide (99999 < r.miles)) 2 QL
 have := hm.1
 omega
def aPT := ar (vg Places.enc) (ao (vg Tariff.enc))
theorem Wc : Ij aPT := ijr (ijg Places.inj) (ijo (ijg Tariff.inj))
def Ng (r : Rule) : Prop := ∀ x ∈ r.pcts, LT x
def Kp (t : Tariff) : Prop := (∀ f ∈ t.fares, LS f) /\ ∀ r ∈ t.rules, Ng r
def RTa (x : Places × Tariff) (g : List Fault) : Prop := g.length <= 140737488355328 /\ (g = [] -> Kp x.2)
def sFs : List UInt8 := [102, 97, 114, 101, 115]
def sFr : List UInt8 := [102, 97, 114, 101, 32]
def sRu : List UInt8 := [114, 117, 108, 101, 32]
def sRo : List UInt8 := [114, 111, 117, 116, 105, 110, 103, 32]
def EFi : Nat -> Bool := fun f => f == 69
theorem LM {α : Type} {p : α -> Prop} {l : List α} {i : Nat} (h : ∀ x ∈ l.take i, p x) (hi : i < l.length) (hp : p l[i]) : ∀ x ∈ l.take (i + 1), p x := fun x hx => by
 rw [CW hi] at hx
 rcases BU.1 hx with hx | hx
 ·exact h x hx
 ·rw [Bk.1 hx]; exact hp
def tTa : Tab
 | 67 => (gOf Kv fun x => (LnP x.1 /\ TarOk x.2.1 /\ x.2.2.ok, vL (fFa x)))
 | 68 => IW
 | 70 => (gOf HS fun r => (RuleOk r, vF (IU r)))
 | 71 => (gOf aRg fRg)
 | _ => gNo
theorem Amp : ∀ f, PU f (tTa f) := fun f => by
 unfold tTa
 split
 ·exact Agl
 ·exact Ou
 ·exact AjR
 ·exact AjH
 ·exact Ah.no
theorem Vd : ∃ F : Places × Tariff -> List Fault, (∀ x, LnP x.1 /\ TarOk x.2 -> RTa x (F x)) /\ PU 28 (gOf aPT fun x => (LnP x.1 /\ TarOk x.2, vF (F x))) := by
 have hG := Amp
 refine ST.p (val := vF) (R := RTa) Wc (by simp [aPT]) ?_
 rintro ⟨⟨ps, ds⟩, ⟨fs, rs, gs, xs⟩⟩ hv Q hQ
 have Y := ST.E EFi hG mixed
 have Z := ST.T EFi hG
 obtain ⟨h1, h2⟩ : LnP ⟨ps, ds⟩ /\ TarOk ⟨fs, rs, gs, xs⟩ := hv
 obtain ⟨o1, o2, o3, o4, o5, o6, o7, o8⟩ := id h2
 dsimp only at o1 o2 o3 o4 o5 o6 o7 o8
 refine Ab (Z 0 rfl ?_)
 simp only [go_sem, simprocAttr, aPT, Places.enc, Tariff.enc, tTa, EFi, AC]
 refine Ab (Z 1 rfl ?_)
 simp only [go_sem, simprocAttr, tTa, EFi, AC]
 refine TC.le (s' := ⟨mkE [(2, .ptr 2 0), (3, .ptr 3 0), (5, .own 999 0)], mkH ([(2, .box 25 [.list (ps.map Airport.enc) false, .list (ds.map Distance.enc) false]), (3, .box 31 [.list (fs.map Fare.enc) false, .list (rs.map Rule.enc) false, .list (gs.map Routing.enc) false, .list (xs.map Tax.enc) false]), (999, .arr 126 2 (Ax []))])⟩) (Le.mk _ _ (by (simp only [go_sem, simprocAttr]) <;> and_intros <;> try exact leB) (by (simp only [go_sem, simprocAttr]) <;> and_intros <;> try exact leB) rfl) ?_
 refine Ep (α := (List Fault)) (fun g1 => (g1 = ([] : List Fault) ++ fIf (decide (512 < (fs.length : Int))) 4 (sFs)) /\ (g1.length <= ([] : List Fault).length + 1)) (fun g1 => ⟨mkE [(2, V.ptr 2 0), (3, V.ptr 3 0), (5, .own 999 g1.length)], mkH [(2, Ob.box 25 [V.list (List.map Airport.enc ps) false, V.list (List.map Distance.enc ds) false]), (3, Ob.box 31 [V.list (List.map Fare.enc fs) false, V.list (List.map Rule.enc rs) false, V.list (List.map Routing.enc gs) false, V.list (List.map Tax.enc xs) false]), (999, .arr 126 2 (Ax g1))]⟩) ?_ ?_
 ·intro KC2 hKC2
  refine Ab (Z 2 rfl ?_)
  simp only [go_sem, simprocAttr, Ac, tTa, EFi, AC]
  refine Ag rfl (fun hb2 => ?_) fun hb2 => ?_
  ·refine Z 3 rfl ?_
   simp only [go_sem, simprocAttr, tTa, EFi, AC]
   and_intros <;> try exact sdA
   refine hKC2 (([] : List Fault) ++ [⟨4, sFs⟩]) _ ?_ ?_
   ·(try dsimp only); exact ⟨by rw [Dr (show (decide (512 < (fs.length : Int))) = true from hb2)], by simp⟩
   refine Le.mk _ _ ?_ ?_ rfl <;> simp only [go_sem, simprocAttr, Ai, Av, Ay] <;> and_intros <;> try exact leA
  refine Aj ?_
  refine hKC2 (([] : List Fault)) _ ?_ ?_
  ·(try dsimp only); exact ⟨by rw [Dq (show (decide (512 < (fs.length : Int))) = false from hb2), Bl], by omega⟩
  exact leM
 rintro g1 ⟨hg1, lg1⟩
 replace lg1 : g1.length <= 1 := lg1
 refine Ab (Ab (Z 4 rfl ?_))
 simp only [go_sem, simprocAttr, tTa, EFi, AC]
 refine Au ?_
 refine Bg (α := Nat × (List Fault)) (fun γ => (γ.1 <= fs.length) /\ (γ.2.length <= 1 + 6 * γ.1) /\ (γ.2 = [] -> ∀ z ∈ fs.take γ.1, LS z)) (fun γ => ⟨mkE [(2, V.ptr 2 0), (3, V.ptr 3 0), (5, .own 999 γ.2.length), (6, .int .i64 γ.1)], mkH [(2, Ob.box 25 [V.list (List.map Airport.enc ps) false, V.list (List.map Distance.enc ds) false]), (3, Ob.box 31 [V.list (List.map Fare.enc fs) false, V.list (List.map Rule.enc rs) false, V.list (List.map Routing.enc gs) false, V.list (List.map Tax.enc xs) false]), (999, .arr 126 2 (Ax γ.2))]⟩) (fun γ => fs.length - γ.1) (0, g1) ⟨Ar _, by omega, fun _ z hz => nomatch hz⟩ ?_ ?_
 ·exact leM
 rintro ⟨i, g⟩ ⟨hi, hg, hk⟩ KL0 hKL0
 try dsimp only at *
 refine Ab (Ab (Z 5 rfl ?_))
 simp only [go_sem, simprocAttr, Ac, tTa, EFi, AC]
 refine Ag rfl (fun hc5 => ?_) fun hc5 => ?_
 ·simp only [hcL] at hc5
  refine Aj ?_
  refine Ab (Au ?_)
  obtain ⟨⟨ca, fr, to, ba, cl, rd, am, ru, rg⟩, hf⟩ : ∃ f, f = fs[i] := ⟨_, rfl⟩
  have hfo := o5 _ (AF hc5)
  rw [<- hf] at hfo
  obtain ⟨hL1, hL2⟩ := Agj (⟨ps, ds⟩, ⟨fs, rs, gs, xs⟩, ⟨ca, fr, to, ba, cl, rd, am, ru, rg⟩) ⟨h1, h2, hfo⟩
  obtain ⟨L, hL⟩ : ∃ L, L = fFa (⟨ps, ds⟩, ⟨fs, rs, gs, xs⟩, ⟨ca, fr, to, ba, cl, rd, am, ru, rg⟩) := ⟨_, rfl⟩
  rw [<- hL] at hL1 hL2
  refine Ab (Y 7 rfl (by kernel_rfl) ?_)
  simp only [go_sem, simprocAttr, Ap _ _ _ _ hc5, hc5, Ac, <- hf, Fare.enc, Agk, h1, h2, hfo, <- hL, tTa, EFi, AC]
  and_intros <;> try exact sdA
  refine Ab (Z 8 rfl ?_)
  simp only [go_sem, simprocAttr, tTa, EFi, AC]
  refine Au ?_
  refine Bg (α := Nat × (List Fault)) (fun γ => (γ.1 <= L.length) /\ (γ.2.length = g.length + γ.1)) (fun γ => ⟨mkE [(2, V.ptr 2 0), (3, V.ptr 3 0), (5, .own 999 γ.2.length), (6, V.int IntKind.i64 ↑i), (7, V.list (Aq L) false), (8, .int .i64 γ.1)], mkH [(2, Ob.box 25 [V.list (List.map Airport.enc ps) false, V.list (List.map Distance.enc ds) false]), (3, Ob.box 31 [V.list (List.map Fare.enc fs) false, V.list (List.map Rule.enc rs) false, V.list (List.map Routing.enc gs) false, V.list (List.map Tax.enc xs) false]), (999, .arr 126 2 (Ax γ.2))]⟩) (fun γ => L.length - γ.1) (0, g) ⟨Ar _, rfl⟩ ?_ ?_
  ·exact leM
  rintro ⟨j, h⟩ ⟨hj, hh⟩ KL2 hKL2
  try dsimp only at *
  refine Ab (Ab (Z 9 rfl ?_))
  simp only [go_sem, simprocAttr, DB, tTa, EFi, AC]
  refine Ag rfl (fun hc9 => ?_) fun hc9 => ?_
  ·simp only [hcL] at hc9
   refine Aj ?_
   refine Ab (Au ?_)
   have hd := Hj (i := i) (by omega)
   have hi2 := JP (i := i) (by omega)
   refine GZ (EF := EFi) hG mixed Am2 Ail ?_
   simp only [Rs, XM, go_sem, simprocAttr, inI, GL _ _ _ hc9, hc9, DB, hi2, tTa, EFi, AC]
   and_intros <;> try exact sdA
   refine Z 10 rfl ?_
   simp only [go_sem, simprocAttr, inI, tTa, EFi, AC]
   and_intros <;> try exact sdA
   refine hKL2 (j + 1, h ++ [⟨L[j], sFr ++ dec i⟩]) _ ?_ ?_ ?_
   ·(try dsimp only); exact ⟨hc9, by rw [Ai, hh]; rfl⟩
   ·(try dsimp only); omega
   refine Le.mk _ _ ?_ ?_ rfl <;> simp only [go_sem, simprocAttr, Ai, Av, Ay] <;> and_intros <;> try exact leA
  simp only [hcL] at hc9
  refine Bc ?_
  simp only [go_sem, simprocAttr]
  refine Z 6 rfl ?_
  simp only [go_sem, simprocAttr, inI, tTa, EFi, AC]
  and_intros <;> try exact sdA
  refine hKL0 (i + 1, h) _ ?_ ?_ ?_
  ·(try dsimp only); exact ⟨by omega, by omega, fun e => LM (hk (Qb (by rw [e] at hh; simp at hh; omega))) (by assumption) (by rw [<- hf]; exact hL2 (Qb (by rw [e] at hh; simp at hh; omega)))⟩
  ·(try dsimp only); omega
  exact leM
 simp only [hcL] at hc5
 have hk0 : g = [] -> ∀ z ∈ fs, LS z := fun e => by have := hk e; rwa [Bu (by omega)] at this
 have hg0 : g.length <= 7000001 + 5200000 * 0 := by omega
 have hp0 : g = [] -> (∀ z ∈ fs, LS z) /\ ∀ z ∈ rs.take 0, Ng z := fun e => ⟨hk0 e, fun z hz => by simp at hz⟩
 refine Bc ?_
 simp only [go_sem, simprocAttr]
 refine Ab (Ab (Z 12 rfl ?_))
 simp only [go_sem, simprocAttr, tTa, EFi, AC]
 refine Au ?_
 refine Bg (α := Nat × (List Fault)) (fun γ => (γ.1 <= rs.length) /\ (γ.2.length <= 7000001 + 5200000 * γ.1) /\ (γ.2 = [] -> (∀ z ∈ fs, LS z) /\ ∀ z ∈ rs.take γ.1, Ng z)) (fun γ => ⟨mkE [(3, V.ptr 3 0), (5, .own 999 γ.2.length), (9, .int .i64 γ.1)], mkH [(3, Ob.box 31 [V.list (List.map Fare.enc fs) false, V.list (List.map Rule.enc rs) false, V.list (List.map Routing.enc gs) false, V.list (List.map Tax.enc xs) false]), (999, .arr 126 2 (Ax γ.2))]⟩) (fun γ => rs.length - γ.1) (0, g) ⟨Ar _, hg0, hp0⟩ ?_ ?_
 ·exact leM
 rintro ⟨i, g⟩ ⟨hi, hg, hk⟩ KL4 hKL4
 try dsimp only at *
 refine Ab (Ab (Z 13 rfl ?_))
 simp only [go_sem, simprocAttr, Ac, tTa, EFi, AC]
 refine Ag rfl (fun hc13 => ?_) fun hc13 => ?_
 ·simp only [hcL] at hc13
  refine Aj ?_
  refine Ab (Au ?_)
  have hd := Hj (i := i) (by omega)
  have hi2 := JP (i := i) (by omega)
  have hp8 : (sRu ++ dec i).length <= 1000 := NT (by decide) hd
  obtain ⟨⟨a1, ⟨k, l, a, b, ⟨x, y, z⟩, t⟩, a3, a4, a5, a6, a7, a8⟩, hr⟩ : ∃ r, r = rs[i] := ⟨_, rfl⟩
  have hro := o6 _ (AF hc13)
  rw [<- hr] at hro
  obtain ⟨hR1, hR2, hR3⟩ := AjO _ hro
  have hR4 : a3.length <= 1048576 := hro.c
  have hR5 : a8.length <= 1000000 := hro.p.1
  obtain ⟨L, hL⟩ : ∃ L, L = IU ⟨a1, .mk k l a b ⟨x, y, z⟩ t, a3, a4, a5, a6, a7, a8⟩ := ⟨_, rfl⟩
  rw [<- hL] at hR1 hR2 hR3
  dsimp only at hR1
  refine Ab (Z 15 rfl ?_)
  simp only [go_sem, simprocAttr, inI, hi2, tTa, EFi, AC]
  and_intros <;> try exact sdA
  refine Ab (Ab (Z 16 rfl ?_))
  simp only [go_sem, simprocAttr, tTa, EFi, AC]
  refine Au ?_
  refine Bg (α := Nat × Bool) (fun γ => (γ.1 <= i)) (fun γ => ⟨mkE [(3, V.ptr 3 0), (5, V.own 999 g.length), (9, V.int IntKind.i64 ↑i), (10, V.str (114 :: 117 :: 108 :: 101 :: 32 :: dec ↑i)), (11, .bool γ.2), (12, .int .i64 γ.1)], mkH [(3, Ob.box 31 [V.list (List.map Fare.enc fs) false, V.list (List.map Rule.enc rs) false, V.list (List.map Routing.enc gs) false, V.list (List.map Tax.enc xs) false]), (999, Ob.arr 126 2 (Ax g))]⟩) (fun γ => i - γ.1) (0, false) (Ar _) ?_ ?_
  ·exact leM
  rintro ⟨j, tw⟩ hj KL6 hKL6
  try dsimp only at *
  refine Ab (Ab (Z 17 rfl ?_))
  simp only [go_sem, simprocAttr, tTa, EFi, AC]
  refine Ag rfl (fun hc17 => ?_) fun hc17 => ?_
  ·simp only [hcL] at hc17
   refine Aj ?_
   refine Ab (Au ?_)
   have hjl : j < rs.length := by omega
   obtain ⟨⟨b1, ⟨bk, bl, ba, bb, ⟨bx, bY, bz⟩, bt⟩, b3, b4, b5, b6, b7, b8⟩, hb⟩ : ∃ r, r = rs[j] := ⟨_, rfl⟩
   refine Y 19 rfl (by kernel_rfl) ?_
   simp only [go_sem, simprocAttr, Ap _ _ _ _ hc13, Ap _ _ _ _ hjl, hc13, hjl, Ac, <- hr, <- hb, Rule.enc_at, tTa, EFi, AC]
   and_intros <;> try exact sdA
   refine Z 18 rfl ?_
   simp only [go_sem, simprocAttr, inI, tTa, EFi, AC]
   and_intros <;> try exact sdA
   refine hKL6 (j + 1, (tw || decide (b1 = a1))) _ ?_ ?_ ?_
   ·(try dsimp only); omega
   ·(try dsimp only); omega
   exact leM
  simp only [hcL] at hc17
  refine Bc ?_
  simp only [go_sem, simprocAttr]
  refine Ep (α := (List Fault)) (fun f1 => (f1 = g ++ fIf (tw) 6 (sRu ++ dec i)) /\ (f1.length <= g.length + 1)) (fun f1 => ⟨mkE [(3, V.ptr 3 0), (5, .own 999 f1.length), (9, V.int IntKind.i64 ↑i), (10, V.str (114 :: 117 :: 108 :: 101 :: 32 :: dec ↑i))], mkH [(3, Ob.box 31 [V.list (List.map Fare.enc fs) false, V.list (List.map Rule.enc rs) false, V.list (List.map Routing.enc gs) false, V.list (List.map Tax.enc xs) false]), (999, .arr 126 2 (Ax f1))]⟩) ?_ ?_
  ·intro KC20 hKC20
   refine Ab (Z 20 rfl ?_)
   simp only [go_sem, simprocAttr, tTa, EFi, AC]
   refine Ag rfl (fun hb20 => ?_) fun hb20 => ?_
   ·refine Z 21 rfl ?_
    simp only [go_sem, simprocAttr, tTa, EFi, AC]
    and_intros <;> try exact sdA
    refine hKC20 (g ++ [⟨6, sRu ++ dec i⟩]) _ ?_ ?_
    ·(try dsimp only); exact ⟨by rw [Dr (show (tw) = true from hb20)], by simp⟩
    refine Le.mk _ _ ?_ ?_ rfl <;> simp only [go_sem, simprocAttr, Ai, Av, Ay] <;> and_intros <;> try exact leA
   refine Aj ?_
   refine hKC20 (g) _ ?_ ?_
   ·(try dsimp only); exact ⟨by rw [Dq (show (tw) = false from hb20), Bl], by omega⟩
   exact leM
  rintro f1 ⟨hf1, lf1⟩
  refine Z 22 rfl ?_
  simp only [go_sem, simprocAttr, Ap _ _ _ _ hc13, hc13, Ac, <- hr, Rule.enc_at, AjP, hro, <- hL, tTa, EFi, AC]
  refine Abb (na := 999) (g := f1) (l := L) (a := sRu ++ dec i) (by omega) hp8 hR3 rfl ?_
  simp only [go_sem, simprocAttr, rwF]
  refine Z 14 rfl ?_
  simp only [go_sem, simprocAttr, inI, tTa, EFi, AC]
  and_intros <;> try exact sdA
  refine hKL4 (i + 1, f1 ++ inn (sRu ++ dec i) L) _ ?_ ?_ ?_
  ·(try dsimp only); exact ⟨hc13, by rw [Ai, Aba]; omega, fun e => by obtain ⟨e1, e2⟩ := GP.1 e; rw [hf1] at e1; exact ⟨(hk (GP.1 e1).1).1, LM (hk (GP.1 e1).1).2 hc13 (by rw [<- hr]; exact hR2 (Qf.1 e2))⟩⟩
  ·(try dsimp only); omega
  exact leM
 simp only [hcL] at hc13
 have hk0 : g = [] -> Kp ⟨fs, rs, gs, xs⟩ := fun e => by have := hk e; rwa [Bu (by omega)] at this
 have hg0 : g.length <= 5300000000000 + 500 * 0 := by omega
 refine Bc ?_
 simp only [go_sem, simprocAttr]
 refine Ab (Ab (Z 23 rfl ?_))
 simp only [go_sem, simprocAttr, tTa, EFi, AC]
 refine Au ?_
 refine Bg (α := Nat × (List Fault)) (fun γ => (γ.1 <= gs.length) /\ (γ.2.length <= 5300000000000 + 500 * γ.1) /\ (γ.2 = [] -> Kp ⟨fs, rs, gs, xs⟩)) (fun γ => ⟨mkE [(3, V.ptr 3 0), (5, .own 999 γ.2.length), (13, .int .i64 γ.1)], mkH [(3, Ob.box 31 [V.list (List.map Fare.enc fs) false, V.list (List.map Rule.enc rs) false, V.list (List.map Routing.enc gs) false, V.list (List.map Tax.enc xs) false]), (999, .arr 126 2 (Ax γ.2))]⟩) (fun γ => gs.length - γ.1) (0, g) ⟨Ar _, hg0, hk0⟩ ?_ ?_
 ·exact leM
 rintro ⟨i, g⟩ ⟨hi, hg, hk⟩ KL8 hKL8
 try dsimp only at *
 refine Ab (Ab (Z 24 rfl ?_))
 simp only [go_sem, simprocAttr, Ac, tTa, EFi, AC]
 refine Ag rfl (fun hc24 => ?_) fun hc24 => ?_
 ·simp only [hcL] at hc24
  refine Aj ?_
  refine Ab (Au ?_)
  have hd := Hj (i := i) (by omega)
  have hi2 := JP (i := i) (by omega)
  have hp8 : (sRo ++ dec i).length <= 1000 := NT (by decide) hd
  obtain ⟨⟨a1, a2, a3⟩, hr⟩ : ∃ r, r = gs[i] := ⟨_, rfl⟩
  have hro := o7 _ (AF hc24)
  rw [<- hr] at hro
  obtain ⟨hR1, hR3⟩ := AjL ⟨a1, a2, a3⟩
  obtain ⟨L, hL⟩ : ∃ L, L = MV ⟨a1, a2, a3⟩ := ⟨_, rfl⟩
  rw [<- hL] at hR1 hR3
  refine Ab (Z 26 rfl ?_)
  simp only [go_sem, simprocAttr, inI, hi2, tTa, EFi, AC]
  and_intros <;> try exact sdA
  refine Ab (Ab (Z 27 rfl ?_))
  simp only [go_sem, simprocAttr, tTa, EFi, AC]
  refine Au ?_
  refine Bg (α := Nat × Bool) (fun γ => (γ.1 <= i)) (fun γ => ⟨mkE [(3, V.ptr 3 0), (5, V.own 999 g.length), (13, V.int IntKind.i64 ↑i), (14, V.str (114 :: 111 :: 117 :: 116 :: 105 :: 110 :: 103 :: 32 :: dec ↑i)), (15, .bool γ.2), (16, .int .i64 γ.1)], mkH [(3, Ob.box 31 [V.list (List.map Fare.enc fs) false, V.list (List.map Rule.enc rs) false, V.list (List.map Routing.enc gs) false, V.list (List.map Tax.enc xs) false]), (999, Ob.arr 126 2 (Ax g))]⟩) (fun γ => i - γ.1) (0, false) (Ar _) ?_ ?_
  ·exact leM
  rintro ⟨j, tw⟩ hj KL10 hKL10
  try dsimp only at *
  refine Ab (Ab (Z 28 rfl ?_))
  simp only [go_sem, simprocAttr, tTa, EFi, AC]
  refine Ag rfl (fun hc28 => ?_) fun hc28 => ?_
  ·simp only [hcL] at hc28
   refine Aj ?_
   refine Ab (Au ?_)
   have hjl : j < gs.length := by omega
   obtain ⟨⟨b1, b2, b3⟩, hb⟩ : ∃ r, r = gs[j] := ⟨_, rfl⟩
   refine Y 30 rfl (by kernel_rfl) ?_
   simp only [go_sem, simprocAttr, Ap _ _ _ _ hc24, Ap _ _ _ _ hjl, hc24, hjl, Ac, <- hr, <- hb, Routing.enc, tTa, EFi, AC]
   and_intros <;> try exact sdA
   refine Z 29 rfl ?_
   simp only [go_sem, simprocAttr, inI, tTa, EFi, AC]
   and_intros <;> try exact sdA
   refine hKL10 (j + 1, (tw || decide (b1 = a1))) _ ?_ ?_ ?_
   ·(try dsimp only); omega
   ·(try dsimp only); omega
   exact leM
  simp only [hcL] at hc28
  refine Bc ?_
  simp only [go_sem, simprocAttr]
  refine Ep (α := (List Fault)) (fun f1 => (f1 = g ++ fIf (tw) 6 (sRo ++ dec i)) /\ (f1.length <= g.length + 1)) (fun f1 => ⟨mkE [(3, V.ptr 3 0), (5, .own 999 f1.length), (13, V.int IntKind.i64 ↑i), (14, V.str (114 :: 111 :: 117 :: 116 :: 105 :: 110 :: 103 :: 32 :: dec ↑i))], mkH [(3, Ob.box 31 [V.list (List.map Fare.enc fs) false, V.list (List.map Rule.enc rs) false, V.list (List.map Routing.enc gs) false, V.list (List.map Tax.enc xs) false]), (999, .arr 126 2 (Ax f1))]⟩) ?_ ?_
  ·intro KC31 hKC31
   refine Ab (Z 31 rfl ?_)
   simp only [go_sem, simprocAttr, tTa, EFi, AC]
   refine Ag rfl (fun hb31 => ?_) fun hb31 => ?_
   ·refine Z 32 rfl ?_
    simp only [go_sem, simprocAttr, tTa, EFi, AC]
    and_intros <;> try exact sdA
    refine hKC31 (g ++ [⟨6, sRo ++ dec i⟩]) _ ?_ ?_
    ·(try dsimp only); exact ⟨by rw [Dr (show (tw) = true from hb31)], by simp⟩
    refine Le.mk _ _ ?_ ?_ rfl <;> simp only [go_sem, simprocAttr, Ai, Av, Ay] <;> and_intros <;> try exact leA
   refine Aj ?_
   refine hKC31 (g) _ ?_ ?_
   ·(try dsimp only); exact ⟨by rw [Dq (show (tw) = false from hb31), Bl], by omega⟩
   exact leM
  rintro f1 ⟨hf1, lf1⟩
  refine Z 33 rfl ?_
  simp only [go_sem, simprocAttr, Ap _ _ _ _ hc24, hc24, Ac, <- hr, Routing.enc, Agh, hro.1, hro.2, <- hL, tTa, EFi, AC]
  refine Abb (na := 999) (g := f1) (l := L) (a := sRo ++ dec i) (by omega) hp8 hR3 rfl ?_
  simp only [go_sem, simprocAttr, rwF]
  refine Z 25 rfl ?_
  simp only [go_sem, simprocAttr, inI, tTa, EFi, AC]
  and_intros <;> try exact sdA
  refine hKL8 (i + 1, f1 ++ inn (sRo ++ dec i) L) _ ?_ ?_ ?_
  ·(try dsimp only); exact ⟨hc24, by rw [Ai, Aba]; omega, fun e => by obtain ⟨e1, e2⟩ := GP.1 e; rw [hf1] at e1; exact hk (GP.1 e1).1⟩
  ·(try dsimp only); omega
  exact leM
 simp only [hcL] at hc24
 refine Bc ?_
 simp only [go_sem, simprocAttr]
 refine Ab (Z 34 rfl ?_)
 simp only [go_sem, simprocAttr, tTa, EFi, AC]
 refine TC.le (s' := ⟨mkE [(4, .list (Ax g) false)], mkH []⟩) (Le.mk _ _ ?_ ?_ rfl) (Ak (hQ _ _ (.inl rfl) ?_ ?_ ?_)) <;> simp only [go_sem, simprocAttr, vF]
 ·exact DO rfl (by rw [Fo]) rfl (Gp _)
 exact ⟨g, rfl, by omega, hk⟩
def fTa : Places × Tariff -> List Fault := Vd.choose
theorem AmA : ∀ x : Places × Tariff, LnP x.1 /\ TarOk x.2 -> RTa x (fTa x) := Vd.choose_spec.1
theorem AmB : PU 28 (gOf aPT fun x => (LnP x.1 /\ TarOk x.2, vF (fTa x))) := Vd.choose_spec.2
theorem Ra (ps : List Airport) (ds : List Distance) (a : List Fare) (b : List Rule) (c : List Routing) (d : List Tax) : gOf aPT (fun x => (LnP x.1 /\ TarOk x.2, vF (fTa x))) [.agg [.list (ps.map Airport.enc) false, .list (ds.map Distance.enc) false], .agg [.list (a.map Fare.enc) false, .list (b.map Rule.enc) false, .list (c.map Routing.enc) false, .list (d.map Tax.enc) false]] = (LnP ⟨ps, ds⟩ /\ TarOk ⟨a, b, c, d⟩, .list (Ax (fTa (⟨ps, ds⟩, ⟨a, b, c, d⟩))) false) := Al (F := fun x => (LnP x.1 /\ TarOk x.2, vF (fTa x))) Wc (⟨ps, ds⟩, ⟨a, b, c, d⟩)
def aRT := ar (vg Rule.enc) (ao (vg Trip.enc))
theorem Wr : Ij aRT := ijr (ijg Rule.inj) (ijo (ijg Trip.inj))
def AlP (x : Rule × Trip) : Prop := RuleOk x.1 /\ TrpOk x.2
def tAl : Tab
 | 159 => (gOf aHT fun x => (HoP x, vBB (fHo x)))
 | _ => gNo
theorem Alv : ∀ f, PU f (tAl f) := fun f => by
 unfold tAl
 split
 ·exact AgP
 ·exact Ah.no
theorem WY : ∃ F : Rule × Trip -> Int, (∀ x, AlP x -> RT x (F x)) /\ PU 96 (gOf aRT fun x => (AlP x, vII (F x))) := by
 have hG := Alv
 refine AaL.p (val := vII) (R := RT) Wr (by simp [aRT]) ?_
 rintro ⟨⟨a1, ⟨k, l, a, b, ⟨x, y, z⟩, t⟩, a3, a4, a5, a6, a7, a8⟩, ⟨t1, t2, t3, t4, t5, t6, t7, t8, t9⟩⟩ hv Q hQ
 have Z := AaL.T EF0 hG
 obtain ⟨h1, h2⟩ : AlP (⟨a1, .mk k l a b ⟨x, y, z⟩ t, a3, a4, a5, a6, a7, a8⟩, ⟨t1, t2, t3, t4, t5, t6, t7, t8, t9⟩) := hv
 have hH : HoP (.mk k l a b ⟨x, y, z⟩ t, ⟨t1, t2, t3, t4, t5, t6, t7, t8, t9⟩) := ⟨h1.w, h2⟩
 refine Ab (Z 0 rfl ?_)
 simp only [go_sem, simprocAttr, aRT, Rule.enc_at, Trip.enc, tAl, PW, hH]
 refine Ab (Ab (Z 1 rfl ?_))
 simp only [go_sem, simprocAttr, tAl, PW, hH]
 and_intros <;> try exact sdA
 refine Ag rfl (fun hc1 => ?_) fun hc1 => ?_
 ·refine Ab (Z 2 rfl ?_)
  simp only [go_sem, simprocAttr, tAl, PW, hH]
  refine Ak (hQ _ _ (.inl rfl) ?_ ?_ ?_) <;> simp only [go_sem, simprocAttr, vII]
  exact ⟨_, rfl, trivial⟩
 refine Aj ?_
 refine Ab (Z 3 rfl ?_)
 simp only [go_sem, simprocAttr, tAl, PW, hH]
 refine Ak (hQ _ _ (.inl rfl) ?_ ?_ ?_) <;> simp only [go_sem, simprocAttr, vII]
 exact ⟨_, rfl, trivial⟩
def fAl : Rule × Trip -> Int := WY.choose
theorem AeD : PU 96 (gOf aRT fun x => (AlP x, vII (fAl x))) := WY.choose_spec.2
def aRN := ar (vg Rule.enc) (ao vi)
theorem Wp : Ij aRN := ijr (ijg Rule.inj) (ijo iji)
def RuP (x : Rule × Int) : Prop := RuleOk x.1
theorem AbJ : ∃ F : Rule × Int -> Bool, (∀ x, RuP x -> RT x (F x)) /\ PU 199 (gOf aRN fun x => (RuP x, vBB (F x))) := by
 have hG := AH
 refine ZF.p (val := vBB) (R := RT) Wp (by simp [aRN]) ?_
 rintro ⟨⟨a1, ⟨k, l, a, b, ⟨x, y, z⟩, t⟩, a3, a4, a5, a6, a7, a8⟩, n⟩ hv Q hQ
 have Z := ZF.T EF0 hG
 have h1 : a3.length <= 1048576 := (show RuleOk _ from hv).c
 refine Ab (Z 0 rfl ?_)
 simp only [go_sem, simprocAttr, aRN, Rule.enc_at]
 refine Ab (Ab (Z 1 rfl ?_))
 simp only [go_sem, simprocAttr]
 refine Au ?_
 refine Bg (α := Nat) (fun i => (i <= a3.length)) (fun i => ⟨mkE [(1, V.int IntKind.i64 n), (2, V.ptr 2 0), (5, .int .i64 i)], mkH [(2, Ob.box 135 [V.int IntKind.i64 a1, V.int IntKind.i64 k, V.list (List.map Cond.enc l) false, V.int IntKind.i64 a, V.int IntKind.i64 b, V.int IntKind.i64 x, V.int IntKind.i64 y, V.int IntKind.i64 z, V.list (strs t) false, V.list (Aq a3) false, V.int IntKind.i64 a4, V.int IntKind.i64 a5, V.int IntKind.i64 a6, V.int IntKind.i64 a7, V.list (List.map Pct.enc a8) false])]⟩) (fun i => a3.length - i) 0 (Ar _) ?_ ?_
 ·exact leM
 rintro i hi KL0 hKL0
 try dsimp only at *
 refine Ab (Ab (Z 2 rfl ?_))
 simp only [go_sem, simprocAttr, DB]
 refine Ag rfl (fun hc2 => ?_) fun hc2 => ?_
 ·simp only [hcL] at hc2
  refine Aj ?_
  refine Ab (Au ?_)
  refine Ab (Z 4 rfl ?_)
  simp only [go_sem, simprocAttr, GL _ _ _ hc2, hc2, DB]
  and_intros <;> try exact sdA
  refine Ag rfl (fun hc4 => ?_) fun hc4 => ?_
  ·simp only [hcL] at hc4
   refine Ab (Z 5 rfl ?_)
   simp only [go_sem, simprocAttr]
   refine Ak (hQ _ _ (.inl rfl) ?_ ?_ ?_) <;> simp only [go_sem, simprocAttr, vBB]
   exact ⟨_, rfl, trivial⟩
  simp only [hcL] at hc4
  refine Aj ?_
  refine Z 3 rfl ?_
  simp only [go_sem, simprocAttr, inI]
  and_intros <;> try exact sdA
  refine hKL0 (i + 1) _ ?_ ?_ ?_
  ·(try dsimp only); exact hc2
  ·(try dsimp only); omega
  exact leM
 simp only [hcL] at hc2
 refine Bc ?_
 simp only [go_sem, simprocAttr]
 refine Ab (Z 6 rfl ?_)
 simp only [go_sem, simprocAttr, DB]
 refine Ak (hQ _ _ (.inl rfl) ?_ ?_ ?_) <;> simp only [go_sem, simprocAttr, vBB]
 exact ⟨_, rfl, trivial⟩
def fMx : Rule × Int -> Bool := AbJ.choose
theorem Ah1 : PU 199 (gOf aRN fun x => (RuP x, vBB (fMx x))) := AbJ.choose_spec.2
theorem AbI (a1 : Int) (k : Int) (l : List Cond) (a b x y z : Int) (t : List (List UInt8)) (a3 : List Int) (a4 a5 a6 a7 : Int) (a8 : List Pct) (n : Int) : gOf aRN (fun x => (RuP x, vBB (fMx x))) [.agg [.int .i64 a1, .int .i64 k, .list (l.map Cond.enc) false, .int .i64 a, .int .i64 b, .int .i64 x, .int .i64 y, .int .i64 z, .list (strs t) false, .list (Aq a3) false, .int .i64 a4, .int .i64 a5, .int .i64 a6, .int .i64 a7, .list (a8.map Pct.enc) false], .int .i64 n] = (RuP (⟨a1, .mk k l a b ⟨x, y, z⟩ t, a3, a4, a5, a6, a7, a8⟩, n), .bool (fMx (⟨a1, .mk k l a b ⟨x, y, z⟩ t, a3, a4, a5, a6, a7, a8⟩, n))) := by
 rw [<- Rule.enc_at]; exact Al (F := fun x => (RuP x, vBB (fMx x))) Wp (_, n)
def aRR := ar (vg Rule.enc) (ao (vg Rule.enc))
theorem Wq : Ij aRR := ijr (ijg Rule.inj) (ijo (ijg Rule.inj))
def RrP (x : Rule × Rule) : Prop := RuleOk x.1 /\ RuleOk x.2
def QX : Tab
 | 199 => (gOf aRN fun x => (RuP x, vBB (fMx x)))
 | _ => gNo
theorem Al0 : ∀ f, PU f (QX f) := fun f => by
 unfold QX
 split
 ·exact Ah1
 ·exact Ah.no
theorem AbC : ∃ F : Rule × Rule -> Bool, (∀ x, RrP x -> RT x (F x)) /\ PU 166 (gOf aRR fun x => (RrP x, vBB (F x))) := by
 have hG := Al0
 refine Zj.p (val := vBB) (R := RT) Wq (by simp [aRR]) ?_
 rintro ⟨⟨a1, ⟨k, l, a, b, ⟨x, y, z⟩, t⟩, a3, a4, a5, a6, a7, a8⟩, ⟨b1, ⟨bk, bl, ba, bb, ⟨bx, bY, bz⟩, bt⟩, b3, b4, b5, b6, b7, b8⟩⟩ hv Q hQ
 have Z := Zj.T EF0 hG
 obtain ⟨h1, h2⟩ : RrP (⟨a1, .mk k l a b ⟨x, y, z⟩ t, a3, a4, a5, a6, a7, a8⟩, ⟨b1, .mk bk bl ba bb ⟨bx, bY, bz⟩ bt, b3, b4, b5, b6, b7, b8⟩) := hv
 have q1 : RuP (⟨a1, .mk k l a b ⟨x, y, z⟩ t, a3, a4, a5, a6, a7, a8⟩, b1) := h1
 have q2 : RuP (⟨b1, .mk bk bl ba bb ⟨bx, bY, bz⟩ bt, b3, b4, b5, b6, b7, b8⟩, a1) := h2
 refine Ab (Z 0 rfl ?_)
 simp only [go_sem, simprocAttr, aRR, Rule.enc_at, QX, AbI, q1, q2]
 refine Ab (Z 1 rfl ?_)
 simp only [go_sem, simprocAttr, QX, AbI, q1, q2]
 and_intros <;> try exact sdA
 refine Ak (hQ _ _ (.inl rfl) ?_ ?_ ?_) <;> simp only [go_sem, simprocAttr, vBB]
 exact ⟨_, rfl, trivial⟩
def NA : Rule × Rule -> Bool := AbC.choose
theorem AhQ : PU 166 (gOf aRR fun x => (RrP x, vBB (NA x))) := AbC.choose_spec.2
def KC := ar (vg Rule.enc) (ar vi (ao vi))
theorem Wo : Ij KC := ijr (ijg Rule.inj) (ijr iji (ijo iji))
def StP (x : Rule × Int × Int) : Prop := RuleOk x.1
theorem Adv : ∃ F : Rule × Int × Int -> Int, (∀ x, StP x -> RT x (F x)) /\ PU 201 (gOf KC fun x => (StP x, vII (F x))) := by
 have hG := AH
 refine ZI.p (val := vII) (R := RT) Wo (by simp [KC]) ?_
 rintro ⟨⟨a1, ⟨k, l, a, b, ⟨x, y, z⟩, t⟩, a3, a4, a5, a6, a7, a8⟩, n, m⟩ hv Q hQ
 have Z := ZI.T EF0 hG
 refine Ab (Z 0 rfl ?_)
 simp only [go_sem, simprocAttr, KC, Rule.enc_at]
 refine Ab (Ab (Z 1 rfl ?_))
 simp only [go_sem, simprocAttr]
 and_intros <;> try exact sdA
 refine Ag rfl (fun hc1 => ?_) fun hc1 => ?_
 ·simp only [hcL] at hc1
  refine Ab (Z 2 rfl ?_)
  simp only [go_sem, simprocAttr]
  refine Ak (hQ _ _ (.inl rfl) ?_ ?_ ?_) <;> simp only [go_sem, simprocAttr, vII]
  exact ⟨_, rfl, trivial⟩
 simp only [hcL] at hc1
 refine Aj ?_
 refine Ab (Ab (AdI (EF := EF0) hG Am0 ?_))
 simp only [VB, go_sem, simprocAttr, inI]
 and_intros <;> try exact sdA
 refine Ag rfl (fun hc3 => ?_) fun hc3 => ?_
 ·simp only [hcL] at hc3
  refine Ab (Z 4 rfl ?_)
  simp only [go_sem, simprocAttr]
  refine Ak (hQ _ _ (.inl rfl) ?_ ?_ ?_) <;> simp only [go_sem, simprocAttr, vII]
  exact ⟨_, rfl, trivial⟩
 simp only [hcL] at hc3
 refine Aj ?_
 refine Ab (Z 5 rfl ?_)
 simp only [go_sem, simprocAttr]
 refine Ak (hQ _ _ (.inl rfl) ?_ ?_ ?_) <;> simp only [go_sem, simprocAttr, vII]
 exact ⟨_, rfl, trivial⟩
def NI : Rule × Int × Int -> Int := Adv.choose
theorem Alf : PU 201 (gOf KC fun x => (StP x, vII (NI x))) := Adv.choose_spec.2
def IE (x : Routing × List (List UInt8)) : List V := [.agg x.1.enc, .list (strs x.2) false]
theorem Wt (a b : Routing × List (List UInt8)) (h : IE a = IE b) : a = b := by
 obtain ⟨a_r, a_c⟩ := a
 obtain ⟨b_r, b_c⟩ := b
 simp only [IE, Bz, V.str.injEq, V.int.injEq, V.bool.injEq, V.agg.injEq, V.list.injEq, and_true, true_and] at h
 obtain ⟨h0, h1⟩ := h
 replace h0 := Routing.inj _ _ h0
 subst h0
 replace h1 := Iy h1
 subst h1
 rfl
def RgP (x : Routing × List (List UInt8)) : Prop := x.1.links.length <= 1000000 /\ x.2.length <= 1000000
def Jq : Tab
 | 130 => (gOf aLk Ml)
 | _ => gNo
theorem Amd : ∀ f, PU f (Jq f) := fun f => by
 unfold Jq
 split
 ·exact Abs
 ·exact Ah.no
theorem Acn : ∃ F : Routing × List (List UInt8) -> Bool, (∀ x, RgP x -> RT x (F x)) /\ PU 99 (gOf IE fun x => (RgP x, vBB (F x))) := by
 have hG := Amd
 refine Te.p (val := vBB) (R := RT) Wt (by simp [IE]) ?_
 rintro ⟨⟨n, l, m⟩, c⟩ hv Q hQ
 have Y := Te.E EF0 hG mixed
 have Z := Te.T EF0 hG
 obtain ⟨h1, h2⟩ : RgP (⟨n, l, m⟩, c) := hv
 dsimp only at h1 h2
 have h3 : l.length <= 140737488355328 := by omega
 refine Ab (Z 0 rfl ?_)
 simp only [go_sem, simprocAttr, IE, Routing.enc, Jq, Cn, h3]
 refine Ab (Ab (Z 1 rfl ?_))
 simp only [go_sem, simprocAttr, Jq, Cn, h3]
 refine Au ?_
 refine Bg (α := Nat) (fun i => (1 <= i) /\ (i <= c.length + 1)) (fun i => ⟨mkE [(1, V.list (strs c) false), (2, V.ptr 2 0), (5, .int .i64 i)], mkH [(2, Ob.box 140 [V.int IntKind.i64 n, V.list (List.map Link.enc l) false, V.int IntKind.i64 m])]⟩) (fun i => c.length + 1 - i) 1 ⟨Az _, by omega⟩ ?_ ?_
 ·exact leM
 rintro i ⟨hi, hi2⟩ KL0 hKL0
 try dsimp only at *
 refine Ab (Ab (Z 2 rfl ?_))
 simp only [go_sem, simprocAttr, Em, Ac, Jq, Cn, h3]
 and_intros <;> try exact sdA
 refine Ag rfl (fun hb2 => ?_) fun hb2 => ?_
 ·have hic : i < c.length := by simp only [By, decide_eq_true_eq] at hb2; omega
  have hic2 : i - 1 < c.length := by omega
  have hi3 : ((i : Int) - 1).toNat = i - 1 := by omega
  refine Aj ?_
  refine Ab (Au ?_)
  refine Ab (Y 4 rfl (by kernel_rfl) ?_)
  simp only [go_sem, simprocAttr, inI, hi3, FY _ _ _ hic, FY _ _ _ hic2, hic, hic2, Em, Jq, Cn, h3]
  and_intros <;> try exact sdA
  refine Ag rfl (fun hc4 => ?_) fun hc4 => ?_
  ·simp only [hcL] at hc4
   refine Ab (Z 5 rfl ?_)
   simp only [go_sem, simprocAttr, Jq, Cn, h3]
   refine Ak (hQ _ _ (.inl rfl) ?_ ?_ ?_) <;> simp only [go_sem, simprocAttr, vBB]
   exact ⟨_, rfl, trivial⟩
  simp only [hcL] at hc4
  refine Aj ?_
  refine Z 3 rfl ?_
  simp only [go_sem, simprocAttr, inI, Jq, Cn, h3]
  and_intros <;> try exact sdA
  refine hKL0 (i + 1) _ ?_ ?_ ?_
  ·(try dsimp only); exact ⟨by omega, by omega⟩
  ·(try dsimp only); omega
  exact leM
 refine Bc ?_
 simp only [go_sem, simprocAttr]
 refine Ab (Z 6 rfl ?_)
 simp only [go_sem, simprocAttr, Jq, Cn, h3]
 refine Ak (hQ _ _ (.inl rfl) ?_ ?_ ?_) <;> simp only [go_sem, simprocAttr, vBB]
 exact ⟨_, rfl, trivial⟩
def NF : Routing × List (List UInt8) -> Bool := Acn.choose
theorem Ajt : PU 99 (gOf IE fun x => (RgP x, vBB (NF x))) := Acn.choose_spec.2
theorem Ajs (n : Int) (l : List Link) (m : Int) (c : List (List UInt8)) : gOf IE (fun x => (RgP x, vBB (NF x))) [.agg [.int .i64 n, .list (l.map Link.enc) false, .int .i64 m], .list (strs c) false] = (RgP (⟨n, l, m⟩, c), .bool (NF (⟨n, l, m⟩, c))) := Al (F := fun x => (RgP x, vBB (NF x))) Wt (⟨n, l, m⟩, c)
def aI := ao vi
theorem Nk : Ij aI := ijo iji
def CP := ar vi (ao vi)
theorem Jz : Ij CP := ijr iji (ijo iji)
def aLi (x : List Int) : List V := [.list (Aq x) false]
theorem VT (a b : List Int) (h : aLi a = aLi b) : a = b := by
 simp only [aLi, Bz, V.str.injEq, V.int.injEq, V.bool.injEq, V.agg.injEq, V.list.injEq, and_true, true_and] at h
 have h0 := h
 replace h0 := Mw h0
 subst h0
 rfl
def CR (n : Int) : Bool := decide (-1099511627776 <= n) && decide (n <= 1099511627776)
def KY (n : Int) : Prop × V := (True, .bool (CR n))
theorem Be (n : Int) : gOf aI KY [.int .i64 n] = (True, .bool (CR n)) := Al Nk n
theorem Agy {n : Int} (h : CR n = true) : -1099511627776 <= n /\ n <= 1099511627776 := by
 unfold CR at h
 simp only [By, decide_eq_true_eq] at h
 exact h
theorem AgB : PU 140 (gOf aI KY) := by
 have hG := AH
 refine YV.a Nk (by simp [aI]) ?_
 rintro n hv C hN Q hQ
 have Z := YV.R EF0 hG hN
 refine Aa (Z 0 rfl ?_)
 simp only [go_sem, simprocAttr, aI]
 refine Aa (Z 1 rfl ?_)
 simp only [go_sem, simprocAttr]
 and_intros <;> try exact sdA
 refine Ad (hQ _ _ (.inl rfl) ?_ ?_ ?_) <;> simp only [go_sem, simprocAttr, KY, CR]
theorem AeI : PU 154 (gOf aI KY) := by
 have hG := AH
 refine Za.a Nk (by simp [aI]) ?_
 rintro n hv C hN Q hQ
 have Z := Za.R EF0 hG hN
 refine Aa (Z 0 rfl ?_)
 simp only [go_sem, simprocAttr, aI]
 refine Aa (Z 1 rfl ?_)
 simp only [go_sem, simprocAttr]
 and_intros <;> try exact sdA
 refine Ad (hQ _ _ (.inl rfl) ?_ ?_ ?_) <;> simp only [go_sem, simprocAttr, KY, CR]
def Am (y : Int × Int) : V := .tup [.int .i64 y.1, .int .i64 y.2]
def Cp : Int := 18446744073709551616
theorem Aoz (n : Int) : wu n = n % 18446744073709551616 := by
 unfold wu IntKind.wrap
 simp [IntKind.bits, IntKind.signed]
def Tt : List V -> Prop × V
 | [.int .u64 x, .int .u64 y] => (0 <= x /\ x < Cp /\ 0 <= y /\ y < Cp /\ x * y < Cp, .tup [.int .u64 0, .int .u64 (x * y)])
 | _ => (False, .any)
theorem AhZ : PU 183 Tt := by
 refine Ah.leaf Tryz.func183 (by kernel_rfl : Tryz.f183.body = some ((Tryz.f183.body).getD .skip)) (by kernel_rfl) fun vs M w cargs hv hB hs ha => ?_
 match vs, hv, hs, ha with
 | [.int .u64 x, .int .u64 y], hv, hs, ha =>
 have h0 := (ha 0 _ rfl).int_inv
 have h2 := (ha 1 _ rfl).int_inv
 have h1 := OV hs
 rw [h0, h2] at h1
 rw [h1]
 obtain ⟨h3, h4, h5, h6, h7⟩ : 0 <= x /\ x < Cp /\ 0 <= y /\ y < Cp /\ x * y < Cp := hv
 unfold Cp at h4 h6 h7
 obtain ⟨x, rfl⟩ := Hz h3
 obtain ⟨y, rfl⟩ := Hz h5
 have h8 : x * y < 18446744073709551616 := by rw [<- Int.natCast_mul] at h7; omega
 refine (Tryz.bits_Mul64 x y (by omega) (by omega) w).mono ?_
 rintro e w' ⟨he, rfl⟩
 rw [Nat.div_eq_of_lt h8, Qk h8] at he
 refine ⟨_, he, fun M' => ?_, ML _ _⟩
 refine .tup _ _ rfl fun i v hi => ?_
 match i, hi with
 | 0, hi =>
  obtain rfl : V.int .u64 0 = v := by simpa using hi
  exact .int _ _
 | 1, hi =>
  obtain rfl : V.int .u64 ((x : Int) * (y : Int)) = v := by simpa using hi
  rw [<- Int.natCast_mul]
  exact .int _ _
def PS : List V -> Prop × V
 | [.int .u64 hi, .int .u64 lo, .int .u64 y] => (hi = 0 /\ 0 <= lo /\ lo < Cp /\ 0 < y /\ y < Cp, .tup [.int .u64 (lo / y), .int .u64 (lo % y)])
 | _ => (False, .any)
theorem AfN : PU 184 PS := by
 have hG := AH
 refine SK.q fun vs hv => ?_
 match vs, hv with
 | [.int .u64 hi, .int .u64 lo, .int .u64 y], hv =>
 obtain ⟨rfl, g2, g3, g1, g4⟩ : hi = 0 /\ 0 <= lo /\ lo < Cp /\ 0 < y /\ y < Cp := hv
 have e1 : decide (y = 0) = false := decide_eq_false (by omega)
 have e2 : decide (y <= 0) = false := decide_eq_false (by omega)
 unfold Cp at g3 g4
 have hq : inK .u64 (lo / y) := Ln.2 ⟨MH g2 (by omega), by have := Ql y g2; omega⟩
 refine ⟨by simp, fun C hN Q hQ => ?_⟩
 have Y := SK.D EF0 hG hN mixed
 have Z := SK.R EF0 hG hN
 refine Aa (Z 0 rfl ?_)
 simp only [go_sem, simprocAttr]
 refine Aa (Aa (Z 1 rfl ?_))
 simp only [go_sem, simprocAttr, e1]
 refine Da rfl ?_
 refine Af ?_
 refine Aa (Aa (Z 3 rfl ?_))
 simp only [go_sem, simprocAttr, e2]
 refine Da rfl ?_
 refine Af ?_
 refine Aa (Aa (Z 5 rfl ?_))
 simp only [go_sem, simprocAttr]
 refine IJ rfl ?_
 refine Aa (Y 6 rfl (by kernel_rfl) ?_)
 simp only [go_sem, simprocAttr, hq, g2, g1]
 refine Ad (hQ _ _ (.inl rfl) ?_ ?_ ?_) <;> simp only [go_sem, simprocAttr, PS]
theorem AkP (n : Int) (hn : inI n) (w : World) :
  Calls Tryz.prog 141 #[.int .i64 n] w fun e w' => e = .returned (.int .u64 (n.natAbs : Int)) /\ w = w' := by
 obtain ⟨h1, h2⟩ := hn
 go_enter Tryz.func141, Tryz.ntmps141
 go_wp2_with (fail)
 all_goals go_ret
 ·rename_i hs
  refine ⟨?_, rfl⟩
  have : IntKind.u64.wrap (-IntKind.u64.wrap n) = (n.natAbs : Int) := by have := Aoz; unfold wu at this; rw [this, this]; omega
  exact congrArg (fun x => Ending.returned (Value.int .u64 x)) this
 ·rename_i hs
  refine ⟨?_, rfl⟩
  exact congrArg (fun x => Ending.returned (Value.int .u64 x)) (show n = (n.natAbs : Int) by omega)
def PV : List V -> Prop × V
 | [.int .i64 n] => (inI n, .int .u64 (n.natAbs : Int))
 | _ => (False, .any)
theorem AkO : PU 141 PV := by
 refine Ah.leaf Tryz.func141 (by kernel_rfl : Tryz.f141.body = some ((Tryz.f141.body).getD .skip)) (by kernel_rfl) fun vs M w cargs hv hB hs ha => ?_
 match vs, hv, hs, ha with
 | [.int .i64 n], hv, hs, ha =>
 have h0 := (ha 0 _ rfl).int_inv
 have h1 := Xd hs
 rw [h0] at h1
 rw [h1]
 refine (AkP n hv w).mono ?_
 rintro e w' ⟨he, rfl⟩
 exact ⟨_, he, fun M' => .int _ _, ML _ _⟩
def PT : List V -> Prop × V
 | [.int .u64 a, .int .u64 b, .int .u64 y] => (0 <= a /\ a < Cp /\ 0 <= b /\ b < Cp /\ 0 < y /\ y < Cp /\ a * b < Cp, .tup [.int .u64 (a * b / y), .int .u64 (a * b % y), .bool true])
 | _ => (False, .any)
def QY : Tab
 | 183 => Tt
 | 184 => PS
 | _ => gNo
theorem Amj : ∀ f, PU f (QY f) := fun f => by
 unfold QY
 split
 ·exact AhZ
 ·exact AfN
 ·exact Ah.no
theorem Aj4 : PU 143 PT := by
 have hG := Amj
 refine YX.q fun vs hv => ?_
 match vs, hv with
 | [.int .u64 a, .int .u64 b, .int .u64 y], hv =>
 obtain ⟨h1, h2, h3, h4, h5, h6, h10⟩ : 0 <= a /\ a < Cp /\ 0 <= b /\ b < Cp /\ 0 < y /\ y < Cp /\ a * b < Cp := hv
 have h7 : 0 <= a * b := Il h1 h3
 have e2 : decide (y <= 0) = false := decide_eq_false (by omega)
 refine ⟨by simp, fun C hN Q hQ => ?_⟩
 have Z := YX.R EF0 hG hN
 refine Aa (Z 0 rfl ?_)
 simp only [go_sem, simprocAttr]
 refine Aa (Z 1 rfl ?_)
 simp only [go_sem, simprocAttr, QY, Tt, h1, h2, h3, h4, h10]
 refine Aa (Aa (Z 2 rfl ?_))
 simp only [go_sem, simprocAttr, e2]
 refine Da rfl ?_
 refine Af ?_
 refine Aa (Z 4 rfl ?_)
 simp only [go_sem, simprocAttr, QY, PS, h5, h6, h7, h10]
 refine Aa (Z 5 rfl ?_)
 simp only [go_sem, simprocAttr]
 refine Ad (hQ _ _ (.inl rfl) ?_ ?_ ?_) <;> simp only [go_sem, simprocAttr, PT]
def Jj (a h : Int) : Int := (2 * (a * h) + 10000) / 20000
def Gz (a h : Int) : Int × Int := if (CR a && CR h && CR (Jj a h)) = true then (Jj a h, 0) else (0, 11)
theorem Mu (n : Int) : CR n = true ↔ -1099511627776 <= n /\ n <= 1099511627776 := by unfold CR; simp
theorem Ot {a h : Int} (hf : (CR a && CR h && CR (Jj a h)) = false) : Gz a h = (0, 11) := by unfold Gz; rw [if_neg (by rw [hf]; decide)]
theorem AiK {a h : Int} (hf : (CR a && CR h && CR (Jj a h)) = true) : Gz a h = (Jj a h, 0) := by unfold Gz; rw [if_pos hf]
def CG (l : List Nat) : List (List V) := l.map fun (k : Nat) => [V.int .i64 (k : Int)]
def Ez (l : List Int) : List (List V) := l.map fun n => [V.int .u64 n]
theorem Ke (l : List Nat) : (CG l).length = l.length := Ac _
theorem Vn (l : List Int) : (Ez l).length = l.length := Ac _
theorem AbO (l : List Nat) (i : Nat) (d : List V) (h : i < l.length) : (CG l).getD i d = [.int .i64 ((l.getD i 0 : Nat) : Int)] := by
 unfold CG; rw [Ap _ _ _ _ h, Cu _ _ _ h]
theorem AnI (l : List Int) (i : Nat) (d : List V) (h : i < l.length) : (Ez l).getD i d = [.int .u64 (l.getD i 0)] := by
 unfold Ez; rw [Ap _ _ _ _ h, Cu _ _ _ h]
theorem Ah9 (l : List Nat) (i v : Nat) : (CG l).set i [.int .i64 (v : Int)] = CG (l.set i v) := by unfold CG; rw [JW]
theorem AnK (l : List Int) (i : Nat) (v : Int) : (Ez l).set i [.int .u64 v] = Ez (l.set i v) := by unfold Ez; rw [JW]
theorem Gy (l : List Nat) : (∀ r ∈ CG l, V.purs r = true) ↔ True := iff_true_intro fun r hr => by obtain ⟨x, _, rfl⟩ := An.1 hr; rfl
theorem GB (l : List Int) : (∀ r ∈ Ez l, V.purs r = true) ↔ True := iff_true_intro fun r hr => by obtain ⟨x, _, rfl⟩ := An.1 hr; rfl
theorem AbP (l : List Nat) : (∀ r ∈ CG l, r.length = 1) ↔ True := iff_true_intro fun r hr => by obtain ⟨x, _, rfl⟩ := An.1 hr; rfl
theorem AnJ (l : List Int) : (∀ r ∈ Ez l, r.length = 1) ↔ True := iff_true_intro fun r hr => by obtain ⟨x, _, rfl⟩ := An.1 hr; rfl
attribute [go_sem] Ke Vn Gy GB AbP AnJ
def fr (r : List Int) (k : Nat) : Int := r.getD k 0
def SO (r : List Int) (n : Nat) (d : List Nat) : List (Nat × Ob) :=
 [(1000, .box 204 [.own 1002 r.length]), (1001, .box 42 [.own 1003 n]), (1002, .arr 189 1 (Ez r)), (1003, .arr 3 1 (CG d))]
theorem Ut {s n k : Nat} (h : k ∈ List.range' s n) : s <= k /\ k < s + n := by
 simpa using h
instance (m : Nat) : Inhabited (Fin (m + 1)) := ⟨0⟩
def EU {n : Nat} (k : Fin n) : Value := .int .i64 ((k.val : Nat) : Int)
def ltF (f : Nat -> Int) {n : Nat} (x y : Fin n) : Bool := decide (f y.val < f x.val)
def idF (n : Nat) : Array (Fin n) := Array.ofFn fun i => i
theorem Hv (n : Nat) : (idF n).size = n := Array.size_ofFn
theorem AgU {m k : Nat} (h : k < m + 1) : ((idF (m + 1))[k]!).val = k := by
 rw [getElem!_pos _ k (by rw [Hv]; exact h)]
 simp [idF]
def Iw (f : Nat -> Int) (m : Nat) : Array (Fin (m + 1)) := Sort.insertionSort (ltF f) (idF (m + 1)) 0 (m + 1)
theorem AgI {l : List Nat} {i : Nat} (h : i < l.length) : l.getD i 0 ∈ l := by
 rw [AI, AY h]; exact AF h
def msT (f : Nat -> Int) (l : List Nat) : List Nat := match l.length with
 | 0 => []
 | m + 1 => (Iw f m).toList.map Fin.val
theorem Adt (f : Nat -> Int) (m : Nat) : (Iw f m).size = m + 1 /\ ((Iw f m).toList.map Fin.val).Perm (List.range' 0 (m + 1)) := by
 obtain ⟨h1, _, h3⟩ : Sort.PermIn 0 (m + 1) (idF (m + 1)) (Iw f m) :=
  (Sort.insertionSort_holds (lt := ltF f) ⟨fun x => by simp [ltF], fun x y z h1 h2 => by simp only [ltF, decide_eq_true_eq] at *; omega, fun x y z h1 h2 => by simp only [ltF, decide_eq_false_iff_not] at *; omega⟩ (idF (m + 1)) 0 (m + 1) (Ar _) (by rw [Hv]; exact Az _)).1
 rw [Hv] at h1
 have e1 : (Iw f m).extract 0 (m + 1) = Iw f m := by
  have := Array.extract_size (xs := Iw f m)
  rwa [h1] at this
 have e2 : (idF (m + 1)).extract 0 (m + 1) = idF (m + 1) := by
  have := Array.extract_size (xs := idF (m + 1))
  rwa [Hv] at this
 rw [e1, e2] at h3
 refine ⟨h1, ?_⟩
 have e3 : (idF (m + 1)).toList.map Fin.val = List.range' 0 (m + 1) := by
  apply List.ext_getElem
  ·simp [idF]
  ·intro i a b; rw [GQ, Array.getElem_toList, List.getElem_range']; simp only [idF, Array.getElem_ofFn]; omega
 rw [<- e3]
 exact h3.map _
theorem Qq {f : Nat -> Int} (n : Nat) : (msT f (List.range' 0 n)).Perm (List.range' 0 n) := by
 unfold msT
 rw [Gx]
 cases n with
 | zero => exact .refl _
 | succ m => exact (Adt f m).2
theorem AkZ {r : List Int} {k : Nat} {d : List Nat} {n : Nat} {t sz rows} (h : mkH (SO r k d) n = some (.arr t sz rows)) : n = 1002 /\ t = 189 /\ sz = 1 /\ rows = Ez r \/ n = 1003 /\ t = 3 /\ sz = 1 /\ rows = CG d := by
 simp only [SO, mkH] at h
 repeat' split at h
 all_goals first | (rename_i e; subst e; injection h with h; injection h with h1 h2 h3; subst h1 h2 h3; simp; done) | (injection h with h; cases h) | cases h
theorem AhS (r : List Int) (n : Nat) (d : List Nat) (d' : List Nat) : BL (mkH (SO r n d)) 1003 (.arr 3 1 (CG d')) = mkH (SO r n d') := by
 funext m
 unfold BL
 simp only [SO, mkH]
 by_cases e : m = 1003
 ·subst e; simp
 ·rw [if_neg e, if_neg e, if_neg e]
theorem Ab1 {w : World} {t : TypeId} {v : Value} {n : Nat} {xs : List Value} (h : w.ownsRow 0 t 1 v n xs) (h0 : 0 < n) : ∃ g cap cur, v = .slice (some ⟨g, 0, none⟩) n cap /\ w.heap[g]? = some (.cells cur t (0, 0)) /\ n <= cap /\ cap <= maxLen /\ cur.size = cap /\ cur.toList.take n = xs := by
 rcases h.2 with ⟨_, e⟩ | ⟨g, cap, cur, e, _, hh, h1, h2, h3, h4⟩
 ·omega
 ·exact ⟨g, cap, cur, e, hh, h1, h2, by simpa using h3, by simpa using h4⟩
theorem pin_inv {M : Nat -> Prop} {w : World} {ι : Nat -> Value} {h : Nat -> Option Ob} {cv cv' : Value} (r : Rel M w ι h (.pin cv) cv') : cv' = cv := by cases r with | pur hp => cases hp; rfl
def NR : TypeInfo := (Tryz.prog.info? 3).get (by kernel_rfl)
def Abc : TypeInfo := (Tryz.prog.info? 42).get (by kernel_rfl)
theorem swK (n : Nat) (h2 : 2 <= n) : Lib.swapperK n NR 2 = 5 := by
 have a : NR.hasPointers = false := by kernel_rfl
 have b : NR.bytes = 8 := by kernel_rfl
 have c : (n == 0) = false := by simp; omega
 have d : (n == 1) = false := by simp; omega
 simp [Lib.swapperK, a, b, c, d]
section
variable {U : Tbl} {h h' : Nat -> Option Ob} {w w1 w' : World} {M M' : Nat -> Prop} {ι ι' : Nat -> Value} {X : Nat -> Prop}
theorem Mem.later {C : Ctx U} (hm : Mem C h w M ι) (hb : Below w.heap.size w w1) : Mem C h w1 M ι :=
 hm.grow (fun _ x => x) (fun b hb' => Je (hm.lt b hb') hb.size) (fun _ _ x => x) hb
end
theorem AeU (w : World) (os : Array Obj) : Below w.heap.size w (Sort.grow w os) := ⟨rfl, rfl, rfl, by simp [Sort.grow], fun k hk => Sort.heap_grow_old w os hk⟩
theorem ptr_inv {M : Nat -> Prop} {w : World} {ι : Nat -> Value} {h : Nat -> Option Ob} {n off : Nat} {cv : Value} (r : Rel M w ι h (.ptr n off) cv) : ∃ b t cells, h n = some (.box t cells) /\ ι n = .pointer (some ⟨b, 0, none⟩) /\ cv = .pointer (some ⟨b, off, none⟩) := by
 cases r with
 | pur hp => cases hp
 | ptrb _ _ b t cells ho hb => exact ⟨b, t, cells, ho, hb, rfl⟩
theorem Ag7 {M : Nat -> Prop} {w : World} {ι : Nat -> Value} {h : Nat -> Option Ob} {tt : TypeId} {n len : Nat} {cv : Value} (r : Rel M w ι h (.iown tt n len) cv) : ∃ t sz rows v, cv = .iface tt v /\ h n = some (.arr t sz rows) /\ (rows.length = len -> v = ι n) := by
 cases r with
 | pur hp => cases hp
 | iown _ _ _ t sz rows v ho hle hv hs => exact ⟨t, sz, rows, v, rfl, ho, hv⟩
theorem own_inv {M : Nat -> Prop} {w : World} {ι : Nat -> Value} {h : Nat -> Option Ob} {n len : Nat} {cv : Value} (r : Rel M w ι h (.own n len) cv) : ∃ t sz rows, h n = some (.arr t sz rows) /\ (rows.length = len -> cv = ι n) := by
 cases r with
 | pur hp => cases hp
 | own _ _ t sz rows _ ho hle hv hs => exact ⟨t, sz, rows, ho, hv⟩
theorem Ahv (g g2 c c2 b0 b1 n o o2 : Nat) (hn : n <= 20) (W : World) (r : List Int) (G : Nat -> Nat) (h0 : W.cell? ⟨b0, 0, none⟩ = some (.slice (some ⟨g2, o2, none⟩) n c2)) (h1 : W.cell? ⟨b1, 0, none⟩ = some (.slice (some ⟨g, o, none⟩) n c))
  (hr : ∀ t, t < n -> W.cell? ⟨g2, o2 + t, none⟩ = some (.int .u64 (r.getD t 0))) (ho : ∀ t, t < n -> W.cell? ⟨g, o + t, none⟩ = some (.int .i64 (G t))) (hG : ∀ t, t < n -> G t < n) (i j : Nat) (hi : i < n) (hj : j < n) :
  Calls Tryz.prog 145 #[.int .i64 i, .int .i64 j, .pointer (some ⟨b0, 0, none⟩), .pointer (some ⟨b1, 0, none⟩)] W fun e w' => e = .returned (.bool (decide (fr r (G j) < fr r (G i)))) /\ ∃ q, w' = W.drewN q := by
 have ci := ho i hi
 have cj := ho j hj
 have ri := hr (G i) (hG i hi)
 have rj := hr (G j) (hG j hj)
 have gi := hG i hi
 have gj := hG j hj
 unfold fr
 go_enter Tryz.func145, Tryz.ntmps145
 go_wp2
 go_quiet (fail)
 go_wp2
 go_ret
 exact ⟨rfl, nq, rfl⟩
theorem Ai7 {α : Type} [Inhabited α] (enc : α -> Value) (w : World) (g : Nat) (d : Array α) {c : Array Value} {e : TypeId} {fz : Nat × Nat} (hb : w.heap[g]? = some (.cells c e fz)) : (Sort.putRow enc w g 0 d).heap[g]? = some (.cells (Sort.putCells enc 0 d c) e fz) := by
 simp [Sort.putRow, Sort.mapBlock, Array.getElem?_modify, hb, Sort.onCells]
theorem Ai4 {α : Type} [Inhabited α] (enc : α -> Value) (w : World) {g k : Nat} (d : Array α) (hk : k ≠ g) : (Sort.putRow enc w g 0 d).heap[k]? = w.heap[k]? := by
 simp [Sort.putRow, Sort.mapBlock, Array.getElem?_modify, Ne.symm hk]
theorem Ai9 {α : Type} [Inhabited α] (enc : α -> Value) (d : Array α) (c : Array Value) (h : d.size <= c.size) : (Sort.putCells enc 0 d c).toList.take d.size = d.toList.map enc := by
 apply List.ext_getElem
 ·simp [Sort.putCells]; omega
 ·intro k h1 h2
  have hk : k < d.size := by simpa using h2
  simp [Sort.putCells, hk]
theorem Ah8 {d : List Nat} {k m : Nat} {row : List V} {v : V} (h1 : (CG d)[k]? = some row) (h2 : row[m]? = some v) : m = 0 /\ ∃ h : k < d.length, v = .int .i64 ((d[k] : Nat) : Int) := by
 have hk : k < d.length := by have := (BS.1 h1).1; rwa [Ke] at this
 unfold CG at h1
 rw [BE, AY hk] at h1
 injection h1 with h1
 subst h1
 obtain rfl : m = 0 := by have := (BS.1 h2).1; simp at this; omega
 injection h2 with h2
 exact ⟨rfl, hk, h2.symm⟩
theorem Xl {M : Nat -> Prop} {w : World} {ι : Nat -> Value} {h : Nat -> Option Ob} {n m len b : Nat} {t t2 : TypeId} {sz : Nat} {rows : List (List V)} (ho : obR M w ι h n (.box t [.own m len])) (hr : h m = some (.arr t2 sz rows)) (hl : rows.length = len) (hb : ι n = .pointer (some ⟨b, 0, none⟩)) : w.cell? ⟨b, 0, none⟩ = some (ι m) /\ b < w.heap.size := by
 obtain ⟨b', cs, e, hh, hsz, _, hv⟩ := ho
 rw [hb] at e
 obtain rfl : b = b' := by injection e with e; injection e with e; injection e
 obtain ⟨t', sz', rows', h1, h2⟩ := own_inv (hv 0 _ rfl)
 rw [hr] at h1
 injection h1 with h1
 injection h1 with _ _ h1
 subst h1
 refine ⟨?_, (GM.1 hh).1⟩
 have h0 : 0 < cs.size := by simpa using hsz.symm ▸ Nat.zero_lt_one
 rw [<- h2 hl]
 unfold World.cell?
 rw [hh]
 simp [Array.getD, h0]
theorem Alg (r : List Int) (n : Nat) (hr : r.length = n) (h1 : 1 <= n) (hbig : n <= 20) :
  Eff Tryz.prog UT 144 [.iown 42 1003 n, .fn 145 [.ptr 1000 0, .ptr 1001 0]] (SO r n (List.range' 0 n)) (.tup []) (SO r n (msT (fr r) (List.range' 0 n))) := by
 refine .inl ⟨⟨_, Tryz.func144, by kernel_rfl, by kernel_rfl⟩, fun w M ι cargs hm hsz hargs => ?_⟩
 obtain ⟨m, rfl⟩ : ∃ m, n = m + 1 := ⟨n - 1, by omega⟩
 have o0 := hm.obj 1000 _ rfl
 have o1 := hm.obj 1001 _ rfl
 obtain ⟨xs, hown, _, hx1, hv⟩ := hm.obj 1003 (.arr 3 1 (CG (List.range' 0 (m + 1)))) rfl
 obtain ⟨ys, hown2, _, _, hv2⟩ := hm.obj 1002 (.arr 189 1 (Ez r)) rfl
 rw [Ke, Gx] at hown
 rw [Vn, hr] at hown2
 obtain ⟨g, cap, cur, eι, hg, hc1, hc2, hc3, hc4⟩ := Ab1 hown (by omega)
 obtain ⟨g2, cap2, cur2, eι2, hg2, _, _, _, _⟩ := Ab1 hown2 (by omega)
 have e0 : cargs.getD 0 undef = .iface 42 (.slice (some ⟨g, 0, none⟩) (m + 1) cap) := by
  obtain ⟨t, sz, rows, cv, e, ho, hv⟩ := Ag7 (hargs 0 _ rfl)
  rw [e]
  rcases AkZ ho with ⟨e, _⟩ | ⟨_, _, _, rfl⟩
  ·cases e
  ·rw [hv (by rw [Ke, Gx]), eι]
 obtain ⟨cs, e1, hcl, hcr⟩ := (hargs 1 _ rfl).fn_inv
 have hcargs : cargs = #[.iface 42 (.slice (some ⟨g, 0, none⟩) (m + 1) cap), .func (.func 145) #[] cs] := by
  rw [<- e0, <- e1]
  refine Array.ext (by simpa using hsz) fun k hk _ => ?_
  have hk4 : k < 2 := by rw [hsz] at hk; exact hk
  match k, hk4 with
  | 0, _ => simp [Array.getD, show 0 < cargs.size by omega]
  | 1, _ => simp [Array.getD, show 1 < cargs.size by omega]
 rw [hcargs]
 rcases Og 1 (m + 1) with h2 | h2
 ·obtain ⟨b0, _, _, _, p0, q0⟩ := ptr_inv (hcr 0 _ rfl)
  obtain ⟨b1, _, _, _, p1, q1⟩ := ptr_inv (hcr 1 _ rfl)
  obtain ⟨c0, l0⟩ := Xl o0 (m := 1002) rfl (by rw [Vn]) p0
  obtain ⟨c1, l1⟩ := Xl o1 (m := 1003) rfl (by rw [Ke, Gx]) p1
  have hcs : cs = #[.pointer (some ⟨b0, 0, none⟩), .pointer (some ⟨b1, 0, none⟩)] := by
   rw [<- q0, <- q1]
   have hs2 : cs.size = 2 := hcl.symm
   refine Array.ext (by simpa using hs2) fun k hk _ => ?_
   have hk4 : k < 2 := by rw [hs2] at hk; exact hk
   match k, hk4 with
   | 0, _ => simp [Array.getD, show 0 < cs.size by omega]
   | 1, _ => simp [Array.getD, show 1 < cs.size by omega]
  have d0 : b0 ≠ g := fun e => by have := hm.dis 1000 1003 g rfl rfl (by rw [p0, e]; rfl) (by rw [eι]; rfl); cases this
  have d1 : b1 ≠ g := fun e => by have := hm.dis 1001 1003 g rfl rfl (by rw [p1, e]; rfl) (by rw [eι]; rfl); cases this
  have d2 : g2 ≠ g := fun e => by have := hm.dis 1002 1003 g rfl rfl (by rw [eι2, e]; rfl) (by rw [eι]; rfl); cases this
  have lg : g < w.heap.size := (GM.1 hg).1
  have lg2 : g2 < w.heap.size := (GM.1 hg2).1
  rw [eι2] at c0 hown2
  rw [eι] at c1 hown
  have hxs : ∀ k, k < m + 1 -> xs[k]? = some (.int .i64 ((k : Nat) : Int)) := fun k hk => by
   have hl : k < xs.length := by rw [hown.1]; omega
   have := (hv k 0 [.int .i64 ((k : Nat) : Int)] (.int .i64 ((k : Nat) : Int)) (by unfold CG; rw [BE, List.getElem?_range' hk]; simp) rfl).int_inv
   rw [AY hl, <- this, FT, FS, AI, AY hl]
   rfl
  have hys : ∀ k, k < m + 1 -> w.cell? ⟨g2, 0 + k, none⟩ = some (.int .u64 (r.getD k 0)) := fun k hk => by
   have hl : k < ys.length := by rw [hown2.1]; omega
   have hkr : k < r.length := by omega
   have := (hv2 k 0 [.int .u64 (r.getD k 0)] (.int .u64 (r.getD k 0)) (by unfold Ez; rw [BE, AY hkr, Cu _ _ _ hkr]; rfl) rfl).int_inv
   rw [Cw, hown2.cellAt k (by omega), AY hl, <- this, FT, FS, AI, AY hl]
   rfl
  have hH : Sort.Holds EU w g 0 (idF (m + 1)) := fun k hk => by
   rw [Hv] at hk
   rw [Cw]
   exact ⟨by rw [hown.cellAt k (by omega), hxs k hk, EU, AgU hk], hown.frozenAt k⟩
  have hless : LessReads (α := Fin (m + 1)) Tryz.prog 145 cs EU (ltF (fr r)) g 0 (idF (m + 1)).size w := by
   intro q os dk hs i j hi hj
   rw [Hv] at hs hi hj
   rw [hcs]
   have hW : ∀ (a : Addr), a.block < w.heap.size -> a.block ≠ g -> (sortWorld EU w g 0 q dk os).cell? a = w.cell? a := fun a h1 h2 => by
    unfold sortWorld
    rw [Sort.cell?_grow _ _ _ (by rw [Sort.size_putRow]; exact h1), Sort.cell?_putRow_other _ _ _ _ _ _ (.inl h2)]; rfl
   refine (Ahv g g2 cap cap2 b0 b1 (m + 1) 0 0 hbig _ r (fun t => (dk[t]!).val) ((hW _ l0 d0).trans c0) ((hW _ l1 d1).trans c1) (fun t ht => (hW _ lg2 d2).trans (hys t ht)) (fun t ht => ?_) (fun t ht => (dk[t]!).isLt) i j hi hj).mono ?_
   ·unfold sortWorld
    rw [Sort.cell?_grow _ _ _ (by rw [Sort.size_putRow EU]; exact lg)]
    exact Sort.cell?_putRow EU _ g 0 (idF (m + 1)) dk (Sort.holds_ahead _ _ _ _ _ _ hH) (by rw [hs, Hv]) t (by omega)
   ·rintro e w' ⟨rfl, q2, rfl⟩
    exact ⟨rfl, q2, rfl⟩
  have hS := Any.sort_SliceStable_small Tryz.laysGt8 42 3 Abc NR (by kernel_rfl) (by kernel_rfl) (by kernel_rfl) (by kernel_rfl) 2 (fun _ => by kernel_rfl) (by kernel_rfl) (fun _ => by kernel_rfl) EU (fun _ => rfl) (ltF (fr r)) 145 cs
   (enters_of Tryz.func145 (by kernel_rfl) rfl) g 0 cap (idF (m + 1)) (by rw [Hv]; omega) (by rw [Hv]; omega) 219 (by rw [Hv, swK _ h2]; kernel_rfl) true
   (fun args W => run_callFunc_extern Tryz.func219 (by kernel_rfl) (by kernel_rfl) (by kernel_rfl) (e := Extern.ReflectliteSwapper.swap true) (by kernel_rfl) args W) w hless hH lg
  rw [Hv] at hS
  refine hS.mono ?_
  rintro e w' ⟨rfl, q, os, rfl⟩
  change ∃ cv M' ι', _
  obtain ⟨hs1, hs2⟩ := Adt (fr r) m
  have hms : msT (fr r) (List.range' 0 (m + 1)) = (Iw (fr r) m).toList.map Fin.val := by unfold msT; rw [Gx]
  have hml : (msT (fr r) (List.range' 0 (m + 1))).length = m + 1 := by rw [hms, Ac, EI, hs1]
  have hsrt : Sort.insertionSort (ltF (fr r)) (idF (m + 1)) 0 (m + 1) = Iw (fr r) m := rfl
  rw [hsrt]
  generalize hd : Iw (fr r) m = d at hs1 hms
  have hids : Ei ι 1003 (ι 1003) = ι := by funext m; unfold Ei; split <;> simp_all
  have hg' : (Sort.grow (Sort.putRow EU (Sort.ahead w q) g 0 d) os).heap[g]? = some (.cells (Sort.putCells EU 0 d cur) 3 (0, 0)) := by
   rw [Sort.heap_grow_old _ _ (by rw [Sort.size_putRow EU]; exact lg)]
   exact Ai7 EU (Sort.ahead w q) g d hg
  generalize hw1 : Sort.grow (Sort.putRow EU (Sort.ahead w q) g 0 d) os = w1 at hg'
  have hkeep : Keeps (mkH (SO r (m + 1) (List.range' 0 (m + 1)))) (BL (mkH (SO r (m + 1) (List.range' 0 (m + 1)))) 1003 (.arr 3 1 (CG (msT (fr r) (List.range' 0 (m + 1)))))) ι (Ei ι 1003 (ι 1003)) :=
   Keeps.put (o := .arr 3 1 (CG (List.range' 0 (m + 1)))) rfl (.inr (.inl ⟨_, _, _, _, rfl, rfl, by rw [Ke, Ke, hml, Gx]; exact Az _, fun _ => rfl⟩))
  have hblk : ∀ k, k < w.heap.size -> (∀ o, mkH (SO r (m + 1) (List.range' 0 (m + 1))) 1003 = some o -> blk (ι 1003) ≠ some k) -> w1.heap[k]? = w.heap[k]? := fun k hk hne => by
   have hkg : k ≠ g := fun e => hne _ rfl (by rw [eι, e]; rfl)
   rw [<- hw1, Sort.heap_grow_old _ _ (by rw [Sort.size_putRow EU]; exact hk), Ai4 EU _ _ hkg]; rfl
  have hob : obR M w1 (Ei ι 1003 (ι 1003)) (BL (mkH (SO r (m + 1) (List.range' 0 (m + 1)))) 1003 (.arr 3 1 (CG (msT (fr r) (List.range' 0 (m + 1)))))) 1003 (.arr 3 1 (CG (msT (fr r) (List.range' 0 (m + 1))))) := by
   rw [hids]
   refine ⟨d.toList.map EU, ?_, AbP _ |>.2 trivial, fun x hx => ?_, fun k j row v h1 h2 => ?_⟩
   ·rw [Ke, hml, eι]
    refine ⟨by simp [hs1], .inr ⟨g, cap, _, rfl, Ar _, hg', hc1, hc2, by simp [Sort.putCells, hc3], ?_⟩⟩
    have := Ai9 EU d cur (by omega)
    rw [hs1] at this
    rw [FT]; exact this
   ·obtain ⟨y, _, rfl⟩ := An.1 hx; rfl
   ·obtain ⟨rfl, hk, rfl⟩ := Ah8 h1 h2
    have hk2 : k < d.toList.length := by rw [hms, Ac] at hk; exact hk
    rw [show k * 1 + 0 = k by omega, Cu _ _ _ (by rw [Ac]; exact hk2), GQ]
    have : (msT (fr r) (List.range' 0 (m + 1)))[k] = (d.toList[k]).val := by simp only [hms, GQ]
    rw [this]
    exact .pur (.int _ _)
  obtain ⟨s1, s2⟩ := hm.step 1003 (.arr 3 1 (CG (msT (fr r) (List.range' 0 (m + 1))))) (ι 1003) w1 (by rw [<- hw1]; simp [Sort.grow]) (by rw [<- hw1]; rfl) (by rw [<- hw1]; rfl) (by rw [<- hw1]; rfl) hblk (fun q hq => .inl ⟨_, rfl, hq⟩) hkeep hob (fun _ => rfl) (fun _ => ⟨fun _ _ h => (by cases h), fun _ h => (by cases h)⟩)
  rw [hids, AhS] at s1
  exact ⟨_, M, ι, rfl, .pur (.tup [] #[] rfl (fun i v hi => by cases hi)), s1⟩
 ·obtain rfl : m = 0 := by omega
  have hS := Any.sort_SliceStable_tiny Tryz.laysGt8 42 3 Abc NR (by kernel_rfl) (by kernel_rfl) (by kernel_rfl) (by kernel_rfl) 2 (fun _ => by kernel_rfl) (some ⟨g, 0, none⟩) 1 cap (Az _) 216 (by kernel_rfl) (.func 145) #[] cs w
  refine hS.mono ?_
  rintro e w' ⟨rfl, os, rfl⟩
  rw [show msT (fr r) (List.range' 0 (0 + 1)) = List.range' 0 (0 + 1) from List.perm_singleton.1 (Qq 1)]
  exact ⟨_, M, ι, rfl, .pur (.tup [] #[] rfl (fun i v hi => by cases hi)), hm.later (AeU w os)⟩
def stepT (s w : Int) : Int := if s <= 1099511627776 then s + min w 1099511627777 else s
def Dk (s : Int) : List Int -> Int × Int
 | [] => if s = 0 then (0, 2) else (s, 0)
 | w :: l => if w < 0 then (0, 2) else Dk (stepT s w) l
def Mr (l : List Int) : Prop × V := (l.length <= 140737488355328, Am (Dk 0 l))
theorem BQ (l : List Int) : gOf aLi Mr [.list (Aq l) false] = (l.length <= 140737488355328, Am (Dk 0 l)) := Al VT l
theorem Alj {s w : Int} (h0 : 0 <= s) (h1 : s <= 2199023255553) (hw : 0 <= w) : 0 <= stepT s w /\ stepT s w <= 2199023255553 := by
 unfold stepT; split <;> omega
theorem AmS : PU 139 (gOf aLi Mr) := by
 have hG := AH
 refine YU.a VT (by simp [aLi]) ?_
 rintro l hv C hN Q hQ
 have Z := YU.R EF0 hG hN
 replace hv : l.length <= 140737488355328 := hv
 refine Aa (Z 0 rfl ?_)
 simp only [go_sem, simprocAttr, aLi, tNo]
 refine Aa (Z 1 rfl ?_)
 simp only [go_sem, simprocAttr, tNo]
 refine Aa (Aa (Z 2 rfl ?_))
 simp only [go_sem, simprocAttr, tNo]
 refine Ao ?_
 refine AX (α := Nat × Int) (fun γ => (γ.1 <= l.length) /\ (Dk 0 l = Dk γ.2 (l.drop γ.1)) /\ (0 <= γ.2) /\ (γ.2 <= 2199023255553)) (fun γ => ⟨mkE [(4, .int .i64 γ.2), (7, V.list (Aq l) false), (8, V.int IntKind.i64 ↑l.length), (9, .int .i64 γ.1)], mkH []⟩) (fun γ => l.length - γ.1) (0, 0) ⟨Ar _, rfl, by omega, by omega⟩ ?_ ?_
 ·exact leM
 rintro ⟨i, s⟩ ⟨hi, hs, h0, h1⟩ KL0 hKL0
 try dsimp only at *
 refine Aa (Z 3 rfl ?_)
 simp only [go_sem, simprocAttr, tNo]
 refine Aa ?_
 refine Ae rfl (fun hc3 => ?_) fun hc3 => ?_
 ·simp only [hcL] at hc3
  refine Af ?_
  refine Aa (Ao ?_)
  have hd := DS hc3
  rw [hd, Dk] at hs
  generalize hxx : l[i] = x at hs
  refine Aa (Z 4 rfl ?_)
  simp only [go_sem, simprocAttr, GL _ _ _ hc3, hc3, hxx, tNo]
  and_intros <;> try exact sdA
  refine Aa (Aa (Z 5 rfl ?_))
  simp only [go_sem, simprocAttr, tNo]
  refine Ae rfl (fun hc5 => ?_) fun hc5 => ?_
  ·simp only [hcL] at hc5
   refine Aa (Z 6 rfl ?_)
   simp only [go_sem, simprocAttr, tNo]
   refine Ad (hQ _ _ (.inl rfl) ?_ ?_ ?_) <;> simp only [go_sem, simprocAttr, Mr]
   rw [hs, if_pos hc5]; rfl
  simp only [hcL] at hc5
  rw [if_neg (by omega)] at hs
  have hbd := Alj (w := x) h0 h1 (by omega)
  refine Af ?_
  refine Aa (Z 7 rfl ?_)
  simp only [go_sem, simprocAttr, tNo]
  refine Ae rfl (fun hc7 => ?_) fun hc7 => ?_
  ·simp only [hcL] at hc7
   have hst : stepT s x = s + min x 1099511627777 := by unfold stepT; rw [if_pos (by omega)]
   refine Z 8 rfl ?_
   simp only [go_sem, simprocAttr, inI, tNo]
   and_intros <;> try exact sdA
   refine Z 9 rfl ?_
   simp only [go_sem, simprocAttr, inI, tNo]
   and_intros <;> try exact sdA
   refine hKL0 (i + 1, stepT s x) _ ?_ ?_ ?_
   ·(try dsimp only); exact ⟨hc3, hs, hbd.1, hbd.2⟩
   ·(try dsimp only); omega
   refine Le.mk _ _ ?_ ?_ rfl <;> simp only [go_sem, simprocAttr, hst] <;> and_intros <;> try exact leA
  simp only [hcL] at hc7
  have hst : stepT s x = s := by unfold stepT; rw [if_neg (by omega)]
  refine Af ?_
  refine Z 9 rfl ?_
  simp only [go_sem, simprocAttr, inI, tNo]
  and_intros <;> try exact sdA
  refine hKL0 (i + 1, stepT s x) _ ?_ ?_ ?_
  ·(try dsimp only); exact ⟨hc3, hs, hbd.1, hbd.2⟩
  ·(try dsimp only); omega
  refine Le.mk _ _ ?_ ?_ rfl <;> simp only [go_sem, simprocAttr, hst] <;> and_intros <;> try exact leA
 simp only [hcL] at hc3
 refine AS ?_
 simp only [go_sem, simprocAttr]
 refine Aa ?_
 have hie : i = l.length := Qm hi hc3
 subst hie
 rw [List.drop_length, Dk] at hs
 refine Aa (Z 10 rfl ?_)
 simp only [go_sem, simprocAttr, tNo]
 refine Ae rfl (fun hc10 => ?_) fun hc10 => ?_
 ·simp only [hcL] at hc10
  refine Aa (Z 11 rfl ?_)
  simp only [go_sem, simprocAttr, tNo]
  refine Ad (hQ _ _ (.inl rfl) ?_ ?_ ?_) <;> simp only [go_sem, simprocAttr, Mr]
  rw [hs, if_pos hc10]; rfl
 simp only [hcL] at hc10
 refine Af ?_
 refine Aa (Z 12 rfl ?_)
 simp only [go_sem, simprocAttr, tNo]
 refine Ad (hQ _ _ (.inl rfl) ?_ ?_ ?_) <;> simp only [go_sem, simprocAttr, Mr]
 rw [hs, if_neg hc10]; rfl
def GO (nb na ns nl n : Nat) (sg left : Int) (xs : List Int) : List (Nat × Ob) :=
 [(nb, .box 42 [.own na n]), (na, .arr 3 1 (Aq xs)), (ns, .box 3 [.int .i64 sg]), (nl, .box 3 [.int .i64 left])]
theorem AgM (n : Nat) (sg left k : Int) (xs : List Int) (i : Nat) (hn : xs.length = n) (hi : i < xs.length) (h1 : inI (sg * k)) (h2 : inI (xs[i] + sg * k)) (h3 : inI (left - k)) :
  Eff Tryz.prog UT 142 [.int .i64 i, .int .i64 k, .ptr 1000 0, .ptr 1002 0, .ptr 1003 0] (GO 1000 1001 1002 1003 n sg left xs) (.tup []) (GO 1000 1001 1002 1003 n sg (left - k) (xs.set i (xs[i] + sg * k))) := by
 have hG := AH
 have hi2 : i < n := hn ▸ hi
 have h1u := h1
 have h2u := h2
 have h3u := h3
 unfold inI at h1u h2u h3u
 refine YW.e (by simp) fun C hN Q hQ => ?_
 have Z := YW.R EF0 hG hN
 refine Aa (He (EF := EF0) hG mixed (by rw [hN]; exact AmU) Aij ?_)
 simp only [Rq, XK, go_sem, simprocAttr, inI, hn, GL _ _ _ hi, ints_set, GO, tNo]
 and_intros <;> try exact sdA
 refine Z 1 rfl ?_
 simp only [go_sem, simprocAttr, inI, GO, tNo]
 and_intros <;> try exact sdA
 show Q _ _
 refine hQ _ _ ⟨mkE [], mkH (GO 1000 1001 1002 1003 n sg (left - k) (xs.set i (xs[i] + sg * k)))⟩ (.inr rfl) (Le.mk _ _ ?_ ?_ rfl) rfl ?_ ?_ <;> simp only [go_sem, simprocAttr, GO]
theorem Aa5 {dd : Option Nat} {s : St} {K : St -> Prop} {n : Nat} {sg left left' k j : Int} {xs xs' : List Int} (i : Nat) (hj : j = i) (hn : xs.length = n) (hi : i < xs.length) (h1 : inI (sg * k)) (h2 : inI (xs[i] + sg * k)) (h3 : inI (left - k)) (hx : xs.set i (xs[i] + sg * k) = xs') (hl : left - k = left')
  (a0 : s.h 10 = some (.box 42 [.own 44 n])) (a1 : s.h 44 = some (.arr 3 1 (Aq xs))) (a2 : s.h 9 = some (.box 3 [.int .i64 sg])) (a3 : s.h 8 = some (.box 3 [.int .i64 left]))
  (hK : K ⟨BX dd (.tup []) s.e, hov (GO 10 44 9 8 n sg left' xs') s.h⟩) : CX Tryz.prog UT dd 142 [.int .i64 j, .int .i64 k, .ptr 10 0, .ptr 9 0, .ptr 8 0] s K := by
 subst hj hx hl
 refine ⟨[(1000, 10), (1001, 44), (1002, 9), (1003, 8)], [], _, _, _, _, AgM n sg left k xs i hn hi h1 h2 h3, ⟨by decide, rfl, rfl, by simp, by simp, ?_, by simp [V.rens, V.ren, rni], by simp [V.nins, V.nin], by simp [V.nin, V.nins], ?_, ?_⟩, ?_⟩
 ·intro p hp
  simp only [AK, CS, or_false] at hp
  rcases hp with rfl | rfl | rfl | rfl
  ·exact ⟨_, a0, by simp [GO, mkH, Ob.ren, BA ((Gt _).2 trivial), BA ((GB _).2 trivial), BA ((Gy _).2 trivial), V.rens, V.ren, rni], by simp [Ob.nin, V.nins, V.nin]⟩
  ·exact ⟨_, a1, by simp [GO, mkH, Ob.ren, BA ((Gt _).2 trivial), BA ((GB _).2 trivial), BA ((Gy _).2 trivial)], by simp only [Ob.nin, true_or, Gt]⟩
  ·exact ⟨_, a2, by simp [GO, mkH, Ob.ren, BA ((Gt _).2 trivial), BA ((GB _).2 trivial), BA ((Gy _).2 trivial), V.rens, V.ren], by simp [Ob.nin, V.nins, V.nin]⟩
  ·exact ⟨_, a3, by simp [GO, mkH, Ob.ren, BA ((Gt _).2 trivial), BA ((GB _).2 trivial), BA ((Gy _).2 trivial), V.rens, V.ren], by simp [Ob.nin, V.nins, V.nin]⟩
 ·intro q hq
  simp only [GO, AK, CS, or_false] at hq
  rcases hq with rfl | rfl | rfl | rfl
  ·simp [Ob.nin, V.nins, V.nin, GO]
  ·simp only [Ob.nin, true_or, Gt]
  ·simp [Ob.nin, V.nins, V.nin]
  ·simp [Ob.nin, V.nins, V.nin]
 ·intro p hp o o' h1 h2
  simp only [AK, CS, or_false] at hp
  rcases hp with rfl | rfl | rfl | rfl <;> simp [GO, mkH] at h1 h2 <;> subst h1 h2 <;> simp [Ob.kind]
 ·have e2 : (GO 1000 1001 1002 1003 n sg (left - k) (xs.set i (xs[i] + sg * k))).map (fun q => (rn ([(1000, 10), (1001, 44), (1002, 9), (1003, 8)] ++ []) q.1, q.2.ren (rn ([(1000, 10), (1001, 44), (1002, 9), (1003, 8)] ++ [])))) = GO 10 44 9 8 n sg (left - k) (xs.set i (xs[i] + sg * k)) := by
   simp [GO, rn, Ob.ren, BA ((Gt _).2 trivial), BA ((GB _).2 trivial), BA ((Gy _).2 trivial), V.rens, V.ren]
  rw [show (V.tup []).ren (rn ([(1000, 10), (1001, 44), (1002, 9), (1003, 8)] ++ [])) = V.tup [] by simp [V.ren, V.rens], e2]
  exact hK
def SP (r : List Int) (n : Nat) (d : List Nat) : List (Nat × Ob) :=
 [(11, .box 204 [.own 47 r.length]), (18, .box 42 [.own 79 n]), (47, .arr 189 1 (Ez r)), (79, .arr 3 1 (CG d))]
theorem Ak0 {dd : Option Nat} {s : St} {K : St -> Prop} {r : List Int} {n : Nat} (hr : r.length = n) (h1 : 1 <= n) (hbig : n <= 20)
  (a0 : s.h 11 = some (.box 204 [.own 47 n])) (a1 : s.h 18 = some (.box 42 [.own 79 n])) (a2 : s.h 47 = some (.arr 189 1 (Ez r))) (a3 : s.h 79 = some (.arr 3 1 (CG (List.range' 0 n))))
  (hK : K ⟨BX dd (.tup []) s.e, hov (SP r n (msT (fr r) (List.range' 0 n))) s.h⟩) : CX Tryz.prog UT dd 144 [.iown 42 79 n, .fn 145 [.ptr 11 0, .ptr 18 0]] s K := by
 refine ⟨[(1000, 11), (1001, 18), (1002, 47), (1003, 79)], [], _, _, _, _, Alg r n hr h1 hbig, ⟨by decide, rfl, rfl, by simp, by simp, ?_, by simp [V.rens, V.ren, rni], by simp [V.nins, V.nin], by simp [V.nin, V.nins], ?_, ?_⟩, ?_⟩
 ·intro p hp
  simp only [AK, CS, or_false] at hp
  rcases hp with rfl | rfl | rfl | rfl
  ·exact ⟨_, a0, by simp [SO, mkH, Ob.ren, BA ((Gt _).2 trivial), BA ((GB _).2 trivial), BA ((Gy _).2 trivial), V.rens, V.ren, rni, hr], by simp [Ob.nin, V.nins, V.nin]⟩
  ·exact ⟨_, a1, by simp [SO, mkH, Ob.ren, BA ((Gt _).2 trivial), BA ((GB _).2 trivial), BA ((Gy _).2 trivial), V.rens, V.ren, rni], by simp [Ob.nin, V.nins, V.nin]⟩
  ·exact ⟨_, a2, by simp [SO, mkH, Ob.ren, BA ((Gt _).2 trivial), BA ((GB _).2 trivial), BA ((Gy _).2 trivial)], by simp only [Ob.nin, true_or, GB]⟩
  ·exact ⟨_, a3, by simp [SO, mkH, Ob.ren, BA ((Gt _).2 trivial), BA ((GB _).2 trivial), BA ((Gy _).2 trivial)], by simp only [Ob.nin, true_or, Gy]⟩
 ·intro q hq
  simp only [SO, AK, CS, or_false] at hq
  rcases hq with rfl | rfl | rfl | rfl
  ·simp [Ob.nin, V.nins, V.nin, SO]
  ·simp [Ob.nin, V.nins, V.nin, SO]
  ·simp only [Ob.nin, true_or, GB]
  ·simp only [Ob.nin, true_or, Gy]
 ·intro p hp o o' h1 h2
  simp only [AK, CS, or_false] at hp
  rcases hp with rfl | rfl | rfl | rfl <;> simp [SO, mkH] at h1 h2 <;> subst h1 h2 <;> simp [Ob.kind]
 ·have e2 : (SO r n (msT (fr r) (List.range' 0 n))).map (fun q => (rn ([(1000, 11), (1001, 18), (1002, 47), (1003, 79)] ++ []) q.1, q.2.ren (rn ([(1000, 11), (1001, 18), (1002, 47), (1003, 79)] ++ [])))) = SP r n (msT (fr r) (List.range' 0 n)) := by
   simp [SO, SP, rn, Ob.ren, BA ((Gt _).2 trivial), BA ((GB _).2 trivial), BA ((Gy _).2 trivial), V.rens, V.ren]
  rw [show (V.tup []).ren (rn ([(1000, 11), (1001, 18), (1002, 47), (1003, 79)] ++ [])) = V.tup [] by simp [V.ren, V.rens], e2]
  exact hK
end Go.Proofs.YtjkclhbckfkeeaaGreatDoor
end
