import Derived.Test.YtjkclhbckfkeeaaGreatDoorHoV
import Derived.Test.YtjkclhbckfkeeaaGreatDoorT5
import Derived.WalkKit
import Derived.ProofKit
import Derived.RangeFuncNested
import Derived.RangeFuncBound
import Derived.RangeFuncCalls
import Derived.RangeFuncLeaves
import Derived.Shelf.Abstract
import Derived.Shelf.RegionOpen
import Derived.OwnWalkIn
import Derived.TacticsInMore
import Derived.LoopNIn
import Derived.LoopIn
import Derived.OpenShut
import Derived.SizedLaws
import Derived.Test.YtjkclhbckfkeeaaGreatDoorAv22
import Derived.Test.YtjkclhbckfkeeaaGreatDoorRows
set_option linter.unusedSimpArgs false
set_option linter.unusedVariables false
set_option linter.deprecated false
set_option maxHeartbeats 8000000
noncomputable section
namespace Go.Proofs.YtjkclhbckfkeeaaGreatDoor
open Go Go.RowKit
theorem Abc : ∃ F : Int -> Bool, (∀ x, True -> RNr x (F x)) /\ PU 26 (gOf aI1 fun x => (True, vBB (F x))) := by
 have hG := AJ
 refine Zm.p (val := vBB) (R := RNr) IN (by simp [aI1]) ?_
 rintro n hv Q hQ
 have Z := Zm.T EF0 hG
 refine Aa (Z 0 rfl ?_)
 simp only [go_sem, simprocAttr, aI1]
 refine Aa (Z 1 rfl ?_)
 simp only [go_sem, simprocAttr]
 and_intros <;> try exact sdA
 refine Ae (hQ _ _ (.inl rfl) ?_ ?_ ?_) <;> simp only [go_sem, simprocAttr, vBB]
 exact ⟨_, rfl, fun e => by simpa using e⟩
def fNt : Int -> Bool := Abc.choose
theorem AhG : PU 26 (gOf aI1 fun x => (True, vBB (fNt x))) := Abc.choose_spec.2
theorem Ma (n : Int) : gOf aI1 (fun x => (True, vBB (fNt x))) [.int .i64 n] = (True, .bool (fNt n)) := Al (F := fun x => (True, vBB (fNt x))) IN n
theorem UP : ∃ F : List Want -> Bool, (∀ x : List Want, x.length <= 1000000 -> RTi x (F x)) /\ PU 27 (gOf aWs fun x => (x.length <= 1000000, vBB (F x))) := by
 have hG := AJ
 refine Zn.p (val := vBB) (R := RTi) OC (by simp [aWs]) ?_
 rintro W hv Q hQ
 have Z := Zn.T EF0 hG
 have h1 : W.length <= 1000000 := hv
 refine Aa (Z 0 rfl ?_)
 simp only [go_sem, simprocAttr, aWs]
 refine Aa (Aa (Z 1 rfl ?_))
 simp only [go_sem, simprocAttr]
 refine Aq ?_
 refine Ba (α := Nat) (fun i => (i <= W.length) /\ (∀ w ∈ W.take i, GC w.seg)) (fun i => ⟨mkE [(0, V.list (List.map Want.enc W) false), (3, .int .i64 i)], mkH []⟩) (fun i => W.length - i) 0 ⟨As _, fun p hp => by simp at hp⟩ ?_ ?_
 ·exact leM
 rintro i ⟨hi, hk⟩ KL0 hKL0
 try dsimp only at *
 refine Aa (Aa (Z 2 rfl ?_))
 simp only [go_sem, simprocAttr, Ac]
 refine Ad rfl (fun hc2 => ?_) fun hc2 => ?_
 ·simp only [hcL] at hc2
  refine Af ?_
  refine Aa (Aq ?_)
  obtain ⟨⟨⟨ca, nu, da, fr, to, de, ar⟩, cl⟩, hw⟩ : ∃ w, w = W[i] := ⟨_, rfl⟩
  refine Aa (Z 4 rfl ?_)
  simp only [go_sem, simprocAttr, Ap _ _ _ _ hc2, hc2, Ac, <- hw, Want.enc]
  and_intros <;> try exact sdA
  refine Ad rfl (fun hb4 => ?_) fun hb4 => ?_
  ·refine Aa (Z 5 rfl ?_)
   simp only [go_sem, simprocAttr]
   refine Ae (hQ _ _ (.inl rfl) ?_ ?_ ?_) <;> simp only [go_sem, simprocAttr, vBB]
   exact ⟨false, rfl, fun e => by cases e⟩
  simp only [Cg, decide_eq_false_iff_not] at hb4
  refine Af ?_
  refine Z 3 rfl ?_
  simp only [go_sem, simprocAttr, inI]
  and_intros <;> try exact sdA
  refine hKL0 (i + 1) _ ?_ ?_ ?_
  ·(try dsimp only); exact ⟨hc2, Mo hk hc2 (by rw [<- hw]; exact ⟨⟨show 0 <= de by omega, show de <= 52596000 by omega⟩, show 0 <= ar by omega, show ar <= 52596000 by omega⟩)⟩
  ·(try dsimp only); omega
  exact leM
 simp only [hcL] at hc2
 rw [BR hc2] at hk
 refine AX ?_
 simp only [go_sem, simprocAttr]
 refine Aa (Z 6 rfl ?_)
 simp only [go_sem, simprocAttr]
 refine Ae (hQ _ _ (.inl rfl) ?_ ?_ ?_) <;> simp only [go_sem, simprocAttr, vBB]
 exact ⟨true, rfl, fun _ => hk⟩
def fTt : List Want -> Bool := UP.choose
theorem Anq : ∀ x : List Want, x.length <= 1000000 -> RTi x (fTt x) := UP.choose_spec.1
theorem Anr : PU 27 (gOf aWs fun x => (x.length <= 1000000, vBB (fTt x))) := UP.choose_spec.2
theorem Mq (W : List Want) : gOf aWs (fun x => (x.length <= 1000000, vBB (fTt x))) [.list (W.map Want.enc) false] = (W.length <= 1000000, .bool (fTt W)) := Al (F := fun x => (x.length <= 1000000, vBB (fTt x))) OC W
def RSl (p : Places) (b : Bool) : Prop := b = true -> p.airports.length <= 12 /\ p.distances.length <= 20 /\ Ic p = []
def tSl : Tab
 | 43 => (gOf aP1 Ph)
 | _ => gNo
theorem AlY : ∀ f, PU f (tSl f) := fun f => by
 unfold tSl
 split
 ·exact AiZ
 ·exact Aj.no
theorem Ui : ∃ F : Places -> Bool, (∀ p : Places, p.ok -> RSl p (F p)) /\ PU 25 (gOf aP1 fun p => (p.ok, vBB (F p))) := by
 have hG := AlY
 refine Zj.p (val := vBB) (R := RSl) Ow (by simp [aP1]) ?_
 rintro ⟨ps, ds⟩ hv Q hQ
 have Z := Zj.T EF0 hG
 obtain ⟨⟨p1, p3⟩, p2, p4⟩ : Places.ok ⟨ps, ds⟩ := hv
 dsimp only at p1 p2 p3 p4
 refine Aa (Z 0 rfl ?_)
 simp only [go_sem, simprocAttr, aP1, Places.enc, tSl, RO]
 by_cases hz : (decide ((ps.length : Int) <= 12) && decide ((ds.length : Int) <= 20)) = true
 ·have hz2 := hz
  simp only [Bx, decide_eq_true_eq] at hz2
  have hS : Sm ⟨ps, ds⟩ := ⟨by dsimp only; omega, by dsimp only; omega, p3⟩
  obtain ⟨A, hA⟩ : ∃ A, A = Ic ⟨ps, ds⟩ := ⟨_, rfl⟩
  have hA1 : A.length <= 140737488355328 := by rw [hA]; exact AeI hS
  refine Aa (Z 1 rfl ?_)
  simp only [go_sem, simprocAttr, tSl, RO, Ac, hz, hS, <- hA, EW, Tk, hA1]
  and_intros <;> try exact sdA
  refine Ae (hQ _ _ (.inl rfl) ?_ ?_ ?_) <;> simp only [go_sem, simprocAttr, vBB]
  exact ⟨decide (A = []), rfl, fun e => ⟨by dsimp only; omega, by dsimp only; omega, by rw [<- hA]; simpa using e⟩⟩
 replace hz := LH.2 hz
 refine Aa (Z 1 rfl ?_)
 simp only [go_sem, simprocAttr, tSl, RO, Ac, hz]
 and_intros <;> try exact sdA
 refine Ae (hQ _ _ (.inl rfl) ?_ ?_ ?_) <;> simp only [go_sem, simprocAttr, vBB]
 exact ⟨false, rfl, fun e => by cases e⟩
def fSl : Places -> Bool := Ui.choose
theorem Aks : ∀ p : Places, p.ok -> RSl p (fSl p) := Ui.choose_spec.1
theorem Akt : PU 25 (gOf aP1 fun p => (p.ok, vBB (fSl p))) := Ui.choose_spec.2
theorem Mh (ps : List Airport) (ds : List Distance) : gOf aP1 (fun p => (p.ok, vBB (fSl p))) [.agg [.list (ps.map Airport.enc) false, .list (ds.map Distance.enc) false]] = (Places.ok ⟨ps, ds⟩, .bool (fSl ⟨ps, ds⟩)) := Al (F := fun p => (p.ok, vBB (fSl p))) Ow (⟨ps, ds⟩ : Places)
theorem Mr (ps : List Airport) (ds : List Distance) (fs : List Fare) (rs : List Rule) (gs : List Routing) (xs : List Tax) (W : List Want) (s : List UInt8) (n : Int) (pa : List Part) (pr : List Two) (tx : List Charge) (fa to : Int) : gOf JM (fun x => (VdP x, vII (Km x))) [.agg [.list (ps.map Airport.enc) false, .list (ds.map Distance.enc) false], .agg [.list (fs.map Fare.enc) false, .list (rs.map Rule.enc) false, .list (gs.map Routing.enc) false, .list (xs.map Tax.enc) false], .list (W.map Want.enc) false, .str s, .int .i64 n, .agg [.list (pa.map Part.enc) false, .list (pr.map Two.enc) false, .list (tx.map Charge.enc) false, .int .i64 fa, .int .i64 to]] = (VdP (⟨ps, ds⟩, ⟨fs, rs, gs, xs⟩, W, s, n, ⟨pa, pr, tx, fa, to⟩), .int .i64 (Km (⟨ps, ds⟩, ⟨fs, rs, gs, xs⟩, W, s, n, ⟨pa, pr, tx, fa, to⟩))) := Al (F := fun x => (VdP x, vII (Km x))) Wj (⟨ps, ds⟩, ⟨fs, rs, gs, xs⟩, W, s, n, ⟨pa, pr, tx, fa, to⟩)
def aSq := ar (vg Paper.enc) (ar V.str (ao vi))
theorem VX : Ij aSq := ijr (ijg Paper.inj) (ijr ijs (ijo iji))
def RSq (x : Paper × List UInt8 × Int) (b : Bool) : Prop := b = true -> FitR x.1 /\ VdR (x.1.p, x.1.t, x.1.l, x.2.1, x.2.2, x.1.q)
def tSq : Tab
 | 25 => (gOf aP1 fun p => (p.ok, vBB (fSl p)))
 | 26 => (gOf aI1 fun x => (True, vBB (fNt x)))
 | 27 => (gOf aWs fun x => (x.length <= 1000000, vBB (fTt x)))
 | 28 => (gOf aPT fun x => (LnP x.1 /\ TarOk x.2, vF (fTa x)))
 | 29 => (gOf KY Ps)
 | 18 => (gOf JM fun x => (VdP x, vII (Km x)))
 | _ => gNo
theorem Al1 : ∀ f, PU f (tSq f) := fun f => by
 unfold tSq
 split
 ·exact Akt
 ·exact AhG
 ·exact Anr
 ·exact Ami
 ·exact Ajn
 ·exact AnD
 ·exact Aj.no
set_option maxRecDepth 20000 in
theorem Uq : ∃ F : Paper × List UInt8 × Int -> Bool, (∀ x, PpS x -> RSq x (F x)) /\ PU 6 (gOf aSq fun x => (PpS x, vBB (F x))) := by
 have hG := Al1
 refine fi6.p (val := vBB) (R := RSq) VX (by simp [aSq]) ?_
 rintro ⟨⟨⟨ps, ds⟩, ⟨fs, rs, gs, xs⟩, W, ⟨pa, pr, tx, fa, to⟩, ⟨la, fi, ty⟩, n, loc, d⟩, s, sl⟩ hv Q hQ
 have Z := fi6.T EF0 hG
 have hS : PpS (⟨⟨ps, ds⟩, ⟨fs, rs, gs, xs⟩, W, ⟨pa, pr, tx, fa, to⟩, ⟨la, fi, ty⟩, n, loc, d⟩, s, sl) := hv
 have hP := hS.a
 have hpo : Places.ok ⟨ps, ds⟩ := hP.p
 have hWl : W.length <= 1000000 := hP.l
 have h2 : TarOk ⟨fs, rs, gs, xs⟩ := hP.t
 have hSl := Aks _ hpo
 have hTt := Anq W hWl
 obtain ⟨b1, hb1e⟩ : ∃ b, b = fSl ⟨ps, ds⟩ := ⟨_, rfl⟩
 obtain ⟨b2, hb2e⟩ : ∃ b, b = fTt W := ⟨_, rfl⟩
 rw [<- hb1e] at hSl
 rw [<- hb2e] at hTt
 refine Aa (Z 0 rfl ?_)
 simp only [go_sem, simprocAttr, aSq, Paper.enc, tSq, Mh, Ma, Mq, Mn, Lt, Mr]
 refine Aa (Aa (Z 1 rfl ?_))
 refine Rw (aos := Rc) 29 ?_
 obtain ⟨R0, hR0⟩ : ∃ R, R = List.drop 29 Rc := ⟨_, rfl⟩
 rw [<- hR0]
 simp only [Rc, LT, HA, go_sem, simprocAttr, Ac, hpo, hWl, <- hb1e, <- hb2e, tSq, Mh, Ma, Mq, Mn, Lt, Mr]
 and_intros <;> try exact sdA
 generalize hc1 : (!b1 || decide (4 < (W.length : Int)) || !fNt sl || !b2 || decide (6 < (pa.length : Int))) = c1
 generalize hE0 : upd _ 35 _ = E1
 have e1_1 : E1 1 = .str s := by rw [<- hE0]; simp only [go_sem, simprocAttr]
 have e1_2 : E1 2 = .int .i64 sl := by rw [<- hE0]; simp only [go_sem, simprocAttr]
 have e1_3 : E1 3 = .ptr 3 0 := by rw [<- hE0]; simp only [go_sem, simprocAttr]
 have e1_35 : E1 35 = .bool c1 := by rw [<- hE0]; simp only [go_sem, simprocAttr]
 clear hE0
 subst hR0
 simp only [Rc, LA, Hb, go_sem, simprocAttr, Ac, hpo, hWl, <- hb1e, <- hb2e, tSq, Mh, Ma, Mq, Mn, Lt, Mr, e1_1, e1_2, e1_3, e1_35]
 and_intros <;> try exact sdA
 refine Ad rfl (fun hb1 => ?_) fun hb1 => ?_
 ·refine Aa (Z 2 rfl ?_)
  simp only [go_sem, simprocAttr, tSq, Mh, Ma, Mq, Mn, Lt, Mr, e1_1, e1_2, e1_3, e1_35]
  refine Ae (hQ _ _ (.inl rfl) ?_ ?_ ?_) <;> simp only [go_sem, simprocAttr, vBB]
  exact ⟨false, rfl, fun e => by cases e⟩
 rw [<- hc1] at hb1
 simp only [Cg, It, decide_eq_false_iff_not] at hb1
 obtain ⟨⟨⟨⟨⟨⟨⟨⟨⟨z1, z2⟩, z3⟩, z4⟩, z5⟩, z6⟩, z7⟩, z8⟩, z9⟩, z10⟩ := hb1
 obtain ⟨y1, y2, y3⟩ := hSl z1
 have y4 := hTt z4
 dsimp only at y1 y2
 have hL : LnP ⟨ps, ds⟩ := ⟨by dsimp only; omega, by dsimp only; omega⟩
 have hX : SmT xs := ⟨by omega, h2.xo⟩
 obtain ⟨hT1, hT2⟩ := Amh (⟨ps, ds⟩, ⟨fs, rs, gs, xs⟩) ⟨hL, h2⟩
 obtain ⟨B, hB⟩ : ∃ B, B = fTa (⟨ps, ds⟩, ⟨fs, rs, gs, xs⟩) := ⟨_, rfl⟩
 obtain ⟨C2, hC2⟩ : ∃ C2, C2 = GB xs xs.length := ⟨_, rfl⟩
 have hC1 : C2.length <= 140737488355328 := by have := Ac4 xs xs.length; rw [hC2]; omega
 rw [<- hB] at hT1 hT2
 refine Af ?_
 by_cases hz : (decide (B = []) && decide (C2 = [])) = true
 ·have hz2 := hz
  simp only [Bx, decide_eq_true_eq] at hz2
  have hF : FitR ⟨⟨ps, ds⟩, ⟨fs, rs, gs, xs⟩, W, ⟨pa, pr, tx, fa, to⟩, ⟨la, fi, ty⟩, n, loc, d⟩ := ⟨by dsimp only; omega, by dsimp only; omega, by dsimp only; omega, by dsimp only; omega, by dsimp only; omega, by dsimp only; omega, by dsimp only; omega, by dsimp only; omega, by dsimp only; omega, y3, hT2 hz2.1, by dsimp only; rw [<- hC2]; exact hz2.2⟩
  have hVp : VdP (⟨ps, ds⟩, ⟨fs, rs, gs, xs⟩, W, s, sl, ⟨pa, pr, tx, fa, to⟩) := hS.v hF (show W.length <= 4 by omega) y4
  have hVr := AnB _ hVp
  obtain ⟨v, hvv⟩ : ∃ v, v = Km (⟨ps, ds⟩, ⟨fs, rs, gs, xs⟩, W, s, sl, ⟨pa, pr, tx, fa, to⟩) := ⟨_, rfl⟩
  rw [<- hvv] at hVr
  refine Aa (Z 3 rfl ?_)
  simp only [go_sem, simprocAttr, tSq, Mh, Ma, Mq, Mn, Lt, Mr, hL, h2, hX, hT1, hC1, EW, <- hB, <- hC2, Tk, hz, hVp, <- hvv, e1_1, e1_2, e1_3, e1_35]
  and_intros <;> try exact sdA
  refine Ae (hQ _ _ (.inl rfl) ?_ ?_ ?_) <;> simp only [go_sem, simprocAttr, vBB]
  exact ⟨decide (v = 0), rfl, fun e => ⟨hF, hVr (by simpa using e)⟩⟩
 replace hz := LH.2 hz
 refine Aa (Z 3 rfl ?_)
 simp only [go_sem, simprocAttr, tSq, Mh, Ma, Mq, Mn, Lt, Mr, hL, h2, hX, hT1, hC1, EW, <- hB, <- hC2, Tk, hz, e1_1, e1_2, e1_3, e1_35]
 and_intros <;> try exact sdA
 refine Ae (hQ _ _ (.inl rfl) ?_ ?_ ?_) <;> simp only [go_sem, simprocAttr, vBB]
 exact ⟨false, rfl, fun e => by cases e⟩
def fSq : Paper × List UInt8 × Int -> Bool := Uq.choose
theorem AkN : ∀ x, PpS x -> RSq x (fSq x) := Uq.choose_spec.1
theorem AkO : PU 6 (gOf aSq fun x => (PpS x, vBB (fSq x))) := Uq.choose_spec.2
theorem Ag2 (w : World) (htab : IL w) : Calls Tryz.prog 133 #[.int .i64 2026, .int .i64 1] w fun e w' => e = .returned (.int .i64 31) /\ w = w' := by
 have hc := htab.cell PC 0 (by decide)
 go_enter Tryz.func133, Tryz.ntmps133
 go_wp2
 go_ret
 exact ⟨rfl, rfl⟩
end Go.Proofs.YtjkclhbckfkeeaaGreatDoor
namespace Go.Proofs.YtjkclhbckfkeeaaGreatDoor
open Go Go.RowKit Go.Shelf
attribute [local go_sem] Oper.semAt_some
def FH : Nat -> Int
 | 0 => 9497
 | 1 => 9498
 | 2 => 9499
 | 3 => 9500
 | 4 => 9501
 | 5 => 9502
 | 6 => 9503
 | _ => 9504
def wdK : Nat -> Int
 | 0 => 3
 | 1 => 4
 | 2 => 5
 | 3 => 6
 | 4 => 0
 | 5 => 1
 | _ => 2
def onK : Nat -> Bool
 | 2 => true
 | 3 => true
 | _ => false
theorem lt7 {k : Nat} (h : k < 7) : k = 0 \/ k = 1 \/ k = 2 \/ k = 3 \/ k = 4 \/ k = 5 \/ k = 6 := by omega
theorem AnI (F : Fence) (n : Nat) (hf : F.fn 178) (hro : F.round = none) (k : Nat) (hk : k < 7) (w : World) : CallsIn F n Tryz.prog 178 #[.int .i64 (FH k)] w fun e w' => e = .returned (.int .i64 (wdK k)) /\ w = w' := by
 rcases lt7 hk with rfl | rfl | rfl | rfl | rfl | rfl | rfl
 all_goals
  dsimp only [FH, wdK]
  refine callsIn_of_wp Tryz.func178 rfl hf ?_ hro
  simp only [Tryz.ntmps178, Gt, Aw, Ax, Nat.reduceAdd, Nat.reduceSub, LS, LR, LF, LB, Ef, DN]
  gi_wp2
  go_ret
  exact ⟨rfl, rfl⟩
theorem Aib (F : Fence) (n : Nat) (hf : F.fn 136) (hf2 : F.fn 178) (hro : F.round = none) (hn : 1 <= n) (k : Nat) (hk : k < 7) (w : World) : CallsIn F n Tryz.prog 136 #[.int .i64 96, .int .i64 (FH k)] w fun e w' => e = .returned (.bool (onK k)) /\ w = w' := by
 have h1 := AnI F (n - 1) hf2 hro k hk
 rcases lt7 hk with rfl | rfl | rfl | rfl | rfl | rfl | rfl
 all_goals
  dsimp only [FH, wdK, onK] at h1 ⊢
  refine callsIn_of_wp Tryz.func136 rfl hf ?_ hro
  simp only [Tryz.ntmps136, Gt, Aw, Ax, Nat.reduceAdd, Nat.reduceSub, LS, LR, LF, LB, Ef, DN]
  gi_wp2_with (gi_at_call 178; refine (h1 _).mono ?_; rintro e w' ⟨rfl, rfl⟩)
  go_ret
  exact ⟨rfl, rfl⟩
theorem Aik (F : Fence) (n : Nat) (hf : F.fn 135) (hro : F.round = none) (w : World) : CallsIn F n Tryz.prog 135 #[.agg #[.int .i64 9497, .int .i64 9503, .int .i64 96]] w fun e w' => e = .returned (.int .i64 0) /\ w' = w.alloc (.cells #[.int .i64 9497, .int .i64 9503, .int .i64 96] 82) := by
 refine callsIn_of_wp Tryz.func135 rfl hf ?_ hro
 simp only [Tryz.ntmps135, Gt, Aw, Ax, Nat.reduceAdd, Nat.reduceSub, LS, LR, LF, LB, Ef, DN]
 gi_wp2
 go_ret
 exact ⟨rfl, rfl⟩
theorem Aft (F : Fence) (n : Nat) (hf : F.fn 76) (hro : F.round = none) (w : World) : CallsIn F n Tryz.prog 76 #[.agg #[.int .i64 9497, .int .i64 9503, .int .i64 96]] w fun e w' => e = .returned (.func (.func 134) #[] #[.pointer (some ⟨w.heap.size, 0, none⟩)]) /\ w' = w.alloc (.cells #[.int .i64 9497, .int .i64 9503, .int .i64 96] 82) := by
 refine callsIn_of_wp Tryz.func76 rfl hf ?_ hro
 simp only [Tryz.ntmps76, Gt, Aw, Ax, Nat.reduceAdd, Nat.reduceSub, LS, LR, LF, LB, Ef, DN]
 gi_wp2
 go_ret
 exact ⟨rfl, rfl⟩
end Go.Proofs.YtjkclhbckfkeeaaGreatDoor
namespace Go.Proofs.YtjkclhbckfkeeaaGreatDoor
open Go Go.RowKit Go.Shelf
attribute [local go_sem] Oper.semAt_some
def upK : Nat -> List Int
 | 0 => []
 | 1 => []
 | 2 => []
 | 3 => [9499]
 | _ => [9499, 9500]
def KH : Obj := .cells #[.int .i64 9497, .int .i64 9503, .int .i64 96] 82 (0, 0)
theorem Abt {W : World} {B : Nat} (h : W.heap[B]? = some KH) : W.cell? ⟨B, 0, none⟩ = some (.int .i64 9497) /\ W.cell? ⟨B, 1, none⟩ = some (.int .i64 9503) /\ W.cell? ⟨B, 2, none⟩ = some (.int .i64 96) := by
 refine ⟨?_, ?_, ?_⟩ <;> simp [World.cell?, h, KH]
theorem Aio {W : World} {B : Nat} (h : W.heap[B]? = some KH) : B < W.heap.size := (FX.1 h).1
set_option maxRecDepth 100000 in
theorem Afs (F : Fence) (n : Nat) (h1 : F.fn 134) (h2 : F.fn 135) (h3 : F.fn 136) (h4 : F.fn 178) (hro : F.round = none) (hn : 3 <= n) (l Bn : Nat) (J Jx : List Int -> World -> Prop) (W : World) (hJ : AbidesFrom W.heap.size J)
  (hY : ∀ pre x W1, J pre W1 -> pre.length < 2 -> YieldAt F (n - 1) Tryz.prog l #[.int .i64 x] W1 fun e W' =>
   (e = .returned (.bool true) /\ J (pre ++ [x]) W' /\ W'.heap[Bn]? = W1.heap[Bn]?) \/ (e = .returned (.bool false) /\ Jx (pre ++ [x]) W'))
  (hBn : W.heap[Bn]? = some KH) (h0 : J [] W) :
  CallsIn F n Tryz.prog 134 #[.func (.yield l) #[] #[], .pointer (some ⟨Bn, 0, none⟩)] W fun e W' => (∃ v, e = .returned v) /\
   ((∃ ys, ys = [9499, 9500] /\ J ys W') \/ (∃ pre : List Int, True /\ Jx pre W')) := by
 obtain ⟨c0, c1, c2⟩ := Abt hBn
 have hlt := Aio hBn
 refine callsIn_of_wp Tryz.func134 rfl h1 ?_ hro
 simp only [Tryz.ntmps134, Gt, Aw, Ax, Nat.reduceAdd, Nat.reduceSub, LS, LR, LF, LB, Ef, DN]
 have h1n : 1 <= n := by omega
 gi_wp2_with (gi_at_call 135; refine (Aik F (n - 1) h2 hro _).mono ?_; rintro e w' ⟨rfl, rfl⟩)
 gi_loopw [3] (fun p wr => ∃ k : Nat, k <= 7 /\ p = .int .i64 (FH k) /\ J (upK k) wr /\ wr.heap[Bn]? = some KH) (fun p wr => (9504 - intOf p).toNat)
 case atStart =>
  exact ⟨0, by omega, rfl, hJ [] W _ none h0 (World.grownBy_alloc W _ none) (fun r e => by cases e), (Below.heap_alloc W _ Bn hlt).trans hBn⟩
 case round =>
  obtain ⟨k, hk, rfl, hJs, hBr⟩ := hrel
  obtain ⟨b0, b1, b2⟩ := Abt hBr
  have hcase : k = 7 \/ k < 7 := by omega
  rcases hcase with rfl | hk7
  ·dsimp only [FH, upK] at hJs ⊢
   gi_wp2
   go_end0
   exact ⟨⟨_, rfl⟩, .inl hJs⟩
  ·have hon := Aib F (n - 1) h3 h4 hro (by omega) k hk7
   rcases lt7 hk7 with rfl | rfl | rfl | rfl | rfl | rfl | rfl
   ·dsimp only [FH, onK, upK] at hon hJs ⊢
    gi_wp2_with (gi_at_call 136; refine (hon _).mono ?_; rintro e w' ⟨rfl, rfl⟩)
    refine ⟨fun _ h => (by cases h), ?_⟩
    gi_wp2
    go_roundw
    case rel => exact ⟨1, by omega, rfl, hJs, hBr⟩
    case measure => decide
   ·dsimp only [FH, onK, upK] at hon hJs ⊢
    gi_wp2_with (gi_at_call 136; refine (hon _).mono ?_; rintro e w' ⟨rfl, rfl⟩)
    refine ⟨fun _ h => (by cases h), ?_⟩
    gi_wp2
    go_roundw
    case rel => exact ⟨2, by omega, rfl, hJs, hBr⟩
    case measure => decide
   ·dsimp only [FH, onK, upK] at hon hJs ⊢
    obtain ⟨fn, tmps, assign, body, hy, hR⟩ := hY [] 9499 wr hJs (by decide)
    gi_wp2_with (gi_at_call 136; refine (hon _).mono ?_; rintro e w' ⟨rfl, rfl⟩)
    refine hR.mono ?_
    rintro e W3 (⟨rfl, hJ3, hk3⟩ | ⟨rfl, hJx3⟩)
    ·gi_wp2
     go_roundw
     case rel => exact ⟨3, by omega, rfl, hJ3, hk3.trans hBr⟩
     case measure => decide
    ·gi_wp2
     refine bodyPost_ret (results_none rfl _ _ _) rfl ?_
     exact ⟨⟨_, rfl⟩, .inr ⟨_, trivial, hJx3⟩⟩
   ·dsimp only [FH, onK, upK] at hon hJs ⊢
    obtain ⟨fn, tmps, assign, body, hy, hR⟩ := hY [9499] 9500 wr hJs (by decide)
    gi_wp2_with (gi_at_call 136; refine (hon _).mono ?_; rintro e w' ⟨rfl, rfl⟩)
    refine hR.mono ?_
    rintro e W3 (⟨rfl, hJ3, hk3⟩ | ⟨rfl, hJx3⟩)
    ·gi_wp2
     go_roundw
     case rel => exact ⟨4, by omega, rfl, hJ3, hk3.trans hBr⟩
     case measure => decide
    ·gi_wp2
     refine bodyPost_ret (results_none rfl _ _ _) rfl ?_
     exact ⟨⟨_, rfl⟩, .inr ⟨_, trivial, hJx3⟩⟩
   ·dsimp only [FH, onK, upK] at hon hJs ⊢
    gi_wp2_with (gi_at_call 136; refine (hon _).mono ?_; rintro e w' ⟨rfl, rfl⟩)
    refine ⟨fun _ h => (by cases h), ?_⟩
    gi_wp2
    go_roundw
    case rel => exact ⟨5, by omega, rfl, hJs, hBr⟩
    case measure => decide
   ·dsimp only [FH, onK, upK] at hon hJs ⊢
    gi_wp2_with (gi_at_call 136; refine (hon _).mono ?_; rintro e w' ⟨rfl, rfl⟩)
    refine ⟨fun _ h => (by cases h), ?_⟩
    gi_wp2
    go_roundw
    case rel => exact ⟨6, by omega, rfl, hJs, hBr⟩
    case measure => decide
   ·dsimp only [FH, onK, upK] at hon hJs ⊢
    gi_wp2_with (gi_at_call 136; refine (hon _).mono ?_; rintro e w' ⟨rfl, rfl⟩)
    refine ⟨fun _ h => (by cases h), ?_⟩
    gi_wp2
    go_roundw
    case rel => exact ⟨7, by omega, rfl, hJs, hBr⟩
    case measure => decide
end Go.Proofs.YtjkclhbckfkeeaaGreatDoor
namespace Go.Proofs.YtjkclhbckfkeeaaGreatDoor
open Go Go.RowKit Go.Shelf
attribute [local go_sem] Oper.semAt_some
def cnW : List Int -> Int := List.foldl (fun s _ => wrap64 (s + 1)) 0
theorem AeT (pre : List Int) (x : Int) : cnW (pre ++ [x]) = wrap64 (cnW pre + 1) := by simp [cnW]
theorem AeC {W : World} {B : Nat} {v : Value} {t : TypeId} (h : W.heap[B]? = some (.cells #[v] t (0, 0))) : W.cell? ⟨B, 0, none⟩ = some v /\ W.frozen? ⟨B, 0, none⟩ = false := by
 constructor <;> simp [World.cell?, World.frozen?, h]
theorem AeD (W : World) (v : Value) (t : TypeId) : (W.alloc (.cells #[v] t)).cell? ⟨W.heap.size, 0, none⟩ = some v /\ (W.alloc (.cells #[v] t)).frozen? ⟨W.heap.size, 0, none⟩ = false := AeC (World.alloc_heap_new W _)
theorem AeB {W : World} {a : Addr} {v : Value} (o : Obj) (h : W.cell? a = some v) : (W.alloc o).cell? a = some v := cell_kept h (World.grownBy_alloc W o none) (fun r e => by cases e)
theorem Agd {W : World} {a : Addr} {v : Value} (o : Obj) (h : W.cell? a = some v) (hf : W.frozen? a = false) : (W.alloc o).frozen? a = false := (frozen_kept h (World.grownBy_alloc W o none) (fun r e => by cases e)).trans hf
theorem Afu (F : Fence) (n : Nat) (h1 : F.fn 134) (h2 : F.fn 135) (h3 : F.fn 136) (h4 : F.fn 178) (hro : F.round = none) (hn : 3 <= n) (Bn : Nat) (w : World) (hlt : Bn < w.heap.size) (hBn : w.heap[Bn]? = some KH) :
  SeqStopsK F n Tryz.prog 134 #[.pointer (some ⟨Bn, 0, none⟩)] (fun x : Int => #[Value.int .i64 x]) (fun A B => B.heap[Bn]? = A.heap[Bn]?) (fun ys => ys = [9499, 9500]) (fun _ => True) 2 w := fun l J Jx W hW hJ _ hY h0 =>
 Afs F n h1 h2 h3 h4 hro hn l Bn J Jx W hJ hY ((hW.block Bn hlt).trans hBn) h0
set_option maxRecDepth 100000 in
theorem AeZ (F : Fence) (n : Nat) (h0 : F.fn 31) (h1 : F.fn 134) (h2 : F.fn 135) (h3 : F.fn 136) (h4 : F.fn 178) (h5 : F.fn 76) (hro : F.round = none) (hn : 5 <= n) (w : World) :
  CallsIn F n Tryz.prog 31 #[.agg #[.int .i64 9497, .int .i64 9503, .int .i64 96]] w fun e W' => e = .returned (.int .i64 2) /\ Below w.heap.size w W' := by
 have hn1 : 1 <= n := by omega
 refine callsIn_of_wp_marks Tryz.func31 rfl h0 ?_ hro
 simp only [Tryz.ntmps31, Gt, Aw, Ax, Nat.reduceAdd, Nat.reduceSub, LS, LR, LF, LB, Ef, DN]
 gi_wp2_with (gi_at_call 76; refine (Aft F (n - 1) h5 hro _).mono ?_; rintro e w' ⟨rfl, rfl⟩)
 obtain ⟨w1, hw1⟩ : ∃ w1, w.alloc (.cells #[.int .i64 9497, .int .i64 9503, .int .i64 96] 82) = w1 := ⟨_, rfl⟩
 have hs1 : w1.heap.size = w.heap.size + 1 := by rw [<- hw1, World.size_alloc]
 rw [hw1]
 have hs := AeD w1 (.int .i64 0) 3
 rw [hs1] at hs
 obtain ⟨w2, hw2⟩ : ∃ w2, w1.alloc (.cells #[.int .i64 0] 3) = w2 := ⟨_, rfl⟩
 have hs2 : w2.heap.size = w.heap.size + 1 + 1 := by rw [<- hw2, World.size_alloc, hs1]
 rw [hw2] at hs ⊢
 have hb : (w2.alloc (.cells #[.int .i64 9497, .int .i64 9503, .int .i64 96] 82)).heap[w.heap.size + 1 + 1]? = some KH := by
  have := World.alloc_heap_new w2 (.cells #[.int .i64 9497, .int .i64 9503, .int .i64 96] 82)
  rw [hs2] at this; exact this
 have hB0 : Below w.heap.size w (w2.alloc (.cells #[.int .i64 9497, .int .i64 9503, .int .i64 96] 82)) := by
  rw [<- hw2, <- hw1]
  exact (((LQ _ w).alloc (AF _) _).alloc (by simp) _).alloc (by simp; omega) _
 have hs3 : (w2.alloc (.cells #[.int .i64 9497, .int .i64 9503, .int .i64 96] 82)).heap.size = w.heap.size + 1 + 1 + 1 := by rw [World.size_alloc, hs2]
 refine wpIn_rangeFunc_ownF hro hn1 (gf := 134) (lb := #[.pointer (some ⟨w.heap.size + 1 + 1, 0, none⟩)]) rfl h1 (enters_of Tryz.func134 (by kernel_rfl) rfl)
  (Afu F (n - 1) h1 h2 h3 h4 hro (by omega) (w.heap.size + 1 + 1) _ (by rw [hs3]; omega) hb) (fun h1 h2 => h2.trans h1)
  (fun W l o o' hle _ _ _ => World.putObj_heap_other (by rw [hs3] at hle; omega)) (LQ _ _) (fun _ => rfl)
  (fun pre W => (W.cell? ⟨w.heap.size + 1, 0, none⟩ = some (.int .i64 (cnW pre)) /\ W.frozen? ⟨w.heap.size + 1, 0, none⟩ = false) /\ Below w.heap.size w W)
  (fun _ _ _ => False)
  (OwnFrom.and (Own.from (fun s A B row hs hg hr => ⟨cell_kept hs.1 hg hr, (frozen_kept hs.1 hg hr).trans hs.2⟩) _) (ownFrom_below (AF _) (by rw [hs3]; omega)))
  (fun _ _ _ _ _ hs _ _ => hs)
  ⟨⟨AeB _ hs.1, Agd _ hs.1 hs.2⟩, hB0⟩
  (fun x => { tmps := #[.agg #[.int .i64 9497, .int .i64 9503, .int .i64 96], .pointer (some ⟨w.heap.size, 0, none⟩), .int .i64 0, .pointer (some ⟨w.heap.size + 1, 0, none⟩), .agg #[.int .i64 9497, .int .i64 9503, .int .i64 96], .func (.func 134) #[] #[.pointer (some ⟨w.heap.size + 1 + 1, 0, none⟩)], .int .i64 x, undef, undef, undef], defers := [] }) ?assign ?body ?done ?stop
 case assign =>
  intro l x W K hK
  gi_wp2
  simpa using hK
 case body =>
  rintro l pre x W ⟨⟨hc, hf⟩, hB⟩ _
  gi_wp2
  exact ⟨KeepsOthers.setCell _ _ _, Below.heap_setCell W _ _ _ (by simp), ⟨by rw [AeT]; exact World.cell?_setCell_same' _ _ _ (by rw [hc]; rfl), by rw [World.frozen?_setCell]; exact hf⟩, hB.setCell (p := ⟨w.heap.size + 1, 0, none⟩) (by simp) _⟩
 case done =>
  rintro D ys W hD rfl ⟨⟨hc, _⟩, hB⟩ hK
  rw [show cnW [9499, 9500] = 2 by kernel_rfl] at hc
  gi_wp2
  refine ⟨by simp, .inl ⟨_, _, rfl, run_takeDeferred hK, ?_⟩⟩
  exact ⟨_, results_tmp rfl _ _ _, rfl, hB.trans (belowK_b (w := w) (AF _) W D _ _ (by rw [hs3] at hD; omega) hK rfl rfl)⟩
 case stop =>
  rintro D c pre W _ _ h _
  exact h.elim
theorem Ad0 {cargs : Array Value} (h : cargs.size = 1) : cargs = #[cargs.getD 0 undef] := by
 obtain ⟨l⟩ := cargs
 match l, h with
 | [a], _ => rfl
theorem Ad2 {cargs : Array Value} (h : cargs.size = 2) : cargs = #[cargs.getD 0 undef, cargs.getD 1 undef] := by
 obtain ⟨l⟩ := cargs
 match l, h with
 | [a, b], _ => rfl
theorem Ad1 {cargs : Array Value} (h : cargs.size = 3) : cargs = #[cargs.getD 0 undef, cargs.getD 1 undef, cargs.getD 2 undef] := by
 obtain ⟨l⟩ := cargs
 match l, h with
 | [a, b, c], _ => rfl
theorem NT {M : Nat -> Prop} {w : World} {k : IntKind} {n : Int} {cv : Value} (h : Pur M w (.int k n) cv) : cv = .int k n := by cases h; rfl
def ED : List V -> Prop × V
 | [.int .i64 y, .int .i64 m] => (y = 2026 /\ m = 1, .int .i64 31)
 | _ => (False, .any)
theorem Ag3 : PU 133 ED := by
 refine Aj.leaf Tryz.func133 rfl AhA fun vs M w cargs hg hB hsz ha => ?_
 unfold ED at hg ⊢
 split at hg
 ·obtain ⟨rfl, rfl⟩ := hg
  have e0 := NT (ha 0 _ rfl)
  have e1 := NT (ha 1 _ rfl)
  rw [Ad2 hsz, e0, e1]
  refine (Ag2 w (utL hB)).mono ?_
  rintro e w' ⟨rfl, rfl⟩
  exact ⟨_, rfl, fun _ => .int _ _, LQ _ _⟩
 ·exact hg.elim
def Nj : List V -> Prop × V
 | [.agg [.int .i64 a, .int .i64 b, .int .i64 c]] => (a = 9497 /\ b = 9503 /\ c = 96, .int .i64 2)
 | _ => (False, .any)
theorem Ae0 : PU 31 Nj := by
 refine Aj.leaf Tryz.func31 rfl (by kernel_rfl) fun vs M w cargs hg hB hsz ha => ?_
 unfold Nj at hg ⊢
 split at hg
 ·obtain ⟨rfl, rfl, rfl⟩ := hg
  have h0 := ha 0 _ rfl
  rw [Ad0 hsz]
  generalize cargs.getD 0 undef = cv at h0
  cases h0 with
  | agg _ cs hl ho hv =>
  have e0 := NT (hv 0 _ rfl)
  have e1 := NT (hv 1 _ rfl)
  have e2 := NT (hv 2 _ rfl)
  rw [Ad1 hl.symm, e0, e1, e2]
  refine ((callsIn_wide (n := 5)).1 (AeZ Fence.wide 5 trivial trivial trivial trivial trivial trivial rfl (by omega) w)).mono ?_
  rintro e w' ⟨rfl, hb⟩
  exact ⟨_, rfl, fun _ => .int _ _, hb⟩
 ·exact hg.elim
def aDy := ao vi
theorem IM : Ij aDy := ijo iji
def Pl (y : Int) : Prop × V := (2000 <= y /\ y <= 10000, .int .i64 (365 * (y - 2000) + (y - 2000 + 3).tdiv 4))
theorem FO (y : Int) : gOf aDy Pl [.int .i64 y] = (2000 <= y /\ y <= 10000, .int .i64 (365 * (y - 2000) + (y - 2000 + 3).tdiv 4)) := Al IM y
theorem Af7 : PU 132 (gOf aDy Pl) := by
 have hG := AJ
 refine Yh.a IM (by simp [aDy]) ?_
 rintro y hv C hN Q hQ
 have Z := Yh.R EF0 hG hN
 obtain ⟨h1, h2⟩ : 2000 <= y /\ y <= 10000 := hv
 have hd : -3000 <= (y - 2000 + 3).tdiv 4 /\ (y - 2000 + 3).tdiv 4 <= 10000 := by
  rw [Kz (by omega)]; omega
 refine Ab (Z 0 rfl ?_)
 simp only [go_sem, simprocAttr, aDy]
 refine Ab (Z 1 rfl ?_)
 simp only [go_sem, simprocAttr, inI]
 and_intros <;> try exact sdA
 refine Ab (Z 2 rfl ?_)
 simp only [go_sem, simprocAttr, inI]
 and_intros <;> try exact sdA
 refine Ag (hQ _ _ (.inl rfl) ?_ ?_ ?_) <;> simp only [go_sem, simprocAttr, Pl]
def MO (d : Int) : Prop × V := (d = 9497, .tup [.int .i64 2026, .int .i64 1, .int .i64 1])
theorem Pj : gOf aDy MO [.int .i64 9497] = (True, .tup [.int .i64 2026, .int .i64 1, .int .i64 1]) := (Al IM 9497).trans (by simp [MO])
def Fk : Tab
 | 132 => (gOf aDy Pl)
 | 133 => ED
 | _ => gNo
theorem Alm : ∀ f, PU f (Fk f) := fun f => by
 unfold Fk
 split
 ·exact Af7
 ·exact Ag3
 ·exact Aj.no
theorem Afc : PU 74 (gOf aDy MO) := by
 have hG := Alm
 refine ZK.a IM (by simp [aDy]) ?_
 rintro d hv C hN Q hQ
 have Z := ZK.R EF0 hG hN
 obtain rfl : d = 9497 := hv
 refine Ab (Z 0 rfl ?_)
 simp only [go_sem, simprocAttr, aDy, Fk, FO, ED, Int.reduceLT, Int.reduceLE, Int.reduceAdd, Int.reduceSub, Int.reduceMul, Int.reduceTDiv, Int.reduceTMod, Int.reduceEq, Int.reduceNeg, decide_true, decide_false, Bl]
 refine Ab (Ab (Z 1 rfl ?_))
 simp only [go_sem, simprocAttr, Fk, FO, ED, Int.reduceLT, Int.reduceLE, Int.reduceAdd, Int.reduceSub, Int.reduceMul, Int.reduceTDiv, Int.reduceTMod, Int.reduceEq, Int.reduceNeg, decide_true, decide_false, Bl]
 and_intros <;> try exact sdA
 refine DC rfl ?_
 refine Ah ?_
 refine Ab (Z 3 rfl ?_)
 simp only [go_sem, simprocAttr, inI, Fk, FO, ED, Int.reduceLT, Int.reduceLE, Int.reduceAdd, Int.reduceSub, Int.reduceMul, Int.reduceTDiv, Int.reduceTMod, Int.reduceEq, Int.reduceNeg, decide_true, decide_false, Bl]
 and_intros <;> try exact sdA
 refine Ab (Ar ?_)
 refine Bj (α := Nat) (fun i => (i <= 1)) (fun i => ⟨mkE [(0, V.int IntKind.i64 9497), (5, .int .i64 (2025 + (i : Int)))], mkH []⟩) (fun i => 1 - i) 0 (by omega) ?_ ?_
 ·exact leM
 rintro i hi KL0 hKL0
 try dsimp only at *
 refine Ab ?_
 by_cases h0 : i = 0
 ·subst h0
  refine Ab (Z 4 rfl ?_)
  simp only [go_sem, simprocAttr, inI, Fk, FO, ED, Int.reduceLT, Int.reduceLE, Int.reduceAdd, Int.reduceSub, Int.reduceMul, Int.reduceTDiv, Int.reduceTMod, Int.reduceEq, Int.reduceNeg, decide_true, decide_false, Bl]
  and_intros <;> try exact sdA
  refine GF rfl ?_
  refine Ah ?_
  refine Ar (Z 5 rfl ?_)
  simp only [go_sem, simprocAttr, inI, Fk, FO, ED, Int.reduceLT, Int.reduceLE, Int.reduceAdd, Int.reduceSub, Int.reduceMul, Int.reduceTDiv, Int.reduceTMod, Int.reduceEq, Int.reduceNeg, decide_true, decide_false, Bl]
  and_intros <;> try exact sdA
  refine hKL0 (1) _ ?_ ?_ ?_
  ·(try dsimp only); omega
  ·omega
  exact leM
 obtain rfl : i = 1 := by omega
 refine Ab (Z 4 rfl ?_)
 simp only [go_sem, simprocAttr, inI, Fk, FO, ED, Int.reduceLT, Int.reduceLE, Int.reduceAdd, Int.reduceSub, Int.reduceMul, Int.reduceTDiv, Int.reduceTMod, Int.reduceEq, Int.reduceNeg, decide_true, decide_false, Bl]
 and_intros <;> try exact sdA
 refine DC rfl ?_
 refine Be ?_
 simp only [go_sem, simprocAttr]
 refine Ab (Z 6 rfl ?_)
 simp only [go_sem, simprocAttr, inI, Fk, FO, ED, Int.reduceLT, Int.reduceLE, Int.reduceAdd, Int.reduceSub, Int.reduceMul, Int.reduceTDiv, Int.reduceTMod, Int.reduceEq, Int.reduceNeg, decide_true, decide_false, Bl]
 and_intros <;> try exact sdA
 refine Ab (Ab (Z 7 rfl ?_))
 simp only [go_sem, simprocAttr, Fk, FO, ED, Int.reduceLT, Int.reduceLE, Int.reduceAdd, Int.reduceSub, Int.reduceMul, Int.reduceTDiv, Int.reduceTMod, Int.reduceEq, Int.reduceNeg, decide_true, decide_false, Bl]
 refine Ar ?_
 refine Bj (α := Nat) (fun j => (j = 0)) (fun j => ⟨mkE [(5, V.int IntKind.i64 2026), (6, V.int IntKind.i64 0), (29, .int .i64 j)], mkH []⟩) (fun j => 0) 0 rfl ?_ ?_
 ·exact leM
 rintro j hj KL2 hKL2
 try dsimp only at *
 subst hj
 refine Ab (Z 8 rfl ?_)
 simp only [go_sem, simprocAttr, Fk, FO, ED, Int.reduceLT, Int.reduceLE, Int.reduceAdd, Int.reduceSub, Int.reduceMul, Int.reduceTDiv, Int.reduceTMod, Int.reduceEq, Int.reduceNeg, decide_true, decide_false, Bl]
 refine Ab ?_
 refine GF rfl ?_
 refine Ah ?_
 refine Ab (Ar ?_)
 refine Ab (Z 9 rfl ?_)
 simp only [go_sem, simprocAttr, Fk, FO, ED, Int.reduceLT, Int.reduceLE, Int.reduceAdd, Int.reduceSub, Int.reduceMul, Int.reduceTDiv, Int.reduceTMod, Int.reduceEq, Int.reduceNeg, decide_true, decide_false, Bl]
 refine Ab (Z 10 rfl ?_)
 simp only [go_sem, simprocAttr, inI, Fk, FO, ED, Int.reduceLT, Int.reduceLE, Int.reduceAdd, Int.reduceSub, Int.reduceMul, Int.reduceTDiv, Int.reduceTMod, Int.reduceEq, Int.reduceNeg, decide_true, decide_false, Bl]
 and_intros <;> try exact sdA
 refine Ab (Ab (Z 11 rfl ?_))
 simp only [go_sem, simprocAttr, Fk, FO, ED, Int.reduceLT, Int.reduceLE, Int.reduceAdd, Int.reduceSub, Int.reduceMul, Int.reduceTDiv, Int.reduceTMod, Int.reduceEq, Int.reduceNeg, decide_true, decide_false, Bl]
 refine GF rfl ?_
 refine Ab (Z 12 rfl ?_)
 simp only [go_sem, simprocAttr, inI, Fk, FO, ED, Int.reduceLT, Int.reduceLE, Int.reduceAdd, Int.reduceSub, Int.reduceMul, Int.reduceTDiv, Int.reduceTMod, Int.reduceEq, Int.reduceNeg, decide_true, decide_false, Bl]
 and_intros <;> try exact sdA
 refine Ag (hQ _ _ (.inl rfl) ?_ ?_ ?_) <;> simp only [go_sem, simprocAttr, MO]
def Oh (n : Int) : List UInt8 := if n = 20 then [50, 48] else if n = 26 then [50, 54] else [48, 49]
def Il (n : Int) : Prop × V := (n = 20 \/ n = 26 \/ n = 1, .str (Oh n))
theorem RR (n : Int) : gOf aDy Il [.int .i64 n] = (n = 20 \/ n = 26 \/ n = 1, .str (Oh n)) := Al IM n
theorem k48 : inK .u8 48 := by show _ = _; kernel_rfl
theorem k49 : inK .u8 49 := by show _ = _; kernel_rfl
theorem k50 : inK .u8 50 := by show _ = _; kernel_rfl
theorem k54 : inK .u8 54 := by show _ = _; kernel_rfl
theorem Ans : PU 75 (gOf aDy Il) := by
 have hG := AJ
 refine ZL.a IM (by simp [aDy]) ?_
 rintro n hv C hN Q hQ
 have Z := ZL.R EF0 hG hN
 have hn : n = 20 \/ n = 26 \/ n = 1 := hv
 clear hv
 rcases hn with rfl | rfl | rfl
 ·refine Ab (Z 0 rfl ?_)
  simp only [go_sem, simprocAttr, aDy, Int.reduceLT, Int.reduceLE, Int.reduceAdd, Int.reduceSub, Int.reduceMul, Int.reduceTDiv, Int.reduceTMod, Int.reduceEq, Int.reduceNeg, decide_true, decide_false, Bl]
  refine Ab (Z 1 rfl ?_)
  simp only [go_sem, simprocAttr, inI, k48, k49, k50, k54, Int.reduceLT, Int.reduceLE, Int.reduceAdd, Int.reduceSub, Int.reduceMul, Int.reduceTDiv, Int.reduceTMod, Int.reduceEq, Int.reduceNeg, decide_true, decide_false, Bl]
  refine Ag (hQ _ _ (.inl rfl) ?_ ?_ ?_) <;> simp only [go_sem, simprocAttr, Il]
  rfl
 ·refine Ab (Z 0 rfl ?_)
  simp only [go_sem, simprocAttr, aDy, Int.reduceLT, Int.reduceLE, Int.reduceAdd, Int.reduceSub, Int.reduceMul, Int.reduceTDiv, Int.reduceTMod, Int.reduceEq, Int.reduceNeg, decide_true, decide_false, Bl]
  refine Ab (Z 1 rfl ?_)
  simp only [go_sem, simprocAttr, inI, k48, k49, k50, k54, Int.reduceLT, Int.reduceLE, Int.reduceAdd, Int.reduceSub, Int.reduceMul, Int.reduceTDiv, Int.reduceTMod, Int.reduceEq, Int.reduceNeg, decide_true, decide_false, Bl]
  refine Ag (hQ _ _ (.inl rfl) ?_ ?_ ?_) <;> simp only [go_sem, simprocAttr, Il]
  rfl
 refine Ab (Z 0 rfl ?_)
 simp only [go_sem, simprocAttr, aDy, Int.reduceLT, Int.reduceLE, Int.reduceAdd, Int.reduceSub, Int.reduceMul, Int.reduceTDiv, Int.reduceTMod, Int.reduceEq, Int.reduceNeg, decide_true, decide_false, Bl]
 refine Ab (Z 1 rfl ?_)
 simp only [go_sem, simprocAttr, inI, k48, k49, k50, k54, Int.reduceLT, Int.reduceLE, Int.reduceAdd, Int.reduceSub, Int.reduceMul, Int.reduceTDiv, Int.reduceTMod, Int.reduceEq, Int.reduceNeg, decide_true, decide_false, Bl]
 refine Ag (hQ _ _ (.inl rfl) ?_ ?_ ?_) <;> simp only [go_sem, simprocAttr, Il]
 rfl
def Oa : List UInt8 := [50, 48, 50, 54, 45, 48, 49, 45, 48, 49]
def MW (d : Int) : Prop × V := (d = 9497, .str Oa)
theorem XP : gOf aDy MW [.int .i64 9497] = (True, .str Oa) := (Al IM 9497).trans (by simp [MW])
theorem QE : gOf aDy Il [.int .i64 20] = (True, .str [50, 48]) := (RR 20).trans (by simp [Oh])
theorem QF : gOf aDy Il [.int .i64 26] = (True, .str [50, 54]) := (RR 26).trans (by simp [Oh])
theorem tw1 : gOf aDy Il [.int .i64 1] = (True, .str [48, 49]) := (RR 1).trans (by simp [Oh])
def Mm : Tab
 | 74 => (gOf aDy MO)
 | 75 => (gOf aDy Il)
 | _ => gNo
theorem AlN : ∀ f, PU f (Mm f) := fun f => by
 unfold Mm
 split
 ·exact Afc
 ·exact Ans
 ·exact Aj.no
theorem AiC : PU 30 (gOf aDy MW) := by
 have hG := AlN
 refine Zo.a IM (by simp [aDy]) ?_
 rintro d hv C hN Q hQ
 have Z := Zo.R EF0 hG hN
 obtain rfl : d = 9497 := hv
 refine Ab (Z 0 rfl ?_)
 simp only [go_sem, simprocAttr, aDy, Mm, Pj, QE, QF, tw1, Int.reduceLT, Int.reduceLE, Int.reduceAdd, Int.reduceSub, Int.reduceMul, Int.reduceTDiv, Int.reduceTMod, Int.reduceEq, Int.reduceNeg, decide_true, decide_false, Bl]
 refine Ab (Z 1 rfl ?_)
 simp only [go_sem, simprocAttr, Mm, Pj, QE, QF, tw1, Int.reduceLT, Int.reduceLE, Int.reduceAdd, Int.reduceSub, Int.reduceMul, Int.reduceTDiv, Int.reduceTMod, Int.reduceEq, Int.reduceNeg, decide_true, decide_false, Bl]
 and_intros <;> try exact sdA
 refine Ab (Ab (Z 2 rfl ?_))
 simp only [go_sem, simprocAttr, Mm, Pj, QE, QF, tw1, Int.reduceLT, Int.reduceLE, Int.reduceAdd, Int.reduceSub, Int.reduceMul, Int.reduceTDiv, Int.reduceTMod, Int.reduceEq, Int.reduceNeg, decide_true, decide_false, Bl]
 refine DC rfl ?_
 refine Ah ?_
 refine Ab (Z 4 rfl ?_)
 simp only [go_sem, simprocAttr, inI, DN, Ef, Aw, Ax, Mm, Pj, QE, QF, tw1, Int.reduceLT, Int.reduceLE, Int.reduceAdd, Int.reduceSub, Int.reduceMul, Int.reduceTDiv, Int.reduceTMod, Int.reduceEq, Int.reduceNeg, decide_true, decide_false, Bl]
 and_intros <;> try exact sdA
 refine Ag (hQ _ _ (.inl rfl) ?_ ?_ ?_) <;> simp only [go_sem, simprocAttr, MW, Oa]
def aZn (x : Int × Int) : List V := [.agg [.int .i64 x.1, .nils], .int .i64 x.2]
theorem OE (a b : Int × Int) (h : aZn a = aZn b) : a = b := by
 obtain ⟨a1, a2⟩ := a
 obtain ⟨b1, b2⟩ := b
 simp only [aZn, Bz, V.agg.injEq, V.int.injEq, and_true, true_and] at h
 rw [h.1, h.2]
def Pp (x : Int × Int) : Prop × V := (True, .int .i64 x.1)
theorem XO (a b : Int) : gOf aZn Pp [.agg [.int .i64 a, .nils], .int .i64 b] = (True, .int .i64 a) := Al OE (a, b)
theorem AhQ : PU 77 (gOf aZn Pp) := by
 have hG := AJ
 refine ZM.a OE (by simp [aZn]) ?_
 rintro ⟨a, b⟩ hv C hN Q hQ
 have Z := ZM.R EF0 hG hN
 refine Ab (Z 0 rfl ?_)
 simp only [go_sem, simprocAttr, aZn]
 refine Ab (Z 1 rfl ?_)
 simp only [go_sem, simprocAttr]
 refine Ab (Ab (Z 2 rfl ?_))
 simp only [go_sem, simprocAttr]
 refine Ar ?_
 refine Bj (α := Nat) (fun i => (i = 0)) (fun i => ⟨mkE [(1, V.int IntKind.i64 b), (5, V.int IntKind.i64 a), (11, V.nils), (12, V.int IntKind.i64 0), (13, .int .i64 i)], mkH []⟩) (fun i => 0) 0 rfl ?_ ?_
 ·exact leM
 rintro i hi KL0 hKL0
 try dsimp only at *
 subst hi
 refine Ab (Z 3 rfl ?_)
 simp only [go_sem, simprocAttr]
 refine Ab ?_
 refine Ai rfl (fun hb3 => ?_) fun hb3 => ?_
 ·(exfalso; simp at hb3)
 refine Be ?_
 simp only [go_sem, simprocAttr]
 refine Ab (Z 8 rfl ?_)
 simp only [go_sem, simprocAttr]
 refine Ag (hQ _ _ (.inl rfl) ?_ ?_ ?_) <;> simp only [go_sem, simprocAttr, Pp]
def MR (x : Int × Int) : Prop × V := (x = (60, 5), .int .i64 65)
theorem XN : gOf aZn MR [.agg [.int .i64 60, .nils], .int .i64 5] = (True, .int .i64 65) := (Al OE (60, 5)).trans (by simp [MR])
def Qw : Tab
 | 77 => (gOf aZn Pp)
 | _ => gNo
theorem Aly : ∀ f, PU f (Qw f) := fun f => by
 unfold Qw
 split
 ·exact AhQ
 ·exact Aj.no
theorem Aha : PU 32 (gOf aZn MR) := by
 have hG := Aly
 refine Zp.a OE (by simp [aZn]) ?_
 rintro ⟨a, b⟩ hv C hN Q hQ
 have Z := Zp.R EF0 hG hN
 obtain ⟨rfl, rfl⟩ : a = 60 /\ b = 5 := by have : (a, b) = ((60, 5) : Int × Int) := hv; simpa using this
 refine Ab (Z 0 rfl ?_)
 simp only [go_sem, simprocAttr, aZn, Qw, XO, Int.reduceLT, Int.reduceLE, Int.reduceAdd]
 refine Ab (Z 1 rfl ?_)
 simp only [go_sem, simprocAttr, inI, Qw, XO, Int.reduceLT, Int.reduceLE, Int.reduceAdd]
 and_intros <;> try exact sdA
 refine Ag (hQ _ _ (.inl rfl) ?_ ?_ ?_) <;> simp only [go_sem, simprocAttr, MR]
def Qv : Tab
 | 30 => (gOf aDy MW)
 | 31 => Nj
 | 32 => (gOf aZn MR)
 | _ => gNo
theorem Alb : ∀ f, PU f (Qv f) := fun f => by
 unfold Qv
 split
 ·exact AiC
 ·exact Ae0
 ·exact Aha
 ·exact Aj.no
theorem Aem : PU 7 (gOf JL Pt) := by
 have hG := Alb
 refine fi7.a Wi (by simp [JL]) ?_
 rintro ⟨⟩ hv C hN Q hQ
 have Z := fi7.R EF0 hG hN
 refine Ab (Z 0 rfl ?_)
 simp only [go_sem, simprocAttr, JL, Qv, XP, Nj, XN, Oa, decide_true]
 refine Ab (Z 1 rfl ?_)
 simp only [go_sem, simprocAttr, Qv, XP, Nj, XN, Oa, decide_true]
 and_intros <;> try exact sdA
 refine Ag (hQ _ _ (.inl rfl) ?_ ?_ ?_) <;> simp only [go_sem, simprocAttr, Pt]
inductive Sh where
 | b
 | i (k : IntKind)
 | s
 | st (fs : List Sh)
 | sl (e : Sh) (bytes : Nat)
 | x (F : List V -> Prop) (k : Nat)
mutual
def Sh.n : Sh -> Nat
 | .b | .i _ | .s | .sl _ _ => 1
 | .st fs => Sh.ns fs
 | .x _ k => k
def Sh.ns : List Sh -> Nat
 | [] => 0
 | f :: fs => f.n + Sh.ns fs
end
mutual
def Sh.fits : Sh -> List V -> Prop
 | .b, vs => ∃ x, vs = [.bool x]
 | .i k, vs => ∃ x, vs = [.int k x] /\ (Lit.int k x).wf = true
 | .s, vs => ∃ x, vs = [.str x] /\ x.length <= reachBytes
 | .sl e by', vs => ∃ rows, vs = [.list rows false] /\ rows.length * by' <= reachBytes /\ ∀ r ∈ rows, e.fits r
 | .st fs, vs => Sh.fitsL fs vs
 | .x F _, vs => F vs
def Sh.fitsL : List Sh -> List V -> Prop
 | [], vs => vs = []
 | f :: fs, vs => ∃ a b, vs = a ++ b /\ f.fits a /\ Sh.fitsL fs b
end
def shF (P : Program) (g : TypeId -> Option Sh) : Nat -> List Field -> Option (List Sh)
 | _, [] => some []
 | o, f :: fs => if f.offset = o then match g f.type with
  | some u => if P.cellsOf f.type = u.n then (shF P g (o + u.n) fs).map (u :: ·) else none
  | none => none
  else none
def shB (rec : TypeId -> Option Sh) (P : Program) (t : TypeId) : Option Sh :=
 match P.underlying t with
  | some .bool => some .b
  | some (.int k) => some (.i k)
  | some .string => some .s
  | some (.slice e) => match rec e with
   | some u => if P.cellsOf e = u.n /\ 0 < u.n then some (.sl u (P.bytesOf e)) else none
   | none => none
  | some (.struct fs) => match shF P (rec) 0 fs.toList with
   | some l => if P.cellsOf t = Sh.ns l then some (.st l) else none
   | none => none
  | some (.array n e) => match rec e with
   | some u => if P.cellsOf e = u.n /\ P.cellsOf t = n * u.n then some (.st (List.replicate n u)) else none
   | none => none
  | _ => none
def shT (P : Program) (ov : TypeId -> Option Sh) : Nat -> TypeId -> Option Sh
 | 0, _ => none
 | d + 1, t => match ov t with
  | some u => some u
  | none => shB (shT P ov d) P t
section
variable {H : Type} {enc : TypeId × Value -> H} {P : Program} {w : World} {M : Nat -> Prop}
def Ej (M : Nat -> Prop) (w : World) (cs : List Value) (vs : List V) : Prop := vs.length = cs.length /\ (∀ (j : Nat) (v : V), vs[j]? = some v -> Pur M w v (cs.getD j undef)) /\ ∀ c ∈ cs, c.oneCell' = true
theorem Ej.app {c1 c2 : List Value} {v1 v2 : List V} (h1 : Ej M w c1 v1) (h2 : Ej M w c2 v2) : Ej M w (c1 ++ c2) (v1 ++ v2) := by
 refine ⟨by rw [An, An, h1.1, h2.1], fun j v hj => ?_, fun c hc => (BT.1 hc).elim (h1.2.2 c) (h2.2.2 c)⟩
 have e1 := h1.1
 by_cases hlt : j < v1.length
 ·rw [GY hlt] at hj
  rw [AS, GY (by omega), <- AS]
  exact h1.2.1 j v hj
 ·rw [GX (by omega)] at hj
  rw [AS, GX (by omega), <- AS]
  have := h2.2.1 _ v hj
  rwa [e1] at this
theorem Ej.one {c : Value} {v : V} (hp : Pur M w v c) (h1 : c.oneCell' = true) : Ej M w [c] [v] := by
 refine ⟨rfl, fun j u hj => ?_, fun x hx => ?_⟩
 ·cases j with
  | zero => simp only [Fa, BS] at hj; subst hj; exact hp
  | succ j => simp at hj
 ·rw [Bp] at hx; subst hx; exact h1
theorem UX {e : TypeId} {d : DataW H} : ∀ {l : List (DataW H)}, d ∈ l -> ∀ {n : Nat}, n ∈ d.weights P e -> n ∈ DataW.weightsAll P e l
 | x :: l, hd, n, hn => by
  simp only [DataW.weightsAll, BT]
  rcases AN.1 hd with rfl | hd
  ·exact .inl hn
  ·exact .inr (UX hd hn)
end
mutual
def V.cnt : V -> Nat
 | .list rows _ => 1 + V.cntR rows
 | _ => 1
def V.cntR : List (List V) -> Nat
 | [] => 0
 | r :: rs => V.cntL r + V.cntR rs
def V.cntL : List V -> Nat
 | [] => 0
 | v :: vs => v.cnt + V.cntL vs
end
theorem V.cntL_app : ∀ (a b : List V), V.cntL (a ++ b) = V.cntL a + V.cntL b
 | [], b => by simp [V.cntL]
 | v :: a, b => by rw [DN, V.cntL, V.cntL, V.cntL_app a b]; omega
theorem OK {H : Type} (d : DataW H) : 1 <= Rows.uptoBulk d := by
 cases d with
 | lit l => cases l <;> simp [Rows.uptoBulk]
 | nil => simp [Rows.uptoBulk]
 | ptr d => simp [Rows.uptoBulk]
 | slice elems spare => simp [Rows.uptoBulk]
 | agg parts => simp [Rows.uptoBulk]
 | iface t d => simp [Rows.uptoBulk]
 | map entries => simp [Rows.uptoBulk]
 | held h => simp [Rows.uptoBulk]
theorem WO {H : Type} {d : DataW H} : ∀ {l : List (DataW H)}, d ∈ l -> Rows.uptoBulk d <= Rows.uptoBulkAll l
 | x :: l, h => by
  rw [Rows.uptoBulkAll]
  rcases AN.1 h with rfl | h
  ·omega
  ·have := WO h; omega
theorem Rz {H : Type} {d : DataW H} : ∀ {l : List (DataW H)} {k : Nat}, l[k]? = some d -> Rows.uptoBulkAll (l.drop k) = Rows.uptoBulk d + Rows.uptoBulkAll (l.drop (k + 1))
 | x :: l, 0, h => by
  simp only [Fa, BS] at h
  subst h
  rw [Hb, LA, Hb, Rows.uptoBulkAll]
 | x :: l, k + 1, h => by
  rw [DM] at h
  rw [LA, LA]
  exact Rz h
theorem WW {H : Type} : ∀ (ds : List (DataW H)) (vf : Nat -> List V) (len : Nat), len <= ds.length -> (∀ i (h : i < ds.length), i < len -> V.cntL (vf i) <= Rows.uptoBulk ds[i]) -> V.cntR ((List.range len).map vf) <= Rows.uptoBulkAll ds
 | ds, vf, 0, _, _ => by simp [V.cntR]
 | d :: ds, vf, len + 1, hl, h => by
  have ih := WW ds (fun i => vf (i + 1)) len (by simpa using hl) fun i h1 h2 => by
   have := h (i + 1) (by simpa using h1) (by omega)
   rwa [List.getElem_cons_succ] at this
  have h0 := h 0 (by simp) (by omega)
  rw [List.getElem_cons_zero] at h0
  rw [List.range_succ_eq_map, BE, Kw, V.cntR, Rows.uptoBulkAll]
  have e : (vf ∘ Nat.succ) = fun i => vf (i + 1) := rfl
  rw [e]; omega
section
variable {H : Type} {enc : TypeId × Value -> H} {P : Program} {w : World} {M : Nat -> Prop}
theorem Abo (hM : ∀ b, b < w.heap.size -> M b) {rec : TypeId -> Option Sh} : ∀ {fuel : Nat}, (∀ f, f < fuel -> ∀ {t : TypeId} {cs : List Value} {x : DataW H × List MemPlace} {sh : Sh}, rec t = some sh -> DataW.trod enc P w 0 (fun _ => true) true f t cs = some x -> (∀ n ∈ x.1.weights P t, n <= reachBytes) -> ∃ vs, sh.fits vs /\ Ej M w cs vs /\ V.cntL vs <= Rows.uptoBulk x.1) -> ∀ {t : TypeId} {cs : List Value} {x : DataW H × List MemPlace} {sh : Sh}, shB rec P t = some sh -> DataW.trod enc P w 0 (fun _ => true) true fuel t cs = some x -> (∀ n ∈ x.1.weights P t, n <= reachBytes) -> ∃ vs, sh.fits vs /\ Ej M w cs vs /\ V.cntL vs <= Rows.uptoBulk x.1
 | fuel, hrec, t, cs, x, sh, hs, h, hwt => by
  unfold shB at hs
  split at hs
  ·rename_i ht
   injection hs with hs; subst hs
   obtain ⟨b, rfl, _⟩ := DataW.trod_bool ht h
   exact ⟨_, ⟨_, rfl⟩, .one (.bool _) rfl, OK _⟩
  ·rename_i k ht
   injection hs with hs; subst hs
   obtain ⟨n, rfl, _, hw⟩ := DataW.trod_int ht h
   exact ⟨_, ⟨_, rfl, hw⟩, .one (.int _ _) rfl, OK _⟩
  ·rename_i ht
   injection hs with hs; subst hs
   obtain ⟨u, rfl, rfl, _⟩ := DataW.trod_string ht h
   obtain ⟨⟨l⟩⟩ := u
   exact ⟨[.str l], ⟨_, rfl, hwt _ (by simp [DataW.weights])⟩, .one (.str l) rfl, OK _⟩
  ·rename_i e ht
   split at hs
   ·rename_i u hse
    split at hs
    ·rename_i hc
     injection hs with hs; subst hs
     rcases DataW.trod_slice ht h with ⟨rfl, _⟩ | ⟨a, len, cap, elems, rest, n, rfl, rfl, rfl, _, hlc, hcm, helen, he, _, _⟩
     ·exact ⟨[.list [] false], ⟨[], rfl, by simp, fun r hr => by cases hr⟩, .one (.list [] false none 0 0 0 0 (fun _ _ => undef) (fun e => by cases e) (AF _) (fun _ => rfl) (.inl rfl) (fun r hr => by cases hr) (fun i j hi _ => absurd hi (Ee _)) (fun i j r v hi => by simp at hi)) rfl, OK _⟩
     ·obtain ⟨hce, hpos⟩ := hc
      simp only [DataW.weights, ht, Ac, AN, BT] at hwt
      have hw0 := hwt _ (.inl rfl)
      have hwe : ∀ y ∈ elems, ∀ n ∈ y.1.weights P e, n <= reachBytes := fun y hy n hn => hwt n (.inr (.inl (UX (Am.2 ⟨y, hy, rfl⟩) hn)))
      have each : ∀ i, ∃ (ci : List Value) (vi : List V), i < len -> w.cells? 0 (a.add (i * u.n)) u.n = some ci /\ u.fits vi /\ Ej M w ci vi /\ ∀ h : i < elems.length, V.cntL vi <= Rows.uptoBulk elems[i].1 := by
       intro i
       by_cases hi : i < len
       ·have h1 := he i hi
        rw [Bm (by omega), hce] at h1
        obtain ⟨ci, h2, h3⟩ := Option.bind_eq_some_iff.1 h1
        obtain ⟨vi, h4, h5, h6⟩ := hrec n (Iu n) hse h3 (hwe _ (AI _))
        exact ⟨ci, vi, fun _ => ⟨h2, h4, h5, fun _ => h6⟩⟩
       ·exact ⟨[], [], fun h => absurd h hi⟩
      obtain ⟨cf, each⟩ := Classical.skolem.1 each
      obtain ⟨vf, each⟩ := Classical.skolem.1 each
      have hrl : ((List.range len).map vf).length = len := by simp
      have hsp0 : 0 < len -> a.spot = none := by
       intro h0
       obtain ⟨h1, _, _⟩ := each 0 h0
       obtain ⟨_, h4, h5⟩ := World.cells?_some h1
       have h6 := h5 0 hpos
       rw [Bm (by omega)] at h6
       rw [NH] at h6
       have e1 : (a.add 0).add 0 = a := by simp [Addr.add]
       rw [e1] at h6
       cases hs : a.spot with
       | none => rfl
       | some q =>
        exfalso
        unfold World.cell? at h6
        split at h6
        ·simp [hs] at h6
        ·cases h6
      have hcell : ∀ i j, i < len -> j < u.n -> a.spot = none /\ w.cell? ⟨a.block, a.off + i * u.n + j, none⟩ = some ((cf i).getD j undef) /\ ((cf i).getD j undef).oneCell' = true := by
       intro i j hi hj
       obtain ⟨h1, _, h3, _⟩ := each i hi
       obtain ⟨_, h4, h5⟩ := World.cells?_some h1
       have h6 := h5 j hj
       have hlt : j < (cf i).length := by omega
       rw [Bm hlt] at h6
       have hd : (cf i).getD j undef = (cf i)[j] := by rw [AS, Bm hlt]; rfl
       have hsp := hsp0 (by omega)
       refine ⟨hsp, ?_, ?_⟩
       ·rw [hd, <- h6]
        obtain ⟨g, off, sp⟩ := a
        dsimp only at hsp
        subst hsp
        rw [DW, DW]
       ·rw [hd]; exact h3.2.2 _ (AI hlt)
      have hrow : ∀ i r, ((List.range len).map vf)[i]? = some r -> i < len /\ r = vf i := by
       intro i r hr
       rw [BC] at hr
       obtain ⟨k, hk, rfl⟩ := AY.1 hr
       obtain ⟨hk1, hk2⟩ := BQ.1 hk
       simp only [List.length_range] at hk1
       simp only [List.getElem_range] at hk2
       subst hk2
       exact ⟨hk1, rfl⟩
      have hln : ∀ i, i < len -> (vf i).length = u.n := fun i hi => by
       obtain ⟨h1, _, h3, _⟩ := each i hi
       obtain ⟨_, h4, _⟩ := World.cells?_some h1
       rw [h3.1, h4]
      refine ⟨[.list ((List.range len).map vf) false], ⟨_, rfl, by rw [hrl, <- helen]; exact HB (CB _ (Nat.le_add_right _ _)) hw0, fun r hr => ?_⟩, .one ?_ rfl, ?_⟩
      ·obtain ⟨i, hi, rfl⟩ := Am.1 hr
       exact (each i (LL.1 hi)).2.1
      ·have hp := Pur.list (M := M) (w := w) ((List.range len).map vf) false (some a) cap u.n a.block a.off (fun i j => (cf i).getD j undef) (fun e => by cases e) (by rw [hrl]; exact hlc) (fun e => by cases e) (by
        by_cases h0 : len = 0
        ·left; subst h0; rfl
        ·right
         have hc0 := hcell 0 0 (by omega) hpos
         refine ⟨by obtain ⟨_, _, _⟩ := a; simp at hc0; rw [hc0.1], hM _ ?_⟩
         have hb := World.cells?_block (a := a.add (0 * u.n)) (each 0 (by omega)).1 hpos
         rw [NH] at hb
         simpa [Addr.add] using hb) (fun r hr => by
        obtain ⟨i, hi, rfl⟩ := Am.1 hr
        exact hln i (LL.1 hi)) (fun i j hi hj => ?_) (fun i j r v hr hj => ?_)
       ·rw [hrl] at hp; exact hp
       ·rw [hrl] at hi
        exact (hcell i j hi hj).2
       ·obtain ⟨hi, rfl⟩ := hrow i r hr
        exact (each i hi).2.2.1.2.1 j v hj
      ·show 1 + V.cntR _ + 0 <= Rows.uptoBulkAll _ + Rows.uptoBulkAll _ + 1
       have := WW (elems.map (·.1)) vf len (by rw [Ac]; omega) (fun i h1 h2 => by rw [Gb]; exact (each i h2).2.2.2 (by rw [Ac] at h1; exact h1))
       omega
    ·cases hs
   ·cases hs
  ·rename_i fs ht
   split at hs
   ·rename_i l hl
    split at hs
    ·rename_i hc
     injection hs with hs; subst hs
     obtain ⟨xs, n, rfl, rfl, hlen, hxl, hf⟩ := DataW.trod_struct ht h
     simp only [DataW.weights, ht] at hwt
     have main : ∀ (fl : List Field) (o k : Nat) (l : List Sh), (∀ i, fs.toList[k + i]? = fl[i]?) -> shF P rec o fl = some l -> o + Sh.ns l = cs.length -> ∃ vs, Sh.fitsL l vs /\ Ej M w (cs.drop o) vs /\ V.cntL vs <= Rows.uptoBulkAll ((xs.map (·.1)).drop k) := by
      intro fl
      induction fl with
      | nil =>
       intro o k l _ hl hn
       simp only [shF, BS] at hl
       subst hl
       refine ⟨[], rfl, ?_⟩
       rw [List.drop_of_length_le (by simp only [Sh.ns] at hn; omega)]
       exact ⟨⟨rfl, fun j v hj => by simp at hj, fun c hc => by cases hc⟩, As _⟩
      | cons f fl ih =>
       intro o k l hk hl hn
       unfold shF at hl
       split at hl
       ·rename_i ho
        split at hl
        ·rename_i u hu
         split at hl
         ·rename_i hcu
          obtain ⟨r, hr, rfl⟩ := AY.1 hl
          simp only [Sh.ns] at hn
          have hk0 := hk 0
          simp only [Fe, Fa, Cv] at hk0
          have hfk := hf k f hk0
          rw [ho, hcu] at hfk
          cases hx : xs[k]? with
          | none =>
           have h1 := (FX.1 hk0).1
           have h2 := List.getElem?_eq_none_iff.1 hx
           omega
          | some y =>
           rw [hx] at hfk
           obtain ⟨v1, g1, g2, g5⟩ := hrec n (Iu n) hu hfk (fun n hn => hwt n (DataW.weights_mem_each (j := k) (t := f.type) (d := y.1) (by rw [BC, Cv, hk0]; rfl) (by rw [BC, hx]; rfl) n hn))
           obtain ⟨v2, g3, g4, g6⟩ := ih (o + u.n) (k + 1) r (fun i => by have := hk (i + 1); rw [DM] at this; rw [<- this]; congr 1; omega) hr (by omega)
           refine ⟨v1 ++ v2, ⟨v1, v2, rfl, g1, g3⟩, ?_⟩
           have := Ej.app g2 g4
           rw [<- NE, KA] at this
           refine ⟨this, ?_⟩
           rw [V.cntL_app, Rz (d := y.1) (by rw [BC, hx]; rfl)]
           omega
         ·cases hl
        ·cases hl
       ·cases hl
     obtain ⟨vs, g1, g2, g3⟩ := main fs.toList 0 0 l (fun i => by rw [CI]) hl (by rw [CI, <- hc, hlen])
     exact ⟨vs, g1, g2, by rw [Hb] at g3; show _ <= Rows.uptoBulkAll _ + 1; omega⟩
    ·cases hs
   ·cases hs
  ·rename_i n e ht
   split at hs
   ·rename_i u hu
    split at hs
    ·rename_i hc
     injection hs with hs; subst hs
     obtain ⟨hce, hct⟩ := hc
     obtain ⟨xs, m, rfl, rfl, hlen, hxl, hf⟩ := DataW.trod_array ht h
     simp only [DataW.weights, ht] at hwt
     have main : ∀ (j k : Nat), k + j = n -> ∃ vs, Sh.fitsL (List.replicate j u) vs /\ Ej M w (cs.drop (k * u.n)) vs /\ V.cntL vs <= Rows.uptoBulkAll ((xs.map (·.1)).drop k) := by
      intro j
      induction j with
      | zero =>
       intro k hk
       refine ⟨[], rfl, ?_⟩
       have hk' : k = n := by omega
       rw [List.drop_of_length_le (by rw [hk', hlen, hct]; exact AF _)]
       exact ⟨⟨rfl, fun j v hj => by simp at hj, fun c hc => by cases hc⟩, As _⟩
      | succ j ih =>
       intro k hk
       have hfk := hf k (by omega)
       rw [hce, Bm (by omega)] at hfk
       obtain ⟨v1, g1, g2, g5⟩ := hrec m (Iu m) hu hfk (fun n hn => hwt n (UX (Am.2 ⟨_, AI _, rfl⟩) hn))
       obtain ⟨v2, g3, g4, g6⟩ := ih (k + 1) (by omega)
       refine ⟨v1 ++ v2, ⟨v1, v2, rfl, g1, g3⟩, ?_⟩
       have := Ej.app g2 g4
       rw [EJ, Nat.one_mul, <- NE, KA] at this
       refine ⟨this, ?_⟩
       rw [V.cntL_app, Rz (d := (xs[k]'(by omega)).1) (by rw [BC, Bm (by omega)]; rfl)]
       omega
     obtain ⟨vs, g1, g2, g3⟩ := main n 0 (by omega)
     rw [NH, Hb] at g2
     exact ⟨vs, g1, g2, by rw [Hb] at g3; show _ <= Rows.uptoBulkAll _ + 1; omega⟩
    ·cases hs
   ·cases hs
  ·cases hs
theorem Tz (hM : ∀ b, b < w.heap.size -> M b) {ov : TypeId -> Option Sh} {B : Nat} (hov : ∀ f, f < B -> ∀ {t : TypeId} {cs : List Value} {x : DataW H × List MemPlace} {sh : Sh}, ov t = some sh -> DataW.trod enc P w 0 (fun _ => true) true f t cs = some x -> (∀ n ∈ x.1.weights P t, n <= reachBytes) -> ∃ vs, sh.fits vs /\ Ej M w cs vs /\ V.cntL vs <= Rows.uptoBulk x.1) : ∀ {d fuel : Nat} {t : TypeId} {cs : List Value} {x : DataW H × List MemPlace} {sh : Sh}, fuel < B -> shT P ov d t = some sh -> DataW.trod enc P w 0 (fun _ => true) true fuel t cs = some x -> (∀ n ∈ x.1.weights P t, n <= reachBytes) -> ∃ vs, sh.fits vs /\ Ej M w cs vs /\ V.cntL vs <= Rows.uptoBulk x.1
 | 0, _, _, _, _, _, _, hs, _, _ => by simp [shT] at hs
 | d + 1, fuel, t, cs, x, sh, hB, hs, h, hwt => by
  unfold shT at hs
  split at hs
  ·rename_i u e
   injection hs with hs
   subst hs
   exact hov fuel hB e h hwt
  ·exact Abo hM (fun f hf t cs x sh h1 h2 h3 => Tz hM hov (by omega) h1 h2 h3) hs h hwt
end
def Sh.val : Sh -> List V -> V
 | .st _, vs => .agg vs
 | _, vs => vs.headD .any
section
variable {H : Type} {enc : TypeId × Value -> H} {P : Program} {W : World}
theorem Ad4 {r : Reach} {b n : Nat} {t : TypeId} {sh : Sh} {ov : TypeId -> Option Sh} (ho : ov t = none) (hs : shT P ov n t = some sh) {v : Value} (hval : Value.okWide P W r b t v) : (∃ fs cs, sh = .st fs /\ v = .agg cs) \/ ((∀ fs, sh ≠ .st fs) /\ (∀ F k, sh ≠ .x F k) /\ v.cells = #[v]) := by
 cases n with
 | zero => simp [shT] at hs
 | succ n =>
  unfold shT at hs
  rw [ho] at hs
  dsimp only at hs
  unfold shB at hs
  unfold Value.okWide at hval
  split at hs
  all_goals first | (rename_i ht; rw [ht] at hval; dsimp only at hval) | (cases hs; done)
  ·injection hs with hs; subst hs
   refine .inr ⟨fun _ h => (by cases h), fun _ _ h => (by cases h), ?_⟩
   cases v <;> first | rfl | (simp [Cell.okWide, Cell.ok, ht] at hval)
  ·injection hs with hs; subst hs
   refine .inr ⟨fun _ h => (by cases h), fun _ _ h => (by cases h), ?_⟩
   cases v <;> first | rfl | (simp [Cell.okWide, Cell.ok, ht] at hval)
  ·injection hs with hs; subst hs
   refine .inr ⟨fun _ h => (by cases h), fun _ _ h => (by cases h), ?_⟩
   cases v <;> first | rfl | (simp [Cell.okWide, Cell.ok, ht] at hval)
  ·split at hs
   ·split at hs
    ·injection hs with hs; subst hs
     refine .inr ⟨fun _ h => (by cases h), fun _ _ h => (by cases h), ?_⟩
     cases v <;> first | rfl | (simp [Cell.okWide, Cell.ok, ht] at hval)
    ·cases hs
   ·cases hs
  ·split at hs
   ·split at hs
    ·injection hs with hs; subst hs
     obtain ⟨cs, rfl, _⟩ := hval
     exact .inl ⟨_, cs, rfl, rfl⟩
    ·cases hs
   ·cases hs
  ·split at hs
   ·split at hs
    ·injection hs with hs; subst hs
     obtain ⟨cs, rfl, _⟩ := hval
     exact .inl ⟨_, cs, rfl, rfl⟩
    ·cases hs
   ·cases hs
theorem Aga {sh : Sh} {vs : List V} (h : sh.fits vs) (hn : ∀ fs, sh ≠ .st fs) (hx : ∀ F k, sh ≠ .x F k) : ∃ u, vs = [u] := by
 cases sh with
 | st fs => exact absurd rfl (hn fs)
 | b => obtain ⟨x, rfl⟩ := h; exact ⟨_, rfl⟩
 | i k => obtain ⟨x, rfl, _⟩ := h; exact ⟨_, rfl⟩
 | s => obtain ⟨x, rfl, _⟩ := h; exact ⟨_, rfl⟩
 | x F k => exact absurd rfl (hx F k)
 | sl e b => obtain ⟨x, rfl, _⟩ := h; exact ⟨_, rfl⟩
theorem NR {r : Reach} {b n : Nat} {t : TypeId} {sh : Sh} {ov : TypeId -> Option Sh} (hov : ∀ (B f : Nat), f < B -> ∀ {t : TypeId} {cs : List Value} {x : DataW H × List MemPlace} {sh : Sh}, ov t = some sh -> DataW.trod enc P W 0 (fun _ => true) true f t cs = some x -> (∀ n ∈ x.1.weights P t, n <= reachBytes) -> ∃ vs, sh.fits vs /\ Ej (fun b => b < W.heap.size) W cs vs /\ V.cntL vs <= Rows.uptoBulk x.1) (ho : ov t = none) (hs : shT P ov n t = some sh) {v : Value} (hval : Value.okWide P W r b t v) {d : DataW H} {ps : List MemPlace} (h : DataW.Trod enc P W 0 (fun _ => true) true t v d ps) (hwt : ∀ n ∈ d.weights P t, n <= reachBytes) :
  ∃ vs, sh.fits vs /\ Pur (fun b => b < W.heap.size) W (sh.val vs) v /\ V.cntL vs <= Rows.uptoBulk d := by
 obtain ⟨fuel, hf⟩ := h
 obtain ⟨vs, h1, ⟨h2, h3, h4⟩, h5⟩ := Tz (M := fun b => b < W.heap.size) (fun _ h => h) (hov (fuel + 1)) (Iu fuel) hs hf hwt
 refine ⟨vs, h1, ?_, h5⟩
 rcases Ad4 ho hs hval with ⟨fs, cs, rfl, rfl⟩ | ⟨hn, hx, hc⟩
 ·exact .agg vs cs (by simpa [Value.cells] using h2) (fun c hc => h4 c (by simpa [Value.cells] using hc)) (fun i u hi => by
   have := h3 i u hi
   rw [AS, Cv] at this
   simpa [Value.cells] using this)
 ·obtain ⟨u, rfl⟩ := Aga h1 hn hx
  have := h3 0 u rfl
  rw [hc] at this
  cases sh with
  | st fs => exact absurd rfl (hn fs)
  | x F k => exact absurd rfl (hx F k)
  | _ => exact this
end
theorem WY {r : List V} : ∀ {l : List (List V)}, r ∈ l -> V.cntL r <= V.cntR l
 | x :: l, h => by
  rw [V.cntR]
  rcases AN.1 h with rfl | h
  ·omega
  ·have := WY h; omega
theorem WX {k : Nat} : ∀ {l : List (List V)}, (∀ r ∈ l, k <= V.cntL r) -> k * l.length <= V.cntR l
 | [], _ => by simp
 | x :: l, h => by
  have h1 := h x (AH ..)
  have h2 := WX (k := k) (l := l) fun r hr => h r (AU _ hr)
  rw [V.cntR, Aw, Nat.mul_add, LP]; omega
theorem Aal {α : Type} {encA : α -> List V} {ok : α -> Prop} {e : Sh} (h : ∀ vs, e.fits vs -> ∃ a, vs = encA a /\ ok a) : ∀ {rows : List (List V)}, (∀ r ∈ rows, e.fits r) -> ∃ l : List α, rows = l.map encA /\ ∀ a ∈ l, ok a
 | [], _ => ⟨[], rfl, fun a ha => by cases ha⟩
 | r :: rs, hr => by
  obtain ⟨a, rfl, ha⟩ := h r (hr r (AH ..))
  obtain ⟨l, rfl, hl⟩ := Aal h fun x hx => hr x (AU _ hx)
  exact ⟨a :: l, rfl, fun x hx => by rcases AN.1 hx with rfl | hx; exact ha; exact hl x hx⟩
theorem Cu {vs : List V} (h : Sh.s.fits vs) : ∃ x : List UInt8, vs = [.str x] /\ x.length <= 140737488355328 := by
 obtain ⟨x, rfl, hx⟩ := h
 exact ⟨x, rfl, by unfold reachBytes at hx; omega⟩
theorem Bo {vs : List V} (h : (Sh.i .i64).fits vs) : ∃ x : Int, vs = [.int .i64 x] /\ inI x := by
 obtain ⟨x, rfl, hx⟩ := h
 exact ⟨x, rfl, bounds_i64 hx⟩
theorem Af9 {vs : List V} (h : Sh.b.fits vs) : ∃ x : Bool, vs = [.bool x] := h
theorem Ed {α : Type} {encA : α -> List V} {ok : α -> Prop} {e : Sh} {bytes : Nat} (h : ∀ vs, e.fits vs -> ∃ a, vs = encA a /\ ok a) {vs : List V} (hv : (Sh.sl e bytes).fits vs) : ∃ l : List α, vs = [.list (l.map encA) false] /\ l.length * bytes <= 140737488351232 /\ ∀ a ∈ l, ok a := by
 obtain ⟨rows, rfl, h1, h2⟩ := hv
 obtain ⟨l, rfl, hl⟩ := Aal h h2
 rw [Ac] at h1
 exact ⟨l, rfl, h1, hl⟩
theorem Amk {W : World} (h : IL W) : (0 : Nat) < W.heap.size := by
 unfold IL Lib.TabIs World.var? at h
 rw [PC] at h
 simp only [Option.bind_some] at h
 cases hs : W.heap[(0 : Nat)]? with
 | none => rw [hs] at h; cases h
 | some o => exact (FX.1 hs).1
theorem AdR {W : World} (h : UT.B W) : ∀ b, UT.T b -> b < W.heap.size := by
 intro b hb
 have hb : b = 0 := hb
 subst hb
 exact Amk (utL h)
theorem AgY {f : Nat} {g : List V -> Prop × V} (hp : PU f g) {vs : List V} (h1 : (g vs).1) (h2 : (g vs).2 = .bool true) {W : World} {cargs : Array Value} (hU : UT.B W) (hsz : cargs.size = vs.length)
  (hpur : ∀ (i : Nat) (v : V), vs[i]? = some v -> Pur (fun b => b < W.heap.size) W v (cargs.getD i undef)) : Calls Tryz.prog f cargs W fun e W' => e = .returned (.bool true) /\ Below W.heap.size W W' := by
 refine ((hp vs _ W cargs h1).2 hU (AdR hU) hsz (fun _ h => h) hpur).mono ?_
 rintro e w' ⟨cv, M', rfl, hcv, _, _, _, hb⟩
 rw [h2] at hcv
 cases hcv
 exact ⟨rfl, hb⟩
def Mt (W : World) : List V -> List Value -> Prop
 | [], [] => True
 | v :: vs, c :: cs => Pur (fun b => b < W.heap.size) W v c /\ Mt W vs cs
 | _, _ => False
theorem Mt.get {W : World} : ∀ {vs : List V} {cs : List Value}, Mt W vs cs -> cs.length = vs.length /\ ∀ (i : Nat) (v : V), vs[i]? = some v -> Pur (fun b => b < W.heap.size) W v (cs.getD i undef)
 | [], [], _ => ⟨rfl, fun i v h => by simp at h⟩
 | v :: vs, c :: cs, h => by
  obtain ⟨h1, h2⟩ := Mt.get h.2
  refine ⟨by simp [h1], fun i u hi => ?_⟩
  cases i with
  | zero => simp only [Fa, BS] at hi; subst hi; exact h.1
  | succ i => rw [DM] at hi; rw [LU]; exact h2 i u hi
 | [], _ :: _, h => h.elim
 | _ :: _, [], h => h.elim
theorem AgZ {α : Type} {args : α -> List V} {F : α -> Prop × V} {f : Nat} (inj : ∀ a b, args a = args b -> a = b) (hp : PU f (gOf args F)) (a : α) (h1 : (F a).1) (h2 : (F a).2 = .bool true) {W : World} (hU : UT.B W) {cl : List Value} (hP : Mt W (args a) cl) :
  Calls Tryz.prog f cl.toArray W fun e W' => e = .returned (.bool true) /\ Below W.heap.size W W' := by
 obtain ⟨e1, e2⟩ := hP.get
 exact AgY hp (vs := args a) (by rw [Al inj]; exact h1) (by rw [Al inj]; exact h2) hU (by simpa using e1) (fun i v hi => by have := e2 i v hi; rwa [AS, <- List.getElem?_toArray, <- Iq] at this)
end Go.Proofs.YtjkclhbckfkeeaaGreatDoor
end
