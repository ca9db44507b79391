import Derived.Test.YtjkclhbckfkeeaaGreatDoorOb
import Derived.Test.YtjkclhbckfkeeaaGreatDoorHoV
import Derived.Test.YtjkclhbckfkeeaaGreatDoorRu10
import Derived.Test.YtjkclhbckfkeeaaGreatDoorTie
import Derived.Test.YtjkclhbckfkeeaaGreatDoorCards
import Derived.WalkKit
import Derived.ProofKit
import Derived.OpenShut
import Derived.Carry
import Derived.Deep.DeepHandedRow
import Derived.Lib.LaidTab
import Derived.Stop.LaidErr
set_option linter.unusedSimpArgs false
set_option linter.unusedVariables false
set_option linter.deprecated false
set_option maxHeartbeats 16000000
namespace Go.Proofs.YtjkclhbckfkeeaaGreatDoor
open Go Go.RowKit
def Acq : Sh := .st [.i .i64, .i .i64, .i .i64]
theorem AdG (vs : List V) (h : Acq.fits vs) : ∃ z : Period, vs = z.enc /\ z.ok := by
 obtain ⟨a0, b0, rfl, h0, a1, b1, rfl, h1, a2, b2, rfl, h2, rfl⟩ := h
 obtain ⟨x0, rfl, p0⟩ := Bo h0
 obtain ⟨x1, rfl, p1⟩ := Bo h1
 obtain ⟨x2, rfl, p2⟩ := Bo h2
 exact ⟨⟨x0, x1, x2⟩, rfl, ⟨p0, p1, p2⟩⟩
def Acp : Sh := .st [.s, .i .i64]
theorem AdF (vs : List V) (h : Acp.fits vs) : ∃ z : Pct, vs = z.enc /\ z.ok := by
 obtain ⟨a0, b0, rfl, h0, a1, b1, rfl, h1, rfl⟩ := h
 obtain ⟨x0, rfl, p0⟩ := Cu h0
 obtain ⟨x1, rfl, p1⟩ := Bo h1
 exact ⟨⟨x0, x1⟩, rfl, ⟨p0, p1⟩⟩
def Acy : Sh := .st [.i .i64, .i .i64]
theorem AdN (vs : List V) (h : Acy.fits vs) : ∃ z : Shift, vs = z.enc /\ z.ok := by
 obtain ⟨a0, b0, rfl, h0, a1, b1, rfl, h1, rfl⟩ := h
 obtain ⟨x0, rfl, p0⟩ := Bo h0
 obtain ⟨x1, rfl, p1⟩ := Bo h1
 exact ⟨⟨x0, x1⟩, rfl, ⟨p0, p1⟩⟩
def AcD : Sh := .st [.i .i64, .sl Acy 16]
theorem AdT (vs : List V) (h : AcD.fits vs) : ∃ z : Zone, vs = z.enc /\ z.ok := by
 obtain ⟨a0, b0, rfl, h0, a1, b1, rfl, h1, rfl⟩ := h
 obtain ⟨x0, rfl, p0⟩ := Bo h0
 obtain ⟨x1, rfl, l1, p1⟩ := Ed AdN h1
 exact ⟨⟨x0, x1⟩, rfl, ⟨p0, ⟨by dsimp only; omega, p1⟩⟩⟩
def Ach : Sh := .st [.s, .s, .s, AcD]
theorem Adv (vs : List V) (h : Ach.fits vs) : ∃ z : Airport, vs = z.enc /\ z.ok := by
 obtain ⟨a0, b0, rfl, h0, a1, b1, rfl, h1, a2, b2, rfl, h2, a3, b3, rfl, h3, rfl⟩ := h
 obtain ⟨x0, rfl, p0⟩ := Cu h0
 obtain ⟨x1, rfl, p1⟩ := Cu h1
 obtain ⟨x2, rfl, p2⟩ := Cu h2
 obtain ⟨x3, rfl, p3⟩ := AdT _ h3
 exact ⟨⟨x0, x1, x2, x3⟩, rfl, ⟨p0, p1, p2, p3⟩⟩
def Ack : Sh := .st [.s, .s, .i .i64]
theorem Adx (vs : List V) (h : Ack.fits vs) : ∃ z : Distance, vs = z.enc /\ z.ok := by
 obtain ⟨a0, b0, rfl, h0, a1, b1, rfl, h1, a2, b2, rfl, h2, rfl⟩ := h
 obtain ⟨x0, rfl, p0⟩ := Cu h0
 obtain ⟨x1, rfl, p1⟩ := Cu h1
 obtain ⟨x2, rfl, p2⟩ := Bo h2
 exact ⟨⟨x0, x1, x2⟩, rfl, ⟨p0, p1, p2⟩⟩
def Acs : Sh := .st [.sl Ach 80, .sl Ack 40]
theorem AdI (vs : List V) (h : Acs.fits vs) : ∃ z : Places, vs = z.enc /\ z.ok := by
 obtain ⟨a0, b0, rfl, h0, a1, b1, rfl, h1, rfl⟩ := h
 obtain ⟨x0, rfl, l0, p0⟩ := Ed Adv h0
 obtain ⟨x1, rfl, l1, p1⟩ := Ed Adx h1
 exact ⟨⟨x0, x1⟩, rfl, ⟨⟨by dsimp only; omega, p0⟩, ⟨by dsimp only; omega, p1⟩⟩⟩
def Acx : Sh := .st [.s, .i .i64, .i .i64, .s, .s, .i .i64, .i .i64]
theorem AdM (vs : List V) (h : Acx.fits vs) : ∃ z : Seg, vs = z.enc /\ z.ok := by
 obtain ⟨a0, b0, rfl, h0, a1, b1, rfl, h1, a2, b2, rfl, h2, a3, b3, rfl, h3, a4, b4, rfl, h4, a5, b5, rfl, h5, a6, b6, rfl, h6, rfl⟩ := h
 obtain ⟨x0, rfl, p0⟩ := Cu h0
 obtain ⟨x1, rfl, p1⟩ := Bo h1
 obtain ⟨x2, rfl, p2⟩ := Bo h2
 obtain ⟨x3, rfl, p3⟩ := Cu h3
 obtain ⟨x4, rfl, p4⟩ := Cu h4
 obtain ⟨x5, rfl, p5⟩ := Bo h5
 obtain ⟨x6, rfl, p6⟩ := Bo h6
 exact ⟨⟨x0, x1, x2, x3, x4, x5, x6⟩, rfl, ⟨p0, p1, p2, p3, p4, p5, p6⟩⟩
def AcC : Sh := .st [Acx, .s]
theorem AdS (vs : List V) (h : AcC.fits vs) : ∃ z : Want, vs = z.enc /\ z.ok := by
 obtain ⟨a0, b0, rfl, h0, a1, b1, rfl, h1, rfl⟩ := h
 obtain ⟨x0, rfl, p0⟩ := AdM _ h0
 obtain ⟨x1, rfl, p1⟩ := Cu h1
 exact ⟨⟨x0, x1⟩, rfl, ⟨p0, p1⟩⟩
def Aco : Sh := .st [.i .i64, .i .i64, .i .i64, .i .i64]
theorem AdE (vs : List V) (h : Aco.fits vs) : ∃ z : Part, vs = z.enc /\ z.ok := by
 obtain ⟨a0, b0, rfl, h0, a1, b1, rfl, h1, a2, b2, rfl, h2, a3, b3, rfl, h3, rfl⟩ := h
 obtain ⟨x0, rfl, p0⟩ := Bo h0
 obtain ⟨x1, rfl, p1⟩ := Bo h1
 obtain ⟨x2, rfl, p2⟩ := Bo h2
 obtain ⟨x3, rfl, p3⟩ := Bo h3
 exact ⟨⟨x0, x1, x2, x3⟩, rfl, ⟨p0, p1, p2, p3⟩⟩
def Aci : Sh := .st [.s, .i .i64]
theorem Adw (vs : List V) (h : Aci.fits vs) : ∃ z : Charge, vs = z.enc /\ z.ok := by
 obtain ⟨a0, b0, rfl, h0, a1, b1, rfl, h1, rfl⟩ := h
 obtain ⟨x0, rfl, p0⟩ := Cu h0
 obtain ⟨x1, rfl, p1⟩ := Bo h1
 exact ⟨⟨x0, x1⟩, rfl, ⟨p0, p1⟩⟩
def AcB : Sh := .st [.i .i64, .i .i64]
theorem AdQ (vs : List V) (h : AcB.fits vs) : ∃ z : Two, vs = z.enc /\ z.ok := by
 obtain ⟨a0, b0, rfl, h0, a1, b1, rfl, h1, rfl⟩ := h
 obtain ⟨x0, rfl, p0⟩ := Bo h0
 obtain ⟨x1, rfl, p1⟩ := Bo h1
 exact ⟨⟨x0, x1⟩, rfl, ⟨p0, p1⟩⟩
def Acu : Sh := .st [.sl Aco 32, .sl AcB 16, .sl Aci 24, .i .i64, .i .i64]
theorem AdJ (vs : List V) (h : Acu.fits vs) : ∃ z : Quote, vs = z.enc /\ z.ok := by
 obtain ⟨a0, b0, rfl, h0, a1, b1, rfl, h1, a2, b2, rfl, h2, a3, b3, rfl, h3, a4, b4, rfl, h4, rfl⟩ := h
 obtain ⟨x0, rfl, l0, p0⟩ := Ed AdE h0
 obtain ⟨x1, rfl, l1, p1⟩ := Ed AdQ h1
 obtain ⟨x2, rfl, l2, p2⟩ := Ed Adw h2
 obtain ⟨x3, rfl, p3⟩ := Bo h3
 obtain ⟨x4, rfl, p4⟩ := Bo h4
 exact ⟨⟨x0, x1, x2, x3, x4⟩, rfl, ⟨⟨by dsimp only; omega, p0⟩, ⟨by dsimp only; omega, p1⟩, ⟨by dsimp only; omega, p2⟩, p3, p4⟩⟩
def Acr : Sh := .st [.s, .s, .s]
theorem AdH (vs : List V) (h : Acr.fits vs) : ∃ z : Person, vs = z.enc /\ z.ok := by
 obtain ⟨a0, b0, rfl, h0, a1, b1, rfl, h1, a2, b2, rfl, h2, rfl⟩ := h
 obtain ⟨x0, rfl, p0⟩ := Cu h0
 obtain ⟨x1, rfl, p1⟩ := Cu h1
 obtain ⟨x2, rfl, p2⟩ := Cu h2
 exact ⟨⟨x0, x1, x2⟩, rfl, ⟨p0, p1, p2⟩⟩
def AcA : Sh := .st [.s, .i .i64, .s, .i .i64, .i .i64, .i .i64, .sl .s 16]
theorem AdP (vs : List V) (h : AcA.fits vs) : ∃ z : Tax, vs = z.enc /\ z.ok := by
 obtain ⟨a0, b0, rfl, h0, a1, b1, rfl, h1, a2, b2, rfl, h2, a3, b3, rfl, h3, a4, b4, rfl, h4, a5, b5, rfl, h5, a6, b6, rfl, h6, rfl⟩ := h
 obtain ⟨x0, rfl, p0⟩ := Cu h0
 obtain ⟨x1, rfl, p1⟩ := Bo h1
 obtain ⟨x2, rfl, p2⟩ := Cu h2
 obtain ⟨x3, rfl, p3⟩ := Bo h3
 obtain ⟨x4, rfl, p4⟩ := Bo h4
 obtain ⟨x5, rfl, p5⟩ := Bo h5
 obtain ⟨x6, rfl, l6, p6⟩ := Ed (fun _ h => Cu h) h6
 exact ⟨⟨x0, x1, x2, x3, x4, x5, x6⟩, rfl, ⟨p0, p1, p2, p3, p4, p5, ⟨by dsimp only; omega, p6⟩⟩⟩
def Acm : Sh := .st [.s, .s]
theorem AdC (vs : List V) (h : Acm.fits vs) : ∃ z : Link, vs = z.enc /\ z.ok := by
 obtain ⟨a0, b0, rfl, h0, a1, b1, rfl, h1, rfl⟩ := h
 obtain ⟨x0, rfl, p0⟩ := Cu h0
 obtain ⟨x1, rfl, p1⟩ := Cu h1
 exact ⟨⟨x0, x1⟩, rfl, ⟨p0, p1⟩⟩
def Acv : Sh := .st [.i .i64, .sl Acm 32, .i .i64]
theorem AdK (vs : List V) (h : Acv.fits vs) : ∃ z : Routing, vs = z.enc /\ z.ok := by
 obtain ⟨a0, b0, rfl, h0, a1, b1, rfl, h1, a2, b2, rfl, h2, rfl⟩ := h
 obtain ⟨x0, rfl, p0⟩ := Bo h0
 obtain ⟨x1, rfl, l1, p1⟩ := Ed AdC h1
 obtain ⟨x2, rfl, p2⟩ := Bo h2
 exact ⟨⟨x0, x1, x2⟩, rfl, ⟨p0, ⟨by dsimp only; omega, p1⟩, p2⟩⟩
def Acl : Sh := .st [.s, .s, .s, .s, .s, .b, .i .i64, .i .i64, .i .i64]
theorem AdA (vs : List V) (h : Acl.fits vs) : ∃ z : Fare, vs = z.enc /\ z.ok := by
 obtain ⟨a0, b0, rfl, h0, a1, b1, rfl, h1, a2, b2, rfl, h2, a3, b3, rfl, h3, a4, b4, rfl, h4, a5, b5, rfl, h5, a6, b6, rfl, h6, a7, b7, rfl, h7, a8, b8, rfl, h8, rfl⟩ := h
 obtain ⟨x0, rfl, p0⟩ := Cu h0
 obtain ⟨x1, rfl, p1⟩ := Cu h1
 obtain ⟨x2, rfl, p2⟩ := Cu h2
 obtain ⟨x3, rfl, p3⟩ := Cu h3
 obtain ⟨x4, rfl, p4⟩ := Cu h4
 obtain ⟨x5, rfl⟩ := Af9 h5
 obtain ⟨x6, rfl, p6⟩ := Bo h6
 obtain ⟨x7, rfl, p7⟩ := Bo h7
 obtain ⟨x8, rfl, p8⟩ := Bo h8
 exact ⟨⟨x0, x1, x2, x3, x4, x5, x6, x7, x8⟩, rfl, ⟨p0, p1, p2, p3, p4, trivial, p6, p7, p8⟩⟩
def MI (vs : List V) : Prop := ∃ c : Cond, vs = c.enc /\ c.ok
def ovC (t : TypeId) : Option Sh := if t = 132 then some (.x MI 8) else none
def Acj : Sh := .st [.i .i64, .sl (.x MI 8) 96, .i .i64, .i .i64, Acq, .sl .s 16]
theorem AeY (vs : List V) (h : Acj.fits vs) : MI vs := by
 obtain ⟨a0, b0, rfl, h0, a1, b1, rfl, h1, a2, b2, rfl, h2, a3, b3, rfl, h3, a4, b4, rfl, h4, a5, b5, rfl, h5, rfl⟩ := h
 obtain ⟨x0, rfl, p0⟩ := Bo h0
 obtain ⟨x1, rfl, l1, p1⟩ := Ed (e := .x MI 8) (fun _ h => h) h1
 obtain ⟨x2, rfl, p2⟩ := Bo h2
 obtain ⟨x3, rfl, p3⟩ := Bo h3
 obtain ⟨x4, rfl, p4⟩ := AdG _ h4
 obtain ⟨x5, rfl, l5, p5⟩ := Ed (fun _ h => Cu h) h5
 refine ⟨.mk x0 x1 x2 x3 x4 x5, by rw [Cond.enc_eq]; rfl, (Cond.ok_eq ..).2 ⟨p0, ⟨by omega, p1⟩, p2, p3, p4, ⟨by omega, p5⟩⟩⟩
theorem Agn : shB (shT Tryz.prog ovC 8) Tryz.prog 132 = some Acj := by kernel_rfl
theorem Mc {H : Type} {enc : TypeId × Value -> H} {w : World} {M : Nat -> Prop} (hM : ∀ b, b < w.heap.size -> M b) : ∀ (B f : Nat), f < B -> ∀ {t : TypeId} {cs : List Value} {x : DataW H × List MemPlace} {sh : Sh}, ovC t = some sh -> DataW.trod enc Tryz.prog w 0 (fun _ => true) true f t cs = some x -> (∀ n ∈ x.1.weights Tryz.prog t, n <= reachBytes) -> ∃ vs, sh.fits vs /\ Ej M w cs vs /\ V.cntL vs <= Rows.uptoBulk x.1
 | 0, _, h, _, _, _, _, _, _, _ => absurd h (Ee _)
 | B + 1, f, hf, t, cs, x, sh, hs, h, hwt => by
  unfold ovC at hs
  split at hs
  ·rename_i e
   subst e
   injection hs with hs
   subst hs
   obtain ⟨vs, h1, h2, h3⟩ := Abo hM (fun f' hf' t cs x sh h1 h2 h3 => Tz hM (B := B) (Mc hM B) (by omega) h1 h2 h3) Agn h hwt
   exact ⟨vs, AeY vs h1, h2, h3⟩
  ·cases hs
def QQ (r : Rule) : Prop := inI r.number /\ r.whn.ok /\ inI r.mins /\ inI r.maxs /\ inI r.chg /\ inI r.rfd /\ ∀ x ∈ r.pcts, x.ok
def Acw : Sh := .st [.i .i64, .x MI 8, .sl (.i .i64) 8, .i .i64, .i .i64, .i .i64, .i .i64, .sl Acp 24]
theorem AdL (vs : List V) (h : Acw.fits vs) : ∃ z : Rule, vs = z.enc /\ QQ z := by
 obtain ⟨a0, b0, rfl, h0, a1, b1, rfl, h1, a2, b2, rfl, h2, a3, b3, rfl, h3, a4, b4, rfl, h4, a5, b5, rfl, h5, a6, b6, rfl, h6, a7, b7, rfl, h7, rfl⟩ := h
 obtain ⟨x0, rfl, p0⟩ := Bo h0
 obtain ⟨x1, rfl, p1⟩ := h1
 obtain ⟨x2, rfl, l2, p2⟩ := Ed (fun _ h => Bo h) h2
 obtain ⟨x3, rfl, p3⟩ := Bo h3
 obtain ⟨x4, rfl, p4⟩ := Bo h4
 obtain ⟨x5, rfl, p5⟩ := Bo h5
 obtain ⟨x6, rfl, p6⟩ := Bo h6
 obtain ⟨x7, rfl, l7, p7⟩ := Ed AdF h7
 exact ⟨⟨x0, x1, x2, x3, x4, x5, x6, x7⟩, rfl, p0, p1, p3, p4, p5, p6, p7⟩
theorem AeU {a b : List V} : V.cntL (a ++ b) = V.cntL a + V.cntL b := V.cntL_app a b
theorem Gv {α : Type} {k : Nat} {enc : α -> List V} (h : ∀ a, k <= V.cntL (enc a)) (l : List α) : k * l.length <= V.cntR (l.map enc) := by
 have := WX (k := k) (l := l.map enc) fun r hr => by obtain ⟨a, _, rfl⟩ := Am.1 hr; exact h a
 rwa [Ac] at this
theorem Tn {α : Type} {enc : α -> List V} {l : List α} {a : α} (h : a ∈ l) : V.cntL (enc a) <= V.cntR (l.map enc) := WY (Am.2 ⟨a, h, rfl⟩)
theorem Cond.cnt (c : Cond) : 8 <= V.cntL c.enc := by
 obtain ⟨k, l, a, b, ⟨x, y, z⟩, t⟩ := c
 rw [Cond.enc_eq]
 simp only [V.cntL, V.cnt]
 omega
theorem Rule.cnt (r : Rule) : r.cmb.length + 2 * r.pcts.length <= V.cntL r.enc /\ 8 <= V.cntL r.enc := by
 have h1 : 1 * r.cmb.length <= V.cntR (Ao r.cmb) := Gv (k := 1) (enc := fun n => [V.int .i64 n]) (fun a => by simp [V.cntL, V.cnt]) r.cmb
 have h2 := Gv (k := 2) (enc := Pct.enc) (fun a => by simp [Pct.enc, V.cntL, V.cnt]) r.pcts
 have h3 := Cond.cnt r.whn
 unfold Rule.enc
 simp only [V.cntL, V.cnt, AeU]
 omega
theorem Rule.okB {r : Rule} (h : QQ r) (hc : V.cntL r.enc <= 1048576) : RuleOk r := by
 obtain ⟨a, b, c, d, e, f, g⟩ := h
 have := (Rule.cnt r).1
 exact ⟨a, b, by omega, c, d, e, f, by omega, g⟩
def Acz : Sh := .st [.sl Acl 112, .sl Acw 184, .sl Acv 40, .sl AcA 88]
def Vc (t : Tariff) : Prop := (∀ z ∈ t.fares, z.ok) /\ (∀ z ∈ t.rules, QQ z) /\ (∀ z ∈ t.routings, z.ok) /\ ∀ z ∈ t.taxes, z.ok
theorem AdO (vs : List V) (h : Acz.fits vs) : ∃ z : Tariff, vs = z.enc /\ Vc z := by
 obtain ⟨a0, b0, rfl, h0, a1, b1, rfl, h1, a2, b2, rfl, h2, a3, b3, rfl, h3, rfl⟩ := h
 obtain ⟨x0, rfl, l0, p0⟩ := Ed AdA h0
 obtain ⟨x1, rfl, l1, p1⟩ := Ed AdL h1
 obtain ⟨x2, rfl, l2, p2⟩ := Ed AdK h2
 obtain ⟨x3, rfl, l3, p3⟩ := Ed AdP h3
 exact ⟨⟨x0, x1, x2, x3⟩, rfl, p0, p1, p2, p3⟩
def Acn : Sh := .st [Acs, Acz, .sl AcC 96, Acu, Acr, .i .i64, .s, .i .i64]
def IK (x : Paper) : Prop := x.p.ok /\ Vc x.t /\ (∀ z ∈ x.l, z.ok) /\ x.q.ok /\ x.x.ok /\ inI x.number /\ x.locator.length <= 140737488355328 /\ inI x.day
theorem AdD (vs : List V) (h : Acn.fits vs) : ∃ z : Paper, vs = z.enc /\ IK z := by
 obtain ⟨a0, b0, rfl, h0, a1, b1, rfl, h1, a2, b2, rfl, h2, a3, b3, rfl, h3, a4, b4, rfl, h4, a5, b5, rfl, h5, a6, b6, rfl, h6, a7, b7, rfl, h7, rfl⟩ := h
 obtain ⟨x0, rfl, p0⟩ := AdI _ h0
 obtain ⟨x1, rfl, p1⟩ := AdO _ h1
 obtain ⟨x2, rfl, l2, p2⟩ := Ed AdS h2
 obtain ⟨x3, rfl, p3⟩ := AdJ _ h3
 obtain ⟨x4, rfl, p4⟩ := AdH _ h4
 obtain ⟨x5, rfl, p5⟩ := Bo h5
 obtain ⟨x6, rfl, p6⟩ := Cu h6
 obtain ⟨x7, rfl, p7⟩ := Bo h7
 exact ⟨⟨x0, x1, x2, x3, x4, x5, x6, x7⟩, rfl, p0, p1, p2, p3, p4, p5, p6, p7⟩
theorem Paper.cnt (x : Paper) : V.cntR (x.p.airports.map Airport.enc) + V.cntR (x.p.distances.map Distance.enc) + V.cntR (x.t.fares.map Fare.enc) + V.cntR (x.t.rules.map Rule.enc) + V.cntR (x.t.routings.map Routing.enc) + V.cntR (x.t.taxes.map Tax.enc) + V.cntR (x.l.map Want.enc) + V.cntR (x.q.parts.map Part.enc) + V.cntR (x.q.taxes.map Charge.enc) <= V.cntL x.enc := by
 unfold Paper.enc
 simp only [V.cntL, V.cnt]
 omega
theorem IK.ok {x : Paper} (h : IK x) (hc : V.cntL x.enc <= 1048576) : PpOk x := by
 obtain ⟨p0, ⟨t1, t2, t3, t4⟩, p2, p3, p4, p5, p6, p7⟩ := h
 have hx := Paper.cnt x
 have c1 := Gv (k := 9) (enc := Fare.enc) (fun a => by simp [Fare.enc, V.cntL, V.cnt]) x.t.fares
 have c2 := Gv (k := 8) (enc := Rule.enc) (fun a => (Rule.cnt a).2) x.t.rules
 have c3 := Gv (k := 3) (enc := Routing.enc) (fun a => by simp [Routing.enc, V.cntL, V.cnt]; omega) x.t.routings
 have c4 := Gv (k := 6) (enc := Tax.enc) (fun a => by simp [Tax.enc, V.cntL, V.cnt]; omega) x.t.taxes
 have c5 := Gv (k := 8) (enc := Want.enc) (fun a => by simp [Want.enc, V.cntL, V.cnt]) x.l
 have c6 := Gv (k := 4) (enc := Part.enc) (fun a => by simp [Part.enc, V.cntL, V.cnt]) x.q.parts
 have c7 := Gv (k := 2) (enc := Charge.enc) (fun a => by simp [Charge.enc, V.cntL, V.cnt]) x.q.taxes
 refine ⟨p0, ⟨by omega, by omega, by omega, by omega, t1, fun z hz => Rule.okB (t2 z hz) (by have := Tn (enc := Rule.enc) hz; omega), fun z hz => ⟨t3 z hz, ?_⟩, t4⟩, by omega, p2, by omega, p3.1.2, by omega, p5, p7⟩
 have h1 := Tn (enc := Routing.enc) hz
 have h2 := Gv (k := 2) (enc := Link.enc) (fun a => by simp [Link.enc, V.cntL, V.cnt]) z.links
 have h3 : V.cntR (z.links.map Link.enc) <= V.cntL z.enc := by unfold Routing.enc; simp only [V.cntL, V.cnt]; omega
 omega
theorem Amx {p F W q x n loc d} (h : (DU p F W q x n loc d).2 = 0) : Fj n = true /\ GJ d = true := by
 unfold DU at h
 split at h
 ·exact absurd h (by decide)
 rename_i h1
 split at h
 ·exact absurd h (by decide)
 rename_i h2
 refine ⟨?_, by cases hd : GJ d with | true => rfl | false => exact absurd hd h2⟩
 cases hr : Fj n with
 | true => rfl
 | false => rw [hr] at h1; simp at h1
theorem Amw {p F W q x n loc d} (h : (DU p F W q x n loc d).2 ≠ 0) : DU p F W q x n loc d = (Ticket.zero, (DU p F W q x n loc d).2) := by
 unfold DU at h ⊢
 split
 ·rfl
 rename_i h1
 rw [if_neg h1] at h
 split
 ·rfl
 rename_i h2
 rw [if_neg h2] at h
 split
 ·rfl
 rename_i h3
 rw [if_neg h3] at h
 exact absurd rfl h
theorem Abm : ∀ {l : List Coupon}, (∀ c ∈ l, 0 <= c.value) -> 0 <= (opV l).sum /\ (opV l).sum <= (l.map Coupon.value).sum
 | [], _ => by simp [opV]
 | c :: l, h => by
  obtain ⟨a, b⟩ := Abm (l := l) fun x hx => h x (AU _ hx)
  have hc := h c AH
  unfold opV at a b ⊢
  rw [BE, DP]
  by_cases h1 : opB true c = true
  ·rw [List.filter_cons_of_pos h1, BE, DP]; omega
  ·rw [List.filter_cons_of_neg h1]; omega
theorem WS : ∀ {l : List Charge}, ChK l -> 0 <= (chV l).sum
 | [], _ => by simp [chV]
 | c :: l, h => by
  have a := WS (l := l) fun x hx => h x (AU _ hx)
  have := (h c AH).1
  unfold chV at a ⊢
  rw [BE, DP]; omega
theorem AnC {P : Int -> Prop} {a b : List Coupon} (h : a.map Coupon.value = b.map Coupon.value) (hb : ∀ c ∈ b, P c.value) : ∀ c ∈ a, P c.value := fun c hc => by
 have : c.value ∈ b.map Coupon.value := by rw [<- h]; exact Am.2 ⟨c, hc, rfl⟩
 obtain ⟨y, hy, e⟩ := Am.1 this
 rw [<- e]; exact hb y hy
theorem Aep {l : List Coupon} {i : Nat} (h : i < l.length) : (l.take (i + 1)).any (fun c => !nbB c) = ((l.take i).any (fun c => !nbB c) || decide (l[i].status = 2) || decide (l[i].status = 3) || decide (l[i].status = 4)) := by
 rw [Dm h, List.any_append]
 simp [nbB, Bool.or_assoc]
theorem Aja (l : List Coupon) : (l.map rf1).any (opB true) = false := Nz.2 fun c hc => by
 obtain ⟨y, _, rfl⟩ := Am.1 hc
 by_cases h : y.status = 1 <;> simp [rf1, opB, stc, h]
theorem Ai9 {l : List Coupon} {i : Nat} (h : i < l.length) (h2 : i < (l.map rf1).length) {w : Want} {b : List UInt8} {s v : Int} (hc : (⟨w, b, s, v⟩ : Coupon) = l[i]) : ∃ s2, ¬ s2 = 1 /\ (l.map rf1)[i] = ⟨w, b, s2, v⟩ := by
 rw [Gb, <- hc]
 unfold rf1 stc
 dsimp only
 split
 ·exact ⟨7, by decide, rfl⟩
 ·rename_i h1; exact ⟨s, h1, rfl⟩
theorem Aij {t : Ticket} {z : Int} {p : Paid} (K : PdK t z p) (hv : ∀ c ∈ t.coupons, 0 <= c.value) {fa : Int} (hs : (t.coupons.map Coupon.value).sum = fa) (hx : ChK t.taxes) (ht : t.total = fa + (chV t.taxes).sum) :
  (0 <= p.fee /\ p.fee <= z) /\ (0 <= p.pay /\ p.pay <= t.total) /\ p.fare + p.tax = p.fee + p.pay /\ (0 <= opS t /\ 0 <= txS t) := by
 obtain ⟨a1, a2⟩ := Abm hv
 have a3 := WS hx
 have a4 : txS t = 0 \/ txS t = (chV t.taxes).sum := by unfold txS; split <;> simp
 have k1 := K.fare; have k2 := K.tax; have k3 := K.fee; have k4 := K.pay; have k5 := K.f
 have a5 : opS t = (opV t.coupons).sum := rfl
 omega
structure PpT (y : Paper × List UInt8 × Int × List Int × Int) : Prop where
 a : PpS (y.1, y.2.1, y.2.2.1)
 e : y.2.2.2.1.length <= 140737488355328
 f : inI y.2.2.2.2
def aTR (x : Paper × List UInt8 × Int × List Int × Int) : List V := [.agg x.1.enc, .str x.2.1, .int .i64 x.2.2.1, .list (Ao x.2.2.2.1) false, .int .i64 x.2.2.2.2]
theorem Wb (a b : Paper × List UInt8 × Int × List Int × Int) (h : aTR a = aTR b) : a = b := by
 obtain ⟨a_x, a_s, a_n, a_ev, a_fee⟩ := a
 obtain ⟨b_x, b_s, b_n, b_ev, b_fee⟩ := b
 simp only [aTR, Bz, V.str.injEq, V.int.injEq, V.bool.injEq, V.agg.injEq, V.list.injEq, and_true, true_and] at h
 obtain ⟨h0, h1, h2, h3, h4⟩ := h
 replace h0 := Paper.inj _ _ h0
 subst h0
 subst h1
 subst h2
 replace h3 := Kr h3
 subst h3
 subst h4
 rfl
def fTR (y : Paper × List UInt8 × Int × List Int × Int) : Prop × V := (PpT y, .bool true)
theorem Bi (ps : List Airport) (ds : List Distance) (fs : List Fare) (rs : List Rule) (gs : List Routing) (xs : List Tax) (W : List Want) (pa : List Part) (pr : List Two) (tx : List Charge) (fa to : Int) (la fi ty : List UInt8) (n : Int) (loc : List UInt8) (d : Int) (s : List UInt8) (sl : Int) : gOf aSq (fun x => (PpS x, vBB (fSq x))) [.agg [.list (ps.map Airport.enc) false, .list (ds.map Distance.enc) false, .list (fs.map Fare.enc) false, .list (rs.map Rule.enc) false, .list (gs.map Routing.enc) false, .list (xs.map Tax.enc) false, .list (W.map Want.enc) false, .list (pa.map Part.enc) false, .list (pr.map Two.enc) false, .list (tx.map Charge.enc) false, .int .i64 fa, .int .i64 to, .str la, .str fi, .str ty, .int .i64 n, .str loc, .int .i64 d], .str s, .int .i64 sl] = (PpS (⟨⟨ps, ds⟩, ⟨fs, rs, gs, xs⟩, W, ⟨pa, pr, tx, fa, to⟩, ⟨la, fi, ty⟩, n, loc, d⟩, s, sl), .bool (fSq (⟨⟨ps, ds⟩, ⟨fs, rs, gs, xs⟩, W, ⟨pa, pr, tx, fa, to⟩, ⟨la, fi, ty⟩, n, loc, d⟩, s, sl))) := Al (F := fun x => (PpS x, vBB (fSq x))) VX (⟨⟨ps, ds⟩, ⟨fs, rs, gs, xs⟩, W, ⟨pa, pr, tx, fa, to⟩, ⟨la, fi, ty⟩, n, loc, d⟩, s, sl)
noncomputable def tTR : Tab
 | 6 => (gOf aSq fun x => (PpS x, vBB (fSq x)))
 | 7 => (gOf JL Pt)
 | 8 => (gOf KZ Kj)
 | 9 => (gOf aMv fun x => (MvP x, tkV (fMv x)))
 | 10 => (gOf aRf fun x => (RfP x, vAP (FM x)))
 | 11 => (gOf aEx fun x => (ExP x, vEA (fEa x)))
 | _ => gNo
theorem Al4 : ∀ f, PU f (tTR f) := fun f => by
 unfold tTR
 split
 ·exact AkO
 ·exact Aem
 ·exact Ams
 ·exact Tq
 ·exact Aee
 ·exact Afr
 ·exact Aj.no
set_option maxRecDepth 20000 in
theorem Ai7 : PU 3 (gOf aTR fTR) := by
 have hG := Al4
 refine fi3.a Wb (by simp [aTR]) ?_
 rintro ⟨⟨⟨ps, ds⟩, ⟨fs, rs, gs, xs⟩, W, ⟨pa, pr, tx, fa, to⟩, ⟨la, fi, ty⟩, n, loc, d⟩, s, sl, ev, fee⟩ hv C hN Q hQ
 have Y := fi3.D EF0 hG hN mixed
 have Z := fi3.R EF0 hG hN
 obtain ⟨hS, hev, hfee⟩ : PpT (⟨⟨ps, ds⟩, ⟨fs, rs, gs, xs⟩, W, ⟨pa, pr, tx, fa, to⟩, ⟨la, fi, ty⟩, n, loc, d⟩, s, sl, ev, fee) := hv
 dsimp only at hS hev hfee
 have hP := hS.a
 have hR := AkN _ hS
 obtain ⟨b, hb⟩ : ∃ b, b = fSq (⟨⟨ps, ds⟩, ⟨fs, rs, gs, xs⟩, W, ⟨pa, pr, tx, fa, to⟩, ⟨la, fi, ty⟩, n, loc, d⟩, s, sl) := ⟨_, rfl⟩
 rw [<- hb] at hR
 refine Ab (Z 0 rfl ?_)
 simp only [go_sem, simprocAttr, aTR, Paper.enc, tTR, Bi, Bh, Bg, AB, Bd, Bf, AG]
 refine Ab (Ab (Z 1 rfl ?_))
 simp only [go_sem, simprocAttr, hS, <- hb, tTR, Bi, Bh, Bg, AB, Bd, Bf, AG]
 and_intros <;> try exact sdA
 refine Ai rfl (fun hb1 => ?_) fun hb1 => ?_
 ·refine Ab (Z 2 rfl ?_)
  simp only [go_sem, simprocAttr, tTR, Bi, Bh, Bg, AB, Bd, Bf, AG]
  and_intros <;> try exact sdA
  refine Ag (hQ _ _ (.inl rfl) ?_ ?_ ?_) <;> simp only [go_sem, simprocAttr, fTR]
 simp only [Cg, It, decide_eq_false_iff_not] at hb1
 obtain ⟨⟨⟨z1, z2⟩, z3⟩, z4⟩ := hb1
 obtain ⟨hF, hVd⟩ := hR z1
 have hTk := hP.tk2 hF
 have hn6 : 1 <= W.length /\ W.length <= 6 := hVd.n
 refine Ah ?_
 by_cases hq : (DU ⟨ps, ds⟩ fs W ⟨pa, pr, tx, fa, to⟩ ⟨la, fi, ty⟩ n loc d).2 = 0
 ·obtain ⟨hr1, hdy⟩ := Amx hq
  obtain ⟨cs, hy, hC⟩ := AkF (p := ⟨ps, ds⟩) (F := fs) (W := W) (q := ⟨pa, pr, tx, fa, to⟩) (x := ⟨la, fi, ty⟩) (n := n) (loc := loc) (d := d) (by have := hF.d; dsimp only at this ⊢; omega) hn6 hVd.f hVd.c hVd.a hVd.q.f hr1 hdy (fun f hf => (hP.t.fo f hf).2.2.2.1)
  dsimp only at hy hC
  have hcs := hC.n
  have hT0 : Bv ⟨n, loc, ⟨la, fi, ty⟩, cs, fa, tx, to, d⟩ := ⟨⟨hP.n, hS.l, hS.x, ⟨by dsimp only; omega, fun c hc => ⟨hP.lo _ (by have := hC.w; subst this; exact Am.2 ⟨c, hc, rfl⟩), hC.b c hc, by rw [hC.s c hc]; exact ⟨by omega, by omega⟩, by have := hC.v c hc; unfold inI; omega⟩⟩, hS.q.2.2.2.1, hS.q.2.2.1, hS.q.2.2.2.2, hP.d⟩, by dsimp only; omega, by have := hF.qx; dsimp only at this ⊢; omega⟩
  refine Ab (Z 3 rfl ?_)
  simp only [go_sem, simprocAttr, tTR, Bi, Bh, Bg, AB, Bd, Bf, AG, hTk, hy, tkV, Bu]
  and_intros <;> try exact sdA
  refine Ab (Ab (Z 4 rfl ?_))
  simp only [go_sem, simprocAttr, hq, tTR, Bi, Bh, Bg, AB, Bd, Bf, AG]
  refine DC rfl ?_
  refine Ah ?_
  refine Ab (Ab (Z 6 rfl ?_))
  simp only [go_sem, simprocAttr, Ac, hcs, tTR, Bi, Bh, Bg, AB, Bd, Bf, AG]
  refine DC rfl ?_
  refine Ah ?_
  refine Ab (Ab (Z 8 rfl ?_))
  simp only [go_sem, simprocAttr, tTR, Bi, Bh, Bg, AB, Bd, Bf, AG]
  refine Ar ?_
  refine Bj (α := Nat × (List Coupon)) (fun γ => (γ.1 <= ev.length) /\ (Bv ⟨n, loc, ⟨la, fi, ty⟩, γ.2, fa, tx, to, d⟩) /\ (γ.2.map Coupon.value = cs.map Coupon.value)) (fun γ => ⟨mkE [(3, V.list (Ao ev) false), (4, V.int IntKind.i64 fee), (5, V.ptr 5 0), (11, V.ptr 11 0), (13, .int .i64 γ.1)], mkH [(5, Ob.box 41 [V.list (List.map Airport.enc ps) false, V.list (List.map Distance.enc ds) false, V.list (List.map Fare.enc fs) false, V.list (List.map Rule.enc rs) false, V.list (List.map Routing.enc gs) false, V.list (List.map Tax.enc xs) false, V.list (List.map Want.enc W) false, V.list (List.map Part.enc pa) false, V.list (List.map Two.enc pr) false, V.list (List.map Charge.enc tx) false, V.int IntKind.i64 fa, V.int IntKind.i64 to, V.str la, V.str fi, V.str ty, V.int IntKind.i64 n, V.str loc, V.int IntKind.i64 d]), (11, .box 47 [.int .i64 n, .str loc, .str la, .str fi, .str ty, .list (γ.2.map Coupon.enc) false, .int .i64 fa, .list (tx.map Charge.enc) false, .int .i64 to, .int .i64 d])]⟩) (fun γ => ev.length - γ.1) (0, cs) ⟨As _, hT0, rfl⟩ ?_ ?_
  ·exact leM
  rintro ⟨i, c2⟩ ⟨hi, hg, hv⟩ KL0 hKL0
  try dsimp only at *
  refine Ab (Ab (Z 9 rfl ?_))
  simp only [go_sem, simprocAttr, tTR, Bi, Bh, Bg, AB, Bd, Bf, AG]
  refine Ai rfl (fun hc9 => ?_) fun hc9 => ?_
  ·simp only [hcL] at hc9
   refine Ah ?_
   refine Ab (Ar ?_)
   have hc2l : c2.length = W.length := by have := congrArg List.length hv; rw [Ac, Ac, hcs] at this; exact this
   obtain ⟨at', hat⟩ : ∃ z, z = (i : Int).tmod c2.length := ⟨_, rfl⟩
   have hat0 : 0 <= at' /\ at' < c2.length := by rw [hat]; exact ⟨Int.tmod_nonneg _ (by omega), Nx _ (by omega)⟩
   refine Ab (Z 11 rfl ?_)
   simp only [go_sem, simprocAttr, Ac, <- hat, tTR, Bi, Bh, Bg, AB, Bd, Bf, AG]
   and_intros <;> try exact sdA
   have hMp : MvP (⟨n, loc, ⟨la, fi, ty⟩, c2, fa, tx, to, d⟩, at', ev[i]) := ⟨hg, by unfold inI; dsimp only; omega⟩
   have hMc := Aa2 hMp
   generalize hee : ev[i] = ee at hMp hMc
   by_cases hq2 : (fMv (⟨n, loc, ⟨la, fi, ty⟩, c2, fa, tx, to, d⟩, at', ee)).2 = 0
   ·obtain ⟨c3, hM, hk3, hv3⟩ := (hMc.resolve_left fun h => h.1 hq2).2
    replace hM : fMv (⟨n, loc, ⟨la, fi, ty⟩, c2, fa, tx, to, d⟩, at', ee) = (⟨n, loc, ⟨la, fi, ty⟩, c3, fa, tx, to, d⟩, 0) := hM
    refine Ab (FG (EF := EF0) hG mixed (by rw [hN]; exact Adc) Abi ?_)
    simp only [Oo, RH, go_sem, simprocAttr, tTR, Bi, Bh, Bg, AB, Bd, Bf, AG, EY _ _ _ hc9, hc9, hee, hMp, hM, Bu]
    and_intros <;> try exact sdA
    refine Ab (Z 13 rfl ?_)
    simp only [go_sem, simprocAttr, hq2, tTR, Bi, Bh, Bg, AB, Bd, Bf, AG]
    refine GF rfl ?_
    refine Z 14 rfl ?_
    simp only [go_sem, simprocAttr, tTR, Bi, Bh, Bg, AB, Bd, Bf, AG]
    refine Z 10 rfl ?_
    simp only [go_sem, simprocAttr, inI, tTR, Bi, Bh, Bg, AB, Bd, Bf, AG]
    and_intros <;> try exact sdA
    refine hKL0 (i + 1, c3) _ ?_ ?_ ?_
    ·(try dsimp only); exact ⟨hc9, hk3, hv3.trans hv⟩
    ·(try dsimp only); omega
    exact leM
   have hM := (hMc.resolve_right fun h => hq2 h.1).2
   obtain ⟨er, hre⟩ : ∃ er, er = (fMv (⟨n, loc, ⟨la, fi, ty⟩, c2, fa, tx, to, d⟩, at', ee)).2 := ⟨_, rfl⟩
   rw [<- hre] at hM hq2
   clear hre
   refine Ab (FG (EF := EF0) hG mixed (by rw [hN]; exact Adc) Abi ?_)
   simp only [Oo, RH, go_sem, simprocAttr, tTR, Bi, Bh, Bg, AB, Bd, Bf, AG, EY _ _ _ hc9, hc9, hee, hMp, hM, Bu, Ticket.zero, Person.zero]
   and_intros <;> try exact sdA
   refine Ab (Z 13 rfl ?_)
   simp only [go_sem, simprocAttr, hq2, tTR, Bi, Bh, Bg, AB, Bd, Bf, AG]
   refine DC rfl ?_
   refine Ah ?_
   refine Z 10 rfl ?_
   simp only [go_sem, simprocAttr, inI, tTR, Bi, Bh, Bg, AB, Bd, Bf, AG]
   and_intros <;> try exact sdA
   refine hKL0 (i + 1, c2) _ ?_ ?_ ?_
   ·(try dsimp only); exact ⟨hc9, hg, hv⟩
   ·(try dsimp only); omega
   exact leM
  simp only [hcL] at hc9
  have hcl2 : c2.length <= 100 := hg.2.1
  have hvk := AnC (P := fun v => 0 <= v /\ v <= 1099511627776) hv hC.v
  refine Be ?_
  simp only [go_sem, simprocAttr]
  refine Ab (Z 15 rfl ?_)
  simp only [go_sem, simprocAttr, tTR, Bi, Bh, Bg, AB, Bd, Bf, AG]
  refine Ab (Ab (Z 16 rfl ?_))
  simp only [go_sem, simprocAttr, tTR, Bi, Bh, Bg, AB, Bd, Bf, AG]
  refine Ar ?_
  refine Bj (α := Nat × Int × Bool) (fun γ => (γ.1 <= c2.length) /\ (γ.2.1 = (opV (c2.take γ.1)).sum) /\ (γ.2.2 = (c2.take γ.1).any (fun c => !nbB c)) /\ (0 <= γ.2.1 /\ γ.2.1 <= 1099511627776 * (γ.1 : Int))) (fun γ => ⟨mkE [(4, V.int IntKind.i64 fee), (5, V.ptr 5 0), (11, V.ptr 11 0), (17, .int .i64 γ.2.1), (18, .bool γ.2.2), (19, .int .i64 γ.1)], mkH [(5, Ob.box 41 [V.list (List.map Airport.enc ps) false, V.list (List.map Distance.enc ds) false, V.list (List.map Fare.enc fs) false, V.list (List.map Rule.enc rs) false, V.list (List.map Routing.enc gs) false, V.list (List.map Tax.enc xs) false, V.list (List.map Want.enc W) false, V.list (List.map Part.enc pa) false, V.list (List.map Two.enc pr) false, V.list (List.map Charge.enc tx) false, V.int IntKind.i64 fa, V.int IntKind.i64 to, V.str la, V.str fi, V.str ty, V.int IntKind.i64 n, V.str loc, V.int IntKind.i64 d]), (11, Ob.box 47 [V.int IntKind.i64 n, V.str loc, V.str la, V.str fi, V.str ty, V.list (List.map Coupon.enc c2) false, V.int IntKind.i64 fa, V.list (List.map Charge.enc tx) false, V.int IntKind.i64 to, V.int IntKind.i64 d])]⟩) (fun γ => c2.length - γ.1) (0, 0, false) ⟨As _, rfl, rfl, by decide, by decide⟩ ?_ ?_
  ·exact leM
  rintro ⟨i, o, q⟩ ⟨hi2, ho, hqb, hob⟩ KL2 hKL2
  try dsimp only at *
  refine Ab (Ab (Z 17 rfl ?_))
  simp only [go_sem, simprocAttr, Ac, tTR, Bi, Bh, Bg, AB, Bd, Bf, AG]
  refine Ai rfl (fun hc17 => ?_) fun hc17 => ?_
  ·simp only [hcL] at hc17
   refine Ah ?_
   refine Ab (Ar ?_)
   have hst := Abn hc17
   have hbs := Aep hc17
   have hvv := hvk _ (AI hc17)
   obtain ⟨⟨⟨⟨sa, sb, sc, sd, se, sf, sg⟩, cl⟩, ba, st, vv⟩, hcc⟩ : ∃ c, c = c2[i] := ⟨_, rfl⟩
   rw [<- hcc] at hst hbs hvv
   dsimp only at hst hbs hvv
   refine Ab (Z 19 rfl ?_)
   simp only [go_sem, simprocAttr, Ap _ _ _ _ hc17, hc17, <- hcc, Coupon.enc, Ac, tTR, Bi, Bh, Bg, AB, Bd, Bf, AG]
   and_intros <;> try exact sdA
   refine Ab (Ab (Z 20 rfl ?_))
   simp only [go_sem, simprocAttr, tTR, Bi, Bh, Bg, AB, Bd, Bf, AG]
   refine Ai rfl (fun hb20 => ?_) fun hb20 => ?_
   ·refine Z 21 rfl ?_
    simp only [go_sem, simprocAttr, inI, Ap _ _ _ _ hc17, hc17, <- hcc, Coupon.enc, Ac, tTR, Bi, Bh, Bg, AB, Bd, Bf, AG]
    and_intros <;> try exact sdA
    refine Z 22 rfl ?_
    simp only [go_sem, simprocAttr, tTR, Bi, Bh, Bg, AB, Bd, Bf, AG]
    and_intros <;> try exact sdA
    refine Z 18 rfl ?_
    simp only [go_sem, simprocAttr, inI, tTR, Bi, Bh, Bg, AB, Bd, Bf, AG]
    and_intros <;> try exact sdA
    refine hKL2 (i + 1, o + vv, (q || decide (st = 2) || decide (st = 3) || decide (st = 4))) _ ?_ ?_ ?_
    ·(try dsimp only); exact ⟨hc17, by rw [hst, if_pos (by simpa using hb20), ND, <- ho]; simp, by rw [hbs, <- hqb], by omega, by omega⟩
    ·(try dsimp only); omega
    exact leM
   refine Ah ?_
   refine Z 22 rfl ?_
   simp only [go_sem, simprocAttr, tTR, Bi, Bh, Bg, AB, Bd, Bf, AG]
   and_intros <;> try exact sdA
   refine Z 18 rfl ?_
   simp only [go_sem, simprocAttr, inI, tTR, Bi, Bh, Bg, AB, Bd, Bf, AG]
   and_intros <;> try exact sdA
   refine hKL2 (i + 1, o, (q || decide (st = 2) || decide (st = 3) || decide (st = 4))) _ ?_ ?_ ?_
   ·(try dsimp only); exact ⟨hc17, by rw [hst, if_neg (by simpa using hb20), <- ho], by rw [hbs, <- hqb], by omega, by omega⟩
   ·(try dsimp only); omega
   exact leM
  simp only [hcL] at hc17
  rw [BR hc17] at ho hqb
  refine Be ?_
  simp only [go_sem, simprocAttr]
  have hRp : RfP (⟨n, loc, ⟨la, fi, ty⟩, c2, fa, tx, to, d⟩, fee) := ⟨hg, hfee⟩
  have hRa := WB _ hRp
  by_cases hf : (FM (⟨n, loc, ⟨la, fi, ty⟩, c2, fa, tx, to, d⟩, fee)).2.2 = 0
  ·obtain ⟨hK, hV⟩ := hRa.2 hf
   obtain ⟨⟨p1, p2, p3, p4⟩, hpq⟩ : ∃ p, p = (FM (⟨n, loc, ⟨la, fi, ty⟩, c2, fa, tx, to, d⟩, fee)).2.1 := ⟨_, rfl⟩
   rw [<- hpq] at hK
   have hap : FM (⟨n, loc, ⟨la, fi, ty⟩, c2, fa, tx, to, d⟩, fee) = (⟨n, loc, ⟨la, fi, ty⟩, c2.map rf1, fa, tx, to, d⟩, ⟨p1, p2, p3, p4⟩, 0) := Prod.ext hV (Prod.ext hpq.symm hf)
   have hVok : Bv ⟨n, loc, ⟨la, fi, ty⟩, c2.map rf1, fa, tx, to, d⟩ := by have := hRa.1; rw [hap] at this; exact this
   clear hpq hV hRa
   obtain rfl : q = false := by rw [hqb]; exact Nz.2 fun c hc => by rw [hK.nb c hc]; decide
   refine Ab (Z 23 rfl ?_)
   simp only [go_sem, simprocAttr, tTR, Bi, Bh, Bg, AB, Bd, Bf, AG, hRp, hap, Bu, Paid.enc]
   and_intros <;> try exact sdA
   refine Ab (Ab (Z 24 rfl ?_))
   simp only [go_sem, simprocAttr, tTR, Bi, Bh, Bg, AB, Bd, Bf, AG]
   refine DC rfl ?_
   refine Ah ?_
   refine Ab (Ab (Z 26 rfl ?_))
   simp only [go_sem, simprocAttr, hf, tTR, Bi, Bh, Bg, AB, Bd, Bf, AG]
   refine DC rfl ?_
   refine Ah ?_
   refine Ab ?_
   have hE : p1 = o := by rw [ho]; exact hK.fare
   have hsv : (c2.map Coupon.value).sum = fa := by rw [hv]; exact hC.t
   obtain ⟨w1, w2, w3, w4⟩ := Aij hK (fun c hc => (hvk c hc).1) hsv hVd.q.x hVd.q.t
   have k3 := hK.c
   have k1 : p1 = opS ⟨n, loc, ⟨la, fi, ty⟩, c2, fa, tx, to, d⟩ := hK.fare
   have k2 : p2 = txS ⟨n, loc, ⟨la, fi, ty⟩, c2, fa, tx, to, d⟩ := hK.tax
   rw [<- k1, <- k2] at k3 w4
   dsimp only at w1 w2 w3
   have e1 : decide (p1 = o) = true := decide_eq_true hE
   have e2 : decide (p1 + p2 = p3 + p4) = true := decide_eq_true w3
   have e3 : decide (p4 < 0) = false := decide_eq_false (by omega)
   have e4 : decide (to < p4) = false := decide_eq_false (by omega)
   have e5 : decide (fee < p3) = false := decide_eq_false (by omega)
   have e6 : decide (p3 < 0) = false := decide_eq_false (by omega)
   refine Ab (Z 28 rfl ?_)
   simp only [go_sem, simprocAttr, inI, e1, e2, e3, e4, e5, e6, tTR, Bi, Bh, Bg, AB, Bd, Bf, AG]
   and_intros <;> try exact sdA
   refine DC rfl ?_
   refine Ah ?_
   refine Ab (Ab (Z 30 rfl ?_))
   simp only [go_sem, simprocAttr, tTR, Bi, Bh, Bg, AB, Bd, Bf, AG]
   refine Ar ?_
   refine Bj (α := Nat) (fun i => (i <= c2.length)) (fun i => ⟨mkE [(4, V.int IntKind.i64 fee), (5, V.ptr 5 0), (11, V.ptr 11 0), (21, V.ptr 21 0), (22, V.ptr 22 0), (24, .int .i64 i)], mkH [(5, Ob.box 41 [V.list (List.map Airport.enc ps) false, V.list (List.map Distance.enc ds) false, V.list (List.map Fare.enc fs) false, V.list (List.map Rule.enc rs) false, V.list (List.map Routing.enc gs) false, V.list (List.map Tax.enc xs) false, V.list (List.map Want.enc W) false, V.list (List.map Part.enc pa) false, V.list (List.map Two.enc pr) false, V.list (List.map Charge.enc tx) false, V.int IntKind.i64 fa, V.int IntKind.i64 to, V.str la, V.str fi, V.str ty, V.int IntKind.i64 n, V.str loc, V.int IntKind.i64 d]), (11, Ob.box 47 [V.int IntKind.i64 n, V.str loc, V.str la, V.str fi, V.str ty, V.list (List.map Coupon.enc c2) false, V.int IntKind.i64 fa, V.list (List.map Charge.enc tx) false, V.int IntKind.i64 to, V.int IntKind.i64 d]), (21, Ob.box 47 [V.int IntKind.i64 n, V.str loc, V.str la, V.str fi, V.str ty, V.list (List.map Coupon.enc (List.map rf1 c2)) false, V.int IntKind.i64 fa, V.list (List.map Charge.enc tx) false, V.int IntKind.i64 to, V.int IntKind.i64 d]), (22, Ob.box 59 [V.int IntKind.i64 p1, V.int IntKind.i64 p2, V.int IntKind.i64 p3, V.int IntKind.i64 p4])]⟩) (fun i => c2.length - i) 0 (As _) ?_ ?_
   ·exact leM
   rintro i hi4 KL4 hKL4
   try dsimp only at *
   refine Ab (Ab (Z 31 rfl ?_))
   simp only [go_sem, simprocAttr, Ac, tTR, Bi, Bh, Bg, AB, Bd, Bf, AG]
   refine Ai rfl (fun hc31 => ?_) fun hc31 => ?_
   ·simp only [hcL] at hc31
    refine Ah ?_
    refine Ab (Ar ?_)
    obtain ⟨⟨⟨⟨sa, sb, sc, sd, se, sf, sg⟩, cl⟩, ba, st, vv⟩, hcc⟩ : ∃ c, c = c2[i] := ⟨_, rfl⟩
    have hl : i < (c2.map rf1).length := by rw [Ac]; exact hc31
    obtain ⟨s2, hs2, hr⟩ := Ai9 hc31 hl hcc
    refine Ab (Y 33 rfl (by kernel_rfl) ?_)
    simp only [go_sem, simprocAttr, Ap _ _ _ _ hl, hl, hr, Coupon.enc, Ac, Ap _ _ _ _ hc31, hc31, <- hcc, hs2, tTR, Bi, Bh, Bg, AB, Bd, Bf, AG]
    and_intros <;> try exact sdA
    refine DC rfl ?_
    refine Ah ?_
    refine Z 32 rfl ?_
    simp only [go_sem, simprocAttr, inI, tTR, Bi, Bh, Bg, AB, Bd, Bf, AG]
    and_intros <;> try exact sdA
    refine hKL4 (i + 1) _ ?_ ?_ ?_
    ·(try dsimp only); exact hc31
    ·(try dsimp only); omega
    exact leM
   simp only [hcL] at hc31
   refine Be ?_
   simp only [go_sem, simprocAttr]
   have hRp2 : RfP (⟨n, loc, ⟨la, fi, ty⟩, c2.map rf1, fa, tx, to, d⟩, fee) := ⟨hVok, hfee⟩
   have hRa2 := WB _ hRp2
   obtain ⟨⟨⟨v1, v2, ⟨v3, v4, v5⟩, v6, v7, v8, v9, v10⟩, ⟨r1, r2, r3, r4⟩, f2⟩, hap2⟩ : ∃ y, y = FM (⟨n, loc, ⟨la, fi, ty⟩, c2.map rf1, fa, tx, to, d⟩, fee) := ⟨_, rfl⟩
   rw [<- hap2] at hRa2
   have hf2 : ¬ f2 = 0 := fun e => by have := (hRa2.2 e).1.op; dsimp only at this; rw [Aja] at this; cases this
   refine Ab (Z 35 rfl ?_)
   simp only [go_sem, simprocAttr, hRp2, <- hap2, Bu, Paid.enc, tTR, Bi, Bh, Bg, AB, Bd, Bf, AG]
   and_intros <;> try exact sdA
   have hEx : ExP (⟨n, loc, ⟨la, fi, ty⟩, c2, fa, tx, to, d⟩, ⟨pa, pr, tx, fa, to⟩, fee) := ⟨hg, hS.q.2.2.2.2, hfee⟩
   have hEr := Afq _ hEx
   obtain ⟨⟨⟨u1, u2, ⟨u3, u4, u5⟩, u6, u7, u8, u9, u10⟩, ⟨d1, d2, d3, d4⟩, g⟩, hea⟩ : ∃ y, y = fEa (⟨n, loc, ⟨la, fi, ty⟩, c2, fa, tx, to, d⟩, ⟨pa, pr, tx, fa, to⟩, fee) := ⟨_, rfl⟩
   rw [<- hea] at hEr
   refine Ab (Z 36 rfl ?_)
   simp only [go_sem, simprocAttr, hEx, <- hea, Bu, Deal.enc, tTR, Bi, Bh, Bg, AB, Bd, Bf, AG]
   and_intros <;> try exact sdA
   refine Ab ?_
   by_cases hg0 : g = 0
   ·have hD := hEr hg0
    have j1 : d1 = p1 + p2 := by rw [k1, k2]; exact hD.res
    have j2 : d2 = fee := hD.fee
    have j3 : d3 = max (to + fee - (p1 + p2)) 0 := by rw [k1, k2]; exact hD.col
    have j4 : d4 = max (-(to + fee - (p1 + p2))) 0 := by rw [k1, k2]; exact hD.cre
    have j5 := hD.b
    have j6 := hD.c
    dsimp only at j5 j6
    have e7 : decide (d1 = p1 + p2) = true := decide_eq_true j1
    have e8 : decide (d1 + d3 = to + d2 + d4) = true := decide_eq_true (by omega)
    have e9 : (!decide (d3 = 0) && !decide (d4 = 0)) = false := by rcases Int.le_total (to + fee - (p1 + p2)) 0 with h | h; (rw [show d3 = 0 by omega]; rfl); (rw [show d4 = 0 by omega]; simp)
    refine Ab (Z 37 rfl ?_)
    simp only [go_sem, simprocAttr, inI, tTR, Bi, Bh, Bg, AB, Bd, Bf, AG, hg0, e7, e8, e9]
    and_intros <;> try exact sdA
    refine DC rfl ?_
    refine Ah ?_
    refine Ab (Z 39 rfl ?_)
    simp only [go_sem, simprocAttr, hf2, tTR, Bi, Bh, Bg, AB, Bd, Bf, AG]
    and_intros <;> try exact sdA
    refine Ag (hQ _ _ (.inl rfl) ?_ ?_ ?_) <;> simp only [go_sem, simprocAttr, fTR]
   refine Ab (Z 37 rfl ?_)
   simp only [go_sem, simprocAttr, inI, tTR, Bi, Bh, Bg, AB, Bd, Bf, AG, hg0]
   and_intros <;> try exact sdA
   refine DC rfl ?_
   refine Ah ?_
   refine Ab (Z 39 rfl ?_)
   simp only [go_sem, simprocAttr, hf2, tTR, Bi, Bh, Bg, AB, Bd, Bf, AG]
   and_intros <;> try exact sdA
   refine Ag (hQ _ _ (.inl rfl) ?_ ?_ ?_) <;> simp only [go_sem, simprocAttr, fTR]
  obtain ⟨⟨⟨v1, v2, ⟨v3, v4, v5⟩, v6, v7, v8, v9, v10⟩, ⟨p1, p2, p3, p4⟩, f⟩, hap⟩ : ∃ y, y = FM (⟨n, loc, ⟨la, fi, ty⟩, c2, fa, tx, to, d⟩, fee) := ⟨_, rfl⟩
  rw [<- hap] at hf
  replace hf : ¬ f = 0 := hf
  refine Ab (Z 23 rfl ?_)
  simp only [go_sem, simprocAttr, tTR, Bi, Bh, Bg, AB, Bd, Bf, AG, hRp, <- hap, Bu, Paid.enc]
  and_intros <;> try exact sdA
  refine Ab (Ab (Z 24 rfl ?_))
  simp only [go_sem, simprocAttr, tTR, Bi, Bh, Bg, AB, Bd, Bf, AG]
  refine Ai rfl (fun hb24 => ?_) fun hb24 => ?_
  ·refine Ab (Z 25 rfl ?_)
   simp only [go_sem, simprocAttr, hf, tTR, Bi, Bh, Bg, AB, Bd, Bf, AG]
   and_intros <;> try exact sdA
   refine Ag (hQ _ _ (.inl rfl) ?_ ?_ ?_) <;> simp only [go_sem, simprocAttr, fTR]
  refine Ah ?_
  refine Ab (Ab (Z 26 rfl ?_))
  simp only [go_sem, simprocAttr, hf, tTR, Bi, Bh, Bg, AB, Bd, Bf, AG]
  refine GF rfl ?_
  refine Ab (Z 27 rfl ?_)
  simp only [go_sem, simprocAttr, tTR, Bi, Bh, Bg, AB, Bd, Bf, AG]
  and_intros <;> try exact sdA
  refine Ag (hQ _ _ (.inl rfl) ?_ ?_ ?_) <;> simp only [go_sem, simprocAttr, fTR]
 have hy := Amw hq
 obtain ⟨e, he⟩ : ∃ e, e = (DU ⟨ps, ds⟩ fs W ⟨pa, pr, tx, fa, to⟩ ⟨la, fi, ty⟩ n loc d).2 := ⟨_, rfl⟩
 rw [<- he] at hy hq
 clear he
 refine Ab (Z 3 rfl ?_)
 simp only [go_sem, simprocAttr, tTR, Bi, Bh, Bg, AB, Bd, Bf, AG, hTk, hy, tkV, Bu, Ticket.zero, Person.zero]
 and_intros <;> try exact sdA
 refine Ab (Ab (Z 4 rfl ?_))
 simp only [go_sem, simprocAttr, hq, tTR, Bi, Bh, Bg, AB, Bd, Bf, AG]
 refine GF rfl ?_
 refine Ab (Z 5 rfl ?_)
 simp only [go_sem, simprocAttr, tTR, Bi, Bh, Bg, AB, Bd, Bf, AG]
 and_intros <;> try exact sdA
 refine Ag (hQ _ _ (.inl rfl) ?_ ?_ ?_) <;> simp only [go_sem, simprocAttr, fTR]
theorem Paper.cnt2 (x : Paper) : V.cntR (x.q.pairs.map Two.enc) + V.cntR (x.t.taxes.map Tax.enc) <= V.cntL x.enc := by
 unfold Paper.enc
 simp only [V.cntL, V.cnt]
 omega
theorem IK.okS {y : Paper × List UInt8 × Int} (h : IK y.1) (hc : V.cntL y.1.enc <= 1048576) (hs : y.2.1.length <= 140737488355328) (hn : inI y.2.2) : PpS y := by
 obtain ⟨p0, ⟨t1, t2, t3, t4⟩, p2, p3, p4, p5, p6, p7⟩ := id h
 have hx := Paper.cnt2 y.1
 have c1 := Gv (k := 2) (enc := Two.enc) (fun a => by simp [Two.enc, V.cntL, V.cnt]) y.1.q.pairs
 refine ⟨h.ok hc, p3, p4, p6, by omega, fun z hz => ?_, hs, hn⟩
 have h1 := Tn (enc := Tax.enc) hz
 have h2 := Gv (k := 1) (enc := fun n => [V.str n]) (fun a => by simp [V.cntL, V.cnt]) z.free
 have h3 : V.cntR (z.free.map fun n => [V.str n]) <= V.cntL z.enc := by unfold Tax.enc strs; simp only [V.cntL, V.cnt]; omega
 omega
theorem IK.okT {y : Paper × List UInt8 × Int × List Int × Int} (h : IK y.1) (hc : V.cntL y.1.enc <= 1048576) (hs : y.2.1.length <= 140737488355328) (hn : inI y.2.2.1) (he : y.2.2.2.1.length <= 140737488355328) (hf : inI y.2.2.2.2) : PpT y := ⟨IK.okS (y := (y.1, y.2.1, y.2.2.1)) h hc hs hn, he, hf⟩
end Go.Proofs.YtjkclhbckfkeeaaGreatDoor
namespace Go.Proofs.YtjkclhbckfkeeaaGreatDoor
open Go Go.ChangeShapes Go.WideShapes Go.ChangeAt Go.RowKit
theorem own : ownKnob Tryz.prog.godebug = none := by kernel_rfl
theorem laidOut : laidOutB Tryz.prog = true := by kernel_rfl
theorem Adg {H : Type} {enc : TypeId × Value -> H} {P : Program} (hl : laidOutB P = true) {W W' : World} (hb : Below W.heap.size W W') :
  ∀ {ts : List TypeId} {vs : List Value} {ds : List (DataW H)} {ps : List MemPlace}, (∀ t ∈ ts, P.readableRec t = true /\ t < P.types.size) ->
   DataW.TrodAll enc P W 0 (fun _ => true) true ts vs ds ps -> (∀ x ∈ ps, x.block < W.heap.size) ->
   DataW.TrodAll enc P W' 0 (fun b => decide (b < W.heap.size)) true ts vs ds ps
 | [], [], [], _, _, h, _ => h
 | t :: ts, v :: vs, d :: ds, ps, hts, h, hlt => by
  obtain ⟨p, q, h1, h2, rfl⟩ := h
  exact ⟨p, q, Below.trod hl (hts t (.head _)).1 (hts t (.head _)).2 h1 hb (fun x hx => hlt x (KC _ hx)),
   Adg hl hb (fun t ht => hts t (.tail _ ht)) h2 (fun x hx => hlt x (Np _ hx)), rfl⟩
 | [], _ :: _, _, _, _, h, _ => h.elim
 | [], [], _ :: _, _, _, h, _ => h.elim
 | _ :: _, [], _, _, _, h, _ => h.elim
 | _ :: _, _ :: _, [], _, _, h, _ => h.elim
theorem law_post {H : Type} {enc : TypeId × Value -> H} {f : Func} {s : ChangeSpec} {W W' : World} {args : Array Value} {ds : List (DataW H)} {before : List MemPlace}
  (hl : laidOutB Tryz.prog = true) (hts : ∀ t ∈ f.params.toList, Tryz.prog.readableRec t = true /\ t < Tryz.prog.types.size) (hvars : s.vars = [])
  (hres : f.resultTypes = #[4]) (hW : DataW.Whole enc Tryz.prog f.params.toList s.vars false W args.toList ds [] before)
  (hfn : s.fn H (ds ++ []) = { results := [.lit (.bool true)], args := ds }) (hb : Below W.heap.size W W') :
  s.post enc Tryz.prog f false true false false W args (.bool true) W' := by
 have hlt := hW.lt
 have hW2 := hW
 obtain ⟨p, q, hA, hV, rfl, hfz, hnd⟩ := hW2
 have hq : q = [] := by
  rw [hvars] at hV
  exact hV
 subst hq
 refine ⟨ds, [], p ++ [], [], p, [], hW, ?_, ?_, ?_, hb.frame _, fun h => by cases h⟩
 ·rw [hfn, hres]
  exact trodAll_cons_mk (shut_bool Tryz.underlying4 _) trodAll_mk0
 ·rw [hfn]
  exact Adg hl hb hts hA (fun x hx => hlt x (KC _ hx))
 rw [hfn, hvars]
 exact rfl
end Go.Proofs.YtjkclhbckfkeeaaGreatDoor
