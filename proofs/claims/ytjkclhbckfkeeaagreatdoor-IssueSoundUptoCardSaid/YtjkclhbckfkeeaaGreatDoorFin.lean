import Derived.Test.YtjkclhbckfkeeaaGreatDoorHo22
import Derived.Test.YtjkclhbckfkeeaaGreatDoorTie
import Derived.Test.YtjkclhbckfkeeaaGreatDoorCards
import Derived.WalkKit
import Derived.ProofKit
import Derived.OpenShut
import Derived.Carry
import Derived.Deep.DeepHandedRow
import Derived.Lib.LaidTab
import Derived.Stop.LaidErr
set_option linter.unusedSimpArgs false
set_option linter.unusedVariables false
set_option linter.deprecated false
namespace Go.Proofs.YtjkclhbckfkeeaaGreatDoor
open Go Go.RowKit
theorem Paper.cnt2 (x : Paper) : V.cntR (x.q.pairs.map Two.enc) + V.cntR (x.t.taxes.map Tax.enc) <= V.cntL x.enc := by
 unfold Paper.enc
 simp only [V.cntL, V.cnt]
 omega
theorem Nf.okS {y : Paper × List UInt8 × Int} (h : Nf y.1) (hc : V.cntL y.1.enc <= 1048576) (hs : y.2.1.length <= 140737488355328) (hn : inI y.2.2) : PpS y := by
 obtain ⟨p0, ⟨t1, t2, t3, t4⟩, p2, p3, p4, p5, p6, p7⟩ := id h
 have hx := Paper.cnt2 y.1
 have c1 := GS (k := 2) (enc := Two.enc) (fun a => by simp [Two.enc, V.cntL, V.cnt]) y.1.q.pairs
 refine ⟨h.ok hc, p3, p4, p6, by omega, fun z hz => ?_, hs, hn⟩
 have h1 := TL (enc := Tax.enc) hz
 have h2 := GS (k := 1) (enc := fun n => [V.str n]) (fun a => by simp [V.cntL, V.cnt]) z.free
 have h3 : V.cntR (z.free.map fun n => [V.str n]) <= V.cntL z.enc := by unfold Tax.enc strs; simp only [V.cntL, V.cnt]; omega
 omega
end Go.Proofs.YtjkclhbckfkeeaaGreatDoor
namespace Go.Proofs.YtjkclhbckfkeeaaGreatDoor
open Go Go.ChangeShapes Go.WideShapes Go.ChangeAt Go.RowKit
theorem own : ownKnob Tryz.prog.godebug = none := by kernel_rfl
theorem laidOut : laidOutB Tryz.prog = true := by kernel_rfl
theorem AdR {H : Type} {enc : TypeId × Value -> H} {P : Program} (hl : laidOutB P = true) {W W' : World} (hb : Below W.heap.size W W') :
  ∀ {ts : List TypeId} {vs : List Value} {ds : List (DataW H)} {ps : List MemPlace}, (∀ t ∈ ts, P.readableRec t = true /\ t < P.types.size) ->
   DataW.TrodAll enc P W 0 (fun _ => true) true ts vs ds ps -> (∀ x ∈ ps, x.block < W.heap.size) ->
   DataW.TrodAll enc P W' 0 (fun b => decide (b < W.heap.size)) true ts vs ds ps
 | [], [], [], _, _, h, _ => h
 | t :: ts, v :: vs, d :: ds, ps, hts, h, hlt => by
  obtain ⟨p, q, h1, h2, rfl⟩ := h
  exact ⟨p, q, Below.trod hl (hts t (.head _)).1 (hts t (.head _)).2 h1 hb (fun x hx => hlt x (Lv _ hx)),
   AdR hl hb (fun t ht => hts t (.tail _ ht)) h2 (fun x hx => hlt x (NU _ hx)), rfl⟩
 | [], _ :: _, _, _, _, h, _ => h.elim
 | [], [], _ :: _, _, _, h, _ => h.elim
 | _ :: _, [], _, _, _, h, _ => h.elim
 | _ :: _, _ :: _, [], _, _, h, _ => h.elim
theorem law_post {H : Type} {enc : TypeId × Value -> H} {f : Func} {s : ChangeSpec} {W W' : World} {args : Array Value} {ds : List (DataW H)} {before : List MemPlace}
  (hl : laidOutB Tryz.prog = true) (hts : ∀ t ∈ f.params.toList, Tryz.prog.readableRec t = true /\ t < Tryz.prog.types.size) (hvars : s.vars = [])
  (hres : f.resultTypes = #[4]) (hW : DataW.Whole enc Tryz.prog f.params.toList s.vars false W args.toList ds [] before)
  (hfn : s.fn H (ds ++ []) = { results := [.lit (.bool true)], args := ds }) (hb : Below W.heap.size W W') :
  s.post enc Tryz.prog f false true false false W args (.bool true) W' := by
 have hlt := hW.lt
 have hW2 := hW
 obtain ⟨p, q, hA, hV, rfl, hfz, hnd⟩ := hW2
 have hq : q = [] := by
  rw [hvars] at hV
  exact hV
 subst hq
 refine ⟨ds, [], p ++ [], [], p, [], hW, ?_, ?_, ?_, hb.frame _, fun h => by cases h⟩
 ·rw [hfn, hres]
  exact trodAll_cons_mk (shut_bool Tryz.underlying4 _) trodAll_mk0
 ·rw [hfn]
  exact AdR hl hb hts hA (fun x hx => hlt x (Lv _ hx))
 rw [hfn, hvars]
 exact rfl
end Go.Proofs.YtjkclhbckfkeeaaGreatDoor
