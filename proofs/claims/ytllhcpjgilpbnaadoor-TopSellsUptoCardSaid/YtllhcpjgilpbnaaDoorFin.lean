import Derived.Test.YtllhcpjgilpbnaaDoorO3
import Derived.Test.YtllhcpjgilpbnaaDoorTie
import Derived.Test.YtllhcpjgilpbnaaDoorCards
import Derived.WalkKit
import Derived.ProofKit
import Derived.OpenShut
import Derived.Carry
import Derived.Deep.DeepHandedRow
import Derived.Lib.LaidTab
import Derived.Stop.LaidErr
namespace Go.Proofs.YtllhcpjgilpbnaaDoor
open Go Go.RowKit
set_option linter.unusedSimpArgs false
set_option linter.unusedVariables false
set_option linter.deprecated false
def shLid : Sh := .st [.s, .i .i64, .i .i64, .s]
theorem Lid_of (vs : List V) (h : shLid.fits vs) : ∃ z : Lid, vs = z.enc ∧ z.ok := by
  obtain ⟨a0, b0, rfl, h0, a1, b1, rfl, h1, a2, b2, rfl, h2, a3, b3, rfl, h3, rfl⟩ := h
  obtain ⟨x0, rfl, p0⟩ := fits_s h0
  obtain ⟨x1, rfl, p1⟩ := fits_i h1
  obtain ⟨x2, rfl, p2⟩ := fits_i h2
  obtain ⟨x3, rfl, p3⟩ := fits_s h3
  exact ⟨⟨x0, x1, x2, x3⟩, rfl, ⟨p0, p1, p2, p3⟩⟩
def shSl : Sh := .st [.i .i64, .s, .i .i64]
theorem Sl_of (vs : List V) (h : shSl.fits vs) : ∃ z : Sl, vs = z.enc ∧ z.ok := by
  obtain ⟨a0, b0, rfl, h0, a1, b1, rfl, h1, a2, b2, rfl, h2, rfl⟩ := h
  obtain ⟨x0, rfl, p0⟩ := fits_i h0
  obtain ⟨x1, rfl, p1⟩ := fits_s h1
  obtain ⟨x2, rfl, p2⟩ := fits_i h2
  exact ⟨⟨x0, x1, x2⟩, rfl, ⟨p0, p1, p2⟩⟩
def shClass : Sh := .st [.s, .i .i64]
def shCabin : Sh := .st [.s, .i .i64, .i .i64, .sl shClass 24]
def shConf : Sh := .st [.s, .sl shCabin 56]
theorem class_of (vs : List V) (h : shClass.fits vs) : ∃ z : Class, vs = z.enc ∧ z.ok := by
  obtain ⟨a, b, rfl, h1, c, d, rfl, h2, rfl⟩ := h
  obtain ⟨x, rfl, hx⟩ := fits_s h1
  obtain ⟨y, rfl, hy⟩ := fits_i h2
  exact ⟨⟨x, y⟩, rfl, hx, hy⟩
theorem cabin_of (vs : List V) (h : shCabin.fits vs) : ∃ y : Cabin, vs = y.enc ∧ y.ok := by
  obtain ⟨a, b, rfl, h1, c, d, rfl, h2, e, f, rfl, h3, g, i, rfl, h4, rfl⟩ := h
  obtain ⟨x, rfl, hx⟩ := fits_s h1
  obtain ⟨y, rfl, hy⟩ := fits_i h2
  obtain ⟨z, rfl, hz⟩ := fits_i h3
  obtain ⟨l, rfl, hl, hok⟩ := fits_sl class_of h4
  exact ⟨⟨x, y, z, l⟩, rfl, hx, hy, hz, by dsimp only; omega, hok⟩
theorem Config_of (vs : List V) (h : shConf.fits vs) : ∃ c : Config, vs = c.enc ∧ c.ok := by
  obtain ⟨a, b, rfl, h1, c, d, rfl, h2, rfl⟩ := h
  obtain ⟨x, rfl, hx⟩ := fits_s h1
  obtain ⟨l, rfl, hl, hok⟩ := fits_sl cabin_of h2
  exact ⟨⟨x, l⟩, rfl, hx, by dsimp only; omega, hok⟩
theorem conf_cnt {l : List Config} (h : V.cntL [.list (l.map Config.enc) false] ≤ 1048576) : (∀ x ∈ l, x.cabs.length ≤ 600000) ∧ ∀ x ∈ l, ∀ y ∈ x.cabs, y.cl.length ≤ 600000 := by
  have h : 1 + V.cntR (l.map Config.enc) + 0 ≤ 1048576 := h
  have hx : ∀ x ∈ l, V.cntR (x.cabs.map Cabin.enc) ≤ 1048576 := fun x hx => by
    have h2 := cntR_mem (List.mem_map.2 ⟨x, hx, rfl⟩ : x.enc ∈ l.map Config.enc)
    have h2 : 1 + (1 + V.cntR (x.cabs.map Cabin.enc) + 0) ≤ V.cntR (l.map Config.enc) := h2
    omega
  refine ⟨fun x hm => ?_, fun x hm y hy => ?_⟩
  · have h2 := cntR_len (k := 4) (l := x.cabs.map Cabin.enc) fun r hr => by
      obtain ⟨y, _, rfl⟩ := List.mem_map.1 hr
      show 4 ≤ 1 + (1 + (1 + (1 + V.cntR (y.cl.map Class.enc) + 0)))
      omega
    rw [List.length_map] at h2
    have := hx x hm
    omega
  · have h2 := cntR_mem (List.mem_map.2 ⟨y, hy, rfl⟩ : y.enc ∈ x.cabs.map Cabin.enc)
    have h2 : 1 + (1 + (1 + (1 + V.cntR (y.cl.map Class.enc) + 0))) ≤ V.cntR (x.cabs.map Cabin.enc) := h2
    have h3 := cntR_len (k := 2) (l := y.cl.map Class.enc) fun r hr => by
      obtain ⟨z, _, rfl⟩ := List.mem_map.1 hr
      exact Nat.le_refl 2
    rw [List.length_map] at h3
    have := hx x hm
    omega
end Go.Proofs.YtllhcpjgilpbnaaDoor
namespace Go.Proofs.YtllhcpjgilpbnaaDoor
open Go Go.ChangeShapes Go.WideShapes Go.ChangeAt Go.RowKit
set_option linter.unusedSimpArgs false
set_option linter.unusedVariables false
set_option linter.deprecated false
theorem own : ownKnob Tryd.prog.godebug = none := by kernel_rfl
theorem laidOut : laidOutB Tryd.prog = true := by kernel_rfl
theorem trodAll_below {H : Type} {enc : TypeId × Value → H} {P : Program} (hl : laidOutB P = true) {W W' : World} (hb : Below W.heap.size W W') :
    ∀ {ts : List TypeId} {vs : List Value} {ds : List (DataW H)} {ps : List MemPlace}, (∀ t ∈ ts, P.readableRec t = true ∧ t < P.types.size) →
      DataW.TrodAll enc P W 0 (fun _ => true) true ts vs ds ps → (∀ x ∈ ps, x.block < W.heap.size) →
      DataW.TrodAll enc P W' 0 (fun b => decide (b < W.heap.size)) true ts vs ds ps
  | [], [], [], _, _, h, _ => h
  | t :: ts, v :: vs, d :: ds, ps, hts, h, hlt => by
    obtain ⟨p, q, h1, h2, rfl⟩ := h
    exact ⟨p, q, Below.trod hl (hts t (.head _)).1 (hts t (.head _)).2 h1 hb (fun x hx => hlt x (List.mem_append_left _ hx)),
      trodAll_below hl hb (fun t ht => hts t (.tail _ ht)) h2 (fun x hx => hlt x (List.mem_append_right _ hx)), rfl⟩
  | [], _ :: _, _, _, _, h, _ => h.elim
  | [], [], _ :: _, _, _, h, _ => h.elim
  | _ :: _, [], _, _, _, h, _ => h.elim
  | _ :: _, _ :: _, [], _, _, h, _ => h.elim
theorem law_post {H : Type} {enc : TypeId × Value → H} {f : Func} {s : ChangeSpec} {W W' : World} {args : Array Value} {ds : List (DataW H)} {before : List MemPlace}
    (hl : laidOutB Tryd.prog = true) (hts : ∀ t ∈ f.params.toList, Tryd.prog.readableRec t = true ∧ t < Tryd.prog.types.size) (hvars : s.vars = [])
    (hres : f.resultTypes = #[4]) (hW : DataW.Whole enc Tryd.prog f.params.toList s.vars false W args.toList ds [] before)
    (hfn : s.fn H (ds ++ []) = { results := [.lit (.bool true)], args := ds }) (hb : Below W.heap.size W W') :
    s.post enc Tryd.prog f false true false false W args (.bool true) W' := by
  have hlt := hW.lt
  have hW2 := hW
  obtain ⟨p, q, hA, hV, rfl, hfz, hnd⟩ := hW2
  have hq : q = [] := by
    rw [hvars] at hV
    exact hV
  subst hq
  refine ⟨ds, [], p ++ [], [], p, [], hW, ?_, ?_, ?_, hb.frame _, fun h => by cases h⟩
  · rw [hfn, hres]
    exact trodAll_cons_mk (shut_bool Tryd.underlying4 _) trodAll_mk0
  · rw [hfn]
    exact trodAll_below hl hb hts hA (fun x hx => hlt x (List.mem_append_left _ hx))
  · rw [hfn, hvars]
    exact rfl
end Go.Proofs.YtllhcpjgilpbnaaDoor
