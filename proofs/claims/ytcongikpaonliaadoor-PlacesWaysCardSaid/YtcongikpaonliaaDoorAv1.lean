/- Abstract values: what a slot holds, seen without the world; the relation to the model's values and memory. -/
import Derived.WalkKit
import Derived.WalkSmall
import Derived.Lib.Hide
namespace Go.Proofs.YtcongikpaonliaaDoor
open Go Go.RowKit
set_option linter.unusedSimpArgs false
set_option linter.unusedVariables false
set_option linter.deprecated false
/-- Abstract values. list: a slice that nobody writes any more, as its rows of cells; row: a pointer into such a row; ptr, own, map: handles of named objects of the state. -/
inductive V where
  | any
  | bool (b : Bool)
  | int (k : IntKind) (n : Int)
  | str (s : List UInt8)
  | nils
  | nilp
  | nilm
  | agg (vs : List V)
  | tup (vs : List V)
  | list (rows : List (List V)) (fit : Bool)
  | row (vs : List V) (off : Nat)
  | fn (f : Nat) (cap : List V)
  | ptr (n off : Nat)
  | eptr (n len i off : Nat)
  | own (n len : Nat)
  | map (n : Nat)
  | when (b : Bool) (v : V)
  deriving Inhabited
/-- Keys of maps. -/
inductive Ky where
  | s (l : List UInt8)
  | i (n : Int)
  | ss (a b : List UInt8)
  deriving DecidableEq, Inhabited
def KyRel : Ky → Value → Prop
  | .s l, v => v = .string ⟨l.toArray⟩
  | .i n, v => v = .int .i64 n
  | .ss a b, v => v = .agg #[.string ⟨a.toArray⟩, .string ⟨b.toArray⟩]
/-- Objects of the state. -/
inductive Ob where
  | box (t : TypeId) (cells : List V)
  | arr (t : TypeId) (sz : Nat) (rows : List (List V))
  | mp (es : List (Ky × V))
  deriving Inhabited
structure St where
  e : Nat → V
  h : Nat → Option Ob
/-- The block that a handle names. -/
def blk : Value → Option Nat
  | .pointer (some a) => some a.block
  | .slice (some a) _ _ => some a.block
  | .map (some r) => some r
  | _ => none
/-- Values that name no object of the state: what they reach lies in blocks of M, and nobody writes those any more. -/
inductive Pur (M : Nat → Prop) (w : World) : V → Value → Prop
  | any (cv : Value) : Pur M w .any cv
  | bool (b : Bool) : Pur M w (.bool b) (.bool b)
  | int (k : IntKind) (n : Int) : Pur M w (.int k n) (.int k n)
  | str (s : List UInt8) : Pur M w (.str s) (.string ⟨s.toArray⟩)
  | nils : Pur M w .nils (.slice none 0 0)
  | nilp : Pur M w .nilp (.pointer none)
  | nilm : Pur M w .nilm (.map none)
  | agg (vs : List V) (cs : Array Value) (hl : vs.length = cs.size) (ho : ∀ c ∈ cs.toList, c.oneCell' = true) (hv : ∀ i v, vs[i]? = some v → Pur M w v (cs.getD i undef)) : Pur M w (.agg vs) (.agg cs)
  | tup (vs : List V) (cs : Array Value) (hl : vs.length = cs.size) (hv : ∀ i v, vs[i]? = some v → Pur M w v (cs.getD i undef)) : Pur M w (.tup vs) (.tuple cs)
  | list (rows : List (List V)) (fit : Bool) (a : Option Addr) (cap sz g off : Nat) (f : Nat → Nat → Value) (hf : fit = true → cap = rows.length) (hcap : rows.length ≤ cap) (hn : a = none → cap = 0) (ha : rows = [] ∨ a = some ⟨g, off, none⟩ ∧ M g)
      (hr : ∀ r ∈ rows, r.length = sz) (hc : ∀ (i j : Nat), i < rows.length → j < sz → w.cell? ⟨g, off + i * sz + j, none⟩ = some (f i j) ∧ (f i j).oneCell' = true)
      (hv : ∀ i j r v, rows[i]? = some r → r[j]? = some v → Pur M w v (f i j)) : Pur M w (.list rows fit) (.slice a rows.length cap)
  | row (vs : List V) (off g o : Nat) (f : Nat → Value) (hg : M g) (hc : ∀ j : Nat, j < vs.length → w.cell? ⟨g, o + j, none⟩ = some (f j) ∧ (f j).oneCell' = true)
      (hv : ∀ j v, vs[j]? = some v → Pur M w v (f j)) : Pur M w (.row vs off) (.pointer (some ⟨g, o + off, none⟩))
  | fn (n : Nat) (vs : List V) (cs : Array Value) (hl : vs.length = cs.size) (hv : ∀ i v, vs[i]? = some v → Pur M w v (cs.getD i undef)) : Pur M w (.fn n vs) (.func (.func n) #[] cs)
  | when (b : Bool) (v : V) (cv : Value) (ht : b = true → Pur M w v cv) (hf : b = false → cv = undef) : Pur M w (.when b v) cv
/-- Values of a state: M the blocks that nobody writes, ι the handles of the objects h. -/
inductive Rel (M : Nat → Prop) (w : World) (ι : Nat → Value) (h : Nat → Option Ob) : V → Value → Prop
  | pur {v : V} {cv : Value} (hp : Pur M w v cv) : Rel M w ι h v cv
  | agg (vs : List V) (cs : Array Value) (hl : vs.length = cs.size) (ho : ∀ c ∈ cs.toList, c.oneCell' = true) (hv : ∀ i v, vs[i]? = some v → Rel M w ι h v (cs.getD i undef)) : Rel M w ι h (.agg vs) (.agg cs)
  | tup (vs : List V) (cs : Array Value) (hl : vs.length = cs.size) (hv : ∀ i v, vs[i]? = some v → Rel M w ι h v (cs.getD i undef)) : Rel M w ι h (.tup vs) (.tuple cs)
  | fn (n : Nat) (vs : List V) (cs : Array Value) (hl : vs.length = cs.size) (hv : ∀ i v, vs[i]? = some v → Rel M w ι h v (cs.getD i undef)) : Rel M w ι h (.fn n vs) (.func (.func n) #[] cs)
  | when (b : Bool) (v : V) (cv : Value) (ht : b = true → Rel M w ι h v cv) (hf : b = false → cv = undef) : Rel M w ι h (.when b v) cv
  | ptrb (n off b : Nat) (t : TypeId) (cells : List V) (ho : h n = some (.box t cells)) (hb : ι n = .pointer (some ⟨b, 0, none⟩)) : Rel M w ι h (.ptr n off) (.pointer (some ⟨b, off, none⟩))
  | eptr (n len i off : Nat) (t : TypeId) (sz : Nat) (rows : List (List V)) (cv : Value) (ho : h n = some (.arr t sz rows)) (hle : len ≤ rows.length) (hs : cv.oneCell' = true)
      (hv : rows.length = len → ∃ g cap, ι n = .slice (some ⟨g, 0, none⟩) len cap ∧ cv = .pointer (some ⟨g, i * sz + off, none⟩)) : Rel M w ι h (.eptr n len i off) cv
  | own (n len : Nat) (t : TypeId) (sz : Nat) (rows : List (List V)) (cv : Value) (ho : h n = some (.arr t sz rows)) (hle : len ≤ rows.length) (hv : rows.length = len → cv = ι n) (hs : cv.oneCell' = true) : Rel M w ι h (.own n len) cv
  | map (n : Nat) (es : List (Ky × V)) (ho : h n = some (.mp es)) (cv : Value) (hv : cv = ι n) (hs : cv.oneCell' = true) : Rel M w ι h (.map n) cv
/-- What memory holds of an object. -/
def obR (M : Nat → Prop) (w : World) (ι : Nat → Value) (h : Nat → Option Ob) (n : Nat) : Ob → Prop
  | .box t cells => ∃ (b : Nat) (cs : Array Value), ι n = .pointer (some ⟨b, 0, none⟩) ∧ w.heap[b]? = some (.cells cs t (0, 0)) ∧ cells.length = cs.size ∧ (∀ c ∈ cs.toList, c.oneCell' = true) ∧
      ∀ i v, cells[i]? = some v → Rel M w ι h v (cs.getD i undef)
  | .arr t sz rows => ∃ xs : List Value, w.ownsRow 0 t sz (ι n) rows.length xs ∧ (∀ r ∈ rows, r.length = sz) ∧ (∀ x ∈ xs, x.oneCell' = true) ∧
      ∀ i j r v, rows[i]? = some r → r[j]? = some v → Rel M w ι h v (xs.getD (i * sz + j) undef)
  | .mp es => ∃ (b : Nat) (ents : Array MapEntry) (clock : Nat), ι n = .map (some b) ∧ w.heap[b]? = some (.map ents clock) ∧ es.length = ents.size ∧
      ∀ (i : Nat) (kv : Ky × V), es[i]? = some kv → ∃ en : MapEntry, ents[i]? = some en ∧ KyRel kv.1 en.key ∧ Rel M w ι h kv.2 en.val
/-- What is known of package-level tables: a property of worlds, the blocks that it speaks of. -/
structure Tbl where
  B : World → Prop
  T : Nat → Prop
  keep : ∀ w w' : World, (∀ b, T b → w'.heap[b]? = w.heap[b]?) → B w → B w'
/-- What stays fixed through a function's run: the world at its start, the blocks from before that it may write, its number of slots, the blocks that nobody wrote before, the handles that came in (names from 1000 on). -/
structure Ctx (U : Tbl) where
  w0 : World
  X : Nat → Prop
  N : Nat
  M0 : Nat → Prop
  ι0 : Nat → Value
  h0 : Nat → Option Ob
structure Mem {U : Tbl} (C : Ctx U) (h : Nat → Option Ob) (w : World) (M : Nat → Prop) (ι : Nat → Value) : Prop where
  obj : ∀ n o, h n = some o → obR M w ι h n o
  dis : ∀ n m b, (h n).isSome = true → (h m).isSome = true → blk (ι n) = some b → blk (ι m) = some b → n = m
  imm : ∀ n b, (h n).isSome = true → blk (ι n) = some b → ¬ M b
  lt : ∀ b, M b → b < w.heap.size
  may : ∀ n b, (h n).isSome = true → blk (ι n) = some b → C.X b ∨ C.w0.heap.size ≤ b
  size : C.w0.heap.size ≤ w.heap.size
  keep : ∀ b, b < C.w0.heap.size → ¬ C.X b → w.heap[b]? = C.w0.heap[b]?
  os : w.os = C.w0.os
  tape : w.tape = C.w0.tape
  output : w.output = C.w0.output
  base : ∀ b, C.M0 b → M b
  tb : U.B w
  tm : ∀ b, U.T b → M b
  old : ∀ b, b < C.w0.heap.size → M b → C.M0 b ∨ C.X b
  arr0 : ∀ n t sz r0 t' sz' rows, 1000 ≤ n → C.h0 n = some (.arr t sz r0) → h n = some (.arr t' sz' rows) → r0.length ≤ rows.length ∧ (rows.length = r0.length → ι n = C.ι0 n)
  pin : ∀ n, 1000 ≤ n → (∀ t cells, h n = some (.box t cells) → ι n = C.ι0 n) ∧ ∀ es, h n = some (.mp es) → ι n = C.ι0 n
structure Good {U : Tbl} (C : Ctx U) (s : St) (a : Act) (w : World) (M : Nat → Prop) (ι : Nat → Value) : Prop where
  mem : Mem C s.h w M ι
  env : ∀ t, Rel M w ι s.h (s.e t) (a.tmps.getD t undef)
  dfr : a.defers = []
  num : a.tmps.size = C.N

section
variable {M M' : Nat → Prop} {w w' : World} {ι ι' : Nat → Value} {h h' : Nat → Option Ob}
theorem Pur.mono (hM : ∀ b, M b → M' b) (hw : ∀ b, M b → w'.heap[b]? = w.heap[b]?) {v : V} {cv : Value} (hp : Pur M w v cv) : Pur M' w' v cv := by
  induction hp with
  | any cv => exact .any cv
  | bool b => exact .bool b
  | int k n => exact .int k n
  | str s => exact .str s
  | nils => exact .nils
  | nilp => exact .nilp
  | nilm => exact .nilm
  | agg vs cs hl ho _ ih => exact .agg vs cs hl ho ih
  | tup vs cs hl _ ih => exact .tup vs cs hl ih
  | list rows fit a cap sz g off f hf hcap hn ha hr hc _ ih =>
    refine .list rows fit a cap sz g off f hf hcap hn (ha.imp id fun ⟨h1, h2⟩ => ⟨h1, hM _ h2⟩) hr (fun i j hi hj => ?_) ih
    rcases ha with rfl | ⟨_, hg⟩
    · exact absurd hi (Nat.not_lt_zero _)
    · rw [World.cell?_of_block (w := w) (hw g hg)]
      exact hc i j hi hj
  | row vs off g o f hg hc _ ih =>
    refine .row vs off g o f (hM _ hg) (fun j hj => ?_) ih
    rw [World.cell?_of_block (w := w) (hw g hg)]
    exact hc j hj
  | fn n vs cs hl _ ih => exact .fn n vs cs hl ih
  | when b v cv _ hf ih => exact .when b v cv ih hf
/-- What the new state still knows of the objects. -/
structure Keeps (h h' : Nat → Option Ob) (ι ι' : Nat → Value) : Prop where
  box : ∀ n t cells, h n = some (.box t cells) → ι' n = ι n ∧ ∃ cells', h' n = some (.box t cells')
  arr : ∀ n t sz rows, h n = some (.arr t sz rows) → ∃ rows', h' n = some (.arr t sz rows') ∧ rows.length ≤ rows'.length ∧ (rows'.length = rows.length → ι' n = ι n)
  mp : ∀ n es, h n = some (.mp es) → ι' n = ι n ∧ ∃ es', h' n = some (.mp es')
theorem Keeps.refl (h : Nat → Option Ob) (ι : Nat → Value) : Keeps h h ι ι :=
  ⟨fun _ _ c hn => ⟨rfl, c, hn⟩, fun _ _ _ r hn => ⟨r, hn, Nat.le_refl _, fun _ => rfl⟩, fun _ e hn => ⟨rfl, e, hn⟩⟩
theorem Keeps.trans {h h' h'' : Nat → Option Ob} {ι ι' ι'' : Nat → Value} (a : Keeps h h' ι ι') (b : Keeps h' h'' ι' ι'') : Keeps h h'' ι ι'' :=
  ⟨fun n t c hn => let ⟨e1, c', h1⟩ := a.box n t c hn; let ⟨e2, c'', h2⟩ := b.box n t c' h1; ⟨e2.trans e1, c'', h2⟩,
   fun n t sz r hn => let ⟨r', h1, l1, e1⟩ := a.arr n t sz r hn; let ⟨r'', h2, l2, e2⟩ := b.arr n t sz r' h1
     ⟨r'', h2, Nat.le_trans l1 l2, fun e => (e2 (by omega)).trans (e1 (by omega))⟩,
   fun n es hn => let ⟨e1, c', h1⟩ := a.mp n es hn; let ⟨e2, c'', h2⟩ := b.mp n c' h1; ⟨e2.trans e1, c'', h2⟩⟩
theorem Rel.keep (hM : ∀ b, M b → M' b) (hw : ∀ b, M b → w'.heap[b]? = w.heap[b]?) (hk : Keeps h h' ι ι') {v : V} {cv : Value} (hp : Rel M w ι h v cv) : Rel M' w' ι' h' v cv := by
  induction hp with
  | pur hp => exact .pur (hp.mono hM hw)
  | agg vs cs hl ho _ ih => exact .agg vs cs hl ho ih
  | tup vs cs hl _ ih => exact .tup vs cs hl ih
  | fn n vs cs hl _ ih => exact .fn n vs cs hl ih
  | when b v cv _ hf ih => exact .when b v cv ih hf
  | ptrb n off b t cells ho hb =>
    obtain ⟨e, c', h1⟩ := hk.box n t cells ho
    exact .ptrb n off b t c' h1 (e.trans hb)
  | eptr n len i off t sz rows cv ho hle hs hv =>
    obtain ⟨r', h1, l1, e1⟩ := hk.arr n t sz rows ho
    refine .eptr n len i off t sz r' cv h1 (by omega) hs (fun e => ?_)
    rw [e1 (by omega)]
    exact hv (by omega)
  | own n len t sz rows cv ho hle hv hs =>
    obtain ⟨r', h1, l1, e1⟩ := hk.arr n t sz rows ho
    refine .own n len t sz r' cv h1 (by omega) (fun e => ?_) hs
    rw [e1 (by omega)]
    exact hv (by omega)
  | map n es ho cv hv hs =>
    obtain ⟨e, c', h1⟩ := hk.mp n es ho
    exact .map n c' h1 cv (hv.trans e.symm) hs
end
end Go.Proofs.YtcongikpaonliaaDoor
