import Derived.WalkKit
import Derived.WalkSmall
import Derived.Lib.Hide
import Derived.Laws.AppendOwnNone
import Derived.MapKept
import Derived.Lib.ConvBytes
import Derived.Laws.BytesArg
import Derived.Laws.Bits64b
import Derived.ChangeKeysEq
set_option linter.unusedSimpArgs false
set_option linter.unusedVariables false
set_option linter.deprecated false
namespace Go.Proofs.YtjkclhbckfkeeaaGreatDoor
open Go Go.RowKit
abbrev Ac := @List.length_map
abbrev An := @List.length_append
abbrev AS := @List.getD_eq_getElem?_getD
abbrev Aw := @List.length_cons
abbrev Am := @List.mem_map
abbrev Ax := @List.length_nil
abbrev AY := @Option.map_eq_some_iff
abbrev AH := @List.mem_cons_self
abbrev Bm := @List.getElem?_eq_getElem
abbrev AU := @List.mem_cons_of_mem
abbrev AK := @Result.andThen_ok
abbrev AI := @List.getElem_mem
abbrev As := @Nat.zero_le
abbrev Bk := @List.mem_of_getElem?
abbrev BQ := @List.getElem?_eq_some_iff
abbrev Bl := @Bool.false_eq_true
abbrev AA := @Sem.run_bind
abbrev Bp := @List.mem_singleton
abbrev BR := @List.take_of_length_le
abbrev AN := @List.mem_cons
abbrev AF := @Nat.le_refl
abbrev BC := @List.getElem?_map
abbrev Bx := @Bool.and_eq_true
abbrev Bz := @List.cons.injEq
abbrev Cg := @Bool.or_eq_false_iff
abbrev Br := @List.append_nil
abbrev Cv := @Array.getElem?_toList
abbrev BS := @Option.some.injEq
abbrev Bb := @Sem.run_pure
abbrev BJ := @List.length_take
abbrev CB := @Nat.mul_le_mul_right
abbrev DL := @List.drop_eq_getElem_cons
abbrev BW := @List.length_drop
abbrev BT := @List.mem_append
abbrev Ch := @List.all_eq_true
abbrev DM := @List.getElem?_cons_succ
abbrev BE := @List.map_cons
abbrev Fa := @List.getElem?_cons_zero
abbrev FX := @Array.getElem?_eq_some_iff
abbrev Fv := @Option.isSome_iff_exists
abbrev Dh := @List.not_mem_nil
abbrev Ep := @Array.length_toList
abbrev EG := @List.mem_of_mem_take
abbrev Fb := @List.mem_of_mem_drop
abbrev GX := @List.getElem?_append_right
abbrev DN := @List.cons_append
abbrev GY := @List.getElem?_append_left
abbrev DO := @List.map_append
abbrev Gs := @List.append_eq_nil_iff
abbrev CI := @Nat.zero_add
abbrev EH := @List.append_assoc
abbrev Fc := @Int.toNat_natCast
abbrev FY := @List.mem_iff_getElem
abbrev Ee := @Nat.not_lt_zero
abbrev Ef := @List.nil_append
abbrev Iq := @Array.getD_eq_getD_getElem?
abbrev FZ := @List.map_congr_left
abbrev Er := @Option.map_some
abbrev Hy := @List.length_eq_zero_iff
abbrev GZ := @List.contains_iff_mem
abbrev Fd := @Option.getD_some
abbrev Ga := @List.length_range'
abbrev DP := @List.sum_cons
abbrev Hz := @List.drop_eq_nil_of_le
abbrev Ir := @List.getElem?_take_of_lt
abbrev Ji := @Array.getElem?_eq_getElem
abbrev Gb := @List.getElem_map
abbrev Gt := @List.size_toArray
abbrev Kz := @Int.tdiv_eq_ediv_of_nonneg
abbrev Jj := @Int.eq_ofNat_of_zero_le
abbrev Gc := @List.length_set
abbrev Gd := @Bool.or_eq_true
abbrev NJ := @List.take_succ_eq_append_getElem
abbrev EI := @Nat.succ_mul
abbrev Jk := @Array.toArray_toList
abbrev Fe := @Nat.add_zero
abbrev Is := @Nat.lt_of_lt_of_le
abbrev It := @Bool.not_eq_false'
abbrev Ha := @Option.some.inj
abbrev EJ := @Nat.add_mul
abbrev KA := @List.take_append_drop
abbrev KB := @List.length_replicate
abbrev Hb := @List.drop_zero
abbrev Jl := @List.getElem?_drop
abbrev KC := @List.mem_append_left
abbrev Iu := @Nat.lt_succ_self
abbrev Iv := @List.any_eq_true
abbrev HA := @List.take_zero
abbrev NK := @List.exists_mem_of_ne_nil
abbrev Iw := @List.nodup_cons
abbrev PR := @Int.mul_le_mul_of_nonneg_left
abbrev LR := @Array.replicate_zero
abbrev LS := @Array.replicate_succ
abbrev HB := @Nat.le_trans
abbrev HC := @List.map_nil
abbrev Ix := @List.mapM_cons
abbrev Gu := @Int.le_refl
abbrev Jm := @Option.map_none
abbrev LT := @List.take_succ_cons
abbrev LU := @List.getD_cons_succ
abbrev LA := @List.drop_succ_cons
abbrev LB := @List.append_toArray
abbrev LC := @Function.comp_apply
abbrev Kt := @List.mem_flatMap
abbrev LD := @Array.empty_append
abbrev Np := @List.mem_append_right
abbrev Jg := @Int.mul_nonneg
abbrev PJ := @List.mem_or_eq_of_mem_set
abbrev LE := @Nat.sub_pos_of_lt
abbrev LF := @List.push_toArray
abbrev LG := @Bool.not_eq_true'
abbrev LH := @Bool.eq_false_iff
abbrev Jh := @Nat.add_assoc
abbrev Nq := @Nat.mul_le_mul_left
abbrev Nr := @List.map_eq_nil_iff
abbrev Ns := @List.length_pos_iff
abbrev LI := @Option.getD_none
abbrev Nt := @Option.isSome_none
abbrev Nu := @List.getElem?_take
abbrev Nv := @List.findIdx?_cons
abbrev Nw := @List.find?_eq_none
abbrev Nx := @Int.tmod_lt_of_pos
abbrev LJ := @Int.ediv_nonneg
abbrev Ku := @Bool.and_true
abbrev Ny := @List.flatMap_cons
abbrev Nz := @List.any_eq_false
abbrev NA := @Array.size_append
abbrev LL := @List.mem_range
abbrev NB := @List.take_length
abbrev PK := @List.replicate_succ
abbrev Kv := @List.map_set
abbrev Kw := @List.map_map
abbrev LM := @List.map_take
abbrev NC := @Nat.le_antisymm
abbrev ND := @List.sum_append
abbrev PL := @List.pairwise_cons
abbrev PM := @List.map_inj_right
abbrev Kx := @Int.mul_add
abbrev NE := @List.drop_drop
abbrev LN := @Nat.mul_comm
abbrev LO := @Int.mul_comm
abbrev PN := @Nat.mod_eq_of_lt
abbrev PO := @Int.ediv_le_self
abbrev NF := @Bool.true_and
abbrev NG := @Bool.or_false
abbrev LP := @Nat.mul_one
abbrev NH := @Nat.zero_mul
abbrev NI := @Nat.lt_or_ge
abbrev PP := @Int.zero_add
abbrev PQ := @Bool.and_false
abbrev LQ := @Below.refl
inductive Ky where
 | s (l : List UInt8)
 | i (n : Int)
 | ss (a b : List UInt8)
 | lg (a : List UInt8) (n m : Int) (b : List UInt8)
 deriving DecidableEq, Inhabited
def BH : Ky -> Value -> Prop
 | .s l, v => v = .string ⟨l.toArray⟩
 | .i n, v => v = .int .i64 n
 | .ss a b, v => v = .agg #[.string ⟨a.toArray⟩, .string ⟨b.toArray⟩]
 | .lg a n m b, v => v = .agg #[.string ⟨a.toArray⟩, .int .i64 n, .int .i64 m, .string ⟨b.toArray⟩]
inductive V where
 | any
 | bool (b : Bool)
 | int (k : IntKind) (n : Int)
 | str (s : List UInt8)
 | nils
 | nilp
 | nilm
 | agg (vs : List V)
 | tup (vs : List V)
 | list (rows : List (List V)) (fit : Bool)
 | row (vs : List V) (off : Nat)
 | fn (f : Nat) (cap : List V)
 | ptr (n off : Nat)
 | eptr (n len i off : Nat)
 | own (n len : Nat)
 | iown (tt : TypeId) (n len : Nat)
 | vw (n off len m : Nat) (fit : Bool)
 | map (n : Nat)
 | when (b : Bool) (v : V)
 | pin (cv : Value)
 | fmap (es : List (Ky × V))
 deriving Inhabited
inductive Ob where
 | box (t : TypeId) (cells : List V)
 | arr (t : TypeId) (sz : Nat) (rows : List (List V))
 | mp (es : List (Ky × V))
 deriving Inhabited
structure St where
 e : Nat -> V
 h : Nat -> Option Ob
def blk : Value -> Option Nat
 | .pointer (some a) => some a.block
 | .slice (some a) _ _ => some a.block
 | .map (some r) => some r
 | _ => none
structure MpSz (es es0 : List (Ky × V)) (ents : Array MapEntry) (clock : Nat) : Prop where
 perm : es0.Perm es
 len : es0.length = ents.size
 st : MapKept.Stamped ents clock
 nd : (es.map (·.1)).Nodup
inductive Pur (M : Nat -> Prop) (w : World) : V -> Value -> Prop
 | any (cv : Value) : Pur M w .any cv
 | bool (b : Bool) : Pur M w (.bool b) (.bool b)
 | int (k : IntKind) (n : Int) : Pur M w (.int k n) (.int k n)
 | str (s : List UInt8) : Pur M w (.str s) (.string ⟨s.toArray⟩)
 | nils : Pur M w .nils (.slice none 0 0)
 | nilp : Pur M w .nilp (.pointer none)
 | nilm : Pur M w .nilm (.map none)
 | pin (cv : Value) : Pur M w (.pin cv) cv
 | fmap (es es0 : List (Ky × V)) (b : Nat) (ents : Array MapEntry) (clock : Nat) (f : Nat -> MapEntry) (hM : M b) (hh : w.heap[b]? = some (.map ents clock)) (hs : MpSz es es0 ents clock)
   (he : ∀ (i : Nat) (kv : Ky × V), es0[i]? = some kv -> ents[i]? = some (f i) /\ BH kv.1 (f i).key) (hv : ∀ (i : Nat) (kv : Ky × V), es0[i]? = some kv -> Pur M w kv.2 (f i).val) : Pur M w (.fmap es) (.map (some b))
 | agg (vs : List V) (cs : Array Value) (hl : vs.length = cs.size) (ho : ∀ c ∈ cs.toList, c.oneCell' = true) (hv : ∀ i v, vs[i]? = some v -> Pur M w v (cs.getD i undef)) : Pur M w (.agg vs) (.agg cs)
 | tup (vs : List V) (cs : Array Value) (hl : vs.length = cs.size) (hv : ∀ i v, vs[i]? = some v -> Pur M w v (cs.getD i undef)) : Pur M w (.tup vs) (.tuple cs)
 | list (rows : List (List V)) (fit : Bool) (a : Option Addr) (cap sz g off : Nat) (f : Nat -> Nat -> Value) (hf : fit = true -> cap = rows.length) (hcap : rows.length <= cap) (hn : a = none -> cap = 0) (ha : rows = [] \/ a = some ⟨g, off, none⟩ /\ M g)
   (hr : ∀ r ∈ rows, r.length = sz) (hc : ∀ (i j : Nat), i < rows.length -> j < sz -> w.cell? ⟨g, off + i * sz + j, none⟩ = some (f i j) /\ (f i j).oneCell' = true)
   (hv : ∀ i j r v, rows[i]? = some r -> r[j]? = some v -> Pur M w v (f i j)) : Pur M w (.list rows fit) (.slice a rows.length cap)
 | row (vs : List V) (off g o : Nat) (f : Nat -> Value) (hg : M g) (hc : ∀ j : Nat, j < vs.length -> w.cell? ⟨g, o + j, none⟩ = some (f j) /\ (f j).oneCell' = true)
   (hv : ∀ j v, vs[j]? = some v -> Pur M w v (f j)) : Pur M w (.row vs off) (.pointer (some ⟨g, o + off, none⟩))
 | fn (n : Nat) (vs : List V) (cs : Array Value) (hl : vs.length = cs.size) (hv : ∀ i v, vs[i]? = some v -> Pur M w v (cs.getD i undef)) : Pur M w (.fn n vs) (.func (.func n) #[] cs)
 | when (b : Bool) (v : V) (cv : Value) (ht : b = true -> Pur M w v cv) (hf : b = false -> cv = undef) : Pur M w (.when b v) cv
inductive Rel (M : Nat -> Prop) (w : World) (ι : Nat -> Value) (h : Nat -> Option Ob) : V -> Value -> Prop
 | pur {v : V} {cv : Value} (hp : Pur M w v cv) : Rel M w ι h v cv
 | agg (vs : List V) (cs : Array Value) (hl : vs.length = cs.size) (ho : ∀ c ∈ cs.toList, c.oneCell' = true) (hv : ∀ i v, vs[i]? = some v -> Rel M w ι h v (cs.getD i undef)) : Rel M w ι h (.agg vs) (.agg cs)
 | tup (vs : List V) (cs : Array Value) (hl : vs.length = cs.size) (hv : ∀ i v, vs[i]? = some v -> Rel M w ι h v (cs.getD i undef)) : Rel M w ι h (.tup vs) (.tuple cs)
 | fn (n : Nat) (vs : List V) (cs : Array Value) (hl : vs.length = cs.size) (hv : ∀ i v, vs[i]? = some v -> Rel M w ι h v (cs.getD i undef)) : Rel M w ι h (.fn n vs) (.func (.func n) #[] cs)
 | when (b : Bool) (v : V) (cv : Value) (ht : b = true -> Rel M w ι h v cv) (hf : b = false -> cv = undef) : Rel M w ι h (.when b v) cv
 | ptrb (n off b : Nat) (t : TypeId) (cells : List V) (ho : h n = some (.box t cells)) (hb : ι n = .pointer (some ⟨b, 0, none⟩)) : Rel M w ι h (.ptr n off) (.pointer (some ⟨b, off, none⟩))
 | eptr (n len i off : Nat) (t : TypeId) (sz : Nat) (rows : List (List V)) (cv : Value) (ho : h n = some (.arr t sz rows)) (hle : len <= rows.length) (hs : cv.oneCell' = true)
   (hv : rows.length = len -> ∃ g cap, ι n = .slice (some ⟨g, 0, none⟩) len cap /\ cv = .pointer (some ⟨g, i * sz + off, none⟩)) : Rel M w ι h (.eptr n len i off) cv
 | own (n len : Nat) (t : TypeId) (sz : Nat) (rows : List (List V)) (cv : Value) (ho : h n = some (.arr t sz rows)) (hle : len <= rows.length) (hv : rows.length = len -> cv = ι n) (hs : cv.oneCell' = true) : Rel M w ι h (.own n len) cv
 | iown (tt : TypeId) (n len : Nat) (t : TypeId) (sz : Nat) (rows : List (List V)) (cv : Value) (ho : h n = some (.arr t sz rows)) (hle : len <= rows.length) (hv : rows.length = len -> cv = ι n) (hs : cv.oneCell' = true) : Rel M w ι h (.iown tt n len) (.iface tt cv)
 | vw (n off len m : Nat) (fit : Bool) (t : TypeId) (sz : Nat) (rows : List (List V)) (cv : Value) (ho : h n = some (.arr t sz rows)) (hle : m <= rows.length) (hb : off + len <= m) (hs : cv.oneCell' = true)
   (hv : rows.length = m -> ∃ g cap0 a cap, ι n = .slice (some ⟨g, 0, none⟩) m cap0 /\ cv = .slice (some a) len cap /\ len <= cap /\ (fit = true -> cap = len) /\ (fit = false -> m <= off + cap) /\ (0 < cap -> a = ⟨g, off * sz, none⟩)) : Rel M w ι h (.vw n off len m fit) cv
 | map (n : Nat) (es : List (Ky × V)) (ho : h n = some (.mp es)) (cv : Value) (hv : cv = ι n) (hs : cv.oneCell' = true) : Rel M w ι h (.map n) cv
def obR (M : Nat -> Prop) (w : World) (ι : Nat -> Value) (h : Nat -> Option Ob) (n : Nat) : Ob -> Prop
 | .box t cells => ∃ (b : Nat) (cs : Array Value), ι n = .pointer (some ⟨b, 0, none⟩) /\ w.heap[b]? = some (.cells cs t (0, 0)) /\ cells.length = cs.size /\ (∀ c ∈ cs.toList, c.oneCell' = true) /\
   ∀ i v, cells[i]? = some v -> Rel M w ι h v (cs.getD i undef)
 | .arr t sz rows => ∃ xs : List Value, w.ownsRow 0 t sz (ι n) rows.length xs /\ (∀ r ∈ rows, r.length = sz) /\ (∀ x ∈ xs, x.oneCell' = true) /\
   ∀ i j r v, rows[i]? = some r -> r[j]? = some v -> Rel M w ι h v (xs.getD (i * sz + j) undef)
 | .mp es => ∃ (b : Nat) (ents : Array MapEntry) (clock : Nat), ι n = .map (some b) /\ w.heap[b]? = some (.map ents clock) /\ ∃ es0 : List (Ky × V), MpSz es es0 ents clock /\
   ∀ (i : Nat) (kv : Ky × V), es0[i]? = some kv -> ∃ en : MapEntry, ents[i]? = some en /\ BH kv.1 en.key /\ Rel M w ι h kv.2 en.val
structure Tbl where
 B : World -> Prop
 T : Nat -> Prop
 keep : ∀ w w' : World, (∀ b, T b -> w'.heap[b]? = w.heap[b]?) -> B w -> B w'
structure Ctx (U : Tbl) where
 w0 : World
 X : Nat -> Prop
 N : Nat
 M0 : Nat -> Prop
 ι0 : Nat -> Value
 h0 : Nat -> Option Ob
structure Mem {U : Tbl} (C : Ctx U) (h : Nat -> Option Ob) (w : World) (M : Nat -> Prop) (ι : Nat -> Value) : Prop where
 obj : ∀ n o, h n = some o -> obR M w ι h n o
 dis : ∀ n m b, (h n).isSome = true -> (h m).isSome = true -> blk (ι n) = some b -> blk (ι m) = some b -> n = m
 imm : ∀ n b, (h n).isSome = true -> blk (ι n) = some b -> ¬ M b
 lt : ∀ b, M b -> b < w.heap.size
 may : ∀ n b, (h n).isSome = true -> blk (ι n) = some b -> C.X b \/ C.w0.heap.size <= b
 size : C.w0.heap.size <= w.heap.size
 keep : ∀ b, b < C.w0.heap.size -> ¬ C.X b -> w.heap[b]? = C.w0.heap[b]?
 os : w.os = C.w0.os
 tape : w.tape = C.w0.tape
 output : w.output = C.w0.output
 base : ∀ b, C.M0 b -> M b
 tb : U.B w
 tm : ∀ b, U.T b -> M b
 old : ∀ b, b < C.w0.heap.size -> M b -> C.M0 b \/ C.X b
 arr0 : ∀ n t sz r0 t' sz' rows, 1000 <= n -> C.h0 n = some (.arr t sz r0) -> h n = some (.arr t' sz' rows) -> r0.length <= rows.length /\ (rows.length = r0.length -> ι n = C.ι0 n)
 pin : ∀ n, 1000 <= n -> (∀ t cells, h n = some (.box t cells) -> ι n = C.ι0 n) /\ ∀ es, h n = some (.mp es) -> ι n = C.ι0 n
structure Good {U : Tbl} (C : Ctx U) (s : St) (a : Act) (w : World) (M : Nat -> Prop) (ι : Nat -> Value) : Prop where
 mem : Mem C s.h w M ι
 env : ∀ t, Rel M w ι s.h (s.e t) (a.tmps.getD t undef)
 dfr : a.defers = []
 num : a.tmps.size = C.N
section
variable {M M' : Nat -> Prop} {w w' : World} {ι ι' : Nat -> Value} {h h' : Nat -> Option Ob}
theorem Pur.mono (hM : ∀ b, M b -> M' b) (hw : ∀ b, M b -> w'.heap[b]? = w.heap[b]?) {v : V} {cv : Value} (hp : Pur M w v cv) : Pur M' w' v cv := by
 induction hp with
 | any cv => exact .any cv
 | bool b => exact .bool b
 | int k n => exact .int k n
 | str s => exact .str s
 | nils => exact .nils
 | nilp => exact .nilp
 | nilm => exact .nilm
 | pin cv => exact .pin cv
 | fmap es es0 b ents clock f hb hh hs he _ ih => exact .fmap es es0 b ents clock f (hM b hb) ((hw b hb).trans hh) hs he ih
 | agg vs cs hl ho _ ih => exact .agg vs cs hl ho ih
 | tup vs cs hl _ ih => exact .tup vs cs hl ih
 | list rows fit a cap sz g off f hf hcap hn ha hr hc _ ih =>
  refine .list rows fit a cap sz g off f hf hcap hn (ha.imp id fun ⟨h1, h2⟩ => ⟨h1, hM _ h2⟩) hr (fun i j hi hj => ?_) ih
  rcases ha with rfl | ⟨_, hg⟩
  ·exact absurd hi (Ee _)
  ·rw [World.cell?_of_block (w := w) (hw g hg)]
   exact hc i j hi hj
 | row vs off g o f hg hc _ ih =>
  refine .row vs off g o f (hM _ hg) (fun j hj => ?_) ih
  rw [World.cell?_of_block (w := w) (hw g hg)]
  exact hc j hj
 | fn n vs cs hl _ ih => exact .fn n vs cs hl ih
 | when b v cv _ hf ih => exact .when b v cv ih hf
structure Keeps (h h' : Nat -> Option Ob) (ι ι' : Nat -> Value) : Prop where
 box : ∀ n t cells, h n = some (.box t cells) -> ι' n = ι n /\ ∃ cells', h' n = some (.box t cells')
 arr : ∀ n t sz rows, h n = some (.arr t sz rows) -> ∃ rows', h' n = some (.arr t sz rows') /\ rows.length <= rows'.length /\ (rows'.length = rows.length -> ι' n = ι n)
 mp : ∀ n es, h n = some (.mp es) -> ι' n = ι n /\ ∃ es', h' n = some (.mp es')
theorem Keeps.refl (h : Nat -> Option Ob) (ι : Nat -> Value) : Keeps h h ι ι :=
 ⟨fun _ _ c hn => ⟨rfl, c, hn⟩, fun _ _ _ r hn => ⟨r, hn, AF _, fun _ => rfl⟩, fun _ e hn => ⟨rfl, e, hn⟩⟩
theorem Rel.keep (hM : ∀ b, M b -> M' b) (hw : ∀ b, M b -> w'.heap[b]? = w.heap[b]?) (hk : Keeps h h' ι ι') {v : V} {cv : Value} (hp : Rel M w ι h v cv) : Rel M' w' ι' h' v cv := by
 induction hp with
 | pur hp => exact .pur (hp.mono hM hw)
 | agg vs cs hl ho _ ih => exact .agg vs cs hl ho ih
 | tup vs cs hl _ ih => exact .tup vs cs hl ih
 | fn n vs cs hl _ ih => exact .fn n vs cs hl ih
 | when b v cv _ hf ih => exact .when b v cv ih hf
 | ptrb n off b t cells ho hb =>
  obtain ⟨e, c', h1⟩ := hk.box n t cells ho
  exact .ptrb n off b t c' h1 (e.trans hb)
 | eptr n len i off t sz rows cv ho hle hs hv =>
  obtain ⟨r', h1, l1, e1⟩ := hk.arr n t sz rows ho
  refine .eptr n len i off t sz r' cv h1 (by omega) hs (fun e => ?_)
  rw [e1 (by omega)]
  exact hv (by omega)
 | own n len t sz rows cv ho hle hv hs =>
  obtain ⟨r', h1, l1, e1⟩ := hk.arr n t sz rows ho
  refine .own n len t sz r' cv h1 (by omega) (fun e => ?_) hs
  rw [e1 (by omega)]
  exact hv (by omega)
 | iown tt n len t sz rows cv ho hle hv hs =>
  obtain ⟨r', h1, l1, e1⟩ := hk.arr n t sz rows ho
  refine .iown tt n len t sz r' cv h1 (by omega) (fun e => ?_) hs
  rw [e1 (by omega)]
  exact hv (by omega)
 | vw n off len m fit t sz rows cv ho hle hb hs hv =>
  obtain ⟨r', h1, l1, e1⟩ := hk.arr n t sz rows ho
  refine .vw n off len m fit t sz r' cv h1 (by omega) hb hs (fun e => ?_)
  rw [e1 (by omega)]
  exact hv (by omega)
 | map n es ho cv hv hs =>
  obtain ⟨e, c', h1⟩ := hk.mp n es ho
  exact .map n c' h1 cv (hv.trans e.symm) hs
end
inductive AE where
 | t (n : Nat)
 | v (x : V)
 deriving Inhabited
def De : Value -> V
 | .bool b => .bool b
 | .int k n => .int k n
 | .string s => .str s.data.toList
 | .slice a n m => if a = none /\ n = 0 /\ m = 0 then .nils else .any
 | .pointer a => if a = none then .nilp else .any
 | .map r => if r = none then .nilm else .any
 | .func (.func f) fs cs => if fs.size = 0 /\ cs.size = 0 then .fn f [] else .any
 | _ => .any
def IA : Value -> V
 | .agg cs => if cs.toList.all Value.oneCell' then .agg (cs.toList.map De) else .any
 | v => De v
def trE : Operand -> Option AE
 | .tmp n => some (.t n)
 | .const v => some (.v (IA v))
 | .func f => some (.v (.fn f []))
 | .global _ => none
def AE.ev (e : Nat -> V) : AE -> V
 | .t n => e n
 | .v x => x
inductive LK where
 | b
 | i (k : IntKind)
 | s
 deriving Inhabited
inductive AOp where
 | mv (x : AE)
 | pick (c a b : AE)
 | box (t : TypeId) (x : AE)
 | alloc (t : TypeId) (zero : List V)
 | build (zero : List V) (parts : List (Nat × Nat × AE))
 | slc (t : TypeId) (sz : Nat) (own : Bool) (parts : List AE)
 | load (sz : Option Nat) (x : AE)
 | store (sz : Nat) (x y : AE)
 | nchk (x : AE)
 | bin (op : BinOp) (x y : AE)
 | binb (op : BinOp) (x y : AE)
 | bina (ks : List LK) (op : BinOp) (x y : AE)
 | binn (op : BinOp) (x y : AE)
 | binw (op : BinOp) (x y : AE)
 | negw (x : AE)
 | mki (tt : TypeId) (x : AE)
 | un (op : UnOp) (x : AE)
 | fld (off : Nat) (x : AE)
 | idx (sz : Nat) (x i : AE)
 | idxa (sz n : Nat) (x i : AE)
 | idxv (ag : Bool) (sz n : Nat) (x i : AE)
 | sidx (x i : AE)
 | ext (k : Nat) (x : AE)
 | len (x : AE)
 | slen (x : AE)
 | app (t : TypeId) (sz bytes : Nat) (x y : AE)
 | call (f : Nat) (args : List AE)
 | callv (x : AE) (args : List AE)
 | mkfn (f : Nat) (cap : List AE)
 | mkmap
 | look (ks : Nat) (ok : Bool) (zero : V) (m k : AE)
 | mset (ks : Nat) (m k x : AE)
 | mks (t : TypeId) (sz bytes : Nat) (zero : List V) (n c : AE)
 | mn (x y : AE)
 | mx (x y : AE)
 | sub (sz : Nat) (lo hi mx : Option AE) (x : AE)
 | mkv (t : TypeId) (sz bytes : Nat) (zero : List V) (n c : AE)
 | ssub (lo hi : Option AE) (x : AE)
 | conv (k : IntKind) (x : AE)
 | convw (k : IntKind) (x : AE)
 | b2s (x : AE)
 deriving Inhabited
def AOp.args : AOp -> List AE
 | .mv x | .negw x | .mki _ x | .box _ x | .load _ x | .nchk x | .un _ x | .fld _ x | .ext _ x | .len x | .slen x | .conv _ x | .convw _ x | .b2s x => [x]
 | .pick c a b => [c, a, b]
 | .alloc _ _ => []
 | .build _ ps => ps.map (·.2.2)
 | .slc _ _ _ ps => ps
 | .look _ _ _ x y | .mks _ _ _ _ x y | .mn x y | .mx x y | .store _ x y | .bin _ x y | .binb _ x y | .bina _ _ x y | .binn _ x y | .binw _ x y | .idx _ x y | .idxa _ _ x y | .idxv _ _ _ x y | .sidx x y | .app _ _ _ x y | .mkv _ _ _ _ x y => [x, y]
 | .call _ as => as
 | .callv x as => x :: as
 | .mkfn _ as => as
 | .mkmap => []
 | .mset _ x y z => [x, y, z]
 | .sub _ lo hi top x => x :: (lo.toList ++ hi.toList ++ top.toList)
 | .ssub lo hi x => x :: (lo.toList ++ hi.toList)
def V.strip : V -> V
 | .when _ v => v
 | v => v
def V.cnd : V -> Bool
 | .when b _ => b
 | _ => true
def V.cells : V -> List V
 | .agg vs => vs
 | v => [v]
def V.one : V -> Bool
 | .any | .agg _ | .tup _ | .when _ _ | .pin _ => false
 | _ => true
def V.shaped : V -> Bool
 | .agg _ => true
 | v => v.one
def V.nm : V -> List Nat
 | .ptr n _ => [n]
 | .eptr n _ _ _ => [n]
 | .own n _ => [n]
 | .iown _ n _ => [n]
 | .vw n _ _ _ _ => [n]
 | .map n => [n]
 | _ => []
def putAt (cs : List V) (off : Nat) (ys : List V) : List V := cs.take off ++ ys ++ cs.drop (off + ys.length)
def Ng (cs : List V) : List (Nat × List V) -> List V
 | [] => cs
 | (off, ys) :: r => Ng (putAt cs off ys) r
structure Res where
 φ : Prop
 v : V
 w : List (Nat × Ob)
def Res.no : Res := ⟨False, .any, []⟩
def Res.pure (φ : Prop) (v : V) : Res := ⟨φ, v, []⟩
def inK (k : IntKind) (n : Int) : Prop := k.wrap n = n
def inI (n : Int) : Prop := -9223372036854775808 <= n /\ n <= 9223372036854775807
def IW (op : BinOp) (k k' : IntKind) (a b : Int) : Res :=
 if k = k' then (match op with
  | .add => .pure (inK k (a + b)) (.int k (a + b))
  | .sub => .pure (inK k (a - b)) (.int k (a - b))
  | .mul => .pure (inK k (a * b)) (.int k (a * b))
  | .quo => .pure (0 <= a /\ 0 < b /\ inK k (a / b)) (.int k (a / b))
  | .rem => .pure (0 <= a /\ 0 < b) (.int k (a % b))
  | .eql => .pure True (.bool (decide (a = b)))
  | .neq => .pure True (.bool (!decide (a = b)))
  | .lss => .pure True (.bool (decide (a < b)))
  | .leq => .pure True (.bool (decide (a <= b)))
  | .gtr => .pure True (.bool (decide (b < a)))
  | .geq => .pure True (.bool (decide (b <= a)))
  | _ => .no) else .no
def slt : List UInt8 -> List UInt8 -> Bool := Op.bytesLess
theorem AcO (x : List UInt8) : slt x [] = false := by cases x <;> rfl
theorem Qq (a b : UInt8) (x y : List UInt8) : slt (a :: x) (b :: y) = (decide (a < b) || (a == b && slt x y)) := rfl
theorem Uk : ∀ x : List UInt8, slt x x = false
 | [] => rfl
 | a :: x => by rw [Qq, Uk x]; simp
theorem Uj : ∀ {x y : List UInt8}, slt x y = true -> slt y x = false
 | x, [], h => by rw [AcO] at h; cases h
 | [], b :: y, _ => by rw [AcO]
 | a :: x, b :: y, h => by
  rw [Qq] at h ⊢
  simp only [Gd, decide_eq_true_eq, Bx, beq_iff_eq] at h
  rcases h with h | ⟨rfl, h⟩
  ·have h1 : ¬ b < a := UInt8.not_lt.2 (UInt8.le_of_lt h)
   have h2 : b ≠ a := fun e => by rw [e] at h; exact absurd h (UInt8.lt_irrefl a)
   simp [h1, h2]
  ·simp [Uj h]
theorem AcP : ∀ (x y : List UInt8), slt x y = true \/ x = y \/ slt y x = true
 | [], [] => .inr (.inl rfl)
 | [], b :: y => .inl rfl
 | a :: x, [] => .inr (.inr rfl)
 | a :: x, b :: y => by
  rw [Qq, Qq]
  rcases (show a < b \/ a = b \/ b < a from (Nat.lt_trichotomy a.toNat b.toNat).imp UInt8.lt_iff_toNat_lt.2 (Or.imp UInt8.toNat_inj.1 UInt8.lt_iff_toNat_lt.2)) with h | h | h
  ·left; simp [h]
  ·subst h
   rcases AcP x y with h | h | h
   ·left; simp [h]
   ·right; left; rw [h]
   ·right; right; simp [h]
  ·right; right; simp [h]
theorem AcN (x y : List UInt8) : (slt x y || decide (x = y)) = !slt y x := by
 rcases AcP x y with h | h | h
 ·rw [h, Uj h]; rfl
 ·subst h; rw [Uk]; simp
 ·rw [h, Uj h]
  have : x ≠ y := fun e => by subst e; rw [Uk] at h; cases h
  simp [this]
def wu (n : Int) : Int := IntKind.u64.wrap n
def Lg : BinOp -> V -> V -> Res
 | .add, .int .i64 a, .int .i64 b => .pure (inI (a + b)) (.int .i64 (a + b))
 | .sub, .int .i64 a, .int .i64 b => .pure (inI (a - b)) (.int .i64 (a - b))
 | .mul, .int .i64 a, .int .i64 b => .pure (inI (a * b)) (.int .i64 (a * b))
 | .quo, .int .i64 a, .int .i64 b => .pure (b ≠ 0 /\ inI (a.tdiv b)) (.int .i64 (a.tdiv b))
 | .rem, .int .i64 a, .int .i64 b => .pure (b ≠ 0) (.int .i64 (a.tmod b))
 | .eql, .int .i64 a, .int .i64 b => .pure True (.bool (decide (a = b)))
 | .neq, .int .i64 a, .int .i64 b => .pure True (.bool (!decide (a = b)))
 | .lss, .int .i64 a, .int .i64 b => .pure True (.bool (decide (a < b)))
 | .leq, .int .i64 a, .int .i64 b => .pure True (.bool (decide (a <= b)))
 | .gtr, .int .i64 a, .int .i64 b => .pure True (.bool (decide (b < a)))
 | .geq, .int .i64 a, .int .i64 b => .pure True (.bool (decide (b <= a)))
 | .eql, .int .u8 a, .int .u8 b => .pure True (.bool (decide (a = b)))
 | .neq, .int .u8 a, .int .u8 b => .pure True (.bool (!decide (a = b)))
 | .lss, .int .u8 a, .int .u8 b => .pure True (.bool (decide (a < b)))
 | .leq, .int .u8 a, .int .u8 b => .pure True (.bool (decide (a <= b)))
 | .gtr, .int .u8 a, .int .u8 b => .pure True (.bool (decide (b < a)))
 | .geq, .int .u8 a, .int .u8 b => .pure True (.bool (decide (b <= a)))
 | .add, .str a, .str b => .pure ((a ++ b).length <= 140737488355328) (.str (a ++ b))
 | .eql, .str a, .str b => .pure True (.bool (decide (a = b)))
 | .neq, .str a, .str b => .pure True (.bool (!decide (a = b)))
 | .lss, .str a, .str b => .pure True (.bool (slt a b))
 | .leq, .str a, .str b => .pure True (.bool (!slt b a))
 | .gtr, .str a, .str b => .pure True (.bool (slt b a))
 | .geq, .str a, .str b => .pure True (.bool (!slt a b))
 | .shr, .int .u64 a, .int .u64 b => .pure (0 <= b /\ b <= 64) (.int .u64 (a / 2 ^ b.toNat))
 | .shl, .int .u64 a, .int .u64 b => .pure (0 <= b /\ b <= 64) (.int .u64 (wu (a * 2 ^ b.toNat)))
 | .and, .int .u64 a, .int .u64 b => .pure True (.int .u64 (bits .and .u64 a b))
 | .or, .int .u64 a, .int .u64 b => .pure True (.int .u64 (bits .or .u64 a b))
 | op, .int k a, .int k' b => IW op k k' a b
 | _, _, _ => .no
def wr (n : Int) : Int := IntKind.i64.wrap n
def OS : BinOp -> V -> V -> Res
 | .add, .int .i64 a, .int .i64 b => .pure True (.int .i64 (wr (a + b)))
 | .sub, .int .i64 a, .int .i64 b => .pure True (.int .i64 (wr (a - b)))
 | .mul, .int .i64 a, .int .i64 b => .pure True (.int .i64 (wr (a * b)))
 | .add, .int .u64 a, .int .u64 b => .pure True (.int .u64 (wu (a + b)))
 | .sub, .int .u64 a, .int .u64 b => .pure True (.int .u64 (wu (a - b)))
 | .mul, .int .u64 a, .int .u64 b => .pure True (.int .u64 (wu (a * b)))
 | op, x, y => Lg op x y
def Pc : V -> Res
 | .int .i64 a => .pure True (.int .i64 (wr (-a)))
 | _ => .no
def OZ (tt : TypeId) : V -> Res
 | .own n len => .pure True (.iown tt n len)
 | _ => .no
def OR : BinOp -> V -> V -> Res
 | .eql, .bool a, .bool b => .pure True (.bool (a == b))
 | .neq, .bool a, .bool b => .pure True (.bool (a != b))
 | _, _, _ => .no
def Px : LK -> V -> Bool
 | .b, .bool _ => true
 | .i k, .int k' _ => decide (k = k')
 | .s, .str _ => true
 | _, _ => false
def Bw : List LK -> List V -> Bool
 | [], [] => true
 | k :: ks, v :: vs => Px k v && Bw ks vs
 | _, _ => false
def eqV : V -> V -> Bool
 | .bool a, .bool b => a == b
 | .int _ a, .int _ b => decide (a = b)
 | .str a, .str b => decide (a = b)
 | _, _ => false
def CL : List V -> List V -> Bool
 | [], [] => true
 | a :: as, b :: bs => eqV a b && CL as bs
 | _, _ => false
def OQ (ks : List LK) : BinOp -> V -> V -> Res
 | .eql, .agg a, .agg b => .pure (Bw ks a = true /\ Bw ks b = true) (.bool (CL a b))
 | .neq, .agg a, .agg b => .pure (Bw ks a = true /\ Bw ks b = true) (.bool (!CL a b))
 | _, _, _ => .no
def JS : BinOp -> V -> V -> Res
 | .eql, .nils, .nils => .pure True (.bool true)
 | .neq, .nils, .nils => .pure True (.bool false)
 | .eql, .list rows _, .nils => .pure (rows ≠ []) (.bool false)
 | .neq, .list rows _, .nils => .pure (rows ≠ []) (.bool true)
 | .eql, .pin (.slice (some _) _ _), .nils => .pure True (.bool false)
 | .neq, .pin (.slice (some _) _ _), .nils => .pure True (.bool true)
 | _, _, _ => .no
def JT (h : Nat -> Option Ob) : BinOp -> V -> V -> Res
 | .eql, .own n len, .nils => match h n with
  | some (.arr _ _ rows) => .pure (rows.length = len /\ 0 < len) (.bool false)
  | _ => .no
 | .neq, .own n len, .nils => match h n with
  | some (.arr _ _ rows) => .pure (rows.length = len /\ 0 < len) (.bool true)
  | _ => .no
 | op, x, y => JS op x y
def Pe : UnOp -> V -> Res
 | .not, .bool b => .pure True (.bool (!b))
 | .neg, .int .i64 a => .pure (inI (-a)) (.int .i64 (-a))
 | _, _ => .no
def Cs (c a b : V) : Res :=
 match c.strip, a.strip, b.strip with
 | .bool x, .bool p, .bool q => .pure (c.cnd = true /\ (x = true -> a.cnd = true) /\ (x = false -> b.cnd = true)) (.bool (bif x then p else q))
 | .bool x, .bool p, _ => .pure (c.cnd = true /\ x = true /\ a.cnd = true) (.bool p)
 | .bool x, _, .bool q => .pure (c.cnd = true /\ x = false /\ b.cnd = true) (.bool q)
 | _, _, _ => .no
def GK (h : Nat -> Option Ob) (sz : Option Nat) : V -> Res
 | .ptr n off => match h n with
  | some (.box _ cells) => match sz with
   | none => .pure (off < cells.length) (cells.getD off .any)
   | some k => .pure (off + k <= cells.length) (.agg ((cells.drop off).take k))
  | _ => .no
 | .eptr n len i off => match h n with
  | some (.arr _ _ rows) => match sz with
   | none => .pure (rows.length = len /\ i < rows.length /\ off < (rows.getD i []).length) ((rows.getD i []).getD off .any)
   | some k => .pure (rows.length = len /\ i < rows.length /\ off + k <= (rows.getD i []).length) (.agg (((rows.getD i []).drop off).take k))
  | _ => .no
 | .row vs off => match sz with
  | none => .pure (off < vs.length) (vs.getD off .any)
  | some k => .pure (off + k <= vs.length) (.agg ((vs.drop off).take k))
 | _ => .no
def JZ (h : Nat -> Option Ob) (sz : Nat) (y : V) : V -> Res
 | .ptr n off => match h n with
  | some (.box t cells) => ⟨y.shaped = true /\ y.cells.length = sz /\ off + sz <= cells.length, .any, [(n, .box t (putAt cells off y.cells))]⟩
  | _ => .no
 | .eptr n len i off => match h n with
  | some (.arr t s rows) => ⟨y.shaped = true /\ y.cells.length = sz /\ rows.length = len /\ i < len /\ off + sz <= s, .any, [(n, .arr t s (rows.set i (putAt (rows.getD i []) off y.cells)))]⟩
  | _ => .no
 | _ => .no
def JU (h : Nat -> Option Ob) (off : Nat) : V -> Res
 | .ptr n o => .pure True (.ptr n (o + off))
 | .eptr n len i o => match h n with
  | some (.arr _ _ rows) => .pure (rows.length = len) (.eptr n len i (o + off))
  | _ => .no
 | .row vs o => .pure True (.row vs (o + off))
 | _ => .no
def IV (h : Nat -> Option Ob) (sz : Nat) : V -> V -> Res
 | .list rows _, .int .i64 i => .pure (0 <= i /\ i < rows.length /\ (rows.getD i.toNat []).length = sz) (.row (rows.getD i.toNat []) 0)
 | .own n len, .int .i64 i => match h n with
  | some (.arr _ s rows) => .pure (0 <= i /\ i < len /\ s = sz /\ rows.length = len) (.eptr n len i.toNat 0)
  | _ => .no
 | .vw n off len m _, .int .i64 i => match h n with
  | some (.arr _ s rows) => .pure (0 <= i /\ i < len /\ s = sz /\ rows.length = m) (.eptr n m (off + i.toNat) 0)
  | _ => .no
 | _, _ => .no
def OW (sz n : Nat) : V -> V -> Res
 | .ptr m off, .int .i64 i => .pure (0 <= i /\ i < n) (.ptr m (off + i.toNat * sz))
 | .row vs off, .int .i64 i => .pure (0 <= i /\ i < n) (.row vs (off + i.toNat * sz))
 | _, _ => .no
def OX (ag : Bool) (sz n : Nat) : V -> V -> Res
 | .agg vs, .int .i64 i => if ag = true then .pure (0 <= i /\ i < n /\ i.toNat * sz + sz <= vs.length) (.agg ((vs.drop (i.toNat * sz)).take sz)) else .pure (0 <= i /\ i < n /\ i.toNat * sz < vs.length) (vs.getD (i.toNat * sz) .any)
 | _, _ => .no
def OY : V -> Res
 | .list rows _ => .pure True (.int .i64 rows.length)
 | .nils => .pure True (.int .i64 0)
 | _ => .no
def JV (h : Nat -> Option Ob) : V -> Res
 | .own n len => match h n with
  | some (.arr _ _ rows) => .pure (rows.length = len) (.int .i64 len)
  | _ => .no
 | .vw n _ len m _ => match h n with
  | some (.arr _ _ rows) => .pure (rows.length = m) (.int .i64 len)
  | _ => .no
 | v => OY v
def Lz : V -> Option Ky
 | .str s => some (.s s)
 | .int .i64 n => some (.i n)
 | .agg [.str a, .str b] => some (.ss a b)
 | .agg [.str a, .int .i64 n, .int .i64 m, .str b] => some (.lg a n m b)
 | _ => none
def Ky.kd : Ky -> Nat
 | .s _ => 0
 | .i _ => 1
 | .ss _ _ => 2
 | .lg _ _ _ _ => 3
def CM (es : List (Ky × V)) (k : Ky) (zero : V) : V := ((es.find? fun p => decide (p.1 = k)).map (·.2)).getD zero
def mhas (es : List (Ky × V)) (k : Ky) : Bool := es.any fun p => decide (p.1 = k)
def BK (es : List (Ky × V)) (k : Ky) (v : V) : List (Ky × V) :=
 match es.findIdx? fun p => decide (p.1 = k) with
 | some j => es.set j (k, v)
 | none => es ++ [(k, v)]
def KD (h : Nat -> Option Ob) : V -> Option (List (Ky × V))
 | .map n => match h n with
  | some (.mp es) => some es
  | _ => none
 | .nilm => some []
 | .fmap es => some es
 | _ => none
def ML (h : Nat -> Option Ob) (ks : Nat) (ok : Bool) (zero : V) (m k : V) : Res :=
 match KD h m, Lz k with
 | some es, some key => .pure (key.kd = ks /\ ∀ p ∈ es, p.1.kd = ks) (if ok then .tup [CM es key zero, .bool (mhas es key)] else CM es key zero)
 | _, _ => .no
def JY (h : Nat -> Option Ob) (ks : Nat) (m k x : V) : Res :=
 match m, Lz k with
 | .map n, some key => match h n with
  | some (.mp es) => ⟨key.kd = ks /\ ∀ p ∈ es, p.1.kd = ks, .any, [(n, .mp (BK es key x))]⟩
  | _ => .no
 | _, _ => .no
def JW (d : Nat) (h : Nat -> Option Ob) (t : TypeId) (sz bytes : Nat) (zero : List V) : V -> V -> Res
 | .int .i64 n, .int .i64 c => ⟨h d = none /\ d < 1000 /\ 0 <= n /\ n <= c /\ c * (bytes + 1) <= 140737488355328, .own d n.toNat, [(d, .arr t sz (List.replicate n.toNat zero))]⟩
 | _, _ => .no
def JX (d : Nat) (h : Nat -> Option Ob) (t : TypeId) (sz bytes : Nat) (zero : List V) : V -> V -> Res
 | .int .i64 n, .int .i64 c => ⟨h d = none /\ d < 1000 /\ 0 <= n /\ n <= c /\ c * (bytes + 1) <= 140737488355328, .vw d 0 n.toNat c.toNat false, [(d, .arr t sz (List.replicate c.toNat zero))]⟩
 | _, _ => .no
def Pa : V -> V -> Res
 | .int .i64 a, .int .i64 b => .pure True (.int .i64 (min a b))
 | _, _ => .no
def Pb : V -> V -> Res
 | .int .i64 a, .int .i64 b => .pure True (.int .i64 (max a b))
 | _, _ => .no
def El (d : Int) : Option V -> Option Int
 | none => some d
 | some (.int _ n) => some n
 | some _ => none
def Hr (h : Nat -> Option Ob) (sz : Nat) (lo hi : Option V) : Option V -> V -> Res
 | none, .list rows _ => match El 0 lo, El rows.length hi with
  | some l, some r => .pure (0 <= l /\ l <= r /\ r <= rows.length /\ ∀ q ∈ rows, q.length = sz) (.list ((rows.take r.toNat).drop l.toNat) false)
  | _, _ => .no
 | none, .nils => match El 0 lo, El 0 hi with
  | some l, some r => .pure (l = 0 /\ r = 0) .nils
  | _, _ => .no
 | none, .own n len => match h n with
  | some (.arr _ s rows) => match El 0 lo, El len hi with
   | some l, some r => .pure (rows.length = len /\ s = sz /\ 0 < len /\ 0 <= l /\ l <= r /\ r <= len) (.vw n l.toNat (r.toNat - l.toNat) len false)
   | _, _ => .no
  | _ => .no
 | none, .vw n off ln m fit => match h n with
  | some (.arr _ s rows) => match El 0 lo, El ln hi with
   | some l, some r => .pure (rows.length = m /\ fit = false /\ s = sz /\ 0 <= l /\ l <= r /\ (off : Int) + r <= m) (.vw n (off + l.toNat) (r.toNat - l.toNat) m false)
   | _, _ => .no
  | _ => .no
 | some (.int _ c), .list rows _ => match El 0 lo, hi with
  | some l, some (.int _ r) => .pure (0 <= l /\ l <= r /\ r <= c /\ c <= rows.length /\ ∀ q ∈ rows, q.length = sz) (.list ((rows.take r.toNat).drop l.toNat) (decide (r = c)))
  | _, _ => .no
 | some (.int _ c), .own n len => match h n with
  | some (.arr _ s rows) => match El 0 lo, hi with
   | some l, some (.int _ r) => .pure (rows.length = len /\ s = sz /\ 0 < len /\ 0 <= l /\ l <= r /\ r <= c /\ c <= len /\ (r = c \/ c = len)) (.vw n l.toNat (r.toNat - l.toNat) len (decide (r = c)))
   | _, _ => .no
  | _ => .no
 | some (.int _ c), .vw n off ln m fit => match h n with
  | some (.arr _ s rows) => match El 0 lo, hi with
   | some l, some (.int _ r) => .pure (rows.length = m /\ fit = false /\ s = sz /\ 0 <= l /\ l <= r /\ r <= c /\ (off : Int) + c <= m /\ (r = c \/ (off : Int) + c = m)) (.vw n (off + l.toNat) (r.toNat - l.toNat) m (decide (r = c)))
   | _, _ => .no
  | _ => .no
 | _, _ => .no
def EK (rows : List (List V)) (pos : Nat) (news : List (List V)) : List (List V) := rows.take pos ++ news ++ rows.drop (pos + news.length)
def Pd (lo hi : Option V) : V -> Res
 | .str s => match El 0 lo, El s.length hi with
  | some l, some r => .pure (0 <= l /\ l <= r /\ r <= s.length) (.str ((s.take r.toNat).drop l.toNat))
  | _, _ => .no
 | _ => .no
def OU (k : IntKind) : V -> Res
 | .int _ n => .pure (inK k n) (.int k n)
 | _ => .no
def OV (k : IntKind) : V -> Res
 | .int _ n => .pure True (.int k (k.wrap n))
 | _ => .no
def Mb : List (List V) -> Option (List Int)
 | [] => some []
 | r :: l => match r, Mb l with
  | [.int .u8 n], some ns => some (n :: ns)
  | _, _ => none
def OP : V -> Res
 | .list rows _ => match Mb rows with
  | some ns => .pure True (.str (ns.map fun n => UInt8.ofNat n.toNat))
  | none => .no
 | .nils => .pure True (.str [])
 | _ => .no
def MK : V -> Option (Nat × List V)
 | .fn f c => some (f, c)
 | _ => none
def PZ : Value -> Option (List (List V))
 | .slice (some _) 0 _ => some []
 | _ => none
def HJ (h : Nat -> Option Ob) : V -> Option (List (List V))
 | .list rows _ => some rows
 | .nils => some []
 | .pin cv => PZ cv
 | .own n len => match h n with
  | some (.arr _ _ rows) => if rows.length = len then some rows else none
  | _ => none
 | .vw n off len m _ => match h n with
  | some (.arr _ _ rows) => if rows.length = m then some ((rows.drop off).take len) else none
  | _ => none
 | _ => none
def MJ (d : Nat) (h : Nat -> Option Ob) (t : TypeId) (sz bytes : Nat) (x y : V) : Res :=
 match HJ h y with
 | none => .no
 | some news => match x with
  | .nils => ⟨h d = none /\ d < 1000 /\ (∀ r ∈ news, r.length = sz) /\ news.length * (bytes + 1) <= 140737488355328, .own d news.length, [(d, .arr t sz news)]⟩
  | .own n len => match h n with
   | some (.arr t' s rows) => ⟨t' = t /\ s = sz /\ rows.length = len /\ (∀ r ∈ news, r.length = sz) /\ (len + news.length) * (bytes + 1) <= 140737488355328, .own n (len + news.length), [(n, .arr t sz (rows ++ news))]⟩
   | _ => .no
  | .vw n off l m fit => match h n with
   | some (.arr t' s rows) => match fit with
    | false => ⟨t' = t /\ s = sz /\ rows.length = m /\ off + l + news.length <= m /\ (∀ r ∈ news, r.length = sz), .vw n off (l + news.length) m false, [(n, .arr t sz (EK rows (off + l) news))]⟩
    | true => ⟨h d = none /\ d < 1000 /\ rows.length = m /\ news ≠ [] /\ (∀ r ∈ rows, r.length = sz) /\ (∀ r ∈ news, r.length = sz) /\ (l + news.length) * (bytes + 1) <= 140737488355328, .own d (l + news.length), [(d, .arr t sz ((rows.drop off).take l ++ news))]⟩
   | _ => .no
  | .list rows fit => ⟨h d = none /\ d < 1000 /\ fit = true /\ news ≠ [] /\ (∀ r ∈ rows, r.length = sz) /\ (∀ r ∈ news, r.length = sz) /\ (rows.length + news.length) * (bytes + 1) <= 140737488355328, .own d (rows.length + news.length), [(d, .arr t sz (rows ++ news))]⟩
  | _ => .no
mutual
def V.pur : V -> Bool
 | .ptr _ _ => false
 | .eptr _ _ _ _ => false
 | .own _ _ => false
 | .iown _ _ _ => false
 | .vw _ _ _ _ _ => false
 | .map _ => false
 | .agg vs => V.purs vs
 | .tup vs => V.purs vs
 | .fn _ vs => V.purs vs
 | .when _ v => v.pur
 | .any => true
 | .bool _ => true
 | .int _ _ => true
 | .str _ => true
 | .nils => true
 | .nilp => true
 | .nilm => true
 | .pin _ => true
 | .fmap _ => true
 | .list _ _ => true
 | .row _ _ => true
def V.purs : List V -> Bool
 | [] => true
 | v :: vs => v.pur && V.purs vs
end
def Fl (h : Nat -> Option Ob) : V -> Prop
 | .own n len => match h n with
  | some (.arr _ _ rows) => rows.length = len /\ ∀ r ∈ rows, V.purs r = true
  | _ => False
 | .vw n _ _ m _ => match h n with
  | some (.arr _ _ rows) => rows.length = m /\ ∀ r ∈ rows, V.purs r = true
  | _ => False
 | v => v.pur = true
def Dr (h : Nat -> Option Ob) : V -> V
 | .own n len => match h n with
  | some (.arr _ _ rows) => if rows.length = len then .list rows false else .any
  | _ => .any
 | .vw n off len m fit => match h n with
  | some (.arr _ _ rows) => if rows.length = m then .list ((rows.drop off).take len) fit else .any
  | _ => .any
 | v => v
def V.isOwn : V -> Bool
 | .own _ _ => true
 | .vw _ _ _ _ _ => true
 | _ => false
def V.leaf1 : V -> Bool
 | .bool _ | .int _ _ | .str _ => true
 | _ => false
def V.leaf : V -> Bool
 | .bool _ | .int _ _ | .str _ => true
 | .tup vs => vs.all V.leaf1
 | _ => false
abbrev Tab := Nat -> List V -> Prop × V
def OT (G : Tab) (x : V) (vs : List V) (own : Bool) : Res :=
 match MK x with
 | some (f, cap) => .pure (V.purs cap = true /\ (G f (vs ++ cap)).1 /\ (own = true -> (G f (vs ++ cap)).2.leaf = true)) (G f (vs ++ cap)).2
 | none => .no
def V.nn1 : V -> V
 | .nils => .list [] false
 | v => v
def Hq (d : Nat) (h : Nat -> Option Ob) (t : TypeId) (sz : Nat) (ow : Bool) (E : AE -> V) (ps : List AE) : Res :=
 if (!ow && (!ps.isEmpty && ps.all fun p => (E p).pur)) = true then .pure (∀ p ∈ ps, (E p).shaped = true /\ (E p).cells.length = sz) (.list (ps.map fun p => (E p).cells.map V.nn1) false)
 else ⟨h d = none /\ d < 1000 /\ ∀ p ∈ ps, (E p).shaped = true /\ (E p).cells.length = sz, .own d ps.length, [(d, .arr t sz (ps.map fun p => (E p).cells))]⟩
def At (G : Tab) (d : Nat) (E : AE -> V) (h : Nat -> Option Ob) : AOp -> Res
 | .mv x => .pure True (E x)
 | .pick c a b => Cs (E c) (E a) (E b)
 | .box t x => ⟨(E x).shaped = true /\ h d = none /\ d < 1000, .ptr d 0, [(d, .box t (E x).cells)]⟩
 | .alloc t zero => ⟨h d = none /\ d < 1000, .ptr d 0, [(d, .box t zero)]⟩
 | .build zero ps => .pure (∀ p ∈ ps, (E p.2.2).shaped = true /\ (E p.2.2).cells.length = p.2.1) (.agg (Ng zero (ps.map fun p => (p.1, (E p.2.2).cells))))
 | .slc t sz ow ps => Hq d h t sz ow E ps
 | .load sz x => GK h sz (E x)
 | .store sz x y => JZ h sz (E y) (E x)
 | .nchk x => match E x with
  | .ptr n o => .pure True (.ptr n o)
  | .row vs o => .pure True (.row vs o)
  | .eptr n len i o => match h n with
   | some (.arr _ _ rows) => .pure (rows.length = len) (.eptr n len i o)
   | _ => .no
  | .fn f c => .pure True (.fn f c)
  | _ => .no
 | .bin op x y => Lg op (E x) (E y)
 | .binb op x y => OR op (E x) (E y)
 | .bina ks op x y => OQ ks op (E x) (E y)
 | .binn op x y => JT h op (E x) (E y)
 | .binw op x y => OS op (E x) (E y)
 | .negw x => Pc (E x)
 | .mki tt x => OZ tt (E x)
 | .un op x => Pe op (E x)
 | .fld off x => JU h off (E x)
 | .idx sz x i => IV h sz (E x) (E i)
 | .idxa sz n x i => OW sz n (E x) (E i)
 | .idxv ag sz n x i => OX ag sz n (E x) (E i)
 | .sidx x i => match E x, E i with
  | .str s, .int .i64 n => .pure (0 <= n /\ n < s.length) (.int .u8 ((s.getD n.toNat 0).toNat))
  | _, _ => .no
 | .ext k x => match E x with
  | .tup vs => .pure (k < vs.length) (vs.getD k .any)
  | _ => .no
 | .len x => JV h (E x)
 | .slen x => match E x with
  | .str s => .pure True (.int .i64 s.length)
  | _ => .no
 | .app t sz bytes x y => MJ d h t sz bytes (E x) (E y)
 | .call f args => .pure ((∀ x ∈ args, Fl h (E x)) /\ (G f (args.map fun x => Dr h (E x))).1 /\ ((args.any fun x => (E x).isOwn) = true -> (G f (args.map fun x => Dr h (E x))).2.leaf = true)) (G f (args.map fun x => Dr h (E x))).2
 | .callv x args => let r := OT G (E x) (args.map fun y => Dr h (E y)) (args.any fun y => (E y).isOwn); ⟨(∀ y ∈ args, Fl h (E y)) /\ r.φ, r.v, r.w⟩
 | .mkfn f cap => .pure True (.fn f (cap.map E))
 | .mkmap => ⟨h d = none /\ d < 1000, .map d, [(d, .mp [])]⟩
 | .look ks ok zero m k => ML h ks ok zero (E m) (E k)
 | .mset ks m k x => JY h ks (E m) (E k) (E x)
 | .mks t sz bytes zero n c => JW d h t sz bytes zero (E n) (E c)
 | .mn x y => Pa (E x) (E y)
 | .mx x y => Pb (E x) (E y)
 | .sub sz lo hi mx x => Hr h sz (lo.map E) (hi.map E) (mx.map E) (E x)
 | .mkv t sz bytes zero n c => JX d h t sz bytes zero (E n) (E c)
 | .ssub lo hi x => Pd (lo.map E) (hi.map E) (E x)
 | .conv k x => OU k (E x)
 | .convw k x => OV k (E x)
 | .b2s x => OP (E x)
def rdF (d : Nat) (E : AE -> V) : AOp -> List Nat
 | .load _ x | .nchk x | .len x | .store _ x _ | .idx _ x _ | .fld _ x | .sub _ _ _ _ x | .binn _ x _ => (E x).nm
 | .app _ _ _ x y => d :: ((E x).nm ++ (E y).nm)
 | .box .. | .alloc .. | .slc .. | .mkmap | .mks .. | .mkv .. => [d]
 | .call _ args => args.flatMap fun x => (E x).nm
 | .callv _ args => args.flatMap fun x => (E x).nm
 | .look _ _ _ m _ | .mset _ m _ _ => (E m).nm
 | _ => []
def wrF (d : Nat) (E : AE -> V) : AOp -> List Nat
 | .store _ x _ => (E x).nm
 | .app _ _ _ x _ => d :: (E x).nm
 | .box .. | .alloc .. | .slc .. | .mkmap | .mks .. | .mkv .. => [d]
 | .mset _ m _ _ => (E m).nm
 | _ => []
structure AO where
 d : Option Nat
 g : Option (Nat × Bool)
 o : AOp
 deriving Inhabited
def upd (e : Nat -> V) (t : Nat) (v : V) (u : Nat) : V := if u = t then v else e u
def Cm (d : Option Nat) (v : V) (e : Nat -> V) : Nat -> V :=
 match d with
 | some d => upd e d v
 | none => e
def BI (h : Nat -> Option Ob) (n : Nat) (o : Ob) (m : Nat) : Option Ob := if m = n then some o else h m
def Ck (h : Nat -> Option Ob) : List (Nat × Ob) -> Nat -> Option Ob
 | [] => h
 | (n, o) :: r => Ck (BI h n o) r
def Tc : AOp -> Bool
 | .pick .. => true
 | _ => false
def gE (o : AOp) (E : AE -> V) : AE -> V := if Tc o then E else fun x => (E x).strip
def Jc (v : V) (want : Bool) : Option Bool :=
 match v with
 | .bool b => some (b == want)
 | .when c (.bool b) => some (c && (b == want))
 | _ => none
def AO.res (G : Tab) (o : AO) (s : St) : Res :=
 match o.g with
 | none => At G (o.d.getD 0) (AE.ev s.e) s.h o.o
 | some (t, want) => match Jc (s.e t) want with
  | none => .no
  | some c =>
   let r := At G (o.d.getD 0) (gE o.o (AE.ev s.e)) s.h o.o
   ⟨(c = true -> (Tc o.o = false -> ∀ x ∈ o.o.args, (x.ev s.e).cnd = true) /\ r.φ) /\ r.w = [], .when c r.v, []⟩
def AO.next (G : Tab) (o : AO) (s : St) : St :=
 let r := o.res G s
 ⟨match o.d with | some d => upd s.e d r.v | none => s.e, Ck s.h r.w⟩
def AO.rd (o : AO) (s : St) : List Nat := rdF (o.d.getD 0) (match o.g with | none => AE.ev s.e | some _ => gE o.o (AE.ev s.e)) o.o
def AO.wr (o : AO) (s : St) : List Nat := match o.g with | none => wrF (o.d.getD 0) (AE.ev s.e) o.o | some _ => []
def AE.slots : AE -> List Nat
 | .t n => [n]
 | .v _ => []
def AO.slots (o : AO) : List Nat := (match o.g with | some (t, _) => [t] | none => []) ++ o.o.args.flatMap AE.slots
def CZ (P : Program) (o : Oper) (a : Act) (w : World) (T : Value -> World -> Prop) : Prop :=
 ∀ (K : Act -> World -> Prop) (Q : Exit -> Act -> World -> Prop), (∀ cv w', T cv w' -> K (a.put o.dst cv) w') -> o.wp P a w K Q
section
variable {P : Program} {o : Oper} {a : Act} {w : World} {T : Value -> World -> Prop}
theorem CZ.run {cv : Value} {w' : World} (h : (execOp a.eval o).run P w = .ok (.value cv) w') (t : T cv w') : CZ P o a w T := fun K Q hk => by
 unfold Oper.wp; rw [h]; exact hk _ _ t
theorem CZ.skip {w' : World} (h : (execOp a.eval o).run P w = .ok .skip w') (t : T undef w') : CZ P o a w T := fun K Q hk => by
 unfold Oper.wp; rw [h]; exact hk _ _ t
theorem CZ.call {f : FuncId} {args : Array Value} (h : (execOp a.eval o).run P w = .ok (.enter f args) w) (t : Calls P f args w fun e w' => ∃ v, e = .returned v /\ T v w') : CZ P o a w T := fun K Q hk => by
 unfold Oper.wp; rw [h]
 show Calls P f args w _
 refine t.mono ?_
 rintro e w' ⟨v, rfl, ht⟩
 exact hk _ _ ht
end
def Ay {U : Tbl} (C : Ctx U) (h : Nat -> Option Ob) (w : World) (M : Nat -> Prop) (ι : Nat -> Value) (h' : Nat -> Option Ob) (v : V) (cv : Value) (w' : World) : Prop :=
 ∃ (M' : Nat -> Prop) (ι' : Nat -> Value), Mem C h' w' M' ι' /\ Rel M' w' ι' h' v cv /\ (∀ b, M b -> M' b) /\ (∀ b, M b -> w'.heap[b]? = w.heap[b]?) /\ Keeps h h' ι ι'
section
variable {U : Tbl} {C : Ctx U} {h : Nat -> Option Ob} {w : World} {M : Nat -> Prop} {ι : Nat -> Value}
theorem Ay.same (hm : Mem C h w M ι) {v : V} {cv : Value} (hr : Rel M w ι h v cv) : Ay C h w M ι h v cv w :=
 ⟨M, ι, hm, hr, fun _ hb => hb, fun _ _ => rfl, Keeps.refl h ι⟩
theorem Rel.bool_inv {b : Bool} {cv : Value} (r : Rel M w ι h (.bool b) cv) : cv = .bool b := by cases r with | pur hp => cases hp; rfl
theorem Rel.int_inv {k : IntKind} {n : Int} {cv : Value} (r : Rel M w ι h (.int k n) cv) : cv = .int k n := by cases r with | pur hp => cases hp; rfl
theorem Rel.str_inv {s : List UInt8} {cv : Value} (r : Rel M w ι h (.str s) cv) : cv = .string ⟨s.toArray⟩ := by cases r with | pur hp => cases hp; rfl
theorem Rel.nils_inv {cv : Value} (r : Rel M w ι h .nils cv) : cv = .slice none 0 0 := by cases r with | pur hp => cases hp; rfl
theorem Rel.agg_inv {vs : List V} {cv : Value} (r : Rel M w ι h (.agg vs) cv) : ∃ cs : Array Value, cv = .agg cs /\ vs.length = cs.size /\ (∀ c ∈ cs.toList, c.oneCell' = true) /\ ∀ (i : Nat) (v : V), vs[i]? = some v -> Rel M w ι h v (cs.getD i undef) := by
 cases r with
 | pur hp => cases hp with | agg _ cs hl ho hv => exact ⟨cs, rfl, hl, ho, fun i v hi => .pur (hv i v hi)⟩
 | agg _ cs hl ho hv => exact ⟨cs, rfl, hl, ho, hv⟩
theorem Rel.tup_inv {vs : List V} {cv : Value} (r : Rel M w ι h (.tup vs) cv) : ∃ cs : Array Value, cv = .tuple cs /\ vs.length = cs.size /\ ∀ (i : Nat) (v : V), vs[i]? = some v -> Rel M w ι h v (cs.getD i undef) := by
 cases r with
 | pur hp => cases hp with | tup _ cs hl hv => exact ⟨cs, rfl, hl, fun i v hi => .pur (hv i v hi)⟩
 | tup _ cs hl hv => exact ⟨cs, rfl, hl, hv⟩
theorem Rel.fn_inv {f : Nat} {vs : List V} {cv : Value} (r : Rel M w ι h (.fn f vs) cv) : ∃ cs : Array Value, cv = .func (.func f) #[] cs /\ vs.length = cs.size /\ ∀ (i : Nat) (v : V), vs[i]? = some v -> Rel M w ι h v (cs.getD i undef) := by
 cases r with
 | pur hp => cases hp with | fn _ _ cs hl hv => exact ⟨cs, rfl, hl, fun i v hi => .pur (hv i v hi)⟩
 | fn _ _ cs hl hv => exact ⟨cs, rfl, hl, hv⟩
theorem Rel.strip {v : V} {cv : Value} (r : Rel M w ι h v cv) (hc : v.cnd = true) : Rel M w ι h v.strip cv := by
 cases v with
 | when b u =>
  replace hc : b = true := hc
  cases r with
  | pur hp => cases hp with | when _ _ _ ht _ => exact .pur (ht hc)
  | when _ _ _ ht _ => exact ht hc
 | _ => exact r
theorem Rel.when_inv {b : Bool} {v : V} {cv : Value} (r : Rel M w ι h (.when b v) cv) : (b = true -> Rel M w ι h v cv) /\ (b = false -> cv = undef) := by
 cases r with
 | pur hp => cases hp with | when _ _ _ ht hf => exact ⟨fun e => .pur (ht e), hf⟩
 | when _ _ _ ht hf => exact ⟨ht, hf⟩
theorem Rel.one {v : V} {cv : Value} (r : Rel M w ι h v cv) (hv : v.one = true) : cv.oneCell' = true := by
 cases r with
 | pur hp => cases hp <;> first | rfl | (simp [V.one] at hv; done)
 | agg => simp [V.one] at hv
 | tup => simp [V.one] at hv
 | when => simp [V.one] at hv
 | fn => rfl
 | ptrb => rfl
 | eptr _ _ _ _ _ _ _ _ _ _ hs => exact hs
 | own _ _ _ _ _ _ _ _ _ hs => exact hs
 | iown => rfl
 | vw _ _ _ _ _ _ _ _ _ _ _ _ hs => exact hs
 | map _ _ _ _ _ hs => exact hs
theorem AeE {cv : Value} (h1 : cv.oneCell' = true) : cv.cells = #[cv] := by cases cv <;> first | rfl | (simp [Value.oneCell'] at h1; done)
theorem Rel.cells {v : V} {cv : Value} (r : Rel M w ι h v cv) (hv : v.shaped = true) : v.cells.length = cv.cells.size /\ (∀ c ∈ cv.cells.toList, c.oneCell' = true) /\ ∀ (i : Nat) (u : V), v.cells[i]? = some u -> Rel M w ι h u (cv.cells.getD i undef) := by
 by_cases hag : ∃ vs, v = .agg vs
 ·obtain ⟨vs, rfl⟩ := hag
  obtain ⟨cs, rfl, hl, ho, hr⟩ := r.agg_inv
  exact ⟨hl, ho, hr⟩
 ·have h1 : v.one = true := by cases v <;> first | exact hv | exact absurd ⟨_, rfl⟩ hag
  have hc : v.cells = [v] := by cases v <;> first | rfl | exact absurd ⟨_, rfl⟩ hag
  have ho := r.one h1
  rw [AeE ho, hc]
  refine ⟨rfl, by simpa using ho, fun i u hi => ?_⟩
  cases i with
  | zero => simp at hi; subst hi; simpa using r
  | succ i => simp at hi
theorem Ks (M : Nat -> Prop) (w : World) (cv : Value) : Pur M w (De cv) cv := by
 cases cv with
 | bool b => exact .bool _
 | int k n => exact .int _ _
 | string s =>
  have e : s = ⟨s.data.toList.toArray⟩ := by apply ByteArray.ext; simp
  show Pur M w (.str s.data.toList) (.string s)
  conv => arg 4; rw [e]
  exact .str _
 | slice x n m =>
  unfold De
  dsimp only
  split
  ·rename_i hh; obtain ⟨rfl, rfl, rfl⟩ := hh; exact .nils
  ·exact .any _
 | pointer x =>
  unfold De
  dsimp only
  split
  ·rename_i hh; subst hh; exact .nilp
  ·exact .any _
 | map x =>
  unfold De
  dsimp only
  split
  ·rename_i hh; subst hh; exact .nilm
  ·exact .any _
 | func f fs cs =>
  cases f with
  | func f =>
   unfold De
   dsimp only
   split
   ·rename_i hh
    obtain ⟨h1, h2⟩ := hh
    obtain rfl := Array.eq_empty_of_size_eq_zero h1
    obtain rfl := Array.eq_empty_of_size_eq_zero h2
    exact .fn _ [] #[] rfl (fun i v hi => by simp at hi)
   ·exact .any _
  | _ => exact .any _
 | _ => exact .any _
theorem Tw (M : Nat -> Prop) (w : World) (cv : Value) : Pur M w (IA cv) cv := by
 unfold IA
 split
 ·rename_i cs
  split
  ·rename_i hall
   refine .agg _ cs (by simp) (fun c hc => (Ch.1 hall) c hc) (fun i v hi => ?_)
   rw [BC] at hi
   obtain ⟨c, hc, rfl⟩ := AY.1 hi
   have : cs.getD i undef = c := by
    rw [Cv] at hc
    simp [hc]
   rw [this]
   exact Ks M w c
  ·exact .any _
 ·exact Ks M w cv
theorem trE_rel {e : Nat -> V} {a : Act} (he : ∀ t, Rel M w ι h (e t) (a.tmps.getD t undef)) {x0 : Operand} {x : AE} (hx : trE x0 = some x) : Rel M w ι h (x.ev e) (a.eval x0) := by
 cases x0 with
 | tmp n => simp [trE] at hx; subst hx; exact he n
 | const v => simp [trE] at hx; subst hx; exact .pur (Tw M w v)
 | func f => simp [trE] at hx; subst hx; exact .pur (.fn f [] #[] rfl (fun i v hi => by simp at hi))
 | global g => simp [trE] at hx
end
section
variable {P : Program} {U : Tbl} {C : Ctx U} {h : Nat -> Option Ob} {w : World} {M : Nat -> Prop} {ι : Nat -> Value} {o : Oper} {a : Act} {E : AE -> V} {G : Tab} {d : Nat}
abbrev Sim (P : Program) (G : Tab) {U : Tbl} (C : Ctx U) (h : Nat -> Option Ob) (w : World) (M : Nat -> Prop) (ι : Nat -> Value) (o : Oper) (a : Act) (E : AE -> V) (d : Nat) (ao : AOp) : Prop :=
 (At G d E h ao).φ -> CZ P o a w (Ay C h w M ι (Ck h (At G d E h ao).w) (At G d E h ao).v)
theorem AcJ {x0 : Operand} {x : AE} (ho : o.op = .move x0 \/ o.op = .assign x0) (hm : Mem C h w M ι) (hx : Rel M w ι h (E x) (a.eval x0)) : Sim P G C h w M ι o a E d (.mv x) := by
 intro _
 refine .run (cv := a.eval x0) (w' := w) ?_ (Ay.same hm hx)
 rcases ho with ho | ho <;> simp [execOp, ho]
theorem Akh {c0 a0 b0 : Operand} {c x y : AE} (ho : o.op = .pick c0 a0 b0) (hm : Mem C h w M ι) (hc : Rel M w ι h (E c) (a.eval c0)) (hx : Rel M w ι h (E x) (a.eval a0)) (hy : Rel M w ι h (E y) (a.eval b0)) :
  Sim P G C h w M ι o a E d (.pick c x y) := by
 unfold Sim At Cs
 dsimp only
 split
 ·rename_i b p q e1 e2 e3
  intro hφ
  obtain ⟨h1, h2, h3⟩ := hφ
  have r1 := hc.strip h1
  rw [e1] at r1
  have v1 := r1.bool_inv
  cases b
  ·have r3 := hy.strip (h3 rfl)
   rw [e3] at r3
   refine .run (cv := .bool q) (w' := w) ?_ (Ay.same hm (.pur (.bool _)))
   simp [execOp, ho, v1, r3.bool_inv, asBool]
  ·have r2 := hx.strip (h2 rfl)
   rw [e2] at r2
   refine .run (cv := .bool p) (w' := w) ?_ (Ay.same hm (.pur (.bool _)))
   simp [execOp, ho, v1, r2.bool_inv, asBool]
 ·rename_i b p e1 e2 _
  rintro ⟨h1, rfl, h2⟩
  have r1 := hc.strip h1
  rw [e1] at r1
  have r2 := hx.strip h2
  rw [e2] at r2
  refine .run (cv := .bool p) (w' := w) ?_ (Ay.same hm (.pur (.bool _)))
  simp [execOp, ho, r1.bool_inv, r2.bool_inv, asBool]
 ·rename_i b q e1 e3 _
  rintro ⟨h1, rfl, h2⟩
  have r1 := hc.strip h1
  rw [e1] at r1
  have r3 := hy.strip h2
  rw [e3] at r3
  refine .run (cv := .bool q) (w' := w) ?_ (Ay.same hm (.pur (.bool _)))
  simp [execOp, ho, r1.bool_inv, r3.bool_inv, asBool]
 ·exact fun hφ => hφ.elim
theorem Aj0 {x0 : Operand} {x : AE} {k : Nat} (ho : o.op = .extract x0 k) (hm : Mem C h w M ι) (hx : Rel M w ι h (E x) (a.eval x0)) : Sim P G C h w M ι o a E d (.ext k x) := by
 unfold Sim At
 dsimp only
 split
 ·rename_i vs e1
  intro hφ
  rw [e1] at hx
  obtain ⟨cs, hcv, hl, hv⟩ := hx.tup_inv
  replace hφ : k < vs.length := hφ
  have hk : vs[k]? = some (vs.getD k .any) := by rw [Bm hφ, AS, Bm hφ]; rfl
  refine .run (cv := cs.getD k undef) (w' := w) ?_ (Ay.same hm (hv k _ hk))
  have hk2 : cs[k]? = some (cs.getD k undef) := by rw [Ji (by omega)]; simp [Array.getD, show k < cs.size by omega]
  simp only [execOp, ho, hcv, Instr.extract, hk2, AA, Bb, AK]
 ·exact fun hφ => hφ.elim
end
def DK (ι : Nat -> Value) (n : Nat) (v : Value) : Nat -> Value := fun m => if m = n then v else ι m
theorem CU (ι : Nat -> Value) (n : Nat) (v : Value) : DK ι n v n = v := by unfold DK; rw [if_pos rfl]
theorem EZ (ι : Nat -> Value) {n m : Nat} (v : Value) (h : m ≠ n) : DK ι n v m = ι m := by unfold DK; rw [if_neg h]
theorem Dd (h : Nat -> Option Ob) (n : Nat) (o : Ob) : BI h n o n = some o := by unfold BI; rw [if_pos rfl]
theorem Hx (h : Nat -> Option Ob) {n m : Nat} (o : Ob) (e : m ≠ n) : BI h n o m = h m := by unfold BI; rw [if_neg e]
theorem Aid {w w' : World} {base : Nat} {e : TypeId} {size : Nat} {v : Value} {n : Nat} {xs : List Value} (h : w.ownsRow base e size v n xs)
  (hb : ∀ b, blk v = some b -> w'.heap[b]? = w.heap[b]?) : w'.ownsRow base e size v n xs := by
 refine ⟨h.1, h.2.imp id ?_⟩
 rintro ⟨g, cap, cur, rfl, h1, h2, r⟩
 exact ⟨g, cap, cur, rfl, h1, (hb g rfl).trans h2, r⟩
section
variable {U : Tbl} {C : Ctx U} {h h' : Nat -> Option Ob} {w w' : World} {M M' : Nat -> Prop} {ι ι' : Nat -> Value}
theorem obR.keep {n : Nat} {o : Ob} (hr : obR M w ι h n o) (hM : ∀ b, M b -> M' b) (hw : ∀ b, M b -> w'.heap[b]? = w.heap[b]?) (hk : Keeps h h' ι ι') (hi : ι' n = ι n)
  (hb : ∀ b, blk (ι n) = some b -> w'.heap[b]? = w.heap[b]?) : obR M' w' ι' h' n o := by
 cases o with
 | box t cells =>
  obtain ⟨b, cs, e, hh, hl, ho, hv⟩ := hr
  exact ⟨b, cs, hi.trans e, (hb b (by rw [e]; rfl)).trans hh, hl, ho, fun i v hv' => (hv i v hv').keep hM hw hk⟩
 | arr t sz rows =>
  obtain ⟨xs, hown, hl, ho, hv⟩ := hr
  refine ⟨xs, ?_, hl, ho, fun i j r v h1 h2 => (hv i j r v h1 h2).keep hM hw hk⟩
  rw [hi]
  exact Aid hown hb
 | mp es =>
  obtain ⟨b, ents, clock, e, hh, es0, hl, hv⟩ := hr
  refine ⟨b, ents, clock, hi.trans e, (hb b (by rw [e]; rfl)).trans hh, es0, hl, fun i kv hi' => ?_⟩
  obtain ⟨en, h1, h2, h3⟩ := hv i kv hi'
  exact ⟨en, h1, h2, h3.keep hM hw hk⟩
theorem Keeps.put {n : Nat} {o o' : Ob} {v' : Value} (hn : h n = some o)
  (hc : (∃ t c c', o = .box t c /\ o' = .box t c' /\ v' = ι n) \/ (∃ t sz r r', o = .arr t sz r /\ o' = .arr t sz r' /\ r.length <= r'.length /\ (r'.length = r.length -> v' = ι n)) \/ (∃ es es', o = .mp es /\ o' = .mp es' /\ v' = ι n)) :
  Keeps h (BI h n o') ι (DK ι n v') := by
 refine ⟨fun m t c hm => ?_, fun m t sz r hm => ?_, fun m es hm => ?_⟩
 ·by_cases e : m = n
  ·subst e
   rw [hn] at hm
   rcases hc with ⟨t', c1, c', rfl, rfl, hv⟩ | ⟨_, _, _, _, rfl, _⟩ | ⟨_, _, rfl, _⟩
   ·injection hm with hm; injection hm with h1 h2; subst h1
    exact ⟨by rw [CU]; exact hv, c', Dd _ _ _⟩
   ·cases hm
   ·cases hm
  ·exact ⟨EZ _ _ e, c, by rw [Hx _ _ e]; exact hm⟩
 ·by_cases e : m = n
  ·subst e
   rw [hn] at hm
   rcases hc with ⟨_, _, _, rfl, _⟩ | ⟨t', sz', r1, r', rfl, rfl, hl, hv⟩ | ⟨_, _, rfl, _⟩
   ·cases hm
   ·injection hm with hm; injection hm with h1 h2 h3; subst h1 h2 h3
    exact ⟨r', Dd _ _ _, hl, fun he => by rw [CU]; exact hv he⟩
   ·cases hm
  ·exact ⟨r, by rw [Hx _ _ e]; exact hm, AF _, fun _ => EZ _ _ e⟩
 ·by_cases e : m = n
  ·subst e
   rw [hn] at hm
   rcases hc with ⟨_, _, _, rfl, _⟩ | ⟨_, _, _, _, rfl, _⟩ | ⟨es1, es', rfl, rfl, hv⟩
   ·cases hm
   ·cases hm
   ·exact ⟨by rw [CU]; exact hv, es', Dd _ _ _⟩
  ·exact ⟨EZ _ _ e, es, by rw [Hx _ _ e]; exact hm⟩
theorem Keeps.new {n : Nat} {o' : Ob} {v' : Value} (hn : h n = none) : Keeps h (BI h n o') ι (DK ι n v') := by
 have ne : ∀ {m : Nat} {o : Ob}, h m = some o -> m ≠ n := fun {m o} hm e => by rw [e, hn] at hm; cases hm
 exact ⟨fun m t c hm => ⟨EZ _ _ (ne hm), c, by rw [Hx _ _ (ne hm)]; exact hm⟩,
  fun m t sz r hm => ⟨r, by rw [Hx _ _ (ne hm)]; exact hm, AF _, fun _ => EZ _ _ (ne hm)⟩,
  fun m es hm => ⟨EZ _ _ (ne hm), es, by rw [Hx _ _ (ne hm)]; exact hm⟩⟩
theorem Mem.blt (hm : Mem C h w M ι) : ∀ m b, (h m).isSome = true -> blk (ι m) = some b -> b < w.heap.size := fun m b hs hb => by
 obtain ⟨o, ho⟩ := Fv.1 hs
 have hr := hm.obj m o ho
 cases o with
 | box t cells =>
  obtain ⟨b', cs, e, hh, _⟩ := hr
  rw [e] at hb; cases hb
  exact (FX.1 hh).1
 | arr t sz rows =>
  obtain ⟨xs, hown, _⟩ := hr
  rcases hown.2 with ⟨e, _⟩ | ⟨g, cap, cur, e, _, hh, _⟩
  ·rw [e] at hb; cases hb
  ·rw [e] at hb; cases hb
   exact (FX.1 hh).1
 | mp es =>
  obtain ⟨b', ents, clock, e, hh, _⟩ := hr
  rw [e] at hb; cases hb
  exact (FX.1 hh).1
theorem Mem.step (hm : Mem C h w M ι) (n : Nat) (ob' : Ob) (v' : Value) (w' : World) (hsize : w.heap.size <= w'.heap.size) (hos : w'.os = w.os) (htape : w'.tape = w.tape) (hout : w'.output = w.output)
  (hblock : ∀ k, k < w.heap.size -> (∀ o, h n = some o -> blk (ι n) ≠ some k) -> w'.heap[k]? = w.heap[k]?)
  (hnew : ∀ g, blk v' = some g -> (∃ o, h n = some o /\ blk (ι n) = some g) \/ w.heap.size <= g)
  (hk : Keeps h (BI h n ob') ι (DK ι n v')) (hob : obR M w' (DK ι n v') (BI h n ob') n ob')
  (hold : 1000 <= n -> (h n).isSome = true)
  (hpin : 1000 <= n -> (∀ t c, ob' = .box t c -> v' = C.ι0 n) /\ ∀ es, ob' = .mp es -> v' = C.ι0 n) :
  Mem C (BI h n ob') w' M (DK ι n v') /\ (∀ b, M b -> w'.heap[b]? = w.heap[b]?) := by
 have hMw : ∀ b, M b -> w'.heap[b]? = w.heap[b]? := fun b hb => hblock b (hm.lt b hb) (fun o ho e => hm.imm n b (by rw [ho]; rfl) e hb)
 have lt := hm.blt
 have old : ∀ {m : Nat}, m ≠ n -> (BI h n ob' m).isSome = true -> (h m).isSome = true := fun {m} e hs => by rwa [Hx _ _ e] at hs
 refine ⟨⟨fun m o ho => ?_, fun m k b h1 h2 e1 e2 => ?_, fun m b hs hb => ?_, fun b hb => Is (hm.lt b hb) hsize, fun m b hs hb => ?_, HB hm.size hsize, fun b hb hx => ?_,
  hos.trans hm.os, htape.trans hm.tape, hout.trans hm.output, hm.base, U.keep w w' (fun b hb => hMw b (hm.tm b hb)) hm.tb, hm.tm, hm.old, fun m t sz r0 t' sz' rows hm1 h0 ho => ?_, fun m hm1 => ?_⟩, hMw⟩
 ·by_cases e : m = n
  ·subst e
   rw [Dd] at ho
   injection ho with ho
   subst ho
   exact hob
  ·rw [Hx _ _ e] at ho
   refine (hm.obj m o ho).keep (fun _ hb => hb) hMw hk (EZ _ _ e) (fun b hb => ?_)
   refine hblock b (lt m b (by rw [ho]; rfl) hb) (fun o' ho' e' => e ?_)
   exact hm.dis m n b (by rw [ho]; rfl) (by rw [ho']; rfl) hb e'
 ·by_cases c1 : m = n
  ·by_cases c2 : k = n
   ·rw [c1, c2]
   ·subst c1
    rw [CU] at e1
    rw [EZ _ _ c2] at e2
    rcases hnew b e1 with ⟨o, ho, hb⟩ | hb
    ·exact hm.dis m k b (by rw [ho]; rfl) (old c2 h2) hb e2
    ·have := lt k b (old c2 h2) e2; omega
  ·by_cases c2 : k = n
   ·subst c2
    rw [CU] at e2
    rw [EZ _ _ c1] at e1
    rcases hnew b e2 with ⟨o, ho, hb⟩ | hb
    ·exact hm.dis m k b (old c1 h1) (by rw [ho]; rfl) e1 hb
    ·have := lt m b (old c1 h1) e1; omega
   ·rw [EZ _ _ c1] at e1
    rw [EZ _ _ c2] at e2
    exact hm.dis m k b (old c1 h1) (old c2 h2) e1 e2
 ·by_cases c1 : m = n
  ·subst c1
   rw [CU] at hb
   intro hMb
   rcases hnew b hb with ⟨o, ho, hb'⟩ | hb'
   ·exact hm.imm m b (by rw [ho]; rfl) hb' hMb
   ·have := hm.lt b hMb; omega
  ·rw [EZ _ _ c1] at hb
   exact hm.imm m b (old c1 hs) hb
 ·by_cases c1 : m = n
  ·subst c1
   rw [CU] at hb
   rcases hnew b hb with ⟨o, ho, hb'⟩ | hb'
   ·exact hm.may m b (by rw [ho]; rfl) hb'
   ·exact .inr (HB hm.size hb')
  ·rw [EZ _ _ c1] at hb
   exact hm.may m b (old c1 hs) hb
 ·rw [<- hm.keep b hb hx]
  refine hblock b (Is hb hm.size) (fun o ho e => ?_)
  rcases hm.may n b (by rw [ho]; rfl) e with h1 | h1
  ·exact hx h1
  ·omega
 ·by_cases c1 : m = n
  ·subst c1
   rw [Dd] at ho
   injection ho with ho
   subst ho
   obtain ⟨o2, ho2⟩ := Fv.1 (hold hm1)
   cases o2 with
   | box t2 c2 =>
    obtain ⟨_, c', hc'⟩ := hk.box m t2 c2 ho2
    rw [Dd] at hc'; cases hc'
   | arr t2 sz2 r2 =>
    obtain ⟨r', hr', l1, e1⟩ := hk.arr m t2 sz2 r2 ho2
    rw [Dd] at hr'
    injection hr' with hr'
    injection hr' with a1 a2 a3
    subst a1 a2 a3
    obtain ⟨b1, b2⟩ := hm.arr0 m t sz r0 _ _ r2 hm1 h0 ho2
    exact ⟨by omega, fun he => (e1 (by omega)).trans (b2 (by omega))⟩
   | mp es =>
    obtain ⟨_, c', hc'⟩ := hk.mp m es ho2
    rw [Dd] at hc'; cases hc'
  ·rw [Hx _ _ c1] at ho
   rw [EZ _ _ c1]
   exact hm.arr0 m t sz r0 t' sz' rows hm1 h0 ho
 ·by_cases c1 : m = n
  ·subst c1
   obtain ⟨p1, p2⟩ := hpin hm1
   refine ⟨fun t c hc => ?_, fun es hc => ?_⟩
   ·rw [Dd] at hc; injection hc with hc; rw [CU]; exact p1 t c hc
   ·rw [Dd] at hc; injection hc with hc; rw [CU]; exact p2 es hc
  ·rw [Hx _ _ c1, EZ _ _ c1]
   exact hm.pin m hm1
def Hh (M : Nat -> Prop) (w : World) (ι : Nat -> Value) (h : Nat -> Option Ob) (g o : Nat) (vs : List V) : Prop :=
 ∃ f : Nat -> Value, ∀ j v, vs[j]? = some v -> w.cell? ⟨g, o + j, none⟩ = some (f j) /\ (f j).oneCell' = true /\ Rel M w ι h v (f j)
theorem Hh.drop {g o : Nat} {vs : List V} (hc : Hh M w ι h g o vs) (k : Nat) : Hh M w ι h g (o + k) (vs.drop k) := by
 obtain ⟨f, hf⟩ := hc
 refine ⟨fun j => f (k + j), fun j v hv => ?_⟩
 rw [Jl] at hv
 have := hf (k + j) v hv
 rwa [show o + k + j = o + (k + j) by omega]
end
end Go.Proofs.YtjkclhbckfkeeaaGreatDoor
