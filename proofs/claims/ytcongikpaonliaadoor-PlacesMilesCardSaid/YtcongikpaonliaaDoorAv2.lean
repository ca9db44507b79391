/- The operations over abstract states: what each asks, what it yields, what it writes. -/
import Derived.Test.YtcongikpaonliaaDoorAv1
namespace Go.Proofs.YtcongikpaonliaaDoor
open Go Go.RowKit
set_option linter.unusedSimpArgs false
set_option linter.unusedVariables false
set_option linter.deprecated false
inductive AE where
  | t (n : Nat)
  | v (x : V)
  deriving Inhabited
def leafV : Value → V
  | .bool b => .bool b
  | .int k n => .int k n
  | .string s => .str s.data.toList
  | .slice a n m => if a = none ∧ n = 0 ∧ m = 0 then .nils else .any
  | .pointer a => if a = none then .nilp else .any
  | .map r => if r = none then .nilm else .any
  | .func (.func f) fs cs => if fs.size = 0 ∧ cs.size = 0 then .fn f [] else .any
  | _ => .any
def ofVal : Value → V
  | .agg cs => if cs.toList.all Value.oneCell' then .agg (cs.toList.map leafV) else .any
  | v => leafV v
def trE : Operand → Option AE
  | .tmp n => some (.t n)
  | .const v => some (.v (ofVal v))
  | .func f => some (.v (.fn f []))
  | .global _ => none
def AE.ev (e : Nat → V) : AE → V
  | .t n => e n
  | .v x => x
/-- What a cell of a struct holds that may be compared. -/
inductive LK where
  | b
  | i (k : IntKind)
  | s
  deriving Inhabited
inductive AOp where
  | mv (x : AE)
  | pick (c a b : AE)
  | box (t : TypeId) (x : AE)
  | alloc (t : TypeId) (zero : List V)
  | build (zero : List V) (parts : List (Nat × Nat × AE))
  | slc (t : TypeId) (sz : Nat) (own : Bool) (parts : List AE)
  | load (sz : Option Nat) (x : AE)
  | store (sz : Nat) (x y : AE)
  | nchk (x : AE)
  | bin (op : BinOp) (x y : AE)
  | binb (op : BinOp) (x y : AE)
  | bina (ks : List LK) (op : BinOp) (x y : AE)
  | un (op : UnOp) (x : AE)
  | fld (off : Nat) (x : AE)
  | idx (sz : Nat) (x i : AE)
  | sidx (x i : AE)
  | getf (off : Nat) (sz : Option Nat) (x : AE)
  | ext (k : Nat) (x : AE)
  | len (x : AE)
  | slen (x : AE)
  | app (t : TypeId) (sz bytes : Nat) (x y : AE)
  | call (f : Nat) (args : List AE)
  | callv (x : AE) (args : List AE)
  | mkfn (f : Nat) (cap : List AE)
  | mkmap
  | look (ks : Nat) (ok : Bool) (zero : V) (m k : AE)
  | mset (ks : Nat) (m k x : AE)
  | mlen (x : AE)
  | mks (t : TypeId) (sz bytes : Nat) (zero : List V) (n c : AE)
  | mn (x y : AE)
  | mx (x y : AE)
  | sub (sz : Nat) (lo hi : Option AE) (x : AE)
  | ssub (lo hi : Option AE) (x : AE)
  | conv (k : IntKind) (x : AE)
  deriving Inhabited
def AOp.args : AOp → List AE
  | .mv x | .box _ x | .load _ x | .nchk x | .un _ x | .fld _ x | .getf _ _ x | .ext _ x | .len x | .slen x | .mlen x | .conv _ x => [x]
  | .pick c a b => [c, a, b]
  | .alloc _ _ => []
  | .build _ ps => ps.map (·.2.2)
  | .slc _ _ _ ps => ps
  | .look _ _ _ x y | .mks _ _ _ _ x y | .mn x y | .mx x y | .store _ x y | .bin _ x y | .binb _ x y | .bina _ _ x y | .idx _ x y | .sidx x y | .app _ _ _ x y => [x, y]
  | .call _ as => as
  | .callv x as => x :: as
  | .mkfn _ as => as
  | .mkmap => []
  | .mset _ x y z => [x, y, z]
  | .sub _ lo hi x => x :: (lo.toList ++ hi.toList)
  | .ssub lo hi x => x :: (lo.toList ++ hi.toList)
def V.strip : V → V
  | .when _ v => v
  | v => v
def V.cnd : V → Bool
  | .when b _ => b
  | _ => true
def V.cells : V → List V
  | .agg vs => vs
  | v => [v]
/-- A value of known shape that fills one cell. -/
def V.one : V → Bool
  | .any | .agg _ | .tup _ | .when _ _ => false
  | _ => true
def V.shaped : V → Bool
  | .agg _ => true
  | v => v.one
def V.nm : V → List Nat
  | .ptr n _ => [n]
  | .eptr n _ _ _ => [n]
  | .own n _ => [n]
  | .map n => [n]
  | _ => []
/-- The cells from off on replaced. -/
def putAt (cs : List V) (off : Nat) (ys : List V) : List V := cs.take off ++ ys ++ cs.drop (off + ys.length)
def fillV (cs : List V) : List (Nat × List V) → List V
  | [] => cs
  | (off, ys) :: r => fillV (putAt cs off ys) r
structure Res where
  φ : Prop
  v : V
  w : List (Nat × Ob)
def Res.no : Res := ⟨False, .any, []⟩
def Res.pure (φ : Prop) (v : V) : Res := ⟨φ, v, []⟩
def inK (k : IntKind) (n : Int) : Prop := k.wrap n = n
def inI (n : Int) : Prop := -9223372036854775808 ≤ n ∧ n ≤ 9223372036854775807
def evInt (op : BinOp) (k k' : IntKind) (a b : Int) : Res :=
  if k = k' then (match op with
    | .add => .pure (inK k (a + b)) (.int k (a + b))
    | .sub => .pure (inK k (a - b)) (.int k (a - b))
    | .mul => .pure (inK k (a * b)) (.int k (a * b))
    | .quo => .pure (0 ≤ a ∧ 0 < b ∧ inK k (a / b)) (.int k (a / b))
    | .rem => .pure (0 ≤ a ∧ 0 < b) (.int k (a % b))
    | .eql => .pure True (.bool (decide (a = b)))
    | .neq => .pure True (.bool (!decide (a = b)))
    | .lss => .pure True (.bool (decide (a < b)))
    | .leq => .pure True (.bool (decide (a ≤ b)))
    | .gtr => .pure True (.bool (decide (b < a)))
    | .geq => .pure True (.bool (decide (b ≤ a)))
    | _ => .no) else .no
def evBin : BinOp → V → V → Res
  | .add, .int .i64 a, .int .i64 b => .pure (inI (a + b)) (.int .i64 (a + b))
  | .sub, .int .i64 a, .int .i64 b => .pure (inI (a - b)) (.int .i64 (a - b))
  | .mul, .int .i64 a, .int .i64 b => .pure (inI (a * b)) (.int .i64 (a * b))
  | .quo, .int .i64 a, .int .i64 b => .pure (b ≠ 0 ∧ inI (a.tdiv b)) (.int .i64 (a.tdiv b))
  | .rem, .int .i64 a, .int .i64 b => .pure (b ≠ 0) (.int .i64 (a.tmod b))
  | .eql, .int .i64 a, .int .i64 b => .pure True (.bool (decide (a = b)))
  | .neq, .int .i64 a, .int .i64 b => .pure True (.bool (!decide (a = b)))
  | .lss, .int .i64 a, .int .i64 b => .pure True (.bool (decide (a < b)))
  | .leq, .int .i64 a, .int .i64 b => .pure True (.bool (decide (a ≤ b)))
  | .gtr, .int .i64 a, .int .i64 b => .pure True (.bool (decide (b < a)))
  | .geq, .int .i64 a, .int .i64 b => .pure True (.bool (decide (b ≤ a)))
  | .eql, .int .u8 a, .int .u8 b => .pure True (.bool (decide (a = b)))
  | .neq, .int .u8 a, .int .u8 b => .pure True (.bool (!decide (a = b)))
  | .lss, .int .u8 a, .int .u8 b => .pure True (.bool (decide (a < b)))
  | .leq, .int .u8 a, .int .u8 b => .pure True (.bool (decide (a ≤ b)))
  | .gtr, .int .u8 a, .int .u8 b => .pure True (.bool (decide (b < a)))
  | .geq, .int .u8 a, .int .u8 b => .pure True (.bool (decide (b ≤ a)))
  | .add, .str a, .str b => .pure ((a ++ b).length ≤ 140737488355328) (.str (a ++ b))
  | .eql, .str a, .str b => .pure True (.bool (decide (a = b)))
  | .neq, .str a, .str b => .pure True (.bool (!decide (a = b)))
  | op, .int k a, .int k' b => evInt op k k' a b
  | _, _, _ => .no
def evBinB : BinOp → V → V → Res
  | .eql, .bool a, .bool b => .pure True (.bool (a == b))
  | .neq, .bool a, .bool b => .pure True (.bool (a != b))
  | _, _, _ => .no
def fitK : LK → V → Bool
  | .b, .bool _ => true
  | .i k, .int k' _ => decide (k = k')
  | .s, .str _ => true
  | _, _ => false
def fitKs : List LK → List V → Bool
  | [], [] => true
  | k :: ks, v :: vs => fitK k v && fitKs ks vs
  | _, _ => false
def eqV : V → V → Bool
  | .bool a, .bool b => a == b
  | .int _ a, .int _ b => decide (a = b)
  | .str a, .str b => decide (a = b)
  | _, _ => false
def eqVs : List V → List V → Bool
  | [], [] => true
  | a :: as, b :: bs => eqV a b && eqVs as bs
  | _, _ => false
def evBinA (ks : List LK) : BinOp → V → V → Res
  | .eql, .agg a, .agg b => .pure (fitKs ks a = true ∧ fitKs ks b = true) (.bool (eqVs a b))
  | .neq, .agg a, .agg b => .pure (fitKs ks a = true ∧ fitKs ks b = true) (.bool (!eqVs a b))
  | _, _, _ => .no
def evUn : UnOp → V → Res
  | .not, .bool b => .pure True (.bool (!b))
  | .neg, .int .i64 a => .pure (inI (-a)) (.int .i64 (-a))
  | _, _ => .no
def boolOf : V → Option Bool
  | .bool b => some b
  | _ => none
def evPick (c a b : V) : Res :=
  match c.strip, a.strip, b.strip with
  | .bool x, .bool p, .bool q => .pure (c.cnd = true ∧ (x = true → a.cnd = true) ∧ (x = false → b.cnd = true)) (.bool (bif x then p else q))
  | .bool x, .bool p, _ => .pure (c.cnd = true ∧ x = true ∧ a.cnd = true) (.bool p)
  | .bool x, _, .bool q => .pure (c.cnd = true ∧ x = false ∧ b.cnd = true) (.bool q)
  | _, _, _ => .no
def evLoad (h : Nat → Option Ob) (sz : Option Nat) : V → Res
  | .ptr n off => match h n with
    | some (.box _ cells) => match sz with
      | none => .pure (off < cells.length) (cells.getD off .any)
      | some k => .pure (off + k ≤ cells.length) (.agg ((cells.drop off).take k))
    | _ => .no
  | .eptr n len i off => match h n with
    | some (.arr _ _ rows) => match sz with
      | none => .pure (rows.length = len ∧ i < rows.length ∧ off < (rows.getD i []).length) ((rows.getD i []).getD off .any)
      | some k => .pure (rows.length = len ∧ i < rows.length ∧ off + k ≤ (rows.getD i []).length) (.agg (((rows.getD i []).drop off).take k))
    | _ => .no
  | .row vs off => match sz with
    | none => .pure (off < vs.length) (vs.getD off .any)
    | some k => .pure (off + k ≤ vs.length) (.agg ((vs.drop off).take k))
  | _ => .no
def evStore (h : Nat → Option Ob) (sz : Nat) (y : V) : V → Res
  | .ptr n off => match h n with
    | some (.box t cells) => ⟨y.shaped = true ∧ y.cells.length = sz ∧ off + sz ≤ cells.length, .any, [(n, .box t (putAt cells off y.cells))]⟩
    | _ => .no
  | .eptr n len i off => match h n with
    | some (.arr t s rows) => ⟨y.shaped = true ∧ y.cells.length = sz ∧ rows.length = len ∧ i < len ∧ off + sz ≤ s, .any, [(n, .arr t s (rows.set i (putAt (rows.getD i []) off y.cells)))]⟩
    | _ => .no
  | _ => .no
def evFld (h : Nat → Option Ob) (off : Nat) : V → Res
  | .ptr n o => .pure True (.ptr n (o + off))
  | .eptr n len i o => match h n with
    | some (.arr _ _ rows) => .pure (rows.length = len) (.eptr n len i (o + off))
    | _ => .no
  | .row vs o => .pure True (.row vs (o + off))
  | _ => .no
def evIdx (h : Nat → Option Ob) (sz : Nat) : V → V → Res
  | .list rows _, .int .i64 i => .pure (0 ≤ i ∧ i < rows.length ∧ (rows.getD i.toNat []).length = sz) (.row (rows.getD i.toNat []) 0)
  | .own n len, .int .i64 i => match h n with
    | some (.arr _ s rows) => .pure (0 ≤ i ∧ i < len ∧ s = sz ∧ rows.length = len) (.eptr n len i.toNat 0)
    | _ => .no
  | _, _ => .no
def evLen : V → Res
  | .list rows _ => .pure True (.int .i64 rows.length)
  | .nils => .pure True (.int .i64 0)
  | _ => .no
def evLenO (h : Nat → Option Ob) : V → Res
  | .own n len => match h n with
    | some (.arr _ _ rows) => .pure (rows.length = len) (.int .i64 len)
    | _ => .no
  | v => evLen v
def kyOf : V → Option Ky
  | .str s => some (.s s)
  | .int .i64 n => some (.i n)
  | .agg [.str a, .str b] => some (.ss a b)
  | _ => none
/-- The kind of a key: a text, a number, two texts. -/
def Ky.kd : Ky → Nat
  | .s _ => 0
  | .i _ => 1
  | .ss _ _ => 2
/-- Looking into a map, and putting. -/
def mget (es : List (Ky × V)) (k : Ky) (zero : V) : V := ((es.find? fun p => decide (p.1 = k)).map (·.2)).getD zero
def mhas (es : List (Ky × V)) (k : Ky) : Bool := es.any fun p => decide (p.1 = k)
def mput (es : List (Ky × V)) (k : Ky) (v : V) : List (Ky × V) :=
  match es.findIdx? fun p => decide (p.1 = k) with
  | some j => es.set j (k, v)
  | none => es ++ [(k, v)]
def mpOf (h : Nat → Option Ob) : V → Option (List (Ky × V))
  | .map n => match h n with
    | some (.mp es) => some es
    | _ => none
  | .nilm => some []
  | _ => none
def evLook (h : Nat → Option Ob) (ks : Nat) (ok : Bool) (zero : V) (m k : V) : Res :=
  match mpOf h m, kyOf k with
  | some es, some key => .pure (key.kd = ks ∧ ∀ p ∈ es, p.1.kd = ks) (if ok then .tup [mget es key zero, .bool (mhas es key)] else mget es key zero)
  | _, _ => .no
def evMset (h : Nat → Option Ob) (ks : Nat) (m k x : V) : Res :=
  match m, kyOf k with
  | .map n, some key => match h n with
    | some (.mp es) => ⟨key.kd = ks ∧ ∀ p ∈ es, p.1.kd = ks, .any, [(n, .mp (mput es key x))]⟩
    | _ => .no
  | _, _ => .no
def evMlen (h : Nat → Option Ob) (m : V) : Res :=
  match mpOf h m with
  | some es => .pure True (.int .i64 es.length)
  | none => .no
def evMks (d : Nat) (h : Nat → Option Ob) (t : TypeId) (sz bytes : Nat) (zero : List V) : V → V → Res
  | .int .i64 n, .int .i64 c => ⟨h d = none ∧ d < 1000 ∧ 0 ≤ n ∧ n ≤ c ∧ c * (bytes + 1) ≤ 140737488355328, .own d n.toNat, [(d, .arr t sz (List.replicate n.toNat zero))]⟩
  | _, _ => .no
def evMn : V → V → Res
  | .int .i64 a, .int .i64 b => .pure True (.int .i64 (min a b))
  | _, _ => .no
def evMx : V → V → Res
  | .int .i64 a, .int .i64 b => .pure True (.int .i64 (max a b))
  | _, _ => .no
def boundOf (d : Int) : Option V → Option Int
  | none => some d
  | some (.int _ n) => some n
  | some _ => none
/-- A part of a slice that is only read. -/
def evSub (sz : Nat) (lo hi : Option V) : V → Res
  | .list rows _ => match boundOf 0 lo, boundOf rows.length hi with
    | some l, some r => .pure (0 ≤ l ∧ l ≤ r ∧ r ≤ rows.length ∧ ∀ q ∈ rows, q.length = sz) (.list ((rows.take r.toNat).drop l.toNat) false)
    | _, _ => .no
  | .nils => match boundOf 0 lo, boundOf 0 hi with
    | some l, some r => .pure (l = 0 ∧ r = 0) .nils
    | _, _ => .no
  | _ => .no
def evSsub (lo hi : Option V) : V → Res
  | .str s => match boundOf 0 lo, boundOf s.length hi with
    | some l, some r => .pure (0 ≤ l ∧ l ≤ r ∧ r ≤ s.length) (.str ((s.take r.toNat).drop l.toNat))
    | _, _ => .no
  | _ => .no
def evConv (k : IntKind) : V → Res
  | .int _ n => .pure (inK k n) (.int k n)
  | _ => .no
def evFnv : V → Option (Nat × List V)
  | .fn f c => some (f, c)
  | _ => none
/-- The rows of a slice that is read. -/
def rowsOf (h : Nat → Option Ob) : V → Option (List (List V))
  | .list rows _ => some rows
  | .nils => some []
  | .own n len => match h n with
    | some (.arr _ _ rows) => if rows.length = len then some rows else none
    | _ => none
  | _ => none
def evApp (d : Nat) (h : Nat → Option Ob) (t : TypeId) (sz bytes : Nat) (x y : V) : Res :=
  match rowsOf h y with
  | none => .no
  | some news => match x with
    | .nils => ⟨h d = none ∧ d < 1000 ∧ (∀ r ∈ news, r.length = sz) ∧ news.length * (bytes + 1) ≤ 140737488355328, .own d news.length, [(d, .arr t sz news)]⟩
    | .own n len => match h n with
      | some (.arr t' s rows) => ⟨t' = t ∧ s = sz ∧ rows.length = len ∧ (∀ r ∈ news, r.length = sz) ∧ (len + news.length) * (bytes + 1) ≤ 140737488355328, .own n (len + news.length), [(n, .arr t sz (rows ++ news))]⟩
      | _ => .no
    | .list rows fit => ⟨h d = none ∧ d < 1000 ∧ fit = true ∧ news ≠ [] ∧ (∀ r ∈ rows, r.length = sz) ∧ (∀ r ∈ news, r.length = sz) ∧ (rows.length + news.length) * (bytes + 1) ≤ 140737488355328, .own d (rows.length + news.length), [(d, .arr t sz (rows ++ news))]⟩
    | _ => .no
mutual
/-- No object of the state is named. -/
def V.pur : V → Bool
  | .ptr _ _ => false
  | .eptr _ _ _ _ => false
  | .own _ _ => false
  | .map _ => false
  | .agg vs => V.purs vs
  | .tup vs => V.purs vs
  | .fn _ vs => V.purs vs
  | .when _ v => v.pur
  | .any => true
  | .bool _ => true
  | .int _ _ => true
  | .str _ => true
  | .nils => true
  | .nilp => true
  | .nilm => true
  | .list _ _ => true
  | .row _ _ => true
def V.purs : List V → Bool
  | [] => true
  | v :: vs => v.pur && V.purs vs
end
/-- What is asked of an operand of a call. -/
def argφ (h : Nat → Option Ob) : V → Prop
  | .own n len => match h n with
    | some (.arr _ _ rows) => rows.length = len ∧ ∀ r ∈ rows, V.purs r = true
    | _ => False
  | v => v.pur = true
/-- An own row handed to a function that only reads. -/
def borrow (h : Nat → Option Ob) : V → V
  | .own n len => match h n with
    | some (.arr _ _ rows) => if rows.length = len then .list rows false else .any
    | _ => .any
  | v => v
def V.isOwn : V → Bool
  | .own _ _ => true
  | _ => false
def V.leaf1 : V → Bool
  | .bool _ | .int _ _ | .str _ => true
  | _ => false
def V.leaf : V → Bool
  | .bool _ | .int _ _ | .str _ => true
  | .tup vs => vs.all V.leaf1
  | _ => false
abbrev Tab := Nat → List V → Prop × V
def evCallv (G : Tab) (x : V) (vs : List V) (own : Bool) : Res :=
  match evFnv x with
  | some (f, cap) => .pure (V.purs cap = true ∧ (G f (vs ++ cap)).1 ∧ (own = true → (G f (vs ++ cap)).2.leaf = true)) (G f (vs ++ cap)).2
  | none => .no
/-- A nil slice, read as an empty one. -/
def V.nn1 : V → V
  | .nils => .list [] false
  | v => v
/-- A literal slice: of values that name no object it is rows that nobody writes, unless it is asked for as an own row. -/
def evSlc (d : Nat) (h : Nat → Option Ob) (t : TypeId) (sz : Nat) (ow : Bool) (E : AE → V) (ps : List AE) : Res :=
  if (!ow && (!ps.isEmpty && ps.all fun p => (E p).pur)) = true then .pure (∀ p ∈ ps, (E p).shaped = true ∧ (E p).cells.length = sz) (.list (ps.map fun p => (E p).cells.map V.nn1) false)
  else ⟨h d = none ∧ d < 1000 ∧ ∀ p ∈ ps, (E p).shaped = true ∧ (E p).cells.length = sz, .own d ps.length, [(d, .arr t sz (ps.map fun p => (E p).cells))]⟩
def aeval (G : Tab) (d : Nat) (E : AE → V) (h : Nat → Option Ob) : AOp → Res
  | .mv x => .pure True (E x)
  | .pick c a b => evPick (E c) (E a) (E b)
  | .box t x => ⟨(E x).shaped = true ∧ h d = none ∧ d < 1000, .ptr d 0, [(d, .box t (E x).cells)]⟩
  | .alloc t zero => ⟨h d = none ∧ d < 1000, .ptr d 0, [(d, .box t zero)]⟩
  | .build zero ps => .pure (∀ p ∈ ps, (E p.2.2).shaped = true ∧ (E p.2.2).cells.length = p.2.1) (.agg (fillV zero (ps.map fun p => (p.1, (E p.2.2).cells))))
  | .slc t sz ow ps => evSlc d h t sz ow E ps
  | .load sz x => evLoad h sz (E x)
  | .store sz x y => evStore h sz (E y) (E x)
  | .nchk x => match E x with
    | .ptr n o => .pure True (.ptr n o)
    | .row vs o => .pure True (.row vs o)
    | .eptr n len i o => match h n with
      | some (.arr _ _ rows) => .pure (rows.length = len) (.eptr n len i o)
      | _ => .no
    | .fn f c => .pure True (.fn f c)
    | _ => .no
  | .bin op x y => evBin op (E x) (E y)
  | .binb op x y => evBinB op (E x) (E y)
  | .bina ks op x y => evBinA ks op (E x) (E y)
  | .un op x => evUn op (E x)
  | .fld off x => evFld h off (E x)
  | .idx sz x i => evIdx h sz (E x) (E i)
  | .sidx x i => match E x, E i with
    | .str s, .int .i64 n => .pure (0 ≤ n ∧ n < s.length) (.int .u8 ((s.getD n.toNat 0).toNat))
    | _, _ => .no
  | .getf off sz x => match E x with
    | .agg vs => match sz with
      | none => .pure (off < vs.length) (vs.getD off .any)
      | some k => .pure (off + k ≤ vs.length) (.agg ((vs.drop off).take k))
    | _ => .no
  | .ext k x => match E x with
    | .tup vs => .pure (k < vs.length) (vs.getD k .any)
    | _ => .no
  | .len x => evLenO h (E x)
  | .slen x => match E x with
    | .str s => .pure True (.int .i64 s.length)
    | _ => .no
  | .app t sz bytes x y => evApp d h t sz bytes (E x) (E y)
  | .call f args => .pure ((∀ x ∈ args, argφ h (E x)) ∧ (G f (args.map fun x => borrow h (E x))).1 ∧ ((args.any fun x => (E x).isOwn) = true → (G f (args.map fun x => borrow h (E x))).2.leaf = true)) (G f (args.map fun x => borrow h (E x))).2
  | .callv x args => let r := evCallv G (E x) (args.map fun y => borrow h (E y)) (args.any fun y => (E y).isOwn); ⟨(∀ y ∈ args, argφ h (E y)) ∧ r.φ, r.v, r.w⟩
  | .mkfn f cap => .pure True (.fn f (cap.map E))
  | .mkmap => ⟨h d = none ∧ d < 1000, .map d, [(d, .mp [])]⟩
  | .look ks ok zero m k => evLook h ks ok zero (E m) (E k)
  | .mset ks m k x => evMset h ks (E m) (E k) (E x)
  | .mlen m => evMlen h (E m)
  | .mks t sz bytes zero n c => evMks d h t sz bytes zero (E n) (E c)
  | .mn x y => evMn (E x) (E y)
  | .mx x y => evMx (E x) (E y)
  | .sub sz lo hi x => evSub sz (lo.map E) (hi.map E) (E x)
  | .ssub lo hi x => evSsub (lo.map E) (hi.map E) (E x)
  | .conv k x => evConv k (E x)
/-- The objects that an operation looks at, and those that it writes. -/
def rdF (d : Nat) (E : AE → V) : AOp → List Nat
  | .load _ x | .nchk x | .len x | .store _ x _ | .idx _ x _ | .fld _ x => (E x).nm
  | .app _ _ _ x y => d :: ((E x).nm ++ (E y).nm)
  | .box .. | .alloc .. | .slc .. | .mkmap | .mks .. => [d]
  | .call _ args => args.flatMap fun x => (E x).nm
  | .callv _ args => args.flatMap fun x => (E x).nm
  | .look _ _ _ m _ | .mset _ m _ _ | .mlen m => (E m).nm
  | _ => []
def wrF (d : Nat) (E : AE → V) : AOp → List Nat
  | .store _ x _ => (E x).nm
  | .app _ _ _ x _ => d :: (E x).nm
  | .box .. | .alloc .. | .slc .. | .mkmap | .mks .. => [d]
  | .mset _ m _ _ => (E m).nm
  | _ => []
structure AO where
  d : Option Nat
  g : Option (Nat × Bool)
  o : AOp
  deriving Inhabited
def upd (e : Nat → V) (t : Nat) (v : V) (u : Nat) : V := if u = t then v else e u
def setE (d : Option Nat) (v : V) (e : Nat → V) : Nat → V :=
  match d with
  | some d => upd e d v
  | none => e
def hupd (h : Nat → Option Ob) (n : Nat) (o : Ob) (m : Nat) : Option Ob := if m = n then some o else h m
def hupds (h : Nat → Option Ob) : List (Nat × Ob) → Nat → Option Ob
  | [] => h
  | (n, o) :: r => hupds (hupd h n o) r
def isPick : AOp → Bool
  | .pick .. => true
  | _ => false
/-- Under a guard the operands are those that the guard lets. -/
def gE (o : AOp) (E : AE → V) : AE → V := if isPick o then E else fun x => (E x).strip
def gCond (v : V) (want : Bool) : Option Bool :=
  match v with
  | .bool b => some (b == want)
  | .when c (.bool b) => some (c && (b == want))
  | _ => none
def AO.res (G : Tab) (o : AO) (s : St) : Res :=
  match o.g with
  | none => aeval G (o.d.getD 0) (AE.ev s.e) s.h o.o
  | some (t, want) => match gCond (s.e t) want with
    | none => .no
    | some c =>
      let r := aeval G (o.d.getD 0) (gE o.o (AE.ev s.e)) s.h o.o
      ⟨(c = true → (isPick o.o = false → ∀ x ∈ o.o.args, (x.ev s.e).cnd = true) ∧ r.φ) ∧ r.w = [], .when c r.v, []⟩
def AO.next (G : Tab) (o : AO) (s : St) : St :=
  let r := o.res G s
  ⟨match o.d with | some d => upd s.e d r.v | none => s.e, hupds s.h r.w⟩
def AO.rd (o : AO) (s : St) : List Nat := rdF (o.d.getD 0) (match o.g with | none => AE.ev s.e | some _ => gE o.o (AE.ev s.e)) o.o
def AO.wr (o : AO) (s : St) : List Nat := match o.g with | none => wrF (o.d.getD 0) (AE.ev s.e) o.o | some _ => []
/-- The slots that an operation looks at. -/
def AE.slots : AE → List Nat
  | .t n => [n]
  | .v _ => []
def AO.slots (o : AO) : List Nat := (match o.g with | some (t, _) => [t] | none => []) ++ o.o.args.flatMap AE.slots
end Go.Proofs.YtcongikpaonliaaDoor
