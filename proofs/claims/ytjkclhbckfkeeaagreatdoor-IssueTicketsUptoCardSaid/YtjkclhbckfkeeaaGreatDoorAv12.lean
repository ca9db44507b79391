import Derived.Test.YtjkclhbckfkeeaaGreatDoorAv11e
set_option linter.unusedSimpArgs false
set_option linter.unusedVariables false
set_option linter.deprecated false
namespace Go.Proofs.YtjkclhbckfkeeaaGreatDoor
open Go Go.RowKit
def AdZ (P : Program) (kt : TypeId) : Option Nat :=
 match P.underlying kt with
 | some .string => some 0
 | some (.int .i64) => some 1
 | some (.array 2 e) => match P.underlying e, szT P e with
  | some .string, some 1 => some 2
  | _, _ => none
 | some (.struct fs) => match EV P 8 kt with
  | some [.s, .i .i64, .i .i64, .s] => if fs.toList.all (fun f => (match P.underlying f.type with | some .string => true | some (.int .i64) => true | _ => false) && decide (f.offset < 4)) = true then some 3 else none
  | _ => none
 | _ => none
theorem Hx {P : Program} {kt : TypeId} {ks : Nat} (h : AdZ P kt = some ks) : AbO P kt ks := by
 unfold AdZ at h
 split at h
 ·rename_i e; injection h with h; subst h; exact e
 ·rename_i e; injection h with h; subst h; exact e
 ·rename_i e hu
  split at h
  ·rename_i e2 e3; injection h with h; subst h; exact ⟨e, hu, e2, e3⟩
  ·cases h
 ·rename_i fs hu
  split at h
  ·rename_i hf
   split at h
   ·rename_i hall
    injection h with h; subst h
    refine ⟨fs, hu, hf, fun f hm => ?_⟩
    have := List.all_eq_true.1 hall f hm
    simp only [Bool.and_eq_true, decide_eq_true_eq] at this
    obtain ⟨a1, a2⟩ := this
    refine ⟨?_, a2⟩
    split at a1
    ·rename_i h1; exact .inl h1
    ·rename_i h1; exact .inr h1
    ·cases a1
   ·cases h
  ·cases h
 ·cases h
def trEo : Option Operand → Option (Option AE)
 | none => some none
 | some x => (trE x).map some
theorem trEo_rel {M : Nat → Prop} {w : World} {ι : Nat → Value} {h : Nat → Option Ob} {E : AE → V} {a : Act} {x : Option Operand} {y : Option AE} (ht : trEo x = some y) (hx : ∀ x0 z, z ∈ y.toList → trE x0 = some z → Rel M w ι h (E z) (a.eval x0)) :
  match y.map E, x.map a.eval with | none, none => True | some u, some cv => Rel M w ι h u cv | _, _ => False := by
 cases x with
 | none => simp only [trEo, Option.some.injEq] at ht; subst ht; trivial
 | some x0 =>
  obtain ⟨z, hz, rfl⟩ := Option.map_eq_some_iff.1 ht
  exact hx x0 z (by simp) hz
def Fz (P : Program) (c : Call) : Option AOp :=
 match c.callee with
 | .builtin .len => match c.args.toList, c.argTypes.toList with
  | [x], [t] => match P.underlying t with
   | some .string => (trE x).map .slen
   | some (.slice _) => (trE x).map .len
   | some (.map _ _) => (trE x).map .mlen
   | _ => none
  | _, _ => none
 | .builtin .append => match c.args.toList, c.argTypes.toList with
  | [x, y], [t, t'] => if t = t' then match P.underlying t with
   | some (.slice e) => match P.info? e, trE x, trE y with
    | some i, some x', some y' => match i.zero with
     | some z => if 0 < i.size ∧ z.cells.size = i.size then some (.app e i.size i.bytes x' y') else none
     | none => none
    | _, _, _ => none
   | _ => none else none
  | _, _ => none
 | .builtin .clear => match c.args.toList, c.argTypes.toList with
  | [x], [t] => match P.underlying t with
   | some (.slice e) => match P.info? e, trE x with
    | some i, some x' => match i.zero with
     | some z => if 0 < i.size ∧ z.cells.size = i.size ∧ z.cells.toList.all Value.oneCell' = true then some (.clr i.size (z.cells.toList.map CK) x') else none
     | none => none
    | _, _ => none
   | _ => none
  | _, _ => none
 | .builtin .copy => match c.args.toList, c.argTypes.toList with
  | [x, y], [t, t'] => if t = t' then match P.underlying t with
   | some (.slice e) => match szT P e, trE x, trE y with
    | some k, some x', some y' => some (.cpy k x' y')
    | _, _, _ => none
   | _ => none else none
  | _, _ => none
 | .builtin .min => match c.args.toList with
  | [x, y] => match trE x, trE y with
   | some x', some y' => some (.mn x' y')
   | _, _ => none
  | _ => none
 | .builtin .max => match c.args.toList with
  | [x, y] => match trE x, trE y with
   | some x', some y' => some (.mx x' y')
   | _, _ => none
  | _ => none
 | .value (.tmp t) => (c.args.toList.mapM trE).map (.callv (.t t))
 | .value (.func f) => match P.funcs[f]? with
  | some fn => if fn.body.isNone = false ∧ (fn.name == "runtime.NumGoroutine") = false then (c.args.toList.mapM trE).map (.call f) else none
  | none => none
 | _ => none
def BU (P : Program) : Op → Option AOp
 | .move x => (trE x).map .mv
 | .assign x => (trE x).map .mv
 | .pick c a b => match trE c, trE a, trE b with
  | some c, some a, some b => some (.pick c a b)
  | _, _, _ => none
 | .box t x => (trE x).map (.box t)
 | .alloc t => match P.info? t with
  | some i => match i.zero with
   | some z => if z.cells.toList.all Value.oneCell' = true then some (.alloc t (z.cells.toList.map CK)) else none
   | none => none
  | none => none
 | .build t parts => match P.info? t, LY P t with
  | some i, some pl => match i.zero with
   | some z => if z.cells.toList.all Value.oneCell' = true then (EY pl z.cells.size parts.toList).map (.build (z.cells.toList.map CK)) else none
   | none => none
  | _, _ => none
 | .buildSlice t n parts => match P.underlying t with
  | some (.slice e) => match P.info? e with
   | some i => match i.zero with
    | some _ => if 0 < i.size ∧ n * i.size ≤ 16777216 ∧ parts.size = n then (Ul 0 parts.toList).map (.slc e i.size false) else none
    | none => none
   | none => none
  | _ => none
 | .load t x => match Ex P t, szT P t, trE x with
  | some ag, some k, some y => some (.load (if ag then some k else none) y)
  | _, _, _ => none
 | .store t x y => match szT P t, trE x, trE y with
  | some k, some x', some y' => some (.store k x' y')
  | _, _, _ => none
 | .nilCheck x => (trE x).map .nchk
 | .makeInterface t x => match P.underlying t with
  | some (.slice _) => (trE x).map (.mki t)
  | _ => none
 | .binOp op t x y _ => match trE x, trE y with
  | some x', some y' => match P.underlying t with
   | some .bool => some (.binb op x' y')
   | some (.struct _) => match EV P 8 t with
    | some ks => if P.eqGuardType P.depth t = false then some (.bina ks op x' y') else none
    | none => none
   | some (.slice _) => some (.binn op x' y')
   | some (.pointer _) => some (.binp false op x' y')
   | some (.map _ _) => some (.binp true op x' y')
   | some (.array _ _) => match EV P 8 t with
    | some ks => if P.eqGuardType P.depth t = false then some (.bina ks op x' y') else none
    | none => none
   | _ => some (.bin op x' y')
  | _, _ => none
 | .unOp op _ x => (trE x).map (.un op)
 | .fieldAddr t x k => match Agd P t k, trE x with
  | some off, some y => some (.fld off y)
  | _, _ => none
 | .field t x k => match Fq P t, trE x with
  | some fs, some y => match fs[k]? with
   | some f => match Ex P f.type, szT P f.type with
    | some ag, some n => some (.getf f.offset (if ag then some n else none) y)
    | _, _ => none
   | none => none
  | _, _ => none
 | .indexAddr t x i => match P.underlying t with
  | some (.slice e) => match szT P e, trE x, trE i with
   | some sz, some x', some i' => some (.idx sz x' i')
   | _, _, _ => none
  | some (.array n e) => match szT P e, trE x, trE i with
   | some sz, some x', some i' => some (.idxa sz n x' i')
   | _, _, _ => none
  | _ => none
 | .index t x i => match P.underlying t, trE x, trE i with
  | some .string, some x', some i' => some (.sidx x' i')
  | some (.array n e), some x', some i' => match Ex P e, szT P e with
   | some ag, some sz => some (.idxv ag sz n x' i')
   | _, _ => none
  | _, _, _ => none
 | .extract x k => (trE x).map (.ext k)
 | .call c => Fz P c
 | .makeFunc (.func f) first caps => if first.size = 0 then (caps.toList.mapM trE).map (.mkfn f) else none
 | .makeMap _ none => some .mkmap
 | .lookup t m k ok => match P.underlying t with
  | some (.map kt et) => match P.info? et, trE m, trE k, AdZ P kt with
   | some i, some m', some k', some ks => match i.zero with
    | some z => some (.look ks ok (Jd z) m' k')
    | none => none
   | _, _, _, _ => none
  | _ => none
 | .mapUpdate t m k x => match P.underlying t with
  | some (.map kt _) => match trE m, trE k, trE x, AdZ P kt with
   | some m', some k', some x', some ks => some (.mset ks m' k' x')
   | _, _, _, _ => none
  | _ => none
 | .insert t m k x => match P.underlying t with
  | some (.map kt _) => match trE m, trE k, trE x, AdZ P kt with
   | some m', some k', some x', some ks => some (.mset ks m' k' x')
   | _, _, _, _ => none
  | _ => none
 | .makeSlice t n c => match P.underlying t with
  | some (.slice e) => match P.info? e, trE n, trE c with
   | some i, some n', some c' => match i.zero with
    | some z => if 0 < i.size ∧ z.cells.size = i.size ∧ z.cells.toList.all Value.oneCell' = true then some (.mks e i.size i.bytes (z.cells.toList.map CK) n' c') else none
    | none => none
   | _, _, _ => none
  | _ => none
 | .slice t x lo hi none => match P.underlying t, trE x, trEo lo, trEo hi with
  | some .string, some x', some lo', some hi' => some (.ssub lo' hi' x')
  | some (.slice e), some x', some lo', some hi' => match szT P e with
   | some sz => some (.sub sz lo' hi' none x')
   | none => none
  | _, _, _, _ => none
 | .slice t x lo hi (some mx) => match P.underlying t, trE x, trEo lo, trEo hi, trE mx with
  | some (.slice e), some x', some lo', some hi', some mx' => match szT P e with
   | some sz => some (.sub sz lo' hi' (some mx') x')
   | none => none
  | _, _, _, _, _ => none
 | .convert src dst x => match P.underlying src, P.underlying dst with
  | some (.int _), some (.int k) => (trE x).map (.conv k)
  | some .string, some (.slice e) => match P.underlying e with
   | some (.int .u8) => (trE x).map .s2b
   | _ => none
  | some (.slice e), some .string => match P.underlying e with
   | some (.int .u8) => (trE x).map .b2s
   | _ => none
  | _, _ => none
 | _ => none
theorem It {pl : List (Nat × Nat)} {n : Nat} : ∀ {ps : List (Nat × Operand)} {qs : List (Nat × Nat × AE)}, EY pl n ps = some qs → ∀ x0 y, x0 ∈ ps.map (·.2) → trE x0 = some y → y ∈ qs.map (·.2.2)
 | [], _, _, x0, _, hx, _ => by simp at hx
 | (i, x) :: r, qs, hq, x0, y, hx, he => by
  unfold EY at hq
  split at hq
  ·rename_i off sz y' r' h1 h2 h3
   split at hq
   ·injection hq with hq
    subst hq
    simp only [List.map_cons, List.mem_cons] at hx ⊢
    rcases hx with rfl | hx
    ·rw [he] at h2; injection h2 with h2; exact .inl h2
    ·exact .inr (It h3 x0 y hx he)
   ·cases hq
  ·cases hq
theorem IW : ∀ {ps : List (Nat × Operand)} {k : Nat} {qs : List AE}, Ul k ps = some qs → ∀ x0 y, x0 ∈ ps.map (·.2) → trE x0 = some y → y ∈ qs
 | [], _, _, _, x0, _, hx, _ => by simp at hx
 | (i, x) :: r, k, qs, hq, x0, y, hx, he => by
  unfold Ul at hq
  split at hq
  ·split at hq
   ·rename_i y' r' h2 h3
    injection hq with hq
    subst hq
    simp only [List.map_cons, List.mem_cons] at hx ⊢
    rcases hx with rfl | hx
    ·rw [he] at h2; injection h2 with h2; exact .inl h2
    ·exact .inr (IW h3 x0 y hx he)
   ·cases hq
  ·cases hq
theorem FF : ∀ {l : List Operand} {r : List AE}, l.mapM trE = some r → ∀ (i : Nat) (y : AE), r[i]? = some y → ∃ x0, l[i]? = some x0 ∧ trE x0 = some y
 | [], r, hr, i, y, hi => by simp at hr; subst hr; simp at hi
 | x :: l, r, hr, i, y, hi => by
  rw [List.mapM_cons] at hr
  cases h1 : trE x with
  | none => rw [h1] at hr; cases hr
  | some y' =>
   rw [h1] at hr
   cases h2 : l.mapM trE with
   | none => rw [h2] at hr; cases hr
   | some r' =>
    rw [h2] at hr
    have e : y' :: r' = r := Option.some.inj hr
    subst e
    cases i with
    | zero => simp only [List.getElem?_cons_zero, Option.some.injEq] at hi; subst hi; exact ⟨x, rfl, h1⟩
    | succ i => rw [List.getElem?_cons_succ] at hi ⊢; exact FF h2 i y hi
section
variable {P : Program} {U : Tbl} {C : Ctx U} {h : Nat → Option Ob} {w : World} {M : Nat → Prop} {ι : Nat → Value} {o : Oper} {a : Act} {E : AE → V} {G : Tab} {d : Nat}
theorem sim {ao : AOp} (ho : BU P o.op = some ao) (hG : ∀ f, Ao P U f (G f)) (hm : Mem C h w M ι) (hx : ∀ x0 y, y ∈ ao.args → trE x0 = some y → Rel M w ι h (E y) (a.eval x0)) : Sim P G C h w M ι o a E d ao := by
 generalize hop : o.op = op at ho
 cases op with
 | move x =>
  obtain ⟨y, hy, rfl⟩ := Option.map_eq_some_iff.1 ho
  exact Xp (.inl hop) hm (hx x y (List.mem_cons_self ..) hy)
 | assign x =>
  obtain ⟨y, hy, rfl⟩ := Option.map_eq_some_iff.1 ho
  exact Xp (.inr hop) hm (hx x y (List.mem_cons_self ..) hy)
 | pick c x y =>
  simp only [BU] at ho
  split at ho
  ·rename_i c' x' y' h1 h2 h3
   injection ho with ho
   subst ho
   exact Vj hop hm (hx c c' (by simp [AOp.args]) h1) (hx x x' (by simp [AOp.args]) h2) (hx y y' (by simp [AOp.args]) h3)
  ·cases ho
 | box t x =>
  obtain ⟨y, hy, rfl⟩ := Option.map_eq_some_iff.1 ho
  exact ZT hop hm (hx x y (List.mem_cons_self ..) hy)
 | alloc t =>
  simp only [BU] at ho
  split at ho
  ·rename_i i hi
   split at ho
   ·rename_i z hz
    split at ho
    ·rename_i h1
     injection ho with ho
     subst ho
     exact QW hop hi hz h1 hm
    ·cases ho
   ·cases ho
  ·cases ho
 | build t parts =>
  simp only [BU] at ho
  split at ho
  ·rename_i i pl hi hp
   split at ho
   ·rename_i z hz
    split at ho
    ·rename_i h1
     obtain ⟨qs, hq, rfl⟩ := Option.map_eq_some_iff.1 ho
     exact QU hop hi hz h1 hp hq hm (fun x0 y hm1 he => hx x0 y (It hq x0 y hm1 he) he)
    ·cases ho
   ·cases ho
  ·cases ho
 | buildSlice t n parts =>
  simp only [BU] at ho
  split at ho
  ·rename_i e ht
   split at ho
   ·rename_i i hi
    split at ho
    ·rename_i z hz
     split at ho
     ·rename_i hc
      obtain ⟨c1, c3, c4⟩ := hc
      obtain ⟨qs, hq, rfl⟩ := Option.map_eq_some_iff.1 ho
      exact QQ false hop ht (by unfold szT; rw [hi]; rfl) hi hz c1 c3 c4 hq hm (fun x0 y hm1 he => hx x0 y (IW hq x0 y hm1 he) he)
     ·cases ho
    ·cases ho
   ·cases ho
  ·cases ho
 | load t x =>
  simp only [BU] at ho
  split at ho
  ·rename_i ag k y h1 h2 h3
   injection ho with ho
   subst ho
   exact Vp hop h1 h2 hm (hx x y (List.mem_cons_self ..) h3)
  ·cases ho
 | store t x y =>
  simp only [BU] at ho
  split at ho
  ·rename_i k x' y' h1 h2 h3
   injection ho with ho
   subst ho
   exact QP hop h1 hm (hx x x' (by simp [AOp.args]) h2) (hx y y' (by simp [AOp.args]) h3)
  ·cases ho
 | nilCheck x =>
  obtain ⟨y, hy, rfl⟩ := Option.map_eq_some_iff.1 ho
  exact Vl hop hm (hx x y (List.mem_cons_self ..) hy)
 | binOp op t x y t2 =>
  simp only [BU] at ho
  split at ho
  ·rename_i x' y' h1 h2
   split at ho
   ·rename_i hb
    injection ho with ho
    subst ho
    exact Vx hop hb hm (hx x x' (by simp [AOp.args]) h1) (hx y y' (by simp [AOp.args]) h2)
   ·rename_i fs0 hst
    split at ho
    ·rename_i ks hf
     split at ho
     ·rename_i hgt
      injection ho with ho
      subst ho
      exact Nd hop hf (by simp [Ex, hst]) hgt hm (hx x x' (by simp [AOp.args]) h1) (hx y y' (by simp [AOp.args]) h2)
     ·cases ho
    ·cases ho
   ·rename_i e0 hst
    injection ho with ho
    subst ho
    exact Vw hop hst hm (hx x x' (by simp [AOp.args]) h1) (hx y y' (by simp [AOp.args]) h2)
   ·rename_i e0 hst
    injection ho with ho
    subst ho
    exact Nc hop (by simp only [Bool.false_eq_true, if_false]; exact ⟨_, hst⟩) hm (hx x x' (by simp [AOp.args]) h1) (hx y y' (by simp [AOp.args]) h2)
   ·rename_i k0 e0 hst
    injection ho with ho
    subst ho
    exact Nc hop (by simp only [if_true]; exact ⟨_, _, hst⟩) hm (hx x x' (by simp [AOp.args]) h1) (hx y y' (by simp [AOp.args]) h2)
   ·rename_i n0 e0 hst
    split at ho
    ·rename_i ks hf
     split at ho
     ·rename_i hgt
      injection ho with ho
      subst ho
      exact Nd hop hf (by simp [Ex, hst]) hgt hm (hx x x' (by simp [AOp.args]) h1) (hx y y' (by simp [AOp.args]) h2)
     ·cases ho
    ·cases ho
   ·injection ho with ho
    subst ho
    exact QV hop hm (hx x x' (by simp [AOp.args]) h1) (hx y y' (by simp [AOp.args]) h2)
  ·cases ho
 | unOp op t x =>
  obtain ⟨y, hy, rfl⟩ := Option.map_eq_some_iff.1 ho
  exact Ac8 hop hm (hx x y (List.mem_cons_self ..) hy)
 | makeInterface t x =>
  simp only [BU] at ho
  split at ho
  ·rename_i e0 hst
   obtain ⟨y, hy, rfl⟩ := Option.map_eq_some_iff.1 ho
   exact ZM hop hst hm (hx x y (List.mem_cons_self ..) hy)
  ·cases ho
 | fieldAddr t x k =>
  simp only [BU] at ho
  split at ho
  ·rename_i off y h1 h2
   injection ho with ho
   subst ho
   exact ZP hop h1 hm (hx x y (List.mem_cons_self ..) h2)
  ·cases ho
 | field t x k =>
  simp only [BU] at ho
  split at ho
  ·rename_i fs y h1 h2
   split at ho
   ·rename_i f h3
    split at ho
    ·rename_i ag n h4 h5
     injection ho with ho
     subst ho
     exact Vs hop h1 h3 rfl h4 h5 hm (hx x y (List.mem_cons_self ..) h2)
    ·cases ho
   ·cases ho
  ·cases ho
 | indexAddr t x i =>
  simp only [BU] at ho
  split at ho
  ·rename_i e ht
   split at ho
   ·rename_i sz x' i' h1 h2 h3
    injection ho with ho
    subst ho
    exact ZO hop ht h1 hm (hx x x' (by simp [AOp.args]) h2) (hx i i' (by simp [AOp.args]) h3)
   ·cases ho
  ·rename_i n e ht
   split at ho
   ·rename_i sz x' i' h1 h2 h3
    injection ho with ho
    subst ho
    exact Vr hop ht h1 hm (hx x x' (by simp [AOp.args]) h2) (hx i i' (by simp [AOp.args]) h3)
   ·cases ho
  ·cases ho
 | index t x i =>
  simp only [BU] at ho
  split at ho
  ·rename_i x' i' h1 h2 h3
   injection ho with ho
   subst ho
   exact Vi hop h1 hm (hx x x' (by simp [AOp.args]) h2) (hx i i' (by simp [AOp.args]) h3)
  ·rename_i n e x' i' h1 h2 h3
   split at ho
   ·rename_i ag sz h4 h5
    injection ho with ho
    subst ho
    exact Vq hop h1 h4 h5 hm (hx x x' (by simp [AOp.args]) h2) (hx i i' (by simp [AOp.args]) h3)
   ·cases ho
  ·cases ho
 | extract x k =>
  obtain ⟨y, hy, rfl⟩ := Option.map_eq_some_iff.1 ho
  exact ZQ hop hm (hx x y (List.mem_cons_self ..) hy)
 | call c =>
  obtain ⟨callee, cargs, cts⟩ := c
  simp only [BU, Fz] at ho
  split at ho
  ·split at ho
   ·rename_i x t h1 h2
    split at ho
    ·rename_i ht
     obtain ⟨y, hy, rfl⟩ := Option.map_eq_some_iff.1 ho
     have e2 : cts = #[t] := by rw [← Array.toArray_toList (xs := cts), h2]
     subst e2
     exact Vh hop (by rw [← Array.toArray_toList (xs := cargs), h1]) ht hm (hx x y (List.mem_cons_self ..) hy)
    ·rename_i e ht
     obtain ⟨y, hy, rfl⟩ := Option.map_eq_some_iff.1 ho
     have e2 : cts = #[t] := by rw [← Array.toArray_toList (xs := cts), h2]
     subst e2
     exact ZN hop (by rw [← Array.toArray_toList (xs := cargs), h1]) ht hm (hx x y (List.mem_cons_self ..) hy)
    ·rename_i kt et ht
     obtain ⟨y, hy, rfl⟩ := Option.map_eq_some_iff.1 ho
     have e2 : cts = #[t] := by rw [← Array.toArray_toList (xs := cts), h2]
     subst e2
     exact Vm hop (by rw [← Array.toArray_toList (xs := cargs), h1]) ht hm (hx x y (List.mem_cons_self ..) hy)
    ·cases ho
   ·cases ho
  ·split at ho
   ·rename_i x y t t' h1 h2
    split at ho
    ·rename_i htt
     subst htt
     split at ho
     ·rename_i e ht
      split at ho
      ·rename_i i x' y' h3 h4 h5
       split at ho
       ·rename_i z hz
        split at ho
        ·rename_i hc
         injection ho with ho
         subst ho
         have e2 : cts = #[t, t] := by rw [← Array.toArray_toList (xs := cts), h2]
         subst e2
         exact ZV hop (by rw [← Array.toArray_toList (xs := cargs), h1]) ht h3 hz rfl rfl hc.2 hc.1 hm (hx x x' (by simp [AOp.args]) h4) (hx y y' (by simp [AOp.args]) h5)
        ·cases ho
       ·cases ho
      ·cases ho
     ·cases ho
    ·cases ho
   ·cases ho
  ·split at ho
   ·rename_i x t h1 h2
    split at ho
    ·rename_i e ht
     split at ho
     ·rename_i i x' h3 h4
      split at ho
      ·rename_i z hz
       split at ho
       ·rename_i hc
        injection ho with ho
        subst ho
        have e2 : cts = #[t] := by rw [← Array.toArray_toList (xs := cts), h2]
        subst e2
        exact ZS hop (by rw [← Array.toArray_toList (xs := cargs), h1]) ht h3 hz hc.2.1 hc.1 hc.2.2 hm (hx x x' (by simp [AOp.args]) h4)
       ·cases ho
      ·cases ho
     ·cases ho
    ·cases ho
   ·cases ho
  ·split at ho
   ·rename_i x y t t' h1 h2
    split at ho
    ·rename_i htt
     subst htt
     split at ho
     ·rename_i e ht
      split at ho
      ·rename_i k x' y' hk h4 h5
       injection ho with ho
       subst ho
       have e2 : cts = #[t, t] := by rw [← Array.toArray_toList (xs := cts), h2]
       subst e2
       exact ZR hop (by rw [← Array.toArray_toList (xs := cargs), h1]) ht hk hm (hx x x' (by simp [AOp.args]) h4) (hx y y' (by simp [AOp.args]) h5)
      ·cases ho
     ·cases ho
    ·cases ho
   ·cases ho
  ·split at ho
   ·rename_i x y h1
    split at ho
    ·rename_i x' y' h3 h4
     injection ho with ho
     subst ho
     exact Ada hop (by rw [← Array.toArray_toList (xs := cargs), h1]) hm (hx x x' (by simp [AOp.args]) h3) (hx y y' (by simp [AOp.args]) h4)
    ·cases ho
   ·cases ho
  ·split at ho
   ·rename_i x y h1
    split at ho
    ·rename_i x' y' h3 h4
     injection ho with ho
     subst ho
     exact Ac9 hop (by rw [← Array.toArray_toList (xs := cargs), h1]) hm (hx x x' (by simp [AOp.args]) h3) (hx y y' (by simp [AOp.args]) h4)
    ·cases ho
   ·cases ho
  ·rename_i t
   obtain ⟨qs, hq, rfl⟩ := Option.map_eq_some_iff.1 ho
   refine QT hop hq hG hm (hx (.tmp t) (.t t) (by simp [AOp.args]) rfl) (fun i y hi => ?_)
   obtain ⟨x0, hx0, he⟩ := FF hq i y hi
   have := hx x0 y (by simp only [AOp.args]; exact List.mem_cons_of_mem _ (List.mem_of_getElem? hi)) he
   rw [Array.getElem?_toList] at hx0
   simpa [hx0] using this
  ·rename_i f
   split at ho
   ·rename_i fn hf
    split at ho
    ·rename_i hc
     obtain ⟨qs, hq, rfl⟩ := Option.map_eq_some_iff.1 ho
     refine Vu hop hf hc.1 hc.2 hq (hG f) hm (fun i y hi => ?_)
     obtain ⟨x0, hx0, he⟩ := FF hq i y hi
     have := hx x0 y (List.mem_of_getElem? hi) he
     rw [Array.getElem?_toList] at hx0
     simpa [hx0] using this
    ·cases ho
   ·cases ho
  ·cases ho
 | makeFunc fn first caps =>
  cases fn with
  | func f =>
   simp only [BU] at ho
   split at ho
   ·rename_i h0
    obtain ⟨qs, hq, rfl⟩ := Option.map_eq_some_iff.1 ho
    have e1 : first = #[] := Array.eq_empty_of_size_eq_zero h0
    subst e1
    refine Vn hop hq hm (fun i y hi => ?_)
    obtain ⟨x0, hx0, he⟩ := FF hq i y hi
    have := hx x0 y (List.mem_of_getElem? hi) he
    rw [Array.getElem?_toList] at hx0
    simpa [hx0] using this
   ·cases ho
  | _ => cases ho
 | makeMap t r =>
  cases r with
  | none => simp only [BU, Option.some.injEq] at ho; subst ho; exact QR hop hm
  | some _ => cases ho
 | lookup t m k ok =>
  simp only [BU] at ho
  split at ho
  ·rename_i kt et ht
   split at ho
   ·rename_i i m' k' ks h1 h2 h3 h4
    split at ho
    ·rename_i z hz
     injection ho with ho
     subst ho
     exact Vo hop ht (Hx h4) h1 hz hm (hx m m' (by simp [AOp.args]) h2) (hx k k' (by simp [AOp.args]) h3)
    ·cases ho
   ·cases ho
  ·cases ho
 | mapUpdate t m k x =>
  simp only [BU] at ho
  split at ho
  ·rename_i kt et ht
   split at ho
   ·rename_i m' k' x' ks h1 h2 h3 h4
    injection ho with ho
    subst ho
    exact Nb (.inl hop) ht (Hx h4) hm (hx m m' (by simp [AOp.args]) h1) (hx k k' (by simp [AOp.args]) h2) (hx x x' (by simp [AOp.args]) h3)
   ·cases ho
  ·cases ho
 | insert t m k x =>
  simp only [BU] at ho
  split at ho
  ·rename_i kt et ht
   split at ho
   ·rename_i m' k' x' ks h1 h2 h3 h4
    injection ho with ho
    subst ho
    exact Nb (.inr hop) ht (Hx h4) hm (hx m m' (by simp [AOp.args]) h1) (hx k k' (by simp [AOp.args]) h2) (hx x x' (by simp [AOp.args]) h3)
   ·cases ho
  ·cases ho
 | makeSlice t n c =>
  simp only [BU] at ho
  split at ho
  ·rename_i e ht
   split at ho
   ·rename_i i n' c' h1 h2 h3
    split at ho
    ·rename_i z hz
     split at ho
     ·rename_i hc
      obtain ⟨c1, c2, c3⟩ := hc
      injection ho with ho
      subst ho
      exact ZL hop ht h1 hz rfl rfl c2 c1 c3 hm (hx n n' (by simp [AOp.args]) h2) (hx c c' (by simp [AOp.args]) h3)
     ·cases ho
    ·cases ho
   ·cases ho
  ·cases ho
 | slice t x lo hi mx =>
  cases mx with
  | some mx =>
   simp only [BU] at ho
   split at ho
   ·rename_i e x' lo' hi' mx' ht h2 h3 h4 h5
    split at ho
    ·rename_i sz hs
     injection ho with ho
     subst ho
     exact QO hop ht hs hm (hx x x' (by simp [AOp.args]) h2) (trEo_rel h3 fun x0 z hz he => hx x0 z (by simp [AOp.args] at hz ⊢; exact .inr (.inl hz)) he) (trEo_rel h4 fun x0 z hz he => hx x0 z (by simp [AOp.args] at hz ⊢; exact .inr (.inr (.inl hz))) he) (hx mx mx' (by simp [AOp.args]) h5)
    ·cases ho
   ·cases ho
  | none =>
   simp only [BU] at ho
   split at ho
   ·rename_i x' lo' hi' ht h2 h3 h4
    injection ho with ho
    subst ho
    exact Vg hop ht hm (hx x x' (by simp [AOp.args]) h2) (trEo_rel h3 fun x0 z hz he => hx x0 z (by simp [AOp.args] at hz ⊢; exact .inr (.inl hz)) he) (trEo_rel h4 fun x0 z hz he => hx x0 z (by simp [AOp.args] at hz ⊢; exact .inr (.inr hz)) he)
   ·rename_i e x' lo' hi' ht h2 h3 h4
    split at ho
    ·rename_i sz hs
     injection ho with ho
     subst ho
     exact QO hop ht hs hm (hx x x' (by simp [AOp.args]) h2) (trEo_rel h3 fun x0 z hz he => hx x0 z (by simp [AOp.args] at hz ⊢; exact .inr (.inl hz)) he) (trEo_rel h4 fun x0 z hz he => hx x0 z (by simp [AOp.args] at hz ⊢; exact .inr (.inr hz)) he) trivial
    ·cases ho
   ·cases ho
 | convert src dst x =>
  simp only [BU] at ho
  split at ho
  ·rename_i k0 k h1 h2
   obtain ⟨y, hy, rfl⟩ := Option.map_eq_some_iff.1 ho
   exact Vt hop h1 h2 hm (hx x y (List.mem_cons_self ..) hy)
  ·rename_i e h1 h2
   split at ho
   ·rename_i h3
    obtain ⟨y, hy, rfl⟩ := Option.map_eq_some_iff.1 ho
    exact ZJ hop h1 h2 h3 hm (hx x y (List.mem_cons_self ..) hy)
   ·cases ho
  ·rename_i e h1 h2
   split at ho
   ·rename_i h3
    obtain ⟨y, hy, rfl⟩ := Option.map_eq_some_iff.1 ho
    exact ZU hop h1 h2 h3 hm (hx x y (List.mem_cons_self ..) hy)
   ·cases ho
  ·cases ho
 | _ => cases ho
end
end Go.Proofs.YtjkclhbckfkeeaaGreatDoor
