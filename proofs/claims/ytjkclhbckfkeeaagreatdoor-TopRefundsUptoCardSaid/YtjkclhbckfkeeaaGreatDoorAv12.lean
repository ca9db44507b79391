import Derived.Test.YtjkclhbckfkeeaaGreatDoorAv11e
set_option linter.unusedSimpArgs false
set_option linter.unusedVariables false
set_option linter.deprecated false
namespace Go.Proofs.YtjkclhbckfkeeaaGreatDoor
open Go Go.RowKit
def Nn (P : Program) (kt : TypeId) : Option Nat :=
 match P.underlying kt with
 | some .string => some 0
 | some (.int .i64) => some 1
 | some (.array 2 e) => match P.underlying e, szT P e with
  | some .string, some 1 => some 2
  | _, _ => none
 | some (.struct fs) => match EC P 8 kt with
  | some [.s, .i .i64, .i .i64, .s] => if fs.toList.all (fun f => (match P.underlying f.type with | some .string => true | some (.int .i64) => true | _ => false) && decide (f.offset < 4)) = true then some 3 else none
  | _ => none
 | _ => none
theorem Td {P : Program} {kt : TypeId} {ks : Nat} (h : Nn P kt = some ks) : Jz P kt ks := by
 unfold Nn at h
 split at h
 ·rename_i e; injection h with h; subst h; exact e
 ·rename_i e; injection h with h; subst h; exact e
 ·rename_i e hu
  split at h
  ·rename_i e2 e3; injection h with h; subst h; exact ⟨e, hu, e2, e3⟩
  ·cases h
 ·rename_i fs hu
  split at h
  ·rename_i hf
   split at h
   ·rename_i hall
    injection h with h; subst h
    refine ⟨fs, hu, hf, fun f hm => ?_⟩
    have := Ch.1 hall f hm
    simp only [Bx, decide_eq_true_eq] at this
    obtain ⟨a1, a2⟩ := this
    refine ⟨?_, a2⟩
    split at a1
    ·rename_i h1; exact .inl h1
    ·rename_i h1; exact .inr h1
    ·cases a1
   ·cases h
  ·cases h
 ·cases h
def trEo : Option Operand -> Option (Option AE)
 | none => some none
 | some x => (trE x).map some
theorem trEo_rel {M : Nat -> Prop} {w : World} {ι : Nat -> Value} {h : Nat -> Option Ob} {E : AE -> V} {a : Act} {x : Option Operand} {y : Option AE} (ht : trEo x = some y) (hx : ∀ x0 z, z ∈ y.toList -> trE x0 = some z -> Rel M w ι h (E z) (a.eval x0)) :
  match y.map E, x.map a.eval with | none, none => True | some u, some cv => Rel M w ι h u cv | _, _ => False := by
 cases x with
 | none => simp only [trEo, BS] at ht; subst ht; trivial
 | some x0 =>
  obtain ⟨z, hz, rfl⟩ := AY.1 ht
  exact hx x0 z (by simp) hz
def II (P : Program) (c : Call) : Option AOp :=
 match c.callee with
 | .builtin .len => match c.args.toList, c.argTypes.toList with
  | [x], [t] => match P.underlying t with
   | some .string => (trE x).map .slen
   | some (.slice _) => (trE x).map .len
   | _ => none
  | _, _ => none
 | .builtin .append => match c.args.toList, c.argTypes.toList with
  | [x, y], [t, t'] => if t = t' then match P.underlying t with
   | some (.slice e) => match P.info? e, trE x, trE y with
    | some i, some x', some y' => match i.zero with
     | some z => if 0 < i.size /\ z.cells.size = i.size then some (.app e i.size i.bytes x' y') else none
     | none => none
    | _, _, _ => none
   | _ => none else none
  | _, _ => none
 | .builtin .min => match c.args.toList with
  | [x, y] => match trE x, trE y with
   | some x', some y' => some (.mn x' y')
   | _, _ => none
  | _ => none
 | .builtin .max => match c.args.toList with
  | [x, y] => match trE x, trE y with
   | some x', some y' => some (.mx x' y')
   | _, _ => none
  | _ => none
 | .value (.tmp t) => (c.args.toList.mapM trE).map (.callv (.t t))
 | .value (.func f) => match P.funcs[f]? with
  | some fn => if fn.body.isNone = false /\ (fn.name == "runtime.NumGoroutine") = false then (c.args.toList.mapM trE).map (.call f) else none
  | none => none
 | _ => none
def AD (P : Program) : Op -> Option AOp
 | .move x => (trE x).map .mv
 | .assign x => (trE x).map .mv
 | .pick c a b => match trE c, trE a, trE b with
  | some c, some a, some b => some (.pick c a b)
  | _, _, _ => none
 | .box t x => (trE x).map (.box t)
 | .alloc t => match P.info? t with
  | some i => match i.zero with
   | some z => if z.cells.toList.all Value.oneCell' = true then some (.alloc t (z.cells.toList.map De)) else none
   | none => none
  | none => none
 | .build t parts => match P.info? t, TE P t with
  | some i, some pl => match i.zero with
   | some z => if z.cells.toList.all Value.oneCell' = true then (HH pl z.cells.size parts.toList).map (.build (z.cells.toList.map De)) else none
   | none => none
  | _, _ => none
 | .buildSlice t n parts => match P.underlying t with
  | some (.slice e) => match P.info? e with
   | some i => match i.zero with
    | some _ => if 0 < i.size /\ n * i.size <= 16777216 /\ parts.size = n then (HL 0 parts.toList).map (.slc e i.size false) else none
    | none => none
   | none => none
  | _ => none
 | .load t x => match BM P t, szT P t, trE x with
  | some ag, some k, some y => some (.load (if ag then some k else none) y)
  | _, _, _ => none
 | .store t x y => match szT P t, trE x, trE y with
  | some k, some x', some y' => some (.store k x' y')
  | _, _, _ => none
 | .nilCheck x => (trE x).map .nchk
 | .makeInterface t x => match P.underlying t with
  | some (.slice _) => (trE x).map (.mki t)
  | _ => none
 | .binOp op t x y _ => match trE x, trE y with
  | some x', some y' => match P.underlying t with
   | some .bool => some (.binb op x' y')
   | some (.struct _) => match EC P 8 t with
    | some ks => if P.eqGuardType P.depth t = false then some (.bina ks op x' y') else none
    | none => none
   | some (.slice _) => some (.binn op x' y')
   | some (.array _ _) => match EC P 8 t with
    | some ks => if P.eqGuardType P.depth t = false then some (.bina ks op x' y') else none
    | none => none
   | _ => some (.bin op x' y')
  | _, _ => none
 | .unOp op _ x => (trE x).map (.un op)
 | .fieldAddr t x k => match PW P t k, trE x with
  | some off, some y => some (.fld off y)
  | _, _ => none
 | .indexAddr t x i => match P.underlying t with
  | some (.slice e) => match szT P e, trE x, trE i with
   | some sz, some x', some i' => some (.idx sz x' i')
   | _, _, _ => none
  | some (.array n e) => match szT P e, trE x, trE i with
   | some sz, some x', some i' => some (.idxa sz n x' i')
   | _, _, _ => none
  | _ => none
 | .index t x i => match P.underlying t, trE x, trE i with
  | some .string, some x', some i' => some (.sidx x' i')
  | some (.array n e), some x', some i' => match BM P e, szT P e with
   | some ag, some sz => some (.idxv ag sz n x' i')
   | _, _ => none
  | _, _, _ => none
 | .extract x k => (trE x).map (.ext k)
 | .call c => II P c
 | .makeFunc (.func f) first caps => if first.size = 0 then (caps.toList.mapM trE).map (.mkfn f) else none
 | .makeMap _ none => some .mkmap
 | .lookup t m k ok => match P.underlying t with
  | some (.map kt et) => match P.info? et, trE m, trE k, Nn P kt with
   | some i, some m', some k', some ks => match i.zero with
    | some z => some (.look ks ok (IA z) m' k')
    | none => none
   | _, _, _, _ => none
  | _ => none
 | .mapUpdate t m k x => match P.underlying t with
  | some (.map kt _) => match trE m, trE k, trE x, Nn P kt with
   | some m', some k', some x', some ks => some (.mset ks m' k' x')
   | _, _, _, _ => none
  | _ => none
 | .insert t m k x => match P.underlying t with
  | some (.map kt _) => match trE m, trE k, trE x, Nn P kt with
   | some m', some k', some x', some ks => some (.mset ks m' k' x')
   | _, _, _, _ => none
  | _ => none
 | .makeSlice t n c => match P.underlying t with
  | some (.slice e) => match P.info? e, trE n, trE c with
   | some i, some n', some c' => match i.zero with
    | some z => if 0 < i.size /\ z.cells.size = i.size /\ z.cells.toList.all Value.oneCell' = true then some (.mks e i.size i.bytes (z.cells.toList.map De) n' c') else none
    | none => none
   | _, _, _ => none
  | _ => none
 | .slice t x lo hi none => match P.underlying t, trE x, trEo lo, trEo hi with
  | some .string, some x', some lo', some hi' => some (.ssub lo' hi' x')
  | some (.slice e), some x', some lo', some hi' => match szT P e with
   | some sz => some (.sub sz lo' hi' none x')
   | none => none
  | _, _, _, _ => none
 | .slice t x lo hi (some mx) => match P.underlying t, trE x, trEo lo, trEo hi, trE mx with
  | some (.slice e), some x', some lo', some hi', some mx' => match szT P e with
   | some sz => some (.sub sz lo' hi' (some mx') x')
   | none => none
  | _, _, _, _, _ => none
 | .convert src dst x => match P.underlying src, P.underlying dst with
  | some (.int _), some (.int k) => (trE x).map (.conv k)
  | some (.slice e), some .string => match P.underlying e with
   | some (.int .u8) => (trE x).map .b2s
   | _ => none
  | _, _ => none
 | _ => none
theorem Abq {pl : List (Nat × Nat)} {n : Nat} : ∀ {ps : List (Nat × Operand)} {qs : List (Nat × Nat × AE)}, HH pl n ps = some qs -> ∀ x0 y, x0 ∈ ps.map (·.2) -> trE x0 = some y -> y ∈ qs.map (·.2.2)
 | [], _, _, x0, _, hx, _ => by simp at hx
 | (i, x) :: r, qs, hq, x0, y, hx, he => by
  unfold HH at hq
  split at hq
  ·rename_i off sz y' r' h1 h2 h3
   split at hq
   ·injection hq with hq
    subst hq
    simp only [BE, AN] at hx ⊢
    rcases hx with rfl | hx
    ·rw [he] at h2; injection h2 with h2; exact .inl h2
    ·exact .inr (Abq h3 x0 y hx he)
   ·cases hq
  ·cases hq
theorem Ug : ∀ {ps : List (Nat × Operand)} {k : Nat} {qs : List AE}, HL k ps = some qs -> ∀ x0 y, x0 ∈ ps.map (·.2) -> trE x0 = some y -> y ∈ qs
 | [], _, _, _, x0, _, hx, _ => by simp at hx
 | (i, x) :: r, k, qs, hq, x0, y, hx, he => by
  unfold HL at hq
  split at hq
  ·split at hq
   ·rename_i y' r' h2 h3
    injection hq with hq
    subst hq
    simp only [BE, AN] at hx ⊢
    rcases hx with rfl | hx
    ·rw [he] at h2; injection h2 with h2; exact .inl h2
    ·exact .inr (Ug h3 x0 y hx he)
   ·cases hq
  ·cases hq
theorem NM : ∀ {l : List Operand} {r : List AE}, l.mapM trE = some r -> ∀ (i : Nat) (y : AE), r[i]? = some y -> ∃ x0, l[i]? = some x0 /\ trE x0 = some y
 | [], r, hr, i, y, hi => by simp at hr; subst hr; simp at hi
 | x :: l, r, hr, i, y, hi => by
  rw [Ix] at hr
  cases h1 : trE x with
  | none => rw [h1] at hr; cases hr
  | some y' =>
   rw [h1] at hr
   cases h2 : l.mapM trE with
   | none => rw [h2] at hr; cases hr
   | some r' =>
    rw [h2] at hr
    have e : y' :: r' = r := Ha hr
    subst e
    cases i with
    | zero => simp only [Fa, BS] at hi; subst hi; exact ⟨x, rfl, h1⟩
    | succ i => rw [DM] at hi ⊢; exact NM h2 i y hi
section
variable {P : Program} {U : Tbl} {C : Ctx U} {h : Nat -> Option Ob} {w : World} {M : Nat -> Prop} {ι : Nat -> Value} {o : Oper} {a : Act} {E : AE -> V} {G : Tab} {d : Nat}
theorem sim {ao : AOp} (ho : AD P o.op = some ao) (hG : ∀ f, Aj P U f (G f)) (hm : Mem C h w M ι) (hx : ∀ x0 y, y ∈ ao.args -> trE x0 = some y -> Rel M w ι h (E y) (a.eval x0)) : Sim P G C h w M ι o a E d ao := by
 generalize hop : o.op = op at ho
 cases op with
 | move x =>
  obtain ⟨y, hy, rfl⟩ := AY.1 ho
  exact AcJ (.inl hop) hm (hx x y (AH ..) hy)
 | assign x =>
  obtain ⟨y, hy, rfl⟩ := AY.1 ho
  exact AcJ (.inr hop) hm (hx x y (AH ..) hy)
 | pick c x y =>
  simp only [AD] at ho
  split at ho
  ·rename_i c' x' y' h1 h2 h3
   injection ho with ho
   subst ho
   exact Akh hop hm (hx c c' (by simp [AOp.args]) h1) (hx x x' (by simp [AOp.args]) h2) (hx y y' (by simp [AOp.args]) h3)
  ·cases ho
 | box t x =>
  obtain ⟨y, hy, rfl⟩ := AY.1 ho
  exact AjS hop hm (hx x y (AH ..) hy)
 | alloc t =>
  simp only [AD] at ho
  split at ho
  ·rename_i i hi
   split at ho
   ·rename_i z hz
    split at ho
    ·rename_i h1
     injection ho with ho
     subst ho
     exact AjM hop hi hz h1 hm
    ·cases ho
   ·cases ho
  ·cases ho
 | build t parts =>
  simp only [AD] at ho
  split at ho
  ·rename_i i pl hi hp
   split at ho
   ·rename_i z hz
    split at ho
    ·rename_i h1
     obtain ⟨qs, hq, rfl⟩ := AY.1 ho
     exact AjT hop hi hz h1 hp hq hm (fun x0 y hm1 he => hx x0 y (Abq hq x0 y hm1 he) he)
    ·cases ho
   ·cases ho
  ·cases ho
 | buildSlice t n parts =>
  simp only [AD] at ho
  split at ho
  ·rename_i e ht
   split at ho
   ·rename_i i hi
    split at ho
    ·rename_i z hz
     split at ho
     ·rename_i hc
      obtain ⟨c1, c3, c4⟩ := hc
      obtain ⟨qs, hq, rfl⟩ := AY.1 ho
      exact AcK false hop ht (by unfold szT; rw [hi]; rfl) hi hz c1 c3 c4 hq hm (fun x0 y hm1 he => hx x0 y (Ug hq x0 y hm1 he) he)
     ·cases ho
    ·cases ho
   ·cases ho
  ·cases ho
 | load t x =>
  simp only [AD] at ho
  split at ho
  ·rename_i ag k y h1 h2 h3
   injection ho with ho
   subst ho
   exact Aj6 hop h1 h2 hm (hx x y (AH ..) h3)
  ·cases ho
 | store t x y =>
  simp only [AD] at ho
  split at ho
  ·rename_i k x' y' h1 h2 h3
   injection ho with ho
   subst ho
   exact Akl hop h1 hm (hx x x' (by simp [AOp.args]) h2) (hx y y' (by simp [AOp.args]) h3)
  ·cases ho
 | nilCheck x =>
  obtain ⟨y, hy, rfl⟩ := AY.1 ho
  exact Akf hop hm (hx x y (AH ..) hy)
 | binOp op t x y t2 =>
  simp only [AD] at ho
  split at ho
  ·rename_i x' y' h1 h2
   split at ho
   ·rename_i hb
    injection ho with ho
    subst ho
    exact AjP hop hb hm (hx x x' (by simp [AOp.args]) h1) (hx y y' (by simp [AOp.args]) h2)
   ·rename_i fs0 hst
    split at ho
    ·rename_i ks hf
     split at ho
     ·rename_i hgt
      injection ho with ho
      subst ho
      exact AcH hop hf (by simp [BM, hst]) hgt hm (hx x x' (by simp [AOp.args]) h1) (hx y y' (by simp [AOp.args]) h2)
     ·cases ho
    ·cases ho
   ·rename_i e0 hst
    injection ho with ho
    subst ho
    exact AjQ hop hst hm (hx x x' (by simp [AOp.args]) h1) (hx y y' (by simp [AOp.args]) h2)
   ·rename_i n0 e0 hst
    split at ho
    ·rename_i ks hf
     split at ho
     ·rename_i hgt
      injection ho with ho
      subst ho
      exact AcH hop hf (by simp [BM, hst]) hgt hm (hx x x' (by simp [AOp.args]) h1) (hx y y' (by simp [AOp.args]) h2)
     ·cases ho
    ·cases ho
   ·injection ho with ho
    subst ho
    exact AcG hop hm (hx x x' (by simp [AOp.args]) h1) (hx y y' (by simp [AOp.args]) h2)
  ·cases ho
 | unOp op t x =>
  obtain ⟨y, hy, rfl⟩ := AY.1 ho
  exact Akm hop hm (hx x y (AH ..) hy)
 | makeInterface t x =>
  simp only [AD] at ho
  split at ho
  ·rename_i e0 hst
   obtain ⟨y, hy, rfl⟩ := AY.1 ho
   exact Aj9 hop hst hm (hx x y (AH ..) hy)
  ·cases ho
 | fieldAddr t x k =>
  simp only [AD] at ho
  split at ho
  ·rename_i off y h1 h2
   injection ho with ho
   subst ho
   exact Aj1 hop h1 hm (hx x y (AH ..) h2)
  ·cases ho
 | indexAddr t x i =>
  simp only [AD] at ho
  split at ho
  ·rename_i e ht
   split at ho
   ·rename_i sz x' i' h1 h2 h3
    injection ho with ho
    subst ho
    exact Aj2 hop ht h1 hm (hx x x' (by simp [AOp.args]) h2) (hx i i' (by simp [AOp.args]) h3)
   ·cases ho
  ·rename_i n e ht
   split at ho
   ·rename_i sz x' i' h1 h2 h3
    injection ho with ho
    subst ho
    exact Aj3 hop ht h1 hm (hx x x' (by simp [AOp.args]) h2) (hx i i' (by simp [AOp.args]) h3)
   ·cases ho
  ·cases ho
 | index t x i =>
  simp only [AD] at ho
  split at ho
  ·rename_i x' i' h1 h2 h3
   injection ho with ho
   subst ho
   exact Aki hop h1 hm (hx x x' (by simp [AOp.args]) h2) (hx i i' (by simp [AOp.args]) h3)
  ·rename_i n e x' i' h1 h2 h3
   split at ho
   ·rename_i ag sz h4 h5
    injection ho with ho
    subst ho
    exact Aj4 hop h1 h4 h5 hm (hx x x' (by simp [AOp.args]) h2) (hx i i' (by simp [AOp.args]) h3)
   ·cases ho
  ·cases ho
 | extract x k =>
  obtain ⟨y, hy, rfl⟩ := AY.1 ho
  exact Aj0 hop hm (hx x y (AH ..) hy)
 | call c =>
  obtain ⟨callee, cargs, cts⟩ := c
  simp only [AD, II] at ho
  split at ho
  ·split at ho
   ·rename_i x t h1 h2
    split at ho
    ·rename_i ht
     obtain ⟨y, hy, rfl⟩ := AY.1 ho
     have e2 : cts = #[t] := by rw [<- Jk (xs := cts), h2]
     subst e2
     exact Akj hop (by rw [<- Jk (xs := cargs), h1]) ht hm (hx x y (AH ..) hy)
    ·rename_i e ht
     obtain ⟨y, hy, rfl⟩ := AY.1 ho
     have e2 : cts = #[t] := by rw [<- Jk (xs := cts), h2]
     subst e2
     exact Aj5 hop (by rw [<- Jk (xs := cargs), h1]) ht hm (hx x y (AH ..) hy)
    ·cases ho
   ·cases ho
  ·split at ho
   ·rename_i x y t t' h1 h2
    split at ho
    ·rename_i htt
     subst htt
     split at ho
     ·rename_i e ht
      split at ho
      ·rename_i i x' y' h3 h4 h5
       split at ho
       ·rename_i z hz
        split at ho
        ·rename_i hc
         injection ho with ho
         subst ho
         have e2 : cts = #[t, t] := by rw [<- Jk (xs := cts), h2]
         subst e2
         exact AjN hop (by rw [<- Jk (xs := cargs), h1]) ht h3 hz rfl rfl hc.2 hc.1 hm (hx x x' (by simp [AOp.args]) h4) (hx y y' (by simp [AOp.args]) h5)
        ·cases ho
       ·cases ho
      ·cases ho
     ·cases ho
    ·cases ho
   ·cases ho
  ·split at ho
   ·rename_i x y h1
    split at ho
    ·rename_i x' y' h3 h4
     injection ho with ho
     subst ho
     exact Akd hop (by rw [<- Jk (xs := cargs), h1]) hm (hx x x' (by simp [AOp.args]) h3) (hx y y' (by simp [AOp.args]) h4)
    ·cases ho
   ·cases ho
  ·split at ho
   ·rename_i x y h1
    split at ho
    ·rename_i x' y' h3 h4
     injection ho with ho
     subst ho
     exact Ake hop (by rw [<- Jk (xs := cargs), h1]) hm (hx x x' (by simp [AOp.args]) h3) (hx y y' (by simp [AOp.args]) h4)
    ·cases ho
   ·cases ho
  ·rename_i t
   obtain ⟨qs, hq, rfl⟩ := AY.1 ho
   refine AjX hop hq hG hm (hx (.tmp t) (.t t) (by simp [AOp.args]) rfl) (fun i y hi => ?_)
   obtain ⟨x0, hx0, he⟩ := NM hq i y hi
   have := hx x0 y (by simp only [AOp.args]; exact AU _ (Bk hi)) he
   rw [Cv] at hx0
   simpa [hx0] using this
  ·rename_i f
   split at ho
   ·rename_i fn hf
    split at ho
    ·rename_i hc
     obtain ⟨qs, hq, rfl⟩ := AY.1 ho
     refine AjW hop hf hc.1 hc.2 hq (hG f) hm (fun i y hi => ?_)
     obtain ⟨x0, hx0, he⟩ := NM hq i y hi
     have := hx x0 y (Bk hi) he
     rw [Cv] at hx0
     simpa [hx0] using this
    ·cases ho
   ·cases ho
  ·cases ho
 | makeFunc fn first caps =>
  cases fn with
  | func f =>
   simp only [AD] at ho
   split at ho
   ·rename_i h0
    obtain ⟨qs, hq, rfl⟩ := AY.1 ho
    have e1 : first = #[] := Array.eq_empty_of_size_eq_zero h0
    subst e1
    refine Aj8 hop hq hm (fun i y hi => ?_)
    obtain ⟨x0, hx0, he⟩ := NM hq i y hi
    have := hx x0 y (Bk hi) he
    rw [Cv] at hx0
    simpa [hx0] using this
   ·cases ho
  | _ => cases ho
 | makeMap t r =>
  cases r with
  | none => simp only [AD, BS] at ho; subst ho; exact Aka hop hm
  | some _ => cases ho
 | lookup t m k ok =>
  simp only [AD] at ho
  split at ho
  ·rename_i kt et ht
   split at ho
   ·rename_i i m' k' ks h1 h2 h3 h4
    split at ho
    ·rename_i z hz
     injection ho with ho
     subst ho
     exact Aj7 hop ht (Td h4) h1 hz hm (hx m m' (by simp [AOp.args]) h2) (hx k k' (by simp [AOp.args]) h3)
    ·cases ho
   ·cases ho
  ·cases ho
 | mapUpdate t m k x =>
  simp only [AD] at ho
  split at ho
  ·rename_i kt et ht
   split at ho
   ·rename_i m' k' x' ks h1 h2 h3 h4
    injection ho with ho
    subst ho
    exact AcI (.inl hop) ht (Td h4) hm (hx m m' (by simp [AOp.args]) h1) (hx k k' (by simp [AOp.args]) h2) (hx x x' (by simp [AOp.args]) h3)
   ·cases ho
  ·cases ho
 | insert t m k x =>
  simp only [AD] at ho
  split at ho
  ·rename_i kt et ht
   split at ho
   ·rename_i m' k' x' ks h1 h2 h3 h4
    injection ho with ho
    subst ho
    exact AcI (.inr hop) ht (Td h4) hm (hx m m' (by simp [AOp.args]) h1) (hx k k' (by simp [AOp.args]) h2) (hx x x' (by simp [AOp.args]) h3)
   ·cases ho
  ·cases ho
 | makeSlice t n c =>
  simp only [AD] at ho
  split at ho
  ·rename_i e ht
   split at ho
   ·rename_i i n' c' h1 h2 h3
    split at ho
    ·rename_i z hz
     split at ho
     ·rename_i hc
      obtain ⟨c1, c2, c3⟩ := hc
      injection ho with ho
      subst ho
      exact Akb hop ht h1 hz rfl rfl c2 c1 c3 hm (hx n n' (by simp [AOp.args]) h2) (hx c c' (by simp [AOp.args]) h3)
     ·cases ho
    ·cases ho
   ·cases ho
  ·cases ho
 | slice t x lo hi mx =>
  cases mx with
  | some mx =>
   simp only [AD] at ho
   split at ho
   ·rename_i e x' lo' hi' mx' ht h2 h3 h4 h5
    split at ho
    ·rename_i sz hs
     injection ho with ho
     subst ho
     exact AcL hop ht hs hm (hx x x' (by simp [AOp.args]) h2) (trEo_rel h3 fun x0 z hz he => hx x0 z (by simp [AOp.args] at hz ⊢; exact .inr (.inl hz)) he) (trEo_rel h4 fun x0 z hz he => hx x0 z (by simp [AOp.args] at hz ⊢; exact .inr (.inr (.inl hz))) he) (hx mx mx' (by simp [AOp.args]) h5)
    ·cases ho
   ·cases ho
  | none =>
   simp only [AD] at ho
   split at ho
   ·rename_i x' lo' hi' ht h2 h3 h4
    injection ho with ho
    subst ho
    exact Akk hop ht hm (hx x x' (by simp [AOp.args]) h2) (trEo_rel h3 fun x0 z hz he => hx x0 z (by simp [AOp.args] at hz ⊢; exact .inr (.inl hz)) he) (trEo_rel h4 fun x0 z hz he => hx x0 z (by simp [AOp.args] at hz ⊢; exact .inr (.inr hz)) he)
   ·rename_i e x' lo' hi' ht h2 h3 h4
    split at ho
    ·rename_i sz hs
     injection ho with ho
     subst ho
     exact AcL hop ht hs hm (hx x x' (by simp [AOp.args]) h2) (trEo_rel h3 fun x0 z hz he => hx x0 z (by simp [AOp.args] at hz ⊢; exact .inr (.inl hz)) he) (trEo_rel h4 fun x0 z hz he => hx x0 z (by simp [AOp.args] at hz ⊢; exact .inr (.inr hz)) he) trivial
    ·cases ho
   ·cases ho
 | convert src dst x =>
  simp only [AD] at ho
  split at ho
  ·rename_i k0 k h1 h2
   obtain ⟨y, hy, rfl⟩ := AY.1 ho
   exact AjY hop h1 h2 hm (hx x y (AH ..) hy)
  ·rename_i e h1 h2
   split at ho
   ·rename_i h3
    obtain ⟨y, hy, rfl⟩ := AY.1 ho
    exact AjO hop h1 h2 h3 hm (hx x y (AH ..) hy)
   ·cases ho
  ·cases ho
 | _ => cases ho
end
end Go.Proofs.YtjkclhbckfkeeaaGreatDoor
