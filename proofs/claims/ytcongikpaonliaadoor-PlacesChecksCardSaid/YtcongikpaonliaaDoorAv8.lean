/- New objects: box, alloc, a struct value built, a literal slice; a field of a value. -/
import Derived.Test.YtcongikpaonliaaDoorAv7
namespace Go.Proofs.YtcongikpaonliaaDoor
open Go Go.RowKit
set_option linter.unusedSimpArgs false
set_option linter.unusedVariables false
set_option linter.deprecated false
def All2 {α β : Type} (R : α → β → Prop) : List α → List β → Prop
  | [], [] => True
  | a :: as, b :: bs => R a b ∧ All2 R as bs
  | _, _ => False
def fieldsT (P : Program) (t : TypeId) : Option (Array Field) :=
  match P.underlying t with
  | some (.struct fields) => some fields
  | _ => none
section
variable {P : Program} {U : Tbl} {C : Ctx U} {h : Nat → Option Ob} {w : World} {M : Nat → Prop} {ι : Nat → Value} {o : Oper} {a : Act} {E : AE → V} {G : Tab} {d : Nat}
/-- Behind the making of a new object. -/
theorem after_new (hm : Mem C h w M ι) (hd : h d = none) (hlt : d < 1000) (ob : Ob) (v' : Value) (w' : World) (hsize : w.heap.size ≤ w'.heap.size) (hos : w'.os = w.os) (htape : w'.tape = w.tape) (hout : w'.output = w.output)
    (hblock : ∀ k, k < w.heap.size → w'.heap[k]? = w.heap[k]?) (hblk : ∀ g, blk v' = some g → w.heap.size ≤ g)
    (hob : ∀ {h' : Nat → Option Ob} {ι' : Nat → Value}, Keeps h h' ι ι' → ι' d = v' → (∀ b, M b → w'.heap[b]? = w.heap[b]?) → obR M w' ι' h' d ob) {v : V} {cv : Value}
    (hv : Rel M w' (iupd ι d v') (hupd h d ob) v cv) : After C h w M ι (hupd h d ob) v cv w' := by
  have hk : Keeps h (hupd h d ob) ι (iupd ι d v') := .new hd
  have hMw : ∀ b, M b → w'.heap[b]? = w.heap[b]? := fun b hb => hblock b (hm.lt b hb)
  obtain ⟨h1, h2⟩ := hm.step d ob v' w' hsize hos htape hout (fun k hk' _ => hblock k hk') (fun g hg => .inr (hblk g hg)) hk (hob hk (iupd_same _ _ _) hMw) (fun h1000 => absurd h1000 (by omega)) (fun h1000 => absurd h1000 (by omega))
  exact ⟨M, _, h1, hv, fun _ hb => hb, h2, hk⟩
theorem sim_box {t : TypeId} {x0 : Operand} {x : AE} (ho : o.op = .box t x0) (hm : Mem C h w M ι) (hx : Rel M w ι h (E x) (a.eval x0)) : Sim P G C h w M ι o a E d (.box t x) := by
  intro hφ
  obtain ⟨q1, q2, q3⟩ := hφ
  obtain ⟨y1, y2, y3⟩ := hx.cells q1
  refine .run (cv := .pointer (some ⟨w.heap.size, 0, none⟩)) (w' := w.alloc (.cells (a.eval x0).cells t)) ?_ ?_
  · simp [execOp, ho, Instr.box, newVar, newRow]
  · refine after_new hm q2 q3 (.box t (E x).cells) (.pointer (some ⟨w.heap.size, 0, none⟩)) (w.alloc (.cells (a.eval x0).cells t)) (by simp) rfl rfl rfl (fun k hk => heap_alloc_old w _ hk) (fun g hg => by cases hg; exact Nat.le_refl _) (fun {h' ι'} hk hi hMw => ?_) ?_
    · exact ⟨w.heap.size, _, hi, heap_alloc_new w _, y1, y2, fun i v hi' => (y3 i v hi').keep (fun _ hb => hb) hMw hk⟩
    · exact .ptrb d 0 w.heap.size t _ (hupd_same _ _ _) (iupd_same _ _ _)
theorem sim_alloc {t : TypeId} {i : TypeInfo} {z : Value} (ho : o.op = .alloc t) (hi : P.info? t = some i) (hz : i.zero = some z) (h1 : z.cells.toList.all Value.oneCell' = true) (hm : Mem C h w M ι) :
    Sim P G C h w M ι o a E d (.alloc t (z.cells.toList.map leafV)) := by
  intro hφ
  obtain ⟨q2, q3⟩ := hφ
  refine .run (cv := .pointer (some ⟨w.heap.size, 0, none⟩)) (w' := w.alloc (.cells z.cells t)) ?_ ?_
  · simp [execOp, ho, Instr.alloc, newVar, newRow, zeroValue, typeInfo, hi, hz]
  · refine after_new hm q2 q3 (.box t (z.cells.toList.map leafV)) (.pointer (some ⟨w.heap.size, 0, none⟩)) (w.alloc (.cells z.cells t)) (by simp) rfl rfl rfl (fun k hk => heap_alloc_old w _ hk) (fun g hg => by cases hg; exact Nat.le_refl _) (fun {h' ι'} hk hi' hMw => ?_) ?_
    · refine ⟨w.heap.size, _, hi', heap_alloc_new w _, by simp, fun c hc => List.all_eq_true.1 h1 c hc, fun i v hi'' => ?_⟩
      rw [List.getElem?_map] at hi''
      obtain ⟨c, hc, rfl⟩ := Option.map_eq_some_iff.1 hi''
      have : z.cells.getD i undef = c := by rw [Array.getElem?_toList] at hc; simp [hc]
      rw [this]
      exact .pur (leafV_pur M _ c)
    · exact .ptrb d 0 w.heap.size t _ (hupd_same _ _ _) (iupd_same _ _ _)
/-- What 'fill' does with one part. -/
theorem foldl_put (off : Nat) : ∀ (l : List Value) (s : Nat) (cells : Array Value), (l.zipIdx s |>.foldl (fun cs (c, j) => cs.setIfInBounds (off + j) c) cells).size = cells.size ∧
    ∀ k, (l.zipIdx s |>.foldl (fun cs (c, j) => cs.setIfInBounds (off + j) c) cells)[k]? = if off + s ≤ k ∧ k < off + s + l.length ∧ k < cells.size then l[k - (off + s)]? else cells[k]?
  | [], s, cells => ⟨rfl, fun k => by rw [if_neg (by simp only [List.length_nil]; omega)]; rfl⟩
  | c :: l, s, cells => by
    obtain ⟨i1, i2⟩ := foldl_put off l (s + 1) (cells.setIfInBounds (off + s) c)
    rw [List.zipIdx_cons, List.foldl_cons]
    refine ⟨by rw [i1]; simp, fun k => ?_⟩
    rw [i2 k]
    simp only [Array.size_setIfInBounds, Array.getElem?_setIfInBounds, List.length_cons]
    by_cases c1 : off + s = k
    · subst c1
      by_cases c2 : off + s < cells.size
      · rw [if_neg (by omega), if_pos rfl, if_pos c2, if_pos (by omega)]; simp
      · rw [if_neg (by omega), if_pos rfl, if_neg c2, if_neg (by omega)]
        exact (Array.getElem?_eq_none (by omega)).symm
    · rw [if_neg c1]
      by_cases c3 : off + s ≤ k ∧ k < off + s + (l.length + 1) ∧ k < cells.size
      · rw [if_pos c3, if_pos (by omega), show k - (off + s) = (k - (off + (s + 1))) + 1 by omega, List.getElem?_cons_succ]
      · rw [if_neg c3, if_neg (by omega)]
theorem foldl_putA (off : Nat) (l : Array Value) (cells : Array Value) (hle : off + l.size ≤ cells.size) : (l.zipIdx.foldl (fun cs (c, j) => cs.setIfInBounds (off + j) c) cells).size = cells.size ∧
    ∀ k, (l.zipIdx.foldl (fun cs (c, j) => cs.setIfInBounds (off + j) c) cells)[k]? = if off ≤ k ∧ k < off + l.size then l[k - off]? else cells[k]? := by
  obtain ⟨ls⟩ := l
  have := foldl_put off ls 0 cells
  simp only [Nat.add_zero] at this
  rw [List.size_toArray] at hle
  refine ⟨by simpa using this.1, fun k => ?_⟩
  have h2 := this.2 k
  have e : (ls.toArray.zipIdx.foldl (fun cs (c, j) => cs.setIfInBounds (off + j) c) cells) = (ls.zipIdx.foldl (fun cs (c, j) => cs.setIfInBounds (off + j) c) cells) := by simp
  show (ls.toArray.zipIdx.foldl (fun cs (c, j) => cs.setIfInBounds (off + j) c) cells)[k]? = _
  rw [e, h2]
  simp only [List.size_toArray, List.getElem?_toArray]
  by_cases c : off ≤ k ∧ k < off + ls.length
  · rw [if_pos c, if_pos (by omega)]
  · rw [if_neg c, if_neg (by omega)]
/-- The parts of a struct value. -/
theorem fill_rel {R : V → Value → Prop} {place : Nat → Option (Nat × Nat)} : ∀ (vs : List (Nat × Value)) (ps : List (Nat × List V)) (cells : Array Value) (cs : List V), cs.length = cells.size → (∀ c ∈ cells.toList, c.oneCell' = true) →
    (∀ (i : Nat) (v : V), cs[i]? = some v → R v (cells.getD i undef)) →
    All2 (fun (x : Nat × Value) (y : Nat × List V) => place x.1 = some (y.1, y.2.length) ∧ y.2.length = x.2.cells.size ∧ y.1 + y.2.length ≤ cells.size ∧ (∀ c ∈ x.2.cells.toList, c.oneCell' = true) ∧ ∀ (i : Nat) (v : V), y.2[i]? = some v → R v (x.2.cells.getD i undef)) vs ps →
    ∃ cells', Instr.fill place cells vs = some cells' ∧ (fillV cs ps).length = cells'.size ∧ cells'.size = cells.size ∧ (∀ c ∈ cells'.toList, c.oneCell' = true) ∧ ∀ (i : Nat) (v : V), (fillV cs ps)[i]? = some v → R v (cells'.getD i undef)
  | [], [], cells, cs, hl, h1, hr, _ => ⟨cells, rfl, hl, rfl, h1, hr⟩
  | [], _ :: _, _, _, _, _, _, hh => hh.elim
  | _ :: _, [], _, _, _, _, _, hh => hh.elim
  | (n, v) :: vs, (off, ys) :: ps, cells, cs, hl, h1, hr, ⟨hx, hrest⟩ => by
    obtain ⟨x1, x2, x3, x4, x5⟩ := hx
    dsimp only at x1 x2 x3 x4 x5
    obtain ⟨f1, f2⟩ := foldl_putA off v.cells cells (by omega)
    have hle : off + ys.length ≤ cs.length := by omega
    have hcell : (v.cells.zipIdx.foldl (fun cs (c, j) => cs.setIfInBounds (off + j) c) cells).toList = cells.toList.take off ++ v.cells.toList ++ cells.toList.drop (off + v.cells.toList.length) := by
      apply List.ext_getElem?
      intro k
      rw [Array.getElem?_toList, f2 k, splice_get (by simp only [Array.length_toList]; omega)]
      simp only [Array.length_toList, Array.getElem?_toList]
      by_cases c1 : k < off
      · rw [if_pos c1, if_neg (by omega)]
      · by_cases c2 : k < off + v.cells.size
        · rw [if_neg c1, if_pos c2, if_pos (by omega)]
        · rw [if_neg c1, if_neg c2, if_neg (by omega)]
    have ih := fill_rel (R := R) (place := place) vs ps (v.cells.zipIdx.foldl (fun cs (c, j) => cs.setIfInBounds (off + j) c) cells) (putAt cs off ys) (by rw [putAt_length hle, f1]; exact hl)
      (by rw [hcell]; exact putC_one h1 x4)
      (fun i u hi => by
        have := putAt_rel (R := R) (ccs := cells.toList) (cys := v.cells.toList) (by simpa using hl) (by simpa using x2) hle (fun i v h => by simpa using hr i v h) (fun i v h => by simpa using x5 i v h) i u hi
        rw [← hcell] at this
        simpa using this)
      (by rw [f1]; exact hrest)
    obtain ⟨cells', i1, i2, i3, i4, i5⟩ := ih
    refine ⟨cells', ?_, i2, i3.trans f1, i4, i5⟩
    rw [Instr.fill, x1]
    dsimp only
    rw [if_neg, i1]
    simp only [bne_iff_ne, ne_eq, Bool.or_eq_true, decide_eq_true_eq, not_or]
    omega
/-- build: the places of the fields. -/
def placesT (P : Program) (t : TypeId) : Option (List (Nat × Nat)) :=
  match fieldsT P t with
  | some fs => fs.toList.mapM fun f => (szT P f.type).map fun n => (f.offset, n)
  | none => none
theorem mapM_places {fs : List Field} : ∀ {pl : List (Nat × Nat)}, (fs.mapM fun f => (szT P f.type).map fun n => (f.offset, n)) = some pl →
    ∀ (w : World), (fs.mapM (m := Sem) fun f => Prod.mk f.offset <$> sizeOf f.type).run P w = .ok pl w := by
  induction fs with
  | nil =>
    intro pl hp w
    simp only [List.mapM_nil, Option.pure_def, Option.some.injEq] at hp
    subst hp
    rfl
  | cons f fs ih =>
    intro pl hp w
    rw [List.mapM_cons] at hp ⊢
    cases hs : szT P f.type with
    | none => rw [hs] at hp; cases hp
    | some n =>
      rw [hs] at hp
      cases hm : (fs.mapM fun f => (szT P f.type).map fun n => (f.offset, n)) with
      | none => rw [hm] at hp; cases hp
      | some pl' =>
        rw [hm] at hp
        have hp' : (f.offset, n) :: pl' = pl := Option.some.inj hp
        subst hp'
        simp [run_sizeOf hs, ih hm]
/-- The parts' places and operands. -/
def partsT (pl : List (Nat × Nat)) (n : Nat) : List (Nat × Operand) → Option (List (Nat × Nat × AE))
  | [] => some []
  | (i, x) :: r => match pl[i]?, trE x, partsT pl n r with
    | some (off, sz), some y, some r' => if off + sz ≤ n then some ((off, sz, y) :: r') else none
    | _, _, _ => none
theorem partsT_all2 {pl : List (Nat × Nat)} {n : Nat} {R : V → Value → Prop} {ρ : Operand → Value} : ∀ {ps : List (Nat × Operand)} {qs : List (Nat × Nat × AE)}, partsT pl n ps = some qs →
    (∀ p ∈ qs, (E p.2.2).cells.length = p.2.1) →
    (∀ i x off sz y, (i, x) ∈ ps → (off, sz, y) ∈ qs → trE x = some y → (E y).cells.length = (ρ x).cells.size ∧ (∀ c ∈ (ρ x).cells.toList, c.oneCell' = true) ∧ ∀ (i : Nat) (v : V), (E y).cells[i]? = some v → R v ((ρ x).cells.getD i undef)) →
    All2 (fun (x : Nat × Value) (y : Nat × List V) => pl[x.1]? = some (y.1, y.2.length) ∧ y.2.length = x.2.cells.size ∧ y.1 + y.2.length ≤ n ∧ (∀ c ∈ x.2.cells.toList, c.oneCell' = true) ∧ ∀ (i : Nat) (v : V), y.2[i]? = some v → R v (x.2.cells.getD i undef))
      (ps.map fun p => (p.1, ρ p.2)) (qs.map fun p => (p.1, (E p.2.2).cells))
  | [], qs, hq, _, _ => by simp [partsT] at hq; subst hq; trivial
  | (i, x) :: r, qs, hq, hl, hr => by
    unfold partsT at hq
    split at hq
    · rename_i off sz y r' h1 h2 h3
      split at hq
      · rename_i h4
        injection hq with hq
        subst hq
        have hly : (E y).cells.length = sz := hl (off, sz, y) (List.mem_cons_self ..)
        obtain ⟨g1, g2, g3⟩ := hr i x off sz y (List.mem_cons_self ..) (List.mem_cons_self ..) h2
        exact ⟨⟨by rw [hly]; exact h1, g1, by rw [hly]; exact h4, g2, g3⟩,
          partsT_all2 h3 (fun p hp => hl p (List.mem_cons_of_mem _ hp)) (fun i' x' off' sz' y' m1 m2 => hr i' x' off' sz' y' (List.mem_cons_of_mem _ m1) (List.mem_cons_of_mem _ m2))⟩
      · cases hq
    · cases hq
theorem sim_buildS {t : TypeId} {i : TypeInfo} {z : Value} {fs : Array Field} {pl : List (Nat × Nat)} {parts : Array (Nat × Operand)} {qs : List (Nat × Nat × AE)} (ho : o.op = .build t parts) (hi : P.info? t = some i) (hz : i.zero = some z)
    (h1 : z.cells.toList.all Value.oneCell' = true) (hf : fieldsT P t = some fs) (hpl : placesT P t = some pl) (hq : partsT pl z.cells.size parts.toList = some qs) (hm : Mem C h w M ι)
    (hx : ∀ x0 y, x0 ∈ parts.toList.map (·.2) → trE x0 = some y → Rel M w ι h (E y) (a.eval x0)) : Sim P G C h w M ι o a E d (.build (z.cells.toList.map leafV) qs) := by
  intro hφ
  replace hφ : ∀ p ∈ qs, (E p.2.2).shaped = true ∧ (E p.2.2).cells.length = p.2.1 := hφ
  have hu : P.underlying t = some (.struct fs) := by
    unfold fieldsT at hf
    split at hf
    · rename_i fs' hu; injection hf with hf; rw [hu, hf]
    · cases hf
  have hpl' : (fs.toList.mapM fun f => (szT P f.type).map fun n => (f.offset, n)) = some pl := by
    unfold placesT at hpl
    rw [hf] at hpl
    exact hpl
  have hall := partsT_all2 (E := E) (R := Rel M w ι h) (ρ := a.eval) hq (fun p hp => (hφ p hp).2) (fun i x off sz y m1 m2 e => by
    have := hx x y (List.mem_map.2 ⟨(i, x), m1, rfl⟩) e
    exact this.cells (hφ _ m2).1)
  obtain ⟨cells', f1, f2, f3, f4, f5⟩ := fill_rel (R := Rel M w ι h) (place := fun i => pl[i]?) (parts.toList.map fun p => (p.1, a.eval p.2)) (qs.map fun p => (p.1, (E p.2.2).cells)) z.cells (z.cells.toList.map leafV) (by simp)
    (fun c hc => List.all_eq_true.1 h1 c hc) (fun i v hi' => by
      rw [List.getElem?_map] at hi'
      obtain ⟨c, hc, rfl⟩ := Option.map_eq_some_iff.1 hi'
      have : z.cells.getD i undef = c := by rw [Array.getElem?_toList] at hc; simp [hc]
      rw [this]
      exact .pur (leafV_pur M _ c)) hall
  refine .run (cv := .agg cells') (w' := w) ?_ (After.same hm (.agg _ _ f2 f4 f5))
  have hmp := mapM_places (P := P) hpl' w
  have e1 : (parts.map fun (x : Nat × Operand) => (x.1, a.eval x.2)).toList = parts.toList.map fun p => (p.1, a.eval p.2) := by simp
  have hmpA : ((fs.mapM fun f => do pure (f.offset, ← sizeOf f.type) : Sem (Array (Nat × Nat)))).run P w = .ok pl.toArray w := by
    have e0 : (fun (f : Field) => (do pure (f.offset, ← sizeOf f.type) : Sem (Nat × Nat))) = fun f => Prod.mk f.offset <$> sizeOf f.type := by funext f; simp
    rw [e0]
    obtain ⟨fl⟩ := fs
    have e2 : ((⟨fl⟩ : Array Field).mapM fun f => Prod.mk f.offset <$> sizeOf f.type : Sem (Array (Nat × Nat))) = List.toArray <$> (fl.mapM fun f => Prod.mk f.offset <$> sizeOf f.type) := by
      simp
    rw [e2, Sem.run_map, hmp]
    rfl
  have f1' : Instr.fill (fun i => pl.toArray[i]?) z.cells (parts.toList.map fun p => (p.1, a.eval p.2)) = some cells' := by simpa using f1
  simp only [execOp, ho, Instr.build, Sem.run_bind, zeroValue, typeInfo, run_program, hi, hz, Result.andThen_ok, Sem.run_pure, run_underlying hu, hmpA, e1, f1']
/-- The places of an array's elements. -/
def placesA (P : Program) (t : TypeId) : Option (List (Nat × Nat)) :=
  match P.underlying t with
  | some (.array n e) => (szT P e).map fun k => (List.range n).map fun i => (i * k, k)
  | _ => none
def placesB (P : Program) (t : TypeId) : Option (List (Nat × Nat)) :=
  match placesT P t with
  | some pl => some pl
  | none => placesA P t
theorem fill_congr {p q : Nat → Option (Nat × Nat)} (h : ∀ i x, p i = some x → q i = some x) : ∀ (l : List (Nat × Value)) {cells c : Array Value}, Instr.fill p cells l = some c → Instr.fill q cells l = some c
  | [], _, _, e => e
  | (i, v) :: l, cells, c, e => by
    rw [Instr.fill] at e ⊢
    split at e
    · cases e
    · rename_i off size hp
      rw [h _ _ hp]
      dsimp only
      split at e
      · cases e
      · rename_i hc
        rw [if_neg hc]
        exact fill_congr h l e
theorem sim_buildA {t e : TypeId} {n k : Nat} {i : TypeInfo} {z : Value} {parts : Array (Nat × Operand)} {qs : List (Nat × Nat × AE)} (ho : o.op = .build t parts) (hi : P.info? t = some i) (hz : i.zero = some z)
    (h1 : z.cells.toList.all Value.oneCell' = true) (hu : P.underlying t = some (.array n e)) (hk : szT P e = some k) (hq : partsT ((List.range n).map fun i => (i * k, k)) z.cells.size parts.toList = some qs) (hm : Mem C h w M ι)
    (hx : ∀ x0 y, x0 ∈ parts.toList.map (·.2) → trE x0 = some y → Rel M w ι h (E y) (a.eval x0)) : Sim P G C h w M ι o a E d (.build (z.cells.toList.map leafV) qs) := by
  intro hφ
  replace hφ : ∀ p ∈ qs, (E p.2.2).shaped = true ∧ (E p.2.2).cells.length = p.2.1 := hφ
  have hall := partsT_all2 (E := E) (R := Rel M w ι h) (ρ := a.eval) hq (fun p hp => (hφ p hp).2) (fun i x off sz y m1 m2 e => by
    have := hx x y (List.mem_map.2 ⟨(i, x), m1, rfl⟩) e
    exact this.cells (hφ _ m2).1)
  obtain ⟨cells', f1, f2, f3, f4, f5⟩ := fill_rel (R := Rel M w ι h) (place := fun i => ((List.range n).map fun i => (i * k, k))[i]?) (parts.toList.map fun p => (p.1, a.eval p.2)) (qs.map fun p => (p.1, (E p.2.2).cells)) z.cells (z.cells.toList.map leafV) (by simp)
    (fun c hc => List.all_eq_true.1 h1 c hc) (fun i v hi' => by
      rw [List.getElem?_map] at hi'
      obtain ⟨c, hc, rfl⟩ := Option.map_eq_some_iff.1 hi'
      have : z.cells.getD i undef = c := by rw [Array.getElem?_toList] at hc; simp [hc]
      rw [this]
      exact .pur (leafV_pur M _ c)) hall
  refine .run (cv := .agg cells') (w' := w) ?_ (After.same hm (.agg _ _ f2 f4 f5))
  have e1 : (parts.map fun (x : Nat × Operand) => (x.1, a.eval x.2)).toList = parts.toList.map fun p => (p.1, a.eval p.2) := by simp
  have f1' := fill_congr (q := fun i => some (i * k, k)) (fun i x hx => by
    rw [List.getElem?_map] at hx
    obtain ⟨j, hj, rfl⟩ := Option.map_eq_some_iff.1 hx
    have := List.getElem?_eq_some_iff.1 hj
    obtain ⟨hlt, he⟩ := this
    rw [List.getElem_range] at he
    subst he; rfl) _ f1
  simp only [execOp, ho, Instr.build, Sem.run_bind, zeroValue, typeInfo, run_program, hi, hz, Result.andThen_ok, Sem.run_pure, run_underlying hu, run_sizeOf hk, e1, f1']
theorem sim_build {t : TypeId} {i : TypeInfo} {z : Value} {pl : List (Nat × Nat)} {parts : Array (Nat × Operand)} {qs : List (Nat × Nat × AE)} (ho : o.op = .build t parts) (hi : P.info? t = some i) (hz : i.zero = some z)
    (h1 : z.cells.toList.all Value.oneCell' = true) (hpl : placesB P t = some pl) (hq : partsT pl z.cells.size parts.toList = some qs) (hm : Mem C h w M ι)
    (hx : ∀ x0 y, x0 ∈ parts.toList.map (·.2) → trE x0 = some y → Rel M w ι h (E y) (a.eval x0)) : Sim P G C h w M ι o a E d (.build (z.cells.toList.map leafV) qs) := by
  unfold placesB at hpl
  split at hpl
  · rename_i pl' hp
    injection hpl with hpl
    subst hpl
    cases hf : fieldsT P t with
    | none => unfold placesT at hp; rw [hf] at hp; cases hp
    | some fs => exact sim_buildS ho hi hz h1 hf hp hq hm hx
  · unfold placesA at hpl
    split at hpl
    · rename_i n e hu
      obtain ⟨k, hk, rfl⟩ := Option.map_eq_some_iff.1 hpl
      exact sim_buildA ho hi hz h1 hu hk hq hm hx
    · cases hpl
end
end Go.Proofs.YtcongikpaonliaaDoor
