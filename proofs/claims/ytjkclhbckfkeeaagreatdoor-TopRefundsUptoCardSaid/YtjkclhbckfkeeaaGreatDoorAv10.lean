import Derived.Test.YtjkclhbckfkeeaaGreatDoorAv7
set_option linter.unusedSimpArgs false
set_option linter.unusedVariables false
set_option linter.deprecated false
namespace Go.Proofs.YtjkclhbckfkeeaaGreatDoor
open Go Go.RowKit
def QH {α β : Type} (R : α -> β -> Prop) : List α -> List β -> Prop
 | [], [] => True
 | a :: as, b :: bs => R a b /\ QH R as bs
 | _, _ => False
def Pu (P : Program) (t : TypeId) : Option (Array Field) :=
 match P.underlying t with
 | some (.struct fields) => some fields
 | _ => none
section
variable {P : Program} {U : Tbl} {C : Ctx U} {h : Nat -> Option Ob} {w : World} {M : Nat -> Prop} {ι : Nat -> Value} {o : Oper} {a : Act} {E : AE -> V} {G : Tab} {d : Nat}
theorem HZ (hm : Mem C h w M ι) (hd : h d = none) (hlt : d < 1000) (ob : Ob) (v' : Value) (w' : World) (hsize : w.heap.size <= w'.heap.size) (hos : w'.os = w.os) (htape : w'.tape = w.tape) (hout : w'.output = w.output)
  (hblock : ∀ k, k < w.heap.size -> w'.heap[k]? = w.heap[k]?) (hblk : ∀ g, blk v' = some g -> w.heap.size <= g)
  (hob : ∀ {h' : Nat -> Option Ob} {ι' : Nat -> Value}, Keeps h h' ι ι' -> ι' d = v' -> (∀ b, M b -> w'.heap[b]? = w.heap[b]?) -> obR M w' ι' h' d ob) {v : V} {cv : Value}
  (hv : Rel M w' (DK ι d v') (BI h d ob) v cv) : Ay C h w M ι (BI h d ob) v cv w' := by
 have hk : Keeps h (BI h d ob) ι (DK ι d v') := .new hd
 have hMw : ∀ b, M b -> w'.heap[b]? = w.heap[b]? := fun b hb => hblock b (hm.lt b hb)
 obtain ⟨h1, h2⟩ := hm.step d ob v' w' hsize hos htape hout (fun k hk' _ => hblock k hk') (fun g hg => .inr (hblk g hg)) hk (hob hk (CU _ _ _) hMw) (fun h1000 => absurd h1000 (by omega)) (fun h1000 => absurd h1000 (by omega))
 exact ⟨M, _, h1, hv, fun _ hb => hb, h2, hk⟩
theorem AjS {t : TypeId} {x0 : Operand} {x : AE} (ho : o.op = .box t x0) (hm : Mem C h w M ι) (hx : Rel M w ι h (E x) (a.eval x0)) : Sim P G C h w M ι o a E d (.box t x) := by
 intro hφ
 obtain ⟨q1, q2, q3⟩ := hφ
 obtain ⟨y1, y2, y3⟩ := hx.cells q1
 refine .run (cv := .pointer (some ⟨w.heap.size, 0, none⟩)) (w' := w.alloc (.cells (a.eval x0).cells t)) ?_ ?_
 ·simp [execOp, ho, Instr.box, newVar, newRow]
 ·refine HZ hm q2 q3 (.box t (E x).cells) (.pointer (some ⟨w.heap.size, 0, none⟩)) (w.alloc (.cells (a.eval x0).cells t)) (by simp) rfl rfl rfl (fun k hk => heap_alloc_old w _ hk) (fun g hg => by cases hg; exact AF _) (fun {h' ι'} hk hi hMw => ?_) ?_
  ·exact ⟨w.heap.size, _, hi, heap_alloc_new w _, y1, y2, fun i v hi' => (y3 i v hi').keep (fun _ hb => hb) hMw hk⟩
  ·exact .ptrb d 0 w.heap.size t _ (Dd _ _ _) (CU _ _ _)
theorem AjM {t : TypeId} {i : TypeInfo} {z : Value} (ho : o.op = .alloc t) (hi : P.info? t = some i) (hz : i.zero = some z) (h1 : z.cells.toList.all Value.oneCell' = true) (hm : Mem C h w M ι) :
  Sim P G C h w M ι o a E d (.alloc t (z.cells.toList.map De)) := by
 intro hφ
 obtain ⟨q2, q3⟩ := hφ
 refine .run (cv := .pointer (some ⟨w.heap.size, 0, none⟩)) (w' := w.alloc (.cells z.cells t)) ?_ ?_
 ·simp [execOp, ho, Instr.alloc, newVar, newRow, zeroValue, typeInfo, hi, hz]
 ·refine HZ hm q2 q3 (.box t (z.cells.toList.map De)) (.pointer (some ⟨w.heap.size, 0, none⟩)) (w.alloc (.cells z.cells t)) (by simp) rfl rfl rfl (fun k hk => heap_alloc_old w _ hk) (fun g hg => by cases hg; exact AF _) (fun {h' ι'} hk hi' hMw => ?_) ?_
  ·refine ⟨w.heap.size, _, hi', heap_alloc_new w _, by simp, fun c hc => Ch.1 h1 c hc, fun i v hi'' => ?_⟩
   rw [BC] at hi''
   obtain ⟨c, hc, rfl⟩ := AY.1 hi''
   have : z.cells.getD i undef = c := by rw [Cv] at hc; simp [hc]
   rw [this]
   exact .pur (Ks M _ c)
  ·exact .ptrb d 0 w.heap.size t _ (Dd _ _ _) (CU _ _ _)
theorem Aap (off : Nat) : ∀ (l : List Value) (s : Nat) (cells : Array Value), (l.zipIdx s |>.foldl (fun cs (c, j) => cs.setIfInBounds (off + j) c) cells).size = cells.size /\
  ∀ k, (l.zipIdx s |>.foldl (fun cs (c, j) => cs.setIfInBounds (off + j) c) cells)[k]? = if off + s <= k /\ k < off + s + l.length /\ k < cells.size then l[k - (off + s)]? else cells[k]?
 | [], s, cells => ⟨rfl, fun k => by rw [if_neg (by simp only [Ax]; omega)]; rfl⟩
 | c :: l, s, cells => by
  obtain ⟨i1, i2⟩ := Aap off l (s + 1) (cells.setIfInBounds (off + s) c)
  rw [List.zipIdx_cons, List.foldl_cons]
  refine ⟨by rw [i1]; simp, fun k => ?_⟩
  rw [i2 k]
  simp only [Array.size_setIfInBounds, Array.getElem?_setIfInBounds, Aw]
  by_cases c1 : off + s = k
  ·subst c1
   by_cases c2 : off + s < cells.size
   ·rw [if_neg (by omega), if_pos rfl, if_pos c2, if_pos (by omega)]; simp
   ·rw [if_neg (by omega), if_pos rfl, if_neg c2, if_neg (by omega)]
    exact (Array.getElem?_eq_none (by omega)).symm
  ·rw [if_neg c1]
   by_cases c3 : off + s <= k /\ k < off + s + (l.length + 1) /\ k < cells.size
   ·rw [if_pos c3, if_pos (by omega), show k - (off + s) = (k - (off + (s + 1))) + 1 by omega, DM]
   ·rw [if_neg c3, if_neg (by omega)]
theorem Aaq (off : Nat) (l : Array Value) (cells : Array Value) (hle : off + l.size <= cells.size) : (l.zipIdx.foldl (fun cs (c, j) => cs.setIfInBounds (off + j) c) cells).size = cells.size /\
  ∀ k, (l.zipIdx.foldl (fun cs (c, j) => cs.setIfInBounds (off + j) c) cells)[k]? = if off <= k /\ k < off + l.size then l[k - off]? else cells[k]? := by
 obtain ⟨ls⟩ := l
 have := Aap off ls 0 cells
 simp only [Fe] at this
 rw [Gt] at hle
 refine ⟨by simpa using this.1, fun k => ?_⟩
 have h2 := this.2 k
 have e : (ls.toArray.zipIdx.foldl (fun cs (c, j) => cs.setIfInBounds (off + j) c) cells) = (ls.zipIdx.foldl (fun cs (c, j) => cs.setIfInBounds (off + j) c) cells) := by simp
 show (ls.toArray.zipIdx.foldl (fun cs (c, j) => cs.setIfInBounds (off + j) c) cells)[k]? = _
 rw [e, h2]
 simp only [Gt, List.getElem?_toArray]
 by_cases c : off <= k /\ k < off + ls.length
 ·rw [if_pos c, if_pos (by omega)]
 ·rw [if_neg c, if_neg (by omega)]
theorem SK {R : V -> Value -> Prop} {place : Nat -> Option (Nat × Nat)} : ∀ (vs : List (Nat × Value)) (ps : List (Nat × List V)) (cells : Array Value) (cs : List V), cs.length = cells.size -> (∀ c ∈ cells.toList, c.oneCell' = true) ->
  (∀ (i : Nat) (v : V), cs[i]? = some v -> R v (cells.getD i undef)) ->
  QH (fun (x : Nat × Value) (y : Nat × List V) => place x.1 = some (y.1, y.2.length) /\ y.2.length = x.2.cells.size /\ y.1 + y.2.length <= cells.size /\ (∀ c ∈ x.2.cells.toList, c.oneCell' = true) /\ ∀ (i : Nat) (v : V), y.2[i]? = some v -> R v (x.2.cells.getD i undef)) vs ps ->
  ∃ cells', Instr.fill place cells vs = some cells' /\ (Ng cs ps).length = cells'.size /\ cells'.size = cells.size /\ (∀ c ∈ cells'.toList, c.oneCell' = true) /\ ∀ (i : Nat) (v : V), (Ng cs ps)[i]? = some v -> R v (cells'.getD i undef)
 | [], [], cells, cs, hl, h1, hr, _ => ⟨cells, rfl, hl, rfl, h1, hr⟩
 | [], _ :: _, _, _, _, _, _, hh => hh.elim
 | _ :: _, [], _, _, _, _, _, hh => hh.elim
 | (n, v) :: vs, (off, ys) :: ps, cells, cs, hl, h1, hr, ⟨hx, hrest⟩ => by
  obtain ⟨x1, x2, x3, x4, x5⟩ := hx
  dsimp only at x1 x2 x3 x4 x5
  obtain ⟨f1, f2⟩ := Aaq off v.cells cells (by omega)
  have hle : off + ys.length <= cs.length := by omega
  have hcell : (v.cells.zipIdx.foldl (fun cs (c, j) => cs.setIfInBounds (off + j) c) cells).toList = cells.toList.take off ++ v.cells.toList ++ cells.toList.drop (off + v.cells.toList.length) := by
   apply List.ext_getElem?
   intro k
   rw [Cv, f2 k, Hd (by simp only [Ep]; omega)]
   simp only [Ep, Cv]
   by_cases c1 : k < off
   ·rw [if_pos c1, if_neg (by omega)]
   ·by_cases c2 : k < off + v.cells.size
    ·rw [if_neg c1, if_pos c2, if_pos (by omega)]
    ·rw [if_neg c1, if_neg c2, if_neg (by omega)]
  have ih := SK (R := R) (place := place) vs ps (v.cells.zipIdx.foldl (fun cs (c, j) => cs.setIfInBounds (off + j) c) cells) (putAt cs off ys) (by rw [TJ hle, f1]; exact hl)
   (by rw [hcell]; exact Qb h1 x4)
   (fun i u hi => by
    have := Abx (R := R) (ccs := cells.toList) (cys := v.cells.toList) (by simpa using hl) (by simpa using x2) hle (fun i v h => by simpa using hr i v h) (fun i v h => by simpa using x5 i v h) i u hi
    rw [<- hcell] at this
    simpa using this)
   (by rw [f1]; exact hrest)
  obtain ⟨cells', i1, i2, i3, i4, i5⟩ := ih
  refine ⟨cells', ?_, i2, i3.trans f1, i4, i5⟩
  rw [Instr.fill, x1]
  dsimp only
  rw [if_neg, i1]
  simp only [bne_iff_ne, ne_eq, Gd, decide_eq_true_eq, not_or]
  omega
def Qa (P : Program) (t : TypeId) : Option (List (Nat × Nat)) :=
 match Pu P t with
 | some fs => fs.toList.mapM fun f => (szT P f.type).map fun n => (f.offset, n)
 | none => none
theorem Ahf {fs : List Field} : ∀ {pl : List (Nat × Nat)}, (fs.mapM fun f => (szT P f.type).map fun n => (f.offset, n)) = some pl ->
  ∀ (w : World), (fs.mapM (m := Sem) fun f => Prod.mk f.offset <$> sizeOf f.type).run P w = .ok pl w := by
 induction fs with
 | nil =>
  intro pl hp w
  simp only [List.mapM_nil, Option.pure_def, BS] at hp
  subst hp
  rfl
 | cons f fs ih =>
  intro pl hp w
  rw [Ix] at hp ⊢
  cases hs : szT P f.type with
  | none => rw [hs] at hp; cases hp
  | some n =>
   rw [hs] at hp
   cases hm : (fs.mapM fun f => (szT P f.type).map fun n => (f.offset, n)) with
   | none => rw [hm] at hp; cases hp
   | some pl' =>
    rw [hm] at hp
    have hp' : (f.offset, n) :: pl' = pl := Ha hp
    subst hp'
    simp [run_sizeOf hs, ih hm]
def HH (pl : List (Nat × Nat)) (n : Nat) : List (Nat × Operand) -> Option (List (Nat × Nat × AE))
 | [] => some []
 | (i, x) :: r => match pl[i]?, trE x, HH pl n r with
  | some (off, sz), some y, some r' => if off + sz <= n then some ((off, sz, y) :: r') else none
  | _, _, _ => none
theorem TB {pl : List (Nat × Nat)} {n : Nat} {R : V -> Value -> Prop} {ρ : Operand -> Value} : ∀ {ps : List (Nat × Operand)} {qs : List (Nat × Nat × AE)}, HH pl n ps = some qs ->
  (∀ p ∈ qs, (E p.2.2).cells.length = p.2.1) ->
  (∀ i x off sz y, (i, x) ∈ ps -> (off, sz, y) ∈ qs -> trE x = some y -> (E y).cells.length = (ρ x).cells.size /\ (∀ c ∈ (ρ x).cells.toList, c.oneCell' = true) /\ ∀ (i : Nat) (v : V), (E y).cells[i]? = some v -> R v ((ρ x).cells.getD i undef)) ->
  QH (fun (x : Nat × Value) (y : Nat × List V) => pl[x.1]? = some (y.1, y.2.length) /\ y.2.length = x.2.cells.size /\ y.1 + y.2.length <= n /\ (∀ c ∈ x.2.cells.toList, c.oneCell' = true) /\ ∀ (i : Nat) (v : V), y.2[i]? = some v -> R v (x.2.cells.getD i undef))
   (ps.map fun p => (p.1, ρ p.2)) (qs.map fun p => (p.1, (E p.2.2).cells))
 | [], qs, hq, _, _ => by simp [HH] at hq; subst hq; trivial
 | (i, x) :: r, qs, hq, hl, hr => by
  unfold HH at hq
  split at hq
  ·rename_i off sz y r' h1 h2 h3
   split at hq
   ·rename_i h4
    injection hq with hq
    subst hq
    have hly : (E y).cells.length = sz := hl (off, sz, y) (AH ..)
    obtain ⟨g1, g2, g3⟩ := hr i x off sz y (AH ..) (AH ..) h2
    exact ⟨⟨by rw [hly]; exact h1, g1, by rw [hly]; exact h4, g2, g3⟩,
     TB h3 (fun p hp => hl p (AU _ hp)) (fun i' x' off' sz' y' m1 m2 => hr i' x' off' sz' y' (AU _ m1) (AU _ m2))⟩
   ·cases hq
  ·cases hq
theorem AjV {t : TypeId} {i : TypeInfo} {z : Value} {fs : Array Field} {pl : List (Nat × Nat)} {parts : Array (Nat × Operand)} {qs : List (Nat × Nat × AE)} (ho : o.op = .build t parts) (hi : P.info? t = some i) (hz : i.zero = some z)
  (h1 : z.cells.toList.all Value.oneCell' = true) (hf : Pu P t = some fs) (hpl : Qa P t = some pl) (hq : HH pl z.cells.size parts.toList = some qs) (hm : Mem C h w M ι)
  (hx : ∀ x0 y, x0 ∈ parts.toList.map (·.2) -> trE x0 = some y -> Rel M w ι h (E y) (a.eval x0)) : Sim P G C h w M ι o a E d (.build (z.cells.toList.map De) qs) := by
 intro hφ
 replace hφ : ∀ p ∈ qs, (E p.2.2).shaped = true /\ (E p.2.2).cells.length = p.2.1 := hφ
 have hu : P.underlying t = some (.struct fs) := by
  unfold Pu at hf
  split at hf
  ·rename_i fs' hu; injection hf with hf; rw [hu, hf]
  ·cases hf
 have hpl' : (fs.toList.mapM fun f => (szT P f.type).map fun n => (f.offset, n)) = some pl := by
  unfold Qa at hpl
  rw [hf] at hpl
  exact hpl
 have hall := TB (E := E) (R := Rel M w ι h) (ρ := a.eval) hq (fun p hp => (hφ p hp).2) (fun i x off sz y m1 m2 e => by
  have := hx x y (Am.2 ⟨(i, x), m1, rfl⟩) e
  exact this.cells (hφ _ m2).1)
 obtain ⟨cells', f1, f2, f3, f4, f5⟩ := SK (R := Rel M w ι h) (place := fun i => pl[i]?) (parts.toList.map fun p => (p.1, a.eval p.2)) (qs.map fun p => (p.1, (E p.2.2).cells)) z.cells (z.cells.toList.map De) (by simp)
  (fun c hc => Ch.1 h1 c hc) (fun i v hi' => by
   rw [BC] at hi'
   obtain ⟨c, hc, rfl⟩ := AY.1 hi'
   have : z.cells.getD i undef = c := by rw [Cv] at hc; simp [hc]
   rw [this]
   exact .pur (Ks M _ c)) hall
 refine .run (cv := .agg cells') (w' := w) ?_ (Ay.same hm (.agg _ _ f2 f4 f5))
 have hmp := Ahf (P := P) hpl' w
 have e1 : (parts.map fun (x : Nat × Operand) => (x.1, a.eval x.2)).toList = parts.toList.map fun p => (p.1, a.eval p.2) := by simp
 have hmpA : ((fs.mapM fun f => do pure (f.offset, <- sizeOf f.type) : Sem (Array (Nat × Nat)))).run P w = .ok pl.toArray w := by
  have e0 : (fun (f : Field) => (do pure (f.offset, <- sizeOf f.type) : Sem (Nat × Nat))) = fun f => Prod.mk f.offset <$> sizeOf f.type := by funext f; simp
  rw [e0]
  obtain ⟨fl⟩ := fs
  have e2 : ((⟨fl⟩ : Array Field).mapM fun f => Prod.mk f.offset <$> sizeOf f.type : Sem (Array (Nat × Nat))) = List.toArray <$> (fl.mapM fun f => Prod.mk f.offset <$> sizeOf f.type) := by
   simp
  rw [e2, Sem.run_map, hmp]
  rfl
 have f1' : Instr.fill (fun i => pl.toArray[i]?) z.cells (parts.toList.map fun p => (p.1, a.eval p.2)) = some cells' := by simpa using f1
 simp only [execOp, ho, Instr.build, AA, zeroValue, typeInfo, run_program, hi, hz, AK, Bb, run_underlying hu, hmpA, e1, f1']
def Abw (P : Program) (t : TypeId) : Option (List (Nat × Nat)) :=
 match P.underlying t with
 | some (.array n e) => (szT P e).map fun k => (List.range n).map fun i => (i * k, k)
 | _ => none
def TE (P : Program) (t : TypeId) : Option (List (Nat × Nat)) :=
 match Qa P t with
 | some pl => some pl
 | none => Abw P t
theorem Aaf {p q : Nat -> Option (Nat × Nat)} (h : ∀ i x, p i = some x -> q i = some x) : ∀ (l : List (Nat × Value)) {cells c : Array Value}, Instr.fill p cells l = some c -> Instr.fill q cells l = some c
 | [], _, _, e => e
 | (i, v) :: l, cells, c, e => by
  rw [Instr.fill] at e ⊢
  split at e
  ·cases e
  ·rename_i off size hp
   rw [h _ _ hp]
   dsimp only
   split at e
   ·cases e
   ·rename_i hc
    rw [if_neg hc]
    exact Aaf h l e
theorem AjU {t e : TypeId} {n k : Nat} {i : TypeInfo} {z : Value} {parts : Array (Nat × Operand)} {qs : List (Nat × Nat × AE)} (ho : o.op = .build t parts) (hi : P.info? t = some i) (hz : i.zero = some z)
  (h1 : z.cells.toList.all Value.oneCell' = true) (hu : P.underlying t = some (.array n e)) (hk : szT P e = some k) (hq : HH ((List.range n).map fun i => (i * k, k)) z.cells.size parts.toList = some qs) (hm : Mem C h w M ι)
  (hx : ∀ x0 y, x0 ∈ parts.toList.map (·.2) -> trE x0 = some y -> Rel M w ι h (E y) (a.eval x0)) : Sim P G C h w M ι o a E d (.build (z.cells.toList.map De) qs) := by
 intro hφ
 replace hφ : ∀ p ∈ qs, (E p.2.2).shaped = true /\ (E p.2.2).cells.length = p.2.1 := hφ
 have hall := TB (E := E) (R := Rel M w ι h) (ρ := a.eval) hq (fun p hp => (hφ p hp).2) (fun i x off sz y m1 m2 e => by
  have := hx x y (Am.2 ⟨(i, x), m1, rfl⟩) e
  exact this.cells (hφ _ m2).1)
 obtain ⟨cells', f1, f2, f3, f4, f5⟩ := SK (R := Rel M w ι h) (place := fun i => ((List.range n).map fun i => (i * k, k))[i]?) (parts.toList.map fun p => (p.1, a.eval p.2)) (qs.map fun p => (p.1, (E p.2.2).cells)) z.cells (z.cells.toList.map De) (by simp)
  (fun c hc => Ch.1 h1 c hc) (fun i v hi' => by
   rw [BC] at hi'
   obtain ⟨c, hc, rfl⟩ := AY.1 hi'
   have : z.cells.getD i undef = c := by rw [Cv] at hc; simp [hc]
   rw [this]
   exact .pur (Ks M _ c)) hall
 refine .run (cv := .agg cells') (w' := w) ?_ (Ay.same hm (.agg _ _ f2 f4 f5))
 have e1 : (parts.map fun (x : Nat × Operand) => (x.1, a.eval x.2)).toList = parts.toList.map fun p => (p.1, a.eval p.2) := by simp
 have f1' := Aaf (q := fun i => some (i * k, k)) (fun i x hx => by
  rw [BC] at hx
  obtain ⟨j, hj, rfl⟩ := AY.1 hx
  have := BQ.1 hj
  obtain ⟨hlt, he⟩ := this
  rw [List.getElem_range] at he
  subst he; rfl) _ f1
 simp only [execOp, ho, Instr.build, AA, zeroValue, typeInfo, run_program, hi, hz, AK, Bb, run_underlying hu, run_sizeOf hk, e1, f1']
theorem AjT {t : TypeId} {i : TypeInfo} {z : Value} {pl : List (Nat × Nat)} {parts : Array (Nat × Operand)} {qs : List (Nat × Nat × AE)} (ho : o.op = .build t parts) (hi : P.info? t = some i) (hz : i.zero = some z)
  (h1 : z.cells.toList.all Value.oneCell' = true) (hpl : TE P t = some pl) (hq : HH pl z.cells.size parts.toList = some qs) (hm : Mem C h w M ι)
  (hx : ∀ x0 y, x0 ∈ parts.toList.map (·.2) -> trE x0 = some y -> Rel M w ι h (E y) (a.eval x0)) : Sim P G C h w M ι o a E d (.build (z.cells.toList.map De) qs) := by
 unfold TE at hpl
 split at hpl
 ·rename_i pl' hp
  injection hpl with hpl
  subst hpl
  cases hf : Pu P t with
  | none => unfold Qa at hp; rw [hf] at hp; cases hp
  | some fs => exact AjV ho hi hz h1 hf hp hq hm hx
 ·unfold Abw at hpl
  split at hpl
  ·rename_i n e hu
   obtain ⟨k, hk, rfl⟩ := AY.1 hpl
   exact AjU ho hi hz h1 hu hk hq hm hx
  ·cases hpl
end
section
variable {P : Program} {U : Tbl} {C : Ctx U} {h : Nat -> Option Ob} {w : World} {M : Nat -> Prop} {ι : Nat -> Value} {o : Oper} {a : Act} {E : AE -> V} {G : Tab} {d : Nat}
theorem Gx {vs : List V} (hp : V.purs vs = true) : ∀ {i : Nat} {v : V}, vs[i]? = some v -> v.pur = true := by
 intro i v hi
 induction vs generalizing i with
 | nil => simp at hi
 | cons u us ih =>
  simp only [V.purs, Bx] at hp
  cases i with
  | zero => simp only [Fa, BS] at hi; subst hi; exact hp.1
  | succ i => rw [DM] at hi; exact ih hp.2 hi
theorem Rel.toPur {v : V} {cv : Value} (r : Rel M w ι h v cv) : v.pur = true -> Pur M w v cv := by
 induction r with
 | pur hp => exact fun _ => hp
 | agg vs cs hl ho _ ih => exact fun hp => .agg vs cs hl ho (fun i v hi => ih i v hi (Gx (by simpa [V.pur] using hp) hi))
 | tup vs cs hl _ ih => exact fun hp => .tup vs cs hl (fun i v hi => ih i v hi (Gx (by simpa [V.pur] using hp) hi))
 | fn n vs cs hl _ ih => exact fun hp => .fn n vs cs hl (fun i v hi => ih i v hi (Gx (by simpa [V.pur] using hp) hi))
 | when b v cv _ hf ih => exact fun hp => .when b v cv (fun e => ih e (by simpa [V.pur] using hp)) hf
 | _ => exact fun hp => by simp [V.pur] at hp
theorem Pur.wide {M' : Nat -> Prop} (hM : ∀ b, M b -> M' b) {v : V} {cv : Value} (hp : Pur M w v cv) : Pur M' w v cv := hp.mono hM (fun _ _ => rfl)
theorem Mem.grow (hm : Mem C h w M ι) {w' : World} {M' : Nat -> Prop} (m1 : ∀ b, M b -> M' b) (m2 : ∀ b, M' b -> b < w'.heap.size) (m3 : ∀ b, b < w.heap.size -> M' b -> M b) (hb : Below w.heap.size w w') : Mem C h w' M' ι :=
 ⟨fun n ob hn => (hm.obj n ob hn).keep m1 (fun b hb' => hb.block b (hm.lt b hb')) (Keeps.refl _ _) rfl (fun b hb' => hb.block b (hm.blt n b (by rw [hn]; rfl) hb')), hm.dis,
  fun n b hs hb' hM => hm.imm n b hs hb' (m3 b (hm.blt n b hs hb') hM), m2, hm.may, HB hm.size hb.size,
  fun b hb' hx' => (hb.block b (Is hb' hm.size)).trans (hm.keep b hb' hx'), hb.os.trans hm.os, hb.tape.trans hm.tape, hb.output.trans hm.output, fun b h0 => m1 b (hm.base b h0), U.keep w w' (fun b h => hb.block b (hm.lt b (hm.tm b h))) hm.tb, fun b h => m1 b (hm.tm b h), fun b h0 h1 => hm.old b h0 (m3 b (Is h0 hm.size) h1), hm.arr0, hm.pin⟩
end
theorem Aag {sz : Nat} : ∀ (vs : List Value) (start : Nat) (cells : Array Value), (∀ v ∈ vs, v.cells.size = sz) -> (start + vs.length) * sz <= cells.size ->
  ∃ cells', Instr.fill (fun i => some (i * sz, sz)) cells (vs.zipIdx start |>.map fun p => (p.2, p.1)) = some cells' /\ cells'.size = cells.size /\ (∀ k, k < start * sz -> cells'[k]? = cells[k]?) /\
   ∀ (i j : Nat) (v : Value), vs[i]? = some v -> j < sz -> cells'[(start + i) * sz + j]? = v.cells[j]?
 | [], start, cells, _, _ => ⟨cells, rfl, rfl, fun _ _ => rfl, fun i j v hi _ => by simp at hi⟩
 | v :: vs, start, cells, hv, hle => by
  have hvs := hv v (AH ..)
  have hst : start * sz + sz <= (start + (v :: vs).length) * sz := by rw [<- EI]; exact CB _ (by simp only [Aw]; omega)
  obtain ⟨f1, f2⟩ := Aaq (start * sz) v.cells cells (by omega)
  obtain ⟨c', i1, i2, i3, i4⟩ := Aag vs (start + 1) (v.cells.zipIdx.foldl (fun cs (c, j) => cs.setIfInBounds (start * sz + j) c) cells) (fun u hu => hv u (AU _ hu)) (by rw [f1, show start + 1 + vs.length = start + (v :: vs).length by simp only [Aw]; omega]; exact hle)
  refine ⟨c', ?_, i2.trans f1, fun k hk => ?_, fun i j u hi hj => ?_⟩
  ·rw [List.zipIdx_cons, BE, Instr.fill]
   dsimp only
   rw [if_neg, i1]
   simp only [bne_iff_ne, ne_eq, Gd, decide_eq_true_eq, not_or]
   omega
  ·rw [i3 k (by rw [EI]; omega), f2, if_neg (by omega)]
  ·cases i with
   | zero =>
    simp only [Fa, BS] at hi
    subst hi
    rw [Fe, i3 _ (by rw [EI]; omega), f2, if_pos (by omega), show start * sz + j - start * sz = j by omega]
   | succ i =>
    rw [DM] at hi
    rw [show start + (i + 1) = start + 1 + i by omega]
    exact i4 i j u hi hj
def HL (k : Nat) : List (Nat × Operand) -> Option (List AE)
 | [] => some []
 | (i, x) :: r => if i = k then (match trE x, HL (k + 1) r with | some y, some r' => some (y :: r') | _, _ => none) else none
section
variable {P : Program} {U : Tbl} {C : Ctx U} {h : Nat -> Option Ob} {w : World} {M : Nat -> Prop} {ι : Nat -> Value} {o : Oper} {a : Act} {E : AE -> V} {G : Tab} {d : Nat}
theorem Acf {ρ : Operand -> Value} : ∀ {ps : List (Nat × Operand)} {k : Nat} {qs : List AE}, HL k ps = some qs -> (ps.map fun p => (p.1, ρ p.2)) = ((ps.map fun p => ρ p.2).zipIdx k).map fun p => (p.2, p.1)
 | [], _, _, _ => rfl
 | (i, x) :: r, k, qs, hq => by
  unfold HL at hq
  split at hq
  ·rename_i he
   subst he
   split at hq
   ·rename_i y r' h1 h2
    simp only [BE, List.zipIdx_cons]
    rw [Acf (ρ := ρ) h2]
   ·cases hq
  ·cases hq
theorem Ace : ∀ {ps : List (Nat × Operand)} {k : Nat} {qs : List AE}, HL k ps = some qs -> qs.length = ps.length /\ ∀ (i : Nat) (y : AE), qs[i]? = some y -> ∃ p, ps[i]? = some p /\ trE p.2 = some y
 | [], _, qs, hq => by simp [HL] at hq; subst hq; exact ⟨rfl, fun i y hi => by simp at hi⟩
 | (j, x) :: r, k, qs, hq => by
  unfold HL at hq
  split at hq
  ·split at hq
   ·rename_i y r' h1 h2
    injection hq with hq
    subst hq
    obtain ⟨g1, g2⟩ := Ace h2
    refine ⟨by simp [g1], fun i y' hi => ?_⟩
    cases i with
    | zero => simp only [Fa, BS] at hi; subst hi; exact ⟨(j, x), rfl, h1⟩
    | succ i => rw [DM] at hi ⊢; exact g2 i y' hi
   ·cases hq
  ·cases hq
theorem AeF {v : V} (h : v.pur = true) {j : Nat} {u : V} (hu : v.cells[j]? = some u) : u.pur = true := by
 have one : v.cells = [v] -> u.pur = true := fun e => by
  rw [e] at hu
  have := Bk hu
  rw [Bp] at this
  rw [this]; exact h
 cases v with
 | agg vs => exact Gx (vs := vs) (by simpa only [V.pur] using h) hu
 | _ => exact one rfl
theorem AdY (hm : Mem C h w M ι) {ob : Obj} (v : V) (cv : Value)
  (hv : (∀ b, M b -> (w.alloc ob).heap[b]? = w.heap[b]?) -> ∀ M' : Nat -> Prop, (∀ b, M b -> M' b) -> M' w.heap.size -> Rel M' (w.alloc ob) ι h v cv) : Ay C h w M ι h v cv (w.alloc ob) := by
 have hb : Below w.heap.size w (w.alloc ob) := (LQ _ w).alloc (AF _) ob
 have hMw : ∀ b, M b -> (w.alloc ob).heap[b]? = w.heap[b]? := fun b hb' => hb.block b (hm.lt b hb')
 refine ⟨fun b => M b \/ b = w.heap.size, ι, hm.grow (fun _ h => .inl h) (fun b hb' => ?_) (fun b hlt hb' => hb'.resolve_right (by omega)) hb, hv hMw _ (fun _ h => .inl h) (.inr rfl), fun _ h => .inl h, hMw, Keeps.refl _ _⟩
 have hs : (w.alloc ob).heap.size = w.heap.size + 1 := by simp
 rcases hb' with hb' | rfl
 ·have := hm.lt b hb'; omega
 ·omega
theorem Pur.nn1 {M : Nat -> Prop} {w : World} {v : V} {cv : Value} (h : Pur M w v cv) : Pur M w v.nn1 cv := by
 cases h with
 | nils => exact .list [] false none 0 0 0 0 (fun _ _ => undef) (fun _ => rfl) (AF _) (fun _ => rfl) (.inl rfl) (fun r hr => by simp at hr) (fun i j hi _ => absurd hi (Ee _)) (fun i j r v hi => by simp at hi)
 | any cv => exact .any cv
 | bool b => exact .bool b
 | int k n => exact .int k n
 | str s => exact .str s
 | nilp => exact .nilp
 | nilm => exact .nilm
 | pin cv => exact .pin cv
 | fmap es es0 b ents clock f hb hh hs he hv => exact .fmap es es0 b ents clock f hb hh hs he hv
 | agg vs cs hl ho hv => exact .agg vs cs hl ho hv
 | tup vs cs hl hv => exact .tup vs cs hl hv
 | list rows fit a cap sz g off f hf hcap hn ha hr hc hv => exact .list rows fit a cap sz g off f hf hcap hn ha hr hc hv
 | row vs off g o f hg hc hv => exact .row vs off g o f hg hc hv
 | fn n vs cs hl hv => exact .fn n vs cs hl hv
 | when b v cv ht hf => exact .when b v cv ht hf
theorem Pur.list_nn1 {M : Nat -> Prop} {w : World} {rows : List (List V)} {fit : Bool} {cv : Value} (h : Pur M w (.list rows fit) cv) : Pur M w (.list (rows.map (·.map V.nn1)) fit) cv := by
 cases h with
 | list _ _ a cap sz g off f hf hcap hn ha hr hc hv =>
  have := Pur.list (M := M) (w := w) (rows.map (·.map V.nn1)) fit a cap sz g off f (by rwa [Ac]) (by rwa [Ac]) hn (ha.imp (fun e => by rw [e]; rfl) id) (fun r hr' => by obtain ⟨q, hq, rfl⟩ := Am.1 hr'; rw [Ac]; exact hr q hq) (fun i j hi hj => hc i j (by rwa [Ac] at hi) hj) (fun i j r v h1 h2 => by
   rw [BC] at h1
   obtain ⟨q, hq, rfl⟩ := AY.1 h1
   rw [BC] at h2
   obtain ⟨u, hu, rfl⟩ := AY.1 h2
   exact (hv i j q u hq hu).nn1)
  rwa [Ac] at this
theorem AcK (ow : Bool) {t e : TypeId} {n sz : Nat} {i : TypeInfo} {z : Value} {parts : Array (Nat × Operand)} {qs : List AE} (ho : o.op = .buildSlice t n parts) (ht : P.underlying t = some (.slice e)) (hs : szT P e = some sz) (hi : P.info? e = some i) (hz : i.zero = some z)
  (hzs : 0 < sz) (hbig : n * sz <= 16777216) (hn : parts.size = n) (hq : HL 0 parts.toList = some qs) (hm : Mem C h w M ι)
  (hx : ∀ x0 y, x0 ∈ parts.toList.map (·.2) -> trE x0 = some y -> Rel M w ι h (E y) (a.eval x0)) : Sim P G C h w M ι o a E d (.slc e sz ow qs) := by
 show (Hq d h e sz ow E qs).φ -> CZ P o a w (Ay C h w M ι (Ck h (Hq d h e sz ow E qs).w) (Hq d h e sz ow E qs).v)
 have q3 : (Hq d h e sz ow E qs).φ -> ∀ p ∈ qs, (E p).shaped = true /\ (E p).cells.length = sz := by
  unfold Hq; split
  ·exact fun hφ => hφ
  ·exact fun hφ => hφ.2.2
 intro hφ0
 replace q3 := q3 hφ0
 obtain ⟨g1, g2⟩ := Ace hq
 have hzip := Acf (ρ := a.eval) hq
 have hget : ∀ (i : Nat) (y : AE), qs[i]? = some y -> ∃ v, (parts.toList.map fun p => a.eval p.2)[i]? = some v /\ (E y).cells.length = v.cells.size /\ (∀ c ∈ v.cells.toList, c.oneCell' = true) /\ ∀ (j : Nat) (u : V), (E y).cells[j]? = some u -> Rel M w ι h u (v.cells.getD j undef) := by
  intro i y hi'
  obtain ⟨p, h1, h2⟩ := g2 i y hi'
  have hr := hx p.2 y (Am.2 ⟨p, Bk h1, rfl⟩) h2
  exact ⟨a.eval p.2, by rw [BC, h1]; rfl, hr.cells (q3 y (Bk hi')).1⟩
 have hsizes : ∀ v ∈ parts.toList.map fun p => a.eval p.2, v.cells.size = sz := by
  intro v hv
  obtain ⟨k, hk, hk2⟩ := FY.1 hv
  have hkq : k < qs.length := by rw [g1]; simpa using hk
  obtain ⟨v', h1, h2, _⟩ := hget k _ (Bm hkq)
  rw [Bm hk, hk2] at h1
  injection h1 with h1
  subst h1
  rw [<- h2]
  exact (q3 _ (AI hkq)).2
 generalize hvs : (parts.toList.map fun p => a.eval p.2) = vs at *
 have hvl : vs.length = n := by rw [<- hvs]; simpa using hn
 have hql : qs.length = n := by rw [g1]; simpa using hn
 obtain ⟨cells', f1, f2, _, f4⟩ := Aag vs 0 ((Array.range (n * sz)).map fun k => z.cells[k % z.cells.size]!) hsizes (by simp [hvl])
 rw [<- hzip] at f1
 have f2' : cells'.size = n * sz := by rw [f2]; simp
 have hcell : ∀ (k : Nat), k < n * sz -> ∃ (y : AE) (v : Value), qs[k / sz]? = some y /\ vs[k / sz]? = some v /\ k % sz < sz /\ cells'[k]? = v.cells[k % sz]? /\ (E y).cells.length = v.cells.size /\ (∀ c ∈ v.cells.toList, c.oneCell' = true) /\ ∀ (j : Nat) (u : V), (E y).cells[j]? = some u -> Rel M w ι h u (v.cells.getD j undef) := by
  intro k hk
  have h1 : k / sz < n := Nat.div_lt_of_lt_mul (by rw [LN]; exact hk)
  have h2 : k % sz < sz := Nat.mod_lt _ hzs
  obtain ⟨v, e1, e2, e3, e4⟩ := hget _ _ (Bm (show k / sz < qs.length by omega))
  refine ⟨_, v, Bm (by omega), e1, h2, ?_, e2, e3, e4⟩
  have := f4 (k / sz) (k % sz) v e1 h2
  rwa [CI, Nat.div_add_mod'] at this
 have hone : ∀ x ∈ cells'.toList, x.oneCell' = true := by
  intro x hx'
  obtain ⟨k, hk, hk2⟩ := FY.1 hx'
  have hk3 : k < n * sz := by rw [<- f2']; simpa using hk
  obtain ⟨y, v, e1, e2, e3, e4, e5, e6, _⟩ := hcell k hk3
  have : cells'[k]? = some x := by rw [<- Cv, Bm hk, hk2]
  rw [this] at e4
  exact e6 x (Bk (by rw [Cv]; exact e4.symm))
 refine .run (cv := .slice (some ⟨w.heap.size, 0, none⟩) n n) (w' := w.alloc (.cells cells' e)) ?_ ?_
 ·have e1 : (parts.map fun (x : Nat × Operand) => (x.1, a.eval x.2)).toList = parts.toList.map fun p => (p.1, a.eval p.2) := by simp
  have hlt : ¬ (16777216 < n * sz) := by omega
  by_cases h0 : n * sz = 0
  ·have hr0 : ∀ (zz : Array Value), ((Array.range (n * sz)).map fun k => zz[k % zz.size]!) = #[] := fun zz => by rw [h0]; simp
   rw [hr0] at f1
   simp only [execOp, ho, Instr.buildSlice, AA, run_underlying ht, AK, run_sizeOf hs]
   rw [if_neg (by simpa using hlt)]
   simp only [Bb, AA, AK, if_pos h0, hr0, e1, f1, newRow, run_newObj]
   rfl
  ·simp only [execOp, ho, Instr.buildSlice, AA, run_underlying ht, AK, run_sizeOf hs]
   rw [if_neg (by simpa using hlt)]
   simp only [Bb, AA, AK, if_neg h0, zeroValue, typeInfo, run_program, hi, hz, e1, f1, newRow, run_newObj]
   rfl
 ·have hown : (w.alloc (.cells cells' e)).ownsRow 0 e sz (.slice (some ⟨w.heap.size, 0, none⟩) n n) n cells'.toList := World.ownsRow_lit w cells' n (As _) (by
    have : n * 1 <= n * sz := Nq _ hzs
    unfold maxLen; omega) f2'
  revert hφ0
  unfold Hq
  split
  ·rename_i hpure
   intro _
   simp only [Bx] at hpure
   have hpur := hpure.2.2
   refine AdY hm (.list (qs.map fun p => (E p).cells.map V.nn1) false) _ fun hMw M' hM hM2 => ?_
   have hrows : ∀ (i j : Nat) (r : List V) (v : V), (qs.map fun p => (E p).cells)[i]? = some r -> r[j]? = some v -> i < n /\ j < sz /\ v.pur = true /\ Rel M (w.alloc (.cells cells' e)) ι h v (cells'.toList.getD (i * sz + j) undef) := by
    intro i j r v h1 h2
    rw [BC] at h1
    obtain ⟨y, hy, rfl⟩ := AY.1 h1
    have hj : j < sz := by rw [<- (q3 y (Bk hy)).2]; exact (BQ.1 h2).1
    have hin : i < n := by rw [<- hql]; exact (BQ.1 hy).1
    obtain ⟨v', e1, e2, e3, e4⟩ := hget i y hy
    have := f4 i j v' e1 hj
    rw [CI] at this
    have hcell' : cells'.toList.getD (i * sz + j) undef = v'.cells.getD j undef := by
     rw [AS, Cv, this]; simp
    rw [hcell']
    exact ⟨hin, hj, AeF (Ch.1 hpur y (Bk hy)) h2, (e4 j v h2).keep (fun _ hb => hb) hMw (Keeps.refl _ _)⟩
   have hln : (qs.map fun p => (E p).cells).length = n := by rw [Ac, hql]
   have e0 := Pur.list (M := M') (w := w.alloc (.cells cells' e)) (qs.map fun p => (E p).cells) false (some ⟨w.heap.size, 0, none⟩) n sz w.heap.size 0 (fun i j => cells'.toList.getD (i * sz + j) undef) (fun e => by cases e) (by rw [hln]; exact AF _) (fun e => by cases e) (.inr ⟨rfl, hM2⟩) (fun r hr => by obtain ⟨p, hp, rfl⟩ := Am.1 hr; exact (q3 p hp).2) (fun i j hi hj => ?_) (fun i j r v h1 h2 => ?_)
   ·rw [hln] at e0
    have e1 := e0.list_nn1
    rw [Kw] at e1
    exact .pur e1
   ·rw [hln] at hi
    have hlt : i * sz + j < cells'.toList.length := by
     rw [Ep, f2']
     have : i * sz + sz <= n * sz := by rw [<- EI]; exact CB _ hi
     omega
    have hx2 := En undef hlt
    refine ⟨?_, hone _ (Bk hx2)⟩
    rw [CI]
    rw [cell_of_row _ w.heap.size _ cells' e (0, 0) (heap_alloc_new w _), <- Cv]
    exact hx2
   ·obtain ⟨_, _, hp, hr⟩ := hrows i j r v h1 h2
    exact (hr.toPur hp).wide hM
  rintro ⟨q1, q2, _⟩
  refine HZ hm q1 q2 (.arr e sz (qs.map fun p => (E p).cells)) (.slice (some ⟨w.heap.size, 0, none⟩) n n) (w.alloc (.cells cells' e)) (by simp) rfl rfl rfl (fun k hk => heap_alloc_old w _ hk) (fun g hg => by cases hg; exact AF _) (fun {h' ι'} hk hi' hMw => ?_) ?_
  ·refine ⟨cells'.toList, by rw [hi', Ac, hql]; exact hown, fun r hr => ?_, hone, fun i j r v h1 h2 => ?_⟩
   ·obtain ⟨p, hp, rfl⟩ := Am.1 hr
    exact (q3 p hp).2
   ·rw [BC] at h1
    obtain ⟨y, hy, rfl⟩ := AY.1 h1
    have hj : j < sz := by rw [<- (q3 y (Bk hy)).2]; exact (BQ.1 h2).1
    have hin : i < n := by rw [<- hql]; exact (BQ.1 hy).1
    obtain ⟨v', e1, e2, e3, e4⟩ := hget i y hy
    have := f4 i j v' e1 hj
    rw [CI] at this
    have hcell' : cells'.toList.getD (i * sz + j) undef = v'.cells.getD j undef := by
     rw [AS, Cv, this]; simp
    rw [hcell']
    exact (e4 j v h2).keep (fun _ hb => hb) hMw hk
  ·exact .own d qs.length e sz _ _ (Dd _ _ _) (by rw [Ac]; exact AF _) (fun _ => (CU _ _ _).symm) rfl
end
def On (M : Nat -> Prop) (w : World) (ι : Nat -> Value) (h : Nat -> Option Ob) (cv : Value) (sz : Nat) (rows : List (List V)) : Prop :=
 (cv = .slice none 0 0 /\ rows = []) \/ ∃ (ad : Addr) (c : Nat) (news : List Value), cv = .slice (some ad) rows.length c /\ news.length = rows.length * sz /\ (∀ j u, news[j]? = some u -> w.cell? (ad.add j) = some u) /\ (∀ u ∈ news, u.oneCell' = true) /\
  ∀ (i j : Nat) (r : List V) (v : V), rows[i]? = some r -> r[j]? = some v -> Rel M w ι h v (news.getD (i * sz + j) undef)
section
variable {P : Program} {U : Tbl} {C : Ctx U} {h : Nat -> Option Ob} {w : World} {M : Nat -> Prop} {ι : Nat -> Value} {o : Oper} {a : Act} {E : AE -> V} {G : Tab} {d : Nat}
theorem KJ (hm : Mem C h w M ι) {y : V} {cv : Value} (hy : Rel M w ι h y cv) {rows : List (List V)} (hr : HJ h y = some rows) {sz : Nat} (hsz : ∀ r ∈ rows, r.length = sz) : On M w ι h cv sz rows := by
 unfold HJ at hr
 cases y with
 | list rows' fit =>
  injection hr with hr
  subst hr
  obtain ⟨x, cap, g, off, sz', hcv, _, _, hnone, hne, hrl, f, hc, hv⟩ := hy.list_inv
  by_cases h0 : rows' = []
  ·subst h0
   cases x with
   | none => have := hnone rfl; subst this; exact .inl ⟨hcv, rfl⟩
   | some ad => exact .inr ⟨ad, cap, [], hcv, by simp, fun j u hj => by simp at hj, fun u hu => by simp at hu, fun i j r v hi => by simp at hi⟩
  ·obtain ⟨rfl, hM⟩ := hne.resolve_left h0
   have hss : sz' = sz := by
    obtain ⟨r, hr⟩ := NK _ h0
    rw [<- hrl r hr, hsz r hr]
   subst hss
   have hk : ∀ k, k < rows'.length * sz' -> k / sz' < rows'.length /\ k % sz' < sz' := fun k hk => by
    have hpos : 0 < sz' := by rcases Nat.eq_zero_or_pos sz' with e | e <;> first | exact e | (rw [e, Nat.mul_zero] at hk; omega)
    exact ⟨Nat.div_lt_of_lt_mul (by rw [LN]; exact hk), Nat.mod_lt _ hpos⟩
   refine .inr ⟨⟨g, off, none⟩, cap, (List.range (rows'.length * sz')).map fun k => f (k / sz') (k % sz'), hcv, by simp, fun j u hj => ?_, fun u hu => ?_, fun i j r v hi hj => ?_⟩
   ·have hlt : j < rows'.length * sz' := by have := (BQ.1 hj).1; simpa using this
    obtain ⟨h1, h2⟩ := hk j hlt
    simp only [BC, List.getElem?_range hlt, Er, BS] at hj
    subst hj
    rw [DW]
    have := (hc _ _ h1 h2).1
    rwa [show off + j / sz' * sz' + j % sz' = off + j by rw [Jh, Nat.div_add_mod']] at this
   ·simp only [Am, LL] at hu
    obtain ⟨k, hlt, rfl⟩ := hu
    obtain ⟨h1, h2⟩ := hk k hlt
    exact (hc _ _ h1 h2).2
   ·have hj' : j < sz' := by rw [<- hrl r (Bk hi)]; exact (BQ.1 hj).1
    have hlt := SU hrl hi hj
    rw [AS, BC, List.getElem?_range hlt]
    simp only [Er, Fd]
    have e1 : (i * sz' + j) / sz' = i := by rw [LN, Nat.mul_add_div (by omega), Nat.div_eq_of_lt hj', Fe]
    have e2 : (i * sz' + j) % sz' = j := by rw [LN, Nat.mul_add_mod, PN hj']
    rw [e1, e2]
    exact .pur (hv i j r v hi hj)
 | nils =>
  injection hr with hr
  subst hr
  exact .inl ⟨hy.nils_inv, rfl⟩
 | pin c =>
  replace hr : PZ c = some rows := hr
  unfold PZ at hr
  split at hr
  ·injection hr with hr
   subst hr
   exact .inr ⟨_, _, [], hy.pin_inv, by simp, fun j u hj => by simp at hj, fun u hu => by simp at hu, fun i j r v hi => by simp at hi⟩
  ·cases hr
 | own n len =>
  dsimp only at hr
  obtain ⟨t', sz', rows', hn, hle, hv⟩ := hy.own_inv
  rw [hn] at hr
  dsimp only at hr
  split at hr
  ·rename_i hlen
   injection hr with hr
   subst hr
   have hcv := hv hlen
   obtain ⟨xs, hown, hrl, hx1, hxr⟩ := hm.obj n _ hn
   rcases hown.2 with ⟨e, h0⟩ | ⟨g, cap, cur, e, _, hh, _⟩
   ·have : rows' = [] := Hy.1 h0
    exact .inl ⟨hcv.trans e, this⟩
   ·by_cases h0 : rows' = []
    ·subst h0
     exact .inr ⟨⟨g, 0, none⟩, cap, [], hcv.trans e, by simp, fun j u hj => by simp at hj, fun u hu => by simp at hu, fun i j r v hi => by simp at hi⟩
    ·have hss : sz' = sz := by
      obtain ⟨r, hr⟩ := NK _ h0
      rw [<- hrl r hr, hsz r hr]
     subst hss
     exact .inr ⟨⟨g, 0, none⟩, cap, xs, hcv.trans e, hown.1, hown.cells (g := g) (by rw [e]; rfl), hx1, hxr⟩
  ·cases hr
 | vw n off len m fit =>
  dsimp only at hr
  obtain ⟨t', sz', rows', hn, hle, hbo, hv⟩ := hy.vw_inv
  rw [hn] at hr
  dsimp only at hr
  split at hr
  ·rename_i hlen
   injection hr with hr
   obtain ⟨g, cap0, ad, cap, e, hcv, hlc, _, _, ha⟩ := hv hlen
   obtain ⟨xs, hown, hrl, hx1, hxr⟩ := hm.obj n _ hn
   have hl : rows.length = len := by rw [<- hr, BJ, BW]; omega
   by_cases h0 : len = 0
   ·subst h0
    have : rows = [] := Hy.1 hl
    subst this
    exact .inr ⟨ad, cap, [], hcv, by simp, fun j u hj => by simp at hj, fun u hu => by simp at hu, fun i j r v hi => by simp at hi⟩
   ·have hss : sz' = sz := by
     obtain ⟨r, hr2⟩ := NK rows (fun e => h0 (by rw [<- hl, e]; rfl))
     rw [<- hsz r hr2, <- hrl r (by rw [<- hr] at hr2; exact Fb (EG hr2))]
    subst hss
    have hxl : (off + len) * sz' <= xs.length := by rw [hown.1]; exact CB _ (by omega)
    have hget : ∀ j, j < len * sz' -> ((xs.drop (off * sz')).take (len * sz'))[j]? = xs[off * sz' + j]? := fun j hj => by rw [Ir hj, Jl]
    refine .inr ⟨ad, cap, (xs.drop (off * sz')).take (len * sz'), by rw [hl]; exact hcv, by rw [BJ, BW, hl]; rw [EJ] at hxl; omega, fun j u hj => ?_, fun u hu => hx1 u (Fb (EG hu)), fun i j r v hi hj => ?_⟩
    ·have hjl : j < len * sz' := by have := (BQ.1 hj).1; rw [BJ] at this; omega
     rw [hget j hjl] at hj
     have := hown.cells (g := g) (by rw [e]; rfl) _ _ hj
     rw [ha (by omega), DW]
     rwa [DW, CI] at this
    ·have hil : i < len := by have := (BQ.1 hi).1; omega
     rw [<- hr, Ir hil, Jl] at hi
     have hjs : j < sz' := by rw [<- hrl r (Bk hi)]; exact (BQ.1 hj).1
     have hij : i * sz' + j < len * sz' := by
      have : i * sz' + sz' <= len * sz' := by rw [<- EI]; exact CB _ hil
      omega
     rw [AS, hget _ hij, <- AS, <- Jh, <- EJ]
     exact hxr (off + i) j r v hi hj
  ·cases hr
 | _ => cases hr
theorem Ue {t e : TypeId} {i : TypeInfo} {z : Value} {sz bytes : Nat} (ty : TypeId) (ht : P.underlying t = some (.slice e)) (hi : P.info? e = some i) (hz : i.zero = some z) (hsz : i.size = sz) (hby : i.bytes = bytes) (hzs : z.cells.size = sz) (hpos : 0 < sz)
  {v0 : Value} {n : Nat} {xs : List Value} (hown : w.ownsRow 0 e sz v0 n xs) {cv : Value} {rows : List (List V)} (hy : On M w ι h cv sz rows) (hb : (n + rows.length) * (bytes + 1) <= 140737488355328) :
  ∃ (v' : Value) (w' : World) (news : List Value), (Builtin.append_ #[t, t] ty #[v0, cv]).run P w = .ok v' w' /\ w'.ownsRow 0 e sz v' (n + rows.length) (xs ++ news) /\ w.grownBy w' v0.ownBlock /\ news.length = rows.length * sz /\ (∀ u ∈ news, u.oneCell' = true) /\
   (∀ (i j : Nat) (r : List V) (v : V), rows[i]? = some r -> r[j]? = some v -> Rel M w ι h v (news.getD (i * sz + j) undef)) /\ (rows.length = 0 -> v' = v0) /\ ∀ g, blk v' = some g -> blk v0 = some g \/ w.heap.size <= g := by
 have hbb : (n + rows.length) * bytes <= 140737488355328 := HB (Nq _ (Nat.le_succ _)) hb
 have hll : n + rows.length <= 140737488355328 := by
  have : (n + rows.length) * 1 <= (n + rows.length) * (bytes + 1) := Nq _ (by omega)
  omega
 rcases hy with ⟨rfl, rfl⟩ | ⟨ad, c, news, rfl, hl, hc, h1, hr⟩
 ·have := run_append_owned_none (P := P) w 0 t ty e i sz ht hi v0 n xs hown
  refine ⟨v0, w, [], this, by simpa using hown, ⟨rfl, rfl, rfl, AF _, fun _ _ _ => rfl⟩, by simp, fun u hu => by simp at hu, fun i j r v hi => by simp at hi, fun _ => rfl, fun g hg => .inl hg⟩
 ·obtain ⟨v', w', hrun, hown', hgrow, hnil⟩ := run_append_own (P := P) w 0 t ty e i z sz bytes ht hi hz hsz hby hzs hpos v0 n xs hown ad rows.length c news hl hc h1 (by unfold maxLen; omega) hbb (As _)
  refine ⟨v', w', news, hrun, hown', hgrow, hl, h1, hr, ?_, ?_⟩
  ·intro h0
   rcases hown.2 with ⟨e0, hn0⟩ | ⟨g, cap, cur, e0, _, hg, hnc, _, hcs, _⟩
   ·rw [e0]; exact hnil.2 ⟨e0, h0⟩
   ·have hn0 : news = [] := Hy.1 (by rw [hl, h0, NH])
    have := run_append_room (P := P) w t ty e i ht hi g n cap cur hg ad rows.length c news (by rw [hl, hsz]) hc h1 (by omega) (by rw [hn0, hsz, hcs]; simp only [Ax, Fe]; exact CB _ hnc)
    rw [e0, this] at hrun
    injection hrun with e1 e2
    rw [<- e1, e0, h0, Fe]
  ·intro g' hg'
   rcases hown.2 with ⟨e0, hn0⟩ | ⟨g, cap, cur, e0, _, hg, hnc, _, hcs, _⟩
   ·by_cases h0 : rows.length = 0
    ·rw [hnil.2 ⟨e0, h0⟩] at hg'; cases hg'
    ·have := run_append_nil (P := P) w t ty e i z ht hi hz ad rows.length c news (by rw [hl, hsz]) hc (by omega) (by omega) (by rw [hby]; rw [hn0, CI] at hbb; omega)
     rw [e0, this] at hrun
     injection hrun with e1 e2
     rw [<- e1] at hg'
     injection hg' with hg'
     exact .inr (by rw [<- hg']; exact AF _)
   ·by_cases hroom : n + rows.length <= cap
    ·have := run_append_room (P := P) w t ty e i ht hi g n cap cur hg ad rows.length c news (by rw [hl, hsz]) hc h1 hroom (by rw [hl, hsz, hcs, <- EJ]; exact CB _ hroom)
     rw [e0, this] at hrun
     injection hrun with e1 e2
     rw [<- e1] at hg'
     injection hg' with hg'
     exact .inl (by rw [e0]; exact congrArg some hg')
    ·have hold : ∀ j u, xs[j]? = some u -> w.cell? ((⟨g, 0, none⟩ : Addr).add j) = some u := hown.cells (g := g) (by rw [e0]; rfl)
     have := run_append_grow (P := P) w t ty e i z ht hi hz ⟨g, 0, none⟩ n cap xs (by rw [hsz]; exact hown.1) hold ad rows.length c news (by rw [hl, hsz]) hc (by omega) (by omega) (growslice_fits (by omega) (by rw [hby]; exact hbb))
     rw [e0, this] at hrun
     injection hrun with e1 e2
     rw [<- e1] at hg'
     injection hg' with hg'
     exact .inr (by rw [<- hg']; exact AF _)
theorem Ab1 {t e : TypeId} {i : TypeInfo} {z : Value} {sz bytes : Nat} (ty : TypeId) (ht : P.underlying t = some (.slice e)) (hi : P.info? e = some i) (hz : i.zero = some z) (hsz : i.size = sz) (hby : i.bytes = bytes) (hzs : z.cells.size = sz) (hpos : 0 < sz)
  {v0 cv : Value} {olds rows : List (List V)} (hx : On M w ι h v0 sz olds) (hcap : ∀ b l c, v0 = .slice b l c -> c = olds.length) (hy : On M w ι h cv sz rows) (hne : rows ≠ []) (hb : (olds.length + rows.length) * (bytes + 1) <= 140737488355328) :
  ∃ (v' : Value) (w' : World) (xs news : List Value), (Builtin.append_ #[t, t] ty #[v0, cv]).run P w = .ok v' w' /\ w'.ownsRow 0 e sz v' (olds.length + rows.length) (xs ++ news) /\ w.grownBy w' none /\ xs.length = olds.length * sz /\ (∀ u ∈ xs, u.oneCell' = true) /\ (∀ u ∈ news, u.oneCell' = true) /\
   (∀ (i j : Nat) (r : List V) (v : V), olds[i]? = some r -> r[j]? = some v -> Rel M w ι h v (xs.getD (i * sz + j) undef)) /\
   (∀ (i j : Nat) (r : List V) (v : V), rows[i]? = some r -> r[j]? = some v -> Rel M w ι h v (news.getD (i * sz + j) undef)) /\ ∀ g, blk v' = some g -> w.heap.size <= g := by
 have hbb : (olds.length + rows.length) * bytes <= 140737488355328 := HB (Nq _ (Nat.le_succ _)) hb
 have hll : olds.length + rows.length <= 140737488355328 := by
  have : (olds.length + rows.length) * 1 <= (olds.length + rows.length) * (bytes + 1) := Nq _ (by omega)
  omega
 have hpr : 0 < rows.length := Ns.2 hne
 rcases hx with ⟨rfl, rfl⟩ | ⟨bd, c0, xs, rfl, hl0, hc0, h10, hr0⟩
 ·obtain ⟨v', w', news, r1, r2, r3, r4, r5, r6, _, r8⟩ := Ue (P := P) (M := M) (ι := ι) (h := h) ty ht hi hz hsz hby hzs hpos (World.ownsRow_nil w 0 e sz) hy (by simpa using hb)
  refine ⟨v', w', [], news, r1, by simpa using r2, ⟨r3.os, r3.tape, r3.output, r3.size, fun k hk _ => r3.block k hk (by simp [Value.ownBlock])⟩, by simp, fun u hu => (by simp at hu), r5, fun i j r v hi => (by simp at hi), r6, fun g hg => (r8 g hg).resolve_left (by simp [blk])⟩
 ·rcases hy with ⟨rfl, rfl⟩ | ⟨ad, c, news, rfl, hl, hc, h1, hr⟩
  ·exact absurd rfl hne
  ·have hcc := hcap _ _ _ rfl
   subst hcc
   have hsmall : olds.length + rows.length <= maxLen := by unfold maxLen; omega
   have this := run_append_grow (P := P) w t ty e i z ht hi hz bd olds.length olds.length xs (by rw [hsz]; exact hl0) hc0 ad rows.length c news (by rw [hl, hsz]) hc (by omega) (by omega) (growslice_fits (by omega) (by rw [hby]; exact hbb))
   have hge := grownCap_ge w (olds.length + rows.length) olds.length e
   have hcm : grownCap w (olds.length + rows.length) olds.length e <= maxLen := grownCap_le_maxLen w _ _ e hsmall
   have hlen : (xs ++ news).length = (olds.length + rows.length) * sz := by rw [An, hl0, hl, EJ]
   refine ⟨_, _, xs, news, this, ⟨hlen, .inr ⟨w.heap.size, _, _, rfl, As _, heap_alloc_new w.drew _, hge, hcm, ?_, ?_⟩⟩, ⟨rfl, rfl, rfl, by simp, fun k hk _ => heap_alloc_old w.drew _ hk⟩, hl0, h10, h1, hr0, hr, fun g hg => ?_⟩
   ·simp only [NA, Gt, size_zeroCells, hzs, hl0, hl, <- EJ]
    congr 1
    omega
   ·simp only [Array.toList_append, EH]
    rw [<- EH, <- hlen]
    exact List.take_left
   ·injection hg with hg
    rw [<- hg]; exact AF _
theorem Aew {v : Value} {g : Nat} (h : v.ownBlock = some g) : blk v = some g := by
 cases v with
 | slice x _ _ =>
  cases x with
  | none => simp [Value.ownBlock] at h
  | some x => simpa [Value.ownBlock, blk] using h
 | _ => simp [Value.ownBlock] at h
theorem Rr {R : V -> Value -> Prop} {sz : Nat} {rows rows2 : List (List V)} {xs news : List Value} (hx : xs.length = rows.length * sz) (hrl : ∀ r ∈ rows, r.length = sz) (h1 : ∀ (i j : Nat) (r : List V) (v : V), rows[i]? = some r -> r[j]? = some v -> R v (xs.getD (i * sz + j) undef))
  (h2 : ∀ (i j : Nat) (r : List V) (v : V), rows2[i]? = some r -> r[j]? = some v -> R v (news.getD (i * sz + j) undef)) :
  ∀ (i j : Nat) (r : List V) (v : V), (rows ++ rows2)[i]? = some r -> r[j]? = some v -> R v ((xs ++ news).getD (i * sz + j) undef) := by
 intro i j r v hi hj
 rw [AS]
 by_cases c : i < rows.length
 ·rw [GY c] at hi
  have hlt := SU hrl hi hj
  rw [GY (by omega), <- AS]
  exact h1 i j r v hi hj
 ·rw [GX (by omega)] at hi
  have hle : rows.length * sz <= i * sz := CB _ (by omega)
  rw [GX (by omega), hx, <- AS]
  have := h2 _ j r v hi hj
  rwa [Nat.sub_mul, show i * sz - rows.length * sz + j = i * sz + j - rows.length * sz by omega] at this
theorem AiL {R : V -> Value -> Prop} {sz pos : Nat} {rows rows2 : List (List V)} {xs news : List Value} (hx : xs.length = rows.length * sz) (hn : news.length = rows2.length * sz) (hrl : ∀ r ∈ rows, r.length = sz) (hr2 : ∀ r ∈ rows2, r.length = sz) (hle : pos + rows2.length <= rows.length)
  (h1 : ∀ (i j : Nat) (r : List V) (v : V), rows[i]? = some r -> r[j]? = some v -> R v (xs.getD (i * sz + j) undef)) (h2 : ∀ (i j : Nat) (r : List V) (v : V), rows2[i]? = some r -> r[j]? = some v -> R v (news.getD (i * sz + j) undef)) :
  ∀ (i j : Nat) (r : List V) (v : V), (EK rows pos rows2)[i]? = some r -> r[j]? = some v -> R v ((xs.take (pos * sz) ++ news ++ xs.drop (pos * sz + news.length)).getD (i * sz + j) undef) := by
 intro i j r v hi hj
 have hps : pos * sz + news.length = (pos + rows2.length) * sz := by rw [hn, EJ]
 have hpl : (pos + rows2.length) * sz <= rows.length * sz := CB _ hle
 unfold EK at hi
 rw [Hd hle] at hi
 rw [AS, Hd (by omega)]
 split at hi <;> rename_i c
 ·have hjs : j < sz := by rw [<- hrl r (Bk hi)]; exact (BQ.1 hj).1
  have : i * sz + sz <= pos * sz := by rw [<- EI]; exact CB _ c
  rw [if_pos (by omega), <- AS]
  exact h1 i j r v hi hj
 ·have hpi : pos * sz <= i * sz := CB _ (by omega)
  split at hi <;> rename_i c'
  ·have hjs : j < sz := by rw [<- hr2 r (Bk hi)]; exact (BQ.1 hj).1
   have : i * sz + sz <= (pos + rows2.length) * sz := by rw [<- EI]; exact CB _ c'
   rw [if_neg (by omega), if_pos (by omega), <- AS]
   have := h2 _ j r v hi hj
   rwa [Nat.sub_mul, show i * sz - pos * sz + j = i * sz + j - pos * sz by omega] at this
  ·have : (pos + rows2.length) * sz <= i * sz := CB _ (by omega)
   rw [if_neg (by omega), if_neg (by omega), <- AS]
   exact h1 i j r v hi hj
theorem Qc {rows news : List (List V)} {pos : Nat} (h : pos + news.length <= rows.length) : (EK rows pos news).length = rows.length := by
 unfold EK; simp only [An, BJ, BW]; omega
theorem AiF {rows news : List (List V)} {pos sz : Nat} (h1 : ∀ r ∈ rows, r.length = sz) (h2 : ∀ r ∈ news, r.length = sz) : ∀ r ∈ EK rows pos news, r.length = sz := by
 intro r hr
 unfold EK at hr
 simp only [BT] at hr
 rcases hr with (hr | hr) | hr
 ·exact h1 r (EG hr)
 ·exact h2 r hr
 ·exact h1 r (Fb hr)
theorem AdZ (hm : Mem C h w M ι) {n g cap pos : Nat} {t : TypeId} {sz : Nat} {rows news : List (List V)} {nc : List Value} (hn : h n = some (.arr t sz rows)) (hg : ι n = .slice (some ⟨g, 0, none⟩) rows.length cap) (hnr : ∀ r ∈ news, r.length = sz) (hnl : nc.length = news.length * sz) (hn1 : ∀ u ∈ nc, u.oneCell' = true)
  (hrel : ∀ (i j : Nat) (r : List V) (v : V), news[i]? = some r -> r[j]? = some v -> Rel M w ι h v (nc.getD (i * sz + j) undef)) (hle : pos + news.length <= rows.length) :
  ∃ cur : Array Value, w.heap[g]? = some (.cells cur t (0, 0)) /\ pos * sz + nc.length <= cur.size /\ ∀ {v : V} {cv : Value}, (∀ {h' : Nat -> Option Ob} {ι' : Nat -> Value} {M' : Nat -> Prop} {w' : World}, h' n = some (.arr t sz (EK rows pos news)) -> ι' n = ι n -> Rel M' w' ι' h' v cv) ->
   Ay C h w M ι (BI h n (.arr t sz (EK rows pos news))) v cv (w.setRow g (cur.toList.take (pos * sz) ++ nc ++ cur.toList.drop (pos * sz + nc.length)).toArray) := by
 obtain ⟨xs, hown, hrl, hx1, hxr⟩ := hm.obj n _ hn
 have hps : pos * sz + nc.length = (pos + news.length) * sz := by rw [hnl, EJ]
 have hpl : (pos + news.length) * sz <= rows.length * sz := CB _ hle
 rcases hown.2 with ⟨e', _⟩ | ⟨g', cap', cur, e', _, hh, hnc, hcm, hcs, htk⟩
 ·rw [hg] at e'; cases e'
 ·rw [hg] at e'
  injection e' with e1 e2 e3; injection e1 with e1; injection e1 with e1
  subst e1
  have hcap : rows.length * sz <= cur.size := by rw [hcs]; exact CB _ hnc
  refine ⟨cur, hh, by omega, fun {v cv} hv => ?_⟩
  have hk : Keeps h (BI h n (.arr t sz (EK rows pos news))) ι (DK ι n (ι n)) := .put hn (.inr (.inl ⟨t, sz, rows, _, rfl, rfl, by rw [Qc hle]; exact AF _, fun _ => rfl⟩))
  have aw := Rn hm hn (by rw [hg]; rfl) (ob' := .arr t sz (EK rows pos news)) (cur.toList.take (pos * sz) ++ nc ++ cur.toList.drop (pos * sz + nc.length)).toArray hk (fun {h' ι'} hk hi hMw => ?_) (fun h1000 => ⟨fun t c he => (by cases he), fun es he => by cases he⟩)
  ·obtain ⟨M', ι', a1, _, a3, a4, a5⟩ := aw
   refine ⟨M', ι', a1, hv (Dd _ _ _) ?_, a3, a4, a5⟩
   obtain ⟨r', g1, _, g3⟩ := a5.arr n t sz rows hn
   rw [Dd] at g1
   injection g1 with g1; injection g1 with _ _ g1
   subst g1
   exact g3 (Qc hle)
  ·have hxl : xs.length = rows.length * sz := hown.1
   refine ⟨xs.take (pos * sz) ++ nc ++ xs.drop (pos * sz + nc.length), ?_, AiF hrl hnr, Qb hx1 hn1, fun i' j r v h1 h2 => (AiL (R := Rel M w ι h) hxl hnl hrl hnr hle hxr hrel i' j r v h1 h2).keep (fun _ hb => hb) hMw hk⟩
   rw [hi, hg, Qc hle]
   refine ⟨?_, .inr ⟨g, cap, _, rfl, As _, setRow_heap w g cur _ t _ hh, by rw [<- e3] at hnc; exact hnc, by rw [<- e3] at hcm; exact hcm, ?_, ?_⟩⟩
   ·simp only [An, BJ, BW, hxl]
    omega
   ·rw [e3, <- hcs]
    simp only [Gt, An, BJ, BW, Ep]
    omega
   ·have hcl : cur.toList.length = cur.size := Ep
    apply List.ext_getElem?
    intro j
    rw [Nu, Hd (by omega), Hd (by omega)]
    have hx : ∀ j, xs[j]? = if j < rows.length * sz then cur.toList[j]? else none := fun j => by rw [<- htk, Nu]
    rw [hx]
    by_cases c0 : j < rows.length * sz
    ·rw [if_pos c0, if_pos c0]
    ·rw [if_neg c0, if_neg (by omega), if_neg (by omega), if_neg c0]
theorem Ajw {t ty e : TypeId} {i : TypeInfo} (ht : P.underlying t = some (.slice e)) (hi : P.info? e = some i) {g off sLen sCap : Nat} {cur : Array Value} {t' : TypeId} (hg : w.heap[g]? = some (.cells cur t' (0, 0))) {ad : Addr} {m c : Nat} {news : List Value} (hl : news.length = m * i.size)
  (hnews : ∀ j u, news[j]? = some u -> w.cell? (ad.add j) = some u) (h1 : ∀ u ∈ news, u.oneCell' = true) (hroom : sLen + m <= sCap) (hle : off + sLen * i.size + news.length <= cur.size) :
  (Builtin.append_ #[t, t] ty #[.slice (some ⟨g, off, none⟩) sLen sCap, .slice (some ad) m c]).run P w = .ok (.slice (some ⟨g, off, none⟩) (sLen + m) sCap) (w.setRow g (cur.toList.take (off + sLen * i.size) ++ news ++ cur.toList.drop (off + sLen * i.size + news.length)).toArray) := by
 have hfc := run_firstCells_some (P := P) w i.size m ad m c news hl hnews
 have hst := run_storeCells_at P g (off + sLen * i.size) t' news 0 cur w hg (by simpa using hle) h1
 simp only [Fe] at hst
 simp [Builtin.append_, run_underlying ht, sizeOf, typeInfo, hi, Builtin.lenOf, hroom, hfc, Addr.add_lit, hst]
theorem Ajv {t ty e : TypeId} {i : TypeInfo} (ht : P.underlying t = some (.slice e)) (hi : P.info? e = some i) {ad : Addr} {sLen sCap : Nat} (h : sLen <= sCap) :
  (Builtin.append_ #[t, t] ty #[.slice (some ad) sLen sCap, .slice none 0 0]).run P w = .ok (.slice (some ad) sLen sCap) w := by
 simp [Builtin.append_, run_underlying ht, sizeOf, typeInfo, hi, Builtin.lenOf, h, Builtin.firstCells, storeCells]
theorem Ajx {t ty e : TypeId} {i : TypeInfo} (ht : P.underlying t = some (.slice e)) (hi : P.info? e = some i) {ad ad2 : Addr} {sLen sCap c : Nat} (h : sLen <= sCap) :
  (Builtin.append_ #[t, t] ty #[.slice (some ad) sLen sCap, .slice (some ad2) 0 c]).run P w = .ok (.slice (some ad) sLen sCap) w := by
 have hfc := run_firstCells_some (P := P) w i.size 0 ad2 0 c [] (by simp) (fun j u hj => by simp at hj)
 simp [Builtin.append_, run_underlying ht, sizeOf, typeInfo, hi, Builtin.lenOf, h, hfc, storeCells]
theorem AiG (rows : List (List V)) (pos : Nat) : EK rows pos [] = rows := by
 unfold EK; rw [Br, Ax, Fe, KA]
theorem Agr {n : Nat} {ob : Ob} (hn : h n = some ob) : BI h n ob = h := by
 funext k; unfold BI; split
 ·rename_i e; rw [e, hn]
 ·rfl
theorem AjN {t e : TypeId} {i : TypeInfo} {z : Value} {sz bytes : Nat} {x0 y0 : Operand} {x y : AE} {args : Array Operand} (ho : o.op = .call { callee := .builtin .append, args, argTypes := #[t, t] }) (ha : args = #[x0, y0])
  (ht : P.underlying t = some (.slice e)) (hi : P.info? e = some i) (hz : i.zero = some z) (hsz : i.size = sz) (hby : i.bytes = bytes) (hzs : z.cells.size = sz) (hpos : 0 < sz)
  (hm : Mem C h w M ι) (hx : Rel M w ι h (E x) (a.eval x0)) (hy : Rel M w ι h (E y) (a.eval y0)) : Sim P G C h w M ι o a E d (.app e sz bytes x y) := by
 unfold Sim At MJ
 dsimp only
 split
 ·exact fun hφ => hφ.elim
 ·rename_i news hnews
  have hrun : ∀ {v' : Value} {w' : World}, (Builtin.append_ #[t, t] o.type #[a.eval x0, a.eval y0]).run P w = .ok v' w' -> (execOp a.eval o).run P w = .ok (.value v') w' := by
   intro v' w' hr
   simp only [execOp, ho, ha, resolve, invoke, builtin, AA, Bb, AK, List.map_toArray, BE, HC, hr]
  generalize hEx : E x = ex at hx
  cases ex with
  | nils =>
   dsimp only
   intro hφ
   obtain ⟨q1, q2, q3, q4⟩ := hφ
   have hr := KJ hm hy hnews q3
   have e0 := hx.nils_inv
   obtain ⟨v', w', nv, r1, r2, r3, r4, r5, r6, r7, r8⟩ := Ue (P := P) o.type ht hi hz hsz hby hzs hpos (World.ownsRow_nil w 0 e sz) hr (by rw [CI]; exact q4)
   rw [CI, Ef] at r2
   refine .run (cv := v') (w' := w') (hrun (by rw [e0]; exact r1)) ?_
   refine HZ hm q1 q2 (.arr e sz news) v' w' r3.size r3.os r3.tape r3.output (fun k hk => r3.block k hk (by simp [Value.ownBlock])) (fun g hg => (r8 g hg).resolve_left (by simp [blk])) (fun {h' ι'} hk hi' hMw => ?_) ?_
   ·exact ⟨nv, by rw [hi']; exact r2, q3, r5, fun i j r v h1 h2 => (r6 i j r v h1 h2).keep (fun _ hb => hb) hMw hk⟩
   ·refine .own d news.length e sz news v' (Dd _ _ _) (AF _) (fun _ => (CU _ _ _).symm) ?_
    rcases r2.2 with ⟨e1, _⟩ | ⟨g, cap, cur, e1, _⟩ <;> rw [e1] <;> rfl
  | vw n off l m fit =>
   dsimp only
   obtain ⟨t', sz', rows, hn, hle, hb, hv⟩ := hx.vw_inv
   rw [hn]
   cases fit with
   | true =>
    dsimp only
    intro hφ
    obtain ⟨q1, q2, q3, qn, qo, q5, q6⟩ := hφ
    have hll : ((rows.drop off).take l).length = l := by rw [BJ, BW]; omega
    have hro := KJ hm hx (rows := (rows.drop off).take l) (by simp only [HJ, hn, q3, if_true]) (fun r hr' => qo r (Fb (EG hr')))
    have hr := KJ hm hy hnews q5
    have hcap : ∀ b l' c, a.eval x0 = .slice b l' c -> c = ((rows.drop off).take l).length := by
     obtain ⟨g, cap0, ad, cap, e0, hcv, hlc, hfit, hf, had⟩ := hv q3
     intro b l' c e
     rw [hcv] at e
     injection e with e1 e2 e3
     rw [<- e3, hfit rfl, hll]
    obtain ⟨v', w', xs, nv, r1, r2, r3, r4, r5, r6, r7, r8, r9⟩ := Ab1 (P := P) o.type ht hi hz hsz hby hzs hpos hro hcap hr qn (by rw [hll]; exact q6)
    have qo' : ∀ r ∈ (rows.drop off).take l, r.length = sz := fun r hr' => qo r (Fb (EG hr'))
    refine .run (cv := v') (w' := w') (hrun r1) ?_
    refine HZ hm q1 q2 (.arr e sz ((rows.drop off).take l ++ news)) v' w' r3.size r3.os r3.tape r3.output (fun k hk => r3.block k hk (by simp)) (fun g hg => r9 g hg) (fun {h' ι'} hk hi' hMw => ?_) ?_
    ·exact ⟨xs ++ nv, by rw [hi', An]; exact r2, fun r hr' => (BT.1 hr').elim (qo' r) (q5 r), fun u hu => (BT.1 hu).elim (r5 u) (r6 u),
      fun i j r v h1 h2 => (Rr (R := Rel M w ι h) r4 qo' r7 r8 i j r v h1 h2).keep (fun _ hb => hb) hMw hk⟩
    ·refine .own d (l + news.length) e sz ((rows.drop off).take l ++ news) v' (Dd _ _ _) (by rw [An, hll]; exact AF _) (fun _ => (CU _ _ _).symm) ?_
     rcases r2.2 with ⟨e1, _⟩ | ⟨g, cap, cur, e1, _⟩ <;> rw [e1] <;> rfl
   | false =>
   dsimp only
   intro hφ
   obtain ⟨q1, q2, q3, q5, q6⟩ := hφ
   subst q1 q2
   obtain ⟨g, cap0, ad, cap, e0, hcv, hlc, _, hf, had⟩ := hv q3
   have hmc := hf rfl
   have hr := KJ hm hy hnews q6
   have hsz2 : i.size = sz' := hsz
   by_cases hne : news = []
   ·subst hne
    have hrr : (Builtin.append_ #[t, t] o.type #[a.eval x0, a.eval y0]).run P w = .ok (.slice (some ad) l cap) w := by
     rw [hcv]
     rcases hr with ⟨e1, _⟩ | ⟨ad2, c2, _, e1, _⟩
     ·rw [e1]; exact Ajv ht hi hlc
     ·rw [e1]; exact Ajx ht hi hlc
    refine .run (hrun hrr) ?_
    have hh : Ck h [(n, Ob.arr t' sz' (EK rows (off + l) []))] = h := by
     show BI h n _ = h
     rw [AiG]; exact Agr hn
    rw [hh, Ax, Fe, <- hcv]
    exact Ay.same hm hx
   ·have hpos2 : 0 < news.length := Ns.2 hne
    rcases hr with ⟨_, e1⟩ | ⟨ad2, c2, nc, e1, hl, hc, h1, hrel⟩
    ·exact absurd e1 hne
    ·obtain ⟨cur, hh, hsz3, hA⟩ := AdZ hm (pos := off + l) hn (by rw [e0, q3]) q6 hl h1 hrel (by omega)
     have hadd := had (by omega)
     have hst := Ajw (P := P) (ty := o.type) ht hi (off := off * sz') (sLen := l) (sCap := cap) hh (ad := ad2) (m := news.length) (c := c2) (by rw [hl, hsz2]) hc h1 (by omega) (by rw [hsz2, <- EJ]; exact hsz3)
     rw [hsz2, <- EJ] at hst
     refine .run (hrun (by rw [hcv, hadd, e1]; exact hst)) ?_
     refine hA (v := .vw n off (l + news.length) m false) (fun {h' ι' M' w'} g1 g2 => ?_)
     have hpl : (EK rows (off + l) news).length = rows.length := Qc (by omega)
     exact .vw n off (l + news.length) m false t' sz' _ _ g1 (by rw [hpl]; exact hle) (by omega) rfl (fun _ => ⟨g, cap0, _, _, by rw [g2]; exact e0, rfl, by omega, fun e => (by cases e), fun _ => hmc, fun _ => rfl⟩)
  | own n len =>
   dsimp only
   obtain ⟨t', sz', rows, hn, hle, hv⟩ := hx.own_inv
   rw [hn]
   dsimp only
   intro hφ
   obtain ⟨q1, q2, q3, q4, q5⟩ := hφ
   subst q1 q2
   obtain ⟨xs, hown, hrl, hx1, hxr⟩ := hm.obj n _ hn
   have e0 := hv q3
   have hr := KJ hm hy hnews q4
   obtain ⟨v', w', nv, r1, r2, r3, r4, r5, r6, r7, r8⟩ := Ue (P := P) o.type ht hi hz hsz hby hzs hpos hown hr (by rw [q3]; exact q5)
   refine .run (cv := v') (w' := w') (hrun (by rw [e0]; exact r1)) ?_
   have hk : Keeps h (BI h n (.arr t' sz' (rows ++ news))) ι (DK ι n v') := .put hn (.inr (.inl ⟨t', sz', rows, _, rfl, rfl, by rw [An]; omega, fun he => r7 (by rw [An] at he; omega)⟩))
   have hblk : ∀ k, k < w.heap.size -> blk (ι n) ≠ some k -> w'.heap[k]? = w.heap[k]? := fun k hk' hne => r3.block k hk' (fun e1 => hne (Aew e1.symm))
   have hMw : ∀ b, M b -> w'.heap[b]? = w.heap[b]? := fun b hb => hblk b (hm.lt b hb) (fun e1 => hm.imm n b (by rw [hn]; rfl) e1 hb)
   obtain ⟨s1, s2⟩ := hm.step n (.arr t' sz' (rows ++ news)) v' w' r3.size r3.os r3.tape r3.output (fun k hk' hne => hblk k hk' (hne _ hn)) (fun g hg => (r8 g hg).imp (fun e1 => ⟨_, hn, e1⟩) id) hk
    ⟨xs ++ nv, by rw [CU, An]; exact r2, fun r hr' => (BT.1 hr').elim (hrl r) (q4 r), fun u hu => (BT.1 hu).elim (hx1 u) (r5 u),
     fun i j r v h1 h2 => (Rr (R := Rel M w ι h) hown.1 hrl hxr r6 i j r v h1 h2).keep (fun _ hb => hb) hMw hk⟩
    (fun _ => by rw [hn]; rfl) (fun _ => ⟨fun t c he => (by cases he), fun es he => by cases he⟩)
   refine ⟨M, _, s1, ?_, fun _ hb => hb, s2, hk⟩
   refine .own n (len + news.length) t' sz' (rows ++ news) v' (Dd _ _ _) (by rw [An]; omega) (fun _ => (CU _ _ _).symm) ?_
   rcases r2.2 with ⟨e1, _⟩ | ⟨g, cap, cur, e1, _⟩ <;> rw [e1] <;> rfl
  | list olds fit =>
   dsimp only
   intro hφ
   obtain ⟨q1, q2, qf, qn, qo, q3, q4⟩ := hφ
   have hr := KJ hm hy hnews q3
   have hro := KJ hm hx (rows := olds) rfl qo
   have hcap : ∀ b l c, a.eval x0 = .slice b l c -> c = olds.length := by
    obtain ⟨x, cap, g, off, sz', hcv, hfit, _⟩ := hx.list_inv
    intro b l c e
    rw [hcv] at e
    injection e with e1 e2 e3
    rw [<- e3, hfit qf]
   obtain ⟨v', w', xs, nv, r1, r2, r3, r4, r5, r6, r7, r8, r9⟩ := Ab1 (P := P) o.type ht hi hz hsz hby hzs hpos hro hcap hr qn q4
   refine .run (cv := v') (w' := w') (hrun r1) ?_
   refine HZ hm q1 q2 (.arr e sz (olds ++ news)) v' w' r3.size r3.os r3.tape r3.output (fun k hk => r3.block k hk (by simp)) (fun g hg => r9 g hg) (fun {h' ι'} hk hi' hMw => ?_) ?_
   ·exact ⟨xs ++ nv, by rw [hi', An]; exact r2, fun r hr' => (BT.1 hr').elim (qo r) (q3 r), fun u hu => (BT.1 hu).elim (r5 u) (r6 u),
     fun i j r v h1 h2 => (Rr (R := Rel M w ι h) r4 qo r7 r8 i j r v h1 h2).keep (fun _ hb => hb) hMw hk⟩
   ·refine .own d (olds.length + news.length) e sz (olds ++ news) v' (Dd _ _ _) (by rw [An]; exact AF _) (fun _ => (CU _ _ _).symm) ?_
    rcases r2.2 with ⟨e1, _⟩ | ⟨g, cap, cur, e1, _⟩ <;> rw [e1] <;> rfl
  | _ => exact fun hφ => hφ.elim
end
end Go.Proofs.YtjkclhbckfkeeaaGreatDoor
