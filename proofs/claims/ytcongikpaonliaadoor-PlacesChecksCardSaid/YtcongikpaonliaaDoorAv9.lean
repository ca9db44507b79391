/- A literal slice, append, a field of a value, calls of functions that are proved to compute. -/
import Derived.Test.YtcongikpaonliaaDoorAv8a
namespace Go.Proofs.YtcongikpaonliaaDoor
open Go Go.RowKit
set_option linter.unusedSimpArgs false
set_option linter.unusedVariables false
set_option linter.deprecated false
theorem fill_slc {sz : Nat} : ∀ (vs : List Value) (start : Nat) (cells : Array Value), (∀ v ∈ vs, v.cells.size = sz) → (start + vs.length) * sz ≤ cells.size →
    ∃ cells', Instr.fill (fun i => some (i * sz, sz)) cells (vs.zipIdx start |>.map fun p => (p.2, p.1)) = some cells' ∧ cells'.size = cells.size ∧ (∀ k, k < start * sz → cells'[k]? = cells[k]?) ∧
      ∀ (i j : Nat) (v : Value), vs[i]? = some v → j < sz → cells'[(start + i) * sz + j]? = v.cells[j]?
  | [], start, cells, _, _ => ⟨cells, rfl, rfl, fun _ _ => rfl, fun i j v hi _ => by simp at hi⟩
  | v :: vs, start, cells, hv, hle => by
    have hvs := hv v (List.mem_cons_self ..)
    have hst : start * sz + sz ≤ (start + (v :: vs).length) * sz := by rw [← Nat.succ_mul]; exact Nat.mul_le_mul_right _ (by simp only [List.length_cons]; omega)
    obtain ⟨f1, f2⟩ := foldl_putA (start * sz) v.cells cells (by omega)
    obtain ⟨c', i1, i2, i3, i4⟩ := fill_slc vs (start + 1) (v.cells.zipIdx.foldl (fun cs (c, j) => cs.setIfInBounds (start * sz + j) c) cells) (fun u hu => hv u (List.mem_cons_of_mem _ hu)) (by rw [f1, show start + 1 + vs.length = start + (v :: vs).length by simp only [List.length_cons]; omega]; exact hle)
    refine ⟨c', ?_, i2.trans f1, fun k hk => ?_, fun i j u hi hj => ?_⟩
    · rw [List.zipIdx_cons, List.map_cons, Instr.fill]
      dsimp only
      rw [if_neg, i1]
      simp only [bne_iff_ne, ne_eq, Bool.or_eq_true, decide_eq_true_eq, not_or]
      omega
    · rw [i3 k (by rw [Nat.succ_mul]; omega), f2, if_neg (by omega)]
    · cases i with
      | zero =>
        simp only [List.getElem?_cons_zero, Option.some.injEq] at hi
        subst hi
        rw [Nat.add_zero, i3 _ (by rw [Nat.succ_mul]; omega), f2, if_pos (by omega), show start * sz + j - start * sz = j by omega]
      | succ i =>
        rw [List.getElem?_cons_succ] at hi
        rw [show start + (i + 1) = start + 1 + i by omega]
        exact i4 i j u hi hj
/-- The operands of a literal slice, element by element. -/
def seqT (k : Nat) : List (Nat × Operand) → Option (List AE)
  | [] => some []
  | (i, x) :: r => if i = k then (match trE x, seqT (k + 1) r with | some y, some r' => some (y :: r') | _, _ => none) else none
section
variable {P : Program} {U : Tbl} {C : Ctx U} {h : Nat → Option Ob} {w : World} {M : Nat → Prop} {ι : Nat → Value} {o : Oper} {a : Act} {E : AE → V} {G : Tab} {d : Nat}
theorem seqT_zip {ρ : Operand → Value} : ∀ {ps : List (Nat × Operand)} {k : Nat} {qs : List AE}, seqT k ps = some qs → (ps.map fun p => (p.1, ρ p.2)) = ((ps.map fun p => ρ p.2).zipIdx k).map fun p => (p.2, p.1)
  | [], _, _, _ => rfl
  | (i, x) :: r, k, qs, hq => by
    unfold seqT at hq
    split at hq
    · rename_i he
      subst he
      split at hq
      · rename_i y r' h1 h2
        simp only [List.map_cons, List.zipIdx_cons]
        rw [seqT_zip (ρ := ρ) h2]
      · cases hq
    · cases hq
theorem seqT_get : ∀ {ps : List (Nat × Operand)} {k : Nat} {qs : List AE}, seqT k ps = some qs → qs.length = ps.length ∧ ∀ (i : Nat) (y : AE), qs[i]? = some y → ∃ p, ps[i]? = some p ∧ trE p.2 = some y
  | [], _, qs, hq => by simp [seqT] at hq; subst hq; exact ⟨rfl, fun i y hi => by simp at hi⟩
  | (j, x) :: r, k, qs, hq => by
    unfold seqT at hq
    split at hq
    · split at hq
      · rename_i y r' h1 h2
        injection hq with hq
        subst hq
        obtain ⟨g1, g2⟩ := seqT_get h2
        refine ⟨by simp [g1], fun i y' hi => ?_⟩
        cases i with
        | zero => simp only [List.getElem?_cons_zero, Option.some.injEq] at hi; subst hi; exact ⟨(j, x), rfl, h1⟩
        | succ i => rw [List.getElem?_cons_succ] at hi ⊢; exact g2 i y' hi
      · cases hq
    · cases hq
theorem cells_pur {v : V} (h : v.pur = true) {j : Nat} {u : V} (hu : v.cells[j]? = some u) : u.pur = true := by
  have one : v.cells = [v] → u.pur = true := fun e => by
    rw [e] at hu
    have := List.mem_of_getElem? hu
    rw [List.mem_singleton] at this
    rw [this]; exact h
  cases v with
  | agg vs => exact purs_mem (vs := vs) (by simpa only [V.pur] using h) hu
  | _ => exact one rfl
/-- Behind the making of rows that nobody will write. -/
theorem after_frz (hm : Mem C h w M ι) {ob : Obj} (v : V) (cv : Value)
    (hv : (∀ b, M b → (w.alloc ob).heap[b]? = w.heap[b]?) → ∀ M' : Nat → Prop, (∀ b, M b → M' b) → M' w.heap.size → Rel M' (w.alloc ob) ι h v cv) : After C h w M ι h v cv (w.alloc ob) := by
  have hb : Below w.heap.size w (w.alloc ob) := (Below.refl _ w).alloc (Nat.le_refl _) ob
  have hMw : ∀ b, M b → (w.alloc ob).heap[b]? = w.heap[b]? := fun b hb' => hb.block b (hm.lt b hb')
  refine ⟨fun b => M b ∨ b = w.heap.size, ι, hm.grow (fun _ h => .inl h) (fun b hb' => ?_) (fun b hlt hb' => hb'.resolve_right (by omega)) hb, hv hMw _ (fun _ h => .inl h) (.inr rfl), fun _ h => .inl h, hMw, Keeps.refl _ _⟩
  have hs : (w.alloc ob).heap.size = w.heap.size + 1 := by simp
  rcases hb' with hb' | rfl
  · have := hm.lt b hb'; omega
  · omega
theorem Pur.nn1 {M : Nat → Prop} {w : World} {v : V} {cv : Value} (h : Pur M w v cv) : Pur M w v.nn1 cv := by
  cases h with
  | nils => exact .list [] false none 0 0 0 0 (fun _ _ => undef) (fun _ => rfl) (Nat.le_refl _) (fun _ => rfl) (.inl rfl) (fun r hr => by simp at hr) (fun i j hi _ => absurd hi (Nat.not_lt_zero _)) (fun i j r v hi => by simp at hi)
  | any cv => exact .any cv
  | bool b => exact .bool b
  | int k n => exact .int k n
  | str s => exact .str s
  | nilp => exact .nilp
  | nilm => exact .nilm
  | agg vs cs hl ho hv => exact .agg vs cs hl ho hv
  | tup vs cs hl hv => exact .tup vs cs hl hv
  | list rows fit a cap sz g off f hf hcap hn ha hr hc hv => exact .list rows fit a cap sz g off f hf hcap hn ha hr hc hv
  | row vs off g o f hg hc hv => exact .row vs off g o f hg hc hv
  | fn n vs cs hl hv => exact .fn n vs cs hl hv
  | when b v cv ht hf => exact .when b v cv ht hf
theorem Pur.list_nn1 {M : Nat → Prop} {w : World} {rows : List (List V)} {fit : Bool} {cv : Value} (h : Pur M w (.list rows fit) cv) : Pur M w (.list (rows.map (·.map V.nn1)) fit) cv := by
  cases h with
  | list _ _ a cap sz g off f hf hcap hn ha hr hc hv =>
    have := Pur.list (M := M) (w := w) (rows.map (·.map V.nn1)) fit a cap sz g off f (by rwa [List.length_map]) (by rwa [List.length_map]) hn (ha.imp (fun e => by rw [e]; rfl) id) (fun r hr' => by obtain ⟨q, hq, rfl⟩ := List.mem_map.1 hr'; rw [List.length_map]; exact hr q hq) (fun i j hi hj => hc i j (by rwa [List.length_map] at hi) hj) (fun i j r v h1 h2 => by
      rw [List.getElem?_map] at h1
      obtain ⟨q, hq, rfl⟩ := Option.map_eq_some_iff.1 h1
      rw [List.getElem?_map] at h2
      obtain ⟨u, hu, rfl⟩ := Option.map_eq_some_iff.1 h2
      exact (hv i j q u hq hu).nn1)
    rwa [List.length_map] at this
theorem sim_slc (ow : Bool) {t e : TypeId} {n sz : Nat} {i : TypeInfo} {z : Value} {parts : Array (Nat × Operand)} {qs : List AE} (ho : o.op = .buildSlice t n parts) (ht : P.underlying t = some (.slice e)) (hs : szT P e = some sz) (hi : P.info? e = some i) (hz : i.zero = some z)
    (hzs : 0 < sz) (hbig : n * sz ≤ 16777216) (hn : parts.size = n) (hq : seqT 0 parts.toList = some qs) (hm : Mem C h w M ι)
    (hx : ∀ x0 y, x0 ∈ parts.toList.map (·.2) → trE x0 = some y → Rel M w ι h (E y) (a.eval x0)) : Sim P G C h w M ι o a E d (.slc e sz ow qs) := by
  show (evSlc d h e sz ow E qs).φ → Does P o a w (After C h w M ι (hupds h (evSlc d h e sz ow E qs).w) (evSlc d h e sz ow E qs).v)
  have q3 : (evSlc d h e sz ow E qs).φ → ∀ p ∈ qs, (E p).shaped = true ∧ (E p).cells.length = sz := by
    unfold evSlc; split
    · exact fun hφ => hφ
    · exact fun hφ => hφ.2.2
  intro hφ0
  replace q3 := q3 hφ0
  obtain ⟨g1, g2⟩ := seqT_get hq
  have hzip := seqT_zip (ρ := a.eval) hq
  have hget : ∀ (i : Nat) (y : AE), qs[i]? = some y → ∃ v, (parts.toList.map fun p => a.eval p.2)[i]? = some v ∧ (E y).cells.length = v.cells.size ∧ (∀ c ∈ v.cells.toList, c.oneCell' = true) ∧ ∀ (j : Nat) (u : V), (E y).cells[j]? = some u → Rel M w ι h u (v.cells.getD j undef) := by
    intro i y hi'
    obtain ⟨p, h1, h2⟩ := g2 i y hi'
    have hr := hx p.2 y (List.mem_map.2 ⟨p, List.mem_of_getElem? h1, rfl⟩) h2
    exact ⟨a.eval p.2, by rw [List.getElem?_map, h1]; rfl, hr.cells (q3 y (List.mem_of_getElem? hi')).1⟩
  have hsizes : ∀ v ∈ parts.toList.map fun p => a.eval p.2, v.cells.size = sz := by
    intro v hv
    obtain ⟨k, hk, hk2⟩ := List.mem_iff_getElem.1 hv
    have hkq : k < qs.length := by rw [g1]; simpa using hk
    obtain ⟨v', h1, h2, _⟩ := hget k _ (List.getElem?_eq_getElem hkq)
    rw [List.getElem?_eq_getElem hk, hk2] at h1
    injection h1 with h1
    subst h1
    rw [← h2]
    exact (q3 _ (List.getElem_mem hkq)).2
  generalize hvs : (parts.toList.map fun p => a.eval p.2) = vs at *
  have hvl : vs.length = n := by rw [← hvs]; simpa using hn
  have hql : qs.length = n := by rw [g1]; simpa using hn
  obtain ⟨cells', f1, f2, _, f4⟩ := fill_slc vs 0 ((Array.range (n * sz)).map fun k => z.cells[k % z.cells.size]!) hsizes (by simp [hvl])
  rw [← hzip] at f1
  have f2' : cells'.size = n * sz := by rw [f2]; simp
  have hcell : ∀ (k : Nat), k < n * sz → ∃ (y : AE) (v : Value), qs[k / sz]? = some y ∧ vs[k / sz]? = some v ∧ k % sz < sz ∧ cells'[k]? = v.cells[k % sz]? ∧ (E y).cells.length = v.cells.size ∧ (∀ c ∈ v.cells.toList, c.oneCell' = true) ∧ ∀ (j : Nat) (u : V), (E y).cells[j]? = some u → Rel M w ι h u (v.cells.getD j undef) := by
    intro k hk
    have h1 : k / sz < n := Nat.div_lt_of_lt_mul (by rw [Nat.mul_comm]; exact hk)
    have h2 : k % sz < sz := Nat.mod_lt _ hzs
    obtain ⟨v, e1, e2, e3, e4⟩ := hget _ _ (List.getElem?_eq_getElem (show k / sz < qs.length by omega))
    refine ⟨_, v, List.getElem?_eq_getElem (by omega), e1, h2, ?_, e2, e3, e4⟩
    have := f4 (k / sz) (k % sz) v e1 h2
    rwa [Nat.zero_add, Nat.div_add_mod'] at this
  have hone : ∀ x ∈ cells'.toList, x.oneCell' = true := by
    intro x hx'
    obtain ⟨k, hk, hk2⟩ := List.mem_iff_getElem.1 hx'
    have hk3 : k < n * sz := by rw [← f2']; simpa using hk
    obtain ⟨y, v, e1, e2, e3, e4, e5, e6, _⟩ := hcell k hk3
    have : cells'[k]? = some x := by rw [← Array.getElem?_toList, List.getElem?_eq_getElem hk, hk2]
    rw [this] at e4
    exact e6 x (List.mem_of_getElem? (by rw [Array.getElem?_toList]; exact e4.symm))
  refine .run (cv := .slice (some ⟨w.heap.size, 0, none⟩) n n) (w' := w.alloc (.cells cells' e)) ?_ ?_
  · have e1 : (parts.map fun (x : Nat × Operand) => (x.1, a.eval x.2)).toList = parts.toList.map fun p => (p.1, a.eval p.2) := by simp
    have hlt : ¬ (16777216 < n * sz) := by omega
    by_cases h0 : n * sz = 0
    · have hr0 : ∀ (zz : Array Value), ((Array.range (n * sz)).map fun k => zz[k % zz.size]!) = #[] := fun zz => by rw [h0]; simp
      rw [hr0] at f1
      simp only [execOp, ho, Instr.buildSlice, Sem.run_bind, run_underlying ht, Result.andThen_ok, run_sizeOf hs]
      rw [if_neg (by simpa using hlt)]
      simp only [Sem.run_pure, Sem.run_bind, Result.andThen_ok, if_pos h0, hr0, e1, f1, newRow, run_newObj]
      rfl
    · simp only [execOp, ho, Instr.buildSlice, Sem.run_bind, run_underlying ht, Result.andThen_ok, run_sizeOf hs]
      rw [if_neg (by simpa using hlt)]
      simp only [Sem.run_pure, Sem.run_bind, Result.andThen_ok, if_neg h0, zeroValue, typeInfo, run_program, hi, hz, e1, f1, newRow, run_newObj]
      rfl
  · have hown : (w.alloc (.cells cells' e)).ownsRow 0 e sz (.slice (some ⟨w.heap.size, 0, none⟩) n n) n cells'.toList := World.ownsRow_lit w cells' n (Nat.zero_le _) (by
        have : n * 1 ≤ n * sz := Nat.mul_le_mul_left _ hzs
        unfold maxLen; omega) f2'
    revert hφ0
    unfold evSlc
    split
    · rename_i hpure
      intro _
      simp only [Bool.and_eq_true] at hpure
      have hpur := hpure.2.2
      refine after_frz hm (.list (qs.map fun p => (E p).cells.map V.nn1) false) _ fun hMw M' hM hM2 => ?_
      have hrows : ∀ (i j : Nat) (r : List V) (v : V), (qs.map fun p => (E p).cells)[i]? = some r → r[j]? = some v → i < n ∧ j < sz ∧ v.pur = true ∧ Rel M (w.alloc (.cells cells' e)) ι h v (cells'.toList.getD (i * sz + j) undef) := by
        intro i j r v h1 h2
        rw [List.getElem?_map] at h1
        obtain ⟨y, hy, rfl⟩ := Option.map_eq_some_iff.1 h1
        have hj : j < sz := by rw [← (q3 y (List.mem_of_getElem? hy)).2]; exact (List.getElem?_eq_some_iff.1 h2).1
        have hin : i < n := by rw [← hql]; exact (List.getElem?_eq_some_iff.1 hy).1
        obtain ⟨v', e1, e2, e3, e4⟩ := hget i y hy
        have := f4 i j v' e1 hj
        rw [Nat.zero_add] at this
        have hcell' : cells'.toList.getD (i * sz + j) undef = v'.cells.getD j undef := by
          rw [List.getD_eq_getElem?_getD, Array.getElem?_toList, this]; simp
        rw [hcell']
        exact ⟨hin, hj, cells_pur (List.all_eq_true.1 hpur y (List.mem_of_getElem? hy)) h2, (e4 j v h2).keep (fun _ hb => hb) hMw (Keeps.refl _ _)⟩
      have hln : (qs.map fun p => (E p).cells).length = n := by rw [List.length_map, hql]
      have e0 := Pur.list (M := M') (w := w.alloc (.cells cells' e)) (qs.map fun p => (E p).cells) false (some ⟨w.heap.size, 0, none⟩) n sz w.heap.size 0 (fun i j => cells'.toList.getD (i * sz + j) undef) (fun e => by cases e) (by rw [hln]; exact Nat.le_refl _) (fun e => by cases e) (.inr ⟨rfl, hM2⟩) (fun r hr => by obtain ⟨p, hp, rfl⟩ := List.mem_map.1 hr; exact (q3 p hp).2) (fun i j hi hj => ?_) (fun i j r v h1 h2 => ?_)
      · rw [hln] at e0
        have e1 := e0.list_nn1
        rw [List.map_map] at e1
        exact .pur e1
      · rw [hln] at hi
        have hlt : i * sz + j < cells'.toList.length := by
          rw [Array.length_toList, f2']
          have : i * sz + sz ≤ n * sz := by rw [← Nat.succ_mul]; exact Nat.mul_le_mul_right _ hi
          omega
        have hx2 := getD_of_lt undef hlt
        refine ⟨?_, hone _ (List.mem_of_getElem? hx2)⟩
        rw [Nat.zero_add]
        rw [cell_of_row _ w.heap.size _ cells' e (0, 0) (heap_alloc_new w _), ← Array.getElem?_toList]
        exact hx2
      · obtain ⟨_, _, hp, hr⟩ := hrows i j r v h1 h2
        exact (hr.toPur hp).wide hM
    rintro ⟨q1, q2, _⟩
    refine after_new hm q1 q2 (.arr e sz (qs.map fun p => (E p).cells)) (.slice (some ⟨w.heap.size, 0, none⟩) n n) (w.alloc (.cells cells' e)) (by simp) rfl rfl rfl (fun k hk => heap_alloc_old w _ hk) (fun g hg => by cases hg; exact Nat.le_refl _) (fun {h' ι'} hk hi' hMw => ?_) ?_
    · refine ⟨cells'.toList, by rw [hi', List.length_map, hql]; exact hown, fun r hr => ?_, hone, fun i j r v h1 h2 => ?_⟩
      · obtain ⟨p, hp, rfl⟩ := List.mem_map.1 hr
        exact (q3 p hp).2
      · rw [List.getElem?_map] at h1
        obtain ⟨y, hy, rfl⟩ := Option.map_eq_some_iff.1 h1
        have hj : j < sz := by rw [← (q3 y (List.mem_of_getElem? hy)).2]; exact (List.getElem?_eq_some_iff.1 h2).1
        have hin : i < n := by rw [← hql]; exact (List.getElem?_eq_some_iff.1 hy).1
        obtain ⟨v', e1, e2, e3, e4⟩ := hget i y hy
        have := f4 i j v' e1 hj
        rw [Nat.zero_add] at this
        have hcell' : cells'.toList.getD (i * sz + j) undef = v'.cells.getD j undef := by
          rw [List.getD_eq_getElem?_getD, Array.getElem?_toList, this]; simp
        rw [hcell']
        exact (e4 j v h2).keep (fun _ hb => hb) hMw hk
    · exact .own d qs.length e sz _ _ (hupd_same _ _ _) (by rw [List.length_map]; exact Nat.le_refl _) (fun _ => (iupd_same _ _ _).symm) rfl
end
end Go.Proofs.YtcongikpaonliaaDoor
