/- Operations that read memory: loads, addresses, lengths. -/
import Derived.Test.YtcongikpaonliaaDoorAv5a
namespace Go.Proofs.YtcongikpaonliaaDoor
open Go Go.RowKit
set_option linter.unusedSimpArgs false
set_option linter.unusedVariables false
set_option linter.deprecated false
section
variable {P : Program} {U : Tbl} {C : Ctx U} {h : Nat → Option Ob} {w : World} {M : Nat → Prop} {ι : Nat → Value} {o : Oper} {a : Act} {E : AE → V} {G : Tab} {d : Nat}
theorem Rel.row_inv {vs : List V} {off : Nat} {cv : Value} (r : Rel M w ι h (.row vs off) cv) : ∃ g o, cv = .pointer (some ⟨g, o + off, none⟩) ∧ M g ∧ CellsAt M w ι h g o vs ∧ (∀ j, j < vs.length → ∃ u, w.cell? ⟨g, o + j, none⟩ = some u) := by
  cases r with
  | pur hp =>
    cases hp with
    | row _ _ g o f hg hc hv =>
      exact ⟨g, o, rfl, hg, ⟨f, fun j v hj => ⟨(hc j (List.getElem?_eq_some_iff.1 hj).1).1, (hc j (List.getElem?_eq_some_iff.1 hj).1).2, .pur (hv j v hj)⟩⟩, fun j hj => ⟨_, (hc j hj).1⟩⟩
theorem Rel.ptr_inv {n off : Nat} {cv : Value} (r : Rel M w ι h (.ptr n off) cv) : ∃ b t cells, h n = some (.box t cells) ∧ ι n = .pointer (some ⟨b, 0, none⟩) ∧ cv = .pointer (some ⟨b, off, none⟩) := by
  cases r with
  | pur hp => cases hp
  | ptrb _ _ b t cells ho hb => exact ⟨b, t, cells, ho, hb, rfl⟩
theorem Rel.eptr_inv {n len i off : Nat} {cv : Value} (r : Rel M w ι h (.eptr n len i off) cv) : ∃ t sz rows, h n = some (.arr t sz rows) ∧ len ≤ rows.length ∧ cv.oneCell' = true ∧
    (rows.length = len → ∃ g cap, ι n = .slice (some ⟨g, 0, none⟩) len cap ∧ cv = .pointer (some ⟨g, i * sz + off, none⟩)) := by
  cases r with
  | pur hp => cases hp
  | eptr _ _ _ _ t sz rows _ ho hle hs hv => exact ⟨t, sz, rows, ho, hle, hs, hv⟩
theorem Rel.own_inv {n len : Nat} {cv : Value} (r : Rel M w ι h (.own n len) cv) : ∃ t sz rows, h n = some (.arr t sz rows) ∧ len ≤ rows.length ∧ (rows.length = len → cv = ι n) := by
  cases r with
  | pur hp => cases hp
  | own _ _ t sz rows _ ho hle hv _ => exact ⟨t, sz, rows, ho, hle, hv⟩
theorem Rel.list_inv {rows : List (List V)} {fit : Bool} {cv : Value} (r : Rel M w ι h (.list rows fit) cv) : ∃ (x : Option Addr) (cap g off sz : Nat), cv = .slice x rows.length cap ∧ (fit = true → cap = rows.length) ∧ rows.length ≤ cap ∧ (x = none → cap = 0) ∧
    (rows = [] ∨ x = some ⟨g, off, none⟩ ∧ M g) ∧ (∀ r ∈ rows, r.length = sz) ∧
    ∃ f : Nat → Nat → Value, (∀ i j, i < rows.length → j < sz → w.cell? ⟨g, off + i * sz + j, none⟩ = some (f i j) ∧ (f i j).oneCell' = true) ∧ ∀ i j r v, rows[i]? = some r → r[j]? = some v → Pur M w v (f i j) := by
  cases r with
  | pur hp =>
    cases hp with
    | list _ _ x cap sz g off f hf hcap hn ha hr hc hv => exact ⟨x, cap, g, off, sz, rfl, hf, hcap, hn, ha, hr, f, hc, hv⟩
theorem Mem.box_cells (hm : Mem C h w M ι) {n : Nat} {t : TypeId} {cells : List V} (hn : h n = some (.box t cells)) : ∃ (b : Nat) (cs : Array Value), ι n = .pointer (some ⟨b, 0, none⟩) ∧ w.heap[b]? = some (.cells cs t (0, 0)) ∧ cells.length = cs.size ∧ CellsAt M w ι h b 0 cells := by
  obtain ⟨b, cs, e, hh, hl, ho, hv⟩ := hm.obj n _ hn
  refine ⟨b, cs, e, hh, hl, fun j => cs.getD j undef, fun j v hj => ?_⟩
  have hlt : j < cs.size := by rw [← hl]; exact (List.getElem?_eq_some_iff.1 hj).1
  have hcj : cs[j]? = some (cs.getD j undef) := by rw [Array.getElem?_eq_getElem hlt]; simp [Array.getD, hlt]
  refine ⟨by rw [Nat.zero_add, cell_of_row w b j cs t (0, 0) hh, hcj], ho _ ?_, hv j v hj⟩
  rw [← Array.getElem?_toList] at hcj
  exact List.mem_of_getElem? hcj
theorem flatten_get {sz : Nat} : ∀ {rows : List (List V)} (_ : ∀ r ∈ rows, r.length = sz) {i j : Nat} {r : List V} {v : V}, rows[i]? = some r → r[j]? = some v → i * sz + j < rows.length * sz
  | rows, hr, i, j, r, v, hi, hj => by
    have h1 := (List.getElem?_eq_some_iff.1 hi).1
    have h2 := (List.getElem?_eq_some_iff.1 hj).1
    rw [hr r (List.mem_of_getElem? hi)] at h2
    calc i * sz + j < i * sz + sz := by omega
      _ = (i + 1) * sz := by rw [Nat.succ_mul]
      _ ≤ rows.length * sz := Nat.mul_le_mul_right _ h1
theorem Mem.arr_cells (hm : Mem C h w M ι) {n : Nat} {t : TypeId} {sz : Nat} {rows : List (List V)} (hn : h n = some (.arr t sz rows)) {g len cap : Nat} (hg : ι n = .slice (some ⟨g, 0, none⟩) len cap) {i : Nat} {r : List V} (hi : rows[i]? = some r) :
    CellsAt M w ι h g (i * sz) r := by
  obtain ⟨xs, hown, hl, ho, hv⟩ := hm.obj n _ hn
  refine ⟨fun j => xs.getD (i * sz + j) undef, fun j v hj => ?_⟩
  have hlt : i * sz + j < xs.length := by rw [hown.1]; exact flatten_get hl hi hj
  have hx := getD_of_lt undef hlt
  refine ⟨?_, ho _ (List.mem_of_getElem? hx), hv i j r v hi hj⟩
  have := hown.cells (g := g) (by rw [hg]; rfl) _ _ hx
  rwa [show (⟨g, 0, none⟩ : Addr).add (i * sz + j) = ⟨g, i * sz + j, none⟩ by unfold Addr.add; split <;> simp_all] at this
theorem addr_add (g o j : Nat) : (⟨g, o, none⟩ : Addr).add j = ⟨g, o + j, none⟩ := by unfold Addr.add; split <;> simp_all
theorem run_load_one {P : Program} {t : TypeId} (hag : aggT P t = some false) {g o : Nat} {u : Value} (hc : w.cell? ⟨g, o, none⟩ = some u) : (loadVar t ⟨g, o, none⟩).run P w = .ok u w := by
  simp [loadVar, run_isAgg hag, hc]
theorem run_load_agg {P : Program} {t : TypeId} {k : Nat} (hag : aggT P t = some true) (hs : szT P t = some k) {g o : Nat} {vs : List V} (hc : CellsAt M w ι h g o vs) (hk : k ≤ vs.length) :
    ∃ cs, (loadVar t ⟨g, o, none⟩).run P w = .ok (.agg cs) w ∧ Rel M w ι h (.agg (vs.take k)) (.agg cs) := by
  obtain ⟨f, hf⟩ := hc
  have hcell : ∀ j, j < k → w.cell? ((⟨g, o, none⟩ : Addr).add j) = some (f j) := fun j hj => by
    rw [addr_add]
    exact (hf j _ (getD_of_lt .any (by omega))).1
  refine ⟨((List.range k).map f).toArray, by simp [loadVar, run_isAgg hag, run_sizeOf hs, run_loadCells w _ k f hcell], .agg _ _ (by simp; omega) (fun c hc => ?_) (fun i v hi => ?_)⟩
  · simp only [List.mem_map, List.mem_range] at hc
    obtain ⟨j, hj, rfl⟩ := hc
    exact (hf j _ (getD_of_lt .any (by omega))).2.1
  · have hik : i < k := by have := (List.getElem?_eq_some_iff.1 hi).1; rw [List.length_take] at this; omega
    rw [List.getElem?_take_of_lt hik] at hi
    have := (hf i v hi).2.2
    simpa [hik] using this
/-- Loads. -/
theorem sim_load {t : TypeId} {x0 : Operand} {x : AE} {k : Nat} {ag : Bool} (ho : o.op = .load t x0) (hag : aggT P t = some ag) (hs : szT P t = some k) (hm : Mem C h w M ι) (hx : Rel M w ι h (E x) (a.eval x0)) :
    Sim P G C h w M ι o a E d (.load (if ag then some k else none) x) := by
  have fin : ∀ (g p : Nat) (vs : List V), a.eval x0 = .pointer (some ⟨g, p, none⟩) → CellsAt M w ι h g p vs →
      (ag = false → 0 < vs.length → Does P o a w (After C h w M ι h (vs.getD 0 .any))) ∧ (ag = true → k ≤ vs.length → Does P o a w (After C h w M ι h (.agg (vs.take k)))) := by
    intro g p vs e hc
    refine ⟨fun e1 hl => ?_, fun e1 hl => ?_⟩
    · subst e1
      obtain ⟨f, hf⟩ := hc
      obtain ⟨c1, _, c3⟩ := hf 0 _ (getD_of_lt .any hl)
      rw [Nat.add_zero] at c1
      refine .run (cv := f 0) (w' := w) ?_ (After.same hm c3)
      simp [execOp, ho, e, Instr.loadAt, Instr.sureAddr, run_load_one hag c1]
    · subst e1
      obtain ⟨cs, h1, h2⟩ := run_load_agg hag hs hc hl
      refine .run (cv := .agg cs) (w' := w) ?_ (After.same hm h2)
      simp [execOp, ho, e, Instr.loadAt, Instr.sureAddr, h1]
  have get0 : ∀ (vs : List V) (off : Nat), (vs.drop off).getD 0 .any = vs.getD off .any := fun vs off => by simp [List.getD_eq_getElem?_getD]
  unfold Sim aeval evLoad
  dsimp only
  generalize hEx : E x = ex at hx
  cases ex with
  | ptr n off =>
    dsimp only
    obtain ⟨b, t', cells, hn, hb, e⟩ := hx.ptr_inv
    rw [hn]
    obtain ⟨b', cs, e', _, _, hc⟩ := hm.box_cells hn
    rw [hb] at e'
    injection e' with e'; injection e' with e'; injection e' with e'
    subst e'
    have hc2 := hc.drop off
    rw [Nat.zero_add] at hc2
    obtain ⟨f1, f2⟩ := fin _ _ _ e hc2
    cases ag
    · intro hφ
      have := f1 rfl (by rw [List.length_drop]; exact Nat.sub_pos_of_lt hφ)
      rw [get0] at this
      exact this
    · intro hφ
      exact f2 rfl (by rw [List.length_drop]; replace hφ : off + k ≤ cells.length := hφ; omega)
  | eptr n len i off =>
    dsimp only
    obtain ⟨t', sz, rows, hn, _, _, hv⟩ := hx.eptr_inv
    rw [hn]
    have main : rows.length = len → i < rows.length → CellsAt M w ι h (match a.eval x0 with | .pointer (some q) => q.block | _ => 0) (i * sz + off) ((rows.getD i []).drop off) ∧ a.eval x0 = .pointer (some ⟨(match a.eval x0 with | .pointer (some q) => q.block | _ => 0), i * sz + off, none⟩) := by
      intro e1 e2
      obtain ⟨g, cap, hg, e⟩ := hv e1
      rw [e]
      exact ⟨(hm.arr_cells hn hg (getD_of_lt [] e2)).drop off, rfl⟩
    cases ag
    · intro hφ
      obtain ⟨e1, e2, e3⟩ := hφ
      obtain ⟨hc, e⟩ := main e1 e2
      have := (fin _ _ _ e hc).1 rfl (by rw [List.length_drop]; exact Nat.sub_pos_of_lt e3)
      rw [get0] at this
      exact this
    · intro hφ
      obtain ⟨e1, e2, e3⟩ := hφ
      obtain ⟨hc, e⟩ := main e1 e2
      exact (fin _ _ _ e hc).2 rfl (by rw [List.length_drop]; omega)
  | row vs off =>
    dsimp only
    obtain ⟨g, p, e, _, hc, _⟩ := hx.row_inv
    obtain ⟨f1, f2⟩ := fin _ _ _ e (hc.drop off)
    cases ag
    · intro hφ
      have := f1 rfl (by rw [List.length_drop]; exact Nat.sub_pos_of_lt hφ)
      rw [get0] at this
      exact this
    · intro hφ
      exact f2 rfl (by rw [List.length_drop]; replace hφ : off + k ≤ vs.length := hφ; omega)
  | _ => exact fun hφ => hφ.elim
/-- The offset of a field. -/
def offF (P : Program) (t : TypeId) (k : Nat) : Option Nat :=
  match P.underlying t with
  | some (.struct fields) => match fields[k]? with
    | some f => match szT P f.type with
      | some (_ + 1) => some f.offset
      | _ => none
    | none => none
  | _ => none
theorem offF_spec {P : Program} {t : TypeId} {k off : Nat} (h : offF P t k = some off) : ∃ fields f n, P.underlying t = some (.struct fields) ∧ fields[k]? = some f ∧ szT P f.type = some (n + 1) ∧ off = f.offset := by
  unfold offF at h
  split at h
  · rename_i fields hu
    split at h
    · rename_i f hf
      split at h
      · rename_i n hn; injection h with h; exact ⟨fields, f, n, hu, hf, hn, h.symm⟩
      · cases h
    · cases h
  · cases h
theorem sim_fld {t : TypeId} {x0 : Operand} {x : AE} {k off : Nat} (ho : o.op = .fieldAddr t x0 k) (hoff : offF P t k = some off) (hm : Mem C h w M ι) (hx : Rel M w ι h (E x) (a.eval x0)) :
    Sim P G C h w M ι o a E d (.fld off x) := by
  have fin : ∀ (g p : Nat) (v : V), a.eval x0 = .pointer (some ⟨g, p, none⟩) → Rel M w ι h v (.pointer (some ⟨g, p + off, none⟩)) → Does P o a w (After C h w M ι h v) := by
    intro g p v e hr
    refine .run (cv := .pointer (some ⟨g, p + off, none⟩)) (w' := w) ?_ (After.same hm hr)
    obtain ⟨fields, f, n, hu, hf, hn, rfl⟩ := offF_spec hoff
    simp [execOp, ho, e, Instr.fieldAt, run_underlying hu, hf, Instr.sureAddr, fieldPlace, run_sizeOf hn, addr_add]
  unfold Sim aeval evFld
  dsimp only
  generalize hEx : E x = ex at hx
  cases ex with
  | ptr n q =>
    intro _
    obtain ⟨b, t', cells, hn, hb, e⟩ := hx.ptr_inv
    exact fin _ _ _ e (.ptrb n (q + off) b t' cells hn hb)
  | eptr n len i q =>
    dsimp only
    obtain ⟨t', sz, rows, hn, hle, hs, hv⟩ := hx.eptr_inv
    rw [hn]
    intro hφ
    replace hφ : rows.length = len := hφ
    obtain ⟨g, cap, hg, e⟩ := hv hφ
    refine fin _ _ _ e (.eptr n len i (q + off) t' sz rows _ hn hle rfl (fun _ => ⟨g, cap, hg, by rw [Nat.add_assoc]⟩))
  | row vs q =>
    intro _
    cases hx with
    | pur hp =>
      generalize hev : a.eval x0 = ev at hp
      cases hp with
      | row _ _ g p f hg hc hv =>
        have := fin g (p + q) (.row vs (q + off)) hev (by rw [Nat.add_assoc]; exact .pur (.row vs (q + off) g p f hg hc hv))
        exact this
  | _ => exact fun hφ => hφ.elim
end
end Go.Proofs.YtcongikpaonliaaDoor
