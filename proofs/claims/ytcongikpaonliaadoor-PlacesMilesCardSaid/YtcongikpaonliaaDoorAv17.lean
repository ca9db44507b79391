/- Entering and leaving a function that only computes. -/
import Derived.Test.YtcongikpaonliaaDoorAv16
namespace Go.Proofs.YtcongikpaonliaaDoor
open Go Go.RowKit
set_option linter.unusedSimpArgs false
set_option linter.unusedVariables false
set_option linter.deprecated false
def argE (vs : List V) (t : Nat) : V := vs.getD t .any
inductive AR where
  | t (n : Nat)
  | c (sz : Option Nat) (a : Nat)
def trR (P : Program) : ResultVar → Option AR
  | .tmp t => some (.t t)
  | .cell a ty => match aggT P ty, szT P ty with
    | some ag, some k => some (.c (if ag then some k else none) a)
    | _, _ => none
def AR.res (s : St) : AR → Res
  | .t n => .pure True (s.e n)
  | .c sz a => evLoad s.h sz (s.e a)
def resF (tmps : Array Value) : ResultVar → Sem Value
  | .tmp t => pure (tmps.getD t undef)
  | .cell p t => do loadVar t (← asAddr (tmps.getD p undef))
theorem results_eq (fn : Func) (tmps : Array Value) : results fn tmps = (do let vs ← fn.results.mapM (resF tmps); pure (if h : vs.size = 1 then vs[0] else .tuple vs)) := rfl
def outV (rs : List AR) (s : St) : V :=
  match rs with
  | [r] => (r.res s).v
  | rs => .tup (rs.map fun r => (r.res s).v)
def outφ (rs : List AR) (s : St) : Prop := ∀ r ∈ rs, (r.res s).φ
section
variable {P : Program} {U : Tbl} {C : Ctx U} {h : Nat → Option Ob} {w : World} {M : Nat → Prop} {ι : Nat → Value}
theorem evLoad_run {t : TypeId} {k : Nat} {ag : Bool} (hag : aggT P t = some ag) (hs : szT P t = some k) (hm : Mem C h w M ι) {x : V} {cv : Value} (hx : Rel M w ι h x cv) (hφ : (evLoad h (if ag then some k else none) x).φ) :
    ∃ ad v, cv = .pointer (some ad) ∧ (loadVar t ad).run P w = .ok v w ∧ Rel M w ι h (evLoad h (if ag then some k else none) x).v v := by
  let o : Oper := { (default : Oper) with op := .load t (.const cv) }
  have fin : ∀ (g p : Nat) (vs : List V), cv = .pointer (some ⟨g, p, none⟩) → CellsAt M w ι h g p vs →
      (ag = false → 0 < vs.length → ∃ ad v, cv = .pointer (some ad) ∧ (loadVar t ad).run P w = .ok v w ∧ Rel M w ι h (vs.getD 0 .any) v) ∧ (ag = true → k ≤ vs.length → ∃ ad v, cv = .pointer (some ad) ∧ (loadVar t ad).run P w = .ok v w ∧ Rel M w ι h (.agg (vs.take k)) v) := by
    intro g p vs e hc
    refine ⟨fun e1 hl => ?_, fun e1 hl => ?_⟩
    · subst e1
      obtain ⟨f, hf⟩ := hc
      obtain ⟨c1, _, c3⟩ := hf 0 _ (getD_of_lt .any hl)
      rw [Nat.add_zero] at c1
      exact ⟨_, f 0, e, run_load_one hag c1, c3⟩
    · subst e1
      obtain ⟨cs, h1, h2⟩ := run_load_agg hag hs hc hl
      exact ⟨_, .agg cs, e, h1, h2⟩
  have get0 : ∀ (vs : List V) (off : Nat), (vs.drop off).getD 0 .any = vs.getD off .any := fun vs off => by simp [List.getD_eq_getElem?_getD]
  unfold evLoad at hφ ⊢
  cases x with
  | ptr n off =>
    dsimp only at hφ ⊢
    obtain ⟨b, t', cells, hn, hb, e⟩ := hx.ptr_inv
    rw [hn] at hφ ⊢
    obtain ⟨b', cs, e', _, _, hc⟩ := hm.box_cells hn
    rw [hb] at e'
    injection e' with e'; injection e' with e'; injection e' with e'
    subst e'
    have hc2 := hc.drop off
    rw [Nat.zero_add] at hc2
    obtain ⟨f1, f2⟩ := fin _ _ _ e hc2
    cases ag
    · have := f1 rfl (by rw [List.length_drop]; exact Nat.sub_pos_of_lt hφ)
      rw [get0] at this
      exact this
    · exact f2 rfl (by rw [List.length_drop]; replace hφ : off + k ≤ cells.length := hφ; omega)
  | eptr n len i off =>
    dsimp only at hφ ⊢
    obtain ⟨t', sz, rows, hn, _, _, hv⟩ := hx.eptr_inv
    rw [hn] at hφ ⊢
    cases ag
    · obtain ⟨e1, e2, e3⟩ := hφ
      obtain ⟨g, cap, hg, e⟩ := hv e1
      have := (fin _ _ _ e ((hm.arr_cells hn hg (getD_of_lt [] e2)).drop off)).1 rfl (by rw [List.length_drop]; exact Nat.sub_pos_of_lt e3)
      rw [get0] at this
      exact this
    · obtain ⟨e1, e2, e3⟩ := hφ
      obtain ⟨g, cap, hg, e⟩ := hv e1
      exact (fin _ _ _ e ((hm.arr_cells hn hg (getD_of_lt [] e2)).drop off)).2 rfl (by rw [List.length_drop]; omega)
  | row vs off =>
    dsimp only at hφ ⊢
    obtain ⟨g, p, e, _, hc, _⟩ := hx.row_inv
    obtain ⟨f1, f2⟩ := fin _ _ _ e (hc.drop off)
    cases ag
    · have := f1 rfl (by rw [List.length_drop]; exact Nat.sub_pos_of_lt hφ)
      rw [get0] at this
      exact this
    · exact f2 rfl (by rw [List.length_drop]; replace hφ : off + k ≤ vs.length := hφ; omega)
  | _ => exact hφ.elim
/-- The results are read. -/
theorem run_results {fn : Func} {rs : List AR} (hr : fn.results.toList.mapM (trR P) = some rs) {s : St} {a : Act} (hg : Good C s a w M ι) (hφ : outφ rs s) : ∃ cv, (results fn a.tmps).run P w = .ok cv w ∧ Rel M w ι s.h (outV rs s) cv := by
  have key : ∀ (l : List ResultVar) (rs : List AR), l.mapM (trR P) = some rs → outφ rs s → ∃ cvs : List Value, (l.mapM (m := Sem) (resF a.tmps)).run P w = .ok cvs w ∧ cvs.length = rs.length ∧ ∀ (i : Nat) (v : V), (rs.map fun r => (r.res s).v)[i]? = some v → Rel M w ι s.h v (cvs.getD i undef) := by
    intro l
    induction l with
    | nil => intro rs h1 h2; simp at h1; subst h1; exact ⟨[], rfl, rfl, fun i v hi => by simp at hi⟩
    | cons r l ih =>
      intro rs h1 h2
      rw [List.mapM_cons] at h1
      cases h3 : trR P r with
      | none => rw [h3] at h1; cases h1
      | some ar =>
        rw [h3] at h1
        cases h4 : l.mapM (trR P) with
        | none => rw [h4] at h1; cases h1
        | some ars =>
          rw [h4] at h1
          have e : ar :: ars = rs := Option.some.inj h1
          subst e
          obtain ⟨cvs, i1, i2, i3⟩ := ih ars h4 (fun q hq => h2 q (List.mem_cons_of_mem _ hq))
          have one : ∃ cv, (resF a.tmps r).run P w = .ok cv w ∧ Rel M w ι s.h (ar.res s).v cv := by
            cases r with
            | tmp t => simp only [trR, Option.some.injEq] at h3; subst h3; exact ⟨_, rfl, hg.env t⟩
            | cell p t =>
              simp only [trR] at h3
              split at h3
              · rename_i ag k g1 g2
                injection h3 with h3
                subst h3
                have hp := h2 _ (List.mem_cons_self ..)
                obtain ⟨ad, v, e1, e2, e3⟩ := evLoad_run g1 g2 hg.mem (hg.env p) hp
                exact ⟨v, by simp only [resF, e1, asAddr, Sem.run_bind, Sem.run_pure, Result.andThen_ok, e2], e3⟩
              · cases h3
          obtain ⟨cv, o1, o2⟩ := one
          refine ⟨cv :: cvs, ?_, by simp [i2], fun i v hi => ?_⟩
          · rw [List.mapM_cons, Sem.run_bind, o1]
            simp only [Result.andThen_ok, Sem.run_bind, i1, Sem.run_pure]
          · cases i with
            | zero => simp only [List.map_cons, List.getElem?_cons_zero, Option.some.injEq] at hi; subst hi; exact o2
            | succ i => rw [List.map_cons, List.getElem?_cons_succ] at hi; exact i3 i v hi
  obtain ⟨cvs, k1, k2, k3⟩ := key _ _ hr hφ
  have hA : (fn.results.mapM (m := Sem) (resF a.tmps)).run P w = .ok cvs.toArray w := by
    generalize fn.results = fr at k1
    obtain ⟨fl⟩ := fr
    have e2 : ((⟨fl⟩ : Array ResultVar).mapM (m := Sem) (resF a.tmps)) = List.toArray <$> (fl.mapM (m := Sem) (resF a.tmps)) := by simp
    rw [e2, Sem.run_map, k1]
    rfl
  rw [results_eq, Sem.run_bind, hA]
  simp only [Result.andThen_ok, Sem.run_pure]
  match rs, cvs, k2, k3 with
  | [r], [cv], _, k3 => exact ⟨cv, rfl, k3 0 _ rfl⟩
  | [], [], _, k3 => exact ⟨.tuple #[], rfl, .tup [] #[] rfl (fun i v hi => by simp at hi)⟩
  | r :: r2 :: rs, cv :: cv2 :: cvs, k2, k3 => exact ⟨.tuple (cv :: cv2 :: cvs).toArray, by rw [dif_neg (by simp)], .tup _ _ (by simpa using k2.symm) (fun i v hi => by have := k3 i v hi; simpa using this)⟩
theorem PureC.of_aw {U : Tbl} {f : Nat} {fn : Func} {c : Code} {rs : List AR} {g : List V → Prop × V} (hf : P.funcs[f]? = some fn) (hb : fn.body = some c) (hname : (fn.name == "runtime.NumGoroutine") = false) (hr : fn.results.toList.mapM (trR P) = some rs)
    (hw : ∀ vs, (g vs).1 → vs.length ≤ fn.ntmps ∧ ∀ C : Ctx U, C.N = fn.ntmps → AW P C c (fun e s' => (e = .ret ∨ e = .normal) ∧ outφ rs s' ∧ outV rs s' = (g vs).2 ∧ (outV rs s').pur = true) ⟨argE vs, fun _ => none⟩) : PureC P U f g := by
  intro vs M w cargs hg
  refine ⟨⟨fn, hf, by rw [hb]; rfl, hname⟩, fun hB hT hsz hlt hargs => ?_⟩
  obtain ⟨hn, haw⟩ := hw vs hg
  let C : Ctx U := ⟨w, fun _ => False, fn.ntmps, M, fun _ => undef, fun _ => none⟩
  refine calls_of_wp hf hb ?_
  have hgood : Good C ⟨argE vs, fun _ => none⟩ { tmps := cargs ++ Array.replicate (fn.ntmps - cargs.size) undef, defers := [] } w M (fun _ => undef) := by
    refine ⟨⟨fun n o ho => (by cases ho), fun n m b hs => (by cases hs), fun n b hs => (by cases hs), hlt, fun n b hs => (by cases hs), Nat.le_refl _, fun _ _ _ => rfl, rfl, rfl, rfl, fun _ hb => hb, hB, hT, fun _ _ hb => .inl hb, fun n t sz r0 t' sz' rows _ h0 => (by cases h0), fun n _ => ⟨fun t c hc => (by cases hc), fun es hc => (by cases hc)⟩⟩, fun t => ?_, rfl, ?_⟩
    · show Rel M w _ _ (vs.getD t .any) _
      by_cases ht : t < vs.length
      · have h1 := hargs t _ (getD_of_lt .any ht)
        have e : (cargs ++ Array.replicate (fn.ntmps - cargs.size) undef).getD t undef = cargs.getD t undef := by
          simp only [Array.getD_eq_getD_getElem?]
          rw [Array.getElem?_append_left (by omega)]
        rw [e]
        exact .pur h1
      · rw [List.getD_eq_getElem?_getD, List.getElem?_eq_none (by omega)]
        exact .pur (.any _)
    · show (cargs ++ Array.replicate (fn.ntmps - cargs.size) undef).size = fn.ntmps
      simp only [Array.size_append, Array.size_replicate]
      omega
  refine wp_mono (haw C rfl _ _ _ _ hgood) ?_
  rintro e a' w' ⟨s', M', ι', ⟨he, hφ, hv, hp⟩, hg'⟩
  obtain ⟨cv, r1, r2⟩ := run_results hr hg' hφ
  have hfin : ∃ (cv : Value) (M' : Nat → Prop), Ending.returned cv = .returned cv ∧ True := ⟨cv, M', rfl, trivial⟩
  have hpost : ∃ (cv' : Value) (M' : Nat → Prop), Ending.returned cv = .returned cv' ∧ Pur M' w' (g vs).2 cv' ∧ (∀ b, M b → M' b) ∧ (∀ b, M' b → b < w'.heap.size) ∧ (∀ b, b < w.heap.size → M' b → M b) ∧ Below w.heap.size w w' :=
    ⟨cv, M', rfl, by rw [← hv]; exact r2.toPur hp, hg'.mem.base, hg'.mem.lt, fun b h1 h2 => (hg'.mem.old b h1 h2).resolve_right (fun h => h), ⟨hg'.mem.os, hg'.mem.tape, hg'.mem.output, hg'.mem.size, fun k hk => hg'.mem.keep k hk (fun h => h)⟩⟩
  rcases he with rfl | rfl
  · exact ⟨hg'.dfr, cv, r1, hpost⟩
  · exact ⟨hg'.dfr, cv, r1, hpost⟩
end
end Go.Proofs.YtcongikpaonliaaDoor
