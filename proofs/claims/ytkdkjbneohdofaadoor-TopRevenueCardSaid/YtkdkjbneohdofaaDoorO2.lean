/- From a law that computes true to a call that returns true. -/
import Derived.Test.YtkdkjbneohdofaaDoorO1
import Derived.Test.YtkdkjbneohdofaaDoorT1
namespace Go.Proofs.YtkdkjbneohdofaaDoor
open Go Go.RowKit
set_option linter.unusedSimpArgs false
set_option linter.unusedVariables false
set_option linter.deprecated false
/-- The value of a shape out of its cells. -/
def Sh.val : Sh → List V → V
  | .st _, vs => .agg vs
  | _, vs => vs.headD .any
section
variable {H : Type} {enc : TypeId × Value → H} {P : Program} {W : World}
theorem agg_not {r : Reach} {b n : Nat} {t : TypeId} {sh : Sh} (hs : shT P n t = some sh) {v : Value} (hval : Value.okWide P W r b t v) : (∃ fs cs, sh = .st fs ∧ v = .agg cs) ∨ ((∀ fs, sh ≠ .st fs) ∧ v.cells = #[v]) := by
  cases n with
  | zero => simp [shT] at hs
  | succ n =>
    unfold shT at hs
    unfold Value.okWide at hval
    split at hs
    all_goals first | (rename_i ht; rw [ht] at hval; dsimp only at hval) | (cases hs; done)
    · injection hs with hs; subst hs
      refine .inr ⟨fun _ h => (by cases h), ?_⟩
      cases v <;> first | rfl | (simp [Cell.okWide, Cell.ok, ht] at hval)
    · injection hs with hs; subst hs
      refine .inr ⟨fun _ h => (by cases h), ?_⟩
      cases v <;> first | rfl | (simp [Cell.okWide, Cell.ok, ht] at hval)
    · injection hs with hs; subst hs
      refine .inr ⟨fun _ h => (by cases h), ?_⟩
      cases v <;> first | rfl | (simp [Cell.okWide, Cell.ok, ht] at hval)
    · split at hs
      · split at hs
        · injection hs with hs; subst hs
          refine .inr ⟨fun _ h => (by cases h), ?_⟩
          cases v <;> first | rfl | (simp [Cell.okWide, Cell.ok, ht] at hval)
        · cases hs
      · cases hs
    · split at hs
      · split at hs
        · injection hs with hs; subst hs
          obtain ⟨cs, rfl, _⟩ := hval
          exact .inl ⟨_, cs, rfl, rfl⟩
        · cases hs
      · cases hs
    · split at hs
      · split at hs
        · injection hs with hs; subst hs
          obtain ⟨cs, rfl, _⟩ := hval
          exact .inl ⟨_, cs, rfl, rfl⟩
        · cases hs
      · cases hs
theorem fits_one {sh : Sh} {vs : List V} (h : sh.fits vs) (hn : ∀ fs, sh ≠ .st fs) : ∃ u, vs = [u] := by
  cases sh with
  | st fs => exact absurd rfl (hn fs)
  | b => obtain ⟨x, rfl⟩ := h; exact ⟨_, rfl⟩
  | i k => obtain ⟨x, rfl, _⟩ := h; exact ⟨_, rfl⟩
  | s => obtain ⟨x, rfl, _⟩ := h; exact ⟨_, rfl⟩
  | sl e b => obtain ⟨x, rfl, _⟩ := h; exact ⟨_, rfl⟩
/-- An argument of a law, as a value. -/
theorem open_arg {r : Reach} {b n : Nat} {t : TypeId} {sh : Sh} (hs : shT P n t = some sh) {v : Value} (hval : Value.okWide P W r b t v) {d : DataW H} {ps : List MemPlace} (h : DataW.Trod enc P W 0 (fun _ => true) true t v d ps) (hwt : ∀ n ∈ d.weights P t, n ≤ reachBytes) :
    ∃ vs, sh.fits vs ∧ Pur (fun b => b < W.heap.size) W (sh.val vs) v := by
  obtain ⟨fuel, hf⟩ := h
  obtain ⟨vs, h1, h2, h3, h4⟩ := open_cells (M := fun b => b < W.heap.size) (fun _ h => h) hs hf hwt
  refine ⟨vs, h1, ?_⟩
  rcases agg_not hs hval with ⟨fs, cs, rfl, rfl⟩ | ⟨hn, hc⟩
  · exact .agg vs cs (by simpa [Value.cells] using h2) (fun c hc => h4 c (by simpa [Value.cells] using hc)) (fun i u hi => by
      have := h3 i u hi
      rw [List.getD_eq_getElem?_getD, Array.getElem?_toList] at this
      simpa [Value.cells] using this)
  · obtain ⟨u, rfl⟩ := fits_one h1 hn
    have := h3 0 u rfl
    rw [hc] at this
    cases sh with
    | st fs => exact absurd rfl (hn fs)
    | _ => exact this
end
/-- Rows that fit a shape are data. -/
theorem fits_map {α : Type} {encA : α → List V} {ok : α → Prop} {e : Sh} (h : ∀ vs, e.fits vs → ∃ a, vs = encA a ∧ ok a) : ∀ {rows : List (List V)}, (∀ r ∈ rows, e.fits r) → ∃ l : List α, rows = l.map encA ∧ ∀ a ∈ l, ok a
  | [], _ => ⟨[], rfl, fun a ha => by cases ha⟩
  | r :: rs, hr => by
    obtain ⟨a, rfl, ha⟩ := h r (hr r (List.mem_cons_self ..))
    obtain ⟨l, rfl, hl⟩ := fits_map h fun x hx => hr x (List.mem_cons_of_mem _ hx)
    exact ⟨a :: l, rfl, fun x hx => by rcases List.mem_cons.1 hx with rfl | hx; exact ha; exact hl x hx⟩
theorem fits_s {vs : List V} (h : Sh.s.fits vs) : ∃ x : List UInt8, vs = [.str x] ∧ x.length ≤ 140737488355328 := by
  obtain ⟨x, rfl, hx⟩ := h
  exact ⟨x, rfl, by unfold reachBytes at hx; omega⟩
theorem fits_i {vs : List V} (h : (Sh.i .i64).fits vs) : ∃ x : Int, vs = [.int .i64 x] ∧ inI x := by
  obtain ⟨x, rfl, hx⟩ := h
  exact ⟨x, rfl, bounds_i64 hx⟩
theorem fits_b {vs : List V} (h : Sh.b.fits vs) : ∃ x : Bool, vs = [.bool x] := h
theorem fits_sl {α : Type} {encA : α → List V} {ok : α → Prop} {e : Sh} {bytes : Nat} (h : ∀ vs, e.fits vs → ∃ a, vs = encA a ∧ ok a) {vs : List V} (hv : (Sh.sl e bytes).fits vs) : ∃ l : List α, vs = [.list (l.map encA) false] ∧ l.length * bytes ≤ 140737488351232 ∧ ∀ a ∈ l, ok a := by
  obtain ⟨rows, rfl, h1, h2⟩ := hv
  obtain ⟨l, rfl, hl⟩ := fits_map h h2
  rw [List.length_map] at h1
  exact ⟨l, rfl, h1, hl⟩
theorem UT_T {W : World} (h : UT.B W) : ∀ b, UT.T b → b < W.heap.size := by
  intro b hb
  have hb : b = 0 := hb
  subst hb
  have h : TabW W := h
  unfold TabW Lib.TabIs World.var? at h
  rw [gTab] at h
  simp only [Option.bind_some] at h
  cases hs : W.heap[0]? with
  | none => rw [hs] at h; cases h
  | some o => exact (Array.getElem?_eq_some_iff.1 hs).1
theorem law_calls {f : Nat} {g : List V → Prop × V} (hp : PureC Tryd.prog UT f g) {vs : List V} (h1 : (g vs).1) (h2 : (g vs).2 = .bool true) {W : World} {cargs : Array Value} (hU : UT.B W) (hsz : cargs.size = vs.length)
    (hpur : ∀ (i : Nat) (v : V), vs[i]? = some v → Pur (fun b => b < W.heap.size) W v (cargs.getD i undef)) : Calls Tryd.prog f cargs W fun e W' => e = .returned (.bool true) ∧ Below W.heap.size W W' := by
  refine ((hp vs _ W cargs h1).2 hU (UT_T hU) hsz (fun _ h => h) hpur).mono ?_
  rintro e w' ⟨cv, M', rfl, hcv, _, _, _, hb⟩
  rw [h2] at hcv
  cases hcv
  exact ⟨rfl, hb⟩
/-- Each argument its value. -/
def PurL (W : World) : List V → List Value → Prop
  | [], [] => True
  | v :: vs, c :: cs => Pur (fun b => b < W.heap.size) W v c ∧ PurL W vs cs
  | _, _ => False
theorem PurL.get {W : World} : ∀ {vs : List V} {cs : List Value}, PurL W vs cs → cs.length = vs.length ∧ ∀ (i : Nat) (v : V), vs[i]? = some v → Pur (fun b => b < W.heap.size) W v (cs.getD i undef)
  | [], [], _ => ⟨rfl, fun i v h => by simp at h⟩
  | v :: vs, c :: cs, h => by
    obtain ⟨h1, h2⟩ := PurL.get h.2
    refine ⟨by simp [h1], fun i u hi => ?_⟩
    cases i with
    | zero => simp only [List.getElem?_cons_zero, Option.some.injEq] at hi; subst hi; exact h.1
    | succ i => rw [List.getElem?_cons_succ] at hi; rw [List.getD_cons_succ]; exact h2 i u hi
  | [], _ :: _, h => h.elim
  | _ :: _, [], h => h.elim
theorem law_callsA {α : Type} {args : α → List V} {F : α → Prop × V} {f : Nat} (inj : ∀ a b, args a = args b → a = b) (hp : PureC Tryd.prog UT f (gOf args F)) (a : α) (h1 : (F a).1) (h2 : (F a).2 = .bool true) {W : World} (hU : UT.B W) {cl : List Value} (hP : PurL W (args a) cl) :
    Calls Tryd.prog f cl.toArray W fun e W' => e = .returned (.bool true) ∧ Below W.heap.size W W' := by
  obtain ⟨e1, e2⟩ := hP.get
  exact law_calls hp (vs := args a) (by rw [gOf_eq inj]; exact h1) (by rw [gOf_eq inj]; exact h2) hU (by simpa using e1) (fun i v hi => by have := e2 i v hi; rwa [List.getD_eq_getElem?_getD, ← List.getElem?_toArray, ← Array.getD_eq_getD_getElem?] at this)
end Go.Proofs.YtkdkjbneohdofaaDoor
