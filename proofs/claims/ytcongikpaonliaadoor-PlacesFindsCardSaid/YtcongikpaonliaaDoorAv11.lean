/- A field of a value; calls of functions that are proved to compute. -/
import Derived.Test.YtcongikpaonliaaDoorAv10
namespace Go.Proofs.YtcongikpaonliaaDoor
open Go Go.RowKit
set_option linter.unusedSimpArgs false
set_option linter.unusedVariables false
set_option linter.deprecated false
/-- Function f computes: where g says so, the call returns g's value, and what was there before stays. -/
def Enters (P : Program) (f : Nat) : Prop := ∃ fn, P.funcs[f]? = some fn ∧ fn.body.isNone = false ∧ (fn.name == "runtime.NumGoroutine") = false
def PureC (P : Program) (U : Tbl) (f : Nat) (g : List V → Prop × V) : Prop :=
  ∀ (vs : List V) (M : Nat → Prop) (w : World) (cargs : Array Value), (g vs).1 → Enters P f ∧ ( U.B w → (∀ b, U.T b → M b) → cargs.size = vs.length → (∀ b, M b → b < w.heap.size) → (∀ (i : Nat) (v : V), vs[i]? = some v → Pur M w v (cargs.getD i undef)) →
    Calls P f cargs w fun e w' => ∃ (cv : Value) (M' : Nat → Prop), e = .returned cv ∧ Pur M' w' (g vs).2 cv ∧ (∀ b, M b → M' b) ∧ (∀ b, M' b → b < w'.heap.size) ∧ (∀ b, b < w.heap.size → M' b → M b) ∧ Below w.heap.size w w')
section
variable {P : Program} {U : Tbl} {C : Ctx U} {h : Nat → Option Ob} {w : World} {M : Nat → Prop} {ι : Nat → Value} {o : Oper} {a : Act} {E : AE → V} {G : Tab} {d : Nat}
/-- A result without slices and pointers needs no memory. -/
theorem Pur.leaf {w' : World} {M' : Nat → Prop} {v : V} {cv : Value} (hl : v.leaf = true) (hp : Pur M w v cv) : Pur M' w' v cv := by
  cases v with
  | bool b => cases hp; exact .bool b
  | int k n => cases hp; exact .int k n
  | str s => cases hp; exact .str s
  | tup vs =>
    cases hp with
    | tup _ cs hs hv =>
      refine .tup vs cs hs (fun i v hi => ?_)
      have h1 := List.all_eq_true.1 hl v (List.mem_of_getElem? hi)
      have h2 := hv i v hi
      generalize cs.getD i undef = c at h2 ⊢
      cases v <;> first | (simp [V.leaf1] at h1; done) | (cases h2; constructor)
  | _ => simp [V.leaf] at hl
theorem sim_getf {t : TypeId} {x0 : Operand} {x : AE} {k off : Nat} {fs : Array Field} {f : Field} {ag : Bool} {n : Nat} (ho : o.op = .field t x0 k) (hf : fieldsT P t = some fs) (hk : fs[k]? = some f) (hoff : f.offset = off) (hag : aggT P f.type = some ag) (hs : szT P f.type = some n)
    (hm : Mem C h w M ι) (hx : Rel M w ι h (E x) (a.eval x0)) : Sim P G C h w M ι o a E d (.getf off (if ag then some n else none) x) := by
  have hu : P.underlying t = some (.struct fs) := by
    unfold fieldsT at hf
    split at hf
    · rename_i fs' hu; injection hf with hf; rw [hu, hf]
    · cases hf
  unfold Sim aeval
  dsimp only
  generalize hEx : E x = ex at hx
  cases ex with
  | agg vs =>
    dsimp only
    obtain ⟨cs, e, hl, h1, hr⟩ := hx.agg_inv
    cases ag
    · intro hφ
      replace hφ : off < vs.length := hφ
      have hc := getD_arr (cs := cs) (k := off) (by omega)
      refine .run (cv := cs.getD off undef) (w' := w) ?_ (After.same (v := vs.getD off .any) hm (hr off (vs.getD off .any) (getD_of_lt .any hφ)))
      simp only [execOp, ho, e, Instr.field, Sem.run_bind, run_underlying hu, Result.andThen_ok, hk, asAgg, Sem.run_pure, part, run_isAgg hag, hoff, hc]
      rfl
    · intro hφ
      replace hφ : off + n ≤ vs.length := hφ
      refine .run (cv := .agg (cs.extract off (off + n))) (w' := w) ?_ (After.same hm (.agg _ _ ?_ ?_ ?_))
      · simp only [execOp, ho, e, Instr.field, Sem.run_bind, run_underlying hu, Result.andThen_ok, hk, asAgg, Sem.run_pure, part, run_isAgg hag, hoff, if_true, run_sizeOf hs]
      · simp only [List.length_take, List.length_drop, Array.size_extract]; omega
      · intro c hc
        refine h1 c ?_
        rw [Array.toList_extract, List.extract_eq_take_drop] at hc
        exact List.mem_of_mem_drop (List.mem_of_mem_take hc)
      · intro i v hi
        have hin : i < n := by have := (List.getElem?_eq_some_iff.1 hi).1; rw [List.length_take] at this; omega
        rw [List.getElem?_take_of_lt hin, List.getElem?_drop] at hi
        have := hr _ v hi
        have e2 : (cs.extract off (off + n)).getD i undef = cs.getD (off + i) undef := by
          simp only [Array.getD_eq_getD_getElem?, Array.getElem?_extract]
          rw [if_pos (by omega)]
        rw [e2]
        exact this
  | _ => exact fun hφ => hφ.elim
theorem mapM_len : ∀ {l : List Operand} {r : List AE}, l.mapM trE = some r → r.length = l.length
  | [], r, hr => by simp at hr; subst hr; rfl
  | q :: l, r, hr => by
    rw [List.mapM_cons] at hr
    cases h1 : trE q with
    | none => rw [h1] at hr; cases hr
    | some y =>
      rw [h1] at hr
      cases h2 : l.mapM trE with
      | none => rw [h2] at hr; cases hr
      | some r' =>
        rw [h2] at hr
        have : y :: r' = r := Option.some.inj hr
        subst this
        simp [mapM_len h2]
/-- The blocks that a function sees that only reads: also those of the own rows. -/
def wideM (h : Nat → Option Ob) (ι : Nat → Value) (M : Nat → Prop) : Nat → Prop := fun b => M b ∨ ∃ n t sz rows, h n = some (.arr t sz rows) ∧ blk (ι n) = some b
theorem wideM_lt (hm : Mem C h w M ι) : ∀ b, wideM h ι M b → b < w.heap.size := by
  rintro b (hb | ⟨n, t, sz, rows, hn, hb⟩)
  · exact hm.lt b hb
  · exact hm.blt n b (by rw [hn]; rfl) hb
theorem borrow_pur (hm : Mem C h w M ι) {ey : V} {cv : Value} (hr : Rel M w ι h ey cv) (hφ : argφ h ey) : Pur (wideM h ι M) w (borrow h ey) cv := by
  have other : ey.pur = true → borrow h ey = ey → Pur (wideM h ι M) w (borrow h ey) cv := fun h1 h2 => by rw [h2]; exact (hr.toPur h1).wide (fun _ hb => .inl hb)
  cases ey with
  | own n len =>
    obtain ⟨t, sz, rows, hn, hle, hv⟩ := hr.own_inv
    simp only [argφ, hn] at hφ
    obtain ⟨hlen, hrp⟩ := hφ
    simp only [borrow, hn, if_pos hlen]
    obtain ⟨xs, hown, hrl, hx1, hxr⟩ := hm.obj n _ hn
    have hcv := hv hlen
    rcases hown.2 with ⟨e, h0⟩ | ⟨g, cap, cur, e, _, hh, hnc, _⟩
    · have h00 : rows = [] := List.length_eq_zero_iff.1 h0
      subst h00
      rw [hcv, e]
      exact .list [] false none 0 0 0 0 (fun _ _ => undef) (fun e => by cases e) (Nat.le_refl _) (fun _ => rfl) (.inl rfl) (fun r hr => by simp at hr) (fun i j hi _ => absurd hi (Nat.not_lt_zero _)) (fun i j r v hi => by simp at hi)
    · rw [hcv, e]
      refine .list rows false (some ⟨g, 0, none⟩) cap sz g 0 (fun i j => xs.getD (i * sz + j) undef) (fun e => by cases e) hnc (fun e => by cases e) (.inr ⟨rfl, .inr ⟨n, t, sz, rows, hn, by rw [e]; rfl⟩⟩) hrl (fun i j hi hj => ?_) (fun i j r v hi hj => ?_)
      · have hlt : i * sz + j < xs.length := by
          rw [hown.1]
          have : i * sz + sz ≤ rows.length * sz := by rw [← Nat.succ_mul]; exact Nat.mul_le_mul_right _ hi
          omega
        have hx := getD_of_lt undef hlt
        refine ⟨?_, hx1 _ (List.mem_of_getElem? hx)⟩
        have := hown.cells (g := g) (by rw [e]; rfl) _ _ hx
        rwa [addr_add, ← Nat.add_assoc] at this
      · exact ((hxr i j r v hi hj).toPur (purs_mem (hrp r (List.mem_of_getElem? hi)) hj)).wide (fun _ hb => .inl hb)
  | _ => exact other hφ rfl
/-- A call of a function that computes, its arguments being known. -/
theorem call_core {f : Nat} {cargs : Array Value} {vs : List V} {bor : Bool} (hrun : Enters P f → (execOp a.eval o).run P w = .ok (.enter f cargs) w) (hG : PureC P U f (G f)) (hm : Mem C h w M ι) (hlen : cargs.size = vs.length)
    (hwide : ∀ (i : Nat) (v : V), vs[i]? = some v → Pur (wideM h ι M) w v (cargs.getD i undef)) (hnb : bor = false → ∀ (i : Nat) (v : V), vs[i]? = some v → Pur M w v (cargs.getD i undef)) (p2 : (G f vs).1) (p3 : bor = true → (G f vs).2.leaf = true) :
    Does P o a w (After C h w M ι h (G f vs).2) := by
  cases bor with
  | true =>
    obtain ⟨he, hc⟩ := hG vs (wideM h ι M) w cargs p2
    refine .call (f := f) (args := cargs) (hrun he) ((hc hm.tb (fun b h => .inl (hm.tm b h)) hlen (wideM_lt hm) hwide).mono ?_)
    rintro e w' ⟨cv, M', rfl, hp, m1, m2, m3, hb⟩
    refine ⟨cv, rfl, M, ι, hm.grow (fun _ h => h) (fun b hb' => Nat.lt_of_lt_of_le (hm.lt b hb') hb.size) (fun _ _ h => h) hb, .pur (hp.leaf (p3 rfl)), fun _ h => h, fun b hb' => hb.block b (hm.lt b hb'), Keeps.refl _ _⟩
  | false =>
    obtain ⟨he, hc⟩ := hG vs M w cargs p2
    refine .call (f := f) (args := cargs) (hrun he) ((hc hm.tb hm.tm hlen hm.lt (hnb rfl)).mono ?_)
    rintro e w' ⟨cv, M', rfl, hp, m1, m2, m3, hb⟩
    exact ⟨cv, rfl, M', ι, hm.grow m1 m2 m3 hb, .pur hp, m1, fun b hb' => hb.block b (hm.lt b hb'), Keeps.refl _ _⟩
theorem borrow_no {ey : V} (h1 : ey.isOwn = false) (h2 : argφ h ey) : borrow h ey = ey ∧ ey.pur = true := by
  cases ey <;> first | (simp [V.isOwn] at h1; done) | exact ⟨rfl, h2⟩
theorem sim_call {f : Nat} {fn : Func} {args0 : Array Operand} {args : List AE} {ats : Array TypeId} (ho : o.op = .call { callee := .value (.func f), args := args0, argTypes := ats }) (hf : P.funcs[f]? = some fn) (hbody : fn.body.isNone = false) (hname : (fn.name == "runtime.NumGoroutine") = false)
    (hargs : args0.toList.mapM trE = some args) (hG : PureC P U f (G f)) (hm : Mem C h w M ι) (hx : ∀ (i : Nat) (y : AE), args[i]? = some y → Rel M w ι h (E y) ((args0.map a.eval).getD i undef)) : Sim P G C h w M ι o a E d (.call f args) := by
  intro hφ
  obtain ⟨p1, p2, p3⟩ := hφ
  have hlen := mapM_len hargs
  have hrun : (execOp a.eval o).run P w = .ok (.enter f (args0.map a.eval)) w := by
    simp only [execOp, ho, resolve, Deferred.ofValue, Act.eval, Sem.run_bind, Sem.run_pure, Result.andThen_ok, invoke, callFunc, run_program, hf, hname, hbody, Bool.false_eq_true, if_false]
    rw [Array.empty_append, Array.append_empty]
  refine call_core (vs := args.map fun x => borrow h (E x)) (bor := args.any fun x => (E x).isOwn) (fun _ => hrun) hG hm (by simpa using hlen.symm) (fun i v hi => ?_) (fun hb i v hi => ?_) p2 p3
  · rw [List.getElem?_map] at hi
    obtain ⟨y, hy, rfl⟩ := Option.map_eq_some_iff.1 hi
    exact borrow_pur hm (hx i y hy) (p1 y (List.mem_of_getElem? hy))
  · rw [List.getElem?_map] at hi
    obtain ⟨y, hy, rfl⟩ := Option.map_eq_some_iff.1 hi
    have hno : (E y).isOwn = false := by
      cases hc : (E y).isOwn with
      | false => rfl
      | true =>
        have : (args.any fun x => (E x).isOwn) = true := List.any_eq_true.2 ⟨y, List.mem_of_getElem? hy, hc⟩
        rw [hb] at this
        cases this
    obtain ⟨b1, b2⟩ := borrow_no hno (p1 y (List.mem_of_getElem? hy))
    rw [b1]
    exact (hx i y hy).toPur b2
theorem sim_callv {x0 : Operand} {x : AE} {args0 : Array Operand} {args : List AE} {ats : Array TypeId} (ho : o.op = .call { callee := .value x0, args := args0, argTypes := ats })
    (hargs : args0.toList.mapM trE = some args) (hG : ∀ f, PureC P U f (G f)) (hm : Mem C h w M ι) (hx0 : Rel M w ι h (E x) (a.eval x0)) (hx : ∀ (i : Nat) (y : AE), args[i]? = some y → Rel M w ι h (E y) ((args0.map a.eval).getD i undef)) : Sim P G C h w M ι o a E d (.callv x args) := by
  unfold Sim aeval evCallv
  dsimp only
  generalize hEx : E x = ex at hx0
  cases ex with
  | fn f cap =>
    dsimp only [evFnv]
    rintro ⟨p1, p0, p2, p3⟩
    obtain ⟨cs, hcv, hcl, hcr⟩ := hx0.fn_inv
    have hlen := mapM_len hargs
    have hsz : (args0.map a.eval).size = args.length := by simpa using hlen.symm
    have hrun : Enters P f → (execOp a.eval o).run P w = .ok (.enter f (args0.map a.eval ++ cs)) w := by
      rintro ⟨fn, hf, hbody, hname⟩
      simp only [execOp, ho, resolve, Deferred.ofValue, hcv, Sem.run_bind, Sem.run_pure, Result.andThen_ok, invoke, callFunc, run_program, hf, hname, hbody, Bool.false_eq_true, if_false]
      rw [Array.empty_append]
    have hget : ∀ i, (args0.map a.eval ++ cs).getD i undef = if i < args.length then (args0.map a.eval).getD i undef else cs.getD (i - args.length) undef := fun i => by
      simp only [Array.getD_eq_getD_getElem?, Array.getElem?_append, hsz]
      split <;> rfl
    refine call_core (vs := (args.map fun y => borrow h (E y)) ++ cap) (bor := args.any fun y => (E y).isOwn) hrun (hG f) hm (by simp only [Array.size_append, List.length_append, List.length_map, hsz, hcl]) (fun i v hi => ?_) (fun hb i v hi => ?_) p2 p3
    · rw [hget]
      by_cases c : i < args.length
      · rw [if_pos c]
        rw [List.getElem?_append_left (by simpa using c), List.getElem?_map] at hi
        obtain ⟨y, hy, rfl⟩ := Option.map_eq_some_iff.1 hi
        exact borrow_pur hm (hx i y hy) (p1 y (List.mem_of_getElem? hy))
      · rw [if_neg c]
        rw [List.getElem?_append_right (by simpa using c), List.length_map] at hi
        exact ((hcr _ _ hi).toPur (purs_mem p0 hi)).wide (fun _ hb => .inl hb)
    · rw [hget]
      by_cases c : i < args.length
      · rw [if_pos c]
        rw [List.getElem?_append_left (by simpa using c), List.getElem?_map] at hi
        obtain ⟨y, hy, rfl⟩ := Option.map_eq_some_iff.1 hi
        have hno : (E y).isOwn = false := by
          cases hc : (E y).isOwn with
          | false => rfl
          | true =>
            have : (args.any fun x => (E x).isOwn) = true := List.any_eq_true.2 ⟨y, List.mem_of_getElem? hy, hc⟩
            rw [hb] at this
            cases this
        obtain ⟨b1, b2⟩ := borrow_no hno (p1 y (List.mem_of_getElem? hy))
        rw [b1]
        exact (hx i y hy).toPur b2
      · rw [if_neg c]
        rw [List.getElem?_append_right (by simpa using c), List.length_map] at hi
        exact (hcr _ _ hi).toPur (purs_mem p0 hi)
  | _ => exact fun hφ => hφ.2.elim
end
end Go.Proofs.YtcongikpaonliaaDoor
