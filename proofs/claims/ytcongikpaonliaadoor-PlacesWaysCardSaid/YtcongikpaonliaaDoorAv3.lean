/- Each operation does what the abstract one says: those that leave memory alone. -/
import Derived.Test.YtcongikpaonliaaDoorAv2
import Derived.Laws.AppendOwnNone
namespace Go.Proofs.YtcongikpaonliaaDoor
open Go Go.RowKit
set_option linter.unusedSimpArgs false
set_option linter.unusedVariables false
set_option linter.deprecated false
def Does (P : Program) (o : Oper) (a : Act) (w : World) (T : Value → World → Prop) : Prop :=
  ∀ (K : Act → World → Prop) (Q : Exit → Act → World → Prop), (∀ cv w', T cv w' → K (a.put o.dst cv) w') → o.wp P a w K Q
section
variable {P : Program} {o : Oper} {a : Act} {w : World} {T : Value → World → Prop}
theorem Does.run {cv : Value} {w' : World} (h : (execOp a.eval o).run P w = .ok (.value cv) w') (t : T cv w') : Does P o a w T := fun K Q hk => by
  unfold Oper.wp; rw [h]; exact hk _ _ t
theorem Does.skip {w' : World} (h : (execOp a.eval o).run P w = .ok .skip w') (t : T undef w') : Does P o a w T := fun K Q hk => by
  unfold Oper.wp; rw [h]; exact hk _ _ t
theorem Does.call {f : FuncId} {args : Array Value} (h : (execOp a.eval o).run P w = .ok (.enter f args) w) (t : Calls P f args w fun e w' => ∃ v, e = .returned v ∧ T v w') : Does P o a w T := fun K Q hk => by
  unfold Oper.wp; rw [h]
  show Calls P f args w _
  refine t.mono ?_
  rintro e w' ⟨v, rfl, ht⟩
  exact hk _ _ ht
theorem Does.mono {T' : Value → World → Prop} (h : Does P o a w T) (t : ∀ v w', T v w' → T' v w') : Does P o a w T' := fun K Q hk => h K Q fun cv w' ht => hk cv w' (t _ _ ht)
end
/-- What stands behind an operation. -/
def After {U : Tbl} (C : Ctx U) (h : Nat → Option Ob) (w : World) (M : Nat → Prop) (ι : Nat → Value) (h' : Nat → Option Ob) (v : V) (cv : Value) (w' : World) : Prop :=
  ∃ (M' : Nat → Prop) (ι' : Nat → Value), Mem C h' w' M' ι' ∧ Rel M' w' ι' h' v cv ∧ (∀ b, M b → M' b) ∧ (∀ b, M b → w'.heap[b]? = w.heap[b]?) ∧ Keeps h h' ι ι'
section
variable {U : Tbl} {C : Ctx U} {h : Nat → Option Ob} {w : World} {M : Nat → Prop} {ι : Nat → Value}
theorem After.same (hm : Mem C h w M ι) {v : V} {cv : Value} (hr : Rel M w ι h v cv) : After C h w M ι h v cv w :=
  ⟨M, ι, hm, hr, fun _ hb => hb, fun _ _ => rfl, Keeps.refl h ι⟩
/-! What a value of a given shape is. -/
theorem Rel.bool_inv {b : Bool} {cv : Value} (r : Rel M w ι h (.bool b) cv) : cv = .bool b := by cases r with | pur hp => cases hp; rfl
theorem Rel.int_inv {k : IntKind} {n : Int} {cv : Value} (r : Rel M w ι h (.int k n) cv) : cv = .int k n := by cases r with | pur hp => cases hp; rfl
theorem Rel.str_inv {s : List UInt8} {cv : Value} (r : Rel M w ι h (.str s) cv) : cv = .string ⟨s.toArray⟩ := by cases r with | pur hp => cases hp; rfl
theorem Rel.nils_inv {cv : Value} (r : Rel M w ι h .nils cv) : cv = .slice none 0 0 := by cases r with | pur hp => cases hp; rfl
theorem Rel.nilp_inv {cv : Value} (r : Rel M w ι h .nilp cv) : cv = .pointer none := by cases r with | pur hp => cases hp; rfl
theorem Rel.agg_inv {vs : List V} {cv : Value} (r : Rel M w ι h (.agg vs) cv) : ∃ cs : Array Value, cv = .agg cs ∧ vs.length = cs.size ∧ (∀ c ∈ cs.toList, c.oneCell' = true) ∧ ∀ (i : Nat) (v : V), vs[i]? = some v → Rel M w ι h v (cs.getD i undef) := by
  cases r with
  | pur hp => cases hp with | agg _ cs hl ho hv => exact ⟨cs, rfl, hl, ho, fun i v hi => .pur (hv i v hi)⟩
  | agg _ cs hl ho hv => exact ⟨cs, rfl, hl, ho, hv⟩
theorem Rel.tup_inv {vs : List V} {cv : Value} (r : Rel M w ι h (.tup vs) cv) : ∃ cs : Array Value, cv = .tuple cs ∧ vs.length = cs.size ∧ ∀ (i : Nat) (v : V), vs[i]? = some v → Rel M w ι h v (cs.getD i undef) := by
  cases r with
  | pur hp => cases hp with | tup _ cs hl hv => exact ⟨cs, rfl, hl, fun i v hi => .pur (hv i v hi)⟩
  | tup _ cs hl hv => exact ⟨cs, rfl, hl, hv⟩
theorem Rel.fn_inv {f : Nat} {vs : List V} {cv : Value} (r : Rel M w ι h (.fn f vs) cv) : ∃ cs : Array Value, cv = .func (.func f) #[] cs ∧ vs.length = cs.size ∧ ∀ (i : Nat) (v : V), vs[i]? = some v → Rel M w ι h v (cs.getD i undef) := by
  cases r with
  | pur hp => cases hp with | fn _ _ cs hl hv => exact ⟨cs, rfl, hl, fun i v hi => .pur (hv i v hi)⟩
  | fn _ _ cs hl hv => exact ⟨cs, rfl, hl, hv⟩
theorem Rel.strip {v : V} {cv : Value} (r : Rel M w ι h v cv) (hc : v.cnd = true) : Rel M w ι h v.strip cv := by
  cases v with
  | when b u =>
    replace hc : b = true := hc
    cases r with
    | pur hp => cases hp with | when _ _ _ ht _ => exact .pur (ht hc)
    | when _ _ _ ht _ => exact ht hc
  | _ => exact r
theorem Rel.when_inv {b : Bool} {v : V} {cv : Value} (r : Rel M w ι h (.when b v) cv) : (b = true → Rel M w ι h v cv) ∧ (b = false → cv = undef) := by
  cases r with
  | pur hp => cases hp with | when _ _ _ ht hf => exact ⟨fun e => .pur (ht e), hf⟩
  | when _ _ _ ht hf => exact ⟨ht, hf⟩
theorem oneCell_of_ne {cv : Value} (h1 : ∀ cs, cv ≠ .agg cs) (h2 : ∀ cs, cv ≠ .tuple cs) : cv.oneCell' = true := by
  cases cv <;> first | rfl | exact absurd rfl (h1 _) | exact absurd rfl (h2 _)
theorem Rel.one {v : V} {cv : Value} (r : Rel M w ι h v cv) (hv : v.one = true) : cv.oneCell' = true := by
  cases r with
  | pur hp => cases hp <;> first | rfl | (simp [V.one] at hv; done)
  | agg => simp [V.one] at hv
  | tup => simp [V.one] at hv
  | when => simp [V.one] at hv
  | fn => rfl
  | ptrb => rfl
  | eptr _ _ _ _ _ _ _ _ _ _ hs => exact hs
  | own _ _ _ _ _ _ _ _ _ hs => exact hs
  | map _ _ _ _ _ hs => exact hs
theorem cells_one {cv : Value} (h1 : cv.oneCell' = true) : cv.cells = #[cv] := by cases cv <;> first | rfl | (simp [Value.oneCell'] at h1; done)
/-- The cells of a shaped value. -/
theorem Rel.cells {v : V} {cv : Value} (r : Rel M w ι h v cv) (hv : v.shaped = true) : v.cells.length = cv.cells.size ∧ (∀ c ∈ cv.cells.toList, c.oneCell' = true) ∧ ∀ (i : Nat) (u : V), v.cells[i]? = some u → Rel M w ι h u (cv.cells.getD i undef) := by
  by_cases hag : ∃ vs, v = .agg vs
  · obtain ⟨vs, rfl⟩ := hag
    obtain ⟨cs, rfl, hl, ho, hr⟩ := r.agg_inv
    exact ⟨hl, ho, hr⟩
  · have h1 : v.one = true := by cases v <;> first | exact hv | exact absurd ⟨_, rfl⟩ hag
    have hc : v.cells = [v] := by cases v <;> first | rfl | exact absurd ⟨_, rfl⟩ hag
    have ho := r.one h1
    rw [cells_one ho, hc]
    refine ⟨rfl, by simpa using ho, fun i u hi => ?_⟩
    cases i with
    | zero => simp at hi; subst hi; simpa using r
    | succ i => simp at hi
theorem leafV_pur (M : Nat → Prop) (w : World) (cv : Value) : Pur M w (leafV cv) cv := by
  cases cv with
  | bool b => exact .bool _
  | int k n => exact .int _ _
  | string s =>
    have e : s = ⟨s.data.toList.toArray⟩ := by apply ByteArray.ext; simp
    show Pur M w (.str s.data.toList) (.string s)
    conv => arg 4; rw [e]
    exact .str _
  | slice x n m =>
    unfold leafV
    dsimp only
    split
    · rename_i hh; obtain ⟨rfl, rfl, rfl⟩ := hh; exact .nils
    · exact .any _
  | pointer x =>
    unfold leafV
    dsimp only
    split
    · rename_i hh; subst hh; exact .nilp
    · exact .any _
  | map x =>
    unfold leafV
    dsimp only
    split
    · rename_i hh; subst hh; exact .nilm
    · exact .any _
  | func f fs cs =>
    cases f with
    | func f =>
      unfold leafV
      dsimp only
      split
      · rename_i hh
        obtain ⟨h1, h2⟩ := hh
        obtain rfl := Array.eq_empty_of_size_eq_zero h1
        obtain rfl := Array.eq_empty_of_size_eq_zero h2
        exact .fn _ [] #[] rfl (fun i v hi => by simp at hi)
      · exact .any _
    | _ => exact .any _
  | _ => exact .any _
theorem ofVal_pur (M : Nat → Prop) (w : World) (cv : Value) : Pur M w (ofVal cv) cv := by
  unfold ofVal
  split
  · rename_i cs
    split
    · rename_i hall
      refine .agg _ cs (by simp) (fun c hc => (List.all_eq_true.1 hall) c hc) (fun i v hi => ?_)
      rw [List.getElem?_map] at hi
      obtain ⟨c, hc, rfl⟩ := Option.map_eq_some_iff.1 hi
      have : cs.getD i undef = c := by
        rw [Array.getElem?_toList] at hc
        simp [hc]
      rw [this]
      exact leafV_pur M w c
    · exact .any _
  · exact leafV_pur M w cv
/-- An operand means the same on both sides. -/
theorem trE_rel {e : Nat → V} {a : Act} (he : ∀ t, Rel M w ι h (e t) (a.tmps.getD t undef)) {x0 : Operand} {x : AE} (hx : trE x0 = some x) : Rel M w ι h (x.ev e) (a.eval x0) := by
  cases x0 with
  | tmp n => simp [trE] at hx; subst hx; exact he n
  | const v => simp [trE] at hx; subst hx; exact .pur (ofVal_pur M w v)
  | func f => simp [trE] at hx; subst hx; exact .pur (.fn f [] #[] rfl (fun i v hi => by simp at hi))
  | global g => simp [trE] at hx
end
/-! The operations. ρ: the operands' values; E: their abstract values. -/
section
variable {P : Program} {U : Tbl} {C : Ctx U} {h : Nat → Option Ob} {w : World} {M : Nat → Prop} {ι : Nat → Value} {o : Oper} {a : Act} {E : AE → V} {G : Tab} {d : Nat}
abbrev Sim (P : Program) (G : Tab) {U : Tbl} (C : Ctx U) (h : Nat → Option Ob) (w : World) (M : Nat → Prop) (ι : Nat → Value) (o : Oper) (a : Act) (E : AE → V) (d : Nat) (ao : AOp) : Prop :=
  (aeval G d E h ao).φ → Does P o a w (After C h w M ι (hupds h (aeval G d E h ao).w) (aeval G d E h ao).v)
theorem sim_mv {x0 : Operand} {x : AE} (ho : o.op = .move x0 ∨ o.op = .assign x0) (hm : Mem C h w M ι) (hx : Rel M w ι h (E x) (a.eval x0)) : Sim P G C h w M ι o a E d (.mv x) := by
  intro _
  refine .run (cv := a.eval x0) (w' := w) ?_ (After.same hm hx)
  rcases ho with ho | ho <;> simp [execOp, ho]
theorem sim_pick {c0 a0 b0 : Operand} {c x y : AE} (ho : o.op = .pick c0 a0 b0) (hm : Mem C h w M ι) (hc : Rel M w ι h (E c) (a.eval c0)) (hx : Rel M w ι h (E x) (a.eval a0)) (hy : Rel M w ι h (E y) (a.eval b0)) :
    Sim P G C h w M ι o a E d (.pick c x y) := by
  unfold Sim aeval evPick
  dsimp only
  split
  · rename_i b p q e1 e2 e3
    intro hφ
    obtain ⟨h1, h2, h3⟩ := hφ
    have r1 := hc.strip h1
    rw [e1] at r1
    have v1 := r1.bool_inv
    cases b
    · have r3 := hy.strip (h3 rfl)
      rw [e3] at r3
      refine .run (cv := .bool q) (w' := w) ?_ (After.same hm (.pur (.bool _)))
      simp [execOp, ho, v1, r3.bool_inv, asBool]
    · have r2 := hx.strip (h2 rfl)
      rw [e2] at r2
      refine .run (cv := .bool p) (w' := w) ?_ (After.same hm (.pur (.bool _)))
      simp [execOp, ho, v1, r2.bool_inv, asBool]
  · rename_i b p e1 e2 _
    rintro ⟨h1, rfl, h2⟩
    have r1 := hc.strip h1
    rw [e1] at r1
    have r2 := hx.strip h2
    rw [e2] at r2
    refine .run (cv := .bool p) (w' := w) ?_ (After.same hm (.pur (.bool _)))
    simp [execOp, ho, r1.bool_inv, r2.bool_inv, asBool]
  · rename_i b q e1 e3 _
    rintro ⟨h1, rfl, h2⟩
    have r1 := hc.strip h1
    rw [e1] at r1
    have r3 := hy.strip h2
    rw [e3] at r3
    refine .run (cv := .bool q) (w' := w) ?_ (After.same hm (.pur (.bool _)))
    simp [execOp, ho, r1.bool_inv, r3.bool_inv, asBool]
  · exact fun hφ => hφ.elim
theorem sim_ext {x0 : Operand} {x : AE} {k : Nat} (ho : o.op = .extract x0 k) (hm : Mem C h w M ι) (hx : Rel M w ι h (E x) (a.eval x0)) : Sim P G C h w M ι o a E d (.ext k x) := by
  unfold Sim aeval
  dsimp only
  split
  · rename_i vs e1
    intro hφ
    rw [e1] at hx
    obtain ⟨cs, hcv, hl, hv⟩ := hx.tup_inv
    replace hφ : k < vs.length := hφ
    have hk : vs[k]? = some (vs.getD k .any) := by rw [List.getElem?_eq_getElem hφ, List.getD_eq_getElem?_getD, List.getElem?_eq_getElem hφ]; rfl
    refine .run (cv := cs.getD k undef) (w' := w) ?_ (After.same hm (hv k _ hk))
    have hk2 : cs[k]? = some (cs.getD k undef) := by rw [Array.getElem?_eq_getElem (by omega)]; simp [Array.getD, show k < cs.size by omega]
    simp only [execOp, ho, hcv, Instr.extract, hk2, Sem.run_bind, Sem.run_pure, Result.andThen_ok]
  · exact fun hφ => hφ.elim
end
end Go.Proofs.YtcongikpaonliaaDoor
