/- A region whose literal slices stay own rows. -/
import Derived.Test.YtkdkjbneohdofaaDoorAv21
namespace Go.Proofs.YtkdkjbneohdofaaDoor
open Go Go.RowKit
set_option linter.unusedSimpArgs false
set_option linter.unusedVariables false
set_option linter.deprecated false
def AOp.own : AOp → AOp
  | .slc t sz _ ps => .slc t sz true ps
  | .mks t sz bytes zero n c => .mkv t sz bytes zero n c
  | o => o
def AO.own (o : AO) : AO := match o.g with
  | none => ⟨o.d, none, o.o.own⟩
  | some g => ⟨o.d, some g, o.o⟩
theorem trOp_slc {P : Program} {op : Op} {t : TypeId} {sz : Nat} {ow : Bool} {ps : List AE} (h : trOp P op = some (.slc t sz ow ps)) : ∃ t0 n parts, op = .buildSlice t0 n parts := by
  have mp : ∀ {α : Type} {x : Option α} {g : α → AOp}, x.map g = some (.slc t sz ow ps) → ∃ y, x = some y ∧ g y = .slc t sz ow ps := fun h => Option.map_eq_some_iff.1 h
  cases op with
  | buildSlice t0 n parts => exact ⟨t0, n, parts, rfl⟩
  | call c =>
    obtain ⟨callee, cargs, cts⟩ := c
    simp only [trOp, trCall] at h
    repeat' split at h
    all_goals first | cases h | (obtain ⟨y, _, e⟩ := mp h; cases e)
  | slice t x lo hi mx =>
    cases mx with
    | some _ =>
      simp only [trOp] at h
      repeat' split at h
      all_goals cases h
    | none =>
      simp only [trOp] at h
      repeat' split at h
      all_goals cases h
  | makeMap t r => cases r with | none => cases h | some _ => cases h
  | makeFunc fn _ _ =>
    cases fn with
    | func f =>
      simp only [trOp] at h
      split at h
      · obtain ⟨y, _, e⟩ := mp h; cases e
      · cases h
    | _ => cases h
  | _ =>
    simp only [trOp] at h
    repeat' split at h
    all_goals first | cases h | (obtain ⟨y, _, e⟩ := mp h; cases e)
theorem trOp_mks {P : Program} {op : Op} {t : TypeId} {sz bytes : Nat} {zero : List V} {n c : AE} (h : trOp P op = some (.mks t sz bytes zero n c)) : ∃ t0 n0 c0, op = .makeSlice t0 n0 c0 := by
  have mp : ∀ {α : Type} {x : Option α} {g : α → AOp}, x.map g = some (.mks t sz bytes zero n c) → ∃ y, x = some y ∧ g y = .mks t sz bytes zero n c := fun h => Option.map_eq_some_iff.1 h
  cases op with
  | makeSlice t0 n0 c0 => exact ⟨t0, n0, c0, rfl⟩
  | call c =>
    obtain ⟨callee, cargs, cts⟩ := c
    simp only [trOp, trCall] at h
    repeat' split at h
    all_goals first | cases h | (obtain ⟨y, _, e⟩ := mp h; cases e)
  | slice t x lo hi mx =>
    cases mx with
    | some _ =>
      simp only [trOp] at h
      repeat' split at h
      all_goals cases h
    | none =>
      simp only [trOp] at h
      repeat' split at h
      all_goals cases h
  | makeMap t r => cases r with | none => cases h | some _ => cases h
  | makeFunc fn _ _ =>
    cases fn with
    | func f =>
      simp only [trOp] at h
      split at h
      · obtain ⟨y, _, e⟩ := mp h; cases e
      · cases h
    | _ => cases h
  | _ =>
    simp only [trOp] at h
    repeat' split at h
    all_goals first | cases h | (obtain ⟨y, _, e⟩ := mp h; cases e)
section
variable {P : Program} {U : Tbl} {C : Ctx U} {G : Tab} {ops : Array Oper} {o : Oper} {s : St} {Q : Exit → St → Prop}
theorem simO {h : Nat → Option Ob} {w : World} {M : Nat → Prop} {ι : Nat → Value} {a : Act} {E : AE → V} {d : Nat} {ao : AOp} (ho : trOp P o.op = some ao) (hG : ∀ f, PureC P U f (G f)) (hm : Mem C h w M ι) (hx : ∀ x0 y, y ∈ ao.args → trE x0 = some y → Rel M w ι h (E y) (a.eval x0)) : Sim P G C h w M ι o a E d ao.own := by
  cases ao with
  | slc t sz ow ps =>
    obtain ⟨t0, n, parts, hop⟩ := trOp_slc ho
    rw [hop] at ho
    simp only [trOp] at ho
    split at ho
    · rename_i e ht
      split at ho
      · rename_i i hi
        split at ho
        · rename_i z hz
          split at ho
          · rename_i hc
            obtain ⟨c1, c3, c4⟩ := hc
            obtain ⟨qs, hq, he⟩ := Option.map_eq_some_iff.1 ho
            injection he with he1 he2 he3 he4
            subst he1 he2 he4
            exact sim_slc true hop ht (by unfold szT; rw [hi]; rfl) hi hz c1 c3 c4 hq hm (fun x0 y hm1 he => hx x0 y (seqT_mem hq x0 y hm1 he) he)
          · cases ho
        · cases ho
      · cases ho
    · cases ho
  | mks t sz bytes zero n c =>
    obtain ⟨t0, n0, c0, hop⟩ := trOp_mks ho
    rw [hop] at ho
    simp only [trOp] at ho
    split at ho
    · rename_i e ht
      split at ho
      · rename_i i n' c' h1 h2 h3
        split at ho
        · rename_i z hz
          split at ho
          · rename_i hc
            obtain ⟨c1, c2, c3⟩ := hc
            injection ho with ho
            injection ho with q1 q2 q3 q4 q5 q6
            subst q1 q2 q3 q4 q5 q6
            exact sim_mkv hop ht h1 hz rfl rfl c2 c1 c3 hm (hx n0 n' (by simp [AOp.args]) h2) (hx c0 c' (by simp [AOp.args]) h3)
          · cases ho
        · cases ho
      · cases ho
    · cases ho
  | _ => exact sim ho hG hm hx
theorem step_simO {ao : AO} (ht : trO P C.N ops o = some ao) (hG : ∀ f, PureC P U f (G f)) {a : Act} {w : World} {M : Nat → Prop} {ι : Nat → Value} (hg : Good C s a w M ι) (hφ : (ao.own.res G s).φ) {K : Act → World → Prop} {Q : Exit → Act → World → Prop}
    (hK : ∀ a' w' M' ι', Good C (ao.own.next G s) a' w' M' ι' → K a' w') : if Region.wanted o (yielded ops a.tmps) = true then o.wp P a w K Q else K (a.put o.dst undef) w := by
  obtain ⟨op, hop, hd, e1, e2, hgu⟩ := trO_spec ht
  obtain ⟨d, g, ao'⟩ := ao
  dsimp only at e1 e2 hgu
  rcases hgu with ⟨g1, rfl⟩ | ⟨j, want, t, g1, hj, hlt, rfl⟩
  · subst e1 e2
    rw [if_pos (by simp [Region.wanted, g1])]
    have hs := simO (d := o.dst.getD 0) hop hG hg.mem (E := AE.ev s.e) (fun x0 y _ hy => trE_rel hg.env hy) hφ
    refine hs K Q (fun cv w' ha => ?_)
    obtain ⟨M', ι', h1⟩ := hg.next (d := o.dst) hd ha
    exact hK _ _ M' ι' h1
  · exact step_sim ht hG hg hφ hK
theorem eCall_own {EF : Nat → Bool} {ao : AO} {f : Nat} {us : List V} (h : eCall EF ao.own s = some (f, us)) : ao.own = ao := by
  obtain ⟨d, g, o⟩ := ao
  cases g with
  | some g => rfl
  | none => cases o <;> first | rfl | (simp [eCall, AO.own, AOp.own] at h; done)
theorem wpList_of_arunO {ops : Array Oper} {Q' : Exit → Act → World → Prop} {EF : Nat → Bool} (hG : ∀ f, PureC P U f (G f)) {K : St → Prop} (hK : ∀ s' a' w' M' ι', K s' → Good C s' a' w' M' ι' → Q' .normal a' w') : ∀ (l : List Oper) (aos : List AO), l.mapM (trO P C.N ops) = some aos →
    ∀ (s : St) (a : Act) (w : World) (M : Nat → Prop) (ι : Nat → Value), Good C s a w M ι → arun P U EF G (aos.map AO.own) s K → wpList P ops Q' l a w
  | [], aos, ht, s, a, w, M, ι, hg, h => by
    simp at ht
    subst ht
    exact wpList_nil (hK s a w M ι h hg)
  | o :: l, aos, ht, s, a, w, M, ι, hg, h => by
    rw [List.mapM_cons] at ht
    cases h1 : trO P C.N ops o with
    | none => rw [h1] at ht; cases ht
    | some ao =>
      rw [h1] at ht
      cases h2 : l.mapM (trO P C.N ops) with
      | none => rw [h2] at ht; cases ht
      | some aos' =>
        rw [h2] at ht
        have e : ao :: aos' = aos := Option.some.inj ht
        subst e
        rw [List.map_cons] at h
        unfold arun at h
        refine wpList_step fun K2 hK2 => ?_
        split at h
        · rename_i f us he
          have eo := eCall_own he
          rw [eo] at he h
          exact step_estep h1 hg he h fun s' a' w' M' ι' h3 hg' => hK2 _ _ (wpList_of_arunO hG hK l aos' h2 s' a' w' M' ι' hg' h3)
        · obtain ⟨p1, p2⟩ := h
          exact step_simO h1 hG hg p1 fun a' w' M' ι' hg' => hK2 _ _ (wpList_of_arunO hG hK l aos' h2 _ a' w' M' ι' hg' p2)
theorem aw_regionO {id : Nat} {ops : Array Oper} {aos : List AO} {EF : Nat → Bool} (hG : ∀ f, PureC P U f (G f)) (ht : ops.toList.mapM (trO P C.N ops) = some aos) (h : arun P U EF G (aos.map AO.own) s (Q .normal)) : AW P C (.region id ops false) Q s := fun a w M ι hg =>
  wp_region_list (wpList_of_arunO hG (K := Q .normal) (fun s' a' w' M' ι' h1 h2 => ⟨s', M', ι', h1, h2⟩) ops.toList aos ht s a w M ι hg h)
theorem wpList_of_arunW {ops : Array Oper} {Q' : Exit → Act → World → Prop} {EF : Nat → Bool} (hG : ∀ f, PureC P U f (G f)) {K : St → Prop} (hK : ∀ s' a' w' M' ι', K s' → Good C s' a' w' M' ι' → Q' .normal a' w') : ∀ (l : List Oper) (aos : List AO), l.mapM (trO P C.N ops) = some aos →
    ∀ (s : St) (a : Act) (w : World) (M : Nat → Prop) (ι : Nat → Value), Good C s a w M ι → arun P U EF G (aos.map AO.wrp) s K → wpList P ops Q' l a w
  | [], aos, ht, s, a, w, M, ι, hg, h => by
    simp at ht
    subst ht
    exact wpList_nil (hK s a w M ι h hg)
  | o :: l, aos, ht, s, a, w, M, ι, hg, h => by
    rw [List.mapM_cons] at ht
    cases h1 : trO P C.N ops o with
    | none => rw [h1] at ht; cases ht
    | some ao =>
      rw [h1] at ht
      cases h2 : l.mapM (trO P C.N ops) with
      | none => rw [h2] at ht; cases ht
      | some aos' =>
        rw [h2] at ht
        have e : ao :: aos' = aos := Option.some.inj ht
        subst e
        rw [List.map_cons] at h
        unfold arun at h
        refine wpList_step fun K2 hK2 => ?_
        split at h
        · rename_i f us he
          have eo := eCall_wrp he
          rw [eo] at he h
          exact step_estep h1 hg he h fun s' a' w' M' ι' h3 hg' => hK2 _ _ (wpList_of_arunW hG hK l aos' h2 s' a' w' M' ι' hg' h3)
        · obtain ⟨p1, p2⟩ := h
          exact step_simW h1 hG hg p1 fun a' w' M' ι' hg' => hK2 _ _ (wpList_of_arunW hG hK l aos' h2 _ a' w' M' ι' hg' p2)
theorem aw_regionW {id : Nat} {ops : Array Oper} {aos : List AO} {EF : Nat → Bool} (hG : ∀ f, PureC P U f (G f)) (ht : ops.toList.mapM (trO P C.N ops) = some aos) (h : arun P U EF G (aos.map AO.wrp) s (Q .normal)) : AW P C (.region id ops false) Q s := fun a w M ι hg =>
  wp_region_list (wpList_of_arunW hG (K := Q .normal) (fun s' a' w' M' ι' h1 h2 => ⟨s', M', ι', h1, h2⟩) ops.toList aos ht s a w M ι hg h)
end
attribute [go_sem] AO.own AOp.own AO.wrp AOp.wrp List.map_cons List.map_nil
theorem idW {P : Program} {U : Tbl} {C : Ctx U} {c : Code} {Q : Exit → St → Prop} {s : St} (h : AW P C c Q s) : AW P C c Q s := h
theorem idS {P : Program} {U : Tbl} {d : Option Nat} {f : Nat} {vs : List V} {s : St} {K : St → Prop} (h : EStep P U d f vs s K) : EStep P U d f vs s K := h
theorem hcL : (∀ (p : Prop) [Decidable p], (decide p = true) = p) ∧ (∀ (p : Prop) [Decidable p], decide p = false ↔ ¬p) ∧ (∀ a b : Bool, ((a && b) = true) = (a = true ∧ b = true)) ∧ (∀ a b : Bool, ((a || b) = true) = (a = true ∨ b = true)) ∧
    (∀ b : Bool, ((!b) = true) = (b = false)) ∧ (∀ b : Bool, ((!b) = false) = (b = true)) ∧ (∀ a b : Bool, (a && b) = false ↔ a = false ∨ b = false) ∧ (∀ a b : Bool, (a || b) = false ↔ a = false ∧ b = false) ∧
    (∀ m n : Nat, (m : Int) < n ↔ m < n) ∧ (∀ m n : Nat, (m : Int) ≤ n ↔ m ≤ n) ∧ (∀ m n : Nat, ¬ m < n ↔ n ≤ m) ∧ (∀ m n : Nat, ¬ m ≤ n ↔ n < m) ∧ (∀ m n : Int, ¬ m < n ↔ n ≤ m) ∧ (∀ m n : Int, ¬ m ≤ n ↔ n < m) :=
  ⟨fun _ _ => decide_eq_true_eq, fun _ _ => decide_eq_false_iff_not, fun a b => Bool.and_eq_true a b, fun a b => Bool.or_eq_true a b, fun b => by cases b <;> simp, fun b => by cases b <;> simp, fun a b => by cases a <;> simp, fun a b => by cases a <;> simp,
    fun _ _ => Int.ofNat_lt, fun _ _ => Int.ofNat_le, fun _ _ => Nat.not_lt, fun _ _ => Nat.not_le, fun _ _ => Int.not_lt, fun _ _ => Int.not_le⟩
end Go.Proofs.YtkdkjbneohdofaaDoor
