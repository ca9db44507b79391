/- Nil slices inside the arguments of a call are read as empty lists. -/
import Derived.Test.YtfjgnfgadkajnaaGreatT3
namespace Go.Proofs.YtfjgnfgadkajnaaGreat
open Go Go.RowKit
set_option linter.unusedSimpArgs false
set_option linter.unusedVariables false
set_option linter.deprecated false
def nnA : V → V
  | .nils => .list [] false
  | .agg vs => .agg (vs.map V.nn1)
  | v => v
def gNn (g : List V → Prop × V) (vs : List V) : Prop × V := g (vs.map nnA)
theorem nn1_pur {M : Nat → Prop} {w : World} {v : V} {cv : Value} (h : Pur M w v cv) : Pur M w v.nn1 cv := by
  cases v with
  | nils =>
    cases h
    exact .list [] false none 0 0 0 0 (fun _ _ => undef) (fun e => by cases e) (Nat.le_refl _) (fun _ => rfl) (.inl rfl) (fun r hr => by simp at hr) (fun i j hi _ => absurd hi (Nat.not_lt_zero _)) (fun i j r v hi => by simp at hi)
  | _ => exact h
theorem nnA_pur {M : Nat → Prop} {w : World} {v : V} {cv : Value} (h : Pur M w v cv) : Pur M w (nnA v) cv := by
  cases v with
  | nils => exact nn1_pur h
  | agg vs =>
    cases h with
    | agg _ cs hl ho hv =>
      refine .agg (vs.map V.nn1) cs (by rw [List.length_map]; exact hl) ho fun i v hi => ?_
      rw [List.getElem?_map] at hi
      obtain ⟨u, hu, rfl⟩ := Option.map_eq_some_iff.1 hi
      exact nn1_pur (hv i u hu)
  | _ => exact h
theorem PureC.nn {P : Program} {U : Tbl} {f : Nat} {g : List V → Prop × V} (h : PureC P U f g) : PureC P U f (gNn g) := fun vs M w cargs h1 => by
  obtain ⟨a, b⟩ := h (vs.map nnA) M w cargs h1
  refine ⟨a, fun h2 h3 h4 h5 h6 => b h2 h3 (by rw [List.length_map]; exact h4) h5 fun i v hi => ?_⟩
  rw [List.getElem?_map] at hi
  obtain ⟨u, hu, rfl⟩ := Option.map_eq_some_iff.1 hi
  exact nnA_pur (h6 i u hu)
end Go.Proofs.YtfjgnfgadkajnaaGreat
