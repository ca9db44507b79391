/- A region whose literal slices stay own rows. -/
import Derived.Test.YtfjgnfgadkajnaaAv21
namespace Go.Proofs.Ytfjgnfgadkajnaa
open Go Go.RowKit
set_option linter.unusedSimpArgs false
set_option linter.unusedVariables false
set_option linter.deprecated false
def AOp.own : AOp → AOp
  | .slc t sz _ ps => .slc t sz true ps
  | .mks t sz bytes zero n c => .mkv t sz bytes zero n c
  | o => o
def AO.own (o : AO) : AO := match o.g with
  | none => ⟨o.d, none, o.o.own⟩
  | some g => ⟨o.d, some g, o.o⟩
section
variable {P : Program} {U : Tbl} {C : Ctx U} {G : Tab} {ops : Array Oper} {o : Oper} {s : St} {Q : Exit → St → Prop}
theorem wpList_of_arunW {ops : Array Oper} {Q' : Exit → Act → World → Prop} {EF : Nat → Bool} (hG : ∀ f, PureC P U f (G f)) {K : St → Prop} (hK : ∀ s' a' w' M' ι', K s' → Good C s' a' w' M' ι' → Q' .normal a' w') : ∀ (l : List Oper) (aos : List AO), l.mapM (trO P C.N ops) = some aos →
    ∀ (s : St) (a : Act) (w : World) (M : Nat → Prop) (ι : Nat → Value), Good C s a w M ι → arun P U EF G (aos.map AO.wrp) s K → wpList P ops Q' l a w
  | [], aos, ht, s, a, w, M, ι, hg, h => by
    simp at ht
    subst ht
    exact wpList_nil (hK s a w M ι h hg)
  | o :: l, aos, ht, s, a, w, M, ι, hg, h => by
    rw [List.mapM_cons] at ht
    cases h1 : trO P C.N ops o with
    | none => rw [h1] at ht; cases ht
    | some ao =>
      rw [h1] at ht
      cases h2 : l.mapM (trO P C.N ops) with
      | none => rw [h2] at ht; cases ht
      | some aos' =>
        rw [h2] at ht
        have e : ao :: aos' = aos := Option.some.inj ht
        subst e
        rw [List.map_cons] at h
        unfold arun at h
        refine wpList_step fun K2 hK2 => ?_
        split at h
        · rename_i f us he
          have eo := eCall_wrp he
          rw [eo] at he h
          exact step_estep h1 hg he h fun s' a' w' M' ι' h3 hg' => hK2 _ _ (wpList_of_arunW hG hK l aos' h2 s' a' w' M' ι' hg' h3)
        · obtain ⟨p1, p2⟩ := h
          exact step_simW h1 hG hg p1 fun a' w' M' ι' hg' => hK2 _ _ (wpList_of_arunW hG hK l aos' h2 _ a' w' M' ι' hg' p2)
theorem aw_regionW {id : Nat} {ops : Array Oper} {aos : List AO} {EF : Nat → Bool} (hG : ∀ f, PureC P U f (G f)) (ht : ops.toList.mapM (trO P C.N ops) = some aos) (h : arun P U EF G (aos.map AO.wrp) s (Q .normal)) : AW P C (.region id ops false) Q s := fun a w M ι hg =>
  wp_region_list (wpList_of_arunW hG (K := Q .normal) (fun s' a' w' M' ι' h1 h2 => ⟨s', M', ι', h1, h2⟩) ops.toList aos ht s a w M ι hg h)
end
attribute [go_sem] AO.own AOp.own AO.wrp AOp.wrp List.map_cons List.map_nil
theorem idW {P : Program} {U : Tbl} {C : Ctx U} {c : Code} {Q : Exit → St → Prop} {s : St} (h : AW P C c Q s) : AW P C c Q s := h
theorem idS {P : Program} {U : Tbl} {d : Option Nat} {f : Nat} {vs : List V} {s : St} {K : St → Prop} (h : EStep P U d f vs s K) : EStep P U d f vs s K := h
end Go.Proofs.Ytfjgnfgadkajnaa
