/- A region in pieces. -/
import Derived.Test.YthfmdkpfaehpnaaAv23
import Derived.Test.YthfmdkpfaehpnaaT3
namespace Go.Proofs.Ythfmdkpfaehpnaa
open Go Go.RowKit
set_option linter.unusedSimpArgs false
set_option linter.unusedVariables false
set_option linter.deprecated false
theorem mapM_take {α β : Type} (f : α → Option β) : ∀ (k : Nat) {l : List α} {r : List β}, l.mapM f = some r → (l.take k).mapM f = some (r.take k)
  | 0, l, r, _ => by simp
  | k + 1, [], r, h => by simp at h; subst h; simp
  | k + 1, x :: l, r, h => by
    rw [List.mapM_cons] at h
    cases h1 : f x with
    | none => rw [h1] at h; cases h
    | some y =>
      rw [h1] at h
      cases h2 : l.mapM f with
      | none => rw [h2] at h; cases h
      | some r' =>
        rw [h2] at h
        have e : y :: r' = r := Option.some.inj h
        subst e
        rw [List.take_succ_cons, List.mapM_cons, h1, mapM_take f k h2]; rfl
theorem mapM_drop {α β : Type} (f : α → Option β) : ∀ (k : Nat) {l : List α} {r : List β}, l.mapM f = some r → (l.drop k).mapM f = some (r.drop k)
  | 0, l, r, h => h
  | k + 1, [], r, h => by simp at h; subst h; simp
  | k + 1, x :: l, r, h => by
    rw [List.mapM_cons] at h
    cases h1 : f x with
    | none => rw [h1] at h; cases h
    | some y =>
      rw [h1] at h
      cases h2 : l.mapM f with
      | none => rw [h2] at h; cases h
      | some r' =>
        rw [h2] at h
        have e : y :: r' = r := Option.some.inj h
        subst e
        rw [List.drop_succ_cons, List.drop_succ_cons]; exact mapM_drop f k h2
section
variable {P : Program} {U : Tbl} {C : Ctx U} {G : Tab} {ops : Array Oper} {Q : Exit → St → Prop} {s : St}
def AWL (P : Program) {U : Tbl} (C : Ctx U) (ops : Array Oper) (l : List Oper) (Q : Exit → St → Prop) (s : St) : Prop :=
  ∀ a w M ι, Good C s a w M ι → wpList P ops (fun e a' w' => ∃ s' M' ι', Q e s' ∧ Good C s' a' w' M' ι') l a w
theorem aw_list {id : Nat} (h : AWL P C ops ops.toList Q s) : AW P C (.region id ops false) Q s := fun a w M ι hg => wp_region_list (h a w M ι hg)
theorem awl_cut (k : Nat) {l : List Oper} {aos : List AO} {EF : Nat → Bool} (hG : ∀ f, PureC P U f (G f)) (ht : l.mapM (trO P C.N ops) = some aos) (h : arun P U EF G (aos.take k) s (fun s' => AWL P C ops (l.drop k) Q s')) : AWL P C ops l Q s := by
  intro a w M ι hg
  have := wpList_app (Q' := fun e a' w' => ∃ s' M' ι', Q e s' ∧ Good C s' a' w' M' ι') hG (fun s' a' w' M' ι' h1 hg' => h1 a' w' M' ι' hg') (l.take k) (aos.take k) (mapM_take _ k ht) s a w M ι hg h
  rwa [List.take_append_drop] at this
theorem awl_end {l : List Oper} {aos : List AO} {EF : Nat → Bool} (hG : ∀ f, PureC P U f (G f)) (ht : l.mapM (trO P C.N ops) = some aos) (h : arun P U EF G aos s (Q .normal)) : AWL P C ops l Q s := fun a w M ι hg =>
  wpList_of_arun hG (K := Q .normal) (fun s' a' w' M' ι' h1 h2 => ⟨s', M', ι', h1, h2⟩) l aos ht s a w M ι hg h
theorem awl_le {l : List Oper} {s' : St} (hl : Le s s') (h : AWL P C ops l Q s') : AWL P C ops l Q s := fun a w M ι hg => by
  obtain ⟨M', ι', hg'⟩ := hl U C a w M ι hg
  exact h a w M' ι' hg'
end
end Go.Proofs.Ythfmdkpfaehpnaa
