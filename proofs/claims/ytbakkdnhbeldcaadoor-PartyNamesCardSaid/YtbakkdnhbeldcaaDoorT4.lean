/- A closure that adds faults to the list that it has captured. -/
import Derived.Test.YtbakkdnhbeldcaaDoorT3
namespace Go.Proofs.YtbakkdnhbeldcaaDoor
open Go Go.RowKit
set_option linter.unusedSimpArgs false
set_option linter.unusedVariables false
set_option linter.deprecated false
/-- The captured list and its rows, by their names. -/
def bxF (nb na : Nat) (g : List Fault) : List (Nat × Ob) := [(nb, .box 25 [.own na g.length]), (na, .arr 47 2 (faults g))]
theorem bx_use {d : Option Nat} {s : St} {K : St → Prop} {f nb na : Nat} {g g' : List Fault} {xs : List V} (he : Eff Tryd.prog UT f (xs ++ [.ptr 1000 0]) (bxF 1000 1001 g) (.tup []) (bxF 1000 1001 g')) (hr : V.rens (rni [(1000, nb), (1001, na)]) xs = xs) (hn : V.nins [nb, na] xs = true)
    (hb : s.h nb = some (.box 25 [.own na g.length])) (ha : s.h na = some (.arr 47 2 (faults g))) (hne : nb ≠ na)
    (hK : K ⟨setE d (.tup []) s.e, hov (bxF nb na g') s.h⟩) : EStep Tryd.prog UT d f (xs ++ [.ptr nb 0]) s K := by
  have hne2 : na ≠ nb := Ne.symm hne
  have rapp : ∀ (σ : Nat → Nat) (a b : List V), V.rens σ (a ++ b) = V.rens σ a ++ V.rens σ b := fun σ a b => by
    induction a with
    | nil => simp [V.rens]
    | cons x a ih => simp [V.rens, ih]
  have napp : ∀ (D : List Nat) (a b : List V), V.nins D (a ++ b) = (V.nins D a && V.nins D b) := fun D a b => by
    induction a with
    | nil => simp [V.nins]
    | cons x a ih => simp [V.nins, ih, Bool.and_assoc]
  refine ⟨[(1000, nb), (1001, na)], [], _, _, _, _, he, ⟨by simp [okL, hne], rfl, rfl, by simp, by simp, ?_, ?_, ?_, by simp [V.nin, V.nins], ?_, ?_⟩, ?_⟩
  · intro p hp
    simp only [List.mem_cons, List.not_mem_nil, or_false] at hp
    rcases hp with rfl | rfl
    · exact ⟨_, hb, by simp [bxF, mkH, Ob.ren, V.rens, V.ren, rni, hne2], by simp [Ob.nin, V.nins, V.nin]⟩
    · exact ⟨_, ha, by simp [bxF, mkH, Ob.ren], by simp only [Ob.nin, faults_purT]⟩
  · rw [rapp, hr]; simp [V.rens, V.ren, rni]
  · rw [napp]; simp only [List.map_cons, List.map_nil, hn, Bool.true_and]; simp [V.nins, V.nin]
  · intro q hq
    simp only [bxF, List.mem_cons, List.not_mem_nil, or_false] at hq
    rcases hq with rfl | rfl
    · simp [Ob.nin, V.nins, V.nin, bxF]
    · simp only [Ob.nin, faults_purT]
  · intro p hp o o' h1 h2
    simp only [List.mem_cons, List.not_mem_nil, or_false] at hp
    rcases hp with rfl | rfl <;> simp [bxF, mkH] at h1 h2 <;> subst h1 h2 <;> simp [Ob.kind]
  · have e1 : (V.tup []).ren (rn ([(1000, nb), (1001, na)] ++ [])) = .tup [] := by simp [V.ren, V.rens]
    have e2 : (bxF 1000 1001 g').map (fun q => (rn ([(1000, nb), (1001, na)] ++ []) q.1, q.2.ren (rn ([(1000, nb), (1001, na)] ++ [])))) = bxF nb na g' := by
      simp [bxF, rn, Ob.ren, V.rens, V.ren]
    rw [e1, e2]
    exact hK
end Go.Proofs.YtbakkdnhbeldcaaDoor
