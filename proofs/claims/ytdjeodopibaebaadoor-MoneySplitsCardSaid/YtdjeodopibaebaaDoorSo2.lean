/- What a sort of the order of rests is handed: the two rows in their boxes; the comparison and the exchange. -/
import Derived.Test.YtdjeodopibaebaaDoorSo1
import Derived.Shelf.GgSortMore.Stable
namespace Go.Proofs.YtdjeodopibaebaaDoor
open Go Go.RowKit
set_option linter.unusedSimpArgs false
set_option linter.unusedVariables false
set_option linter.deprecated false
def nrow (l : List Nat) : List (List V) := l.map fun (k : Nat) => [V.int .i64 (k : Int)]
def urow (l : List Int) : List (List V) := l.map fun n => [V.int .u64 n]
theorem nrow_len (l : List Nat) : (nrow l).length = l.length := List.length_map _
theorem urow_len (l : List Int) : (urow l).length = l.length := List.length_map _
theorem nrow_getD (l : List Nat) (i : Nat) (d : List V) (h : i < l.length) : (nrow l).getD i d = [.int .i64 ((l.getD i 0 : Nat) : Int)] := by
  unfold nrow
  rw [List.getD_eq_getElem?_getD, List.getElem?_map, List.getD_eq_getElem?_getD, List.getElem?_eq_getElem h]; rfl
theorem urow_getD (l : List Int) (i : Nat) (d : List V) (h : i < l.length) : (urow l).getD i d = [.int .u64 (l.getD i 0)] := by
  unfold urow
  rw [List.getD_eq_getElem?_getD, List.getElem?_map, List.getD_eq_getElem?_getD, List.getElem?_eq_getElem h]; rfl
theorem nrow_set (l : List Nat) (i v : Nat) : (nrow l).set i [.int .i64 (v : Int)] = nrow (l.set i v) := by unfold nrow; rw [List.map_set]
theorem urow_set (l : List Int) (i : Nat) (v : Int) : (urow l).set i [.int .u64 v] = urow (l.set i v) := by unfold urow; rw [List.map_set]
theorem nrow_purT (l : List Nat) : (∀ r ∈ nrow l, V.purs r = true) ↔ True := iff_true_intro fun r hr => by obtain ⟨x, _, rfl⟩ := List.mem_map.1 hr; rfl
theorem urow_purT (l : List Int) : (∀ r ∈ urow l, V.purs r = true) ↔ True := iff_true_intro fun r hr => by obtain ⟨x, _, rfl⟩ := List.mem_map.1 hr; rfl
theorem nrow_oneT (l : List Nat) : (∀ r ∈ nrow l, r.length = 1) ↔ True := iff_true_intro fun r hr => by obtain ⟨x, _, rfl⟩ := List.mem_map.1 hr; rfl
theorem urow_oneT (l : List Int) : (∀ r ∈ urow l, r.length = 1) ↔ True := iff_true_intro fun r hr => by obtain ⟨x, _, rfl⟩ := List.mem_map.1 hr; rfl
attribute [go_sem] nrow_len urow_len nrow_purT urow_purT nrow_oneT urow_oneT
/-- The rests, by index. -/
def fr (r : List Int) (k : Nat) : Int := r.getD k 0
/-- The objects: the box of rests, that of the order, their rows. -/
def SO (r : List Int) (n : Nat) (d : List Nat) : List (Nat × Ob) :=
  [(1000, .box 48 [.own 1002 r.length]), (1001, .box 22 [.own 1003 n]), (1002, .arr 40 1 (urow r)), (1003, .arr 3 1 (nrow d))]
theorem mem_getD {d : List Nat} {n i : Nat} (h : ∀ k ∈ d, k < n) (hi : i < d.length) : d.getD i 0 < n := by
  rw [List.getD_eq_getElem?_getD, List.getElem?_eq_getElem hi]; exact h _ (List.getElem_mem hi)
theorem less_e (r : List Int) (n : Nat) (d : List Nat) (hn : d.length = n) (hd : ∀ k ∈ d, k < r.length) (i j : Nat) (hi : i < d.length) (hj : j < d.length) :
    Eff Tryd.prog UT 36 [.int .i64 i, .int .i64 j, .ptr 1000 0, .ptr 1001 0] (SO r n d) (.bool (decide (fr r (d.getD j 0) < fr r (d.getD i 0)))) (SO r n d) := by
  have hG := tNo_ok
  have h1 := mem_getD hd hi
  have h2 := mem_getD hd hj
  have hi' : i < n := hn ▸ hi
  have hj' : j < n := hn ▸ hj
  refine Eff.of_aw Tryd.func36 body36 nm36 res36 (by rw [nt36]; simp) fun C hN Q hQ => ?_
  rw [nt36] at hN
  unfold c36
  refine aw_seq (aw_region (EF := EF0) hG (by rw [hN]; exact tr36_0) ?_)
  simp only [a36_0, go_sem, ↓reduceIte, Nat.reduceEqDiff, reduceCtorEq, Nat.reduceAdd, Nat.reduceLT, Nat.reduceLeDiff, Nat.reduceBNe, Nat.reduceBEq, Int.reduceToNat, SO]
  refine aw_seq (aw_regionD (EF := EF0) hG mixed (by rw [hN]; exact tr36_1) ok36_1 ?_)
  simp only [a36_1, d36_1, go_sem, ↓reduceIte, Nat.reduceEqDiff, reduceCtorEq, Nat.reduceAdd, Nat.reduceLT, Nat.reduceLeDiff, Nat.reduceBNe, Nat.reduceBEq, Int.reduceToNat, hn, nrow_getD _ _ _ hi, nrow_getD _ _ _ hj, urow_getD _ _ _ h1, urow_getD _ _ _ h2]
  (repeat' apply And.intro) <;> (try first | omega | ((fail_if_success (refine (id : AW _ _ _ _ _ → AW _ _ _ _ _) ?_)); (fail_if_success (refine (id : EStep _ _ _ _ _ _ _ → EStep _ _ _ _ _ _ _) ?_)); intros; (repeat' apply And.intro) <;> first | assumption | omega | (simp_all; done)))
  refine aw_ret ?_
  show Q _ _
  refine hQ _ _ ⟨mkE [(6, .bool (decide (fr r (d.getD j 0) < fr r (d.getD i 0))))], mkH (SO r n d)⟩ (.inl rfl) (Le.mk _ _ ?_ ?_ rfl) rfl ?_ ?_ <;> simp only [outφ, outV, AR.res, go_sem, ↓reduceIte, Nat.reduceEqDiff, reduceCtorEq, Nat.reduceAdd, Nat.reduceLT, Nat.reduceLeDiff, Nat.reduceBNe, Nat.reduceBEq, Int.reduceToNat, SO, fr]
  rfl
def swp (d : List Nat) (i j : Nat) : List Nat := (d.set i (d.getD j 0)).set j (d.getD i 0)
theorem swp_len (d : List Nat) (i j : Nat) : (swp d i j).length = d.length := by unfold swp; rw [List.length_set, List.length_set]
/-- A function that changes the order alone, used under the same names. -/
theorem so_use {dd : Option Nat} {s : St} {K : St → Prop} {f : Nat} {us : List V} {v : V} {r : List Int} {n : Nat} {d d' : List Nat} (he : Eff Tryd.prog UT f us (SO r n d) v (SO r n d'))
    (hr : V.rens (rni [(1000, 1000), (1001, 1001), (1002, 1002), (1003, 1003)]) us = us) (hn : V.nins [1000, 1001, 1002, 1003] us = true) (hv1 : v.nin [1000, 1001, 1002, 1003] = true) (hv2 : v.ren (rn ([(1000, 1000), (1001, 1001), (1002, 1002), (1003, 1003)] ++ [])) = v)
    (hb : s.h 1000 = some (.box 48 [.own 1002 r.length])) (hc : s.h 1001 = some (.box 22 [.own 1003 n])) (hx : s.h 1002 = some (.arr 40 1 (urow r))) (hy : s.h 1003 = some (.arr 3 1 (nrow d)))
    (hK : K ⟨setE dd v s.e, hov (SO r n d') s.h⟩) : EStep Tryd.prog UT dd f us s K := by
  refine ⟨[(1000, 1000), (1001, 1001), (1002, 1002), (1003, 1003)], [], _, _, _, _, he, ⟨by decide, rfl, rfl, by simp, by simp, ?_, hr, hn, hv1, ?_, ?_⟩, ?_⟩
  · intro p hp
    simp only [List.mem_cons, List.not_mem_nil, or_false] at hp
    rcases hp with rfl | rfl | rfl | rfl
    · exact ⟨_, hb, by simp [SO, mkH, Ob.ren, V.rens, V.ren, rni], by simp [Ob.nin, V.nins, V.nin]⟩
    · exact ⟨_, hc, by simp [SO, mkH, Ob.ren, V.rens, V.ren, rni], by simp [Ob.nin, V.nins, V.nin]⟩
    · exact ⟨_, hx, by simp [SO, mkH, Ob.ren], by simp only [Ob.nin, urow_purT]⟩
    · exact ⟨_, hy, by simp [SO, mkH, Ob.ren], by simp only [Ob.nin, nrow_purT]⟩
  · intro q hq
    simp only [SO, List.mem_cons, List.not_mem_nil, or_false] at hq
    rcases hq with rfl | rfl | rfl | rfl
    · simp [Ob.nin, V.nins, V.nin, SO]
    · simp [Ob.nin, V.nins, V.nin, SO]
    · simp only [Ob.nin, urow_purT]
    · simp only [Ob.nin, nrow_purT]
  · intro p hp o o' h1 h2
    simp only [List.mem_cons, List.not_mem_nil, or_false] at hp
    rcases hp with rfl | rfl | rfl | rfl <;> simp [SO, mkH] at h1 h2 <;> subst h1 h2 <;> simp [Ob.kind]
  · have e2 : (SO r n d').map (fun q => (rn ([(1000, 1000), (1001, 1001), (1002, 1002), (1003, 1003)] ++ []) q.1, q.2.ren (rn ([(1000, 1000), (1001, 1001), (1002, 1002), (1003, 1003)] ++ [])))) = SO r n d' := by
      simp [SO, rn, Ob.ren, V.rens, V.ren]
    rw [hv2, e2]
    exact hK
end Go.Proofs.YtdjeodopibaebaaDoor
