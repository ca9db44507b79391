/- The program collects faults of a ticket. -/
import Derived.Test.YtffapkiilkeadaaDoorIs5
import Derived.Test.YtffapkiilkeadaaDoorPr0
namespace Go.Proofs.YtffapkiilkeadaaDoor
open Go Go.RowKit
set_option linter.unusedSimpArgs false
set_option linter.unusedVariables false
set_option linter.deprecated false
def fbO (nb na : Nat) (g : List Fault) : List (Nat × Ob) := [(nb, .box 48 [.own na g.length]), (na, .arr 45 2 (faults g))]
theorem fb_use {d : Option Nat} {s : St} {K : St → Prop} {f nb na : Nat} {g g' : List Fault} {xs : List V} {v : V} (he : Eff Tryd.prog UT f (.ptr 1000 0 :: xs) (fbO 1000 1001 g) v (fbO 1000 1001 g')) (hr : ∀ σ, V.rens σ xs = xs) (hn : ∀ D, V.nins D xs = true) (hv : ∀ σ, v.ren σ = v) (hvn : ∀ D, v.nin D = true)
    (hb : s.h nb = some (.box 48 [.own na g.length])) (ha : s.h na = some (.arr 45 2 (faults g))) (hne : nb ≠ na)
    (hK : K ⟨setE d v s.e, hov (fbO nb na g') s.h⟩) : EStep Tryd.prog UT d f (.ptr nb 0 :: xs) s K := by
  have hne2 : na ≠ nb := Ne.symm hne
  refine ⟨[(1000, nb), (1001, na)], [], _, _, _, _, he, ⟨by simp [okL, hne], rfl, rfl, by simp, by simp, ?_, ?_, ?_, hvn _, ?_, ?_⟩, ?_⟩
  · intro p hp
    simp only [List.mem_cons, List.not_mem_nil, or_false] at hp
    rcases hp with rfl | rfl
    · exact ⟨_, hb, by simp [fbO, mkH, Ob.ren, V.rens, V.ren, rni, hne2], by simp [Ob.nin, V.nins, V.nin]⟩
    · exact ⟨_, ha, by simp [fbO, mkH, Ob.ren], by simp only [Ob.nin, faults_purT]⟩
  · simp only [V.rens, V.ren, hr]; simp [rni]
  · simp only [V.nins, V.nin, hn]; simp
  · intro q hq
    simp only [fbO, List.mem_cons, List.not_mem_nil, or_false] at hq
    rcases hq with rfl | rfl
    · simp [Ob.nin, V.nins, V.nin, fbO]
    · simp only [Ob.nin, faults_purT]
  · intro p hp o o' h1 h2
    simp only [List.mem_cons, List.not_mem_nil, or_false] at hp
    rcases hp with rfl | rfl <;> simp [fbO, mkH] at h1 h2 <;> subst h1 h2 <;> simp [Ob.kind]
  · have e2 : (fbO 1000 1001 g').map (fun q => (rn ([(1000, nb), (1001, na)] ++ []) q.1, q.2.ren (rn ([(1000, nb), (1001, na)] ++ [])))) = fbO nb na g' := by
      simp [fbO, rn, Ob.ren, V.rens, V.ren]
    rw [hv, e2]
    exact hK
theorem fadd_e (g : List Fault) (b : Bool) (e : Int) (pos : List UInt8) (hg : g.length ≤ 1000000000) : Eff Tryd.prog UT 14 (.ptr 1000 0 :: [.bool b, .int .i64 e, .str pos]) (fbO 1000 1001 g) (.bool b) (fbO 1000 1001 (g ++ fIf b e pos)) := by
  have hG := tNo_ok
  obtain ⟨R, hR⟩ : ∃ R, R = g ++ fIf b e pos := ⟨_, rfl⟩
  rw [← hR]
  refine Eff.of_aw Tryd.func14 body14 nm14 res14 (by rw [nt14]; simp) fun C hN Q hQ => ?_
  rw [nt14] at hN
  unfold c14
  refine aw_seq (aw_region (EF := EF0) hG (by rw [hN]; exact tr14_0) ?_)
  simp only [a14_0, go_sem, ↓reduceIte, Nat.reduceEqDiff, reduceCtorEq, Nat.reduceAdd, Nat.reduceLT, Nat.reduceLeDiff, Nat.reduceBNe, Nat.reduceBEq, Int.reduceToNat, fbO]
  refine aw_seq ?_
  by_cases hb : b = true
  · skip
    have hfin : R = g ++ [⟨e, pos⟩] := by rw [hR, fIf_t hb]
    subst hfin hb
    refine aw_seq (aw_region (EF := EF0) hG (by rw [hN]; exact tr14_1) ?_)
    simp only [a14_1, go_sem, ↓reduceIte, Nat.reduceEqDiff, reduceCtorEq, Nat.reduceAdd, Nat.reduceLT, Nat.reduceLeDiff, Nat.reduceBNe, Nat.reduceBEq, Int.reduceToNat, fbO]
    refine aw_condT rfl ?_
    refine aw_region (EF := EF0) hG (by rw [hN]; exact tr14_2) ?_
    simp only [a14_2, go_sem, ↓reduceIte, Nat.reduceEqDiff, reduceCtorEq, Nat.reduceAdd, Nat.reduceLT, Nat.reduceLeDiff, Nat.reduceBNe, Nat.reduceBEq, Int.reduceToNat, fbO]
    (repeat' apply And.intro) <;> (try first | omega | ((fail_if_success refine idW ?_); (fail_if_success refine idS ?_); intros; (repeat' apply And.intro) <;> first | assumption | omega | (simp_all; done)))
    refine aw_seq (aw_region (EF := EF0) hG (by rw [hN]; exact tr14_3) ?_)
    simp only [a14_3, go_sem, ↓reduceIte, Nat.reduceEqDiff, reduceCtorEq, Nat.reduceAdd, Nat.reduceLT, Nat.reduceLeDiff, Nat.reduceBNe, Nat.reduceBEq, Int.reduceToNat, fbO]
    refine aw_ret ?_
    show Q _ _
    refine hQ _ _ ⟨mkE [(8, .bool true)], mkH (fbO 1000 1001 (g ++ [⟨e, pos⟩]))⟩ (.inl rfl) (Le.mk _ _ ?_ ?_ rfl) rfl ?_ ?_ <;> simp only [outφ, outV, AR.res, go_sem, ↓reduceIte, Nat.reduceEqDiff, reduceCtorEq, Nat.reduceAdd, Nat.reduceLT, Nat.reduceLeDiff, Nat.reduceBNe, Nat.reduceBEq, Int.reduceToNat, fbO, List.length_append, List.length_cons, List.length_nil]
  · skip
    replace hb := Bool.eq_false_iff.2 hb
    have hfin : R = g := by rw [hR, fIf_f hb, List.append_nil]
    subst hfin hb
    refine aw_seq (aw_region (EF := EF0) hG (by rw [hN]; exact tr14_1) ?_)
    simp only [a14_1, go_sem, ↓reduceIte, Nat.reduceEqDiff, reduceCtorEq, Nat.reduceAdd, Nat.reduceLT, Nat.reduceLeDiff, Nat.reduceBNe, Nat.reduceBEq, Int.reduceToNat, fbO]
    refine aw_condF rfl ?_
    refine aw_skip ?_
    try simp only [go_sem, ↓reduceIte, Nat.reduceEqDiff, reduceCtorEq, Nat.reduceAdd, Nat.reduceLT, Nat.reduceLeDiff, Nat.reduceBNe, Nat.reduceBEq, Int.reduceToNat]
    refine aw_seq (aw_region (EF := EF0) hG (by rw [hN]; exact tr14_3) ?_)
    simp only [a14_3, go_sem, ↓reduceIte, Nat.reduceEqDiff, reduceCtorEq, Nat.reduceAdd, Nat.reduceLT, Nat.reduceLeDiff, Nat.reduceBNe, Nat.reduceBEq, Int.reduceToNat, fbO]
    refine aw_ret ?_
    show Q _ _
    refine hQ _ _ ⟨mkE [(8, .bool false)], mkH (fbO 1000 1001 R)⟩ (.inl rfl) (Le.mk _ _ ?_ ?_ rfl) rfl ?_ ?_ <;> simp only [outφ, outV, AR.res, go_sem, ↓reduceIte, Nat.reduceEqDiff, reduceCtorEq, Nat.reduceAdd, Nat.reduceLT, Nat.reduceLeDiff, Nat.reduceBNe, Nat.reduceBEq, Int.reduceToNat, fbO]
end Go.Proofs.YtffapkiilkeadaaDoor
