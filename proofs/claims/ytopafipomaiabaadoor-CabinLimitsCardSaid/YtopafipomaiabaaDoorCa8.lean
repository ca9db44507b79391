/- The checker's add: it writes the checker that it is handed. -/
import Derived.Test.YtopafipomaiabaaDoorCa7
namespace Go.Proofs.YtopafipomaiabaaDoor
open Go Go.RowKit
set_option linter.unusedSimpArgs false
set_option linter.unusedVariables false
set_option linter.deprecated false
/-- A checker and its faults, by their names. -/
def chk (nb na : Nat) (g : List Fault) (pos : List UInt8) : List (Nat × Ob) := [(nb, .box 53 [.own na g.length, .str pos]), (na, .arr 51 2 (faults g))]
set_option maxHeartbeats 1000000 in
theorem add_e (g : List Fault) (pos : List UInt8) (b : Bool) (e : Int) (hg : g.length ≤ 1000000000000) :
    Eff Tryd.prog UT 26 [.ptr 1000 0, .bool b, .int .i64 e] (chk 1000 1001 g pos) (.tup []) (chk 1000 1001 (g ++ fIf b e pos) pos) := by
  have hG := tNo_ok
  refine Eff.of_aw Tryd.func26 body26 nm26 res26 (by rw [nt26]; simp) fun C hN Q hQ => ?_
  rw [nt26] at hN
  unfold c26
  refine aw_seq (aw_region (EF := EF0) hG (by rw [hN]; exact tr26_0) ?_)
  simp only [a26_0, go_sem, ↓reduceIte, Nat.reduceEqDiff, reduceCtorEq, Nat.reduceAdd, Nat.reduceLT, Nat.reduceLeDiff, Nat.reduceBNe, Nat.reduceBEq, Int.reduceToNat, chk]
  refine aw_cond (b := _) rfl (fun hb => ?_) (fun hb => ?_)
  · refine aw_regionD (EF := EF0) hG mixed (by rw [hN]; exact tr26_1) ok26_1 ?_
    simp only [a26_1, d26_1, go_sem, ↓reduceIte, Nat.reduceEqDiff, reduceCtorEq, Nat.reduceAdd, Nat.reduceLT, Nat.reduceLeDiff, Nat.reduceBNe, Nat.reduceBEq, Int.reduceToNat]
    (repeat' apply And.intro) <;> (try first | omega)
    show Q _ _
    refine hQ _ _ ⟨mkE [], mkH (chk 1000 1001 (g ++ fIf b e pos) pos)⟩ (.inr rfl) (Le.mk _ _ ?_ ?_ rfl) rfl ?_ ?_ <;> simp only [outφ, outV, AR.res, go_sem, ↓reduceIte, Nat.reduceEqDiff, reduceCtorEq, Nat.reduceAdd, Nat.reduceLT, Nat.reduceLeDiff, Nat.reduceBNe, Nat.reduceBEq, Int.reduceToNat, chk, hb, fIf, List.length_append]
  · refine aw_skip ?_
    show Q _ _
    refine hQ _ _ ⟨mkE [], mkH (chk 1000 1001 (g ++ fIf b e pos) pos)⟩ (.inr rfl) (Le.mk _ _ ?_ ?_ rfl) rfl ?_ ?_ <;> simp only [outφ, outV, AR.res, go_sem, ↓reduceIte, Nat.reduceEqDiff, reduceCtorEq, Nat.reduceAdd, Nat.reduceLT, Nat.reduceLeDiff, Nat.reduceBNe, Nat.reduceBEq, Int.reduceToNat, chk, hb, fIf, Bool.false_eq_true, if_false, List.append_nil]
/-- add, as a caller uses it. -/
theorem add_use {d : Option Nat} {s : St} {K : St → Prop} {nb na : Nat} {g : List Fault} {pos : List UInt8} {b : Bool} {e : Int} (hb : s.h nb = some (.box 53 [.own na g.length, .str pos])) (ha : s.h na = some (.arr 51 2 (faults g))) (hne : nb ≠ na) (hg : g.length ≤ 1000000000000)
    (hK : K ⟨setE d (.tup []) s.e, hov (chk nb na (g ++ fIf b e pos) pos) s.h⟩) : EStep Tryd.prog UT d 26 [.ptr nb 0, .bool b, .int .i64 e] s K := by
  have hne2 : na ≠ nb := Ne.symm hne
  refine ⟨[(1000, nb), (1001, na)], [], _, _, _, _, add_e g pos b e hg, ⟨by simp [okL, hne], rfl, rfl, by simp, by simp, ?_, by simp [V.rens, V.ren, rni], by simp [V.nins, V.nin], by simp [V.nin, V.nins], ?_, ?_⟩, ?_⟩
  · intro p hp
    simp only [List.mem_cons, List.not_mem_nil, or_false] at hp
    rcases hp with rfl | rfl
    · exact ⟨_, hb, by simp [chk, mkH, Ob.ren, V.rens, V.ren, rni, hne2], by simp [Ob.nin, V.nins, V.nin]⟩
    · exact ⟨_, ha, by simp [chk, mkH, Ob.ren], by simp only [Ob.nin, faults_purT]⟩
  · intro q hq
    simp only [chk, List.mem_cons, List.not_mem_nil, or_false] at hq
    rcases hq with rfl | rfl
    · simp [Ob.nin, V.nins, V.nin, chk]
    · simp only [Ob.nin, faults_purT]
  · intro p hp o o' h1 h2
    simp only [List.mem_cons, List.not_mem_nil, or_false] at hp
    rcases hp with rfl | rfl <;> simp [chk, mkH] at h1 h2 <;> subst h1 h2 <;> simp [Ob.kind]
  · have e1 : (V.tup []).ren (rn ([(1000, nb), (1001, na)] ++ [])) = .tup [] := by simp [V.ren, V.rens]
    have e2 : (chk 1000 1001 (g ++ fIf b e pos) pos).map (fun q => (rn ([(1000, nb), (1001, na)] ++ []) q.1, q.2.ren (rn ([(1000, nb), (1001, na)] ++ [])))) = chk nb na (g ++ fIf b e pos) pos := by
      simp [chk, rn, Ob.ren, V.rens, V.ren]
    rw [e1, e2]
    exact hK
end Go.Proofs.YtopafipomaiabaaDoor
