/- The chapter's examples. -/
import Derived.Test.YtopafipomaiabaaDoorCa11
namespace Go.Proofs.YtopafipomaiabaaDoor
open Go Go.RowKit
set_option linter.unusedSimpArgs false
set_option linter.unusedVariables false
set_option linter.deprecated false
theorem gOf_at {α : Type} {args : α → List V} {F : α → Prop × V} (inj : ∀ a b, args a = args b → a = b) (a : α) {vs : List V} {v : V} (h : args a = vs) (hp : (F a).1) (hv : (F a).2 = v) : gOf args F vs = (True, v) := by
  subst h hv
  rw [gOf_eq inj]
  exact Prod.ext (propext ⟨fun _ => trivial, fun _ => hp⟩) rfl
theorem cls_ok {c : List UInt8} {p : Int} (h1 : c.length ≤ 100) (h2 : -1000 ≤ p ∧ p ≤ 1000) : Class.ok ⟨c, p⟩ := ⟨by simp only []; omega, by simp only []; omega, by simp only []; omega⟩
theorem small_inI {p : Int} (h2 : -1000 ≤ p ∧ p ≤ 1000) : inI p := ⟨by omega, by omega⟩
def badC : Config := ⟨[51, 50, 48], [⟨[89], 10, 0, [⟨[89], 3⟩, ⟨[89], 2⟩]⟩]⟩
def badAt : List UInt8 := [99, 111, 110, 102, 105, 103, 32, 48, 32, 99, 97, 98, 105, 110, 32, 48, 32, 99, 108, 97, 115, 115, 32, 49]
theorem smp_ok : smp.ok := by
  refine ⟨by decide, by decide, ?_⟩
  simp only [smp, List.forall_mem_cons, List.not_mem_nil, false_implies, implies_true, and_true]
  refine ⟨⟨by decide, small_inI (by decide), small_inI (by decide), by decide, ?_⟩, ⟨by decide, small_inI (by decide), small_inI (by decide), by decide, ?_⟩⟩ <;> simp only [List.forall_mem_cons, List.not_mem_nil, false_implies, implies_true, and_true]
  · exact cls_ok (by decide) (by decide)
  · exact ⟨cls_ok (by decide) (by decide), cls_ok (by decide) (by decide)⟩
theorem oth_ok : oth.ok := by
  refine ⟨by decide, by decide, ?_⟩
  simp only [oth, List.forall_mem_cons, List.not_mem_nil, false_implies, implies_true, and_true]
  refine ⟨by decide, small_inI (by decide), small_inI (by decide), by decide, ?_⟩
  simp only [List.forall_mem_cons, List.not_mem_nil, false_implies, implies_true, and_true]
  exact ⟨cls_ok (by decide) (by decide), cls_ok (by decide) (by decide)⟩
theorem bad_ok : badC.ok := by
  refine ⟨by decide, by decide, ?_⟩
  simp only [badC, List.forall_mem_cons, List.not_mem_nil, false_implies, implies_true, and_true]
  refine ⟨by decide, small_inI (by decide), small_inI (by decide), by decide, ?_⟩
  simp only [List.forall_mem_cons, List.not_mem_nil, false_implies, implies_true, and_true]
  exact ⟨cls_ok (by decide) (by decide), cls_ok (by decide) (by decide)⟩
theorem dec0 : dec (0 : Int) = [48] := by simp [dec, Lib.itoa, Lib.decDigits, Nat.toDigits, Nat.toDigitsCore]
theorem dec1 : dec (1 : Int) = [49] := by simp [dec, Lib.itoa, Lib.decDigits]
theorem bad_faults : confFaults [badC] = [⟨6, badAt⟩, ⟨2, badAt⟩] := by
  have h1 : allB codB [51, 50, 48] = true := by decide
  have h2 : allB codB [89] = true := by decide
  have h3 : allB capB [89] = true := by decide
  simp [h1, h2, h3, confFaults, confTo, confOne, cabTo, cabOne, cabTail, clsTo, clsOne, at1, dec0, dec1, badC, badAt, sConfig, sCabin, sClass, fIf, sizeBad, inR, auth, protBad, codes, prevCodes, codeB, classB, seen]
def fTrue (_ : Unit) : Prop × V := (True, .bool true)
theorem fTrue_eq : gOf aUnit fTrue [] = (True, .bool true) := gOf_eq aUnit_inj ()
noncomputable def tAw : Tab
  | 23 => (gOf aUnit fSmp)
  | 24 => (gOf aUnit fOth)
  | 17 => (gOf aCab fLim)
  | 15 => (gOf aPlace fPlace)
  | 21 => (gOf aLike fLike)
  | 12 => (gOf aFind fFind)
  | 10 => (gOf aCheck fCheck)
  | 9 => (gOf aSameF fSameF)
  | 19 => (gOf aCab fAuth)
  | _ => gNo
theorem tAw_ok : ∀ f, PureC Tryd.prog UT f (tAw f) := fun f => by
  unfold tAw
  split
  · exact smp_p
  · exact oth_p
  · exact limits_p
  · exact place_p
  · exact like_p
  · exact find_p
  · exact check_p
  · exact sameF_p
  · exact auth_p
  · exact PureC.no
def smpV : V := .agg [.str [55, 55, 55], .list [[.str [70], .int .i64 4, .int .i64 0, .list [[.str [70], .int .i64 0]] false], [.str [89], .int .i64 10, .int .i64 1, .list [[.str [89], .int .i64 3], [.str [77], .int .i64 5]] false]] false]
def othV : V := .agg [.str [51, 50, 48], .list [[.str [89], .int .i64 9, .int .i64 0, .list [[.str [89], .int .i64 0], [.str [66], .int .i64 0]] false]] false]
theorem fSmp_at : gOf aUnit fSmp [] = (True, smpV) := gOf_eq aUnit_inj ()
theorem fOth_at : gOf aUnit fOth [] = (True, othV) := gOf_eq aUnit_inj ()
def smpY : V := .agg [.str [89], .int .i64 10, .int .i64 1, .list [[.str [89], .int .i64 3], [.str [77], .int .i64 5]] false]
def smpC : Cabin := ⟨[89], 10, 1, [⟨[89], 3⟩, ⟨[77], 5⟩]⟩
theorem lim_at : gOf aCab fLim [smpY] = (True, .list [[.int .i64 11], [.int .i64 8]] false) := gOf_at aCab_inj smpC rfl (by
  refine ⟨by decide, small_inI (by decide), ?_⟩
  simp only [smpC, List.forall_mem_cons, List.not_mem_nil, false_implies, implies_true, and_true]
  exact ⟨small_inI (by decide), small_inI (by decide)⟩) rfl
theorem auth_at : gOf aCab fAuth [smpY] = (True, .int .i64 11) := gOf_at aCab_inj smpC rfl (small_inI (by decide)) rfl
theorem place_sm : gOf aPlace fPlace [smpV, .str [77]] = (True, .tup [.int .i64 1, .int .i64 1, .bool true]) := gOf_at aPlace_inj (smp, [77]) rfl smp_ok rfl
theorem like_sm : gOf aLike fLike [smpV, othV, .str [77]] = (True, .tup [.str [66], .bool true]) := gOf_at aLike_inj (smp, oth, [77]) rfl ⟨smp_ok, oth_ok⟩ rfl
theorem like_sf : gOf aLike fLike [smpV, othV, .str [70]] = (True, .tup [.str [66], .bool true]) := gOf_at aLike_inj (smp, oth, [70]) rfl ⟨smp_ok, oth_ok⟩ rfl
def twoV : V := .list [[.str [51, 50, 48], .list [[.str [89], .int .i64 9, .int .i64 0, .list [[.str [89], .int .i64 0], [.str [66], .int .i64 0]] false]] false], [.str [55, 55, 55], .list [[.str [70], .int .i64 4, .int .i64 0, .list [[.str [70], .int .i64 0]] false], [.str [89], .int .i64 10, .int .i64 1, .list [[.str [89], .int .i64 3], [.str [77], .int .i64 5]] false]] false]] false
theorem find_at2 : gOf aFind fFind [twoV, .str [55, 55, 55]] = (True, .tup [smpV, .bool true]) := gOf_at aFind_inj ([oth, smp], [55, 55, 55]) rfl (show [oth, smp].length ≤ 140737488355328 by decide) rfl
def badV : V := .list [[.str [51, 50, 48], .list [[.str [89], .int .i64 10, .int .i64 0, .list [[.str [89], .int .i64 3], [.str [89], .int .i64 2]] false]] false]] false
def wantV : V := .list [[.int .i64 6, .str badAt], [.int .i64 2, .str badAt]] false
theorem bad_at : gOf aCheck fCheck [badV] = (True, wantV) := gOf_at aCheck_inj [badC] rfl (by
  refine ⟨by decide, ?_, ?_, ?_⟩ <;> simp only [List.forall_mem_cons, List.not_mem_nil, false_implies, implies_true, and_true, badC]
  · exact bad_ok
  · decide
  · decide) (by show V.list (faults (confFaults [badC])) false = _; rw [bad_faults]; rfl)
theorem want_at : gOf aSameF fSameF [wantV, wantV] = (True, .bool true) := gOf_at aSameF_inj ([⟨6, badAt⟩, ⟨2, badAt⟩], [⟨6, badAt⟩, ⟨2, badAt⟩]) rfl ⟨by decide, rfl⟩ rfl
set_option maxRecDepth 20000 in
set_option maxHeartbeats 4000000 in
theorem awake_p : PureC Tryd.prog UT 8 (gOf aUnit fTrue) := by
  have hG := tAw_ok
  have e1 := fSmp_at
  have e2 := fOth_at
  have e3 := lim_at
  have e4 := auth_at
  have e5 := place_sm
  have e6 := like_sm
  have e7 := like_sf
  have e8 := find_at2
  have e9 := bad_at
  have e10 := want_at
  simp only [smpV, othV, smpY, twoV, badV, wantV, badAt] at e1 e2 e3 e4 e5 e6 e7 e8 e9 e10
  have e11 := want_at
  simp only [wantV] at e11
  refine PureC.ofArgs aUnit_inj Tryd.func8 body8 nm8 res8 ?_
  rintro ⟨⟩ hv
  refine ⟨by rw [nt8]; simp [aUnit], fun C hN Q hQ => ?_⟩
  rw [nt8] at hN
  unfold c8
  refine aw_seq (aw_region (EF := EF0) hG (by rw [hN]; exact tr8_0) ?_)
  simp only [a8_0, go_sem, ↓reduceIte, Nat.reduceEqDiff, reduceCtorEq, Nat.reduceAdd, Nat.reduceLT, Nat.reduceLeDiff, Nat.reduceBNe, Nat.reduceBEq, Int.reduceToNat, aUnit]
  refine aw_seq (aw_region (EF := EF0) hG (by rw [hN]; exact tr8_1) ?_)
  simp only [a8_1, go_sem, ↓reduceIte, Nat.reduceEqDiff, reduceCtorEq, Nat.reduceAdd, Nat.reduceLT, Nat.reduceLeDiff, Nat.reduceBNe, Nat.reduceBEq, Int.reduceToNat, tAw, e1, e3]
  refine ⟨by omega, ?_⟩
  refine aw_seq (aw_region (EF := EF0) hG (by rw [hN]; exact tr8_2) ?_)
  simp only [a8_2, go_sem, ↓reduceIte, Nat.reduceEqDiff, reduceCtorEq, Nat.reduceAdd, Nat.reduceLT, Nat.reduceLeDiff, Nat.reduceBNe, Nat.reduceBEq, Int.reduceToNat, tAw, e1, e5]
  refine aw_seq (aw_region (EF := EF0) hG (by rw [hN]; exact tr8_3) ?_)
  simp only [a8_3, go_sem, ↓reduceIte, Nat.reduceEqDiff, reduceCtorEq, Nat.reduceAdd, Nat.reduceLT, Nat.reduceLeDiff, Nat.reduceBNe, Nat.reduceBEq, Int.reduceToNat, tAw, e1, e2, e6]
  refine aw_seq (aw_region (EF := EF0) hG (by rw [hN]; exact tr8_4) ?_)
  simp only [a8_4, go_sem, ↓reduceIte, Nat.reduceEqDiff, reduceCtorEq, Nat.reduceAdd, Nat.reduceLT, Nat.reduceLeDiff, Nat.reduceBNe, Nat.reduceBEq, Int.reduceToNat, tAw, e1, e2, e7]
  refine aw_seq (aw_region (EF := EF0) hG (by rw [hN]; exact tr8_5) ?_)
  simp only [a8_5, go_sem, ↓reduceIte, Nat.reduceEqDiff, reduceCtorEq, Nat.reduceAdd, Nat.reduceLT, Nat.reduceLeDiff, Nat.reduceBNe, Nat.reduceBEq, Int.reduceToNat, tAw, e1, e2, e8]
  refine aw_seq (aw_region (EF := EF0) hG (by rw [hN]; exact tr8_6) ?_)
  simp only [a8_6, go_sem, ↓reduceIte, Nat.reduceEqDiff, reduceCtorEq, Nat.reduceAdd, Nat.reduceLT, Nat.reduceLeDiff, Nat.reduceBNe, Nat.reduceBEq, Int.reduceToNat, tAw, e9]
  refine aw_seq (aw_region (EF := EF0) hG (by rw [hN]; exact tr8_7) ?_)
  simp only [a8_7, go_sem, ↓reduceIte, Nat.reduceEqDiff, reduceCtorEq, Nat.reduceAdd, Nat.reduceLT, Nat.reduceLeDiff, Nat.reduceBNe, Nat.reduceBEq, Int.reduceToNat]
  refine AW.le (s' := ⟨mkE [(1, .list [[.int .i64 11], [.int .i64 8]] false), (2, .int .i64 1), (3, .int .i64 1), (4, .bool true), (5, .str [66]), (6, .bool true), (7, .str [66]), (8, .bool true), (9, .ptr 9 0), (10, .bool true), (11, .list [[.int .i64 6, .str badAt], [.int .i64 2, .str badAt]] false), (12, .list [[.int .i64 6, .str badAt], [.int .i64 2, .str badAt]] false)], mkH ([(9, .box 30 smp.enc)])⟩) (Le.mk _ _ (by simp only [go_sem, ↓reduceIte, Nat.reduceEqDiff, reduceCtorEq, Nat.reduceAdd, Nat.reduceLT, Nat.reduceLeDiff, Nat.reduceBNe, Nat.reduceBEq, Int.reduceToNat, wantV, badAt, smp, Config.enc, Cabin.enc, Class.enc]) (by simp only [go_sem, ↓reduceIte, Nat.reduceEqDiff, reduceCtorEq, Nat.reduceAdd, Nat.reduceLT, Nat.reduceLeDiff, Nat.reduceBNe, Nat.reduceBEq, Int.reduceToNat, wantV, badAt, smp, Config.enc, Cabin.enc, Class.enc]) rfl) ?_
  refine aw_seq (aw_region (EF := EF0) hG (by rw [hN]; exact tr8_8) ?_)
  simp only [a8_8, go_sem, ↓reduceIte, Nat.reduceEqDiff, reduceCtorEq, Nat.reduceAdd, Nat.reduceLT, Nat.reduceLeDiff, Nat.reduceBNe, Nat.reduceBEq, Int.reduceToNat, tAw, e11, e1, e4, smp, Config.enc, Cabin.enc, Class.enc]
  (repeat' apply And.intro) <;> (try first | omega | (rfl))
  refine aw_ret ?_
  show Q _ _
  refine hQ _ _ (.inl rfl) ?_ ?_ ?_ <;> simp only [outφ, outV, AR.res, go_sem, ↓reduceIte, Nat.reduceEqDiff, reduceCtorEq, Nat.reduceAdd, Nat.reduceLT, Nat.reduceLeDiff, Nat.reduceBNe, Nat.reduceBEq, Int.reduceToNat, fTrue]
end Go.Proofs.YtopafipomaiabaaDoor
