/- The maps of the program's Check; its closure that adds a fault. -/
import Derived.Test.YtcongikpaonliaaDoorT4
import Derived.Test.YtcongikpaonliaaDoorPl14
namespace Go.Proofs.YtcongikpaonliaaDoor
open Go Go.RowKit
set_option linter.unusedSimpArgs false
set_option linter.unusedVariables false
set_option linter.deprecated false
theorem fDec_eq (n) : gDec [.int .i64 n] = (inI n, .str (dec n)) := rfl
noncomputable def tAd : Tab
  | 26 => gDec
  | _ => gNo
theorem tAd_ok : ∀ f, PureC Tryd.prog UT f (tAd f) := fun f => by
  unfold tAd
  split
  · exact decimal_p
  · exact PureC.no
theorem add_e (g : List Fault) (e : Int) (w : List UInt8) (i : Nat) (hg : g.length ≤ 1000000000) (hw : w.length ≤ 1000) (hi : i ≤ 1000000) : Eff Tryd.prog UT 25 ([.int .i64 e, .str w, .int .i64 (i : Int)] ++ [.ptr 1000 0]) (bxF 1000 1001 g) (.tup []) (bxF 1000 1001 (g ++ [⟨e, w ++ [32] ++ dec i⟩])) := by
  have hG := tAd_ok
  have hd := dec_lenN (i := i) (by omega)
  have hi2 := inI_of (i := i) (by omega)
  refine Eff.of_aw Tryd.func25 body25 nm25 res25 (by rw [nt25]; simp) fun C hN Q hQ => ?_
  rw [nt25] at hN
  unfold c25
  refine aw_regionD (EF := EF0) hG mixed (by rw [hN]; exact tr25_0) ok25_0 ?_
  simp only [a25_0, d25_0, go_sem, ↓reduceIte, Nat.reduceEqDiff, reduceCtorEq, Nat.reduceAdd, Nat.reduceLT, Nat.reduceLeDiff, Nat.reduceBNe, Nat.reduceBEq, Int.reduceToNat, bxF, tAd, fDec_eq, hi2]
  (repeat' apply And.intro) <;> (try first | omega | (intros; (repeat' apply And.intro) <;> first | assumption | omega | (simp_all; done)) | (simp only [List.length_append, List.length_cons, List.length_nil]; omega))
  show Q _ _
  refine hQ _ _ ⟨mkE [], mkH (bxF 1000 1001 (g ++ [⟨e, w ++ [32] ++ dec i⟩]))⟩ (.inr rfl) (Le.mk _ _ ?_ ?_ rfl) rfl ?_ ?_ <;> simp only [outφ, outV, AR.res, go_sem, ↓reduceIte, Nat.reduceEqDiff, reduceCtorEq, Nat.reduceAdd, Nat.reduceLT, Nat.reduceLeDiff, Nat.reduceBNe, Nat.reduceBEq, Int.reduceToNat, bxF, List.length_append, List.length_cons, List.length_nil]
/-! Maps whose keys are pairs of texts. -/
def seen2 (p : List (List UInt8 × List UInt8)) (s t : List UInt8) : Bool := decide ((s, t) ∈ p)
theorem seen2_snoc (p : List (List UInt8 × List UInt8)) (x y s t : List UInt8) : seen2 (p ++ [(x, y)]) s t = (seen2 p s t || (decide (x = s) && decide (y = t))) := by
  unfold seen2
  by_cases h : (s, t) ∈ p <;> by_cases e : x = s <;> by_cases e2 : y = t <;> simp [h, e, e2, eq_comm]
def smap2 (p : List (List UInt8 × List UInt8)) : List (Ky × V) := p.foldl (fun es s => mput es (.ss s.1 s.2) (.bool true)) []
theorem smap2_snoc (p : List (List UInt8 × List UInt8)) (s t : List UInt8) : mput (smap2 p) (.ss s t) (.bool true) = smap2 (p ++ [(s, t)]) := by
  unfold smap2; rw [List.foldl_append]; rfl
theorem smap2_ind {Q : List (List UInt8 × List UInt8) → Prop} (h0 : Q []) (h1 : ∀ p s, Q p → Q (p ++ [s])) (p) : Q p := by
  rw [← List.reverse_reverse p]
  induction p.reverse with
  | nil => exact h0
  | cons a l ih => rw [List.reverse_cons]; exact h1 _ _ ih
theorem smap2_get (p : List (List UInt8 × List UInt8)) (s t : List UInt8) : mget (smap2 p) (.ss s t) (.bool false) = .bool (seen2 p s t) := by
  induction p using smap2_ind with
  | h0 => rfl
  | h1 p x ih =>
    obtain ⟨x, y⟩ := x
    rw [← smap2_snoc, mget_put, ih, seen2_snoc]
    by_cases e : x = s
    · by_cases e2 : y = t
      · subst e e2; rw [if_pos rfl, decide_eq_true rfl, decide_eq_true rfl, Bool.and_true, Bool.or_true]
      · rw [if_neg (fun h => e2 (by injection h)), decide_eq_false e2, Bool.and_false, Bool.or_false]
    · rw [if_neg (fun h => e (by injection h)), decide_eq_false e, Bool.false_and, Bool.or_false]
theorem smap2_key (p) : ∀ q ∈ smap2 p, q.1.kd = 2 := by
  induction p using smap2_ind with
  | h0 => intro q hq; cases hq
  | h1 p x ih => obtain ⟨x, y⟩ := x; rw [← smap2_snoc]; exact mput_all ih rfl
theorem smap2_bool (p) : ∀ q ∈ smap2 p, q.2 = .bool true := by
  induction p using smap2_ind with
  | h0 => intro q hq; cases hq
  | h1 p x ih => obtain ⟨x, y⟩ := x; rw [← smap2_snoc]; exact mput_all ih rfl
theorem smap2_keyT (p) : (∀ q ∈ smap2 p, q.1.kd = 2) ↔ True := iff_true_intro (smap2_key p)
theorem smap2_purT (p) : (∀ q ∈ smap2 p, q.2.pur = true) ↔ True := iff_true_intro fun q hq => by rw [smap2_bool p q hq]; rfl
theorem smap2_ninT (d : List Nat) (p) : (∀ q ∈ smap2 p, q.2.nin d = true) ↔ True := iff_true_intro fun q hq => by rw [smap2_bool p q hq]; simp only [V.nin]
theorem smap2_ren (σ : Nat → Nat) (p) : (smap2 p).map (fun q => (q.1, q.2.ren σ)) = smap2 p := by
  have : ∀ q ∈ smap2 p, (q.1, q.2.ren σ) = q := fun q hq => by
    obtain ⟨k, v⟩ := q
    have := smap2_bool p _ hq
    dsimp only at this
    subst this
    simp only [V.ren]
  conv => rhs; rw [← List.map_id (smap2 p)]
  exact List.map_congr_left fun q hq => this q hq
attribute [go_sem] smap2_snoc smap2_get smap2_keyT smap2_purT smap2_ninT smap2_ren
/-! What the maps hold. -/
structure MapsOk (l : List Airport) (L : Assoc (List UInt8)) (M : List (List UInt8)) : Prop where
  first : ∀ c, aget L c = (findBy (byCity c) l).map (·.country)
  mixed : ∀ c, seen M c = true ↔ ∃ x ∈ l, ∃ y ∈ l, x.city = c ∧ y.city = c ∧ x.country ≠ y.country
theorem MapsOk.nil : MapsOk [] [] [] := ⟨fun _ => rfl, fun c => ⟨fun h => by simp [seen] at h, fun ⟨x, h, _⟩ => absurd h List.not_mem_nil⟩⟩
theorem findBy_snoc (p : Airport → Bool) (l : List Airport) (a : Airport) : findBy p (l ++ [a]) = (findBy p l).or (if p a then some a else none) := by
  unfold findBy; rw [List.find?_append, List.find?_singleton]
theorem findBy_in {p : Airport → Bool} {l : List Airport} {a} (h : findBy p l = some a) : a ∈ l ∧ p a = true := ⟨List.mem_of_find?_eq_some h, List.find?_some h⟩
theorem findBy_none {p : Airport → Bool} {l : List Airport} (h : findBy p l = none) : ∀ a ∈ l, p a = false := fun a ha => by simpa using List.find?_eq_none.1 h a ha
/-- A city that was not there. -/
theorem MapsOk.new {l L M} {a : Airport} (h : MapsOk l L M) (hn : aget L a.city = none) : MapsOk (l ++ [a]) (aput L a.city a.country) M ∧ l.any (aMoved a) = false := by
  have hf : findBy (byCity a.city) l = none := by have := h.first a.city; rw [hn] at this; cases e : findBy (byCity a.city) l with | none => rfl | some _ => rw [e] at this; cases this
  have hno := findBy_none hf
  refine ⟨⟨fun c => ?_, fun c => ?_⟩, ?_⟩
  · rw [aget_put, findBy_snoc]
    by_cases e : a.city = c
    · subst e; rw [if_pos rfl, hf, Option.none_or, if_pos (by simp [byCity])]; rfl
    · rw [if_neg e, h.first c]
      rw [if_neg (by simpa [byCity] using e), Option.or_none]
  · rw [h.mixed c]
    constructor
    · rintro ⟨x, hx, y, hy, r⟩
      exact ⟨x, List.mem_append_left _ hx, y, List.mem_append_left _ hy, r⟩
    · rintro ⟨x, hx, y, hy, r1, r2, r3⟩
      have nm : ∀ z ∈ l ++ [a], ∀ w ∈ l ++ [a], z.city = c → w.city = c → z ∈ l ∨ w = a := fun z hz w hw h1 h2 => by
        rcases List.mem_append.1 hz with hz | hz
        · exact .inl hz
        · rw [List.mem_singleton] at hz
          rcases List.mem_append.1 hw with hw | hw
          · have := hno w hw
            subst hz
            rw [h1, ← h2] at this
            simp [byCity] at this
          · exact .inr (List.mem_singleton.1 hw)
      rcases List.mem_append.1 hx with hx' | hx'
      · rcases List.mem_append.1 hy with hy' | hy'
        · exact ⟨x, hx', y, hy', r1, r2, r3⟩
        · rw [List.mem_singleton] at hy'; subst hy'
          have := hno x hx'
          rw [r2, ← r1] at this; simp [byCity] at this
      · rw [List.mem_singleton] at hx'; subst hx'
        rcases List.mem_append.1 hy with hy' | hy'
        · have := hno y hy'
          rw [r1, ← r2] at this; simp [byCity] at this
        · rw [List.mem_singleton] at hy'; subst hy'; exact absurd rfl r3
  · refine List.any_eq_false.2 fun x hx => ?_
    have := hno x hx
    unfold aMoved
    unfold byCity at this
    rw [this]; simp
/-- A city that was there. -/
theorem MapsOk.old {l L M} {a : Airport} {c0 : List UInt8} (h : MapsOk l L M) (hn : aget L a.city = some c0) : l.any (aMoved a) = (!decide (c0 = a.country) || seen M a.city) ∧ MapsOk (l ++ [a]) L (if (!decide (c0 = a.country) || seen M a.city) = true then M ++ [a.city] else M) := by
  obtain ⟨b, hb, hbc⟩ : ∃ b, findBy (byCity a.city) l = some b ∧ b.country = c0 := by
    have := h.first a.city; rw [hn] at this
    cases e : findBy (byCity a.city) l with
    | none => rw [e] at this; cases this
    | some b => rw [e] at this; exact ⟨b, rfl, by simpa using this.symm⟩
  obtain ⟨hbl, hbt⟩ := findBy_in hb
  have hbt : b.city = a.city := of_decide_eq_true hbt
  have e1 : l.any (aMoved a) = true ↔ (!decide (c0 = a.country) || seen M a.city) = true := by
    rw [List.any_eq_true, Bool.or_eq_true, h.mixed]
    constructor
    · rintro ⟨x, hx, hm⟩
      unfold aMoved at hm
      simp only [Bool.and_eq_true, decide_eq_true_eq, Bool.not_eq_true', decide_eq_false_iff_not] at hm
      by_cases e : c0 = a.country
      · exact .inr ⟨x, hx, b, hbl, hm.1, hbt, by rw [hbc, e]; exact hm.2⟩
      · exact .inl (by simp [e])
    · rintro (h1 | ⟨x, hx, y, hy, h1, h2, h3⟩)
      · exact ⟨b, hbl, by unfold aMoved; rw [hbt, hbc]; simpa using h1⟩
      · by_cases e : x.country = a.country
        · exact ⟨y, hy, by unfold aMoved; rw [h2]; simp; rw [← e]; exact fun q => h3 q.symm⟩
        · exact ⟨x, hx, by unfold aMoved; rw [h1]; simp [e]⟩
  have e2 := Bool.eq_iff_iff.2 e1
  refine ⟨e2, fun c => ?_, fun c => ?_⟩
  · rw [h.first c, findBy_snoc]
    by_cases e : a.city = c
    · subst e; rw [hb]; rfl
    · rw [if_neg (by simpa [byCity] using e), Option.or_none]
  · have hold : (∃ x ∈ l, ∃ y ∈ l, x.city = c ∧ y.city = c ∧ x.country ≠ y.country) → ∃ x ∈ l ++ [a], ∃ y ∈ l ++ [a], x.city = c ∧ y.city = c ∧ x.country ≠ y.country := fun ⟨x, hx, y, hy, r⟩ => ⟨x, List.mem_append_left _ hx, y, List.mem_append_left _ hy, r⟩
    have hnew : (∃ x ∈ l ++ [a], ∃ y ∈ l ++ [a], x.city = c ∧ y.city = c ∧ x.country ≠ y.country) → (∃ x ∈ l, ∃ y ∈ l, x.city = c ∧ y.city = c ∧ x.country ≠ y.country) ∨ (a.city = c ∧ l.any (aMoved a) = true) := by
      rintro ⟨x, hx, y, hy, r1, r2, r3⟩
      rcases List.mem_append.1 hx with hx' | hx'
      · rcases List.mem_append.1 hy with hy' | hy'
        · exact .inl ⟨x, hx', y, hy', r1, r2, r3⟩
        · rw [List.mem_singleton] at hy'; subst hy'
          exact .inr ⟨r2, List.any_eq_true.2 ⟨x, hx', by unfold aMoved; simp [r1, r2, r3]⟩⟩
      · rw [List.mem_singleton] at hx'; subst hx'
        rcases List.mem_append.1 hy with hy' | hy'
        · exact .inr ⟨r1, List.any_eq_true.2 ⟨y, hy', by unfold aMoved; simp [r1, r2]; exact fun q => r3 q.symm⟩⟩
        · rw [List.mem_singleton] at hy'; subst hy'; exact absurd rfl r3
    cases hq : (!decide (c0 = a.country) || seen M a.city) with
    | false =>
      rw [if_neg (by decide), h.mixed c]
      refine ⟨hold, fun hh => ?_⟩
      rcases hnew hh with h1 | ⟨_, h1⟩
      · exact h1
      · rw [e2, hq] at h1; cases h1
    | true =>
      rw [if_pos rfl, seen_snoc, Bool.or_eq_true, h.mixed c, decide_eq_true_iff]
      constructor
      · rintro (hh | hh)
        · exact hold hh
        · rw [hq] at e2
          obtain ⟨x, hx, hm⟩ := List.any_eq_true.1 e2
          unfold aMoved at hm
          simp only [Bool.and_eq_true, decide_eq_true_eq, Bool.not_eq_true', decide_eq_false_iff_not] at hm
          exact ⟨x, List.mem_append_left _ hx, a, List.mem_append_right _ (List.mem_singleton.2 rfl), hm.1.trans hh, hh, hm.2⟩
      · intro hh
        rcases hnew hh with h1 | ⟨h1, _⟩
        · exact .inl h1
        · exact .inr h1
theorem codes_any (l : List Airport) (a : Airport) : seen (l.map (·.code)) a.code = l.any (aTwice a) := by
  unfold seen aTwice
  rw [Bool.eq_iff_iff, decide_eq_true_iff, List.any_eq_true, List.mem_map]
  constructor
  · rintro ⟨x, hx, h⟩; exact ⟨x, hx, by simpa using h⟩
  · rintro ⟨x, hx, h⟩; exact ⟨x, hx, by simpa using h⟩
def bothP (l : List Distance) : List (List UInt8 × List UInt8) := l.flatMap fun d => [(d.from', d.to'), (d.to', d.from')]
theorem bothP_snoc (l : List Distance) (d : Distance) : bothP l ++ [(d.from', d.to')] ++ [(d.to', d.from')] = bothP (l ++ [d]) := by
  unfold bothP; rw [List.flatMap_append, List.flatMap_cons, List.flatMap_nil, List.append_nil, List.append_assoc]; rfl
theorem pairs_any (l : List Distance) (d : Distance) : seen2 (bothP l) d.from' d.to' = l.any (dTwice d) := by
  unfold seen2 bothP dTwice
  rw [Bool.eq_iff_iff, decide_eq_true_iff, List.any_eq_true, List.mem_flatMap]
  constructor
  · rintro ⟨x, hx, h⟩
    refine ⟨x, hx, ?_⟩
    simp only [List.mem_cons, List.not_mem_nil, or_false, Prod.mk.injEq] at h
    rcases h with ⟨h1, h2⟩ | ⟨h1, h2⟩
    · rw [h1, h2]; simp
    · rw [h1, h2]; simp
  · rintro ⟨x, hx, h⟩
    refine ⟨x, hx, ?_⟩
    simp only [Bool.or_eq_true, Bool.and_eq_true, decide_eq_true_eq] at h
    rcases h with ⟨h1, h2⟩ | ⟨h1, h2⟩
    · rw [h1, h2]; simp
    · rw [h1, h2]; simp
theorem errF_app (p : List UInt8) (a b : List Int) : errF p (a ++ b) = errF p a ++ errF p b := List.map_append
theorem errF_iIf (p : List UInt8) (b : Bool) (e : Int) : errF p (iIf b e) = fIf b e p := by cases b <;> rfl
end Go.Proofs.YtcongikpaonliaaDoor
