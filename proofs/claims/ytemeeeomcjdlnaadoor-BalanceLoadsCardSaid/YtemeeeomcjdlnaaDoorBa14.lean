/- put finds a distribution if there is one. -/
import Derived.Test.YtemeeeomcjdlnaaDoorBa12
namespace Go.Proofs.YtemeeeomcjdlnaaDoor
open Go Go.RowKit
set_option linter.unusedSimpArgs false
set_option linter.unusedVariables false
set_option linter.deprecated false
/-- Weights put into bays, one after the other. -/
def addTo : List Int → List Int → List Nat → List Int
  | ls, w :: ws, b :: bs => addTo (ls.set b (ls.getD b 0 + w)) ws bs
  | ls, _, _ => ls
theorem addTo_len : ∀ (ls ws : List Int) (a : List Nat), (addTo ls ws a).length = ls.length
  | ls, w :: ws, b :: bs => by rw [addTo, addTo_len, List.length_set]
  | ls, [], _ => by cases ‹List Nat› <;> rfl
  | ls, _ :: _, [] => rfl
theorem getD_set (ls : List Int) (b k : Nat) (v : Int) (h : b < ls.length) : (ls.set b v).getD k 0 = if b = k then v else ls.getD k 0 := by
  rw [List.getD_eq_getElem?_getD, List.getElem?_set]
  by_cases e : b = k
  · subst e; simp [h]
  · rw [if_neg e, if_neg e, List.getD_eq_getElem?_getD]
theorem addTo_ge : ∀ (ls ws : List Int) (a : List Nat), (∀ w ∈ ws, 0 ≤ w) → (∀ b ∈ a, b < ls.length) → ∀ k, ls.getD k 0 ≤ (addTo ls ws a).getD k 0
  | ls, w :: ws, b :: bs, hw, ha, k => by
    have hb := ha b (List.mem_cons_self ..)
    have h1 := addTo_ge (ls.set b (ls.getD b 0 + w)) ws bs (fun x hx => hw x (List.mem_cons_of_mem _ hx)) (fun x hx => by rw [List.length_set]; exact ha x (List.mem_cons_of_mem _ hx)) k
    rw [getD_set _ _ _ _ hb] at h1
    have h2 := hw w (List.mem_cons_self ..)
    rw [addTo]
    split at h1
    · rename_i e; subst e; omega
    · exact h1
  | ls, [], a, _, _, k => by cases a <;> exact Int.le_refl _
  | ls, _ :: _, [], _, _, k => Int.le_refl _
theorem fits_over {t : Trim} {ls : List Int} {b : Nat} (hb : b < t.bays.length) (h : (t.bays.getD b Bay.zero).max < ls.getD b 0) : fitsOf t ls ≠ 0 := by
  unfold fitsOf pointOf
  by_cases h1 : ls.length ≠ t.bays.length
  · rw [if_pos h1]; simp
  · rw [if_neg h1]
    by_cases h2 : ls.any negB = true
    · rw [if_pos h2]; simp
    · rw [if_neg h2, if_pos (List.any_eq_true.2 ⟨b, List.mem_range.2 (by omega), decide_eq_true h⟩)]; simp
def Fit (t : Trim) (ls ws : List Int) (a : List Nat) : Prop := a.length = ws.length ∧ (∀ b ∈ a, b < t.bays.length) ∧ fitsOf t (addTo ls ws a) = 0
theorem tryB_iff {rec : List Int → List Int → Bool × List Int × List Int} {t : Trim} {i : Nat} {w : Int} {ls ws : List Int} (hl : ls.length = t.bays.length) (hw : 0 ≤ w) (hws : ∀ x ∈ ws, 0 ≤ x)
    (hrec : ∀ bay b, b < ls.length → ¬ (t.bays.getD b Bay.zero).max - w < ls.getD b 0 → ((rec bay (ls.set b (ls.getD b 0 + w))).1 = true ↔ ∃ a, Fit t (ls.set b (ls.getD b 0 + w)) ws a)) :
    ∀ m, m ≤ ls.length → ∀ bay, (tryB rec t i w ls m bay).1 = true ↔ ∃ b a, ls.length - m ≤ b ∧ b < ls.length ∧ Fit t ls (w :: ws) (b :: a) := by
  intro m
  induction m with
  | zero =>
    intro _ bay
    refine ⟨fun h => (by cases h), fun ⟨b, a, h1, h2, _⟩ => by omega⟩
  | succ m ih =>
    intro hm bay
    have hb : ls.length - (m + 1) < ls.length := by omega
    have e : ls.length - m = ls.length - (m + 1) + 1 := by omega
    have key : ∀ a, Fit t ls (w :: ws) ((ls.length - (m + 1)) :: a) ↔ Fit t (ls.set (ls.length - (m + 1)) (ls.getD (ls.length - (m + 1)) 0 + w)) ws a := fun a => by
      unfold Fit
      rw [addTo]
      simp only [List.length_cons, List.mem_cons, forall_eq_or_imp, Nat.add_right_cancel_iff]
      refine ⟨fun ⟨h1, ⟨_, h2⟩, h3⟩ => ⟨h1, h2, h3⟩, fun ⟨h1, h2, h3⟩ => ⟨h1, ⟨by omega, h2⟩, h3⟩⟩
    rw [tryB]
    generalize hB : ls.length - (m + 1) = B at hb e key
    split
    · rename_i hov
      rw [ih (by omega) bay]
      refine ⟨fun ⟨b, a, h1, h2, h3⟩ => ⟨b, a, by omega, h2, h3⟩, fun ⟨b, a, h1, h2, h3⟩ => ?_⟩
      by_cases c : b = B
      · subst c
        exfalso
        have h4 := (key a).1 h3
        refine fits_over (b := b) (by omega) ?_ h4.2.2
        have h5 := addTo_ge (ls.set b (ls.getD b 0 + w)) ws a hws (fun x hx => by rw [List.length_set, hl]; exact h4.2.1 x hx) b
        rw [getD_set _ _ _ _ hb, if_pos rfl] at h5
        omega
      · exact ⟨b, a, by omega, h2, h3⟩
    · rename_i hov
      dsimp only
      have hr := hrec (bay.set i (B : Int)) B hb hov
      split
      · rename_i ht
        refine ⟨fun _ => ?_, fun _ => ht⟩
        obtain ⟨a, ha⟩ := hr.1 ht
        exact ⟨B, a, by omega, hb, (key a).2 ha⟩
      · rename_i ht
        rw [ih (by omega) _]
        refine ⟨fun ⟨b, a, h1, h2, h3⟩ => ⟨b, a, by omega, h2, h3⟩, fun ⟨b, a, h1, h2, h3⟩ => ?_⟩
        by_cases c : b = B
        · subst c
          exact absurd (hr.2 ⟨a, (key a).1 h3⟩) ht
        · exact ⟨b, a, by omega, h2, h3⟩
theorem putR_iff {t : Trim} {ws : List Int} (hws : ∀ x ∈ ws, 0 ≤ x) : ∀ r, r ≤ ws.length → ∀ bay ls, ls.length = t.bays.length → ((putR t ws r bay ls).1 = true ↔ ∃ a, Fit t ls (ws.drop (ws.length - r)) a) := by
  intro r
  induction r with
  | zero =>
    intro _ bay ls hl
    rw [Nat.sub_zero, List.drop_length]
    show decide (fitsOf t ls = 0) = true ↔ _
    rw [decide_eq_true_eq]
    refine ⟨fun h => ⟨[], rfl, fun b hb => (by cases hb), h⟩, fun ⟨a, h1, _, h3⟩ => ?_⟩
    cases a with
    | nil => exact h3
    | cons x a => cases h1
  | succ r ih =>
    intro hr bay ls hl
    have hi : ws.length - (r + 1) < ws.length := by omega
    rw [putR, List.drop_eq_getElem_cons hi, getD_lt _ _ _ hi, show ws.length - (r + 1) + 1 = ws.length - r by omega]
    have hsub : ∀ x ∈ ws.drop (ws.length - r), 0 ≤ x := fun x hx => hws x (List.mem_of_mem_drop hx)
    rw [tryB_iff hl (hws _ (List.getElem_mem hi)) hsub (fun bay b hb _ => ih (by omega) bay _ (by rw [List.length_set]; exact hl)) ls.length (Nat.le_refl _) bay]
    constructor
    · rintro ⟨b, a, _, _, h⟩; exact ⟨_, h⟩
    · rintro ⟨a, h⟩
      cases a with
      | nil => cases h.1
      | cons b a => exact ⟨b, a, by omega, by have := h.2.1 b (List.mem_cons_self ..); omega, h⟩
/-! What it returns. -/
def nats (a : List Nat) : List Int := a.map fun b : Nat => (b : Int)
theorem take_set_lt (l : List Int) (i : Nat) (v : Int) : (l.set i v).take i = l.take i := by rw [List.take_set, List.set_eq_of_length_le (by rw [List.length_take]; omega)]
theorem tryB_keep {rec : List Int → List Int → Bool × List Int × List Int} {t : Trim} {i n : Nat} {w : Int} {ls : List Int} (hrec : ∀ bay ls, bay.length = n → (rec bay ls).2.1.take i = bay.take i ∧ (rec bay ls).2.1.length = n) :
    ∀ m bay, bay.length = n → (tryB rec t i w ls m bay).2.1.take i = bay.take i ∧ (tryB rec t i w ls m bay).2.1.length = n := by
  intro m
  induction m with
  | zero => exact fun bay h => ⟨rfl, h⟩
  | succ m ih =>
    intro bay h
    rw [tryB]
    split
    · exact ih bay h
    · dsimp only
      obtain ⟨h1, h2⟩ := hrec (bay.set i ((ls.length - (m + 1) : Nat) : Int)) (ls.set (ls.length - (m + 1)) (ls.getD (ls.length - (m + 1)) 0 + w)) (by rw [List.length_set]; exact h)
      rw [take_set_lt] at h1
      split
      · exact ⟨h1, h2⟩
      · obtain ⟨h3, h4⟩ := ih _ h2
        exact ⟨h3.trans h1, h4⟩
theorem putR_keep {t : Trim} {ws : List Int} : ∀ r, r ≤ ws.length → ∀ bay ls, bay.length = ws.length → (putR t ws r bay ls).2.1.take (ws.length - r) = bay.take (ws.length - r) ∧ (putR t ws r bay ls).2.1.length = ws.length := by
  intro r
  induction r with
  | zero => exact fun _ bay ls h => ⟨rfl, h⟩
  | succ r ih =>
    intro hr bay ls h
    rw [putR]
    refine tryB_keep (fun bay ls h => ?_) _ bay h
    obtain ⟨h1, h2⟩ := ih (by omega) bay ls h
    refine ⟨?_, h2⟩
    have := congrArg (List.take (ws.length - (r + 1))) h1
    rwa [List.take_take, List.take_take, Nat.min_eq_left (by omega)] at this
theorem tryB_res {rec : List Int → List Int → Bool × List Int × List Int} {t : Trim} {i n : Nat} {w : Int} {ls ws : List Int} (hi : i < n)
    (hkeep : ∀ bay ls, bay.length = n → (rec bay ls).2.1.take i = bay.take i ∧ (rec bay ls).2.1.length = n)
    (hrec : ∀ bay b, bay.length = n → b < ls.length → (rec bay (ls.set b (ls.getD b 0 + w))).1 = true → ∃ a, Fit t (ls.set b (ls.getD b 0 + w)) ws a ∧ (rec bay (ls.set b (ls.getD b 0 + w))).2.1 = bay.take (i + 1) ++ nats a) :
    ∀ m, m ≤ ls.length → ∀ bay, bay.length = n → (tryB rec t i w ls m bay).1 = true → ∃ b a, b < ls.length ∧ Fit t (ls.set b (ls.getD b 0 + w)) ws a ∧ (tryB rec t i w ls m bay).2.1 = bay.take i ++ nats (b :: a) := by
  intro m
  induction m with
  | zero => exact fun _ bay _ h => by cases h
  | succ m ih =>
    intro hm bay hb h
    rw [tryB] at h ⊢
    split at h
    · rename_i c; rw [if_pos c]; exact ih (by omega) bay hb h
    · rename_i c
      rw [if_neg c]
      dsimp only at h ⊢
      have hlt : ls.length - (m + 1) < ls.length := by omega
      generalize hB : ls.length - (m + 1) = B at h hlt ⊢
      have hbs : (bay.set i (B : Int)).length = n := by rw [List.length_set]; exact hb
      split at h
      · rename_i ht
        rw [if_pos ht]
        obtain ⟨a, h1, h2⟩ := hrec _ B hbs hlt ht
        refine ⟨B, a, hlt, h1, ?_⟩
        rw [h2, take_set _ _ _ (by omega), List.append_assoc]; rfl
      · rename_i ht
        rw [if_neg ht]
        obtain ⟨k1, k2⟩ := hkeep (bay.set i (B : Int)) (ls.set B (ls.getD B 0 + w)) hbs
        obtain ⟨b, a, h1, h2, h3⟩ := ih (by omega) _ k2 h
        refine ⟨b, a, h1, h2, ?_⟩
        rw [h3, k1, take_set_lt]
theorem putR_res {t : Trim} {ws : List Int} : ∀ r, r ≤ ws.length → ∀ bay ls, bay.length = ws.length → ls.length = t.bays.length → (putR t ws r bay ls).1 = true → ∃ a, Fit t ls (ws.drop (ws.length - r)) a ∧ (putR t ws r bay ls).2.1 = bay.take (ws.length - r) ++ nats a := by
  intro r
  induction r with
  | zero =>
    intro _ bay ls hb hl h
    refine ⟨[], ?_, ?_⟩
    · rw [Nat.sub_zero, List.drop_length]
      exact ⟨rfl, fun b hb => (by cases hb), of_decide_eq_true h⟩
    · show bay = bay.take (ws.length - 0) ++ nats []
      rw [Nat.sub_zero, ← hb, List.take_length]; simp [nats]
  | succ r ih =>
    intro hr bay ls hb hl h
    have hi : ws.length - (r + 1) < ws.length := by omega
    rw [putR] at h ⊢
    obtain ⟨b, a, h1, h2, h3⟩ := tryB_res (ws := ws.drop (ws.length - r)) hi (fun bay ls hb => by
        obtain ⟨h1, h2⟩ := putR_keep (t := t) r (by omega) bay ls hb
        refine ⟨?_, h2⟩
        have := congrArg (List.take (ws.length - (r + 1))) h1
        rwa [List.take_take, List.take_take, Nat.min_eq_left (by omega)] at this)
      (fun bay b hb hlt ht => by
        obtain ⟨a, g1, g2⟩ := ih (by omega) bay _ hb (by rw [List.length_set]; exact hl) ht
        exact ⟨a, g1, by rw [g2, show ws.length - (r + 1) + 1 = ws.length - r by omega]⟩) ls.length (Nat.le_refl _) bay hb h
    refine ⟨b :: a, ?_, h3⟩
    rw [List.drop_eq_getElem_cons hi, show ws.length - (r + 1) + 1 = ws.length - r by omega]
    rw [getD_lt _ _ _ hi] at h2
    refine ⟨by simp [h2.1], fun x hx => ?_, by rw [addTo]; exact h2.2.2⟩
    rcases List.mem_cons.1 hx with rfl | hx
    · omega
    · exact h2.2.1 x hx
end Go.Proofs.YtemeeeomcjdlnaaDoor
