/- What the laws of parties say, in plain words. -/
import Derived.Test.YtbakkdnhbeldcaaDoorPa8
namespace Go.Proofs.YtbakkdnhbeldcaaDoor
open Go Go.RowKit
set_option linter.unusedSimpArgs false
set_option linter.unusedVariables false
set_option linter.deprecated false
theorem infN_app (a b : List Person) : infN (a ++ b) = infN a + infN b := by unfold infN; rw [List.filter_append, List.length_append]
theorem infN_one (x : Person) : infN [x] = if infB x = true then 1 else 0 := by unfold infN; cases h : infB x <;> simp [h]
theorem infN_set {l : List Person} {k : Nat} (h : k < l.length) {x : Person} (hx : infB l[k] = infB x) : infN (l.set k x) = infN l := by
  have e : l = l.take k ++ [l[k]] ++ l.drop (k + 1) := by rw [← take_succ' h, List.take_append_drop]
  have e2 : l.set k x = l.take k ++ [x] ++ l.drop (k + 1) := by
    rw [List.set_eq_take_append_cons_drop, if_pos h, List.append_assoc]; rfl
  rw [e2]
  conv => rhs; rw [e]
  rw [infN_app, infN_app, infN_app, infN_app, infN_one, infN_one, hx]
/-- What Name says when it says yes. -/
theorem name_ok {l : List Person} {g at' : Int} {x : Person} (h : (nameP l g at' x).2.2 = 0) : nameP l g at' x = (nmPut l at' x, nmG l g at', 0) ∧ nmA l.length g at' = false ∧ namB x = true ∧ typB x = true ∧ nmWas l at' = infB x ∧ aloneB (nmPut l at' x) = false ∧ nmF l g at' = false := by
  unfold nameP at h ⊢
  split at h
  · cases h
  · rename_i c1
    rw [if_neg c1]
    split at h
    · cases h
    · rename_i c2
      rw [if_neg c2]
      split at h
      · cases h
      · rename_i c3
        rw [if_neg c3]
        split at h
        · cases h
        · rename_i c4
          rw [if_neg c4]
          split at h
          · cases h
          · rename_i c5
            rw [if_neg c5]
            split at h
            · cases h
            · rename_i c6
              rw [if_neg c6]
              exact ⟨rfl, by simpa using c1, by simpa using c2, by simpa using c3, by simpa using c4, by simpa using c5, by simpa using c6⟩
theorem nmA_bd {n : Nat} {g at' : Int} (h : nmA n g at' = false) : 0 ≤ at' ∧ at' ≤ n ∧ (at' = n → 1 ≤ g) := by
  unfold nmA at h
  simp only [Bool.or_eq_false_iff, Bool.and_eq_false_iff, decide_eq_false_iff_not] at h
  omega
theorem put_len (l : List Person) (at' : Int) (x : Person) : (nmPut l at' x).length ≤ l.length + 1 := by
  unfold nmPut; split <;> simp
theorem put_mem {l : List Person} {at' : Int} {x z : Person} (h : z ∈ nmPut l at' x) : z ∈ l ∨ z = x := by
  unfold nmPut at h
  split at h
  · simpa using h
  · exact List.mem_or_eq_of_mem_set h
theorem seats_name {l : List Person} {g at' : Int} {x : Person} (h : (nameP l g at' x).2.2 = 0) (hg : g ≤ 99) : seatsN (nameP l g at' x).1 (nameP l g at' x).2.1 = seatsN l g := by
  obtain ⟨e, hA, _, _, hw, _, _⟩ := name_ok h
  obtain ⟨h0, h1, h2⟩ := nmA_bd hA
  rw [e]
  unfold nmPut nmG nmWas at *
  by_cases hm : at' = (l.length : Int)
  · rw [if_pos hm, if_pos hm]
    rw [decide_eq_false (by omega), Bool.false_and] at hw
    unfold seatsN
    rw [infN_app, infN_one, ← hw, if_neg (by decide), List.length_append]
    have := h2 hm
    unfold grpN
    simp only [List.length_cons, List.length_nil]
    omega
  · rw [if_neg hm, if_neg hm]
    have hk : at'.toNat < l.length := by omega
    rw [decide_eq_true (by omega), Bool.true_and, getD_lt _ _ _ hk] at hw
    unfold seatsN
    dsimp only
    rw [infN_set hk hw, List.length_set]
theorem fIf_nil {b : Bool} {e p} (h : fIf b e p = []) : b = false := by
  cases b with
  | false => rfl
  | true => rw [fIf_t rfl] at h; cases h
theorem perTo_nil {l : List Person} : ∀ n, n ≤ l.length → (perTo l n = [] ↔ ∀ x ∈ l.take n, namB x = true ∧ typB x = true)
  | 0, _ => ⟨fun _ x hx => by simp at hx, fun _ => rfl⟩
  | n + 1, hn => by
    rw [perTo, List.append_eq_nil_iff, perTo_nil n (by omega), take_succ' (by omega : n < l.length), getD_lt _ _ _ (by omega : n < l.length)]
    have key : perOne n l[n] = [] ↔ namB l[n] = true ∧ typB l[n] = true := by
      unfold perOne
      rw [List.append_eq_nil_iff]
      constructor
      · rintro ⟨a, b⟩
        exact ⟨by simpa using fIf_nil a, by simpa using fIf_nil b⟩
      · rintro ⟨a, b⟩
        exact ⟨fIf_f (by rw [a]; rfl), fIf_f (by rw [b]; rfl)⟩
    rw [key]
    constructor
    · rintro ⟨a, b⟩ x hx
      rcases List.mem_append.1 hx with hx | hx
      · exact a x hx
      · rw [List.mem_singleton.1 hx]; exact b
    · intro h
      exact ⟨fun x hx => h x (List.mem_append_left _ hx), h _ (List.mem_append_right _ (List.mem_singleton.2 rfl))⟩
theorem chk_nil {l : List Person} {g : Int} : chkP l g = [] ↔ (∀ x ∈ l, namB x = true ∧ typB x = true) ∧ wrongG g = false ∧ sizeBad l.length (goodG g) = false ∧ aloneB l = false := by
  unfold chkP
  rw [List.append_eq_nil_iff, List.append_eq_nil_iff, List.append_eq_nil_iff, perTo_nil _ (Nat.le_refl _), List.take_length]
  constructor
  · rintro ⟨⟨⟨a, b⟩, c⟩, d⟩
    exact ⟨a, fIf_nil b, fIf_nil c, fIf_nil d⟩
  · rintro ⟨a, b, c, d⟩
    exact ⟨⟨⟨a, fIf_f b⟩, fIf_f c⟩, fIf_f d⟩
theorem name_right {l : List Person} {g at' : Int} {x : Person} (h : (nameP l g at' x).2.2 = 0) (hc : chkP l g = []) : chkP (nameP l g at' x).1 (nameP l g at' x).2.1 = [] := by
  obtain ⟨e, hA, hnx, htx, hw, hal, hF⟩ := name_ok h
  obtain ⟨h0, h1, h2⟩ := nmA_bd hA
  obtain ⟨c1, c2, c3, c4⟩ := chk_nil.1 hc
  rw [e]
  refine chk_nil.2 ⟨fun z hz => ?_, ?_, ?_, hal⟩
  · rcases put_mem hz with hz | rfl
    · exact c1 z hz
    · exact ⟨hnx, htx⟩
  · dsimp only
    unfold wrongG at c2 ⊢
    simp only [Bool.or_eq_false_iff, decide_eq_false_iff_not] at c2 ⊢
    unfold nmG
    split
    · have := h2 (by assumption); omega
    · omega
  · have hg : goodG g = g := by unfold goodG; rw [if_neg (by rw [c2]; decide)]
    rw [hg] at c3
    have c2' := c2
    unfold wrongG at c2'
    simp only [Bool.or_eq_false_iff, decide_eq_false_iff_not] at c2'
    have hg2 : goodG (nmG l g at') = nmG l g at' := by
      unfold goodG
      rw [if_neg]
      unfold wrongG nmG
      simp only [Bool.or_eq_true, decide_eq_true_eq]
      split
      · have := h2 (by assumption); omega
      · omega
    dsimp only
    rw [hg2]
    unfold sizeBad at c3 ⊢
    unfold nmF at hF
    simp only [Bool.or_eq_false_iff, Bool.and_eq_false_iff, decide_eq_false_iff_not] at c3 hF ⊢
    by_cases hm : at' = (l.length : Int)
    · have e1 : nmG l g at' = g - 1 := by unfold nmG; rw [if_pos hm]
      have e2 : (nmPut l at' x).length = l.length + 1 := by unfold nmPut; rw [if_pos hm, List.length_append]; rfl
      rw [e1] at hF
      rw [e1, e2]
      omega
    · have e1 : nmG l g at' = g := by unfold nmG; rw [if_neg hm]
      have e2 : (nmPut l at' x).length = l.length := by unfold nmPut; rw [if_neg hm, List.length_set]
      rw [e1, e2]
      exact c3
/-! Split. -/
theorem sel_inf (p : Nat → Bool) (l : List Person) : ∀ i, i ≤ l.length → infN (selTo p l i) + infN (selTo (fun j => !p j) l i) = infN (l.take i)
  | 0, _ => rfl
  | i + 1, hi => by
    have ih := sel_inf p l i (by omega)
    rw [selTo, selTo, take_succ' (by omega : i < l.length), infN_app, infN_app, infN_app, getD_lt _ _ _ (by omega : i < l.length)]
    cases p i
    · simp only [Bool.false_eq_true, if_false, Bool.not_false, if_true]; rw [show infN [] = 0 from rfl]; omega
    · simp only [if_true, Bool.not_true, Bool.false_eq_true, if_false]; rw [show infN [] = 0 from rfl]; omega
theorem split_ok {l : List Person} {at' : List Int} (h : (splitP l at').2.2 = 0) : splitP l at' = (selA at' l, selB at' l, 0) := by
  unfold splitP at h ⊢
  split at h
  · cases h
  · rename_i c1; rw [if_neg c1]
    split at h
    · cases h
    · rename_i c2; rw [if_neg c2]
      split at h
      · cases h
      · rename_i c3; rw [if_neg c3]
        split at h
        · cases h
        · rename_i c4; rw [if_neg c4]
theorem split_sum {l : List Person} {at' : List Int} (h : (splitP l at').2.2 = 0) : (splitP l at').1.length + (splitP l at').2.1.length = l.length ∧ seatsN (splitP l at').1 0 + seatsN (splitP l at').2.1 0 = seatsN l 0 := by
  rw [split_ok h]
  have h1 : (selA at' l).length + (selB at' l).length = l.length := by unfold selA selB; rw [sel_len, sel_len]; exact cn_not _ _
  have h2 := sel_inf (inA at') l l.length (Nat.le_refl _)
  rw [List.take_length] at h2
  have h3 : infN (selA at' l) + infN (selB at' l) = infN l := h2
  refine ⟨h1, ?_⟩
  dsimp only
  unfold seatsN grpN
  omega
theorem split_len (l : List Person) (at' : List Int) : (splitP l at').1.length ≤ l.length ∧ (splitP l at').2.1.length ≤ l.length := by
  unfold splitP
  have h1 : (selA at' l).length + (selB at' l).length = l.length := by unfold selA selB; rw [sel_len, sel_len]; exact cn_not _ _
  split
  · simp
  · split
    · simp
    · split
      · simp
      · split
        · simp
        · dsimp only; omega
end Go.Proofs.YtbakkdnhbeldcaaDoor
