/- What it means that configurations have no violations. -/
import Derived.Test.YtopafipomaiabaaDoorCa12
namespace Go.Proofs.YtopafipomaiabaaDoor
open Go Go.RowKit
set_option linter.unusedSimpArgs false
set_option linter.unusedVariables false
set_option linter.deprecated false
theorem fIf_nil {b : Bool} {e : Int} {p : List UInt8} (h : fIf b e p = []) : b = false := by
  unfold fIf at h; split at h
  · cases h
  · rename_i hb; simpa using hb
theorem confTo_nil {l : List Config} {n : Nat} (h : confTo l n = []) : ∀ i, i < n → confOne l i = [] := by
  induction n with
  | zero => intro i hi; omega
  | succ n ih =>
    rw [confTo] at h
    obtain ⟨h1, h2⟩ := List.append_eq_nil_iff.1 h
    intro i hi
    by_cases e : i = n
    · subst e; exact h2
    · exact ih h1 i (by omega)
theorem cabTo_nil {l : List Cabin} {p : List UInt8} {n : Nat} (h : cabTo l p n = []) : ∀ i, i < n → cabOne l p i = [] := by
  induction n with
  | zero => intro i hi; omega
  | succ n ih =>
    rw [cabTo] at h
    obtain ⟨h1, h2⟩ := List.append_eq_nil_iff.1 h
    intro i hi
    by_cases e : i = n
    · subst e; exact h2
    · exact ih h1 i (by omega)
theorem clsTo_nil {y : Cabin} {p : List UInt8} {prev : List (List UInt8)} {n : Nat} (h : clsTo y p prev n = []) : ∀ i, i < n → clsOne y p prev i = [] := by
  induction n with
  | zero => intro i hi; omega
  | succ n ih =>
    rw [clsTo] at h
    obtain ⟨h1, h2⟩ := List.append_eq_nil_iff.1 h
    intro i hi
    by_cases e : i = n
    · subst e; exact h2
    · exact ih h1 i (by omega)
/-- A right cabin at place c of a configuration. -/
structure Right (l : List Cabin) (c : Nat) : Prop where
  rng : inR (l.getD c zCabin) = true
  new : ∀ k, k < (l.getD c zCabin).cl.length → ((l.getD c zCabin).cl.getD k zClass).code ∉ prevCodes l c ++ codes ((l.getD c zCabin).cl.take k)
  prot : ∀ k, k < (l.getD c zCabin).cl.length → protBad (l.getD c zCabin) k = false
theorem right_of {l : List Config} (h : confFaults l = []) {i : Nat} (hi : i < l.length) {c : Nat} (hc : c < l[i].cabs.length) : Right l[i].cabs c := by
  have h1 := confTo_nil h i hi
  unfold confOne at h1
  simp only [getD_lt _ _ _ hi, List.append_eq_nil_iff] at h1
  have h2 := cabTo_nil h1.2 c hc
  unfold cabOne cabTail at h2
  simp only [List.append_eq_nil_iff] at h2
  obtain ⟨_, ⟨h3, _⟩, h4⟩ := h2
  have h5 := clsTo_nil h4
  refine ⟨by simpa using fIf_nil h3, fun k hk => ?_, fun k hk => ?_⟩
  · have := h5 k hk
    unfold clsOne at this
    simp only [List.append_eq_nil_iff] at this
    have := fIf_nil this.1.2
    simpa [seen] using this
  · have := h5 k hk
    unfold clsOne at this
    simp only [List.append_eq_nil_iff] at this
    exact fIf_nil this.2
theorem place_right {l : List Cabin} (h : ∀ c, c < l.length → Right l c) {c k : Nat} (hc : c < l.length) (hk : k < l[c].cl.length) : place l l[c].cl[k].code = some (c, k) := by
  have hr := (h c hc).new
  rw [getD_lt _ _ _ hc] at hr
  have hn := hr k hk
  rw [getD_lt _ _ _ hk] at hn
  refine place_at hc (fun y hy => ?_) hk (fun z hz => ?_) rfl
  · intro z hz e
    refine hn (List.mem_append.2 (.inl ?_))
    obtain ⟨j, hj, rfl⟩ := List.mem_take_iff_getElem.1 hy
    rw [← e]
    exact mem_prev (by omega) (by omega) (List.mem_map.2 ⟨z, hz, rfl⟩)
  · intro e
    refine hn (List.mem_append.2 (.inr ?_))
    rw [← e]
    exact List.mem_map.2 ⟨z, hz, rfl⟩
theorem ints_at {l : List Int} {i : Nat} {d : List V} (h : i < l.length) : (ints l).getD i d = [.int .i64 l[i]] := by
  unfold ints; rw [List.getD_eq_getElem?_getD, List.getElem?_map, List.getElem?_eq_getElem h]; rfl
theorem limits_len (y : Cabin) : (limits y).length = y.cl.length := limTo_len _ _ _
theorem limits_at {y : Cabin} {j : Nat} (h : j < (limits y).length) : (limits y)[j] = limAt (auth y) y.cl j := by
  simp [limits, limTo]
theorem limits_right {y : Cabin} (hr : inR y = true) (hp : ∀ k, k < y.cl.length → protBad y k = false) {j : Nat} (hj : j < y.cl.length) : 0 ≤ limAt (auth y) y.cl j ∧ (0 < j → limAt (auth y) y.cl j ≤ limAt (auth y) y.cl (j - 1)) := by
  simp only [inR, Bool.and_eq_true, decide_eq_true_eq] at hr
  have hau : auth y = y.seats + y.over := rfl
  have key : ∀ k, k < y.cl.length → 0 ≤ (y.cl.getD k zClass).prot ∧ (y.cl.getD k zClass).prot ≤ auth y ∧ (0 < k → (y.cl.getD (k - 1) zClass).prot ≤ (y.cl.getD k zClass).prot) := by
    intro k hk
    have := hp k hk
    have hi : inR y = true := by simp only [inR, Bool.and_eq_true, decide_eq_true_eq]; exact hr
    unfold protBad at this
    simp only [hi, Bool.or_eq_false_iff, Bool.and_eq_false_iff, decide_eq_false_iff_not, Bool.true_and] at this
    obtain ⟨⟨a, b⟩, c⟩ := this
    refine ⟨by omega, by omega, fun h0 => ?_⟩
    rcases b with b | b <;> omega
  unfold limAt
  refine ⟨?_, fun h0 => ?_⟩
  · split
    · omega
    · have := key (j - 1) (by omega); omega
  · rw [if_neg (by omega)]
    have := key (j - 1) (by omega)
    split
    · omega
    · have h2 := this.2.2 (by omega); omega
theorem place_some_of_last {l : List Cabin} {i : Nat} (hi : i < l.length) {t : List UInt8} (h : lastOf l[i].cl = some t) : (place l t).isSome = true := by
  cases hp : place l t with
  | some _ => rfl
  | none =>
    exfalso
    unfold lastOf at h
    split at h
    · cases h
    rename_i hne
    have hne : l[i].cl.length ≠ 0 := hne
    injection h with h
    have hk : l[i].cl.length - 1 < l[i].cl.length := by omega
    rw [getD_lt _ _ _ hk] at h
    have : ∀ (s : Nat) (l : List Cabin), placeFrom t s l = none → ∀ y ∈ l, noCls t y := by
      intro s l
      induction l generalizing s with
      | nil => intro _ y hy; cases hy
      | cons x xs ih =>
        intro hpl y hy
        rw [placeFrom] at hpl
        split at hpl
        · cases hpl
        rename_i hx
        rcases List.mem_cons.1 hy with rfl | hy
        · intro z hz
          unfold idx at hx
          rw [List.findIdx?_eq_none_iff] at hx
          simpa using hx z hz
        · exact ih _ hpl y hy
    exact this 0 l hp _ (List.getElem_mem hi) _ (List.getElem_mem hk) h
theorem like_law {la lb : List Cabin} {s t : List UInt8} (h : like la lb s = some t) : (place lb t).isSome = true ∧ ((place lb s).isSome = true → t = s) := by
  unfold like at h
  split at h
  · cases h
  · split at h
    · rename_i p hp
      injection h with h; subst h
      exact ⟨by rw [hp]; rfl, fun _ => rfl⟩
    · rename_i hp
      split at h
      · cases h
      · rename_i hne
        have hne : lb.length ≠ 0 := hne
        rw [getD_lt _ _ _ (show min _ (lb.length - 1) < lb.length by omega)] at h
        exact ⟨place_some_of_last _ h, fun e => by rw [hp] at e; cases e⟩
theorem smallL_of {l : List Config} (h : ConfigsOk l) (hs : smallB l = true) : SmallL l := by
  unfold smallB at hs
  simp only [Bool.and_eq_true, decide_eq_true_eq, List.all_eq_true] at hs
  have hc : ∀ x ∈ l, x.cabs.length ≤ 8 ∧ ∀ y ∈ x.cabs, y.cl.length ≤ 30 := fun x hx => by
    have := hs.2 x hx
    unfold smallC at this
    simpa only [Bool.and_eq_true, decide_eq_true_eq, List.all_eq_true] using this
  exact ⟨by omega, h.2, fun x hx => by have := (hc x hx).1; omega, fun x hx y hy => by have := (hc x hx).2 y hy; omega⟩
theorem find_mem {l : List Config} {e : List UInt8} {c : Config} (h : find l e = some c) : ∃ i, ∃ hi : i < l.length, l[i] = c := by
  have := List.mem_of_find?_eq_some h
  obtain ⟨i, hi, e⟩ := List.mem_iff_getElem.1 this
  exact ⟨i, hi, e⟩
theorem found_ok {l : List Config} (h : ConfigsOk l) (e : List UInt8) : ((find l e).getD zConf).ok := by
  cases hf : find l e with
  | none => exact ⟨by decide, by decide, by simp [zConf]⟩
  | some c => obtain ⟨i, hi, rfl⟩ := find_mem hf; exact h.2 _ (List.getElem_mem hi)
theorem found_right {l : List Config} (h : confFaults l = []) (e : List UInt8) : ∀ c, c < ((find l e).getD zConf).cabs.length → Right ((find l e).getD zConf).cabs c := by
  cases hf : find l e with
  | none => intro c hc; simp [zConf] at hc
  | some x => obtain ⟨i, hi, rfl⟩ := find_mem hf; exact fun c hc => right_of h hi hc
end Go.Proofs.YtopafipomaiabaaDoor
