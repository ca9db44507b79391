/- Maps of growing lists of numbers: the lists under the names 500, 501, .. (own rows), beside a map under a name below 500. -/
import Derived.Test.YtkdkjbneohdofaaDoorT6
import Derived.Test.YtkdkjbneohdofaaDoorAv23
namespace Go.Proofs.YtkdkjbneohdofaaDoor
open Go Go.RowKit
set_option linter.unusedSimpArgs false
set_option linter.unusedVariables false
set_option linter.deprecated false
def glE : Nat → Assoc (List Int) → List (Ky × V)
  | _, [] => []
  | j, (k, l) :: L => (.s k, .own (j + 500) l.length) :: glE (j + 1) L
def glR : Nat → Assoc (List Int) → List (Nat × Ob)
  | _, [] => []
  | j, (_, l) :: L => (j + 500, .arr 3 1 (ints l)) :: glR (j + 1) L
def glO (m : Nat) (L : Assoc (List Int)) : List (Nat × Ob) := (m, .mp (glE 0 L)) :: glR 0 L
def gH (m : Nat) (L : Assoc (List Int)) : Nat → Option Ob := mkH (glO m L)
def addG : Assoc (List Int) → List UInt8 → Int → Assoc (List Int)
  | [], k, v => [(k, [v])]
  | (k', l) :: L, k, v => if k' = k then (k', l ++ [v]) :: L else (k', l) :: addG L k v
def gFind : Assoc (List Int) → List UInt8 → Option (Nat × List Int)
  | [], _ => none
  | (k', l) :: L, k => if k' = k then some (0, l) else (gFind L k).map fun p => (p.1 + 1, p.2)
theorem gH_m (m : Nat) (L : Assoc (List Int)) : gH m L m = some (.mp (glE 0 L)) := by unfold gH glO; simp [mkH]
theorem glR_lo : ∀ (L : Assoc (List Int)) (j n : Nat), n < j + 500 → mkH (glR j L) n = none
  | [], _, _, _ => rfl
  | (k, l) :: L, j, n, h => by rw [glR, mkH, if_neg (by omega)]; exact glR_lo L (j + 1) n (by omega)
theorem gH_lo {m : Nat} (L : Assoc (List Int)) {n : Nat} (hn : n < 500) (hm : n ≠ m) : gH m L n = none := by
  unfold gH glO
  rw [mkH, if_neg hm]; exact glR_lo L 0 n (by omega)
theorem glE_kd : ∀ (L : Assoc (List Int)) (j : Nat), (∀ p ∈ glE j L, p.1.kd = 0) ↔ True
  | [], _ => by simp [glE]
  | (k, l) :: L, j => by
    rw [glE, List.forall_mem_cons, glE_kd L (j + 1)]
    simp [Ky.kd]
theorem mget_c (k' : Ky) (x : V) (es : List (Ky × V)) (k : Ky) (z : V) : mget ((k', x) :: es) k z = if k' = k then x else mget es k z := by
  unfold mget
  rw [List.find?_cons]
  by_cases h : k' = k <;> simp [h]
theorem mput_c (k' : Ky) (x : V) (es : List (Ky × V)) (k : Ky) (v : V) : mput ((k', x) :: es) k v = if k' = k then (k, v) :: es else (k', x) :: mput es k v := by
  unfold mput
  rw [List.findIdx?_cons]
  by_cases h : k' = k
  · simp [h]
  · simp only [h, decide_false, if_false, Bool.false_eq_true]
    cases he : es.findIdx? fun p => decide (p.1 = k) <;> simp
theorem gl_old : ∀ {L : Assoc (List Int)} {k : List UInt8} {i : Nat} {l : List Int} (j : Nat) (v : Int) (z : V), gFind L k = some (i, l) →
    mget (glE j L) (.s k) z = .own (j + i + 500) l.length ∧ mput (glE j L) (.s k) (.own (j + i + 500) (l.length + 1)) = glE j (addG L k v) ∧ mkH (glR j L) (j + i + 500) = some (.arr 3 1 (ints l)) ∧
      ∀ n, mkH (glR j (addG L k v)) n = if n = j + i + 500 then some (.arr 3 1 (ints (l ++ [v]))) else mkH (glR j L) n
  | [], _, _, _, _, _, _, h => by cases h
  | (k', l') :: L, k, i, l, j, v, z, h => by
    rw [gFind] at h
    rw [glE, glR, mget_c, mput_c, addG]
    by_cases e : k' = k
    · rw [if_pos e] at h
      injection h with h; injection h with h1 h2
      subst e h1 h2
      simp only [if_true, Nat.add_zero, mkH, glR, glE, true_and, List.length_append, List.length_cons, List.length_nil, Nat.zero_add]
      intro n
      split <;> rfl
    · rw [if_neg e] at h
      have e2 : ¬ Ky.s k' = Ky.s k := fun h => e (by injection h)
      rw [if_neg e2, if_neg e2, if_neg e]
      obtain ⟨⟨i', l2⟩, h1, h2⟩ := Option.map_eq_some_iff.1 h
      injection h2 with h2 h3
      subst h2 h3
      obtain ⟨a1, a2, a3, a4⟩ := gl_old (j + 1) v z h1
      have ej : j + 1 + i' + 500 = j + (i' + 1) + 500 := by omega
      rw [ej] at a1 a2 a3
      dsimp only
      refine ⟨a1, by rw [a2, glE], ?_, fun n => ?_⟩
      · rw [mkH, if_neg (by omega)]; exact a3
      · rw [glR, mkH, mkH, a4 n, ej]
        by_cases hn : n = j + 500
        · rw [if_pos hn, if_pos hn, if_neg (by omega)]
        · rw [if_neg hn, if_neg hn]
theorem gl_none : ∀ {L : Assoc (List Int)} {k : List UInt8} (j : Nat) (v : Int) (x z : V), gFind L k = none →
    mget (glE j L) (.s k) z = z ∧ mput (glE j L) (.s k) x = glE j L ++ [(.s k, x)] ∧ addG L k v = L ++ [(k, [v])]
  | [], _, _, _, _, _, _ => ⟨rfl, rfl, rfl⟩
  | (k', l') :: L, k, j, v, x, z, h => by
    rw [gFind] at h
    by_cases e : k' = k
    · rw [if_pos e] at h; cases h
    · rw [if_neg e] at h
      have e2 : ¬ Ky.s k' = Ky.s k := fun h => e (by injection h)
      obtain ⟨a1, a2, a3⟩ := gl_none (j + 1) v x z (Option.map_eq_none_iff.1 h)
      rw [glE, mget_c, mput_c, addG, if_neg e2, if_neg e2, if_neg e]
      exact ⟨a1, by rw [a2]; rfl, by rw [a3]; rfl⟩
/-- A row has grown. -/
theorem gH_old {L : Assoc (List Int)} {k : List UInt8} {i : Nat} {l : List Int} {m : Nat} (v : Int) (h : gFind L k = some (i, l)) (hm : m < 500) :
    mget (glE 0 L) (.s k) .nils = .own (i + 500) l.length ∧ mput (glE 0 L) (.s k) (.own (i + 500) (l.length + 1)) = glE 0 (addG L k v) ∧ gH m L (i + 500) = some (.arr 3 1 (ints l)) ∧
      ∀ f : Nat → Option Ob, f m = some (.mp (glE 0 (addG L k v))) → f (i + 500) = some (.arr 3 1 (ints (l ++ [v]))) → (∀ n, n ≠ m → n ≠ i + 500 → f n = gH m L n) → f = gH m (addG L k v) := by
  obtain ⟨a1, a2, a3, a4⟩ := gl_old 0 v .nils h
  rw [Nat.zero_add] at a1 a2 a3 a4
  refine ⟨a1, a2, ?_, fun f h1 h2 h3 => ?_⟩
  · unfold gH glO; rw [mkH, if_neg (by omega)]; exact a3
  · funext n
    by_cases e1 : n = m
    · subst e1; rw [h1, gH_m]
    · by_cases e2 : n = i + 500
      · subst e2; rw [h2]; unfold gH glO; rw [mkH, if_neg e1, a4, if_pos rfl]
      · rw [h3 n e1 e2]; unfold gH glO; rw [mkH, mkH, if_neg e1, if_neg e1, a4, if_neg e2]
theorem glR_snoc : ∀ (L : Assoc (List Int)) (j : Nat) (k : List UInt8) (l : List Int), glR j (L ++ [(k, l)]) = glR j L ++ [(j + L.length + 500, .arr 3 1 (ints l))]
  | [], j, k, l => rfl
  | (k', l') :: L, j, k, l => by
    rw [List.cons_append, glR, glR, glR_snoc L (j + 1) k l]
    simp only [List.cons_append, List.length_cons]
    rw [show j + 1 + L.length + 500 = j + (L.length + 1) + 500 by omega]
theorem glE_snoc : ∀ (L : Assoc (List Int)) (j : Nat) (k : List UInt8) (l : List Int), glE j (L ++ [(k, l)]) = glE j L ++ [(.s k, .own (j + L.length + 500) l.length)]
  | [], j, k, l => rfl
  | (k', l') :: L, j, k, l => by
    rw [List.cons_append, glE, glE, glE_snoc L (j + 1) k l]
    simp only [List.cons_append, List.length_cons]
    rw [show j + 1 + L.length + 500 = j + (L.length + 1) + 500 by omega]
theorem glR_mem : ∀ {L : Assoc (List Int)} {j : Nat} {q : Nat × Ob}, q ∈ glR j L → ∃ i l, i < L.length ∧ q = (j + i + 500, .arr 3 1 (ints l))
  | [], _, _, h => by cases h
  | (k, l) :: L, j, q, h => by
    rcases List.mem_cons.1 h with rfl | h
    · exact ⟨0, l, by simp, rfl⟩
    · obtain ⟨i, l, h1, h2⟩ := glR_mem h
      exact ⟨i + 1, l, by simp; omega, by rw [h2]; congr 1; omega⟩
theorem glE_mem : ∀ {L : Assoc (List Int)} {j : Nat} {q : Ky × V}, q ∈ glE j L → ∃ i l, i < L.length ∧ q.2 = .own (j + i + 500) l
  | [], _, _, h => by cases h
  | (k, l) :: L, j, q, h => by
    rcases List.mem_cons.1 h with rfl | h
    · exact ⟨0, l.length, by simp, rfl⟩
    · obtain ⟨i, l, h1, h2⟩ := glE_mem h
      exact ⟨i + 1, l, by simp; omega, by rw [h2]; congr 1; omega⟩
theorem glR_dom : ∀ {L : Assoc (List Int)} {j i : Nat}, i < L.length → (j + i + 500) ∈ (glR j L).map (·.1)
  | (k, l) :: L, j, 0, _ => List.mem_cons_self ..
  | (k, l) :: L, j, i + 1, h => List.mem_cons_of_mem _ (by have := glR_dom (L := L) (j := j + 1) (i := i) (by simp at h; omega); rwa [show j + (i + 1) + 500 = j + 1 + i + 500 by omega])
/-- The state with fewer slots. -/
theorem Le.slots {s : St} (l : List (Nat × V)) (h : ∀ p ∈ l, s.e p.1 = p.2) : Le s ⟨mkE l, s.h⟩ := by
  intro U C a w M ι hg
  refine ⟨M, ι, hg.mem, fun t => ?_, hg.dfr, hg.num⟩
  rcases mkE_mem (l := l) (t := t) with e | e
  · show Rel _ _ _ _ (mkE l t) _
    rw [e]; exact .pur (.any _)
  · have h1 : s.e t = mkE l t := h _ e
    show Rel _ _ _ _ (mkE l t) _
    rw [← h1]; exact hg.env t
theorem ren_id {σ : Nat → Nat} {f : List (Ky × V)} (h : ∀ p ∈ f, p.2.ren σ = p.2) : f.map (fun p => (p.1, p.2.ren σ)) = f := by
  conv => rhs; rw [← List.map_id f]
  exact List.map_congr_left fun p hp => by rw [h p hp]; rfl
theorem mkH_snoc (l : List (Nat × Ob)) (n : Nat) (o : Ob) (u : Nat) : mkH (l ++ [(n, o)]) u = match mkH l u with | some x => some x | none => if u = n then some o else none := by
  induction l with
  | nil => simp [mkH]
  | cons p l ih =>
    obtain ⟨a, x⟩ := p
    rw [List.cons_append, mkH, mkH]
    split
    · rfl
    · exact ih
mutual
theorem V.ren_id : ∀ v : V, v.ren (fun n => n) = v
  | .ptr _ _ | .eptr _ _ _ _ | .own _ _ | .iown _ _ _ | .vw _ _ _ _ _ | .map _ | .any | .bool _ | .int _ _ | .str _ | .nils | .nilp | .nilm | .pin _ | .fmap _ | .list _ _ | .row _ _ => by simp only [V.ren]
  | .agg vs | .tup vs | .fn _ vs => by simp only [V.ren]; rw [V.rens_id vs]
  | .when _ v => by simp only [V.ren]; rw [V.ren_id v]
theorem V.rens_id : ∀ vs : List V, V.rens (fun n => n) vs = vs
  | [] => by simp only [V.rens]
  | v :: vs => by simp only [V.rens]; rw [V.ren_id v, V.rens_id vs]
end
theorem Ob.ren_id (o : Ob) : o.ren (fun n => n) = o := by
  cases o with
  | box t c => simp only [Ob.ren]; rw [V.rens_id]
  | arr t sz r => rfl
  | mp es =>
    simp only [Ob.ren, V.ren_id]
    congr 1
    exact List.map_id _
/-- The state with fewer slots and fewer objects. -/
theorem Le.dropH {e : Nat → V} {h : Nat → Option Ob} (l : List (Nat × V)) (hl : List (Nat × Ob)) (he : ∀ p ∈ l, e p.1 = p.2 ∧ p.2.nin (hl.map (·.1)) = true) (hh : ∀ n o, mkH hl n = some o → h n = some o) (ho : ∀ q ∈ hl, q.2.nin (hl.map (·.1))) : Le ⟨e, h⟩ ⟨mkE l, mkH hl⟩ := by
  intro U C a w M ι hg
  have hm := hg.mem
  dsimp only at hm
  have eq : ∀ n ∈ hl.map (·.1), ∀ o, h n = some o → mkH hl n = some o := fun n hn o h1 => by
    obtain ⟨o', h2⟩ := Option.isSome_iff_exists.1 (mkH_dom hn)
    have := hh n o' h2
    rw [h1] at this; injection this with this; rw [this]; exact h2
  have hR : Ren (hl.map (·.1)) (fun n => n) ι h ι (mkH hl) := ⟨fun _ _ => rfl, fun n hn t c h1 => ⟨c, eq n hn _ h1⟩, fun n hn t sz r h1 => eq n hn _ h1, fun n hn es h1 => ⟨es, eq n hn _ h1⟩⟩
  have sm : ∀ {n}, (mkH hl n).isSome = true → (h n).isSome = true := fun {n} h1 => by
    obtain ⟨o, h2⟩ := Option.isSome_iff_exists.1 h1
    rw [hh n o h2]; rfl
  refine ⟨M, ι, ⟨fun n o h1 => ?_, fun n m b h1 h2 => hm.dis n m b (sm h1) (sm h2), fun n b h1 => hm.imm n b (sm h1), hm.lt, fun n b h1 => hm.may n b (sm h1), hm.size, hm.keep, hm.os, hm.tape, hm.output, hm.base, hm.tb, hm.tm, hm.old, fun n t sz r0 t' sz' rows hn h0 h1 => hm.arr0 n t sz r0 t' sz' rows hn h0 (hh _ _ h1), fun n hn => ⟨fun t c h1 => (hm.pin n hn).1 t c (hh _ _ h1), fun es h1 => (hm.pin n hn).2 es (hh _ _ h1)⟩⟩, fun t => ?_, hg.dfr, hg.num⟩
  · replace h1 : mkH hl n = some o := h1
    have := (hm.obj n o (hh n o h1)).ren (fun _ h => h) hR (mkH_in (show (mkH hl n).isSome = true by rw [h1]; rfl)) (ho _ (mkH_mem h1))
    rwa [Ob.ren_id] at this
  · rcases mkE_mem (l := l) (t := t) with e1 | e1
    · show Rel _ _ _ _ (mkE l t) _
      rw [e1]; exact .pur (.any _)
    · obtain ⟨h1, h2⟩ := he _ e1
      dsimp only at h1 h2
      have r := hg.env t
      dsimp only at r
      rw [h1] at r
      have := r.ren (fun _ h => h) hR h2
      rw [V.ren_id] at this
      exact this
theorem gl_nin {L : Assoc (List Int)} {m : Nat} : ∀ q ∈ glO m L, q.2.nin ((glO m L).map (·.1)) := by
  intro q hq
  rcases List.mem_cons.1 hq with rfl | hq
  · intro p hp
    obtain ⟨i, ll, hi, hx⟩ := glE_mem hp
    rw [hx]
    simp only [V.nin, List.contains_iff_mem, glO, List.map_cons]
    exact List.mem_cons_of_mem _ (glR_dom hi)
  · obtain ⟨i, l, hi, rfl⟩ := glR_mem hq
    exact ints_pur _
/-- A row that was there has grown. -/
theorem Le.glold {e : Nat → V} {h : Nat → Option Ob} (m : Nat) (L : Assoc (List Int)) (k : List UInt8) (v : Int) {i : Nat} {ls : List Int} (l : List (Nat × V)) (hm : m < 500) (hk : gFind L k = some (i, ls))
    (he : ∀ p ∈ l, e p.1 = p.2 ∧ ((∀ D, p.2.nin D = true) ∨ p.2 = .map m)) (h1 : h m = some (.mp (glE 0 (addG L k v)))) (h2 : h (i + 500) = some (.arr 3 1 (ints (ls ++ [v])))) (h3 : ∀ n, 500 ≤ n → n ≠ i + 500 → h n = gH m L n) : Le ⟨e, h⟩ ⟨mkE l, gH m (addG L k v)⟩ := by
  obtain ⟨_, _, _, a4⟩ := gl_old 0 v .nils hk
  rw [Nat.zero_add] at a4
  refine Le.dropH l (glO m (addG L k v)) (fun p hp => ⟨(he p hp).1, ?_⟩) (fun n o hn => ?_) gl_nin
  · rcases (he p hp).2 with h | h
    · exact h _
    · rw [h]; simp [V.nin, glO]
  · unfold glO at hn
    rw [mkH] at hn
    by_cases e1 : n = m
    · subst e1; rw [if_pos rfl] at hn; rw [h1]; exact hn
    · rw [if_neg e1, a4] at hn
      by_cases e2 : n = i + 500
      · subst e2; rw [if_pos rfl] at hn; rw [h2]; exact hn
      · rw [if_neg e2] at hn
        have h5 : 500 ≤ n := by
          rcases Nat.lt_or_ge n 500 with h6 | h6
          · rw [glR_lo L 0 n (by omega)] at hn; cases hn
          · exact h6
        rw [h3 n h5 e2]; unfold gH glO; rw [mkH, if_neg e1]; exact hn
/-- A new row, made under the name d, gets its name. -/
theorem Le.glnew {e : Nat → V} {h : Nat → Option Ob} (m d : Nat) (L : Assoc (List Int)) (k : List UInt8) (v : Int) (l : List (Nat × V)) (hm : m < 500) (hd : d < 500) (hmd : m ≠ d) (hL : L.length ≤ 400) (hk : gFind L k = none)
    (he : ∀ p ∈ l, e p.1 = p.2 ∧ (((∀ σ, p.2.ren σ = p.2) ∧ ∀ D, p.2.nin D = true) ∨ p.2 = .map m)) (h1 : h m = some (.mp (glE 0 L ++ [(.s k, .own d 1)]))) (h2 : h d = some (.arr 3 1 (ints [v]))) (h3 : ∀ n, 500 ≤ n → h n = gH m L n) : Le ⟨e, h⟩ ⟨mkE l, gH m (addG L k v)⟩ := by
  obtain ⟨_, _, hadd⟩ := gl_none (L := L) (k := k) 0 v .any .any hk
  rw [hadd]
  refine Le.trans (Le.dropH l ((m, .mp (glE 0 L ++ [(.s k, .own d 1)])) :: (d, .arr 3 1 (ints [v])) :: glR 0 L) (fun p hp => ⟨(he p hp).1, ?_⟩) (fun n o hn => ?_) ?_) ?_
  · rcases (he p hp).2 with h | h
    · exact h.2 _
    · rw [h]; simp [V.nin]
  · rw [mkH, mkH] at hn
    by_cases e1 : n = m
    · subst e1; rw [if_pos rfl] at hn; rw [h1]; exact hn
    · by_cases e2 : n = d
      · subst e2; rw [if_neg e1, if_pos rfl] at hn; rw [h2]; exact hn
      · rw [if_neg e1, if_neg e2] at hn
        have h5 : 500 ≤ n := by
          rcases Nat.lt_or_ge n 500 with h6 | h6
          · rw [glR_lo L 0 n (by omega)] at hn; cases hn
          · exact h6
        rw [h3 n h5]; unfold gH glO; rw [mkH, if_neg e1]; exact hn
  · intro q hq
    rcases List.mem_cons.1 hq with rfl | hq
    · intro p hp
      rcases List.mem_append.1 hp with hp | hp
      · obtain ⟨i, ll, hi, hx⟩ := glE_mem hp
        rw [hx]
        simp only [V.nin, List.contains_iff_mem, List.map_cons]
        exact List.mem_cons_of_mem _ (List.mem_cons_of_mem _ (glR_dom hi))
      · obtain rfl := List.mem_singleton.1 hp
        simp [V.nin]
    · rcases List.mem_cons.1 hq with rfl | hq
      · exact ints_pur _
      · obtain ⟨i, l, hi, rfl⟩ := glR_mem hq
        exact ints_pur _
  have hdom : ∀ i, i < L.length → (i + 500) ∈ (glR 0 L).map (·.1) := fun i hi => by have := glR_dom (L := L) (j := 0) hi; rwa [Nat.zero_add] at this
  have hr := Le.ren (fun n => if n = d then L.length + 500 else n) (fun n => if n = L.length + 500 then d else n) l ((m, .mp (glE 0 L ++ [(.s k, .own d 1)])) :: (d, .arr 3 1 (ints [v])) :: glR 0 L) ?_ ?_ ?_ ?_
  · have hσ : ∀ i, i ≤ L.length → (if i + 500 = d then L.length + 500 else i + 500) = i + 500 := fun i hi => if_neg (by omega)
    have ee : l.map (fun p => (p.1, p.2.ren fun n => if n = d then L.length + 500 else n)) = l := by
      conv => rhs; rw [← List.map_id l]
      refine List.map_congr_left fun p hp => ?_
      obtain ⟨_, h5 | h5⟩ := he p hp
      · rw [h5.1]; rfl
      · show (p.1, p.2.ren _) = p
        obtain ⟨a, x⟩ := p
        dsimp only at h5 ⊢
        subst h5
        simp only [V.ren]
        rw [if_neg hmd]
    rw [ee] at hr
    have eh : mkH (((m, Ob.mp (glE 0 L ++ [(.s k, .own d 1)])) :: (d, .arr 3 1 (ints [v])) :: glR 0 L).map fun q => ((fun n => if n = d then L.length + 500 else n) q.1, q.2.ren fun n => if n = d then L.length + 500 else n)) = gH m (L ++ [(k, [v])]) := by
      have er : (glR 0 L).map (fun q => ((fun n => if n = d then L.length + 500 else n) q.1, q.2.ren fun n => if n = d then L.length + 500 else n)) = glR 0 L := by
        conv => rhs; rw [← List.map_id (glR 0 L)]
        refine List.map_congr_left fun q hq => ?_
        obtain ⟨i, l, hi, rfl⟩ := glR_mem hq
        simp only [Ob.ren, id, Nat.zero_add]
        rw [if_neg (by omega)]
      rw [List.map_cons, List.map_cons, er]
      funext n
      unfold gH glO
      rw [glR_snoc, glE_snoc]
      simp only [mkH, Ob.ren, if_neg hmd, if_true, List.map_append, List.map_cons, List.map_nil, V.ren, Nat.zero_add, List.length_cons, List.length_nil]
      rw [ren_id (f := glE 0 L) fun p hp => by obtain ⟨i, ll, hi, hx⟩ := glE_mem hp; rw [hx]; simp only [V.ren, Nat.zero_add]; rw [if_neg (by omega)]]
      by_cases e1 : n = m
      · rw [if_pos e1, if_pos e1]
      · rw [if_neg e1, if_neg e1, mkH_snoc]
        by_cases e2 : n = L.length + 500
        · rw [if_pos e2, if_pos e2]
          have hno : mkH (glR 0 L) n = none := by
            cases hx : mkH (glR 0 L) n with
            | none => rfl
            | some o =>
              obtain ⟨i, l, hi, he⟩ := glR_mem (mkH_mem hx)
              injection he with he _
              omega
          rw [hno]
        · rw [if_neg e2, if_neg e2]
          cases mkH (glR 0 L) n <;> rfl
    rw [eh] at hr
    exact hr
  · intro q hq
    try dsimp only
    rcases List.mem_cons.1 hq with rfl | hq
    · dsimp only; rw [if_neg hmd, if_neg (by omega)]
    · rcases List.mem_cons.1 hq with rfl | hq
      · dsimp only; rw [if_pos rfl, if_pos rfl]
      · obtain ⟨i, l, hi, rfl⟩ := glR_mem hq
        dsimp only; rw [if_neg (show ¬ (0 + i + 500 = d) by omega), if_neg (by omega)]
  · intro q hq
    try dsimp only
    rcases List.mem_cons.1 hq with rfl | hq
    · dsimp only; intro _; rw [if_neg hmd]
    · rcases List.mem_cons.1 hq with rfl | hq
      · dsimp only; rw [if_pos rfl]; omega
      · obtain ⟨i, l, hi, rfl⟩ := glR_mem hq
        dsimp only; intro _; rw [if_neg (by omega)]
  · intro p hp
    obtain ⟨_, h5 | h5⟩ := he p hp
    · exact h5.2 _
    · rw [h5]; simp [V.nin]
  · intro q hq
    rcases List.mem_cons.1 hq with rfl | hq
    · intro p hp
      rcases List.mem_append.1 hp with hp | hp
      · obtain ⟨i, ll, hi, hx⟩ := glE_mem hp
        rw [hx]
        simp only [V.nin, List.contains_iff_mem, List.map_cons]
        exact List.mem_cons_of_mem _ (List.mem_cons_of_mem _ (by rw [Nat.zero_add]; exact hdom i hi))
      · obtain rfl := List.mem_singleton.1 hp
        simp [V.nin]
    · rcases List.mem_cons.1 hq with rfl | hq
      · exact ints_pur _
      · obtain ⟨i, l, hi, rfl⟩ := glR_mem hq
        exact ints_pur _
def glF (L : Assoc (List Int)) : List (Ky × V) := kmap (fun l => .list (ints l) false) L
theorem glE_at : ∀ {L : Assoc (List Int)} {j i : Nat} {kv : Ky × V}, (glE j L)[i]? = some kv → ∃ l, kv.2 = .own (j + i + 500) l.length ∧ (glF L)[i]? = some (kv.1, .list (ints l) false) ∧ mkH (glR j L) (j + i + 500) = some (.arr 3 1 (ints l))
  | [], _, _, _, h => by simp [glE] at h
  | (k, l) :: L, j, 0, kv, h => by
    rw [glE, List.getElem?_cons_zero] at h
    injection h with h
    subst h
    exact ⟨l, rfl, rfl, by rw [glR, mkH, if_pos (by omega)]⟩
  | (k, l) :: L, j, i + 1, kv, h => by
    rw [glE, List.getElem?_cons_succ] at h
    obtain ⟨l2, h1, h2, h3⟩ := glE_at h
    rw [show j + 1 + i + 500 = j + (i + 1) + 500 by omega] at h1 h3
    exact ⟨l2, h1, h2, by rw [glR, mkH, if_neg (by omega)]; exact h3⟩
theorem glE_len : ∀ (L : Assoc (List Int)) (j : Nat), (glE j L).length = L.length
  | [], _ => rfl
  | (k, l) :: L, j => by rw [glE, List.length_cons, List.length_cons, glE_len L (j + 1)]
theorem glE_keys : ∀ (L : Assoc (List Int)) (j : Nat), (glE j L).map (·.1) = L.map fun p => Ky.s p.1
  | [], _ => rfl
  | (k, l) :: L, j => by rw [glE, List.map_cons, List.map_cons, glE_keys L (j + 1)]
def glC (h : Nat → Option Ob) (kv : Ky × V) : Ky × V := (kv.1, match kv.2 with
  | .own n _ => match h n with
    | some (.arr _ _ rows) => .list rows false
    | _ => .any
  | v => v)
theorem glC_map (m : Nat) (L : Assoc (List Int)) (hm : m < 500) : (glE 0 L).map (glC (gH m L)) = glF L := by
  refine List.ext_getElem? fun i => ?_
  rw [List.getElem?_map]
  cases h : (glE 0 L)[i]? with
  | none =>
    have h1 := List.getElem?_eq_none_iff.1 h
    rw [glE_len] at h1
    exact (List.getElem?_eq_none (by unfold glF kmap; rw [List.length_map]; exact h1)).symm
  | some kv =>
    obtain ⟨l, h1, h2, h3⟩ := glE_at h
    rw [h2]
    have hg : gH m L (0 + i + 500) = some (.arr 3 1 (ints l)) := by unfold gH glO; rw [mkH, if_neg (by omega)]; exact h3
    simp only [Option.map_some, glC, h1, hg]
/-- The map and its rows are frozen. -/
theorem Le.glfrz {e : Nat → V} (m : Nat) (L : Assoc (List Int)) (l : List (Nat × V)) (hm : m < 500) (he : ∀ p ∈ l, (e p.1 = p.2 ∧ p.2.pur = true) ∨ (e p.1 = .map m ∧ p.2 = .fmap (glF L))) : Le ⟨e, gH m L⟩ ⟨mkE l, mkH []⟩ := by
  intro U C a w M ι hg
  have hM := hg.mem
  dsimp only at hM
  have blt : ∀ n o b, gH m L n = some o → blk (ι n) = some b → b < w.heap.size := fun n o b h hb => hM.blt n b (by rw [h]; rfl) hb
  refine ⟨fun b => M b ∨ ∃ n o, gH m L n = some o ∧ blk (ι n) = some b, ι, ⟨fun n o h => (by cases h), fun n m b h => (by cases h), fun n b h => (by cases h), fun b hb => ?_, fun n b h => (by cases h), hM.size, hM.keep, hM.os, hM.tape, hM.output, fun b hb => .inl (hM.base b hb), hM.tb, fun b hb => .inl (hM.tm b hb), fun b hb h => ?_, fun n t sz r0 t' sz' rows _ _ h => (by cases h), fun n hn => ⟨fun t c h => (by cases h), fun es h => (by cases h)⟩⟩, fun t => ?_, hg.dfr, hg.num⟩
  · rcases hb with hb | ⟨n, o, h1, h2⟩
    · exact hM.lt b hb
    · exact blt n o b h1 h2
  · rcases h with h | ⟨n, o, h1, h2⟩
    · exact hM.old b hb h
    · exact .inr ((hM.may n b (by rw [h1]; rfl) h2).resolve_right (by omega))
  · rcases mkE_mem (l := l) (t := t) with e1 | e1
    · show Rel _ _ _ _ (mkE l t) _
      rw [e1]; exact .pur (.any _)
    · have r := hg.env t
      dsimp only at r
      show Rel _ _ _ _ (mkE l t) _
      rcases he _ e1 with ⟨h1, h2⟩ | ⟨h1, h2⟩
      · dsimp only at h1 h2
        rw [h1] at r
        exact .pur ((r.toPur h2).wide fun _ h => .inl h)
      · dsimp only at h1 h2
        rw [h2]
        rw [h1] at r
        obtain ⟨es2, hn2, hcv⟩ := r.map_inv
        rw [gH_m] at hn2
        injection hn2 with hn2; injection hn2 with hn2
        subst hn2
        obtain ⟨b, ents, clock, eb, hh, es0, hs, hv⟩ := hM.obj m _ (gH_m m L)
        rw [hcv, eb]
        have at' : ∀ (i : Nat) (kv : Ky × V), (es0.map (glC (gH m L)))[i]? = some kv → ∃ kv0 en, es0[i]? = some kv0 ∧ kv = glC (gH m L) kv0 ∧ ents[i]? = some en ∧ ents.getD i default = en ∧ KyRel kv0.1 en.key ∧ Rel M w ι (gH m L) kv0.2 en.val := by
          intro i kv hi
          rw [List.getElem?_map] at hi
          obtain ⟨kv0, h3, h4⟩ := Option.map_eq_some_iff.1 hi
          obtain ⟨en, h5, h6, h7⟩ := hv i kv0 h3
          exact ⟨kv0, en, h3, h4.symm, h5, by rw [Array.getD_eq_getD_getElem?, h5]; rfl, h6, h7⟩
        refine .pur (.fmap (glF L) (es0.map (glC (gH m L))) b ents clock (fun i => ents.getD i default) (.inr ⟨m, _, gH_m m L, by rw [eb]; rfl⟩) hh ⟨?_, by rw [List.length_map]; exact hs.len, hs.st, ?_⟩ (fun i kv hi => ?_) (fun i kv hi => ?_))
        · rw [← glC_map m L hm]; exact hs.perm.map _
        · have := hs.nd
          rw [glE_keys] at this
          unfold glF kmap
          rw [List.map_map]; exact this
        · obtain ⟨kv0, en, h3, h4, h5, h6, h7, h8⟩ := at' i kv hi
          rw [h6, h4]; exact ⟨h5, h7⟩
        · obtain ⟨kv0, en, h3, h4, h5, h6, h7, h8⟩ := at' i kv hi
          rw [h6, h4]
          obtain ⟨j, hj⟩ := List.mem_iff_getElem?.1 (hs.perm.mem_iff.1 (List.mem_of_getElem? h3))
          obtain ⟨ll, k1, k2, k3⟩ := glE_at hj
          have hgr : gH m L (0 + j + 500) = some (.arr 3 1 (ints ll)) := by unfold gH glO; rw [mkH, if_neg (by omega)]; exact k3
          rw [k1] at h8
          obtain ⟨t2, sz2, rows2, hn2, _, hval⟩ := h8.own_inv
          rw [hgr] at hn2
          injection hn2 with hn2; injection hn2 with q1 q2 q3
          subst q1 q2 q3
          rw [hval (by rw [ints_len])]
          have : (glC (gH m L) kv0).2 = .list (ints ll) false := by unfold glC; simp only [k1, hgr]
          rw [this]
          exact hM.own_list hgr (ints_pur _) (fun _ h => .inl h) (fun b hb => .inr ⟨_, _, hgr, hb⟩)
end Go.Proofs.YtkdkjbneohdofaaDoor
