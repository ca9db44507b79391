/- Split: what it computes; slices whatever their capacity. -/
import Derived.Test.YtbakkdnhbeldcaaDoorPa5
namespace Go.Proofs.YtbakkdnhbeldcaaDoor
open Go Go.RowKit
set_option linter.unusedSimpArgs false
set_option linter.unusedVariables false
set_option linter.deprecated false
/-! A nil slice, and one whose capacity ends with it, read as any other. -/
def V.nrm : V → V
  | .nils => .list [] false
  | .list rows _ => .list rows false
  | v => v
theorem pur_nrm {M : Nat → Prop} {w : World} {v : V} {cv : Value} (h : Pur M w v cv) : Pur M w v.nrm cv := by
  cases h with
  | nils => exact .list [] false none 0 0 0 0 (fun _ _ => undef) (fun e => (by cases e)) (Nat.le_refl _) (fun _ => rfl) (.inl rfl) (fun r hr => by simp at hr) (fun i j hi _ => (by simp at hi)) (fun i j r v hi => by simp at hi)
  | list rows fit a cap sz g off f hf hcap hn ha hr hc hv => exact .list rows false a cap sz g off f (fun e => (by cases e)) hcap hn ha hr hc hv
  | any cv => exact .any cv
  | bool b => exact .bool b
  | int k n => exact .int k n
  | str s => exact .str s
  | nilp => exact .nilp
  | nilm => exact .nilm
  | agg vs cs hl ho hv => exact .agg vs cs hl ho hv
  | tup vs cs hl hv => exact .tup vs cs hl hv
  | row vs off g o f hg hc hv => exact .row vs off g o f hg hc hv
  | fn n vs cs hl hv => exact .fn n vs cs hl hv
  | when b v cv ht hf => exact .when b v cv ht hf
def gNrm (G : List V → Prop × V) (vs : List V) : Prop × V := G (vs.map V.nrm)
theorem PureC.nrm {P : Program} {U : Tbl} {f : Nat} {G : List V → Prop × V} (h : PureC P U f G) : PureC P U f (gNrm G) := by
  intro vs M w cargs hv
  obtain ⟨h1, h2⟩ := h (vs.map V.nrm) M w cargs hv
  refine ⟨h1, fun a1 a2 a3 a4 a5 => h2 a1 a2 (by rw [List.length_map]; exact a3) a4 fun i v hi => ?_⟩
  rw [List.getElem?_map] at hi
  obtain ⟨u, hu, rfl⟩ := Option.map_eq_some_iff.1 hi
  exact pur_nrm (a5 i u hu)
/-! The plain function. -/
def badAt (n : Nat) (x : Int) : Bool := decide (x < 0) || decide ((n : Int) ≤ x)
def inA (at' : List Int) (i : Nat) : Bool := at'.any fun x => decide (x = (i : Int))
def dupTo (at' : List Int) : Nat → Bool
  | 0 => false
  | i + 1 => dupTo at' i || inA (at'.take i) (at'.getD i 0).toNat
def selTo (p : Nat → Bool) (l : List Person) : Nat → List Person
  | 0 => []
  | i + 1 => selTo p l i ++ (if p i = true then [l.getD i Person.zero] else [])
def selA (at' : List Int) (l : List Person) : List Person := selTo (inA at') l l.length
def selB (at' : List Int) (l : List Person) : List Person := selTo (fun i => !inA at' i) l l.length
def splitP (l : List Person) (at' : List Int) : List Person × List Person × Int :=
  if at'.any (badAt l.length) = true then ([], [], 7) else if dupTo at' at'.length = true then ([], [], 6) else if at'.length = 0 then ([], [], 2) else if (aloneB (selA at' l) || aloneB (selB at' l)) = true then ([], [], 25) else (selA at' l, selB at' l, 0)
theorem inA_snoc {at' : List Int} {i : Nat} (h : i < at'.length) (h0 : 0 ≤ at'[i]) (j : Nat) : inA (at'.take (i + 1)) j = (inA (at'.take i) j || decide (j = (at'[i]).toNat)) := by
  unfold inA
  rw [take_succ' h, List.any_append]
  congr 1
  simp only [List.any_cons, List.any_nil, Bool.or_false]
  exact decide_eq_decide.2 (by omega)
/-- How many of the first numbers have a property. -/
def cn (f : Nat → Bool) : Nat → Nat
  | 0 => 0
  | n + 1 => cn f n + (if f n = true then 1 else 0)
theorem sel_len (p l) : ∀ i, (selTo p l i).length = cn p i
  | 0 => rfl
  | i + 1 => by rw [selTo, List.length_append, sel_len p l i, cn]; split <;> rfl
theorem cn_le (f) : ∀ n, cn f n ≤ n
  | 0 => Nat.le_refl _
  | n + 1 => by rw [cn]; have := cn_le f n; split <;> omega
theorem cn_mono (f) {i n : Nat} (h : i ≤ n) : cn f i ≤ cn f n := by
  induction n with
  | zero => rw [show i = 0 by omega]; exact Nat.le_refl _
  | succ n ih =>
    by_cases e : i = n + 1
    · rw [e]; exact Nat.le_refl _
    · have := ih (by omega); rw [cn]; omega
theorem cn_not (f : Nat → Bool) : ∀ n, cn f n + cn (fun i => !f i) n = n
  | 0 => rfl
  | n + 1 => by
    have := cn_not f n
    rw [cn, cn]
    cases f n <;> simp <;> omega
theorem cn_lt (f : Nat → Bool) {i n : Nat} (h : i < n) (hf : f i = true) : cn f i < cn f n := by
  have := cn_mono f (show i + 1 ≤ n by omega)
  rw [cn, if_pos hf] at this; omega
theorem cn_add (f g : Nat → Bool) (k : Nat) (hg : ∀ j, g j = (f j || decide (j = k))) : ∀ n, cn g n = cn f n + (if k < n ∧ f k = false then 1 else 0)
  | 0 => by rw [if_neg (by omega)]; rfl
  | n + 1 => by
    have ih := cn_add f g k hg n
    have hgn := hg n
    by_cases e : n = k
    · subst e
      rw [decide_eq_true rfl, Bool.or_true] at hgn
      rw [if_neg (show ¬ (n < n ∧ f n = false) from fun h => absurd h.1 (by omega))] at ih
      rw [cn, cn, hgn, ih]
      cases h : f n <;> simp
    · rw [decide_eq_false e, Bool.or_false] at hgn
      have h2 : (k < n + 1 ∧ f k = false) ↔ (k < n ∧ f k = false) := ⟨fun h => ⟨by omega, h.2⟩, fun h => ⟨by omega, h.2⟩⟩
      rw [cn, cn, hgn, ih, show (if k < n + 1 ∧ f k = false then 1 else 0) = (if k < n ∧ f k = false then 1 else 0) from by simp only [h2]]
      omega
theorem cn_zero : ∀ n, cn (fun _ => false) n = 0
  | 0 => rfl
  | n + 1 => by rw [cn, cn_zero n]; rfl
/-- If none is named twice, so many are chosen. -/
theorem cn_in {at' : List Int} {n : Nat} (hv : ∀ x ∈ at', badAt n x = false) : ∀ i, i ≤ at'.length → dupTo at' i = false → cn (inA (at'.take i)) n = i
  | 0, _, _ => by rw [List.take_zero]; exact cn_zero n
  | i + 1, hi, hd => by
    rw [dupTo, Bool.or_eq_false_iff, getD_lt _ _ _ (by omega : i < at'.length)] at hd
    have hb := hv _ (List.getElem_mem (by omega : i < at'.length))
    unfold badAt at hb
    simp only [Bool.or_eq_false_iff, decide_eq_false_iff_not] at hb
    rw [cn_add _ _ _ (inA_snoc (by omega) (by omega)) n, cn_in hv i (by omega) hd.1, if_pos ⟨by omega, hd.2⟩]
/-! The rows. -/
def bl (f : Nat → Bool) (n : Nat) : List (List V) := (List.range n).map fun k => [.bool (f k)]
theorem bl_len (f n) : (bl f n).length = n := by unfold bl; rw [List.length_map, List.length_range]
theorem bl_get (f : Nat → Bool) {n k : Nat} (h : k < n) (z : List V) : (bl f n).getD k z = [.bool (f k)] := by
  unfold bl; rw [List.getD_eq_getElem?_getD, List.getElem?_map, List.getElem?_range h]; rfl
theorem bl_oneT (f n) : (∀ r ∈ bl f n, r.length = 1) ↔ True := iff_true_intro fun r hr => by obtain ⟨k, _, rfl⟩ := List.mem_map.1 hr; rfl
theorem bl_purT (f n) : (∀ r ∈ bl f n, V.purs r = true) ↔ True := iff_true_intro fun r hr => by obtain ⟨k, _, rfl⟩ := List.mem_map.1 hr; rfl
attribute [go_sem] bl_oneT bl_purT
theorem bl_start (n : Nat) : List.replicate n [V.bool false] = bl (fun _ => false) n := by
  exact (List.eq_replicate_iff.2 ⟨bl_len _ n, fun r hr => by obtain ⟨k, _, rfl⟩ := List.mem_map.1 hr; rfl⟩).symm
theorem bl_set (f g : Nat → Bool) {n k : Nat} (hk : k < n) (hg : ∀ j, g j = (f j || decide (j = k))) : (bl f n).set k [.bool true] = bl g n := by
  unfold bl
  apply List.ext_getElem?
  intro j
  rw [List.getElem?_set]
  split
  · rename_i e; subst e
    rw [if_pos (by rw [List.length_map, List.length_range]; exact hk), List.getElem?_map, List.getElem?_range hk]
    simp [hg]
  · rename_i e
    rw [List.getElem?_map, List.getElem?_map]
    by_cases h : j < n
    · rw [List.getElem?_range h]; simp [hg j, Ne.symm e]
    · rw [List.getElem?_eq_none (by rw [List.length_range]; omega)]; rfl
/-- Both lists in one row. -/
def spR (A : List Person) (ka : Nat) (B : List Person) (kb : Nat) : List (List V) := ((A ++ List.replicate ka Person.zero) ++ (B ++ List.replicate kb Person.zero)).map Person.enc
theorem spR_len (A ka B kb) : (spR A ka B kb).length = A.length + ka + (B.length + kb) := by unfold spR; simp; omega
theorem spR_lensT (A ka B kb) : (∀ r ∈ spR A ka B kb, r.length = 3) ↔ True := Person.rows _
theorem spR_pursT (A ka B kb) : (∀ r ∈ spR A ka B kb, V.purs r = true) ↔ True := Person.purs _
attribute [go_sem] spR_lensT spR_pursT
theorem repl_one (A : List Person) (k : Nat) (hk : 0 < k) (x : Person) (R : List Person) : (A ++ List.replicate k Person.zero ++ R).take A.length ++ [x] ++ (A ++ List.replicate k Person.zero ++ R).drop (A.length + 1) = (A ++ [x]) ++ List.replicate (k - 1) Person.zero ++ R := by
  obtain ⟨k, rfl⟩ : ∃ m, k = m + 1 := ⟨k - 1, by omega⟩
  rw [List.append_assoc A, List.take_left' rfl, List.drop_append, List.replicate_succ]
  simp
theorem enc_put (X : List Person) (k : Nat) (a b c : List UInt8) : List.take k (X.map Person.enc) ++ [[V.str a, V.str b, V.str c]] ++ List.drop (k + 1) (X.map Person.enc) = (X.take k ++ [(⟨a, b, c⟩ : Person)] ++ X.drop (k + 1)).map Person.enc := by
  rw [List.map_append, List.map_append, List.map_take, List.map_drop]; rfl
theorem spR_a (A ka B kb) (hk : 0 < ka) (a b c : List UInt8) : List.take A.length (spR A ka B kb) ++ [[V.str a, V.str b, V.str c]] ++ List.drop (A.length + 1) (spR A ka B kb) = spR (A ++ [(⟨a, b, c⟩ : Person)]) (ka - 1) B kb := by
  unfold spR
  rw [enc_put, repl_one A ka hk]
theorem spR_b (A ka B kb) (hk : 0 < kb) (a b c : List UInt8) : List.take (A.length + ka + B.length) (spR A ka B kb) ++ [[V.str a, V.str b, V.str c]] ++ List.drop (A.length + ka + B.length + 1) (spR A ka B kb) = spR A ka (B ++ [(⟨a, b, c⟩ : Person)]) (kb - 1) := by
  unfold spR
  have h := repl_one (A ++ List.replicate ka Person.zero ++ B) kb hk ⟨a, b, c⟩ []
  simp only [List.append_nil] at h
  rw [show (A ++ List.replicate ka Person.zero ++ B).length = A.length + ka + B.length by rw [List.length_append, List.length_append, List.length_replicate]] at h
  rw [enc_put, ← List.append_assoc _ B, h, List.append_assoc _ B, List.append_assoc (A ++ _)]
theorem spR_start (n la : Nat) (h : la ≤ n) : List.replicate n [V.str [], V.str [], V.str []] = spR [] la [] (n - la) := by
  unfold spR
  rw [List.nil_append, List.nil_append, List.replicate_append_replicate, List.map_replicate, show la + (n - la) = n by omega]
  rfl
theorem spR_done (A B) : spR A 0 B 0 = (A ++ B).map Person.enc := by unfold spR; simp
end Go.Proofs.YtbakkdnhbeldcaaDoor
