/- What can be read as data is a value that names no object: arguments of the law, opened by their types. -/
import Derived.OpenShut
import Derived.SizedLaws
import Derived.Test.YtkdkjbneohdofaaDoorAv21
namespace Go.Proofs.YtkdkjbneohdofaaDoor
open Go Go.RowKit
set_option linter.unusedSimpArgs false
set_option linter.unusedVariables false
set_option linter.deprecated false
/-- Shapes of types that are read. -/
inductive Sh where
  | b
  | i (k : IntKind)
  | s
  | st (fs : List Sh)
  | sl (e : Sh) (bytes : Nat)
mutual
def Sh.n : Sh → Nat
  | .b | .i _ | .s | .sl _ _ => 1
  | .st fs => Sh.ns fs
def Sh.ns : List Sh → Nat
  | [] => 0
  | f :: fs => f.n + Sh.ns fs
end
mutual
def Sh.fits : Sh → List V → Prop
  | .b, vs => ∃ x, vs = [.bool x]
  | .i k, vs => ∃ x, vs = [.int k x] ∧ (Lit.int k x).wf = true
  | .s, vs => ∃ x, vs = [.str x] ∧ x.length ≤ reachBytes
  | .sl e by', vs => ∃ rows, vs = [.list rows false] ∧ rows.length * by' ≤ reachBytes ∧ ∀ r ∈ rows, e.fits r
  | .st fs, vs => Sh.fitsL fs vs
def Sh.fitsL : List Sh → List V → Prop
  | [], vs => vs = []
  | f :: fs, vs => ∃ a b, vs = a ++ b ∧ f.fits a ∧ Sh.fitsL fs b
end
def shF (P : Program) (g : TypeId → Option Sh) : Nat → List Field → Option (List Sh)
  | _, [] => some []
  | o, f :: fs => if f.offset = o then match g f.type with
    | some u => if P.cellsOf f.type = u.n then (shF P g (o + u.n) fs).map (u :: ·) else none
    | none => none
    else none
def shT (P : Program) : Nat → TypeId → Option Sh
  | 0, _ => none
  | d + 1, t => match P.underlying t with
    | some .bool => some .b
    | some (.int k) => some (.i k)
    | some .string => some .s
    | some (.slice e) => match shT P d e with
      | some u => if P.cellsOf e = u.n ∧ 0 < u.n then some (.sl u (P.bytesOf e)) else none
      | none => none
    | some (.struct fs) => match shF P (shT P d) 0 fs.toList with
      | some l => if P.cellsOf t = Sh.ns l then some (.st l) else none
      | none => none
    | some (.array n e) => match shT P d e with
      | some u => if P.cellsOf e = u.n ∧ P.cellsOf t = n * u.n then some (.st (List.replicate n u)) else none
      | none => none
    | _ => none
section
variable {H : Type} {enc : TypeId × Value → H} {P : Program} {w : World} {M : Nat → Prop}
/-- The cells cs are the values vs. -/
def CellsV (M : Nat → Prop) (w : World) (cs : List Value) (vs : List V) : Prop := vs.length = cs.length ∧ (∀ (j : Nat) (v : V), vs[j]? = some v → Pur M w v (cs.getD j undef)) ∧ ∀ c ∈ cs, c.oneCell' = true
theorem CellsV.app {c1 c2 : List Value} {v1 v2 : List V} (h1 : CellsV M w c1 v1) (h2 : CellsV M w c2 v2) : CellsV M w (c1 ++ c2) (v1 ++ v2) := by
  refine ⟨by rw [List.length_append, List.length_append, h1.1, h2.1], fun j v hj => ?_, fun c hc => (List.mem_append.1 hc).elim (h1.2.2 c) (h2.2.2 c)⟩
  have e1 := h1.1
  by_cases hlt : j < v1.length
  · rw [List.getElem?_append_left hlt] at hj
    rw [List.getD_eq_getElem?_getD, List.getElem?_append_left (by omega), ← List.getD_eq_getElem?_getD]
    exact h1.2.1 j v hj
  · rw [List.getElem?_append_right (by omega)] at hj
    rw [List.getD_eq_getElem?_getD, List.getElem?_append_right (by omega), ← List.getD_eq_getElem?_getD]
    have := h2.2.1 _ v hj
    rwa [e1] at this
theorem CellsV.one {c : Value} {v : V} (hp : Pur M w v c) (h1 : c.oneCell' = true) : CellsV M w [c] [v] := by
  refine ⟨rfl, fun j u hj => ?_, fun x hx => ?_⟩
  · cases j with
    | zero => simp only [List.getElem?_cons_zero, Option.some.injEq] at hj; subst hj; exact hp
    | succ j => simp at hj
  · rw [List.mem_singleton] at hx; subst hx; exact h1
theorem weightsAll_mem {e : TypeId} {d : DataW H} : ∀ {l : List (DataW H)}, d ∈ l → ∀ {n : Nat}, n ∈ d.weights P e → n ∈ DataW.weightsAll P e l
  | x :: l, hd, n, hn => by
    simp only [DataW.weightsAll, List.mem_append]
    rcases List.mem_cons.1 hd with rfl | hd
    · exact .inl hn
    · exact .inr (weightsAll_mem hd hn)
theorem open_cells (hM : ∀ b, b < w.heap.size → M b) : ∀ {fuel d : Nat} {t : TypeId} {cs : List Value} {x : DataW H × List MemPlace} {sh : Sh}, shT P d t = some sh → DataW.trod enc P w 0 (fun _ => true) true fuel t cs = some x → (∀ n ∈ x.1.weights P t, n ≤ reachBytes) → ∃ vs, sh.fits vs ∧ CellsV M w cs vs
  | fuel, 0, t, cs, x, sh, hs, _, _ => by simp [shT] at hs
  | fuel, d + 1, t, cs, x, sh, hs, h, hwt => by
    unfold shT at hs
    split at hs
    · rename_i ht
      injection hs with hs; subst hs
      obtain ⟨b, rfl, _⟩ := DataW.trod_bool ht h
      exact ⟨_, ⟨_, rfl⟩, .one (.bool _) rfl⟩
    · rename_i k ht
      injection hs with hs; subst hs
      obtain ⟨n, rfl, _, hw⟩ := DataW.trod_int ht h
      exact ⟨_, ⟨_, rfl, hw⟩, .one (.int _ _) rfl⟩
    · rename_i ht
      injection hs with hs; subst hs
      obtain ⟨u, rfl, rfl, _⟩ := DataW.trod_string ht h
      obtain ⟨⟨l⟩⟩ := u
      exact ⟨[.str l], ⟨_, rfl, hwt _ (by simp [DataW.weights])⟩, .one (.str l) rfl⟩
    · rename_i e ht
      split at hs
      · rename_i u hse
        split at hs
        · rename_i hc
          injection hs with hs; subst hs
          rcases DataW.trod_slice ht h with ⟨rfl, _⟩ | ⟨a, len, cap, elems, rest, n, rfl, rfl, rfl, _, hlc, hcm, helen, he, _, _⟩
          · exact ⟨[.list [] false], ⟨[], rfl, by simp, fun r hr => by cases hr⟩, .one (.list [] false none 0 0 0 0 (fun _ _ => undef) (fun e => by cases e) (Nat.le_refl _) (fun _ => rfl) (.inl rfl) (fun r hr => by cases hr) (fun i j hi _ => absurd hi (Nat.not_lt_zero _)) (fun i j r v hi => by simp at hi)) rfl⟩
          · obtain ⟨hce, hpos⟩ := hc
            simp only [DataW.weights, ht, List.length_map, List.mem_cons, List.mem_append] at hwt
            have hw0 := hwt _ (.inl rfl)
            have hwe : ∀ y ∈ elems, ∀ n ∈ y.1.weights P e, n ≤ reachBytes := fun y hy n hn => hwt n (.inr (.inl (weightsAll_mem (List.mem_map.2 ⟨y, hy, rfl⟩) hn)))
            have each : ∀ i, ∃ (ci : List Value) (vi : List V), i < len → w.cells? 0 (a.add (i * u.n)) u.n = some ci ∧ u.fits vi ∧ CellsV M w ci vi := by
              intro i
              by_cases hi : i < len
              · have h1 := he i hi
                rw [List.getElem?_eq_getElem (by omega), hce] at h1
                obtain ⟨ci, h2, h3⟩ := Option.bind_eq_some_iff.1 h1
                obtain ⟨vi, h4, h5⟩ := open_cells hM hse h3 (hwe _ (List.getElem_mem _))
                exact ⟨ci, vi, fun _ => ⟨h2, h4, h5⟩⟩
              · exact ⟨[], [], fun h => absurd h hi⟩
            obtain ⟨cf, each⟩ := Classical.skolem.1 each
            obtain ⟨vf, each⟩ := Classical.skolem.1 each
            have hrl : ((List.range len).map vf).length = len := by simp
            have hsp0 : 0 < len → a.spot = none := by
              intro h0
              obtain ⟨h1, _, _⟩ := each 0 h0
              obtain ⟨_, h4, h5⟩ := World.cells?_some h1
              have h6 := h5 0 hpos
              rw [List.getElem?_eq_getElem (by omega)] at h6
              rw [Nat.zero_mul] at h6
              have e1 : (a.add 0).add 0 = a := by simp [Addr.add]
              rw [e1] at h6
              cases hs : a.spot with
              | none => rfl
              | some q =>
                exfalso
                unfold World.cell? at h6
                split at h6
                · simp [hs] at h6
                · cases h6
            have hcell : ∀ i j, i < len → j < u.n → a.spot = none ∧ w.cell? ⟨a.block, a.off + i * u.n + j, none⟩ = some ((cf i).getD j undef) ∧ ((cf i).getD j undef).oneCell' = true := by
              intro i j hi hj
              obtain ⟨h1, _, h3⟩ := each i hi
              obtain ⟨_, h4, h5⟩ := World.cells?_some h1
              have h6 := h5 j hj
              have hlt : j < (cf i).length := by omega
              rw [List.getElem?_eq_getElem hlt] at h6
              have hd : (cf i).getD j undef = (cf i)[j] := by rw [List.getD_eq_getElem?_getD, List.getElem?_eq_getElem hlt]; rfl
              have hsp := hsp0 (by omega)
              refine ⟨hsp, ?_, ?_⟩
              · rw [hd, ← h6]
                obtain ⟨g, off, sp⟩ := a
                dsimp only at hsp
                subst hsp
                rw [addr_add, addr_add]
              · rw [hd]; exact h3.2.2 _ (List.getElem_mem hlt)
            have hrow : ∀ i r, ((List.range len).map vf)[i]? = some r → i < len ∧ r = vf i := by
              intro i r hr
              rw [List.getElem?_map] at hr
              obtain ⟨k, hk, rfl⟩ := Option.map_eq_some_iff.1 hr
              obtain ⟨hk1, hk2⟩ := List.getElem?_eq_some_iff.1 hk
              simp only [List.length_range] at hk1
              simp only [List.getElem_range] at hk2
              subst hk2
              exact ⟨hk1, rfl⟩
            have hln : ∀ i, i < len → (vf i).length = u.n := fun i hi => by
              obtain ⟨h1, _, h3⟩ := each i hi
              obtain ⟨_, h4, _⟩ := World.cells?_some h1
              rw [h3.1, h4]
            refine ⟨[.list ((List.range len).map vf) false], ⟨_, rfl, by rw [hrl, ← helen]; exact Nat.le_trans (Nat.mul_le_mul_right _ (Nat.le_add_right _ _)) hw0, fun r hr => ?_⟩, .one ?_ rfl⟩
            · obtain ⟨i, hi, rfl⟩ := List.mem_map.1 hr
              exact (each i (List.mem_range.1 hi)).2.1
            · have hp := Pur.list (M := M) (w := w) ((List.range len).map vf) false (some a) cap u.n a.block a.off (fun i j => (cf i).getD j undef) (fun e => by cases e) (by rw [hrl]; exact hlc) (fun e => by cases e) (by
                by_cases h0 : len = 0
                · left; subst h0; rfl
                · right
                  have hc0 := hcell 0 0 (by omega) hpos
                  refine ⟨by obtain ⟨_, _, _⟩ := a; simp at hc0; rw [hc0.1], hM _ ?_⟩
                  have hb := World.cells?_block (a := a.add (0 * u.n)) (each 0 (by omega)).1 hpos
                  rw [Nat.zero_mul] at hb
                  simpa [Addr.add] using hb) (fun r hr => by
                obtain ⟨i, hi, rfl⟩ := List.mem_map.1 hr
                exact hln i (List.mem_range.1 hi)) (fun i j hi hj => ?_) (fun i j r v hr hj => ?_)
              · rw [hrl] at hp; exact hp
              · rw [hrl] at hi
                exact (hcell i j hi hj).2
              · obtain ⟨hi, rfl⟩ := hrow i r hr
                exact (each i hi).2.2.2.1 j v hj
        · cases hs
      · cases hs
    · rename_i fs ht
      split at hs
      · rename_i l hl
        split at hs
        · rename_i hc
          injection hs with hs; subst hs
          obtain ⟨xs, n, rfl, rfl, hlen, hxl, hf⟩ := DataW.trod_struct ht h
          simp only [DataW.weights, ht] at hwt
          have main : ∀ (fl : List Field) (o k : Nat) (l : List Sh), (∀ i, fs.toList[k + i]? = fl[i]?) → shF P (shT P d) o fl = some l → o + Sh.ns l = cs.length → ∃ vs, Sh.fitsL l vs ∧ CellsV M w (cs.drop o) vs := by
            intro fl
            induction fl with
            | nil =>
              intro o k l _ hl hn
              simp only [shF, Option.some.injEq] at hl
              subst hl
              refine ⟨[], rfl, ?_⟩
              rw [List.drop_of_length_le (by simp only [Sh.ns] at hn; omega)]
              exact ⟨rfl, fun j v hj => by simp at hj, fun c hc => by cases hc⟩
            | cons f fl ih =>
              intro o k l hk hl hn
              unfold shF at hl
              split at hl
              · rename_i ho
                split at hl
                · rename_i u hu
                  split at hl
                  · rename_i hcu
                    obtain ⟨r, hr, rfl⟩ := Option.map_eq_some_iff.1 hl
                    simp only [Sh.ns] at hn
                    have hk0 := hk 0
                    simp only [Nat.add_zero, List.getElem?_cons_zero, Array.getElem?_toList] at hk0
                    have hfk := hf k f hk0
                    rw [ho, hcu] at hfk
                    cases hx : xs[k]? with
                    | none =>
                      have h1 := (Array.getElem?_eq_some_iff.1 hk0).1
                      have h2 := List.getElem?_eq_none_iff.1 hx
                      omega
                    | some y =>
                      rw [hx] at hfk
                      obtain ⟨v1, g1, g2⟩ := open_cells hM hu hfk (fun n hn => hwt n (DataW.weights_mem_each (j := k) (t := f.type) (d := y.1) (by rw [List.getElem?_map, Array.getElem?_toList, hk0]; rfl) (by rw [List.getElem?_map, hx]; rfl) n hn))
                      obtain ⟨v2, g3, g4⟩ := ih (o + u.n) (k + 1) r (fun i => by have := hk (i + 1); rw [List.getElem?_cons_succ] at this; rw [← this]; congr 1; omega) hr (by omega)
                      refine ⟨v1 ++ v2, ⟨v1, v2, rfl, g1, g3⟩, ?_⟩
                      have := CellsV.app g2 g4
                      rwa [← List.drop_drop, List.take_append_drop] at this
                  · cases hl
                · cases hl
              · cases hl
          obtain ⟨vs, g1, g2⟩ := main fs.toList 0 0 l (fun i => by rw [Nat.zero_add]) hl (by rw [Nat.zero_add, ← hc, hlen])
          exact ⟨vs, g1, g2⟩
        · cases hs
      · cases hs
    · rename_i n e ht
      split at hs
      · rename_i u hu
        split at hs
        · rename_i hc
          injection hs with hs; subst hs
          obtain ⟨hce, hct⟩ := hc
          obtain ⟨xs, m, rfl, rfl, hlen, hxl, hf⟩ := DataW.trod_array ht h
          simp only [DataW.weights, ht] at hwt
          have main : ∀ (j k : Nat), k + j = n → ∃ vs, Sh.fitsL (List.replicate j u) vs ∧ CellsV M w (cs.drop (k * u.n)) vs := by
            intro j
            induction j with
            | zero =>
              intro k hk
              refine ⟨[], rfl, ?_⟩
              have hk' : k = n := by omega
              rw [List.drop_of_length_le (by rw [hk', hlen, hct]; exact Nat.le_refl _)]
              exact ⟨rfl, fun j v hj => by simp at hj, fun c hc => by cases hc⟩
            | succ j ih =>
              intro k hk
              have hfk := hf k (by omega)
              rw [hce, List.getElem?_eq_getElem (by omega)] at hfk
              obtain ⟨v1, g1, g2⟩ := open_cells hM hu hfk (fun n hn => hwt n (weightsAll_mem (List.mem_map.2 ⟨_, List.getElem_mem _, rfl⟩) hn))
              obtain ⟨v2, g3, g4⟩ := ih (k + 1) (by omega)
              refine ⟨v1 ++ v2, ⟨v1, v2, rfl, g1, g3⟩, ?_⟩
              have := CellsV.app g2 g4
              rwa [Nat.add_mul, Nat.one_mul, ← List.drop_drop, List.take_append_drop] at this
          obtain ⟨vs, g1, g2⟩ := main n 0 (by omega)
          rw [Nat.zero_mul, List.drop_zero] at g2
          exact ⟨vs, g1, g2⟩
        · cases hs
      · cases hs
    · cases hs
end
end Go.Proofs.YtkdkjbneohdofaaDoor
