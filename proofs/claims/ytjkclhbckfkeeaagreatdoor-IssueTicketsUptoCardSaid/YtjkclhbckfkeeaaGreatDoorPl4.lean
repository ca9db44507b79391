import Derived.OpenShut
import Derived.SizedLaws
import Derived.Test.YtjkclhbckfkeeaaGreatDoorAv22
import Derived.Test.YtjkclhbckfkeeaaGreatDoorT1
import Derived.Test.YtjkclhbckfkeeaaGreatDoorRows
set_option linter.unusedSimpArgs false
set_option linter.unusedVariables false
set_option linter.deprecated false
set_option maxHeartbeats 2000000
namespace Go.Proofs.YtjkclhbckfkeeaaGreatDoor
open Go Go.RowKit
inductive Sh where
 | b
 | i (k : IntKind)
 | s
 | st (fs : List Sh)
 | sl (e : Sh) (bytes : Nat)
 | x (F : List V → Prop) (k : Nat)
mutual
def Sh.n : Sh → Nat
 | .b | .i _ | .s | .sl _ _ => 1
 | .st fs => Sh.ns fs
 | .x _ k => k
def Sh.ns : List Sh → Nat
 | [] => 0
 | f :: fs => f.n + Sh.ns fs
end
mutual
def Sh.fits : Sh → List V → Prop
 | .b, vs => ∃ x, vs = [.bool x]
 | .i k, vs => ∃ x, vs = [.int k x] ∧ (Lit.int k x).wf = true
 | .s, vs => ∃ x, vs = [.str x] ∧ x.length ≤ reachBytes
 | .sl e by', vs => ∃ rows, vs = [.list rows false] ∧ rows.length * by' ≤ reachBytes ∧ ∀ r ∈ rows, e.fits r
 | .st fs, vs => Sh.fitsL fs vs
 | .x F _, vs => F vs
def Sh.fitsL : List Sh → List V → Prop
 | [], vs => vs = []
 | f :: fs, vs => ∃ a b, vs = a ++ b ∧ f.fits a ∧ Sh.fitsL fs b
end
def shF (P : Program) (g : TypeId → Option Sh) : Nat → List Field → Option (List Sh)
 | _, [] => some []
 | o, f :: fs => if f.offset = o then match g f.type with
  | some u => if P.cellsOf f.type = u.n then (shF P g (o + u.n) fs).map (u :: ·) else none
  | none => none
  else none
def shB (rec : TypeId → Option Sh) (P : Program) (t : TypeId) : Option Sh :=
 match P.underlying t with
  | some .bool => some .b
  | some (.int k) => some (.i k)
  | some .string => some .s
  | some (.slice e) => match rec e with
   | some u => if P.cellsOf e = u.n ∧ 0 < u.n then some (.sl u (P.bytesOf e)) else none
   | none => none
  | some (.struct fs) => match shF P (rec) 0 fs.toList with
   | some l => if P.cellsOf t = Sh.ns l then some (.st l) else none
   | none => none
  | some (.array n e) => match rec e with
   | some u => if P.cellsOf e = u.n ∧ P.cellsOf t = n * u.n then some (.st (List.replicate n u)) else none
   | none => none
  | _ => none
def shT (P : Program) (ov : TypeId → Option Sh) : Nat → TypeId → Option Sh
 | 0, _ => none
 | d + 1, t => match ov t with
  | some u => some u
  | none => shB (shT P ov d) P t
section
variable {H : Type} {enc : TypeId × Value → H} {P : Program} {w : World} {M : Nat → Prop}
def Db (M : Nat → Prop) (w : World) (cs : List Value) (vs : List V) : Prop := vs.length = cs.length ∧ (∀ (j : Nat) (v : V), vs[j]? = some v → Pur M w v (cs.getD j undef)) ∧ ∀ c ∈ cs, c.oneCell' = true
theorem Db.app {c1 c2 : List Value} {v1 v2 : List V} (h1 : Db M w c1 v1) (h2 : Db M w c2 v2) : Db M w (c1 ++ c2) (v1 ++ v2) := by
 refine ⟨by rw [List.length_append, List.length_append, h1.1, h2.1], fun j v hj => ?_, fun c hc => (List.mem_append.1 hc).elim (h1.2.2 c) (h2.2.2 c)⟩
 have e1 := h1.1
 by_cases hlt : j < v1.length
 ·rw [List.getElem?_append_left hlt] at hj
  rw [List.getD_eq_getElem?_getD, List.getElem?_append_left (by omega), ← List.getD_eq_getElem?_getD]
  exact h1.2.1 j v hj
 ·rw [List.getElem?_append_right (by omega)] at hj
  rw [List.getD_eq_getElem?_getD, List.getElem?_append_right (by omega), ← List.getD_eq_getElem?_getD]
  have := h2.2.1 _ v hj
  rwa [e1] at this
theorem Db.one {c : Value} {v : V} (hp : Pur M w v c) (h1 : c.oneCell' = true) : Db M w [c] [v] := by
 refine ⟨rfl, fun j u hj => ?_, fun x hx => ?_⟩
 ·cases j with
  | zero => simp only [List.getElem?_cons_zero, Option.some.injEq] at hj; subst hj; exact hp
  | succ j => simp at hj
 ·rw [List.mem_singleton] at hx; subst hx; exact h1
theorem DI {e : TypeId} {d : DataW H} : ∀ {l : List (DataW H)}, d ∈ l → ∀ {n : Nat}, n ∈ d.weights P e → n ∈ DataW.weightsAll P e l
 | x :: l, hd, n, hn => by
  simp only [DataW.weightsAll, List.mem_append]
  rcases List.mem_cons.1 hd with rfl | hd
  ·exact .inl hn
  ·exact .inr (DI hd hn)
end
mutual
def V.cnt : V → Nat
 | .list rows _ => 1 + V.cntR rows
 | _ => 1
def V.cntR : List (List V) → Nat
 | [] => 0
 | r :: rs => V.cntL r + V.cntR rs
def V.cntL : List V → Nat
 | [] => 0
 | v :: vs => v.cnt + V.cntL vs
end
theorem V.cntL_app : ∀ (a b : List V), V.cntL (a ++ b) = V.cntL a + V.cntL b
 | [], b => by simp [V.cntL]
 | v :: a, b => by rw [List.cons_append, V.cntL, V.cntL, V.cntL_app a b]; omega
theorem GX {H : Type} (d : DataW H) : 1 ≤ Rows.uptoBulk d := by
 cases d with
 | lit l => cases l <;> simp [Rows.uptoBulk]
 | nil => simp [Rows.uptoBulk]
 | ptr d => simp [Rows.uptoBulk]
 | slice elems spare => simp [Rows.uptoBulk]
 | agg parts => simp [Rows.uptoBulk]
 | iface t d => simp [Rows.uptoBulk]
 | map entries => simp [Rows.uptoBulk]
 | held h => simp [Rows.uptoBulk]
theorem Lq {H : Type} {d : DataW H} : ∀ {l : List (DataW H)}, d ∈ l → Rows.uptoBulk d ≤ Rows.uptoBulkAll l
 | x :: l, h => by
  rw [Rows.uptoBulkAll]
  rcases List.mem_cons.1 h with rfl | h
  ·omega
  ·have := Lq h; omega
theorem HR {H : Type} {d : DataW H} : ∀ {l : List (DataW H)} {k : Nat}, l[k]? = some d → Rows.uptoBulkAll (l.drop k) = Rows.uptoBulk d + Rows.uptoBulkAll (l.drop (k + 1))
 | x :: l, 0, h => by
  simp only [List.getElem?_cons_zero, Option.some.injEq] at h
  subst h
  rw [List.drop_zero, List.drop_succ_cons, List.drop_zero, Rows.uptoBulkAll]
 | x :: l, k + 1, h => by
  rw [List.getElem?_cons_succ] at h
  rw [List.drop_succ_cons, List.drop_succ_cons]
  exact HR h
theorem Te {H : Type} : ∀ (ds : List (DataW H)) (vf : Nat → List V) (len : Nat), len ≤ ds.length → (∀ i (h : i < ds.length), i < len → V.cntL (vf i) ≤ Rows.uptoBulk ds[i]) → V.cntR ((List.range len).map vf) ≤ Rows.uptoBulkAll ds
 | ds, vf, 0, _, _ => by simp [V.cntR]
 | d :: ds, vf, len + 1, hl, h => by
  have ih := Te ds (fun i => vf (i + 1)) len (by simpa using hl) fun i h1 h2 => by
   have := h (i + 1) (by simpa using h1) (by omega)
   rwa [List.getElem_cons_succ] at this
  have h0 := h 0 (by simp) (by omega)
  rw [List.getElem_cons_zero] at h0
  rw [List.range_succ_eq_map, List.map_cons, List.map_map, V.cntR, Rows.uptoBulkAll]
  have e : (vf ∘ Nat.succ) = fun i => vf (i + 1) := rfl
  rw [e]; omega
section
variable {H : Type} {enc : TypeId × Value → H} {P : Program} {w : World} {M : Nat → Prop}
theorem Kx (hM : ∀ b, b < w.heap.size → M b) {rec : TypeId → Option Sh} : ∀ {fuel : Nat}, (∀ f, f < fuel → ∀ {t : TypeId} {cs : List Value} {x : DataW H × List MemPlace} {sh : Sh}, rec t = some sh → DataW.trod enc P w 0 (fun _ => true) true f t cs = some x → (∀ n ∈ x.1.weights P t, n ≤ reachBytes) → ∃ vs, sh.fits vs ∧ Db M w cs vs ∧ V.cntL vs ≤ Rows.uptoBulk x.1) → ∀ {t : TypeId} {cs : List Value} {x : DataW H × List MemPlace} {sh : Sh}, shB rec P t = some sh → DataW.trod enc P w 0 (fun _ => true) true fuel t cs = some x → (∀ n ∈ x.1.weights P t, n ≤ reachBytes) → ∃ vs, sh.fits vs ∧ Db M w cs vs ∧ V.cntL vs ≤ Rows.uptoBulk x.1
 | fuel, hrec, t, cs, x, sh, hs, h, hwt => by
  unfold shB at hs
  split at hs
  ·rename_i ht
   injection hs with hs; subst hs
   obtain ⟨b, rfl, _⟩ := DataW.trod_bool ht h
   exact ⟨_, ⟨_, rfl⟩, .one (.bool _) rfl, GX _⟩
  ·rename_i k ht
   injection hs with hs; subst hs
   obtain ⟨n, rfl, _, hw⟩ := DataW.trod_int ht h
   exact ⟨_, ⟨_, rfl, hw⟩, .one (.int _ _) rfl, GX _⟩
  ·rename_i ht
   injection hs with hs; subst hs
   obtain ⟨u, rfl, rfl, _⟩ := DataW.trod_string ht h
   obtain ⟨⟨l⟩⟩ := u
   exact ⟨[.str l], ⟨_, rfl, hwt _ (by simp [DataW.weights])⟩, .one (.str l) rfl, GX _⟩
  ·rename_i e ht
   split at hs
   ·rename_i u hse
    split at hs
    ·rename_i hc
     injection hs with hs; subst hs
     rcases DataW.trod_slice ht h with ⟨rfl, _⟩ | ⟨a, len, cap, elems, rest, n, rfl, rfl, rfl, _, hlc, hcm, helen, he, _, _⟩
     ·exact ⟨[.list [] false], ⟨[], rfl, by simp, fun r hr => by cases hr⟩, .one (.list [] false none 0 0 0 0 (fun _ _ => undef) (fun e => by cases e) (Nat.le_refl _) (fun _ => rfl) (.inl rfl) (fun r hr => by cases hr) (fun i j hi _ => absurd hi (Nat.not_lt_zero _)) (fun i j r v hi => by simp at hi)) rfl, GX _⟩
     ·obtain ⟨hce, hpos⟩ := hc
      simp only [DataW.weights, ht, List.length_map, List.mem_cons, List.mem_append] at hwt
      have hw0 := hwt _ (.inl rfl)
      have hwe : ∀ y ∈ elems, ∀ n ∈ y.1.weights P e, n ≤ reachBytes := fun y hy n hn => hwt n (.inr (.inl (DI (List.mem_map.2 ⟨y, hy, rfl⟩) hn)))
      have each : ∀ i, ∃ (ci : List Value) (vi : List V), i < len → w.cells? 0 (a.add (i * u.n)) u.n = some ci ∧ u.fits vi ∧ Db M w ci vi ∧ ∀ h : i < elems.length, V.cntL vi ≤ Rows.uptoBulk elems[i].1 := by
       intro i
       by_cases hi : i < len
       ·have h1 := he i hi
        rw [List.getElem?_eq_getElem (by omega), hce] at h1
        obtain ⟨ci, h2, h3⟩ := Option.bind_eq_some_iff.1 h1
        obtain ⟨vi, h4, h5, h6⟩ := hrec n (Nat.lt_succ_self n) hse h3 (hwe _ (List.getElem_mem _))
        exact ⟨ci, vi, fun _ => ⟨h2, h4, h5, fun _ => h6⟩⟩
       ·exact ⟨[], [], fun h => absurd h hi⟩
      obtain ⟨cf, each⟩ := Classical.skolem.1 each
      obtain ⟨vf, each⟩ := Classical.skolem.1 each
      have hrl : ((List.range len).map vf).length = len := by simp
      have hsp0 : 0 < len → a.spot = none := by
       intro h0
       obtain ⟨h1, _, _⟩ := each 0 h0
       obtain ⟨_, h4, h5⟩ := World.cells?_some h1
       have h6 := h5 0 hpos
       rw [List.getElem?_eq_getElem (by omega)] at h6
       rw [Nat.zero_mul] at h6
       have e1 : (a.add 0).add 0 = a := by simp [Addr.add]
       rw [e1] at h6
       cases hs : a.spot with
       | none => rfl
       | some q =>
        exfalso
        unfold World.cell? at h6
        split at h6
        ·simp [hs] at h6
        ·cases h6
      have hcell : ∀ i j, i < len → j < u.n → a.spot = none ∧ w.cell? ⟨a.block, a.off + i * u.n + j, none⟩ = some ((cf i).getD j undef) ∧ ((cf i).getD j undef).oneCell' = true := by
       intro i j hi hj
       obtain ⟨h1, _, h3, _⟩ := each i hi
       obtain ⟨_, h4, h5⟩ := World.cells?_some h1
       have h6 := h5 j hj
       have hlt : j < (cf i).length := by omega
       rw [List.getElem?_eq_getElem hlt] at h6
       have hd : (cf i).getD j undef = (cf i)[j] := by rw [List.getD_eq_getElem?_getD, List.getElem?_eq_getElem hlt]; rfl
       have hsp := hsp0 (by omega)
       refine ⟨hsp, ?_, ?_⟩
       ·rw [hd, ← h6]
        obtain ⟨g, off, sp⟩ := a
        dsimp only at hsp
        subst hsp
        rw [Bv, Bv]
       ·rw [hd]; exact h3.2.2 _ (List.getElem_mem hlt)
      have hrow : ∀ i r, ((List.range len).map vf)[i]? = some r → i < len ∧ r = vf i := by
       intro i r hr
       rw [List.getElem?_map] at hr
       obtain ⟨k, hk, rfl⟩ := Option.map_eq_some_iff.1 hr
       obtain ⟨hk1, hk2⟩ := List.getElem?_eq_some_iff.1 hk
       simp only [List.length_range] at hk1
       simp only [List.getElem_range] at hk2
       subst hk2
       exact ⟨hk1, rfl⟩
      have hln : ∀ i, i < len → (vf i).length = u.n := fun i hi => by
       obtain ⟨h1, _, h3, _⟩ := each i hi
       obtain ⟨_, h4, _⟩ := World.cells?_some h1
       rw [h3.1, h4]
      refine ⟨[.list ((List.range len).map vf) false], ⟨_, rfl, by rw [hrl, ← helen]; exact Nat.le_trans (Nat.mul_le_mul_right _ (Nat.le_add_right _ _)) hw0, fun r hr => ?_⟩, .one ?_ rfl, ?_⟩
      ·obtain ⟨i, hi, rfl⟩ := List.mem_map.1 hr
       exact (each i (List.mem_range.1 hi)).2.1
      ·have hp := Pur.list (M := M) (w := w) ((List.range len).map vf) false (some a) cap u.n a.block a.off (fun i j => (cf i).getD j undef) (fun e => by cases e) (by rw [hrl]; exact hlc) (fun e => by cases e) (by
        by_cases h0 : len = 0
        ·left; subst h0; rfl
        ·right
         have hc0 := hcell 0 0 (by omega) hpos
         refine ⟨by obtain ⟨_, _, _⟩ := a; simp at hc0; rw [hc0.1], hM _ ?_⟩
         have hb := World.cells?_block (a := a.add (0 * u.n)) (each 0 (by omega)).1 hpos
         rw [Nat.zero_mul] at hb
         simpa [Addr.add] using hb) (fun r hr => by
        obtain ⟨i, hi, rfl⟩ := List.mem_map.1 hr
        exact hln i (List.mem_range.1 hi)) (fun i j hi hj => ?_) (fun i j r v hr hj => ?_)
       ·rw [hrl] at hp; exact hp
       ·rw [hrl] at hi
        exact (hcell i j hi hj).2
       ·obtain ⟨hi, rfl⟩ := hrow i r hr
        exact (each i hi).2.2.1.2.1 j v hj
      ·show 1 + V.cntR _ + 0 ≤ Rows.uptoBulkAll _ + Rows.uptoBulkAll _ + 1
       have := Te (elems.map (·.1)) vf len (by rw [List.length_map]; omega) (fun i h1 h2 => by rw [List.getElem_map]; exact (each i h2).2.2.2 (by rw [List.length_map] at h1; exact h1))
       omega
    ·cases hs
   ·cases hs
  ·rename_i fs ht
   split at hs
   ·rename_i l hl
    split at hs
    ·rename_i hc
     injection hs with hs; subst hs
     obtain ⟨xs, n, rfl, rfl, hlen, hxl, hf⟩ := DataW.trod_struct ht h
     simp only [DataW.weights, ht] at hwt
     have main : ∀ (fl : List Field) (o k : Nat) (l : List Sh), (∀ i, fs.toList[k + i]? = fl[i]?) → shF P rec o fl = some l → o + Sh.ns l = cs.length → ∃ vs, Sh.fitsL l vs ∧ Db M w (cs.drop o) vs ∧ V.cntL vs ≤ Rows.uptoBulkAll ((xs.map (·.1)).drop k) := by
      intro fl
      induction fl with
      | nil =>
       intro o k l _ hl hn
       simp only [shF, Option.some.injEq] at hl
       subst hl
       refine ⟨[], rfl, ?_⟩
       rw [List.drop_of_length_le (by simp only [Sh.ns] at hn; omega)]
       exact ⟨⟨rfl, fun j v hj => by simp at hj, fun c hc => by cases hc⟩, Nat.zero_le _⟩
      | cons f fl ih =>
       intro o k l hk hl hn
       unfold shF at hl
       split at hl
       ·rename_i ho
        split at hl
        ·rename_i u hu
         split at hl
         ·rename_i hcu
          obtain ⟨r, hr, rfl⟩ := Option.map_eq_some_iff.1 hl
          simp only [Sh.ns] at hn
          have hk0 := hk 0
          simp only [Nat.add_zero, List.getElem?_cons_zero, Array.getElem?_toList] at hk0
          have hfk := hf k f hk0
          rw [ho, hcu] at hfk
          cases hx : xs[k]? with
          | none =>
           have h1 := (Array.getElem?_eq_some_iff.1 hk0).1
           have h2 := List.getElem?_eq_none_iff.1 hx
           omega
          | some y =>
           rw [hx] at hfk
           obtain ⟨v1, g1, g2, g5⟩ := hrec n (Nat.lt_succ_self n) hu hfk (fun n hn => hwt n (DataW.weights_mem_each (j := k) (t := f.type) (d := y.1) (by rw [List.getElem?_map, Array.getElem?_toList, hk0]; rfl) (by rw [List.getElem?_map, hx]; rfl) n hn))
           obtain ⟨v2, g3, g4, g6⟩ := ih (o + u.n) (k + 1) r (fun i => by have := hk (i + 1); rw [List.getElem?_cons_succ] at this; rw [← this]; congr 1; omega) hr (by omega)
           refine ⟨v1 ++ v2, ⟨v1, v2, rfl, g1, g3⟩, ?_⟩
           have := Db.app g2 g4
           rw [← List.drop_drop, List.take_append_drop] at this
           refine ⟨this, ?_⟩
           rw [V.cntL_app, HR (d := y.1) (by rw [List.getElem?_map, hx]; rfl)]
           omega
         ·cases hl
        ·cases hl
       ·cases hl
     obtain ⟨vs, g1, g2, g3⟩ := main fs.toList 0 0 l (fun i => by rw [Nat.zero_add]) hl (by rw [Nat.zero_add, ← hc, hlen])
     exact ⟨vs, g1, g2, by rw [List.drop_zero] at g3; show _ ≤ Rows.uptoBulkAll _ + 1; omega⟩
    ·cases hs
   ·cases hs
  ·rename_i n e ht
   split at hs
   ·rename_i u hu
    split at hs
    ·rename_i hc
     injection hs with hs; subst hs
     obtain ⟨hce, hct⟩ := hc
     obtain ⟨xs, m, rfl, rfl, hlen, hxl, hf⟩ := DataW.trod_array ht h
     simp only [DataW.weights, ht] at hwt
     have main : ∀ (j k : Nat), k + j = n → ∃ vs, Sh.fitsL (List.replicate j u) vs ∧ Db M w (cs.drop (k * u.n)) vs ∧ V.cntL vs ≤ Rows.uptoBulkAll ((xs.map (·.1)).drop k) := by
      intro j
      induction j with
      | zero =>
       intro k hk
       refine ⟨[], rfl, ?_⟩
       have hk' : k = n := by omega
       rw [List.drop_of_length_le (by rw [hk', hlen, hct]; exact Nat.le_refl _)]
       exact ⟨⟨rfl, fun j v hj => by simp at hj, fun c hc => by cases hc⟩, Nat.zero_le _⟩
      | succ j ih =>
       intro k hk
       have hfk := hf k (by omega)
       rw [hce, List.getElem?_eq_getElem (by omega)] at hfk
       obtain ⟨v1, g1, g2, g5⟩ := hrec m (Nat.lt_succ_self m) hu hfk (fun n hn => hwt n (DI (List.mem_map.2 ⟨_, List.getElem_mem _, rfl⟩) hn))
       obtain ⟨v2, g3, g4, g6⟩ := ih (k + 1) (by omega)
       refine ⟨v1 ++ v2, ⟨v1, v2, rfl, g1, g3⟩, ?_⟩
       have := Db.app g2 g4
       rw [Nat.add_mul, Nat.one_mul, ← List.drop_drop, List.take_append_drop] at this
       refine ⟨this, ?_⟩
       rw [V.cntL_app, HR (d := (xs[k]'(by omega)).1) (by rw [List.getElem?_map, List.getElem?_eq_getElem (by omega)]; rfl)]
       omega
     obtain ⟨vs, g1, g2, g3⟩ := main n 0 (by omega)
     rw [Nat.zero_mul, List.drop_zero] at g2
     exact ⟨vs, g1, g2, by rw [List.drop_zero] at g3; show _ ≤ Rows.uptoBulkAll _ + 1; omega⟩
    ·cases hs
   ·cases hs
  ·cases hs
theorem Fk (hM : ∀ b, b < w.heap.size → M b) {ov : TypeId → Option Sh} {B : Nat} (hov : ∀ f, f < B → ∀ {t : TypeId} {cs : List Value} {x : DataW H × List MemPlace} {sh : Sh}, ov t = some sh → DataW.trod enc P w 0 (fun _ => true) true f t cs = some x → (∀ n ∈ x.1.weights P t, n ≤ reachBytes) → ∃ vs, sh.fits vs ∧ Db M w cs vs ∧ V.cntL vs ≤ Rows.uptoBulk x.1) : ∀ {d fuel : Nat} {t : TypeId} {cs : List Value} {x : DataW H × List MemPlace} {sh : Sh}, fuel < B → shT P ov d t = some sh → DataW.trod enc P w 0 (fun _ => true) true fuel t cs = some x → (∀ n ∈ x.1.weights P t, n ≤ reachBytes) → ∃ vs, sh.fits vs ∧ Db M w cs vs ∧ V.cntL vs ≤ Rows.uptoBulk x.1
 | 0, _, _, _, _, _, _, hs, _, _ => by simp [shT] at hs
 | d + 1, fuel, t, cs, x, sh, hB, hs, h, hwt => by
  unfold shT at hs
  split at hs
  ·rename_i u e
   injection hs with hs
   subst hs
   exact hov fuel hB e h hwt
  ·exact Kx hM (fun f hf t cs x sh h1 h2 h3 => Fk hM hov (by omega) h1 h2 h3) hs h hwt
end
def Sh.val : Sh → List V → V
 | .st _, vs => .agg vs
 | _, vs => vs.headD .any
section
variable {H : Type} {enc : TypeId × Value → H} {P : Program} {W : World}
theorem Abu {r : Reach} {b n : Nat} {t : TypeId} {sh : Sh} {ov : TypeId → Option Sh} (ho : ov t = none) (hs : shT P ov n t = some sh) {v : Value} (hval : Value.okWide P W r b t v) : (∃ fs cs, sh = .st fs ∧ v = .agg cs) ∨ ((∀ fs, sh ≠ .st fs) ∧ (∀ F k, sh ≠ .x F k) ∧ v.cells = #[v]) := by
 cases n with
 | zero => simp [shT] at hs
 | succ n =>
  unfold shT at hs
  rw [ho] at hs
  dsimp only at hs
  unfold shB at hs
  unfold Value.okWide at hval
  split at hs
  all_goals first | (rename_i ht; rw [ht] at hval; dsimp only at hval) | (cases hs; done)
  ·injection hs with hs; subst hs
   refine .inr ⟨fun _ h => (by cases h), fun _ _ h => (by cases h), ?_⟩
   cases v <;> first | rfl | (simp [Cell.okWide, Cell.ok, ht] at hval)
  ·injection hs with hs; subst hs
   refine .inr ⟨fun _ h => (by cases h), fun _ _ h => (by cases h), ?_⟩
   cases v <;> first | rfl | (simp [Cell.okWide, Cell.ok, ht] at hval)
  ·injection hs with hs; subst hs
   refine .inr ⟨fun _ h => (by cases h), fun _ _ h => (by cases h), ?_⟩
   cases v <;> first | rfl | (simp [Cell.okWide, Cell.ok, ht] at hval)
  ·split at hs
   ·split at hs
    ·injection hs with hs; subst hs
     refine .inr ⟨fun _ h => (by cases h), fun _ _ h => (by cases h), ?_⟩
     cases v <;> first | rfl | (simp [Cell.okWide, Cell.ok, ht] at hval)
    ·cases hs
   ·cases hs
  ·split at hs
   ·split at hs
    ·injection hs with hs; subst hs
     obtain ⟨cs, rfl, _⟩ := hval
     exact .inl ⟨_, cs, rfl, rfl⟩
    ·cases hs
   ·cases hs
  ·split at hs
   ·split at hs
    ·injection hs with hs; subst hs
     obtain ⟨cs, rfl, _⟩ := hval
     exact .inl ⟨_, cs, rfl, rfl⟩
    ·cases hs
   ·cases hs
theorem Wo {sh : Sh} {vs : List V} (h : sh.fits vs) (hn : ∀ fs, sh ≠ .st fs) (hx : ∀ F k, sh ≠ .x F k) : ∃ u, vs = [u] := by
 cases sh with
 | st fs => exact absurd rfl (hn fs)
 | b => obtain ⟨x, rfl⟩ := h; exact ⟨_, rfl⟩
 | i k => obtain ⟨x, rfl, _⟩ := h; exact ⟨_, rfl⟩
 | s => obtain ⟨x, rfl, _⟩ := h; exact ⟨_, rfl⟩
 | x F k => exact absurd rfl (hx F k)
 | sl e b => obtain ⟨x, rfl, _⟩ := h; exact ⟨_, rfl⟩
theorem Ry {r : Reach} {b n : Nat} {t : TypeId} {sh : Sh} {ov : TypeId → Option Sh} (hov : ∀ (B f : Nat), f < B → ∀ {t : TypeId} {cs : List Value} {x : DataW H × List MemPlace} {sh : Sh}, ov t = some sh → DataW.trod enc P W 0 (fun _ => true) true f t cs = some x → (∀ n ∈ x.1.weights P t, n ≤ reachBytes) → ∃ vs, sh.fits vs ∧ Db (fun b => b < W.heap.size) W cs vs ∧ V.cntL vs ≤ Rows.uptoBulk x.1) (ho : ov t = none) (hs : shT P ov n t = some sh) {v : Value} (hval : Value.okWide P W r b t v) {d : DataW H} {ps : List MemPlace} (h : DataW.Trod enc P W 0 (fun _ => true) true t v d ps) (hwt : ∀ n ∈ d.weights P t, n ≤ reachBytes) :
  ∃ vs, sh.fits vs ∧ Pur (fun b => b < W.heap.size) W (sh.val vs) v ∧ V.cntL vs ≤ Rows.uptoBulk d := by
 obtain ⟨fuel, hf⟩ := h
 obtain ⟨vs, h1, ⟨h2, h3, h4⟩, h5⟩ := Fk (M := fun b => b < W.heap.size) (fun _ h => h) (hov (fuel + 1)) (Nat.lt_succ_self fuel) hs hf hwt
 refine ⟨vs, h1, ?_, h5⟩
 rcases Abu ho hs hval with ⟨fs, cs, rfl, rfl⟩ | ⟨hn, hx, hc⟩
 ·exact .agg vs cs (by simpa [Value.cells] using h2) (fun c hc => h4 c (by simpa [Value.cells] using hc)) (fun i u hi => by
   have := h3 i u hi
   rw [List.getD_eq_getElem?_getD, Array.getElem?_toList] at this
   simpa [Value.cells] using this)
 ·obtain ⟨u, rfl⟩ := Wo h1 hn hx
  have := h3 0 u rfl
  rw [hc] at this
  cases sh with
  | st fs => exact absurd rfl (hn fs)
  | x F k => exact absurd rfl (hx F k)
  | _ => exact this
end
theorem On {r : List V} : ∀ {l : List (List V)}, r ∈ l → V.cntL r ≤ V.cntR l
 | x :: l, h => by
  rw [V.cntR]
  rcases List.mem_cons.1 h with rfl | h
  ·omega
  ·have := On h; omega
theorem Oo {k : Nat} : ∀ {l : List (List V)}, (∀ r ∈ l, k ≤ V.cntL r) → k * l.length ≤ V.cntR l
 | [], _ => by simp
 | x :: l, h => by
  have h1 := h x (List.mem_cons_self ..)
  have h2 := Oo (k := k) (l := l) fun r hr => h r (List.mem_cons_of_mem _ hr)
  rw [V.cntR, List.length_cons, Nat.mul_add, Nat.mul_one]; omega
theorem NN {α : Type} {encA : α → List V} {ok : α → Prop} {e : Sh} (h : ∀ vs, e.fits vs → ∃ a, vs = encA a ∧ ok a) : ∀ {rows : List (List V)}, (∀ r ∈ rows, e.fits r) → ∃ l : List α, rows = l.map encA ∧ ∀ a ∈ l, ok a
 | [], _ => ⟨[], rfl, fun a ha => by cases ha⟩
 | r :: rs, hr => by
  obtain ⟨a, rfl, ha⟩ := h r (hr r (List.mem_cons_self ..))
  obtain ⟨l, rfl, hl⟩ := NN h fun x hx => hr x (List.mem_cons_of_mem _ hx)
  exact ⟨a :: l, rfl, fun x hx => by rcases List.mem_cons.1 hx with rfl | hx; exact ha; exact hl x hx⟩
theorem BK {vs : List V} (h : Sh.s.fits vs) : ∃ x : List UInt8, vs = [.str x] ∧ x.length ≤ 140737488355328 := by
 obtain ⟨x, rfl, hx⟩ := h
 exact ⟨x, rfl, by unfold reachBytes at hx; omega⟩
theorem AX {vs : List V} (h : (Sh.i .i64).fits vs) : ∃ x : Int, vs = [.int .i64 x] ∧ inI x := by
 obtain ⟨x, rfl, hx⟩ := h
 exact ⟨x, rfl, bounds_i64 hx⟩
theorem Aec {vs : List V} (h : Sh.b.fits vs) : ∃ x : Bool, vs = [.bool x] := h
theorem BY {α : Type} {encA : α → List V} {ok : α → Prop} {e : Sh} {bytes : Nat} (h : ∀ vs, e.fits vs → ∃ a, vs = encA a ∧ ok a) {vs : List V} (hv : (Sh.sl e bytes).fits vs) : ∃ l : List α, vs = [.list (l.map encA) false] ∧ l.length * bytes ≤ 140737488351232 ∧ ∀ a ∈ l, ok a := by
 obtain ⟨rows, rfl, h1, h2⟩ := hv
 obtain ⟨l, rfl, hl⟩ := NN h h2
 rw [List.length_map] at h1
 exact ⟨l, rfl, h1, hl⟩
theorem Zn {W : World} (h : AbI W) : (3 : Nat) < W.heap.size := by
 unfold AbI Lib.TabIs World.var? at h
 rw [Ah7] at h
 simp only [Option.bind_some] at h
 cases hs : W.heap[(3 : Nat)]? with
 | none => rw [hs] at h; cases h
 | some o => exact (Array.getElem?_eq_some_iff.1 hs).1
theorem AlF {W : World} (h : UT.B W) : ∀ b, UT.T b → b < W.heap.size := by
 intro b hb
 have hb : b = 3 := hb
 subst hb
 exact Zn (utW h)
theorem RS {f : Nat} {g : List V → Prop × V} (hp : PU f g) {vs : List V} (h1 : (g vs).1) (h2 : (g vs).2 = .bool true) {W : World} {cargs : Array Value} (hU : UT.B W) (hsz : cargs.size = vs.length)
  (hpur : ∀ (i : Nat) (v : V), vs[i]? = some v → Pur (fun b => b < W.heap.size) W v (cargs.getD i undef)) : Calls Tryz.prog f cargs W fun e W' => e = .returned (.bool true) ∧ Below W.heap.size W W' := by
 refine ((hp vs _ W cargs h1).2 hU (AlF hU) hsz (fun _ h => h) hpur).mono ?_
 rintro e w' ⟨cv, M', rfl, hcv, _, _, _, hb⟩
 rw [h2] at hcv
 cases hcv
 exact ⟨rfl, hb⟩
def AfV (W : World) : List V → List Value → Prop
 | [], [] => True
 | v :: vs, c :: cs => Pur (fun b => b < W.heap.size) W v c ∧ AfV W vs cs
 | _, _ => False
theorem AfV.get {W : World} : ∀ {vs : List V} {cs : List Value}, AfV W vs cs → cs.length = vs.length ∧ ∀ (i : Nat) (v : V), vs[i]? = some v → Pur (fun b => b < W.heap.size) W v (cs.getD i undef)
 | [], [], _ => ⟨rfl, fun i v h => by simp at h⟩
 | v :: vs, c :: cs, h => by
  obtain ⟨h1, h2⟩ := AfV.get h.2
  refine ⟨by simp [h1], fun i u hi => ?_⟩
  cases i with
  | zero => simp only [List.getElem?_cons_zero, Option.some.injEq] at hi; subst hi; exact h.1
  | succ i => rw [List.getElem?_cons_succ] at hi; rw [List.getD_cons_succ]; exact h2 i u hi
 | [], _ :: _, h => h.elim
 | _ :: _, [], h => h.elim
theorem Pn {α : Type} {args : α → List V} {F : α → Prop × V} {f : Nat} (inj : ∀ a b, args a = args b → a = b) (hp : PU f (gOf args F)) (a : α) (h1 : (F a).1) (h2 : (F a).2 = .bool true) {W : World} (hU : UT.B W) {cl : List Value} (hP : AfV W (args a) cl) :
  Calls Tryz.prog f cl.toArray W fun e W' => e = .returned (.bool true) ∧ Below W.heap.size W W' := by
 obtain ⟨e1, e2⟩ := hP.get
 exact RS hp (vs := args a) (by rw [Ar inj]; exact h1) (by rw [Ar inj]; exact h2) hU (by simpa using e1) (fun i v hi => by have := e2 i v hi; rwa [List.getD_eq_getElem?_getD, ← List.getElem?_toArray, ← Array.getD_eq_getD_getElem?] at this)
structure Fault where
 err : Int
 pos : List UInt8
def Fault.enc (f : Fault) : List V := [.int .i64 f.err, .str f.pos]
def fIf (b : Bool) (e : Int) (pos : List UInt8) : List Fault := if b then [⟨e, pos⟩] else []
theorem CB {i : Nat} (h : i ≤ 1000000) : (dec (i : Int)).length ≤ 21 := SM ⟨by omega, by omega⟩
theorem BX {α : Type} (l : List α) (k : Nat) (d : α) (h : k < l.length) : l.getD k d = l[k] := by
 rw [List.getD_eq_getElem?_getD, List.getElem?_eq_getElem h]; rfl
def An (l : List Fault) : List (List V) := l.map Fault.enc
theorem Bk (l : List Fault) : (An l).length = l.length := List.length_map _
theorem Bq (l : List Fault) : ∀ r ∈ An l, V.purs r = true := by
 intro r hr
 obtain ⟨n, _, rfl⟩ := List.mem_map.1 hr
 rfl
theorem CM (l : List Fault) : (∀ r ∈ An l, V.purs r = true) ↔ True := iff_true_intro (Bq l)
theorem Ml (l : List Fault) (e : Int) (p : List UInt8) : An l ++ [[.int .i64 e, .str p]] = An (l ++ [⟨e, p⟩]) := by unfold An; rw [List.map_append]; rfl
theorem Gk (l r : List Fault) : An l ++ An r = An (l ++ r) := by unfold An; rw [List.map_append]
theorem Ps (l : List Fault) : ∀ r ∈ An l, r.length = 2 := by
 intro r hr
 obtain ⟨n, _, rfl⟩ := List.mem_map.1 hr
 rfl
theorem Mk (l : List Fault) : (∀ r ∈ An l, r.length = 2) ↔ True := iff_true_intro (Ps l)
attribute [go_sem] Bk CM Ml Gk Mk
theorem Dx {b : Bool} {e : Int} {p : List UInt8} (h : b = true) : fIf b e p = [⟨e, p⟩] := by rw [h]; rfl
theorem Dy {b : Bool} {e : Int} {p : List UInt8} (h : b = false) : fIf b e p = [] := by rw [h]; rfl
theorem Ei (b : Bool) (e : Int) (p : List UInt8) : (fIf b e p).length ≤ 1 := by unfold fIf; split <;> simp
theorem Dz {α : Type} {p : α → Prop} {l : List α} {i : Nat} (hi : i < l.length) (hp : ∀ c ∈ l.take i, p c) (h : p l[i]) : ∀ c ∈ l.take (i + 1), p c := by
 intro c hc
 rw [List.take_succ_eq_append_getElem hi, List.mem_append, List.mem_singleton] at hc
 rcases hc with hc | rfl
 ·exact hp c hc
 ·exact h
theorem Sr {l : List Fault} {i : Nat} {d : List V} (h : i < l.length) : (An l).getD i d = [.int .i64 l[i].err, .str l[i].pos] := by
 unfold An; rw [List.getD_eq_getElem?_getD, List.getElem?_map, List.getElem?_eq_getElem h]; rfl
def strs (l : List (List UInt8)) : List (List V) := l.map fun s => [.str s]
theorem DA (l : List (List UInt8)) : (strs l).length = l.length := List.length_map _
theorem DS (l : List (List UInt8)) (i : Nat) (d : List V) (h : i < l.length) : (strs l).getD i d = [.str l[i]] := by
 unfold strs
 rw [List.getD_eq_getElem?_getD, List.getElem?_map, List.getElem?_eq_getElem h]; rfl
theorem Qx (l : List (List UInt8)) (i : Nat) : (strs l).take i = strs (l.take i) := by unfold strs; rw [List.map_take]
theorem IS (l : List (List UInt8)) : ∀ r ∈ strs l, V.purs r = true := by
 intro r hr
 obtain ⟨n, _, rfl⟩ := List.mem_map.1 hr
 rfl
theorem Qy (l : List (List UInt8)) : (∀ r ∈ strs l, V.purs r = true) ↔ True := iff_true_intro (IS l)
theorem MY (l : List (List UInt8)) : ∀ r ∈ strs l, r.length = 1 := by
 intro r hr
 obtain ⟨n, _, rfl⟩ := List.mem_map.1 hr
 rfl
theorem Qz (l : List (List UInt8)) : (∀ r ∈ strs l, r.length = 1) ↔ True := iff_true_intro (MY l)
theorem IT {l r : List (List UInt8)} (h : strs l = strs r) : l = r := Aw (fun a b h => by simpa using h) h
def AY (l : List Int) : List (List V) := l.map fun n => [.int .i64 n]
theorem Bp (l : List Int) : (AY l).length = l.length := List.length_map _
theorem AV (l : List Int) (i : Nat) (d : List V) (h : i < l.length) : (AY l).getD i d = [.int .i64 l[i]] := by
 unfold AY
 rw [List.getD_eq_getElem?_getD, List.getElem?_map, List.getElem?_eq_getElem h]; rfl
theorem ints_set (l : List Int) (i : Nat) (v : Int) : (AY l).set i [.int .i64 v] = AY (l.set i v) := by unfold AY; rw [List.map_set]
theorem KM (l : List Int) (i : Nat) : (AY l).take i = AY (l.take i) := by unfold AY; rw [List.map_take]
theorem KN (l : List Int) (i : Nat) : (AY l).drop i = AY (l.drop i) := by unfold AY; rw [List.map_drop]
theorem Bm (l : List Int) (v : Int) : AY l ++ [[.int .i64 v]] = AY (l ++ [v]) := by unfold AY; rw [List.map_append]; rfl
theorem ND (l r : List Int) : AY l ++ AY r = AY (l ++ r) := by unfold AY; rw [List.map_append]
theorem CV (l : List Int) : ∀ r ∈ AY l, V.purs r = true := by
 intro r hr
 obtain ⟨n, _, rfl⟩ := List.mem_map.1 hr
 rfl
theorem BG (l : List Int) : (∀ r ∈ AY l, V.purs r = true) ↔ True := iff_true_intro (CV l)
theorem Wh (l : List Int) : ∀ r ∈ AY l, r.length = 1 := by
 intro r hr
 obtain ⟨n, _, rfl⟩ := List.mem_map.1 hr
 rfl
theorem Se (l : List Int) : (∀ r ∈ AY l, r.length = 1) ↔ True := iff_true_intro (Wh l)
theorem GT {l r : List Int} (h : AY l = AY r) : l = r := Aw (fun a b h => by simpa using h) h
theorem KL (n : Nat) : List.replicate n [V.int .i64 0] = AY (List.replicate n 0) := by unfold AY; rw [List.map_replicate]
theorem Cy : AY [] = [] := rfl
attribute [go_sem] DA Qy Qz Bp BG Se
theorem Rq (a : List (List V)) (r : List V) : (∀ x ∈ a ++ [r], V.purs x = true) ↔ (∀ x ∈ a, V.purs x = true) ∧ V.purs r = true := by
 simp only [List.forall_mem_append, List.mem_singleton, forall_eq]
theorem RR (a : List (List V)) (r : List V) (n : Nat) : (∀ x ∈ a ++ [r], x.length = n) ↔ (∀ x ∈ a, x.length = n) ∧ r.length = n := by
 simp only [List.forall_mem_append, List.mem_singleton, forall_eq]
attribute [go_sem] Rq RR
theorem Af {α : Type} (f : α → List V) (l : List α) (i : Nat) (d : List V) (h : i < l.length) : (l.map f).getD i d = f l[i] := by
 rw [List.getD_eq_getElem?_getD, List.getElem?_map, List.getElem?_eq_getElem h]; rfl
theorem AI {α : Type} {l : List α} {i : Nat} (h : i < l.length) : l.take (i + 1) = l.take i ++ [l[i]] := List.take_succ_eq_append_getElem h
def Wu {α : Type} (_ : α) : Prop × V := (True, .bool true)
def MG (_ : Unit) : List V := []
theorem Lv (a b : Unit) (_ : MG a = MG b) : a = b := rfl
theorem ES : gOf MG Wu [] = (True, .bool true) := Ar Lv ()
theorem Yi {α : Type} {p : α → Bool} {l : List α} {i : Nat} (h : i < l.length) (hp : p l[i] = true) : l.any p = true := List.any_eq_true.2 ⟨_, List.getElem_mem h, hp⟩
theorem Yh {α : Type} {p : α → Bool} {l : List α} {i : Nat} (h : l.length ≤ i) (hp : ∀ x ∈ l.take i, p x = false) : l.any p = false := by
 rw [List.take_of_length_le h] at hp
 rw [List.any_eq_false]
 intro x hx
 rw [hp x hx]; decide
theorem RD {α : Type} {l : List α} {i : Nat} (h : l.length ≤ i) {P : α → Prop} (hp : ∀ x ∈ l.take i, P x) : ∀ x ∈ l, P x := by rwa [List.take_of_length_le h] at hp
abbrev AB (α : Type) := List (List UInt8 × α)
def Bo {α : Type} (L : AB α) (k : List UInt8) : Option α := (L.find? fun p => decide (p.1 = k)).map (·.2)
def Es {α : Type} : AB α → List UInt8 → α → AB α
 | [], k, v => [(k, v)]
 | (k', v') :: L, k, v => if k' = k then (k, v) :: L else (k', v') :: Es L k v
def Eo {α : Type} (f : α → V) (L : AB α) : List (Ky × V) := L.map fun p => (.s p.1, f p.2)
theorem WZ {α : Type} (k : List UInt8) : Bo ([] : AB α) k = none := rfl
theorem CC {α : Type} (k' : List UInt8) (v' : α) (L : AB α) (k : List UInt8) : Bo ((k', v') :: L) k = if k' = k then some v' else Bo L k := by
 unfold Bo
 rw [List.find?_cons]
 by_cases h : k' = k <;> simp [h]
theorem DH {α : Type} (L : AB α) (k j : List UInt8) (v : α) : Bo (Es L k v) j = if k = j then some v else Bo L j := by
 induction L with
 | nil => rw [Es, CC, WZ]
 | cons p L ih =>
  obtain ⟨k', v'⟩ := p
  rw [Es]
  by_cases h : k' = k
  ·subst h
   rw [if_pos rfl, CC, CC]
   split <;> rfl
  ·rw [if_neg h, CC, CC, ih]
   by_cases e : k = j
   ·subst e; rw [if_neg h, if_pos rfl, if_pos rfl]
   ·rw [if_neg e, if_neg e]
theorem Jj {α : Type} (f : α → V) (L : AB α) (k : List UInt8) (v : α) : EI (Eo f L) (.s k) (f v) = Eo f (Es L k v) := by
 induction L with
 | nil => rfl
 | cons p L ih =>
  obtain ⟨k', v'⟩ := p
  show EI ((.s k', f v') :: Eo f L) (.s k) (f v) = _
  rw [KE, Es]
  by_cases h : k' = k
  ·subst h; rw [if_pos rfl, if_pos rfl]; rfl
  ·rw [if_neg (fun e => h (by injection e)), if_neg h, ih]; rfl
theorem Jk {α : Type} (f : α → V) (L : AB α) (k : List UInt8) (z : V) : GS (Eo f L) (.s k) z = ((Bo L k).map f).getD z := by
 induction L with
 | nil => rfl
 | cons p L ih =>
  obtain ⟨k', v'⟩ := p
  show GS ((.s k', f v') :: Eo f L) (.s k) z = _
  rw [DX, CC]
  by_cases h : k' = k
  ·subst h; rw [if_pos rfl, if_pos rfl]; rfl
  ·rw [if_neg (fun e => h (by injection e)), if_neg h, ih]
theorem We {α : Type} (f : α → V) (L : AB α) (k : List UInt8) : mhas (Eo f L) (.s k) = (Bo L k).isSome := by
 induction L with
 | nil => rfl
 | cons p L ih =>
  obtain ⟨k', v'⟩ := p
  show mhas ((.s k', f v') :: Eo f L) (.s k) = _
  rw [RN, CC, ih]
  by_cases h : k' = k
  ·subst h; simp
  ·rw [if_neg h, decide_eq_false (fun e => h (by injection e)), Bool.false_or]
theorem Wd {α : Type} (f : α → V) (L : AB α) : (∀ q ∈ Eo f L, q.1.kd = 0) ↔ True := iff_true_intro fun q hq => by
 obtain ⟨p, _, rfl⟩ := List.mem_map.1 hq; rfl
def fS8 (s : List UInt8) : V := .str s
def fI8 (n : Int) : V := .int .i64 n
def fB8 (b : Bool) : V := .bool b
theorem RY (L : AB (List UInt8)) : (∀ q ∈ Eo fS8 L, q.2.pur = true) ↔ True := iff_true_intro fun q hq => by obtain ⟨p, _, rfl⟩ := List.mem_map.1 hq; rfl
theorem RZ (L : AB Int) : (∀ q ∈ Eo fI8 L, q.2.pur = true) ↔ True := iff_true_intro fun q hq => by obtain ⟨p, _, rfl⟩ := List.mem_map.1 hq; rfl
theorem Sa (L : AB Bool) : (∀ q ∈ Eo fB8 L, q.2.pur = true) ↔ True := iff_true_intro fun q hq => by obtain ⟨p, _, rfl⟩ := List.mem_map.1 hq; rfl
theorem Sb (d : List Nat) (L : AB (List UInt8)) : (∀ q ∈ Eo fS8 L, q.2.nin d = true) ↔ True := iff_true_intro fun q hq => by obtain ⟨p, _, rfl⟩ := List.mem_map.1 hq; simp only [fS8, V.nin]
theorem Hw (d : List Nat) (L : AB Int) : (∀ q ∈ Eo fI8 L, q.2.nin d = true) ↔ True := iff_true_intro fun q hq => by obtain ⟨p, _, rfl⟩ := List.mem_map.1 hq; simp only [fI8, V.nin]
theorem Sc (d : List Nat) (L : AB Bool) : (∀ q ∈ Eo fB8 L, q.2.nin d = true) ↔ True := iff_true_intro fun q hq => by obtain ⟨p, _, rfl⟩ := List.mem_map.1 hq; simp only [fB8, V.nin]
theorem RW (σ : Nat → Nat) (L : AB (List UInt8)) : (Eo fS8 L).map (fun q => (q.1, q.2.ren σ)) = Eo fS8 L := by
 unfold Eo; rw [List.map_map]; exact List.map_congr_left fun p _ => by simp only [Function.comp_apply, fS8, V.ren]
theorem Hv (σ : Nat → Nat) (L : AB Int) : (Eo fI8 L).map (fun q => (q.1, q.2.ren σ)) = Eo fI8 L := by
 unfold Eo; rw [List.map_map]; exact List.map_congr_left fun p _ => by simp only [Function.comp_apply, fI8, V.ren]
theorem RX (σ : Nat → Nat) (L : AB Bool) : (Eo fB8 L).map (fun q => (q.1, q.2.ren σ)) = Eo fB8 L := by
 unfold Eo; rw [List.map_map]; exact List.map_congr_left fun p _ => by simp only [Function.comp_apply, fB8, V.ren]
theorem Akp (L : AB (List UInt8)) (k v : List UInt8) : EI (Eo fS8 L) (.s k) (.str v) = Eo fS8 (Es L k v) := Jj fS8 L k v
theorem Aiz (L : AB Int) (k : List UInt8) (v : Int) : EI (Eo fI8 L) (.s k) (.int .i64 v) = Eo fI8 (Es L k v) := Jj fI8 L k v
theorem Akq (L : AB Bool) (k : List UInt8) (v : Bool) : EI (Eo fB8 L) (.s k) (.bool v) = Eo fB8 (Es L k v) := Jj fB8 L k v
theorem Aku (L : AB (List UInt8)) (k z : List UInt8) : GS (Eo fS8 L) (.s k) (.str z) = .str ((Bo L k).getD z) := by rw [Jk]; cases Bo L k <;> rfl
theorem Akv (L : AB Int) (k : List UInt8) (z : Int) : GS (Eo fI8 L) (.s k) (.int .i64 z) = .int .i64 ((Bo L k).getD z) := by rw [Jk]; cases Bo L k <;> rfl
theorem Akw (L : AB Bool) (k : List UInt8) (z : Bool) : GS (Eo fB8 L) (.s k) (.bool z) = .bool ((Bo L k).getD z) := by rw [Jk]; cases Bo L k <;> rfl
attribute [go_sem] Wd RY RZ Sa Sb Hw Sc RW Hv RX Akp Aiz Akq Aku Akv Akw We
structure Shift where
 at' : Int
 offset : Int
def Shift.enc (x : Shift) : List V := [.int .i64 x.at', .int .i64 x.offset]
theorem Shift.inj (a b : Shift) (h : a.enc = b.enc) : a = b := by
 obtain ⟨a_at', a_offset⟩ := a
 obtain ⟨b_at', b_offset⟩ := b
 simp only [Shift.enc, List.cons.injEq, V.str.injEq, V.int.injEq, V.bool.injEq, V.agg.injEq, V.list.injEq, and_true, true_and] at h
 obtain ⟨h0, h1⟩ := h
 subst h0
 subst h1
 rfl
def Shift.ok (x : Shift) : Prop := inI x.at' ∧ inI x.offset
def Shift.zero : Shift := ⟨0, 0⟩
theorem Shift.rows (l : List Shift) : (∀ r ∈ l.map Shift.enc, r.length = 2) ↔ True := iff_true_intro fun r hr => by obtain ⟨x, _, rfl⟩ := List.mem_map.1 hr; rfl
theorem Shift.purs (l : List Shift) : (∀ r ∈ l.map Shift.enc, V.purs r = true) ↔ True := iff_true_intro fun r hr => by obtain ⟨x, _, rfl⟩ := List.mem_map.1 hr; rfl
attribute [go_sem] Shift.rows Shift.purs
structure Zone where
 offset : Int
 shifts : List Shift
def Zone.enc (x : Zone) : List V := [.int .i64 x.offset, .list (x.shifts.map Shift.enc) false]
theorem Zone.inj (a b : Zone) (h : a.enc = b.enc) : a = b := by
 obtain ⟨a_offset, a_shifts⟩ := a
 obtain ⟨b_offset, b_shifts⟩ := b
 simp only [Zone.enc, List.cons.injEq, V.str.injEq, V.int.injEq, V.bool.injEq, V.agg.injEq, V.list.injEq, and_true, true_and] at h
 obtain ⟨h0, h1⟩ := h
 subst h0
 replace h1 := Aw Shift.inj h1
 subst h1
 rfl
def Zone.ok (x : Zone) : Prop := inI x.offset ∧ (x.shifts.length ≤ 140737488355328 ∧ ∀ z ∈ x.shifts, z.ok)
def Zone.zero : Zone := ⟨0, []⟩
theorem Zone.rows (l : List Zone) : (∀ r ∈ l.map Zone.enc, r.length = 2) ↔ True := iff_true_intro fun r hr => by obtain ⟨x, _, rfl⟩ := List.mem_map.1 hr; rfl
theorem Zone.purs (l : List Zone) : (∀ r ∈ l.map Zone.enc, V.purs r = true) ↔ True := iff_true_intro fun r hr => by obtain ⟨x, _, rfl⟩ := List.mem_map.1 hr; rfl
attribute [go_sem] Zone.rows Zone.purs
structure Airport where
 code : List UInt8
 city : List UInt8
 country : List UInt8
 zone : Zone
def Airport.enc (x : Airport) : List V := [.str x.code, .str x.city, .str x.country, .int .i64 x.zone.offset, .list (x.zone.shifts.map Shift.enc) false]
theorem Airport.inj (a b : Airport) (h : a.enc = b.enc) : a = b := by
 obtain ⟨a_code, a_city, a_country, ⟨a_zone_offset, a_zone_shifts⟩⟩ := a
 obtain ⟨b_code, b_city, b_country, ⟨b_zone_offset, b_zone_shifts⟩⟩ := b
 simp only [Airport.enc, List.cons.injEq, V.str.injEq, V.int.injEq, V.bool.injEq, V.agg.injEq, V.list.injEq, and_true, true_and] at h
 obtain ⟨h0, h1, h2, h3, h4⟩ := h
 subst h0
 subst h1
 subst h2
 subst h3
 replace h4 := Aw Shift.inj h4
 subst h4
 rfl
def Airport.ok (x : Airport) : Prop := x.code.length ≤ 140737488355328 ∧ x.city.length ≤ 140737488355328 ∧ x.country.length ≤ 140737488355328 ∧ x.zone.ok
def Airport.zero : Airport := ⟨[], [], [], Zone.zero⟩
theorem Airport.rows (l : List Airport) : (∀ r ∈ l.map Airport.enc, r.length = 5) ↔ True := iff_true_intro fun r hr => by obtain ⟨x, _, rfl⟩ := List.mem_map.1 hr; rfl
theorem Airport.purs (l : List Airport) : (∀ r ∈ l.map Airport.enc, V.purs r = true) ↔ True := iff_true_intro fun r hr => by obtain ⟨x, _, rfl⟩ := List.mem_map.1 hr; rfl
attribute [go_sem] Airport.rows Airport.purs
structure Distance where
 from' : List UInt8
 to' : List UInt8
 miles : Int
def Distance.enc (x : Distance) : List V := [.str x.from', .str x.to', .int .i64 x.miles]
theorem Distance.inj (a b : Distance) (h : a.enc = b.enc) : a = b := by
 obtain ⟨a_from', a_to', a_miles⟩ := a
 obtain ⟨b_from', b_to', b_miles⟩ := b
 simp only [Distance.enc, List.cons.injEq, V.str.injEq, V.int.injEq, V.bool.injEq, V.agg.injEq, V.list.injEq, and_true, true_and] at h
 obtain ⟨h0, h1, h2⟩ := h
 subst h0
 subst h1
 subst h2
 rfl
def Distance.ok (x : Distance) : Prop := x.from'.length ≤ 140737488355328 ∧ x.to'.length ≤ 140737488355328 ∧ inI x.miles
def Distance.zero : Distance := ⟨[], [], 0⟩
theorem Distance.rows (l : List Distance) : (∀ r ∈ l.map Distance.enc, r.length = 3) ↔ True := iff_true_intro fun r hr => by obtain ⟨x, _, rfl⟩ := List.mem_map.1 hr; rfl
theorem Distance.purs (l : List Distance) : (∀ r ∈ l.map Distance.enc, V.purs r = true) ↔ True := iff_true_intro fun r hr => by obtain ⟨x, _, rfl⟩ := List.mem_map.1 hr; rfl
attribute [go_sem] Distance.rows Distance.purs
structure Places where
 airports : List Airport
 distances : List Distance
def Places.enc (x : Places) : List V := [.list (x.airports.map Airport.enc) false, .list (x.distances.map Distance.enc) false]
theorem Places.inj (a b : Places) (h : a.enc = b.enc) : a = b := by
 obtain ⟨a_airports, a_distances⟩ := a
 obtain ⟨b_airports, b_distances⟩ := b
 simp only [Places.enc, List.cons.injEq, V.str.injEq, V.int.injEq, V.bool.injEq, V.agg.injEq, V.list.injEq, and_true, true_and] at h
 obtain ⟨h0, h1⟩ := h
 replace h0 := Aw Airport.inj h0
 subst h0
 replace h1 := Aw Distance.inj h1
 subst h1
 rfl
def Places.ok (x : Places) : Prop := (x.airports.length ≤ 140737488355328 ∧ ∀ z ∈ x.airports, z.ok) ∧ (x.distances.length ≤ 140737488355328 ∧ ∀ z ∈ x.distances, z.ok)
theorem Places.rows (l : List Places) : (∀ r ∈ l.map Places.enc, r.length = 2) ↔ True := iff_true_intro fun r hr => by obtain ⟨x, _, rfl⟩ := List.mem_map.1 hr; rfl
theorem Places.purs (l : List Places) : (∀ r ∈ l.map Places.enc, V.purs r = true) ↔ True := iff_true_intro fun r hr => by obtain ⟨x, _, rfl⟩ := List.mem_map.1 hr; rfl
attribute [go_sem] Places.rows Places.purs
def Ce (p : Airport → Bool) (l : List Airport) : Option Airport := l.find? p
theorem FJ {p : Airport → Bool} {l : List Airport} {i : Nat} (hi : i < l.length) (hp : ∀ c ∈ l.take i, p c = false) (h : p l[i] = true) : Ce p l = some l[i] := by
 have e1 : Ce p l = (l.take i ++ l.drop i).find? p := by rw [List.take_append_drop]; rfl
 rw [e1, List.find?_append, List.find?_eq_none.2 (fun c hc => by rw [hp c hc]; decide), Option.none_or, List.drop_eq_getElem_cons hi, List.find?_cons_of_pos h]
theorem FI {p : Airport → Bool} {l : List Airport} {i : Nat} (hi : l.length ≤ i) (hp : ∀ c ∈ l.take i, p c = false) : Ce p l = none := by
 rw [List.take_of_length_le hi] at hp
 exact List.find?_eq_none.2 fun c hc => by rw [hp c hc]; decide
def HQ (c : List UInt8) (a : Airport) : Bool := decide (a.code = c)
def De (c : List UInt8) (a : Airport) : Bool := decide (a.city = c)
def aPs (x : Places × List UInt8) : List V := [.agg x.1.enc, .str x.2]
theorem Em (a b : Places × List UInt8) (h : aPs a = aPs b) : a = b := by
 obtain ⟨a_p, a_c⟩ := a
 obtain ⟨b_p, b_c⟩ := b
 simp only [aPs, List.cons.injEq, V.str.injEq, V.int.injEq, V.bool.injEq, V.agg.injEq, V.list.injEq, and_true, true_and] at h
 obtain ⟨h0, h1⟩ := h
 replace h0 := Places.inj _ _ h0
 subst h0
 subst h1
 rfl
def Lx (p : Places) : Prop := p.airports.length ≤ 140737488355328 ∧ p.distances.length ≤ 140737488355328
def JR (o : Option Airport) : V := .tup [.agg (o.getD Airport.zero).enc, .bool o.isSome]
def Jy (x : Places × List UInt8) : Prop × V := (Lx x.1, JR (Ce (HQ x.2) x.1.airports))
def If (x : Places × List UInt8) : Prop × V := (Lx x.1, JR (Ce (De x.2) x.1.airports))
theorem NS (ps : List Airport) (ds : List Distance) (c : List UInt8) : gOf aPs Jy [.agg [.list (ps.map Airport.enc) false, .list (ds.map Distance.enc) false], .str c] = (Lx ⟨ps, ds⟩, JR (Ce (HQ c) ps)) := Ar Em (⟨ps, ds⟩, c)
theorem GU (ps : List Airport) (ds : List Distance) (c : List UInt8) : gOf aPs If [.agg [.list (ps.map Airport.enc) false, .list (ds.map Distance.enc) false], .str c] = (Lx ⟨ps, ds⟩, JR (Ce (De c) ps)) := Ar Em (⟨ps, ds⟩, c)
theorem Aed : PU 212 (gOf aPs Jy) := by
 have hG := AC
 refine Aeq.a Em (by simp [aPs]) ?_
 rintro ⟨⟨ps, ds⟩, c⟩ hv C hN Q hQ
 have Z := Aeq.R EF0 hG hN
 obtain ⟨hl, -⟩ : Lx ⟨ps, ds⟩ := hv
 dsimp only at hl
 refine Aa (Z 0 rfl ?_)
 simp only [go_sem, simprocAttr, aPs, Places.enc]
 refine Aa (Aa (Z 1 rfl ?_))
 simp only [go_sem, simprocAttr]
 refine Ad ?_
 refine Aj (α := Nat) (fun i => (i ≤ ps.length) ∧ (∀ a ∈ ps.take i, HQ c a = false)) (fun i => ⟨mkE [(1, V.str c), (4, V.ptr 4 0), (9, V.list (List.map Airport.enc ps) false), (10, V.int IntKind.i64 ↑ps.length), (11, .int .i64 i)], mkH [(4, Ob.box 212 [V.str [], V.str [], V.str [], V.int IntKind.i64 0, V.nils])]⟩) (fun i => ps.length - i) 0 (by simp) ?_ ?_
 ·exact leM
 rintro i ⟨hi, hp⟩ KL0 hKL0
 try dsimp only at *
 refine Aa (Z 2 rfl ?_)
 simp only [go_sem, simprocAttr]
 refine Aa ?_
 refine Ab rfl (fun hc2 => ?_) fun hc2 => ?_
 ·simp only [hcL] at hc2
  refine Ac ?_
  refine Aa (Ad ?_)
  refine Aa (Z 3 rfl ?_)
  simp only [go_sem, simprocAttr, Af _ _ _ _ hc2, hc2, Airport.enc]
  and_intros <;> try exact sdA
  refine Aa (Z 4 rfl ?_)
  simp only [go_sem, simprocAttr]
  refine Ab rfl (fun hb => ?_) fun hb => ?_
  ·refine Aa (Z 5 rfl ?_)
   simp only [go_sem, simprocAttr]
   refine Ae (hQ _ _ (.inl rfl) ?_ ?_ ?_) <;> simp only [go_sem, simprocAttr, Jy, JR]
   rw [FJ hc2 hp hb]; rfl
  refine Ac ?_
  refine Z 6 rfl ?_
  simp only [go_sem, simprocAttr, inI]
  and_intros <;> try exact sdA
  refine hKL0 (i + 1) _ ?_ ?_ ?_
  ·(try dsimp only); exact ⟨hc2, Dz hc2 hp hb⟩
  ·(try dsimp only); omega
  exact leM
 simp only [hcL] at hc2
 refine Ai ?_
 simp only [go_sem, simprocAttr]
 refine Aa (Z 7 rfl ?_)
 simp only [go_sem, simprocAttr]
 refine AW.le (s' := ⟨mkE [(4, .ptr 4 0), (5, .bool false)], mkH [(4, .box 212 Airport.zero.enc)]⟩) (Le.mk _ _ ?_ ?_ rfl) (Ae (hQ _ _ (.inl rfl) ?_ ?_ ?_)) <;> simp only [go_sem, simprocAttr, Jy, JR, FI hc2 hp, Airport.zero, Zone.zero, Airport.enc, Option.getD_none, Option.isSome_none, List.map_nil]
theorem AcD : PU 213 (gOf aPs If) := by
 have hG := AC
 refine Aep.a Em (by simp [aPs]) ?_
 rintro ⟨⟨ps, ds⟩, c⟩ hv C hN Q hQ
 have Z := Aep.R EF0 hG hN
 obtain ⟨hl, -⟩ : Lx ⟨ps, ds⟩ := hv
 dsimp only at hl
 refine Aa (Z 0 rfl ?_)
 simp only [go_sem, simprocAttr, aPs, Places.enc]
 refine Aa (Aa (Z 1 rfl ?_))
 simp only [go_sem, simprocAttr]
 refine Ad ?_
 refine Aj (α := Nat) (fun i => (i ≤ ps.length) ∧ (∀ a ∈ ps.take i, De c a = false)) (fun i => ⟨mkE [(1, V.str c), (4, V.ptr 4 0), (9, V.list (List.map Airport.enc ps) false), (10, V.int IntKind.i64 ↑ps.length), (11, .int .i64 i)], mkH [(4, Ob.box 212 [V.str [], V.str [], V.str [], V.int IntKind.i64 0, V.nils])]⟩) (fun i => ps.length - i) 0 (by simp) ?_ ?_
 ·exact leM
 rintro i ⟨hi, hp⟩ KL0 hKL0
 try dsimp only at *
 refine Aa (Z 2 rfl ?_)
 simp only [go_sem, simprocAttr]
 refine Aa ?_
 refine Ab rfl (fun hc2 => ?_) fun hc2 => ?_
 ·simp only [hcL] at hc2
  refine Ac ?_
  refine Aa (Ad ?_)
  refine Aa (Z 3 rfl ?_)
  simp only [go_sem, simprocAttr, Af _ _ _ _ hc2, hc2, Airport.enc]
  and_intros <;> try exact sdA
  refine Aa (Z 4 rfl ?_)
  simp only [go_sem, simprocAttr]
  refine Ab rfl (fun hb => ?_) fun hb => ?_
  ·refine Aa (Z 5 rfl ?_)
   simp only [go_sem, simprocAttr]
   refine Ae (hQ _ _ (.inl rfl) ?_ ?_ ?_) <;> simp only [go_sem, simprocAttr, If, JR]
   rw [FJ hc2 hp hb]; rfl
  refine Ac ?_
  refine Z 6 rfl ?_
  simp only [go_sem, simprocAttr, inI]
  and_intros <;> try exact sdA
  refine hKL0 (i + 1) _ ?_ ?_ ?_
  ·(try dsimp only); exact ⟨hc2, Dz hc2 hp hb⟩
  ·(try dsimp only); omega
  exact leM
 simp only [hcL] at hc2
 refine Ai ?_
 simp only [go_sem, simprocAttr]
 refine Aa (Z 7 rfl ?_)
 simp only [go_sem, simprocAttr]
 refine AW.le (s' := ⟨mkE [(4, .ptr 4 0), (5, .bool false)], mkH [(4, .box 212 Airport.zero.enc)]⟩) (Le.mk _ _ ?_ ?_ rfl) (Ae (hQ _ _ (.inl rfl) ?_ ?_ ?_)) <;> simp only [go_sem, simprocAttr, If, JR, FI hc2 hp, Airport.zero, Zone.zero, Airport.enc, Option.getD_none, Option.isSome_none, List.map_nil]
theorem Aaf : PU 160 (gOf aPs Jy) := by
 have hG := AC
 refine AeH.a Em (by simp [aPs]) ?_
 rintro ⟨⟨ps, ds⟩, c⟩ hv C hN Q hQ
 have Z := AeH.R EF0 hG hN
 obtain ⟨hl, -⟩ : Lx ⟨ps, ds⟩ := hv
 dsimp only at hl
 refine Aa (Z 0 rfl ?_)
 simp only [go_sem, simprocAttr, aPs, Places.enc]
 refine Aa (Aa (Z 1 rfl ?_))
 simp only [go_sem, simprocAttr]
 refine Ad ?_
 refine Aj (α := Nat) (fun i => (i ≤ ps.length) ∧ (∀ a ∈ ps.take i, HQ c a = false)) (fun i => ⟨mkE [(1, V.str c), (2, V.ptr 2 0), (4, V.ptr 4 0), (6, .int .i64 i)], mkH [(2, Ob.box 25 [V.list (List.map Airport.enc ps) false, V.list (List.map Distance.enc ds) false]), (4, Ob.box 212 [V.str [], V.str [], V.str [], V.int IntKind.i64 0, V.nils])]⟩) (fun i => ps.length - i) 0 (by simp) ?_ ?_
 ·exact leM
 rintro i ⟨hi, hp⟩ KL0 hKL0
 try dsimp only at *
 refine Aa (Aa (Z 2 rfl ?_))
 simp only [go_sem, simprocAttr]
 refine Ab rfl (fun hc2 => ?_) fun hc2 => ?_
 ·simp only [hcL] at hc2
  refine Ac ?_
  refine Aa (Ad ?_)
  refine Aa (Z 4 rfl ?_)
  simp only [go_sem, simprocAttr, Af _ _ _ _ hc2, hc2, Airport.enc]
  and_intros <;> try exact sdA
  refine Ab rfl (fun hb => ?_) fun hb => ?_
  ·refine Aa (Z 5 rfl ?_)
   simp only [go_sem, simprocAttr, Af _ _ _ _ hc2, hc2, Airport.enc]
   and_intros <;> try exact sdA
   refine Ae (hQ _ _ (.inl rfl) ?_ ?_ ?_) <;> simp only [go_sem, simprocAttr, Jy, JR]
   rw [FJ hc2 hp hb]; rfl
  refine Ac ?_
  refine Z 3 rfl ?_
  simp only [go_sem, simprocAttr, inI]
  and_intros <;> try exact sdA
  refine hKL0 (i + 1) _ ?_ ?_ ?_
  ·(try dsimp only); exact ⟨hc2, Dz hc2 hp hb⟩
  ·(try dsimp only); omega
  exact leM
 simp only [hcL] at hc2
 refine Ai ?_
 simp only [go_sem, simprocAttr]
 refine Aa (Z 6 rfl ?_)
 simp only [go_sem, simprocAttr]
 refine AW.le (s' := ⟨mkE [(4, .ptr 4 0), (5, .bool false)], mkH [(4, .box 212 Airport.zero.enc)]⟩) (Le.mk _ _ ?_ ?_ rfl) (Ae (hQ _ _ (.inl rfl) ?_ ?_ ?_)) <;> simp only [go_sem, simprocAttr, Jy, JR, FI hc2 hp, Airport.zero, Zone.zero, Airport.enc, Option.getD_none, Option.isSome_none, List.map_nil]
theorem Rd : PU 150 (gOf aPs If) := by
 have hG := AC
 refine AeQ.a Em (by simp [aPs]) ?_
 rintro ⟨⟨ps, ds⟩, c⟩ hv C hN Q hQ
 have Z := AeQ.R EF0 hG hN
 obtain ⟨hl, -⟩ : Lx ⟨ps, ds⟩ := hv
 dsimp only at hl
 refine Aa (Z 0 rfl ?_)
 simp only [go_sem, simprocAttr, aPs, Places.enc]
 refine Aa (Aa (Z 1 rfl ?_))
 simp only [go_sem, simprocAttr]
 refine Ad ?_
 refine Aj (α := Nat) (fun i => (i ≤ ps.length) ∧ (∀ a ∈ ps.take i, De c a = false)) (fun i => ⟨mkE [(1, V.str c), (2, V.ptr 2 0), (4, V.ptr 4 0), (6, .int .i64 i)], mkH [(2, Ob.box 25 [V.list (List.map Airport.enc ps) false, V.list (List.map Distance.enc ds) false]), (4, Ob.box 212 [V.str [], V.str [], V.str [], V.int IntKind.i64 0, V.nils])]⟩) (fun i => ps.length - i) 0 (by simp) ?_ ?_
 ·exact leM
 rintro i ⟨hi, hp⟩ KL0 hKL0
 try dsimp only at *
 refine Aa (Aa (Z 2 rfl ?_))
 simp only [go_sem, simprocAttr]
 refine Ab rfl (fun hc2 => ?_) fun hc2 => ?_
 ·simp only [hcL] at hc2
  refine Ac ?_
  refine Aa (Ad ?_)
  refine Aa (Z 4 rfl ?_)
  simp only [go_sem, simprocAttr, Af _ _ _ _ hc2, hc2, Airport.enc]
  and_intros <;> try exact sdA
  refine Ab rfl (fun hb => ?_) fun hb => ?_
  ·refine Aa (Z 5 rfl ?_)
   simp only [go_sem, simprocAttr, Af _ _ _ _ hc2, hc2, Airport.enc]
   and_intros <;> try exact sdA
   refine Ae (hQ _ _ (.inl rfl) ?_ ?_ ?_) <;> simp only [go_sem, simprocAttr, If, JR]
   rw [FJ hc2 hp hb]; rfl
  refine Ac ?_
  refine Z 3 rfl ?_
  simp only [go_sem, simprocAttr, inI]
  and_intros <;> try exact sdA
  refine hKL0 (i + 1) _ ?_ ?_ ?_
  ·(try dsimp only); exact ⟨hc2, Dz hc2 hp hb⟩
  ·(try dsimp only); omega
  exact leM
 simp only [hcL] at hc2
 refine Ai ?_
 simp only [go_sem, simprocAttr]
 refine Aa (Z 6 rfl ?_)
 simp only [go_sem, simprocAttr]
 refine AW.le (s' := ⟨mkE [(4, .ptr 4 0), (5, .bool false)], mkH [(4, .box 212 Airport.zero.enc)]⟩) (Le.mk _ _ ?_ ?_ rfl) (Ae (hQ _ _ (.inl rfl) ?_ ?_ ?_)) <;> simp only [go_sem, simprocAttr, If, JR, FI hc2 hp, Airport.zero, Zone.zero, Airport.enc, Option.getD_none, Option.isSome_none, List.map_nil]
def CH (ps : List Airport) (c : List UInt8) : List UInt8 := match Ce (HQ c) ps with
 | some a => a.city
 | none => if (Ce (De c) ps).isSome then c else []
theorem Lm {ps : List Airport} {c : List UInt8} {a : Airport} (h : Ce (HQ c) ps = some a) : CH ps c = a.city := by unfold CH; rw [h]
theorem FP {ps : List Airport} {c : List UInt8} (h : Ce (HQ c) ps = none) : CH ps c = if (Ce (De c) ps).isSome then c else [] := by unfold CH; rw [h]
theorem Hy {α : Type} {o : Option α} (h : o.isSome = false) : o = none := by cases o <;> first | rfl | cases h
def HI (x : Places × List UInt8) : Prop × V := (Lx x.1, .str (CH x.1.airports x.2))
noncomputable def tC : Tab
 | 212 => (gOf aPs Jy)
 | 213 => (gOf aPs If)
 | _ => gNo
theorem AgB : ∀ f, PU f (tC f) := fun f => by
 unfold tC
 split
 ·exact Aed
 ·exact AcD
 ·exact Ao.no
noncomputable def trC : Tab
 | 160 => (gOf aPs Jy)
 | 150 => (gOf aPs If)
 | _ => gNo
theorem Acp : ∀ f, PU f (trC f) := fun f => by
 unfold trC
 split
 ·exact Aaf
 ·exact Rd
 ·exact Ao.no
theorem AfJ : PU 180 (gOf aPs HI) := by
 have hG := AgB
 refine AeA.a Em (by simp [aPs]) ?_
 rintro ⟨⟨ps, ds⟩, c⟩ hv C hN Q hQ
 have Z := AeA.R EF0 hG hN
 replace hv : Lx ⟨ps, ds⟩ := hv
 refine Aa (Z 0 rfl ?_)
 simp only [go_sem, simprocAttr, aPs, Places.enc, tC]
 refine Aa (Aa (Z 1 rfl ?_))
 simp only [go_sem, simprocAttr, NS, hv, JR, Airport.enc, tC]
 and_intros <;> try exact sdA
 refine Aa (Z 2 rfl ?_)
 simp only [go_sem, simprocAttr, tC]
 refine Ab rfl (fun hb2 => ?_) fun hb2 => ?_
 ·obtain ⟨a, hs⟩ := Option.isSome_iff_exists.1 hb2
  refine Aa (Z 3 rfl ?_)
  simp only [go_sem, simprocAttr, hs, Option.getD_some, tC]
  refine Ae (hQ _ _ (.inl rfl) ?_ ?_ ?_) <;> simp only [go_sem, simprocAttr, HI]
  rw [Lm hs]
 have hs := Hy hb2
 refine Ac ?_
 refine Aa (Aa (Z 4 rfl ?_))
 simp only [go_sem, simprocAttr, GU, hv, JR, Airport.enc, tC]
 and_intros <;> try exact sdA
 refine Aa (Z 5 rfl ?_)
 simp only [go_sem, simprocAttr, tC]
 refine Ab rfl (fun hb5 => ?_) fun hb5 => ?_
 ·refine Aa (Z 6 rfl ?_)
  simp only [go_sem, simprocAttr, tC]
  refine Ae (hQ _ _ (.inl rfl) ?_ ?_ ?_) <;> simp only [go_sem, simprocAttr, HI]
  rw [FP hs, if_pos hb5]
 refine Ac ?_
 refine Aa (Z 7 rfl ?_)
 simp only [go_sem, simprocAttr, tC]
 refine Ae (hQ _ _ (.inl rfl) ?_ ?_ ?_) <;> simp only [go_sem, simprocAttr, HI]
 rw [FP hs, if_neg (by rw [hb5]; decide)]
theorem Aai : PU 158 (gOf aPs HI) := by
 have hG := Acp
 refine AeI.a Em (by simp [aPs]) ?_
 rintro ⟨⟨ps, ds⟩, c⟩ hv C hN Q hQ
 have Z := AeI.R EF0 hG hN
 replace hv : Lx ⟨ps, ds⟩ := hv
 refine Aa (Z 0 rfl ?_)
 simp only [go_sem, simprocAttr, aPs, Places.enc, trC]
 refine Aa (Z 1 rfl ?_)
 simp only [go_sem, simprocAttr, NS, hv, JR, Airport.enc, trC]
 and_intros <;> try exact sdA
 refine Aa (Aa (Z 2 rfl ?_))
 simp only [go_sem, simprocAttr, trC]
 refine Ab rfl (fun hb2 => ?_) fun hb2 => ?_
 ·obtain ⟨a, hs⟩ := Option.isSome_iff_exists.1 hb2
  refine Aa (Z 3 rfl ?_)
  simp only [go_sem, simprocAttr, hs, Option.getD_some, trC]
  refine Ae (hQ _ _ (.inl rfl) ?_ ?_ ?_) <;> simp only [go_sem, simprocAttr, HI]
  rw [Lm hs]
 have hs := Hy hb2
 refine Ac ?_
 refine Aa (Z 4 rfl ?_)
 simp only [go_sem, simprocAttr, GU, hv, JR, Airport.enc, trC]
 and_intros <;> try exact sdA
 refine Aa (Aa (Z 5 rfl ?_))
 simp only [go_sem, simprocAttr, trC]
 refine Ab rfl (fun hb5 => ?_) fun hb5 => ?_
 ·refine Aa (Z 6 rfl ?_)
  simp only [go_sem, simprocAttr, trC]
  refine Ae (hQ _ _ (.inl rfl) ?_ ?_ ?_) <;> simp only [go_sem, simprocAttr, HI]
  rw [FP hs, if_pos hb5]
 refine Ac ?_
 refine Aa (Z 7 rfl ?_)
 simp only [go_sem, simprocAttr, trC]
 refine Ae (hQ _ _ (.inl rfl) ?_ ?_ ?_) <;> simp only [go_sem, simprocAttr, HI]
 rw [FP hs, if_neg (by rw [hb5]; decide)]
def Gv (x : Distance) : List V := [.agg x.enc]
theorem HY (a b : Distance) (h : Gv a = Gv b) : a = b := by
 simp only [Gv, List.cons.injEq, V.str.injEq, V.int.injEq, V.bool.injEq, V.agg.injEq, V.list.injEq, and_true, true_and] at h
 have h0 := h
 replace h0 := Distance.inj _ _ h0
 subst h0
 rfl
def Cj (d : Distance) : Bool := decide (1 ≤ d.miles) && decide (d.miles ≤ 20000)
def EL (d : Distance) : Prop × V := (True, .bool (Cj d))
theorem Gl (a b : List UInt8) (m : Int) : gOf Gv EL [.agg [.str a, .str b, .int .i64 m]] = (True, .bool (Cj ⟨a, b, m⟩)) := Ar HY (⟨a, b, m⟩ : Distance)
theorem Ux : PU 182 (gOf Gv EL) := by
 have hG := AC
 refine Aey.a HY (by simp [Gv]) ?_
 rintro ⟨a, b, m⟩ hv C hN Q hQ
 have Z := Aey.R EF0 hG hN
 refine Aa (Z 0 rfl ?_)
 simp only [go_sem, simprocAttr, Gv, Distance.enc]
 refine Aa (Z 1 rfl ?_)
 simp only [go_sem, simprocAttr]
 and_intros <;> try exact sdA
 refine Ae (hQ _ _ (.inl rfl) ?_ ?_ ?_) <;> simp only [go_sem, simprocAttr, EL, Cj]
theorem Kn : PU 151 (gOf Gv EL) := by
 have hG := AC
 refine AeP.a HY (by simp [Gv]) ?_
 rintro ⟨a, b, m⟩ hv C hN Q hQ
 have Z := AeP.R EF0 hG hN
 refine Aa (Z 0 rfl ?_)
 simp only [go_sem, simprocAttr, Gv, Distance.enc]
 refine Aa (Z 1 rfl ?_)
 simp only [go_sem, simprocAttr]
 and_intros <;> try exact sdA
 refine Ae (hQ _ _ (.inl rfl) ?_ ?_ ?_) <;> simp only [go_sem, simprocAttr, EL, Cj]
def CO (n : Int) (s : List UInt8) : Bool := decide ((s.length : Int) = n) && HV capB s
def Ey (x : List UInt8) : List V := [.str x]
theorem CF (a b : List UInt8) (h : Ey a = Ey b) : a = b := by
 simp only [Ey, List.cons.injEq, V.str.injEq, V.int.injEq, V.bool.injEq, V.agg.injEq, V.list.injEq, and_true, true_and] at h
 have h0 := h
 subst h0
 rfl
def Ig (n : Int) (s : List UInt8) : Prop × V := (s.length ≤ 140737488355328, .bool (CO n s))
theorem Am (n : Int) (s : List UInt8) : gOf Ey (Ig n) [.str s] = (s.length ≤ 140737488355328, .bool (CO n s)) := Ar CF s
noncomputable def AfY : Tab
 | 54 => DG
 | _ => gNo
theorem Qb : ∀ f, PU f (AfY f) := fun f => by
 unfold AfY
 split
 ·exact Ir
 ·exact Ao.no
theorem Gf : PU 129 (gOf Ey (Ig 3)) := by
 have hG := Qb
 refine Ae1.a CF (by simp [Ey]) ?_
 rintro s hv C hN Q hQ
 have Z := Ae1.R EF0 hG hN
 replace hv : s.length ≤ 140737488355328 := hv
 refine Aa (Z 0 rfl ?_)
 simp only [go_sem, simprocAttr, Ey]
 refine Aa (Z 1 rfl ?_)
 simp only [go_sem, simprocAttr, AfY, DG, hv]
 and_intros <;> try exact sdA
 refine Ae (hQ _ _ (.inl rfl) ?_ ?_ ?_) <;> simp only [go_sem, simprocAttr, Ig, CO]
 rw [Bool.and_comm]
theorem Hj : PU 131 (gOf Ey (Ig 2)) := by
 have hG := Qb
 refine AeZ.a CF (by simp [Ey]) ?_
 rintro s hv C hN Q hQ
 have Z := AeZ.R EF0 hG hN
 replace hv : s.length ≤ 140737488355328 := hv
 refine Aa (Z 0 rfl ?_)
 simp only [go_sem, simprocAttr, Ey]
 refine Aa (Z 1 rfl ?_)
 simp only [go_sem, simprocAttr, AfY, DG, hv]
 and_intros <;> try exact sdA
 refine Ae (hQ _ _ (.inl rfl) ?_ ?_ ?_) <;> simp only [go_sem, simprocAttr, Ig, CO]
 rw [Bool.and_comm]
def AaI (n : Int) : Bool := decide (-840 ≤ n) && decide (n ≤ 840)
def Eb (x : Int) : List V := [.int .i64 x]
theorem Cb (a b : Int) (h : Eb a = Eb b) : a = b := by
 simp only [Eb, List.cons.injEq, V.str.injEq, V.int.injEq, V.bool.injEq, V.agg.injEq, V.list.injEq, and_true, true_and] at h
 have h0 := h
 subst h0
 rfl
def Agh (n : Int) : Prop × V := (True, .bool (AaI n))
theorem BM (n : Int) : gOf Eb Agh [.int .i64 n] = (True, .bool (AaI n)) := Ar Cb n
theorem Adm : PU 189 (gOf Eb Agh) := by
 have hG := AC
 refine Aev.a Cb (by simp [Eb]) ?_
 rintro n hv C hN Q hQ
 have Z := Aev.R EF0 hG hN
 refine Aa (Z 0 rfl ?_)
 simp only [go_sem, simprocAttr, Eb]
 refine Aa (Z 1 rfl ?_)
 simp only [go_sem, simprocAttr]
 and_intros <;> try exact sdA
 refine Ae (hQ _ _ (.inl rfl) ?_ ?_ ?_) <;> simp only [go_sem, simprocAttr, Agh, AaI]
def atB (n : Int) : Bool := decide (n < 0) || decide (52596000 ≤ n)
def CS (l : List Shift) (i : Nat) : Bool := atB (l.getD i Shift.zero).at' || (decide (0 < i) && decide ((l.getD i Shift.zero).at' - (l.getD (i - 1) Shift.zero).at' < 2880))
def DB (l : List Shift) (i : Nat) : Int := if CS l i then 13 else if AaI (l.getD i Shift.zero).offset then 0 else 2
def Ha (l : List Shift) : Nat → Nat → Int
 | 0, _ => 0
 | f + 1, i => if DB l i = 0 then Ha l f (i + 1) else DB l i
def Ly (z : Zone) : Int := if 256 < z.shifts.length then 4 else if AaI z.offset then Ha z.shifts z.shifts.length 0 else 2
theorem MQ {l : List Shift} {i : Nat} (hi : i < l.length) (h1 : CS l i = false) (h2 : AaI l[i].offset = true) : Ha l (l.length - i) i = Ha l (l.length - (i + 1)) (i + 1) := by
 obtain ⟨m, hm⟩ : ∃ m, l.length - i = m + 1 := ⟨l.length - i - 1, by omega⟩
 have e : DB l i = 0 := by unfold DB; rw [h1, BX _ _ _ hi, h2]; rfl
 rw [hm, Ha, if_pos e, show l.length - (i + 1) = m by omega]
theorem JT {l : List Shift} {i : Nat} (hi : i < l.length) (h1 : CS l i = true) : Ha l (l.length - i) i = 13 := by
 obtain ⟨m, hm⟩ : ∃ m, l.length - i = m + 1 := ⟨l.length - i - 1, by omega⟩
 have e : DB l i = 13 := by unfold DB; rw [h1]; rfl
 rw [hm, Ha, e]; rfl
theorem JS {l : List Shift} {i : Nat} (hi : i < l.length) (h1 : CS l i = false) (h2 : AaI l[i].offset = false) : Ha l (l.length - i) i = 2 := by
 obtain ⟨m, hm⟩ : ∃ m, l.length - i = m + 1 := ⟨l.length - i - 1, by omega⟩
 have e : DB l i = 2 := by unfold DB; rw [h1, BX _ _ _ hi, h2]; rfl
 rw [hm, Ha, e]; rfl
theorem AfO {l : List Shift} {i : Nat} (hi : i < l.length) (hz : 0 < i) : CS l i = (decide (l[i].at' < 0) || decide (52596000 ≤ l[i].at') || decide (l[i].at' - l[i - 1].at' < 2880)) := by
 unfold CS atB; rw [BX _ _ _ hi, BX _ _ _ (by omega), decide_eq_true hz, Bool.true_and]
theorem Aik {l : List Shift} {i : Nat} (hi : i < l.length) (hz : ¬ 0 < i) : CS l i = (decide (l[i].at' < 0) || decide (52596000 ≤ l[i].at')) := by
 unfold CS atB; rw [BX _ _ _ hi, decide_eq_false hz, Bool.false_and, Bool.or_false]
theorem AfQ {l : List Shift} {i : Nat} (hi : i < l.length) (h : CS l i = false) : 0 ≤ l[i].at' ∧ l[i].at' < 52596000 := by
 unfold CS atB at h; rw [BX _ _ _ hi] at h
 simp only [Bool.or_eq_false_iff, decide_eq_false_iff_not] at h
 omega
def Lu (x : Zone) : List V := [.agg x.enc]
theorem Lt (a b : Zone) (h : Lu a = Lu b) : a = b := by
 simp only [Lu, List.cons.injEq, V.str.injEq, V.int.injEq, V.bool.injEq, V.agg.injEq, V.list.injEq, and_true, true_and] at h
 have h0 := h
 replace h0 := Zone.inj _ _ h0
 subst h0
 rfl
def Ie (z : Zone) : Prop × V := (z.ok, .int .i64 (Ly z))
noncomputable def trZ : Tab
 | 189 => (gOf Eb Agh)
 | _ => gNo
theorem Acn : ∀ f, PU f (trZ f) := fun f => by
 unfold trZ
 split
 ·exact Adm
 ·exact Ao.no
theorem Aaa : PU 149 (gOf Lu Ie) := by
 have hG := Acn
 refine AeR.a Lt (by simp [Lu]) ?_
 rintro ⟨zo, sh⟩ hv C hN Q hQ
 have Y := AeR.D EF0 hG hN mixed
 have Z := AeR.R EF0 hG hN
 obtain ⟨hzo, hsl, hss⟩ : (⟨zo, sh⟩ : Zone).ok := hv
 dsimp only at hzo hsl hss
 refine Aa (Z 0 rfl ?_)
 simp only [go_sem, simprocAttr, Lu, Zone.enc, trZ, BM]
 refine Aa (Aa (Z 1 rfl ?_))
 simp only [go_sem, simprocAttr, trZ, BM]
 refine Ab rfl (fun hc1 => ?_) fun hc1 => ?_
 ·simp only [hcL] at hc1
  refine Aa (Z 2 rfl ?_)
  simp only [go_sem, simprocAttr, trZ, BM]
  refine Ae (hQ _ _ (.inl rfl) ?_ ?_ ?_) <;> simp only [go_sem, simprocAttr, Ie]
  unfold Ly; rw [if_pos (by dsimp only; omega)]
 simp only [hcL] at hc1
 refine Ac ?_
 refine Aa (Aa (Z 3 rfl ?_))
 simp only [go_sem, simprocAttr, trZ, BM]
 and_intros <;> try exact sdA
 refine Ab rfl (fun hb3 => ?_) fun hb3 => ?_
 ·refine Aa (Z 4 rfl ?_)
  simp only [go_sem, simprocAttr, trZ, BM]
  refine Ae (hQ _ _ (.inl rfl) ?_ ?_ ?_) <;> simp only [go_sem, simprocAttr, Ie]
  unfold Ly; rw [if_neg (by dsimp only; omega), if_neg (by simpa using hb3)]
 refine Ac ?_
 refine Aa ?_
 have hze : Ly ⟨zo, sh⟩ = Ha sh (sh.length - 0) 0 := by unfold Ly; rw [if_neg (by dsimp only; omega), if_pos (by simpa using hb3)]; rfl
 refine Aa (Z 5 rfl ?_)
 simp only [go_sem, simprocAttr, trZ, BM]
 refine Ad ?_
 refine Aj (α := Nat) (fun i => (i ≤ sh.length) ∧ (Ly ⟨zo, sh⟩ = Ha sh (sh.length - i) i) ∧ (∀ j (hj : j < sh.length), j < i → 0 ≤ sh[j].at' ∧ sh[j].at' < 52596000)) (fun i => ⟨mkE [(1, V.ptr 1 0), (3, .int .i64 i)], mkH [(1, Ob.box 86 [V.int IntKind.i64 zo, V.list (List.map Shift.enc sh) false])]⟩) (fun i => sh.length - i) 0 ⟨Nat.zero_le _, hze, fun j _ hj => absurd hj (Nat.not_lt_zero _)⟩ ?_ ?_
 ·exact leM
 rintro i ⟨hi, hinv, hpr⟩ KL0 hKL0
 try dsimp only at *
 refine Aa (Aa (Z 6 rfl ?_))
 simp only [go_sem, simprocAttr, trZ, BM]
 refine Ab rfl (fun hc6 => ?_) fun hc6 => ?_
 ·simp only [hcL] at hc6
  refine Ac ?_
  refine Aa (Ad ?_)
  refine Aa (Z 8 rfl ?_)
  simp only [go_sem, simprocAttr, Af _ _ _ _ hc6, hc6, Shift.enc, trZ, BM]
  and_intros <;> try exact sdA
  refine Aa ?_
  by_cases hz : 0 < i
  ·have hzi : ((0 : Int) < (i : Int)) = True := eq_true (by omega)
   have hj1 : i - 1 < sh.length := by omega
   have hpj := hpr (i - 1) hj1 (by omega)
   have e1 : (i : Int) - 1 = ((i - 1 : Nat) : Int) := by omega
   have hsb := AfO hc6 hz
   refine Aa (Y 9 rfl (by kernel_rfl) ?_)
   simp only [go_sem, simprocAttr, inI, hzi, trZ, BM, e1, Af _ _ _ _ hj1, hj1, Shift.enc]
   and_intros <;> (try first | exact sdA | (intro h; refine ⟨h, ?_, ?_⟩ <;> (simp only [Bool.not_eq_true', Bool.or_eq_false_iff, decide_eq_false_iff_not] at h; omega)))
   refine Ab rfl (fun hb => ?_) fun hb => ?_
   ·refine Aa (Z 10 rfl ?_)
    simp only [go_sem, simprocAttr, trZ, BM]
    refine Ae (hQ _ _ (.inl rfl) ?_ ?_ ?_) <;> simp only [go_sem, simprocAttr, Ie]
    rw [hinv, JT hc6 (hsb.trans hb)]
   refine Ac ?_
   refine Aa (Z 11 rfl ?_)
   simp only [go_sem, simprocAttr, trZ, BM]
   and_intros <;> try exact sdA
   refine Ab rfl (fun hbo => ?_) fun hbo => ?_
   ·refine Aa (Z 12 rfl ?_)
    simp only [go_sem, simprocAttr, trZ, BM]
    refine Ae (hQ _ _ (.inl rfl) ?_ ?_ ?_) <;> simp only [go_sem, simprocAttr, Ie]
    rw [hinv, JS hc6 (hsb.trans hb) (by simpa using hbo)]
   refine Ac ?_
   refine Z 7 rfl ?_
   simp only [go_sem, simprocAttr, inI, trZ, BM]
   and_intros <;> try exact sdA
   refine hKL0 (i + 1) _ ?_ ?_ ?_
   ·(try dsimp only); refine ⟨hc6, by rw [hinv, MQ hc6 (hsb.trans hb) (by simpa using hbo)], fun j hj hji => ?_⟩; by_cases e : j = i; (subst e; exact AfQ hj (hsb.trans hb)); (exact hpr j hj (by omega))
   ·(try dsimp only); omega
   exact leM
  have hzi : ((0 : Int) < (i : Int)) = False := eq_false (by omega)
  have hsb := Aik hc6 hz
  obtain rfl : i = 0 := by omega
  have e0 : ((0 : Int) - 1).toNat = 0 := rfl
  refine Aa (Y 9 rfl (by kernel_rfl) ?_)
  simp only [go_sem, simprocAttr, inI, hzi, trZ, BM, e0, Int.lt_irrefl, Nat.lt_irrefl, Af _ _ _ _ hc6, hc6, Shift.enc]
  and_intros <;> (try first | exact sdA | (intro h; refine ⟨h, ?_, ?_⟩ <;> (simp only [Bool.not_eq_true', Bool.or_eq_false_iff, decide_eq_false_iff_not] at h; omega)))
  refine Ab rfl (fun hb => ?_) fun hb => ?_
  ·refine Aa (Z 10 rfl ?_)
   simp only [go_sem, simprocAttr, trZ, BM]
   refine Ae (hQ _ _ (.inl rfl) ?_ ?_ ?_) <;> simp only [go_sem, simprocAttr, Ie]
   rw [hinv, JT hc6 (hsb.trans hb)]
  refine Ac ?_
  refine Aa (Z 11 rfl ?_)
  simp only [go_sem, simprocAttr, trZ, BM]
  and_intros <;> try exact sdA
  refine Ab rfl (fun hbo => ?_) fun hbo => ?_
  ·refine Aa (Z 12 rfl ?_)
   simp only [go_sem, simprocAttr, trZ, BM]
   refine Ae (hQ _ _ (.inl rfl) ?_ ?_ ?_) <;> simp only [go_sem, simprocAttr, Ie]
   rw [hinv, JS hc6 (hsb.trans hb) (by simpa using hbo)]
  refine Ac ?_
  refine Z 7 rfl ?_
  simp only [go_sem, simprocAttr, inI, trZ, BM]
  and_intros <;> try exact sdA
  refine hKL0 (0 + 1) _ ?_ ?_ ?_
  ·(try dsimp only); refine ⟨hc6, by rw [hinv, MQ hc6 (hsb.trans hb) (by simpa using hbo)], fun j hj hji => ?_⟩; (obtain rfl : j = 0 := by omega); exact AfQ hj (hsb.trans hb)
  ·(try dsimp only); omega
  exact leM
 simp only [hcL] at hc6
 refine Ai ?_
 simp only [go_sem, simprocAttr]
 refine Aa (Z 13 rfl ?_)
 simp only [go_sem, simprocAttr, trZ, BM]
 refine Ae (hQ _ _ (.inl rfl) ?_ ?_ ?_) <;> simp only [go_sem, simprocAttr, Ie]
 rw [hinv, show sh.length - i = 0 by omega]; rfl
def aP1 (x : Places) : List V := [.agg x.enc]
theorem TE (a b : Places) (h : aP1 a = aP1 b) : a = b := by
 simp only [aP1, List.cons.injEq, V.str.injEq, V.int.injEq, V.bool.injEq, V.agg.injEq, V.list.injEq, and_true, true_and] at h
 have h0 := h
 replace h0 := Places.inj _ _ h0
 subst h0
 rfl
def Df (L : AB Int) : List (List V) := L.map fun p => [.str p.1, .int .i64 p.2]
theorem QH (L : AB Int) : (Df L).length = L.length := List.length_map _
theorem DT (L : AB Int) (i : Nat) (d : List V) (h : i < L.length) : (Df L).getD i d = [.str L[i].1, .int .i64 L[i].2] := by
 unfold Df; rw [List.getD_eq_getElem?_getD, List.getElem?_map, List.getElem?_eq_getElem h]; rfl
theorem QF (L : AB Int) (i : Nat) (c : List UInt8) (v : Int) : (Df L).set i [.str c, .int .i64 v] = Df (L.set i (c, v)) := by unfold Df; rw [List.map_set]
theorem OS (L : AB Int) (c : List UInt8) (v : Int) : Df L ++ [[.str c, .int .i64 v]] = Df (L ++ [(c, v)]) := by unfold Df; rw [List.map_append]; rfl
theorem Hd (L : AB Int) : ∀ r ∈ Df L, V.purs r = true := by intro r hr; obtain ⟨p, _, rfl⟩ := List.mem_map.1 hr; rfl
theorem FZ (L : AB Int) : (∀ r ∈ Df L, V.purs r = true) ↔ True := iff_true_intro (Hd L)
theorem OR (L : AB Int) : (∀ r ∈ Df L, r.length = 2) ↔ True := iff_true_intro fun r hr => by obtain ⟨p, _, rfl⟩ := List.mem_map.1 hr; rfl
attribute [go_sem] QH FZ OR
theorem Tv {L : AB Int} {c : List UInt8} {i : Nat} (hi : i < L.length) (hp : ∀ p ∈ L.take i, decide (p.1 = c) = false) (h : L[i].1 = c) : Bo L c = some L[i].2 := by
 unfold Bo
 have e1 : L.find? (fun p => decide (p.1 = c)) = (L.take i ++ L.drop i).find? fun p => decide (p.1 = c) := by rw [List.take_append_drop]
 rw [e1, List.find?_append, List.find?_eq_none.2 (fun p hq => by rw [hp p hq]; decide), Option.none_or, List.drop_eq_getElem_cons hi, List.find?_cons_of_pos (by simpa using h)]; rfl
theorem Tt {L : AB Int} {c : List UInt8} {i : Nat} (hi : L.length ≤ i) (hp : ∀ p ∈ L.take i, decide (p.1 = c) = false) : Bo L c = none := by
 rw [List.take_of_length_le hi] at hp
 unfold Bo
 rw [List.find?_eq_none.2 fun p hq => by rw [hp p hq]; decide]; rfl
def aRe (x : AB Int × List UInt8) : List V := [.list (Df x.1) false, .str x.2]
theorem TA (a b : AB Int × List UInt8) (h : aRe a = aRe b) : a = b := by
 obtain ⟨a1, a2⟩ := a
 obtain ⟨b1, b2⟩ := b
 simp only [aRe, Df, List.cons.injEq, V.list.injEq, V.str.injEq, and_true] at h
 obtain ⟨h1, rfl⟩ := h
 rw [Aw (fun a b h => by obtain ⟨x, y⟩ := a; obtain ⟨z, w⟩ := b; simpa using h) h1]
def fRe (x : AB Int × List UInt8) : Prop × V := (x.1.length ≤ 140737488355328, .int .i64 ((Bo x.1 x.2).getD (-1)))
theorem Rk : PU 190 (gOf aRe fRe) := by
 have hG := AC
 refine Aeu.a TA (by simp [aRe]) ?_
 rintro ⟨L, c⟩ hv C hN Q hQ
 have Z := Aeu.R EF0 hG hN
 replace hv : L.length ≤ 140737488355328 := hv
 refine Aa (Z 0 rfl ?_)
 simp only [go_sem, simprocAttr, aRe]
 refine Aa (Aa (Z 1 rfl ?_))
 simp only [go_sem, simprocAttr]
 refine Ad ?_
 refine Aj (α := Nat) (fun i => (i ≤ L.length) ∧ (∀ p ∈ L.take i, decide (p.1 = c) = false)) (fun i => ⟨mkE [(0, V.list (Df L) false), (1, V.str c), (5, .int .i64 i)], mkH []⟩) (fun i => L.length - i) 0 (by simp) ?_ ?_
 ·exact leM
 rintro i ⟨hi, hp⟩ KL0 hKL0
 try dsimp only at *
 refine Aa (Aa (Z 2 rfl ?_))
 simp only [go_sem, simprocAttr]
 refine Ab rfl (fun hc2 => ?_) fun hc2 => ?_
 ·simp only [hcL] at hc2
  refine Ac ?_
  refine Aa (Ad ?_)
  refine Aa (Z 4 rfl ?_)
  simp only [go_sem, simprocAttr, DT _ _ _ hc2, hc2]
  and_intros <;> try exact sdA
  refine Ab rfl (fun hb => ?_) fun hb => ?_
  ·refine Aa (Z 5 rfl ?_)
   simp only [go_sem, simprocAttr, DT _ _ _ hc2, hc2]
   and_intros <;> try exact sdA
   refine Ae (hQ _ _ (.inl rfl) ?_ ?_ ?_) <;> simp only [go_sem, simprocAttr, fRe]
   rw [Tv hc2 hp (of_decide_eq_true hb)]; rfl
  refine Ac ?_
  refine Z 3 rfl ?_
  simp only [go_sem, simprocAttr, inI]
  and_intros <;> try exact sdA
  refine hKL0 (i + 1) _ ?_ ?_ ?_
  ·(try dsimp only); exact ⟨hc2, Dz hc2 hp hb⟩
  ·(try dsimp only); omega
  exact leM
 simp only [hcL] at hc2
 refine Ai ?_
 simp only [go_sem, simprocAttr]
 refine Aa (Z 6 rfl ?_)
 simp only [go_sem, simprocAttr]
 refine Ae (hQ _ _ (.inl rfl) ?_ ?_ ?_) <;> simp only [go_sem, simprocAttr, fRe]
 rw [Tt hc2 hp]; rfl
end Go.Proofs.YtjkclhbckfkeeaaGreatDoor
