/- The exchange that reflectlite hands a sort: it exchanges two elements of the row. -/
import Derived.Test.YtdjeodopibaebaaDoorSo2
namespace Go.Proofs.YtdjeodopibaebaaDoor
open Go Go.RowKit
set_option linter.unusedSimpArgs false
set_option linter.unusedVariables false
set_option linter.deprecated false
noncomputable def intT : TypeInfo := (Tryd.prog.info? 3).get (by kernel_rfl)
/-- The type's handle that the exchange is bound to. -/
noncomputable def hdl : Value := Go.typeHandle Tryd.prog 3
theorem run_swapper (args : Array Value) (W : World) : (callFunc 55 args).run Tryd.prog W = ((Extern.ReflectliteSwapper.swap true args).run Tryd.prog W).andThen fun v w' => .ok (.value v) w' :=
  run_callFunc_extern Tryd.func55 (by kernel_rfl) (by kernel_rfl) (by kernel_rfl) (e := Extern.ReflectliteSwapper.swap true) (by kernel_rfl) args W
theorem arr_bang (l : List Int) (i : Nat) (h : i < l.length) : l.toArray[i]! = l.getD i 0 := by
  rw [List.getD_eq_getElem?_getD, List.getElem?_eq_getElem h, getElem!_pos _ i (by simpa using h)]
  simp
theorem so_arr {r : List Int} {k : Nat} {d : List Nat} {n : Nat} {t sz rows} (h : mkH (SO r k d) n = some (.arr t sz rows)) : n = 1002 ∧ t = 40 ∧ sz = 1 ∧ rows = urow r ∨ n = 1003 ∧ t = 3 ∧ sz = 1 ∧ rows = nrow d := by
  simp only [SO, mkH] at h
  repeat' split at h
  all_goals first | (rename_i e; subst e; injection h with h; injection h with h1 h2 h3; subst h1 h2 h3; simp; done) | (injection h with h; cases h) | cases h
theorem mkH_so (r : List Int) (n : Nat) (d : List Nat) (d' : List Nat) : hupd (mkH (SO r n d)) 1003 (.arr 3 1 (nrow d')) = mkH (SO r n d') := by
  funext m
  unfold hupd
  simp only [SO, mkH]
  by_cases e : m = 1003
  · subst e; simp
  · rw [if_neg e, if_neg e, if_neg e]
theorem own_row {w : World} {t : TypeId} {v : Value} {n : Nat} {xs : List Value} (h : w.ownsRow 0 t 1 v n xs) (h0 : 0 < n) : ∃ g cap, v = .slice (some ⟨g, 0, none⟩) n cap ∧ g < w.heap.size := by
  rcases h.2 with ⟨_, e⟩ | ⟨g, cap, cur, e, _, hh, _⟩
  · omega
  · exact ⟨g, cap, e, (Array.getElem?_eq_some_iff.1 hh).1⟩
theorem swp_get (d : List Nat) {i j k : Nat} (hi : i < d.length) (hj : j < d.length) (hk : k < d.length) : (swp d i j).getD k 0 = if j = k then d.getD i 0 else if i = k then d.getD j 0 else d.getD k 0 := by
  simp only [swp, List.getD_eq_getElem?_getD, List.getElem?_set, List.length_set]
  by_cases c1 : j = k
  · subst c1; simp [hj]
  · by_cases c2 : i = k
    · subst c2; simp [c1, hi]
    · simp [c1, c2]
theorem pin_inv {M : Nat → Prop} {w : World} {ι : Nat → Value} {h : Nat → Option Ob} {cv cv' : Value} (r : Rel M w ι h (.pin cv) cv') : cv' = cv := by cases r with | pur hp => cases hp; rfl
theorem swap_e (r : List Int) (n : Nat) (d : List Nat) (hn : d.length = n) (i j : Nat) (hi : i < d.length) (hj : j < d.length) :
    Eff Tryd.prog UT 55 [.int .i64 i, .int .i64 j, .own 1003 n, .pin hdl] (SO r n d) (.tup []) (SO r n (swp d i j)) := by
  subst hn
  refine .inr fun w M ι cargs hm hsz hargs => ?_
  have a0 := (hargs 0 _ rfl).int_inv
  have a1 := (hargs 1 _ rfl).int_inv
  have a2 := hargs 2 _ rfl
  have a3 : cargs.getD 3 undef = hdl := pin_inv (hargs 3 _ rfl)
  obtain ⟨xs, hown, hrl, hx1, hv⟩ := hm.obj 1003 (.arr 3 1 (nrow d)) rfl
  rw [nrow_len] at hown
  have e2 : cargs.getD 2 undef = ι 1003 := by
    cases a2 with
    | pur hp => cases hp
    | own _ _ t sz rows _ ho hle hv hs =>
      rcases so_arr ho with ⟨e, _⟩ | ⟨_, _, _, rfl⟩
      · cases e
      · exact hv (nrow_len d)
  obtain ⟨g, cap, eι, hg⟩ := own_row hown (by omega)
  have hcargs : cargs = #[.int .i64 i, .int .i64 j] ++ #[.slice (some ⟨g, 0, none⟩) d.length cap, hdl] := by
    rw [← eι, ← e2, ← a0, ← a1, ← a3]
    refine Array.ext (by simpa using hsz) fun k hk _ => ?_
    have hk4 : k < 4 := by rw [hsz] at hk; exact hk
    match k, hk4 with
    | 0, _ => simp [Array.getD, show 0 < cargs.size by omega]
    | 1, _ => simp [Array.getD, show 1 < cargs.size by omega]
    | 2, _ => simp [Array.getD, show 2 < cargs.size by omega]
    | 3, _ => simp [Array.getD, show 3 < cargs.size by omega]
  have hxs : ∀ k (hk : k < d.length), xs[k]? = some (.int .i64 ((d.getD k 0 : Nat) : Int)) := fun k hk => by
    have h1 := hv k 0 [.int .i64 ((d.getD k 0 : Nat) : Int)] (.int .i64 ((d.getD k 0 : Nat) : Int)) (by
      have := nrow_getD d k [] hk
      rw [List.getD_eq_getElem?_getD, List.getElem?_eq_getElem (by rw [nrow_len]; exact hk), Option.getD_some] at this
      rw [List.getElem?_eq_getElem (by rw [nrow_len]; exact hk), this]) rfl
    have hl : k < xs.length := by rw [hown.1]; omega
    rw [List.getElem?_eq_getElem hl, ← h1.int_inv, Nat.mul_one, Nat.add_zero, List.getD_eq_getElem?_getD, List.getElem?_eq_getElem hl]
    rfl
  rw [eι] at hown
  generalize hD : (d.map fun (k : Nat) => (k : Int)) = D
  have hDl : D.length = d.length := by rw [← hD, List.length_map]
  have hDg : ∀ k, k < d.length → D.toArray[k]! = ((d.getD k 0 : Nat) : Int) := fun k hk => by
    rw [arr_bang D k (by omega), ← hD, List.getD_eq_getElem?_getD, List.getElem?_map, List.getD_eq_getElem?_getD, List.getElem?_eq_getElem hk]
    rfl
  have hH : Sort.Holds (Value.int .i64) w g 0 D.toArray := fun k hk => by
    have hk2 : k < d.length := by simpa [hDl] using hk
    rw [Nat.zero_add]
    exact ⟨by rw [hown.cellAt k (by omega), hxs k hk2, hDg k hk2], hown.frozenAt k⟩
  have hrun := swapSwaps_of_literal (P := Tryd.prog) true 55 run_swapper 3 intT (by kernel_rfl) (by kernel_rfl) (fun _ => by kernel_rfl) (Value.int .i64) (fun _ => rfl) g 0 d.length cap w D.toArray hH (by simpa using hDl) i j hi hj
  rw [hDg i hi, hDg j hj, Nat.zero_add, Nat.zero_add] at hrun
  obtain ⟨o1, g1⟩ := hown.stored i (.int .i64 ((d.getD j 0 : Nat) : Int))
  obtain ⟨o2, g2⟩ := o1.stored j (.int .i64 ((d.getD i 0 : Nat) : Int))
  generalize hw1 : (w.setCell ⟨g, i, none⟩ (.int .i64 ((d.getD j 0 : Nat) : Int))).setCell ⟨g, j, none⟩ (.int .i64 ((d.getD i 0 : Nat) : Int)) = w1 at *
  have hids : iupd ι 1003 (ι 1003) = ι := by funext m; unfold iupd; split <;> simp_all
  have hlen := swp_len d i j
  have hkeep : Keeps (mkH (SO r d.length d)) (hupd (mkH (SO r d.length d)) 1003 (.arr 3 1 (nrow (swp d i j)))) ι (iupd ι 1003 (ι 1003)) :=
    Keeps.put (o := .arr 3 1 (nrow d)) rfl (.inr (.inl ⟨_, _, _, _, rfl, rfl, by rw [nrow_len, nrow_len, hlen]; exact Nat.le_refl _, fun _ => rfl⟩))
  have hblk : ∀ k, k < w.heap.size → (∀ o, mkH (SO r d.length d) 1003 = some o → blk (ι 1003) ≠ some k) → w1.heap[k]? = w.heap[k]? := fun k _ hne => by
    have hkg : k ≠ g := fun e => hne _ rfl (by rw [eι, e]; rfl)
    rw [← hw1, Below.heap_setCell _ _ _ k hkg, Below.heap_setCell _ _ _ k hkg]
  have hob : obR M w1 (iupd ι 1003 (ι 1003)) (hupd (mkH (SO r d.length d)) 1003 (.arr 3 1 (nrow (swp d i j)))) 1003 (.arr 3 1 (nrow (swp d i j))) := by
    rw [hids]
    refine ⟨(xs.set i (.int .i64 ((d.getD j 0 : Nat) : Int))).set j (.int .i64 ((d.getD i 0 : Nat) : Int)), ?_, nrow_oneT _ |>.2 trivial, fun x hx => ?_, fun k m row v h1 h2 => ?_⟩
    · rw [nrow_len, hlen, eι]; exact o2
    · rcases List.mem_or_eq_of_mem_set hx with hx | rfl
      · rcases List.mem_or_eq_of_mem_set hx with hx | rfl
        · exact hx1 x hx
        · rfl
      · rfl
    · have hk : k < d.length := by have := (List.getElem?_eq_some_iff.1 h1).1; rwa [nrow_len, hlen] at this
      have hrow : row = [.int .i64 (((swp d i j).getD k 0 : Nat) : Int)] := by
        have := nrow_getD (swp d i j) k [] (by omega)
        rw [List.getD_eq_getElem?_getD, h1] at this
        exact this
      subst hrow
      obtain rfl : m = 0 := by have := (List.getElem?_eq_some_iff.1 h2).1; simp at this; omega
      injection h2 with h2
      subst h2
      have hxl : xs.length = d.length := by have := hown.1; omega
      have : ((xs.set i (.int .i64 ((d.getD j 0 : Nat) : Int))).set j (.int .i64 ((d.getD i 0 : Nat) : Int))).getD (k * 1 + 0) undef = .int .i64 (((swp d i j).getD k 0 : Nat) : Int) := by
        rw [Nat.mul_one, Nat.add_zero, swp_get d hi hj hk, List.getD_eq_getElem?_getD]
        simp only [List.getElem?_set, List.length_set, hxl]
        by_cases c1 : j = k
        · subst c1; simp [hk]
        · by_cases c2 : i = k
          · subst c2; simp [c1, hk]
          · simp only [c1, c2, if_false]
            rw [hxs k hk]; rfl
      rw [this]
      exact .pur (.int _ _)
  obtain ⟨s1, s2⟩ := hm.step 1003 (.arr 3 1 (nrow (swp d i j))) (ι 1003) w1 (by rw [← hw1]; simp) (by rw [← hw1]; rfl) (by rw [← hw1]; rfl) (by rw [← hw1]; rfl) hblk (fun q hq => .inl ⟨_, rfl, hq⟩) hkeep hob (fun _ => rfl) (fun _ => ⟨fun _ _ h => (by cases h), fun _ h => (by cases h)⟩)
  rw [hids, mkH_so r _ d _] at s1
  refine ⟨.tuple #[], w1, M, ι, ?_, .pur (.tup [] #[] rfl (fun i v hi => by cases hi)), s1⟩
  rw [hcargs]
  exact hrun
end Go.Proofs.YtdjeodopibaebaaDoor
