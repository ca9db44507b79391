/- The sorted keys of a map. -/
import Derived.Test.YtkdkjbneohdofaaDoorT5
import Derived.Test.YtkdkjbneohdofaaDoorIter
namespace Go.Proofs.YtkdkjbneohdofaaDoor
open Go Go.RowKit
set_option linter.unusedSimpArgs false
set_option linter.unusedVariables false
set_option linter.deprecated false
/-! Texts in order. -/
theorem slt_dec (x y : List UInt8) : slt x y = decide (x < y) := by
  induction x generalizing y with
  | nil => cases y with
    | nil => simp [slt_nil]
    | cons b y => simp [slt_nilc]
  | cons a x ih =>
    cases y with
    | nil => simp [slt_nil]
    | cons b y =>
      rw [slt_cons, ih y]
      simp only [List.cons_lt_cons_iff]
      by_cases h1 : a < b <;> by_cases h2 : a = b <;> by_cases h3 : x < y <;> simp [h1, h2, h3]
theorem le_slt : (fun x y : List UInt8 => decide (x ≤ y)) = fun x y => !slt y x := by
  funext x y
  rw [slt_dec, ← decide_not]
  exact decide_eq_decide.2 Iff.rfl
def sortS (l : List (List UInt8)) : List (List UInt8) := l.mergeSort (fun x y => !slt y x)
theorem sortS_perm (l : List (List UInt8)) : (sortS l).Perm l := List.mergeSort_perm _ _
theorem sortS_sorted (l : List (List UInt8)) : (sortS l).Pairwise (fun x y => slt y x = false) := by
  have h := List.pairwise_mergeSort (le := fun x y : List UInt8 => !slt y x) (fun a b c h1 h2 => by
    simp only [Bool.not_eq_true'] at h1 h2 ⊢
    rcases slt_tri b a with h | h | h
    · rw [h] at h1; cases h1
    · rw [← h]; exact h2
    · rcases slt_tri c b with k | k | k
      · rw [k] at h2; cases h2
      · rw [k]; exact slt_asym h
      · exact slt_asym (slt_trans h k)) (fun a b => by
    rcases slt_tri a b with h | h | h
    · simp [slt_asym h]
    · subst h; simp [slt_irr]
    · simp [slt_asym h]) l
  exact h.imp fun h => by simpa using h
theorem sortS_eq {a b : List (List UInt8)} (h : a.Perm b) : sortS a = sortS b :=
  List.Perm.eq_of_pairwise (le := fun x y => slt y x = false) (fun x y _ _ h1 h2 => by
    rcases slt_tri x y with h | h | h
    · rw [h] at h2; cases h2
    · exact h
    · rw [h] at h1; cases h1) (sortS_sorted a) (sortS_sorted b) (((sortS_perm a).trans h).trans (sortS_perm b).symm)
/-- A list without repetition whose elements do not fall is one whose elements rise. -/
theorem rise_of {l : List (List UInt8)} (h : l.Pairwise (fun x y => slt y x = false)) (hn : l.Nodup) : l.Pairwise (fun x y => slt x y = true) :=
  (List.pairwise_and_iff.2 ⟨h, hn⟩).imp fun ⟨h1, h2⟩ => by
    rcases slt_tri _ _ with h | h | h
    · exact h
    · exact absurd h h2
    · rw [h] at h1; cases h1
/-- Two rising lists with the same elements are equal. -/
theorem rise_eq {a b : List (List UInt8)} (ha : a.Pairwise (fun x y => slt x y = true)) (hb : b.Pairwise (fun x y => slt x y = true)) (h : ∀ x, x ∈ a ↔ x ∈ b) : a = b := by
  have nd : ∀ {l : List (List UInt8)}, l.Pairwise (fun x y => slt x y = true) → l.Nodup := fun h => h.imp fun {x y} h e => by subst e; rw [slt_irr] at h; cases h
  exact List.Perm.eq_of_pairwise (le := fun x y => slt x y = true) (fun x y _ _ h1 h2 => by rw [slt_asym h1] at h2; cases h2) ha hb ((List.perm_ext_iff_of_nodup (nd ha) (nd hb)).2 h)
/-! The keys of a map. -/
def keyS : Ky → List UInt8
  | .s l => l
  | _ => []
def keysS (es : List (Ky × V)) : List (List UInt8) := es.map fun p => keyS p.1
theorem keysS_kmap {α : Type} (f : α → V) (L : Assoc α) : keysS (kmap f L) = L.map (·.1) := by unfold keysS kmap; rw [List.map_map]; rfl
def KeyOk (es : List (Ky × V)) : Prop := es.length ≤ 1000000 ∧ ∀ p ∈ es, p.1.kd = 0 ∧ (keyS p.1).length ≤ 140737488355328
theorem list_of_own {w : World} {base : Nat} {t : TypeId} {v : Value} {ss : List (List UInt8)} (h : w.ownsRow base t 1 v ss.length (ss.map encStr)) : ∃ Mn : Nat → Prop, (∀ b, Mn b → base ≤ b ∧ b < w.heap.size) ∧ ∀ M : Nat → Prop, (∀ b, Mn b → M b) → Pur M w (.list (strs ss) false) v := by
  rcases h.2 with ⟨e, h0⟩ | ⟨g, cap, cur, e, hbase, hh, hnc, _⟩
  · have h00 : ss = [] := List.length_eq_zero_iff.1 h0
    subst h00
    refine ⟨fun _ => False, fun _ h => h.elim, fun M _ => ?_⟩
    rw [e]
    exact .list [] false none 0 0 0 0 (fun _ _ => undef) (fun e => by cases e) (Nat.le_refl _) (fun _ => rfl) (.inl rfl) (fun r hr => by simp at hr) (fun i j hi _ => absurd hi (Nat.not_lt_zero _)) (fun i j r v hi => by simp at hi)
  · refine ⟨fun b => b = g, fun b hb => by rw [hb]; exact ⟨hbase, (Array.getElem?_eq_some_iff.1 hh).1⟩, fun M hM => ?_⟩
    rw [e]
    have hget : ∀ {i j : Nat}, i < ss.length → j < 1 → ∃ s, ss[i]? = some s ∧ (ss.map encStr).getD (i * 1 + j) undef = encStr s ∧ i * 1 + j < (ss.map encStr).length := fun {i j} hi hj => by
      obtain rfl : j = 0 := by omega
      refine ⟨ss[i], List.getElem?_eq_getElem hi, ?_, by rw [List.length_map]; omega⟩
      rw [List.getD_eq_getElem?_getD, List.getElem?_map, Nat.mul_one, Nat.add_zero, List.getElem?_eq_getElem hi]; rfl
    have := Pur.list (M := M) (w := w) (strs ss) false (some ⟨g, 0, none⟩) cap 1 g 0 (fun i j => (ss.map encStr).getD (i * 1 + j) undef) (fun e => by cases e) (by rw [strs_len]; exact hnc) (fun e => by cases e) (.inr ⟨rfl, hM g rfl⟩) (strs_one ss) (fun i j hi hj => ?_) (fun i j r v hi hj => ?_)
    · rwa [strs_len] at this
    · obtain ⟨s, _, h2, h3⟩ := hget (by rwa [strs_len] at hi) hj
      have hx := getD_of_lt undef h3
      refine ⟨?_, by rw [h2]; rfl⟩
      have := h.cells (g := g) (by rw [e]; rfl) _ _ hx
      rwa [addr_add, ← Nat.add_assoc] at this
    · have hi2 : i < ss.length := by have := (List.getElem?_eq_some_iff.1 hi).1; rwa [strs_len] at this
      have hr : r = [.str ss[i]] := by
        have := strs_getD ss i [] hi2
        rw [List.getD_eq_getElem?_getD, hi] at this
        exact this
      subst hr
      obtain rfl : j = 0 := by have := (List.getElem?_eq_some_iff.1 hj).1; simp at this; omega
      obtain ⟨s, h1, h2, _⟩ := hget (j := 0) hi2 (by omega)
      rw [List.getElem?_eq_getElem hi2] at h1
      injection h1 with h1
      rw [h2, ← h1]
      injection hj with hj
      subst hj
      exact .str _
/-- A frozen map, as the kit's own maps are told. -/
theorem owns_of_fmap {w : World} {es es0 : List (Ky × V)} {b : Nat} {ents : Array MapEntry} {clock : Nat} {f : Nat → MapEntry} {k : TypeId} (hk : Tryd.prog.underlying k = some .string) (hh : w.heap[b]? = some (.map ents clock)) (hs : MpSz es es0 ents clock)
    (he : ∀ (i : Nat) (kv : Ky × V), es0[i]? = some kv → ents[i]? = some (f i) ∧ KyRel kv.1 (f i).key) (ho : KeyOk es) :
    ∃ D0 : DataW Unit, w.ownsMap Tryd.prog k (fun _ => some (.nil, [])) b ents.size D0 ∧ Maps.size D0 = es.length ∧ (strKeys D0).Perm (keysS es) := by
  have hlen : es.length = ents.size := hs.perm.length_eq.symm.trans hs.len
  have at' : ∀ i (hi : i < es0.length), ents[i]? = some (f i) ∧ keyOf Tryd.prog k (f i).key = some (.string (keyS es0[i].1)) := by
    intro i hi2
    obtain ⟨g1, g2⟩ := he i es0[i] (List.getElem?_eq_getElem hi2)
    refine ⟨g1, ?_⟩
    obtain ⟨h1, h2⟩ := ho.2 _ (hs.perm.mem_iff.1 (List.getElem_mem hi2))
    generalize es0[i].1 = kk at g2 h1 h2
    cases kk with
    | s l =>
      simp only [KyRel] at g2
      rw [g2]
      simp only [keyS] at h2
      have hl : l.length ≤ maxLen := by unfold maxLen; omega
      have hl2 : (⟨l.toArray⟩ : ByteArray).size ≤ maxLen := by rw [bsize]; exact hl
      simp [keyOf, hk, mapKey, keyS, hl2]
    | i n => cases h1
    | ss a b => cases h1
  have F : Go.WideElems.Fit (H := Unit) Tryd.prog k (fun _ => some (.nil, [])) ents clock := ⟨by have := ho.1; unfold maxLen; omega, hs.st, fun x hx => by
    obtain ⟨i, hi, e⟩ := List.mem_iff_getElem.1 hx
    have hi2 : i < ents.size := by simpa using hi
    obtain ⟨g1, g2⟩ := at' i (by rw [hs.len]; exact hi2)
    rw [Array.getElem?_eq_getElem hi2] at g1
    injection g1 with g1
    rw [Array.getElem_toList, g1] at e
    rw [← e]
    exact ⟨_, by unfold Go.WideElems.rd; rw [g2]; rfl⟩⟩
  refine ⟨_, ⟨ents, clock, hh, F, Nat.le_refl _, rfl⟩, ?_, ?_⟩
  · show ((ents.toList.map (Go.WideElems.rg Tryd.prog k _)).foldr DataW.insert []).length = _
    rw [length_sorted]; simp [hlen]
  · show (((ents.toList.map (Go.WideElems.rg Tryd.prog k _)).foldr DataW.insert []).map fun p => strOf p.1).Perm _
    refine ((Go.WideShapes.sorted_perm _).map _).trans ?_
    rw [List.map_map]
    refine List.Perm.trans (l₂ := keysS es0) ?_ (hs.perm.map _)
    refine List.Perm.of_eq (List.ext_getElem? fun i => ?_)
    unfold keysS
    rw [List.getElem?_map, List.getElem?_map]
    by_cases hi : i < es0.length
    · obtain ⟨g1, g2⟩ := at' i hi
      rw [Array.getElem?_toList, g1, List.getElem?_eq_getElem hi]
      simp only [Option.map_some, Function.comp_apply]
      rw [Go.WideElems.rg_of (y := (.string (keyS es0[i].1), .nil)) (by unfold Go.WideElems.rd; rw [g2]; rfl)]
      rfl
    · have hi2 : es0[i]? = none := List.getElem?_eq_none (by omega)
      have hi3 : ents.toList[i]? = none := List.getElem?_eq_none (by have := hs.len; simp; omega)
      rw [hi2, hi3]; rfl
theorem keysok_len {es : List (Ky × V)} : (keysS es).length = es.length := List.length_map _
theorem fmap_inv {M : Nat → Prop} {w : World} {es : List (Ky × V)} {cv : Value} (h : Pur M w (.fmap es) cv) : ∃ (es0 : List (Ky × V)) (b : Nat) (ents : Array MapEntry) (clock : Nat) (f : Nat → MapEntry), cv = .map (some b) ∧ w.heap[b]? = some (.map ents clock) ∧ MpSz es es0 ents clock ∧
    (∀ (i : Nat) (kv : Ky × V), es0[i]? = some kv → ents[i]? = some (f i) ∧ KyRel kv.1 (f i).key) := by cases h with | fmap _ es0 b ents clock f hb hh hs he hv => exact ⟨es0, b, ents, clock, f, rfl, hh, hs, he⟩
theorem Rel.fmap_pur {M : Nat → Prop} {w : World} {ι : Nat → Value} {h : Nat → Option Ob} {es : List (Ky × V)} {cv : Value} (r : Rel M w ι h (.fmap es) cv) : Pur M w (.fmap es) cv := by cases r with | pur hp => exact hp
theorem mk_one (n : Nat) (o : Ob) : hupd (mkH []) n o = mkH [(n, o)] := by
  funext m
  unfold hupd
  rfl
abbrev fKeysI : Nat := 16
abbrev fItI : Nat := 28
theorem keysI_e (es : List (Ky × V)) : Eff Tryd.prog UT fKeysI [.fmap es] [] (.fn fItI [.ptr 0 0]) [(0, .box 65 [.fmap es])] := by
  refine .inl ⟨⟨_, Tryd.func16, by kernel_rfl, by kernel_rfl⟩, fun w M ι cargs hm hs ha => ?_⟩
  have h0 := (ha 0 _ rfl).fmap_pur
  have h1 := args_one hs
  obtain ⟨es0, b, ents, clock, f, e, _⟩ := fmap_inv h0
  rw [e] at h0 h1
  rw [h1]
  refine ((callsIn_wide (n := 5)).1 (Tryd.maps_Keys_16 (some b) w)).mono ?_
  rintro e' w' ⟨rfl, rfl⟩
  have hA : After (U := UT) ⟨w, fun b => ∃ n, (mkH [] n).isSome = true ∧ blk (ι n) = some b, 0, M, ι, mkH []⟩ (mkH []) w M ι (hupd (mkH []) 0 (.box 65 [.fmap es])) (.fn fItI [.ptr 0 0]) (.func (.func fItI) #[] #[.pointer (some ⟨w.heap.size, 0, none⟩)]) (w.alloc (.cells #[.map (some b)] 65)) := by
    refine after_new hm (d := 0) rfl (by omega) (.box 65 [.fmap es]) (.pointer (some ⟨w.heap.size, 0, none⟩)) (w.alloc (.cells #[.map (some b)] 65)) (by simp) rfl rfl rfl (fun k hk => heap_alloc_old w _ hk) (fun g hg => by cases hg; exact Nat.le_refl _) (fun {h' ι'} hk hi hMw => ?_) ?_
    · refine ⟨w.heap.size, #[.map (some b)], hi, heap_alloc_new w _, rfl, ?_, ?_⟩
      · intro c hc
        cases hc with
        | head => rfl
        | tail _ h => cases h
      intro i v hi'
      obtain rfl : i = 0 := by have := (List.getElem?_eq_some_iff.1 hi').1; simp at this; omega
      injection hi' with hi'
      subst hi'
      exact .pur (h0.mono (fun _ h => h) hMw)
    · refine .fn _ _ _ rfl fun i v hi => ?_
      obtain rfl : i = 0 := by have := (List.getElem?_eq_some_iff.1 hi).1; simp at this; omega
      injection hi with hi
      subst hi
      exact .ptrb 0 0 w.heap.size 65 [.fmap es] (hupd_same _ _ _) (iupd_same _ _ _)
  obtain ⟨M', ι', k1, k2, _⟩ := hA
  rw [mk_one] at k1 k2
  exact ⟨_, M', ι', rfl, k2, k1⟩
theorem keysI_use {d : Option Nat} {s : St} {K : St → Prop} {es : List (Ky × V)} (n : Nat) (hn : s.h n = none) (hlt : n < 1000) (hK : K ⟨setE d (.fn fItI [.ptr n 0]) s.e, hov [(n, .box 65 [.fmap es])] s.h⟩) : EStep Tryd.prog UT d fKeysI [.fmap es] s K := by
  refine ⟨[], [(0, n)], _, _, _, _, keysI_e es, ⟨by simp [okL], rfl, rfl, by simp, ?_, by simp, by simp [V.rens, V.ren], by simp [V.nins, V.nin], by simp [V.nin, V.nins], ?_, by simp⟩, ?_⟩
  · intro p hp
    simp only [List.mem_cons, List.not_mem_nil, or_false] at hp
    subst hp
    exact ⟨hn, hlt⟩
  · intro q hq
    simp only [List.mem_cons, List.not_mem_nil, or_false] at hq
    subst hq
    simp [Ob.nin, V.nins, V.nin]
  · simp only [List.nil_append, V.ren, V.rens, rn, List.map_cons, List.map_nil, Ob.ren, if_true]
    exact hK
theorem sortedI_e (es : List (Ky × V)) (ho : KeyOk es) : Eff Tryd.prog UT 15 [.fn fItI [.ptr 1000 0]] [(1000, .box 65 [.fmap es])] (.list (strs (sortS (keysS es))) false) [(1000, .box 65 [.fmap es])] := by
  refine .inl ⟨⟨_, Tryd.func15, by kernel_rfl, by kernel_rfl⟩, fun w M ι cargs hm hs ha => ?_⟩
  have h1 := args_one hs
  obtain ⟨cs, e0, hl, hv⟩ := (ha 0 _ rfl).fn_inv
  rw [e0] at h1
  have h3 := args_one (cargs := cs) hl.symm
  obtain ⟨g, t, cells, o1, o2, e1⟩ := (hv 0 _ rfl).ptr_inv
  rw [e1] at h3
  rw [h1, h3]
  obtain ⟨g', cc, e2, hh, hcl, _, hcv⟩ := hm.obj 1000 _ (show mkH [(1000, Ob.box 65 [V.fmap es])] 1000 = _ from rfl)
  rw [o2] at e2
  injection e2 with e2; injection e2 with e2; injection e2 with e2
  subst e2
  have hp := (hcv 0 _ rfl).fmap_pur
  obtain ⟨es0, b, ents, clock, f, e3, hhb, hsz, he⟩ := fmap_inv hp
  obtain ⟨D0, hown, hsize, hperm⟩ := owns_of_fmap (k := 9) Tryd.underlying9 hhb hsz he ho
  have hcell : w.cell? ⟨g, 0, none⟩ = some (.map (some b)) := by
    have := getD_arr (cs := cc) (k := 0) (by rw [← hcl]; exact Nat.zero_lt_one)
    rw [e3] at this
    rw [cell_of_row w g 0 cc _ (0, 0) hh]
    exact this
  refine (Tryd.sorted_gen_15_16 g b _ D0 _ w (Array.getElem?_eq_some_iff.1 hh).1 hcell hown (by rw [hsize]; have := ho.1; unfold maxLen; omega) (by rw [hsize]; have := ho.1; omega)).mono ?_
  rintro e' w' ⟨v, ss, rfl, hS, hrow, _, hb⟩
  have hss : ss.mergeSort (fun x y => decide (x ≤ y)) = sortS (keysS es) := by rw [le_slt]; exact sortS_eq (hS.trans hperm)
  rw [hss, show ss.length = (sortS (keysS es)).length by rw [(sortS_perm _).length_eq, (hS.trans hperm).length_eq]] at hrow
  obtain ⟨Mn, m1, m2⟩ := list_of_own hrow
  have lt : ∀ b, M b → b < w.heap.size := hm.lt
  refine ⟨v, fun b => M b ∨ Mn b, ι, rfl, .pur (m2 _ fun _ h => .inr h), hm.grow (fun _ h => .inl h) (fun b hb' => ?_) (fun b hlt hb' => ?_) hb⟩
  · rcases hb' with hb' | hb'
    · have := lt b hb'; have := hb.size; omega
    · exact (m1 b hb').2
  · rcases hb' with hb' | hb'
    · exact hb'
    · have := (m1 b hb').1; omega
theorem sortedI_use {d : Option Nat} {s : St} {K : St → Prop} {es : List (Ky × V)} {n : Nat} (ho : KeyOk es) (hn : s.h n = some (.box 65 [.fmap es])) (hK : K ⟨setE d (.list (strs (sortS (keysS es))) false) s.e, hov [(n, .box 65 [.fmap es])] s.h⟩) : EStep Tryd.prog UT d 15 [.fn fItI [.ptr n 0]] s K := by
  refine ⟨[(1000, n)], [], _, _, _, _, sortedI_e es ho, ⟨by simp [okL], rfl, rfl, by simp, by simp, ?_, by simp [V.rens, V.ren, rni], by simp [V.nins, V.nin], by simp [V.nin], ?_, ?_⟩, ?_⟩
  · intro p hp
    simp only [List.mem_cons, List.not_mem_nil, or_false] at hp
    subst hp
    exact ⟨_, hn, by simp [mkH, Ob.ren, V.rens, V.ren], by simp [Ob.nin, V.nins, V.nin]⟩
  · intro q hq
    simp only [List.mem_cons, List.not_mem_nil, or_false] at hq
    subst hq
    simp [Ob.nin, V.nins, V.nin]
  · intro p hp o o' h1 h2
    simp only [List.mem_cons, List.not_mem_nil, or_false] at hp
    subst hp
    simp [mkH] at h1 h2
    subst h1 h2
    simp [Ob.kind]
  · simp only [List.append_nil, V.ren, V.rens, rn, List.map_cons, List.map_nil, Ob.ren, if_true]
    exact hK
abbrev fKeysL : Nat := 24
abbrev fItL : Nat := 35
theorem keysL_e (es : List (Ky × V)) : Eff Tryd.prog UT fKeysL [.fmap es] [] (.fn fItL [.ptr 0 0]) [(0, .box 59 [.fmap es])] := by
  refine .inl ⟨⟨_, Tryd.func24, by kernel_rfl, by kernel_rfl⟩, fun w M ι cargs hm hs ha => ?_⟩
  have h0 := (ha 0 _ rfl).fmap_pur
  have h1 := args_one hs
  obtain ⟨es0, b, ents, clock, f, e, _⟩ := fmap_inv h0
  rw [e] at h0 h1
  rw [h1]
  refine ((callsIn_wide (n := 5)).1 (Tryd.maps_Keys_24 (some b) w)).mono ?_
  rintro e' w' ⟨rfl, rfl⟩
  have hA : After (U := UT) ⟨w, fun b => ∃ n, (mkH [] n).isSome = true ∧ blk (ι n) = some b, 0, M, ι, mkH []⟩ (mkH []) w M ι (hupd (mkH []) 0 (.box 59 [.fmap es])) (.fn fItL [.ptr 0 0]) (.func (.func fItL) #[] #[.pointer (some ⟨w.heap.size, 0, none⟩)]) (w.alloc (.cells #[.map (some b)] 59)) := by
    refine after_new hm (d := 0) rfl (by omega) (.box 59 [.fmap es]) (.pointer (some ⟨w.heap.size, 0, none⟩)) (w.alloc (.cells #[.map (some b)] 59)) (by simp) rfl rfl rfl (fun k hk => heap_alloc_old w _ hk) (fun g hg => by cases hg; exact Nat.le_refl _) (fun {h' ι'} hk hi hMw => ?_) ?_
    · refine ⟨w.heap.size, #[.map (some b)], hi, heap_alloc_new w _, rfl, ?_, ?_⟩
      · intro c hc
        cases hc with
        | head => rfl
        | tail _ h => cases h
      intro i v hi'
      obtain rfl : i = 0 := by have := (List.getElem?_eq_some_iff.1 hi').1; simp at this; omega
      injection hi' with hi'
      subst hi'
      exact .pur (h0.mono (fun _ h => h) hMw)
    · refine .fn _ _ _ rfl fun i v hi => ?_
      obtain rfl : i = 0 := by have := (List.getElem?_eq_some_iff.1 hi).1; simp at this; omega
      injection hi with hi
      subst hi
      exact .ptrb 0 0 w.heap.size 59 [.fmap es] (hupd_same _ _ _) (iupd_same _ _ _)
  obtain ⟨M', ι', k1, k2, _⟩ := hA
  rw [mk_one] at k1 k2
  exact ⟨_, M', ι', rfl, k2, k1⟩
theorem keysL_use {d : Option Nat} {s : St} {K : St → Prop} {es : List (Ky × V)} (n : Nat) (hn : s.h n = none) (hlt : n < 1000) (hK : K ⟨setE d (.fn fItL [.ptr n 0]) s.e, hov [(n, .box 59 [.fmap es])] s.h⟩) : EStep Tryd.prog UT d fKeysL [.fmap es] s K := by
  refine ⟨[], [(0, n)], _, _, _, _, keysL_e es, ⟨by simp [okL], rfl, rfl, by simp, ?_, by simp, by simp [V.rens, V.ren], by simp [V.nins, V.nin], by simp [V.nin, V.nins], ?_, by simp⟩, ?_⟩
  · intro p hp
    simp only [List.mem_cons, List.not_mem_nil, or_false] at hp
    subst hp
    exact ⟨hn, hlt⟩
  · intro q hq
    simp only [List.mem_cons, List.not_mem_nil, or_false] at hq
    subst hq
    simp [Ob.nin, V.nins, V.nin]
  · simp only [List.nil_append, V.ren, V.rens, rn, List.map_cons, List.map_nil, Ob.ren, if_true]
    exact hK
theorem sortedL_e (es : List (Ky × V)) (ho : KeyOk es) : Eff Tryd.prog UT 15 [.fn fItL [.ptr 1000 0]] [(1000, .box 59 [.fmap es])] (.list (strs (sortS (keysS es))) false) [(1000, .box 59 [.fmap es])] := by
  refine .inl ⟨⟨_, Tryd.func15, by kernel_rfl, by kernel_rfl⟩, fun w M ι cargs hm hs ha => ?_⟩
  have h1 := args_one hs
  obtain ⟨cs, e0, hl, hv⟩ := (ha 0 _ rfl).fn_inv
  rw [e0] at h1
  have h3 := args_one (cargs := cs) hl.symm
  obtain ⟨g, t, cells, o1, o2, e1⟩ := (hv 0 _ rfl).ptr_inv
  rw [e1] at h3
  rw [h1, h3]
  obtain ⟨g', cc, e2, hh, hcl, _, hcv⟩ := hm.obj 1000 _ (show mkH [(1000, Ob.box 59 [V.fmap es])] 1000 = _ from rfl)
  rw [o2] at e2
  injection e2 with e2; injection e2 with e2; injection e2 with e2
  subst e2
  have hp := (hcv 0 _ rfl).fmap_pur
  obtain ⟨es0, b, ents, clock, f, e3, hhb, hsz, he⟩ := fmap_inv hp
  obtain ⟨D0, hown, hsize, hperm⟩ := owns_of_fmap (k := 9) Tryd.underlying9 hhb hsz he ho
  have hcell : w.cell? ⟨g, 0, none⟩ = some (.map (some b)) := by
    have := getD_arr (cs := cc) (k := 0) (by rw [← hcl]; exact Nat.zero_lt_one)
    rw [e3] at this
    rw [cell_of_row w g 0 cc _ (0, 0) hh]
    exact this
  refine (Tryd.sorted_gen_15_24 g b _ D0 _ w (Array.getElem?_eq_some_iff.1 hh).1 hcell hown (by rw [hsize]; have := ho.1; unfold maxLen; omega) (by rw [hsize]; have := ho.1; omega)).mono ?_
  rintro e' w' ⟨v, ss, rfl, hS, hrow, _, hb⟩
  have hss : ss.mergeSort (fun x y => decide (x ≤ y)) = sortS (keysS es) := by rw [le_slt]; exact sortS_eq (hS.trans hperm)
  rw [hss, show ss.length = (sortS (keysS es)).length by rw [(sortS_perm _).length_eq, (hS.trans hperm).length_eq]] at hrow
  obtain ⟨Mn, m1, m2⟩ := list_of_own hrow
  have lt : ∀ b, M b → b < w.heap.size := hm.lt
  refine ⟨v, fun b => M b ∨ Mn b, ι, rfl, .pur (m2 _ fun _ h => .inr h), hm.grow (fun _ h => .inl h) (fun b hb' => ?_) (fun b hlt hb' => ?_) hb⟩
  · rcases hb' with hb' | hb'
    · have := lt b hb'; have := hb.size; omega
    · exact (m1 b hb').2
  · rcases hb' with hb' | hb'
    · exact hb'
    · have := (m1 b hb').1; omega
theorem sortedL_use {d : Option Nat} {s : St} {K : St → Prop} {es : List (Ky × V)} {n : Nat} (ho : KeyOk es) (hn : s.h n = some (.box 59 [.fmap es])) (hK : K ⟨setE d (.list (strs (sortS (keysS es))) false) s.e, hov [(n, .box 59 [.fmap es])] s.h⟩) : EStep Tryd.prog UT d 15 [.fn fItL [.ptr n 0]] s K := by
  refine ⟨[(1000, n)], [], _, _, _, _, sortedL_e es ho, ⟨by simp [okL], rfl, rfl, by simp, by simp, ?_, by simp [V.rens, V.ren, rni], by simp [V.nins, V.nin], by simp [V.nin], ?_, ?_⟩, ?_⟩
  · intro p hp
    simp only [List.mem_cons, List.not_mem_nil, or_false] at hp
    subst hp
    exact ⟨_, hn, by simp [mkH, Ob.ren, V.rens, V.ren], by simp [Ob.nin, V.nins, V.nin]⟩
  · intro q hq
    simp only [List.mem_cons, List.not_mem_nil, or_false] at hq
    subst hq
    simp [Ob.nin, V.nins, V.nin]
  · intro p hp o o' h1 h2
    simp only [List.mem_cons, List.not_mem_nil, or_false] at hp
    subst hp
    simp [mkH] at h1 h2
    subst h1 h2
    simp [Ob.kind]
  · simp only [List.append_nil, V.ren, V.rens, rn, List.map_cons, List.map_nil, Ob.ren, if_true]
    exact hK
end Go.Proofs.YtkdkjbneohdofaaDoor
