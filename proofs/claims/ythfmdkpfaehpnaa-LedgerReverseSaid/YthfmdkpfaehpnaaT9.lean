/- The sorted keys of a map that is owned (not frozen). -/
import Derived.Test.YthfmdkpfaehpnaaT6
import Derived.Test.YthfmdkpfaehpnaaAv23
namespace Go.Proofs.Ythfmdkpfaehpnaa
open Go Go.RowKit
set_option linter.unusedSimpArgs false
set_option linter.unusedVariables false
set_option linter.deprecated false
/-- A map's entries in another order. -/
theorem Le.perm {s : St} {n : Nat} {es es' : List (Ky × V)} (hn : s.h n = some (.mp es)) (hp : es.Perm es') : Le s ⟨s.e, hupd s.h n (.mp es')⟩ := by
  intro U C a w M ι hg
  have hm := hg.mem
  have ne : ∀ {m : Nat} {o : Ob}, m ≠ n → (hupd s.h n (.mp es') m = some o ↔ s.h m = some o) := fun {m o} h => by unfold hupd; rw [if_neg h]
  have eq : hupd s.h n (.mp es') n = some (.mp es') := by unfold hupd; rw [if_pos rfl]
  have sm : ∀ m, (hupd s.h n (.mp es') m).isSome = true → (s.h m).isSome = true := fun m h => by
    by_cases e : m = n
    · subst e; rw [hn]; rfl
    · unfold hupd at h; rwa [if_neg e] at h
  have hk : Keeps s.h (hupd s.h n (.mp es')) ι ι := by
    refine ⟨fun m t c h => ⟨rfl, c, ?_⟩, fun m t sz r h => ⟨r, ?_, Nat.le_refl _, fun _ => rfl⟩, fun m e h => ⟨rfl, ?_⟩⟩
    · exact (ne (fun e => by rw [e, hn] at h; cases h)).2 h
    · exact (ne (fun e => by rw [e, hn] at h; cases h)).2 h
    · by_cases e2 : m = n
      · subst e2; exact ⟨_, eq⟩
      · exact ⟨_, (ne e2).2 h⟩
  refine ⟨M, ι, ⟨fun m o h => ?_, fun m m' b h1 h2 => hm.dis m m' b (sm m h1) (sm m' h2), fun m b h1 => hm.imm m b (sm m h1), hm.lt, fun m b h1 => hm.may m b (sm m h1), hm.size, hm.keep, hm.os, hm.tape, hm.output, hm.base, hm.tb, hm.tm, hm.old, fun m t sz r0 t' sz' rows h1 h2 h3 => ?_, fun m h1 => ⟨fun t c h2 => ?_, fun e h2 => ?_⟩⟩, fun t => (hg.env t).keep (fun _ h => h) (fun _ _ => rfl) hk, hg.dfr, hg.num⟩
  · by_cases e : m = n
    · subst e
      have h' : hupd s.h m (.mp es') m = some o := h
      rw [eq] at h'; injection h' with h'; subst h'
      obtain ⟨b, ents, clock, e1, e2, es0, hz, hv⟩ := hm.obj _ _ hn
      refine ⟨b, ents, clock, e1, e2, es0, ⟨hz.perm.trans hp, hz.len, hz.st, ((hp.map _).nodup_iff).1 hz.nd⟩, fun i kv hi => ?_⟩
      obtain ⟨en, a1, a2, a3⟩ := hv i kv hi
      exact ⟨en, a1, a2, a3.keep (fun _ h => h) (fun _ _ => rfl) hk⟩
    · exact (hm.obj m o ((ne e).1 h)).keep (fun _ h => h) (fun _ _ => rfl) hk rfl fun _ _ => rfl
  · by_cases e : m = n
    · subst e; have h' : hupd s.h m (.mp es') m = some (.arr t' sz' rows) := h3; rw [eq] at h'; cases h'
    · exact hm.arr0 m t sz r0 t' sz' rows h1 h2 ((ne e).1 h3)
  · by_cases e : m = n
    · subst e; have h' : hupd s.h m (.mp es') m = some (.box t c) := h2; rw [eq] at h'; cases h'
    · exact (hm.pin m h1).1 t c ((ne e).1 h2)
  · by_cases e2 : m = n
    · subst e2; exact (hm.pin m h1).2 _ hn
    · exact (hm.pin m h1).2 e ((ne e2).1 h2)
theorem omap_inv {M : Nat → Prop} {w : World} {ι : Nat → Value} {h : Nat → Option Ob} {n : Nat} {cv : Value} (r : Rel M w ι h (.map n) cv) : cv = ι n ∧ cv.oneCell' = true := by
  cases r with
  | pur hp => cases hp
  | map _ es ho cv hv hs => exact ⟨hv, hs⟩
theorem omap_ob {M : Nat → Prop} {w : World} {ι : Nat → Value} {h : Nat → Option Ob} {n : Nat} {es : List (Ky × V)} (r : obR M w ι h n (.mp es)) : ∃ (es0 : List (Ky × V)) (b : Nat) (ents : Array MapEntry) (clock : Nat) (f : Nat → MapEntry), ι n = .map (some b) ∧ w.heap[b]? = some (.map ents clock) ∧ MpSz es es0 ents clock ∧
    (∀ (i : Nat) (kv : Ky × V), es0[i]? = some kv → ents[i]? = some (f i) ∧ KyRel kv.1 (f i).key) := by
  obtain ⟨b, ents, clock, h1, h2, es0, h3, h4⟩ := r
  refine ⟨es0, b, ents, clock, fun i => if hi : i < es0.length then Classical.choose (h4 i es0[i] (List.getElem?_eq_getElem hi)) else ⟨undef, undef, 0⟩, h1, h2, h3, fun i kv hi => ?_⟩
  obtain ⟨hlt, e⟩ := List.getElem?_eq_some_iff.1 hi
  have hs := Classical.choose_spec (h4 i es0[i] (List.getElem?_eq_getElem hlt))
  simp only [hlt, dite_true]
  subst e
  exact ⟨hs.1, hs.2.1⟩
theorem keysO_e (es : List (Ky × V)) : Eff Try.prog UT fKeysI [.map 1000] [(1000, .mp es)] (.fn fItI [.ptr 0 0]) [(1000, .mp es), (0, .box 47 [.map 1000])] := by
  refine .inl ⟨⟨_, Try.func33, by kernel_rfl, by kernel_rfl⟩, fun w M ι cargs hm hs ha => ?_⟩
  have h0 := ha 0 _ rfl
  have h1 := args_one hs
  obtain ⟨e0, _⟩ := omap_inv h0
  obtain ⟨es0, b, ents, clock, f, e, _⟩ := omap_ob (hm.obj 1000 _ (show mkH [(1000, Ob.mp es)] 1000 = _ from rfl))
  rw [e0, e] at h0 h1
  rw [h1]
  refine ((callsIn_wide (n := 5)).1 (Try.maps_Keys_33 (some b) w)).mono ?_
  rintro e' w' ⟨rfl, rfl⟩
  have hA : After (U := UT) ⟨w, fun b => ∃ n, (mkH [(1000, Ob.mp es)] n).isSome = true ∧ blk (ι n) = some b, 0, M, ι, mkH [(1000, Ob.mp es)]⟩ (mkH [(1000, Ob.mp es)]) w M ι (hupd (mkH [(1000, Ob.mp es)]) 0 (.box 47 [.map 1000])) (.fn fItI [.ptr 0 0]) (.func (.func fItI) #[] #[.pointer (some ⟨w.heap.size, 0, none⟩)]) (w.alloc (.cells #[.map (some b)] 47)) := by
    refine after_new hm (d := 0) rfl (by omega) (.box 47 [.map 1000]) (.pointer (some ⟨w.heap.size, 0, none⟩)) (w.alloc (.cells #[.map (some b)] 47)) (by simp) rfl rfl rfl (fun k hk => heap_alloc_old w _ hk) (fun g hg => by cases hg; exact Nat.le_refl _) (fun {h' ι'} hk hi hMw => ?_) ?_
    · refine ⟨w.heap.size, #[.map (some b)], hi, heap_alloc_new w _, rfl, ?_, ?_⟩
      · intro c hc
        cases hc with
        | head => rfl
        | tail _ h => cases h
      intro i v hi'
      obtain rfl : i = 0 := by have := (List.getElem?_eq_some_iff.1 hi').1; simp at this; omega
      injection hi' with hi'
      subst hi'
      exact h0.keep (fun _ h => h) hMw hk
    · refine .fn _ _ _ rfl fun i v hi => ?_
      obtain rfl : i = 0 := by have := (List.getElem?_eq_some_iff.1 hi).1; simp at this; omega
      injection hi with hi
      subst hi
      exact .ptrb 0 0 w.heap.size 47 [.map 1000] (hupd_same _ _ _) (iupd_same _ _ _)
  obtain ⟨M', ι', k1, k2, _⟩ := hA
  have eH : hupd (mkH [(1000, Ob.mp es)]) 0 (.box 47 [.map 1000]) = mkH [(1000, .mp es), (0, .box 47 [.map 1000])] := by
    funext m
    unfold hupd
    by_cases e1 : m = 0
    · subst e1; rfl
    · rw [if_neg e1]; simp [mkH, e1]
  rw [eH] at k1 k2
  exact ⟨_, M', ι', rfl, k2, k1⟩
theorem keysO_use {d : Option Nat} {s : St} {K : St → Prop} {L : Assoc Int} {m : Nat} (n : Nat) (hn : s.h n = none) (hlt : n < 1000) (hm : s.h m = some (.mp (kmap fI8 L))) (hK : K ⟨setE d (.fn fItI [.ptr n 0]) s.e, hov [(m, .mp (kmap fI8 L)), (n, .box 47 [.map m])] s.h⟩) : EStep Try.prog UT d fKeysI [.map m] s K := by
  have hmn : m ≠ n := fun e => by rw [e, hn] at hm; cases hm
  refine ⟨[(1000, m)], [(0, n)], _, _, _, _, keysO_e (kmap fI8 L), ⟨by simp [okL, hmn], rfl, rfl, by simp, ?_, ?_, by simp [V.rens, V.ren, rni], by simp [V.nins, V.nin], by simp [V.nin, V.nins], ?_, ?_⟩, ?_⟩
  · intro p hp
    simp only [List.mem_cons, List.not_mem_nil, or_false] at hp
    subst hp
    exact ⟨hn, hlt⟩
  · intro p hp
    simp only [List.mem_cons, List.not_mem_nil, or_false] at hp
    subst hp
    exact ⟨_, hm, by simp only [mkH, Ob.ren, kmap_renI, if_true], by simp only [Ob.nin, kmap_ninI]⟩
  · intro q hq
    simp only [List.mem_cons, List.not_mem_nil, or_false] at hq
    rcases hq with rfl | rfl
    · simp only [Ob.nin, kmap_ninI]
    · simp [Ob.nin, V.nins, V.nin]
  · intro p hp o o' h1 h2
    simp only [List.mem_cons, List.not_mem_nil, or_false] at hp
    subst hp
    simp [mkH] at h1 h2
    subst h1 h2
    simp [Ob.kind]
  · simp only [List.nil_append, List.cons_append, V.ren, V.rens, rn, List.map_cons, List.map_nil, Ob.ren, if_true, kmap_renI]
    simpa using hK
theorem sortedO_e (es : List (Ky × V)) (ho : KeyOk es) : Eff Try.prog UT 32 [.fn fItI [.ptr 1000 0]] [(1000, .box 47 [.map 1001]), (1001, .mp es)] (.list (strs (sortS (keysS es))) false) [(1000, .box 47 [.map 1001]), (1001, .mp es)] := by
  refine .inl ⟨⟨_, Try.func32, by kernel_rfl, by kernel_rfl⟩, fun w M ι cargs hm hs ha => ?_⟩
  have h1 := args_one hs
  obtain ⟨cs, e0, hl, hv⟩ := (ha 0 _ rfl).fn_inv
  rw [e0] at h1
  have h3 := args_one (cargs := cs) hl.symm
  obtain ⟨g, t, cells, o1, o2, e1⟩ := (hv 0 _ rfl).ptr_inv
  rw [e1] at h3
  rw [h1, h3]
  obtain ⟨g', cc, e2, hh, hcl, _, hcv⟩ := hm.obj 1000 _ (show mkH [(1000, Ob.box 47 [V.map 1001]), (1001, Ob.mp es)] 1000 = _ from rfl)
  rw [o2] at e2
  injection e2 with e2; injection e2 with e2; injection e2 with e2
  subst e2
  obtain ⟨e4, _⟩ := omap_inv (hcv 0 _ rfl)
  obtain ⟨es0, b, ents, clock, f, e3, hhb, hsz, he⟩ := omap_ob (hm.obj 1001 _ (show mkH [(1000, Ob.box 47 [V.map 1001]), (1001, Ob.mp es)] 1001 = _ from rfl))
  obtain ⟨D0, hown, hsize, hperm⟩ := owns_of_fmap (k := 9) Try.underlying9 hhb hsz he ho
  have hcell : w.cell? ⟨g, 0, none⟩ = some (.map (some b)) := by
    have := getD_arr (cs := cc) (k := 0) (by rw [← hcl]; exact Nat.zero_lt_one)
    rw [e4, e3] at this
    rw [cell_of_row w g 0 cc _ (0, 0) hh]
    exact this
  refine (Try.sorted_gen_32_33 g b _ D0 _ w (Array.getElem?_eq_some_iff.1 hh).1 hcell hown (by rw [hsize]; have := ho.1; unfold maxLen; omega) (by rw [hsize]; have := ho.1; omega)).mono ?_
  rintro e' w' ⟨v, ss, rfl, hS, hrow, _, hb⟩
  have hss : ss.mergeSort (fun x y => decide (x ≤ y)) = sortS (keysS es) := by rw [le_slt]; exact sortS_eq (hS.trans hperm)
  rw [hss, show ss.length = (sortS (keysS es)).length by rw [(sortS_perm _).length_eq, (hS.trans hperm).length_eq]] at hrow
  obtain ⟨Mn, m1, m2⟩ := list_of_own hrow
  have lt : ∀ b, M b → b < w.heap.size := hm.lt
  refine ⟨v, fun b => M b ∨ Mn b, ι, rfl, .pur (m2 _ fun _ h => .inr h), hm.grow (fun _ h => .inl h) (fun b hb' => ?_) (fun b hlt hb' => ?_) hb⟩
  · rcases hb' with hb' | hb'
    · have := lt b hb'; have := hb.size; omega
    · exact (m1 b hb').2
  · rcases hb' with hb' | hb'
    · exact hb'
    · have := (m1 b hb').1; omega
theorem sortedO_use {d : Option Nat} {s : St} {K : St → Prop} {L : Assoc Int} {n m : Nat} (ho : KeyOk (kmap fI8 L)) (hn : s.h n = some (.box 47 [.map m])) (hm : s.h m = some (.mp (kmap fI8 L))) (hne : n ≠ m) (hK : K ⟨setE d (.list (strs (sortS (L.map (·.1)))) false) s.e, hov [(n, .box 47 [.map m]), (m, .mp (kmap fI8 L))] s.h⟩) : EStep Try.prog UT d 32 [.fn fItI [.ptr n 0]] s K := by
  refine ⟨[(1000, n), (1001, m)], [], _, _, _, _, sortedO_e (kmap fI8 L) ho, ⟨by simp [okL, hne], rfl, rfl, by simp, by simp, ?_, by simp [V.rens, V.ren, rni], by simp [V.nins, V.nin], by simp [V.nin], ?_, ?_⟩, ?_⟩
  · intro p hp
    simp only [List.mem_cons, List.not_mem_nil, or_false] at hp
    rcases hp with rfl | rfl
    · exact ⟨_, hn, by simp [mkH, Ob.ren, V.rens, V.ren, rni, hne, Ne.symm hne], by simp [Ob.nin, V.nins, V.nin]⟩
    · exact ⟨_, hm, by simp [mkH, Ob.ren, kmap_renI], by simp only [Ob.nin, kmap_ninI]⟩
  · intro q hq
    simp only [List.mem_cons, List.not_mem_nil, or_false] at hq
    rcases hq with rfl | rfl
    · simp [Ob.nin, V.nins, V.nin]
    · simp only [Ob.nin, kmap_ninI]
  · intro p hp o o' h1 h2
    simp only [List.mem_cons, List.not_mem_nil, or_false] at hp
    rcases hp with rfl | rfl <;> (simp [mkH] at h1 h2; subst h1 h2; simp [Ob.kind])
  · simp only [List.append_nil, V.ren, V.rens, rn, List.map_cons, List.map_nil, Ob.ren, if_true, kmap_renI, keysS_kmap]
    simpa [rn] using hK
/-! The nil map. -/
theorem keysN_e : Eff Try.prog UT fKeysI [.nilm] [] (.fn fItI [.ptr 0 0]) [(0, .box 47 [.nilm])] := by
  refine .inl ⟨⟨_, Try.func33, by kernel_rfl, by kernel_rfl⟩, fun w M ι cargs hm hs ha => ?_⟩
  have h1 := args_one hs
  rw [(ha 0 _ rfl).nilm_inv] at h1
  rw [h1]
  refine ((callsIn_wide (n := 5)).1 (Try.maps_Keys_33 none w)).mono ?_
  rintro e' w' ⟨rfl, rfl⟩
  have hA : After (U := UT) ⟨w, fun b => ∃ n, (mkH [] n).isSome = true ∧ blk (ι n) = some b, 0, M, ι, mkH []⟩ (mkH []) w M ι (hupd (mkH []) 0 (.box 47 [.nilm])) (.fn fItI [.ptr 0 0]) (.func (.func fItI) #[] #[.pointer (some ⟨w.heap.size, 0, none⟩)]) (w.alloc (.cells #[.map none] 47)) := by
    refine after_new hm (d := 0) rfl (by omega) (.box 47 [.nilm]) (.pointer (some ⟨w.heap.size, 0, none⟩)) (w.alloc (.cells #[.map none] 47)) (by simp) rfl rfl rfl (fun k hk => heap_alloc_old w _ hk) (fun g hg => by cases hg; exact Nat.le_refl _) (fun {h' ι'} hk hi hMw => ?_) ?_
    · refine ⟨w.heap.size, #[.map none], hi, heap_alloc_new w _, rfl, ?_, ?_⟩
      · intro c hc
        cases hc with
        | head => rfl
        | tail _ h => cases h
      intro i v hi'
      obtain rfl : i = 0 := by have := (List.getElem?_eq_some_iff.1 hi').1; simp at this; omega
      injection hi' with hi'
      subst hi'
      exact .pur .nilm
    · refine .fn _ _ _ rfl fun i v hi => ?_
      obtain rfl : i = 0 := by have := (List.getElem?_eq_some_iff.1 hi).1; simp at this; omega
      injection hi with hi
      subst hi
      exact .ptrb 0 0 w.heap.size 47 [.nilm] (hupd_same _ _ _) (iupd_same _ _ _)
  obtain ⟨M', ι', k1, k2, _⟩ := hA
  rw [mk_one] at k1 k2
  exact ⟨_, M', ι', rfl, k2, k1⟩
theorem keysN_use {d : Option Nat} {s : St} {K : St → Prop} (n : Nat) (hn : s.h n = none) (hlt : n < 1000) (hK : K ⟨setE d (.fn fItI [.ptr n 0]) s.e, hov [(n, .box 47 [.nilm])] s.h⟩) : EStep Try.prog UT d fKeysI [.nilm] s K := by
  refine ⟨[], [(0, n)], _, _, _, _, keysN_e, ⟨by simp [okL], rfl, rfl, by simp, ?_, by simp, by simp [V.rens, V.ren], by simp [V.nins, V.nin], by simp [V.nin, V.nins], ?_, by simp⟩, ?_⟩
  · intro p hp
    simp only [List.mem_cons, List.not_mem_nil, or_false] at hp
    subst hp
    exact ⟨hn, hlt⟩
  · intro q hq
    simp only [List.mem_cons, List.not_mem_nil, or_false] at hq
    subst hq
    simp [Ob.nin, V.nins, V.nin]
  · simp only [List.nil_append, V.ren, V.rens, rn, List.map_cons, List.map_nil, Ob.ren, if_true]
    exact hK
theorem sortedN_e : Eff Try.prog UT 32 [.fn fItI [.ptr 1000 0]] [(1000, .box 47 [.nilm])] (.list [] false) [(1000, .box 47 [.nilm])] := by
  refine .inl ⟨⟨_, Try.func32, by kernel_rfl, by kernel_rfl⟩, fun w M ι cargs hm hs ha => ?_⟩
  have h1 := args_one hs
  obtain ⟨cs, e0, hl, hv⟩ := (ha 0 _ rfl).fn_inv
  rw [e0] at h1
  have h3 := args_one (cargs := cs) hl.symm
  obtain ⟨g, t, cells, o1, o2, e1⟩ := (hv 0 _ rfl).ptr_inv
  rw [e1] at h3
  rw [h1, h3]
  obtain ⟨g', cc, e2, hh, hcl, _, hcv⟩ := hm.obj 1000 _ (show mkH [(1000, Ob.box 47 [V.nilm])] 1000 = _ from rfl)
  rw [o2] at e2
  injection e2 with e2; injection e2 with e2; injection e2 with e2
  subst e2
  have e4 := (hcv 0 _ rfl).nilm_inv
  have hcell : w.cell? ⟨g, 0, none⟩ = some (.map none) := by
    have := getD_arr (cs := cc) (k := 0) (by rw [← hcl]; exact Nat.zero_lt_one)
    rw [e4] at this
    rw [cell_of_row w g 0 cc _ (0, 0) hh]
    exact this
  refine (Try.sorted_nil_32_33 g w (Array.getElem?_eq_some_iff.1 hh).1 hcell).mono ?_
  rintro e' w' ⟨v, ss, rfl, hss0, hrow, _, hb⟩
  subst hss0
  have hz : ([] : List (List UInt8)).mergeSort (fun x y => decide (x ≤ y)) = [] := List.mergeSort_nil
  rw [hz] at hrow
  obtain ⟨Mn, m1, m2⟩ := list_of_own (ss := []) hrow
  have lt : ∀ b, M b → b < w.heap.size := hm.lt
  refine ⟨v, fun b => M b ∨ Mn b, ι, rfl, .pur (m2 _ fun _ h => .inr h), hm.grow (fun _ h => .inl h) (fun b hb' => ?_) (fun b hlt hb' => ?_) hb⟩
  · rcases hb' with hb' | hb'
    · have := lt b hb'; have := hb.size; omega
    · exact (m1 b hb').2
  · rcases hb' with hb' | hb'
    · exact hb'
    · have := (m1 b hb').1; omega
theorem sortedN_use {d : Option Nat} {s : St} {K : St → Prop} {n : Nat} (hn : s.h n = some (.box 47 [.nilm])) (hK : K ⟨setE d (.list [] false) s.e, hov [(n, .box 47 [.nilm])] s.h⟩) : EStep Try.prog UT d 32 [.fn fItI [.ptr n 0]] s K := by
  refine ⟨[(1000, n)], [], _, _, _, _, sortedN_e, ⟨by simp [okL], rfl, rfl, by simp, by simp, ?_, by simp [V.rens, V.ren, rni], by simp [V.nins, V.nin], by simp [V.nin], ?_, ?_⟩, ?_⟩
  · intro p hp
    simp only [List.mem_cons, List.not_mem_nil, or_false] at hp
    subst hp
    exact ⟨_, hn, by simp [mkH, Ob.ren, V.rens, V.ren], by simp [Ob.nin, V.nins, V.nin]⟩
  · intro q hq
    simp only [List.mem_cons, List.not_mem_nil, or_false] at hq
    subst hq
    simp [Ob.nin, V.nins, V.nin]
  · intro p hp o o' h1 h2
    simp only [List.mem_cons, List.not_mem_nil, or_false] at hp
    subst hp; simp [mkH] at h1 h2; subst h1 h2; simp [Ob.kind]
  · simp only [List.append_nil, V.ren, V.rens, rn, List.map_cons, List.map_nil, Ob.ren, if_true]
    exact hK
end Go.Proofs.Ythfmdkpfaehpnaa
