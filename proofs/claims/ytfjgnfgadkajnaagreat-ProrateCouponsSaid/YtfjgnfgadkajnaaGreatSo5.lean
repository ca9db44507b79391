/- The order of indices by their rests, the greatest first, equal ones by index; how the pieces of a stable sort make it. -/
import Derived.Test.YtfjgnfgadkajnaaGreatT3
import Derived.Shelf.GgSortMore.Stable
namespace Go.Proofs.YtfjgnfgadkajnaaGreat
open Go Go.RowKit
set_option linter.unusedSimpArgs false
set_option linter.unusedVariables false
set_option linter.deprecated false
/-- x stands before y. -/
def Tb (f : Nat → Int) (x y : Nat) : Prop := f y < f x ∨ (f x = f y ∧ x < y)
instance (f : Nat → Int) (x y : Nat) : Decidable (Tb f x y) := inferInstanceAs (Decidable (_ ∨ _))
theorem Tb.irr {f : Nat → Int} {x : Nat} : ¬ Tb f x x := by unfold Tb; omega
theorem Tb.tr {f : Nat → Int} {x y z : Nat} (h : Tb f x y) (k : Tb f y z) : Tb f x z := by unfold Tb at *; omega
theorem Tb.asym {f : Nat → Int} {x y : Nat} (h : Tb f x y) : ¬ Tb f y x := by unfold Tb at *; omega
theorem Tb.tri {f : Nat → Int} (x y : Nat) : Tb f x y ∨ x = y ∨ Tb f y x := by unfold Tb; omega
theorem Tb.of_lt {f : Nat → Int} {x y : Nat} (h : x < y) : (f x < f y ↔ Tb f y x) ∧ (¬ f x < f y ↔ Tb f x y) := by unfold Tb; omega
def insT (f : Nat → Int) (x : Nat) : List Nat → List Nat
  | [] => [x]
  | y :: l => if Tb f x y then x :: y :: l else y :: insT f x l
def msT (f : Nat → Int) : List Nat → List Nat
  | [] => []
  | x :: l => insT f x (msT f l)
def SortT (f : Nat → Int) (l : List Nat) : Prop := l.Pairwise (Tb f)
section
variable {f : Nat → Int}
theorem insT_perm (x : Nat) (l : List Nat) : (insT f x l).Perm (x :: l) := by
  induction l with
  | nil => exact .refl _
  | cons y l ih =>
    rw [insT]
    split
    · exact .refl _
    · exact (ih.cons y).trans (.swap x y l)
theorem msT_perm (l : List Nat) : (msT f l).Perm l := by
  induction l with
  | nil => exact .refl _
  | cons x l ih => exact (insT_perm x _).trans (ih.cons x)
theorem insT_sort {x : Nat} {l : List Nat} (h : SortT f l) (hx : x ∉ l) : SortT f (insT f x l) := by
  unfold SortT at *
  induction l with
  | nil => exact List.pairwise_singleton _ _
  | cons y l ih =>
    rw [insT]
    obtain ⟨h1, h2⟩ := List.pairwise_cons.1 h
    have hxy : x ≠ y := fun e => hx (e ▸ List.mem_cons_self ..)
    have hxl : x ∉ l := fun e => hx (List.mem_cons_of_mem _ e)
    split
    · rename_i c
      refine List.pairwise_cons.2 ⟨fun z hz => ?_, h⟩
      rcases List.mem_cons.1 hz with rfl | hz
      · exact c
      · exact c.tr (h1 z hz)
    · rename_i c
      refine List.pairwise_cons.2 ⟨fun z hz => ?_, ih h2 hxl⟩
      rcases List.mem_cons.1 ((insT_perm x l).mem_iff.1 hz) with rfl | hz
      · exact ((Tb.tri z y).resolve_left c).resolve_left hxy
      · exact h1 z hz
theorem msT_sort {l : List Nat} (h : l.Nodup) : SortT f (msT f l) := by
  induction l with
  | nil => exact List.Pairwise.nil
  | cons x l ih =>
    rw [List.nodup_cons] at h
    exact insT_sort (ih h.2) (fun hx => h.1 ((msT_perm l).mem_iff.1 hx))
theorem SortT.nodup {l : List Nat} (h : SortT f l) : l.Nodup := List.Pairwise.imp (fun {a b} h e => by subst e; exact Tb.irr h) h
theorem SortT.eq {a b : List Nat} (ha : SortT f a) (hb : SortT f b) (h : a.Perm b) : a = b :=
  List.Perm.eq_of_pairwise (le := Tb f) (fun _ _ _ _ h1 h2 => absurd h2 h1.asym) ha hb h
theorem msT_eq {a l : List Nat} (ha : SortT f a) (h : a.Perm l) : msT f l = a :=
  (msT_sort (h.nodup_iff.1 ha.nodup)).eq ha ((msT_perm l).trans h.symm)
theorem msT_self {a : List Nat} (ha : SortT f a) : msT f a = a := msT_eq ha (.refl _)
theorem msT_len (l : List Nat) : (msT f l).length = l.length := (msT_perm l).length_eq
theorem SortT.app {a b : List Nat} (ha : SortT f a) (hb : SortT f b) (h : ∀ x ∈ a, ∀ y ∈ b, Tb f x y) : SortT f (a ++ b) := List.pairwise_append.2 ⟨ha, hb, h⟩
theorem SortT.parts {a b : List Nat} (h : SortT f (a ++ b)) : SortT f a ∧ SortT f b ∧ ∀ x ∈ a, ∀ y ∈ b, Tb f x y := List.pairwise_append.1 h
/-- The middle of a merge. -/
theorem msT_mid {u1 u2 v1 v2 : List Nat} (hu : SortT f (u1 ++ u2)) (hv : SortT f (v1 ++ v2)) (hn : ∀ x ∈ u1 ++ u2, ∀ y ∈ v1 ++ v2, x < y) (h1 : ∀ x ∈ u1, ∀ y ∈ v2, Tb f x y) (h2 : ∀ x ∈ v1, ∀ y ∈ u2, Tb f x y) :
    msT f ((u1 ++ u2) ++ (v1 ++ v2)) = msT f (u1 ++ v1) ++ msT f (u2 ++ v2) := by
  obtain ⟨a1, a2, a3⟩ := hu.parts
  obtain ⟨b1, b2, b3⟩ := hv.parts
  have nd : ∀ {p q : List Nat}, SortT f p → SortT f q → (∀ x ∈ p, ∀ y ∈ q, x < y) → (p ++ q).Nodup := fun hp hq h =>
    List.nodup_append.2 ⟨hp.nodup, hq.nodup, fun x hx y hy e => by have := h x hx y hy; omega⟩
  have n1 : (u1 ++ v1).Nodup := nd a1 b1 (fun x hx y hy => hn x (List.mem_append_left _ hx) y (List.mem_append_left _ hy))
  have n2 : (u2 ++ v2).Nodup := nd a2 b2 (fun x hx y hy => hn x (List.mem_append_right _ hx) y (List.mem_append_right _ hy))
  refine msT_eq ((msT_sort n1).app (msT_sort n2) (fun x hx y hy => ?_)) ?_
  · rcases List.mem_append.1 ((msT_perm _).mem_iff.1 hx) with hx | hx <;> rcases List.mem_append.1 ((msT_perm _).mem_iff.1 hy) with hy | hy
    · exact a3 x hx y hy
    · exact h1 x hx y hy
    · exact h2 x hx y hy
    · exact b3 x hx y hy
  · refine ((msT_perm _).append (msT_perm _)).trans ?_
    rw [List.append_assoc, List.append_assoc]
    refine List.Perm.append_left u1 ?_
    rw [← List.append_assoc, ← List.append_assoc]
    exact List.Perm.append_right v2 List.perm_append_comm
/-- One element put among many. -/
theorem msT_one1 {x : Nat} {v1 v2 : List Nat} (hv : SortT f (v1 ++ v2)) (h1 : ∀ y ∈ v1, Tb f y x) (h2 : ∀ y ∈ v2, Tb f x y) : msT f (x :: (v1 ++ v2)) = v1 ++ x :: v2 := by
  obtain ⟨b1, b2, b3⟩ := hv.parts
  refine msT_eq (b1.app (List.pairwise_cons.2 ⟨h2, b2⟩) (fun y hy z hz => ?_)) List.perm_middle
  rcases List.mem_cons.1 hz with rfl | hz
  · exact h1 y hy
  · exact b3 y hy z hz
theorem msT_one2 {x : Nat} {v1 v2 : List Nat} (hv : SortT f (v1 ++ v2)) (h1 : ∀ y ∈ v1, Tb f y x) (h2 : ∀ y ∈ v2, Tb f x y) : msT f ((v1 ++ v2) ++ [x]) = v1 ++ x :: v2 := by
  rw [← msT_one1 hv h1 h2]
  have nd : (v1 ++ x :: v2).Nodup := by
    obtain ⟨b1, b2, b3⟩ := hv.parts
    refine SortT.nodup (f := f) (b1.app (List.pairwise_cons.2 ⟨h2, b2⟩) (fun y hy z hz => ?_))
    rcases List.mem_cons.1 hz with rfl | hz
    · exact h1 y hy
    · exact b3 y hy z hz
  have p : (v1 ++ v2 ++ [x]).Perm (x :: (v1 ++ v2)) := List.perm_append_singleton x (v1 ++ v2)
  exact msT_eq (msT_sort ((List.perm_middle.nodup_iff).1 nd)) ((msT_perm _).trans p.symm)
/-- Blocks of so many, each in order. -/
def chT (f : Nat → Int) (bs : Nat) (s : Nat) : Nat → Nat → List Nat
  | 0, n => msT f (List.range' s n)
  | k + 1, n => if n ≤ bs then msT f (List.range' s n) else msT f (List.range' s bs) ++ chT f bs (s + bs) k (n - bs)
theorem chT_le {bs s k n : Nat} (h : n ≤ bs) : chT f bs s k n = msT f (List.range' s n) := by
  cases k with
  | zero => rfl
  | succ k => rw [chT, if_pos h]
theorem chT_len (bs s k n : Nat) : (chT f bs s k n).length = n := by
  induction k generalizing s n with
  | zero => rw [chT, msT_len, List.length_range']
  | succ k ih =>
    rw [chT]
    split
    · rw [msT_len, List.length_range']
    · rw [List.length_append, msT_len, List.length_range', ih]; omega
/-- The steps do not matter if they are enough. -/
theorem chT_more {bs : Nat} (hb : 0 < bs) {s k k' n : Nat} (h : n ≤ k) (h' : n ≤ k') : chT f bs s k n = chT f bs s k' n := by
  induction k generalizing s k' n with
  | zero =>
    obtain rfl : n = 0 := by omega
    rw [chT_le (Nat.zero_le _), chT_le (Nat.zero_le _)]
  | succ k ih =>
    cases k' with
    | zero =>
      obtain rfl : n = 0 := by omega
      rw [chT_le (Nat.zero_le _), chT_le (Nat.zero_le _)]
    | succ k' =>
      rw [chT, chT]
      split
      · rfl
      · rw [ih (s := s + bs) (k' := k') (n := n - bs) (by omega) (by omega)]
def chR (f : Nat → Int) (bs s n : Nat) : List Nat := chT f bs s n n
theorem chR_le {bs s n : Nat} (h : n ≤ bs) : chR f bs s n = msT f (List.range' s n) := chT_le h
theorem chR_gt {bs s n : Nat} (hb : 0 < bs) (h : bs < n) : chR f bs s n = msT f (List.range' s bs) ++ chR f bs (s + bs) (n - bs) := by
  unfold chR
  cases n with
  | zero => omega
  | succ n =>
    rw [chT, if_neg (by omega)]
    congr 1
    exact chT_more hb (by omega) (Nat.le_refl _)
theorem chR_len (bs s n : Nat) : (chR f bs s n).length = n := chT_len ..
theorem chR_ge {bs s n : Nat} (hb : 0 < bs) (h : bs ≤ n) : chR f bs s n = msT f (List.range' s bs) ++ chR f bs (s + bs) (n - bs) := by
  rcases Nat.lt_or_ge bs n with h1 | h1
  · exact chR_gt hb h1
  · obtain rfl : n = bs := by omega
    rw [chR_le (Nat.le_refl _), Nat.sub_self, chR_le (Nat.zero_le _)]
    simp [msT]
end
end Go.Proofs.YtfjgnfgadkajnaaGreat
/- What a sort of the order of rests is handed: the two rows in their boxes; the comparison and the exchange. -/
namespace Go.Proofs.YtfjgnfgadkajnaaGreat
open Go Go.RowKit
set_option linter.unusedSimpArgs false
set_option linter.unusedVariables false
set_option linter.deprecated false
def nrow (l : List Nat) : List (List V) := l.map fun (k : Nat) => [V.int .i64 (k : Int)]
def urow (l : List Int) : List (List V) := l.map fun n => [V.int .u64 n]
theorem nrow_len (l : List Nat) : (nrow l).length = l.length := List.length_map _
theorem urow_len (l : List Int) : (urow l).length = l.length := List.length_map _
theorem nrow_getD (l : List Nat) (i : Nat) (d : List V) (h : i < l.length) : (nrow l).getD i d = [.int .i64 ((l.getD i 0 : Nat) : Int)] := by
  unfold nrow
  rw [List.getD_eq_getElem?_getD, List.getElem?_map, List.getD_eq_getElem?_getD, List.getElem?_eq_getElem h]; rfl
theorem urow_getD (l : List Int) (i : Nat) (d : List V) (h : i < l.length) : (urow l).getD i d = [.int .u64 (l.getD i 0)] := by
  unfold urow
  rw [List.getD_eq_getElem?_getD, List.getElem?_map, List.getD_eq_getElem?_getD, List.getElem?_eq_getElem h]; rfl
theorem nrow_set (l : List Nat) (i v : Nat) : (nrow l).set i [.int .i64 (v : Int)] = nrow (l.set i v) := by unfold nrow; rw [List.map_set]
theorem urow_set (l : List Int) (i : Nat) (v : Int) : (urow l).set i [.int .u64 v] = urow (l.set i v) := by unfold urow; rw [List.map_set]
theorem nrow_purT (l : List Nat) : (∀ r ∈ nrow l, V.purs r = true) ↔ True := iff_true_intro fun r hr => by obtain ⟨x, _, rfl⟩ := List.mem_map.1 hr; rfl
theorem urow_purT (l : List Int) : (∀ r ∈ urow l, V.purs r = true) ↔ True := iff_true_intro fun r hr => by obtain ⟨x, _, rfl⟩ := List.mem_map.1 hr; rfl
theorem nrow_oneT (l : List Nat) : (∀ r ∈ nrow l, r.length = 1) ↔ True := iff_true_intro fun r hr => by obtain ⟨x, _, rfl⟩ := List.mem_map.1 hr; rfl
theorem urow_oneT (l : List Int) : (∀ r ∈ urow l, r.length = 1) ↔ True := iff_true_intro fun r hr => by obtain ⟨x, _, rfl⟩ := List.mem_map.1 hr; rfl
attribute [go_sem] nrow_len urow_len nrow_purT urow_purT nrow_oneT urow_oneT
/-- The rests, by index. -/
def fr (r : List Int) (k : Nat) : Int := r.getD k 0
/-- The objects: the box of rests, that of the order, their rows. -/
def SO (r : List Int) (n : Nat) (d : List Nat) : List (Nat × Ob) :=
  [(1000, .box 84 [.own 1002 r.length]), (1001, .box 34 [.own 1003 n]), (1002, .arr 82 1 (urow r)), (1003, .arr 3 1 (nrow d))]
theorem mem_getD {d : List Nat} {n i : Nat} (h : ∀ k ∈ d, k < n) (hi : i < d.length) : d.getD i 0 < n := by
  rw [List.getD_eq_getElem?_getD, List.getElem?_eq_getElem hi]; exact h _ (List.getElem_mem hi)
theorem less_e (r : List Int) (n : Nat) (d : List Nat) (hn : d.length = n) (hd : ∀ k ∈ d, k < r.length) (i j : Nat) (hi : i < d.length) (hj : j < d.length) :
    Eff Tryz.prog UT 29 [.int .i64 i, .int .i64 j, .ptr 1000 0, .ptr 1001 0] (SO r n d) (.bool (decide (fr r (d.getD j 0) < fr r (d.getD i 0)))) (SO r n d) := by
  have hG := tNo_ok
  have h1 := mem_getD hd hi
  have h2 := mem_getD hd hj
  have hi' : i < n := hn ▸ hi
  have hj' : j < n := hn ▸ hj
  refine Eff.of_aw Tryz.func29 body29 nm29 res29 (by rw [nt29]; simp) fun C hN Q hQ => ?_
  rw [nt29] at hN
  unfold c29
  refine aw_seq (aw_region (EF := EF0) hG (by rw [hN]; exact tr29_0) ?_)
  simp only [a29_0, go_sem, simprocAttr, SO]
  refine aw_seq (aw_regionD (EF := EF0) hG mixed (by rw [hN]; exact tr29_1) ok29_1 ?_)
  simp only [a29_1, d29_1, go_sem, simprocAttr, hn, nrow_getD _ _ _ hi, nrow_getD _ _ _ hj, urow_getD _ _ _ h1, urow_getD _ _ _ h2]
  (repeat' apply And.intro) <;> (try first | omega | ((fail_if_success refine idW ?_); (fail_if_success refine idS ?_); intros; (repeat' apply And.intro) <;> first | assumption | omega | (simp_all; done)))
  refine aw_ret ?_
  show Q _ _
  refine hQ _ _ ⟨mkE [(6, .bool (decide (fr r (d.getD j 0) < fr r (d.getD i 0))))], mkH (SO r n d)⟩ (.inl rfl) (Le.mk _ _ ?_ ?_ rfl) rfl ?_ ?_ <;> simp only [outφ, outV, AR.res, go_sem, simprocAttr, SO, fr]
  rfl
def swp (d : List Nat) (i j : Nat) : List Nat := (d.set i (d.getD j 0)).set j (d.getD i 0)
theorem swp_len (d : List Nat) (i j : Nat) : (swp d i j).length = d.length := by unfold swp; rw [List.length_set, List.length_set]
/-- A function that changes the order alone, used under the same names. -/
theorem so_use {dd : Option Nat} {s : St} {K : St → Prop} {f : Nat} {us : List V} {v : V} {r : List Int} {n : Nat} {d d' : List Nat} (he : Eff Tryz.prog UT f us (SO r n d) v (SO r n d'))
    (hr : V.rens (rni [(1000, 1000), (1001, 1001), (1002, 1002), (1003, 1003)]) us = us) (hn : V.nins [1000, 1001, 1002, 1003] us = true) (hv1 : v.nin [1000, 1001, 1002, 1003] = true) (hv2 : v.ren (rn ([(1000, 1000), (1001, 1001), (1002, 1002), (1003, 1003)] ++ [])) = v)
    (hb : s.h 1000 = some (.box 84 [.own 1002 r.length])) (hc : s.h 1001 = some (.box 34 [.own 1003 n])) (hx : s.h 1002 = some (.arr 82 1 (urow r))) (hy : s.h 1003 = some (.arr 3 1 (nrow d)))
    (hK : K ⟨setE dd v s.e, hov (SO r n d') s.h⟩) : EStep Tryz.prog UT dd f us s K := by
  refine ⟨[(1000, 1000), (1001, 1001), (1002, 1002), (1003, 1003)], [], _, _, _, _, he, ⟨by decide, rfl, rfl, by simp, by simp, ?_, hr, hn, hv1, ?_, ?_⟩, ?_⟩
  · intro p hp
    simp only [List.mem_cons, List.not_mem_nil, or_false] at hp
    rcases hp with rfl | rfl | rfl | rfl
    · exact ⟨_, hb, by simp [SO, mkH, Ob.ren, V.rens, V.ren, rni], by simp [Ob.nin, V.nins, V.nin]⟩
    · exact ⟨_, hc, by simp [SO, mkH, Ob.ren, V.rens, V.ren, rni], by simp [Ob.nin, V.nins, V.nin]⟩
    · exact ⟨_, hx, by simp [SO, mkH, Ob.ren], by simp only [Ob.nin, urow_purT]⟩
    · exact ⟨_, hy, by simp [SO, mkH, Ob.ren], by simp only [Ob.nin, nrow_purT]⟩
  · intro q hq
    simp only [SO, List.mem_cons, List.not_mem_nil, or_false] at hq
    rcases hq with rfl | rfl | rfl | rfl
    · simp [Ob.nin, V.nins, V.nin, SO]
    · simp [Ob.nin, V.nins, V.nin, SO]
    · simp only [Ob.nin, urow_purT]
    · simp only [Ob.nin, nrow_purT]
  · intro p hp o o' h1 h2
    simp only [List.mem_cons, List.not_mem_nil, or_false] at hp
    rcases hp with rfl | rfl | rfl | rfl <;> simp [SO, mkH] at h1 h2 <;> subst h1 h2 <;> simp [Ob.kind]
  · have e2 : (SO r n d').map (fun q => (rn ([(1000, 1000), (1001, 1001), (1002, 1002), (1003, 1003)] ++ []) q.1, q.2.ren (rn ([(1000, 1000), (1001, 1001), (1002, 1002), (1003, 1003)] ++ [])))) = SO r n d' := by
      simp [SO, rn, Ob.ren, V.rens, V.ren]
    rw [hv2, e2]
    exact hK
end Go.Proofs.YtfjgnfgadkajnaaGreat
/- The exchange that reflectlite hands a sort: it exchanges two elements of the row. -/
namespace Go.Proofs.YtfjgnfgadkajnaaGreat
open Go Go.RowKit
set_option linter.unusedSimpArgs false
set_option linter.unusedVariables false
set_option linter.deprecated false
noncomputable def intT : TypeInfo := (Tryz.prog.info? 3).get (by kernel_rfl)
/-- The type's handle that the exchange is bound to. -/
noncomputable def hdl : Value := Go.typeHandle Tryz.prog 3
theorem run_swapper (args : Array Value) (W : World) : (callFunc 69 args).run Tryz.prog W = ((Extern.ReflectliteSwapper.swap true args).run Tryz.prog W).andThen fun v w' => .ok (.value v) w' :=
  run_callFunc_extern Tryz.func69 (by kernel_rfl) (by kernel_rfl) (by kernel_rfl) (e := Extern.ReflectliteSwapper.swap true) (by kernel_rfl) args W
theorem arr_bang (l : List Int) (i : Nat) (h : i < l.length) : l.toArray[i]! = l.getD i 0 := by
  rw [List.getD_eq_getElem?_getD, List.getElem?_eq_getElem h, getElem!_pos _ i (by simpa using h)]
  simp
theorem so_arr {r : List Int} {k : Nat} {d : List Nat} {n : Nat} {t sz rows} (h : mkH (SO r k d) n = some (.arr t sz rows)) : n = 1002 ∧ t = 82 ∧ sz = 1 ∧ rows = urow r ∨ n = 1003 ∧ t = 3 ∧ sz = 1 ∧ rows = nrow d := by
  simp only [SO, mkH] at h
  repeat' split at h
  all_goals first | (rename_i e; subst e; injection h with h; injection h with h1 h2 h3; subst h1 h2 h3; simp; done) | (injection h with h; cases h) | cases h
theorem mkH_so (r : List Int) (n : Nat) (d : List Nat) (d' : List Nat) : hupd (mkH (SO r n d)) 1003 (.arr 3 1 (nrow d')) = mkH (SO r n d') := by
  funext m
  unfold hupd
  simp only [SO, mkH]
  by_cases e : m = 1003
  · subst e; simp
  · rw [if_neg e, if_neg e, if_neg e]
theorem own_row {w : World} {t : TypeId} {v : Value} {n : Nat} {xs : List Value} (h : w.ownsRow 0 t 1 v n xs) (h0 : 0 < n) : ∃ g cap, v = .slice (some ⟨g, 0, none⟩) n cap ∧ g < w.heap.size := by
  rcases h.2 with ⟨_, e⟩ | ⟨g, cap, cur, e, _, hh, _⟩
  · omega
  · exact ⟨g, cap, e, (Array.getElem?_eq_some_iff.1 hh).1⟩
theorem swp_get (d : List Nat) {i j k : Nat} (hi : i < d.length) (hj : j < d.length) (hk : k < d.length) : (swp d i j).getD k 0 = if j = k then d.getD i 0 else if i = k then d.getD j 0 else d.getD k 0 := by
  simp only [swp, List.getD_eq_getElem?_getD, List.getElem?_set, List.length_set]
  by_cases c1 : j = k
  · subst c1; simp [hj]
  · by_cases c2 : i = k
    · subst c2; simp [c1, hi]
    · simp [c1, c2]
theorem pin_inv {M : Nat → Prop} {w : World} {ι : Nat → Value} {h : Nat → Option Ob} {cv cv' : Value} (r : Rel M w ι h (.pin cv) cv') : cv' = cv := by cases r with | pur hp => cases hp; rfl
theorem swap_e (r : List Int) (n : Nat) (d : List Nat) (hn : d.length = n) (i j : Nat) (hi : i < d.length) (hj : j < d.length) :
    Eff Tryz.prog UT 69 [.int .i64 i, .int .i64 j, .own 1003 n, .pin hdl] (SO r n d) (.tup []) (SO r n (swp d i j)) := by
  subst hn
  refine .inr fun w M ι cargs hm hsz hargs => ?_
  have a0 := (hargs 0 _ rfl).int_inv
  have a1 := (hargs 1 _ rfl).int_inv
  have a2 := hargs 2 _ rfl
  have a3 : cargs.getD 3 undef = hdl := pin_inv (hargs 3 _ rfl)
  obtain ⟨xs, hown, hrl, hx1, hv⟩ := hm.obj 1003 (.arr 3 1 (nrow d)) rfl
  rw [nrow_len] at hown
  have e2 : cargs.getD 2 undef = ι 1003 := by
    cases a2 with
    | pur hp => cases hp
    | own _ _ t sz rows _ ho hle hv hs =>
      rcases so_arr ho with ⟨e, _⟩ | ⟨_, _, _, rfl⟩
      · cases e
      · exact hv (nrow_len d)
  obtain ⟨g, cap, eι, hg⟩ := own_row hown (by omega)
  have hcargs : cargs = #[.int .i64 i, .int .i64 j] ++ #[.slice (some ⟨g, 0, none⟩) d.length cap, hdl] := by
    rw [← eι, ← e2, ← a0, ← a1, ← a3]
    refine Array.ext (by simpa using hsz) fun k hk _ => ?_
    have hk4 : k < 4 := by rw [hsz] at hk; exact hk
    match k, hk4 with
    | 0, _ => simp [Array.getD, show 0 < cargs.size by omega]
    | 1, _ => simp [Array.getD, show 1 < cargs.size by omega]
    | 2, _ => simp [Array.getD, show 2 < cargs.size by omega]
    | 3, _ => simp [Array.getD, show 3 < cargs.size by omega]
  have hxs : ∀ k (hk : k < d.length), xs[k]? = some (.int .i64 ((d.getD k 0 : Nat) : Int)) := fun k hk => by
    have h1 := hv k 0 [.int .i64 ((d.getD k 0 : Nat) : Int)] (.int .i64 ((d.getD k 0 : Nat) : Int)) (by
      have := nrow_getD d k [] hk
      rw [List.getD_eq_getElem?_getD, List.getElem?_eq_getElem (by rw [nrow_len]; exact hk), Option.getD_some] at this
      rw [List.getElem?_eq_getElem (by rw [nrow_len]; exact hk), this]) rfl
    have hl : k < xs.length := by rw [hown.1]; omega
    rw [List.getElem?_eq_getElem hl, ← h1.int_inv, Nat.mul_one, Nat.add_zero, List.getD_eq_getElem?_getD, List.getElem?_eq_getElem hl]
    rfl
  rw [eι] at hown
  generalize hD : (d.map fun (k : Nat) => (k : Int)) = D
  have hDl : D.length = d.length := by rw [← hD, List.length_map]
  have hDg : ∀ k, k < d.length → D.toArray[k]! = ((d.getD k 0 : Nat) : Int) := fun k hk => by
    rw [arr_bang D k (by omega), ← hD, List.getD_eq_getElem?_getD, List.getElem?_map, List.getD_eq_getElem?_getD, List.getElem?_eq_getElem hk]
    rfl
  have hH : Sort.Holds (Value.int .i64) w g 0 D.toArray := fun k hk => by
    have hk2 : k < d.length := by simpa [hDl] using hk
    rw [Nat.zero_add]
    exact ⟨by rw [hown.cellAt k (by omega), hxs k hk2, hDg k hk2], hown.frozenAt k⟩
  have hrun := swapSwaps_of_literal (P := Tryz.prog) true 69 run_swapper 3 intT (by kernel_rfl) (by kernel_rfl) (fun _ => by kernel_rfl) (Value.int .i64) (fun _ => rfl) g 0 d.length cap w D.toArray hH (by simpa using hDl) i j hi hj
  rw [hDg i hi, hDg j hj, Nat.zero_add, Nat.zero_add] at hrun
  obtain ⟨o1, g1⟩ := hown.stored i (.int .i64 ((d.getD j 0 : Nat) : Int))
  obtain ⟨o2, g2⟩ := o1.stored j (.int .i64 ((d.getD i 0 : Nat) : Int))
  generalize hw1 : (w.setCell ⟨g, i, none⟩ (.int .i64 ((d.getD j 0 : Nat) : Int))).setCell ⟨g, j, none⟩ (.int .i64 ((d.getD i 0 : Nat) : Int)) = w1 at *
  have hids : iupd ι 1003 (ι 1003) = ι := by funext m; unfold iupd; split <;> simp_all
  have hlen := swp_len d i j
  have hkeep : Keeps (mkH (SO r d.length d)) (hupd (mkH (SO r d.length d)) 1003 (.arr 3 1 (nrow (swp d i j)))) ι (iupd ι 1003 (ι 1003)) :=
    Keeps.put (o := .arr 3 1 (nrow d)) rfl (.inr (.inl ⟨_, _, _, _, rfl, rfl, by rw [nrow_len, nrow_len, hlen]; exact Nat.le_refl _, fun _ => rfl⟩))
  have hblk : ∀ k, k < w.heap.size → (∀ o, mkH (SO r d.length d) 1003 = some o → blk (ι 1003) ≠ some k) → w1.heap[k]? = w.heap[k]? := fun k _ hne => by
    have hkg : k ≠ g := fun e => hne _ rfl (by rw [eι, e]; rfl)
    rw [← hw1, Below.heap_setCell _ _ _ k hkg, Below.heap_setCell _ _ _ k hkg]
  have hob : obR M w1 (iupd ι 1003 (ι 1003)) (hupd (mkH (SO r d.length d)) 1003 (.arr 3 1 (nrow (swp d i j)))) 1003 (.arr 3 1 (nrow (swp d i j))) := by
    rw [hids]
    refine ⟨(xs.set i (.int .i64 ((d.getD j 0 : Nat) : Int))).set j (.int .i64 ((d.getD i 0 : Nat) : Int)), ?_, nrow_oneT _ |>.2 trivial, fun x hx => ?_, fun k m row v h1 h2 => ?_⟩
    · rw [nrow_len, hlen, eι]; exact o2
    · rcases List.mem_or_eq_of_mem_set hx with hx | rfl
      · rcases List.mem_or_eq_of_mem_set hx with hx | rfl
        · exact hx1 x hx
        · rfl
      · rfl
    · have hk : k < d.length := by have := (List.getElem?_eq_some_iff.1 h1).1; rwa [nrow_len, hlen] at this
      have hrow : row = [.int .i64 (((swp d i j).getD k 0 : Nat) : Int)] := by
        have := nrow_getD (swp d i j) k [] (by omega)
        rw [List.getD_eq_getElem?_getD, h1] at this
        exact this
      subst hrow
      obtain rfl : m = 0 := by have := (List.getElem?_eq_some_iff.1 h2).1; simp at this; omega
      injection h2 with h2
      subst h2
      have hxl : xs.length = d.length := by have := hown.1; omega
      have : ((xs.set i (.int .i64 ((d.getD j 0 : Nat) : Int))).set j (.int .i64 ((d.getD i 0 : Nat) : Int))).getD (k * 1 + 0) undef = .int .i64 (((swp d i j).getD k 0 : Nat) : Int) := by
        rw [Nat.mul_one, Nat.add_zero, swp_get d hi hj hk, List.getD_eq_getElem?_getD]
        simp only [List.getElem?_set, List.length_set, hxl]
        by_cases c1 : j = k
        · subst c1; simp [hk]
        · by_cases c2 : i = k
          · subst c2; simp [c1, hk]
          · simp only [c1, c2, if_false]
            rw [hxs k hk]; rfl
      rw [this]
      exact .pur (.int _ _)
  obtain ⟨s1, s2⟩ := hm.step 1003 (.arr 3 1 (nrow (swp d i j))) (ι 1003) w1 (by rw [← hw1]; simp) (by rw [← hw1]; rfl) (by rw [← hw1]; rfl) (by rw [← hw1]; rfl) hblk (fun q hq => .inl ⟨_, rfl, hq⟩) hkeep hob (fun _ => rfl) (fun _ => ⟨fun _ _ h => (by cases h), fun _ h => (by cases h)⟩)
  rw [hids, mkH_so r _ d _] at s1
  refine ⟨.tuple #[], w1, M, ι, ?_, .pur (.tup [] #[] rfl (fun i v hi => by cases hi)), s1⟩
  rw [hcargs]
  exact hrun
end Go.Proofs.YtfjgnfgadkajnaaGreat
/- Exchanging ranges, turning ranges, sorting by insertion. -/
namespace Go.Proofs.YtfjgnfgadkajnaaGreat
open Go Go.RowKit
set_option linter.unusedSimpArgs false
set_option linter.unusedVariables false
set_option linter.deprecated false
def EFs : Nat → Bool := fun f => f == 29 || f == 69 || f == 74 || f == 75 || f == 81 || f == 92
/-- What the sort's functions are handed. -/
noncomputable def DD (n : Nat) : V := .agg [.fn 29 [.ptr 1000 0, .ptr 1001 0], .fn 69 [.own 1003 n, .pin hdl]]
section
variable {dd : Option Nat} {s : St} {K : St → Prop} {r : List Int} {n : Nat} {d d' : List Nat}
theorem swap_u {x y : Int} (i j : Nat) (hx : x = i) (hy : y = j) (hn : d.length = n) (hi : i < d.length) (hj : j < d.length) (hd : swp d i j = d')
    (h0 : s.h 1000 = some (.box 84 [.own 1002 r.length])) (h1 : s.h 1001 = some (.box 34 [.own 1003 n])) (h2 : s.h 1002 = some (.arr 82 1 (urow r))) (h3 : s.h 1003 = some (.arr 3 1 (nrow d)))
    (hK : K ⟨setE dd (.tup []) s.e, hov (SO r n d') s.h⟩) : EStep Tryz.prog UT dd 69 [.int .i64 x, .int .i64 y, .own 1003 n, .pin hdl] s K := by
  subst hx hy hd
  exact so_use (swap_e r n d hn i j hi hj) (by simp [V.rens, V.ren, rni]) (by simp [V.nins, V.nin]) (by simp [V.nin, V.nins]) (by simp [V.ren, V.rens]) h0 h1 h2 h3 hK
theorem less_u {x y : Int} {b : Bool} (i j : Nat) (hx : x = i) (hy : y = j) (hn : d.length = n) (hd : ∀ k ∈ d, k < r.length) (hi : i < d.length) (hj : j < d.length) (hb : b = decide (fr r (d.getD j 0) < fr r (d.getD i 0)))
    (h0 : s.h 1000 = some (.box 84 [.own 1002 r.length])) (h1 : s.h 1001 = some (.box 34 [.own 1003 n])) (h2 : s.h 1002 = some (.arr 82 1 (urow r))) (h3 : s.h 1003 = some (.arr 3 1 (nrow d)))
    (hK : K ⟨setE dd (.bool b) s.e, hov (SO r n d) s.h⟩) : EStep Tryz.prog UT dd 29 [.int .i64 x, .int .i64 y, .ptr 1000 0, .ptr 1001 0] s K := by
  subst hx hy hb
  exact so_use (less_e r n d hn hd i j hi hj) (by simp [V.rens, V.ren, rni]) (by simp [V.nins, V.nin]) (by simp [V.nin]) (by simp [V.ren]) h0 h1 h2 h3 hK
end
theorem swp_split (P Q R : List Nat) (x y : Nat) {i j : Nat} (hi : i = P.length) (hj : j = P.length + 1 + Q.length) : swp (P ++ x :: (Q ++ y :: R)) i j = P ++ y :: (Q ++ x :: R) := by
  subst hi hj
  have g1 : (P ++ x :: (Q ++ y :: R)).getD P.length 0 = x := by simp [List.getD_eq_getElem?_getD]
  have g2 : (P ++ x :: (Q ++ y :: R)).getD (P.length + 1 + Q.length) 0 = y := by
    rw [List.getD_eq_getElem?_getD, List.getElem?_append_right (by omega), show P.length + 1 + Q.length - P.length = Q.length + 1 by omega, List.getElem?_cons_succ, List.getElem?_append_right (by omega), Nat.sub_self]
    rfl
  unfold swp
  rw [g1, g2, List.set_append_right _ _ (Nat.le_refl _), Nat.sub_self, List.set_cons_zero, List.set_append_right _ _ (by omega), show P.length + 1 + Q.length - P.length = Q.length + 1 by omega, List.set_cons_succ, List.set_append_right _ _ (by omega), Nat.sub_self, List.set_cons_zero]
theorem swapRange_e (r : List Int) (n : Nat) (A X M Y B : List Nat) (hXY : X.length = Y.length) (hn : (A ++ (X ++ (M ++ (Y ++ B)))).length = n) (hbig : n ≤ 1000000) {a b c : Int} (ha : a = A.length) (hb : b = (A.length + X.length + M.length : Nat)) (hc : c = X.length) :
    Eff Tryz.prog UT 92 [DD n, .int .i64 a, .int .i64 b, .int .i64 c] (SO r n (A ++ (X ++ (M ++ (Y ++ B))))) (.tup []) (SO r n (A ++ (Y ++ (M ++ (X ++ B))))) := by
  subst ha hb hc
  have hG := tNo_ok
  simp only [List.length_append] at hn
  refine Eff.of_aw Tryz.func92 body92 nm92 res92 (by rw [nt92]; simp) fun C hN Q hQ => ?_
  rw [nt92] at hN
  unfold c92
  refine aw_seq (aw_region (EF := EFs) hG (by rw [hN]; exact tr92_0) ?_)
  simp only [a92_0, go_sem, simprocAttr, EFs, tNo, SO, DD]
  refine aw_seq (aw_region (EF := EFs) hG (by rw [hN]; exact tr92_1) ?_)
  simp only [a92_1, go_sem, simprocAttr, EFs, tNo, SO, DD]
  refine aw_block ?_
  refine aw_loop (α := (List Nat) × (List Nat) × (List Nat) × (List Nat)) (fun γ => (X = γ.1 ++ γ.2.1) ∧ (Y = γ.2.2.1 ++ γ.2.2.2) ∧ (γ.1.length = γ.2.2.1.length)) (fun γ => ⟨mkE [(1, V.int IntKind.i64 ↑A.length), (2, V.int IntKind.i64 ↑(A.length + X.length + M.length)), (3, V.int IntKind.i64 ↑X.length), (4, V.ptr 4 0), (8, .int .i64 γ.1.length)], mkH [(4, Ob.box 126 [V.fn 29 [V.ptr 1000 0, V.ptr 1001 0], V.fn 69 [V.own 1003 n, V.pin hdl]]), (1000, Ob.box 84 [V.own 1002 r.length]), (1001, Ob.box 34 [V.own 1003 n]), (1002, Ob.arr 82 1 (urow r)), (1003, .arr 3 1 (nrow (A ++ (γ.2.2.1 ++ (γ.2.1 ++ (M ++ (γ.1 ++ (γ.2.2.2 ++ B))))))))]⟩) (fun γ => γ.2.1.length) ([], X, [], Y) ⟨rfl, rfl, rfl⟩ ?_ ?_
  · refine Le.mk _ _ ?_ ?_ rfl <;> simp only [go_sem, simprocAttr] <;> (repeat' apply And.intro) <;> (try first | rfl | exact wk_frzb rfl rfl rfl | exact wk_fn rfl | exact .nilo _ _ _ rfl rfl)
  · rintro ⟨X1, X2, Y1, Y2⟩ ⟨h1, h2, h3⟩ KL0 hKL0
    try dsimp only at *
    refine aw_seq ?_
    refine aw_seq (aw_region (EF := EFs) hG (by rw [hN]; exact tr92_2) ?_)
    simp only [a92_2, go_sem, simprocAttr, EFs, tNo, SO, DD]
    refine aw_cond (b := _) rfl (fun hc2 => ?_) (fun hc2 => ?_)
    · simp only [hcL] at hc2
      refine aw_skip ?_
      try simp only [go_sem, simprocAttr]
      refine aw_seq ?_
      refine aw_block ?_
      obtain ⟨x, X2, rfl⟩ : ∃ x l, X2 = x :: l := List.exists_cons_of_length_pos (by rw [h1, List.length_append] at hc2; omega)
      obtain ⟨y, Y2, rfl⟩ : ∃ x l, Y2 = x :: l := List.exists_cons_of_length_pos (by have e1 := congrArg List.length h1; have e2 := congrArg List.length h2; rw [List.length_append] at e1 e2; simp only [List.length_cons] at e1; omega)
      have e1 := congrArg List.length h1
      have e2 := congrArg List.length h2
      simp only [List.length_append, List.length_cons] at e1 e2
      refine aw_region (EF := EFs) hG (by rw [hN]; exact tr92_4) ?_
      simp only [a92_4, go_sem, simprocAttr, inI, EFs, tNo, SO, DD]
      (repeat' apply And.intro) <;> (try first | omega | ((fail_if_success refine idW ?_); (fail_if_success refine idS ?_); intros; (repeat' apply And.intro) <;> first | assumption | omega | (simp_all; done)))
      refine swap_u (d' := A ++ ((Y1 ++ [y]) ++ (X2 ++ (M ++ ((X1 ++ [x]) ++ (Y2 ++ B)))))) (A.length + X1.length) (A.length + X.length + M.length + X1.length) (by simp) (by simp) ?_ ?_ ?_ ?_ rfl rfl rfl rfl ?_
      · simp only [List.length_append, List.length_cons]; omega
      · simp only [List.length_append, List.length_cons]; omega
      · simp only [List.length_append, List.length_cons]; omega
      · have := swp_split (A ++ Y1) (X2 ++ (M ++ X1)) (Y2 ++ B) x y (i := A.length + X1.length) (j := A.length + X.length + M.length + X1.length) (by simp only [List.length_append]; omega) (by simp only [List.length_append]; omega); simpa using this
      simp only [go_sem, simprocAttr, EFs, SO]
      refine aw_region (EF := EFs) hG (by rw [hN]; exact tr92_3) ?_
      simp only [a92_3, go_sem, simprocAttr, inI, EFs, tNo, SO, DD]
      (repeat' apply And.intro) <;> (try first | omega | ((fail_if_success refine idW ?_); (fail_if_success refine idS ?_); intros; (repeat' apply And.intro) <;> first | assumption | omega | (simp_all; done)))
      refine hKL0 (X1 ++ [x], X2, Y1 ++ [y], Y2) _ ?_ ?_ ?_
      · (try dsimp only); exact ⟨by rw [h1]; simp, by rw [h2]; simp, by simp [h3]⟩
      · (try dsimp only); simp
      · refine Le.mk _ _ ?_ ?_ rfl <;> simp only [go_sem, simprocAttr, List.length_append] <;> (repeat' apply And.intro) <;> (try first | rfl | exact wk_frzb rfl rfl rfl | exact wk_fn rfl | exact .nilo _ _ _ rfl rfl)
    · simp only [hcL] at hc2
      have e1 := congrArg List.length h1
      have e2 := congrArg List.length h2
      simp only [List.length_append] at e1 e2
      obtain rfl : X2 = [] := List.eq_nil_of_length_eq_zero (by omega)
      obtain rfl : Y2 = [] := List.eq_nil_of_length_eq_zero (by omega)
      rw [List.append_nil] at h1 h2
      subst h1 h2
      refine aw_exit ?_
      simp only [go_sem, simprocAttr]
      show Q _ _
      refine hQ _ _ ⟨mkE [], mkH (SO r n (A ++ (Y ++ (M ++ (X ++ B)))))⟩ (.inr rfl) (Le.mk _ _ ?_ ?_ rfl) rfl ?_ ?_ <;> simp only [outφ, outV, AR.res, go_sem, simprocAttr, SO]
section
variable {dd : Option Nat} {s : St} {K : St → Prop} {r : List Int} {n : Nat} {d d' : List Nat}
/-- A function of the sort's, used under the same names. -/
theorem fn_u {f : Nat} {xs : List V} (he : Eff Tryz.prog UT f (DD n :: xs) (SO r n d) (.tup []) (SO r n d')) (hr : V.rens (rni [(1000, 1000), (1001, 1001), (1002, 1002), (1003, 1003)]) xs = xs) (hn : V.nins [1000, 1001, 1002, 1003] xs = true)
    (h0 : s.h 1000 = some (.box 84 [.own 1002 r.length])) (h1 : s.h 1001 = some (.box 34 [.own 1003 n])) (h2 : s.h 1002 = some (.arr 82 1 (urow r))) (h3 : s.h 1003 = some (.arr 3 1 (nrow d)))
    (hK : K ⟨setE dd (.tup []) s.e, hov (SO r n d') s.h⟩) : EStep Tryz.prog UT dd f (.agg [.fn 29 [.ptr 1000 0, .ptr 1001 0], .fn 69 [.own 1003 n, .pin hdl]] :: xs) s K := by
  refine so_use he ?_ ?_ (by simp [V.nin, V.nins]) (by simp [V.ren, V.rens]) h0 h1 h2 h3 hK
  · rw [V.rens, hr]; simp [V.rens, V.ren, rni]
  · simp [V.nins, V.nin, hn]
end
theorem rotate_e (r : List Int) (n : Nat) (A X Y B : List Nat) (hX : 0 < X.length) (hY : 0 < Y.length) (hn : (A ++ (X ++ (Y ++ B))).length = n) (hbig : n ≤ 1000000) {a m b : Int} (ha : a = A.length) (hm : m = (A.length + X.length : Nat)) (hb : b = (A.length + X.length + Y.length : Nat)) :
    Eff Tryz.prog UT 81 [DD n, .int .i64 a, .int .i64 m, .int .i64 b] (SO r n (A ++ (X ++ (Y ++ B)))) (.tup []) (SO r n (A ++ (Y ++ (X ++ B)))) := by
  subst ha hb hm
  have hG := tNo_ok
  have hn0 := hn
  simp only [List.length_append] at hn
  generalize hT : A ++ (Y ++ (X ++ B)) = T
  have hTl : T.length = n := by rw [← hT]; simp only [List.length_append]; omega
  generalize hmm : A.length + X.length = mm
  refine Eff.of_aw Tryz.func81 body81 nm81 res81 (by rw [nt81]; simp) fun C hN Q hQ => ?_
  rw [nt81] at hN
  unfold c81
  refine aw_seq (aw_region (EF := EFs) hG (by rw [hN]; exact tr81_0) ?_)
  simp only [a81_0, go_sem, simprocAttr, EFs, tNo, SO, DD]
  refine aw_seq (aw_region (EF := EFs) hG (by rw [hN]; exact tr81_1) ?_)
  simp only [a81_1, go_sem, simprocAttr, inI, EFs, tNo, SO, DD]
  (repeat' apply And.intro) <;> (try first | omega | ((fail_if_success refine idW ?_); (fail_if_success refine idS ?_); intros; (repeat' apply And.intro) <;> first | assumption | omega | (simp_all; done)))
  refine aw_seq (aw_region (EF := EFs) hG (by rw [hN]; exact tr81_2) ?_)
  simp only [a81_2, go_sem, simprocAttr, inI, EFs, tNo, SO, DD]
  (repeat' apply And.intro) <;> (try first | omega | ((fail_if_success refine idW ?_); (fail_if_success refine idS ?_); intros; (repeat' apply And.intro) <;> first | assumption | omega | (simp_all; done)))
  refine aw_seq ?_
  refine aw_block ?_
  refine aw_loop (α := (List Nat) × (List Nat) × (List Nat) × (List Nat)) (fun γ => (γ.1 ++ (γ.2.2.1 ++ (γ.2.1 ++ γ.2.2.2)) = T) ∧ (γ.1.length + γ.2.1.length = mm) ∧ (0 < γ.2.1.length) ∧ (0 < γ.2.2.1.length)) (fun γ => ⟨mkE [(2, V.int IntKind.i64 ↑mm), (4, V.ptr 4 0), (8, .int .i64 γ.2.1.length), (9, .int .i64 γ.2.2.1.length)], mkH [(4, Ob.box 126 [V.fn 29 [V.ptr 1000 0, V.ptr 1001 0], V.fn 69 [V.own 1003 n, V.pin hdl]]), (1000, Ob.box 84 [V.own 1002 r.length]), (1001, Ob.box 34 [V.own 1003 n]), (1002, Ob.arr 82 1 (urow r)), (1003, .arr 3 1 (nrow (γ.1 ++ (γ.2.1 ++ (γ.2.2.1 ++ γ.2.2.2)))))]⟩) (fun γ => γ.2.1.length + γ.2.2.1.length) (A, X, Y, B) ⟨hT, hmm, hX, hY⟩ ?_ ?_
  · refine Le.mk _ _ ?_ ?_ rfl <;> simp only [go_sem, simprocAttr] <;> (repeat' apply And.intro) <;> (try first | rfl | exact wk_frzb rfl rfl rfl | exact wk_fn rfl | exact .nilo _ _ _ rfl rfl)
    all_goals omega
  · rintro ⟨P, U, W, E⟩ ⟨h1, h2, h3, h4⟩ KL0 hKL0
    try dsimp only at *
    have hl := congrArg List.length h1
    simp only [List.length_append] at hl
    refine aw_seq ?_
    refine aw_seq (aw_region (EF := EFs) hG (by rw [hN]; exact tr81_3) ?_)
    simp only [a81_3, go_sem, simprocAttr, EFs, tNo, SO, DD]
    refine aw_cond (b := _) rfl (fun hb3 => ?_) (fun hb3 => ?_)
    · skip
      have hne : U.length ≠ W.length := fun e => by rw [e] at hb3; simp at hb3
      refine aw_skip ?_
      try simp only [go_sem, simprocAttr]
      refine aw_block ?_
      refine aw_seq (aw_region (EF := EFs) hG (by rw [hN]; exact tr81_4) ?_)
      simp only [a81_4, go_sem, simprocAttr, EFs, tNo, SO, DD]
      refine aw_cond (b := _) rfl (fun hc4 => ?_) (fun hc4 => ?_)
      · simp only [hcL] at hc4
        obtain ⟨U1, U2, rfl, hU⟩ : ∃ U1 U2, U = U1 ++ U2 ∧ U1.length = W.length := ⟨U.take W.length, U.drop W.length, (List.take_append_drop _ _).symm, by rw [List.length_take]; omega⟩
        simp only [List.length_append] at hl h2 h3 hc4 hne
        refine aw_seq (aw_region (EF := EFs) hG (by rw [hN]; exact tr81_5) ?_)
        simp only [a81_5, go_sem, simprocAttr, inI, List.length_append, EFs, tNo, SO, DD]
        (repeat' apply And.intro) <;> (try first | omega | ((fail_if_success refine idW ?_); (fail_if_success refine idS ?_); intros; (repeat' apply And.intro) <;> first | assumption | omega | (simp_all; done)))
        refine fn_u (swapRange_e r n P U1 U2 W E (by omega) (by simp only [List.length_append]; omega) hbig (by omega) (by omega) (by omega)) (by simp [V.rens, V.ren]) (by simp [V.nins, V.nin]) rfl rfl rfl ?_ ?_
        · simp only [List.append_assoc]; rfl
        simp only [go_sem, simprocAttr, EFs, SO]
        refine aw_region (EF := EFs) hG (by rw [hN]; exact tr81_6) ?_
        simp only [a81_6, go_sem, simprocAttr, inI, EFs, tNo, SO, DD]
        (repeat' apply And.intro) <;> (try first | omega | ((fail_if_success refine idW ?_); (fail_if_success refine idS ?_); intros; (repeat' apply And.intro) <;> first | assumption | omega | (simp_all; done)))
        refine hKL0 (P ++ W, U2, U1, E) _ ?_ ?_ ?_
        · (try dsimp only); exact ⟨by rw [← h1]; simp, by simp only [List.length_append]; omega, by omega, by omega⟩
        · (try dsimp only); simp only [List.length_append]; omega
        · refine Le.mk _ _ ?_ ?_ rfl <;> simp only [go_sem, simprocAttr, List.length_append, List.append_assoc] <;> (repeat' apply And.intro) <;> (try first | rfl | exact wk_frzb rfl rfl rfl | exact wk_fn rfl | exact .nilo _ _ _ rfl rfl)
          all_goals (try omega)
      · simp only [hcL] at hc4
        obtain ⟨W1, W2, rfl, hU⟩ : ∃ U1 U2, W = U1 ++ U2 ∧ U2.length = U.length := ⟨W.take (W.length - U.length), W.drop (W.length - U.length), (List.take_append_drop _ _).symm, by rw [List.length_drop]; omega⟩
        simp only [List.length_append] at hl h2 h3 hc4 hne
        refine aw_seq (aw_region (EF := EFs) hG (by rw [hN]; exact tr81_7) ?_)
        simp only [a81_7, go_sem, simprocAttr, inI, List.length_append, EFs, tNo, SO, DD]
        (repeat' apply And.intro) <;> (try first | omega | ((fail_if_success refine idW ?_); (fail_if_success refine idS ?_); intros; (repeat' apply And.intro) <;> first | assumption | omega | (simp_all; done)))
        refine fn_u (swapRange_e r n P U W1 W2 E (by omega) (by simp only [List.length_append]; omega) hbig (by omega) (by omega) (by omega)) (by simp [V.rens, V.ren]) (by simp [V.nins, V.nin]) rfl rfl rfl ?_ ?_
        · simp only [List.append_assoc]; rfl
        simp only [go_sem, simprocAttr, EFs, SO]
        refine aw_region (EF := EFs) hG (by rw [hN]; exact tr81_8) ?_
        simp only [a81_8, go_sem, simprocAttr, inI, EFs, tNo, SO, DD]
        (repeat' apply And.intro) <;> (try first | omega | ((fail_if_success refine idW ?_); (fail_if_success refine idS ?_); intros; (repeat' apply And.intro) <;> first | assumption | omega | (simp_all; done)))
        refine hKL0 (P, W2, W1, U ++ E) _ ?_ ?_ ?_
        · (try dsimp only); exact ⟨by rw [← h1]; simp, by omega, by omega, by omega⟩
        · (try dsimp only); simp only [List.length_append]; omega
        · refine Le.mk _ _ ?_ ?_ rfl <;> simp only [go_sem, simprocAttr, List.length_append, List.append_assoc] <;> (repeat' apply And.intro) <;> (try first | rfl | exact wk_frzb rfl rfl rfl | exact wk_fn rfl | exact .nilo _ _ _ rfl rfl)
          all_goals (try omega)
    · skip
      have heq0 : (U.length : Int) = W.length := by simpa using hb3
      have heq : U.length = W.length := by omega
      refine aw_exit ?_
      simp only [go_sem, simprocAttr]
      refine aw_region (EF := EFs) hG (by rw [hN]; exact tr81_9) ?_
      simp only [a81_9, go_sem, simprocAttr, inI, EFs, tNo, SO, DD]
      (repeat' apply And.intro) <;> (try first | omega | ((fail_if_success refine idW ?_); (fail_if_success refine idS ?_); intros; (repeat' apply And.intro) <;> first | assumption | omega | (simp_all; done)))
      refine fn_u (swapRange_e r n P U [] W E heq (by simp only [List.length_append, List.length_nil]; omega) hbig (by omega) (by rw [List.length_nil]; omega) (by omega)) (by simp [V.rens, V.ren]) (by simp [V.nins, V.nin]) rfl rfl rfl ?_ ?_
      · simp only [List.nil_append]; rfl
      simp only [go_sem, simprocAttr, EFs, SO]
      show Q _ _
      refine hQ _ _ ⟨mkE [], mkH (SO r n T)⟩ (.inr rfl) (Le.mk _ _ ?_ ?_ rfl) rfl ?_ ?_ <;> simp only [outφ, outV, AR.res, go_sem, simprocAttr, SO, h1, List.nil_append]
end Go.Proofs.YtfjgnfgadkajnaaGreat
/- Sorting by insertion. -/
namespace Go.Proofs.YtfjgnfgadkajnaaGreat
open Go Go.RowKit
set_option linter.unusedSimpArgs false
set_option linter.unusedVariables false
set_option linter.deprecated false
section
variable {f : Nat → Int}
theorem msT_perm_eq {a b : List Nat} (h : a.Perm b) (hn : b.Nodup) : msT f a = msT f b :=
  msT_eq (msT_sort hn) ((msT_perm b).trans h.symm)
theorem ins_done {S1 S2 L1 : List Nat} {x : Nat} (hs : S1 ++ S2 = msT f L1) (hL : (L1 ++ [x]).Nodup) (h1 : ∀ y ∈ S1, Tb f y x) (h2 : ∀ y ∈ S2, Tb f x y) : msT f (L1 ++ [x]) = S1 ++ x :: S2 := by
  have hn1 : L1.Nodup := (List.nodup_append.1 hL).1
  have hv : SortT f (S1 ++ S2) := by rw [hs]; exact msT_sort hn1
  rw [← msT_one2 hv h1 h2, hs]
  exact (msT_perm_eq ((msT_perm L1).append_right [x]) hL).symm
theorem cur_perm {A S1 S2 L1 R B L : List Nat} {x : Nat} (hs : S1 ++ S2 = msT f L1) (hL : L = L1 ++ x :: R) : (A ++ (S1 ++ x :: (S2 ++ (R ++ B)))).Perm (A ++ (L ++ B)) := by
  subst hL
  refine List.Perm.append_left A ?_
  have h1 : (S1 ++ x :: S2).Perm (L1 ++ [x]) := by
    refine (List.perm_middle).trans ?_
    rw [hs]
    exact ((msT_perm L1).cons x).trans (List.perm_append_singleton x L1).symm
  have := h1.append_right (R ++ B)
  simpa using this
end
theorem swp_next (P R : List Nat) (x y : Nat) {i : Nat} (hi : i = P.length) : swp (P ++ x :: y :: R) (i + 1) i = P ++ y :: x :: R := by
  subst hi
  have g1 : (P ++ x :: y :: R).getD P.length 0 = x := by simp [List.getD_eq_getElem?_getD]
  have g2 : (P ++ x :: y :: R).getD (P.length + 1) 0 = y := by
    rw [List.getD_eq_getElem?_getD, List.getElem?_append_right (by omega), show P.length + 1 - P.length = 1 by omega]; rfl
  unfold swp
  rw [g1, g2, List.set_append_right _ _ (by omega), show P.length + 1 - P.length = 1 by omega, List.set_cons_succ, List.set_cons_zero, List.set_append_right _ _ (Nat.le_refl _), Nat.sub_self, List.set_cons_zero]
theorem ins_e (r : List Int) (n : Nat) (A B L : List Nat) (h0 : 0 < L.length) (hinc : L.Pairwise (· < ·)) (hm : ∀ k ∈ A ++ (L ++ B), k < r.length) (hn : (A ++ (L ++ B)).length = n) (hbig : n ≤ 1000000) {a b : Int} (ha : a = A.length) (hb : b = (A.length + L.length : Nat)) :
    Eff Tryz.prog UT 74 [DD n, .int .i64 a, .int .i64 b] (SO r n (A ++ (L ++ B))) (.tup []) (SO r n (A ++ (msT (fr r) L ++ B))) := by
  subst ha hb
  have hG := tNo_ok
  have hn0 := hn
  simp only [List.length_append] at hn
  have hnd : L.Nodup := hinc.imp fun h e => by omega
  obtain ⟨x0, L0, rfl⟩ := List.exists_cons_of_length_pos h0
  generalize hLL : x0 :: L0 = L at *
  refine Eff.of_aw Tryz.func74 body74 nm74 res74 (by rw [nt74]; simp) fun C hN Q hQ => ?_
  rw [nt74] at hN
  unfold c74
  refine aw_seq (aw_region (EF := EFs) hG (by rw [hN]; exact tr74_0) ?_)
  simp only [a74_0, go_sem, simprocAttr, EFs, tNo, SO, DD]
  refine aw_seq (aw_region (EF := EFs) hG (by rw [hN]; exact tr74_1) ?_)
  simp only [a74_1, go_sem, simprocAttr, inI, EFs, tNo, SO, DD]
  (repeat' apply And.intro) <;> (try first | omega | ((fail_if_success refine idW ?_); (fail_if_success refine idS ?_); intros; (repeat' apply And.intro) <;> first | assumption | omega | (simp_all; done)))
  refine aw_block ?_
  refine aw_loop (α := (List Nat) × (List Nat)) (fun γ => (L = γ.1 ++ γ.2) ∧ (0 < γ.1.length)) (fun γ => ⟨mkE [(1, V.int IntKind.i64 ↑A.length), (2, V.int IntKind.i64 ↑(A.length + L.length)), (3, V.ptr 3 0), (6, .int .i64 (A.length + γ.1.length : Nat))], mkH [(3, Ob.box 126 [V.fn 29 [V.ptr 1000 0, V.ptr 1001 0], V.fn 69 [V.own 1003 n, V.pin hdl]]), (1000, Ob.box 84 [V.own 1002 r.length]), (1001, Ob.box 34 [V.own 1003 n]), (1002, Ob.arr 82 1 (urow r)), (1003, .arr 3 1 (nrow (A ++ (msT (fr r) γ.1 ++ (γ.2 ++ B)))))]⟩) (fun γ => γ.2.length) ([x0], L0) ⟨by rw [← hLL]; rfl, by simp⟩ ?_ ?_
  · refine Le.mk _ _ ?_ ?_ rfl <;> simp only [go_sem, simprocAttr, msT, insT] <;> (repeat' apply And.intro) <;> (try first | rfl | exact wk_frzb rfl rfl rfl | exact wk_fn rfl | exact .nilo _ _ _ rfl rfl)
    rw [← hLL]; rfl
  · rintro ⟨L1, R⟩ ⟨h1, h2⟩ KL0 hKL0
    try dsimp only at *
    refine aw_seq ?_
    refine aw_seq (aw_region (EF := EFs) hG (by rw [hN]; exact tr74_2) ?_)
    simp only [a74_2, go_sem, simprocAttr, EFs, tNo, SO, DD]
    refine aw_cond (b := _) rfl (fun hc2 => ?_) (fun hc2 => ?_)
    · simp only [hcL] at hc2
      refine aw_skip ?_
      try simp only [go_sem, simprocAttr]
      refine aw_seq ?_
      refine aw_block ?_
      obtain ⟨x, R, rfl⟩ : ∃ x l, R = x :: l := List.exists_cons_of_length_pos (by have := congrArg List.length h1; rw [List.length_append] at this; omega)
      have hl := congrArg List.length h1
      simp only [List.length_append, List.length_cons] at hl
      have hlm : (msT (fr r) L1).length = L1.length := msT_len L1
      have hxy : ∀ y ∈ L1, y < x := fun y hy => by rw [h1] at hinc; exact (List.pairwise_append.1 hinc).2.2 y hy x (List.mem_cons_self ..)
      have hnx : (L1 ++ [x]).Nodup := by rw [h1, show L1 ++ x :: R = (L1 ++ [x]) ++ R by simp] at hnd; exact (List.nodup_append.1 hnd).1
      refine aw_seq (aw_region (EF := EFs) hG (by rw [hN]; exact tr74_4) ?_)
      simp only [a74_4, go_sem, simprocAttr, EFs, tNo, SO, DD]
      refine aw_block ?_
      refine aw_loop (α := (List Nat) × (List Nat)) (fun γ => (γ.1 ++ γ.2 = msT (fr r) L1) ∧ (∀ y ∈ γ.2, Tb (fr r) x y)) (fun γ => ⟨mkE [(1, V.int IntKind.i64 ↑A.length), (2, V.int IntKind.i64 ↑(A.length + L.length)), (3, V.ptr 3 0), (6, V.int IntKind.i64 ↑(A.length + L1.length)), (7, .int .i64 (A.length + γ.1.length : Nat))], mkH [(3, Ob.box 126 [V.fn 29 [V.ptr 1000 0, V.ptr 1001 0], V.fn 69 [V.own 1003 n, V.pin hdl]]), (1000, Ob.box 84 [V.own 1002 r.length]), (1001, Ob.box 34 [V.own 1003 n]), (1002, Ob.arr 82 1 (urow r)), (1003, .arr 3 1 (nrow (A ++ (γ.1 ++ x :: (γ.2 ++ (R ++ B))))))]⟩) (fun γ => γ.1.length) (msT (fr r) L1, []) ⟨List.append_nil _, fun _ h => (by cases h)⟩ ?_ ?_
      · refine Le.mk _ _ ?_ ?_ rfl <;> simp only [go_sem, simprocAttr, hlm] <;> (repeat' apply And.intro) <;> (try first | rfl | exact wk_frzb rfl rfl rfl | exact wk_fn rfl | exact .nilo _ _ _ rfl rfl)
      · rintro ⟨S1, S2⟩ ⟨g1, g2⟩ KL2 hKL2
        try dsimp only at *
        have gl := congrArg List.length g1
        rw [List.length_append, hlm] at gl
        have hgt : ((A.length : Int) < ((A.length + S1.length : Nat) : Int)) = (0 < S1.length) := propext ⟨fun h => by omega, fun h => by omega⟩
        refine aw_seq ?_
        by_cases hS : 0 < S1.length
        · skip
          obtain ⟨S1, y, rfl⟩ : ∃ l y, S1 = l ++ [y] := ⟨S1.dropLast, S1.getLast (List.ne_nil_of_length_pos hS), (List.dropLast_concat_getLast _).symm⟩
          have hyL : y ∈ L1 := (msT_perm L1).mem_iff.1 (by rw [← g1]; simp)
          have hcp := cur_perm (A := A) (B := B) g1 h1
          have hSl : (S1 ++ [y]).length = S1.length + 1 := by simp
          simp only [List.length_append, List.length_cons, List.length_nil] at gl
          refine aw_seq (aw_region (EF := EFs) hG (by rw [hN]; exact tr74_5) ?_)
          simp only [a74_5, go_sem, simprocAttr, inI, EFs, tNo, SO, DD, hgt, hS, decide_true]
          (repeat' apply And.intro) <;> (try first | omega | ((fail_if_success refine idW ?_); (fail_if_success refine idS ?_); intros; (repeat' apply And.intro) <;> first | assumption | omega | (simp_all; done)))
          refine less_u (d := A ++ ((S1 ++ [y]) ++ x :: (S2 ++ (R ++ B)))) (b := decide (fr r y < fr r x)) (A.length + S1.length + 1) (A.length + S1.length) ?_ ?_ ?_ (fun k hk => hm k (hcp.mem_iff.1 hk)) ?_ ?_ ?_ rfl rfl rfl ?_ ?_
          iterate 5 (· simp only [List.length_append, List.length_cons, List.length_nil]; omega)
          · rw [show A ++ ((S1 ++ [y]) ++ x :: (S2 ++ (R ++ B))) = (A ++ S1) ++ y :: x :: (S2 ++ (R ++ B)) by simp]; simp only [List.getD_eq_getElem?_getD]; rw [List.getElem?_append_right (by simp), List.getElem?_append_right (by simp only [List.length_append]; omega)]; simp [Nat.add_sub_cancel_left, List.length_append]
          · rfl
          simp only [go_sem, simprocAttr, EFs, SO]
          refine aw_cond (b := _) rfl (fun hb5 => ?_) (fun hb5 => ?_)
          · skip
            refine aw_skip ?_
            try simp only [go_sem, simprocAttr]
            refine aw_seq ?_
            refine aw_block ?_
            have hlt2 : fr r y < fr r x := by simpa using hb5
            have hty : Tb (fr r) x y := (Tb.of_lt (hxy y hyL)).1.1 hlt2
            refine aw_region (EF := EFs) hG (by rw [hN]; exact tr74_7) ?_
            simp only [a74_7, go_sem, simprocAttr, inI, EFs, tNo, SO, DD]
            (repeat' apply And.intro) <;> (try first | omega | ((fail_if_success refine idW ?_); (fail_if_success refine idS ?_); intros; (repeat' apply And.intro) <;> first | assumption | omega | (simp_all; done)))
            refine swap_u (d := A ++ ((S1 ++ [y]) ++ x :: (S2 ++ (R ++ B)))) (d' := A ++ (S1 ++ x :: ((y :: S2) ++ (R ++ B)))) (A.length + S1.length + 1) (A.length + S1.length) ?_ ?_ ?_ ?_ ?_ ?_ rfl rfl rfl ?_ ?_
            iterate 5 (· simp only [List.length_append, List.length_cons, List.length_nil]; omega)
            · have := swp_next (A ++ S1) (S2 ++ (R ++ B)) y x (i := A.length + S1.length) (by simp); simpa using this
            · simp only [List.append_assoc, List.singleton_append, List.cons_append, List.nil_append]; rfl
            simp only [go_sem, simprocAttr, EFs, SO]
            refine aw_region (EF := EFs) hG (by rw [hN]; exact tr74_6) ?_
            simp only [a74_6, go_sem, simprocAttr, inI, EFs, tNo, SO, DD]
            (repeat' apply And.intro) <;> (try first | omega | ((fail_if_success refine idW ?_); (fail_if_success refine idS ?_); intros; (repeat' apply And.intro) <;> first | assumption | omega | (simp_all; done)))
            refine hKL2 (S1, y :: S2) _ ?_ ?_ ?_
            · (try dsimp only); exact ⟨by rw [← g1]; simp, fun z hz => by rcases List.mem_cons.1 hz with rfl | hz; exact hty; exact g2 z hz⟩
            · (try dsimp only); simp only [List.length_append, List.length_cons, List.length_nil]; omega
            · refine Le.mk _ _ ?_ ?_ rfl <;> simp only [go_sem, simprocAttr, List.cons_append] <;> (repeat' apply And.intro) <;> (try first | rfl | exact wk_frzb rfl rfl rfl | exact wk_fn rfl | exact .nilo _ _ _ rfl rfl)
              all_goals (try (simp only [List.length_append, List.length_cons, List.length_nil]; omega))
          · skip
            have hlt2 : ¬ fr r y < fr r x := by simpa using hb5
            have hty : Tb (fr r) y x := (Tb.of_lt (hxy y hyL)).2.1 hlt2
            have hsrt : SortT (fr r) ((S1 ++ [y]) ++ S2) := by rw [g1]; exact msT_sort ((List.nodup_append.1 hnx).1)
            have hdone := ins_done g1 hnx (fun z hz => by rcases List.mem_append.1 hz with hz | hz; exact (hsrt.parts.1.parts.2.2 z hz y (by simp)).tr hty; rw [List.mem_singleton.1 hz]; exact hty) g2
            refine aw_exit ?_
            simp only [go_sem, simprocAttr]
            refine aw_region (EF := EFs) hG (by rw [hN]; exact tr74_3) ?_
            simp only [a74_3, go_sem, simprocAttr, inI, EFs, tNo, SO, DD]
            (repeat' apply And.intro) <;> (try first | omega | ((fail_if_success refine idW ?_); (fail_if_success refine idS ?_); intros; (repeat' apply And.intro) <;> first | assumption | omega | (simp_all; done)))
            refine hKL0 (L1 ++ [x], R) _ ?_ ?_ ?_
            · (try dsimp only); exact ⟨by rw [h1]; simp, by simp⟩
            · (try dsimp only); simp only [List.length_cons]; omega
            · refine Le.mk _ _ ?_ ?_ rfl <;> simp only [go_sem, simprocAttr, List.length_append, List.length_cons, List.length_nil, hdone, List.append_assoc, List.cons_append, List.nil_append] <;> (repeat' apply And.intro) <;> (try first | rfl | exact wk_frzb rfl rfl rfl | exact wk_fn rfl | exact .nilo _ _ _ rfl rfl)
              all_goals (try omega)
        · skip
          have hdone := ins_done g1 hnx (fun z hz => absurd (List.length_pos_of_mem hz) hS) g2
          refine aw_seq (aw_region (EF := EFs) hG (by rw [hN]; exact tr74_5) ?_)
          simp only [a74_5, go_sem, simprocAttr, inI, EFs, tNo, SO, DD, hgt, hS, decide_false]
          (repeat' apply And.intro) <;> (try first | omega | ((fail_if_success refine idW ?_); (fail_if_success refine idS ?_); intros; (repeat' apply And.intro) <;> first | assumption | omega | (simp_all; done)))
          refine aw_condF rfl ?_
          refine aw_exit ?_
          simp only [go_sem, simprocAttr]
          refine aw_region (EF := EFs) hG (by rw [hN]; exact tr74_3) ?_
          simp only [a74_3, go_sem, simprocAttr, inI, EFs, tNo, SO, DD]
          (repeat' apply And.intro) <;> (try first | omega | ((fail_if_success refine idW ?_); (fail_if_success refine idS ?_); intros; (repeat' apply And.intro) <;> first | assumption | omega | (simp_all; done)))
          refine hKL0 (L1 ++ [x], R) _ ?_ ?_ ?_
          · (try dsimp only); exact ⟨by rw [h1]; simp, by simp⟩
          · (try dsimp only); simp only [List.length_cons]; omega
          · refine Le.mk _ _ ?_ ?_ rfl <;> simp only [go_sem, simprocAttr, List.length_append, List.length_cons, List.length_nil, hdone, List.append_assoc, List.cons_append, List.nil_append] <;> (repeat' apply And.intro) <;> (try first | rfl | exact wk_frzb rfl rfl rfl | exact wk_fn rfl | exact .nilo _ _ _ rfl rfl)
            all_goals (try omega)
    · simp only [hcL] at hc2
      have hl := congrArg List.length h1
      rw [List.length_append] at hl
      obtain rfl : R = [] := List.eq_nil_of_length_eq_zero (by omega)
      rw [List.append_nil] at h1
      subst h1
      refine aw_exit ?_
      simp only [go_sem, simprocAttr]
      show Q _ _
      refine hQ _ _ ⟨mkE [], mkH (SO r n (A ++ (msT (fr r) L ++ B)))⟩ (.inr rfl) (Le.mk _ _ ?_ ?_ rfl) rfl ?_ ?_ <;> simp only [outφ, outV, AR.res, go_sem, simprocAttr, SO, List.nil_append]
end Go.Proofs.YtfjgnfgadkajnaaGreat
