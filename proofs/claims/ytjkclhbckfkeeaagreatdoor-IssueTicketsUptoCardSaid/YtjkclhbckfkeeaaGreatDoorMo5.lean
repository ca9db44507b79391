import Derived.Test.YtjkclhbckfkeeaaGreatDoorSo6
import Derived.Test.YtjkclhbckfkeeaaGreatDoorT1
set_option linter.unusedSimpArgs false
set_option linter.unusedVariables false
set_option linter.deprecated false
set_option maxHeartbeats 8000000
namespace Go.Proofs.YtjkclhbckfkeeaaGreatDoor
open Go Go.RowKit
section
variable {f : Nat → Int}
theorem FY {l : List Nat} (h : Bu f l) {i j : Nat} (hij : i < j) (hj : j < l.length) : Tb f (l.getD i 0) (l.getD j 0) := by
 have := List.pairwise_iff_getElem.1 h i j (by omega) hj hij
 rw [List.getD_eq_getElem?_getD, List.getD_eq_getElem?_getD, List.getElem?_eq_getElem hj, List.getElem?_eq_getElem (show i < l.length by omega)]
 exact this
theorem EJ {l : List Nat} {i x : Nat} (h : x ∈ l.take i) : ∃ k, k < i ∧ k < l.length ∧ x = l.getD k 0 := by
 obtain ⟨k, hk, e⟩ := List.mem_iff_getElem.1 h
 rw [List.length_take] at hk
 refine ⟨k, by omega, by omega, ?_⟩
 rw [← e, List.getElem_take, List.getD_eq_getElem?_getD, List.getElem?_eq_getElem]
 rfl
theorem EK {l : List Nat} {i x : Nat} (h : x ∈ l.drop i) : ∃ k, i ≤ k ∧ k < l.length ∧ x = l.getD k 0 := by
 obtain ⟨k, hk, e⟩ := List.mem_iff_getElem.1 h
 rw [List.length_drop] at hk
 refine ⟨i + k, by omega, by omega, ?_⟩
 rw [← e, List.getElem_drop, List.getD_eq_getElem?_getD, List.getElem?_eq_getElem]
 rfl
theorem HB {l : List Nat} {i : Nat} (h : i < l.length) : l.getD i 0 ∈ l := by
 rw [List.getD_eq_getElem?_getD, List.getElem?_eq_getElem h]; exact List.getElem_mem h
theorem ZC {U V : List Nat} (hU : Bu f U) (hV : Bu f V) (hUV : ∀ x ∈ U, ∀ y ∈ V, x < y) {i j : Nat} (hi : i ≤ U.length) (hj : j ≤ V.length)
  (h1 : i = 0 ∨ j = V.length ∨ Tb f (U.getD (i - 1) 0) (V.getD j 0)) (h2 : i = U.length ∨ j = 0 ∨ Tb f (V.getD (j - 1) 0) (U.getD i 0)) :
  msT f (U ++ V) = msT f (U.take i ++ V.take j) ++ msT f (U.drop i ++ V.drop j) := by
 have eU := List.take_append_drop i U
 have eV := List.take_append_drop j V
 have := AaN (f := f) (u1 := U.take i) (u2 := U.drop i) (v1 := V.take j) (v2 := V.drop j) (by rw [eU]; exact hU) (by rw [eV]; exact hV) (by rw [eU, eV]; exact hUV) (fun x hx y hy => ?_) (fun x hx y hy => ?_)
 ·rwa [eU, eV] at this
 ·obtain ⟨p, p1, p2, rfl⟩ := EJ hx
  obtain ⟨q, q1, q2, rfl⟩ := EK hy
  rcases h1 with h | h | h
  ·omega
  ·omega
  ·have a1 : Tb f (U.getD p 0) (V.getD j 0) := by
    rcases Nat.lt_or_ge p (i - 1) with c | c
    ·exact (FY hU c (by omega)).tr h
    ·rwa [show p = i - 1 by omega]
   rcases Nat.lt_or_ge j q with c | c
   ·exact a1.tr (FY hV c q2)
   ·rwa [show q = j by omega]
 ·obtain ⟨p, p1, p2, rfl⟩ := EJ hx
  obtain ⟨q, q1, q2, rfl⟩ := EK hy
  rcases h2 with h | h | h
  ·omega
  ·omega
  ·have a1 : Tb f (V.getD p 0) (U.getD i 0) := by
    rcases Nat.lt_or_ge p (j - 1) with c | c
    ·exact (FY hV c (by omega)).tr h
    ·rwa [show p = j - 1 by omega]
   rcases Nat.lt_or_ge i q with c | c
   ·exact a1.tr (FY hU c q2)
   ·rwa [show q = i by omega]
theorem Jm {A l : List Nat} {i k : Nat} (h : i = A.length + k) : (A ++ l).getD i 0 = l.getD k 0 := by
 rw [List.getD_eq_getElem?_getD, List.getD_eq_getElem?_getD, List.getElem?_append_right (by omega), show i - A.length = k by omega]
theorem NJ {A l : List Nat} {i : Nat} (h : i < A.length) : (A ++ l).getD i 0 = A.getD i 0 := by
 rw [List.getD_eq_getElem?_getD, List.getD_eq_getElem?_getD, List.getElem?_append_left h]
end
theorem Ac4 (P R : List Nat) (x y : Nat) {i j : Nat} (hi : i = P.length) (hj : j = P.length + 1) : swp (P ++ x :: y :: R) i j = P ++ y :: x :: R := by
 have := Kb P [] R x y hi (j := j) (by rw [List.length_nil]; omega)
 simpa using this
theorem Ac5 (P R : List Nat) (x y : Nat) {i j : Nat} (hi : i = P.length + 1) (hj : j = P.length) : swp (P ++ x :: y :: R) i j = P ++ y :: x :: R := by
 subst hj; rw [hi]; exact MW P R x y rfl
section
variable {f : Nat → Int}
theorem Xy {l : List Nat} {x p z : Nat} (hl : Bu f l) (hp : p ≤ l.length) (h : p = 0 ∨ Tb f (l.getD (p - 1) 0) x) (hz : z ∈ l.take p) : Tb f z x := by
 obtain ⟨k, k1, k2, rfl⟩ := EJ hz
 rcases h with h | h
 ·omega
 ·rcases Nat.lt_or_ge k (p - 1) with c | c
  ·exact (FY hl c (by omega)).tr h
  ·rwa [show k = p - 1 by omega]
theorem Xz {l : List Nat} {x p z : Nat} (hl : Bu f l) (h : p = l.length ∨ Tb f x (l.getD p 0)) (hz : z ∈ l.drop p) : Tb f x z := by
 obtain ⟨k, k1, k2, rfl⟩ := EK hz
 rcases h with h | h
 ·omega
 ·rcases Nat.lt_or_ge p k with c | c
  ·exact h.tr (FY hl c k2)
  ·rwa [show k = p by omega]
theorem Ac3 {X Y : List Nat} {lo a md s lu : Nat} (z6 : lo = a ∨ lo + (a + lu + Y.length) = md + (a + lu)) (y1 : lo ≤ s) (z1 : a ≤ lo) (y4 : s = lo ∨ Tb f (X.getD (s - 1 - a) 0) (Y.getD (md - s) 0)) : s - a = 0 ∨ md - s = Y.length ∨ Tb f (X.getD (s - a - 1) 0) (Y.getD (md - s) 0) := by
 rcases y4 with rfl | y4
 ·rcases z6 with h | h
  ·exact .inl (by omega)
  ·exact .inr (.inl (by omega))
 ·exact .inr (.inr (by rwa [show s - a - 1 = s - 1 - a by omega]))
theorem Ac2 {X Y : List Nat} {hi a md s : Nat} (z7 : hi = a + X.length ∨ hi = md) (h1 : s ≤ md) (y5 : s = hi ∨ Tb f (Y.getD (md - 1 - s) 0) (X.getD (s - a) 0)) : s - a = X.length ∨ md - s = 0 ∨ Tb f (Y.getD (md - s - 1) 0) (X.getD (s - a) 0) := by
 rcases y5 with rfl | y5
 ·rcases z7 with h | h
  ·exact .inl (by omega)
  ·exact .inr (.inl (by omega))
 ·exact .inr (.inr (by rwa [show md - s - 1 = md - 1 - s by omega]))
end
structure MrgOk (r : List Int) (n : Nat) (A U V B : List Nat) : Prop where
 u0 : 0 < U.length
 v0 : 0 < V.length
 us : Bu (fr r) U
 vs : Bu (fr r) V
 lt : ∀ x ∈ U, ∀ y ∈ V, x < y
 mem : ∀ k ∈ A ++ (U ++ (V ++ B)), k < r.length
 len : (A ++ (U ++ (V ++ B))).length = n
def Ais (r : List Int) (n : Nat) (A U V B : List Nat) : Prop := ∀ a m b : Int, a = A.length → m = (A.length + U.length : Nat) → b = (A.length + U.length + V.length : Nat) →
 Eff Tryz.prog UT 225 [DD n, .int .i64 a, .int .i64 m, .int .i64 b] (SO r n (A ++ (U ++ (V ++ B)))) (.tup []) (SO r n (A ++ (msT (fr r) (U ++ V) ++ B)))
theorem AhV {r : List Int} {n : Nat} {A X1 X2 Y1 Y2 B : List Nat} (us : Bu (fr r) (X1 ++ X2)) (vs : Bu (fr r) (Y1 ++ Y2)) (lt : ∀ x ∈ X1 ++ X2, ∀ y ∈ Y1 ++ Y2, x < y) (mem : ∀ k ∈ A ++ (X1 ++ (X2 ++ (Y1 ++ (Y2 ++ B)))), k < r.length) (len : (A ++ (X1 ++ (X2 ++ (Y1 ++ (Y2 ++ B))))).length = n)
  (h1 : 0 < X1.length) (h2 : 0 < Y1.length) : MrgOk r n A X1 Y1 (X2 ++ (Y2 ++ B)) :=
 ⟨h1, h2, us.parts.1, vs.parts.1, fun x hx y hy => lt x (List.mem_append_left _ hx) y (List.mem_append_left _ hy), fun k hk => mem k (by simp only [List.mem_append] at hk ⊢; rcases hk with h | h | h | h | h | h <;> simp [h]), by rw [← len]; simp only [List.length_append]; omega⟩
theorem AhU {r : List Int} {n : Nat} {A X1 X2 Y1 Y2 B : List Nat} (us : Bu (fr r) (X1 ++ X2)) (vs : Bu (fr r) (Y1 ++ Y2)) (lt : ∀ x ∈ X1 ++ X2, ∀ y ∈ Y1 ++ Y2, x < y) (mem : ∀ k ∈ A ++ (X1 ++ (X2 ++ (Y1 ++ (Y2 ++ B)))), k < r.length) (len : (A ++ (X1 ++ (X2 ++ (Y1 ++ (Y2 ++ B))))).length = n)
  (h1 : 0 < X2.length) (h2 : 0 < Y2.length) : MrgOk r n (A ++ msT (fr r) (X1 ++ Y1)) X2 Y2 B :=
 ⟨h1, h2, us.parts.2.1, vs.parts.2.1, fun x hx y hy => lt x (List.mem_append_right _ hx) y (List.mem_append_right _ hy), fun k hk => mem k (by simp only [List.mem_append, (AP _).mem_iff] at hk ⊢; rcases hk with (h | h | h) | h | h | h <;> simp [h]), by rw [← len]; simp only [List.length_append, BW]; omega⟩
theorem KC {f : Nat → Int} {U V : List Nat} (hU : Bu f U) (hV : Bu f V) (h : U.length = 0 ∨ V.length = 0) : msT f (U ++ V) = U ++ V := by
 rcases h with h | h
 ·obtain rfl := List.eq_nil_of_length_eq_zero h; exact Ns hV
 ·obtain rfl := List.eq_nil_of_length_eq_zero h; rw [List.append_nil]; exact Ns hU
theorem UV (r : List Int) (n : Nat) (hbig : n ≤ 1000000) (A X Y B : List Nat) (h : MrgOk r n A X Y B) (ih : ∀ A' U' V' B', U'.length + V'.length < X.length + Y.length → MrgOk r n A' U' V' B' → Ais r n A' U' V' B') : Ais r n A X Y B := by
 rintro _ _ _ rfl rfl rfl
 have hG := AC
 obtain ⟨u0, v0, us, vs, hlt, hm, hlen⟩ := h
 have hl := hlen
 simp only [List.length_append] at hl
 generalize hD : A ++ (X ++ (Y ++ B)) = D at *
 have dU : ∀ k, k < X.length → D.getD (A.length + k) 0 = X.getD k 0 := fun k hk => by rw [← hD, Jm rfl, NJ hk]
 have dV : ∀ k, k < Y.length → D.getD (A.length + X.length + k) 0 = Y.getD k 0 := fun k hk => by rw [← hD, Jm (k := X.length + k) (by omega), Jm rfl, NJ hk]
 have cmp : ∀ i j, i < X.length → j < Y.length → (fr r (X.getD i 0) < fr r (Y.getD j 0) ↔ Tb (fr r) (Y.getD j 0) (X.getD i 0)) ∧ (¬ fr r (X.getD i 0) < fr r (Y.getD j 0) ↔ Tb (fr r) (X.getD i 0) (Y.getD j 0)) := fun i j hi hj => Tb.of_lt (hlt _ (HB hi) _ (HB hj))
 generalize ha : A.length = a at *
 generalize hu : X.length = lu at *
 generalize hv : Y.length = lv at *
 refine Aeo.e (by simp) fun C hN Q hQ => ?_
 have Z := Aeo.R EFs hG hN
 refine Aa (Z 0 rfl ?_)
 simp only [go_sem, simprocAttr, EFs, tNo, SO, DD, Ak, Ax, inI]
 refine Aa (Aa (Z 1 rfl ?_))
 simp only [go_sem, simprocAttr, EFs, tNo, SO, DD, Ak, Ax, inI]
 and_intros <;> try exact sdA
 refine Ab rfl (fun hc1 => ?_) fun hc1 => ?_
 ·simp only [hcL] at hc1
  have hlu : lu = 1 := by omega
  obtain ⟨x, hx⟩ : ∃ x, X = [x] := by match X, hu with | [x], _ => exact ⟨x, rfl⟩ | [], e => (simp at e; omega) | _ :: _ :: _, e => (simp at e; omega)
  have hx0 : X.getD 0 0 = x := by rw [hx]; rfl
  refine Aa (Z 2 rfl ?_)
  simp only [go_sem, simprocAttr, EFs, tNo, SO, DD, Ak, Ax, inI]
  refine Aa (Z 3 rfl ?_)
  simp only [go_sem, simprocAttr, EFs, tNo, SO, DD, Ak, Ax, inI]
  refine Aa (Ad ?_)
  refine Aj (α := Nat × Nat) (fun γ => (γ.1 ≤ γ.2) ∧ (γ.2 ≤ lv) ∧ (γ.1 = 0 ∨ Tb (fr r) (Y.getD (γ.1 - 1) 0) x) ∧ (γ.2 = lv ∨ Tb (fr r) x (Y.getD γ.2 0))) (fun γ => ⟨mkE [(1, V.int IntKind.i64 ↑a), (4, V.ptr 4 0), (8, .int .i64 (a + lu + γ.1 : Nat)), (9, .int .i64 (a + lu + γ.2 : Nat))], mkH [(4, Ob.box 253 [V.fn 145 [V.ptr 1000 0, V.ptr 1001 0], V.fn 219 [V.own 1003 n, V.pin hdl]]), (1000, Ob.box 204 [V.own 1002 r.length]), (1001, Ob.box 42 [V.own 1003 n]), (1002, Ob.arr 189 1 (Et r)), (1003, Ob.arr 3 1 (Dw D))]⟩) (fun γ => γ.2 - γ.1) (0, lv) ⟨Nat.zero_le _, Nat.le_refl _, .inl rfl, .inl rfl⟩ ?_ ?_
  ·refine Le.mk _ _ ?_ ?_ rfl <;> simp only [go_sem, simprocAttr, Nat.add_zero] <;> and_intros <;> try exact leA
  rintro ⟨p, q⟩ ⟨g0, g1, g2, g3⟩ KL0 hKL0
  try dsimp only at *
  refine Aa (Aa (Z 4 rfl ?_))
  simp only [go_sem, simprocAttr, EFs, tNo, SO, DD, Ak, Ax, inI]
  refine Ab rfl (fun hc4 => ?_) fun hc4 => ?_
  ·simp only [hcL] at hc4
   refine Ac ?_
   refine Ad ?_
   obtain ⟨k, hk⟩ : ∃ k, k = (p + q) / 2 := ⟨_, rfl⟩
   have hh : ((((a + lu + p : Nat) : Int) + ((a + lu + q : Nat) : Int)) / 2) = ((a + lu + k : Nat) : Int) := by omega
   refine Aa (Z 5 rfl ?_)
   simp only [go_sem, simprocAttr, hh, EFs, tNo, SO, DD, Ak, Ax, inI]
   and_intros <;> try exact sdA
   refine Aa (Z 6 rfl ?_)
   simp only [go_sem, simprocAttr, EFs, tNo, SO, DD, Ak, Ax, inI]
   and_intros <;> try exact sdA
   refine NB (d := D) (b := decide (fr r x < fr r (Y.getD k 0))) (a + lu + k) a rfl rfl ?_ hm ?_ ?_ ?_ rfl rfl rfl rfl ?_
   iterate 3 (· omega)
   ·rw [dV k (by omega), show D.getD a 0 = x from by have := dU 0 (by omega); rw [Nat.add_zero] at this; rw [this, hx0]]
   simp only [go_sem, simprocAttr, EFs, SO]
   refine Ab rfl (fun hb6 => ?_) fun hb6 => ?_
   ·have hbt := (cmp 0 k (by omega) (by omega)).1.1 (by rw [hx0]; simpa using hb6)
    rw [hx0] at hbt
    refine Z 7 rfl ?_
    simp only [go_sem, simprocAttr, EFs, tNo, SO, DD, Ak, Ax, inI]
    and_intros <;> try exact sdA
    refine hKL0 (k + 1, q) _ ?_ ?_ ?_
    ·(try dsimp only); exact ⟨by omega, by omega, .inr (by rw [Nat.add_sub_cancel]; exact hbt), g3⟩
    ·(try dsimp only); omega
    refine Le.mk _ _ ?_ ?_ rfl <;> simp only [go_sem, simprocAttr] <;> and_intros <;> try exact leA
    all_goals (try omega)
   have hbt := (cmp 0 k (by omega) (by omega)).2.1 (by rw [hx0]; simpa using hb6)
   rw [hx0] at hbt
   refine Z 8 rfl ?_
   simp only [go_sem, simprocAttr, EFs, tNo, SO, DD, Ak, Ax, inI]
   refine hKL0 (p, k) _ ?_ ?_ ?_
   ·(try dsimp only); exact ⟨by omega, by omega, g2, .inr hbt⟩
   ·(try dsimp only); omega
   exact leM
  simp only [hcL] at hc4
  obtain rfl : p = q := by omega
  have eY := List.take_append_drop p Y
  have hsY : Bu (fr r) (Y.take p ++ Y.drop p) := by rw [eY]; exact vs
  have hfin : msT (fr r) (X ++ Y) = Y.take p ++ x :: Y.drop p := by rw [hx, ← Nu hsY (fun z hz => Xy vs (by omega) g2 hz) (fun z hz => Xz vs (hv ▸ g3) hz), eY]; rfl
  have hD0 : D = A ++ x :: (Y.take p ++ (Y.drop p ++ B)) := by rw [← hD, hx, ← List.append_assoc (Y.take p), eY]; rfl
  have hlt0 : (Y.take p).length = p := by rw [List.length_take]; omega
  have hld0 : (Y.drop p).length = lv - p := by rw [List.length_drop]; omega
  refine Ai ?_
  simp only [go_sem, simprocAttr]
  refine Aa (Aa (Z 9 rfl ?_))
  simp only [go_sem, simprocAttr, EFs, tNo, SO, DD, Ak, Ax, inI]
  refine Ad ?_
  refine Aj (α := (List Nat) × (List Nat)) (fun γ => (γ.1 ++ γ.2 = Y.take p)) (fun γ => ⟨mkE [(4, V.ptr 4 0), (8, V.int IntKind.i64 ↑(a + lu + p)), (11, .int .i64 (a + γ.1.length : Nat))], mkH [(4, Ob.box 253 [V.fn 145 [V.ptr 1000 0, V.ptr 1001 0], V.fn 219 [V.own 1003 n, V.pin hdl]]), (1000, Ob.box 204 [V.own 1002 r.length]), (1001, Ob.box 42 [V.own 1003 n]), (1002, Ob.arr 189 1 (Et r)), (1003, .arr 3 1 (Dw (A ++ (γ.1 ++ x :: (γ.2 ++ (Y.drop p ++ B))))))]⟩) (fun γ => γ.2.length) ([], Y.take p) rfl ?_ ?_
  ·refine Le.mk _ _ ?_ ?_ rfl <;> simp only [go_sem, simprocAttr, hD0, List.length_nil, Nat.add_zero] <;> and_intros <;> try exact leA
  rintro ⟨P, Q⟩ w1 KL2 hKL2
  try dsimp only at *
  have wl := congrArg List.length w1
  rw [List.length_append, hlt0] at wl
  refine Aa (Aa (Z 10 rfl ?_))
  simp only [go_sem, simprocAttr, EFs, tNo, SO, DD, Ak, Ax, inI]
  and_intros <;> try exact sdA
  refine Ab rfl (fun hc10 => ?_) fun hc10 => ?_
  ·simp only [hcL] at hc10
   refine Ac ?_
   refine Aa (Ad ?_)
   obtain ⟨y, Q, rfl⟩ : ∃ x l, Q = x :: l := List.exists_cons_of_length_pos (by omega)
   rw [List.length_cons] at wl
   refine Z 12 rfl ?_
   simp only [go_sem, simprocAttr, EFs, tNo, SO, DD, Ak, Ax, inI]
   and_intros <;> try exact sdA
   refine MX (d := A ++ (P ++ x :: (y :: Q ++ (Y.drop p ++ B)))) (d' := A ++ ((P ++ [y]) ++ x :: (Q ++ (Y.drop p ++ B)))) (a + P.length) (a + P.length + 1) rfl ?_ ?_ ?_ ?_ ?_ rfl rfl rfl rfl ?_
   ·omega
   iterate 3 (· simp only [List.length_append, List.length_cons, List.length_nil]; omega)
   ·have := Ac4 (A ++ P) (Q ++ (Y.drop p ++ B)) x y (i := a + P.length) (j := a + P.length + 1) (by rw [List.length_append]; omega) (by rw [List.length_append]; omega); simpa using this
   simp only [go_sem, simprocAttr, EFs, SO]
   refine Z 11 rfl ?_
   simp only [go_sem, simprocAttr, EFs, tNo, SO, DD, Ak, Ax, inI]
   and_intros <;> try exact sdA
   refine hKL2 (P ++ [y], Q) _ ?_ ?_ ?_
   ·(try dsimp only); exact (by rw [← w1]; simp)
   ·(try dsimp only); simp only [List.length_cons]; omega
   refine Le.mk _ _ ?_ ?_ rfl <;> simp only [go_sem, simprocAttr, List.length_append, List.length_cons, List.length_nil] <;> and_intros <;> try exact leA
   all_goals (try omega)
  simp only [hcL] at hc10
  obtain rfl : Q = [] := List.eq_nil_of_length_eq_zero (by omega)
  rw [List.append_nil] at w1
  subst w1
  refine Ai ?_
  simp only [go_sem, simprocAttr]
  refine Ae ?_
  show Q _ _
  refine hQ _ _ ⟨mkE [], mkH (SO r n (A ++ (msT (fr r) (X ++ Y) ++ B)))⟩ (.inl rfl) (Le.mk _ _ ?_ ?_ rfl) rfl ?_ ?_ <;> simp only [go_sem, simprocAttr, SO, hfin, List.nil_append, List.append_assoc, List.cons_append]
 simp only [hcL] at hc1
 refine Ac ?_
 refine Aa (Aa (Z 13 rfl ?_))
 simp only [go_sem, simprocAttr, EFs, tNo, SO, DD, Ak, Ax, inI]
 and_intros <;> try exact sdA
 refine Ab rfl (fun hc13 => ?_) fun hc13 => ?_
 ·simp only [hcL] at hc13
  have hlv : lv = 1 := by omega
  obtain ⟨y, hy⟩ : ∃ x, Y = [x] := by match Y, hv with | [x], _ => exact ⟨x, rfl⟩ | [], e => (simp at e; omega) | _ :: _ :: _, e => (simp at e; omega)
  have hy0 : Y.getD 0 0 = y := by rw [hy]; rfl
  refine Aa (Z 14 rfl ?_)
  simp only [go_sem, simprocAttr, EFs, tNo, SO, DD, Ak, Ax, inI]
  refine Aa (Z 15 rfl ?_)
  simp only [go_sem, simprocAttr, EFs, tNo, SO, DD, Ak, Ax, inI]
  refine Aa (Ad ?_)
  refine Aj (α := Nat × Nat) (fun γ => (γ.1 ≤ γ.2) ∧ (γ.2 ≤ lu) ∧ (γ.1 = 0 ∨ Tb (fr r) (X.getD (γ.1 - 1) 0) y) ∧ (γ.2 = lu ∨ Tb (fr r) y (X.getD γ.2 0))) (fun γ => ⟨mkE [(2, V.int IntKind.i64 ↑(a + lu)), (4, V.ptr 4 0), (12, .int .i64 (a + γ.1 : Nat)), (13, .int .i64 (a + γ.2 : Nat))], mkH [(4, Ob.box 253 [V.fn 145 [V.ptr 1000 0, V.ptr 1001 0], V.fn 219 [V.own 1003 n, V.pin hdl]]), (1000, Ob.box 204 [V.own 1002 r.length]), (1001, Ob.box 42 [V.own 1003 n]), (1002, Ob.arr 189 1 (Et r)), (1003, Ob.arr 3 1 (Dw D))]⟩) (fun γ => γ.2 - γ.1) (0, lu) ⟨Nat.zero_le _, Nat.le_refl _, .inl rfl, .inl rfl⟩ ?_ ?_
  ·refine Le.mk _ _ ?_ ?_ rfl <;> simp only [go_sem, simprocAttr, Nat.add_zero] <;> and_intros <;> try exact leA
  rintro ⟨p, q⟩ ⟨g0, g1, g2, g3⟩ KL4 hKL4
  try dsimp only at *
  refine Aa (Aa (Z 16 rfl ?_))
  simp only [go_sem, simprocAttr, EFs, tNo, SO, DD, Ak, Ax, inI]
  refine Ab rfl (fun hc16 => ?_) fun hc16 => ?_
  ·simp only [hcL] at hc16
   refine Ac ?_
   refine Ad ?_
   obtain ⟨k, hk⟩ : ∃ k, k = (p + q) / 2 := ⟨_, rfl⟩
   have hh : ((((a + p : Nat) : Int) + ((a + q : Nat) : Int)) / 2) = ((a + k : Nat) : Int) := by omega
   refine Aa (Z 17 rfl ?_)
   simp only [go_sem, simprocAttr, hh, EFs, tNo, SO, DD, Ak, Ax, inI]
   and_intros <;> try exact sdA
   refine Aa (Z 18 rfl ?_)
   simp only [go_sem, simprocAttr, EFs, tNo, SO, DD, Ak, Ax, inI]
   and_intros <;> try exact sdA
   refine NB (d := D) (b := decide (fr r (X.getD k 0) < fr r y)) (a + lu) (a + k) rfl rfl ?_ hm ?_ ?_ ?_ rfl rfl rfl rfl ?_
   iterate 3 (· omega)
   ·rw [dU k (by omega), show D.getD (a + lu) 0 = y from by have := dV 0 (by omega); rw [Nat.add_zero] at this; rw [this, hy0]]
   simp only [go_sem, simprocAttr, EFs, SO]
   refine Ab rfl (fun hb18 => ?_) fun hb18 => ?_
   ·have hbt := (cmp k 0 (by omega) (by omega)).2.1 (by rw [hy0]; simpa using hb18)
    rw [hy0] at hbt
    refine Z 19 rfl ?_
    simp only [go_sem, simprocAttr, EFs, tNo, SO, DD, Ak, Ax, inI]
    and_intros <;> try exact sdA
    refine hKL4 (k + 1, q) _ ?_ ?_ ?_
    ·(try dsimp only); exact ⟨by omega, by omega, .inr (by rw [Nat.add_sub_cancel]; exact hbt), g3⟩
    ·(try dsimp only); omega
    refine Le.mk _ _ ?_ ?_ rfl <;> simp only [go_sem, simprocAttr] <;> and_intros <;> try exact leA
    all_goals (try omega)
   have hbt := (cmp k 0 (by omega) (by omega)).1.1 (by rw [hy0]; simpa using hb18)
   rw [hy0] at hbt
   refine Z 20 rfl ?_
   simp only [go_sem, simprocAttr, EFs, tNo, SO, DD, Ak, Ax, inI]
   refine hKL4 (p, k) _ ?_ ?_ ?_
   ·(try dsimp only); exact ⟨by omega, by omega, g2, .inr hbt⟩
   ·(try dsimp only); omega
   exact leM
  simp only [hcL] at hc16
  obtain rfl : p = q := by omega
  have eX := List.take_append_drop p X
  have hsX : Bu (fr r) (X.take p ++ X.drop p) := by rw [eX]; exact us
  have hfin : msT (fr r) (X ++ Y) = X.take p ++ y :: X.drop p := by rw [hy, ← Nt hsX (fun z hz => Xy us (by omega) g2 hz) (fun z hz => Xz us (hu ▸ g3) hz), eX]
  have hD0 : D = A ++ (X.take p ++ (X.drop p ++ y :: B)) := by rw [← hD, hy, ← List.append_assoc (X.take p), eX]; rfl
  have hlt0 : (X.take p).length = p := by rw [List.length_take]; omega
  have hld0 : (X.drop p).length = lu - p := by rw [List.length_drop]; omega
  refine Ai ?_
  simp only [go_sem, simprocAttr]
  refine Aa (Aa (Z 21 rfl ?_))
  simp only [go_sem, simprocAttr, EFs, tNo, SO, DD, Ak, Ax, inI]
  refine Ad ?_
  refine Aj (α := (List Nat) × (List Nat)) (fun γ => (γ.1 ++ γ.2 = X.drop p)) (fun γ => ⟨mkE [(4, V.ptr 4 0), (12, V.int IntKind.i64 ↑(a + p)), (15, .int .i64 (a + p + γ.1.length : Nat))], mkH [(4, Ob.box 253 [V.fn 145 [V.ptr 1000 0, V.ptr 1001 0], V.fn 219 [V.own 1003 n, V.pin hdl]]), (1000, Ob.box 204 [V.own 1002 r.length]), (1001, Ob.box 42 [V.own 1003 n]), (1002, Ob.arr 189 1 (Et r)), (1003, .arr 3 1 (Dw (A ++ (X.take p ++ (γ.1 ++ y :: (γ.2 ++ B))))))]⟩) (fun γ => γ.1.length) (X.drop p, []) (List.append_nil _) ?_ ?_
  ·refine Le.mk _ _ ?_ ?_ rfl <;> simp only [go_sem, simprocAttr, hD0, hld0] <;> and_intros <;> try exact leA
   all_goals (try omega)
  rintro ⟨P, Q⟩ w1 KL6 hKL6
  try dsimp only at *
  have wl := congrArg List.length w1
  rw [List.length_append, hld0] at wl
  refine Aa (Aa (Z 22 rfl ?_))
  simp only [go_sem, simprocAttr, EFs, tNo, SO, DD, Ak, Ax, inI]
  refine Ab rfl (fun hc22 => ?_) fun hc22 => ?_
  ·simp only [hcL] at hc22
   refine Ac ?_
   refine Aa (Ad ?_)
   obtain ⟨P, z, rfl⟩ : ∃ l y, P = l ++ [y] := ⟨P.dropLast, P.getLast (List.ne_nil_of_length_pos (by omega)), (List.dropLast_concat_getLast _).symm⟩
   have hPl : (P ++ [z]).length = P.length + 1 := by simp
   refine Z 24 rfl ?_
   simp only [go_sem, simprocAttr, EFs, tNo, SO, DD, Ak, Ax, inI]
   and_intros <;> try exact sdA
   refine MX (d := A ++ (X.take p ++ ((P ++ [z]) ++ y :: (Q ++ B)))) (d' := A ++ (X.take p ++ (P ++ y :: ((z :: Q) ++ B)))) (a + p + P.length + 1) (a + p + P.length) ?_ ?_ ?_ ?_ ?_ ?_ rfl rfl rfl rfl ?_
   ·omega
   ·omega
   iterate 3 (· simp only [List.length_append, List.length_cons, List.length_nil]; omega)
   ·have := Ac5 (A ++ (X.take p ++ P)) (Q ++ B) z y (i := a + p + P.length + 1) (j := a + p + P.length) (by simp only [List.length_append]; omega) (by simp only [List.length_append]; omega); simpa using this
   simp only [go_sem, simprocAttr, EFs, SO]
   refine Z 23 rfl ?_
   simp only [go_sem, simprocAttr, EFs, tNo, SO, DD, Ak, Ax, inI]
   and_intros <;> try exact sdA
   refine hKL6 (P, z :: Q) _ ?_ ?_ ?_
   ·(try dsimp only); exact (by rw [← w1]; simp)
   ·(try dsimp only); omega
   refine Le.mk _ _ ?_ ?_ rfl <;> simp only [go_sem, simprocAttr, List.cons_append] <;> and_intros <;> try exact leA
   all_goals (try omega)
  simp only [hcL] at hc22
  obtain rfl : P = [] := List.eq_nil_of_length_eq_zero (by omega)
  rw [List.nil_append] at w1
  subst w1
  refine Ai ?_
  simp only [go_sem, simprocAttr]
  refine Ae ?_
  show Q _ _
  refine hQ _ _ ⟨mkE [], mkH (SO r n (A ++ (msT (fr r) (X ++ Y) ++ B)))⟩ (.inl rfl) (Le.mk _ _ ?_ ?_ rfl) rfl ?_ ?_ <;> simp only [go_sem, simprocAttr, SO, hfin, List.nil_append, List.append_assoc, List.cons_append]
 simp only [hcL] at hc13
 refine Ac ?_
 obtain ⟨md, hmd⟩ : ∃ md, md = (a + (a + lu + lv)) / 2 := ⟨_, rfl⟩
 have hmid : (((a : Int) + ((a + lu + lv : Nat) : Int)) / 2) = (md : Int) := by omega
 have hnn : (md : Int) + ((a + lu : Nat) : Int) = ((md + (a + lu) : Nat) : Int) := by omega
 refine Aa (Z 25 rfl ?_)
 simp only [go_sem, simprocAttr, hmid, EFs, tNo, SO, DD, Ak, Ax, inI]
 and_intros <;> try exact sdA
 refine Aa (Z 26 rfl ?_)
 simp only [go_sem, simprocAttr, hnn, EFs, tNo, SO, DD, Ak, Ax, inI]
 and_intros <;> try exact sdA
 refine Aa (Z 27 rfl ?_)
 simp only [go_sem, simprocAttr, EFs, tNo, SO, DD, Ak, Ax, inI]
 refine BD (α := Nat × Nat) (fun γ => (a ≤ γ.1) ∧ (γ.1 ≤ γ.2) ∧ (γ.2 ≤ a + lu) ∧ (γ.2 ≤ md) ∧ (md + (a + lu) ≤ γ.1 + (a + lu + lv)) ∧ (γ.1 = a ∨ γ.1 + (a + lu + lv) = md + (a + lu)) ∧ (γ.2 = a + lu ∨ γ.2 = md)) (fun γ => ⟨mkE [(1, V.int IntKind.i64 ↑a), (2, V.int IntKind.i64 ↑(a + lu)), (3, V.int IntKind.i64 ↑(a + lu + lv)), (4, V.ptr 4 0), (16, V.int IntKind.i64 ↑md), (17, V.int IntKind.i64 ↑(md + (a + lu))), (18, .int .i64 γ.1), (19, .int .i64 γ.2)], mkH [(4, Ob.box 253 [V.fn 145 [V.ptr 1000 0, V.ptr 1001 0], V.fn 219 [V.own 1003 n, V.pin hdl]]), (1000, Ob.box 204 [V.own 1002 r.length]), (1001, Ob.box 42 [V.own 1003 n]), (1002, Ob.arr 189 1 (Et r)), (1003, Ob.arr 3 1 (Dw D))]⟩) ?_ ?_
 ·intro KC28 hKC28
  refine Aa (Z 28 rfl ?_)
  simp only [go_sem, simprocAttr, EFs, tNo, SO, DD, Ak, Ax, inI]
  refine Ab rfl (fun hc28 => ?_) fun hc28 => ?_
  ·simp only [hcL] at hc28
   refine Aa (Z 29 rfl ?_)
   simp only [go_sem, simprocAttr, EFs, tNo, SO, DD, Ak, Ax, inI]
   and_intros <;> try exact sdA
   refine Z 30 rfl ?_
   simp only [go_sem, simprocAttr, EFs, tNo, SO, DD, Ak, Ax, inI]
   refine hKC28 (md + (a + lu) - (a + lu + lv), md) _ ?_ ?_
   ·(try dsimp only); (refine ⟨?_, ?_, ?_, ?_, ?_, ?_, ?_⟩ <;> omega)
   refine Le.mk _ _ ?_ ?_ rfl <;> simp only [go_sem, simprocAttr] <;> and_intros <;> try exact leA
   all_goals (try omega)
  simp only [hcL] at hc28
  refine Aa (Z 31 rfl ?_)
  simp only [go_sem, simprocAttr, EFs, tNo, SO, DD, Ak, Ax, inI]
  refine Z 32 rfl ?_
  simp only [go_sem, simprocAttr, EFs, tNo, SO, DD, Ak, Ax, inI]
  refine hKC28 (a, a + lu) _ ?_ ?_
  ·(try dsimp only); (refine ⟨?_, ?_, ?_, ?_, ?_, ?_, ?_⟩ <;> omega)
  refine Le.mk _ _ ?_ ?_ rfl <;> simp only [go_sem, simprocAttr] <;> and_intros <;> try exact leA
  all_goals (try omega)
 rintro ⟨lo, hi⟩ ⟨z1, z2, z3, z4, z5, z6, z7⟩
 try dsimp only at *
 refine Aa (Z 33 rfl ?_)
 simp only [go_sem, simprocAttr, EFs, tNo, SO, DD, Ak, Ax, inI]
 and_intros <;> try exact sdA
 refine Aa (Ad ?_)
 refine Aj (α := Nat × Nat) (fun γ => (lo ≤ γ.1) ∧ (γ.1 ≤ γ.2) ∧ (γ.2 ≤ hi) ∧ (γ.1 = lo ∨ Tb (fr r) (X.getD (γ.1 - 1 - a) 0) (Y.getD (md - γ.1) 0)) ∧ (γ.2 = hi ∨ Tb (fr r) (Y.getD (md - 1 - γ.2) 0) (X.getD (γ.2 - a) 0))) (fun γ => ⟨mkE [(1, V.int IntKind.i64 ↑a), (2, V.int IntKind.i64 ↑(a + lu)), (3, V.int IntKind.i64 ↑(a + lu + lv)), (4, V.ptr 4 0), (16, V.int IntKind.i64 ↑md), (17, V.int IntKind.i64 ↑(md + (a + lu))), (18, .int .i64 γ.1), (19, .int .i64 γ.2), (20, V.int IntKind.i64 (↑(md + (a + lu)) - 1))], mkH [(4, Ob.box 253 [V.fn 145 [V.ptr 1000 0, V.ptr 1001 0], V.fn 219 [V.own 1003 n, V.pin hdl]]), (1000, Ob.box 204 [V.own 1002 r.length]), (1001, Ob.box 42 [V.own 1003 n]), (1002, Ob.arr 189 1 (Et r)), (1003, Ob.arr 3 1 (Dw D))]⟩) (fun γ => γ.2 - γ.1) (lo, hi) ⟨Nat.le_refl _, z2, Nat.le_refl _, .inl rfl, .inl rfl⟩ ?_ ?_
 ·exact leM
 rintro ⟨s, e⟩ ⟨y1, y2, y3, y4, y5⟩ KL8 hKL8
 try dsimp only at *
 refine Aa (Aa (Z 34 rfl ?_))
 simp only [go_sem, simprocAttr, EFs, tNo, SO, DD, Ak, Ax, inI]
 refine Ab rfl (fun hc34 => ?_) fun hc34 => ?_
 ·simp only [hcL] at hc34
  refine Ac ?_
  refine Ad ?_
  obtain ⟨k, hk⟩ : ∃ k, k = (s + e) / 2 := ⟨_, rfl⟩
  have hh : (((s : Int) + (e : Int)) / 2) = (k : Int) := by omega
  refine Aa (Z 35 rfl ?_)
  simp only [go_sem, simprocAttr, hh, EFs, tNo, SO, DD, Ak, Ax, inI]
  and_intros <;> try exact sdA
  refine Aa (Z 36 rfl ?_)
  simp only [go_sem, simprocAttr, EFs, tNo, SO, DD, Ak, Ax, inI]
  and_intros <;> try exact sdA
  refine NB (d := D) (b := decide (fr r (X.getD (k - a) 0) < fr r (Y.getD (md - 1 - k) 0))) (a + lu + (md - 1 - k)) k ?_ rfl ?_ hm ?_ ?_ ?_ rfl rfl rfl rfl ?_
  iterate 4 (· omega)
  ·rw [dV (md - 1 - k) (by omega), ← dU (k - a) (by omega), show a + (k - a) = k by omega]
  simp only [go_sem, simprocAttr, EFs, SO]
  refine Ab rfl (fun hb36 => ?_) fun hb36 => ?_
  ·have hbt := (cmp (k - a) (md - 1 - k) (by omega) (by omega)).2.1 (by simpa using hb36)
   refine Z 37 rfl ?_
   simp only [go_sem, simprocAttr, EFs, tNo, SO, DD, Ak, Ax, inI]
   and_intros <;> try exact sdA
   refine hKL8 (k + 1, e) _ ?_ ?_ ?_
   ·(try dsimp only); exact ⟨by omega, by omega, y3, .inr (by rw [show k + 1 - 1 - a = k - a by omega, show md - (k + 1) = md - 1 - k by omega]; exact hbt), y5⟩
   ·(try dsimp only); omega
   refine Le.mk _ _ ?_ ?_ rfl <;> simp only [go_sem, simprocAttr] <;> and_intros <;> try exact leA
   all_goals (try omega)
  have hbt := (cmp (k - a) (md - 1 - k) (by omega) (by omega)).1.1 (by simpa using hb36)
  refine Z 38 rfl ?_
  simp only [go_sem, simprocAttr, EFs, tNo, SO, DD, Ak, Ax, inI]
  refine hKL8 (s, k) _ ?_ ?_ ?_
  ·(try dsimp only); exact ⟨y1, by omega, by omega, y4, .inr hbt⟩
  ·(try dsimp only); omega
  exact leM
 simp only [hcL] at hc34
 obtain rfl : e = s := by omega
 have hsm := ZC us vs hlt (i := e - a) (j := md - e) (by omega) (by omega) (Ac3 (hv ▸ z6) y1 z1 y4) (Ac2 (hu ▸ z7) (by omega) y5)
 obtain ⟨X1, X2, Y1, Y2, rfl, rfl, q1, q2, q3, q4, hsm⟩ : ∃ X1 X2 Y1 Y2, X = X1 ++ X2 ∧ Y = Y1 ++ Y2 ∧ X1.length = e - a ∧ X2.length = lu - (e - a) ∧ Y1.length = md - e ∧ Y2.length = lv - (md - e) ∧ msT (fr r) (X ++ Y) = msT (fr r) (X1 ++ Y1) ++ msT (fr r) (X2 ++ Y2) := ⟨X.take (e - a), X.drop (e - a), Y.take (md - e), Y.drop (md - e), (List.take_append_drop _ _).symm, (List.take_append_drop _ _).symm, by rw [List.length_take]; omega, by rw [List.length_drop]; omega, by rw [List.length_take]; omega, by rw [List.length_drop]; omega, hsm⟩
 have hDs : D = A ++ (X1 ++ (X2 ++ (Y1 ++ (Y2 ++ B)))) := by rw [← hD]; simp
 have okA := AhV (n := n) (A := A) (B := B) us vs hlt (by rw [← hDs]; exact hm) (by rw [← hDs]; exact hlen)
 have okB := AhU (n := n) (A := A) (B := B) us vs hlt (by rw [← hDs]; exact hm) (by rw [← hDs]; exact hlen)
 have hend : ((md + (a + lu) : Nat) : Int) - (e : Int) = ((md + (a + lu) - e : Nat) : Int) := by omega
 have sh1 := fun h => KC (us.parts.1) (vs.parts.1) h
 have sh2 := fun h => KC (us.parts.2.1) (vs.parts.2.1) h
 rw [hsm, List.append_assoc] at hQ
 refine Ai ?_
 simp only [go_sem, simprocAttr]
 refine Aa (Z 39 rfl ?_)
 simp only [go_sem, simprocAttr, hend, EFs, tNo, SO, DD, Ak, Ax, inI]
 and_intros <;> try exact sdA
 refine BD (α := Unit) (fun u => (True)) (fun u => ⟨mkE [(1, V.int IntKind.i64 ↑a), (3, V.int IntKind.i64 ↑(a + lu + lv)), (4, V.ptr 4 0), (16, V.int IntKind.i64 ↑md), (18, V.int IntKind.i64 ↑e), (22, V.int IntKind.i64 ↑(md + (a + lu) - e))], mkH [(4, Ob.box 253 [V.fn 145 [V.ptr 1000 0, V.ptr 1001 0], V.fn 219 [V.own 1003 n, V.pin hdl]]), (1000, Ob.box 204 [V.own 1002 r.length]), (1001, Ob.box 42 [V.own 1003 n]), (1002, Ob.arr 189 1 (Et r)), (1003, .arr 3 1 (Dw (A ++ (X1 ++ (Y1 ++ (X2 ++ (Y2 ++ B)))))))]⟩) ?_ ?_
 ·intro KC40 hKC40
  refine Aa (Z 40 rfl ?_)
  simp only [go_sem, simprocAttr, EFs, tNo, SO, DD, Ak, Ax, inI]
  and_intros <;> try exact sdA
  refine Ab rfl (fun hc40 => ?_) fun hc40 => ?_
  ·simp only [hcL] at hc40
   refine Z 41 rfl ?_
   simp only [go_sem, simprocAttr, EFs, tNo, SO, DD, Ak, Ax, inI]
   and_intros <;> try exact sdA
   refine Un (VD r n (A ++ X1) X2 Y1 (Y2 ++ B) (by omega) (by omega) (by simp only [List.length_append]; omega) hbig ?_ ?_ ?_) (by simp [V.rens, V.ren]) (by simp [V.nins, V.nin]) rfl rfl rfl ?_ ?_
   iterate 3 (· simp only [List.length_append]; omega)
   ·rw [hDs]; simp only [List.append_assoc]; rfl
   simp only [go_sem, simprocAttr, EFs, SO]
   refine hKC40 (()) _ ?_ ?_
   ·(try dsimp only); try trivial
   refine Le.mk _ _ ?_ ?_ rfl <;> simp only [go_sem, simprocAttr, List.append_assoc] <;> and_intros <;> try exact leA
  simp only [hcL] at hc40
  refine Ac ?_
  refine hKC40 (()) _ ?_ ?_
  ·(try dsimp only); try trivial
  refine Le.mk _ _ ?_ ?_ rfl <;> simp only [go_sem, simprocAttr, hDs] <;> and_intros <;> try exact leA
  rcases (show X2.length = 0 ∨ Y1.length = 0 by omega) with hz | hz <;> (obtain rfl := List.eq_nil_of_length_eq_zero hz; simp)
 rintro u k0
 refine BD (α := Unit) (fun u => (True)) (fun u => ⟨mkE [(3, V.int IntKind.i64 ↑(a + lu + lv)), (4, V.ptr 4 0), (16, V.int IntKind.i64 ↑md), (22, V.int IntKind.i64 ↑(md + (a + lu) - e))], mkH [(4, Ob.box 253 [V.fn 145 [V.ptr 1000 0, V.ptr 1001 0], V.fn 219 [V.own 1003 n, V.pin hdl]]), (1000, Ob.box 204 [V.own 1002 r.length]), (1001, Ob.box 42 [V.own 1003 n]), (1002, Ob.arr 189 1 (Et r)), (1003, .arr 3 1 (Dw (A ++ (msT (fr r) (X1 ++ Y1) ++ (X2 ++ (Y2 ++ B))))))]⟩) ?_ ?_
 ·intro KC42 hKC42
  refine Aa (Z 42 rfl ?_)
  simp only [go_sem, simprocAttr, EFs, tNo, SO, DD, Ak, Ax, inI]
  and_intros <;> try exact sdA
  refine Ab rfl (fun hc42 => ?_) fun hc42 => ?_
  ·simp only [hcL] at hc42
   refine Z 43 rfl ?_
   simp only [go_sem, simprocAttr, EFs, tNo, SO, DD, Ak, Ax, inI]
   and_intros <;> try exact sdA
   refine Un (ih A X1 Y1 (X2 ++ (Y2 ++ B)) (by omega) (okA (by omega) (by omega)) _ _ _ ?_ ?_ ?_) (by simp [V.rens, V.ren]) (by simp [V.nins, V.nin]) rfl rfl rfl rfl ?_
   iterate 3 (· omega)
   simp only [go_sem, simprocAttr, EFs, SO]
   refine hKC42 (()) _ ?_ ?_
   ·(try dsimp only); try trivial
   exact leM
  simp only [hcL] at hc42
  refine Ac ?_
  refine hKC42 (()) _ ?_ ?_
  ·(try dsimp only); try trivial
  refine Le.mk _ _ ?_ ?_ rfl <;> simp only [go_sem, simprocAttr, sh1 (show X1.length = 0 ∨ Y1.length = 0 by omega), List.append_assoc] <;> and_intros <;> try exact leA
 rintro u k0
 refine Aa (Z 44 rfl ?_)
 simp only [go_sem, simprocAttr, EFs, tNo, SO, DD, Ak, Ax, inI]
 and_intros <;> try exact sdA
 refine Ab rfl (fun hc44 => ?_) fun hc44 => ?_
 ·simp only [hcL] at hc44
  refine Z 45 rfl ?_
  simp only [go_sem, simprocAttr, EFs, tNo, SO, DD, Ak, Ax, inI]
  and_intros <;> try exact sdA
  refine Un (ih (A ++ msT (fr r) (X1 ++ Y1)) X2 Y2 B (by omega) (okB (by omega) (by omega)) _ _ _ ?_ ?_ ?_) (by simp [V.rens, V.ren]) (by simp [V.nins, V.nin]) rfl rfl rfl ?_ ?_
  iterate 3 (· simp only [List.length_append, BW]; omega)
  ·simp only [List.append_assoc]; rfl
  simp only [go_sem, simprocAttr, EFs, SO]
  show Q _ _
  refine hQ _ _ ⟨mkE [], mkH (SO r n (A ++ (msT (fr r) (X1 ++ Y1) ++ (msT (fr r) (X2 ++ Y2) ++ B))))⟩ (.inr rfl) (Le.mk _ _ ?_ ?_ rfl) rfl ?_ ?_ <;> simp only [go_sem, simprocAttr, SO, List.append_assoc]
 simp only [hcL] at hc44
 refine Ac ?_
 show Q _ _
 refine hQ _ _ ⟨mkE [], mkH (SO r n (A ++ (msT (fr r) (X1 ++ Y1) ++ (msT (fr r) (X2 ++ Y2) ++ B))))⟩ (.inr rfl) (Le.mk _ _ ?_ ?_ rfl) rfl ?_ ?_ <;> simp only [go_sem, simprocAttr, SO, sh2 (show X2.length = 0 ∨ Y2.length = 0 by omega), List.append_assoc]
theorem ZD (r : List Int) (n : Nat) (hbig : n ≤ 1000000) : ∀ (t : Nat) (A X Y B : List Nat), X.length + Y.length ≤ t → MrgOk r n A X Y B → Ais r n A X Y B
 | 0, A, X, Y, B, ht, h => absurd h.u0 (by omega)
 | t + 1, A, X, Y, B, ht, h => UV r n hbig A X Y B h fun A' U' V' B' hl h' => ZD r n hbig t A' U' V' B' (by omega) h'
theorem KO (r : List Int) (n : Nat) (A B L : List Nat) (hinc : L.Pairwise (· < ·)) (hm : ∀ k ∈ A ++ (L ++ B), k < r.length) (hn : (A ++ (L ++ B)).length = n) (hbig : n ≤ 1000000) {a b : Int} (ha : a = A.length) (hb : b = (A.length + L.length : Nat)) :
  Eff Tryz.prog UT 224 [DD n, .int .i64 a, .int .i64 b] (SO r n (A ++ (L ++ B))) (.tup []) (SO r n (A ++ (msT (fr r) L ++ B))) := by
 rcases Nat.eq_zero_or_pos L.length with h | h
 ·obtain rfl := List.eq_nil_of_length_eq_zero h
  have e : b = a := by rw [hb, ha, List.length_nil]; omega
  subst e
  have hl := hn
  simp only [List.length_append, List.length_nil] at hl
  exact Sf r n (A ++ ([] ++ B)) hbig (by omega) (by omega)
 ·exact Ah2 r n A B L h hinc hm hn hbig ha hb
section
variable {f : Nat → Int}
theorem EE (s n : Nat) : (List.range' s n).Nodup := List.nodup_range'
theorem Fh {s n k : Nat} (h : k ∈ List.range' s n) : s ≤ k ∧ k < s + n := by
 rw [List.mem_range'_1] at h; exact h
theorem ED {s n m : Nat} (h : m ≤ n) : List.range' s n = List.range' s m ++ List.range' (s + m) (n - m) := by
 have := List.range'_append (s := s) (m := m) (n := n - m) (step := 1)
 rw [show m + (n - m) = n by omega] at this
 rw [← this]; simp
theorem WR (bs s n : Nat) (hb : 0 < bs) : (chR f bs s n).Perm (List.range' s n) := by
 induction n using Nat.strongRecOn generalizing s with
 | ind n ih =>
  rcases Nat.lt_or_ge bs n with h | h
  ·rw [Th hb h, ED (s := s) (n := n) (m := bs) (by omega)]
   exact (AP _).append (ih (n - bs) (by omega) (s + bs))
  ·rw [GD h]; exact AP _
theorem Il (a m k : Nat) : msT f (msT f (List.range' a m) ++ msT f (List.range' (a + m) k)) = msT f (List.range' a (m + k)) := by
 refine Hr ?_ (EE _ _)
 rw [ED (s := a) (n := m + k) (m := m) (by omega), show m + k - m = k by omega]
 exact (AP _).append (AP _)
theorem RH {r : List Int} {n a m k : Nat} {D B : List Nat} (hm : 0 < m) (hk : 0 < k) (hmem : ∀ x ∈ D ++ (List.range' a (m + k) ++ B), x < r.length) (hlen : (D ++ (List.range' a (m + k) ++ B)).length = n) :
  MrgOk r n D (msT (fr r) (List.range' a m)) (msT (fr r) (List.range' (a + m) k)) B := by
 refine ⟨by rw [BW, List.length_range']; exact hm, by rw [BW, List.length_range']; exact hk, Cx (EE _ _), Cx (EE _ _), fun x hx y hy => ?_, fun x hx => hmem x ?_, ?_⟩
 ·have h1 := Fh ((AP _).mem_iff.1 hx)
  have h2 := Fh ((AP _).mem_iff.1 hy)
  omega
 ·rw [ED (s := a) (n := m + k) (m := m) (by omega), show m + k - m = k by omega]
  simp only [List.mem_append, (AP _).mem_iff] at hx ⊢
  rcases hx with h | h | h | h <;> simp [h]
 ·rw [← hlen]; simp only [List.length_append, BW, List.length_range']; omega
end
theorem Rg (s k : Nat) : (List.range' s k).Pairwise (· < ·) := List.pairwise_lt_range'
theorem No {r : List Int} {n : Nat} {l : List Nat} (hr : r.length = n) (hp : l.Perm (List.range' 0 n)) : (∀ k ∈ l, k < r.length) ∧ l.length = n :=
 ⟨fun k hk => by have := Fh (hp.mem_iff.1 hk); omega, by rw [hp.length_eq, List.length_range']⟩
theorem UY (r : List Int) (n : Nat) (hr : r.length = n) (hbig : n ≤ 1000000) :
  Eff Tryz.prog UT 187 [DD n, .int .i64 n] (SO r n (List.range' 0 n)) (.tup []) (SO r n (msT (fr r) (List.range' 0 n))) := by
 have hG := AC
 refine Aew.e (by simp) fun C hN Q hQ => ?_
 have Z := Aew.R EFs hG hN
 refine Aa (Z 0 rfl ?_)
 simp only [go_sem, simprocAttr, EFs, tNo, SO, DD]
 refine Aa (Z 1 rfl ?_)
 simp only [go_sem, simprocAttr, EFs, tNo, SO, DD]
 refine Aa (Z 2 rfl ?_)
 simp only [go_sem, simprocAttr, EFs, tNo, SO, DD]
 refine Aa (Ad ?_)
 refine Aj (α := (List Nat)) (fun E => (E ++ chR (fr r) 20 E.length (n - E.length) = chR (fr r) 20 0 n) ∧ (E.length ≤ n) ∧ ((E ++ List.range' E.length (n - E.length)).Perm (List.range' 0 n))) (fun E => ⟨mkE [(1, V.int IntKind.i64 ↑n), (2, V.ptr 2 0), (4, V.int IntKind.i64 20), (5, .int .i64 E.length), (6, .int .i64 ((E.length : Int) + 20))], mkH [(2, Ob.box 253 [V.fn 145 [V.ptr 1000 0, V.ptr 1001 0], V.fn 219 [V.own 1003 n, V.pin hdl]]), (1000, Ob.box 204 [V.own 1002 r.length]), (1001, Ob.box 42 [V.own 1003 n]), (1002, Ob.arr 189 1 (Et r)), (1003, .arr 3 1 (Dw (E ++ List.range' E.length (n - E.length))))]⟩) (fun E => n - E.length) ([]) ⟨rfl, Nat.zero_le _, .refl _⟩ ?_ ?_
 ·refine Le.mk _ _ ?_ ?_ rfl <;> simp only [go_sem, simprocAttr, List.length_nil, List.nil_append, Nat.sub_zero] <;> and_intros <;> try exact leA
 rintro E ⟨h1, h2, h3⟩ KL0 hKL0
 try dsimp only at *
 refine Aa (Aa (Z 3 rfl ?_))
 simp only [go_sem, simprocAttr, EFs, tNo, SO, DD]
 refine Ab rfl (fun hc3 => ?_) fun hc3 => ?_
 ·simp only [hcL] at hc3
  refine Ac ?_
  refine Ad ?_
  have hs := ED (s := E.length) (n := n - E.length) (m := 20) (by omega)
  rw [hs] at h3
  obtain ⟨m1, m2⟩ := No hr h3
  refine Aa (Z 4 rfl ?_)
  simp only [go_sem, simprocAttr, EFs, tNo, SO, DD]
  refine Un (KO r n E (List.range' (E.length + 20) (n - E.length - 20)) (List.range' E.length 20) (Rg _ _) m1 m2 hbig ?_ ?_) (by simp [V.rens, V.ren]) (by simp [V.nins, V.nin]) rfl rfl rfl ?_ ?_
  ·rfl
  ·rw [List.length_range']; omega
  ·rw [hs]; rfl
  simp only [go_sem, simprocAttr, EFs, SO]
  have hel : (E ++ msT (fr r) (List.range' E.length 20)).length = E.length + 20 := by rw [List.length_append, BW, List.length_range']
  refine Aa (Z 5 rfl ?_)
  simp only [go_sem, simprocAttr, EFs, tNo, SO, DD]
  refine Z 6 rfl ?_
  simp only [go_sem, simprocAttr, inI, EFs, tNo, SO, DD]
  refine ⟨⟨by omega, by omega⟩, ?_⟩
  refine hKL0 (E ++ msT (fr r) (List.range' E.length 20)) _ ?_ ?_ ?_
  ·(try dsimp only); (rw [hel]; exact ⟨by rw [← h1, Oq (by omega) (show 20 ≤ n - E.length by omega), List.append_assoc, show n - (E.length + 20) = n - E.length - 20 by omega], by omega, by rw [List.append_assoc, show n - (E.length + 20) = n - E.length - 20 by omega]; exact (List.Perm.append_left E ((AP _).append_right _)).trans h3⟩)
  ·(try dsimp only); omega
  refine Le.mk _ _ ?_ ?_ rfl <;> simp only [go_sem, simprocAttr, hel, List.append_assoc, Nat.sub_add_eq] <;> and_intros <;> try exact leA
  all_goals (try omega)
 simp only [hcL] at hc3
 refine Ai ?_
 simp only [go_sem, simprocAttr]
 obtain ⟨m1, m2⟩ := No hr h3
 have hrow : E ++ msT (fr r) (List.range' E.length (n - E.length)) = chR (fr r) 20 0 n := by rw [← h1, GD (by omega)]
 refine Aa (Z 7 rfl ?_)
 simp only [go_sem, simprocAttr, EFs, tNo, SO, DD]
 refine Un (KO r n E [] (List.range' E.length (n - E.length)) (Rg _ _) (by rw [List.append_nil]; exact m1) (by rw [List.append_nil]; exact m2) hbig ?_ ?_) (by simp [V.rens, V.ren]) (by simp [V.nins, V.nin]) rfl rfl rfl ?_ ?_
 ·rfl
 ·rw [List.length_range']; omega
 ·rw [List.append_nil]; rfl
 simp only [go_sem, simprocAttr, EFs, SO]
 refine Ad ?_
 refine Aj (α := Nat) (fun bs => (20 ≤ bs) ∧ (bs ≤ 2 * n + 40)) (fun bs => ⟨mkE [(1, V.int IntKind.i64 ↑n), (2, V.ptr 2 0), (4, .int .i64 bs)], mkH [(2, Ob.box 253 [V.fn 145 [V.ptr 1000 0, V.ptr 1001 0], V.fn 219 [V.own 1003 n, V.pin hdl]]), (1000, Ob.box 204 [V.own 1002 r.length]), (1001, Ob.box 42 [V.own 1003 n]), (1002, Ob.arr 189 1 (Et r)), (1003, .arr 3 1 (Dw (chR (fr r) bs 0 n)))]⟩) (fun bs => 2 * n + 40 - bs) 20 ⟨Nat.le_refl _, by omega⟩ ?_ ?_
 ·refine Le.mk _ _ ?_ ?_ rfl <;> simp only [go_sem, simprocAttr, List.append_nil, hrow] <;> and_intros <;> try exact leA
 rintro bs ⟨b1, b2⟩ KL2 hKL2
 try dsimp only at *
 refine Aa (Aa (Z 8 rfl ?_))
 simp only [go_sem, simprocAttr, EFs, tNo, SO, DD]
 refine Ab rfl (fun hc8 => ?_) fun hc8 => ?_
 ·simp only [hcL] at hc8
  refine Ac ?_
  refine Ad (Aa (Z 9 rfl ?_))
  simp only [go_sem, simprocAttr, inI, EFs, tNo, SO, DD]
  and_intros <;> try exact sdA
  refine Aa (Ad ?_)
  refine Aj (α := (List Nat)) (fun E => (E ++ chR (fr r) (2 * bs) E.length (n - E.length) = chR (fr r) (2 * bs) 0 n) ∧ (E.length ≤ n) ∧ ((E ++ List.range' E.length (n - E.length)).Perm (List.range' 0 n))) (fun E => ⟨mkE [(1, V.int IntKind.i64 ↑n), (2, V.ptr 2 0), (4, V.int IntKind.i64 ↑bs), (5, .int .i64 E.length), (6, .int .i64 ((E.length : Int) + 2 * (bs : Int)))], mkH [(2, Ob.box 253 [V.fn 145 [V.ptr 1000 0, V.ptr 1001 0], V.fn 219 [V.own 1003 n, V.pin hdl]]), (1000, Ob.box 204 [V.own 1002 r.length]), (1001, Ob.box 42 [V.own 1003 n]), (1002, Ob.arr 189 1 (Et r)), (1003, .arr 3 1 (Dw (E ++ chR (fr r) bs E.length (n - E.length))))]⟩) (fun E => n - E.length) ([]) ⟨rfl, Nat.zero_le _, .refl _⟩ ?_ ?_
  ·refine Le.mk _ _ ?_ ?_ rfl <;> simp only [go_sem, simprocAttr, List.length_nil, List.nil_append, Nat.sub_zero] <;> and_intros <;> try exact leA
   all_goals (try omega)
  rintro E ⟨h1, h2, h3⟩ KL4 hKL4
  try dsimp only at *
  refine Aa (Aa (Z 10 rfl ?_))
  simp only [go_sem, simprocAttr, EFs, tNo, SO, DD]
  refine Ab rfl (fun hc10 => ?_) fun hc10 => ?_
  ·simp only [hcL] at hc10
   refine Ac ?_
   refine Ad ?_
   have hs := ED (s := E.length) (n := n - E.length) (m := 2 * bs) (by omega)
   rw [hs] at h3
   obtain ⟨m1, m2⟩ := No hr h3
   have hc1 : chR (fr r) bs E.length (n - E.length) = msT (fr r) (List.range' E.length bs) ++ (msT (fr r) (List.range' (E.length + bs) bs) ++ chR (fr r) bs (E.length + 2 * bs) (n - E.length - 2 * bs)) := by rw [Oq (by omega) (show bs ≤ n - E.length by omega), Oq (by omega) (show bs ≤ n - E.length - bs by omega), show E.length + bs + bs = E.length + 2 * bs by omega, show n - E.length - bs - bs = n - E.length - 2 * bs by omega]
   have hpB := WR (f := fr r) bs (E.length + 2 * bs) (n - E.length - 2 * bs) (by omega)
   have hok := RH (r := r) (n := n) (a := E.length) (m := bs) (k := bs) (D := E) (B := chR (fr r) bs (E.length + 2 * bs) (n - E.length - 2 * bs)) (by omega) (by omega) (fun x hx => m1 x (by rw [show bs + bs = 2 * bs by omega] at hx; exact (List.Perm.append_left E (List.Perm.append_left _ hpB)).mem_iff.1 hx)) (by have m3 := m2; simp only [List.length_append, Abn, List.length_range'] at m3 ⊢; omega)
   have htb := Il (f := fr r) E.length bs bs
   rw [show bs + bs = 2 * bs by omega] at htb
   refine Aa (Z 11 rfl ?_)
   simp only [go_sem, simprocAttr, inI, EFs, tNo, SO, DD]
   refine ⟨⟨by omega, by omega⟩, ?_⟩
   refine Un (ZD r n hbig _ _ _ _ _ (Nat.le_refl _) hok _ _ _ ?_ ?_ ?_) (by simp [V.rens, V.ren]) (by simp [V.nins, V.nin]) rfl rfl rfl ?_ ?_
   ·rfl
   ·rw [BW, List.length_range']; omega
   ·rw [BW, BW, List.length_range', List.length_range']; omega
   ·rw [hc1]; rfl
   simp only [go_sem, simprocAttr, EFs, SO, htb]
   have hel : (E ++ msT (fr r) (List.range' E.length (2 * bs))).length = E.length + 2 * bs := by rw [List.length_append, BW, List.length_range']
   refine Aa (Z 12 rfl ?_)
   simp only [go_sem, simprocAttr, EFs, tNo, SO, DD]
   refine Z 13 rfl ?_
   simp only [go_sem, simprocAttr, inI, EFs, tNo, SO, DD]
   refine ⟨⟨by omega, by omega⟩, ⟨by omega, by omega⟩, ?_⟩
   refine hKL4 (E ++ msT (fr r) (List.range' E.length (2 * bs))) _ ?_ ?_ ?_
   ·(try dsimp only); (rw [hel]; exact ⟨by rw [← h1, Oq (by omega) (show 2 * bs ≤ n - E.length by omega), List.append_assoc, show n - (E.length + 2 * bs) = n - E.length - 2 * bs by omega], by omega, by rw [List.append_assoc, show n - (E.length + 2 * bs) = n - E.length - 2 * bs by omega]; exact (List.Perm.append_left E ((AP _).append_right _)).trans h3⟩)
   ·(try dsimp only); omega
   refine Le.mk _ _ ?_ ?_ rfl <;> simp only [go_sem, simprocAttr, hel, List.append_assoc, Nat.sub_add_eq] <;> and_intros <;> try exact leA
   all_goals (try omega)
  simp only [hcL] at hc10
  refine Ai ?_
  simp only [go_sem, simprocAttr]
  refine BD (α := Unit) (fun u => (True)) (fun u => ⟨mkE [(1, V.int IntKind.i64 ↑n), (2, V.ptr 2 0), (4, V.int IntKind.i64 ↑bs)], mkH [(2, Ob.box 253 [V.fn 145 [V.ptr 1000 0, V.ptr 1001 0], V.fn 219 [V.own 1003 n, V.pin hdl]]), (1000, Ob.box 204 [V.own 1002 r.length]), (1001, Ob.box 42 [V.own 1003 n]), (1002, Ob.arr 189 1 (Et r)), (1003, .arr 3 1 (Dw (chR (fr r) (2 * bs) 0 n)))]⟩) ?_ ?_
  ·intro KC15 hKC15
   have hle : E ++ msT (fr r) (List.range' E.length (n - E.length)) = chR (fr r) (2 * bs) 0 n := by rw [← h1, GD (show n - E.length ≤ 2 * bs by omega)]
   refine Aa (Z 14 rfl ?_)
   simp only [go_sem, simprocAttr, inI, EFs, tNo, SO, DD]
   and_intros <;> try exact sdA
   refine Aa (Z 15 rfl ?_)
   simp only [go_sem, simprocAttr, EFs, tNo, SO, DD]
   refine Ab rfl (fun hc15 => ?_) fun hc15 => ?_
   ·simp only [hcL] at hc15
    obtain ⟨m1, m2⟩ := No hr h3
    have hc1 : chR (fr r) bs E.length (n - E.length) = msT (fr r) (List.range' E.length bs) ++ msT (fr r) (List.range' (E.length + bs) (n - E.length - bs)) := by rw [Th (by omega) (by omega), GD (show n - E.length - bs ≤ bs by omega)]
    have hok := RH (r := r) (n := n) (a := E.length) (m := bs) (k := n - E.length - bs) (D := E) (B := []) (by omega) (by omega) (fun x hx => m1 x (by rw [List.append_nil, show bs + (n - E.length - bs) = n - E.length by omega] at hx; exact hx)) (by rw [List.append_nil, show bs + (n - E.length - bs) = n - E.length by omega]; exact m2)
    have htb := Il (f := fr r) E.length bs (n - E.length - bs)
    rw [show bs + (n - E.length - bs) = n - E.length by omega] at htb
    refine Z 16 rfl ?_
    simp only [go_sem, simprocAttr, EFs, tNo, SO, DD]
    refine Un (ZD r n hbig _ _ _ _ _ (Nat.le_refl _) hok _ _ _ ?_ ?_ ?_) (by simp [V.rens, V.ren]) (by simp [V.nins, V.nin]) rfl rfl rfl ?_ ?_
    ·rfl
    ·rw [BW, List.length_range']; omega
    ·rw [BW, BW, List.length_range', List.length_range']; omega
    ·rw [hc1, List.append_nil]; rfl
    simp only [go_sem, simprocAttr, EFs, SO, htb, hle, List.append_nil]
    refine hKC15 (()) _ ?_ ?_
    ·(try dsimp only); try trivial
    exact leM
   simp only [hcL] at hc15
   have hc2 : chR (fr r) bs E.length (n - E.length) = msT (fr r) (List.range' E.length (n - E.length)) := GD (by omega)
   refine Ac ?_
   refine hKC15 (()) _ ?_ ?_
   ·(try dsimp only); try trivial
   refine Le.mk _ _ ?_ ?_ rfl <;> simp only [go_sem, simprocAttr, hc2, hle] <;> and_intros <;> try exact leA
  rintro u k0
  refine Z 17 rfl ?_
  simp only [go_sem, simprocAttr, inI, EFs, tNo, SO, DD]
  and_intros <;> try exact sdA
  refine hKL2 (2 * bs) _ ?_ ?_ ?_
  ·(try dsimp only); exact ⟨by omega, by omega⟩
  ·(try dsimp only); omega
  refine Le.mk _ _ ?_ ?_ rfl <;> simp only [go_sem, simprocAttr] <;> and_intros <;> try exact leA
  all_goals (try omega)
 simp only [hcL] at hc8
 have hend : chR (fr r) bs 0 n = msT (fr r) (List.range' 0 n) := GD (by omega)
 refine Ai ?_
 simp only [go_sem, simprocAttr]
 show Q _ _
 refine hQ _ _ ⟨mkE [], mkH (SO r n (msT (fr r) (List.range' 0 n)))⟩ (.inr rfl) (Le.mk _ _ ?_ ?_ rfl) rfl ?_ ?_ <;> simp only [go_sem, simprocAttr, SO, hend]
noncomputable def Ad4 : TypeInfo := (Tryz.prog.info? 42).get (by kernel_rfl)
theorem swK (n : Nat) (h2 : 2 ≤ n) : Lib.swapperK n AaV 2 = 5 := by
 have a : AaV.hasPointers = false := by kernel_rfl
 have b : AaV.bytes = 8 := by kernel_rfl
 have c : (n == 0) = false := by simp; omega
 have d : (n == 1) = false := by simp; omega
 simp [Lib.swapperK, a, b, c, d]
section
variable {U : Tbl} {h h' : Nat → Option Ob} {w w1 w' : World} {M M' : Nat → Prop} {ι ι' : Nat → Value} {X : Nat → Prop}
theorem Mem.later {C : Ctx U} (hm : Mem C h w M ι) (hb : Below w.heap.size w w1) : Mem C h w1 M ι :=
 hm.grow (fun _ x => x) (fun b hb' => Nat.lt_of_lt_of_le (hm.lt b hb') hb.size) (fun _ _ x => x) hb
theorem Mem.anew {C : Ctx U} (hm : Mem C h w M ι) : Mem (U := U) ⟨w, fun b => ∃ n, (h n).isSome = true ∧ blk (ι n) = some b, 0, M, ι, h⟩ h w M ι :=
 ⟨hm.obj, hm.dis, hm.imm, hm.lt, fun n b hs hb => .inl ⟨n, hs, hb⟩, Nat.le_refl _, fun _ _ _ => rfl, rfl, rfl, rfl, fun _ hb => hb, hm.tb, hm.tm, fun _ _ hb => .inl hb, fun n t sz r0 t' sz' rows _ h0 ho => by
  dsimp only at h0
  rw [ho] at h0
  injection h0 with h0
  injection h0 with _ _ h0
  subst h0
  exact ⟨Nat.le_refl _, fun _ => rfl⟩, fun n _ => ⟨fun _ _ _ => rfl, fun _ _ => rfl⟩⟩
theorem Mem.back9 {N : Nat} (hb : Below w.heap.size w w1) (hm : Mem (U := U) ⟨w1, X, N, M, ι, h⟩ h' w' M' ι') : Mem (U := U) ⟨w, X, N, M, ι, h⟩ h' w' M' ι' :=
 ⟨hm.obj, hm.dis, hm.imm, hm.lt, fun n b hs hb' => (hm.may n b hs hb').imp id fun x => Nat.le_trans hb.size x, Nat.le_trans hb.size hm.size, fun b hlt hx => (hm.keep b (Nat.lt_of_lt_of_le hlt hb.size) hx).trans (hb.block b hlt), hm.os.trans hb.os, hm.tape.trans hb.tape, hm.output.trans hb.output,
  hm.base, hm.tb, hm.tm, fun b hlt hb' => hm.old b (Nat.lt_of_lt_of_le hlt hb.size) hb', hm.arr0, hm.pin⟩
end
theorem IH (w : World) (os : Array Obj) : Below w.heap.size w (Sort.grow w os) := ⟨rfl, rfl, rfl, by simp [Sort.grow], fun k hk => Sort.heap_grow_old w os hk⟩
theorem ptr_inv {M : Nat → Prop} {w : World} {ι : Nat → Value} {h : Nat → Option Ob} {n off : Nat} {cv : Value} (r : Rel M w ι h (.ptr n off) cv) : ∃ b t cells, h n = some (.box t cells) ∧ ι n = .pointer (some ⟨b, 0, none⟩) ∧ cv = .pointer (some ⟨b, off, none⟩) := by
 cases r with
 | pur hp => cases hp
 | ptrb _ _ b t cells ho hb => exact ⟨b, t, cells, ho, hb, rfl⟩
theorem Wg {M : Nat → Prop} {w : World} {ι : Nat → Value} {h : Nat → Option Ob} {tt : TypeId} {n len : Nat} {cv : Value} (r : Rel M w ι h (.iown tt n len) cv) : ∃ t sz rows v, cv = .iface tt v ∧ h n = some (.arr t sz rows) ∧ (rows.length = len → v = ι n) := by
 cases r with
 | pur hp => cases hp
 | iown _ _ _ t sz rows v ho hle hv hs => exact ⟨t, sz, rows, v, rfl, ho, hv⟩
theorem Eff.n {P : Program} {U : Tbl} {f : Nat} {vs : List V} {hl hl' : List (Nat × Ob)} {v : V} (h : Eff P U f vs hl v hl') (he : GI P f) : Ajs P U f vs hl v hl' := by
 rcases h with h | h
 ·exact h
 ·refine ⟨he, fun w M ι cargs a b c => ?_⟩
  obtain ⟨_, _, _, _, h1, _⟩ := h w M ι cargs a b c
  obtain ⟨fn, hf, hb, hn⟩ := he
  simp only [callFunc, Sem.run_bind, run_program, Result.andThen_ok, hf, hn, hb, Bool.false_eq_true, if_false, Sem.run_pure] at h1
  cases h1
theorem QE (r : List Int) (n : Nat) (hr : r.length = n) (h1 : 1 ≤ n) (hbig : n ≤ 1000000) :
  Eff Tryz.prog UT 144 [.iown 42 1003 n, .fn 145 [.ptr 1000 0, .ptr 1001 0]] (SO r n (List.range' 0 n)) (.tup []) (SO r n (msT (fr r) (List.range' 0 n))) := by
 refine .inl ⟨⟨_, Tryz.func144, by kernel_rfl, by kernel_rfl⟩, fun w M ι cargs hm hsz hargs => ?_⟩
 obtain ⟨xs, hown, _⟩ := hm.obj 1003 (.arr 3 1 (Dw (List.range' 0 n))) rfl
 rw [Cl, List.length_range'] at hown
 obtain ⟨g, cap, eι, hg⟩ := Rx hown (by omega)
 have e0 : cargs.getD 0 undef = .iface 42 (.slice (some ⟨g, 0, none⟩) n cap) := by
  obtain ⟨t, sz, rows, cv, e, ho, hv⟩ := Wg (hargs 0 _ rfl)
  rw [e]
  rcases Xn ho with ⟨e, _⟩ | ⟨_, _, _, rfl⟩
  ·cases e
  ·rw [hv (by rw [Cl, List.length_range']), eι]
 obtain ⟨cs, e1, hcl, hcr⟩ := (hargs 1 _ rfl).fn_inv
 have hcargs : cargs = #[.iface 42 (.slice (some ⟨g, 0, none⟩) n cap), .func (.func 145) #[] cs] := by
  rw [← e0, ← e1]
  refine Array.ext (by simpa using hsz) fun k hk _ => ?_
  have hk4 : k < 2 := by rw [hsz] at hk; exact hk
  match k, hk4 with
  | 0, _ => simp [Array.getD, show 0 < cargs.size by omega]
  | 1, _ => simp [Array.getD, show 1 < cargs.size by omega]
 rw [hcargs]
 rcases Nat.lt_or_ge 1 n with h2 | h2
 ·have hsk := swK n h2
  have hB : Go.Proofs.sliceBound Tryz.prog 3 AaV 2 (some ⟨g, 0, none⟩) n cap = #[.slice (some ⟨g, 0, none⟩) n cap, hdl] := by
   unfold Go.Proofs.sliceBound; rw [hsk]; rfl
  have hW : ∃ os, stableWorld Tryz.prog Tryz.laysGt8_ren 42 (some ⟨g, 0, none⟩) n cap w = Sort.grow w os := ⟨_, by unfold stableWorld; rw [Sort.alloc_eq_grow, Sort.alloc_eq_grow, Sort.grow_grow]⟩
  obtain ⟨os, hW⟩ := hW
  have hbl := IH w os
  have hm1 := (hm.later hbl).anew
  have hst := (UY r n hr hbig).n ⟨_, Tryz.func187, by kernel_rfl, by kernel_rfl⟩
  have key : Calls Tryz.prog 187 #[.agg #[.func (.func 145) #[] cs, .func (.func 219) #[] #[.slice (some ⟨g, 0, none⟩) n cap, hdl]], .int .i64 n] (Sort.grow w os) fun e w' => e = .returned (.tuple #[]) ∧ ∃ M' ι', Mem (U := UT) ⟨w, fun b => ∃ k, (mkH (SO r n (List.range' 0 n)) k).isSome = true ∧ blk (ι k) = some b, 0, M, ι, mkH (SO r n (List.range' 0 n))⟩ (mkH (SO r n (msT (fr r) (List.range' 0 n)))) w' M' ι' := by
   refine (hst.2 (Sort.grow w os) M ι _ hm1 rfl (fun i u hi => ?_)).mono ?_
   ·match i, hi with
    | 0, hi =>
     obtain rfl : DD n = u := by simpa using hi
     refine .agg _ #[.func (.func 145) #[] cs, .func (.func 219) #[] #[.slice (some ⟨g, 0, none⟩) n cap, hdl]] rfl (fun c hc => by simp at hc; rcases hc with rfl | rfl <;> rfl) (fun k v hk => ?_)
     match k, hk with
     | 0, hk =>
      obtain rfl : V.fn 145 [.ptr 1000 0, .ptr 1001 0] = v := by simpa using hk
      exact .fn _ _ cs hcl fun i v hi => (hcr i v hi).keep (fun _ x => x) (fun b hb => hbl.block b (hm.lt b hb)) (Keeps.refl _ _)
     | 1, hk =>
      obtain rfl : V.fn 219 [.own 1003 n, .pin hdl] = v := by simpa using hk
      refine .fn _ _ #[.slice (some ⟨g, 0, none⟩) n cap, hdl] rfl fun i v hi => ?_
      match i, hi with
      | 0, hi =>
       obtain rfl : V.own 1003 n = v := by simpa using hi
       exact .own 1003 n 3 1 (Dw (List.range' 0 n)) _ rfl (by rw [Cl, List.length_range']; exact Nat.le_refl _) (fun _ => eι.symm) rfl
      | 1, hi =>
       obtain rfl : V.pin hdl = v := by simpa using hi
       exact .pur (.pin _)
    | 1, hi =>
     obtain rfl : V.int .i64 (n : Int) = u := by simpa using hi
     exact .pur (.int _ _)
   ·rintro e w' ⟨cv, M', ι', rfl, hrel, hm'⟩
    obtain ⟨cs', rfl, hl', _⟩ := hrel.tup_inv
    obtain rfl := Array.eq_empty_of_size_eq_zero hl'.symm
    exact ⟨rfl, M', ι', hm'.back9 hbl⟩
  have hS := Any.sort_SliceStable_of_stable Tryz.laysGt8 42 3 Ad4 AaV (by kernel_rfl) (by kernel_rfl) (by kernel_rfl) (by kernel_rfl) 2 (fun _ => by kernel_rfl) (some ⟨g, 0, none⟩) n cap (by omega) 219 (by rw [hsk]; kernel_rfl) (.func 145) #[] cs w _ (by rw [hB, hW]; exact key)
  refine hS.mono ?_
  rintro e w' ⟨rfl, M', ι', hm'⟩
  exact ⟨_, M', ι', rfl, .pur (.tup [] #[] rfl (fun i v hi => by cases hi)), hm'⟩
 ·obtain rfl : n = 1 := by omega
  have hS := Any.sort_SliceStable_tiny Tryz.laysGt8 42 3 Ad4 AaV (by kernel_rfl) (by kernel_rfl) (by kernel_rfl) (by kernel_rfl) 2 (fun _ => by kernel_rfl) (some ⟨g, 0, none⟩) 1 cap (Nat.le_refl _) 216 (by kernel_rfl) (.func 145) #[] cs w
  refine hS.mono ?_
  rintro e w' ⟨rfl, os, rfl⟩
  exact ⟨_, M, ι, rfl, .pur (.tup [] #[] rfl (fun i v hi => by cases hi)), hm.later (IH w os)⟩
def stepT (s w : Int) : Int := if s ≤ 1099511627776 then s + min w 1099511627777 else s
def Fx (s : Int) : List Int → Int × Int
 | [] => if s = 0 then (0, 2) else (s, 0)
 | w :: l => if w < 0 then (0, 2) else Fx (stepT s w) l
def Ab0 (l : List Int) : Prop × V := (l.length ≤ 140737488355328, Pi (Fx 0 l))
theorem AL (l : List Int) : gOf aLi Ab0 [.list (AY l) false] = (l.length ≤ 140737488355328, Pi (Fx 0 l)) := Ar Gu l
theorem UW {s w : Int} (h0 : 0 ≤ s) (h1 : s ≤ 2199023255553) (hw : 0 ≤ w) : 0 ≤ stepT s w ∧ stepT s w ≤ 2199023255553 := by
 unfold stepT; split <;> omega
theorem Zl : PU 139 (gOf aLi Ab0) := by
 have hG := AC
 refine AeW.a Gu (by simp [aLi]) ?_
 rintro l hv C hN Q hQ
 have Z := AeW.R EF0 hG hN
 replace hv : l.length ≤ 140737488355328 := hv
 refine Aa (Z 0 rfl ?_)
 simp only [go_sem, simprocAttr, aLi, tNo]
 refine Aa (Z 1 rfl ?_)
 simp only [go_sem, simprocAttr, tNo]
 refine Aa (Aa (Z 2 rfl ?_))
 simp only [go_sem, simprocAttr, tNo]
 refine Ad ?_
 refine Aj (α := Nat × Int) (fun γ => (γ.1 ≤ l.length) ∧ (Fx 0 l = Fx γ.2 (l.drop γ.1)) ∧ (0 ≤ γ.2) ∧ (γ.2 ≤ 2199023255553)) (fun γ => ⟨mkE [(4, .int .i64 γ.2), (7, V.list (AY l) false), (8, V.int IntKind.i64 ↑l.length), (9, .int .i64 γ.1)], mkH []⟩) (fun γ => l.length - γ.1) (0, 0) ⟨Nat.zero_le _, rfl, by omega, by omega⟩ ?_ ?_
 ·exact leM
 rintro ⟨i, s⟩ ⟨hi, hs, h0, h1⟩ KL0 hKL0
 try dsimp only at *
 refine Aa (Z 3 rfl ?_)
 simp only [go_sem, simprocAttr, tNo]
 refine Aa ?_
 refine Ab rfl (fun hc3 => ?_) fun hc3 => ?_
 ·simp only [hcL] at hc3
  refine Ac ?_
  refine Aa (Ad ?_)
  have hd := List.drop_eq_getElem_cons hc3
  rw [hd, Fx] at hs
  generalize hxx : l[i] = x at hs
  refine Aa (Z 4 rfl ?_)
  simp only [go_sem, simprocAttr, AV _ _ _ hc3, hc3, hxx, tNo]
  and_intros <;> try exact sdA
  refine Aa (Aa (Z 5 rfl ?_))
  simp only [go_sem, simprocAttr, tNo]
  refine Ab rfl (fun hc5 => ?_) fun hc5 => ?_
  ·simp only [hcL] at hc5
   refine Aa (Z 6 rfl ?_)
   simp only [go_sem, simprocAttr, tNo]
   refine Ae (hQ _ _ (.inl rfl) ?_ ?_ ?_) <;> simp only [go_sem, simprocAttr, Ab0]
   rw [hs, if_pos hc5]; rfl
  simp only [hcL] at hc5
  rw [if_neg (by omega)] at hs
  have hbd := UW (w := x) h0 h1 (by omega)
  refine Ac ?_
  refine Aa (Z 7 rfl ?_)
  simp only [go_sem, simprocAttr, tNo]
  refine Ab rfl (fun hc7 => ?_) fun hc7 => ?_
  ·simp only [hcL] at hc7
   have hst : stepT s x = s + min x 1099511627777 := by unfold stepT; rw [if_pos (by omega)]
   refine Z 8 rfl ?_
   simp only [go_sem, simprocAttr, inI, tNo]
   and_intros <;> try exact sdA
   refine Z 9 rfl ?_
   simp only [go_sem, simprocAttr, inI, tNo]
   and_intros <;> try exact sdA
   refine hKL0 (i + 1, stepT s x) _ ?_ ?_ ?_
   ·(try dsimp only); exact ⟨hc3, hs, hbd.1, hbd.2⟩
   ·(try dsimp only); omega
   refine Le.mk _ _ ?_ ?_ rfl <;> simp only [go_sem, simprocAttr, hst] <;> and_intros <;> try exact leA
  simp only [hcL] at hc7
  have hst : stepT s x = s := by unfold stepT; rw [if_neg (by omega)]
  refine Ac ?_
  refine Z 9 rfl ?_
  simp only [go_sem, simprocAttr, inI, tNo]
  and_intros <;> try exact sdA
  refine hKL0 (i + 1, stepT s x) _ ?_ ?_ ?_
  ·(try dsimp only); exact ⟨hc3, hs, hbd.1, hbd.2⟩
  ·(try dsimp only); omega
  refine Le.mk _ _ ?_ ?_ rfl <;> simp only [go_sem, simprocAttr, hst] <;> and_intros <;> try exact leA
 simp only [hcL] at hc3
 refine Ai ?_
 simp only [go_sem, simprocAttr]
 refine Aa ?_
 have hie : i = l.length := Nat.le_antisymm hi hc3
 subst hie
 rw [List.drop_length, Fx] at hs
 refine Aa (Z 10 rfl ?_)
 simp only [go_sem, simprocAttr, tNo]
 refine Ab rfl (fun hc10 => ?_) fun hc10 => ?_
 ·simp only [hcL] at hc10
  refine Aa (Z 11 rfl ?_)
  simp only [go_sem, simprocAttr, tNo]
  refine Ae (hQ _ _ (.inl rfl) ?_ ?_ ?_) <;> simp only [go_sem, simprocAttr, Ab0]
  rw [hs, if_pos hc10]; rfl
 simp only [hcL] at hc10
 refine Ac ?_
 refine Aa (Z 12 rfl ?_)
 simp only [go_sem, simprocAttr, tNo]
 refine Ae (hQ _ _ (.inl rfl) ?_ ?_ ?_) <;> simp only [go_sem, simprocAttr, Ab0]
 rw [hs, if_neg hc10]; rfl
def GO (nb na ns nl n : Nat) (sg left : Int) (xs : List Int) : List (Nat × Ob) :=
 [(nb, .box 42 [.own na n]), (na, .arr 3 1 (AY xs)), (ns, .box 3 [.int .i64 sg]), (nl, .box 3 [.int .i64 left])]
theorem Ad7 (n : Nat) (sg left k : Int) (xs : List Int) (i : Nat) (hn : xs.length = n) (hi : i < xs.length) (h1 : inI (sg * k)) (h2 : inI (xs[i] + sg * k)) (h3 : inI (left - k)) :
  Eff Tryz.prog UT 142 [.int .i64 i, .int .i64 k, .ptr 1000 0, .ptr 1002 0, .ptr 1003 0] (GO 1000 1001 1002 1003 n sg left xs) (.tup []) (GO 1000 1001 1002 1003 n sg (left - k) (xs.set i (xs[i] + sg * k))) := by
 have hG := AC
 have hi2 : i < n := hn ▸ hi
 have h1u := h1
 have h2u := h2
 have h3u := h3
 unfold inI at h1u h2u h3u
 refine AeU.e (by simp) fun C hN Q hQ => ?_
 have Z := AeU.R EF0 hG hN
 refine Aa (As (EF := EF0) hG mixed (by rw [hN]; exact Zg) AaD ?_)
 simp only [Ub, Yb, go_sem, simprocAttr, inI, hn, AV _ _ _ hi, ints_set, GO, tNo]
 and_intros <;> try exact sdA
 refine Z 1 rfl ?_
 simp only [go_sem, simprocAttr, inI, GO, tNo]
 and_intros <;> try exact sdA
 show Q _ _
 refine hQ _ _ ⟨mkE [], mkH (GO 1000 1001 1002 1003 n sg (left - k) (xs.set i (xs[i] + sg * k)))⟩ (.inr rfl) (Le.mk _ _ ?_ ?_ rfl) rfl ?_ ?_ <;> simp only [go_sem, simprocAttr, GO]
theorem NH {dd : Option Nat} {s : St} {K : St → Prop} {n : Nat} {sg left left' k j : Int} {xs xs' : List Int} (i : Nat) (hj : j = i) (hn : xs.length = n) (hi : i < xs.length) (h1 : inI (sg * k)) (h2 : inI (xs[i] + sg * k)) (h3 : inI (left - k)) (hx : xs.set i (xs[i] + sg * k) = xs') (hl : left - k = left')
  (a0 : s.h 10 = some (.box 42 [.own 44 n])) (a1 : s.h 44 = some (.arr 3 1 (AY xs))) (a2 : s.h 9 = some (.box 3 [.int .i64 sg])) (a3 : s.h 8 = some (.box 3 [.int .i64 left]))
  (hK : K ⟨Ew dd (.tup []) s.e, hov (GO 10 44 9 8 n sg left' xs') s.h⟩) : CQ Tryz.prog UT dd 142 [.int .i64 j, .int .i64 k, .ptr 10 0, .ptr 9 0, .ptr 8 0] s K := by
 subst hj hx hl
 refine ⟨[(1000, 10), (1001, 44), (1002, 9), (1003, 8)], [], _, _, _, _, Ad7 n sg left k xs i hn hi h1 h2 h3, ⟨by decide, rfl, rfl, by simp, by simp, ?_, by simp [V.rens, V.ren, rni], by simp [V.nins, V.nin], by simp [V.nin, V.nins], ?_, ?_⟩, ?_⟩
 ·intro p hp
  simp only [List.mem_cons, List.not_mem_nil, or_false] at hp
  rcases hp with rfl | rfl | rfl | rfl
  ·exact ⟨_, a0, by simp [GO, mkH, Ob.ren, Al ((BG _).2 trivial), Al ((AS _).2 trivial), Al ((AU _).2 trivial), V.rens, V.ren, rni], by simp [Ob.nin, V.nins, V.nin]⟩
  ·exact ⟨_, a1, by simp [GO, mkH, Ob.ren, Al ((BG _).2 trivial), Al ((AS _).2 trivial), Al ((AU _).2 trivial)], by simp only [Ob.nin, true_or, BG]⟩
  ·exact ⟨_, a2, by simp [GO, mkH, Ob.ren, Al ((BG _).2 trivial), Al ((AS _).2 trivial), Al ((AU _).2 trivial), V.rens, V.ren], by simp [Ob.nin, V.nins, V.nin]⟩
  ·exact ⟨_, a3, by simp [GO, mkH, Ob.ren, Al ((BG _).2 trivial), Al ((AS _).2 trivial), Al ((AU _).2 trivial), V.rens, V.ren], by simp [Ob.nin, V.nins, V.nin]⟩
 ·intro q hq
  simp only [GO, List.mem_cons, List.not_mem_nil, or_false] at hq
  rcases hq with rfl | rfl | rfl | rfl
  ·simp [Ob.nin, V.nins, V.nin, GO]
  ·simp only [Ob.nin, true_or, BG]
  ·simp [Ob.nin, V.nins, V.nin]
  ·simp [Ob.nin, V.nins, V.nin]
 ·intro p hp o o' h1 h2
  simp only [List.mem_cons, List.not_mem_nil, or_false] at hp
  rcases hp with rfl | rfl | rfl | rfl <;> simp [GO, mkH] at h1 h2 <;> subst h1 h2 <;> simp [Ob.kind]
 ·have e2 : (GO 1000 1001 1002 1003 n sg (left - k) (xs.set i (xs[i] + sg * k))).map (fun q => (rn ([(1000, 10), (1001, 44), (1002, 9), (1003, 8)] ++ []) q.1, q.2.ren (rn ([(1000, 10), (1001, 44), (1002, 9), (1003, 8)] ++ [])))) = GO 10 44 9 8 n sg (left - k) (xs.set i (xs[i] + sg * k)) := by
   simp [GO, rn, Ob.ren, Al ((BG _).2 trivial), Al ((AS _).2 trivial), Al ((AU _).2 trivial), V.rens, V.ren]
  rw [show (V.tup []).ren (rn ([(1000, 10), (1001, 44), (1002, 9), (1003, 8)] ++ [])) = V.tup [] by simp [V.ren, V.rens], e2]
  exact hK
def SP (r : List Int) (n : Nat) (d : List Nat) : List (Nat × Ob) :=
 [(11, .box 204 [.own 47 r.length]), (18, .box 42 [.own 79 n]), (47, .arr 189 1 (Et r)), (79, .arr 3 1 (Dw d))]
theorem Va {dd : Option Nat} {s : St} {K : St → Prop} {r : List Int} {n : Nat} (hr : r.length = n) (h1 : 1 ≤ n) (hbig : n ≤ 1000000)
  (a0 : s.h 11 = some (.box 204 [.own 47 n])) (a1 : s.h 18 = some (.box 42 [.own 79 n])) (a2 : s.h 47 = some (.arr 189 1 (Et r))) (a3 : s.h 79 = some (.arr 3 1 (Dw (List.range' 0 n))))
  (hK : K ⟨Ew dd (.tup []) s.e, hov (SP r n (msT (fr r) (List.range' 0 n))) s.h⟩) : CQ Tryz.prog UT dd 144 [.iown 42 79 n, .fn 145 [.ptr 11 0, .ptr 18 0]] s K := by
 refine ⟨[(1000, 11), (1001, 18), (1002, 47), (1003, 79)], [], _, _, _, _, QE r n hr h1 hbig, ⟨by decide, rfl, rfl, by simp, by simp, ?_, by simp [V.rens, V.ren, rni], by simp [V.nins, V.nin], by simp [V.nin, V.nins], ?_, ?_⟩, ?_⟩
 ·intro p hp
  simp only [List.mem_cons, List.not_mem_nil, or_false] at hp
  rcases hp with rfl | rfl | rfl | rfl
  ·exact ⟨_, a0, by simp [SO, mkH, Ob.ren, Al ((BG _).2 trivial), Al ((AS _).2 trivial), Al ((AU _).2 trivial), V.rens, V.ren, rni, hr], by simp [Ob.nin, V.nins, V.nin]⟩
  ·exact ⟨_, a1, by simp [SO, mkH, Ob.ren, Al ((BG _).2 trivial), Al ((AS _).2 trivial), Al ((AU _).2 trivial), V.rens, V.ren, rni], by simp [Ob.nin, V.nins, V.nin]⟩
  ·exact ⟨_, a2, by simp [SO, mkH, Ob.ren, Al ((BG _).2 trivial), Al ((AS _).2 trivial), Al ((AU _).2 trivial)], by simp only [Ob.nin, true_or, AS]⟩
  ·exact ⟨_, a3, by simp [SO, mkH, Ob.ren, Al ((BG _).2 trivial), Al ((AS _).2 trivial), Al ((AU _).2 trivial)], by simp only [Ob.nin, true_or, AU]⟩
 ·intro q hq
  simp only [SO, List.mem_cons, List.not_mem_nil, or_false] at hq
  rcases hq with rfl | rfl | rfl | rfl
  ·simp [Ob.nin, V.nins, V.nin, SO]
  ·simp [Ob.nin, V.nins, V.nin, SO]
  ·simp only [Ob.nin, true_or, AS]
  ·simp only [Ob.nin, true_or, AU]
 ·intro p hp o o' h1 h2
  simp only [List.mem_cons, List.not_mem_nil, or_false] at hp
  rcases hp with rfl | rfl | rfl | rfl <;> simp [SO, mkH] at h1 h2 <;> subst h1 h2 <;> simp [Ob.kind]
 ·have e2 : (SO r n (msT (fr r) (List.range' 0 n))).map (fun q => (rn ([(1000, 11), (1001, 18), (1002, 47), (1003, 79)] ++ []) q.1, q.2.ren (rn ([(1000, 11), (1001, 18), (1002, 47), (1003, 79)] ++ [])))) = SP r n (msT (fr r) (List.range' 0 n)) := by
   simp [SO, SP, rn, Ob.ren, Al ((BG _).2 trivial), Al ((AS _).2 trivial), Al ((AU _).2 trivial), V.rens, V.ren]
  rw [show (V.tup []).ren (rn ([(1000, 11), (1001, 18), (1002, 47), (1003, 79)] ++ [])) = V.tup [] by simp [V.ren, V.rens], e2]
  exact hK
end Go.Proofs.YtjkclhbckfkeeaaGreatDoor
