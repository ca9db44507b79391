/- Merging two ordered pieces. -/
import Derived.Test.YtfjgnfgadkajnaaGreatSo6
namespace Go.Proofs.YtfjgnfgadkajnaaGreat
open Go Go.RowKit
set_option linter.unusedSimpArgs false
set_option linter.unusedVariables false
set_option linter.deprecated false
section
variable {f : Nat → Int}
theorem srt_get {l : List Nat} (h : SortT f l) {i j : Nat} (hij : i < j) (hj : j < l.length) : Tb f (l.getD i 0) (l.getD j 0) := by
  have := List.pairwise_iff_getElem.1 h i j (by omega) hj hij
  rw [List.getD_eq_getElem?_getD, List.getD_eq_getElem?_getD, List.getElem?_eq_getElem hj, List.getElem?_eq_getElem (show i < l.length by omega)]
  exact this
theorem mem_take_get {l : List Nat} {i x : Nat} (h : x ∈ l.take i) : ∃ k, k < i ∧ k < l.length ∧ x = l.getD k 0 := by
  obtain ⟨k, hk, e⟩ := List.mem_iff_getElem.1 h
  rw [List.length_take] at hk
  refine ⟨k, by omega, by omega, ?_⟩
  rw [← e, List.getElem_take, List.getD_eq_getElem?_getD, List.getElem?_eq_getElem]
  rfl
theorem mem_drop_get {l : List Nat} {i x : Nat} (h : x ∈ l.drop i) : ∃ k, i ≤ k ∧ k < l.length ∧ x = l.getD k 0 := by
  obtain ⟨k, hk, e⟩ := List.mem_iff_getElem.1 h
  rw [List.length_drop] at hk
  refine ⟨i + k, by omega, by omega, ?_⟩
  rw [← e, List.getElem_drop, List.getD_eq_getElem?_getD, List.getElem?_eq_getElem]
  rfl
theorem getD_memN {l : List Nat} {i : Nat} (h : i < l.length) : l.getD i 0 ∈ l := by
  rw [List.getD_eq_getElem?_getD, List.getElem?_eq_getElem h]; exact List.getElem_mem h
theorem sym_mid {U V : List Nat} (hU : SortT f U) (hV : SortT f V) (hUV : ∀ x ∈ U, ∀ y ∈ V, x < y) {i j : Nat} (hi : i ≤ U.length) (hj : j ≤ V.length)
    (h1 : i = 0 ∨ j = V.length ∨ Tb f (U.getD (i - 1) 0) (V.getD j 0)) (h2 : i = U.length ∨ j = 0 ∨ Tb f (V.getD (j - 1) 0) (U.getD i 0)) :
    msT f (U ++ V) = msT f (U.take i ++ V.take j) ++ msT f (U.drop i ++ V.drop j) := by
  have eU := List.take_append_drop i U
  have eV := List.take_append_drop j V
  have := msT_mid (f := f) (u1 := U.take i) (u2 := U.drop i) (v1 := V.take j) (v2 := V.drop j) (by rw [eU]; exact hU) (by rw [eV]; exact hV) (by rw [eU, eV]; exact hUV) (fun x hx y hy => ?_) (fun x hx y hy => ?_)
  · rwa [eU, eV] at this
  · obtain ⟨p, p1, p2, rfl⟩ := mem_take_get hx
    obtain ⟨q, q1, q2, rfl⟩ := mem_drop_get hy
    rcases h1 with h | h | h
    · omega
    · omega
    · have a1 : Tb f (U.getD p 0) (V.getD j 0) := by
        rcases Nat.lt_or_ge p (i - 1) with c | c
        · exact (srt_get hU c (by omega)).tr h
        · rwa [show p = i - 1 by omega]
      rcases Nat.lt_or_ge j q with c | c
      · exact a1.tr (srt_get hV c q2)
      · rwa [show q = j by omega]
  · obtain ⟨p, p1, p2, rfl⟩ := mem_take_get hx
    obtain ⟨q, q1, q2, rfl⟩ := mem_drop_get hy
    rcases h2 with h | h | h
    · omega
    · omega
    · have a1 : Tb f (V.getD p 0) (U.getD i 0) := by
        rcases Nat.lt_or_ge p (j - 1) with c | c
        · exact (srt_get hV c (by omega)).tr h
        · rwa [show p = j - 1 by omega]
      rcases Nat.lt_or_ge i q with c | c
      · exact a1.tr (srt_get hU c q2)
      · rwa [show q = i by omega]
theorem getD_pre {A l : List Nat} {i k : Nat} (h : i = A.length + k) : (A ++ l).getD i 0 = l.getD k 0 := by
  rw [List.getD_eq_getElem?_getD, List.getD_eq_getElem?_getD, List.getElem?_append_right (by omega), show i - A.length = k by omega]
theorem getD_fst {A l : List Nat} {i : Nat} (h : i < A.length) : (A ++ l).getD i 0 = A.getD i 0 := by
  rw [List.getD_eq_getElem?_getD, List.getD_eq_getElem?_getD, List.getElem?_append_left h]
end
theorem swp_up (P R : List Nat) (x y : Nat) {i j : Nat} (hi : i = P.length) (hj : j = P.length + 1) : swp (P ++ x :: y :: R) i j = P ++ y :: x :: R := by
  have := swp_split P [] R x y hi (j := j) (by rw [List.length_nil]; omega)
  simpa using this
theorem swp_dn (P R : List Nat) (x y : Nat) {i j : Nat} (hi : i = P.length + 1) (hj : j = P.length) : swp (P ++ x :: y :: R) i j = P ++ y :: x :: R := by
  subst hj; rw [hi]; exact swp_next P R x y rfl
section
variable {f : Nat → Int}
theorem one_lo {l : List Nat} {x p z : Nat} (hl : SortT f l) (hp : p ≤ l.length) (h : p = 0 ∨ Tb f (l.getD (p - 1) 0) x) (hz : z ∈ l.take p) : Tb f z x := by
  obtain ⟨k, k1, k2, rfl⟩ := mem_take_get hz
  rcases h with h | h
  · omega
  · rcases Nat.lt_or_ge k (p - 1) with c | c
    · exact (srt_get hl c (by omega)).tr h
    · rwa [show k = p - 1 by omega]
theorem one_hi {l : List Nat} {x p z : Nat} (hl : SortT f l) (h : p = l.length ∨ Tb f x (l.getD p 0)) (hz : z ∈ l.drop p) : Tb f x z := by
  obtain ⟨k, k1, k2, rfl⟩ := mem_drop_get hz
  rcases h with h | h
  · omega
  · rcases Nat.lt_or_ge p k with c | c
    · exact h.tr (srt_get hl c k2)
    · rwa [show k = p by omega]
theorem sym_h1 {X Y : List Nat} {lo a md s lu : Nat} (z6 : lo = a ∨ lo + (a + lu + Y.length) = md + (a + lu)) (y1 : lo ≤ s) (z1 : a ≤ lo) (y4 : s = lo ∨ Tb f (X.getD (s - 1 - a) 0) (Y.getD (md - s) 0)) : s - a = 0 ∨ md - s = Y.length ∨ Tb f (X.getD (s - a - 1) 0) (Y.getD (md - s) 0) := by
  rcases y4 with rfl | y4
  · rcases z6 with h | h
    · exact .inl (by omega)
    · exact .inr (.inl (by omega))
  · exact .inr (.inr (by rwa [show s - a - 1 = s - 1 - a by omega]))
theorem sym_h2 {X Y : List Nat} {hi a md s : Nat} (z7 : hi = a + X.length ∨ hi = md) (h1 : s ≤ md) (y5 : s = hi ∨ Tb f (Y.getD (md - 1 - s) 0) (X.getD (s - a) 0)) : s - a = X.length ∨ md - s = 0 ∨ Tb f (Y.getD (md - s - 1) 0) (X.getD (s - a) 0) := by
  rcases y5 with rfl | y5
  · rcases z7 with h | h
    · exact .inl (by omega)
    · exact .inr (.inl (by omega))
  · exact .inr (.inr (by rwa [show md - s - 1 = md - 1 - s by omega]))
end
/-- What a merge is handed. -/
structure MrgOk (r : List Int) (n : Nat) (A U V B : List Nat) : Prop where
  u0 : 0 < U.length
  v0 : 0 < V.length
  us : SortT (fr r) U
  vs : SortT (fr r) V
  lt : ∀ x ∈ U, ∀ y ∈ V, x < y
  mem : ∀ k ∈ A ++ (U ++ (V ++ B)), k < r.length
  len : (A ++ (U ++ (V ++ B))).length = n
def MEff (r : List Int) (n : Nat) (A U V B : List Nat) : Prop := ∀ a m b : Int, a = A.length → m = (A.length + U.length : Nat) → b = (A.length + U.length + V.length : Nat) →
  Eff Tryz.prog UT 75 [DD n, .int .i64 a, .int .i64 m, .int .i64 b] (SO r n (A ++ (U ++ (V ++ B)))) (.tup []) (SO r n (A ++ (msT (fr r) (U ++ V) ++ B)))
theorem mok_a {r : List Int} {n : Nat} {A X1 X2 Y1 Y2 B : List Nat} (us : SortT (fr r) (X1 ++ X2)) (vs : SortT (fr r) (Y1 ++ Y2)) (lt : ∀ x ∈ X1 ++ X2, ∀ y ∈ Y1 ++ Y2, x < y) (mem : ∀ k ∈ A ++ (X1 ++ (X2 ++ (Y1 ++ (Y2 ++ B)))), k < r.length) (len : (A ++ (X1 ++ (X2 ++ (Y1 ++ (Y2 ++ B))))).length = n)
    (h1 : 0 < X1.length) (h2 : 0 < Y1.length) : MrgOk r n A X1 Y1 (X2 ++ (Y2 ++ B)) :=
  ⟨h1, h2, us.parts.1, vs.parts.1, fun x hx y hy => lt x (List.mem_append_left _ hx) y (List.mem_append_left _ hy), fun k hk => mem k (by simp only [List.mem_append] at hk ⊢; rcases hk with h | h | h | h | h | h <;> simp [h]), by rw [← len]; simp only [List.length_append]; omega⟩
theorem mok_b {r : List Int} {n : Nat} {A X1 X2 Y1 Y2 B : List Nat} (us : SortT (fr r) (X1 ++ X2)) (vs : SortT (fr r) (Y1 ++ Y2)) (lt : ∀ x ∈ X1 ++ X2, ∀ y ∈ Y1 ++ Y2, x < y) (mem : ∀ k ∈ A ++ (X1 ++ (X2 ++ (Y1 ++ (Y2 ++ B)))), k < r.length) (len : (A ++ (X1 ++ (X2 ++ (Y1 ++ (Y2 ++ B))))).length = n)
    (h1 : 0 < X2.length) (h2 : 0 < Y2.length) : MrgOk r n (A ++ msT (fr r) (X1 ++ Y1)) X2 Y2 B :=
  ⟨h1, h2, us.parts.2.1, vs.parts.2.1, fun x hx y hy => lt x (List.mem_append_right _ hx) y (List.mem_append_right _ hy), fun k hk => mem k (by simp only [List.mem_append, (msT_perm _).mem_iff] at hk ⊢; rcases hk with (h | h | h) | h | h | h <;> simp [h]), by rw [← len]; simp only [List.length_append, msT_len]; omega⟩
theorem msT_short {f : Nat → Int} {U V : List Nat} (hU : SortT f U) (hV : SortT f V) (h : U.length = 0 ∨ V.length = 0) : msT f (U ++ V) = U ++ V := by
  rcases h with h | h
  · obtain rfl := List.eq_nil_of_length_eq_zero h; exact msT_self hV
  · obtain rfl := List.eq_nil_of_length_eq_zero h; rw [List.append_nil]; exact msT_self hU
set_option maxHeartbeats 8000000 in
theorem sym_step (r : List Int) (n : Nat) (hbig : n ≤ 1000000) (A X Y B : List Nat) (h : MrgOk r n A X Y B) (ih : ∀ A' U' V' B', U'.length + V'.length < X.length + Y.length → MrgOk r n A' U' V' B' → MEff r n A' U' V' B') : MEff r n A X Y B := by
  rintro _ _ _ rfl rfl rfl
  have hG := tNo_ok
  obtain ⟨u0, v0, us, vs, hlt, hm, hlen⟩ := h
  have hl := hlen
  simp only [List.length_append] at hl
  generalize hD : A ++ (X ++ (Y ++ B)) = D at *
  have dU : ∀ k, k < X.length → D.getD (A.length + k) 0 = X.getD k 0 := fun k hk => by rw [← hD, getD_pre rfl, getD_fst hk]
  have dV : ∀ k, k < Y.length → D.getD (A.length + X.length + k) 0 = Y.getD k 0 := fun k hk => by rw [← hD, getD_pre (k := X.length + k) (by omega), getD_pre rfl, getD_fst hk]
  have cmp : ∀ i j, i < X.length → j < Y.length → (fr r (X.getD i 0) < fr r (Y.getD j 0) ↔ Tb (fr r) (Y.getD j 0) (X.getD i 0)) ∧ (¬ fr r (X.getD i 0) < fr r (Y.getD j 0) ↔ Tb (fr r) (X.getD i 0) (Y.getD j 0)) := fun i j hi hj => Tb.of_lt (hlt _ (getD_memN hi) _ (getD_memN hj))
  generalize ha : A.length = a at *
  generalize hu : X.length = lu at *
  generalize hv : Y.length = lv at *
  refine Eff.of_aw Tryz.func75 body75 nm75 res75 (by rw [nt75]; simp) fun C hN Q hQ => ?_
  rw [nt75] at hN
  unfold c75
  refine aw_seq (aw_region (EF := EFs) hG (by rw [hN]; exact tr75_0) ?_)
  simp only [a75_0, go_sem, simprocAttr, EFs, tNo, SO, DD, inK_u64, inK_i64, inI]
  refine aw_seq ?_
  refine aw_seq (aw_region (EF := EFs) hG (by rw [hN]; exact tr75_1) ?_)
  simp only [a75_1, go_sem, simprocAttr, EFs, tNo, SO, DD, inK_u64, inK_i64, inI]
  (repeat' apply And.intro) <;> (try first | omega | ((fail_if_success refine idW ?_); (fail_if_success refine idS ?_); intros; (repeat' apply And.intro) <;> first | assumption | omega | (simp_all; done)))
  refine aw_cond (b := _) rfl (fun hc1 => ?_) (fun hc1 => ?_)
  · simp only [hcL] at hc1
    have hlu : lu = 1 := by omega
    obtain ⟨x, hx⟩ : ∃ x, X = [x] := by match X, hu with | [x], _ => exact ⟨x, rfl⟩ | [], e => (simp at e; omega) | _ :: _ :: _, e => (simp at e; omega)
    have hx0 : X.getD 0 0 = x := by rw [hx]; rfl
    refine aw_seq (aw_region (EF := EFs) hG (by rw [hN]; exact tr75_2) ?_)
    simp only [a75_2, go_sem, simprocAttr, EFs, tNo, SO, DD, inK_u64, inK_i64, inI]
    refine aw_seq (aw_region (EF := EFs) hG (by rw [hN]; exact tr75_3) ?_)
    simp only [a75_3, go_sem, simprocAttr, EFs, tNo, SO, DD, inK_u64, inK_i64, inI]
    refine aw_seq ?_
    refine aw_block ?_
    refine aw_loop (α := Nat × Nat) (fun γ => (γ.1 ≤ γ.2) ∧ (γ.2 ≤ lv) ∧ (γ.1 = 0 ∨ Tb (fr r) (Y.getD (γ.1 - 1) 0) x) ∧ (γ.2 = lv ∨ Tb (fr r) x (Y.getD γ.2 0))) (fun γ => ⟨mkE [(1, V.int IntKind.i64 ↑a), (4, V.ptr 4 0), (8, .int .i64 (a + lu + γ.1 : Nat)), (9, .int .i64 (a + lu + γ.2 : Nat))], mkH [(4, Ob.box 126 [V.fn 29 [V.ptr 1000 0, V.ptr 1001 0], V.fn 69 [V.own 1003 n, V.pin hdl]]), (1000, Ob.box 84 [V.own 1002 r.length]), (1001, Ob.box 34 [V.own 1003 n]), (1002, Ob.arr 82 1 (urow r)), (1003, Ob.arr 3 1 (nrow D))]⟩) (fun γ => γ.2 - γ.1) (0, lv) ⟨Nat.zero_le _, Nat.le_refl _, .inl rfl, .inl rfl⟩ ?_ ?_
    · refine Le.mk _ _ ?_ ?_ rfl <;> simp only [go_sem, simprocAttr, Nat.add_zero] <;> (repeat' apply And.intro) <;> (try first | rfl | exact wk_frzb rfl rfl rfl | exact wk_fn rfl | exact .nilo _ _ _ rfl rfl)
    · rintro ⟨p, q⟩ ⟨g0, g1, g2, g3⟩ KL0 hKL0
      try dsimp only at *
      refine aw_seq ?_
      refine aw_seq (aw_region (EF := EFs) hG (by rw [hN]; exact tr75_4) ?_)
      simp only [a75_4, go_sem, simprocAttr, EFs, tNo, SO, DD, inK_u64, inK_i64, inI]
      refine aw_cond (b := _) rfl (fun hc4 => ?_) (fun hc4 => ?_)
      · simp only [hcL] at hc4
        refine aw_skip ?_
        try simp only [go_sem, simprocAttr]
        refine aw_block ?_
        obtain ⟨k, hk⟩ : ∃ k, k = (p + q) / 2 := ⟨_, rfl⟩
        have hh : ((((a + lu + p : Nat) : Int) + ((a + lu + q : Nat) : Int)) / 2) = ((a + lu + k : Nat) : Int) := by omega
        refine aw_seq (aw_region (EF := EFs) hG (by rw [hN]; exact tr75_5) ?_)
        simp only [a75_5, go_sem, simprocAttr, hh, EFs, tNo, SO, DD, inK_u64, inK_i64, inI]
        (repeat' apply And.intro) <;> (try first | omega | ((fail_if_success refine idW ?_); (fail_if_success refine idS ?_); intros; (repeat' apply And.intro) <;> first | assumption | omega | (simp_all; done)))
        refine aw_seq (aw_region (EF := EFs) hG (by rw [hN]; exact tr75_6) ?_)
        simp only [a75_6, go_sem, simprocAttr, EFs, tNo, SO, DD, inK_u64, inK_i64, inI]
        (repeat' apply And.intro) <;> (try first | omega | ((fail_if_success refine idW ?_); (fail_if_success refine idS ?_); intros; (repeat' apply And.intro) <;> first | assumption | omega | (simp_all; done)))
        refine less_u (d := D) (b := decide (fr r x < fr r (Y.getD k 0))) (a + lu + k) a rfl rfl ?_ hm ?_ ?_ ?_ rfl rfl rfl rfl ?_
        iterate 3 (· omega)
        · rw [dV k (by omega), show D.getD a 0 = x from by have := dU 0 (by omega); rw [Nat.add_zero] at this; rw [this, hx0]]
        simp only [go_sem, simprocAttr, EFs, SO]
        refine aw_cond (b := _) rfl (fun hb6 => ?_) (fun hb6 => ?_)
        · skip
          have hbt := (cmp 0 k (by omega) (by omega)).1.1 (by rw [hx0]; simpa using hb6)
          rw [hx0] at hbt
          refine aw_region (EF := EFs) hG (by rw [hN]; exact tr75_7) ?_
          simp only [a75_7, go_sem, simprocAttr, EFs, tNo, SO, DD, inK_u64, inK_i64, inI]
          (repeat' apply And.intro) <;> (try first | omega | ((fail_if_success refine idW ?_); (fail_if_success refine idS ?_); intros; (repeat' apply And.intro) <;> first | assumption | omega | (simp_all; done)))
          refine hKL0 (k + 1, q) _ ?_ ?_ ?_
          · (try dsimp only); exact ⟨by omega, by omega, .inr (by rw [Nat.add_sub_cancel]; exact hbt), g3⟩
          · (try dsimp only); omega
          · refine Le.mk _ _ ?_ ?_ rfl <;> simp only [go_sem, simprocAttr] <;> (repeat' apply And.intro) <;> (try first | rfl | exact wk_frzb rfl rfl rfl | exact wk_fn rfl | exact .nilo _ _ _ rfl rfl)
            all_goals (try omega)
        · skip
          have hbt := (cmp 0 k (by omega) (by omega)).2.1 (by rw [hx0]; simpa using hb6)
          rw [hx0] at hbt
          refine aw_region (EF := EFs) hG (by rw [hN]; exact tr75_8) ?_
          simp only [a75_8, go_sem, simprocAttr, EFs, tNo, SO, DD, inK_u64, inK_i64, inI]
          refine hKL0 (p, k) _ ?_ ?_ ?_
          · (try dsimp only); exact ⟨by omega, by omega, g2, .inr hbt⟩
          · (try dsimp only); omega
          · refine Le.mk _ _ ?_ ?_ rfl <;> simp only [go_sem, simprocAttr] <;> (repeat' apply And.intro) <;> (try first | rfl | exact wk_frzb rfl rfl rfl | exact wk_fn rfl | exact .nilo _ _ _ rfl rfl)
      · simp only [hcL] at hc4
        obtain rfl : p = q := by omega
        have eY := List.take_append_drop p Y
        have hsY : SortT (fr r) (Y.take p ++ Y.drop p) := by rw [eY]; exact vs
        have hfin : msT (fr r) (X ++ Y) = Y.take p ++ x :: Y.drop p := by rw [hx, ← msT_one1 hsY (fun z hz => one_lo vs (by omega) g2 hz) (fun z hz => one_hi vs (hv ▸ g3) hz), eY]; rfl
        have hD0 : D = A ++ x :: (Y.take p ++ (Y.drop p ++ B)) := by rw [← hD, hx, ← List.append_assoc (Y.take p), eY]; rfl
        have hlt0 : (Y.take p).length = p := by rw [List.length_take]; omega
        have hld0 : (Y.drop p).length = lv - p := by rw [List.length_drop]; omega
        refine aw_exit ?_
        simp only [go_sem, simprocAttr]
        refine aw_seq ?_
        refine aw_seq (aw_region (EF := EFs) hG (by rw [hN]; exact tr75_9) ?_)
        simp only [a75_9, go_sem, simprocAttr, EFs, tNo, SO, DD, inK_u64, inK_i64, inI]
        refine aw_block ?_
        refine aw_loop (α := (List Nat) × (List Nat)) (fun γ => (γ.1 ++ γ.2 = Y.take p)) (fun γ => ⟨mkE [(4, V.ptr 4 0), (8, V.int IntKind.i64 ↑(a + lu + p)), (11, .int .i64 (a + γ.1.length : Nat))], mkH [(4, Ob.box 126 [V.fn 29 [V.ptr 1000 0, V.ptr 1001 0], V.fn 69 [V.own 1003 n, V.pin hdl]]), (1000, Ob.box 84 [V.own 1002 r.length]), (1001, Ob.box 34 [V.own 1003 n]), (1002, Ob.arr 82 1 (urow r)), (1003, .arr 3 1 (nrow (A ++ (γ.1 ++ x :: (γ.2 ++ (Y.drop p ++ B))))))]⟩) (fun γ => γ.2.length) ([], Y.take p) rfl ?_ ?_
        · refine Le.mk _ _ ?_ ?_ rfl <;> simp only [go_sem, simprocAttr, hD0, List.length_nil, Nat.add_zero] <;> (repeat' apply And.intro) <;> (try first | rfl | exact wk_frzb rfl rfl rfl | exact wk_fn rfl | exact .nilo _ _ _ rfl rfl)
        · rintro ⟨P, Q⟩ w1 KL2 hKL2
          try dsimp only at *
          have wl := congrArg List.length w1
          rw [List.length_append, hlt0] at wl
          refine aw_seq ?_
          refine aw_seq (aw_region (EF := EFs) hG (by rw [hN]; exact tr75_10) ?_)
          simp only [a75_10, go_sem, simprocAttr, EFs, tNo, SO, DD, inK_u64, inK_i64, inI]
          (repeat' apply And.intro) <;> (try first | omega | ((fail_if_success refine idW ?_); (fail_if_success refine idS ?_); intros; (repeat' apply And.intro) <;> first | assumption | omega | (simp_all; done)))
          refine aw_cond (b := _) rfl (fun hc10 => ?_) (fun hc10 => ?_)
          · simp only [hcL] at hc10
            refine aw_skip ?_
            try simp only [go_sem, simprocAttr]
            refine aw_seq ?_
            refine aw_block ?_
            obtain ⟨y, Q, rfl⟩ : ∃ x l, Q = x :: l := List.exists_cons_of_length_pos (by omega)
            rw [List.length_cons] at wl
            refine aw_region (EF := EFs) hG (by rw [hN]; exact tr75_12) ?_
            simp only [a75_12, go_sem, simprocAttr, EFs, tNo, SO, DD, inK_u64, inK_i64, inI]
            (repeat' apply And.intro) <;> (try first | omega | ((fail_if_success refine idW ?_); (fail_if_success refine idS ?_); intros; (repeat' apply And.intro) <;> first | assumption | omega | (simp_all; done)))
            refine swap_u (d := A ++ (P ++ x :: (y :: Q ++ (Y.drop p ++ B)))) (d' := A ++ ((P ++ [y]) ++ x :: (Q ++ (Y.drop p ++ B)))) (a + P.length) (a + P.length + 1) rfl ?_ ?_ ?_ ?_ ?_ rfl rfl rfl rfl ?_
            · omega
            iterate 3 (· simp only [List.length_append, List.length_cons, List.length_nil]; omega)
            · have := swp_up (A ++ P) (Q ++ (Y.drop p ++ B)) x y (i := a + P.length) (j := a + P.length + 1) (by rw [List.length_append]; omega) (by rw [List.length_append]; omega); simpa using this
            simp only [go_sem, simprocAttr, EFs, SO]
            refine aw_region (EF := EFs) hG (by rw [hN]; exact tr75_11) ?_
            simp only [a75_11, go_sem, simprocAttr, EFs, tNo, SO, DD, inK_u64, inK_i64, inI]
            (repeat' apply And.intro) <;> (try first | omega | ((fail_if_success refine idW ?_); (fail_if_success refine idS ?_); intros; (repeat' apply And.intro) <;> first | assumption | omega | (simp_all; done)))
            refine hKL2 (P ++ [y], Q) _ ?_ ?_ ?_
            · (try dsimp only); exact (by rw [← w1]; simp)
            · (try dsimp only); simp only [List.length_cons]; omega
            · refine Le.mk _ _ ?_ ?_ rfl <;> simp only [go_sem, simprocAttr, List.length_append, List.length_cons, List.length_nil] <;> (repeat' apply And.intro) <;> (try first | rfl | exact wk_frzb rfl rfl rfl | exact wk_fn rfl | exact .nilo _ _ _ rfl rfl)
              all_goals (try omega)
          · simp only [hcL] at hc10
            obtain rfl : Q = [] := List.eq_nil_of_length_eq_zero (by omega)
            rw [List.append_nil] at w1
            subst w1
            refine aw_exit ?_
            simp only [go_sem, simprocAttr]
            refine aw_ret ?_
            show Q _ _
            refine hQ _ _ ⟨mkE [], mkH (SO r n (A ++ (msT (fr r) (X ++ Y) ++ B)))⟩ (.inl rfl) (Le.mk _ _ ?_ ?_ rfl) rfl ?_ ?_ <;> simp only [outφ, outV, AR.res, go_sem, simprocAttr, SO, hfin, List.nil_append, List.append_assoc, List.cons_append]
  · simp only [hcL] at hc1
    refine aw_skip ?_
    try simp only [go_sem, simprocAttr]
    refine aw_seq ?_
    refine aw_seq (aw_region (EF := EFs) hG (by rw [hN]; exact tr75_13) ?_)
    simp only [a75_13, go_sem, simprocAttr, EFs, tNo, SO, DD, inK_u64, inK_i64, inI]
    (repeat' apply And.intro) <;> (try first | omega | ((fail_if_success refine idW ?_); (fail_if_success refine idS ?_); intros; (repeat' apply And.intro) <;> first | assumption | omega | (simp_all; done)))
    refine aw_cond (b := _) rfl (fun hc13 => ?_) (fun hc13 => ?_)
    · simp only [hcL] at hc13
      have hlv : lv = 1 := by omega
      obtain ⟨y, hy⟩ : ∃ x, Y = [x] := by match Y, hv with | [x], _ => exact ⟨x, rfl⟩ | [], e => (simp at e; omega) | _ :: _ :: _, e => (simp at e; omega)
      have hy0 : Y.getD 0 0 = y := by rw [hy]; rfl
      refine aw_seq (aw_region (EF := EFs) hG (by rw [hN]; exact tr75_14) ?_)
      simp only [a75_14, go_sem, simprocAttr, EFs, tNo, SO, DD, inK_u64, inK_i64, inI]
      refine aw_seq (aw_region (EF := EFs) hG (by rw [hN]; exact tr75_15) ?_)
      simp only [a75_15, go_sem, simprocAttr, EFs, tNo, SO, DD, inK_u64, inK_i64, inI]
      refine aw_seq ?_
      refine aw_block ?_
      refine aw_loop (α := Nat × Nat) (fun γ => (γ.1 ≤ γ.2) ∧ (γ.2 ≤ lu) ∧ (γ.1 = 0 ∨ Tb (fr r) (X.getD (γ.1 - 1) 0) y) ∧ (γ.2 = lu ∨ Tb (fr r) y (X.getD γ.2 0))) (fun γ => ⟨mkE [(2, V.int IntKind.i64 ↑(a + lu)), (4, V.ptr 4 0), (12, .int .i64 (a + γ.1 : Nat)), (13, .int .i64 (a + γ.2 : Nat))], mkH [(4, Ob.box 126 [V.fn 29 [V.ptr 1000 0, V.ptr 1001 0], V.fn 69 [V.own 1003 n, V.pin hdl]]), (1000, Ob.box 84 [V.own 1002 r.length]), (1001, Ob.box 34 [V.own 1003 n]), (1002, Ob.arr 82 1 (urow r)), (1003, Ob.arr 3 1 (nrow D))]⟩) (fun γ => γ.2 - γ.1) (0, lu) ⟨Nat.zero_le _, Nat.le_refl _, .inl rfl, .inl rfl⟩ ?_ ?_
      · refine Le.mk _ _ ?_ ?_ rfl <;> simp only [go_sem, simprocAttr, Nat.add_zero] <;> (repeat' apply And.intro) <;> (try first | rfl | exact wk_frzb rfl rfl rfl | exact wk_fn rfl | exact .nilo _ _ _ rfl rfl)
      · rintro ⟨p, q⟩ ⟨g0, g1, g2, g3⟩ KL4 hKL4
        try dsimp only at *
        refine aw_seq ?_
        refine aw_seq (aw_region (EF := EFs) hG (by rw [hN]; exact tr75_16) ?_)
        simp only [a75_16, go_sem, simprocAttr, EFs, tNo, SO, DD, inK_u64, inK_i64, inI]
        refine aw_cond (b := _) rfl (fun hc16 => ?_) (fun hc16 => ?_)
        · simp only [hcL] at hc16
          refine aw_skip ?_
          try simp only [go_sem, simprocAttr]
          refine aw_block ?_
          obtain ⟨k, hk⟩ : ∃ k, k = (p + q) / 2 := ⟨_, rfl⟩
          have hh : ((((a + p : Nat) : Int) + ((a + q : Nat) : Int)) / 2) = ((a + k : Nat) : Int) := by omega
          refine aw_seq (aw_region (EF := EFs) hG (by rw [hN]; exact tr75_17) ?_)
          simp only [a75_17, go_sem, simprocAttr, hh, EFs, tNo, SO, DD, inK_u64, inK_i64, inI]
          (repeat' apply And.intro) <;> (try first | omega | ((fail_if_success refine idW ?_); (fail_if_success refine idS ?_); intros; (repeat' apply And.intro) <;> first | assumption | omega | (simp_all; done)))
          refine aw_seq (aw_region (EF := EFs) hG (by rw [hN]; exact tr75_18) ?_)
          simp only [a75_18, go_sem, simprocAttr, EFs, tNo, SO, DD, inK_u64, inK_i64, inI]
          (repeat' apply And.intro) <;> (try first | omega | ((fail_if_success refine idW ?_); (fail_if_success refine idS ?_); intros; (repeat' apply And.intro) <;> first | assumption | omega | (simp_all; done)))
          refine less_u (d := D) (b := decide (fr r (X.getD k 0) < fr r y)) (a + lu) (a + k) rfl rfl ?_ hm ?_ ?_ ?_ rfl rfl rfl rfl ?_
          iterate 3 (· omega)
          · rw [dU k (by omega), show D.getD (a + lu) 0 = y from by have := dV 0 (by omega); rw [Nat.add_zero] at this; rw [this, hy0]]
          simp only [go_sem, simprocAttr, EFs, SO]
          refine aw_cond (b := _) rfl (fun hb18 => ?_) (fun hb18 => ?_)
          · skip
            have hbt := (cmp k 0 (by omega) (by omega)).2.1 (by rw [hy0]; simpa using hb18)
            rw [hy0] at hbt
            refine aw_region (EF := EFs) hG (by rw [hN]; exact tr75_19) ?_
            simp only [a75_19, go_sem, simprocAttr, EFs, tNo, SO, DD, inK_u64, inK_i64, inI]
            (repeat' apply And.intro) <;> (try first | omega | ((fail_if_success refine idW ?_); (fail_if_success refine idS ?_); intros; (repeat' apply And.intro) <;> first | assumption | omega | (simp_all; done)))
            refine hKL4 (k + 1, q) _ ?_ ?_ ?_
            · (try dsimp only); exact ⟨by omega, by omega, .inr (by rw [Nat.add_sub_cancel]; exact hbt), g3⟩
            · (try dsimp only); omega
            · refine Le.mk _ _ ?_ ?_ rfl <;> simp only [go_sem, simprocAttr] <;> (repeat' apply And.intro) <;> (try first | rfl | exact wk_frzb rfl rfl rfl | exact wk_fn rfl | exact .nilo _ _ _ rfl rfl)
              all_goals (try omega)
          · skip
            have hbt := (cmp k 0 (by omega) (by omega)).1.1 (by rw [hy0]; simpa using hb18)
            rw [hy0] at hbt
            refine aw_region (EF := EFs) hG (by rw [hN]; exact tr75_20) ?_
            simp only [a75_20, go_sem, simprocAttr, EFs, tNo, SO, DD, inK_u64, inK_i64, inI]
            refine hKL4 (p, k) _ ?_ ?_ ?_
            · (try dsimp only); exact ⟨by omega, by omega, g2, .inr hbt⟩
            · (try dsimp only); omega
            · refine Le.mk _ _ ?_ ?_ rfl <;> simp only [go_sem, simprocAttr] <;> (repeat' apply And.intro) <;> (try first | rfl | exact wk_frzb rfl rfl rfl | exact wk_fn rfl | exact .nilo _ _ _ rfl rfl)
        · simp only [hcL] at hc16
          obtain rfl : p = q := by omega
          have eX := List.take_append_drop p X
          have hsX : SortT (fr r) (X.take p ++ X.drop p) := by rw [eX]; exact us
          have hfin : msT (fr r) (X ++ Y) = X.take p ++ y :: X.drop p := by rw [hy, ← msT_one2 hsX (fun z hz => one_lo us (by omega) g2 hz) (fun z hz => one_hi us (hu ▸ g3) hz), eX]
          have hD0 : D = A ++ (X.take p ++ (X.drop p ++ y :: B)) := by rw [← hD, hy, ← List.append_assoc (X.take p), eX]; rfl
          have hlt0 : (X.take p).length = p := by rw [List.length_take]; omega
          have hld0 : (X.drop p).length = lu - p := by rw [List.length_drop]; omega
          refine aw_exit ?_
          simp only [go_sem, simprocAttr]
          refine aw_seq ?_
          refine aw_seq (aw_region (EF := EFs) hG (by rw [hN]; exact tr75_21) ?_)
          simp only [a75_21, go_sem, simprocAttr, EFs, tNo, SO, DD, inK_u64, inK_i64, inI]
          refine aw_block ?_
          refine aw_loop (α := (List Nat) × (List Nat)) (fun γ => (γ.1 ++ γ.2 = X.drop p)) (fun γ => ⟨mkE [(4, V.ptr 4 0), (12, V.int IntKind.i64 ↑(a + p)), (15, .int .i64 (a + p + γ.1.length : Nat))], mkH [(4, Ob.box 126 [V.fn 29 [V.ptr 1000 0, V.ptr 1001 0], V.fn 69 [V.own 1003 n, V.pin hdl]]), (1000, Ob.box 84 [V.own 1002 r.length]), (1001, Ob.box 34 [V.own 1003 n]), (1002, Ob.arr 82 1 (urow r)), (1003, .arr 3 1 (nrow (A ++ (X.take p ++ (γ.1 ++ y :: (γ.2 ++ B))))))]⟩) (fun γ => γ.1.length) (X.drop p, []) (List.append_nil _) ?_ ?_
          · refine Le.mk _ _ ?_ ?_ rfl <;> simp only [go_sem, simprocAttr, hD0, hld0] <;> (repeat' apply And.intro) <;> (try first | rfl | exact wk_frzb rfl rfl rfl | exact wk_fn rfl | exact .nilo _ _ _ rfl rfl)
            all_goals (try omega)
          · rintro ⟨P, Q⟩ w1 KL6 hKL6
            try dsimp only at *
            have wl := congrArg List.length w1
            rw [List.length_append, hld0] at wl
            refine aw_seq ?_
            refine aw_seq (aw_region (EF := EFs) hG (by rw [hN]; exact tr75_22) ?_)
            simp only [a75_22, go_sem, simprocAttr, EFs, tNo, SO, DD, inK_u64, inK_i64, inI]
            refine aw_cond (b := _) rfl (fun hc22 => ?_) (fun hc22 => ?_)
            · simp only [hcL] at hc22
              refine aw_skip ?_
              try simp only [go_sem, simprocAttr]
              refine aw_seq ?_
              refine aw_block ?_
              obtain ⟨P, z, rfl⟩ : ∃ l y, P = l ++ [y] := ⟨P.dropLast, P.getLast (List.ne_nil_of_length_pos (by omega)), (List.dropLast_concat_getLast _).symm⟩
              have hPl : (P ++ [z]).length = P.length + 1 := by simp
              refine aw_region (EF := EFs) hG (by rw [hN]; exact tr75_24) ?_
              simp only [a75_24, go_sem, simprocAttr, EFs, tNo, SO, DD, inK_u64, inK_i64, inI]
              (repeat' apply And.intro) <;> (try first | omega | ((fail_if_success refine idW ?_); (fail_if_success refine idS ?_); intros; (repeat' apply And.intro) <;> first | assumption | omega | (simp_all; done)))
              refine swap_u (d := A ++ (X.take p ++ ((P ++ [z]) ++ y :: (Q ++ B)))) (d' := A ++ (X.take p ++ (P ++ y :: ((z :: Q) ++ B)))) (a + p + P.length + 1) (a + p + P.length) ?_ ?_ ?_ ?_ ?_ ?_ rfl rfl rfl rfl ?_
              · omega
              · omega
              iterate 3 (· simp only [List.length_append, List.length_cons, List.length_nil]; omega)
              · have := swp_dn (A ++ (X.take p ++ P)) (Q ++ B) z y (i := a + p + P.length + 1) (j := a + p + P.length) (by simp only [List.length_append]; omega) (by simp only [List.length_append]; omega); simpa using this
              simp only [go_sem, simprocAttr, EFs, SO]
              refine aw_region (EF := EFs) hG (by rw [hN]; exact tr75_23) ?_
              simp only [a75_23, go_sem, simprocAttr, EFs, tNo, SO, DD, inK_u64, inK_i64, inI]
              (repeat' apply And.intro) <;> (try first | omega | ((fail_if_success refine idW ?_); (fail_if_success refine idS ?_); intros; (repeat' apply And.intro) <;> first | assumption | omega | (simp_all; done)))
              refine hKL6 (P, z :: Q) _ ?_ ?_ ?_
              · (try dsimp only); exact (by rw [← w1]; simp)
              · (try dsimp only); omega
              · refine Le.mk _ _ ?_ ?_ rfl <;> simp only [go_sem, simprocAttr, List.cons_append] <;> (repeat' apply And.intro) <;> (try first | rfl | exact wk_frzb rfl rfl rfl | exact wk_fn rfl | exact .nilo _ _ _ rfl rfl)
                all_goals (try omega)
            · simp only [hcL] at hc22
              obtain rfl : P = [] := List.eq_nil_of_length_eq_zero (by omega)
              rw [List.nil_append] at w1
              subst w1
              refine aw_exit ?_
              simp only [go_sem, simprocAttr]
              refine aw_ret ?_
              show Q _ _
              refine hQ _ _ ⟨mkE [], mkH (SO r n (A ++ (msT (fr r) (X ++ Y) ++ B)))⟩ (.inl rfl) (Le.mk _ _ ?_ ?_ rfl) rfl ?_ ?_ <;> simp only [outφ, outV, AR.res, go_sem, simprocAttr, SO, hfin, List.nil_append, List.append_assoc, List.cons_append]
    · simp only [hcL] at hc13
      refine aw_skip ?_
      try simp only [go_sem, simprocAttr]
      obtain ⟨md, hmd⟩ : ∃ md, md = (a + (a + lu + lv)) / 2 := ⟨_, rfl⟩
      have hmid : (((a : Int) + ((a + lu + lv : Nat) : Int)) / 2) = (md : Int) := by omega
      have hnn : (md : Int) + ((a + lu : Nat) : Int) = ((md + (a + lu) : Nat) : Int) := by omega
      refine aw_seq (aw_region (EF := EFs) hG (by rw [hN]; exact tr75_25) ?_)
      simp only [a75_25, go_sem, simprocAttr, hmid, EFs, tNo, SO, DD, inK_u64, inK_i64, inI]
      (repeat' apply And.intro) <;> (try first | omega | ((fail_if_success refine idW ?_); (fail_if_success refine idS ?_); intros; (repeat' apply And.intro) <;> first | assumption | omega | (simp_all; done)))
      refine aw_seq (aw_region (EF := EFs) hG (by rw [hN]; exact tr75_26) ?_)
      simp only [a75_26, go_sem, simprocAttr, hnn, EFs, tNo, SO, DD, inK_u64, inK_i64, inI]
      (repeat' apply And.intro) <;> (try first | omega | ((fail_if_success refine idW ?_); (fail_if_success refine idS ?_); intros; (repeat' apply And.intro) <;> first | assumption | omega | (simp_all; done)))
      refine aw_seq (aw_region (EF := EFs) hG (by rw [hN]; exact tr75_27) ?_)
      simp only [a75_27, go_sem, simprocAttr, EFs, tNo, SO, DD, inK_u64, inK_i64, inI]
      refine aw_cut (α := Nat × Nat) (fun γ => (a ≤ γ.1) ∧ (γ.1 ≤ γ.2) ∧ (γ.2 ≤ a + lu) ∧ (γ.2 ≤ md) ∧ (md + (a + lu) ≤ γ.1 + (a + lu + lv)) ∧ (γ.1 = a ∨ γ.1 + (a + lu + lv) = md + (a + lu)) ∧ (γ.2 = a + lu ∨ γ.2 = md)) (fun γ => ⟨mkE [(1, V.int IntKind.i64 ↑a), (2, V.int IntKind.i64 ↑(a + lu)), (3, V.int IntKind.i64 ↑(a + lu + lv)), (4, V.ptr 4 0), (16, V.int IntKind.i64 ↑md), (17, V.int IntKind.i64 ↑(md + (a + lu))), (18, .int .i64 γ.1), (19, .int .i64 γ.2)], mkH [(4, Ob.box 126 [V.fn 29 [V.ptr 1000 0, V.ptr 1001 0], V.fn 69 [V.own 1003 n, V.pin hdl]]), (1000, Ob.box 84 [V.own 1002 r.length]), (1001, Ob.box 34 [V.own 1003 n]), (1002, Ob.arr 82 1 (urow r)), (1003, Ob.arr 3 1 (nrow D))]⟩) ?_ ?_
      · intro KC28 hKC28
        refine aw_seq (aw_region (EF := EFs) hG (by rw [hN]; exact tr75_28) ?_)
        simp only [a75_28, go_sem, simprocAttr, EFs, tNo, SO, DD, inK_u64, inK_i64, inI]
        refine aw_cond (b := _) rfl (fun hc28 => ?_) (fun hc28 => ?_)
        · simp only [hcL] at hc28
          refine aw_seq (aw_region (EF := EFs) hG (by rw [hN]; exact tr75_29) ?_)
          simp only [a75_29, go_sem, simprocAttr, EFs, tNo, SO, DD, inK_u64, inK_i64, inI]
          (repeat' apply And.intro) <;> (try first | omega | ((fail_if_success refine idW ?_); (fail_if_success refine idS ?_); intros; (repeat' apply And.intro) <;> first | assumption | omega | (simp_all; done)))
          refine aw_region (EF := EFs) hG (by rw [hN]; exact tr75_30) ?_
          simp only [a75_30, go_sem, simprocAttr, EFs, tNo, SO, DD, inK_u64, inK_i64, inI]
          refine hKC28 (md + (a + lu) - (a + lu + lv), md) _ ?_ ?_
          · (try dsimp only); (refine ⟨?_, ?_, ?_, ?_, ?_, ?_, ?_⟩ <;> omega)
          · refine Le.mk _ _ ?_ ?_ rfl <;> simp only [go_sem, simprocAttr] <;> (repeat' apply And.intro) <;> (try first | rfl | exact wk_frzb rfl rfl rfl | exact wk_fn rfl | exact .nilo _ _ _ rfl rfl)
            all_goals (try omega)
        · simp only [hcL] at hc28
          refine aw_seq (aw_region (EF := EFs) hG (by rw [hN]; exact tr75_31) ?_)
          simp only [a75_31, go_sem, simprocAttr, EFs, tNo, SO, DD, inK_u64, inK_i64, inI]
          refine aw_region (EF := EFs) hG (by rw [hN]; exact tr75_32) ?_
          simp only [a75_32, go_sem, simprocAttr, EFs, tNo, SO, DD, inK_u64, inK_i64, inI]
          refine hKC28 (a, a + lu) _ ?_ ?_
          · (try dsimp only); (refine ⟨?_, ?_, ?_, ?_, ?_, ?_, ?_⟩ <;> omega)
          · refine Le.mk _ _ ?_ ?_ rfl <;> simp only [go_sem, simprocAttr] <;> (repeat' apply And.intro) <;> (try first | rfl | exact wk_frzb rfl rfl rfl | exact wk_fn rfl | exact .nilo _ _ _ rfl rfl)
            all_goals (try omega)
      · rintro ⟨lo, hi⟩ ⟨z1, z2, z3, z4, z5, z6, z7⟩
        try dsimp only at *
        refine aw_seq (aw_region (EF := EFs) hG (by rw [hN]; exact tr75_33) ?_)
        simp only [a75_33, go_sem, simprocAttr, EFs, tNo, SO, DD, inK_u64, inK_i64, inI]
        (repeat' apply And.intro) <;> (try first | omega | ((fail_if_success refine idW ?_); (fail_if_success refine idS ?_); intros; (repeat' apply And.intro) <;> first | assumption | omega | (simp_all; done)))
        refine aw_seq ?_
        refine aw_block ?_
        refine aw_loop (α := Nat × Nat) (fun γ => (lo ≤ γ.1) ∧ (γ.1 ≤ γ.2) ∧ (γ.2 ≤ hi) ∧ (γ.1 = lo ∨ Tb (fr r) (X.getD (γ.1 - 1 - a) 0) (Y.getD (md - γ.1) 0)) ∧ (γ.2 = hi ∨ Tb (fr r) (Y.getD (md - 1 - γ.2) 0) (X.getD (γ.2 - a) 0))) (fun γ => ⟨mkE [(1, V.int IntKind.i64 ↑a), (2, V.int IntKind.i64 ↑(a + lu)), (3, V.int IntKind.i64 ↑(a + lu + lv)), (4, V.ptr 4 0), (16, V.int IntKind.i64 ↑md), (17, V.int IntKind.i64 ↑(md + (a + lu))), (18, .int .i64 γ.1), (19, .int .i64 γ.2), (20, V.int IntKind.i64 (↑(md + (a + lu)) - 1))], mkH [(4, Ob.box 126 [V.fn 29 [V.ptr 1000 0, V.ptr 1001 0], V.fn 69 [V.own 1003 n, V.pin hdl]]), (1000, Ob.box 84 [V.own 1002 r.length]), (1001, Ob.box 34 [V.own 1003 n]), (1002, Ob.arr 82 1 (urow r)), (1003, Ob.arr 3 1 (nrow D))]⟩) (fun γ => γ.2 - γ.1) (lo, hi) ⟨Nat.le_refl _, z2, Nat.le_refl _, .inl rfl, .inl rfl⟩ ?_ ?_
        · refine Le.mk _ _ ?_ ?_ rfl <;> simp only [go_sem, simprocAttr] <;> (repeat' apply And.intro) <;> (try first | rfl | exact wk_frzb rfl rfl rfl | exact wk_fn rfl | exact .nilo _ _ _ rfl rfl)
        · rintro ⟨s, e⟩ ⟨y1, y2, y3, y4, y5⟩ KL8 hKL8
          try dsimp only at *
          refine aw_seq ?_
          refine aw_seq (aw_region (EF := EFs) hG (by rw [hN]; exact tr75_34) ?_)
          simp only [a75_34, go_sem, simprocAttr, EFs, tNo, SO, DD, inK_u64, inK_i64, inI]
          refine aw_cond (b := _) rfl (fun hc34 => ?_) (fun hc34 => ?_)
          · simp only [hcL] at hc34
            refine aw_skip ?_
            try simp only [go_sem, simprocAttr]
            refine aw_block ?_
            obtain ⟨k, hk⟩ : ∃ k, k = (s + e) / 2 := ⟨_, rfl⟩
            have hh : (((s : Int) + (e : Int)) / 2) = (k : Int) := by omega
            refine aw_seq (aw_region (EF := EFs) hG (by rw [hN]; exact tr75_35) ?_)
            simp only [a75_35, go_sem, simprocAttr, hh, EFs, tNo, SO, DD, inK_u64, inK_i64, inI]
            (repeat' apply And.intro) <;> (try first | omega | ((fail_if_success refine idW ?_); (fail_if_success refine idS ?_); intros; (repeat' apply And.intro) <;> first | assumption | omega | (simp_all; done)))
            refine aw_seq (aw_region (EF := EFs) hG (by rw [hN]; exact tr75_36) ?_)
            simp only [a75_36, go_sem, simprocAttr, EFs, tNo, SO, DD, inK_u64, inK_i64, inI]
            (repeat' apply And.intro) <;> (try first | omega | ((fail_if_success refine idW ?_); (fail_if_success refine idS ?_); intros; (repeat' apply And.intro) <;> first | assumption | omega | (simp_all; done)))
            refine less_u (d := D) (b := decide (fr r (X.getD (k - a) 0) < fr r (Y.getD (md - 1 - k) 0))) (a + lu + (md - 1 - k)) k ?_ rfl ?_ hm ?_ ?_ ?_ rfl rfl rfl rfl ?_
            iterate 4 (· omega)
            · rw [dV (md - 1 - k) (by omega), ← dU (k - a) (by omega), show a + (k - a) = k by omega]
            simp only [go_sem, simprocAttr, EFs, SO]
            refine aw_cond (b := _) rfl (fun hb36 => ?_) (fun hb36 => ?_)
            · skip
              have hbt := (cmp (k - a) (md - 1 - k) (by omega) (by omega)).2.1 (by simpa using hb36)
              refine aw_region (EF := EFs) hG (by rw [hN]; exact tr75_37) ?_
              simp only [a75_37, go_sem, simprocAttr, EFs, tNo, SO, DD, inK_u64, inK_i64, inI]
              (repeat' apply And.intro) <;> (try first | omega | ((fail_if_success refine idW ?_); (fail_if_success refine idS ?_); intros; (repeat' apply And.intro) <;> first | assumption | omega | (simp_all; done)))
              refine hKL8 (k + 1, e) _ ?_ ?_ ?_
              · (try dsimp only); exact ⟨by omega, by omega, y3, .inr (by rw [show k + 1 - 1 - a = k - a by omega, show md - (k + 1) = md - 1 - k by omega]; exact hbt), y5⟩
              · (try dsimp only); omega
              · refine Le.mk _ _ ?_ ?_ rfl <;> simp only [go_sem, simprocAttr] <;> (repeat' apply And.intro) <;> (try first | rfl | exact wk_frzb rfl rfl rfl | exact wk_fn rfl | exact .nilo _ _ _ rfl rfl)
                all_goals (try omega)
            · skip
              have hbt := (cmp (k - a) (md - 1 - k) (by omega) (by omega)).1.1 (by simpa using hb36)
              refine aw_region (EF := EFs) hG (by rw [hN]; exact tr75_38) ?_
              simp only [a75_38, go_sem, simprocAttr, EFs, tNo, SO, DD, inK_u64, inK_i64, inI]
              refine hKL8 (s, k) _ ?_ ?_ ?_
              · (try dsimp only); exact ⟨y1, by omega, by omega, y4, .inr hbt⟩
              · (try dsimp only); omega
              · refine Le.mk _ _ ?_ ?_ rfl <;> simp only [go_sem, simprocAttr] <;> (repeat' apply And.intro) <;> (try first | rfl | exact wk_frzb rfl rfl rfl | exact wk_fn rfl | exact .nilo _ _ _ rfl rfl)
          · simp only [hcL] at hc34
            obtain rfl : e = s := by omega
            have hsm := sym_mid us vs hlt (i := e - a) (j := md - e) (by omega) (by omega) (sym_h1 (hv ▸ z6) y1 z1 y4) (sym_h2 (hu ▸ z7) (by omega) y5)
            obtain ⟨X1, X2, Y1, Y2, rfl, rfl, q1, q2, q3, q4, hsm⟩ : ∃ X1 X2 Y1 Y2, X = X1 ++ X2 ∧ Y = Y1 ++ Y2 ∧ X1.length = e - a ∧ X2.length = lu - (e - a) ∧ Y1.length = md - e ∧ Y2.length = lv - (md - e) ∧ msT (fr r) (X ++ Y) = msT (fr r) (X1 ++ Y1) ++ msT (fr r) (X2 ++ Y2) := ⟨X.take (e - a), X.drop (e - a), Y.take (md - e), Y.drop (md - e), (List.take_append_drop _ _).symm, (List.take_append_drop _ _).symm, by rw [List.length_take]; omega, by rw [List.length_drop]; omega, by rw [List.length_take]; omega, by rw [List.length_drop]; omega, hsm⟩
            have hDs : D = A ++ (X1 ++ (X2 ++ (Y1 ++ (Y2 ++ B)))) := by rw [← hD]; simp
            have okA := mok_a (n := n) (A := A) (B := B) us vs hlt (by rw [← hDs]; exact hm) (by rw [← hDs]; exact hlen)
            have okB := mok_b (n := n) (A := A) (B := B) us vs hlt (by rw [← hDs]; exact hm) (by rw [← hDs]; exact hlen)
            have hend : ((md + (a + lu) : Nat) : Int) - (e : Int) = ((md + (a + lu) - e : Nat) : Int) := by omega
            have sh1 := fun h => msT_short (us.parts.1) (vs.parts.1) h
            have sh2 := fun h => msT_short (us.parts.2.1) (vs.parts.2.1) h
            rw [hsm, List.append_assoc] at hQ
            refine aw_exit ?_
            simp only [go_sem, simprocAttr]
            refine aw_seq (aw_region (EF := EFs) hG (by rw [hN]; exact tr75_39) ?_)
            simp only [a75_39, go_sem, simprocAttr, hend, EFs, tNo, SO, DD, inK_u64, inK_i64, inI]
            (repeat' apply And.intro) <;> (try first | omega | ((fail_if_success refine idW ?_); (fail_if_success refine idS ?_); intros; (repeat' apply And.intro) <;> first | assumption | omega | (simp_all; done)))
            refine aw_cut (α := Unit) (fun u => (True)) (fun u => ⟨mkE [(1, V.int IntKind.i64 ↑a), (3, V.int IntKind.i64 ↑(a + lu + lv)), (4, V.ptr 4 0), (16, V.int IntKind.i64 ↑md), (18, V.int IntKind.i64 ↑e), (22, V.int IntKind.i64 ↑(md + (a + lu) - e))], mkH [(4, Ob.box 126 [V.fn 29 [V.ptr 1000 0, V.ptr 1001 0], V.fn 69 [V.own 1003 n, V.pin hdl]]), (1000, Ob.box 84 [V.own 1002 r.length]), (1001, Ob.box 34 [V.own 1003 n]), (1002, Ob.arr 82 1 (urow r)), (1003, .arr 3 1 (nrow (A ++ (X1 ++ (Y1 ++ (X2 ++ (Y2 ++ B)))))))]⟩) ?_ ?_
            · intro KC40 hKC40
              refine aw_seq (aw_region (EF := EFs) hG (by rw [hN]; exact tr75_40) ?_)
              simp only [a75_40, go_sem, simprocAttr, EFs, tNo, SO, DD, inK_u64, inK_i64, inI]
              (repeat' apply And.intro) <;> (try first | omega | ((fail_if_success refine idW ?_); (fail_if_success refine idS ?_); intros; (repeat' apply And.intro) <;> first | assumption | omega | (simp_all; done)))
              refine aw_cond (b := _) rfl (fun hc40 => ?_) (fun hc40 => ?_)
              · simp only [hcL] at hc40
                refine aw_region (EF := EFs) hG (by rw [hN]; exact tr75_41) ?_
                simp only [a75_41, go_sem, simprocAttr, EFs, tNo, SO, DD, inK_u64, inK_i64, inI]
                (repeat' apply And.intro) <;> (try first | omega | ((fail_if_success refine idW ?_); (fail_if_success refine idS ?_); intros; (repeat' apply And.intro) <;> first | assumption | omega | (simp_all; done)))
                refine fn_u (rotate_e r n (A ++ X1) X2 Y1 (Y2 ++ B) (by omega) (by omega) (by simp only [List.length_append]; omega) hbig ?_ ?_ ?_) (by simp [V.rens, V.ren]) (by simp [V.nins, V.nin]) rfl rfl rfl ?_ ?_
                iterate 3 (· simp only [List.length_append]; omega)
                · rw [hDs]; simp only [List.append_assoc]; rfl
                simp only [go_sem, simprocAttr, EFs, SO]
                refine hKC40 (()) _ ?_ ?_
                · (try dsimp only); try trivial
                · refine Le.mk _ _ ?_ ?_ rfl <;> simp only [go_sem, simprocAttr, List.append_assoc] <;> (repeat' apply And.intro) <;> (try first | rfl | exact wk_frzb rfl rfl rfl | exact wk_fn rfl | exact .nilo _ _ _ rfl rfl)
              · simp only [hcL] at hc40
                refine aw_skip ?_
                try simp only [go_sem, simprocAttr]
                refine hKC40 (()) _ ?_ ?_
                · (try dsimp only); try trivial
                · refine Le.mk _ _ ?_ ?_ rfl <;> simp only [go_sem, simprocAttr, hDs] <;> (repeat' apply And.intro) <;> (try first | rfl | exact wk_frzb rfl rfl rfl | exact wk_fn rfl | exact .nilo _ _ _ rfl rfl)
                  rcases (show X2.length = 0 ∨ Y1.length = 0 by omega) with hz | hz <;> (obtain rfl := List.eq_nil_of_length_eq_zero hz; simp)
            · rintro u k0
              refine aw_cut (α := Unit) (fun u => (True)) (fun u => ⟨mkE [(3, V.int IntKind.i64 ↑(a + lu + lv)), (4, V.ptr 4 0), (16, V.int IntKind.i64 ↑md), (22, V.int IntKind.i64 ↑(md + (a + lu) - e))], mkH [(4, Ob.box 126 [V.fn 29 [V.ptr 1000 0, V.ptr 1001 0], V.fn 69 [V.own 1003 n, V.pin hdl]]), (1000, Ob.box 84 [V.own 1002 r.length]), (1001, Ob.box 34 [V.own 1003 n]), (1002, Ob.arr 82 1 (urow r)), (1003, .arr 3 1 (nrow (A ++ (msT (fr r) (X1 ++ Y1) ++ (X2 ++ (Y2 ++ B))))))]⟩) ?_ ?_
              · intro KC42 hKC42
                refine aw_seq (aw_region (EF := EFs) hG (by rw [hN]; exact tr75_42) ?_)
                simp only [a75_42, go_sem, simprocAttr, EFs, tNo, SO, DD, inK_u64, inK_i64, inI]
                (repeat' apply And.intro) <;> (try first | omega | ((fail_if_success refine idW ?_); (fail_if_success refine idS ?_); intros; (repeat' apply And.intro) <;> first | assumption | omega | (simp_all; done)))
                refine aw_cond (b := _) rfl (fun hc42 => ?_) (fun hc42 => ?_)
                · simp only [hcL] at hc42
                  refine aw_region (EF := EFs) hG (by rw [hN]; exact tr75_43) ?_
                  simp only [a75_43, go_sem, simprocAttr, EFs, tNo, SO, DD, inK_u64, inK_i64, inI]
                  (repeat' apply And.intro) <;> (try first | omega | ((fail_if_success refine idW ?_); (fail_if_success refine idS ?_); intros; (repeat' apply And.intro) <;> first | assumption | omega | (simp_all; done)))
                  refine fn_u (ih A X1 Y1 (X2 ++ (Y2 ++ B)) (by omega) (okA (by omega) (by omega)) _ _ _ ?_ ?_ ?_) (by simp [V.rens, V.ren]) (by simp [V.nins, V.nin]) rfl rfl rfl rfl ?_
                  iterate 3 (· omega)
                  simp only [go_sem, simprocAttr, EFs, SO]
                  refine hKC42 (()) _ ?_ ?_
                  · (try dsimp only); try trivial
                  · refine Le.mk _ _ ?_ ?_ rfl <;> simp only [go_sem, simprocAttr] <;> (repeat' apply And.intro) <;> (try first | rfl | exact wk_frzb rfl rfl rfl | exact wk_fn rfl | exact .nilo _ _ _ rfl rfl)
                · simp only [hcL] at hc42
                  refine aw_skip ?_
                  try simp only [go_sem, simprocAttr]
                  refine hKC42 (()) _ ?_ ?_
                  · (try dsimp only); try trivial
                  · refine Le.mk _ _ ?_ ?_ rfl <;> simp only [go_sem, simprocAttr, sh1 (show X1.length = 0 ∨ Y1.length = 0 by omega), List.append_assoc] <;> (repeat' apply And.intro) <;> (try first | rfl | exact wk_frzb rfl rfl rfl | exact wk_fn rfl | exact .nilo _ _ _ rfl rfl)
              · rintro u k0
                refine aw_seq (aw_region (EF := EFs) hG (by rw [hN]; exact tr75_44) ?_)
                simp only [a75_44, go_sem, simprocAttr, EFs, tNo, SO, DD, inK_u64, inK_i64, inI]
                (repeat' apply And.intro) <;> (try first | omega | ((fail_if_success refine idW ?_); (fail_if_success refine idS ?_); intros; (repeat' apply And.intro) <;> first | assumption | omega | (simp_all; done)))
                refine aw_cond (b := _) rfl (fun hc44 => ?_) (fun hc44 => ?_)
                · simp only [hcL] at hc44
                  refine aw_region (EF := EFs) hG (by rw [hN]; exact tr75_45) ?_
                  simp only [a75_45, go_sem, simprocAttr, EFs, tNo, SO, DD, inK_u64, inK_i64, inI]
                  (repeat' apply And.intro) <;> (try first | omega | ((fail_if_success refine idW ?_); (fail_if_success refine idS ?_); intros; (repeat' apply And.intro) <;> first | assumption | omega | (simp_all; done)))
                  refine fn_u (ih (A ++ msT (fr r) (X1 ++ Y1)) X2 Y2 B (by omega) (okB (by omega) (by omega)) _ _ _ ?_ ?_ ?_) (by simp [V.rens, V.ren]) (by simp [V.nins, V.nin]) rfl rfl rfl ?_ ?_
                  iterate 3 (· simp only [List.length_append, msT_len]; omega)
                  · simp only [List.append_assoc]; rfl
                  simp only [go_sem, simprocAttr, EFs, SO]
                  show Q _ _
                  refine hQ _ _ ⟨mkE [], mkH (SO r n (A ++ (msT (fr r) (X1 ++ Y1) ++ (msT (fr r) (X2 ++ Y2) ++ B))))⟩ (.inr rfl) (Le.mk _ _ ?_ ?_ rfl) rfl ?_ ?_ <;> simp only [outφ, outV, AR.res, go_sem, simprocAttr, SO, List.append_assoc]
                · simp only [hcL] at hc44
                  refine aw_skip ?_
                  try simp only [go_sem, simprocAttr]
                  show Q _ _
                  refine hQ _ _ ⟨mkE [], mkH (SO r n (A ++ (msT (fr r) (X1 ++ Y1) ++ (msT (fr r) (X2 ++ Y2) ++ B))))⟩ (.inr rfl) (Le.mk _ _ ?_ ?_ rfl) rfl ?_ ?_ <;> simp only [outφ, outV, AR.res, go_sem, simprocAttr, SO, sh2 (show X2.length = 0 ∨ Y2.length = 0 by omega), List.append_assoc]
theorem sym_e (r : List Int) (n : Nat) (hbig : n ≤ 1000000) : ∀ (t : Nat) (A X Y B : List Nat), X.length + Y.length ≤ t → MrgOk r n A X Y B → MEff r n A X Y B
  | 0, A, X, Y, B, ht, h => absurd h.u0 (by omega)
  | t + 1, A, X, Y, B, ht, h => sym_step r n hbig A X Y B h fun A' U' V' B' hl h' => sym_e r n hbig t A' U' V' B' (by omega) h'
end Go.Proofs.YtfjgnfgadkajnaaGreat
