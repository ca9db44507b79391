/- The whole stable sort. -/
import Derived.Test.YtfjgnfgadkajnaaGreatSo7
namespace Go.Proofs.YtfjgnfgadkajnaaGreat
open Go Go.RowKit
set_option linter.unusedSimpArgs false
set_option linter.unusedVariables false
set_option linter.deprecated false
theorem ins_any_e (r : List Int) (n : Nat) (A B L : List Nat) (hinc : L.Pairwise (· < ·)) (hm : ∀ k ∈ A ++ (L ++ B), k < r.length) (hn : (A ++ (L ++ B)).length = n) (hbig : n ≤ 1000000) {a b : Int} (ha : a = A.length) (hb : b = (A.length + L.length : Nat)) :
    Eff Tryz.prog UT 74 [DD n, .int .i64 a, .int .i64 b] (SO r n (A ++ (L ++ B))) (.tup []) (SO r n (A ++ (msT (fr r) L ++ B))) := by
  rcases Nat.eq_zero_or_pos L.length with h | h
  · obtain rfl := List.eq_nil_of_length_eq_zero h
    have e : b = a := by rw [hb, ha, List.length_nil]; omega
    subst e
    have hl := hn
    simp only [List.length_append, List.length_nil] at hl
    exact ins_nil_e r n (A ++ ([] ++ B)) hbig (by omega) (by omega)
  · exact ins_e r n A B L h hinc hm hn hbig ha hb
section
variable {f : Nat → Int}
theorem rng_nodup (s n : Nat) : (List.range' s n).Nodup := List.nodup_range'
theorem rng_mem {s n k : Nat} (h : k ∈ List.range' s n) : s ≤ k ∧ k < s + n := by
  rw [List.mem_range'_1] at h; exact h
theorem rng_split {s n m : Nat} (h : m ≤ n) : List.range' s n = List.range' s m ++ List.range' (s + m) (n - m) := by
  have := List.range'_append (s := s) (m := m) (n := n - m) (step := 1)
  rw [show m + (n - m) = n by omega] at this
  rw [← this]; simp
theorem chR_perm (bs s n : Nat) (hb : 0 < bs) : (chR f bs s n).Perm (List.range' s n) := by
  induction n using Nat.strongRecOn generalizing s with
  | ind n ih =>
    rcases Nat.lt_or_ge bs n with h | h
    · rw [chR_gt hb h, rng_split (s := s) (n := n) (m := bs) (by omega)]
      exact (msT_perm _).append (ih (n - bs) (by omega) (s + bs))
    · rw [chR_le h]; exact msT_perm _
theorem two_blocks (a m k : Nat) : msT f (msT f (List.range' a m) ++ msT f (List.range' (a + m) k)) = msT f (List.range' a (m + k)) := by
  refine msT_perm_eq ?_ (rng_nodup _ _)
  rw [rng_split (s := a) (n := m + k) (m := m) (by omega), show m + k - m = k by omega]
  exact (msT_perm _).append (msT_perm _)
theorem mok_rng {r : List Int} {n a m k : Nat} {D B : List Nat} (hm : 0 < m) (hk : 0 < k) (hmem : ∀ x ∈ D ++ (List.range' a (m + k) ++ B), x < r.length) (hlen : (D ++ (List.range' a (m + k) ++ B)).length = n) :
    MrgOk r n D (msT (fr r) (List.range' a m)) (msT (fr r) (List.range' (a + m) k)) B := by
  refine ⟨by rw [msT_len, List.length_range']; exact hm, by rw [msT_len, List.length_range']; exact hk, msT_sort (rng_nodup _ _), msT_sort (rng_nodup _ _), fun x hx y hy => ?_, fun x hx => hmem x ?_, ?_⟩
  · have h1 := rng_mem ((msT_perm _).mem_iff.1 hx)
    have h2 := rng_mem ((msT_perm _).mem_iff.1 hy)
    omega
  · rw [rng_split (s := a) (n := m + k) (m := m) (by omega), show m + k - m = k by omega]
    simp only [List.mem_append, (msT_perm _).mem_iff] at hx ⊢
    rcases hx with h | h | h | h <;> simp [h]
  · rw [← hlen]; simp only [List.length_append, msT_len, List.length_range']; omega
end
theorem rng_inc (s k : Nat) : (List.range' s k).Pairwise (· < ·) := List.pairwise_lt_range'
theorem rng_ok {r : List Int} {n : Nat} {l : List Nat} (hr : r.length = n) (hp : l.Perm (List.range' 0 n)) : (∀ k ∈ l, k < r.length) ∧ l.length = n :=
  ⟨fun k hk => by have := rng_mem (hp.mem_iff.1 hk); omega, by rw [hp.length_eq, List.length_range']⟩
set_option maxHeartbeats 4000000 in
theorem stable_e (r : List Int) (n : Nat) (hr : r.length = n) (hbig : n ≤ 1000000) :
    Eff Tryz.prog UT 54 [DD n, .int .i64 n] (SO r n (List.range' 0 n)) (.tup []) (SO r n (msT (fr r) (List.range' 0 n))) := by
  have hG := tNo_ok
  refine Eff.of_aw Tryz.func54 body54 nm54 res54 (by rw [nt54]; simp) fun C hN Q hQ => ?_
  rw [nt54] at hN
  unfold c54
  refine aw_seq (aw_region (EF := EFs) hG (by rw [hN]; exact tr54_0) ?_)
  simp only [a54_0, go_sem, simprocAttr, EFs, tNo, SO, DD]
  refine aw_seq (aw_region (EF := EFs) hG (by rw [hN]; exact tr54_1) ?_)
  simp only [a54_1, go_sem, simprocAttr, EFs, tNo, SO, DD]
  refine aw_seq (aw_region (EF := EFs) hG (by rw [hN]; exact tr54_2) ?_)
  simp only [a54_2, go_sem, simprocAttr, EFs, tNo, SO, DD]
  refine aw_seq ?_
  refine aw_block ?_
  refine aw_loop (α := (List Nat)) (fun E => (E ++ chR (fr r) 20 E.length (n - E.length) = chR (fr r) 20 0 n) ∧ (E.length ≤ n) ∧ ((E ++ List.range' E.length (n - E.length)).Perm (List.range' 0 n))) (fun E => ⟨mkE [(1, V.int IntKind.i64 ↑n), (2, V.ptr 2 0), (4, V.int IntKind.i64 20), (5, .int .i64 E.length), (6, .int .i64 ((E.length : Int) + 20))], mkH [(2, Ob.box 126 [V.fn 29 [V.ptr 1000 0, V.ptr 1001 0], V.fn 69 [V.own 1003 n, V.pin hdl]]), (1000, Ob.box 84 [V.own 1002 r.length]), (1001, Ob.box 34 [V.own 1003 n]), (1002, Ob.arr 82 1 (urow r)), (1003, .arr 3 1 (nrow (E ++ List.range' E.length (n - E.length))))]⟩) (fun E => n - E.length) ([]) ⟨rfl, Nat.zero_le _, .refl _⟩ ?_ ?_
  · refine Le.mk _ _ ?_ ?_ rfl <;> simp only [go_sem, simprocAttr, List.length_nil, List.nil_append, Nat.sub_zero] <;> (repeat' apply And.intro) <;> (try first | rfl | exact wk_frzb rfl rfl rfl | exact wk_fn rfl | exact .nilo _ _ _ rfl rfl)
  · rintro E ⟨h1, h2, h3⟩ KL0 hKL0
    try dsimp only at *
    refine aw_seq ?_
    refine aw_seq (aw_region (EF := EFs) hG (by rw [hN]; exact tr54_3) ?_)
    simp only [a54_3, go_sem, simprocAttr, EFs, tNo, SO, DD]
    refine aw_cond (b := _) rfl (fun hc3 => ?_) (fun hc3 => ?_)
    · simp only [hcL] at hc3
      refine aw_skip ?_
      try simp only [go_sem, simprocAttr]
      refine aw_block ?_
      have hs := rng_split (s := E.length) (n := n - E.length) (m := 20) (by omega)
      rw [hs] at h3
      obtain ⟨m1, m2⟩ := rng_ok hr h3
      refine aw_seq (aw_region (EF := EFs) hG (by rw [hN]; exact tr54_4) ?_)
      simp only [a54_4, go_sem, simprocAttr, EFs, tNo, SO, DD]
      refine fn_u (ins_any_e r n E (List.range' (E.length + 20) (n - E.length - 20)) (List.range' E.length 20) (rng_inc _ _) m1 m2 hbig ?_ ?_) (by simp [V.rens, V.ren]) (by simp [V.nins, V.nin]) rfl rfl rfl ?_ ?_
      · rfl
      · rw [List.length_range']; omega
      · rw [hs]; rfl
      simp only [go_sem, simprocAttr, EFs, SO]
      have hel : (E ++ msT (fr r) (List.range' E.length 20)).length = E.length + 20 := by rw [List.length_append, msT_len, List.length_range']
      refine aw_seq (aw_region (EF := EFs) hG (by rw [hN]; exact tr54_5) ?_)
      simp only [a54_5, go_sem, simprocAttr, EFs, tNo, SO, DD]
      refine aw_region (EF := EFs) hG (by rw [hN]; exact tr54_6) ?_
      simp only [a54_6, go_sem, simprocAttr, inI, EFs, tNo, SO, DD]
      refine ⟨⟨by omega, by omega⟩, ?_⟩
      refine hKL0 (E ++ msT (fr r) (List.range' E.length 20)) _ ?_ ?_ ?_
      · (try dsimp only); (rw [hel]; exact ⟨by rw [← h1, chR_ge (by omega) (show 20 ≤ n - E.length by omega), List.append_assoc, show n - (E.length + 20) = n - E.length - 20 by omega], by omega, by rw [List.append_assoc, show n - (E.length + 20) = n - E.length - 20 by omega]; exact (List.Perm.append_left E ((msT_perm _).append_right _)).trans h3⟩)
      · (try dsimp only); omega
      · refine Le.mk _ _ ?_ ?_ rfl <;> simp only [go_sem, simprocAttr, hel, List.append_assoc, Nat.sub_add_eq] <;> (repeat' apply And.intro) <;> (try first | rfl | exact wk_frzb rfl rfl rfl | exact wk_fn rfl | exact .nilo _ _ _ rfl rfl)
        all_goals (try omega)
    · simp only [hcL] at hc3
      refine aw_exit ?_
      simp only [go_sem, simprocAttr]
      obtain ⟨m1, m2⟩ := rng_ok hr h3
      have hrow : E ++ msT (fr r) (List.range' E.length (n - E.length)) = chR (fr r) 20 0 n := by rw [← h1, chR_le (by omega)]
      refine aw_seq (aw_region (EF := EFs) hG (by rw [hN]; exact tr54_7) ?_)
      simp only [a54_7, go_sem, simprocAttr, EFs, tNo, SO, DD]
      refine fn_u (ins_any_e r n E [] (List.range' E.length (n - E.length)) (rng_inc _ _) (by rw [List.append_nil]; exact m1) (by rw [List.append_nil]; exact m2) hbig ?_ ?_) (by simp [V.rens, V.ren]) (by simp [V.nins, V.nin]) rfl rfl rfl ?_ ?_
      · rfl
      · rw [List.length_range']; omega
      · rw [List.append_nil]; rfl
      simp only [go_sem, simprocAttr, EFs, SO]
      refine aw_block ?_
      refine aw_loop (α := Nat) (fun bs => (20 ≤ bs) ∧ (bs ≤ 2 * n + 40)) (fun bs => ⟨mkE [(1, V.int IntKind.i64 ↑n), (2, V.ptr 2 0), (4, .int .i64 bs)], mkH [(2, Ob.box 126 [V.fn 29 [V.ptr 1000 0, V.ptr 1001 0], V.fn 69 [V.own 1003 n, V.pin hdl]]), (1000, Ob.box 84 [V.own 1002 r.length]), (1001, Ob.box 34 [V.own 1003 n]), (1002, Ob.arr 82 1 (urow r)), (1003, .arr 3 1 (nrow (chR (fr r) bs 0 n)))]⟩) (fun bs => 2 * n + 40 - bs) 20 ⟨Nat.le_refl _, by omega⟩ ?_ ?_
      · refine Le.mk _ _ ?_ ?_ rfl <;> simp only [go_sem, simprocAttr, List.append_nil, hrow] <;> (repeat' apply And.intro) <;> (try first | rfl | exact wk_frzb rfl rfl rfl | exact wk_fn rfl | exact .nilo _ _ _ rfl rfl)
      · rintro bs ⟨b1, b2⟩ KL2 hKL2
        try dsimp only at *
        refine aw_seq ?_
        refine aw_seq (aw_region (EF := EFs) hG (by rw [hN]; exact tr54_8) ?_)
        simp only [a54_8, go_sem, simprocAttr, EFs, tNo, SO, DD]
        refine aw_cond (b := _) rfl (fun hc8 => ?_) (fun hc8 => ?_)
        · simp only [hcL] at hc8
          refine aw_skip ?_
          try simp only [go_sem, simprocAttr]
          refine aw_block ?_
          refine aw_seq (aw_region (EF := EFs) hG (by rw [hN]; exact tr54_9) ?_)
          simp only [a54_9, go_sem, simprocAttr, inI, EFs, tNo, SO, DD]
          (repeat' apply And.intro) <;> (try first | omega | ((fail_if_success refine idW ?_); (fail_if_success refine idS ?_); intros; (repeat' apply And.intro) <;> first | assumption | omega | (simp_all; done)))
          refine aw_seq ?_
          refine aw_block ?_
          refine aw_loop (α := (List Nat)) (fun E => (E ++ chR (fr r) (2 * bs) E.length (n - E.length) = chR (fr r) (2 * bs) 0 n) ∧ (E.length ≤ n) ∧ ((E ++ List.range' E.length (n - E.length)).Perm (List.range' 0 n))) (fun E => ⟨mkE [(1, V.int IntKind.i64 ↑n), (2, V.ptr 2 0), (4, V.int IntKind.i64 ↑bs), (5, .int .i64 E.length), (6, .int .i64 ((E.length : Int) + 2 * (bs : Int)))], mkH [(2, Ob.box 126 [V.fn 29 [V.ptr 1000 0, V.ptr 1001 0], V.fn 69 [V.own 1003 n, V.pin hdl]]), (1000, Ob.box 84 [V.own 1002 r.length]), (1001, Ob.box 34 [V.own 1003 n]), (1002, Ob.arr 82 1 (urow r)), (1003, .arr 3 1 (nrow (E ++ chR (fr r) bs E.length (n - E.length))))]⟩) (fun E => n - E.length) ([]) ⟨rfl, Nat.zero_le _, .refl _⟩ ?_ ?_
          · refine Le.mk _ _ ?_ ?_ rfl <;> simp only [go_sem, simprocAttr, List.length_nil, List.nil_append, Nat.sub_zero] <;> (repeat' apply And.intro) <;> (try first | rfl | exact wk_frzb rfl rfl rfl | exact wk_fn rfl | exact .nilo _ _ _ rfl rfl)
            all_goals (try omega)
          · rintro E ⟨h1, h2, h3⟩ KL4 hKL4
            try dsimp only at *
            refine aw_seq ?_
            refine aw_seq (aw_region (EF := EFs) hG (by rw [hN]; exact tr54_10) ?_)
            simp only [a54_10, go_sem, simprocAttr, EFs, tNo, SO, DD]
            refine aw_cond (b := _) rfl (fun hc10 => ?_) (fun hc10 => ?_)
            · simp only [hcL] at hc10
              refine aw_skip ?_
              try simp only [go_sem, simprocAttr]
              refine aw_block ?_
              have hs := rng_split (s := E.length) (n := n - E.length) (m := 2 * bs) (by omega)
              rw [hs] at h3
              obtain ⟨m1, m2⟩ := rng_ok hr h3
              have hc1 : chR (fr r) bs E.length (n - E.length) = msT (fr r) (List.range' E.length bs) ++ (msT (fr r) (List.range' (E.length + bs) bs) ++ chR (fr r) bs (E.length + 2 * bs) (n - E.length - 2 * bs)) := by rw [chR_ge (by omega) (show bs ≤ n - E.length by omega), chR_ge (by omega) (show bs ≤ n - E.length - bs by omega), show E.length + bs + bs = E.length + 2 * bs by omega, show n - E.length - bs - bs = n - E.length - 2 * bs by omega]
              have hpB := chR_perm (f := fr r) bs (E.length + 2 * bs) (n - E.length - 2 * bs) (by omega)
              have hok := mok_rng (r := r) (n := n) (a := E.length) (m := bs) (k := bs) (D := E) (B := chR (fr r) bs (E.length + 2 * bs) (n - E.length - 2 * bs)) (by omega) (by omega) (fun x hx => m1 x (by rw [show bs + bs = 2 * bs by omega] at hx; exact (List.Perm.append_left E (List.Perm.append_left _ hpB)).mem_iff.1 hx)) (by have m3 := m2; simp only [List.length_append, chR_len, List.length_range'] at m3 ⊢; omega)
              have htb := two_blocks (f := fr r) E.length bs bs
              rw [show bs + bs = 2 * bs by omega] at htb
              refine aw_seq (aw_region (EF := EFs) hG (by rw [hN]; exact tr54_11) ?_)
              simp only [a54_11, go_sem, simprocAttr, inI, EFs, tNo, SO, DD]
              refine ⟨⟨by omega, by omega⟩, ?_⟩
              refine fn_u (sym_e r n hbig _ _ _ _ _ (Nat.le_refl _) hok _ _ _ ?_ ?_ ?_) (by simp [V.rens, V.ren]) (by simp [V.nins, V.nin]) rfl rfl rfl ?_ ?_
              · rfl
              · rw [msT_len, List.length_range']; omega
              · rw [msT_len, msT_len, List.length_range', List.length_range']; omega
              · rw [hc1]; rfl
              simp only [go_sem, simprocAttr, EFs, SO, htb]
              have hel : (E ++ msT (fr r) (List.range' E.length (2 * bs))).length = E.length + 2 * bs := by rw [List.length_append, msT_len, List.length_range']
              refine aw_seq (aw_region (EF := EFs) hG (by rw [hN]; exact tr54_12) ?_)
              simp only [a54_12, go_sem, simprocAttr, EFs, tNo, SO, DD]
              refine aw_region (EF := EFs) hG (by rw [hN]; exact tr54_13) ?_
              simp only [a54_13, go_sem, simprocAttr, inI, EFs, tNo, SO, DD]
              refine ⟨⟨by omega, by omega⟩, ⟨by omega, by omega⟩, ?_⟩
              refine hKL4 (E ++ msT (fr r) (List.range' E.length (2 * bs))) _ ?_ ?_ ?_
              · (try dsimp only); (rw [hel]; exact ⟨by rw [← h1, chR_ge (by omega) (show 2 * bs ≤ n - E.length by omega), List.append_assoc, show n - (E.length + 2 * bs) = n - E.length - 2 * bs by omega], by omega, by rw [List.append_assoc, show n - (E.length + 2 * bs) = n - E.length - 2 * bs by omega]; exact (List.Perm.append_left E ((msT_perm _).append_right _)).trans h3⟩)
              · (try dsimp only); omega
              · refine Le.mk _ _ ?_ ?_ rfl <;> simp only [go_sem, simprocAttr, hel, List.append_assoc, Nat.sub_add_eq] <;> (repeat' apply And.intro) <;> (try first | rfl | exact wk_frzb rfl rfl rfl | exact wk_fn rfl | exact .nilo _ _ _ rfl rfl)
                all_goals (try omega)
            · simp only [hcL] at hc10
              refine aw_exit ?_
              simp only [go_sem, simprocAttr]
              refine aw_cut (α := Unit) (fun u => (True)) (fun u => ⟨mkE [(1, V.int IntKind.i64 ↑n), (2, V.ptr 2 0), (4, V.int IntKind.i64 ↑bs)], mkH [(2, Ob.box 126 [V.fn 29 [V.ptr 1000 0, V.ptr 1001 0], V.fn 69 [V.own 1003 n, V.pin hdl]]), (1000, Ob.box 84 [V.own 1002 r.length]), (1001, Ob.box 34 [V.own 1003 n]), (1002, Ob.arr 82 1 (urow r)), (1003, .arr 3 1 (nrow (chR (fr r) (2 * bs) 0 n)))]⟩) ?_ ?_
              · intro KC15 hKC15
                have hle : E ++ msT (fr r) (List.range' E.length (n - E.length)) = chR (fr r) (2 * bs) 0 n := by rw [← h1, chR_le (show n - E.length ≤ 2 * bs by omega)]
                refine aw_seq (aw_region (EF := EFs) hG (by rw [hN]; exact tr54_14) ?_)
                simp only [a54_14, go_sem, simprocAttr, inI, EFs, tNo, SO, DD]
                (repeat' apply And.intro) <;> (try first | omega | ((fail_if_success refine idW ?_); (fail_if_success refine idS ?_); intros; (repeat' apply And.intro) <;> first | assumption | omega | (simp_all; done)))
                refine aw_seq (aw_region (EF := EFs) hG (by rw [hN]; exact tr54_15) ?_)
                simp only [a54_15, go_sem, simprocAttr, EFs, tNo, SO, DD]
                refine aw_cond (b := _) rfl (fun hc15 => ?_) (fun hc15 => ?_)
                · simp only [hcL] at hc15
                  obtain ⟨m1, m2⟩ := rng_ok hr h3
                  have hc1 : chR (fr r) bs E.length (n - E.length) = msT (fr r) (List.range' E.length bs) ++ msT (fr r) (List.range' (E.length + bs) (n - E.length - bs)) := by rw [chR_gt (by omega) (by omega), chR_le (show n - E.length - bs ≤ bs by omega)]
                  have hok := mok_rng (r := r) (n := n) (a := E.length) (m := bs) (k := n - E.length - bs) (D := E) (B := []) (by omega) (by omega) (fun x hx => m1 x (by rw [List.append_nil, show bs + (n - E.length - bs) = n - E.length by omega] at hx; exact hx)) (by rw [List.append_nil, show bs + (n - E.length - bs) = n - E.length by omega]; exact m2)
                  have htb := two_blocks (f := fr r) E.length bs (n - E.length - bs)
                  rw [show bs + (n - E.length - bs) = n - E.length by omega] at htb
                  refine aw_region (EF := EFs) hG (by rw [hN]; exact tr54_16) ?_
                  simp only [a54_16, go_sem, simprocAttr, EFs, tNo, SO, DD]
                  refine fn_u (sym_e r n hbig _ _ _ _ _ (Nat.le_refl _) hok _ _ _ ?_ ?_ ?_) (by simp [V.rens, V.ren]) (by simp [V.nins, V.nin]) rfl rfl rfl ?_ ?_
                  · rfl
                  · rw [msT_len, List.length_range']; omega
                  · rw [msT_len, msT_len, List.length_range', List.length_range']; omega
                  · rw [hc1, List.append_nil]; rfl
                  simp only [go_sem, simprocAttr, EFs, SO, htb, hle, List.append_nil]
                  refine hKC15 (()) _ ?_ ?_
                  · (try dsimp only); try trivial
                  · refine Le.mk _ _ ?_ ?_ rfl <;> simp only [go_sem, simprocAttr] <;> (repeat' apply And.intro) <;> (try first | rfl | exact wk_frzb rfl rfl rfl | exact wk_fn rfl | exact .nilo _ _ _ rfl rfl)
                · simp only [hcL] at hc15
                  have hc2 : chR (fr r) bs E.length (n - E.length) = msT (fr r) (List.range' E.length (n - E.length)) := chR_le (by omega)
                  refine aw_skip ?_
                  try simp only [go_sem, simprocAttr]
                  refine hKC15 (()) _ ?_ ?_
                  · (try dsimp only); try trivial
                  · refine Le.mk _ _ ?_ ?_ rfl <;> simp only [go_sem, simprocAttr, hc2, hle] <;> (repeat' apply And.intro) <;> (try first | rfl | exact wk_frzb rfl rfl rfl | exact wk_fn rfl | exact .nilo _ _ _ rfl rfl)
              · rintro u k0
                refine aw_region (EF := EFs) hG (by rw [hN]; exact tr54_17) ?_
                simp only [a54_17, go_sem, simprocAttr, inI, EFs, tNo, SO, DD]
                (repeat' apply And.intro) <;> (try first | omega | ((fail_if_success refine idW ?_); (fail_if_success refine idS ?_); intros; (repeat' apply And.intro) <;> first | assumption | omega | (simp_all; done)))
                refine hKL2 (2 * bs) _ ?_ ?_ ?_
                · (try dsimp only); exact ⟨by omega, by omega⟩
                · (try dsimp only); omega
                · refine Le.mk _ _ ?_ ?_ rfl <;> simp only [go_sem, simprocAttr] <;> (repeat' apply And.intro) <;> (try first | rfl | exact wk_frzb rfl rfl rfl | exact wk_fn rfl | exact .nilo _ _ _ rfl rfl)
                  all_goals (try omega)
        · simp only [hcL] at hc8
          have hend : chR (fr r) bs 0 n = msT (fr r) (List.range' 0 n) := chR_le (by omega)
          refine aw_exit ?_
          simp only [go_sem, simprocAttr]
          show Q _ _
          refine hQ _ _ ⟨mkE [], mkH (SO r n (msT (fr r) (List.range' 0 n)))⟩ (.inr rfl) (Le.mk _ _ ?_ ?_ rfl) rfl ?_ ?_ <;> simp only [outφ, outV, AR.res, go_sem, simprocAttr, SO, hend]
end Go.Proofs.YtfjgnfgadkajnaaGreat
