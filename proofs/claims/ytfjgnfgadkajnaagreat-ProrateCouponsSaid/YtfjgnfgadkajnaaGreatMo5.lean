/- The sum of weights; the closure that gives. -/
import Derived.Test.YtfjgnfgadkajnaaGreatMo4
import Derived.Test.YtfjgnfgadkajnaaGreatSo9
namespace Go.Proofs.YtfjgnfgadkajnaaGreat
open Go Go.RowKit
set_option linter.unusedSimpArgs false
set_option linter.unusedVariables false
set_option linter.deprecated false
def stepT (s w : Int) : Int := if s ≤ 1099511627776 then s + min w 1099511627777 else s
def totR (s : Int) : List Int → Int × Int
  | [] => if s = 0 then (0, 2) else (s, 0)
  | w :: l => if w < 0 then (0, 2) else totR (stepT s w) l
def fTot (l : List Int) : Prop × V := (l.length ≤ 140737488355328, pairV (totR 0 l))
theorem fTot_eq (l : List Int) : gOf aLi fTot [.list (ints l) false] = (l.length ≤ 140737488355328, pairV (totR 0 l)) := gOf_eq aLi_inj l
theorem stepT_bd {s w : Int} (h0 : 0 ≤ s) (h1 : s ≤ 2199023255553) (hw : 0 ≤ w) : 0 ≤ stepT s w ∧ stepT s w ≤ 2199023255553 := by
  unfold stepT; split <;> omega
theorem total_p : PureC Tryz.prog UT 23 (gOf aLi fTot) := by
  have hG := tNo_ok
  refine PureC.ofArgs aLi_inj Tryz.func23 body23 nm23 res23 ?_
  rintro l hv
  refine ⟨by rw [nt23]; simp [aLi], fun C hN Q hQ => ?_⟩
  rw [nt23] at hN
  unfold c23
  replace hv : l.length ≤ 140737488355328 := hv
  refine aw_seq (aw_region (EF := EF0) hG (by rw [hN]; exact tr23_0) ?_)
  simp only [a23_0, go_sem, simprocAttr, aLi, tNo]
  refine aw_seq (aw_region (EF := EF0) hG (by rw [hN]; exact tr23_1) ?_)
  simp only [a23_1, go_sem, simprocAttr, tNo]
  refine aw_seq ?_
  refine aw_seq (aw_region (EF := EF0) hG (by rw [hN]; exact tr23_2) ?_)
  simp only [a23_2, go_sem, simprocAttr, tNo]
  refine aw_block ?_
  refine aw_loop (α := Nat × Int) (fun γ => (γ.1 ≤ l.length) ∧ (totR 0 l = totR γ.2 (l.drop γ.1)) ∧ (0 ≤ γ.2) ∧ (γ.2 ≤ 2199023255553)) (fun γ => ⟨mkE [(4, .int .i64 γ.2), (7, V.list (ints l) false), (8, V.int IntKind.i64 ↑l.length), (9, .int .i64 γ.1)], mkH []⟩) (fun γ => l.length - γ.1) (0, 0) ⟨Nat.zero_le _, rfl, by omega, by omega⟩ ?_ ?_
  · refine Le.mk _ _ ?_ ?_ rfl <;> simp only [go_sem, simprocAttr] <;> (repeat' apply And.intro) <;> (try first | rfl | exact wk_frzb rfl rfl rfl | exact wk_fn rfl | exact .nilo _ _ _ rfl rfl)
  · rintro ⟨i, s⟩ ⟨hi, hs, h0, h1⟩ KL0 hKL0
    try dsimp only at *
    refine aw_seq (aw_region (EF := EF0) hG (by rw [hN]; exact tr23_3) ?_)
    simp only [a23_3, go_sem, simprocAttr, tNo]
    refine aw_seq ?_
    refine aw_cond (b := _) rfl (fun hc3 => ?_) (fun hc3 => ?_)
    · simp only [hcL] at hc3
      refine aw_skip ?_
      try simp only [go_sem, simprocAttr]
      refine aw_seq ?_
      refine aw_block ?_
      have hd := List.drop_eq_getElem_cons hc3
      rw [hd, totR] at hs
      generalize hxx : l[i] = x at hs
      refine aw_seq (aw_region (EF := EF0) hG (by rw [hN]; exact tr23_4) ?_)
      simp only [a23_4, go_sem, simprocAttr, ints_getD _ _ _ hc3, hc3, hxx, tNo]
      (repeat' apply And.intro) <;> (try first | omega | ((fail_if_success refine idW ?_); (fail_if_success refine idS ?_); intros; (repeat' apply And.intro) <;> first | assumption | omega | (simp_all; done)))
      refine aw_seq ?_
      refine aw_seq (aw_region (EF := EF0) hG (by rw [hN]; exact tr23_5) ?_)
      simp only [a23_5, go_sem, simprocAttr, tNo]
      refine aw_cond (b := _) rfl (fun hc5 => ?_) (fun hc5 => ?_)
      · simp only [hcL] at hc5
        refine aw_seq (aw_region (EF := EF0) hG (by rw [hN]; exact tr23_6) ?_)
        simp only [a23_6, go_sem, simprocAttr, tNo]
        refine aw_ret ?_
        show Q _ _
        refine hQ _ _ (.inl rfl) ?_ ?_ ?_ <;> simp only [outφ, outV, AR.res, go_sem, simprocAttr, fTot]
        rw [hs, if_pos hc5]; rfl
      · simp only [hcL] at hc5
        rw [if_neg (by omega)] at hs
        have hbd := stepT_bd (w := x) h0 h1 (by omega)
        refine aw_skip ?_
        try simp only [go_sem, simprocAttr]
        refine aw_seq (aw_region (EF := EF0) hG (by rw [hN]; exact tr23_7) ?_)
        simp only [a23_7, go_sem, simprocAttr, tNo]
        refine aw_cond (b := _) rfl (fun hc7 => ?_) (fun hc7 => ?_)
        · simp only [hcL] at hc7
          have hst : stepT s x = s + min x 1099511627777 := by unfold stepT; rw [if_pos (by omega)]
          refine aw_region (EF := EF0) hG (by rw [hN]; exact tr23_8) ?_
          simp only [a23_8, go_sem, simprocAttr, inI, tNo]
          (repeat' apply And.intro) <;> (try first | omega | ((fail_if_success refine idW ?_); (fail_if_success refine idS ?_); intros; (repeat' apply And.intro) <;> first | assumption | omega | (simp_all; done)))
          refine aw_region (EF := EF0) hG (by rw [hN]; exact tr23_9) ?_
          simp only [a23_9, go_sem, simprocAttr, inI, tNo]
          (repeat' apply And.intro) <;> (try first | omega | ((fail_if_success refine idW ?_); (fail_if_success refine idS ?_); intros; (repeat' apply And.intro) <;> first | assumption | omega | (simp_all; done)))
          refine hKL0 (i + 1, stepT s x) _ ?_ ?_ ?_
          · (try dsimp only); exact ⟨hc3, hs, hbd.1, hbd.2⟩
          · (try dsimp only); omega
          · refine Le.mk _ _ ?_ ?_ rfl <;> simp only [go_sem, simprocAttr, hst] <;> (repeat' apply And.intro) <;> (try first | rfl | exact wk_frzb rfl rfl rfl | exact wk_fn rfl | exact .nilo _ _ _ rfl rfl)
        · simp only [hcL] at hc7
          have hst : stepT s x = s := by unfold stepT; rw [if_neg (by omega)]
          refine aw_skip ?_
          try simp only [go_sem, simprocAttr]
          refine aw_region (EF := EF0) hG (by rw [hN]; exact tr23_9) ?_
          simp only [a23_9, go_sem, simprocAttr, inI, tNo]
          (repeat' apply And.intro) <;> (try first | omega | ((fail_if_success refine idW ?_); (fail_if_success refine idS ?_); intros; (repeat' apply And.intro) <;> first | assumption | omega | (simp_all; done)))
          refine hKL0 (i + 1, stepT s x) _ ?_ ?_ ?_
          · (try dsimp only); exact ⟨hc3, hs, hbd.1, hbd.2⟩
          · (try dsimp only); omega
          · refine Le.mk _ _ ?_ ?_ rfl <;> simp only [go_sem, simprocAttr, hst] <;> (repeat' apply And.intro) <;> (try first | rfl | exact wk_frzb rfl rfl rfl | exact wk_fn rfl | exact .nilo _ _ _ rfl rfl)
    · simp only [hcL] at hc3
      refine aw_exit ?_
      simp only [go_sem, simprocAttr]
      refine aw_seq ?_
      have hie : i = l.length := Nat.le_antisymm hi hc3
      subst hie
      rw [List.drop_length, totR] at hs
      refine aw_seq (aw_region (EF := EF0) hG (by rw [hN]; exact tr23_10) ?_)
      simp only [a23_10, go_sem, simprocAttr, tNo]
      refine aw_cond (b := _) rfl (fun hc10 => ?_) (fun hc10 => ?_)
      · simp only [hcL] at hc10
        refine aw_seq (aw_region (EF := EF0) hG (by rw [hN]; exact tr23_11) ?_)
        simp only [a23_11, go_sem, simprocAttr, tNo]
        refine aw_ret ?_
        show Q _ _
        refine hQ _ _ (.inl rfl) ?_ ?_ ?_ <;> simp only [outφ, outV, AR.res, go_sem, simprocAttr, fTot]
        rw [hs, if_pos hc10]; rfl
      · simp only [hcL] at hc10
        refine aw_skip ?_
        try simp only [go_sem, simprocAttr]
        refine aw_seq (aw_region (EF := EF0) hG (by rw [hN]; exact tr23_12) ?_)
        simp only [a23_12, go_sem, simprocAttr, tNo]
        refine aw_ret ?_
        show Q _ _
        refine hQ _ _ (.inl rfl) ?_ ?_ ?_ <;> simp only [outφ, outV, AR.res, go_sem, simprocAttr, fTot]
        rw [hs, if_neg hc10]; rfl
/-! What is given. -/
def GO (nb na ns nl n : Nat) (sg left : Int) (xs : List Int) : List (Nat × Ob) :=
  [(nb, .box 34 [.own na n]), (na, .arr 3 1 (ints xs)), (ns, .box 3 [.int .i64 sg]), (nl, .box 3 [.int .i64 left])]
theorem give_e (n : Nat) (sg left k : Int) (xs : List Int) (i : Nat) (hn : xs.length = n) (hi : i < xs.length) (h1 : inI (sg * k)) (h2 : inI (xs[i] + sg * k)) (h3 : inI (left - k)) :
    Eff Tryz.prog UT 26 [.int .i64 i, .int .i64 k, .ptr 1000 0, .ptr 1002 0, .ptr 1003 0] (GO 1000 1001 1002 1003 n sg left xs) (.tup []) (GO 1000 1001 1002 1003 n sg (left - k) (xs.set i (xs[i] + sg * k))) := by
  have hG := tNo_ok
  have hi2 : i < n := hn ▸ hi
  have h1u := h1
  have h2u := h2
  have h3u := h3
  unfold inI at h1u h2u h3u
  refine Eff.of_aw Tryz.func26 body26 nm26 res26 (by rw [nt26]; simp) fun C hN Q hQ => ?_
  rw [nt26] at hN
  unfold c26
  refine aw_seq (aw_regionD (EF := EF0) hG mixed (by rw [hN]; exact tr26_0) ok26_0 ?_)
  simp only [a26_0, d26_0, go_sem, simprocAttr, inI, hn, ints_getD _ _ _ hi, ints_set, GO, tNo]
  (repeat' apply And.intro) <;> (try first | omega | ((fail_if_success refine idW ?_); (fail_if_success refine idS ?_); intros; (repeat' apply And.intro) <;> first | assumption | omega | (simp_all; done)))
  refine aw_region (EF := EF0) hG (by rw [hN]; exact tr26_1) ?_
  simp only [a26_1, go_sem, simprocAttr, inI, GO, tNo]
  (repeat' apply And.intro) <;> (try first | omega | ((fail_if_success refine idW ?_); (fail_if_success refine idS ?_); intros; (repeat' apply And.intro) <;> first | assumption | omega | (simp_all; done)))
  show Q _ _
  refine hQ _ _ ⟨mkE [], mkH (GO 1000 1001 1002 1003 n sg (left - k) (xs.set i (xs[i] + sg * k)))⟩ (.inr rfl) (Le.mk _ _ ?_ ?_ rfl) rfl ?_ ?_ <;> simp only [outφ, outV, AR.res, go_sem, simprocAttr, GO]
theorem give_use {dd : Option Nat} {s : St} {K : St → Prop} {n : Nat} {sg left left' k j : Int} {xs xs' : List Int} (i : Nat) (hj : j = i) (hn : xs.length = n) (hi : i < xs.length) (h1 : inI (sg * k)) (h2 : inI (xs[i] + sg * k)) (h3 : inI (left - k)) (hx : xs.set i (xs[i] + sg * k) = xs') (hl : left - k = left')
    (a0 : s.h 10 = some (.box 34 [.own 44 n])) (a1 : s.h 44 = some (.arr 3 1 (ints xs))) (a2 : s.h 9 = some (.box 3 [.int .i64 sg])) (a3 : s.h 8 = some (.box 3 [.int .i64 left]))
    (hK : K ⟨setE dd (.tup []) s.e, hov (GO 10 44 9 8 n sg left' xs') s.h⟩) : EStep Tryz.prog UT dd 26 [.int .i64 j, .int .i64 k, .ptr 10 0, .ptr 9 0, .ptr 8 0] s K := by
  subst hj hx hl
  refine ⟨[(1000, 10), (1001, 44), (1002, 9), (1003, 8)], [], _, _, _, _, give_e n sg left k xs i hn hi h1 h2 h3, ⟨by decide, rfl, rfl, by simp, by simp, ?_, by simp [V.rens, V.ren, rni], by simp [V.nins, V.nin], by simp [V.nin, V.nins], ?_, ?_⟩, ?_⟩
  · intro p hp
    simp only [List.mem_cons, List.not_mem_nil, or_false] at hp
    rcases hp with rfl | rfl | rfl | rfl
    · exact ⟨_, a0, by simp [GO, mkH, Ob.ren, V.rens, V.ren, rni], by simp [Ob.nin, V.nins, V.nin]⟩
    · exact ⟨_, a1, by simp [GO, mkH, Ob.ren], by simp only [Ob.nin, ints_purT]⟩
    · exact ⟨_, a2, by simp [GO, mkH, Ob.ren, V.rens, V.ren], by simp [Ob.nin, V.nins, V.nin]⟩
    · exact ⟨_, a3, by simp [GO, mkH, Ob.ren, V.rens, V.ren], by simp [Ob.nin, V.nins, V.nin]⟩
  · intro q hq
    simp only [GO, List.mem_cons, List.not_mem_nil, or_false] at hq
    rcases hq with rfl | rfl | rfl | rfl
    · simp [Ob.nin, V.nins, V.nin, GO]
    · simp only [Ob.nin, ints_purT]
    · simp [Ob.nin, V.nins, V.nin]
    · simp [Ob.nin, V.nins, V.nin]
  · intro p hp o o' h1 h2
    simp only [List.mem_cons, List.not_mem_nil, or_false] at hp
    rcases hp with rfl | rfl | rfl | rfl <;> simp [GO, mkH] at h1 h2 <;> subst h1 h2 <;> simp [Ob.kind]
  · have e2 : (GO 1000 1001 1002 1003 n sg (left - k) (xs.set i (xs[i] + sg * k))).map (fun q => (rn ([(1000, 10), (1001, 44), (1002, 9), (1003, 8)] ++ []) q.1, q.2.ren (rn ([(1000, 10), (1001, 44), (1002, 9), (1003, 8)] ++ [])))) = GO 10 44 9 8 n sg (left - k) (xs.set i (xs[i] + sg * k)) := by
      simp [GO, rn, Ob.ren, V.rens, V.ren]
    rw [show (V.tup []).ren (rn ([(1000, 10), (1001, 44), (1002, 9), (1003, 8)] ++ [])) = V.tup [] by simp [V.ren, V.rens], e2]
    exact hK
/-- The order's sort under the names of Split. -/
def SP (r : List Int) (n : Nat) (d : List Nat) : List (Nat × Ob) :=
  [(11, .box 84 [.own 47 r.length]), (18, .box 34 [.own 79 n]), (47, .arr 82 1 (urow r)), (79, .arr 3 1 (nrow d))]
theorem sort_use {dd : Option Nat} {s : St} {K : St → Prop} {r : List Int} {n : Nat} (hr : r.length = n) (h1 : 1 ≤ n) (hbig : n ≤ 1000000)
    (a0 : s.h 11 = some (.box 84 [.own 47 n])) (a1 : s.h 18 = some (.box 34 [.own 79 n])) (a2 : s.h 47 = some (.arr 82 1 (urow r))) (a3 : s.h 79 = some (.arr 3 1 (nrow (List.range' 0 n))))
    (hK : K ⟨setE dd (.tup []) s.e, hov (SP r n (msT (fr r) (List.range' 0 n))) s.h⟩) : EStep Tryz.prog UT dd 28 [.iown 34 79 n, .fn 29 [.ptr 11 0, .ptr 18 0]] s K := by
  refine ⟨[(1000, 11), (1001, 18), (1002, 47), (1003, 79)], [], _, _, _, _, stableS_e r n hr h1 hbig, ⟨by decide, rfl, rfl, by simp, by simp, ?_, by simp [V.rens, V.ren, rni], by simp [V.nins, V.nin], by simp [V.nin, V.nins], ?_, ?_⟩, ?_⟩
  · intro p hp
    simp only [List.mem_cons, List.not_mem_nil, or_false] at hp
    rcases hp with rfl | rfl | rfl | rfl
    · exact ⟨_, a0, by simp [SO, mkH, Ob.ren, V.rens, V.ren, rni, hr], by simp [Ob.nin, V.nins, V.nin]⟩
    · exact ⟨_, a1, by simp [SO, mkH, Ob.ren, V.rens, V.ren, rni], by simp [Ob.nin, V.nins, V.nin]⟩
    · exact ⟨_, a2, by simp [SO, mkH, Ob.ren], by simp only [Ob.nin, urow_purT]⟩
    · exact ⟨_, a3, by simp [SO, mkH, Ob.ren], by simp only [Ob.nin, nrow_purT]⟩
  · intro q hq
    simp only [SO, List.mem_cons, List.not_mem_nil, or_false] at hq
    rcases hq with rfl | rfl | rfl | rfl
    · simp [Ob.nin, V.nins, V.nin, SO]
    · simp [Ob.nin, V.nins, V.nin, SO]
    · simp only [Ob.nin, urow_purT]
    · simp only [Ob.nin, nrow_purT]
  · intro p hp o o' h1 h2
    simp only [List.mem_cons, List.not_mem_nil, or_false] at hp
    rcases hp with rfl | rfl | rfl | rfl <;> simp [SO, mkH] at h1 h2 <;> subst h1 h2 <;> simp [Ob.kind]
  · have e2 : (SO r n (msT (fr r) (List.range' 0 n))).map (fun q => (rn ([(1000, 11), (1001, 18), (1002, 47), (1003, 79)] ++ []) q.1, q.2.ren (rn ([(1000, 11), (1001, 18), (1002, 47), (1003, 79)] ++ [])))) = SP r n (msT (fr r) (List.range' 0 n)) := by
      simp [SO, SP, rn, Ob.ren, V.rens, V.ren]
    rw [show (V.tup []).ren (rn ([(1000, 11), (1001, 18), (1002, 47), (1003, 79)] ++ [])) = V.tup [] by simp [V.ren, V.rens], e2]
    exact hK
end Go.Proofs.YtfjgnfgadkajnaaGreat
