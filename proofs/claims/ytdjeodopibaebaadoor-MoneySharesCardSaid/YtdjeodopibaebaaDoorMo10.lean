/- FormatUint at base 10. -/
import Derived.Test.YtdjeodopibaebaaDoorMo9
import Derived.Lib.AppendIntMem
namespace Go.Proofs.YtdjeodopibaebaaDoor
open Go Go.RowKit Go.Sort Go.Lib
set_option linter.unusedSimpArgs false
set_option linter.unusedVariables false
set_option linter.deprecated false
set_option maxHeartbeats 6400000 in
set_option maxRecDepth 100000 in
theorem fmtu_run (u : Nat) (hu64 : u < 18446744073709551616) (w : World) (htab : TabW w) :
    Calls Tryd.prog 49 #[.int .u64 u, .int .i64 10] w fun e w' => e = .returned (.string ⟨(Lib.decDigits u).toArray⟩) ∧ ∃ k os, w' = grow (w.drewN k) os := by
  by_cases hs : u < 100
  · go_enter Tryd.func49, Tryd.ntmps49
    go_wp2_with (go_at_call 62; refine (Tryd.internal_strconv_small u hs _).mono ?_; rintro e w' ⟨rfl, rfl⟩)
    go_ret
    exact ⟨rfl, 0, #[], by simp [World.drewN_zero]⟩
  · have hu1 : 1 ≤ u := by omega
    have hnd20 : Lib.nDigits u ≤ 20 := by have := Lib.numDigits_eq u hu1 hu64; split at this <;> omega
    have hb3 : Lib.nDigits u ≤ 24 := by omega
    have hal : Tryd.prog.arrayLen 78 = 24 := by kernel_rfl
    have hsl1 : ∀ W, (Instr.sliceAt 78 (.pointer (some ⟨w.heap.size, 0, none⟩)) none (some (.int .i64 (Lib.nDigits u : Int))) none).run Tryd.prog W = .ok (.slice (some ⟨w.heap.size, 0, none⟩) (Lib.nDigits u) 24) W := fun W => by
      rw [run_sliceAt_array_h W 78 ⟨w.heap.size, 0, none⟩ (by kernel_rfl) .i64 (Lib.nDigits u : Int) (by omega) (by rw [hal]; omega)]
      go_simp
    have hH0 := Lib.holds_zero0 w 78 (Lib.nDigits u) (by omega)
    have hfmt := Tryd.internal_strconv_formatBase10 w.heap.size 0 24 u (Array.replicate (Lib.nDigits u) 0) (w.alloc (.cells Lib.zeros24 78)) hH0 (by rw [Array.size_replicate]; exact Lib.lt_pow_nDigits u) hu64 (by rw [Array.size_replicate]; omega)
    rw [Array.size_replicate] at hfmt
    have HH0 := Lib.hid hH0
    clear hH0 hal
    go_enter Tryd.func49, Tryd.ntmps49
    go_wp2_with (first
      | (go_at_call 63; refine (Tryd.internal_strconv_numDigits u hu1 hu64 _ (Lib.tabIs_alloc htab _)).mono ?_; rintro e w' ⟨rfl, rfl⟩))
    go_at_call 64
    refine hfmt.mono ?_
    rintro e w' ⟨rfl, k, v', dk, rfl, hF⟩
    have hcv : (convert 54 9 (.slice (some ⟨w.heap.size, 0, none⟩) (Lib.nDigits u) 24)).run Tryd.prog ((putRow (fun (b : UInt8) => Value.int .u8 (b.toNat : Int)) (w.alloc (.cells Lib.zeros24 78)) w.heap.size 0 dk).drewN k) = .ok (.string ⟨(Lib.decDigits u).toArray⟩) ((putRow (fun (b : UInt8) => Value.int .u8 (b.toNat : Int)) (w.alloc (.cells Lib.zeros24 78)) w.heap.size 0 dk).drewN k) := by
      have h := run_convert_bytes_back (P := Tryd.prog) ((putRow (fun (b : UInt8) => Value.int .u8 (b.toNat : Int)) (w.alloc (.cells Lib.zeros24 78)) w.heap.size 0 dk).drewN k) 54 9 5 ⟨w.heap.size, 0, none⟩ 24 (Lib.decDigits u) (by kernel_rfl) (by kernel_rfl) (by kernel_rfl) (fun j hj => by
        rw [Lib.row_is_numeral hF j hj, Lib.add_plain, World.cell?_drewN]
        exact cell?_putRow (fun (b : UInt8) => Value.int .u8 (b.toNat : Int)) _ w.heap.size 0 _ dk HH0.out (by rw [hF.size, Array.size_replicate]) j (by rw [hF.size]; rw [Lib.decDigits_length] at hj; exact hj))
      rw [Lib.decDigits_length] at h
      exact h
    go_wp2
    go_ret
    obtain ⟨os', _, e⟩ := putRow_grow_new (fun (b : UInt8) => Value.int .u8 (b.toNat : Int)) w #[.cells Lib.zeros24 78] w.heap.size 0 dk (Nat.le_refl _)
    exact ⟨rfl, k, os', by rw [alloc_eq_grow, e]; rfl⟩
def gFmtU : List V → Prop × V
  | [.int .u64 n, .int .i64 b] => (0 ≤ n ∧ n < u64m ∧ b = 10, .str (Lib.decDigits n.toNat))
  | _ => (False, .any)
theorem fmtuI_p : PureC Tryd.prog UT 49 gFmtU := by
  refine PureC.leaf Tryd.func49 (by kernel_rfl : Tryd.f49.body = some ((Tryd.f49.body).getD .skip)) (by kernel_rfl) fun vs M w cargs hv hB hs ha => ?_
  match vs, hv, hs, ha with
  | [.int .u64 n, .int .i64 b], hv, hs, ha =>
  have h0 := (ha 0 _ rfl).int_inv
  have h2 := (ha 1 _ rfl).int_inv
  have h1 := args_two hs
  rw [h0, h2] at h1
  rw [h1]
  obtain ⟨h3, h4, rfl⟩ : 0 ≤ n ∧ n < u64m ∧ b = 10 := hv
  unfold u64m at h4
  obtain ⟨n, rfl⟩ := Int.eq_ofNat_of_zero_le h3
  refine (fmtu_run n (by omega) w hB).mono ?_
  rintro e w' ⟨he, k, os, hw⟩
  exact ⟨_, he, fun M' => .str _, by rw [hw]; exact below_growDrew⟩
noncomputable def tFmt : Tab
  | 49 => gFmtU
  | _ => gNo
theorem tFmt_ok : ∀ f, PureC Tryd.prog UT f (tFmt f) := fun f => by
  unfold tFmt
  split
  · exact fmtuI_p
  · exact PureC.no
theorem fmtu_p : PureC Tryd.prog UT 41 gFmtU := by
  have hG := tFmt_ok
  refine PureC.of_awQ Tryd.func41 body41 nm41 res41 fun vs hv => ?_
  match vs, hv with
  | [.int .u64 n, .int .i64 b], hv =>
  obtain ⟨h3, h4, rfl⟩ : 0 ≤ n ∧ n < u64m ∧ b = 10 := hv
  refine ⟨by rw [nt41]; simp, fun C hN Q hQ => ?_⟩
  rw [nt41] at hN
  unfold c41
  refine aw_seq (aw_region (EF := EF0) hG (by rw [hN]; exact tr41_0) ?_)
  simp only [a41_0, go_sem, ↓reduceIte, Nat.reduceEqDiff, reduceCtorEq, Nat.reduceAdd, Nat.reduceLT, Nat.reduceLeDiff, Nat.reduceBNe, Nat.reduceBEq, Int.reduceToNat]
  refine aw_seq (aw_region (EF := EF0) hG (by rw [hN]; exact tr41_1) ?_)
  simp only [a41_1, go_sem, ↓reduceIte, Nat.reduceEqDiff, reduceCtorEq, Nat.reduceAdd, Nat.reduceLT, Nat.reduceLeDiff, Nat.reduceBNe, Nat.reduceBEq, Int.reduceToNat, tFmt, gFmtU, h3, h4]
  (repeat' apply And.intro) <;> (try first | omega | ((fail_if_success (refine (id : AW _ _ _ _ _ → AW _ _ _ _ _) ?_)); (fail_if_success (refine (id : EStep _ _ _ _ _ _ _ → EStep _ _ _ _ _ _ _) ?_)); intros; (repeat' apply And.intro) <;> first | assumption | omega | (simp_all; done)))
  refine aw_ret ?_
  show Q _ _
  refine hQ _ _ (.inl rfl) ?_ ?_ ?_ <;> simp only [outφ, outV, AR.res, go_sem, ↓reduceIte, Nat.reduceEqDiff, reduceCtorEq, Nat.reduceAdd, Nat.reduceLT, Nat.reduceLeDiff, Nat.reduceBNe, Nat.reduceBEq, Int.reduceToNat, gFmtU]
end Go.Proofs.YtdjeodopibaebaaDoor
