/- Sorting by insertion where nothing is. -/
import Derived.Test.YtfjgnfgadkajnaaGreatSo5
namespace Go.Proofs.YtfjgnfgadkajnaaGreat
open Go Go.RowKit
set_option linter.unusedSimpArgs false
set_option linter.unusedVariables false
set_option linter.deprecated false
theorem ins_nil_e (r : List Int) (n : Nat) (d : List Nat) (hbig : n ≤ 1000000) {a : Int} (h0 : 0 ≤ a) (ha : a ≤ 1000000) :
    Eff Tryz.prog UT 74 [DD n, .int .i64 a, .int .i64 a] (SO r n d) (.tup []) (SO r n d) := by
  have hG := tNo_ok
  have hlt : (a + 1 < a) = False := eq_false (by omega)
  refine Eff.of_aw Tryz.func74 body74 nm74 res74 (by rw [nt74]; simp) fun C hN Q hQ => ?_
  rw [nt74] at hN
  unfold c74
  refine aw_seq (aw_region (EF := EFs) hG (by rw [hN]; exact tr74_0) ?_)
  simp only [a74_0, go_sem, simprocAttr, EFs, tNo, SO, DD]
  refine aw_seq (aw_region (EF := EFs) hG (by rw [hN]; exact tr74_1) ?_)
  simp only [a74_1, go_sem, simprocAttr, inI, EFs, tNo, SO, DD]
  (repeat' apply And.intro) <;> (try first | omega | ((fail_if_success refine idW ?_); (fail_if_success refine idS ?_); intros; (repeat' apply And.intro) <;> first | assumption | omega | (simp_all; done)))
  refine aw_block ?_
  refine aw_loop (α := Unit) (fun u => (True)) (fun u => ⟨mkE [(1, V.int IntKind.i64 a), (2, V.int IntKind.i64 a), (3, V.ptr 3 0), (6, V.int IntKind.i64 (a + 1))], mkH [(3, Ob.box 126 [V.fn 29 [V.ptr 1000 0, V.ptr 1001 0], V.fn 69 [V.own 1003 n, V.pin hdl]]), (1000, Ob.box 84 [V.own 1002 r.length]), (1001, Ob.box 34 [V.own 1003 n]), (1002, Ob.arr 82 1 (urow r)), (1003, Ob.arr 3 1 (nrow d))]⟩) (fun u => 0) (()) trivial ?_ ?_
  · refine Le.mk _ _ ?_ ?_ rfl <;> simp only [go_sem, simprocAttr] <;> (repeat' apply And.intro) <;> (try first | rfl | exact wk_frzb rfl rfl rfl | exact wk_fn rfl | exact .nilo _ _ _ rfl rfl)
  · rintro u hu KL0 hKL0
    try dsimp only at *
    refine aw_seq ?_
    refine aw_seq (aw_region (EF := EFs) hG (by rw [hN]; exact tr74_2) ?_)
    simp only [a74_2, go_sem, simprocAttr, hlt, EFs, tNo, SO, DD]
    refine aw_condF rfl ?_
    refine aw_exit ?_
    simp only [go_sem, simprocAttr]
    show Q _ _
    refine hQ _ _ ⟨mkE [], mkH (SO r n d)⟩ (.inr rfl) (Le.mk _ _ ?_ ?_ rfl) rfl ?_ ?_ <;> simp only [outφ, outV, AR.res, go_sem, simprocAttr, SO]
end Go.Proofs.YtfjgnfgadkajnaaGreat
