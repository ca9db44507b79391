/- Entering and leaving a function that writes objects handed to it. -/
import Derived.Test.YtcongikpaonliaaDoorAv18
namespace Go.Proofs.YtcongikpaonliaaDoor
open Go Go.RowKit
set_option linter.unusedSimpArgs false
set_option linter.unusedVariables false
set_option linter.deprecated false
section
variable {P : Program} {U : Tbl}
theorem Mem.ctx {C C' : Ctx U} {h : Nat → Option Ob} {w : World} {M : Nat → Prop} {ι : Nat → Value} (hm : Mem C h w M ι) (e1 : C'.w0 = C.w0) (e2 : C'.X = C.X) (e3 : C'.M0 = C.M0) (e4 : C'.ι0 = C.ι0) (e5 : C'.h0 = C.h0) : Mem C' h w M ι := by
  obtain ⟨w0, X, N, M0, ι0, h0⟩ := C
  obtain ⟨w0', X', N', M0', ι0', h0'⟩ := C'
  dsimp only at e1 e2 e3 e4 e5
  subst e1 e2 e3 e4 e5
  exact ⟨hm.obj, hm.dis, hm.imm, hm.lt, hm.may, hm.size, hm.keep, hm.os, hm.tape, hm.output, hm.base, hm.tb, hm.tm, hm.old, hm.arr0, hm.pin⟩
theorem Eff.of_aw {f : Nat} {fn : Func} {c : Code} {rs : List AR} {vs : List V} {hl hl' : List (Nat × Ob)} {v : V} (hf : P.funcs[f]? = some fn) (hb : fn.body = some c) (hname : (fn.name == "runtime.NumGoroutine") = false) (hr : fn.results.toList.mapM (trR P) = some rs) (hn : vs.length ≤ fn.ntmps)
    (haw : ∀ C : Ctx U, C.N = fn.ntmps → ∀ Q : Exit → St → Prop, (∀ e s' s'', e = .ret ∨ e = .normal → Le s' s'' → s''.h = mkH hl' → outφ rs s'' → outV rs s'' = v → Q e s') → AW P C c Q ⟨argE vs, mkH hl⟩) : Eff P U f vs hl v hl' := by
  refine ⟨⟨fn, hf, by rw [hb]; rfl, hname⟩, fun w M ι cargs hm hsz hargs => ?_⟩
  let C : Ctx U := ⟨w, fun b => ∃ n, (mkH hl n).isSome = true ∧ blk (ι n) = some b, fn.ntmps, M, ι, mkH hl⟩
  refine calls_of_wp hf hb ?_
  have hgood : Good C ⟨argE vs, mkH hl⟩ { tmps := cargs ++ Array.replicate (fn.ntmps - cargs.size) undef, defers := [] } w M ι := by
    refine ⟨Mem.ctx hm rfl rfl rfl rfl rfl, fun t => ?_, rfl, ?_⟩
    · show Rel M w _ _ (vs.getD t .any) _
      by_cases ht : t < vs.length
      · have h1 := hargs t _ (getD_of_lt .any ht)
        have e : (cargs ++ Array.replicate (fn.ntmps - cargs.size) undef).getD t undef = cargs.getD t undef := by
          simp only [Array.getD_eq_getD_getElem?]
          rw [Array.getElem?_append_left (by omega)]
        rw [e]
        exact h1
      · rw [List.getD_eq_getElem?_getD, List.getElem?_eq_none (by omega)]
        exact .pur (.any _)
    · show (cargs ++ Array.replicate (fn.ntmps - cargs.size) undef).size = fn.ntmps
      simp only [Array.size_append, Array.size_replicate]
      omega
  refine wp_mono (haw C rfl (fun e s' => (e = .ret ∨ e = .normal) ∧ ∃ s'', Le s' s'' ∧ s''.h = mkH hl' ∧ outφ rs s'' ∧ outV rs s'' = v) (fun e s' s'' h1 h2 h3 h4 h5 => ⟨h1, s'', h2, h3, h4, h5⟩) _ _ _ _ hgood) ?_
  rintro e a' w' ⟨s', M', ι', ⟨he, s'', h2, h3, h4, h5⟩, hg'⟩
  obtain ⟨M2, ι2, hg2⟩ := h2 U C a' w' M' ι' hg'
  obtain ⟨cv, r1, r2⟩ := run_results hr hg2 h4
  have hm2 := hg2.mem
  rw [h3] at hm2 r2
  rw [h5] at r2
  have hpost : ∃ (cv' : Value) (M' : Nat → Prop) (ι' : Nat → Value), Ending.returned cv = .returned cv' ∧ Rel M' w' ι' (mkH hl') v cv' ∧ Mem (U := U) ⟨w, fun b => ∃ n, (mkH hl n).isSome = true ∧ blk (ι n) = some b, 0, M, ι, mkH hl⟩ (mkH hl') w' M' ι' :=
    ⟨cv, M2, ι2, rfl, r2, Mem.ctx hm2 rfl rfl rfl rfl rfl⟩
  rcases he with rfl | rfl
  · exact ⟨hg2.dfr, cv, r1, hpost⟩
  · exact ⟨hg2.dfr, cv, r1, hpost⟩
end
end Go.Proofs.YtcongikpaonliaaDoor
