/- Values that name no object; memory that grew. -/
import Derived.Test.YtcongikpaonliaaDoorAv8
namespace Go.Proofs.YtcongikpaonliaaDoor
open Go Go.RowKit
set_option linter.unusedSimpArgs false
set_option linter.unusedVariables false
set_option linter.deprecated false
section
variable {P : Program} {U : Tbl} {C : Ctx U} {h : Nat → Option Ob} {w : World} {M : Nat → Prop} {ι : Nat → Value} {o : Oper} {a : Act} {E : AE → V} {G : Tab} {d : Nat}
theorem purs_mem {vs : List V} (hp : V.purs vs = true) : ∀ {i : Nat} {v : V}, vs[i]? = some v → v.pur = true := by
  intro i v hi
  induction vs generalizing i with
  | nil => simp at hi
  | cons u us ih =>
    simp only [V.purs, Bool.and_eq_true] at hp
    cases i with
    | zero => simp only [List.getElem?_cons_zero, Option.some.injEq] at hi; subst hi; exact hp.1
    | succ i => rw [List.getElem?_cons_succ] at hi; exact ih hp.2 hi
theorem Rel.toPur {v : V} {cv : Value} (r : Rel M w ι h v cv) : v.pur = true → Pur M w v cv := by
  induction r with
  | pur hp => exact fun _ => hp
  | agg vs cs hl ho _ ih => exact fun hp => .agg vs cs hl ho (fun i v hi => ih i v hi (purs_mem (by simpa [V.pur] using hp) hi))
  | tup vs cs hl _ ih => exact fun hp => .tup vs cs hl (fun i v hi => ih i v hi (purs_mem (by simpa [V.pur] using hp) hi))
  | fn n vs cs hl _ ih => exact fun hp => .fn n vs cs hl (fun i v hi => ih i v hi (purs_mem (by simpa [V.pur] using hp) hi))
  | when b v cv _ hf ih => exact fun hp => .when b v cv (fun e => ih e (by simpa [V.pur] using hp)) hf
  | _ => exact fun hp => by simp [V.pur] at hp
theorem Pur.wide {M' : Nat → Prop} (hM : ∀ b, M b → M' b) {v : V} {cv : Value} (hp : Pur M w v cv) : Pur M' w v cv := hp.mono hM (fun _ _ => rfl)
/-- Memory behind a call that leaves alone what was there. -/
theorem Mem.grow (hm : Mem C h w M ι) {w' : World} {M' : Nat → Prop} (m1 : ∀ b, M b → M' b) (m2 : ∀ b, M' b → b < w'.heap.size) (m3 : ∀ b, b < w.heap.size → M' b → M b) (hb : Below w.heap.size w w') : Mem C h w' M' ι :=
  ⟨fun n ob hn => (hm.obj n ob hn).keep m1 (fun b hb' => hb.block b (hm.lt b hb')) (Keeps.refl _ _) rfl (fun b hb' => hb.block b (hm.blt n b (by rw [hn]; rfl) hb')), hm.dis,
    fun n b hs hb' hM => hm.imm n b hs hb' (m3 b (hm.blt n b hs hb') hM), m2, hm.may, Nat.le_trans hm.size hb.size,
    fun b hb' hx' => (hb.block b (Nat.lt_of_lt_of_le hb' hm.size)).trans (hm.keep b hb' hx'), hb.os.trans hm.os, hb.tape.trans hm.tape, hb.output.trans hm.output, fun b h0 => m1 b (hm.base b h0), U.keep w w' (fun b h => hb.block b (hm.lt b (hm.tm b h))) hm.tb, fun b h => m1 b (hm.tm b h), fun b h0 h1 => hm.old b h0 (m3 b (Nat.lt_of_lt_of_le h0 hm.size) h1), hm.arr0, hm.pin⟩
end
end Go.Proofs.YtcongikpaonliaaDoor
