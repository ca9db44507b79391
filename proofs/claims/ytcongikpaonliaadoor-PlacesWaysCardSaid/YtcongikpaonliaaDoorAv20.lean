/- Bridges: a contract of the kit's as a function that computes; a table of such functions. -/
import Derived.Test.YtcongikpaonliaaDoorAv19
namespace Go.Proofs.YtcongikpaonliaaDoor
open Go Go.RowKit
set_option linter.unusedSimpArgs false
set_option linter.unusedVariables false
set_option linter.deprecated false
section
variable {P : Program} {U : Tbl}
/-- A function whose result needs no memory. -/
theorem PureC.leaf {f : Nat} {fn : Func} {c : Code} {g : List V → Prop × V} (hf : P.funcs[f]? = some fn) (hb : fn.body = some c) (hname : (fn.name == "runtime.NumGoroutine") = false)
    (h : ∀ (vs : List V) (M : Nat → Prop) (w : World) (cargs : Array Value), (g vs).1 → U.B w → cargs.size = vs.length → (∀ (i : Nat) (v : V), vs[i]? = some v → Pur M w v (cargs.getD i undef)) →
      Calls P f cargs w fun e w' => ∃ cv, e = .returned cv ∧ (∀ M' : Nat → Prop, Pur M' w' (g vs).2 cv) ∧ Below w.heap.size w w') : PureC P U f g := by
  intro vs M w cargs hg
  refine ⟨⟨fn, hf, by rw [hb]; rfl, hname⟩, fun hB _ hsz hlt hargs => ?_⟩
  refine (h vs M w cargs hg hB hsz hargs).mono ?_
  rintro e w' ⟨cv, he, hp, hb⟩
  exact ⟨cv, M, he, hp M, fun _ h => h, fun b h => Nat.lt_of_lt_of_le (hlt b h) hb.size, fun _ _ h => h, hb⟩
/-- Where less is asked, or the answer is spelt otherwise. -/
theorem PureC.sub {f : Nat} {g g' : List V → Prop × V} (h : PureC P U f g) (hs : ∀ vs, (g' vs).1 → (g vs).1 ∧ (g vs).2 = (g' vs).2) : PureC P U f g' := by
  intro vs M w cargs hg
  obtain ⟨h1, h2⟩ := hs vs hg
  have := h vs M w cargs h1
  rw [h2] at this
  exact this
end
theorem args_one {cargs : Array Value} (h : cargs.size = 1) : cargs = #[cargs.getD 0 undef] := by
  obtain ⟨l⟩ := cargs
  match l, h with
  | [x], _ => rfl
theorem args_two {cargs : Array Value} (h : cargs.size = 2) : cargs = #[cargs.getD 0 undef, cargs.getD 1 undef] := by
  obtain ⟨l⟩ := cargs
  match l, h with
  | [x, y], _ => rfl
theorem Pur.int_inv {M : Nat → Prop} {w : World} {k : IntKind} {n : Int} {cv : Value} (h : Pur M w (.int k n) cv) : cv = .int k n := by cases h; rfl
theorem Pur.str_inv {M : Nat → Prop} {w : World} {s : List UInt8} {cv : Value} (h : Pur M w (.str s) cv) : cv = .string ⟨s.toArray⟩ := by cases h; rfl
theorem inK_u64 {n : Int} : inK .u64 n ↔ 0 ≤ n ∧ n ≤ 18446744073709551615 := by
  have : inK .u64 n = (n % 18446744073709551616 = n) := by simp [inK, IntKind.wrap, IntKind.bits, IntKind.signed]
  rw [this]; omega
theorem inK_u8 {n : Int} : inK .u8 n ↔ 0 ≤ n ∧ n ≤ 255 := by
  have : inK .u8 n = (n % 256 = n) := by simp [inK, IntKind.wrap, IntKind.bits, IntKind.signed]
  rw [this]; omega
theorem inK_i64 {n : Int} : inK .i64 n ↔ inI n := by
  simp only [inK, inI, IntKind.wrap, IntKind.bits, IntKind.signed]
  simp
  omega
/-- No call that writes. -/
def EF0 : Nat → Bool := fun _ => false
theorem imp_nn (b : Bool) : (b = false → (!b) = true) = True := propext ⟨fun _ => trivial, fun _ h => by rw [h]; rfl⟩
theorem imp_n (b : Bool) : ((!b) = true → b = false) = True := propext ⟨fun _ => trivial, fun _ h => by cases b <;> simp_all⟩
theorem wk_fn0 {h : Nat → Option Ob} {hl : List (Nat × Ob)} (n : Nat) : Wk h hl (.fn n []) (.fn n []) ↔ True := ⟨fun _ => trivial, fun _ => .same _ (by simp only [V.nin, V.nins])⟩
theorem wk_nill {h : Nat → Option Ob} {hl : List (Nat × Ob)} (f : Bool) : Wk h hl .nils (.list [] f) ↔ True := ⟨fun _ => trivial, fun _ => .nill f⟩
attribute [go_sem] evBinA fitK fitKs eqV eqVs wk_nill EF0 Bool.false_eq_true if_false imp_nn imp_n wk_fn0 Int.ofNat_lt Int.ofNat_le Int.natCast_nonneg decide_true decide_false
theorem aw_condT {P : Program} {U : Tbl} {C : Ctx U} {Q : Exit → St → Prop} {s : St} {t : Nat} {x y : Code} (hb : s.e t = .bool true) (h : AW P C x Q s) : AW P C (.cond (.tmp t) x y) Q s := aw_cond hb (fun _ => h) (fun e => by cases e)
theorem aw_condF {P : Program} {U : Tbl} {C : Ctx U} {Q : Exit → St → Prop} {s : St} {t : Nat} {x y : Code} (hb : s.e t = .bool false) (h : AW P C y Q s) : AW P C (.cond (.tmp t) x y) Q s := aw_cond hb (fun e => by cases e) (fun _ => h)
/-- A function of arguments that are given as data. -/
noncomputable def gOf {α : Type} (args : α → List V) (F : α → Prop × V) (vs : List V) : Prop × V := open Classical in if h : ∃ a, args a = vs then F h.choose else (False, .any)
theorem gOf_eq {α : Type} {args : α → List V} {F : α → Prop × V} (inj : ∀ a b, args a = args b → a = b) (a : α) : gOf args F (args a) = F a := by
  unfold gOf
  have h : ∃ b, args b = args a := ⟨a, rfl⟩
  rw [dif_pos h, inj _ _ h.choose_spec]
theorem PureC.ofArgs {α : Type} {args : α → List V} {F : α → Prop × V} {P : Program} {U : Tbl} {f : Nat} {fn : Func} {c : Code} {rs : List AR} (inj : ∀ a b, args a = args b → a = b) (hf : P.funcs[f]? = some fn) (hb : fn.body = some c) (hname : (fn.name == "runtime.NumGoroutine") = false) (hr : fn.results.toList.mapM (trR P) = some rs)
    (hw : ∀ a, (F a).1 → (args a).length ≤ fn.ntmps ∧ ∀ (C : Ctx U), C.N = fn.ntmps → ∀ Q : Exit → St → Prop, (∀ e s', e = .ret ∨ e = .normal → outφ rs s' → outV rs s' = (F a).2 → (outV rs s').pur = true → Q e s') → AW P C c Q ⟨argE (args a), fun _ => none⟩) : PureC P U f (gOf args F) :=
  PureC.of_awQ hf hb hname hr fun vs hv => by
    by_cases h : ∃ a, args a = vs
    · obtain ⟨a, rfl⟩ := h
      rw [gOf_eq inj] at hv ⊢
      exact hw a hv
    · exfalso
      unfold gOf at hv
      rw [dif_neg h] at hv
      exact hv
theorem map_inj' {α β : Type} {f : α → β} (h : ∀ a b, f a = f b → a = b) : ∀ {l r : List α}, l.map f = r.map f → l = r
  | [], [], _ => rfl
  | [], _ :: _, e => by cases e
  | _ :: _, [], e => by cases e
  | a :: l, b :: r, e => by
    rw [List.map_cons, List.map_cons] at e
    injection e with e1 e2
    rw [h _ _ e1, map_inj' h e2]
/-- No function. -/
abbrev gNo : List V → Prop × V := fun _ => (False, .any)
theorem PureC.no {P : Program} {U : Tbl} {f : Nat} : PureC P U f gNo := fun _ _ _ _ h => h.elim
end Go.Proofs.YtcongikpaonliaaDoor
