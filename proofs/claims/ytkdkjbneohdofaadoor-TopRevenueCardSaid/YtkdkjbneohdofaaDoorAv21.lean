/- The rules by which an abstract walk computes. -/
import Derived.Test.YtkdkjbneohdofaaDoorAv17
namespace Go.Proofs.YtkdkjbneohdofaaDoor
open Go Go.RowKit
set_option linter.unusedSimpArgs false
set_option linter.unusedVariables false
set_option linter.deprecated false
theorem beq_tt (b : Bool) : (b == true) = b := by cases b <;> rfl
theorem beq_ff (b : Bool) : (b == false) = !b := by cases b <;> rfl
theorem bcond_ff (a b : Bool) : (bif a then b else false) = (a && b) := by cases a <;> rfl
theorem bcond_tt (a b : Bool) : (bif a then true else b) = (a || b) := by cases a <;> rfl
theorem emp_imp {p : Prop} : (False → p) = True := propext ⟨fun _ => trivial, fun _ h => h.elim⟩
theorem wk_any {h : Nat → Option Ob} {hl : List (Nat × Ob)} {v : V} : Wk h hl v .any ↔ True := ⟨fun _ => trivial, fun _ => .any v⟩
theorem wk_bool {h : Nat → Option Ob} {hl : List (Nat × Ob)} (a b : Bool) : Wk h hl (.bool a) (.bool b) ↔ a = b := ⟨fun w => by cases w; rfl, by rintro rfl; exact .same _ (by simp only [V.nin])⟩
theorem wk_int {h : Nat → Option Ob} {hl : List (Nat × Ob)} (k : IntKind) (a b : Int) : Wk h hl (.int k a) (.int k b) ↔ a = b := ⟨fun w => by cases w; rfl, by rintro rfl; exact .same _ (by simp only [V.nin])⟩
theorem wk_str {h : Nat → Option Ob} {hl : List (Nat × Ob)} (a b : List UInt8) : Wk h hl (.str a) (.str b) ↔ a = b := ⟨fun w => by cases w; rfl, by rintro rfl; exact .same _ (by simp only [V.nin])⟩
theorem wk_list {h : Nat → Option Ob} {hl : List (Nat × Ob)} (a b : List (List V)) (f g : Bool) : Wk h hl (.list a f) (.list b g) ↔ a = b ∧ f = g := ⟨fun w => by cases w; exact ⟨rfl, rfl⟩, by rintro ⟨rfl, rfl⟩; exact .same _ (by simp only [V.nin])⟩
theorem wk_row {h : Nat → Option Ob} {hl : List (Nat × Ob)} (a b : List V) (f g : Nat) : Wk h hl (.row a f) (.row b g) ↔ a = b ∧ f = g := ⟨fun w => by cases w; exact ⟨rfl, rfl⟩, by rintro ⟨rfl, rfl⟩; exact .same _ (by simp only [V.nin])⟩
theorem wk_nils {h : Nat → Option Ob} {hl : List (Nat × Ob)} : Wk h hl .nils .nils ↔ True := ⟨fun _ => trivial, fun _ => .same _ (by simp only [V.nin])⟩
theorem wk_nilp {h : Nat → Option Ob} {hl : List (Nat × Ob)} : Wk h hl .nilp .nilp ↔ True := ⟨fun _ => trivial, fun _ => .same _ (by simp only [V.nin])⟩
theorem wk_nilm {h : Nat → Option Ob} {hl : List (Nat × Ob)} : Wk h hl .nilm .nilm ↔ True := ⟨fun _ => trivial, fun _ => .same _ (by simp only [V.nin])⟩
theorem wk_frzm {h : Nat → Option Ob} {hl : List (Nat × Ob)} {n : Nat} {es : List (Ky × V)} (hn : h n = some (.mp es)) (h' : mkH hl n = none) (hp : ∀ kv ∈ es, kv.2.pur = true) : Wk h hl (.map n) (.fmap es) := .frzm n es hn h' hp
theorem wk_fmap {h : Nat → Option Ob} {hl : List (Nat × Ob)} (a b : List (Ky × V)) : Wk h hl (.fmap a) (.fmap b) ↔ a = b := ⟨fun w => by cases w; rfl, by rintro rfl; exact .same _ (by simp only [V.nin])⟩
theorem wk_pin {h : Nat → Option Ob} {hl : List (Nat × Ob)} (a b : Value) : Wk h hl (.pin a) (.pin b) ↔ a = b := ⟨fun w => by cases w; rfl, by rintro rfl; exact .same _ (by simp only [V.nin])⟩
theorem wk_ptr {h : Nat → Option Ob} {hl : List (Nat × Ob)} (n m a b : Nat) : Wk h hl (.ptr n a) (.ptr m b) ↔ n = m ∧ a = b ∧ (hl.map (·.1)).contains n = true :=
  ⟨fun w => by cases w with | same _ hn => exact ⟨rfl, rfl, by simpa only [V.nin] using hn⟩, by rintro ⟨rfl, rfl, hc⟩; exact .same _ (by simpa only [V.nin] using hc)⟩
theorem wk_eptr {h : Nat → Option Ob} {hl : List (Nat × Ob)} (n m a b c d e f : Nat) : Wk h hl (.eptr n a c e) (.eptr m b d f) ↔ n = m ∧ a = b ∧ c = d ∧ e = f ∧ (hl.map (·.1)).contains n = true :=
  ⟨fun w => by cases w with | same _ hn => exact ⟨rfl, rfl, rfl, rfl, by simpa only [V.nin] using hn⟩, by rintro ⟨rfl, rfl, rfl, rfl, hc⟩; exact .same _ (by simpa only [V.nin] using hc)⟩
theorem wk_own {h : Nat → Option Ob} {hl : List (Nat × Ob)} (n m a b : Nat) : Wk h hl (.own n a) (.own m b) ↔ n = m ∧ a = b ∧ (hl.map (·.1)).contains n = true :=
  ⟨fun w => by cases w with | same _ hn => exact ⟨rfl, rfl, by simpa only [V.nin] using hn⟩, by rintro ⟨rfl, rfl, hc⟩; exact .same _ (by simpa only [V.nin] using hc)⟩
theorem wk_iown {h : Nat → Option Ob} {hl : List (Nat × Ob)} (t u : TypeId) (n m a b : Nat) : Wk h hl (.iown t n a) (.iown u m b) ↔ t = u ∧ n = m ∧ a = b ∧ (hl.map (·.1)).contains n = true :=
  ⟨fun w => by cases w with | same _ hn => exact ⟨rfl, rfl, rfl, by simpa only [V.nin] using hn⟩, by rintro ⟨rfl, rfl, rfl, hc⟩; exact .same _ (by simpa only [V.nin] using hc)⟩
theorem wk_map {h : Nat → Option Ob} {hl : List (Nat × Ob)} (n m : Nat) : Wk h hl (.map n) (.map m) ↔ n = m ∧ (hl.map (·.1)).contains n = true :=
  ⟨fun w => by cases w with | same _ hn => exact ⟨rfl, by simpa only [V.nin] using hn⟩, by rintro ⟨rfl, hc⟩; exact .same _ (by simpa only [V.nin] using hc)⟩
theorem wk_agg {h : Nat → Option Ob} {hl : List (Nat × Ob)} (a b : List V) : Wk h hl (.agg a) (.agg b) ↔ a = b ∧ V.nins (hl.map (·.1)) a = true :=
  ⟨fun w => by cases w with | same _ hn => exact ⟨rfl, by simpa only [V.nin] using hn⟩, by rintro ⟨rfl, hc⟩; exact .same _ (by simpa only [V.nin] using hc)⟩
theorem wk_tup {h : Nat → Option Ob} {hl : List (Nat × Ob)} (a b : List V) : Wk h hl (.tup a) (.tup b) ↔ a = b ∧ V.nins (hl.map (·.1)) a = true :=
  ⟨fun w => by cases w with | same _ hn => exact ⟨rfl, by simpa only [V.nin] using hn⟩, by rintro ⟨rfl, hc⟩; exact .same _ (by simpa only [V.nin] using hc)⟩
theorem wk_fn {h : Nat → Option Ob} {hl : List (Nat × Ob)} {n : Nat} {a : List V} (hn : V.nins (hl.map (·.1)) a = true) : Wk h hl (.fn n a) (.fn n a) := .same _ (by simpa only [V.nin] using hn)
/-- A box that nobody writes any more. -/
theorem wk_frzb {h : Nat → Option Ob} {hl : List (Nat × Ob)} {n off : Nat} {cells : List V} {t : TypeId} (hn : h n = some (.box t cells)) (h' : mkH hl n = none) (hp : V.purs cells = true) : Wk h hl (.ptr n off) (.row cells off) := .frzb n off t cells hn h' hp
theorem wk_fn1 {h : Nat → Option Ob} {hl : List (Nat × Ob)} {f : Nat} {a b : V} (hw : Wk h hl a b) : Wk h hl (.fn f [a]) (.fn f [b]) :=
  .fnc f [a] [b] rfl (fun i u v h1 h2 => by
    cases i with
    | zero => simp only [List.getElem?_cons_zero, Option.some.injEq] at h1 h2; subst h1 h2; exact hw
    | succ i => simp at h1)
/-- A slice that was grown is handed on. -/
theorem wk_frz {h : Nat → Option Ob} {hl : List (Nat × Ob)} {n len : Nat} {rows : List (List V)} {t : TypeId} {sz : Nat} (hn : h n = some (.arr t sz rows)) (hl' : rows.length = len) (h' : mkH hl n = none) (hp : ∀ r ∈ rows, V.purs r = true) : Wk h hl (.own n len) (.list rows false) := by
  subst hl'; exact .frz n t sz rows hn h' hp
theorem cast_succ (k : Nat) : ((k + 1 : Nat) : Int) = (k : Int) + 1 := by omega
theorem getD_map {α : Type} (f : α → List V) (l : List α) (k : Nat) (h : k < l.length) : (l.map f).getD k [] = f l[k] := by
  rw [List.getD_eq_getElem?_getD, List.getElem?_map, List.getElem?_eq_getElem h]; rfl
theorem isS_s (l : List UInt8) : (Ky.s l).kd = 0 := rfl
theorem isS_i (n : Int) : (Ky.i n).kd = 1 := rfl
theorem isS_ss (a b : List UInt8) : (Ky.ss a b).kd = 2 := rfl
theorem pick_1 (x p q : Bool) : evPick (.bool x) (.bool p) (.bool q) = Res.pure True (.bool (bif x then p else q)) := by simp [evPick, V.strip, V.cnd]
theorem pick_2 (x h p q : Bool) : evPick (.bool x) (.when h (.bool p)) (.bool q) = Res.pure (x = true → h = true) (.bool (bif x then p else q)) := by simp [evPick, V.strip, V.cnd]
theorem pick_3 (x p h q : Bool) : evPick (.bool x) (.bool p) (.when h (.bool q)) = Res.pure (x = false → h = true) (.bool (bif x then p else q)) := by simp [evPick, V.strip, V.cnd]
theorem pick_4 (x h p k q : Bool) : evPick (.bool x) (.when h (.bool p)) (.when k (.bool q)) = Res.pure ((x = true → h = true) ∧ (x = false → k = true)) (.bool (bif x then p else q)) := by simp [evPick, V.strip, V.cnd]
theorem pick_f (a : V) (q : Bool) : evPick (.bool false) a (.bool q) = Res.pure True (.bool q) := by
  cases a with
  | when b v => cases v <;> simp [evPick, V.strip, V.cnd, Res.pure]
  | _ => simp [evPick, V.strip, V.cnd, Res.pure]
theorem pick_t (b : V) (p : Bool) : evPick (.bool true) (.bool p) b = Res.pure True (.bool p) := by
  cases b with
  | when b v => cases v <;> simp [evPick, V.strip, V.cnd, Res.pure]
  | _ => simp [evPick, V.strip, V.cnd, Res.pure]
theorem pick_fw (a : V) (k q : Bool) : evPick (.bool false) a (.when k (.bool q)) = Res.pure (k = true) (.bool q) := by
  cases a with
  | when b v => cases v <;> simp [evPick, V.strip, V.cnd, Res.pure]
  | _ => simp [evPick, V.strip, V.cnd, Res.pure]
theorem pick_tw (b : V) (k p : Bool) : evPick (.bool true) (.when k (.bool p)) b = Res.pure (k = true) (.bool p) := by
  cases b with
  | when b v => cases v <;> simp [evPick, V.strip, V.cnd, Res.pure]
  | _ => simp [evPick, V.strip, V.cnd, Res.pure]
theorem pick_w (g x : Bool) (a b : V) : evPick (.when g (.bool x)) a b = Res.pure (g = true ∧ (evPick (.bool x) a b).φ) (evPick (.bool x) a b).v := by
  simp only [evPick, V.strip, V.cnd]
  split <;> simp_all [Res.pure, Res.no]
attribute [go_sem] pick_1 pick_2 pick_3 pick_4 pick_f pick_t pick_fw pick_tw pick_w
attribute [go_sem] eq_self wk_any wk_pin wk_fmap wk_bool wk_int wk_str wk_list wk_row wk_nils wk_nilp wk_nilm wk_ptr wk_eptr wk_own wk_iown wk_map wk_agg wk_tup Int.ofNat_eq_coe Int.cast_ofNat_Int WkOb All2W cast_succ List.length_map Int.toNat_natCast
attribute [go_sem] cond_true cond_false evIdxa evIdxv evSlc V.nn1 List.isEmpty_cons List.isEmpty_nil arun arunB numb eCall eCallA gOpen fpAll Fp.free setE hov rn rni Ob.ren Ob.nin Ob.kind V.ren V.rens AO.res AO.next AO.fp AO.rd AO.wr aeval rdF wrF gE isPick gCond AOp.args AE.ev V.strip V.cnd V.shaped V.one V.cells V.nm V.isOwn V.leaf V.leaf1 V.pur V.purs V.nin V.nins argφ borrow upd hupd hupds mkE mkH argE
  evBin evConvW evS2b evB2s numsOf evBinW evNegW evMki evBinB evBinN evBinP evUn evClr evCpy evMkv putR evLoad evStore evFld evIdx evLen evLenO rowsOf pinE evApp evInt evFnv evCallv kyOf isS_ss isS_s isS_i mpOf evLook evMset evMlen evMks evMn evMx boundOf evSub evSsub evConv Option.map_some Option.map_none Option.toList_some Option.toList_none AE.slots List.replicate_zero putAt fillV Res.pure Res.no Fp.indep apartN thenQ blockQ Option.getD_some Option.getD_none
  List.getD_cons_zero List.getD_cons_succ List.getD_nil List.length_cons List.length_nil List.drop_zero List.drop_succ_cons List.take_succ_cons List.take_zero List.drop_nil List.take_nil List.nil_append List.cons_append List.append_nil List.map_cons List.map_nil
  List.all_cons List.all_nil List.any_cons List.any_nil List.forall_mem_cons List.not_mem_nil Bool.and_true Bool.true_and Bool.and_false Bool.false_and Bool.or_true Bool.true_or Bool.or_false Bool.false_or beq_self_eq_true beq_tt beq_ff bcond_ff bcond_tt true_and and_true forall_const implies_true true_implies bne_self_eq_false Nat.zero_add
  emp_imp List.flatMap_cons List.flatMap_nil Nat.lt_add_one Bool.not_true Bool.not_false imp_self and_self ne_eq not_false_eq_true not_true_eq_false or_false false_or or_true true_or List.contains_cons List.contains_nil
/-- PureC.of_aw, what is asked at the end behind a letter. -/
theorem PureC.of_awQ {P : Program} {U : Tbl} {f : Nat} {fn : Func} {c : Code} {rs : List AR} {g : List V → Prop × V} (hf : P.funcs[f]? = some fn) (hb : fn.body = some c) (hname : (fn.name == "runtime.NumGoroutine") = false) (hr : fn.results.toList.mapM (trR P) = some rs)
    (hw : ∀ vs, (g vs).1 → vs.length ≤ fn.ntmps ∧ ∀ (C : Ctx U), C.N = fn.ntmps → ∀ Q : Exit → St → Prop, (∀ e s', e = .ret ∨ e = .normal → outφ rs s' → outV rs s' = (g vs).2 → (outV rs s').pur = true → Q e s') → AW P C c Q ⟨argE vs, fun _ => none⟩) : PureC P U f g :=
  PureC.of_aw hf hb hname hr fun vs hv => let ⟨h1, h2⟩ := hw vs hv; ⟨h1, fun C hC => h2 C hC _ fun _ _ a b c d => ⟨a, b, c, d⟩⟩
end Go.Proofs.YtkdkjbneohdofaaDoor
/- Entering and leaving a function that writes objects handed to it. -/
namespace Go.Proofs.YtkdkjbneohdofaaDoor
open Go Go.RowKit
set_option linter.unusedSimpArgs false
set_option linter.unusedVariables false
set_option linter.deprecated false
section
variable {P : Program} {U : Tbl}
theorem Mem.ctx {C C' : Ctx U} {h : Nat → Option Ob} {w : World} {M : Nat → Prop} {ι : Nat → Value} (hm : Mem C h w M ι) (e1 : C'.w0 = C.w0) (e2 : C'.X = C.X) (e3 : C'.M0 = C.M0) (e4 : C'.ι0 = C.ι0) (e5 : C'.h0 = C.h0) : Mem C' h w M ι := by
  obtain ⟨w0, X, N, M0, ι0, h0⟩ := C
  obtain ⟨w0', X', N', M0', ι0', h0'⟩ := C'
  dsimp only at e1 e2 e3 e4 e5
  subst e1 e2 e3 e4 e5
  exact ⟨hm.obj, hm.dis, hm.imm, hm.lt, hm.may, hm.size, hm.keep, hm.os, hm.tape, hm.output, hm.base, hm.tb, hm.tm, hm.old, hm.arr0, hm.pin⟩
theorem Eff.of_aw {f : Nat} {fn : Func} {c : Code} {rs : List AR} {vs : List V} {hl hl' : List (Nat × Ob)} {v : V} (hf : P.funcs[f]? = some fn) (hb : fn.body = some c) (hname : (fn.name == "runtime.NumGoroutine") = false) (hr : fn.results.toList.mapM (trR P) = some rs) (hn : vs.length ≤ fn.ntmps)
    (haw : ∀ C : Ctx U, C.N = fn.ntmps → ∀ Q : Exit → St → Prop, (∀ e s' s'', e = .ret ∨ e = .normal → Le s' s'' → s''.h = mkH hl' → outφ rs s'' → outV rs s'' = v → Q e s') → AW P C c Q ⟨argE vs, mkH hl⟩) : Eff P U f vs hl v hl' := by
  refine .inl ⟨⟨fn, hf, by rw [hb]; rfl, hname⟩, fun w M ι cargs hm hsz hargs => ?_⟩
  let C : Ctx U := ⟨w, fun b => ∃ n, (mkH hl n).isSome = true ∧ blk (ι n) = some b, fn.ntmps, M, ι, mkH hl⟩
  refine calls_of_wp hf hb ?_
  have hgood : Good C ⟨argE vs, mkH hl⟩ { tmps := cargs ++ Array.replicate (fn.ntmps - cargs.size) undef, defers := [] } w M ι := by
    refine ⟨Mem.ctx hm rfl rfl rfl rfl rfl, fun t => ?_, rfl, ?_⟩
    · show Rel M w _ _ (vs.getD t .any) _
      by_cases ht : t < vs.length
      · have h1 := hargs t _ (getD_of_lt .any ht)
        have e : (cargs ++ Array.replicate (fn.ntmps - cargs.size) undef).getD t undef = cargs.getD t undef := by
          simp only [Array.getD_eq_getD_getElem?]
          rw [Array.getElem?_append_left (by omega)]
        rw [e]
        exact h1
      · rw [List.getD_eq_getElem?_getD, List.getElem?_eq_none (by omega)]
        exact .pur (.any _)
    · show (cargs ++ Array.replicate (fn.ntmps - cargs.size) undef).size = fn.ntmps
      simp only [Array.size_append, Array.size_replicate]
      omega
  refine wp_mono (haw C rfl (fun e s' => (e = .ret ∨ e = .normal) ∧ ∃ s'', Le s' s'' ∧ s''.h = mkH hl' ∧ outφ rs s'' ∧ outV rs s'' = v) (fun e s' s'' h1 h2 h3 h4 h5 => ⟨h1, s'', h2, h3, h4, h5⟩) _ _ _ _ hgood) ?_
  rintro e a' w' ⟨s', M', ι', ⟨he, s'', h2, h3, h4, h5⟩, hg'⟩
  obtain ⟨M2, ι2, hg2⟩ := h2 U C a' w' M' ι' hg'
  obtain ⟨cv, r1, r2⟩ := run_results hr hg2 h4
  have hm2 := hg2.mem
  rw [h3] at hm2 r2
  rw [h5] at r2
  have hpost : ∃ (cv' : Value) (M' : Nat → Prop) (ι' : Nat → Value), Ending.returned cv = .returned cv' ∧ Rel M' w' ι' (mkH hl') v cv' ∧ Mem (U := U) ⟨w, fun b => ∃ n, (mkH hl n).isSome = true ∧ blk (ι n) = some b, 0, M, ι, mkH hl⟩ (mkH hl') w' M' ι' :=
    ⟨cv, M2, ι2, rfl, r2, Mem.ctx hm2 rfl rfl rfl rfl rfl⟩
  rcases he with rfl | rfl
  · exact ⟨hg2.dfr, cv, r1, hpost⟩
  · exact ⟨hg2.dfr, cv, r1, hpost⟩
end
end Go.Proofs.YtkdkjbneohdofaaDoor
/- Bridges: a contract of the kit's as a function that computes; a table of such functions. -/
namespace Go.Proofs.YtkdkjbneohdofaaDoor
open Go Go.RowKit
set_option linter.unusedSimpArgs false
set_option linter.unusedVariables false
set_option linter.deprecated false
section
variable {P : Program} {U : Tbl}
/-- A function whose result needs no memory. -/
theorem PureC.leaf {f : Nat} {fn : Func} {c : Code} {g : List V → Prop × V} (hf : P.funcs[f]? = some fn) (hb : fn.body = some c) (hname : (fn.name == "runtime.NumGoroutine") = false)
    (h : ∀ (vs : List V) (M : Nat → Prop) (w : World) (cargs : Array Value), (g vs).1 → U.B w → cargs.size = vs.length → (∀ (i : Nat) (v : V), vs[i]? = some v → Pur M w v (cargs.getD i undef)) →
      Calls P f cargs w fun e w' => ∃ cv, e = .returned cv ∧ (∀ M' : Nat → Prop, Pur M' w' (g vs).2 cv) ∧ Below w.heap.size w w') : PureC P U f g := by
  intro vs M w cargs hg
  refine ⟨⟨fn, hf, by rw [hb]; rfl, hname⟩, fun hB _ hsz hlt hargs => ?_⟩
  refine (h vs M w cargs hg hB hsz hargs).mono ?_
  rintro e w' ⟨cv, he, hp, hb⟩
  exact ⟨cv, M, he, hp M, fun _ h => h, fun b h => Nat.lt_of_lt_of_le (hlt b h) hb.size, fun _ _ h => h, hb⟩
/-- Where less is asked, or the answer is spelt otherwise. -/
theorem PureC.sub {f : Nat} {g g' : List V → Prop × V} (h : PureC P U f g) (hs : ∀ vs, (g' vs).1 → (g vs).1 ∧ (g vs).2 = (g' vs).2) : PureC P U f g' := by
  intro vs M w cargs hg
  obtain ⟨h1, h2⟩ := hs vs hg
  have := h vs M w cargs h1
  rw [h2] at this
  exact this
end
theorem args_one {cargs : Array Value} (h : cargs.size = 1) : cargs = #[cargs.getD 0 undef] := by
  obtain ⟨l⟩ := cargs
  match l, h with
  | [x], _ => rfl
theorem args_two {cargs : Array Value} (h : cargs.size = 2) : cargs = #[cargs.getD 0 undef, cargs.getD 1 undef] := by
  obtain ⟨l⟩ := cargs
  match l, h with
  | [x, y], _ => rfl
theorem Pur.int_inv {M : Nat → Prop} {w : World} {k : IntKind} {n : Int} {cv : Value} (h : Pur M w (.int k n) cv) : cv = .int k n := by cases h; rfl
theorem Pur.str_inv {M : Nat → Prop} {w : World} {s : List UInt8} {cv : Value} (h : Pur M w (.str s) cv) : cv = .string ⟨s.toArray⟩ := by cases h; rfl
theorem pw1 : (2 : Int) ^ (1 : Nat) = 2 := rfl
theorem pw32 : (2 : Int) ^ (32 : Nat) = 4294967296 := rfl
attribute [go_sem] pw1 pw32
theorem inK_u64 {n : Int} : inK .u64 n ↔ 0 ≤ n ∧ n ≤ 18446744073709551615 := by
  have : inK .u64 n = (n % 18446744073709551616 = n) := by simp [inK, IntKind.wrap, IntKind.bits, IntKind.signed]
  rw [this]; omega
theorem inK_u8 {n : Int} : inK .u8 n ↔ 0 ≤ n ∧ n ≤ 255 := by
  have : inK .u8 n = (n % 256 = n) := by simp [inK, IntKind.wrap, IntKind.bits, IntKind.signed]
  rw [this]; omega
theorem inK_i64 {n : Int} : inK .i64 n ↔ inI n := by
  simp only [inK, inI, IntKind.wrap, IntKind.bits, IntKind.signed]
  simp
  omega
/-- No call that writes. -/
def EF0 : Nat → Bool := fun _ => false
theorem imp_nn (b : Bool) : (b = false → (!b) = true) = True := propext ⟨fun _ => trivial, fun _ h => by rw [h]; rfl⟩
theorem imp_n (b : Bool) : ((!b) = true → b = false) = True := propext ⟨fun _ => trivial, fun _ h => by cases b <;> simp_all⟩
theorem wk_fn0 {h : Nat → Option Ob} {hl : List (Nat × Ob)} (n : Nat) : Wk h hl (.fn n []) (.fn n []) ↔ True := ⟨fun _ => trivial, fun _ => .same _ (by simp only [V.nin, V.nins])⟩
theorem wk_nill {h : Nat → Option Ob} {hl : List (Nat × Ob)} (f : Bool) : Wk h hl .nils (.list [] f) ↔ True := ⟨fun _ => trivial, fun _ => .nill f⟩
attribute [go_sem] evBinA fitK fitKs eqV eqVs wk_nill EF0 Bool.false_eq_true if_false imp_nn imp_n wk_fn0 Int.ofNat_lt Int.ofNat_le Int.natCast_nonneg decide_true decide_false
theorem aw_condT {P : Program} {U : Tbl} {C : Ctx U} {Q : Exit → St → Prop} {s : St} {t : Nat} {x y : Code} (hb : s.e t = .bool true) (h : AW P C x Q s) : AW P C (.cond (.tmp t) x y) Q s := aw_cond hb (fun _ => h) (fun e => by cases e)
theorem aw_condF {P : Program} {U : Tbl} {C : Ctx U} {Q : Exit → St → Prop} {s : St} {t : Nat} {x y : Code} (hb : s.e t = .bool false) (h : AW P C y Q s) : AW P C (.cond (.tmp t) x y) Q s := aw_cond hb (fun e => by cases e) (fun _ => h)
/-- A function of arguments that are given as data. -/
noncomputable def gOf {α : Type} (args : α → List V) (F : α → Prop × V) (vs : List V) : Prop × V := open Classical in if h : ∃ a, args a = vs then F h.choose else (False, .any)
theorem gOf_eq {α : Type} {args : α → List V} {F : α → Prop × V} (inj : ∀ a b, args a = args b → a = b) (a : α) : gOf args F (args a) = F a := by
  unfold gOf
  have h : ∃ b, args b = args a := ⟨a, rfl⟩
  rw [dif_pos h, inj _ _ h.choose_spec]
theorem PureC.ofArgs {α : Type} {args : α → List V} {F : α → Prop × V} {P : Program} {U : Tbl} {f : Nat} {fn : Func} {c : Code} {rs : List AR} (inj : ∀ a b, args a = args b → a = b) (hf : P.funcs[f]? = some fn) (hb : fn.body = some c) (hname : (fn.name == "runtime.NumGoroutine") = false) (hr : fn.results.toList.mapM (trR P) = some rs)
    (hw : ∀ a, (F a).1 → (args a).length ≤ fn.ntmps ∧ ∀ (C : Ctx U), C.N = fn.ntmps → ∀ Q : Exit → St → Prop, (∀ e s', e = .ret ∨ e = .normal → outφ rs s' → outV rs s' = (F a).2 → (outV rs s').pur = true → Q e s') → AW P C c Q ⟨argE (args a), fun _ => none⟩) : PureC P U f (gOf args F) :=
  PureC.of_awQ hf hb hname hr fun vs hv => by
    by_cases h : ∃ a, args a = vs
    · obtain ⟨a, rfl⟩ := h
      rw [gOf_eq inj] at hv ⊢
      exact hw a hv
    · exfalso
      unfold gOf at hv
      rw [dif_neg h] at hv
      exact hv
theorem map_inj' {α β : Type} {f : α → β} (h : ∀ a b, f a = f b → a = b) : ∀ {l r : List α}, l.map f = r.map f → l = r
  | [], [], _ => rfl
  | [], _ :: _, e => by cases e
  | _ :: _, [], e => by cases e
  | a :: l, b :: r, e => by
    rw [List.map_cons, List.map_cons] at e
    injection e with e1 e2
    rw [h _ _ e1, map_inj' h e2]
/-- No function. -/
abbrev gNo : List V → Prop × V := fun _ => (False, .any)
theorem PureC.no {P : Program} {U : Tbl} {f : Nat} : PureC P U f gNo := fun _ _ _ _ h => h.elim
end Go.Proofs.YtkdkjbneohdofaaDoor
/- Maps that stand for sets of texts; effect calls. -/
namespace Go.Proofs.YtkdkjbneohdofaaDoor
open Go Go.RowKit
set_option linter.unusedSimpArgs false
set_option linter.unusedVariables false
set_option linter.deprecated false
theorem mput_nil (k : Ky) (v : V) : mput [] k v = [(k, v)] := rfl
theorem mput_cons (k' : Ky) (v' : V) (es : List (Ky × V)) (k : Ky) (v : V) : mput ((k', v') :: es) k v = if k' = k then (k, v) :: es else (k', v') :: mput es k v := by
  unfold mput
  rw [List.findIdx?_cons]
  by_cases h : k' = k
  · simp [h]
  · simp only [h, decide_false, Bool.false_eq_true, if_false]
    cases List.findIdx? (fun p => decide (p.1 = k)) es with
    | none => rfl
    | some j => rfl
theorem mget_nil (k : Ky) (z : V) : mget [] k z = z := rfl
theorem mget_cons (k' : Ky) (v' : V) (es : List (Ky × V)) (k : Ky) (z : V) : mget ((k', v') :: es) k z = if k' = k then v' else mget es k z := by
  unfold mget
  rw [List.find?_cons]
  by_cases h : k' = k <;> simp [h]
theorem mget_put (es : List (Ky × V)) (k j : Ky) (v z : V) : mget (mput es k v) j z = if k = j then v else mget es j z := by
  induction es with
  | nil => rw [mput_nil, mget_cons]
  | cons p es ih =>
    obtain ⟨k', v'⟩ := p
    rw [mput_cons]
    by_cases h : k' = k
    · subst h
      rw [if_pos rfl, mget_cons, mget_cons]
      by_cases e : k' = j
      · rw [if_pos e, if_pos e]
      · rw [if_neg e, if_neg e, if_neg e]
    · rw [if_neg h, mget_cons, mget_cons, ih]
      by_cases e : k = j
      · subst e; rw [if_neg h, if_pos rfl, if_pos rfl]
      · rw [if_neg e, if_neg e]
theorem mhas_cons (p : Ky × V) (es : List (Ky × V)) (k : Ky) : mhas (p :: es) k = (decide (p.1 = k) || mhas es k) := rfl
theorem mhas_put (es : List (Ky × V)) (k j : Ky) (v : V) : mhas (mput es k v) j = (decide (k = j) || mhas es j) := by
  induction es with
  | nil => rfl
  | cons p es ih =>
    obtain ⟨k', v'⟩ := p
    rw [mput_cons]
    by_cases h : k' = k
    · subst h
      rw [if_pos rfl, mhas_cons, mhas_cons]
      cases decide (k' = j) <;> rfl
    · rw [if_neg h, mhas_cons, mhas_cons, ih]
      cases decide (k' = j) <;> cases decide (k = j) <;> rfl
theorem mput_all {Q : Ky × V → Prop} {es : List (Ky × V)} {k : Ky} {v : V} (h : ∀ p ∈ es, Q p) (hq : Q (k, v)) : ∀ p ∈ mput es k v, Q p := by
  unfold mput
  split
  · intro p hp
    rcases List.mem_or_eq_of_mem_set hp with hp | rfl
    · exact h p hp
    · exact hq
  · intro p hp
    rcases List.mem_append.1 hp with hp | hp
    · exact h p hp
    · rw [List.mem_singleton] at hp; subst hp; exact hq
/-- Is a text among these? -/
def seen (p : List (List UInt8)) (s : List UInt8) : Bool := decide (s ∈ p)
theorem seen_snoc (p : List (List UInt8)) (x s : List UInt8) : seen (p ++ [x]) s = (seen p s || decide (x = s)) := by
  unfold seen
  by_cases h : s ∈ p <;> by_cases e : x = s <;> simp [h, e, eq_comm]
/-- A map[string]bool into which these were put as true. -/
def smap (p : List (List UInt8)) : List (Ky × V) := p.foldl (fun es s => mput es (.s s) (.bool true)) []
theorem smap_snoc (p : List (List UInt8)) (s : List UInt8) : mput (smap p) (.s s) (.bool true) = smap (p ++ [s]) := by
  unfold smap; rw [List.foldl_append]; rfl
theorem smap_ind {Q : List (List UInt8) → Prop} (h0 : Q []) (h1 : ∀ p s, Q p → Q (p ++ [s])) (p : List (List UInt8)) : Q p := by
  rw [← List.reverse_reverse p]
  induction p.reverse with
  | nil => exact h0
  | cons a l ih => rw [List.reverse_cons]; exact h1 _ _ ih
theorem smap_get (p : List (List UInt8)) (s : List UInt8) : mget (smap p) (.s s) (.bool false) = .bool (seen p s) := by
  induction p using smap_ind with
  | h0 => rfl
  | h1 p x ih =>
    rw [← smap_snoc, mget_put, ih, seen_snoc]
    by_cases e : x = s
    · subst e; rw [if_pos rfl, decide_eq_true rfl, Bool.or_true]
    · rw [if_neg (fun h => e (by injection h)), decide_eq_false e, Bool.or_false]
theorem smap_key (p : List (List UInt8)) : ∀ q ∈ smap p, q.1.kd = 0 := by
  induction p using smap_ind with
  | h0 => intro q hq; cases hq
  | h1 p x ih => rw [← smap_snoc]; exact mput_all ih rfl
theorem smap_pur (p : List (List UInt8)) : ∀ q ∈ smap p, q.2.pur = true := by
  induction p using smap_ind with
  | h0 => intro q hq; cases hq
  | h1 p x ih => rw [← smap_snoc]; exact mput_all ih rfl
theorem smap_bool (p : List (List UInt8)) : ∀ q ∈ smap p, q.2 = .bool true := by
  induction p using smap_ind with
  | h0 => intro q hq; cases hq
  | h1 p x ih => rw [← smap_snoc]; exact mput_all ih rfl
theorem smap_keyT (p : List (List UInt8)) : (∀ q ∈ smap p, q.1.kd = 0) ↔ True := iff_true_intro (smap_key p)
theorem smap_purT (p : List (List UInt8)) : (∀ q ∈ smap p, q.2.pur = true) ↔ True := iff_true_intro (smap_pur p)
theorem smap_ninT (d : List Nat) (p : List (List UInt8)) : (∀ q ∈ smap p, q.2.nin d = true) ↔ True := iff_true_intro fun q hq => by rw [smap_bool p q hq]; simp only [V.nin]
theorem smap_ren (σ : Nat → Nat) (p : List (List UInt8)) : (smap p).map (fun q => (q.1, q.2.ren σ)) = smap p := by
  have : ∀ q ∈ smap p, (q.1, q.2.ren σ) = q := fun q hq => by
    obtain ⟨k, v⟩ := q
    have := smap_bool p _ hq
    dsimp only at this
    subst this
    simp only [V.ren]
  conv => rhs; rw [← List.map_id (smap p)]
  exact List.map_congr_left fun q hq => this q hq
attribute [go_sem] smap_snoc smap_get smap_keyT smap_purT smap_ninT smap_ren
end Go.Proofs.YtkdkjbneohdofaaDoor
