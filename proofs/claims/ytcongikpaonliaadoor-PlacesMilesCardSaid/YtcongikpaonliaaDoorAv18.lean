/- The rules by which an abstract walk computes. -/
import Derived.Test.YtcongikpaonliaaDoorAv17
namespace Go.Proofs.YtcongikpaonliaaDoor
open Go Go.RowKit
set_option linter.unusedSimpArgs false
set_option linter.unusedVariables false
set_option linter.deprecated false
theorem beq_tt (b : Bool) : (b == true) = b := by cases b <;> rfl
theorem beq_ff (b : Bool) : (b == false) = !b := by cases b <;> rfl
theorem bcond_ff (a b : Bool) : (bif a then b else false) = (a && b) := by cases a <;> rfl
theorem bcond_tt (a b : Bool) : (bif a then true else b) = (a || b) := by cases a <;> rfl
theorem emp_imp {p : Prop} : (False → p) = True := propext ⟨fun _ => trivial, fun _ h => h.elim⟩
theorem wk_any {h : Nat → Option Ob} {hl : List (Nat × Ob)} {v : V} : Wk h hl v .any ↔ True := ⟨fun _ => trivial, fun _ => .any v⟩
theorem wk_bool {h : Nat → Option Ob} {hl : List (Nat × Ob)} (a b : Bool) : Wk h hl (.bool a) (.bool b) ↔ a = b := ⟨fun w => by cases w; rfl, by rintro rfl; exact .same _ (by simp only [V.nin])⟩
theorem wk_int {h : Nat → Option Ob} {hl : List (Nat × Ob)} (k : IntKind) (a b : Int) : Wk h hl (.int k a) (.int k b) ↔ a = b := ⟨fun w => by cases w; rfl, by rintro rfl; exact .same _ (by simp only [V.nin])⟩
theorem wk_str {h : Nat → Option Ob} {hl : List (Nat × Ob)} (a b : List UInt8) : Wk h hl (.str a) (.str b) ↔ a = b := ⟨fun w => by cases w; rfl, by rintro rfl; exact .same _ (by simp only [V.nin])⟩
theorem wk_list {h : Nat → Option Ob} {hl : List (Nat × Ob)} (a b : List (List V)) (f g : Bool) : Wk h hl (.list a f) (.list b g) ↔ a = b ∧ f = g := ⟨fun w => by cases w; exact ⟨rfl, rfl⟩, by rintro ⟨rfl, rfl⟩; exact .same _ (by simp only [V.nin])⟩
theorem wk_row {h : Nat → Option Ob} {hl : List (Nat × Ob)} (a b : List V) (f g : Nat) : Wk h hl (.row a f) (.row b g) ↔ a = b ∧ f = g := ⟨fun w => by cases w; exact ⟨rfl, rfl⟩, by rintro ⟨rfl, rfl⟩; exact .same _ (by simp only [V.nin])⟩
theorem wk_nils {h : Nat → Option Ob} {hl : List (Nat × Ob)} : Wk h hl .nils .nils ↔ True := ⟨fun _ => trivial, fun _ => .same _ (by simp only [V.nin])⟩
theorem wk_nilp {h : Nat → Option Ob} {hl : List (Nat × Ob)} : Wk h hl .nilp .nilp ↔ True := ⟨fun _ => trivial, fun _ => .same _ (by simp only [V.nin])⟩
theorem wk_nilm {h : Nat → Option Ob} {hl : List (Nat × Ob)} : Wk h hl .nilm .nilm ↔ True := ⟨fun _ => trivial, fun _ => .same _ (by simp only [V.nin])⟩
theorem wk_ptr {h : Nat → Option Ob} {hl : List (Nat × Ob)} (n m a b : Nat) : Wk h hl (.ptr n a) (.ptr m b) ↔ n = m ∧ a = b ∧ (hl.map (·.1)).contains n = true :=
  ⟨fun w => by cases w with | same _ hn => exact ⟨rfl, rfl, by simpa only [V.nin] using hn⟩, by rintro ⟨rfl, rfl, hc⟩; exact .same _ (by simpa only [V.nin] using hc)⟩
theorem wk_eptr {h : Nat → Option Ob} {hl : List (Nat × Ob)} (n m a b c d e f : Nat) : Wk h hl (.eptr n a c e) (.eptr m b d f) ↔ n = m ∧ a = b ∧ c = d ∧ e = f ∧ (hl.map (·.1)).contains n = true :=
  ⟨fun w => by cases w with | same _ hn => exact ⟨rfl, rfl, rfl, rfl, by simpa only [V.nin] using hn⟩, by rintro ⟨rfl, rfl, rfl, rfl, hc⟩; exact .same _ (by simpa only [V.nin] using hc)⟩
theorem wk_own {h : Nat → Option Ob} {hl : List (Nat × Ob)} (n m a b : Nat) : Wk h hl (.own n a) (.own m b) ↔ n = m ∧ a = b ∧ (hl.map (·.1)).contains n = true :=
  ⟨fun w => by cases w with | same _ hn => exact ⟨rfl, rfl, by simpa only [V.nin] using hn⟩, by rintro ⟨rfl, rfl, hc⟩; exact .same _ (by simpa only [V.nin] using hc)⟩
theorem wk_map {h : Nat → Option Ob} {hl : List (Nat × Ob)} (n m : Nat) : Wk h hl (.map n) (.map m) ↔ n = m ∧ (hl.map (·.1)).contains n = true :=
  ⟨fun w => by cases w with | same _ hn => exact ⟨rfl, by simpa only [V.nin] using hn⟩, by rintro ⟨rfl, hc⟩; exact .same _ (by simpa only [V.nin] using hc)⟩
theorem wk_agg {h : Nat → Option Ob} {hl : List (Nat × Ob)} (a b : List V) : Wk h hl (.agg a) (.agg b) ↔ a = b ∧ V.nins (hl.map (·.1)) a = true :=
  ⟨fun w => by cases w with | same _ hn => exact ⟨rfl, by simpa only [V.nin] using hn⟩, by rintro ⟨rfl, hc⟩; exact .same _ (by simpa only [V.nin] using hc)⟩
theorem wk_tup {h : Nat → Option Ob} {hl : List (Nat × Ob)} (a b : List V) : Wk h hl (.tup a) (.tup b) ↔ a = b ∧ V.nins (hl.map (·.1)) a = true :=
  ⟨fun w => by cases w with | same _ hn => exact ⟨rfl, by simpa only [V.nin] using hn⟩, by rintro ⟨rfl, hc⟩; exact .same _ (by simpa only [V.nin] using hc)⟩
theorem wk_fn {h : Nat → Option Ob} {hl : List (Nat × Ob)} {n : Nat} {a : List V} (hn : V.nins (hl.map (·.1)) a = true) : Wk h hl (.fn n a) (.fn n a) := .same _ (by simpa only [V.nin] using hn)
/-- A box that nobody writes any more. -/
theorem wk_frzb {h : Nat → Option Ob} {hl : List (Nat × Ob)} {n off : Nat} {cells : List V} {t : TypeId} (hn : h n = some (.box t cells)) (h' : mkH hl n = none) (hp : V.purs cells = true) : Wk h hl (.ptr n off) (.row cells off) := .frzb n off t cells hn h' hp
theorem wk_fn1 {h : Nat → Option Ob} {hl : List (Nat × Ob)} {f : Nat} {a b : V} (hw : Wk h hl a b) : Wk h hl (.fn f [a]) (.fn f [b]) :=
  .fnc f [a] [b] rfl (fun i u v h1 h2 => by
    cases i with
    | zero => simp only [List.getElem?_cons_zero, Option.some.injEq] at h1 h2; subst h1 h2; exact hw
    | succ i => simp at h1)
/-- A slice that was grown is handed on. -/
theorem wk_frz {h : Nat → Option Ob} {hl : List (Nat × Ob)} {n len : Nat} {rows : List (List V)} {t : TypeId} {sz : Nat} (hn : h n = some (.arr t sz rows)) (hl' : rows.length = len) (h' : mkH hl n = none) (hp : ∀ r ∈ rows, V.purs r = true) : Wk h hl (.own n len) (.list rows false) := by
  subst hl'; exact .frz n t sz rows hn h' hp
theorem cast_succ (k : Nat) : ((k + 1 : Nat) : Int) = (k : Int) + 1 := by omega
theorem getD_map {α : Type} (f : α → List V) (l : List α) (k : Nat) (h : k < l.length) : (l.map f).getD k [] = f l[k] := by
  rw [List.getD_eq_getElem?_getD, List.getElem?_map, List.getElem?_eq_getElem h]; rfl
theorem isS_s (l : List UInt8) : (Ky.s l).kd = 0 := rfl
theorem isS_i (n : Int) : (Ky.i n).kd = 1 := rfl
theorem isS_ss (a b : List UInt8) : (Ky.ss a b).kd = 2 := rfl
theorem pick_1 (x p q : Bool) : evPick (.bool x) (.bool p) (.bool q) = Res.pure True (.bool (bif x then p else q)) := by simp [evPick, V.strip, V.cnd]
theorem pick_2 (x h p q : Bool) : evPick (.bool x) (.when h (.bool p)) (.bool q) = Res.pure (x = true → h = true) (.bool (bif x then p else q)) := by simp [evPick, V.strip, V.cnd]
theorem pick_3 (x p h q : Bool) : evPick (.bool x) (.bool p) (.when h (.bool q)) = Res.pure (x = false → h = true) (.bool (bif x then p else q)) := by simp [evPick, V.strip, V.cnd]
theorem pick_4 (x h p k q : Bool) : evPick (.bool x) (.when h (.bool p)) (.when k (.bool q)) = Res.pure ((x = true → h = true) ∧ (x = false → k = true)) (.bool (bif x then p else q)) := by simp [evPick, V.strip, V.cnd]
theorem pick_f (a : V) (q : Bool) : evPick (.bool false) a (.bool q) = Res.pure True (.bool q) := by
  cases a with
  | when b v => cases v <;> simp [evPick, V.strip, V.cnd, Res.pure]
  | _ => simp [evPick, V.strip, V.cnd, Res.pure]
theorem pick_t (b : V) (p : Bool) : evPick (.bool true) (.bool p) b = Res.pure True (.bool p) := by
  cases b with
  | when b v => cases v <;> simp [evPick, V.strip, V.cnd, Res.pure]
  | _ => simp [evPick, V.strip, V.cnd, Res.pure]
theorem pick_fw (a : V) (k q : Bool) : evPick (.bool false) a (.when k (.bool q)) = Res.pure (k = true) (.bool q) := by
  cases a with
  | when b v => cases v <;> simp [evPick, V.strip, V.cnd, Res.pure]
  | _ => simp [evPick, V.strip, V.cnd, Res.pure]
theorem pick_tw (b : V) (k p : Bool) : evPick (.bool true) (.when k (.bool p)) b = Res.pure (k = true) (.bool p) := by
  cases b with
  | when b v => cases v <;> simp [evPick, V.strip, V.cnd, Res.pure]
  | _ => simp [evPick, V.strip, V.cnd, Res.pure]
theorem pick_w (g x : Bool) (a b : V) : evPick (.when g (.bool x)) a b = Res.pure (g = true ∧ (evPick (.bool x) a b).φ) (evPick (.bool x) a b).v := by
  simp only [evPick, V.strip, V.cnd]
  split <;> simp_all [Res.pure, Res.no]
attribute [go_sem] pick_1 pick_2 pick_3 pick_4 pick_f pick_t pick_fw pick_tw pick_w
attribute [go_sem] eq_self wk_any wk_bool wk_int wk_str wk_list wk_row wk_nils wk_nilp wk_nilm wk_ptr wk_eptr wk_own wk_map wk_agg wk_tup Int.ofNat_eq_coe Int.cast_ofNat_Int WkOb All2W cast_succ List.length_map Int.toNat_natCast
attribute [go_sem] evSlc V.nn1 List.isEmpty_cons List.isEmpty_nil arun arunB numb eCall fpAll setE hov rn rni Ob.ren Ob.nin Ob.kind V.ren V.rens AO.res AO.next AO.fp AO.rd AO.wr aeval rdF wrF gE isPick gCond AOp.args AE.ev V.strip V.cnd V.shaped V.one V.cells V.nm V.isOwn V.leaf V.leaf1 V.pur V.purs V.nin V.nins argφ borrow upd hupd hupds mkE mkH argE
  evBin evBinB evUn evLoad evStore evFld evIdx evLen evLenO rowsOf evApp evInt evFnv evCallv kyOf isS_ss isS_s isS_i mpOf evLook evMset evMlen evMks evMn evMx boundOf evSub evSsub evConv Option.map_some Option.map_none Option.toList_some Option.toList_none AE.slots List.replicate_zero putAt fillV Res.pure Res.no Fp.indep apartN thenQ blockQ Option.getD_some Option.getD_none
  List.getD_cons_zero List.getD_cons_succ List.getD_nil List.length_cons List.length_nil List.drop_zero List.drop_succ_cons List.take_succ_cons List.take_zero List.drop_nil List.take_nil List.nil_append List.cons_append List.append_nil List.map_cons List.map_nil
  List.all_cons List.all_nil List.any_cons List.any_nil List.forall_mem_cons List.not_mem_nil Bool.and_true Bool.true_and Bool.and_false Bool.false_and Bool.or_true Bool.true_or Bool.or_false Bool.false_or beq_self_eq_true beq_tt beq_ff bcond_ff bcond_tt true_and and_true forall_const implies_true true_implies bne_self_eq_false Nat.zero_add
  emp_imp List.flatMap_cons List.flatMap_nil Nat.lt_add_one Bool.not_true Bool.not_false imp_self and_self ne_eq not_false_eq_true not_true_eq_false or_false false_or or_true true_or List.contains_cons List.contains_nil
/-- PureC.of_aw, what is asked at the end behind a letter. -/
theorem PureC.of_awQ {P : Program} {U : Tbl} {f : Nat} {fn : Func} {c : Code} {rs : List AR} {g : List V → Prop × V} (hf : P.funcs[f]? = some fn) (hb : fn.body = some c) (hname : (fn.name == "runtime.NumGoroutine") = false) (hr : fn.results.toList.mapM (trR P) = some rs)
    (hw : ∀ vs, (g vs).1 → vs.length ≤ fn.ntmps ∧ ∀ (C : Ctx U), C.N = fn.ntmps → ∀ Q : Exit → St → Prop, (∀ e s', e = .ret ∨ e = .normal → outφ rs s' → outV rs s' = (g vs).2 → (outV rs s').pur = true → Q e s') → AW P C c Q ⟨argE vs, fun _ => none⟩) : PureC P U f g :=
  PureC.of_aw hf hb hname hr fun vs hv => let ⟨h1, h2⟩ := hw vs hv; ⟨h1, fun C hC => h2 C hC _ fun _ _ a b c d => ⟨a, b, c, d⟩⟩
end Go.Proofs.YtcongikpaonliaaDoor
