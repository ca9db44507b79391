/- More operations: function values, maps, make, min and max, parts of slices and strings, conversions of integers. -/
import Derived.Test.YtcongikpaonliaaDoorAv11
namespace Go.Proofs.YtcongikpaonliaaDoor
open Go Go.RowKit
set_option linter.unusedSimpArgs false
set_option linter.unusedVariables false
set_option linter.deprecated false
section
variable {P : Program} {U : Tbl} {C : Ctx U} {h : Nat → Option Ob} {w : World} {M : Nat → Prop} {ι : Nat → Value} {o : Oper} {a : Act} {E : AE → V} {G : Tab} {d : Nat}
theorem sim_mkfn {f : Nat} {caps : Array Operand} {cs : List AE} (ho : o.op = .makeFunc (.func f) #[] caps) (hc : caps.toList.mapM trE = some cs) (hm : Mem C h w M ι) (hx : ∀ (i : Nat) (y : AE), cs[i]? = some y → Rel M w ι h (E y) ((caps.map a.eval).getD i undef)) : Sim P G C h w M ι o a E d (.mkfn f cs) := by
  intro _
  have hlen := mapM_len hc
  refine .run (cv := .func (.func f) #[] (caps.map a.eval)) (w' := w) ?_ (After.same hm (.fn f _ _ (by simpa using hlen) (fun i v hi => ?_)))
  · simp [execOp, ho, Instr.makeFunc]
  · rw [List.getElem?_map] at hi
    obtain ⟨y, hy, rfl⟩ := Option.map_eq_some_iff.1 hi
    exact hx i y hy
theorem sim_conv {src dst : TypeId} {k ks : IntKind} {x0 : Operand} {x : AE} (ho : o.op = .convert src dst x0) (hs : P.underlying src = some (.int ks)) (hd : P.underlying dst = some (.int k)) (hm : Mem C h w M ι) (hx : Rel M w ι h (E x) (a.eval x0)) : Sim P G C h w M ι o a E d (.conv k x) := by
  unfold Sim aeval evConv
  dsimp only
  generalize hEx : E x = ex at hx
  cases ex with
  | int k0 n =>
    intro hφ
    refine .run (cv := .int k n) (w' := w) ?_ (After.same hm (.pur (.int _ _)))
    have e : k.wrap n = n := hφ
    simp [execOp, ho, hx.int_inv, convert, run_underlying hs, run_underlying hd, Conv.intToInt, e]
  | _ => exact fun hφ => hφ.elim
theorem int_min (p q : Int) : (if q < p then q else p) = min p q := by rw [Int.min_def]; split <;> split <;> omega
theorem int_max (p q : Int) : (if q > p then q else p) = max p q := by rw [Int.max_def]; split <;> split <;> omega
theorem sim_mn {x0 y0 : Operand} {x y : AE} {args : Array Operand} {ats : Array TypeId} (ho : o.op = .call { callee := .builtin .min, args, argTypes := ats }) (ha : args = #[x0, y0]) (hm : Mem C h w M ι) (hx : Rel M w ι h (E x) (a.eval x0)) (hy : Rel M w ι h (E y) (a.eval y0)) : Sim P G C h w M ι o a E d (.mn x y) := by
  unfold Sim aeval evMn
  dsimp only
  split
  · rename_i p q e1 e2
    rw [e1] at hx; rw [e2] at hy
    intro _
    refine .run (cv := .int .i64 (min p q)) (w' := w) ?_ (After.same hm (.pur (.int _ _)))
    simp only [execOp, ho, ha, resolve, invoke, builtin, Sem.run_bind, Sem.run_pure, Result.andThen_ok, List.map_toArray, List.map_cons, List.map_nil, hx.int_inv, hy.int_inv, Builtin.min_, List.foldlM_cons, List.foldlM_nil, Builtin.min2]
    rw [int_min]
  · exact fun hφ => hφ.elim
theorem sim_mx {x0 y0 : Operand} {x y : AE} {args : Array Operand} {ats : Array TypeId} (ho : o.op = .call { callee := .builtin .max, args, argTypes := ats }) (ha : args = #[x0, y0]) (hm : Mem C h w M ι) (hx : Rel M w ι h (E x) (a.eval x0)) (hy : Rel M w ι h (E y) (a.eval y0)) : Sim P G C h w M ι o a E d (.mx x y) := by
  unfold Sim aeval evMx
  dsimp only
  split
  · rename_i p q e1 e2
    rw [e1] at hx; rw [e2] at hy
    intro _
    refine .run (cv := .int .i64 (max p q)) (w' := w) ?_ (After.same hm (.pur (.int _ _)))
    simp only [execOp, ho, ha, resolve, invoke, builtin, Sem.run_bind, Sem.run_pure, Result.andThen_ok, List.map_toArray, List.map_cons, List.map_nil, hx.int_inv, hy.int_inv, Builtin.max_, List.foldlM_cons, List.foldlM_nil, Builtin.max2]
    rw [int_max]
  · exact fun hφ => hφ.elim
/-! Maps. -/
theorem Rel.map_inv {n : Nat} {cv : Value} (r : Rel M w ι h (.map n) cv) : ∃ es, h n = some (.mp es) ∧ cv = ι n := by
  cases r with
  | pur hp => cases hp
  | map _ es ho _ hv _ => exact ⟨es, ho, hv⟩
theorem Rel.nilm_inv {cv : Value} (r : Rel M w ι h .nilm cv) : cv = .map none := by cases r with | pur hp => cases hp; rfl
theorem kyOf_rel {k : V} {key : Ky} {cv : Value} (r : Rel M w ι h k cv) (hk : kyOf k = some key) : KyRel key cv := by
  unfold kyOf at hk
  split at hk
  · injection hk with hk; subst hk; exact r.str_inv
  · injection hk with hk; subst hk; exact r.int_inv
  · injection hk with hk
    subst hk
    obtain ⟨cs, e, hl, _, hv⟩ := r.agg_inv
    have h0 := (hv 0 _ rfl).str_inv
    have h1 := (hv 1 _ rfl).str_inv
    show _ = _
    rw [e]
    congr 1
    apply Array.ext
    · simpa using hl.symm
    · intro i hi hi2
      have hi3 : i < 2 := by simpa using hi2
      match i, hi3 with
      | 0, _ => simpa [Array.getD, hi] using h0
      | 1, _ => simpa [Array.getD, hi] using h1
  · cases hk
/-- The type of a map's keys: texts, numbers, pairs of texts. -/
def KeyT (P : Program) (kt : TypeId) : Nat → Prop
  | 0 => P.underlying kt = some .string
  | 1 => P.underlying kt = some (.int .i64)
  | 2 => ∃ e, P.underlying kt = some (.array 2 e) ∧ P.underlying e = some .string ∧ szT P e = some 1
  | _ => False
theorem findKey_now {P : Program} {kt : TypeId} {td : TypeDesc} {kv : Value} {key : Ky} {sm : Ky → Bool} {w : World} (hkt : P.underlying kt = some td) (hs : ∀ (k' : Ky) (cv' : Value), KyRel k' cv' → sm k' = true → Instr.sameNow td kv cv' = some (decide (k' = key))) (es : List (Ky × V)) (ents : List MapEntry) (hl : es.length = ents.length) (h2 : ∀ p ∈ es, sm p.1 = true)
    (he : ∀ (j : Nat) (p : Ky × V), es[j]? = some p → ∃ en, ents[j]? = some en ∧ KyRel p.1 en.key) : (Instr.findKey kt kv ents).run P w = .ok ((es.findIdx? fun p => decide (p.1 = key)).map fun j => (0 + j, (ents.getD j default).val)) w := by
  have main : ∀ (es : List (Ky × V)) (ents : List MapEntry) (i : Nat), es.length = ents.length → (∀ p ∈ es, sm p.1 = true) → (∀ (j : Nat) (p : Ky × V), es[j]? = some p → ∃ en, ents[j]? = some en ∧ KyRel p.1 en.key) →
      Instr.findNow td kv ents i = some ((es.findIdx? fun p => decide (p.1 = key)).map fun j => (i + j, (ents.getD j default).val)) := by
    intro es
    induction es with
    | nil =>
      intro ents i hl _ _
      cases ents with
      | nil => rfl
      | cons _ _ => cases hl
    | cons p es ih =>
      intro ents i hl h2 he
      cases ents with
      | nil => cases hl
      | cons en ents =>
        obtain ⟨en', h1, h3⟩ := he 0 p rfl
        simp only [List.getElem?_cons_zero, Option.some.injEq] at h1
        subst h1
        rw [Instr.findNow, hs _ _ h3 (h2 p (List.mem_cons_self ..)), List.findIdx?_cons]
        by_cases e : p.1 = key
        · simp [e]
        · simp only [e, decide_false]
          rw [ih ents (i + 1) (by simpa using hl) (fun q hq => h2 q (List.mem_cons_of_mem _ hq)) (fun j q hj => by
            obtain ⟨en2, g1, g2⟩ := he (j + 1) q (by rw [List.getElem?_cons_succ]; exact hj)
            rw [List.getElem?_cons_succ] at g1
            exact ⟨en2, g1, g2⟩)]
          simp only [Bool.false_eq_true, if_false, Option.map_map, Option.some.injEq]
          congr 1
          funext j
          simp only [Function.comp_apply, List.getD_cons_succ]
          congr 1
          omega
  unfold Instr.findKey
  rw [Sem.run_bind, run_underlying hkt]
  simp only [Result.andThen_ok]
  rw [main es ents 0 hl h2 he]
  rfl
theorem equal_ss {P : Program} {kt e : TypeId} (h1 : P.underlying kt = some (.array 2 e)) (h2 : P.underlying e = some .string) (h3 : szT P e = some 1) (a b c d : List UInt8) (w : World) :
    (Op.equal kt (.agg #[.string ⟨a.toArray⟩, .string ⟨b.toArray⟩]) (.agg #[.string ⟨c.toArray⟩, .string ⟨d.toArray⟩])).run P w = .ok (decide (a = c) && decide (b = d)) w := by
  have hag : aggT P e = some false := by simp [aggT, h2]
  have hstr : ∀ (x y : List UInt8), ((⟨x.toArray⟩ : ByteArray) == ⟨y.toArray⟩) = decide (x = y) := fun x y => by
    rw [beq_toListBytes, str_eq]
  have heq : ∀ (x y : List UInt8), (Op.equalIn 9999 e (.string ⟨x.toArray⟩) (.string ⟨y.toArray⟩)).run P w = .ok (decide (x = y)) w := fun x y => by
    rw [show (9999 : Nat) = 9998 + 1 from rfl, Op.equalIn, Sem.run_bind, run_underlying h2]
    simp only [Result.andThen_ok, Sem.run_pure, hstr]
  unfold Op.equal
  rw [show Op.maxDepth = 9999 + 1 from rfl, Op.equalIn, Sem.run_bind, run_underlying h1]
  simp only [Result.andThen_ok]
  rw [Sem.run_bind, run_sizeOf h3]
  simp only [Result.andThen_ok, Std.Legacy.Range.forIn_eq_forIn_range', Std.Legacy.Range.size, Nat.sub_zero, Nat.reduceAdd, Nat.add_one_sub_one, Nat.reduceDiv, List.range'_succ, List.range'_zero, List.forIn_cons, List.forIn_nil]
  cases q1 : decide (a = c) <;> cases q2 : decide (b = d) <;> simp [Sem.run_bind, part, run_isAgg hag, heq, q1, q2]
theorem findKey_ask {P : Program} {kt e : TypeId} (h1 : P.underlying kt = some (.array 2 e)) (h2 : P.underlying e = some .string) (h3 : szT P e = some 1) {kv : Value} {key : Ky} (hk : KyRel key kv) (s1 : key.kd = 2) {w : World} (es : List (Ky × V)) (ents : List MapEntry) (hl : es.length = ents.length) (hs : ∀ p ∈ es, p.1.kd = 2)
    (he : ∀ (j : Nat) (p : Ky × V), es[j]? = some p → ∃ en, ents[j]? = some en ∧ KyRel p.1 en.key) : (Instr.findKey kt kv ents).run P w = .ok ((es.findIdx? fun p => decide (p.1 = key)).map fun j => (0 + j, (ents.getD j default).val)) w := by
  cases key with
  | s _ => cases s1
  | i _ => cases s1
  | ss a b =>
  simp only [KyRel] at hk
  subst hk
  have main : ∀ (es : List (Ky × V)) (ents : List MapEntry) (i : Nat), es.length = ents.length → (∀ p ∈ es, p.1.kd = 2) → (∀ (j : Nat) (p : Ky × V), es[j]? = some p → ∃ en, ents[j]? = some en ∧ KyRel p.1 en.key) →
      (Instr.findAsking kt (.agg #[.string ⟨a.toArray⟩, .string ⟨b.toArray⟩]) ents i).run P w = .ok ((es.findIdx? fun p => decide (p.1 = .ss a b)).map fun j => (i + j, (ents.getD j default).val)) w := by
    intro es
    induction es with
    | nil =>
      intro ents i hl _ _
      cases ents with
      | nil => rfl
      | cons _ _ => cases hl
    | cons p es ih =>
      intro ents i hl hs he
      cases ents with
      | nil => cases hl
      | cons en ents =>
        obtain ⟨en', g1, g3⟩ := he 0 p rfl
        simp only [List.getElem?_cons_zero, Option.some.injEq] at g1
        subst g1
        have hp := hs p (List.mem_cons_self ..)
        obtain ⟨pk, pv⟩ := p
        cases pk with
        | s _ => cases hp
        | i _ => cases hp
        | ss c d =>
        simp only [KyRel] at g3
        rw [Instr.findAsking, Sem.run_bind, g3, equal_ss h1 h2 h3, List.findIdx?_cons]
        simp only [Result.andThen_ok, Ky.ss.injEq]
        by_cases q : c = a ∧ d = b
        · obtain ⟨rfl, rfl⟩ := q
          simp
        · have q' : (decide (a = c) && decide (b = d)) = false := by
            rw [Bool.and_eq_false_iff, decide_eq_false_iff_not, decide_eq_false_iff_not]
            by_cases qa : a = c
            · exact .inr fun qb => q ⟨qa.symm, qb.symm⟩
            · exact .inl qa
          rw [q', decide_eq_false q]
          simp only [Bool.false_eq_true, if_false]
          rw [ih ents (i + 1) (by simpa using hl) (fun q hq => hs q (List.mem_cons_of_mem _ hq)) (fun j q hj => by
            obtain ⟨en2, g1, g2⟩ := he (j + 1) q (by rw [List.getElem?_cons_succ]; exact hj)
            rw [List.getElem?_cons_succ] at g1
            exact ⟨en2, g1, g2⟩)]
          simp only [Option.map_map]
          congr 2
          funext j
          simp only [Function.comp_apply, List.getD_cons_succ]
          congr 1
          omega
  unfold Instr.findKey
  rw [Sem.run_bind, run_underlying h1]
  simp only [Result.andThen_ok]
  cases ents with
  | nil =>
    have : es = [] := List.length_eq_zero_iff.1 hl
    subst this
    rfl
  | cons en ents =>
    rw [Instr.findNow, Instr.sameNow]
    · exact main es (en :: ents) 0 hl hs he
    all_goals (intros; simp_all)
theorem findKey_ky {P : Program} {kt : TypeId} {ks : Nat} {key : Ky} {kv : Value} {w : World} (hkt : KeyT P kt ks) (hk : KyRel key kv) (s1 : key.kd = ks) (es : List (Ky × V)) (ents : List MapEntry) (hl : es.length = ents.length) (hs : ∀ p ∈ es, p.1.kd = ks)
    (he : ∀ (j : Nat) (p : Ky × V), es[j]? = some p → ∃ en, ents[j]? = some en ∧ KyRel p.1 en.key) : (Instr.findKey kt kv ents).run P w = .ok ((es.findIdx? fun p => decide (p.1 = key)).map fun j => (0 + j, (ents.getD j default).val)) w := by
  subst s1
  cases key with
  | s l =>
    refine findKey_now (sm := fun k => decide (k.kd = 0)) (td := .string) hkt (fun k' cv' h1 h2 => ?_) es ents hl (fun p hp => decide_eq_true (hs p hp)) he
    cases k' with
    | s l' =>
      simp only [KyRel] at hk h1
      subst hk h1
      simp only [Instr.sameNow, Option.some.injEq]
      rw [beq_toListBytes, str_eq]
      by_cases e : l' = l
      · subst e; simp
      · simp [e, Ne.symm e]
    | _ => simp [Ky.kd] at h2
  | i n =>
    refine findKey_now (sm := fun k => decide (k.kd = 1)) (td := .int .i64) hkt (fun k' cv' h1 h2 => ?_) es ents hl (fun p hp => decide_eq_true (hs p hp)) he
    cases k' with
    | i n' =>
      simp only [KyRel] at hk h1
      subst hk h1
      simp only [Instr.sameNow, if_true, Option.some.injEq]
      by_cases e : n' = n
      · subst e; simp
      · simp [e, Ne.symm e]
    | _ => simp [Ky.kd] at h2
  | ss a b =>
    obtain ⟨e, h1, h2, h3⟩ := hkt
    exact findKey_ask h1 h2 h3 hk rfl es ents hl hs he
/-- What a map value holds. -/
theorem mpOf_spec (hm : Mem C h w M ι) {m : V} {cv : Value} (hr : Rel M w ι h m cv) {es : List (Ky × V)} (he : mpOf h m = some es) : (cv = .map none ∧ es = []) ∨ ∃ (b : Nat) (ents : Array MapEntry) (clock : Nat), cv = .map (some b) ∧ w.heap[b]? = some (.map ents clock) ∧ es.length = ents.size ∧
    ∀ (i : Nat) (kv : Ky × V), es[i]? = some kv → ∃ en : MapEntry, ents[i]? = some en ∧ KyRel kv.1 en.key ∧ Rel M w ι h kv.2 en.val := by
  unfold mpOf at he
  cases m with
  | map n =>
    dsimp only at he
    obtain ⟨es', hn, hcv⟩ := hr.map_inv
    rw [hn] at he
    injection he with he
    subst he
    obtain ⟨b, ents, clock, e, hh, hl, hv⟩ := hm.obj n _ hn
    exact .inr ⟨b, ents, clock, hcv.trans e, hh, hl, hv⟩
  | nilm => injection he with he; subst he; exact .inl ⟨hr.nilm_inv, rfl⟩
  | _ => cases he
theorem mget_idx {es : List (Ky × V)} {k : Ky} {zero : V} {j : Nat} (hj : (es.findIdx? fun p => decide (p.1 = k)) = some j) : ∃ p, es[j]? = some p ∧ mget es k zero = p.2 ∧ mhas es k = true ∧ p.1 = k := by
  obtain ⟨hlt, h1, h2⟩ := List.findIdx?_eq_some_iff_getElem.1 hj
  refine ⟨es[j], List.getElem?_eq_getElem hlt, ?_, List.any_eq_true.2 ⟨es[j], List.getElem_mem hlt, h1⟩, by simpa using h1⟩
  unfold mget
  have : es.find? (fun p => decide (p.1 = k)) = some es[j] := by
    rw [List.find?_eq_some_iff_getElem]
    exact ⟨h1, j, hlt, rfl, fun i hi => by simpa using h2 i hi⟩
  rw [this]
  rfl
theorem mget_none {es : List (Ky × V)} {k : Ky} {zero : V} (hj : (es.findIdx? fun p => decide (p.1 = k)) = none) : mget es k zero = zero ∧ mhas es k = false := by
  have h1 : ∀ p ∈ es, ¬ p.1 = k := by simpa using hj
  refine ⟨?_, List.any_eq_false.2 (fun p hp => by simpa using h1 p hp)⟩
  unfold mget
  have : es.find? (fun p => decide (p.1 = k)) = none := List.find?_eq_none.2 (fun p hp => by simpa using h1 p hp)
  rw [this]
  rfl
theorem checkKey_plain {P : Program} {e : Bool} {t : TypeId} {key : Ky} {kv : Value} {ks : Nat} (ht : KeyT P t ks) (hk : KyRel key kv) (s1 : key.kd = ks) (w : World) : (Instr.checkKey e 10000 t kv).run P w = .ok () w := by
  subst s1
  have plain : ∀ {n : Nat} {t : TypeId} {kv : Value}, (P.underlying t = some .string ∨ P.underlying t = some (.int .i64)) → (Instr.checkKey e (n + 1) t kv).run P w = .ok () w := by
    intro n t kv ht
    rw [Instr.checkKey, Sem.run_bind]
    rcases ht with ht | ht <;> (rw [run_underlying ht]; rfl)
  cases key with
  | s l => exact plain (n := 9999) (.inl ht)
  | i n => exact plain (n := 9999) (.inr ht)
  | ss a b =>
    obtain ⟨el, h1, h2, h3⟩ := ht
    simp only [KyRel] at hk
    subst hk
    have hag : aggT P el = some false := by simp [aggT, h2]
    have hp : ∀ kv, (Instr.checkKey e 9999 el kv).run P w = .ok () w := fun kv => plain (n := 9998) (.inl h2)
    rw [show (10000 : Nat) = 9999 + 1 from rfl, Instr.checkKey, Sem.run_bind, run_underlying h1]
    simp only [Result.andThen_ok, Std.Legacy.Range.forIn_eq_forIn_range', Std.Legacy.Range.size, Nat.sub_zero, Nat.reduceAdd, Nat.add_one_sub_one, Nat.reduceDiv, List.range'_succ, List.range'_zero, List.forIn_cons, List.forIn_nil]
    simp [Sem.run_bind, part, run_isAgg hag, run_sizeOf h3, hp]
theorem sim_mkmap {t : TypeId} (ho : o.op = .makeMap t none) (hm : Mem C h w M ι) : Sim P G C h w M ι o a E d .mkmap := by
  intro hφ
  obtain ⟨q2, q3⟩ := hφ
  refine .run (cv := .map (some w.heap.size)) (w' := w.alloc (.map #[] 0)) ?_ ?_
  · simp only [execOp, ho, Option.map_none, Sem.run_bind, run_makeMap, Result.andThen_ok, Sem.run_pure]
  · refine after_new hm q2 q3 (.mp []) (.map (some w.heap.size)) (w.alloc (.map #[] 0)) (by simp) rfl rfl rfl (fun k hk => heap_alloc_old w _ hk) (fun g hg => by cases hg; exact Nat.le_refl _) (fun {h' ι'} hk hi hMw => ?_) ?_
    · exact ⟨w.heap.size, #[], 0, hi, heap_alloc_new w _, rfl, fun i kv hi' => by simp at hi'⟩
    · exact .map d [] (hupd_same _ _ _) _ (iupd_same _ _ _).symm rfl
theorem sim_look {t kt et : TypeId} {ks : Nat} {ok : Bool} {i : TypeInfo} {z : Value} {m0 k0 : Operand} {m k : AE} (ho : o.op = .lookup t m0 k0 ok) (ht : P.underlying t = some (.map kt et)) (hkt : KeyT P kt ks) (hi : P.info? et = some i) (hz : i.zero = some z)
    (hm : Mem C h w M ι) (hmr : Rel M w ι h (E m) (a.eval m0)) (hkr : Rel M w ι h (E k) (a.eval k0)) : Sim P G C h w M ι o a E d (.look ks ok (ofVal z) m k) := by
  unfold Sim aeval evLook
  dsimp only
  split
  · rename_i es key he hke
    intro hφ
    obtain ⟨s1, s2⟩ := hφ
    have hk := kyOf_rel hkr hke
    have fin : ∀ (ents : Array MapEntry), es.length = ents.size → (∀ (i : Nat) (kv : Ky × V), es[i]? = some kv → ∃ en : MapEntry, ents[i]? = some en ∧ KyRel kv.1 en.key ∧ Rel M w ι h kv.2 en.val) →
        ((a.eval m0 = .map none ∧ ents = #[]) ∨ ∃ b clock, a.eval m0 = .map (some b) ∧ (getObj b).run P w = .ok (.map ents clock) w) →
        Does P o a w (After C h w M ι h (if ok then .tup [mget es key (ofVal z), .bool (mhas es key)] else mget es key (ofVal z))) := by
      intro ents hl hv hcase
      have hfk : (Instr.findKey kt (a.eval k0) ents.toList).run P w = .ok ((es.findIdx? fun p => decide (p.1 = key)).map fun j => (0 + j, (ents.toList.getD j default).val)) w := by
        exact findKey_ky hkt hk s1 es ents.toList (by simpa using hl) s2 (fun j p hj => by
          obtain ⟨en, g1, g2, _⟩ := hv j p hj
          exact ⟨en, by simpa using g1, g2⟩)
      cases hidx : es.findIdx? (fun p => decide (p.1 = key)) with
      | none =>
        obtain ⟨g1, g2⟩ := mget_none (zero := ofVal z) hidx
        rw [hidx] at hfk
        rw [g1, g2]
        cases ok
        · refine .run (cv := z) (w' := w) ?_ (After.same hm (.pur (ofVal_pur M w z)))
          rcases hcase with ⟨e0, rfl⟩ | ⟨b, clock, e0, hgo⟩
          · simp only [execOp, ho, Instr.lookup, Sem.run_bind, run_underlying ht, Result.andThen_ok, e0, checkKey_plain hkt hk s1, hfk, Option.map_none, zeroValue, typeInfo, run_program, hi, hz, Sem.run_bind, Sem.run_pure, Bool.false_eq_true, if_false]
          · simp only [execOp, ho, Instr.lookup, Sem.run_bind, run_underlying ht, Result.andThen_ok, e0, hgo, checkKey_plain hkt hk s1, hfk, Option.map_none, zeroValue, typeInfo, run_program, hi, hz, Sem.run_bind, Sem.run_pure, Bool.false_eq_true, if_false]
        · refine .run (cv := .tuple #[z, .bool false]) (w' := w) ?_ (After.same hm (.tup _ _ rfl (fun i v hi' => ?_)))
          · rcases hcase with ⟨e0, rfl⟩ | ⟨b, clock, e0, hgo⟩
            · simp only [execOp, ho, Instr.lookup, Sem.run_bind, run_underlying ht, Result.andThen_ok, e0, checkKey_plain hkt hk s1, hfk, Option.map_none, zeroValue, typeInfo, run_program, hi, hz, Sem.run_bind, Sem.run_pure, if_true]
            · simp only [execOp, ho, Instr.lookup, Sem.run_bind, run_underlying ht, Result.andThen_ok, e0, hgo, checkKey_plain hkt hk s1, hfk, Option.map_none, zeroValue, typeInfo, run_program, hi, hz, Sem.run_bind, Sem.run_pure, if_true]
          · match i, hi' with
            | 0, hi' => injection hi' with hi'; subst hi'; exact .pur (ofVal_pur M w z)
            | 1, hi' => injection hi' with hi'; subst hi'; exact .pur (.bool _)
      | some j =>
        obtain ⟨p, g1, g2, g3, g4⟩ := mget_idx (zero := ofVal z) hidx
        rw [hidx] at hfk
        obtain ⟨en, v1, v2, v3⟩ := hv j p g1
        have hval : (ents.toList.getD j default).val = en.val := by rw [List.getD_eq_getElem?_getD, Array.getElem?_toList, v1]; rfl
        rw [g2, g3]
        cases ok
        · refine .run (cv := en.val) (w' := w) ?_ (After.same hm v3)
          rcases hcase with ⟨e0, rfl⟩ | ⟨b, clock, e0, hgo⟩
          · simp only [execOp, ho, Instr.lookup, Sem.run_bind, run_underlying ht, Result.andThen_ok, e0, checkKey_plain hkt hk s1, hfk, Option.map_some, hval, Sem.run_bind, Sem.run_pure, Bool.false_eq_true, if_false]
          · simp only [execOp, ho, Instr.lookup, Sem.run_bind, run_underlying ht, Result.andThen_ok, e0, hgo, checkKey_plain hkt hk s1, hfk, Option.map_some, hval, Sem.run_bind, Sem.run_pure, Bool.false_eq_true, if_false]
        · refine .run (cv := .tuple #[en.val, .bool true]) (w' := w) ?_ (After.same hm (.tup _ _ rfl (fun i v hi' => ?_)))
          · rcases hcase with ⟨e0, rfl⟩ | ⟨b, clock, e0, hgo⟩
            · simp only [execOp, ho, Instr.lookup, Sem.run_bind, run_underlying ht, Result.andThen_ok, e0, checkKey_plain hkt hk s1, hfk, Option.map_some, hval, Sem.run_bind, Sem.run_pure, if_true]
            · simp only [execOp, ho, Instr.lookup, Sem.run_bind, run_underlying ht, Result.andThen_ok, e0, hgo, checkKey_plain hkt hk s1, hfk, Option.map_some, hval, Sem.run_bind, Sem.run_pure, if_true]
          · match i, hi' with
            | 0, hi' => injection hi' with hi'; subst hi'; exact v3
            | 1, hi' => injection hi' with hi'; subst hi'; exact .pur (.bool _)
    rcases mpOf_spec hm hmr he with ⟨e0, rfl⟩ | ⟨b, ents, clock, e0, hh, hl, hv⟩
    · exact fin #[] rfl (fun i kv hi' => by simp at hi') (.inl ⟨e0, rfl⟩)
    · exact fin ents hl hv (.inr ⟨b, clock, e0, by simp only [getObj, Sem.run, hh]⟩)
  · exact fun hφ => hφ.elim
theorem sim_mlen {t : TypeId} {x0 : Operand} {x : AE} {args : Array Operand} {kt et : TypeId} (ho : o.op = .call { callee := .builtin .len, args, argTypes := #[t] }) (ha : args = #[x0]) (ht : P.underlying t = some (.map kt et)) (hm : Mem C h w M ι) (hx : Rel M w ι h (E x) (a.eval x0)) : Sim P G C h w M ι o a E d (.mlen x) := by
  unfold Sim aeval evMlen
  dsimp only
  split
  · rename_i es he
    intro _
    rcases mpOf_spec hm hx he with ⟨e0, rfl⟩ | ⟨b, ents, clock, e0, hh, hl, hv⟩
    · refine .run (cv := .int .i64 0) (w' := w) ?_ (After.same hm (.pur (.int _ _)))
      simp [execOp, ho, ha, e0, resolve, invoke, builtin, Builtin.len_, run_underlying ht, goInt]
    · refine .run (cv := .int .i64 es.length) (w' := w) ?_ (After.same hm (.pur (.int _ _)))
      have hgo : (getObj b).run P w = .ok (.map ents clock) w := by simp only [getObj, Sem.run, hh]
      simp [execOp, ho, ha, e0, resolve, invoke, builtin, Builtin.len_, run_underlying ht, goInt, hgo, hl]
  · exact fun hφ => hφ.elim
theorem same_key {k : Ky} {u v : Value} (h1 : KyRel k u) (h2 : KyRel k v) : u = v ∧ Instr.sameBits 10000 u v = true := by
  cases k with
  | s l => simp only [KyRel] at h1 h2; subst h1 h2; exact ⟨rfl, by simp [Instr.sameBits, beq_toListBytes]⟩
  | i n => simp only [KyRel] at h1 h2; subst h1 h2; exact ⟨rfl, by simp [Instr.sameBits]⟩
  | ss a b => simp only [KyRel] at h1 h2; subst h1 h2; exact ⟨rfl, by simp [Instr.sameBits, beq_toListBytes]⟩
theorem sim_mset {t kt et : TypeId} {ks : Nat} {m0 k0 x0 : Operand} {m k x : AE} (ho : o.op = .mapUpdate t m0 k0 x0 ∨ o.op = .insert t m0 k0 x0) (ht : P.underlying t = some (.map kt et)) (hkt : KeyT P kt ks)
    (hm : Mem C h w M ι) (hmr : Rel M w ι h (E m) (a.eval m0)) (hkr : Rel M w ι h (E k) (a.eval k0)) (hxr : Rel M w ι h (E x) (a.eval x0)) : Sim P G C h w M ι o a E d (.mset ks m k x) := by
  unfold Sim aeval evMset
  dsimp only
  split
  · rename_i n key e1 hke
    rw [e1] at hmr
    obtain ⟨es, hn, hcv⟩ := hmr.map_inv
    rw [hn]
    intro hφ
    obtain ⟨s1, s2⟩ := hφ
    have hk := kyOf_rel hkr hke
    obtain ⟨b, ents, clock, e, hh, hl, hv⟩ := hm.obj n _ hn
    have e0 := hcv.trans e
    have hgo : (getObj b).run P w = .ok (.map ents clock) w := by simp only [getObj, Sem.run, hh]
    have hblt : b < w.heap.size := (Array.getElem?_eq_some_iff.1 hh).1
    have hset : ∀ ob, (setObj b ob).run P w = .ok () { w with heap := w.heap.setIfInBounds b ob } := fun ob => by simp only [setObj, Sem.run, hh]
    have hfk : (Instr.findKey kt (a.eval k0) ents.toList).run P w = .ok ((es.findIdx? fun p => decide (p.1 = key)).map fun j => (0 + j, (ents.toList.getD j default).val)) w := by
      exact findKey_ky hkt hk s1 es ents.toList (by simpa using hl) s2 (fun j p hj => by
        obtain ⟨en, g1, g2, _⟩ := hv j p hj
        exact ⟨en, by simpa using g1, g2⟩)
    have fin : ∀ (ents' : Array MapEntry) (clock' : Nat), (mput es key (E x)).length = ents'.size → (∀ (i : Nat) (kv : Ky × V), (mput es key (E x))[i]? = some kv → ∃ en : MapEntry, ents'[i]? = some en ∧ KyRel kv.1 en.key ∧ Rel M w ι h kv.2 en.val) →
        After C h w M ι (hupd h n (.mp (mput es key (E x)))) .any undef { w with heap := w.heap.setIfInBounds b (.map ents' clock') } := by
      intro ents' clock' hl' hv'
      have hoth : ∀ k, k ≠ b → ({ w with heap := w.heap.setIfInBounds b (.map ents' clock') } : World).heap[k]? = w.heap[k]? := fun k hk => by
        show (w.heap.setIfInBounds b _)[k]? = _
        rw [Array.getElem?_setIfInBounds_ne (Ne.symm hk)]
      have hMw : ∀ c, M c → ({ w with heap := w.heap.setIfInBounds b (.map ents' clock') } : World).heap[c]? = w.heap[c]? := fun c hc => hoth c (fun ec => hm.imm n b (by rw [hn]; rfl) (by rw [e]; rfl) (ec ▸ hc))
      have hk2 : Keeps h (hupd h n (.mp (mput es key (E x)))) ι (iupd ι n (ι n)) := .put hn (.inr (.inr ⟨es, _, rfl, rfl, rfl⟩))
      obtain ⟨g1, g2⟩ := hm.step n (.mp (mput es key (E x))) (ι n) { w with heap := w.heap.setIfInBounds b (.map ents' clock') } (by simp) rfl rfl rfl (fun k _ hne => hoth k (fun ek => hne _ hn (by rw [e, ek]; rfl))) (fun g hg => .inl ⟨_, hn, hg⟩) hk2
        ⟨b, ents', clock', by rw [iupd_same]; exact e, by show (w.heap.setIfInBounds b _)[b]? = _; simp [hblt], hl', fun i kv hi => by
          obtain ⟨en, w1, w2, w3⟩ := hv' i kv hi
          exact ⟨en, w1, w2, w3.keep (fun _ hb => hb) hMw hk2⟩⟩
        (fun _ => by rw [hn]; rfl) (fun h1000 => ⟨fun t c he => (by cases he), fun _ _ => (hm.pin n h1000).2 es hn⟩)
      exact ⟨M, _, g1, .pur (.any _), fun _ hb => hb, g2, hk2⟩
    cases hidx : es.findIdx? (fun p => decide (p.1 = key)) with
    | none =>
      rw [hidx] at hfk
      have hput : mput es key (E x) = es ++ [(key, E x)] := by unfold mput; rw [hidx]
      refine .skip (w' := { w with heap := w.heap.setIfInBounds b (.map (ents.push { key := a.eval k0, val := a.eval x0, born := clock }) (clock + 1)) }) ?_ (fin _ _ ?_ ?_)
      · rcases ho with ho | ho <;> simp only [execOp, ho, Instr.mapUpdate, Sem.run_bind, run_underlying ht, Result.andThen_ok, e0, hgo, checkKey_plain hkt hk s1, hfk, Option.map_none, hset, Sem.run_pure]
      · rw [hput]; simp [hl]
      · intro i kv hi
        rw [hput] at hi
        by_cases c : i < es.length
        · rw [List.getElem?_append_left c] at hi
          obtain ⟨en, w1, w2, w3⟩ := hv i kv hi
          exact ⟨en, by rw [Array.getElem?_push_lt (by omega)]; rw [Array.getElem?_eq_getElem (by omega)] at w1; exact w1, w2, w3⟩
        · rw [List.getElem?_append_right (by omega)] at hi
          have : i - es.length = 0 := by
            have := (List.getElem?_eq_some_iff.1 hi).1
            simp at this; omega
          rw [this] at hi
          injection hi with hi
          subst hi
          have ei : i = ents.size := by omega
          subst ei
          exact ⟨{ key := a.eval k0, val := a.eval x0, born := clock }, by simp, hk, hxr⟩
    | some j =>
      rw [hidx] at hfk
      obtain ⟨p, g1, _, _, g4⟩ := mget_idx (zero := .any) hidx
      obtain ⟨en, v1, v2, v3⟩ := hv j p g1
      have hput : mput es key (E x) = es.set j (key, E x) := by unfold mput; rw [hidx]
      have hsame := same_key (g4 ▸ v2) hk
      have hj : j < ents.size := (Array.getElem?_eq_some_iff.1 v1).1
      have hstay : (Instr.keyThatStays (((ents[0 + j]?).map (·.key)).getD (a.eval k0)) (a.eval k0)).run P w = .ok (a.eval k0) w := by
        rw [Nat.zero_add, v1]
        simp only [Option.map_some, Option.getD_some, Instr.keyThatStays, hsame.2, if_true, Sem.run_pure]
      refine .skip (w' := { w with heap := w.heap.setIfInBounds b (.map (ents.modify (0 + j) fun e => { e with key := a.eval k0, val := a.eval x0 }) clock) }) ?_ (fin _ _ ?_ ?_)
      · rcases ho with ho | ho <;> simp only [execOp, ho, Instr.mapUpdate, Sem.run_bind, run_underlying ht, Result.andThen_ok, e0, hgo, checkKey_plain hkt hk s1, hfk, Option.map_some, hstay, hset, Sem.run_pure]
      · rw [hput]; simp [hl]
      · intro i kv hi
        rw [hput] at hi
        rw [Nat.zero_add, Array.getElem?_modify]
        by_cases c : j = i
        · subst c
          rw [List.getElem?_set_self (by omega)] at hi
          injection hi with hi
          subst hi
          rw [if_pos rfl, v1]
          exact ⟨_, rfl, hk, hxr⟩
        · rw [List.getElem?_set_ne c] at hi
          rw [if_neg c]
          exact hv i kv hi
  · exact fun hφ => hφ.elim
/-! make, parts. -/
theorem made_get {z : Array Value} {n k : Nat} (hz : 0 < z.size) (hk : k < n) : (madeCells z n)[k]? = some (z.getD (k % z.size) undef) := by
  have : k % z.size < z.size := Nat.mod_lt _ hz
  simp [madeCells, hk, this]
theorem sim_mks {t e : TypeId} {i : TypeInfo} {z : Value} {sz bytes : Nat} {n0 c0 : Operand} {n c : AE} (ho : o.op = .makeSlice t n0 c0) (ht : P.underlying t = some (.slice e)) (hi : P.info? e = some i) (hz : i.zero = some z) (hsz : i.size = sz) (hby : i.bytes = bytes) (hzs : z.cells.size = sz) (hpos : 0 < sz)
    (h1 : z.cells.toList.all Value.oneCell' = true) (hm : Mem C h w M ι) (hn : Rel M w ι h (E n) (a.eval n0)) (hc : Rel M w ι h (E c) (a.eval c0)) : Sim P G C h w M ι o a E d (.mks e sz bytes (z.cells.toList.map leafV) n c) := by
  unfold Sim aeval evMks
  dsimp only
  split
  · rename_i l q e1 e2
    rw [e1] at hn; rw [e2] at hc
    intro hφ
    obtain ⟨q1, q2, q3, q4, q5⟩ := hφ
    have hq0 : 0 ≤ q := by omega
    obtain ⟨qn, rfl⟩ := Int.eq_ofNat_of_zero_le hq0
    obtain ⟨ln, rfl⟩ := Int.eq_ofNat_of_zero_le q3
    have hbb : (qn : Int) * bytes ≤ 140737488355328 ∧ (qn : Int) ≤ 140737488355328 := by
      have e3 : (qn : Int) * (bytes + 1) = qn * bytes + qn := by rw [Int.mul_add, Int.mul_one]
      have p1 : 0 ≤ (qn : Int) * bytes := Int.mul_nonneg (by omega) (by omega)
      omega
    have hrun := run_make (P := P) w t e i z ht hi hz .i64 .i64 (ln : Int) (qn : Int) q3 q4 (by rw [hby, Int.mul_comm]; omega) (by omega)
    simp only [Int.toNat_natCast, hsz] at hrun
    have hlq : ln ≤ qn := by omega
    refine .run (cv := .slice (some ⟨w.heap.size, 0, none⟩) ln qn) (w' := w.alloc (.cells (madeCells z.cells (qn * sz)) e)) ?_ ?_
    · simp only [execOp, ho, hn.int_inv, hc.int_inv, Sem.run_bind, hrun, Result.andThen_ok, Sem.run_pure]
    · simp only [Int.toNat_natCast]
      have hms : (madeCells z.cells (qn * sz)).size = qn * sz := by simp [madeCells]
      have hle : ln * sz ≤ qn * sz := Nat.mul_le_mul_right _ hlq
      have hget : ∀ k, k < ln * sz → ((madeCells z.cells (qn * sz)).toList.take (ln * sz))[k]? = some (z.cells.getD (k % sz) undef) := fun k hk => by
        rw [List.getElem?_take_of_lt hk, Array.getElem?_toList, made_get (by omega) (by omega), hzs]
      refine after_new hm q1 q2 (.arr e sz (List.replicate ln (z.cells.toList.map leafV))) (.slice (some ⟨w.heap.size, 0, none⟩) ln qn) (w.alloc (.cells (madeCells z.cells (qn * sz)) e)) (by simp) rfl rfl rfl (fun k hk => heap_alloc_old w _ hk) (fun g hg => by cases hg; exact Nat.le_refl _) (fun {h' ι'} hk hi' hMw => ?_) ?_
      · refine ⟨(madeCells z.cells (qn * sz)).toList.take (ln * sz), ?_, fun r hr => ?_, fun x hx => ?_, fun i j r v hi1 hj => ?_⟩
        · rw [hi', List.length_replicate]
          refine ⟨by rw [List.length_take, Array.length_toList, hms]; omega, .inr ⟨w.heap.size, qn, _, rfl, Nat.zero_le _, heap_alloc_new w _, hlq, by unfold maxLen; omega, hms, rfl⟩⟩
        · rw [List.eq_of_mem_replicate hr]; simp [hzs]
        · obtain ⟨k, hk, hk2⟩ := List.mem_iff_getElem.1 hx
          have hk3 : k < ln * sz := by rw [List.length_take] at hk; omega
          have := hget k hk3
          rw [List.getElem?_eq_getElem hk, hk2] at this
          injection this with this
          rw [this]
          exact List.all_eq_true.1 h1 _ (by
            have hmod : k % sz < z.cells.size := by rw [hzs]; exact Nat.mod_lt _ hpos
            have := getD_arr hmod
            rw [← Array.getElem?_toList] at this
            exact List.mem_of_getElem? this)
        · have hil : i < ln := by have := (List.getElem?_eq_some_iff.1 hi1).1; simpa using this
          rw [List.getElem?_replicate_of_lt hil] at hi1
          injection hi1 with hi1
          subst hi1
          rw [List.getElem?_map] at hj
          obtain ⟨c', hc', rfl⟩ := Option.map_eq_some_iff.1 hj
          have hjs : j < sz := by have := (List.getElem?_eq_some_iff.1 hc').1; rw [Array.length_toList, hzs] at this; exact this
          have hlt : i * sz + j < ln * sz := by
            have : i * sz + sz ≤ ln * sz := by rw [← Nat.succ_mul]; exact Nat.mul_le_mul_right _ hil
            omega
          have hmod : (i * sz + j) % sz = j := by rw [Nat.mul_comm, Nat.mul_add_mod, Nat.mod_eq_of_lt hjs]
          rw [List.getD_eq_getElem?_getD, hget _ hlt, hmod]
          have : z.cells.getD j undef = c' := by rw [Array.getElem?_toList] at hc'; simp [hc']
          simp only [Option.getD_some, this]
          exact .pur (leafV_pur _ _ _)
      · exact .own d ln e sz _ _ (hupd_same _ _ _) (by rw [List.length_replicate]; exact Nat.le_refl _) (fun _ => (iupd_same _ _ _).symm) rfl
  · exact fun hφ => hφ.elim
/-- A bound of a part. -/
theorem bound_run {b : Option Value} {bv : Option V} {dflt x : Int} (hr : match bv, b with | none, none => True | some u, some cv => Rel M w ι h u cv | _, _ => False) (hb : boundOf dflt bv = some x) : (b = none ∧ x = dflt) ∨ ∃ k, b = some (.int k x) := by
  cases bv with
  | none =>
    cases b with
    | none => simp only [boundOf, Option.some.injEq] at hb; exact .inl ⟨rfl, hb.symm⟩
    | some cv => exact hr.elim
  | some u =>
    cases b with
    | none => exact hr.elim
    | some cv =>
      unfold boundOf at hb
      split at hb
      · rename_i e; cases e
      · rename_i k n e
        injection e with e
        subst e
        injection hb with hb
        subst hb
        exact .inr ⟨k, by rw [Rel.int_inv hr]⟩
      · cases hb
theorem run_bound (k : IntKind) (y : Nat) (cd : BoundsCode) {x : Int} (h0 : 0 ≤ x) (h1 : x ≤ y) : (Instr.sliceBound (.int k x) y cd).run P w = .ok x.toNat w := by
  simp [Instr.sliceBound, asIntOf, h0, h1]
theorem run_bounds (isS : Bool) (len cap : Nat) {lo hi : Option Value} {l r : Int} (hl : (lo = none ∧ l = 0) ∨ ∃ k, lo = some (.int k l)) (hr : (hi = none ∧ r = len) ∨ ∃ k, hi = some (.int k r)) (h0 : 0 ≤ l) (h1 : l ≤ r) (h2 : r ≤ cap) (h3 : len ≤ cap) :
    (Instr.sliceBounds isS len cap lo hi none).run P w = .ok (l.toNat, r.toNat, cap) w := by
  rcases hl with ⟨rfl, rfl⟩ | ⟨kl, rfl⟩ <;> rcases hr with ⟨rfl, rfl⟩ | ⟨kr, rfl⟩
  · simp [Instr.sliceBounds]
  · simp [Instr.sliceBounds, run_bound kr cap _ (by omega : (0 : Int) ≤ r) h2]
  · have := run_bound (P := P) (w := w) kl len (.sliceB) h0 h1
    simp [Instr.sliceBounds, this]
  · have := run_bound (P := P) (w := w) kl r.toNat (.sliceB) h0 (by omega : l ≤ (r.toNat : Int))
    simp [Instr.sliceBounds, run_bound kr cap _ (by omega : (0 : Int) ≤ r) h2, this]
theorem sim_ssub {t : TypeId} {x0 : Operand} {x : AE} {lo0 hi0 : Option Operand} {lo hi : Option AE} (ho : o.op = .slice t x0 lo0 hi0 none) (ht : P.underlying t = some .string) (hm : Mem C h w M ι) (hx : Rel M w ι h (E x) (a.eval x0))
    (hlo : match lo.map E, lo0.map a.eval with | none, none => True | some u, some cv => Rel M w ι h u cv | _, _ => False) (hhi : match hi.map E, hi0.map a.eval with | none, none => True | some u, some cv => Rel M w ι h u cv | _, _ => False) : Sim P G C h w M ι o a E d (.ssub lo hi x) := by
  unfold Sim aeval evSsub
  dsimp only
  split
  · rename_i s e1
    rw [e1] at hx
    split
    · rename_i l r hl hr
      intro hφ
      obtain ⟨h0, h1, h2⟩ := hφ
      have hb := run_bounds (P := P) (w := w) false s.length s.length (bound_run hlo hl) (bound_run hhi hr) h0 h1 h2 (Nat.le_refl _)
      refine .run (cv := .string ⟨((s.take r.toNat).drop l.toNat).toArray⟩) (w' := w) ?_ (After.same hm (.pur (.str _)))
      have hext : (⟨s.toArray⟩ : ByteArray).extract l.toNat r.toNat = ⟨((s.take r.toNat).drop l.toNat).toArray⟩ := by
        apply ByteArray.ext
        rw [ByteArray.data_extract]
        apply Array.toList_inj.1
        simp [List.drop_take]
      simp only [execOp, ho, Option.map_none, Instr.sliceAt, Sem.run_bind, run_underlying ht, Result.andThen_ok, Instr.slice, hx.str_inv, Option.isSome_none, Bool.false_eq_true, if_false, bsize, hb, Sem.run_pure, hext]
    · exact fun hφ => hφ.elim
  · exact fun hφ => hφ.elim
theorem sim_sub {t e : TypeId} {sz : Nat} {x0 : Operand} {x : AE} {lo0 hi0 : Option Operand} {lo hi : Option AE} (ho : o.op = .slice t x0 lo0 hi0 none) (ht : P.underlying t = some (.slice e)) (hs : szT P e = some sz) (hm : Mem C h w M ι) (hx : Rel M w ι h (E x) (a.eval x0))
    (hlo : match lo.map E, lo0.map a.eval with | none, none => True | some u, some cv => Rel M w ι h u cv | _, _ => False) (hhi : match hi.map E, hi0.map a.eval with | none, none => True | some u, some cv => Rel M w ι h u cv | _, _ => False) : Sim P G C h w M ι o a E d (.sub sz lo hi x) := by
  have run : ∀ (p : Option Addr) (len cap : Nat) (l r : Int), a.eval x0 = .slice p len cap → ((lo0.map a.eval = none ∧ l = 0) ∨ ∃ k, lo0.map a.eval = some (.int k l)) → ((hi0.map a.eval = none ∧ r = len) ∨ ∃ k, hi0.map a.eval = some (.int k r)) → 0 ≤ l → l ≤ r → r ≤ cap → len ≤ cap →
      (execOp a.eval o).run P w = .ok (.value (.slice (if cap = l.toNat then p else p.map (·.add (l.toNat * sz))) (r.toNat - l.toNat) (cap - l.toNat))) w := by
    intro p len cap l r e hl hr h0 h1 h2 h3
    have hb := run_bounds (P := P) (w := w) true len cap hl hr h0 h1 h2 h3
    simp only [execOp, ho, Option.map_none, Instr.sliceAt, Sem.run_bind, run_underlying ht, Result.andThen_ok, Instr.slice, e, hb, run_sizeOf hs, Sem.run_pure]
  unfold Sim aeval evSub
  dsimp only
  split
  · rename_i rows fit e1
    rw [e1] at hx
    split
    · rename_i l r hl hr
      intro hφ
      obtain ⟨h0, h1, h2, h3⟩ := hφ
      obtain ⟨p, cap, g, off, sz', hcv, _, hcap, hnone, hne, hrl, f, hc, hv⟩ := hx.list_inv
      have hlen : ((rows.take r.toNat).drop l.toNat).length = r.toNat - l.toNat := by rw [List.length_drop, List.length_take]; omega
      refine .run (run p rows.length cap l r hcv (bound_run hlo hl) (bound_run hhi hr) h0 h1 (by omega) hcap) (After.same hm (.pur ?_))
      have hget : ∀ i, i < r.toNat - l.toNat → ((rows.take r.toNat).drop l.toNat)[i]? = rows[l.toNat + i]? := fun i hi => by
        rw [List.getElem?_drop, List.getElem?_take_of_lt (by omega)]
      rw [← hlen]
      by_cases hrow : rows = []
      · subst hrow
        have hl0 : l = 0 := by simp only [List.length_nil] at h2; omega
        have hr0 : r = 0 := by simp only [List.length_nil] at h2; omega
        subst hl0 hr0
        refine .list _ false _ _ 0 0 0 (fun _ _ => undef) (fun e => (by cases e)) (by simp) (fun e => ?_) (.inl (by simp)) (fun r hr => by simp at hr) (fun i j hi _ => (by simp at hi)) (fun i j r v hi => by simp at hi)
        by_cases hz : cap = 0
        · simp [hz]
        · have : (if cap = (0 : Int).toNat then p else p.map (·.add ((0 : Int).toNat * sz))) = p.map (·.add ((0 : Int).toNat * sz)) := if_neg (by simpa using hz)
          rw [this] at e
          have hp : p = none := by cases p with | none => rfl | some q => cases e
          rw [hnone hp]; rfl
      · obtain ⟨rfl, hM⟩ := hne.resolve_left hrow
        have hss : sz' = sz := by
          obtain ⟨q, hq⟩ := List.exists_mem_of_ne_nil _ hrow
          rw [← hrl q hq, h3 q hq]
        subst hss
        have hpos : 0 < rows.length := List.length_pos_iff.2 hrow
        refine .list _ false _ _ sz' g (off + l.toNat * sz') (fun i j => f (l.toNat + i) j) (fun e => (by cases e)) (by rw [hlen]; omega) (fun e => ?_) ?_ (fun q hq => h3 q (List.mem_of_mem_take (List.mem_of_mem_drop hq))) (fun i j hi hj => ?_) (fun i j q v hi hj => ?_)
        · split at e <;> cases e
        · by_cases hemp : (rows.take r.toNat).drop l.toNat = []
          · exact .inl hemp
          · have hlt : l.toNat < r.toNat := by
              have : 0 < ((rows.take r.toNat).drop l.toNat).length := List.length_pos_iff.2 hemp
              omega
            refine .inr ⟨?_, hM⟩
            rw [if_neg (by omega)]
            simp only [Option.map_some, addr_add]
        · rw [hlen] at hi
          have := hc (l.toNat + i) j (by omega) hj
          rwa [show off + (l.toNat + i) * sz' + j = off + l.toNat * sz' + i * sz' + j by rw [Nat.add_mul]; omega] at this
        · have hil : i < r.toNat - l.toNat := by rw [← hlen]; exact (List.getElem?_eq_some_iff.1 hi).1
          rw [hget i hil] at hi
          exact hv _ _ _ _ hi hj
    · exact fun hφ => hφ.elim
  · rename_i e1
    rw [e1] at hx
    split
    · rename_i l r hl hr
      intro hφ
      obtain ⟨rfl, rfl⟩ := hφ
      refine .run (run none 0 0 0 0 hx.nils_inv (bound_run hlo hl) (bound_run hhi hr) (by omega) (by omega) (by omega) (by omega)) (After.same hm (.pur .nils))
    · exact fun hφ => hφ.elim
  · exact fun hφ => hφ.elim
end
end Go.Proofs.YtcongikpaonliaaDoor
