/- Other names for the objects of a state; a loop over a map. -/
import Derived.Test.YtkdkjbneohdofaaDoorAv22
import Derived.Laws.IdiomRangeMap
namespace Go.Proofs.YtkdkjbneohdofaaDoor
open Go Go.RowKit
set_option linter.unusedSimpArgs false
set_option linter.unusedVariables false
set_option linter.deprecated false
theorem mkE_ren (σ : Nat → Nat) (l : List (Nat × V)) (t : Nat) : mkE (l.map fun p => (p.1, p.2.ren σ)) t = (mkE l t).ren σ := by
  induction l with
  | nil => simp only [List.map_nil, mkE, V.ren]
  | cons p l ih =>
    obtain ⟨a, v⟩ := p
    simp only [List.map_cons, mkE]
    split
    · rfl
    · exact ih
theorem mkH_ren1 {σ τ : Nat → Nat} : ∀ {hl : List (Nat × Ob)}, (∀ q ∈ hl, τ (σ q.1) = q.1) → ∀ {m : Nat} {o : Ob}, mkH hl m = some o → mkH (hl.map fun q => (σ q.1, q.2.ren σ)) (σ m) = some (o.ren σ)
  | [], _, m, o, h => by cases h
  | (a, x) :: hl, inv, m, o, h => by
    simp only [List.map_cons, mkH] at h ⊢
    by_cases e : m = a
    · subst e; rw [if_pos rfl] at h ⊢; injection h with h; rw [h]
    · rw [if_neg e] at h
      have hm := mkH_in (show (mkH hl m).isSome = true by rw [h]; rfl)
      obtain ⟨q, hq, rfl⟩ := List.mem_map.1 hm
      have h1 := inv q (List.mem_cons_of_mem _ hq)
      have h2 := inv (a, x) (List.mem_cons_self ..)
      rw [if_neg (fun e2 => e (by rw [← h1, e2]; exact h2))]
      exact mkH_ren1 (fun q hq => inv q (List.mem_cons_of_mem _ hq)) h
theorem mkH_ren2 {σ τ : Nat → Nat} : ∀ {hl : List (Nat × Ob)}, (∀ q ∈ hl, τ (σ q.1) = q.1) → ∀ {n : Nat} {o' : Ob}, mkH (hl.map fun q => (σ q.1, q.2.ren σ)) n = some o' → ∃ m o, n = σ m ∧ mkH hl m = some o ∧ o' = o.ren σ
  | [], _, n, o', h => by cases h
  | (a, x) :: hl, inv, n, o', h => by
    simp only [List.map_cons, mkH] at h
    by_cases e : n = σ a
    · rw [if_pos e] at h
      injection h with h
      exact ⟨a, x, e, by simp only [mkH, if_true], h.symm⟩
    · rw [if_neg e] at h
      obtain ⟨m, o, h1, h2, h3⟩ := mkH_ren2 (fun q hq => inv q (List.mem_cons_of_mem _ hq)) h
      exact ⟨m, o, h1, by simp only [mkH]; rw [if_neg (fun e2 => e (by rw [h1, e2]))]; exact h2, h3⟩
/-- The same state, its objects under other names. -/
theorem Le.ren (σ τ : Nat → Nat) (l : List (Nat × V)) (hl : List (Nat × Ob)) (inv : ∀ q ∈ hl, τ (σ q.1) = q.1) (big : ∀ q ∈ hl, 1000 ≤ σ q.1 → σ q.1 = q.1) (hv : ∀ p ∈ l, p.2.nin (hl.map (·.1)) = true) (ho : ∀ q ∈ hl, q.2.nin (hl.map (·.1))) :
    Le ⟨mkE l, mkH hl⟩ ⟨mkE (l.map fun p => (p.1, p.2.ren σ)), mkH (hl.map fun q => (σ q.1, q.2.ren σ))⟩ := by
  intro U C a w M ι hg
  have hm := hg.mem
  have inv2 : ∀ m ∈ hl.map (·.1), τ (σ m) = m := fun m hm => by obtain ⟨q, hq, rfl⟩ := List.mem_map.1 hm; exact inv q hq
  have hR : Ren (hl.map (·.1)) σ ι (mkH hl) (fun n => ι (τ n)) (mkH (hl.map fun q => (σ q.1, q.2.ren σ))) := by
    refine ⟨fun n hn => ?_, fun n hn t c h => ⟨_, mkH_ren1 inv h⟩, fun n hn t sz r h => mkH_ren1 inv h, fun n hn es h => ⟨_, mkH_ren1 inv h⟩⟩
    show ι (τ (σ n)) = ι n
    rw [inv2 n hn]
  have isin : ∀ {n : Nat}, (mkH (hl.map fun q => (σ q.1, q.2.ren σ)) n).isSome = true → ∃ m o, n = σ m ∧ mkH hl m = some o ∧ m ∈ hl.map (·.1) ∧ τ n = m := fun {n} h => by
    obtain ⟨o', ho'⟩ := Option.isSome_iff_exists.1 h
    obtain ⟨m, o, h1, h2, _⟩ := mkH_ren2 inv ho'
    have hmi := mkH_in (show (mkH hl m).isSome = true by rw [h2]; rfl)
    exact ⟨m, o, h1, h2, hmi, by rw [h1, inv2 m hmi]⟩
  have big2 : ∀ m ∈ hl.map (·.1), 1000 ≤ σ m → σ m = m := fun m hm h => by obtain ⟨q, hq, rfl⟩ := List.mem_map.1 hm; exact big q hq h
  refine ⟨M, fun n => ι (τ n), ⟨fun n o' h' => ?_, fun n m b h1 h2 e1 e2 => ?_, fun n b hs hb => ?_, hm.lt, fun n b hs hb => ?_, hm.size, hm.keep, hm.os, hm.tape, hm.output, hm.base, hm.tb, hm.tm, hm.old, fun n t sz r0 t' sz' rows hn h0 h' => ?_, fun n hn => ⟨fun t c h' => ?_, fun es h' => ?_⟩⟩, fun t => ?_, hg.dfr, hg.num⟩
  · obtain ⟨m, o, rfl, h2, rfl⟩ := mkH_ren2 inv h'
    have hmi := mkH_in (show (mkH hl m).isSome = true by rw [h2]; rfl)
    have := (hm.obj m o h2).ren (fun _ h => h) hR hmi (ho _ (mkH_mem h2))
    exact this
  · obtain ⟨m1, o1, rfl, k1, _, t1⟩ := isin h1
    obtain ⟨m2, o2, rfl, k2, _, t2⟩ := isin h2
    rw [t1] at e1
    rw [t2] at e2
    rw [hm.dis m1 m2 b (by show (mkH hl m1).isSome = true; rw [k1]; rfl) (by show (mkH hl m2).isSome = true; rw [k2]; rfl) e1 e2]
  · obtain ⟨m1, o1, rfl, k1, _, t1⟩ := isin hs
    rw [t1] at hb
    exact hm.imm m1 b (by show (mkH hl m1).isSome = true; rw [k1]; rfl) hb
  · obtain ⟨m1, o1, rfl, k1, _, t1⟩ := isin hs
    rw [t1] at hb
    exact hm.may m1 b (by show (mkH hl m1).isSome = true; rw [k1]; rfl) hb
  · obtain ⟨m, o, e, h2, e2⟩ := mkH_ren2 inv h'
    have hmi := mkH_in (show (mkH hl m).isSome = true by rw [h2]; rfl)
    have eσ := big2 m hmi (by rw [← e]; exact hn)
    have enm : n = m := by rw [e, eσ]
    subst enm
    have et : τ n = n := by have := inv2 n hmi; rwa [eσ] at this
    cases o with
    | arr t2 sz2 r2 =>
      injection e2 with e3 e4 e5
      subst e3 e4 e5
      show _ ∧ (_ → ι (τ n) = _)
      rw [et]
      exact hm.arr0 n t sz r0 _ _ _ hn h0 h2
    | box _ _ => cases e2
    | mp _ => cases e2
  · obtain ⟨m, o, e, h2, e2⟩ := mkH_ren2 inv h'
    have hmi := mkH_in (show (mkH hl m).isSome = true by rw [h2]; rfl)
    have eσ := big2 m hmi (by rw [← e]; exact hn)
    have enm : n = m := by rw [e, eσ]
    subst enm
    have et : τ n = n := by have := inv2 n hmi; rwa [eσ] at this
    cases o with
    | box t2 c2 => show ι (τ n) = _; rw [et]; exact (hm.pin n hn).1 _ _ h2
    | arr _ _ _ => cases e2
    | mp _ => cases e2
  · obtain ⟨m, o, e, h2, e2⟩ := mkH_ren2 inv h'
    have hmi := mkH_in (show (mkH hl m).isSome = true by rw [h2]; rfl)
    have eσ := big2 m hmi (by rw [← e]; exact hn)
    have enm : n = m := by rw [e, eσ]
    subst enm
    have et : τ n = n := by have := inv2 n hmi; rwa [eσ] at this
    cases o with
    | mp es2 => show ι (τ n) = _; rw [et]; exact (hm.pin n hn).2 _ h2
    | arr _ _ _ => cases e2
    | box _ _ => cases e2
  · show Rel M w _ _ (mkE (l.map fun p => (p.1, p.2.ren σ)) t) _
    rw [mkE_ren]
    refine (hg.env t).ren (fun _ h => h) hR ?_
    rcases mkE_mem (l := l) (t := t) with e | e
    · show (mkE l t).nin _ = true
      rw [e]; simp only [V.nin]
    · exact hv _ e
/-! A loop over a map that nobody writes. -/
section
variable {P : Program}
theorem run_next_at (w : World) (ty : TypeId) (ib bm since : Nat) (seen : Array Nat) (es : Array MapEntry) (clock : Nat) (hi : w.heap[ib]? = some (.mapIter (some bm) since seen clock)) (hb : w.heap[bm]? = some (.map es clock)) (hold : ∀ x ∈ es.toList, x.born < since) (hsc : since ≤ clock) :
    ((leftOf es seen).size = 0 ∧ (Instr.next (.pointer (some ⟨ib, 0, none⟩)) false ty).run P w = .ok (.tuple #[.bool false]) w) ∨
    ∃ e ∈ (leftOf es seen).toList, ∃ d : Nat, (Instr.next (.pointer (some ⟨ib, 0, none⟩)) false ty).run P w = .ok (.tuple #[.bool true, e.key, e.val]) { w with heap := w.heap.setIfInBounds ib (.mapIter (some bm) since (seen.push e.born) clock), drawn := d } := by
  simp only [Instr.next, getObj, Sem.run_bind, Sem.run, hi, hb, Result.andThen, next_test_false seen es since clock hold hsc, Bool.false_eq_true, if_false]
  unfold leftOf
  have hmem : ∀ x ∈ (Array.filter (fun e => !seen.contains e.born) es).toList, x.born < since := fun x hx => hold x (by simp at hx ⊢; exact hx.1)
  generalize Array.filter (fun e => !seen.contains e.born) es = L at hmem ⊢
  have e1 : L.filter (fun x => decide (x.born < since)) = L := Array.filter_eq_self.2 (fun x hx => by simpa using hmem x (by simpa using hx))
  have e2 : L.filter (fun x => decide (x.born ≥ since)) = #[] := by
    rw [Array.filter_eq_empty_iff]
    intro x hx
    have := hmem x (by simpa using hx)
    simp
    omega
  simp only [e1, e2, Array.append_empty]
  by_cases h0 : L.size = 0
  · left
    have : L = #[] := Array.eq_empty_of_size_eq_zero h0
    subst this
    refine ⟨rfl, ?_⟩
    simp [choose, Sem.run, Question.forced]
  · right
    have hne : L.isEmpty = false := by simp [Array.isEmpty, h0]
    simp only [hne, Bool.false_eq_true, if_false, Array.empty_append, Array.size_map]
    have hch : ∃ (j d : Nat), j < L.size ∧ (choose (Question.mapNext L.size)).run P w = .ok j { w with drawn := d } := by
      by_cases hf : L.size ≤ 1
      · exact ⟨0, w.drawn, by omega, by simp [choose, Sem.run, Question.forced, hf]⟩
      · exact ⟨_, w.drawn + 1, Nat.mod_lt _ (by omega), by
          simp only [choose, Sem.run, Question.forced, decide_eq_true_eq, hf, if_false, Question.cut]
          rfl⟩
    obtain ⟨j, d, hj, hrun⟩ := hch
    refine ⟨L[j], by simp, d, ?_⟩
    have hset : ∀ o' : Obj, (setObj ib o').run P ({ w with drawn := d } : World) = .ok () { w with heap := w.heap.setIfInBounds ib o', drawn := d } := fun o' => by
      simp only [setObj, Sem.run, hi]
    simp only [hrun, Array.getElem?_map, Array.getElem?_eq_getElem hj, Option.map_some, Sem.run_bind, hset, Result.andThen]
    rfl
theorem run_entry_at (w : World) (ib bm since : Nat) (seen : Array Nat) (es : Array MapEntry) (clock : Nat) (e : MapEntry) (hi : w.heap[ib]? = some (.mapIter (some bm) since (seen.push e.born) clock)) (hb : w.heap[bm]? = some (.map es clock)) (he : e ∈ es.toList) (hn : (es.toList.map (·.born)).Nodup) :
    (Instr.entry (.pointer (some ⟨ib, 0, none⟩))).run P w = .ok (.tuple #[e.key, e.val]) w := by
  have hf : es.find? (·.born == e.born) = some e := by rw [← Array.find?_toList]; exact find_born e es.toList hn he
  simp only [Instr.entry, getObj, Sem.run_bind, Sem.run, hi, hb, Result.andThen, Array.back?_push, bne_self_eq_false, Bool.false_eq_true, if_false, hf]
  rfl
end
def kyV : Ky → V
  | .s l => .str l
  | .i n => .int .i64 n
  | .ss a b => .agg [.str a, .str b]
theorem kyV_pur {M : Nat → Prop} {w : World} {k : Ky} {cv : Value} (h : KyRel k cv) : Pur M w (kyV k) cv := by
  cases k with
  | s l => simp only [KyRel] at h; subst h; exact .str l
  | i n => simp only [KyRel] at h; subst h; exact .int _ n
  | ss a b =>
    simp only [KyRel] at h
    subst h
    refine .agg _ _ rfl (fun c hc => ?_) (fun i v hi => ?_)
    · cases hc with
      | head => rfl
      | tail _ h => cases h with
        | head => rfl
        | tail _ h => cases h
    · match i, hi with
      | 0, hi => injection hi with hi; subst hi; exact .str a
      | 1, hi => injection hi with hi; subst hi; exact .str b
section
variable {P : Program} {U : Tbl} {C : Ctx U} {G : Tab}
theorem wpList_app {ops : Array Oper} {Q' : Exit → Act → World → Prop} {EF : Nat → Bool} (hG : ∀ f, PureC P U f (G f)) {K : St → Prop} {tail : List Oper} (hK : ∀ s' a' w' M' ι', K s' → Good C s' a' w' M' ι' → wpList P ops Q' tail a' w') : ∀ (l : List Oper) (aos : List AO), l.mapM (trO P C.N ops) = some aos →
    ∀ (s : St) (a : Act) (w : World) (M : Nat → Prop) (ι : Nat → Value), Good C s a w M ι → arun P U EF G aos s K → wpList P ops Q' (l ++ tail) a w
  | [], aos, ht, s, a, w, M, ι, hg, h => by
    simp at ht
    subst ht
    exact hK s a w M ι h hg
  | o :: l, aos, ht, s, a, w, M, ι, hg, h => by
    rw [List.mapM_cons] at ht
    cases h1 : trO P C.N ops o with
    | none => rw [h1] at ht; cases ht
    | some ao =>
      rw [h1] at ht
      cases h2 : l.mapM (trO P C.N ops) with
      | none => rw [h2] at ht; cases ht
      | some aos' =>
        rw [h2] at ht
        have e : ao :: aos' = aos := Option.some.inj ht
        subst e
        unfold arun at h
        rw [List.cons_append]
        refine wpList_step fun K2 hK2 => ?_
        split at h
        · rename_i f us he
          exact step_estep h1 hg he h fun s' a' w' M' ι' h3 hg' => hK2 _ _ (wpList_app hG hK l aos' h2 s' a' w' M' ι' hg' h3)
        · obtain ⟨p1, p2⟩ := h
          exact step_sim h1 hG hg p1 fun a' w' M' ι' hg' => hK2 _ _ (wpList_app hG hK l aos' h2 _ a' w' M' ι' hg' p2)
theorem block_wp {id : Nat} {c : Code} {Q : Exit → St → Prop} {a : Act} {w : World} (h : c.wp P (fun e a' w' => ∃ s' M' ι', blockQ id Q e s' ∧ Good C s' a' w' M' ι') a w) : (Code.block id c).wp P (fun e a' w' => ∃ s' M' ι', Q e s' ∧ Good C s' a' w' M' ι') a w :=
  wp_block (wp_mono h fun e a' w' ⟨s', M', ι', h1, h2⟩ => by
    cases e with
    | exit id' =>
      simp only [Exit.inBlock]
      simp only [blockQ] at h1
      split
      · rename_i he; rw [if_pos he] at h1; exact ⟨s', M', ι', h1, h2⟩
      · rename_i he; rw [if_neg he] at h1; exact ⟨s', M', ι', h1, h2⟩
    | normal => exact ⟨s', M', ι', h1, h2⟩
    | goto l => exact ⟨s', M', ι', h1, h2⟩
    | ret => exact ⟨s', M', ι', h1, h2⟩
    | panic ch => exact ⟨s', M', ι', h1, h2⟩
    | outgrown => exact ⟨s', M', ι', h1, h2⟩)
/-- A part of the run: from here on only the blocks of the objects are written. -/
def Ctx.sub (C : Ctx U) (h : Nat → Option Ob) (w : World) (M : Nat → Prop) (ι : Nat → Value) : Ctx U := ⟨w, fun b => ∃ n, (h n).isSome = true ∧ blk (ι n) = some b, C.N, M, C.ι0, C.h0⟩
theorem Mem.into {h : Nat → Option Ob} {w w2 : World} {M : Nat → Prop} {ι : Nat → Value} (hm : Mem C h w M ι) {ib : Nat} (hsz : w2.heap.size = w.heap.size) (hh : ∀ b, b ≠ ib → w2.heap[b]? = w.heap[b]?) (hM : ¬ M ib) (hn : ∀ n, (h n).isSome = true → blk (ι n) ≠ some ib) : Mem (C.sub h w2 M ι) h w2 M ι := by
  have hMh : ∀ b, M b → w2.heap[b]? = w.heap[b]? := fun b hb => hh b fun e => hM (e ▸ hb)
  refine ⟨fun n o hno => (hm.obj n o hno).keep (fun _ h => h) hMh (Keeps.refl _ _) rfl fun b hb => hh b fun e => hn n (by rw [hno]; rfl) (e ▸ hb), hm.dis, hm.imm, fun b hb => by rw [hsz]; exact hm.lt b hb, fun n b h1 h2 => .inl ⟨n, h1, h2⟩, Nat.le_refl _, fun _ _ _ => rfl, rfl, rfl, rfl, fun _ h => h, U.keep w w2 (fun b hb => hMh b (hm.tm b hb)) hm.tb, hm.tm, fun b _ hb => .inl hb, hm.arr0, hm.pin⟩
theorem Mem.back {h h' : Nat → Option Ob} {w w2 w' : World} {M M' : Nat → Prop} {ι ι' : Nat → Value} (hm : Mem C h w M ι) {ib : Nat} (hsz : w2.heap.size = w.heap.size) (hos : w2.os = w.os) (ht : w2.tape = w.tape) (hou : w2.output = w.output) (hh : ∀ b, b ≠ ib → w2.heap[b]? = w.heap[b]?) (hib : C.w0.heap.size ≤ ib) (hk : Mem (C.sub h w2 M ι) h' w' M' ι') : Mem C h' w' M' ι' := by
  have hs0 := hm.size
  have hs1 : w2.heap.size ≤ w'.heap.size := hk.size
  refine ⟨hk.obj, hk.dis, hk.imm, hk.lt, fun n b h1 h2 => ?_, by omega, fun b hb hX => ?_, hk.os.trans (hos.trans hm.os), hk.tape.trans (ht.trans hm.tape), hk.output.trans (hou.trans hm.output), fun b hb => hk.base b (hm.base b hb), hk.tb, hk.tm, fun b hb hM => ?_, hk.arr0, hk.pin⟩
  · rcases hk.may n b h1 h2 with ⟨m, a1, a2⟩ | h3
    · exact hm.may m b a1 a2
    · have h3' : w2.heap.size ≤ b := h3
      exact .inr (by omega)
  · have e1 := hk.keep b (by show b < w2.heap.size; omega) (fun ⟨m, a1, a2⟩ => (hm.may m b a1 a2).elim hX (fun h => by omega))
    have e1' : w'.heap[b]? = w2.heap[b]? := e1
    rw [e1', hh b (by omega)]
    exact hm.keep b hb hX
  · rcases hk.old b (by show b < w2.heap.size; omega) hM with h3 | ⟨m, a1, a2⟩
    · exact hm.old b hb h3
    · exact .inr ((hm.may m b a1 a2).resolve_right (by omega))
/-- What a part of the run leaves alone. -/
theorem Mem.left {h h' : Nat → Option Ob} {w2 w' : World} {M M' : Nat → Prop} {ι ι' : Nat → Value} (hk : Mem (C.sub h w2 M ι) h' w' M' ι') {b : Nat} (hb : b < w2.heap.size) (hn : ∀ n, (h n).isSome = true → blk (ι n) ≠ some b) : w'.heap[b]? = w2.heap[b]? ∧ (¬ M b → ¬ M' b) ∧ ∀ n, (h' n).isSome = true → blk (ι' n) ≠ some b := by
  refine ⟨hk.keep b hb fun ⟨n, a1, a2⟩ => hn n a1 a2, fun hM hM' => ?_, fun n a1 a2 => ?_⟩
  · rcases hk.old b hb hM' with h3 | ⟨m, a1, a2⟩
    · exact hM h3
    · exact hn m a1 a2
  · rcases hk.may n b a1 a2 with ⟨m, b1, b2⟩ | h3
    · exact hn m b1 b2
    · have h3' : w2.heap.size ≤ b := h3
      omega
/-- A loop over a map: whatever the order, each entry comes once. I: what holds behind the entries done; st: the state at the head of a round, the iterator pinned. -/
theorem aw_rangeM {EF : Nat → Bool} {id0 id1 id2 out next N : Nat} {ops0 ops1 ops2 : Array Oper} {l0 l3 : List Oper} {o0 o1 o2 o3 : Oper} {pre aos3 : List AO} {code : Code} {mt kt et it nx more pair tm : Nat} {es : List (Ky × V)} {Q : Exit → St → Prop} {s : St} {α : Type}
    (hG : ∀ f, PureC P U f (G f)) (hN : C.N = N)
    (e0 : ops0.toList = l0 ++ [o0]) (p0 : l0.mapM (trO P N ops0) = some pre) (q0 : o0.op = .range mt (.tmp tm) ∧ o0.dst = some it ∧ o0.guard = none) (hmt : P.underlying mt = some (.map kt et))
    (e1 : ops1.toList = [o1, o2]) (q1 : o1.op = .next (.tmp it) false ∧ o1.dst = some nx ∧ o1.guard = none) (q2 : o2.op = .extract (.tmp nx) 0 ∧ o2.dst = some more ∧ o2.guard = none)
    (e2 : ops2.toList = o3 :: l3) (q3 : o3.op = .entry (.tmp it) ∧ o3.dst = some pair ∧ o3.guard = none) (p3 : l3.mapM (trO P N ops2) = some aos3)
    (hlt : it < N ∧ nx < N ∧ more < N ∧ pair < N) (hd : it ≠ nx ∧ it ≠ more) (hleaf : ∀ p ∈ es, p.2.leaf = true)
    (I : List (Ky × V) → α → Prop) (st : α → Value → St) (g0 : α) (hit : ∀ γ iv, (st γ iv).e it = .pin iv) (h0 : I [] g0)
    (hrun : ∀ K : St → Prop, (∀ s', s'.e tm = .fmap es → (∀ iv, Le ⟨upd s'.e it (.pin iv), s'.h⟩ (st g0 iv)) → K s') → arun P U EF G pre s K)
    (round : ∀ C' : Ctx U, C'.N = N → ∀ iv γ done p, I done γ → p ∈ es → p ∉ done → (∀ q ∈ done, q ∈ es) → ∀ K : St → Prop, (∀ γ' s', I (done ++ [p]) γ' → Le s' (st γ' iv) → K s') →
      arun P U EF G aos3 ⟨upd (upd (upd (st γ iv).e nx (.tup [.bool true, .any, .any])) more (.bool true)) pair (.tup [kyV p.1, p.2]), (st γ iv).h⟩ (fun s2 => AW P C' code (blockQ next (thenQ K (blockQ out Q))) s2))
    (fin : ∀ iv γ done, I done γ → (∀ q, q ∈ done ↔ q ∈ es) → Q .normal ⟨upd (upd (st γ iv).e nx (.tup [.bool false])) more (.bool false), (st γ iv).h⟩) :
    AW P C (.seq (.region id0 ops0 false) (.block out (.loop (.seq (.region id1 ops1 false) (.seq (.cond (.tmp more) .skip (.exit out)) (.block next (.seq (.region id2 ops2 false) code))))))) Q s := by
  intro a w M ι hg
  replace hrun := hrun (fun s' => s'.e tm = .fmap es ∧ ∀ iv, Le ⟨upd s'.e it (.pin iv), s'.h⟩ (st g0 iv)) (fun _ h1 h2 => ⟨h1, h2⟩)
  obtain ⟨q01, q02, q03⟩ := q0
  obtain ⟨q11, q12, q13⟩ := q1
  obtain ⟨q21, q22, q23⟩ := q2
  obtain ⟨q31, q32, q33⟩ := q3
  obtain ⟨lit, lnx, lmo, lpa⟩ := hlt
  refine wp_seq (wp_region_list ?_)
  rw [e0]
  refine wpList_app hG (fun s' a' w' M' ι' hK hg' => ?_) l0 pre (by rw [hN]; exact p0) s a w M ι hg hrun
  clear hg hrun
  obtain ⟨k1, k2⟩ := hK
  have hmv := hg'.env tm
  rw [k1] at hmv
  have hmp : Pur M' w' (.fmap es) (a'.tmps.getD tm undef) := by cases hmv with | pur hp => exact hp
  generalize hcv : a'.tmps.getD tm undef = cv at hmp
  cases hmp with
  | fmap _ es0 mb ents clock f hMb hhb hsz he hvv =>
  have hnda : ∀ n, (s'.h n).isSome = true → blk (ι' n) ≠ some mb := fun n h1 h2 => hg'.mem.imm n mb h1 h2 hMb
  -- the iterator
  refine wpList_step fun K2 hK2 => ?_
  rw [if_pos (by simp [Region.wanted, q03])]
  have hr0 : (execOp a'.eval o0).run P w' = .ok (.value (.pointer (some ⟨w'.heap.size, 0, none⟩))) (w'.alloc (.mapIter (some mb) clock #[] clock)) := by
    have hev : a'.eval (.tmp tm) = .map (some mb) := hcv
    simp only [execOp, q01, hev, Sem.run_bind, run_range_map w' mt kt et mb ents clock hmt hhb, Result.andThen_ok, Sem.run_pure]
  refine (Does.run (T := fun cv w2 => cv = .pointer (some ⟨w'.heap.size, 0, none⟩) ∧ w2 = w'.alloc (.mapIter (some mb) clock #[] clock)) hr0 ⟨rfl, rfl⟩) K2 _ ?_
  rintro _ _ ⟨rfl, rfl⟩
  refine hK2 _ _ (wpList_nil ?_)
  rw [q02]
  generalize hib : w'.heap.size = ib
  have hw1 : (w'.alloc (.mapIter (some mb) clock #[] clock)).heap.size = w'.heap.size + 1 := by show (w'.heap.push _).size = _; rw [Array.size_push]
  have hbel : Below w'.heap.size w' (w'.alloc (.mapIter (some mb) clock #[] clock)) := (Below.refl _ w').alloc (Nat.le_refl _) _
  have hm1 : Mem C s'.h (w'.alloc (.mapIter (some mb) clock #[] clock)) M' ι' := hg'.mem.grow (fun _ h => h) (fun b hb => by have := hg'.mem.lt b hb; omega) (fun _ _ h => h) hbel
  have hnM : ¬ M' ib := fun h => by have := hg'.mem.lt ib h; omega
  have hnn : ∀ n, (s'.h n).isSome = true → blk (ι' n) ≠ some ib := fun n h1 h2 => by have := hg'.mem.blt n ib h1 h2; omega
  have hib1 : (w'.alloc (.mapIter (some mb) clock #[] clock)).heap[ib]? = some (.mapIter (some mb) clock #[] clock) := by rw [← hib]; exact heap_alloc_new w' _
  have hmb1 : (w'.alloc (.mapIter (some mb) clock #[] clock)).heap[mb]? = some (.map ents clock) := (heap_alloc_old w' _ (hg'.mem.lt mb hMb)).trans hhb
  have hC0 : C.w0.heap.size ≤ ib := by have := hg'.mem.size; omega
  generalize w'.alloc (.mapIter (some mb) clock #[] clock) = w1 at hw1 hbel hm1 hib1 hmb1
  have hsub1 := hm1.into (ib := ib) (w2 := w1) rfl (fun _ _ => rfl) hnM hnn
  have hg1 : Good (C.sub s'.h w1 M' ι') ⟨upd s'.e it (.pin (.pointer (some ⟨ib, 0, none⟩))), s'.h⟩ (a'.put (some it) (.pointer (some ⟨ib, 0, none⟩))) w1 M' ι' := by
    refine ⟨hsub1, fun t => ?_, put_dfr.trans hg'.dfr, put_size.trans hg'.num⟩
    rw [put_getD (by rw [hg'.num, hN]; exact lit)]
    show Rel M' w1 ι' s'.h (upd s'.e it _ t) _
    unfold upd
    by_cases e : t = it
    · rw [if_pos e, if_pos e]; exact .pur (.pin _)
    · rw [if_neg e, if_neg e]; exact (hg'.env t).keep (fun _ h => h) (fun b hb => hbel.block b (hg'.mem.lt b hb)) (Keeps.refl _ _)
  obtain ⟨M1, ι1, hgs⟩ := k2 (.pointer (some ⟨ib, 0, none⟩)) U _ _ _ _ _ hg1
  have lft := hgs.mem.left (b := ib) (by omega) hnn
  have lftm := hgs.mem.left (b := mb) (by have := hg'.mem.lt mb hMb; omega) hnda
  have hgl : Good C (st g0 (.pointer (some ⟨ib, 0, none⟩))) (a'.put (some it) (.pointer (some ⟨ib, 0, none⟩))) w1 M1 ι1 :=
    ⟨hm1.back (ib := ib) rfl rfl rfl rfl (fun _ _ => rfl) hC0 hgs.mem, hgs.env, hgs.dfr, hgs.num⟩
  have hlen : es0.length = ents.size := hsz.len
  have hst := hsz.st
  have hnd0 : (es0.map (·.1)).Nodup := ((hsz.perm.map _).nodup_iff).2 hsz.nd
  have uniq : ∀ i j (hi : i < es0.length) (hj : j < es0.length), (f i).born = (f j).born → i = j := fun i j hi hj eb => by
    have g1 := (he i es0[i] (List.getElem?_eq_getElem hi)).1
    have g2 := (he j es0[j] (List.getElem?_eq_getElem hj)).1
    have n1 := hst.2.1
    have a1 : (ents.toList.map (·.born))[i]? = some (f i).born := by rw [List.getElem?_map, Array.getElem?_toList, g1]; rfl
    have a2 : (ents.toList.map (·.born))[j]? = some (f j).born := by rw [List.getElem?_map, Array.getElem?_toList, g2]; rfl
    obtain ⟨b1, c1⟩ := List.getElem?_eq_some_iff.1 a1
    obtain ⟨b2, c2⟩ := List.getElem?_eq_some_iff.1 a2
    have n2 := List.pairwise_iff_getElem.1 n1
    rcases Nat.lt_trichotomy i j with h | h | h
    · exact absurd (by rw [c1, c2, eb]) (n2 i j b1 b2 h)
    · exact h
    · exact absurd (by rw [c1, c2, eb]) (n2 j i b2 b1 h)
  show (Code.block out _).wp P (fun e a' w' => ∃ s' M' ι', Q e s' ∧ Good C s' a' w' M' ι') _ _
  refine block_wp ?_
  have lf3 := lft.2.2
  generalize hiv : Value.pointer (some ⟨ib, 0, none⟩) = iv at hgl lf3
  refine wp_loop_ghost (fun k a w => ∃ done γ M ι seen, I done γ ∧ (∀ q ∈ done, q ∈ es) ∧ Good C (st γ iv) a w M ι ∧ M mb ∧ ¬ M ib ∧ (∀ n, ((st γ iv).h n).isSome = true → blk (ι n) ≠ some ib) ∧ w.heap[ib]? = some (.mapIter (some mb) clock seen clock) ∧ w.heap[mb]? = some (.map ents clock) ∧
    (∀ (i : Nat) (hi : i < es0.length), seen.contains (f i).born = true ↔ es0[i] ∈ done) ∧ k = (leftOf ents seen).size) (leftOf ents #[]).size
    ⟨[], g0, M1, ι1, #[], h0, (fun q hq => nomatch hq), hgl, hgs.mem.base mb hMb, lft.2.1 hnM, lf3, hib1, hmb1, fun i hi => by simp, rfl⟩ ?_
  rintro k a w ⟨done, γ, M, ι, seen, hI, hsubs, hg, hMm, hnMi, hnni, hwi, hwm, hseen, rfl⟩
  have hitv : a.tmps.getD it undef = iv := by
    have := hg.env it
    rw [hit] at this
    cases this with | pur hp => cases hp with | pin _ => rfl
  have hnum : a.tmps.size = N := hg.num.trans hN
  refine wp_seq (wp_region_list ?_)
  rw [e1]
  refine wpList_step fun K3 hK3 => ?_
  rw [if_pos (by simp [Region.wanted, q13])]
  rcases run_next_at (P := P) w o1.type ib mb clock seen ents clock hwi hwm hst.1 (Nat.le_refl _) with ⟨hz, hrn⟩ | ⟨e, hel, d, hrn⟩
  · -- nothing is left
    have hr1 : (execOp a.eval o1).run P w = .ok (.value (.tuple #[.bool false])) w := by
      have hev : a.eval (.tmp it) = .pointer (some ⟨ib, 0, none⟩) := hitv.trans hiv.symm
      simp only [execOp, q11, hev, Sem.run_bind, hrn, Result.andThen_ok, Sem.run_pure]
    refine (Does.run (T := fun cv w2 => cv = .tuple #[.bool false] ∧ w = w2) hr1 ⟨rfl, rfl⟩) K3 _ ?_
    rintro _ _ ⟨rfl, rfl⟩
    refine hK3 _ _ (wpList_step fun K4 hK4 => ?_)
    rw [if_pos (by simp [Region.wanted, q23]), q12]
    have hr2 : (execOp (a.put (some nx) (.tuple #[.bool false])).eval o2).run P w = .ok (.value (.bool false)) w := by
      have hev : (a.put (some nx) (.tuple #[.bool false])).eval (.tmp nx) = .tuple #[.bool false] := (put_getD (by rw [hnum]; exact lnx) nx).trans (if_pos rfl)
      simp only [execOp, q21, hev, Instr.extract, show (#[Value.bool false] : Array Value)[0]? = some (.bool false) from rfl, Sem.run_bind, Sem.run_pure, Result.andThen_ok]
    refine (Does.run (T := fun cv w2 => cv = .bool false ∧ w = w2) hr2 ⟨rfl, rfl⟩) K4 _ ?_
    rintro _ _ ⟨rfl, rfl⟩
    refine hK4 _ _ (wpList_nil ?_)
    rw [q22]
    have hg3 : Good C ⟨upd (upd (st γ iv).e nx (.tup [.bool false])) more (.bool false), (st γ iv).h⟩ ((a.put (some nx) (.tuple #[.bool false])).put (some more) (.bool false)) w M ι := by
      refine ⟨hg.mem, fun t => ?_, put_dfr.trans (put_dfr.trans hg.dfr), put_size.trans (put_size.trans hg.num)⟩
      rw [put_getD (by rw [put_size, hnum]; exact lmo), put_getD (by rw [hnum]; exact lnx)]
      show Rel M w ι _ (upd (upd _ _ _) _ _ t) _
      unfold upd
      by_cases c1 : t = more
      · rw [if_pos c1, if_pos c1]; exact .pur (.bool _)
      · rw [if_neg c1, if_neg c1]
        by_cases c2 : t = nx
        · rw [if_pos c2, if_pos c2]
          refine .tup _ _ rfl fun i v hi => ?_
          obtain rfl : i = 0 := by have := (List.getElem?_eq_some_iff.1 hi).1; simp at this; omega
          injection hi with hi; subst hi; exact .pur (.bool _)
        · rw [if_neg c2, if_neg c2]; exact hg.env t
    have hcd : ((a.put (some nx) (.tuple #[.bool false])).put (some more) (.bool false)).eval (.tmp more) = .bool false := (put_getD (by rw [put_size, hnum]; exact lmo) more).trans (if_pos rfl)
    have hall := all_seen ents seen hz
    have hfin := fin iv γ done hI fun q => ⟨hsubs q, fun hq => by
      obtain ⟨i, hi, rfl⟩ := List.mem_iff_getElem.1 (hsz.perm.mem_iff.2 hq)
      refine (hseen i hi).1 (hall (f i) ?_)
      have g1 := (he i es0[i] (List.getElem?_eq_getElem hi)).1
      rw [← Array.getElem?_toList] at g1
      exact List.mem_of_getElem? g1⟩
    show (Code.seq _ _).wp P _ _ _
    refine wp_seq (wp_cond_split hcd (fun h => by cases h) (fun _ => wp_exit ?_))
    show ∃ s' M' ι', blockQ out Q (.exit out) s' ∧ Good C s' _ _ M' ι'
    exact ⟨_, M, ι, by show (if out = out then Q .normal _ else _); rw [if_pos rfl]; exact hfin, hg3⟩
  · -- an entry comes
    obtain ⟨hee, hes⟩ := mem_left hel
    obtain ⟨i, hi', hei⟩ := List.mem_iff_getElem.1 hee
    have hi : i < es0.length := by rw [hlen]; simpa using hi'
    obtain ⟨g1, g2⟩ := he i es0[i] (List.getElem?_eq_getElem hi)
    have hfe : f i = e := by
      rw [Array.getElem?_eq_getElem (by rw [← hlen]; exact hi)] at g1
      injection g1 with g1
      rw [← g1, ← hei, Array.getElem_toList]
    have hpes : es0[i] ∈ es := hsz.perm.mem_iff.1 (List.getElem_mem hi)
    have hpnd : es0[i] ∉ done := fun h => by
      have := (hseen i hi).2 h
      rw [hfe, hes] at this; cases this
    have hr1 : (execOp a.eval o1).run P w = .ok (.value (.tuple #[.bool true, e.key, e.val])) { w with heap := w.heap.setIfInBounds ib (.mapIter (some mb) clock (seen.push e.born) clock), drawn := d } := by
      have hev : a.eval (.tmp it) = .pointer (some ⟨ib, 0, none⟩) := hitv.trans hiv.symm
      simp only [execOp, q11, hev, Sem.run_bind, hrn, Result.andThen_ok, Sem.run_pure]
    have hibl : ib < w.heap.size := (Array.getElem?_eq_some_iff.1 hwi).1
    have hw2s : ({ w with heap := w.heap.setIfInBounds ib (.mapIter (some mb) clock (seen.push e.born) clock), drawn := d } : World).heap.size = w.heap.size := by simp
    have hw2h : ∀ b, b ≠ ib → ({ w with heap := w.heap.setIfInBounds ib (.mapIter (some mb) clock (seen.push e.born) clock), drawn := d } : World).heap[b]? = w.heap[b]? := fun b hb => by
      show (w.heap.setIfInBounds ib _)[b]? = _
      rw [Array.getElem?_setIfInBounds_ne (Ne.symm hb)]
    have hw2i : ({ w with heap := w.heap.setIfInBounds ib (.mapIter (some mb) clock (seen.push e.born) clock), drawn := d } : World).heap[ib]? = some (.mapIter (some mb) clock (seen.push e.born) clock) := by
      show (w.heap.setIfInBounds ib _)[ib]? = _
      simp [hibl]
    have hmi : mb ≠ ib := fun e => hnMi (e ▸ hMm)
    have hw2m := (hw2h mb hmi).trans hwm
    refine (Does.run (T := fun cv w2 => cv = .tuple #[.bool true, e.key, e.val] ∧ w2 = { w with heap := w.heap.setIfInBounds ib (.mapIter (some mb) clock (seen.push e.born) clock), drawn := d }) hr1 ⟨rfl, rfl⟩) K3 _ ?_
    rintro _ _ ⟨rfl, rfl⟩
    have hos2 : ({ w with heap := w.heap.setIfInBounds ib (.mapIter (some mb) clock (seen.push e.born) clock), drawn := d } : World).os = w.os := rfl
    have ht2 : ({ w with heap := w.heap.setIfInBounds ib (.mapIter (some mb) clock (seen.push e.born) clock), drawn := d } : World).tape = w.tape := rfl
    have hou2 : ({ w with heap := w.heap.setIfInBounds ib (.mapIter (some mb) clock (seen.push e.born) clock), drawn := d } : World).output = w.output := rfl
    generalize ({ w with heap := w.heap.setIfInBounds ib (.mapIter (some mb) clock (seen.push e.born) clock), drawn := d } : World) = w2 at hw2s hw2h hw2i hw2m hos2 ht2 hou2
    have hsub2 := hg.mem.into (ib := ib) hw2s hw2h hnMi hnni
    refine hK3 _ _ (wpList_step fun K4 hK4 => ?_)
    rw [if_pos (by simp [Region.wanted, q23]), q12]
    have hr2 : (execOp (a.put (some nx) (.tuple #[.bool true, e.key, e.val])).eval o2).run P w2 = .ok (.value (.bool true)) w2 := by
      have hev : (a.put (some nx) (.tuple #[.bool true, e.key, e.val])).eval (.tmp nx) = .tuple #[.bool true, e.key, e.val] := (put_getD (by rw [hnum]; exact lnx) nx).trans (if_pos rfl)
      simp only [execOp, q21, hev, Instr.extract, show (#[Value.bool true, e.key, e.val] : Array Value)[0]? = some (.bool true) from rfl, Sem.run_bind, Sem.run_pure, Result.andThen_ok]
    refine (Does.run (T := fun cv w3 => cv = .bool true ∧ w2 = w3) hr2 ⟨rfl, rfl⟩) K4 _ ?_
    rintro _ _ ⟨rfl, rfl⟩
    refine hK4 _ _ (wpList_nil ?_)
    rw [q22]
    have hg3 : Good (C.sub (st γ iv).h w2 M ι) ⟨upd (upd (st γ iv).e nx (.tup [.bool true, .any, .any])) more (.bool true), (st γ iv).h⟩ ((a.put (some nx) (.tuple #[.bool true, e.key, e.val])).put (some more) (.bool true)) w2 M ι := by
      refine ⟨hsub2, fun t => ?_, put_dfr.trans (put_dfr.trans hg.dfr), put_size.trans (put_size.trans hg.num)⟩
      rw [put_getD (by rw [put_size, hnum]; exact lmo), put_getD (by rw [hnum]; exact lnx)]
      show Rel M w2 ι _ (upd (upd _ _ _) _ _ t) _
      unfold upd
      by_cases c1 : t = more
      · rw [if_pos c1, if_pos c1]; exact .pur (.bool _)
      · rw [if_neg c1, if_neg c1]
        by_cases c2 : t = nx
        · rw [if_pos c2, if_pos c2]
          refine .tup _ _ rfl fun i v hi => ?_
          match i, hi with
          | 0, hi => injection hi with hi; subst hi; exact .pur (.bool _)
          | 1, hi => injection hi with hi; subst hi; exact .pur (.any _)
          | 2, hi => injection hi with hi; subst hi; exact .pur (.any _)
        · rw [if_neg c2, if_neg c2]
          exact (hg.env t).keep (fun _ h => h) (fun b hb => hw2h b fun e => hnMi (e ▸ hb)) (Keeps.refl _ _)
    have hcd : ((a.put (some nx) (.tuple #[.bool true, e.key, e.val])).put (some more) (.bool true)).eval (.tmp more) = .bool true := (put_getD (by rw [put_size, hnum]; exact lmo) more).trans (if_pos rfl)
    have hitv3 : ((a.put (some nx) (.tuple #[.bool true, e.key, e.val])).put (some more) (.bool true)).eval (.tmp it) = .pointer (some ⟨ib, 0, none⟩) := by
      show ((a.put (some nx) _).put (some more) _).tmps.getD it undef = _
      rw [put_getD (by rw [put_size, hnum]; exact lmo), if_neg hd.2, put_getD (by rw [hnum]; exact lnx), if_neg hd.1]
      exact hitv.trans hiv.symm
    have hnum3 : ((a.put (some nx) (.tuple #[.bool true, e.key, e.val])).put (some more) (.bool true)).tmps.size = N := by rw [put_size, put_size]; exact hnum
    generalize ((a.put (some nx) (.tuple #[.bool true, e.key, e.val])).put (some more) (.bool true)) = a3 at hg3 hcd hitv3 hnum3
    have hpv : Pur M w2 es0[i].2 e.val := by rw [← hfe]; exact Pur.leaf (hleaf _ hpes) (hvv i _ (List.getElem?_eq_getElem hi))
    have hpk : Pur M w2 (kyV es0[i].1) e.key := kyV_pur (by rw [← hfe]; exact g2)
    show (Code.seq _ _).wp P _ _ _
    refine wp_seq (wp_cond_split hcd (fun _ => wp_skip ?_) (fun h => by cases h))
    show (Code.block next _).wp P _ _ _
    have key : (Code.block next (.seq (.region id2 ops2 false) code)).wp P (fun e' a' w' => ∃ s' M' ι', (thenQ (fun s' => ∃ γ', I (done ++ [es0[i]]) γ' ∧ Le s' (st γ' iv)) (blockQ out Q)) e' s' ∧ Good (C.sub (st γ iv).h w2 M ι) s' a' w' M' ι') a3 w2 := by
      refine block_wp ?_
      refine wp_seq (wp_region_list ?_)
      rw [e2]
      refine wpList_step fun K5 hK5 => ?_
      rw [if_pos (by simp [Region.wanted, q33])]
      have hr3 : (execOp a3.eval o3).run P w2 = .ok (.value (.tuple #[e.key, e.val])) w2 := by
        simp only [execOp, q31, hitv3, Sem.run_bind, run_entry_at w2 ib mb clock seen ents clock e hw2i hw2m hee hst.2.1, Result.andThen_ok, Sem.run_pure]
      refine (Does.run (T := fun cv w3 => cv = .tuple #[e.key, e.val] ∧ w2 = w3) hr3 ⟨rfl, rfl⟩) K5 _ ?_
      rintro _ _ ⟨rfl, rfl⟩
      refine hK5 _ _ ?_
      rw [q32]
      have hg4 : Good (C.sub (st γ iv).h w2 M ι) ⟨upd (upd (upd (st γ iv).e nx (.tup [.bool true, .any, .any])) more (.bool true)) pair (.tup [kyV es0[i].1, es0[i].2]), (st γ iv).h⟩ (a3.put (some pair) (.tuple #[e.key, e.val])) w2 M ι := by
        refine ⟨hg3.mem, fun t => ?_, put_dfr.trans hg3.dfr, put_size.trans hg3.num⟩
        rw [put_getD (by rw [hnum3]; exact lpa)]
        show Rel M w2 ι _ (upd _ pair _ t) _
        rw [upd]
        by_cases c1 : t = pair
        · rw [if_pos c1, if_pos c1]
          refine .tup _ _ rfl fun i v hi => ?_
          match i, hi with
          | 0, hi => injection hi with hi; subst hi; exact .pur hpk
          | 1, hi => injection hi with hi; subst hi; exact .pur hpv
        · rw [if_neg c1, if_neg c1]; exact hg3.env t
      refine wpList_of_arun hG (C := C.sub (st γ iv).h w2 M ι) (K := fun s2 => AW P (C.sub (st γ iv).h w2 M ι) code (blockQ next (thenQ (fun s' => ∃ γ', I (done ++ [es0[i]]) γ' ∧ Le s' (st γ' iv)) (blockQ out Q))) s2) (fun s' a' w' M' ι' h1 h2 => ?_) l3 aos3 (by show l3.mapM (trO P C.N ops2) = _; rw [hN]; exact p3) _ _ _ _ _ hg4
        (round (C.sub (st γ iv).h w2 M ι) hN iv γ done es0[i] hI hpes hpnd hsubs (fun s' => ∃ γ', I (done ++ [es0[i]]) γ' ∧ Le s' (st γ' iv)) (fun γ' s' i1 i2 => ⟨γ', i1, i2⟩))
      show code.wp P _ a' w'
      exact h1 a' w' M' ι' h2
    have hibs : ib < w2.heap.size := by omega
    have hmbs : mb < w2.heap.size := by have := hg.mem.lt mb hMm; omega
    have hnnm : ∀ n, ((st γ iv).h n).isSome = true → blk (ι n) ≠ some mb := fun n a1 a2 => hg.mem.imm n mb a1 a2 hMm
    refine wp_mono key fun e' a' w' ⟨s', M', ι', r1, r2⟩ => ?_
    have bk := hg.mem.back hw2s hos2 ht2 hou2 hw2h hC0 r2.mem
    cases e' with
    | normal =>
      obtain ⟨γ', i1, i2⟩ := r1
      obtain ⟨M'', ι'', hgn⟩ := i2 U _ _ _ _ _ r2
      have lf := hgn.mem.left hibs hnni
      have lfm := hgn.mem.left hmbs hnnm
      show ∃ n', n' < (leftOf ents seen).size ∧ _
      refine ⟨_, left_shrinks ents seen e hel, done ++ [es0[i]], γ', M'', ι'', seen.push e.born, i1, fun q hq => ?_, ⟨hg.mem.back hw2s hos2 ht2 hou2 hw2h hC0 hgn.mem, hgn.env, hgn.dfr, hgn.num⟩, hgn.mem.base mb hMm, lf.2.1 hnMi, lf.2.2, lf.1.trans hw2i, lfm.1.trans hw2m, fun j hj => ?_, rfl⟩
      · rcases List.mem_append.1 hq with hq | hq
        · exact hsubs q hq
        · rw [List.mem_singleton.1 hq]; exact hpes
      · rw [contains_push, Bool.or_eq_true, List.mem_append, List.mem_singleton, hseen j hj, beq_iff_eq, ← hfe]
        refine or_congr Iff.rfl ⟨fun h => ?_, fun h => ?_⟩
        · have := uniq j i hj hi h
          subst this; rfl
        · have n2 := List.pairwise_iff_getElem.1 hnd0
          rcases Nat.lt_trichotomy j i with h1 | h1 | h1
          · exact absurd (by rw [List.getElem_map, List.getElem_map, h]) (n2 j i (by rw [List.length_map]; exact hj) (by rw [List.length_map]; exact hi) h1)
          · subst h1; rfl
          · exact absurd (by rw [List.getElem_map, List.getElem_map, h]) (n2 i j (by rw [List.length_map]; exact hi) (by rw [List.length_map]; exact hj) h1)
    | exit id => exact ⟨s', M', ι', r1, ⟨bk, r2.env, r2.dfr, r2.num⟩⟩
    | goto l => exact ⟨s', M', ι', r1, ⟨bk, r2.env, r2.dfr, r2.num⟩⟩
    | ret => exact ⟨s', M', ι', r1, ⟨bk, r2.env, r2.dfr, r2.num⟩⟩
    | panic ch => exact ⟨s', M', ι', r1, ⟨bk, r2.env, r2.dfr, r2.num⟩⟩
    | outgrown => exact ⟨s', M', ι', r1, ⟨bk, r2.env, r2.dfr, r2.num⟩⟩
end
end Go.Proofs.YtkdkjbneohdofaaDoor
