import Derived.Test.YtllhcpjgilpbnaaDoorCa5
import Derived.Laws.IdiomRangeMap
namespace Go.Proofs.YtllhcpjgilpbnaaDoor
open Go Go.RowKit
set_option linter.unusedSimpArgs false
set_option linter.unusedVariables false
set_option linter.deprecated false
theorem mkE_ren (σ : Nat → Nat) (l : List (Nat × V)) (t : Nat) : mkE (l.map fun p => (p.1, p.2.ren σ)) t = (mkE l t).ren σ := by
  induction l with
  | nil => simp only [List.map_nil, mkE, V.ren]
  | cons p l ih =>
    obtain ⟨a, v⟩ := p
    simp only [List.map_cons, mkE]
    split
    · rfl
    · exact ih
theorem mkH_ren1 {σ τ : Nat → Nat} : ∀ {hl : List (Nat × Ob)}, (∀ q ∈ hl, τ (σ q.1) = q.1) → ∀ {m : Nat} {o : Ob}, mkH hl m = some o → mkH (hl.map fun q => (σ q.1, q.2.ren σ)) (σ m) = some (o.ren σ)
  | [], _, m, o, h => by cases h
  | (a, x) :: hl, inv, m, o, h => by
    simp only [List.map_cons, mkH] at h ⊢
    by_cases e : m = a
    · subst e; rw [if_pos rfl] at h ⊢; injection h with h; rw [h]
    · rw [if_neg e] at h
      have hm := mkH_in (show (mkH hl m).isSome = true by rw [h]; rfl)
      obtain ⟨q, hq, rfl⟩ := List.mem_map.1 hm
      have h1 := inv q (List.mem_cons_of_mem _ hq)
      have h2 := inv (a, x) (List.mem_cons_self ..)
      rw [if_neg (fun e2 => e (by rw [← h1, e2]; exact h2))]
      exact mkH_ren1 (fun q hq => inv q (List.mem_cons_of_mem _ hq)) h
theorem mkH_ren2 {σ τ : Nat → Nat} : ∀ {hl : List (Nat × Ob)}, (∀ q ∈ hl, τ (σ q.1) = q.1) → ∀ {n : Nat} {o' : Ob}, mkH (hl.map fun q => (σ q.1, q.2.ren σ)) n = some o' → ∃ m o, n = σ m ∧ mkH hl m = some o ∧ o' = o.ren σ
  | [], _, n, o', h => by cases h
  | (a, x) :: hl, inv, n, o', h => by
    simp only [List.map_cons, mkH] at h
    by_cases e : n = σ a
    · rw [if_pos e] at h
      injection h with h
      exact ⟨a, x, e, by simp only [mkH, if_true], h.symm⟩
    · rw [if_neg e] at h
      obtain ⟨m, o, h1, h2, h3⟩ := mkH_ren2 (fun q hq => inv q (List.mem_cons_of_mem _ hq)) h
      exact ⟨m, o, h1, by simp only [mkH]; rw [if_neg (fun e2 => e (by rw [h1, e2]))]; exact h2, h3⟩
theorem Le.ren (σ τ : Nat → Nat) (l : List (Nat × V)) (hl : List (Nat × Ob)) (inv : ∀ q ∈ hl, τ (σ q.1) = q.1) (big : ∀ q ∈ hl, 1000 ≤ σ q.1 → σ q.1 = q.1) (hv : ∀ p ∈ l, p.2.nin (hl.map (·.1)) = true) (ho : ∀ q ∈ hl, q.2.nin (hl.map (·.1))) :
    Le ⟨mkE l, mkH hl⟩ ⟨mkE (l.map fun p => (p.1, p.2.ren σ)), mkH (hl.map fun q => (σ q.1, q.2.ren σ))⟩ := by
  intro U C a w M ι hg
  have hm := hg.mem
  have inv2 : ∀ m ∈ hl.map (·.1), τ (σ m) = m := fun m hm => by obtain ⟨q, hq, rfl⟩ := List.mem_map.1 hm; exact inv q hq
  have hR : Ren (hl.map (·.1)) σ ι (mkH hl) (fun n => ι (τ n)) (mkH (hl.map fun q => (σ q.1, q.2.ren σ))) := by
    refine ⟨fun n hn => ?_, fun n hn t c h => ⟨_, mkH_ren1 inv h⟩, fun n hn t sz r h => ⟨_, renR_len _ _, mkH_ren1 inv h⟩, fun n hn es h => ⟨_, mkH_ren1 inv h⟩⟩
    show ι (τ (σ n)) = ι n
    rw [inv2 n hn]
  have isin : ∀ {n : Nat}, (mkH (hl.map fun q => (σ q.1, q.2.ren σ)) n).isSome = true → ∃ m o, n = σ m ∧ mkH hl m = some o ∧ m ∈ hl.map (·.1) ∧ τ n = m := fun {n} h => by
    obtain ⟨o', ho'⟩ := Option.isSome_iff_exists.1 h
    obtain ⟨m, o, h1, h2, _⟩ := mkH_ren2 inv ho'
    have hmi := mkH_in (show (mkH hl m).isSome = true by rw [h2]; rfl)
    exact ⟨m, o, h1, h2, hmi, by rw [h1, inv2 m hmi]⟩
  have big2 : ∀ m ∈ hl.map (·.1), 1000 ≤ σ m → σ m = m := fun m hm h => by obtain ⟨q, hq, rfl⟩ := List.mem_map.1 hm; exact big q hq h
  refine ⟨M, fun n => ι (τ n), ⟨fun n o' h' => ?_, fun n m b h1 h2 e1 e2 => ?_, fun n b hs hb => ?_, hm.lt, fun n b hs hb => ?_, hm.size, hm.keep, hm.os, hm.tape, hm.output, hm.base, hm.tb, hm.tm, hm.old, fun n t sz r0 t' sz' rows hn h0 h' => ?_, fun n hn => ⟨fun t c h' => ?_, fun es h' => ?_⟩⟩, fun t => ?_, hg.dfr, hg.num⟩
  · obtain ⟨m, o, rfl, h2, rfl⟩ := mkH_ren2 inv h'
    have hmi := mkH_in (show (mkH hl m).isSome = true by rw [h2]; rfl)
    have := (hm.obj m o h2).ren (fun _ h => h) hR hmi (ho _ (mkH_mem h2))
    exact this
  · obtain ⟨m1, o1, rfl, k1, _, t1⟩ := isin h1
    obtain ⟨m2, o2, rfl, k2, _, t2⟩ := isin h2
    rw [t1] at e1
    rw [t2] at e2
    rw [hm.dis m1 m2 b (by show (mkH hl m1).isSome = true; rw [k1]; rfl) (by show (mkH hl m2).isSome = true; rw [k2]; rfl) e1 e2]
  · obtain ⟨m1, o1, rfl, k1, _, t1⟩ := isin hs
    rw [t1] at hb
    exact hm.imm m1 b (by show (mkH hl m1).isSome = true; rw [k1]; rfl) hb
  · obtain ⟨m1, o1, rfl, k1, _, t1⟩ := isin hs
    rw [t1] at hb
    exact hm.may m1 b (by show (mkH hl m1).isSome = true; rw [k1]; rfl) hb
  · obtain ⟨m, o, e, h2, e2⟩ := mkH_ren2 inv h'
    have hmi := mkH_in (show (mkH hl m).isSome = true by rw [h2]; rfl)
    have eσ := big2 m hmi (by rw [← e]; exact hn)
    have enm : n = m := by rw [e, eσ]
    subst enm
    have et : τ n = n := by have := inv2 n hmi; rwa [eσ] at this
    cases o with
    | arr t2 sz2 r2 =>
      injection e2 with e3 e4 e5
      subst e3 e4 e5
      show _ ∧ (_ → ι (τ n) = _)
      rw [et, renR_len]
      exact hm.arr0 n t sz r0 _ _ _ hn h0 h2
    | box _ _ => cases e2
    | mp _ => cases e2
  · obtain ⟨m, o, e, h2, e2⟩ := mkH_ren2 inv h'
    have hmi := mkH_in (show (mkH hl m).isSome = true by rw [h2]; rfl)
    have eσ := big2 m hmi (by rw [← e]; exact hn)
    have enm : n = m := by rw [e, eσ]
    subst enm
    have et : τ n = n := by have := inv2 n hmi; rwa [eσ] at this
    cases o with
    | box t2 c2 => show ι (τ n) = _; rw [et]; exact (hm.pin n hn).1 _ _ h2
    | arr _ _ _ => cases e2
    | mp _ => cases e2
  · obtain ⟨m, o, e, h2, e2⟩ := mkH_ren2 inv h'
    have hmi := mkH_in (show (mkH hl m).isSome = true by rw [h2]; rfl)
    have eσ := big2 m hmi (by rw [← e]; exact hn)
    have enm : n = m := by rw [e, eσ]
    subst enm
    have et : τ n = n := by have := inv2 n hmi; rwa [eσ] at this
    cases o with
    | mp es2 => show ι (τ n) = _; rw [et]; exact (hm.pin n hn).2 _ h2
    | arr _ _ _ => cases e2
    | box _ _ => cases e2
  · show Rel M w _ _ (mkE (l.map fun p => (p.1, p.2.ren σ)) t) _
    rw [mkE_ren]
    refine (hg.env t).ren (fun _ h => h) hR ?_
    rcases mkE_mem (l := l) (t := t) with e | e
    · show (mkE l t).nin _ = true
      rw [e]; simp only [V.nin]
    · exact hv _ e
section
variable {P : Program}
theorem run_next_at (w : World) (ty : TypeId) (ib bm since : Nat) (seen : Array Nat) (es : Array MapEntry) (clock : Nat) (hi : w.heap[ib]? = some (.mapIter (some bm) since seen clock)) (hb : w.heap[bm]? = some (.map es clock)) (hold : ∀ x ∈ es.toList, x.born < since) (hsc : since ≤ clock) :
    ((leftOf es seen).size = 0 ∧ (Instr.next (.pointer (some ⟨ib, 0, none⟩)) false ty).run P w = .ok (.tuple #[.bool false]) w) ∨
    ∃ e ∈ (leftOf es seen).toList, ∃ d : Nat, (Instr.next (.pointer (some ⟨ib, 0, none⟩)) false ty).run P w = .ok (.tuple #[.bool true, e.key, e.val]) { w with heap := w.heap.setIfInBounds ib (.mapIter (some bm) since (seen.push e.born) clock), drawn := d } := by
  simp only [Instr.next, getObj, Sem.run_bind, Sem.run, hi, hb, Result.andThen, next_test_false seen es since clock hold hsc, Bool.false_eq_true, if_false]
  unfold leftOf
  have hmem : ∀ x ∈ (Array.filter (fun e => !seen.contains e.born) es).toList, x.born < since := fun x hx => hold x (by simp at hx ⊢; exact hx.1)
  generalize Array.filter (fun e => !seen.contains e.born) es = L at hmem ⊢
  have e1 : L.filter (fun x => decide (x.born < since)) = L := Array.filter_eq_self.2 (fun x hx => by simpa using hmem x (by simpa using hx))
  have e2 : L.filter (fun x => decide (x.born ≥ since)) = #[] := by
    rw [Array.filter_eq_empty_iff]
    intro x hx
    have := hmem x (by simpa using hx)
    simp
    omega
  simp only [e1, e2, Array.append_empty]
  by_cases h0 : L.size = 0
  · left
    have : L = #[] := Array.eq_empty_of_size_eq_zero h0
    subst this
    refine ⟨rfl, ?_⟩
    simp [choose, Sem.run, Question.forced]
  · right
    have hne : L.isEmpty = false := by simp [Array.isEmpty, h0]
    simp only [hne, Bool.false_eq_true, if_false, Array.empty_append, Array.size_map]
    have hch : ∃ (j d : Nat), j < L.size ∧ (choose (Question.mapNext L.size)).run P w = .ok j { w with drawn := d } := by
      by_cases hf : L.size ≤ 1
      · exact ⟨0, w.drawn, by omega, by simp [choose, Sem.run, Question.forced, hf]⟩
      · exact ⟨_, w.drawn + 1, Nat.mod_lt _ (by omega), by
          simp only [choose, Sem.run, Question.forced, decide_eq_true_eq, hf, if_false, Question.cut]
          rfl⟩
    obtain ⟨j, d, hj, hrun⟩ := hch
    refine ⟨L[j], by simp, d, ?_⟩
    have hset : ∀ o' : Obj, (setObj ib o').run P ({ w with drawn := d } : World) = .ok () { w with heap := w.heap.setIfInBounds ib o', drawn := d } := fun o' => by
      simp only [setObj, Sem.run, hi]
    simp only [hrun, Array.getElem?_map, Array.getElem?_eq_getElem hj, Option.map_some, Sem.run_bind, hset, Result.andThen]
    rfl
theorem run_entry_at (w : World) (ib bm since : Nat) (seen : Array Nat) (es : Array MapEntry) (clock : Nat) (e : MapEntry) (hi : w.heap[ib]? = some (.mapIter (some bm) since (seen.push e.born) clock)) (hb : w.heap[bm]? = some (.map es clock)) (he : e ∈ es.toList) (hn : (es.toList.map (·.born)).Nodup) :
    (Instr.entry (.pointer (some ⟨ib, 0, none⟩))).run P w = .ok (.tuple #[e.key, e.val]) w := by
  have hf : es.find? (·.born == e.born) = some e := by rw [← Array.find?_toList]; exact find_born e es.toList hn he
  simp only [Instr.entry, getObj, Sem.run_bind, Sem.run, hi, hb, Result.andThen, Array.back?_push, bne_self_eq_false, Bool.false_eq_true, if_false, hf]
  rfl
end
def kyV : Ky → V
  | .s l => .str l
  | .i n => .int .i64 n
  | .ss a b => .agg [.str a, .str b]
  | .lg a n m b => .agg [.str a, .int .i64 n, .int .i64 m, .str b]
theorem kyV_pur {M : Nat → Prop} {w : World} {k : Ky} {cv : Value} (h : KyRel k cv) : Pur M w (kyV k) cv := by
  cases k with
  | s l => simp only [KyRel] at h; subst h; exact .str l
  | i n => simp only [KyRel] at h; subst h; exact .int _ n
  | ss a b =>
    simp only [KyRel] at h
    subst h
    refine .agg _ _ rfl (fun c hc => ?_) (fun i v hi => ?_)
    · cases hc with
      | head => rfl
      | tail _ h => cases h with
        | head => rfl
        | tail _ h => cases h
    · match i, hi with
      | 0, hi => injection hi with hi; subst hi; exact .str a
      | 1, hi => injection hi with hi; subst hi; exact .str b
  | lg a n m b =>
    simp only [KyRel] at h
    subst h
    refine .agg _ _ rfl (fun c hc => ?_) (fun i v hi => ?_)
    · simp only [List.mem_cons, List.not_mem_nil, or_false] at hc
      rcases hc with rfl | rfl | rfl | rfl <;> rfl
    · match i, hi with
      | 0, hi => injection hi with hi; subst hi; exact .str a
      | 1, hi => injection hi with hi; subst hi; exact .int _ n
      | 2, hi => injection hi with hi; subst hi; exact .int _ m
      | 3, hi => injection hi with hi; subst hi; exact .str b
section
variable {P : Program} {U : Tbl} {C : Ctx U} {G : Tab}
theorem wpList_app {ops : Array Oper} {Q' : Exit → Act → World → Prop} {EF : Nat → Bool} (hG : ∀ f, PureC P U f (G f)) {K : St → Prop} {tail : List Oper} (hK : ∀ s' a' w' M' ι', K s' → Good C s' a' w' M' ι' → wpList P ops Q' tail a' w') : ∀ (l : List Oper) (aos : List AO), l.mapM (trO P C.N ops) = some aos →
    ∀ (s : St) (a : Act) (w : World) (M : Nat → Prop) (ι : Nat → Value), Good C s a w M ι → arun P U EF G aos s K → wpList P ops Q' (l ++ tail) a w
  | [], aos, ht, s, a, w, M, ι, hg, h => by
    simp at ht
    subst ht
    exact hK s a w M ι h hg
  | o :: l, aos, ht, s, a, w, M, ι, hg, h => by
    rw [List.mapM_cons] at ht
    cases h1 : trO P C.N ops o with
    | none => rw [h1] at ht; cases ht
    | some ao =>
      rw [h1] at ht
      cases h2 : l.mapM (trO P C.N ops) with
      | none => rw [h2] at ht; cases ht
      | some aos' =>
        rw [h2] at ht
        have e : ao :: aos' = aos := Option.some.inj ht
        subst e
        unfold arun at h
        rw [List.cons_append]
        refine wpList_step fun K2 hK2 => ?_
        split at h
        · rename_i f us he
          exact step_estep h1 hg he h fun s' a' w' M' ι' h3 hg' => hK2 _ _ (wpList_app hG hK l aos' h2 s' a' w' M' ι' hg' h3)
        · obtain ⟨p1, p2⟩ := h
          exact step_sim h1 hG hg p1 fun a' w' M' ι' hg' => hK2 _ _ (wpList_app hG hK l aos' h2 _ a' w' M' ι' hg' p2)
theorem block_wp {id : Nat} {c : Code} {Q : Exit → St → Prop} {a : Act} {w : World} (h : c.wp P (fun e a' w' => ∃ s' M' ι', blockQ id Q e s' ∧ Good C s' a' w' M' ι') a w) : (Code.block id c).wp P (fun e a' w' => ∃ s' M' ι', Q e s' ∧ Good C s' a' w' M' ι') a w :=
  wp_block (wp_mono h fun e a' w' ⟨s', M', ι', h1, h2⟩ => by
    cases e with
    | exit id' =>
      simp only [Exit.inBlock]
      simp only [blockQ] at h1
      split
      · rename_i he; rw [if_pos he] at h1; exact ⟨s', M', ι', h1, h2⟩
      · rename_i he; rw [if_neg he] at h1; exact ⟨s', M', ι', h1, h2⟩
    | normal => exact ⟨s', M', ι', h1, h2⟩
    | goto l => exact ⟨s', M', ι', h1, h2⟩
    | ret => exact ⟨s', M', ι', h1, h2⟩
    | panic ch => exact ⟨s', M', ι', h1, h2⟩
    | outgrown => exact ⟨s', M', ι', h1, h2⟩)
def Ctx.sub (C : Ctx U) (h : Nat → Option Ob) (w : World) (M : Nat → Prop) (ι : Nat → Value) : Ctx U := ⟨w, fun b => ∃ n, (h n).isSome = true ∧ blk (ι n) = some b, C.N, M, C.ι0, C.h0⟩
theorem Mem.into {h : Nat → Option Ob} {w w2 : World} {M : Nat → Prop} {ι : Nat → Value} (hm : Mem C h w M ι) {ib : Nat} (hsz : w2.heap.size = w.heap.size) (hh : ∀ b, b ≠ ib → w2.heap[b]? = w.heap[b]?) (hM : ¬ M ib) (hn : ∀ n, (h n).isSome = true → blk (ι n) ≠ some ib) : Mem (C.sub h w2 M ι) h w2 M ι := by
  have hMh : ∀ b, M b → w2.heap[b]? = w.heap[b]? := fun b hb => hh b fun e => hM (e ▸ hb)
  refine ⟨fun n o hno => (hm.obj n o hno).keep (fun _ h => h) hMh (Keeps.refl _ _) rfl fun b hb => hh b fun e => hn n (by rw [hno]; rfl) (e ▸ hb), hm.dis, hm.imm, fun b hb => by rw [hsz]; exact hm.lt b hb, fun n b h1 h2 => .inl ⟨n, h1, h2⟩, Nat.le_refl _, fun _ _ _ => rfl, rfl, rfl, rfl, fun _ h => h, U.keep w w2 (fun b hb => hMh b (hm.tm b hb)) hm.tb, hm.tm, fun b _ hb => .inl hb, hm.arr0, hm.pin⟩
theorem Mem.back {h h' : Nat → Option Ob} {w w2 w' : World} {M M' : Nat → Prop} {ι ι' : Nat → Value} (hm : Mem C h w M ι) {ib : Nat} (hsz : w2.heap.size = w.heap.size) (hos : w2.os = w.os) (ht : w2.tape = w.tape) (hou : w2.output = w.output) (hh : ∀ b, b ≠ ib → w2.heap[b]? = w.heap[b]?) (hib : C.w0.heap.size ≤ ib) (hk : Mem (C.sub h w2 M ι) h' w' M' ι') : Mem C h' w' M' ι' := by
  have hs0 := hm.size
  have hs1 : w2.heap.size ≤ w'.heap.size := hk.size
  refine ⟨hk.obj, hk.dis, hk.imm, hk.lt, fun n b h1 h2 => ?_, by omega, fun b hb hX => ?_, hk.os.trans (hos.trans hm.os), hk.tape.trans (ht.trans hm.tape), hk.output.trans (hou.trans hm.output), fun b hb => hk.base b (hm.base b hb), hk.tb, hk.tm, fun b hb hM => ?_, hk.arr0, hk.pin⟩
  · rcases hk.may n b h1 h2 with ⟨m, a1, a2⟩ | h3
    · exact hm.may m b a1 a2
    · have h3' : w2.heap.size ≤ b := h3
      exact .inr (by omega)
  · have e1 := hk.keep b (by show b < w2.heap.size; omega) (fun ⟨m, a1, a2⟩ => (hm.may m b a1 a2).elim hX (fun h => by omega))
    have e1' : w'.heap[b]? = w2.heap[b]? := e1
    rw [e1', hh b (by omega)]
    exact hm.keep b hb hX
  · rcases hk.old b (by show b < w2.heap.size; omega) hM with h3 | ⟨m, a1, a2⟩
    · exact hm.old b hb h3
    · exact .inr ((hm.may m b a1 a2).resolve_right (by omega))
theorem Mem.left {h h' : Nat → Option Ob} {w2 w' : World} {M M' : Nat → Prop} {ι ι' : Nat → Value} (hk : Mem (C.sub h w2 M ι) h' w' M' ι') {b : Nat} (hb : b < w2.heap.size) (hn : ∀ n, (h n).isSome = true → blk (ι n) ≠ some b) : w'.heap[b]? = w2.heap[b]? ∧ (¬ M b → ¬ M' b) ∧ ∀ n, (h' n).isSome = true → blk (ι' n) ≠ some b := by
  refine ⟨hk.keep b hb fun ⟨n, a1, a2⟩ => hn n a1 a2, fun hM hM' => ?_, fun n a1 a2 => ?_⟩
  · rcases hk.old b hb hM' with h3 | ⟨m, a1, a2⟩
    · exact hM h3
    · exact hn m a1 a2
  · rcases hk.may n b a1 a2 with ⟨m, b1, b2⟩ | h3
    · exact hn m b1 b2
    · have h3' : w2.heap.size ≤ b := h3
      omega
end
set_option linter.unusedSimpArgs false
set_option linter.unusedVariables false
set_option linter.deprecated false
theorem mkH_app (a b : List (Nat × Ob)) (n : Nat) : mkH (a ++ b) n = match mkH a n with | some o => some o | none => mkH b n := by
  induction a with
  | nil => rfl
  | cons p a ih =>
    obtain ⟨m, o⟩ := p
    rw [List.cons_append, mkH, mkH]
    split
    · rfl
    · exact ih
theorem mkH_none {l : List (Nat × Ob)} {n : Nat} (h : n ∉ l.map (·.1)) : mkH l n = none := by
  cases e : mkH l n with
  | none => rfl
  | some o => exact absurd (List.mem_map.2 ⟨_, mkH_mem e, rfl⟩) h
theorem mkH_at : ∀ {l : List (Nat × Ob)}, (l.map (·.1)).Nodup → ∀ {q : Nat × Ob}, q ∈ l → mkH l q.1 = some q.2
  | p :: l, hn, q, hq => by
    rw [List.map_cons, List.nodup_cons] at hn
    obtain ⟨m, o⟩ := p
    rw [mkH]
    rcases List.mem_cons.1 hq with rfl | hq
    · rw [if_pos rfl]
    · rw [if_neg (fun e => hn.1 (List.mem_map.2 ⟨q, hq, e⟩))]
      exact mkH_at hn.2 hq
structure Fam (K R : List Nat) (hl : (Nat → Nat) → List (Nat × Ob)) : Prop where
  nm : ∀ ν, (hl ν).map (·.1) = K.map ν
  rn : ∀ {ν ν' σ : Nat → Nat}, (∀ k ∈ R, σ (ν k) = ν' k) → (hl ν).map (fun q => (σ q.1, q.2.ren σ)) = hl ν'
  ni : ∀ {ν : Nat → Nat} {D : List Nat}, (∀ k ∈ R, ν k ∈ D) → ∀ q ∈ hl ν, q.2.nin D
structure FamV (R : List Nat) (vs : (Nat → Nat) → List V) : Prop where
  rn : ∀ {ν ν' σ : Nat → Nat}, (∀ k ∈ R, σ (ν k) = ν' k) → V.rens σ (vs ν) = vs ν'
  ni : ∀ {ν : Nat → Nat} {D : List Nat}, (∀ k ∈ R, ν k ∈ D) → V.nins D (vs ν) = true
theorem Fam.mono {K R R' : List Nat} {a : (Nat → Nat) → List (Nat × Ob)} (h : Fam K R a) (hR : ∀ k ∈ R, k ∈ R') : Fam K R' a :=
  ⟨h.nm, fun hs => h.rn fun k hk => hs k (hR k hk), fun hs => h.ni fun k hk => hs k (hR k hk)⟩
theorem FamV.mono {R R' : List Nat} {a : (Nat → Nat) → List V} (h : FamV R a) (hR : ∀ k ∈ R, k ∈ R') : FamV R' a :=
  ⟨fun hs => h.rn fun k hk => hs k (hR k hk), fun hs => h.ni fun k hk => hs k (hR k hk)⟩
theorem Fam.app {K1 K2 R : List Nat} {a b : (Nat → Nat) → List (Nat × Ob)} (h1 : Fam K1 R a) (h2 : Fam K2 R b) : Fam (K1 ++ K2) R (fun ν => a ν ++ b ν) :=
  ⟨fun ν => by rw [List.map_append, List.map_append, h1.nm, h2.nm], fun hs => by rw [List.map_append, h1.rn hs, h2.rn hs], fun hs q hq => (List.mem_append.1 hq).elim (h1.ni hs q) (h2.ni hs q)⟩
theorem Fam.nil (R : List Nat) : Fam [] R (fun _ => []) := ⟨fun _ => rfl, fun _ => rfl, fun _ q hq => (nomatch hq)⟩
theorem Fam.one {k : Nat} {R : List Nat} {o : (Nat → Nat) → Ob} (hk : k ∈ R) (hr : ∀ {ν ν' σ : Nat → Nat}, (∀ k ∈ R, σ (ν k) = ν' k) → (o ν).ren σ = o ν') (hn : ∀ {ν : Nat → Nat} {D : List Nat}, (∀ k ∈ R, ν k ∈ D) → (o ν).nin D) : Fam [k] R (fun ν => [(ν k, o ν)]) :=
  ⟨fun _ => rfl, fun hs => by simp only [List.map_cons, List.map_nil, hr hs, hs k hk], fun hs q hq => by rw [List.mem_singleton.1 hq]; exact hn hs⟩
theorem Fam.cons {k : Nat} {K R : List Nat} {o : (Nat → Nat) → Ob} {a : (Nat → Nat) → List (Nat × Ob)} (hk : k ∈ R) (hr : ∀ {ν ν' σ : Nat → Nat}, (∀ k ∈ R, σ (ν k) = ν' k) → (o ν).ren σ = o ν') (hn : ∀ {ν : Nat → Nat} {D : List Nat}, (∀ k ∈ R, ν k ∈ D) → (o ν).nin D) (h : Fam K R a) : Fam (k :: K) R (fun ν => (ν k, o ν) :: a ν) :=
  (Fam.one hk hr hn).app h
theorem Fam.at {K R : List Nat} {a : (Nat → Nat) → List (Nat × Ob)} (c : Nat → Nat) (h : Fam K R a) : Fam (K.map c) (R.map c) (fun ν => a (fun k => ν (c k))) :=
  ⟨fun ν => by rw [h.nm, List.map_map]; rfl, fun hs => h.rn fun k hk => hs (c k) (List.mem_map.2 ⟨k, hk, rfl⟩), fun hs => h.ni fun k hk => hs (c k) (List.mem_map.2 ⟨k, hk, rfl⟩)⟩
theorem FamV.at {R : List Nat} {a : (Nat → Nat) → List V} (c : Nat → Nat) (h : FamV R a) : FamV (R.map c) (fun ν => a (fun k => ν (c k))) :=
  ⟨fun hs => h.rn fun k hk => hs (c k) (List.mem_map.2 ⟨k, hk, rfl⟩), fun hs => h.ni fun k hk => hs (c k) (List.mem_map.2 ⟨k, hk, rfl⟩)⟩
theorem FamV.pure {R : List Nat} {vs : List V} (h : V.purs vs = true) (hn : ∀ D, V.nins D vs = true) : FamV R (fun _ => vs) := ⟨fun _ => V.rens_pur _ _ h, fun _ => hn _⟩
theorem FamV.cons {R : List Nat} {v : (Nat → Nat) → V} {vs : (Nat → Nat) → List V} (h1 : FamV R (fun ν => [v ν])) (h2 : FamV R vs) : FamV R (fun ν => v ν :: vs ν) :=
  ⟨fun hs => by have := h1.rn hs; simp only [V.rens, List.cons.injEq, and_true] at this; simp only [V.rens, this, h2.rn hs], fun hs => by have := h1.ni hs; simp only [V.nins, Bool.and_true] at this; simp only [V.nins, this, h2.ni hs, Bool.and_self]⟩
theorem FamV.ptr {R : List Nat} {k : Nat} (off : Nat) (h : k ∈ R) : FamV R (fun ν => [.ptr (ν k) off]) :=
  ⟨fun hs => by simp only [V.rens, V.ren, hs k h], fun hs => by simp only [V.nins, V.nin, Bool.and_true, List.contains_iff_mem, hs k h]⟩
theorem FamV.own {R : List Nat} {k : Nat} (len : Nat) (h : k ∈ R) : FamV R (fun ν => [.own (ν k) len]) :=
  ⟨fun hs => by simp only [V.rens, V.ren, hs k h], fun hs => by simp only [V.nins, V.nin, Bool.and_true, List.contains_iff_mem, hs k h]⟩
def Ob.tag : Ob → Nat × TypeId × Nat
  | .box t _ => (0, t, 0)
  | .arr t sz _ => (1, t, sz)
  | .mp _ => (2, 0, 0)
theorem Ob.kind_tag {o o' : Ob} (h : o.tag = o'.tag) : o.kind o' := by
  cases o <;> cases o' <;> simp only [Ob.tag, Prod.mk.injEq] at h <;> simp_all [Ob.kind]
theorem tags_at : ∀ {l r : List (Nat × Ob)}, (∃ z, r.map (fun q => (q.1, q.2.tag)) = l.map (fun q => (q.1, q.2.tag)) ++ z) → ∀ {n : Nat} {o o' : Ob}, mkH l n = some o → mkH r n = some o' → o.tag = o'.tag
  | [], _, _, _, _, _, h, _ => by cases h
  | p :: l, r, ⟨z, hz⟩, n, o, o', h1, h2 => by
    cases r with
    | nil => cases hz
    | cons p' r =>
      simp only [List.map_cons, List.cons_append, List.cons.injEq, Prod.mk.injEq] at hz
      obtain ⟨⟨e1, e2⟩, hz⟩ := hz
      obtain ⟨m, x⟩ := p
      obtain ⟨m', x'⟩ := p'
      dsimp only at e1 e2
      subst e1
      rw [mkH] at h1 h2
      split at h1
      · rename_i e
        rw [if_pos e] at h2
        injection h1 with h1; injection h2 with h2
        subst h1 h2
        exact e2.symm
      · rename_i e
        rw [if_neg e] at h2
        exact tags_at ⟨z, hz⟩ h1 h2
section
variable {P : Program} {U : Tbl}
theorem use_fam {K K1 : List Nat} {hl hl' : (Nat → Nat) → List (Nat × Ob)} {ar vf : (Nat → Nat) → List V} {us : List V} {v : V} (ν0 ν : Nat → Nat) {d : Option Nat} {f : Nat} {s : St} {Kc : St → Prop} (hF : Fam K K hl) (hF' : Fam (K ++ K1) (K ++ K1) hl') (hA : FamV K ar) (hV : FamV (K ++ K1) vf)
    (E : Eff P U f (ar ν0) (hl ν0) v (hl' ν0)) (ev : vf ν0 = [v]) (eu : ar ν = us) (big : ∀ k ∈ K, 1000 ≤ ν0 k) (i0 : ((K ++ K1).map ν0).Nodup) (i1 : ((K ++ K1).map ν).Nodup) (new : ∀ k ∈ K1, s.h (ν k) = none ∧ ν k < 1000)
    (at' : ∀ q ∈ hl ν, s.h q.1 = some q.2) (tg : ∃ z, (hl' ν0).map (fun q => (q.1, q.2.tag)) = (hl ν0).map (fun q => (q.1, q.2.tag)) ++ z)
    (hK : ∀ v', vf ν = [v'] → Kc ⟨setE d v' s.e, hov (hl' ν) s.h⟩) : EStep P U d f us s Kc := by
  subst eu
  have e1 : ∀ (L : List Nat), (L.map fun k => (ν0 k, ν k)).map (·.1) = L.map ν0 := fun L => by rw [List.map_map]; rfl
  have e2 : ∀ (L : List Nat), (L.map fun k => (ν0 k, ν k)).map (·.2) = L.map ν := fun L => by rw [List.map_map]; rfl
  have i0K : (K.map ν0).Nodup := by rw [List.map_append] at i0; exact nodup_append_left i0
  have i1K : (K.map ν).Nodup := by rw [List.map_append] at i1; exact nodup_append_left i1
  have app : ((K.map fun k => (ν0 k, ν k)) ++ K1.map fun k => (ν0 k, ν k)) = (K ++ K1).map fun k => (ν0 k, ν k) := (List.map_append).symm
  have hrn : ∀ k ∈ K ++ K1, rn ((K.map fun k => (ν0 k, ν k)) ++ K1.map fun k => (ν0 k, ν k)) (ν0 k) = ν k := fun k hk => by
    rw [app]; exact rn_mem (by rw [e1]; exact i0) (List.mem_map.2 ⟨k, hk, rfl⟩)
  have hrni : ∀ k ∈ K, rni (K.map fun k => (ν0 k, ν k)) (ν k) = ν0 k := fun k hk => rni_mem (by rw [e2]; exact i1K) (List.mem_map.2 ⟨k, hk, rfl⟩)
  obtain ⟨v', hv'⟩ : ∃ v', vf ν = [v'] := by
    have := hV.rn hrn
    rw [ev] at this
    exact ⟨_, this.symm⟩
  have ev2 : v.ren (rn ((K.map fun k => (ν0 k, ν k)) ++ K1.map fun k => (ν0 k, ν k))) = v' := by
    have := hV.rn hrn
    rw [ev, hv'] at this
    simp only [V.rens, List.cons.injEq, and_true] at this
    exact this
  refine ⟨K.map fun k => (ν0 k, ν k), K1.map fun k => (ν0 k, ν k), ar ν0, hl ν0, v, hl' ν0, E, ⟨?_, by rw [hF.nm, e1], by rw [hF'.nm, app, e1], fun p hp => ?_, fun p hp => ?_, fun p hp => ?_, hA.rn hrni, hA.ni fun k hk => by rw [e2]; exact List.mem_map.2 ⟨k, hk, rfl⟩, ?_, ?_, fun p hp o o' h1 h2 => ?_⟩, ?_⟩
  · rw [app]; simp only [okL, Bool.and_eq_true, decide_eq_true_eq]
    exact ⟨by rw [e1]; exact i0, by rw [e2]; exact i1⟩
  · obtain ⟨k, hk, rfl⟩ := List.mem_map.1 hp; exact big k hk
  · obtain ⟨k, hk, rfl⟩ := List.mem_map.1 hp; exact new k hk
  · obtain ⟨k, hk, rfl⟩ := List.mem_map.1 hp
    have : ν k ∈ (hl ν).map (·.1) := by rw [hF.nm]; exact List.mem_map.2 ⟨k, hk, rfl⟩
    obtain ⟨q, hq, eq⟩ := List.mem_map.1 this
    refine ⟨q.2, by have := at' q hq; rwa [eq] at this, ?_, ?_⟩
    · have hq0 : (ν0 k, q.2.ren (rni (K.map fun k => (ν0 k, ν k)))) ∈ hl ν0 := by
        rw [← hF.rn hrni]
        exact List.mem_map.2 ⟨q, hq, by rw [eq, hrni k hk]⟩
      exact mkH_at (by rw [hF.nm]; exact i0K) hq0
    · exact hF.ni (D := (K.map fun k => (ν0 k, ν k)).map (·.2)) (fun k hk => by rw [e2]; exact List.mem_map.2 ⟨k, hk, rfl⟩) q hq
  · have := hV.ni (ν := ν0) (D := (hl' ν0).map (·.1)) fun k hk => by rw [hF'.nm]; exact List.mem_map.2 ⟨k, hk, rfl⟩
    rw [ev] at this
    simpa only [V.nins, Bool.and_true] using this
  · exact hF'.ni fun k hk => by rw [hF'.nm]; exact List.mem_map.2 ⟨k, hk, rfl⟩
  · exact Ob.kind_tag (tags_at tg h1 h2)
  · rw [ev2, hF'.rn hrn]
    exact hK v' hv'
theorem use_fam0 {K : List Nat} {hl hl' : (Nat → Nat) → List (Nat × Ob)} {ar : (Nat → Nat) → List V} {us : List V} {v : V} (ν0 ν : Nat → Nat) {d : Option Nat} {f : Nat} {s : St} {Kc : St → Prop} (hF : Fam K K hl) (hF' : Fam K K hl') (hA : FamV K ar) (hV : v.pur = true)
    (E : Eff P U f (ar ν0) (hl ν0) v (hl' ν0)) (hvn : ∀ D, v.nin D = true) (eu : ar ν = us) (big : ∀ k ∈ K, 1000 ≤ ν0 k) (i0 : (K.map ν0).Nodup) (i1 : (K.map ν).Nodup)
    (at' : ∀ q ∈ hl ν, s.h q.1 = some q.2) (tg : (hl' ν0).map (fun q => (q.1, q.2.tag)) = (hl ν0).map (fun q => (q.1, q.2.tag)))
    (hK : Kc ⟨setE d v s.e, hov (hl' ν) s.h⟩) : EStep P U d f us s Kc := by
  refine use_fam (K := K) (K1 := []) (vf := fun _ => [v]) ν0 ν hF (by rw [List.append_nil]; exact hF') hA (FamV.pure (by simp [V.purs, hV]) (fun D => by simp [V.nins, hvn])) E rfl eu big (by rw [List.append_nil]; exact i0) (by rw [List.append_nil]; exact i1) (fun k hk => nomatch hk) at' ⟨[], by rw [List.append_nil]; exact tg⟩ fun v' h => ?_
  injection h with h _
  subst h
  exact hK
end
theorem All2W.self {h : Nat → Option Ob} {hl : List (Nat × Ob)} : ∀ {c : List V}, V.nins (hl.map (·.1)) c = true → All2W h hl c c
  | [], _ => trivial
  | v :: c, hn => by
    simp only [V.nins, Bool.and_eq_true] at hn
    exact ⟨.same v hn.1, All2W.self hn.2⟩
theorem WkOb.self {h : Nat → Option Ob} {hl : List (Nat × Ob)} {o : Ob} (hn : o.nin (hl.map (·.1))) : WkOb h hl (some o) o := by
  cases o with
  | box t c => exact ⟨rfl, All2W.self hn⟩
  | arr t sz r => exact ⟨rfl, rfl, rfl, hn⟩
  | mp es => exact ⟨rfl, .inr hn⟩
theorem Le.tail {e : Nat → V} {h : Nat → Option Ob} (l : List (Nat × V)) (l1 tl : List (Nat × Ob)) (ht : ∀ q ∈ tl, h q.1 = some q.2 ∧ q.2.nin ((l1 ++ tl).map (·.1))) (henv : ∀ p ∈ l, Wk h (l1 ++ tl) (e p.1) p.2) (hob : ∀ q ∈ l1, WkOb h (l1 ++ tl) (h q.1) q.2) (hnew0 : (l1.all fun q => q.1 < 1000 || (h q.1).isSome) = true) : Le ⟨e, h⟩ ⟨mkE l, mkH (l1 ++ tl)⟩ := by
  refine Le.mk l (l1 ++ tl) henv (fun q hq => ?_) ?_
  · rcases List.mem_append.1 hq with hq | hq
    · exact hob q hq
    · obtain ⟨h1, h2⟩ := ht q hq
      show WkOb h (l1 ++ tl) (h q.1) q.2
      rw [h1]; exact WkOb.self h2
  · rw [List.all_append, hnew0, Bool.true_and, List.all_eq_true]
    intro q hq
    show (decide (q.1 < 1000) || (h q.1).isSome) = true
    rw [(ht q hq).1]; simp
theorem Fam.tail {K R : List Nat} {hl : (Nat → Nat) → List (Nat × Ob)} (hF : Fam K R hl) {ν : Nat → Nat} {l1 : List (Nat × Ob)} {h : Nat → Option Ob} (hR : ∀ k ∈ R, ν k ∈ (l1 ++ hl ν).map (·.1)) (hh : ∀ q ∈ hl ν, h q.1 = some q.2) : ∀ q ∈ hl ν, h q.1 = some q.2 ∧ q.2.nin ((l1 ++ hl ν).map (·.1)) :=
  fun q hq => ⟨hh q hq, hF.ni hR q hq⟩
theorem Fam.tail0 {K : List Nat} {hl : (Nat → Nat) → List (Nat × Ob)} (hF : Fam K K hl) {ν : Nat → Nat} {l1 : List (Nat × Ob)} {h : Nat → Option Ob} (hh : ∀ q ∈ hl ν, h q.1 = some q.2) : ∀ q ∈ hl ν, h q.1 = some q.2 ∧ q.2.nin ((l1 ++ hl ν).map (·.1)) :=
  hF.tail (fun k hk => by rw [List.map_append, hF.nm]; exact List.mem_append_right _ (List.mem_map.2 ⟨k, hk, rfl⟩)) hh
theorem Fam.ni1 {K : List Nat} {hl : (Nat → Nat) → List (Nat × Ob)} (hF : Fam K K hl) {ν : Nat → Nat} {l1 : List (Nat × Ob)} : ∀ q ∈ hl ν, q.2.nin ((l1 ++ hl ν).map (·.1)) :=
  fun q hq => hF.ni (fun k hk => by rw [List.map_append, hF.nm]; exact List.mem_append_right _ (List.mem_map.2 ⟨k, hk, rfl⟩)) q hq
theorem Le.re (σ : Nat → Nat) {e : Nat → V} {h : Nat → Option Ob} (l l' : List (Nat × V)) (hl hl' : List (Nat × Ob)) (h1 : ∀ q ∈ hl, h q.1 = some q.2) (h2 : ∀ p ∈ l, e p.1 = p.2 ∧ p.2.nin (hl.map (·.1)) = true) (h3 : ∀ q ∈ hl, q.2.nin (hl.map (·.1)))
    (inj : ∀ a ∈ hl.map (·.1), ∀ b ∈ hl.map (·.1), σ a = σ b → a = b) (big : ∀ q ∈ hl, 1000 ≤ σ q.1 → σ q.1 = q.1) (el : l.map (fun p => (p.1, p.2.ren σ)) = l') (eh : hl.map (fun q => (σ q.1, q.2.ren σ)) = hl') : Le ⟨e, h⟩ ⟨mkE l', mkH hl'⟩ := by
  subst el eh
  have mem1 : ∀ n o, mkH hl n = some o → h n = some o := fun n o hn => h1 _ (mkH_mem hn)
  have drop : Le ⟨e, h⟩ ⟨mkE l, mkH hl⟩ := by
    refine Le.mk l hl (fun p hp => ?_) (fun q hq => ?_) ?_
    · obtain ⟨a1, a2⟩ := h2 p hp
      show Wk h hl (e p.1) p.2
      rw [a1]; exact .same _ a2
    · show WkOb h hl (h q.1) q.2
      rw [h1 q hq]; exact WkOb.self (h3 q hq)
    · rw [List.all_eq_true]; intro q hq
      show (decide (q.1 < 1000) || (h q.1).isSome) = true
      rw [h1 q hq]; simp
  refine drop.trans ?_
  have hex : ∃ τ : Nat → Nat, ∀ a ∈ hl.map (·.1), τ (σ a) = a := by
    refine ⟨fun n => ((hl.map (·.1)).find? fun a => σ a == n).getD 0, fun a ha => ?_⟩
    cases hf : (hl.map (·.1)).find? fun b => σ b == σ a with
    | none => exact absurd (List.find?_eq_none.1 hf a ha) (by simp)
    | some b =>
      have hb := List.mem_of_find?_eq_some hf
      have hs := List.find?_some hf
      simp only [beq_iff_eq] at hs
      show ((hl.map (·.1)).find? _).getD 0 = a
      rw [hf]
      exact inj b hb a ha hs
  obtain ⟨τ, hτ⟩ := hex
  exact Le.ren σ τ l hl (fun q hq => hτ _ (List.mem_map.2 ⟨q, hq, rfl⟩)) big (fun p hp => (h2 p hp).2) h3
set_option linter.unusedSimpArgs false
set_option linter.unusedVariables false
set_option linter.deprecated false
mutual
theorem V.ren_same : ∀ v : V, v.ren (fun n => n) = v
  | .ptr _ _ | .eptr _ _ _ _ | .own _ _ | .iown _ _ _ | .vw _ _ _ _ _ | .map _ | .any | .bool _ | .int _ _ | .str _ | .nils | .nilp | .nilm | .pin _ | .fmap _ | .list _ _ | .row _ _ => by simp only [V.ren]
  | .agg vs | .tup vs | .fn _ vs => by simp only [V.ren]; rw [V.rens_same vs]
  | .when _ v => by simp only [V.ren]; rw [V.ren_same v]
theorem V.rens_same : ∀ vs : List V, V.rens (fun n => n) vs = vs
  | [] => by simp only [V.rens]
  | v :: vs => by simp only [V.rens]; rw [V.ren_same v, V.rens_same vs]
end
theorem Ob.ren_same (o : Ob) : o.ren (fun n => n) = o := by
  cases o with
  | box t c => simp only [Ob.ren]; rw [V.rens_same]
  | arr t sz r =>
    simp only [Ob.ren, renR]
    congr 1
    conv => rhs; rw [← List.map_id r]
    exact List.map_congr_left fun x _ => V.rens_same x
  | mp es =>
    simp only [Ob.ren, V.ren_same]
    congr 1
    exact List.map_id _
section
variable {P : Program} {U : Tbl} {C : Ctx U} {G : Tab}
theorem Good.drop {e : Nat → V} {h : Nat → Option Ob} {a : Act} {w : World} {M : Nat → Prop} {ι : Nat → Value} (l : List (Nat × V)) (hl : List (Nat × Ob)) (hg : Good C ⟨e, h⟩ a w M ι) (he : ∀ p ∈ l, e p.1 = p.2 ∧ p.2.nin (hl.map (·.1)) = true) (hh : ∀ q ∈ hl, h q.1 = some q.2) (ho : ∀ q ∈ hl, q.2.nin (hl.map (·.1))) : Good C ⟨mkE l, mkH hl⟩ a w M ι := by
  have hm := hg.mem
  dsimp only at hm
  have hh' : ∀ n o, mkH hl n = some o → h n = some o := fun n o hn => hh _ (mkH_mem hn)
  have eq : ∀ n ∈ hl.map (·.1), ∀ o, h n = some o → mkH hl n = some o := fun n hn o h1 => by
    obtain ⟨o', h2⟩ := Option.isSome_iff_exists.1 (mkH_dom hn)
    have := hh' n o' h2
    rw [h1] at this; injection this with this; rw [this]; exact h2
  have hR : Ren (hl.map (·.1)) (fun n => n) ι h ι (mkH hl) := ⟨fun _ _ => rfl, fun n hn t c h1 => ⟨c, eq n hn _ h1⟩, fun n hn t sz r h1 => ⟨r, rfl, eq n hn _ h1⟩, fun n hn es h1 => ⟨es, eq n hn _ h1⟩⟩
  have sm : ∀ {n}, (mkH hl n).isSome = true → (h n).isSome = true := fun {n} h1 => by
    obtain ⟨o, h2⟩ := Option.isSome_iff_exists.1 h1
    rw [hh' n o h2]; rfl
  refine ⟨⟨fun n o h1 => ?_, fun n m b h1 h2 => hm.dis n m b (sm h1) (sm h2), fun n b h1 => hm.imm n b (sm h1), hm.lt, fun n b h1 => hm.may n b (sm h1), hm.size, hm.keep, hm.os, hm.tape, hm.output, hm.base, hm.tb, hm.tm, hm.old, fun n t sz r0 t' sz' rows hn h0 h1 => hm.arr0 n t sz r0 t' sz' rows hn h0 (hh' _ _ h1), fun n hn => ⟨fun t c h1 => (hm.pin n hn).1 t c (hh' _ _ h1), fun es h1 => (hm.pin n hn).2 es (hh' _ _ h1)⟩⟩, fun t => ?_, hg.dfr, hg.num⟩
  · replace h1 : mkH hl n = some o := h1
    have := (hm.obj n o (hh' n o h1)).ren (fun _ h => h) hR (mkH_in (show (mkH hl n).isSome = true by rw [h1]; rfl)) (ho _ (mkH_mem h1))
    rwa [Ob.ren_same] at this
  · rcases mkE_mem (l := l) (t := t) with e1 | e1
    · show Rel _ _ _ _ (mkE l t) _
      rw [e1]; exact .pur (.any _)
    · obtain ⟨h1, h2⟩ := he _ e1
      dsimp only at h1 h2
      have r := hg.env t
      dsimp only at r
      rw [h1] at r
      have := r.ren (fun _ h => h) hR h2
      rw [V.ren_same] at this
      exact this
theorem Mem.plus {h h1 : Nat → Option Ob} {w w' : World} {M M' : Nat → Prop} {ι ι' : Nat → Value} {hf : List (Nat × Ob)} {bs : List Nat} {tb : TypeId} (hm : Mem C h w M ι) (hm1 : Mem C h1 w' M' ι') (hh : ∀ q ∈ hf, h q.1 = some q.2) (hn1 : ∀ q ∈ hf, h1 q.1 = none) (ho : ∀ q ∈ hf, q.2.nin (hf.map (·.1) ++ bs))
    (big : ∀ b ∈ bs, 1000 ≤ b) (hb : ∀ b ∈ bs, ∃ c, h b = some (.box tb c)) (hb1 : ∀ b ∈ bs, ∃ c, h1 b = some (.box tb c)) (fr : ∀ q ∈ hf, ∀ b, blk (ι q.1) = some b → ¬ M' b ∧ (∀ n, (h1 n).isSome = true → blk (ι' n) ≠ some b) ∧ w'.heap[b]? = w.heap[b]?) (hM : ∀ b, M b → M' b ∧ w'.heap[b]? = w.heap[b]?) :
    Mem C (hov hf h1) w' M' (fun n => if n ∈ hf.map (·.1) then ι n else ι' n) ∧ Keeps h1 (hov hf h1) ι' (fun n => if n ∈ hf.map (·.1) then ι n else ι' n) := by
  have inF : ∀ {n}, n ∈ hf.map (·.1) → ∃ o, mkH hf n = some o ∧ hov hf h1 n = some o ∧ h n = some o ∧ (n, o) ∈ hf := fun {n} hn => by
    obtain ⟨o, ho'⟩ := Option.isSome_iff_exists.1 (mkH_dom hn)
    exact ⟨o, ho', by rw [hov_eq, ho'], hh _ (mkH_mem ho'), mkH_mem ho'⟩
  have notF : ∀ {n}, n ∉ hf.map (·.1) → hov hf h1 n = h1 n := fun {n} hn => by rw [hov_eq, mkH_none hn]
  have dis1 : ∀ {n}, (h1 n).isSome = true → n ∉ hf.map (·.1) := fun {n} hs hn => by
    obtain ⟨q, hq, rfl⟩ := List.mem_map.1 hn
    rw [hn1 q hq] at hs; cases hs
  have kp : Keeps h1 (hov hf h1) ι' (fun n => if n ∈ hf.map (·.1) then ι n else ι' n) := by
    refine ⟨fun n t c hn => ?_, fun n t sz r hn => ?_, fun n es hn => ?_⟩ <;> have nf := dis1 (show (h1 n).isSome = true by rw [hn]; rfl)
    · exact ⟨if_neg nf, c, by rw [notF nf]; exact hn⟩
    · exact ⟨r, by rw [notF nf]; exact hn, Nat.le_refl _, fun _ => if_neg nf⟩
    · exact ⟨if_neg nf, es, by rw [notF nf]; exact hn⟩
  have some1 : ∀ {n}, n ∉ hf.map (·.1) → (hov hf h1 n).isSome = true → (h1 n).isSome = true := fun {n} nf hs => by rwa [notF nf] at hs
  have hR : Ren (hf.map (·.1) ++ bs) (fun n => n) ι h (fun n => if n ∈ hf.map (·.1) then ι n else ι' n) (hov hf h1) := by
    refine ⟨fun n hn => ?_, fun n hn t c hc => ?_, fun n hn t sz r hc => ?_, fun n hn es hc => ?_⟩
    · show (if n ∈ hf.map (·.1) then ι n else ι' n) = ι n
      by_cases e : n ∈ hf.map (·.1)
      · rw [if_pos e]
      · rw [if_neg e]
        have hnb := (List.mem_append.1 hn).resolve_left e
        obtain ⟨c, h2⟩ := hb n hnb
        obtain ⟨c1, h3⟩ := hb1 n hnb
        rw [(hm1.pin n (big n hnb)).1 _ _ h3, (hm.pin n (big n hnb)).1 _ _ h2]
    · by_cases e : n ∈ hf.map (·.1)
      · obtain ⟨o, _, g2, g3, _⟩ := inF e
        rw [hc] at g3; injection g3 with g3; subst g3
        exact ⟨_, g2⟩
      · have hnb := (List.mem_append.1 hn).resolve_left e
        obtain ⟨c0, h2⟩ := hb n hnb
        obtain ⟨c1, h3⟩ := hb1 n hnb
        rw [hc] at h2; injection h2 with h2; injection h2 with h2 _; subst h2
        exact ⟨c1, by rw [notF e]; exact h3⟩
    · by_cases e : n ∈ hf.map (·.1)
      · obtain ⟨o, _, g2, g3, _⟩ := inF e
        rw [hc] at g3; injection g3 with g3; subst g3
        exact ⟨_, rfl, g2⟩
      · obtain ⟨c0, h2⟩ := hb n ((List.mem_append.1 hn).resolve_left e)
        rw [hc] at h2; cases h2
    · by_cases e : n ∈ hf.map (·.1)
      · obtain ⟨o, _, g2, g3, _⟩ := inF e
        rw [hc] at g3; injection g3 with g3; subst g3
        exact ⟨_, g2⟩
      · obtain ⟨c0, h2⟩ := hb n ((List.mem_append.1 hn).resolve_left e)
        rw [hc] at h2; cases h2
  refine ⟨⟨fun n o hno => ?_, fun n m b h1' h2' e1 e2 => ?_, fun n b hs hbk => ?_, hm1.lt, fun n b hs hbk => ?_, hm1.size, hm1.keep, hm1.os, hm1.tape, hm1.output, hm1.base, hm1.tb, hm1.tm, hm1.old, fun n t sz r0 t' sz' rows hn h0 hno => ?_, fun n hn => ⟨fun t c hno => ?_, fun es hno => ?_⟩⟩, kp⟩
  · by_cases e : n ∈ hf.map (·.1)
    · obtain ⟨o', _, g2, g3, g4⟩ := inF e
      rw [g2] at hno; injection hno with hno; subst hno
      have hob := (hm.obj n o' g3).keep (w' := w') (M' := M') (fun b hb => (hM b hb).1) (fun b hb => (hM b hb).2) (Keeps.refl _ _) rfl (fun b hb => (fr _ g4 b hb).2.2)
      have := hob.ren (fun _ h => h) hR (List.mem_append_left _ e) (ho _ g4)
      rwa [Ob.ren_same] at this
    · have hno1 : h1 n = some o := by rw [notF e] at hno; exact hno
      exact (hm1.obj n o hno1).keep (fun _ h => h) (fun _ _ => rfl) kp (if_neg e) (fun _ _ => rfl)
  · by_cases e : n ∈ hf.map (·.1) <;> by_cases e' : m ∈ hf.map (·.1)
    · obtain ⟨o, _, _, g3, _⟩ := inF e
      obtain ⟨o', _, _, g3', _⟩ := inF e'
      rw [if_pos e] at e1; rw [if_pos e'] at e2
      exact hm.dis n m b (by rw [g3]; rfl) (by rw [g3']; rfl) e1 e2
    · obtain ⟨o, _, _, g3, g4⟩ := inF e
      rw [if_pos e] at e1; rw [if_neg e'] at e2
      exact absurd e2 ((fr _ g4 b e1).2.1 m (some1 e' h2'))
    · obtain ⟨o, _, _, g3, g4⟩ := inF e'
      rw [if_neg e] at e1; rw [if_pos e'] at e2
      exact absurd e1 ((fr _ g4 b e2).2.1 n (some1 e h1'))
    · rw [if_neg e] at e1; rw [if_neg e'] at e2
      exact hm1.dis n m b (some1 e h1') (some1 e' h2') e1 e2
  · by_cases e : n ∈ hf.map (·.1)
    · obtain ⟨o, _, _, g3, g4⟩ := inF e
      rw [if_pos e] at hbk
      exact (fr _ g4 b hbk).1
    · rw [if_neg e] at hbk
      exact hm1.imm n b (some1 e hs) hbk
  · by_cases e : n ∈ hf.map (·.1)
    · obtain ⟨o, _, _, g3, g4⟩ := inF e
      rw [if_pos e] at hbk
      exact hm.may n b (by rw [g3]; rfl) hbk
    · rw [if_neg e] at hbk
      exact hm1.may n b (some1 e hs) hbk
  · by_cases e : n ∈ hf.map (·.1)
    · obtain ⟨o, _, g2, g3, g4⟩ := inF e
      rw [g2] at hno; injection hno with hno; subst hno
      rw [if_pos e]
      exact hm.arr0 n t sz r0 _ _ _ hn h0 g3
    · rw [notF e] at hno
      rw [if_neg e]
      exact hm1.arr0 n t sz r0 _ _ _ hn h0 hno
  · by_cases e : n ∈ hf.map (·.1)
    · obtain ⟨o, _, g2, g3, g4⟩ := inF e
      rw [g2] at hno; injection hno with hno; subst hno
      rw [if_pos e]
      exact (hm.pin n hn).1 _ _ g3
    · rw [notF e] at hno
      rw [if_neg e]
      exact (hm1.pin n hn).1 _ _ hno
  · by_cases e : n ∈ hf.map (·.1)
    · obtain ⟨o, _, g2, g3, g4⟩ := inF e
      rw [g2] at hno; injection hno with hno; subst hno
      rw [if_pos e]
      exact (hm.pin n hn).2 _ g3
    · rw [notF e] at hno
      rw [if_neg e]
      exact (hm1.pin n hn).2 _ hno
theorem aw_rangeO {EF : Nat → Bool} {id0 id1 id2 out next N : Nat} {ops0 ops1 ops2 : Array Oper} {l0 l3 : List Oper} {o0 o1 o2 o3 : Oper} {pre aos3 : List AO} {code : Code} {mt kt et it nx more pair tm : Nat} {mn : Nat} {es : List (Ky × V)} {bs : List Nat} {hf : List (Nat × Ob)} {tb : TypeId} {Q : Exit → St → Prop} {s : St} {α : Type}
    (hG : ∀ f, PureC P U f (G f)) (hN : C.N = N)
    (e0 : ops0.toList = l0 ++ [o0]) (p0 : l0.mapM (trO P N ops0) = some pre) (q0 : o0.op = .range mt (.tmp tm) ∧ o0.dst = some it ∧ o0.guard = none) (hmt : P.underlying mt = some (.map kt et))
    (e1 : ops1.toList = [o1, o2]) (q1 : o1.op = .next (.tmp it) false ∧ o1.dst = some nx ∧ o1.guard = none) (q2 : o2.op = .extract (.tmp nx) 0 ∧ o2.dst = some more ∧ o2.guard = none)
    (e2 : ops2.toList = o3 :: l3) (q3 : o3.op = .entry (.tmp it) ∧ o3.dst = some pair ∧ o3.guard = none) (p3 : l3.mapM (trO P N ops2) = some aos3)
    (hlt : it < N ∧ nx < N ∧ more < N ∧ pair < N) (hd : it ≠ nx ∧ it ≠ more) (hptr : ∀ p ∈ es, ∃ b off, p.2 = .ptr b off ∧ b ∈ bs) (big : ∀ b ∈ bs, 1000 ≤ b) (hmn : (mn, .mp es) ∈ hf) (hfo : ∀ q ∈ hf, q.2.nin (hf.map (·.1) ++ bs))
    (I : List (Ky × V) → α → Prop) (st : α → Value → St) (g0 : α) (hit : ∀ γ iv, (st γ iv).e it = .pin iv) (h0 : I [] g0) (hno : ∀ γ iv, ∀ q ∈ hf, (st γ iv).h q.1 = none) (hbx : ∀ b ∈ bs, ∀ γ iv, ∃ c, (st γ iv).h b = some (.box tb c))
    (hrun : ∀ K : St → Prop, (∀ s' l hl, s'.e tm = .map mn → (∀ q ∈ hf, s'.h q.1 = some q.2) → (∀ q ∈ hl, s'.h q.1 = some q.2 ∧ q.2.nin (hl.map (·.1)) ∧ q.1 ∉ hf.map (·.1)) → (∀ b ∈ bs, ∃ c, mkH hl b = some (.box tb c)) → (∀ p ∈ l, s'.e p.1 = p.2 ∧ p.2.nin (hl.map (·.1)) = true) →
      (∀ iv, Le ⟨upd (mkE l) it (.pin iv), mkH hl⟩ (st g0 iv)) → K s') → arun P U EF G pre s K)
    (round : ∀ C' : Ctx U, C'.N = N → ∀ iv γ done p, I done γ → p ∈ es → p ∉ done → (∀ q ∈ done, q ∈ es) → ∀ K : St → Prop, (∀ γ' s', I (done ++ [p]) γ' → Le s' (st γ' iv) → K s') →
      arun P U EF G aos3 ⟨upd (upd (upd (st γ iv).e nx (.tup [.bool true, .any, .any])) more (.bool true)) pair (.tup [kyV p.1, p.2]), (st γ iv).h⟩ (fun s2 => AW P C' code (blockQ next (thenQ K (blockQ out Q))) s2))
    (fin : ∀ iv γ done, I done γ → (∀ q, q ∈ done ↔ q ∈ es) → Q .normal ⟨upd (upd (st γ iv).e nx (.tup [.bool false])) more (.bool false), hov hf (st γ iv).h⟩) :
    AW P C (.seq (.region id0 ops0 false) (.block out (.loop (.seq (.region id1 ops1 false) (.seq (.cond (.tmp more) .skip (.exit out)) (.block next (.seq (.region id2 ops2 false) code))))))) Q s := by
  intro a w M ι hg
  replace hrun := hrun (fun s' => ∃ l hl, s'.e tm = .map mn ∧ (∀ q ∈ hf, s'.h q.1 = some q.2) ∧ (∀ q ∈ hl, s'.h q.1 = some q.2 ∧ q.2.nin (hl.map (·.1)) ∧ q.1 ∉ hf.map (·.1)) ∧ (∀ b ∈ bs, ∃ c, mkH hl b = some (.box tb c)) ∧ (∀ p ∈ l, s'.e p.1 = p.2 ∧ p.2.nin (hl.map (·.1)) = true) ∧ ∀ iv, Le ⟨upd (mkE l) it (.pin iv), mkH hl⟩ (st g0 iv)) (fun _ l hl h1 h2 h3 h4 h5 h6 => ⟨l, hl, h1, h2, h3, h4, h5, h6⟩)
  obtain ⟨q01, q02, q03⟩ := q0
  obtain ⟨q11, q12, q13⟩ := q1
  obtain ⟨q21, q22, q23⟩ := q2
  obtain ⟨q31, q32, q33⟩ := q3
  obtain ⟨lit, lnx, lmo, lpa⟩ := hlt
  refine wp_seq (wp_region_list ?_)
  rw [e0]
  refine wpList_app hG (fun s' a' w' M' ι' hK hg' => ?_) l0 pre (by rw [hN]; exact p0) s a w M ι hg hrun
  clear hg hrun
  obtain ⟨l, hl, k1, kf, kl, kb, ke, k2⟩ := hK
  have hgf := hg'
  have hmv := hg'.env tm
  rw [k1] at hmv
  obtain ⟨es1, hn1, hcv⟩ := hmv.map_inv
  have hmf := kf _ hmn
  dsimp only at hmf
  rw [hmf] at hn1
  injection hn1 with hn1; injection hn1 with hn1
  subst hn1
  obtain ⟨mb, ents, clock, emb, hhb, es0, hsz, hvv0⟩ := hg'.mem.obj mn _ hmf
  obtain ⟨f, hf0⟩ : ∃ f : Nat → MapEntry, f = fun i => ents.getD i default := ⟨_, rfl⟩
  have hvv : ∀ (i : Nat) (kv : Ky × V), es0[i]? = some kv → ents[i]? = some (f i) ∧ KyRel kv.1 (f i).key ∧ Rel M' w' ι' s'.h kv.2 (f i).val := fun i kv hi => by
    obtain ⟨en, g1, g2, g3⟩ := hvv0 i kv hi
    have : f i = en := by rw [hf0]; show ents.getD i default = en; rw [Array.getD_eq_getD_getElem?, g1]; rfl
    rw [this]; exact ⟨g1, g2, g3⟩
  have he : ∀ (i : Nat) (kv : Ky × V), es0[i]? = some kv → ents[i]? = some (f i) ∧ KyRel kv.1 (f i).key := fun i kv hi => ⟨(hvv i kv hi).1, (hvv i kv hi).2.1⟩
  have hmbl : mb < w'.heap.size := (Array.getElem?_eq_some_iff.1 hhb).1
  have hbox : ∀ b ∈ bs, ∃ c, s'.h b = some (.box tb c) := fun b hb => by
    obtain ⟨c, hc⟩ := kb b hb
    exact ⟨c, (kl _ (mkH_mem hc)).1⟩
  have hg2 : Good C ⟨mkE l, mkH hl⟩ a' w' M' ι' := Good.drop (e := s'.e) (h := s'.h) l hl hg' ke (fun q hq => (kl q hq).1) (fun q hq => (kl q hq).2.1)
  have frn : ∀ q ∈ hf, ∀ b, blk (ι' q.1) = some b → ¬ M' b ∧ ∀ n, (mkH hl n).isSome = true → blk (ι' n) ≠ some b := fun q hq b hb => by
    have hs : (s'.h q.1).isSome = true := by rw [kf q hq]; rfl
    refine ⟨hg'.mem.imm q.1 b hs hb, fun n hn e => ?_⟩
    obtain ⟨o, ho⟩ := Option.isSome_iff_exists.1 hn
    obtain ⟨g1, _, g3⟩ := kl _ (mkH_mem ho)
    have := hg'.mem.dis q.1 n b hs (by dsimp only at g1; rw [g1]; rfl) hb e
    subst this
    exact g3 (List.mem_map.2 ⟨q, hq, rfl⟩)
  have frl : ∀ q ∈ hf, ∀ b, blk (ι' q.1) = some b → b < w'.heap.size := fun q hq b hb => hg'.mem.blt q.1 b (by rw [kf q hq]; rfl) hb
  have embk : blk (ι' mn) = some mb := by rw [emb]; rfl
  have hcv2 : a'.tmps.getD tm undef = .map (some mb) := hcv.trans emb
  have hMl := hg2.mem.lt
  refine wpList_step fun K2 hK2 => ?_
  rw [if_pos (by simp [Region.wanted, q03])]
  have hr0 : (execOp a'.eval o0).run P w' = .ok (.value (.pointer (some ⟨w'.heap.size, 0, none⟩))) (w'.alloc (.mapIter (some mb) clock #[] clock)) := by
    have hev : a'.eval (.tmp tm) = .map (some mb) := hcv2
    simp only [execOp, q01, hev, Sem.run_bind, run_range_map w' mt kt et mb ents clock hmt hhb, Result.andThen_ok, Sem.run_pure]
  refine (Does.run (T := fun cv w2 => cv = .pointer (some ⟨w'.heap.size, 0, none⟩) ∧ w2 = w'.alloc (.mapIter (some mb) clock #[] clock)) hr0 ⟨rfl, rfl⟩) K2 _ ?_
  rintro _ _ ⟨rfl, rfl⟩
  refine hK2 _ _ (wpList_nil ?_)
  rw [q02]
  generalize hib : w'.heap.size = ib
  have hw1 : (w'.alloc (.mapIter (some mb) clock #[] clock)).heap.size = w'.heap.size + 1 := by show (w'.heap.push _).size = _; rw [Array.size_push]
  have hbel : Below w'.heap.size w' (w'.alloc (.mapIter (some mb) clock #[] clock)) := (Below.refl _ w').alloc (Nat.le_refl _) _
  have hm1 : Mem C (mkH hl) (w'.alloc (.mapIter (some mb) clock #[] clock)) M' ι' := hg2.mem.grow (fun _ h => h) (fun b hb => by have := hg'.mem.lt b hb; omega) (fun _ _ h => h) hbel
  have hnM : ¬ M' ib := fun h => by have := hg'.mem.lt ib h; omega
  have hnn : ∀ n, (mkH hl n).isSome = true → blk (ι' n) ≠ some ib := fun n h1 h2 => by have := hg2.mem.blt n ib h1 h2; omega
  have hib1 : (w'.alloc (.mapIter (some mb) clock #[] clock)).heap[ib]? = some (.mapIter (some mb) clock #[] clock) := by rw [← hib]; exact heap_alloc_new w' _
  have hmb1 : (w'.alloc (.mapIter (some mb) clock #[] clock)).heap[mb]? = some (.map ents clock) := (heap_alloc_old w' _ hmbl).trans hhb
  have hC0 : C.w0.heap.size ≤ ib := by have := hg'.mem.size; omega
  generalize w'.alloc (.mapIter (some mb) clock #[] clock) = w1 at hw1 hbel hm1 hib1 hmb1
  have hsub1 := hm1.into (ib := ib) (w2 := w1) rfl (fun _ _ => rfl) hnM hnn
  have hg1 : Good (C.sub (mkH hl) w1 M' ι') ⟨upd (mkE l) it (.pin (.pointer (some ⟨ib, 0, none⟩))), mkH hl⟩ (a'.put (some it) (.pointer (some ⟨ib, 0, none⟩))) w1 M' ι' := by
    refine ⟨hsub1, fun t => ?_, put_dfr.trans hg'.dfr, put_size.trans hg'.num⟩
    rw [put_getD (by rw [hg'.num, hN]; exact lit)]
    show Rel M' w1 ι' (mkH hl) (upd (mkE l) it _ t) _
    unfold upd
    by_cases e : t = it
    · rw [if_pos e, if_pos e]; exact .pur (.pin _)
    · rw [if_neg e, if_neg e]; exact (hg2.env t).keep (fun _ h => h) (fun b hb => hbel.block b (hg'.mem.lt b hb)) (Keeps.refl _ _)
  obtain ⟨M1, ι1, hgs⟩ := k2 (.pointer (some ⟨ib, 0, none⟩)) U _ _ _ _ _ hg1
  have lft := hgs.mem.left (b := ib) (by omega) hnn
  have frs : ∀ q ∈ hf, ∀ b, blk (ι' q.1) = some b → ¬ M1 b ∧ (∀ n, ((st g0 (.pointer (some ⟨ib, 0, none⟩))).h n).isSome = true → blk (ι1 n) ≠ some b) ∧ w1.heap[b]? = w'.heap[b]? := fun q hq b hb => by
    obtain ⟨f1, f2⟩ := frn q hq b hb
    have fl := frl q hq b hb
    have := hgs.mem.left (b := b) (by omega) f2
    exact ⟨this.2.1 f1, this.2.2, hbel.block b fl⟩
  have kms : ∀ b, M' b → M1 b ∧ w1.heap[b]? = w'.heap[b]? := fun b hb => ⟨hgs.mem.base b hb, hbel.block b (hg'.mem.lt b hb)⟩
  have hgl : Good C (st g0 (.pointer (some ⟨ib, 0, none⟩))) (a'.put (some it) (.pointer (some ⟨ib, 0, none⟩))) w1 M1 ι1 :=
    ⟨hm1.back (ib := ib) rfl rfl rfl rfl (fun _ _ => rfl) hC0 hgs.mem, hgs.env, hgs.dfr, hgs.num⟩
  have hlen : es0.length = ents.size := hsz.len
  have hst := hsz.st
  have hnd0 : (es0.map (·.1)).Nodup := ((hsz.perm.map _).nodup_iff).2 hsz.nd
  have uniq : ∀ i j (hi : i < es0.length) (hj : j < es0.length), (f i).born = (f j).born → i = j := fun i j hi hj eb => by
    have g1 := (he i es0[i] (List.getElem?_eq_getElem hi)).1
    have g2 := (he j es0[j] (List.getElem?_eq_getElem hj)).1
    have n1 := hst.2.1
    have a1 : (ents.toList.map (·.born))[i]? = some (f i).born := by rw [List.getElem?_map, Array.getElem?_toList, g1]; rfl
    have a2 : (ents.toList.map (·.born))[j]? = some (f j).born := by rw [List.getElem?_map, Array.getElem?_toList, g2]; rfl
    obtain ⟨b1, c1⟩ := List.getElem?_eq_some_iff.1 a1
    obtain ⟨b2, c2⟩ := List.getElem?_eq_some_iff.1 a2
    have n2 := List.pairwise_iff_getElem.1 n1
    rcases Nat.lt_trichotomy i j with h | h | h
    · exact absurd (by rw [c1, c2, eb]) (n2 i j b1 b2 h)
    · exact h
    · exact absurd (by rw [c1, c2, eb]) (n2 j i b2 b1 h)
  show (Code.block out _).wp P (fun e a' w' => ∃ s' M' ι', Q e s' ∧ Good C s' a' w' M' ι') _ _
  refine block_wp ?_
  have lf3 := lft.2.2
  have hst0 : ∀ b ∈ bs, ∀ (γ : α) (iv : Value), ∃ c, (st γ iv).h b = some (.box tb c) := hbx
  generalize hiv : Value.pointer (some ⟨ib, 0, none⟩) = iv at hgl lf3 frs
  refine wp_loop_ghost (fun k a w => ∃ done γ M ι seen, I done γ ∧ (∀ q ∈ done, q ∈ es) ∧ Good C (st γ iv) a w M ι ∧ (∀ q ∈ hf, ∀ b, blk (ι' q.1) = some b → ¬ M b ∧ (∀ n, ((st γ iv).h n).isSome = true → blk (ι n) ≠ some b) ∧ w.heap[b]? = w'.heap[b]?) ∧ (∀ b, M' b → M b ∧ w.heap[b]? = w'.heap[b]?) ∧ ¬ M ib ∧ (∀ n, ((st γ iv).h n).isSome = true → blk (ι n) ≠ some ib) ∧ w.heap[ib]? = some (.mapIter (some mb) clock seen clock) ∧ w.heap[mb]? = some (.map ents clock) ∧
    (∀ (i : Nat) (hi : i < es0.length), seen.contains (f i).born = true ↔ es0[i] ∈ done) ∧ k = (leftOf ents seen).size) (leftOf ents #[]).size
    ⟨[], g0, M1, ι1, #[], h0, (fun q hq => nomatch hq), hgl, frs, kms, lft.2.1 hnM, lf3, hib1, hmb1, fun i hi => by simp, rfl⟩ ?_
  rintro k a w ⟨done, γ, M, ι, seen, hI, hsubs, hg, hfr, hkm, hnMi, hnni, hwi, hwm, hseen, rfl⟩
  have hitv : a.tmps.getD it undef = iv := by
    have := hg.env it
    rw [hit] at this
    cases this with | pur hp => cases hp with | pin _ => rfl
  have hnum : a.tmps.size = N := hg.num.trans hN
  refine wp_seq (wp_region_list ?_)
  rw [e1]
  refine wpList_step fun K3 hK3 => ?_
  rw [if_pos (by simp [Region.wanted, q13])]
  rcases run_next_at (P := P) w o1.type ib mb clock seen ents clock hwi hwm hst.1 (Nat.le_refl _) with ⟨hz, hrn⟩ | ⟨e, hel, d, hrn⟩
  · -- nothing is left
    have hr1 : (execOp a.eval o1).run P w = .ok (.value (.tuple #[.bool false])) w := by
      have hev : a.eval (.tmp it) = .pointer (some ⟨ib, 0, none⟩) := hitv.trans hiv.symm
      simp only [execOp, q11, hev, Sem.run_bind, hrn, Result.andThen_ok, Sem.run_pure]
    refine (Does.run (T := fun cv w2 => cv = .tuple #[.bool false] ∧ w = w2) hr1 ⟨rfl, rfl⟩) K3 _ ?_
    rintro _ _ ⟨rfl, rfl⟩
    refine hK3 _ _ (wpList_step fun K4 hK4 => ?_)
    rw [if_pos (by simp [Region.wanted, q23]), q12]
    have hr2 : (execOp (a.put (some nx) (.tuple #[.bool false])).eval o2).run P w = .ok (.value (.bool false)) w := by
      have hev : (a.put (some nx) (.tuple #[.bool false])).eval (.tmp nx) = .tuple #[.bool false] := (put_getD (by rw [hnum]; exact lnx) nx).trans (if_pos rfl)
      simp only [execOp, q21, hev, Instr.extract, show (#[Value.bool false] : Array Value)[0]? = some (.bool false) from rfl, Sem.run_bind, Sem.run_pure, Result.andThen_ok]
    refine (Does.run (T := fun cv w2 => cv = .bool false ∧ w = w2) hr2 ⟨rfl, rfl⟩) K4 _ ?_
    rintro _ _ ⟨rfl, rfl⟩
    refine hK4 _ _ (wpList_nil ?_)
    rw [q22]
    obtain ⟨mp1, mp2⟩ := Mem.plus hgf.mem hg.mem kf (hno γ iv) hfo big hbox (fun b hb => hbx b hb γ iv) hfr hkm
    have hg3 : Good C ⟨upd (upd (st γ iv).e nx (.tup [.bool false])) more (.bool false), hov hf (st γ iv).h⟩ ((a.put (some nx) (.tuple #[.bool false])).put (some more) (.bool false)) w M (fun n => if n ∈ hf.map (·.1) then ι' n else ι n) := by
      refine ⟨mp1, fun t => ?_, put_dfr.trans (put_dfr.trans hg.dfr), put_size.trans (put_size.trans hg.num)⟩
      rw [put_getD (by rw [put_size, hnum]; exact lmo), put_getD (by rw [hnum]; exact lnx)]
      show Rel M w _ _ (upd (upd _ _ _) _ _ t) _
      unfold upd
      by_cases c1 : t = more
      · rw [if_pos c1, if_pos c1]; exact .pur (.bool _)
      · rw [if_neg c1, if_neg c1]
        by_cases c2 : t = nx
        · rw [if_pos c2, if_pos c2]
          refine .tup _ _ rfl fun i v hi => ?_
          obtain rfl : i = 0 := by have := (List.getElem?_eq_some_iff.1 hi).1; simp at this; omega
          injection hi with hi; subst hi; exact .pur (.bool _)
        · rw [if_neg c2, if_neg c2]; exact (hg.env t).keep (fun _ h => h) (fun _ _ => rfl) mp2
    have hcd : ((a.put (some nx) (.tuple #[.bool false])).put (some more) (.bool false)).eval (.tmp more) = .bool false := (put_getD (by rw [put_size, hnum]; exact lmo) more).trans (if_pos rfl)
    have hall := all_seen ents seen hz
    have hfin := fin iv γ done hI fun q => ⟨hsubs q, fun hq => by
      obtain ⟨i, hi, rfl⟩ := List.mem_iff_getElem.1 (hsz.perm.mem_iff.2 hq)
      refine (hseen i hi).1 (hall (f i) ?_)
      have g1 := (he i es0[i] (List.getElem?_eq_getElem hi)).1
      rw [← Array.getElem?_toList] at g1
      exact List.mem_of_getElem? g1⟩
    show (Code.seq _ _).wp P _ _ _
    refine wp_seq (wp_cond_split hcd (fun h => by cases h) (fun _ => wp_exit ?_))
    show ∃ s' M' ι', blockQ out Q (.exit out) s' ∧ Good C s' _ _ M' ι'
    exact ⟨_, M, _, by show (if out = out then Q .normal _ else _); rw [if_pos rfl]; exact hfin, hg3⟩
  · -- an entry comes
    obtain ⟨hee, hes⟩ := mem_left hel
    obtain ⟨i, hi', hei⟩ := List.mem_iff_getElem.1 hee
    have hi : i < es0.length := by rw [hlen]; simpa using hi'
    obtain ⟨g1, g2⟩ := he i es0[i] (List.getElem?_eq_getElem hi)
    have hfe : f i = e := by
      rw [Array.getElem?_eq_getElem (by rw [← hlen]; exact hi)] at g1
      injection g1 with g1
      rw [← g1, ← hei, Array.getElem_toList]
    have hpes : es0[i] ∈ es := hsz.perm.mem_iff.1 (List.getElem_mem hi)
    have hpnd : es0[i] ∉ done := fun h => by
      have := (hseen i hi).2 h
      rw [hfe, hes] at this; cases this
    have hr1 : (execOp a.eval o1).run P w = .ok (.value (.tuple #[.bool true, e.key, e.val])) { w with heap := w.heap.setIfInBounds ib (.mapIter (some mb) clock (seen.push e.born) clock), drawn := d } := by
      have hev : a.eval (.tmp it) = .pointer (some ⟨ib, 0, none⟩) := hitv.trans hiv.symm
      simp only [execOp, q11, hev, Sem.run_bind, hrn, Result.andThen_ok, Sem.run_pure]
    have hibl : ib < w.heap.size := (Array.getElem?_eq_some_iff.1 hwi).1
    have hw2s : ({ w with heap := w.heap.setIfInBounds ib (.mapIter (some mb) clock (seen.push e.born) clock), drawn := d } : World).heap.size = w.heap.size := by simp
    have hw2h : ∀ b, b ≠ ib → ({ w with heap := w.heap.setIfInBounds ib (.mapIter (some mb) clock (seen.push e.born) clock), drawn := d } : World).heap[b]? = w.heap[b]? := fun b hb => by
      show (w.heap.setIfInBounds ib _)[b]? = _
      rw [Array.getElem?_setIfInBounds_ne (Ne.symm hb)]
    have hw2i : ({ w with heap := w.heap.setIfInBounds ib (.mapIter (some mb) clock (seen.push e.born) clock), drawn := d } : World).heap[ib]? = some (.mapIter (some mb) clock (seen.push e.born) clock) := by
      show (w.heap.setIfInBounds ib _)[ib]? = _
      simp [hibl]
    have hmi : mb ≠ ib := fun e => by omega
    have hw2m := (hw2h mb hmi).trans hwm
    refine (Does.run (T := fun cv w2 => cv = .tuple #[.bool true, e.key, e.val] ∧ w2 = { w with heap := w.heap.setIfInBounds ib (.mapIter (some mb) clock (seen.push e.born) clock), drawn := d }) hr1 ⟨rfl, rfl⟩) K3 _ ?_
    rintro _ _ ⟨rfl, rfl⟩
    have hos2 : ({ w with heap := w.heap.setIfInBounds ib (.mapIter (some mb) clock (seen.push e.born) clock), drawn := d } : World).os = w.os := rfl
    have ht2 : ({ w with heap := w.heap.setIfInBounds ib (.mapIter (some mb) clock (seen.push e.born) clock), drawn := d } : World).tape = w.tape := rfl
    have hou2 : ({ w with heap := w.heap.setIfInBounds ib (.mapIter (some mb) clock (seen.push e.born) clock), drawn := d } : World).output = w.output := rfl
    generalize ({ w with heap := w.heap.setIfInBounds ib (.mapIter (some mb) clock (seen.push e.born) clock), drawn := d } : World) = w2 at hw2s hw2h hw2i hw2m hos2 ht2 hou2
    have hsub2 := hg.mem.into (ib := ib) hw2s hw2h hnMi hnni
    refine hK3 _ _ (wpList_step fun K4 hK4 => ?_)
    rw [if_pos (by simp [Region.wanted, q23]), q12]
    have hr2 : (execOp (a.put (some nx) (.tuple #[.bool true, e.key, e.val])).eval o2).run P w2 = .ok (.value (.bool true)) w2 := by
      have hev : (a.put (some nx) (.tuple #[.bool true, e.key, e.val])).eval (.tmp nx) = .tuple #[.bool true, e.key, e.val] := (put_getD (by rw [hnum]; exact lnx) nx).trans (if_pos rfl)
      simp only [execOp, q21, hev, Instr.extract, show (#[Value.bool true, e.key, e.val] : Array Value)[0]? = some (.bool true) from rfl, Sem.run_bind, Sem.run_pure, Result.andThen_ok]
    refine (Does.run (T := fun cv w3 => cv = .bool true ∧ w2 = w3) hr2 ⟨rfl, rfl⟩) K4 _ ?_
    rintro _ _ ⟨rfl, rfl⟩
    refine hK4 _ _ (wpList_nil ?_)
    rw [q22]
    have hg3 : Good (C.sub (st γ iv).h w2 M ι) ⟨upd (upd (st γ iv).e nx (.tup [.bool true, .any, .any])) more (.bool true), (st γ iv).h⟩ ((a.put (some nx) (.tuple #[.bool true, e.key, e.val])).put (some more) (.bool true)) w2 M ι := by
      refine ⟨hsub2, fun t => ?_, put_dfr.trans (put_dfr.trans hg.dfr), put_size.trans (put_size.trans hg.num)⟩
      rw [put_getD (by rw [put_size, hnum]; exact lmo), put_getD (by rw [hnum]; exact lnx)]
      show Rel M w2 ι _ (upd (upd _ _ _) _ _ t) _
      unfold upd
      by_cases c1 : t = more
      · rw [if_pos c1, if_pos c1]; exact .pur (.bool _)
      · rw [if_neg c1, if_neg c1]
        by_cases c2 : t = nx
        · rw [if_pos c2, if_pos c2]
          refine .tup _ _ rfl fun i v hi => ?_
          match i, hi with
          | 0, hi => injection hi with hi; subst hi; exact .pur (.bool _)
          | 1, hi => injection hi with hi; subst hi; exact .pur (.any _)
          | 2, hi => injection hi with hi; subst hi; exact .pur (.any _)
        · rw [if_neg c2, if_neg c2]
          exact (hg.env t).keep (fun _ h => h) (fun b hb => hw2h b fun e => hnMi (e ▸ hb)) (Keeps.refl _ _)
    have hcd : ((a.put (some nx) (.tuple #[.bool true, e.key, e.val])).put (some more) (.bool true)).eval (.tmp more) = .bool true := (put_getD (by rw [put_size, hnum]; exact lmo) more).trans (if_pos rfl)
    have hitv3 : ((a.put (some nx) (.tuple #[.bool true, e.key, e.val])).put (some more) (.bool true)).eval (.tmp it) = .pointer (some ⟨ib, 0, none⟩) := by
      show ((a.put (some nx) _).put (some more) _).tmps.getD it undef = _
      rw [put_getD (by rw [put_size, hnum]; exact lmo), if_neg hd.2, put_getD (by rw [hnum]; exact lnx), if_neg hd.1]
      exact hitv.trans hiv.symm
    have hnum3 : ((a.put (some nx) (.tuple #[.bool true, e.key, e.val])).put (some more) (.bool true)).tmps.size = N := by rw [put_size, put_size]; exact hnum
    generalize ((a.put (some nx) (.tuple #[.bool true, e.key, e.val])).put (some more) (.bool true)) = a3 at hg3 hcd hitv3 hnum3
    have hpv : Rel M w2 ι (st γ iv).h es0[i].2 e.val := by
      obtain ⟨b, off, e1, e2⟩ := hptr _ hpes
      have hr := (hvv i _ (List.getElem?_eq_getElem hi)).2.2
      rw [hfe, e1] at hr
      rw [e1]
      obtain ⟨bb, t2, c2, hn2, hb2, hcv3⟩ := hr.ptr_inv
      obtain ⟨c3, hc3⟩ := hbx b e2 γ iv
      rw [hcv3]
      exact .ptrb b off bb tb c3 hc3 (by rw [(hg.mem.pin b (big b e2)).1 _ _ hc3, ← (hgf.mem.pin b (big b e2)).1 _ _ hn2]; exact hb2)
    have hpk : Pur M w2 (kyV es0[i].1) e.key := kyV_pur (by rw [← hfe]; exact g2)
    show (Code.seq _ _).wp P _ _ _
    refine wp_seq (wp_cond_split hcd (fun _ => wp_skip ?_) (fun h => by cases h))
    show (Code.block next _).wp P _ _ _
    have key : (Code.block next (.seq (.region id2 ops2 false) code)).wp P (fun e' a' w' => ∃ s' M' ι', (thenQ (fun s' => ∃ γ', I (done ++ [es0[i]]) γ' ∧ Le s' (st γ' iv)) (blockQ out Q)) e' s' ∧ Good (C.sub (st γ iv).h w2 M ι) s' a' w' M' ι') a3 w2 := by
      refine block_wp ?_
      refine wp_seq (wp_region_list ?_)
      rw [e2]
      refine wpList_step fun K5 hK5 => ?_
      rw [if_pos (by simp [Region.wanted, q33])]
      have hr3 : (execOp a3.eval o3).run P w2 = .ok (.value (.tuple #[e.key, e.val])) w2 := by
        simp only [execOp, q31, hitv3, Sem.run_bind, run_entry_at w2 ib mb clock seen ents clock e hw2i hw2m hee hst.2.1, Result.andThen_ok, Sem.run_pure]
      refine (Does.run (T := fun cv w3 => cv = .tuple #[e.key, e.val] ∧ w2 = w3) hr3 ⟨rfl, rfl⟩) K5 _ ?_
      rintro _ _ ⟨rfl, rfl⟩
      refine hK5 _ _ ?_
      rw [q32]
      have hg4 : Good (C.sub (st γ iv).h w2 M ι) ⟨upd (upd (upd (st γ iv).e nx (.tup [.bool true, .any, .any])) more (.bool true)) pair (.tup [kyV es0[i].1, es0[i].2]), (st γ iv).h⟩ (a3.put (some pair) (.tuple #[e.key, e.val])) w2 M ι := by
        refine ⟨hg3.mem, fun t => ?_, put_dfr.trans hg3.dfr, put_size.trans hg3.num⟩
        rw [put_getD (by rw [hnum3]; exact lpa)]
        show Rel M w2 ι _ (upd _ pair _ t) _
        rw [upd]
        by_cases c1 : t = pair
        · rw [if_pos c1, if_pos c1]
          refine .tup _ _ rfl fun i v hi => ?_
          match i, hi with
          | 0, hi => injection hi with hi; subst hi; exact .pur hpk
          | 1, hi => injection hi with hi; subst hi; exact hpv
        · rw [if_neg c1, if_neg c1]; exact hg3.env t
      refine wpList_of_arun hG (C := C.sub (st γ iv).h w2 M ι) (K := fun s2 => AW P (C.sub (st γ iv).h w2 M ι) code (blockQ next (thenQ (fun s' => ∃ γ', I (done ++ [es0[i]]) γ' ∧ Le s' (st γ' iv)) (blockQ out Q))) s2) (fun s' a' w' M' ι' h1 h2 => ?_) l3 aos3 (by show l3.mapM (trO P C.N ops2) = _; rw [hN]; exact p3) _ _ _ _ _ hg4
        (round (C.sub (st γ iv).h w2 M ι) hN iv γ done es0[i] hI hpes hpnd hsubs (fun s' => ∃ γ', I (done ++ [es0[i]]) γ' ∧ Le s' (st γ' iv)) (fun γ' s' i1 i2 => ⟨γ', i1, i2⟩))
      show code.wp P _ a' w'
      exact h1 a' w' M' ι' h2
    have hibs : ib < w2.heap.size := by omega
    have hsz2 : w'.heap.size ≤ w2.heap.size := by
      have hibw : ib < w.heap.size := hibl
      omega
    refine wp_mono key fun e' a'' a''w ⟨s'', M2, ι2, r1, r2⟩ => ?_
    have bk := hg.mem.back hw2s hos2 ht2 hou2 hw2h hC0 r2.mem
    cases e' with
    | normal =>
      obtain ⟨γ', i1, i2⟩ := r1
      obtain ⟨M'', ι'', hgn⟩ := i2 U _ _ _ _ _ r2
      have lf := hgn.mem.left hibs hnni
      have lfr : ∀ q ∈ hf, ∀ b, blk (ι' q.1) = some b → ¬ M'' b ∧ (∀ n, ((st γ' iv).h n).isSome = true → blk (ι'' n) ≠ some b) ∧ a''w.heap[b]? = w'.heap[b]? := fun q hq b hb => by
        obtain ⟨f1, f2, f3⟩ := hfr q hq b hb
        have fl := frl q hq b hb
        have lf2 := hgn.mem.left (b := b) (by omega) f2
        exact ⟨lf2.2.1 f1, lf2.2.2, lf2.1.trans ((hw2h b (by omega)).trans f3)⟩
      have lkm : ∀ b, M' b → M'' b ∧ a''w.heap[b]? = w'.heap[b]? := fun b hb => by
        obtain ⟨f1, f3⟩ := hkm b hb
        have fl := hMl b hb
        refine ⟨hgn.mem.base b f1, ?_⟩
        have hk1 := hgn.mem.keep b (by show b < w2.heap.size; omega) (fun ⟨n, a1, a2⟩ => hg.mem.imm n b a1 a2 f1)
        have hk2 : a''w.heap[b]? = w2.heap[b]? := hk1
        rw [hk2, hw2h b (by omega)]; exact f3
      show ∃ n', n' < (leftOf ents seen).size ∧ _
      refine ⟨_, left_shrinks ents seen e hel, done ++ [es0[i]], γ', M'', ι'', seen.push e.born, i1, fun q hq => ?_, ⟨hg.mem.back hw2s hos2 ht2 hou2 hw2h hC0 hgn.mem, hgn.env, hgn.dfr, hgn.num⟩, lfr, lkm, lf.2.1 hnMi, lf.2.2, lf.1.trans hw2i, ((lfr _ hmn mb embk).2.2).trans hhb, fun j hj => ?_, rfl⟩
      · rcases List.mem_append.1 hq with hq | hq
        · exact hsubs q hq
        · rw [List.mem_singleton.1 hq]; exact hpes
      · rw [contains_push, Bool.or_eq_true, List.mem_append, List.mem_singleton, hseen j hj, beq_iff_eq, ← hfe]
        refine or_congr Iff.rfl ⟨fun h => ?_, fun h => ?_⟩
        · have := uniq j i hj hi h
          subst this; rfl
        · have n2 := List.pairwise_iff_getElem.1 hnd0
          rcases Nat.lt_trichotomy j i with h1 | h1 | h1
          · exact absurd (by rw [List.getElem_map, List.getElem_map, h]) (n2 j i (by rw [List.length_map]; exact hj) (by rw [List.length_map]; exact hi) h1)
          · subst h1; rfl
          · exact absurd (by rw [List.getElem_map, List.getElem_map, h]) (n2 i j (by rw [List.length_map]; exact hi) (by rw [List.length_map]; exact hj) h1)
    | exit id => exact ⟨s'', M2, ι2, r1, ⟨bk, r2.env, r2.dfr, r2.num⟩⟩
    | goto l => exact ⟨s'', M2, ι2, r1, ⟨bk, r2.env, r2.dfr, r2.num⟩⟩
    | ret => exact ⟨s'', M2, ι2, r1, ⟨bk, r2.env, r2.dfr, r2.num⟩⟩
    | panic ch => exact ⟨s'', M2, ι2, r1, ⟨bk, r2.env, r2.dfr, r2.num⟩⟩
    | outgrown => exact ⟨s'', M2, ι2, r1, ⟨bk, r2.env, r2.dfr, r2.num⟩⟩
end
theorem nodup_le : ∀ {a b : List Nat}, a.Nodup → (∀ x ∈ a, x ∈ b) → a.length ≤ b.length
  | [], _, _, _ => Nat.zero_le _
  | x :: a, b, h, hs => by
    obtain ⟨h1, h2⟩ := List.nodup_cons.1 h
    have hx := hs x (List.mem_cons_self ..)
    have := nodup_le (a := a) (b := b.erase x) h2 fun y hy => (List.mem_erase_of_ne (fun e => h1 (by rw [← e]; exact hy))).2 (hs y (List.mem_cons_of_mem _ hy))
    rw [List.length_erase_of_mem hx] at this
    have hb : 0 < b.length := List.length_pos_of_mem hx
    rw [List.length_cons]; omega
def rdy (dd : List (List Nat)) (done : List Nat) : List Nat → List Nat
  | [] => []
  | i :: l => if (!done.contains i && (dd.getD i []).all fun j => done.contains j) = true then i :: rdy dd done l else rdy dd done l
theorem rdy_mem {dd : List (List Nat)} {done : List Nat} : ∀ {l : List Nat} {i : Nat}, i ∈ l → i ∉ done → (∀ j ∈ dd.getD i [], j ∈ done) → i ∈ rdy dd done l
  | x :: l, i, hi, h1, h2 => by
    rw [rdy]
    rcases List.mem_cons.1 hi with rfl | hi
    · rw [if_pos (by
        rw [Bool.and_eq_true, Bool.not_eq_true', List.all_eq_true]
        exact ⟨by simpa using h1, fun j hj => by simpa using h2 j hj⟩)]
      exact List.mem_cons_self ..
    · split
      · exact List.mem_cons_of_mem _ (rdy_mem hi h1 h2)
      · exact rdy_mem hi h1 h2
section
variable {P : Program} {U : Tbl} {C : Ctx U} {G : Tab} {s : St} {Q : Exit → St → Prop}
def awStep (P : Program) (U : Tbl) (EF : Nat → Bool) (G : Tab) (aos : List AO) (s : St) (i : Nat) (K : St → Prop) : Prop := match eCall EF (aos.getD i default) s with
  | some (f, us) => EStep P U (aos.getD i default).d f us s K
  | none => ((aos.getD i default).res G s).φ ∧ K ((aos.getD i default).next G s)
def awAll (P : Program) (U : Tbl) (EF : Nat → Bool) (G : Tab) (dd : List (List Nat)) (aos : List AO) (idx : List Nat) : Nat → List Nat → St → (St → Prop) → Prop
  | 0, _, s, K => K s
  | n + 1, done, s, K => ∀ i ∈ rdy dd done idx, awStep P U EF G aos s i fun s' => awAll P U EF G dd aos idx n (i :: done) s' K
theorem awAll_0 {P : Program} {U : Tbl} {EF : Nat → Bool} {G : Tab} {dd : List (List Nat)} {aos : List AO} {idx done : List Nat} {s : St} {K : St → Prop} : awAll P U EF G dd aos idx 0 done s K = K s := rfl
theorem awAll_s {P : Program} {U : Tbl} {EF : Nat → Bool} {G : Tab} {dd : List (List Nat)} {aos : List AO} {idx done : List Nat} {n : Nat} {s : St} {K : St → Prop} : awAll P U EF G dd aos idx (n + 1) done s K = ∀ i ∈ rdy dd done idx, awStep P U EF G aos s i fun s' => awAll P U EF G dd aos idx n (i :: done) s' K := rfl
theorem wpAny_of_awAll {ops : Array Oper} {aos : List AO} {dd : List (List Nat)} {Q' : Exit → Act → World → Prop} {EF : Nat → Bool} (hG : ∀ f, PureC P U f (G f)) (haos : ∀ (i : Nat) (o : Oper), ops[i]? = some o → ∃ ao, aos[i]? = some ao ∧ trO P C.N ops o = some ao)
    (hdd : ∀ i, i < ops.size → dd.getD i [] = dirR ops i) (hlt : ∀ i, i < ops.size → ∀ j ∈ dirR ops i, j < i) {K : St → Prop} (hK : ∀ s' a' w' M' ι', K s' → Good C s' a' w' M' ι' → Q' .normal a' w') :
    ∀ (n : Nat) (done : List Nat) (listed : Array Bool) (s : St) (a : Act) (w : World) (M : Nat → Prop) (ι : Nat → Value), done.Nodup → (∀ i ∈ done, i < ops.size) → done.length + n = ops.size → listed.size = ops.size → (∀ i, i < ops.size → (listed.getD i false = true ↔ i ∈ done)) → (∀ i, i < ops.size → (listed.getD i true = false ↔ i ∉ done)) →
      Good C s a w M ι → awAll P U EF G dd aos (List.range ops.size) n done s K → wpAny P .any ops Q' n listed a w := by
  intro n
  induction n with
  | zero =>
    intro done listed s a w M ι hnd hin hlen hsz hl1 hl2 hg h
    refine ⟨?_, hK s a w M ι h hg⟩
    refine List.eq_nil_iff_forall_not_mem.2 fun j hj => ?_
    obtain ⟨h1, o, h2, _⟩ := mem_ready.1 hj
    have hjs : j < ops.size := (Array.getElem?_eq_some_iff.1 h2).1
    have hnj := (hl2 j hjs).1 h1
    have hsub : (j :: done).length ≤ ops.size := by
      have hnd2 : (j :: done).Nodup := List.nodup_cons.2 ⟨hnj, hnd⟩
      have := nodup_le (b := List.range ops.size) hnd2 (fun x hx => by
        rw [List.mem_range]
        rcases List.mem_cons.1 hx with rfl | hx
        · exact hjs
        · exact hin x hx)
      simpa using this
    simp at hsub hlen
    omega
  | succ n ih =>
    intro done listed s a w M ι hnd hin hlen hsz hl1 hl2 hg h
    refine ⟨fun hr => ?_, fun i hi => ?_⟩
    · exfalso
      have hex : ∃ i, i < ops.size ∧ i ∉ done := by
        apply Classical.byContradiction
        intro hno
        have hall : ∀ i, i < ops.size → i ∈ done := fun i hi => Classical.byContradiction fun hc => hno ⟨i, hi, hc⟩
        have := nodup_le (b := done) (List.nodup_range (n := ops.size)) (fun x hx => hall x (List.mem_range.1 hx))
        simp at this
        omega
      obtain ⟨i0, hi0, hno⟩ := hex
      have key : ∀ k i, i ≤ k → i < ops.size → i ∉ done → False := by
        intro k
        induction k with
        | zero =>
          intro i hik hi hn
          have : i ∈ Region.ready .any ops listed := mem_ready.2 ⟨(hl2 i hi).2 hn, ops[i], Array.getElem?_eq_getElem hi, fun e he hb => by
            have hm := mem_dirR (Array.getElem?_eq_getElem hi) he hb
            have := hlt i hi _ hm; omega⟩
          rw [hr] at this; cases this
        | succ k ihk =>
          intro i hik hi hn
          have : i ∈ Region.ready .any ops listed := mem_ready.2 ⟨(hl2 i hi).2 hn, ops[i], Array.getElem?_eq_getElem hi, fun e he hb => by
            have hm := mem_dirR (Array.getElem?_eq_getElem hi) he hb
            have hj := hlt i hi _ hm
            refine (hl1 e.on (by omega)).2 (Classical.byContradiction fun hc => ihk e.on (by omega) (by omega) hc)⟩
          rw [hr] at this; cases this
      exact key i0 i0 (Nat.le_refl _) hi0 hno
    · obtain ⟨h1, o, h2, h3⟩ := mem_ready.1 hi
      have hlti : i < ops.size := (Array.getElem?_eq_some_iff.1 h2).1
      have hni := (hl2 i hlti).1 h1
      have hdir : ∀ j ∈ dirR ops i, j ∈ done := by
        intro j hj
        have hj' := hj
        unfold dirR at hj
        rw [h2] at hj
        obtain ⟨e, he, rfl⟩ := List.mem_map.1 hj
        obtain ⟨he1, he2⟩ := List.mem_filter.1 he
        have hle := hlt i hlti _ hj'
        exact (hl1 _ (by omega)).1 (h3 e (by simpa using he1) he2)
      rw [awAll_s] at h
      have hst := h i (rdy_mem (List.mem_range.2 hlti) hni (by rw [hdd i hlti]; exact hdir))
      obtain ⟨ao, k1, k2⟩ := haos i o h2
      have hao : aos.getD i default = ao := by rw [List.getD_eq_getElem?_getD, k1]; rfl
      unfold awStep at hst
      rw [hao] at hst
      unfold wpOp
      rw [h2]
      dsimp only
      have hrec : ∀ {s' : St} {a' : Act} {w' : World} {M' : Nat → Prop} {ι' : Nat → Value}, Good C s' a' w' M' ι' → awAll P U EF G dd aos (List.range ops.size) n (i :: done) s' K → wpAny P .any ops Q' n (listed.setIfInBounds i true) a' w' := by
        intro s' a' w' M' ι' hg' h4
        refine ih (i :: done) _ s' a' w' M' ι' (List.nodup_cons.2 ⟨hni, hnd⟩) (fun x hx => ?_) (by simp; omega) (by simpa using hsz) (fun k hk => ?_) (fun k hk => ?_) hg' h4
        · rcases List.mem_cons.1 hx with rfl | hx
          · exact hlti
          · exact hin x hx
        · by_cases e : k = i
          · subst e
            have hs : k < listed.size := by omega
            simp [Array.getD, hs]
          · rw [getD_set_ne false (Ne.symm e), hl1 k hk, List.mem_cons]
            exact ⟨.inr, fun h => h.resolve_left e⟩
        · by_cases e : k = i
          · subst e
            have hs : k < listed.size := by omega
            simp [Array.getD, hs]
          · rw [getD_set_ne true (Ne.symm e), hl2 k hk, List.mem_cons]
            exact ⟨fun h h2 => h2.elim e h, fun h h2 => h (.inr h2)⟩
      have hstep : if Region.wanted o (yielded ops a.tmps) = true then o.wp P a w (wpAny P .any ops Q' n (listed.setIfInBounds i true)) Q' else (wpAny P .any ops Q' n (listed.setIfInBounds i true)) (a.put o.dst undef) w := by
        split at hst
        · rename_i f us he
          exact step_estep k2 hg he hst fun s' a' w' M' ι' h3 hg' => hrec hg' h3
        · exact step_sim k2 hG hg hst.1 fun a' w' M' ι' hg' => hrec hg' hst.2
      split
      · rename_i hwt; rw [if_pos hwt] at hstep; exact .inl hstep
      · rename_i hwt; rw [if_neg hwt] at hstep; exact hstep
def okDD (ops : Array Oper) (dd : List (List Nat)) : Bool := (List.range ops.size).all fun i => (dd.getD i [] == dirR ops i) && (dirR ops i).all fun j => decide (j < i)
theorem aw_regionA {id : Nat} {ops : Array Oper} {aos : List AO} {dd : List (List Nat)} {EF : Nat → Bool} (n : Nat) (hG : ∀ f, PureC P U f (G f)) (hm : P.follows .mixedOrders = true) (ht : ops.toList.mapM (trO P C.N ops) = some aos) (hok : okDD ops dd = true) (hn : ops.size = n) (h : awAll P U EF G dd aos (List.range n) n [] s (Q .normal)) :
    AW P C (.region id ops true) Q s := fun a w M ι hg => by
  subst hn
  refine wp_region_any hm ?_
  have hg' : Good C s a { w with drawn := w.drawn + 1 } M ι := by
    refine ⟨⟨fun n ob hn => (hg.mem.obj n ob hn).keep (w' := { w with drawn := w.drawn + 1 }) (fun _ h => h) (fun _ _ => rfl) (Keeps.refl _ _) rfl (fun _ _ => rfl), hg.mem.dis, hg.mem.imm, hg.mem.lt, hg.mem.may, hg.mem.size, hg.mem.keep, hg.mem.os, hg.mem.tape, hg.mem.output, hg.mem.base, U.keep w { w with drawn := w.drawn + 1 } (fun _ _ => rfl) hg.mem.tb, hg.mem.tm, hg.mem.old, hg.mem.arr0, hg.mem.pin⟩,
      fun t => Rel.keep (w := w) (w' := { w with drawn := w.drawn + 1 }) (fun _ h => h) (fun _ _ => rfl) (Keeps.refl _ _) (hg.env t), hg.dfr, hg.num⟩
  have hrep : ∀ k, k < ops.size → (Array.replicate ops.size false).getD k true = false ∧ (Array.replicate ops.size false).getD k false = false := fun k hk => by simp [hk]
  have hok' : ∀ i, i < ops.size → dd.getD i [] = dirR ops i ∧ ∀ j ∈ dirR ops i, j < i := fun i hi => by
    have := List.all_eq_true.1 hok i (List.mem_range.2 hi)
    simp only [Bool.and_eq_true, beq_iff_eq, List.all_eq_true, decide_eq_true_eq] at this
    exact this
  exact wpAny_of_awAll hG (fun i o hi => (mapM_idx ht).2 i o (by simpa using hi)) (fun i hi => (hok' i hi).1) (fun i hi => (hok' i hi).2) (K := Q .normal) (fun s' a' w' M' ι' h1 h2 => ⟨s', M', ι', h1, h2⟩) ops.size [] _ s a _ M ι List.nodup_nil (fun i hi => (nomatch hi)) (by simp) (by simp)
    (fun i hi => ⟨fun h => (by rw [(hrep i hi).2] at h; cases h), fun h => (nomatch h)⟩) (fun i hi => ⟨fun _ h => (nomatch h), fun _ => (hrep i hi).1⟩) hg' h
end
end Go.Proofs.YtllhcpjgilpbnaaDoor
