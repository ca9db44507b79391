/- Other names for the objects of a state; a loop over a map. -/
import Derived.Test.YtfjgnfgadkajnaaGreatAv22
import Derived.Laws.IdiomRangeMap
namespace Go.Proofs.YtfjgnfgadkajnaaGreat
open Go Go.RowKit
set_option linter.unusedSimpArgs false
set_option linter.unusedVariables false
set_option linter.deprecated false
theorem mkE_ren (σ : Nat → Nat) (l : List (Nat × V)) (t : Nat) : mkE (l.map fun p => (p.1, p.2.ren σ)) t = (mkE l t).ren σ := by
  induction l with
  | nil => simp only [List.map_nil, mkE, V.ren]
  | cons p l ih =>
    obtain ⟨a, v⟩ := p
    simp only [List.map_cons, mkE]
    split
    · rfl
    · exact ih
theorem mkH_ren1 {σ τ : Nat → Nat} : ∀ {hl : List (Nat × Ob)}, (∀ q ∈ hl, τ (σ q.1) = q.1) → ∀ {m : Nat} {o : Ob}, mkH hl m = some o → mkH (hl.map fun q => (σ q.1, q.2.ren σ)) (σ m) = some (o.ren σ)
  | [], _, m, o, h => by cases h
  | (a, x) :: hl, inv, m, o, h => by
    simp only [List.map_cons, mkH] at h ⊢
    by_cases e : m = a
    · subst e; rw [if_pos rfl] at h ⊢; injection h with h; rw [h]
    · rw [if_neg e] at h
      have hm := mkH_in (show (mkH hl m).isSome = true by rw [h]; rfl)
      obtain ⟨q, hq, rfl⟩ := List.mem_map.1 hm
      have h1 := inv q (List.mem_cons_of_mem _ hq)
      have h2 := inv (a, x) (List.mem_cons_self ..)
      rw [if_neg (fun e2 => e (by rw [← h1, e2]; exact h2))]
      exact mkH_ren1 (fun q hq => inv q (List.mem_cons_of_mem _ hq)) h
theorem mkH_ren2 {σ τ : Nat → Nat} : ∀ {hl : List (Nat × Ob)}, (∀ q ∈ hl, τ (σ q.1) = q.1) → ∀ {n : Nat} {o' : Ob}, mkH (hl.map fun q => (σ q.1, q.2.ren σ)) n = some o' → ∃ m o, n = σ m ∧ mkH hl m = some o ∧ o' = o.ren σ
  | [], _, n, o', h => by cases h
  | (a, x) :: hl, inv, n, o', h => by
    simp only [List.map_cons, mkH] at h
    by_cases e : n = σ a
    · rw [if_pos e] at h
      injection h with h
      exact ⟨a, x, e, by simp only [mkH, if_true], h.symm⟩
    · rw [if_neg e] at h
      obtain ⟨m, o, h1, h2, h3⟩ := mkH_ren2 (fun q hq => inv q (List.mem_cons_of_mem _ hq)) h
      exact ⟨m, o, h1, by simp only [mkH]; rw [if_neg (fun e2 => e (by rw [h1, e2]))]; exact h2, h3⟩
/-- The same state, its objects under other names. -/
theorem Le.ren (σ τ : Nat → Nat) (l : List (Nat × V)) (hl : List (Nat × Ob)) (inv : ∀ q ∈ hl, τ (σ q.1) = q.1) (big : ∀ q ∈ hl, 1000 ≤ σ q.1 → σ q.1 = q.1) (hv : ∀ p ∈ l, p.2.nin (hl.map (·.1)) = true) (ho : ∀ q ∈ hl, q.2.nin (hl.map (·.1))) :
    Le ⟨mkE l, mkH hl⟩ ⟨mkE (l.map fun p => (p.1, p.2.ren σ)), mkH (hl.map fun q => (σ q.1, q.2.ren σ))⟩ := by
  intro U C a w M ι hg
  have hm := hg.mem
  have inv2 : ∀ m ∈ hl.map (·.1), τ (σ m) = m := fun m hm => by obtain ⟨q, hq, rfl⟩ := List.mem_map.1 hm; exact inv q hq
  have hR : Ren (hl.map (·.1)) σ ι (mkH hl) (fun n => ι (τ n)) (mkH (hl.map fun q => (σ q.1, q.2.ren σ))) := by
    refine ⟨fun n hn => ?_, fun n hn t c h => ⟨_, mkH_ren1 inv h⟩, fun n hn t sz r h => mkH_ren1 inv h, fun n hn es h => ⟨_, mkH_ren1 inv h⟩⟩
    show ι (τ (σ n)) = ι n
    rw [inv2 n hn]
  have isin : ∀ {n : Nat}, (mkH (hl.map fun q => (σ q.1, q.2.ren σ)) n).isSome = true → ∃ m o, n = σ m ∧ mkH hl m = some o ∧ m ∈ hl.map (·.1) ∧ τ n = m := fun {n} h => by
    obtain ⟨o', ho'⟩ := Option.isSome_iff_exists.1 h
    obtain ⟨m, o, h1, h2, _⟩ := mkH_ren2 inv ho'
    have hmi := mkH_in (show (mkH hl m).isSome = true by rw [h2]; rfl)
    exact ⟨m, o, h1, h2, hmi, by rw [h1, inv2 m hmi]⟩
  have big2 : ∀ m ∈ hl.map (·.1), 1000 ≤ σ m → σ m = m := fun m hm h => by obtain ⟨q, hq, rfl⟩ := List.mem_map.1 hm; exact big q hq h
  refine ⟨M, fun n => ι (τ n), ⟨fun n o' h' => ?_, fun n m b h1 h2 e1 e2 => ?_, fun n b hs hb => ?_, hm.lt, fun n b hs hb => ?_, hm.size, hm.keep, hm.os, hm.tape, hm.output, hm.base, hm.tb, hm.tm, hm.old, fun n t sz r0 t' sz' rows hn h0 h' => ?_, fun n hn => ⟨fun t c h' => ?_, fun es h' => ?_⟩⟩, fun t => ?_, hg.dfr, hg.num⟩
  · obtain ⟨m, o, rfl, h2, rfl⟩ := mkH_ren2 inv h'
    have hmi := mkH_in (show (mkH hl m).isSome = true by rw [h2]; rfl)
    have := (hm.obj m o h2).ren (fun _ h => h) hR hmi (ho _ (mkH_mem h2))
    exact this
  · obtain ⟨m1, o1, rfl, k1, _, t1⟩ := isin h1
    obtain ⟨m2, o2, rfl, k2, _, t2⟩ := isin h2
    rw [t1] at e1
    rw [t2] at e2
    rw [hm.dis m1 m2 b (by show (mkH hl m1).isSome = true; rw [k1]; rfl) (by show (mkH hl m2).isSome = true; rw [k2]; rfl) e1 e2]
  · obtain ⟨m1, o1, rfl, k1, _, t1⟩ := isin hs
    rw [t1] at hb
    exact hm.imm m1 b (by show (mkH hl m1).isSome = true; rw [k1]; rfl) hb
  · obtain ⟨m1, o1, rfl, k1, _, t1⟩ := isin hs
    rw [t1] at hb
    exact hm.may m1 b (by show (mkH hl m1).isSome = true; rw [k1]; rfl) hb
  · obtain ⟨m, o, e, h2, e2⟩ := mkH_ren2 inv h'
    have hmi := mkH_in (show (mkH hl m).isSome = true by rw [h2]; rfl)
    have eσ := big2 m hmi (by rw [← e]; exact hn)
    have enm : n = m := by rw [e, eσ]
    subst enm
    have et : τ n = n := by have := inv2 n hmi; rwa [eσ] at this
    cases o with
    | arr t2 sz2 r2 =>
      injection e2 with e3 e4 e5
      subst e3 e4 e5
      show _ ∧ (_ → ι (τ n) = _)
      rw [et]
      exact hm.arr0 n t sz r0 _ _ _ hn h0 h2
    | box _ _ => cases e2
    | mp _ => cases e2
  · obtain ⟨m, o, e, h2, e2⟩ := mkH_ren2 inv h'
    have hmi := mkH_in (show (mkH hl m).isSome = true by rw [h2]; rfl)
    have eσ := big2 m hmi (by rw [← e]; exact hn)
    have enm : n = m := by rw [e, eσ]
    subst enm
    have et : τ n = n := by have := inv2 n hmi; rwa [eσ] at this
    cases o with
    | box t2 c2 => show ι (τ n) = _; rw [et]; exact (hm.pin n hn).1 _ _ h2
    | arr _ _ _ => cases e2
    | mp _ => cases e2
  · obtain ⟨m, o, e, h2, e2⟩ := mkH_ren2 inv h'
    have hmi := mkH_in (show (mkH hl m).isSome = true by rw [h2]; rfl)
    have eσ := big2 m hmi (by rw [← e]; exact hn)
    have enm : n = m := by rw [e, eσ]
    subst enm
    have et : τ n = n := by have := inv2 n hmi; rwa [eσ] at this
    cases o with
    | mp es2 => show ι (τ n) = _; rw [et]; exact (hm.pin n hn).2 _ h2
    | arr _ _ _ => cases e2
    | box _ _ => cases e2
  · show Rel M w _ _ (mkE (l.map fun p => (p.1, p.2.ren σ)) t) _
    rw [mkE_ren]
    refine (hg.env t).ren (fun _ h => h) hR ?_
    rcases mkE_mem (l := l) (t := t) with e | e
    · show (mkE l t).nin _ = true
      rw [e]; simp only [V.nin]
    · exact hv _ e
/-! A loop over a map that nobody writes. -/
section
variable {P : Program}
end
section
variable {P : Program} {U : Tbl} {C : Ctx U} {G : Tab}
/-- A part of the run: from here on only the blocks of the objects are written. -/
def Ctx.sub (C : Ctx U) (h : Nat → Option Ob) (w : World) (M : Nat → Prop) (ι : Nat → Value) : Ctx U := ⟨w, fun b => ∃ n, (h n).isSome = true ∧ blk (ι n) = some b, C.N, M, C.ι0, C.h0⟩
theorem Mem.into {h : Nat → Option Ob} {w w2 : World} {M : Nat → Prop} {ι : Nat → Value} (hm : Mem C h w M ι) {ib : Nat} (hsz : w2.heap.size = w.heap.size) (hh : ∀ b, b ≠ ib → w2.heap[b]? = w.heap[b]?) (hM : ¬ M ib) (hn : ∀ n, (h n).isSome = true → blk (ι n) ≠ some ib) : Mem (C.sub h w2 M ι) h w2 M ι := by
  have hMh : ∀ b, M b → w2.heap[b]? = w.heap[b]? := fun b hb => hh b fun e => hM (e ▸ hb)
  refine ⟨fun n o hno => (hm.obj n o hno).keep (fun _ h => h) hMh (Keeps.refl _ _) rfl fun b hb => hh b fun e => hn n (by rw [hno]; rfl) (e ▸ hb), hm.dis, hm.imm, fun b hb => by rw [hsz]; exact hm.lt b hb, fun n b h1 h2 => .inl ⟨n, h1, h2⟩, Nat.le_refl _, fun _ _ _ => rfl, rfl, rfl, rfl, fun _ h => h, U.keep w w2 (fun b hb => hMh b (hm.tm b hb)) hm.tb, hm.tm, fun b _ hb => .inl hb, hm.arr0, hm.pin⟩
theorem Mem.back {h h' : Nat → Option Ob} {w w2 w' : World} {M M' : Nat → Prop} {ι ι' : Nat → Value} (hm : Mem C h w M ι) {ib : Nat} (hsz : w2.heap.size = w.heap.size) (hos : w2.os = w.os) (ht : w2.tape = w.tape) (hou : w2.output = w.output) (hh : ∀ b, b ≠ ib → w2.heap[b]? = w.heap[b]?) (hib : C.w0.heap.size ≤ ib) (hk : Mem (C.sub h w2 M ι) h' w' M' ι') : Mem C h' w' M' ι' := by
  have hs0 := hm.size
  have hs1 : w2.heap.size ≤ w'.heap.size := hk.size
  refine ⟨hk.obj, hk.dis, hk.imm, hk.lt, fun n b h1 h2 => ?_, by omega, fun b hb hX => ?_, hk.os.trans (hos.trans hm.os), hk.tape.trans (ht.trans hm.tape), hk.output.trans (hou.trans hm.output), fun b hb => hk.base b (hm.base b hb), hk.tb, hk.tm, fun b hb hM => ?_, hk.arr0, hk.pin⟩
  · rcases hk.may n b h1 h2 with ⟨m, a1, a2⟩ | h3
    · exact hm.may m b a1 a2
    · have h3' : w2.heap.size ≤ b := h3
      exact .inr (by omega)
  · have e1 := hk.keep b (by show b < w2.heap.size; omega) (fun ⟨m, a1, a2⟩ => (hm.may m b a1 a2).elim hX (fun h => by omega))
    have e1' : w'.heap[b]? = w2.heap[b]? := e1
    rw [e1', hh b (by omega)]
    exact hm.keep b hb hX
  · rcases hk.old b (by show b < w2.heap.size; omega) hM with h3 | ⟨m, a1, a2⟩
    · exact hm.old b hb h3
    · exact .inr ((hm.may m b a1 a2).resolve_right (by omega))
/-- What a part of the run leaves alone. -/
theorem Mem.left {h h' : Nat → Option Ob} {w2 w' : World} {M M' : Nat → Prop} {ι ι' : Nat → Value} (hk : Mem (C.sub h w2 M ι) h' w' M' ι') {b : Nat} (hb : b < w2.heap.size) (hn : ∀ n, (h n).isSome = true → blk (ι n) ≠ some b) : w'.heap[b]? = w2.heap[b]? ∧ (¬ M b → ¬ M' b) ∧ ∀ n, (h' n).isSome = true → blk (ι' n) ≠ some b := by
  refine ⟨hk.keep b hb fun ⟨n, a1, a2⟩ => hn n a1 a2, fun hM hM' => ?_, fun n a1 a2 => ?_⟩
  · rcases hk.old b hb hM' with h3 | ⟨m, a1, a2⟩
    · exact hM h3
    · exact hn m a1 a2
  · rcases hk.may n b a1 a2 with ⟨m, b1, b2⟩ | h3
    · exact hn m b1 b2
    · have h3' : w2.heap.size ≤ b := h3
      omega
end
end Go.Proofs.YtfjgnfgadkajnaaGreat
