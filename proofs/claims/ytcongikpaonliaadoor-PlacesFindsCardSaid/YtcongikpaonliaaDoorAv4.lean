/- Memory: reading cells, one object renewed. -/
import Derived.Test.YtcongikpaonliaaDoorAv3
namespace Go.Proofs.YtcongikpaonliaaDoor
open Go Go.RowKit
set_option linter.unusedSimpArgs false
set_option linter.unusedVariables false
set_option linter.deprecated false
def iupd (ι : Nat → Value) (n : Nat) (v : Value) : Nat → Value := fun m => if m = n then v else ι m
theorem iupd_same (ι : Nat → Value) (n : Nat) (v : Value) : iupd ι n v n = v := by unfold iupd; rw [if_pos rfl]
theorem iupd_ne (ι : Nat → Value) {n m : Nat} (v : Value) (h : m ≠ n) : iupd ι n v m = ι m := by unfold iupd; rw [if_neg h]
theorem hupd_same (h : Nat → Option Ob) (n : Nat) (o : Ob) : hupd h n o n = some o := by unfold hupd; rw [if_pos rfl]
theorem hupd_ne (h : Nat → Option Ob) {n m : Nat} (o : Ob) (e : m ≠ n) : hupd h n o m = h m := by unfold hupd; rw [if_neg e]
theorem ownsRow_of_block {w w' : World} {base : Nat} {e : TypeId} {size : Nat} {v : Value} {n : Nat} {xs : List Value} (h : w.ownsRow base e size v n xs)
    (hb : ∀ b, blk v = some b → w'.heap[b]? = w.heap[b]?) : w'.ownsRow base e size v n xs := by
  refine ⟨h.1, h.2.imp id ?_⟩
  rintro ⟨g, cap, cur, rfl, h1, h2, r⟩
  exact ⟨g, cap, cur, rfl, h1, (hb g rfl).trans h2, r⟩
section
variable {U : Tbl} {C : Ctx U} {h h' : Nat → Option Ob} {w w' : World} {M M' : Nat → Prop} {ι ι' : Nat → Value}
theorem obR.keep {n : Nat} {o : Ob} (hr : obR M w ι h n o) (hM : ∀ b, M b → M' b) (hw : ∀ b, M b → w'.heap[b]? = w.heap[b]?) (hk : Keeps h h' ι ι') (hi : ι' n = ι n)
    (hb : ∀ b, blk (ι n) = some b → w'.heap[b]? = w.heap[b]?) : obR M' w' ι' h' n o := by
  cases o with
  | box t cells =>
    obtain ⟨b, cs, e, hh, hl, ho, hv⟩ := hr
    exact ⟨b, cs, hi.trans e, (hb b (by rw [e]; rfl)).trans hh, hl, ho, fun i v hv' => (hv i v hv').keep hM hw hk⟩
  | arr t sz rows =>
    obtain ⟨xs, hown, hl, ho, hv⟩ := hr
    refine ⟨xs, ?_, hl, ho, fun i j r v h1 h2 => (hv i j r v h1 h2).keep hM hw hk⟩
    rw [hi]
    exact ownsRow_of_block hown hb
  | mp es =>
    obtain ⟨b, ents, clock, e, hh, hl, hv⟩ := hr
    refine ⟨b, ents, clock, hi.trans e, (hb b (by rw [e]; rfl)).trans hh, hl, fun i kv hi' => ?_⟩
    obtain ⟨en, h1, h2, h3⟩ := hv i kv hi'
    exact ⟨en, h1, h2, h3.keep hM hw hk⟩
theorem Keeps.put {n : Nat} {o o' : Ob} {v' : Value} (hn : h n = some o)
    (hc : (∃ t c c', o = .box t c ∧ o' = .box t c' ∧ v' = ι n) ∨ (∃ t sz r r', o = .arr t sz r ∧ o' = .arr t sz r' ∧ r.length ≤ r'.length ∧ (r'.length = r.length → v' = ι n)) ∨ (∃ es es', o = .mp es ∧ o' = .mp es' ∧ v' = ι n)) :
    Keeps h (hupd h n o') ι (iupd ι n v') := by
  refine ⟨fun m t c hm => ?_, fun m t sz r hm => ?_, fun m es hm => ?_⟩
  · by_cases e : m = n
    · subst e
      rw [hn] at hm
      rcases hc with ⟨t', c1, c', rfl, rfl, hv⟩ | ⟨_, _, _, _, rfl, _⟩ | ⟨_, _, rfl, _⟩
      · injection hm with hm; injection hm with h1 h2; subst h1
        exact ⟨by rw [iupd_same]; exact hv, c', hupd_same _ _ _⟩
      · cases hm
      · cases hm
    · exact ⟨iupd_ne _ _ e, c, by rw [hupd_ne _ _ e]; exact hm⟩
  · by_cases e : m = n
    · subst e
      rw [hn] at hm
      rcases hc with ⟨_, _, _, rfl, _⟩ | ⟨t', sz', r1, r', rfl, rfl, hl, hv⟩ | ⟨_, _, rfl, _⟩
      · cases hm
      · injection hm with hm; injection hm with h1 h2 h3; subst h1 h2 h3
        exact ⟨r', hupd_same _ _ _, hl, fun he => by rw [iupd_same]; exact hv he⟩
      · cases hm
    · exact ⟨r, by rw [hupd_ne _ _ e]; exact hm, Nat.le_refl _, fun _ => iupd_ne _ _ e⟩
  · by_cases e : m = n
    · subst e
      rw [hn] at hm
      rcases hc with ⟨_, _, _, rfl, _⟩ | ⟨_, _, _, _, rfl, _⟩ | ⟨es1, es', rfl, rfl, hv⟩
      · cases hm
      · cases hm
      · exact ⟨by rw [iupd_same]; exact hv, es', hupd_same _ _ _⟩
    · exact ⟨iupd_ne _ _ e, es, by rw [hupd_ne _ _ e]; exact hm⟩
theorem Keeps.new {n : Nat} {o' : Ob} {v' : Value} (hn : h n = none) : Keeps h (hupd h n o') ι (iupd ι n v') := by
  have ne : ∀ {m : Nat} {o : Ob}, h m = some o → m ≠ n := fun {m o} hm e => by rw [e, hn] at hm; cases hm
  exact ⟨fun m t c hm => ⟨iupd_ne _ _ (ne hm), c, by rw [hupd_ne _ _ (ne hm)]; exact hm⟩,
    fun m t sz r hm => ⟨r, by rw [hupd_ne _ _ (ne hm)]; exact hm, Nat.le_refl _, fun _ => iupd_ne _ _ (ne hm)⟩,
    fun m es hm => ⟨iupd_ne _ _ (ne hm), es, by rw [hupd_ne _ _ (ne hm)]; exact hm⟩⟩
theorem Mem.blt (hm : Mem C h w M ι) : ∀ m b, (h m).isSome = true → blk (ι m) = some b → b < w.heap.size := fun m b hs hb => by
  obtain ⟨o, ho⟩ := Option.isSome_iff_exists.1 hs
  have hr := hm.obj m o ho
  cases o with
  | box t cells =>
    obtain ⟨b', cs, e, hh, _⟩ := hr
    rw [e] at hb; cases hb
    exact (Array.getElem?_eq_some_iff.1 hh).1
  | arr t sz rows =>
    obtain ⟨xs, hown, _⟩ := hr
    rcases hown.2 with ⟨e, _⟩ | ⟨g, cap, cur, e, _, hh, _⟩
    · rw [e] at hb; cases hb
    · rw [e] at hb; cases hb
      exact (Array.getElem?_eq_some_iff.1 hh).1
  | mp es =>
    obtain ⟨b', ents, clock, e, hh, _⟩ := hr
    rw [e] at hb; cases hb
    exact (Array.getElem?_eq_some_iff.1 hh).1
/-- One object is renewed (or is new), the rest stays. -/
theorem Mem.step (hm : Mem C h w M ι) (n : Nat) (ob' : Ob) (v' : Value) (w' : World) (hsize : w.heap.size ≤ w'.heap.size) (hos : w'.os = w.os) (htape : w'.tape = w.tape) (hout : w'.output = w.output)
    (hblock : ∀ k, k < w.heap.size → (∀ o, h n = some o → blk (ι n) ≠ some k) → w'.heap[k]? = w.heap[k]?)
    (hnew : ∀ g, blk v' = some g → (∃ o, h n = some o ∧ blk (ι n) = some g) ∨ w.heap.size ≤ g)
    (hk : Keeps h (hupd h n ob') ι (iupd ι n v')) (hob : obR M w' (iupd ι n v') (hupd h n ob') n ob')
    (hold : 1000 ≤ n → (h n).isSome = true)
    (hpin : 1000 ≤ n → (∀ t c, ob' = .box t c → v' = C.ι0 n) ∧ ∀ es, ob' = .mp es → v' = C.ι0 n) :
    Mem C (hupd h n ob') w' M (iupd ι n v') ∧ (∀ b, M b → w'.heap[b]? = w.heap[b]?) := by
  have hMw : ∀ b, M b → w'.heap[b]? = w.heap[b]? := fun b hb => hblock b (hm.lt b hb) (fun o ho e => hm.imm n b (by rw [ho]; rfl) e hb)
  have lt := hm.blt
  have old : ∀ {m : Nat}, m ≠ n → (hupd h n ob' m).isSome = true → (h m).isSome = true := fun {m} e hs => by rwa [hupd_ne _ _ e] at hs
  refine ⟨⟨fun m o ho => ?_, fun m k b h1 h2 e1 e2 => ?_, fun m b hs hb => ?_, fun b hb => Nat.lt_of_lt_of_le (hm.lt b hb) hsize, fun m b hs hb => ?_, Nat.le_trans hm.size hsize, fun b hb hx => ?_,
    hos.trans hm.os, htape.trans hm.tape, hout.trans hm.output, hm.base, U.keep w w' (fun b hb => hMw b (hm.tm b hb)) hm.tb, hm.tm, hm.old, fun m t sz r0 t' sz' rows hm1 h0 ho => ?_, fun m hm1 => ?_⟩, hMw⟩
  · by_cases e : m = n
    · subst e
      rw [hupd_same] at ho
      injection ho with ho
      subst ho
      exact hob
    · rw [hupd_ne _ _ e] at ho
      refine (hm.obj m o ho).keep (fun _ hb => hb) hMw hk (iupd_ne _ _ e) (fun b hb => ?_)
      refine hblock b (lt m b (by rw [ho]; rfl) hb) (fun o' ho' e' => e ?_)
      exact hm.dis m n b (by rw [ho]; rfl) (by rw [ho']; rfl) hb e'
  · by_cases c1 : m = n
    · by_cases c2 : k = n
      · rw [c1, c2]
      · subst c1
        rw [iupd_same] at e1
        rw [iupd_ne _ _ c2] at e2
        rcases hnew b e1 with ⟨o, ho, hb⟩ | hb
        · exact hm.dis m k b (by rw [ho]; rfl) (old c2 h2) hb e2
        · have := lt k b (old c2 h2) e2; omega
    · by_cases c2 : k = n
      · subst c2
        rw [iupd_same] at e2
        rw [iupd_ne _ _ c1] at e1
        rcases hnew b e2 with ⟨o, ho, hb⟩ | hb
        · exact hm.dis m k b (old c1 h1) (by rw [ho]; rfl) e1 hb
        · have := lt m b (old c1 h1) e1; omega
      · rw [iupd_ne _ _ c1] at e1
        rw [iupd_ne _ _ c2] at e2
        exact hm.dis m k b (old c1 h1) (old c2 h2) e1 e2
  · by_cases c1 : m = n
    · subst c1
      rw [iupd_same] at hb
      intro hMb
      rcases hnew b hb with ⟨o, ho, hb'⟩ | hb'
      · exact hm.imm m b (by rw [ho]; rfl) hb' hMb
      · have := hm.lt b hMb; omega
    · rw [iupd_ne _ _ c1] at hb
      exact hm.imm m b (old c1 hs) hb
  · by_cases c1 : m = n
    · subst c1
      rw [iupd_same] at hb
      rcases hnew b hb with ⟨o, ho, hb'⟩ | hb'
      · exact hm.may m b (by rw [ho]; rfl) hb'
      · exact .inr (Nat.le_trans hm.size hb')
    · rw [iupd_ne _ _ c1] at hb
      exact hm.may m b (old c1 hs) hb
  · rw [← hm.keep b hb hx]
    refine hblock b (Nat.lt_of_lt_of_le hb hm.size) (fun o ho e => ?_)
    rcases hm.may n b (by rw [ho]; rfl) e with h1 | h1
    · exact hx h1
    · omega
  · by_cases c1 : m = n
    · subst c1
      rw [hupd_same] at ho
      injection ho with ho
      subst ho
      obtain ⟨o2, ho2⟩ := Option.isSome_iff_exists.1 (hold hm1)
      cases o2 with
      | box t2 c2 =>
        obtain ⟨_, c', hc'⟩ := hk.box m t2 c2 ho2
        rw [hupd_same] at hc'; cases hc'
      | arr t2 sz2 r2 =>
        obtain ⟨r', hr', l1, e1⟩ := hk.arr m t2 sz2 r2 ho2
        rw [hupd_same] at hr'
        injection hr' with hr'
        injection hr' with a1 a2 a3
        subst a1 a2 a3
        obtain ⟨b1, b2⟩ := hm.arr0 m t sz r0 _ _ r2 hm1 h0 ho2
        exact ⟨by omega, fun he => (e1 (by omega)).trans (b2 (by omega))⟩
      | mp es =>
        obtain ⟨_, c', hc'⟩ := hk.mp m es ho2
        rw [hupd_same] at hc'; cases hc'
    · rw [hupd_ne _ _ c1] at ho
      rw [iupd_ne _ _ c1]
      exact hm.arr0 m t sz r0 t' sz' rows hm1 h0 ho
  · by_cases c1 : m = n
    · subst c1
      obtain ⟨p1, p2⟩ := hpin hm1
      refine ⟨fun t c hc => ?_, fun es hc => ?_⟩
      · rw [hupd_same] at hc; injection hc with hc; rw [iupd_same]; exact p1 t c hc
      · rw [hupd_same] at hc; injection hc with hc; rw [iupd_same]; exact p2 es hc
    · rw [hupd_ne _ _ c1, iupd_ne _ _ c1]
      exact hm.pin m hm1
/-- From an address on the cells read so. -/
def CellsAt (M : Nat → Prop) (w : World) (ι : Nat → Value) (h : Nat → Option Ob) (g o : Nat) (vs : List V) : Prop :=
  ∃ f : Nat → Value, ∀ j v, vs[j]? = some v → w.cell? ⟨g, o + j, none⟩ = some (f j) ∧ (f j).oneCell' = true ∧ Rel M w ι h v (f j)
theorem CellsAt.drop {g o : Nat} {vs : List V} (hc : CellsAt M w ι h g o vs) (k : Nat) : CellsAt M w ι h g (o + k) (vs.drop k) := by
  obtain ⟨f, hf⟩ := hc
  refine ⟨fun j => f (k + j), fun j v hv => ?_⟩
  rw [List.getElem?_drop] at hv
  have := hf (k + j) v hv
  rwa [show o + k + j = o + (k + j) by omega]
end
end Go.Proofs.YtcongikpaonliaaDoor
