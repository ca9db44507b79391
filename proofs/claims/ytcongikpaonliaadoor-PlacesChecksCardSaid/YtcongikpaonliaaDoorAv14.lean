/- Regions: in the text's order; and in whatever order, where the operations that nothing orders look at nothing that the others write. -/
import Derived.Test.YtcongikpaonliaaDoorAv13
import Derived.Orders
namespace Go.Proofs.YtcongikpaonliaaDoor
open Go Go.RowKit
set_option linter.unusedSimpArgs false
set_option linter.unusedVariables false
set_option linter.deprecated false
/-- A region in the text's order. -/
def arun (P : Program) (U : Tbl) (EF : Nat → Bool) (G : Tab) : List AO → St → (St → Prop) → Prop
  | [], s, K => K s
  | o :: os, s, K => match eCall EF o s with
    | some (f, us) => EStep P U o.d f us s fun s' => arun P U EF G os s' K
    | none => (o.res G s).φ ∧ arun P U EF G os (o.next G s) K
/-- No name twice. -/
def apartN (a b : List Nat) : Bool := a.all fun n => b.all fun m => n != m
/-- What an operation looked at and wrote: its number, the names. -/
structure Fp where
  i : Nat
  rd : List Nat
  wr : List Nat
  all : Bool
def Fp.indep (f g : Fp) : Bool := !f.all && (!g.all && (apartN f.wr g.rd && apartN f.rd g.wr))
def AO.fp (o : AO) (i : Nat) (s : St) : Fp := ⟨i, o.rd s, o.wr s, false⟩
def fpAll (i : Nat) : Fp := ⟨i, [], [], true⟩
/-- A region in the text's order; D: for each operation those that it waits for. -/
def arunD (P : Program) (U : Tbl) (EF : Nat → Bool) (G : Tab) (D : List (List Nat)) : List (Nat × AO) → List Fp → St → (St → Prop) → Prop
  | [], _, s, K => K s
  | (i, o) :: os, past, s, K => match eCall EF o s with
    | some (f, us) => (∀ f ∈ past, f.i ∈ D.getD i []) ∧ EStep P U o.d f us s fun s' => arunD P U EF G D os (fpAll i :: past) s' K
    | none => (o.res G s).φ ∧ (∀ f ∈ past, f.i ∈ D.getD i [] ∨ f.indep (o.fp i s) = true) ∧ arunD P U EF G D os (o.fp i s :: past) (o.next G s) K
/-- The operations' slots are apart. -/
def AO.apart (o p : AO) : Bool :=
  (match o.d with | some d => !p.slots.contains d | none => true) && (match p.d with | some d => !o.slots.contains d | none => true) && (match o.d, p.d with | some d, some d' => d != d' | _, _ => true)
theorem apartN_spec {a b : List Nat} (h : apartN a b = true) {n : Nat} (ha : n ∈ a) (hb : n ∈ b) : False := by
  have := List.all_eq_true.1 (List.all_eq_true.1 h n ha) n hb
  simp at this
theorem indep_symm {f g : Fp} (h : f.indep g = true) : g.indep f = true := by
  have sym : ∀ {a b : List Nat}, apartN a b = true → apartN b a = true := fun {a b} h => List.all_eq_true.2 fun n hn => List.all_eq_true.2 fun m hm => by
    simp only [bne_iff_ne, ne_eq]
    rintro rfl
    exact apartN_spec h hm hn
  simp only [Fp.indep, Bool.and_eq_true] at h ⊢
  exact ⟨h.2.1, h.1, sym h.2.2.2, sym h.2.2.1⟩
theorem hupds_ne {h : Nat → Option Ob} : ∀ {l : List (Nat × Ob)} {n : Nat}, (∀ p ∈ l, p.1 ≠ n) → hupds h l n = h n
  | [], _, _ => rfl
  | (m, o) :: r, n, hl => by
    show hupds (hupd h m o) r n = h n
    have ne := hl (m, o) (List.mem_cons_self ..)
    have key : ∀ {l : List (Nat × Ob)} {h1 h2 : Nat → Option Ob}, h1 n = h2 n → (∀ p ∈ l, p.1 ≠ n) → hupds h1 l n = hupds h2 l n := by
      intro l
      induction l with
      | nil => exact fun e _ => e
      | cons q l ih =>
        intro h1 h2 e hq
        refine ih ?_ (fun p hp => hq p (List.mem_cons_of_mem _ hp))
        unfold hupd
        rw [if_neg (fun e => hq q (List.mem_cons_self ..) e.symm), if_neg (fun e => hq q (List.mem_cons_self ..) e.symm)]
        exact e
    rw [key (h2 := h) (by unfold hupd; rw [if_neg (fun e => ne e.symm)]) (fun p hp => hl p (List.mem_cons_of_mem _ hp))]
    exact hupds_ne (fun p hp => hl p (List.mem_cons_of_mem _ hp))
theorem hupds_comm {h : Nat → Option Ob} : ∀ {l r : List (Nat × Ob)}, (∀ p ∈ l, ∀ q ∈ r, p.1 ≠ q.1) → hupds (hupds h l) r = hupds (hupds h r) l := by
  intro l r hlr
  funext n
  have loc : ∀ {l : List (Nat × Ob)} {h1 h2 : Nat → Option Ob}, (∃ p ∈ l, p.1 = n) → hupds h1 l n = hupds h2 l n := by
    intro l
    induction l with
    | nil => rintro h1 h2 ⟨p, hp, _⟩; cases hp
    | cons q l ih =>
      rintro h1 h2 ⟨p, hp, e⟩
      by_cases hl : ∃ p ∈ l, p.1 = n
      · exact ih hl
      · have hno : ∀ p ∈ l, p.1 ≠ n := fun p hp e => hl ⟨p, hp, e⟩
        have hq : q.1 = n := by
          rcases List.mem_cons.1 hp with rfl | hp
          · exact e
          · exact absurd e (hno p hp)
        show hupds (hupd h1 q.1 q.2) l n = hupds (hupd h2 q.1 q.2) l n
        rw [hupds_ne hno, hupds_ne hno]
        unfold hupd
        rw [if_pos hq.symm, if_pos hq.symm]
  by_cases c1 : ∃ p ∈ l, p.1 = n
  · obtain ⟨p, hp, e⟩ := c1
    have hr : ∀ q ∈ r, q.1 ≠ n := fun q hq e' => hlr p hp q hq (e.trans e'.symm)
    rw [hupds_ne hr]
    exact loc ⟨p, hp, e⟩
  · have hl : ∀ q ∈ l, q.1 ≠ n := fun q hq e' => c1 ⟨q, hq, e'⟩
    rw [hupds_ne hl]
    by_cases c2 : ∃ q ∈ r, q.1 = n
    · exact loc c2
    · have hr : ∀ q ∈ r, q.1 ≠ n := fun q hq e' => c2 ⟨q, hq, e'⟩
      rw [hupds_ne hr, hupds_ne hr, hupds_ne hl]
theorem upd_comm {e : Nat → V} {a b : Nat} {u v : V} (h : a ≠ b) : upd (upd e a u) b v = upd (upd e b v) a u := by
  funext t
  unfold upd
  by_cases c1 : t = b
  · by_cases c2 : t = a
    · exact absurd (c2.symm.trans c1) h
    · rw [if_pos c1, if_neg c2, if_pos c1]
  · by_cases c2 : t = a
    · rw [if_neg c1, if_pos c2, if_pos c2]
    · rw [if_neg c1, if_neg c2, if_neg c2, if_neg c1]
theorem AE.ev_congr {e e' : Nat → V} {x : AE} (h : ∀ n ∈ x.slots, e n = e' n) : x.ev e = x.ev e' := by
  cases x with
  | t n => exact h n (List.mem_singleton.2 rfl)
  | v x => rfl
/-- An operation sees its slots and the names that it looks at. -/
theorem AO.congr (G : Tab) {o : AO} {s s' : St} (he : ∀ n ∈ o.slots, s.e n = s'.e n) (hh : ∀ n ∈ o.rd s, s.h n = s'.h n) : o.res G s = o.res G s' ∧ o.rd s = o.rd s' ∧ o.wr s = o.wr s' := by
  obtain ⟨d, g, ao⟩ := o
  have hE : ∀ x ∈ ao.args, AE.ev s.e x = AE.ev s'.e x := fun x hx => AE.ev_congr fun n hn => he n (List.mem_append_right _ (List.mem_flatMap.2 ⟨x, hx, hn⟩))
  cases g with
  | none => exact aeval_congr hE hh
  | some tw =>
    obtain ⟨t, want⟩ := tw
    have ht : s.e t = s'.e t := he t (List.mem_append_left _ (List.mem_singleton.2 rfl))
    have hE2 : ∀ x ∈ ao.args, gE ao (AE.ev s.e) x = gE ao (AE.ev s'.e) x := fun x hx => by
      unfold gE
      split
      · exact hE x hx
      · show (AE.ev s.e x).strip = (AE.ev s'.e x).strip
        rw [hE x hx]
    obtain ⟨a1, a2, a3⟩ := aeval_congr (G := G) (d := d.getD 0) hE2 hh
    refine ⟨?_, a2, rfl⟩
    unfold AO.res
    simp only [ht, a1]
    cases gCond (s'.e t) want with
    | none => rfl
    | some c =>
      have : (∀ x ∈ ao.args, (x.ev s.e).cnd = true) = ∀ x ∈ ao.args, (x.ev s'.e).cnd = true := propext ⟨fun h x hx => by rw [← hE x hx]; exact h x hx, fun h x hx => by rw [hE x hx]; exact h x hx⟩
      simp only [this]
theorem AO.next_e (G : Tab) {o : AO} {s : St} {n : Nat} (h : o.d ≠ some n) : (o.next G s).e n = s.e n := by
  unfold AO.next
  cases hd : o.d with
  | none => rfl
  | some d =>
    show upd s.e d _ n = _
    unfold upd
    rw [if_neg (fun e => h (by rw [hd, e]))]
theorem AO.res_wr (G : Tab) (o : AO) (s : St) : ∀ p ∈ (o.res G s).w, p.1 ∈ o.wr s := by
  obtain ⟨d, g, ao⟩ := o
  cases g with
  | none => exact aeval_wr
  | some tw =>
    intro p hp
    unfold AO.res at hp
    dsimp only at hp
    split at hp <;> cases hp
theorem AO.next_h (G : Tab) {o : AO} {s : St} {n : Nat} (h : n ∉ o.wr s) : (o.next G s).h n = s.h n :=
  hupds_ne fun p hp e => h (e ▸ o.res_wr G s p hp)
theorem AO.next_def (G : Tab) (o : AO) (s : St) : o.next G s = ⟨setE o.d (o.res G s).v s.e, hupds s.h (o.res G s).w⟩ := rfl
/-- Two operations that are apart may change places. -/
theorem AO.comm (G : Tab) {o p : AO} {s : St} {i j : Nat} (ha : o.apart p = true) (hi : (p.fp j s).indep (o.fp i (p.next G s)) = true) (hp : (p.res G s).φ) (ho : (o.res G (p.next G s)).φ) :
    (o.res G s).φ ∧ (p.res G (o.next G s)).φ ∧ p.next G (o.next G s) = o.next G (p.next G s) ∧ o.fp i s = o.fp i (p.next G s) ∧ p.fp j (o.next G s) = p.fp j s := by
  simp only [AO.apart, Bool.and_eq_true] at ha
  obtain ⟨⟨a1, a2⟩, a3⟩ := ha
  simp only [Fp.indep, AO.fp, Bool.and_eq_true] at hi
  obtain ⟨_, _, i1, i2⟩ := hi
  have eo : ∀ n ∈ o.slots, (p.next G s).e n = s.e n := fun n hn => AO.next_e G fun e => by
    rw [e] at a2
    simp at a2
    exact a2 hn
  have ep : ∀ n ∈ p.slots, (o.next G s).e n = s.e n := fun n hn => AO.next_e G fun e => by
    rw [e] at a1
    simp at a1
    exact a1 hn
  obtain ⟨c1, c2, c3⟩ := AO.congr G (o := o) (s := p.next G s) (s' := s) eo (fun n hn => AO.next_h G fun hw => apartN_spec i1 hw hn)
  rw [c2] at i1
  rw [c3] at i2
  obtain ⟨d1, d2, d3⟩ := AO.congr G (o := p) (s := s) (s' := o.next G s) (fun n hn => (ep n hn).symm) (fun n hn => (AO.next_h G fun hw => apartN_spec i2 hn hw).symm)
  refine ⟨by rw [← c1]; exact ho, by rw [← d1]; exact hp, ?_, by simp only [AO.fp, c2, c3], by simp only [AO.fp, d2, d3]⟩
  have h1 : hupds (hupds s.h (o.res G s).w) (p.res G s).w = hupds (hupds s.h (p.res G s).w) (o.res G s).w := by
    refine hupds_comm fun q hq r hr e => ?_
    have hq' := o.res_wr G s q hq
    have hr' := p.res_wr G s r hr
    have rdwr : ∀ {o : AO} {s : St} {n : Nat}, n ∈ o.wr s → n ∈ o.rd s := by
      intro o s n hn
      obtain ⟨d, g, ao⟩ := o
      cases g with
      | none =>
        simp only [AO.wr, AO.rd] at hn ⊢
        cases ao <;> simp only [wrF, rdF, List.mem_cons, List.mem_append] at hn ⊢ <;> first | exact hn | (exact hn.imp id .inl) | (cases hn; done)
      | some tw => simp only [AO.wr] at hn; cases hn
    exact apartN_spec i1 hr' (by rw [← e]; exact rdwr hq')
  have hn : p.next G (o.next G s) = ⟨setE p.d (p.res G s).v (setE o.d (o.res G s).v s.e), hupds (hupds s.h (o.res G s).w) (p.res G s).w⟩ := by
    rw [AO.next_def G p, ← d1, AO.next_def G o]
  have hn2 : o.next G (p.next G s) = ⟨setE o.d (o.res G s).v (setE p.d (p.res G s).v s.e), hupds (hupds s.h (p.res G s).w) (o.res G s).w⟩ := by
    rw [AO.next_def G o, c1, AO.next_def G p]
  rw [hn, hn2, h1]
  congr 1
  cases hod : o.d with
  | none => cases p.d <;> rfl
  | some d =>
    cases hpd : p.d with
    | none => rfl
    | some d' =>
      rw [hod, hpd] at a3
      simp only [bne_iff_ne, ne_eq] at a3
      exact upd_comm a3
theorem EStep.mono {P : Program} {U : Tbl} {d : Option Nat} {f : Nat} {us : List V} {s : St} {K K' : St → Prop} (h : EStep P U d f us s K) (hk : ∀ s', K s' → K' s') : EStep P U d f us s K' :=
  let ⟨L0, L1, vs, hl, v, hl', h1, h2, h3⟩ := h; ⟨L0, L1, vs, hl, v, hl', h1, h2, hk _ h3⟩
theorem eCall_congr {EF : Nat → Bool} {o : AO} {s s' : St} (he : ∀ n ∈ o.slots, s.e n = s'.e n) : eCall EF o s = eCall EF o s' := by
  obtain ⟨d, g, ao⟩ := o
  cases g with
  | some _ => rfl
  | none =>
    have hE : ∀ x ∈ ao.args, AE.ev s.e x = AE.ev s'.e x := fun x hx => AE.ev_congr fun n hn => he n (List.mem_append_right _ (List.mem_flatMap.2 ⟨x, hx, hn⟩))
    cases ao with
    | call f as =>
      have : as.map (AE.ev s.e) = as.map (AE.ev s'.e) := List.map_congr_left fun x hx => hE x hx
      simp only [eCall, this]
    | callv x as =>
      have h1 : as.map (AE.ev s.e) = as.map (AE.ev s'.e) := List.map_congr_left fun y hy => hE y (List.mem_cons_of_mem _ hy)
      have h2 : AE.ev s.e x = AE.ev s'.e x := hE x (List.mem_cons_self ..)
      simp only [eCall, h1, h2]
    | _ => rfl
section
variable {P : Program} {U : Tbl} {EF : Nat → Bool} {G : Tab} {D : List (List Nat)}
theorem arunD_past : ∀ {L : List (Nat × AO)} {past past' : List Fp} {s : St} {K : St → Prop}, (∀ f ∈ past', f ∈ past) → arunD P U EF G D L past s K → arunD P U EF G D L past' s K
  | [], _, _, _, _, _, h => h
  | (i, o) :: L, past, past', s, K, hp, h => by
    have sub : ∀ (x : Fp), ∀ f ∈ x :: past', f ∈ x :: past := fun x f hf => by
      rcases List.mem_cons.1 hf with rfl | hf
      · exact List.mem_cons_self ..
      · exact List.mem_cons_of_mem _ (hp f hf)
    unfold arunD at h ⊢
    split
    · rename_i f us he
      rw [he] at h
      exact ⟨fun f hf => h.1 f (hp f hf), h.2.mono fun s' h3 => arunD_past (sub _) h3⟩
    · rename_i he
      rw [he] at h
      obtain ⟨h1, h2, h3⟩ := h
      exact ⟨h1, fun f hf => h2 f (hp f hf), arunD_past (sub _) h3⟩
/-- The first of these waits for the one that nothing waits with. -/
theorem arunD_head {L : List (Nat × AO)} {i : Nat} {o : AO} {past : List Fp} {s : St} {K : St → Prop} (h : arunD P U EF G D ((i, o) :: L) past s K) : ∀ f ∈ past, f.i ∈ D.getD i [] ∨ f.all = false := by
  intro f hf
  unfold arunD at h
  split at h
  · exact .inl (h.1 f hf)
  · refine (h.2.1 f hf).imp id fun h => ?_
    simp only [Fp.indep, Bool.and_eq_true, Bool.not_eq_true'] at h
    exact h.1
/-- An operation that waits for none of those ahead of it may be taken first. -/
theorem arunD_first : ∀ {L1 L2 : List (Nat × AO)} {i : Nat} {o : AO} {past : List Fp} {s : St} {K : St → Prop}, (∀ q ∈ L1, q.1 ∉ D.getD i [] ∧ i ∉ D.getD q.1 [] ∧ o.apart q.2 = true) →
    arunD P U EF G D (L1 ++ (i, o) :: L2) past s K → arunD P U EF G D ((i, o) :: (L1 ++ L2)) past s K
  | [], _, _, _, _, _, _, _, h => h
  | (j, p) :: L1, L2, i, o, past, s, K, hL, h => by
    obtain ⟨n1, n2, n3⟩ := hL (j, p) (List.mem_cons_self ..)
    rw [List.cons_append] at h
    unfold arunD at h
    split at h
    · obtain ⟨_, L0, L1', vs, hl, v, hl', _, _, h3⟩ := h
      exfalso
      have h4 := arunD_first (fun q hq => hL q (List.mem_cons_of_mem _ hq)) h3
      rcases arunD_head h4 (fpAll j) (List.mem_cons_self ..) with h5 | h5
      · exact n1 h5
      · cases h5
    · rename_i hep
      obtain ⟨h1, h2, h3⟩ := h
      have h4 := arunD_first (fun q hq => hL q (List.mem_cons_of_mem _ hq)) h3
      have ha := n3
      simp only [AO.apart, Bool.and_eq_true] at ha
      obtain ⟨⟨a1, a2⟩, a3⟩ := ha
      have eo : ∀ n ∈ o.slots, (p.next G s).e n = s.e n := fun n hn => AO.next_e G fun e => by
        rw [e] at a2
        simp at a2
        exact a2 hn
      have ep : ∀ n ∈ p.slots, (o.next G s).e n = s.e n := fun n hn => AO.next_e G fun e => by
        rw [e] at a1
        simp at a1
        exact a1 hn
      unfold arunD at h4
      split at h4
      · exact absurd (h4.1 _ (List.mem_cons_self ..)) n1
      · rename_i heo
        obtain ⟨g1, g2, g3⟩ := h4
        have hind : (p.fp j s).indep (o.fp i (p.next G s)) = true := (g2 _ (List.mem_cons_self ..)).resolve_left n1
        obtain ⟨c1, c2, c3, c4, c5⟩ := AO.comm G n3 hind h1 g1
        have heo' : eCall EF o s = none := by rw [← eCall_congr (s := p.next G s) eo]; exact heo
        have hep' : eCall EF p (o.next G s) = none := by rw [eCall_congr (s' := s) ep]; exact hep
        unfold arunD
        rw [heo']
        refine ⟨c1, fun f hf => ?_, ?_⟩
        · rw [c4]; exact g2 f (List.mem_cons_of_mem _ hf)
        · rw [List.cons_append]
          unfold arunD
          rw [hep']
          refine ⟨c2, fun f hf => ?_, ?_⟩
          · rcases List.mem_cons.1 hf with rfl | hf
            · exact .inr (by rw [c5, c4]; exact indep_symm hind)
            · rw [c5]; exact h2 f hf
          · rw [c3, c4, c5]
            refine arunD_past (fun f hf => ?_) g3
            simp only [List.mem_cons] at hf ⊢
            rcases hf with hf | hf | hf
            · exact .inr (.inl hf)
            · exact .inl hf
            · exact .inr (.inr hf)
end
end Go.Proofs.YtcongikpaonliaaDoor
