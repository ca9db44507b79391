/- wp over abstract states: regions, control. -/
import Derived.Test.YtcongikpaonliaaDoorAv14
import Derived.Deep.LoopGhost
namespace Go.Proofs.YtcongikpaonliaaDoor
open Go Go.RowKit
set_option linter.unusedSimpArgs false
set_option linter.unusedVariables false
set_option linter.deprecated false
def AW (P : Program) {U : Tbl} (C : Ctx U) (c : Code) (Q : Exit → St → Prop) (s : St) : Prop :=
  ∀ a w M ι, Good C s a w M ι → c.wp P (fun e a' w' => ∃ s' M' ι', Q e s' ∧ Good C s' a' w' M' ι') a w
/-- What the whole of a state's meaning gives may be used for another one. -/
def Le (s s' : St) : Prop := ∀ (U : Tbl) (C : Ctx U) a w M ι, Good C s a w M ι → ∃ M' ι', Good C s' a w M' ι'
theorem Le.refl (s : St) : Le s s := fun _ _ _ _ M ι h => ⟨M, ι, h⟩
theorem Le.trans {a b c : St} (h : Le a b) (k : Le b c) : Le a c := fun U C x w M ι hg => let ⟨M', ι', h'⟩ := h U C x w M ι hg; k U C x w M' ι' h'
def thenQ (K : St → Prop) (Q : Exit → St → Prop) : Exit → St → Prop
  | .normal, s => K s
  | e, s => Q e s
def blockQ (id : Nat) (Q : Exit → St → Prop) : Exit → St → Prop
  | .exit id', s => if id' = id then Q .normal s else Q (.exit id') s
  | e, s => Q e s
section
variable {P : Program} {U : Tbl} {C : Ctx U} {Q : Exit → St → Prop} {s : St}
theorem AW.mono {c : Code} {Q' : Exit → St → Prop} (h : AW P C c Q s) (hq : ∀ e s, Q e s → Q' e s) : AW P C c Q' s := fun a w M ι hg =>
  wp_mono (h a w M ι hg) fun e a' w' ⟨s', M', ι', h1, h2⟩ => ⟨s', M', ι', hq _ _ h1, h2⟩
theorem AW.le {c : Code} {s' : St} (hl : Le s s') (h : AW P C c Q s') : AW P C c Q s := fun a w M ι hg => let ⟨M', ι', hg'⟩ := hl U C a w M ι hg; h a w M' ι' hg'
theorem aw_skip (h : Q .normal s) : AW P C .skip Q s := fun _ _ M ι hg => wp_skip ⟨s, M, ι, h, hg⟩
theorem aw_exit {id : Nat} (h : Q (.exit id) s) : AW P C (.exit id) Q s := fun _ _ M ι hg => wp_exit ⟨s, M, ι, h, hg⟩
theorem aw_ret (h : Q .ret s) : AW P C .ret Q s := fun _ _ M ι hg => wp_ret ⟨s, M, ι, h, hg⟩
theorem aw_seq {x y : Code} (h : AW P C x (thenQ (AW P C y Q) Q) s) : AW P C (.seq x y) Q s := fun a w M ι hg =>
  wp_seq (wp_mono (h a w M ι hg) fun e a' w' ⟨s', M', ι', h1, h2⟩ => by
    cases e with
    | normal => exact h1 a' w' M' ι' h2
    | exit id => exact ⟨s', M', ι', h1, h2⟩
    | goto l => exact ⟨s', M', ι', h1, h2⟩
    | ret => exact ⟨s', M', ι', h1, h2⟩
    | panic ch => exact ⟨s', M', ι', h1, h2⟩
    | outgrown => exact ⟨s', M', ι', h1, h2⟩)
/-- A sequence, the state between given by name. -/
theorem aw_cut {x y : Code} {α : Type} (I : α → Prop) (st : α → St) (h : ∀ K : St → Prop, (∀ g s', I g → Le s' (st g) → K s') → AW P C x (thenQ K Q) s) (h2 : ∀ g, I g → AW P C y Q (st g)) : AW P C (.seq x y) Q s :=
  aw_seq ((h (fun s' => ∃ g, I g ∧ Le s' (st g)) fun g s' h1 h2 => ⟨g, h1, h2⟩).mono fun e s' hq => by
    cases e with
    | normal =>
      obtain ⟨g, hg, hl⟩ := hq
      exact (h2 g hg).le hl
    | exit id => exact hq
    | goto l => exact hq
    | ret => exact hq
    | panic ch => exact hq
    | outgrown => exact hq)
theorem aw_block {id : Nat} {c : Code} (h : AW P C c (blockQ id Q) s) : AW P C (.block id c) Q s := fun a w M ι hg =>
  wp_block (wp_mono (h a w M ι hg) fun e a' w' ⟨s', M', ι', h1, h2⟩ => by
    cases e with
    | exit id' =>
      simp only [Exit.inBlock]
      simp only [blockQ] at h1
      split
      · rename_i he; rw [if_pos he] at h1; exact ⟨s', M', ι', h1, h2⟩
      · rename_i he; rw [if_neg he] at h1; exact ⟨s', M', ι', h1, h2⟩
    | normal => exact ⟨s', M', ι', h1, h2⟩
    | goto l => exact ⟨s', M', ι', h1, h2⟩
    | ret => exact ⟨s', M', ι', h1, h2⟩
    | panic ch => exact ⟨s', M', ι', h1, h2⟩
    | outgrown => exact ⟨s', M', ι', h1, h2⟩)
theorem aw_cond {t : Nat} {x y : Code} {b : Bool} (hb : s.e t = .bool b) (h1 : b = true → AW P C x Q s) (h2 : b = false → AW P C y Q s) : AW P C (.cond (.tmp t) x y) Q s := fun a w M ι hg => by
  have hr := hg.env t
  rw [hb] at hr
  exact wp_cond_split (show a.eval (.tmp t) = .bool b from hr.bool_inv) (fun e => h1 e a w M ι hg) (fun e => h2 e a w M ι hg)
/-- A loop: what holds at the head of each round, by a state with parameters; a measure. -/
theorem aw_loop {c : Code} {α : Type} (I : α → Prop) (st : α → St) (μ : α → Nat) (g0 : α) (h0 : I g0) (hl : Le s (st g0))
    (round : ∀ g, I g → ∀ K : St → Prop, (∀ g' s', I g' → μ g' < μ g → Le s' (st g') → K s') → AW P C c (thenQ K Q) (st g)) : AW P C (.loop c) Q s := fun a w M ι hg => by
  obtain ⟨M0, ι0, hg0⟩ := hl U C a w M ι hg
  refine wp_loop_ghost (fun n a w => ∃ g M ι, I g ∧ μ g = n ∧ Good C (st g) a w M ι) (μ g0) ⟨g0, M0, ι0, h0, rfl, hg0⟩ ?_
  rintro n a w ⟨g, M, ι, hi, rfl, hgd⟩
  refine wp_mono (round g hi (fun s' => ∃ g', I g' ∧ μ g' < μ g ∧ Le s' (st g')) (fun g' s' h1 h2 h3 => ⟨g', h1, h2, h3⟩) a w M ι hgd) fun e a' w' ⟨s', M', ι', h1, h2⟩ => ?_
  cases e with
  | normal =>
    obtain ⟨g', k1, k2, k3⟩ := h1
    obtain ⟨M'', ι'', h3⟩ := k3 U C a' w' M' ι' h2
    exact ⟨μ g', k2, g', M'', ι'', k1, rfl, h3⟩
  | exit id => exact ⟨s', M', ι', h1, h2⟩
  | goto l => exact ⟨s', M', ι', h1, h2⟩
  | ret => exact ⟨s', M', ι', h1, h2⟩
  | panic ch => exact ⟨s', M', ι', h1, h2⟩
  | outgrown => exact ⟨s', M', ι', h1, h2⟩
/-! Regions. -/
/-- arunD with the check as a Bool. -/
def arunB (P : Program) (U : Tbl) (EF : Nat → Bool) (G : Tab) (D : List (List Nat)) : List (Nat × AO) → List Fp → St → (St → Prop) → Prop
  | [], _, s, K => K s
  | (i, o) :: os, past, s, K => match eCall EF o s with
    | some (f, us) => (past.all fun f => (D.getD i []).contains f.i) = true ∧ EStep P U o.d f us s fun s' => arunB P U EF G D os (fpAll i :: past) s' K
    | none => (o.res G s).φ ∧ (past.all fun f => (D.getD i []).contains f.i || f.indep (o.fp i s)) = true ∧ arunB P U EF G D os (o.fp i s :: past) (o.next G s) K
theorem arunD_of_B {P : Program} {U : Tbl} {EF : Nat → Bool} {G : Tab} {D : List (List Nat)} : ∀ {L : List (Nat × AO)} {past : List Fp} {s : St} {K : St → Prop}, arunB P U EF G D L past s K → arunD P U EF G D L past s K
  | [], _, _, _, h => h
  | (i, o) :: L, past, s, K, h => by
    unfold arunB at h
    unfold arunD
    split
    · rename_i f us he
      rw [he] at h
      exact ⟨fun f hf => by simpa only [List.contains_iff_mem] using List.all_eq_true.1 h.1 f hf, h.2.mono fun s' h3 => arunD_of_B h3⟩
    · rename_i he
      rw [he] at h
      obtain ⟨h1, h2, h3⟩ := h
      exact ⟨h1, fun f hf => by
        have := List.all_eq_true.1 h2 f hf
        simpa only [Bool.or_eq_true, List.contains_iff_mem] using this, arunD_of_B h3⟩
variable {G : Tab}
theorem wpList_of_arun {ops : Array Oper} {Q' : Exit → Act → World → Prop} {EF : Nat → Bool} (hG : ∀ f, PureC P U f (G f)) {K : St → Prop} (hK : ∀ s' a' w' M' ι', K s' → Good C s' a' w' M' ι' → Q' .normal a' w') : ∀ (l : List Oper) (aos : List AO), l.mapM (trO P C.N ops) = some aos →
    ∀ (s : St) (a : Act) (w : World) (M : Nat → Prop) (ι : Nat → Value), Good C s a w M ι → arun P U EF G aos s K → wpList P ops Q' l a w
  | [], aos, ht, s, a, w, M, ι, hg, h => by
    simp at ht
    subst ht
    exact wpList_nil (hK s a w M ι h hg)
  | o :: l, aos, ht, s, a, w, M, ι, hg, h => by
    rw [List.mapM_cons] at ht
    cases h1 : trO P C.N ops o with
    | none => rw [h1] at ht; cases ht
    | some ao =>
      rw [h1] at ht
      cases h2 : l.mapM (trO P C.N ops) with
      | none => rw [h2] at ht; cases ht
      | some aos' =>
        rw [h2] at ht
        have e : ao :: aos' = aos := Option.some.inj ht
        subst e
        unfold arun at h
        refine wpList_step fun K2 hK2 => ?_
        split at h
        · rename_i f us he
          exact step_estep h1 hg he h fun s' a' w' M' ι' h3 hg' => hK2 _ _ (wpList_of_arun hG hK l aos' h2 s' a' w' M' ι' hg' h3)
        · obtain ⟨p1, p2⟩ := h
          exact step_sim h1 hG hg p1 fun a' w' M' ι' hg' => hK2 _ _ (wpList_of_arun hG hK l aos' h2 _ a' w' M' ι' hg' p2)
theorem aw_region {id : Nat} {ops : Array Oper} {aos : List AO} {EF : Nat → Bool} (hG : ∀ f, PureC P U f (G f)) (ht : ops.toList.mapM (trO P C.N ops) = some aos) (h : arun P U EF G aos s (Q .normal)) : AW P C (.region id ops false) Q s := fun a w M ι hg =>
  wp_region_list (wpList_of_arun hG (K := Q .normal) (fun s' a' w' M' ι' h1 h2 => ⟨s', M', ι', h1, h2⟩) ops.toList aos ht s a w M ι hg h)
def dirR (ops : Array Oper) (i : Nat) : List Nat := match ops[i]? with
  | some o => (o.after.toList.filter fun e => Region.binds .any e).map (·.on)
  | none => []
def okReg (ops : Array Oper) (aos : List AO) (D : List (List Nat)) : Bool :=
  (List.range ops.size).all fun i => ((dirR ops i).all fun j => decide (j < i)) && ((D.getD i []).all fun j => decide (j < i) && (dirR ops i).any fun k => k == j || (decide (k < i) && (D.getD k []).contains j)) &&
    (List.range i).all fun j => (D.getD i []).contains j || (aos.getD i default).apart (aos.getD j default)
theorem mem_dirR {ops : Array Oper} {i : Nat} {o : Oper} (ho : ops[i]? = some o) {e : Edge} (he : e ∈ o.after) (hb : Region.binds .any e = true) : e.on ∈ dirR ops i := by
  unfold dirR
  rw [ho]
  exact List.mem_map.2 ⟨e, List.mem_filter.2 ⟨by simpa using he, hb⟩, rfl⟩
theorem okReg_spec {ops : Array Oper} {aos : List AO} {D : List (List Nat)} (h : okReg ops aos D = true) {i : Nat} (hi : i < ops.size) :
    (∀ j ∈ dirR ops i, j < i) ∧ (∀ j ∈ D.getD i [], j < i ∧ ∃ k ∈ dirR ops i, k = j ∨ (k < i ∧ j ∈ D.getD k [])) ∧ ∀ j, j < i → j ∈ D.getD i [] ∨ (aos.getD i default).apart (aos.getD j default) = true := by
  have h1 := List.all_eq_true.1 h i (List.mem_range.2 hi)
  simp only [Bool.and_eq_true, List.all_eq_true, decide_eq_true_eq] at h1
  obtain ⟨⟨a1, a2⟩, a3⟩ := h1
  refine ⟨a1, fun j hj => ?_, fun j hj => ?_⟩
  · obtain ⟨b1, b2⟩ := a2 j hj
    obtain ⟨k, k1, k2⟩ := List.any_eq_true.1 b2
    simp only [Bool.or_eq_true, beq_iff_eq, Bool.and_eq_true, decide_eq_true_eq, List.contains_iff_mem] at k2
    exact ⟨b1, k, k1, k2⟩
  · have := a3 j (List.mem_range.2 hj)
    simp only [Bool.or_eq_true, List.contains_iff_mem] at this
    exact this
/-- Those that an operation waits for have come up where its own edges have. -/
theorem waits_listed {ops : Array Oper} {aos : List AO} {D : List (List Nat)} (h : okReg ops aos D = true) {listed : Array Bool} (hsz : listed.size = ops.size) (hcl : ∀ k, k < ops.size → listed.getD k false = true → ∀ j ∈ dirR ops k, listed.getD j false = true) :
    ∀ (i : Nat), i < ops.size → (∀ j ∈ dirR ops i, listed.getD j false = true) → ∀ j ∈ D.getD i [], listed.getD j false = true := by
  intro i
  induction i using Nat.strongRecOn with
  | _ i ih =>
    intro hi hd j hj
    obtain ⟨_, b2, _⟩ := okReg_spec h hi
    obtain ⟨_, k, k1, k2⟩ := b2 j hj
    rcases k2 with rfl | ⟨k2, k3⟩
    · exact hd k k1
    · exact ih k k2 (by omega) (hcl k (by omega) (hd k k1)) j k3
theorem wpAny_of_arunD {ops : Array Oper} {aos : List AO} {D : List (List Nat)} {Q' : Exit → Act → World → Prop} {EF : Nat → Bool} (hG : ∀ f, PureC P U f (G f)) (hok : okReg ops aos D = true) (haos : ∀ (i : Nat) (o : Oper), ops[i]? = some o → ∃ ao, aos[i]? = some ao ∧ trO P C.N ops o = some ao)
    {K : St → Prop} (hK : ∀ s' a' w' M' ι', K s' → Good C s' a' w' M' ι' → Q' .normal a' w') : ∀ (n : Nat) (L : List (Nat × AO)) (listed : Array Bool) (past : List Fp) (s : St) (a : Act) (w : World) (M : Nat → Prop) (ι : Nat → Value), L.length = n → listed.size = ops.size →
    L.Pairwise (fun p q => p.1 < q.1) → (∀ p ∈ L, aos[p.1]? = some p.2) → (∀ i : Nat, i < ops.size → (listed.getD i true = false ↔ ∃ o, (i, o) ∈ L)) → (∀ p ∈ L, p.1 < ops.size) →
    (∀ k, k < ops.size → listed.getD k false = true → ∀ j ∈ dirR ops k, listed.getD j false = true) → Good C s a w M ι → arunD P U EF G D L past s K → wpAny P .any ops Q' n listed a w
  | 0, L, listed, past, s, a, w, M, ι, hn, hsz, hpw, hL, hun, hlt, hcl, hg, h => by
    obtain rfl := List.length_eq_zero_iff.1 hn
    refine ⟨?_, hK s a w M ι h hg⟩
    refine List.eq_nil_iff_forall_not_mem.2 fun j hj => ?_
    obtain ⟨h1, o, h2, _⟩ := mem_ready.1 hj
    obtain ⟨_, h3⟩ := (hun j (Array.getElem?_eq_some_iff.1 h2).1).1 h1
    cases h3
  | n + 1, L, listed, past, s, a, w, M, ι, hn, hsz, hpw, hL, hun, hlt, hcl, hg, h => by
    have td : ∀ {k : Nat}, k < ops.size → (listed.getD k true = false ∨ listed.getD k false = true) := fun {k} hk => by
      have : k < listed.size := by omega
      simp [Array.getD, this]
    refine ⟨fun hr => ?_, fun i hi => ?_⟩
    · exfalso
      cases L with
      | nil => cases hn
      | cons p L' =>
        obtain ⟨i0, o0⟩ := p
        have hi0 : i0 < ops.size := hlt (i0, o0) (List.mem_cons_self ..)
        have : i0 ∈ Region.ready .any ops listed := by
          refine mem_ready.2 ⟨(hun i0 hi0).2 ⟨o0, List.mem_cons_self ..⟩, ops[i0], Array.getElem?_eq_getElem hi0, fun e he hb => ?_⟩
          have hm := mem_dirR (Array.getElem?_eq_getElem hi0) he hb
          have hlt' := (okReg_spec hok hi0).1 _ hm
          rcases td (k := e.on) (by omega) with hu | hu
          · obtain ⟨o', ho'⟩ := (hun e.on (by omega)).1 hu
            rcases List.mem_cons.1 ho' with e1 | e1
            · injection e1 with e1; omega
            · have := (List.pairwise_cons.1 hpw).1 _ e1
              dsimp only at this
              omega
          · exact hu
        rw [hr] at this
        cases this
    · obtain ⟨h1, o', h2, h3⟩ := mem_ready.1 hi
      have hlti : i < ops.size := (Array.getElem?_eq_some_iff.1 h2).1
      obtain ⟨o, ho⟩ := (hun i hlti).1 h1
      obtain ⟨L1, L2, rfl⟩ := List.append_of_mem ho
      have hdir : ∀ j ∈ dirR ops i, listed.getD j false = true := by
        intro j hj
        unfold dirR at hj
        rw [h2] at hj
        obtain ⟨e, he, rfl⟩ := List.mem_map.1 hj
        obtain ⟨he1, he2⟩ := List.mem_filter.1 he
        exact h3 e (by simpa using he1) he2
      have hw := waits_listed hok hsz hcl i hlti hdir
      have hpw2 := List.pairwise_append.1 hpw
      have hfirst : ∀ q ∈ L1, q.1 ∉ D.getD i [] ∧ i ∉ D.getD q.1 [] ∧ o.apart q.2 = true := by
        intro q hq
        have hqlt : q.1 < i := hpw2.2.2 q hq (i, o) (List.mem_cons_self ..)
        have hqm : q ∈ L1 ++ (i, o) :: L2 := List.mem_append_left _ hq
        have hqs := hlt q hqm
        have hunq := (hun q.1 hqs).2 ⟨q.2, hqm⟩
        have n1 : q.1 ∉ D.getD i [] := fun hm => by
          have := hw _ hm
          have hs : q.1 < listed.size := by omega
          simp [Array.getD, hs] at hunq this
          rw [hunq] at this
          cases this
        refine ⟨n1, fun hm => ?_, ?_⟩
        · have := ((okReg_spec hok hqs).2.1 i hm).1
          omega
        · have := ((okReg_spec hok hlti).2.2 q.1 hqlt).resolve_left n1
          have e1 : aos.getD i default = o := by rw [List.getD_eq_getElem?_getD, hL (i, o) (List.mem_append_right _ (List.mem_cons_self ..))]; rfl
          have e2 : aos.getD q.1 default = q.2 := by rw [List.getD_eq_getElem?_getD, hL q hqm]; rfl
          rwa [e1, e2] at this
      have h4 := arunD_first hfirst h
      obtain ⟨ao, k1, k2⟩ := haos i o' h2
      have hao : ao = o := by
        have := hL (i, o) (List.mem_append_right _ (List.mem_cons_self ..))
        dsimp only at this
        rw [k1] at this
        exact Option.some.inj this
      subst hao
      unfold wpOp
      rw [h2]
      dsimp only
      have hrec : ∀ {past' : List Fp} {s' : St} {a' : Act} {w' : World} {M' : Nat → Prop} {ι' : Nat → Value}, Good C s' a' w' M' ι' → arunD P U EF G D (L1 ++ L2) past' s' K → wpAny P .any ops Q' n (listed.setIfInBounds i true) a' w' := by
        intro past' s' a' w' M' ι' hg' h3
        refine wpAny_of_arunD hG hok haos hK n (L1 ++ L2) (listed.setIfInBounds i true) _ _ a' w' M' ι' ?_ (by simpa using hsz) ?_ ?_ ?_ ?_ ?_ hg' h3
        · simp only [List.length_append, List.length_cons] at hn ⊢; omega
        · refine List.pairwise_append.2 ⟨hpw2.1, (List.pairwise_cons.1 hpw2.2.1).2, fun x hx y hy => hpw2.2.2 x hx y (List.mem_cons_of_mem _ hy)⟩
        · intro p hp
          refine hL p ?_
          simp only [List.mem_append, List.mem_cons] at hp ⊢
          exact hp.imp id .inr
        · intro k hk
          by_cases e : k = i
          · subst e
            have hs : k < listed.size := by omega
            constructor
            · intro hf; simp [Array.getD, hs] at hf
            · rintro ⟨o2, ho2⟩
              exfalso
              rcases List.mem_append.1 ho2 with hm | hm
              · have := hpw2.2.2 _ hm (k, ao) (List.mem_cons_self ..)
                dsimp only at this; omega
              · have := (List.pairwise_cons.1 hpw2.2.1).1 _ hm
                dsimp only at this; omega
          · rw [getD_set_ne true (Ne.symm e), hun k hk]
            constructor
            · rintro ⟨o2, ho2⟩
              refine ⟨o2, ?_⟩
              simp only [List.mem_append, List.mem_cons] at ho2 ⊢
              rcases ho2 with hm | hm | hm
              · exact .inl hm
              · injection hm with hm _; exact absurd hm e
              · exact .inr hm
            · rintro ⟨o2, ho2⟩
              refine ⟨o2, ?_⟩
              simp only [List.mem_append, List.mem_cons] at ho2 ⊢
              exact ho2.imp id .inr
        · intro p hp
          refine hlt p ?_
          simp only [List.mem_append, List.mem_cons] at hp ⊢
          exact hp.imp id .inr
        · intro k hk hlk j hj
          by_cases e : k = i
          · subst e; exact getD_set_true (hdir j hj)
          · rw [getD_set_ne false (Ne.symm e)] at hlk
            exact getD_set_true (hcl k hk hlk j hj)
      have hstep : if Region.wanted o' (yielded ops a.tmps) = true then o'.wp P a w (wpAny P .any ops Q' n (listed.setIfInBounds i true)) Q' else (wpAny P .any ops Q' n (listed.setIfInBounds i true)) (a.put o'.dst undef) w := by
        unfold arunD at h4
        split at h4
        · rename_i f us he
          exact step_estep k2 hg he h4.2 fun s' a' w' M' ι' h3 hg' => hrec hg' h3
        · exact step_sim (Q := Q') k2 hG hg h4.1 fun a' w' M' ι' hg' => hrec hg' h4.2.2
      split
      · rename_i hwt; rw [if_pos hwt] at hstep; exact .inl hstep
      · rename_i hwt; rw [if_neg hwt] at hstep; exact hstep
theorem mapM_idx {N : Nat} {ops0 : Array Oper} : ∀ {l : List Oper} {aos : List AO}, l.mapM (trO P N ops0) = some aos → aos.length = l.length ∧ ∀ (i : Nat) (o : Oper), l[i]? = some o → ∃ ao, aos[i]? = some ao ∧ trO P N ops0 o = some ao
  | [], aos, ht => by simp at ht; subst ht; exact ⟨rfl, fun i o hi => by simp at hi⟩
  | o :: l, aos, ht => by
    rw [List.mapM_cons] at ht
    cases h1 : trO P N ops0 o with
    | none => rw [h1] at ht; cases ht
    | some ao =>
      rw [h1] at ht
      cases h2 : l.mapM (trO P N ops0) with
      | none => rw [h2] at ht; cases ht
      | some aos' =>
        rw [h2] at ht
        have e : ao :: aos' = aos := Option.some.inj ht
        subst e
        obtain ⟨g1, g2⟩ := mapM_idx h2
        refine ⟨by simp [g1], fun i o' hi => ?_⟩
        cases i with
        | zero => simp only [List.getElem?_cons_zero, Option.some.injEq] at hi; subst hi; exact ⟨ao, rfl, h1⟩
        | succ i => rw [List.getElem?_cons_succ] at hi ⊢; exact g2 i o' hi
/-- The operations with their numbers. -/
def numb (k : Nat) : List AO → List (Nat × AO)
  | [] => []
  | o :: os => (k, o) :: numb (k + 1) os
theorem numb_spec : ∀ (aos : List AO) (k : Nat), (numb k aos).length = aos.length ∧ (∀ p : Nat × AO, p ∈ numb k aos → k ≤ p.1 ∧ aos[p.1 - k]? = some p.2) ∧ (numb k aos).Pairwise (fun p q => p.1 < q.1) ∧ ∀ i, i < aos.length → ∃ o, (k + i, o) ∈ numb k aos
  | [], k => ⟨rfl, (fun p hp => (by cases hp)), List.Pairwise.nil, fun i hi => absurd hi (Nat.not_lt_zero _)⟩
  | o :: os, k => by
    obtain ⟨h1, h2, h3, h4⟩ := numb_spec os (k + 1)
    refine ⟨by simp [numb, h1], fun p hp => ?_, List.pairwise_cons.2 ⟨fun q hq => ?_, h3⟩, fun i hi => ?_⟩
    · rcases List.mem_cons.1 hp with rfl | hp
      · exact ⟨Nat.le_refl _, by simp⟩
      · obtain ⟨a1, a2⟩ := h2 p hp
        refine ⟨by omega, ?_⟩
        rw [show p.1 - k = (p.1 - (k + 1)) + 1 by omega, List.getElem?_cons_succ]
        exact a2
    · have := (h2 q hq).1
      dsimp only
      omega
    · cases i with
      | zero => exact ⟨o, List.mem_cons_self ..⟩
      | succ i =>
        obtain ⟨o', ho'⟩ := h4 i (by simpa using hi)
        exact ⟨o', by rw [show k + (i + 1) = k + 1 + i by omega]; exact List.mem_cons_of_mem _ ho'⟩
theorem aw_regionD {id : Nat} {ops : Array Oper} {aos : List AO} {D : List (List Nat)} {EF : Nat → Bool} (hG : ∀ f, PureC P U f (G f)) (hm : P.follows .mixedOrders = true) (ht : ops.toList.mapM (trO P C.N ops) = some aos) (hok : okReg ops aos D = true) (h : arunB P U EF G D (numb 0 aos) [] s (Q .normal)) :
    AW P C (.region id ops true) Q s := fun a w M ι hg => by
  refine wp_region_any hm ?_
  obtain ⟨g1, g2⟩ := mapM_idx ht
  obtain ⟨n1, n2, n3, n4⟩ := numb_spec aos 0
  have hg' : Good C s a { w with drawn := w.drawn + 1 } M ι := by
    have hk : Rel M w ι s.h = Rel M w ι s.h := rfl
    refine ⟨⟨fun n ob hn => (hg.mem.obj n ob hn).keep (w' := { w with drawn := w.drawn + 1 }) (fun _ h => h) (fun _ _ => rfl) (Keeps.refl _ _) rfl (fun _ _ => rfl), hg.mem.dis, hg.mem.imm, hg.mem.lt, hg.mem.may, hg.mem.size, hg.mem.keep, hg.mem.os, hg.mem.tape, hg.mem.output, hg.mem.base, U.keep w { w with drawn := w.drawn + 1 } (fun _ _ => rfl) hg.mem.tb, hg.mem.tm, hg.mem.old, hg.mem.arr0, hg.mem.pin⟩,
      fun t => Rel.keep (w := w) (w' := { w with drawn := w.drawn + 1 }) (fun _ h => h) (fun _ _ => rfl) (Keeps.refl _ _) (hg.env t), hg.dfr, hg.num⟩
  have hlen : aos.length = ops.size := by simpa using g1
  have hrep : ∀ k, k < ops.size → (Array.replicate ops.size false).getD k true = false ∧ (Array.replicate ops.size false).getD k false = false := fun k hk => by simp [hk]
  refine wpAny_of_arunD hG hok (fun i o hi => g2 i o (by simpa using hi)) (K := Q .normal) (fun s' a' w' M' ι' h1 h2 => ⟨s', M', ι', h1, h2⟩) ops.size (numb 0 aos) _ [] s a _ M ι (n1.trans hlen) (by simp) n3
    (fun p hp => by have := (n2 p hp).2; simpa using this) (fun i hi => ⟨fun _ => by have := n4 i (by omega); rwa [Nat.zero_add] at this, fun _ => (hrep i hi).1⟩)
    (fun p hp => by have := (List.getElem?_eq_some_iff.1 (n2 p hp).2).1; omega) (fun k hk hlk => by rw [(hrep k hk).2] at hlk; cases hlk) hg' (arunD_of_B h)
end
end Go.Proofs.YtcongikpaonliaaDoor
