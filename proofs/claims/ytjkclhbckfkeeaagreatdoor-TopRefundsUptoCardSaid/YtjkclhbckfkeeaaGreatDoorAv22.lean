import Derived.Test.YtjkclhbckfkeeaaGreatDoorAv14
import Derived.Deep.LoopGhost
set_option linter.unusedSimpArgs false
set_option linter.unusedVariables false
set_option linter.deprecated false
namespace Go.Proofs.YtjkclhbckfkeeaaGreatDoor
open Go Go.RowKit
def AW (P : Program) {U : Tbl} (C : Ctx U) (c : Code) (Q : Exit -> St -> Prop) (s : St) : Prop :=
 ∀ a w M ι, Good C s a w M ι -> c.wp P (fun e a' w' => ∃ s' M' ι', Q e s' /\ Good C s' a' w' M' ι') a w
def Le (s s' : St) : Prop := ∀ (U : Tbl) (C : Ctx U) a w M ι, Good C s a w M ι -> ∃ M' ι', Good C s' a w M' ι'
def KP (K : St -> Prop) (Q : Exit -> St -> Prop) : Exit -> St -> Prop
 | .normal, s => K s
 | e, s => Q e s
def JP (id : Nat) (Q : Exit -> St -> Prop) : Exit -> St -> Prop
 | .exit id', s => if id' = id then Q .normal s else Q (.exit id') s
 | e, s => Q e s
section
variable {P : Program} {U : Tbl} {C : Ctx U} {Q : Exit -> St -> Prop} {s : St}
theorem AW.mono {c : Code} {Q' : Exit -> St -> Prop} (h : AW P C c Q s) (hq : ∀ e s, Q e s -> Q' e s) : AW P C c Q' s := fun a w M ι hg =>
 wp_mono (h a w M ι hg) fun e a' w' ⟨s', M', ι', h1, h2⟩ => ⟨s', M', ι', hq _ _ h1, h2⟩
theorem AW.le {c : Code} {s' : St} (hl : Le s s') (h : AW P C c Q s') : AW P C c Q s := fun a w M ι hg => let ⟨M', ι', hg'⟩ := hl U C a w M ι hg; h a w M' ι' hg'
theorem Ah (h : Q .normal s) : AW P C .skip Q s := fun _ _ M ι hg => wp_skip ⟨s, M, ι, h, hg⟩
theorem Be {id : Nat} (h : Q (.exit id) s) : AW P C (.exit id) Q s := fun _ _ M ι hg => wp_exit ⟨s, M, ι, h, hg⟩
theorem Ag (h : Q .ret s) : AW P C .ret Q s := fun _ _ M ι hg => wp_ret ⟨s, M, ι, h, hg⟩
theorem Ab {x y : Code} (h : AW P C x (KP (AW P C y Q) Q) s) : AW P C (.seq x y) Q s := fun a w M ι hg =>
 wp_seq (wp_mono (h a w M ι hg) fun e a' w' ⟨s', M', ι', h1, h2⟩ => by
  cases e with
  | normal => exact h1 a' w' M' ι' h2
  | exit id => exact ⟨s', M', ι', h1, h2⟩
  | goto l => exact ⟨s', M', ι', h1, h2⟩
  | ret => exact ⟨s', M', ι', h1, h2⟩
  | panic ch => exact ⟨s', M', ι', h1, h2⟩
  | outgrown => exact ⟨s', M', ι', h1, h2⟩)
theorem Dq {x y : Code} {α : Type} (I : α -> Prop) (st : α -> St) (h : ∀ K : St -> Prop, (∀ g s', I g -> Le s' (st g) -> K s') -> AW P C x (KP K Q) s) (h2 : ∀ g, I g -> AW P C y Q (st g)) : AW P C (.seq x y) Q s :=
 Ab ((h (fun s' => ∃ g, I g /\ Le s' (st g)) fun g s' h1 h2 => ⟨g, h1, h2⟩).mono fun e s' hq => by
  cases e with
  | normal =>
   obtain ⟨g, hg, hl⟩ := hq
   exact (h2 g hg).le hl
  | exit id => exact hq
  | goto l => exact hq
  | ret => exact hq
  | panic ch => exact hq
  | outgrown => exact hq)
theorem Ar {id : Nat} {c : Code} (h : AW P C c (JP id Q) s) : AW P C (.block id c) Q s := fun a w M ι hg =>
 wp_block (wp_mono (h a w M ι hg) fun e a' w' ⟨s', M', ι', h1, h2⟩ => by
  cases e with
  | exit id' =>
   simp only [Exit.inBlock]
   simp only [JP] at h1
   split
   ·rename_i he; rw [if_pos he] at h1; exact ⟨s', M', ι', h1, h2⟩
   rename_i he; rw [if_neg he] at h1; exact ⟨s', M', ι', h1, h2⟩
  | normal => exact ⟨s', M', ι', h1, h2⟩
  | goto l => exact ⟨s', M', ι', h1, h2⟩
  | ret => exact ⟨s', M', ι', h1, h2⟩
  | panic ch => exact ⟨s', M', ι', h1, h2⟩
  | outgrown => exact ⟨s', M', ι', h1, h2⟩)
theorem Ai {t : Nat} {x y : Code} {b : Bool} (hb : s.e t = .bool b) (h1 : b = true -> AW P C x Q s) (h2 : b = false -> AW P C y Q s) : AW P C (.cond (.tmp t) x y) Q s := fun a w M ι hg => by
 have hr := hg.env t
 rw [hb] at hr
 exact wp_cond_split (show a.eval (.tmp t) = .bool b from hr.bool_inv) (fun e => h1 e a w M ι hg) (fun e => h2 e a w M ι hg)
theorem Bj {c : Code} {α : Type} (I : α -> Prop) (st : α -> St) (μ : α -> Nat) (g0 : α) (h0 : I g0) (hl : Le s (st g0))
  (round : ∀ g, I g -> ∀ K : St -> Prop, (∀ g' s', I g' -> μ g' < μ g -> Le s' (st g') -> K s') -> AW P C c (KP K Q) (st g)) : AW P C (.loop c) Q s := fun a w M ι hg => by
 obtain ⟨M0, ι0, hg0⟩ := hl U C a w M ι hg
 refine wp_loop_ghost (fun n a w => ∃ g M ι, I g /\ μ g = n /\ Good C (st g) a w M ι) (μ g0) ⟨g0, M0, ι0, h0, rfl, hg0⟩ ?_
 rintro n a w ⟨g, M, ι, hi, rfl, hgd⟩
 refine wp_mono (round g hi (fun s' => ∃ g', I g' /\ μ g' < μ g /\ Le s' (st g')) (fun g' s' h1 h2 h3 => ⟨g', h1, h2, h3⟩) a w M ι hgd) fun e a' w' ⟨s', M', ι', h1, h2⟩ => ?_
 cases e with
 | normal =>
  obtain ⟨g', k1, k2, k3⟩ := h1
  obtain ⟨M'', ι'', h3⟩ := k3 U C a' w' M' ι' h2
  exact ⟨μ g', k2, g', M'', ι'', k1, rfl, h3⟩
 | exit id => exact ⟨s', M', ι', h1, h2⟩
 | goto l => exact ⟨s', M', ι', h1, h2⟩
 | ret => exact ⟨s', M', ι', h1, h2⟩
 | panic ch => exact ⟨s', M', ι', h1, h2⟩
 | outgrown => exact ⟨s', M', ι', h1, h2⟩
def Ev (P : Program) (U : Tbl) (EF : Nat -> Bool) (G : Tab) (D : List (List Nat)) : List (Nat × AO) -> List Fp -> St -> (St -> Prop) -> Prop
 | [], _, s, K => K s
 | (i, o) :: os, past, s, K => match Cf EF o s with
  | some (f, us) => (past.all fun f => (D.getD i []).contains f.i || f.indep (GT i)) = true /\ Dp P U o.d f us s fun s' => Ev P U EF G D os (GT i :: past) s' K
  | none => (o.res G s).φ /\ (past.all fun f => (D.getD i []).contains f.i || f.indep (o.fp i s)) = true /\ Ev P U EF G D os (o.fp i s :: past) (o.next G s) K
theorem Rv {P : Program} {U : Tbl} {EF : Nat -> Bool} {G : Tab} {D : List (List Nat)} : ∀ {L : List (Nat × AO)} {past : List Fp} {s : St} {K : St -> Prop}, Ev P U EF G D L past s K -> CP P U EF G D L past s K
 | [], _, _, _, h => h
 | (i, o) :: L, past, s, K, h => by
  unfold Ev at h
  unfold CP
  split
  ·rename_i f us he
   rw [he] at h
   exact ⟨fun f hf => by simpa only [Gd, GZ] using Ch.1 h.1 f hf, h.2.mono fun s' h3 => Rv h3⟩
  ·rename_i he
   rw [he] at h
   obtain ⟨h1, h2, h3⟩ := h
   exact ⟨h1, fun f hf => by
    have := Ch.1 h2 f hf
    simpa only [Gd, GZ] using this, Rv h3⟩
variable {G : Tab}
theorem UY {ops : Array Oper} {Q' : Exit -> Act -> World -> Prop} {EF : Nat -> Bool} (hG : ∀ f, Aj P U f (G f)) {K : St -> Prop} (hK : ∀ s' a' w' M' ι', K s' -> Good C s' a' w' M' ι' -> Q' .normal a' w') : ∀ (l : List Oper) (aos : List AO), l.mapM (trO P C.N ops) = some aos ->
  ∀ (s : St) (a : Act) (w : World) (M : Nat -> Prop) (ι : Nat -> Value), Good C s a w M ι -> BV P U EF G aos s K -> wpList P ops Q' l a w
 | [], aos, ht, s, a, w, M, ι, hg, h => by
  simp at ht
  subst ht
  exact wpList_nil (hK s a w M ι h hg)
 | o :: l, aos, ht, s, a, w, M, ι, hg, h => by
  rw [Ix] at ht
  cases h1 : trO P C.N ops o with
  | none => rw [h1] at ht; cases ht
  | some ao =>
   rw [h1] at ht
   cases h2 : l.mapM (trO P C.N ops) with
   | none => rw [h2] at ht; cases ht
   | some aos' =>
    rw [h2] at ht
    have e : ao :: aos' = aos := Ha ht
    subst e
    unfold BV at h
    refine wpList_step fun K2 hK2 => ?_
    split at h
    ·rename_i f us he
     exact Of h1 hg he h fun s' a' w' M' ι' h3 hg' => hK2 _ _ (UY hG hK l aos' h2 s' a' w' M' ι' hg' h3)
    ·obtain ⟨p1, p2⟩ := h
     exact Us h1 hG hg p1 fun a' w' M' ι' hg' => hK2 _ _ (UY hG hK l aos' h2 _ a' w' M' ι' hg' p2)
theorem WI {id : Nat} {ops : Array Oper} {aos : List AO} {EF : Nat -> Bool} (hG : ∀ f, Aj P U f (G f)) (ht : ops.toList.mapM (trO P C.N ops) = some aos) (h : BV P U EF G aos s (Q .normal)) : AW P C (.region id ops false) Q s := fun a w M ι hg =>
 wp_region_list (UY hG (K := Q .normal) (fun s' a' w' M' ι' h1 h2 => ⟨s', M', ι', h1, h2⟩) ops.toList aos ht s a w M ι hg h)
def Gk (ops : Array Oper) (i : Nat) : List Nat := match ops[i]? with
 | some o => (o.after.toList.filter fun e => Region.binds .any e).map (·.on)
 | none => []
def Ci (ops : Array Oper) (aos : List AO) (D : List (List Nat)) : Bool :=
 (List.range ops.size).all fun i => ((Gk ops i).all fun j => decide (j < i)) && ((D.getD i []).all fun j => decide (j < i) && (Gk ops i).any fun k => k == j || (decide (k < i) && (D.getD k []).contains j)) &&
  (List.range i).all fun j => (D.getD i []).contains j || (aos.getD i default).apart (aos.getD j default)
theorem Ahh {ops : Array Oper} {i : Nat} {o : Oper} (ho : ops[i]? = some o) {e : Edge} (he : e ∈ o.after) (hb : Region.binds .any e = true) : e.on ∈ Gk ops i := by
 unfold Gk
 rw [ho]
 exact Am.2 ⟨e, List.mem_filter.2 ⟨by simpa using he, hb⟩, rfl⟩
theorem PX {ops : Array Oper} {aos : List AO} {D : List (List Nat)} (h : Ci ops aos D = true) {i : Nat} (hi : i < ops.size) :
  (∀ j ∈ Gk ops i, j < i) /\ (∀ j ∈ D.getD i [], j < i /\ ∃ k ∈ Gk ops i, k = j \/ (k < i /\ j ∈ D.getD k [])) /\ ∀ j, j < i -> j ∈ D.getD i [] \/ (aos.getD i default).apart (aos.getD j default) = true := by
 have h1 := Ch.1 h i (LL.2 hi)
 simp only [Bx, Ch, decide_eq_true_eq] at h1
 obtain ⟨⟨a1, a2⟩, a3⟩ := h1
 refine ⟨a1, fun j hj => ?_, fun j hj => ?_⟩
 ·obtain ⟨b1, b2⟩ := a2 j hj
  obtain ⟨k, k1, k2⟩ := Iv.1 b2
  simp only [Gd, beq_iff_eq, Bx, decide_eq_true_eq, GZ] at k2
  exact ⟨b1, k, k1, k2⟩
 ·have := a3 j (LL.2 hj)
  simp only [Gd, GZ] at this
  exact this
theorem AnF {ops : Array Oper} {aos : List AO} {D : List (List Nat)} (h : Ci ops aos D = true) {listed : Array Bool} (hsz : listed.size = ops.size) (hcl : ∀ k, k < ops.size -> listed.getD k false = true -> ∀ j ∈ Gk ops k, listed.getD j false = true) :
  ∀ (i : Nat), i < ops.size -> (∀ j ∈ Gk ops i, listed.getD j false = true) -> ∀ j ∈ D.getD i [], listed.getD j false = true := by
 intro i
 induction i using Nat.strongRecOn with
 | _ i ih =>
  intro hi hd j hj
  obtain ⟨_, b2, _⟩ := PX h hi
  obtain ⟨_, k, k1, k2⟩ := b2 j hj
  rcases k2 with rfl | ⟨k2, k3⟩
  ·exact hd k k1
  ·exact ih k k2 (by omega) (hcl k (by omega) (hd k k1)) j k3
theorem Adq {ops : Array Oper} {aos : List AO} {D : List (List Nat)} {Q' : Exit -> Act -> World -> Prop} {EF : Nat -> Bool} (hG : ∀ f, Aj P U f (G f)) (hok : Ci ops aos D = true) (haos : ∀ (i : Nat) (o : Oper), ops[i]? = some o -> ∃ ao, aos[i]? = some ao /\ TrO P C.N ops o ao)
  {K : St -> Prop} (hK : ∀ s' a' w' M' ι', K s' -> Good C s' a' w' M' ι' -> Q' .normal a' w') : ∀ (n : Nat) (L : List (Nat × AO)) (listed : Array Bool) (past : List Fp) (s : St) (a : Act) (w : World) (M : Nat -> Prop) (ι : Nat -> Value), L.length = n -> listed.size = ops.size ->
  L.Pairwise (fun p q => p.1 < q.1) -> (∀ p ∈ L, aos[p.1]? = some p.2) -> (∀ i : Nat, i < ops.size -> (listed.getD i true = false ↔ ∃ o, (i, o) ∈ L)) -> (∀ p ∈ L, p.1 < ops.size) ->
  (∀ k, k < ops.size -> listed.getD k false = true -> ∀ j ∈ Gk ops k, listed.getD j false = true) -> Good C s a w M ι -> CP P U EF G D L past s K -> wpAny P .any ops Q' n listed a w
 | 0, L, listed, past, s, a, w, M, ι, hn, hsz, hpw, hL, hun, hlt, hcl, hg, h => by
  obtain rfl := Hy.1 hn
  refine ⟨?_, hK s a w M ι h hg⟩
  refine List.eq_nil_iff_forall_not_mem.2 fun j hj => ?_
  obtain ⟨h1, o, h2, _⟩ := mem_ready.1 hj
  obtain ⟨_, h3⟩ := (hun j (FX.1 h2).1).1 h1
  cases h3
 | n + 1, L, listed, past, s, a, w, M, ι, hn, hsz, hpw, hL, hun, hlt, hcl, hg, h => by
  have td : ∀ {k : Nat}, k < ops.size -> (listed.getD k true = false \/ listed.getD k false = true) := fun {k} hk => by
   have : k < listed.size := by omega
   simp [Array.getD, this]
  refine ⟨fun hr => ?_, fun i hi => ?_⟩
  ·exfalso
   cases L with
   | nil => cases hn
   | cons p L' =>
    obtain ⟨i0, o0⟩ := p
    have hi0 : i0 < ops.size := hlt (i0, o0) (AH ..)
    have : i0 ∈ Region.ready .any ops listed := by
     refine mem_ready.2 ⟨(hun i0 hi0).2 ⟨o0, AH ..⟩, ops[i0], Ji hi0, fun e he hb => ?_⟩
     have hm := Ahh (Ji hi0) he hb
     have hlt' := (PX hok hi0).1 _ hm
     rcases td (k := e.on) (by omega) with hu | hu
     ·obtain ⟨o', ho'⟩ := (hun e.on (by omega)).1 hu
      rcases AN.1 ho' with e1 | e1
      ·injection e1 with e1; omega
      ·have := (PL.1 hpw).1 _ e1
       dsimp only at this
       omega
     ·exact hu
    rw [hr] at this
    cases this
  ·obtain ⟨h1, o', h2, h3⟩ := mem_ready.1 hi
   have hlti : i < ops.size := (FX.1 h2).1
   obtain ⟨o, ho⟩ := (hun i hlti).1 h1
   obtain ⟨L1, L2, rfl⟩ := List.append_of_mem ho
   have hdir : ∀ j ∈ Gk ops i, listed.getD j false = true := by
    intro j hj
    unfold Gk at hj
    rw [h2] at hj
    obtain ⟨e, he, rfl⟩ := Am.1 hj
    obtain ⟨he1, he2⟩ := List.mem_filter.1 he
    exact h3 e (by simpa using he1) he2
   have hw := AnF hok hsz hcl i hlti hdir
   have hpw2 := List.pairwise_append.1 hpw
   have hfirst : ∀ q ∈ L1, q.1 ∉ D.getD i [] /\ i ∉ D.getD q.1 [] /\ o.apart q.2 = true := by
    intro q hq
    have hqlt : q.1 < i := hpw2.2.2 q hq (i, o) (AH ..)
    have hqm : q ∈ L1 ++ (i, o) :: L2 := KC _ hq
    have hqs := hlt q hqm
    have hunq := (hun q.1 hqs).2 ⟨q.2, hqm⟩
    have n1 : q.1 ∉ D.getD i [] := fun hm => by
     have := hw _ hm
     have hs : q.1 < listed.size := by omega
     simp [Array.getD, hs] at hunq this
     rw [hunq] at this
     cases this
    refine ⟨n1, fun hm => ?_, ?_⟩
    ·have := ((PX hok hqs).2.1 i hm).1
     omega
    ·have := ((PX hok hlti).2.2 q.1 hqlt).resolve_left n1
     have e1 : aos.getD i default = o := by rw [AS, hL (i, o) (Np _ (AH ..))]; rfl
     have e2 : aos.getD q.1 default = q.2 := by rw [AS, hL q hqm]; rfl
     rwa [e1, e2] at this
   have h4 := Ru hfirst h
   obtain ⟨ao, k1, k2⟩ := haos i o' h2
   have hao : ao = o := by
    have := hL (i, o) (Np _ (AH ..))
    dsimp only at this
    rw [k1] at this
    exact Ha this
   subst hao
   unfold wpOp
   rw [h2]
   dsimp only
   have hrec : ∀ {past' : List Fp} {s' : St} {a' : Act} {w' : World} {M' : Nat -> Prop} {ι' : Nat -> Value}, Good C s' a' w' M' ι' -> CP P U EF G D (L1 ++ L2) past' s' K -> wpAny P .any ops Q' n (listed.setIfInBounds i true) a' w' := by
    intro past' s' a' w' M' ι' hg' h3
    refine Adq hG hok haos hK n (L1 ++ L2) (listed.setIfInBounds i true) _ _ a' w' M' ι' ?_ (by simpa using hsz) ?_ ?_ ?_ ?_ ?_ hg' h3
    ·simp only [An, Aw] at hn ⊢; omega
    ·refine List.pairwise_append.2 ⟨hpw2.1, (PL.1 hpw2.2.1).2, fun x hx y hy => hpw2.2.2 x hx y (AU _ hy)⟩
    ·intro p hp
     refine hL p ?_
     simp only [BT, AN] at hp ⊢
     exact hp.imp id .inr
    ·intro k hk
     by_cases e : k = i
     ·subst e
      have hs : k < listed.size := by omega
      constructor
      ·intro hf; simp [Array.getD, hs] at hf
      ·rintro ⟨o2, ho2⟩
       exfalso
       rcases BT.1 ho2 with hm | hm
       ·have := hpw2.2.2 _ hm (k, ao) (AH ..)
        dsimp only at this; omega
       ·have := (PL.1 hpw2.2.1).1 _ hm
        dsimp only at this; omega
     ·rw [getD_set_ne true (Ne.symm e), hun k hk]
      constructor
      ·rintro ⟨o2, ho2⟩
       refine ⟨o2, ?_⟩
       simp only [BT, AN] at ho2 ⊢
       rcases ho2 with hm | hm | hm
       ·exact .inl hm
       ·injection hm with hm _; exact absurd hm e
       ·exact .inr hm
      ·rintro ⟨o2, ho2⟩
       refine ⟨o2, ?_⟩
       simp only [BT, AN] at ho2 ⊢
       exact ho2.imp id .inr
    ·intro p hp
     refine hlt p ?_
     simp only [BT, AN] at hp ⊢
     exact hp.imp id .inr
    ·intro k hk hlk j hj
     by_cases e : k = i
     ·subst e; exact getD_set_true (hdir j hj)
     ·rw [getD_set_ne false (Ne.symm e)] at hlk
      exact getD_set_true (hcl k hk hlk j hj)
   have hstep : if Region.wanted o' (yielded ops a.tmps) = true then o'.wp P a w (wpAny P .any ops Q' n (listed.setIfInBounds i true)) Q' else (wpAny P .any ops Q' n (listed.setIfInBounds i true)) (a.put o'.dst undef) w := by
    unfold CP at h4
    split at h4
    ·rename_i f us he
     exact AkW k2 hg he h4.2 fun s' a' w' M' ι' h3 hg' => hrec hg' h3
    ·exact AkY (Q := Q') k2 hG hg h4.1 fun a' w' M' ι' hg' => hrec hg' h4.2.2
   split
   ·rename_i hwt; rw [if_pos hwt] at hstep; exact .inl hstep
   ·rename_i hwt; rw [if_neg hwt] at hstep; exact hstep
theorem Tm {N : Nat} {ops0 : Array Oper} : ∀ {l : List Oper} {aos : List AO}, l.mapM (trO P N ops0) = some aos -> aos.length = l.length /\ ∀ (i : Nat) (o : Oper), l[i]? = some o -> ∃ ao, aos[i]? = some ao /\ trO P N ops0 o = some ao
 | [], aos, ht => by simp at ht; subst ht; exact ⟨rfl, fun i o hi => by simp at hi⟩
 | o :: l, aos, ht => by
  rw [Ix] at ht
  cases h1 : trO P N ops0 o with
  | none => rw [h1] at ht; cases ht
  | some ao =>
   rw [h1] at ht
   cases h2 : l.mapM (trO P N ops0) with
   | none => rw [h2] at ht; cases ht
   | some aos' =>
    rw [h2] at ht
    have e : ao :: aos' = aos := Ha ht
    subst e
    obtain ⟨g1, g2⟩ := Tm h2
    refine ⟨by simp [g1], fun i o' hi => ?_⟩
    cases i with
    | zero => simp only [Fa, BS] at hi; subst hi; exact ⟨ao, rfl, h1⟩
    | succ i => rw [DM] at hi ⊢; exact g2 i o' hi
def Ff (k : Nat) : List AO -> List (Nat × AO)
 | [] => []
 | o :: os => (k, o) :: Ff (k + 1) os
theorem Abd : ∀ (aos : List AO) (k : Nat), (Ff k aos).length = aos.length /\ (∀ p : Nat × AO, p ∈ Ff k aos -> k <= p.1 /\ aos[p.1 - k]? = some p.2) /\ (Ff k aos).Pairwise (fun p q => p.1 < q.1) /\ ∀ i, i < aos.length -> ∃ o, (k + i, o) ∈ Ff k aos
 | [], k => ⟨rfl, (fun p hp => (by cases hp)), List.Pairwise.nil, fun i hi => absurd hi (Ee _)⟩
 | o :: os, k => by
  obtain ⟨h1, h2, h3, h4⟩ := Abd os (k + 1)
  refine ⟨by simp [Ff, h1], fun p hp => ?_, PL.2 ⟨fun q hq => ?_, h3⟩, fun i hi => ?_⟩
  ·rcases AN.1 hp with rfl | hp
   ·exact ⟨AF _, by simp⟩
   ·obtain ⟨a1, a2⟩ := h2 p hp
    refine ⟨by omega, ?_⟩
    rw [show p.1 - k = (p.1 - (k + 1)) + 1 by omega, DM]
    exact a2
  ·have := (h2 q hq).1
   dsimp only
   omega
  ·cases i with
   | zero => exact ⟨o, AH ..⟩
   | succ i =>
    obtain ⟨o', ho'⟩ := h4 i (by simpa using hi)
    exact ⟨o', by rw [show k + (i + 1) = k + 1 + i by omega]; exact AU _ ho'⟩
theorem Aek {id : Nat} {ops : Array Oper} {aos : List AO} {D : List (List Nat)} {EF : Nat -> Bool} (hG : ∀ f, Aj P U f (G f)) (hm : P.follows .mixedOrders = true) (g1 : aos.length = ops.size) (g2 : ∀ (i : Nat) (o : Oper), ops[i]? = some o -> ∃ ao, aos[i]? = some ao /\ TrO P C.N ops o ao) (hok : Ci ops aos D = true) (h : Ev P U EF G D (Ff 0 aos) [] s (Q .normal)) :
  AW P C (.region id ops true) Q s := fun a w M ι hg => by
 refine wp_region_any hm ?_
 obtain ⟨n1, n2, n3, n4⟩ := Abd aos 0
 have hg' : Good C s a { w with drawn := w.drawn + 1 } M ι := by
  have hk : Rel M w ι s.h = Rel M w ι s.h := rfl
  refine ⟨⟨fun n ob hn => (hg.mem.obj n ob hn).keep (w' := { w with drawn := w.drawn + 1 }) (fun _ h => h) (fun _ _ => rfl) (Keeps.refl _ _) rfl (fun _ _ => rfl), hg.mem.dis, hg.mem.imm, hg.mem.lt, hg.mem.may, hg.mem.size, hg.mem.keep, hg.mem.os, hg.mem.tape, hg.mem.output, hg.mem.base, U.keep w { w with drawn := w.drawn + 1 } (fun _ _ => rfl) hg.mem.tb, hg.mem.tm, hg.mem.old, hg.mem.arr0, hg.mem.pin⟩,
   fun t => Rel.keep (w := w) (w' := { w with drawn := w.drawn + 1 }) (fun _ h => h) (fun _ _ => rfl) (Keeps.refl _ _) (hg.env t), hg.dfr, hg.num⟩
 have hlen : aos.length = ops.size := g1
 have hrep : ∀ k, k < ops.size -> (Array.replicate ops.size false).getD k true = false /\ (Array.replicate ops.size false).getD k false = false := fun k hk => by simp [hk]
 refine Adq hG hok g2 (K := Q .normal) (fun s' a' w' M' ι' h1 h2 => ⟨s', M', ι', h1, h2⟩) ops.size (Ff 0 aos) _ [] s a _ M ι (n1.trans hlen) (by simp) n3
  (fun p hp => by have := (n2 p hp).2; simpa using this) (fun i hi => ⟨fun _ => by have := n4 i (by omega); rwa [CI] at this, fun _ => (hrep i hi).1⟩)
  (fun p hp => by have := (BQ.1 (n2 p hp).2).1; omega) (fun k hk hlk => by rw [(hrep k hk).2] at hlk; cases hlk) hg' (Rv h)
theorem FG {id : Nat} {ops : Array Oper} {aos : List AO} {D : List (List Nat)} {EF : Nat -> Bool} (hG : ∀ f, Aj P U f (G f)) (hm : P.follows .mixedOrders = true) (ht : ops.toList.mapM (trO P C.N ops) = some aos) (hok : Ci ops aos D = true) (h : Ev P U EF G D (Ff 0 aos) [] s (Q .normal)) :
  AW P C (.region id ops true) Q s :=
 Aek hG hm (by simpa using (Tm ht).1) (fun i o hi => by obtain ⟨ao, h1, h2⟩ := (Tm ht).2 i o (by simpa using hi); exact ⟨ao, h1, ao, h2, .inl rfl⟩) hok h
end
inductive Wk (h : Nat -> Option Ob) (hl : List (Nat × Ob)) : V -> V -> Prop
 | any (v : V) : Wk h hl v .any
 | same (v : V) (hn : v.nin (hl.map (·.1)) = true) : Wk h hl v v
 | frz (n : Nat) (t : TypeId) (sz : Nat) (rows : List (List V)) (hn : h n = some (.arr t sz rows)) (h' : mkH hl n = none) (hp : ∀ r ∈ rows, V.purs r = true) : Wk h hl (.own n rows.length) (.list rows false)
 | frzv (n off len : Nat) (fit : Bool) (t : TypeId) (sz : Nat) (rows : List (List V)) (hn : h n = some (.arr t sz rows)) (h' : mkH hl n = none) (hp : ∀ r ∈ rows, V.purs r = true) : Wk h hl (.vw n off len rows.length fit) (.list ((rows.drop off).take len) fit)
 | nilo (m : Nat) (t : TypeId) (sz : Nat) (h' : mkH hl m = some (.arr t sz [])) (hn : h m = none) : Wk h hl .nils (.own m 0)
 | nill (fit : Bool) : Wk h hl .nils (.list [] fit)
 | frzb (n off : Nat) (t : TypeId) (cells : List V) (hn : h n = some (.box t cells)) (h' : mkH hl n = none) (hp : V.purs cells = true) : Wk h hl (.ptr n off) (.row cells off)
 | frzm (n : Nat) (es : List (Ky × V)) (hn : h n = some (.mp es)) (h' : mkH hl n = none) (hp : ∀ kv ∈ es, kv.2.pur = true) : Wk h hl (.map n) (.fmap es)
 | fnc (f : Nat) (as bs : List V) (hl2 : as.length = bs.length) (hw : ∀ (i : Nat) (u v : V), as[i]? = some u -> bs[i]? = some v -> Wk h hl u v) : Wk h hl (.fn f as) (.fn f bs)
def HS (h : Nat -> Option Ob) (hl : List (Nat × Ob)) : List V -> List V -> Prop
 | [], [] => True
 | a :: as, b :: bs => Wk h hl a b /\ HS h hl as bs
 | _, _ => False
def HT (h : Nat -> Option Ob) (hl : List (Nat × Ob)) : Option Ob -> Ob -> Prop
 | some (.box t c), .box t' c' => t' = t /\ HS h hl c c'
 | some (.arr t sz r), .arr t' sz' r' => t' = t /\ sz' = sz /\ r' = r /\ ((∀ x ∈ r, V.purs x = true) \/ ∀ x ∈ r, V.nins (hl.map (·.1)) x = true)
 | some (.mp es), .mp es' => es' = es /\ ((∀ kv ∈ es, kv.2.pur = true) \/ ∀ kv ∈ es, kv.2.nin (hl.map (·.1)) = true)
 | none, .arr _ _ r => r = []
 | _, _ => False
theorem HS.length {h : Nat -> Option Ob} {hl : List (Nat × Ob)} : ∀ {a b : List V}, HS h hl a b -> a.length = b.length
 | [], [], _ => rfl
 | _ :: _, _ :: _, h => by simp [HS.length h.2]
theorem HS.get {h : Nat -> Option Ob} {hl : List (Nat × Ob)} : ∀ {a b : List V}, HS h hl a b -> ∀ {i : Nat} {v : V}, b[i]? = some v -> ∃ u, a[i]? = some u /\ Wk h hl u v
 | [], [], _, i, v, hi => by simp at hi
 | x :: xs, y :: ys, hh, 0, v, hi => by
  simp only [Fa, BS] at hi
  subst hi
  exact ⟨x, rfl, hh.1⟩
 | x :: xs, y :: ys, hh, i + 1, v, hi => by
  rw [DM] at hi ⊢
  exact HS.get hh.2 hi
section
variable {U : Tbl} {C : Ctx U} {h : Nat -> Option Ob} {w : World} {M : Nat -> Prop} {ι : Nat -> Value}
theorem Mem.own_list (hm : Mem C h w M ι) {n : Nat} {t : TypeId} {sz : Nat} {rows : List (List V)} (hn : h n = some (.arr t sz rows)) (hp : ∀ r ∈ rows, V.purs r = true) {M' : Nat -> Prop} (hM : ∀ b, M b -> M' b) (hb : ∀ b, blk (ι n) = some b -> M' b) : Pur M' w (.list rows false) (ι n) := by
 obtain ⟨xs, hown, hrl, hx1, hxr⟩ := hm.obj n _ hn
 rcases hown.2 with ⟨e, h0⟩ | ⟨g, cap, cur, e, _, hh, hnc, _⟩
 ·have h00 : rows = [] := Hy.1 h0
  subst h00
  rw [e]
  exact .list [] false none 0 0 0 0 (fun _ _ => undef) (fun e => by cases e) (AF _) (fun _ => rfl) (.inl rfl) (fun r hr => by simp at hr) (fun i j hi _ => absurd hi (Ee _)) (fun i j r v hi => by simp at hi)
 ·rw [e]
  refine .list rows false (some ⟨g, 0, none⟩) cap sz g 0 (fun i j => xs.getD (i * sz + j) undef) (fun e => by cases e) hnc (fun e => by cases e) (.inr ⟨rfl, hb g (by rw [e]; rfl)⟩) hrl (fun i j hi hj => ?_) (fun i j r v hi hj => ?_)
  ·have hlt : i * sz + j < xs.length := by
    rw [hown.1]
    have : i * sz + sz <= rows.length * sz := by rw [<- EI]; exact CB _ hi
    omega
   have hx := En undef hlt
   refine ⟨?_, hx1 _ (Bk hx)⟩
   have := hown.cells (g := g) (by rw [e]; rfl) _ _ hx
   rwa [DW, <- Jh] at this
  ·exact ((hxr i j r v hi hj).toPur (Gx (hp r (Bk hi)) hj)).wide hM
def wkI (h : Nat -> Option Ob) (ι : Nat -> Value) : Nat -> Value := fun n => if (h n).isSome then ι n else .slice none 0 0
def wkM (h : Nat -> Option Ob) (hl : List (Nat × Ob)) (ι : Nat -> Value) (M : Nat -> Prop) : Nat -> Prop := fun b => M b \/ ∃ n o, h n = some o /\ mkH hl n = none /\ blk (ι n) = some b
theorem Rel.nin {hl : List (Nat × Ob)} (hob : ∀ q ∈ hl, HT h hl (h q.1) q.2) {M' : Nat -> Prop} (hM : ∀ b, M b -> M' b) {v : V} {cv : Value} (r : Rel M w ι h v cv) : v.nin (hl.map (·.1)) = true -> Rel M' w (wkI h ι) (mkH hl) v cv := by
 have look : ∀ {n : Nat} {o : Ob}, (hl.map (·.1)).contains n = true -> h n = some o -> wkI h ι n = ι n /\ ∃ o', mkH hl n = some o' /\ HT h hl (some o) o' := by
  intro n o hc hn
  have hd := NQ (GZ.1 hc)
  obtain ⟨o', ho'⟩ := Fv.1 hd
  have hq := hob _ (LY ho')
  dsimp only at hq
  rw [hn] at hq
  exact ⟨by unfold wkI; rw [hn]; rfl, o', ho', hq⟩
 induction r with
 | pur hp => exact fun _ => .pur (hp.wide hM)
 | agg vs cs hl' ho _ ih => exact fun hn => .agg vs cs hl' ho (fun i v hi => ih i v hi (HF (by simpa only [V.nin] using hn) hi))
 | tup vs cs hl' _ ih => exact fun hn => .tup vs cs hl' (fun i v hi => ih i v hi (HF (by simpa only [V.nin] using hn) hi))
 | fn n vs cs hl' _ ih => exact fun hn => .fn n vs cs hl' (fun i v hi => ih i v hi (HF (by simpa only [V.nin] using hn) hi))
 | when b v cv _ hf ih => exact fun hn => .when b v cv (fun e => ih e (by simpa only [V.nin] using hn)) hf
 | ptrb n off b t cells ho hb =>
  intro hn
  simp only [V.nin] at hn
  obtain ⟨e1, o', e2, e3⟩ := look hn ho
  cases o' with
  | box t' c' => obtain ⟨rfl, _⟩ := e3; exact .ptrb n off b _ c' e2 (e1.trans hb)
  | _ => exact e3.elim
 | eptr n len i off t sz rows cv ho hle hs hv =>
  intro hn
  simp only [V.nin] at hn
  obtain ⟨e1, o', e2, e3⟩ := look hn ho
  cases o' with
  | arr t' sz' r' =>
   obtain ⟨rfl, rfl, rfl, _⟩ := e3
   exact .eptr n len i off _ _ _ cv e2 hle hs (fun e => by rw [e1]; exact hv e)
  | _ => exact e3.elim
 | own n len t sz rows cv ho hle hv hs =>
  intro hn
  simp only [V.nin] at hn
  obtain ⟨e1, o', e2, e3⟩ := look hn ho
  cases o' with
  | arr t' sz' r' =>
   obtain ⟨rfl, rfl, rfl, _⟩ := e3
   exact .own n len _ _ _ cv e2 hle (fun e => by rw [e1]; exact hv e) hs
  | _ => exact e3.elim
 | iown tt n len t sz rows cv ho hle hv hs =>
  intro hn
  simp only [V.nin] at hn
  obtain ⟨e1, o', e2, e3⟩ := look hn ho
  cases o' with
  | arr t' sz' r' =>
   obtain ⟨rfl, rfl, rfl, _⟩ := e3
   exact .iown tt n len _ _ _ cv e2 hle (fun e => by rw [e1]; exact hv e) hs
  | _ => exact e3.elim
 | vw n off len m fit t sz rows cv ho hle hb hs hv =>
  intro hn
  simp only [V.nin] at hn
  obtain ⟨e1, o', e2, e3⟩ := look hn ho
  cases o' with
  | arr t' sz' r' =>
   obtain ⟨rfl, rfl, rfl, _⟩ := e3
   exact .vw n off len m fit _ _ _ cv e2 hle hb hs (fun e => by rw [e1]; exact hv e)
  | _ => exact e3.elim
 | map n es ho cv hv hs =>
  intro hn
  simp only [V.nin] at hn
  obtain ⟨e1, o', e2, e3⟩ := look hn ho
  cases o' with
  | mp es' => exact .map n es' e2 cv (hv.trans e1.symm) hs
  | _ => exact e3.elim
theorem Rel.wk {hl : List (Nat × Ob)} (hm : Mem C h w M ι) (hob : ∀ q ∈ hl, HT h hl (h q.1) q.2) {v v' : V} {cv : Value} (r : Rel M w ι h v cv) (hw : Wk h hl v v') : Rel (wkM h hl ι M) w (wkI h ι) (mkH hl) v' cv := by
 induction hw generalizing cv with
 | any => exact .pur (.any _)
 | fnc f as bs hl2 _ ih =>
  obtain ⟨cs, e, hcl, hcr⟩ := r.fn_inv
  rw [e]
  refine .fn f bs cs (by omega) (fun i v hi => ?_)
  have hia : i < as.length := by rw [hl2]; exact (BQ.1 hi).1
  exact ih i _ v (Bm hia) hi (hcr i _ (Bm hia))
 | frzb n off t cells hn h' hp =>
  obtain ⟨b, t2, cells2, hn2, hb, e⟩ := r.ptr_inv
  rw [hn] at hn2
  injection hn2 with hn2
  injection hn2 with e1 e2
  subst e1 e2
  obtain ⟨b2, cs, e3, hh, hl3, ho, hv⟩ := hm.obj n _ hn
  rw [hb] at e3
  injection e3 with e3; injection e3 with e3; injection e3 with e3
  subst e3
  rw [e, show (⟨b, off, none⟩ : Addr) = ⟨b, 0 + off, none⟩ by rw [CI]]
  refine .pur (.row cells off b 0 (fun j => cs.getD j undef) (.inr ⟨n, _, hn, h', by rw [hb]; rfl⟩) (fun j hj => ?_) (fun j v hj => ((hv j v hj).toPur (Gx hp hj)).wide (fun _ h => .inl h)))
  have hc := Nk (cs := cs) (k := j) (by omega)
  refine ⟨by rw [CI, cell_of_row w b j cs t (0, 0) hh, hc], ho _ ?_⟩
  rw [<- Cv] at hc
  exact Bk hc
 | same _ hn => exact r.nin hob (fun _ hb => .inl hb) hn
 | frz n t sz rows hn h' hp =>
  obtain ⟨t2, sz2, rows2, hn2, _, hv⟩ := r.own_inv
  rw [hn] at hn2
  injection hn2 with hn2
  injection hn2 with e1 e2 e3
  subst e1 e2 e3
  rw [hv rfl]
  exact .pur (hm.own_list hn hp (fun _ hb => .inl hb) (fun b hb => .inr ⟨n, _, hn, h', hb⟩))
 | frzv n off len fit t sz rows hn h' hp =>
  obtain ⟨t2, sz2, rows2, hn2, _, hb, hv⟩ := r.vw_inv
  rw [hn] at hn2
  injection hn2 with hn2
  injection hn2 with e1 e2 e3
  subst e1 e2 e3
  obtain ⟨g, cap0, ad, cap, e, hcv, hlc, hf, _, ha⟩ := hv rfl
  rw [hcv]
  exact .pur (hm.vw_list hn hp e hb hlc hf (fun h => ha (by omega)) (fun _ hb => .inl hb) (.inr ⟨n, _, hn, h', by rw [e]; rfl⟩))
 | frzm n es hn h' hp =>
  obtain ⟨es2, hn2, hcv⟩ := r.map_inv
  obtain ⟨b, ents, clock, e, hh, es0, hl', hv⟩ := hm.obj n _ hn
  rw [hcv, e]
  refine .pur (.fmap es es0 b ents clock (fun i => ents.getD i default) (.inr ⟨n, _, hn, h', by rw [e]; rfl⟩) hh hl' (fun i kv hi => ?_) (fun i kv hi => ?_))
  ·obtain ⟨en, h1, h2, _⟩ := hv i kv hi
   have : ents.getD i default = en := by rw [Iq, h1]; rfl
   rw [this]; exact ⟨h1, h2⟩
  ·obtain ⟨en, h1, _, h3⟩ := hv i kv hi
   have : ents.getD i default = en := by rw [Iq, h1]; rfl
   rw [this]
   exact (h3.toPur (hp kv (hl'.perm.mem_iff.1 (Bk hi)))).wide (fun _ hb => .inl hb)
 | nilo m t sz h' hn =>
  have e := r.nils_inv
  subst e
  exact .own m 0 t sz [] _ h' (AF _) (fun _ => by unfold wkI; rw [hn]; rfl) rfl
 | nill fit =>
  have e := r.nils_inv
  subst e
  exact .pur (.list [] fit none 0 0 0 0 (fun _ _ => undef) (fun _ => rfl) (AF _) (fun _ => rfl) (.inl rfl) (fun r hr => by simp at hr) (fun i j hi _ => absurd hi (Ee _)) (fun i j r v hi => by simp at hi))
theorem obR.wk {hl : List (Nat × Ob)} (hm : Mem C h w M ι) (hob : ∀ q ∈ hl, HT h hl (h q.1) q.2) {n : Nat} {o o' : Ob} (hn : h n = some o) (hw : HT h hl (some o) o') : obR (wkM h hl ι M) w (wkI h ι) (mkH hl) n o' := by
 have hr := hm.obj n o hn
 have hi : wkI h ι n = ι n := by unfold wkI; rw [hn]; rfl
 have pr : ∀ {v : V} {cv : Value}, Rel M w ι h v cv -> v.pur = true -> Rel (wkM h hl ι M) w (wkI h ι) (mkH hl) v cv := fun hv hp => .pur ((hv.toPur hp).wide (fun _ hb => .inl hb))
 cases o with
 | box t c =>
  cases o' with
  | box t' c' =>
   obtain ⟨rfl, h2⟩ := hw
   obtain ⟨b, cs, e, hh, hl', ho, hv⟩ := hr
   refine ⟨b, cs, hi.trans e, hh, by rw [<- h2.length]; exact hl', ho, fun i v hi' => ?_⟩
   obtain ⟨u, hu, hwk⟩ := h2.get hi'
   exact (hv i u hu).wk hm hob hwk
  | _ => exact hw.elim
 | arr t sz r =>
  cases o' with
  | arr t' sz' r' =>
   obtain ⟨rfl, rfl, rfl, hp⟩ := hw
   obtain ⟨xs, hown, hrl, hx1, hv⟩ := hr
   refine ⟨xs, by rw [hi]; exact hown, hrl, hx1, fun i j r v h1 h2 => ?_⟩
   rcases hp with hp | hp
   ·exact pr (hv i j r v h1 h2) (Gx (hp r (Bk h1)) h2)
   ·exact (hv i j r v h1 h2).wk hm hob (.same v (HF (hp r (Bk h1)) h2))
  | _ => exact hw.elim
 | mp es =>
  cases o' with
  | mp es' =>
   obtain ⟨rfl, hp⟩ := hw
   obtain ⟨b, ents, clock, e, hh, es0, hl', hv⟩ := hr
   refine ⟨b, ents, clock, hi.trans e, hh, es0, hl', fun i kv hi' => ?_⟩
   obtain ⟨en, h1, h2, h3⟩ := hv i kv hi'
   have hkv := hl'.perm.mem_iff.1 (Bk hi')
   rcases hp with hp | hp
   ·exact ⟨en, h1, h2, pr h3 (hp kv hkv)⟩
   ·exact ⟨en, h1, h2, h3.wk hm hob (.same _ (hp kv hkv))⟩
  | _ => exact hw.elim
theorem Le.mk {s : St} (l : List (Nat × V)) (hl : List (Nat × Ob)) (henv : ∀ p ∈ l, Wk s.h hl (s.e p.1) p.2) (hob : ∀ q ∈ hl, HT s.h hl (s.h q.1) q.2) (hnew0 : (hl.all fun q => q.1 < 1000 || (s.h q.1).isSome) = true) : Le s ⟨mkE l, mkH hl⟩ := by
 intro U C a w M ι hg
 have hm := hg.mem
 have hnew : ∀ n, s.h n = none -> (mkH hl n).isSome = true -> n < 1000 := fun n h1 h2 => by
  obtain ⟨o, ho⟩ := Fv.1 h2
  have := Ch.1 hnew0 _ (LY ho)
  simpa [h1] using this
 have old : ∀ {n : Nat} {o' : Ob}, mkH hl n = some o' -> (∃ o, s.h n = some o /\ HT s.h hl (some o) o' /\ wkI s.h ι n = ι n) \/ (s.h n = none /\ (∃ t sz, o' = .arr t sz []) /\ wkI s.h ι n = .slice none 0 0) := by
  intro n o' ho'
  have hq := hob _ (LY ho')
  dsimp only at hq
  cases hn : s.h n with
  | some o => rw [hn] at hq; exact .inl ⟨o, rfl, hq, by unfold wkI; rw [hn]; rfl⟩
  | none =>
   rw [hn] at hq
   cases o' with
   | arr t sz r => have e : r = [] := hq; subst e; exact .inr ⟨rfl, ⟨t, sz, rfl⟩, by unfold wkI; rw [hn]; rfl⟩
   | _ => exact hq.elim
 have blkold : ∀ {n b : Nat}, (mkH hl n).isSome = true -> blk (wkI s.h ι n) = some b -> (s.h n).isSome = true /\ blk (ι n) = some b := by
  intro n b hs hb
  obtain ⟨o', ho'⟩ := Fv.1 hs
  rcases old ho' with ⟨o, h1, _, h3⟩ | ⟨_, _, h3⟩
  ·rw [h3] at hb; exact ⟨by rw [h1]; rfl, hb⟩
  ·rw [h3] at hb; cases hb
 refine ⟨wkM s.h hl ι M, wkI s.h ι, ⟨fun n o' ho' => ?_, fun n m b h1 h2 e1 e2 => ?_, fun n b hs hb => ?_, fun b hb => ?_, fun n b hs hb => ?_, hm.size, hm.keep, hm.os, hm.tape, hm.output, fun b hb => .inl (hm.base b hb), hm.tb, fun b hb => .inl (hm.tm b hb), fun b hb hM => ?_, fun n t sz r0 t' sz' rows hn h0 ho => ?_, fun n hn => ?_⟩, fun t => ?_, hg.dfr, hg.num⟩
 ·rcases old ho' with ⟨o, h1, h2, _⟩ | ⟨h1, ⟨t, sz, rfl⟩, h3⟩
  ·exact obR.wk hm hob h1 h2
  ·exact ⟨[], by rw [h3]; exact World.ownsRow_nil w 0 t sz, fun r hr => by simp at hr, fun x hx => by simp at hx, fun i j r v hi => by simp at hi⟩
 ·obtain ⟨a1, a2⟩ := blkold h1 e1
  obtain ⟨b1, b2⟩ := blkold h2 e2
  exact hm.dis n m b a1 b1 a2 b2
 ·obtain ⟨a1, a2⟩ := blkold hs hb
  rintro (hM | ⟨m, o2, c1, c2, c3⟩)
  ·exact hm.imm n b a1 a2 hM
  ·have := hm.dis n m b a1 (by rw [c1]; rfl) a2 c3
   subst this
   replace hs : (mkH hl n).isSome = true := hs
   rw [c2] at hs
   cases hs
 ·rcases hb with hb | ⟨m, o2, c1, c2, c3⟩
  ·exact hm.lt b hb
  ·exact hm.blt m b (by rw [c1]; rfl) c3
 ·obtain ⟨a1, a2⟩ := blkold hs hb
  exact hm.may n b a1 a2
 ·rcases hM with hM | ⟨m, o2, c1, c2, c3⟩
  ·exact hm.old b hb hM
  ·exact .inr ((hm.may m b (by rw [c1]; rfl) c3).resolve_right (by omega))
 ·rcases old ho with ⟨o, h1, h2, h3⟩ | ⟨h1, ⟨t2, sz2, e2⟩, _⟩
  ·rw [h3]
   cases o with
   | arr t2 sz2 r2 =>
    obtain ⟨_, _, rfl, _⟩ := h2
    exact hm.arr0 n t sz r0 _ _ _ hn h0 h1
   | _ => exact h2.elim
  ·replace ho : mkH hl n = some _ := ho
   exact absurd (hnew n h1 (by rw [ho]; rfl)) (by omega)
 ·refine ⟨fun t c hc => ?_, fun es hc => ?_⟩
  ·rcases old hc with ⟨o, h1, h2, h3⟩ | ⟨_, ⟨_, _, e⟩, _⟩
   ·rw [h3]
    cases o with
    | box t' c' => exact (hm.pin n hn).1 _ _ h1
    | _ => exact h2.elim
   ·cases e
  ·rcases old hc with ⟨o, h1, h2, h3⟩ | ⟨_, ⟨_, _, e⟩, _⟩
   ·rw [h3]
    cases o with
    | mp es' => exact (hm.pin n hn).2 _ h1
    | _ => exact h2.elim
   ·cases e
 ·rcases AaX (l := l) (t := t) with e | e
  ·show Rel _ _ _ _ (mkE l t) _
   rw [e]
   exact .pur (.any _)
  ·exact (hg.env t).wk hm hob (henv _ e)
end
def FF (vs : List V) (t : Nat) : V := vs.getD t .any
inductive AR where
 | t (n : Nat)
 | c (sz : Option Nat) (a : Nat)
def trR (P : Program) : ResultVar -> Option AR
 | .tmp t => some (.t t)
 | .cell a ty => match BM P ty, szT P ty with
  | some ag, some k => some (.c (if ag then some k else none) a)
  | _, _ => none
def AR.res (s : St) : AR -> Res
 | .t n => .pure True (s.e n)
 | .c sz a => GK s.h sz (s.e a)
def KI (tmps : Array Value) : ResultVar -> Sem Value
 | .tmp t => pure (tmps.getD t undef)
 | .cell p t => do loadVar t (<- asAddr (tmps.getD p undef))
theorem Ai8 (fn : Func) (tmps : Array Value) : results fn tmps = (do let vs <- fn.results.mapM (KI tmps); pure (if h : vs.size = 1 then vs[0] else .tuple vs)) := rfl
def CV (rs : List AR) (s : St) : V :=
 match rs with
 | [r] => (r.res s).v
 | rs => .tup (rs.map fun r => (r.res s).v)
def Fg (rs : List AR) (s : St) : Prop := ∀ r ∈ rs, (r.res s).φ
section
variable {P : Program} {U : Tbl} {C : Ctx U} {h : Nat -> Option Ob} {w : World} {M : Nat -> Prop} {ι : Nat -> Value}
theorem AfG {t : TypeId} {k : Nat} {ag : Bool} (hag : BM P t = some ag) (hs : szT P t = some k) (hm : Mem C h w M ι) {x : V} {cv : Value} (hx : Rel M w ι h x cv) (hφ : (GK h (if ag then some k else none) x).φ) :
  ∃ ad v, cv = .pointer (some ad) /\ (loadVar t ad).run P w = .ok v w /\ Rel M w ι h (GK h (if ag then some k else none) x).v v := by
 let o : Oper := { (default : Oper) with op := .load t (.const cv) }
 have fin : ∀ (g p : Nat) (vs : List V), cv = .pointer (some ⟨g, p, none⟩) -> Hh M w ι h g p vs ->
   (ag = false -> 0 < vs.length -> ∃ ad v, cv = .pointer (some ad) /\ (loadVar t ad).run P w = .ok v w /\ Rel M w ι h (vs.getD 0 .any) v) /\ (ag = true -> k <= vs.length -> ∃ ad v, cv = .pointer (some ad) /\ (loadVar t ad).run P w = .ok v w /\ Rel M w ι h (.agg (vs.take k)) v) := by
  intro g p vs e hc
  refine ⟨fun e1 hl => ?_, fun e1 hl => ?_⟩
  ·subst e1
   obtain ⟨f, hf⟩ := hc
   obtain ⟨c1, _, c3⟩ := hf 0 _ (En .any hl)
   rw [Fe] at c1
   exact ⟨_, f 0, e, Ab5 hag c1, c3⟩
  ·subst e1
   obtain ⟨cs, h1, h2⟩ := Ab4 hag hs hc hl
   exact ⟨_, .agg cs, e, h1, h2⟩
 have get0 : ∀ (vs : List V) (off : Nat), (vs.drop off).getD 0 .any = vs.getD off .any := fun vs off => by simp [AS]
 unfold GK at hφ ⊢
 cases x with
 | ptr n off =>
  dsimp only at hφ ⊢
  obtain ⟨b, t', cells, hn, hb, e⟩ := hx.ptr_inv
  rw [hn] at hφ ⊢
  obtain ⟨b', cs, e', _, _, hc⟩ := hm.box_cells hn
  rw [hb] at e'
  injection e' with e'; injection e' with e'; injection e' with e'
  subst e'
  have hc2 := hc.drop off
  rw [CI] at hc2
  obtain ⟨f1, f2⟩ := fin _ _ _ e hc2
  cases ag
  ·have := f1 rfl (by rw [BW]; exact LE hφ)
   rw [get0] at this
   exact this
  ·exact f2 rfl (by rw [BW]; replace hφ : off + k <= cells.length := hφ; omega)
 | eptr n len i off =>
  dsimp only at hφ ⊢
  obtain ⟨t', sz, rows, hn, _, _, hv⟩ := hx.eptr_inv
  rw [hn] at hφ ⊢
  cases ag
  ·obtain ⟨e1, e2, e3⟩ := hφ
   obtain ⟨g, cap, hg, e⟩ := hv e1
   have := (fin _ _ _ e ((hm.arr_cells hn hg (En [] e2)).drop off)).1 rfl (by rw [BW]; exact LE e3)
   rw [get0] at this
   exact this
  ·obtain ⟨e1, e2, e3⟩ := hφ
   obtain ⟨g, cap, hg, e⟩ := hv e1
   exact (fin _ _ _ e ((hm.arr_cells hn hg (En [] e2)).drop off)).2 rfl (by rw [BW]; omega)
 | row vs off =>
  dsimp only at hφ ⊢
  obtain ⟨g, p, e, _, hc, _⟩ := hx.row_inv
  obtain ⟨f1, f2⟩ := fin _ _ _ e (hc.drop off)
  cases ag
  ·have := f1 rfl (by rw [BW]; exact LE hφ)
   rw [get0] at this
   exact this
  ·exact f2 rfl (by rw [BW]; replace hφ : off + k <= vs.length := hφ; omega)
 | _ => exact hφ.elim
theorem Ab6 {fn : Func} {rs : List AR} (hr : fn.results.toList.mapM (trR P) = some rs) {s : St} {a : Act} (hg : Good C s a w M ι) (hφ : Fg rs s) : ∃ cv, (results fn a.tmps).run P w = .ok cv w /\ Rel M w ι s.h (CV rs s) cv := by
 have key : ∀ (l : List ResultVar) (rs : List AR), l.mapM (trR P) = some rs -> Fg rs s -> ∃ cvs : List Value, (l.mapM (m := Sem) (KI a.tmps)).run P w = .ok cvs w /\ cvs.length = rs.length /\ ∀ (i : Nat) (v : V), (rs.map fun r => (r.res s).v)[i]? = some v -> Rel M w ι s.h v (cvs.getD i undef) := by
  intro l
  induction l with
  | nil => intro rs h1 h2; simp at h1; subst h1; exact ⟨[], rfl, rfl, fun i v hi => by simp at hi⟩
  | cons r l ih =>
   intro rs h1 h2
   rw [Ix] at h1
   cases h3 : trR P r with
   | none => rw [h3] at h1; cases h1
   | some ar =>
    rw [h3] at h1
    cases h4 : l.mapM (trR P) with
    | none => rw [h4] at h1; cases h1
    | some ars =>
     rw [h4] at h1
     have e : ar :: ars = rs := Ha h1
     subst e
     obtain ⟨cvs, i1, i2, i3⟩ := ih ars h4 (fun q hq => h2 q (AU _ hq))
     have one : ∃ cv, (KI a.tmps r).run P w = .ok cv w /\ Rel M w ι s.h (ar.res s).v cv := by
      cases r with
      | tmp t => simp only [trR, BS] at h3; subst h3; exact ⟨_, rfl, hg.env t⟩
      | cell p t =>
       simp only [trR] at h3
       split at h3
       ·rename_i ag k g1 g2
        injection h3 with h3
        subst h3
        have hp := h2 _ (AH ..)
        obtain ⟨ad, v, e1, e2, e3⟩ := AfG g1 g2 hg.mem (hg.env p) hp
        exact ⟨v, by simp only [KI, e1, asAddr, AA, Bb, AK, e2], e3⟩
       ·cases h3
     obtain ⟨cv, o1, o2⟩ := one
     refine ⟨cv :: cvs, ?_, by simp [i2], fun i v hi => ?_⟩
     ·rw [Ix, AA, o1]
      simp only [AK, AA, i1, Bb]
     ·cases i with
      | zero => simp only [BE, Fa, BS] at hi; subst hi; exact o2
      | succ i => rw [BE, DM] at hi; exact i3 i v hi
 obtain ⟨cvs, k1, k2, k3⟩ := key _ _ hr hφ
 have hA : (fn.results.mapM (m := Sem) (KI a.tmps)).run P w = .ok cvs.toArray w := by
  generalize fn.results = fr at k1
  obtain ⟨fl⟩ := fr
  have e2 : ((⟨fl⟩ : Array ResultVar).mapM (m := Sem) (KI a.tmps)) = List.toArray <$> (fl.mapM (m := Sem) (KI a.tmps)) := by simp
  rw [e2, Sem.run_map, k1]
  rfl
 rw [Ai8, AA, hA]
 simp only [AK, Bb]
 match rs, cvs, k2, k3 with
 | [r], [cv], _, k3 => exact ⟨cv, rfl, k3 0 _ rfl⟩
 | [], [], _, k3 => exact ⟨.tuple #[], rfl, .tup [] #[] rfl (fun i v hi => by simp at hi)⟩
 | r :: r2 :: rs, cv :: cv2 :: cvs, k2, k3 => exact ⟨.tuple (cv :: cv2 :: cvs).toArray, by rw [dif_neg (by simp)], .tup _ _ (by simpa using k2.symm) (fun i v hi => by have := k3 i v hi; simpa using this)⟩
theorem Aj.of_aw {U : Tbl} {f : Nat} {fn : Func} {c : Code} {rs : List AR} {g : List V -> Prop × V} (hf : P.funcs[f]? = some fn) (hb : fn.body = some c) (hname : (fn.name == "runtime.NumGoroutine") = false) (hr : fn.results.toList.mapM (trR P) = some rs)
  (hw : ∀ vs, (g vs).1 -> vs.length <= fn.ntmps /\ ∀ C : Ctx U, C.N = fn.ntmps -> AW P C c (fun e s' => (e = .ret \/ e = .normal) /\ Fg rs s' /\ CV rs s' = (g vs).2 /\ (CV rs s').pur = true) ⟨FF vs, fun _ => none⟩) : Aj P U f g := by
 intro vs M w cargs hg
 refine ⟨⟨fn, hf, by rw [hb]; rfl, hname⟩, fun hB hT hsz hlt hargs => ?_⟩
 obtain ⟨hn, haw⟩ := hw vs hg
 let C : Ctx U := ⟨w, fun _ => False, fn.ntmps, M, fun _ => undef, fun _ => none⟩
 refine calls_of_wp hf hb ?_
 have hgood : Good C ⟨FF vs, fun _ => none⟩ { tmps := cargs ++ Array.replicate (fn.ntmps - cargs.size) undef, defers := [] } w M (fun _ => undef) := by
  refine ⟨⟨fun n o ho => (by cases ho), fun n m b hs => (by cases hs), fun n b hs => (by cases hs), hlt, fun n b hs => (by cases hs), AF _, fun _ _ _ => rfl, rfl, rfl, rfl, fun _ hb => hb, hB, hT, fun _ _ hb => .inl hb, fun n t sz r0 t' sz' rows _ h0 => (by cases h0), fun n _ => ⟨fun t c hc => (by cases hc), fun es hc => (by cases hc)⟩⟩, fun t => ?_, rfl, ?_⟩
  ·show Rel M w _ _ (vs.getD t .any) _
   by_cases ht : t < vs.length
   ·have h1 := hargs t _ (En .any ht)
    have e : (cargs ++ Array.replicate (fn.ntmps - cargs.size) undef).getD t undef = cargs.getD t undef := by
     simp only [Iq]
     rw [Array.getElem?_append_left (by omega)]
    rw [e]
    exact .pur h1
   ·rw [AS, List.getElem?_eq_none (by omega)]
    exact .pur (.any _)
  ·show (cargs ++ Array.replicate (fn.ntmps - cargs.size) undef).size = fn.ntmps
   simp only [NA, Array.size_replicate]
   omega
 refine wp_mono (haw C rfl _ _ _ _ hgood) ?_
 rintro e a' w' ⟨s', M', ι', ⟨he, hφ, hv, hp⟩, hg'⟩
 obtain ⟨cv, r1, r2⟩ := Ab6 hr hg' hφ
 have hfin : ∃ (cv : Value) (M' : Nat -> Prop), Ending.returned cv = .returned cv /\ True := ⟨cv, M', rfl, trivial⟩
 have hpost : ∃ (cv' : Value) (M' : Nat -> Prop), Ending.returned cv = .returned cv' /\ Pur M' w' (g vs).2 cv' /\ (∀ b, M b -> M' b) /\ (∀ b, M' b -> b < w'.heap.size) /\ (∀ b, b < w.heap.size -> M' b -> M b) /\ Below w.heap.size w w' :=
  ⟨cv, M', rfl, by rw [<- hv]; exact r2.toPur hp, hg'.mem.base, hg'.mem.lt, fun b h1 h2 => (hg'.mem.old b h1 h2).resolve_right (fun h => h), ⟨hg'.mem.os, hg'.mem.tape, hg'.mem.output, hg'.mem.size, fun k hk => hg'.mem.keep k hk (fun h => h)⟩⟩
 rcases he with rfl | rfl
 ·exact ⟨hg'.dfr, cv, r1, hpost⟩
 ·exact ⟨hg'.dfr, cv, r1, hpost⟩
end
theorem Aeu (b : Bool) : (b == true) = b := by cases b <;> rfl
theorem Aet (b : Bool) : (b == false) = !b := by cases b <;> rfl
theorem Aeq (a b : Bool) : (bif a then b else false) = (a && b) := by cases a <;> rfl
theorem Aer (a b : Bool) : (bif a then true else b) = (a || b) := by cases a <;> rfl
theorem Afw {p : Prop} : (False -> p) = True := propext ⟨fun _ => trivial, fun _ h => h.elim⟩
theorem AnR {h : Nat -> Option Ob} {hl : List (Nat × Ob)} {v : V} : Wk h hl v .any ↔ True := ⟨fun _ => trivial, fun _ => .any v⟩
theorem AnS {h : Nat -> Option Ob} {hl : List (Nat × Ob)} (a b : Bool) : Wk h hl (.bool a) (.bool b) ↔ a = b := ⟨fun w => by cases w; rfl, by rintro rfl; exact .same _ (by simp only [V.nin])⟩
theorem AnW {h : Nat -> Option Ob} {hl : List (Nat × Ob)} (k : IntKind) (a b : Int) : Wk h hl (.int k a) (.int k b) ↔ a = b := ⟨fun w => by cases w; rfl, by rintro rfl; exact .same _ (by simp only [V.nin])⟩
theorem An8 {h : Nat -> Option Ob} {hl : List (Nat × Ob)} (a b : List UInt8) : Wk h hl (.str a) (.str b) ↔ a = b := ⟨fun w => by cases w; rfl, by rintro rfl; exact .same _ (by simp only [V.nin])⟩
theorem AnY {h : Nat -> Option Ob} {hl : List (Nat × Ob)} (a b : List (List V)) (f g : Bool) : Wk h hl (.list a f) (.list b g) ↔ a = b /\ f = g := ⟨fun w => by cases w; exact ⟨rfl, rfl⟩, by rintro ⟨rfl, rfl⟩; exact .same _ (by simp only [V.nin])⟩
theorem An7 {h : Nat -> Option Ob} {hl : List (Nat × Ob)} (a b : List V) (f g : Nat) : Wk h hl (.row a f) (.row b g) ↔ a = b /\ f = g := ⟨fun w => by cases w; exact ⟨rfl, rfl⟩, by rintro ⟨rfl, rfl⟩; exact .same _ (by simp only [V.nin])⟩
theorem An3 {h : Nat -> Option Ob} {hl : List (Nat × Ob)} : Wk h hl .nils .nils ↔ True := ⟨fun _ => trivial, fun _ => .same _ (by simp only [V.nin])⟩
theorem An2 {h : Nat -> Option Ob} {hl : List (Nat × Ob)} : Wk h hl .nilp .nilp ↔ True := ⟨fun _ => trivial, fun _ => .same _ (by simp only [V.nin])⟩
theorem An1 {h : Nat -> Option Ob} {hl : List (Nat × Ob)} : Wk h hl .nilm .nilm ↔ True := ⟨fun _ => trivial, fun _ => .same _ (by simp only [V.nin])⟩
theorem Ado {h : Nat -> Option Ob} {hl : List (Nat × Ob)} {n : Nat} {es : List (Ky × V)} (hn : h n = some (.mp es)) (h' : mkH hl n = none) (hp : ∀ kv ∈ es, kv.2.pur = true) : Wk h hl (.map n) (.fmap es) := .frzm n es hn h' hp
theorem AnU {h : Nat -> Option Ob} {hl : List (Nat × Ob)} (a b : List (Ky × V)) : Wk h hl (.fmap a) (.fmap b) ↔ a = b := ⟨fun w => by cases w; rfl, by rintro rfl; exact .same _ (by simp only [V.nin])⟩
theorem An5 {h : Nat -> Option Ob} {hl : List (Nat × Ob)} (a b : Value) : Wk h hl (.pin a) (.pin b) ↔ a = b := ⟨fun w => by cases w; rfl, by rintro rfl; exact .same _ (by simp only [V.nin])⟩
theorem An6 {h : Nat -> Option Ob} {hl : List (Nat × Ob)} (n m a b : Nat) : Wk h hl (.ptr n a) (.ptr m b) ↔ n = m /\ a = b /\ (hl.map (·.1)).contains n = true :=
 ⟨fun w => by cases w with | same _ hn => exact ⟨rfl, rfl, by simpa only [V.nin] using hn⟩, by rintro ⟨rfl, rfl, hc⟩; exact .same _ (by simpa only [V.nin] using hc)⟩
theorem AnT {h : Nat -> Option Ob} {hl : List (Nat × Ob)} (n m a b c d e f : Nat) : Wk h hl (.eptr n a c e) (.eptr m b d f) ↔ n = m /\ a = b /\ c = d /\ e = f /\ (hl.map (·.1)).contains n = true :=
 ⟨fun w => by cases w with | same _ hn => exact ⟨rfl, rfl, rfl, rfl, by simpa only [V.nin] using hn⟩, by rintro ⟨rfl, rfl, rfl, rfl, hc⟩; exact .same _ (by simpa only [V.nin] using hc)⟩
theorem An4 {h : Nat -> Option Ob} {hl : List (Nat × Ob)} (n m a b : Nat) : Wk h hl (.own n a) (.own m b) ↔ n = m /\ a = b /\ (hl.map (·.1)).contains n = true :=
 ⟨fun w => by cases w with | same _ hn => exact ⟨rfl, rfl, by simpa only [V.nin] using hn⟩, by rintro ⟨rfl, rfl, hc⟩; exact .same _ (by simpa only [V.nin] using hc)⟩
theorem AnX {h : Nat -> Option Ob} {hl : List (Nat × Ob)} (t u : TypeId) (n m a b : Nat) : Wk h hl (.iown t n a) (.iown u m b) ↔ t = u /\ n = m /\ a = b /\ (hl.map (·.1)).contains n = true :=
 ⟨fun w => by cases w with | same _ hn => exact ⟨rfl, rfl, rfl, by simpa only [V.nin] using hn⟩, by rintro ⟨rfl, rfl, rfl, hc⟩; exact .same _ (by simpa only [V.nin] using hc)⟩
theorem AnZ {h : Nat -> Option Ob} {hl : List (Nat × Ob)} (n m : Nat) : Wk h hl (.map n) (.map m) ↔ n = m /\ (hl.map (·.1)).contains n = true :=
 ⟨fun w => by cases w with | same _ hn => exact ⟨rfl, by simpa only [V.nin] using hn⟩, by rintro ⟨rfl, hc⟩; exact .same _ (by simpa only [V.nin] using hc)⟩
theorem AnQ {h : Nat -> Option Ob} {hl : List (Nat × Ob)} (a b : List V) : Wk h hl (.agg a) (.agg b) ↔ a = b /\ V.nins (hl.map (·.1)) a = true :=
 ⟨fun w => by cases w with | same _ hn => exact ⟨rfl, by simpa only [V.nin] using hn⟩, by rintro ⟨rfl, hc⟩; exact .same _ (by simpa only [V.nin] using hc)⟩
theorem An9 {h : Nat -> Option Ob} {hl : List (Nat × Ob)} (a b : List V) : Wk h hl (.tup a) (.tup b) ↔ a = b /\ V.nins (hl.map (·.1)) a = true :=
 ⟨fun w => by cases w with | same _ hn => exact ⟨rfl, by simpa only [V.nin] using hn⟩, by rintro ⟨rfl, hc⟩; exact .same _ (by simpa only [V.nin] using hc)⟩
theorem Adm {h : Nat -> Option Ob} {hl : List (Nat × Ob)} {n : Nat} {a : List V} (hn : V.nins (hl.map (·.1)) a = true) : Wk h hl (.fn n a) (.fn n a) := .same _ (by simpa only [V.nin] using hn)
theorem Adn {h : Nat -> Option Ob} {hl : List (Nat × Ob)} {n off : Nat} {cells : List V} {t : TypeId} (hn : h n = some (.box t cells)) (h' : mkH hl n = none) (hp : V.purs cells = true) : Wk h hl (.ptr n off) (.row cells off) := .frzb n off t cells hn h' hp
theorem DA {h : Nat -> Option Ob} {hl : List (Nat × Ob)} {n len : Nat} {rows : List (List V)} {t : TypeId} {sz : Nat} (hn : h n = some (.arr t sz rows)) (hl' : rows.length = len) (h' : mkH hl n = none) (hp : ∀ r ∈ rows, V.purs r = true) : Wk h hl (.own n len) (.list rows false) := by
 subst hl'; exact .frz n t sz rows hn h' hp
theorem AeA (k : Nat) : ((k + 1 : Nat) : Int) = (k : Int) + 1 := by omega
theorem AgK (l : List UInt8) : (Ky.s l).kd = 0 := rfl
theorem AgI (n : Int) : (Ky.i n).kd = 1 := rfl
theorem AgL (a b : List UInt8) : (Ky.ss a b).kd = 2 := rfl
theorem AgJ (a : List UInt8) (n m : Int) (b : List UInt8) : (Ky.lg a n m b).kd = 3 := rfl
theorem Air (x p q : Bool) : Cs (.bool x) (.bool p) (.bool q) = Res.pure True (.bool (bif x then p else q)) := by simp [Cs, V.strip, V.cnd]
theorem Ais (x h p q : Bool) : Cs (.bool x) (.when h (.bool p)) (.bool q) = Res.pure (x = true -> h = true) (.bool (bif x then p else q)) := by simp [Cs, V.strip, V.cnd]
theorem Ait (x p h q : Bool) : Cs (.bool x) (.bool p) (.when h (.bool q)) = Res.pure (x = false -> h = true) (.bool (bif x then p else q)) := by simp [Cs, V.strip, V.cnd]
theorem Aiu (x h p k q : Bool) : Cs (.bool x) (.when h (.bool p)) (.when k (.bool q)) = Res.pure ((x = true -> h = true) /\ (x = false -> k = true)) (.bool (bif x then p else q)) := by simp [Cs, V.strip, V.cnd]
theorem Aiv (a : V) (q : Bool) : Cs (.bool false) a (.bool q) = Res.pure True (.bool q) := by
 cases a with
 | when b v => cases v <;> simp [Cs, V.strip, V.cnd, Res.pure]
 | _ => simp [Cs, V.strip, V.cnd, Res.pure]
theorem Aix (b : V) (p : Bool) : Cs (.bool true) (.bool p) b = Res.pure True (.bool p) := by
 cases b with
 | when b v => cases v <;> simp [Cs, V.strip, V.cnd, Res.pure]
 | _ => simp [Cs, V.strip, V.cnd, Res.pure]
theorem Aiw (a : V) (k q : Bool) : Cs (.bool false) a (.when k (.bool q)) = Res.pure (k = true) (.bool q) := by
 cases a with
 | when b v => cases v <;> simp [Cs, V.strip, V.cnd, Res.pure]
 | _ => simp [Cs, V.strip, V.cnd, Res.pure]
theorem Aiy (b : V) (k p : Bool) : Cs (.bool true) (.when k (.bool p)) b = Res.pure (k = true) (.bool p) := by
 cases b with
 | when b v => cases v <;> simp [Cs, V.strip, V.cnd, Res.pure]
 | _ => simp [Cs, V.strip, V.cnd, Res.pure]
theorem Aiz (g x : Bool) (a b : V) : Cs (.when g (.bool x)) a b = Res.pure (g = true /\ (Cs (.bool x) a b).φ) (Cs (.bool x) a b).v := by
 simp only [Cs, V.strip, V.cnd]
 split <;> simp_all [Res.pure, Res.no]
attribute [go_sem] Air Ais Ait Aiu Aiv Aix Aiw Aiy Aiz
attribute [go_sem] eq_self AnR An5 AnU AnS AnW An8 AnY An7 An3 An2 An1 An6 AnT An4 AnX AnZ AnQ An9 Int.ofNat_eq_coe Int.cast_ofNat_Int HT HS AeA List.length_map Int.toNat_natCast
attribute [go_sem] cond_true cond_false OW OX Hq V.nn1 List.isEmpty_cons List.isEmpty_nil BV Ev Ff Cf If GV GT Fp.free Cm hov rn rni Ob.ren BF true_or or_true Ob.nin Ob.kind V.ren V.rens AO.res AO.next AO.fp AO.rd AO.wr At rdF wrF gE Tc Jc AOp.args AE.ev V.strip V.cnd V.shaped V.one V.cells V.nm V.isOwn V.leaf V.leaf1 V.pur V.purs V.nin V.nins Fl Dr upd BI Ck mkE mkH FF
 Lg OV OP Mb OS Pc OZ OR JT JS Pe JX EK GK JZ JU IV OY JV HJ PZ MJ IW MK OT Lz AgL AgJ AgK AgI KD ML JY JW Pa Pb El Hr Pd OU Er Jm Option.toList_some Option.toList_none AE.slots List.replicate_zero putAt Ng Res.pure Res.no Fp.indep JO KP JP Fd LI
 List.getD_cons_zero LU List.getD_nil Aw Ax Hb LA LT HA List.drop_nil List.take_nil Ef DN Br BE HC
 List.all_cons List.all_nil List.any_cons List.any_nil List.forall_mem_cons Dh Ku NF PQ Bool.false_and Bool.or_true Bool.true_or NG Bool.false_or beq_self_eq_true Aeu Aet Aeq Aer true_and and_true forall_const implies_true true_implies bne_self_eq_false CI
 Afw Ny List.flatMap_nil Nat.lt_add_one Bool.not_true Bool.not_false imp_self and_self ne_eq not_false_eq_true not_true_eq_false or_false false_or or_true true_or List.contains_cons List.contains_nil
theorem Aj.of_awQ {P : Program} {U : Tbl} {f : Nat} {fn : Func} {c : Code} {rs : List AR} {g : List V -> Prop × V} (hf : P.funcs[f]? = some fn) (hb : fn.body = some c) (hname : (fn.name == "runtime.NumGoroutine") = false) (hr : fn.results.toList.mapM (trR P) = some rs)
  (hw : ∀ vs, (g vs).1 -> vs.length <= fn.ntmps /\ ∀ (C : Ctx U), C.N = fn.ntmps -> ∀ Q : Exit -> St -> Prop, (∀ e s', e = .ret \/ e = .normal -> Fg rs s' -> CV rs s' = (g vs).2 -> (CV rs s').pur = true -> Q e s') -> AW P C c Q ⟨FF vs, fun _ => none⟩) : Aj P U f g :=
 Aj.of_aw hf hb hname hr fun vs hv => let ⟨h1, h2⟩ := hw vs hv; ⟨h1, fun C hC => h2 C hC _ fun _ _ a b c d => ⟨a, b, c, d⟩⟩
section
variable {P : Program} {U : Tbl}
theorem Mem.ctx {C C' : Ctx U} {h : Nat -> Option Ob} {w : World} {M : Nat -> Prop} {ι : Nat -> Value} (hm : Mem C h w M ι) (e1 : C'.w0 = C.w0) (e2 : C'.X = C.X) (e3 : C'.M0 = C.M0) (e4 : C'.ι0 = C.ι0) (e5 : C'.h0 = C.h0) : Mem C' h w M ι := by
 obtain ⟨w0, X, N, M0, ι0, h0⟩ := C
 obtain ⟨w0', X', N', M0', ι0', h0'⟩ := C'
 dsimp only at e1 e2 e3 e4 e5
 subst e1 e2 e3 e4 e5
 exact ⟨hm.obj, hm.dis, hm.imm, hm.lt, hm.may, hm.size, hm.keep, hm.os, hm.tape, hm.output, hm.base, hm.tb, hm.tm, hm.old, hm.arr0, hm.pin⟩
theorem Eff.of_aw {f : Nat} {fn : Func} {c : Code} {rs : List AR} {vs : List V} {hl hl' : List (Nat × Ob)} {v : V} (hf : P.funcs[f]? = some fn) (hb : fn.body = some c) (hname : (fn.name == "runtime.NumGoroutine") = false) (hr : fn.results.toList.mapM (trR P) = some rs) (hn : vs.length <= fn.ntmps)
  (haw : ∀ C : Ctx U, C.N = fn.ntmps -> ∀ Q : Exit -> St -> Prop, (∀ e s' s'', e = .ret \/ e = .normal -> Le s' s'' -> s''.h = mkH hl' -> Fg rs s'' -> CV rs s'' = v -> Q e s') -> AW P C c Q ⟨FF vs, mkH hl⟩) : Eff P U f vs hl v hl' := by
 refine .inl ⟨⟨fn, hf, by rw [hb]; rfl, hname⟩, fun w M ι cargs hm hsz hargs => ?_⟩
 let C : Ctx U := ⟨w, fun b => ∃ n, (mkH hl n).isSome = true /\ blk (ι n) = some b, fn.ntmps, M, ι, mkH hl⟩
 refine calls_of_wp hf hb ?_
 have hgood : Good C ⟨FF vs, mkH hl⟩ { tmps := cargs ++ Array.replicate (fn.ntmps - cargs.size) undef, defers := [] } w M ι := by
  refine ⟨Mem.ctx hm rfl rfl rfl rfl rfl, fun t => ?_, rfl, ?_⟩
  ·show Rel M w _ _ (vs.getD t .any) _
   by_cases ht : t < vs.length
   ·have h1 := hargs t _ (En .any ht)
    have e : (cargs ++ Array.replicate (fn.ntmps - cargs.size) undef).getD t undef = cargs.getD t undef := by
     simp only [Iq]
     rw [Array.getElem?_append_left (by omega)]
    rw [e]
    exact h1
   ·rw [AS, List.getElem?_eq_none (by omega)]
    exact .pur (.any _)
  ·show (cargs ++ Array.replicate (fn.ntmps - cargs.size) undef).size = fn.ntmps
   simp only [NA, Array.size_replicate]
   omega
 refine wp_mono (haw C rfl (fun e s' => (e = .ret \/ e = .normal) /\ ∃ s'', Le s' s'' /\ s''.h = mkH hl' /\ Fg rs s'' /\ CV rs s'' = v) (fun e s' s'' h1 h2 h3 h4 h5 => ⟨h1, s'', h2, h3, h4, h5⟩) _ _ _ _ hgood) ?_
 rintro e a' w' ⟨s', M', ι', ⟨he, s'', h2, h3, h4, h5⟩, hg'⟩
 obtain ⟨M2, ι2, hg2⟩ := h2 U C a' w' M' ι' hg'
 obtain ⟨cv, r1, r2⟩ := Ab6 hr hg2 h4
 have hm2 := hg2.mem
 rw [h3] at hm2 r2
 rw [h5] at r2
 have hpost : ∃ (cv' : Value) (M' : Nat -> Prop) (ι' : Nat -> Value), Ending.returned cv = .returned cv' /\ Rel M' w' ι' (mkH hl') v cv' /\ Mem (U := U) ⟨w, fun b => ∃ n, (mkH hl n).isSome = true /\ blk (ι n) = some b, 0, M, ι, mkH hl⟩ (mkH hl') w' M' ι' :=
  ⟨cv, M2, ι2, rfl, r2, Mem.ctx hm2 rfl rfl rfl rfl rfl⟩
 rcases he with rfl | rfl
 ·exact ⟨hg2.dfr, cv, r1, hpost⟩
 ·exact ⟨hg2.dfr, cv, r1, hpost⟩
end
section
variable {P : Program} {U : Tbl}
theorem Aj.leaf {f : Nat} {fn : Func} {c : Code} {g : List V -> Prop × V} (hf : P.funcs[f]? = some fn) (hb : fn.body = some c) (hname : (fn.name == "runtime.NumGoroutine") = false)
  (h : ∀ (vs : List V) (M : Nat -> Prop) (w : World) (cargs : Array Value), (g vs).1 -> U.B w -> cargs.size = vs.length -> (∀ (i : Nat) (v : V), vs[i]? = some v -> Pur M w v (cargs.getD i undef)) ->
   Calls P f cargs w fun e w' => ∃ cv, e = .returned cv /\ (∀ M' : Nat -> Prop, Pur M' w' (g vs).2 cv) /\ Below w.heap.size w w') : Aj P U f g := by
 intro vs M w cargs hg
 refine ⟨⟨fn, hf, by rw [hb]; rfl, hname⟩, fun hB _ hsz hlt hargs => ?_⟩
 refine (h vs M w cargs hg hB hsz hargs).mono ?_
 rintro e w' ⟨cv, he, hp, hb⟩
 exact ⟨cv, M, he, hp M, fun _ h => h, fun b h => Is (hlt b h) hb.size, fun _ _ h => h, hb⟩
theorem Aj.sub {f : Nat} {g g' : List V -> Prop × V} (h : Aj P U f g) (hs : ∀ vs, (g' vs).1 -> (g vs).1 /\ (g vs).2 = (g' vs).2) : Aj P U f g' := by
 intro vs M w cargs hg
 obtain ⟨h1, h2⟩ := hs vs hg
 have := h vs M w cargs h1
 rw [h2] at this
 exact this
end
theorem Aei {cargs : Array Value} (h : cargs.size = 1) : cargs = #[cargs.getD 0 undef] := by
 obtain ⟨l⟩ := cargs
 match l, h with
 | [x], _ => rfl
theorem Aej {cargs : Array Value} (h : cargs.size = 2) : cargs = #[cargs.getD 0 undef, cargs.getD 1 undef] := by
 obtain ⟨l⟩ := cargs
 match l, h with
 | [x, y], _ => rfl
theorem Pur.int_inv {M : Nat -> Prop} {w : World} {k : IntKind} {n : Int} {cv : Value} (h : Pur M w (.int k n) cv) : cv = .int k n := by cases h; rfl
theorem pw1 : (2 : Int) ^ (1 : Nat) = 2 := rfl
theorem AiP : (2 : Int) ^ (32 : Nat) = 4294967296 := rfl
attribute [go_sem] pw1 AiP
theorem Kq {n : Int} : inK .u64 n ↔ 0 <= n /\ n <= 18446744073709551615 := by
 have : inK .u64 n = (n % 18446744073709551616 = n) := by simp [inK, IntKind.wrap, IntKind.bits, IntKind.signed]
 rw [this]; omega
theorem AaA {n : Int} : inK .i64 n ↔ inI n := by
 simp only [inK, inI, IntKind.wrap, IntKind.bits, IntKind.signed]
 simp
 omega
def EF0 : Nat -> Bool := fun _ => false
theorem Agx (b : Bool) : (b = false -> (!b) = true) = True := propext ⟨fun _ => trivial, fun _ h => by rw [h]; rfl⟩
theorem Agw (b : Bool) : ((!b) = true -> b = false) = True := propext ⟨fun _ => trivial, fun _ h => by cases b <;> simp_all⟩
theorem AnV {h : Nat -> Option Ob} {hl : List (Nat × Ob)} (n : Nat) : Wk h hl (.fn n []) (.fn n []) ↔ True := ⟨fun _ => trivial, fun _ => .same _ (by simp only [V.nin, V.nins])⟩
theorem An0 {h : Nat -> Option Ob} {hl : List (Nat × Ob)} (f : Bool) : Wk h hl .nils (.list [] f) ↔ True := ⟨fun _ => trivial, fun _ => .nill f⟩
attribute [go_sem] OQ Px Bw eqV CL An0 EF0 Bool.false_eq_true if_false Agx Agw AnV Int.ofNat_lt Int.ofNat_le Int.natCast_nonneg decide_true decide_false
theorem GF {P : Program} {U : Tbl} {C : Ctx U} {Q : Exit -> St -> Prop} {s : St} {t : Nat} {x y : Code} (hb : s.e t = .bool true) (h : AW P C x Q s) : AW P C (.cond (.tmp t) x y) Q s := Ai hb (fun _ => h) (fun e => by cases e)
theorem DC {P : Program} {U : Tbl} {C : Ctx U} {Q : Exit -> St -> Prop} {s : St} {t : Nat} {x y : Code} (hb : s.e t = .bool false) (h : AW P C y Q s) : AW P C (.cond (.tmp t) x y) Q s := Ai hb (fun e => by cases e) (fun _ => h)
noncomputable def gOf {α : Type} (args : α -> List V) (F : α -> Prop × V) (vs : List V) : Prop × V := open Classical in if h : ∃ a, args a = vs then F h.choose else (False, .any)
theorem Al {α : Type} {args : α -> List V} {F : α -> Prop × V} (inj : ∀ a b, args a = args b -> a = b) (a : α) : gOf args F (args a) = F a := by
 unfold gOf
 have h : ∃ b, args b = args a := ⟨a, rfl⟩
 rw [dif_pos h, inj _ _ h.choose_spec]
theorem Aj.ofArgs {α : Type} {args : α -> List V} {F : α -> Prop × V} {P : Program} {U : Tbl} {f : Nat} {fn : Func} {c : Code} {rs : List AR} (inj : ∀ a b, args a = args b -> a = b) (hf : P.funcs[f]? = some fn) (hb : fn.body = some c) (hname : (fn.name == "runtime.NumGoroutine") = false) (hr : fn.results.toList.mapM (trR P) = some rs)
  (hw : ∀ a, (F a).1 -> (args a).length <= fn.ntmps /\ ∀ (C : Ctx U), C.N = fn.ntmps -> ∀ Q : Exit -> St -> Prop, (∀ e s', e = .ret \/ e = .normal -> Fg rs s' -> CV rs s' = (F a).2 -> (CV rs s').pur = true -> Q e s') -> AW P C c Q ⟨FF (args a), fun _ => none⟩) : Aj P U f (gOf args F) :=
 Aj.of_awQ hf hb hname hr fun vs hv => by
  by_cases h : ∃ a, args a = vs
  ·obtain ⟨a, rfl⟩ := h
   rw [Al inj] at hv ⊢
   exact hw a hv
  ·exfalso
   unfold gOf at hv
   rw [dif_neg h] at hv
   exact hv
theorem Cl {α β : Type} {f : α -> β} (h : ∀ a b, f a = f b -> a = b) : ∀ {l r : List α}, l.map f = r.map f -> l = r
 | [], [], _ => rfl
 | [], _ :: _, e => by cases e
 | _ :: _, [], e => by cases e
 | a :: l, b :: r, e => by
  rw [BE, BE] at e
  injection e with e1 e2
  rw [h _ _ e1, Cl h e2]
abbrev gNo : List V -> Prop × V := fun _ => (False, .any)
theorem Aj.no {P : Program} {U : Tbl} {f : Nat} : Aj P U f gNo := fun _ _ _ _ h => h.elim
theorem Ahv (k : Ky) (v : V) : BK [] k v = [(k, v)] := rfl
theorem Aa0 (k' : Ky) (v' : V) (es : List (Ky × V)) (k : Ky) (v : V) : BK ((k', v') :: es) k v = if k' = k then (k, v) :: es else (k', v') :: BK es k v := by
 unfold BK
 rw [Nv]
 by_cases h : k' = k
 ·simp [h]
 ·simp only [h, decide_false, Bl, if_false]
  cases List.findIdx? (fun p => decide (p.1 = k)) es with
  | none => rfl
  | some j => rfl
theorem LX (k' : Ky) (v' : V) (es : List (Ky × V)) (k : Ky) (z : V) : CM ((k', v') :: es) k z = if k' = k then v' else CM es k z := by
 unfold CM
 rw [List.find?_cons]
 by_cases h : k' = k <;> simp [h]
theorem Ahk (es : List (Ky × V)) (k j : Ky) (v z : V) : CM (BK es k v) j z = if k = j then v else CM es j z := by
 induction es with
 | nil => rw [Ahv, LX]
 | cons p es ih =>
  obtain ⟨k', v'⟩ := p
  rw [Aa0]
  by_cases h : k' = k
  ·subst h
   rw [if_pos rfl, LX, LX]
   by_cases e : k' = j
   ·rw [if_pos e, if_pos e]
   ·rw [if_neg e, if_neg e, if_neg e]
  ·rw [if_neg h, LX, LX, ih]
   by_cases e : k = j
   ·subst e; rw [if_neg h, if_pos rfl, if_pos rfl]
   ·rw [if_neg e, if_neg e]
theorem Ahl (p : Ky × V) (es : List (Ky × V)) (k : Ky) : mhas (p :: es) k = (decide (p.1 = k) || mhas es k) := rfl
theorem Tp {Q : Ky × V -> Prop} {es : List (Ky × V)} {k : Ky} {v : V} (h : ∀ p ∈ es, Q p) (hq : Q (k, v)) : ∀ p ∈ BK es k v, Q p := by
 unfold BK
 split
 ·intro p hp
  rcases PJ hp with hp | rfl
  ·exact h p hp
  ·exact hq
 ·intro p hp
  rcases BT.1 hp with hp | hp
  ·exact h p hp
  ·rw [Bp] at hp; subst hp; exact hq
def seen (p : List (List UInt8)) (s : List UInt8) : Bool := decide (s ∈ p)
theorem AjG (p : List (List UInt8)) (x s : List UInt8) : seen (p ++ [x]) s = (seen p s || decide (x = s)) := by
 unfold seen
 by_cases h : s ∈ p <;> by_cases e : x = s <;> simp [h, e, eq_comm]
def Fy (p : List (List UInt8)) : List (Ky × V) := p.foldl (fun es s => BK es (.s s) (.bool true)) []
theorem Od (p : List (List UInt8)) (s : List UInt8) : BK (Fy p) (.s s) (.bool true) = Fy (p ++ [s]) := by
 unfold Fy; rw [List.foldl_append]; rfl
theorem Qr {Q : List (List UInt8) -> Prop} (h0 : Q []) (h1 : ∀ p s, Q p -> Q (p ++ [s])) (p : List (List UInt8)) : Q p := by
 rw [<- List.reverse_reverse p]
 induction p.reverse with
 | nil => exact h0
 | cons a l ih => rw [List.reverse_cons]; exact h1 _ _ ih
theorem Akw (p : List (List UInt8)) (s : List UInt8) : CM (Fy p) (.s s) (.bool false) = .bool (seen p s) := by
 induction p using Qr with
 | h0 => rfl
 | h1 p x ih =>
  rw [<- Od, Ahk, ih, AjG]
  by_cases e : x = s
  ·subst e; rw [if_pos rfl, decide_eq_true rfl, Bool.or_true]
  ·rw [if_neg (fun h => e (by injection h)), decide_eq_false e, NG]
theorem Akx (p : List (List UInt8)) : ∀ q ∈ Fy p, q.1.kd = 0 := by
 induction p using Qr with
 | h0 => intro q hq; cases hq
 | h1 p x ih => rw [<- Od]; exact Tp ih rfl
theorem AkA (p : List (List UInt8)) : ∀ q ∈ Fy p, q.2.pur = true := by
 induction p using Qr with
 | h0 => intro q hq; cases hq
 | h1 p x ih => rw [<- Od]; exact Tp ih rfl
theorem AcQ (p : List (List UInt8)) : ∀ q ∈ Fy p, q.2 = .bool true := by
 induction p using Qr with
 | h0 => intro q hq; cases hq
 | h1 p x ih => rw [<- Od]; exact Tp ih rfl
theorem Aky (p : List (List UInt8)) : (∀ q ∈ Fy p, q.1.kd = 0) ↔ True := iff_true_intro (Akx p)
theorem AkB (p : List (List UInt8)) : (∀ q ∈ Fy p, q.2.pur = true) ↔ True := iff_true_intro (AkA p)
theorem Akz (d : List Nat) (p : List (List UInt8)) : (∀ q ∈ Fy p, q.2.nin d = true) ↔ True := iff_true_intro fun q hq => by rw [AcQ p q hq]; simp only [V.nin]
theorem AkC (σ : Nat -> Nat) (p : List (List UInt8)) : (Fy p).map (fun q => (q.1, q.2.ren σ)) = Fy p := by
 have : ∀ q ∈ Fy p, (q.1, q.2.ren σ) = q := fun q hq => by
  obtain ⟨k, v⟩ := q
  have := AcQ p _ hq
  dsimp only at this
  subst this
  simp only [V.ren]
 conv => rhs; rw [<- List.map_id (Fy p)]
 exact FZ fun q hq => this q hq
attribute [go_sem] Od Akw Aky AkB Akz AkC
def AOp.own : AOp -> AOp
 | .slc t sz _ ps => .slc t sz true ps
 | .mks t sz bytes zero n c => .mkv t sz bytes zero n c
 | o => o
def AO.own (o : AO) : AO := match o.g with
 | none => ⟨o.d, none, o.o.own⟩
 | some g => ⟨o.d, some g, o.o⟩
theorem Anj {P : Program} {op : Op} {t : TypeId} {sz : Nat} {ow : Bool} {ps : List AE} (h : AD P op = some (.slc t sz ow ps)) : ∃ t0 n parts, op = .buildSlice t0 n parts := by
 have mp : ∀ {α : Type} {x : Option α} {g : α -> AOp}, x.map g = some (.slc t sz ow ps) -> ∃ y, x = some y /\ g y = .slc t sz ow ps := fun h => AY.1 h
 cases op with
 | buildSlice t0 n parts => exact ⟨t0, n, parts, rfl⟩
 | call c =>
  obtain ⟨callee, cargs, cts⟩ := c
  simp only [AD, II] at h
  repeat' split at h
  all_goals first | cases h | (obtain ⟨y, _, e⟩ := mp h; cases e)
 | slice t x lo hi mx =>
  cases mx with
  | some _ =>
   simp only [AD] at h
   repeat' split at h
   all_goals cases h
  | none =>
   simp only [AD] at h
   repeat' split at h
   all_goals cases h
 | makeMap t r => cases r with | none => cases h | some _ => cases h
 | makeFunc fn _ _ =>
  cases fn with
  | func f =>
   simp only [AD] at h
   split at h
   ·obtain ⟨y, _, e⟩ := mp h; cases e
   ·cases h
  | _ => cases h
 | _ =>
  simp only [AD] at h
  repeat' split at h
  all_goals first | cases h | (obtain ⟨y, _, e⟩ := mp h; cases e)
theorem Ani {P : Program} {op : Op} {t : TypeId} {sz bytes : Nat} {zero : List V} {n c : AE} (h : AD P op = some (.mks t sz bytes zero n c)) : ∃ t0 n0 c0, op = .makeSlice t0 n0 c0 := by
 have mp : ∀ {α : Type} {x : Option α} {g : α -> AOp}, x.map g = some (.mks t sz bytes zero n c) -> ∃ y, x = some y /\ g y = .mks t sz bytes zero n c := fun h => AY.1 h
 cases op with
 | makeSlice t0 n0 c0 => exact ⟨t0, n0, c0, rfl⟩
 | call c =>
  obtain ⟨callee, cargs, cts⟩ := c
  simp only [AD, II] at h
  repeat' split at h
  all_goals first | cases h | (obtain ⟨y, _, e⟩ := mp h; cases e)
 | slice t x lo hi mx =>
  cases mx with
  | some _ =>
   simp only [AD] at h
   repeat' split at h
   all_goals cases h
  | none =>
   simp only [AD] at h
   repeat' split at h
   all_goals cases h
 | makeMap t r => cases r with | none => cases h | some _ => cases h
 | makeFunc fn _ _ =>
  cases fn with
  | func f =>
   simp only [AD] at h
   split at h
   ·obtain ⟨y, _, e⟩ := mp h; cases e
   ·cases h
  | _ => cases h
 | _ =>
  simp only [AD] at h
  repeat' split at h
  all_goals first | cases h | (obtain ⟨y, _, e⟩ := mp h; cases e)
section
variable {P : Program} {U : Tbl} {C : Ctx U} {G : Tab} {ops : Array Oper} {o : Oper} {s : St} {Q : Exit -> St -> Prop}
theorem AjL {h : Nat -> Option Ob} {w : World} {M : Nat -> Prop} {ι : Nat -> Value} {a : Act} {E : AE -> V} {d : Nat} {ao : AOp} (ho : AD P o.op = some ao) (hG : ∀ f, Aj P U f (G f)) (hm : Mem C h w M ι) (hx : ∀ x0 y, y ∈ ao.args -> trE x0 = some y -> Rel M w ι h (E y) (a.eval x0)) : Sim P G C h w M ι o a E d ao.own := by
 cases ao with
 | slc t sz ow ps =>
  obtain ⟨t0, n, parts, hop⟩ := Anj ho
  rw [hop] at ho
  simp only [AD] at ho
  split at ho
  ·rename_i e ht
   split at ho
   ·rename_i i hi
    split at ho
    ·rename_i z hz
     split at ho
     ·rename_i hc
      obtain ⟨c1, c3, c4⟩ := hc
      obtain ⟨qs, hq, he⟩ := AY.1 ho
      injection he with he1 he2 he3 he4
      subst he1 he2 he4
      exact AcK true hop ht (by unfold szT; rw [hi]; rfl) hi hz c1 c3 c4 hq hm (fun x0 y hm1 he => hx x0 y (Ug hq x0 y hm1 he) he)
     ·cases ho
    ·cases ho
   ·cases ho
  ·cases ho
 | mks t sz bytes zero n c =>
  obtain ⟨t0, n0, c0, hop⟩ := Ani ho
  rw [hop] at ho
  simp only [AD] at ho
  split at ho
  ·rename_i e ht
   split at ho
   ·rename_i i n' c' h1 h2 h3
    split at ho
    ·rename_i z hz
     split at ho
     ·rename_i hc
      obtain ⟨c1, c2, c3⟩ := hc
      injection ho with ho
      injection ho with q1 q2 q3 q4 q5 q6
      subst q1 q2 q3 q4 q5 q6
      exact Akc hop ht h1 hz rfl rfl c2 c1 c3 hm (hx n0 n' (by simp [AOp.args]) h2) (hx c0 c' (by simp [AOp.args]) h3)
     ·cases ho
    ·cases ho
   ·cases ho
  ·cases ho
 | _ => exact sim ho hG hm hx
theorem AkX {ao : AO} (ht : trO P C.N ops o = some ao) (hG : ∀ f, Aj P U f (G f)) {a : Act} {w : World} {M : Nat -> Prop} {ι : Nat -> Value} (hg : Good C s a w M ι) (hφ : (ao.own.res G s).φ) {K : Act -> World -> Prop} {Q : Exit -> Act -> World -> Prop}
  (hK : ∀ a' w' M' ι', Good C (ao.own.next G s) a' w' M' ι' -> K a' w') : if Region.wanted o (yielded ops a.tmps) = true then o.wp P a w K Q else K (a.put o.dst undef) w := by
 obtain ⟨op, hop, hd, e1, e2, hgu⟩ := QC ht
 obtain ⟨d, g, ao'⟩ := ao
 dsimp only at e1 e2 hgu
 rcases hgu with ⟨g1, rfl⟩ | ⟨j, want, t, g1, hj, hlt, rfl⟩
 ·subst e1 e2
  rw [if_pos (by simp [Region.wanted, g1])]
  have hs := AjL (d := o.dst.getD 0) hop hG hg.mem (E := AE.ev s.e) (fun x0 y _ hy => trE_rel hg.env hy) hφ
  refine hs K Q (fun cv w' ha => ?_)
  obtain ⟨M', ι', h1⟩ := hg.next (d := o.dst) hd ha
  exact hK _ _ M' ι' h1
 ·exact Us ht hG hg hφ hK
theorem Afp {EF : Nat -> Bool} {ao : AO} {f : Nat} {us : List V} (h : Cf EF ao.own s = some (f, us)) : ao.own = ao := by
 obtain ⟨d, g, o⟩ := ao
 cases g with
 | some g => rfl
 | none => cases o <;> first | rfl | (simp [Cf, AO.own, AOp.own] at h; done)
theorem UZ {ops : Array Oper} {Q' : Exit -> Act -> World -> Prop} {EF : Nat -> Bool} (hG : ∀ f, Aj P U f (G f)) {K : St -> Prop} (hK : ∀ s' a' w' M' ι', K s' -> Good C s' a' w' M' ι' -> Q' .normal a' w') : ∀ (l : List Oper) (aos : List AO), l.mapM (trO P C.N ops) = some aos ->
  ∀ (s : St) (a : Act) (w : World) (M : Nat -> Prop) (ι : Nat -> Value), Good C s a w M ι -> BV P U EF G (aos.map AO.own) s K -> wpList P ops Q' l a w
 | [], aos, ht, s, a, w, M, ι, hg, h => by
  simp at ht
  subst ht
  exact wpList_nil (hK s a w M ι h hg)
 | o :: l, aos, ht, s, a, w, M, ι, hg, h => by
  rw [Ix] at ht
  cases h1 : trO P C.N ops o with
  | none => rw [h1] at ht; cases ht
  | some ao =>
   rw [h1] at ht
   cases h2 : l.mapM (trO P C.N ops) with
   | none => rw [h2] at ht; cases ht
   | some aos' =>
    rw [h2] at ht
    have e : ao :: aos' = aos := Ha ht
    subst e
    rw [BE] at h
    unfold BV at h
    refine wpList_step fun K2 hK2 => ?_
    split at h
    ·rename_i f us he
     have eo := Afp he
     rw [eo] at he h
     exact Of h1 hg he h fun s' a' w' M' ι' h3 hg' => hK2 _ _ (UZ hG hK l aos' h2 s' a' w' M' ι' hg' h3)
    ·obtain ⟨p1, p2⟩ := h
     exact AkX h1 hG hg p1 fun a' w' M' ι' hg' => hK2 _ _ (UZ hG hK l aos' h2 _ a' w' M' ι' hg' p2)
theorem Ael {id : Nat} {ops : Array Oper} {aos : List AO} {EF : Nat -> Bool} (hG : ∀ f, Aj P U f (G f)) (ht : ops.toList.mapM (trO P C.N ops) = some aos) (h : BV P U EF G (aos.map AO.own) s (Q .normal)) : AW P C (.region id ops false) Q s := fun a w M ι hg =>
 wp_region_list (UZ hG (K := Q .normal) (fun s' a' w' M' ι' h1 h2 => ⟨s', M', ι', h1, h2⟩) ops.toList aos ht s a w M ι hg h)
theorem Va {ops : Array Oper} {Q' : Exit -> Act -> World -> Prop} {EF : Nat -> Bool} (hG : ∀ f, Aj P U f (G f)) {K : St -> Prop} (hK : ∀ s' a' w' M' ι', K s' -> Good C s' a' w' M' ι' -> Q' .normal a' w') : ∀ (l : List Oper) (aos : List AO), l.mapM (trO P C.N ops) = some aos ->
  ∀ (s : St) (a : Act) (w : World) (M : Nat -> Prop) (ι : Nat -> Value), Good C s a w M ι -> BV P U EF G (aos.map AO.wrp) s K -> wpList P ops Q' l a w
 | [], aos, ht, s, a, w, M, ι, hg, h => by
  simp at ht
  subst ht
  exact wpList_nil (hK s a w M ι h hg)
 | o :: l, aos, ht, s, a, w, M, ι, hg, h => by
  rw [Ix] at ht
  cases h1 : trO P C.N ops o with
  | none => rw [h1] at ht; cases ht
  | some ao =>
   rw [h1] at ht
   cases h2 : l.mapM (trO P C.N ops) with
   | none => rw [h2] at ht; cases ht
   | some aos' =>
    rw [h2] at ht
    have e : ao :: aos' = aos := Ha ht
    subst e
    rw [BE] at h
    unfold BV at h
    refine wpList_step fun K2 hK2 => ?_
    split at h
    ·rename_i f us he
     have eo := XI he
     rw [eo] at he h
     exact Of h1 hg he h fun s' a' w' M' ι' h3 hg' => hK2 _ _ (Va hG hK l aos' h2 s' a' w' M' ι' hg' h3)
    ·obtain ⟨p1, p2⟩ := h
     exact AcX h1 hG hg p1 fun a' w' M' ι' hg' => hK2 _ _ (Va hG hK l aos' h2 _ a' w' M' ι' hg' p2)
theorem Rx {id : Nat} {ops : Array Oper} {aos : List AO} {EF : Nat -> Bool} (hG : ∀ f, Aj P U f (G f)) (ht : ops.toList.mapM (trO P C.N ops) = some aos) (h : BV P U EF G (aos.map AO.wrp) s (Q .normal)) : AW P C (.region id ops false) Q s := fun a w M ι hg =>
 wp_region_list (Va hG (K := Q .normal) (fun s' a' w' M' ι' h1 h2 => ⟨s', M', ι', h1, h2⟩) ops.toList aos ht s a w M ι hg h)
end
attribute [go_sem] AO.own AOp.own AO.wrp AOp.wrp List.map_cons List.map_nil
theorem idW {P : Program} {U : Tbl} {C : Ctx U} {c : Code} {Q : Exit -> St -> Prop} {s : St} (h : AW P C c Q s) : AW P C c Q s := h
theorem idS {P : Program} {U : Tbl} {d : Option Nat} {f : Nat} {vs : List V} {s : St} {K : St -> Prop} (h : Dp P U d f vs s K) : Dp P U d f vs s K := h
theorem hcL : (∀ (p : Prop) [Decidable p], (decide p = true) = p) /\ (∀ (p : Prop) [Decidable p], decide p = false ↔ ¬p) /\ (∀ a b : Bool, ((a && b) = true) = (a = true /\ b = true)) /\ (∀ a b : Bool, ((a || b) = true) = (a = true \/ b = true)) /\
  (∀ b : Bool, ((!b) = true) = (b = false)) /\ (∀ b : Bool, ((!b) = false) = (b = true)) /\ (∀ a b : Bool, (a && b) = false ↔ a = false \/ b = false) /\ (∀ a b : Bool, (a || b) = false ↔ a = false /\ b = false) /\
  (∀ m n : Nat, (m : Int) < n ↔ m < n) /\ (∀ m n : Nat, (m : Int) <= n ↔ m <= n) /\ (∀ m n : Nat, ¬ m < n ↔ n <= m) /\ (∀ m n : Nat, ¬ m <= n ↔ n < m) /\ (∀ m n : Int, ¬ m < n ↔ n <= m) /\ (∀ m n : Int, ¬ m <= n ↔ n < m) :=
 ⟨fun _ _ => decide_eq_true_eq, fun _ _ => decide_eq_false_iff_not, fun a b => Bx a b, fun a b => Gd a b, fun b => by cases b <;> simp, fun b => by cases b <;> simp, fun a b => by cases a <;> simp, fun a b => by cases a <;> simp,
  fun _ _ => Int.ofNat_lt, fun _ _ => Int.ofNat_le, fun _ _ => Nat.not_lt, fun _ _ => Nat.not_le, fun _ _ => Int.not_lt, fun _ _ => Int.not_le⟩
theorem sdA {p : Prop} (h : p := by first | omega | ((fail_if_success refine idW ?_); (fail_if_success refine idS ?_); intros; (repeat' apply And.intro) <;> first | assumption | omega | (simp_all; done)) | fail) : p := h
theorem leA {p : Prop} (h : p := by first | rfl | exact Adn rfl rfl rfl | exact Adm rfl | exact .nilo _ _ _ rfl rfl | exact Ado rfl rfl (fun kv hk => by obtain ⟨_, _, rfl⟩ := Am.1 hk; rfl) | fail) : p := h
def ar {α β : Type} (e : α -> V) (f : β -> List V) (x : α × β) : List V := e x.1 :: f x.2
def ao {α : Type} (e : α -> V) (x : α) : List V := [e x]
def vg {α : Type} (f : α -> List V) (x : α) : V := .agg (f x)
def vl {α : Type} (f : α -> List V) (x : List α) : V := .list (x.map f) false
def vi (n : Int) : V := .int .i64 n
attribute [go_sem, simp] ar ao vg vl vi
abbrev Ij {α β : Type} (f : α -> β) : Prop := ∀ a b, f a = f b -> a = b
section
variable {α β : Type} {e : α -> V} {g : β -> List V} {f : α -> List V}
theorem ijr (h : Ij e) (k : Ij g) : Ij (ar e g) := fun _ _ q => Prod.ext (h _ _ (List.cons.inj q).1) (k _ _ (List.cons.inj q).2)
theorem ijo (h : Ij e) : Ij (ao e) := fun _ _ q => h _ _ (List.cons.inj q).1
theorem ijg (h : Ij f) : Ij (vg f) := fun _ _ q => h _ _ (V.agg.inj q)
theorem ijl (h : Ij f) : Ij (vl f) := fun _ _ q => PM (fun a b => h a b) |>.1 (V.list.inj q).1
theorem iji : Ij vi := fun _ _ q => (V.int.inj q).2
theorem ijs : Ij V.str := fun _ _ q => V.str.inj q
end
end Go.Proofs.YtjkclhbckfkeeaaGreatDoor
