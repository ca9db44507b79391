import Derived.Test.YtjkclhbckfkeeaaGreatDoorAv14
import Derived.Deep.LoopGhost
set_option linter.unusedSimpArgs false
set_option linter.unusedVariables false
set_option linter.deprecated false
namespace Go.Proofs.YtjkclhbckfkeeaaGreatDoor
open Go Go.RowKit
def AW (P : Program) {U : Tbl} (C : Ctx U) (c : Code) (Q : Exit -> St -> Prop) (s : St) : Prop :=
 ∀ a w M ι, Good C s a w M ι -> c.wp P (fun e a' w' => ∃ s' M' ι', Q e s' /\ Good C s' a' w' M' ι') a w
def Le (s s' : St) : Prop := ∀ (U : Tbl) (C : Ctx U) a w M ι, Good C s a w M ι -> ∃ M' ι', Good C s' a w M' ι'
def LN (K : St -> Prop) (Q : Exit -> St -> Prop) : Exit -> St -> Prop
 | .normal, s => K s
 | e, s => Q e s
def KH (id : Nat) (Q : Exit -> St -> Prop) : Exit -> St -> Prop
 | .exit id', s => if id' = id then Q .normal s else Q (.exit id') s
 | e, s => Q e s
section
variable {P : Program} {U : Tbl} {C : Ctx U} {Q : Exit -> St -> Prop} {s : St}
theorem AW.mono {c : Code} {Q' : Exit -> St -> Prop} (h : AW P C c Q s) (hq : ∀ e s, Q e s -> Q' e s) : AW P C c Q' s := fun a w M ι hg =>
 wp_mono (h a w M ι hg) fun e a' w' ⟨s', M', ι', h1, h2⟩ => ⟨s', M', ι', hq _ _ h1, h2⟩
theorem AW.le {c : Code} {s' : St} (hl : Le s s') (h : AW P C c Q s') : AW P C c Q s := fun a w M ι hg => let ⟨M', ι', hg'⟩ := hl U C a w M ι hg; h a w M' ι' hg'
theorem Af (h : Q .normal s) : AW P C .skip Q s := fun _ _ M ι hg => wp_skip ⟨s, M, ι, h, hg⟩
theorem AS {id : Nat} (h : Q (.exit id) s) : AW P C (.exit id) Q s := fun _ _ M ι hg => wp_exit ⟨s, M, ι, h, hg⟩
theorem Ad (h : Q .ret s) : AW P C .ret Q s := fun _ _ M ι hg => wp_ret ⟨s, M, ι, h, hg⟩
theorem Aa {x y : Code} (h : AW P C x (LN (AW P C y Q) Q) s) : AW P C (.seq x y) Q s := fun a w M ι hg =>
 wp_seq (wp_mono (h a w M ι hg) fun e a' w' ⟨s', M', ι', h1, h2⟩ => by
  cases e with
  | normal => exact h1 a' w' M' ι' h2
  | exit id => exact ⟨s', M', ι', h1, h2⟩
  | goto l => exact ⟨s', M', ι', h1, h2⟩
  | ret => exact ⟨s', M', ι', h1, h2⟩
  | panic ch => exact ⟨s', M', ι', h1, h2⟩
  | outgrown => exact ⟨s', M', ι', h1, h2⟩)
theorem Dw {x y : Code} {α : Type} (I : α -> Prop) (st : α -> St) (h : ∀ K : St -> Prop, (∀ g s', I g -> Le s' (st g) -> K s') -> AW P C x (LN K Q) s) (h2 : ∀ g, I g -> AW P C y Q (st g)) : AW P C (.seq x y) Q s :=
 Aa ((h (fun s' => ∃ g, I g /\ Le s' (st g)) fun g s' h1 h2 => ⟨g, h1, h2⟩).mono fun e s' hq => by
  cases e with
  | normal =>
   obtain ⟨g, hg, hl⟩ := hq
   exact (h2 g hg).le hl
  | exit id => exact hq
  | goto l => exact hq
  | ret => exact hq
  | panic ch => exact hq
  | outgrown => exact hq)
theorem Ao {id : Nat} {c : Code} (h : AW P C c (KH id Q) s) : AW P C (.block id c) Q s := fun a w M ι hg =>
 wp_block (wp_mono (h a w M ι hg) fun e a' w' ⟨s', M', ι', h1, h2⟩ => by
  cases e with
  | exit id' =>
   simp only [Exit.inBlock]
   simp only [KH] at h1
   split
   ·rename_i he; rw [if_pos he] at h1; exact ⟨s', M', ι', h1, h2⟩
   rename_i he; rw [if_neg he] at h1; exact ⟨s', M', ι', h1, h2⟩
  | normal => exact ⟨s', M', ι', h1, h2⟩
  | goto l => exact ⟨s', M', ι', h1, h2⟩
  | ret => exact ⟨s', M', ι', h1, h2⟩
  | panic ch => exact ⟨s', M', ι', h1, h2⟩
  | outgrown => exact ⟨s', M', ι', h1, h2⟩)
theorem Ae {t : Nat} {x y : Code} {b : Bool} (hb : s.e t = .bool b) (h1 : b = true -> AW P C x Q s) (h2 : b = false -> AW P C y Q s) : AW P C (.cond (.tmp t) x y) Q s := fun a w M ι hg => by
 have hr := hg.env t
 rw [hb] at hr
 exact wp_cond_split (show a.eval (.tmp t) = .bool b from hr.bool_inv) (fun e => h1 e a w M ι hg) (fun e => h2 e a w M ι hg)
theorem AX {c : Code} {α : Type} (I : α -> Prop) (st : α -> St) (μ : α -> Nat) (g0 : α) (h0 : I g0) (hl : Le s (st g0))
  (round : ∀ g, I g -> ∀ K : St -> Prop, (∀ g' s', I g' -> μ g' < μ g -> Le s' (st g') -> K s') -> AW P C c (LN K Q) (st g)) : AW P C (.loop c) Q s := fun a w M ι hg => by
 obtain ⟨M0, ι0, hg0⟩ := hl U C a w M ι hg
 refine wp_loop_ghost (fun n a w => ∃ g M ι, I g /\ μ g = n /\ Good C (st g) a w M ι) (μ g0) ⟨g0, M0, ι0, h0, rfl, hg0⟩ ?_
 rintro n a w ⟨g, M, ι, hi, rfl, hgd⟩
 refine wp_mono (round g hi (fun s' => ∃ g', I g' /\ μ g' < μ g /\ Le s' (st g')) (fun g' s' h1 h2 h3 => ⟨g', h1, h2, h3⟩) a w M ι hgd) fun e a' w' ⟨s', M', ι', h1, h2⟩ => ?_
 cases e with
 | normal =>
  obtain ⟨g', k1, k2, k3⟩ := h1
  obtain ⟨M'', ι'', h3⟩ := k3 U C a' w' M' ι' h2
  exact ⟨μ g', k2, g', M'', ι'', k1, rfl, h3⟩
 | exit id => exact ⟨s', M', ι', h1, h2⟩
 | goto l => exact ⟨s', M', ι', h1, h2⟩
 | ret => exact ⟨s', M', ι', h1, h2⟩
 | panic ch => exact ⟨s', M', ι', h1, h2⟩
 | outgrown => exact ⟨s', M', ι', h1, h2⟩
def EP (P : Program) (U : Tbl) (EF : Nat -> Bool) (G : Tab) (D : List (List Nat)) : List (Nat × AO) -> List Fp -> St -> (St -> Prop) -> Prop
 | [], _, s, K => K s
 | (i, o) :: os, past, s, K => match Cg EF o s with
  | some (f, us) => (past.all fun f => (D.getD i []).contains f.i || f.indep (Ht i)) = true /\ CX P U o.d f us s fun s' => EP P U EF G D os (Ht i :: past) s' K
  | none => (o.res G s).φ /\ (past.all fun f => (D.getD i []).contains f.i || f.indep (o.fp i s)) = true /\ EP P U EF G D os (o.fp i s :: past) (o.next G s) K
theorem RY {P : Program} {U : Tbl} {EF : Nat -> Bool} {G : Tab} {D : List (List Nat)} : ∀ {L : List (Nat × AO)} {past : List Fp} {s : St} {K : St -> Prop}, EP P U EF G D L past s K -> CZ P U EF G D L past s K
 | [], _, _, _, h => h
 | (i, o) :: L, past, s, K, h => by
  unfold EP at h
  unfold CZ
  split
  ·rename_i f us he
   rw [he] at h
   exact ⟨fun f hf => by simpa only [EW, HA] using Ch.1 h.1 f hf, h.2.mono fun s' h3 => RY h3⟩
  ·rename_i he
   rw [he] at h
   obtain ⟨h1, h2, h3⟩ := h
   exact ⟨h1, fun f hf => by
    have := Ch.1 h2 f hf
    simpa only [EW, HA] using this, RY h3⟩
variable {G : Tab}
theorem Vs {ops : Array Oper} {Q' : Exit -> Act -> World -> Prop} {EF : Nat -> Bool} (hG : ∀ f, Ah P U f (G f)) {K : St -> Prop} (hK : ∀ s' a' w' M' ι', K s' -> Good C s' a' w' M' ι' -> Q' .normal a' w') : ∀ (l : List Oper) (aos : List AO), l.mapM (trO P C.N ops) = some aos ->
  ∀ (s : St) (a : Act) (w : World) (M : Nat -> Prop) (ι : Nat -> Value), Good C s a w M ι -> Cl P U EF G aos s K -> wpList P ops Q' l a w
 | [], aos, ht, s, a, w, M, ι, hg, h => by
  simp at ht
  subst ht
  exact wpList_nil (hK s a w M ι h hg)
 | o :: l, aos, ht, s, a, w, M, ι, hg, h => by
  rw [Ja] at ht
  cases h1 : trO P C.N ops o with
  | none => rw [h1] at ht; cases ht
  | some ao =>
   rw [h1] at ht
   cases h2 : l.mapM (trO P C.N ops) with
   | none => rw [h2] at ht; cases ht
   | some aos' =>
    rw [h2] at ht
    have e : ao :: aos' = aos := HB ht
    subst e
    unfold Cl at h
    refine wpList_step fun K2 hK2 => ?_
    split at h
    ·rename_i f us he
     exact OB h1 hg he h fun s' a' w' M' ι' h3 hg' => hK2 _ _ (Vs hG hK l aos' h2 s' a' w' M' ι' hg' h3)
    ·obtain ⟨p1, p2⟩ := h
     exact UP h1 hG hg p1 fun a' w' M' ι' hg' => hK2 _ _ (Vs hG hK l aos' h2 _ a' w' M' ι' hg' p2)
theorem Xh {id : Nat} {ops : Array Oper} {aos : List AO} {EF : Nat -> Bool} (hG : ∀ f, Ah P U f (G f)) (ht : ops.toList.mapM (trO P C.N ops) = some aos) (h : Cl P U EF G aos s (Q .normal)) : AW P C (.region id ops false) Q s := fun a w M ι hg =>
 wp_region_list (Vs hG (K := Q .normal) (fun s' a' w' M' ι' h1 h2 => ⟨s', M', ι', h1, h2⟩) ops.toList aos ht s a w M ι hg h)
def GE (ops : Array Oper) (i : Nat) : List Nat := match ops[i]? with
 | some o => (o.after.toList.filter fun e => Region.binds .any e).map (·.on)
 | none => []
def Cx (ops : Array Oper) (aos : List AO) (D : List (List Nat)) : Bool :=
 (List.range ops.size).all fun i => ((GE ops i).all fun j => decide (j < i)) && ((D.getD i []).all fun j => decide (j < i) && (GE ops i).any fun k => k == j || (decide (k < i) && (D.getD k []).contains j)) &&
  (List.range i).all fun j => (D.getD i []).contains j || (aos.getD i default).apart (aos.getD j default)
theorem AhJ {ops : Array Oper} {i : Nat} {o : Oper} (ho : ops[i]? = some o) {e : Edge} (he : e ∈ o.after) (hb : Region.binds .any e = true) : e.on ∈ GE ops i := by
 unfold GE
 rw [ho]
 exact An.2 ⟨e, List.mem_filter.2 ⟨by simpa using he, hb⟩, rfl⟩
theorem Qs {ops : Array Oper} {aos : List AO} {D : List (List Nat)} (h : Cx ops aos D = true) {i : Nat} (hi : i < ops.size) :
  (∀ j ∈ GE ops i, j < i) /\ (∀ j ∈ D.getD i [], j < i /\ ∃ k ∈ GE ops i, k = j \/ (k < i /\ j ∈ D.getD k [])) /\ ∀ j, j < i -> j ∈ D.getD i [] \/ (aos.getD i default).apart (aos.getD j default) = true := by
 have h1 := Ch.1 h i (MI.2 hi)
 simp only [By, Ch, decide_eq_true_eq] at h1
 obtain ⟨⟨a1, a2⟩, a3⟩ := h1
 refine ⟨a1, fun j hj => ?_, fun j hj => ?_⟩
 ·obtain ⟨b1, b2⟩ := a2 j hj
  obtain ⟨k, k1, k2⟩ := JT.1 b2
  simp only [EW, beq_iff_eq, By, decide_eq_true_eq, HA] at k2
  exact ⟨b1, k, k1, k2⟩
 ·have := a3 j (MI.2 hj)
  simp only [EW, HA] at this
  exact this
theorem An0 {ops : Array Oper} {aos : List AO} {D : List (List Nat)} (h : Cx ops aos D = true) {listed : Array Bool} (hsz : listed.size = ops.size) (hcl : ∀ k, k < ops.size -> listed.getD k false = true -> ∀ j ∈ GE ops k, listed.getD j false = true) :
  ∀ (i : Nat), i < ops.size -> (∀ j ∈ GE ops i, listed.getD j false = true) -> ∀ j ∈ D.getD i [], listed.getD j false = true := by
 intro i
 induction i using Nat.strongRecOn with
 | _ i ih =>
  intro hi hd j hj
  obtain ⟨_, b2, _⟩ := Qs h hi
  obtain ⟨_, k, k1, k2⟩ := b2 j hj
  rcases k2 with rfl | ⟨k2, k3⟩
  ·exact hd k k1
  ·exact ih k k2 (by omega) (hcl k (by omega) (hd k k1)) j k3
theorem Ad3 {ops : Array Oper} {aos : List AO} {D : List (List Nat)} {Q' : Exit -> Act -> World -> Prop} {EF : Nat -> Bool} (hG : ∀ f, Ah P U f (G f)) (hok : Cx ops aos D = true) (haos : ∀ (i : Nat) (o : Oper), ops[i]? = some o -> ∃ ao, aos[i]? = some ao /\ TrO P C.N ops o ao)
  {K : St -> Prop} (hK : ∀ s' a' w' M' ι', K s' -> Good C s' a' w' M' ι' -> Q' .normal a' w') : ∀ (n : Nat) (L : List (Nat × AO)) (listed : Array Bool) (past : List Fp) (s : St) (a : Act) (w : World) (M : Nat -> Prop) (ι : Nat -> Value), L.length = n -> listed.size = ops.size ->
  L.Pairwise (fun p q => p.1 < q.1) -> (∀ p ∈ L, aos[p.1]? = some p.2) -> (∀ i : Nat, i < ops.size -> (listed.getD i true = false ↔ ∃ o, (i, o) ∈ L)) -> (∀ p ∈ L, p.1 < ops.size) ->
  (∀ k, k < ops.size -> listed.getD k false = true -> ∀ j ∈ GE ops k, listed.getD j false = true) -> Good C s a w M ι -> CZ P U EF G D L past s K -> wpAny P .any ops Q' n listed a w
 | 0, L, listed, past, s, a, w, M, ι, hn, hsz, hpw, hL, hun, hlt, hcl, hg, h => by
  obtain rfl := Hy.1 hn
  refine ⟨?_, hK s a w M ι h hg⟩
  refine List.eq_nil_iff_forall_not_mem.2 fun j hj => ?_
  obtain ⟨h1, o, h2, _⟩ := mem_ready.1 hj
  obtain ⟨_, h3⟩ := (hun j (GM.1 h2).1).1 h1
  cases h3
 | n + 1, L, listed, past, s, a, w, M, ι, hn, hsz, hpw, hL, hun, hlt, hcl, hg, h => by
  have td : ∀ {k : Nat}, k < ops.size -> (listed.getD k true = false \/ listed.getD k false = true) := fun {k} hk => by
   have : k < listed.size := by omega
   simp [Array.getD, this]
  refine ⟨fun hr => ?_, fun i hi => ?_⟩
  ·exfalso
   cases L with
   | nil => cases hn
   | cons p L' =>
    obtain ⟨i0, o0⟩ := p
    have hi0 : i0 < ops.size := hlt (i0, o0) (AJ ..)
    have : i0 ∈ Region.ready .any ops listed := by
     refine mem_ready.2 ⟨(hun i0 hi0).2 ⟨o0, AJ ..⟩, ops[i0], JX hi0, fun e he hb => ?_⟩
     have hm := AhJ (JX hi0) he hb
     have hlt' := (Qs hok hi0).1 _ hm
     rcases td (k := e.on) (by omega) with hu | hu
     ·obtain ⟨o', ho'⟩ := (hun e.on (by omega)).1 hu
      rcases AK.1 ho' with e1 | e1
      ·injection e1 with e1; omega
      ·have := (Qg.1 hpw).1 _ e1
       dsimp only at this
       omega
     ·exact hu
    rw [hr] at this
    cases this
  ·obtain ⟨h1, o', h2, h3⟩ := mem_ready.1 hi
   have hlti : i < ops.size := (GM.1 h2).1
   obtain ⟨o, ho⟩ := (hun i hlti).1 h1
   obtain ⟨L1, L2, rfl⟩ := List.append_of_mem ho
   have hdir : ∀ j ∈ GE ops i, listed.getD j false = true := by
    intro j hj
    unfold GE at hj
    rw [h2] at hj
    obtain ⟨e, he, rfl⟩ := An.1 hj
    obtain ⟨he1, he2⟩ := List.mem_filter.1 he
    exact h3 e (by simpa using he1) he2
   have hw := An0 hok hsz hcl i hlti hdir
   have hpw2 := List.pairwise_append.1 hpw
   have hfirst : ∀ q ∈ L1, q.1 ∉ D.getD i [] /\ i ∉ D.getD q.1 [] /\ o.apart q.2 = true := by
    intro q hq
    have hqlt : q.1 < i := hpw2.2.2 q hq (i, o) (AJ ..)
    have hqm : q ∈ L1 ++ (i, o) :: L2 := Lv _ hq
    have hqs := hlt q hqm
    have hunq := (hun q.1 hqs).2 ⟨q.2, hqm⟩
    have n1 : q.1 ∉ D.getD i [] := fun hm => by
     have := hw _ hm
     have hs : q.1 < listed.size := by omega
     simp [Array.getD, hs] at hunq this
     rw [hunq] at this
     cases this
    refine ⟨n1, fun hm => ?_, ?_⟩
    ·have := ((Qs hok hqs).2.1 i hm).1
     omega
    ·have := ((Qs hok hlti).2.2 q.1 hqlt).resolve_left n1
     have e1 : aos.getD i default = o := by rw [AI, hL (i, o) (NU _ (AJ ..))]; rfl
     have e2 : aos.getD q.1 default = q.2 := by rw [AI, hL q hqm]; rfl
     rwa [e1, e2] at this
   have h4 := RX hfirst h
   obtain ⟨ao, k1, k2⟩ := haos i o' h2
   have hao : ao = o := by
    have := hL (i, o) (NU _ (AJ ..))
    dsimp only at this
    rw [k1] at this
    exact HB this
   subst hao
   unfold wpOp
   rw [h2]
   dsimp only
   have hrec : ∀ {past' : List Fp} {s' : St} {a' : Act} {w' : World} {M' : Nat -> Prop} {ι' : Nat -> Value}, Good C s' a' w' M' ι' -> CZ P U EF G D (L1 ++ L2) past' s' K -> wpAny P .any ops Q' n (listed.setIfInBounds i true) a' w' := by
    intro past' s' a' w' M' ι' hg' h3
    refine Ad3 hG hok haos hK n (L1 ++ L2) (listed.setIfInBounds i true) _ _ a' w' M' ι' ?_ (by simpa using hsz) ?_ ?_ ?_ ?_ ?_ hg' h3
    ·simp only [Ai, Av] at hn ⊢; omega
    ·refine List.pairwise_append.2 ⟨hpw2.1, (Qg.1 hpw2.2.1).2, fun x hx y hy => hpw2.2.2 x hx y (AU _ hy)⟩
    ·intro p hp
     refine hL p ?_
     simp only [BU, AK] at hp ⊢
     exact hp.imp id .inr
    ·intro k hk
     by_cases e : k = i
     ·subst e
      have hs : k < listed.size := by omega
      constructor
      ·intro hf; simp [Array.getD, hs] at hf
      ·rintro ⟨o2, ho2⟩
       exfalso
       rcases BU.1 ho2 with hm | hm
       ·have := hpw2.2.2 _ hm (k, ao) (AJ ..)
        dsimp only at this; omega
       ·have := (Qg.1 hpw2.2.1).1 _ hm
        dsimp only at this; omega
     ·rw [getD_set_ne true (Ne.symm e), hun k hk]
      constructor
      ·rintro ⟨o2, ho2⟩
       refine ⟨o2, ?_⟩
       simp only [BU, AK] at ho2 ⊢
       rcases ho2 with hm | hm | hm
       ·exact .inl hm
       ·injection hm with hm _; exact absurd hm e
       ·exact .inr hm
      ·rintro ⟨o2, ho2⟩
       refine ⟨o2, ?_⟩
       simp only [BU, AK] at ho2 ⊢
       exact ho2.imp id .inr
    ·intro p hp
     refine hlt p ?_
     simp only [BU, AK] at hp ⊢
     exact hp.imp id .inr
    ·intro k hk hlk j hj
     by_cases e : k = i
     ·subst e; exact getD_set_true (hdir j hj)
     ·rw [getD_set_ne false (Ne.symm e)] at hlk
      exact getD_set_true (hcl k hk hlk j hj)
   have hstep : if Region.wanted o' (yielded ops a.tmps) = true then o'.wp P a w (wpAny P .any ops Q' n (listed.setIfInBounds i true)) Q' else (wpAny P .any ops Q' n (listed.setIfInBounds i true)) (a.put o'.dst undef) w := by
    unfold CZ at h4
    split at h4
    ·rename_i f us he
     exact All k2 hg he h4.2 fun s' a' w' M' ι' h3 hg' => hrec hg' h3
    ·exact Aln (Q := Q') k2 hG hg h4.1 fun a' w' M' ι' hg' => hrec hg' h4.2.2
   split
   ·rename_i hwt; rw [if_pos hwt] at hstep; exact .inl hstep
   ·rename_i hwt; rw [if_neg hwt] at hstep; exact hstep
theorem TK {N : Nat} {ops0 : Array Oper} : ∀ {l : List Oper} {aos : List AO}, l.mapM (trO P N ops0) = some aos -> aos.length = l.length /\ ∀ (i : Nat) (o : Oper), l[i]? = some o -> ∃ ao, aos[i]? = some ao /\ trO P N ops0 o = some ao
 | [], aos, ht => by simp at ht; subst ht; exact ⟨rfl, fun i o hi => by simp at hi⟩
 | o :: l, aos, ht => by
  rw [Ja] at ht
  cases h1 : trO P N ops0 o with
  | none => rw [h1] at ht; cases ht
  | some ao =>
   rw [h1] at ht
   cases h2 : l.mapM (trO P N ops0) with
   | none => rw [h2] at ht; cases ht
   | some aos' =>
    rw [h2] at ht
    have e : ao :: aos' = aos := HB ht
    subst e
    obtain ⟨g1, g2⟩ := TK h2
    refine ⟨by simp [g1], fun i o' hi => ?_⟩
    cases i with
    | zero => simp only [Fs, BW] at hi; subst hi; exact ⟨ao, rfl, h1⟩
    | succ i => rw [Ej] at hi ⊢; exact g2 i o' hi
def Fw (k : Nat) : List AO -> List (Nat × AO)
 | [] => []
 | o :: os => (k, o) :: Fw (k + 1) os
theorem AbS : ∀ (aos : List AO) (k : Nat), (Fw k aos).length = aos.length /\ (∀ p : Nat × AO, p ∈ Fw k aos -> k <= p.1 /\ aos[p.1 - k]? = some p.2) /\ (Fw k aos).Pairwise (fun p q => p.1 < q.1) /\ ∀ i, i < aos.length -> ∃ o, (k + i, o) ∈ Fw k aos
 | [], k => ⟨rfl, (fun p hp => (by cases hp)), List.Pairwise.nil, fun i hi => absurd hi (EK _)⟩
 | o :: os, k => by
  obtain ⟨h1, h2, h3, h4⟩ := AbS os (k + 1)
  refine ⟨by simp [Fw, h1], fun p hp => ?_, Qg.2 ⟨fun q hq => ?_, h3⟩, fun i hi => ?_⟩
  ·rcases AK.1 hp with rfl | hp
   ·exact ⟨Az _, by simp⟩
   ·obtain ⟨a1, a2⟩ := h2 p hp
    refine ⟨by omega, ?_⟩
    rw [show p.1 - k = (p.1 - (k + 1)) + 1 by omega, Ej]
    exact a2
  ·have := (h2 q hq).1
   dsimp only
   omega
  ·cases i with
   | zero => exact ⟨o, AJ ..⟩
   | succ i =>
    obtain ⟨o', ho'⟩ := h4 i (by simpa using hi)
    exact ⟨o', by rw [show k + (i + 1) = k + 1 + i by omega]; exact AU _ ho'⟩
theorem AeO {id : Nat} {ops : Array Oper} {aos : List AO} {D : List (List Nat)} {EF : Nat -> Bool} (hG : ∀ f, Ah P U f (G f)) (hm : P.follows .mixedOrders = true) (g1 : aos.length = ops.size) (g2 : ∀ (i : Nat) (o : Oper), ops[i]? = some o -> ∃ ao, aos[i]? = some ao /\ TrO P C.N ops o ao) (hok : Cx ops aos D = true) (h : EP P U EF G D (Fw 0 aos) [] s (Q .normal)) :
  AW P C (.region id ops true) Q s := fun a w M ι hg => by
 refine wp_region_any hm ?_
 obtain ⟨n1, n2, n3, n4⟩ := AbS aos 0
 have hg' : Good C s a { w with drawn := w.drawn + 1 } M ι := by
  have hk : Rel M w ι s.h = Rel M w ι s.h := rfl
  refine ⟨⟨fun n ob hn => (hg.mem.obj n ob hn).keep (w' := { w with drawn := w.drawn + 1 }) (fun _ h => h) (fun _ _ => rfl) (Keeps.refl _ _) rfl (fun _ _ => rfl), hg.mem.dis, hg.mem.imm, hg.mem.lt, hg.mem.may, hg.mem.size, hg.mem.keep, hg.mem.os, hg.mem.tape, hg.mem.output, hg.mem.base, U.keep w { w with drawn := w.drawn + 1 } (fun _ _ => rfl) hg.mem.tb, hg.mem.tm, hg.mem.old, hg.mem.arr0, hg.mem.pin⟩,
   fun t => Rel.keep (w := w) (w' := { w with drawn := w.drawn + 1 }) (fun _ h => h) (fun _ _ => rfl) (Keeps.refl _ _) (hg.env t), hg.dfr, hg.num⟩
 have hlen : aos.length = ops.size := g1
 have hrep : ∀ k, k < ops.size -> (Array.replicate ops.size false).getD k true = false /\ (Array.replicate ops.size false).getD k false = false := fun k hk => by simp [hk]
 refine Ad3 hG hok g2 (K := Q .normal) (fun s' a' w' M' ι' h1 h2 => ⟨s', M', ι', h1, h2⟩) ops.size (Fw 0 aos) _ [] s a _ M ι (n1.trans hlen) (by simp) n3
  (fun p hp => by have := (n2 p hp).2; simpa using this) (fun i hi => ⟨fun _ => by have := n4 i (by omega); rwa [Cw] at this, fun _ => (hrep i hi).1⟩)
  (fun p hp => by have := (BS.1 (n2 p hp).2).1; omega) (fun k hk hlk => by rw [(hrep k hk).2] at hlk; cases hlk) hg' (RY h)
theorem He {id : Nat} {ops : Array Oper} {aos : List AO} {D : List (List Nat)} {EF : Nat -> Bool} (hG : ∀ f, Ah P U f (G f)) (hm : P.follows .mixedOrders = true) (ht : ops.toList.mapM (trO P C.N ops) = some aos) (hok : Cx ops aos D = true) (h : EP P U EF G D (Fw 0 aos) [] s (Q .normal)) :
  AW P C (.region id ops true) Q s :=
 AeO hG hm (by simpa using (TK ht).1) (fun i o hi => by obtain ⟨ao, h1, h2⟩ := (TK ht).2 i o (by simpa using hi); exact ⟨ao, h1, ao, h2, .inl rfl⟩) hok h
end
inductive Wk (h : Nat -> Option Ob) (hl : List (Nat × Ob)) : V -> V -> Prop
 | any (v : V) : Wk h hl v .any
 | same (v : V) (hn : v.nin (hl.map (·.1)) = true) : Wk h hl v v
 | frz (n : Nat) (t : TypeId) (sz : Nat) (rows : List (List V)) (hn : h n = some (.arr t sz rows)) (h' : mkH hl n = none) (hp : ∀ r ∈ rows, V.purs r = true) : Wk h hl (.own n rows.length) (.list rows false)
 | frzv (n off len : Nat) (fit : Bool) (t : TypeId) (sz : Nat) (rows : List (List V)) (hn : h n = some (.arr t sz rows)) (h' : mkH hl n = none) (hp : ∀ r ∈ rows, V.purs r = true) : Wk h hl (.vw n off len rows.length fit) (.list ((rows.drop off).take len) fit)
 | nilo (m : Nat) (t : TypeId) (sz : Nat) (h' : mkH hl m = some (.arr t sz [])) (hn : h m = none) : Wk h hl .nils (.own m 0)
 | nill (fit : Bool) : Wk h hl .nils (.list [] fit)
 | frzb (n off : Nat) (t : TypeId) (cells : List V) (hn : h n = some (.box t cells)) (h' : mkH hl n = none) (hp : V.purs cells = true) : Wk h hl (.ptr n off) (.row cells off)
 | frzm (n : Nat) (es : List (Ky × V)) (hn : h n = some (.mp es)) (h' : mkH hl n = none) (hp : ∀ kv ∈ es, kv.2.pur = true) : Wk h hl (.map n) (.fmap es)
 | fnc (f : Nat) (as bs : List V) (hl2 : as.length = bs.length) (hw : ∀ (i : Nat) (u v : V), as[i]? = some u -> bs[i]? = some v -> Wk h hl u v) : Wk h hl (.fn f as) (.fn f bs)
def HL (h : Nat -> Option Ob) (hl : List (Nat × Ob)) : List V -> List V -> Prop
 | [], [] => True
 | a :: as, b :: bs => Wk h hl a b /\ HL h hl as bs
 | _, _ => False
def IB (h : Nat -> Option Ob) (hl : List (Nat × Ob)) : Option Ob -> Ob -> Prop
 | some (.box t c), .box t' c' => t' = t /\ HL h hl c c'
 | some (.arr t sz r), .arr t' sz' r' => t' = t /\ sz' = sz /\ r' = r /\ ((∀ x ∈ r, V.purs x = true) \/ ∀ x ∈ r, V.nins (hl.map (·.1)) x = true)
 | some (.mp es), .mp es' => es' = es /\ ((∀ kv ∈ es, kv.2.pur = true) \/ ∀ kv ∈ es, kv.2.nin (hl.map (·.1)) = true)
 | none, .arr _ _ r => r = []
 | _, _ => False
theorem HL.length {h : Nat -> Option Ob} {hl : List (Nat × Ob)} : ∀ {a b : List V}, HL h hl a b -> a.length = b.length
 | [], [], _ => rfl
 | _ :: _, _ :: _, h => by simp [HL.length h.2]
theorem HL.get {h : Nat -> Option Ob} {hl : List (Nat × Ob)} : ∀ {a b : List V}, HL h hl a b -> ∀ {i : Nat} {v : V}, b[i]? = some v -> ∃ u, a[i]? = some u /\ Wk h hl u v
 | [], [], _, i, v, hi => by simp at hi
 | x :: xs, y :: ys, hh, 0, v, hi => by
  simp only [Fs, BW] at hi
  subst hi
  exact ⟨x, rfl, hh.1⟩
 | x :: xs, y :: ys, hh, i + 1, v, hi => by
  rw [Ej] at hi ⊢
  exact HL.get hh.2 hi
section
variable {U : Tbl} {C : Ctx U} {h : Nat -> Option Ob} {w : World} {M : Nat -> Prop} {ι : Nat -> Value}
theorem Mem.own_list (hm : Mem C h w M ι) {n : Nat} {t : TypeId} {sz : Nat} {rows : List (List V)} (hn : h n = some (.arr t sz rows)) (hp : ∀ r ∈ rows, V.purs r = true) {M' : Nat -> Prop} (hM : ∀ b, M b -> M' b) (hb : ∀ b, blk (ι n) = some b -> M' b) : Pur M' w (.list rows false) (ι n) := by
 obtain ⟨xs, hown, hrl, hx1, hxr⟩ := hm.obj n _ hn
 rcases hown.2 with ⟨e, h0⟩ | ⟨g, cap, cur, e, _, hh, hnc, _⟩
 ·have h00 : rows = [] := Hy.1 h0
  subst h00
  rw [e]
  exact .list [] false none 0 0 0 0 (fun _ _ => undef) (fun e => by cases e) (Az _) (fun _ => rfl) (.inl rfl) (fun r hr => by simp at hr) (fun i j hi _ => absurd hi (EK _)) (fun i j r v hi => by simp at hi)
 ·rw [e]
  refine .list rows false (some ⟨g, 0, none⟩) cap sz g 0 (fun i j => xs.getD (i * sz + j) undef) (fun e => by cases e) hnc (fun e => by cases e) (.inr ⟨rfl, hb g (by rw [e]; rfl)⟩) hrl (fun i j hi hj => ?_) (fun i j r v hi hj => ?_)
  ·have hlt : i * sz + j < xs.length := by
    rw [hown.1]
    have : i * sz + sz <= rows.length * sz := by rw [<- EX]; exact CE _ hi
    omega
   have hx := EG undef hlt
   refine ⟨?_, hx1 _ (Bj hx)⟩
   have := hown.cells (g := g) (by rw [e]; rfl) _ _ hx
   rwa [Es, <- JV] at this
  ·exact ((hxr i j r v hi hj).toPur (GV (hp r (Bj hi)) hj)).wide hM
def wkI (h : Nat -> Option Ob) (ι : Nat -> Value) : Nat -> Value := fun n => if (h n).isSome then ι n else .slice none 0 0
def wkM (h : Nat -> Option Ob) (hl : List (Nat × Ob)) (ι : Nat -> Value) (M : Nat -> Prop) : Nat -> Prop := fun b => M b \/ ∃ n o, h n = some o /\ mkH hl n = none /\ blk (ι n) = some b
theorem Rel.nin {hl : List (Nat × Ob)} (hob : ∀ q ∈ hl, IB h hl (h q.1) q.2) {M' : Nat -> Prop} (hM : ∀ b, M b -> M' b) {v : V} {cv : Value} (r : Rel M w ι h v cv) : v.nin (hl.map (·.1)) = true -> Rel M' w (wkI h ι) (mkH hl) v cv := by
 have look : ∀ {n : Nat} {o : Ob}, (hl.map (·.1)).contains n = true -> h n = some o -> wkI h ι n = ι n /\ ∃ o', mkH hl n = some o' /\ IB h hl (some o) o' := by
  intro n o hc hn
  have hd := Oq (HA.1 hc)
  obtain ⟨o', ho'⟩ := FO.1 hd
  have hq := hob _ (MQ ho')
  dsimp only at hq
  rw [hn] at hq
  exact ⟨by unfold wkI; rw [hn]; rfl, o', ho', hq⟩
 induction r with
 | pur hp => exact fun _ => .pur (hp.wide hM)
 | agg vs cs hl' ho _ ih => exact fun hn => .agg vs cs hl' ho (fun i v hi => ih i v hi (Io (by simpa only [V.nin] using hn) hi))
 | tup vs cs hl' _ ih => exact fun hn => .tup vs cs hl' (fun i v hi => ih i v hi (Io (by simpa only [V.nin] using hn) hi))
 | fn n vs cs hl' _ ih => exact fun hn => .fn n vs cs hl' (fun i v hi => ih i v hi (Io (by simpa only [V.nin] using hn) hi))
 | when b v cv _ hf ih => exact fun hn => .when b v cv (fun e => ih e (by simpa only [V.nin] using hn)) hf
 | ptrb n off b t cells ho hb =>
  intro hn
  simp only [V.nin] at hn
  obtain ⟨e1, o', e2, e3⟩ := look hn ho
  cases o' with
  | box t' c' => obtain ⟨rfl, _⟩ := e3; exact .ptrb n off b _ c' e2 (e1.trans hb)
  | _ => exact e3.elim
 | eptr n len i off t sz rows cv ho hle hs hv =>
  intro hn
  simp only [V.nin] at hn
  obtain ⟨e1, o', e2, e3⟩ := look hn ho
  cases o' with
  | arr t' sz' r' =>
   obtain ⟨rfl, rfl, rfl, _⟩ := e3
   exact .eptr n len i off _ _ _ cv e2 hle hs (fun e => by rw [e1]; exact hv e)
  | _ => exact e3.elim
 | own n len t sz rows cv ho hle hv hs =>
  intro hn
  simp only [V.nin] at hn
  obtain ⟨e1, o', e2, e3⟩ := look hn ho
  cases o' with
  | arr t' sz' r' =>
   obtain ⟨rfl, rfl, rfl, _⟩ := e3
   exact .own n len _ _ _ cv e2 hle (fun e => by rw [e1]; exact hv e) hs
  | _ => exact e3.elim
 | iown tt n len t sz rows cv ho hle hv hs =>
  intro hn
  simp only [V.nin] at hn
  obtain ⟨e1, o', e2, e3⟩ := look hn ho
  cases o' with
  | arr t' sz' r' =>
   obtain ⟨rfl, rfl, rfl, _⟩ := e3
   exact .iown tt n len _ _ _ cv e2 hle (fun e => by rw [e1]; exact hv e) hs
  | _ => exact e3.elim
 | vw n off len m fit t sz rows cv ho hle hb hs hv =>
  intro hn
  simp only [V.nin] at hn
  obtain ⟨e1, o', e2, e3⟩ := look hn ho
  cases o' with
  | arr t' sz' r' =>
   obtain ⟨rfl, rfl, rfl, _⟩ := e3
   exact .vw n off len m fit _ _ _ cv e2 hle hb hs (fun e => by rw [e1]; exact hv e)
  | _ => exact e3.elim
 | map n es ho cv hv hs =>
  intro hn
  simp only [V.nin] at hn
  obtain ⟨e1, o', e2, e3⟩ := look hn ho
  cases o' with
  | mp es' => exact .map n es' e2 cv (hv.trans e1.symm) hs
  | _ => exact e3.elim
theorem Rel.wk {hl : List (Nat × Ob)} (hm : Mem C h w M ι) (hob : ∀ q ∈ hl, IB h hl (h q.1) q.2) {v v' : V} {cv : Value} (r : Rel M w ι h v cv) (hw : Wk h hl v v') : Rel (wkM h hl ι M) w (wkI h ι) (mkH hl) v' cv := by
 induction hw generalizing cv with
 | any => exact .pur (.any _)
 | fnc f as bs hl2 _ ih =>
  obtain ⟨cs, e, hcl, hcr⟩ := r.fn_inv
  rw [e]
  refine .fn f bs cs (by omega) (fun i v hi => ?_)
  have hia : i < as.length := by rw [hl2]; exact (BS.1 hi).1
  exact ih i _ v (AY hia) hi (hcr i _ (AY hia))
 | frzb n off t cells hn h' hp =>
  obtain ⟨b, t2, cells2, hn2, hb, e⟩ := r.ptr_inv
  rw [hn] at hn2
  injection hn2 with hn2
  injection hn2 with e1 e2
  subst e1 e2
  obtain ⟨b2, cs, e3, hh, hl3, ho, hv⟩ := hm.obj n _ hn
  rw [hb] at e3
  injection e3 with e3; injection e3 with e3; injection e3 with e3
  subst e3
  rw [e, show (⟨b, off, none⟩ : Addr) = ⟨b, 0 + off, none⟩ by rw [Cw]]
  refine .pur (.row cells off b 0 (fun j => cs.getD j undef) (.inr ⟨n, _, hn, h', by rw [hb]; rfl⟩) (fun j hj => ?_) (fun j v hj => ((hv j v hj).toPur (GV hp hj)).wide (fun _ h => .inl h)))
  have hc := NP (cs := cs) (k := j) (by omega)
  refine ⟨by rw [Cw, cell_of_row w b j cs t (0, 0) hh, hc], ho _ ?_⟩
  rw [<- Cv] at hc
  exact Bj hc
 | same _ hn => exact r.nin hob (fun _ hb => .inl hb) hn
 | frz n t sz rows hn h' hp =>
  obtain ⟨t2, sz2, rows2, hn2, _, hv⟩ := r.own_inv
  rw [hn] at hn2
  injection hn2 with hn2
  injection hn2 with e1 e2 e3
  subst e1 e2 e3
  rw [hv rfl]
  exact .pur (hm.own_list hn hp (fun _ hb => .inl hb) (fun b hb => .inr ⟨n, _, hn, h', hb⟩))
 | frzv n off len fit t sz rows hn h' hp =>
  obtain ⟨t2, sz2, rows2, hn2, _, hb, hv⟩ := r.vw_inv
  rw [hn] at hn2
  injection hn2 with hn2
  injection hn2 with e1 e2 e3
  subst e1 e2 e3
  obtain ⟨g, cap0, ad, cap, e, hcv, hlc, hf, _, ha⟩ := hv rfl
  rw [hcv]
  exact .pur (hm.vw_list hn hp e hb hlc hf (fun h => ha (by omega)) (fun _ hb => .inl hb) (.inr ⟨n, _, hn, h', by rw [e]; rfl⟩))
 | frzm n es hn h' hp =>
  obtain ⟨es2, hn2, hcv⟩ := r.map_inv
  obtain ⟨b, ents, clock, e, hh, es0, hl', hv⟩ := hm.obj n _ hn
  rw [hcv, e]
  refine .pur (.fmap es es0 b ents clock (fun i => ents.getD i default) (.inr ⟨n, _, hn, h', by rw [e]; rfl⟩) hh hl' (fun i kv hi => ?_) (fun i kv hi => ?_))
  ·obtain ⟨en, h1, h2, _⟩ := hv i kv hi
   have : ents.getD i default = en := by rw [Jc, h1]; rfl
   rw [this]; exact ⟨h1, h2⟩
  ·obtain ⟨en, h1, _, h3⟩ := hv i kv hi
   have : ents.getD i default = en := by rw [Jc, h1]; rfl
   rw [this]
   exact (h3.toPur (hp kv (hl'.perm.mem_iff.1 (Bj hi)))).wide (fun _ hb => .inl hb)
 | nilo m t sz h' hn =>
  have e := r.nils_inv
  subst e
  exact .own m 0 t sz [] _ h' (Az _) (fun _ => by unfold wkI; rw [hn]; rfl) rfl
 | nill fit =>
  have e := r.nils_inv
  subst e
  exact .pur (.list [] fit none 0 0 0 0 (fun _ _ => undef) (fun _ => rfl) (Az _) (fun _ => rfl) (.inl rfl) (fun r hr => by simp at hr) (fun i j hi _ => absurd hi (EK _)) (fun i j r v hi => by simp at hi))
theorem obR.wk {hl : List (Nat × Ob)} (hm : Mem C h w M ι) (hob : ∀ q ∈ hl, IB h hl (h q.1) q.2) {n : Nat} {o o' : Ob} (hn : h n = some o) (hw : IB h hl (some o) o') : obR (wkM h hl ι M) w (wkI h ι) (mkH hl) n o' := by
 have hr := hm.obj n o hn
 have hi : wkI h ι n = ι n := by unfold wkI; rw [hn]; rfl
 have pr : ∀ {v : V} {cv : Value}, Rel M w ι h v cv -> v.pur = true -> Rel (wkM h hl ι M) w (wkI h ι) (mkH hl) v cv := fun hv hp => .pur ((hv.toPur hp).wide (fun _ hb => .inl hb))
 cases o with
 | box t c =>
  cases o' with
  | box t' c' =>
   obtain ⟨rfl, h2⟩ := hw
   obtain ⟨b, cs, e, hh, hl', ho, hv⟩ := hr
   refine ⟨b, cs, hi.trans e, hh, by rw [<- h2.length]; exact hl', ho, fun i v hi' => ?_⟩
   obtain ⟨u, hu, hwk⟩ := h2.get hi'
   exact (hv i u hu).wk hm hob hwk
  | _ => exact hw.elim
 | arr t sz r =>
  cases o' with
  | arr t' sz' r' =>
   obtain ⟨rfl, rfl, rfl, hp⟩ := hw
   obtain ⟨xs, hown, hrl, hx1, hv⟩ := hr
   refine ⟨xs, by rw [hi]; exact hown, hrl, hx1, fun i j r v h1 h2 => ?_⟩
   rcases hp with hp | hp
   ·exact pr (hv i j r v h1 h2) (GV (hp r (Bj h1)) h2)
   ·exact (hv i j r v h1 h2).wk hm hob (.same v (Io (hp r (Bj h1)) h2))
  | _ => exact hw.elim
 | mp es =>
  cases o' with
  | mp es' =>
   obtain ⟨rfl, hp⟩ := hw
   obtain ⟨b, ents, clock, e, hh, es0, hl', hv⟩ := hr
   refine ⟨b, ents, clock, hi.trans e, hh, es0, hl', fun i kv hi' => ?_⟩
   obtain ⟨en, h1, h2, h3⟩ := hv i kv hi'
   have hkv := hl'.perm.mem_iff.1 (Bj hi')
   rcases hp with hp | hp
   ·exact ⟨en, h1, h2, pr h3 (hp kv hkv)⟩
   ·exact ⟨en, h1, h2, h3.wk hm hob (.same _ (hp kv hkv))⟩
  | _ => exact hw.elim
theorem Le.mk {s : St} (l : List (Nat × V)) (hl : List (Nat × Ob)) (henv : ∀ p ∈ l, Wk s.h hl (s.e p.1) p.2) (hob : ∀ q ∈ hl, IB s.h hl (s.h q.1) q.2) (hnew0 : (hl.all fun q => q.1 < 1000 || (s.h q.1).isSome) = true) : Le s ⟨mkE l, mkH hl⟩ := by
 intro U C a w M ι hg
 have hm := hg.mem
 have hnew : ∀ n, s.h n = none -> (mkH hl n).isSome = true -> n < 1000 := fun n h1 h2 => by
  obtain ⟨o, ho⟩ := FO.1 h2
  have := Ch.1 hnew0 _ (MQ ho)
  simpa [h1] using this
 have old : ∀ {n : Nat} {o' : Ob}, mkH hl n = some o' -> (∃ o, s.h n = some o /\ IB s.h hl (some o) o' /\ wkI s.h ι n = ι n) \/ (s.h n = none /\ (∃ t sz, o' = .arr t sz []) /\ wkI s.h ι n = .slice none 0 0) := by
  intro n o' ho'
  have hq := hob _ (MQ ho')
  dsimp only at hq
  cases hn : s.h n with
  | some o => rw [hn] at hq; exact .inl ⟨o, rfl, hq, by unfold wkI; rw [hn]; rfl⟩
  | none =>
   rw [hn] at hq
   cases o' with
   | arr t sz r => have e : r = [] := hq; subst e; exact .inr ⟨rfl, ⟨t, sz, rfl⟩, by unfold wkI; rw [hn]; rfl⟩
   | _ => exact hq.elim
 have blkold : ∀ {n b : Nat}, (mkH hl n).isSome = true -> blk (wkI s.h ι n) = some b -> (s.h n).isSome = true /\ blk (ι n) = some b := by
  intro n b hs hb
  obtain ⟨o', ho'⟩ := FO.1 hs
  rcases old ho' with ⟨o, h1, _, h3⟩ | ⟨_, _, h3⟩
  ·rw [h3] at hb; exact ⟨by rw [h1]; rfl, hb⟩
  ·rw [h3] at hb; cases hb
 refine ⟨wkM s.h hl ι M, wkI s.h ι, ⟨fun n o' ho' => ?_, fun n m b h1 h2 e1 e2 => ?_, fun n b hs hb => ?_, fun b hb => ?_, fun n b hs hb => ?_, hm.size, hm.keep, hm.os, hm.tape, hm.output, fun b hb => .inl (hm.base b hb), hm.tb, fun b hb => .inl (hm.tm b hb), fun b hb hM => ?_, fun n t sz r0 t' sz' rows hn h0 ho => ?_, fun n hn => ?_⟩, fun t => ?_, hg.dfr, hg.num⟩
 ·rcases old ho' with ⟨o, h1, h2, _⟩ | ⟨h1, ⟨t, sz, rfl⟩, h3⟩
  ·exact obR.wk hm hob h1 h2
  ·exact ⟨[], by rw [h3]; exact World.ownsRow_nil w 0 t sz, fun r hr => by simp at hr, fun x hx => by simp at hx, fun i j r v hi => by simp at hi⟩
 ·obtain ⟨a1, a2⟩ := blkold h1 e1
  obtain ⟨b1, b2⟩ := blkold h2 e2
  exact hm.dis n m b a1 b1 a2 b2
 ·obtain ⟨a1, a2⟩ := blkold hs hb
  rintro (hM | ⟨m, o2, c1, c2, c3⟩)
  ·exact hm.imm n b a1 a2 hM
  ·have := hm.dis n m b a1 (by rw [c1]; rfl) a2 c3
   subst this
   replace hs : (mkH hl n).isSome = true := hs
   rw [c2] at hs
   cases hs
 ·rcases hb with hb | ⟨m, o2, c1, c2, c3⟩
  ·exact hm.lt b hb
  ·exact hm.blt m b (by rw [c1]; rfl) c3
 ·obtain ⟨a1, a2⟩ := blkold hs hb
  exact hm.may n b a1 a2
 ·rcases hM with hM | ⟨m, o2, c1, c2, c3⟩
  ·exact hm.old b hb hM
  ·exact .inr ((hm.may m b (by rw [c1]; rfl) c3).resolve_right (by omega))
 ·rcases old ho with ⟨o, h1, h2, h3⟩ | ⟨h1, ⟨t2, sz2, e2⟩, _⟩
  ·rw [h3]
   cases o with
   | arr t2 sz2 r2 =>
    obtain ⟨_, _, rfl, _⟩ := h2
    exact hm.arr0 n t sz r0 _ _ _ hn h0 h1
   | _ => exact h2.elim
  ·replace ho : mkH hl n = some _ := ho
   exact absurd (hnew n h1 (by rw [ho]; rfl)) (by omega)
 ·refine ⟨fun t c hc => ?_, fun es hc => ?_⟩
  ·rcases old hc with ⟨o, h1, h2, h3⟩ | ⟨_, ⟨_, _, e⟩, _⟩
   ·rw [h3]
    cases o with
    | box t' c' => exact (hm.pin n hn).1 _ _ h1
    | _ => exact h2.elim
   ·cases e
  ·rcases old hc with ⟨o, h1, h2, h3⟩ | ⟨_, ⟨_, _, e⟩, _⟩
   ·rw [h3]
    cases o with
    | mp es' => exact (hm.pin n hn).2 _ h1
    | _ => exact h2.elim
   ·cases e
 ·rcases AbD (l := l) (t := t) with e | e
  ·show Rel _ _ _ _ (mkE l t) _
   rw [e]
   exact .pur (.any _)
  ·exact (hg.env t).wk hm hob (henv _ e)
end
def Ge (vs : List V) (t : Nat) : V := vs.getD t .any
inductive AR where
 | t (n : Nat)
 | c (sz : Option Nat) (a : Nat)
def trR (P : Program) : ResultVar -> Option AR
 | .tmp t => some (.t t)
 | .cell a ty => match BO P ty, szT P ty with
  | some ag, some k => some (.c (if ag then some k else none) a)
  | _, _ => none
def AR.res (s : St) : AR -> Res
 | .t n => .pure True (s.e n)
 | .c sz a => Hk s.h sz (s.e a)
def LD (tmps : Array Value) : ResultVar -> Sem Value
 | .tmp t => pure (tmps.getD t undef)
 | .cell p t => do loadVar t (<- asAddr (tmps.getD p undef))
theorem Ajq (fn : Func) (tmps : Array Value) : results fn tmps = (do let vs <- fn.results.mapM (LD tmps); pure (if h : vs.size = 1 then vs[0] else .tuple vs)) := rfl
def Di (rs : List AR) (s : St) : V :=
 match rs with
 | [r] => (r.res s).v
 | rs => .tup (rs.map fun r => (r.res s).v)
def Fx (rs : List AR) (s : St) : Prop := ∀ r ∈ rs, (r.res s).φ
section
variable {P : Program} {U : Tbl} {C : Ctx U} {h : Nat -> Option Ob} {w : World} {M : Nat -> Prop} {ι : Nat -> Value}
theorem Af4 {t : TypeId} {k : Nat} {ag : Bool} (hag : BO P t = some ag) (hs : szT P t = some k) (hm : Mem C h w M ι) {x : V} {cv : Value} (hx : Rel M w ι h x cv) (hφ : (Hk h (if ag then some k else none) x).φ) :
  ∃ ad v, cv = .pointer (some ad) /\ (loadVar t ad).run P w = .ok v w /\ Rel M w ι h (Hk h (if ag then some k else none) x).v v := by
 let o : Oper := { (default : Oper) with op := .load t (.const cv) }
 have fin : ∀ (g p : Nat) (vs : List V), cv = .pointer (some ⟨g, p, none⟩) -> HM M w ι h g p vs ->
   (ag = false -> 0 < vs.length -> ∃ ad v, cv = .pointer (some ad) /\ (loadVar t ad).run P w = .ok v w /\ Rel M w ι h (vs.getD 0 .any) v) /\ (ag = true -> k <= vs.length -> ∃ ad v, cv = .pointer (some ad) /\ (loadVar t ad).run P w = .ok v w /\ Rel M w ι h (.agg (vs.take k)) v) := by
  intro g p vs e hc
  refine ⟨fun e1 hl => ?_, fun e1 hl => ?_⟩
  ·subst e1
   obtain ⟨f, hf⟩ := hc
   obtain ⟨c1, _, c3⟩ := hf 0 _ (EG .any hl)
   rw [FS] at c1
   exact ⟨_, f 0, e, AcD hag c1, c3⟩
  ·subst e1
   obtain ⟨cs, h1, h2⟩ := AcC hag hs hc hl
   exact ⟨_, .agg cs, e, h1, h2⟩
 have get0 : ∀ (vs : List V) (off : Nat), (vs.drop off).getD 0 .any = vs.getD off .any := fun vs off => by simp [AI]
 unfold Hk at hφ ⊢
 cases x with
 | ptr n off =>
  dsimp only at hφ ⊢
  obtain ⟨b, t', cells, hn, hb, e⟩ := hx.ptr_inv
  rw [hn] at hφ ⊢
  obtain ⟨b', cs, e', _, _, hc⟩ := hm.box_cells hn
  rw [hb] at e'
  injection e' with e'; injection e' with e'; injection e' with e'
  subst e'
  have hc2 := hc.drop off
  rw [Cw] at hc2
  obtain ⟨f1, f2⟩ := fin _ _ _ e hc2
  cases ag
  ·have := f1 rfl (by rw [BT]; exact MB hφ)
   rw [get0] at this
   exact this
  ·exact f2 rfl (by rw [BT]; replace hφ : off + k <= cells.length := hφ; omega)
 | eptr n len i off =>
  dsimp only at hφ ⊢
  obtain ⟨t', sz, rows, hn, _, _, hv⟩ := hx.eptr_inv
  rw [hn] at hφ ⊢
  cases ag
  ·obtain ⟨e1, e2, e3⟩ := hφ
   obtain ⟨g, cap, hg, e⟩ := hv e1
   have := (fin _ _ _ e ((hm.arr_cells hn hg (EG [] e2)).drop off)).1 rfl (by rw [BT]; exact MB e3)
   rw [get0] at this
   exact this
  ·obtain ⟨e1, e2, e3⟩ := hφ
   obtain ⟨g, cap, hg, e⟩ := hv e1
   exact (fin _ _ _ e ((hm.arr_cells hn hg (EG [] e2)).drop off)).2 rfl (by rw [BT]; omega)
 | row vs off =>
  dsimp only at hφ ⊢
  obtain ⟨g, p, e, _, hc, _⟩ := hx.row_inv
  obtain ⟨f1, f2⟩ := fin _ _ _ e (hc.drop off)
  cases ag
  ·have := f1 rfl (by rw [BT]; exact MB hφ)
   rw [get0] at this
   exact this
  ·exact f2 rfl (by rw [BT]; replace hφ : off + k <= vs.length := hφ; omega)
 | _ => exact hφ.elim
theorem AcE {fn : Func} {rs : List AR} (hr : fn.results.toList.mapM (trR P) = some rs) {s : St} {a : Act} (hg : Good C s a w M ι) (hφ : Fx rs s) : ∃ cv, (results fn a.tmps).run P w = .ok cv w /\ Rel M w ι s.h (Di rs s) cv := by
 have key : ∀ (l : List ResultVar) (rs : List AR), l.mapM (trR P) = some rs -> Fx rs s -> ∃ cvs : List Value, (l.mapM (m := Sem) (LD a.tmps)).run P w = .ok cvs w /\ cvs.length = rs.length /\ ∀ (i : Nat) (v : V), (rs.map fun r => (r.res s).v)[i]? = some v -> Rel M w ι s.h v (cvs.getD i undef) := by
  intro l
  induction l with
  | nil => intro rs h1 h2; simp at h1; subst h1; exact ⟨[], rfl, rfl, fun i v hi => by simp at hi⟩
  | cons r l ih =>
   intro rs h1 h2
   rw [Ja] at h1
   cases h3 : trR P r with
   | none => rw [h3] at h1; cases h1
   | some ar =>
    rw [h3] at h1
    cases h4 : l.mapM (trR P) with
    | none => rw [h4] at h1; cases h1
    | some ars =>
     rw [h4] at h1
     have e : ar :: ars = rs := HB h1
     subst e
     obtain ⟨cvs, i1, i2, i3⟩ := ih ars h4 (fun q hq => h2 q (AU _ hq))
     have one : ∃ cv, (LD a.tmps r).run P w = .ok cv w /\ Rel M w ι s.h (ar.res s).v cv := by
      cases r with
      | tmp t => simp only [trR, BW] at h3; subst h3; exact ⟨_, rfl, hg.env t⟩
      | cell p t =>
       simp only [trR] at h3
       split at h3
       ·rename_i ag k g1 g2
        injection h3 with h3
        subst h3
        have hp := h2 _ (AJ ..)
        obtain ⟨ad, v, e1, e2, e3⟩ := Af4 g1 g2 hg.mem (hg.env p) hp
        exact ⟨v, by simp only [LD, e1, asAddr, AB, Bf, AP, e2], e3⟩
       ·cases h3
     obtain ⟨cv, o1, o2⟩ := one
     refine ⟨cv :: cvs, ?_, by simp [i2], fun i v hi => ?_⟩
     ·rw [Ja, AB, o1]
      simp only [AP, AB, i1, Bf]
     ·cases i with
      | zero => simp only [BP, Fs, BW] at hi; subst hi; exact o2
      | succ i => rw [BP, Ej] at hi; exact i3 i v hi
 obtain ⟨cvs, k1, k2, k3⟩ := key _ _ hr hφ
 have hA : (fn.results.mapM (m := Sem) (LD a.tmps)).run P w = .ok cvs.toArray w := by
  generalize fn.results = fr at k1
  obtain ⟨fl⟩ := fr
  have e2 : ((⟨fl⟩ : Array ResultVar).mapM (m := Sem) (LD a.tmps)) = List.toArray <$> (fl.mapM (m := Sem) (LD a.tmps)) := by simp
  rw [e2, Sem.run_map, k1]
  rfl
 rw [Ajq, AB, hA]
 simp only [AP, Bf]
 match rs, cvs, k2, k3 with
 | [r], [cv], _, k3 => exact ⟨cv, rfl, k3 0 _ rfl⟩
 | [], [], _, k3 => exact ⟨.tuple #[], rfl, .tup [] #[] rfl (fun i v hi => by simp at hi)⟩
 | r :: r2 :: rs, cv :: cv2 :: cvs, k2, k3 => exact ⟨.tuple (cv :: cv2 :: cvs).toArray, by rw [dif_neg (by simp)], .tup _ _ (by simpa using k2.symm) (fun i v hi => by have := k3 i v hi; simpa using this)⟩
theorem Ah.of_aw {U : Tbl} {f : Nat} {fn : Func} {c : Code} {rs : List AR} {g : List V -> Prop × V} (hf : P.funcs[f]? = some fn) (hb : fn.body = some c) (hname : (fn.name == "runtime.NumGoroutine") = false) (hr : fn.results.toList.mapM (trR P) = some rs)
  (hw : ∀ vs, (g vs).1 -> vs.length <= fn.ntmps /\ ∀ C : Ctx U, C.N = fn.ntmps -> AW P C c (fun e s' => (e = .ret \/ e = .normal) /\ Fx rs s' /\ Di rs s' = (g vs).2 /\ (Di rs s').pur = true) ⟨Ge vs, fun _ => none⟩) : Ah P U f g := by
 intro vs M w cargs hg
 refine ⟨⟨fn, hf, by rw [hb]; rfl, hname⟩, fun hB hT hsz hlt hargs => ?_⟩
 obtain ⟨hn, haw⟩ := hw vs hg
 let C : Ctx U := ⟨w, fun _ => False, fn.ntmps, M, fun _ => undef, fun _ => none⟩
 refine calls_of_wp hf hb ?_
 have hgood : Good C ⟨Ge vs, fun _ => none⟩ { tmps := cargs ++ Array.replicate (fn.ntmps - cargs.size) undef, defers := [] } w M (fun _ => undef) := by
  refine ⟨⟨fun n o ho => (by cases ho), fun n m b hs => (by cases hs), fun n b hs => (by cases hs), hlt, fun n b hs => (by cases hs), Az _, fun _ _ _ => rfl, rfl, rfl, rfl, fun _ hb => hb, hB, hT, fun _ _ hb => .inl hb, fun n t sz r0 t' sz' rows _ h0 => (by cases h0), fun n _ => ⟨fun t c hc => (by cases hc), fun es hc => (by cases hc)⟩⟩, fun t => ?_, rfl, ?_⟩
  ·show Rel M w _ _ (vs.getD t .any) _
   by_cases ht : t < vs.length
   ·have h1 := hargs t _ (EG .any ht)
    have e : (cargs ++ Array.replicate (fn.ntmps - cargs.size) undef).getD t undef = cargs.getD t undef := by
     simp only [Jc]
     rw [Array.getElem?_append_left (by omega)]
    rw [e]
    exact .pur h1
   ·rw [AI, List.getElem?_eq_none (by omega)]
    exact .pur (.any _)
  ·show (cargs ++ Array.replicate (fn.ntmps - cargs.size) undef).size = fn.ntmps
   simp only [Oc, Array.size_replicate]
   omega
 refine wp_mono (haw C rfl _ _ _ _ hgood) ?_
 rintro e a' w' ⟨s', M', ι', ⟨he, hφ, hv, hp⟩, hg'⟩
 obtain ⟨cv, r1, r2⟩ := AcE hr hg' hφ
 have hfin : ∃ (cv : Value) (M' : Nat -> Prop), Ending.returned cv = .returned cv /\ True := ⟨cv, M', rfl, trivial⟩
 have hpost : ∃ (cv' : Value) (M' : Nat -> Prop), Ending.returned cv = .returned cv' /\ Pur M' w' (g vs).2 cv' /\ (∀ b, M b -> M' b) /\ (∀ b, M' b -> b < w'.heap.size) /\ (∀ b, b < w.heap.size -> M' b -> M b) /\ Below w.heap.size w w' :=
  ⟨cv, M', rfl, by rw [<- hv]; exact r2.toPur hp, hg'.mem.base, hg'.mem.lt, fun b h1 h2 => (hg'.mem.old b h1 h2).resolve_right (fun h => h), ⟨hg'.mem.os, hg'.mem.tape, hg'.mem.output, hg'.mem.size, fun k hk => hg'.mem.keep k hk (fun h => h)⟩⟩
 rcases he with rfl | rfl
 ·exact ⟨hg'.dfr, cv, r1, hpost⟩
 ·exact ⟨hg'.dfr, cv, r1, hpost⟩
end
theorem AeX (b : Bool) : (b == true) = b := by cases b <;> rfl
theorem AeW (b : Bool) : (b == false) = !b := by cases b <;> rfl
theorem AeS (a b : Bool) : (bif a then b else false) = (a && b) := by cases a <;> rfl
theorem AeT (a b : Bool) : (bif a then true else b) = (a || b) := by cases a <;> rfl
theorem AfU {p : Prop} : (False -> p) = True := propext ⟨fun _ => trivial, fun _ h => h.elim⟩
theorem Aob {h : Nat -> Option Ob} {hl : List (Nat × Ob)} {v : V} : Wk h hl v .any ↔ True := ⟨fun _ => trivial, fun _ => .any v⟩
theorem Aoc {h : Nat -> Option Ob} {hl : List (Nat × Ob)} (a b : Bool) : Wk h hl (.bool a) (.bool b) ↔ a = b := ⟨fun w => by cases w; rfl, by rintro rfl; exact .same _ (by simp only [V.nin])⟩
theorem Aoh {h : Nat -> Option Ob} {hl : List (Nat × Ob)} (k : IntKind) (a b : Int) : Wk h hl (.int k a) (.int k b) ↔ a = b := ⟨fun w => by cases w; rfl, by rintro rfl; exact .same _ (by simp only [V.nin])⟩
theorem Aot {h : Nat -> Option Ob} {hl : List (Nat × Ob)} (a b : List UInt8) : Wk h hl (.str a) (.str b) ↔ a = b := ⟨fun w => by cases w; rfl, by rintro rfl; exact .same _ (by simp only [V.nin])⟩
theorem Aoj {h : Nat -> Option Ob} {hl : List (Nat × Ob)} (a b : List (List V)) (f g : Bool) : Wk h hl (.list a f) (.list b g) ↔ a = b /\ f = g := ⟨fun w => by cases w; exact ⟨rfl, rfl⟩, by rintro ⟨rfl, rfl⟩; exact .same _ (by simp only [V.nin])⟩
theorem Aos {h : Nat -> Option Ob} {hl : List (Nat × Ob)} (a b : List V) (f g : Nat) : Wk h hl (.row a f) (.row b g) ↔ a = b /\ f = g := ⟨fun w => by cases w; exact ⟨rfl, rfl⟩, by rintro ⟨rfl, rfl⟩; exact .same _ (by simp only [V.nin])⟩
theorem Aoo {h : Nat -> Option Ob} {hl : List (Nat × Ob)} : Wk h hl .nils .nils ↔ True := ⟨fun _ => trivial, fun _ => .same _ (by simp only [V.nin])⟩
theorem Aon {h : Nat -> Option Ob} {hl : List (Nat × Ob)} : Wk h hl .nilp .nilp ↔ True := ⟨fun _ => trivial, fun _ => .same _ (by simp only [V.nin])⟩
theorem Aom {h : Nat -> Option Ob} {hl : List (Nat × Ob)} : Wk h hl .nilm .nilm ↔ True := ⟨fun _ => trivial, fun _ => .same _ (by simp only [V.nin])⟩
theorem Ad0 {h : Nat -> Option Ob} {hl : List (Nat × Ob)} {n : Nat} {es : List (Ky × V)} (hn : h n = some (.mp es)) (h' : mkH hl n = none) (hp : ∀ kv ∈ es, kv.2.pur = true) : Wk h hl (.map n) (.fmap es) := .frzm n es hn h' hp
theorem Aoe {h : Nat -> Option Ob} {hl : List (Nat × Ob)} (a b : List (Ky × V)) : Wk h hl (.fmap a) (.fmap b) ↔ a = b := ⟨fun w => by cases w; rfl, by rintro rfl; exact .same _ (by simp only [V.nin])⟩
theorem Aoq {h : Nat -> Option Ob} {hl : List (Nat × Ob)} (a b : Value) : Wk h hl (.pin a) (.pin b) ↔ a = b := ⟨fun w => by cases w; rfl, by rintro rfl; exact .same _ (by simp only [V.nin])⟩
theorem Aor {h : Nat -> Option Ob} {hl : List (Nat × Ob)} (n m a b : Nat) : Wk h hl (.ptr n a) (.ptr m b) ↔ n = m /\ a = b /\ (hl.map (·.1)).contains n = true :=
 ⟨fun w => by cases w with | same _ hn => exact ⟨rfl, rfl, by simpa only [V.nin] using hn⟩, by rintro ⟨rfl, rfl, hc⟩; exact .same _ (by simpa only [V.nin] using hc)⟩
theorem Aod {h : Nat -> Option Ob} {hl : List (Nat × Ob)} (n m a b c d e f : Nat) : Wk h hl (.eptr n a c e) (.eptr m b d f) ↔ n = m /\ a = b /\ c = d /\ e = f /\ (hl.map (·.1)).contains n = true :=
 ⟨fun w => by cases w with | same _ hn => exact ⟨rfl, rfl, rfl, rfl, by simpa only [V.nin] using hn⟩, by rintro ⟨rfl, rfl, rfl, rfl, hc⟩; exact .same _ (by simpa only [V.nin] using hc)⟩
theorem Aop {h : Nat -> Option Ob} {hl : List (Nat × Ob)} (n m a b : Nat) : Wk h hl (.own n a) (.own m b) ↔ n = m /\ a = b /\ (hl.map (·.1)).contains n = true :=
 ⟨fun w => by cases w with | same _ hn => exact ⟨rfl, rfl, by simpa only [V.nin] using hn⟩, by rintro ⟨rfl, rfl, hc⟩; exact .same _ (by simpa only [V.nin] using hc)⟩
theorem Aoi {h : Nat -> Option Ob} {hl : List (Nat × Ob)} (t u : TypeId) (n m a b : Nat) : Wk h hl (.iown t n a) (.iown u m b) ↔ t = u /\ n = m /\ a = b /\ (hl.map (·.1)).contains n = true :=
 ⟨fun w => by cases w with | same _ hn => exact ⟨rfl, rfl, rfl, by simpa only [V.nin] using hn⟩, by rintro ⟨rfl, rfl, rfl, hc⟩; exact .same _ (by simpa only [V.nin] using hc)⟩
theorem Aok {h : Nat -> Option Ob} {hl : List (Nat × Ob)} (n m : Nat) : Wk h hl (.map n) (.map m) ↔ n = m /\ (hl.map (·.1)).contains n = true :=
 ⟨fun w => by cases w with | same _ hn => exact ⟨rfl, by simpa only [V.nin] using hn⟩, by rintro ⟨rfl, hc⟩; exact .same _ (by simpa only [V.nin] using hc)⟩
theorem Aoa {h : Nat -> Option Ob} {hl : List (Nat × Ob)} (a b : List V) : Wk h hl (.agg a) (.agg b) ↔ a = b /\ V.nins (hl.map (·.1)) a = true :=
 ⟨fun w => by cases w with | same _ hn => exact ⟨rfl, by simpa only [V.nin] using hn⟩, by rintro ⟨rfl, hc⟩; exact .same _ (by simpa only [V.nin] using hc)⟩
theorem Aou {h : Nat -> Option Ob} {hl : List (Nat × Ob)} (a b : List V) : Wk h hl (.tup a) (.tup b) ↔ a = b /\ V.nins (hl.map (·.1)) a = true :=
 ⟨fun w => by cases w with | same _ hn => exact ⟨rfl, by simpa only [V.nin] using hn⟩, by rintro ⟨rfl, hc⟩; exact .same _ (by simpa only [V.nin] using hc)⟩
theorem AdY {h : Nat -> Option Ob} {hl : List (Nat × Ob)} {n : Nat} {a : List V} (hn : V.nins (hl.map (·.1)) a = true) : Wk h hl (.fn n a) (.fn n a) := .same _ (by simpa only [V.nin] using hn)
theorem AdZ {h : Nat -> Option Ob} {hl : List (Nat × Ob)} {n off : Nat} {cells : List V} {t : TypeId} (hn : h n = some (.box t cells)) (h' : mkH hl n = none) (hp : V.purs cells = true) : Wk h hl (.ptr n off) (.row cells off) := .frzb n off t cells hn h' hp
theorem DO {h : Nat -> Option Ob} {hl : List (Nat × Ob)} {n len : Nat} {rows : List (List V)} {t : TypeId} {sz : Nat} (hn : h n = some (.arr t sz rows)) (hl' : rows.length = len) (h' : mkH hl n = none) (hp : ∀ r ∈ rows, V.purs r = true) : Wk h hl (.own n len) (.list rows false) := by
 subst hl'; exact .frz n t sz rows hn h' hp
theorem Ae6 (k : Nat) : ((k + 1 : Nat) : Int) = (k : Int) + 1 := by omega
theorem Aha (l : List UInt8) : (Ky.s l).kd = 0 := rfl
theorem Ag8 (n : Int) : (Ky.i n).kd = 1 := rfl
theorem Ahb (a b : List UInt8) : (Ky.ss a b).kd = 2 := rfl
theorem Ag9 (a : List UInt8) (n m : Int) (b : List UInt8) : (Ky.lg a n m b).kd = 3 := rfl
theorem AiN (x p q : Bool) : Cr (.bool x) (.bool p) (.bool q) = Res.pure True (.bool (bif x then p else q)) := by simp [Cr, V.strip, V.cnd]
theorem AiO (x h p q : Bool) : Cr (.bool x) (.when h (.bool p)) (.bool q) = Res.pure (x = true -> h = true) (.bool (bif x then p else q)) := by simp [Cr, V.strip, V.cnd]
theorem AiP (x p h q : Bool) : Cr (.bool x) (.bool p) (.when h (.bool q)) = Res.pure (x = false -> h = true) (.bool (bif x then p else q)) := by simp [Cr, V.strip, V.cnd]
theorem AiQ (x h p k q : Bool) : Cr (.bool x) (.when h (.bool p)) (.when k (.bool q)) = Res.pure ((x = true -> h = true) /\ (x = false -> k = true)) (.bool (bif x then p else q)) := by simp [Cr, V.strip, V.cnd]
theorem AiR (a : V) (q : Bool) : Cr (.bool false) a (.bool q) = Res.pure True (.bool q) := by
 cases a with
 | when b v => cases v <;> simp [Cr, V.strip, V.cnd, Res.pure]
 | _ => simp [Cr, V.strip, V.cnd, Res.pure]
theorem AiT (b : V) (p : Bool) : Cr (.bool true) (.bool p) b = Res.pure True (.bool p) := by
 cases b with
 | when b v => cases v <;> simp [Cr, V.strip, V.cnd, Res.pure]
 | _ => simp [Cr, V.strip, V.cnd, Res.pure]
theorem AiS (a : V) (k q : Bool) : Cr (.bool false) a (.when k (.bool q)) = Res.pure (k = true) (.bool q) := by
 cases a with
 | when b v => cases v <;> simp [Cr, V.strip, V.cnd, Res.pure]
 | _ => simp [Cr, V.strip, V.cnd, Res.pure]
theorem AiU (b : V) (k p : Bool) : Cr (.bool true) (.when k (.bool p)) b = Res.pure (k = true) (.bool p) := by
 cases b with
 | when b v => cases v <;> simp [Cr, V.strip, V.cnd, Res.pure]
 | _ => simp [Cr, V.strip, V.cnd, Res.pure]
theorem AiV (g x : Bool) (a b : V) : Cr (.when g (.bool x)) a b = Res.pure (g = true /\ (Cr (.bool x) a b).φ) (Cr (.bool x) a b).v := by
 simp only [Cr, V.strip, V.cnd]
 split <;> simp_all [Res.pure, Res.no]
attribute [go_sem] AiN AiO AiP AiQ AiR AiT AiS AiU AiV
attribute [go_sem] eq_self Aob Aoq Aoe Aoc Aoh Aot Aoj Aos Aoo Aon Aom Aor Aod Aop Aoi Aok Aoa Aou Int.ofNat_eq_coe Int.cast_ofNat_Int IB HL Ae6 List.length_map Int.toNat_natCast
attribute [go_sem] cond_true cond_false Po Pp HV V.nn1 List.isEmpty_cons List.isEmpty_nil Cl EP Fw Cg IN Hu Ht Fp.free BX hov rn rni Ob.ren BA true_or or_true Ob.nin Ob.kind V.ren V.rens AO.res AO.next AO.fp AO.rd AO.wr At rdF wrF gE Tz JN AOp.args AE.ev V.strip V.cnd V.shaped V.one V.cells V.nm V.isOwn V.leaf V.leaf1 V.pur V.purs V.nin V.nins FE DP upd BL Ci mkE mkH Ge
 Mf Pn AbT Pk Pu Pr Pj KL KK Pw KQ Fa Hk KS KM JF Pq KN Is Qv Ns JG Nt Pl Mx Ahb Ag9 Aha Ag8 Ly Nu KR KP Ps Pt EB HW Pv Pm EJ JU Option.toList_some Option.toList_none AE.slots List.replicate_zero putAt NM Res.pure Res.no Fp.indep KG LN KH Fu MF
 List.getD_cons_zero Ka List.getD_nil Av Ay CT Lx JZ HC List.drop_nil List.take_nil FR FQ Bl BP GR
 List.all_cons List.all_nil List.any_cons List.any_nil List.forall_mem_cons CS CF HD Dh Jb Bool.or_true Bool.true_or Oe Bool.false_or beq_self_eq_true AeX AeW AeS AeT true_and and_true forall_const implies_true true_implies bne_self_eq_false Cw
 AfU Oa List.flatMap_nil Nat.lt_add_one Bool.not_true Bool.not_false imp_self and_self ne_eq not_false_eq_true not_true_eq_false or_false false_or or_true true_or List.contains_cons List.contains_nil
theorem Ah.of_awQ {P : Program} {U : Tbl} {f : Nat} {fn : Func} {c : Code} {rs : List AR} {g : List V -> Prop × V} (hf : P.funcs[f]? = some fn) (hb : fn.body = some c) (hname : (fn.name == "runtime.NumGoroutine") = false) (hr : fn.results.toList.mapM (trR P) = some rs)
  (hw : ∀ vs, (g vs).1 -> vs.length <= fn.ntmps /\ ∀ (C : Ctx U), C.N = fn.ntmps -> ∀ Q : Exit -> St -> Prop, (∀ e s', e = .ret \/ e = .normal -> Fx rs s' -> Di rs s' = (g vs).2 -> (Di rs s').pur = true -> Q e s') -> AW P C c Q ⟨Ge vs, fun _ => none⟩) : Ah P U f g :=
 Ah.of_aw hf hb hname hr fun vs hv => let ⟨h1, h2⟩ := hw vs hv; ⟨h1, fun C hC => h2 C hC _ fun _ _ a b c d => ⟨a, b, c, d⟩⟩
section
variable {P : Program} {U : Tbl}
theorem Mem.ctx {C C' : Ctx U} {h : Nat -> Option Ob} {w : World} {M : Nat -> Prop} {ι : Nat -> Value} (hm : Mem C h w M ι) (e1 : C'.w0 = C.w0) (e2 : C'.X = C.X) (e3 : C'.M0 = C.M0) (e4 : C'.ι0 = C.ι0) (e5 : C'.h0 = C.h0) : Mem C' h w M ι := by
 obtain ⟨w0, X, N, M0, ι0, h0⟩ := C
 obtain ⟨w0', X', N', M0', ι0', h0'⟩ := C'
 dsimp only at e1 e2 e3 e4 e5
 subst e1 e2 e3 e4 e5
 exact ⟨hm.obj, hm.dis, hm.imm, hm.lt, hm.may, hm.size, hm.keep, hm.os, hm.tape, hm.output, hm.base, hm.tb, hm.tm, hm.old, hm.arr0, hm.pin⟩
theorem Eff.of_aw {f : Nat} {fn : Func} {c : Code} {rs : List AR} {vs : List V} {hl hl' : List (Nat × Ob)} {v : V} (hf : P.funcs[f]? = some fn) (hb : fn.body = some c) (hname : (fn.name == "runtime.NumGoroutine") = false) (hr : fn.results.toList.mapM (trR P) = some rs) (hn : vs.length <= fn.ntmps)
  (haw : ∀ C : Ctx U, C.N = fn.ntmps -> ∀ Q : Exit -> St -> Prop, (∀ e s' s'', e = .ret \/ e = .normal -> Le s' s'' -> s''.h = mkH hl' -> Fx rs s'' -> Di rs s'' = v -> Q e s') -> AW P C c Q ⟨Ge vs, mkH hl⟩) : Eff P U f vs hl v hl' := by
 refine .inl ⟨⟨fn, hf, by rw [hb]; rfl, hname⟩, fun w M ι cargs hm hsz hargs => ?_⟩
 let C : Ctx U := ⟨w, fun b => ∃ n, (mkH hl n).isSome = true /\ blk (ι n) = some b, fn.ntmps, M, ι, mkH hl⟩
 refine calls_of_wp hf hb ?_
 have hgood : Good C ⟨Ge vs, mkH hl⟩ { tmps := cargs ++ Array.replicate (fn.ntmps - cargs.size) undef, defers := [] } w M ι := by
  refine ⟨Mem.ctx hm rfl rfl rfl rfl rfl, fun t => ?_, rfl, ?_⟩
  ·show Rel M w _ _ (vs.getD t .any) _
   by_cases ht : t < vs.length
   ·have h1 := hargs t _ (EG .any ht)
    have e : (cargs ++ Array.replicate (fn.ntmps - cargs.size) undef).getD t undef = cargs.getD t undef := by
     simp only [Jc]
     rw [Array.getElem?_append_left (by omega)]
    rw [e]
    exact h1
   ·rw [AI, List.getElem?_eq_none (by omega)]
    exact .pur (.any _)
  ·show (cargs ++ Array.replicate (fn.ntmps - cargs.size) undef).size = fn.ntmps
   simp only [Oc, Array.size_replicate]
   omega
 refine wp_mono (haw C rfl (fun e s' => (e = .ret \/ e = .normal) /\ ∃ s'', Le s' s'' /\ s''.h = mkH hl' /\ Fx rs s'' /\ Di rs s'' = v) (fun e s' s'' h1 h2 h3 h4 h5 => ⟨h1, s'', h2, h3, h4, h5⟩) _ _ _ _ hgood) ?_
 rintro e a' w' ⟨s', M', ι', ⟨he, s'', h2, h3, h4, h5⟩, hg'⟩
 obtain ⟨M2, ι2, hg2⟩ := h2 U C a' w' M' ι' hg'
 obtain ⟨cv, r1, r2⟩ := AcE hr hg2 h4
 have hm2 := hg2.mem
 rw [h3] at hm2 r2
 rw [h5] at r2
 have hpost : ∃ (cv' : Value) (M' : Nat -> Prop) (ι' : Nat -> Value), Ending.returned cv = .returned cv' /\ Rel M' w' ι' (mkH hl') v cv' /\ Mem (U := U) ⟨w, fun b => ∃ n, (mkH hl n).isSome = true /\ blk (ι n) = some b, 0, M, ι, mkH hl⟩ (mkH hl') w' M' ι' :=
  ⟨cv, M2, ι2, rfl, r2, Mem.ctx hm2 rfl rfl rfl rfl rfl⟩
 rcases he with rfl | rfl
 ·exact ⟨hg2.dfr, cv, r1, hpost⟩
 ·exact ⟨hg2.dfr, cv, r1, hpost⟩
end
section
variable {P : Program} {U : Tbl}
theorem Ah.leaf {f : Nat} {fn : Func} {c : Code} {g : List V -> Prop × V} (hf : P.funcs[f]? = some fn) (hb : fn.body = some c) (hname : (fn.name == "runtime.NumGoroutine") = false)
  (h : ∀ (vs : List V) (M : Nat -> Prop) (w : World) (cargs : Array Value), (g vs).1 -> U.B w -> cargs.size = vs.length -> (∀ (i : Nat) (v : V), vs[i]? = some v -> Pur M w v (cargs.getD i undef)) ->
   Calls P f cargs w fun e w' => ∃ cv, e = .returned cv /\ (∀ M' : Nat -> Prop, Pur M' w' (g vs).2 cv) /\ Below w.heap.size w w') : Ah P U f g := by
 intro vs M w cargs hg
 refine ⟨⟨fn, hf, by rw [hb]; rfl, hname⟩, fun hB _ hsz hlt hargs => ?_⟩
 refine (h vs M w cargs hg hB hsz hargs).mono ?_
 rintro e w' ⟨cv, he, hp, hb⟩
 exact ⟨cv, M, he, hp M, fun _ h => h, fun b h => Je (hlt b h) hb.size, fun _ _ h => h, hb⟩
theorem Ah.sub {f : Nat} {g g' : List V -> Prop × V} (h : Ah P U f g) (hs : ∀ vs, (g' vs).1 -> (g vs).1 /\ (g vs).2 = (g' vs).2) : Ah P U f g' := by
 intro vs M w cargs hg
 obtain ⟨h1, h2⟩ := hs vs hg
 have := h vs M w cargs h1
 rw [h2] at this
 exact this
end
theorem Xd {cargs : Array Value} (h : cargs.size = 1) : cargs = #[cargs.getD 0 undef] := by
 obtain ⟨l⟩ := cargs
 match l, h with
 | [x], _ => rfl
theorem OV {cargs : Array Value} (h : cargs.size = 2) : cargs = #[cargs.getD 0 undef, cargs.getD 1 undef] := by
 obtain ⟨l⟩ := cargs
 match l, h with
 | [x, y], _ => rfl
theorem Pur.int_inv {M : Nat -> Prop} {w : World} {k : IntKind} {n : Int} {cv : Value} (h : Pur M w (.int k n) cv) : cv = .int k n := by cases h; rfl
theorem Pur.str_inv {M : Nat -> Prop} {w : World} {s : List UInt8} {cv : Value} (h : Pur M w (.str s) cv) : cv = .string ⟨s.toArray⟩ := by cases h; rfl
theorem pw1 : (2 : Int) ^ (1 : Nat) = 2 := rfl
theorem Ajb : (2 : Int) ^ (32 : Nat) = 4294967296 := rfl
attribute [go_sem] pw1 Ajb
theorem Ln {n : Int} : inK .u64 n ↔ 0 <= n /\ n <= 18446744073709551615 := by
 have : inK .u64 n = (n % 18446744073709551616 = n) := by simp [inK, IntKind.wrap, IntKind.bits, IntKind.signed]
 rw [this]; omega
theorem Aa8 {n : Int} : inK .i64 n ↔ inI n := by
 simp only [inK, inI, IntKind.wrap, IntKind.bits, IntKind.signed]
 simp
 omega
def EF0 : Nat -> Bool := fun _ => false
theorem AgX (b : Bool) : (b = false -> (!b) = true) = True := propext ⟨fun _ => trivial, fun _ h => by rw [h]; rfl⟩
theorem AgW (b : Bool) : ((!b) = true -> b = false) = True := propext ⟨fun _ => trivial, fun _ h => by cases b <;> simp_all⟩
theorem Aof {h : Nat -> Option Ob} {hl : List (Nat × Ob)} (n : Nat) : Wk h hl (.fn n []) (.fn n []) ↔ True := ⟨fun _ => trivial, fun _ => .same _ (by simp only [V.nin, V.nins])⟩
theorem Aol {h : Nat -> Option Ob} {hl : List (Nat × Ob)} (f : Bool) : Wk h hl .nils (.list [] f) ↔ True := ⟨fun _ => trivial, fun _ => .nill f⟩
attribute [go_sem] Pi PN Bt eqV CQ Aol EF0 Bool.false_eq_true if_false AgX AgW Aof Int.ofNat_lt Int.ofNat_le Int.natCast_nonneg decide_true decide_false
theorem IJ {P : Program} {U : Tbl} {C : Ctx U} {Q : Exit -> St -> Prop} {s : St} {t : Nat} {x y : Code} (hb : s.e t = .bool true) (h : AW P C x Q s) : AW P C (.cond (.tmp t) x y) Q s := Ae hb (fun _ => h) (fun e => by cases e)
theorem Da {P : Program} {U : Tbl} {C : Ctx U} {Q : Exit -> St -> Prop} {s : St} {t : Nat} {x y : Code} (hb : s.e t = .bool false) (h : AW P C y Q s) : AW P C (.cond (.tmp t) x y) Q s := Ae hb (fun e => by cases e) (fun _ => h)
noncomputable def gOf {α : Type} (args : α -> List V) (F : α -> Prop × V) (vs : List V) : Prop × V := open Classical in if h : ∃ a, args a = vs then F h.choose else (False, .any)
theorem Al {α : Type} {args : α -> List V} {F : α -> Prop × V} (inj : ∀ a b, args a = args b -> a = b) (a : α) : gOf args F (args a) = F a := by
 unfold gOf
 have h : ∃ b, args b = args a := ⟨a, rfl⟩
 rw [dif_pos h, inj _ _ h.choose_spec]
theorem Ah.ofArgs {α : Type} {args : α -> List V} {F : α -> Prop × V} {P : Program} {U : Tbl} {f : Nat} {fn : Func} {c : Code} {rs : List AR} (inj : ∀ a b, args a = args b -> a = b) (hf : P.funcs[f]? = some fn) (hb : fn.body = some c) (hname : (fn.name == "runtime.NumGoroutine") = false) (hr : fn.results.toList.mapM (trR P) = some rs)
  (hw : ∀ a, (F a).1 -> (args a).length <= fn.ntmps /\ ∀ (C : Ctx U), C.N = fn.ntmps -> ∀ Q : Exit -> St -> Prop, (∀ e s', e = .ret \/ e = .normal -> Fx rs s' -> Di rs s' = (F a).2 -> (Di rs s').pur = true -> Q e s') -> AW P C c Q ⟨Ge (args a), fun _ => none⟩) : Ah P U f (gOf args F) :=
 Ah.of_awQ hf hb hname hr fun vs hv => by
  by_cases h : ∃ a, args a = vs
  ·obtain ⟨a, rfl⟩ := h
   rw [Al inj] at hv ⊢
   exact hw a hv
  ·exfalso
   unfold gOf at hv
   rw [dif_neg h] at hv
   exact hv
theorem Cj {α β : Type} {f : α -> β} (h : ∀ a b, f a = f b -> a = b) : ∀ {l r : List α}, l.map f = r.map f -> l = r
 | [], [], _ => rfl
 | [], _ :: _, e => by cases e
 | _ :: _, [], e => by cases e
 | a :: l, b :: r, e => by
  rw [BP, BP] at e
  injection e with e1 e2
  rw [h _ _ e1, Cj h e2]
abbrev gNo : List V -> Prop × V := fun _ => (False, .any)
theorem Ah.no {P : Program} {U : Tbl} {f : Nat} : Ah P U f gNo := fun _ _ _ _ h => h.elim
theorem AhX (k : Ky) (v : V) : BM [] k v = [(k, v)] := rfl
theorem AbG (k' : Ky) (v' : V) (es : List (Ky × V)) (k : Ky) (v : V) : BM ((k', v') :: es) k v = if k' = k then (k, v) :: es else (k', v') :: BM es k v := by
 unfold BM
 rw [NY]
 by_cases h : k' = k
 ·simp [h]
 ·simp only [h, decide_false, BV, if_false]
  cases List.findIdx? (fun p => decide (p.1 = k)) es with
  | none => rfl
  | some j => rfl
theorem MP (k' : Ky) (v' : V) (es : List (Ky × V)) (k : Ky) (z : V) : CU ((k', v') :: es) k z = if k' = k then v' else CU es k z := by
 unfold CU
 rw [List.find?_cons]
 by_cases h : k' = k <;> simp [h]
theorem AhM (es : List (Ky × V)) (k j : Ky) (v z : V) : CU (BM es k v) j z = if k = j then v else CU es j z := by
 induction es with
 | nil => rw [AhX, MP]
 | cons p es ih =>
  obtain ⟨k', v'⟩ := p
  rw [AbG]
  by_cases h : k' = k
  ·subst h
   rw [if_pos rfl, MP, MP]
   by_cases e : k' = j
   ·rw [if_pos e, if_pos e]
   ·rw [if_neg e, if_neg e, if_neg e]
  ·rw [if_neg h, MP, MP, ih]
   by_cases e : k = j
   ·subst e; rw [if_neg h, if_pos rfl, if_pos rfl]
   ·rw [if_neg e, if_neg e]
theorem AhN (p : Ky × V) (es : List (Ky × V)) (k : Ky) : mhas (p :: es) k = (decide (p.1 = k) || mhas es k) := rfl
theorem TN {Q : Ky × V -> Prop} {es : List (Ky × V)} {k : Ky} {v : V} (h : ∀ p ∈ es, Q p) (hq : Q (k, v)) : ∀ p ∈ BM es k v, Q p := by
 unfold BM
 split
 ·intro p hp
  rcases List.mem_or_eq_of_mem_set hp with hp | rfl
  ·exact h p hp
  ·exact hq
 ·intro p hp
  rcases BU.1 hp with hp | hp
  ·exact h p hp
  ·rw [Bk] at hp; subst hp; exact hq
def seen (p : List (List UInt8)) (s : List UInt8) : Bool := decide (s ∈ p)
theorem Aj5 (p : List (List UInt8)) (x s : List UInt8) : seen (p ++ [x]) s = (seen p s || decide (x = s)) := by
 unfold seen
 by_cases h : s ∈ p <;> by_cases e : x = s <;> simp [h, e, eq_comm]
def FX (p : List (List UInt8)) : List (Ky × V) := p.foldl (fun es s => BM es (.s s) (.bool true)) []
theorem Oz (p : List (List UInt8)) (s : List UInt8) : BM (FX p) (.s s) (.bool true) = FX (p ++ [s]) := by
 unfold FX; rw [List.foldl_append]; rfl
theorem QT {Q : List (List UInt8) -> Prop} (h0 : Q []) (h1 : ∀ p s, Q p -> Q (p ++ [s])) (p : List (List UInt8)) : Q p := by
 rw [<- List.reverse_reverse p]
 induction p.reverse with
 | nil => exact h0
 | cons a l ih => rw [List.reverse_cons]; exact h1 _ _ ih
theorem AkS (p : List (List UInt8)) (s : List UInt8) : CU (FX p) (.s s) (.bool false) = .bool (seen p s) := by
 induction p using QT with
 | h0 => rfl
 | h1 p x ih =>
  rw [<- Oz, AhM, ih, Aj5]
  by_cases e : x = s
  ·subst e; rw [if_pos rfl, decide_eq_true rfl, Bool.or_true]
  ·rw [if_neg (fun h => e (by injection h)), decide_eq_false e, Oe]
theorem AkT (p : List (List UInt8)) : ∀ q ∈ FX p, q.1.kd = 0 := by
 induction p using QT with
 | h0 => intro q hq; cases hq
 | h1 p x ih => rw [<- Oz]; exact TN ih rfl
theorem AkW (p : List (List UInt8)) : ∀ q ∈ FX p, q.2.pur = true := by
 induction p using QT with
 | h0 => intro q hq; cases hq
 | h1 p x ih => rw [<- Oz]; exact TN ih rfl
theorem Ado (p : List (List UInt8)) : ∀ q ∈ FX p, q.2 = .bool true := by
 induction p using QT with
 | h0 => intro q hq; cases hq
 | h1 p x ih => rw [<- Oz]; exact TN ih rfl
theorem AkU (p : List (List UInt8)) : (∀ q ∈ FX p, q.1.kd = 0) ↔ True := iff_true_intro (AkT p)
theorem AkX (p : List (List UInt8)) : (∀ q ∈ FX p, q.2.pur = true) ↔ True := iff_true_intro (AkW p)
theorem AkV (d : List Nat) (p : List (List UInt8)) : (∀ q ∈ FX p, q.2.nin d = true) ↔ True := iff_true_intro fun q hq => by rw [Ado p q hq]; simp only [V.nin]
theorem AkY (σ : Nat -> Nat) (p : List (List UInt8)) : (FX p).map (fun q => (q.1, q.2.ren σ)) = FX p := by
 have : ∀ q ∈ FX p, (q.1, q.2.ren σ) = q := fun q hq => by
  obtain ⟨k, v⟩ := q
  have := Ado p _ hq
  dsimp only at this
  subst this
  simp only [V.ren]
 conv => rhs; rw [<- List.map_id (FX p)]
 exact Gw fun q hq => this q hq
attribute [go_sem] Oz AkS AkU AkX AkV AkY
def AOp.own : AOp -> AOp
 | .slc t sz _ ps => .slc t sz true ps
 | .mks t sz bytes zero n c => .mkv t sz bytes zero n c
 | o => o
def AO.own (o : AO) : AO := match o.g with
 | none => ⟨o.d, none, o.o.own⟩
 | some g => ⟨o.d, some g, o.o⟩
theorem Anx {P : Program} {op : Op} {t : TypeId} {sz : Nat} {ow : Bool} {ps : List AE} (h : AD P op = some (.slc t sz ow ps)) : ∃ t0 n parts, op = .buildSlice t0 n parts := by
 have mp : ∀ {α : Type} {x : Option α} {g : α -> AOp}, x.map g = some (.slc t sz ow ps) -> ∃ y, x = some y /\ g y = .slc t sz ow ps := fun h => AZ.1 h
 cases op with
 | buildSlice t0 n parts => exact ⟨t0, n, parts, rfl⟩
 | call c =>
  obtain ⟨callee, cargs, cts⟩ := c
  simp only [AD, Jr] at h
  repeat' split at h
  all_goals first | cases h | (obtain ⟨y, _, e⟩ := mp h; cases e)
 | slice t x lo hi mx =>
  cases mx with
  | some _ =>
   simp only [AD] at h
   repeat' split at h
   all_goals cases h
  | none =>
   simp only [AD] at h
   repeat' split at h
   all_goals cases h
 | makeMap t r => cases r with | none => cases h | some _ => cases h
 | makeFunc fn _ _ =>
  cases fn with
  | func f =>
   simp only [AD] at h
   split at h
   ·obtain ⟨y, _, e⟩ := mp h; cases e
   ·cases h
  | _ => cases h
 | _ =>
  simp only [AD] at h
  repeat' split at h
  all_goals first | cases h | (obtain ⟨y, _, e⟩ := mp h; cases e)
theorem Anw {P : Program} {op : Op} {t : TypeId} {sz bytes : Nat} {zero : List V} {n c : AE} (h : AD P op = some (.mks t sz bytes zero n c)) : ∃ t0 n0 c0, op = .makeSlice t0 n0 c0 := by
 have mp : ∀ {α : Type} {x : Option α} {g : α -> AOp}, x.map g = some (.mks t sz bytes zero n c) -> ∃ y, x = some y /\ g y = .mks t sz bytes zero n c := fun h => AZ.1 h
 cases op with
 | makeSlice t0 n0 c0 => exact ⟨t0, n0, c0, rfl⟩
 | call c =>
  obtain ⟨callee, cargs, cts⟩ := c
  simp only [AD, Jr] at h
  repeat' split at h
  all_goals first | cases h | (obtain ⟨y, _, e⟩ := mp h; cases e)
 | slice t x lo hi mx =>
  cases mx with
  | some _ =>
   simp only [AD] at h
   repeat' split at h
   all_goals cases h
  | none =>
   simp only [AD] at h
   repeat' split at h
   all_goals cases h
 | makeMap t r => cases r with | none => cases h | some _ => cases h
 | makeFunc fn _ _ =>
  cases fn with
  | func f =>
   simp only [AD] at h
   split at h
   ·obtain ⟨y, _, e⟩ := mp h; cases e
   ·cases h
  | _ => cases h
 | _ =>
  simp only [AD] at h
  repeat' split at h
  all_goals first | cases h | (obtain ⟨y, _, e⟩ := mp h; cases e)
section
variable {P : Program} {U : Tbl} {C : Ctx U} {G : Tab} {ops : Array Oper} {o : Oper} {s : St} {Q : Exit -> St -> Prop}
theorem Aka {h : Nat -> Option Ob} {w : World} {M : Nat -> Prop} {ι : Nat -> Value} {a : Act} {E : AE -> V} {d : Nat} {ao : AOp} (ho : AD P o.op = some ao) (hG : ∀ f, Ah P U f (G f)) (hm : Mem C h w M ι) (hx : ∀ x0 y, y ∈ ao.args -> trE x0 = some y -> Rel M w ι h (E y) (a.eval x0)) : Sim P G C h w M ι o a E d ao.own := by
 cases ao with
 | slc t sz ow ps =>
  obtain ⟨t0, n, parts, hop⟩ := Anx ho
  rw [hop] at ho
  simp only [AD] at ho
  split at ho
  ·rename_i e ht
   split at ho
   ·rename_i i hi
    split at ho
    ·rename_i z hz
     split at ho
     ·rename_i hc
      obtain ⟨c1, c3, c4⟩ := hc
      obtain ⟨qs, hq, he⟩ := AZ.1 ho
      injection he with he1 he2 he3 he4
      subst he1 he2 he4
      exact Adi true hop ht (by unfold szT; rw [hi]; rfl) hi hz c1 c3 c4 hq hm (fun x0 y hm1 he => hx x0 y (UD hq x0 y hm1 he) he)
     ·cases ho
    ·cases ho
   ·cases ho
  ·cases ho
 | mks t sz bytes zero n c =>
  obtain ⟨t0, n0, c0, hop⟩ := Anw ho
  rw [hop] at ho
  simp only [AD] at ho
  split at ho
  ·rename_i e ht
   split at ho
   ·rename_i i n' c' h1 h2 h3
    split at ho
    ·rename_i z hz
     split at ho
     ·rename_i hc
      obtain ⟨c1, c2, c3⟩ := hc
      injection ho with ho
      injection ho with q1 q2 q3 q4 q5 q6
      subst q1 q2 q3 q4 q5 q6
      exact AkA hop ht h1 hz rfl rfl c2 c1 c3 hm (hx n0 n' (by simp [AOp.args]) h2) (hx c0 c' (by simp [AOp.args]) h3)
     ·cases ho
    ·cases ho
   ·cases ho
  ·cases ho
 | _ => exact sim ho hG hm hx
theorem Alm {ao : AO} (ht : trO P C.N ops o = some ao) (hG : ∀ f, Ah P U f (G f)) {a : Act} {w : World} {M : Nat -> Prop} {ι : Nat -> Value} (hg : Good C s a w M ι) (hφ : (ao.own.res G s).φ) {K : Act -> World -> Prop} {Q : Exit -> Act -> World -> Prop}
  (hK : ∀ a' w' M' ι', Good C (ao.own.next G s) a' w' M' ι' -> K a' w') : if Region.wanted o (yielded ops a.tmps) = true then o.wp P a w K Q else K (a.put o.dst undef) w := by
 obtain ⟨op, hop, hd, e1, e2, hgu⟩ := Re ht
 obtain ⟨d, g, ao'⟩ := ao
 dsimp only at e1 e2 hgu
 rcases hgu with ⟨g1, rfl⟩ | ⟨j, want, t, g1, hj, hlt, rfl⟩
 ·subst e1 e2
  rw [if_pos (by simp [Region.wanted, g1])]
  have hs := Aka (d := o.dst.getD 0) hop hG hg.mem (E := AE.ev s.e) (fun x0 y _ hy => trE_rel hg.env hy) hφ
  refine hs K Q (fun cv w' ha => ?_)
  obtain ⟨M', ι', h1⟩ := hg.next (d := o.dst) hd ha
  exact hK _ _ M' ι' h1
 ·exact UP ht hG hg hφ hK
theorem AfS {EF : Nat -> Bool} {ao : AO} {f : Nat} {us : List V} (h : Cg EF ao.own s = some (f, us)) : ao.own = ao := by
 obtain ⟨d, g, o⟩ := ao
 cases g with
 | some g => rfl
 | none => cases o <;> first | rfl | (simp [Cg, AO.own, AOp.own] at h; done)
theorem Vt {ops : Array Oper} {Q' : Exit -> Act -> World -> Prop} {EF : Nat -> Bool} (hG : ∀ f, Ah P U f (G f)) {K : St -> Prop} (hK : ∀ s' a' w' M' ι', K s' -> Good C s' a' w' M' ι' -> Q' .normal a' w') : ∀ (l : List Oper) (aos : List AO), l.mapM (trO P C.N ops) = some aos ->
  ∀ (s : St) (a : Act) (w : World) (M : Nat -> Prop) (ι : Nat -> Value), Good C s a w M ι -> Cl P U EF G (aos.map AO.own) s K -> wpList P ops Q' l a w
 | [], aos, ht, s, a, w, M, ι, hg, h => by
  simp at ht
  subst ht
  exact wpList_nil (hK s a w M ι h hg)
 | o :: l, aos, ht, s, a, w, M, ι, hg, h => by
  rw [Ja] at ht
  cases h1 : trO P C.N ops o with
  | none => rw [h1] at ht; cases ht
  | some ao =>
   rw [h1] at ht
   cases h2 : l.mapM (trO P C.N ops) with
   | none => rw [h2] at ht; cases ht
   | some aos' =>
    rw [h2] at ht
    have e : ao :: aos' = aos := HB ht
    subst e
    rw [BP] at h
    unfold Cl at h
    refine wpList_step fun K2 hK2 => ?_
    split at h
    ·rename_i f us he
     have eo := AfS he
     rw [eo] at he h
     exact OB h1 hg he h fun s' a' w' M' ι' h3 hg' => hK2 _ _ (Vt hG hK l aos' h2 s' a' w' M' ι' hg' h3)
    ·obtain ⟨p1, p2⟩ := h
     exact Alm h1 hG hg p1 fun a' w' M' ι' hg' => hK2 _ _ (Vt hG hK l aos' h2 _ a' w' M' ι' hg' p2)
theorem AeP {id : Nat} {ops : Array Oper} {aos : List AO} {EF : Nat -> Bool} (hG : ∀ f, Ah P U f (G f)) (ht : ops.toList.mapM (trO P C.N ops) = some aos) (h : Cl P U EF G (aos.map AO.own) s (Q .normal)) : AW P C (.region id ops false) Q s := fun a w M ι hg =>
 wp_region_list (Vt hG (K := Q .normal) (fun s' a' w' M' ι' h1 h2 => ⟨s', M', ι', h1, h2⟩) ops.toList aos ht s a w M ι hg h)
theorem Vu {ops : Array Oper} {Q' : Exit -> Act -> World -> Prop} {EF : Nat -> Bool} (hG : ∀ f, Ah P U f (G f)) {K : St -> Prop} (hK : ∀ s' a' w' M' ι', K s' -> Good C s' a' w' M' ι' -> Q' .normal a' w') : ∀ (l : List Oper) (aos : List AO), l.mapM (trO P C.N ops) = some aos ->
  ∀ (s : St) (a : Act) (w : World) (M : Nat -> Prop) (ι : Nat -> Value), Good C s a w M ι -> Cl P U EF G (aos.map AO.wrp) s K -> wpList P ops Q' l a w
 | [], aos, ht, s, a, w, M, ι, hg, h => by
  simp at ht
  subst ht
  exact wpList_nil (hK s a w M ι h hg)
 | o :: l, aos, ht, s, a, w, M, ι, hg, h => by
  rw [Ja] at ht
  cases h1 : trO P C.N ops o with
  | none => rw [h1] at ht; cases ht
  | some ao =>
   rw [h1] at ht
   cases h2 : l.mapM (trO P C.N ops) with
   | none => rw [h2] at ht; cases ht
   | some aos' =>
    rw [h2] at ht
    have e : ao :: aos' = aos := HB ht
    subst e
    rw [BP] at h
    unfold Cl at h
    refine wpList_step fun K2 hK2 => ?_
    split at h
    ·rename_i f us he
     have eo := Yk he
     rw [eo] at he h
     exact OB h1 hg he h fun s' a' w' M' ι' h3 hg' => hK2 _ _ (Vu hG hK l aos' h2 s' a' w' M' ι' hg' h3)
    ·obtain ⟨p1, p2⟩ := h
     exact Adx h1 hG hg p1 fun a' w' M' ι' hg' => hK2 _ _ (Vu hG hK l aos' h2 _ a' w' M' ι' hg' p2)
theorem OY {id : Nat} {ops : Array Oper} {aos : List AO} {EF : Nat -> Bool} (hG : ∀ f, Ah P U f (G f)) (ht : ops.toList.mapM (trO P C.N ops) = some aos) (h : Cl P U EF G (aos.map AO.wrp) s (Q .normal)) : AW P C (.region id ops false) Q s := fun a w M ι hg =>
 wp_region_list (Vu hG (K := Q .normal) (fun s' a' w' M' ι' h1 h2 => ⟨s', M', ι', h1, h2⟩) ops.toList aos ht s a w M ι hg h)
end
attribute [go_sem] AO.own AOp.own AO.wrp AOp.wrp List.map_cons List.map_nil
theorem idW {P : Program} {U : Tbl} {C : Ctx U} {c : Code} {Q : Exit -> St -> Prop} {s : St} (h : AW P C c Q s) : AW P C c Q s := h
theorem idS {P : Program} {U : Tbl} {d : Option Nat} {f : Nat} {vs : List V} {s : St} {K : St -> Prop} (h : CX P U d f vs s K) : CX P U d f vs s K := h
theorem hcL : (∀ (p : Prop) [Decidable p], (decide p = true) = p) /\ (∀ (p : Prop) [Decidable p], decide p = false ↔ ¬p) /\ (∀ a b : Bool, ((a && b) = true) = (a = true /\ b = true)) /\ (∀ a b : Bool, ((a || b) = true) = (a = true \/ b = true)) /\
  (∀ b : Bool, ((!b) = true) = (b = false)) /\ (∀ b : Bool, ((!b) = false) = (b = true)) /\ (∀ a b : Bool, (a && b) = false ↔ a = false \/ b = false) /\ (∀ a b : Bool, (a || b) = false ↔ a = false /\ b = false) /\
  (∀ m n : Nat, (m : Int) < n ↔ m < n) /\ (∀ m n : Nat, (m : Int) <= n ↔ m <= n) /\ (∀ m n : Nat, ¬ m < n ↔ n <= m) /\ (∀ m n : Nat, ¬ m <= n ↔ n < m) /\ (∀ m n : Int, ¬ m < n ↔ n <= m) /\ (∀ m n : Int, ¬ m <= n ↔ n < m) :=
 ⟨fun _ _ => decide_eq_true_eq, fun _ _ => decide_eq_false_iff_not, fun a b => By a b, fun a b => EW a b, fun b => by cases b <;> simp, fun b => by cases b <;> simp, fun a b => by cases a <;> simp, fun a b => by cases a <;> simp,
  fun _ _ => Int.ofNat_lt, fun _ _ => Int.ofNat_le, fun _ _ => Nat.not_lt, fun _ _ => Nat.not_le, fun _ _ => Int.not_lt, fun _ _ => Int.not_le⟩
theorem sdA {p : Prop} (h : p := by first | omega | ((fail_if_success refine idW ?_); (fail_if_success refine idS ?_); intros; (repeat' apply And.intro) <;> first | assumption | omega | (simp_all; done)) | fail) : p := h
theorem leA {p : Prop} (h : p := by first | rfl | exact AdZ rfl rfl rfl | exact AdY rfl | exact .nilo _ _ _ rfl rfl | exact Ad0 rfl rfl (fun kv hk => by obtain ⟨_, _, rfl⟩ := An.1 hk; rfl) | fail) : p := h
def ar {α β : Type} (e : α -> V) (f : β -> List V) (x : α × β) : List V := e x.1 :: f x.2
def ao {α : Type} (e : α -> V) (x : α) : List V := [e x]
def vg {α : Type} (f : α -> List V) (x : α) : V := .agg (f x)
def vl {α : Type} (f : α -> List V) (x : List α) : V := .list (x.map f) false
def vi (n : Int) : V := .int .i64 n
attribute [go_sem, simp] ar ao vg vl vi
abbrev Ij {α β : Type} (f : α -> β) : Prop := ∀ a b, f a = f b -> a = b
section
variable {α β : Type} {e : α -> V} {g : β -> List V} {f : α -> List V}
theorem ijr (h : Ij e) (k : Ij g) : Ij (ar e g) := fun _ _ q => Prod.ext (h _ _ (List.cons.inj q).1) (k _ _ (List.cons.inj q).2)
theorem ijo (h : Ij e) : Ij (ao e) := fun _ _ q => h _ _ (List.cons.inj q).1
theorem ijg (h : Ij f) : Ij (vg f) := fun _ _ q => h _ _ (V.agg.inj q)
theorem ijl (h : Ij f) : Ij (vl f) := fun _ _ q => Qi (fun a b => h a b) |>.1 (V.list.inj q).1
theorem iji : Ij vi := fun _ _ q => (V.int.inj q).2
theorem ijs : Ij V.str := fun _ _ q => V.str.inj q
end
end Go.Proofs.YtjkclhbckfkeeaaGreatDoor
