import Derived.Test.YtjkclhbckfkeeaaGreatDoorAv22
import Derived.LoopN
import Derived.Test.YtjkclhbckfkeeaaGreatDoorProg
set_option linter.unusedSimpArgs false
set_option linter.unusedVariables false
set_option linter.deprecated false
namespace Go.Proofs.YtjkclhbckfkeeaaGreatDoor
open Go Go.RowKit
def TC (P : Program) (U : Tbl) (N : Nat) (c : Code) (Q : Exit -> St -> Prop) (s : St) : Prop :=
 ∃ e s', Q e s' /\ ∀ (C : Ctx U), C.N = N -> ∀ Q' : Exit -> St -> Prop, Q' e s' -> AW P C c Q' s
section
variable {P : Program} {U : Tbl} {N : Nat} {Q : Exit -> St -> Prop} {s : St}
theorem TC.le {c : Code} {s' : St} (hl : Le s s') (h : TC P U N c Q s') : TC P U N c Q s :=
 let ⟨e, t, h1, k⟩ := h; ⟨e, t, h1, fun C hC Q' hq => (k C hC Q' hq).le hl⟩
theorem Af (h : Q .normal s) : TC P U N .skip Q s := ⟨_, s, h, fun _ _ _ hq => Ah hq⟩
theorem AX {id : Nat} (h : Q (.exit id) s) : TC P U N (.exit id) Q s := ⟨_, s, h, fun _ _ _ hq => Be hq⟩
theorem Ae (h : Q .ret s) : TC P U N .ret Q s := ⟨_, s, h, fun _ _ _ hq => Ag hq⟩
theorem Aa {x y : Code} (h : TC P U N x (KP (TC P U N y Q) Q) s) : TC P U N (.seq x y) Q s := by
 obtain ⟨e, t, h1, k1⟩ := h
 cases e with
 | normal =>
  obtain ⟨e2, t2, h2, k2⟩ := h1
  exact ⟨e2, t2, h2, fun C hC Q' hq => Ab (k1 C hC _ (k2 C hC Q' hq))⟩
 | exit id => exact ⟨_, t, h1, fun C hC Q' hq => Ab (k1 C hC _ hq)⟩
 | goto l => exact ⟨_, t, h1, fun C hC Q' hq => Ab (k1 C hC _ hq)⟩
 | ret => exact ⟨_, t, h1, fun C hC Q' hq => Ab (k1 C hC _ hq)⟩
 | panic ch => exact ⟨_, t, h1, fun C hC Q' hq => Ab (k1 C hC _ hq)⟩
 | outgrown => exact ⟨_, t, h1, fun C hC Q' hq => Ab (k1 C hC _ hq)⟩
theorem TC.mono {c : Code} {Q' : Exit -> St -> Prop} (h : TC P U N c Q s) (hq : ∀ e s, Q e s -> Q' e s) : TC P U N c Q' s :=
 let ⟨e, t, h1, k⟩ := h; ⟨e, t, hq _ _ h1, k⟩
theorem DT {x y : Code} {α : Type} (I : α -> Prop) (st : α -> St) (h : ∀ K : St -> Prop, (∀ g s', I g -> Le s' (st g) -> K s') -> TC P U N x (KP K Q) s) (h2 : ∀ g, I g -> TC P U N y Q (st g)) : TC P U N (.seq x y) Q s :=
 Aa ((h (fun s' => ∃ g, I g /\ Le s' (st g)) fun g s' h1 h2 => ⟨g, h1, h2⟩).mono fun e s' hq => by
  cases e with
  | normal =>
   obtain ⟨g, hg, hl⟩ := hq
   exact (h2 g hg).le hl
  | exit id => exact hq
  | goto l => exact hq
  | ret => exact hq
  | panic ch => exact hq
  | outgrown => exact hq)
theorem Aq {id : Nat} {c : Code} (h : TC P U N c (JP id Q) s) : TC P U N (.block id c) Q s := by
 obtain ⟨e, t, h1, k⟩ := h
 cases e with
 | exit id' =>
  simp only [JP] at h1
  by_cases e : id' = id
  ·rw [if_pos e] at h1
   exact ⟨_, t, h1, fun C hC Q' hq => Ar (k C hC _ (by simp only [JP]; rw [if_pos e]; exact hq))⟩
  rw [if_neg e] at h1
  exact ⟨_, t, h1, fun C hC Q' hq => Ar (k C hC _ (by simp only [JP]; rw [if_neg e]; exact hq))⟩
 | normal => exact ⟨_, t, h1, fun C hC Q' hq => Ar (k C hC _ hq)⟩
 | goto l => exact ⟨_, t, h1, fun C hC Q' hq => Ar (k C hC _ hq)⟩
 | ret => exact ⟨_, t, h1, fun C hC Q' hq => Ar (k C hC _ hq)⟩
 | panic ch => exact ⟨_, t, h1, fun C hC Q' hq => Ar (k C hC _ hq)⟩
 | outgrown => exact ⟨_, t, h1, fun C hC Q' hq => Ar (k C hC _ hq)⟩
theorem Ad {t : Nat} {x y : Code} {b : Bool} (hb : s.e t = .bool b) (h1 : b = true -> TC P U N x Q s) (h2 : b = false -> TC P U N y Q s) : TC P U N (.cond (.tmp t) x y) Q s := by
 cases b with
 | true =>
  obtain ⟨e, t, h, k⟩ := h1 rfl
  exact ⟨e, t, h, fun C hC Q' hq => Ai hb (fun _ => k C hC Q' hq) fun e => by cases e⟩
 | false =>
  obtain ⟨e, t, h, k⟩ := h2 rfl
  exact ⟨e, t, h, fun C hC Q' hq => Ai hb (fun e => by cases e) fun _ => k C hC Q' hq⟩
theorem Amp {t : Nat} {x y : Code} (hb : s.e t = .bool true) (h : TC P U N x Q s) : TC P U N (.cond (.tmp t) x y) Q s := Ad hb (fun _ => h) (fun e => by cases e)
theorem Amo {t : Nat} {x y : Code} (hb : s.e t = .bool false) (h : TC P U N y Q s) : TC P U N (.cond (.tmp t) x y) Q s := Ad hb (fun e => by cases e) (fun _ => h)
theorem Ba {c : Code} {α : Type} (I : α -> Prop) (st : α -> St) (μ : α -> Nat) (g0 : α) (h0 : I g0) (hl : Le s (st g0))
  (round : ∀ g, I g -> ∀ K : St -> Prop, (∀ g' s', I g' -> μ g' < μ g -> Le s' (st g') -> K s') -> TC P U N c (KP K Q) (st g)) : TC P U N (.loop c) Q s := by
 have key : ∀ m g, μ g <= m -> I g -> ∃ e s' n, Q e s' /\ ∀ (C : Ctx U), C.N = N -> ∀ Q' : Exit -> St -> Prop, Q' e s' -> ∀ a w M ι, Good C (st g) a w M ι -> Code.rounds P c (fun e a' w' => ∃ s' M' ι', Q' e s' /\ Good C s' a' w' M' ι') n a w := by
  intro m
  induction m with
  | zero =>
   intro g hm hi
   obtain ⟨e, s1, h1, k1⟩ := round g hi (fun _ => False) fun g' _ _ h2 _ => absurd h2 (by omega)
   have out : ∀ e, e ≠ .normal -> (∀ (C : Ctx U), C.N = N -> ∀ Q' : Exit -> St -> Prop, Q' e s1 -> AW P C c Q' (st g)) -> ∀ (C : Ctx U), C.N = N -> ∀ Q' : Exit -> St -> Prop, Q' e s1 -> ∀ a w M ι, Good C (st g) a w M ι -> Code.rounds P c (fun e a' w' => ∃ s' M' ι', Q' e s' /\ Good C s' a' w' M' ι') 1 a w := fun e he k C hC Q' hq a w M ι hg => by
    rw [rounds_succ]
    refine wp_mono (k C hC (fun e' t => e' = e /\ t = s1) ⟨rfl, rfl⟩ a w M ι hg) ?_
    rintro e' a' w' ⟨t, M', ι', ⟨rfl, rfl⟩, hg'⟩
    cases e' with
    | normal => exact absurd rfl he
    | exit id => exact ⟨t, M', ι', hq, hg'⟩
    | goto l => exact ⟨t, M', ι', hq, hg'⟩
    | ret => exact ⟨t, M', ι', hq, hg'⟩
    | panic ch => exact ⟨t, M', ι', hq, hg'⟩
    | outgrown => exact ⟨t, M', ι', hq, hg'⟩
   cases e with
   | normal => exact h1.elim
   | exit id => exact ⟨_, s1, 1, h1, out _ (by simp) k1⟩
   | goto l => exact ⟨_, s1, 1, h1, out _ (by simp) k1⟩
   | ret => exact ⟨_, s1, 1, h1, out _ (by simp) k1⟩
   | panic ch => exact ⟨_, s1, 1, h1, out _ (by simp) k1⟩
   | outgrown => exact ⟨_, s1, 1, h1, out _ (by simp) k1⟩
  | succ m ih =>
   intro g hm hi
   obtain ⟨e, s1, h1, k1⟩ := round g hi (fun s' => ∃ g', I g' /\ μ g' < μ g /\ Le s' (st g')) fun g' s' a b c => ⟨g', a, b, c⟩
   have out : ∀ e, e ≠ .normal -> (∀ (C : Ctx U), C.N = N -> ∀ Q' : Exit -> St -> Prop, Q' e s1 -> AW P C c Q' (st g)) -> ∀ (C : Ctx U), C.N = N -> ∀ Q' : Exit -> St -> Prop, Q' e s1 -> ∀ a w M ι, Good C (st g) a w M ι -> Code.rounds P c (fun e a' w' => ∃ s' M' ι', Q' e s' /\ Good C s' a' w' M' ι') 1 a w := fun e he k C hC Q' hq a w M ι hg => by
    rw [rounds_succ]
    refine wp_mono (k C hC (fun e' t => e' = e /\ t = s1) ⟨rfl, rfl⟩ a w M ι hg) ?_
    rintro e' a' w' ⟨t, M', ι', ⟨rfl, rfl⟩, hg'⟩
    cases e' with
    | normal => exact absurd rfl he
    | exit id => exact ⟨t, M', ι', hq, hg'⟩
    | goto l => exact ⟨t, M', ι', hq, hg'⟩
    | ret => exact ⟨t, M', ι', hq, hg'⟩
    | panic ch => exact ⟨t, M', ι', hq, hg'⟩
    | outgrown => exact ⟨t, M', ι', hq, hg'⟩
   cases e with
   | normal =>
    obtain ⟨g', hi', hlt, hle⟩ := h1
    obtain ⟨e2, s2, n, h2, k2⟩ := ih g' (by omega) hi'
    refine ⟨e2, s2, n + 1, h2, fun C hC Q' hq a w M ι hg => ?_⟩
    rw [rounds_succ]
    refine wp_mono (k1 C hC (fun e' t => e' = .normal /\ t = s1) ⟨rfl, rfl⟩ a w M ι hg) ?_
    rintro e' a' w' ⟨t, M', ι', ⟨rfl, rfl⟩, hg'⟩
    obtain ⟨M2, ι2, hg2⟩ := hle U C a' w' M' ι' hg'
    exact k2 C hC Q' hq a' w' M2 ι2 hg2
   | exit id => exact ⟨_, s1, 1, h1, out _ (by simp) k1⟩
   | goto l => exact ⟨_, s1, 1, h1, out _ (by simp) k1⟩
   | ret => exact ⟨_, s1, 1, h1, out _ (by simp) k1⟩
   | panic ch => exact ⟨_, s1, 1, h1, out _ (by simp) k1⟩
   | outgrown => exact ⟨_, s1, 1, h1, out _ (by simp) k1⟩
 obtain ⟨e, s', n, h1, k⟩ := key (μ g0) g0 (AF _) h0
 refine ⟨e, s', h1, fun C hC Q' hq => AW.le hl fun a w M ι hg => wp_loop_rounds n (k C hC Q' hq a w M ι hg)⟩
variable {G : Tab}
theorem MC {EF : Nat -> Bool} : ∀ {aos : List AO} {s : St} {K : St -> Prop}, BV P U EF G aos s K -> ∃ s', K s' /\ ∀ K' : St -> Prop, K' s' -> BV P U EF G aos s K'
 | [], s, K, h => ⟨s, h, fun _ h => h⟩
 | o :: os, s, K, h => by
  unfold BV at h
  cases he : Cf EF o s with
  | some p =>
   obtain ⟨f, us⟩ := p
   rw [he] at h
   obtain ⟨L0, L1, vs, hl, v, hl', a1, a2, a3⟩ := h
   obtain ⟨s', b1, b2⟩ := MC a3
   exact ⟨s', b1, fun K' hk => by unfold BV; rw [he]; exact ⟨L0, L1, vs, hl, v, hl', a1, a2, b2 K' hk⟩⟩
  | none =>
   rw [he] at h
   obtain ⟨s', b1, b2⟩ := MC h.2
   exact ⟨s', b1, fun K' hk => by unfold BV; rw [he]; exact ⟨h.1, b2 K' hk⟩⟩
theorem Rt {EF : Nat -> Bool} {D : List (List Nat)} : ∀ {L : List (Nat × AO)} {past : List Fp} {s : St} {K : St -> Prop}, Ev P U EF G D L past s K -> ∃ s', K s' /\ ∀ K' : St -> Prop, K' s' -> Ev P U EF G D L past s K'
 | [], _, s, K, h => ⟨s, h, fun _ h => h⟩
 | (i, o) :: os, past, s, K, h => by
  unfold Ev at h
  cases he : Cf EF o s with
  | some p =>
   obtain ⟨f, us⟩ := p
   rw [he] at h
   obtain ⟨a0, L0, L1, vs, hl, v, hl', a1, a2, a3⟩ := h
   obtain ⟨s', b1, b2⟩ := Rt a3
   exact ⟨s', b1, fun K' hk => by unfold Ev; rw [he]; exact ⟨a0, L0, L1, vs, hl, v, hl', a1, a2, b2 K' hk⟩⟩
  | none =>
   rw [he] at h
   obtain ⟨s', b1, b2⟩ := Rt h.2.2
   exact ⟨s', b1, fun K' hk => by unfold Ev; rw [he]; exact ⟨h.1, h.2.1, b2 K' hk⟩⟩
theorem Amq {id : Nat} {ops : Array Oper} {aos : List AO} {EF : Nat -> Bool} (hG : ∀ f, Aj P U f (G f)) (ht : ops.toList.mapM (trO P N ops) = some aos) (h : BV P U EF G aos s (Q .normal)) : TC P U N (.region id ops false) Q s :=
 let ⟨s', h1, k⟩ := MC h; ⟨_, s', h1, fun C hC Q' hq => WI hG (by rw [hC]; exact ht) (k _ hq)⟩
theorem Ac5 {id : Nat} {ops : Array Oper} {aos : List AO} {EF : Nat -> Bool} (hG : ∀ f, Aj P U f (G f)) (ht : ops.toList.mapM (trO P N ops) = some aos) (h : BV P U EF G (aos.map AO.wrp) s (Q .normal)) : TC P U N (.region id ops false) Q s :=
 let ⟨s', h1, k⟩ := MC h; ⟨_, s', h1, fun C hC Q' hq => Rx hG (by rw [hC]; exact ht) (k _ hq)⟩
theorem FA {id : Nat} {ops : Array Oper} {aos : List AO} {D : List (List Nat)} {EF : Nat -> Bool} (hG : ∀ f, Aj P U f (G f)) (hm : P.follows .mixedOrders = true) (ht : ops.toList.mapM (trO P N ops) = some aos) (hok : Ci ops aos D = true) (h : Ev P U EF G D (Ff 0 aos) [] s (Q .normal)) : TC P U N (.region id ops true) Q s :=
 let ⟨s', h1, k⟩ := Rt h; ⟨_, s', h1, fun C hC Q' hq => FG hG hm (by rw [hC]; exact ht) hok (k _ hq)⟩
theorem Aj.pick {α β : Type} [Inhabited β] {args : α -> List V} {pre : α -> Prop} {val : β -> V} {R : α -> β -> Prop} {f : Nat} {fn : Func} {c : Code} {rs : List AR} (inj : ∀ a b, args a = args b -> a = b) (hf : P.funcs[f]? = some fn) (hb : fn.body = some c) (hname : (fn.name == "runtime.NumGoroutine") = false) (hr : fn.results.toList.mapM (trR P) = some rs)
  (hw : ∀ a, pre a -> (args a).length <= fn.ntmps /\ ∀ Q : Exit -> St -> Prop, (∀ e s', e = .ret \/ e = .normal -> Fg rs s' -> (∃ b, CV rs s' = val b /\ R a b) -> (CV rs s').pur = true -> Q e s') -> TC P U fn.ntmps c Q ⟨FF (args a), fun _ => none⟩) :
  ∃ F : α -> β, (∀ a, pre a -> R a (F a)) /\ Aj P U f (gOf args fun a => (pre a, val (F a))) := by
 have each : ∀ a, ∃ b, pre a -> R a b /\ ∀ (C : Ctx U), C.N = fn.ntmps -> ∀ Q : Exit -> St -> Prop, (∀ e s', e = .ret \/ e = .normal -> Fg rs s' -> CV rs s' = val b -> (CV rs s').pur = true -> Q e s') -> AW P C c Q ⟨FF (args a), fun _ => none⟩ := fun a => by
  by_cases ha : pre a
  ·obtain ⟨e, s', ⟨h1, h2, ⟨b, h3, h4⟩, h5⟩, k⟩ := (hw a ha).2 (fun e s' => (e = .ret \/ e = .normal) /\ Fg rs s' /\ (∃ b, CV rs s' = val b /\ R a b) /\ (CV rs s').pur = true) fun e s' a b c d => ⟨a, b, c, d⟩
   exact ⟨b, fun _ => ⟨h4, fun C hC Q hQ => k C hC Q (hQ e s' h1 h2 h3 h5)⟩⟩
  ·exact ⟨default, fun h => absurd h ha⟩
 obtain ⟨F, hF⟩ := Classical.skolem.1 each
 exact ⟨F, fun a ha => (hF a ha).1, Aj.ofArgs inj hf hb hname hr fun a ha => ⟨(hw a ha).1, (hF a ha).2⟩⟩
end
def AO.sro (EF : Nat -> Bool) (o : AO) : Bool :=
 match o.o with
 | .call f _ => !EF f
 | .callv .. | .store .. | .app .. | .box .. | .alloc .. | .slc .. | .mkmap | .mks .. | .mkv .. | .mset .. => false
 | _ => true
theorem AO.sro_wr {EF : Nat -> Bool} {o : AO} {s : St} (h : o.sro EF = true) : o.wr s = [] := by
 obtain ⟨d, g, op⟩ := o
 unfold AO.wr
 cases g with
 | some g => rfl
 | none => cases op <;> first | rfl | (simp [AO.sro] at h; done)
theorem AO.sro_call {EF : Nat -> Bool} {o : AO} {s : St} (h : o.sro EF = true) : Cf EF o s = none := by
 obtain ⟨d, g, op⟩ := o
 unfold Cf
 cases op <;> first | rfl | (simp [AO.sro] at h; done) | (simp only [AO.sro, LG] at h; dsimp only; rw [if_neg (by rw [h]; decide)])
section
variable {P : Program} {U : Tbl} {C : Ctx U} {s : St} {Q : Exit -> St -> Prop} {G : Tab}
theorem WF {EF : Nat -> Bool} {D : List (List Nat)} : ∀ {L : List (Nat × AO)} {past : List Fp} {s : St} {K : St -> Prop}, (∀ p ∈ L, p.2.sro EF = true) -> (∀ f ∈ past, f.all = false /\ f.wr = []) -> BV P U EF G (L.map (·.2)) s K -> Ev P U EF G D L past s K
 | [], _, _, _, _, _, h => h
 | (i, o) :: L, past, s, K, hL, hp, h => by
  have ho : o.sro EF = true := hL (i, o) (AH ..)
  have hc := AO.sro_call (s := s) ho
  have hw := AO.sro_wr (s := s) ho
  rw [BE] at h
  unfold BV at h
  unfold Ev
  dsimp only at h
  rw [hc] at h ⊢
  refine ⟨h.1, ?_, WF (fun p hq => hL p (AU _ hq)) (fun f hf => ?_) h.2⟩
  ·refine Ch.2 fun f hf => ?_
   obtain ⟨h1, h2⟩ := hp f hf
   have : f.indep (o.fp i s) = true := by
    unfold Fp.indep AO.fp
    rw [h1, h2, hw]
    simp [JO]
   rw [this, Bool.or_true]
  ·rcases AN.1 hf with rfl | hf
   ·exact ⟨rfl, hw⟩
   ·exact hp f hf
theorem Rw {EF : Nat -> Bool} : ∀ (k : Nat) {aos : List AO} {s : St} {K : St -> Prop}, BV P U EF G (aos.take k) s (fun s' => BV P U EF G (aos.drop k) s' K) -> BV P U EF G aos s K
 | 0, _, _, _, h => h
 | _ + 1, [], _, _, h => h
 | k + 1, o :: os, s, K, h => by
  rw [LT, LA] at h
  unfold BV at h ⊢
  split
  ·rename_i f us he
   rw [he] at h
   obtain ⟨L0, L1, vs, hl, v, hl', a1, a2, a3⟩ := h
   exact ⟨L0, L1, vs, hl, v, hl', a1, a2, Rw k a3⟩
  ·rename_i he
   rw [he] at h
   exact ⟨h.1, Rw k h.2⟩
theorem Tt : ∀ (l : List AO) (k : Nat), (Ff k l).map (·.2) = l
 | [], _ => rfl
 | o :: l, k => by show o :: (Ff (k + 1) l).map (·.2) = _; rw [Tt l (k + 1)]
theorem OH {EF : Nat -> Bool} {D : List (List Nat)} {aos : List AO} {K : St -> Prop} (hr : aos.all (AO.sro EF) = true) (h : BV P U EF G aos s K) : Ev P U EF G D (Ff 0 aos) [] s K := by
 refine WF (fun p hp => Ch.1 hr _ ?_) (fun f hf => nomatch hf) (by rw [Tt]; exact h)
 have := Am.2 (⟨p, hp, rfl⟩ : ∃ a, a ∈ Ff 0 aos /\ a.2 = p.2)
 rwa [Tt] at this
theorem Aok {id : Nat} {ops : Array Oper} {aos : List AO} {D : List (List Nat)} {EF : Nat -> Bool} (hG : ∀ f, Aj P U f (G f)) (hm : P.follows .mixedOrders = true) (ht : ops.toList.mapM (trO P C.N ops) = some aos) (hok : Ci ops aos D = true) (hr : aos.all (AO.sro EF) = true) (h : BV P U EF G aos s (Q .normal)) :
  AW P C (.region id ops true) Q s := FG hG hm ht hok (OH hr h)
theorem Aom {N id : Nat} {ops : Array Oper} {aos : List AO} {D : List (List Nat)} {EF : Nat -> Bool} (hG : ∀ f, Aj P U f (G f)) (hm : P.follows .mixedOrders = true) (ht : ops.toList.mapM (trO P N ops) = some aos) (hok : Ci ops aos D = true) (hr : aos.all (AO.sro EF) = true) (h : BV P U EF G aos s (Q .normal)) :
  TC P U N (.region id ops true) Q s := FA hG hm ht hok (OH hr h)
end
def Ja : Code -> Nat -> Option (Array Oper)
 | .region i ops _, k => if i = k then some ops else none
 | .seq a b, k => (Ja a k).or (Ja b k)
 | .cond _ a b, k => (Ja a k).or (Ja b k)
 | .block _ c, k => Ja c k
 | .loop c, k => Ja c k
 | .scope c, k => Ja c k
 | _, _ => none
def ro (f : Func) (k : Nat) : Array Oper := ((f.body.bind fun c => Ja c k).getD #[])
noncomputable abbrev TR (f : Func) (n k : Nat) : Option (List AO) := (ro f k).toList.mapM (trO Tryz.prog n (ro f k))
theorem mixed : Tryz.prog.follows .mixedOrders = true := by kernel_rfl
inductive Sk where
 | n
 | r
 | x (k : Nat)
 | g (k : Nat)
 | d (k : Nat)
 | s (a b : Sk)
 | h (k : Nat) (b : Sk)
 | j (k : Nat) (b : Sk)
 | e (k : Nat)
 | c (t : Nat) (a b : Sk)
 | k (v : Bool) (a b : Sk)
 | i (k t : Nat) (a b : Sk)
 | q (k t m : Nat) (b : Sk)
 | b (k : Nat) (a : Sk)
 | l (a : Sk)
 | w (k r t m : Nat) (a : Sk) (p : Nat)
 | p (a : Sk)
noncomputable def co (f : Func) : Sk -> Code
 | .n => .skip
 | .r => .ret
 | .x k => .exit k
 | .g k => .region k (ro f k) false
 | .d k => .region k (ro f k) true
 | .s a b => .seq (co f a) (co f b)
 | .h k b => .seq (.region k (ro f k) false) (co f b)
 | .j k b => .seq (.region k (ro f k) true) (co f b)
 | .e k => .seq (.region k (ro f k) false) .ret
 | .c t a b => .cond (.tmp t) (co f a) (co f b)
 | .k v a b => .cond (.const (.bool v)) (co f a) (co f b)
 | .i k t a b => .seq (.region k (ro f k) false) (.cond (.tmp t) (co f a) (co f b))
 | .q k t m b => .seq (.seq (.region k (ro f k) false) (.cond (.tmp t) (.seq (.region m (ro f m) false) .ret) .skip)) (co f b)
 | .b k a => .block k (co f a)
 | .l a => .loop (co f a)
 | .w k r t m a p => .block k (.loop (.seq (.seq (.region r (ro f r) false) (.cond (.tmp t) .skip (.exit k))) (.seq (.block m (co f a)) (.region p (ro f p) false))))
 | .p a => .scope (co f a)
abbrev KO := Nat -> Option (Nat × Bool) -> List AO
def dq : List (KO -> KO) -> KO
 | [] => fun _ _ => []
 | x :: l => x (dq l)
abbrev RL := List (Nat × List AO)
def dl : List (Nat × Nat × List (KO -> KO)) -> RL
 | [] => []
 | p :: l => (p.1, dq p.2.2 p.2.1 none) :: dl l
structure FnI (P : Program) (f : Nat) (fn : Func) (n : Nat) (c : Code) (rs : List AR) (l : RL) : Prop where
 h0 : P.funcs[f]? = some fn
 h : (fn.body, fn.name == "runtime.NumGoroutine", fn.results.toList.mapM (trR P), fn.ntmps, l.map fun p => (ro fn p.1).toList.mapM (trO P n (ro fn p.1))) = (some c, false, some rs, n, l.map fun p => some p.2) := by kernel_rfl
abbrev FI (k : Nat) (fn : Func) (n : Nat) (s : Sk) (rs : List AR) (l : List (Nat × Nat × List (KO -> KO))) : Prop := FnI Tryz.prog k fn n (co fn s) rs (dl l)
section
variable {P : Program} {U : Tbl} {f n : Nat} {fn : Func} {c : Code} {rs : List AR} {l : RL}
theorem FnI.u (h : FnI P f fn n c rs l) : P.funcs[f]? = some fn /\ fn.body = some c /\ (fn.name == "runtime.NumGoroutine") = false /\ fn.results.toList.mapM (trR P) = some rs /\ fn.ntmps = n /\ (l.map fun p => (ro fn p.1).toList.mapM (trO P n (ro fn p.1))) = l.map fun p => some p.2 := by
 have e := h.h
 simp only [Prod.mk.injEq] at e
 exact ⟨h.h0, e⟩
theorem FnI.a (h : FnI P f fn n c rs l) {α : Type} {args : α -> List V} {F : α -> Prop × V} (inj : ∀ a b, args a = args b -> a = b) (hl : ∀ a, (args a).length <= n)
  (hw : ∀ a, (F a).1 -> ∀ (C : Ctx U), C.N = n -> ∀ Q : Exit -> St -> Prop, (∀ e s', e = .ret \/ e = .normal -> Fg rs s' -> CV rs s' = (F a).2 -> (CV rs s').pur = true -> Q e s') -> AW P C c Q ⟨FF (args a), fun _ => none⟩) : Aj P U f (gOf args F) := by
 obtain ⟨h0, h1, h2, h3, rfl, _⟩ := h.u
 exact Aj.ofArgs inj h0 h1 h2 h3 fun a ha => ⟨hl a, hw a ha⟩
theorem FnI.q (h : FnI P f fn n c rs l) {g : List V -> Prop × V}
  (hw : ∀ vs, (g vs).1 -> vs.length <= n /\ ∀ (C : Ctx U), C.N = n -> ∀ Q : Exit -> St -> Prop, (∀ e s', e = .ret \/ e = .normal -> Fg rs s' -> CV rs s' = (g vs).2 -> (CV rs s').pur = true -> Q e s') -> AW P C c Q ⟨FF vs, fun _ => none⟩) : Aj P U f g := by
 obtain ⟨h0, h1, h2, h3, rfl, _⟩ := h.u
 exact Aj.of_awQ h0 h1 h2 h3 hw
theorem FnI.e (h : FnI P f fn n c rs l) {vs : List V} {hl hl' : List (Nat × Ob)} {v : V} (hn : vs.length <= n)
  (haw : ∀ C : Ctx U, C.N = n -> ∀ Q : Exit -> St -> Prop, (∀ e s' s'', e = .ret \/ e = .normal -> Le s' s'' -> s''.h = mkH hl' -> Fg rs s'' -> CV rs s'' = v -> Q e s') -> AW P C c Q ⟨FF vs, mkH hl⟩) : Eff P U f vs hl v hl' := by
 obtain ⟨h0, h1, h2, h3, rfl, _⟩ := h.u
 exact Eff.of_aw h0 h1 h2 h3 hn haw
theorem FnI.R (h : FnI P f fn n c rs l) {C : Ctx U} {G : Tab} (EF : Nat -> Bool) (hG : ∀ f, Aj P U f (G f)) (hN : C.N = n)
  (k : Nat) {a : List AO} (hk : l.lookup k = some a) {id : Nat} {s : St} {Q : Exit -> St -> Prop} (hr : BV P U EF G a s (Q .normal)) : AW P C (.region id (ro fn k) false) Q s := by
 have ht := h.u.2.2.2.2.2
 refine WI (EF := EF) hG ?_ hr
 rw [hN]
 have key : ∀ l : RL, l.lookup k = some a -> (k, a) ∈ l := fun l => by
  induction l with
  | nil => intro h; cases h
  | cons p l ih =>
   intro h
   rw [List.lookup_cons] at h
   split at h
   ·rename_i e
    injection h with h
    subst h
    rw [beq_iff_eq] at e
    subst e
    exact AH ..
   ·exact AU _ (ih h)
 exact List.map_inj_left.1 ht _ (key l hk)
theorem FnI.p (h : FnI P f fn n c rs l) {α β : Type} [Inhabited β] {args : α -> List V} {pre : α -> Prop} {val : β -> V} {R : α -> β -> Prop} (inj : ∀ a b, args a = args b -> a = b) (hl : ∀ a, (args a).length <= n)
  (hw : ∀ a, pre a -> ∀ Q : Exit -> St -> Prop, (∀ e s', e = .ret \/ e = .normal -> Fg rs s' -> (∃ b, CV rs s' = val b /\ R a b) -> (CV rs s').pur = true -> Q e s') -> TC P U n c Q ⟨FF (args a), fun _ => none⟩) :
  ∃ F : α -> β, (∀ a, pre a -> R a (F a)) /\ Aj P U f (gOf args fun a => (pre a, val (F a))) := by
 obtain ⟨h0, h1, h2, h3, rfl, _⟩ := h.u
 exact Aj.pick inj h0 h1 h2 h3 fun a ha => ⟨hl a, hw a ha⟩
theorem FnI.T (h : FnI P f fn n c rs l) {G : Tab} (EF : Nat -> Bool) (hG : ∀ f, Aj P U f (G f))
  (k : Nat) {a : List AO} (hk : l.lookup k = some a) {id : Nat} {s : St} {Q : Exit -> St -> Prop} (hr : BV P U EF G a s (Q .normal)) : TC P U n (.region id (ro fn k) false) Q s :=
 let ⟨s', h1, q⟩ := MC hr; ⟨_, s', h1, fun C hC Q' hq => h.R EF hG hC k hk (q _ hq)⟩
def XD (ops : Array Oper) : List (List Nat) := (List.range ops.size).foldl (fun D i => D ++ [(Gk ops i).flatMap fun j => j :: D.getD j []]) []
theorem FnI.rt (h : FnI P f fn n c rs l) {k : Nat} {a : List AO} (hk : l.lookup k = some a) : (ro fn k).toList.mapM (trO P n (ro fn k)) = some a := by
 have ht := h.u.2.2.2.2.2
 have key : ∀ l : RL, l.lookup k = some a -> (k, a) ∈ l := fun l => by
  induction l with
  | nil => intro h; cases h
  | cons p l ih =>
   intro h
   rw [List.lookup_cons] at h
   split at h
   ·rename_i e
    injection h with h
    subst h
    rw [beq_iff_eq] at e
    subst e
    exact AH ..
   ·exact AU _ (ih h)
 exact List.map_inj_left.1 ht _ (key l hk)
theorem FnI.D (h : FnI P f fn n c rs l) {C : Ctx U} {G : Tab} (EF : Nat -> Bool) (hG : ∀ f, Aj P U f (G f)) (hN : C.N = n) (hm : P.follows .mixedOrders = true)
  (k : Nat) {a : List AO} (hk : l.lookup k = some a) (ho : (Ci (ro fn k) a (XD (ro fn k)) && a.all (AO.sro EF)) = true) {id : Nat} {s : St} {Q : Exit -> St -> Prop} (hr : BV P U EF G a s (Q .normal)) : AW P C (.region id (ro fn k) true) Q s := by
 rw [Bx] at ho
 exact FG hG hm (by rw [hN]; exact h.rt hk) ho.1 (OH ho.2 hr)
theorem FnI.E (h : FnI P f fn n c rs l) {G : Tab} (EF : Nat -> Bool) (hG : ∀ f, Aj P U f (G f)) (hm : P.follows .mixedOrders = true)
  (k : Nat) {a : List AO} (hk : l.lookup k = some a) (ho : (Ci (ro fn k) a (XD (ro fn k)) && a.all (AO.sro EF)) = true) {id : Nat} {s : St} {Q : Exit -> St -> Prop} (hr : BV P U EF G a s (Q .normal)) : TC P U n (.region id (ro fn k) true) Q s := by
 rw [Bx] at ho
 exact FA hG hm (h.rt hk) ho.1 (OH ho.2 hr)
theorem leB {p : Prop} (h : p := by first | exact Adn rfl rfl rfl | rfl | exact Adm rfl | exact .nill _ | exact .nilo _ _ _ rfl rfl | exact DA rfl (by first | rfl | exact Ac _) rfl (fun r hr => by obtain ⟨_, _, rfl⟩ := Am.1 hr; rfl) | exact Ado rfl rfl (fun kv hk => by obtain ⟨_, _, rfl⟩ := Am.1 hk; rfl) | fail) : p := h
theorem leM {s : St} {l : List (Nat × V)} {hl : List (Nat × Ob)} (h1 : ∀ p ∈ l, Wk s.h hl (s.e p.1) p.2 := by (simp only [go_sem, simprocAttr]) <;> and_intros <;> try exact leA) (h2 : ∀ q ∈ hl, HT s.h hl (s.h q.1) q.2 := by (simp only [go_sem, simprocAttr]) <;> and_intros <;> try exact leA) (h3 : (hl.all fun q => q.1 < 1000 || (s.h q.1).isSome) = true := by rfl) : Le s ⟨mkE l, mkH hl⟩ := Le.mk l hl h1 h2 h3
attribute [go_sem] Fg CV AR.res
end
namespace X
def z0 : List V := [(.int .i64 0), (.str []), (.str []), (.str []), (.str []), .nils, (.int .i64 0), .nils, (.int .i64 0), (.int .i64 0)]
def z1 : List V := [(.int .i64 0), (.int .i64 0), (.int .i64 0), (.int .i64 0)]
def z2 : List V := [(.int .i64 0), (.int .i64 0), (.int .i64 0)]
def z3 : List V := [(.int .i64 0), .nils]
def z4 : List V := [(.str []), (.int .i64 0), (.int .i64 0), (.str []), (.str []), (.int .i64 0), (.int .i64 0), (.str []), (.str []), (.int .i64 0), (.int .i64 0)]
def z5 : List V := [.nils, .nils, .nils, (.int .i64 0), (.int .i64 0)]
def z6 : List V := [(.int .i64 0), (.str [])]
def z7 : List V := [(.str []), (.int .i64 0), (.str []), (.int .i64 0), (.int .i64 0), (.int .i64 0), .nils]
def z8 : List V := [(.str []), (.str []), (.str []), (.str []), (.str []), (.bool false), (.int .i64 0), (.int .i64 0), (.int .i64 0)]
def z9 : List V := [(.int .i64 0), (.int .i64 0), .nils, (.int .i64 0), (.int .i64 0), (.int .i64 0), (.int .i64 0), (.int .i64 0), .nils, .nils, (.int .i64 0), (.int .i64 0), (.int .i64 0), (.int .i64 0), .nils]
def z10 : List V := [(.int .i64 0), .nils, (.int .i64 0)]
def z11 : List V := [(.int .i64 0), (.int .i64 0)]
def z12 : List V := [(.str []), (.str [])]
def z13 : List V := [(.int .i64 0)]
def z14 : List V := [(.str []), (.int .i64 0), (.int .i64 0), (.str []), (.str []), (.int .i64 0), (.int .i64 0), (.str [])]
def z15 : List V := [(.int .u64 0)]
def z16 : List V := [(.str []), (.int .i64 0)]
def z17 : List V := [(.str []), (.str []), (.str []), (.int .i64 0), .nils]
def z18 : List V := [(.str []), (.str []), (.int .i64 0)]
def z19 : List V := [(.str []), (.int .i64 0), (.int .i64 0), (.int .i64 0), (.int .i64 0), (.int .i64 0), .nils, .nils, .nils]
attribute [go_sem] z0 z1 z2 z3 z4 z5 z6 z7 z8 z9 z10 z11 z12 z13 z14 z15 z16 z17 z18 z19
def ts : List Nat -> List AE
 | [] => []
 | a :: l => .t a :: ts l
def gc : Option (Nat × Bool) -> Nat
 | some p => p.1
 | none => 0
def A (d : Nat) (x : KO -> KO) (k : KO) (n : Nat) (g : Option (Nat × Bool)) : List AO := x (fun _ h => k n h) d g
def J (m : Nat) (k : KO) (n : Nat) (g : Option (Nat × Bool)) : List AO := k m g
def G (k : KO) (n : Nat) (g : Option (Nat × Bool)) : List AO := k n (some (n - 1, false))
def H (k : KO) (n : Nat) (g : Option (Nat × Bool)) : List AO := k n (some (n - 1, true))
def Gn (c : Nat) (k : KO) (n : Nat) (g : Option (Nat × Bool)) : List AO := k n (some (c, false))
def Hn (c : Nat) (k : KO) (n : Nat) (g : Option (Nat × Bool)) : List AO := k n (some (c, true))
def U (k : KO) (n : Nat) (g : Option (Nat × Bool)) : List AO := k n none
def P (k : KO) (n : Nat) (g : Option (Nat × Bool)) : List AO := ⟨some n, none, .pick (.t (gc g)) (.v (.bool true)) (.t (n - 1))⟩ :: k (n + 1) none
def Q (k : KO) (n : Nat) (g : Option (Nat × Bool)) : List AO := ⟨some n, none, .pick (.t (gc g)) (.t (n - 1)) (.v (.bool false))⟩ :: k (n + 1) none
def o (x : AOp) (k : KO) (n : Nat) (g : Option (Nat × Bool)) : List AO := ⟨some n, g, x⟩ :: k (n + 1) g
def z (x : AOp) (k : KO) (n : Nat) (g : Option (Nat × Bool)) : List AO := ⟨none, g, x⟩ :: k n g
def m (a : Nat) (k : KO) (n : Nat) (g : Option (Nat × Bool)) : List AO := ⟨some n, g, .mv (.t a)⟩ :: k (n + 1) g
def mv (v : V) (k : KO) (n : Nat) (g : Option (Nat × Bool)) : List AO := ⟨some n, g, .mv (.v v)⟩ :: k (n + 1) g
def mi (z : Int) (k : KO) (n : Nat) (g : Option (Nat × Bool)) : List AO := ⟨some n, g, .mv (.v (.int .i64 z))⟩ :: k (n + 1) g
def l (a : Nat) (k : KO) (n : Nat) (g : Option (Nat × Bool)) : List AO := ⟨some n, g, .load none (.t a)⟩ :: k (n + 1) g
def L (k : KO) (n : Nat) (g : Option (Nat × Bool)) : List AO := ⟨some n, g, .load none (.t (n - 1))⟩ :: k (n + 1) g
def ls (s a : Nat) (k : KO) (n : Nat) (g : Option (Nat × Bool)) : List AO := ⟨some n, g, .load (some s) (.t a)⟩ :: k (n + 1) g
def f (s a : Nat) (k : KO) (n : Nat) (g : Option (Nat × Bool)) : List AO := ⟨some n, g, .fld s (.t a)⟩ :: k (n + 1) g
def F (s : Nat) (k : KO) (n : Nat) (g : Option (Nat × Bool)) : List AO := ⟨some n, g, .fld s (.t (n - 1))⟩ :: k (n + 1) g
def ix (s a b : Nat) (k : KO) (n : Nat) (g : Option (Nat × Bool)) : List AO := ⟨some n, g, .idx s (.t a) (.t b)⟩ :: k (n + 1) g
def X (s : Nat) (k : KO) (n : Nat) (g : Option (Nat × Bool)) : List AO := ⟨some n, g, .idx s (.t (n - 2)) (.t (n - 1))⟩ :: k (n + 1) g
def e (s a : Nat) (k : KO) (n : Nat) (g : Option (Nat × Bool)) : List AO := ⟨some n, g, .ext s (.t a)⟩ :: k (n + 1) g
def ln (a : Nat) (k : KO) (n : Nat) (g : Option (Nat × Bool)) : List AO := ⟨some n, g, .len (.t a)⟩ :: k (n + 1) g
def N (k : KO) (n : Nat) (g : Option (Nat × Bool)) : List AO := ⟨some n, g, .len (.t (n - 1))⟩ :: k (n + 1) g
def nt (a : Nat) (k : KO) (n : Nat) (g : Option (Nat × Bool)) : List AO := ⟨some n, g, .un .not (.t a)⟩ :: k (n + 1) g
def pt (c a : Nat) (k : KO) (n : Nat) (g : Option (Nat × Bool)) : List AO := ⟨some n, g, .pick (.t c) (.v (.bool true)) (.t a)⟩ :: k (n + 1) g
def pf (c a : Nat) (k : KO) (n : Nat) (g : Option (Nat × Bool)) : List AO := ⟨some n, g, .pick (.t c) (.t a) (.v (.bool false))⟩ :: k (n + 1) g
def st (s a b : Nat) (k : KO) (n : Nat) (g : Option (Nat × Bool)) : List AO := ⟨none, g, .store s (.t a) (.t b)⟩ :: k n g
def c (h : Nat) (z : List Nat) (k : KO) (n : Nat) (g : Option (Nat × Bool)) : List AO := ⟨some n, g, .call h (ts z)⟩ :: k (n + 1) g
def b (p : BinOp) (a a' : Nat) (k : KO) (n : Nat) (g : Option (Nat × Bool)) : List AO := ⟨some n, g, .bin p (.t a) (.t a')⟩ :: k (n + 1) g
def bi (p : BinOp) (a : Nat) (z : Int) (k : KO) (n : Nat) (g : Option (Nat × Bool)) : List AO := ⟨some n, g, .bin p (.t a) (.v (.int .i64 z))⟩ :: k (n + 1) g
def B (p : BinOp) (z : Int) (k : KO) (n : Nat) (g : Option (Nat × Bool)) : List AO := ⟨some n, g, .bin p (.t (n - 1)) (.v (.int .i64 z))⟩ :: k (n + 1) g
def bx (t a : Nat) (k : KO) (n : Nat) (g : Option (Nat × Bool)) : List AO := ⟨some n, g, .box t (.t a)⟩ :: k (n + 1) g
def sl (t s : Nat) (z : List Nat) (k : KO) (n : Nat) (g : Option (Nat × Bool)) : List AO := ⟨some n, g, .slc t s false (ts z)⟩ :: k (n + 1) g
def ap (t s b x y : Nat) (k : KO) (n : Nat) (g : Option (Nat × Bool)) : List AO := ⟨some n, g, .app t s b (.t x) (.t y)⟩ :: k (n + 1) g
attribute [go_sem] ts gc dq A J G H Gn Hn U P Q o z m mv mi l L ls f F ix X e ln N nt pt pf st c b bi B bx sl ap
end X
end Go.Proofs.YtjkclhbckfkeeaaGreatDoor
namespace Go.Proofs.YtjkclhbckfkeeaaGreatDoor
open Go Go.RowKit X
theorem fi3 : FI 3 Tryz.f3 285 (.h 0 (.q 1 48 2 (.h 3 (.q 4 71 5 (.q 6 79 7 (.s (.h 8 (.w 0 9 83 1 (.h 11 (.j 12 (.i 13 102 (.g 14) .n))) 10)) (.h 15 (.s (.h 16 (.w 2 17 108 3 (.h 19 (.s (.i 20 118 (.g 21) .n) (.g 22))) 18)) (.h 23 (.q 24 147 25 (.q 26 154 27 (.q 28 195 29 (.s (.h 30 (.w 4 31 200 5 (.j 33 (.c 224 (.e 34) .n)) 32)) (.h 35 (.h 36 (.q 37 279 38 (.e 39))))))))))))))))) [.t 10] [(0,5,[bx 41 0,A 10 (mv (.bool false))]),(1,31,[ls 18 5,m 1,m 2,c 6 [31,32,33],nt 34,m 35,G,m 3,N,B .gtr 12,P,m 40,G,m 4,B .lss 0,P,m 44,G,m 4,B .gtr 1099511627776,P]),(2,49,[c 7 [],A 10 (m 49)]),(3,51,[f 0 5,ls 2 51,f 2 5,ls 4 53,f 6 5,L,f 7 5,ls 5 57,f 12 5,ls 3 59,f 15 5,L,f 16 5,L,f 17 5,L,c 8 [52,54,56,58,60,62,64,66],A 50 (m 67),e 0 50,e 1 50,A 11 (o (.alloc 47 X.z0)),st 10 11 68,A 12 (m 69)]),(4,70,[m 12,B .neq 0]),(5,72,[c 7 [],A 10 (m 72)]),(6,73,[f 5 11,L,N,f 6 5,L,N,b .neq 75 78]),(8,13,[mi 0]),(9,80,[m 13,m 3,N,b .lss 80 82]),(10,84,[m 13,B .add 1,A 13 (m 85)]),(11,86,[m 13,f 5 11,L,N,b .rem 86 89,A 14 (m 90)]),(13,101,[m 16,B .eql 0]),(14,103,[ls 10 15,st 10 11 103]),(15,17,[mi 0,mv (.bool false)]),(16,19,[mi 0]),(17,104,[m 19,f 5 11,L,N,b .lss 104 107]),(18,109,[m 19,B .add 1,A 19 (m 110)]),(19,111,[f 5 11,L,m 19,X 11,F 9,L,A 20 (m 116)]),(20,117,[m 20,B .eql 1]),(21,119,[m 17,f 5 11,L,m 19,X 11,F 10,L,b .add 119 125,A 17 (m 126)]),(22,127,[m 18,m 127,G,m 20,B .eql 2,P,m 131,G,m 20,B .eql 3,P,m 135,G,m 20,B .eql 4,P,A 18 (m 139)]),(23,141,[ls 10 11,m 4,c 10 [141,142],A 140 (m 143),e 0 140,e 1 140,e 2 140,A 21 (o (.alloc 47 X.z0)),A 22 (o (.alloc 59 X.z1)),st 10 21 144,st 4 22 145,A 23 (m 146)]),(24,147,[m 18]),(25,148,[m 23,B .neq 0,m 149,H,c 7 [],Q,A 10 (m 152)]),(26,153,[m 23,B .neq 0]),(27,155,[c 7 [],A 10 (m 155)]),(28,156,[f 0 22,L,m 17,b .neq 157 158,m 159,G,f 0 22,L,f 1 22,L,b .add 162 164,f 2 22,L,f 3 22,L,b .add 167 169,b .neq 165 170,P,m 172,G,f 3 22,L,B .lss 0,P,m 177,G,f 3 22,L,f 8 11,L,b .gtr 180 182,P,m 184,G,f 2 22,L,m 4,b .gtr 187 188,P,m 190,G,f 2 22,L,B .lss 0,P]),(30,24,[mi 0]),(31,196,[m 24,f 5 21,L,N,b .lss 196 199]),(32,201,[m 24,B .add 1,A 24 (m 202)]),(33,203,[f 5 21,L,m 24,X 11,F 9,L,B .eql 1,m 209,G,f 5 21,L,m 24,X 11,F 10,L,f 5 11,L,m 24,X 11,F 10,L,b .neq 216 222,P]),(35,226,[ls 10 21,m 4,c 10 [226,227],A 225 (m 228),e 0 225,e 1 225,e 2 225,A 25 (o (.alloc 47 X.z0)),A 26 (o (.alloc 59 X.z1)),st 10 25 229,st 4 26 230,A 27 (m 231)]),(36,233,[ls 10 11,f 7 5,ls 5 234,m 4,c 11 [233,235,236],A 232 (m 237),e 0 232,e 1 232,e 2 232,A 28 (o (.alloc 47 X.z0)),A 29 (o (.alloc 63 X.z1)),st 10 28 238,st 4 29 239,A 30 (m 240)]),(37,241,[m 30,B .eql 0,m 242,H,f 0 29,L,f 0 22,L,f 1 22,L,b .add 247 249,b .neq 245 250,m 251,G,f 0 29,L,f 2 29,L,b .add 254 256,f 7 5,F 4,L,f 1 29,L,b .add 260 262,f 3 29,L,b .add 263 265,b .neq 257 266,Hn 243,pt 252 267,m 268,G,f 2 29,L,B .neq 0,m 272,H,f 3 29,L,B .neq 0,Gn 269,pf 273 276,Hn 243,pt 269 277,Q]),(39,280,[m 27,B .neq 0,m 281,H,c 7 [],Q,A 10 (m 284)])] := .mk Tryz.func3
def Oo : List AO := dq [ls 10 11,m 14,m 3,m 13,X 1,L,c 9 [92,93,97],A 91 (m 98),e 0 91,e 1 91,A 15 (o (.alloc 47 X.z0)),st 10 15 99,A 16 (m 100)] 92 none
theorem Adc : TR Tryz.f3 285 12 = some Oo := by kernel_rfl
def RH : List (List Nat) := [[], [], [], [], [2, 3], [2, 3, 4], [0, 1, 2, 3, 4, 5], [0, 1, 2, 3, 4, 5, 6], [0, 1, 2, 3, 4, 5, 6, 7], [0, 1, 2, 3, 4, 5, 6, 7], [], [0, 1, 2, 3, 4, 5, 6, 7, 8, 10], [0, 1, 2, 3, 4, 5, 6, 7, 8, 9, 10, 11]]
theorem Abi : Ci (ro Tryz.f3 12) Oo RH = true := by kernel_rfl
theorem fi6 : FI 6 Tryz.f6 99 (.h 0 (.q 1 69 2 (.e 3))) [.t 6] [(0,3,[bx 41 0,A 6 (mv (.bool false))]),(1,7,[f 0 3,ls 2 7,c 25 [8],nt 9,m 10,G,f 6 3,L,N,B .gtr 4,P,m 16,G,m 2,c 26 [18],nt 19,P,m 21,G,f 6 3,L,c 27 [24],nt 25,P,m 27,G,f 7 3,F 0,L,N,B .gtr 6,P,m 34,G,f 7 3,F 2,L,N,B .gtr 20,P,m 41,G,f 2 3,F 0,L,N,B .gtr 14,P,m 48,G,f 2 3,F 1,L,N,B .gtr 8,P,m 55,G,f 2 3,F 2,L,N,B .gtr 8,P,m 62,G,f 2 3,F 3,L,N,B .gtr 8,P]),(2,6,[mv (.bool false)]),(3,70,[f 0 3,ls 2 70,f 2 3,ls 4 72,c 28 [71,73],N,B .eql 0,m 76,H,f 2 3,F 3,L,c 29 [80],N,B .eql 0,Q,m 84,H,f 0 3,ls 2 86,f 2 3,ls 4 88,f 6 3,L,m 1,m 2,f 7 3,ls 5 94,c 18 [87,89,91,92,93,95],B .eql 0,Q,A 6 (m 98)])] := .mk Tryz.func6
def Rc : List AO := dq [f 0 3,ls 2 7,c 25 [8],nt 9,m 10,G,f 6 3,L,N,B .gtr 4,P,m 16,G,m 2,c 26 [18],nt 19,P,m 21,G,f 6 3,L,c 27 [24],nt 25,P,m 27,G,f 7 3,F 0,L,N,B .gtr 6,P,m 34,G,f 7 3,F 2,L,N,B .gtr 20,P,m 41,G,f 2 3,F 0,L,N,B .gtr 14,P,m 48,G,f 2 3,F 1,L,N,B .gtr 8,P,m 55,G,f 2 3,F 2,L,N,B .gtr 8,P,m 62,G,f 2 3,F 3,L,N,B .gtr 8,P] 7 none
theorem fi7 : FI 7 Tryz.f7 13 (.h 0 (.e 1)) [.t 0] [(0,0,[mv (.bool false)]),(1,1,[o (.call 30 [(.v (.int .i64 9497))]),o (.bin .eql (.t 1) (.v (.str [50, 48, 50, 54, 45, 48, 49, 45, 48, 49]))),m 2,H,o (.build X.z2 [(0, 1, (.v (.int .i64 9497))), (1, 1, (.v (.int .i64 9503))), (2, 1, (.v (.int .i64 96)))]),c 31 [4],B .eql 2,Q,m 7,H,o (.build X.z3 [(0, 1, (.v (.int .i64 60)))]),o (.call 32 [(.t 9), (.v (.int .i64 5))]),B .eql 65,Q,A 0 (m 12)])] := .mk Tryz.func7
theorem fi8 : FI 8 Tryz.f8 114 (.h 0 (.s (.b 0 (.i 1 24 (.e 2) (.i 3 48 (.e 4) .n))) (.h 5 (.q 6 61 7 (.j 8 (.s (.h 9 (.b 1 (.l (.h 10 (.s (.c 80 .n (.x 1)) (.s (.b 2 (.h 11 (.h 12 (.w 3 13 88 4 (.d 15) 14)))) (.g 16))))))) (.e 17))))))) [.c (some 10) 16, .t 17] [(0,11,[A 8 (bx 25 0),A 9 (bx 31 1),bx 37 3,bx 39 4,A 16 (o (.alloc 47 X.z0)),A 17 (mi 0)]),(1,25,[m 2,N,B .lss 1,m 27,G,m 2,N,B .gtr 6,P,m 32,G,ls 4 9,f 0 11,L,m 2,N,c 33 [34,36,38],nt 39,P,m 41,G,m 5,c 34 [43],nt 44,P,A 24 (m 46)]),(2,47,[o (.build X.z0 []),st 10 16 47,A 17 (mi 2)]),(3,49,[m 7,c 35 [49],nt 50,A 48 (m 51)]),(4,52,[o (.build X.z0 []),st 10 16 52,A 17 (mi 12)]),(5,54,[ls 2 8,m 2,ls 5 11,c 36 [54,55,56],A 53 (m 57),e 0 53,e 1 53,A 18 (m 58),A 19 (m 59)]),(6,60,[m 19,B .neq 0]),(7,62,[o (.build X.z0 []),m 19,st 10 16 62,A 17 (m 63)]),(9,76,[f 0 11,L,N,mi 0]),(10,80,[b .lss 79 78]),(11,81,[ix 4 77 79,ls 4 81,A 22 (o (.alloc 94 X.z1)),st 4 22 82]),(12,83,[f 0 22,L,A 23 (m 84)]),(13,85,[m 23,f 1 22,L,b .lss 85 87]),(14,89,[m 23,B .add 1,A 23 (m 90)]),(16,112,[bi .add 79 1,A 79 (m 112)]),(17,113,[ls 10 20,st 10 16 113,A 17 (mi 0)])] := .mk Tryz.func8
def Rf : List AO := dq [m 5,m 6,ls 3 12,f 3 11,L,f 2 11,L,c 37 [70],f 4 11,L,m 7,o (.build X.z0 [(0, 1, (.t 64)), (1, 1, (.t 65)), (2, 3, (.t 66)), (6, 1, (.t 68)), (7, 1, (.t 71)), (8, 1, (.t 73)), (9, 1, (.t 74))]),A 20 (o (.alloc 47 X.z0)),st 10 20 75] 64 none
theorem Am1 : TR Tryz.f8 114 8 = some Rf := by kernel_rfl
def Re : List AO := dq [f 5 20,L,m 2,m 23,X 8,ls 8 95,f 0 9,L,f 2 22,L,ix 9 98 100,F 3,L,m 18,m 23,X 1,L,o (.build X.z4 [(0, 8, (.t 96)), (8, 1, (.t 103)), (9, 1, (.v (.int .i64 1))), (10, 1, (.t 107))]),sl 57 11 [108],ap 57 11 128 92 109,f 5 20,st 1 111 110] 91 none
theorem Am0 : TR Tryz.f8 114 15 = some Re := by kernel_rfl
def Xv : List (List Nat) := [[], [], [], [], [3], [], [5], [5, 6], [], [8], [], [0, 1, 2, 3, 4, 5, 6, 7, 8, 9, 10], [], [0, 1, 2, 3, 4, 5, 6, 7, 8, 9, 10, 11, 12]]
theorem Ah6 : Ci (ro Tryz.f8 8) Rf Xv = true := by kernel_rfl
def Xu : List (List Nat) := [[], [0], [], [], [2, 3], [2, 3, 4], [], [6], [], [8], [6, 7, 8, 9], [6, 7, 8, 9, 10], [6, 7, 8, 9, 10, 11], [], [], [13, 14], [13, 14, 15], [2, 3, 4, 5, 6, 7, 8, 9, 10, 11, 12, 13, 14, 15, 16], [2, 3, 4, 5, 6, 7, 8, 9, 10, 11, 12, 13, 14, 15, 16, 17], [0, 1, 2, 3, 4, 5, 6, 7, 8, 9, 10, 11, 12, 13, 14, 15, 16, 17, 18], [0, 1, 2, 3, 4, 5, 6, 7, 8, 9, 10, 11, 12, 13, 14, 15, 16, 17, 18, 19], [0, 1, 2, 3, 4, 5, 6, 7, 8, 9, 10, 11, 12, 13, 14, 15, 16, 17, 18, 19, 20]]
theorem Ah5 : Ci (ro Tryz.f8 15) Re Xu = true := by kernel_rfl
theorem fi9 : FI 9 Tryz.f9 46 (.h 0 (.q 1 18 2 (.h 3 (.q 4 32 5 (.h 6 (.h 7 (.e 8))))))) [.c (some 10) 6, .t 7] [(0,6,[A 3 (bx 47 0),o (.alloc 47 X.z0),mi 0]),(1,10,[m 1,B .lss 0,m 11,G,m 1,f 5 3,L,N,b .geq 13 16,P]),(2,19,[o (.build X.z0 []),st 10 6 19,A 7 (mi 7)]),(3,21,[f 5 3,L,m 1,X 11,F 9,L,m 2,c 38 [26,27],A 20 (m 28),e 0 20,e 1 20,A 8 (m 29),A 9 (m 30)]),(4,31,[m 9,B .neq 0]),(5,33,[o (.build X.z0 []),m 9,st 10 6 33,A 7 (m 34)]),(6,35,[f 5 3,L,c 39 [36],f 5 3,st 1 38 37]),(7,39,[f 5 3,L,m 1,m 8,ix 11 40 41,F 9,st 1 44 42]),(8,45,[ls 10 3,st 10 6 45,A 7 (mi 0)])] := .mk Tryz.func9
theorem XS : FI 10 Tryz.f10 41 (.h 0 (.h 1 (.q 2 18 3 (.s (.h 4 (.b 0 (.l (.h 5 (.s (.c 26 .n (.x 0)) (.s (.b 1 (.h 6 (.i 7 31 (.g 8) .n))) (.g 9))))))) (.j 10 .r))))) [.c (some 10) 4, .c (some 4) 5, .t 6] [(0,4,[A 2 (bx 47 0),o (.alloc 47 X.z0),o (.alloc 59 X.z1),mi 0]),(1,12,[ls 10 2,m 1,c 40 [12,13],A 11 (m 14),e 0 11,e 1 11,A 7 (o (.alloc 59 X.z1)),st 4 7 15,A 8 (m 16)]),(2,17,[m 8,B .neq 0]),(3,19,[o (.build X.z0 []),o (.build X.z1 []),m 8,st 10 4 19,st 4 5 20,A 6 (m 21)]),(4,22,[f 5 2,L,N,mi 0]),(5,26,[b .lss 25 24]),(6,27,[m 25,ix 11 23 25,ls 11 28,A 10 (o (.alloc 57 X.z4)),A 9 (m 27),st 11 10 29]),(7,30,[ls 11 10,c 41 [30]]),(8,33,[ls 10 2,m 9,o (.call 9 [(.t 33), (.t 34), (.v (.int .i64 9))]),A 32 (m 35),e 0 32,e 1 32,st 10 2 36]),(9,38,[bi .add 25 1,A 25 (m 38)])] := .mk Tryz.func10
def QR : List AO := dq [ls 10 2,ls 4 7,st 10 4 39,st 4 5 40,A 6 (mi 0)] 39 none
theorem AmG : TR Tryz.f10 41 10 = some QR := by kernel_rfl
def Xh : List (List Nat) := [[], [], [0], [0, 1, 2], [0, 1, 2, 3]]
theorem AhT : Ci (ro Tryz.f10 10) QR Xh = true := by kernel_rfl
theorem XZ : FI 11 Tryz.f11 53 (.h 0 (.h 1 (.q 2 23 3 (.s (.h 4 (.b 0 (.l (.h 5 (.s (.c 31 .n (.x 0)) (.s (.b 1 (.h 6 (.s (.i 7 37 (.x 1) .n) (.h 8 (.q 9 45 10 (.g 11)))))) (.g 12))))))) (.j 13 .r))))) [.c (some 10) 6, .c (some 4) 7, .t 8] [(0,6,[A 3 (bx 47 0),A 4 (bx 37 1),o (.alloc 47 X.z0),o (.alloc 63 X.z1),mi 0]),(1,16,[ls 10 3,ls 5 4,m 2,c 42 [16,17,18],A 15 (m 19),e 0 15,e 1 15,A 9 (o (.alloc 63 X.z1)),st 4 9 20,A 10 (m 21)]),(2,22,[m 10,B .neq 0]),(3,24,[o (.build X.z0 []),o (.build X.z1 []),m 10,st 10 6 24,st 4 7 25,A 8 (m 26)]),(4,27,[f 5 3,L,N,mi 0]),(5,31,[b .lss 30 29]),(6,32,[m 30,ix 11 28 30,ls 11 33,A 12 (o (.alloc 57 X.z4)),A 11 (m 32),st 11 12 34]),(7,35,[f 9 12,L,B .neq 1]),(8,39,[ls 10 3,m 11,o (.call 9 [(.t 39), (.t 40), (.v (.int .i64 8))]),A 38 (m 41),e 0 38,e 1 38,A 13 (o (.alloc 47 X.z0)),st 10 13 42,A 14 (m 43)]),(9,44,[m 14,B .neq 0]),(10,46,[o (.build X.z0 []),o (.build X.z1 []),m 14,st 10 6 46,st 4 7 47,A 8 (m 48)]),(11,49,[ls 10 13,st 10 3 49]),(12,50,[bi .add 30 1,A 30 (m 50)])] := .mk Tryz.func11
def QS : List AO := dq [ls 10 3,ls 4 9,st 10 6 51,st 4 7 52,A 8 (mi 0)] 51 none
theorem AmH : TR Tryz.f11 53 13 = some QS := by kernel_rfl
def Xj : List (List Nat) := [[], [], [0], [0, 1, 2], [0, 1, 2, 3]]
theorem AhU : Ci (ro Tryz.f11 13) QS Xj = true := by kernel_rfl
theorem Sn : FI 18 Tryz.f18 122 (.h 0 (.q 1 30 2 (.q 3 36 4 (.s (.h 5 (.w 0 6 41 1 (.h 8 (.j 9 (.q 10 63 11 (.j 12 (.i 13 87 (.e 14) .n))))) 7)) (.h 15 (.q 16 95 17 (.h 18 (.q 19 108 20 (.h 21 (.h 22 (.q 23 121 24 (.e 25)))))))))))) [.t 12] [(0,11,[A 6 (bx 25 0),A 7 (bx 31 1),bx 37 5,mi 0]),(1,23,[m 2,N,B .eql 0,m 25,G,m 2,N,B .gtr 6,P]),(2,12,[mi 2]),(3,31,[f 0 11,L,m 2,N,c 47 [32,34],nt 35]),(4,12,[mi 15]),(5,13,[mi 0]),(6,37,[m 13,f 0 11,L,N,b .lss 37 40]),(7,42,[m 13,B .add 1,A 13 (m 43)]),(8,44,[f 0 11,L,m 13,X 4,ls 4 47,A 14 (o (.alloc 94 X.z1)),st 4 14 48]),(9,49,[ls 2 6,ls 4 7,f 2 14,L,m 2,f 0 14,L,f 1 14,L,o (.sub 8 (some (.t 55)) (some (.t 57)) none (.t 53)),m 3,m 4,c 48 [49,50,52,58,59,60],A 15 (m 61)]),(10,62,[m 15,B .neq 0]),(11,64,[m 15,A 12 (m 64)]),(12,66,[ls 2 6,ls 4 7,f 2 14,L,m 2,f 0 14,L,f 1 14,L,o (.sub 8 (some (.t 72)) (some (.t 74)) none (.t 70)),m 3,c 49 [66,67,69,75,76],A 65 (m 77),e 0 65,e 1 65,A 16 (m 78),A 17 (m 79)]),(13,80,[m 17,B .neq 0,m 81,G,m 16,f 3 14,L,b .neq 83 85,P]),(14,12,[mi 36]),(15,88,[ls 2 6,ls 4 7,m 2,f 0 11,L,c 50 [88,89,90,92],A 18 (m 93)]),(16,94,[m 18,B .neq 0]),(17,96,[m 18,A 12 (m 96)]),(18,98,[ls 2 6,ls 4 7,m 2,m 3,f 0 11,L,c 51 [98,99,100,101,103],A 97 (m 104),e 0 97,e 1 97,A 19 (o (.alloc 37 X.z5)),st 5 19 105,A 20 (m 106)]),(19,107,[m 20,nt 107]),(20,12,[mi 36]),(21,110,[ls 4 7,f 0 11,L,c 52 [110,112],A 109 (m 113),e 0 109,e 1 109,A 21 (m 114),A 22 (m 115)]),(22,116,[m 21,f 1 19,st 1 117 116]),(23,118,[ls 5 19,ls 5 11,c 53 [118,119],nt 120]),(24,12,[mi 36]),(25,12,[mi 0])] := .mk Tryz.func18
theorem YM : FI 19 Tryz.f19 5 (.h 0 (.e 1)) [.t 2] [(0,2,[mv (.bool false)]),(1,3,[m 0,o (.call 54 [(.t 3), (.v (.int .i64 1))]),A 2 (m 4)])] := .mk Tryz.func19
theorem Zb : FI 23 Tryz.f23 36 (.h 0 (.s (.h 1 (.w 0 2 11 1 (.i 4 25 (.e 5) .n) 3)) (.e 6))) [.t 6] [(0,6,[mv (.bool false)]),(1,7,[mi 0]),(2,8,[m 7,m 0,o (.slen (.t 9)),b .lss 8 10]),(3,12,[m 7,B .add 1,A 7 (m 13)]),(4,14,[m 0,m 7,o (.sidx (.t 14) (.t 15)),c 57 [16],nt 17,m 18,H,m 0,m 7,o (.sidx (.t 20) (.t 21)),c 58 [22],nt 23,Q]),(5,6,[mv (.bool false)]),(6,26,[m 0,o (.slen (.t 26)),m 1,b .geq 27 28,m 29,H,m 0,o (.slen (.t 31)),m 2,b .leq 32 33,Q,A 6 (m 35)])] := .mk Tryz.func23
theorem Zj : FI 25 Tryz.f25 19 (.h 0 (.e 1)) [.t 2] [(0,1,[bx 25 0,mv (.bool false)]),(1,3,[f 0 1,L,N,B .leq 12,m 6,H,f 1 1,L,N,B .leq 20,Q,m 12,H,ls 2 1,c 43 [14],N,B .eql 0,Q,A 2 (m 18)])] := .mk Tryz.func25
theorem Zm : FI 26 Tryz.f26 9 (.h 0 (.e 1)) [.t 2] [(0,2,[mv (.bool false)]),(1,3,[m 0,B .geq (-1099511627776),m 4,H,m 0,B .leq 1099511627776,Q,A 2 (m 8)])] := .mk Tryz.func26
theorem Zn : FI 27 Tryz.f27 44 (.h 0 (.s (.h 1 (.w 0 2 7 1 (.i 4 43 (.e 5) .n) 3)) (.e 6))) [.t 2] [(0,2,[mv (.bool false)]),(1,3,[mi 0]),(2,4,[m 3,m 0,N,b .lss 4 6]),(3,8,[m 3,B .add 1,A 3 (m 9)]),(4,10,[m 0,m 3,X 8,F 0,F 5,L,B .lss 0,m 16,G,m 0,m 3,X 8,F 0,F 5,L,B .geq 52596000,P,m 25,G,m 0,m 3,X 8,F 0,F 6,L,B .lss 0,P,m 34,G,m 0,m 3,X 8,F 0,F 6,L,B .geq 52596000,P]),(5,2,[mv (.bool false)]),(6,2,[mv (.bool true)])] := .mk Tryz.func27
theorem Sw : FI 28 Tryz.f28 150 (.h 0 (.h 1 (.s (.i 2 20 (.g 3) .n) (.s (.h 4 (.w 0 5 29 1 (.j 7 (.h 8 (.w 2 9 43 3 (.d 11) 10))) 6)) (.s (.h 12 (.w 4 13 61 5 (.h 15 (.s (.h 16 (.w 6 17 69 7 (.d 19) 18)) (.s (.i 20 88 (.g 21) .n) (.g 22)))) 14)) (.s (.h 23 (.w 8 24 107 9 (.h 26 (.s (.h 27 (.w 10 28 115 11 (.d 30) 29)) (.s (.i 31 134 (.g 32) .n) (.g 33)))) 25)) (.e 34))))))) [.t 4] [(0,2,[bx 25 0,bx 31 1,mv .nils]),(1,5,[mv .nils]),(2,17,[f 0 3,L,N,B .gtr 512]),(3,21,[m 5,o (.build X.z6 [(0, 1, (.v (.int .i64 4))), (1, 1, (.v (.str [102, 97, 114, 101, 115])))]),sl 126 2 [22],ap 126 2 24 21 23,A 5 (m 24)]),(4,6,[mi 0]),(5,25,[m 6,f 0 3,L,N,b .lss 25 28]),(6,30,[m 6,B .add 1,A 6 (m 31)]),(7,32,[ls 2 2,ls 4 3,f 0 3,L,m 6,X 9,ls 9 37,c 67 [32,33,38],A 7 (m 39)]),(8,8,[mi 0]),(9,40,[m 8,m 7,N,b .lss 40 42]),(10,44,[m 8,B .add 1,A 8 (m 45)]),(12,9,[mi 0]),(13,57,[m 9,f 1 3,L,N,b .lss 57 60]),(14,62,[m 9,B .add 1,A 9 (m 63)]),(15,64,[m 9,c 68 [64],o (.bin .add (.v (.str [114, 117, 108, 101, 32])) (.t 65)),A 10 (m 66),A 11 (mv (.bool false))]),(16,12,[mi 0]),(17,67,[m 12,m 9,b .lss 67 68]),(18,70,[m 12,B .add 1,A 12 (m 71)]),(19,72,[m 11,m 72,G,f 1 3,L,m 12,X 15,F 0,L,f 1 3,L,m 9,X 15,F 0,L,b .eql 79 85,P,A 11 (m 87)]),(20,88,[m 11]),(21,89,[m 5,m 10,o (.build X.z6 [(0, 1, (.v (.int .i64 6))), (1, 1, (.t 90))]),sl 126 2 [91],ap 126 2 24 89 92,A 5 (m 93)]),(22,94,[m 5,m 10,f 1 3,L,m 9,X 15,ls 15 99,c 70 [100],c 69 [94,95,101],A 5 (m 102)]),(23,13,[mi 0]),(24,103,[m 13,f 2 3,L,N,b .lss 103 106]),(25,108,[m 13,B .add 1,A 13 (m 109)]),(26,110,[m 13,c 68 [110],o (.bin .add (.v (.str [114, 111, 117, 116, 105, 110, 103, 32])) (.t 111)),A 14 (m 112),A 15 (mv (.bool false))]),(27,16,[mi 0]),(28,113,[m 16,m 13,b .lss 113 114]),(29,116,[m 16,B .add 1,A 16 (m 117)]),(30,118,[m 15,m 118,G,f 2 3,L,m 16,X 3,F 0,L,f 2 3,L,m 13,X 3,F 0,L,b .eql 125 131,P,A 15 (m 133)]),(31,134,[m 15]),(32,135,[m 5,m 14,o (.build X.z6 [(0, 1, (.v (.int .i64 6))), (1, 1, (.t 136))]),sl 126 2 [137],ap 126 2 24 135 138,A 5 (m 139)]),(33,140,[m 5,m 14,f 2 3,L,m 13,X 3,ls 3 145,c 71 [146],c 69 [140,141,147],A 5 (m 148)]),(34,149,[m 5,A 4 (m 149)])] := .mk Tryz.func28
def QV : List AO := dq [m 5,m 7,m 8,X 1,L,m 6,c 68 [51],o (.bin .add (.v (.str [102, 97, 114, 101, 32])) (.t 52)),o (.build X.z6 [(0, 1, (.t 50)), (1, 1, (.t 53))]),sl 126 2 [54],ap 126 2 24 46 55,A 5 (m 56)] 46 none
theorem AmR : TR Tryz.f28 150 11 = some QV := by kernel_rfl
def Xm : List (List Nat) := [[], [], [], [1, 2], [1, 2, 3], [], [5], [5, 6], [1, 2, 3, 4, 5, 6, 7], [1, 2, 3, 4, 5, 6, 7, 8], [0, 1, 2, 3, 4, 5, 6, 7, 8, 9], [0, 1, 2, 3, 4, 5, 6, 7, 8, 9, 10]]
theorem AhX : Ci (ro Tryz.f28 11) QV Xm = true := by kernel_rfl
theorem Sx : FI 29 Tryz.f29 78 (.h 0 (.h 1 (.s (.h 2 (.w 0 3 10 1 (.j 5 (.s (.i 6 22 (.g 7) .n) (.s (.i 8 35 (.g 9) .n) (.j 10 (.c 71 (.g 11) .n))))) 4)) (.e 12)))) [.t 2] [(0,2,[mv .nils]),(1,3,[mv .nils]),(2,4,[mi 0]),(3,7,[m 4,m 0,N,b .lss 7 9]),(4,11,[m 4,B .add 1,A 4 (m 12)]),(6,20,[ls 7 5,c 72 [20],nt 21]),(7,23,[m 3,m 6,o (.build X.z6 [(0, 1, (.v (.int .i64 5))), (1, 1, (.t 24))]),sl 126 2 [25],ap 126 2 24 23 26,A 3 (m 27)]),(8,28,[f 1 5,L,B .lss 1,m 30,G,f 1 5,L,B .gtr 4,P]),(9,36,[m 3,m 6,o (.build X.z6 [(0, 1, (.v (.int .i64 8))), (1, 1, (.t 37))]),sl 126 2 [38],ap 126 2 24 36 39,A 3 (m 40)]),(10,41,[f 3 5,L,B .lss 0,m 43,G,f 3 5,L,f 1 5,L,c 73 [48],b .gtr 46 49,P,m 51,G,f 4 5,L,B .lss 0,P,m 56,G,f 4 5,L,B .gtr 2,P,m 61,G,f 5 5,L,B .lss 0,P,m 66,G,f 5 5,L,B .gtr 100000,P]),(11,72,[m 3,m 6,o (.build X.z6 [(0, 1, (.v (.int .i64 2))), (1, 1, (.t 73))]),sl 126 2 [74],ap 126 2 24 72 75,A 3 (m 76)]),(12,77,[m 3,A 2 (m 77)])] := .mk Tryz.func29
def QW : List AO := dq [m 0,m 4,X 7,ls 7 15,m 4,c 68 [17],o (.bin .add (.v (.str [116, 97, 120, 32])) (.t 18)),A 5 (o (.alloc 143 X.z7)),st 7 5 16,A 6 (m 19)] 13 none
theorem AmS : TR Tryz.f29 78 5 = some QW := by kernel_rfl
def Xn : List (List Nat) := [[], [], [0, 1], [0, 1, 2], [], [4], [4, 5], [], [0, 1, 2, 3, 4, 5, 7], [0, 1, 2, 3, 4, 5, 6, 7, 8]]
theorem AhY : Ci (ro Tryz.f29 5) QW Xn = true := by kernel_rfl
theorem Zo : FI 30 Tryz.f30 29 (.h 0 (.h 1 (.q 2 13 3 (.e 4)))) [.t 2] [(0,2,[mv (.str [])]),(1,7,[m 0,c 74 [7],A 6 (m 8),e 0 6,e 1 6,e 2 6,A 3 (m 9),A 4 (m 10),A 5 (m 11)]),(2,12,[m 3,B .eql 0]),(4,14,[m 3,B .quo 100,c 75 [15],m 3,B .rem 100,c 75 [18],b .add 16 19,o (.bin .add (.t 20) (.v (.str [45]))),m 4,c 75 [22],b .add 21 23,o (.bin .add (.t 24) (.v (.str [45]))),m 5,c 75 [26],b .add 25 27,A 2 (m 28)])] := .mk Tryz.func30
theorem Zp : FI 32 Tryz.f32 10 (.h 0 (.e 1)) [.t 4] [(0,2,[bx 86 0,A 4 (mi 0)]),(1,5,[m 1,ls 2 2,m 1,c 77 [6,7],b .add 5 8,A 4 (m 9)])] := .mk Tryz.func32
theorem Zq : FI 33 Tryz.f33 45 (.h 0 (.h 1 (.s (.h 2 (.b 0 (.l (.h 3 (.s (.c 13 .n (.x 0)) (.s (.b 1 (.h 4 (.q 5 38 6 (.g 7)))) (.g 8))))))) (.e 9)))) [.t 6] [(0,3,[bx 31 0,A 6 (mv (.bool false))]),(1,7,[mi 0]),(2,10,[m 1,N,mi 0]),(3,13,[b .lss 12 11]),(4,14,[ix 4 10 12,ls 4 14,A 9 (o (.alloc 94 X.z1)),st 4 9 15]),(5,16,[f 0 9,L,m 7,b .neq 17 18,m 19,G,f 1 9,L,m 7,b .leq 22 23,P,m 25,G,f 2 9,L,B .lss 0,P,m 30,G,f 2 9,L,f 0 3,L,N,b .geq 33 36,P]),(6,6,[mv (.bool false)]),(7,39,[f 1 9,L,A 7 (m 40)]),(8,41,[bi .add 12 1,A 12 (m 41)]),(9,42,[m 7,m 2,b .eql 42 43,A 6 (m 44)])] := .mk Tryz.func33
theorem Zr : FI 34 Tryz.f34 13 (.h 0 (.h 1 (.e 2))) [.t 2] [(0,2,[mv (.bool false)]),(1,7,[m 0,c 78 [7],A 6 (m 8),e 0 6,e 1 6,e 2 6,A 3 (m 9),A 4 (m 10),A 5 (m 11)]),(2,12,[m 5,A 2 (m 12)])] := .mk Tryz.func34
theorem Zs : FI 35 Tryz.f35 9 (.h 0 (.e 1)) [.t 2] [(0,2,[mv (.bool false)]),(1,3,[m 0,B .geq 0,m 4,H,m 0,B .lss 36525,Q,A 2 (m 8)])] := .mk Tryz.func35
theorem Sy : FI 36 Tryz.f36 50 (.h 0 (.q 1 19 2 (.h 3 (.h 4 (.s (.h 5 (.b 0 (.l (.h 6 (.s (.c 27 .n (.x 0)) (.s (.b 1 (.h 7 (.j 8 (.q 9 43 10 (.g 11))))) (.g 12))))))) (.e 13)))))) [.t 6, .t 7] [(0,5,[A 3 (bx 25 0),bx 37 2,mv .nils,mi 0]),(1,14,[f 0 5,L,m 1,N,c 79 [15,17],nt 18]),(2,6,[mv .nils,mi 2]),(3,20,[ls 2 3,m 1,c 80 [20,21],A 8 (m 22)]),(4,9,[mv .nils]),(5,23,[f 0 5,L,N,mi 0]),(6,27,[b .lss 26 25]),(7,28,[ix 4 24 26,ls 4 28,A 11 (o (.alloc 94 X.z1)),st 4 11 29]),(8,31,[f 3 11,L,m 8,f 0 11,L,f 1 11,L,o (.sub 1 (some (.t 35)) (some (.t 37)) none (.t 33)),c 81 [32,38],A 30 (m 39),e 0 30,e 1 30,A 12 (m 40),A 13 (m 41)]),(9,42,[m 13,B .neq 0]),(10,6,[A 44 (m 13),mv .nils,m 44]),(11,45,[m 9,m 12,ap 3 1 8 45 46,A 9 (m 47)]),(12,48,[bi .add 26 1,A 26 (m 48)]),(13,6,[A 49 (m 9),m 49,mi 0])] := .mk Tryz.func36
theorem Lv : FI 37 Tryz.f37 8 (.h 0 (.q 1 4 2 (.e 3))) [.t 2] [(0,2,[mv .nils]),(1,3,[m 0,o (.binn .eql (.t 3) (.v .nils))]),(2,2,[mv .nils]),(3,5,[sl 92 2 [],m 0,ap 92 2 24 5 6,A 2 (m 7)])] := .mk Tryz.func37
theorem Zt : FI 38 Tryz.f38 33 (.h 0 (.q 1 20 2 (.q 3 26 4 (.s (.h 5 (.i 6 31 (.e 7) .n)) (.e 8))))) [.t 4, .t 5] [(0,4,[mi 0,mi 0]),(1,7,[m 0,B .lss 1,m 8,G,m 0,B .gtr 8,P,m 12,G,m 1,B .lss 1,P,m 16,G,m 1,B .gtr 10,P]),(2,4,[mi 0,mi 8]),(3,21,[m 0,B .eql 2,m 22,H,m 1,B .geq 8,Q]),(4,4,[mi 0,mi 28]),(5,27,[m 0,m 1,c 82 [27,28],A 6 (m 29)]),(6,30,[m 6,B .neq 0]),(7,4,[A 32 (m 6),m 32,mi 0]),(8,4,[mi 0,mi 27])] := .mk Tryz.func38
theorem Zu : FI 39 Tryz.f39 8 (.h 0 (.q 1 4 2 (.e 3))) [.t 2] [(0,2,[mv .nils]),(1,3,[m 0,o (.binn .eql (.t 3) (.v .nils))]),(3,5,[sl 57 11 [],m 0,ap 57 11 128 5 6,A 2 (m 7)])] := .mk Tryz.func39
theorem Zv : FI 40 Tryz.f40 60 (.h 0 (.q 1 15 2 (.h 3 (.q 4 23 5 (.q 6 29 7 (.h 8 (.q 9 37 10 (.h 11 (.q 12 47 13 (.h 14 (.e 15))))))))))) [.c (some 4) 4, .t 5] [(0,4,[A 2 (bx 47 0),o (.alloc 59 X.z1),mi 0]),(1,10,[m 1,B .lss 0,m 11,G,m 1,B .gtr 1099511627776,P]),(2,16,[o (.build X.z1 []),st 4 4 16,A 5 (mi 2)]),(3,18,[ls 10 2,c 83 [18],A 17 (m 19),e 0 17,e 1 17,A 6 (m 20),A 7 (m 21)]),(4,22,[m 7,B .neq 0]),(5,24,[o (.build X.z1 []),m 7,st 4 4 24,A 5 (m 25)]),(6,26,[f 5 2,L,o (.call 84 [(.t 27), (.v (.fn 41 []))]),nt 28]),(7,30,[o (.build X.z1 []),st 4 4 30,A 5 (mi 27)]),(8,32,[ls 10 2,c 85 [32],A 31 (m 33),e 0 31,e 1 31,A 8 (m 34),A 7 (m 35)]),(9,36,[m 7,B .neq 0]),(10,38,[o (.build X.z1 []),m 7,st 4 4 38,A 5 (m 39)]),(11,41,[m 6,m 8,c 86 [41,42],A 40 (m 43),e 0 40,e 1 40,A 9 (m 44),A 7 (m 45)]),(12,46,[m 7,B .neq 0]),(13,48,[o (.build X.z1 []),m 7,st 4 4 48,A 5 (m 49)]),(14,50,[m 1,m 9,o (.mn (.t 50) (.t 51)),A 1 (m 52)]),(15,53,[m 6,m 8,m 1,m 9,m 1,b .sub 56 57,o (.build X.z1 [(0, 1, (.t 53)), (1, 1, (.t 54)), (2, 1, (.t 55)), (3, 1, (.t 58))]),st 4 4 59,A 5 (mi 0)])] := .mk Tryz.func40
theorem Zw : FI 41 Tryz.f41 6 (.h 0 (.e 1)) [.t 2] [(0,1,[bx 57 0,mv (.bool false)]),(1,3,[f 9 1,L,B .eql 1,A 2 (m 5)])] := .mk Tryz.func41
end Go.Proofs.YtjkclhbckfkeeaaGreatDoor
namespace Go.Proofs.YtjkclhbckfkeeaaGreatDoor
open Go Go.RowKit X
theorem Zx : FI 42 Tryz.f42 60 (.h 0 (.q 1 18 2 (.h 3 (.q 4 26 5 (.q 6 32 7 (.h 8 (.h 9 (.h 10 (.q 11 57 12 (.e 13)))))))))) [.c (some 4) 6, .t 7] [(0,3,[bx 47 0,bx 37 1,A 6 (o (.alloc 63 X.z1)),A 7 (mi 0)]),(1,12,[m 2,c 87 [12],m 13,G,f 4 4,L,c 87 [16],P]),(2,19,[o (.build X.z1 []),st 4 6 19,A 7 (mi 2)]),(3,21,[ls 10 3,o (.call 40 [(.t 21), (.v (.int .i64 0))]),A 20 (m 22),e 0 20,e 1 20,A 8 (o (.alloc 59 X.z1)),st 4 8 23,A 9 (m 24)]),(4,25,[m 9,B .neq 0]),(5,27,[o (.build X.z1 []),m 9,st 4 6 27,A 7 (m 28)]),(6,29,[f 5 3,L,o (.call 84 [(.t 30), (.v (.fn 88 []))]),nt 31]),(7,33,[o (.build X.z1 []),st 4 6 33,A 7 (mi 27)]),(8,34,[f 0 8,L,f 1 8,L,b .add 35 37,m 2,o (.build X.z1 [(0, 1, (.t 38)), (1, 1, (.t 39))]),A 10 (o (.alloc 63 X.z1)),st 4 10 40]),(9,41,[f 4 4,L,m 2,b .add 42 43,f 0 10,L,b .sub 44 46,A 11 (m 47)]),(10,48,[m 11,o (.mx (.t 48) (.v (.int .i64 0))),m 11,o (.un .neg (.t 50)),o (.mx (.t 51) (.v (.int .i64 0))),f 2 10,st 1 53 49,f 3 10,st 1 54 52]),(11,55,[f 2 10,L,B .gtr 1099511627776]),(12,58,[o (.build X.z1 []),st 4 6 58,A 7 (mi 11)]),(13,59,[ls 4 10,st 4 6 59,A 7 (mi 0)])] := .mk Tryz.func42
theorem Zy : FI 43 Tryz.f43 65 (.h 0 (.h 1 (.s (.h 2 (.w 0 3 14 1 (.h 5 (.h 6 (.w 2 7 23 3 (.d 9) 8))) 4)) (.s (.h 10 (.w 4 11 41 5 (.h 13 (.h 14 (.w 6 15 50 7 (.d 17) 16))) 12)) (.e 18))))) [.t 2] [(0,1,[bx 25 0,mv .nils]),(1,3,[mv .nils]),(2,4,[mi 0]),(3,10,[m 4,f 0 1,L,N,b .lss 10 13]),(4,15,[m 4,B .add 1,A 4 (m 16)]),(5,17,[ls 2 1,m 4,c 89 [17,18],A 5 (m 19)]),(6,6,[mi 0]),(7,20,[m 6,m 5,N,b .lss 20 22]),(8,24,[m 6,B .add 1,A 6 (m 25)]),(10,7,[mi 0]),(11,37,[m 7,f 1 1,L,N,b .lss 37 40]),(12,42,[m 7,B .add 1,A 7 (m 43)]),(13,44,[ls 2 1,m 7,c 90 [44,45],A 8 (m 46)]),(14,9,[mi 0]),(15,47,[m 9,m 8,N,b .lss 47 49]),(16,51,[m 9,B .add 1,A 9 (m 52)]),(18,64,[m 3,A 2 (m 64)])] := .mk Tryz.func43
def QY : List AO := dq [m 3,m 5,m 6,X 1,L,m 4,c 68 [31],o (.bin .add (.v (.str [97, 105, 114, 112, 111, 114, 116, 32])) (.t 32)),o (.build X.z6 [(0, 1, (.t 30)), (1, 1, (.t 33))]),sl 126 2 [34],ap 126 2 24 26 35,A 3 (m 36)] 26 none
theorem AmU : TR Tryz.f43 65 9 = some QY := by kernel_rfl
def QX : List AO := dq [m 3,m 8,m 9,X 1,L,m 7,c 68 [58],o (.bin .add (.v (.str [100, 105, 115, 116, 97, 110, 99, 101, 32])) (.t 59)),o (.build X.z6 [(0, 1, (.t 57)), (1, 1, (.t 60))]),sl 126 2 [61],ap 126 2 24 53 62,A 3 (m 63)] 53 none
theorem AmT : TR Tryz.f43 65 17 = some QX := by kernel_rfl
def Xp : List (List Nat) := [[], [], [], [1, 2], [1, 2, 3], [], [5], [5, 6], [1, 2, 3, 4, 5, 6, 7], [1, 2, 3, 4, 5, 6, 7, 8], [0, 1, 2, 3, 4, 5, 6, 7, 8, 9], [0, 1, 2, 3, 4, 5, 6, 7, 8, 9, 10]]
theorem Ah0 : Ci (ro Tryz.f43 9) QY Xp = true := by kernel_rfl
def Xo : List (List Nat) := [[], [], [], [1, 2], [1, 2, 3], [], [5], [5, 6], [1, 2, 3, 4, 5, 6, 7], [1, 2, 3, 4, 5, 6, 7, 8], [0, 1, 2, 3, 4, 5, 6, 7, 8, 9], [0, 1, 2, 3, 4, 5, 6, 7, 8, 9, 10]]
theorem AhZ : Ci (ro Tryz.f43 17) QX Xo = true := by kernel_rfl
theorem Zz : FI 47 Tryz.f47 46 (.h 0 (.h 1 (.s (.h 2 (.w 0 3 10 1 (.q 5 37 6 (.g 7)) 4)) (.e 8)))) [.t 4] [(0,4,[mv (.bool false)]),(1,5,[mi 0]),(2,6,[mi 0]),(3,7,[m 6,m 0,N,b .lss 7 9]),(4,11,[m 6,B .add 1,A 6 (m 12)]),(5,13,[m 0,m 6,X 4,F 0,L,m 5,b .neq 17 18,m 19,G,m 0,m 6,X 4,F 1,L,m 5,b .leq 25 26,P,m 28,G,m 0,m 6,X 4,F 1,L,m 1,b .gtr 34 35,P]),(6,4,[mv (.bool false)]),(7,38,[m 0,m 6,X 4,F 1,L,A 5 (m 42)]),(8,43,[m 5,m 1,b .eql 43 44,A 4 (m 45)])] := .mk Tryz.func47
theorem Sz : FI 48 Tryz.f48 136 (.h 0 (.q 1 35 2 (.h 3 (.h 4 (.h 5 (.s (.h 6 (.w 0 7 47 1 (.s (.j 9 (.c 58 (.e 10) .n)) (.d 11)) 8)) (.s (.j 12 (.c 86 (.e 13) .n)) (.q 14 88 15 (.h 16 (.j 17 (.q 18 104 19 (.h 20 (.q 21 121 22 (.s (.i 23 125 (.d 24) .n) (.e 25))))))))))))))) [.t 12] [(0,6,[bx 25 0,bx 31 1,A 12 (mi 0)]),(1,22,[m 3,N,B .eql 0,m 24,G,m 2,B .lss 0,P,m 28,G,m 2,f 0 7,L,N,b .geq 30 33,P]),(2,12,[mi 2]),(3,36,[f 0 7,L,m 2,X 9,ls 9 39,A 13 (o (.alloc 96 X.z8)),st 9 13 40]),(4,41,[ls 2 6,m 3,c 94 [41,42],A 14 (m 43)]),(5,15,[mv (.bool true)]),(6,16,[mi 0]),(7,44,[m 16,m 3,N,b .lss 44 46]),(8,48,[m 16,B .add 1,A 16 (m 49)]),(9,50,[m 3,m 16,X 8,F 0,F 0,L,f 0 13,L,b .neq 55 57]),(10,12,[mi 19]),(11,59,[m 15,m 59,H,m 3,m 16,X 8,F 7,L,f 4 13,L,b .eql 65 67,Q,A 15 (m 69)]),(12,70,[m 14,o (.idx 1 (.t 70) (.v (.int .i64 0))),L,f 1 13,L,b .neq 72 74,m 75,G,m 14,m 14,N,B .sub 1,ix 1 77 80,L,f 2 13,L,b .neq 82 84,P]),(13,12,[mi 19]),(14,87,[m 15,nt 87]),(15,12,[mi 16]),(16,90,[ls 4 7,f 7 13,L,c 95 [90,92],A 89 (m 93),e 0 89,e 1 89,A 17 (o (.alloc 135 X.z9)),st 15 17 94,A 18 (m 95)]),(17,96,[ls 15 17,ls 2 6,m 3,m 4,m 5,c 97 [97,98,99,100],c 96 [96,101],A 19 (m 102)]),(18,103,[m 19,B .neq 0]),(19,105,[m 19,A 12 (m 105)]),(20,107,[ls 4 7,f 8 13,L,c 98 [107,109],A 106 (m 110),e 0 106,e 1 106,A 20 (o (.alloc 140 X.z10)),st 3 20 111,A 21 (m 112)]),(21,113,[f 8 13,L,B .neq 0,m 115,H,ls 3 20,m 14,c 99 [117,118],nt 119,Q]),(22,12,[mi 21]),(23,122,[ls 4 7,ls 9 13,c 100 [122,123],B .gtr 0]),(24,127,[ls 2 6,m 14,ls 4 7,ls 9 13,c 100 [129,130],c 101 [127,128,131],A 126 (m 132),e 0 126,e 1 126,A 19 (m 134)]),(25,135,[m 19,A 12 (m 135)])] := .mk Tryz.func48
theorem SA : FI 49 Tryz.f49 81 (.h 0 (.q 1 33 2 (.h 3 (.h 4 (.s (.i 5 42 (.j 6 (.q 7 55 8 (.g 9))) .n) (.h 10 (.q 11 66 12 (.h 13 (.e 14))))))))) [.t 10, .t 11] [(0,10,[A 5 (bx 25 0),A 6 (bx 31 1),mi 0,mi 0]),(1,20,[m 3,N,B .eql 0,m 22,G,m 2,B .lss 0,P,m 26,G,m 2,f 0 6,L,N,b .geq 28 31,P]),(2,10,[mi 0,mi 2]),(3,34,[f 0 6,L,m 2,X 9,ls 9 37,A 12 (o (.alloc 96 X.z8)),st 9 12 38]),(4,13,[mi 0]),(5,39,[ls 4 6,ls 9 12,c 100 [39,40],B .gtr 0]),(6,44,[ls 2 5,ls 2 5,m 3,c 94 [45,46],ls 4 6,ls 9 12,c 100 [48,49],c 101 [44,47,50],A 43 (m 51),e 0 43,e 1 43,A 14 (m 52),A 15 (m 53)]),(7,54,[m 15,B .neq 0]),(8,10,[A 56 (m 15),mi 0,m 56]),(9,57,[m 14,A 13 (m 57)]),(10,59,[f 6 12,L,m 13,c 102 [60,61],A 58 (m 62),e 0 58,e 1 58,A 16 (m 63),A 17 (m 64)]),(11,65,[m 17,B .neq 0]),(12,10,[A 67 (m 17),mi 0,m 67]),(13,69,[ls 4 6,f 7 12,L,c 95 [69,71],A 68 (m 72),e 0 68,e 1 68,A 18 (o (.alloc 135 X.z9)),st 15 18 73,A 19 (m 74)]),(14,75,[ls 15 18,m 4,m 16,c 103 [75,76,77],e 0 78,e 1 78,A 10 (m 79),A 11 (m 80)])] := .mk Tryz.func49
theorem ZA : FI 50 Tryz.f50 36 (.h 0 (.q 1 15 2 (.s (.h 3 (.i 4 23 (.e 5) .n)) (.s (.h 6 (.i 7 29 (.e 8) .n)) (.e 9))))) [.t 8] [(0,4,[bx 25 0,bx 31 1,A 8 (mi 0)]),(1,12,[m 2,m 3,c 104 [12,13],nt 14]),(2,8,[mi 2]),(3,17,[ls 4 5,m 3,c 52 [17,18],A 16 (m 19),e 0 16,e 1 16,A 9 (m 20),A 10 (m 21)]),(4,22,[m 10,B .neq 0]),(5,24,[m 10,A 8 (m 24)]),(6,25,[ls 4 5,m 3,c 105 [25,26],A 11 (m 27)]),(7,28,[m 11,B .neq 0]),(8,30,[m 11,A 8 (m 30)]),(9,31,[ls 2 4,ls 4 5,m 2,m 3,c 106 [31,32,33,34],A 8 (m 35)])] := .mk Tryz.func50
theorem SB : FI 51 Tryz.f51 94 (.h 0 (.h 1 (.s (.h 2 (.w 0 3 22 1 (.j 5 (.i 6 44 (.e 7) .n)) 4)) (.j 8 (.q 9 59 10 (.h 11 (.h 12 (.s (.h 13 (.w 2 14 69 3 (.j 16 (.i 17 91 (.e 18) .n)) 15)) (.e 19))))))))) [.c (some 5) 10, .t 11] [(0,10,[A 5 (bx 25 0),A 6 (bx 31 1),o (.alloc 37 X.z5),mv (.bool false)]),(1,17,[m 4,o (.build X.z5 [(0, 1, (.t 17))]),A 12 (o (.alloc 37 X.z5)),st 5 12 18]),(2,13,[mi 0]),(3,19,[m 13,m 4,N,b .lss 19 21]),(4,23,[m 13,B .add 1,A 13 (m 24)]),(6,34,[m 4,m 13,X 4,F 3,L,B .gtr 1099511627776,m 39,G,f 3 12,L,B .gtr 1099511627776,P]),(7,45,[o (.build X.z5 []),st 5 10 45,A 11 (mv (.bool false))]),(8,47,[ls 2 5,f 3 6,L,m 2,c 108 [50],m 3,f 3 12,L,c 107 [47,49,51,52,54],A 46 (m 55),e 0 46,e 1 46,A 14 (m 56),A 15 (m 57)]),(9,58,[m 15,B .neq 0]),(10,60,[o (.build X.z5 []),st 5 10 60,A 11 (mv (.bool false))]),(11,61,[m 14,f 2 12,st 1 62 61]),(12,63,[f 3 12,L,f 4 12,st 1 65 64]),(13,16,[mi 0]),(14,66,[m 16,m 14,N,b .lss 66 68]),(15,70,[m 16,B .add 1,A 16 (m 71)]),(17,81,[m 14,m 16,X 2,F 1,L,B .gtr 1099511627776,m 86,G,f 4 12,L,B .gtr 1099511627776,P]),(18,92,[o (.build X.z5 []),st 5 10 92,A 11 (mv (.bool false))]),(19,93,[ls 5 12,st 5 10 93,A 11 (mv (.bool true))])] := .mk Tryz.func51
def Ra : List AO := dq [f 3 12,L,m 4,m 13,X 4,F 3,L,b .add 26 31,f 3 12,st 1 33 32] 25 none
theorem AmW : TR Tryz.f51 94 5 = some Ra := by kernel_rfl
def QZ : List AO := dq [f 4 12,L,m 14,m 16,X 2,F 1,L,b .add 73 78,f 4 12,st 1 80 79] 72 none
theorem AmV : TR Tryz.f51 94 16 = some QZ := by kernel_rfl
def Xr : List (List Nat) := [[], [0], [], [], [2, 3], [2, 3, 4], [2, 3, 4, 5], [0, 1, 2, 3, 4, 5, 6], [0, 1, 2, 3, 4, 5, 6, 7], [0, 1, 2, 3, 4, 5, 6, 7, 8]]
theorem Ah2 : Ci (ro Tryz.f51 5) Ra Xr = true := by kernel_rfl
def Xq : List (List Nat) := [[], [0], [], [], [2, 3], [2, 3, 4], [2, 3, 4, 5], [0, 1, 2, 3, 4, 5, 6], [0, 1, 2, 3, 4, 5, 6, 7], [0, 1, 2, 3, 4, 5, 6, 7, 8]]
theorem Ah1 : Ci (ro Tryz.f51 16) QZ Xq = true := by kernel_rfl
theorem SC : FI 52 Tryz.f52 49 (.h 0 (.q 1 12 2 (.h 3 (.s (.h 4 (.w 0 5 16 1 (.s (.j 7 (.c 34 (.x 1) .n)) (.h 8 (.q 9 41 10 (.g 11)))) 6)) (.e 12))))) [.t 4, .t 5] [(0,4,[A 2 (bx 31 0),mv .nils,mi 0]),(1,9,[ls 4 2,m 1,c 109 [9,10],nt 11]),(2,4,[mv .nils,mi 19]),(3,6,[mv .nils]),(4,7,[mi 0]),(5,13,[m 7,m 1,N,b .lss 13 15]),(6,17,[m 7,B .add 1,A 7 (m 18)]),(7,19,[f 0 2,L,m 1,m 7,X 4,F 2,L,ix 9 20 25,F 5,L,nt 28,m 29,G,m 6,m 7,c 110 [31,32],P]),(8,35,[ls 4 2,m 1,m 6,m 7,c 111 [35,36,37,38],A 8 (m 39)]),(9,40,[m 8,B .lss 0]),(10,4,[mv .nils,mi 23]),(11,42,[m 6,m 7,m 8,o (.build X.z11 [(0, 1, (.t 43)), (1, 1, (.t 44))]),sl 181 2 [45],ap 181 2 16 42 46,A 6 (m 47)]),(12,4,[A 48 (m 6),m 48,mi 0])] := .mk Tryz.func52
theorem SD : FI 53 Tryz.f53 101 (.h 0 (.q 1 46 2 (.s (.h 3 (.w 0 4 51 1 (.j 6 (.c 64 (.e 7) .n)) 5)) (.s (.h 8 (.w 2 9 69 3 (.j 11 (.c 82 (.e 12) .n)) 10)) (.s (.h 13 (.w 4 14 87 5 (.j 16 (.c 100 (.e 17) .n)) 15)) (.e 18)))))) [.t 4] [(0,2,[bx 37 0,bx 37 1,mv (.bool false)]),(1,8,[f 0 2,L,N,f 0 3,L,N,b .neq 10 13,m 14,G,f 1 2,L,N,f 1 3,L,N,b .neq 18 21,P,m 23,G,f 2 2,L,N,f 2 3,L,N,b .neq 27 30,P,m 32,G,f 3 2,L,f 3 3,L,b .neq 35 37,P,m 39,G,f 4 2,L,f 4 3,L,b .neq 42 44,P]),(2,4,[mv (.bool false)]),(3,5,[mi 0]),(4,47,[m 5,f 0 2,L,N,b .lss 47 50]),(5,52,[m 5,B .add 1,A 5 (m 53)]),(6,54,[f 0 2,L,m 5,X 4,ls 4 57,f 0 3,L,m 5,X 4,ls 4 62,o (.bina [.i .i64, .i .i64, .i .i64, .i .i64] .neq (.t 58) (.t 63))]),(7,4,[mv (.bool false)]),(8,6,[mi 0]),(9,65,[m 6,f 1 2,L,N,b .lss 65 68]),(10,70,[m 6,B .add 1,A 6 (m 71)]),(11,72,[f 1 2,L,m 6,X 2,ls 2 75,f 1 3,L,m 6,X 2,ls 2 80,o (.bina [.i .i64, .i .i64] .neq (.t 76) (.t 81))]),(12,4,[mv (.bool false)]),(13,7,[mi 0]),(14,83,[m 7,f 2 2,L,N,b .lss 83 86]),(15,88,[m 7,B .add 1,A 7 (m 89)]),(16,90,[f 2 2,L,m 7,X 2,ls 2 93,f 2 3,L,m 7,X 2,ls 2 98,o (.bina [.s, .i .i64] .neq (.t 94) (.t 99))]),(17,4,[mv (.bool false)]),(18,4,[mv (.bool true)])] := .mk Tryz.func53
theorem ZB : FI 54 Tryz.f54 21 (.h 0 (.s (.h 1 (.w 0 2 9 1 (.i 4 16 (.e 5) .n) 3)) (.e 6))) [.t 4] [(0,4,[mv (.bool false)]),(1,5,[mi 0]),(2,6,[m 5,m 0,o (.slen (.t 7)),b .lss 6 8]),(3,10,[m 5,B .add 1,A 5 (m 11)]),(4,12,[m 0,m 5,o (.sidx (.t 12) (.t 13)),c 57 [14],nt 15]),(5,4,[mv (.bool false)]),(6,17,[m 0,o (.slen (.t 17)),m 1,b .eql 18 19,A 4 (m 20)])] := .mk Tryz.func54
theorem ZC : FI 57 Tryz.f57 9 (.h 0 (.e 1)) [.t 2] [(0,2,[mv (.bool false)]),(1,3,[m 0,o (.bin .geq (.t 3) (.v (.int .u8 65))),m 4,H,m 0,o (.bin .leq (.t 6) (.v (.int .u8 90))),Q,A 2 (m 8)])] := .mk Tryz.func57
theorem ZD : FI 58 Tryz.f58 9 (.h 0 (.e 1)) [.t 2] [(0,2,[mv (.bool false)]),(1,3,[m 0,o (.bin .geq (.t 3) (.v (.int .u8 48))),m 4,H,m 0,o (.bin .leq (.t 6) (.v (.int .u8 57))),Q,A 2 (m 8)])] := .mk Tryz.func58
theorem ZE : FI 67 Tryz.f67 93 (.h 0 (.h 1 (.s (.i 2 19 (.g 3) .n) (.s (.i 4 34 (.g 5) .n) (.s (.i 6 52 (.g 7) .n) (.s (.i 8 59 (.g 9) .n) (.h 10 (.s (.i 11 71 (.g 12) .n) (.h 13 (.s (.i 14 88 (.g 15) .n) (.e 16))))))))))) [.t 6] [(0,3,[bx 25 0,bx 31 1,bx 96 2,mv .nils]),(1,7,[mv .nils]),(2,10,[f 0 5,L,c 123 [11],nt 12,m 13,G,f 3 5,L,o (.call 23 [(.t 16), (.v (.int .i64 1)), (.v (.int .i64 8))]),nt 17,P]),(3,20,[m 7,o (.slc 48 1 false [(.v (.int .i64 5))]),ap 48 1 8 20 21,A 7 (m 22)]),(4,23,[ls 2 3,f 1 5,L,c 124 [23,25],nt 26,m 27,G,ls 2 3,f 2 5,L,c 124 [29,31],nt 32,P]),(5,35,[m 7,o (.slc 48 1 false [(.v (.int .i64 14))]),ap 48 1 8 35 36,A 7 (m 37)]),(6,38,[f 1 5,L,f 2 5,L,b .eql 39 41,m 42,G,f 6 5,L,B .lss 0,P,m 47,G,f 6 5,L,B .gtr 1099511627776,P]),(7,53,[m 7,o (.slc 48 1 false [(.v (.int .i64 2))]),ap 48 1 8 53 54,A 7 (m 55)]),(8,56,[f 4 5,L,c 19 [57],nt 58]),(9,60,[m 7,o (.slc 48 1 false [(.v (.int .i64 16))]),ap 48 1 8 60 61,A 7 (m 62)]),(10,64,[ls 4 4,f 7 5,L,c 95 [64,66],A 63 (m 67),e 0 63,e 1 63,A 8 (o (.alloc 135 X.z9)),st 15 8 68,A 9 (m 69)]),(11,70,[m 9,nt 70]),(12,72,[m 7,o (.slc 48 1 false [(.v (.int .i64 20))]),ap 48 1 8 72 73,A 7 (m 74)]),(13,76,[ls 4 4,f 8 5,L,c 98 [76,78],A 75 (m 79),e 0 75,e 1 75,A 9 (m 81)]),(14,82,[f 8 5,L,B .neq 0,m 84,H,m 9,nt 86,Q]),(15,89,[m 7,o (.slc 48 1 false [(.v (.int .i64 21))]),ap 48 1 8 89 90,A 7 (m 91)]),(16,92,[m 7,A 6 (m 92)])] := .mk Tryz.func67
theorem ZF : FI 68 Tryz.f68 15 (.h 0 (.q 1 4 2 (.e 3))) [.t 2] [(0,2,[mv (.str [])]),(1,3,[m 0,B .lss 0]),(2,5,[m 0,B .add 1,o (.un .neg (.t 6)),o (.conv .u64 (.t 7)),o (.bin .add (.t 8) (.v (.int .u64 1))),c 125 [9],o (.bin .add (.v (.str [45])) (.t 10)),A 2 (m 11)]),(3,12,[m 0,o (.conv .u64 (.t 12)),c 125 [13],A 2 (m 14)])] := .mk Tryz.func68
theorem ZG : FI 69 Tryz.f69 32 (.h 0 (.s (.h 1 (.w 0 2 11 1 (.d 4) 3)) (.e 5))) [.t 6] [(0,6,[mv .nils]),(1,7,[mi 0]),(2,8,[m 7,m 2,N,b .lss 8 10]),(3,12,[m 7,B .add 1,A 7 (m 13)]),(5,31,[m 0,A 6 (m 31)])] := .mk Tryz.func69
def Rb : List AO := dq [m 0,m 2,m 7,X 2,F 0,L,m 1,o (.bin .add (.t 20) (.v (.str [32]))),m 2,m 7,X 2,F 1,L,b .add 21 26,o (.build X.z6 [(0, 1, (.t 19)), (1, 1, (.t 27))]),sl 126 2 [28],ap 126 2 24 14 29,A 0 (m 30)] 14 none
theorem AmX : TR Tryz.f69 32 4 = some Rb := by kernel_rfl
def Xs : List (List Nat) := [[], [], [], [1, 2], [1, 2, 3], [1, 2, 3, 4], [], [6], [], [], [8, 9], [8, 9, 10], [8, 9, 10, 11], [6, 7, 8, 9, 10, 11, 12], [1, 2, 3, 4, 5, 6, 7, 8, 9, 10, 11, 12, 13], [1, 2, 3, 4, 5, 6, 7, 8, 9, 10, 11, 12, 13, 14], [0, 1, 2, 3, 4, 5, 6, 7, 8, 9, 10, 11, 12, 13, 14, 15], [0, 1, 2, 3, 4, 5, 6, 7, 8, 9, 10, 11, 12, 13, 14, 15, 16]]
theorem Ah3 : Ci (ro Tryz.f69 4) Rb Xs = true := by kernel_rfl
theorem ZH : FI 70 Tryz.f70 95 (.h 0 (.h 1 (.s (.i 2 12 (.g 3) .n) (.h 4 (.s (.i 5 21 (.g 6) .n) (.h 7 (.s (.i 8 49 (.g 9) .n) (.s (.i 10 63 (.g 11) .n) (.s (.i 12 85 (.g 13) .n) (.e 14)))))))))) [.t 2] [(0,1,[bx 135 0,mv .nils]),(1,3,[mv .nils]),(2,5,[f 0 1,L,B .lss 1,m 7,G,f 0 1,L,B .gtr 9999,P]),(3,13,[m 3,o (.build X.z6 [(0, 1, (.v (.int .i64 2))), (1, 1, (.v (.str [110, 117, 109, 98, 101, 114])))]),sl 126 2 [14],ap 126 2 24 13 15,A 3 (m 16)]),(4,17,[f 1 1,ls 8 17,c 126 [18],A 4 (m 19)]),(5,20,[m 4,B .neq 0]),(6,22,[m 3,m 4,o (.build X.z6 [(0, 1, (.t 23)), (1, 1, (.v (.str [119, 104, 101, 110])))]),sl 126 2 [24],ap 126 2 24 22 25,A 3 (m 26)]),(7,27,[m 3,f 9 1,L,c 127 [29],ap 126 2 24 27 30,A 3 (m 31)]),(8,32,[f 10 1,L,B .lss 0,m 34,G,f 10 1,L,B .gtr 400,P,m 39,G,f 11 1,L,B .lss 0,P,m 44,G,f 11 1,L,B .gtr 400,P]),(9,50,[m 3,o (.build X.z6 [(0, 1, (.v (.int .i64 2))), (1, 1, (.v (.str [115, 116, 97, 121])))]),sl 126 2 [51],ap 126 2 24 50 52,A 3 (m 53)]),(10,54,[f 11 1,L,B .gtr 0,m 56,H,f 11 1,L,f 10 1,L,b .lss 59 61,Q]),(11,64,[m 3,o (.build X.z6 [(0, 1, (.v (.int .i64 24))), (1, 1, (.v (.str [115, 116, 97, 121])))]),sl 126 2 [65],ap 126 2 24 64 66,A 3 (m 67)]),(12,68,[f 12 1,L,B .lss (-1),m 70,G,f 12 1,L,B .gtr 1099511627776,P,m 75,G,f 13 1,L,B .lss (-1),P,m 80,G,f 13 1,L,B .gtr 1099511627776,P]),(13,86,[m 3,o (.build X.z6 [(0, 1, (.v (.int .i64 2))), (1, 1, (.v (.str [102, 101, 101, 115])))]),sl 126 2 [87],ap 126 2 24 86 88,A 3 (m 89)]),(14,90,[m 3,f 14 1,L,c 128 [92],ap 126 2 24 90 93,A 2 (m 94)])] := .mk Tryz.func70
def Vi : List AO := dq [f 12 1,L,B .lss (-1),m 70,G,f 12 1,L,B .gtr 1099511627776,P,m 75,G,f 13 1,L,B .lss (-1),P,m 80,G,f 13 1,L,B .gtr 1099511627776,P] 68 none
theorem AmY : TR Tryz.f70 95 12 = some Vi := by kernel_rfl
theorem SE : FI 71 Tryz.f71 101 (.h 0 (.h 1 (.s (.i 2 14 (.g 3) .n) (.s (.i 4 22 (.g 5) .n) (.s (.h 6 (.w 0 7 37 1 (.h 9 (.h 10 (.s (.i 11 57 (.g 12) .n) (.s (.i 13 67 (.g 14) .n) (.j 15 (.c 82 (.g 16) .n)))))) 8)) (.s (.i 17 95 (.g 18) .n) (.e 19))))))) [.t 2] [(0,1,[bx 140 0,mv .nils]),(1,3,[mv .nils]),(2,7,[f 0 1,L,B .lss 1,m 9,G,f 0 1,L,B .gtr 9999,P]),(3,15,[m 3,o (.build X.z6 [(0, 1, (.v (.int .i64 2))), (1, 1, (.v (.str [110, 117, 109, 98, 101, 114])))]),sl 126 2 [16],ap 126 2 24 15 17,A 3 (m 18)]),(4,19,[f 1 1,L,N,B .gtr 128]),(5,23,[m 3,o (.build X.z6 [(0, 1, (.v (.int .i64 4))), (1, 1, (.v (.str [108, 105, 110, 107, 115])))]),sl 126 2 [24],ap 126 2 24 23 25,A 3 (m 26)]),(6,4,[mi 0]),(7,27,[m 4,f 1 1,L,N,b .lss 27 30,m 31,H,f 1 1,L,N,B .leq 128,Q]),(8,38,[m 4,B .add 1,A 4 (m 39)]),(9,40,[f 1 1,L,m 4,X 2,ls 2 43,A 5 (o (.alloc 194 X.z12)),st 2 5 44]),(10,45,[m 4,c 68 [45],o (.bin .add (.v (.str [108, 105, 110, 107, 32])) (.t 46)),A 6 (m 47)]),(11,48,[f 0 5,L,c 129 [49],nt 50,m 51,G,f 1 5,L,c 129 [54],nt 55,P]),(12,58,[m 3,m 6,o (.build X.z6 [(0, 1, (.v (.int .i64 5))), (1, 1, (.t 59))]),sl 126 2 [60],ap 126 2 24 58 61,A 3 (m 62)]),(13,63,[f 0 5,L,f 1 5,L,b .eql 64 66]),(14,68,[m 3,m 6,o (.build X.z6 [(0, 1, (.v (.int .i64 2))), (1, 1, (.t 69))]),sl 126 2 [70],ap 126 2 24 68 71,A 3 (m 72)]),(15,73,[f 1 1,L,m 4,o (.sub 2 none (some (.t 75)) none (.t 74)),f 0 5,L,f 1 5,L,c 130 [76,78,80],B .geq 0]),(16,83,[m 3,m 6,o (.build X.z6 [(0, 1, (.v (.int .i64 6))), (1, 1, (.t 84))]),sl 126 2 [85],ap 126 2 24 83 86,A 3 (m 87)]),(17,88,[f 2 1,L,B .lss 0,m 90,G,f 2 1,L,B .gtr 99999,P]),(18,96,[m 3,o (.build X.z6 [(0, 1, (.v (.int .i64 2))), (1, 1, (.v (.str [109, 105, 108, 101, 115])))]),sl 126 2 [97],ap 126 2 24 96 98,A 3 (m 99)]),(19,100,[m 3,A 2 (m 100)])] := .mk Tryz.func71
theorem ZI : FI 72 Tryz.f72 28 (.h 0 (.q 1 13 2 (.s (.h 3 (.w 0 4 18 1 (.i 6 27 (.e 7) .n) 5)) (.e 8)))) [.t 2] [(0,1,[bx 143 0,mv (.bool false)]),(1,4,[f 0 1,L,o (.call 23 [(.t 5), (.v (.int .i64 2)), (.v (.int .i64 2))]),nt 6,m 7,G,f 2 1,L,c 131 [10],nt 11,P]),(2,2,[mv (.bool false)]),(3,3,[mi 0]),(4,14,[m 3,f 6 1,L,N,b .lss 14 17]),(5,19,[m 3,B .add 1,A 3 (m 20)]),(6,21,[f 6 1,L,m 3,X 1,L,o (.call 23 [(.t 25), (.v (.int .i64 3)), (.v (.int .i64 3))]),nt 26]),(7,2,[mv (.bool false)]),(8,2,[mv (.bool true)])] := .mk Tryz.func72
theorem ZJ : FI 73 Tryz.f73 5 (.h 0 (.q 1 4 2 (.e 3))) [.t 2] [(0,2,[mi 0]),(1,3,[m 0,B .eql 4]),(2,2,[mi 100000]),(3,2,[mi 1099511627776])] := .mk Tryz.func73
theorem ZK : FI 74 Tryz.f74 48 (.h 0 (.q 1 14 2 (.h 3 (.s (.b 0 (.l (.s (.i 4 22 .n (.x 0)) (.b 1 (.g 5))))) (.h 6 (.s (.h 7 (.b 2 (.l (.h 8 (.s (.c 30 .n (.x 2)) (.s (.b 3 (.h 9 (.h 10 (.q 11 38 12 (.g 13))))) (.g 14))))))) (.e 15))))))) [.t 2, .t 3, .t 4] [(0,2,[mi 0,mi 0,mi 0]),(1,9,[m 0,B .lss 0,m 10,G,m 0,B .geq 36525,P]),(3,15,[m 0,B .quo 366,o (.bin .add (.v (.int .i64 2000)) (.t 16)),A 5 (m 17)]),(4,18,[m 5,B .add 1,c 132 [19],m 0,b .leq 20 21]),(5,23,[m 5,B .add 1,A 5 (m 24)]),(6,25,[m 0,m 5,c 132 [26],b .sub 25 27,A 6 (m 28)]),(7,29,[mi 0]),(8,30,[B .lss 12]),(9,31,[m 29,A 7 (m 31)]),(10,32,[m 5,m 7,B .add 1,c 133 [32,34],A 8 (m 35)]),(11,36,[m 6,m 8,b .lss 36 37]),(12,39,[m 5,m 7,B .add 1,m 6,B .add 1,A 2 (m 39),A 3 (m 41),A 4 (m 43)])] := .mk Tryz.func74
theorem ZL : FI 75 Tryz.f75 13 (.h 0 (.e 1)) [.t 2] [(0,2,[mv (.str [])]),(1,3,[m 0,B .quo 10,o (.bin .add (.v (.int .i64 48)) (.t 4)),o (.conv .u8 (.t 5)),m 0,B .rem 10,o (.bin .add (.v (.int .i64 48)) (.t 8)),o (.conv .u8 (.t 9)),sl 5 1 [6,10],o (.b2s (.t 11)),A 2 (m 12)])] := .mk Tryz.func75
theorem ZM : FI 77 Tryz.f77 25 (.h 0 (.h 1 (.s (.h 2 (.b 0 (.l (.h 3 (.s (.c 14 .n (.x 0)) (.s (.b 1 (.h 4 (.s (.i 5 20 (.x 0) .n) (.g 6)))) (.g 7))))))) (.e 8)))) [.t 4] [(0,2,[bx 86 0,A 4 (mi 0)]),(1,8,[f 0 2,L,A 5 (m 9)]),(2,10,[f 1 2,L,N,mi 0]),(3,14,[b .lss 13 12]),(8,24,[m 5,A 4 (m 24)])] := .mk Tryz.func77
theorem ZN : FI 78 Tryz.f78 30 (.h 0 (.h 1 (.h 2 (.q 3 27 4 (.e 5))))) [.t 2, .t 3, .t 4] [(0,2,[mi 0,mi 0,mv (.bool false)]),(1,9,[m 0,B .quo 10,B .quo 10000000000,m 0,B .quo 10,B .rem 10000000000,A 5 (m 11),A 6 (m 14)]),(2,16,[m 5,m 6,c 137 [16,17],A 15 (m 18),e 0 15,e 1 15,A 7 (m 19),A 8 (m 20)]),(3,21,[m 8,B .neq 0,m 22,G,m 7,m 0,b .neq 24 25,P]),(4,2,[mi 0,mi 0,mv (.bool false)]),(5,2,[A 28 (m 5),A 29 (m 6),m 28,m 29,mv (.bool true)])] := .mk Tryz.func78
theorem ZO : FI 79 Tryz.f79 36 (.h 0 (.h 1 (.s (.h 2 (.b 0 (.l (.h 3 (.s (.c 11 .n (.x 0)) (.s (.b 1 (.h 4 (.q 5 29 6 (.g 7)))) (.g 8))))))) (.e 9)))) [.t 4] [(0,4,[mv (.bool false)]),(1,5,[mi 0]),(2,8,[m 0,N,mi 0]),(3,11,[b .lss 10 9]),(4,12,[ix 4 8 10,ls 4 12,A 7 (o (.alloc 94 X.z1)),st 4 7 13]),(5,14,[f 0 7,L,m 5,b .neq 15 16,m 17,G,f 1 7,L,m 5,b .leq 20 21,P,m 23,G,f 1 7,L,m 1,b .gtr 26 27,P]),(6,4,[mv (.bool false)]),(7,30,[f 1 7,L,A 5 (m 31)]),(8,32,[bi .add 10 1,A 10 (m 32)]),(9,33,[m 5,m 1,b .eql 33 34,A 4 (m 35)])] := .mk Tryz.func79
theorem ZP : FI 80 Tryz.f80 42 (.h 0 (.h 1 (.s (.h 2 (.b 0 (.l (.h 3 (.s (.c 16 .n (.x 0)) (.s (.b 1 (.h 4 (.h 5 (.s (.i 6 35 (.g 7) .n) (.g 8))))) (.g 9))))))) (.e 10)))) [.t 4] [(0,2,[bx 25 0,A 4 (mv .nils)]),(1,10,[m 1,N,o (.mks 3 1 8 X.z13 (.v (.int .i64 0)) (.t 11)),A 5 (m 12)]),(2,13,[m 1,N,mi 0]),(3,16,[b .lss 15 14]),(4,17,[ix 8 13 15,ls 8 17,A 7 (o (.alloc 55 X.z14)),st 8 7 18]),(5,20,[ls 2 2,f 0 7,F 3,L,f 0 7,F 4,L,c 138 [20,23,26],A 19 (m 27),e 0 19,e 1 19,A 8 (m 28),A 9 (m 29)]),(6,30,[m 9,B .neq 0,m 31,G,m 8,B .eql 0,P]),(7,8,[mi 1]),(8,36,[m 5,m 8,sl 3 1 [37],ap 3 1 8 36 38,A 5 (m 39)]),(9,40,[bi .add 15 1,A 15 (m 40)]),(10,41,[m 5,A 4 (m 41)])] := .mk Tryz.func80
theorem ZQ : FI 81 Tryz.f81 107 (.h 0 (.h 1 (.q 2 28 3 (.q 4 36 5 (.h 6 (.s (.i 7 41 (.g 8) .n) (.j 9 (.h 10 (.s (.h 11 (.b 0 (.l (.h 12 (.s (.c 52 .n (.x 0)) (.s (.b 1 (.h 13 (.h 14 (.h 15 (.g 16))))) (.g 17))))))) (.h 18 (.s (.h 19 (.b 2 (.l (.h 20 (.s (.c 83 .n (.x 2)) (.s (.b 3 (.h 21 (.g 22))) (.g 23))))))) (.h 24 (.s (.h 25 (.b 4 (.l (.h 26 (.s (.c 97 .n (.x 4)) (.s (.b 5 (.h 27 (.i 28 101 (.g 29) .n))) (.g 30))))))) (.e 31)))))))))))))) [.t 4, .t 5] [(0,4,[mv .nils,mi 0]),(1,23,[m 1,c 139 [23],A 22 (m 24),e 0 22,e 1 22,A 6 (m 25),A 7 (m 26)]),(2,27,[m 7,B .neq 0]),(3,4,[A 29 (m 7),mv .nils,m 29]),(4,30,[m 0,c 140 [30],nt 31,m 32,G,m 6,B .gtr 1099511627776,P]),(5,4,[mv .nils,mi 11]),(6,37,[m 0,c 141 [37],o (.conv .i64 (.t 38)),A 8 (o (.alloc 3 X.z13)),A 9 (o (.alloc 3 X.z13)),st 1 8 39,z (.store 1 (.t 9) (.v (.int .i64 1)))]),(7,40,[m 0,B .lss 0]),(8,0,[z (.store 1 (.t 9) (.v (.int .i64 (-1))))]),(10,48,[o (.mkfn 142 [(.t 10), (.t 9), (.t 8)]),A 12 (m 48)]),(11,49,[m 1,N,mi 0]),(12,52,[b .lss 51 50]),(13,53,[m 51,ix 1 49 51,L,A 13 (m 53),A 14 (m 55)]),(14,57,[m 0,c 141 [57],m 14,o (.conv .u64 (.t 59)),m 6,o (.conv .u64 (.t 61)),c 143 [58,60,62],A 56 (m 63),e 0 56,e 1 56,e 2 56,A 15 (m 64),A 16 (m 65),A 17 (m 66)]),(15,67,[l 11,m 13,m 16,ix 1 67 68,st 1 70 69]),(16,71,[m 12,m 13,m 15,o (.conv .i64 (.t 73)),o (.callv (.t 71) [(.t 72), (.t 74)])]),(17,76,[bi .add 51 1,A 51 (m 76)]),(18,77,[m 1,N,o (.mks 3 1 8 X.z13 (.t 78) (.t 78)),A 18 (o (.alloc 42 [.nils])),st 1 18 79]),(19,80,[l 18,N,mi 0]),(20,83,[b .lss 82 81]),(21,84,[m 82,A 19 (m 84)]),(22,85,[l 18,m 19,m 19,ix 1 85 86,st 1 88 87]),(23,89,[bi .add 82 1,A 82 (m 89)]),(24,90,[l 18,o (.mki 42 (.t 90)),o (.mkfn 145 [(.t 11), (.t 18)]),c 144 [91,92]]),(25,94,[l 18,N,mi 0]),(26,97,[b .lss 96 95]),(27,98,[ix 1 94 96,L,A 21 (m 99)]),(28,100,[l 8,B .gtr 0]),(29,102,[m 12,m 21,o (.callv (.t 102) [(.t 103), (.v (.int .i64 1))])]),(30,105,[bi .add 96 1,A 96 (m 105)]),(31,4,[A 106 (l 10),m 106,mi 0])] := .mk Tryz.func81
def Rd : List AO := dq [m 1,N,o (.mks 3 1 8 X.z13 (.t 43) (.t 43)),m 1,N,o (.mks 189 1 8 X.z15 (.t 46) (.t 46)),A 10 (o (.alloc 42 [.nils])),A 11 (o (.alloc 204 [.nils])),st 1 10 44,st 1 11 47] 42 none
theorem AmZ : TR Tryz.f81 107 9 = some Rd := by kernel_rfl
def Xt : List (List Nat) := [[], [0], [0, 1], [], [3], [3, 4], [], [], [0, 1, 2, 6, 7], [0, 1, 2, 3, 4, 5, 6, 7, 8]]
theorem Ah4 : Ci (ro Tryz.f81 9) Rd Xt = true := by kernel_rfl
theorem ZS : FI 82 Tryz.f82 38 (.h 0 (.s (.h 1 (.b 0 (.i 2 8 (.e 3) (.s (.i 4 11 .n (.i 5 11 .n (.g 6))) (.c 11 (.e 7) (.i 8 18 (.e 9) (.i 10 21 (.e 11) (.i 12 24 (.e 13) (.s (.i 14 27 .n (.g 15)) (.c 27 (.e 16) (.i 17 32 (.e 18) (.i 19 35 (.e 20) .n)))))))))))) (.e 21))) [.t 4] [(0,4,[mi 0]),(1,5,[m 0,m 1,o (.build X.z11 [(0, 1, (.t 5)), (1, 1, (.t 6))])]),(2,9,[o (.build X.z11 [(0, 1, (.v (.int .i64 1))), (1, 1, (.v (.int .i64 1)))]),o (.bina [.i .i64, .i .i64] .eql (.t 7) (.t 9)),A 8 (m 10)]),(3,4,[mi 2]),(4,12,[o (.build X.z11 [(0, 1, (.v (.int .i64 1))), (1, 1, (.v (.int .i64 3)))]),o (.bina [.i .i64, .i .i64] .eql (.t 7) (.t 12)),A 11 (m 13)]),(5,14,[o (.build X.z11 [(0, 1, (.v (.int .i64 2))), (1, 1, (.v (.int .i64 3)))]),o (.bina [.i .i64, .i .i64] .eql (.t 7) (.t 14)),A 11 (m 15)]),(6,16,[o (.build X.z11 [(0, 1, (.v (.int .i64 4))), (1, 1, (.v (.int .i64 6)))]),o (.bina [.i .i64, .i .i64] .eql (.t 7) (.t 16)),A 11 (m 17)]),(7,4,[mi 3]),(8,19,[o (.build X.z11 [(0, 1, (.v (.int .i64 1))), (1, 1, (.v (.int .i64 8)))]),o (.bina [.i .i64, .i .i64] .eql (.t 7) (.t 19)),A 18 (m 20)]),(9,4,[mi 6]),(10,22,[o (.build X.z11 [(0, 1, (.v (.int .i64 1))), (1, 1, (.v (.int .i64 9)))]),o (.bina [.i .i64, .i .i64] .eql (.t 7) (.t 22)),A 21 (m 23)]),(11,4,[mi 7]),(12,25,[o (.build X.z11 [(0, 1, (.v (.int .i64 1))), (1, 1, (.v (.int .i64 10)))]),o (.bina [.i .i64, .i .i64] .eql (.t 7) (.t 25)),A 24 (m 26)]),(13,4,[mi 8]),(14,28,[o (.build X.z11 [(0, 1, (.v (.int .i64 2))), (1, 1, (.v (.int .i64 2)))]),o (.bina [.i .i64, .i .i64] .eql (.t 7) (.t 28)),A 27 (m 29)]),(15,30,[o (.build X.z11 [(0, 1, (.v (.int .i64 3))), (1, 1, (.v (.int .i64 4)))]),o (.bina [.i .i64, .i .i64] .eql (.t 7) (.t 30)),A 27 (m 31)]),(16,4,[mi 1]),(17,33,[o (.build X.z11 [(0, 1, (.v (.int .i64 3))), (1, 1, (.v (.int .i64 5)))]),o (.bina [.i .i64, .i .i64] .eql (.t 7) (.t 33)),A 32 (m 34)]),(18,4,[mi 4]),(19,36,[o (.build X.z11 [(0, 1, (.v (.int .i64 4))), (1, 1, (.v (.int .i64 7)))]),o (.bina [.i .i64, .i .i64] .eql (.t 7) (.t 36)),A 35 (m 37)]),(20,4,[mi 5]),(21,4,[mi 0])] := .mk Tryz.func82
theorem ZT : FI 83 Tryz.f83 33 (.h 0 (.h 1 (.s (.h 2 (.b 0 (.l (.h 3 (.s (.c 11 .n (.x 0)) (.s (.b 1 (.h 4 (.h 5 (.b 2 (.i 6 16 (.e 7) (.s (.i 8 18 .n (.g 9)) (.c 18 (.e 10) (.i 11 21 (.g 12) .n)))))))) (.g 13))))))) (.e 14)))) [.t 2, .t 3] [(0,1,[bx 47 0,mi 0,mi 0]),(1,4,[mv .nils]),(2,7,[f 5 1,L,N,mi 0]),(3,11,[b .lss 10 9]),(4,12,[ix 11 8 10,ls 11 12,A 6 (o (.alloc 57 X.z4)),st 11 6 13]),(5,14,[f 9 6,L]),(6,17,[bi .eql 15 2,A 16 (m 17)]),(7,2,[mi 0,mi 28]),(8,19,[bi .eql 15 3,A 18 (m 19)]),(9,20,[bi .eql 15 4,A 18 (m 20)]),(10,2,[mi 0,mi 27]),(11,22,[bi .eql 15 1,A 21 (m 22)]),(12,23,[m 4,f 10 6,L,sl 3 1 [25],ap 3 1 8 23 26,A 4 (m 27)]),(13,28,[bi .add 10 1,A 10 (m 28)]),(14,29,[m 4,c 146 [29],e 0 30,e 1 30,A 2 (m 31),A 3 (m 32)])] := .mk Tryz.func83
theorem ZU : FI 84 Tryz.f84 9 (.h 0 (.e 1)) [.t 4] [(0,4,[mv (.bool false)]),(1,5,[m 0,m 1,c 147 [5,6],B .geq 0,A 4 (m 8)])] := .mk Tryz.func84
theorem ZV : FI 85 Tryz.f85 27 (.h 0 (.q 1 9 2 (.h 3 (.s (.h 4 (.b 0 (.l (.h 5 (.s (.c 14 .n (.x 0)) (.s (.b 1 (.h 6 (.g 7))) (.g 8))))))) (.e 9))))) [.t 2, .t 3] [(0,1,[bx 47 0,mi 0,mi 0]),(1,7,[f 5 1,L,o (.call 84 [(.t 8), (.v (.fn 148 []))])]),(2,2,[mi 0,mi 0]),(3,4,[mv .nils]),(4,10,[f 7 1,L,N,mi 0]),(5,14,[b .lss 13 12]),(6,15,[ix 2 11 13,ls 2 15,A 6 (o (.alloc 92 X.z16)),st 2 6 16]),(7,17,[m 4,f 1 6,L,sl 3 1 [19],ap 3 1 8 17 20,A 4 (m 21)]),(8,22,[bi .add 13 1,A 13 (m 22)]),(9,23,[m 4,c 146 [23],e 0 24,e 1 24,A 2 (m 25),A 3 (m 26)])] := .mk Tryz.func85
theorem ZW : FI 86 Tryz.f86 12 (.h 0 (.e 1)) [.t 4, .t 5] [(0,4,[mi 0,mi 0]),(1,6,[m 0,m 1,sl 3 1 [6,7],c 146 [8],e 0 9,e 1 9,A 4 (m 10),A 5 (m 11)])] := .mk Tryz.func86
theorem ZX : FI 87 Tryz.f87 9 (.h 0 (.e 1)) [.t 2] [(0,2,[mv (.bool false)]),(1,3,[m 0,B .lss 0,m 4,G,m 0,B .gtr 1099511627776,P,A 2 (m 8)])] := .mk Tryz.func87
theorem ZY : FI 88 Tryz.f88 6 (.h 0 (.e 1)) [.t 2] [(0,1,[bx 57 0,mv (.bool false)]),(1,3,[f 9 1,L,B .eql 1,A 2 (m 5)])] := .mk Tryz.func88
theorem SF : FI 89 Tryz.f89 93 (.h 0 (.h 1 (.h 2 (.s (.i 3 31 (.g 4) .n) (.h 5 (.s (.h 6 (.w 0 7 37 1 (.j 9 (.d 10)) 8)) (.s (.i 11 75 (.g 12) .n) (.s (.i 13 79 (.g 14) .n) (.h 15 (.s (.i 16 87 (.g 17) .n) (.e 18))))))))))) [.t 4] [(0,2,[bx 25 0,A 4 (mv .nils)]),(1,5,[mv .nils]),(2,11,[f 0 2,L,m 1,X 5,ls 5 14,A 6 (o (.alloc 212 X.z17)),st 5 6 15]),(3,16,[f 0 6,L,c 129 [17],nt 18,m 19,G,f 1 6,L,c 129 [22],nt 23,P,m 25,G,f 2 6,L,c 131 [28],nt 29,P]),(4,32,[m 5,o (.slc 48 1 false [(.v (.int .i64 5))]),ap 48 1 8 32 33,A 5 (m 34)]),(5,7,[mv (.bool false),mv (.bool false)]),(6,9,[mi 0]),(7,35,[m 9,m 1,b .lss 35 36]),(8,38,[m 9,B .add 1,A 9 (m 39)]),(9,40,[m 7,m 40,G,f 0 2,L,m 9,X 5,F 0,L,f 0 6,L,b .eql 47 49,P,A 7 (m 51)]),(10,52,[m 8,m 52,G,f 0 2,L,m 9,X 5,F 1,L,f 1 6,L,b .eql 59 61,m 62,H,f 0 2,L,m 9,X 5,F 2,L,f 2 6,L,b .neq 69 71,Gn 53,pf 63 72,P,A 8 (m 74)]),(11,75,[m 7]),(12,76,[m 5,o (.slc 48 1 false [(.v (.int .i64 6))]),ap 48 1 8 76 77,A 5 (m 78)]),(13,79,[m 8]),(14,80,[m 5,o (.slc 48 1 false [(.v (.int .i64 8))]),ap 48 1 8 80 81,A 5 (m 82)]),(15,83,[f 3 6,ls 2 83,c 149 [84],A 10 (m 85)]),(16,86,[m 10,B .neq 0]),(17,88,[m 5,m 10,sl 48 1 [89],ap 48 1 8 88 90,A 5 (m 91)]),(18,92,[m 5,A 4 (m 92)])] := .mk Tryz.func89
end Go.Proofs.YtjkclhbckfkeeaaGreatDoor
