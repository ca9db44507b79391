import Derived.Test.YtjkclhbckfkeeaaGreatDoorAv22
import Derived.LoopN
import Derived.Test.YtjkclhbckfkeeaaGreatDoorProg
set_option linter.unusedSimpArgs false
set_option linter.unusedVariables false
set_option linter.deprecated false
namespace Go.Proofs.YtjkclhbckfkeeaaGreatDoor
open Go Go.RowKit
def TC (P : Program) (U : Tbl) (N : Nat) (c : Code) (Q : Exit -> St -> Prop) (s : St) : Prop :=
 ∃ e s', Q e s' /\ ∀ (C : Ctx U), C.N = N -> ∀ Q' : Exit -> St -> Prop, Q' e s' -> AW P C c Q' s
section
variable {P : Program} {U : Tbl} {N : Nat} {Q : Exit -> St -> Prop} {s : St}
theorem TC.le {c : Code} {s' : St} (hl : Le s s') (h : TC P U N c Q s') : TC P U N c Q s :=
 let ⟨e, t, h1, k⟩ := h; ⟨e, t, h1, fun C hC Q' hq => (k C hC Q' hq).le hl⟩
theorem Aj (h : Q .normal s) : TC P U N .skip Q s := ⟨_, s, h, fun _ _ _ hq => Af hq⟩
theorem Bc {id : Nat} (h : Q (.exit id) s) : TC P U N (.exit id) Q s := ⟨_, s, h, fun _ _ _ hq => AS hq⟩
theorem Ak (h : Q .ret s) : TC P U N .ret Q s := ⟨_, s, h, fun _ _ _ hq => Ad hq⟩
theorem Ab {x y : Code} (h : TC P U N x (LN (TC P U N y Q) Q) s) : TC P U N (.seq x y) Q s := by
 obtain ⟨e, t, h1, k1⟩ := h
 cases e with
 | normal =>
  obtain ⟨e2, t2, h2, k2⟩ := h1
  exact ⟨e2, t2, h2, fun C hC Q' hq => Aa (k1 C hC _ (k2 C hC Q' hq))⟩
 | exit id => exact ⟨_, t, h1, fun C hC Q' hq => Aa (k1 C hC _ hq)⟩
 | goto l => exact ⟨_, t, h1, fun C hC Q' hq => Aa (k1 C hC _ hq)⟩
 | ret => exact ⟨_, t, h1, fun C hC Q' hq => Aa (k1 C hC _ hq)⟩
 | panic ch => exact ⟨_, t, h1, fun C hC Q' hq => Aa (k1 C hC _ hq)⟩
 | outgrown => exact ⟨_, t, h1, fun C hC Q' hq => Aa (k1 C hC _ hq)⟩
theorem TC.mono {c : Code} {Q' : Exit -> St -> Prop} (h : TC P U N c Q s) (hq : ∀ e s, Q e s -> Q' e s) : TC P U N c Q' s :=
 let ⟨e, t, h1, k⟩ := h; ⟨e, t, hq _ _ h1, k⟩
theorem Ep {x y : Code} {α : Type} (I : α -> Prop) (st : α -> St) (h : ∀ K : St -> Prop, (∀ g s', I g -> Le s' (st g) -> K s') -> TC P U N x (LN K Q) s) (h2 : ∀ g, I g -> TC P U N y Q (st g)) : TC P U N (.seq x y) Q s :=
 Ab ((h (fun s' => ∃ g, I g /\ Le s' (st g)) fun g s' h1 h2 => ⟨g, h1, h2⟩).mono fun e s' hq => by
  cases e with
  | normal =>
   obtain ⟨g, hg, hl⟩ := hq
   exact (h2 g hg).le hl
  | exit id => exact hq
  | goto l => exact hq
  | ret => exact hq
  | panic ch => exact hq
  | outgrown => exact hq)
theorem Au {id : Nat} {c : Code} (h : TC P U N c (KH id Q) s) : TC P U N (.block id c) Q s := by
 obtain ⟨e, t, h1, k⟩ := h
 cases e with
 | exit id' =>
  simp only [KH] at h1
  by_cases e : id' = id
  ·rw [if_pos e] at h1
   exact ⟨_, t, h1, fun C hC Q' hq => Ao (k C hC _ (by simp only [KH]; rw [if_pos e]; exact hq))⟩
  rw [if_neg e] at h1
  exact ⟨_, t, h1, fun C hC Q' hq => Ao (k C hC _ (by simp only [KH]; rw [if_neg e]; exact hq))⟩
 | normal => exact ⟨_, t, h1, fun C hC Q' hq => Ao (k C hC _ hq)⟩
 | goto l => exact ⟨_, t, h1, fun C hC Q' hq => Ao (k C hC _ hq)⟩
 | ret => exact ⟨_, t, h1, fun C hC Q' hq => Ao (k C hC _ hq)⟩
 | panic ch => exact ⟨_, t, h1, fun C hC Q' hq => Ao (k C hC _ hq)⟩
 | outgrown => exact ⟨_, t, h1, fun C hC Q' hq => Ao (k C hC _ hq)⟩
theorem Ag {t : Nat} {x y : Code} {b : Bool} (hb : s.e t = .bool b) (h1 : b = true -> TC P U N x Q s) (h2 : b = false -> TC P U N y Q s) : TC P U N (.cond (.tmp t) x y) Q s := by
 cases b with
 | true =>
  obtain ⟨e, t, h, k⟩ := h1 rfl
  exact ⟨e, t, h, fun C hC Q' hq => Ae hb (fun _ => k C hC Q' hq) fun e => by cases e⟩
 | false =>
  obtain ⟨e, t, h, k⟩ := h2 rfl
  exact ⟨e, t, h, fun C hC Q' hq => Ae hb (fun e => by cases e) fun _ => k C hC Q' hq⟩
theorem Bg {c : Code} {α : Type} (I : α -> Prop) (st : α -> St) (μ : α -> Nat) (g0 : α) (h0 : I g0) (hl : Le s (st g0))
  (round : ∀ g, I g -> ∀ K : St -> Prop, (∀ g' s', I g' -> μ g' < μ g -> Le s' (st g') -> K s') -> TC P U N c (LN K Q) (st g)) : TC P U N (.loop c) Q s := by
 have key : ∀ m g, μ g <= m -> I g -> ∃ e s' n, Q e s' /\ ∀ (C : Ctx U), C.N = N -> ∀ Q' : Exit -> St -> Prop, Q' e s' -> ∀ a w M ι, Good C (st g) a w M ι -> Code.rounds P c (fun e a' w' => ∃ s' M' ι', Q' e s' /\ Good C s' a' w' M' ι') n a w := by
  intro m
  induction m with
  | zero =>
   intro g hm hi
   obtain ⟨e, s1, h1, k1⟩ := round g hi (fun _ => False) fun g' _ _ h2 _ => absurd h2 (by omega)
   have out : ∀ e, e ≠ .normal -> (∀ (C : Ctx U), C.N = N -> ∀ Q' : Exit -> St -> Prop, Q' e s1 -> AW P C c Q' (st g)) -> ∀ (C : Ctx U), C.N = N -> ∀ Q' : Exit -> St -> Prop, Q' e s1 -> ∀ a w M ι, Good C (st g) a w M ι -> Code.rounds P c (fun e a' w' => ∃ s' M' ι', Q' e s' /\ Good C s' a' w' M' ι') 1 a w := fun e he k C hC Q' hq a w M ι hg => by
    rw [rounds_succ]
    refine wp_mono (k C hC (fun e' t => e' = e /\ t = s1) ⟨rfl, rfl⟩ a w M ι hg) ?_
    rintro e' a' w' ⟨t, M', ι', ⟨rfl, rfl⟩, hg'⟩
    cases e' with
    | normal => exact absurd rfl he
    | exit id => exact ⟨t, M', ι', hq, hg'⟩
    | goto l => exact ⟨t, M', ι', hq, hg'⟩
    | ret => exact ⟨t, M', ι', hq, hg'⟩
    | panic ch => exact ⟨t, M', ι', hq, hg'⟩
    | outgrown => exact ⟨t, M', ι', hq, hg'⟩
   cases e with
   | normal => exact h1.elim
   | exit id => exact ⟨_, s1, 1, h1, out _ (by simp) k1⟩
   | goto l => exact ⟨_, s1, 1, h1, out _ (by simp) k1⟩
   | ret => exact ⟨_, s1, 1, h1, out _ (by simp) k1⟩
   | panic ch => exact ⟨_, s1, 1, h1, out _ (by simp) k1⟩
   | outgrown => exact ⟨_, s1, 1, h1, out _ (by simp) k1⟩
  | succ m ih =>
   intro g hm hi
   obtain ⟨e, s1, h1, k1⟩ := round g hi (fun s' => ∃ g', I g' /\ μ g' < μ g /\ Le s' (st g')) fun g' s' a b c => ⟨g', a, b, c⟩
   have out : ∀ e, e ≠ .normal -> (∀ (C : Ctx U), C.N = N -> ∀ Q' : Exit -> St -> Prop, Q' e s1 -> AW P C c Q' (st g)) -> ∀ (C : Ctx U), C.N = N -> ∀ Q' : Exit -> St -> Prop, Q' e s1 -> ∀ a w M ι, Good C (st g) a w M ι -> Code.rounds P c (fun e a' w' => ∃ s' M' ι', Q' e s' /\ Good C s' a' w' M' ι') 1 a w := fun e he k C hC Q' hq a w M ι hg => by
    rw [rounds_succ]
    refine wp_mono (k C hC (fun e' t => e' = e /\ t = s1) ⟨rfl, rfl⟩ a w M ι hg) ?_
    rintro e' a' w' ⟨t, M', ι', ⟨rfl, rfl⟩, hg'⟩
    cases e' with
    | normal => exact absurd rfl he
    | exit id => exact ⟨t, M', ι', hq, hg'⟩
    | goto l => exact ⟨t, M', ι', hq, hg'⟩
    | ret => exact ⟨t, M', ι', hq, hg'⟩
    | panic ch => exact ⟨t, M', ι', hq, hg'⟩
    | outgrown => exact ⟨t, M', ι', hq, hg'⟩
   cases e with
   | normal =>
    obtain ⟨g', hi', hlt, hle⟩ := h1
    obtain ⟨e2, s2, n, h2, k2⟩ := ih g' (by omega) hi'
    refine ⟨e2, s2, n + 1, h2, fun C hC Q' hq a w M ι hg => ?_⟩
    rw [rounds_succ]
    refine wp_mono (k1 C hC (fun e' t => e' = .normal /\ t = s1) ⟨rfl, rfl⟩ a w M ι hg) ?_
    rintro e' a' w' ⟨t, M', ι', ⟨rfl, rfl⟩, hg'⟩
    obtain ⟨M2, ι2, hg2⟩ := hle U C a' w' M' ι' hg'
    exact k2 C hC Q' hq a' w' M2 ι2 hg2
   | exit id => exact ⟨_, s1, 1, h1, out _ (by simp) k1⟩
   | goto l => exact ⟨_, s1, 1, h1, out _ (by simp) k1⟩
   | ret => exact ⟨_, s1, 1, h1, out _ (by simp) k1⟩
   | panic ch => exact ⟨_, s1, 1, h1, out _ (by simp) k1⟩
   | outgrown => exact ⟨_, s1, 1, h1, out _ (by simp) k1⟩
 obtain ⟨e, s', n, h1, k⟩ := key (μ g0) g0 (Az _) h0
 refine ⟨e, s', h1, fun C hC Q' hq => AW.le hl fun a w M ι hg => wp_loop_rounds n (k C hC Q' hq a w M ι hg)⟩
variable {G : Tab}
theorem No {EF : Nat -> Bool} : ∀ {aos : List AO} {s : St} {K : St -> Prop}, Cl P U EF G aos s K -> ∃ s', K s' /\ ∀ K' : St -> Prop, K' s' -> Cl P U EF G aos s K'
 | [], s, K, h => ⟨s, h, fun _ h => h⟩
 | o :: os, s, K, h => by
  unfold Cl at h
  cases he : Cg EF o s with
  | some p =>
   obtain ⟨f, us⟩ := p
   rw [he] at h
   obtain ⟨L0, L1, vs, hl, v, hl', a1, a2, a3⟩ := h
   obtain ⟨s', b1, b2⟩ := No a3
   exact ⟨s', b1, fun K' hk => by unfold Cl; rw [he]; exact ⟨L0, L1, vs, hl, v, hl', a1, a2, b2 K' hk⟩⟩
  | none =>
   rw [he] at h
   obtain ⟨s', b1, b2⟩ := No h.2
   exact ⟨s', b1, fun K' hk => by unfold Cl; rw [he]; exact ⟨h.1, b2 K' hk⟩⟩
theorem RW {EF : Nat -> Bool} {D : List (List Nat)} : ∀ {L : List (Nat × AO)} {past : List Fp} {s : St} {K : St -> Prop}, EP P U EF G D L past s K -> ∃ s', K s' /\ ∀ K' : St -> Prop, K' s' -> EP P U EF G D L past s K'
 | [], _, s, K, h => ⟨s, h, fun _ h => h⟩
 | (i, o) :: os, past, s, K, h => by
  unfold EP at h
  cases he : Cg EF o s with
  | some p =>
   obtain ⟨f, us⟩ := p
   rw [he] at h
   obtain ⟨a0, L0, L1, vs, hl, v, hl', a1, a2, a3⟩ := h
   obtain ⟨s', b1, b2⟩ := RW a3
   exact ⟨s', b1, fun K' hk => by unfold EP; rw [he]; exact ⟨a0, L0, L1, vs, hl, v, hl', a1, a2, b2 K' hk⟩⟩
  | none =>
   rw [he] at h
   obtain ⟨s', b1, b2⟩ := RW h.2.2
   exact ⟨s', b1, fun K' hk => by unfold EP; rw [he]; exact ⟨h.1, h.2.1, b2 K' hk⟩⟩
theorem AmF {id : Nat} {ops : Array Oper} {aos : List AO} {EF : Nat -> Bool} (hG : ∀ f, Ah P U f (G f)) (ht : ops.toList.mapM (trO P N ops) = some aos) (h : Cl P U EF G aos s (Q .normal)) : TC P U N (.region id ops false) Q s :=
 let ⟨s', h1, k⟩ := No h; ⟨_, s', h1, fun C hC Q' hq => Xh hG (by rw [hC]; exact ht) (k _ hq)⟩
theorem AdI {id : Nat} {ops : Array Oper} {aos : List AO} {EF : Nat -> Bool} (hG : ∀ f, Ah P U f (G f)) (ht : ops.toList.mapM (trO P N ops) = some aos) (h : Cl P U EF G (aos.map AO.wrp) s (Q .normal)) : TC P U N (.region id ops false) Q s :=
 let ⟨s', h1, k⟩ := No h; ⟨_, s', h1, fun C hC Q' hq => OY hG (by rw [hC]; exact ht) (k _ hq)⟩
theorem GZ {id : Nat} {ops : Array Oper} {aos : List AO} {D : List (List Nat)} {EF : Nat -> Bool} (hG : ∀ f, Ah P U f (G f)) (hm : P.follows .mixedOrders = true) (ht : ops.toList.mapM (trO P N ops) = some aos) (hok : Cx ops aos D = true) (h : EP P U EF G D (Fw 0 aos) [] s (Q .normal)) : TC P U N (.region id ops true) Q s :=
 let ⟨s', h1, k⟩ := RW h; ⟨_, s', h1, fun C hC Q' hq => He hG hm (by rw [hC]; exact ht) hok (k _ hq)⟩
theorem Ah.pick {α β : Type} [Inhabited β] {args : α -> List V} {pre : α -> Prop} {val : β -> V} {R : α -> β -> Prop} {f : Nat} {fn : Func} {c : Code} {rs : List AR} (inj : ∀ a b, args a = args b -> a = b) (hf : P.funcs[f]? = some fn) (hb : fn.body = some c) (hname : (fn.name == "runtime.NumGoroutine") = false) (hr : fn.results.toList.mapM (trR P) = some rs)
  (hw : ∀ a, pre a -> (args a).length <= fn.ntmps /\ ∀ Q : Exit -> St -> Prop, (∀ e s', e = .ret \/ e = .normal -> Fx rs s' -> (∃ b, Di rs s' = val b /\ R a b) -> (Di rs s').pur = true -> Q e s') -> TC P U fn.ntmps c Q ⟨Ge (args a), fun _ => none⟩) :
  ∃ F : α -> β, (∀ a, pre a -> R a (F a)) /\ Ah P U f (gOf args fun a => (pre a, val (F a))) := by
 have each : ∀ a, ∃ b, pre a -> R a b /\ ∀ (C : Ctx U), C.N = fn.ntmps -> ∀ Q : Exit -> St -> Prop, (∀ e s', e = .ret \/ e = .normal -> Fx rs s' -> Di rs s' = val b -> (Di rs s').pur = true -> Q e s') -> AW P C c Q ⟨Ge (args a), fun _ => none⟩ := fun a => by
  by_cases ha : pre a
  ·obtain ⟨e, s', ⟨h1, h2, ⟨b, h3, h4⟩, h5⟩, k⟩ := (hw a ha).2 (fun e s' => (e = .ret \/ e = .normal) /\ Fx rs s' /\ (∃ b, Di rs s' = val b /\ R a b) /\ (Di rs s').pur = true) fun e s' a b c d => ⟨a, b, c, d⟩
   exact ⟨b, fun _ => ⟨h4, fun C hC Q hQ => k C hC Q (hQ e s' h1 h2 h3 h5)⟩⟩
  ·exact ⟨default, fun h => absurd h ha⟩
 obtain ⟨F, hF⟩ := Classical.skolem.1 each
 exact ⟨F, fun a ha => (hF a ha).1, Ah.ofArgs inj hf hb hname hr fun a ha => ⟨(hw a ha).1, (hF a ha).2⟩⟩
end
def AO.sro (EF : Nat -> Bool) (o : AO) : Bool :=
 match o.o with
 | .call f _ => !EF f
 | .callv .. | .store .. | .app .. | .box .. | .alloc .. | .slc .. | .mkmap | .mks .. | .mkv .. | .mset .. => false
 | _ => true
theorem AO.sro_wr {EF : Nat -> Bool} {o : AO} {s : St} (h : o.sro EF = true) : o.wr s = [] := by
 obtain ⟨d, g, op⟩ := o
 unfold AO.wr
 cases g with
 | some g => rfl
 | none => cases op <;> first | rfl | (simp [AO.sro] at h; done)
theorem AO.sro_call {EF : Nat -> Bool} {o : AO} {s : St} (h : o.sro EF = true) : Cg EF o s = none := by
 obtain ⟨d, g, op⟩ := o
 unfold Cg
 cases op <;> first | rfl | (simp [AO.sro] at h; done) | (simp only [AO.sro, MD] at h; dsimp only; rw [if_neg (by rw [h]; decide)])
section
variable {P : Program} {U : Tbl} {C : Ctx U} {s : St} {Q : Exit -> St -> Prop} {G : Tab}
theorem Xe {EF : Nat -> Bool} {D : List (List Nat)} : ∀ {L : List (Nat × AO)} {past : List Fp} {s : St} {K : St -> Prop}, (∀ p ∈ L, p.2.sro EF = true) -> (∀ f ∈ past, f.all = false /\ f.wr = []) -> Cl P U EF G (L.map (·.2)) s K -> EP P U EF G D L past s K
 | [], _, _, _, _, _, h => h
 | (i, o) :: L, past, s, K, hL, hp, h => by
  have ho : o.sro EF = true := hL (i, o) (AJ ..)
  have hc := AO.sro_call (s := s) ho
  have hw := AO.sro_wr (s := s) ho
  rw [BP] at h
  unfold Cl at h
  unfold EP
  dsimp only at h
  rw [hc] at h ⊢
  refine ⟨h.1, ?_, Xe (fun p hq => hL p (AU _ hq)) (fun f hf => ?_) h.2⟩
  ·refine Ch.2 fun f hf => ?_
   obtain ⟨h1, h2⟩ := hp f hf
   have : f.indep (o.fp i s) = true := by
    unfold Fp.indep AO.fp
    rw [h1, h2, hw]
    simp [KG]
   rw [this, Bool.or_true]
  ·rcases AK.1 hf with rfl | hf
   ·exact ⟨rfl, hw⟩
   ·exact hp f hf
theorem TP : ∀ (l : List AO) (k : Nat), (Fw k l).map (·.2) = l
 | [], _ => rfl
 | o :: l, k => by show o :: (Fw (k + 1) l).map (·.2) = _; rw [TP l (k + 1)]
theorem OX {EF : Nat -> Bool} {D : List (List Nat)} {aos : List AO} {K : St -> Prop} (hr : aos.all (AO.sro EF) = true) (h : Cl P U EF G aos s K) : EP P U EF G D (Fw 0 aos) [] s K := by
 refine Xe (fun p hp => Ch.1 hr _ ?_) (fun f hf => nomatch hf) (by rw [TP]; exact h)
 have := An.2 (⟨p, hp, rfl⟩ : ∃ a, a ∈ Fw 0 aos /\ a.2 = p.2)
 rwa [TP] at this
theorem AoF {id : Nat} {ops : Array Oper} {aos : List AO} {D : List (List Nat)} {EF : Nat -> Bool} (hG : ∀ f, Ah P U f (G f)) (hm : P.follows .mixedOrders = true) (ht : ops.toList.mapM (trO P C.N ops) = some aos) (hok : Cx ops aos D = true) (hr : aos.all (AO.sro EF) = true) (h : Cl P U EF G aos s (Q .normal)) :
  AW P C (.region id ops true) Q s := He hG hm ht hok (OX hr h)
theorem AoG {N id : Nat} {ops : Array Oper} {aos : List AO} {D : List (List Nat)} {EF : Nat -> Bool} (hG : ∀ f, Ah P U f (G f)) (hm : P.follows .mixedOrders = true) (ht : ops.toList.mapM (trO P N ops) = some aos) (hok : Cx ops aos D = true) (hr : aos.all (AO.sro EF) = true) (h : Cl P U EF G aos s (Q .normal)) :
  TC P U N (.region id ops true) Q s := GZ hG hm ht hok (OX hr h)
end
def JL : Code -> Nat -> Option (Array Oper)
 | .region i ops _, k => if i = k then some ops else none
 | .seq a b, k => (JL a k).or (JL b k)
 | .cond _ a b, k => (JL a k).or (JL b k)
 | .block _ c, k => JL c k
 | .loop c, k => JL c k
 | .scope c, k => JL c k
 | _, _ => none
def ro (f : Func) (k : Nat) : Array Oper := ((f.body.bind fun c => JL c k).getD #[])
noncomputable abbrev TR (f : Func) (n k : Nat) : Option (List AO) := (ro f k).toList.mapM (trO Tryz.prog n (ro f k))
theorem mixed : Tryz.prog.follows .mixedOrders = true := by kernel_rfl
inductive Sk where
 | n
 | r
 | x (k : Nat)
 | g (k : Nat)
 | d (k : Nat)
 | s (a b : Sk)
 | h (k : Nat) (b : Sk)
 | j (k : Nat) (b : Sk)
 | e (k : Nat)
 | c (t : Nat) (a b : Sk)
 | k (v : Bool) (a b : Sk)
 | i (k t : Nat) (a b : Sk)
 | q (k t m : Nat) (b : Sk)
 | b (k : Nat) (a : Sk)
 | l (a : Sk)
 | w (k r t m : Nat) (a : Sk) (p : Nat)
 | p (a : Sk)
noncomputable def co (f : Func) : Sk -> Code
 | .n => .skip
 | .r => .ret
 | .x k => .exit k
 | .g k => .region k (ro f k) false
 | .d k => .region k (ro f k) true
 | .s a b => .seq (co f a) (co f b)
 | .h k b => .seq (.region k (ro f k) false) (co f b)
 | .j k b => .seq (.region k (ro f k) true) (co f b)
 | .e k => .seq (.region k (ro f k) false) .ret
 | .c t a b => .cond (.tmp t) (co f a) (co f b)
 | .k v a b => .cond (.const (.bool v)) (co f a) (co f b)
 | .i k t a b => .seq (.region k (ro f k) false) (.cond (.tmp t) (co f a) (co f b))
 | .q k t m b => .seq (.seq (.region k (ro f k) false) (.cond (.tmp t) (.seq (.region m (ro f m) false) .ret) .skip)) (co f b)
 | .b k a => .block k (co f a)
 | .l a => .loop (co f a)
 | .w k r t m a p => .block k (.loop (.seq (.seq (.region r (ro f r) false) (.cond (.tmp t) .skip (.exit k))) (.seq (.block m (co f a)) (.region p (ro f p) false))))
 | .p a => .scope (co f a)
abbrev KO := Nat -> Option (Nat × Bool) -> List AO
def dq : List (KO -> KO) -> KO
 | [] => fun _ _ => []
 | x :: l => x (dq l)
abbrev RL := List (Nat × List AO)
def dl : List (Nat × Nat × List (KO -> KO)) -> RL
 | [] => []
 | p :: l => (p.1, dq p.2.2 p.2.1 none) :: dl l
structure FnI (P : Program) (f : Nat) (fn : Func) (n : Nat) (c : Code) (rs : List AR) (l : RL) : Prop where
 h0 : P.funcs[f]? = some fn
 h : (fn.body, fn.name == "runtime.NumGoroutine", fn.results.toList.mapM (trR P), fn.ntmps, l.map fun p => (ro fn p.1).toList.mapM (trO P n (ro fn p.1))) = (some c, false, some rs, n, l.map fun p => some p.2) := by kernel_rfl
abbrev FI (k : Nat) (fn : Func) (n : Nat) (s : Sk) (rs : List AR) (l : List (Nat × Nat × List (KO -> KO))) : Prop := FnI Tryz.prog k fn n (co fn s) rs (dl l)
section
variable {P : Program} {U : Tbl} {f n : Nat} {fn : Func} {c : Code} {rs : List AR} {l : RL}
theorem FnI.u (h : FnI P f fn n c rs l) : P.funcs[f]? = some fn /\ fn.body = some c /\ (fn.name == "runtime.NumGoroutine") = false /\ fn.results.toList.mapM (trR P) = some rs /\ fn.ntmps = n /\ (l.map fun p => (ro fn p.1).toList.mapM (trO P n (ro fn p.1))) = l.map fun p => some p.2 := by
 have e := h.h
 simp only [Prod.mk.injEq] at e
 exact ⟨h.h0, e⟩
theorem FnI.a (h : FnI P f fn n c rs l) {α : Type} {args : α -> List V} {F : α -> Prop × V} (inj : ∀ a b, args a = args b -> a = b) (hl : ∀ a, (args a).length <= n)
  (hw : ∀ a, (F a).1 -> ∀ (C : Ctx U), C.N = n -> ∀ Q : Exit -> St -> Prop, (∀ e s', e = .ret \/ e = .normal -> Fx rs s' -> Di rs s' = (F a).2 -> (Di rs s').pur = true -> Q e s') -> AW P C c Q ⟨Ge (args a), fun _ => none⟩) : Ah P U f (gOf args F) := by
 obtain ⟨h0, h1, h2, h3, rfl, _⟩ := h.u
 exact Ah.ofArgs inj h0 h1 h2 h3 fun a ha => ⟨hl a, hw a ha⟩
theorem FnI.q (h : FnI P f fn n c rs l) {g : List V -> Prop × V}
  (hw : ∀ vs, (g vs).1 -> vs.length <= n /\ ∀ (C : Ctx U), C.N = n -> ∀ Q : Exit -> St -> Prop, (∀ e s', e = .ret \/ e = .normal -> Fx rs s' -> Di rs s' = (g vs).2 -> (Di rs s').pur = true -> Q e s') -> AW P C c Q ⟨Ge vs, fun _ => none⟩) : Ah P U f g := by
 obtain ⟨h0, h1, h2, h3, rfl, _⟩ := h.u
 exact Ah.of_awQ h0 h1 h2 h3 hw
theorem FnI.e (h : FnI P f fn n c rs l) {vs : List V} {hl hl' : List (Nat × Ob)} {v : V} (hn : vs.length <= n)
  (haw : ∀ C : Ctx U, C.N = n -> ∀ Q : Exit -> St -> Prop, (∀ e s' s'', e = .ret \/ e = .normal -> Le s' s'' -> s''.h = mkH hl' -> Fx rs s'' -> Di rs s'' = v -> Q e s') -> AW P C c Q ⟨Ge vs, mkH hl⟩) : Eff P U f vs hl v hl' := by
 obtain ⟨h0, h1, h2, h3, rfl, _⟩ := h.u
 exact Eff.of_aw h0 h1 h2 h3 hn haw
theorem FnI.R (h : FnI P f fn n c rs l) {C : Ctx U} {G : Tab} (EF : Nat -> Bool) (hG : ∀ f, Ah P U f (G f)) (hN : C.N = n)
  (k : Nat) {a : List AO} (hk : l.lookup k = some a) {id : Nat} {s : St} {Q : Exit -> St -> Prop} (hr : Cl P U EF G a s (Q .normal)) : AW P C (.region id (ro fn k) false) Q s := by
 have ht := h.u.2.2.2.2.2
 refine Xh (EF := EF) hG ?_ hr
 rw [hN]
 have key : ∀ l : RL, l.lookup k = some a -> (k, a) ∈ l := fun l => by
  induction l with
  | nil => intro h; cases h
  | cons p l ih =>
   intro h
   rw [List.lookup_cons] at h
   split at h
   ·rename_i e
    injection h with h
    subst h
    rw [beq_iff_eq] at e
    subst e
    exact AJ ..
   ·exact AU _ (ih h)
 exact List.map_inj_left.1 ht _ (key l hk)
theorem FnI.p (h : FnI P f fn n c rs l) {α β : Type} [Inhabited β] {args : α -> List V} {pre : α -> Prop} {val : β -> V} {R : α -> β -> Prop} (inj : ∀ a b, args a = args b -> a = b) (hl : ∀ a, (args a).length <= n)
  (hw : ∀ a, pre a -> ∀ Q : Exit -> St -> Prop, (∀ e s', e = .ret \/ e = .normal -> Fx rs s' -> (∃ b, Di rs s' = val b /\ R a b) -> (Di rs s').pur = true -> Q e s') -> TC P U n c Q ⟨Ge (args a), fun _ => none⟩) :
  ∃ F : α -> β, (∀ a, pre a -> R a (F a)) /\ Ah P U f (gOf args fun a => (pre a, val (F a))) := by
 obtain ⟨h0, h1, h2, h3, rfl, _⟩ := h.u
 exact Ah.pick inj h0 h1 h2 h3 fun a ha => ⟨hl a, hw a ha⟩
theorem FnI.T (h : FnI P f fn n c rs l) {G : Tab} (EF : Nat -> Bool) (hG : ∀ f, Ah P U f (G f))
  (k : Nat) {a : List AO} (hk : l.lookup k = some a) {id : Nat} {s : St} {Q : Exit -> St -> Prop} (hr : Cl P U EF G a s (Q .normal)) : TC P U n (.region id (ro fn k) false) Q s :=
 let ⟨s', h1, q⟩ := No hr; ⟨_, s', h1, fun C hC Q' hq => h.R EF hG hC k hk (q _ hq)⟩
def Ye (ops : Array Oper) : List (List Nat) := (List.range ops.size).foldl (fun D i => D ++ [(GE ops i).flatMap fun j => j :: D.getD j []]) []
theorem FnI.rt (h : FnI P f fn n c rs l) {k : Nat} {a : List AO} (hk : l.lookup k = some a) : (ro fn k).toList.mapM (trO P n (ro fn k)) = some a := by
 have ht := h.u.2.2.2.2.2
 have key : ∀ l : RL, l.lookup k = some a -> (k, a) ∈ l := fun l => by
  induction l with
  | nil => intro h; cases h
  | cons p l ih =>
   intro h
   rw [List.lookup_cons] at h
   split at h
   ·rename_i e
    injection h with h
    subst h
    rw [beq_iff_eq] at e
    subst e
    exact AJ ..
   ·exact AU _ (ih h)
 exact List.map_inj_left.1 ht _ (key l hk)
theorem FnI.D (h : FnI P f fn n c rs l) {C : Ctx U} {G : Tab} (EF : Nat -> Bool) (hG : ∀ f, Ah P U f (G f)) (hN : C.N = n) (hm : P.follows .mixedOrders = true)
  (k : Nat) {a : List AO} (hk : l.lookup k = some a) (ho : (Cx (ro fn k) a (Ye (ro fn k)) && a.all (AO.sro EF)) = true) {id : Nat} {s : St} {Q : Exit -> St -> Prop} (hr : Cl P U EF G a s (Q .normal)) : AW P C (.region id (ro fn k) true) Q s := by
 rw [By] at ho
 exact He hG hm (by rw [hN]; exact h.rt hk) ho.1 (OX ho.2 hr)
theorem FnI.E (h : FnI P f fn n c rs l) {G : Tab} (EF : Nat -> Bool) (hG : ∀ f, Ah P U f (G f)) (hm : P.follows .mixedOrders = true)
  (k : Nat) {a : List AO} (hk : l.lookup k = some a) (ho : (Cx (ro fn k) a (Ye (ro fn k)) && a.all (AO.sro EF)) = true) {id : Nat} {s : St} {Q : Exit -> St -> Prop} (hr : Cl P U EF G a s (Q .normal)) : TC P U n (.region id (ro fn k) true) Q s := by
 rw [By] at ho
 exact GZ hG hm (h.rt hk) ho.1 (OX ho.2 hr)
theorem leB {p : Prop} (h : p := by first | exact AdZ rfl rfl rfl | rfl | exact AdY rfl | exact .nill _ | exact .nilo _ _ _ rfl rfl | exact DO rfl (by first | rfl | exact Ac _) rfl (fun r hr => by obtain ⟨_, _, rfl⟩ := An.1 hr; rfl) | exact Ad0 rfl rfl (fun kv hk => by obtain ⟨_, _, rfl⟩ := An.1 hk; rfl) | fail) : p := h
theorem leM {s : St} {l : List (Nat × V)} {hl : List (Nat × Ob)} (h1 : ∀ p ∈ l, Wk s.h hl (s.e p.1) p.2 := by (simp only [go_sem, simprocAttr]) <;> and_intros <;> try exact leA) (h2 : ∀ q ∈ hl, IB s.h hl (s.h q.1) q.2 := by (simp only [go_sem, simprocAttr]) <;> and_intros <;> try exact leA) (h3 : (hl.all fun q => q.1 < 1000 || (s.h q.1).isSome) = true := by rfl) : Le s ⟨mkE l, mkH hl⟩ := Le.mk l hl h1 h2 h3
attribute [go_sem] Fx Di AR.res
end
namespace X
def z0 : List V := [(.int .i64 0), (.str []), (.str []), (.str []), (.str []), .nils, (.int .i64 0), .nils, (.int .i64 0), (.int .i64 0)]
def z1 : List V := [(.int .i64 0), (.int .i64 0), (.int .i64 0), (.int .i64 0)]
def z2 : List V := [(.str []), (.int .i64 0), (.int .i64 0), (.str []), (.str []), (.int .i64 0), (.int .i64 0), (.str []), (.str []), (.int .i64 0), (.int .i64 0)]
def z3 : List V := [.nils, .nils, .nils, (.int .i64 0), (.int .i64 0)]
def z4 : List V := [(.str []), (.int .i64 0)]
def z5 : List V := [(.int .i64 0), (.str [])]
def z6 : List V := [(.str []), (.int .i64 0), (.str []), (.int .i64 0), (.int .i64 0), (.int .i64 0), .nils]
def z7 : List V := [(.str []), (.str []), (.str []), (.str []), (.str []), (.bool false), (.int .i64 0), (.int .i64 0), (.int .i64 0)]
def z8 : List V := [(.int .i64 0), (.int .i64 0), .nils, (.int .i64 0), (.int .i64 0), (.int .i64 0), (.int .i64 0), (.int .i64 0), .nils, .nils, (.int .i64 0), (.int .i64 0), (.int .i64 0), (.int .i64 0), .nils]
def z9 : List V := [(.int .i64 0), .nils, (.int .i64 0)]
def z10 : List V := [(.int .i64 0), (.int .i64 0)]
def z11 : List V := [(.str []), (.str [])]
def z12 : List V := [(.int .i64 0)]
def z13 : List V := [(.str []), (.int .i64 0), (.int .i64 0), (.str []), (.str []), (.int .i64 0), (.int .i64 0), (.str [])]
def z14 : List V := [(.int .u64 0)]
def z15 : List V := [(.str []), (.str []), (.str []), (.int .i64 0), .nils]
def z16 : List V := [(.str []), (.str []), (.int .i64 0)]
def z17 : List V := [(.str []), (.int .i64 0), (.int .i64 0), (.int .i64 0), (.int .i64 0), (.int .i64 0), .nils, .nils, .nils]
def z18 : List V := [(.int .i64 0), (.int .i64 0), (.int .i64 0), (.int .i64 0), (.int .i64 0)]
def z19 : List V := [(.int .i64 0), (.int .i64 0), (.int .i64 0)]
attribute [go_sem] z0 z1 z2 z3 z4 z5 z6 z7 z8 z9 z10 z11 z12 z13 z14 z15 z16 z17 z18 z19
def ts : List Nat -> List AE
 | [] => []
 | a :: l => .t a :: ts l
def gc : Option (Nat × Bool) -> Nat
 | some p => p.1
 | none => 0
def A (d : Nat) (x : KO -> KO) (k : KO) (n : Nat) (g : Option (Nat × Bool)) : List AO := x (fun _ h => k n h) d g
def J (m : Nat) (k : KO) (n : Nat) (g : Option (Nat × Bool)) : List AO := k m g
def G (k : KO) (n : Nat) (g : Option (Nat × Bool)) : List AO := k n (some (n - 1, false))
def H (k : KO) (n : Nat) (g : Option (Nat × Bool)) : List AO := k n (some (n - 1, true))
def Gn (c : Nat) (k : KO) (n : Nat) (g : Option (Nat × Bool)) : List AO := k n (some (c, false))
def Hn (c : Nat) (k : KO) (n : Nat) (g : Option (Nat × Bool)) : List AO := k n (some (c, true))
def U (k : KO) (n : Nat) (g : Option (Nat × Bool)) : List AO := k n none
def P (k : KO) (n : Nat) (g : Option (Nat × Bool)) : List AO := ⟨some n, none, .pick (.t (gc g)) (.v (.bool true)) (.t (n - 1))⟩ :: k (n + 1) none
def Q (k : KO) (n : Nat) (g : Option (Nat × Bool)) : List AO := ⟨some n, none, .pick (.t (gc g)) (.t (n - 1)) (.v (.bool false))⟩ :: k (n + 1) none
def o (x : AOp) (k : KO) (n : Nat) (g : Option (Nat × Bool)) : List AO := ⟨some n, g, x⟩ :: k (n + 1) g
def z (x : AOp) (k : KO) (n : Nat) (g : Option (Nat × Bool)) : List AO := ⟨none, g, x⟩ :: k n g
def m (a : Nat) (k : KO) (n : Nat) (g : Option (Nat × Bool)) : List AO := ⟨some n, g, .mv (.t a)⟩ :: k (n + 1) g
def mv (v : V) (k : KO) (n : Nat) (g : Option (Nat × Bool)) : List AO := ⟨some n, g, .mv (.v v)⟩ :: k (n + 1) g
def mi (z : Int) (k : KO) (n : Nat) (g : Option (Nat × Bool)) : List AO := ⟨some n, g, .mv (.v (.int .i64 z))⟩ :: k (n + 1) g
def l (a : Nat) (k : KO) (n : Nat) (g : Option (Nat × Bool)) : List AO := ⟨some n, g, .load none (.t a)⟩ :: k (n + 1) g
def L (k : KO) (n : Nat) (g : Option (Nat × Bool)) : List AO := ⟨some n, g, .load none (.t (n - 1))⟩ :: k (n + 1) g
def ls (s a : Nat) (k : KO) (n : Nat) (g : Option (Nat × Bool)) : List AO := ⟨some n, g, .load (some s) (.t a)⟩ :: k (n + 1) g
def f (s a : Nat) (k : KO) (n : Nat) (g : Option (Nat × Bool)) : List AO := ⟨some n, g, .fld s (.t a)⟩ :: k (n + 1) g
def F (s : Nat) (k : KO) (n : Nat) (g : Option (Nat × Bool)) : List AO := ⟨some n, g, .fld s (.t (n - 1))⟩ :: k (n + 1) g
def ix (s a b : Nat) (k : KO) (n : Nat) (g : Option (Nat × Bool)) : List AO := ⟨some n, g, .idx s (.t a) (.t b)⟩ :: k (n + 1) g
def X (s : Nat) (k : KO) (n : Nat) (g : Option (Nat × Bool)) : List AO := ⟨some n, g, .idx s (.t (n - 2)) (.t (n - 1))⟩ :: k (n + 1) g
def e (s a : Nat) (k : KO) (n : Nat) (g : Option (Nat × Bool)) : List AO := ⟨some n, g, .ext s (.t a)⟩ :: k (n + 1) g
def ln (a : Nat) (k : KO) (n : Nat) (g : Option (Nat × Bool)) : List AO := ⟨some n, g, .len (.t a)⟩ :: k (n + 1) g
def N (k : KO) (n : Nat) (g : Option (Nat × Bool)) : List AO := ⟨some n, g, .len (.t (n - 1))⟩ :: k (n + 1) g
def nt (a : Nat) (k : KO) (n : Nat) (g : Option (Nat × Bool)) : List AO := ⟨some n, g, .un .not (.t a)⟩ :: k (n + 1) g
def pt (c a : Nat) (k : KO) (n : Nat) (g : Option (Nat × Bool)) : List AO := ⟨some n, g, .pick (.t c) (.v (.bool true)) (.t a)⟩ :: k (n + 1) g
def pf (c a : Nat) (k : KO) (n : Nat) (g : Option (Nat × Bool)) : List AO := ⟨some n, g, .pick (.t c) (.t a) (.v (.bool false))⟩ :: k (n + 1) g
def st (s a b : Nat) (k : KO) (n : Nat) (g : Option (Nat × Bool)) : List AO := ⟨none, g, .store s (.t a) (.t b)⟩ :: k n g
def c (h : Nat) (z : List Nat) (k : KO) (n : Nat) (g : Option (Nat × Bool)) : List AO := ⟨some n, g, .call h (ts z)⟩ :: k (n + 1) g
def b (p : BinOp) (a a' : Nat) (k : KO) (n : Nat) (g : Option (Nat × Bool)) : List AO := ⟨some n, g, .bin p (.t a) (.t a')⟩ :: k (n + 1) g
def bi (p : BinOp) (a : Nat) (z : Int) (k : KO) (n : Nat) (g : Option (Nat × Bool)) : List AO := ⟨some n, g, .bin p (.t a) (.v (.int .i64 z))⟩ :: k (n + 1) g
def B (p : BinOp) (z : Int) (k : KO) (n : Nat) (g : Option (Nat × Bool)) : List AO := ⟨some n, g, .bin p (.t (n - 1)) (.v (.int .i64 z))⟩ :: k (n + 1) g
def bx (t a : Nat) (k : KO) (n : Nat) (g : Option (Nat × Bool)) : List AO := ⟨some n, g, .box t (.t a)⟩ :: k (n + 1) g
def sl (t s : Nat) (z : List Nat) (k : KO) (n : Nat) (g : Option (Nat × Bool)) : List AO := ⟨some n, g, .slc t s false (ts z)⟩ :: k (n + 1) g
def ap (t s b x y : Nat) (k : KO) (n : Nat) (g : Option (Nat × Bool)) : List AO := ⟨some n, g, .app t s b (.t x) (.t y)⟩ :: k (n + 1) g
attribute [go_sem] ts gc dq A J G H Gn Hn U P Q o z m mv mi l L ls f F ix X e ln N nt pt pf st c b bi B bx sl ap
end X
end Go.Proofs.YtjkclhbckfkeeaaGreatDoor
namespace Go.Proofs.YtjkclhbckfkeeaaGreatDoor
open Go Go.RowKit X
theorem fi5 : FI 5 Tryz.f5 194 (.h 0 (.q 1 45 2 (.s (.h 3 (.w 0 4 51 1 (.i 6 61 (.e 7) .n) 5)) (.q 8 103 9 (.h 10 (.q 11 149 12 (.h 13 (.s (.h 14 (.w 2 15 154 3 (.h 17 (.j 18 (.c 185 (.e 19) .n))) 16)) (.e 20))))))))) [.t 6] [(0,3,[bx 41 0,A 6 (mv (.bool false))]),(1,12,[ls 18 3,c 12 [12],nt 13,m 14,G,f 6 3,L,N,B .gtr 4,P,m 20,G,m 2,c 16 [22],nt 23,P,m 25,G,f 6 3,L,c 17 [28],nt 29,P,m 31,G,f 0 3,ls 2 33,f 2 3,ls 4 35,f 6 3,L,m 1,m 2,f 7 3,ls 5 41,c 18 [34,36,38,39,40,42],B .neq 0,P]),(2,46,[c 13 [],A 6 (m 46)]),(3,7,[mi 0]),(4,47,[m 7,f 6 3,L,N,b .lss 47 50]),(5,52,[m 7,B .add 1,A 7 (m 53)]),(6,54,[f 6 3,L,m 7,X 8,F 7,L,c 19 [59],nt 60]),(7,62,[c 13 [],A 6 (m 62)]),(8,63,[f 15 3,L,c 20 [64],nt 65,m 66,G,f 16 3,L,c 21 [69],nt 70,P,m 72,G,f 12 3,F 0,L,c 22 [76],nt 77,P,m 79,G,f 12 3,F 1,L,c 22 [83],nt 84,P,m 86,G,f 12 3,F 2,L,o (.call 23 [(.t 90), (.v (.int .i64 3)), (.v (.int .i64 3))]),nt 91,P,m 93,G,f 17 3,L,B .lss 0,P,m 98,G,f 17 3,L,B .geq 36525,P]),(9,104,[c 13 [],A 6 (m 104)]),(10,106,[f 0 3,ls 2 106,f 2 3,ls 4 108,f 6 3,L,f 7 3,ls 5 112,f 12 3,ls 3 114,f 15 3,L,f 16 3,L,f 17 3,L,c 8 [107,109,111,113,115,117,119,121],A 105 (m 122),e 0 105,e 1 105,A 8 (o (.alloc 47 X.z0)),st 10 8 123,A 9 (m 124)]),(11,125,[m 9,B .neq 0,m 126,G,ls 10 8,c 24 [128],N,B .gtr 0,P,m 132,G,f 5 8,L,N,f 6 3,L,N,b .neq 136 139,P,m 141,G,f 8 8,L,f 7 3,F 4,L,b .neq 144 147,P]),(13,10,[mi 0]),(14,11,[mi 0]),(15,150,[m 11,f 5 8,L,N,b .lss 150 153]),(16,155,[m 11,B .add 1,A 11 (m 156)]),(17,157,[m 10,f 5 8,L,m 11,X 11,F 10,L,b .add 157 163,A 10 (m 164)]),(18,165,[f 5 8,L,m 11,X 11,F 0,ls 8 169,f 6 3,L,m 11,X 8,ls 8 174,o (.bina [.s, .i .i64, .i .i64, .s, .s, .i .i64, .i .i64, .s] .neq (.t 170) (.t 175)),m 176,G,f 5 8,L,m 11,X 11,F 9,L,B .neq 1,P]),(20,186,[m 10,f 7 3,F 3,L,b .eql 186 189,m 190,H,c 13 [],Q,A 6 (m 193)])] := .mk Tryz.func5
theorem fi8 : FI 8 Tryz.f8 114 (.h 0 (.s (.b 0 (.i 1 24 (.e 2) (.i 3 48 (.e 4) .n))) (.h 5 (.q 6 61 7 (.j 8 (.s (.h 9 (.b 1 (.l (.h 10 (.s (.c 80 .n (.x 1)) (.s (.b 2 (.h 11 (.h 12 (.w 3 13 88 4 (.d 15) 14)))) (.g 16))))))) (.e 17))))))) [.c (some 10) 16, .t 17] [(0,11,[A 8 (bx 25 0),A 9 (bx 31 1),bx 37 3,bx 39 4,A 16 (o (.alloc 47 X.z0)),A 17 (mi 0)]),(1,25,[m 2,N,B .lss 1,m 27,G,m 2,N,B .gtr 6,P,m 32,G,ls 4 9,f 0 11,L,m 2,N,c 33 [34,36,38],nt 39,P,m 41,G,m 5,c 34 [43],nt 44,P,A 24 (m 46)]),(2,47,[o (.build X.z0 []),st 10 16 47,A 17 (mi 2)]),(3,49,[m 7,c 35 [49],nt 50,A 48 (m 51)]),(4,52,[o (.build X.z0 []),st 10 16 52,A 17 (mi 12)]),(5,54,[ls 2 8,m 2,ls 5 11,c 36 [54,55,56],A 53 (m 57),e 0 53,e 1 53,A 18 (m 58),A 19 (m 59)]),(6,60,[m 19,B .neq 0]),(7,62,[o (.build X.z0 []),m 19,st 10 16 62,A 17 (m 63)]),(9,76,[f 0 11,L,N,mi 0]),(10,80,[b .lss 79 78]),(11,81,[ix 4 77 79,ls 4 81,A 22 (o (.alloc 94 X.z1)),st 4 22 82]),(12,83,[f 0 22,L,A 23 (m 84)]),(13,85,[m 23,f 1 22,L,b .lss 85 87]),(14,89,[m 23,B .add 1,A 23 (m 90)]),(16,112,[bi .add 79 1,A 79 (m 112)]),(17,113,[ls 10 20,st 10 16 113,A 17 (mi 0)])] := .mk Tryz.func8
def RB : List AO := dq [m 5,m 6,ls 3 12,f 3 11,L,f 2 11,L,c 37 [70],f 4 11,L,m 7,o (.build X.z0 [(0, 1, (.t 64)), (1, 1, (.t 65)), (2, 3, (.t 66)), (6, 1, (.t 68)), (7, 1, (.t 71)), (8, 1, (.t 73)), (9, 1, (.t 74))]),A 20 (o (.alloc 47 X.z0)),st 10 20 75] 64 none
theorem Anc : TR Tryz.f8 114 8 = some RB := by kernel_rfl
def RA : List AO := dq [f 5 20,L,m 2,m 23,X 8,ls 8 95,f 0 9,L,f 2 22,L,ix 9 98 100,F 3,L,m 18,m 23,X 1,L,o (.build X.z2 [(0, 8, (.t 96)), (8, 1, (.t 103)), (9, 1, (.v (.int .i64 1))), (10, 1, (.t 107))]),sl 57 11 [108],ap 57 11 128 92 109,f 5 20,st 1 111 110] 91 none
theorem Anb : TR Tryz.f8 114 15 = some RA := by kernel_rfl
def XV : List (List Nat) := [[], [], [], [], [3], [], [5], [5, 6], [], [8], [], [0, 1, 2, 3, 4, 5, 6, 7, 8, 9, 10], [], [0, 1, 2, 3, 4, 5, 6, 7, 8, 9, 10, 11, 12]]
theorem Aiu : Cx (ro Tryz.f8 8) RB XV = true := by kernel_rfl
def XU : List (List Nat) := [[], [0], [], [], [2, 3], [2, 3, 4], [], [6], [], [8], [6, 7, 8, 9], [6, 7, 8, 9, 10], [6, 7, 8, 9, 10, 11], [], [], [13, 14], [13, 14, 15], [2, 3, 4, 5, 6, 7, 8, 9, 10, 11, 12, 13, 14, 15, 16], [2, 3, 4, 5, 6, 7, 8, 9, 10, 11, 12, 13, 14, 15, 16, 17], [0, 1, 2, 3, 4, 5, 6, 7, 8, 9, 10, 11, 12, 13, 14, 15, 16, 17, 18], [0, 1, 2, 3, 4, 5, 6, 7, 8, 9, 10, 11, 12, 13, 14, 15, 16, 17, 18, 19], [0, 1, 2, 3, 4, 5, 6, 7, 8, 9, 10, 11, 12, 13, 14, 15, 16, 17, 18, 19, 20]]
theorem Ait : Cx (ro Tryz.f8 15) RA XU = true := by kernel_rfl
theorem YJ : FI 12 Tryz.f12 85 (.h 0 (.q 1 62 2 (.e 3))) [.t 2] [(0,1,[bx 41 0,mv (.bool false)]),(1,3,[f 6 1,L,N,B .gtr 8,m 6,G,f 7 1,F 0,L,N,B .gtr 8,P,m 13,G,f 7 1,F 2,L,N,B .gtr 20,P,m 20,G,f 2 1,F 0,L,N,B .gtr 20,P,m 27,G,f 2 1,F 1,L,N,B .gtr 8,P,m 34,G,f 2 1,F 2,L,N,B .gtr 8,P,m 41,G,f 2 1,F 3,L,N,B .gtr 8,P,m 48,G,f 0 1,F 0,L,N,B .gtr 12,P,m 55,G,f 0 1,F 1,L,N,B .gtr 20,P]),(2,2,[mv (.bool false)]),(3,63,[f 0 1,ls 2 63,c 43 [64],N,B .eql 0,m 67,H,f 0 1,ls 2 69,f 2 1,ls 4 71,c 28 [70,72],N,B .eql 0,Q,m 76,H,f 2 1,F 3,L,c 29 [80],N,B .eql 0,Q,A 2 (m 84)])] := .mk Tryz.func12
theorem YQ : FI 13 Tryz.f13 45 (.h 0 (.h 1 (.h 2 (.h 3 (.e 4))))) [.t 0] [(0,0,[mv (.bool false)]),(1,6,[o (.build X.z2 [(9, 1, (.v (.int .i64 1)))]),sl 57 11 [6],o (.build X.z0 [(5, 1, (.t 7)), (9, 1, (.v (.int .i64 5)))]),A 1 (o (.alloc 47 X.z0)),st 10 1 8]),(2,10,[ls 10 1,o (.call 44 [(.t 10), (.v (.int .i64 5))]),A 9 (m 11),e 0 9,e 1 9,A 2 (o (.alloc 47 X.z0)),st 10 2 12,A 3 (m 13)]),(3,15,[ls 10 2,o (.call 44 [(.t 15), (.v (.int .i64 5))]),A 14 (m 16),e 0 14,e 1 14,A 4 (o (.alloc 47 X.z0)),st 10 4 17,A 5 (m 18)]),(4,19,[m 3,B .eql 0,m 20,H,f 5 2,L,N,B .eql 1,Q,m 26,H,f 5 2,L,o (.idx 11 (.t 29) (.v (.int .i64 0))),F 9,L,B .eql 8,Q,m 34,H,m 5,B .eql 27,Q,m 38,H,ls 10 1,c 24 [40],N,B .gtr 0,Q,A 0 (m 44)])] := .mk Tryz.func13
theorem Zd : FI 16 Tryz.f16 9 (.h 0 (.e 1)) [.t 2] [(0,2,[mv (.bool false)]),(1,3,[m 0,B .geq (-1099511627776),m 4,H,m 0,B .leq 1099511627776,Q,A 2 (m 8)])] := .mk Tryz.func16
theorem Zm : FI 17 Tryz.f17 44 (.h 0 (.s (.h 1 (.w 0 2 7 1 (.i 4 43 (.e 5) .n) 3)) (.e 6))) [.t 2] [(0,2,[mv (.bool false)]),(1,3,[mi 0]),(2,4,[m 3,m 0,N,b .lss 4 6]),(3,8,[m 3,B .add 1,A 3 (m 9)]),(4,10,[m 0,m 3,X 8,F 0,F 5,L,B .lss 0,m 16,G,m 0,m 3,X 8,F 0,F 5,L,B .geq 52596000,P,m 25,G,m 0,m 3,X 8,F 0,F 6,L,B .lss 0,P,m 34,G,m 0,m 3,X 8,F 0,F 6,L,B .geq 52596000,P]),(5,2,[mv (.bool false)]),(6,2,[mv (.bool true)])] := .mk Tryz.func17
theorem SJ : FI 18 Tryz.f18 122 (.h 0 (.q 1 30 2 (.q 3 36 4 (.s (.h 5 (.w 0 6 41 1 (.h 8 (.j 9 (.q 10 63 11 (.j 12 (.i 13 87 (.e 14) .n))))) 7)) (.h 15 (.q 16 95 17 (.h 18 (.q 19 108 20 (.h 21 (.h 22 (.q 23 121 24 (.e 25)))))))))))) [.t 12] [(0,11,[A 6 (bx 25 0),A 7 (bx 31 1),bx 37 5,mi 0]),(1,23,[m 2,N,B .eql 0,m 25,G,m 2,N,B .gtr 6,P]),(2,12,[mi 2]),(3,31,[f 0 11,L,m 2,N,c 47 [32,34],nt 35]),(4,12,[mi 15]),(5,13,[mi 0]),(6,37,[m 13,f 0 11,L,N,b .lss 37 40]),(7,42,[m 13,B .add 1,A 13 (m 43)]),(8,44,[f 0 11,L,m 13,X 4,ls 4 47,A 14 (o (.alloc 94 X.z1)),st 4 14 48]),(9,49,[ls 2 6,ls 4 7,f 2 14,L,m 2,f 0 14,L,f 1 14,L,o (.sub 8 (some (.t 55)) (some (.t 57)) none (.t 53)),m 3,m 4,c 48 [49,50,52,58,59,60],A 15 (m 61)]),(10,62,[m 15,B .neq 0]),(11,64,[m 15,A 12 (m 64)]),(12,66,[ls 2 6,ls 4 7,f 2 14,L,m 2,f 0 14,L,f 1 14,L,o (.sub 8 (some (.t 72)) (some (.t 74)) none (.t 70)),m 3,c 49 [66,67,69,75,76],A 65 (m 77),e 0 65,e 1 65,A 16 (m 78),A 17 (m 79)]),(13,80,[m 17,B .neq 0,m 81,G,m 16,f 3 14,L,b .neq 83 85,P]),(14,12,[mi 36]),(15,88,[ls 2 6,ls 4 7,m 2,f 0 11,L,c 50 [88,89,90,92],A 18 (m 93)]),(16,94,[m 18,B .neq 0]),(17,96,[m 18,A 12 (m 96)]),(18,98,[ls 2 6,ls 4 7,m 2,m 3,f 0 11,L,c 51 [98,99,100,101,103],A 97 (m 104),e 0 97,e 1 97,A 19 (o (.alloc 37 X.z3)),st 5 19 105,A 20 (m 106)]),(19,107,[m 20,nt 107]),(20,12,[mi 36]),(21,110,[ls 4 7,f 0 11,L,c 52 [110,112],A 109 (m 113),e 0 109,e 1 109,A 21 (m 114),A 22 (m 115)]),(22,116,[m 21,f 1 19,st 1 117 116]),(23,118,[ls 5 19,ls 5 11,c 53 [118,119],nt 120]),(24,12,[mi 36]),(25,12,[mi 0])] := .mk Tryz.func18
theorem Zy : FI 19 Tryz.f19 5 (.h 0 (.e 1)) [.t 2] [(0,2,[mv (.bool false)]),(1,3,[m 0,o (.call 54 [(.t 3), (.v (.int .i64 1))]),A 2 (m 4)])] := .mk Tryz.func19
theorem ZG : FI 20 Tryz.f20 24 (.h 0 (.q 1 6 2 (.h 3 (.e 4)))) [.t 2] [(0,2,[mv (.bool false)]),(1,5,[m 0,B .lss 0]),(2,2,[mv (.bool false)]),(3,8,[m 0,B .quo 10,B .quo 10000000000,m 0,B .quo 10,B .rem 10000000000,c 55 [10,13],A 7 (m 14),e 0 7,e 1 7,A 3 (m 15),A 4 (m 16)]),(4,17,[m 4,B .eql 0,m 18,H,m 3,m 0,b .eql 20 21,Q,A 2 (m 23)])] := .mk Tryz.func20
theorem ZJ : FI 21 Tryz.f21 12 (.h 0 (.h 1 (.e 2))) [.t 2] [(0,2,[mv (.bool false)]),(1,6,[m 0,c 56 [6],A 5 (m 7),e 0 5,e 1 5,A 3 (m 8),A 4 (m 9)]),(2,10,[m 4,B .eql 0,A 2 (m 11)])] := .mk Tryz.func21
theorem ZM : FI 22 Tryz.f22 49 (.h 0 (.q 1 24 2 (.s (.h 3 (.w 0 4 28 1 (.i 6 48 (.e 7) .n) 5)) (.e 8)))) [.t 2] [(0,2,[mv (.bool false)]),(1,4,[m 0,o (.slen (.t 4)),B .lss 1,m 6,G,m 0,o (.slen (.t 8)),B .gtr 30,P,m 11,G,m 0,o (.sidx (.t 13) (.v (.int .i64 0))),o (.bin .eql (.t 14) (.v (.int .u8 32))),P,m 16,G,m 0,m 0,o (.slen (.t 19)),B .sub 1,o (.sidx (.t 18) (.t 21)),o (.bin .eql (.t 22) (.v (.int .u8 32))),P]),(2,2,[mv (.bool false)]),(3,3,[mi 0]),(4,25,[m 3,m 0,o (.slen (.t 26)),b .lss 25 27]),(5,29,[m 3,B .add 1,A 3 (m 30)]),(6,31,[m 0,m 3,o (.sidx (.t 31) (.t 32)),c 57 [33],nt 34,m 35,H,m 0,m 3,o (.sidx (.t 37) (.t 38)),o (.bin .neq (.t 39) (.v (.int .u8 32))),m 40,G,m 0,m 3,B .sub 1,o (.sidx (.t 42) (.t 44)),o (.bin .eql (.t 45) (.v (.int .u8 32))),Hn 36,pt 41 46,Q]),(7,2,[mv (.bool false)]),(8,2,[mv (.bool true)])] := .mk Tryz.func22
theorem ZQ : FI 23 Tryz.f23 36 (.h 0 (.s (.h 1 (.w 0 2 11 1 (.i 4 25 (.e 5) .n) 3)) (.e 6))) [.t 6] [(0,6,[mv (.bool false)]),(1,7,[mi 0]),(2,8,[m 7,m 0,o (.slen (.t 9)),b .lss 8 10]),(3,12,[m 7,B .add 1,A 7 (m 13)]),(4,14,[m 0,m 7,o (.sidx (.t 14) (.t 15)),c 57 [16],nt 17,m 18,H,m 0,m 7,o (.sidx (.t 20) (.t 21)),c 58 [22],nt 23,Q]),(5,6,[mv (.bool false)]),(6,26,[m 0,o (.slen (.t 26)),m 1,b .geq 27 28,m 29,H,m 0,o (.slen (.t 31)),m 2,b .leq 32 33,Q,A 6 (m 35)])] := .mk Tryz.func23
theorem ZT : FI 24 Tryz.f24 111 (.h 0 (.h 1 (.h 2 (.h 3 (.h 4 (.h 5 (.h 6 (.s (.i 7 57 (.g 8) (.g 9)) (.h 10 (.s (.h 11 (.b 0 (.l (.h 12 (.s (.c 74 .n (.x 0)) (.s (.b 1 (.h 13 (.s (.i 14 86 (.h 15 (.x 1)) .n) (.g 16)))) (.g 17))))))) (.h 18 (.h 19 (.e 20))))))))))))) [.t 2] [(0,1,[bx 47 0,mv .nils]),(1,10,[o (.build [.nils] []),bx 121 10,A 3 (m 11)]),(2,12,[m 3,f 0 1,L,c 34 [14],nt 15,o (.call 59 [(.t 12), (.t 16), (.v (.int .i64 2)), (.v (.str [110, 117, 109, 98, 101, 114]))])]),(3,18,[m 3,f 1 1,L,c 60 [20],nt 21,o (.call 59 [(.t 18), (.t 22), (.v (.int .i64 5)), (.v (.str [108, 111, 99, 97, 116, 111, 114]))])]),(4,24,[m 3,f 2 1,F 0,L,c 61 [27],nt 28,m 29,G,f 2 1,F 1,L,c 61 [33],nt 34,P,m 36,G,f 2 1,F 2,L,o (.call 62 [(.t 40), (.v (.int .i64 3)), (.v (.int .i64 3))]),nt 41,P,o (.call 59 [(.t 24), (.t 43), (.v (.int .i64 5)), (.v (.str [112, 101, 114, 115, 111, 110]))])]),(5,46,[m 3,f 5 1,L,c 63 [46,48],A 45 (m 49),e 0 45,e 1 45,A 4 (m 50),A 5 (m 51)]),(6,6,[mv (.bool true)]),(7,52,[m 3,f 6 1,L,c 64 [54],nt 55,o (.call 59 [(.t 52), (.t 56), (.v (.int .i64 11)), (.v (.str [102, 97, 114, 101]))])]),(8,6,[mv (.bool false)]),(9,58,[m 3,m 5,m 59,H,m 4,f 6 1,L,b .neq 61 63,Q,o (.call 59 [(.t 58), (.t 65), (.v (.int .i64 36)), (.v (.str [102, 97, 114, 101]))])]),(10,67,[f 6 1,L,A 7 (m 68)]),(11,69,[f 7 1,L,c 65 [70],N,mi 0]),(12,74,[b .lss 73 72]),(13,75,[m 73,ix 2 71 73,ls 2 76,A 9 (o (.alloc 92 X.z4)),A 8 (m 75),st 2 9 77]),(14,78,[m 3,f 1 9,L,c 64 [80],nt 81,m 8,c 66 [83],o (.bin .add (.v (.str [116, 97, 120, 101, 115, 46])) (.t 84)),o (.call 59 [(.t 78), (.t 82), (.v (.int .i64 11)), (.t 85)])]),(15,6,[mv (.bool false)]),(16,87,[m 7,f 1 9,L,b .add 87 89,A 7 (m 90)]),(17,91,[bi .add 73 1,A 73 (m 91)]),(18,92,[m 3,m 6,m 93,H,m 7,f 8 1,L,b .neq 95 97,Q,o (.call 59 [(.t 92), (.t 99), (.v (.int .i64 36)), (.v (.str [116, 111, 116, 97, 108]))])]),(19,101,[m 3,f 9 1,L,c 35 [103],nt 104,o (.call 59 [(.t 101), (.t 105), (.v (.int .i64 12)), (.v (.str [105, 115, 115, 117, 101, 100]))])]),(20,107,[m 3,o (.nchk (.t 107)),F 0,L,A 2 (m 110)])] := .mk Tryz.func24
def VC : List AO := dq [m 7,f 1 9,L,b .add 87 89,A 7 (m 90)] 87 none
theorem Am1 : TR Tryz.f24 111 16 = some VC := by kernel_rfl
theorem ST : FI 28 Tryz.f28 150 (.h 0 (.h 1 (.s (.i 2 20 (.g 3) .n) (.s (.h 4 (.w 0 5 29 1 (.j 7 (.h 8 (.w 2 9 43 3 (.d 11) 10))) 6)) (.s (.h 12 (.w 4 13 61 5 (.h 15 (.s (.h 16 (.w 6 17 69 7 (.d 19) 18)) (.s (.i 20 88 (.g 21) .n) (.g 22)))) 14)) (.s (.h 23 (.w 8 24 107 9 (.h 26 (.s (.h 27 (.w 10 28 115 11 (.d 30) 29)) (.s (.i 31 134 (.g 32) .n) (.g 33)))) 25)) (.e 34))))))) [.t 4] [(0,2,[bx 25 0,bx 31 1,mv .nils]),(1,5,[mv .nils]),(2,17,[f 0 3,L,N,B .gtr 512]),(3,21,[m 5,o (.build X.z5 [(0, 1, (.v (.int .i64 4))), (1, 1, (.v (.str [102, 97, 114, 101, 115])))]),sl 126 2 [22],ap 126 2 24 21 23,A 5 (m 24)]),(4,6,[mi 0]),(5,25,[m 6,f 0 3,L,N,b .lss 25 28]),(6,30,[m 6,B .add 1,A 6 (m 31)]),(7,32,[ls 2 2,ls 4 3,f 0 3,L,m 6,X 9,ls 9 37,c 67 [32,33,38],A 7 (m 39)]),(8,8,[mi 0]),(9,40,[m 8,m 7,N,b .lss 40 42]),(10,44,[m 8,B .add 1,A 8 (m 45)]),(12,9,[mi 0]),(13,57,[m 9,f 1 3,L,N,b .lss 57 60]),(14,62,[m 9,B .add 1,A 9 (m 63)]),(15,64,[m 9,c 68 [64],o (.bin .add (.v (.str [114, 117, 108, 101, 32])) (.t 65)),A 10 (m 66),A 11 (mv (.bool false))]),(16,12,[mi 0]),(17,67,[m 12,m 9,b .lss 67 68]),(18,70,[m 12,B .add 1,A 12 (m 71)]),(19,72,[m 11,m 72,G,f 1 3,L,m 12,X 15,F 0,L,f 1 3,L,m 9,X 15,F 0,L,b .eql 79 85,P,A 11 (m 87)]),(20,88,[m 11]),(21,89,[m 5,m 10,o (.build X.z5 [(0, 1, (.v (.int .i64 6))), (1, 1, (.t 90))]),sl 126 2 [91],ap 126 2 24 89 92,A 5 (m 93)]),(22,94,[m 5,m 10,f 1 3,L,m 9,X 15,ls 15 99,c 70 [100],c 69 [94,95,101],A 5 (m 102)]),(23,13,[mi 0]),(24,103,[m 13,f 2 3,L,N,b .lss 103 106]),(25,108,[m 13,B .add 1,A 13 (m 109)]),(26,110,[m 13,c 68 [110],o (.bin .add (.v (.str [114, 111, 117, 116, 105, 110, 103, 32])) (.t 111)),A 14 (m 112),A 15 (mv (.bool false))]),(27,16,[mi 0]),(28,113,[m 16,m 13,b .lss 113 114]),(29,116,[m 16,B .add 1,A 16 (m 117)]),(30,118,[m 15,m 118,G,f 2 3,L,m 16,X 3,F 0,L,f 2 3,L,m 13,X 3,F 0,L,b .eql 125 131,P,A 15 (m 133)]),(31,134,[m 15]),(32,135,[m 5,m 14,o (.build X.z5 [(0, 1, (.v (.int .i64 6))), (1, 1, (.t 136))]),sl 126 2 [137],ap 126 2 24 135 138,A 5 (m 139)]),(33,140,[m 5,m 14,f 2 3,L,m 13,X 3,ls 3 145,c 71 [146],c 69 [140,141,147],A 5 (m 148)]),(34,149,[m 5,A 4 (m 149)])] := .mk Tryz.func28
def Rs : List AO := dq [m 5,m 7,m 8,X 1,L,m 6,c 68 [51],o (.bin .add (.v (.str [102, 97, 114, 101, 32])) (.t 52)),o (.build X.z5 [(0, 1, (.t 50)), (1, 1, (.t 53))]),sl 126 2 [54],ap 126 2 24 46 55,A 5 (m 56)] 46 none
theorem Am2 : TR Tryz.f28 150 11 = some Rs := by kernel_rfl
def XM : List (List Nat) := [[], [], [], [1, 2], [1, 2, 3], [], [5], [5, 6], [1, 2, 3, 4, 5, 6, 7], [1, 2, 3, 4, 5, 6, 7, 8], [0, 1, 2, 3, 4, 5, 6, 7, 8, 9], [0, 1, 2, 3, 4, 5, 6, 7, 8, 9, 10]]
theorem Ail : Cx (ro Tryz.f28 11) Rs XM = true := by kernel_rfl
theorem SU : FI 29 Tryz.f29 78 (.h 0 (.h 1 (.s (.h 2 (.w 0 3 10 1 (.j 5 (.s (.i 6 22 (.g 7) .n) (.s (.i 8 35 (.g 9) .n) (.j 10 (.c 71 (.g 11) .n))))) 4)) (.e 12)))) [.t 2] [(0,2,[mv .nils]),(1,3,[mv .nils]),(2,4,[mi 0]),(3,7,[m 4,m 0,N,b .lss 7 9]),(4,11,[m 4,B .add 1,A 4 (m 12)]),(6,20,[ls 7 5,c 72 [20],nt 21]),(7,23,[m 3,m 6,o (.build X.z5 [(0, 1, (.v (.int .i64 5))), (1, 1, (.t 24))]),sl 126 2 [25],ap 126 2 24 23 26,A 3 (m 27)]),(8,28,[f 1 5,L,B .lss 1,m 30,G,f 1 5,L,B .gtr 4,P]),(9,36,[m 3,m 6,o (.build X.z5 [(0, 1, (.v (.int .i64 8))), (1, 1, (.t 37))]),sl 126 2 [38],ap 126 2 24 36 39,A 3 (m 40)]),(10,41,[f 3 5,L,B .lss 0,m 43,G,f 3 5,L,f 1 5,L,c 73 [48],b .gtr 46 49,P,m 51,G,f 4 5,L,B .lss 0,P,m 56,G,f 4 5,L,B .gtr 2,P,m 61,G,f 5 5,L,B .lss 0,P,m 66,G,f 5 5,L,B .gtr 100000,P]),(11,72,[m 3,m 6,o (.build X.z5 [(0, 1, (.v (.int .i64 2))), (1, 1, (.t 73))]),sl 126 2 [74],ap 126 2 24 72 75,A 3 (m 76)]),(12,77,[m 3,A 2 (m 77)])] := .mk Tryz.func29
def Rt : List AO := dq [m 0,m 4,X 7,ls 7 15,m 4,c 68 [17],o (.bin .add (.v (.str [116, 97, 120, 32])) (.t 18)),A 5 (o (.alloc 143 X.z6)),st 7 5 16,A 6 (m 19)] 13 none
theorem Am3 : TR Tryz.f29 78 5 = some Rt := by kernel_rfl
def XN : List (List Nat) := [[], [], [0, 1], [0, 1, 2], [], [4], [4, 5], [], [0, 1, 2, 3, 4, 5, 7], [0, 1, 2, 3, 4, 5, 6, 7, 8]]
theorem Aim : Cx (ro Tryz.f29 5) Rt XN = true := by kernel_rfl
theorem Aac : FI 33 Tryz.f33 45 (.h 0 (.h 1 (.s (.h 2 (.b 0 (.l (.h 3 (.s (.c 13 .n (.x 0)) (.s (.b 1 (.h 4 (.q 5 38 6 (.g 7)))) (.g 8))))))) (.e 9)))) [.t 6] [(0,3,[bx 31 0,A 6 (mv (.bool false))]),(1,7,[mi 0]),(2,10,[m 1,N,mi 0]),(3,13,[b .lss 12 11]),(4,14,[ix 4 10 12,ls 4 14,A 9 (o (.alloc 94 X.z1)),st 4 9 15]),(5,16,[f 0 9,L,m 7,b .neq 17 18,m 19,G,f 1 9,L,m 7,b .leq 22 23,P,m 25,G,f 2 9,L,B .lss 0,P,m 30,G,f 2 9,L,f 0 3,L,N,b .geq 33 36,P]),(6,6,[mv (.bool false)]),(7,39,[f 1 9,L,A 7 (m 40)]),(8,41,[bi .add 12 1,A 12 (m 41)]),(9,42,[m 7,m 2,b .eql 42 43,A 6 (m 44)])] := .mk Tryz.func33
theorem Aad : FI 34 Tryz.f34 13 (.h 0 (.h 1 (.e 2))) [.t 2] [(0,2,[mv (.bool false)]),(1,7,[m 0,c 78 [7],A 6 (m 8),e 0 6,e 1 6,e 2 6,A 3 (m 9),A 4 (m 10),A 5 (m 11)]),(2,12,[m 5,A 2 (m 12)])] := .mk Tryz.func34
theorem Aae : FI 35 Tryz.f35 9 (.h 0 (.e 1)) [.t 2] [(0,2,[mv (.bool false)]),(1,3,[m 0,B .geq 0,m 4,H,m 0,B .lss 36525,Q,A 2 (m 8)])] := .mk Tryz.func35
theorem SV : FI 36 Tryz.f36 50 (.h 0 (.q 1 19 2 (.h 3 (.h 4 (.s (.h 5 (.b 0 (.l (.h 6 (.s (.c 27 .n (.x 0)) (.s (.b 1 (.h 7 (.j 8 (.q 9 43 10 (.g 11))))) (.g 12))))))) (.e 13)))))) [.t 6, .t 7] [(0,5,[A 3 (bx 25 0),bx 37 2,mv .nils,mi 0]),(1,14,[f 0 5,L,m 1,N,c 79 [15,17],nt 18]),(2,6,[mv .nils,mi 2]),(3,20,[ls 2 3,m 1,c 80 [20,21],A 8 (m 22)]),(4,9,[mv .nils]),(5,23,[f 0 5,L,N,mi 0]),(6,27,[b .lss 26 25]),(7,28,[ix 4 24 26,ls 4 28,A 11 (o (.alloc 94 X.z1)),st 4 11 29]),(8,31,[f 3 11,L,m 8,f 0 11,L,f 1 11,L,o (.sub 1 (some (.t 35)) (some (.t 37)) none (.t 33)),c 81 [32,38],A 30 (m 39),e 0 30,e 1 30,A 12 (m 40),A 13 (m 41)]),(9,42,[m 13,B .neq 0]),(10,6,[A 44 (m 13),mv .nils,m 44]),(11,45,[m 9,m 12,ap 3 1 8 45 46,A 9 (m 47)]),(12,48,[bi .add 26 1,A 26 (m 48)]),(13,6,[A 49 (m 9),m 49,mi 0])] := .mk Tryz.func36
theorem Mt : FI 37 Tryz.f37 8 (.h 0 (.q 1 4 2 (.e 3))) [.t 2] [(0,2,[mv .nils]),(1,3,[m 0,o (.binn .eql (.t 3) (.v .nils))]),(2,2,[mv .nils]),(3,5,[sl 92 2 [],m 0,ap 92 2 24 5 6,A 2 (m 7)])] := .mk Tryz.func37
theorem Aaf : FI 38 Tryz.f38 33 (.h 0 (.q 1 20 2 (.q 3 26 4 (.s (.h 5 (.i 6 31 (.e 7) .n)) (.e 8))))) [.t 4, .t 5] [(0,4,[mi 0,mi 0]),(1,7,[m 0,B .lss 1,m 8,G,m 0,B .gtr 8,P,m 12,G,m 1,B .lss 1,P,m 16,G,m 1,B .gtr 10,P]),(2,4,[mi 0,mi 8]),(3,21,[m 0,B .eql 2,m 22,H,m 1,B .geq 8,Q]),(4,4,[mi 0,mi 28]),(5,27,[m 0,m 1,c 82 [27,28],A 6 (m 29)]),(6,30,[m 6,B .neq 0]),(7,4,[A 32 (m 6),m 32,mi 0]),(8,4,[mi 0,mi 27])] := .mk Tryz.func38
theorem Aag : FI 39 Tryz.f39 8 (.h 0 (.q 1 4 2 (.e 3))) [.t 2] [(0,2,[mv .nils]),(1,3,[m 0,o (.binn .eql (.t 3) (.v .nils))]),(3,5,[sl 57 11 [],m 0,ap 57 11 128 5 6,A 2 (m 7)])] := .mk Tryz.func39
end Go.Proofs.YtjkclhbckfkeeaaGreatDoor
namespace Go.Proofs.YtjkclhbckfkeeaaGreatDoor
open Go Go.RowKit X
theorem Aah : FI 43 Tryz.f43 65 (.h 0 (.h 1 (.s (.h 2 (.w 0 3 14 1 (.h 5 (.h 6 (.w 2 7 23 3 (.d 9) 8))) 4)) (.s (.h 10 (.w 4 11 41 5 (.h 13 (.h 14 (.w 6 15 50 7 (.d 17) 16))) 12)) (.e 18))))) [.t 2] [(0,1,[bx 25 0,mv .nils]),(1,3,[mv .nils]),(2,4,[mi 0]),(3,10,[m 4,f 0 1,L,N,b .lss 10 13]),(4,15,[m 4,B .add 1,A 4 (m 16)]),(5,17,[ls 2 1,m 4,c 89 [17,18],A 5 (m 19)]),(6,6,[mi 0]),(7,20,[m 6,m 5,N,b .lss 20 22]),(8,24,[m 6,B .add 1,A 6 (m 25)]),(10,7,[mi 0]),(11,37,[m 7,f 1 1,L,N,b .lss 37 40]),(12,42,[m 7,B .add 1,A 7 (m 43)]),(13,44,[ls 2 1,m 7,c 90 [44,45],A 8 (m 46)]),(14,9,[mi 0]),(15,47,[m 9,m 8,N,b .lss 47 49]),(16,51,[m 9,B .add 1,A 9 (m 52)]),(18,64,[m 3,A 2 (m 64)])] := .mk Tryz.func43
def Rv : List AO := dq [m 3,m 5,m 6,X 1,L,m 4,c 68 [31],o (.bin .add (.v (.str [97, 105, 114, 112, 111, 114, 116, 32])) (.t 32)),o (.build X.z5 [(0, 1, (.t 30)), (1, 1, (.t 33))]),sl 126 2 [34],ap 126 2 24 26 35,A 3 (m 36)] 26 none
theorem Am5 : TR Tryz.f43 65 9 = some Rv := by kernel_rfl
def Ru : List AO := dq [m 3,m 8,m 9,X 1,L,m 7,c 68 [58],o (.bin .add (.v (.str [100, 105, 115, 116, 97, 110, 99, 101, 32])) (.t 59)),o (.build X.z5 [(0, 1, (.t 57)), (1, 1, (.t 60))]),sl 126 2 [61],ap 126 2 24 53 62,A 3 (m 63)] 53 none
theorem Am4 : TR Tryz.f43 65 17 = some Ru := by kernel_rfl
def XP : List (List Nat) := [[], [], [], [1, 2], [1, 2, 3], [], [5], [5, 6], [1, 2, 3, 4, 5, 6, 7], [1, 2, 3, 4, 5, 6, 7, 8], [0, 1, 2, 3, 4, 5, 6, 7, 8, 9], [0, 1, 2, 3, 4, 5, 6, 7, 8, 9, 10]]
theorem Aio : Cx (ro Tryz.f43 9) Rv XP = true := by kernel_rfl
def XO : List (List Nat) := [[], [], [], [1, 2], [1, 2, 3], [], [5], [5, 6], [1, 2, 3, 4, 5, 6, 7], [1, 2, 3, 4, 5, 6, 7, 8], [0, 1, 2, 3, 4, 5, 6, 7, 8, 9], [0, 1, 2, 3, 4, 5, 6, 7, 8, 9, 10]]
theorem Ain : Cx (ro Tryz.f43 17) Ru XO = true := by kernel_rfl
theorem Aai : FI 44 Tryz.f44 52 (.h 0 (.s (.b 0 (.i 1 10 (.e 2) (.i 3 16 (.e 4) .n))) (.h 5 (.s (.h 6 (.b 1 (.l (.h 7 (.s (.c 30 .n (.x 1)) (.s (.b 2 (.h 8 (.h 9 (.q 10 41 11 (.g 12))))) (.g 13))))))) (.e 14))))) [.c (some 10) 4, .t 5] [(0,4,[A 2 (bx 47 0),o (.alloc 47 X.z0),mi 0]),(1,11,[f 5 2,L,N,B .eql 0,A 10 (m 14)]),(2,15,[o (.build X.z0 []),st 10 4 15,A 5 (mi 2)]),(3,17,[m 1,f 9 2,L,b .neq 17 19,A 16 (m 20)]),(4,21,[o (.build X.z0 []),st 10 4 21,A 5 (mi 26)]),(5,22,[f 5 2,L,c 39 [23],f 5 2,st 1 25 24]),(6,26,[f 5 2,L,N,mi 0]),(7,30,[b .lss 29 28]),(8,31,[m 29,ix 11 27 29,ls 11 32,A 7 (o (.alloc 57 X.z2)),A 6 (m 31),st 11 7 33]),(9,35,[f 9 7,L,o (.call 38 [(.t 36), (.v (.int .i64 10))]),A 34 (m 37),e 0 34,e 1 34,A 8 (m 38),A 9 (m 39)]),(10,40,[m 9,B .neq 0]),(11,42,[o (.build X.z0 []),m 9,st 10 4 42,A 5 (m 43)]),(12,44,[f 5 2,L,m 6,m 8,ix 11 45 46,F 9,st 1 49 47]),(13,50,[bi .add 29 1,A 29 (m 50)]),(14,51,[ls 10 2,st 10 4 51,A 5 (mi 0)])] := .mk Tryz.func44
theorem Aaj : FI 47 Tryz.f47 46 (.h 0 (.h 1 (.s (.h 2 (.w 0 3 10 1 (.q 5 37 6 (.g 7)) 4)) (.e 8)))) [.t 4] [(0,4,[mv (.bool false)]),(1,5,[mi 0]),(2,6,[mi 0]),(3,7,[m 6,m 0,N,b .lss 7 9]),(4,11,[m 6,B .add 1,A 6 (m 12)]),(5,13,[m 0,m 6,X 4,F 0,L,m 5,b .neq 17 18,m 19,G,m 0,m 6,X 4,F 1,L,m 5,b .leq 25 26,P,m 28,G,m 0,m 6,X 4,F 1,L,m 1,b .gtr 34 35,P]),(6,4,[mv (.bool false)]),(7,38,[m 0,m 6,X 4,F 1,L,A 5 (m 42)]),(8,43,[m 5,m 1,b .eql 43 44,A 4 (m 45)])] := .mk Tryz.func47
theorem SW : FI 48 Tryz.f48 136 (.h 0 (.q 1 35 2 (.h 3 (.h 4 (.h 5 (.s (.h 6 (.w 0 7 47 1 (.s (.j 9 (.c 58 (.e 10) .n)) (.d 11)) 8)) (.s (.j 12 (.c 86 (.e 13) .n)) (.q 14 88 15 (.h 16 (.j 17 (.q 18 104 19 (.h 20 (.q 21 121 22 (.s (.i 23 125 (.d 24) .n) (.e 25))))))))))))))) [.t 12] [(0,6,[bx 25 0,bx 31 1,A 12 (mi 0)]),(1,22,[m 3,N,B .eql 0,m 24,G,m 2,B .lss 0,P,m 28,G,m 2,f 0 7,L,N,b .geq 30 33,P]),(2,12,[mi 2]),(3,36,[f 0 7,L,m 2,X 9,ls 9 39,A 13 (o (.alloc 96 X.z7)),st 9 13 40]),(4,41,[ls 2 6,m 3,c 94 [41,42],A 14 (m 43)]),(5,15,[mv (.bool true)]),(6,16,[mi 0]),(7,44,[m 16,m 3,N,b .lss 44 46]),(8,48,[m 16,B .add 1,A 16 (m 49)]),(9,50,[m 3,m 16,X 8,F 0,F 0,L,f 0 13,L,b .neq 55 57]),(10,12,[mi 19]),(11,59,[m 15,m 59,H,m 3,m 16,X 8,F 7,L,f 4 13,L,b .eql 65 67,Q,A 15 (m 69)]),(12,70,[m 14,o (.idx 1 (.t 70) (.v (.int .i64 0))),L,f 1 13,L,b .neq 72 74,m 75,G,m 14,m 14,N,B .sub 1,ix 1 77 80,L,f 2 13,L,b .neq 82 84,P]),(13,12,[mi 19]),(14,87,[m 15,nt 87]),(15,12,[mi 16]),(16,90,[ls 4 7,f 7 13,L,c 95 [90,92],A 89 (m 93),e 0 89,e 1 89,A 17 (o (.alloc 135 X.z8)),st 15 17 94,A 18 (m 95)]),(17,96,[ls 15 17,ls 2 6,m 3,m 4,m 5,c 97 [97,98,99,100],c 96 [96,101],A 19 (m 102)]),(18,103,[m 19,B .neq 0]),(19,105,[m 19,A 12 (m 105)]),(20,107,[ls 4 7,f 8 13,L,c 98 [107,109],A 106 (m 110),e 0 106,e 1 106,A 20 (o (.alloc 140 X.z9)),st 3 20 111,A 21 (m 112)]),(21,113,[f 8 13,L,B .neq 0,m 115,H,ls 3 20,m 14,c 99 [117,118],nt 119,Q]),(22,12,[mi 21]),(23,122,[ls 4 7,ls 9 13,c 100 [122,123],B .gtr 0]),(24,127,[ls 2 6,m 14,ls 4 7,ls 9 13,c 100 [129,130],c 101 [127,128,131],A 126 (m 132),e 0 126,e 1 126,A 19 (m 134)]),(25,135,[m 19,A 12 (m 135)])] := .mk Tryz.func48
theorem SX : FI 49 Tryz.f49 81 (.h 0 (.q 1 33 2 (.h 3 (.h 4 (.s (.i 5 42 (.j 6 (.q 7 55 8 (.g 9))) .n) (.h 10 (.q 11 66 12 (.h 13 (.e 14))))))))) [.t 10, .t 11] [(0,10,[A 5 (bx 25 0),A 6 (bx 31 1),mi 0,mi 0]),(1,20,[m 3,N,B .eql 0,m 22,G,m 2,B .lss 0,P,m 26,G,m 2,f 0 6,L,N,b .geq 28 31,P]),(2,10,[mi 0,mi 2]),(3,34,[f 0 6,L,m 2,X 9,ls 9 37,A 12 (o (.alloc 96 X.z7)),st 9 12 38]),(4,13,[mi 0]),(5,39,[ls 4 6,ls 9 12,c 100 [39,40],B .gtr 0]),(6,44,[ls 2 5,ls 2 5,m 3,c 94 [45,46],ls 4 6,ls 9 12,c 100 [48,49],c 101 [44,47,50],A 43 (m 51),e 0 43,e 1 43,A 14 (m 52),A 15 (m 53)]),(7,54,[m 15,B .neq 0]),(8,10,[A 56 (m 15),mi 0,m 56]),(9,57,[m 14,A 13 (m 57)]),(10,59,[f 6 12,L,m 13,c 102 [60,61],A 58 (m 62),e 0 58,e 1 58,A 16 (m 63),A 17 (m 64)]),(11,65,[m 17,B .neq 0]),(12,10,[A 67 (m 17),mi 0,m 67]),(13,69,[ls 4 6,f 7 12,L,c 95 [69,71],A 68 (m 72),e 0 68,e 1 68,A 18 (o (.alloc 135 X.z8)),st 15 18 73,A 19 (m 74)]),(14,75,[ls 15 18,m 4,m 16,c 103 [75,76,77],e 0 78,e 1 78,A 10 (m 79),A 11 (m 80)])] := .mk Tryz.func49
theorem Aak : FI 50 Tryz.f50 36 (.h 0 (.q 1 15 2 (.s (.h 3 (.i 4 23 (.e 5) .n)) (.s (.h 6 (.i 7 29 (.e 8) .n)) (.e 9))))) [.t 8] [(0,4,[bx 25 0,bx 31 1,A 8 (mi 0)]),(1,12,[m 2,m 3,c 104 [12,13],nt 14]),(2,8,[mi 2]),(3,17,[ls 4 5,m 3,c 52 [17,18],A 16 (m 19),e 0 16,e 1 16,A 9 (m 20),A 10 (m 21)]),(4,22,[m 10,B .neq 0]),(5,24,[m 10,A 8 (m 24)]),(6,25,[ls 4 5,m 3,c 105 [25,26],A 11 (m 27)]),(7,28,[m 11,B .neq 0]),(8,30,[m 11,A 8 (m 30)]),(9,31,[ls 2 4,ls 4 5,m 2,m 3,c 106 [31,32,33,34],A 8 (m 35)])] := .mk Tryz.func50
theorem SY : FI 51 Tryz.f51 94 (.h 0 (.h 1 (.s (.h 2 (.w 0 3 22 1 (.j 5 (.i 6 44 (.e 7) .n)) 4)) (.j 8 (.q 9 59 10 (.h 11 (.h 12 (.s (.h 13 (.w 2 14 69 3 (.j 16 (.i 17 91 (.e 18) .n)) 15)) (.e 19))))))))) [.c (some 5) 10, .t 11] [(0,10,[A 5 (bx 25 0),A 6 (bx 31 1),o (.alloc 37 X.z3),mv (.bool false)]),(1,17,[m 4,o (.build X.z3 [(0, 1, (.t 17))]),A 12 (o (.alloc 37 X.z3)),st 5 12 18]),(2,13,[mi 0]),(3,19,[m 13,m 4,N,b .lss 19 21]),(4,23,[m 13,B .add 1,A 13 (m 24)]),(6,34,[m 4,m 13,X 4,F 3,L,B .gtr 1099511627776,m 39,G,f 3 12,L,B .gtr 1099511627776,P]),(7,45,[o (.build X.z3 []),st 5 10 45,A 11 (mv (.bool false))]),(8,47,[ls 2 5,f 3 6,L,m 2,c 108 [50],m 3,f 3 12,L,c 107 [47,49,51,52,54],A 46 (m 55),e 0 46,e 1 46,A 14 (m 56),A 15 (m 57)]),(9,58,[m 15,B .neq 0]),(10,60,[o (.build X.z3 []),st 5 10 60,A 11 (mv (.bool false))]),(11,61,[m 14,f 2 12,st 1 62 61]),(12,63,[f 3 12,L,f 4 12,st 1 65 64]),(13,16,[mi 0]),(14,66,[m 16,m 14,N,b .lss 66 68]),(15,70,[m 16,B .add 1,A 16 (m 71)]),(17,81,[m 14,m 16,X 2,F 1,L,B .gtr 1099511627776,m 86,G,f 4 12,L,B .gtr 1099511627776,P]),(18,92,[o (.build X.z3 []),st 5 10 92,A 11 (mv (.bool false))]),(19,93,[ls 5 12,st 5 10 93,A 11 (mv (.bool true))])] := .mk Tryz.func51
def Rx : List AO := dq [f 3 12,L,m 4,m 13,X 4,F 3,L,b .add 26 31,f 3 12,st 1 33 32] 25 none
theorem Am7 : TR Tryz.f51 94 5 = some Rx := by kernel_rfl
def Rw : List AO := dq [f 4 12,L,m 14,m 16,X 2,F 1,L,b .add 73 78,f 4 12,st 1 80 79] 72 none
theorem Am6 : TR Tryz.f51 94 16 = some Rw := by kernel_rfl
def XR : List (List Nat) := [[], [0], [], [], [2, 3], [2, 3, 4], [2, 3, 4, 5], [0, 1, 2, 3, 4, 5, 6], [0, 1, 2, 3, 4, 5, 6, 7], [0, 1, 2, 3, 4, 5, 6, 7, 8]]
theorem Aiq : Cx (ro Tryz.f51 5) Rx XR = true := by kernel_rfl
def XQ : List (List Nat) := [[], [0], [], [], [2, 3], [2, 3, 4], [2, 3, 4, 5], [0, 1, 2, 3, 4, 5, 6], [0, 1, 2, 3, 4, 5, 6, 7], [0, 1, 2, 3, 4, 5, 6, 7, 8]]
theorem Aip : Cx (ro Tryz.f51 16) Rw XQ = true := by kernel_rfl
theorem SZ : FI 52 Tryz.f52 49 (.h 0 (.q 1 12 2 (.h 3 (.s (.h 4 (.w 0 5 16 1 (.s (.j 7 (.c 34 (.x 1) .n)) (.h 8 (.q 9 41 10 (.g 11)))) 6)) (.e 12))))) [.t 4, .t 5] [(0,4,[A 2 (bx 31 0),mv .nils,mi 0]),(1,9,[ls 4 2,m 1,c 109 [9,10],nt 11]),(2,4,[mv .nils,mi 19]),(3,6,[mv .nils]),(4,7,[mi 0]),(5,13,[m 7,m 1,N,b .lss 13 15]),(6,17,[m 7,B .add 1,A 7 (m 18)]),(7,19,[f 0 2,L,m 1,m 7,X 4,F 2,L,ix 9 20 25,F 5,L,nt 28,m 29,G,m 6,m 7,c 110 [31,32],P]),(8,35,[ls 4 2,m 1,m 6,m 7,c 111 [35,36,37,38],A 8 (m 39)]),(9,40,[m 8,B .lss 0]),(10,4,[mv .nils,mi 23]),(11,42,[m 6,m 7,m 8,o (.build X.z10 [(0, 1, (.t 43)), (1, 1, (.t 44))]),sl 181 2 [45],ap 181 2 16 42 46,A 6 (m 47)]),(12,4,[A 48 (m 6),m 48,mi 0])] := .mk Tryz.func52
theorem Ta : FI 53 Tryz.f53 101 (.h 0 (.q 1 46 2 (.s (.h 3 (.w 0 4 51 1 (.j 6 (.c 64 (.e 7) .n)) 5)) (.s (.h 8 (.w 2 9 69 3 (.j 11 (.c 82 (.e 12) .n)) 10)) (.s (.h 13 (.w 4 14 87 5 (.j 16 (.c 100 (.e 17) .n)) 15)) (.e 18)))))) [.t 4] [(0,2,[bx 37 0,bx 37 1,mv (.bool false)]),(1,8,[f 0 2,L,N,f 0 3,L,N,b .neq 10 13,m 14,G,f 1 2,L,N,f 1 3,L,N,b .neq 18 21,P,m 23,G,f 2 2,L,N,f 2 3,L,N,b .neq 27 30,P,m 32,G,f 3 2,L,f 3 3,L,b .neq 35 37,P,m 39,G,f 4 2,L,f 4 3,L,b .neq 42 44,P]),(2,4,[mv (.bool false)]),(3,5,[mi 0]),(4,47,[m 5,f 0 2,L,N,b .lss 47 50]),(5,52,[m 5,B .add 1,A 5 (m 53)]),(6,54,[f 0 2,L,m 5,X 4,ls 4 57,f 0 3,L,m 5,X 4,ls 4 62,o (.bina [.i .i64, .i .i64, .i .i64, .i .i64] .neq (.t 58) (.t 63))]),(7,4,[mv (.bool false)]),(8,6,[mi 0]),(9,65,[m 6,f 1 2,L,N,b .lss 65 68]),(10,70,[m 6,B .add 1,A 6 (m 71)]),(11,72,[f 1 2,L,m 6,X 2,ls 2 75,f 1 3,L,m 6,X 2,ls 2 80,o (.bina [.i .i64, .i .i64] .neq (.t 76) (.t 81))]),(12,4,[mv (.bool false)]),(13,7,[mi 0]),(14,83,[m 7,f 2 2,L,N,b .lss 83 86]),(15,88,[m 7,B .add 1,A 7 (m 89)]),(16,90,[f 2 2,L,m 7,X 2,ls 2 93,f 2 3,L,m 7,X 2,ls 2 98,o (.bina [.s, .i .i64] .neq (.t 94) (.t 99))]),(17,4,[mv (.bool false)]),(18,4,[mv (.bool true)])] := .mk Tryz.func53
theorem Aal : FI 54 Tryz.f54 21 (.h 0 (.s (.h 1 (.w 0 2 9 1 (.i 4 16 (.e 5) .n) 3)) (.e 6))) [.t 4] [(0,4,[mv (.bool false)]),(1,5,[mi 0]),(2,6,[m 5,m 0,o (.slen (.t 7)),b .lss 6 8]),(3,10,[m 5,B .add 1,A 5 (m 11)]),(4,12,[m 0,m 5,o (.sidx (.t 12) (.t 13)),c 57 [14],nt 15]),(5,4,[mv (.bool false)]),(6,17,[m 0,o (.slen (.t 17)),m 1,b .eql 18 19,A 4 (m 20)])] := .mk Tryz.func54
theorem Aam : FI 55 Tryz.f55 30 (.h 0 (.q 1 20 2 (.h 3 (.e 4)))) [.t 4, .t 5] [(0,4,[mi 0,mi 0]),(1,7,[m 0,B .lss 1,m 8,G,m 0,B .gtr 999,P,m 12,G,m 1,B .lss 0,P,m 16,G,m 1,B .geq 10000000000,P]),(2,4,[mi 0,mi 2]),(3,21,[m 0,B .mul 10000000000,m 1,b .add 22 23,A 6 (m 24)]),(4,25,[m 6,o (.bin .mul (.v (.int .i64 10)) (.t 25)),m 6,B .rem 7,b .add 26 28,A 4 (m 29),A 5 (mi 0)])] := .mk Tryz.func55
theorem Aan : FI 56 Tryz.f56 39 (.h 0 (.h 1 (.s (.h 2 (.w 0 3 15 1 (.q 5 22 6 (.g 7)) 4)) (.h 8 (.q 9 37 10 (.e 11)))))) [.t 2, .t 3] [(0,2,[mi 0,mi 0]),(1,4,[mi 0]),(2,5,[mi 0]),(3,8,[m 5,m 0,o (.slen (.t 9)),b .lss 8 10,m 11,H,m 5,B .lss 5,Q]),(4,16,[m 5,B .add 1,A 5 (m 17)]),(5,18,[m 0,m 5,o (.sidx (.t 18) (.t 19)),c 112 [20],B .lss 0]),(6,2,[mi 0,mi 3]),(7,23,[m 4,o (.bin .mul (.v (.int .i64 32)) (.t 23)),m 0,m 5,o (.sidx (.t 25) (.t 26)),c 112 [27],b .add 24 28,A 4 (m 29)]),(8,31,[m 4,c 113 [31],A 30 (m 32),e 0 30,e 1 30,A 6 (m 33),A 7 (m 34)]),(9,35,[m 6,m 0,b .neq 35 36]),(10,2,[mi 0,mi 3]),(11,2,[A 38 (m 4),m 38,mi 0])] := .mk Tryz.func56
theorem Aao : FI 57 Tryz.f57 9 (.h 0 (.e 1)) [.t 2] [(0,2,[mv (.bool false)]),(1,3,[m 0,o (.bin .geq (.t 3) (.v (.int .u8 65))),m 4,H,m 0,o (.bin .leq (.t 6) (.v (.int .u8 90))),Q,A 2 (m 8)])] := .mk Tryz.func57
theorem Aap : FI 58 Tryz.f58 9 (.h 0 (.e 1)) [.t 2] [(0,2,[mv (.bool false)]),(1,3,[m 0,o (.bin .geq (.t 3) (.v (.int .u8 48))),m 4,H,m 0,o (.bin .leq (.t 6) (.v (.int .u8 57))),Q,A 2 (m 8)])] := .mk Tryz.func58
theorem Aaq : FI 59 Tryz.f59 23 (.h 0 (.s (.i 1 9 (.g 2) .n) (.e 3))) [.t 8] [(0,8,[mv (.bool false)]),(1,9,[m 1]),(2,10,[m 0,m 0,o (.nchk (.t 11)),F 0,L,m 2,m 3,o (.build X.z5 [(0, 1, (.t 15)), (1, 1, (.t 16))]),sl 126 2 [17],ap 126 2 24 14 18,o (.nchk (.t 10)),F 0,st 1 21 19]),(3,22,[m 1,A 8 (m 22)])] := .mk Tryz.func59
theorem Aar : FI 60 Tryz.f60 12 (.h 0 (.h 1 (.e 2))) [.t 2] [(0,2,[mv (.bool false)]),(1,6,[m 0,c 114 [6],A 5 (m 7),e 0 5,e 1 5,A 3 (m 8),A 4 (m 9)]),(2,10,[m 4,B .eql 0,A 2 (m 11)])] := .mk Tryz.func60
theorem Aas : FI 61 Tryz.f61 23 (.h 0 (.q 1 7 2 (.s (.h 3 (.b 0 (.l (.h 4 (.s (.c 12 .n (.x 0)) (.s (.b 1 (.h 5 (.i 6 21 (.e 7) .n))) (.g 8))))))) (.e 9)))) [.t 2] [(0,2,[mv (.bool false)]),(1,5,[m 0,o (.slen (.t 5)),B .gtr 30]),(2,2,[mv (.bool false)]),(3,8,[m 0,o (.call 115 [(.t 8), (.v (.str [32]))]),N,mi 0]),(4,12,[b .lss 11 10]),(5,13,[ix 1 9 11,L,A 4 (m 14)]),(6,15,[m 4,o (.bin .eql (.t 15) (.v (.str []))),m 16,G,m 4,o (.call 116 [(.t 18), (.v (.fn 117 []))]),nt 19,P]),(7,2,[mv (.bool false)]),(8,22,[bi .add 11 1,A 11 (m 22)]),(9,2,[mv (.bool true)])] := .mk Tryz.func61
theorem Aat : FI 62 Tryz.f62 21 (.h 0 (.e 1)) [.t 6] [(0,6,[mv (.bool false)]),(1,7,[m 0,o (.slen (.t 7)),m 1,b .geq 8 9,m 10,H,m 0,o (.slen (.t 12)),m 2,b .leq 13 14,Q,m 16,H,m 0,o (.call 116 [(.t 18), (.v (.fn 118 []))]),Q,A 6 (m 20)])] := .mk Tryz.func62
theorem Aau : FI 63 Tryz.f63 65 (.h 0 (.h 1 (.h 2 (.s (.h 3 (.b 0 (.l (.h 4 (.s (.c 25 .n (.x 0)) (.s (.b 1 (.h 5 (.h 6 (.h 7 (.h 8 (.s (.i 9 57 (.h 10 (.x 1)) .n) (.g 11))))))) (.g 12))))))) (.e 13))))) [.t 4, .t 5] [(0,4,[mi 0,mv (.bool false)]),(1,11,[m 0,m 1,N,B .lss 1,m 14,G,m 1,N,B .gtr 6,P,o (.call 59 [(.t 11), (.t 19), (.v (.int .i64 4)), (.v (.str [99, 111, 117, 112, 111, 110, 115]))])]),(2,6,[mi 0,mv (.bool true)]),(3,21,[m 1,c 120 [21],N,mi 0]),(4,25,[b .lss 24 23]),(5,26,[m 24,ix 11 22 24,ls 11 27,A 9 (o (.alloc 57 X.z2)),A 8 (m 26),st 11 9 28]),(6,29,[m 8,c 66 [29],o (.bin .add (.v (.str [99, 111, 117, 112, 111, 110, 115, 46])) (.t 30)),A 10 (m 31)]),(7,32,[m 0,f 9 9,L,B .lss 1,m 35,G,f 9 9,L,B .gtr 8,P,m 10,o (.call 59 [(.t 32), (.t 40), (.v (.int .i64 8)), (.t 41)])]),(8,43,[m 0,f 0 9,F 7,L,c 121 [46],nt 47,m 10,o (.call 59 [(.t 43), (.t 48), (.v (.int .i64 16)), (.t 49)])]),(9,51,[m 0,f 10 9,L,c 64 [53],nt 54,m 10,o (.call 59 [(.t 51), (.t 55), (.v (.int .i64 11)), (.t 56)])]),(10,7,[mv (.bool false)]),(11,58,[m 6,f 10 9,L,b .add 58 60,A 6 (m 61)]),(12,62,[bi .add 24 1,A 24 (m 62)]),(13,63,[m 6,m 7,A 4 (m 63),A 5 (m 64)])] := .mk Tryz.func63
theorem Aav : FI 64 Tryz.f64 9 (.h 0 (.e 1)) [.t 2] [(0,2,[mv (.bool false)]),(1,3,[m 0,B .geq 0,m 4,H,m 0,B .leq 1099511627776,Q,A 2 (m 8)])] := .mk Tryz.func64
theorem Aaw : FI 65 Tryz.f65 8 (.h 0 (.e 1)) [.t 2] [(0,2,[mv .nils]),(1,3,[m 0,m 0,N,o (.mn (.t 5) (.v (.int .i64 1024))),o (.sub 2 none (some (.t 6)) none (.t 3)),A 2 (m 7)])] := .mk Tryz.func65
theorem Aax : FI 67 Tryz.f67 93 (.h 0 (.h 1 (.s (.i 2 19 (.g 3) .n) (.s (.i 4 34 (.g 5) .n) (.s (.i 6 52 (.g 7) .n) (.s (.i 8 59 (.g 9) .n) (.h 10 (.s (.i 11 71 (.g 12) .n) (.h 13 (.s (.i 14 88 (.g 15) .n) (.e 16))))))))))) [.t 6] [(0,3,[bx 25 0,bx 31 1,bx 96 2,mv .nils]),(1,7,[mv .nils]),(2,10,[f 0 5,L,c 123 [11],nt 12,m 13,G,f 3 5,L,o (.call 23 [(.t 16), (.v (.int .i64 1)), (.v (.int .i64 8))]),nt 17,P]),(3,20,[m 7,o (.slc 48 1 false [(.v (.int .i64 5))]),ap 48 1 8 20 21,A 7 (m 22)]),(4,23,[ls 2 3,f 1 5,L,c 124 [23,25],nt 26,m 27,G,ls 2 3,f 2 5,L,c 124 [29,31],nt 32,P]),(5,35,[m 7,o (.slc 48 1 false [(.v (.int .i64 14))]),ap 48 1 8 35 36,A 7 (m 37)]),(6,38,[f 1 5,L,f 2 5,L,b .eql 39 41,m 42,G,f 6 5,L,B .lss 0,P,m 47,G,f 6 5,L,B .gtr 1099511627776,P]),(7,53,[m 7,o (.slc 48 1 false [(.v (.int .i64 2))]),ap 48 1 8 53 54,A 7 (m 55)]),(8,56,[f 4 5,L,c 19 [57],nt 58]),(9,60,[m 7,o (.slc 48 1 false [(.v (.int .i64 16))]),ap 48 1 8 60 61,A 7 (m 62)]),(10,64,[ls 4 4,f 7 5,L,c 95 [64,66],A 63 (m 67),e 0 63,e 1 63,A 8 (o (.alloc 135 X.z8)),st 15 8 68,A 9 (m 69)]),(11,70,[m 9,nt 70]),(12,72,[m 7,o (.slc 48 1 false [(.v (.int .i64 20))]),ap 48 1 8 72 73,A 7 (m 74)]),(13,76,[ls 4 4,f 8 5,L,c 98 [76,78],A 75 (m 79),e 0 75,e 1 75,A 9 (m 81)]),(14,82,[f 8 5,L,B .neq 0,m 84,H,m 9,nt 86,Q]),(15,89,[m 7,o (.slc 48 1 false [(.v (.int .i64 21))]),ap 48 1 8 89 90,A 7 (m 91)]),(16,92,[m 7,A 6 (m 92)])] := .mk Tryz.func67
theorem Aay : FI 68 Tryz.f68 15 (.h 0 (.q 1 4 2 (.e 3))) [.t 2] [(0,2,[mv (.str [])]),(1,3,[m 0,B .lss 0]),(2,5,[m 0,B .add 1,o (.un .neg (.t 6)),o (.conv .u64 (.t 7)),o (.bin .add (.t 8) (.v (.int .u64 1))),c 125 [9],o (.bin .add (.v (.str [45])) (.t 10)),A 2 (m 11)]),(3,12,[m 0,o (.conv .u64 (.t 12)),c 125 [13],A 2 (m 14)])] := .mk Tryz.func68
theorem Aaz : FI 69 Tryz.f69 32 (.h 0 (.s (.h 1 (.w 0 2 11 1 (.d 4) 3)) (.e 5))) [.t 6] [(0,6,[mv .nils]),(1,7,[mi 0]),(2,8,[m 7,m 2,N,b .lss 8 10]),(3,12,[m 7,B .add 1,A 7 (m 13)]),(5,31,[m 0,A 6 (m 31)])] := .mk Tryz.func69
def Ry : List AO := dq [m 0,m 2,m 7,X 2,F 0,L,m 1,o (.bin .add (.t 20) (.v (.str [32]))),m 2,m 7,X 2,F 1,L,b .add 21 26,o (.build X.z5 [(0, 1, (.t 19)), (1, 1, (.t 27))]),sl 126 2 [28],ap 126 2 24 14 29,A 0 (m 30)] 14 none
theorem Am8 : TR Tryz.f69 32 4 = some Ry := by kernel_rfl
def XS : List (List Nat) := [[], [], [], [1, 2], [1, 2, 3], [1, 2, 3, 4], [], [6], [], [], [8, 9], [8, 9, 10], [8, 9, 10, 11], [6, 7, 8, 9, 10, 11, 12], [1, 2, 3, 4, 5, 6, 7, 8, 9, 10, 11, 12, 13], [1, 2, 3, 4, 5, 6, 7, 8, 9, 10, 11, 12, 13, 14], [0, 1, 2, 3, 4, 5, 6, 7, 8, 9, 10, 11, 12, 13, 14, 15], [0, 1, 2, 3, 4, 5, 6, 7, 8, 9, 10, 11, 12, 13, 14, 15, 16]]
theorem Air : Cx (ro Tryz.f69 4) Ry XS = true := by kernel_rfl
theorem AaA : FI 70 Tryz.f70 95 (.h 0 (.h 1 (.s (.i 2 12 (.g 3) .n) (.h 4 (.s (.i 5 21 (.g 6) .n) (.h 7 (.s (.i 8 49 (.g 9) .n) (.s (.i 10 63 (.g 11) .n) (.s (.i 12 85 (.g 13) .n) (.e 14)))))))))) [.t 2] [(0,1,[bx 135 0,mv .nils]),(1,3,[mv .nils]),(2,5,[f 0 1,L,B .lss 1,m 7,G,f 0 1,L,B .gtr 9999,P]),(3,13,[m 3,o (.build X.z5 [(0, 1, (.v (.int .i64 2))), (1, 1, (.v (.str [110, 117, 109, 98, 101, 114])))]),sl 126 2 [14],ap 126 2 24 13 15,A 3 (m 16)]),(4,17,[f 1 1,ls 8 17,c 126 [18],A 4 (m 19)]),(5,20,[m 4,B .neq 0]),(6,22,[m 3,m 4,o (.build X.z5 [(0, 1, (.t 23)), (1, 1, (.v (.str [119, 104, 101, 110])))]),sl 126 2 [24],ap 126 2 24 22 25,A 3 (m 26)]),(7,27,[m 3,f 9 1,L,c 127 [29],ap 126 2 24 27 30,A 3 (m 31)]),(8,32,[f 10 1,L,B .lss 0,m 34,G,f 10 1,L,B .gtr 400,P,m 39,G,f 11 1,L,B .lss 0,P,m 44,G,f 11 1,L,B .gtr 400,P]),(9,50,[m 3,o (.build X.z5 [(0, 1, (.v (.int .i64 2))), (1, 1, (.v (.str [115, 116, 97, 121])))]),sl 126 2 [51],ap 126 2 24 50 52,A 3 (m 53)]),(10,54,[f 11 1,L,B .gtr 0,m 56,H,f 11 1,L,f 10 1,L,b .lss 59 61,Q]),(11,64,[m 3,o (.build X.z5 [(0, 1, (.v (.int .i64 24))), (1, 1, (.v (.str [115, 116, 97, 121])))]),sl 126 2 [65],ap 126 2 24 64 66,A 3 (m 67)]),(12,68,[f 12 1,L,B .lss (-1),m 70,G,f 12 1,L,B .gtr 1099511627776,P,m 75,G,f 13 1,L,B .lss (-1),P,m 80,G,f 13 1,L,B .gtr 1099511627776,P]),(13,86,[m 3,o (.build X.z5 [(0, 1, (.v (.int .i64 2))), (1, 1, (.v (.str [102, 101, 101, 115])))]),sl 126 2 [87],ap 126 2 24 86 88,A 3 (m 89)]),(14,90,[m 3,f 14 1,L,c 128 [92],ap 126 2 24 90 93,A 2 (m 94)])] := .mk Tryz.func70
def VD : List AO := dq [f 12 1,L,B .lss (-1),m 70,G,f 12 1,L,B .gtr 1099511627776,P,m 75,G,f 13 1,L,B .lss (-1),P,m 80,G,f 13 1,L,B .gtr 1099511627776,P] 68 none
theorem Am9 : TR Tryz.f70 95 12 = some VD := by kernel_rfl
theorem Tb : FI 71 Tryz.f71 101 (.h 0 (.h 1 (.s (.i 2 14 (.g 3) .n) (.s (.i 4 22 (.g 5) .n) (.s (.h 6 (.w 0 7 37 1 (.h 9 (.h 10 (.s (.i 11 57 (.g 12) .n) (.s (.i 13 67 (.g 14) .n) (.j 15 (.c 82 (.g 16) .n)))))) 8)) (.s (.i 17 95 (.g 18) .n) (.e 19))))))) [.t 2] [(0,1,[bx 140 0,mv .nils]),(1,3,[mv .nils]),(2,7,[f 0 1,L,B .lss 1,m 9,G,f 0 1,L,B .gtr 9999,P]),(3,15,[m 3,o (.build X.z5 [(0, 1, (.v (.int .i64 2))), (1, 1, (.v (.str [110, 117, 109, 98, 101, 114])))]),sl 126 2 [16],ap 126 2 24 15 17,A 3 (m 18)]),(4,19,[f 1 1,L,N,B .gtr 128]),(5,23,[m 3,o (.build X.z5 [(0, 1, (.v (.int .i64 4))), (1, 1, (.v (.str [108, 105, 110, 107, 115])))]),sl 126 2 [24],ap 126 2 24 23 25,A 3 (m 26)]),(6,4,[mi 0]),(7,27,[m 4,f 1 1,L,N,b .lss 27 30,m 31,H,f 1 1,L,N,B .leq 128,Q]),(8,38,[m 4,B .add 1,A 4 (m 39)]),(9,40,[f 1 1,L,m 4,X 2,ls 2 43,A 5 (o (.alloc 194 X.z11)),st 2 5 44]),(10,45,[m 4,c 68 [45],o (.bin .add (.v (.str [108, 105, 110, 107, 32])) (.t 46)),A 6 (m 47)]),(11,48,[f 0 5,L,c 129 [49],nt 50,m 51,G,f 1 5,L,c 129 [54],nt 55,P]),(12,58,[m 3,m 6,o (.build X.z5 [(0, 1, (.v (.int .i64 5))), (1, 1, (.t 59))]),sl 126 2 [60],ap 126 2 24 58 61,A 3 (m 62)]),(13,63,[f 0 5,L,f 1 5,L,b .eql 64 66]),(14,68,[m 3,m 6,o (.build X.z5 [(0, 1, (.v (.int .i64 2))), (1, 1, (.t 69))]),sl 126 2 [70],ap 126 2 24 68 71,A 3 (m 72)]),(15,73,[f 1 1,L,m 4,o (.sub 2 none (some (.t 75)) none (.t 74)),f 0 5,L,f 1 5,L,c 130 [76,78,80],B .geq 0]),(16,83,[m 3,m 6,o (.build X.z5 [(0, 1, (.v (.int .i64 6))), (1, 1, (.t 84))]),sl 126 2 [85],ap 126 2 24 83 86,A 3 (m 87)]),(17,88,[f 2 1,L,B .lss 0,m 90,G,f 2 1,L,B .gtr 99999,P]),(18,96,[m 3,o (.build X.z5 [(0, 1, (.v (.int .i64 2))), (1, 1, (.v (.str [109, 105, 108, 101, 115])))]),sl 126 2 [97],ap 126 2 24 96 98,A 3 (m 99)]),(19,100,[m 3,A 2 (m 100)])] := .mk Tryz.func71
theorem AaB : FI 72 Tryz.f72 28 (.h 0 (.q 1 13 2 (.s (.h 3 (.w 0 4 18 1 (.i 6 27 (.e 7) .n) 5)) (.e 8)))) [.t 2] [(0,1,[bx 143 0,mv (.bool false)]),(1,4,[f 0 1,L,o (.call 23 [(.t 5), (.v (.int .i64 2)), (.v (.int .i64 2))]),nt 6,m 7,G,f 2 1,L,c 131 [10],nt 11,P]),(2,2,[mv (.bool false)]),(3,3,[mi 0]),(4,14,[m 3,f 6 1,L,N,b .lss 14 17]),(5,19,[m 3,B .add 1,A 3 (m 20)]),(6,21,[f 6 1,L,m 3,X 1,L,o (.call 23 [(.t 25), (.v (.int .i64 3)), (.v (.int .i64 3))]),nt 26]),(7,2,[mv (.bool false)]),(8,2,[mv (.bool true)])] := .mk Tryz.func72
theorem AaC : FI 73 Tryz.f73 5 (.h 0 (.q 1 4 2 (.e 3))) [.t 2] [(0,2,[mi 0]),(1,3,[m 0,B .eql 4]),(2,2,[mi 100000]),(3,2,[mi 1099511627776])] := .mk Tryz.func73
theorem AaD : FI 78 Tryz.f78 30 (.h 0 (.h 1 (.h 2 (.q 3 27 4 (.e 5))))) [.t 2, .t 3, .t 4] [(0,2,[mi 0,mi 0,mv (.bool false)]),(1,9,[m 0,B .quo 10,B .quo 10000000000,m 0,B .quo 10,B .rem 10000000000,A 5 (m 11),A 6 (m 14)]),(2,16,[m 5,m 6,c 137 [16,17],A 15 (m 18),e 0 15,e 1 15,A 7 (m 19),A 8 (m 20)]),(3,21,[m 8,B .neq 0,m 22,G,m 7,m 0,b .neq 24 25,P]),(4,2,[mi 0,mi 0,mv (.bool false)]),(5,2,[A 28 (m 5),A 29 (m 6),m 28,m 29,mv (.bool true)])] := .mk Tryz.func78
theorem AaE : FI 79 Tryz.f79 36 (.h 0 (.h 1 (.s (.h 2 (.b 0 (.l (.h 3 (.s (.c 11 .n (.x 0)) (.s (.b 1 (.h 4 (.q 5 29 6 (.g 7)))) (.g 8))))))) (.e 9)))) [.t 4] [(0,4,[mv (.bool false)]),(1,5,[mi 0]),(2,8,[m 0,N,mi 0]),(3,11,[b .lss 10 9]),(4,12,[ix 4 8 10,ls 4 12,A 7 (o (.alloc 94 X.z1)),st 4 7 13]),(5,14,[f 0 7,L,m 5,b .neq 15 16,m 17,G,f 1 7,L,m 5,b .leq 20 21,P,m 23,G,f 1 7,L,m 1,b .gtr 26 27,P]),(6,4,[mv (.bool false)]),(7,30,[f 1 7,L,A 5 (m 31)]),(8,32,[bi .add 10 1,A 10 (m 32)]),(9,33,[m 5,m 1,b .eql 33 34,A 4 (m 35)])] := .mk Tryz.func79
theorem AaF : FI 80 Tryz.f80 42 (.h 0 (.h 1 (.s (.h 2 (.b 0 (.l (.h 3 (.s (.c 16 .n (.x 0)) (.s (.b 1 (.h 4 (.h 5 (.s (.i 6 35 (.g 7) .n) (.g 8))))) (.g 9))))))) (.e 10)))) [.t 4] [(0,2,[bx 25 0,A 4 (mv .nils)]),(1,10,[m 1,N,o (.mks 3 1 8 X.z12 (.v (.int .i64 0)) (.t 11)),A 5 (m 12)]),(2,13,[m 1,N,mi 0]),(3,16,[b .lss 15 14]),(4,17,[ix 8 13 15,ls 8 17,A 7 (o (.alloc 55 X.z13)),st 8 7 18]),(5,20,[ls 2 2,f 0 7,F 3,L,f 0 7,F 4,L,c 138 [20,23,26],A 19 (m 27),e 0 19,e 1 19,A 8 (m 28),A 9 (m 29)]),(6,30,[m 9,B .neq 0,m 31,G,m 8,B .eql 0,P]),(7,8,[mi 1]),(8,36,[m 5,m 8,sl 3 1 [37],ap 3 1 8 36 38,A 5 (m 39)]),(9,40,[bi .add 15 1,A 15 (m 40)]),(10,41,[m 5,A 4 (m 41)])] := .mk Tryz.func80
theorem AaG : FI 81 Tryz.f81 107 (.h 0 (.h 1 (.q 2 28 3 (.q 4 36 5 (.h 6 (.s (.i 7 41 (.g 8) .n) (.j 9 (.h 10 (.s (.h 11 (.b 0 (.l (.h 12 (.s (.c 52 .n (.x 0)) (.s (.b 1 (.h 13 (.h 14 (.h 15 (.g 16))))) (.g 17))))))) (.h 18 (.s (.h 19 (.b 2 (.l (.h 20 (.s (.c 83 .n (.x 2)) (.s (.b 3 (.h 21 (.g 22))) (.g 23))))))) (.h 24 (.s (.h 25 (.b 4 (.l (.h 26 (.s (.c 97 .n (.x 4)) (.s (.b 5 (.h 27 (.i 28 101 (.g 29) .n))) (.g 30))))))) (.e 31)))))))))))))) [.t 4, .t 5] [(0,4,[mv .nils,mi 0]),(1,23,[m 1,c 139 [23],A 22 (m 24),e 0 22,e 1 22,A 6 (m 25),A 7 (m 26)]),(2,27,[m 7,B .neq 0]),(3,4,[A 29 (m 7),mv .nils,m 29]),(4,30,[m 0,c 140 [30],nt 31,m 32,G,m 6,B .gtr 1099511627776,P]),(5,4,[mv .nils,mi 11]),(6,37,[m 0,c 141 [37],o (.conv .i64 (.t 38)),A 8 (o (.alloc 3 X.z12)),A 9 (o (.alloc 3 X.z12)),st 1 8 39,z (.store 1 (.t 9) (.v (.int .i64 1)))]),(7,40,[m 0,B .lss 0]),(8,0,[z (.store 1 (.t 9) (.v (.int .i64 (-1))))]),(10,48,[o (.mkfn 142 [(.t 10), (.t 9), (.t 8)]),A 12 (m 48)]),(11,49,[m 1,N,mi 0]),(12,52,[b .lss 51 50]),(13,53,[m 51,ix 1 49 51,L,A 13 (m 53),A 14 (m 55)]),(14,57,[m 0,c 141 [57],m 14,o (.conv .u64 (.t 59)),m 6,o (.conv .u64 (.t 61)),c 143 [58,60,62],A 56 (m 63),e 0 56,e 1 56,e 2 56,A 15 (m 64),A 16 (m 65),A 17 (m 66)]),(15,67,[l 11,m 13,m 16,ix 1 67 68,st 1 70 69]),(16,71,[m 12,m 13,m 15,o (.conv .i64 (.t 73)),o (.callv (.t 71) [(.t 72), (.t 74)])]),(17,76,[bi .add 51 1,A 51 (m 76)]),(18,77,[m 1,N,o (.mks 3 1 8 X.z12 (.t 78) (.t 78)),A 18 (o (.alloc 42 [.nils])),st 1 18 79]),(19,80,[l 18,N,mi 0]),(20,83,[b .lss 82 81]),(21,84,[m 82,A 19 (m 84)]),(22,85,[l 18,m 19,m 19,ix 1 85 86,st 1 88 87]),(23,89,[bi .add 82 1,A 82 (m 89)]),(24,90,[l 18,o (.mki 42 (.t 90)),o (.mkfn 145 [(.t 11), (.t 18)]),c 144 [91,92]]),(25,94,[l 18,N,mi 0]),(26,97,[b .lss 96 95]),(27,98,[ix 1 94 96,L,A 21 (m 99)]),(28,100,[l 8,B .gtr 0]),(29,102,[m 12,m 21,o (.callv (.t 102) [(.t 103), (.v (.int .i64 1))])]),(30,105,[bi .add 96 1,A 96 (m 105)]),(31,4,[A 106 (l 10),m 106,mi 0])] := .mk Tryz.func81
def Rz : List AO := dq [m 1,N,o (.mks 3 1 8 X.z12 (.t 43) (.t 43)),m 1,N,o (.mks 189 1 8 X.z14 (.t 46) (.t 46)),A 10 (o (.alloc 42 [.nils])),A 11 (o (.alloc 204 [.nils])),st 1 10 44,st 1 11 47] 42 none
theorem Ana : TR Tryz.f81 107 9 = some Rz := by kernel_rfl
def XT : List (List Nat) := [[], [0], [0, 1], [], [3], [3, 4], [], [], [0, 1, 2, 6, 7], [0, 1, 2, 3, 4, 5, 6, 7, 8]]
theorem Ais : Cx (ro Tryz.f81 9) Rz XT = true := by kernel_rfl
theorem AaH : FI 82 Tryz.f82 38 (.h 0 (.s (.h 1 (.b 0 (.i 2 8 (.e 3) (.s (.i 4 11 .n (.i 5 11 .n (.g 6))) (.c 11 (.e 7) (.i 8 18 (.e 9) (.i 10 21 (.e 11) (.i 12 24 (.e 13) (.s (.i 14 27 .n (.g 15)) (.c 27 (.e 16) (.i 17 32 (.e 18) (.i 19 35 (.e 20) .n)))))))))))) (.e 21))) [.t 4] [(0,4,[mi 0]),(1,5,[m 0,m 1,o (.build X.z10 [(0, 1, (.t 5)), (1, 1, (.t 6))])]),(2,9,[o (.build X.z10 [(0, 1, (.v (.int .i64 1))), (1, 1, (.v (.int .i64 1)))]),o (.bina [.i .i64, .i .i64] .eql (.t 7) (.t 9)),A 8 (m 10)]),(4,12,[o (.build X.z10 [(0, 1, (.v (.int .i64 1))), (1, 1, (.v (.int .i64 3)))]),o (.bina [.i .i64, .i .i64] .eql (.t 7) (.t 12)),A 11 (m 13)]),(5,14,[o (.build X.z10 [(0, 1, (.v (.int .i64 2))), (1, 1, (.v (.int .i64 3)))]),o (.bina [.i .i64, .i .i64] .eql (.t 7) (.t 14)),A 11 (m 15)]),(6,16,[o (.build X.z10 [(0, 1, (.v (.int .i64 4))), (1, 1, (.v (.int .i64 6)))]),o (.bina [.i .i64, .i .i64] .eql (.t 7) (.t 16)),A 11 (m 17)]),(8,19,[o (.build X.z10 [(0, 1, (.v (.int .i64 1))), (1, 1, (.v (.int .i64 8)))]),o (.bina [.i .i64, .i .i64] .eql (.t 7) (.t 19)),A 18 (m 20)]),(10,22,[o (.build X.z10 [(0, 1, (.v (.int .i64 1))), (1, 1, (.v (.int .i64 9)))]),o (.bina [.i .i64, .i .i64] .eql (.t 7) (.t 22)),A 21 (m 23)]),(12,25,[o (.build X.z10 [(0, 1, (.v (.int .i64 1))), (1, 1, (.v (.int .i64 10)))]),o (.bina [.i .i64, .i .i64] .eql (.t 7) (.t 25)),A 24 (m 26)]),(13,4,[mi 8]),(14,28,[o (.build X.z10 [(0, 1, (.v (.int .i64 2))), (1, 1, (.v (.int .i64 2)))]),o (.bina [.i .i64, .i .i64] .eql (.t 7) (.t 28)),A 27 (m 29)]),(15,30,[o (.build X.z10 [(0, 1, (.v (.int .i64 3))), (1, 1, (.v (.int .i64 4)))]),o (.bina [.i .i64, .i .i64] .eql (.t 7) (.t 30)),A 27 (m 31)]),(17,33,[o (.build X.z10 [(0, 1, (.v (.int .i64 3))), (1, 1, (.v (.int .i64 5)))]),o (.bina [.i .i64, .i .i64] .eql (.t 7) (.t 33)),A 32 (m 34)]),(19,36,[o (.build X.z10 [(0, 1, (.v (.int .i64 4))), (1, 1, (.v (.int .i64 7)))]),o (.bina [.i .i64, .i .i64] .eql (.t 7) (.t 36)),A 35 (m 37)]),(21,4,[mi 0])] := .mk Tryz.func82
theorem Tc : FI 89 Tryz.f89 93 (.h 0 (.h 1 (.h 2 (.s (.i 3 31 (.g 4) .n) (.h 5 (.s (.h 6 (.w 0 7 37 1 (.j 9 (.d 10)) 8)) (.s (.i 11 75 (.g 12) .n) (.s (.i 13 79 (.g 14) .n) (.h 15 (.s (.i 16 87 (.g 17) .n) (.e 18))))))))))) [.t 4] [(0,2,[bx 25 0,A 4 (mv .nils)]),(1,5,[mv .nils]),(2,11,[f 0 2,L,m 1,X 5,ls 5 14,A 6 (o (.alloc 212 X.z15)),st 5 6 15]),(3,16,[f 0 6,L,c 129 [17],nt 18,m 19,G,f 1 6,L,c 129 [22],nt 23,P,m 25,G,f 2 6,L,c 131 [28],nt 29,P]),(4,32,[m 5,o (.slc 48 1 false [(.v (.int .i64 5))]),ap 48 1 8 32 33,A 5 (m 34)]),(5,7,[mv (.bool false),mv (.bool false)]),(6,9,[mi 0]),(7,35,[m 9,m 1,b .lss 35 36]),(8,38,[m 9,B .add 1,A 9 (m 39)]),(9,40,[m 7,m 40,G,f 0 2,L,m 9,X 5,F 0,L,f 0 6,L,b .eql 47 49,P,A 7 (m 51)]),(10,52,[m 8,m 52,G,f 0 2,L,m 9,X 5,F 1,L,f 1 6,L,b .eql 59 61,m 62,H,f 0 2,L,m 9,X 5,F 2,L,f 2 6,L,b .neq 69 71,Gn 53,pf 63 72,P,A 8 (m 74)]),(11,75,[m 7]),(12,76,[m 5,o (.slc 48 1 false [(.v (.int .i64 6))]),ap 48 1 8 76 77,A 5 (m 78)]),(13,79,[m 8]),(14,80,[m 5,o (.slc 48 1 false [(.v (.int .i64 8))]),ap 48 1 8 80 81,A 5 (m 82)]),(15,83,[f 3 6,ls 2 83,c 149 [84],A 10 (m 85)]),(16,86,[m 10,B .neq 0]),(17,88,[m 5,m 10,sl 48 1 [89],ap 48 1 8 88 90,A 5 (m 91)]),(18,92,[m 5,A 4 (m 92)])] := .mk Tryz.func89
end Go.Proofs.YtjkclhbckfkeeaaGreatDoor
