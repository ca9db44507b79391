import Derived.Test.YtjkclhbckfkeeaaGreatDoorAv22
import Derived.LoopN
import Derived.Test.YtjkclhbckfkeeaaGreatDoorProg
set_option linter.unusedSimpArgs false
set_option linter.unusedVariables false
set_option linter.deprecated false
noncomputable section
namespace Go.Proofs.YtjkclhbckfkeeaaGreatDoor
open Go Go.RowKit
def TC (P : Program) (U : Tbl) (N : Nat) (c : Code) (Q : Exit → St → Prop) (s : St) : Prop :=
 ∃ e s', Q e s' ∧ ∀ (C : Ctx U), C.N = N → ∀ Q' : Exit → St → Prop, Q' e s' → AW P C c Q' s
section
variable {P : Program} {U : Tbl} {N : Nat} {Q : Exit → St → Prop} {s : St}
theorem TC.le {c : Code} {s' : St} (hl : Le s s') (h : TC P U N c Q s') : TC P U N c Q s :=
 let ⟨e, t, h1, k⟩ := h; ⟨e, t, h1, fun C hC Q' hq => (k C hC Q' hq).le hl⟩
theorem AG (h : Q .normal s) : TC P U N .skip Q s := ⟨_, s, h, fun _ _ _ hq => Ac hq⟩
theorem CJ {id : Nat} (h : Q (.exit id) s) : TC P U N (.exit id) Q s := ⟨_, s, h, fun _ _ _ hq => Ai hq⟩
theorem DR (h : Q .ret s) : TC P U N .ret Q s := ⟨_, s, h, fun _ _ _ hq => Ae hq⟩
theorem Ag {x y : Code} (h : TC P U N x (LH (TC P U N y Q) Q) s) : TC P U N (.seq x y) Q s := by
 obtain ⟨e, t, h1, k1⟩ := h
 cases e with
 | normal =>
  obtain ⟨e2, t2, h2, k2⟩ := h1
  exact ⟨e2, t2, h2, fun C hC Q' hq => Aa (k1 C hC _ (k2 C hC Q' hq))⟩
 | exit id => exact ⟨_, t, h1, fun C hC Q' hq => Aa (k1 C hC _ hq)⟩
 | goto l => exact ⟨_, t, h1, fun C hC Q' hq => Aa (k1 C hC _ hq)⟩
 | ret => exact ⟨_, t, h1, fun C hC Q' hq => Aa (k1 C hC _ hq)⟩
 | panic ch => exact ⟨_, t, h1, fun C hC Q' hq => Aa (k1 C hC _ hq)⟩
 | outgrown => exact ⟨_, t, h1, fun C hC Q' hq => Aa (k1 C hC _ hq)⟩
theorem TC.mono {c : Code} {Q' : Exit → St → Prop} (h : TC P U N c Q s) (hq : ∀ e s, Q e s → Q' e s) : TC P U N c Q' s :=
 let ⟨e, t, h1, k⟩ := h; ⟨e, t, hq _ _ h1, k⟩
theorem CW {x y : Code} {α : Type} (I : α → Prop) (st : α → St) (h : ∀ K : St → Prop, (∀ g s', I g → Le s' (st g) → K s') → TC P U N x (LH K Q) s) (h2 : ∀ g, I g → TC P U N y Q (st g)) : TC P U N (.seq x y) Q s :=
 Ag ((h (fun s' => ∃ g, I g ∧ Le s' (st g)) fun g s' h1 h2 => ⟨g, h1, h2⟩).mono fun e s' hq => by
  cases e with
  | normal =>
   obtain ⟨g, hg, hl⟩ := hq
   exact (h2 g hg).le hl
  | exit id => exact hq
  | goto l => exact hq
  | ret => exact hq
  | panic ch => exact hq
  | outgrown => exact hq)
theorem AN {id : Nat} {c : Code} (h : TC P U N c (HS id Q) s) : TC P U N (.block id c) Q s := by
 obtain ⟨e, t, h1, k⟩ := h
 cases e with
 | exit id' =>
  simp only [HS] at h1
  by_cases e : id' = id
  ·rw [if_pos e] at h1
   exact ⟨_, t, h1, fun C hC Q' hq => Ad (k C hC _ (by simp only [HS]; rw [if_pos e]; exact hq))⟩
  rw [if_neg e] at h1
  exact ⟨_, t, h1, fun C hC Q' hq => Ad (k C hC _ (by simp only [HS]; rw [if_neg e]; exact hq))⟩
 | normal => exact ⟨_, t, h1, fun C hC Q' hq => Ad (k C hC _ hq)⟩
 | goto l => exact ⟨_, t, h1, fun C hC Q' hq => Ad (k C hC _ hq)⟩
 | ret => exact ⟨_, t, h1, fun C hC Q' hq => Ad (k C hC _ hq)⟩
 | panic ch => exact ⟨_, t, h1, fun C hC Q' hq => Ad (k C hC _ hq)⟩
 | outgrown => exact ⟨_, t, h1, fun C hC Q' hq => Ad (k C hC _ hq)⟩
theorem AH {t : Nat} {x y : Code} {b : Bool} (hb : s.e t = .bool b) (h1 : b = true → TC P U N x Q s) (h2 : b = false → TC P U N y Q s) : TC P U N (.cond (.tmp t) x y) Q s := by
 cases b with
 | true =>
  obtain ⟨e, t, h, k⟩ := h1 rfl
  exact ⟨e, t, h, fun C hC Q' hq => Ab hb (fun _ => k C hC Q' hq) fun e => by cases e⟩
 | false =>
  obtain ⟨e, t, h, k⟩ := h2 rfl
  exact ⟨e, t, h, fun C hC Q' hq => Ab hb (fun e => by cases e) fun _ => k C hC Q' hq⟩
theorem CI {c : Code} {α : Type} (I : α → Prop) (st : α → St) (μ : α → Nat) (g0 : α) (h0 : I g0) (hl : Le s (st g0))
  (round : ∀ g, I g → ∀ K : St → Prop, (∀ g' s', I g' → μ g' < μ g → Le s' (st g') → K s') → TC P U N c (LH K Q) (st g)) : TC P U N (.loop c) Q s := by
 have key : ∀ m g, μ g ≤ m → I g → ∃ e s' n, Q e s' ∧ ∀ (C : Ctx U), C.N = N → ∀ Q' : Exit → St → Prop, Q' e s' → ∀ a w M ι, Good C (st g) a w M ι → Code.rounds P c (fun e a' w' => ∃ s' M' ι', Q' e s' ∧ Good C s' a' w' M' ι') n a w := by
  intro m
  induction m with
  | zero =>
   intro g hm hi
   obtain ⟨e, s1, h1, k1⟩ := round g hi (fun _ => False) fun g' _ _ h2 _ => absurd h2 (by omega)
   have out : ∀ e, e ≠ .normal → (∀ (C : Ctx U), C.N = N → ∀ Q' : Exit → St → Prop, Q' e s1 → AW P C c Q' (st g)) → ∀ (C : Ctx U), C.N = N → ∀ Q' : Exit → St → Prop, Q' e s1 → ∀ a w M ι, Good C (st g) a w M ι → Code.rounds P c (fun e a' w' => ∃ s' M' ι', Q' e s' ∧ Good C s' a' w' M' ι') 1 a w := fun e he k C hC Q' hq a w M ι hg => by
    rw [rounds_succ]
    refine wp_mono (k C hC (fun e' t => e' = e ∧ t = s1) ⟨rfl, rfl⟩ a w M ι hg) ?_
    rintro e' a' w' ⟨t, M', ι', ⟨rfl, rfl⟩, hg'⟩
    cases e' with
    | normal => exact absurd rfl he
    | exit id => exact ⟨t, M', ι', hq, hg'⟩
    | goto l => exact ⟨t, M', ι', hq, hg'⟩
    | ret => exact ⟨t, M', ι', hq, hg'⟩
    | panic ch => exact ⟨t, M', ι', hq, hg'⟩
    | outgrown => exact ⟨t, M', ι', hq, hg'⟩
   cases e with
   | normal => exact h1.elim
   | exit id => exact ⟨_, s1, 1, h1, out _ (by simp) k1⟩
   | goto l => exact ⟨_, s1, 1, h1, out _ (by simp) k1⟩
   | ret => exact ⟨_, s1, 1, h1, out _ (by simp) k1⟩
   | panic ch => exact ⟨_, s1, 1, h1, out _ (by simp) k1⟩
   | outgrown => exact ⟨_, s1, 1, h1, out _ (by simp) k1⟩
  | succ m ih =>
   intro g hm hi
   obtain ⟨e, s1, h1, k1⟩ := round g hi (fun s' => ∃ g', I g' ∧ μ g' < μ g ∧ Le s' (st g')) fun g' s' a b c => ⟨g', a, b, c⟩
   have out : ∀ e, e ≠ .normal → (∀ (C : Ctx U), C.N = N → ∀ Q' : Exit → St → Prop, Q' e s1 → AW P C c Q' (st g)) → ∀ (C : Ctx U), C.N = N → ∀ Q' : Exit → St → Prop, Q' e s1 → ∀ a w M ι, Good C (st g) a w M ι → Code.rounds P c (fun e a' w' => ∃ s' M' ι', Q' e s' ∧ Good C s' a' w' M' ι') 1 a w := fun e he k C hC Q' hq a w M ι hg => by
    rw [rounds_succ]
    refine wp_mono (k C hC (fun e' t => e' = e ∧ t = s1) ⟨rfl, rfl⟩ a w M ι hg) ?_
    rintro e' a' w' ⟨t, M', ι', ⟨rfl, rfl⟩, hg'⟩
    cases e' with
    | normal => exact absurd rfl he
    | exit id => exact ⟨t, M', ι', hq, hg'⟩
    | goto l => exact ⟨t, M', ι', hq, hg'⟩
    | ret => exact ⟨t, M', ι', hq, hg'⟩
    | panic ch => exact ⟨t, M', ι', hq, hg'⟩
    | outgrown => exact ⟨t, M', ι', hq, hg'⟩
   cases e with
   | normal =>
    obtain ⟨g', hi', hlt, hle⟩ := h1
    obtain ⟨e2, s2, n, h2, k2⟩ := ih g' (by omega) hi'
    refine ⟨e2, s2, n + 1, h2, fun C hC Q' hq a w M ι hg => ?_⟩
    rw [rounds_succ]
    refine wp_mono (k1 C hC (fun e' t => e' = .normal ∧ t = s1) ⟨rfl, rfl⟩ a w M ι hg) ?_
    rintro e' a' w' ⟨t, M', ι', ⟨rfl, rfl⟩, hg'⟩
    obtain ⟨M2, ι2, hg2⟩ := hle U C a' w' M' ι' hg'
    exact k2 C hC Q' hq a' w' M2 ι2 hg2
   | exit id => exact ⟨_, s1, 1, h1, out _ (by simp) k1⟩
   | goto l => exact ⟨_, s1, 1, h1, out _ (by simp) k1⟩
   | ret => exact ⟨_, s1, 1, h1, out _ (by simp) k1⟩
   | panic ch => exact ⟨_, s1, 1, h1, out _ (by simp) k1⟩
   | outgrown => exact ⟨_, s1, 1, h1, out _ (by simp) k1⟩
 obtain ⟨e, s', n, h1, k⟩ := key (μ g0) g0 (Nat.le_refl _) h0
 refine ⟨e, s', h1, fun C hC Q' hq => AW.le hl fun a w M ι hg => wp_loop_rounds n (k C hC Q' hq a w M ι hg)⟩
variable {G : Tab}
theorem FR {EF : Nat → Bool} : ∀ {aos : List AO} {s : St} {K : St → Prop}, Fc P U EF G aos s K → ∃ s', K s' ∧ ∀ K' : St → Prop, K' s' → Fc P U EF G aos s K'
 | [], s, K, h => ⟨s, h, fun _ h => h⟩
 | o :: os, s, K, h => by
  unfold Fc at h
  cases he : Cu EF o s with
  | some p =>
   obtain ⟨f, us⟩ := p
   rw [he] at h
   obtain ⟨L0, L1, vs, hl, v, hl', a1, a2, a3⟩ := h
   obtain ⟨s', b1, b2⟩ := FR a3
   exact ⟨s', b1, fun K' hk => by unfold Fc; rw [he]; exact ⟨L0, L1, vs, hl, v, hl', a1, a2, b2 K' hk⟩⟩
  | none =>
   rw [he] at h
   obtain ⟨s', b1, b2⟩ := FR h.2
   exact ⟨s', b1, fun K' hk => by unfold Fc; rw [he]; exact ⟨h.1, b2 K' hk⟩⟩
theorem Gs {EF : Nat → Bool} {D : List (List Nat)} : ∀ {L : List (Nat × AO)} {past : List Fp} {s : St} {K : St → Prop}, EW P U EF G D L past s K → ∃ s', K s' ∧ ∀ K' : St → Prop, K' s' → EW P U EF G D L past s K'
 | [], _, s, K, h => ⟨s, h, fun _ h => h⟩
 | (i, o) :: os, past, s, K, h => by
  unfold EW at h
  cases he : Cu EF o s with
  | some p =>
   obtain ⟨f, us⟩ := p
   rw [he] at h
   obtain ⟨a0, L0, L1, vs, hl, v, hl', a1, a2, a3⟩ := h
   obtain ⟨s', b1, b2⟩ := Gs a3
   exact ⟨s', b1, fun K' hk => by unfold EW; rw [he]; exact ⟨a0, L0, L1, vs, hl, v, hl', a1, a2, b2 K' hk⟩⟩
  | none =>
   rw [he] at h
   obtain ⟨s', b1, b2⟩ := Gs h.2.2
   exact ⟨s', b1, fun K' hk => by unfold EW; rw [he]; exact ⟨h.1, h.2.1, b2 K' hk⟩⟩
theorem AcJ {id : Nat} {ops : Array Oper} {aos : List AO} {EF : Nat → Bool} (hG : ∀ f, Ao P U f (G f)) (ht : ops.toList.mapM (trO P N ops) = some aos) (h : Fc P U EF G aos s (Q .normal)) : TC P U N (.region id ops false) Q s :=
 let ⟨s', h1, k⟩ := FR h; ⟨_, s', h1, fun C hC Q' hq => Ls hG (by rw [hC]; exact ht) (k _ hq)⟩
theorem Dj {id : Nat} {ops : Array Oper} {aos : List AO} {D : List (List Nat)} {EF : Nat → Bool} (hG : ∀ f, Ao P U f (G f)) (hm : P.follows .mixedOrders = true) (ht : ops.toList.mapM (trO P N ops) = some aos) (hok : Bx ops aos D = true) (h : EW P U EF G D (Mc 0 aos) [] s (Q .normal)) : TC P U N (.region id ops true) Q s :=
 let ⟨s', h1, k⟩ := Gs h; ⟨_, s', h1, fun C hC Q' hq => As hG hm (by rw [hC]; exact ht) hok (k _ hq)⟩
theorem Ao.pick {α β : Type} [Inhabited β] {args : α → List V} {pre : α → Prop} {val : β → V} {R : α → β → Prop} {f : Nat} {fn : Func} {c : Code} {rs : List AR} (inj : ∀ a b, args a = args b → a = b) (hf : P.funcs[f]? = some fn) (hb : fn.body = some c) (hname : (fn.name == "runtime.NumGoroutine") = false) (hr : fn.results.toList.mapM (trR P) = some rs)
  (hw : ∀ a, pre a → (args a).length ≤ fn.ntmps ∧ ∀ Q : Exit → St → Prop, (∀ e s', e = .ret ∨ e = .normal → Mb rs s' → (∃ b, Ho rs s' = val b ∧ R a b) → (Ho rs s').pur = true → Q e s') → TC P U fn.ntmps c Q ⟨PH (args a), fun _ => none⟩) :
  ∃ F : α → β, (∀ a, pre a → R a (F a)) ∧ Ao P U f (gOf args fun a => (pre a, val (F a))) := by
 have each : ∀ a, ∃ b, pre a → R a b ∧ ∀ (C : Ctx U), C.N = fn.ntmps → ∀ Q : Exit → St → Prop, (∀ e s', e = .ret ∨ e = .normal → Mb rs s' → Ho rs s' = val b → (Ho rs s').pur = true → Q e s') → AW P C c Q ⟨PH (args a), fun _ => none⟩ := fun a => by
  by_cases ha : pre a
  ·obtain ⟨e, s', ⟨h1, h2, ⟨b, h3, h4⟩, h5⟩, k⟩ := (hw a ha).2 (fun e s' => (e = .ret ∨ e = .normal) ∧ Mb rs s' ∧ (∃ b, Ho rs s' = val b ∧ R a b) ∧ (Ho rs s').pur = true) fun e s' a b c d => ⟨a, b, c, d⟩
   exact ⟨b, fun _ => ⟨h4, fun C hC Q hQ => k C hC Q (hQ e s' h1 h2 h3 h5)⟩⟩
  ·exact ⟨default, fun h => absurd h ha⟩
 obtain ⟨F, hF⟩ := Classical.skolem.1 each
 exact ⟨F, fun a ha => (hF a ha).1, Ao.ofArgs inj hf hb hname hr fun a ha => ⟨(hw a ha).1, (hF a ha).2⟩⟩
end
def AO.sro (EF : Nat → Bool) (o : AO) : Bool :=
 match o.o with
 | .call f _ => !EF f
 | .callv .. | .store .. | .clr .. | .cpy .. | .app .. | .box .. | .alloc .. | .slc .. | .mkmap | .mks .. | .mkv .. | .mset .. => false
 | _ => true
theorem AO.sro_wr {EF : Nat → Bool} {o : AO} {s : St} (h : o.sro EF = true) : o.wr s = [] := by
 obtain ⟨d, g, op⟩ := o
 unfold AO.wr
 cases g with
 | some g => rfl
 | none => cases op <;> first | rfl | (simp [AO.sro] at h; done)
theorem AO.sro_call {EF : Nat → Bool} {o : AO} {s : St} (h : o.sro EF = true) : Cu EF o s = none := by
 obtain ⟨d, g, op⟩ := o
 unfold Cu
 cases op <;> first | rfl | (simp [AO.sro] at h; done) | (simp only [AO.sro, Bool.not_eq_true'] at h; dsimp only; rw [if_neg (by rw [h]; decide)])
section
variable {P : Program} {U : Tbl} {C : Ctx U} {s : St} {Q : Exit → St → Prop} {G : Tab}
theorem Ou {EF : Nat → Bool} {D : List (List Nat)} : ∀ {L : List (Nat × AO)} {past : List Fp} {s : St} {K : St → Prop}, (∀ p ∈ L, p.2.sro EF = true) → (∀ f ∈ past, f.all = false ∧ f.wr = []) → Fc P U EF G (L.map (·.2)) s K → EW P U EF G D L past s K
 | [], _, _, _, _, _, h => h
 | (i, o) :: L, past, s, K, hL, hp, h => by
  have ho : o.sro EF = true := hL (i, o) (List.mem_cons_self ..)
  have hc := AO.sro_call (s := s) ho
  have hw := AO.sro_wr (s := s) ho
  rw [List.map_cons] at h
  unfold Fc at h
  unfold EW
  dsimp only at h
  rw [hc] at h ⊢
  refine ⟨h.1, ?_, Ou (fun p hq => hL p (List.mem_cons_of_mem _ hq)) (fun f hf => ?_) h.2⟩
  ·refine List.all_eq_true.2 fun f hf => ?_
   obtain ⟨h1, h2⟩ := hp f hf
   have : f.indep (o.fp i s) = true := by
    unfold Fp.indep AO.fp
    rw [h1, h2, hw]
    simp [HT]
   rw [this, Bool.or_true]
  ·rcases List.mem_cons.1 hf with rfl | hf
   ·exact ⟨rfl, hw⟩
   ·exact hp f hf
theorem JH {EF : Nat → Bool} : ∀ (k : Nat) {aos : List AO} {s : St} {K : St → Prop}, Fc P U EF G (aos.take k) s (fun s' => Fc P U EF G (aos.drop k) s' K) → Fc P U EF G aos s K
 | 0, _, _, _, h => h
 | _ + 1, [], _, _, h => h
 | k + 1, o :: os, s, K, h => by
  rw [List.take_succ_cons, List.drop_succ_cons] at h
  unfold Fc at h ⊢
  split
  ·rename_i f us he
   rw [he] at h
   obtain ⟨L0, L1, vs, hl, v, hl', a1, a2, a3⟩ := h
   exact ⟨L0, L1, vs, hl, v, hl', a1, a2, JH k a3⟩
  ·rename_i he
   rw [he] at h
   exact ⟨h.1, JH k h.2⟩
theorem Je : ∀ (l : List AO) (k : Nat), (Mc k l).map (·.2) = l
 | [], _ => rfl
 | o :: l, k => by show o :: (Mc (k + 1) l).map (·.2) = _; rw [Je l (k + 1)]
theorem Tq {EF : Nat → Bool} {D : List (List Nat)} {aos : List AO} {K : St → Prop} (hr : aos.all (AO.sro EF) = true) (h : Fc P U EF G aos s K) : EW P U EF G D (Mc 0 aos) [] s K := by
 refine Ou (fun p hp => List.all_eq_true.1 hr _ ?_) (fun f hf => nomatch hf) (by rw [Je]; exact h)
 have := List.mem_map.2 (⟨p, hp, rfl⟩ : ∃ a, a ∈ Mc 0 aos ∧ a.2 = p.2)
 rwa [Je] at this
theorem PF {id : Nat} {ops : Array Oper} {aos : List AO} {D : List (List Nat)} {EF : Nat → Bool} (hG : ∀ f, Ao P U f (G f)) (hm : P.follows .mixedOrders = true) (ht : ops.toList.mapM (trO P C.N ops) = some aos) (hok : Bx ops aos D = true) (hr : aos.all (AO.sro EF) = true) (h : Fc P U EF G aos s (Q .normal)) :
  AW P C (.region id ops true) Q s := As hG hm ht hok (Tq hr h)
end
def KX : Code → Nat → Option (Array Oper)
 | .region i ops _, k => if i = k then some ops else none
 | .seq a b, k => (KX a k).or (KX b k)
 | .cond _ a b, k => (KX a k).or (KX b k)
 | .block _ c, k => KX c k
 | .loop c, k => KX c k
 | .scope c, k => KX c k
 | _, _ => none
def ro (f : Func) (k : Nat) : Array Oper := ((f.body.bind fun c => KX c k).getD #[])
abbrev TR (f : Func) (n k : Nat) : Option (List AO) := (ro f k).toList.mapM (trO Tryz.prog n (ro f k))
theorem mixed : Tryz.prog.follows .mixedOrders = true := by kernel_rfl
inductive Sk where
 | n
 | r
 | x (k : Nat)
 | g (k : Nat)
 | d (k : Nat)
 | s (a b : Sk)
 | c (t : Nat) (a b : Sk)
 | k (v : Bool) (a b : Sk)
 | b (k : Nat) (a : Sk)
 | l (a : Sk)
 | p (a : Sk)
def co (f : Func) : Sk → Code
 | .n => .skip
 | .r => .ret
 | .x k => .exit k
 | .g k => .region k (ro f k) false
 | .d k => .region k (ro f k) true
 | .s a b => .seq (co f a) (co f b)
 | .c t a b => .cond (.tmp t) (co f a) (co f b)
 | .k v a b => .cond (.const (.bool v)) (co f a) (co f b)
 | .b k a => .block k (co f a)
 | .l a => .loop (co f a)
 | .p a => .scope (co f a)
abbrev RL := List (Nat × List AO)
structure FnI (P : Program) (f : Nat) (fn : Func) (n : Nat) (c : Code) (rs : List AR) (l : RL) : Prop where
 h0 : P.funcs[f]? = some fn
 h : (fn.body, fn.name == "runtime.NumGoroutine", fn.results.toList.mapM (trR P), fn.ntmps, l.map fun p => (ro fn p.1).toList.mapM (trO P n (ro fn p.1))) = (some c, false, some rs, n, l.map fun p => some p.2)
section
variable {P : Program} {U : Tbl} {f n : Nat} {fn : Func} {c : Code} {rs : List AR} {l : RL}
theorem FnI.u (h : FnI P f fn n c rs l) : P.funcs[f]? = some fn ∧ fn.body = some c ∧ (fn.name == "runtime.NumGoroutine") = false ∧ fn.results.toList.mapM (trR P) = some rs ∧ fn.ntmps = n ∧ (l.map fun p => (ro fn p.1).toList.mapM (trO P n (ro fn p.1))) = l.map fun p => some p.2 := by
 have e := h.h
 simp only [Prod.mk.injEq] at e
 exact ⟨h.h0, e⟩
theorem FnI.a (h : FnI P f fn n c rs l) {α : Type} {args : α → List V} {F : α → Prop × V} (inj : ∀ a b, args a = args b → a = b) (hl : ∀ a, (args a).length ≤ n)
  (hw : ∀ a, (F a).1 → ∀ (C : Ctx U), C.N = n → ∀ Q : Exit → St → Prop, (∀ e s', e = .ret ∨ e = .normal → Mb rs s' → Ho rs s' = (F a).2 → (Ho rs s').pur = true → Q e s') → AW P C c Q ⟨PH (args a), fun _ => none⟩) : Ao P U f (gOf args F) := by
 obtain ⟨h0, h1, h2, h3, rfl, _⟩ := h.u
 exact Ao.ofArgs inj h0 h1 h2 h3 fun a ha => ⟨hl a, hw a ha⟩
theorem FnI.q (h : FnI P f fn n c rs l) {g : List V → Prop × V}
  (hw : ∀ vs, (g vs).1 → vs.length ≤ n ∧ ∀ (C : Ctx U), C.N = n → ∀ Q : Exit → St → Prop, (∀ e s', e = .ret ∨ e = .normal → Mb rs s' → Ho rs s' = (g vs).2 → (Ho rs s').pur = true → Q e s') → AW P C c Q ⟨PH vs, fun _ => none⟩) : Ao P U f g := by
 obtain ⟨h0, h1, h2, h3, rfl, _⟩ := h.u
 exact Ao.of_awQ h0 h1 h2 h3 hw
theorem FnI.e (h : FnI P f fn n c rs l) {vs : List V} {hl hl' : List (Nat × Ob)} {v : V} (hn : vs.length ≤ n)
  (haw : ∀ C : Ctx U, C.N = n → ∀ Q : Exit → St → Prop, (∀ e s' s'', e = .ret ∨ e = .normal → Le s' s'' → s''.h = mkH hl' → Mb rs s'' → Ho rs s'' = v → Q e s') → AW P C c Q ⟨PH vs, mkH hl⟩) : Eff P U f vs hl v hl' := by
 obtain ⟨h0, h1, h2, h3, rfl, _⟩ := h.u
 exact Eff.of_aw h0 h1 h2 h3 hn haw
theorem FnI.R (h : FnI P f fn n c rs l) {C : Ctx U} {G : Tab} (EF : Nat → Bool) (hG : ∀ f, Ao P U f (G f)) (hN : C.N = n)
  (k : Nat) {a : List AO} (hk : l.lookup k = some a) {id : Nat} {s : St} {Q : Exit → St → Prop} (hr : Fc P U EF G a s (Q .normal)) : AW P C (.region id (ro fn k) false) Q s := by
 have ht := h.u.2.2.2.2.2
 refine Ls (EF := EF) hG ?_ hr
 rw [hN]
 have key : ∀ l : RL, l.lookup k = some a → (k, a) ∈ l := fun l => by
  induction l with
  | nil => intro h; cases h
  | cons p l ih =>
   intro h
   rw [List.lookup_cons] at h
   split at h
   ·rename_i e
    injection h with h
    subst h
    rw [beq_iff_eq] at e
    subst e
    exact List.mem_cons_self ..
   ·exact List.mem_cons_of_mem _ (ih h)
 exact List.map_inj_left.1 ht _ (key l hk)
theorem FnI.p (h : FnI P f fn n c rs l) {α β : Type} [Inhabited β] {args : α → List V} {pre : α → Prop} {val : β → V} {R : α → β → Prop} (inj : ∀ a b, args a = args b → a = b) (hl : ∀ a, (args a).length ≤ n)
  (hw : ∀ a, pre a → ∀ Q : Exit → St → Prop, (∀ e s', e = .ret ∨ e = .normal → Mb rs s' → (∃ b, Ho rs s' = val b ∧ R a b) → (Ho rs s').pur = true → Q e s') → TC P U n c Q ⟨PH (args a), fun _ => none⟩) :
  ∃ F : α → β, (∀ a, pre a → R a (F a)) ∧ Ao P U f (gOf args fun a => (pre a, val (F a))) := by
 obtain ⟨h0, h1, h2, h3, rfl, _⟩ := h.u
 exact Ao.pick inj h0 h1 h2 h3 fun a ha => ⟨hl a, hw a ha⟩
theorem FnI.T (h : FnI P f fn n c rs l) {G : Tab} (EF : Nat → Bool) (hG : ∀ f, Ao P U f (G f))
  (k : Nat) {a : List AO} (hk : l.lookup k = some a) {id : Nat} {s : St} {Q : Exit → St → Prop} (hr : Fc P U EF G a s (Q .normal)) : TC P U n (.region id (ro fn k) false) Q s :=
 let ⟨s', h1, q⟩ := FR hr; ⟨_, s', h1, fun C hC Q' hq => h.R EF hG hC k hk (q _ hq)⟩
def AlI (ops : Array Oper) : List (List Nat) := (List.range ops.size).foldl (fun D i => D ++ [(SG ops i).flatMap fun j => j :: D.getD j []]) []
theorem FnI.rt (h : FnI P f fn n c rs l) {k : Nat} {a : List AO} (hk : l.lookup k = some a) : (ro fn k).toList.mapM (trO P n (ro fn k)) = some a := by
 have ht := h.u.2.2.2.2.2
 have key : ∀ l : RL, l.lookup k = some a → (k, a) ∈ l := fun l => by
  induction l with
  | nil => intro h; cases h
  | cons p l ih =>
   intro h
   rw [List.lookup_cons] at h
   split at h
   ·rename_i e
    injection h with h
    subst h
    rw [beq_iff_eq] at e
    subst e
    exact List.mem_cons_self ..
   ·exact List.mem_cons_of_mem _ (ih h)
 exact List.map_inj_left.1 ht _ (key l hk)
theorem FnI.D (h : FnI P f fn n c rs l) {C : Ctx U} {G : Tab} (EF : Nat → Bool) (hG : ∀ f, Ao P U f (G f)) (hN : C.N = n) (hm : P.follows .mixedOrders = true)
  (k : Nat) {a : List AO} (hk : l.lookup k = some a) (ho : (Bx (ro fn k) a (AlI (ro fn k)) && a.all (AO.sro EF)) = true) {id : Nat} {s : St} {Q : Exit → St → Prop} (hr : Fc P U EF G a s (Q .normal)) : AW P C (.region id (ro fn k) true) Q s := by
 rw [Bool.and_eq_true] at ho
 exact As hG hm (by rw [hN]; exact h.rt hk) ho.1 (Tq ho.2 hr)
theorem FnI.E (h : FnI P f fn n c rs l) {G : Tab} (EF : Nat → Bool) (hG : ∀ f, Ao P U f (G f)) (hm : P.follows .mixedOrders = true)
  (k : Nat) {a : List AO} (hk : l.lookup k = some a) (ho : (Bx (ro fn k) a (AlI (ro fn k)) && a.all (AO.sro EF)) = true) {id : Nat} {s : St} {Q : Exit → St → Prop} (hr : Fc P U EF G a s (Q .normal)) : TC P U n (.region id (ro fn k) true) Q s := by
 rw [Bool.and_eq_true] at ho
 exact Dj hG hm (h.rt hk) ho.1 (Tq ho.2 hr)
theorem leB {p : Prop} (h : p := by first | exact PT rfl rfl rfl | rfl | exact Ace rfl | exact .nill _ | exact .nilo _ _ _ rfl rfl | exact Cq rfl (by first | rfl | exact List.length_map _) rfl (fun r hr => by obtain ⟨_, _, rfl⟩ := List.mem_map.1 hr; rfl) | exact PS rfl rfl (fun kv hk => by obtain ⟨_, _, rfl⟩ := List.mem_map.1 hk; rfl) | fail) : p := h
theorem leM {s : St} {l : List (Nat × V)} {hl : List (Nat × Ob)} (h1 : ∀ p ∈ l, Wk s.h hl (s.e p.1) p.2 := by (simp only [go_sem, simprocAttr]) <;> and_intros <;> try exact leA) (h2 : ∀ q ∈ hl, Xf s.h hl (s.h q.1) q.2 := by (simp only [go_sem, simprocAttr]) <;> and_intros <;> try exact leA) (h3 : (hl.all fun q => q.1 < 1000 || (s.h q.1).isSome) = true := by rfl) : Le s ⟨mkE l, mkH hl⟩ := Le.mk l hl h1 h2 h3
attribute [go_sem] Mb Ho AR.res
end
namespace X
def ts : List Nat → List AE
 | [] => []
 | a :: l => .t a :: ts l
def G (c : Nat) (x : AO) : AO := ⟨x.d, some (c, false), x.o⟩
def H (c : Nat) (x : AO) : AO := ⟨x.d, some (c, true), x.o⟩
def o (d : Nat) (x : AOp) : AO := ⟨some d, none, x⟩
def n (x : AOp) : AO := ⟨none, none, x⟩
def m (d a : Nat) : AO := ⟨some d, none, .mv (.t a)⟩
def mv (d : Nat) (v : V) : AO := ⟨some d, none, .mv (.v v)⟩
def mi (d : Nat) (z : Int) : AO := ⟨some d, none, .mv (.v (.int .i64 z))⟩
def l (d a : Nat) : AO := ⟨some d, none, .load none (.t a)⟩
def ls (d k a : Nat) : AO := ⟨some d, none, .load (some k) (.t a)⟩
def f (d k a : Nat) : AO := ⟨some d, none, .fld k (.t a)⟩
def ix (d k a b : Nat) : AO := ⟨some d, none, .idx k (.t a) (.t b)⟩
def e (d k a : Nat) : AO := ⟨some d, none, .ext k (.t a)⟩
def ln (d a : Nat) : AO := ⟨some d, none, .len (.t a)⟩
def nt (d a : Nat) : AO := ⟨some d, none, .un .not (.t a)⟩
def pt (d c a : Nat) : AO := ⟨some d, none, .pick (.t c) (.v (.bool true)) (.t a)⟩
def pf (d c a : Nat) : AO := ⟨some d, none, .pick (.t c) (.t a) (.v (.bool false))⟩
def st (k a b : Nat) : AO := ⟨none, none, .store k (.t a) (.t b)⟩
def c (d g : Nat) (z : List Nat) : AO := ⟨some d, none, .call g (ts z)⟩
def b (d : Nat) (p : BinOp) (a a' : Nat) : AO := ⟨some d, none, .bin p (.t a) (.t a')⟩
def bi (d : Nat) (p : BinOp) (a : Nat) (z : Int) : AO := ⟨some d, none, .bin p (.t a) (.v (.int .i64 z))⟩
attribute [go_sem] ts G H o n m mv mi l ls f ix e ln nt pt pf st c b bi
end X
end Go.Proofs.YtjkclhbckfkeeaaGreatDoor
namespace Go.Proofs.YtjkclhbckfkeeaaGreatDoor
open Go Go.RowKit X
def c4 := co Tryz.f4 (.s (.g 0) (.s (.s (.g 1) (.c 9 (.s (.g 2) .r) .n)) (.s (.g 3) (.s (.g 4) (.s (.g 5) .r)))))
def rr4 : RL := [(0,[o 1 (.box 41 (.t 0)),mv 2 (.bool false)]),(1,[ls 7 18 1,c 8 12 [7],nt 9 8]),(2,[c 10 13 [],m 2 10]),(3,[f 12 0 1,ls 13 2 12,f 14 2 1,ls 15 4 14,f 16 6 1,l 17 16,f 18 7 1,ls 19 5 18,f 20 12 1,ls 21 3 20,f 22 15 1,l 23 22,f 24 16 1,l 25 24,f 26 17 1,l 27 26,c 28 8 [13,15,17,19,21,23,25,27],m 11 28,e 29 0 11,e 30 1 11,o 3 (.alloc 47 [(.int .i64 0), (.str []), (.str []), (.str []), (.str []), .nils, (.int .i64 0), .nils, (.int .i64 0), (.int .i64 0)]),st 10 3 29,m 4 30]),(4,[f 32 0 1,ls 33 2 32,f 34 2 1,ls 35 4 34,f 36 6 1,l 37 36,f 38 7 1,ls 39 5 38,f 40 12 1,ls 41 3 40,f 42 15 1,l 43 42,f 44 16 1,l 45 44,f 46 17 1,l 47 46,c 48 14 [33,35,37,39,41,43,45,47],m 31 48,e 49 0 31,e 50 1 31,o 5 (.alloc 47 [(.int .i64 0), (.str []), (.str []), (.str []), (.str []), .nils, (.int .i64 0), .nils, (.int .i64 0), (.int .i64 0)]),st 10 5 49,m 6 50]),(5,[m 51 4,m 52 6,b 53 .eql 51 52,m 54 53,H 54 (ls 55 10 3),H 54 (ls 56 10 5),H 54 (c 57 15 [55,56]),pf 58 54 57,m 59 58,H 59 (c 60 13 []),pf 61 59 60,m 2 61])]
theorem fi4 : FnI Tryz.prog 4 Tryz.f4 62 c4 [.t 2] rr4 := ⟨Tryz.func4, by kernel_rfl⟩
def c8 := co Tryz.f8 (.s (.g 0) (.s (.b 0 (.s (.g 1) (.c 24 (.s (.g 2) .r) (.s (.g 3) (.c 48 (.s (.g 4) .r) .n))))) (.s (.g 5) (.s (.s (.g 6) (.c 61 (.s (.g 7) .r) .n)) (.s (.d 8) (.s (.s (.g 9) (.b 1 (.l (.s (.g 10) (.s (.c 80 .n (.x 1)) (.s (.b 2 (.s (.g 11) (.s (.g 12) (.b 3 (.l (.s (.s (.g 13) (.c 88 .n (.x 3))) (.s (.b 4 (.d 15)) (.g 14)))))))) (.g 16))))))) (.s (.g 17) .r)))))))
def rr8 : RL := [(0,[o 8 (.box 25 (.t 0)),o 9 (.box 31 (.t 1)),o 11 (.box 37 (.t 3)),o 12 (.box 39 (.t 4)),o 16 (.alloc 47 [(.int .i64 0), (.str []), (.str []), (.str []), (.str []), .nils, (.int .i64 0), .nils, (.int .i64 0), (.int .i64 0)]),mi 17 0]),(1,[m 25 2,ln 26 25,bi 27 .lss 26 1,m 28 27,G 28 (m 29 2),G 28 (ln 30 29),G 28 (bi 31 .gtr 30 6),pt 32 28 31,m 33 32,G 33 (ls 34 4 9),G 33 (f 35 0 11),G 33 (l 36 35),G 33 (m 37 2),G 33 (ln 38 37),G 33 (c 39 33 [34,36,38]),G 33 (nt 40 39),pt 41 33 40,m 42 41,G 42 (m 43 5),G 42 (c 44 34 [43]),G 42 (nt 45 44),pt 46 42 45,m 24 46]),(2,[o 47 (.build [(.int .i64 0), (.str []), (.str []), (.str []), (.str []), .nils, (.int .i64 0), .nils, (.int .i64 0), (.int .i64 0)] []),st 10 16 47,mi 17 2]),(3,[m 49 7,c 50 35 [49],nt 51 50,m 48 51]),(4,[o 52 (.build [(.int .i64 0), (.str []), (.str []), (.str []), (.str []), .nils, (.int .i64 0), .nils, (.int .i64 0), (.int .i64 0)] []),st 10 16 52,mi 17 12]),(5,[ls 54 2 8,m 55 2,ls 56 5 11,c 57 36 [54,55,56],m 53 57,e 58 0 53,e 59 1 53,m 18 58,m 19 59]),(6,[m 60 19,bi 61 .neq 60 0]),(7,[o 62 (.build [(.int .i64 0), (.str []), (.str []), (.str []), (.str []), .nils, (.int .i64 0), .nils, (.int .i64 0), (.int .i64 0)] []),m 63 19,st 10 16 62,m 17 63]),(9,[f 76 0 11,l 77 76,ln 78 77,mi 79 0]),(10,[b 80 .lss 79 78]),(11,[ix 81 4 77 79,ls 82 4 81,o 22 (.alloc 94 [(.int .i64 0), (.int .i64 0), (.int .i64 0), (.int .i64 0)]),st 4 22 82]),(12,[f 83 0 22,l 84 83,m 23 84]),(13,[m 85 23,f 86 1 22,l 87 86,b 88 .lss 85 87]),(14,[m 89 23,bi 90 .add 89 1,m 23 90]),(16,[bi 112 .add 79 1,m 79 112]),(17,[ls 113 10 20,st 10 16 113,mi 17 0])]
theorem fi8 : FnI Tryz.prog 8 Tryz.f8 114 c8 [.c (some 10) 16, .t 17] rr8 := ⟨Tryz.func8, by kernel_rfl⟩
def Ail : List AO := [m 64 5,m 65 6,ls 66 3 12,f 67 3 11,l 68 67,f 69 2 11,l 70 69,c 71 37 [70],f 72 4 11,l 73 72,m 74 7,o 75 (.build [(.int .i64 0), (.str []), (.str []), (.str []), (.str []), .nils, (.int .i64 0), .nils, (.int .i64 0), (.int .i64 0)] [(0, 1, (.t 64)), (1, 1, (.t 65)), (2, 3, (.t 66)), (6, 1, (.t 68)), (7, 1, (.t 71)), (8, 1, (.t 73)), (9, 1, (.t 74))]),o 20 (.alloc 47 [(.int .i64 0), (.str []), (.str []), (.str []), (.str []), .nils, (.int .i64 0), .nils, (.int .i64 0), (.int .i64 0)]),st 10 20 75]
theorem Agw : TR Tryz.f8 114 8 = some Ail := by kernel_rfl
def Abw : List AO := [f 91 5 20,l 92 91,m 93 2,m 94 23,ix 95 8 93 94,ls 96 8 95,f 97 0 9,l 98 97,f 99 2 22,l 100 99,ix 101 9 98 100,f 102 3 101,l 103 102,m 104 18,m 105 23,ix 106 1 104 105,l 107 106,o 108 (.build [(.str []), (.int .i64 0), (.int .i64 0), (.str []), (.str []), (.int .i64 0), (.int .i64 0), (.str []), (.str []), (.int .i64 0), (.int .i64 0)] [(0, 8, (.t 96)), (8, 1, (.t 103)), (9, 1, (.v (.int .i64 1))), (10, 1, (.t 107))]),o 109 (.slc 57 11 false [(.t 108)]),o 110 (.app 57 11 128 (.t 92) (.t 109)),f 111 5 20,st 1 111 110]
theorem Acr : TR Tryz.f8 114 15 = some Abw := by kernel_rfl
def Ajq : List (List Nat) := [[], [], [], [], [3], [], [5], [5, 6], [], [8], [], [0, 1, 2, 3, 4, 5, 6, 7, 8, 9, 10], [], [0, 1, 2, 3, 4, 5, 6, 7, 8, 9, 10, 11, 12]]
theorem AhR : Bx (ro Tryz.f8 8) Ail Ajq = true := by kernel_rfl
def Afw : List (List Nat) := [[], [0], [], [], [2, 3], [2, 3, 4], [], [6], [], [8], [6, 7, 8, 9], [6, 7, 8, 9, 10], [6, 7, 8, 9, 10, 11], [], [], [13, 14], [13, 14, 15], [2, 3, 4, 5, 6, 7, 8, 9, 10, 11, 12, 13, 14, 15, 16], [2, 3, 4, 5, 6, 7, 8, 9, 10, 11, 12, 13, 14, 15, 16, 17], [0, 1, 2, 3, 4, 5, 6, 7, 8, 9, 10, 11, 12, 13, 14, 15, 16, 17, 18], [0, 1, 2, 3, 4, 5, 6, 7, 8, 9, 10, 11, 12, 13, 14, 15, 16, 17, 18, 19], [0, 1, 2, 3, 4, 5, 6, 7, 8, 9, 10, 11, 12, 13, 14, 15, 16, 17, 18, 19, 20]]
theorem AdE : Bx (ro Tryz.f8 15) Abw Afw = true := by kernel_rfl
def c12 := co Tryz.f12 (.s (.g 0) (.s (.s (.g 1) (.c 62 (.s (.g 2) .r) .n)) (.s (.g 3) .r)))
def Akl : RL := [(0,[o 1 (.box 41 (.t 0)),mv 2 (.bool false)]),(1,[f 3 6 1,l 4 3,ln 5 4,bi 6 .gtr 5 8,m 7 6,G 7 (f 8 7 1),G 7 (f 9 0 8),G 7 (l 10 9),G 7 (ln 11 10),G 7 (bi 12 .gtr 11 8),pt 13 7 12,m 14 13,G 14 (f 15 7 1),G 14 (f 16 2 15),G 14 (l 17 16),G 14 (ln 18 17),G 14 (bi 19 .gtr 18 20),pt 20 14 19,m 21 20,G 21 (f 22 2 1),G 21 (f 23 0 22),G 21 (l 24 23),G 21 (ln 25 24),G 21 (bi 26 .gtr 25 20),pt 27 21 26,m 28 27,G 28 (f 29 2 1),G 28 (f 30 1 29),G 28 (l 31 30),G 28 (ln 32 31),G 28 (bi 33 .gtr 32 8),pt 34 28 33,m 35 34,G 35 (f 36 2 1),G 35 (f 37 2 36),G 35 (l 38 37),G 35 (ln 39 38),G 35 (bi 40 .gtr 39 8),pt 41 35 40,m 42 41,G 42 (f 43 2 1),G 42 (f 44 3 43),G 42 (l 45 44),G 42 (ln 46 45),G 42 (bi 47 .gtr 46 8),pt 48 42 47,m 49 48,G 49 (f 50 0 1),G 49 (f 51 0 50),G 49 (l 52 51),G 49 (ln 53 52),G 49 (bi 54 .gtr 53 12),pt 55 49 54,m 56 55,G 56 (f 57 0 1),G 56 (f 58 1 57),G 56 (l 59 58),G 56 (ln 60 59),G 56 (bi 61 .gtr 60 20),pt 62 56 61]),(2,[mv 2 (.bool false)]),(3,[f 63 0 1,ls 64 2 63,c 65 43 [64],ln 66 65,bi 67 .eql 66 0,m 68 67,H 68 (f 69 0 1),H 68 (ls 70 2 69),H 68 (f 71 2 1),H 68 (ls 72 4 71),H 68 (c 73 28 [70,72]),H 68 (ln 74 73),H 68 (bi 75 .eql 74 0),pf 76 68 75,m 77 76,H 77 (f 78 2 1),H 77 (f 79 3 78),H 77 (l 80 79),H 77 (c 81 29 [80]),H 77 (ln 82 81),H 77 (bi 83 .eql 82 0),pf 84 77 83,m 2 84])]
theorem Ajp : FnI Tryz.prog 12 Tryz.f12 85 c12 [.t 2] Akl := ⟨Tryz.func12, by kernel_rfl⟩
def c13 := co Tryz.f13 (.s (.g 0) (.s (.g 1) (.s (.g 2) (.s (.g 3) (.s (.g 4) .r)))))
def Akk : RL := [(0,[mv 0 (.bool false)]),(1,[o 6 (.build [(.str []), (.int .i64 0), (.int .i64 0), (.str []), (.str []), (.int .i64 0), (.int .i64 0), (.str []), (.str []), (.int .i64 0), (.int .i64 0)] [(9, 1, (.v (.int .i64 1)))]),o 7 (.slc 57 11 false [(.t 6)]),o 8 (.build [(.int .i64 0), (.str []), (.str []), (.str []), (.str []), .nils, (.int .i64 0), .nils, (.int .i64 0), (.int .i64 0)] [(5, 1, (.t 7)), (9, 1, (.v (.int .i64 5)))]),o 1 (.alloc 47 [(.int .i64 0), (.str []), (.str []), (.str []), (.str []), .nils, (.int .i64 0), .nils, (.int .i64 0), (.int .i64 0)]),st 10 1 8]),(2,[ls 10 10 1,o 11 (.call 44 [(.t 10), (.v (.int .i64 5))]),m 9 11,e 12 0 9,e 13 1 9,o 2 (.alloc 47 [(.int .i64 0), (.str []), (.str []), (.str []), (.str []), .nils, (.int .i64 0), .nils, (.int .i64 0), (.int .i64 0)]),st 10 2 12,m 3 13]),(3,[ls 15 10 2,o 16 (.call 44 [(.t 15), (.v (.int .i64 5))]),m 14 16,e 17 0 14,e 18 1 14,o 4 (.alloc 47 [(.int .i64 0), (.str []), (.str []), (.str []), (.str []), .nils, (.int .i64 0), .nils, (.int .i64 0), (.int .i64 0)]),st 10 4 17,m 5 18]),(4,[m 19 3,bi 20 .eql 19 0,m 21 20,H 21 (f 22 5 2),H 21 (l 23 22),H 21 (ln 24 23),H 21 (bi 25 .eql 24 1),pf 26 21 25,m 27 26,H 27 (f 28 5 2),H 27 (l 29 28),H 27 (o 30 (.idx 11 (.t 29) (.v (.int .i64 0)))),H 27 (f 31 9 30),H 27 (l 32 31),H 27 (bi 33 .eql 32 8),pf 34 27 33,m 35 34,H 35 (m 36 5),H 35 (bi 37 .eql 36 27),pf 38 35 37,m 39 38,H 39 (ls 40 10 1),H 39 (c 41 24 [40]),H 39 (ln 42 41),H 39 (bi 43 .gtr 42 0),pf 44 39 43,m 0 44])]
theorem Ajo : FnI Tryz.prog 13 Tryz.f13 45 c13 [.t 0] Akk := ⟨Tryz.func13, by kernel_rfl⟩
def c14 := co Tryz.f14 (.s (.g 0) (.s (.s (.g 1) (.c 44 (.s (.g 2) .r) .n)) (.s (.s (.g 3) (.c 51 (.s (.g 4) .r) .n)) (.s (.g 5) (.s (.s (.g 6) (.c 61 (.s (.g 7) .r) .n)) (.s (.g 8) (.s (.s (.g 9) (.b 0 (.l (.s (.s (.g 10) (.c 79 .n (.x 0))) (.s (.b 1 (.s (.g 12) (.b 2 (.l (.s (.s (.g 13) (.c 95 .n (.x 2))) (.s (.b 3 (.d 15)) (.g 14))))))) (.g 11)))))) (.s (.g 16) .r))))))))
def Akj : RL := [(0,[o 8 (.box 25 (.t 0)),o 9 (.box 31 (.t 1)),o 11 (.box 37 (.t 3)),o 12 (.box 39 (.t 4)),o 16 (.alloc 47 [(.int .i64 0), (.str []), (.str []), (.str []), (.str []), .nils, (.int .i64 0), .nils, (.int .i64 0), (.int .i64 0)]),mi 17 0]),(1,[m 23 2,ln 24 23,bi 25 .eql 24 0,m 26 25,G 26 (m 27 2),G 26 (ln 28 27),G 26 (bi 29 .gtr 28 6),pt 30 26 29,m 31 30,G 31 (ls 32 4 9),G 31 (f 33 0 11),G 31 (l 34 33),G 31 (m 35 2),G 31 (ln 36 35),G 31 (c 37 45 [32,34,36]),G 31 (nt 38 37),pt 39 31 38,m 40 39,G 40 (m 41 5),G 40 (c 42 20 [41]),G 40 (nt 43 42),pt 44 40 43]),(2,[o 45 (.build [(.int .i64 0), (.str []), (.str []), (.str []), (.str []), .nils, (.int .i64 0), .nils, (.int .i64 0), (.int .i64 0)] []),st 10 16 45,mi 17 2]),(3,[m 46 7,bi 47 .lss 46 0,m 48 47,G 48 (m 49 7),G 48 (bi 50 .geq 49 36525),pt 51 48 50]),(4,[o 52 (.build [(.int .i64 0), (.str []), (.str []), (.str []), (.str []), .nils, (.int .i64 0), .nils, (.int .i64 0), (.int .i64 0)] []),st 10 16 52,mi 17 12]),(5,[ls 54 2 8,m 55 2,ls 56 5 11,c 57 46 [54,55,56],m 53 57,e 58 0 53,e 59 1 53,m 18 58,m 19 59]),(6,[m 60 19,bi 61 .neq 60 0]),(7,[o 62 (.build [(.int .i64 0), (.str []), (.str []), (.str []), (.str []), .nils, (.int .i64 0), .nils, (.int .i64 0), (.int .i64 0)] []),m 63 19,st 10 16 62,m 17 63]),(8,[m 64 5,m 65 6,ls 66 3 12,f 67 3 11,l 68 67,f 69 2 11,l 70 69,f 71 4 11,l 72 71,m 73 7,o 74 (.build [(.int .i64 0), (.str []), (.str []), (.str []), (.str []), .nils, (.int .i64 0), .nils, (.int .i64 0), (.int .i64 0)] [(0, 1, (.t 64)), (1, 1, (.t 65)), (2, 3, (.t 66)), (6, 1, (.t 68)), (7, 1, (.t 70)), (8, 1, (.t 72)), (9, 1, (.t 73))]),o 20 (.alloc 47 [(.int .i64 0), (.str []), (.str []), (.str []), (.str []), .nils, (.int .i64 0), .nils, (.int .i64 0), (.int .i64 0)]),st 10 20 74]),(9,[mi 21 0]),(10,[m 75 21,f 76 0 11,l 77 76,ln 78 77,b 79 .lss 75 78]),(11,[m 80 21,bi 81 .add 80 1,m 21 81]),(12,[f 82 0 11,l 83 82,m 84 21,ix 85 4 83 84,f 86 0 85,l 87 86,m 22 87]),(13,[m 88 22,f 89 0 11,l 90 89,m 91 21,ix 92 4 90 91,f 93 1 92,l 94 93,b 95 .lss 88 94]),(14,[m 96 22,bi 97 .add 96 1,m 22 97]),(16,[ls 123 10 20,st 10 16 123,mi 17 0])]
theorem Ajn : FnI Tryz.prog 14 Tryz.f14 124 c14 [.c (some 10) 16, .t 17] Akj := ⟨Tryz.func14, by kernel_rfl⟩
def TZ : List AO := [f 98 5 20,l 99 98,m 100 2,m 101 22,ix 102 8 100 101,ls 103 8 102,f 104 0 9,l 105 104,f 106 0 11,l 107 106,m 108 21,ix 109 4 107 108,f 110 2 109,l 111 110,ix 112 9 105 111,f 113 3 112,l 114 113,m 115 18,m 116 22,ix 117 1 115 116,l 118 117,o 119 (.build [(.str []), (.int .i64 0), (.int .i64 0), (.str []), (.str []), (.int .i64 0), (.int .i64 0), (.str []), (.str []), (.int .i64 0), (.int .i64 0)] [(0, 8, (.t 103)), (8, 1, (.t 114)), (9, 1, (.v (.int .i64 1))), (10, 1, (.t 118))]),o 120 (.slc 57 11 false [(.t 119)]),o 121 (.app 57 11 128 (.t 99) (.t 120)),f 122 5 20,st 1 122 121]
theorem Ze : TR Tryz.f14 124 15 = some TZ := by kernel_rfl
def XZ : List (List Nat) := [[], [0], [], [], [2, 3], [2, 3, 4], [], [6], [], [8], [], [8, 9, 10], [8, 9, 10, 11], [8, 9, 10, 11, 12], [6, 7, 8, 9, 10, 11, 12, 13], [6, 7, 8, 9, 10, 11, 12, 13, 14], [6, 7, 8, 9, 10, 11, 12, 13, 14, 15], [], [], [17, 18], [17, 18, 19], [2, 3, 4, 5, 6, 7, 8, 9, 10, 11, 12, 13, 14, 15, 16, 17, 18, 19, 20], [2, 3, 4, 5, 6, 7, 8, 9, 10, 11, 12, 13, 14, 15, 16, 17, 18, 19, 20, 21], [0, 1, 2, 3, 4, 5, 6, 7, 8, 9, 10, 11, 12, 13, 14, 15, 16, 17, 18, 19, 20, 21, 22], [0, 1, 2, 3, 4, 5, 6, 7, 8, 9, 10, 11, 12, 13, 14, 15, 16, 17, 18, 19, 20, 21, 22, 23], [0, 1, 2, 3, 4, 5, 6, 7, 8, 9, 10, 11, 12, 13, 14, 15, 16, 17, 18, 19, 20, 21, 22, 23, 24]]
theorem AaB : Bx (ro Tryz.f14 15) TZ XZ = true := by kernel_rfl
def c15 := co Tryz.f15 (.s (.g 0) (.s (.s (.g 1) (.c 64 (.s (.g 2) .r) .n)) (.s (.s (.g 3) (.b 0 (.l (.s (.s (.g 4) (.c 69 .n (.x 0))) (.s (.b 1 (.s (.d 6) (.c 82 (.s (.g 7) .r) .n))) (.g 5)))))) (.s (.s (.g 8) (.b 2 (.l (.s (.s (.g 9) (.c 87 .n (.x 2))) (.s (.b 3 (.s (.d 11) (.c 100 (.s (.g 12) .r) .n))) (.g 10)))))) (.s (.g 13) .r)))))
def Aki : RL := [(0,[o 2 (.box 47 (.t 0)),o 3 (.box 47 (.t 1)),mv 4 (.bool false)]),(1,[f 7 0 2,l 8 7,f 9 0 3,l 10 9,b 11 .neq 8 10,m 12 11,G 12 (f 13 1 2),G 12 (l 14 13),G 12 (f 15 1 3),G 12 (l 16 15),G 12 (b 17 .neq 14 16),pt 18 12 17,m 19 18,G 19 (f 20 2 2),G 19 (ls 21 3 20),G 19 (f 22 2 3),G 19 (ls 23 3 22),G 19 (o 24 (.bina [.s, .s, .s] .neq (.t 21) (.t 23))),pt 25 19 24,m 26 25,G 26 (f 27 6 2),G 26 (l 28 27),G 26 (f 29 6 3),G 26 (l 30 29),G 26 (b 31 .neq 28 30),pt 32 26 31,m 33 32,G 33 (f 34 8 2),G 33 (l 35 34),G 33 (f 36 8 3),G 33 (l 37 36),G 33 (b 38 .neq 35 37),pt 39 33 38,m 40 39,G 40 (f 41 9 2),G 40 (l 42 41),G 40 (f 43 9 3),G 40 (l 44 43),G 40 (b 45 .neq 42 44),pt 46 40 45,m 47 46,G 47 (f 48 5 2),G 47 (l 49 48),G 47 (ln 50 49),G 47 (f 51 5 3),G 47 (l 52 51),G 47 (ln 53 52),G 47 (b 54 .neq 50 53),pt 55 47 54,m 56 55,G 56 (f 57 7 2),G 56 (l 58 57),G 56 (ln 59 58),G 56 (f 60 7 3),G 56 (l 61 60),G 56 (ln 62 61),G 56 (b 63 .neq 59 62),pt 64 56 63]),(2,[mv 4 (.bool false)]),(3,[mi 5 0]),(4,[m 65 5,f 66 5 2,l 67 66,ln 68 67,b 69 .lss 65 68]),(5,[m 70 5,bi 71 .add 70 1,m 5 71]),(6,[f 72 5 2,l 73 72,m 74 5,ix 75 11 73 74,ls 76 11 75,f 77 5 3,l 78 77,m 79 5,ix 80 11 78 79,ls 81 11 80,o 82 (.bina [.s, .i .i64, .i .i64, .s, .s, .i .i64, .i .i64, .s, .s, .i .i64, .i .i64] .neq (.t 76) (.t 81))]),(7,[mv 4 (.bool false)]),(8,[mi 6 0]),(9,[m 83 6,f 84 7 2,l 85 84,ln 86 85,b 87 .lss 83 86]),(10,[m 88 6,bi 89 .add 88 1,m 6 89]),(11,[f 90 7 2,l 91 90,m 92 6,ix 93 2 91 92,ls 94 2 93,f 95 7 3,l 96 95,m 97 6,ix 98 2 96 97,ls 99 2 98,o 100 (.bina [.s, .i .i64] .neq (.t 94) (.t 99))]),(12,[mv 4 (.bool false)]),(13,[mv 4 (.bool true)])]
theorem Ajm : FnI Tryz.prog 15 Tryz.f15 101 c15 [.t 4] Aki := ⟨Tryz.func15, by kernel_rfl⟩
def Xe : List AO := [f 7 0 2,l 8 7,f 9 0 3,l 10 9,b 11 .neq 8 10,m 12 11,G 12 (f 13 1 2),G 12 (l 14 13),G 12 (f 15 1 3),G 12 (l 16 15),G 12 (b 17 .neq 14 16),pt 18 12 17,m 19 18,G 19 (f 20 2 2),G 19 (ls 21 3 20),G 19 (f 22 2 3),G 19 (ls 23 3 22),G 19 (o 24 (.bina [.s, .s, .s] .neq (.t 21) (.t 23))),pt 25 19 24,m 26 25,G 26 (f 27 6 2),G 26 (l 28 27),G 26 (f 29 6 3),G 26 (l 30 29),G 26 (b 31 .neq 28 30),pt 32 26 31,m 33 32,G 33 (f 34 8 2),G 33 (l 35 34),G 33 (f 36 8 3),G 33 (l 37 36),G 33 (b 38 .neq 35 37),pt 39 33 38,m 40 39,G 40 (f 41 9 2),G 40 (l 42 41),G 40 (f 43 9 3),G 40 (l 44 43),G 40 (b 45 .neq 42 44),pt 46 40 45,m 47 46,G 47 (f 48 5 2),G 47 (l 49 48),G 47 (ln 50 49),G 47 (f 51 5 3),G 47 (l 52 51),G 47 (ln 53 52),G 47 (b 54 .neq 50 53),pt 55 47 54,m 56 55,G 56 (f 57 7 2),G 56 (l 58 57),G 56 (ln 59 58),G 56 (f 60 7 3),G 56 (l 61 60),G 56 (ln 62 61),G 56 (b 63 .neq 59 62),pt 64 56 63]
theorem Qg : TR Tryz.f15 101 1 = some Xe := by kernel_rfl
def c19 := co Tryz.f19 (.s (.g 0) (.s (.g 1) .r))
def Akh : RL := [(0,[mv 2 (.bool false)]),(1,[m 3 0,o 4 (.call 54 [(.t 3), (.v (.int .i64 1))]),m 2 4])]
theorem Ajl : FnI Tryz.prog 19 Tryz.f19 5 c19 [.t 2] Akh := ⟨Tryz.func19, by kernel_rfl⟩
def c20 := co Tryz.f20 (.s (.g 0) (.s (.s (.g 1) (.c 6 (.s (.g 2) .r) .n)) (.s (.g 3) (.s (.g 4) .r))))
def Akg : RL := [(0,[mv 2 (.bool false)]),(1,[m 5 0,bi 6 .lss 5 0]),(2,[mv 2 (.bool false)]),(3,[m 8 0,bi 9 .quo 8 10,bi 10 .quo 9 10000000000,m 11 0,bi 12 .quo 11 10,bi 13 .rem 12 10000000000,c 14 55 [10,13],m 7 14,e 15 0 7,e 16 1 7,m 3 15,m 4 16]),(4,[m 17 4,bi 18 .eql 17 0,m 19 18,H 19 (m 20 3),H 19 (m 21 0),H 19 (b 22 .eql 20 21),pf 23 19 22,m 2 23])]
theorem Ajk : FnI Tryz.prog 20 Tryz.f20 24 c20 [.t 2] Akg := ⟨Tryz.func20, by kernel_rfl⟩
def c23 := co Tryz.f23 (.s (.g 0) (.s (.s (.g 1) (.b 0 (.l (.s (.s (.g 2) (.c 11 .n (.x 0))) (.s (.b 1 (.s (.g 4) (.c 25 (.s (.g 5) .r) .n))) (.g 3)))))) (.s (.g 6) .r)))
def Akf : RL := [(0,[mv 6 (.bool false)]),(1,[mi 7 0]),(2,[m 8 7,m 9 0,o 10 (.slen (.t 9)),b 11 .lss 8 10]),(3,[m 12 7,bi 13 .add 12 1,m 7 13]),(4,[m 14 0,m 15 7,o 16 (.sidx (.t 14) (.t 15)),c 17 57 [16],nt 18 17,m 19 18,H 19 (m 20 0),H 19 (m 21 7),H 19 (o 22 (.sidx (.t 20) (.t 21))),H 19 (c 23 58 [22]),H 19 (nt 24 23),pf 25 19 24]),(5,[mv 6 (.bool false)]),(6,[m 26 0,o 27 (.slen (.t 26)),m 28 1,b 29 .geq 27 28,m 30 29,H 30 (m 31 0),H 30 (o 32 (.slen (.t 31))),H 30 (m 33 2),H 30 (b 34 .leq 32 33),pf 35 30 34,m 6 35])]
theorem Ajj : FnI Tryz.prog 23 Tryz.f23 36 c23 [.t 6] Akf := ⟨Tryz.func23, by kernel_rfl⟩
def c24 := co Tryz.f24 (.s (.g 0) (.s (.g 1) (.s (.g 2) (.s (.g 3) (.s (.g 4) (.s (.g 5) (.s (.g 6) (.s (.s (.g 7) (.c 57 (.g 8) (.g 9))) (.s (.g 10) (.s (.s (.g 11) (.b 0 (.l (.s (.g 12) (.s (.c 74 .n (.x 0)) (.s (.b 1 (.s (.g 13) (.s (.s (.g 14) (.c 86 (.s (.g 15) (.x 1)) .n)) (.g 16)))) (.g 17))))))) (.s (.g 18) (.s (.g 19) (.s (.g 20) .r)))))))))))))
def Ake : RL := [(0,[o 1 (.box 47 (.t 0)),mv 2 .nils]),(1,[o 10 (.build [.nils] []),o 11 (.box 121 (.t 10)),m 3 11]),(2,[m 12 3,f 13 0 1,l 14 13,c 15 34 [14],nt 16 15,o 17 (.call 59 [(.t 12), (.t 16), (.v (.int .i64 2)), (.v (.str [110, 117, 109, 98, 101, 114]))])]),(3,[m 18 3,f 19 1 1,l 20 19,c 21 60 [20],nt 22 21,o 23 (.call 59 [(.t 18), (.t 22), (.v (.int .i64 5)), (.v (.str [108, 111, 99, 97, 116, 111, 114]))])]),(4,[m 24 3,f 25 2 1,f 26 0 25,l 27 26,c 28 61 [27],nt 29 28,m 30 29,G 30 (f 31 2 1),G 30 (f 32 1 31),G 30 (l 33 32),G 30 (c 34 61 [33]),G 30 (nt 35 34),pt 36 30 35,m 37 36,G 37 (f 38 2 1),G 37 (f 39 2 38),G 37 (l 40 39),G 37 (o 41 (.call 62 [(.t 40), (.v (.int .i64 3)), (.v (.int .i64 3))])),G 37 (nt 42 41),pt 43 37 42,o 44 (.call 59 [(.t 24), (.t 43), (.v (.int .i64 5)), (.v (.str [112, 101, 114, 115, 111, 110]))])]),(5,[m 46 3,f 47 5 1,l 48 47,c 49 63 [46,48],m 45 49,e 50 0 45,e 51 1 45,m 4 50,m 5 51]),(6,[mv 6 (.bool true)]),(7,[m 52 3,f 53 6 1,l 54 53,c 55 64 [54],nt 56 55,o 57 (.call 59 [(.t 52), (.t 56), (.v (.int .i64 11)), (.v (.str [102, 97, 114, 101]))])]),(8,[mv 6 (.bool false)]),(9,[m 58 3,m 59 5,m 60 59,H 60 (m 61 4),H 60 (f 62 6 1),H 60 (l 63 62),H 60 (b 64 .neq 61 63),pf 65 60 64,o 66 (.call 59 [(.t 58), (.t 65), (.v (.int .i64 36)), (.v (.str [102, 97, 114, 101]))])]),(10,[f 67 6 1,l 68 67,m 7 68]),(11,[f 69 7 1,l 70 69,c 71 65 [70],ln 72 71,mi 73 0]),(12,[b 74 .lss 73 72]),(13,[m 75 73,ix 76 2 71 73,ls 77 2 76,o 9 (.alloc 92 [(.str []), (.int .i64 0)]),m 8 75,st 2 9 77]),(14,[m 78 3,f 79 1 9,l 80 79,c 81 64 [80],nt 82 81,m 83 8,c 84 66 [83],o 85 (.bin .add (.v (.str [116, 97, 120, 101, 115, 46])) (.t 84)),o 86 (.call 59 [(.t 78), (.t 82), (.v (.int .i64 11)), (.t 85)])]),(15,[mv 6 (.bool false)]),(16,[m 87 7,f 88 1 9,l 89 88,b 90 .add 87 89,m 7 90]),(17,[bi 91 .add 73 1,m 73 91]),(18,[m 92 3,m 93 6,m 94 93,H 94 (m 95 7),H 94 (f 96 8 1),H 94 (l 97 96),H 94 (b 98 .neq 95 97),pf 99 94 98,o 100 (.call 59 [(.t 92), (.t 99), (.v (.int .i64 36)), (.v (.str [116, 111, 116, 97, 108]))])]),(19,[m 101 3,f 102 9 1,l 103 102,c 104 35 [103],nt 105 104,o 106 (.call 59 [(.t 101), (.t 105), (.v (.int .i64 12)), (.v (.str [105, 115, 115, 117, 101, 100]))])]),(20,[m 107 3,o 108 (.nchk (.t 107)),f 109 0 108,l 110 109,m 2 110])]
theorem Aji : FnI Tryz.prog 24 Tryz.f24 111 c24 [.t 2] Ake := ⟨Tryz.func24, by kernel_rfl⟩
def Yo : List AO := [m 87 7,f 88 1 9,l 89 88,b 90 .add 87 89,m 7 90]
theorem YW : TR Tryz.f24 111 16 = some Yo := by kernel_rfl
def c28 := co Tryz.f28 (.s (.g 0) (.s (.g 1) (.s (.s (.g 2) (.c 20 (.g 3) .n)) (.s (.s (.g 4) (.b 0 (.l (.s (.s (.g 5) (.c 29 .n (.x 0))) (.s (.b 1 (.s (.d 7) (.s (.g 8) (.b 2 (.l (.s (.s (.g 9) (.c 43 .n (.x 2))) (.s (.b 3 (.d 11)) (.g 10)))))))) (.g 6)))))) (.s (.s (.g 12) (.b 4 (.l (.s (.s (.g 13) (.c 61 .n (.x 4))) (.s (.b 5 (.s (.g 15) (.s (.s (.g 16) (.b 6 (.l (.s (.s (.g 17) (.c 69 .n (.x 6))) (.s (.b 7 (.d 19)) (.g 18)))))) (.s (.s (.g 20) (.c 88 (.g 21) .n)) (.g 22))))) (.g 14)))))) (.s (.s (.g 23) (.b 8 (.l (.s (.s (.g 24) (.c 107 .n (.x 8))) (.s (.b 9 (.s (.g 26) (.s (.s (.g 27) (.b 10 (.l (.s (.s (.g 28) (.c 115 .n (.x 10))) (.s (.b 11 (.d 30)) (.g 29)))))) (.s (.s (.g 31) (.c 134 (.g 32) .n)) (.g 33))))) (.g 25)))))) (.s (.g 34) .r)))))))
def Akd : RL := [(0,[o 2 (.box 25 (.t 0)),o 3 (.box 31 (.t 1)),mv 4 .nils]),(1,[mv 5 .nils]),(2,[f 17 0 3,l 18 17,ln 19 18,bi 20 .gtr 19 512]),(3,[m 21 5,o 22 (.build [(.int .i64 0), (.str [])] [(0, 1, (.v (.int .i64 4))), (1, 1, (.v (.str [102, 97, 114, 101, 115])))]),o 23 (.slc 126 2 false [(.t 22)]),o 24 (.app 126 2 24 (.t 21) (.t 23)),m 5 24]),(4,[mi 6 0]),(5,[m 25 6,f 26 0 3,l 27 26,ln 28 27,b 29 .lss 25 28]),(6,[m 30 6,bi 31 .add 30 1,m 6 31]),(7,[ls 32 2 2,ls 33 4 3,f 34 0 3,l 35 34,m 36 6,ix 37 9 35 36,ls 38 9 37,c 39 67 [32,33,38],m 7 39]),(8,[mi 8 0]),(9,[m 40 8,m 41 7,ln 42 41,b 43 .lss 40 42]),(10,[m 44 8,bi 45 .add 44 1,m 8 45]),(12,[mi 9 0]),(13,[m 57 9,f 58 1 3,l 59 58,ln 60 59,b 61 .lss 57 60]),(14,[m 62 9,bi 63 .add 62 1,m 9 63]),(15,[m 64 9,c 65 68 [64],o 66 (.bin .add (.v (.str [114, 117, 108, 101, 32])) (.t 65)),m 10 66,mv 11 (.bool false)]),(16,[mi 12 0]),(17,[m 67 12,m 68 9,b 69 .lss 67 68]),(18,[m 70 12,bi 71 .add 70 1,m 12 71]),(19,[m 72 11,m 73 72,G 73 (f 74 1 3),G 73 (l 75 74),G 73 (m 76 12),G 73 (ix 77 15 75 76),G 73 (f 78 0 77),G 73 (l 79 78),G 73 (f 80 1 3),G 73 (l 81 80),G 73 (m 82 9),G 73 (ix 83 15 81 82),G 73 (f 84 0 83),G 73 (l 85 84),G 73 (b 86 .eql 79 85),pt 87 73 86,m 11 87]),(20,[m 88 11]),(21,[m 89 5,m 90 10,o 91 (.build [(.int .i64 0), (.str [])] [(0, 1, (.v (.int .i64 6))), (1, 1, (.t 90))]),o 92 (.slc 126 2 false [(.t 91)]),o 93 (.app 126 2 24 (.t 89) (.t 92)),m 5 93]),(22,[m 94 5,m 95 10,f 96 1 3,l 97 96,m 98 9,ix 99 15 97 98,ls 100 15 99,c 101 70 [100],c 102 69 [94,95,101],m 5 102]),(23,[mi 13 0]),(24,[m 103 13,f 104 2 3,l 105 104,ln 106 105,b 107 .lss 103 106]),(25,[m 108 13,bi 109 .add 108 1,m 13 109]),(26,[m 110 13,c 111 68 [110],o 112 (.bin .add (.v (.str [114, 111, 117, 116, 105, 110, 103, 32])) (.t 111)),m 14 112,mv 15 (.bool false)]),(27,[mi 16 0]),(28,[m 113 16,m 114 13,b 115 .lss 113 114]),(29,[m 116 16,bi 117 .add 116 1,m 16 117]),(30,[m 118 15,m 119 118,G 119 (f 120 2 3),G 119 (l 121 120),G 119 (m 122 16),G 119 (ix 123 3 121 122),G 119 (f 124 0 123),G 119 (l 125 124),G 119 (f 126 2 3),G 119 (l 127 126),G 119 (m 128 13),G 119 (ix 129 3 127 128),G 119 (f 130 0 129),G 119 (l 131 130),G 119 (b 132 .eql 125 131),pt 133 119 132,m 15 133]),(31,[m 134 15]),(32,[m 135 5,m 136 14,o 137 (.build [(.int .i64 0), (.str [])] [(0, 1, (.v (.int .i64 6))), (1, 1, (.t 136))]),o 138 (.slc 126 2 false [(.t 137)]),o 139 (.app 126 2 24 (.t 135) (.t 138)),m 5 139]),(33,[m 140 5,m 141 14,f 142 2 3,l 143 142,m 144 13,ix 145 3 143 144,ls 146 3 145,c 147 71 [146],c 148 69 [140,141,147],m 5 148]),(34,[m 149 5,m 4 149])]
theorem Ajh : FnI Tryz.prog 28 Tryz.f28 150 c28 [.t 4] Akd := ⟨Tryz.func28, by kernel_rfl⟩
def TS : List AO := [m 46 5,m 47 7,m 48 8,ix 49 1 47 48,l 50 49,m 51 6,c 52 68 [51],o 53 (.bin .add (.v (.str [102, 97, 114, 101, 32])) (.t 52)),o 54 (.build [(.int .i64 0), (.str [])] [(0, 1, (.t 50)), (1, 1, (.t 53))]),o 55 (.slc 126 2 false [(.t 54)]),o 56 (.app 126 2 24 (.t 46) (.t 55)),m 5 56]
theorem YV : TR Tryz.f28 150 11 = some TS := by kernel_rfl
def XU : List (List Nat) := [[], [], [], [1, 2], [1, 2, 3], [], [5], [5, 6], [1, 2, 3, 4, 5, 6, 7], [1, 2, 3, 4, 5, 6, 7, 8], [0, 1, 2, 3, 4, 5, 6, 7, 8, 9], [0, 1, 2, 3, 4, 5, 6, 7, 8, 9, 10]]
theorem Aaw : Bx (ro Tryz.f28 11) TS XU = true := by kernel_rfl
def c29 := co Tryz.f29 (.s (.g 0) (.s (.g 1) (.s (.s (.g 2) (.b 0 (.l (.s (.s (.g 3) (.c 10 .n (.x 0))) (.s (.b 1 (.s (.d 5) (.s (.s (.g 6) (.c 22 (.g 7) .n)) (.s (.s (.g 8) (.c 35 (.g 9) .n)) (.s (.d 10) (.c 71 (.g 11) .n)))))) (.g 4)))))) (.s (.g 12) .r))))
def Akc : RL := [(0,[mv 2 .nils]),(1,[mv 3 .nils]),(2,[mi 4 0]),(3,[m 7 4,m 8 0,ln 9 8,b 10 .lss 7 9]),(4,[m 11 4,bi 12 .add 11 1,m 4 12]),(6,[ls 20 7 5,c 21 72 [20],nt 22 21]),(7,[m 23 3,m 24 6,o 25 (.build [(.int .i64 0), (.str [])] [(0, 1, (.v (.int .i64 5))), (1, 1, (.t 24))]),o 26 (.slc 126 2 false [(.t 25)]),o 27 (.app 126 2 24 (.t 23) (.t 26)),m 3 27]),(8,[f 28 1 5,l 29 28,bi 30 .lss 29 1,m 31 30,G 31 (f 32 1 5),G 31 (l 33 32),G 31 (bi 34 .gtr 33 4),pt 35 31 34]),(9,[m 36 3,m 37 6,o 38 (.build [(.int .i64 0), (.str [])] [(0, 1, (.v (.int .i64 8))), (1, 1, (.t 37))]),o 39 (.slc 126 2 false [(.t 38)]),o 40 (.app 126 2 24 (.t 36) (.t 39)),m 3 40]),(10,[f 41 3 5,l 42 41,bi 43 .lss 42 0,m 44 43,G 44 (f 45 3 5),G 44 (l 46 45),G 44 (f 47 1 5),G 44 (l 48 47),G 44 (c 49 73 [48]),G 44 (b 50 .gtr 46 49),pt 51 44 50,m 52 51,G 52 (f 53 4 5),G 52 (l 54 53),G 52 (bi 55 .lss 54 0),pt 56 52 55,m 57 56,G 57 (f 58 4 5),G 57 (l 59 58),G 57 (bi 60 .gtr 59 2),pt 61 57 60,m 62 61,G 62 (f 63 5 5),G 62 (l 64 63),G 62 (bi 65 .lss 64 0),pt 66 62 65,m 67 66,G 67 (f 68 5 5),G 67 (l 69 68),G 67 (bi 70 .gtr 69 100000),pt 71 67 70]),(11,[m 72 3,m 73 6,o 74 (.build [(.int .i64 0), (.str [])] [(0, 1, (.v (.int .i64 2))), (1, 1, (.t 73))]),o 75 (.slc 126 2 false [(.t 74)]),o 76 (.app 126 2 24 (.t 72) (.t 75)),m 3 76]),(12,[m 77 3,m 2 77])]
theorem Ajg : FnI Tryz.prog 29 Tryz.f29 78 c29 [.t 2] Akc := ⟨Tryz.func29, by kernel_rfl⟩
def AbD : List AO := [m 13 0,m 14 4,ix 15 7 13 14,ls 16 7 15,m 17 4,c 18 68 [17],o 19 (.bin .add (.v (.str [116, 97, 120, 32])) (.t 18)),o 5 (.alloc 143 [(.str []), (.int .i64 0), (.str []), (.int .i64 0), (.int .i64 0), (.int .i64 0), .nils]),st 7 5 16,m 6 19]
theorem AcA : TR Tryz.f29 78 5 = some AbD := by kernel_rfl
def AfD : List (List Nat) := [[], [], [0, 1], [0, 1, 2], [], [4], [4, 5], [], [0, 1, 2, 3, 4, 5, 7], [0, 1, 2, 3, 4, 5, 6, 7, 8]]
theorem AdM : Bx (ro Tryz.f29 5) AbD AfD = true := by kernel_rfl
def c33 := co Tryz.f33 (.s (.g 0) (.s (.g 1) (.s (.s (.g 2) (.b 0 (.l (.s (.g 3) (.s (.c 13 .n (.x 0)) (.s (.b 1 (.s (.g 4) (.s (.s (.g 5) (.c 38 (.s (.g 6) .r) .n)) (.g 7)))) (.g 8))))))) (.s (.g 9) .r))))
def Akb : RL := [(0,[o 3 (.box 31 (.t 0)),mv 6 (.bool false)]),(1,[mi 7 0]),(2,[m 10 1,ln 11 10,mi 12 0]),(3,[b 13 .lss 12 11]),(4,[ix 14 4 10 12,ls 15 4 14,o 9 (.alloc 94 [(.int .i64 0), (.int .i64 0), (.int .i64 0), (.int .i64 0)]),st 4 9 15]),(5,[f 16 0 9,l 17 16,m 18 7,b 19 .neq 17 18,m 20 19,G 20 (f 21 1 9),G 20 (l 22 21),G 20 (m 23 7),G 20 (b 24 .leq 22 23),pt 25 20 24,m 26 25,G 26 (f 27 2 9),G 26 (l 28 27),G 26 (bi 29 .lss 28 0),pt 30 26 29,m 31 30,G 31 (f 32 2 9),G 31 (l 33 32),G 31 (f 34 0 3),G 31 (l 35 34),G 31 (ln 36 35),G 31 (b 37 .geq 33 36),pt 38 31 37]),(6,[mv 6 (.bool false)]),(7,[f 39 1 9,l 40 39,m 7 40]),(8,[bi 41 .add 12 1,m 12 41]),(9,[m 42 7,m 43 2,b 44 .eql 42 43,m 6 44])]
theorem Ajf : FnI Tryz.prog 33 Tryz.f33 45 c33 [.t 6] Akb := ⟨Tryz.func33, by kernel_rfl⟩
def c34 := co Tryz.f34 (.s (.g 0) (.s (.g 1) (.s (.g 2) .r)))
def Aka : RL := [(0,[mv 2 (.bool false)]),(1,[m 7 0,c 8 78 [7],m 6 8,e 9 0 6,e 10 1 6,e 11 2 6,m 3 9,m 4 10,m 5 11]),(2,[m 12 5,m 2 12])]
theorem Aje : FnI Tryz.prog 34 Tryz.f34 13 c34 [.t 2] Aka := ⟨Tryz.func34, by kernel_rfl⟩
def c35 := co Tryz.f35 (.s (.g 0) (.s (.g 1) .r))
def Aj9 : RL := [(0,[mv 2 (.bool false)]),(1,[m 3 0,bi 4 .geq 3 0,m 5 4,H 5 (m 6 0),H 5 (bi 7 .lss 6 36525),pf 8 5 7,m 2 8])]
theorem Ajd : FnI Tryz.prog 35 Tryz.f35 9 c35 [.t 2] Aj9 := ⟨Tryz.func35, by kernel_rfl⟩
def c36 := co Tryz.f36 (.s (.g 0) (.s (.s (.g 1) (.c 19 (.s (.g 2) .r) .n)) (.s (.g 3) (.s (.g 4) (.s (.s (.g 5) (.b 0 (.l (.s (.g 6) (.s (.c 27 .n (.x 0)) (.s (.b 1 (.s (.g 7) (.s (.d 8) (.s (.s (.g 9) (.c 43 (.s (.g 10) .r) .n)) (.g 11))))) (.g 12))))))) (.s (.g 13) .r))))))
def Aj8 : RL := [(0,[o 3 (.box 25 (.t 0)),o 5 (.box 37 (.t 2)),mv 6 .nils,mi 7 0]),(1,[f 14 0 5,l 15 14,m 16 1,ln 17 16,c 18 79 [15,17],nt 19 18]),(2,[mv 6 .nils,mi 7 2]),(3,[ls 20 2 3,m 21 1,c 22 80 [20,21],m 8 22]),(4,[mv 9 .nils]),(5,[f 23 0 5,l 24 23,ln 25 24,mi 26 0]),(6,[b 27 .lss 26 25]),(7,[ix 28 4 24 26,ls 29 4 28,o 11 (.alloc 94 [(.int .i64 0), (.int .i64 0), (.int .i64 0), (.int .i64 0)]),st 4 11 29]),(8,[f 31 3 11,l 32 31,m 33 8,f 34 0 11,l 35 34,f 36 1 11,l 37 36,o 38 (.sub 1 (some (.t 35)) (some (.t 37)) none (.t 33)),c 39 81 [32,38],m 30 39,e 40 0 30,e 41 1 30,m 12 40,m 13 41]),(9,[m 42 13,bi 43 .neq 42 0]),(10,[m 44 13,mv 6 .nils,m 7 44]),(11,[m 45 9,m 46 12,o 47 (.app 3 1 8 (.t 45) (.t 46)),m 9 47]),(12,[bi 48 .add 26 1,m 26 48]),(13,[m 49 9,m 6 49,mi 7 0])]
theorem Ajc : FnI Tryz.prog 36 Tryz.f36 50 c36 [.t 6, .t 7] Aj8 := ⟨Tryz.func36, by kernel_rfl⟩
def c37 := co Tryz.f37 (.s (.g 0) (.s (.s (.g 1) (.c 4 (.s (.g 2) .r) .n)) (.s (.g 3) .r)))
def Aj7 : RL := [(0,[mv 2 .nils]),(1,[m 3 0,o 4 (.binn .eql (.t 3) (.v .nils))]),(2,[mv 2 .nils]),(3,[o 5 (.slc 92 2 false []),m 6 0,o 7 (.app 92 2 24 (.t 5) (.t 6)),m 2 7])]
theorem AbY : FnI Tryz.prog 37 Tryz.f37 8 c37 [.t 2] Aj7 := ⟨Tryz.func37, by kernel_rfl⟩
def c38 := co Tryz.f38 (.s (.g 0) (.s (.s (.g 1) (.c 20 (.s (.g 2) .r) .n)) (.s (.s (.g 3) (.c 26 (.s (.g 4) .r) .n)) (.s (.s (.g 5) (.s (.g 6) (.c 31 (.s (.g 7) .r) .n))) (.s (.g 8) .r)))))
def Aj6 : RL := [(0,[mi 4 0,mi 5 0]),(1,[m 7 0,bi 8 .lss 7 1,m 9 8,G 9 (m 10 0),G 9 (bi 11 .gtr 10 8),pt 12 9 11,m 13 12,G 13 (m 14 1),G 13 (bi 15 .lss 14 1),pt 16 13 15,m 17 16,G 17 (m 18 1),G 17 (bi 19 .gtr 18 10),pt 20 17 19]),(2,[mi 4 0,mi 5 8]),(3,[m 21 0,bi 22 .eql 21 2,m 23 22,H 23 (m 24 1),H 23 (bi 25 .geq 24 8),pf 26 23 25]),(4,[mi 4 0,mi 5 28]),(5,[m 27 0,m 28 1,c 29 82 [27,28],m 6 29]),(6,[m 30 6,bi 31 .neq 30 0]),(7,[m 32 6,m 4 32,mi 5 0]),(8,[mi 4 0,mi 5 27])]
theorem Ajb : FnI Tryz.prog 38 Tryz.f38 33 c38 [.t 4, .t 5] Aj6 := ⟨Tryz.func38, by kernel_rfl⟩
def c39 := co Tryz.f39 (.s (.g 0) (.s (.s (.g 1) (.c 4 (.s (.g 2) .r) .n)) (.s (.g 3) .r)))
def Aj5 : RL := [(0,[mv 2 .nils]),(1,[m 3 0,o 4 (.binn .eql (.t 3) (.v .nils))]),(3,[o 5 (.slc 57 11 false []),m 6 0,o 7 (.app 57 11 128 (.t 5) (.t 6)),m 2 7])]
theorem Aja : FnI Tryz.prog 39 Tryz.f39 8 c39 [.t 2] Aj5 := ⟨Tryz.func39, by kernel_rfl⟩
end Go.Proofs.YtjkclhbckfkeeaaGreatDoor
end
