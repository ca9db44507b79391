/- Calls of functions that write objects which they are handed. -/
import Derived.Test.YtcongikpaonliaaDoorAv11m
namespace Go.Proofs.YtcongikpaonliaaDoor
open Go Go.RowKit
set_option linter.unusedSimpArgs false
set_option linter.unusedVariables false
set_option linter.deprecated false
def mkE : List (Nat × V) → Nat → V
  | [], _ => .any
  | (t, v) :: r, u => if u = t then v else mkE r u
def mkH : List (Nat × Ob) → Nat → Option Ob
  | [], _ => none
  | (t, v) :: r, u => if u = t then some v else mkH r u
theorem mkE_mem : ∀ {l : List (Nat × V)} {t : Nat}, mkE l t = .any ∨ (t, mkE l t) ∈ l
  | [], _ => .inl rfl
  | (u, v) :: r, t => by
    unfold mkE
    by_cases e : t = u
    · subst e; rw [if_pos rfl]; exact .inr (List.mem_cons_self ..)
    · rw [if_neg e]; exact (mkE_mem (l := r)).imp id (List.mem_cons_of_mem _)
theorem mkH_mem : ∀ {l : List (Nat × Ob)} {t : Nat} {o : Ob}, mkH l t = some o → (t, o) ∈ l
  | [], _, _, h => by cases h
  | (u, v) :: r, t, o, h => by
    unfold mkH at h
    by_cases e : t = u
    · subst e; rw [if_pos rfl] at h; injection h with h; subst h; exact List.mem_cons_self ..
    · rw [if_neg e] at h; exact List.mem_cons_of_mem _ (mkH_mem h)
theorem mkH_dom : ∀ {l : List (Nat × Ob)} {t : Nat}, t ∈ l.map (·.1) → (mkH l t).isSome = true
  | [], _, h => by cases h
  | (u, v) :: r, t, h => by
    unfold mkH
    by_cases e : t = u
    · rw [if_pos e]; rfl
    · rw [if_neg e]
      rcases List.mem_cons.1 h with h | h
      · exact absurd h e
      · exact mkH_dom h
theorem mkH_in {l : List (Nat × Ob)} {t : Nat} (h : (mkH l t).isSome = true) : t ∈ l.map (·.1) := by
  obtain ⟨o, ho⟩ := Option.isSome_iff_exists.1 h
  exact List.mem_map.2 ⟨_, mkH_mem ho, rfl⟩
mutual
/-- The objects named are among these. -/
def V.nin (dom : List Nat) : V → Bool
  | .ptr n _ => dom.contains n
  | .eptr n _ _ _ => dom.contains n
  | .own n _ => dom.contains n
  | .map n => dom.contains n
  | .agg vs => V.nins dom vs
  | .tup vs => V.nins dom vs
  | .fn _ vs => V.nins dom vs
  | .when _ v => v.nin dom
  | .any => true
  | .bool _ => true
  | .int _ _ => true
  | .str _ => true
  | .nils => true
  | .nilp => true
  | .nilm => true
  | .list _ _ => true
  | .row _ _ => true
def V.nins (dom : List Nat) : List V → Bool
  | [] => true
  | v :: vs => v.nin dom && V.nins dom vs
end
theorem nins_mem {dom : List Nat} {vs : List V} (hp : V.nins dom vs = true) : ∀ {i : Nat} {v : V}, vs[i]? = some v → v.nin dom = true := by
  intro i v hi
  induction vs generalizing i with
  | nil => simp at hi
  | cons u us ih =>
    simp only [V.nins, Bool.and_eq_true] at hp
    cases i with
    | zero => simp only [List.getElem?_cons_zero, Option.some.injEq] at hi; subst hi; exact hp.1
    | succ i => rw [List.getElem?_cons_succ] at hi; exact ih hp.2 hi
mutual
/-- Other names. -/
def V.ren (σ : Nat → Nat) : V → V
  | .ptr n o => .ptr (σ n) o
  | .eptr n l i o => .eptr (σ n) l i o
  | .own n l => .own (σ n) l
  | .map n => .map (σ n)
  | .agg vs => .agg (V.rens σ vs)
  | .tup vs => .tup (V.rens σ vs)
  | .fn f vs => .fn f (V.rens σ vs)
  | .when b v => .when b (v.ren σ)
  | .any => .any
  | .bool b => .bool b
  | .int k n => .int k n
  | .str s => .str s
  | .nils => .nils
  | .nilp => .nilp
  | .nilm => .nilm
  | .list r f => .list r f
  | .row vs o => .row vs o
def V.rens (σ : Nat → Nat) : List V → List V
  | [] => []
  | v :: vs => v.ren σ :: V.rens σ vs
end
theorem rens_eq (σ : Nat → Nat) : ∀ (vs : List V), V.rens σ vs = vs.map (V.ren σ)
  | [] => by simp only [V.rens, List.map_nil]
  | v :: vs => by simp only [V.rens, List.map_cons, rens_eq σ vs]
def Ob.ren (σ : Nat → Nat) : Ob → Ob
  | .box t cells => .box t (V.rens σ cells)
  | .arr t sz rows => .arr t sz rows
  | .mp es => .mp (es.map fun p => (p.1, p.2.ren σ))
/-- What an object names is among these. -/
def Ob.nin (dom : List Nat) : Ob → Prop
  | .box _ cells => V.nins dom cells = true
  | .arr _ _ rows => ∀ r ∈ rows, V.purs r = true
  | .mp es => ∀ p ∈ es, p.2.nin dom = true
def Ob.kind : Ob → Ob → Prop
  | .box t _, .box t' _ => t' = t
  | .arr t sz _, .arr t' sz' _ => t' = t ∧ sz' = sz
  | .mp _, .mp _ => True
  | _, _ => False
section
variable {w : World} {M M2 : Nat → Prop} {ι ι2 : Nat → Value} {h h2 : Nat → Option Ob}
/-- The same values and objects under other names. -/
structure Ren (dom : List Nat) (σ : Nat → Nat) (ι : Nat → Value) (h : Nat → Option Ob) (ι2 : Nat → Value) (h2 : Nat → Option Ob) : Prop where
  hd : ∀ n ∈ dom, ι2 (σ n) = ι n
  box : ∀ n ∈ dom, ∀ t c, h n = some (.box t c) → ∃ c', h2 (σ n) = some (.box t c')
  arr : ∀ n ∈ dom, ∀ t sz r, h n = some (.arr t sz r) → h2 (σ n) = some (.arr t sz r)
  mp : ∀ n ∈ dom, ∀ es, h n = some (.mp es) → ∃ es', h2 (σ n) = some (.mp es')
theorem rens_get {σ : Nat → Nat} {vs : List V} {i : Nat} {v : V} (hi : (V.rens σ vs)[i]? = some v) : ∃ u, vs[i]? = some u ∧ v = u.ren σ := by
  rw [rens_eq, List.getElem?_map] at hi
  obtain ⟨u, hu, e⟩ := Option.map_eq_some_iff.1 hi
  exact ⟨u, hu, e.symm⟩
theorem rens_len (σ : Nat → Nat) (vs : List V) : (V.rens σ vs).length = vs.length := by rw [rens_eq, List.length_map]
theorem Pur.ren {v : V} {cv : Value} (hp : Pur M w v cv) (σ : Nat → Nat) : Pur M w (v.ren σ) cv := by
  induction hp with
  | agg vs cs hl ho _ ih =>
    simp only [V.ren]
    refine .agg _ cs (by rw [rens_len]; exact hl) ho (fun i v hi => ?_)
    obtain ⟨u, hu, rfl⟩ := rens_get hi
    exact ih i u hu
  | tup vs cs hl _ ih =>
    simp only [V.ren]
    refine .tup _ cs (by rw [rens_len]; exact hl) (fun i v hi => ?_)
    obtain ⟨u, hu, rfl⟩ := rens_get hi
    exact ih i u hu
  | fn n vs cs hl _ ih =>
    simp only [V.ren]
    refine .fn n _ cs (by rw [rens_len]; exact hl) (fun i v hi => ?_)
    obtain ⟨u, hu, rfl⟩ := rens_get hi
    exact ih i u hu
  | when b v cv _ hf ih => simp only [V.ren]; exact .when b _ cv ih hf
  | any cv => simp only [V.ren]; exact .any cv
  | bool b => simp only [V.ren]; exact .bool b
  | int k n => simp only [V.ren]; exact .int k n
  | str s => simp only [V.ren]; exact .str s
  | nils => simp only [V.ren]; exact .nils
  | nilp => simp only [V.ren]; exact .nilp
  | nilm => simp only [V.ren]; exact .nilm
  | list rows fit a cap sz g off f hf hcap hn ha hr hc hv _ => simp only [V.ren]; exact .list rows fit a cap sz g off f hf hcap hn ha hr hc hv
  | row vs off g o f hg hc hv _ => simp only [V.ren]; exact .row vs off g o f hg hc hv
theorem Rel.ren {dom : List Nat} {σ : Nat → Nat} (hM : ∀ b, M b → M2 b) (hk : Ren dom σ ι h ι2 h2) {v : V} {cv : Value} (r : Rel M w ι h v cv) : v.nin dom = true → Rel M2 w ι2 h2 (v.ren σ) cv := by
  induction r with
  | pur hp => exact fun _ => .pur ((hp.wide hM).ren σ)
  | agg vs cs hl ho _ ih =>
    intro hn
    simp only [V.nin] at hn
    simp only [V.ren]
    refine .agg _ cs (by rw [rens_len]; exact hl) ho (fun i v hi => ?_)
    obtain ⟨u, hu, rfl⟩ := rens_get hi
    exact ih i u hu (nins_mem hn hu)
  | tup vs cs hl _ ih =>
    intro hn
    simp only [V.nin] at hn
    simp only [V.ren]
    refine .tup _ cs (by rw [rens_len]; exact hl) (fun i v hi => ?_)
    obtain ⟨u, hu, rfl⟩ := rens_get hi
    exact ih i u hu (nins_mem hn hu)
  | fn n vs cs hl _ ih =>
    intro hn
    simp only [V.nin] at hn
    simp only [V.ren]
    refine .fn n _ cs (by rw [rens_len]; exact hl) (fun i v hi => ?_)
    obtain ⟨u, hu, rfl⟩ := rens_get hi
    exact ih i u hu (nins_mem hn hu)
  | when b v cv _ hf ih =>
    intro hn
    simp only [V.nin] at hn
    simp only [V.ren]
    exact .when b _ cv (fun e => ih e hn) hf
  | ptrb n off b t cells ho hb =>
    intro hn
    simp only [V.nin, List.contains_iff_mem] at hn
    simp only [V.ren]
    obtain ⟨c', hc'⟩ := hk.box n hn t cells ho
    exact .ptrb _ off b t c' hc' ((hk.hd n hn).trans hb)
  | eptr n len i off t sz rows cv ho hle hs hv =>
    intro hn
    simp only [V.nin, List.contains_iff_mem] at hn
    simp only [V.ren]
    exact .eptr _ len i off t sz rows cv (hk.arr n hn t sz rows ho) hle hs (fun e => by rw [hk.hd n hn]; exact hv e)
  | own n len t sz rows cv ho hle hv hs =>
    intro hn
    simp only [V.nin, List.contains_iff_mem] at hn
    simp only [V.ren]
    exact .own _ len t sz rows cv (hk.arr n hn t sz rows ho) hle (fun e => by rw [hk.hd n hn]; exact hv e) hs
  | map n es ho cv hv hs =>
    intro hn
    simp only [V.nin, List.contains_iff_mem] at hn
    simp only [V.ren]
    obtain ⟨e', he'⟩ := hk.mp n hn es ho
    exact .map _ e' he' cv (hv.trans (hk.hd n hn).symm) hs
theorem obR.ren {dom : List Nat} {σ : Nat → Nat} (hM : ∀ b, M b → M2 b) (hk : Ren dom σ ι h ι2 h2) {n : Nat} (hn : n ∈ dom) {o : Ob} (hr : obR M w ι h n o) (hd : o.nin dom) : obR M2 w ι2 h2 (σ n) (o.ren σ) := by
  cases o with
  | box t c =>
    obtain ⟨b, cs, e, hh, hl, ho, hv⟩ := hr
    refine ⟨b, cs, (hk.hd n hn).trans e, hh, by rw [rens_len]; exact hl, ho, fun i v hi => ?_⟩
    obtain ⟨u, hu, rfl⟩ := rens_get hi
    exact (hv i u hu).ren hM hk (nins_mem hd hu)
  | arr t sz rows =>
    obtain ⟨xs, hown, hrl, hx1, hv⟩ := hr
    exact ⟨xs, by rw [hk.hd n hn]; exact hown, hrl, hx1, fun i j r v h1 h2 => .pur (((hv i j r v h1 h2).toPur (purs_mem (hd r (List.mem_of_getElem? h1)) h2)).wide hM)⟩
  | mp es =>
    obtain ⟨b, ents, clock, e, hh, hl, hv⟩ := hr
    refine ⟨b, ents, clock, (hk.hd n hn).trans e, hh, by rw [List.length_map]; exact hl, fun i kv hi => ?_⟩
    rw [List.getElem?_map] at hi
    obtain ⟨p, hp, rfl⟩ := Option.map_eq_some_iff.1 hi
    obtain ⟨en, h1, h2', h3⟩ := hv i p hp
    exact ⟨en, h1, h2', h3.ren hM hk (hd p (List.mem_of_getElem? hp))⟩
end
/-- Objects laid over. -/
def hov : List (Nat × Ob) → (Nat → Option Ob) → Nat → Option Ob
  | [], h, m => h m
  | (n, o) :: r, h, m => if m = n then some o else hov r h m
theorem hov_eq (l : List (Nat × Ob)) (h : Nat → Option Ob) (m : Nat) : hov l h m = match mkH l m with | some o => some o | none => h m := by
  induction l with
  | nil => rfl
  | cons p r ih =>
    obtain ⟨n, o⟩ := p
    simp only [hov, mkH]
    by_cases e : m = n
    · rw [if_pos e, if_pos e]
    · rw [if_neg e, if_neg e]; exact ih
/-- Names there and back. -/
def rn : List (Nat × Nat) → Nat → Nat
  | [], n => n
  | (a, b) :: r, n => if n = a then b else rn r n
def rni : List (Nat × Nat) → Nat → Nat
  | [], n => n
  | (a, b) :: r, n => if n = b then a else rni r n
def okL (L : List (Nat × Nat)) : Bool := (L.map (·.1)).Nodup && (L.map (·.2)).Nodup
theorem rn_mem : ∀ {L : List (Nat × Nat)}, (L.map (·.1)).Nodup → ∀ {a b : Nat}, (a, b) ∈ L → rn L a = b
  | (c, d) :: r, hn, a, b, h => by
    rw [List.map_cons, List.nodup_cons] at hn
    unfold rn
    rcases List.mem_cons.1 h with e | e
    · injection e with e1 e2; subst e1 e2; rw [if_pos rfl]
    · rw [if_neg (fun e' => hn.1 (List.mem_map.2 ⟨_, e, e'⟩))]
      exact rn_mem hn.2 e
theorem rni_mem : ∀ {L : List (Nat × Nat)}, (L.map (·.2)).Nodup → ∀ {a b : Nat}, (a, b) ∈ L → rni L b = a
  | (c, d) :: r, hn, a, b, h => by
    rw [List.map_cons, List.nodup_cons] at hn
    unfold rni
    rcases List.mem_cons.1 h with e | e
    · injection e with e1 e2; subst e1 e2; rw [if_pos rfl]
    · rw [if_neg (fun e' => hn.1 (List.mem_map.2 ⟨_, e, e'⟩))]
      exact rni_mem hn.2 e
/-- Function f, handed these values and objects, returns this value and leaves these objects. -/
def Eff (P : Program) (U : Tbl) (f : Nat) (vs : List V) (hl : List (Nat × Ob)) (v : V) (hl' : List (Nat × Ob)) : Prop :=
  Enters P f ∧ ∀ (w : World) (M : Nat → Prop) (ι : Nat → Value) (cargs : Array Value), Mem (U := U) ⟨w, fun b => ∃ n, (mkH hl n).isSome = true ∧ blk (ι n) = some b, 0, M, ι, mkH hl⟩ (mkH hl) w M ι → cargs.size = vs.length →
    (∀ (i : Nat) (u : V), vs[i]? = some u → Rel M w ι (mkH hl) u (cargs.getD i undef)) →
    Calls P f cargs w fun e w' => ∃ (cv : Value) (M' : Nat → Prop) (ι' : Nat → Value), e = .returned cv ∧ Rel M' w' ι' (mkH hl') v cv ∧ Mem (U := U) ⟨w, fun b => ∃ n, (mkH hl n).isSome = true ∧ blk (ι n) = some b, 0, M, ι, mkH hl⟩ (mkH hl') w' M' ι'
/-- What a caller shows to use it. L: the callee's names and the caller's; first those handed in, then new ones. -/
structure EUse (h : Nat → Option Ob) (L0 L1 : List (Nat × Nat)) (us : List V) (vs : List V) (hl : List (Nat × Ob)) (v : V) (hl' : List (Nat × Ob)) : Prop where
  okL : okL (L0 ++ L1) = true
  n1 : hl.map (·.1) = L0.map (·.1)
  n2 : hl'.map (·.1) = (L0 ++ L1).map (·.1)
  big : ∀ p ∈ L0, 1000 ≤ p.1
  new : ∀ p ∈ L1, h p.2 = none ∧ p.2 < 1000
  obj : ∀ p ∈ L0, ∃ o, h p.2 = some o ∧ mkH hl p.1 = some (o.ren (rni L0)) ∧ o.nin (L0.map (·.2))
  args : V.rens (rni L0) us = vs
  argn : V.nins (L0.map (·.2)) us = true
  vn : v.nin (hl'.map (·.1)) = true
  on : ∀ q ∈ hl', q.2.nin (hl'.map (·.1))
  kind : ∀ p ∈ L0, ∀ o o', mkH hl p.1 = some o → mkH hl' p.1 = some o' → o.kind o'
section
variable {U : Tbl} {P : Program} {C : Ctx U} {h : Nat → Option Ob} {w : World} {M : Nat → Prop} {ι : Nat → Value} {o : Oper} {a : Act}
theorem nodup_append_right {α : Type} {l r : List α} (h : (l ++ r).Nodup) : r.Nodup := (List.nodup_append.1 h).2.1
theorem nodup_append_left {α : Type} {l r : List α} (h : (l ++ r).Nodup) : l.Nodup := (List.nodup_append.1 h).1
theorem estep {f : Nat} {cargs : Array Value} {L0 L1 : List (Nat × Nat)} {us vs : List V} {hl hl' : List (Nat × Ob)} {v : V} (hrun : Enters P f → (execOp a.eval o).run P w = .ok (.enter f cargs) w) (hE : Eff P U f vs hl v hl') (hu : EUse h L0 L1 us vs hl v hl')
    (hm : Mem C h w M ι) (hlen : cargs.size = us.length) (hx : ∀ (i : Nat) (u : V), us[i]? = some u → Rel M w ι h u (cargs.getD i undef)) :
    Does P o a w (After C h w M ι (hov (hl'.map fun q => (rn (L0 ++ L1) q.1, q.2.ren (rn (L0 ++ L1)))) h) (v.ren (rn (L0 ++ L1)))) := by
  have hok := hu.okL
  simp only [okL, Bool.and_eq_true, decide_eq_true_eq, List.map_append] at hok
  obtain ⟨nd1, nd2⟩ := hok
  have nd1' : ((L0 ++ L1).map (·.1)).Nodup := by rw [List.map_append]; exact nd1
  have nd2' : ((L0 ++ L1).map (·.2)).Nodup := by rw [List.map_append]; exact nd2
  have nd10 := nodup_append_left nd1
  have nd20 := nodup_append_left nd2
  -- the callee's view
  let ιc : Nat → Value := fun n => ι (rn L0 n)
  have inL0 : ∀ {n : Nat}, (mkH hl n).isSome = true → ∃ b, (n, b) ∈ L0 ∧ rn L0 n = b := fun {n} hs => by
    have := mkH_in hs
    rw [hu.n1] at this
    obtain ⟨p, hp, rfl⟩ := List.mem_map.1 this
    exact ⟨p.2, hp, rn_mem nd10 hp⟩
  have hren0 : Ren (L0.map (·.2)) (rni L0) ι h ιc (mkH hl) := by
    have key : ∀ n ∈ L0.map (·.2), ∃ a, (a, n) ∈ L0 ∧ rni L0 n = a ∧ rn L0 a = n := fun n hn => by
      obtain ⟨p, hp, rfl⟩ := List.mem_map.1 hn
      exact ⟨p.1, hp, rni_mem nd20 hp, rn_mem nd10 hp⟩
    refine ⟨fun n hn => ?_, fun n hn t c ho => ?_, fun n hn t sz r ho => ?_, fun n hn es ho => ?_⟩ <;> obtain ⟨a, ha, e1, e2⟩ := key n hn <;> rw [e1]
    · show ι (rn L0 a) = ι n; rw [e2]
    · obtain ⟨ob, g1, g2, _⟩ := hu.obj _ ha
      dsimp only at g1 g2
      rw [ho] at g1; injection g1 with g1; subst g1
      exact ⟨_, g2⟩
    · obtain ⟨ob, g1, g2, _⟩ := hu.obj _ ha
      dsimp only at g1 g2
      rw [ho] at g1; injection g1 with g1; subst g1
      exact g2
    · obtain ⟨ob, g1, g2, _⟩ := hu.obj _ ha
      dsimp only at g1 g2
      rw [ho] at g1; injection g1 with g1; subst g1
      exact ⟨_, g2⟩
  have old : ∀ {n b : Nat}, (n, b) ∈ L0 → (h b).isSome = true := fun {n b} hp => by obtain ⟨ob, g1, _⟩ := hu.obj _ hp; rw [g1]; rfl
  have hcm : Mem (U := U) ⟨w, fun b => ∃ n, (mkH hl n).isSome = true ∧ blk (ιc n) = some b, 0, M, ιc, mkH hl⟩ (mkH hl) w M ιc := by
    refine ⟨fun n ob hn => ?_, fun n m b h1 h2 e1 e2 => ?_, fun n b hs hb => ?_, hm.lt, fun n b hs hb => .inl ⟨n, hs, hb⟩, Nat.le_refl _, fun _ _ _ => rfl, rfl, rfl, rfl, fun _ hb => hb, hm.tb, hm.tm, fun _ _ hb => .inl hb, fun n t sz r0 t' sz' rows _ h0 ho => ?_, fun n _ => ⟨fun _ _ _ => rfl, fun _ _ => rfl⟩⟩
    · obtain ⟨b, hp, e⟩ := inL0 (by rw [hn]; rfl)
      obtain ⟨ob2, g1, g2, g3⟩ := hu.obj _ hp
      dsimp only at g1 g2
      rw [hn] at g2; injection g2 with g2
      have := (hm.obj b ob2 g1).ren (fun _ hb => hb) hren0 (List.mem_map.2 ⟨_, hp, rfl⟩) g3
      rw [show rni L0 b = n from rni_mem nd20 hp, ← g2] at this
      exact this
    · obtain ⟨b1, hp1, r1⟩ := inL0 h1
      obtain ⟨b2, hp2, r2⟩ := inL0 h2
      have e1' : blk (ι (rn L0 n)) = some b := e1
      have e2' : blk (ι (rn L0 m)) = some b := e2
      rw [r1] at e1'
      rw [r2] at e2'
      have := hm.dis b1 b2 b (old hp1) (old hp2) e1' e2'
      subst this
      rw [← rni_mem nd20 hp1, ← rni_mem nd20 hp2]
    · obtain ⟨b1, hp1, r1⟩ := inL0 hs
      have e1' : blk (ι (rn L0 n)) = some b := hb
      rw [r1] at e1'
      exact hm.imm b1 b (old hp1) e1'
    · dsimp only at h0
      rw [ho] at h0
      injection h0 with h0
      injection h0 with _ _ h0
      subst h0
      exact ⟨Nat.le_refl _, fun _ => rfl⟩
  have hargs : ∀ (i : Nat) (u : V), vs[i]? = some u → Rel M w ιc (mkH hl) u (cargs.getD i undef) := fun i u hi => by
    rw [← hu.args] at hi
    obtain ⟨u', hu', rfl⟩ := rens_get hi
    exact (hx i u' hu').ren (fun _ hb => hb) hren0 (nins_mem hu.argn hu')
  refine .call (f := f) (args := cargs) (hrun hE.1) ((hE.2 w M ιc cargs hcm (by rw [← hu.args, rens_len]; exact hlen) hargs).mono ?_)
  rintro e w' ⟨cv, M', ι', rfl, hrel, hm'⟩
  refine ⟨cv, rfl, ?_⟩
  generalize hσ : rn (L0 ++ L1) = σ at *
  have hσm : ∀ {a b : Nat}, (a, b) ∈ L0 ++ L1 → σ a = b := fun hp => by rw [← hσ]; exact rn_mem nd1' hp
  let τ := rni (L0 ++ L1)
  have hτm : ∀ {a b : Nat}, (a, b) ∈ L0 ++ L1 → τ b = a := fun hp => rni_mem nd2' hp
  have hXm : ∀ {b : Nat}, (∃ n, (mkH hl n).isSome = true ∧ blk (ιc n) = some b) → ∃ m, (∃ a, (a, m) ∈ L0) ∧ (h m).isSome = true ∧ blk (ι m) = some b := by
    rintro b ⟨n, hs, hb⟩
    obtain ⟨m, hp, e⟩ := inL0 hs
    have hb' : blk (ι (rn L0 n)) = some b := hb
    rw [e] at hb'
    exact ⟨m, ⟨n, hp⟩, old hp, hb'⟩
  have dom' : ∀ {n : Nat}, n ∈ hl'.map (·.1) ↔ ∃ b, (n, b) ∈ L0 ++ L1 := fun {n} => by
    rw [hu.n2]
    exact ⟨fun hn => let ⟨p, hp, e⟩ := List.mem_map.1 hn; ⟨p.2, e ▸ hp⟩, fun ⟨b, hb⟩ => List.mem_map.2 ⟨_, hb, rfl⟩⟩
  -- the new objects
  let hn : Nat → Option Ob := hov (hl'.map fun q => (σ q.1, q.2.ren σ)) h
  let ιn : Nat → Value := fun m => if m ∈ (L0 ++ L1).map (·.2) then ι' (τ m) else ι m
  have hnL : ∀ {a b : Nat}, (a, b) ∈ L0 ++ L1 → ∃ ob, mkH hl' a = some ob ∧ hn b = some (ob.ren σ) ∧ ιn b = ι' a := by
    intro a b hp
    obtain ⟨ob, hob⟩ := Option.isSome_iff_exists.1 (mkH_dom (dom'.2 ⟨b, hp⟩))
    refine ⟨ob, hob, ?_, ?_⟩
    · show hov _ h b = _
      have key : ∀ (l : List (Nat × Ob)), (∀ q ∈ l, ∃ b, (q.1, b) ∈ L0 ++ L1) → ∀ ob, mkH l a = some ob → hov (l.map fun q => (σ q.1, q.2.ren σ)) h b = some (ob.ren σ) := by
        intro l
        induction l with
        | nil => intro _ ob ho; cases ho
        | cons q l ih =>
          intro hq ob ho
          obtain ⟨n, o2⟩ := q
          simp only [List.map_cons, hov]
          unfold mkH at ho
          by_cases e : a = n
          · subst e
            rw [if_pos rfl] at ho
            injection ho with ho
            subst ho
            rw [if_pos (hσm hp).symm]
          · rw [if_neg e] at ho
            obtain ⟨c, hc⟩ := hq _ (List.mem_cons_self ..)
            rw [if_neg (fun e2 => e (by
              have e3 : σ n = c := hσm hc
              rw [e3] at e2
              subst e2
              rw [← hτm hp, hτm hc]))]
            exact ih (fun q hq' => hq q (List.mem_cons_of_mem _ hq')) ob ho
      exact key hl' (fun q hq => dom'.1 (List.mem_map.2 ⟨q, hq, rfl⟩)) ob hob
    · show (if b ∈ (L0 ++ L1).map (·.2) then ι' (τ b) else ι b) = _
      rw [if_pos (List.mem_map.2 ⟨_, hp, rfl⟩), hτm hp]
  have hnO : ∀ {m : Nat}, m ∉ (L0 ++ L1).map (·.2) → hn m = h m ∧ ιn m = ι m := by
    intro m hm0
    refine ⟨?_, if_neg hm0⟩
    show hov _ h m = _
    have key : ∀ (l : List (Nat × Ob)), (∀ q ∈ l, ∃ b, (q.1, b) ∈ L0 ++ L1) → hov (l.map fun q => (σ q.1, q.2.ren σ)) h m = h m := by
      intro l
      induction l with
      | nil => intro _; rfl
      | cons q l ih =>
        intro hq
        simp only [List.map_cons, hov]
        obtain ⟨c, hc⟩ := hq _ (List.mem_cons_self ..)
        rw [if_neg (fun e => hm0 (by rw [e, hσm hc]; exact List.mem_map.2 ⟨_, hc, rfl⟩))]
        exact ih (fun q hq' => hq q (List.mem_cons_of_mem _ hq'))
    exact key hl' (fun q hq => dom'.1 (List.mem_map.2 ⟨q, hq, rfl⟩))
  have split : ∀ m, (∃ a, (a, m) ∈ L0 ++ L1) ∨ m ∉ (L0 ++ L1).map (·.2) := fun m => by
    by_cases c : m ∈ (L0 ++ L1).map (·.2)
    · obtain ⟨p, hp, e⟩ := List.mem_map.1 c; exact .inl ⟨p.1, e ▸ hp⟩
    · exact .inr c
  have renB : Ren (hl'.map (·.1)) σ ι' (mkH hl') ιn hn := by
    refine ⟨fun n hn' => ?_, fun n hn' t c ho => ?_, fun n hn' t sz r ho => ?_, fun n hn' es ho => ?_⟩ <;> obtain ⟨b, hp⟩ := dom'.1 hn' <;> obtain ⟨ob, g1, g2, g3⟩ := hnL hp <;> rw [hσm hp]
    · exact g3
    · rw [ho] at g1; injection g1 with g1; subst g1; exact ⟨_, g2⟩
    · rw [ho] at g1; injection g1 with g1; subst g1; exact g2
    · rw [ho] at g1; injection g1 with g1; subst g1; exact ⟨_, g2⟩
  have hMM : ∀ b, M b → M' b := hm'.base
  have hMw : ∀ b, M b → w'.heap[b]? = w.heap[b]? := fun b hb => hm'.keep b (hm.lt b hb) (fun hX => by
    obtain ⟨m, _, h1, h2⟩ := hXm hX
    exact hm.imm m b h1 h2 hb)
  have notX : ∀ {m b : Nat}, m ∉ (L0 ++ L1).map (·.2) → (h m).isSome = true → blk (ι m) = some b → ¬ ∃ n, (mkH hl n).isSome = true ∧ blk (ιc n) = some b := by
    intro m b c h1 h2 hX
    obtain ⟨m2, ⟨a2, hp⟩, k1, k2⟩ := hXm hX
    have := hm.dis m m2 b h1 k1 h2 k2
    subst this
    exact c (List.mem_map.2 ⟨_, List.mem_append_left _ hp, rfl⟩)
  have kindOf : ∀ {a b : Nat}, (a, b) ∈ L0 → ∀ ob, h b = some ob → ∃ ob', mkH hl' a = some ob' ∧ (ob.ren (rni L0)).kind ob' ∧ mkH hl a = some (ob.ren (rni L0)) := by
    intro a b hp ob ho
    obtain ⟨ob1, g1, g2, _⟩ := hu.obj _ hp
    dsimp only at g1 g2
    rw [ho] at g1; injection g1 with g1; subst g1
    obtain ⟨ob', hob'⟩ := Option.isSome_iff_exists.1 (mkH_dom (dom'.2 ⟨b, List.mem_append_left _ hp⟩))
    exact ⟨ob', hob', hu.kind _ hp _ _ g2 hob', g2⟩
  have hk : Keeps h hn ι ιn := by
    refine ⟨fun m t c ho => ?_, fun m t sz r ho => ?_, fun m es ho => ?_⟩
    · rcases split m with ⟨a, hp⟩ | hno
      · rcases List.mem_append.1 hp with hp0 | hp1
        · obtain ⟨ob', k1, k2, k3⟩ := kindOf hp0 _ ho
          obtain ⟨ob2, g1, g2, g3⟩ := hnL hp
          rw [k1] at g1; injection g1 with g1; subst g1
          cases ob' with
          | box t' c' =>
            have e : t' = t := k2
            subst e
            refine ⟨?_, _, g2⟩
            rw [g3, (hm'.pin a (hu.big _ hp0)).1 _ _ k1]
            show ι (rn L0 a) = ι m
            rw [rn_mem nd10 hp0]
          | _ => exact k2.elim
        · have := (hu.new _ hp1).1; dsimp only at this; rw [ho] at this; cases this
      · obtain ⟨e1, e2⟩ := hnO hno
        exact ⟨e2, c, by rw [e1]; exact ho⟩
    · rcases split m with ⟨a, hp⟩ | hno
      · rcases List.mem_append.1 hp with hp0 | hp1
        · obtain ⟨ob', k1, k2, k3⟩ := kindOf hp0 _ ho
          obtain ⟨ob2, g1, g2, g3⟩ := hnL hp
          rw [k1] at g1; injection g1 with g1; subst g1
          cases ob' with
          | arr t' sz' r' =>
            obtain ⟨e1, e2⟩ := (k2 : t' = t ∧ sz' = sz)
            subst e1 e2
            obtain ⟨l1, l2⟩ := hm'.arr0 a _ _ _ _ _ _ (hu.big _ hp0) k3 k1
            refine ⟨_, g2, l1, fun he => ?_⟩
            rw [g3, l2 he]
            show ι (rn L0 a) = ι m
            rw [rn_mem nd10 hp0]
          | _ => exact k2.elim
        · have := (hu.new _ hp1).1; dsimp only at this; rw [ho] at this; cases this
      · obtain ⟨e1, e2⟩ := hnO hno
        exact ⟨r, by rw [e1]; exact ho, Nat.le_refl _, fun _ => e2⟩
    · rcases split m with ⟨a, hp⟩ | hno
      · rcases List.mem_append.1 hp with hp0 | hp1
        · obtain ⟨ob', k1, k2, k3⟩ := kindOf hp0 _ ho
          obtain ⟨ob2, g1, g2, g3⟩ := hnL hp
          rw [k1] at g1; injection g1 with g1; subst g1
          cases ob' with
          | mp es' =>
            refine ⟨?_, _, g2⟩
            rw [g3, (hm'.pin a (hu.big _ hp0)).2 _ k1]
            show ι (rn L0 a) = ι m
            rw [rn_mem nd10 hp0]
          | _ => exact k2.elim
        · have := (hu.new _ hp1).1; dsimp only at this; rw [ho] at this; cases this
      · obtain ⟨e1, e2⟩ := hnO hno
        exact ⟨e2, es, by rw [e1]; exact ho⟩
  have isL : ∀ {a m : Nat}, (a, m) ∈ L0 ++ L1 → (mkH hl' a).isSome = true := fun hp => mkH_dom (dom'.2 ⟨_, hp⟩)
  have oldS : ∀ {m : Nat}, m ∉ (L0 ++ L1).map (·.2) → (hn m).isSome = true → (h m).isSome = true := fun hno hs => by rwa [(hnO hno).1] at hs
  refine ⟨M', ιn, ⟨fun m ob ho => ?_, fun m k b h1 h2 e1 e2 => ?_, fun m b hs hb => ?_, hm'.lt, fun m b hs hb => ?_, Nat.le_trans hm.size hm'.size, fun b hb hX => ?_, hm'.os.trans hm.os, hm'.tape.trans hm.tape, hm'.output.trans hm.output, fun b hb => hMM b (hm.base b hb), hm'.tb, hm'.tm, fun b hb hM2 => ?_, fun m t sz r0 t' sz' rows h1000 h0 ho => ?_, fun m h1000 => ?_⟩, ?_, hMM, hMw, hk⟩
  · rcases split m with ⟨a, hp⟩ | hno
    · obtain ⟨ob2, g1, g2, g3⟩ := hnL hp
      replace ho : hn m = some ob := ho
      rw [g2] at ho; injection ho with ho; subst ho
      have := (hm'.obj a ob2 g1).ren (fun _ hb => hb) renB (dom'.2 ⟨_, hp⟩) (hu.on _ (mkH_mem g1))
      rwa [hσm hp] at this
    · obtain ⟨e1, e2⟩ := hnO hno
      replace ho : hn m = some ob := ho
      rw [e1] at ho
      exact (hm.obj m ob ho).keep hMM hMw hk e2 (fun b hb => hm'.keep b (hm.blt m b (by rw [ho]; rfl) hb) (notX hno (by rw [ho]; rfl) hb))
  · rcases split m with ⟨a, hp⟩ | hno
    · obtain ⟨_, _, _, g3⟩ := hnL hp
      rw [g3] at e1
      rcases split k with ⟨c, hq⟩ | hno2
      · obtain ⟨_, _, _, q3⟩ := hnL hq
        rw [q3] at e2
        have := hm'.dis a c b (isL hp) (isL hq) e1 e2
        subst this
        rw [← hσm hp, ← hσm hq]
      · rw [(hnO hno2).2] at e2
        exfalso
        rcases hm'.may a b (isL hp) e1 with hX | hX
        · exact notX hno2 (oldS hno2 h2) e2 hX
        · have := hm.blt k b (oldS hno2 h2) e2
          dsimp only at hX
          omega
    · rw [(hnO hno).2] at e1
      rcases split k with ⟨c, hq⟩ | hno2
      · obtain ⟨_, _, _, q3⟩ := hnL hq
        rw [q3] at e2
        exfalso
        rcases hm'.may c b (isL hq) e2 with hX | hX
        · exact notX hno (oldS hno h1) e1 hX
        · have := hm.blt m b (oldS hno h1) e1
          dsimp only at hX
          omega
      · rw [(hnO hno2).2] at e2
        exact hm.dis m k b (oldS hno h1) (oldS hno2 h2) e1 e2
  · rcases split m with ⟨a, hp⟩ | hno
    · obtain ⟨_, _, _, g3⟩ := hnL hp
      rw [g3] at hb
      exact hm'.imm a b (isL hp) hb
    · rw [(hnO hno).2] at hb
      intro hM2
      rcases hm'.old b (hm.blt m b (oldS hno hs) hb) hM2 with h1 | h1
      · exact hm.imm m b (oldS hno hs) hb h1
      · exact notX hno (oldS hno hs) hb h1
  · rcases split m with ⟨a, hp⟩ | hno
    · obtain ⟨_, _, _, g3⟩ := hnL hp
      rw [g3] at hb
      rcases hm'.may a b (isL hp) hb with hX | hX
      · obtain ⟨m2, _, k1, k2⟩ := hXm hX
        exact hm.may m2 b k1 k2
      · exact .inr (Nat.le_trans hm.size hX)
    · rw [(hnO hno).2] at hb
      exact hm.may m b (oldS hno hs) hb
  · refine (hm'.keep b (Nat.lt_of_lt_of_le hb hm.size) (fun hXc => ?_)).trans (hm.keep b hb hX)
    obtain ⟨m2, _, k1, k2⟩ := hXm hXc
    rcases hm.may m2 b k1 k2 with h1 | h1
    · exact hX h1
    · omega
  · rcases hm'.old b (Nat.lt_of_lt_of_le hb hm.size) hM2 with h1 | h1
    · exact hm.old b hb h1
    · obtain ⟨m2, _, k1, k2⟩ := hXm h1
      exact .inr ((hm.may m2 b k1 k2).resolve_right (by omega))
  · rcases split m with ⟨a, hp⟩ | hno
    · rcases List.mem_append.1 hp with hp0 | hp1
      · obtain ⟨ob, hob⟩ := Option.isSome_iff_exists.1 (old hp0)
        obtain ⟨ob', k1, k2, k3⟩ := kindOf hp0 _ hob
        obtain ⟨ob2, g1, g2, g3⟩ := hnL hp
        rw [k1] at g1; injection g1 with g1; subst g1
        replace ho : hn m = _ := ho
        rw [g2] at ho
        injection ho with ho
        cases ob' with
        | arr t2 sz2 r2 =>
          injection ho with _ _ ho
          subst ho
          cases ob with
          | arr t3 sz3 r3 =>
            obtain ⟨l1, l2⟩ := hm'.arr0 a _ _ _ _ _ _ (hu.big _ hp0) k3 k1
            obtain ⟨l3, l4⟩ := hm.arr0 m t sz r0 _ _ _ h1000 h0 hob
            refine ⟨by omega, fun he => ?_⟩
            rw [g3, l2 (by omega), ← l4 (by omega)]
            show ι (rn L0 a) = ι m
            rw [rn_mem nd10 hp0]
          | _ => exact k2.elim
        | _ => cases ho
      · have := (hu.new _ hp1).2; dsimp only at this; omega
    · obtain ⟨e1, e2⟩ := hnO hno
      replace ho : hn m = _ := ho
      rw [e1] at ho
      rw [e2]
      exact hm.arr0 m t sz r0 t' sz' rows h1000 h0 ho
  · rcases split m with ⟨a, hp⟩ | hno
    · rcases List.mem_append.1 hp with hp0 | hp1
      · obtain ⟨ob, hob⟩ := Option.isSome_iff_exists.1 (old hp0)
        obtain ⟨ob', k1, k2, k3⟩ := kindOf hp0 _ hob
        obtain ⟨ob2, g1, g2, g3⟩ := hnL hp
        rw [k1] at g1; injection g1 with g1; subst g1
        have back : ιc a = ι m := by show ι (rn L0 a) = ι m; rw [rn_mem nd10 hp0]
        refine ⟨fun t c hc => ?_, fun es hc => ?_⟩
        · replace hc : hn m = _ := hc
          rw [g2] at hc
          injection hc with hc
          cases ob' with
          | box t2 c2 =>
            rw [g3, (hm'.pin a (hu.big _ hp0)).1 _ _ k1]
            cases ob with
            | box t3 c3 => exact back.trans ((hm.pin m h1000).1 _ _ hob)
            | _ => exact k2.elim
          | _ => cases hc
        · replace hc : hn m = _ := hc
          rw [g2] at hc
          injection hc with hc
          cases ob' with
          | mp e2 =>
            rw [g3, (hm'.pin a (hu.big _ hp0)).2 _ k1]
            cases ob with
            | mp e3 => exact back.trans ((hm.pin m h1000).2 _ hob)
            | _ => exact k2.elim
          | _ => cases hc
      · have := (hu.new _ hp1).2; dsimp only at this; omega
    · obtain ⟨e1, e2⟩ := hnO hno
      show (∀ t c, hn m = _ → ιn m = _) ∧ ∀ es, hn m = _ → ιn m = _
      rw [e1, e2]
      exact hm.pin m h1000
  · exact hrel.ren (fun _ hb => hb) renB hu.vn
end
end Go.Proofs.YtcongikpaonliaaDoor
