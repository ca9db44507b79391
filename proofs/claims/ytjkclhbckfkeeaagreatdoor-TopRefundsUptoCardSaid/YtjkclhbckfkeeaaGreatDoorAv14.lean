import Derived.Test.YtjkclhbckfkeeaaGreatDoorAv12
import Derived.Orders
set_option linter.unusedSimpArgs false
set_option linter.unusedVariables false
set_option linter.deprecated false
namespace Go.Proofs.YtjkclhbckfkeeaaGreatDoor
open Go Go.RowKit
def Abk (N : Nat) : Option Nat -> Bool
 | some d => decide (d < N)
 | none => true
def trO (P : Program) (N : Nat) (ops : Array Oper) (o : Oper) : Option AO :=
 match AD P o.op with
 | none => none
 | some ao => if Abk N o.dst = true then match o.guard with
  | none => some ⟨o.dst, none, ao⟩
  | some (j, want) => match (ops[j]?).bind (·.dst) with
   | some t => if t < N then some ⟨o.dst, some (t, want), ao⟩ else none
   | none => none
  else none
section
variable {P : Program} {U : Tbl} {C : Ctx U} {G : Tab} {ops : Array Oper} {o : Oper} {ao : AO}
theorem QC (ht : trO P C.N ops o = some ao) : ∃ op, AD P o.op = some op /\ (∀ d, o.dst = some d -> d < C.N) /\ ao.d = o.dst /\ ao.o = op /\ ((o.guard = none /\ ao.g = none) \/ ∃ j want t, o.guard = some (j, want) /\ (ops[j]?).bind (·.dst) = some t /\ t < C.N /\ ao.g = some (t, want)) := by
 unfold trO at ht
 split at ht
 ·cases ht
 ·rename_i op hop
  split at ht
  ·rename_i hd
   have hd' : ∀ d, o.dst = some d -> d < C.N := fun d he => by rw [he] at hd; simpa [Abk] using hd
   split at ht
   ·rename_i hg
    injection ht with ht
    subst ht
    exact ⟨op, hop, hd', rfl, rfl, .inl ⟨hg, rfl⟩⟩
   ·rename_i j want hg
    split at ht
    ·rename_i t hj
     split at ht
     ·rename_i hlt
      injection ht with ht
      subst ht
      exact ⟨op, hop, hd', rfl, rfl, .inr ⟨j, want, t, hg, hj, hlt, rfl⟩⟩
     ·cases ht
    ·cases ht
  ·cases ht
theorem AiK {a : Act} {d : Nat} {v : Value} (hd : d < a.tmps.size) (t : Nat) : (a.put (some d) v).tmps.getD t undef = if t = d then v else a.tmps.getD t undef := by
 simp only [Act.put, Iq, Array.getElem?_setIfInBounds]
 by_cases e : t = d
 ·subst e; simp [hd]
 ·rw [if_neg (fun h => e h.symm), if_neg e]
theorem AiN {a : Act} {d : Option Nat} {v : Value} : (a.put d v).tmps.size = a.tmps.size := by cases d <;> simp [Act.put]
theorem AiI {a : Act} {d : Option Nat} {v : Value} : (a.put d v).defers = a.defers := by cases d <;> simp [Act.put]
theorem Good.next {s : St} {a : Act} {w : World} {M : Nat -> Prop} {ι : Nat -> Value} (hg : Good C s a w M ι) {d : Option Nat} (hd : ∀ k, d = some k -> k < C.N) {h' : Nat -> Option Ob} {v : V} {cv : Value} {w' : World} (ha : Ay C s.h w M ι h' v cv w') :
  ∃ M' ι', Good C ⟨match d with | some d => upd s.e d v | none => s.e, h'⟩ (a.put d cv) w' M' ι' := by
 obtain ⟨M', ι', hm, hr, m1, m2, hk⟩ := ha
 refine ⟨M', ι', hm, fun t => ?_, AiI.trans hg.dfr, AiN.trans hg.num⟩
 have old := (hg.env t).keep m1 m2 hk
 cases d with
 | none => exact old
 | some k =>
  rw [AiK (by rw [hg.num]; exact hd k rfl)]
  show Rel M' w' ι' h' (upd s.e k v t) _
  unfold upd
  by_cases e : t = k
  ·rw [if_pos e, if_pos e]; exact hr
  ·rw [if_neg e, if_neg e]; exact old
theorem Good.wanted {s : St} {a : Act} {w : World} {M : Nat -> Prop} {ι : Nat -> Value} (hg : Good C s a w M ι) {j t : Nat} {want c : Bool} (hgd : o.guard = some (j, want)) (hj : (ops[j]?).bind (·.dst) = some t) (ht : t < C.N) (hc : Jc (s.e t) want = some c) :
  Region.wanted o (yielded ops a.tmps) = c := by
 have hr := hg.env t
 have hlt : t < a.tmps.size := by rw [hg.num]; exact ht
 have hget : a.tmps[t]? = some (a.tmps.getD t undef) := Nk hlt
 have hy : ∀ b, a.tmps.getD t undef = .bool b -> Region.wanted o (yielded ops a.tmps) = (b == want) := fun b he => by
  rw [he] at hget
  simp [Region.wanted, hgd, yielded, hj, hget]
 unfold Jc at hc
 split at hc
 ·rename_i b e1
  rw [e1] at hr
  injection hc with hc
  rw [hy b hr.bool_inv, hc]
 ·rename_i c' b e1
  rw [e1] at hr
  injection hc with hc
  cases c' with
  | true => rw [hy b (hr.when_inv.1 rfl).bool_inv, <- hc]; rfl
  | false =>
   have hu := hr.when_inv.2 rfl
   rw [hu] at hget
   rw [<- hc]
   simp [Region.wanted, hgd, yielded, hj, hget, undef]
 ·cases hc
theorem Us (ht : trO P C.N ops o = some ao) (hG : ∀ f, Aj P U f (G f)) {s : St} {a : Act} {w : World} {M : Nat -> Prop} {ι : Nat -> Value} (hg : Good C s a w M ι) (hφ : (ao.res G s).φ) {K : Act -> World -> Prop} {Q : Exit -> Act -> World -> Prop}
  (hK : ∀ a' w' M' ι', Good C (ao.next G s) a' w' M' ι' -> K a' w') : if Region.wanted o (yielded ops a.tmps) = true then o.wp P a w K Q else K (a.put o.dst undef) w := by
 obtain ⟨op, hop, hd, e1, e2, hgu⟩ := QC ht
 obtain ⟨d, g, ao'⟩ := ao
 dsimp only at e1 e2 hgu
 subst e1 e2
 rcases hgu with ⟨g1, rfl⟩ | ⟨j, want, t, g1, hj, hlt, rfl⟩
 ·rw [if_pos (by simp [Region.wanted, g1])]
  have hs := sim (d := o.dst.getD 0) hop hG hg.mem (E := AE.ev s.e) (fun x0 y _ hy => trE_rel hg.env hy) hφ
  refine hs K Q (fun cv w' ha => ?_)
  obtain ⟨M', ι', h1⟩ := hg.next (d := o.dst) hd ha
  exact hK _ _ M' ι' h1
 ·unfold AO.res at hφ
  unfold AO.next AO.res at hK
  dsimp only at hφ hK
  cases hc : Jc (s.e t) want with
  | none => rw [hc] at hφ; exact hφ.elim
  | some c =>
   rw [hc] at hφ hK
   dsimp only at hφ hK
   rw [hg.wanted g1 hj hlt hc]
   obtain ⟨p1, p2⟩ := hφ
   cases c with
   | true =>
    rw [if_pos rfl]
    obtain ⟨p3, p4⟩ := p1 rfl
    have hs := sim (d := o.dst.getD 0) hop hG hg.mem (E := gE ao' (AE.ev s.e)) (fun x0 y hy he => by
     have hr := trE_rel hg.env he
     unfold gE
     split
     ·exact hr
     ·rename_i hp
      exact hr.strip (p3 (by simpa using hp) y hy)) p4
    rw [p2] at hs
    refine hs K Q (fun cv w' ha => ?_)
    obtain ⟨M', ι', hm, hr, m1, m2, hk⟩ := ha
    obtain ⟨M'', ι'', h1⟩ := hg.next (d := o.dst) hd (h' := s.h) (v := .when true (At G (o.dst.getD 0) (gE ao' (AE.ev s.e)) s.h ao').v) ⟨M', ι', hm, .when true _ _ (fun _ => hr) (fun e => by cases e), m1, m2, hk⟩
    exact hK _ _ M'' ι'' h1
   | false =>
    rw [if_neg (by simp)]
    obtain ⟨M'', ι'', h1⟩ := hg.next (d := o.dst) hd (h' := s.h) (v := .when false (At G (o.dst.getD 0) (gE ao' (AE.ev s.e)) s.h ao').v) (cv := undef) ⟨M, ι, hg.mem, .when false _ _ (fun e => by cases e) (fun _ => rfl), fun _ h => h, fun _ _ => rfl, Keeps.refl _ _⟩
    exact hK _ _ M'' ι'' h1
end
def GV (o : AO) (s : St) : Option Bool :=
 match o.g with
 | none => some false
 | some (t, want) => match s.e t with
  | .bool b => if b == want then some true else none
  | _ => none
def If (gd : Option Bool) (s : St) (f : Nat) (args : List AE) (cap : List V) : Option (Nat × List V) :=
 match gd with
 | none => none
 | some false => some (f, args.map (AE.ev s.e) ++ cap)
 | some true => if args.all (fun y => (y.ev s.e).cnd) then some (f, args.map (fun y => (y.ev s.e).strip) ++ cap) else none
def Cf (EF : Nat -> Bool) (o : AO) (s : St) : Option (Nat × List V) :=
 match o.o with
 | .call f args => if EF f then If (GV o s) s f args [] else none
 | .callv x args => match MK (x.ev s.e).strip with
  | some (f, cap) => if EF f then (if (x.ev s.e).cnd then If (GV o s) s f args cap else none) else none
  | none => none
 | _ => none
def Dp (P : Program) (U : Tbl) (d : Option Nat) (f : Nat) (us : List V) (s : St) (K : St -> Prop) : Prop :=
 ∃ (L0 L1 : List (Nat × Nat)) (vs : List V) (hl : List (Nat × Ob)) (v : V) (hl' : List (Nat × Ob)), Eff P U f vs hl v hl' /\ EUse s.h L0 L1 us vs hl v hl' /\
  K ⟨Cm d (v.ren (rn (L0 ++ L1))) s.e, hov (hl'.map fun q => (rn (L0 ++ L1) q.1, q.2.ren (rn (L0 ++ L1)))) s.h⟩
theorem Anf {P : Program} {op : Op} {f : Nat} {args : List AE} (h : AD P op = some (.call f args)) : ∃ args0 ats, op = .call { callee := .value (.func f), args := args0, argTypes := ats } /\ args0.toList.mapM trE = some args := by
 have mp : ∀ {α : Type} {x : Option α} {g : α -> AOp}, x.map g = some (.call f args) -> ∃ y, x = some y /\ g y = .call f args := fun h => AY.1 h
 cases op with
 | call c =>
  obtain ⟨callee, cargs, cts⟩ := c
  simp only [AD, II] at h
  split at h
  ·repeat' split at h
   all_goals first | cases h | (obtain ⟨y, _, e⟩ := mp h; cases e)
  ·repeat' split at h
   all_goals cases h
  ·repeat' split at h
   all_goals cases h
  ·repeat' split at h
   all_goals cases h
  ·obtain ⟨y, _, e⟩ := mp h; cases e
  ·split at h
   ·split at h
    ·obtain ⟨y, hy, e⟩ := mp h
     injection e with e1 e2
     subst e1 e2
     exact ⟨cargs, cts, rfl, hy⟩
    ·cases h
   ·cases h
  ·cases h
 | slice t x lo hi mx =>
  cases mx with
  | some _ =>
   simp only [AD] at h
   repeat' split at h
   all_goals cases h
  | none =>
   simp only [AD] at h
   repeat' split at h
   all_goals cases h
 | makeMap t r => cases r with | none => cases h | some _ => cases h
 | makeFunc fn _ _ =>
  cases fn with
  | func f =>
   simp only [AD] at h
   split at h
   ·obtain ⟨y, _, e⟩ := mp h; cases e
   ·cases h
  | _ => cases h
 | _ =>
  simp only [AD] at h
  repeat' split at h
  all_goals first | cases h | (obtain ⟨y, _, e⟩ := mp h; cases e)
theorem Ang {P : Program} {op : Op} {x : AE} {args : List AE} (h : AD P op = some (.callv x args)) : ∃ t args0 ats, op = .call { callee := .value (.tmp t), args := args0, argTypes := ats } /\ x = .t t /\ args0.toList.mapM trE = some args := by
 have mp : ∀ {α : Type} {y : Option α} {g : α -> AOp}, y.map g = some (.callv x args) -> ∃ z, y = some z /\ g z = .callv x args := fun h => AY.1 h
 cases op with
 | call c =>
  obtain ⟨callee, cargs, cts⟩ := c
  simp only [AD, II] at h
  split at h
  ·repeat' split at h
   all_goals first | cases h | (obtain ⟨y, _, e⟩ := mp h; cases e)
  ·repeat' split at h
   all_goals cases h
  ·repeat' split at h
   all_goals cases h
  ·repeat' split at h
   all_goals cases h
  ·rename_i t
   obtain ⟨y, hy, e⟩ := mp h
   injection e with e1 e2
   subst e1 e2
   exact ⟨t, cargs, cts, rfl, rfl, hy⟩
  ·split at h
   ·split at h
    ·obtain ⟨y, hy, e⟩ := mp h; cases e
    ·cases h
   ·cases h
  ·cases h
 | slice t x lo hi mx =>
  cases mx with
  | some _ =>
   simp only [AD] at h
   repeat' split at h
   all_goals cases h
  | none =>
   simp only [AD] at h
   repeat' split at h
   all_goals cases h
 | makeMap t r => cases r with | none => cases h | some _ => cases h
 | makeFunc fn _ _ =>
  cases fn with
  | func f =>
   simp only [AD] at h
   split at h
   ·obtain ⟨y, _, e⟩ := mp h; cases e
   ·cases h
  | _ => cases h
 | _ =>
  simp only [AD] at h
  repeat' split at h
  all_goals first | cases h | (obtain ⟨y, _, e⟩ := mp h; cases e)
section
variable {U : Tbl} {P : Program} {C : Ctx U} {ops : Array Oper} {o : Oper} {ao : AO}
theorem Of (ht : trO P C.N ops o = some ao) {EF : Nat -> Bool} {s : St} {a : Act} {w : World} {M : Nat -> Prop} {ι : Nat -> Value} (hg : Good C s a w M ι) {f : Nat} {us : List V} (he : Cf EF ao s = some (f, us)) {K2 : St -> Prop} (hS : Dp P U ao.d f us s K2) {K : Act -> World -> Prop} {Q : Exit -> Act -> World -> Prop}
  (hK : ∀ s' a' w' M' ι', K2 s' -> Good C s' a' w' M' ι' -> K a' w') : if Region.wanted o (yielded ops a.tmps) = true then o.wp P a w K Q else K (a.put o.dst undef) w := by
 obtain ⟨op, hop, hd, e1, e2, hgu⟩ := QC ht
 obtain ⟨d, g, ao'⟩ := ao
 dsimp only at e1 e2 hgu
 subst e1 e2
 have key : ∀ {f' : Nat} {args : List AE} {cap : List V}, If (GV ⟨o.dst, g, ao'⟩ s) s f' args cap = some (f, us) ->
   f' = f /\ Region.wanted o (yielded ops a.tmps) = true /\ ∃ F : V -> V, us = args.map (fun y => F (y.ev s.e)) ++ cap /\ ∀ y ∈ args, ∀ cv, Rel M w ι s.h (y.ev s.e) cv -> Rel M w ι s.h (F (y.ev s.e)) cv := by
  intro f' args cap h
  rcases hgu with ⟨g1, rfl⟩ | ⟨j, want, t, g1, hj, hlt, rfl⟩
  ·simp only [GV, If, BS, Prod.mk.injEq] at h
   obtain ⟨h1, h2⟩ := h
   exact ⟨h1, by simp [Region.wanted, g1], id, h2.symm, fun _ _ _ hr => hr⟩
  ·simp only [GV] at h
   generalize hev : s.e t = ev at h
   cases ev with
   | bool b =>
    simp only [] at h
    split at h
    ·rename_i hbw
     simp only [If] at h
     split at h
     ·rename_i hall
      simp only [BS, Prod.mk.injEq] at h
      obtain ⟨h1, h2⟩ := h
      refine ⟨h1, hg.wanted g1 hj hlt (by rw [hev]; simp only [Jc]; rw [hbw]), V.strip, h2.symm, fun y hy cv hr => hr.strip ?_⟩
      exact Ch.1 hall y hy
     ·cases h
    ·cases h
   | _ => cases h
 obtain ⟨L0, L1, vs, hl, v, hl', hE, hu, hk2⟩ := hS
 have fin : ∀ {cargs : Array Value}, (Jw P f -> (execOp a.eval o).run P w = .ok (.enter f cargs) w) -> (execOp a.eval o).run P w = (callFunc f cargs).run P w -> cargs.size = us.length -> (∀ (i : Nat) (u : V), us[i]? = some u -> Rel M w ι s.h u (cargs.getD i undef)) -> o.wp P a w K Q := by
  intro cargs hrun hrunX hlen hx
  refine (AfA hrun hrunX hE hu hg.mem hlen hx) K Q (fun cv w' ha => ?_)
  obtain ⟨M', ι', h1⟩ := hg.next (d := o.dst) hd ha
  exact hK _ _ _ M' ι' hk2 h1
 have argr : ∀ {args0 : Array Operand} {args : List AE}, args0.toList.mapM trE = some args -> (args0.map a.eval).size = args.length /\ ∀ (i : Nat) (y : AE), args[i]? = some y -> Rel M w ι s.h (y.ev s.e) ((args0.map a.eval).getD i undef) := by
  intro args0 args hm
  refine ⟨by have := NN hm; simpa using this.symm, fun i y hi => ?_⟩
  obtain ⟨x0, hx0, he0⟩ := NM hm i y hi
  have := trE_rel (a := a) hg.env he0
  rw [Cv] at hx0
  simpa [hx0] using this
 cases ao' with
 | call f' args =>
  simp only [Cf] at he
  split at he
  ·obtain ⟨rfl, hw, F, rfl, hF⟩ := key he
   rw [if_pos hw]
   obtain ⟨args0, ats, hop2, hm⟩ := Anf hop
   obtain ⟨l1, l2⟩ := argr hm
   refine fin (cargs := args0.map a.eval) ?_ (by simp only [execOp, hop2, resolve, Deferred.ofValue, Act.eval, AA, Bb, AK, invoke]; rw [LD, Array.append_empty]) (by rw [Br, Ac]; exact l1) (fun i u hi => ?_)
   ·rintro ⟨fn, hf, hbody, hname⟩
    simp only [execOp, hop2, resolve, Deferred.ofValue, Act.eval, AA, Bb, AK, invoke, callFunc, run_program, hf, hname, hbody, Bl, if_false]
    rw [LD, Array.append_empty]
   ·rw [Br, BC] at hi
    obtain ⟨y, hy, rfl⟩ := AY.1 hi
    exact hF y (Bk hy) _ (l2 i y hy)
  ·cases he
 | callv x args =>
  obtain ⟨t, args0, ats, hop2, rfl, hm⟩ := Ang hop
  obtain ⟨l1, l2⟩ := argr hm
  have hxr := hg.env t
  simp only [Cf, AE.ev] at he
  split at he
  ·rename_i f' cap hfc
   split at he
   ·by_cases hcn : (s.e t).cnd = true
    ·simp only [hcn, if_true] at he
     have hxs := hxr.strip hcn
     obtain ⟨rfl, hw, F, rfl, hF⟩ := key he
     rw [if_pos hw]
     generalize (s.e t).strip = ev at hfc hxs
     cases ev with
     | fn f2 cap2 =>
      simp only [MK, BS, Prod.mk.injEq] at hfc
      obtain ⟨rfl, rfl⟩ := hfc
      obtain ⟨cs, hcv, hcl, hcr⟩ := hxs.fn_inv
      have hcv' : a.eval (.tmp t) = .func (.func f2) #[] cs := hcv
      refine fin (cargs := args0.map a.eval ++ cs) ?_ (by simp only [execOp, hop2, resolve, Deferred.ofValue, hcv', AA, Bb, AK, invoke]; rw [LD]) (by simp only [NA, An, Ac, l1, hcl]) (fun i u hi => ?_)
      ·rintro ⟨fn, hf, hbody, hname⟩
       simp only [execOp, hop2, resolve, Deferred.ofValue, hcv', AA, Bb, AK, invoke, callFunc, run_program, hf, hname, hbody, Bl, if_false]
       rw [LD]
      ·have hget : (args0.map a.eval ++ cs).getD i undef = if i < args.length then (args0.map a.eval).getD i undef else cs.getD (i - args.length) undef := by
        simp only [Iq, Array.getElem?_append, l1]
        split <;> rfl
       rw [hget]
       by_cases c : i < args.length
       ·rw [if_pos c]
        rw [GY (by simpa using c), BC] at hi
        obtain ⟨y, hy, rfl⟩ := AY.1 hi
        exact hF y (Bk hy) _ (l2 i y hy)
       ·rw [if_neg c]
        rw [GX (by simpa using c), Ac] at hi
        exact hcr _ _ hi
     | _ => cases hfc
    ·simp [hcn] at he
   ·cases he
  ·cases he
 | _ => simp only [Cf] at he; cases he
end
def AOp.wrp : AOp -> AOp
 | .bin op x y => .binw op x y
 | .un .neg x => .negw x
 | .conv k x => .convw k x
 | o => o
def AO.wrp (o : AO) : AO := ⟨o.d, o.g, o.o.wrp⟩
theorem Aoc (o : AOp) : o.wrp.args = o.args := by
 cases o with
 | un op x => cases op <;> rfl
 | _ => rfl
theorem Ane {P : Program} {op : Op} {bo : BinOp} {x y : AE} (h : AD P op = some (.bin bo x y)) : ∃ t x0 y0 t2, op = .binOp bo t x0 y0 t2 /\ trE x0 = some x /\ trE y0 = some y := by
 have mp : ∀ {α : Type} {z : Option α} {g : α -> AOp}, z.map g = some (.bin bo x y) -> ∃ u, z = some u /\ g u = .bin bo x y := fun h => AY.1 h
 cases op with
 | binOp bo' t x0 y0 t2 =>
  simp only [AD] at h
  split at h
  ·rename_i x' y' h1 h2
   repeat' split at h
   all_goals first | cases h | (obtain ⟨u, _, e⟩ := mp h; cases e)
   all_goals exact ⟨_, _, _, _, rfl, h1, h2⟩
  ·cases h
 | call c =>
  obtain ⟨callee, cargs, cts⟩ := c
  simp only [AD, II] at h
  repeat' split at h
  all_goals first | cases h | (obtain ⟨u, _, e⟩ := mp h; cases e)
 | slice t x lo hi mx =>
  cases mx with
  | some _ =>
   simp only [AD] at h
   repeat' split at h
   all_goals cases h
  | none =>
   simp only [AD] at h
   repeat' split at h
   all_goals cases h
 | makeMap t r => cases r with | none => cases h | some _ => cases h
 | makeFunc fn _ _ =>
  cases fn with
  | func f =>
   simp only [AD] at h
   split at h
   ·obtain ⟨u, _, e⟩ := mp h; cases e
   ·cases h
  | _ => cases h
 | _ =>
  simp only [AD] at h
  repeat' split at h
  all_goals first | cases h | (obtain ⟨u, _, e⟩ := mp h; cases e)
theorem Anh {P : Program} {op : Op} {k : IntKind} {x : AE} (h : AD P op = some (.conv k x)) : ∃ src dst x0 ks, op = .convert src dst x0 /\ P.underlying src = some (.int ks) /\ P.underlying dst = some (.int k) /\ trE x0 = some x := by
 have mp : ∀ {α : Type} {z : Option α} {g : α -> AOp}, z.map g = some (.conv k x) -> ∃ u, z = some u /\ g u = .conv k x := fun h => AY.1 h
 cases op with
 | convert src dst x0 =>
  simp only [AD] at h
  split at h
  ·rename_i ks k' h1 h2
   obtain ⟨u, hu, e⟩ := mp h
   cases e
   exact ⟨_, _, _, _, rfl, h1, h2, hu⟩
  ·split at h
   ·obtain ⟨u, hu, e⟩ := mp h; cases e
   ·cases h
  ·cases h
 | call c =>
  obtain ⟨callee, cargs, cts⟩ := c
  simp only [AD, II] at h
  repeat' split at h
  all_goals first | cases h | (obtain ⟨u, _, e⟩ := mp h; cases e)
 | slice t x lo hi mx =>
  cases mx with
  | some _ =>
   simp only [AD] at h
   repeat' split at h
   all_goals cases h
  | none =>
   simp only [AD] at h
   repeat' split at h
   all_goals cases h
 | makeMap t r => cases r with | none => cases h | some _ => cases h
 | makeFunc fn _ _ =>
  cases fn with
  | func f =>
   simp only [AD] at h
   split at h
   ·obtain ⟨u, _, e⟩ := mp h; cases e
   ·cases h
  | _ => cases h
 | _ =>
  simp only [AD] at h
  repeat' split at h
  all_goals first | cases h | (obtain ⟨u, _, e⟩ := mp h; cases e)
theorem Ank {P : Program} {op : Op} {uo : UnOp} {x : AE} (h : AD P op = some (.un uo x)) : ∃ t x0, op = .unOp uo t x0 /\ trE x0 = some x := by
 have mp : ∀ {α : Type} {z : Option α} {g : α -> AOp}, z.map g = some (.un uo x) -> ∃ u, z = some u /\ g u = .un uo x := fun h => AY.1 h
 cases op with
 | unOp uo' t x0 =>
  simp only [AD] at h
  obtain ⟨u, hu, e⟩ := mp h
  cases e
  exact ⟨_, _, rfl, hu⟩
 | call c =>
  obtain ⟨callee, cargs, cts⟩ := c
  simp only [AD, II] at h
  repeat' split at h
  all_goals first | cases h | (obtain ⟨u, _, e⟩ := mp h; cases e)
 | slice t x lo hi mx =>
  cases mx with
  | some _ =>
   simp only [AD] at h
   repeat' split at h
   all_goals cases h
  | none =>
   simp only [AD] at h
   repeat' split at h
   all_goals cases h
 | makeMap t r => cases r with | none => cases h | some _ => cases h
 | makeFunc fn _ _ =>
  cases fn with
  | func f =>
   simp only [AD] at h
   split at h
   ·obtain ⟨u, _, e⟩ := mp h; cases e
   ·cases h
  | _ => cases h
 | _ =>
  simp only [AD] at h
  repeat' split at h
  all_goals first | cases h | (obtain ⟨u, _, e⟩ := mp h; cases e)
section
variable {P : Program} {U : Tbl} {C : Ctx U} {G : Tab} {ops : Array Oper} {o : Oper} {s : St} {Q : Exit -> St -> Prop}
theorem AjR {h : Nat -> Option Ob} {w : World} {M : Nat -> Prop} {ι : Nat -> Value} {a : Act} {E : AE -> V} {d : Nat} {op : BinOp} {t t2 : TypeId} {x0 y0 : Operand} {x y : AE} (ho : o.op = .binOp op t x0 y0 t2) (hm : Mem C h w M ι) (hx : Rel M w ι h (E x) (a.eval x0)) (hy : Rel M w ι h (E y) (a.eval y0)) :
  Sim P G C h w M ι o a E d (.binw op x y) := by
 have fin : ∀ {u v r : Value} {rv : V}, a.eval x0 = u -> a.eval y0 = v -> (∀ x1 y1, eqGuard op t x1 y1 u v = pure ()) -> (binOp op t u v).run P w = .ok r w -> Pur M w rv r -> CZ P o a w (Ay C h w M ι h rv) := by
  intro u v r rv hu hv hg hr hp
  exact .run (NZ ho hu hv (hg _ _) hr) (Ay.same hm (.pur hp))
 have hb : Sim P G C h w M ι o a E d (.bin op x y) := AcG ho hm hx hy
 unfold Sim At at hb
 unfold Sim At OS
 dsimp only at hb ⊢
 split
 ·rename_i p q e1 e2
  rw [e1] at hx; rw [e2] at hy
  exact fun _ => fin hx.int_inv hy.int_inv (fun _ _ => eqGuard_at_int _ _ _ _ _ _ _) (r := .int .i64 (wr (p + q))) (by rw [binOp_add]; simp [Op.intArith, wr]) (.int _ _)
 ·rename_i p q e1 e2
  rw [e1] at hx; rw [e2] at hy
  exact fun _ => fin hx.int_inv hy.int_inv (fun _ _ => eqGuard_at_int _ _ _ _ _ _ _) (r := .int .i64 (wr (p - q))) (by rw [binOp_sub]; simp [Op.intArith, wr]) (.int _ _)
 ·rename_i p q e1 e2
  rw [e1] at hx; rw [e2] at hy
  exact fun _ => fin hx.int_inv hy.int_inv (fun _ _ => eqGuard_at_int _ _ _ _ _ _ _) (r := .int .i64 (wr (p * q))) (by rw [binOp_mul]; simp [Op.intArith, wr]) (.int _ _)
 ·rename_i p q e1 e2
  rw [e1] at hx; rw [e2] at hy
  exact fun _ => fin hx.int_inv hy.int_inv (fun _ _ => eqGuard_at_int _ _ _ _ _ _ _) (r := .int .u64 (wu (p + q))) (by rw [binOp_add]; simp [Op.intArith, wu]) (.int _ _)
 ·rename_i p q e1 e2
  rw [e1] at hx; rw [e2] at hy
  exact fun _ => fin hx.int_inv hy.int_inv (fun _ _ => eqGuard_at_int _ _ _ _ _ _ _) (r := .int .u64 (wu (p - q))) (by rw [binOp_sub]; simp [Op.intArith, wu]) (.int _ _)
 ·rename_i p q e1 e2
  rw [e1] at hx; rw [e2] at hy
  exact fun _ => fin hx.int_inv hy.int_inv (fun _ _ => eqGuard_at_int _ _ _ _ _ _ _) (r := .int .u64 (wu (p * q))) (by rw [binOp_mul]; simp [Op.intArith, wu]) (.int _ _)
 ·exact hb
theorem Akg {h : Nat -> Option Ob} {w : World} {M : Nat -> Prop} {ι : Nat -> Value} {a : Act} {E : AE -> V} {d : Nat} {t : TypeId} {x0 : Operand} {x : AE} (ho : o.op = .unOp .neg t x0) (hm : Mem C h w M ι) (hx : Rel M w ι h (E x) (a.eval x0)) :
  Sim P G C h w M ι o a E d (.negw x) := by
 unfold Sim At Pc
 dsimp only
 split
 ·rename_i n e1
  rw [e1] at hx
  intro _
  refine .run (cv := .int .i64 (wr (-n))) (w' := w) ?_ (Ay.same hm (.pur (.int _ _)))
  simp [execOp, ho, hx.int_inv, Op.unary, Op.intArith, wr]
 ·exact fun hφ => hφ.elim
theorem AcF {h : Nat -> Option Ob} {w : World} {M : Nat -> Prop} {ι : Nat -> Value} {a : Act} {E : AE -> V} {d : Nat} {ao : AOp} (ho : AD P o.op = some ao) (hG : ∀ f, Aj P U f (G f)) (hm : Mem C h w M ι) (hx : ∀ x0 y, y ∈ ao.args -> trE x0 = some y -> Rel M w ι h (E y) (a.eval x0)) : Sim P G C h w M ι o a E d ao.wrp := by
 cases ao with
 | bin op x y =>
  obtain ⟨t, x0, y0, t2, hop, h1, h2⟩ := Ane ho
  exact AjR hop hm (hx x0 x (by simp [AOp.args]) h1) (hx y0 y (by simp [AOp.args]) h2)
 | un op x =>
  cases op with
  | neg =>
   obtain ⟨t, x0, hop, h1⟩ := Ank ho
   exact Akg hop hm (hx x0 x (by simp [AOp.args]) h1)
  | _ => exact sim ho hG hm hx
 | conv k x =>
  obtain ⟨src, dst, x0, ks, hop, h1, h2, h3⟩ := Anh ho
  exact AjZ hop h1 h2 hm (hx x0 x (by simp [AOp.args]) h3)
 | _ => exact sim ho hG hm hx
theorem AcX {ao : AO} (ht : trO P C.N ops o = some ao) (hG : ∀ f, Aj P U f (G f)) {s : St} {a : Act} {w : World} {M : Nat -> Prop} {ι : Nat -> Value} (hg : Good C s a w M ι) (hφ : (ao.wrp.res G s).φ) {K : Act -> World -> Prop} {Q : Exit -> Act -> World -> Prop}
  (hK : ∀ a' w' M' ι', Good C (ao.wrp.next G s) a' w' M' ι' -> K a' w') : if Region.wanted o (yielded ops a.tmps) = true then o.wp P a w K Q else K (a.put o.dst undef) w := by
 obtain ⟨op, hop, hd, e1, e2, hgu⟩ := QC ht
 obtain ⟨d, g, ao'⟩ := ao
 dsimp only at e1 e2 hgu
 subst e1 e2
 unfold AO.wrp at hφ hK
 dsimp only at hφ hK
 rcases hgu with ⟨g1, rfl⟩ | ⟨j, want, t, g1, hj, hlt, rfl⟩
 ·rw [if_pos (by simp [Region.wanted, g1])]
  have hs := AcF (d := o.dst.getD 0) hop hG hg.mem (E := AE.ev s.e) (fun x0 y _ hy => trE_rel hg.env hy) hφ
  refine hs K Q (fun cv w' ha => ?_)
  obtain ⟨M', ι', h1⟩ := hg.next (d := o.dst) hd ha
  exact hK _ _ M' ι' h1
 ·unfold AO.res at hφ
  unfold AO.next AO.res at hK
  dsimp only at hφ hK
  cases hc : Jc (s.e t) want with
  | none => rw [hc] at hφ; exact hφ.elim
  | some c =>
   rw [hc] at hφ hK
   dsimp only at hφ hK
   rw [hg.wanted g1 hj hlt hc]
   obtain ⟨p1, p2⟩ := hφ
   cases c with
   | true =>
    rw [if_pos rfl]
    obtain ⟨p3, p4⟩ := p1 rfl
    have hs := AcF (d := o.dst.getD 0) hop hG hg.mem (E := gE ao'.wrp (AE.ev s.e)) (fun x0 y hy he => by
     have hr := trE_rel hg.env he
     unfold gE
     split
     ·exact hr
     ·rename_i hp
      exact hr.strip (p3 (by simpa using hp) y (by rw [Aoc]; exact hy))) p4
    rw [p2] at hs
    refine hs K Q (fun cv w' ha => ?_)
    obtain ⟨M', ι', hm, hr, m1, m2, hk⟩ := ha
    obtain ⟨M'', ι'', h1⟩ := hg.next (d := o.dst) hd (h' := s.h) (v := .when true (At G (o.dst.getD 0) (gE ao'.wrp (AE.ev s.e)) s.h ao'.wrp).v) ⟨M', ι', hm, .when true _ _ (fun _ => hr) (fun e => by cases e), m1, m2, hk⟩
    exact hK _ _ M'' ι'' h1
   | false =>
    rw [if_neg (by simp)]
    obtain ⟨M'', ι'', h1⟩ := hg.next (d := o.dst) hd (h' := s.h) (v := .when false (At G (o.dst.getD 0) (gE ao'.wrp (AE.ev s.e)) s.h ao'.wrp).v) (cv := undef) ⟨M, ι, hg.mem, .when false _ _ (fun e => by cases e) (fun _ => rfl), fun _ h => h, fun _ _ => rfl, Keeps.refl _ _⟩
    exact hK _ _ M'' ι'' h1
theorem XI {EF : Nat -> Bool} {ao : AO} {f : Nat} {us : List V} (h : Cf EF ao.wrp s = some (f, us)) : ao.wrp = ao := by
 obtain ⟨d, g, o⟩ := ao
 cases o with
 | bin op x y => simp [Cf, AO.wrp, AOp.wrp] at h
 | conv k x => simp [Cf, AO.wrp, AOp.wrp] at h
 | un op x => cases op <;> simp [Cf, AO.wrp, AOp.wrp] at h
 | _ => rfl
def TrO (P : Program) (N : Nat) (ops : Array Oper) (o : Oper) (ao : AO) : Prop := ∃ ao0, trO P N ops o = some ao0 /\ (ao = ao0 \/ ao = ao0.wrp)
end
section
variable {P : Program} {U : Tbl} {C : Ctx U} {G : Tab} {ops : Array Oper} {o : Oper} {ao : AO}
theorem AkY (ht : TrO P C.N ops o ao) (hG : ∀ f, Aj P U f (G f)) {s : St} {a : Act} {w : World} {M : Nat -> Prop} {ι : Nat -> Value} (hg : Good C s a w M ι) (hφ : (ao.res G s).φ) {K : Act -> World -> Prop} {Q : Exit -> Act -> World -> Prop}
  (hK : ∀ a' w' M' ι', Good C (ao.next G s) a' w' M' ι' -> K a' w') : if Region.wanted o (yielded ops a.tmps) = true then o.wp P a w K Q else K (a.put o.dst undef) w := by
 obtain ⟨ao0, h0, rfl | rfl⟩ := ht
 ·exact Us h0 hG hg hφ hK
 ·exact AcX h0 hG hg hφ hK
theorem AkW (ht : TrO P C.N ops o ao) {EF : Nat -> Bool} {s : St} {a : Act} {w : World} {M : Nat -> Prop} {ι : Nat -> Value} (hg : Good C s a w M ι) {f : Nat} {us : List V} (he : Cf EF ao s = some (f, us)) {K2 : St -> Prop} (hS : Dp P U ao.d f us s K2) {K : Act -> World -> Prop} {Q : Exit -> Act -> World -> Prop}
  (hK : ∀ s' a' w' M' ι', K2 s' -> Good C s' a' w' M' ι' -> K a' w') : if Region.wanted o (yielded ops a.tmps) = true then o.wp P a w K Q else K (a.put o.dst undef) w := by
 obtain ⟨ao0, h0, rfl | rfl⟩ := ht
 ·exact Of h0 hg he hS hK
 ·have e := XI he
  rw [e] at he hS
  exact Of h0 hg he hS hK
end
section
variable {G : Tab} {d : Nat} {E E' : AE -> V} {h h' : Nat -> Option Ob}
theorem AfF {sz : Option Nat} {x : V} (hh : ∀ n ∈ x.nm, h n = h' n) : GK h sz x = GK h' sz x := by
 cases x <;> first | rfl | (simp only [GK]; rw [hh _ (Bp.2 rfl)])
theorem AfK {sz : Nat} {x y : V} (hh : ∀ n ∈ x.nm, h n = h' n) : JZ h sz y x = JZ h' sz y x := by
 cases x <;> first | rfl | (simp only [JZ]; rw [hh _ (Bp.2 rfl)])
theorem AfC {off : Nat} {x : V} (hh : ∀ n ∈ x.nm, h n = h' n) : JU h off x = JU h' off x := by
 cases x <;> first | rfl | (simp only [JU]; rw [hh _ (Bp.2 rfl)])
theorem AfD {sz : Nat} {x y : V} (hh : ∀ n ∈ x.nm, h n = h' n) : IV h sz x y = IV h' sz x y := by
 cases x with
 | own n len =>
  have e := hh n (Bp.2 rfl)
  cases y with
  | int k i => cases k <;> first | rfl | (simp only [IV]; rw [e])
  | _ => rfl
 | vw n off len m fit =>
  have e := hh n (Bp.2 rfl)
  cases y with
  | int k i => cases k <;> first | rfl | (simp only [IV]; rw [e])
  | _ => rfl
 | list rows fit =>
  cases y with
  | int k i => cases k <;> rfl
  | _ => rfl
 | _ => rfl
theorem AfL {sz : Nat} {lo hi mx : Option V} {x : V} (hh : ∀ n ∈ x.nm, h n = h' n) : Hr h sz lo hi mx x = Hr h' sz lo hi mx x := by
 cases x with
 | own n len =>
  have e := hh n (Bp.2 rfl)
  cases mx with
  | none => simp only [Hr]; rw [e]
  | some u => cases u <;> first | rfl | (simp only [Hr]; rw [e])
 | vw n off len m fit =>
  have e := hh n (Bp.2 rfl)
  cases mx with
  | none => simp only [Hr]; rw [e]
  | some u => cases u <;> first | rfl | (simp only [Hr]; rw [e])
 | _ => cases mx with
  | none => rfl
  | some u => cases u <;> rfl
theorem AfE {x : V} (hh : ∀ n ∈ x.nm, h n = h' n) : JV h x = JV h' x := by
 cases x <;> first | rfl | (simp only [JV]; rw [hh _ (Bp.2 rfl)])
theorem AfB {op : BinOp} {x y : V} (hh : ∀ n ∈ x.nm, h n = h' n) : JT h op x y = JT h' op x y := by
 cases op <;> first | rfl | (cases x <;> first | rfl | (cases y <;> first | rfl | (simp only [JT]; rw [hh _ (Bp.2 rfl)])))
theorem Ajj {x : V} (hh : ∀ n ∈ x.nm, h n = h' n) : HJ h x = HJ h' x := by
 cases x <;> first | rfl | (simp only [HJ]; rw [hh _ (Bp.2 rfl)])
theorem WJ {x : V} (hh : ∀ n ∈ x.nm, h n = h' n) : Dr h x = Dr h' x := by
 cases x <;> first | rfl | (simp only [Dr]; rw [hh _ (Bp.2 rfl)])
theorem OG {x : V} (hh : ∀ n ∈ x.nm, h n = h' n) : Fl h x = Fl h' x := by
 cases x <;> first | rfl | (simp only [Fl]; rw [hh _ (Bp.2 rfl)])
theorem Ahr {x : V} (hh : ∀ n ∈ x.nm, h n = h' n) : KD h x = KD h' x := by
 cases x <;> first | rfl | (simp only [KD]; rw [hh _ (Bp.2 rfl)])
theorem AfJ {ks : Nat} {m k x : V} (hh : ∀ n ∈ m.nm, h n = h' n) : JY h ks m k x = JY h' ks m k x := by
 cases m with
 | map n =>
  have e := hh n (Bp.2 rfl)
  simp only [JY]
  cases Lz k with
  | none => rfl
  | some key => dsimp only; rw [e]
 | _ => rfl
theorem AfI {t : TypeId} {sz bytes : Nat} {zero : List V} {x y : V} (hh : h d = h' d) : JX d h t sz bytes zero x y = JX d h' t sz bytes zero x y := by
 unfold JX
 rw [hh]
theorem AfH {t : TypeId} {sz bytes : Nat} {zero : List V} {x y : V} (hh : h d = h' d) : JW d h t sz bytes zero x y = JW d h' t sz bytes zero x y := by
 unfold JW
 rw [hh]
theorem Wq {ao : AOp} (hE : ∀ x ∈ ao.args, E x = E' x) (hh : ∀ n ∈ rdF d E ao, h n = h' n) : At G d E h ao = At G d E' h' ao /\ rdF d E ao = rdF d E' ao /\ wrF d E ao = wrF d E' ao := by
 cases ao with
 | build zero ps =>
  have e1 : ∀ p ∈ ps, E p.2.2 = E' p.2.2 := fun p hp => hE _ (Am.2 ⟨p, hp, rfl⟩)
  refine ⟨?_, rfl, rfl⟩
  unfold At
  have h1 : (ps.map fun p => (p.1, (E p.2.2).cells)) = ps.map fun p => (p.1, (E' p.2.2).cells) := FZ fun p hp => by rw [e1 p hp]
  have h2 : (∀ p ∈ ps, (E p.2.2).shaped = true /\ (E p.2.2).cells.length = p.2.1) = ∀ p ∈ ps, (E' p.2.2).shaped = true /\ (E' p.2.2).cells.length = p.2.1 :=
   propext ⟨fun hh p hp => by rw [<- e1 p hp]; exact hh p hp, fun hh p hp => by rw [e1 p hp]; exact hh p hp⟩
  simp only [h1, h2]
 | slc t sz ow ps =>
  have e1 : ∀ p ∈ ps, E p = E' p := hE
  refine ⟨?_, rfl, rfl⟩
  unfold At Hq
  have h1 : (ps.map fun p => (E p).cells) = ps.map fun p => (E' p).cells := FZ fun p hp => by rw [e1 p hp]
  have h1n : (ps.map fun p => (E p).cells.map V.nn1) = ps.map fun p => (E' p).cells.map V.nn1 := FZ fun p hp => by rw [e1 p hp]
  have h2 : (∀ p ∈ ps, (E p).shaped = true /\ (E p).cells.length = sz) = ∀ p ∈ ps, (E' p).shaped = true /\ (E' p).cells.length = sz :=
   propext ⟨fun hh p hp => by rw [<- e1 p hp]; exact hh p hp, fun hh p hp => by rw [e1 p hp]; exact hh p hp⟩
  have h4 : (ps.all fun p => (E p).pur) = ps.all fun p => (E' p).pur := by
   rw [Bool.eq_iff_iff, Ch, Ch]
   exact ⟨fun hh p hp => by rw [<- e1 p hp]; exact hh p hp, fun hh p hp => by rw [e1 p hp]; exact hh p hp⟩
  have h3 : h d = h' d := hh d (by simp [rdF])
  simp only [h1, h1n, h2, h3, h4]
 | call f as =>
  have e1 : ∀ p ∈ as, E p = E' p := hE
  have hn : ∀ p ∈ as, ∀ n ∈ (E p).nm, h n = h' n := fun p hp n hn => hh n (Kt.2 ⟨p, hp, hn⟩)
  have h1 : (as.map fun x => Dr h (E x)) = as.map fun x => Dr h' (E' x) := FZ fun p hp => by rw [<- e1 p hp]; exact WJ (hn p hp)
  have h2 : (∀ x ∈ as, Fl h (E x)) = ∀ x ∈ as, Fl h' (E' x) := propext ⟨fun hq p hp => by rw [<- e1 p hp, <- OG (hn p hp)]; exact hq p hp, fun hq p hp => by have := hq p hp; rwa [<- e1 p hp, <- OG (hn p hp)] at this⟩
  have h3 : (as.any fun x => (E x).isOwn) = as.any fun x => (E' x).isOwn := by
   clear h1 h2 hn hh hE
   induction as with
   | nil => rfl
   | cons p ps ih => simp only [List.any_cons]; rw [e1 p (AH ..), ih (fun q hq => e1 q (AU _ hq))]
  refine ⟨?_, ?_, rfl⟩
  ·unfold At
   simp only [h1, h2, h3]
  ·show (as.flatMap fun x => (E x).nm) = as.flatMap fun x => (E' x).nm
   clear h1 h2 h3 hn hh hE
   induction as with
   | nil => rfl
   | cons p ps ih => simp only [Ny]; rw [e1 p (AH ..), ih (fun q hq => e1 q (AU _ hq))]
 | callv x as =>
  have e0 : E x = E' x := hE x (AH ..)
  have e1 : ∀ p ∈ as, E p = E' p := fun p hp => hE p (AU _ hp)
  have hn : ∀ p ∈ as, ∀ n ∈ (E p).nm, h n = h' n := fun p hp n hn => hh n (Kt.2 ⟨p, hp, hn⟩)
  have h1 : (as.map fun x => Dr h (E x)) = as.map fun x => Dr h' (E' x) := FZ fun p hp => by rw [<- e1 p hp]; exact WJ (hn p hp)
  have h2 : (∀ x ∈ as, Fl h (E x)) = ∀ x ∈ as, Fl h' (E' x) := propext ⟨fun hq p hp => by rw [<- e1 p hp, <- OG (hn p hp)]; exact hq p hp, fun hq p hp => by have := hq p hp; rwa [<- e1 p hp, <- OG (hn p hp)] at this⟩
  have h3 : (as.any fun x => (E x).isOwn) = as.any fun x => (E' x).isOwn := by
   clear h1 h2 hn hh hE
   induction as with
   | nil => rfl
   | cons p ps ih => simp only [List.any_cons]; rw [e1 p (AH ..), ih (fun q hq => e1 q (AU _ hq))]
  refine ⟨?_, ?_, rfl⟩
  ·unfold At
   simp only [e0, h1, h2, h3]
  ·show (as.flatMap fun x => (E x).nm) = as.flatMap fun x => (E' x).nm
   clear h1 h2 h3 hn hh hE
   induction as with
   | nil => rfl
   | cons p ps ih => simp only [Ny]; rw [e1 p (AH ..), ih (fun q hq => e1 q (AU _ hq))]
 | mkfn f cs =>
  have h1 : cs.map E = cs.map E' := FZ fun p hp => hE p hp
  simp only [At, rdF, wrF, h1, and_self]
 | mkmap => have h3 : h d = h' d := hh d (by simp [rdF]); simp only [At, rdF, wrF, h3, and_self]
 | look ks ok zero m k =>
  have e := hE m (by simp [AOp.args]); have e2 := hE k (by simp [AOp.args])
  simp only [rdF] at hh
  have h3 := Ahr hh
  simp only [At, ML, rdF, wrF, <- e, <- e2, h3, and_self]
 | mset ks m k x =>
  have e := hE m (by simp [AOp.args]); have e2 := hE k (by simp [AOp.args]); have e3 := hE x (by simp [AOp.args])
  simp only [rdF] at hh
  have h3 := AfJ (ks := ks) (k := E k) (x := E x) hh
  simp only [At, rdF, wrF, <- e, <- e2, <- e3, h3, and_self]
 | mks t sz bytes zero n c =>
  have e := hE n (by simp [AOp.args]); have e2 := hE c (by simp [AOp.args])
  have h3 : h d = h' d := hh d (by simp [rdF])
  simp only [At, rdF, wrF, <- e, <- e2, AfH h3, and_self]
 | mkv t sz bytes zero n c =>
  have e := hE n (by simp [AOp.args]); have e2 := hE c (by simp [AOp.args])
  have h3 : h d = h' d := hh d (by simp [rdF])
  simp only [At, rdF, wrF, <- e, <- e2, AfI h3, and_self]
 | mn x y => have e := hE x (by simp [AOp.args]); have e2 := hE y (by simp [AOp.args]); simp only [At, rdF, wrF, e, e2, and_self]
 | mx x y => have e := hE x (by simp [AOp.args]); have e2 := hE y (by simp [AOp.args]); simp only [At, rdF, wrF, e, e2, and_self]
 | sub sz lo hi mx x =>
  have e := hE x (by simp [AOp.args])
  simp only [rdF] at hh
  have e4 : mx.map E = mx.map E' := by cases mx with | none => rfl | some z => simp only [Er]; rw [hE z (by simp [AOp.args])]
  have h3 := AfL (sz := sz) (lo := lo.map E) (hi := hi.map E) (mx := mx.map E) hh
  have e2 : lo.map E = lo.map E' := by cases lo with | none => rfl | some z => simp only [Er]; rw [hE z (by simp [AOp.args])]
  have e3 : hi.map E = hi.map E' := by cases hi with | none => rfl | some z => simp only [Er]; rw [hE z (by simp [AOp.args])]
  refine ⟨?_, by simp only [rdF, e], rfl⟩
  simp only [At]
  rw [h3, e, e2, e3, e4]
 | ssub lo hi x =>
  have e := hE x (by simp [AOp.args])
  have e2 : lo.map E = lo.map E' := by cases lo with | none => rfl | some z => simp only [Er]; rw [hE z (by simp [AOp.args])]
  have e3 : hi.map E = hi.map E' := by cases hi with | none => rfl | some z => simp only [Er]; rw [hE z (by simp [AOp.args])]
  simp only [At, rdF, wrF, e, e2, e3, and_self]
 | conv k x => have e := hE x (by simp [AOp.args]); simp only [At, rdF, wrF, e, and_self]
 | convw k x => have e := hE x (by simp [AOp.args]); simp only [At, rdF, wrF, e, and_self]
 | b2s x => have e := hE x (by simp [AOp.args]); simp only [At, rdF, wrF, e, and_self]
 | mv x => have e := hE x (by simp [AOp.args]); simp only [At, rdF, wrF, e, and_self]
 | pick c x y => have e1 := hE c (by simp [AOp.args]); have e2 := hE x (by simp [AOp.args]); have e3 := hE y (by simp [AOp.args]); simp only [At, rdF, wrF, e1, e2, e3, and_self]
 | box t x => have e := hE x (by simp [AOp.args]); have h3 : h d = h' d := hh d (by simp [rdF]); simp only [At, rdF, wrF, e, h3, and_self]
 | alloc t z => have h3 : h d = h' d := hh d (by simp [rdF]); simp only [At, rdF, wrF, h3, and_self]
 | load sz x => have e := hE x (by simp [AOp.args]); simp only [rdF] at hh; have h3 := AfF (sz := sz) hh; simp only [At, rdF, wrF, <- e, h3, and_self]
 | store sz x y => have e := hE x (by simp [AOp.args]); have e2 := hE y (by simp [AOp.args]); simp only [rdF] at hh; have h3 := AfK (sz := sz) (y := E y) hh; simp only [At, rdF, wrF, <- e, <- e2, h3, and_self]
 | nchk x =>
  have e := hE x (by simp [AOp.args])
  simp only [rdF] at hh
  refine ⟨?_, by simp only [rdF, e], rfl⟩
  simp only [At, <- e]
  generalize E x = ex at hh
  cases ex <;> first | rfl | (dsimp only; rw [hh _ (Bp.2 rfl)])
 | bin op x y => have e := hE x (by simp [AOp.args]); have e2 := hE y (by simp [AOp.args]); simp only [At, rdF, wrF, e, e2, and_self]
 | binb op x y => have e := hE x (by simp [AOp.args]); have e2 := hE y (by simp [AOp.args]); simp only [At, rdF, wrF, e, e2, and_self]
 | binn op x y => have e := hE x (by simp [AOp.args]); have e2 := hE y (by simp [AOp.args]); simp only [rdF] at hh; have h3 := AfB (op := op) (y := E y) hh; simp only [At, rdF, wrF, <- e, <- e2, h3, and_self]
 | binw op x y => have e := hE x (by simp [AOp.args]); have e2 := hE y (by simp [AOp.args]); simp only [At, rdF, wrF, e, e2, and_self]
 | negw x => have e := hE x (by simp [AOp.args]); simp only [At, rdF, wrF, e, and_self]
 | mki tt x => have e := hE x (by simp [AOp.args]); simp only [At, rdF, wrF, e, and_self]
 | bina ks op x y => have e := hE x (by simp [AOp.args]); have e2 := hE y (by simp [AOp.args]); simp only [At, rdF, wrF, e, e2, and_self]
 | un op x => have e := hE x (by simp [AOp.args]); simp only [At, rdF, wrF, e, and_self]
 | fld off x => have e := hE x (by simp [AOp.args]); simp only [rdF] at hh; have h3 := AfC (off := off) hh; simp only [At, rdF, wrF, <- e, h3, and_self]
 | idx sz x i => have e := hE x (by simp [AOp.args]); have e2 := hE i (by simp [AOp.args]); simp only [rdF] at hh; have h3 := AfD (sz := sz) (y := E i) hh; simp only [At, rdF, wrF, <- e, <- e2, h3, and_self]
 | idxa sz n x i => have e := hE x (by simp [AOp.args]); have e2 := hE i (by simp [AOp.args]); simp only [At, rdF, wrF, e, e2, and_self]
 | idxv ag sz n x i => have e := hE x (by simp [AOp.args]); have e2 := hE i (by simp [AOp.args]); simp only [At, rdF, wrF, e, e2, and_self]
 | sidx x i => have e := hE x (by simp [AOp.args]); have e2 := hE i (by simp [AOp.args]); simp only [At, rdF, wrF, e, e2, and_self]
 | ext k x => have e := hE x (by simp [AOp.args]); simp only [At, rdF, wrF, e, and_self]
 | len x => have e := hE x (by simp [AOp.args]); simp only [rdF] at hh; have h3 := AfE hh; simp only [At, rdF, wrF, <- e, h3, and_self]
 | slen x => have e := hE x (by simp [AOp.args]); simp only [At, rdF, wrF, e, and_self]
 | app t sz bytes x y =>
  have e := hE x (by simp [AOp.args])
  have e2 := hE y (by simp [AOp.args])
  simp only [rdF, AN, BT] at hh
  have h3 : h d = h' d := hh d (.inl rfl)
  have h4 : HJ h (E y) = HJ h' (E y) := Ajj fun n hn => hh n (.inr (.inr hn))
  refine ⟨?_, by simp only [rdF, e, e2], by simp only [wrF, e]⟩
  simp only [At, MJ, <- e, <- e2, <- h4]
  clear e e2 h4
  generalize E x = ex at hh
  cases ex <;> first | rfl | (simp only [h3]; done) | (dsimp only; rw [hh _ (.inr (.inl (Bp.2 rfl)))]; done) | (dsimp only; rw [hh _ (.inr (.inl (Bp.2 rfl))), h3])
theorem AdX {ao : AOp} : ∀ p ∈ (At G d E h ao).w, p.1 ∈ wrF d E ao := by
 intro p hp
 have no : ∀ {r : Res}, p ∈ r.w -> r.w = [] -> False := fun h1 h2 => by rw [h2] at h1; cases h1
 cases ao with
 | box t x => simp only [At, Bp] at hp; subst hp; simp [wrF]
 | alloc t z => simp only [At, Bp] at hp; subst hp; simp [wrF]
 | slc t sz ow ps =>
  simp only [At, Hq] at hp
  split at hp
  ·cases hp
  ·simp only [Bp] at hp; subst hp; simp [wrF]
 | store sz x y =>
  simp only [At, JZ] at hp
  simp only [wrF]
  split at hp
  ·split at hp
   ·rename_i e1 _ _ _; simp only [Bp] at hp; subst hp; simp [V.nm, *]
   ·cases hp
  ·split at hp
   ·simp only [Bp] at hp; subst hp; simp [V.nm, *]
   ·cases hp
  ·cases hp
 | app t sz bytes x y =>
  simp only [At, MJ] at hp
  simp only [wrF]
  split at hp
  ·cases hp
  ·split at hp
   ·simp only [Bp] at hp; subst hp; simp
   ·split at hp
    ·simp only [Bp] at hp; subst hp; simp [V.nm, *]
    ·cases hp
   ·split at hp
    ·split at hp <;> (simp only [Bp] at hp; subst hp; simp [V.nm, *])
    ·cases hp
   ·simp only [Bp] at hp; subst hp; simp
   ·cases hp
 | mkmap => simp only [At, Bp] at hp; subst hp; simp [wrF]
 | mks t sz bytes zero n c =>
  simp only [At, JW] at hp
  simp only [wrF]
  split at hp
  ·simp only [Bp] at hp; subst hp; simp
  ·cases hp
 | mkv t sz bytes zero n c =>
  simp only [At, JX] at hp
  simp only [wrF]
  split at hp
  ·simp only [Bp] at hp; subst hp; simp
  ·cases hp
 | mset ks m k x =>
  simp only [At, JY] at hp
  simp only [wrF]
  split at hp
  ·split at hp
   ·simp only [Bp] at hp; subst hp; simp [V.nm, *]
   ·cases hp
  ·cases hp
 | bin op x y =>
  refine (no hp ?_).elim
  simp only [At]
  generalize E x = ex
  generalize E y = ey
  unfold Lg
  split <;> first | rfl | (unfold IW; (repeat' split) <;> rfl)
 | binw op x y =>
  refine (no hp ?_).elim
  simp only [At]
  generalize E x = ex
  generalize E y = ey
  unfold OS
  split
  iterate 6 rfl
  unfold Lg
  split <;> first | rfl | (unfold IW; (repeat' split) <;> rfl)
 | negw x =>
  refine (no hp ?_).elim
  simp only [At, Pc]
  split <;> rfl
 | _ => exact (no hp (by simp only [At, ML, Pa, Pb, Hr, Pd, OU, OV, OP, OT, OR, OQ, JT, JS, Pe, OZ, GK, JU, IV, OW, OX, JV, OY, Cs]; (repeat' split) <;> rfl)).elim
end
def BV (P : Program) (U : Tbl) (EF : Nat -> Bool) (G : Tab) : List AO -> St -> (St -> Prop) -> Prop
 | [], s, K => K s
 | o :: os, s, K => match Cf EF o s with
  | some (f, us) => Dp P U o.d f us s fun s' => BV P U EF G os s' K
  | none => (o.res G s).φ /\ BV P U EF G os (o.next G s) K
def JO (a b : List Nat) : Bool := a.all fun n => b.all fun m => n != m
structure Fp where
 i : Nat
 rd : List Nat
 wr : List Nat
 all : Bool
def Fp.free (f : Fp) : Bool := !f.all && (f.rd.isEmpty && f.wr.isEmpty)
def Fp.indep (f g : Fp) : Bool := bif f.all then g.free else bif g.all then f.free else (JO f.wr g.rd && JO f.rd g.wr)
def AO.fp (o : AO) (i : Nat) (s : St) : Fp := ⟨i, o.rd s, o.wr s, false⟩
def GT (i : Nat) : Fp := ⟨i, [], [], true⟩
def CP (P : Program) (U : Tbl) (EF : Nat -> Bool) (G : Tab) (D : List (List Nat)) : List (Nat × AO) -> List Fp -> St -> (St -> Prop) -> Prop
 | [], _, s, K => K s
 | (i, o) :: os, past, s, K => match Cf EF o s with
  | some (f, us) => (∀ f ∈ past, f.i ∈ D.getD i [] \/ f.indep (GT i) = true) /\ Dp P U o.d f us s fun s' => CP P U EF G D os (GT i :: past) s' K
  | none => (o.res G s).φ /\ (∀ f ∈ past, f.i ∈ D.getD i [] \/ f.indep (o.fp i s) = true) /\ CP P U EF G D os (o.fp i s :: past) (o.next G s) K
def AO.apart (o p : AO) : Bool :=
 (match o.d with | some d => !p.slots.contains d | none => true) && (match p.d with | some d => !o.slots.contains d | none => true) && (match o.d, p.d with | some d, some d' => d != d' | _, _ => true)
theorem OF {a b : List Nat} (h : JO a b = true) {n : Nat} (ha : n ∈ a) (hb : n ∈ b) : False := by
 have := Ch.1 (Ch.1 h n ha) n hb
 simp at this
theorem Ta {f g : Fp} (h : f.indep g = true) : g.indep f = true := by
 have sym : ∀ {a b : List Nat}, JO a b = true -> JO b a = true := fun {a b} h => Ch.2 fun n hn => Ch.2 fun m hm => by
  simp only [bne_iff_ne, ne_eq]
  rintro rfl
  exact OF h hm hn
 unfold Fp.indep at h ⊢
 cases hf : f.all with
 | true =>
  rw [hf] at h
  cases hg : g.all with
  | true => simp only [cond_true, Fp.free, hg, Bool.not_true, Bool.false_and] at h; cases h
  | false => exact h
 | false =>
  rw [hf] at h
  cases hg : g.all with
  | true => rw [hg] at h; exact h
  | false =>
   rw [hg] at h
   simp only [cond_false, Bx] at h ⊢
   exact ⟨sym h.2, sym h.1⟩
theorem Ip {h : Nat -> Option Ob} : ∀ {l : List (Nat × Ob)} {n : Nat}, (∀ p ∈ l, p.1 ≠ n) -> Ck h l n = h n
 | [], _, _ => rfl
 | (m, o) :: r, n, hl => by
  show Ck (BI h m o) r n = h n
  have ne := hl (m, o) (AH ..)
  have key : ∀ {l : List (Nat × Ob)} {h1 h2 : Nat -> Option Ob}, h1 n = h2 n -> (∀ p ∈ l, p.1 ≠ n) -> Ck h1 l n = Ck h2 l n := by
   intro l
   induction l with
   | nil => exact fun e _ => e
   | cons q l ih =>
    intro h1 h2 e hq
    refine ih ?_ (fun p hp => hq p (AU _ hp))
    unfold BI
    rw [if_neg (fun e => hq q (AH ..) e.symm), if_neg (fun e => hq q (AH ..) e.symm)]
    exact e
  rw [key (h2 := h) (by unfold BI; rw [if_neg (fun e => ne e.symm)]) (fun p hp => hl p (AU _ hp))]
  exact Ip (fun p hp => hl p (AU _ hp))
theorem Ags {h : Nat -> Option Ob} : ∀ {l r : List (Nat × Ob)}, (∀ p ∈ l, ∀ q ∈ r, p.1 ≠ q.1) -> Ck (Ck h l) r = Ck (Ck h r) l := by
 intro l r hlr
 funext n
 have loc : ∀ {l : List (Nat × Ob)} {h1 h2 : Nat -> Option Ob}, (∃ p ∈ l, p.1 = n) -> Ck h1 l n = Ck h2 l n := by
  intro l
  induction l with
  | nil => rintro h1 h2 ⟨p, hp, _⟩; cases hp
  | cons q l ih =>
   rintro h1 h2 ⟨p, hp, e⟩
   by_cases hl : ∃ p ∈ l, p.1 = n
   ·exact ih hl
   ·have hno : ∀ p ∈ l, p.1 ≠ n := fun p hp e => hl ⟨p, hp, e⟩
    have hq : q.1 = n := by
     rcases AN.1 hp with rfl | hp
     ·exact e
     ·exact absurd e (hno p hp)
    show Ck (BI h1 q.1 q.2) l n = Ck (BI h2 q.1 q.2) l n
    rw [Ip hno, Ip hno]
    unfold BI
    rw [if_pos hq.symm, if_pos hq.symm]
 by_cases c1 : ∃ p ∈ l, p.1 = n
 ·obtain ⟨p, hp, e⟩ := c1
  have hr : ∀ q ∈ r, q.1 ≠ n := fun q hq e' => hlr p hp q hq (e.trans e'.symm)
  rw [Ip hr]
  exact loc ⟨p, hp, e⟩
 ·have hl : ∀ q ∈ l, q.1 ≠ n := fun q hq e' => c1 ⟨q, hq, e'⟩
  rw [Ip hl]
  by_cases c2 : ∃ q ∈ r, q.1 = n
  ·exact loc c2
  ·have hr : ∀ q ∈ r, q.1 ≠ n := fun q hq e' => c2 ⟨q, hq, e'⟩
   rw [Ip hr, Ip hr, Ip hl]
theorem UR {e : Nat -> V} {a b : Nat} {u v : V} (h : a ≠ b) : upd (upd e a u) b v = upd (upd e b v) a u := by
 funext t
 unfold upd
 by_cases c1 : t = b
 ·by_cases c2 : t = a
  ·exact absurd (c2.symm.trans c1) h
  ·rw [if_pos c1, if_neg c2, if_pos c1]
 ·by_cases c2 : t = a
  ·rw [if_neg c1, if_pos c2, if_pos c2]
  ·rw [if_neg c1, if_neg c2, if_neg c2, if_neg c1]
theorem AE.ev_congr {e e' : Nat -> V} {x : AE} (h : ∀ n ∈ x.slots, e n = e' n) : x.ev e = x.ev e' := by
 cases x with
 | t n => exact h n (Bp.2 rfl)
 | v x => rfl
theorem AO.congr (G : Tab) {o : AO} {s s' : St} (he : ∀ n ∈ o.slots, s.e n = s'.e n) (hh : ∀ n ∈ o.rd s, s.h n = s'.h n) : o.res G s = o.res G s' /\ o.rd s = o.rd s' /\ o.wr s = o.wr s' := by
 obtain ⟨d, g, ao⟩ := o
 have hE : ∀ x ∈ ao.args, AE.ev s.e x = AE.ev s'.e x := fun x hx => AE.ev_congr fun n hn => he n (Np _ (Kt.2 ⟨x, hx, hn⟩))
 cases g with
 | none => exact Wq hE hh
 | some tw =>
  obtain ⟨t, want⟩ := tw
  have ht : s.e t = s'.e t := he t (KC _ (Bp.2 rfl))
  have hE2 : ∀ x ∈ ao.args, gE ao (AE.ev s.e) x = gE ao (AE.ev s'.e) x := fun x hx => by
   unfold gE
   split
   ·exact hE x hx
   ·show (AE.ev s.e x).strip = (AE.ev s'.e x).strip
    rw [hE x hx]
  obtain ⟨a1, a2, a3⟩ := Wq (G := G) (d := d.getD 0) hE2 hh
  refine ⟨?_, a2, rfl⟩
  unfold AO.res
  simp only [ht, a1]
  cases Jc (s'.e t) want with
  | none => rfl
  | some c =>
   have : (∀ x ∈ ao.args, (x.ev s.e).cnd = true) = ∀ x ∈ ao.args, (x.ev s'.e).cnd = true := propext ⟨fun h x hx => by rw [<- hE x hx]; exact h x hx, fun h x hx => by rw [hE x hx]; exact h x hx⟩
   simp only [this]
theorem AO.next_e (G : Tab) {o : AO} {s : St} {n : Nat} (h : o.d ≠ some n) : (o.next G s).e n = s.e n := by
 unfold AO.next
 cases hd : o.d with
 | none => rfl
 | some d =>
  show upd s.e d _ n = _
  unfold upd
  rw [if_neg (fun e => h (by rw [hd, e]))]
theorem AO.res_wr (G : Tab) (o : AO) (s : St) : ∀ p ∈ (o.res G s).w, p.1 ∈ o.wr s := by
 obtain ⟨d, g, ao⟩ := o
 cases g with
 | none => exact AdX
 | some tw =>
  intro p hp
  unfold AO.res at hp
  dsimp only at hp
  split at hp <;> cases hp
theorem AO.next_h (G : Tab) {o : AO} {s : St} {n : Nat} (h : n ∉ o.wr s) : (o.next G s).h n = s.h n :=
 Ip fun p hp e => h (e ▸ o.res_wr G s p hp)
theorem AO.next_def (G : Tab) (o : AO) (s : St) : o.next G s = ⟨Cm o.d (o.res G s).v s.e, Ck s.h (o.res G s).w⟩ := rfl
theorem AO.comm (G : Tab) {o p : AO} {s : St} {i j : Nat} (ha : o.apart p = true) (hi : (p.fp j s).indep (o.fp i (p.next G s)) = true) (hp : (p.res G s).φ) (ho : (o.res G (p.next G s)).φ) :
  (o.res G s).φ /\ (p.res G (o.next G s)).φ /\ p.next G (o.next G s) = o.next G (p.next G s) /\ o.fp i s = o.fp i (p.next G s) /\ p.fp j (o.next G s) = p.fp j s := by
 simp only [AO.apart, Bx] at ha
 obtain ⟨⟨a1, a2⟩, a3⟩ := ha
 simp only [Fp.indep, AO.fp, cond_false, Bx] at hi
 obtain ⟨i1, i2⟩ := hi
 have eo : ∀ n ∈ o.slots, (p.next G s).e n = s.e n := fun n hn => AO.next_e G fun e => by
  rw [e] at a2
  simp at a2
  exact a2 hn
 have ep : ∀ n ∈ p.slots, (o.next G s).e n = s.e n := fun n hn => AO.next_e G fun e => by
  rw [e] at a1
  simp at a1
  exact a1 hn
 obtain ⟨c1, c2, c3⟩ := AO.congr G (o := o) (s := p.next G s) (s' := s) eo (fun n hn => AO.next_h G fun hw => OF i1 hw hn)
 rw [c2] at i1
 rw [c3] at i2
 obtain ⟨d1, d2, d3⟩ := AO.congr G (o := p) (s := s) (s' := o.next G s) (fun n hn => (ep n hn).symm) (fun n hn => (AO.next_h G fun hw => OF i2 hn hw).symm)
 refine ⟨by rw [<- c1]; exact ho, by rw [<- d1]; exact hp, ?_, by simp only [AO.fp, c2, c3], by simp only [AO.fp, d2, d3]⟩
 have h1 : Ck (Ck s.h (o.res G s).w) (p.res G s).w = Ck (Ck s.h (p.res G s).w) (o.res G s).w := by
  refine Ags fun q hq r hr e => ?_
  have hq' := o.res_wr G s q hq
  have hr' := p.res_wr G s r hr
  have rdwr : ∀ {o : AO} {s : St} {n : Nat}, n ∈ o.wr s -> n ∈ o.rd s := by
   intro o s n hn
   obtain ⟨d, g, ao⟩ := o
   cases g with
   | none =>
    simp only [AO.wr, AO.rd] at hn ⊢
    cases ao <;> simp only [wrF, rdF, AN, BT] at hn ⊢ <;> first | exact hn | (exact hn.imp id .inl) | exact .inl hn | (cases hn; done)
   | some tw => simp only [AO.wr] at hn; cases hn
  exact OF i1 hr' (by rw [<- e]; exact rdwr hq')
 have hn : p.next G (o.next G s) = ⟨Cm p.d (p.res G s).v (Cm o.d (o.res G s).v s.e), Ck (Ck s.h (o.res G s).w) (p.res G s).w⟩ := by
  rw [AO.next_def G p, <- d1, AO.next_def G o]
 have hn2 : o.next G (p.next G s) = ⟨Cm o.d (o.res G s).v (Cm p.d (p.res G s).v s.e), Ck (Ck s.h (p.res G s).w) (o.res G s).w⟩ := by
  rw [AO.next_def G o, c1, AO.next_def G p]
 rw [hn, hn2, h1]
 congr 1
 cases hod : o.d with
 | none => cases p.d <;> rfl
 | some d =>
  cases hpd : p.d with
  | none => rfl
  | some d' =>
   rw [hod, hpd] at a3
   simp only [bne_iff_ne, ne_eq] at a3
   exact UR a3
theorem Dp.mono {P : Program} {U : Tbl} {d : Option Nat} {f : Nat} {us : List V} {s : St} {K K' : St -> Prop} (h : Dp P U d f us s K) (hk : ∀ s', K s' -> K' s') : Dp P U d f us s K' :=
 let ⟨L0, L1, vs, hl, v, hl', h1, h2, h3⟩ := h; ⟨L0, L1, vs, hl, v, hl', h1, h2, hk _ h3⟩
theorem Lf {EF : Nat -> Bool} {o : AO} {s s' : St} (he : ∀ n ∈ o.slots, s.e n = s'.e n) : Cf EF o s = Cf EF o s' := by
 obtain ⟨d, g, ao⟩ := o
 have hE : ∀ x ∈ ao.args, AE.ev s.e x = AE.ev s'.e x := fun x hx => AE.ev_congr fun n hn => he n (Np _ (Kt.2 ⟨x, hx, hn⟩))
 have hgo : GV ⟨d, g, ao⟩ s = GV ⟨d, g, ao⟩ s' := by
  cases g with
  | none => rfl
  | some p =>
   obtain ⟨t, want⟩ := p
   have : s.e t = s'.e t := he t (KC _ (Bp.2 rfl))
   simp only [GV, this]
 have hA : ∀ (f : Nat) (as : List AE) (cap : List V), (∀ x ∈ as, AE.ev s.e x = AE.ev s'.e x) -> If (GV ⟨d, g, ao⟩ s) s f as cap = If (GV ⟨d, g, ao⟩ s') s' f as cap := by
  intro f as cap h
  rw [hgo]
  have h1 : as.map (AE.ev s.e) = as.map (AE.ev s'.e) := FZ h
  have h2 : as.map (fun y => (y.ev s.e).strip) = as.map (fun y => (y.ev s'.e).strip) := FZ fun x hx => by rw [h x hx]
  have h3 : as.all (fun y => (y.ev s.e).cnd) = as.all (fun y => (y.ev s'.e).cnd) := by
   rw [Bool.eq_iff_iff, Ch, Ch]
   exact ⟨fun q x hx => by rw [<- h x hx]; exact q x hx, fun q x hx => by rw [h x hx]; exact q x hx⟩
  unfold If
  rw [h1, h2, h3]
 cases ao with
 | call f as =>
  simp only [Cf]
  rw [hA f as [] hE]
 | callv x as =>
  have h2 : AE.ev s.e x = AE.ev s'.e x := hE x (AH ..)
  simp only [Cf, h2]
  split
  ·rename_i f cap _
   rw [hA f as cap (fun y hy => hE y (AU _ hy))]
  ·rfl
 | _ => rfl
section
variable {P : Program} {U : Tbl} {EF : Nat -> Bool} {G : Tab} {D : List (List Nat)}
theorem MB : ∀ {L : List (Nat × AO)} {past past' : List Fp} {s : St} {K : St -> Prop}, (∀ f ∈ past', f ∈ past) -> CP P U EF G D L past s K -> CP P U EF G D L past' s K
 | [], _, _, _, _, _, h => h
 | (i, o) :: L, past, past', s, K, hp, h => by
  have sub : ∀ (x : Fp), ∀ f ∈ x :: past', f ∈ x :: past := fun x f hf => by
   rcases AN.1 hf with rfl | hf
   ·exact AH ..
   ·exact AU _ (hp f hf)
  unfold CP at h ⊢
  split
  ·rename_i f us he
   rw [he] at h
   exact ⟨fun f hf => h.1 f (hp f hf), h.2.mono fun s' h3 => MB (sub _) h3⟩
  ·rename_i he
   rw [he] at h
   obtain ⟨h1, h2, h3⟩ := h
   exact ⟨h1, fun f hf => h2 f (hp f hf), MB (sub _) h3⟩
theorem Dp.comm {o : AO} {d : Option Nat} {f : Nat} {us : List V} {s : St} {K : St -> Prop} {i : Nat} (h : Dp P U d f us s K) (ha : ∀ n, d = some n -> n ∉ o.slots) (hd : ∀ n m, o.d = some n -> d = some m -> n ≠ m) (hK : ∀ s', K s' -> (o.fp i s').free = true /\ (o.res G s').φ) :
  (o.fp i s).free = true /\ (o.res G s).φ /\ Dp P U d f us (o.next G s) (fun s2 => ∃ s1, K s1 /\ s2 = o.next G s1 /\ o.fp i s1 = o.fp i s) := by
 obtain ⟨L0, L1, vs, hl, v, hl', h1, h2, h3⟩ := h
 obtain ⟨k1, k2⟩ := hK _ h3
 generalize hs1 : (⟨Cm d (v.ren (rn (L0 ++ L1))) s.e, hov (hl'.map fun q => (rn (L0 ++ L1) q.1, q.2.ren (rn (L0 ++ L1)))) s.h⟩ : St) = s1 at h3 k1 k2
 have es : ∀ n ∈ o.slots, s1.e n = s.e n := fun n hn => by
  rw [<- hs1]
  show Cm d _ s.e n = s.e n
  cases d with
  | none => rfl
  | some m => show upd s.e m _ n = _; unfold upd; rw [if_neg (fun e : n = m => ha m rfl (e ▸ hn))]
 simp only [Fp.free, AO.fp, Bool.not_false, NF, Bx, List.isEmpty_iff] at k1
 obtain ⟨c1, c2, c3⟩ := AO.congr G (o := o) (s := s1) (s' := s) es (fun n hn => by rw [k1.1] at hn; cases hn)
 have hw : (o.res G s).w = [] := List.eq_nil_iff_forall_not_mem.2 fun q hq => by
  have := o.res_wr G s q hq
  rw [<- c3, k1.2] at this; cases this
 have hnx : o.next G s = ⟨Cm o.d (o.res G s).v s.e, s.h⟩ := by rw [AO.next_def, hw]; rfl
 refine ⟨?_, by rw [<- c1]; exact k2, L0, L1, vs, hl, v, hl', h1, by rw [hnx]; exact h2, s1, h3, ?_, by simp only [AO.fp, c2, c3]⟩
 ·simp only [Fp.free, AO.fp, <- c2, <- c3, k1.1, k1.2]; rfl
 ·rw [AO.next_def G o s1, c1, hw, hnx, <- hs1]
  show (⟨Cm d _ (Cm o.d _ s.e), _⟩ : St) = ⟨Cm o.d _ (Cm d _ s.e), _⟩
  congr 1
  cases hod : o.d with
  | none => cases d <;> rfl
  | some n =>
   cases d with
   | none => rfl
   | some m => exact UR (hd n m hod rfl)
theorem Ru : ∀ {L1 L2 : List (Nat × AO)} {i : Nat} {o : AO} {past : List Fp} {s : St} {K : St -> Prop}, (∀ q ∈ L1, q.1 ∉ D.getD i [] /\ i ∉ D.getD q.1 [] /\ o.apart q.2 = true) ->
  CP P U EF G D (L1 ++ (i, o) :: L2) past s K -> CP P U EF G D ((i, o) :: (L1 ++ L2)) past s K
 | [], _, _, _, _, _, _, _, h => h
 | (j, p) :: L1, L2, i, o, past, s, K, hL, h => by
  obtain ⟨n1, n2, n3⟩ := hL (j, p) (AH ..)
  rw [DN] at h
  unfold CP at h
  split at h
  ·rename_i f us hep
   obtain ⟨h1, h3⟩ := h
   have ha := n3
   simp only [AO.apart, Bx] at ha
   obtain ⟨⟨a1, a2⟩, a3⟩ := ha
   have key : ∀ s', CP P U EF G D (L1 ++ (i, o) :: L2) (GT j :: past) s' K -> Cf EF o s' = none /\ (o.fp i s').free = true /\ (o.res G s').φ /\ (∀ f ∈ past, f.i ∈ D.getD i [] \/ f.indep (o.fp i s') = true) /\ CP P U EF G D (L1 ++ L2) (o.fp i s' :: GT j :: past) (o.next G s') K := fun s' h => by
    have h4 := Ru (fun q hq => hL q (AU _ hq)) h
    unfold CP at h4
    split at h4
    ·rcases h4.1 (GT j) (AH ..) with h5 | h5
     ·exact absurd h5 n1
     ·cases h5
    ·rename_i heo
     obtain ⟨g1, g2, g3⟩ := h4
     refine ⟨heo, ?_, g1, fun f hf => g2 f (AU _ hf), g3⟩
     exact (g2 (GT j) (AH ..)).resolve_left n1
   obtain ⟨c1, c2, c3⟩ := Dp.comm (G := G) (o := o) (i := i) h3 (fun n e hn => by rw [e] at a2; simp at a2; exact a2 hn) (fun n m e1 e2 => by rw [e1, e2] at a3; simpa using a3) fun s' h => ⟨(key s' h).2.1, (key s' h).2.2.1⟩
   have es : ∀ {s1 : St}, Cf EF o s1 = none -> (∀ n ∈ o.slots, s1.e n = s.e n) -> Cf EF o s = none := fun h1 h2 => by rw [<- Lf h2]; exact h1
   obtain ⟨M0, M1, vs, hl, v, hl', e1, e2, s1, e3, e4, e5⟩ := id c3
   have heo : Cf EF o s = none := by
    obtain ⟨N0, N1, ws, kl, u, kl', b1, b2, b3⟩ := h3
    refine es (key _ b3).1 fun n hn => ?_
    show Cm p.d _ s.e n = s.e n
    cases hpd : p.d with
    | none => rfl
    | some m =>
     show upd s.e m _ n = _
     unfold upd
     rw [if_neg (fun e => by rw [hpd] at a2; simp at a2; exact a2 (e ▸ hn))]
   have ep : ∀ n ∈ p.slots, (o.next G s).e n = s.e n := fun n hn => AO.next_e G fun e => by
    rw [e] at a1
    simp at a1
    exact a1 hn
   unfold CP
   rw [heo]
   refine ⟨c2, fun f hf => ?_, ?_⟩
   ·rw [<- e5]; exact (key s1 e3).2.2.2.1 f hf
   ·rw [DN]
    unfold CP
    rw [Lf (s' := s) ep, hep]
    refine ⟨fun f hf => ?_, c3.mono fun s2 ⟨s1, q1, q2, q3⟩ => ?_⟩
    ·rcases AN.1 hf with rfl | hf
     ·exact .inr (Ta (f := GT j) (g := o.fp i s) c1)
     ·exact h1 f hf
    ·rw [q2]
     refine MB (fun f hf => ?_) (key s1 q1).2.2.2.2
     rw [q3]
     simp only [AN] at hf ⊢
     rcases hf with hf | hf | hf
     ·exact .inr (.inl hf)
     ·exact .inl hf
     ·exact .inr (.inr hf)
  ·rename_i hep
   obtain ⟨h1, h2, h3⟩ := h
   have h4 := Ru (fun q hq => hL q (AU _ hq)) h3
   have ha := n3
   simp only [AO.apart, Bx] at ha
   obtain ⟨⟨a1, a2⟩, a3⟩ := ha
   have eo : ∀ n ∈ o.slots, (p.next G s).e n = s.e n := fun n hn => AO.next_e G fun e => by
    rw [e] at a2
    simp at a2
    exact a2 hn
   have ep : ∀ n ∈ p.slots, (o.next G s).e n = s.e n := fun n hn => AO.next_e G fun e => by
    rw [e] at a1
    simp at a1
    exact a1 hn
   unfold CP at h4
   split at h4
   ·rename_i f us heo
    have hfr : (p.fp j s).free = true := by
     have := (h4.1 _ (AH ..)).resolve_left n1
     exact Ta (f := p.fp j s) (g := GT i) this
    simp only [Fp.free, AO.fp, Bool.not_false, NF, Bx, List.isEmpty_iff] at hfr
    have hw : (p.res G s).w = [] := List.eq_nil_iff_forall_not_mem.2 fun q hq => by
     have := p.res_wr G s q hq
     rw [hfr.2] at this; cases this
    have hnx : p.next G s = ⟨Cm p.d (p.res G s).v s.e, s.h⟩ := by rw [AO.next_def, hw]; rfl
    have heo' : Cf EF o s = some (f, us) := by rw [<- Lf (s := p.next G s) eo]; exact heo
    obtain ⟨h5, N0, N1, ws, kl, u, kl', b1, b2, b3⟩ := h4
    unfold CP
    rw [heo']
    refine ⟨fun f hf => h5 f (AU _ hf), N0, N1, ws, kl, u, kl', b1, by rw [hnx] at b2; exact b2, ?_⟩
    generalize hs1 : (⟨Cm o.d (u.ren (rn (N0 ++ N1))) s.e, hov (kl'.map fun q => (rn (N0 ++ N1) q.1, q.2.ren (rn (N0 ++ N1)))) s.h⟩ : St) = s1
    have ep1 : ∀ n ∈ p.slots, s1.e n = s.e n := fun n hn => by
     rw [<- hs1]
     show Cm o.d _ s.e n = s.e n
     cases hod : o.d with
     | none => rfl
     | some m =>
      show upd s.e m _ n = _
      unfold upd
      rw [if_neg (fun e => by rw [hod] at a1; simp at a1; exact a1 (e ▸ hn))]
    obtain ⟨c1, c2, c3⟩ := AO.congr G (o := p) (s := s) (s' := s1) (fun n hn => (ep1 n hn).symm) (fun n hn => by rw [hfr.1] at hn; cases hn)
    have hn1 : p.next G s1 = (⟨Cm o.d (u.ren (rn (N0 ++ N1))) (p.next G s).e, hov (kl'.map fun q => (rn (N0 ++ N1) q.1, q.2.ren (rn (N0 ++ N1)))) (p.next G s).h⟩ : St) := by
     rw [AO.next_def G p s1, <- c1, hw, hnx, <- hs1]
     show (⟨Cm p.d _ (Cm o.d _ s.e), _⟩ : St) = ⟨Cm o.d _ (Cm p.d _ s.e), _⟩
     congr 1
     cases hod : o.d with
     | none => cases p.d <;> rfl
     | some n =>
      cases hpd : p.d with
      | none => rfl
      | some m =>
       rw [hod, hpd] at a3
       simp only [bne_iff_ne, ne_eq] at a3
       exact (UR a3)
    rw [DN]
    unfold CP
    rw [Lf (s' := s) ep1, hep]
    refine ⟨by rw [<- c1]; exact h1, fun f hf => ?_, ?_⟩
    ·rcases AN.1 hf with rfl | hf
     ·refine .inr ?_
      show (p.fp j s1).free = true
      simp only [Fp.free, AO.fp, <- c2, <- c3, hfr.1, hfr.2]; rfl
     ·have e5 : p.fp j s1 = p.fp j s := by simp only [AO.fp, c2, c3]
      rw [e5]; exact h2 f hf
    ·rw [hn1]
     refine MB (fun f hf => ?_) b3
     have e5 : p.fp j s1 = p.fp j s := by simp only [AO.fp, c2, c3]
     rw [e5] at hf
     simp only [AN] at hf ⊢
     rcases hf with hf | hf | hf
     ·exact .inr (.inl hf)
     ·exact .inl hf
     ·exact .inr (.inr hf)
   ·rename_i heo
    obtain ⟨g1, g2, g3⟩ := h4
    have hind : (p.fp j s).indep (o.fp i (p.next G s)) = true := (g2 _ (AH ..)).resolve_left n1
    obtain ⟨c1, c2, c3, c4, c5⟩ := AO.comm G n3 hind h1 g1
    have heo' : Cf EF o s = none := by rw [<- Lf (s := p.next G s) eo]; exact heo
    have hep' : Cf EF p (o.next G s) = none := by rw [Lf (s' := s) ep]; exact hep
    unfold CP
    rw [heo']
    refine ⟨c1, fun f hf => ?_, ?_⟩
    ·rw [c4]; exact g2 f (AU _ hf)
    ·rw [DN]
     unfold CP
     rw [hep']
     refine ⟨c2, fun f hf => ?_, ?_⟩
     ·rcases AN.1 hf with rfl | hf
      ·exact .inr (by rw [c5, c4]; exact Ta hind)
      ·rw [c5]; exact h2 f hf
     ·rw [c3, c4, c5]
      refine MB (fun f hf => ?_) g3
      simp only [AN] at hf ⊢
      rcases hf with hf | hf | hf
      ·exact .inr (.inl hf)
      ·exact .inl hf
      ·exact .inr (.inr hf)
end
end Go.Proofs.YtjkclhbckfkeeaaGreatDoor
