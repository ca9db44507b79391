/- One state for another: what is forgotten, slices that nobody writes any more, a nil slice that will grow. Entering and leaving a function. -/
import Derived.Test.YtcongikpaonliaaDoorAv15
namespace Go.Proofs.YtcongikpaonliaaDoor
open Go Go.RowKit
set_option linter.unusedSimpArgs false
set_option linter.unusedVariables false
set_option linter.deprecated false
/-- One value for another. -/
inductive Wk (h : Nat → Option Ob) (hl : List (Nat × Ob)) : V → V → Prop
  | any (v : V) : Wk h hl v .any
  | same (v : V) (hn : v.nin (hl.map (·.1)) = true) : Wk h hl v v
  | frz (n : Nat) (t : TypeId) (sz : Nat) (rows : List (List V)) (hn : h n = some (.arr t sz rows)) (h' : mkH hl n = none) (hp : ∀ r ∈ rows, V.purs r = true) : Wk h hl (.own n rows.length) (.list rows false)
  | nilo (m : Nat) (t : TypeId) (sz : Nat) (h' : mkH hl m = some (.arr t sz [])) (hn : h m = none) : Wk h hl .nils (.own m 0)
  | nill (fit : Bool) : Wk h hl .nils (.list [] fit)
  | frzb (n off : Nat) (t : TypeId) (cells : List V) (hn : h n = some (.box t cells)) (h' : mkH hl n = none) (hp : V.purs cells = true) : Wk h hl (.ptr n off) (.row cells off)
  | fnc (f : Nat) (as bs : List V) (hl2 : as.length = bs.length) (hw : ∀ (i : Nat) (u v : V), as[i]? = some u → bs[i]? = some v → Wk h hl u v) : Wk h hl (.fn f as) (.fn f bs)
def All2W (h : Nat → Option Ob) (hl : List (Nat × Ob)) : List V → List V → Prop
  | [], [] => True
  | a :: as, b :: bs => Wk h hl a b ∧ All2W h hl as bs
  | _, _ => False
/-- One object for another. -/
def WkOb (h : Nat → Option Ob) (hl : List (Nat × Ob)) : Option Ob → Ob → Prop
  | some (.box t c), .box t' c' => t' = t ∧ All2W h hl c c'
  | some (.arr t sz r), .arr t' sz' r' => t' = t ∧ sz' = sz ∧ r' = r ∧ ∀ x ∈ r, V.purs x = true
  | some (.mp es), .mp es' => es' = es ∧ ∀ kv ∈ es, kv.2.pur = true
  | none, .arr _ _ r => r = []
  | _, _ => False
theorem All2W.length {h : Nat → Option Ob} {hl : List (Nat × Ob)} : ∀ {a b : List V}, All2W h hl a b → a.length = b.length
  | [], [], _ => rfl
  | _ :: _, _ :: _, h => by simp [All2W.length h.2]
theorem All2W.get {h : Nat → Option Ob} {hl : List (Nat × Ob)} : ∀ {a b : List V}, All2W h hl a b → ∀ {i : Nat} {v : V}, b[i]? = some v → ∃ u, a[i]? = some u ∧ Wk h hl u v
  | [], [], _, i, v, hi => by simp at hi
  | x :: xs, y :: ys, hh, 0, v, hi => by
    simp only [List.getElem?_cons_zero, Option.some.injEq] at hi
    subst hi
    exact ⟨x, rfl, hh.1⟩
  | x :: xs, y :: ys, hh, i + 1, v, hi => by
    rw [List.getElem?_cons_succ] at hi ⊢
    exact All2W.get hh.2 hi
section
variable {U : Tbl} {C : Ctx U} {h : Nat → Option Ob} {w : World} {M : Nat → Prop} {ι : Nat → Value}
theorem Mem.own_list (hm : Mem C h w M ι) {n : Nat} {t : TypeId} {sz : Nat} {rows : List (List V)} (hn : h n = some (.arr t sz rows)) (hp : ∀ r ∈ rows, V.purs r = true) {M' : Nat → Prop} (hM : ∀ b, M b → M' b) (hb : ∀ b, blk (ι n) = some b → M' b) : Pur M' w (.list rows false) (ι n) := by
  obtain ⟨xs, hown, hrl, hx1, hxr⟩ := hm.obj n _ hn
  rcases hown.2 with ⟨e, h0⟩ | ⟨g, cap, cur, e, _, hh, hnc, _⟩
  · have h00 : rows = [] := List.length_eq_zero_iff.1 h0
    subst h00
    rw [e]
    exact .list [] false none 0 0 0 0 (fun _ _ => undef) (fun e => by cases e) (Nat.le_refl _) (fun _ => rfl) (.inl rfl) (fun r hr => by simp at hr) (fun i j hi _ => absurd hi (Nat.not_lt_zero _)) (fun i j r v hi => by simp at hi)
  · rw [e]
    refine .list rows false (some ⟨g, 0, none⟩) cap sz g 0 (fun i j => xs.getD (i * sz + j) undef) (fun e => by cases e) hnc (fun e => by cases e) (.inr ⟨rfl, hb g (by rw [e]; rfl)⟩) hrl (fun i j hi hj => ?_) (fun i j r v hi hj => ?_)
    · have hlt : i * sz + j < xs.length := by
        rw [hown.1]
        have : i * sz + sz ≤ rows.length * sz := by rw [← Nat.succ_mul]; exact Nat.mul_le_mul_right _ hi
        omega
      have hx := getD_of_lt undef hlt
      refine ⟨?_, hx1 _ (List.mem_of_getElem? hx)⟩
      have := hown.cells (g := g) (by rw [e]; rfl) _ _ hx
      rwa [addr_add, ← Nat.add_assoc] at this
    · exact ((hxr i j r v hi hj).toPur (purs_mem (hp r (List.mem_of_getElem? hi)) hj)).wide hM
/-- The handles of the new state. -/
def wkI (h : Nat → Option Ob) (ι : Nat → Value) : Nat → Value := fun n => if (h n).isSome then ι n else .slice none 0 0
def wkM (h : Nat → Option Ob) (hl : List (Nat × Ob)) (ι : Nat → Value) (M : Nat → Prop) : Nat → Prop := fun b => M b ∨ ∃ n o, h n = some o ∧ mkH hl n = none ∧ blk (ι n) = some b
theorem Rel.nin {hl : List (Nat × Ob)} (hob : ∀ q ∈ hl, WkOb h hl (h q.1) q.2) {M' : Nat → Prop} (hM : ∀ b, M b → M' b) {v : V} {cv : Value} (r : Rel M w ι h v cv) : v.nin (hl.map (·.1)) = true → Rel M' w (wkI h ι) (mkH hl) v cv := by
  have look : ∀ {n : Nat} {o : Ob}, (hl.map (·.1)).contains n = true → h n = some o → wkI h ι n = ι n ∧ ∃ o', mkH hl n = some o' ∧ WkOb h hl (some o) o' := by
    intro n o hc hn
    have hd := mkH_dom (List.contains_iff_mem.1 hc)
    obtain ⟨o', ho'⟩ := Option.isSome_iff_exists.1 hd
    have hq := hob _ (mkH_mem ho')
    dsimp only at hq
    rw [hn] at hq
    exact ⟨by unfold wkI; rw [hn]; rfl, o', ho', hq⟩
  induction r with
  | pur hp => exact fun _ => .pur (hp.wide hM)
  | agg vs cs hl' ho _ ih => exact fun hn => .agg vs cs hl' ho (fun i v hi => ih i v hi (nins_mem (by simpa only [V.nin] using hn) hi))
  | tup vs cs hl' _ ih => exact fun hn => .tup vs cs hl' (fun i v hi => ih i v hi (nins_mem (by simpa only [V.nin] using hn) hi))
  | fn n vs cs hl' _ ih => exact fun hn => .fn n vs cs hl' (fun i v hi => ih i v hi (nins_mem (by simpa only [V.nin] using hn) hi))
  | when b v cv _ hf ih => exact fun hn => .when b v cv (fun e => ih e (by simpa only [V.nin] using hn)) hf
  | ptrb n off b t cells ho hb =>
    intro hn
    simp only [V.nin] at hn
    obtain ⟨e1, o', e2, e3⟩ := look hn ho
    cases o' with
    | box t' c' => obtain ⟨rfl, _⟩ := e3; exact .ptrb n off b _ c' e2 (e1.trans hb)
    | _ => exact e3.elim
  | eptr n len i off t sz rows cv ho hle hs hv =>
    intro hn
    simp only [V.nin] at hn
    obtain ⟨e1, o', e2, e3⟩ := look hn ho
    cases o' with
    | arr t' sz' r' =>
      obtain ⟨rfl, rfl, rfl, _⟩ := e3
      exact .eptr n len i off _ _ _ cv e2 hle hs (fun e => by rw [e1]; exact hv e)
    | _ => exact e3.elim
  | own n len t sz rows cv ho hle hv hs =>
    intro hn
    simp only [V.nin] at hn
    obtain ⟨e1, o', e2, e3⟩ := look hn ho
    cases o' with
    | arr t' sz' r' =>
      obtain ⟨rfl, rfl, rfl, _⟩ := e3
      exact .own n len _ _ _ cv e2 hle (fun e => by rw [e1]; exact hv e) hs
    | _ => exact e3.elim
  | map n es ho cv hv hs =>
    intro hn
    simp only [V.nin] at hn
    obtain ⟨e1, o', e2, e3⟩ := look hn ho
    cases o' with
    | mp es' => exact .map n es' e2 cv (hv.trans e1.symm) hs
    | _ => exact e3.elim
theorem Rel.wk {hl : List (Nat × Ob)} (hm : Mem C h w M ι) (hob : ∀ q ∈ hl, WkOb h hl (h q.1) q.2) {v v' : V} {cv : Value} (r : Rel M w ι h v cv) (hw : Wk h hl v v') : Rel (wkM h hl ι M) w (wkI h ι) (mkH hl) v' cv := by
  induction hw generalizing cv with
  | any => exact .pur (.any _)
  | fnc f as bs hl2 _ ih =>
    obtain ⟨cs, e, hcl, hcr⟩ := r.fn_inv
    rw [e]
    refine .fn f bs cs (by omega) (fun i v hi => ?_)
    have hia : i < as.length := by rw [hl2]; exact (List.getElem?_eq_some_iff.1 hi).1
    exact ih i _ v (List.getElem?_eq_getElem hia) hi (hcr i _ (List.getElem?_eq_getElem hia))
  | frzb n off t cells hn h' hp =>
    obtain ⟨b, t2, cells2, hn2, hb, e⟩ := r.ptr_inv
    rw [hn] at hn2
    injection hn2 with hn2
    injection hn2 with e1 e2
    subst e1 e2
    obtain ⟨b2, cs, e3, hh, hl3, ho, hv⟩ := hm.obj n _ hn
    rw [hb] at e3
    injection e3 with e3; injection e3 with e3; injection e3 with e3
    subst e3
    rw [e, show (⟨b, off, none⟩ : Addr) = ⟨b, 0 + off, none⟩ by rw [Nat.zero_add]]
    refine .pur (.row cells off b 0 (fun j => cs.getD j undef) (.inr ⟨n, _, hn, h', by rw [hb]; rfl⟩) (fun j hj => ?_) (fun j v hj => ((hv j v hj).toPur (purs_mem hp hj)).wide (fun _ h => .inl h)))
    have hc := getD_arr (cs := cs) (k := j) (by omega)
    refine ⟨by rw [Nat.zero_add, cell_of_row w b j cs t (0, 0) hh, hc], ho _ ?_⟩
    rw [← Array.getElem?_toList] at hc
    exact List.mem_of_getElem? hc
  | same _ hn => exact r.nin hob (fun _ hb => .inl hb) hn
  | frz n t sz rows hn h' hp =>
    obtain ⟨t2, sz2, rows2, hn2, _, hv⟩ := r.own_inv
    rw [hn] at hn2
    injection hn2 with hn2
    injection hn2 with e1 e2 e3
    subst e1 e2 e3
    rw [hv rfl]
    exact .pur (hm.own_list hn hp (fun _ hb => .inl hb) (fun b hb => .inr ⟨n, _, hn, h', hb⟩))
  | nilo m t sz h' hn =>
    have e := r.nils_inv
    subst e
    exact .own m 0 t sz [] _ h' (Nat.le_refl _) (fun _ => by unfold wkI; rw [hn]; rfl) rfl
  | nill fit =>
    have e := r.nils_inv
    subst e
    exact .pur (.list [] fit none 0 0 0 0 (fun _ _ => undef) (fun _ => rfl) (Nat.le_refl _) (fun _ => rfl) (.inl rfl) (fun r hr => by simp at hr) (fun i j hi _ => absurd hi (Nat.not_lt_zero _)) (fun i j r v hi => by simp at hi))
theorem obR.wk {hl : List (Nat × Ob)} (hm : Mem C h w M ι) (hob : ∀ q ∈ hl, WkOb h hl (h q.1) q.2) {n : Nat} {o o' : Ob} (hn : h n = some o) (hw : WkOb h hl (some o) o') : obR (wkM h hl ι M) w (wkI h ι) (mkH hl) n o' := by
  have hr := hm.obj n o hn
  have hi : wkI h ι n = ι n := by unfold wkI; rw [hn]; rfl
  have pr : ∀ {v : V} {cv : Value}, Rel M w ι h v cv → v.pur = true → Rel (wkM h hl ι M) w (wkI h ι) (mkH hl) v cv := fun hv hp => .pur ((hv.toPur hp).wide (fun _ hb => .inl hb))
  cases o with
  | box t c =>
    cases o' with
    | box t' c' =>
      obtain ⟨rfl, h2⟩ := hw
      obtain ⟨b, cs, e, hh, hl', ho, hv⟩ := hr
      refine ⟨b, cs, hi.trans e, hh, by rw [← h2.length]; exact hl', ho, fun i v hi' => ?_⟩
      obtain ⟨u, hu, hwk⟩ := h2.get hi'
      exact (hv i u hu).wk hm hob hwk
    | _ => exact hw.elim
  | arr t sz r =>
    cases o' with
    | arr t' sz' r' =>
      obtain ⟨rfl, rfl, rfl, hp⟩ := hw
      obtain ⟨xs, hown, hrl, hx1, hv⟩ := hr
      exact ⟨xs, by rw [hi]; exact hown, hrl, hx1, fun i j r v h1 h2 => pr (hv i j r v h1 h2) (purs_mem (hp r (List.mem_of_getElem? h1)) h2)⟩
    | _ => exact hw.elim
  | mp es =>
    cases o' with
    | mp es' =>
      obtain ⟨rfl, hp⟩ := hw
      obtain ⟨b, ents, clock, e, hh, hl', hv⟩ := hr
      refine ⟨b, ents, clock, hi.trans e, hh, hl', fun i kv hi' => ?_⟩
      obtain ⟨en, h1, h2, h3⟩ := hv i kv hi'
      exact ⟨en, h1, h2, pr h3 (hp kv (List.mem_of_getElem? hi'))⟩
    | _ => exact hw.elim
theorem Le.mk {s : St} (l : List (Nat × V)) (hl : List (Nat × Ob)) (henv : ∀ p ∈ l, Wk s.h hl (s.e p.1) p.2) (hob : ∀ q ∈ hl, WkOb s.h hl (s.h q.1) q.2) (hnew0 : (hl.all fun q => q.1 < 1000 || (s.h q.1).isSome) = true) : Le s ⟨mkE l, mkH hl⟩ := by
  intro U C a w M ι hg
  have hm := hg.mem
  have hnew : ∀ n, s.h n = none → (mkH hl n).isSome = true → n < 1000 := fun n h1 h2 => by
    obtain ⟨o, ho⟩ := Option.isSome_iff_exists.1 h2
    have := List.all_eq_true.1 hnew0 _ (mkH_mem ho)
    simpa [h1] using this
  have old : ∀ {n : Nat} {o' : Ob}, mkH hl n = some o' → (∃ o, s.h n = some o ∧ WkOb s.h hl (some o) o' ∧ wkI s.h ι n = ι n) ∨ (s.h n = none ∧ (∃ t sz, o' = .arr t sz []) ∧ wkI s.h ι n = .slice none 0 0) := by
    intro n o' ho'
    have hq := hob _ (mkH_mem ho')
    dsimp only at hq
    cases hn : s.h n with
    | some o => rw [hn] at hq; exact .inl ⟨o, rfl, hq, by unfold wkI; rw [hn]; rfl⟩
    | none =>
      rw [hn] at hq
      cases o' with
      | arr t sz r => have e : r = [] := hq; subst e; exact .inr ⟨rfl, ⟨t, sz, rfl⟩, by unfold wkI; rw [hn]; rfl⟩
      | _ => exact hq.elim
  have blkold : ∀ {n b : Nat}, (mkH hl n).isSome = true → blk (wkI s.h ι n) = some b → (s.h n).isSome = true ∧ blk (ι n) = some b := by
    intro n b hs hb
    obtain ⟨o', ho'⟩ := Option.isSome_iff_exists.1 hs
    rcases old ho' with ⟨o, h1, _, h3⟩ | ⟨_, _, h3⟩
    · rw [h3] at hb; exact ⟨by rw [h1]; rfl, hb⟩
    · rw [h3] at hb; cases hb
  refine ⟨wkM s.h hl ι M, wkI s.h ι, ⟨fun n o' ho' => ?_, fun n m b h1 h2 e1 e2 => ?_, fun n b hs hb => ?_, fun b hb => ?_, fun n b hs hb => ?_, hm.size, hm.keep, hm.os, hm.tape, hm.output, fun b hb => .inl (hm.base b hb), hm.tb, fun b hb => .inl (hm.tm b hb), fun b hb hM => ?_, fun n t sz r0 t' sz' rows hn h0 ho => ?_, fun n hn => ?_⟩, fun t => ?_, hg.dfr, hg.num⟩
  · rcases old ho' with ⟨o, h1, h2, _⟩ | ⟨h1, ⟨t, sz, rfl⟩, h3⟩
    · exact obR.wk hm hob h1 h2
    · exact ⟨[], by rw [h3]; exact World.ownsRow_nil w 0 t sz, fun r hr => by simp at hr, fun x hx => by simp at hx, fun i j r v hi => by simp at hi⟩
  · obtain ⟨a1, a2⟩ := blkold h1 e1
    obtain ⟨b1, b2⟩ := blkold h2 e2
    exact hm.dis n m b a1 b1 a2 b2
  · obtain ⟨a1, a2⟩ := blkold hs hb
    rintro (hM | ⟨m, o2, c1, c2, c3⟩)
    · exact hm.imm n b a1 a2 hM
    · have := hm.dis n m b a1 (by rw [c1]; rfl) a2 c3
      subst this
      replace hs : (mkH hl n).isSome = true := hs
      rw [c2] at hs
      cases hs
  · rcases hb with hb | ⟨m, o2, c1, c2, c3⟩
    · exact hm.lt b hb
    · exact hm.blt m b (by rw [c1]; rfl) c3
  · obtain ⟨a1, a2⟩ := blkold hs hb
    exact hm.may n b a1 a2
  · rcases hM with hM | ⟨m, o2, c1, c2, c3⟩
    · exact hm.old b hb hM
    · exact .inr ((hm.may m b (by rw [c1]; rfl) c3).resolve_right (by omega))
  · rcases old ho with ⟨o, h1, h2, h3⟩ | ⟨h1, ⟨t2, sz2, e2⟩, _⟩
    · rw [h3]
      cases o with
      | arr t2 sz2 r2 =>
        obtain ⟨_, _, rfl, _⟩ := h2
        exact hm.arr0 n t sz r0 _ _ _ hn h0 h1
      | _ => exact h2.elim
    · replace ho : mkH hl n = some _ := ho
      exact absurd (hnew n h1 (by rw [ho]; rfl)) (by omega)
  · refine ⟨fun t c hc => ?_, fun es hc => ?_⟩
    · rcases old hc with ⟨o, h1, h2, h3⟩ | ⟨_, ⟨_, _, e⟩, _⟩
      · rw [h3]
        cases o with
        | box t' c' => exact (hm.pin n hn).1 _ _ h1
        | _ => exact h2.elim
      · cases e
    · rcases old hc with ⟨o, h1, h2, h3⟩ | ⟨_, ⟨_, _, e⟩, _⟩
      · rw [h3]
        cases o with
        | mp es' => exact (hm.pin n hn).2 _ h1
        | _ => exact h2.elim
      · cases e
  · rcases mkE_mem (l := l) (t := t) with e | e
    · show Rel _ _ _ _ (mkE l t) _
      rw [e]
      exact .pur (.any _)
    · exact (hg.env t).wk hm hob (henv _ e)
end
end Go.Proofs.YtcongikpaonliaaDoor
