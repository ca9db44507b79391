import Derived.Test.YtllhcpjgilpbnaaDoorCa5
import Derived.Test.YtllhcpjgilpbnaaDoorAv25
namespace Go.Proofs.YtllhcpjgilpbnaaDoor
open Go Go.RowKit
set_option linter.unusedSimpArgs false
set_option linter.unusedVariables false
set_option linter.deprecated false
structure Lid where
  car : List UInt8
  num : Int
  day : Int
  frm : List UInt8
def Lid.enc (x : Lid) : List V := [.str x.car, .int .i64 x.num, .int .i64 x.day, .str x.frm]
theorem Lid.inj (a b : Lid) (h : a.enc = b.enc) : a = b := by
  obtain ⟨a_car, a_num, a_day, a_frm⟩ := a
  obtain ⟨b_car, b_num, b_day, b_frm⟩ := b
  simp only [Lid.enc, List.cons.injEq, V.str.injEq, V.int.injEq, V.bool.injEq, V.agg.injEq, V.list.injEq, and_true, true_and] at h
  obtain ⟨h0, h1, h2, h3⟩ := h
  subst h0
  subst h1
  subst h2
  subst h3
  rfl
def Lid.ok (x : Lid) : Prop := x.car.length ≤ 140737488355328 ∧ inI x.num ∧ inI x.day ∧ x.frm.length ≤ 140737488355328
def Lid.zero : Lid := ⟨[], 0, 0, []⟩
theorem Lid.rows (l : List Lid) : (∀ r ∈ l.map Lid.enc, r.length = 4) ↔ True := iff_true_intro fun r hr => by obtain ⟨x, _, rfl⟩ := List.mem_map.1 hr; rfl
theorem Lid.purs (l : List Lid) : (∀ r ∈ l.map Lid.enc, V.purs r = true) ↔ True := iff_true_intro fun r hr => by obtain ⟨x, _, rfl⟩ := List.mem_map.1 hr; rfl
attribute [go_sem] Lid.rows Lid.purs
def Lid.ky (x : Lid) : Ky := .lg x.car x.num x.day x.frm
theorem Lid.ky_inj {a b : Lid} (h : a.ky = b.ky) : a = b := by
  obtain ⟨a1, a2, a3, a4⟩ := a
  obtain ⟨b1, b2, b3, b4⟩ := b
  simp only [Lid.ky, Ky.lg.injEq] at h
  obtain ⟨rfl, rfl, rfl, rfl⟩ := h
  rfl
structure Leg where
  id : Lid
  conf : Config
  sold : List (List Int)
def soH (ν : Nat → Nat) : List (List Int) → List (List V)
  | [] => []
  | r :: S => [.own (ν 0) r.length] :: soH (fun k => ν (k + 1)) S
def soO (ν : Nat → Nat) : List (List Int) → List (Nat × Ob)
  | [] => []
  | r :: S => (ν 0, .arr 3 1 (ints r)) :: soO (fun k => ν (k + 1)) S
def soK : List (List Int) → List Nat
  | [] => []
  | _ :: S => 0 :: (soK S).map (· + 1)
theorem soK_lt : ∀ {S : List (List Int)} {k : Nat}, k ∈ soK S ↔ k < S.length
  | [], k => by simp [soK]
  | r :: S, k => by
    simp only [soK, List.mem_cons, List.mem_map, List.length_cons, soK_lt]
    constructor
    · rintro (rfl | ⟨a, ha, rfl⟩) <;> omega
    · intro h
      cases k with
      | zero => exact .inl rfl
      | succ k => exact .inr ⟨k, by omega, rfl⟩
theorem nodup_map {ν : Nat → Nat} : ∀ {K : List Nat}, K.Nodup → (∀ a ∈ K, ∀ b ∈ K, ν a = ν b → a = b) → (K.map ν).Nodup
  | [], _, _ => List.nodup_nil
  | k :: K, h, hi => by
    obtain ⟨h1, h2⟩ := List.nodup_cons.1 h
    rw [List.map_cons]
    refine List.nodup_cons.2 ⟨fun hm => ?_, nodup_map h2 fun a ha b hb => hi a (List.mem_cons_of_mem _ ha) b (List.mem_cons_of_mem _ hb)⟩
    obtain ⟨a, ha, e⟩ := List.mem_map.1 hm
    exact h1 (hi a (List.mem_cons_of_mem _ ha) k (List.mem_cons_self ..) e ▸ ha)
theorem soK_nd : ∀ S : List (List Int), (soK S).Nodup
  | [] => List.nodup_nil
  | r :: S => List.nodup_cons.2 ⟨fun h => by obtain ⟨a, _, e⟩ := List.mem_map.1 h; omega, nodup_map (soK_nd S) fun a _ b _ e => by omega⟩
theorem soH_len : ∀ (ν : Nat → Nat) (S : List (List Int)), (soH ν S).length = S.length
  | _, [] => rfl
  | ν, r :: S => by rw [soH, List.length_cons, List.length_cons, soH_len]
theorem soH_ren : ∀ {ν ν' σ : Nat → Nat} {S : List (List Int)}, (∀ k ∈ soK S, σ (ν k) = ν' k) → renR σ (soH ν S) = soH ν' S
  | _, _, _, [], _ => rfl
  | ν, ν', σ, r :: S, h => by
    have h0 := h 0 (List.mem_cons_self ..)
    have hs := soH_ren (ν := fun k => ν (k + 1)) (ν' := fun k => ν' (k + 1)) (σ := σ) (S := S) fun k hk => h (k + 1) (List.mem_cons_of_mem _ (List.mem_map.2 ⟨k, hk, rfl⟩))
    unfold renR at hs ⊢
    rw [soH, soH, List.map_cons, hs]
    simp only [V.rens, V.ren, h0]
theorem soH_nin : ∀ {ν : Nat → Nat} {D : List Nat} {S : List (List Int)}, (∀ k ∈ soK S, ν k ∈ D) → ∀ r ∈ soH ν S, V.nins D r = true
  | _, _, [], _, r, hr => nomatch hr
  | ν, D, q :: S, h, r, hr => by
    rw [soH] at hr
    rcases List.mem_cons.1 hr with rfl | hr
    · simp only [V.nins, V.nin, Bool.and_true, List.contains_iff_mem, h 0 (List.mem_cons_self ..)]
    · exact soH_nin (ν := fun k => ν (k + 1)) (fun k hk => h (k + 1) (List.mem_cons_of_mem _ (List.mem_map.2 ⟨k, hk, rfl⟩))) r hr
theorem soH_at : ∀ {ν : Nat → Nat} {S : List (List Int)} {i : Nat} (hi : i < S.length), (soH ν S).getD i [] = [.own (ν i) S[i].length]
  | _, r :: S, 0, _ => rfl
  | ν, r :: S, i + 1, hi => by
    rw [soH, List.getD_cons_succ]
    exact soH_at (ν := fun k => ν (k + 1)) (S := S) (i := i) (by simpa using hi)
theorem soO_fam : ∀ S : List (List Int), Fam (soK S) (soK S) (fun ν => soO ν S)
  | [] => Fam.nil _
  | r :: S => Fam.cons (o := fun _ => .arr 3 1 (ints r)) (List.mem_cons_self ..) (fun _ => by rw [Ob.ren, renR_pure (ints_pur r)]) (fun _ => .inl (ints_pur r)) (((soO_fam S).at (· + 1)).mono fun k hk => List.mem_cons_of_mem _ hk)
theorem soO_mem : ∀ {ν : Nat → Nat} {S : List (List Int)} {i : Nat} (hi : i < S.length), (ν i, Ob.arr 3 1 (ints S[i])) ∈ soO ν S
  | _, r :: S, 0, _ => List.mem_cons_self ..
  | ν, r :: S, i + 1, hi => List.mem_cons_of_mem _ (soO_mem (ν := fun k => ν (k + 1)) (S := S) (i := i) (by simpa using hi))
theorem soO_is : ∀ {ν : Nat → Nat} {S : List (List Int)} {q : Nat × Ob}, q ∈ soO ν S → ∃ (i : Nat) (hi : i < S.length), q = (ν i, Ob.arr 3 1 (ints S[i]))
  | _, [], q, hq => nomatch hq
  | ν, r :: S, q, hq => by
    rw [soO] at hq
    rcases List.mem_cons.1 hq with rfl | hq
    · exact ⟨0, by simp, rfl⟩
    · obtain ⟨i, hi, e⟩ := soO_is hq
      exact ⟨i + 1, by simpa using hi, by rw [e]; rfl⟩
theorem soO_tags (ν : Nat → Nat) : ∀ {S S' : List (List Int)}, S.length = S'.length → (soO ν S).map (fun q => (q.1, q.2.tag)) = (soO ν S').map (fun q => (q.1, q.2.tag))
  | [], [], _ => rfl
  | r :: S, r' :: S', h => by
    rw [soO, soO, List.map_cons, List.map_cons, soO_tags _ (by simpa using h)]; rfl
  | [], _ :: _, h => nomatch h
  | _ :: _, [], h => nomatch h
def legO (ν : Nat → Nat) (c : Config) (S : List (List Int)) : List (Nat × Ob) :=
  (ν 0, .box 73 [.str c.equip, .list (c.cabs.map Cabin.enc) false, .own (ν 1) S.length, .bool false]) :: (ν 1, .arr 82 1 (soH (fun k => ν (k + 2)) S)) :: soO (fun k => ν (k + 2)) S
def legK (S : List (List Int)) : List Nat := 0 :: 1 :: (soK S).map (· + 2)
theorem legK_lt {S : List (List Int)} {k : Nat} : k ∈ legK S ↔ k < S.length + 2 := by
  simp only [legK, List.mem_cons, List.mem_map, soK_lt]
  constructor
  · rintro (rfl | rfl | ⟨a, ha, rfl⟩) <;> omega
  · intro h
    match k with
    | 0 => exact .inl rfl
    | 1 => exact .inr (.inl rfl)
    | k + 2 => exact .inr (.inr ⟨k, by omega, rfl⟩)
theorem legK_nd (S : List (List Int)) : (legK S).Nodup := by
  refine List.nodup_cons.2 ⟨fun h => ?_, List.nodup_cons.2 ⟨fun h => ?_, nodup_map (soK_nd S) fun a _ b _ e => by omega⟩⟩
  · rcases List.mem_cons.1 h with h | h
    · omega
    · obtain ⟨a, _, e⟩ := List.mem_map.1 h; omega
  · obtain ⟨a, _, e⟩ := List.mem_map.1 h; omega
theorem legO_fam (c : Config) (S : List (List Int)) : Fam (legK S) (legK S) (fun ν => legO ν c S) := by
  have k2 : ∀ k ∈ soK S, k + 2 ∈ legK S := fun k hk => List.mem_cons_of_mem _ (List.mem_cons_of_mem _ (List.mem_map.2 ⟨k, hk, rfl⟩))
  have h1 : 1 ∈ legK S := List.mem_cons_of_mem _ (List.mem_cons_self ..)
  refine Fam.cons (o := fun ν => .box 73 [.str c.equip, .list (c.cabs.map Cabin.enc) false, .own (ν 1) S.length, .bool false]) (List.mem_cons_self ..) (fun hs => ?_) (fun hs => ?_) (Fam.cons (o := fun ν => .arr 82 1 (soH (fun k => ν (k + 2)) S)) h1 (fun hs => ?_) (fun hs => ?_) (((soO_fam S).at (· + 2)).mono fun k hk => List.mem_cons_of_mem _ (List.mem_cons_of_mem _ hk)))
  · simp only [Ob.ren, V.rens, V.ren, hs 1 h1]
  · simp only [Ob.nin, V.nins, V.nin, Bool.and_true, Bool.true_and, List.contains_iff_mem, hs 1 h1]
  · rw [Ob.ren, soH_ren fun k hk => hs _ (k2 k hk)]
  · exact .inr (soH_nin fun k hk => hs _ (k2 k hk))
theorem legO_tags (ν : Nat → Nat) {c c' : Config} {S S' : List (List Int)} (h : S.length = S'.length) : (legO ν c S).map (fun q => (q.1, q.2.tag)) = (legO ν c' S').map (fun q => (q.1, q.2.tag)) := by
  unfold legO
  rw [List.map_cons, List.map_cons, List.map_cons, List.map_cons, soO_tags _ h]
  rfl
def lgO (ν : Nat → Nat) : List Leg → List (Nat × Ob)
  | [] => []
  | x :: L => legO ν x.conf x.sold ++ lgO (fun k => ν (k + 10)) L
def lgE (ν : Nat → Nat) : List Leg → List (Ky × V)
  | [] => []
  | x :: L => (x.id.ky, .ptr (ν 0) 0) :: lgE (fun k => ν (k + 10)) L
def lgK : List Leg → List Nat
  | [] => []
  | x :: L => legK x.sold ++ (lgK L).map (· + 10)
def LgsB (L : List Leg) : Prop := ∀ x ∈ L, x.sold.length ≤ 8
theorem LgsB.tl {x : Leg} {L : List Leg} (h : LgsB (x :: L)) : LgsB L := fun y hy => h y (List.mem_cons_of_mem _ hy)
theorem lgK_lt : ∀ {L : List Leg}, LgsB L → ∀ {k : Nat}, k ∈ lgK L → k < 10 * L.length
  | [], _, k, hk => nomatch hk
  | x :: L, h, k, hk => by
    rw [lgK] at hk
    rw [List.length_cons]
    rcases List.mem_append.1 hk with hk | hk
    · have := legK_lt.1 hk
      have := h x (List.mem_cons_self ..)
      omega
    · obtain ⟨a, ha, rfl⟩ := List.mem_map.1 hk
      have := lgK_lt h.tl ha
      omega
theorem lgK_nd : ∀ {L : List Leg}, LgsB L → (lgK L).Nodup
  | [], _ => List.nodup_nil
  | x :: L, h => by
    rw [lgK]
    refine List.nodup_append.2 ⟨legK_nd _, nodup_map (lgK_nd h.tl) fun a _ b _ e => by omega, fun a ha b hb e => ?_⟩
    subst e
    obtain ⟨c, hc, e⟩ := List.mem_map.1 hb
    have := legK_lt.1 ha
    have := h x (List.mem_cons_self ..)
    omega
theorem lgO_fam : ∀ L : List Leg, Fam (lgK L) (lgK L) (fun ν => lgO ν L)
  | [] => Fam.nil _
  | x :: L => Fam.app ((legO_fam x.conf x.sold).mono fun k hk => List.mem_append_left _ hk) (((lgO_fam L).at (· + 10)).mono fun k hk => List.mem_append_right _ hk)
theorem legK_0 (S : List (List Int)) : 0 ∈ legK S := List.mem_cons_self ..
theorem lgE_ren : ∀ {ν ν' σ : Nat → Nat} {L : List Leg}, (∀ k ∈ lgK L, σ (ν k) = ν' k) → (lgE ν L).map (fun p => (p.1, p.2.ren σ)) = lgE ν' L
  | _, _, _, [], _ => rfl
  | ν, ν', σ, x :: L, h => by
    rw [lgE, lgE, List.map_cons, lgE_ren (ν := fun k => ν (k + 10)) (ν' := fun k => ν' (k + 10)) fun k hk => h _ (List.mem_append_right _ (List.mem_map.2 ⟨k, hk, rfl⟩))]
    simp only [V.ren, h 0 (List.mem_append_left _ (legK_0 _))]
theorem lgE_nin : ∀ {ν : Nat → Nat} {D : List Nat} {L : List Leg}, (∀ k ∈ lgK L, ν k ∈ D) → ∀ p ∈ lgE ν L, p.2.nin D = true
  | _, _, [], _, p, hp => nomatch hp
  | ν, D, x :: L, h, p, hp => by
    rw [lgE] at hp
    rcases List.mem_cons.1 hp with rfl | hp
    · simp only [V.nin, List.contains_iff_mem, h 0 (List.mem_append_left _ (legK_0 _))]
    · exact lgE_nin (ν := fun k => ν (k + 10)) (fun k hk => h _ (List.mem_append_right _ (List.mem_map.2 ⟨k, hk, rfl⟩))) p hp
theorem lgE_kd : ∀ (ν : Nat → Nat) (L : List Leg), (∀ p ∈ lgE ν L, p.1.kd = 3) ↔ True
  | _, [] => by simp [lgE]
  | ν, x :: L => by
    rw [lgE, List.forall_mem_cons, lgE_kd _ L]
    simp [Lid.ky, Ky.kd]
theorem lgO_mem : ∀ {ν : Nat → Nat} {L : List Leg} {j : Nat} (hj : j < L.length) {q : Nat × Ob}, q ∈ legO (fun k => ν (k + 10 * j)) L[j].conf L[j].sold → q ∈ lgO ν L
  | ν, x :: L, 0, _, q, hq => List.mem_append_left _ hq
  | ν, x :: L, j + 1, hj, q, hq => List.mem_append_right _ (lgO_mem (ν := fun k => ν (k + 10)) (L := L) (j := j) (by simpa using hj) (by
      have e : (fun k => ν (k + 10 * (j + 1))) = fun k => ν (k + 10 * j + 10) := by funext k; congr 1
      rw [e] at hq; exact hq))
theorem lgO_is : ∀ {ν : Nat → Nat} {L : List Leg} {q : Nat × Ob}, q ∈ lgO ν L → ∃ (j : Nat) (hj : j < L.length), q ∈ legO (fun k => ν (k + 10 * j)) L[j].conf L[j].sold
  | ν, [], q, hq => nomatch hq
  | ν, x :: L, q, hq => by
    rw [lgO] at hq
    rcases List.mem_append.1 hq with hq | hq
    · exact ⟨0, by simp, hq⟩
    · obtain ⟨j, hj, h⟩ := lgO_is hq
      refine ⟨j + 1, by simpa using hj, ?_⟩
      have e : (fun k => ν (k + 10 * (j + 1))) = fun k => ν (k + 10 * j + 10) := by funext k; congr 1
      rw [e]; exact h
theorem lgO_tags : ∀ (ν : Nat → Nat) {L L' : List Leg}, L.map (fun x => x.sold.length) = L'.map (fun x => x.sold.length) → (lgO ν L).map (fun q => (q.1, q.2.tag)) = (lgO ν L').map (fun q => (q.1, q.2.tag))
  | _, [], [], _ => rfl
  | ν, x :: L, x' :: L', h => by
    rw [List.map_cons, List.map_cons, List.cons.injEq] at h
    rw [lgO, lgO, List.map_append, List.map_append, legO_tags ν h.1, lgO_tags _ h.2]
  | _, [], _ :: _, h => nomatch h
  | _, _ :: _, [], h => nomatch h
theorem lgO_app : ∀ (ν : Nat → Nat) (L L2 : List Leg), lgO ν (L ++ L2) = lgO ν L ++ lgO (fun k => ν (k + 10 * L.length)) L2
  | ν, [], L2 => rfl
  | ν, x :: L, L2 => by
    have e : (fun k => ν (k + 10 * (x :: L).length)) = fun k => ν (k + 10 * L.length + 10) := by funext k; congr 1
    rw [List.cons_append, lgO, lgO, lgO_app _ L L2, List.append_assoc, e]
theorem lgE_app : ∀ (ν : Nat → Nat) (L L2 : List Leg), lgE ν (L ++ L2) = lgE ν L ++ lgE (fun k => ν (k + 10 * L.length)) L2
  | ν, [], L2 => rfl
  | ν, x :: L, L2 => by
    have e : (fun k => ν (k + 10 * (x :: L).length)) = fun k => ν (k + 10 * L.length + 10) := by funext k; congr 1
    rw [List.cons_append, lgE, lgE, lgE_app _ L L2, List.cons_append, e]
def legIx : List Leg → Lid → Option Nat
  | [], _ => none
  | x :: L, i => if x.id.ky = i.ky then some 0 else (legIx L i).map (· + 1)
theorem legIx_some : ∀ {L : List Leg} {i : Lid} {j : Nat}, legIx L i = some j → ∃ hj : j < L.length, L[j].id = i
  | x :: L, i, j, h => by
    rw [legIx] at h
    split at h
    · rename_i e
      injection h with h; subst h
      exact ⟨by simp, Lid.ky_inj e⟩
    · obtain ⟨k, hk, rfl⟩ := Option.map_eq_some_iff.1 h
      obtain ⟨h1, h2⟩ := legIx_some hk
      exact ⟨by simpa using h1, h2⟩
theorem legIx_none : ∀ {L : List Leg} {i : Lid}, legIx L i = none ↔ ∀ x ∈ L, x.id ≠ i
  | [], i => by simp [legIx]
  | x :: L, i => by
    rw [legIx]
    split
    · rename_i e
      simp [Lid.ky_inj e]
    · rename_i e
      rw [Option.map_eq_none_iff, legIx_none, List.forall_mem_cons]
      exact ⟨fun h => ⟨fun h2 => e (by rw [h2]), h⟩, fun h => h.2⟩
theorem legIx_at {L : List Leg} (hd : (L.map (·.id)).Nodup) {j : Nat} (hj : j < L.length) : legIx L L[j].id = some j := by
  induction L generalizing j with
  | nil => cases hj
  | cons x L ih =>
    rw [List.map_cons, List.nodup_cons] at hd
    rw [legIx]
    cases j with
    | zero => exact if_pos rfl
    | succ j =>
      have hj' : j < L.length := by simpa using hj
      rw [if_neg (fun e => hd.1 (List.mem_map.2 ⟨L[j], List.getElem_mem hj', (Lid.ky_inj e).symm⟩))]
      show (legIx L L[j].id).map _ = _
      rw [ih hd.2 hj']; rfl
theorem lgE_get : ∀ {ν : Nat → Nat} {L : List Leg} {i : Lid}, mget (lgE ν L) i.ky .nilp = (match legIx L i with | some j => .ptr (ν (10 * j)) 0 | none => .nilp)
  | _, [], _ => rfl
  | ν, x :: L, i => by
    rw [lgE, mgetC, legIx]
    by_cases e : x.id.ky = i.ky
    · rw [if_pos e, if_pos e]
    · rw [if_neg e, if_neg e, lgE_get]
      cases legIx L i with
      | none => rfl
      | some j => rfl
theorem lgE_new {ν : Nat → Nat} : ∀ {L : List Leg} {i : Lid} {v : V}, legIx L i = none → mput (lgE ν L) i.ky v = lgE ν L ++ [(i.ky, v)] := by
  intro L
  induction L generalizing ν with
  | nil => intro i v _; rfl
  | cons x L ih =>
    intro i v h
    rw [legIx] at h
    split at h
    · cases h
    · rename_i e
      rw [lgE, mputC, if_neg e, ih (Option.map_eq_none_iff.1 h)]; rfl
def stO (ν : Nat → Nat) (cs : List Config) (L : List Leg) : List (Nat × Ob) :=
  (ν 0, .box 63 [.list (cs.map Config.enc) false, .map (ν 1)]) :: (ν 1, .mp (lgE (fun k => ν (k + 2)) L)) :: lgO (fun k => ν (k + 2)) L
def stK (L : List Leg) : List Nat := 0 :: 1 :: (lgK L).map (· + 2)
theorem stK_lt {L : List Leg} (h : LgsB L) {k : Nat} (hk : k ∈ stK L) : k < 10 * L.length + 2 := by
  rcases List.mem_cons.1 hk with rfl | hk
  · omega
  · rcases List.mem_cons.1 hk with rfl | hk
    · omega
    · obtain ⟨a, ha, rfl⟩ := List.mem_map.1 hk
      have := lgK_lt h ha; omega
theorem stK_nd {L : List Leg} (h : LgsB L) : (stK L).Nodup := by
  refine List.nodup_cons.2 ⟨fun h => ?_, List.nodup_cons.2 ⟨fun h => ?_, nodup_map (lgK_nd h) fun a _ b _ e => by omega⟩⟩
  · rcases List.mem_cons.1 h with h | h
    · omega
    · obtain ⟨a, _, e⟩ := List.mem_map.1 h; omega
  · obtain ⟨a, _, e⟩ := List.mem_map.1 h; omega
theorem stO_fam (cs : List Config) (L : List Leg) : Fam (stK L) (stK L) (fun ν => stO ν cs L) := by
  have k2 : ∀ k ∈ lgK L, k + 2 ∈ stK L := fun k hk => List.mem_cons_of_mem _ (List.mem_cons_of_mem _ (List.mem_map.2 ⟨k, hk, rfl⟩))
  have h1 : 1 ∈ stK L := List.mem_cons_of_mem _ (List.mem_cons_self ..)
  refine Fam.cons (o := fun ν => .box 63 [.list (cs.map Config.enc) false, .map (ν 1)]) (List.mem_cons_self ..) (fun hs => ?_) (fun hs => ?_) (Fam.cons (o := fun ν => .mp (lgE (fun k => ν (k + 2)) L)) h1 (fun hs => ?_) (fun hs => ?_) (((lgO_fam L).at (· + 2)).mono fun k hk => List.mem_cons_of_mem _ (List.mem_cons_of_mem _ hk)))
  · simp only [Ob.ren, V.rens, V.ren, hs 1 h1]
  · simp only [Ob.nin, V.nins, V.nin, Bool.and_true, Bool.true_and, List.contains_iff_mem, hs 1 h1]
  · rw [Ob.ren, lgE_ren fun k hk => hs _ (k2 k hk)]
  · exact lgE_nin fun k hk => hs _ (k2 k hk)
theorem stO_tags (ν : Nat → Nat) (cs : List Config) {L L' : List Leg} (h : L.map (fun x => x.sold.length) = L'.map (fun x => x.sold.length)) : (stO ν cs L).map (fun q => (q.1, q.2.tag)) = (stO ν cs L').map (fun q => (q.1, q.2.tag)) := by
  unfold stO
  rw [List.map_cons, List.map_cons, List.map_cons, List.map_cons, lgO_tags _ h]
  rfl
def Inj (ν : Nat → Nat) : Prop := ∀ a b, ν a = ν b → a = b
theorem Inj.nd {ν : Nat → Nat} (h : Inj ν) {K : List Nat} (hk : K.Nodup) : (K.map ν).Nodup := nodup_map hk fun a _ b _ => h a b
theorem stO_nd {ν : Nat → Nat} (hν : Inj ν) (cs : List Config) {L : List Leg} (h : LgsB L) : ((stO ν cs L).map (·.1)).Nodup := by rw [(stO_fam cs L).nm]; exact hν.nd (stK_nd h)
theorem st_box (ν : Nat → Nat) (cs : List Config) (L : List Leg) : mkH (stO ν cs L) (ν 0) = some (.box 63 [.list (cs.map Config.enc) false, .map (ν 1)]) := by unfold stO; rw [mkH, if_pos rfl]
theorem st_map {ν : Nat → Nat} (hν : Inj ν) (cs : List Config) (L : List Leg) : mkH (stO ν cs L) (ν 1) = some (.mp (lgE (fun k => ν (k + 2)) L)) := by
  unfold stO; rw [mkH, if_neg (fun e => by have := hν _ _ e; omega), mkH, if_pos rfl]
theorem st_mem {ν : Nat → Nat} {cs : List Config} {L : List Leg} {j : Nat} (hj : j < L.length) {q : Nat × Ob} (hq : q ∈ legO (fun k => ν (k + (10 * j + 2))) L[j].conf L[j].sold) : q ∈ stO ν cs L :=
  List.mem_cons_of_mem _ (List.mem_cons_of_mem _ (lgO_mem (ν := fun k => ν (k + 2)) hj hq))
theorem st_leg {ν : Nat → Nat} (hν : Inj ν) (cs : List Config) {L : List Leg} (h : LgsB L) {j : Nat} (hj : j < L.length) : mkH (stO ν cs L) (ν (10 * j + 2)) = some (.box 73 [.str L[j].conf.equip, .list (L[j].conf.cabs.map Cabin.enc) false, .own (ν (10 * j + 3)) L[j].sold.length, .bool false]) := by
  have := mkH_at (stO_nd hν cs h) (st_mem (ν := ν) (cs := cs) hj (List.mem_cons_self ..))
  dsimp only at this
  rw [show 0 + (10 * j + 2) = 10 * j + 2 by omega, show 1 + (10 * j + 2) = 10 * j + 3 by omega] at this
  exact this
theorem st_rows {ν : Nat → Nat} (hν : Inj ν) (cs : List Config) {L : List Leg} (h : LgsB L) {j : Nat} (hj : j < L.length) : mkH (stO ν cs L) (ν (10 * j + 3)) = some (.arr 82 1 (soH (fun k => ν (k + (10 * j + 4))) L[j].sold)) := by
  have := mkH_at (stO_nd hν cs h) (st_mem (ν := ν) (cs := cs) hj (List.mem_cons_of_mem _ (List.mem_cons_self ..)))
  dsimp only at this
  have e : (fun k => ν (k + 2 + (10 * j + 2))) = fun k => ν (k + (10 * j + 4)) := by funext k; congr 1; omega
  rw [show 1 + (10 * j + 2) = 10 * j + 3 by omega, e] at this
  exact this
theorem st_row {ν : Nat → Nat} (hν : Inj ν) (cs : List Config) {L : List Leg} (h : LgsB L) {j : Nat} (hj : j < L.length) {i : Nat} (hi : i < L[j].sold.length) : mkH (stO ν cs L) (ν (i + (10 * j + 4))) = some (.arr 3 1 (ints L[j].sold[i])) := by
  have := mkH_at (stO_nd hν cs h) (st_mem (ν := ν) (cs := cs) hj (List.mem_cons_of_mem _ (List.mem_cons_of_mem _ (soO_mem hi))))
  dsimp only at this
  rw [show i + 2 + (10 * j + 2) = i + (10 * j + 4) by omega] at this
  exact this
theorem soH_set : ∀ {ν : Nat → Nat} {S : List (List Int)} {i : Nat} {r : List Int} (hi : i < S.length), r.length = S[i].length → soH ν (S.set i r) = soH ν S
  | _, q :: S, 0, r, _, h => by rw [List.set_cons_zero, soH, soH]; rw [show r.length = q.length from h]
  | ν, q :: S, i + 1, r, hi, h => by rw [List.set_cons_succ, soH, soH, soH_set (S := S) (i := i) (by simpa using hi) h]
def Leg.put (x : Leg) (i : Nat) (r : List Int) : Leg := ⟨x.id, x.conf, x.sold.set i r⟩
theorem lgE_set : ∀ {ν : Nat → Nat} {L : List Leg} {j : Nat} {y : Leg} (hj : j < L.length), y.id = L[j].id → lgE ν (L.set j y) = lgE ν L
  | _, x :: L, 0, y, _, h => by rw [List.set_cons_zero, lgE, lgE]; rw [show y.id = x.id from h]
  | ν, x :: L, j + 1, y, hj, h => by rw [List.set_cons_succ, lgE, lgE, lgE_set (L := L) (j := j) (by simpa using hj) h]
theorem stO_set {ν : Nat → Nat} (hν : Inj ν) {cs : List Config} {L : List Leg} (hB : LgsB L) {j i : Nat} (hj : j < L.length) (hi : i < L[j].sold.length) {r : List Int} (hr : r.length = L[j].sold[i].length) {q : Nat × Ob} (hq : q ∈ stO ν cs (L.set j (L[j].put i r))) :
    q = (ν (i + (10 * j + 4)), .arr 3 1 (ints r)) ∨ (q ∈ stO ν cs L ∧ q.1 ≠ ν (i + (10 * j + 4))) := by
  unfold stO at hq
  rw [lgE_set hj (show (L[j].put i r).id = L[j].id from rfl)] at hq
  have sm : ∀ k, k < 10 * j + 4 → ∀ o, ν k ≠ ν (i + (10 * j + 4)) := fun k hk _ e => by have := hν _ _ e; omega
  rcases List.mem_cons.1 hq with rfl | hq
  · exact .inr ⟨List.mem_cons_self .., fun e => by have := hν _ _ e; omega⟩
  rcases List.mem_cons.1 hq with rfl | hq
  · exact .inr ⟨List.mem_cons_of_mem _ (List.mem_cons_self ..), fun e => by have := hν _ _ e; omega⟩
  obtain ⟨m, hm, hq⟩ := lgO_is hq
  have hmL : m < L.length := by simpa using hm
  by_cases e : m = j
  · subst e
    rw [List.getElem_set_self] at hq
    unfold legO at hq
    rcases List.mem_cons.1 hq with rfl | hq
    · refine .inr ⟨?_, fun e => by have := hν _ _ e; omega⟩
      have := st_mem (ν := ν) (cs := cs) (L := L) (j := m) hmL (q := (ν (0 + (10 * m + 2)), .box 73 [.str L[m].conf.equip, .list (L[m].conf.cabs.map Cabin.enc) false, .own (ν (1 + (10 * m + 2))) L[m].sold.length, .bool false])) (List.mem_cons_self ..)
      simp only [Leg.put, List.length_set]
      exact this
    rcases List.mem_cons.1 hq with rfl | hq
    · refine .inr ⟨?_, fun e => by have := hν _ _ e; omega⟩
      have := st_mem (ν := ν) (cs := cs) (L := L) (j := m) hmL (q := (ν (1 + (10 * m + 2)), .arr 82 1 (soH (fun k => ν (k + 2 + (10 * m + 2))) L[m].sold))) (List.mem_cons_of_mem _ (List.mem_cons_self ..))
      simp only [Leg.put]
      rw [soH_set hi hr]
      exact this
    · obtain ⟨a, ha, rfl⟩ := soO_is hq
      replace ha : a < (L[m].sold.set i r).length := ha
      rw [List.length_set] at ha
      by_cases ea : a = i
      · subst ea
        refine .inl ?_
        simp only [Leg.put, List.getElem_set_self]
        congr 2
        omega
      · refine .inr ⟨?_, fun e => by have := hν _ _ e; omega⟩
        have := st_mem (ν := ν) (cs := cs) (L := L) (j := m) hmL (q := (ν (a + 2 + (10 * m + 2)), .arr 3 1 (ints L[m].sold[a]))) (List.mem_cons_of_mem _ (List.mem_cons_of_mem _ (soO_mem ha)))
        simp only [Leg.put, List.getElem_set_ne (Ne.symm ea)]
        exact this
  · rw [List.getElem_set_ne (Ne.symm e)] at hq
    refine .inr ⟨st_mem (ν := ν) (cs := cs) hmL hq, ?_⟩
    have hk : q.1 ∈ (legO (fun k => ν (k + 10 * m + 2)) L[m].conf L[m].sold).map (·.1) := List.mem_map.2 ⟨q, hq, rfl⟩
    rw [(legO_fam L[m].conf L[m].sold).nm (fun k => ν (k + 10 * m + 2))] at hk
    obtain ⟨k, hk1, hk2⟩ := List.mem_map.1 hk
    have := legK_lt.1 hk1
    have hb2 := hB _ (List.getElem_mem hj)
    have hb3 := hB _ (List.getElem_mem hmL)
    rw [← hk2]
    intro e2
    have := hν _ _ e2
    omega
set_option linter.unusedSimpArgs false
set_option linter.unusedVariables false
set_option linter.deprecated false
def badN (n : Int) : Bool := decide (n < 0) || decide (9999 < n)
def rightS (y : Cabin) (s : List Int) : Bool := decide (s.length = y.cl.length) && !s.any badN
def belowS (s : List Int) (i : Nat) : Int := (s.drop i).sum
def spareAt (y : Cabin) (s : List Int) (i : Nat) : Int := (limits y).getD i 0 - belowS s i
def spareL (y : Cabin) (s : List Int) : List Int := (List.range y.cl.length).map (spareAt y s)
def leastS (m : Int) : List Int → Int
  | [] => m
  | n :: l => leastS (min m n) l
def openGo : Int → List Int → List Int
  | _, [] => []
  | m, n :: l => max 0 (min m n) :: openGo (min m n) l
def openS (y : Cabin) (s : List Int) : List Int := if rightS y s = true then openGo 1099511627776 (spareL y s) else []
theorem openGo_len : ∀ (m : Int) (l : List Int), (openGo m l).length = l.length
  | _, [] => rfl
  | m, n :: l => by rw [openGo, List.length_cons, List.length_cons, openGo_len]
def aN1 (x : Int) : List V := [.int .i64 x]
theorem aN1_inj (a b : Int) (h : aN1 a = aN1 b) : a = b := by
  simp only [aN1, List.cons.injEq, V.str.injEq, V.int.injEq, V.bool.injEq, V.agg.injEq, V.list.injEq, and_true, true_and] at h
  have h0 := h
  subst h0
  rfl
def fBadN (n : Int) : Prop × V := (True, .bool (badN n))
theorem fBadN_eq (n : Int) : gOf aN1 fBadN [.int .i64 n] = (True, .bool (badN n)) := gOf_eq aN1_inj n
theorem badN_p : PureC Tryd.prog UT 71 (gOf aN1 fBadN) := by
  have hG := tNo_ok
  refine PureC.ofArgs aN1_inj Tryd.func71 body71 nm71 res71 ?_
  rintro n hv
  refine ⟨by rw [nt71]; simp [aN1], fun C hN Q hQ => ?_⟩
  rw [nt71] at hN
  unfold c71
  refine aw_seq (aw_region (EF := EF0) hG (by rw [hN]; exact tr71_0) ?_)
  simp only [a71_0, go_sem, simprocAttr, aN1]
  refine aw_seq (aw_region (EF := EF0) hG (by rw [hN]; exact tr71_1) ?_)
  simp only [a71_1, go_sem, simprocAttr]
  (repeat' apply And.intro) <;> try exact sdA
  refine aw_ret ?_
  show Q _ _
  refine hQ _ _ (.inl rfl) ?_ ?_ ?_ <;> simp only [outφ, outV, AR.res, go_sem, simprocAttr, fBadN, badN]
  try rfl
def aCN (l : List Int) : List V := [.list (ints l) false, .fn 71 []]
theorem aCN_inj (a b : List Int) (h : aCN a = aCN b) : a = b := by
  simp only [aCN, List.cons.injEq, V.list.injEq, and_true] at h
  exact ints_inj h
def idxOf : Option Nat → Int
  | some i => i
  | none => -1
theorem findIdx_at {α : Type} {p : α → Bool} {l : List α} {i : Nat} (hi : i < l.length) (h : ∀ z ∈ l.take i, p z = false) (hp : p l[i] = true) : l.findIdx? p = some i := by
  rw [List.findIdx?_eq_some_iff_getElem]
  exact ⟨hi, hp, fun j hj => by have := h l[j] (List.mem_take_iff_getElem.2 ⟨j, by omega, rfl⟩); simp [this]⟩
theorem findIdx_no {α : Type} {p : α → Bool} {l : List α} {i : Nat} (hi : l.length ≤ i) (h : ∀ z ∈ l.take i, p z = false) : l.findIdx? p = none := by
  rw [List.take_of_length_le hi] at h
  rw [List.findIdx?_eq_none_iff]
  exact fun x hx => h x hx
theorem idx_any {α : Type} (p : α → Bool) (l : List α) : decide (0 ≤ idxOf (l.findIdx? p)) = l.any p := by
  cases h : l.findIdx? p with
  | none =>
    rw [List.findIdx?_eq_none_iff] at h
    have : l.any p = false := List.any_eq_false.2 fun x hx => by rw [h x hx]; decide
    rw [this]; rfl
  | some i =>
    obtain ⟨hlt, h1, _⟩ := List.findIdx?_eq_some_iff_getElem.1 h
    have : l.any p = true := List.any_eq_true.2 ⟨_, List.getElem_mem hlt, h1⟩
    rw [this]
    exact decide_eq_true (show (0 : Int) ≤ (i : Int) by omega)
def fIN (l : List Int) : Prop × V := (l.length ≤ 140737488355328, .int .i64 (idxOf (l.findIdx? badN)))
def fCN (l : List Int) : Prop × V := (l.length ≤ 140737488355328, .bool (l.any badN))
theorem fIN_eq (l : List Int) : gOf aCN fIN [.list (ints l) false, .fn 71 []] = (l.length ≤ 140737488355328, .int .i64 (idxOf (l.findIdx? badN))) := gOf_eq aCN_inj l
theorem fCN_eq (l : List Int) : gOf aCN fCN [.list (ints l) false, .fn 71 []] = (l.length ≤ 140737488355328, .bool (l.any badN)) := gOf_eq aCN_inj l
noncomputable def tIN : Tab
  | 71 => (gOf aN1 fBadN)
  | _ => gNo
theorem tIN_ok : ∀ f, PureC Tryd.prog UT f (tIN f) := fun f => by
  unfold tIN
  split
  · exact badN_p
  · exact PureC.no
theorem ints_at (l : List Int) (i : Nat) (h : i < l.length) (d : List V) : (ints l).getD i d = [.int .i64 l[i]] := by unfold ints; rw [List.getD_eq_getElem?_getD, List.getElem?_map, List.getElem?_eq_getElem h]; rfl
theorem indexN_p : PureC Tryd.prog UT 74 (gOf aCN fIN) := by
  have hG := tIN_ok
  refine PureC.ofArgs aCN_inj Tryd.func74 body74 nm74 res74 ?_
  rintro l hv
  refine ⟨by rw [nt74]; simp [aCN], fun C hN Q hQ => ?_⟩
  rw [nt74] at hN
  unfold c74
  replace hv : l.length ≤ 140737488355328 := hv
  refine aw_seq (aw_region (EF := EF0) hG (by rw [hN]; exact tr74_0) ?_)
  simp only [a74_0, go_sem, simprocAttr, aCN, tIN, fBadN_eq]
  refine aw_seq ?_
  refine aw_seq (aw_region (EF := EF0) hG (by rw [hN]; exact tr74_1) ?_)
  simp only [a74_1, go_sem, simprocAttr, tIN, fBadN_eq]
  refine aw_block ?_
  refine aw_loop (α := Nat) (fun i => (i ≤ l.length) ∧ (∀ s ∈ l.take i, badN s = false)) (fun i => ⟨mkE [(0, V.list (ints l) false), (1, V.fn 71 []), (7, V.int IntKind.i64 ↑l.length), (8, .int .i64 i)], mkH []⟩) (fun i => l.length - i) 0 (by simp) ?_ ?_
  · refine Le.mk _ _ ?_ ?_ rfl <;> simp only [go_sem, simprocAttr] <;> (repeat' apply And.intro) <;> try exact leA
  · rintro i ⟨hi, hp⟩ KL0 hKL0
    try dsimp only at *
    refine aw_seq (aw_region (EF := EF0) hG (by rw [hN]; exact tr74_2) ?_)
    simp only [a74_2, go_sem, simprocAttr, tIN, fBadN_eq]
    refine aw_seq ?_
    refine aw_cond (b := _) rfl (fun hc2 => ?_) (fun hc2 => ?_)
    · simp only [decide_eq_true_eq, decide_eq_false_iff_not, Bool.and_eq_true, Bool.or_eq_true, Bool.not_eq_true', Bool.not_eq_false', Bool.and_eq_false_iff, Bool.or_eq_false_iff, Int.ofNat_lt, Int.ofNat_le, Nat.not_lt, Nat.not_le, Int.not_lt, Int.not_le] at hc2
      refine aw_skip ?_
      try simp only [go_sem, simprocAttr]
      refine aw_seq ?_
      refine aw_block ?_
      refine aw_seq (aw_region (EF := EF0) hG (by rw [hN]; exact tr74_3) ?_)
      simp only [a74_3, go_sem, simprocAttr, tIN, fBadN_eq]
      refine aw_seq (aw_region (EF := EF0) hG (by rw [hN]; exact tr74_4) ?_)
      simp only [a74_4, go_sem, simprocAttr, ints_at _ _ hc2, hc2, tIN, fBadN_eq]
      (repeat' apply And.intro) <;> try exact sdA
      refine aw_cond (b := _) rfl (fun hb => ?_) (fun hb => ?_)
      · skip
        refine aw_seq (aw_region (EF := EF0) hG (by rw [hN]; exact tr74_5) ?_)
        simp only [a74_5, go_sem, simprocAttr, tIN, fBadN_eq]
        refine aw_ret ?_
        show Q _ _
        refine hQ _ _ (.inl rfl) ?_ ?_ ?_ <;> simp only [outφ, outV, AR.res, go_sem, simprocAttr, fIN]
        rw [findIdx_at hc2 hp hb]; rfl
      · skip
        refine aw_skip ?_
        try simp only [go_sem, simprocAttr]
        refine aw_region (EF := EF0) hG (by rw [hN]; exact tr74_6) ?_
        simp only [a74_6, go_sem, simprocAttr, inI, tIN, fBadN_eq]
        (repeat' apply And.intro) <;> try exact sdA
        refine hKL0 (i + 1) _ ?_ ?_ ?_
        · (try dsimp only); exact ⟨hc2, take_all hc2 hp hb⟩
        · (try dsimp only); omega
        · refine Le.mk _ _ ?_ ?_ rfl <;> simp only [go_sem, simprocAttr] <;> (repeat' apply And.intro) <;> try exact leA
    · simp only [decide_eq_true_eq, decide_eq_false_iff_not, Bool.and_eq_true, Bool.or_eq_true, Bool.not_eq_true', Bool.not_eq_false', Bool.and_eq_false_iff, Bool.or_eq_false_iff, Int.ofNat_lt, Int.ofNat_le, Nat.not_lt, Nat.not_le, Int.not_lt, Int.not_le] at hc2
      refine aw_exit ?_
      simp only [go_sem, simprocAttr]
      refine aw_seq (aw_region (EF := EF0) hG (by rw [hN]; exact tr74_7) ?_)
      simp only [a74_7, go_sem, simprocAttr, tIN, fBadN_eq]
      refine aw_ret ?_
      show Q _ _
      refine hQ _ _ (.inl rfl) ?_ ?_ ?_ <;> simp only [outφ, outV, AR.res, go_sem, simprocAttr, fIN]
      rw [findIdx_no hc2 hp]; rfl
noncomputable def tCN : Tab
  | 74 => (gOf aCN fIN)
  | _ => gNo
theorem tCN_ok : ∀ f, PureC Tryd.prog UT f (tCN f) := fun f => by
  unfold tCN
  split
  · exact indexN_p
  · exact PureC.no
theorem containsN_p : PureC Tryd.prog UT 70 (gOf aCN fCN) := by
  have hG := tCN_ok
  refine PureC.ofArgs aCN_inj Tryd.func70 body70 nm70 res70 ?_
  rintro l hv
  refine ⟨by rw [nt70]; simp [aCN], fun C hN Q hQ => ?_⟩
  rw [nt70] at hN
  unfold c70
  replace hv : l.length ≤ 140737488355328 := hv
  refine aw_seq (aw_region (EF := EF0) hG (by rw [hN]; exact tr70_0) ?_)
  simp only [a70_0, go_sem, simprocAttr, aCN]
  refine aw_seq (aw_region (EF := EF0) hG (by rw [hN]; exact tr70_1) ?_)
  simp only [a70_1, go_sem, simprocAttr, tCN, fIN_eq, hv]
  (repeat' apply And.intro) <;> try exact sdA
  refine aw_ret ?_
  show Q _ _
  refine hQ _ _ (.inl rfl) ?_ ?_ ?_ <;> simp only [outφ, outV, AR.res, go_sem, simprocAttr, fCN]
  rw [idx_any]
def aYS (x : Cabin × List Int) : List V := [.agg x.1.enc, .list (ints x.2) false]
theorem aYS_inj (a b : Cabin × List Int) (h : aYS a = aYS b) : a = b := by
  obtain ⟨a1, a2⟩ := a
  obtain ⟨b1, b2⟩ := b
  simp only [aYS, List.cons.injEq, V.agg.injEq, V.list.injEq, and_true] at h
  obtain ⟨h1, h2⟩ := h
  rw [Cabin.inj _ _ h1, ints_inj h2]
def fRight (x : Cabin × List Int) : Prop × V := (x.2.length ≤ 140737488355328 ∧ x.1.cl.length ≤ 140737488355328, .bool (rightS x.1 x.2))
theorem fRight_eq (nm : List UInt8) (se ov : Int) (cl : List Class) (l : List Int) : gOf aYS fRight [.agg [.str nm, .int .i64 se, .int .i64 ov, .list (cl.map Class.enc) false], .list (ints l) false] = (l.length ≤ 140737488355328 ∧ cl.length ≤ 140737488355328, .bool (rightS ⟨nm, se, ov, cl⟩ l)) := gOf_eq aYS_inj ((⟨nm, se, ov, cl⟩ : Cabin), l)
noncomputable def tRi : Tab
  | 70 => (gOf aCN fCN)
  | _ => gNo
theorem tRi_ok : ∀ f, PureC Tryd.prog UT f (tRi f) := fun f => by
  unfold tRi
  split
  · exact containsN_p
  · exact PureC.no
theorem right_p : PureC Tryd.prog UT 65 (gOf aYS fRight) := by
  have hG := tRi_ok
  refine PureC.ofArgs aYS_inj Tryd.func65 body65 nm65 res65 ?_
  rintro ⟨⟨nm, se, ov, cl⟩, l⟩ hv
  refine ⟨by rw [nt65]; simp [aYS], fun C hN Q hQ => ?_⟩
  rw [nt65] at hN
  unfold c65
  obtain ⟨h1, h2⟩ : l.length ≤ 140737488355328 ∧ cl.length ≤ 140737488355328 := hv
  refine aw_seq (aw_region (EF := EF0) hG (by rw [hN]; exact tr65_0) ?_)
  simp only [a65_0, go_sem, simprocAttr, aYS, Cabin.enc, tRi, fCN_eq]
  refine aw_seq ?_
  refine aw_seq (aw_region (EF := EF0) hG (by rw [hN]; exact tr65_1) ?_)
  simp only [a65_1, go_sem, simprocAttr, List.length_map, tRi, fCN_eq]
  refine aw_cond (b := _) rfl (fun hb => ?_) (fun hb => ?_)
  · skip
    refine aw_seq (aw_region (EF := EF0) hG (by rw [hN]; exact tr65_2) ?_)
    simp only [a65_2, go_sem, simprocAttr, tRi, fCN_eq]
    refine aw_ret ?_
    show Q _ _
    refine hQ _ _ (.inl rfl) ?_ ?_ ?_ <;> simp only [outφ, outV, AR.res, go_sem, simprocAttr, fRight, rightS]
    rw [decide_eq_false (show ¬ l.length = cl.length by simp at hb; omega)]; rfl
  · skip
    refine aw_skip ?_
    try simp only [go_sem, simprocAttr]
    refine aw_seq (aw_region (EF := EF0) hG (by rw [hN]; exact tr65_3) ?_)
    simp only [a65_3, go_sem, simprocAttr, h1, tRi, fCN_eq]
    (repeat' apply And.intro) <;> try exact sdA
    refine aw_ret ?_
    show Q _ _
    refine hQ _ _ (.inl rfl) ?_ ?_ ?_ <;> simp only [outφ, outV, AR.res, go_sem, simprocAttr, fRight, rightS]
    rw [decide_eq_true (show l.length = cl.length by simp at hb; omega), Bool.true_and]
set_option linter.unusedSimpArgs false
set_option linter.unusedVariables false
set_option linter.deprecated false
theorem clonel_e (l : List Int) (h0 : l ≠ []) (hl : l.length ≤ 1000000) : Eff Tryd.prog UT 30 [.list (ints l) false] [] (.own 5 l.length) [(5, .arr 3 1 (ints l))] := by
  have hG := tNo_ok
  have hne : ints l ≠ [] := fun e => h0 (List.map_eq_nil_iff.1 e)
  refine Eff.of_aw Tryd.func30 body30 nm30 res30 (by rw [nt30]; simp) fun C hN Q hQ => ?_
  rw [nt30] at hN
  unfold c30
  refine aw_seq (aw_region (EF := EF0) hG (by rw [hN]; exact tr30_0) ?_)
  simp only [a30_0, go_sem, simprocAttr]
  refine aw_seq ?_
  refine aw_seq (aw_region (EF := EF0) hG (by rw [hN]; exact tr30_1) ?_)
  simp only [a30_1, go_sem, simprocAttr, hne]
  refine aw_condF rfl ?_
  refine aw_skip ?_
  try simp only [go_sem, simprocAttr]
  refine aw_seq (aw_region (EF := EF0) hG (by rw [hN]; exact tr30_3) ?_)
  simp only [a30_3, go_sem, simprocAttr]
  (repeat' apply And.intro) <;> try exact sdA
  refine aw_ret ?_
  show Q _ _
  refine hQ _ _ ⟨mkE [(2, .own 5 l.length)], mkH ([(5, .arr 3 1 (ints l))])⟩ (.inl rfl) (Le.mk _ _ ?_ ?_ rfl) rfl ?_ ?_ <;> simp only [outφ, outV, AR.res, go_sem, simprocAttr, ints_len]
theorem cloneo_e (l : List Int) (h0 : l ≠ []) (hl : l.length ≤ 1000000) : Eff Tryd.prog UT 30 [.own 1000 l.length] [(1000, .arr 3 1 (ints l))] (.own 5 l.length) [(1000, .arr 3 1 (ints l)), (5, .arr 3 1 (ints l))] := by
  have hG := tNo_ok
  have hp : 0 < l.length := List.length_pos_iff.2 h0
  refine Eff.of_aw Tryd.func30 body30 nm30 res30 (by rw [nt30]; simp) fun C hN Q hQ => ?_
  rw [nt30] at hN
  unfold c30
  refine aw_seq (aw_region (EF := EF0) hG (by rw [hN]; exact tr30_0) ?_)
  simp only [a30_0, go_sem, simprocAttr]
  refine aw_seq ?_
  refine aw_seq (aw_region (EF := EF0) hG (by rw [hN]; exact tr30_1) ?_)
  simp only [a30_1, go_sem, simprocAttr, hp]
  refine aw_condF rfl ?_
  refine aw_skip ?_
  try simp only [go_sem, simprocAttr]
  refine aw_seq (aw_region (EF := EF0) hG (by rw [hN]; exact tr30_3) ?_)
  simp only [a30_3, go_sem, simprocAttr, ints_len]
  (repeat' apply And.intro) <;> try exact sdA
  refine aw_ret ?_
  show Q _ _
  refine hQ _ _ ⟨mkE [(2, .own 5 l.length)], mkH ([(1000, .arr 3 1 (ints l)), (5, .arr 3 1 (ints l))])⟩ (.inl rfl) (Le.mk _ _ ?_ ?_ rfl) rfl ?_ ?_ <;> simp only [outφ, outV, AR.res, go_sem, simprocAttr, ints_len]
theorem clonel_use {d : Option Nat} {s : St} {K : St → Prop} {nn : Nat} {l : List Int} (h0 : l ≠ []) (hl : l.length ≤ 1000000) (hn : s.h nn = none) (h1 : nn < 1000) (hK : K ⟨setE d (.own nn l.length) s.e, hov [(nn, .arr 3 1 (ints l))] s.h⟩) : EStep Tryd.prog UT d 30 [.list (ints l) false] s K := by
  refine ⟨[], [(5, nn)], _, _, _, _, clonel_e l h0 hl, ⟨by simp [okL], rfl, rfl, by simp, ?_, by simp, by simp [V.rens, V.ren], by simp [V.nins, V.nin], by simp [V.nin], ?_, by simp⟩, ?_⟩
  · intro p hp
    simp only [List.mem_cons, List.not_mem_nil, or_false] at hp
    subst hp; exact ⟨hn, h1⟩
  · intro q hq
    simp only [List.mem_cons, List.not_mem_nil, or_false] at hq
    subst hq; exact .inl (ints_pur l)
  · have e1 : (V.own 5 l.length).ren (rn ([] ++ [(5, nn)])) = .own nn l.length := by simp [V.ren, rn]
    have e2 : [((5, .arr 3 1 (ints l)) : Nat × Ob)].map (fun q : Nat × Ob => (rn ([] ++ [(5, nn)]) q.1, q.2.ren (rn ([] ++ [(5, nn)])))) = [(nn, .arr 3 1 (ints l))] := by simp [rn, Ob.ren, renR_pure (ints_pur l)]
    rw [e1, e2]; exact hK
theorem row_use {d : Option Nat} {s : St} {K : St → Prop} {f nr : Nat} {l : List Int} {xs : List V} {v : V} (he : Eff Tryd.prog UT f (xs ++ [.own 1000 l.length]) [(1000, .arr 3 1 (ints l))] v [(1000, .arr 3 1 (ints l))]) (hx : V.purs xs = true) (hxn : ∀ D, V.nins D xs = true) (hv : v.pur = true) (hvn : ∀ D, v.nin D = true)
    (hr : s.h nr = some (.arr 3 1 (ints l))) (hK : K ⟨setE d v s.e, s.h⟩) : EStep Tryd.prog UT d f (xs ++ [.own nr l.length]) s K := by
  have happ : ∀ (σ : Nat → Nat) (n : Nat), V.rens σ (xs ++ [.own n l.length]) = xs ++ [.own (σ n) l.length] := fun σ n => by rw [rens_eq, List.map_append, ← rens_eq, V.rens_pur σ xs hx]; simp [V.ren]
  have hnin : ∀ (D : List Nat) (ys : List V), V.nins D xs = true → V.nins D ys = true → V.nins D (xs ++ ys) = true := by
    intro D ys h1 h2
    induction xs with
    | nil => exact h2
    | cons x xs ih =>
      simp only [V.nins, Bool.and_eq_true, List.cons_append] at h1 ⊢
      refine ⟨h1.1, ?_⟩
      have hp : V.purs xs = true := by simp only [V.purs, Bool.and_eq_true] at hx; exact hx.2
      clear ih he happ
      revert h1
      intro h1
      have := h1.2
      clear h1 hx hxn
      induction xs with
      | nil => exact h2
      | cons y ys ih =>
        simp only [V.nins, Bool.and_eq_true, List.cons_append] at this ⊢
        simp only [V.purs, Bool.and_eq_true] at hp
        exact ⟨this.1, ih hp.2 this.2⟩
  refine ⟨[(1000, nr)], [], _, _, _, _, he, ⟨by simp [okL], rfl, rfl, by simp, by simp, ?_, ?_, ?_, hvn _, ?_, ?_⟩, ?_⟩
  · intro p hp
    simp only [List.mem_cons, List.not_mem_nil, or_false] at hp
    subst hp
    exact ⟨_, hr, by simp [mkH, Ob.ren, renR_pure (ints_pur l)], .inl (ints_pur l)⟩
  · rw [happ]; simp [rni]
  · exact hnin _ _ (hxn _) (by simp [V.nins, V.nin])
  · intro q hq
    simp only [List.mem_cons, List.not_mem_nil, or_false] at hq
    subst hq; exact .inl (ints_pur l)
  · intro p hp o o' h1 h2
    simp only [List.mem_cons, List.not_mem_nil, or_false] at hp
    subst hp; simp [mkH] at h1 h2; subst h1 h2; simp [Ob.kind]
  · have e2 : [((1000, .arr 3 1 (ints l)) : Nat × Ob)].map (fun q : Nat × Ob => (rn ([(1000, nr)] ++ []) q.1, q.2.ren (rn ([(1000, nr)] ++ [])))) = [(nr, .arr 3 1 (ints l))] := by simp [rn, Ob.ren, renR_pure (ints_pur l)]
    have e3 : hov [(nr, Ob.arr 3 1 (ints l))] s.h = s.h := by
      funext m
      rw [hov_eq, mkH]
      by_cases e : m = nr
      · rw [if_pos e, e, hr]
      · rw [if_neg e]; rfl
    rw [V.ren_pur _ _ hv, e2, e3]
    exact hK
structure CabOk (y : Cabin) : Prop where
  ne : 0 < y.cl.length
  le : y.cl.length ≤ 26
  se : 1 ≤ y.seats ∧ y.seats ≤ 999
  ov : 0 ≤ y.over ∧ y.over ≤ 999
  pr : ∀ z ∈ y.cl, 0 ≤ z.prot ∧ z.prot ≤ auth y
theorem CabOk.lim {y : Cabin} (h : CabOk y) (i : Nat) : 0 ≤ limAt (auth y) y.cl i ∧ limAt (auth y) y.cl i ≤ 1998 := by
  obtain ⟨_, _, ⟨a1, a2⟩, ⟨b1, b2⟩, hp⟩ := h
  unfold limAt
  have ha : auth y = y.seats + y.over := rfl
  split
  · omega
  · rw [List.getD_eq_getElem?_getD]
    cases e : y.cl[i - 1]? with
    | none => simp only [Option.getD_none, zClass]; omega
    | some z => have := hp z (List.mem_of_getElem? e); simp only [Option.getD_some]; omega
theorem limits_len (y : Cabin) : (limits y).length = y.cl.length := limTo_len _ _ _
theorem limits_getD (y : Cabin) {i : Nat} (h : i < y.cl.length) : (limits y).getD i 0 = limAt (auth y) y.cl i := by
  unfold limits limTo
  rw [List.getD_eq_getElem?_getD, List.getElem?_map, List.getElem?_range h]; rfl
theorem spareL_len (y : Cabin) (s : List Int) : (spareL y s).length = y.cl.length := by unfold spareL; rw [List.length_map, List.length_range]
theorem spareL_getD (y : Cabin) (s : List Int) {i : Nat} (h : i < y.cl.length) : (spareL y s).getD i 0 = spareAt y s i := by
  unfold spareL
  rw [List.getD_eq_getElem?_getD, List.getElem?_map, List.getElem?_range h]; rfl
structure NumOk (s : List Int) (n : Nat) : Prop where
  len : s.length = n
  rng : ∀ x ∈ s, 0 ≤ x ∧ x ≤ 9999
theorem sum_rng : ∀ {s : List Int}, (∀ x ∈ s, 0 ≤ x ∧ x ≤ 9999) → 0 ≤ s.sum ∧ s.sum ≤ 9999 * s.length
  | [], _ => by simp
  | x :: s, h => by
    have h1 := h x (List.mem_cons_self ..)
    have h2 := sum_rng fun y hy => h y (List.mem_cons_of_mem _ hy)
    rw [List.sum_cons, List.length_cons]
    omega
theorem belowS_rng {s : List Int} {n : Nat} (h : NumOk s n) (hn : n ≤ 26) (i : Nat) : 0 ≤ belowS s i ∧ belowS s i ≤ 259974 := by
  have := sum_rng (s := s.drop i) fun x hx => h.rng x (List.mem_of_mem_drop hx)
  have hl : (s.drop i).length ≤ 26 := by rw [List.length_drop]; have := h.len; omega
  unfold belowS
  omega
theorem belowS_step {s : List Int} {i : Nat} (h : i < s.length) : belowS s i = belowS s (i + 1) + s[i] := by
  unfold belowS
  rw [List.drop_eq_getElem_cons h, List.sum_cons]; omega
theorem belowS_end {s : List Int} {i : Nat} (h : s.length ≤ i) : belowS s i = 0 := by unfold belowS; rw [List.drop_eq_nil_of_le h]; rfl
theorem right_num {y : Cabin} {s : List Int} (h : rightS y s = true) : NumOk s y.cl.length := by
  unfold rightS at h
  simp only [Bool.and_eq_true, decide_eq_true_eq, Bool.not_eq_true'] at h
  refine ⟨h.1, fun x hx => ?_⟩
  have := List.any_eq_false.1 h.2 x hx
  unfold badN at this
  simp at this; omega
theorem num_right {y : Cabin} {s : List Int} (h : NumOk s y.cl.length) : rightS y s = true := by
  unfold rightS
  rw [decide_eq_true h.len, Bool.true_and]
  have : s.any badN = false := List.any_eq_false.2 fun x hx => by have := h.rng x hx; unfold badN; simp; omega
  rw [this]; rfl
theorem spare_rng {y : Cabin} {s : List Int} (h : CabOk y) (hs : NumOk s y.cl.length) {i : Nat} (hi : i < y.cl.length) : -1000000 ≤ spareAt y s i ∧ spareAt y s i ≤ 1998 := by
  unfold spareAt
  rw [limits_getD y hi]
  have h1 := h.lim i
  have h2 := belowS_rng hs h.le i
  omega
theorem spare_end {y : Cabin} {s o : List Int} (ho : o.length = y.cl.length) (hp : ∀ i, i < y.cl.length → o.getD i 0 = spareAt y s i) : o = spareL y s := by
  refine List.ext_getElem (by rw [ho, spareL_len]) fun i h1 h2 => ?_
  have := hp i (by omega)
  rw [← spareL_getD y s (by omega)] at this
  rwa [List.getD_eq_getElem?_getD, List.getD_eq_getElem?_getD, List.getElem?_eq_getElem h1, List.getElem?_eq_getElem h2] at this
theorem spare_start (y : Cabin) (s : List Int) : ∀ i, i < y.cl.length → (limits y).getD i 0 = if i < y.cl.length then (limits y).getD i 0 else spareAt y s i := fun i hi => by rw [if_pos hi]
theorem spare_step {y : Cabin} {s o : List Int} {i : Nat} {v : Int} (hi : i < y.cl.length) (hio : i < o.length) (hoi : o[i] = limAt (auth y) y.cl i) (hv : belowS s i = v) (hp : ∀ k, k < y.cl.length → o.getD k 0 = if k < i + 1 then (limits y).getD k 0 else spareAt y s k) :
    ∀ k, k < y.cl.length → (o.set i (o[i] - v)).getD k 0 = if k < i then (limits y).getD k 0 else spareAt y s k := by
  intro k hk
  by_cases e : i = k
  · subst e
    rw [List.getD_eq_getElem?_getD, List.getElem?_set_self hio, if_neg (by omega)]
    simp only [Option.getD_some]
    unfold spareAt
    rw [limits_getD y hi, hv, hoi]
  · rw [List.getD_eq_getElem?_getD, List.getElem?_set_ne e, ← List.getD_eq_getElem?_getD, hp k hk]
    by_cases e2 : k < i
    · rw [if_pos (by omega), if_pos e2]
    · rw [if_neg (by omega), if_neg e2]
def EFn : Nat → Bool := fun f => f == 30
noncomputable def tSp : Tab
  | 72 => (gOf aCab fLim)
  | _ => gNo
theorem tSp_ok : ∀ f, PureC Tryd.prog UT f (tSp f) := fun f => by
  unfold tSp
  split
  · exact limits_p
  · exact PureC.no
theorem fLim_eq (nm : List UInt8) (se ov : Int) (cl : List Class) : gOf aCab fLim [.agg [.str nm, .int .i64 se, .int .i64 ov, .list (cl.map Class.enc) false]] = (cl.length ≤ 1000000 ∧ inI (se + ov) ∧ ∀ z ∈ cl, inI (se + ov - z.prot), .list (ints (limits ⟨nm, se, ov, cl⟩)) false) := gOf_eq aCab_inj (⟨nm, se, ov, cl⟩ : Cabin)
theorem spare_e (y : Cabin) (s : List Int) (hy : CabOk y) (hs : NumOk s y.cl.length) : Eff Tryd.prog UT 66 ([.agg y.enc] ++ [.own 1000 s.length]) [(1000, .arr 3 1 (ints s))] (.own 10 y.cl.length) [(1000, .arr 3 1 (ints s)), (10, .arr 3 1 (ints (spareL y s)))] := by
  have hG := tSp_ok
  have hll := limits_len y
  have hne : limits y ≠ [] := fun e => by have := hy.ne; rw [e] at hll; simp at hll; omega
  have hl26 := hy.le
  have hl6 : y.cl.length ≤ 1000000 := by omega
  have hlp : (limits y).length ≤ 1000000 := by omega
  have hau : inI (y.seats + y.over) := by have := hy.se; have := hy.ov; unfold inI; omega
  have hap : ∀ z ∈ y.cl, inI (y.seats + y.over - z.prot) := fun z hz => by have := hy.pr z hz; have := hy.se; have := hy.ov; have ha : auth y = y.seats + y.over := rfl; unfold inI; omega
  have hsl := hs.len
  obtain ⟨Y, hY⟩ : ∃ x, x = y := ⟨_, rfl⟩
  obtain ⟨nm, se, ov, cl⟩ := y
  dsimp only at hl6 hau hap hl26 hs hsl hll
  refine Eff.of_aw Tryd.func66 body66 nm66 res66 (by rw [nt66]; simp) fun C hN Q hQ => ?_
  rw [nt66] at hN
  unfold c66
  refine aw_seq (aw_region (EF := EFn) hG (by rw [hN]; exact tr66_0) ?_)
  simp only [a66_0, go_sem, simprocAttr, List.cons_append, List.nil_append, Cabin.enc, tSp, EFn, fLim_eq]
  refine aw_seq (aw_region (EF := EFn) hG (by rw [hN]; exact tr66_1) ?_)
  simp only [a66_1, go_sem, simprocAttr, tSp, EFn, fLim_eq]
  refine ⟨⟨hl6, hau, hap⟩, ?_⟩
  refine clonel_use (nn := 10) hne hlp rfl (by decide) ?_
  simp only [go_sem, simprocAttr, hll]
  refine aw_seq (aw_region (EF := EFn) hG (by rw [hN]; exact tr66_2) ?_)
  simp only [a66_2, go_sem, simprocAttr, tSp, EFn, fLim_eq]
  refine aw_seq ?_
  refine aw_seq (aw_region (EF := EFn) hG (by rw [hN]; exact tr66_3) ?_)
  simp only [a66_3, go_sem, simprocAttr, inI, hll, tSp, EFn, fLim_eq]
  (repeat' apply And.intro) <;> try exact sdA
  refine aw_block ?_
  refine aw_loop (α := Nat × (List Int)) (fun γ => (γ.1 ≤ cl.length) ∧ (γ.2.length = cl.length) ∧ (∀ i, i < cl.length → γ.2.getD i 0 = if i < γ.1 then (limits ⟨nm, se, ov, cl⟩).getD i 0 else spareAt ⟨nm, se, ov, cl⟩ s i)) (fun γ => ⟨mkE [(1, V.own 1000 s.length), (5, V.own 10 cl.length), (6, .int .i64 (belowS s γ.1)), (7, .int .i64 ((γ.1 : Int) - 1))], mkH [(10, .arr 3 1 (ints γ.2)), (1000, Ob.arr 3 1 (ints s))]⟩) (fun γ => γ.1) (cl.length, limits ⟨nm, se, ov, cl⟩) ⟨Nat.le_refl _, hll, spare_start ⟨nm, se, ov, cl⟩ s⟩ ?_ ?_
  · refine Le.mk _ _ ?_ ?_ rfl <;> simp only [go_sem, simprocAttr, belowS_end (Nat.le_of_eq hsl)] <;> (repeat' apply And.intro) <;> try exact leA
  · rintro ⟨j, o⟩ ⟨hj, ho, hp⟩ KL0 hKL0
    try dsimp only at *
    refine aw_seq ?_
    refine aw_seq (aw_region (EF := EFn) hG (by rw [hN]; exact tr66_4) ?_)
    simp only [a66_4, go_sem, simprocAttr, tSp, EFn, fLim_eq]
    refine aw_cond (b := _) rfl (fun hc4 => ?_) (fun hc4 => ?_)
    · skip
      have hj0 : 0 < j := by simp at hc4; omega
      obtain ⟨i, rfl⟩ : ∃ i, j = i + 1 := ⟨j - 1, by omega⟩
      have hi : i < cl.length := hj
      have hi2 : i < s.length := by rw [hsl]; exact hi
      have ei : (i : Int) + 1 - 1 = (i : Int) := by omega
      have hb := belowS_rng hs hl26 (i + 1)
      have hb0 := belowS_rng hs hl26 i
      have hbs := belowS_step hi2
      have hx := hs.rng s[i] (List.getElem_mem hi2)
      have hpi := hp i hi
      rw [if_pos (by omega), limits_getD ⟨nm, se, ov, cl⟩ hi] at hpi
      have hlm := hy.lim i
      dsimp only at hlm hpi
      have hio : i < o.length := by rw [ho]; exact hi
      have hoi : o[i] = limAt (auth ⟨nm, se, ov, cl⟩) cl i := by rw [← hpi, List.getD_eq_getElem?_getD, List.getElem?_eq_getElem hio]; rfl
      refine aw_skip ?_
      try simp only [go_sem, simprocAttr]
      refine aw_seq ?_
      refine aw_block ?_
      refine aw_seq (aw_region (EF := EFn) hG (by rw [hN]; exact tr66_6) ?_)
      simp only [a66_6, go_sem, simprocAttr, inI, ei, ints_at _ _ hi2, hi2, Int.toNat_natCast, tSp, EFn, fLim_eq]
      (repeat' apply And.intro) <;> try exact sdA
      refine aw_region (EF := EFn) hG (by rw [hN]; exact tr66_7) ?_
      simp only [a66_7, go_sem, simprocAttr, inI, ei, ints_at _ _ hio, hio, Int.toNat_natCast, ho, ints_set, putAt, ints_len, tSp, EFn, fLim_eq]
      (repeat' apply And.intro) <;> try exact sdA
      refine aw_region (EF := EFn) hG (by rw [hN]; exact tr66_5) ?_
      simp only [a66_5, go_sem, simprocAttr, inI, tSp, EFn, fLim_eq]
      (repeat' apply And.intro) <;> try exact sdA
      refine hKL0 (i, o.set i (o[i] - (belowS s (i + 1) + s[i]))) _ ?_ ?_ ?_
      · (try dsimp only); exact ⟨by omega, by rw [List.length_set]; exact ho, spare_step (y := ⟨nm, se, ov, cl⟩) hi hio hoi hbs hp⟩
      · (try dsimp only); omega
      · refine Le.mk _ _ ?_ ?_ rfl <;> simp only [go_sem, simprocAttr, hbs] <;> (repeat' apply And.intro) <;> try exact leA
    · skip
      obtain rfl : j = 0 := by simp at hc4; omega
      obtain rfl := spare_end (y := ⟨nm, se, ov, cl⟩) ho fun i hi => by rw [hp i hi, if_neg (by omega)]
      refine aw_exit ?_
      simp only [go_sem, simprocAttr]
      refine aw_seq (aw_region (EF := EFn) hG (by rw [hN]; exact tr66_8) ?_)
      simp only [a66_8, go_sem, simprocAttr, tSp, EFn, fLim_eq]
      refine aw_ret ?_
      show Q _ _
      refine hQ _ _ ⟨mkE [(4, .own 10 cl.length)], mkH ([(1000, .arr 3 1 (ints s)), (10, .arr 3 1 (ints (spareL ⟨nm, se, ov, cl⟩ s)))])⟩ (.inl rfl) (Le.mk _ _ ?_ ?_ rfl) rfl ?_ ?_ <;> simp only [outφ, outV, AR.res, go_sem, simprocAttr, ints_len]
set_option linter.unusedSimpArgs false
set_option linter.unusedVariables false
set_option linter.deprecated false
theorem spare_use {d : Option Nat} {s : St} {K : St → Prop} {nr nn : Nat} {y : Cabin} {l : List Int} (hy : CabOk y) (hl : NumOk l y.cl.length) (hr : s.h nr = some (.arr 3 1 (ints l))) (hn : s.h nn = none) (h1 : nn < 1000) (hne : nr ≠ nn)
    (hK : K ⟨setE d (.own nn y.cl.length) s.e, hov [(nr, .arr 3 1 (ints l)), (nn, .arr 3 1 (ints (spareL y l)))] s.h⟩) : EStep Tryd.prog UT d 66 [.agg y.enc, .own nr l.length] s K := by
  have hne2 := Ne.symm hne
  have p0 : ∀ l : List Int, renR (rni [(1000, nr)]) (ints l) = ints l := fun l => renR_pure (ints_pur l)
  have p1 : ∀ l : List Int, renR (rn ([(1000, nr)] ++ [(10, nn)])) (ints l) = ints l := fun l => renR_pure (ints_pur l)
  refine ⟨[(1000, nr)], [(10, nn)], _, _, _, _, spare_e y l hy hl, ⟨by simp [okL, hne], rfl, rfl, by simp, ?_, ?_, by simp [V.rens, V.ren, rni, Cabin.enc], by simp [V.nins, V.nin, Cabin.enc], by simp [V.nin], ?_, ?_⟩, ?_⟩
  · intro p hp
    simp only [List.mem_cons, List.not_mem_nil, or_false] at hp
    subst hp; exact ⟨hn, h1⟩
  · intro p hp
    simp only [List.mem_cons, List.not_mem_nil, or_false] at hp
    subst hp
    exact ⟨_, hr, by simp [mkH, Ob.ren, p0], .inl (ints_pur l)⟩
  · intro q hq
    simp only [List.mem_cons, List.not_mem_nil, or_false] at hq
    rcases hq with rfl | rfl <;> exact .inl (ints_pur _)
  · intro p hp o o' h1 h2
    simp only [List.mem_cons, List.not_mem_nil, or_false] at hp
    subst hp; simp [mkH] at h1 h2; subst h1 h2; simp [Ob.kind]
  · have e1 : (V.own 10 y.cl.length).ren (rn ([(1000, nr)] ++ [(10, nn)])) = .own nn y.cl.length := by simp [V.ren, rn]
    have e2 : [((1000, .arr 3 1 (ints l)) : Nat × Ob), (10, .arr 3 1 (ints (spareL y l)))].map (fun q : Nat × Ob => (rn ([(1000, nr)] ++ [(10, nn)]) q.1, q.2.ren (rn ([(1000, nr)] ++ [(10, nn)])))) = [(nr, .arr 3 1 (ints l)), (nn, .arr 3 1 (ints (spareL y l)))] := by simp [rn, Ob.ren]; exact ⟨p1 _, p1 _⟩
    rw [e1, e2]; exact hK
theorem leastS_snoc : ∀ (m : Int) (l : List Int) (n : Int), leastS m (l ++ [n]) = min (leastS m l) n
  | _, [], _ => rfl
  | m, x :: l, n => by rw [List.cons_append, leastS, leastS, leastS_snoc]
theorem openGo_at : ∀ (m : Int) (l : List Int) (i : Nat) (h : i < l.length), (openGo m l)[i]? = some (max 0 (leastS m (l.take (i + 1))))
  | m, n :: l, 0, _ => rfl
  | m, n :: l, i + 1, h => by
    rw [openGo, List.getElem?_cons_succ, List.take_succ_cons, leastS]
    exact openGo_at (min m n) l i (by simpa using h)
def openTo (sp : List Int) (i : Nat) : List Int := (openGo 1099511627776 sp).take i ++ sp.drop i
theorem openTo_len {sp : List Int} {i : Nat} (h : i ≤ sp.length) : (openTo sp i).length = sp.length := by
  unfold openTo
  rw [List.length_append, List.length_take, List.length_drop, openGo_len]; omega
theorem openTo_get {sp : List Int} {i : Nat} (h : i < sp.length) (h2 : i < (openTo sp i).length) : (openTo sp i)[i] = sp[i] := by
  have e : ((openGo 1099511627776 sp).take i).length = i := by rw [List.length_take, openGo_len]; omega
  have h3 : (openTo sp i)[i]? = some sp[i] := by
    unfold openTo
    rw [List.getElem?_append_right (by omega), e, Nat.sub_self, List.getElem?_drop, Nat.add_zero, List.getElem?_eq_getElem h]
  rw [List.getElem?_eq_getElem h2] at h3
  injection h3
theorem openTo_step {sp : List Int} {i : Nat} (h : i < sp.length) : (openTo sp i).set i (max 0 (leastS 1099511627776 (sp.take (i + 1)))) = openTo sp (i + 1) := by
  unfold openTo
  have e : ((openGo 1099511627776 sp).take i).length = i := by rw [List.length_take, openGo_len]; omega
  have ho : i < (openGo 1099511627776 sp).length := by rw [openGo_len]; exact h
  rw [List.set_append_right _ _ (by omega), e, Nat.sub_self, List.drop_eq_getElem_cons h, List.set_cons_zero, List.take_succ_eq_append_getElem ho, List.append_assoc]
  have := openGo_at 1099511627776 sp i h
  rw [List.getElem?_eq_getElem ho] at this
  injection this with this
  rw [this]; rfl
theorem openTo_end (sp : List Int) : openTo sp sp.length = openGo 1099511627776 sp := by
  unfold openTo
  rw [List.drop_length, List.append_nil, List.take_of_length_le (by rw [openGo_len]; exact Nat.le_refl _)]
def EFo : Nat → Bool := fun f => f == 66
noncomputable def tOp : Tab
  | 65 => (gOf aYS fRight)
  | _ => gNo
theorem tOp_ok : ∀ f, PureC Tryd.prog UT f (tOp f) := fun f => by
  unfold tOp
  split
  · exact right_p
  · exact PureC.no
theorem open_e (y : Cabin) (s : List Int) (hy : CabOk y) (hs : s.length ≤ 1000000) : Eff Tryd.prog UT 46 ([.agg y.enc] ++ [.own 1000 s.length]) [(1000, .arr 3 1 (ints s))] (.list (ints (openS y s)) false) [(1000, .arr 3 1 (ints s))] := by
  have hG := tOp_ok
  have hl26 := hy.le
  have hl6 : y.cl.length ≤ 140737488355328 := by omega
  have hs2 : s.length ≤ 140737488355328 := by omega
  have hsp : ∀ x ∈ spareL y s, rightS y s = true → -1000000 ≤ x ∧ x ≤ 1998 := fun x hx hr => by
    obtain ⟨i, hi, rfl⟩ := List.mem_map.1 hx
    exact spare_rng hy (right_num hr) (List.mem_range.1 hi)
  have hll := spareL_len y s
  have hno : rightS y s = false → openS y s = [] := fun h => by unfold openS; rw [if_neg (by rw [h]; decide)]
  have hyes : rightS y s = true → openS y s = openGo 1099511627776 (spareL y s) := fun h => by unfold openS; rw [if_pos h]
  obtain ⟨nm, se, ov, cl⟩ := y
  dsimp only at hl6 hl26 hll
  obtain ⟨R, hR⟩ : ∃ x, x = rightS ⟨nm, se, ov, cl⟩ s := ⟨_, rfl⟩
  obtain ⟨W, hW⟩ : ∃ x, x = openS ⟨nm, se, ov, cl⟩ s := ⟨_, rfl⟩
  rw [← hR, ← hW] at hno hyes
  rw [← hW]
  obtain ⟨sp, hspe⟩ : ∃ x, x = spareL ⟨nm, se, ov, cl⟩ s := ⟨_, rfl⟩
  rw [← hspe] at hsp hyes hll
  refine Eff.of_aw Tryd.func46 body46 nm46 res46 (by rw [nt46]; simp) fun C hN Q hQ => ?_
  rw [nt46] at hN
  unfold c46
  refine aw_seq (aw_region (EF := EFo) hG (by rw [hN]; exact tr46_0) ?_)
  simp only [a46_0, go_sem, simprocAttr, List.cons_append, List.nil_append, Cabin.enc, tOp, EFo, fRight_eq, ← hR]
  refine aw_seq ?_
  refine aw_seq (aw_region (EF := EFo) hG (by rw [hN]; exact tr46_1) ?_)
  simp only [a46_1, go_sem, simprocAttr, hl6, hs2, tOp, EFo, fRight_eq, ← hR]
  (repeat' apply And.intro) <;> try exact sdA
  refine aw_cond (b := _) rfl (fun hb1 => ?_) (fun hb1 => ?_)
  · skip
    have hR0 : R = false := by simpa using hb1
    refine aw_seq (aw_region (EF := EFo) hG (by rw [hN]; exact tr46_2) ?_)
    simp only [a46_2, go_sem, simprocAttr, tOp, EFo, fRight_eq, ← hR]
    refine aw_ret ?_
    show Q _ _
    refine hQ _ _ ⟨mkE [(4, .list (ints W) false)], mkH ([(1000, .arr 3 1 (ints s))])⟩ (.inl rfl) (Le.mk _ _ ?_ ?_ rfl) rfl ?_ ?_ <;> simp only [outφ, outV, AR.res, go_sem, simprocAttr, hno hR0, ints_nil]
    all_goals (first | exact .nill _ | rfl)
  · skip
    have hR1 : R = true := by simpa using hb1
    have hnum := right_num (y := ⟨nm, se, ov, cl⟩) (s := s) (by rw [← hR]; exact hR1)
    refine aw_skip ?_
    try simp only [go_sem, simprocAttr]
    refine aw_seq (aw_region (EF := EFo) hG (by rw [hN]; exact tr46_3) ?_)
    simp only [a46_3, go_sem, simprocAttr, tOp, EFo, fRight_eq, ← hR]
    refine spare_use (nr := 1000) (nn := 15) (y := ⟨nm, se, ov, cl⟩) hy hnum rfl rfl (by decide) (by decide) ?_
    simp only [go_sem, simprocAttr, ← hspe]
    refine aw_seq (aw_region (EF := EFo) hG (by rw [hN]; exact tr46_4) ?_)
    simp only [a46_4, go_sem, simprocAttr, tOp, EFo, fRight_eq, ← hR]
    refine aw_seq ?_
    refine aw_seq (aw_region (EF := EFo) hG (by rw [hN]; exact tr46_5) ?_)
    simp only [a46_5, go_sem, simprocAttr, hll, tOp, EFo, fRight_eq, ← hR]
    refine aw_block ?_
    refine aw_loop (α := Nat) (fun i => (i ≤ cl.length)) (fun i => ⟨mkE [(5, V.own 15 cl.length), (6, .int .i64 (leastS 1099511627776 (sp.take i))), (16, V.own 15 cl.length), (17, V.int IntKind.i64 ↑cl.length), (18, .int .i64 i)], mkH [(15, .arr 3 1 (ints (openTo sp i))), (1000, Ob.arr 3 1 (ints s))]⟩) (fun i => cl.length - i) 0 (Nat.zero_le _) ?_ ?_
    · refine Le.mk _ _ ?_ ?_ rfl <;> simp only [go_sem, simprocAttr, List.take_zero, leastS, openTo, List.nil_append, List.drop_zero] <;> (repeat' apply And.intro) <;> try exact leA
    · rintro i hi KL0 hKL0
      try dsimp only at *
      refine aw_seq (aw_region (EF := EFo) hG (by rw [hN]; exact tr46_6) ?_)
      simp only [a46_6, go_sem, simprocAttr, tOp, EFo, fRight_eq, ← hR]
      refine aw_seq ?_
      refine aw_cond (b := _) rfl (fun hc6 => ?_) (fun hc6 => ?_)
      · skip
        have hc : i < cl.length := by simp at hc6; omega
        have hc2 : i < sp.length := by omega
        have hol : (openTo sp i).length = sp.length := openTo_len (by omega)
        have hc3 : i < (openTo sp i).length := by omega
        have hog := openTo_get hc2 hc3
        have hst := openTo_step hc2
        have hls := leastS_snoc 1099511627776 (sp.take i) sp[i]
        rw [← take_succ' hc2] at hls
        have hmx : ∀ n : Int, max 0 n = max 0 n := fun _ => rfl
        refine aw_skip ?_
        try simp only [go_sem, simprocAttr]
        refine aw_seq ?_
        refine aw_block ?_
        refine aw_seq (aw_region (EF := EFo) hG (by rw [hN]; exact tr46_7) ?_)
        simp only [a46_7, go_sem, simprocAttr, ints_at _ _ hc3, hog, hol, hll, hc, ints_len, tOp, EFo, fRight_eq, ← hR]
        (repeat' apply And.intro) <;> try exact sdA
        refine aw_seq (aw_region (EF := EFo) hG (by rw [hN]; exact tr46_8) ?_)
        simp only [a46_8, go_sem, simprocAttr, ← hls, tOp, EFo, fRight_eq, ← hR]
        refine aw_region (EF := EFo) hG (by rw [hN]; exact tr46_9) ?_
        simp only [a46_9, go_sem, simprocAttr, ints_at _ _ hc3, hol, hll, hc, ints_len, putAt, ints_set, hst, List.take_zero, List.drop_nil, List.length_cons, List.length_nil, List.nil_append, List.append_nil, tOp, EFo, fRight_eq, ← hR]
        (repeat' apply And.intro) <;> try exact sdA
        refine aw_region (EF := EFo) hG (by rw [hN]; exact tr46_10) ?_
        simp only [a46_10, go_sem, simprocAttr, inI, tOp, EFo, fRight_eq, ← hR]
        (repeat' apply And.intro) <;> try exact sdA
        refine hKL0 (i + 1) _ ?_ ?_ ?_
        · (try dsimp only); exact hc
        · (try dsimp only); omega
        · refine Le.mk _ _ ?_ ?_ rfl <;> simp only [go_sem, simprocAttr] <;> (repeat' apply And.intro) <;> try exact leA
      · skip
        obtain rfl : i = cl.length := by simp at hc6; omega
        have hend : openTo sp cl.length = W := by rw [← hll, openTo_end, hyes hR1]
        refine aw_exit ?_
        simp only [go_sem, simprocAttr]
        refine aw_seq (aw_region (EF := EFo) hG (by rw [hN]; exact tr46_11) ?_)
        simp only [a46_11, go_sem, simprocAttr, tOp, EFo, fRight_eq, ← hR]
        refine aw_ret ?_
        show Q _ _
        refine hQ _ _ ⟨mkE [(4, .list (ints W) false)], mkH ([(1000, .arr 3 1 (ints s))])⟩ (.inl rfl) (Le.mk _ _ ?_ ?_ rfl) rfl ?_ ?_ <;> simp only [outφ, outV, AR.res, go_sem, simprocAttr, hend]
        all_goals (first | exact wk_frz rfl (by rw [ints_len, ← hend, openTo_len (by omega), hll]) rfl (ints_pur _) | rfl)
set_option linter.unusedSimpArgs false
set_option linter.unusedVariables false
set_option linter.deprecated false
theorem open_use {d : Option Nat} {s : St} {K : St → Prop} {nr : Nat} {y : Cabin} {l : List Int} (hy : CabOk y) (hl : l.length ≤ 1000000) (hr : s.h nr = some (.arr 3 1 (ints l))) (hK : K ⟨setE d (.list (ints (openS y l)) false) s.e, s.h⟩) : EStep Tryd.prog UT d 46 [.agg y.enc, .own nr l.length] s K :=
  row_use (xs := [.agg y.enc]) (open_e y l hy hl) rfl (fun D => by simp [V.nins, V.nin, Cabin.enc]) rfl (fun _ => rfl) hr hK
def nu (k : Nat) : Nat := 1000 + k
theorem nu_inj : Inj nu := fun a b e => by unfold nu at e; omega
def leftS (c : Config) (S : List (List Int)) (cls : List UInt8) : Int :=
  match place c.cabs cls with
  | none => 0
  | some (i, k) => (openS (c.cabs.getD i zCabin) (S.getD i [])).getD k 0
structure LegOk (c : Config) (S : List (List Int)) : Prop where
  ok : c.ok
  cab : ∀ y ∈ c.cabs, CabOk y
  len : S.length = c.cabs.length
  le : S.length ≤ 8
  num : ∀ i (h : i < S.length), S[i].length = (c.cabs.getD i zCabin).cl.length
theorem legO_at {c : Config} {S : List (List Int)} : ∀ q ∈ legO nu c S, mkH (legO nu c S) q.1 = some q.2 := fun _ hq => mkH_at (by rw [(legO_fam c S).nm]; exact nu_inj.nd (legK_nd S)) hq
theorem legO_ge {c : Config} {S : List (List Int)} : ∀ q ∈ legO nu c S, 1000 ≤ q.1 := fun q hq => by
  have : q.1 ∈ (legO nu c S).map (·.1) := List.mem_map.2 ⟨q, hq, rfl⟩
  rw [(legO_fam c S).nm] at this
  obtain ⟨k, _, e⟩ := List.mem_map.1 this
  rw [← e]; unfold nu; omega
theorem place_lt {l : List Cabin} {s : List UInt8} {i k : Nat} (h : place l s = some (i, k)) : ∃ hi : i < l.length, k < l[i].cl.length := by
  have main : ∀ (l : List Cabin) (j : Nat), placeFrom s j l = some (i, k) → ∃ n, i = j + n ∧ ∃ hn : n < l.length, k < l[n].cl.length := by
    intro l
    induction l with
    | nil => intro j h; cases h
    | cons y l ih =>
      intro j h
      rw [placeFrom] at h
      split at h
      · rename_i k' hk
        injection h with h; injection h with h1 h2
        subst h1 h2
        obtain ⟨hlt, _, _⟩ := List.findIdx?_eq_some_iff_getElem.1 hk
        exact ⟨0, rfl, by simp, hlt⟩
      · obtain ⟨n, e, hn, hk⟩ := ih (j + 1) h
        exact ⟨n + 1, by omega, by simpa using hn, hk⟩
  obtain ⟨n, e, hn, hk⟩ := main l 0 h
  obtain rfl : i = n := by omega
  exact ⟨hn, hk⟩
theorem openS_len {y : Cabin} {s : List Int} : (openS y s).length = 0 ∨ (openS y s).length = y.cl.length := by
  unfold openS
  split
  · right; rw [openGo_len, spareL_len]
  · left; rfl
noncomputable def tLe : Tab
  | 27 => (gOf aPlace fPlace)
  | _ => gNo
theorem tLe_ok : ∀ f, PureC Tryd.prog UT f (tLe f) := fun f => by
  unfold tLe
  split
  · exact place_p
  · exact PureC.no
def EFl : Nat → Bool := fun f => f == 46
theorem left_e (c : Config) (S : List (List Int)) (cls : List UInt8) (hL : LegOk c S) : Eff Tryd.prog UT 26 [.ptr (nu 0) 0, .str cls] (legO nu c S) (.int .i64 (leftS c S cls)) (legO nu c S) := by
  have hG := tLe_ok
  obtain ⟨hok, hcab, hlen, hle, hnum⟩ := hL
  have hTl := legO_at (c := c) (S := S)
  have hGe := legO_ge (c := c) (S := S)
  have hF := legO_fam c S
  obtain ⟨W, hW⟩ : ∃ x, x = leftS c S cls := ⟨_, rfl⟩
  have hWd := hW
  unfold leftS at hWd
  rw [← hW]
  obtain ⟨q, l⟩ := c
  dsimp only at hcab hlen hnum hWd
  have hb0 : mkH (legO nu ⟨q, l⟩ S) 1000 = some (.box 73 [.str q, .list (l.map Cabin.enc) false, .own 1001 S.length, .bool false]) := hTl (nu 0, _) (List.mem_cons_self ..)
  have hb1 : mkH (legO nu ⟨q, l⟩ S) 1001 = some (.arr 82 1 (soH (fun k => nu (k + 2)) S)) := hTl (nu 1, _) (List.mem_cons_of_mem _ (List.mem_cons_self ..))
  have hin : ((legO nu ⟨q, l⟩ S).map (·.1)).contains 1000 = true := by rw [List.contains_iff_mem]; exact List.mem_map.2 ⟨(nu 0, _), List.mem_cons_self .., rfl⟩
  obtain ⟨pl, hpl⟩ : ∃ x, place l cls = x := ⟨_, rfl⟩
  rw [hpl] at hWd
  have e00 : nu 0 = 1000 := rfl
  refine Eff.of_aw Tryd.func26 body26 nm26 res26 (by rw [nt26]; simp) fun C hN Q hQ => ?_
  rw [nt26] at hN
  unfold c26
  cases pl with
  | none =>
    refine aw_seq (aw_region (EF := EFl) hG (by rw [hN]; exact tr26_0) ?_)
    simp only [a26_0, go_sem, simprocAttr, tLe, EFl, hb0, hb1, e00, fPlace_eq, hpl, placeV]
    refine aw_seq (aw_region (EF := EFl) hG (by rw [hN]; exact tr26_1) ?_)
    simp only [a26_1, go_sem, simprocAttr, hok, tLe, EFl, hb0, hb1, e00, fPlace_eq, hpl, placeV]
    (repeat' apply And.intro) <;> try exact sdA
    refine aw_seq ?_
    refine aw_seq (aw_region (EF := EFl) hG (by rw [hN]; exact tr26_2) ?_)
    simp only [a26_2, go_sem, simprocAttr, tLe, EFl, hb0, hb1, e00, fPlace_eq, hpl, placeV]
    refine aw_condT rfl ?_
    refine aw_seq (aw_region (EF := EFl) hG (by rw [hN]; exact tr26_3) ?_)
    simp only [a26_3, go_sem, simprocAttr, tLe, EFl, hb0, hb1, e00, fPlace_eq, hpl, placeV]
    refine aw_ret ?_
    show Q _ _
    refine hQ _ _ ⟨mkE [(4, .int .i64 W)], mkH ([] ++ legO nu ⟨q, l⟩ S)⟩ (.inl rfl) (Le.tail _ _ _ ?_ ?_ ?_ rfl) rfl ?_ ?_
    · exact fun q hq => ⟨by (have hge := hGe q hq; (try dsimp only [hupd, hupds, hov]); (repeat rw [if_neg (by omega)]); exact hTl q hq), Fam.ni1 (hF) q hq⟩
    all_goals simp only [outφ, outV, AR.res, go_sem, simprocAttr, hWd, e00]
  | some p =>
    obtain ⟨i, k⟩ := p
    obtain ⟨hi, hk⟩ := place_lt hpl
    have hiS : i < S.length := by omega
    have hll := l.length
    have hsoH := soH_at (ν := fun k => nu (k + 2)) hiS
    have hrow := hTl (nu (i + 2), .arr 3 1 (ints S[i])) (List.mem_cons_of_mem _ (List.mem_cons_of_mem _ (soO_mem (ν := fun k => nu (k + 2)) hiS)))
    have hy := hcab _ (List.getElem_mem hi)
    have hSi := hnum i hiS
    have e1 : l.getD i zCabin = l[i] := by rw [List.getD_eq_getElem?_getD, List.getElem?_eq_getElem hi]; rfl
    have e2 : S.getD i [] = S[i] := by rw [List.getD_eq_getElem?_getD, List.getElem?_eq_getElem hiS]; rfl
    dsimp only at hWd hsoH hrow
    rw [e1] at hSi
    rw [e1, e2] at hWd
    obtain ⟨nr, hnr⟩ : ∃ x, x = nu (i + 2) := ⟨_, rfl⟩
    rw [← hnr] at hsoH hrow
    have hsl := soH_len (fun k => nu (k + 2)) S
    have ho := openS_len (y := l[i]) (s := S[i])
    obtain ⟨o, hoe⟩ : ∃ x, x = openS l[i] S[i] := ⟨_, rfl⟩
    rw [← hoe] at ho hWd
    have hy6 : S[i].length ≤ 1000000 := by have := hy.le; omega
    refine aw_seq (aw_region (EF := EFl) hG (by rw [hN]; exact tr26_0) ?_)
    simp only [a26_0, go_sem, simprocAttr, tLe, EFl, hb0, hb1, e00, fPlace_eq, hpl, placeV]
    refine aw_seq (aw_region (EF := EFl) hG (by rw [hN]; exact tr26_1) ?_)
    simp only [a26_1, go_sem, simprocAttr, hok, tLe, EFl, hb0, hb1, e00, fPlace_eq, hpl, placeV]
    (repeat' apply And.intro) <;> try exact sdA
    refine aw_seq ?_
    refine aw_seq (aw_region (EF := EFl) hG (by rw [hN]; exact tr26_2) ?_)
    simp only [a26_2, go_sem, simprocAttr, tLe, EFl, hb0, hb1, e00, fPlace_eq, hpl, placeV]
    refine aw_condF rfl ?_
    refine aw_skip ?_
    try simp only [go_sem, simprocAttr]
    refine aw_seq (aw_regionD (EF := EFl) hG mixed (by rw [hN]; exact tr26_4) ok26_4 ?_)
    simp only [a26_4, d26_4, go_sem, simprocAttr, getD_map _ _ _ hi, hsoH, hiS, hi, hsl, Cabin.enc, List.length_map, tLe, EFl, hb0, hb1, e00, fPlace_eq, hpl, placeV]
    (repeat' apply And.intro) <;> try exact sdA
    refine open_use (nr := nr) (y := l[i]) hy hy6 hrow ?_
    simp only [go_sem, simprocAttr, ← hoe]
    refine aw_seq ?_
    refine aw_seq (aw_region (EF := EFl) hG (by rw [hN]; exact tr26_5) ?_)
    simp only [a26_5, go_sem, simprocAttr, tLe, EFl, hb0, hb1, e00, fPlace_eq, hpl, placeV]
    refine aw_cond (b := _) rfl (fun hb5 => ?_) (fun hb5 => ?_)
    · skip
      have h5 : o.length ≤ k := by simp at hb5; omega
      have h5W : W = 0 := by rw [hWd, List.getD_eq_getElem?_getD, List.getElem?_eq_none h5]; rfl
      refine aw_seq (aw_region (EF := EFl) hG (by rw [hN]; exact tr26_6) ?_)
      simp only [a26_6, go_sem, simprocAttr, tLe, EFl, hb0, hb1, e00, fPlace_eq, hpl, placeV]
      refine aw_ret ?_
      show Q _ _
      refine hQ _ _ ⟨mkE [(4, .int .i64 W)], mkH ([] ++ legO nu ⟨q, l⟩ S)⟩ (.inl rfl) (Le.tail _ _ _ ?_ ?_ ?_ rfl) rfl ?_ ?_
      · exact fun q hq => ⟨by (have hge := hGe q hq; (try dsimp only [hupd, hupds, hov]); (repeat rw [if_neg (by omega)]); exact hTl q hq), Fam.ni1 (hF) q hq⟩
      all_goals simp only [outφ, outV, AR.res, go_sem, simprocAttr, h5W, e00]
    · skip
      have h5 : k < o.length := by simp at hb5; omega
      have h5W : W = o[k] := by rw [hWd, List.getD_eq_getElem?_getD, List.getElem?_eq_getElem h5]; rfl
      refine aw_skip ?_
      try simp only [go_sem, simprocAttr]
      refine aw_seq (aw_region (EF := EFl) hG (by rw [hN]; exact tr26_7) ?_)
      simp only [a26_7, go_sem, simprocAttr, ints_at _ _ h5, h5, ints_len, ← h5W, tLe, EFl, hb0, hb1, e00, fPlace_eq, hpl, placeV]
      (repeat' apply And.intro) <;> try exact sdA
      refine aw_ret ?_
      show Q _ _
      refine hQ _ _ ⟨mkE [(4, .int .i64 W)], mkH ([] ++ legO nu ⟨q, l⟩ S)⟩ (.inl rfl) (Le.tail _ _ _ ?_ ?_ ?_ rfl) rfl ?_ ?_
      · exact fun q hq => ⟨by (have hge := hGe q hq; (try dsimp only [hupd, hupds, hov]); (repeat rw [if_neg (by omega)]); exact hTl q hq), Fam.ni1 (hF) q hq⟩
      all_goals simp only [outφ, outV, AR.res, go_sem, simprocAttr, e00]
set_option linter.unusedSimpArgs false
set_option linter.unusedVariables false
set_option linter.deprecated false
theorem nu_ne {k m : Nat} (h : m < 1000) : (nu k = m) = False := eq_false (by unfold nu; omega)
theorem stO_ge {cs : List Config} {L : List Leg} : ∀ q ∈ stO nu cs L, 1000 ≤ q.1 := fun q hq => by
  have : q.1 ∈ (stO nu cs L).map (·.1) := List.mem_map.2 ⟨q, hq, rfl⟩
  rw [(stO_fam cs L).nm] at this
  obtain ⟨k, _, e⟩ := List.mem_map.1 this
  rw [← e]; unfold nu; omega
theorem stO_lo {cs : List Config} {L : List Leg} {m : Nat} (h : m < 1000) : mkH (stO nu cs L) m = none := mkH_none fun hm => by
  obtain ⟨q, hq, e⟩ := List.mem_map.1 hm
  have := stO_ge q hq
  omega
theorem stO_at {ν : Nat → Nat} (hν : Inj ν) {cs : List Config} {L : List Leg} (hB : LgsB L) : ∀ q ∈ stO ν cs L, mkH (stO ν cs L) q.1 = some q.2 := fun _ hq => mkH_at (stO_nd hν cs hB) hq
theorem st_in {ν : Nat → Nat} {cs : List Config} {L : List Leg} {k : Nat} (hk : k ∈ stK L) : ((stO ν cs L).map (·.1)).contains (ν k) = true := by
  rw [List.contains_iff_mem, (stO_fam cs L).nm]; exact List.mem_map.2 ⟨k, hk, rfl⟩
theorem stK_0 (L : List Leg) : 0 ∈ stK L := List.mem_cons_self ..
theorem lgK_leg : ∀ {L : List Leg} {j : Nat}, j < L.length → 10 * j ∈ lgK L
  | x :: L, 0, _ => List.mem_append_left _ (legK_0 _)
  | x :: L, j + 1, h => List.mem_append_right _ (List.mem_map.2 ⟨10 * j, lgK_leg (by simpa using h), by omega⟩)
theorem stK_leg {L : List Leg} {j : Nat} (h : j < L.length) : 10 * j + 2 ∈ stK L := List.mem_cons_of_mem _ (List.mem_cons_of_mem _ (List.mem_map.2 ⟨10 * j, lgK_leg h, rfl⟩))
theorem lgK_eq : ∀ {L L' : List Leg}, L.map (fun x => x.sold.length) = L'.map (fun x => x.sold.length) → lgK L = lgK L'
  | [], [], _ => rfl
  | x :: L, x' :: L', h => by
    rw [List.map_cons, List.map_cons, List.cons.injEq] at h
    have e : ∀ {S S' : List (List Int)}, S.length = S'.length → soK S = soK S' := fun {S} => by
      induction S with
      | nil => intro S' h; cases S' with | nil => rfl | cons _ _ => cases h
      | cons a S ih => intro S' h; cases S' with | nil => cases h | cons b S' => rw [soK, soK, ih (by simpa using h)]
    rw [lgK, lgK, lgK_eq h.2, legK, legK, e h.1]
  | [], _ :: _, h => nomatch h
  | _ :: _, [], h => nomatch h
theorem stK_eq {L L' : List Leg} (h : L.map (fun x => x.sold.length) = L'.map (fun x => x.sold.length)) : stK L = stK L' := by unfold stK; rw [lgK_eq h]
theorem hov_same {l : List (Nat × Ob)} {h : Nat → Option Ob} (ha : ∀ q ∈ l, h q.1 = some q.2) : hov l h = h := by
  funext m
  rw [hov_eq]
  cases e : mkH l m with
  | none => rfl
  | some o => exact (ha _ (mkH_mem e)).symm
theorem st_use {d : Option Nat} {s : St} {K : St → Prop} {f : Nat} {cs : List Config} {L L' : List Leg} {xs : List V} {v : V} {ν : Nat → Nat} (he : Eff Tryd.prog UT f (.ptr (nu 0) 0 :: xs) (stO nu cs L) v (stO nu cs L')) (hB : LgsB L) (hl : L.map (fun x => x.sold.length) = L'.map (fun x => x.sold.length)) (hx : V.purs xs = true) (hxn : ∀ D, V.nins D xs = true) (hv : v.pur = true) (hvn : ∀ D, v.nin D = true)
    (hν : Inj ν) (hat : ∀ q ∈ stO ν cs L, s.h q.1 = some q.2) (hK : K ⟨setE d v s.e, hov (stO ν cs L') s.h⟩) : EStep Tryd.prog UT d f (.ptr (ν 0) 0 :: xs) s K :=
  use_fam0 (ar := fun ν => .ptr (ν 0) 0 :: xs) nu ν (stO_fam cs L) (by rw [stK_eq hl]; exact stO_fam cs L') ((FamV.ptr 0 (stK_0 L)).cons (FamV.pure hx hxn)) hv he hvn rfl (fun k _ => by unfold nu; omega) (nu_inj.nd (stK_nd hB)) (hν.nd (stK_nd hB)) hat (stO_tags nu cs hl.symm) hK
theorem st_use0 {d : Option Nat} {s : St} {K : St → Prop} {f : Nat} {cs : List Config} {L : List Leg} {xs : List V} {v : V} {ν : Nat → Nat} (he : Eff Tryd.prog UT f (.ptr (nu 0) 0 :: xs) (stO nu cs L) v (stO nu cs L)) (hB : LgsB L) (hx : V.purs xs = true) (hxn : ∀ D, V.nins D xs = true) (hv : v.pur = true) (hvn : ∀ D, v.nin D = true)
    (hν : Inj ν) (hat : ∀ q ∈ stO ν cs L, s.h q.1 = some q.2) (hK : K ⟨setE d v s.e, s.h⟩) : EStep Tryd.prog UT d f (.ptr (ν 0) 0 :: xs) s K :=
  st_use he hB rfl hx hxn hv hvn hν hat (by rw [hov_same hat]; exact hK)
theorem leg_use0 {d : Option Nat} {s : St} {K : St → Prop} {f : Nat} {c : Config} {S : List (List Int)} {xs : List V} {v : V} {ν : Nat → Nat} (he : Eff Tryd.prog UT f (.ptr (nu 0) 0 :: xs) (legO nu c S) v (legO nu c S)) (hx : V.purs xs = true) (hxn : ∀ D, V.nins D xs = true) (hv : v.pur = true) (hvn : ∀ D, v.nin D = true)
    (hν : Inj ν) (hat : ∀ q ∈ legO ν c S, s.h q.1 = some q.2) (hK : K ⟨setE d v s.e, s.h⟩) : EStep Tryd.prog UT d f (.ptr (ν 0) 0 :: xs) s K :=
  use_fam0 (ar := fun ν => .ptr (ν 0) 0 :: xs) nu ν (legO_fam c S) (legO_fam c S) ((FamV.ptr 0 (legK_0 S)).cons (FamV.pure hx hxn)) hv he hvn rfl (fun k _ => by unfold nu; omega) (nu_inj.nd (legK_nd S)) (hν.nd (legK_nd S)) hat rfl (by rw [hov_same hat]; exact hK)
theorem made_e (cs : List Config) (L : List Leg) (hB : LgsB L) : Eff Tryd.prog UT 20 [.ptr (nu 0) 0] (stO nu cs L) (.bool true) (stO nu cs L) := by
  have hG := tNo_ok
  have hTl := stO_at nu_inj (cs := cs) hB
  have hGe := stO_ge (cs := cs) (L := L)
  have hF := stO_fam cs L
  have hb0 : mkH (stO nu cs L) 1000 = some (.box 63 [.list (cs.map Config.enc) false, .map 1001]) := st_box nu cs L
  have e00 : nu 0 = 1000 := rfl
  refine Eff.of_aw Tryd.func20 body20 nm20 res20 (by rw [nt20]; simp) fun C hN Q hQ => ?_
  rw [nt20] at hN
  unfold c20
  refine aw_seq (aw_region (EF := EF0) hG (by rw [hN]; exact tr20_0) ?_)
  simp only [a20_0, go_sem, simprocAttr, stO_lo, hb0, e00]
  refine aw_seq (aw_region (EF := EF0) hG (by rw [hN]; exact tr20_1) ?_)
  simp only [a20_1, go_sem, simprocAttr, stO_lo, hb0, e00]
  (repeat' apply And.intro) <;> try exact sdA
  refine aw_ret ?_
  show Q _ _
  refine hQ _ _ ⟨mkE [(2, .bool true)], mkH ([] ++ stO nu cs L)⟩ (.inl rfl) (Le.tail _ _ _ ?_ ?_ ?_ rfl) rfl ?_ ?_
  · exact fun q hq => ⟨by (have hge := hGe q hq; (try dsimp only [hupd, hupds, hov]); (repeat rw [if_neg (by omega)]); exact hTl q hq), Fam.ni1 (hF) q hq⟩
  all_goals simp only [outφ, outV, AR.res, go_sem, simprocAttr, e00]
def getV (ν : Nat → Nat) (L : List Leg) (i : Lid) : V := match legIx L i with
  | some j => .ptr (ν (10 * j + 2)) 0
  | none => .nilp
theorem getV_fam (L : List Leg) (i : Lid) : FamV (stK L) (fun ν => [getV ν L i]) := by
  unfold getV
  cases e : legIx L i with
  | none => exact FamV.pure (vs := [.nilp]) rfl fun _ => by simp [V.nins, V.nin]
  | some j => exact FamV.ptr 0 (stK_leg (legIx_some e).1)
theorem lgE_look (L : List Leg) (i : Lid) : mget (lgE (fun k => nu (k + 2)) L) (.lg i.car i.num i.day i.frm) .nilp = getV nu L i := by
  have := lgE_get (ν := fun k => nu (k + 2)) (L := L) (i := i)
  unfold getV
  exact this
def EFm : Nat → Bool := fun f => f == 20
theorem get_e (cs : List Config) (L : List Leg) (i : Lid) (hB : LgsB L) : Eff Tryd.prog UT 48 [.ptr (nu 0) 0, .agg i.enc] (stO nu cs L) (getV nu L i) (stO nu cs L) := by
  have hG := tNo_ok
  have hTl := stO_at nu_inj (cs := cs) hB
  have hGe := stO_ge (cs := cs) (L := L)
  have hF := stO_fam cs L
  have hb0 : mkH (stO nu cs L) 1000 = some (.box 63 [.list (cs.map Config.enc) false, .map 1001]) := st_box nu cs L
  have hb1 : mkH (stO nu cs L) 1001 = some (.mp (lgE (fun k => nu (k + 2)) L)) := st_map nu_inj cs L
  have e00 : nu 0 = 1000 := rfl
  have hkd := lgE_kd (fun k => nu (k + 2)) L
  have hlk := lgE_look L i
  have hin : ∀ j, legIx L i = some j → ((stO nu cs L).map (·.1)).contains (nu (10 * j + 2)) = true := fun j hj => st_in (stK_leg (legIx_some hj).1)
  have hW : getV nu L i = match legIx L i with | some j => .ptr (nu (10 * j + 2)) 0 | none => .nilp := rfl
  generalize getV nu L i = W at hlk hW
  refine Eff.of_aw Tryd.func48 body48 nm48 res48 (by rw [nt48]; simp) fun C hN Q hQ => ?_
  rw [nt48] at hN
  unfold c48
  refine aw_seq (aw_region (EF := EFm) hG (by rw [hN]; exact tr48_0) ?_)
  simp only [a48_0, go_sem, simprocAttr, EFm, stO_lo, hb0, hb1, e00, hkd, hlk, Lid.enc]
  refine aw_seq ?_
  refine aw_seq (aw_region (EF := EFm) hG (by rw [hN]; exact tr48_1) ?_)
  simp only [a48_1, go_sem, simprocAttr, EFm, stO_lo, hb0, hb1, e00, hkd, hlk, Lid.enc]
  refine st_use0 (ν := nu) (made_e cs L hB) hB rfl (fun _ => rfl) rfl (fun _ => rfl) nu_inj (fun q hq => by have hge := hGe q hq; (try dsimp only [hupd, hupds, hov]); (repeat rw [if_neg (by omega)]); exact hTl q hq) ?_
  simp only [go_sem, simprocAttr]
  refine aw_condF rfl ?_
  refine aw_skip ?_
  try simp only [go_sem, simprocAttr]
  refine aw_seq (aw_regionD (EF := EFm) hG mixed (by rw [hN]; exact tr48_3) ok48_3 ?_)
  simp only [a48_3, d48_3, go_sem, simprocAttr, EFm, stO_lo, hb0, hb1, e00, hkd, hlk, Lid.enc]
  (repeat' apply And.intro) <;> try exact sdA
  rcases hix : legIx L i with _ | j
  · rw [hix] at hW
    subst hW
    refine aw_ret ?_
    show Q _ _
    refine hQ _ _ ⟨mkE [(4, .nilp)], mkH ([] ++ stO nu cs L)⟩ (.inl rfl) (Le.tail _ _ _ ?_ ?_ ?_ rfl) rfl ?_ ?_
    · exact fun q hq => ⟨by (have hge := hGe q hq; (try dsimp only [hupd, hupds, hov]); (repeat rw [if_neg (by omega)]); exact hTl q hq), Fam.ni1 (hF) q hq⟩
    all_goals simp only [outφ, outV, AR.res, go_sem, simprocAttr, e00]
  · rw [hix] at hW
    subst hW
    have hin' := hin j hix
    refine aw_ret ?_
    show Q _ _
    refine hQ _ _ ⟨mkE [(4, .ptr (nu (10 * j + 2)) 0)], mkH ([] ++ stO nu cs L)⟩ (.inl rfl) (Le.tail _ _ _ ?_ ?_ ?_ rfl) rfl ?_ ?_
    · exact fun q hq => ⟨by (have hge := hGe q hq; (try dsimp only [hupd, hupds, hov]); (repeat rw [if_neg (by omega)]); exact hTl q hq), Fam.ni1 (hF) q hq⟩
    all_goals simp only [outφ, outV, AR.res, go_sem, simprocAttr, e00, hin', List.nil_append]
end Go.Proofs.YtllhcpjgilpbnaaDoor
