import Derived.Test.YtllhcpjgilpbnaaDoorTs21
import Derived.Test.YtllhcpjgilpbnaaDoorCa5
import Derived.WalkKit
import Derived.ProofKit
import Derived.RangeFuncNested
import Derived.RangeFuncBound
import Derived.RangeFuncCalls
import Derived.RangeFuncLeaves
import Derived.Shelf.Abstract
import Derived.Shelf.RegionOpen
import Derived.OwnWalkIn
import Derived.TacticsInMore
import Derived.LoopNIn
import Derived.LoopIn
namespace Go.Proofs.YtllhcpjgilpbnaaDoor
open Go Go.RowKit
set_option linter.unusedSimpArgs false
set_option linter.unusedVariables false
set_option linter.deprecated false
theorem Le.permO {s : St} {n : Nat} {es es' : List (Ky × V)} (hn : s.h n = some (.mp es)) (hp : es.Perm es') : Le s ⟨s.e, hupd s.h n (.mp es')⟩ := by
  intro U C a w M ι hg
  have hm := hg.mem
  have ne : ∀ {m : Nat} {o : Ob}, m ≠ n → (hupd s.h n (.mp es') m = some o ↔ s.h m = some o) := fun {m o} h => by unfold hupd; rw [if_neg h]
  have eq : hupd s.h n (.mp es') n = some (.mp es') := by unfold hupd; rw [if_pos rfl]
  have sm : ∀ m, (hupd s.h n (.mp es') m).isSome = true → (s.h m).isSome = true := fun m h => by
    by_cases e : m = n
    · subst e; rw [hn]; rfl
    · unfold hupd at h; rwa [if_neg e] at h
  have hk : Keeps s.h (hupd s.h n (.mp es')) ι ι := by
    refine ⟨fun m t c h => ⟨rfl, c, ?_⟩, fun m t sz r h => ⟨r, ?_, Nat.le_refl _, fun _ => rfl⟩, fun m e h => ⟨rfl, ?_⟩⟩
    · exact (ne (fun e => by rw [e, hn] at h; cases h)).2 h
    · exact (ne (fun e => by rw [e, hn] at h; cases h)).2 h
    · by_cases e2 : m = n
      · subst e2; exact ⟨_, eq⟩
      · exact ⟨_, (ne e2).2 h⟩
  refine ⟨M, ι, ⟨fun m o h => ?_, fun m m' b h1 h2 => hm.dis m m' b (sm m h1) (sm m' h2), fun m b h1 => hm.imm m b (sm m h1), hm.lt, fun m b h1 => hm.may m b (sm m h1), hm.size, hm.keep, hm.os, hm.tape, hm.output, hm.base, hm.tb, hm.tm, hm.old, fun m t sz r0 t' sz' rows h1 h2 h3 => ?_, fun m h1 => ⟨fun t c h2 => ?_, fun e h2 => ?_⟩⟩, fun t => (hg.env t).keep (fun _ h => h) (fun _ _ => rfl) hk, hg.dfr, hg.num⟩
  · by_cases e : m = n
    · subst e
      have h' : hupd s.h m (.mp es') m = some o := h
      rw [eq] at h'; injection h' with h'; subst h'
      obtain ⟨b, ents, clock, e1, e2, es0, hz, hv⟩ := hm.obj _ _ hn
      refine ⟨b, ents, clock, e1, e2, es0, ⟨hz.perm.trans hp, hz.len, hz.st, ((hp.map _).nodup_iff).1 hz.nd⟩, fun i kv hi => ?_⟩
      obtain ⟨en, a1, a2, a3⟩ := hv i kv hi
      exact ⟨en, a1, a2, a3.keep (fun _ h => h) (fun _ _ => rfl) hk⟩
    · exact (hm.obj m o ((ne e).1 h)).keep (fun _ h => h) (fun _ _ => rfl) hk rfl fun _ _ => rfl
  · by_cases e : m = n
    · subst e; have h' : hupd s.h m (.mp es') m = some (.arr t' sz' rows) := h3; rw [eq] at h'; cases h'
    · exact hm.arr0 m t sz r0 t' sz' rows h1 h2 ((ne e).1 h3)
  · by_cases e : m = n
    · subst e; have h' : hupd s.h m (.mp es') m = some (.box t c) := h2; rw [eq] at h'; cases h'
    · exact (hm.pin m h1).1 t c ((ne e).1 h2)
  · by_cases e2 : m = n
    · subst e2; exact (hm.pin m h1).2 _ hn
    · exact (hm.pin m h1).2 e ((ne e2).1 h2)
theorem mput_new {k : Ky} {v : V} : ∀ {es : List (Ky × V)}, (∀ q ∈ es, q.1 ≠ k) → mput es k v = es ++ [(k, v)]
  | [], _ => rfl
  | (a, b) :: es, h => by
    rw [mputC, if_neg (h _ (List.mem_cons_self ..)), mput_new fun q hq => h q (List.mem_cons_of_mem _ hq)]; rfl
theorem lgE_is : ∀ {ν : Nat → Nat} {L : List Leg} {p : Ky × V}, p ∈ lgE ν L ↔ ∃ (j : Nat) (hj : j < L.length), p = (L[j].id.ky, .ptr (ν (10 * j)) 0)
  | ν, [], p => by simp [lgE]
  | ν, x :: L, p => by
    rw [lgE, List.mem_cons, lgE_is]
    constructor
    · rintro (rfl | ⟨j, hj, rfl⟩)
      · exact ⟨0, by simp, rfl⟩
      · exact ⟨j + 1, by simpa using hj, by rw [List.getElem_cons_succ, Nat.mul_succ]⟩
    · rintro ⟨j, hj, rfl⟩
      cases j with
      | zero => exact .inl rfl
      | succ j => exact .inr ⟨j, by simpa using hj, by rw [List.getElem_cons_succ, Nat.mul_succ]⟩
theorem doneE_is {ν : Nat → Nat} {L : List Leg} {js : List Nat} {p : Ky × V} (h : p ∈ doneE ν L js) : ∃ (j : Nat) (hj : j < L.length), j ∈ js ∧ p = (L[j].id.ky, .ptr (ν (10 * j + 2)) 0) := by
  obtain ⟨j, hj, hp⟩ := List.mem_flatMap.1 h
  unfold legPE at hp
  cases e : L[j]? with
  | none => rw [e] at hp; cases hp
  | some x =>
    rw [e] at hp
    obtain ⟨hl, rfl⟩ := List.getElem?_eq_some_iff.1 e
    exact ⟨j, hl, hj, List.mem_singleton.1 hp⟩
theorem doneE_in {ν : Nat → Nat} {L : List Leg} {js : List Nat} {j : Nat} (hj : j < L.length) (h : j ∈ js) : (L[j].id.ky, V.ptr (ν (10 * j + 2)) 0) ∈ doneE ν L js :=
  List.mem_flatMap.2 ⟨j, h, by rw [legPE_at hj]; exact List.mem_cons_self ..⟩
theorem doneE_app {ν : Nat → Nat} {L : List Leg} {js : List Nat} {j : Nat} (hj : j < L.length) : doneE ν L (js ++ [j]) = doneE ν L js ++ [(L[j].id.ky, .ptr (ν (10 * j + 2)) 0)] := by
  unfold doneE; rw [List.flatMap_append, List.flatMap_cons, List.flatMap_nil, List.append_nil, legPE_at hj]
theorem doneO_app {ν : Nat → Nat} {L : List Leg} {js : List Nat} {j : Nat} (hj : j < L.length) : doneO ν L (js ++ [j]) = doneO ν L js ++ legO (fun k => ν (k + (10 * j + 2))) L[j].conf L[j].sold := by
  unfold doneO; rw [List.flatMap_append, List.flatMap_cons, List.flatMap_nil, List.append_nil, legPO_at hj]
theorem doneE_rng {ν : Nat → Nat} {L : List Leg} : ∀ {n : Nat}, n ≤ L.length → doneE ν L (List.range n) = lgE (fun k => ν (k + 2)) (L.take n)
  | 0, _ => rfl
  | n + 1, h => by
    have hn : n < L.length := by omega
    rw [List.range_succ, doneE_app hn, doneE_rng (by omega), take_succ' hn, lgE_app, List.length_take, show min n L.length = n by omega]
    show _ = _ ++ [(L[n].id.ky, V.ptr (ν (0 + 10 * n + 2)) 0)]
    rw [Nat.zero_add]
theorem doneO_rng {ν : Nat → Nat} {L : List Leg} : ∀ {n : Nat}, n ≤ L.length → doneO ν L (List.range n) = lgO (fun k => ν (k + 2)) (L.take n)
  | 0, _ => rfl
  | n + 1, h => by
    have hn : n < L.length := by omega
    rw [List.range_succ, doneO_app hn, doneO_rng (by omega), take_succ' hn, lgO_app, List.length_take, show min n L.length = n by omega]
    congr 1
    show _ = legO (fun k => ν (k + 10 * n + 2)) L[n].conf L[n].sold ++ []
    rw [List.append_nil]; rfl
theorem fresh_key {L : List Leg} (hd : (L.map (·.id)).Nodup) {ν : Nat → Nat} {js : List Nat} {j : Nat} (hj : j < L.length) (hjn : j ∉ js) : ∀ q ∈ doneE ν L js, q.1 ≠ L[j].id.ky := fun q hq e => by
  obtain ⟨i, hi, hm, rfl⟩ := doneE_is hq
  have h1 := legIx_at hd hi
  rw [Lid.ky_inj e, legIx_at hd hj] at h1
  injection h1 with h1
  exact hjn (h1 ▸ hm)
structure Met (L : List Leg) (done : List (Ky × V)) (js : List Nat) : Prop where
  eq : done = doneE nu L js
  nd : js.Nodup
  lt : ∀ j ∈ js, j < L.length
theorem Met.not {L : List Leg} {done : List (Ky × V)} {js : List Nat} (h : Met L done js) {j : Nat} (hj : j < L.length) (hp : (L[j].id.ky, V.ptr (nu (10 * j + 2)) 0) ∉ done) : j ∉ js := fun hm => hp (by rw [h.eq]; exact doneE_in hj hm)
theorem Met.more {L : List Leg} {done : List (Ky × V)} {js : List Nat} (h : Met L done js) {j : Nat} (hj : j < L.length) (hjn : j ∉ js) : Met L (done ++ [(L[j].id.ky, V.ptr (nu (10 * j + 2)) 0)]) (js ++ [j]) := by
  refine ⟨by rw [h.eq, doneE_app hj], ?_, fun k hk => ?_⟩
  · exact List.nodup_append.2 ⟨h.nd, List.nodup_cons.2 ⟨(fun h => nomatch h), List.nodup_nil⟩, fun a ha b hb e => hjn (by rw [List.mem_singleton] at hb; rw [← hb, ← e]; exact ha)⟩
  · rcases List.mem_append.1 hk with hk | hk
    · exact h.lt k hk
    · rw [List.mem_singleton.1 hk]; exact hj
theorem Met.all {L : List Leg} {done : List (Ky × V)} {js : List Nat} (h : Met L done js) (ha : ∀ q, q ∈ done ↔ q ∈ lgE (fun k => nu (k + 2)) L) : js.Perm (List.range L.length) := by
  refine (List.perm_ext_iff_of_nodup h.nd List.nodup_range).2 fun j => ⟨fun hj => List.mem_range.2 (h.lt j hj), fun hj => ?_⟩
  have hj := List.mem_range.1 hj
  have := (ha (L[j].id.ky, .ptr (nu (10 * j + 2)) 0)).2 (lgE_is.2 ⟨j, hj, rfl⟩)
  rw [h.eq] at this
  obtain ⟨i, hi, hm, e⟩ := doneE_is this
  injection e with _ e
  injection e with e _
  have := nu_inj _ _ e
  have : j = i := by omega
  rw [this]; exact hm
theorem cp_leg {cs : List Config} {L : List Leg} (hB : LgsB L) (hl : L.length ≤ 30) (js : List Nat) {m : Nat} (hm : m < L.length) : mkH (cpO outN cs L js) (nu (10 * m + 2)) = some (.box 73 [.str L[m].conf.equip, .list (L[m].conf.cabs.map Cabin.enc) false, .own (nu (10 * m + 3)) L[m].sold.length, .bool false]) := by
  have h1 := vi_leg (cs := cs) (js := []) (j := 0) (S := []) hm (vi_nd hB hl (by simp) (.inr rfl) List.nodup_nil (.inr rfl))
  unfold cpO
  rw [vi_eq] at h1 ⊢
  have n1 : nu (10 * m + 2) ≠ 18 := by unfold nu; omega
  have n2 : nu (10 * m + 2) ≠ 16 := by unfold nu; omega
  have hf : ∀ js, mkH (doneO outN L js) (nu (10 * m + 2)) = none := fun js => mkH_none fun hc => by
    rw [(doneO_fam L js).nm] at hc
    obtain ⟨k, hk, e⟩ := List.mem_map.1 hc
    have := doneK_lt hB hk
    rw [outN_mid (by omega) (by omega)] at e
    unfold nu at e; omega
  rw [mkH, if_neg n1, mkH, if_neg n2, mkH_app, hf] at h1 ⊢
  exact h1
theorem outN_ne {j : Nat} {L : List Leg} {js : List Nat} (hB : LgsB L) (hjn : j ∉ js) {k : Nat} (hk : k ∈ doneK L js) : curN j k = outN k := by
  obtain ⟨i, hi, hil, m, hm, rfl⟩ := doneK_mem hk
  have := hB _ (List.getElem_mem hil)
  have hne : i ≠ j := fun e => hjn (e ▸ hi)
  unfold curN
  rw [if_neg (by omega), if_neg (by omega)]
theorem doneE_cur {j : Nat} {L : List Leg} {js : List Nat} (hB : LgsB L) (hjn : j ∉ js) : doneE (curN j) L js = doneE outN L js := by
  have := doneE_ren (ν := curN j) (ν' := outN) (σ := fun n => n) (L := L) (js := js) fun k hk => outN_ne hB hjn hk
  rw [← this]
  conv => lhs; rw [← List.map_id (doneE _ L js)]
  exact List.map_congr_left fun p _ => by rw [V.ren_same]; rfl
theorem doneO_cur {j : Nat} {L : List Leg} {js : List Nat} (hB : LgsB L) (hjn : j ∉ js) : doneO (curN j) L js = doneO outN L js := (doneO_fam L js).congr fun k hk => outN_ne hB hjn hk
theorem cur_0 (j : Nat) : curN j 0 = 18 := by unfold curN; rw [if_neg (by omega), if_neg (by omega)]; rfl
theorem cur_1 (j : Nat) : curN j 1 = 16 := by unfold curN; rw [if_neg (by omega), if_neg (by omega)]; rfl
theorem cp_round {cs : List Config} {L : List Leg} (hB : LgsB L) (hl : L.length ≤ 30) {js : List Nat} {j : Nat} (hj : j < L.length) (hn : js.Nodup) (hjn : j ∉ js) {e : Nat → V} {h : Nat → Option Ob} {iv : Value} (h3 : e 3 = .ptr 18 0) (h23 : e 23 = .pin iv) (h18 : h 18 = some (.box 63 [.list (cs.map Config.enc) false, .map 16]))
    (h16 : h 16 = some (.mp (doneE outN L js ++ [(L[j].id.ky, .ptr 38 0)]))) (h38 : h 38 = some (.box 73 [.str L[j].conf.equip, .list (L[j].conf.cabs.map Cabin.enc) false, .own 56 L[j].sold.length, .bool false])) (h56 : h 56 = some (.arr 82 1 (soH (fun k => outN (k + (10 * j + 4))) L[j].sold)))
    (hv : ∀ q ∈ viO outN cs L js j L[j].sold, q.1 ≠ 18 → q.1 ≠ 16 → h q.1 = some q.2) : Le ⟨e, h⟩ ⟨mkE [(3, .ptr 18 0), (23, .pin iv)], mkH (cpO outN cs L (js ++ [j]))⟩ := by
  have hx8 := hB _ (List.getElem_mem hj)
  have hge := vi_ge (cs := cs) (js := js) (S := L[j].sold) hB hl hx8 (.inl hj)
  have is : ∀ k ∈ cpK L (js ++ [j]), k = 0 ∨ k = 1 ∨ (2 ≤ k ∧ k < 320) ∨ 1002 ≤ k := fun k hk => cpK_is hB hl hk
  have eq0 : cpO (curN j) cs L (js ++ [j]) = (18, .box 63 [.list (cs.map Config.enc) false, .map 16]) :: (16, .mp (doneE outN L js ++ [(L[j].id.ky, .ptr 38 0)])) :: (doneO outN L js ++ ((38, .box 73 [.str L[j].conf.equip, .list (L[j].conf.cabs.map Cabin.enc) false, .own 56 L[j].sold.length, .bool false]) :: (56, .arr 82 1 (soH (fun k => outN (k + (10 * j + 4))) L[j].sold)) :: soO (fun k => outN (k + (10 * j + 4))) L[j].sold) ++ lgO (fun k => nu (k + 2)) L) := by
    have f1 : (fun k => curN j (k + 2 + (10 * j + 2))) = fun k => outN (k + (10 * j + 4)) := funext fun k => by
      unfold curN; rw [if_neg (by omega), if_neg (by omega)]; congr 1; omega
    have f2 : (fun k => curN j (k + 1002)) = fun k => nu (k + 2) := funext fun k => by
      unfold curN; rw [if_neg (by omega), if_neg (by omega), outN_hi]
    have f3 : curN j (0 + (10 * j + 2)) = 38 := by rw [Nat.zero_add]; exact if_pos rfl
    have f4 : curN j (1 + (10 * j + 2)) = 56 := by rw [Nat.add_comm]; unfold curN; rw [if_neg (by omega), if_pos rfl]
    have f5 : curN j (10 * j + 2) = 38 := if_pos rfl
    unfold cpO viO
    rw [cur_0, cur_1, doneE_app hj, doneO_app hj, doneE_cur hB hjn, doneO_cur hB hjn, f2, f5]
    unfold legO
    simp only [f1, f3, f4]
    rfl
  refine Fam.le (cpO_fam cs L (js ++ [j])) (curN j) outN [(3, .ptr 18 0), (23, .pin iv)] _ (fun q hq => ?_) (fun p hp => ?_) (fun a ha b hb => curN_on j (is a ha) (is b hb)) (fun a ha b hb => outN_on (is a ha) (is b hb)) (fun k hk hb => ?_) (fun σ hσ => ?_)
  · rw [eq0] at hq
    rcases List.mem_cons.1 hq with rfl | hq
    · exact h18
    rcases List.mem_cons.1 hq with rfl | hq
    · exact h16
    have lift : ∀ q, (q ∈ doneO outN L js ∨ q ∈ soO (fun k => outN (k + (10 * j + 4))) L[j].sold ∨ q ∈ lgO (fun k => nu (k + 2)) L) → h q.1 = some q.2 := fun q hq => by
      have hm : q ∈ viO outN cs L js j L[j].sold := by
        rw [vi_eq]
        refine List.mem_cons_of_mem _ (List.mem_cons_of_mem _ ?_)
        rcases hq with h | h | h
        · exact List.mem_append_left _ h
        · exact List.mem_append_right _ (List.mem_append_left _ h)
        · exact List.mem_append_right _ (List.mem_append_right _ h)
      have hd := vi_nd (cs := cs) (js := js) (S := L[j].sold) hB hl hx8 (.inl hj) hn (.inl hjn)
      rw [vi_eq] at hd
      simp only [List.map_cons, List.nodup_cons, List.mem_cons, List.map_append, List.mem_append, not_or] at hd
      have ht : q.1 ∈ (doneO outN L js).map (·.1) ∨ q.1 ∈ (soO (fun k => outN (k + (10 * j + 4))) L[j].sold).map (·.1) ∨ q.1 ∈ (lgO (fun k => nu (k + 2)) L).map (·.1) := hq.imp (fun h => List.mem_map.2 ⟨q, h, rfl⟩) fun h => h.imp (fun h => List.mem_map.2 ⟨q, h, rfl⟩) fun h => List.mem_map.2 ⟨q, h, rfl⟩
      refine hv q hm (fun e => ?_) (fun e => ?_)
      · rw [e] at ht
        rcases ht with h | h | h
        · exact hd.1.2.1 h
        · exact hd.1.2.2.1 h
        · exact hd.1.2.2.2 h
      · rw [e] at ht
        rcases ht with h | h | h
        · exact hd.2.1.1 h
        · exact hd.2.1.2.1 h
        · exact hd.2.1.2.2 h
    rcases List.mem_append.1 hq with hq | hq
    · rcases List.mem_append.1 hq with hq | hq
      · exact lift q (.inl hq)
      rcases List.mem_cons.1 hq with rfl | hq
      · exact h38
      rcases List.mem_cons.1 hq with rfl | hq
      · exact h56
      · exact lift q (.inr (.inl hq))
    · exact lift q (.inr (.inr hq))
  · have hc : ((cpO (curN j) cs L (js ++ [j])).map (·.1)).contains 18 = true := by rw [eq0]; rfl
    rcases List.mem_cons.1 hp with rfl | hp
    · exact ⟨h3, by simp only [V.nin]; exact hc⟩
    · rw [List.mem_singleton.1 hp]; exact ⟨h23, by simp only [V.nin]⟩
  · rcases curN_cases j (is k hk) with ⟨h1, h2⟩ | ⟨h1, h2⟩ | ⟨_, _, h2⟩
    · have := outN_cases (is k hk); omega
    · have := outN_cases (is k hk); omega
    · exact h2.symm
  · have := hσ 0 (List.mem_cons_self ..)
    rw [cur_0, outN_0] at this
    simp only [List.map_cons, List.map_nil, V.ren, this]
theorem cp_fin {cs : List Config} {L : List Leg} (hB : LgsB L) (hl : L.length ≤ 30) {js : List Nat} (hn : js.Nodup) (hp : js.Perm (List.range L.length)) {e : Nat → V} {l : List (Nat × V)} (henv : ∀ p ∈ l, e p.1 = p.2 ∧ p.2.nin ((stO nu cs L ++ stO outN cs L).map (·.1)) = true) : Le ⟨e, hov [(1000, .box 63 [.list (cs.map Config.enc) false, .map 1001]), (1001, .mp (lgE (fun k => nu (k + 2)) L))] (mkH (cpO outN cs L js))⟩ ⟨mkE l, mkH (stO nu cs L ++ stO outN cs L)⟩ := by
  have hd := vi_nd (cs := cs) (js := js) (j := 0) (S := []) hB hl (by simp) (.inr rfl) hn (.inr rfl)
  have hge := vi_ge (cs := cs) (js := js) (j := 0) (S := []) hB hl (by simp) (.inr rfl)
  have h16 : hov [(1000, Ob.box 63 [.list (cs.map Config.enc) false, .map 1001]), (1001, .mp (lgE (fun k => nu (k + 2)) L))] (mkH (cpO outN cs L js)) 16 = some (.mp (doneE outN L js)) := vi_16 (cs := cs) (js := js) (j := 0) (S := [])
  have hE : (doneE outN L js).Perm (lgE (fun k => outN (k + 2)) L) := by
    have h1 := doneE_rng (ν := outN) (L := L) (Nat.le_refl _)
    rw [List.take_length] at h1
    rw [← h1]
    exact hp.flatMap_right _
  have hO : ∀ q ∈ lgO (fun k => outN (k + 2)) L, q ∈ doneO outN L js := fun q hq => by
    have h1 := doneO_rng (ν := outN) (L := L) (Nat.le_refl _)
    rw [List.take_length] at h1
    rw [← h1] at hq
    exact (hp.flatMap_right (legPO outN L)).mem_iff.2 hq
  refine Le.trans (Le.permO (n := 16) (es := doneE outN L js) h16 hE) (Le.keepH _ _ (fun q hq => ?_) (fun q hq => ?_) (fun p hp => ?_))
  · have up : ∀ q ∈ viO outN cs L js 0 [], q.1 ≠ 16 → hupd (hov [(1000, Ob.box 63 [.list (cs.map Config.enc) false, .map 1001]), (1001, .mp (lgE (fun k => nu (k + 2)) L))] (mkH (cpO outN cs L js))) 16 (.mp (lgE (fun k => outN (k + 2)) L)) q.1 = some q.2 := fun q hq h1 => by
      have h2 := hge q hq
      rw [hupd_ne _ _ h1, hov_ne fun q2 hq2 e => ?_]
      · exact mkH_at hd hq
      · rcases List.mem_cons.1 hq2 with rfl | hq2
        · dsimp only at e; omega
        · rw [List.mem_singleton.1 hq2] at e; dsimp only at e; omega
    have tl : ∀ q, (q ∈ doneO outN L js ∨ q ∈ lgO (fun k => nu (k + 2)) L) → q ∈ viO outN cs L js 0 [] ∧ q.1 ≠ 16 := fun q hq => by
      refine ⟨?_, fun e => ?_⟩
      · rw [vi_eq]
        refine List.mem_cons_of_mem _ (List.mem_cons_of_mem _ ?_)
        rcases hq with h | h
        · exact List.mem_append_left _ h
        · exact List.mem_append_right _ (List.mem_append_right _ h)
      · rw [vi_eq] at hd
        simp only [List.map_cons, List.nodup_cons, List.mem_cons, List.map_append, List.mem_append, not_or] at hd
        rcases hq with h | h
        · exact hd.2.1.1 (e ▸ List.mem_map.2 ⟨q, h, rfl⟩)
        · exact hd.2.1.2.2 (e ▸ List.mem_map.2 ⟨q, h, rfl⟩)
    rcases List.mem_append.1 hq with hq | hq
    · unfold stO at hq
      rcases List.mem_cons.1 hq with rfl | hq
      · rfl
      rcases List.mem_cons.1 hq with rfl | hq
      · rfl
      · obtain ⟨h1, h2⟩ := tl q (.inr hq); exact up q h1 h2
    · unfold stO at hq
      rcases List.mem_cons.1 hq with rfl | hq
      · exact up (18, _) (by rw [vi_eq]; exact List.mem_cons_self ..) (show (18:Nat) ≠ 16 by decide)
      rcases List.mem_cons.1 hq with rfl | hq
      · rfl
      · obtain ⟨h1, h2⟩ := tl q (.inl (hO q hq)); exact up q h1 h2
  · rcases List.mem_append.1 hq with hq | hq
    · exact (stO_fam cs L).ni (fun k hk => by rw [List.map_append, (stO_fam cs L).nm]; exact List.mem_append_left _ (List.mem_map.2 ⟨k, hk, rfl⟩)) q hq
    · exact (stO_fam cs L).ni (fun k hk => by rw [List.map_append, (stO_fam cs L).nm outN]; exact List.mem_append_right _ (List.mem_map.2 ⟨k, hk, rfl⟩)) q hq
  · obtain ⟨h1, h2⟩ := henv p hp
    show Wk _ _ (e p.1) p.2
    rw [h1]; exact .same _ h2
set_option linter.unusedSimpArgs false
set_option linter.unusedVariables false
set_option linter.deprecated false
def EFcy : Nat → Bool := fun f => f == 20 || f == 30
theorem copy_e (cs : List Config) (L : List Leg) (hok : LgsOk L) (hl : L.length ≤ 30) (hd : (L.map (·.id)).Nodup) : Eff Tryd.prog UT 11 [.ptr (nu 0) 0] (stO nu cs L) (.ptr 18 0) (stO nu cs L ++ stO outN cs L) := by
  have hG := tNo_ok
  have hB := hok.b
  have hTl := stO_at nu_inj (cs := cs) hB
  have hGe := stO_ge (cs := cs) (L := L)
  have hb0 : mkH (stO nu cs L) 1000 = some (.box 63 [.list (cs.map Config.enc) false, .map 1001]) := st_box nu cs L
  have hb1 : mkH (stO nu cs L) 1001 = some (.mp (lgE (fun k => nu (k + 2)) L)) := st_map nu_inj cs L
  have e00 : nu 0 = 1000 := rfl
  obtain ⟨bs, hbs⟩ : ∃ bs, bs = (List.range L.length).map fun j => nu (10 * j + 2) := ⟨_, rfl⟩
  have bs_mem : ∀ b, b ∈ bs ↔ ∃ j, j < L.length ∧ b = nu (10 * j + 2) := fun b => by
    rw [hbs, List.mem_map]
    exact ⟨fun ⟨j, h1, h2⟩ => ⟨j, List.mem_range.1 h1, h2.symm⟩, fun ⟨j, h1, h2⟩ => ⟨j, List.mem_range.2 h1, h2.symm⟩⟩
  have hptr : ∀ p ∈ lgE (fun k => nu (k + 2)) L, ∃ b off, p.2 = V.ptr b off ∧ b ∈ bs := fun p hp => by
    obtain ⟨j, hj, rfl⟩ := lgE_is.1 hp
    exact ⟨_, _, rfl, (bs_mem _).2 ⟨j, hj, rfl⟩⟩
  have big : ∀ b ∈ bs, 1000 ≤ b := fun b hb => by obtain ⟨j, _, rfl⟩ := (bs_mem b).1 hb; unfold nu; omega
  obtain ⟨hf, hhf⟩ : ∃ hf : List (Nat × Ob), hf = [(1000, .box 63 [.list (cs.map Config.enc) false, .map 1001]), (1001, .mp (lgE (fun k => nu (k + 2)) L))] := ⟨_, rfl⟩
  have hf_mem : ∀ q ∈ hf, q = (1000, .box 63 [.list (cs.map Config.enc) false, .map 1001]) ∨ q = (1001, .mp (lgE (fun k => nu (k + 2)) L)) := fun q hq => by
    rw [hhf] at hq; simpa using hq
  have hmn : (1001, Ob.mp (lgE (fun k => nu (k + 2)) L)) ∈ hf := by rw [hhf]; simp
  have hfo : ∀ q ∈ hf, q.2.nin (hf.map (·.1) ++ bs) := fun q hq => by
    rcases hf_mem q hq with rfl | rfl
    · rw [hhf]; simp [Ob.nin, V.nins, V.nin]
    · intro p hp
      obtain ⟨j, hj, rfl⟩ := lgE_is.1 hp
      simp only [V.nin, List.contains_iff_mem]
      exact List.mem_append_right _ ((bs_mem _).2 ⟨j, hj, rfl⟩)
  have hnd : ∀ {js : List Nat}, js.Nodup → ((cpO outN cs L js).map (·.1)).Nodup := fun {js} h => vi_nd hB hl (by simp) (.inr rfl) h (.inr rfl)
  have hge0 : ∀ js, ∀ q ∈ cpO outN cs L js, q.1 = 18 ∨ q.1 = 16 ∨ (602 ≤ q.1 ∧ q.1 < 920) ∨ 1002 ≤ q.1 := fun js => vi_ge hB hl (by simp) (.inr rfl)
  have h18 : ∀ js, mkH (cpO outN cs L js) 18 = some (.box 63 [.list (cs.map Config.enc) false, .map 16]) := fun js => vi_18
  have h16 : ∀ js, mkH (cpO outN cs L js) 16 = some (.mp (doneE outN L js)) := fun js => vi_16
  have hlo : ∀ js m, m < 600 → m ≠ 18 → m ≠ 16 → mkH (cpO outN cs L js) m = none := fun js m a b c => vi_lo hB hl (by simp) (.inr rfl) a b c
  have hno : ∀ (js : List Nat) (iv : Value), ∀ q ∈ hf, mkH (cpO outN cs L js) q.1 = none := fun js iv q hq => mkH_none fun hc => by
    obtain ⟨q2, hq2, e⟩ := List.mem_map.1 hc
    have := hge0 js q2 hq2
    rcases hf_mem q hq with rfl | rfl <;> (dsimp only at e; omega)
  have hbx : ∀ b ∈ bs, ∀ (js : List Nat) (iv : Value), ∃ c, mkH (cpO outN cs L js) b = some (.box 73 c) := fun b hb js iv => by
    obtain ⟨j, hj, rfl⟩ := (bs_mem b).1 hb
    exact ⟨_, cp_leg hB hl js hj⟩
  have hc18 : ∀ js, ((cpO outN cs L js).map (·.1)).contains 18 = true := fun _ => rfl
  have M0 : Met L [] [] := ⟨rfl, List.nodup_nil, fun _ h => nomatch h⟩
  refine Eff.of_aw Tryd.func11 body11 nm11 res11 (by rw [nt11]; simp) fun C hN Q hQ => ?_
  rw [nt11] at hN
  unfold c11
  refine aw_seq (aw_region (EF := EFcy) hG (by rw [hN]; exact tr11_0) ?_)
  simp only [a11_0, go_sem, simprocAttr, EFcy, e00, stO_lo, nu_ne, hb0, hb1, List.cons_append, List.nil_append]
  refine aw_seq ?_
  refine aw_seq (aw_region (EF := EFcy) hG (by rw [hN]; exact tr11_1) ?_)
  simp only [a11_1, go_sem, simprocAttr, EFcy, e00, stO_lo, nu_ne, hb0, hb1, List.cons_append, List.nil_append]
  refine st_use0 (ν := nu) (made_e cs L hB) hB rfl (fun _ => rfl) rfl (fun _ => rfl) nu_inj (fun q hq => by have hge := hGe q hq; (try dsimp only [hupd, hupds, hov]); (repeat rw [if_neg (by omega)]); exact hTl q hq) ?_
  simp only [go_sem, simprocAttr]
  refine aw_condF rfl ?_
  refine aw_skip ?_
  try simp only [go_sem, simprocAttr]
  refine aw_seq (aw_region (EF := EFcy) hG (by rw [hN]; exact tr11_3) ?_)
  simp only [a11_3, go_sem, simprocAttr, EFcy, e00, stO_lo, nu_ne, hb0, hb1, List.cons_append, List.nil_append]
  refine aw_seq ?_
  refine aw_rangeO (EF := EFcy) (l0 := (ro Tryd.f11 4).toList.dropLast) (o0 := (ro Tryd.f11 4).toList.getD 4 default) (o1 := (ro Tryd.f11 5).toList.getD 0 default) (o2 := (ro Tryd.f11 5).toList.getD 1 default) (o3 := (ro Tryd.f11 6).toList.getD 0 default) (l3 := (ro Tryd.f11 6).toList.tail) (pre := a11_4p) (aos3 := a11_6s) (tm := 22) (it := 23) (nx := 24) (more := 25) (pair := 26) (mt := 61) (es := lgE (fun k => nu (k + 2)) L) (mn := 1001) (bs := bs) (hf := hf) (tb := 73) (α := (List Nat)) hG hN (by kernel_rfl) tr11_4p ⟨by kernel_rfl, by kernel_rfl, by kernel_rfl⟩ Tryd.underlying61 (by kernel_rfl) ⟨by kernel_rfl, by kernel_rfl, by kernel_rfl⟩ ⟨by kernel_rfl, by kernel_rfl, by kernel_rfl⟩ (by kernel_rfl) ⟨by kernel_rfl, by kernel_rfl, by kernel_rfl⟩ tr11_6s (by decide) (by decide) hptr big hmn hfo (fun done js => (Met L done js)) (fun js iv => ⟨mkE [(3, .ptr 18 0), (23, .pin iv)], mkH (cpO outN cs L js)⟩) ([]) (fun _ _ => rfl) M0 hno hbx ?_ ?_ ?_
  · intro KRP hKRP
    simp only [a11_4p, go_sem, simprocAttr, EFcy, e00, stO_lo, nu_ne, hb0, hb1, List.cons_append, List.nil_append]
    refine hKRP _ [(3, .ptr 18 0)] (cpO outN cs L []) rfl (fun q hq => ?_) (fun q hq => ⟨?_, ?_, ?_⟩) (fun b hb => hbx b hb [] default) (fun p hp => ?_) (fun iv => ?_)
    · have h1 : mkH (stO nu cs L) q.1 = some q.2 ∧ q.1 ≠ 18 ∧ q.1 ≠ 16 := by rcases hf_mem q hq with rfl | rfl; exact ⟨hb0, by simp, by simp⟩; exact ⟨hb1, by simp, by simp⟩
      show hupd (hupd _ 16 _) 18 _ q.1 = _
      rw [hupd_ne _ _ h1.2.1, hupd_ne _ _ h1.2.2]; exact h1.1
    · unfold cpO at hq
      rw [vi_eq] at hq
      rcases List.mem_cons.1 hq with rfl | hq
      · rfl
      rcases List.mem_cons.1 hq with rfl | hq
      · rfl
      · have hq2 : q ∈ stO nu cs L := List.mem_cons_of_mem _ (List.mem_cons_of_mem _ hq)
        have := hGe q hq2
        show hupd (hupd _ 16 _) 18 _ q.1 = _
        rw [hupd_ne _ _ (by omega), hupd_ne _ _ (by omega)]; exact hTl q hq2
    · exact (cpO_fam cs L []).ni (fun k hk => by rw [(cpO_fam cs L []).nm]; exact List.mem_map.2 ⟨k, hk, rfl⟩) q hq
    · intro hc
      obtain ⟨q2, hq2, e⟩ := List.mem_map.1 hc
      have := hge0 [] q hq
      rcases hf_mem q2 hq2 with rfl | rfl <;> (dsimp only at e; omega)
    · rw [List.mem_singleton.1 hp]; exact ⟨rfl, by simp only [V.nin]; rfl⟩
    · refine Le.keepH _ _ (fun q hq => mkH_at (hnd List.nodup_nil) hq) ((cpO_fam cs L []).ni (fun k hk => by rw [(cpO_fam cs L []).nm]; exact List.mem_map.2 ⟨k, hk, rfl⟩)) ?_
      simp only [go_sem, simprocAttr, hc18]
  · rintro C hN iv js done p hM hpm hpn hsub KRM hKRM
    try dsimp only at *
    obtain ⟨j, hj, rfl⟩ := lgE_is.1 hpm
    have hjn : j ∉ js := hM.not hj hpn
    have hlj := cp_leg (cs := cs) hB hl js hj
    have hrj := vi_rows (cs := cs) (js := js) (j := 0) (S := []) hj (hnd hM.nd)
    change mkH (cpO outN cs L js) _ = _ at hrj
    have hsl := soH_len (fun k => nu (k + (10 * j + 4))) L[j].sold
    have hx := hok _ (List.getElem_mem hj)
    have h8 := hx.le
    obtain ⟨S, hS⟩ : ∃ S, S = L[j].sold := ⟨_, rfl⟩
    have vnd : ∀ i, ((viO outN cs L js j (S.take i)).map (·.1)).Nodup := fun i => vi_nd hB hl (by rw [List.length_take, hS]; omega) (.inl hj) hM.nd (.inl hjn)
    have hTl : ∀ i, ∀ q ∈ viO outN cs L js j (S.take i), mkH (viO outN cs L js j (S.take i)) q.1 = some q.2 := fun i q hq => mkH_at (vnd i) hq
    have hGe : ∀ i, ∀ q ∈ viO outN cs L js j (S.take i), q.1 = 18 ∨ q.1 = 16 ∨ (602 ≤ q.1 ∧ q.1 < 920) ∨ 1002 ≤ q.1 := fun i => vi_ge hB hl (by rw [List.length_take, hS]; omega) (.inl hj)
    have vni : ∀ i (l1 : List (Nat × Ob)), ∀ q ∈ viO outN cs L js j (S.take i), q.2.nin ((l1 ++ viO outN cs L js j (S.take i)).map (·.1)) := fun i l1 => Fam.ni1 (viO_fam cs L js j (S.take i))
    have v0 : viO outN cs L js j (S.take 0) = cpO outN cs L js := rfl
    have hS0 : soH (fun k => outN (k + (10 * j + 4))) [] = [] := rfl
    have hv18 : ∀ i, ((viO outN cs L js j (S.take i)).map (·.1)).contains 18 = true := fun _ => rfl
    have hvr : ∀ i, ((viO outN cs L js j (S.take i)).map (·.1)).contains (nu (10 * j + 3)) = true := fun i => by rw [List.contains_iff_mem]; exact List.mem_map.2 ⟨_, vi_mem (L := L) hj (List.mem_cons_of_mem _ (List.mem_cons_self ..)), by show nu (1 + (10 * j + 2)) = _; rw [Nat.add_comm 1]⟩
    have hv180 := hv18 0
    have hvr0 := hvr 0
    rw [List.take_zero] at hv180 hvr0
    have vrj : ∀ i, mkH (viO outN cs L js j (S.take i)) (nu (10 * j + 3)) = some (.arr 82 1 (soH (fun k => nu (k + (10 * j + 4))) L[j].sold)) := fun i => vi_rows hj (vnd i)
    have v18 : ∀ i, mkH (viO outN cs L js j (S.take i)) 18 = some (.box 63 [.list (cs.map Config.enc) false, .map 16]) := fun i => vi_18
    have v16 : ∀ i, mkH (viO outN cs L js j (S.take i)) 16 = some (.mp (doneE outN L js)) := fun i => vi_16
    have hkd2 := doneE_kd outN L js
    have hput := mput_new (es := doneE outN L js) (v := V.ptr 38 0) (fresh_key (ν := outN) hd hj hjn)
    rw [Lid.ky] at hput
    have vlo : ∀ i m, m < 600 → m ≠ 18 → m ≠ 16 → mkH (viO outN cs L js j (S.take i)) m = none := fun i m a b c => vi_lo hB hl (by rw [List.length_take, hS]; omega) (.inl hj) a b c
    have hle : ∀ i, i ≤ S.length → (S.take i).length = i := fun i h => by rw [List.length_take]; omega
    rw [← hS] at hsl hlj hrj h8
    rw [← hS] at vrj
    simp only [a11_6s, kyV, go_sem, simprocAttr, Lid.ky, hlo, EFcy, e00, stO_lo, nu_ne, hb0, hb1, List.cons_append, List.nil_append]
    refine aw_seq (aw_regionD (EF := EFcy) hG mixed (by rw [hN]; exact tr11_7) ok11_7 ?_)
    simp only [a11_7, d11_7, go_sem, simprocAttr, hlj, hlo, EFcy, e00, stO_lo, nu_ne, hb0, hb1, List.cons_append, List.nil_append]
    refine aw_seq ?_
    refine aw_seq (aw_region (EF := EFcy) hG (by rw [hN]; exact tr11_8) ?_)
    simp only [a11_8, go_sem, simprocAttr, hlj, hrj, hsl, EFcy, e00, stO_lo, nu_ne, hb0, hb1, List.cons_append, List.nil_append]
    refine aw_block ?_
    refine aw_loop (α := Nat) (fun i => (i ≤ S.length)) (fun i => ⟨mkE [(3, V.ptr 18 0), (4, V.ptr 4 0), (6, V.ptr 38 0), (23, V.pin iv), (42, V.own (nu (10 * j + 3)) S.length), (43, V.int IntKind.i64 ↑S.length), (44, .int .i64 i)], mkH ([(4, .box 38 [.str L[j].id.car, .int .i64 L[j].id.num, .int .i64 L[j].id.day, .str L[j].id.frm]), (38, .box 73 [.str L[j].conf.equip, .list (L[j].conf.cabs.map Cabin.enc) false, .own 56 i, .bool false]), (56, .arr 82 1 (soH (fun k => outN (k + (10 * j + 4))) (S.take i)))] ++ viO outN cs L js j (S.take i))⟩) (fun i => S.length - i) 0 (Nat.zero_le _) ?_ ?_
    · refine Le.tail _ _ _ (fun q hq => ⟨?_, vni _ _ q hq⟩) ?_ ?_ rfl
      · have hge := hGe _ q hq
        rw [v0] at hq
        dsimp only [hupd]; (repeat rw [if_neg (by omega)]); exact mkH_at (hnd hM.nd) hq
      all_goals (simp only [go_sem, simprocAttr, hv180, hvr0, hS0, hlo, Bool.or_true, or_true] <;> (repeat' apply And.intro) <;> (try first | rfl | exact .nilo _ _ _ rfl (hlo js 56 (by decide) (by decide) (by decide))))
    · rintro i hi KL2 hKL2
      try dsimp only at *
      refine aw_seq (aw_region (EF := EFcy) hG (by rw [hN]; exact tr11_9) ?_)
      simp only [a11_9, go_sem, simprocAttr, EFcy, e00, stO_lo, nu_ne, hb0, hb1, List.cons_append, List.nil_append]
      refine aw_seq ?_
      refine aw_cond (b := _) rfl (fun hc9 => ?_) (fun hc9 => ?_)
      · skip
        have hc : i < S.length := by simp at hc9; omega
        have hso := soH_at (ν := fun k => nu (k + (10 * j + 4))) hc
        obtain ⟨nr, hnr⟩ : ∃ x, x = nu (i + (10 * j + 4)) := ⟨_, rfl⟩
        obtain ⟨nn, hnn⟩ : ∃ x, x = outN (i + (10 * j + 4)) := ⟨_, rfl⟩
        rw [← hnr] at hso
        have n1 : 1000 ≤ nr := by rw [hnr]; unfold nu; omega
        have n2 : 600 ≤ nn ∧ nn < 1000 := by rw [hnn, outN_mid (by omega) (by omega)]; omega
        have vnr : mkH (viO outN cs L js j (S.take i)) nr = some (.arr 3 1 (ints S[i])) := by subst hS; rw [hnr]; exact vi_row hj hc (vnd i)
        have vnw := vi_new (cs := cs) (S := S.take i) hB hl (by rw [hle i hi]; omega) hj hM.nd hjn
        rw [hle i hi, ← hnn] at vnw
        have vnn : mkH (viO outN cs L js j (S.take i)) nn = none := mkH_none fun hc => by obtain ⟨q, hq, e⟩ := List.mem_map.1 hc; exact vnw q hq e
        have r1 : ∀ m, m < 600 → (nr = m) = False := fun m h => eq_false (by omega)
        have r2 : ∀ m, m < 600 → (m = nr) = False := fun m h => eq_false (by omega)
        have r3 : ∀ m, m < 600 → (nr != m) = true := fun m h => by simp; omega
        have r4 : ∀ m, m < 600 → (m != nr) = true := fun m h => by simp; omega
        have w1 : ∀ m, m < 600 → (nn = m) = False := fun m h => eq_false (by omega)
        have w2 : ∀ m, m < 600 → (m = nn) = False := fun m h => eq_false (by omega)
        have w3 : ∀ m, m < 600 → (nn != m) = true := fun m h => by simp; omega
        have w4 : ∀ m, m < 600 → (m != nn) = true := fun m h => by simp; omega
        have rw1 : (nr = nn) = False := eq_false (by omega)
        have rw2 : (nn = nr) = False := eq_false (by omega)
        have hSi := hx.num i (by rw [← hS]; exact hc)
        have hcy := hx.cab _ (List.getElem_mem (show i < L[j].conf.cabs.length by rw [← hx.len, ← hS]; exact hc))
        have hci : i < L[j].conf.cabs.length := by rw [← hx.len, ← hS]; exact hc
        have hSl : S[i].length = L[j].conf.cabs[i].cl.length := by subst hS; rw [hSi, List.getD_eq_getElem?_getD, List.getElem?_eq_getElem (show i < L[j].conf.cabs.length by rw [← hx.len]; exact hc)]; rfl
        have hSne : S[i] ≠ [] := fun e => by have := hcy.ne; rw [← hSl, e] at this; exact absurd this (by decide)
        have hSle : S[i].length ≤ 1000000 := by have := hcy.le; omega
        have hs1 : soH (fun k => outN (k + (10 * j + 4))) (S.take (i + 1)) = soH (fun k => outN (k + (10 * j + 4))) (S.take i) ++ [[.own nn S[i].length]] := by rw [take_succ' hc, soH_app, hle i hi, ← hnn]
        refine aw_skip ?_
        try simp only [go_sem, simprocAttr]
        refine aw_seq ?_
        refine aw_block ?_
        refine aw_seq (aw_region (EF := EFcy) hG (by rw [hN]; exact tr11_10) ?_)
        simp only [a11_10, go_sem, simprocAttr, vrj, hsl, hc, hso, EFcy, e00, stO_lo, nu_ne, hb0, hb1, List.cons_append, List.nil_append]
        (repeat' apply And.intro) <;> try exact sdA
        refine aw_regionT (EF := EFcy) (fun _ => [nr, nn]) hG mixed (by rw [hN]; exact tr11_11) ok11_11 ?_
        simp only [a11_11, d11_11, go_sem, simprocAttr, tNo, EFcy, vlo, r1, r2, r3, r4, w1, w2, w3, w4, rw1, rw2, List.cons_append, List.nil_append, List.all_cons, List.all_nil, List.contains_cons, List.contains_nil]
        refine clone_useT (nr := nr) (nn := nn) (l := S[i]) hSne hSle ?_ ?_ n2.2 (by omega) ?_
        · show (if nr = 4 then _ else if nr = 38 then _ else if nr = 56 then _ else mkH _ nr) = _
          rw [if_neg (by omega), if_neg (by omega), if_neg (by omega)]; exact vnr
        · show (if nn = 4 then _ else if nn = 38 then _ else if nn = 56 then _ else mkH _ nn) = _
          rw [if_neg (by omega), if_neg (by omega), if_neg (by omega)]; exact vnn
        simp only [go_sem, simprocAttr, tNo, EFcy, vlo, r1, r2, r3, r4, w1, w2, w3, w4, rw1, rw2, soH_len, hle i hi, List.cons_append, List.nil_append, List.all_cons, List.all_nil, List.contains_cons, List.contains_nil, List.length_cons, List.length_nil]
        refine ⟨by omega, ?_⟩
        refine aw_region (EF := EFcy) hG (by rw [hN]; exact tr11_12) ?_
        simp only [a11_12, go_sem, simprocAttr, inI, EFcy, e00, stO_lo, nu_ne, hb0, hb1, List.cons_append, List.nil_append]
        (repeat' apply And.intro) <;> try exact sdA
        refine hKL2 (i + 1) _ ?_ ?_ ?_
        · (try dsimp only); exact hc
        · (try dsimp only); omega
        · refine Le.tail _ _ _ (fun q hq => ⟨?_, vni _ _ q hq⟩) ?_ ?_ rfl
          · rw [take_succ' hc] at hq
            rcases vi_snoc hq with hq | rfl
            · have hge := hGe i q hq
              have hne := vnw q hq
              dsimp only [hupd]; (repeat rw [if_neg (by omega)]); exact hTl i q hq
            · rw [hle i hi, ← hnn]
              dsimp only [hupd]; (repeat rw [if_neg (by omega)]); exact if_pos rfl
          all_goals (simp only [go_sem, simprocAttr, hv18, hvr, hs1, w2, Bool.or_true, or_true] <;> (repeat' apply And.intro) <;> (try first | rfl))
          right
          rw [← hs1]
          exact soH_nin fun k hk => List.mem_cons_of_mem _ (List.mem_cons_of_mem _ (List.mem_cons_of_mem _ (vi_rowin hk)))
      · skip
        obtain rfl : i = S.length := by simp at hc9; omega
        refine aw_exit ?_
        simp only [go_sem, simprocAttr]
        refine aw_regionD (EF := EFcy) hG mixed (by rw [hN]; exact tr11_13) ok11_13 ?_
        simp only [a11_13, d11_13, go_sem, simprocAttr, v18, v16, hkd2, hput, EFcy, e00, stO_lo, nu_ne, hb0, hb1, List.cons_append, List.nil_append]
        (repeat' apply And.intro) <;> try exact sdA
        refine hKRM (js ++ [j]) _ ?_ ?_
        · (try dsimp only); exact hM.more hj hjn
        · rw [List.take_length]
          subst hS
          refine cp_round hB hl hj hM.nd hjn rfl rfl (by show mkH _ 18 = _; exact vi_18) rfl rfl rfl (fun q hq n18 n16 => ?_)
          have hd2 := vi_ge (cs := cs) (js := js) hB hl h8 (.inl hj) q hq
          dsimp only [hupd]; (repeat rw [if_neg (by omega)]); exact mkH_at (vi_nd hB hl h8 (.inl hj) hM.nd (.inl hjn)) hq
  · rintro iv js done hM hall
    try dsimp only at *
    have hper := hM.all hall
    simp only [go_sem, simprocAttr]
    refine aw_seq (aw_region (EF := EFcy) hG (by rw [hN]; exact tr11_14) ?_)
    simp only [a11_14, go_sem, simprocAttr, EFcy, e00, stO_lo, nu_ne, hb0, hb1, List.cons_append, List.nil_append]
    refine aw_ret ?_
    show Q _ _
    subst hhf
    refine hQ _ _ ⟨mkE [(2, .ptr 18 0)], mkH (stO nu cs L ++ stO outN cs L)⟩ (.inl rfl) (cp_fin hB hl hM.nd hper (fun p hp => ?_)) rfl ?_ ?_
    · rw [List.mem_singleton.1 hp]; exact ⟨rfl, by simp only [V.nin]; rw [List.contains_iff_mem, List.map_append]; exact List.mem_append_right _ (List.mem_cons_self ..)⟩
    all_goals simp only [outφ, outV, AR.res, go_sem, simprocAttr]
set_option linter.unusedSimpArgs false
set_option linter.unusedVariables false
set_option linter.deprecated false
def twoN (M : Nat) (ν μ : Nat → Nat) (k : Nat) : Nat := if k < M then ν k else μ (k - M)
theorem twoN_lo {M : Nat} {ν μ : Nat → Nat} {k : Nat} (h : k < M) : twoN M ν μ k = ν k := if_pos h
theorem twoN_hi (M : Nat) (ν μ : Nat → Nat) (k : Nat) : twoN M ν μ (k + M) = μ k := by unfold twoN; rw [if_neg (by omega), Nat.add_sub_cancel]
theorem copy_use {d : Option Nat} {s : St} {K : St → Prop} {cs : List Config} {L : List Leg} {ν μ : Nat → Nat} (hok : LgsOk L) (hl : L.length ≤ 30) (hd : (L.map (·.id)).Nodup) (hν : Inj ν) (hμ : Inj μ) (hνμ : ∀ a b, ν a ≠ μ b) (hat : ∀ q ∈ stO ν cs L, s.h q.1 = some q.2) (hn : ∀ k, k < 10 * L.length + 2 → s.h (μ k) = none ∧ μ k < 1000)
    (hK : K ⟨setE d (.ptr (μ 0) 0) s.e, hov (stO ν cs L ++ stO μ cs L) s.h⟩) : EStep Tryd.prog UT d 11 [.ptr (ν 0) 0] s K := by
  have hB := hok.b
  obtain ⟨M, hM⟩ : ∃ M, M = 10 * L.length + 2 := ⟨_, rfl⟩
  have lo : ∀ {ν μ : Nat → Nat}, stO (twoN M ν μ) cs L = stO ν cs L := (stO_fam cs L).congr fun k hk => twoN_lo (by have := stK_lt hB hk; omega)
  have hi : ∀ {ν μ : Nat → Nat}, stO (fun k => twoN M ν μ (k + M)) cs L = stO μ cs L := (stO_fam cs L).congr fun k hk => twoN_hi M _ _ k
  have z0 : ∀ {ν μ : Nat → Nat}, twoN M ν μ 0 = ν 0 := twoN_lo (by omega)
  have zM : ∀ {ν μ : Nat → Nat}, twoN M ν μ M = μ 0 := fun {ν μ} => by have := twoN_hi M ν μ 0; rwa [Nat.zero_add] at this
  have hF' : Fam (stK L ++ (stK L).map (· + M)) (stK L ++ (stK L).map (· + M)) (fun ν => stO ν cs L ++ stO (fun k => ν (k + M)) cs L) :=
    Fam.app ((stO_fam cs L).mono fun k hk => List.mem_append_left _ hk) (((stO_fam cs L).at (· + M)).mono fun k hk => List.mem_append_right _ hk)
  have hnd : (stK L ++ (stK L).map (· + M)).Nodup := List.nodup_append.2 ⟨stK_nd hB, nodup_map (stK_nd hB) fun a _ b _ e => by omega, fun a ha b hb e => by
    obtain ⟨c, _, rfl⟩ := List.mem_map.1 hb
    have := stK_lt hB ha; omega⟩
  have inj : ∀ {ν μ : Nat → Nat}, (∀ a ∈ stK L, ∀ b ∈ stK L, ν a = ν b → a = b) → (∀ a ∈ stK L, ∀ b ∈ stK L, μ a = μ b → a = b) → (∀ a ∈ stK L, ∀ b ∈ stK L, ν a ≠ μ b) → ((stK L ++ (stK L).map (· + M)).map (twoN M ν μ)).Nodup := fun {ν μ} h1 h2 h3 => by
    refine nodup_map hnd fun a ha b hb e => ?_
    have cs : ∀ a ∈ stK L ++ (stK L).map (· + M), (a ∈ stK L ∧ twoN M ν μ a = ν a) ∨ ∃ k ∈ stK L, a = k + M ∧ twoN M ν μ a = μ k := fun a ha => by
      rcases List.mem_append.1 ha with ha | ha
      · exact .inl ⟨ha, twoN_lo (by have := stK_lt hB ha; omega)⟩
      · obtain ⟨k, hk, rfl⟩ := List.mem_map.1 ha
        exact .inr ⟨k, hk, rfl, twoN_hi M ν μ k⟩
    rcases cs a ha with ⟨a1, a2⟩ | ⟨k, a1, rfl, a2⟩ <;> rcases cs b hb with ⟨b1, b2⟩ | ⟨m, b1, rfl, b2⟩ <;> rw [a2, b2] at e
    · exact h1 a a1 b b1 e
    · exact absurd e (h3 a a1 m b1)
    · exact absurd e.symm (h3 b b1 k a1)
    · rw [h2 k a1 m b1 e]
  have outC : ∀ k ∈ stK L, k = 0 ∨ k = 1 ∨ (2 ≤ k ∧ k < 320) ∨ 1002 ≤ k := fun k hk => by have := stK_lt hB hk; omega
  refine use_fam (K := stK L) (K1 := (stK L).map (· + M)) (hl := fun ν => stO ν cs L) (hl' := fun ν => stO ν cs L ++ stO (fun k => ν (k + M)) cs L) (ar := fun ν => [.ptr (ν 0) 0]) (vf := fun ν => [.ptr (ν M) 0]) (twoN M nu outN) (twoN M ν μ) (v := .ptr 18 0) (stO_fam cs L) hF'
    (FamV.ptr 0 (stK_0 L)) (FamV.ptr 0 (List.mem_append_right _ (List.mem_map.2 ⟨0, stK_0 L, Nat.zero_add _⟩))) (by rw [lo, hi, z0]; exact copy_e cs L hok hl hd) (by rw [zM]; rfl) (by rw [z0]) (fun k hk => by rw [twoN_lo (by have := stK_lt hB hk; omega)]; unfold nu; omega)
    (inj (fun a _ b _ => nu_inj a b) (fun a ha b hb => outN_on (outC a ha) (outC b hb)) (fun a ha b hb e => ?_)) (inj (fun a _ b _ => hν a b) (fun a _ b _ => hμ a b) fun a _ b _ => hνμ a b) (fun k hk => ?_) (by rw [lo]; exact hat) (by rw [lo, List.map_append]; exact ⟨_, rfl⟩) (fun v' hv' => ?_)
  · have h1 := outN_cases (outC b hb)
    have h2 := stK_lt hB hb
    unfold nu at e; omega
  · obtain ⟨m, hm, rfl⟩ := List.mem_map.1 hk
    rw [twoN_hi]
    exact hn m (stK_lt hB hm)
  · rw [zM] at hv'
    injection hv' with hv' _
    subst hv'
    rw [lo, hi]; exact hK
theorem sellL_lens (L : List Leg) (ids : List Lid) (cls : List UInt8) (n : Int) : (sellL L ids cls n).map (fun x => x.sold.length) = L.map (fun x => x.sold.length) := by
  unfold sellL; split
  · exact addJs_lens
  · rfl
theorem sellL_ok {L : List Leg} {ids : List Lid} {cls : List UInt8} {n : Int} (h : LgsOk L) : LgsOk (sellL L ids cls n) := by
  unfold sellL; split
  · exact addJs_ok h
  · exact h
theorem addJ_ids {cls : List UInt8} {n : Int} {L : List Leg} {j : Nat} : (addJ cls n L j).map (fun x => (x.id, x.conf)) = L.map (fun x => (x.id, x.conf)) := by
  unfold addJ
  split
  · rename_i x hx
    obtain ⟨hj, e⟩ := List.getElem?_eq_some_iff.1 hx
    rw [List.map_set]
    have : ((addAt cls n x).id, (addAt cls n x).conf) = (L.map fun x => (x.id, x.conf))[j]'(by rw [List.length_map]; exact hj) := by rw [List.getElem_map, e, (addAt_id cls n x).1, (addAt_id cls n x).2.1]
    rw [this, List.set_getElem_self]
  · rfl
theorem addJs_ids {cls : List UInt8} {n : Int} : ∀ {js : List Nat} {L : List Leg}, (addJs cls n L js).map (fun x => (x.id, x.conf)) = L.map (fun x => (x.id, x.conf))
  | [], _ => rfl
  | j :: js, L => (addJs_ids (js := js) (L := addJ cls n L j)).trans addJ_ids
theorem sellL_ids {L : List Leg} {ids : List Lid} {cls : List UInt8} {n : Int} : (sellL L ids cls n).map (fun x => (x.id, x.conf)) = L.map (fun x => (x.id, x.conf)) := by
  unfold sellL; split
  · exact addJs_ids
  · rfl
theorem sell_use {d : Option Nat} {s : St} {K : St → Prop} {cs : List Config} {L : List Leg} {ids : List Lid} {cls : List UInt8} {n : Int} {ν : Nat → Nat} (hok : LgsOk L) (hlen : ids.length ≤ 1000000) (hν : Inj ν) (hat : ∀ q ∈ stO ν cs L, s.h q.1 = some q.2) (hK : K ⟨setE d (.int .i64 (sellE L ids cls n)) s.e, hov (stO ν cs (sellL L ids cls n)) s.h⟩) :
    EStep Tryd.prog UT d 9 [.ptr (ν 0) 0, .list (ids.map Lid.enc) false, .str cls, .int .i64 n] s K :=
  st_use (xs := [.list (ids.map Lid.enc) false, .str cls, .int .i64 n]) (sell_e cs L ids cls n hok hlen) hok.b (sellL_lens L ids cls n).symm rfl (fun _ => by simp [V.nins, V.nin]) rfl (fun _ => by simp [V.nin]) hν hat hK
theorem cancel_use {d : Option Nat} {s : St} {K : St → Prop} {cs : List Config} {L : List Leg} {ids : List Lid} {cls : List UInt8} {n : Int} {ν : Nat → Nat} (hok : LgsOk L) (hlen : ids.length ≤ 1000000) (hE : findE L ids cls n = 0) (hn : n ≤ 1000000) (hsold : ∀ j ∈ jsOf L ids, ∀ x, L[j]? = some x → ∃ i k, place x.conf.cabs cls = some (i, k) ∧ n ≤ (x.sold.getD i []).getD k 0 ∧ (x.sold.getD i []).getD k 0 ≤ 1000000)
    (hν : Inj ν) (hat : ∀ q ∈ stO ν cs L, s.h q.1 = some q.2) (hK : K ⟨setE d (.int .i64 0) s.e, hov (stO ν cs (addJs cls (-n) L (jsOf L ids))) s.h⟩) :
    EStep Tryd.prog UT d 12 [.ptr (ν 0) 0, .list (ids.map Lid.enc) false, .str cls, .int .i64 n] s K :=
  st_use (xs := [.list (ids.map Lid.enc) false, .str cls, .int .i64 n]) (cancel_e cs L ids cls n hok hlen hE hn hsold) hok.b addJs_lens.symm rfl (fun _ => by simp [V.nins, V.nin]) rfl (fun _ => by simp [V.nin]) hν hat hK
set_option linter.unusedSimpArgs false
set_option linter.unusedVariables false
set_option linter.deprecated false
theorem minF_le {α : Type} (f : α → Int) : ∀ (l : List α) (m : Int), l.foldl (fun n i => min n (f i)) m ≤ m ∧ ∀ i ∈ l, l.foldl (fun n i => min n (f i)) m ≤ f i
  | [], m => ⟨Int.le_refl _, fun _ h => nomatch h⟩
  | x :: l, m => by
    obtain ⟨h1, h2⟩ := minF_le f l (min m (f x))
    rw [List.foldl_cons]
    refine ⟨by omega, fun i hi => ?_⟩
    rcases List.mem_cons.1 hi with rfl | hi
    · omega
    · exact h2 i hi
theorem minF_at {α : Type} (f : α → Int) : ∀ (l : List α) (m : Int), l.foldl (fun n i => min n (f i)) m = m ∨ ∃ i ∈ l, l.foldl (fun n i => min n (f i)) m = f i
  | [], m => .inl rfl
  | x :: l, m => by
    rw [List.foldl_cons]
    rcases minF_at f l (min m (f x)) with h | ⟨i, hi, h⟩
    · by_cases hm : m ≤ f x
      · exact .inl (by rw [h]; omega)
      · exact .inr ⟨x, List.mem_cons_self .., by rw [h]; omega⟩
    · exact .inr ⟨i, List.mem_cons_of_mem _ hi, h⟩
theorem avail_le {L : List Leg} {cls : List UInt8} {ids : List Lid} : ∀ i ∈ ids, avail L cls ids ≤ leftO cls (legAt L i) := fun i hi => by
  cases ids with
  | nil => cases hi
  | cons y r =>
    obtain ⟨h1, h2⟩ := minF_le (fun i => leftO cls (legAt L i)) r (leftO cls (legAt L y))
    rcases List.mem_cons.1 hi with rfl | hi
    · exact h1
    · exact h2 i hi
theorem avail_at {L : List Leg} {cls : List UInt8} {ids : List Lid} (h : ids ≠ []) : ∃ i ∈ ids, avail L cls ids = leftO cls (legAt L i) := by
  cases ids with
  | nil => exact absurd rfl h
  | cons y r =>
    rcases minF_at (fun i => leftO cls (legAt L i)) r (leftO cls (legAt L y)) with h | ⟨i, hi, h⟩
    · exact ⟨y, List.mem_cons_self .., h⟩
    · exact ⟨i, List.mem_cons_of_mem _ hi, h⟩
theorem sum_set : ∀ {l : List Int} {k : Nat} {w : Int} (h : k < l.length), (l.set k w).sum = l.sum - l[k] + w
  | x :: l, 0, w, _ => by rw [List.set_cons_zero, List.sum_cons, List.sum_cons, List.getElem_cons_zero]; omega
  | x :: l, k + 1, w, h => by
    have h2 : k < l.length := by simpa using h
    rw [List.set_cons_succ, List.sum_cons, List.sum_cons, List.getElem_cons_succ, sum_set h2]; omega
theorem belowS_set {s : List Int} {k i : Nat} {w : Int} (h : k < s.length) : belowS (s.set k w) i = if i ≤ k then belowS s i - s[k] + w else belowS s i := by
  unfold belowS
  rw [List.drop_set]
  by_cases e : k < i
  · rw [if_pos e, if_neg (by omega)]
  · rw [if_neg e, if_pos (by omega)]
    have h2 : k - i < (s.drop i).length := by rw [List.length_drop]; omega
    rw [sum_set h2, List.getElem_drop]
    simp only [show i + (k - i) = k by omega]
theorem leastS_sub : ∀ (l : List Int) (m n : Int), leastS (m - n) (l.map (· - n)) = leastS m l - n
  | [], m, n => rfl
  | x :: l, m, n => by
    rw [List.map_cons, leastS, leastS, show min (m - n) (x - n) = min m x - n by omega]
    exact leastS_sub l _ n
theorem leastS_le : ∀ (l : List Int) (m : Int), leastS m l ≤ m ∧ ∀ x ∈ l, leastS m l ≤ x
  | [], m => ⟨Int.le_refl _, fun _ h => nomatch h⟩
  | x :: l, m => by
    obtain ⟨h1, h2⟩ := leastS_le l (min m x)
    rw [leastS]
    refine ⟨by omega, fun y hy => ?_⟩
    rcases List.mem_cons.1 hy with rfl | hy
    · omega
    · exact h2 y hy
theorem openS_at {y : Cabin} {s : List Int} (hr : rightS y s = true) {k : Nat} (hk : k < y.cl.length) : (openS y s).getD k 0 = max 0 (leastS 1099511627776 ((spareL y s).take (k + 1))) := by
  have hk2 : k < (spareL y s).length := by rw [spareL_len]; exact hk
  unfold openS
  rw [if_pos hr, List.getD_eq_getElem?_getD, openGo_at _ _ _ hk2, Option.getD_some]
theorem row_add {y : Cabin} {s : List Int} (hy : CabOk y) (hr : rightS y s = true) {k : Nat} (hk : k < y.cl.length) {n : Int} (h1 : 1 ≤ n) (hn : n ≤ (openS y s).getD k 0) :
    rightS y (s.set k (s.getD k 0 + n)) = true ∧ (openS y (s.set k (s.getD k 0 + n))).getD k 0 = (openS y s).getD k 0 - n ∧ 0 ≤ s.getD k 0 ∧ s.getD k 0 + n ≤ 9999 := by
  have hN := right_num hr
  have hks : k < s.length := by rw [hN.len]; exact hk
  have eg : s.getD k 0 = s[k] := by rw [List.getD_eq_getElem?_getD, List.getElem?_eq_getElem hks]; rfl
  rw [eg]
  have hv := hN.rng _ (List.getElem_mem hks)
  have hk2 : k < (spareL y s).length := by rw [spareL_len]; exact hk
  have spk : (spareL y s)[k] = spareAt y s k := by
    have := spareL_getD y s hk
    rw [List.getD_eq_getElem?_getD, List.getElem?_eq_getElem hk2] at this
    exact this
  have hop := openS_at hr hk
  have hle := leastS_le ((spareL y s).take (k + 1)) 1099511627776
  have hsk := hle.2 (spareAt y s k) (by rw [← spk]; exact List.mem_take_iff_getElem.2 ⟨k, by omega, rfl⟩)
  have hlim := hy.lim k
  have hbel := belowS_rng (s := s) hN hy.le (k + 1)
  have hbs := belowS_step hks
  have hsp : spareAt y s k = limAt (auth y) y.cl k - belowS s k := by unfold spareAt; rw [limits_getD y hk]
  have hvn : s[k] + n ≤ 9999 := by omega
  have hr2 : rightS y (s.set k (s[k] + n)) = true := num_right ⟨by rw [List.length_set]; exact hN.len, fun x hx => by
    rcases List.mem_or_eq_of_mem_set hx with hx | rfl
    · exact hN.rng x hx
    · omega⟩
  refine ⟨hr2, ?_, hv.1, hvn⟩
  have hsl : (spareL y (s.set k (s[k] + n))).take (k + 1) = ((spareL y s).take (k + 1)).map (· - n) := by
    refine List.ext_getElem (by rw [List.length_map, List.length_take, List.length_take, spareL_len, spareL_len]) fun i a b => ?_
    rw [List.getElem_map, List.getElem_take, List.getElem_take]
    have hi : i ≤ k := by rw [List.length_take] at a; omega
    unfold spareL
    rw [List.getElem_map, List.getElem_map, List.getElem_range]
    unfold spareAt
    rw [belowS_set hks, if_pos hi]; omega
  have hex : ∃ x r, (spareL y s).take (k + 1) = x :: r ∧ x ≤ 1998 := by
    cases e : (spareL y s).take (k + 1) with
    | nil => have := congrArg List.length e; rw [List.length_take, List.length_nil] at this; omega
    | cons x r =>
      refine ⟨x, r, rfl, ?_⟩
      have hx : x ∈ spareL y s := List.mem_of_mem_take (by rw [e]; exact List.mem_cons_self ..)
      obtain ⟨i, hi, rfl⟩ := List.mem_map.1 hx
      exact (spare_rng hy hN (List.mem_range.1 hi)).2
  rw [openS_at hr2 hk, hop, hsl]
  rw [hop] at hn
  obtain ⟨x, r, ex, hx⟩ := hex
  rw [ex] at hn ⊢
  rw [List.map_cons, leastS, show min 1099511627776 (x - n) = x - n by omega, leastS_sub]
  rw [leastS, show min 1099511627776 x = x by omega] at hn ⊢
  omega
set_option linter.unusedSimpArgs false
set_option linter.unusedVariables false
set_option linter.deprecated false
theorem legIx_ids : ∀ {L L' : List Leg}, L.map (·.id) = L'.map (·.id) → ∀ i, legIx L i = legIx L' i
  | [], [], _, _ => rfl
  | x :: L, x' :: L', h, i => by
    rw [List.map_cons, List.map_cons, List.cons.injEq] at h
    rw [legIx, legIx, h.1, legIx_ids h.2]
  | [], _ :: _, h, _ => nomatch h
  | _ :: _, [], h, _ => nomatch h
theorem jsOf_ids {L L' : List Leg} (h : L.map (·.id) = L'.map (·.id)) (ids : List Lid) : jsOf L ids = jsOf L' ids := by
  unfold jsOf; rw [show legIx L = legIx L' from funext (legIx_ids h)]
theorem conf_ids {L L' : List Leg} (h : L.map (fun x => (x.id, x.conf)) = L'.map (fun x => (x.id, x.conf))) : L.map (·.id) = L'.map (·.id) := by
  have := congrArg (List.map Prod.fst) h
  rw [List.map_map, List.map_map] at this
  exact this
theorem findE_conf {L L' : List Leg} (h : L.map (fun x => (x.id, x.conf)) = L'.map (fun x => (x.id, x.conf))) (ids : List Lid) (cls : List UInt8) (n : Int) : findE L ids cls n = findE L' ids cls n := by
  have h1 := conf_ids h
  have h2 : missing L ids = missing L' ids := by unfold missing; rw [show legIx L = legIx L' from funext (legIx_ids h1)]
  have h3 : ∀ j, noPl L cls j = noPl L' cls j := fun j => by
    unfold noPl
    have := congrArg (fun l => l[j]?) h
    rw [List.getElem?_map, List.getElem?_map] at this
    cases e : L[j]? with
    | none => rw [e] at this; cases e' : L'[j]? with
      | none => rfl
      | some x' => rw [e'] at this; cases this
    | some x => rw [e] at this; cases e' : L'[j]? with
      | none => rw [e'] at this; cases this
      | some x' =>
        rw [e'] at this
        simp only [Option.map_some, Option.some.injEq, Prod.mk.injEq] at this
        dsimp only
        rw [this.2]
  unfold findE
  rw [h2, jsOf_ids h1, show noPl L cls = noPl L' cls from funext h3]
structure Here (L : List Leg) (ids : List Lid) : Prop where
  nd : (ids.map Lid.ky).Nodup
  here : ∀ i ∈ ids, ∃ j, legIx L i = some j
theorem Here.at {L : List Leg} {ids : List Lid} (h : Here L ids) {i : Lid} (hi : i ∈ ids) : ∃ j, legIx L i = some j ∧ ∃ hj : j < L.length, legAt L i = some L[j] ∧ j ∈ jsOf L ids := by
  obtain ⟨j, hj⟩ := h.here i hi
  obtain ⟨hl, _⟩ := legIx_some hj
  refine ⟨j, hj, hl, by unfold legAt; rw [hj]; exact List.getElem?_eq_getElem hl, List.mem_filterMap.2 ⟨i, hi, hj⟩⟩
theorem js_of {L : List Leg} {ids : List Lid} {j : Nat} (h : j ∈ jsOf L ids) : ∃ i ∈ ids, ∃ hj : j < L.length, legAt L i = some L[j] := by
  obtain ⟨i, hi, hj⟩ := List.mem_filterMap.1 h
  obtain ⟨hl, _⟩ := legIx_some hj
  exact ⟨i, hi, hl, by unfold legAt; rw [hj]; exact List.getElem?_eq_getElem hl⟩
theorem Here.miss {L : List Leg} {ids : List Lid} (h : Here L ids) : missing L ids = false := List.any_eq_false.2 fun i hi => by
  obtain ⟨j, hj⟩ := h.here i hi
  rw [hj]; exact Bool.false_ne_true
theorem sell_more {L : List Leg} {ids : List Lid} {cls : List UInt8} (h : Here L ids) (hne : ids ≠ []) : sellE L ids cls (avail L cls ids + 1) ≠ 0 := by
  intro hE
  unfold sellE at hE
  split at hE
  · rename_i h1; exact h1 hE
  split at hE
  · cases hE
  · rename_i h2
    obtain ⟨i, hi, ha⟩ := avail_at (L := L) (cls := cls) hne
    obtain ⟨j, hj, hl, hat, hm⟩ := h.at hi
    refine h2 (List.any_eq_true.2 ⟨j, hm, ?_⟩)
    rw [hat] at ha
    unfold lessJ
    rw [List.getElem?_eq_getElem hl]
    exact decide_eq_true (by rw [ha]; show leftS _ _ cls < leftS _ _ cls + 1; omega)
theorem find_all {L : List Leg} {ids : List Lid} {cls : List UInt8} (h : Here L ids) (hne : ids ≠ []) {n : Int} (h1 : 1 ≤ n) (hn : n ≤ avail L cls ids) : findE L ids cls n = 0 := by
  unfold findE
  have hp : (jsOf L ids).any (noPl L cls) = false := List.any_eq_false.2 fun j hj => by
    obtain ⟨i, hi, hl, hat⟩ := js_of hj
    have := avail_le (L := L) (cls := cls) i hi
    rw [hat] at this
    obtain ⟨i2, k, hpl, _⟩ := left_sold (c := L[j].conf) (S := L[j].sold) h1 (Int.le_trans hn this)
    unfold noPl
    rw [List.getElem?_eq_getElem hl]
    dsimp only
    rw [hpl]; exact Bool.false_ne_true
  rw [if_neg (by have := List.length_pos_iff.2 hne; omega), if_neg (by unfold dupB; rw [decide_eq_true h.nd]; decide), if_neg (by rw [h.miss]; decide), if_neg (by rw [hp]; decide)]
theorem sell_all {L : List Leg} {ids : List Lid} {cls : List UInt8} (h : Here L ids) (hne : ids ≠ []) {n : Int} (h1 : 1 ≤ n) (hn : n ≤ avail L cls ids) : sellE L ids cls n = 0 := by
  have hf := find_all h hne h1 hn
  unfold sellE
  rw [hf, if_neg (by decide), if_neg]
  intro hc
  obtain ⟨j, hj, hl⟩ := List.any_eq_true.1 hc
  obtain ⟨i, hi, hlt, hat⟩ := js_of hj
  have := avail_le (L := L) (cls := cls) i hi
  rw [hat] at this
  unfold lessJ at hl
  rw [List.getElem?_eq_getElem hlt] at hl
  have hl := of_decide_eq_true hl
  replace this : avail L cls ids ≤ leftS L[j].conf L[j].sold cls := this
  omega
theorem leg_add {x : Leg} {cls : List UInt8} {n : Int} (hx : LegOk x.conf x.sold) (h1 : 1 ≤ n) (hn : n ≤ leftS x.conf x.sold cls) :
    leftS (addAt cls n x).conf (addAt cls n x).sold cls = leftS x.conf x.sold cls - n ∧ addAt cls (-n) (addAt cls n x) = x ∧ ∃ i k, place x.conf.cabs cls = some (i, k) ∧ 0 ≤ (x.sold.getD i []).getD k 0 ∧ (x.sold.getD i []).getD k 0 + n ≤ 9999 ∧ ((addAt cls n x).sold.getD i []).getD k 0 = (x.sold.getD i []).getD k 0 + n := by
  obtain ⟨i, k, hp, hr, hk, _⟩ := left_sold h1 hn
  obtain ⟨hi, hs, hks, e1, e2, e3⟩ := place_row hx hp
  have hleft : ∀ S, leftS x.conf S cls = (openS (x.conf.cabs.getD i zCabin) (S.getD i [])).getD k 0 := fun S => by unfold leftS; rw [hp]
  have hy : CabOk (x.conf.cabs.getD i zCabin) := by rw [e3]; exact hx.cab _ (List.getElem_mem hi)
  rw [hleft] at hn
  obtain ⟨r1, r2, r3, r4⟩ := row_add hy hr hk h1 hn
  have ha : addAt cls n x = x.put i ((x.sold.getD i []).set k ((x.sold.getD i []).getD k 0 + n)) := by unfold addAt; rw [hp]
  have hset : ∀ r, (x.put i r).sold.getD i [] = r := fun r => by
    show (x.sold.set i r).getD i [] = r
    rw [List.getD_eq_getElem?_getD, List.getElem?_set_self hs]; rfl
  have hk2 : k < (x.sold.getD i []).length := by rw [e1]; exact hks
  have hget : ∀ (w : Int), ((x.sold.getD i []).set k w).getD k 0 = w := fun w => by
    rw [List.getD_eq_getElem?_getD, List.getElem?_set_self hk2]; rfl
  refine ⟨?_, ?_, i, k, hp, r3, r4, ?_⟩
  · rw [ha]
    show leftS x.conf _ cls = _
    rw [hleft, hleft, hset]; exact r2
  · rw [ha]
    unfold addAt
    show (match place x.conf.cabs cls with | some (i, k) => _ | none => _) = x
    rw [hp]
    dsimp only
    rw [hset, hget, List.set_set, show (x.sold.getD i []).getD k 0 + n + -n = (x.sold.getD i []).getD k 0 by omega]
    have : (x.sold.getD i []).set k ((x.sold.getD i []).getD k 0) = x.sold.getD i [] := by
      rw [List.getD_eq_getElem?_getD (l := x.sold.getD i []), List.getElem?_eq_getElem hk2, Option.getD_some, List.set_getElem_self]
    rw [this]
    obtain ⟨id, c, S⟩ := x
    unfold Leg.put
    dsimp only at hs e1 ⊢
    rw [List.set_set, e1, List.set_getElem_self]
  · rw [ha, hset, hget]
theorem sold_all {L : List Leg} {ids : List Lid} {cls : List UInt8} (hok : LgsOk L) (h : Here L ids) (hne : ids ≠ []) (h1 : 1 ≤ avail L cls ids) :
    avail (addJs cls (avail L cls ids) L (jsOf L ids)) cls ids = 0 ∧ addJs cls (-avail L cls ids) (addJs cls (avail L cls ids) L (jsOf L ids)) (jsOf L ids) = L ∧ avail L cls ids ≤ 9999 ∧
    ∀ j ∈ jsOf L ids, ∀ x, (addJs cls (avail L cls ids) L (jsOf L ids))[j]? = some x → ∃ i k, place x.conf.cabs cls = some (i, k) ∧ avail L cls ids ≤ (x.sold.getD i []).getD k 0 ∧ (x.sold.getD i []).getD k 0 ≤ 1000000 := by
  have hjn := jsOf_nd (L := L) h.nd
  obtain ⟨n, hn⟩ : ∃ n, n = avail L cls ids := ⟨_, rfl⟩
  rw [← hn] at h1 ⊢
  obtain ⟨js, hjs⟩ : ∃ js, js = jsOf L ids := ⟨_, rfl⟩
  rw [← hjs] at hjn ⊢
  have hleg : ∀ j ∈ js, ∃ hj : j < L.length, LegOk L[j].conf L[j].sold ∧ n ≤ leftS L[j].conf L[j].sold cls := fun j hj => by
    rw [hjs] at hj
    obtain ⟨i, hi, hl, hat⟩ := js_of hj
    have := avail_le (L := L) (cls := cls) i hi
    rw [hat, ← hn] at this
    exact ⟨hl, hok _ (List.getElem_mem hl), this⟩
  have hget : ∀ j ∈ js, ∃ hj : j < L.length, (addJs cls n L js)[j]? = some (addAt cls n L[j]) := fun j hj => by
    obtain ⟨hl, _⟩ := hleg j hj
    exact ⟨hl, by rw [addJs_get cls n js L j hjn, if_pos hj, List.getElem?_eq_getElem hl]; rfl⟩
  refine ⟨?_, ?_, ?_, fun j hj x hx => ?_⟩
  · have hids : (addJs cls n L js).map (·.id) = L.map (·.id) := conf_ids addJs_ids
    have hlo : ∀ i ∈ ids, leftO cls (legAt (addJs cls n L js) i) = leftO cls (legAt L i) - n := fun i hi => by
      obtain ⟨j, hj, hl, hat, hm⟩ := h.at hi
      rw [← hjs] at hm
      obtain ⟨_, hg⟩ := hget j hm
      obtain ⟨_, ho, hle⟩ := hleg j hm
      have : legAt (addJs cls n L js) i = some (addAt cls n L[j]) := by
        unfold legAt; rw [legIx_ids hids, hj]; exact hg
      rw [this, hat]
      exact (leg_add ho h1 hle).1
    obtain ⟨i, hi, ha⟩ := avail_at (L := L) (cls := cls) hne
    obtain ⟨i2, hi2, ha2⟩ := avail_at (L := addJs cls n L js) (cls := cls) hne
    have b1 := avail_le (L := addJs cls n L js) (cls := cls) i hi
    have b2 := avail_le (L := L) (cls := cls) i2 hi2
    rw [hlo i hi] at b1
    rw [hlo i2 hi2] at ha2
    omega
  · refine List.ext_getElem? fun m => ?_
    rw [addJs_get cls (-n) js _ m hjn, addJs_get cls n js L m hjn]
    by_cases hm : m ∈ js
    · obtain ⟨hl, ho, hle⟩ := hleg m hm
      rw [if_pos hm, if_pos hm, List.getElem?_eq_getElem hl]
      simp only [Option.map_some]
      rw [(leg_add ho h1 hle).2.1]
    · rw [if_neg hm, if_neg hm]
  · obtain ⟨i, hi, _⟩ := avail_at (L := L) (cls := cls) hne
    obtain ⟨j, hj, hl, hat, hm⟩ := h.at hi
    rw [← hjs] at hm
    obtain ⟨_, ho, hle⟩ := hleg j hm
    obtain ⟨_, _, _, _, _, a, b, _⟩ := leg_add ho h1 hle
    omega
  · obtain ⟨hl, ho, hle⟩ := hleg j hj
    obtain ⟨_, hg⟩ := hget j hj
    rw [hg] at hx
    injection hx with hx
    subst hx
    obtain ⟨_, _, i, k, hp, a, b, e⟩ := leg_add ho h1 hle
    refine ⟨i, k, ?_, by rw [e]; omega, by rw [e]; omega⟩
    rw [(addAt_id cls n L[j]).2.1]; exact hp
set_option linter.unusedSimpArgs false
set_option linter.unusedVariables false
set_option linter.deprecated false
theorem fIf_nil {b : Bool} {e : Int} {p : List UInt8} (h : fIf b e p = []) : b = false := by
  unfold fIf at h; split at h
  · cases h
  · rename_i hb; simpa using hb
theorem confTo_nil {l : List Config} {n : Nat} (h : confTo l n = []) : ∀ i, i < n → confOne l i = [] := by
  induction n with
  | zero => intro i hi; omega
  | succ n ih =>
    rw [confTo] at h
    obtain ⟨h1, h2⟩ := List.append_eq_nil_iff.1 h
    intro i hi
    by_cases e : i = n
    · subst e; exact h2
    · exact ih h1 i (by omega)
theorem cabTo_nil {l : List Cabin} {p : List UInt8} {n : Nat} (h : cabTo l p n = []) : ∀ i, i < n → cabOne l p i = [] := by
  induction n with
  | zero => intro i hi; omega
  | succ n ih =>
    rw [cabTo] at h
    obtain ⟨h1, h2⟩ := List.append_eq_nil_iff.1 h
    intro i hi
    by_cases e : i = n
    · subst e; exact h2
    · exact ih h1 i (by omega)
theorem clsTo_nil {y : Cabin} {p : List UInt8} {prev : List (List UInt8)} {n : Nat} (h : clsTo y p prev n = []) : ∀ i, i < n → clsOne y p prev i = [] := by
  induction n with
  | zero => intro i hi; omega
  | succ n ih =>
    rw [clsTo] at h
    obtain ⟨h1, h2⟩ := List.append_eq_nil_iff.1 h
    intro i hi
    by_cases e : i = n
    · subst e; exact h2
    · exact ih h1 i (by omega)
theorem cab_ok {l : List Config} (h : confFaults l = []) {i : Nat} (hi : i < l.length) {c : Nat} (hc : c < l[i].cabs.length) : CabOk l[i].cabs[c] ∧ l[i].cabs.length ≤ 4 := by
  have h1 := confTo_nil h i hi
  unfold confOne at h1
  have eg : l.getD i zConf = l[i] := by rw [List.getD_eq_getElem?_getD, List.getElem?_eq_getElem hi]; rfl
  simp only [eg, List.append_eq_nil_iff] at h1
  have hs4 := fIf_nil h1.1.2
  have h2 := cabTo_nil h1.2 c hc
  unfold cabOne cabTail at h2
  have eg2 : l[i].cabs.getD c zCabin = l[i].cabs[c] := by rw [List.getD_eq_getElem?_getD, List.getElem?_eq_getElem hc]; rfl
  simp only [eg2, List.append_eq_nil_iff] at h2
  obtain ⟨_, ⟨h3, h26⟩, h4⟩ := h2
  have h5 := clsTo_nil h4
  have hin : inR l[i].cabs[c] = true := by simpa using fIf_nil h3
  have hs26 := fIf_nil h26
  generalize l[i].cabs[c] = y at hin hs26 h5
  unfold sizeBad at hs4 hs26
  simp at hs4 hs26
  have hin2 := hin
  unfold inR at hin2
  simp at hin2
  refine ⟨⟨by omega, by omega, by omega, by omega, fun z hz => ?_⟩, by omega⟩
  obtain ⟨k, hk, rfl⟩ := List.mem_iff_getElem.1 hz
  have := h5 k hk
  unfold clsOne at this
  simp only [List.append_eq_nil_iff] at this
  have := fIf_nil this.2
  unfold protBad at this
  have ez : y.cl.getD k zClass = y.cl[k] := by rw [List.getD_eq_getElem?_getD, List.getElem?_eq_getElem hk]; rfl
  rw [ez, hin] at this
  simp at this
  omega
theorem find_in {l : List Config} {e : List UInt8} {c : Config} (h : find l e = some c) : c ∈ l := by
  unfold find at h
  exact List.mem_of_find?_eq_some h
theorem cfg_ok {l : List Config} (hs : SmallL l) (h : confFaults l = []) {e : List UInt8} {c : Config} (hf : find l e = some c) : CfgOk c := by
  have hm := find_in hf
  obtain ⟨i, hi, rfl⟩ := List.mem_iff_getElem.1 hm
  have hok := hs.2.1 _ (List.getElem_mem hi)
  refine ⟨hok, ?_, fun y hy => ?_⟩
  · by_cases h0 : l[i].cabs.length = 0
    · omega
    · exact (cab_ok h hi (c := 0) (by omega)).2
  · obtain ⟨c, hc, rfl⟩ := List.mem_iff_getElem.1 hy
    exact (cab_ok h hi hc).1
theorem leg_new {c : Config} (h : CfgOk c) (i : Lid) : LegOk (Leg.mk i c (emptyS c.cabs)).conf (Leg.mk i c (emptyS c.cabs)).sold := by
  have hl : (emptyS c.cabs).length = c.cabs.length := by unfold emptyS; rw [List.length_map]
  refine ⟨h.ok, h.cab, hl, by have := h.le; show (emptyS c.cabs).length ≤ 8; omega, fun k hk => ?_⟩
  have key : ∀ (S : List (List Int)) (_ : S = c.cabs.map fun y => List.replicate y.cl.length 0) (hk : k < S.length), S[k].length = (c.cabs.getD k zCabin).cl.length := by
    rintro _ rfl hk
    have hk' : k < c.cabs.length := by rwa [List.length_map] at hk
    rw [List.getElem_map, List.length_replicate, List.getD_eq_getElem?_getD, List.getElem?_eq_getElem hk']; rfl
  exact key _ rfl hk
set_option linter.unusedSimpArgs false
set_option linter.unusedVariables false
set_option linter.deprecated false
theorem length_c (w : World) (htab : TabL w) : Calls Tryd.prog 54 #[.int .i64 2026, .int .i64 1] w fun e w' => e = .returned (.int .i64 31) ∧ w = w' := by
  have hc := htab.cell gLen 0 (by decide)
  go_enter Tryd.func54, Tryd.ntmps54
  go_wp2
  go_ret
  exact ⟨rfl, rfl⟩
end Go.Proofs.YtllhcpjgilpbnaaDoor
namespace Go.Proofs.YtllhcpjgilpbnaaDoor
open Go Go.RowKit Go.Shelf
set_option linter.unusedSimpArgs false
set_option linter.unusedVariables false
set_option linter.deprecated false
attribute [local go_sem] Oper.semAt_some
def dayK : Nat → Int
  | 0 => 9497
  | 1 => 9498
  | 2 => 9499
  | 3 => 9500
  | 4 => 9501
  | 5 => 9502
  | 6 => 9503
  | _ => 9504
def wdK : Nat → Int
  | 0 => 3
  | 1 => 4
  | 2 => 5
  | 3 => 6
  | 4 => 0
  | 5 => 1
  | _ => 2
def onK : Nat → Bool
  | 2 => true
  | 3 => true
  | _ => false
theorem lt7 {k : Nat} (h : k < 7) : k = 0 ∨ k = 1 ∨ k = 2 ∨ k = 3 ∨ k = 4 ∨ k = 5 ∨ k = 6 := by omega
theorem weekday_in (F : Fence) (n : Nat) (hf : F.fn 68) (hro : F.round = none) (k : Nat) (hk : k < 7) (w : World) : CallsIn F n Tryd.prog 68 #[.int .i64 (dayK k)] w fun e w' => e = .returned (.int .i64 (wdK k)) ∧ w = w' := by
  rcases lt7 hk with rfl | rfl | rfl | rfl | rfl | rfl | rfl
  all_goals
    dsimp only [dayK, wdK]
    refine callsIn_of_wp Tryd.func68 rfl hf ?_ hro
    simp only [Tryd.ntmps68, List.size_toArray, List.length_cons, List.length_nil, Nat.reduceAdd, Nat.reduceSub, Array.replicate_succ, Array.replicate_zero, List.push_toArray, List.append_toArray, List.nil_append, List.cons_append]
    gi_wp2
    go_ret
    exact ⟨rfl, rfl⟩
theorem on_in (F : Fence) (n : Nat) (hf : F.fn 57) (hf2 : F.fn 68) (hro : F.round = none) (hn : 1 ≤ n) (k : Nat) (hk : k < 7) (w : World) : CallsIn F n Tryd.prog 57 #[.int .i64 96, .int .i64 (dayK k)] w fun e w' => e = .returned (.bool (onK k)) ∧ w = w' := by
  have h1 := weekday_in F (n - 1) hf2 hro k hk
  rcases lt7 hk with rfl | rfl | rfl | rfl | rfl | rfl | rfl
  all_goals
    dsimp only [dayK, wdK, onK] at h1 ⊢
    refine callsIn_of_wp Tryd.func57 rfl hf ?_ hro
    simp only [Tryd.ntmps57, List.size_toArray, List.length_cons, List.length_nil, Nat.reduceAdd, Nat.reduceSub, Array.replicate_succ, Array.replicate_zero, List.push_toArray, List.append_toArray, List.nil_append, List.cons_append]
    gi_wp2_with (gi_at_call 68; refine (h1 _).mono ?_; rintro e w' ⟨rfl, rfl⟩)
    go_ret
    exact ⟨rfl, rfl⟩
theorem pcheck_in (F : Fence) (n : Nat) (hf : F.fn 56) (hro : F.round = none) (w : World) : CallsIn F n Tryd.prog 56 #[.agg #[.int .i64 9497, .int .i64 9503, .int .i64 96]] w fun e w' => e = .returned (.int .i64 0) ∧ w' = w.alloc (.cells #[.int .i64 9497, .int .i64 9503, .int .i64 96] 56) := by
  refine callsIn_of_wp Tryd.func56 rfl hf ?_ hro
  simp only [Tryd.ntmps56, List.size_toArray, List.length_cons, List.length_nil, Nat.reduceAdd, Nat.reduceSub, Array.replicate_succ, Array.replicate_zero, List.push_toArray, List.append_toArray, List.nil_append, List.cons_append]
  gi_wp2
  go_ret
  exact ⟨rfl, rfl⟩
theorem each_in (F : Fence) (n : Nat) (hf : F.fn 38) (hro : F.round = none) (w : World) : CallsIn F n Tryd.prog 38 #[.agg #[.int .i64 9497, .int .i64 9503, .int .i64 96]] w fun e w' => e = .returned (.func (.func 55) #[] #[.pointer (some ⟨w.heap.size, 0, none⟩)]) ∧ w' = w.alloc (.cells #[.int .i64 9497, .int .i64 9503, .int .i64 96] 56) := by
  refine callsIn_of_wp Tryd.func38 rfl hf ?_ hro
  simp only [Tryd.ntmps38, List.size_toArray, List.length_cons, List.length_nil, Nat.reduceAdd, Nat.reduceSub, Array.replicate_succ, Array.replicate_zero, List.push_toArray, List.append_toArray, List.nil_append, List.cons_append]
  gi_wp2
  go_ret
  exact ⟨rfl, rfl⟩
end Go.Proofs.YtllhcpjgilpbnaaDoor
namespace Go.Proofs.YtllhcpjgilpbnaaDoor
open Go Go.RowKit Go.Shelf
set_option linter.unusedSimpArgs false
set_option linter.unusedVariables false
set_option linter.deprecated false
attribute [local go_sem] Oper.semAt_some
def upK : Nat → List Int
  | 0 => []
  | 1 => []
  | 2 => []
  | 3 => [9499]
  | _ => [9499, 9500]
def perO : Obj := .cells #[.int .i64 9497, .int .i64 9503, .int .i64 96] 56 (0, 0)
theorem perO_cell {W : World} {B : Nat} (h : W.heap[B]? = some perO) : W.cell? ⟨B, 0, none⟩ = some (.int .i64 9497) ∧ W.cell? ⟨B, 1, none⟩ = some (.int .i64 9503) ∧ W.cell? ⟨B, 2, none⟩ = some (.int .i64 96) := by
  refine ⟨?_, ?_, ?_⟩ <;> simp [World.cell?, h, perO]
theorem perO_lt {W : World} {B : Nat} (h : W.heap[B]? = some perO) : B < W.heap.size := (Array.getElem?_eq_some_iff.1 h).1
set_option maxRecDepth 100000 in
set_option maxHeartbeats 2000000 in
theorem each1_in (F : Fence) (n : Nat) (h1 : F.fn 55) (h2 : F.fn 56) (h3 : F.fn 57) (h4 : F.fn 68) (hro : F.round = none) (hn : 3 ≤ n) (l Bn : Nat) (J Jx : List Int → World → Prop) (W : World) (hJ : AbidesFrom W.heap.size J)
    (hY : ∀ pre x W1, J pre W1 → pre.length < 2 → YieldAt F (n - 1) Tryd.prog l #[.int .i64 x] W1 fun e W' =>
      (e = .returned (.bool true) ∧ J (pre ++ [x]) W' ∧ W'.heap[Bn]? = W1.heap[Bn]?) ∨ (e = .returned (.bool false) ∧ Jx (pre ++ [x]) W'))
    (hBn : W.heap[Bn]? = some perO) (h0 : J [] W) :
    CallsIn F n Tryd.prog 55 #[.func (.yield l) #[] #[], .pointer (some ⟨Bn, 0, none⟩)] W fun e W' => (∃ v, e = .returned v) ∧
      ((∃ ys, ys = [9499, 9500] ∧ J ys W') ∨ (∃ pre : List Int, True ∧ Jx pre W')) := by
  obtain ⟨c0, c1, c2⟩ := perO_cell hBn
  have hlt := perO_lt hBn
  refine callsIn_of_wp Tryd.func55 rfl h1 ?_ hro
  simp only [Tryd.ntmps55, List.size_toArray, List.length_cons, List.length_nil, Nat.reduceAdd, Nat.reduceSub, Array.replicate_succ, Array.replicate_zero, List.push_toArray, List.append_toArray, List.nil_append, List.cons_append]
  have h1n : 1 ≤ n := by omega
  gi_wp2_with (gi_at_call 56; refine (pcheck_in F (n - 1) h2 hro _).mono ?_; rintro e w' ⟨rfl, rfl⟩)
  gi_loopw [3] (fun p wr => ∃ k : Nat, k ≤ 7 ∧ p = .int .i64 (dayK k) ∧ J (upK k) wr ∧ wr.heap[Bn]? = some perO) (fun p wr => (9504 - intOf p).toNat)
  case atStart =>
    exact ⟨0, by omega, rfl, hJ [] W _ none h0 (World.grownBy_alloc W _ none) (fun r e => by cases e), (Below.heap_alloc W _ Bn hlt).trans hBn⟩
  case round =>
    obtain ⟨k, hk, rfl, hJs, hBr⟩ := hrel
    obtain ⟨b0, b1, b2⟩ := perO_cell hBr
    have hcase : k = 7 ∨ k < 7 := by omega
    rcases hcase with rfl | hk7
    · dsimp only [dayK, upK] at hJs ⊢
      gi_wp2
      go_end0
      exact ⟨⟨_, rfl⟩, .inl hJs⟩
    · have hon := on_in F (n - 1) h3 h4 hro (by omega) k hk7
      rcases lt7 hk7 with rfl | rfl | rfl | rfl | rfl | rfl | rfl
      · dsimp only [dayK, onK, upK] at hon hJs ⊢
        gi_wp2_with (gi_at_call 57; refine (hon _).mono ?_; rintro e w' ⟨rfl, rfl⟩)
        refine ⟨fun _ h => (by cases h), ?_⟩
        gi_wp2
        go_roundw
        case rel => exact ⟨1, by omega, rfl, hJs, hBr⟩
        case measure => decide
      · dsimp only [dayK, onK, upK] at hon hJs ⊢
        gi_wp2_with (gi_at_call 57; refine (hon _).mono ?_; rintro e w' ⟨rfl, rfl⟩)
        refine ⟨fun _ h => (by cases h), ?_⟩
        gi_wp2
        go_roundw
        case rel => exact ⟨2, by omega, rfl, hJs, hBr⟩
        case measure => decide
      · dsimp only [dayK, onK, upK] at hon hJs ⊢
        obtain ⟨fn, tmps, assign, body, hy, hR⟩ := hY [] 9499 wr hJs (by decide)
        gi_wp2_with (gi_at_call 57; refine (hon _).mono ?_; rintro e w' ⟨rfl, rfl⟩)
        refine hR.mono ?_
        rintro e W3 (⟨rfl, hJ3, hk3⟩ | ⟨rfl, hJx3⟩)
        · gi_wp2
          go_roundw
          case rel => exact ⟨3, by omega, rfl, hJ3, hk3.trans hBr⟩
          case measure => decide
        · gi_wp2
          refine bodyPost_ret (results_none rfl _ _ _) rfl ?_
          exact ⟨⟨_, rfl⟩, .inr ⟨_, trivial, hJx3⟩⟩
      · dsimp only [dayK, onK, upK] at hon hJs ⊢
        obtain ⟨fn, tmps, assign, body, hy, hR⟩ := hY [9499] 9500 wr hJs (by decide)
        gi_wp2_with (gi_at_call 57; refine (hon _).mono ?_; rintro e w' ⟨rfl, rfl⟩)
        refine hR.mono ?_
        rintro e W3 (⟨rfl, hJ3, hk3⟩ | ⟨rfl, hJx3⟩)
        · gi_wp2
          go_roundw
          case rel => exact ⟨4, by omega, rfl, hJ3, hk3.trans hBr⟩
          case measure => decide
        · gi_wp2
          refine bodyPost_ret (results_none rfl _ _ _) rfl ?_
          exact ⟨⟨_, rfl⟩, .inr ⟨_, trivial, hJx3⟩⟩
      · dsimp only [dayK, onK, upK] at hon hJs ⊢
        gi_wp2_with (gi_at_call 57; refine (hon _).mono ?_; rintro e w' ⟨rfl, rfl⟩)
        refine ⟨fun _ h => (by cases h), ?_⟩
        gi_wp2
        go_roundw
        case rel => exact ⟨5, by omega, rfl, hJs, hBr⟩
        case measure => decide
      · dsimp only [dayK, onK, upK] at hon hJs ⊢
        gi_wp2_with (gi_at_call 57; refine (hon _).mono ?_; rintro e w' ⟨rfl, rfl⟩)
        refine ⟨fun _ h => (by cases h), ?_⟩
        gi_wp2
        go_roundw
        case rel => exact ⟨6, by omega, rfl, hJs, hBr⟩
        case measure => decide
      · dsimp only [dayK, onK, upK] at hon hJs ⊢
        gi_wp2_with (gi_at_call 57; refine (hon _).mono ?_; rintro e w' ⟨rfl, rfl⟩)
        refine ⟨fun _ h => (by cases h), ?_⟩
        gi_wp2
        go_roundw
        case rel => exact ⟨7, by omega, rfl, hJs, hBr⟩
        case measure => decide
end Go.Proofs.YtllhcpjgilpbnaaDoor
namespace Go.Proofs.YtllhcpjgilpbnaaDoor
open Go Go.RowKit Go.Shelf
set_option linter.unusedSimpArgs false
set_option linter.unusedVariables false
set_option linter.deprecated false
attribute [local go_sem] Oper.semAt_some
def cnW : List Int → Int := List.foldl (fun s _ => wrap64 (s + 1)) 0
theorem cnW_snoc (pre : List Int) (x : Int) : cnW (pre ++ [x]) = wrap64 (cnW pre + 1) := by simp [cnW]
theorem cellB {W : World} {B : Nat} {v : Value} {t : TypeId} (h : W.heap[B]? = some (.cells #[v] t (0, 0))) : W.cell? ⟨B, 0, none⟩ = some v ∧ W.frozen? ⟨B, 0, none⟩ = false := by
  constructor <;> simp [World.cell?, World.frozen?, h]
theorem cellN (W : World) (v : Value) (t : TypeId) : (W.alloc (.cells #[v] t)).cell? ⟨W.heap.size, 0, none⟩ = some v ∧ (W.alloc (.cells #[v] t)).frozen? ⟨W.heap.size, 0, none⟩ = false := cellB (World.alloc_heap_new W _)
theorem cellA {W : World} {a : Addr} {v : Value} (o : Obj) (h : W.cell? a = some v) : (W.alloc o).cell? a = some v := cell_kept h (World.grownBy_alloc W o none) (fun r e => by cases e)
theorem frozenA {W : World} {a : Addr} {v : Value} (o : Obj) (h : W.cell? a = some v) (hf : W.frozen? a = false) : (W.alloc o).frozen? a = false := (frozen_kept h (World.grownBy_alloc W o none) (fun r e => by cases e)).trans hf
theorem each_stops (F : Fence) (n : Nat) (h1 : F.fn 55) (h2 : F.fn 56) (h3 : F.fn 57) (h4 : F.fn 68) (hro : F.round = none) (hn : 3 ≤ n) (Bn : Nat) (w : World) (hlt : Bn < w.heap.size) (hBn : w.heap[Bn]? = some perO) :
    SeqStopsK F n Tryd.prog 55 #[.pointer (some ⟨Bn, 0, none⟩)] (fun x : Int => #[Value.int .i64 x]) (fun A B => B.heap[Bn]? = A.heap[Bn]?) (fun ys => ys = [9499, 9500]) (fun _ => True) 2 w := fun l J Jx W hW hJ _ hY h0 =>
  each1_in F n h1 h2 h3 h4 hro hn l Bn J Jx W hJ hY ((hW.block Bn hlt).trans hBn) h0
set_option maxRecDepth 100000 in
set_option maxHeartbeats 2000000 in
theorem count_in (F : Fence) (n : Nat) (h0 : F.fn 17) (h1 : F.fn 55) (h2 : F.fn 56) (h3 : F.fn 57) (h4 : F.fn 68) (h5 : F.fn 38) (hro : F.round = none) (hn : 5 ≤ n) (w : World) :
    CallsIn F n Tryd.prog 17 #[.agg #[.int .i64 9497, .int .i64 9503, .int .i64 96]] w fun e W' => e = .returned (.int .i64 2) ∧ Below w.heap.size w W' := by
  have hn1 : 1 ≤ n := by omega
  refine callsIn_of_wp_marks Tryd.func17 rfl h0 ?_ hro
  simp only [Tryd.ntmps17, List.size_toArray, List.length_cons, List.length_nil, Nat.reduceAdd, Nat.reduceSub, Array.replicate_succ, Array.replicate_zero, List.push_toArray, List.append_toArray, List.nil_append, List.cons_append]
  gi_wp2_with (gi_at_call 38; refine (each_in F (n - 1) h5 hro _).mono ?_; rintro e w' ⟨rfl, rfl⟩)
  obtain ⟨w1, hw1⟩ : ∃ w1, w.alloc (.cells #[.int .i64 9497, .int .i64 9503, .int .i64 96] 56) = w1 := ⟨_, rfl⟩
  have hs1 : w1.heap.size = w.heap.size + 1 := by rw [← hw1, World.size_alloc]
  rw [hw1]
  have hs := cellN w1 (.int .i64 0) 3
  rw [hs1] at hs
  obtain ⟨w2, hw2⟩ : ∃ w2, w1.alloc (.cells #[.int .i64 0] 3) = w2 := ⟨_, rfl⟩
  have hs2 : w2.heap.size = w.heap.size + 1 + 1 := by rw [← hw2, World.size_alloc, hs1]
  rw [hw2] at hs ⊢
  have hb : (w2.alloc (.cells #[.int .i64 9497, .int .i64 9503, .int .i64 96] 56)).heap[w.heap.size + 1 + 1]? = some perO := by
    have := World.alloc_heap_new w2 (.cells #[.int .i64 9497, .int .i64 9503, .int .i64 96] 56)
    rw [hs2] at this; exact this
  have hB0 : Below w.heap.size w (w2.alloc (.cells #[.int .i64 9497, .int .i64 9503, .int .i64 96] 56)) := by
    rw [← hw2, ← hw1]
    exact (((Below.refl _ w).alloc (Nat.le_refl _) _).alloc (by simp) _).alloc (by simp; omega) _
  have hs3 : (w2.alloc (.cells #[.int .i64 9497, .int .i64 9503, .int .i64 96] 56)).heap.size = w.heap.size + 1 + 1 + 1 := by rw [World.size_alloc, hs2]
  refine wpIn_rangeFunc_ownF hro hn1 (gf := 55) (lb := #[.pointer (some ⟨w.heap.size + 1 + 1, 0, none⟩)]) rfl h1 (enters_of Tryd.func55 (by kernel_rfl) rfl)
    (each_stops F (n - 1) h1 h2 h3 h4 hro (by omega) (w.heap.size + 1 + 1) _ (by rw [hs3]; omega) hb) (fun h1 h2 => h2.trans h1)
    (fun W l o o' hle _ _ _ => World.putObj_heap_other (by rw [hs3] at hle; omega)) (Below.refl _ _) (fun _ => rfl)
    (fun pre W => (W.cell? ⟨w.heap.size + 1, 0, none⟩ = some (.int .i64 (cnW pre)) ∧ W.frozen? ⟨w.heap.size + 1, 0, none⟩ = false) ∧ Below w.heap.size w W)
    (fun _ _ _ => False)
    (OwnFrom.and (Own.from (fun s A B row hs hg hr => ⟨cell_kept hs.1 hg hr, (frozen_kept hs.1 hg hr).trans hs.2⟩) _) (ownFrom_below (Nat.le_refl _) (by rw [hs3]; omega)))
    (fun _ _ _ _ _ hs _ _ => hs)
    ⟨⟨cellA _ hs.1, frozenA _ hs.1 hs.2⟩, hB0⟩
    (fun x => { tmps := #[.agg #[.int .i64 9497, .int .i64 9503, .int .i64 96], .pointer (some ⟨w.heap.size, 0, none⟩), .int .i64 0, .pointer (some ⟨w.heap.size + 1, 0, none⟩), .agg #[.int .i64 9497, .int .i64 9503, .int .i64 96], .func (.func 55) #[] #[.pointer (some ⟨w.heap.size + 1 + 1, 0, none⟩)], .int .i64 x, undef, undef, undef], defers := [] }) ?assign ?body ?done ?stop
  case assign =>
    intro l x W K hK
    gi_wp2
    simpa using hK
  case body =>
    rintro l pre x W ⟨⟨hc, hf⟩, hB⟩ _
    gi_wp2
    exact ⟨KeepsOthers.setCell _ _ _, Below.heap_setCell W _ _ _ (by simp), ⟨by rw [cnW_snoc]; exact World.cell?_setCell_same' _ _ _ (by rw [hc]; rfl), by rw [World.frozen?_setCell]; exact hf⟩, hB.setCell (p := ⟨w.heap.size + 1, 0, none⟩) (by simp) _⟩
  case done =>
    rintro D ys W hD rfl ⟨⟨hc, _⟩, hB⟩ hK
    rw [show cnW [9499, 9500] = 2 by kernel_rfl] at hc
    gi_wp2
    refine ⟨by simp, .inl ⟨_, _, rfl, run_takeDeferred hK, ?_⟩⟩
    exact ⟨_, results_tmp rfl _ _ _, rfl, hB.trans (belowK_b (w := w) (Nat.le_refl _) W D _ _ (by rw [hs3] at hD; omega) hK rfl rfl)⟩
  case stop =>
    rintro D c pre W _ _ h _
    exact h.elim
end Go.Proofs.YtllhcpjgilpbnaaDoor
