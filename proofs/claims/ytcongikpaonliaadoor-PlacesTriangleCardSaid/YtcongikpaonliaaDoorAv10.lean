/- append; a field of a value; calls of functions that are proved to compute. -/
import Derived.Test.YtcongikpaonliaaDoorAv9
namespace Go.Proofs.YtcongikpaonliaaDoor
open Go Go.RowKit
set_option linter.unusedSimpArgs false
set_option linter.unusedVariables false
set_option linter.deprecated false
/-- A slice value that reads as rows, as append's second operand. -/
def ReadsRows (M : Nat → Prop) (w : World) (ι : Nat → Value) (h : Nat → Option Ob) (cv : Value) (sz : Nat) (rows : List (List V)) : Prop :=
  (cv = .slice none 0 0 ∧ rows = []) ∨ ∃ (ad : Addr) (c : Nat) (news : List Value), cv = .slice (some ad) rows.length c ∧ news.length = rows.length * sz ∧ (∀ j u, news[j]? = some u → w.cell? (ad.add j) = some u) ∧ (∀ u ∈ news, u.oneCell' = true) ∧
    ∀ (i j : Nat) (r : List V) (v : V), rows[i]? = some r → r[j]? = some v → Rel M w ι h v (news.getD (i * sz + j) undef)
section
variable {P : Program} {U : Tbl} {C : Ctx U} {h : Nat → Option Ob} {w : World} {M : Nat → Prop} {ι : Nat → Value} {o : Oper} {a : Act} {E : AE → V} {G : Tab} {d : Nat}
theorem rowsOf_reads (hm : Mem C h w M ι) {y : V} {cv : Value} (hy : Rel M w ι h y cv) {rows : List (List V)} (hr : rowsOf h y = some rows) {sz : Nat} (hsz : ∀ r ∈ rows, r.length = sz) : ReadsRows M w ι h cv sz rows := by
  unfold rowsOf at hr
  cases y with
  | list rows' fit =>
    injection hr with hr
    subst hr
    obtain ⟨x, cap, g, off, sz', hcv, _, _, hnone, hne, hrl, f, hc, hv⟩ := hy.list_inv
    by_cases h0 : rows' = []
    · subst h0
      cases x with
      | none => have := hnone rfl; subst this; exact .inl ⟨hcv, rfl⟩
      | some ad => exact .inr ⟨ad, cap, [], hcv, by simp, fun j u hj => by simp at hj, fun u hu => by simp at hu, fun i j r v hi => by simp at hi⟩
    · obtain ⟨rfl, hM⟩ := hne.resolve_left h0
      have hss : sz' = sz := by
        obtain ⟨r, hr⟩ := List.exists_mem_of_ne_nil _ h0
        rw [← hrl r hr, hsz r hr]
      subst hss
      have hk : ∀ k, k < rows'.length * sz' → k / sz' < rows'.length ∧ k % sz' < sz' := fun k hk => by
        have hpos : 0 < sz' := by rcases Nat.eq_zero_or_pos sz' with e | e; · rw [e, Nat.mul_zero] at hk; omega
                                  · exact e
        exact ⟨Nat.div_lt_of_lt_mul (by rw [Nat.mul_comm]; exact hk), Nat.mod_lt _ hpos⟩
      refine .inr ⟨⟨g, off, none⟩, cap, (List.range (rows'.length * sz')).map fun k => f (k / sz') (k % sz'), hcv, by simp, fun j u hj => ?_, fun u hu => ?_, fun i j r v hi hj => ?_⟩
      · have hlt : j < rows'.length * sz' := by have := (List.getElem?_eq_some_iff.1 hj).1; simpa using this
        obtain ⟨h1, h2⟩ := hk j hlt
        simp only [List.getElem?_map, List.getElem?_range hlt, Option.map_some, Option.some.injEq] at hj
        subst hj
        rw [addr_add]
        have := (hc _ _ h1 h2).1
        rwa [show off + j / sz' * sz' + j % sz' = off + j by rw [Nat.add_assoc, Nat.div_add_mod']] at this
      · simp only [List.mem_map, List.mem_range] at hu
        obtain ⟨k, hlt, rfl⟩ := hu
        obtain ⟨h1, h2⟩ := hk k hlt
        exact (hc _ _ h1 h2).2
      · have hj' : j < sz' := by rw [← hrl r (List.mem_of_getElem? hi)]; exact (List.getElem?_eq_some_iff.1 hj).1
        have hlt := flatten_get hrl hi hj
        rw [List.getD_eq_getElem?_getD, List.getElem?_map, List.getElem?_range hlt]
        simp only [Option.map_some, Option.getD_some]
        have e1 : (i * sz' + j) / sz' = i := by rw [Nat.mul_comm, Nat.mul_add_div (by omega), Nat.div_eq_of_lt hj', Nat.add_zero]
        have e2 : (i * sz' + j) % sz' = j := by rw [Nat.mul_comm, Nat.mul_add_mod, Nat.mod_eq_of_lt hj']
        rw [e1, e2]
        exact .pur (hv i j r v hi hj)
  | nils =>
    injection hr with hr
    subst hr
    exact .inl ⟨hy.nils_inv, rfl⟩
  | own n len =>
    dsimp only at hr
    obtain ⟨t', sz', rows', hn, hle, hv⟩ := hy.own_inv
    rw [hn] at hr
    dsimp only at hr
    split at hr
    · rename_i hlen
      injection hr with hr
      subst hr
      have hcv := hv hlen
      obtain ⟨xs, hown, hrl, hx1, hxr⟩ := hm.obj n _ hn
      rcases hown.2 with ⟨e, h0⟩ | ⟨g, cap, cur, e, _, hh, _⟩
      · have : rows' = [] := List.length_eq_zero_iff.1 h0
        exact .inl ⟨hcv.trans e, this⟩
      · by_cases h0 : rows' = []
        · subst h0
          exact .inr ⟨⟨g, 0, none⟩, cap, [], hcv.trans e, by simp, fun j u hj => by simp at hj, fun u hu => by simp at hu, fun i j r v hi => by simp at hi⟩
        · have hss : sz' = sz := by
            obtain ⟨r, hr⟩ := List.exists_mem_of_ne_nil _ h0
            rw [← hrl r hr, hsz r hr]
          subst hss
          exact .inr ⟨⟨g, 0, none⟩, cap, xs, hcv.trans e, hown.1, hown.cells (g := g) (by rw [e]; rfl), hx1, hxr⟩
    · cases hr
  | _ => cases hr
/-- append, seen from its operands. -/
theorem run_app {t e : TypeId} {i : TypeInfo} {z : Value} {sz bytes : Nat} (ty : TypeId) (ht : P.underlying t = some (.slice e)) (hi : P.info? e = some i) (hz : i.zero = some z) (hsz : i.size = sz) (hby : i.bytes = bytes) (hzs : z.cells.size = sz) (hpos : 0 < sz)
    {v0 : Value} {n : Nat} {xs : List Value} (hown : w.ownsRow 0 e sz v0 n xs) {cv : Value} {rows : List (List V)} (hy : ReadsRows M w ι h cv sz rows) (hb : (n + rows.length) * (bytes + 1) ≤ 140737488355328) :
    ∃ (v' : Value) (w' : World) (news : List Value), (Builtin.append_ #[t, t] ty #[v0, cv]).run P w = .ok v' w' ∧ w'.ownsRow 0 e sz v' (n + rows.length) (xs ++ news) ∧ w.grownBy w' v0.ownBlock ∧ news.length = rows.length * sz ∧ (∀ u ∈ news, u.oneCell' = true) ∧
      (∀ (i j : Nat) (r : List V) (v : V), rows[i]? = some r → r[j]? = some v → Rel M w ι h v (news.getD (i * sz + j) undef)) ∧ (rows.length = 0 → v' = v0) ∧ ∀ g, blk v' = some g → blk v0 = some g ∨ w.heap.size ≤ g := by
  have hbb : (n + rows.length) * bytes ≤ 140737488355328 := Nat.le_trans (Nat.mul_le_mul_left _ (Nat.le_succ _)) hb
  have hll : n + rows.length ≤ 140737488355328 := by
    have : (n + rows.length) * 1 ≤ (n + rows.length) * (bytes + 1) := Nat.mul_le_mul_left _ (by omega)
    omega
  rcases hy with ⟨rfl, rfl⟩ | ⟨ad, c, news, rfl, hl, hc, h1, hr⟩
  · have := run_append_owned_none (P := P) w 0 t ty e i sz ht hi v0 n xs hown
    refine ⟨v0, w, [], this, by simpa using hown, ⟨rfl, rfl, rfl, Nat.le_refl _, fun _ _ _ => rfl⟩, by simp, fun u hu => by simp at hu, fun i j r v hi => by simp at hi, fun _ => rfl, fun g hg => .inl hg⟩
  · obtain ⟨v', w', hrun, hown', hgrow, hnil⟩ := run_append_own (P := P) w 0 t ty e i z sz bytes ht hi hz hsz hby hzs hpos v0 n xs hown ad rows.length c news hl hc h1 (by unfold maxLen; omega) hbb (Nat.zero_le _)
    refine ⟨v', w', news, hrun, hown', hgrow, hl, h1, hr, ?_, ?_⟩
    · intro h0
      rcases hown.2 with ⟨e0, hn0⟩ | ⟨g, cap, cur, e0, _, hg, hnc, _, hcs, _⟩
      · rw [e0]; exact hnil.2 ⟨e0, h0⟩
      · have hn0 : news = [] := List.length_eq_zero_iff.1 (by rw [hl, h0, Nat.zero_mul])
        have := run_append_room (P := P) w t ty e i ht hi g n cap cur hg ad rows.length c news (by rw [hl, hsz]) hc h1 (by omega) (by rw [hn0, hsz, hcs]; simp only [List.length_nil, Nat.add_zero]; exact Nat.mul_le_mul_right _ hnc)
        rw [e0, this] at hrun
        injection hrun with e1 e2
        rw [← e1, e0, h0, Nat.add_zero]
    · intro g' hg'
      rcases hown.2 with ⟨e0, hn0⟩ | ⟨g, cap, cur, e0, _, hg, hnc, _, hcs, _⟩
      · by_cases h0 : rows.length = 0
        · rw [hnil.2 ⟨e0, h0⟩] at hg'; cases hg'
        · have := run_append_nil (P := P) w t ty e i z ht hi hz ad rows.length c news (by rw [hl, hsz]) hc (by omega) (by omega) (by rw [hby]; rw [hn0, Nat.zero_add] at hbb; omega)
          rw [e0, this] at hrun
          injection hrun with e1 e2
          rw [← e1] at hg'
          injection hg' with hg'
          exact .inr (by rw [← hg']; exact Nat.le_refl _)
      · by_cases hroom : n + rows.length ≤ cap
        · have := run_append_room (P := P) w t ty e i ht hi g n cap cur hg ad rows.length c news (by rw [hl, hsz]) hc h1 hroom (by rw [hl, hsz, hcs, ← Nat.add_mul]; exact Nat.mul_le_mul_right _ hroom)
          rw [e0, this] at hrun
          injection hrun with e1 e2
          rw [← e1] at hg'
          injection hg' with hg'
          exact .inl (by rw [e0]; exact congrArg some hg')
        · have hold : ∀ j u, xs[j]? = some u → w.cell? ((⟨g, 0, none⟩ : Addr).add j) = some u := hown.cells (g := g) (by rw [e0]; rfl)
          have := run_append_grow (P := P) w t ty e i z ht hi hz ⟨g, 0, none⟩ n cap xs (by rw [hsz]; exact hown.1) hold ad rows.length c news (by rw [hl, hsz]) hc (by omega) (by omega) (growslice_fits (by omega) (by rw [hby]; exact hbb))
          rw [e0, this] at hrun
          injection hrun with e1 e2
          rw [← e1] at hg'
          injection hg' with hg'
          exact .inr (by rw [← hg']; exact Nat.le_refl _)
/-- append to a slice that is full, which nobody writes: a new row. -/
theorem run_appF {t e : TypeId} {i : TypeInfo} {z : Value} {sz bytes : Nat} (ty : TypeId) (ht : P.underlying t = some (.slice e)) (hi : P.info? e = some i) (hz : i.zero = some z) (hsz : i.size = sz) (hby : i.bytes = bytes) (hzs : z.cells.size = sz) (hpos : 0 < sz)
    {v0 cv : Value} {olds rows : List (List V)} (hx : ReadsRows M w ι h v0 sz olds) (hcap : ∀ b l c, v0 = .slice b l c → c = olds.length) (hy : ReadsRows M w ι h cv sz rows) (hne : rows ≠ []) (hb : (olds.length + rows.length) * (bytes + 1) ≤ 140737488355328) :
    ∃ (v' : Value) (w' : World) (xs news : List Value), (Builtin.append_ #[t, t] ty #[v0, cv]).run P w = .ok v' w' ∧ w'.ownsRow 0 e sz v' (olds.length + rows.length) (xs ++ news) ∧ w.grownBy w' none ∧ xs.length = olds.length * sz ∧ (∀ u ∈ xs, u.oneCell' = true) ∧ (∀ u ∈ news, u.oneCell' = true) ∧
      (∀ (i j : Nat) (r : List V) (v : V), olds[i]? = some r → r[j]? = some v → Rel M w ι h v (xs.getD (i * sz + j) undef)) ∧
      (∀ (i j : Nat) (r : List V) (v : V), rows[i]? = some r → r[j]? = some v → Rel M w ι h v (news.getD (i * sz + j) undef)) ∧ ∀ g, blk v' = some g → w.heap.size ≤ g := by
  have hbb : (olds.length + rows.length) * bytes ≤ 140737488355328 := Nat.le_trans (Nat.mul_le_mul_left _ (Nat.le_succ _)) hb
  have hll : olds.length + rows.length ≤ 140737488355328 := by
    have : (olds.length + rows.length) * 1 ≤ (olds.length + rows.length) * (bytes + 1) := Nat.mul_le_mul_left _ (by omega)
    omega
  have hpr : 0 < rows.length := List.length_pos_iff.2 hne
  rcases hx with ⟨rfl, rfl⟩ | ⟨bd, c0, xs, rfl, hl0, hc0, h10, hr0⟩
  · obtain ⟨v', w', news, r1, r2, r3, r4, r5, r6, _, r8⟩ := run_app (P := P) (M := M) (ι := ι) (h := h) ty ht hi hz hsz hby hzs hpos (World.ownsRow_nil w 0 e sz) hy (by simpa using hb)
    refine ⟨v', w', [], news, r1, by simpa using r2, ⟨r3.os, r3.tape, r3.output, r3.size, fun k hk _ => r3.block k hk (by simp [Value.ownBlock])⟩, by simp, fun u hu => (by simp at hu), r5, fun i j r v hi => (by simp at hi), r6, fun g hg => (r8 g hg).resolve_left (by simp [blk])⟩
  · rcases hy with ⟨rfl, rfl⟩ | ⟨ad, c, news, rfl, hl, hc, h1, hr⟩
    · exact absurd rfl hne
    · have hcc := hcap _ _ _ rfl
      subst hcc
      have hsmall : olds.length + rows.length ≤ maxLen := by unfold maxLen; omega
      have this := run_append_grow (P := P) w t ty e i z ht hi hz bd olds.length olds.length xs (by rw [hsz]; exact hl0) hc0 ad rows.length c news (by rw [hl, hsz]) hc (by omega) (by omega) (growslice_fits (by omega) (by rw [hby]; exact hbb))
      have hge := grownCap_ge w (olds.length + rows.length) olds.length e
      have hcm : grownCap w (olds.length + rows.length) olds.length e ≤ maxLen := grownCap_le_maxLen w _ _ e hsmall
      have hlen : (xs ++ news).length = (olds.length + rows.length) * sz := by rw [List.length_append, hl0, hl, Nat.add_mul]
      refine ⟨_, _, xs, news, this, ⟨hlen, .inr ⟨w.heap.size, _, _, rfl, Nat.zero_le _, heap_alloc_new w.drew _, hge, hcm, ?_, ?_⟩⟩, ⟨rfl, rfl, rfl, by simp, fun k hk _ => heap_alloc_old w.drew _ hk⟩, hl0, h10, h1, hr0, hr, fun g hg => ?_⟩
      · simp only [Array.size_append, List.size_toArray, size_zeroCells, hzs, hl0, hl, ← Nat.add_mul]
        congr 1
        omega
      · simp only [Array.toList_append, List.append_assoc]
        rw [← List.append_assoc, ← hlen]
        exact List.take_left
      · injection hg with hg
        rw [← hg]; exact Nat.le_refl _
theorem blk_of_own {v : Value} {g : Nat} (h : v.ownBlock = some g) : blk v = some g := by
  cases v with
  | slice x _ _ =>
    cases x with
    | none => simp [Value.ownBlock] at h
    | some x => simpa [Value.ownBlock, blk] using h
  | _ => simp [Value.ownBlock] at h
/-- The rows of an own slice behind an append. -/
theorem app_rows {R : V → Value → Prop} {sz : Nat} {rows rows2 : List (List V)} {xs news : List Value} (hx : xs.length = rows.length * sz) (hrl : ∀ r ∈ rows, r.length = sz) (h1 : ∀ (i j : Nat) (r : List V) (v : V), rows[i]? = some r → r[j]? = some v → R v (xs.getD (i * sz + j) undef))
    (h2 : ∀ (i j : Nat) (r : List V) (v : V), rows2[i]? = some r → r[j]? = some v → R v (news.getD (i * sz + j) undef)) :
    ∀ (i j : Nat) (r : List V) (v : V), (rows ++ rows2)[i]? = some r → r[j]? = some v → R v ((xs ++ news).getD (i * sz + j) undef) := by
  intro i j r v hi hj
  rw [List.getD_eq_getElem?_getD]
  by_cases c : i < rows.length
  · rw [List.getElem?_append_left c] at hi
    have hlt := flatten_get hrl hi hj
    rw [List.getElem?_append_left (by omega), ← List.getD_eq_getElem?_getD]
    exact h1 i j r v hi hj
  · rw [List.getElem?_append_right (by omega)] at hi
    have hle : rows.length * sz ≤ i * sz := Nat.mul_le_mul_right _ (by omega)
    rw [List.getElem?_append_right (by omega), hx, ← List.getD_eq_getElem?_getD]
    have := h2 _ j r v hi hj
    rwa [Nat.sub_mul, show i * sz - rows.length * sz + j = i * sz + j - rows.length * sz by omega] at this
theorem sim_app {t e : TypeId} {i : TypeInfo} {z : Value} {sz bytes : Nat} {x0 y0 : Operand} {x y : AE} {args : Array Operand} (ho : o.op = .call { callee := .builtin .append, args, argTypes := #[t, t] }) (ha : args = #[x0, y0])
    (ht : P.underlying t = some (.slice e)) (hi : P.info? e = some i) (hz : i.zero = some z) (hsz : i.size = sz) (hby : i.bytes = bytes) (hzs : z.cells.size = sz) (hpos : 0 < sz)
    (hm : Mem C h w M ι) (hx : Rel M w ι h (E x) (a.eval x0)) (hy : Rel M w ι h (E y) (a.eval y0)) : Sim P G C h w M ι o a E d (.app e sz bytes x y) := by
  unfold Sim aeval evApp
  dsimp only
  split
  · exact fun hφ => hφ.elim
  · rename_i news hnews
    have hrun : ∀ {v' : Value} {w' : World}, (Builtin.append_ #[t, t] o.type #[a.eval x0, a.eval y0]).run P w = .ok v' w' → (execOp a.eval o).run P w = .ok (.value v') w' := by
      intro v' w' hr
      simp only [execOp, ho, ha, resolve, invoke, builtin, Sem.run_bind, Sem.run_pure, Result.andThen_ok, List.map_toArray, List.map_cons, List.map_nil, hr]
    generalize hEx : E x = ex at hx
    cases ex with
    | nils =>
      dsimp only
      intro hφ
      obtain ⟨q1, q2, q3, q4⟩ := hφ
      have hr := rowsOf_reads hm hy hnews q3
      have e0 := hx.nils_inv
      obtain ⟨v', w', nv, r1, r2, r3, r4, r5, r6, r7, r8⟩ := run_app (P := P) o.type ht hi hz hsz hby hzs hpos (World.ownsRow_nil w 0 e sz) hr (by rw [Nat.zero_add]; exact q4)
      rw [Nat.zero_add, List.nil_append] at r2
      refine .run (cv := v') (w' := w') (hrun (by rw [e0]; exact r1)) ?_
      refine after_new hm q1 q2 (.arr e sz news) v' w' r3.size r3.os r3.tape r3.output (fun k hk => r3.block k hk (by simp [Value.ownBlock])) (fun g hg => (r8 g hg).resolve_left (by simp [blk])) (fun {h' ι'} hk hi' hMw => ?_) ?_
      · exact ⟨nv, by rw [hi']; exact r2, q3, r5, fun i j r v h1 h2 => (r6 i j r v h1 h2).keep (fun _ hb => hb) hMw hk⟩
      · refine .own d news.length e sz news v' (hupd_same _ _ _) (Nat.le_refl _) (fun _ => (iupd_same _ _ _).symm) ?_
        rcases r2.2 with ⟨e1, _⟩ | ⟨g, cap, cur, e1, _⟩ <;> rw [e1] <;> rfl
    | own n len =>
      dsimp only
      obtain ⟨t', sz', rows, hn, hle, hv⟩ := hx.own_inv
      rw [hn]
      dsimp only
      intro hφ
      obtain ⟨q1, q2, q3, q4, q5⟩ := hφ
      subst q1 q2
      obtain ⟨xs, hown, hrl, hx1, hxr⟩ := hm.obj n _ hn
      have e0 := hv q3
      have hr := rowsOf_reads hm hy hnews q4
      obtain ⟨v', w', nv, r1, r2, r3, r4, r5, r6, r7, r8⟩ := run_app (P := P) o.type ht hi hz hsz hby hzs hpos hown hr (by rw [q3]; exact q5)
      refine .run (cv := v') (w' := w') (hrun (by rw [e0]; exact r1)) ?_
      have hk : Keeps h (hupd h n (.arr t' sz' (rows ++ news))) ι (iupd ι n v') := .put hn (.inr (.inl ⟨t', sz', rows, _, rfl, rfl, by rw [List.length_append]; omega, fun he => r7 (by rw [List.length_append] at he; omega)⟩))
      have hblk : ∀ k, k < w.heap.size → blk (ι n) ≠ some k → w'.heap[k]? = w.heap[k]? := fun k hk' hne => r3.block k hk' (fun e1 => hne (blk_of_own e1.symm))
      have hMw : ∀ b, M b → w'.heap[b]? = w.heap[b]? := fun b hb => hblk b (hm.lt b hb) (fun e1 => hm.imm n b (by rw [hn]; rfl) e1 hb)
      obtain ⟨s1, s2⟩ := hm.step n (.arr t' sz' (rows ++ news)) v' w' r3.size r3.os r3.tape r3.output (fun k hk' hne => hblk k hk' (hne _ hn)) (fun g hg => (r8 g hg).imp (fun e1 => ⟨_, hn, e1⟩) id) hk
        ⟨xs ++ nv, by rw [iupd_same, List.length_append]; exact r2, fun r hr' => (List.mem_append.1 hr').elim (hrl r) (q4 r), fun u hu => (List.mem_append.1 hu).elim (hx1 u) (r5 u),
          fun i j r v h1 h2 => (app_rows (R := Rel M w ι h) hown.1 hrl hxr r6 i j r v h1 h2).keep (fun _ hb => hb) hMw hk⟩
        (fun _ => by rw [hn]; rfl) (fun _ => ⟨fun t c he => (by cases he), fun es he => by cases he⟩)
      refine ⟨M, _, s1, ?_, fun _ hb => hb, s2, hk⟩
      refine .own n (len + news.length) t' sz' (rows ++ news) v' (hupd_same _ _ _) (by rw [List.length_append]; omega) (fun _ => (iupd_same _ _ _).symm) ?_
      rcases r2.2 with ⟨e1, _⟩ | ⟨g, cap, cur, e1, _⟩ <;> rw [e1] <;> rfl
    | list olds fit =>
      dsimp only
      intro hφ
      obtain ⟨q1, q2, qf, qn, qo, q3, q4⟩ := hφ
      have hr := rowsOf_reads hm hy hnews q3
      have hro := rowsOf_reads hm hx (rows := olds) rfl qo
      have hcap : ∀ b l c, a.eval x0 = .slice b l c → c = olds.length := by
        obtain ⟨x, cap, g, off, sz', hcv, hfit, _⟩ := hx.list_inv
        intro b l c e
        rw [hcv] at e
        injection e with e1 e2 e3
        rw [← e3, hfit qf]
      obtain ⟨v', w', xs, nv, r1, r2, r3, r4, r5, r6, r7, r8, r9⟩ := run_appF (P := P) o.type ht hi hz hsz hby hzs hpos hro hcap hr qn q4
      refine .run (cv := v') (w' := w') (hrun r1) ?_
      refine after_new hm q1 q2 (.arr e sz (olds ++ news)) v' w' r3.size r3.os r3.tape r3.output (fun k hk => r3.block k hk (by simp)) (fun g hg => r9 g hg) (fun {h' ι'} hk hi' hMw => ?_) ?_
      · exact ⟨xs ++ nv, by rw [hi', List.length_append]; exact r2, fun r hr' => (List.mem_append.1 hr').elim (qo r) (q3 r), fun u hu => (List.mem_append.1 hu).elim (r5 u) (r6 u),
          fun i j r v h1 h2 => (app_rows (R := Rel M w ι h) r4 qo r7 r8 i j r v h1 h2).keep (fun _ hb => hb) hMw hk⟩
      · refine .own d (olds.length + news.length) e sz (olds ++ news) v' (hupd_same _ _ _) (by rw [List.length_append]; exact Nat.le_refl _) (fun _ => (iupd_same _ _ _).symm) ?_
        rcases r2.2 with ⟨e1, _⟩ | ⟨g, cap, cur, e1, _⟩ <;> rw [e1] <;> rfl
    | _ => exact fun hφ => hφ.elim
end
end Go.Proofs.YtcongikpaonliaaDoor
