/- Operations that make or write memory: store, box, alloc, a struct value built, a literal slice, append. -/
import Derived.Test.YtcongikpaonliaaDoorAv6
namespace Go.Proofs.YtcongikpaonliaaDoor
open Go Go.RowKit
set_option linter.unusedSimpArgs false
set_option linter.unusedVariables false
set_option linter.deprecated false
section
variable {P : Program} {U : Tbl} {C : Ctx U} {h : Nat → Option Ob} {w : World} {M : Nat → Prop} {ι : Nat → Value} {o : Oper} {a : Act} {E : AE → V} {G : Tab} {d : Nat}
theorem getD_arr {cs : Array Value} {k : Nat} (hk : k < cs.size) : cs[k]? = some (cs.getD k undef) := by
  rw [Array.getElem?_eq_getElem hk]; simp [Array.getD, hk]
theorem putAt_length {cs ys : List V} {off : Nat} (hl : off + ys.length ≤ cs.length) : (putAt cs off ys).length = cs.length := by
  unfold putAt
  simp only [List.length_append, List.length_take, List.length_drop]
  omega
theorem splice_get {α : Type} {l ys : List α} {o : Nat} (h : o + ys.length ≤ l.length) (j : Nat) : (l.take o ++ ys ++ l.drop (o + ys.length))[j]? = if j < o then l[j]? else if j < o + ys.length then ys[j - o]? else l[j]? := by
  have e : (l.take o).length = o := by rw [List.length_take]; omega
  split
  · rename_i c
    rw [List.append_assoc, List.getElem?_append_left (by omega), List.getElem?_take_of_lt c]
  · rename_i c
    split
    · rw [List.append_assoc, List.getElem?_append_right (by omega), e, List.getElem?_append_left (by omega)]
    · rw [List.getElem?_append_right (by rw [List.length_append]; omega), List.getElem?_drop, List.length_append, e]
      congr 1
      omega
/-- The cells of a row replaced, on both sides. -/
theorem putAt_rel {R : V → Value → Prop} {cs ys : List V} {off : Nat} {ccs cys : List Value} (hl : cs.length = ccs.length) (hy : ys.length = cys.length) (hle : off + ys.length ≤ cs.length)
    (h1 : ∀ (i : Nat) (v : V), cs[i]? = some v → R v (ccs.getD i undef)) (h2 : ∀ (i : Nat) (v : V), ys[i]? = some v → R v (cys.getD i undef)) :
    ∀ (i : Nat) (v : V), (putAt cs off ys)[i]? = some v → R v ((ccs.take off ++ cys ++ ccs.drop (off + cys.length)).getD i undef) := by
  intro i v hi
  unfold putAt at hi
  rw [splice_get hle] at hi
  rw [List.getD_eq_getElem?_getD, splice_get (by omega)]
  rw [hy] at hi
  split at hi <;> rename_i c
  · rw [if_pos c, ← List.getD_eq_getElem?_getD]; exact h1 i v hi
  · rw [if_neg c]
    split at hi <;> rename_i c'
    · rw [if_pos c', ← List.getD_eq_getElem?_getD]; exact h2 _ v hi
    · rw [if_neg c', ← List.getD_eq_getElem?_getD]; exact h1 i v hi
theorem putC_one {cs ys : List Value} {off : Nat} (h1 : ∀ c ∈ cs, c.oneCell' = true) (h2 : ∀ c ∈ ys, c.oneCell' = true) : ∀ c ∈ cs.take off ++ ys ++ cs.drop (off + ys.length), c.oneCell' = true := by
  intro c hc
  simp only [List.mem_append] at hc
  rcases hc with (hc | hc) | hc
  · exact h1 c (List.mem_of_mem_take hc)
  · exact h2 c hc
  · exact h1 c (List.mem_of_mem_drop hc)
theorem run_storeVar {t e : TypeId} {k : Nat} (hs : szT P t = some k) {g off : Nat} {cur : Array Value} (hg : w.heap[g]? = some (.cells cur e (0, 0))) {u : Value} (hu : u.cells.size = k) (hle : off + k ≤ cur.size) (h1 : ∀ c ∈ u.cells.toList, c.oneCell' = true) :
    (storeVar t ⟨g, off, none⟩ u).run P w = .ok () (w.setRow g (cur.toList.take off ++ u.cells.toList ++ cur.toList.drop (off + u.cells.toList.length)).toArray) := by
  have h2 := run_storeCells_at P g off e u.cells.toList 0 cur w hg (by simp only [Array.length_toList]; omega) h1
  simp only [Nat.add_zero] at h2
  simp [storeVar, run_sizeOf hs, hu, h2]
/-- Behind a write into the block of one object. -/
theorem after_write (hm : Mem C h w M ι) {n g : Nat} {ob ob' : Ob} (hn : h n = some ob) (hg : blk (ι n) = some g) (cs : Array Value)
    (hk : Keeps h (hupd h n ob') ι (iupd ι n (ι n))) (hob : ∀ {h' : Nat → Option Ob} {ι' : Nat → Value}, Keeps h h' ι ι' → ι' n = ι n → (∀ b, M b → (w.setRow g cs).heap[b]? = w.heap[b]?) → obR M (w.setRow g cs) ι' h' n ob')
    (hpin : 1000 ≤ n → (∀ t c, ob' = .box t c → ι n = C.ι0 n) ∧ ∀ es, ob' = .mp es → ι n = C.ι0 n) :
    After C h w M ι (hupd h n ob') .any undef (w.setRow g cs) := by
  have hMw : ∀ b, M b → (w.setRow g cs).heap[b]? = w.heap[b]? := fun b hb => setRow_other w g b cs (fun e => hm.imm n g (by rw [hn]; rfl) hg (e ▸ hb))
  obtain ⟨h1, h2⟩ := hm.step n ob' (ι n) (w.setRow g cs) (by simp) rfl rfl rfl (fun k _ hk' => setRow_other w g k cs (fun e => hk' ob hn (e ▸ hg))) (fun g' hg' => .inl ⟨ob, hn, hg'⟩) hk (hob hk (iupd_same _ _ _) hMw) (fun _ => by rw [hn]; rfl) hpin
  exact ⟨M, _, h1, .pur (.any _), fun _ hb => hb, h2, hk⟩
theorem sim_store {t : TypeId} {x0 y0 : Operand} {x y : AE} {k : Nat} (ho : o.op = .store t x0 y0) (hs : szT P t = some k) (hm : Mem C h w M ι) (hx : Rel M w ι h (E x) (a.eval x0)) (hy : Rel M w ι h (E y) (a.eval y0)) :
    Sim P G C h w M ι o a E d (.store k x y) := by
  unfold Sim aeval evStore
  dsimp only
  generalize hEx : E x = ex at hx
  generalize hEy : E y = ey at hy
  cases ex with
  | ptr n off =>
    dsimp only
    obtain ⟨b, t', cells, hn, hb, e⟩ := hx.ptr_inv
    rw [hn]
    intro hφ
    obtain ⟨q1, q2, q3⟩ := hφ
    obtain ⟨b', cs, e', hh, hl, hc1, hcr⟩ := hm.obj n _ hn
    rw [hb] at e'
    injection e' with e'; injection e' with e'; injection e' with e'
    subst e'
    obtain ⟨y1, y2, y3⟩ := hy.cells q1
    have hst := run_storeVar (P := P) hs hh (u := a.eval y0) (by rw [← y1]; exact q2) (off := off) (by rw [← hl]; exact q3) y2
    refine .skip (w' := w.setRow b (cs.toList.take off ++ (a.eval y0).cells.toList ++ cs.toList.drop (off + (a.eval y0).cells.toList.length)).toArray) (by
      simp only [execOp, ho, e, Instr.storeAt, Instr.sureAddr, Sem.run_bind, Sem.run_pure, Result.andThen_ok]; rw [hst]; rfl) ?_
    refine after_write hm hn (by rw [hb]; rfl) _ (.put hn (.inl ⟨t', cells, _, rfl, rfl, rfl⟩)) (fun {h' ι'} hk hi hMw => ?_) (fun h1000 => ⟨fun t c _ => (hm.pin n h1000).1 t' cells hn, fun es he => by cases he⟩)
    refine ⟨b, _, hi.trans hb, setRow_heap w b cs _ t' _ hh, ?_, ?_, ?_⟩
    · rw [putAt_length (by omega)]
      simp only [List.size_toArray, List.length_append, List.length_take, List.length_drop, Array.length_toList]
      omega
    · exact putC_one (off := off) hc1 y2
    · intro i v hi'
      have := putAt_rel (R := Rel M w ι h) (ccs := cs.toList) (cys := (a.eval y0).cells.toList) (by simpa using hl) (by simpa using y1) (by omega) (fun i v h1 => by simpa using hcr i v h1) (fun i v h1 => by simpa using y3 i v h1) i v hi'
      have := this.keep (fun _ hb => hb) hMw hk
      simpa using this
  | eptr n len i off =>
    dsimp only
    obtain ⟨t', sz, rows, hn, hle, _, hv⟩ := hx.eptr_inv
    rw [hn]
    intro hφ
    obtain ⟨q1, q2, q3, q4, q5⟩ := hφ
    obtain ⟨g, cap, hg, e⟩ := hv q3
    obtain ⟨xs, hown, hrl, hx1, hxr⟩ := hm.obj n _ hn
    obtain ⟨y1, y2, y3⟩ := hy.cells q1
    rcases hown.2 with ⟨e', _⟩ | ⟨g', cap', cur, e', _, hh, hnc, hcm, hcs, htk⟩
    · rw [hg] at e'; cases e'
    · rw [hg] at e'
      injection e' with e1 e2 e3; injection e1 with e1; injection e1 with e1
      subst e1
      have hik : i * sz + sz ≤ rows.length * sz := by rw [← Nat.succ_mul]; exact Nat.mul_le_mul_right _ (by omega)
      have hcap : rows.length * sz ≤ cur.size := by rw [hcs]; exact Nat.mul_le_mul_right _ hnc
      have hst := run_storeVar (P := P) hs hh (u := a.eval y0) (by rw [← y1]; exact q2) (off := i * sz + off) (by omega) y2
      refine .skip (w' := w.setRow g (cur.toList.take (i * sz + off) ++ (a.eval y0).cells.toList ++ cur.toList.drop (i * sz + off + (a.eval y0).cells.toList.length)).toArray) (by
        simp only [execOp, ho, e, Instr.storeAt, Instr.sureAddr, Sem.run_bind, Sem.run_pure, Result.andThen_ok]; rw [hst]; rfl) ?_
      refine after_write hm hn (by rw [hg]; rfl) _ (.put hn (.inr (.inl ⟨t', sz, rows, _, rfl, rfl, by rw [List.length_set]; exact Nat.le_refl _, fun _ => rfl⟩))) (fun {h' ι'} hk hi hMw => ?_) (fun h1000 => ⟨fun t c he => (by cases he), fun es he => by cases he⟩)
      have hri : rows[i]? = some (rows.getD i []) := getD_of_lt [] (by omega)
      have hrlen : (rows.getD i []).length = sz := hrl _ (List.mem_of_getElem? hri)
      have hxl : xs.length = rows.length * sz := hown.1
      refine ⟨xs.take (i * sz + off) ++ (a.eval y0).cells.toList ++ xs.drop (i * sz + off + (a.eval y0).cells.toList.length), ?_, ?_, putC_one hx1 y2, ?_⟩
      · rw [hi, hg, List.length_set, q3]
        refine ⟨?_, .inr ⟨g, cap, _, rfl, Nat.zero_le _, setRow_heap w g cur _ t' _ hh, by rw [← e2] at hnc; omega, by rw [← e3] at hcm; exact hcm, ?_, ?_⟩⟩
        · simp only [List.length_append, List.length_take, List.length_drop, Array.length_toList, hxl, ← q3]
          omega
        · rw [e3, ← hcs]
          simp only [List.size_toArray, List.length_append, List.length_take, List.length_drop, Array.length_toList]
          omega
        · have hl1 : (a.eval y0).cells.toList.length = k := by rw [Array.length_toList, ← y1]; exact q2
          have hcl : cur.toList.length = cur.size := Array.length_toList
          apply List.ext_getElem?
          intro j
          rw [List.getElem?_take, ← q3, splice_get (by omega), splice_get (by omega)]
          have hx : ∀ j, xs[j]? = if j < rows.length * sz then cur.toList[j]? else none := fun j => by rw [← htk, List.getElem?_take]
          rw [hx]
          by_cases c0 : j < rows.length * sz
          · rw [if_pos c0, if_pos c0]
          · rw [if_neg c0, if_neg (by omega), if_neg (by omega), if_neg c0]
      · intro r hr
        rcases List.mem_or_eq_of_mem_set hr with hr | rfl
        · exact hrl r hr
        · rw [putAt_length (by omega)]; exact hrlen
      · intro i' j r v h1 h2
        refine Rel.keep (fun _ hb => hb) hMw hk (?_ : Rel M w ι h v _)
        rw [List.getD_eq_getElem?_getD]
        have hl1 : (a.eval y0).cells.toList.length = k := by rw [Array.length_toList, ← y1]; exact q2
        rw [splice_get (by omega), hl1]
        by_cases c : i' = i
        · subst c
          rw [List.getElem?_set_self (by omega)] at h1
          injection h1 with h1
          subst h1
          unfold putAt at h2
          rw [splice_get (by omega), q2] at h2
          split at h2 <;> rename_i c1
          · rw [if_pos (by omega), ← List.getD_eq_getElem?_getD]; exact hxr i' j _ v hri h2
          · rw [if_neg (by omega)]
            split at h2 <;> rename_i c2
            · rw [if_pos (by omega), show i' * sz + j - (i' * sz + off) = j - off by omega]
              have := y3 _ v h2
              simpa using this
            · rw [if_neg (by omega), ← List.getD_eq_getElem?_getD]; exact hxr i' j _ v hri h2
        · rw [List.getElem?_set_ne (Ne.symm c)] at h1
          have hj : j < sz := by have := (List.getElem?_eq_some_iff.1 h2).1; rw [hrl r (List.mem_of_getElem? h1)] at this; exact this
          have base := hxr i' j r v h1 h2
          rw [List.getD_eq_getElem?_getD] at base
          have hout : i' * sz + j < i * sz + off ∨ ¬ i' * sz + j < i * sz + off + k := by
            rcases Nat.lt_or_gt_of_ne c with c | c
            · have hb2 : i' * sz + sz ≤ i * sz := by rw [← Nat.succ_mul]; exact Nat.mul_le_mul_right _ c
              omega
            · have hb2 : i * sz + sz ≤ i' * sz := by rw [← Nat.succ_mul]; exact Nat.mul_le_mul_right _ c
              omega
          rcases hout with c1 | c1
          · rw [if_pos c1]; exact base
          · rw [if_neg (by omega), if_neg c1]; exact base
  | _ => exact fun hφ => hφ.elim
end
end Go.Proofs.YtcongikpaonliaaDoor
