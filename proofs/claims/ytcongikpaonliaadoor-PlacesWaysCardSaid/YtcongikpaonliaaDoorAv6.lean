/- Operations that compute: indices, lengths, arithmetic. -/
import Derived.Test.YtcongikpaonliaaDoorAv5
namespace Go.Proofs.YtcongikpaonliaaDoor
open Go Go.RowKit
set_option linter.unusedSimpArgs false
set_option linter.unusedVariables false
set_option linter.deprecated false
section
variable {P : Program} {U : Tbl} {C : Ctx U} {h : Nat → Option Ob} {w : World} {M : Nat → Prop} {ι : Nat → Value} {o : Oper} {a : Act} {E : AE → V} {G : Tab} {d : Nat}
theorem bsize (l : List UInt8) : (⟨l.toArray⟩ : ByteArray).size = l.length := by simp [ByteArray.size]
theorem sim_idx {t e : TypeId} {x0 i0 : Operand} {x i : AE} {sz : Nat} (ho : o.op = .indexAddr t x0 i0) (ht : P.underlying t = some (.slice e)) (hs : szT P e = some sz) (hm : Mem C h w M ι)
    (hx : Rel M w ι h (E x) (a.eval x0)) (hi : Rel M w ι h (E i) (a.eval i0)) : Sim P G C h w M ι o a E d (.idx sz x i) := by
  unfold Sim aeval evIdx
  dsimp only
  split
  · rename_i rows fit n e1 e2
    rw [e1] at hx
    rw [e2] at hi
    intro hφ
    obtain ⟨h0, h1, h2⟩ := hφ
    have hlt : n.toNat < rows.length := by omega
    obtain ⟨y, cap, g, off, sz', hcv, _, _, _, hne, hr, f, hc, hv⟩ := hx.list_inv
    have hg := getD_of_lt [] hlt
    have hsz : sz' = sz := by rw [← h2]; exact (hr _ (List.mem_of_getElem? hg)).symm
    subst hsz
    rcases hne with rfl | ⟨rfl, hM⟩
    · exact absurd hlt (Nat.not_lt_zero _)
    · refine .run (cv := .pointer (some ⟨g, off + n.toNat * sz' + 0, none⟩)) (w' := w) ?_ (After.same hm (.pur (.row _ 0 g (off + n.toNat * sz') (f n.toNat) hM (fun j hj => hc _ _ hlt (by rw [← h2]; exact hj)) (fun j v hj => hv _ _ _ _ hg hj))))
      simp [execOp, ho, hcv, hi.int_inv, Instr.indexAt, run_underlying ht, asIntOf, h0, h1, run_sizeOf hs, addr_add]
  · rename_i n len q e1 e2
    rw [e1] at hx
    rw [e2] at hi
    obtain ⟨t', sz', rows, hn, hle, hv⟩ := hx.own_inv
    rw [hn]
    intro hφ
    obtain ⟨h0, h1, h2, h3⟩ := hφ
    subst h2
    obtain ⟨xs, hown, _⟩ := hm.obj n _ hn
    have hcv := hv h3
    rcases hown.2 with ⟨e, hz⟩ | ⟨g, cap, cur, e, _⟩
    · rw [h3] at hz; omega
    · rw [e] at hcv
      refine .run (cv := .pointer (some ⟨g, q.toNat * sz' + 0, none⟩)) (w' := w) ?_ (After.same hm (.eptr n len q.toNat 0 t' sz' rows _ hn hle rfl (fun _ => ⟨g, cap, by rw [e, h3], rfl⟩)))
      simp [execOp, ho, hcv, hi.int_inv, Instr.indexAt, run_underlying ht, asIntOf, h0, show q < rows.length by omega, run_sizeOf hs, addr_add]
  · exact fun hφ => hφ.elim
theorem sim_sidx {t : TypeId} {x0 i0 : Operand} {x i : AE} (ho : o.op = .index t x0 i0) (ht : P.underlying t = some .string) (hm : Mem C h w M ι)
    (hx : Rel M w ι h (E x) (a.eval x0)) (hi : Rel M w ι h (E i) (a.eval i0)) : Sim P G C h w M ι o a E d (.sidx x i) := by
  unfold Sim aeval
  dsimp only
  split
  · rename_i s n e1 e2
    rw [e1] at hx
    rw [e2] at hi
    intro hφ
    obtain ⟨h0, h1⟩ := hφ
    have hlt : n.toNat < s.length := by omega
    refine .run (cv := .int .u8 ((s.getD n.toNat 0).toNat)) (w' := w) ?_ (After.same hm (.pur (.int _ _)))
    have hg : (⟨s.toArray⟩ : ByteArray)[n.toNat]? = some (s.getD n.toNat 0) := by
      rw [getElem?_pos (⟨s.toArray⟩ : ByteArray) n.toNat (by rw [bsize]; exact hlt), List.getD_eq_getElem?_getD, List.getElem?_eq_getElem hlt]; rfl
    simp [execOp, ho, hx.str_inv, hi.int_inv, Instr.index, run_underlying ht, asIntOf, h0, hg]
  · exact fun hφ => hφ.elim
theorem sim_nchk {x0 : Operand} {x : AE} (ho : o.op = .nilCheck x0) (hm : Mem C h w M ι) (hx : Rel M w ι h (E x) (a.eval x0)) : Sim P G C h w M ι o a E d (.nchk x) := by
  unfold Sim aeval
  dsimp only
  split
  · rename_i n q e1
    rw [e1] at hx
    intro _
    obtain ⟨b, t', cells, hn, hb, e⟩ := hx.ptr_inv
    refine .run (cv := a.eval x0) (w' := w) ?_ (After.same hm hx)
    simp [execOp, ho, e]
  · rename_i vs q e1
    rw [e1] at hx
    intro _
    obtain ⟨g, p, e, _⟩ := hx.row_inv
    refine .run (cv := a.eval x0) (w' := w) ?_ (After.same hm hx)
    simp [execOp, ho, e]
  · rename_i n len i q e1
    rw [e1] at hx
    obtain ⟨t', sz', rows, hn, hle, hs, hv⟩ := hx.eptr_inv
    rw [hn]
    intro hφ
    obtain ⟨g, cap, _, e⟩ := hv hφ
    refine .run (cv := a.eval x0) (w' := w) ?_ (After.same hm hx)
    simp [execOp, ho, e]
  · rename_i f c e1
    rw [e1] at hx
    intro _
    obtain ⟨cs, e, _⟩ := hx.fn_inv
    refine .run (cv := a.eval x0) (w' := w) ?_ (After.same hm hx)
    simp [execOp, ho, e]
  · exact fun hφ => hφ.elim
theorem sim_len {t : TypeId} {x0 : Operand} {x : AE} {args : Array Operand} (ho : o.op = .call { callee := .builtin .len, args, argTypes := #[t] }) (ha : args = #[x0])
    {e' : TypeId} (he : P.underlying t = some (.slice e'))
    (hm : Mem C h w M ι) (hx : Rel M w ι h (E x) (a.eval x0)) : Sim P G C h w M ι o a E d (.len x) := by
  have fin : ∀ (n : Nat) (p : Option Addr) (c : Nat), a.eval x0 = .slice p n c → Does P o a w (After C h w M ι h (.int .i64 n)) := by
    intro n p c e
    refine .run (cv := .int .i64 n) (w' := w) ?_ (After.same hm (.pur (.int _ _)))
    simp [execOp, ho, ha, e, resolve, invoke, builtin, Builtin.len_, run_underlying he, goInt]
  unfold Sim aeval evLenO
  dsimp only
  split
  · rename_i n len e1
    rw [e1] at hx
    obtain ⟨t', sz', rows, hn, hle, hv⟩ := hx.own_inv
    rw [hn]
    intro hφ
    replace hφ : rows.length = len := hφ
    obtain ⟨xs, hown, _⟩ := hm.obj n _ hn
    have hcv := hv hφ
    rcases hown.2 with ⟨e, hz⟩ | ⟨g, cap, cur, e, _⟩
    · rw [e] at hcv
      have := fin 0 _ _ hcv
      rw [hφ] at hz
      subst hz
      exact this
    · rw [e, hφ] at hcv
      exact fin _ _ _ hcv
  · rename_i v _
    generalize hEx : E x = ex at hx
    unfold evLen
    cases ex with
    | list rows fit =>
      intro _
      obtain ⟨y, cap, g, off, sz', hcv, _⟩ := hx.list_inv
      exact fin _ _ _ hcv
    | nils => exact fun _ => fin 0 _ _ hx.nils_inv
    | _ => exact fun hφ => hφ.elim
theorem sim_slen {t : TypeId} {x0 : Operand} {x : AE} {args : Array Operand} (ho : o.op = .call { callee := .builtin .len, args, argTypes := #[t] }) (ha : args = #[x0]) (ht : P.underlying t = some .string)
    (hm : Mem C h w M ι) (hx : Rel M w ι h (E x) (a.eval x0)) : Sim P G C h w M ι o a E d (.slen x) := by
  unfold Sim aeval
  dsimp only
  split
  · rename_i s e1
    rw [e1] at hx
    intro _
    refine .run (cv := .int .i64 s.length) (w' := w) ?_ (After.same hm (.pur (.int _ _)))
    simp [execOp, ho, ha, hx.str_inv, resolve, invoke, builtin, Builtin.len_, run_underlying ht, goInt, bsize]
  · exact fun hφ => hφ.elim
theorem run_bin {op : BinOp} {t t2 : TypeId} {x0 y0 : Operand} (ho : o.op = .binOp op t x0 y0 t2) {u v r : Value} (hu : a.eval x0 = u) (hv : a.eval y0 = v) (hg : eqGuard op t x0 y0 u v = pure ()) (hr : (binOp op t u v).run P w = .ok r w) :
    (execOp a.eval o).run P w = .ok (.value r) w := by
  simp [execOp, ho, hu, hv, hg, hr]
theorem i64_fit {n : Int} (h : inI n) : IntKind.i64.wrap n = n := IntWalk.i64_in _ h
theorem str_eq (a b : List UInt8) : ((⟨a.toArray⟩ : ByteArray).toList == (⟨b.toArray⟩ : ByteArray).toList) = decide (a = b) := by
  rw [ByteArray.toList_mk, ByteArray.toList_mk]
  by_cases e : a = b <;> simp [e]
theorem bin_int {op : BinOp} {t t2 : TypeId} {x0 y0 : Operand} {k k' : IntKind} {p q : Int} (ho : o.op = .binOp op t x0 y0 t2) (hm : Mem C h w M ι) (hx : Rel M w ι h (.int k p) (a.eval x0)) (hy : Rel M w ι h (.int k' q) (a.eval y0)) :
    (evInt op k k' p q).φ → Does P o a w (After C h w M ι (hupds h (evInt op k k' p q).w) (evInt op k k' p q).v) := by
  have fin : ∀ {r : Value} {rv : V}, k' = k → (binOp op t (.int k p) (.int k q)).run P w = .ok r w → Pur M w rv r → Does P o a w (After C h w M ι h rv) := by
    intro r rv hk hr hp
    subst hk
    exact .run (run_bin ho hx.int_inv hy.int_inv (eqGuard_at_int _ _ _ _ _ _ _) hr) (After.same hm (.pur hp))
  unfold evInt
  split
  · rename_i hk
    subst hk
    cases op with
    | add => exact fun hφ => fin rfl (r := .int k (p + q)) (by rw [binOp_add]; simp [Op.intArith, show k.wrap (p + q) = p + q from hφ]) (.int _ _)
    | sub => exact fun hφ => fin rfl (r := .int k (p - q)) (by rw [binOp_sub]; simp [Op.intArith, show k.wrap (p - q) = p - q from hφ]) (.int _ _)
    | mul => exact fun hφ => fin rfl (r := .int k (p * q)) (by rw [binOp_mul]; simp [Op.intArith, show k.wrap (p * q) = p * q from hφ]) (.int _ _)
    | quo =>
      rintro ⟨h1, h2, h3⟩
      exact fin rfl (r := .int k (p / q)) (by rw [binOp_quo, Op.intDiv, if_neg (by omega)]; simp [Int.tdiv_eq_ediv_of_nonneg h1, show k.wrap (p / q) = p / q from h3]) (.int _ _)
    | rem =>
      rintro ⟨h1, h2⟩
      exact fin rfl (r := .int k (p % q)) (by rw [binOp_rem, Op.intDiv, if_neg (by omega)]; simp [IntWalk.rem_in p q h1]) (.int _ _)
    | eql => exact fun hφ => fin rfl (r := .bool (decide (p = q))) (by rw [binOp_eql]; rfl) (.bool _)
    | neq => exact fun hφ => fin rfl (r := .bool (!decide (p = q))) (by rw [binOp_neq]; rfl) (.bool _)
    | lss => exact fun hφ => fin rfl (r := .bool (decide (p < q))) (by rw [binOp_lss]; rfl) (.bool _)
    | leq => exact fun hφ => fin rfl (r := .bool (decide (p ≤ q))) (by rw [binOp_leq]; rfl) (.bool _)
    | gtr => exact fun hφ => fin rfl (r := .bool (decide (q < p))) (by rw [binOp_gtr]; rfl) (.bool _)
    | geq => exact fun hφ => fin rfl (r := .bool (decide (q ≤ p))) (by rw [binOp_geq]; rfl) (.bool _)
    | _ => exact fun hφ => hφ.elim
  · exact fun hφ => hφ.elim
theorem sim_bin {op : BinOp} {t t2 : TypeId} {x0 y0 : Operand} {x y : AE} (ho : o.op = .binOp op t x0 y0 t2) (hm : Mem C h w M ι) (hx : Rel M w ι h (E x) (a.eval x0)) (hy : Rel M w ι h (E y) (a.eval y0)) :
    Sim P G C h w M ι o a E d (.bin op x y) := by
  have fin : ∀ {u v r : Value} {rv : V}, a.eval x0 = u → a.eval y0 = v → (∀ x1 y1, eqGuard op t x1 y1 u v = pure ()) → (binOp op t u v).run P w = .ok r w → Pur M w rv r → Does P o a w (After C h w M ι h rv) := by
    intro u v r rv hu hv hg hr hp
    exact .run (run_bin ho hu hv (hg _ _) hr) (After.same hm (.pur hp))
  unfold Sim aeval evBin
  dsimp only
  split
  case h_1 p q e1 e2 =>
    rw [e1] at hx; rw [e2] at hy
    intro hφ
    exact fin hx.int_inv hy.int_inv (fun _ _ => eqGuard_at_int _ _ _ _ _ _ _) (r := .int .i64 (p + q)) (by rw [binOp_add]; simp [Op.intArith, i64_fit hφ]) (.int _ _)
  case h_2 p q e1 e2 =>
    rw [e1] at hx; rw [e2] at hy
    intro hφ
    exact fin hx.int_inv hy.int_inv (fun _ _ => eqGuard_at_int _ _ _ _ _ _ _) (r := .int .i64 (p - q)) (by rw [binOp_sub]; simp [Op.intArith, i64_fit hφ]) (.int _ _)
  case h_3 p q e1 e2 =>
    rw [e1] at hx; rw [e2] at hy
    intro hφ
    exact fin hx.int_inv hy.int_inv (fun _ _ => eqGuard_at_int _ _ _ _ _ _ _) (r := .int .i64 (p * q)) (by rw [binOp_mul]; simp [Op.intArith, i64_fit hφ]) (.int _ _)
  case h_4 p q e1 e2 =>
    rw [e1] at hx; rw [e2] at hy
    intro hφ
    exact fin hx.int_inv hy.int_inv (fun _ _ => eqGuard_at_int _ _ _ _ _ _ _) (r := .int .i64 (p.tdiv q)) (by rw [binOp_quo, Op.intDiv, if_neg hφ.1]; simp [i64_fit hφ.2]) (.int _ _)
  case h_5 p q e1 e2 =>
    rw [e1] at hx; rw [e2] at hy
    intro hφ
    exact fin hx.int_inv hy.int_inv (fun _ _ => eqGuard_at_int _ _ _ _ _ _ _) (r := .int .i64 (p.tmod q)) (by rw [binOp_rem, Op.intDiv, if_neg hφ]; rfl) (.int _ _)
  case h_6 p q e1 e2 =>
    rw [e1] at hx; rw [e2] at hy
    intro hφ
    exact fin hx.int_inv hy.int_inv (fun _ _ => eqGuard_at_int _ _ _ _ _ _ _) (r := .bool (decide (p = q))) (by rw [binOp_eql]; rfl) (.bool _)
  case h_7 p q e1 e2 =>
    rw [e1] at hx; rw [e2] at hy
    intro hφ
    exact fin hx.int_inv hy.int_inv (fun _ _ => eqGuard_at_int _ _ _ _ _ _ _) (r := .bool (!decide (p = q))) (by rw [binOp_neq]; rfl) (.bool _)
  case h_8 p q e1 e2 =>
    rw [e1] at hx; rw [e2] at hy
    intro hφ
    exact fin hx.int_inv hy.int_inv (fun _ _ => eqGuard_at_int _ _ _ _ _ _ _) (r := .bool (decide (p < q))) (by rw [binOp_lss]; rfl) (.bool _)
  case h_9 p q e1 e2 =>
    rw [e1] at hx; rw [e2] at hy
    intro hφ
    exact fin hx.int_inv hy.int_inv (fun _ _ => eqGuard_at_int _ _ _ _ _ _ _) (r := .bool (decide (p ≤ q))) (by rw [binOp_leq]; rfl) (.bool _)
  case h_10 p q e1 e2 =>
    rw [e1] at hx; rw [e2] at hy
    intro hφ
    exact fin hx.int_inv hy.int_inv (fun _ _ => eqGuard_at_int _ _ _ _ _ _ _) (r := .bool (decide (q < p))) (by rw [binOp_gtr]; rfl) (.bool _)
  case h_11 p q e1 e2 =>
    rw [e1] at hx; rw [e2] at hy
    intro hφ
    exact fin hx.int_inv hy.int_inv (fun _ _ => eqGuard_at_int _ _ _ _ _ _ _) (r := .bool (decide (q ≤ p))) (by rw [binOp_geq]; rfl) (.bool _)
  case h_12 p q e1 e2 =>
    rw [e1] at hx; rw [e2] at hy
    intro hφ
    exact fin hx.int_inv hy.int_inv (fun _ _ => eqGuard_at_int _ _ _ _ _ _ _) (r := .bool (decide (p = q))) (by rw [binOp_eql]; rfl) (.bool _)
  case h_13 p q e1 e2 =>
    rw [e1] at hx; rw [e2] at hy
    intro hφ
    exact fin hx.int_inv hy.int_inv (fun _ _ => eqGuard_at_int _ _ _ _ _ _ _) (r := .bool (!decide (p = q))) (by rw [binOp_neq]; rfl) (.bool _)
  case h_14 p q e1 e2 =>
    rw [e1] at hx; rw [e2] at hy
    intro hφ
    exact fin hx.int_inv hy.int_inv (fun _ _ => eqGuard_at_int _ _ _ _ _ _ _) (r := .bool (decide (p < q))) (by rw [binOp_lss]; rfl) (.bool _)
  case h_15 p q e1 e2 =>
    rw [e1] at hx; rw [e2] at hy
    intro hφ
    exact fin hx.int_inv hy.int_inv (fun _ _ => eqGuard_at_int _ _ _ _ _ _ _) (r := .bool (decide (p ≤ q))) (by rw [binOp_leq]; rfl) (.bool _)
  case h_16 p q e1 e2 =>
    rw [e1] at hx; rw [e2] at hy
    intro hφ
    exact fin hx.int_inv hy.int_inv (fun _ _ => eqGuard_at_int _ _ _ _ _ _ _) (r := .bool (decide (q < p))) (by rw [binOp_gtr]; rfl) (.bool _)
  case h_17 p q e1 e2 =>
    rw [e1] at hx; rw [e2] at hy
    intro hφ
    exact fin hx.int_inv hy.int_inv (fun _ _ => eqGuard_at_int _ _ _ _ _ _ _) (r := .bool (decide (q ≤ p))) (by rw [binOp_geq]; rfl) (.bool _)
  case h_18 p q e1 e2 =>
    rw [e1] at hx; rw [e2] at hy
    intro hφ
    refine fin hx.str_inv hy.str_inv (fun _ _ => eqGuard_at_string _ _ _ _ _ _) (r := .string ⟨(p ++ q).toArray⟩) ?_ (.str _)
    have hlen : ((p.length + q.length : Nat) : Int) ≤ 9223372036854775807 := by replace hφ : (p ++ q).length ≤ 140737488355328 := hφ; rw [List.length_append] at hφ; omega
    have happ : (⟨p.toArray⟩ : ByteArray) ++ (⟨q.toArray⟩ : ByteArray) = ⟨(p ++ q).toArray⟩ := by apply ByteArray.ext; simp
    simp only [binOp, Op.stringOp, bsize, IntKind.max_i64]
    rw [if_neg (by omega), happ]
    rfl
  case h_19 p q e1 e2 =>
    rw [e1] at hx; rw [e2] at hy
    intro hφ
    refine fin hx.str_inv hy.str_inv (fun _ _ => eqGuard_at_string _ _ _ _ _ _) (r := .bool (decide (p = q))) ?_ (.bool _)
    simp only [binOp, Op.stringOp, str_eq]
    rfl
  case h_20 p q e1 e2 =>
    rw [e1] at hx; rw [e2] at hy
    intro hφ
    refine fin hx.str_inv hy.str_inv (fun _ _ => eqGuard_at_string _ _ _ _ _ _) (r := .bool (!decide (p = q))) ?_ (.bool _)
    simp only [binOp, Op.stringOp, str_eq]
    rfl
  case h_21 =>
    rename_i e1 e2
    rw [e1] at hx; rw [e2] at hy
    exact bin_int ho hm hx hy
  case h_22 => exact fun hφ => hφ.elim
theorem sim_binb {op : BinOp} {t t2 : TypeId} {x0 y0 : Operand} {x y : AE} (ho : o.op = .binOp op t x0 y0 t2) (hbt : P.underlying t = some .bool) (hm : Mem C h w M ι) (hx : Rel M w ι h (E x) (a.eval x0)) (hy : Rel M w ι h (E y) (a.eval y0)) :
    Sim P G C h w M ι o a E d (.binb op x y) := by
  have fin : ∀ {u v r : Value} {rv : V}, a.eval x0 = u → a.eval y0 = v → (∀ x1 y1, eqGuard op t x1 y1 u v = pure ()) → (binOp op t u v).run P w = .ok r w → Pur M w rv r → Does P o a w (After C h w M ι h rv) := by
    intro u v r rv hu hv hg hr hp
    exact .run (run_bin ho hu hv (hg _ _) hr) (After.same hm (.pur hp))
  unfold Sim aeval evBinB
  dsimp only
  split
  case h_1 p q e1 e2 =>
    rw [e1] at hx; rw [e2] at hy
    intro hφ
    refine fin hx.bool_inv hy.bool_inv (fun _ _ => eqGuard_at_bool _ _ _ _ _ _) (r := .bool (p == q)) ?_ (.bool _)
    simp only [binOp, Op.equal, Op.maxDepth, Sem.run_bind, run_equalIn_bool' (P := P) w 9999 t p q hbt]
    rfl
  case h_2 p q e1 e2 =>
    rw [e1] at hx; rw [e2] at hy
    intro hφ
    refine fin hx.bool_inv hy.bool_inv (fun _ _ => eqGuard_at_bool _ _ _ _ _ _) (r := .bool (p != q)) ?_ (.bool _)
    simp only [binOp, Op.equal, Op.maxDepth, Sem.run_bind, run_equalIn_bool' (P := P) w 9999 t p q hbt]
    rfl
  case h_3 => exact fun hφ => hφ.elim
theorem sim_bina {op : BinOp} {t t2 : TypeId} {x0 y0 : Operand} {x y : AE} {ks : List LK} (ho : o.op = .binOp op t x0 y0 t2) (hf : flatT P 8 t = some ks) (hag : aggT P t = some true) (hgt : P.eqGuardType P.depth t = false) (hm : Mem C h w M ι) (hx : Rel M w ι h (E x) (a.eval x0)) (hy : Rel M w ι h (E y) (a.eval y0)) :
    Sim P G C h w M ι o a E d (.bina ks op x y) := by
  have key : ∀ {p q : List V}, E x = .agg p → E y = .agg q → fitKs ks p = true → fitKs ks q = true → a.eval x0 = .agg (p.map toC).toArray ∧ a.eval y0 = .agg (q.map toC).toArray ∧ (Op.equalIn 10000 t (.agg (p.map toC).toArray) (.agg (q.map toC).toArray)).run P w = .ok (eqVs p q) w := by
    intro p q e1 e2 f1 f2
    rw [e1] at hx; rw [e2] at hy
    obtain ⟨cs, h1, h2, _, h4⟩ := hx.agg_inv
    obtain ⟨ds, h5, h6, _, h8⟩ := hy.agg_inv
    have c1 := fit_cells f1 h2 h4
    have c2 := fit_cells f2 h6 h8
    subst c1 c2
    exact ⟨h1, h5, flat_agg (d := 7) (e := 9992) hf hag f1 f2⟩
  unfold Sim aeval evBinA
  dsimp only
  split
  case h_1 p q e1 e2 =>
    rintro ⟨f1, f2⟩
    obtain ⟨k1, k2, k3⟩ := key e1 e2 f1 f2
    refine .run (cv := .bool (eqVs p q)) (w' := w) ?_ (After.same hm (.pur (.bool _)))
    simp only [execOp, ho, k1, k2, Sem.run_bind, run_eqGuard_agg w _ _ _ _ _ _ hgt, Result.andThen_ok, run_eql_struct, k3]
    rfl
  case h_2 p q e1 e2 =>
    rintro ⟨f1, f2⟩
    obtain ⟨k1, k2, k3⟩ := key e1 e2 f1 f2
    refine .run (cv := .bool (!eqVs p q)) (w' := w) ?_ (After.same hm (.pur (.bool _)))
    simp only [execOp, ho, k1, k2, Sem.run_bind, run_eqGuard_agg w _ _ _ _ _ _ hgt, Result.andThen_ok, run_neq_struct, k3]
    rfl
  case h_3 => exact fun hφ => hφ.elim
theorem sim_un {op : UnOp} {t : TypeId} {x0 : Operand} {x : AE} (ho : o.op = .unOp op t x0) (hm : Mem C h w M ι) (hx : Rel M w ι h (E x) (a.eval x0)) : Sim P G C h w M ι o a E d (.un op x) := by
  unfold Sim aeval evUn
  dsimp only
  split
  · rename_i b e1
    rw [e1] at hx
    intro _
    refine .run (cv := .bool (!b)) (w' := w) ?_ (After.same hm (.pur (.bool _)))
    simp [execOp, ho, hx.bool_inv, Op.unary]
  · rename_i n e1
    rw [e1] at hx
    intro hφ
    refine .run (cv := .int .i64 (-n)) (w' := w) ?_ (After.same hm (.pur (.int _ _)))
    have := i64_fit hφ
    simp [execOp, ho, hx.int_inv, Op.unary, Op.intArith, this]
  · exact fun hφ => hφ.elim
end
end Go.Proofs.YtcongikpaonliaaDoor
