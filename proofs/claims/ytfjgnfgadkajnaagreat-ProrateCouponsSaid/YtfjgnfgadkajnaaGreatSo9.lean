/- sort.SliceStable of an order of rests. -/
import Derived.Test.YtfjgnfgadkajnaaGreatSo8
import Derived.Test.YtfjgnfgadkajnaaGreatShelf
namespace Go.Proofs.YtfjgnfgadkajnaaGreat
open Go Go.RowKit
set_option linter.unusedSimpArgs false
set_option linter.unusedVariables false
set_option linter.deprecated false
noncomputable def intsT : TypeInfo := (Tryz.prog.info? 34).get (by kernel_rfl)
theorem swK (n : Nat) (h2 : 2 ≤ n) : Lib.swapperK n intT 2 = 5 := by
  have a : intT.hasPointers = false := by kernel_rfl
  have b : intT.bytes = 8 := by kernel_rfl
  have c : (n == 0) = false := by simp; omega
  have d : (n == 1) = false := by simp; omega
  simp [Lib.swapperK, a, b, c, d]
section
variable {U : Tbl} {h h' : Nat → Option Ob} {w w1 w' : World} {M M' : Nat → Prop} {ι ι' : Nat → Value} {X : Nat → Prop}
/-- New blocks behind the heap. -/
theorem Mem.later {C : Ctx U} (hm : Mem C h w M ι) (hb : Below w.heap.size w w1) : Mem C h w1 M ι :=
  hm.grow (fun _ x => x) (fun b hb' => Nat.lt_of_lt_of_le (hm.lt b hb') hb.size) (fun _ _ x => x) hb
/-- The same, counted from here. -/
theorem Mem.anew {C : Ctx U} (hm : Mem C h w M ι) : Mem (U := U) ⟨w, fun b => ∃ n, (h n).isSome = true ∧ blk (ι n) = some b, 0, M, ι, h⟩ h w M ι :=
  ⟨hm.obj, hm.dis, hm.imm, hm.lt, fun n b hs hb => .inl ⟨n, hs, hb⟩, Nat.le_refl _, fun _ _ _ => rfl, rfl, rfl, rfl, fun _ hb => hb, hm.tb, hm.tm, fun _ _ hb => .inl hb, fun n t sz r0 t' sz' rows _ h0 ho => by
    dsimp only at h0
    rw [ho] at h0
    injection h0 with h0
    injection h0 with _ _ h0
    subst h0
    exact ⟨Nat.le_refl _, fun _ => rfl⟩, fun n _ => ⟨fun _ _ _ => rfl, fun _ _ => rfl⟩⟩
/-- And counted from before. -/
theorem Mem.back9 {N : Nat} (hb : Below w.heap.size w w1) (hm : Mem (U := U) ⟨w1, X, N, M, ι, h⟩ h' w' M' ι') : Mem (U := U) ⟨w, X, N, M, ι, h⟩ h' w' M' ι' :=
  ⟨hm.obj, hm.dis, hm.imm, hm.lt, fun n b hs hb' => (hm.may n b hs hb').imp id fun x => Nat.le_trans hb.size x, Nat.le_trans hb.size hm.size, fun b hlt hx => (hm.keep b (Nat.lt_of_lt_of_le hlt hb.size) hx).trans (hb.block b hlt), hm.os.trans hb.os, hm.tape.trans hb.tape, hm.output.trans hb.output,
    hm.base, hm.tb, hm.tm, fun b hlt hb' => hm.old b (Nat.lt_of_lt_of_le hlt hb.size) hb', hm.arr0, hm.pin⟩
end
theorem below_grow (w : World) (os : Array Obj) : Below w.heap.size w (Sort.grow w os) := ⟨rfl, rfl, rfl, by simp [Sort.grow], fun k hk => Sort.heap_grow_old w os hk⟩
theorem ptr_inv {M : Nat → Prop} {w : World} {ι : Nat → Value} {h : Nat → Option Ob} {n off : Nat} {cv : Value} (r : Rel M w ι h (.ptr n off) cv) : ∃ b t cells, h n = some (.box t cells) ∧ ι n = .pointer (some ⟨b, 0, none⟩) ∧ cv = .pointer (some ⟨b, off, none⟩) := by
  cases r with
  | pur hp => cases hp
  | ptrb _ _ b t cells ho hb => exact ⟨b, t, cells, ho, hb, rfl⟩
theorem iown_inv {M : Nat → Prop} {w : World} {ι : Nat → Value} {h : Nat → Option Ob} {tt : TypeId} {n len : Nat} {cv : Value} (r : Rel M w ι h (.iown tt n len) cv) : ∃ t sz rows v, cv = .iface tt v ∧ h n = some (.arr t sz rows) ∧ (rows.length = len → v = ι n) := by
  cases r with
  | pur hp => cases hp
  | iown _ _ _ t sz rows v ho hle hv hs => exact ⟨t, sz, rows, v, rfl, ho, hv⟩
theorem Eff.n {P : Program} {U : Tbl} {f : Nat} {vs : List V} {hl hl' : List (Nat × Ob)} {v : V} (h : Eff P U f vs hl v hl') (he : Enters P f) : EffN P U f vs hl v hl' := by
  rcases h with h | h
  · exact h
  · refine ⟨he, fun w M ι cargs a b c => ?_⟩
    obtain ⟨_, _, _, _, h1, _⟩ := h w M ι cargs a b c
    obtain ⟨fn, hf, hb, hn⟩ := he
    simp only [callFunc, Sem.run_bind, run_program, Result.andThen_ok, hf, hn, hb, Bool.false_eq_true, if_false, Sem.run_pure] at h1
    cases h1
theorem stableS_e (r : List Int) (n : Nat) (hr : r.length = n) (h1 : 1 ≤ n) (hbig : n ≤ 1000000) :
    Eff Tryz.prog UT 28 [.iown 34 1003 n, .fn 29 [.ptr 1000 0, .ptr 1001 0]] (SO r n (List.range' 0 n)) (.tup []) (SO r n (msT (fr r) (List.range' 0 n))) := by
  refine .inl ⟨⟨_, Tryz.func28, by kernel_rfl, by kernel_rfl⟩, fun w M ι cargs hm hsz hargs => ?_⟩
  obtain ⟨xs, hown, _⟩ := hm.obj 1003 (.arr 3 1 (nrow (List.range' 0 n))) rfl
  rw [nrow_len, List.length_range'] at hown
  obtain ⟨g, cap, eι, hg⟩ := own_row hown (by omega)
  have e0 : cargs.getD 0 undef = .iface 34 (.slice (some ⟨g, 0, none⟩) n cap) := by
    obtain ⟨t, sz, rows, cv, e, ho, hv⟩ := iown_inv (hargs 0 _ rfl)
    rw [e]
    rcases so_arr ho with ⟨e, _⟩ | ⟨_, _, _, rfl⟩
    · cases e
    · rw [hv (by rw [nrow_len, List.length_range']), eι]
  obtain ⟨cs, e1, hcl, hcr⟩ := (hargs 1 _ rfl).fn_inv
  have hcargs : cargs = #[.iface 34 (.slice (some ⟨g, 0, none⟩) n cap), .func (.func 29) #[] cs] := by
    rw [← e0, ← e1]
    refine Array.ext (by simpa using hsz) fun k hk _ => ?_
    have hk4 : k < 2 := by rw [hsz] at hk; exact hk
    match k, hk4 with
    | 0, _ => simp [Array.getD, show 0 < cargs.size by omega]
    | 1, _ => simp [Array.getD, show 1 < cargs.size by omega]
  rw [hcargs]
  rcases Nat.lt_or_ge 1 n with h2 | h2
  · have hsk := swK n h2
    have hB : Go.Proofs.sliceBound Tryz.prog 3 intT 2 (some ⟨g, 0, none⟩) n cap = #[.slice (some ⟨g, 0, none⟩) n cap, hdl] := by
      unfold Go.Proofs.sliceBound; rw [hsk]; rfl
    have hW : ∃ os, stableWorld Tryz.prog Tryz.laysGt8_ren 34 (some ⟨g, 0, none⟩) n cap w = Sort.grow w os := ⟨_, by unfold stableWorld; rw [Sort.alloc_eq_grow, Sort.alloc_eq_grow, Sort.grow_grow]⟩
    obtain ⟨os, hW⟩ := hW
    have hbl := below_grow w os
    have hm1 := (hm.later hbl).anew
    have hst := (stable_e r n hr hbig).n ⟨_, Tryz.func54, by kernel_rfl, by kernel_rfl⟩
    have key : Calls Tryz.prog 54 #[.agg #[.func (.func 29) #[] cs, .func (.func 69) #[] #[.slice (some ⟨g, 0, none⟩) n cap, hdl]], .int .i64 n] (Sort.grow w os) fun e w' => e = .returned (.tuple #[]) ∧ ∃ M' ι', Mem (U := UT) ⟨w, fun b => ∃ k, (mkH (SO r n (List.range' 0 n)) k).isSome = true ∧ blk (ι k) = some b, 0, M, ι, mkH (SO r n (List.range' 0 n))⟩ (mkH (SO r n (msT (fr r) (List.range' 0 n)))) w' M' ι' := by
      refine (hst.2 (Sort.grow w os) M ι _ hm1 rfl (fun i u hi => ?_)).mono ?_
      · match i, hi with
        | 0, hi =>
          obtain rfl : DD n = u := by simpa using hi
          refine .agg _ #[.func (.func 29) #[] cs, .func (.func 69) #[] #[.slice (some ⟨g, 0, none⟩) n cap, hdl]] rfl (fun c hc => by simp at hc; rcases hc with rfl | rfl <;> rfl) (fun k v hk => ?_)
          match k, hk with
          | 0, hk =>
            obtain rfl : V.fn 29 [.ptr 1000 0, .ptr 1001 0] = v := by simpa using hk
            exact .fn _ _ cs hcl fun i v hi => (hcr i v hi).keep (fun _ x => x) (fun b hb => hbl.block b (hm.lt b hb)) (Keeps.refl _ _)
          | 1, hk =>
            obtain rfl : V.fn 69 [.own 1003 n, .pin hdl] = v := by simpa using hk
            refine .fn _ _ #[.slice (some ⟨g, 0, none⟩) n cap, hdl] rfl fun i v hi => ?_
            match i, hi with
            | 0, hi =>
              obtain rfl : V.own 1003 n = v := by simpa using hi
              exact .own 1003 n 3 1 (nrow (List.range' 0 n)) _ rfl (by rw [nrow_len, List.length_range']; exact Nat.le_refl _) (fun _ => eι.symm) rfl
            | 1, hi =>
              obtain rfl : V.pin hdl = v := by simpa using hi
              exact .pur (.pin _)
        | 1, hi =>
          obtain rfl : V.int .i64 (n : Int) = u := by simpa using hi
          exact .pur (.int _ _)
      · rintro e w' ⟨cv, M', ι', rfl, hrel, hm'⟩
        obtain ⟨cs', rfl, hl', _⟩ := hrel.tup_inv
        obtain rfl := Array.eq_empty_of_size_eq_zero hl'.symm
        exact ⟨rfl, M', ι', hm'.back9 hbl⟩
    have hS := Any.sort_SliceStable_of_stable Tryz.laysGt8 34 3 intsT intT (by kernel_rfl) (by kernel_rfl) (by kernel_rfl) (by kernel_rfl) 2 (fun _ => by kernel_rfl) (some ⟨g, 0, none⟩) n cap (by omega) 69 (by rw [hsk]; kernel_rfl) (.func 29) #[] cs w _ (by rw [hB, hW]; exact key)
    refine hS.mono ?_
    rintro e w' ⟨rfl, M', ι', hm'⟩
    exact ⟨_, M', ι', rfl, .pur (.tup [] #[] rfl (fun i v hi => by cases hi)), hm'⟩
  · obtain rfl : n = 1 := by omega
    have hS := Any.sort_SliceStable_tiny Tryz.laysGt8 34 3 intsT intT (by kernel_rfl) (by kernel_rfl) (by kernel_rfl) (by kernel_rfl) 2 (fun _ => by kernel_rfl) (some ⟨g, 0, none⟩) 1 cap (Nat.le_refl _) 66 (by kernel_rfl) (.func 29) #[] cs w
    refine hS.mono ?_
    rintro e w' ⟨rfl, os, rfl⟩
    exact ⟨_, M, ι, rfl, .pur (.tup [] #[] rfl (fun i v hi => by cases hi)), hm.later (below_grow w os)⟩
end Go.Proofs.YtfjgnfgadkajnaaGreat
