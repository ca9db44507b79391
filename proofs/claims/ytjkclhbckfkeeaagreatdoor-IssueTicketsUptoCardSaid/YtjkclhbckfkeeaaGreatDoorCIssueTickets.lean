/- airline/airlinelaw40.IssueTickets returns true for every input, and each argument reads behind the call as it read before (the package variables that the row lists hold what it says). Conditions: those of the given row alone (second form: inputs of bulk at most 1048576). -/
import Derived.Test.YtjkclhbckfkeeaaGreatDoorFin
import Derived.LaidHandle
import Derived.LaidSub
namespace Go.Proofs.YtjkclhbckfkeeaaGreatDoor.fnIssueTicketsUpto
open Go Go.ChangeShapes Go.WideShapes Go.ChangeAt Go.RowKit Go.ChangeMaps
set_option maxRecDepth 100000 in
theorem contract (H : Type) (enc : TypeId × Value → H) (W : World) (base : Nat) (args : Array Value) (ds gs : List (DataW H)) (before : List MemPlace)
  (hval : ∀ (j : Nat) t v, Tryz.f4.params[j]? = some t → args[j]? = some v → Value.okWide Tryz.prog W .any base t v)
  (hW : DataW.Whole enc Tryz.prog Tryz.f4.params.toList Rows.issueTicketsSpec.vars false W args.toList ds gs before) (hL : laidMetH Tryz.prog Rows.issueTicketsUptoRow.laid W)
  (hsz : (DataW.weightsEach Tryz.prog (Tryz.f4.params.toList ++ (OpenSpec.ofChange Rows.issueTicketsSpec).bare.plain.varTypes Tryz.prog) (ds ++ gs)).all (· ≤ reachBytes) = true)
  (hk : Rows.uptoSmall H (ds ++ gs) = true)
  : Calls Tryz.prog 4 args W fun e W' => ∃ v, e = .returned v ∧ Rows.issueTicketsSpec.post enc Tryz.prog Tryz.f4 false true false false W args v W' := by
 have hW0 := hW
 obtain ⟨p, q, hA0, hV, rfl, hfz, hnd⟩ := hW
 have hA : DataW.TrodAll enc Tryz.prog W 0 (fun _ => true) true Tryz.f4.params.toList args.toList ds p := hA0
 rw [Tryz.params4] at hA hval
 obtain ⟨v0, vs0, d0, ds0, p0, q0, hargs, rfl, rfl, h0, r0⟩ := trodAll_cons hA
 obtain ⟨rfl, rfl, rfl⟩ := trodAll_nil r0
 obtain rfl : args = #[v0] := by cases args; simp_all
 obtain ⟨rfl, rfl⟩ := trodVars_none hV
 clear hA0 hA
 have hL := (laidMetH_iff.1 hL).1
 rw [show (Rows.issueTicketsUptoRow.laid.filter fun x => x.2.handleName?.isNone) = Rows.issueTicketsUptoRow.laid by kernel_rfl] at hL
 have htab : UT.B W := Lib.tabIs_of_head Ah7 (by kernel_rfl) Tryz.underlying292 Tryz.underlying189 (by kernel_rfl) (by kernel_rfl) (laidMet.tail (laidMet.tail hL))
 have hw0 : ∀ n ∈ d0.weights Tryz.prog 41, n ≤ reachBytes := fun n hn => by simpa using List.all_eq_true.1 hsz n (DataW.weights_mem_each (j := 0) (t := 41) (d := d0) (by rw [Tryz.params4]; rfl) rfl n hn)
 obtain ⟨vs0, hf0, hp0, hb0⟩ := Ry (Kw (fun _ h => h)) rfl (show shT Tryz.prog ovC 8 41 = some (QZ) by kernel_rfl) (hval 0 41 _ rfl rfl) h0 hw0
 obtain ⟨x0, rfl, hok0⟩ := Xj _ hf0
 have hc0 : V.cntL x0.enc ≤ 1048576 := Nat.le_trans hb0 (Nat.le_trans (Lq (by simp)) (of_decide_eq_true hk))
 refine (Pn GZ Qk x0 (hok0.ok hc0) rfl htab (cl := [v0]) ⟨hp0, trivial⟩).mono fun e W' ⟨he, hb⟩ => ?_
 subst he
 exact ⟨_, rfl, law_post laidOut (by rw [Tryz.params4]; intro t ht; simp only [List.mem_cons, List.not_mem_nil, or_false] at ht; rcases ht with rfl <;> exact ⟨by kernel_rfl, of_decide_eq_true (by kernel_rfl)⟩) rfl rfl hW0 rfl hb⟩
noncomputable def laidWorld (os : Os) : World :=
 { (World.holding Tryz.prog os ⟨#[], #[], []⟩) with heap := ((((((World.holding Tryz.prog os ⟨#[], #[], []⟩).heap).modify 7 (fun o => match o with | .cells _ t frozen => .cells #[.int .u8 0, .int .u8 1, .int .u8 28, .int .u8 2, .int .u8 29, .int .u8 14, .int .u8 24, .int .u8 3, .int .u8 30, .int .u8 22, .int .u8 20, .int .u8 15, .int .u8 25, .int .u8 17, .int .u8 4, .int .u8 8, .int .u8 31, .int .u8 27, .int .u8 13, .int .u8 23, .int .u8 21, .int .u8 19, .int .u8 16, .int .u8 7, .int .u8 26, .int .u8 12, .int .u8 18, .int .u8 6, .int .u8 11, .int .u8 5, .int .u8 10, .int .u8 9] t frozen | o => o)).modify 8 (fun o => match o with | .cells _ t frozen => .cells #[.int .u8 0, .int .u8 1, .int .u8 56, .int .u8 2, .int .u8 57, .int .u8 49, .int .u8 28, .int .u8 3, .int .u8 61, .int .u8 58, .int .u8 42, .int .u8 50, .int .u8 38, .int .u8 29, .int .u8 17, .int .u8 4, .int .u8 62, .int .u8 47, .int .u8 59, .int .u8 36, .int .u8 45, .int .u8 43, .int .u8 51, .int .u8 22, .int .u8 53, .int .u8 39, .int .u8 33, .int .u8 30, .int .u8 24, .int .u8 18, .int .u8 12, .int .u8 5, .int .u8 63, .int .u8 55, .int .u8 48, .int .u8 27, .int .u8 60, .int .u8 41, .int .u8 37, .int .u8 16, .int .u8 46, .int .u8 35, .int .u8 44, .int .u8 21, .int .u8 52, .int .u8 32, .int .u8 23, .int .u8 11, .int .u8 54, .int .u8 26, .int .u8 40, .int .u8 15, .int .u8 34, .int .u8 20, .int .u8 31, .int .u8 10, .int .u8 25, .int .u8 14, .int .u8 19, .int .u8 9, .int .u8 13, .int .u8 8, .int .u8 7, .int .u8 6] t frozen | o => o)).modify 3 (fun o => match o with | .cells _ t frozen => .cells #[.int .u64 1, .int .u64 10, .int .u64 100, .int .u64 1000, .int .u64 10000, .int .u64 100000, .int .u64 1000000, .int .u64 10000000, .int .u64 100000000, .int .u64 1000000000, .int .u64 10000000000, .int .u64 100000000000, .int .u64 1000000000000, .int .u64 10000000000000, .int .u64 100000000000000, .int .u64 1000000000000000, .int .u64 10000000000000000, .int .u64 100000000000000000, .int .u64 1000000000000000000, .int .u64 10000000000000000000] t frozen | o => o)).modify 6 (fun o => match o with | .cells _ t frozen => .cells #[.int .u8 128, .int .u8 191, .int .u8 160, .int .u8 191, .int .u8 128, .int .u8 159, .int .u8 144, .int .u8 191, .int .u8 128, .int .u8 143, .int .u8 0, .int .u8 0, .int .u8 0, .int .u8 0, .int .u8 0, .int .u8 0, .int .u8 0, .int .u8 0, .int .u8 0, .int .u8 0, .int .u8 0, .int .u8 0, .int .u8 0, .int .u8 0, .int .u8 0, .int .u8 0, .int .u8 0, .int .u8 0, .int .u8 0, .int .u8 0, .int .u8 0, .int .u8 0] t frozen | o => o)).modify 5 (fun o => match o with | .cells _ t frozen => .cells (Go.Pinned.utf8FirstZ.map fun (n : Nat) => Value.int .u8 (n : Int)).toArray t frozen | o => o) }
theorem laid_met (os : Os) : laidMetH Tryz.prog Rows.issueTicketsUptoRow.laid ((laidWorld os).forCall (fun _ _ => 0) ⟨#[], #[.agg #[.slice none 0 0, .slice none 0 0, .slice none 0 0, .slice none 0 0, .slice none 0 0, .slice none 0 0, .slice none 0 0, .slice none 0 0, .slice none 0 0, .slice none 0 0, .int .i64 0, .int .i64 0, .string ⟨#[]⟩, .string ⟨#[]⟩, .string ⟨#[]⟩, .int .i64 0, .string ⟨#[]⟩, .int .i64 0]], []⟩).memory :=
 laidMetH_of_parts3 (fuel := 8) (laidMet_of_run' 8 (by kernel_rfl) (by kernel_rfl)) (by kernel_rfl) (by kernel_rfl)
theorem reads (os : Os) {H : Type} (enc : TypeId × Value → H) : ∃ places, DataW.whole enc Tryz.prog ((laidWorld os).forCall (fun _ _ => 0) ⟨#[], #[.agg #[.slice none 0 0, .slice none 0 0, .slice none 0 0, .slice none 0 0, .slice none 0 0, .slice none 0 0, .slice none 0 0, .slice none 0 0, .slice none 0 0, .slice none 0 0, .int .i64 0, .int .i64 0, .string ⟨#[]⟩, .string ⟨#[]⟩, .string ⟨#[]⟩, .int .i64 0, .string ⟨#[]⟩, .int .i64 0]], []⟩).memory Tryz.f4.params.toList Rows.issueTicketsSpec.vars false (#[.agg #[.slice none 0 0, .slice none 0 0, .slice none 0 0, .slice none 0 0, .slice none 0 0, .slice none 0 0, .slice none 0 0, .slice none 0 0, .slice none 0 0, .slice none 0 0, .int .i64 0, .int .i64 0, .string ⟨#[]⟩, .string ⟨#[]⟩, .string ⟨#[]⟩, .int .i64 0, .string ⟨#[]⟩, .int .i64 0]] : Array Value).toList 8 = some ([.agg [.agg [.nil, .nil], .agg [.nil, .nil, .nil, .nil], .nil, .agg [.nil, .nil, .nil, .lit (.int .i64 0), .lit (.int .i64 0)], .agg [.lit (.string []), .lit (.string []), .lit (.string [])], .lit (.int .i64 0), .lit (.string []), .lit (.int .i64 0)]], [], places) :=
 ⟨[], by kernel_rfl⟩
set_option maxRecDepth 100000 in
theorem lifted (os : Os) (started : os.Started) (H : Type) (enc : TypeId × Value → H) (F : Stop.Interp) :
  ReturnsInHanded {} Tryz.checked os 4 .any ((Rows.OpenSpec.upto Rows.issueTicketsSpec).preRow enc Tryz.prog Tryz.f4 Rows.issueTicketsUptoRow.domain false Rows.issueTicketsUptoRow.laid) (((Rows.OpenSpec.upto Rows.issueTicketsSpec).at F).post enc Tryz.prog Tryz.f4 false true false false) := by
 obtain ⟨places, hx⟩ := reads os enc
 refine returnsInHanded_of_row (C := Tryz.checked) (s := Rows.OpenSpec.upto Rows.issueTicketsSpec) own started (by kernel_rfl) Tryz.func4
  (witness_row_at (enc := enc) (C := Tryz.checked) false (laidWorld os) #[.agg #[.slice none 0 0, .slice none 0 0, .slice none 0 0, .slice none 0 0, .slice none 0 0, .slice none 0 0, .slice none 0 0, .slice none 0 0, .slice none 0 0, .slice none 0 0, .int .i64 0, .int .i64 0, .string ⟨#[]⟩, .string ⟨#[]⟩, .string ⟨#[]⟩, .int .i64 0, .string ⟨#[]⟩, .int .i64 0]] rfl (by kernel_rfl) (by kernel_rfl) (by kernel_rfl)
   (OpenSpec.preRow_of_cond 8 hx (by kernel_rfl) (fun k hk => by cases hk; kernel_rfl) (by kernel_rfl) (laid_met os))) ?_
 intro W base args ds gs before hval hW _ hcond hsz hL _ _
 exact contract H enc W base args ds gs before hval hW hL hsz (hcond _ rfl)
section
noncomputable abbrev jP : Program := Tryz.pinned.checked.prog
noncomputable abbrev jF : Func := Tryz.f4
abbrev jS : ChangeSpec := (Rows.OpenSpec.upto Rows.issueTicketsSpec).bare
abbrev jC : OpenClaim := Rows.issueTicketsUptoRow
theorem jg0 : (jC.wf (OpenSpec.ofChange jS) && laidOutB jP && mapsRowed jP && jF.params.all (jP.readableRec ·) && namedTie jP jC.named jS.vars && (jC.stops == []) && (jP.stops == []) && (jC.knobs == []) && (jP.stopKnobs == [])) = true := by kernel_rfl
theorem jg1 : ((jC.inPlace == jP.inPlace 4) && (jC.unfollowed == jP.unfollowed 4) && (jC.recurses == jP.recurses 4) && (jC.named == jP.varsNamed 4)) = true := by kernel_rfl
theorem jg2 : ((jC.maps == (jF.params.toList ++ jS.plain.varTypes jP).any (jP.mapsRec ·)) && (jC.ifaces == (jF.params.toList ++ jS.plain.varTypes jP).any (jP.ifacesRec ·)) && (jC.mapsOut == jP.mapsAmong jF.resultTypes.toList) && (jC.loops == (jF.params.toList ++ jS.plain.varTypes jP).any (jP.loopsFrom ·)) && (jC.wideKeys == (jF.params.toList ++ jS.plain.varTypes jP ++ jF.resultTypes.toList).any (jP.wideKeysFrom ·)) && jS.vars.all (jP.varReadable ·)) = true := by kernel_rfl
theorem jg3 : (jF.resultTypes.all (fun t => jP.readableRec t && decide (t < jP.types.size)) && (jC.ifacesOut == jF.resultTypes.toList.any (jP.ifacesRec ·)) && (jC.loopsOut == jF.resultTypes.toList.any (jP.loopsFrom ·)) && (jC.plainKeys == jP.plainKeys) && jC.shortTexts.isNone && jP.stopsHeard && jP.mayEnter && (jC.lifted == jP.liftsFinal) && (jP.make == some jC.make) && (jC.kinds == (if jC.domain.isEmpty then [] else jF.params.toList.map fun t => match jP.underlying t with | some (.int k) => some k | _ => none)) && (jC.pinned == jC.pinnedBy) && (jC.veiled == (jF.params.toList ++ jS.plain.varTypes jP ++ jF.resultTypes.toList).any (jP.veiledRec ·)) && jC.veiledFits jP jF.params.toList (jF.params.toList ++ jS.plain.varTypes jP ++ jF.resultTypes.toList)) = true := by kernel_rfl
theorem Fl {a b : Bool} (h : a = true) (k : b = true) : (a && b) = true := by rw [h, k]; rfl
theorem jl {a b : Bool} (h : (a && b) = true) : a = true := (Bool.and_eq_true a b ▸ h).1
theorem jr {a b : Bool} (h : (a && b) = true) : b = true := (Bool.and_eq_true a b ▸ h).2
end
set_option maxRecDepth 100000 in
theorem jall : joinedFacts jP 4 jF jS jC = true := by unfold joinedFacts; exact Fl (Fl (Fl (Fl (Fl (Fl (Fl (Fl (Fl (Fl (Fl (Fl (Fl (Fl (Fl (Fl (Fl (Fl (Fl (Fl (Fl (Fl (Fl (Fl (Fl (Fl (Fl (Fl (Fl (Fl (Fl ((jl (jl (jl (jl (jl (jl (jl (jl jg0))))))))) (jr (jl (jl (jl (jl (jl (jl (jl jg0))))))))) (jr (jl (jl (jl (jl (jl (jl jg0)))))))) (jr (jl (jl (jl (jl (jl jg0))))))) (jr (jl (jl (jl (jl jg0)))))) (jr (jl (jl (jl jg0))))) (jr (jl (jl jg0)))) (jr (jl jg0))) (jr jg0)) (jl (jl (jl jg1)))) (jr (jl (jl jg1)))) (jr (jl jg1))) (jr jg1)) (jl (jl (jl (jl (jl jg2)))))) (jr (jl (jl (jl (jl jg2)))))) (jr (jl (jl (jl jg2))))) (jr (jl (jl jg2)))) (jr (jl jg2))) (jr jg2)) (jl (jl (jl (jl (jl (jl (jl (jl (jl (jl (jl (jl jg3))))))))))))) (jr (jl (jl (jl (jl (jl (jl (jl (jl (jl (jl (jl jg3))))))))))))) (jr (jl (jl (jl (jl (jl (jl (jl (jl (jl (jl jg3)))))))))))) (jr (jl (jl (jl (jl (jl (jl (jl (jl (jl jg3))))))))))) (jr (jl (jl (jl (jl (jl (jl (jl (jl jg3)))))))))) (jr (jl (jl (jl (jl (jl (jl (jl jg3))))))))) (jr (jl (jl (jl (jl (jl (jl jg3)))))))) (jr (jl (jl (jl (jl (jl jg3))))))) (jr (jl (jl (jl (jl jg3)))))) (jr (jl (jl (jl jg3))))) (jr (jl (jl jg3)))) (jr (jl jg3))) (jr jg3)
theorem said : Rows.IssueTicketsUptoSaid :=
 OpenClaim.holds_of_cond 4 Tryz.f4 rfl rfl rfl rfl rfl rfl rfl ⟨rfl, rfl, rfl, rfl, rfl⟩ rfl rfl rfl rfl rfl (by kernel_rfl) Tryz.func4 jall
  (of_decide_eq_true (by kernel_rfl)) (by unfold Func.isWrapper; first | (rw [if_pos (by decide +kernel)]; kernel_rfl) | (rw [if_neg (by decide +kernel)]; exact ⟨rfl, rfl⟩))
  (fun os started H enc _ F => by rw [OpenClaim.pre_eq_preRow]; exact lifted os started H enc F)
theorem plain (f : FuncId) (fn : Func) (hf : Tryz.pinned.checked.prog.funcNamed Rows.issueTicketsUptoRow.func = some f) (hfn : Tryz.pinned.checked.prog.funcs[f]? = some fn) :
  false = Tryz.pinned.checked.prog.looks [] ∧ ∀ (j : Nat) t, fn.params[j]? = some t → Tryz.pinned.checked.prog.wantsStandIn t = false := by
 obtain rfl : f = 4 := Option.some.inj ((show Tryz.prog.funcNamed Rows.issueTicketsUptoRow.func = some 4 by kernel_rfl).symm.trans hf) |>.symm
 obtain rfl : fn = Tryz.f4 := (Option.some.inj (Tryz.func4.symm.trans hfn)).symm
 refine ⟨by kernel_rfl, fun j t ht => ?_⟩
 rw [Tryz.params4] at ht
 have hm := Array.mem_of_getElem? ht
 simp only [List.mem_toArray, List.mem_cons, List.not_mem_nil, or_false] at hm
 rcases hm with rfl
 ·exact (show Tryz.prog.wantsStandIn 41 = false by kernel_rfl)
theorem card : Rows.IssueTicketsUptoCardSaid :=
 Claim7.holds_tied_plain_at .later [] _ _ _ _ said (fun _ h => by cases h) (by kernel_rfl) (fun _ h => by cases h) issueTicketsUpto_row_tie rfl ⟨rfl, rfl⟩ (by kernel_rfl) rfl plain (by kernel_rfl)
end Go.Proofs.YtjkclhbckfkeeaaGreatDoor.fnIssueTicketsUpto
