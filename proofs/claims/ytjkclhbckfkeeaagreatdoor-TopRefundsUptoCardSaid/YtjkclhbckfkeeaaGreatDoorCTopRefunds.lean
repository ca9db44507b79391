/- airline/airlinetop.TopRefunds returns true for every input, and each argument reads behind the call as it read before (the package variables that the row lists hold what it says). Conditions: those of the given row alone (second form: inputs of bulk at most 1048576). -/
import Derived.Test.YtjkclhbckfkeeaaGreatDoorFin
namespace Go.Proofs.YtjkclhbckfkeeaaGreatDoor.fnTopRefundsUpto
open Go Go.ChangeShapes Go.WideShapes Go.ChangeAt Go.RowKit Go.ChangeMaps
set_option maxRecDepth 100000 in
theorem contract (H : Type) (enc : TypeId × Value -> H) (W : World) (base : Nat) (args : Array Value) (ds gs : List (DataW H)) (before : List MemPlace)
  (hval : ∀ (j : Nat) t v, Tryz.f3.params[j]? = some t -> args[j]? = some v -> Value.okWide Tryz.prog W .any base t v)
  (hW : DataW.Whole enc Tryz.prog Tryz.f3.params.toList Rows.topRefundsSpec.vars false W args.toList ds gs before) (hL : laidMetH Tryz.prog Rows.topRefundsUptoRow.laid W)
  (hsz : (DataW.weightsEach Tryz.prog (Tryz.f3.params.toList ++ (OpenSpec.ofChange Rows.topRefundsSpec).bare.plain.varTypes Tryz.prog) (ds ++ gs)).all (· <= reachBytes) = true)
  (hk : Rows.uptoSmall H (ds ++ gs) = true)
  : Calls Tryz.prog 3 args W fun e W' => ∃ v, e = .returned v /\ Rows.topRefundsSpec.post enc Tryz.prog Tryz.f3 false true false false W args v W' := by
 have hW0 := hW
 obtain ⟨p, q, hA0, hV, rfl, hfz, hnd⟩ := hW
 have hA : DataW.TrodAll enc Tryz.prog W 0 (fun _ => true) true Tryz.f3.params.toList args.toList ds p := hA0
 rw [Tryz.params3] at hA hval
 obtain ⟨v0, vs0, d0, ds0, p0, q0, hargs, rfl, rfl, h0, r0⟩ := trodAll_cons hA
 obtain ⟨v1, vs1, d1, ds1, p1, q1, rfl, rfl, rfl, h1, r1⟩ := trodAll_cons r0
 obtain ⟨v2, vs2, d2, ds2, p2, q2, rfl, rfl, rfl, h2, r2⟩ := trodAll_cons r1
 obtain ⟨v3, vs3, d3, ds3, p3, q3, rfl, rfl, rfl, h3, r3⟩ := trodAll_cons r2
 obtain ⟨v4, vs4, d4, ds4, p4, q4, rfl, rfl, rfl, h4, r4⟩ := trodAll_cons r3
 obtain ⟨rfl, rfl, rfl⟩ := trodAll_nil r4
 obtain rfl : args = #[v0, v1, v2, v3, v4] := by cases args; simp_all
 obtain ⟨rfl, rfl⟩ := trodVars_none hV
 clear hA0 hA
 have htab : UT.B W := Lib.tabIs_of_head (rest := []) PC (by kernel_rfl) Tryz.underlying239 Tryz.underlying3 (by kernel_rfl) (by kernel_rfl) hL
 have hw0 : ∀ n ∈ d0.weights Tryz.prog 41, n <= reachBytes := fun n hn => by simpa using Ch.1 hsz n (DataW.weights_mem_each (j := 0) (t := 41) (d := d0) (by rw [Tryz.params3]; rfl) rfl n hn)
 obtain ⟨vs0, hf0, hp0, hb0⟩ := NR (Mc (fun _ h => h)) rfl (show shT Tryz.prog ovC 8 41 = some (Acn) by kernel_rfl) (hval 0 41 _ rfl rfl) h0 hw0
 obtain ⟨x0, rfl, hok0⟩ := AdD _ hf0
 have hc0 : V.cntL x0.enc <= 1048576 := HB hb0 (HB (WO (by simp)) (of_decide_eq_true hk))
 have hw1 : ∀ n ∈ d1.weights Tryz.prog 9, n <= reachBytes := fun n hn => by simpa using Ch.1 hsz n (DataW.weights_mem_each (j := 1) (t := 9) (d := d1) (by rw [Tryz.params3]; rfl) rfl n hn)
 obtain ⟨vs1, hf1, hp1, hb1⟩ := NR (Mc (fun _ h => h)) rfl (show shT Tryz.prog ovC 8 9 = some (.s) by kernel_rfl) (hval 1 9 _ rfl rfl) h1 hw1
 obtain ⟨x1, rfl, hok1⟩ := Cu hf1
 have hw2 : ∀ n ∈ d2.weights Tryz.prog 3, n <= reachBytes := fun n hn => by simpa using Ch.1 hsz n (DataW.weights_mem_each (j := 2) (t := 3) (d := d2) (by rw [Tryz.params3]; rfl) rfl n hn)
 obtain ⟨vs2, hf2, hp2, hb2⟩ := NR (Mc (fun _ h => h)) rfl (show shT Tryz.prog ovC 8 3 = some (.i .i64) by kernel_rfl) (hval 2 3 _ rfl rfl) h2 hw2
 obtain ⟨x2, rfl, hok2⟩ := Bo hf2
 have hw3 : ∀ n ∈ d3.weights Tryz.prog 42, n <= reachBytes := fun n hn => by simpa using Ch.1 hsz n (DataW.weights_mem_each (j := 3) (t := 42) (d := d3) (by rw [Tryz.params3]; rfl) rfl n hn)
 obtain ⟨vs3, hf3, hp3, hb3⟩ := NR (Mc (fun _ h => h)) rfl (show shT Tryz.prog ovC 8 42 = some (.sl (.i .i64) 8) by kernel_rfl) (hval 3 42 _ rfl rfl) h3 hw3
 obtain ⟨x3, rfl, hl3, hok3⟩ := Ed (fun _ h => Bo h) hf3
 have hw4 : ∀ n ∈ d4.weights Tryz.prog 3, n <= reachBytes := fun n hn => by simpa using Ch.1 hsz n (DataW.weights_mem_each (j := 4) (t := 3) (d := d4) (by rw [Tryz.params3]; rfl) rfl n hn)
 obtain ⟨vs4, hf4, hp4, hb4⟩ := NR (Mc (fun _ h => h)) rfl (show shT Tryz.prog ovC 8 3 = some (.i .i64) by kernel_rfl) (hval 4 3 _ rfl rfl) h4 hw4
 obtain ⟨x4, rfl, hok4⟩ := Bo hf4
 refine (AgZ Wb Ai7 (x0, x1, x2, x3, x4) (hok0.okT hc0 hok1 hok2 (by first | omega | (dsimp only; omega)) hok4) rfl htab (cl := [v0, v1, v2, v3, v4]) ⟨hp0, hp1, hp2, hp3, hp4, trivial⟩).mono fun e W' ⟨he, hb⟩ => ?_
 subst he
 exact ⟨_, rfl, law_post laidOut (by rw [Tryz.params3]; intro t ht; simp only [AN, Dh, or_false] at ht; rcases ht with rfl | rfl | rfl | rfl | rfl <;> exact ⟨by kernel_rfl, of_decide_eq_true (by kernel_rfl)⟩) rfl rfl hW0 rfl hb⟩
noncomputable def laidWorld (os : Os) : World :=
 { (World.holding Tryz.prog os ⟨#[], #[], []⟩) with heap := ((World.holding Tryz.prog os ⟨#[], #[], []⟩).heap).modify 0 (fun o => match o with | .cells _ t frozen => .cells #[.int .i64 31, .int .i64 28, .int .i64 31, .int .i64 30, .int .i64 31, .int .i64 30, .int .i64 31, .int .i64 31, .int .i64 30, .int .i64 31, .int .i64 30, .int .i64 31] t frozen | o => o) }
theorem laid_met (os : Os) : laidMet Tryz.prog Rows.topRefundsUptoRow.laid ((laidWorld os).forCall (fun _ _ => 0) ⟨#[], #[.agg #[.slice none 0 0, .slice none 0 0, .slice none 0 0, .slice none 0 0, .slice none 0 0, .slice none 0 0, .slice none 0 0, .slice none 0 0, .slice none 0 0, .slice none 0 0, .int .i64 0, .int .i64 0, .string ⟨#[]⟩, .string ⟨#[]⟩, .string ⟨#[]⟩, .int .i64 0, .string ⟨#[]⟩, .int .i64 0], .string ⟨#[]⟩, .int .i64 0, .slice none 0 0, .int .i64 0], []⟩).memory :=
 laidMet_of_run' 8 (by kernel_rfl) (by kernel_rfl)
theorem reads (os : Os) {H : Type} (enc : TypeId × Value -> H) : ∃ places, DataW.whole enc Tryz.prog ((laidWorld os).forCall (fun _ _ => 0) ⟨#[], #[.agg #[.slice none 0 0, .slice none 0 0, .slice none 0 0, .slice none 0 0, .slice none 0 0, .slice none 0 0, .slice none 0 0, .slice none 0 0, .slice none 0 0, .slice none 0 0, .int .i64 0, .int .i64 0, .string ⟨#[]⟩, .string ⟨#[]⟩, .string ⟨#[]⟩, .int .i64 0, .string ⟨#[]⟩, .int .i64 0], .string ⟨#[]⟩, .int .i64 0, .slice none 0 0, .int .i64 0], []⟩).memory Tryz.f3.params.toList Rows.topRefundsSpec.vars false (#[.agg #[.slice none 0 0, .slice none 0 0, .slice none 0 0, .slice none 0 0, .slice none 0 0, .slice none 0 0, .slice none 0 0, .slice none 0 0, .slice none 0 0, .slice none 0 0, .int .i64 0, .int .i64 0, .string ⟨#[]⟩, .string ⟨#[]⟩, .string ⟨#[]⟩, .int .i64 0, .string ⟨#[]⟩, .int .i64 0], .string ⟨#[]⟩, .int .i64 0, .slice none 0 0, .int .i64 0] : Array Value).toList 8 = some ([.agg [.agg [.nil, .nil], .agg [.nil, .nil, .nil, .nil], .nil, .agg [.nil, .nil, .nil, .lit (.int .i64 0), .lit (.int .i64 0)], .agg [.lit (.string []), .lit (.string []), .lit (.string [])], .lit (.int .i64 0), .lit (.string []), .lit (.int .i64 0)], .lit (.string []), .lit (.int .i64 0), .nil, .lit (.int .i64 0)], [], places) :=
 ⟨[], by kernel_rfl⟩
set_option maxRecDepth 100000 in
theorem lifted (os : Os) (started : os.Started) (H : Type) (enc : TypeId × Value -> H) (F : Stop.Interp) :
  ReturnsInHanded {} Tryz.checked os 3 .any ((Rows.OpenSpec.upto Rows.topRefundsSpec).preRow enc Tryz.prog Tryz.f3 Rows.topRefundsUptoRow.domain false Rows.topRefundsUptoRow.laid) (((Rows.OpenSpec.upto Rows.topRefundsSpec).at F).post enc Tryz.prog Tryz.f3 false true false false) := by
 obtain ⟨places, hx⟩ := reads os enc
 refine returnsInHanded_of_row (C := Tryz.checked) (s := Rows.OpenSpec.upto Rows.topRefundsSpec) own started (by kernel_rfl) Tryz.func3
  (witness_row_at (enc := enc) (C := Tryz.checked) false (laidWorld os) #[.agg #[.slice none 0 0, .slice none 0 0, .slice none 0 0, .slice none 0 0, .slice none 0 0, .slice none 0 0, .slice none 0 0, .slice none 0 0, .slice none 0 0, .slice none 0 0, .int .i64 0, .int .i64 0, .string ⟨#[]⟩, .string ⟨#[]⟩, .string ⟨#[]⟩, .int .i64 0, .string ⟨#[]⟩, .int .i64 0], .string ⟨#[]⟩, .int .i64 0, .slice none 0 0, .int .i64 0] rfl (by kernel_rfl) (by kernel_rfl) (by kernel_rfl)
   (OpenSpec.preRow_of_cond 8 hx (by kernel_rfl) (fun k hk => by cases hk; kernel_rfl) (by kernel_rfl) (laid_met os))) ?_
 intro W base args ds gs before hval hW _ hcond hsz hL _ _
 exact contract H enc W base args ds gs before hval hW hL hsz (hcond _ rfl)
section
noncomputable abbrev jP : Program := Tryz.pinned.checked.prog
noncomputable abbrev jF : Func := Tryz.f3
abbrev jS : ChangeSpec := (Rows.OpenSpec.upto Rows.topRefundsSpec).bare
abbrev jC : OpenClaim := Rows.topRefundsUptoRow
theorem jg0 : (jC.wf (OpenSpec.ofChange jS) && laidOutB jP && mapsRowed jP && jF.params.all (jP.readableRec ·) && namedTie jP jC.named jS.vars && (jC.stops == []) && (jP.stops == []) && (jC.knobs == []) && (jP.stopKnobs == [])) = true := by kernel_rfl
theorem jg1 : ((jC.inPlace == jP.inPlace 3) && (jC.unfollowed == jP.unfollowed 3) && (jC.recurses == jP.recurses 3) && (jC.named == jP.varsNamed 3)) = true := by kernel_rfl
theorem jg2 : ((jC.maps == (jF.params.toList ++ jS.plain.varTypes jP).any (jP.mapsRec ·)) && (jC.ifaces == (jF.params.toList ++ jS.plain.varTypes jP).any (jP.ifacesRec ·)) && (jC.mapsOut == jP.mapsAmong jF.resultTypes.toList) && (jC.loops == (jF.params.toList ++ jS.plain.varTypes jP).any (jP.loopsFrom ·)) && (jC.wideKeys == (jF.params.toList ++ jS.plain.varTypes jP ++ jF.resultTypes.toList).any (jP.wideKeysFrom ·)) && jS.vars.all (jP.varReadable ·)) = true := by kernel_rfl
theorem jg3 : (jF.resultTypes.all (fun t => jP.readableRec t && decide (t < jP.types.size)) && (jC.ifacesOut == jF.resultTypes.toList.any (jP.ifacesRec ·)) && (jC.loopsOut == jF.resultTypes.toList.any (jP.loopsFrom ·)) && (jC.plainKeys == jP.plainKeys) && jC.shortTexts.isNone && jP.stopsHeard && jP.mayEnter && (jC.lifted == jP.liftsFinal) && (jP.make == some jC.make) && (jC.kinds == (if jC.domain.isEmpty then [] else jF.params.toList.map fun t => match jP.underlying t with | some (.int k) => some k | _ => none)) && (jC.pinned == jC.pinnedBy) && (jC.veiled == (jF.params.toList ++ jS.plain.varTypes jP ++ jF.resultTypes.toList).any (jP.veiledRec ·)) && jC.veiledFits jP jF.params.toList (jF.params.toList ++ jS.plain.varTypes jP ++ jF.resultTypes.toList)) = true := by kernel_rfl
theorem Cd {a b : Bool} (h : a = true) (k : b = true) : (a && b) = true := by rw [h, k]; rfl
theorem jl {a b : Bool} (h : (a && b) = true) : a = true := (Bx a b ▸ h).1
theorem jr {a b : Bool} (h : (a && b) = true) : b = true := (Bx a b ▸ h).2
end
set_option maxRecDepth 100000 in
theorem jall : joinedFacts jP 3 jF jS jC = true := by unfold joinedFacts; exact Cd (Cd (Cd (Cd (Cd (Cd (Cd (Cd (Cd (Cd (Cd (Cd (Cd (Cd (Cd (Cd (Cd (Cd (Cd (Cd (Cd (Cd (Cd (Cd (Cd (Cd (Cd (Cd (Cd (Cd (Cd ((jl (jl (jl (jl (jl (jl (jl (jl jg0))))))))) (jr (jl (jl (jl (jl (jl (jl (jl jg0))))))))) (jr (jl (jl (jl (jl (jl (jl jg0)))))))) (jr (jl (jl (jl (jl (jl jg0))))))) (jr (jl (jl (jl (jl jg0)))))) (jr (jl (jl (jl jg0))))) (jr (jl (jl jg0)))) (jr (jl jg0))) (jr jg0)) (jl (jl (jl jg1)))) (jr (jl (jl jg1)))) (jr (jl jg1))) (jr jg1)) (jl (jl (jl (jl (jl jg2)))))) (jr (jl (jl (jl (jl jg2)))))) (jr (jl (jl (jl jg2))))) (jr (jl (jl jg2)))) (jr (jl jg2))) (jr jg2)) (jl (jl (jl (jl (jl (jl (jl (jl (jl (jl (jl (jl jg3))))))))))))) (jr (jl (jl (jl (jl (jl (jl (jl (jl (jl (jl (jl jg3))))))))))))) (jr (jl (jl (jl (jl (jl (jl (jl (jl (jl (jl jg3)))))))))))) (jr (jl (jl (jl (jl (jl (jl (jl (jl (jl jg3))))))))))) (jr (jl (jl (jl (jl (jl (jl (jl (jl jg3)))))))))) (jr (jl (jl (jl (jl (jl (jl (jl jg3))))))))) (jr (jl (jl (jl (jl (jl (jl jg3)))))))) (jr (jl (jl (jl (jl (jl jg3))))))) (jr (jl (jl (jl (jl jg3)))))) (jr (jl (jl (jl jg3))))) (jr (jl (jl jg3)))) (jr (jl jg3))) (jr jg3)
theorem said : Rows.TopRefundsUptoSaid :=
 OpenClaim.holds_of_cond 3 Tryz.f3 rfl rfl rfl rfl rfl rfl rfl ⟨rfl, rfl, rfl, rfl, rfl⟩ rfl rfl rfl rfl rfl (by kernel_rfl) Tryz.func3 jall
  (of_decide_eq_true (by kernel_rfl)) (by unfold Func.isWrapper; first | (rw [if_pos (by decide +kernel)]; kernel_rfl) | (rw [if_neg (by decide +kernel)]; exact ⟨rfl, rfl⟩))
  (fun os started H enc _ F => by rw [OpenClaim.pre_eq_preRow]; exact lifted os started H enc F)
theorem plain (f : FuncId) (fn : Func) (hf : Tryz.pinned.checked.prog.funcNamed Rows.topRefundsUptoRow.func = some f) (hfn : Tryz.pinned.checked.prog.funcs[f]? = some fn) :
  false = Tryz.pinned.checked.prog.looks [] /\ ∀ (j : Nat) t, fn.params[j]? = some t -> Tryz.pinned.checked.prog.wantsStandIn t = false := by
 obtain rfl : f = 3 := Ha ((show Tryz.prog.funcNamed Rows.topRefundsUptoRow.func = some 3 by kernel_rfl).symm.trans hf) |>.symm
 obtain rfl : fn = Tryz.f3 := (Ha (Tryz.func3.symm.trans hfn)).symm
 refine ⟨by kernel_rfl, fun j t ht => ?_⟩
 rw [Tryz.params3] at ht
 have hm := Array.mem_of_getElem? ht
 simp only [List.mem_toArray, AN, Dh, or_false] at hm
 rcases hm with rfl | rfl | rfl | rfl | rfl
 ·exact (show Tryz.prog.wantsStandIn 41 = false by kernel_rfl)
 ·exact (show Tryz.prog.wantsStandIn 9 = false by kernel_rfl)
 ·exact (show Tryz.prog.wantsStandIn 3 = false by kernel_rfl)
 ·exact (show Tryz.prog.wantsStandIn 42 = false by kernel_rfl)
 ·exact (show Tryz.prog.wantsStandIn 3 = false by kernel_rfl)
theorem card : Rows.TopRefundsUptoCardSaid :=
 Claim7.holds_tied_plain_at .later [] _ _ _ _ said (fun _ h => by cases h) (by kernel_rfl) (fun _ h => by cases h) topRefundsUpto_row_tie rfl ⟨rfl, rfl⟩ (by kernel_rfl) rfl plain (by kernel_rfl)
end Go.Proofs.YtjkclhbckfkeeaaGreatDoor.fnTopRefundsUpto
