import Derived.Test.YtllhcpjgilpbnaaDoorAv25
import Derived.Test.YtllhcpjgilpbnaaDoorTs12
namespace Go.Proofs.YtllhcpjgilpbnaaDoor
open Go Go.RowKit
set_option linter.unusedSimpArgs false
set_option linter.unusedVariables false
set_option linter.deprecated false
def EStepT (P : Program) (U : Tbl) (tn : List Nat) (d : Option Nat) (f : Nat) (us : List V) (s : St) (K : St → Prop) : Prop :=
  ∃ (L0 L1 : List (Nat × Nat)) (vs : List V) (hl : List (Nat × Ob)) (v : V) (hl' : List (Nat × Ob)), Eff P U f vs hl v hl' ∧ EUse s.h L0 L1 us vs hl v hl' ∧ (∀ p ∈ L0 ++ L1, p.2 ∈ tn) ∧
    K ⟨setE d (v.ren (rn (L0 ++ L1))) s.e, hov (hl'.map fun q => (rn (L0 ++ L1) q.1, q.2.ren (rn (L0 ++ L1)))) s.h⟩
theorem EStepT.to {P : Program} {U : Tbl} {tn : List Nat} {d : Option Nat} {f : Nat} {us : List V} {s : St} {K : St → Prop} (h : EStepT P U tn d f us s K) : EStep P U d f us s K :=
  let ⟨L0, L1, vs, hl, v, hl', h1, h2, _, h3⟩ := h; ⟨L0, L1, vs, hl, v, hl', h1, h2, h3⟩
theorem EStepT.mono {P : Program} {U : Tbl} {tn : List Nat} {d : Option Nat} {f : Nat} {us : List V} {s : St} {K K' : St → Prop} (h : EStepT P U tn d f us s K) (hk : ∀ s', K s' → K' s') : EStepT P U tn d f us s K' :=
  let ⟨L0, L1, vs, hl, v, hl', h1, h2, h4, h3⟩ := h; ⟨L0, L1, vs, hl, v, hl', h1, h2, h4, hk _ h3⟩
def Fp.indepT (f g : Fp) : Bool := !(f.all && g.all) && (apartN f.wr g.rd && apartN f.rd g.wr)
def fpT (i : Nat) (tn : List Nat) : Fp := ⟨i, tn, tn, true⟩
theorem apartN_symm {a b : List Nat} (h : apartN a b = true) : apartN b a = true := List.all_eq_true.2 fun n hn => List.all_eq_true.2 fun m hm => by
  simp only [bne_iff_ne, ne_eq]
  rintro rfl
  exact apartN_spec h hm hn
theorem indepT_symm {f g : Fp} (h : f.indepT g = true) : g.indepT f = true := by
  simp only [Fp.indepT, Bool.and_eq_true] at h ⊢
  obtain ⟨h1, h2, h3⟩ := h
  exact ⟨by rw [Bool.and_comm]; exact h1, apartN_symm h3, apartN_symm h2⟩
def arunT (P : Program) (U : Tbl) (EF : Nat → Bool) (G : Tab) (D : List (List Nat)) (TN : Nat → List Nat) : List (Nat × AO) → List Fp → St → (St → Prop) → Prop
  | [], _, s, K => K s
  | (i, o) :: os, past, s, K => match eCall EF o s with
    | some (f, us) => (∀ f ∈ past, f.i ∈ D.getD i [] ∨ f.indepT (fpT i (TN i)) = true) ∧ EStepT P U (TN i) o.d f us s fun s' => arunT P U EF G D TN os (fpT i (TN i) :: past) s' K
    | none => (o.res G s).φ ∧ (∀ f ∈ past, f.i ∈ D.getD i [] ∨ f.indepT (o.fp i s) = true) ∧ arunT P U EF G D TN os (o.fp i s :: past) (o.next G s) K
section
variable {P : Program} {U : Tbl} {EF : Nat → Bool} {G : Tab} {D : List (List Nat)} {TN : Nat → List Nat}
theorem arunT_past : ∀ {L : List (Nat × AO)} {past past' : List Fp} {s : St} {K : St → Prop}, (∀ f ∈ past', f ∈ past) → arunT P U EF G D TN L past s K → arunT P U EF G D TN L past' s K
  | [], _, _, _, _, _, h => h
  | (i, o) :: L, past, past', s, K, hp, h => by
    have sub : ∀ (x : Fp), ∀ f ∈ x :: past', f ∈ x :: past := fun x f hf => by
      rcases List.mem_cons.1 hf with rfl | hf
      · exact List.mem_cons_self ..
      · exact List.mem_cons_of_mem _ (hp f hf)
    unfold arunT at h ⊢
    split
    · rename_i f us he
      rw [he] at h
      exact ⟨fun f hf => h.1 f (hp f hf), h.2.mono fun s' h3 => arunT_past (sub _) h3⟩
    · rename_i he
      rw [he] at h
      obtain ⟨h1, h2, h3⟩ := h
      exact ⟨h1, fun f hf => h2 f (hp f hf), arunT_past (sub _) h3⟩
theorem EUse.touch {h : Nat → Option Ob} {L0 L1 : List (Nat × Nat)} {us vs : List V} {hl : List (Nat × Ob)} {v : V} {hl' : List (Nat × Ob)} (hu : EUse h L0 L1 us vs hl v hl') {tn : List Nat} (ht : ∀ p ∈ L0 ++ L1, p.2 ∈ tn) : ∀ q ∈ hl'.map (fun q => (rn (L0 ++ L1) q.1, q.2.ren (rn (L0 ++ L1)))), q.1 ∈ tn := by
  intro q hq
  obtain ⟨q0, hq0, rfl⟩ := List.mem_map.1 hq
  have h1 : q0.1 ∈ (L0 ++ L1).map (·.1) := by rw [← hu.n2]; exact List.mem_map.2 ⟨q0, hq0, rfl⟩
  obtain ⟨p, hp, e⟩ := List.mem_map.1 h1
  have hok := hu.okL
  simp only [Go.Proofs.YtllhcpjgilpbnaaDoor.okL, Bool.and_eq_true, decide_eq_true_eq] at hok
  have := rn_mem hok.1 (a := p.1) (b := p.2) hp
  dsimp only
  rw [← e, this]
  exact ht p hp
theorem EUse.congr {h h' : Nat → Option Ob} {L0 L1 : List (Nat × Nat)} {us vs : List V} {hl : List (Nat × Ob)} {v : V} {hl' : List (Nat × Ob)} (hu : EUse h L0 L1 us vs hl v hl') (he : ∀ p ∈ L0 ++ L1, h' p.2 = h p.2) : EUse h' L0 L1 us vs hl v hl' :=
  ⟨hu.okL, hu.n1, hu.n2, hu.big, fun p hp => by rw [he p (List.mem_append_right _ hp)]; exact hu.new p hp, fun p hp => by rw [he p (List.mem_append_left _ hp)]; exact hu.obj p hp, hu.args, hu.argn, hu.vn, hu.on, hu.kind⟩
theorem hov_ne {X : List (Nat × Ob)} {h : Nat → Option Ob} {n : Nat} (hn : ∀ q ∈ X, q.1 ≠ n) : hov X h n = h n := by
  rw [hov_eq, mkH_none fun hm => by obtain ⟨q, hq, e⟩ := List.mem_map.1 hm; exact hn q hq e]
theorem hov_hupds {X w : List (Nat × Ob)} {h : Nat → Option Ob} (hd : ∀ q ∈ X, ∀ p ∈ w, q.1 ≠ p.1) : hov X (hupds h w) = hupds (hov X h) w := by
  induction w generalizing h with
  | nil => rfl
  | cons p w ih =>
    obtain ⟨n, o⟩ := p
    show hov X (hupds (hupd h n o) w) = hupds (hupd (hov X h) n o) w
    rw [ih fun q hq p hp => hd q hq p (List.mem_cons_of_mem _ hp)]
    congr 1
    funext m
    by_cases e : m = n
    · subst e
      rw [hov_ne fun q hq => hd q hq (m, o) (List.mem_cons_self ..), hupd_same, hupd_same]
    · rw [hupd_ne _ _ e, hov_eq, hov_eq, hupd_ne _ _ e]
theorem callT_comm {o : AO} {d : Option Nat} {X : List (Nat × Ob)} {tn : List Nat} {u : V} {s s1 : St} (hs1 : s1 = ⟨setE d u s.e, hov X s.h⟩) (hX : ∀ q ∈ X, q.1 ∈ tn) (ha : ∀ n, d = some n → n ∉ o.slots) (hd : ∀ n m, o.d = some n → d = some m → n ≠ m)
    (hi : (apartN tn (o.rd s) = true ∧ apartN tn (o.wr s) = true) ∨ (apartN tn (o.rd s1) = true ∧ apartN tn (o.wr s1) = true)) :
    o.res G s = o.res G s1 ∧ o.rd s = o.rd s1 ∧ o.wr s = o.wr s1 ∧ o.next G s1 = ⟨setE d u (o.next G s).e, hov X (o.next G s).h⟩ ∧ (∀ n ∈ tn, (o.next G s).h n = s.h n) := by
  have es : ∀ n ∈ o.slots, s.e n = s1.e n := fun n hn => by
    rw [hs1]
    show s.e n = setE d _ s.e n
    cases d with
    | none => rfl
    | some m => show _ = upd s.e m _ n; unfold upd; rw [if_neg (fun e : n = m => ha m rfl (e ▸ hn))]
  have hh : ∀ n, n ∉ tn → s.h n = s1.h n := fun n hn => by
    rw [hs1]; exact (hov_ne fun q hq e => hn (by rw [← e]; exact hX q hq)).symm
  have key : o.res G s = o.res G s1 ∧ o.rd s = o.rd s1 ∧ o.wr s = o.wr s1 := by
    rcases hi with ⟨h1, h2⟩ | ⟨h1, h2⟩
    · exact AO.congr G es fun n hn => hh n fun hc => apartN_spec h1 hc hn
    · obtain ⟨a, b, c⟩ := AO.congr G (o := o) (s := s1) (s' := s) (fun n hn => (es n hn).symm) fun n hn => (hh n fun hc => apartN_spec h1 hc hn).symm
      exact ⟨a.symm, b.symm, c.symm⟩
  obtain ⟨k1, k2, k3⟩ := key
  have hw : apartN tn (o.wr s) = true := by rcases hi with ⟨_, h2⟩ | ⟨_, h2⟩; exact h2; rw [k3]; exact h2
  have hwr : ∀ q ∈ X, ∀ p ∈ (o.res G s).w, q.1 ≠ p.1 := fun q hq p hp e => apartN_spec hw (hX q hq) (by rw [e]; exact o.res_wr G s p hp)
  refine ⟨k1, k2, k3, ?_, fun n hn => ?_⟩
  · rw [AO.next_def G o s1, AO.next_def G o s, ← k1, hov_hupds hwr, hs1]
    show (⟨setE o.d _ (setE d _ s.e), _⟩ : St) = ⟨setE d _ (setE o.d _ s.e), _⟩
    congr 1
    cases hod : o.d with
    | none => cases d <;> rfl
    | some n =>
      cases d with
      | none => rfl
      | some m => exact upd_comm (hd n m hod rfl).symm
  · rw [AO.next_def]
    exact hupds_ne fun p hp e => apartN_spec hw hn (by rw [← e]; exact o.res_wr G s p hp)
theorem arunT_first : ∀ {L1 L2 : List (Nat × AO)} {i : Nat} {o : AO} {past : List Fp} {s : St} {K : St → Prop}, (∀ q ∈ L1, q.1 ∉ D.getD i [] ∧ i ∉ D.getD q.1 [] ∧ o.apart q.2 = true) →
    arunT P U EF G D TN (L1 ++ (i, o) :: L2) past s K → arunT P U EF G D TN ((i, o) :: (L1 ++ L2)) past s K
  | [], _, _, _, _, _, _, _, h => h
  | (j, p) :: L1, L2, i, o, past, s, K, hL, h => by
    obtain ⟨n1, n2, n3⟩ := hL (j, p) (List.mem_cons_self ..)
    rw [List.cons_append] at h
    unfold arunT at h
    have ha := n3
    simp only [AO.apart, Bool.and_eq_true] at ha
    obtain ⟨⟨a1, a2⟩, a3⟩ := ha
    have b1 : ∀ n, o.d = some n → n ∉ p.slots := fun n e hn => by rw [e] at a1; simp at a1; exact a1 hn
    have b2 : ∀ n, p.d = some n → n ∉ o.slots := fun n e hn => by rw [e] at a2; simp at a2; exact a2 hn
    have b3 : ∀ n m, o.d = some n → p.d = some m → n ≠ m := fun n m e1 e2 => by rw [e1, e2] at a3; simpa using a3
    split at h
    · rename_i f us hep
      obtain ⟨h1, M0, M1, vs, hl, v, hl', e1, e2, e3, h3⟩ := h
      have hX := e2.touch e3
      generalize hXd : hl'.map (fun q => (rn (M0 ++ M1) q.1, q.2.ren (rn (M0 ++ M1)))) = X at h3 hX
      obtain ⟨s1, hs1⟩ : ∃ s1 : St, s1 = ⟨setE p.d (v.ren (rn (M0 ++ M1))) s.e, hov X s.h⟩ := ⟨_, rfl⟩
      rw [← hs1] at h3
      have h4 := arunT_first (fun q hq => hL q (List.mem_cons_of_mem _ hq)) h3
      have es1 : ∀ n ∈ o.slots, s1.e n = s.e n := fun n hn => by
        rw [hs1]
        show setE p.d _ s.e n = s.e n
        cases hpd : p.d with
        | none => rfl
        | some m => show upd s.e m _ n = _; unfold upd; rw [if_neg (fun e : n = m => b2 m hpd (e ▸ hn))]
      unfold arunT at h4
      split at h4
      · rename_i f2 us2 heo
        exfalso
        rcases h4.1 (fpT j (TN j)) (List.mem_cons_self ..) with h5 | h5
        · exact n1 h5
        · simp [Fp.indepT, fpT] at h5
      · rename_i heo
        obtain ⟨g1, g2, g3⟩ := h4
        have hind := (g2 (fpT j (TN j)) (List.mem_cons_self ..)).resolve_left n1
        simp only [Fp.indepT, fpT, AO.fp, Bool.and_eq_true] at hind
        obtain ⟨c1, c2, c3, c4, c5⟩ := callT_comm (G := G) (o := o) hs1 hX b2 b3 (.inr hind.2)
        have heo' : eCall EF o s = none := by rw [← eCall_congr es1]; exact heo
        have efp : o.fp i s1 = o.fp i s := by simp only [AO.fp, c2, c3]
        have ep : ∀ n ∈ p.slots, (o.next G s).e n = s.e n := fun n hn => AO.next_e G fun e => b1 n e hn
        unfold arunT
        rw [heo']
        refine ⟨by rw [c1]; exact g1, fun f hf => ?_, ?_⟩
        · rw [← efp]; exact g2 f (List.mem_cons_of_mem _ hf)
        · rw [List.cons_append]
          unfold arunT
          rw [eCall_congr (s' := s) ep, hep]
          refine ⟨fun f hf => ?_, M0, M1, vs, hl, v, hl', e1, e2.congr fun p hp => c5 p.2 (e3 p hp), e3, ?_⟩
          · rcases List.mem_cons.1 hf with rfl | hf
            · refine .inr (indepT_symm ?_)
              simp only [Fp.indepT, fpT, AO.fp, Bool.and_eq_true]
              rw [c2, c3]
              exact hind
            · exact h1 f hf
          · rw [hXd, ← c4]
            refine arunT_past (fun f hf => ?_) g3
            rw [efp]
            simp only [List.mem_cons] at hf ⊢
            rcases hf with hf | hf | hf
            · exact .inr (.inl hf)
            · exact .inl hf
            · exact .inr (.inr hf)
    · rename_i hep
      obtain ⟨h1, h2, h3⟩ := h
      have h4 := arunT_first (fun q hq => hL q (List.mem_cons_of_mem _ hq)) h3
      have eo : ∀ n ∈ o.slots, (p.next G s).e n = s.e n := fun n hn => AO.next_e G fun e => b2 n e hn
      have ep : ∀ n ∈ p.slots, (o.next G s).e n = s.e n := fun n hn => AO.next_e G fun e => b1 n e hn
      unfold arunT at h4
      split at h4
      · rename_i f us heo
        have heo' : eCall EF o s = some (f, us) := by rw [← eCall_congr (s := p.next G s) eo]; exact heo
        obtain ⟨h5, N0, N1, ws, kl, u, kl', q1, q2, q3, q4⟩ := h4
        have hind := (h5 _ (List.mem_cons_self ..)).resolve_left n1
        simp only [Fp.indepT, fpT, AO.fp, Bool.and_eq_true] at hind
        have hX := q2.touch q3
        generalize hXd : kl'.map (fun q => (rn (N0 ++ N1) q.1, q.2.ren (rn (N0 ++ N1)))) = X at q4 hX
        obtain ⟨s1, hs1⟩ : ∃ s1 : St, s1 = ⟨setE o.d (u.ren (rn (N0 ++ N1))) s.e, hov X s.h⟩ := ⟨_, rfl⟩
        obtain ⟨c1, c2, c3, c4, c5⟩ := callT_comm (G := G) (o := p) hs1 hX b1 (fun n m e1 e2 e => b3 m n e2 e1 e.symm) (.inl ⟨apartN_symm hind.2.2, apartN_symm hind.2.1⟩)
        have ep1 : ∀ n ∈ p.slots, s1.e n = s.e n := fun n hn => by
          rw [hs1]
          show setE o.d _ s.e n = s.e n
          cases hod : o.d with
          | none => rfl
          | some m => show upd s.e m _ n = _; unfold upd; rw [if_neg (fun e : n = m => b1 m hod (e ▸ hn))]
        have efp : p.fp j s1 = p.fp j s := by simp only [AO.fp, c2, c3]
        unfold arunT
        rw [heo']
        refine ⟨fun f hf => h5 f (List.mem_cons_of_mem _ hf), N0, N1, ws, kl, u, kl', q1, q2.congr fun p hp => (c5 p.2 (q3 p hp)).symm, q3, ?_⟩
        rw [hXd, ← hs1, List.cons_append]
        unfold arunT
        dsimp only
        rw [eCall_congr (s' := s) ep1, hep]
        refine ⟨by rw [← c1]; exact h1, fun f hf => ?_, ?_⟩
        · rcases List.mem_cons.1 hf with rfl | hf
          · refine .inr (indepT_symm ?_)
            rw [efp]
            simp only [Fp.indepT, fpT, AO.fp, Bool.and_eq_true]
            exact hind
          · rw [efp]; exact h2 f hf
        · rw [c4]
          refine arunT_past (fun f hf => ?_) q4
          rw [efp] at hf
          simp only [List.mem_cons] at hf ⊢
          rcases hf with hf | hf | hf
          · exact .inr (.inl hf)
          · exact .inl hf
          · exact .inr (.inr hf)
      · rename_i heo
        obtain ⟨g1, g2, g3⟩ := h4
        have hind0 : (p.fp j s).indepT (o.fp i (p.next G s)) = true := (g2 _ (List.mem_cons_self ..)).resolve_left n1
        have hind : (p.fp j s).indep (o.fp i (p.next G s)) = true := by simpa [Fp.indepT, Fp.indep, AO.fp] using hind0
        obtain ⟨c1, c2, c3, c4, c5⟩ := AO.comm G n3 hind h1 g1
        have heo' : eCall EF o s = none := by rw [← eCall_congr (s := p.next G s) eo]; exact heo
        have hep' : eCall EF p (o.next G s) = none := by rw [eCall_congr (s' := s) ep]; exact hep
        unfold arunT
        rw [heo']
        refine ⟨c1, fun f hf => ?_, ?_⟩
        · rw [c4]; exact g2 f (List.mem_cons_of_mem _ hf)
        · rw [List.cons_append]
          unfold arunT
          rw [hep']
          refine ⟨c2, fun f hf => ?_, ?_⟩
          · rcases List.mem_cons.1 hf with rfl | hf
            · exact .inr (by rw [c5, c4]; exact indepT_symm hind0)
            · rw [c5]; exact h2 f hf
          · rw [c3, c4, c5]
            refine arunT_past (fun f hf => ?_) g3
            simp only [List.mem_cons] at hf ⊢
            rcases hf with hf | hf | hf
            · exact .inr (.inl hf)
            · exact .inl hf
            · exact .inr (.inr hf)
theorem wpAny_of_arunT {C : Ctx U} {ops : Array Oper} {aos : List AO} {D : List (List Nat)} {Q' : Exit → Act → World → Prop} (hG : ∀ f, PureC P U f (G f)) (hok : okReg ops aos D = true) (haos : ∀ (i : Nat) (o : Oper), ops[i]? = some o → ∃ ao, aos[i]? = some ao ∧ TrO P C.N ops o ao)
    {K : St → Prop} (hK : ∀ s' a' w' M' ι', K s' → Good C s' a' w' M' ι' → Q' .normal a' w') : ∀ (n : Nat) (L : List (Nat × AO)) (listed : Array Bool) (past : List Fp) (s : St) (a : Act) (w : World) (M : Nat → Prop) (ι : Nat → Value), L.length = n → listed.size = ops.size →
    L.Pairwise (fun p q => p.1 < q.1) → (∀ p ∈ L, aos[p.1]? = some p.2) → (∀ i : Nat, i < ops.size → (listed.getD i true = false ↔ ∃ o, (i, o) ∈ L)) → (∀ p ∈ L, p.1 < ops.size) →
    (∀ k, k < ops.size → listed.getD k false = true → ∀ j ∈ dirR ops k, listed.getD j false = true) → Good C s a w M ι → arunT P U EF G D TN L past s K → wpAny P .any ops Q' n listed a w
  | 0, L, listed, past, s, a, w, M, ι, hn, hsz, hpw, hL, hun, hlt, hcl, hg, h => by
    obtain rfl := List.length_eq_zero_iff.1 hn
    refine ⟨?_, hK s a w M ι h hg⟩
    refine List.eq_nil_iff_forall_not_mem.2 fun j hj => ?_
    obtain ⟨h1, o, h2, _⟩ := mem_ready.1 hj
    obtain ⟨_, h3⟩ := (hun j (Array.getElem?_eq_some_iff.1 h2).1).1 h1
    cases h3
  | n + 1, L, listed, past, s, a, w, M, ι, hn, hsz, hpw, hL, hun, hlt, hcl, hg, h => by
    have td : ∀ {k : Nat}, k < ops.size → (listed.getD k true = false ∨ listed.getD k false = true) := fun {k} hk => by
      have : k < listed.size := by omega
      simp [Array.getD, this]
    refine ⟨fun hr => ?_, fun i hi => ?_⟩
    · exfalso
      cases L with
      | nil => cases hn
      | cons p L' =>
        obtain ⟨i0, o0⟩ := p
        have hi0 : i0 < ops.size := hlt (i0, o0) (List.mem_cons_self ..)
        have : i0 ∈ Region.ready .any ops listed := by
          refine mem_ready.2 ⟨(hun i0 hi0).2 ⟨o0, List.mem_cons_self ..⟩, ops[i0], Array.getElem?_eq_getElem hi0, fun e he hb => ?_⟩
          have hm := mem_dirR (Array.getElem?_eq_getElem hi0) he hb
          have hlt' := (okReg_spec hok hi0).1 _ hm
          rcases td (k := e.on) (by omega) with hu | hu
          · obtain ⟨o', ho'⟩ := (hun e.on (by omega)).1 hu
            rcases List.mem_cons.1 ho' with e1 | e1
            · injection e1 with e1; omega
            · have := (List.pairwise_cons.1 hpw).1 _ e1
              dsimp only at this
              omega
          · exact hu
        rw [hr] at this
        cases this
    · obtain ⟨h1, o', h2, h3⟩ := mem_ready.1 hi
      have hlti : i < ops.size := (Array.getElem?_eq_some_iff.1 h2).1
      obtain ⟨o, ho⟩ := (hun i hlti).1 h1
      obtain ⟨L1, L2, rfl⟩ := List.append_of_mem ho
      have hdir : ∀ j ∈ dirR ops i, listed.getD j false = true := by
        intro j hj
        unfold dirR at hj
        rw [h2] at hj
        obtain ⟨e, he, rfl⟩ := List.mem_map.1 hj
        obtain ⟨he1, he2⟩ := List.mem_filter.1 he
        exact h3 e (by simpa using he1) he2
      have hw := waits_listed hok hsz hcl i hlti hdir
      have hpw2 := List.pairwise_append.1 hpw
      have hfirst : ∀ q ∈ L1, q.1 ∉ D.getD i [] ∧ i ∉ D.getD q.1 [] ∧ o.apart q.2 = true := by
        intro q hq
        have hqlt : q.1 < i := hpw2.2.2 q hq (i, o) (List.mem_cons_self ..)
        have hqm : q ∈ L1 ++ (i, o) :: L2 := List.mem_append_left _ hq
        have hqs := hlt q hqm
        have hunq := (hun q.1 hqs).2 ⟨q.2, hqm⟩
        have n1 : q.1 ∉ D.getD i [] := fun hm => by
          have := hw _ hm
          have hs : q.1 < listed.size := by omega
          simp [Array.getD, hs] at hunq this
          rw [hunq] at this
          cases this
        refine ⟨n1, fun hm => ?_, ?_⟩
        · have := ((okReg_spec hok hqs).2.1 i hm).1
          omega
        · have := ((okReg_spec hok hlti).2.2 q.1 hqlt).resolve_left n1
          have e1 : aos.getD i default = o := by rw [List.getD_eq_getElem?_getD, hL (i, o) (List.mem_append_right _ (List.mem_cons_self ..))]; rfl
          have e2 : aos.getD q.1 default = q.2 := by rw [List.getD_eq_getElem?_getD, hL q hqm]; rfl
          rwa [e1, e2] at this
      have h4 := arunT_first hfirst h
      obtain ⟨ao, k1, k2⟩ := haos i o' h2
      have hao : ao = o := by
        have := hL (i, o) (List.mem_append_right _ (List.mem_cons_self ..))
        dsimp only at this
        rw [k1] at this
        exact Option.some.inj this
      subst hao
      unfold wpOp
      rw [h2]
      dsimp only
      have hrec : ∀ {past' : List Fp} {s' : St} {a' : Act} {w' : World} {M' : Nat → Prop} {ι' : Nat → Value}, Good C s' a' w' M' ι' → arunT P U EF G D TN (L1 ++ L2) past' s' K → wpAny P .any ops Q' n (listed.setIfInBounds i true) a' w' := by
        intro past' s' a' w' M' ι' hg' h3
        refine wpAny_of_arunT hG hok haos hK n (L1 ++ L2) (listed.setIfInBounds i true) _ _ a' w' M' ι' ?_ (by simpa using hsz) ?_ ?_ ?_ ?_ ?_ hg' h3
        · simp only [List.length_append, List.length_cons] at hn ⊢; omega
        · refine List.pairwise_append.2 ⟨hpw2.1, (List.pairwise_cons.1 hpw2.2.1).2, fun x hx y hy => hpw2.2.2 x hx y (List.mem_cons_of_mem _ hy)⟩
        · intro p hp
          refine hL p ?_
          simp only [List.mem_append, List.mem_cons] at hp ⊢
          exact hp.imp id .inr
        · intro k hk
          by_cases e : k = i
          · subst e
            have hs : k < listed.size := by omega
            constructor
            · intro hf; simp [Array.getD, hs] at hf
            · rintro ⟨o2, ho2⟩
              exfalso
              rcases List.mem_append.1 ho2 with hm | hm
              · have := hpw2.2.2 _ hm (k, ao) (List.mem_cons_self ..)
                dsimp only at this; omega
              · have := (List.pairwise_cons.1 hpw2.2.1).1 _ hm
                dsimp only at this; omega
          · rw [getD_set_ne true (Ne.symm e), hun k hk]
            constructor
            · rintro ⟨o2, ho2⟩
              refine ⟨o2, ?_⟩
              simp only [List.mem_append, List.mem_cons] at ho2 ⊢
              rcases ho2 with hm | hm | hm
              · exact .inl hm
              · injection hm with hm _; exact absurd hm e
              · exact .inr hm
            · rintro ⟨o2, ho2⟩
              refine ⟨o2, ?_⟩
              simp only [List.mem_append, List.mem_cons] at ho2 ⊢
              exact ho2.imp id .inr
        · intro p hp
          refine hlt p ?_
          simp only [List.mem_append, List.mem_cons] at hp ⊢
          exact hp.imp id .inr
        · intro k hk hlk j hj
          by_cases e : k = i
          · subst e; exact getD_set_true (hdir j hj)
          · rw [getD_set_ne false (Ne.symm e)] at hlk
            exact getD_set_true (hcl k hk hlk j hj)
      have hstep : if Region.wanted o' (yielded ops a.tmps) = true then o'.wp P a w (wpAny P .any ops Q' n (listed.setIfInBounds i true)) Q' else (wpAny P .any ops Q' n (listed.setIfInBounds i true)) (a.put o'.dst undef) w := by
        unfold arunT at h4
        split at h4
        · rename_i f us he
          exact step_estepR k2 hg he h4.2.to fun s' a' w' M' ι' h3 hg' => hrec hg' h3
        · exact step_simR (Q := Q') k2 hG hg h4.1 fun a' w' M' ι' hg' => hrec hg' h4.2.2
      split
      · rename_i hwt; rw [if_pos hwt] at hstep; exact .inl hstep
      · rename_i hwt; rw [if_neg hwt] at hstep; exact hstep
def arunTB (P : Program) (U : Tbl) (EF : Nat → Bool) (G : Tab) (D : List (List Nat)) (TN : Nat → List Nat) : List (Nat × AO) → List Fp → St → (St → Prop) → Prop
  | [], _, s, K => K s
  | (i, o) :: os, past, s, K => match eCall EF o s with
    | some (f, us) => (past.all fun f => (D.getD i []).contains f.i || f.indepT (fpT i (TN i))) = true ∧ EStepT P U (TN i) o.d f us s fun s' => arunTB P U EF G D TN os (fpT i (TN i) :: past) s' K
    | none => (o.res G s).φ ∧ (past.all fun f => (D.getD i []).contains f.i || f.indepT (o.fp i s)) = true ∧ arunTB P U EF G D TN os (o.fp i s :: past) (o.next G s) K
theorem arunT_of_B : ∀ {L : List (Nat × AO)} {past : List Fp} {s : St} {K : St → Prop}, arunTB P U EF G D TN L past s K → arunT P U EF G D TN L past s K
  | [], _, _, _, h => h
  | (i, o) :: L, past, s, K, h => by
    unfold arunTB at h
    unfold arunT
    split
    · rename_i f us he
      rw [he] at h
      exact ⟨fun f hf => by simpa only [Bool.or_eq_true, List.contains_iff_mem] using List.all_eq_true.1 h.1 f hf, h.2.mono fun s' h3 => arunT_of_B h3⟩
    · rename_i he
      rw [he] at h
      obtain ⟨h1, h2, h3⟩ := h
      exact ⟨h1, fun f hf => by
        have := List.all_eq_true.1 h2 f hf
        simpa only [Bool.or_eq_true, List.contains_iff_mem] using this, arunT_of_B h3⟩
theorem aw_regionT0 {C : Ctx U} {s : St} {Q : Exit → St → Prop} {id : Nat} {ops : Array Oper} {aos : List AO} (hG : ∀ f, PureC P U f (G f)) (hm : P.follows .mixedOrders = true) (g1 : aos.length = ops.size) (g2 : ∀ (i : Nat) (o : Oper), ops[i]? = some o → ∃ ao, aos[i]? = some ao ∧ TrO P C.N ops o ao) (hok : okReg ops aos D = true) (h : arunTB P U EF G D TN (numb 0 aos) [] s (Q .normal)) :
    AW P C (.region id ops true) Q s := fun a w M ι hg => by
  refine wp_region_any hm ?_
  obtain ⟨n1, n2, n3, n4⟩ := numb_spec aos 0
  have hg' : Good C s a { w with drawn := w.drawn + 1 } M ι := by
    have hk : Rel M w ι s.h = Rel M w ι s.h := rfl
    refine ⟨⟨fun n ob hn => (hg.mem.obj n ob hn).keep (w' := { w with drawn := w.drawn + 1 }) (fun _ h => h) (fun _ _ => rfl) (Keeps.refl _ _) rfl (fun _ _ => rfl), hg.mem.dis, hg.mem.imm, hg.mem.lt, hg.mem.may, hg.mem.size, hg.mem.keep, hg.mem.os, hg.mem.tape, hg.mem.output, hg.mem.base, U.keep w { w with drawn := w.drawn + 1 } (fun _ _ => rfl) hg.mem.tb, hg.mem.tm, hg.mem.old, hg.mem.arr0, hg.mem.pin⟩,
      fun t => Rel.keep (w := w) (w' := { w with drawn := w.drawn + 1 }) (fun _ h => h) (fun _ _ => rfl) (Keeps.refl _ _) (hg.env t), hg.dfr, hg.num⟩
  have hlen : aos.length = ops.size := g1
  have hrep : ∀ k, k < ops.size → (Array.replicate ops.size false).getD k true = false ∧ (Array.replicate ops.size false).getD k false = false := fun k hk => by simp [hk]
  refine wpAny_of_arunT hG hok g2 (K := Q .normal) (fun s' a' w' M' ι' h1 h2 => ⟨s', M', ι', h1, h2⟩) ops.size (numb 0 aos) _ [] s a _ M ι (n1.trans hlen) (by simp) n3
    (fun p hp => by have := (n2 p hp).2; simpa using this) (fun i hi => ⟨fun _ => by have := n4 i (by omega); rwa [Nat.zero_add] at this, fun _ => (hrep i hi).1⟩)
    (fun p hp => by have := (List.getElem?_eq_some_iff.1 (n2 p hp).2).1; omega) (fun k hk hlk => by rw [(hrep k hk).2] at hlk; cases hlk) hg' (arunT_of_B h)
theorem aw_regionT {C : Ctx U} {s : St} {Q : Exit → St → Prop} {id : Nat} {ops : Array Oper} {aos : List AO} (TN : Nat → List Nat) (hG : ∀ f, PureC P U f (G f)) (hm : P.follows .mixedOrders = true) (ht : ops.toList.mapM (trO P C.N ops) = some aos) (hok : okReg ops aos D = true) (h : arunTB P U EF G D TN (numb 0 aos) [] s (Q .normal)) :
    AW P C (.region id ops true) Q s :=
  aw_regionT0 hG hm (by simpa using (mapM_idx ht).1) (fun i o hi => by obtain ⟨ao, h1, h2⟩ := (mapM_idx ht).2 i o (by simpa using hi); exact ⟨ao, h1, ao, h2, .inl rfl⟩) hok h
theorem use_famT {tn : List Nat} {K K1 : List Nat} {hl hl' : (Nat → Nat) → List (Nat × Ob)} {ar vf : (Nat → Nat) → List V} {us : List V} {v : V} (ν0 ν : Nat → Nat) {d : Option Nat} {f : Nat} {s : St} {Kc : St → Prop} (hF : Fam K K hl) (hF' : Fam (K ++ K1) (K ++ K1) hl') (hA : FamV K ar) (hV : FamV (K ++ K1) vf)
    (E : Eff P U f (ar ν0) (hl ν0) v (hl' ν0)) (ev : vf ν0 = [v]) (eu : ar ν = us) (big : ∀ k ∈ K, 1000 ≤ ν0 k) (i0 : ((K ++ K1).map ν0).Nodup) (i1 : ((K ++ K1).map ν).Nodup) (new : ∀ k ∈ K1, s.h (ν k) = none ∧ ν k < 1000)
    (at' : ∀ q ∈ hl ν, s.h q.1 = some q.2) (tg : ∃ z, (hl' ν0).map (fun q => (q.1, q.2.tag)) = (hl ν0).map (fun q => (q.1, q.2.tag)) ++ z)
    (hK : ∀ v', vf ν = [v'] → Kc ⟨setE d v' s.e, hov (hl' ν) s.h⟩) (htn : ∀ k ∈ K ++ K1, ν k ∈ tn) : EStepT P U tn d f us s Kc := by
  subst eu
  have e1 : ∀ (L : List Nat), (L.map fun k => (ν0 k, ν k)).map (·.1) = L.map ν0 := fun L => by rw [List.map_map]; rfl
  have e2 : ∀ (L : List Nat), (L.map fun k => (ν0 k, ν k)).map (·.2) = L.map ν := fun L => by rw [List.map_map]; rfl
  have i0K : (K.map ν0).Nodup := by rw [List.map_append] at i0; exact nodup_append_left i0
  have i1K : (K.map ν).Nodup := by rw [List.map_append] at i1; exact nodup_append_left i1
  have app : ((K.map fun k => (ν0 k, ν k)) ++ K1.map fun k => (ν0 k, ν k)) = (K ++ K1).map fun k => (ν0 k, ν k) := (List.map_append).symm
  have hrn : ∀ k ∈ K ++ K1, rn ((K.map fun k => (ν0 k, ν k)) ++ K1.map fun k => (ν0 k, ν k)) (ν0 k) = ν k := fun k hk => by
    rw [app]; exact rn_mem (by rw [e1]; exact i0) (List.mem_map.2 ⟨k, hk, rfl⟩)
  have hrni : ∀ k ∈ K, rni (K.map fun k => (ν0 k, ν k)) (ν k) = ν0 k := fun k hk => rni_mem (by rw [e2]; exact i1K) (List.mem_map.2 ⟨k, hk, rfl⟩)
  obtain ⟨v', hv'⟩ : ∃ v', vf ν = [v'] := by
    have := hV.rn hrn
    rw [ev] at this
    exact ⟨_, this.symm⟩
  have ev2 : v.ren (rn ((K.map fun k => (ν0 k, ν k)) ++ K1.map fun k => (ν0 k, ν k))) = v' := by
    have := hV.rn hrn
    rw [ev, hv'] at this
    simp only [V.rens, List.cons.injEq, and_true] at this
    exact this
  refine ⟨K.map fun k => (ν0 k, ν k), K1.map fun k => (ν0 k, ν k), ar ν0, hl ν0, v, hl' ν0, E, ⟨?_, by rw [hF.nm, e1], by rw [hF'.nm, app, e1], fun p hp => ?_, fun p hp => ?_, fun p hp => ?_, hA.rn hrni, hA.ni fun k hk => by rw [e2]; exact List.mem_map.2 ⟨k, hk, rfl⟩, ?_, ?_, fun p hp o o' h1 h2 => ?_⟩, fun p hp => ?_, ?_⟩
  · rw [app]; simp only [okL, Bool.and_eq_true, decide_eq_true_eq]
    exact ⟨by rw [e1]; exact i0, by rw [e2]; exact i1⟩
  · obtain ⟨k, hk, rfl⟩ := List.mem_map.1 hp; exact big k hk
  · obtain ⟨k, hk, rfl⟩ := List.mem_map.1 hp; exact new k hk
  · obtain ⟨k, hk, rfl⟩ := List.mem_map.1 hp
    have : ν k ∈ (hl ν).map (·.1) := by rw [hF.nm]; exact List.mem_map.2 ⟨k, hk, rfl⟩
    obtain ⟨q, hq, eq⟩ := List.mem_map.1 this
    refine ⟨q.2, by have := at' q hq; rwa [eq] at this, ?_, ?_⟩
    · have hq0 : (ν0 k, q.2.ren (rni (K.map fun k => (ν0 k, ν k)))) ∈ hl ν0 := by
        rw [← hF.rn hrni]
        exact List.mem_map.2 ⟨q, hq, by rw [eq, hrni k hk]⟩
      exact mkH_at (by rw [hF.nm]; exact i0K) hq0
    · exact hF.ni (D := (K.map fun k => (ν0 k, ν k)).map (·.2)) (fun k hk => by rw [e2]; exact List.mem_map.2 ⟨k, hk, rfl⟩) q hq
  · have := hV.ni (ν := ν0) (D := (hl' ν0).map (·.1)) fun k hk => by rw [hF'.nm]; exact List.mem_map.2 ⟨k, hk, rfl⟩
    rw [ev] at this
    simpa only [V.nins, Bool.and_true] using this
  · exact hF'.ni fun k hk => by rw [hF'.nm]; exact List.mem_map.2 ⟨k, hk, rfl⟩
  · exact Ob.kind_tag (tags_at tg h1 h2)
  · rw [app] at hp; obtain ⟨k, hk, rfl⟩ := List.mem_map.1 hp; exact htn k hk
  · rw [ev2, hF'.rn hrn]
    exact hK v' hv'
end
attribute [go_sem] arunTB fpT Fp.indepT
set_option linter.unusedSimpArgs false
set_option linter.unusedVariables false
set_option linter.deprecated false
theorem fCheck_eq (l : List Config) : gOf aCheck fCheck [.list (l.map Config.enc) false] = (SmallL l, .list (faults (confFaults l)) false) := gOf_eq aCheck_inj l
noncomputable def tNw : Tab
  | 19 => (gOf aCheck fCheck)
  | 4 => (gOf aCheck fCheck)
  | _ => gNo
theorem tNw_ok : ∀ f, PureC Tryd.prog UT f (tNw f) := fun f => by
  unfold tNw
  split
  · exact check_p
  · exact rcheck_p
  · exact PureC.no
theorem new_e (cs : List Config) (hs : SmallL cs) (h0 : confFaults cs = []) : Eff Tryd.prog UT 6 [.list (cs.map Config.enc) false] [] (.tup [.ptr 14 0, .nils]) [(14, .box 63 [.list (cs.map Config.enc) false, .map 12]), (12, .mp [])] := by
  have hG := tNw_ok
  have hf : faults (confFaults cs) = [] := by rw [h0]; rfl
  refine Eff.of_aw Tryd.func6 body6 nm6 res6 (by rw [nt6]; simp) fun C hN Q hQ => ?_
  rw [nt6] at hN
  unfold c6
  refine aw_seq (aw_region (EF := EF0) hG (by rw [hN]; exact tr6_0) ?_)
  simp only [a6_0, go_sem, simprocAttr, tNw, fCheck_eq, hf, List.length_nil]
  refine aw_seq ?_
  refine aw_seq (aw_region (EF := EF0) hG (by rw [hN]; exact tr6_1) ?_)
  simp only [a6_1, go_sem, simprocAttr, hs, tNw, fCheck_eq, hf, List.length_nil]
  (repeat' apply And.intro) <;> try exact sdA
  refine aw_seq (aw_region (EF := EF0) hG (by rw [hN]; exact tr6_2) ?_)
  simp only [a6_2, go_sem, simprocAttr, tNw, fCheck_eq, hf, List.length_nil]
  refine aw_condF rfl ?_
  refine aw_skip ?_
  try simp only [go_sem, simprocAttr]
  refine aw_seq (aw_region (EF := EF0) hG (by rw [hN]; exact tr6_4) ?_)
  simp only [a6_4, go_sem, simprocAttr, tNw, fCheck_eq, hf, List.length_nil]
  refine aw_ret ?_
  show Q _ _
  refine hQ _ _ ⟨mkE [(2, .ptr 14 0), (3, .nils)], mkH ([(14, .box 63 [.list (cs.map Config.enc) false, .map 12]), (12, .mp [])])⟩ (.inl rfl) (Le.mk _ _ ?_ ?_ rfl) rfl ?_ ?_ <;> simp only [outφ, outV, AR.res, go_sem, simprocAttr, h0]
theorem new_use {d : Option Nat} {s : St} {K : St → Prop} {cs : List Config} {ν : Nat → Nat} (hs : SmallL cs) (h0 : confFaults cs = []) (hν : Inj ν) (n0 : s.h (ν 0) = none ∧ ν 0 < 1000) (n1 : s.h (ν 1) = none ∧ ν 1 < 1000) (hK : K ⟨setE d (.tup [.ptr (ν 0) 0, .nils]) s.e, hov (stO ν cs []) s.h⟩) : EStep Tryd.prog UT d 6 [.list (cs.map Config.enc) false] s K := by
  have hF : Fam ([] ++ [0, 1]) ([] ++ [0, 1]) (fun ν => stO ν cs []) := stO_fam cs []
  refine use_fam (K := []) (K1 := [0, 1]) (hl := fun _ => []) (hl' := fun ν => stO ν cs []) (ar := fun _ => [.list (cs.map Config.enc) false]) (vf := fun ν => [.tup [.ptr (ν 0) 0, .nils]]) (fun k => 14 - 2 * k) ν (Fam.nil _) hF (FamV.pure rfl fun _ => by simp [V.nins, V.nin]) ⟨fun hs => by simp only [V.rens, V.ren, hs 0 (by simp)], fun hs => by simp only [V.nins, V.nin, Bool.and_true, List.contains_iff_mem, hs 0 (by simp), decide_true]⟩
    (new_e cs hs h0) rfl rfl (fun k hk => nomatch hk) (by decide) (hν.nd (by decide)) (fun k hk => ?_) (fun q hq => nomatch hq) ⟨_, rfl⟩ fun v' hv' => ?_
  · simp only [List.mem_cons, List.not_mem_nil, or_false] at hk
    rcases hk with rfl | rfl
    · exact n0
    · exact n1
  · injection hv' with hv' _
    subst hv'
    exact hK
theorem rnew_e (cs : List Config) (hs : SmallL cs) (h0 : confFaults cs = []) : Eff Tryd.prog UT 7 [.list (cs.map Config.enc) false] [] (.tup [.ptr 13 0, .nils]) [(13, .box 66 [.bool true, .list (cs.map Config.enc) false, .nils])] := by
  have hG := tNw_ok
  have hf : faults (confFaults cs) = [] := by rw [h0]; rfl
  refine Eff.of_aw Tryd.func7 body7 nm7 res7 (by rw [nt7]; simp) fun C hN Q hQ => ?_
  rw [nt7] at hN
  unfold c7
  refine aw_seq (aw_region (EF := EF0) hG (by rw [hN]; exact tr7_0) ?_)
  simp only [a7_0, go_sem, simprocAttr, tNw, fCheck_eq, hf, List.length_nil]
  refine aw_seq (aw_region (EF := EF0) hG (by rw [hN]; exact tr7_1) ?_)
  simp only [a7_1, go_sem, simprocAttr, hs, tNw, fCheck_eq, hf, List.length_nil]
  (repeat' apply And.intro) <;> try exact sdA
  refine aw_seq ?_
  refine aw_seq (aw_region (EF := EF0) hG (by rw [hN]; exact tr7_2) ?_)
  simp only [a7_2, go_sem, simprocAttr, tNw, fCheck_eq, hf, List.length_nil]
  refine aw_condF rfl ?_
  refine aw_skip ?_
  try simp only [go_sem, simprocAttr]
  refine aw_seq (aw_region (EF := EF0) hG (by rw [hN]; exact tr7_4) ?_)
  simp only [a7_4, go_sem, simprocAttr, tNw, fCheck_eq, hf, List.length_nil]
  refine aw_ret ?_
  show Q _ _
  refine hQ _ _ ⟨mkE [(2, .ptr 13 0), (3, .nils)], mkH ([(13, .box 66 [.bool true, .list (cs.map Config.enc) false, .nils])])⟩ (.inl rfl) (Le.mk _ _ ?_ ?_ rfl) rfl ?_ ?_ <;> simp only [outφ, outV, AR.res, go_sem, simprocAttr, h0]
theorem rnew_use {d : Option Nat} {s : St} {K : St → Prop} {cs : List Config} {n : Nat} (hs : SmallL cs) (h0 : confFaults cs = []) (hn : s.h n = none) (h1 : n < 1000) (hK : K ⟨setE d (.tup [.ptr n 0, .nils]) s.e, hupd s.h n (.box 66 [.bool true, .list (cs.map Config.enc) false, .nils])⟩) : EStep Tryd.prog UT d 7 [.list (cs.map Config.enc) false] s K := by
  have hF : Fam ([] ++ [0]) ([] ++ [0]) (fun ν => [(ν 0, .box 66 [.bool true, .list (cs.map Config.enc) false, .nils])]) := Fam.one (o := fun _ => .box 66 [.bool true, .list (cs.map Config.enc) false, .nils]) (List.mem_cons_self ..) (fun _ => by simp [Ob.ren, V.rens, V.ren]) (fun _ => by simp [Ob.nin, V.nins, V.nin])
  refine use_fam (K := []) (K1 := [0]) (hl := fun _ => []) (ar := fun _ => [.list (cs.map Config.enc) false]) (vf := fun ν => [.tup [.ptr (ν 0) 0, .nils]]) (fun k => 13 + k) (fun k => n + k) (Fam.nil _) hF (FamV.pure rfl fun _ => by simp [V.nins, V.nin]) ⟨fun hs => by simp only [V.rens, V.ren, hs 0 (by simp)], fun hs => by simp only [V.nins, V.nin, Bool.and_true, List.contains_iff_mem, hs 0 (by simp), decide_true]⟩
    (rnew_e cs hs h0) rfl rfl (fun k hk => nomatch hk) (by simp) (by simp) (fun k hk => ?_) (fun q hq => nomatch hq) ⟨_, rfl⟩ fun v' hv' => ?_
  · simp only [List.mem_cons, List.not_mem_nil, or_false] at hk
    subst hk
    exact ⟨hn, h1⟩
  · injection hv' with hv' _
    subst hv'
    have e : hov [(n + 0, Ob.box 66 [.bool true, .list (cs.map Config.enc) false, .nils])] s.h = hupd s.h n (.box 66 [.bool true, .list (cs.map Config.enc) false, .nils]) := by
      funext m; rfl
    rw [e]; exact hK
def emptyS (l : List Cabin) : List (List Int) := l.map fun y => List.replicate y.cl.length 0
def emO (ν : Nat → Nat) (S : List (List Int)) : List (Nat × Ob) := (ν 0, .arr 82 1 (soH (fun k => ν (k + 1)) S)) :: soO (fun k => ν (k + 1)) S
def emK (S : List (List Int)) : List Nat := 0 :: (soK S).map (· + 1)
theorem emK_nd (S : List (List Int)) : (emK S).Nodup := List.nodup_cons.2 ⟨fun h => by obtain ⟨a, _, e⟩ := List.mem_map.1 h; omega, nodup_map (soK_nd S) fun a _ b _ e => by omega⟩
theorem emO_fam (S : List (List Int)) : Fam (emK S) (emK S) (fun ν => emO ν S) :=
  Fam.cons (o := fun ν => .arr 82 1 (soH (fun k => ν (k + 1)) S)) (List.mem_cons_self ..) (fun hs => by rw [Ob.ren, soH_ren fun k hk => hs (k + 1) (List.mem_cons_of_mem _ (List.mem_map.2 ⟨k, hk, rfl⟩))])
    (fun hs => .inr (soH_nin fun k hk => hs (k + 1) (List.mem_cons_of_mem _ (List.mem_map.2 ⟨k, hk, rfl⟩)))) (((soO_fam S).at (· + 1)).mono fun k hk => List.mem_cons_of_mem _ hk)
theorem soO_app : ∀ (ν : Nat → Nat) (S : List (List Int)) (r : List Int), soO ν (S ++ [r]) = soO ν S ++ [(ν S.length, .arr 3 1 (ints r))]
  | ν, [], r => rfl
  | ν, q :: S, r => by rw [List.cons_append, soO, soO, soO_app]; rfl
theorem soH_app : ∀ (ν : Nat → Nat) (S : List (List Int)) (r : List Int), soH ν (S ++ [r]) = soH ν S ++ [[.own (ν S.length) r.length]]
  | ν, [], r => rfl
  | ν, q :: S, r => by rw [List.cons_append, soH, soH, soH_app]; rfl
def e5 (k : Nat) : Nat := 500 + k
theorem e5_inj : Inj e5 := fun a b e => by unfold e5 at e; omega
theorem soO_ge {S : List (List Int)} : ∀ q ∈ soO e5 S, 500 ≤ q.1 ∧ q.1 < 500 + S.length := fun q hq => by
  obtain ⟨i, hi, rfl⟩ := soO_is hq
  show 500 ≤ e5 i ∧ e5 i < _
  unfold e5; omega
theorem soO_at {S : List (List Int)} : ∀ q ∈ soO e5 S, mkH (soO e5 S) q.1 = some q.2 := fun _ hq => mkH_at (by rw [(soO_fam S).nm]; exact e5_inj.nd (soK_nd S)) hq
theorem soO_lo {S : List (List Int)} {m : Nat} (h : m < 500) : mkH (soO e5 S) m = none := mkH_none fun hm => by
  obtain ⟨q, hq, e⟩ := List.mem_map.1 hm
  have := soO_ge q hq
  omega
theorem Le.addrow {e : Nat → V} {h : Nat → Option Ob} (l : List (Nat × V)) (pre : List (Nat × Ob)) (S : List (List Int)) (r : List Int) (m d : Nat) (hm : m < 500) (hd : d < 500) (hmd : m ≠ d) (hS : S.length < 400)
    (hp1 : ∀ q ∈ pre, h q.1 = some q.2 ∧ q.1 < 500 ∧ q.1 ≠ d) (hp2 : ∀ q ∈ pre, q.2.ren (fun n => if n = d then 500 + S.length else n) = q.2) (hp3 : ∀ D, (∀ n, n ∈ m :: pre.map (·.1) → n ∈ D) → ∀ q ∈ pre, q.2.nin D)
    (h1 : h m = some (.arr 82 1 (soH e5 S ++ [[.own d r.length]]))) (h2 : h d = some (.arr 3 1 (ints r))) (h3 : ∀ q ∈ soO e5 S, h q.1 = some q.2)
    (hl1 : ∀ p ∈ l, e p.1 = p.2 ∧ p.2.ren (fun n => if n = d then 500 + S.length else n) = p.2) (hl2 : ∀ D, (∀ n, n ∈ m :: pre.map (·.1) → n ∈ D) → ∀ p ∈ l, p.2.nin D = true) :
    Le ⟨e, h⟩ ⟨mkE l, mkH (pre ++ ((m, .arr 82 1 (soH e5 (S ++ [r]))) :: soO e5 (S ++ [r])))⟩ := by
  have hge : ∀ q ∈ soO e5 S, 500 ≤ q.1 ∧ q.1 < 500 + S.length := soO_ge
  have nmem : ∀ n, n ∈ (pre ++ ((m, Ob.arr 82 1 (soH e5 S ++ [[.own d r.length]])) :: (soO e5 S ++ [(d, Ob.arr 3 1 (ints r))]))).map (·.1) ↔ n ∈ pre.map (·.1) ∨ n = m ∨ n ∈ (soO e5 S).map (·.1) ∨ n = d := fun n => by
    simp only [List.map_append, List.map_cons, List.map_nil, List.mem_append, List.mem_cons, List.not_mem_nil, or_false]
  have sub : ∀ n, n ∈ m :: pre.map (·.1) → n ∈ (pre ++ ((m, Ob.arr 82 1 (soH e5 S ++ [[.own d r.length]])) :: (soO e5 S ++ [(d, Ob.arr 3 1 (ints r))]))).map (·.1) := fun n hn => by
    rw [nmem]
    rcases List.mem_cons.1 hn with rfl | hn
    · exact .inr (.inl rfl)
    · exact .inl hn
  have rng : ∀ n, n ∈ (pre ++ ((m, Ob.arr 82 1 (soH e5 S ++ [[.own d r.length]])) :: (soO e5 S ++ [(d, Ob.arr 3 1 (ints r))]))).map (·.1) → n = d ∨ (n ≠ d ∧ n < 500 + S.length) := fun n hn => by
    rw [nmem] at hn
    rcases hn with hn | rfl | hn | rfl
    · obtain ⟨q, hq, rfl⟩ := List.mem_map.1 hn
      have := (hp1 q hq).2; exact .inr ⟨this.2, by omega⟩
    · exact .inr ⟨hmd, by omega⟩
    · obtain ⟨q, hq, rfl⟩ := List.mem_map.1 hn
      have := hge q hq; exact .inr ⟨by omega, by omega⟩
    · exact .inl rfl
  refine Le.re (fun n => if n = d then 500 + S.length else n) l l (pre ++ ((m, Ob.arr 82 1 (soH e5 S ++ [[.own d r.length]])) :: (soO e5 S ++ [(d, Ob.arr 3 1 (ints r))]))) _ (fun q hq => ?_) (fun p hp => ⟨(hl1 p hp).1, hl2 _ sub p hp⟩) (fun q hq => ?_) (fun a ha b hb e => ?_) (fun q hq => ?_) ?_ ?_
  · rcases List.mem_append.1 hq with hq | hq
    · exact (hp1 q hq).1
    rcases List.mem_cons.1 hq with rfl | hq
    · exact h1
    rcases List.mem_append.1 hq with hq | hq
    · exact h3 q hq
    · rw [List.mem_singleton.1 hq]; exact h2
  · rcases List.mem_append.1 hq with hq | hq
    · exact hp3 _ sub q hq
    rcases List.mem_cons.1 hq with rfl | hq
    · refine .inr fun x hx => ?_
      rcases List.mem_append.1 hx with hx | hx
      · exact soH_nin (fun k hk => by
          rw [nmem]
          exact .inr (.inr (.inl (by rw [(soO_fam S).nm]; exact List.mem_map.2 ⟨k, hk, rfl⟩)))) x hx
      · rw [List.mem_singleton.1 hx]
        simp only [V.nins, V.nin, Bool.and_true, List.contains_iff_mem, nmem, or_true]
    rcases List.mem_append.1 hq with hq | hq
    · obtain ⟨i, hi, rfl⟩ := soO_is hq; exact .inl (ints_pur _)
    · rw [List.mem_singleton.1 hq]; exact .inl (ints_pur _)
  · have := rng a ha
    have := rng b hb
    (try dsimp only at e)
    split at e <;> split at e <;> omega
  · (try dsimp only)
    intro hb
    have := rng q.1 (List.mem_map.2 ⟨q, hq, rfl⟩)
    split at hb <;> rename_i hc
    · omega
    · rw [if_neg hc]
  · conv => rhs; rw [← List.map_id l]
    exact List.map_congr_left fun p hp => by rw [(hl1 p hp).2]; rfl
  · have eS : (soO e5 S).map (fun q => ((fun n => if n = d then 500 + S.length else n) q.1, q.2.ren fun n => if n = d then 500 + S.length else n)) = soO e5 S := (soO_fam S).rn (ν := e5) (ν' := e5) (σ := fun n => if n = d then 500 + S.length else n) fun k hk => by
      have := soK_lt.1 hk
      show (if e5 k = d then _ else _) = e5 k
      rw [if_neg (by unfold e5; omega)]
    have eP : pre.map (fun q => ((fun n => if n = d then 500 + S.length else n) q.1, q.2.ren fun n => if n = d then 500 + S.length else n)) = pre := by
      conv => rhs; rw [← List.map_id pre]
      refine List.map_congr_left fun q hq => ?_
      rw [hp2 q hq]
      dsimp only
      rw [if_neg (hp1 q hq).2.2]; rfl
    have eH : renR (fun n => if n = d then 500 + S.length else n) (soH e5 S ++ [[.own d r.length]]) = soH e5 (S ++ [r]) := by
      rw [soH_app]
      unfold renR
      rw [List.map_append]
      have := soH_ren (ν := e5) (ν' := e5) (σ := fun n => if n = d then 500 + S.length else n) (S := S) fun k hk => by
        unfold e5
        have := soK_lt.1 hk
        rw [if_neg (by omega)]
      unfold renR at this
      rw [this]
      simp only [List.map_cons, List.map_nil, V.rens, V.ren, if_true]; rfl
    rw [List.map_append, List.map_cons, List.map_append, eS, eP, soO_app]
    simp only [Ob.ren, eH, List.map_cons, List.map_nil, if_neg hmd, if_true, renR_pure (ints_pur r)]
    rfl
def en (k : Nat) : Nat := match k with
  | 0 => 19
  | k + 1 => 500 + k
theorem empty_e (c : Config) (h8 : c.cabs.length ≤ 8) (hc : ∀ y ∈ c.cabs, y.cl.length ≤ 1000000) : Eff Tryd.prog UT 22 [.agg c.enc] [] (.own 19 c.cabs.length) (emO en (emptyS c.cabs)) := by
  have hG := tNo_ok
  obtain ⟨q, l⟩ := c
  dsimp only at h8 hc
  show Eff _ _ _ _ _ _ ((19, .arr 82 1 (soH e5 (emptyS l))) :: soO e5 (emptyS l))
  have hel : (emptyS l).length = l.length := by unfold emptyS; rw [List.length_map]
  have hst : ∀ i (h : i < l.length), (emptyS l).take (i + 1) = (emptyS l).take i ++ [List.replicate l[i].cl.length 0] := fun i h => by
    rw [take_succ' (by rw [hel]; exact h)]
    unfold emptyS; rw [List.getElem_map]
  have hlen : ∀ i, i ≤ l.length → ((emptyS l).take i).length = i := fun i h => by rw [List.length_take, hel]; omega
  obtain ⟨E, hE⟩ : ∃ x, x = emptyS l := ⟨_, rfl⟩
  rw [← hE] at hel hst hlen ⊢
  have hnil : soO e5 (E.take 0) = [] := rfl
  have hnilH : soH e5 (E.take 0) = [] := rfl
  refine Eff.of_aw Tryd.func22 body22 nm22 res22 (by rw [nt22]; simp) fun C hN Q hQ => ?_
  rw [nt22] at hN
  unfold c22
  refine aw_seq (aw_region (EF := EF0) hG (by rw [hN]; exact tr22_0) ?_)
  simp only [a22_0, go_sem, simprocAttr, Config.enc, List.cons_append, List.nil_append, soO_lo]
  refine aw_seq (aw_region (EF := EF0) hG (by rw [hN]; exact tr22_1) ?_)
  simp only [a22_1, go_sem, simprocAttr, List.cons_append, List.nil_append, soO_lo]
  refine aw_seq ?_
  refine aw_seq (aw_region (EF := EF0) hG (by rw [hN]; exact tr22_2) ?_)
  simp only [a22_2, go_sem, simprocAttr, List.length_map, List.cons_append, List.nil_append, soO_lo]
  refine aw_block ?_
  refine aw_loop (α := Nat) (fun i => (i ≤ l.length)) (fun i => ⟨mkE [(3, .own 19 i), (7, V.list (List.map Cabin.enc l) false), (8, V.int IntKind.i64 ↑l.length), (9, .int .i64 i)], mkH ([(1, .box 48 [.str q, .list (l.map Cabin.enc) false]), (19, .arr 82 1 (soH e5 (E.take i)))] ++ soO e5 (E.take i))⟩) (fun i => l.length - i) 0 (Nat.zero_le _) ?_ ?_
  · rw [hnil, hnilH]
    refine Le.mk _ _ ?_ ?_ rfl <;> simp only [go_sem, simprocAttr, List.cons_append, List.nil_append, List.append_nil] <;> (repeat' apply And.intro) <;> try exact leA
  · rintro i hi KL0 hKL0
    try dsimp only at *
    refine aw_seq (aw_region (EF := EF0) hG (by rw [hN]; exact tr22_3) ?_)
    simp only [a22_3, go_sem, simprocAttr, List.cons_append, List.nil_append, soO_lo]
    refine aw_seq ?_
    refine aw_cond (b := _) rfl (fun hc3 => ?_) (fun hc3 => ?_)
    · skip
      have hci : i < l.length := by simp at hc3; omega
      have hcy := hc _ (List.getElem_mem hci)
      have hli := hlen i hi
      have hsi := hst i hci
      obtain ⟨⟨nm, se, ov, cl⟩, hy⟩ : ∃ y, y = l[i] := ⟨_, rfl⟩
      rw [← hy] at hcy hsi
      dsimp only at hcy hsi
      refine aw_skip ?_
      try simp only [go_sem, simprocAttr]
      refine aw_seq ?_
      refine aw_block ?_
      refine aw_seq (aw_region (EF := EF0) hG (by rw [hN]; exact tr22_4) ?_)
      simp only [a22_4, go_sem, simprocAttr, getD_map _ _ _ hci, hci, List.length_map, Cabin.enc, ← hy, List.cons_append, List.nil_append, soO_lo]
      (repeat' apply And.intro) <;> try exact sdA
      refine aw_region (EF := EF0) hG (by rw [hN]; exact tr22_5) ?_
      simp only [a22_5, go_sem, simprocAttr, List.length_map, soH_len, hli, List.length_cons, List.length_nil, List.cons_append, List.nil_append, soO_lo]
      (repeat' apply And.intro) <;> try exact sdA
      refine aw_region (EF := EF0) hG (by rw [hN]; exact tr22_6) ?_
      simp only [a22_6, go_sem, simprocAttr, inI, List.length_map, List.cons_append, List.nil_append, soO_lo]
      (repeat' apply And.intro) <;> try exact sdA
      refine hKL0 (i + 1) _ ?_ ?_ ?_
      · (try dsimp only); exact hci
      · (try dsimp only); omega
      · rw [hsi]
        refine Le.addrow _ [(1, .box 48 [.str q, .list (l.map Cabin.enc) false])] (E.take i) (List.replicate cl.length 0) 19 17 (by decide) (by decide) (by decide) (by omega) ?_ ?_ ?_ ?_ ?_ ?_ ?_ ?_
        · intro q hq; rcases List.mem_singleton.1 hq with rfl; exact ⟨rfl, by simp, by simp⟩
        · intro q hq; rcases List.mem_singleton.1 hq with rfl; simp [Ob.ren, V.rens, V.ren]
        · intro D hD q hq; rcases List.mem_singleton.1 hq with rfl; simp [Ob.nin, V.nins, V.nin]
        · rw [List.length_replicate]; rfl
        · rw [← ints_zero]; rfl
        · intro q hq; have hge := (soO_ge q hq).1; dsimp only [hupd]; (repeat rw [if_neg (by omega)]); exact soO_at q hq
        · simp only [List.forall_mem_cons, List.not_mem_nil, false_implies, implies_true, and_true]; exact ⟨⟨rfl, by simp [V.ren]⟩, ⟨rfl, by simp [V.ren]⟩, ⟨rfl, by simp [V.ren]⟩, ⟨by (rw [cast_succ]; rfl), by simp [V.ren]⟩⟩
        · intro D hD; simp only [List.forall_mem_cons, List.not_mem_nil, false_implies, implies_true, and_true]; exact ⟨by (rw [V.nin, List.contains_iff_mem]; exact hD 19 (List.mem_cons_self ..)), by simp [V.nin], by simp [V.nin], by simp [V.nin]⟩
    · skip
      obtain rfl : i = l.length := by simp at hc3; omega
      have hE2 : E.take l.length = E := List.take_of_length_le (by omega)
      rw [hE2]
      refine aw_exit ?_
      simp only [go_sem, simprocAttr]
      refine aw_seq (aw_region (EF := EF0) hG (by rw [hN]; exact tr22_7) ?_)
      simp only [a22_7, go_sem, simprocAttr, List.cons_append, List.nil_append, soO_lo]
      refine aw_ret ?_
      show Q _ _
      refine hQ _ _ ⟨mkE [(2, .own 19 l.length)], mkH ([(19, .arr 82 1 (soH e5 E))] ++ soO e5 E)⟩ (.inl rfl) (Le.tail _ _ _ ?_ ?_ ?_ rfl) rfl ?_ ?_
      · intro q hq
        refine ⟨?_, ?_⟩
        · have hge := (soO_ge q hq).1; (try dsimp only [hupd, hupds, hov]); (repeat rw [if_neg (by omega)]); exact soO_at q hq
        · obtain ⟨i, hi, rfl⟩ := soO_is hq; exact .inl (ints_pur _)
      all_goals simp only [outφ, outV, AR.res, go_sem, simprocAttr]
      exact .inr (soH_nin fun k hk => List.mem_cons_of_mem _ (by rw [(soO_fam E).nm]; exact List.mem_map.2 ⟨k, hk, rfl⟩))
set_option linter.unusedSimpArgs false
set_option linter.unusedVariables false
set_option linter.deprecated false
def wn (k : Nat) : Nat := match k with
  | 0 => 39
  | 1 => 37
  | k + 2 => 500 + k
def wnE (k : Nat) : Nat := wn (k + 1)
theorem wn_lt {k : Nat} (h : k < 300) : wn k < 1000 := by
  match k, h with
  | 0, _ => decide
  | 1, _ => decide
  | k + 2, h => show 500 + k < 1000; omega
theorem wn_inj : Inj wn := fun a b e => by
  match a, b with
  | 0, 0 => rfl
  | 0, 1 => cases e
  | 0, b + 2 => exact absurd (show 39 = 500 + b from e) (by omega)
  | 1, 0 => cases e
  | 1, 1 => rfl
  | 1, b + 2 => exact absurd (show 37 = 500 + b from e) (by omega)
  | a + 2, 0 => exact absurd (show 500 + a = 39 from e) (by omega)
  | a + 2, 1 => exact absurd (show 500 + a = 37 from e) (by omega)
  | a + 2, b + 2 => have : 500 + a = 500 + b := e; omega
def tnE : List Nat := [37, 500, 501, 502, 503, 504, 505, 506, 507]
theorem wnE_tn {S : List (List Int)} (h : S.length ≤ 8) : ∀ k ∈ emK S, wnE k ∈ tnE := fun k hk => by
  rcases List.mem_cons.1 hk with rfl | hk
  · exact List.mem_cons_self ..
  · obtain ⟨a, ha, rfl⟩ := List.mem_map.1 hk
    have := soK_lt.1 ha
    have h8 : a = 0 ∨ a = 1 ∨ a = 2 ∨ a = 3 ∨ a = 4 ∨ a = 5 ∨ a = 6 ∨ a = 7 := by omega
    rcases h8 with rfl | rfl | rfl | rfl | rfl | rfl | rfl | rfl <;> decide
theorem empty_useT {d : Option Nat} {s : St} {K : St → Prop} {c : Config} (h8 : c.cabs.length ≤ 8) (hc : ∀ y ∈ c.cabs, y.cl.length ≤ 1000000) (hn : ∀ n ∈ tnE, s.h n = none)
    (hK : ∀ h' : Nat → Option Ob, (∀ q ∈ emO wnE (emptyS c.cabs), h' q.1 = some q.2) → (∀ n, n ∉ tnE → h' n = s.h n) → K ⟨setE d (.own 37 c.cabs.length) s.e, h'⟩) : EStepT Tryd.prog UT tnE d 22 [.agg c.enc] s K := by
  have hel : (emptyS c.cabs).length = c.cabs.length := by unfold emptyS; rw [List.length_map]
  have htn := wnE_tn (S := emptyS c.cabs) (by omega)
  have hlt : ∀ n ∈ tnE, n < 1000 := by decide
  have hF : Fam ([] ++ emK (emptyS c.cabs)) ([] ++ emK (emptyS c.cabs)) (fun ν => emO ν (emptyS c.cabs)) := emO_fam _
  have hnd : (emK (emptyS c.cabs)).Nodup := emK_nd _
  have hwi : Inj wnE := fun a b e => by have := wn_inj _ _ e; omega
  have hen : Inj en := fun a b e => by
    match a, b with
    | 0, 0 => rfl
    | 0, b + 1 => exact absurd (show 19 = 500 + b from e) (by omega)
    | a + 1, 0 => exact absurd (show 500 + a = 19 from e) (by omega)
    | a + 1, b + 1 => have : 500 + a = 500 + b := e; omega
  refine use_famT (K := []) (K1 := emK (emptyS c.cabs)) (hl := fun _ => []) (ar := fun _ => [.agg c.enc]) (vf := fun ν => [.own (ν 0) c.cabs.length]) en wnE (Fam.nil _) hF (FamV.pure rfl fun _ => by simp [V.nins, V.nin, Config.enc]) (FamV.own _ (List.mem_cons_self ..)) (empty_e c h8 hc) rfl rfl (fun k hk => nomatch hk) (hen.nd hnd) (hwi.nd hnd) (fun k hk => ⟨hn _ (htn k hk), hlt _ (htn k hk)⟩) (fun q hq => nomatch hq) ⟨_, rfl⟩ (fun v' hv' => ?_) htn
  injection hv' with hv' _
  subst hv'
  have hnm : ∀ q ∈ emO wnE (emptyS c.cabs), q.1 ∈ tnE := fun q hq => by
    have : q.1 ∈ (emO wnE (emptyS c.cabs)).map (·.1) := List.mem_map.2 ⟨q, hq, rfl⟩
    rw [(emO_fam _).nm] at this
    obtain ⟨k, hk, e⟩ := List.mem_map.1 this
    rw [← e]; exact htn k hk
  refine hK _ (fun q hq => ?_) (fun n hn' => hov_ne fun q hq e => hn' (by rw [← e]; exact hnm q hq))
  rw [hov_eq, mkH_at (by rw [(emO_fam _).nm]; exact hwi.nd hnd) hq]
def openE (L : List Leg) (i : Lid) (cs : List Config) (eq : List UInt8) : Int := if (legIx L i).isSome then 6 else if (find cs eq).isNone then 7 else 0
def opN (M : Nat) (k : Nat) : Nat := if k < M then nu k else wn (k - M)
theorem opN_lo {M k : Nat} (h : k < M) : opN M k = nu k := if_pos h
theorem opN_hi (M k : Nat) : opN M (k + M) = wn k := by unfold opN; rw [if_neg (by omega), Nat.add_sub_cancel]
theorem stO_opN {cs : List Config} {L : List Leg} (hB : LgsB L) {x : Leg} {q : Nat × Ob} (hq : q ∈ stO (opN (10 * L.length + 2)) cs (L ++ [x])) :
    q = (1000, .box 63 [.list (cs.map Config.enc) false, .map 1001]) ∨ q = (1001, .mp (lgE (fun k => nu (k + 2)) L ++ [(x.id.ky, .ptr 39 0)])) ∨ (q ∈ stO nu cs L ∧ 1002 ≤ q.1) ∨ q = (39, .box 73 [.str x.conf.equip, .list (x.conf.cabs.map Cabin.enc) false, .own 37 x.sold.length, .bool false]) ∨ q ∈ emO wnE x.sold := by
  have hM : 0 < 10 * L.length + 2 := by omega
  have hL : lgO (fun k => opN (10 * L.length + 2) (k + 2)) L = lgO (fun k => nu (k + 2)) L := (lgO_fam L).congr fun k hk => opN_lo (by have := lgK_lt hB hk; omega)
  have hE : lgE (fun k => opN (10 * L.length + 2) (k + 2)) L = lgE (fun k => nu (k + 2)) L := by
    have := lgE_ren (ν := fun k => opN (10 * L.length + 2) (k + 2)) (ν' := fun k => nu (k + 2)) (σ := fun n => n) (L := L) fun k hk => opN_lo (by have := lgK_lt hB hk; omega)
    rw [← this]
    conv => lhs; rw [← List.map_id (lgE _ L)]
    exact List.map_congr_left fun p _ => by rw [V.ren_same]; rfl
  have hx : (fun k => (fun k => opN (10 * L.length + 2) (k + 2)) (k + 10 * L.length)) = wn := by
    funext k
    show opN (10 * L.length + 2) (k + 10 * L.length + 2) = wn k
    exact opN_hi (10 * L.length + 2) k
  unfold stO at hq
  rw [lgO_app, lgE_app, hL, hE, hx] at hq
  rcases List.mem_cons.1 hq with rfl | hq
  · left
    rw [opN_lo hM, opN_lo (show 1 < 10 * L.length + 2 by omega)]; rfl
  rcases List.mem_cons.1 hq with rfl | hq
  · right; left
    rw [opN_lo (show 1 < 10 * L.length + 2 by omega)]; rfl
  rcases List.mem_append.1 hq with hq | hq
  · right; right; left
    refine ⟨List.mem_cons_of_mem _ (List.mem_cons_of_mem _ hq), ?_⟩
    have : q.1 ∈ (lgO (fun k => nu (k + 2)) L).map (·.1) := List.mem_map.2 ⟨q, hq, rfl⟩
    rw [(lgO_fam L).nm] at this
    obtain ⟨k, _, e⟩ := List.mem_map.1 this
    rw [← e]; unfold nu; omega
  · have hq2 : q ∈ legO wn x.conf x.sold := by
      rw [lgO, lgO, List.append_nil] at hq; exact hq
    unfold legO at hq2
    rcases List.mem_cons.1 hq2 with rfl | hq2
    · right; right; right; left; rfl
    · right; right; right; right; exact hq2
set_option linter.unusedSimpArgs false
set_option linter.unusedVariables false
set_option linter.deprecated false
theorem fFind_eq (l : List Config) (e : List UInt8) : gOf aFind fFind [.list (l.map Config.enc) false, .str e] = (l.length ≤ 140737488355328, .tup [.agg ((find l e).getD zConf).enc, .bool (find l e).isSome]) := gOf_eq aFind_inj (l, e)
structure CfgOk (c : Config) : Prop where
  ok : c.ok
  le : c.cabs.length ≤ 4
  cab : ∀ y ∈ c.cabs, CabOk y
def EFp : Nat → Bool := fun f => f == 20 || f == 22
noncomputable def tOn : Tab
  | 21 => (gOf aFind fFind)
  | _ => gNo
theorem tOn_ok : ∀ f, PureC Tryd.prog UT f (tOn f) := fun f => by
  unfold tOn
  split
  · exact find_p
  · exact PureC.no
theorem open_bad_e (cs : List Config) (L : List Leg) (i : Lid) (eq : List UInt8) (hB : LgsB L) (hcs : cs.length ≤ 4) (hE : openE L i cs eq ≠ 0) : Eff Tryd.prog UT 8 [.ptr (nu 0) 0, .agg i.enc, .str eq] (stO nu cs L) (.int .i64 (openE L i cs eq)) (stO nu cs L) := by
  have hG := tOn_ok
  have hTl := stO_at nu_inj (cs := cs) hB
  have hGe := stO_ge (cs := cs) (L := L)
  have hF := stO_fam cs L
  have hb0 : mkH (stO nu cs L) 1000 = some (.box 63 [.list (cs.map Config.enc) false, .map 1001]) := st_box nu cs L
  have hb1 : mkH (stO nu cs L) 1001 = some (.mp (lgE (fun k => nu (k + 2)) L)) := st_map nu_inj cs L
  have e00 : nu 0 = 1000 := rfl
  have hkd := lgE_kd (fun k => nu (k + 2)) L
  have hlk := lgE_look L i
  have hcs2 : cs.length ≤ 140737488355328 := by omega
  obtain ⟨E, hEe⟩ : ∃ x, x = openE L i cs eq := ⟨_, rfl⟩
  have hEd := hEe
  unfold openE at hEd
  rw [← hEe] at hE ⊢
  have hgv : getV nu L i = match legIx L i with | some j => .ptr (nu (10 * j + 2)) 0 | none => .nilp := rfl
  rcases hix : legIx L i with _ | j
  · rw [hix] at hgv hEd
    dsimp only at hgv
    have hfn : find cs eq = none := by
      cases hf : find cs eq with
      | none => rfl
      | some c => rw [hf] at hEd; simp at hEd; exact absurd hEd hE
    have hE7 : E = 7 := by rw [hEd, hfn]; rfl
    refine Eff.of_aw Tryd.func8 body8 nm8 res8 (by rw [nt8]; simp) fun C hN Q hQ => ?_
    rw [nt8] at hN
    unfold c8
    refine aw_seq (aw_region (EF := EFp) hG (by rw [hN]; exact tr8_0) ?_)
    simp only [a8_0, go_sem, simprocAttr, tOn, EFp, e00, stO_lo, hb0, hb1, hkd, hlk, hgv, Lid.enc]
    refine aw_seq ?_
    refine aw_seq (aw_region (EF := EFp) hG (by rw [hN]; exact tr8_1) ?_)
    simp only [a8_1, go_sem, simprocAttr, tOn, EFp, e00, stO_lo, hb0, hb1, hkd, hlk, hgv, Lid.enc]
    refine st_use0 (ν := nu) (made_e cs L hB) hB rfl (fun _ => rfl) rfl (fun _ => rfl) nu_inj (fun q hq => by have hge := hGe q hq; (try dsimp only [hupd, hupds, hov]); (repeat rw [if_neg (by omega)]); exact hTl q hq) ?_
    simp only [go_sem, simprocAttr]
    refine aw_condF rfl ?_
    refine aw_skip ?_
    try simp only [go_sem, simprocAttr]
    refine aw_seq ?_
    refine aw_seq (aw_regionD (EF := EFp) hG mixed (by rw [hN]; exact tr8_3) ok8_3 ?_)
    simp only [a8_3, d8_3, go_sem, simprocAttr, tOn, EFp, e00, stO_lo, hb0, hb1, hkd, hlk, hgv, Lid.enc]
    (repeat' apply And.intro) <;> try exact sdA
    refine aw_condF rfl ?_
    refine aw_skip ?_
    try simp only [go_sem, simprocAttr]
    refine aw_seq (aw_region (EF := EFp) hG (by rw [hN]; exact tr8_5) ?_)
    simp only [a8_5, go_sem, simprocAttr, fFind_eq, hfn, hcs2, Option.getD_none, Option.isSome_none, zConf, Config.enc, List.map_nil, tOn, EFp, e00, stO_lo, hb0, hb1, hkd, hlk, hgv, Lid.enc]
    (repeat' apply And.intro) <;> try exact sdA
    refine aw_seq ?_
    refine aw_seq (aw_region (EF := EFp) hG (by rw [hN]; exact tr8_6) ?_)
    simp only [a8_6, go_sem, simprocAttr, tOn, EFp, e00, stO_lo, hb0, hb1, hkd, hlk, hgv, Lid.enc]
    refine aw_condT rfl ?_
    refine aw_seq (aw_region (EF := EFp) hG (by rw [hN]; exact tr8_7) ?_)
    simp only [a8_7, go_sem, simprocAttr, tOn, EFp, e00, stO_lo, hb0, hb1, hkd, hlk, hgv, Lid.enc]
    refine aw_ret ?_
    show Q _ _
    refine hQ _ _ ⟨mkE [(6, .int .i64 E)], mkH ([] ++ stO nu cs L)⟩ (.inl rfl) (Le.tail _ _ _ ?_ ?_ ?_ rfl) rfl ?_ ?_
    · exact fun q hq => ⟨by (have hge := hGe q hq; (try dsimp only [hupd, hupds, hov]); (repeat rw [if_neg (by omega)]); exact hTl q hq), Fam.ni1 (hF) q hq⟩
    all_goals simp only [outφ, outV, AR.res, go_sem, simprocAttr, hE7]
  · rw [hix] at hgv hEd
    dsimp only at hgv
    have hE6 : E = 6 := by rw [hEd]; rfl
    refine Eff.of_aw Tryd.func8 body8 nm8 res8 (by rw [nt8]; simp) fun C hN Q hQ => ?_
    rw [nt8] at hN
    unfold c8
    refine aw_seq (aw_region (EF := EFp) hG (by rw [hN]; exact tr8_0) ?_)
    simp only [a8_0, go_sem, simprocAttr, tOn, EFp, e00, stO_lo, hb0, hb1, hkd, hlk, hgv, Lid.enc]
    refine aw_seq ?_
    refine aw_seq (aw_region (EF := EFp) hG (by rw [hN]; exact tr8_1) ?_)
    simp only [a8_1, go_sem, simprocAttr, tOn, EFp, e00, stO_lo, hb0, hb1, hkd, hlk, hgv, Lid.enc]
    refine st_use0 (ν := nu) (made_e cs L hB) hB rfl (fun _ => rfl) rfl (fun _ => rfl) nu_inj (fun q hq => by have hge := hGe q hq; (try dsimp only [hupd, hupds, hov]); (repeat rw [if_neg (by omega)]); exact hTl q hq) ?_
    simp only [go_sem, simprocAttr]
    refine aw_condF rfl ?_
    refine aw_skip ?_
    try simp only [go_sem, simprocAttr]
    refine aw_seq ?_
    refine aw_seq (aw_regionD (EF := EFp) hG mixed (by rw [hN]; exact tr8_3) ok8_3 ?_)
    simp only [a8_3, d8_3, go_sem, simprocAttr, tOn, EFp, e00, stO_lo, hb0, hb1, hkd, hlk, hgv, Lid.enc]
    (repeat' apply And.intro) <;> try exact sdA
    refine aw_condT rfl ?_
    refine aw_seq (aw_region (EF := EFp) hG (by rw [hN]; exact tr8_4) ?_)
    simp only [a8_4, go_sem, simprocAttr, tOn, EFp, e00, stO_lo, hb0, hb1, hkd, hlk, hgv, Lid.enc]
    refine aw_ret ?_
    show Q _ _
    refine hQ _ _ ⟨mkE [(6, .int .i64 E)], mkH ([] ++ stO nu cs L)⟩ (.inl rfl) (Le.tail _ _ _ ?_ ?_ ?_ rfl) rfl ?_ ?_
    · exact fun q hq => ⟨by (have hge := hGe q hq; (try dsimp only [hupd, hupds, hov]); (repeat rw [if_neg (by omega)]); exact hTl q hq), Fam.ni1 (hF) q hq⟩
    all_goals simp only [outφ, outV, AR.res, go_sem, simprocAttr, hE6]
theorem open_good_e (cs : List Config) (L : List Leg) (i : Lid) (eq : List UInt8) (c : Config) (hB : LgsB L) (hcs : cs.length ≤ 4) (hc : CfgOk c) (hix : legIx L i = none) (hf : find cs eq = some c) : Eff Tryd.prog UT 8 [.ptr (nu 0) 0, .agg i.enc, .str eq] (stO nu cs L) (.int .i64 0) (stO (opN (10 * L.length + 2)) cs (L ++ [⟨i, c, emptyS c.cabs⟩])) := by
  have hG := tOn_ok
  have hTl := stO_at nu_inj (cs := cs) hB
  have hGe := stO_ge (cs := cs) (L := L)
  have hF := stO_fam cs L
  have hb0 : mkH (stO nu cs L) 1000 = some (.box 63 [.list (cs.map Config.enc) false, .map 1001]) := st_box nu cs L
  have hb1 : mkH (stO nu cs L) 1001 = some (.mp (lgE (fun k => nu (k + 2)) L)) := st_map nu_inj cs L
  have e00 : nu 0 = 1000 := rfl
  have hkd := lgE_kd (fun k => nu (k + 2)) L
  have hlk := lgE_look L i
  have hcs2 : cs.length ≤ 140737488355328 := by omega
  have hgv : getV nu L i = .nilp := by unfold getV; rw [hix]
  have hc8 : c.cabs.length ≤ 8 := by have := hc.le; omega
  have hcy : ∀ y ∈ c.cabs, y.cl.length ≤ 1000000 := fun y hy => by have := (hc.cab y hy).le; omega
  have hel : (emptyS c.cabs).length = c.cabs.length := by unfold emptyS; rw [List.length_map]
  have hnew := lgE_new (ν := fun k => nu (k + 2)) (v := V.ptr 39 0) hix
  have hB2 : LgsB (L ++ [⟨i, c, emptyS c.cabs⟩]) := fun x hx => by
    rcases List.mem_append.1 hx with hx | hx
    · exact hB x hx
    · rw [List.mem_singleton.1 hx]; show (emptyS c.cabs).length ≤ 8; omega
  have hF2 := stO_fam cs (L ++ [⟨i, c, emptyS c.cabs⟩])
  refine Eff.of_aw Tryd.func8 body8 nm8 res8 (by rw [nt8]; simp) fun C hN Q hQ => ?_
  rw [nt8] at hN
  unfold c8
  refine aw_seq (aw_region (EF := EFp) hG (by rw [hN]; exact tr8_0) ?_)
  simp only [a8_0, go_sem, simprocAttr, tOn, EFp, e00, stO_lo, hb0, hb1, hkd, hlk, hgv, Lid.enc]
  refine aw_seq ?_
  refine aw_seq (aw_region (EF := EFp) hG (by rw [hN]; exact tr8_1) ?_)
  simp only [a8_1, go_sem, simprocAttr, tOn, EFp, e00, stO_lo, hb0, hb1, hkd, hlk, hgv, Lid.enc]
  refine st_use0 (ν := nu) (made_e cs L hB) hB rfl (fun _ => rfl) rfl (fun _ => rfl) nu_inj (fun q hq => by have hge := hGe q hq; (try dsimp only [hupd, hupds, hov]); (repeat rw [if_neg (by omega)]); exact hTl q hq) ?_
  simp only [go_sem, simprocAttr]
  refine aw_condF rfl ?_
  refine aw_skip ?_
  try simp only [go_sem, simprocAttr]
  refine aw_seq ?_
  refine aw_seq (aw_regionD (EF := EFp) hG mixed (by rw [hN]; exact tr8_3) ok8_3 ?_)
  simp only [a8_3, d8_3, go_sem, simprocAttr, tOn, EFp, e00, stO_lo, hb0, hb1, hkd, hlk, hgv, Lid.enc]
  (repeat' apply And.intro) <;> try exact sdA
  refine aw_condF rfl ?_
  refine aw_skip ?_
  try simp only [go_sem, simprocAttr]
  refine aw_seq (aw_region (EF := EFp) hG (by rw [hN]; exact tr8_5) ?_)
  simp only [a8_5, go_sem, simprocAttr, fFind_eq, hf, hcs2, Option.getD_some, Option.isSome_some, Config.enc, tOn, EFp, e00, stO_lo, hb0, hb1, hkd, hlk, hgv, Lid.enc]
  (repeat' apply And.intro) <;> try exact sdA
  refine aw_seq ?_
  refine aw_seq (aw_region (EF := EFp) hG (by rw [hN]; exact tr8_6) ?_)
  simp only [a8_6, go_sem, simprocAttr, tOn, EFp, e00, stO_lo, hb0, hb1, hkd, hlk, hgv, Lid.enc]
  refine aw_condF rfl ?_
  refine aw_skip ?_
  try simp only [go_sem, simprocAttr]
  refine aw_seq (aw_regionT (EF := EFp) (fun _ => tnE) hG mixed (by rw [hN]; exact tr8_8) ok8_8 ?_)
  simp only [a8_8, d8_8, go_sem, simprocAttr, tOn, EFp, e00, stO_lo, hb0, hb1, hkd, hlk, hgv, Lid.enc, tnE, List.all_cons, List.all_nil, List.contains_cons, List.contains_nil]
  refine empty_useT (c := c) hc8 hcy (fun n hn => ?_) (fun h' hq1 hq2 => ?_)
  · obtain ⟨a1, a2, a3⟩ := (show ∀ n ∈ tnE, n < 1000 ∧ n ≠ 4 ∧ n ≠ 7 by decide) n hn
    dsimp only [hupd]; rw [if_neg a3, if_neg a3, if_neg a2]; exact stO_lo a1
  have g1 : h' 1001 = some (.mp (lgE (fun k => nu (k + 2)) L)) := by rw [hq2 1001 (by decide)]; exact hb1
  have g39 : h' 39 = none := by rw [hq2 39 (by decide)]; exact stO_lo (cs := cs) (L := L) (m := 39) (by decide)
  simp only [go_sem, simprocAttr, tOn, EFp, g1, g39, hkd, hnew, tnE, List.all_cons, List.all_nil, List.contains_cons, List.contains_nil, List.length_cons, List.length_nil]
  (repeat' apply And.intro) <;> try exact sdA
  refine aw_seq (aw_region (EF := EFp) hG (by rw [hN]; exact tr8_9) ?_)
  simp only [a8_9, go_sem, simprocAttr, tOn, EFp, e00, stO_lo, hb0, hb1, hkd, hlk, hgv, Lid.enc]
  refine aw_ret ?_
  show Q _ _
  refine hQ _ _ ⟨mkE [(6, .int .i64 0)], mkH (stO (opN (10 * L.length + 2)) cs (L ++ [⟨i, c, emptyS c.cabs⟩]))⟩ (.inl rfl) (Le.keepH _ _ (fun q hq => ?_) (hF2.ni fun k hk => by rw [hF2.nm]; exact List.mem_map.2 ⟨k, hk, rfl⟩) ?_) rfl ?_ ?_
  · rcases stO_opN hB hq with rfl | rfl | ⟨hq, hge⟩ | rfl | hq
    · show hupd (hupd h' 39 _) 1001 _ 1000 = _
      rw [hupd_ne _ _ (by decide), hupd_ne _ _ (by decide), hq2 1000 (by decide)]; exact hb0
    · show hupd (hupd h' 39 _) 1001 _ 1001 = _
      rw [hupd_same, ← hnew]; rfl
    · have hnt : q.1 ∉ tnE := fun hm => by have := (show ∀ n ∈ tnE, n < 1000 by decide) _ hm; omega
      show hupd (hupd h' 39 _) 1001 _ q.1 = _
      rw [hupd_ne _ _ (by omega), hupd_ne _ _ (by omega), hq2 _ hnt]
      dsimp only [hupd]; rw [if_neg (by omega), if_neg (by omega), if_neg (by omega)]; exact hTl q hq
    · show hupd (hupd h' 39 _) 1001 _ 39 = _
      rw [hupd_ne _ _ (by decide), hupd_same]; dsimp only; rw [hel]
    · have hnt : q.1 ∈ tnE := by
        have hm : q.1 ∈ (emO wnE (emptyS c.cabs)).map (·.1) := List.mem_map.2 ⟨q, hq, rfl⟩
        rw [(emO_fam _).nm] at hm
        obtain ⟨k, hk, e⟩ := List.mem_map.1 hm
        rw [← e]; exact wnE_tn (by omega) k hk
      obtain ⟨n1, n2⟩ := (show ∀ n ∈ tnE, n < 1000 ∧ n ≠ 39 by decide) _ hnt
      show hupd (hupd h' 39 _) 1001 _ q.1 = _
      rw [hupd_ne _ _ (by omega), hupd_ne _ _ n2]; exact hq1 q hq
  all_goals simp only [outφ, outV, AR.res, go_sem, simprocAttr]
set_option linter.unusedSimpArgs false
set_option linter.unusedVariables false
set_option linter.deprecated false
theorem open_bad_use {d : Option Nat} {s : St} {K : St → Prop} {cs : List Config} {L : List Leg} {i : Lid} {eq : List UInt8} {ν : Nat → Nat} (hB : LgsB L) (hcs : cs.length ≤ 4) (hE : openE L i cs eq ≠ 0) (hν : Inj ν) (hat : ∀ q ∈ stO ν cs L, s.h q.1 = some q.2) (hK : K ⟨setE d (.int .i64 (openE L i cs eq)) s.e, s.h⟩) :
    EStep Tryd.prog UT d 8 [.ptr (ν 0) 0, .agg i.enc, .str eq] s K :=
  st_use0 (xs := [.agg i.enc, .str eq]) (open_bad_e cs L i eq hB hcs hE) hB rfl (fun _ => by simp [V.nins, V.nin, Lid.enc]) rfl (fun _ => by simp [V.nin]) hν hat hK
theorem lgK_app : ∀ (L : List Leg) (x : Leg), lgK (L ++ [x]) = lgK L ++ (legK x.sold).map (· + 10 * L.length)
  | [], x => by simp [lgK]
  | y :: L, x => by
    rw [List.cons_append, lgK, lgK, lgK_app, List.map_append, List.map_map, List.append_assoc]
    congr 2
theorem stK_app (L : List Leg) (x : Leg) : stK (L ++ [x]) = stK L ++ (legK x.sold).map (· + (10 * L.length + 2)) := by
  unfold stK
  rw [lgK_app, List.map_append, List.map_map, List.cons_append, List.cons_append]
  congr 3
theorem LgsB.app {L : List Leg} (h : LgsB L) {x : Leg} (hx : x.sold.length ≤ 8) : LgsB (L ++ [x]) := fun y hy => by
  rcases List.mem_append.1 hy with hy | hy
  · exact h y hy
  · rw [List.mem_singleton.1 hy]; exact hx
theorem stO_tags_app {ν : Nat → Nat} {cs : List Config} {L : List Leg} {x : Leg} : ∃ z, (stO ν cs (L ++ [x])).map (fun q => (q.1, q.2.tag)) = (stO ν cs L).map (fun q => (q.1, q.2.tag)) ++ z := by
  unfold stO
  rw [lgO_app]
  refine ⟨(lgO (fun k => (fun k => ν (k + 2)) (k + 10 * L.length)) [x]).map (fun q => (q.1, q.2.tag)), ?_⟩
  simp only [List.map_cons, List.map_append, List.cons_append]
  rfl
theorem open_good_use {d : Option Nat} {s : St} {K : St → Prop} {cs : List Config} {L : List Leg} {i : Lid} {eq : List UInt8} {c : Config} {ν : Nat → Nat} (hB : LgsB L) (hcs : cs.length ≤ 4) (hc : CfgOk c) (hix : legIx L i = none) (hf : find cs eq = some c) (hν : Inj ν) (hat : ∀ q ∈ stO ν cs L, s.h q.1 = some q.2)
    (hn : ∀ k, 10 * L.length + 2 ≤ k → k < 10 * L.length + 12 → s.h (ν k) = none ∧ ν k < 1000) (hK : K ⟨setE d (.int .i64 0) s.e, hov (stO ν cs (L ++ [⟨i, c, emptyS c.cabs⟩])) s.h⟩) :
    EStep Tryd.prog UT d 8 [.ptr (ν 0) 0, .agg i.enc, .str eq] s K := by
  have hel : (emptyS c.cabs).length ≤ 4 := by unfold emptyS; rw [List.length_map]; exact hc.le
  have hB2 : LgsB (L ++ [⟨i, c, emptyS c.cabs⟩]) := hB.app (show (emptyS c.cabs).length ≤ 8 by omega)
  obtain ⟨M, hM⟩ : ∃ M, M = 10 * L.length + 2 := ⟨_, rfl⟩
  have he := open_good_e cs L i eq c hB hcs hc hix hf
  rw [← hM] at he
  have hlo : ∀ k ∈ stK L, opN M k = nu k := fun k hk => opN_lo (by have := stK_lt hB hk; omega)
  have e1 : stO (opN M) cs L = stO nu cs L := (stO_fam cs L).congr hlo
  have e0 : opN M 0 = nu 0 := hlo 0 (stK_0 L)
  have hF' := stO_fam cs (L ++ [⟨i, c, emptyS c.cabs⟩])
  rw [stK_app] at hF'
  have hopi : ∀ a b, a < M + 10 → b < M + 10 → opN M a = opN M b → a = b := fun a b ha hb e => by
    unfold opN at e
    split at e <;> split at e
    · exact nu_inj _ _ e
    · rename_i h1 h2
      have := wn_lt (k := b - M) (by omega); unfold nu at e; omega
    · rename_i h1 h2
      have := wn_lt (k := a - M) (by omega); unfold nu at e; omega
    · rename_i h1 h2
      have := wn_inj _ _ e
      omega
  have kb : ∀ k ∈ stK L ++ (legK (emptyS c.cabs)).map (· + (10 * L.length + 2)), k < M + 10 := fun k hk => by
    rcases List.mem_append.1 hk with hk | hk
    · have := stK_lt hB hk; omega
    · obtain ⟨a, ha, rfl⟩ := List.mem_map.1 hk
      have := legK_lt.1 ha; omega
  have hnd : (stK L ++ (legK (emptyS c.cabs)).map (· + (10 * L.length + 2))).Nodup := by
    have := stK_nd hB2
    rw [stK_app] at this; exact this
  refine use_fam (K := stK L) (K1 := (legK (emptyS c.cabs)).map (· + (10 * L.length + 2))) (hl := fun ν => stO ν cs L) (hl' := fun ν => stO ν cs (L ++ [⟨i, c, emptyS c.cabs⟩])) (ar := fun ν => [.ptr (ν 0) 0, .agg i.enc, .str eq]) (vf := fun _ => [.int .i64 0]) (opN M) ν (stO_fam cs L) hF'
    ((FamV.ptr 0 (stK_0 L)).cons (FamV.pure (vs := [.agg i.enc, .str eq]) rfl fun _ => by simp [V.nins, V.nin, Lid.enc])) (FamV.pure rfl fun _ => by simp [V.nins, V.nin]) (v := .int .i64 0) (by rw [e1, e0]; exact he) rfl rfl (fun k hk => by rw [hlo k hk]; unfold nu; omega)
    (nodup_map hnd fun a ha b hb e => hopi a b (kb a ha) (kb b hb) e) (hν.nd hnd) (fun k hk => ?_) hat stO_tags_app (fun v' hv' => ?_)
  · obtain ⟨a, ha, rfl⟩ := List.mem_map.1 hk
    have := legK_lt.1 ha
    exact hn _ (by omega) (by omega)
  · injection hv' with hv' _
    subst hv'
    exact hK
def addAt (cls : List UInt8) (n : Int) (x : Leg) : Leg := match place x.conf.cabs cls with
  | some (i, k) => x.put i ((x.sold.getD i []).set k ((x.sold.getD i []).getD k 0 + n))
  | none => x
def addJ (cls : List UInt8) (n : Int) (L : List Leg) (j : Nat) : List Leg := match L[j]? with
  | some x => L.set j (addAt cls n x)
  | none => L
def addJs (cls : List UInt8) (n : Int) (L : List Leg) (js : List Nat) : List Leg := js.foldl (addJ cls n) L
theorem addAt_id (cls : List UInt8) (n : Int) (x : Leg) : (addAt cls n x).id = x.id ∧ (addAt cls n x).conf = x.conf ∧ (addAt cls n x).sold.length = x.sold.length := by
  unfold addAt
  split
  · exact ⟨rfl, rfl, List.length_set⟩
  · exact ⟨rfl, rfl, rfl⟩
theorem addJ_len (cls : List UInt8) (n : Int) (L : List Leg) (j : Nat) : (addJ cls n L j).length = L.length := by
  unfold addJ; split
  · rw [List.length_set]
  · rfl
theorem addJs_snoc (cls : List UInt8) (n : Int) (L : List Leg) (js : List Nat) (j : Nat) : addJs cls n L (js ++ [j]) = addJ cls n (addJs cls n L js) j := by unfold addJs; rw [List.foldl_append]; rfl
theorem addJs_len (cls : List UInt8) (n : Int) : ∀ (js : List Nat) (L : List Leg), (addJs cls n L js).length = L.length
  | [], L => rfl
  | j :: js, L => by
    show (addJs cls n (addJ cls n L j) js).length = _
    rw [addJs_len cls n js, addJ_len]
theorem addJ_get (cls : List UInt8) (n : Int) (L : List Leg) (j m : Nat) : (addJ cls n L j)[m]? = if m = j then L[m]?.map (addAt cls n) else L[m]? := by
  unfold addJ
  cases h : L[j]? with
  | none =>
    dsimp only
    by_cases e : m = j
    · subst e; rw [if_pos rfl, h]; rfl
    · rw [if_neg e]
  | some x =>
    dsimp only
    obtain ⟨hj, hx⟩ := List.getElem?_eq_some_iff.1 h
    rw [List.getElem?_set]
    by_cases e : m = j
    · subst e; rw [if_pos rfl, if_pos rfl, if_pos hj, h]; rfl
    · rw [if_neg (Ne.symm e), if_neg e]
theorem addJs_get (cls : List UInt8) (n : Int) : ∀ (js : List Nat) (L : List Leg) (m : Nat), js.Nodup → (addJs cls n L js)[m]? = if m ∈ js then L[m]?.map (addAt cls n) else L[m]?
  | [], L, m, _ => by simp [addJs]
  | j :: js, L, m, h => by
    obtain ⟨h1, h2⟩ := List.nodup_cons.1 h
    show (addJs cls n (addJ cls n L j) js)[m]? = _
    rw [addJs_get cls n js _ m h2, addJ_get]
    by_cases e : m = j
    · subst e; rw [if_neg h1, if_pos rfl, if_pos (List.mem_cons_self ..)]
    · by_cases e2 : m ∈ js
      · rw [if_pos e2, if_neg e, if_pos (List.mem_cons_of_mem _ e2)]
      · rw [if_neg e2, if_neg e, if_neg (by simp [e, e2])]
theorem addAt_ok {cls : List UInt8} {n : Int} {x : Leg} (h : LegOk x.conf x.sold) : LegOk (addAt cls n x).conf (addAt cls n x).sold := by
  unfold addAt
  split
  · rename_i i k hp
    obtain ⟨h1, h2, h3, h4, h5⟩ := h
    refine ⟨h1, h2, by show (x.sold.set i _).length = _; rw [List.length_set]; exact h3, by show (x.sold.set i _).length ≤ 8; rw [List.length_set]; exact h4, fun m hm => ?_⟩
    have key : ∀ (r : List Int), r.length = (x.sold.getD i []).length → ∀ m (hm : m < (x.sold.set i r).length), (x.sold.set i r)[m].length = (x.conf.cabs.getD m zCabin).cl.length := by
      intro r hr m hm
      have hm' : m < x.sold.length := by rwa [List.length_set] at hm
      by_cases e : i = m
      · subst e
        rw [List.getElem_set_self, hr, List.getD_eq_getElem?_getD, List.getElem?_eq_getElem hm']
        exact h5 i hm'
      · rw [List.getElem_set_ne e]; exact h5 m hm'
    exact key _ (by rw [List.length_set]) m hm
  · exact h
theorem addJ_ok {cls : List UInt8} {n : Int} {L : List Leg} {j : Nat} (h : LgsOk L) : LgsOk (addJ cls n L j) := by
  unfold addJ
  split
  · rename_i x hx
    intro y hy
    rcases List.mem_or_eq_of_mem_set hy with hy | rfl
    · exact h y hy
    · exact addAt_ok (h x (List.mem_of_getElem? hx))
  · exact h
theorem addJs_ok {cls : List UInt8} {n : Int} : ∀ {js : List Nat} {L : List Leg}, LgsOk L → LgsOk (addJs cls n L js)
  | [], _, h => h
  | _ :: js, _, h => addJs_ok (js := js) (addJ_ok h)
theorem addJ_lens {cls : List UInt8} {n : Int} {L : List Leg} {j : Nat} : (addJ cls n L j).map (fun x => x.sold.length) = L.map (fun x => x.sold.length) := by
  unfold addJ
  split
  · rename_i x hx
    obtain ⟨hj, e⟩ := List.getElem?_eq_some_iff.1 hx
    rw [List.map_set]
    have : (addAt cls n x).sold.length = (L.map fun x => x.sold.length)[j]'(by rw [List.length_map]; exact hj) := by rw [List.getElem_map, e]; exact (addAt_id cls n x).2.2
    rw [this, List.set_getElem_self]
  · rfl
theorem addJs_lens {cls : List UInt8} {n : Int} : ∀ {js : List Nat} {L : List Leg}, (addJs cls n L js).map (fun x => x.sold.length) = L.map (fun x => x.sold.length)
  | [], _ => rfl
  | j :: js, L => (addJs_lens (js := js) (L := addJ cls n L j)).trans addJ_lens
theorem left_sold {c : Config} {S : List (List Int)} {cls : List UInt8} {n : Int} (h1 : 1 ≤ n) (h : n ≤ leftS c S cls) : ∃ i k, place c.cabs cls = some (i, k) ∧ rightS (c.cabs.getD i zCabin) (S.getD i []) = true ∧ k < (c.cabs.getD i zCabin).cl.length ∧ n ≤ spareAt (c.cabs.getD i zCabin) (S.getD i []) k := by
  unfold leftS at h
  split at h
  · omega
  · rename_i i k hp
    refine ⟨i, k, hp, ?_⟩
    generalize c.cabs.getD i zCabin = y at h ⊢
    generalize S.getD i [] = s at h ⊢
    unfold openS at h
    split at h
    · rename_i hr
      by_cases hk : k < (openGo 1099511627776 (spareL y s)).length
      · have hk2 : k < (spareL y s).length := by rwa [openGo_len] at hk
        rw [List.getD_eq_getElem?_getD, openGo_at _ _ _ hk2, Option.getD_some] at h
        have hks : k < y.cl.length := by rwa [spareL_len] at hk2
        refine ⟨hr, hks, ?_⟩
        have e := take_succ' hk2
        rw [e, leastS_snoc] at h
        have e2 : (spareL y s)[k] = spareAt y s k := by
          have := spareL_getD y s hks
          rw [List.getD_eq_getElem?_getD, List.getElem?_eq_getElem hk2] at this
          exact this
        rw [e2] at h
        omega
      · rw [List.getD_eq_getElem?_getD, List.getElem?_eq_none (by omega)] at h
        simp at h; omega
    · simp at h; omega
end Go.Proofs.YtllhcpjgilpbnaaDoor
