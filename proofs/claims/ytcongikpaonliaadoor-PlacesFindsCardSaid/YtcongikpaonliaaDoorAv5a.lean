/- Types: sizes; structs whose cells may be compared one by one. -/
import Derived.Laws.StructEq
import Derived.Test.YtcongikpaonliaaDoorAv4
namespace Go.Proofs.YtcongikpaonliaaDoor
open Go Go.RowKit
set_option linter.unusedSimpArgs false
set_option linter.unusedVariables false
set_option linter.deprecated false
def aggT (P : Program) (t : TypeId) : Option Bool :=
  match P.underlying t with
  | some (.struct _) => some true
  | some (.array _ _) => some true
  | some _ => some false
  | none => none
def szT (P : Program) (t : TypeId) : Option Nat := (P.info? t).map (·.size)
theorem run_isAgg {P : Program} {t : TypeId} {b : Bool} (h : aggT P t = some b) (w : World) : (isAgg t).run P w = .ok b w := by
  unfold aggT at h
  unfold isAgg
  cases hu : P.underlying t with
  | none => rw [hu] at h; cases h
  | some d =>
    rw [hu] at h
    rw [Sem.run_bind, run_underlying hu w]
    cases d <;> simp only [Option.some.injEq] at h <;> subst h <;> rfl
theorem run_sizeOf {P : Program} {t : TypeId} {n : Nat} (h : szT P t = some n) (w : World) : (sizeOf t).run P w = .ok n w := by
  unfold szT at h
  obtain ⟨i, hi, rfl⟩ := Option.map_eq_some_iff.1 h
  simp [sizeOf, typeInfo, hi]
theorem getD_of_lt {α : Type} {l : List α} {k : Nat} (d : α) (h : k < l.length) : l[k]? = some (l.getD k d) := by
  rw [List.getElem?_eq_getElem h, List.getD_eq_getElem?_getD, List.getElem?_eq_getElem h]; rfl
/-- The cells of a struct (or a leaf), one by one. -/
def flatF (P : Program) (g : TypeId → Option (List LK)) : Nat → List Field → Option (List LK)
  | _, [] => some []
  | o, f :: fs => if f.name ≠ "_" ∧ f.offset = o then match g f.type with
    | some l => if szT P f.type = some l.length then (flatF P g (o + l.length) fs).map (l ++ ·) else none
    | none => none
    else none
def flatT (P : Program) : Nat → TypeId → Option (List LK)
  | 0, _ => none
  | d + 1, t => match P.underlying t with
    | some .bool => some [.b]
    | some (.int k) => some [.i k]
    | some .string => some [.s]
    | some (.struct fs) => if P.stoodInHeld t = false then flatF P (flatT P d) 0 fs.toList else none
    | _ => none
def toC : V → Value
  | .bool b => .bool b
  | .int k n => .int k n
  | .str s => .string ⟨s.toArray⟩
  | _ => undef
def valT (P : Program) (t : TypeId) (vs : List V) : Value := if aggT P t = some true then .agg (vs.map toC).toArray else toC (vs.headD .any)
theorem fitKs_len : ∀ {ks : List LK} {vs : List V}, fitKs ks vs = true → vs.length = ks.length
  | [], [], _ => rfl
  | k :: ks, v :: vs, h => by
    simp only [fitKs, Bool.and_eq_true] at h
    simp only [List.length_cons, fitKs_len h.2]
  | [], _ :: _, h => by simp [fitKs] at h
  | _ :: _, [], h => by simp [fitKs] at h
theorem fitKs_app : ∀ {l r : List LK} {vs : List V}, fitKs (l ++ r) vs = true → fitKs l (vs.take l.length) = true ∧ fitKs r (vs.drop l.length) = true
  | [], r, vs, h => by simpa [fitKs] using h
  | k :: l, r, [], h => by simp [fitKs] at h
  | k :: l, r, v :: vs, h => by
    simp only [List.cons_append, fitKs, Bool.and_eq_true] at h
    obtain ⟨h1, h2⟩ := fitKs_app h.2
    exact ⟨by simp only [List.length_cons, List.take_succ_cons, fitKs, h.1, h1, Bool.and_self], by simpa using h2⟩
theorem eqVs_app : ∀ {l r l' r' : List V}, l.length = l'.length → eqVs (l ++ r) (l' ++ r') = (eqVs l l' && eqVs r r')
  | [], _, [], _, _ => by simp [eqVs]
  | a :: l, r, b :: l', r', h => by
    simp only [List.length_cons, Nat.add_right_cancel_iff] at h
    simp only [List.cons_append, eqVs, eqVs_app h, Bool.and_assoc]
theorem str_beq (a b : List UInt8) : ((⟨a.toArray⟩ : ByteArray).toList == (⟨b.toArray⟩ : ByteArray).toList) = decide (a = b) := by
  rw [ByteArray.toList_mk, ByteArray.toList_mk]
  by_cases e : a = b <;> simp [e]
theorem fit_int {k : IntKind} : ∀ {vs : List V}, fitKs [.i k] vs = true → ∃ a, vs = [.int k a]
  | [], h => by simp [fitKs] at h
  | [v], h => by cases v <;> simp [fitKs, fitK] at h; subst h; exact ⟨_, rfl⟩
  | _ :: _ :: _, h => by simp [fitKs] at h
theorem flat_eq (P : Program) (w : World) : ∀ {d e : Nat} {t : TypeId} {ks : List LK}, flatT P d t = some ks → ∀ (vs us : List V), fitKs ks vs = true → fitKs ks us = true → (Op.equalIn (d + e) t (valT P t vs) (valT P t us)).run P w = .ok (eqVs vs us) w
  | 0, _, _, _, h => by simp [flatT] at h
  | d + 1, e, t, ks, h => by
    intro vs us hv hu
    have hde : d + 1 + e = (d + e) + 1 := by omega
    rw [hde]
    unfold flatT at h
    split at h
    · rename_i ht
      injection h with h; subst h
      match vs, us, hv, hu with
      | [.bool a], [.bool b], _, _ => simp [valT, aggT, ht, toC, run_equalIn_bool' w _ _ _ _ ht, eqVs, eqV]
    · rename_i k ht
      injection h with h; subst h
      obtain ⟨a, rfl⟩ := fit_int hv
      obtain ⟨b, rfl⟩ := fit_int hu
      simp only [valT, aggT, ht, toC, List.headD_cons, reduceCtorEq, if_false, run_equalIn_int w _ _ _ _ _ _ ht, eqVs, eqV, Bool.and_true, Option.some.injEq, Bool.false_eq_true]
      congr 1
    · rename_i ht
      injection h with h; subst h
      match vs, us, hv, hu with
      | [.str a], [.str b], _, _ => simp only [valT, aggT, ht, toC, List.headD_cons, Option.some.injEq, Bool.false_eq_true, if_false, run_equalIn_string w _ _ _ _ ht, eqVs, eqV, Bool.and_true, str_beq]
    · rename_i fs ht
      split at h
      · rename_i hst
        have hag : aggT P t = some true := by simp [aggT, ht]
        have hfo : P.fieldsOf t = fs := by simp [Program.fieldsOf, ht]
        rw [valT, if_pos hag, valT, if_pos hag, run_equalIn_struct w _ _ _ _ (by rw [hfo]; exact ht) hst, hfo]
        have main : ∀ (fl : List Field) (o : Nat) (ks : List LK), flatF P (flatT P d) o fl = some ks → fitKs ks (vs.drop o) = true → fitKs ks (us.drop o) = true → (Op.eqFields (d + e) (vs.map toC).toArray (us.map toC).toArray fl).run P w = .ok (eqVs (vs.drop o) (us.drop o)) w := by
          intro fl
          induction fl with
          | nil =>
            intro o ks hk f1 f2
            simp only [flatF, Option.some.injEq] at hk
            subst hk
            have e1 := List.length_eq_zero_iff.1 (fitKs_len f1)
            have e2 := List.length_eq_zero_iff.1 (fitKs_len f2)
            rw [e1, e2]
            simp [Op.eqFields, eqVs]
          | cons f fl ih =>
            intro o ks hk f1 f2
            unfold flatF at hk
            split at hk
            · rename_i hno
              obtain ⟨hn, ho⟩ := hno
              split at hk
              · rename_i l hl
                split at hk
                · rename_i hsz
                  obtain ⟨r, hr, rfl⟩ := Option.map_eq_some_iff.1 hk
                  obtain ⟨a1, a2⟩ := fitKs_app f1
                  obtain ⟨b1, b2⟩ := fitKs_app f2
                  rw [List.drop_drop] at a2 b2
                  have hrec := flat_eq P w (e := e) hl _ _ a1 b1
                  have hp : ∀ zs : List V, fitKs l ((zs.drop o).take l.length) = true → (part f.type (zs.map toC).toArray f.offset).run P w = .ok (valT P f.type ((zs.drop o).take l.length)) w := by
                    intro zs hz
                    have hzl := fitKs_len hz
                    rw [ho]
                    cases hat : aggT P f.type with
                    | none =>
                      exfalso
                      cases d with
                      | zero => simp [flatT] at hl
                      | succ d =>
                        unfold flatT at hl
                        unfold aggT at hat
                        cases hu : P.underlying f.type with
                        | none => rw [hu] at hl; simp at hl
                        | some td => rw [hu] at hat; cases td <;> simp at hat
                    | some ag =>
                      cases ag with
                      | true =>
                        simp only [part, Sem.run_bind, run_isAgg hat w, Result.andThen_ok, if_true, run_sizeOf hsz w, Sem.run_pure, valT, hat]
                        congr 2
                        rw [List.extract_toArray, List.extract_eq_take_drop, ← List.map_drop, ← List.map_take]
                        congr 4
                        omega
                      | false =>
                        have hl1 : l.length = 1 := by
                          cases d with
                          | zero => simp [flatT] at hl
                          | succ d =>
                            unfold flatT at hl
                            unfold aggT at hat
                            split at hl
                            all_goals first | (injection hl with hl; subst hl; rfl) | (rename_i hu; rw [hu] at hat; simp at hat) | (cases hl)
                        have hlt : o < zs.length := by
                          rw [List.length_take, List.length_drop, hl1] at hzl; omega
                        have e1 : (zs.map toC).toArray[o]? = some (toC zs[o]) := by simp [hlt]
                        simp only [part, Sem.run_bind, run_isAgg hat w, Result.andThen_ok, Bool.false_eq_true, if_false, e1, Sem.run_pure, valT, hat, Option.some.injEq]
                        rw [hl1, List.drop_eq_getElem_cons hlt]
                        rfl
                  have hd : ∀ zs : List V, zs.drop o = (zs.drop o).take l.length ++ zs.drop (o + l.length) := fun zs => by
                    rw [← List.drop_drop, List.take_append_drop]
                  rw [hd vs, hd us, eqVs_app (by rw [fitKs_len a1, fitKs_len b1])]
                  simp only [Op.eqFields, hn, ne_eq, not_false_eq_true, if_true, Sem.run_bind, hp vs a1, hp us b1, Result.andThen_ok, hrec, Sem.run_ite, Sem.run_pure]
                  cases hq : eqVs ((vs.drop o).take l.length) ((us.drop o).take l.length) with
                  | false => simp
                  | true => simpa using ih (o + l.length) r hr a2 b2
                · cases hk
              · cases hk
            · cases hk
        have := main fs.toList 0 ks h (by simpa using hv) (by simpa using hu)
        simpa using this
      · cases h
    · cases h
theorem flat_agg {P : Program} {w : World} {d e : Nat} {t : TypeId} {ks : List LK} (h : flatT P (d + 1) t = some ks) (hag : aggT P t = some true) {vs us : List V} (hv : fitKs ks vs = true) (hu : fitKs ks us = true) : (Op.equalIn (d + 1 + e) t (.agg (vs.map toC).toArray) (.agg (us.map toC).toArray)).run P w = .ok (eqVs vs us) w := by
  have := flat_eq P w (e := e) h _ _ hv hu
  rwa [valT, if_pos hag, valT, if_pos hag] at this
theorem fit_cells {M : Nat → Prop} {w : World} {ι : Nat → Value} {h : Nat → Option Ob} {ks : List LK} {vs : List V} {cs : Array Value} (hf : fitKs ks vs = true) (hl : vs.length = cs.size) (hr : ∀ (i : Nat) (v : V), vs[i]? = some v → Rel M w ι h v (cs.getD i undef)) : cs = (vs.map toC).toArray := by
  have leaf : ∀ (ks : List LK) (vs : List V), fitKs ks vs = true → ∀ v ∈ vs, ∀ cv, Rel M w ι h v cv → cv = toC v := by
    intro ks
    induction ks with
    | nil => intro vs hf; cases vs with | nil => intro v hv; cases hv | cons a b => simp [fitKs] at hf
    | cons k ks ih =>
      intro vs hf
      cases vs with
      | nil => intro v hv; cases hv
      | cons a b =>
        simp only [fitKs, Bool.and_eq_true] at hf
        intro v hv cv r
        rcases List.mem_cons.1 hv with rfl | hv
        · cases v with
          | bool x => exact r.bool_inv
          | int k x => exact r.int_inv
          | str x => exact r.str_inv
          | _ => cases k <;> simp [fitK] at hf
        · exact ih b hf.2 v hv cv r
  apply Array.ext
  · simp [hl]
  · intro i h1 h2
    have hi : i < vs.length := by rw [hl]; exact h1
    have e1 := leaf ks vs hf _ (List.getElem_mem hi) _ (hr i _ (List.getElem?_eq_getElem hi))
    simp only [List.getElem_toArray, List.getElem_map]
    rw [← e1]
    simp [Array.getD, h1]
end Go.Proofs.YtcongikpaonliaaDoor
