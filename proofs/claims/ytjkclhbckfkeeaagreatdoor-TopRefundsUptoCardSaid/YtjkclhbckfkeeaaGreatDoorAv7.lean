import Derived.Laws.StructEq
import Derived.Lib.SliceRun
import Derived.Laws.Cover3
import Derived.Laws.Pointers
import Derived.Test.YtjkclhbckfkeeaaGreatDoorAv4
set_option linter.unusedSimpArgs false
set_option linter.unusedVariables false
set_option linter.deprecated false
namespace Go.Proofs.YtjkclhbckfkeeaaGreatDoor
open Go Go.RowKit
def BM (P : Program) (t : TypeId) : Option Bool :=
 match P.underlying t with
 | some (.struct _) => some true
 | some (.array _ _) => some true
 | some _ => some false
 | none => none
def szT (P : Program) (t : TypeId) : Option Nat := (P.info? t).map (·.size)
theorem HK {P : Program} {t : TypeId} {b : Bool} (h : BM P t = some b) (w : World) : (isAgg t).run P w = .ok b w := by
 unfold BM at h
 unfold isAgg
 cases hu : P.underlying t with
 | none => rw [hu] at h; cases h
 | some d =>
  rw [hu] at h
  rw [AA, run_underlying hu w]
  cases d <;> simp only [BS] at h <;> subst h <;> rfl
theorem run_sizeOf {P : Program} {t : TypeId} {n : Nat} (h : szT P t = some n) (w : World) : (sizeOf t).run P w = .ok n w := by
 unfold szT at h
 obtain ⟨i, hi, rfl⟩ := AY.1 h
 simp [sizeOf, typeInfo, hi]
theorem En {α : Type} {l : List α} {k : Nat} (d : α) (h : k < l.length) : l[k]? = some (l.getD k d) := by
 rw [Bm h, AS, Bm h]; rfl
def Nh (P : Program) (g : TypeId -> Option (List LK)) : Nat -> List Field -> Option (List LK)
 | _, [] => some []
 | o, f :: fs => if f.name ≠ "_" /\ f.offset = o then match g f.type with
  | some l => if szT P f.type = some l.length then (Nh P g (o + l.length) fs).map (l ++ ·) else none
  | none => none
  else none
def EC (P : Program) : Nat -> TypeId -> Option (List LK)
 | 0, _ => none
 | d + 1, t => match P.underlying t with
  | some .bool => some [.b]
  | some (.int k) => some [.i k]
  | some .string => some [.s]
  | some (.struct fs) => if P.stoodInHeld t = false then Nh P (EC P d) 0 fs.toList else none
  | some (.array n e) => match EC P d e with
   | some [k] => if szT P e = some 1 /\ BM P e = some false then some (List.replicate n k) else none
   | _ => none
  | _ => none
def toC : V -> Value
 | .bool b => .bool b
 | .int k n => .int k n
 | .str s => .string ⟨s.toArray⟩
 | _ => undef
def EQ (P : Program) (t : TypeId) (vs : List V) : Value := if BM P t = some true then .agg (vs.map toC).toArray else toC (vs.headD .any)
theorem Jb : ∀ {ks : List LK} {vs : List V}, Bw ks vs = true -> vs.length = ks.length
 | [], [], _ => rfl
 | k :: ks, v :: vs, h => by
  simp only [Bw, Bx] at h
  simp only [Aw, Jb h.2]
 | [], _ :: _, h => by simp [Bw] at h
 | _ :: _, [], h => by simp [Bw] at h
theorem SN : ∀ {l r : List LK} {vs : List V}, Bw (l ++ r) vs = true -> Bw l (vs.take l.length) = true /\ Bw r (vs.drop l.length) = true
 | [], r, vs, h => by simpa [Bw] using h
 | k :: l, r, [], h => by simp [Bw] at h
 | k :: l, r, v :: vs, h => by
  simp only [DN, Bw, Bx] at h
  obtain ⟨h1, h2⟩ := SN h.2
  exact ⟨by simp only [Aw, LT, Bw, h.1, h1, Bool.and_self], by simpa using h2⟩
theorem XK : ∀ {l r l' r' : List V}, l.length = l'.length -> CL (l ++ r) (l' ++ r') = (CL l l' && CL r r')
 | [], _, [], _, _ => by simp [CL]
 | a :: l, r, b :: l', r', h => by
  simp only [Aw, Nat.add_right_cancel_iff] at h
  simp only [DN, CL, XK h, Bool.and_assoc]
theorem AkZ (a b : List UInt8) : ((⟨a.toArray⟩ : ByteArray).toList == (⟨b.toArray⟩ : ByteArray).toList) = decide (a = b) := by
 rw [ByteArray.toList_mk, ByteArray.toList_mk]
 by_cases e : a = b <;> simp [e]
theorem Aak {k : IntKind} : ∀ {vs : List V}, Bw [.i k] vs = true -> ∃ a, vs = [.int k a]
 | [], h => by simp [Bw] at h
 | [v], h => by cases v <;> simp [Bw, Px] at h; subst h; exact ⟨_, rfl⟩
 | _ :: _ :: _, h => by simp [Bw] at h
theorem SQ {k : LK} : ∀ {n : Nat} {vs : List V}, Bw (List.replicate n k) vs = true -> ∀ {i : Nat} {v : V}, vs[i]? = some v -> Bw [k] [v] = true
 | 0, [], _, i, v, h => by simp at h
 | 0, a :: vs, h, _, _, _ => by simp [Bw] at h
 | n + 1, [], h, _, _, _ => by simp [PK, Bw] at h
 | n + 1, a :: vs, h, 0, v, hv => by
  simp only [PK, Bw, Bx] at h
  simp at hv; subst hv
  simp [Bw, h.1]
 | n + 1, a :: vs, h, i + 1, v, hv => by
  simp only [PK, Bw, Bx] at h
  exact SQ h.2 (by simpa using hv)
theorem ST (P : Program) (w : World) : ∀ {d e : Nat} {t : TypeId} {ks : List LK}, EC P d t = some ks -> ∀ (vs us : List V), Bw ks vs = true -> Bw ks us = true -> (Op.equalIn (d + e) t (EQ P t vs) (EQ P t us)).run P w = .ok (CL vs us) w
 | 0, _, _, _, h => by simp [EC] at h
 | d + 1, e, t, ks, h => by
  intro vs us hv hu
  have hde : d + 1 + e = (d + e) + 1 := by omega
  rw [hde]
  unfold EC at h
  split at h
  ·rename_i ht
   injection h with h; subst h
   match vs, us, hv, hu with
   | [.bool a], [.bool b], _, _ => simp [EQ, BM, ht, toC, run_equalIn_bool' w _ _ _ _ ht, CL, eqV]
  ·rename_i k ht
   injection h with h; subst h
   obtain ⟨a, rfl⟩ := Aak hv
   obtain ⟨b, rfl⟩ := Aak hu
   simp only [EQ, BM, ht, toC, List.headD_cons, reduceCtorEq, if_false, run_equalIn_int w _ _ _ _ _ _ ht, CL, eqV, Ku, BS, Bl]
   congr 1
  ·rename_i ht
   injection h with h; subst h
   match vs, us, hv, hu with
   | [.str a], [.str b], _, _ => simp only [EQ, BM, ht, toC, List.headD_cons, BS, Bl, if_false, run_equalIn_string w _ _ _ _ ht, CL, eqV, Ku, AkZ]
  ·rename_i fs ht
   split at h
   ·rename_i hst
    have hag : BM P t = some true := by simp [BM, ht]
    have hfo : P.fieldsOf t = fs := by simp [Program.fieldsOf, ht]
    rw [EQ, if_pos hag, EQ, if_pos hag, run_equalIn_struct w _ _ _ _ (by rw [hfo]; exact ht) hst, hfo]
    have main : ∀ (fl : List Field) (o : Nat) (ks : List LK), Nh P (EC P d) o fl = some ks -> Bw ks (vs.drop o) = true -> Bw ks (us.drop o) = true -> (Op.eqFields (d + e) (vs.map toC).toArray (us.map toC).toArray fl).run P w = .ok (CL (vs.drop o) (us.drop o)) w := by
     intro fl
     induction fl with
     | nil =>
      intro o ks hk f1 f2
      simp only [Nh, BS] at hk
      subst hk
      have e1 := Hy.1 (Jb f1)
      have e2 := Hy.1 (Jb f2)
      rw [e1, e2]
      simp [Op.eqFields, CL]
     | cons f fl ih =>
      intro o ks hk f1 f2
      unfold Nh at hk
      split at hk
      ·rename_i hno
       obtain ⟨hn, ho⟩ := hno
       split at hk
       ·rename_i l hl
        split at hk
        ·rename_i hsz
         obtain ⟨r, hr, rfl⟩ := AY.1 hk
         obtain ⟨a1, a2⟩ := SN f1
         obtain ⟨b1, b2⟩ := SN f2
         rw [NE] at a2 b2
         have hrec := ST P w (e := e) hl _ _ a1 b1
         have hp : ∀ zs : List V, Bw l ((zs.drop o).take l.length) = true -> (part f.type (zs.map toC).toArray f.offset).run P w = .ok (EQ P f.type ((zs.drop o).take l.length)) w := by
          intro zs hz
          have hzl := Jb hz
          rw [ho]
          cases hat : BM P f.type with
          | none =>
           exfalso
           cases d with
           | zero => simp [EC] at hl
           | succ d =>
            unfold EC at hl
            unfold BM at hat
            cases hu : P.underlying f.type with
            | none => rw [hu] at hl; simp at hl
            | some td => rw [hu] at hat; cases td <;> simp at hat
          | some ag =>
           cases ag with
           | true =>
            simp only [part, AA, HK hat w, AK, if_true, run_sizeOf hsz w, Bb, EQ, hat]
            congr 2
            rw [List.extract_toArray, List.extract_eq_take_drop, <- List.map_drop, <- LM]
            congr 4
            omega
           | false =>
            have hl1 : l.length = 1 := by
             cases d with
             | zero => simp [EC] at hl
             | succ d =>
              unfold EC at hl
              unfold BM at hat
              split at hl
              all_goals first | (injection hl with hl; subst hl; rfl) | (rename_i hu; rw [hu] at hat; simp at hat; done) | (rename_i hu _; rw [hu] at hat; simp at hat; done) | (cases hl)
            have hlt : o < zs.length := by
             rw [BJ, BW, hl1] at hzl; omega
            have e1 : (zs.map toC).toArray[o]? = some (toC zs[o]) := by simp [hlt]
            simp only [part, AA, HK hat w, AK, Bl, if_false, e1, Bb, EQ, hat, BS]
            rw [hl1, DL hlt]
            rfl
         have hd : ∀ zs : List V, zs.drop o = (zs.drop o).take l.length ++ zs.drop (o + l.length) := fun zs => by
          rw [<- NE, KA]
         rw [hd vs, hd us, XK (by rw [Jb a1, Jb b1])]
         simp only [Op.eqFields, hn, ne_eq, not_false_eq_true, if_true, AA, hp vs a1, hp us b1, AK, hrec, Sem.run_ite, Bb]
         cases hq : CL ((vs.drop o).take l.length) ((us.drop o).take l.length) with
         | false => simp
         | true => simpa using ih (o + l.length) r hr a2 b2
        ·cases hk
       ·cases hk
      ·cases hk
    have := main fs.toList 0 ks h (by simpa using hv) (by simpa using hu)
    simpa using this
   ·cases h
  ·rename_i n el ht
   split at h
   ·rename_i k hl
    split at h
    ·rename_i hsa
     obtain ⟨hsz, hae⟩ := hsa
     injection h with h
     subst h
     have hag : BM P t = some true := by simp [BM, ht]
     obtain ⟨inf, hi, hsi⟩ := AY.1 hsz
     have hc : P.cellsOf el = 1 := by simp [Program.cellsOf, hi, hsi]
     rw [EQ, if_pos hag, EQ, if_pos hag, run_equalIn_array w (d + e) _ _ ht hi, hc]
     have lv := Jb hv
     have lu := Jb hu
     rw [KB] at lv lu
     have hp : ∀ (zs : List V) (j : Nat) (z : V), zs[j]? = some z -> (part el (zs.map toC).toArray (j * 1)).run P w = .ok (toC z) w := by
      intro zs j z hz
      have e1 : (zs.map toC).toArray[j]? = some (toC z) := by simp [hz]
      simp only [part, LP, AA, HK hae w, AK, Bl, if_false, e1, Bb]
     have main : ∀ (m j : Nat), j + m = n -> (Op.eqItems (d + e) el 1 (vs.map toC).toArray (us.map toC).toArray (List.range' j m)).run P w = .ok (CL (vs.drop j) (us.drop j)) w := by
      intro m
      induction m with
      | zero =>
       intro j hj
       rw [Hz (by omega), Hz (by omega)]
       simp [Op.eqItems, CL]
      | succ m ih =>
       intro j hj
       have h1 : j < vs.length := by omega
       have h2 : j < us.length := by omega
       have g1 : vs[j]? = some vs[j] := Bm h1
       have g2 : us[j]? = some us[j] := Bm h2
       have f1 := SQ hv g1
       have f2 := SQ hu g2
       have hrec := ST P w (e := e) hl [vs[j]] [us[j]] f1 f2
       have hv1 : ∀ z : V, EQ P el [z] = toC z := fun z => by rw [EQ, if_neg (by rw [hae]; simp)]; rfl
       rw [hv1, hv1] at hrec
       rw [List.range'_succ, DL h1, DL h2]
       simp only [Op.eqItems, AA, hp vs j _ g1, hp us j _ g2, AK, hrec, Sem.run_ite, Bb, CL, Ku]
       cases hq : eqV vs[j] us[j] with
       | false => simp
       | true => simpa using ih (j + 1) (by omega)
     have := main n 0 (by omega)
     rw [List.range_eq_range']
     simpa using this
    ·cases h
   ·cases h
  ·cases h
theorem flat_agg {P : Program} {w : World} {d e : Nat} {t : TypeId} {ks : List LK} (h : EC P (d + 1) t = some ks) (hag : BM P t = some true) {vs us : List V} (hv : Bw ks vs = true) (hu : Bw ks us = true) : (Op.equalIn (d + 1 + e) t (.agg (vs.map toC).toArray) (.agg (us.map toC).toArray)).run P w = .ok (CL vs us) w := by
 have := ST P w (e := e) h _ _ hv hu
 rwa [EQ, if_pos hag, EQ, if_pos hag] at this
theorem Aaj {M : Nat -> Prop} {w : World} {ι : Nat -> Value} {h : Nat -> Option Ob} {ks : List LK} {vs : List V} {cs : Array Value} (hf : Bw ks vs = true) (hl : vs.length = cs.size) (hr : ∀ (i : Nat) (v : V), vs[i]? = some v -> Rel M w ι h v (cs.getD i undef)) : cs = (vs.map toC).toArray := by
 have leaf : ∀ (ks : List LK) (vs : List V), Bw ks vs = true -> ∀ v ∈ vs, ∀ cv, Rel M w ι h v cv -> cv = toC v := by
  intro ks
  induction ks with
  | nil => intro vs hf; cases vs with | nil => intro v hv; cases hv | cons a b => simp [Bw] at hf
  | cons k ks ih =>
   intro vs hf
   cases vs with
   | nil => intro v hv; cases hv
   | cons a b =>
    simp only [Bw, Bx] at hf
    intro v hv cv r
    rcases AN.1 hv with rfl | hv
    ·cases v with
     | bool x => exact r.bool_inv
     | int k x => exact r.int_inv
     | str x => exact r.str_inv
     | _ => cases k <;> simp [Px] at hf
    ·exact ih b hf.2 v hv cv r
 apply Array.ext
 ·simp [hl]
 ·intro i h1 h2
  have hi : i < vs.length := by rw [hl]; exact h1
  have e1 := leaf ks vs hf _ (AI hi) _ (hr i _ (Bm hi))
  simp only [List.getElem_toArray, Gb]
  rw [<- e1]
  simp [Array.getD, h1]
section
variable {P : Program} {U : Tbl} {C : Ctx U} {h : Nat -> Option Ob} {w : World} {M : Nat -> Prop} {ι : Nat -> Value} {o : Oper} {a : Act} {E : AE -> V} {G : Tab} {d : Nat}
theorem Rel.row_inv {vs : List V} {off : Nat} {cv : Value} (r : Rel M w ι h (.row vs off) cv) : ∃ g o, cv = .pointer (some ⟨g, o + off, none⟩) /\ M g /\ Hh M w ι h g o vs /\ (∀ j, j < vs.length -> ∃ u, w.cell? ⟨g, o + j, none⟩ = some u) := by
 cases r with
 | pur hp =>
  cases hp with
  | row _ _ g o f hg hc hv =>
   exact ⟨g, o, rfl, hg, ⟨f, fun j v hj => ⟨(hc j (BQ.1 hj).1).1, (hc j (BQ.1 hj).1).2, .pur (hv j v hj)⟩⟩, fun j hj => ⟨_, (hc j hj).1⟩⟩
theorem Rel.ptr_inv {n off : Nat} {cv : Value} (r : Rel M w ι h (.ptr n off) cv) : ∃ b t cells, h n = some (.box t cells) /\ ι n = .pointer (some ⟨b, 0, none⟩) /\ cv = .pointer (some ⟨b, off, none⟩) := by
 cases r with
 | pur hp => cases hp
 | ptrb _ _ b t cells ho hb => exact ⟨b, t, cells, ho, hb, rfl⟩
theorem Rel.eptr_inv {n len i off : Nat} {cv : Value} (r : Rel M w ι h (.eptr n len i off) cv) : ∃ t sz rows, h n = some (.arr t sz rows) /\ len <= rows.length /\ cv.oneCell' = true /\
  (rows.length = len -> ∃ g cap, ι n = .slice (some ⟨g, 0, none⟩) len cap /\ cv = .pointer (some ⟨g, i * sz + off, none⟩)) := by
 cases r with
 | pur hp => cases hp
 | eptr _ _ _ _ t sz rows _ ho hle hs hv => exact ⟨t, sz, rows, ho, hle, hs, hv⟩
theorem Rel.own_inv {n len : Nat} {cv : Value} (r : Rel M w ι h (.own n len) cv) : ∃ t sz rows, h n = some (.arr t sz rows) /\ len <= rows.length /\ (rows.length = len -> cv = ι n) := by
 cases r with
 | pur hp => cases hp
 | own _ _ t sz rows _ ho hle hv _ => exact ⟨t, sz, rows, ho, hle, hv⟩
theorem Rel.vw_inv {n off len m : Nat} {fit : Bool} {cv : Value} (r : Rel M w ι h (.vw n off len m fit) cv) : ∃ t sz rows, h n = some (.arr t sz rows) /\ m <= rows.length /\ off + len <= m /\
  (rows.length = m -> ∃ g cap0 a cap, ι n = .slice (some ⟨g, 0, none⟩) m cap0 /\ cv = .slice (some a) len cap /\ len <= cap /\ (fit = true -> cap = len) /\ (fit = false -> m <= off + cap) /\ (0 < cap -> a = ⟨g, off * sz, none⟩)) := by
 cases r with
 | pur hp => cases hp
 | vw _ _ _ _ _ t sz rows _ ho hle hb _ hv => exact ⟨t, sz, rows, ho, hle, hb, hv⟩
theorem Rel.list_inv {rows : List (List V)} {fit : Bool} {cv : Value} (r : Rel M w ι h (.list rows fit) cv) : ∃ (x : Option Addr) (cap g off sz : Nat), cv = .slice x rows.length cap /\ (fit = true -> cap = rows.length) /\ rows.length <= cap /\ (x = none -> cap = 0) /\
  (rows = [] \/ x = some ⟨g, off, none⟩ /\ M g) /\ (∀ r ∈ rows, r.length = sz) /\
  ∃ f : Nat -> Nat -> Value, (∀ i j, i < rows.length -> j < sz -> w.cell? ⟨g, off + i * sz + j, none⟩ = some (f i j) /\ (f i j).oneCell' = true) /\ ∀ i j r v, rows[i]? = some r -> r[j]? = some v -> Pur M w v (f i j) := by
 cases r with
 | pur hp =>
  cases hp with
  | list _ _ x cap sz g off f hf hcap hn ha hr hc hv => exact ⟨x, cap, g, off, sz, rfl, hf, hcap, hn, ha, hr, f, hc, hv⟩
theorem Mem.box_cells (hm : Mem C h w M ι) {n : Nat} {t : TypeId} {cells : List V} (hn : h n = some (.box t cells)) : ∃ (b : Nat) (cs : Array Value), ι n = .pointer (some ⟨b, 0, none⟩) /\ w.heap[b]? = some (.cells cs t (0, 0)) /\ cells.length = cs.size /\ Hh M w ι h b 0 cells := by
 obtain ⟨b, cs, e, hh, hl, ho, hv⟩ := hm.obj n _ hn
 refine ⟨b, cs, e, hh, hl, fun j => cs.getD j undef, fun j v hj => ?_⟩
 have hlt : j < cs.size := by rw [<- hl]; exact (BQ.1 hj).1
 have hcj : cs[j]? = some (cs.getD j undef) := by rw [Ji hlt]; simp [Array.getD, hlt]
 refine ⟨by rw [CI, cell_of_row w b j cs t (0, 0) hh, hcj], ho _ ?_, hv j v hj⟩
 rw [<- Cv] at hcj
 exact Bk hcj
theorem SU {sz : Nat} : ∀ {rows : List (List V)} (_ : ∀ r ∈ rows, r.length = sz) {i j : Nat} {r : List V} {v : V}, rows[i]? = some r -> r[j]? = some v -> i * sz + j < rows.length * sz
 | rows, hr, i, j, r, v, hi, hj => by
  have h1 := (BQ.1 hi).1
  have h2 := (BQ.1 hj).1
  rw [hr r (Bk hi)] at h2
  calc i * sz + j < i * sz + sz := by omega
   _ = (i + 1) * sz := by rw [EI]
   _ <= rows.length * sz := CB _ h1
theorem Mem.arr_cells (hm : Mem C h w M ι) {n : Nat} {t : TypeId} {sz : Nat} {rows : List (List V)} (hn : h n = some (.arr t sz rows)) {g len cap : Nat} (hg : ι n = .slice (some ⟨g, 0, none⟩) len cap) {i : Nat} {r : List V} (hi : rows[i]? = some r) :
  Hh M w ι h g (i * sz) r := by
 obtain ⟨xs, hown, hl, ho, hv⟩ := hm.obj n _ hn
 refine ⟨fun j => xs.getD (i * sz + j) undef, fun j v hj => ?_⟩
 have hlt : i * sz + j < xs.length := by rw [hown.1]; exact SU hl hi hj
 have hx := En undef hlt
 refine ⟨?_, ho _ (Bk hx), hv i j r v hi hj⟩
 have := hown.cells (g := g) (by rw [hg]; rfl) _ _ hx
 rwa [show (⟨g, 0, none⟩ : Addr).add (i * sz + j) = ⟨g, i * sz + j, none⟩ by unfold Addr.add; split <;> simp_all] at this
theorem DW (g o j : Nat) : (⟨g, o, none⟩ : Addr).add j = ⟨g, o + j, none⟩ := by unfold Addr.add; split <;> simp_all
theorem Ab5 {P : Program} {t : TypeId} (hag : BM P t = some false) {g o : Nat} {u : Value} (hc : w.cell? ⟨g, o, none⟩ = some u) : (loadVar t ⟨g, o, none⟩).run P w = .ok u w := by
 simp [loadVar, HK hag, hc]
theorem Ab4 {P : Program} {t : TypeId} {k : Nat} (hag : BM P t = some true) (hs : szT P t = some k) {g o : Nat} {vs : List V} (hc : Hh M w ι h g o vs) (hk : k <= vs.length) :
  ∃ cs, (loadVar t ⟨g, o, none⟩).run P w = .ok (.agg cs) w /\ Rel M w ι h (.agg (vs.take k)) (.agg cs) := by
 obtain ⟨f, hf⟩ := hc
 have hcell : ∀ j, j < k -> w.cell? ((⟨g, o, none⟩ : Addr).add j) = some (f j) := fun j hj => by
  rw [DW]
  exact (hf j _ (En .any (by omega))).1
 refine ⟨((List.range k).map f).toArray, by simp [loadVar, HK hag, run_sizeOf hs, run_loadCells w _ k f hcell], .agg _ _ (by simp; omega) (fun c hc => ?_) (fun i v hi => ?_)⟩
 ·simp only [Am, LL] at hc
  obtain ⟨j, hj, rfl⟩ := hc
  exact (hf j _ (En .any (by omega))).2.1
 ·have hik : i < k := by have := (BQ.1 hi).1; rw [BJ] at this; omega
  rw [Ir hik] at hi
  have := (hf i v hi).2.2
  simpa [hik] using this
theorem Aj6 {t : TypeId} {x0 : Operand} {x : AE} {k : Nat} {ag : Bool} (ho : o.op = .load t x0) (hag : BM P t = some ag) (hs : szT P t = some k) (hm : Mem C h w M ι) (hx : Rel M w ι h (E x) (a.eval x0)) :
  Sim P G C h w M ι o a E d (.load (if ag then some k else none) x) := by
 have fin : ∀ (g p : Nat) (vs : List V), a.eval x0 = .pointer (some ⟨g, p, none⟩) -> Hh M w ι h g p vs ->
   (ag = false -> 0 < vs.length -> CZ P o a w (Ay C h w M ι h (vs.getD 0 .any))) /\ (ag = true -> k <= vs.length -> CZ P o a w (Ay C h w M ι h (.agg (vs.take k)))) := by
  intro g p vs e hc
  refine ⟨fun e1 hl => ?_, fun e1 hl => ?_⟩
  ·subst e1
   obtain ⟨f, hf⟩ := hc
   obtain ⟨c1, _, c3⟩ := hf 0 _ (En .any hl)
   rw [Fe] at c1
   refine .run (cv := f 0) (w' := w) ?_ (Ay.same hm c3)
   simp [execOp, ho, e, Instr.loadAt, Instr.sureAddr, Ab5 hag c1]
  ·subst e1
   obtain ⟨cs, h1, h2⟩ := Ab4 hag hs hc hl
   refine .run (cv := .agg cs) (w' := w) ?_ (Ay.same hm h2)
   simp [execOp, ho, e, Instr.loadAt, Instr.sureAddr, h1]
 have get0 : ∀ (vs : List V) (off : Nat), (vs.drop off).getD 0 .any = vs.getD off .any := fun vs off => by simp [AS]
 unfold Sim At GK
 dsimp only
 generalize hEx : E x = ex at hx
 cases ex with
 | ptr n off =>
  dsimp only
  obtain ⟨b, t', cells, hn, hb, e⟩ := hx.ptr_inv
  rw [hn]
  obtain ⟨b', cs, e', _, _, hc⟩ := hm.box_cells hn
  rw [hb] at e'
  injection e' with e'; injection e' with e'; injection e' with e'
  subst e'
  have hc2 := hc.drop off
  rw [CI] at hc2
  obtain ⟨f1, f2⟩ := fin _ _ _ e hc2
  cases ag
  ·intro hφ
   have := f1 rfl (by rw [BW]; exact LE hφ)
   rw [get0] at this
   exact this
  ·intro hφ
   exact f2 rfl (by rw [BW]; replace hφ : off + k <= cells.length := hφ; omega)
 | eptr n len i off =>
  dsimp only
  obtain ⟨t', sz, rows, hn, _, _, hv⟩ := hx.eptr_inv
  rw [hn]
  have main : rows.length = len -> i < rows.length -> Hh M w ι h (match a.eval x0 with | .pointer (some q) => q.block | _ => 0) (i * sz + off) ((rows.getD i []).drop off) /\ a.eval x0 = .pointer (some ⟨(match a.eval x0 with | .pointer (some q) => q.block | _ => 0), i * sz + off, none⟩) := by
   intro e1 e2
   obtain ⟨g, cap, hg, e⟩ := hv e1
   rw [e]
   exact ⟨(hm.arr_cells hn hg (En [] e2)).drop off, rfl⟩
  cases ag
  ·intro hφ
   obtain ⟨e1, e2, e3⟩ := hφ
   obtain ⟨hc, e⟩ := main e1 e2
   have := (fin _ _ _ e hc).1 rfl (by rw [BW]; exact LE e3)
   rw [get0] at this
   exact this
  ·intro hφ
   obtain ⟨e1, e2, e3⟩ := hφ
   obtain ⟨hc, e⟩ := main e1 e2
   exact (fin _ _ _ e hc).2 rfl (by rw [BW]; omega)
 | row vs off =>
  dsimp only
  obtain ⟨g, p, e, _, hc, _⟩ := hx.row_inv
  obtain ⟨f1, f2⟩ := fin _ _ _ e (hc.drop off)
  cases ag
  ·intro hφ
   have := f1 rfl (by rw [BW]; exact LE hφ)
   rw [get0] at this
   exact this
  ·intro hφ
   exact f2 rfl (by rw [BW]; replace hφ : off + k <= vs.length := hφ; omega)
 | _ => exact fun hφ => hφ.elim
def PW (P : Program) (t : TypeId) (k : Nat) : Option Nat :=
 match P.underlying t with
 | some (.struct fields) => match fields[k]? with
  | some f => match szT P f.type with
   | some (_ + 1) => some f.offset
   | _ => none
  | none => none
 | _ => none
theorem AhP {P : Program} {t : TypeId} {k off : Nat} (h : PW P t k = some off) : ∃ fields f n, P.underlying t = some (.struct fields) /\ fields[k]? = some f /\ szT P f.type = some (n + 1) /\ off = f.offset := by
 unfold PW at h
 split at h
 ·rename_i fields hu
  split at h
  ·rename_i f hf
   split at h
   ·rename_i n hn; injection h with h; exact ⟨fields, f, n, hu, hf, hn, h.symm⟩
   ·cases h
  ·cases h
 ·cases h
theorem Aj1 {t : TypeId} {x0 : Operand} {x : AE} {k off : Nat} (ho : o.op = .fieldAddr t x0 k) (hoff : PW P t k = some off) (hm : Mem C h w M ι) (hx : Rel M w ι h (E x) (a.eval x0)) :
  Sim P G C h w M ι o a E d (.fld off x) := by
 have fin : ∀ (g p : Nat) (v : V), a.eval x0 = .pointer (some ⟨g, p, none⟩) -> Rel M w ι h v (.pointer (some ⟨g, p + off, none⟩)) -> CZ P o a w (Ay C h w M ι h v) := by
  intro g p v e hr
  refine .run (cv := .pointer (some ⟨g, p + off, none⟩)) (w' := w) ?_ (Ay.same hm hr)
  obtain ⟨fields, f, n, hu, hf, hn, rfl⟩ := AhP hoff
  simp [execOp, ho, e, Instr.fieldAt, run_underlying hu, hf, Instr.sureAddr, fieldPlace, run_sizeOf hn, DW]
 unfold Sim At JU
 dsimp only
 generalize hEx : E x = ex at hx
 cases ex with
 | ptr n q =>
  intro _
  obtain ⟨b, t', cells, hn, hb, e⟩ := hx.ptr_inv
  exact fin _ _ _ e (.ptrb n (q + off) b t' cells hn hb)
 | eptr n len i q =>
  dsimp only
  obtain ⟨t', sz, rows, hn, hle, hs, hv⟩ := hx.eptr_inv
  rw [hn]
  intro hφ
  replace hφ : rows.length = len := hφ
  obtain ⟨g, cap, hg, e⟩ := hv hφ
  refine fin _ _ _ e (.eptr n len i (q + off) t' sz rows _ hn hle rfl (fun _ => ⟨g, cap, hg, by rw [Jh]⟩))
 | row vs q =>
  intro _
  cases hx with
  | pur hp =>
   generalize hev : a.eval x0 = ev at hp
   cases hp with
   | row _ _ g p f hg hc hv =>
    have := fin g (p + q) (.row vs (q + off)) hev (by rw [Jh]; exact .pur (.row vs (q + off) g p f hg hc hv))
    exact this
 | _ => exact fun hφ => hφ.elim
end
section
variable {P : Program} {U : Tbl} {C : Ctx U} {h : Nat -> Option Ob} {w : World} {M : Nat -> Prop} {ι : Nat -> Value} {o : Oper} {a : Act} {E : AE -> V} {G : Tab} {d : Nat}
theorem OJ (l : List UInt8) : (⟨l.toArray⟩ : ByteArray).size = l.length := by simp [ByteArray.size]
theorem Aj2 {t e : TypeId} {x0 i0 : Operand} {x i : AE} {sz : Nat} (ho : o.op = .indexAddr t x0 i0) (ht : P.underlying t = some (.slice e)) (hs : szT P e = some sz) (hm : Mem C h w M ι)
  (hx : Rel M w ι h (E x) (a.eval x0)) (hi : Rel M w ι h (E i) (a.eval i0)) : Sim P G C h w M ι o a E d (.idx sz x i) := by
 unfold Sim At IV
 dsimp only
 split
 ·rename_i rows fit n e1 e2
  rw [e1] at hx
  rw [e2] at hi
  intro hφ
  obtain ⟨h0, h1, h2⟩ := hφ
  have hlt : n.toNat < rows.length := by omega
  obtain ⟨y, cap, g, off, sz', hcv, _, _, _, hne, hr, f, hc, hv⟩ := hx.list_inv
  have hg := En [] hlt
  have hsz : sz' = sz := by rw [<- h2]; exact (hr _ (Bk hg)).symm
  subst hsz
  rcases hne with rfl | ⟨rfl, hM⟩
  ·exact absurd hlt (Ee _)
  ·refine .run (cv := .pointer (some ⟨g, off + n.toNat * sz' + 0, none⟩)) (w' := w) ?_ (Ay.same hm (.pur (.row _ 0 g (off + n.toNat * sz') (f n.toNat) hM (fun j hj => hc _ _ hlt (by rw [<- h2]; exact hj)) (fun j v hj => hv _ _ _ _ hg hj))))
   simp [execOp, ho, hcv, hi.int_inv, Instr.indexAt, run_underlying ht, asIntOf, h0, h1, run_sizeOf hs, DW]
 ·rename_i n len q e1 e2
  rw [e1] at hx
  rw [e2] at hi
  obtain ⟨t', sz', rows, hn, hle, hv⟩ := hx.own_inv
  rw [hn]
  intro hφ
  obtain ⟨h0, h1, h2, h3⟩ := hφ
  subst h2
  obtain ⟨xs, hown, _⟩ := hm.obj n _ hn
  have hcv := hv h3
  rcases hown.2 with ⟨e, hz⟩ | ⟨g, cap, cur, e, _⟩
  ·rw [h3] at hz; omega
  ·rw [e] at hcv
   refine .run (cv := .pointer (some ⟨g, q.toNat * sz' + 0, none⟩)) (w' := w) ?_ (Ay.same hm (.eptr n len q.toNat 0 t' sz' rows _ hn hle rfl (fun _ => ⟨g, cap, by rw [e, h3], rfl⟩)))
   simp [execOp, ho, hcv, hi.int_inv, Instr.indexAt, run_underlying ht, asIntOf, h0, show q < rows.length by omega, run_sizeOf hs, DW]
 ·rename_i n off len m fit q e1 e2
  rw [e1] at hx
  rw [e2] at hi
  obtain ⟨t', sz', rows, hn, hle, hb, hv⟩ := hx.vw_inv
  rw [hn]
  intro hφ
  obtain ⟨h0, h1, h2, h3⟩ := hφ
  subst h2
  obtain ⟨g, cap0, ad, cap, e, hcv, hlc, _, _, ha⟩ := hv h3
  rw [ha (by omega)] at hcv
  refine .run (cv := .pointer (some ⟨g, (off + q.toNat) * sz' + 0, none⟩)) (w' := w) ?_ (Ay.same hm (.eptr n m (off + q.toNat) 0 t' sz' rows _ hn hle rfl (fun _ => ⟨g, cap0, e, rfl⟩)))
  simp [execOp, ho, hcv, hi.int_inv, Instr.indexAt, run_underlying ht, asIntOf, h0, show q < len by omega, run_sizeOf hs, DW, EJ]
 ·exact fun hφ => hφ.elim
theorem Aki {t : TypeId} {x0 i0 : Operand} {x i : AE} (ho : o.op = .index t x0 i0) (ht : P.underlying t = some .string) (hm : Mem C h w M ι)
  (hx : Rel M w ι h (E x) (a.eval x0)) (hi : Rel M w ι h (E i) (a.eval i0)) : Sim P G C h w M ι o a E d (.sidx x i) := by
 unfold Sim At
 dsimp only
 split
 ·rename_i s n e1 e2
  rw [e1] at hx
  rw [e2] at hi
  intro hφ
  obtain ⟨h0, h1⟩ := hφ
  have hlt : n.toNat < s.length := by omega
  refine .run (cv := .int .u8 ((s.getD n.toNat 0).toNat)) (w' := w) ?_ (Ay.same hm (.pur (.int _ _)))
  have hg : (⟨s.toArray⟩ : ByteArray)[n.toNat]? = some (s.getD n.toNat 0) := by
   rw [getElem?_pos (⟨s.toArray⟩ : ByteArray) n.toNat (by rw [OJ]; exact hlt), AS, Bm hlt]; rfl
  simp [execOp, ho, hx.str_inv, hi.int_inv, Instr.index, run_underlying ht, asIntOf, h0, hg]
 ·exact fun hφ => hφ.elim
theorem Aj3 {t e : TypeId} {n : Nat} {x0 i0 : Operand} {x i : AE} {sz : Nat} (ho : o.op = .indexAddr t x0 i0) (ht : P.underlying t = some (.array n e)) (hs : szT P e = some sz) (hm : Mem C h w M ι)
  (hx : Rel M w ι h (E x) (a.eval x0)) (hi : Rel M w ι h (E i) (a.eval i0)) : Sim P G C h w M ι o a E d (.idxa sz n x i) := by
 unfold Sim At OW
 dsimp only
 split
 ·rename_i m off q e1 e2
  rw [e1] at hx
  rw [e2] at hi
  intro hφ
  obtain ⟨h0, h1⟩ := hφ
  obtain ⟨b, t', cells, hn, hb, ea⟩ := hx.ptr_inv
  refine .run (cv := .pointer (some ⟨b, off + q.toNat * sz, none⟩)) (w' := w) ?_ (Ay.same hm (.ptrb m (off + q.toNat * sz) b t' cells hn hb))
  simp [execOp, ho, ea, hi.int_inv, Instr.indexAt, Instr.sureAddr, run_underlying ht, asIntOf, h0, h1, run_sizeOf hs, DW]
 ·rename_i vs off q e1 e2
  rw [e1] at hx
  rw [e2] at hi
  intro hφ
  obtain ⟨h0, h1⟩ := hφ
  cases hx with
  | pur hp =>
   generalize hev : a.eval x0 = ev at hp
   cases hp with
   | row _ _ g p f hM hc hv =>
    refine .run (cv := .pointer (some ⟨g, p + (off + q.toNat * sz), none⟩)) (w' := w) ?_ (Ay.same hm (.pur (.row vs (off + q.toNat * sz) g p f hM hc hv)))
    simp [execOp, ho, hev, hi.int_inv, Instr.indexAt, Instr.sureAddr, run_underlying ht, asIntOf, h0, h1, run_sizeOf hs, DW, Jh]
 ·exact fun hφ => hφ.elim
theorem Akf {x0 : Operand} {x : AE} (ho : o.op = .nilCheck x0) (hm : Mem C h w M ι) (hx : Rel M w ι h (E x) (a.eval x0)) : Sim P G C h w M ι o a E d (.nchk x) := by
 unfold Sim At
 dsimp only
 split
 ·rename_i n q e1
  rw [e1] at hx
  intro _
  obtain ⟨b, t', cells, hn, hb, e⟩ := hx.ptr_inv
  refine .run (cv := a.eval x0) (w' := w) ?_ (Ay.same hm hx)
  simp [execOp, ho, e]
 ·rename_i vs q e1
  rw [e1] at hx
  intro _
  obtain ⟨g, p, e, _⟩ := hx.row_inv
  refine .run (cv := a.eval x0) (w' := w) ?_ (Ay.same hm hx)
  simp [execOp, ho, e]
 ·rename_i n len i q e1
  rw [e1] at hx
  obtain ⟨t', sz', rows, hn, hle, hs, hv⟩ := hx.eptr_inv
  rw [hn]
  intro hφ
  obtain ⟨g, cap, _, e⟩ := hv hφ
  refine .run (cv := a.eval x0) (w' := w) ?_ (Ay.same hm hx)
  simp [execOp, ho, e]
 ·rename_i f c e1
  rw [e1] at hx
  intro _
  obtain ⟨cs, e, _⟩ := hx.fn_inv
  refine .run (cv := a.eval x0) (w' := w) ?_ (Ay.same hm hx)
  simp [execOp, ho, e]
 ·exact fun hφ => hφ.elim
theorem Aj5 {t : TypeId} {x0 : Operand} {x : AE} {args : Array Operand} (ho : o.op = .call { callee := .builtin .len, args, argTypes := #[t] }) (ha : args = #[x0])
  {e' : TypeId} (he : P.underlying t = some (.slice e'))
  (hm : Mem C h w M ι) (hx : Rel M w ι h (E x) (a.eval x0)) : Sim P G C h w M ι o a E d (.len x) := by
 have fin : ∀ (n : Nat) (p : Option Addr) (c : Nat), a.eval x0 = .slice p n c -> CZ P o a w (Ay C h w M ι h (.int .i64 n)) := by
  intro n p c e
  refine .run (cv := .int .i64 n) (w' := w) ?_ (Ay.same hm (.pur (.int _ _)))
  simp [execOp, ho, ha, e, resolve, invoke, builtin, Builtin.len_, run_underlying he, goInt]
 unfold Sim At JV
 dsimp only
 split
 ·rename_i n len e1
  rw [e1] at hx
  obtain ⟨t', sz', rows, hn, hle, hv⟩ := hx.own_inv
  rw [hn]
  intro hφ
  replace hφ : rows.length = len := hφ
  obtain ⟨xs, hown, _⟩ := hm.obj n _ hn
  have hcv := hv hφ
  rcases hown.2 with ⟨e, hz⟩ | ⟨g, cap, cur, e, _⟩
  ·rw [e] at hcv
   have := fin 0 _ _ hcv
   rw [hφ] at hz
   subst hz
   exact this
  ·rw [e, hφ] at hcv
   exact fin _ _ _ hcv
 ·rename_i n off len m fit e1
  rw [e1] at hx
  obtain ⟨t', sz', rows, hn, hle, hb, hv⟩ := hx.vw_inv
  rw [hn]
  intro hφ
  replace hφ : rows.length = m := hφ
  obtain ⟨g, cap0, ad, cap, e, hcv, _⟩ := hv hφ
  exact fin _ _ _ hcv
 ·rename_i v _
  generalize hEx : E x = ex at hx
  unfold OY
  cases ex with
  | list rows fit =>
   intro _
   obtain ⟨y, cap, g, off, sz', hcv, _⟩ := hx.list_inv
   exact fin _ _ _ hcv
  | nils => exact fun _ => fin 0 _ _ hx.nils_inv
  | _ => exact fun hφ => hφ.elim
theorem Akj {t : TypeId} {x0 : Operand} {x : AE} {args : Array Operand} (ho : o.op = .call { callee := .builtin .len, args, argTypes := #[t] }) (ha : args = #[x0]) (ht : P.underlying t = some .string)
  (hm : Mem C h w M ι) (hx : Rel M w ι h (E x) (a.eval x0)) : Sim P G C h w M ι o a E d (.slen x) := by
 unfold Sim At
 dsimp only
 split
 ·rename_i s e1
  rw [e1] at hx
  intro _
  refine .run (cv := .int .i64 s.length) (w' := w) ?_ (Ay.same hm (.pur (.int _ _)))
  simp [execOp, ho, ha, hx.str_inv, resolve, invoke, builtin, Builtin.len_, run_underlying ht, goInt, OJ]
 ·exact fun hφ => hφ.elim
theorem NZ {op : BinOp} {t t2 : TypeId} {x0 y0 : Operand} (ho : o.op = .binOp op t x0 y0 t2) {u v r : Value} (hu : a.eval x0 = u) (hv : a.eval y0 = v) (hg : eqGuard op t x0 y0 u v = pure ()) (hr : (binOp op t u v).run P w = .ok r w) :
  (execOp a.eval o).run P w = .ok (.value r) w := by
 simp [execOp, ho, hu, hv, hg, hr]
theorem Nl {n : Int} (h : inI n) : IntKind.i64.wrap n = n := IntWalk.i64_in _ h
theorem Qs (a b : List UInt8) : ((⟨a.toArray⟩ : ByteArray).toList == (⟨b.toArray⟩ : ByteArray).toList) = decide (a = b) := by
 rw [ByteArray.toList_mk, ByteArray.toList_mk]
 by_cases e : a = b <;> simp [e]
theorem QA (a : List UInt8) : (⟨a.toArray⟩ : ByteArray).toList = a := by
 rw [ByteArray.toList_mk]
theorem OI (a b : List UInt8) : (a == b) = decide (a = b) := by by_cases e : a = b <;> simp [e]
theorem Aev {op : BinOp} {t t2 : TypeId} {x0 y0 : Operand} {k k' : IntKind} {p q : Int} (ho : o.op = .binOp op t x0 y0 t2) (hm : Mem C h w M ι) (hx : Rel M w ι h (.int k p) (a.eval x0)) (hy : Rel M w ι h (.int k' q) (a.eval y0)) :
  (IW op k k' p q).φ -> CZ P o a w (Ay C h w M ι (Ck h (IW op k k' p q).w) (IW op k k' p q).v) := by
 have fin : ∀ {r : Value} {rv : V}, k' = k -> (binOp op t (.int k p) (.int k q)).run P w = .ok r w -> Pur M w rv r -> CZ P o a w (Ay C h w M ι h rv) := by
  intro r rv hk hr hp
  subst hk
  exact .run (NZ ho hx.int_inv hy.int_inv (eqGuard_at_int _ _ _ _ _ _ _) hr) (Ay.same hm (.pur hp))
 unfold IW
 split
 ·rename_i hk
  subst hk
  cases op with
  | add => exact fun hφ => fin rfl (r := .int k (p + q)) (by rw [binOp_add]; simp [Op.intArith, show k.wrap (p + q) = p + q from hφ]) (.int _ _)
  | sub => exact fun hφ => fin rfl (r := .int k (p - q)) (by rw [binOp_sub]; simp [Op.intArith, show k.wrap (p - q) = p - q from hφ]) (.int _ _)
  | mul => exact fun hφ => fin rfl (r := .int k (p * q)) (by rw [binOp_mul]; simp [Op.intArith, show k.wrap (p * q) = p * q from hφ]) (.int _ _)
  | quo =>
   rintro ⟨h1, h2, h3⟩
   exact fin rfl (r := .int k (p / q)) (by rw [binOp_quo, Op.intDiv, if_neg (by omega)]; simp [Kz h1, show k.wrap (p / q) = p / q from h3]) (.int _ _)
  | rem =>
   rintro ⟨h1, h2⟩
   exact fin rfl (r := .int k (p % q)) (by rw [binOp_rem, Op.intDiv, if_neg (by omega)]; simp [IntWalk.rem_in p q h1]) (.int _ _)
  | eql => exact fun hφ => fin rfl (r := .bool (decide (p = q))) (by rw [binOp_eql]; rfl) (.bool _)
  | neq => exact fun hφ => fin rfl (r := .bool (!decide (p = q))) (by rw [binOp_neq]; rfl) (.bool _)
  | lss => exact fun hφ => fin rfl (r := .bool (decide (p < q))) (by rw [binOp_lss]; rfl) (.bool _)
  | leq => exact fun hφ => fin rfl (r := .bool (decide (p <= q))) (by rw [binOp_leq]; rfl) (.bool _)
  | gtr => exact fun hφ => fin rfl (r := .bool (decide (q < p))) (by rw [binOp_gtr]; rfl) (.bool _)
  | geq => exact fun hφ => fin rfl (r := .bool (decide (q <= p))) (by rw [binOp_geq]; rfl) (.bool _)
  | _ => exact fun hφ => hφ.elim
 ·exact fun hφ => hφ.elim
theorem AcG {op : BinOp} {t t2 : TypeId} {x0 y0 : Operand} {x y : AE} (ho : o.op = .binOp op t x0 y0 t2) (hm : Mem C h w M ι) (hx : Rel M w ι h (E x) (a.eval x0)) (hy : Rel M w ι h (E y) (a.eval y0)) :
  Sim P G C h w M ι o a E d (.bin op x y) := by
 have fin : ∀ {u v r : Value} {rv : V}, a.eval x0 = u -> a.eval y0 = v -> (∀ x1 y1, eqGuard op t x1 y1 u v = pure ()) -> (binOp op t u v).run P w = .ok r w -> Pur M w rv r -> CZ P o a w (Ay C h w M ι h rv) := by
  intro u v r rv hu hv hg hr hp
  exact .run (NZ ho hu hv (hg _ _) hr) (Ay.same hm (.pur hp))
 unfold Sim At Lg
 dsimp only
 split
 case h_1 p q e1 e2 =>
  rw [e1] at hx; rw [e2] at hy
  intro hφ
  exact fin hx.int_inv hy.int_inv (fun _ _ => eqGuard_at_int _ _ _ _ _ _ _) (r := .int .i64 (p + q)) (by rw [binOp_add]; simp [Op.intArith, Nl hφ]) (.int _ _)
 case h_2 p q e1 e2 =>
  rw [e1] at hx; rw [e2] at hy
  intro hφ
  exact fin hx.int_inv hy.int_inv (fun _ _ => eqGuard_at_int _ _ _ _ _ _ _) (r := .int .i64 (p - q)) (by rw [binOp_sub]; simp [Op.intArith, Nl hφ]) (.int _ _)
 case h_3 p q e1 e2 =>
  rw [e1] at hx; rw [e2] at hy
  intro hφ
  exact fin hx.int_inv hy.int_inv (fun _ _ => eqGuard_at_int _ _ _ _ _ _ _) (r := .int .i64 (p * q)) (by rw [binOp_mul]; simp [Op.intArith, Nl hφ]) (.int _ _)
 case h_4 p q e1 e2 =>
  rw [e1] at hx; rw [e2] at hy
  intro hφ
  exact fin hx.int_inv hy.int_inv (fun _ _ => eqGuard_at_int _ _ _ _ _ _ _) (r := .int .i64 (p.tdiv q)) (by rw [binOp_quo, Op.intDiv, if_neg hφ.1]; simp [Nl hφ.2]) (.int _ _)
 case h_5 p q e1 e2 =>
  rw [e1] at hx; rw [e2] at hy
  intro hφ
  exact fin hx.int_inv hy.int_inv (fun _ _ => eqGuard_at_int _ _ _ _ _ _ _) (r := .int .i64 (p.tmod q)) (by rw [binOp_rem, Op.intDiv, if_neg hφ]; rfl) (.int _ _)
 case h_6 p q e1 e2 =>
  rw [e1] at hx; rw [e2] at hy
  intro hφ
  exact fin hx.int_inv hy.int_inv (fun _ _ => eqGuard_at_int _ _ _ _ _ _ _) (r := .bool (decide (p = q))) (by rw [binOp_eql]; rfl) (.bool _)
 case h_7 p q e1 e2 =>
  rw [e1] at hx; rw [e2] at hy
  intro hφ
  exact fin hx.int_inv hy.int_inv (fun _ _ => eqGuard_at_int _ _ _ _ _ _ _) (r := .bool (!decide (p = q))) (by rw [binOp_neq]; rfl) (.bool _)
 case h_8 p q e1 e2 =>
  rw [e1] at hx; rw [e2] at hy
  intro hφ
  exact fin hx.int_inv hy.int_inv (fun _ _ => eqGuard_at_int _ _ _ _ _ _ _) (r := .bool (decide (p < q))) (by rw [binOp_lss]; rfl) (.bool _)
 case h_9 p q e1 e2 =>
  rw [e1] at hx; rw [e2] at hy
  intro hφ
  exact fin hx.int_inv hy.int_inv (fun _ _ => eqGuard_at_int _ _ _ _ _ _ _) (r := .bool (decide (p <= q))) (by rw [binOp_leq]; rfl) (.bool _)
 case h_10 p q e1 e2 =>
  rw [e1] at hx; rw [e2] at hy
  intro hφ
  exact fin hx.int_inv hy.int_inv (fun _ _ => eqGuard_at_int _ _ _ _ _ _ _) (r := .bool (decide (q < p))) (by rw [binOp_gtr]; rfl) (.bool _)
 case h_11 p q e1 e2 =>
  rw [e1] at hx; rw [e2] at hy
  intro hφ
  exact fin hx.int_inv hy.int_inv (fun _ _ => eqGuard_at_int _ _ _ _ _ _ _) (r := .bool (decide (q <= p))) (by rw [binOp_geq]; rfl) (.bool _)
 case h_12 p q e1 e2 =>
  rw [e1] at hx; rw [e2] at hy
  intro hφ
  exact fin hx.int_inv hy.int_inv (fun _ _ => eqGuard_at_int _ _ _ _ _ _ _) (r := .bool (decide (p = q))) (by rw [binOp_eql]; rfl) (.bool _)
 case h_13 p q e1 e2 =>
  rw [e1] at hx; rw [e2] at hy
  intro hφ
  exact fin hx.int_inv hy.int_inv (fun _ _ => eqGuard_at_int _ _ _ _ _ _ _) (r := .bool (!decide (p = q))) (by rw [binOp_neq]; rfl) (.bool _)
 case h_14 p q e1 e2 =>
  rw [e1] at hx; rw [e2] at hy
  intro hφ
  exact fin hx.int_inv hy.int_inv (fun _ _ => eqGuard_at_int _ _ _ _ _ _ _) (r := .bool (decide (p < q))) (by rw [binOp_lss]; rfl) (.bool _)
 case h_15 p q e1 e2 =>
  rw [e1] at hx; rw [e2] at hy
  intro hφ
  exact fin hx.int_inv hy.int_inv (fun _ _ => eqGuard_at_int _ _ _ _ _ _ _) (r := .bool (decide (p <= q))) (by rw [binOp_leq]; rfl) (.bool _)
 case h_16 p q e1 e2 =>
  rw [e1] at hx; rw [e2] at hy
  intro hφ
  exact fin hx.int_inv hy.int_inv (fun _ _ => eqGuard_at_int _ _ _ _ _ _ _) (r := .bool (decide (q < p))) (by rw [binOp_gtr]; rfl) (.bool _)
 case h_17 p q e1 e2 =>
  rw [e1] at hx; rw [e2] at hy
  intro hφ
  exact fin hx.int_inv hy.int_inv (fun _ _ => eqGuard_at_int _ _ _ _ _ _ _) (r := .bool (decide (q <= p))) (by rw [binOp_geq]; rfl) (.bool _)
 case h_18 p q e1 e2 =>
  rw [e1] at hx; rw [e2] at hy
  intro hφ
  refine fin hx.str_inv hy.str_inv (fun _ _ => eqGuard_at_string _ _ _ _ _ _) (r := .string ⟨(p ++ q).toArray⟩) ?_ (.str _)
  have hlen : ((p.length + q.length : Nat) : Int) <= 9223372036854775807 := by replace hφ : (p ++ q).length <= 140737488355328 := hφ; rw [An] at hφ; omega
  have happ : (⟨p.toArray⟩ : ByteArray) ++ (⟨q.toArray⟩ : ByteArray) = ⟨(p ++ q).toArray⟩ := by apply ByteArray.ext; simp
  simp only [binOp, Op.stringOp, OJ, IntKind.max_i64]
  rw [if_neg (by omega), happ]
  rfl
 case h_19 p q e1 e2 =>
  rw [e1] at hx; rw [e2] at hy
  intro hφ
  refine fin hx.str_inv hy.str_inv (fun _ _ => eqGuard_at_string _ _ _ _ _ _) (r := .bool (decide (p = q))) ?_ (.bool _)
  simp only [binOp, Op.stringOp, Qs]
  rfl
 case h_20 p q e1 e2 =>
  rw [e1] at hx; rw [e2] at hy
  intro hφ
  refine fin hx.str_inv hy.str_inv (fun _ _ => eqGuard_at_string _ _ _ _ _ _) (r := .bool (!decide (p = q))) ?_ (.bool _)
  simp only [binOp, Op.stringOp, Qs]
  rfl
 case h_21 p q e1 e2 =>
  rw [e1] at hx; rw [e2] at hy
  intro hφ
  refine fin hx.str_inv hy.str_inv (fun _ _ => eqGuard_at_string _ _ _ _ _ _) (r := .bool (slt p q)) ?_ (.bool _)
  simp only [binOp, Op.stringOp, QA, OI]
  rfl
 case h_22 p q e1 e2 =>
  rw [e1] at hx; rw [e2] at hy
  intro hφ
  refine fin hx.str_inv hy.str_inv (fun _ _ => eqGuard_at_string _ _ _ _ _ _) (r := .bool (!slt q p)) ?_ (.bool _)
  simp only [binOp, Op.stringOp, QA, OI]
  show Sem.run P (pure (Value.bool (slt p q || decide (p = q)))) w = _; rw [AcN]; rfl
 case h_23 p q e1 e2 =>
  rw [e1] at hx; rw [e2] at hy
  intro hφ
  refine fin hx.str_inv hy.str_inv (fun _ _ => eqGuard_at_string _ _ _ _ _ _) (r := .bool (slt q p)) ?_ (.bool _)
  simp only [binOp, Op.stringOp, QA, OI]
  show Sem.run P (pure (Value.bool (!(slt p q || decide (p = q))))) w = _; rw [AcN, Bool.not_not]; rfl
 case h_24 p q e1 e2 =>
  rw [e1] at hx; rw [e2] at hy
  intro hφ
  refine fin hx.str_inv hy.str_inv (fun _ _ => eqGuard_at_string _ _ _ _ _ _) (r := .bool (!slt p q)) ?_ (.bool _)
  simp only [binOp, Op.stringOp, QA, OI]
  rfl
 case h_25 p q e1 e2 =>
  rw [e1] at hx; rw [e2] at hy
  rintro ⟨q1, q2⟩
  exact fin hx.int_inv hy.int_inv (fun _ _ => eqGuard_shr _ _ _ _ _) (r := .int .u64 (p / 2 ^ q.toNat)) (by rw [binOp_shr, shift_shr .u64 .u64 p q q1 q2]; rfl) (.int _ _)
 case h_26 p q e1 e2 =>
  rw [e1] at hx; rw [e2] at hy
  rintro ⟨q1, q2⟩
  exact fin hx.int_inv hy.int_inv (fun _ _ => eqGuard_shl _ _ _ _ _) (r := .int .u64 (wu (p * 2 ^ q.toNat))) (by rw [binOp_shl, shift_shl .u64 .u64 p q q1 q2]; rfl) (.int _ _)
 case h_27 p q e1 e2 =>
  rw [e1] at hx; rw [e2] at hy
  exact fun _ => fin hx.int_inv hy.int_inv (fun _ _ => eqGuard_at_int _ _ _ _ _ _ _) (r := .int .u64 (bits .and .u64 p q)) (by rw [binOp_and]; rfl) (.int _ _)
 case h_28 p q e1 e2 =>
  rw [e1] at hx; rw [e2] at hy
  exact fun _ => fin hx.int_inv hy.int_inv (fun _ _ => eqGuard_at_int _ _ _ _ _ _ _) (r := .int .u64 (bits .or .u64 p q)) (by rw [binOp_or]; rfl) (.int _ _)
 case h_29 =>
  rename_i e1 e2
  rw [e1] at hx; rw [e2] at hy
  exact Aev ho hm hx hy
 case h_30 => exact fun hφ => hφ.elim
theorem AjP {op : BinOp} {t t2 : TypeId} {x0 y0 : Operand} {x y : AE} (ho : o.op = .binOp op t x0 y0 t2) (hbt : P.underlying t = some .bool) (hm : Mem C h w M ι) (hx : Rel M w ι h (E x) (a.eval x0)) (hy : Rel M w ι h (E y) (a.eval y0)) :
  Sim P G C h w M ι o a E d (.binb op x y) := by
 have fin : ∀ {u v r : Value} {rv : V}, a.eval x0 = u -> a.eval y0 = v -> (∀ x1 y1, eqGuard op t x1 y1 u v = pure ()) -> (binOp op t u v).run P w = .ok r w -> Pur M w rv r -> CZ P o a w (Ay C h w M ι h rv) := by
  intro u v r rv hu hv hg hr hp
  exact .run (NZ ho hu hv (hg _ _) hr) (Ay.same hm (.pur hp))
 unfold Sim At OR
 dsimp only
 split
 case h_1 p q e1 e2 =>
  rw [e1] at hx; rw [e2] at hy
  intro hφ
  refine fin hx.bool_inv hy.bool_inv (fun _ _ => eqGuard_at_bool _ _ _ _ _ _) (r := .bool (p == q)) ?_ (.bool _)
  simp only [binOp, Op.equal, Op.maxDepth, AA, run_equalIn_bool' (P := P) w 9999 t p q hbt]
  rfl
 case h_2 p q e1 e2 =>
  rw [e1] at hx; rw [e2] at hy
  intro hφ
  refine fin hx.bool_inv hy.bool_inv (fun _ _ => eqGuard_at_bool _ _ _ _ _ _) (r := .bool (p != q)) ?_ (.bool _)
  simp only [binOp, Op.equal, Op.maxDepth, AA, run_equalIn_bool' (P := P) w 9999 t p q hbt]
  rfl
 case h_3 => exact fun hφ => hφ.elim
theorem AcH {op : BinOp} {t t2 : TypeId} {x0 y0 : Operand} {x y : AE} {ks : List LK} (ho : o.op = .binOp op t x0 y0 t2) (hf : EC P 8 t = some ks) (hag : BM P t = some true) (hgt : P.eqGuardType P.depth t = false) (hm : Mem C h w M ι) (hx : Rel M w ι h (E x) (a.eval x0)) (hy : Rel M w ι h (E y) (a.eval y0)) :
  Sim P G C h w M ι o a E d (.bina ks op x y) := by
 have key : ∀ {p q : List V}, E x = .agg p -> E y = .agg q -> Bw ks p = true -> Bw ks q = true -> a.eval x0 = .agg (p.map toC).toArray /\ a.eval y0 = .agg (q.map toC).toArray /\ (Op.equalIn 10000 t (.agg (p.map toC).toArray) (.agg (q.map toC).toArray)).run P w = .ok (CL p q) w := by
  intro p q e1 e2 f1 f2
  rw [e1] at hx; rw [e2] at hy
  obtain ⟨cs, h1, h2, _, h4⟩ := hx.agg_inv
  obtain ⟨ds, h5, h6, _, h8⟩ := hy.agg_inv
  have c1 := Aaj f1 h2 h4
  have c2 := Aaj f2 h6 h8
  subst c1 c2
  exact ⟨h1, h5, flat_agg (d := 7) (e := 9992) hf hag f1 f2⟩
 unfold Sim At OQ
 dsimp only
 split
 case h_1 p q e1 e2 =>
  rintro ⟨f1, f2⟩
  obtain ⟨k1, k2, k3⟩ := key e1 e2 f1 f2
  refine .run (cv := .bool (CL p q)) (w' := w) ?_ (Ay.same hm (.pur (.bool _)))
  simp only [execOp, ho, k1, k2, AA, run_eqGuard_agg w _ _ _ _ _ _ hgt, AK, run_eql_struct, k3]
  rfl
 case h_2 p q e1 e2 =>
  rintro ⟨f1, f2⟩
  obtain ⟨k1, k2, k3⟩ := key e1 e2 f1 f2
  refine .run (cv := .bool (!CL p q)) (w' := w) ?_ (Ay.same hm (.pur (.bool _)))
  simp only [execOp, ho, k1, k2, AA, run_eqGuard_agg w _ _ _ _ _ _ hgt, AK, run_neq_struct, k3]
  rfl
 case h_3 => exact fun hφ => hφ.elim
theorem Ajz {op : BinOp} (w : World) (t e : TypeId) (s : Option Addr) (n c : Nat) (ht : P.underlying t = some (.slice e)) (ho : op = .eql \/ op = .neq) :
  (binOp op t (.slice s n c) (.slice none 0 0)).run P w = .ok (.bool (if op = .eql then s.isNone else !s.isNone)) w := by
 have h1 := Lib.run_equalIn_slice_nil (P := P) w 9999 t e s n c 0 0 ht
 rcases ho with rfl | rfl
 ·simp only [binOp]; simp [Op.equal, Op.maxDepth, h1]
 ·simp only [binOp]; simp [Op.equal, Op.maxDepth, h1]
theorem Rel.pin_inv {c cv : Value} (r : Rel M w ι h (.pin c) cv) : cv = c := by cases r with | pur hp => cases hp; rfl
theorem AjQ {op : BinOp} {t e t2 : TypeId} {x0 y0 : Operand} {x y : AE} (ho : o.op = .binOp op t x0 y0 t2) (ht : P.underlying t = some (.slice e)) (hm : Mem C h w M ι) (hx : Rel M w ι h (E x) (a.eval x0)) (hy : Rel M w ι h (E y) (a.eval y0)) :
  Sim P G C h w M ι o a E d (.binn op x y) := by
 have fin : ∀ {s : Option Addr} {n c : Nat} {b : Bool}, (op = .eql \/ op = .neq) -> a.eval x0 = .slice s n c -> a.eval y0 = .slice none 0 0 -> (if op = .eql then s.isNone else !s.isNone) = b -> CZ P o a w (Ay C h w M ι h (.bool b)) := by
  intro s n c b h1 hu hv hb
  have := Ajz (P := P) w t e s n c ht h1
  rw [hb] at this
  exact .run (NZ ho hu hv (by apply eqGuard_at_slice) this) (Ay.same hm (.pur (.bool _)))
 have ownc : ∀ {n len : Nat} {cv : Value}, Rel M w ι h (.own n len) cv -> ∀ {t sz rows}, h n = some (.arr t sz rows) -> rows.length = len -> 0 < len -> ∃ g cap, cv = .slice (some ⟨g, 0, none⟩) len cap := by
  intro n len cv hr t sz rows hn hl h0
  obtain ⟨t', sz', rows', hn', _, hv⟩ := hr.own_inv
  rw [hn] at hn'
  injection hn' with hn'
  injection hn' with q1 q2 q3
  subst q1 q2 q3
  obtain ⟨xs, hown, _⟩ := hm.obj n _ hn
  rcases hown.2 with ⟨_, hz⟩ | ⟨g, cap, cur, e, _⟩
  ·omega
  ·exact ⟨g, cap, by rw [hv hl, e, hl]⟩
 have main : (JS op (E x) (E y)).φ -> CZ P o a w (Ay C h w M ι (Ck h (JS op (E x) (E y)).w) (JS op (E x) (E y)).v) := by
  unfold JS
  split
  ·rename_i e1 e2
   rw [e1] at hx; rw [e2] at hy
   exact fun _ => fin (.inl rfl) hx.nils_inv hy.nils_inv rfl
  ·rename_i e1 e2
   rw [e1] at hx; rw [e2] at hy
   exact fun _ => fin (.inr rfl) hx.nils_inv hy.nils_inv rfl
  ·rename_i rows fit e1 e2
   rw [e1] at hx; rw [e2] at hy
   intro hφ
   obtain ⟨s, cap, g, off, sz', hcv, _, _, _, hne, _⟩ := hx.list_inv
   rcases hne with h0 | ⟨rfl, _⟩
   ·exact absurd h0 hφ
   ·exact fin (.inl rfl) hcv hy.nils_inv rfl
  ·rename_i rows fit e1 e2
   rw [e1] at hx; rw [e2] at hy
   intro hφ
   obtain ⟨s, cap, g, off, sz', hcv, _, _, _, hne, _⟩ := hx.list_inv
   rcases hne with h0 | ⟨rfl, _⟩
   ·exact absurd h0 hφ
   ·exact fin (.inr rfl) hcv hy.nils_inv rfl
  ·rename_i e1 e2
   rw [e1] at hx; rw [e2] at hy
   exact fun _ => fin (.inl rfl) hx.pin_inv hy.nils_inv rfl
  ·rename_i e1 e2
   rw [e1] at hx; rw [e2] at hy
   exact fun _ => fin (.inr rfl) hx.pin_inv hy.nils_inv rfl
  ·exact fun hφ => hφ.elim
 unfold Sim At JT
 dsimp only
 split
 ·rename_i n len e1 e2
  rw [e1] at hx; rw [e2] at hy
  split
  ·rename_i t' sz' rows hn
   rintro ⟨h1, h2⟩
   obtain ⟨g, cap, e⟩ := ownc hx hn h1 h2
   exact fin (.inl rfl) e hy.nils_inv rfl
  ·exact fun hφ => hφ.elim
 ·rename_i n len e1 e2
  rw [e1] at hx; rw [e2] at hy
  split
  ·rename_i t' sz' rows hn
   rintro ⟨h1, h2⟩
   obtain ⟨g, cap, e⟩ := ownc hx hn h1 h2
   exact fin (.inr rfl) e hy.nils_inv rfl
  ·exact fun hφ => hφ.elim
 ·exact main
theorem Aj9 {tt e : TypeId} {x0 : Operand} {x : AE} (ho : o.op = .makeInterface tt x0) (ht : P.underlying tt = some (.slice e)) (hm : Mem C h w M ι) (hx : Rel M w ι h (E x) (a.eval x0)) : Sim P G C h w M ι o a E d (.mki tt x) := by
 unfold Sim At OZ
 dsimp only
 split
 ·rename_i n len e1
  rw [e1] at hx
  intro _
  refine .run (cv := .iface tt (a.eval x0)) (w' := w) ?_ (Ay.same hm ?_)
  ·simp [execOp, ho, Instr.makeInterface, run_underlying ht]
  ·cases hx with
   | pur hp => cases hp
   | own _ _ t sz rows _ ho hle hv hs => exact .iown tt n len t sz rows _ ho hle hv hs
 ·exact fun hφ => hφ.elim
theorem Akm {op : UnOp} {t : TypeId} {x0 : Operand} {x : AE} (ho : o.op = .unOp op t x0) (hm : Mem C h w M ι) (hx : Rel M w ι h (E x) (a.eval x0)) : Sim P G C h w M ι o a E d (.un op x) := by
 unfold Sim At Pe
 dsimp only
 split
 ·rename_i b e1
  rw [e1] at hx
  intro _
  refine .run (cv := .bool (!b)) (w' := w) ?_ (Ay.same hm (.pur (.bool _)))
  simp [execOp, ho, hx.bool_inv, Op.unary]
 ·rename_i n e1
  rw [e1] at hx
  intro hφ
  refine .run (cv := .int .i64 (-n)) (w' := w) ?_ (Ay.same hm (.pur (.int _ _)))
  have := Nl hφ
  simp [execOp, ho, hx.int_inv, Op.unary, Op.intArith, this]
 ·exact fun hφ => hφ.elim
end
section
variable {P : Program} {U : Tbl} {C : Ctx U} {h : Nat -> Option Ob} {w : World} {M : Nat -> Prop} {ι : Nat -> Value} {o : Oper} {a : Act} {E : AE -> V} {G : Tab} {d : Nat}
theorem Nk {cs : Array Value} {k : Nat} (hk : k < cs.size) : cs[k]? = some (cs.getD k undef) := by
 rw [Ji hk]; simp [Array.getD, hk]
theorem TJ {cs ys : List V} {off : Nat} (hl : off + ys.length <= cs.length) : (putAt cs off ys).length = cs.length := by
 unfold putAt
 simp only [An, BJ, BW]
 omega
theorem Hd {α : Type} {l ys : List α} {o : Nat} (h : o + ys.length <= l.length) (j : Nat) : (l.take o ++ ys ++ l.drop (o + ys.length))[j]? = if j < o then l[j]? else if j < o + ys.length then ys[j - o]? else l[j]? := by
 have e : (l.take o).length = o := by rw [BJ]; omega
 split
 ·rename_i c
  rw [EH, GY (by omega), Ir c]
 ·rename_i c
  split
  ·rw [EH, GX (by omega), e, GY (by omega)]
  ·rw [GX (by rw [An]; omega), Jl, An, e]
   congr 1
   omega
theorem Abx {R : V -> Value -> Prop} {cs ys : List V} {off : Nat} {ccs cys : List Value} (hl : cs.length = ccs.length) (hy : ys.length = cys.length) (hle : off + ys.length <= cs.length)
  (h1 : ∀ (i : Nat) (v : V), cs[i]? = some v -> R v (ccs.getD i undef)) (h2 : ∀ (i : Nat) (v : V), ys[i]? = some v -> R v (cys.getD i undef)) :
  ∀ (i : Nat) (v : V), (putAt cs off ys)[i]? = some v -> R v ((ccs.take off ++ cys ++ ccs.drop (off + cys.length)).getD i undef) := by
 intro i v hi
 unfold putAt at hi
 rw [Hd hle] at hi
 rw [AS, Hd (by omega)]
 rw [hy] at hi
 split at hi <;> rename_i c
 ·rw [if_pos c, <- AS]; exact h1 i v hi
 ·rw [if_neg c]
  split at hi <;> rename_i c'
  ·rw [if_pos c', <- AS]; exact h2 _ v hi
  ·rw [if_neg c', <- AS]; exact h1 i v hi
theorem Qb {cs ys : List Value} {off : Nat} (h1 : ∀ c ∈ cs, c.oneCell' = true) (h2 : ∀ c ∈ ys, c.oneCell' = true) : ∀ c ∈ cs.take off ++ ys ++ cs.drop (off + ys.length), c.oneCell' = true := by
 intro c hc
 simp only [BT] at hc
 rcases hc with (hc | hc) | hc
 ·exact h1 c (EG hc)
 ·exact h2 c hc
 ·exact h1 c (Fb hc)
theorem Ab7 {t e : TypeId} {k : Nat} (hs : szT P t = some k) {g off : Nat} {cur : Array Value} (hg : w.heap[g]? = some (.cells cur e (0, 0))) {u : Value} (hu : u.cells.size = k) (hle : off + k <= cur.size) (h1 : ∀ c ∈ u.cells.toList, c.oneCell' = true) :
  (storeVar t ⟨g, off, none⟩ u).run P w = .ok () (w.setRow g (cur.toList.take off ++ u.cells.toList ++ cur.toList.drop (off + u.cells.toList.length)).toArray) := by
 have h2 := run_storeCells_at P g off e u.cells.toList 0 cur w hg (by simp only [Ep]; omega) h1
 simp only [Fe] at h2
 simp [storeVar, run_sizeOf hs, hu, h2]
theorem Rn (hm : Mem C h w M ι) {n g : Nat} {ob ob' : Ob} (hn : h n = some ob) (hg : blk (ι n) = some g) (cs : Array Value)
  (hk : Keeps h (BI h n ob') ι (DK ι n (ι n))) (hob : ∀ {h' : Nat -> Option Ob} {ι' : Nat -> Value}, Keeps h h' ι ι' -> ι' n = ι n -> (∀ b, M b -> (w.setRow g cs).heap[b]? = w.heap[b]?) -> obR M (w.setRow g cs) ι' h' n ob')
  (hpin : 1000 <= n -> (∀ t c, ob' = .box t c -> ι n = C.ι0 n) /\ ∀ es, ob' = .mp es -> ι n = C.ι0 n) :
  Ay C h w M ι (BI h n ob') .any undef (w.setRow g cs) := by
 have hMw : ∀ b, M b -> (w.setRow g cs).heap[b]? = w.heap[b]? := fun b hb => setRow_other w g b cs (fun e => hm.imm n g (by rw [hn]; rfl) hg (e ▸ hb))
 obtain ⟨h1, h2⟩ := hm.step n ob' (ι n) (w.setRow g cs) (by simp) rfl rfl rfl (fun k _ hk' => setRow_other w g k cs (fun e => hk' ob hn (e ▸ hg))) (fun g' hg' => .inl ⟨ob, hn, hg'⟩) hk (hob hk (CU _ _ _) hMw) (fun _ => by rw [hn]; rfl) hpin
 exact ⟨M, _, h1, .pur (.any _), fun _ hb => hb, h2, hk⟩
theorem Akl {t : TypeId} {x0 y0 : Operand} {x y : AE} {k : Nat} (ho : o.op = .store t x0 y0) (hs : szT P t = some k) (hm : Mem C h w M ι) (hx : Rel M w ι h (E x) (a.eval x0)) (hy : Rel M w ι h (E y) (a.eval y0)) :
  Sim P G C h w M ι o a E d (.store k x y) := by
 unfold Sim At JZ
 dsimp only
 generalize hEx : E x = ex at hx
 generalize hEy : E y = ey at hy
 cases ex with
 | ptr n off =>
  dsimp only
  obtain ⟨b, t', cells, hn, hb, e⟩ := hx.ptr_inv
  rw [hn]
  intro hφ
  obtain ⟨q1, q2, q3⟩ := hφ
  obtain ⟨b', cs, e', hh, hl, hc1, hcr⟩ := hm.obj n _ hn
  rw [hb] at e'
  injection e' with e'; injection e' with e'; injection e' with e'
  subst e'
  obtain ⟨y1, y2, y3⟩ := hy.cells q1
  have hst := Ab7 (P := P) hs hh (u := a.eval y0) (by rw [<- y1]; exact q2) (off := off) (by rw [<- hl]; exact q3) y2
  refine .skip (w' := w.setRow b (cs.toList.take off ++ (a.eval y0).cells.toList ++ cs.toList.drop (off + (a.eval y0).cells.toList.length)).toArray) (by
   simp only [execOp, ho, e, Instr.storeAt, Instr.sureAddr, AA, Bb, AK]; rw [hst]; rfl) ?_
  refine Rn hm hn (by rw [hb]; rfl) _ (.put hn (.inl ⟨t', cells, _, rfl, rfl, rfl⟩)) (fun {h' ι'} hk hi hMw => ?_) (fun h1000 => ⟨fun t c _ => (hm.pin n h1000).1 t' cells hn, fun es he => by cases he⟩)
  refine ⟨b, _, hi.trans hb, setRow_heap w b cs _ t' _ hh, ?_, ?_, ?_⟩
  ·rw [TJ (by omega)]
   simp only [Gt, An, BJ, BW, Ep]
   omega
  ·exact Qb (off := off) hc1 y2
  ·intro i v hi'
   have := Abx (R := Rel M w ι h) (ccs := cs.toList) (cys := (a.eval y0).cells.toList) (by simpa using hl) (by simpa using y1) (by omega) (fun i v h1 => by simpa using hcr i v h1) (fun i v h1 => by simpa using y3 i v h1) i v hi'
   have := this.keep (fun _ hb => hb) hMw hk
   simpa using this
 | eptr n len i off =>
  dsimp only
  obtain ⟨t', sz, rows, hn, hle, _, hv⟩ := hx.eptr_inv
  rw [hn]
  intro hφ
  obtain ⟨q1, q2, q3, q4, q5⟩ := hφ
  obtain ⟨g, cap, hg, e⟩ := hv q3
  obtain ⟨xs, hown, hrl, hx1, hxr⟩ := hm.obj n _ hn
  obtain ⟨y1, y2, y3⟩ := hy.cells q1
  rcases hown.2 with ⟨e', _⟩ | ⟨g', cap', cur, e', _, hh, hnc, hcm, hcs, htk⟩
  ·rw [hg] at e'; cases e'
  ·rw [hg] at e'
   injection e' with e1 e2 e3; injection e1 with e1; injection e1 with e1
   subst e1
   have hik : i * sz + sz <= rows.length * sz := by rw [<- EI]; exact CB _ (by omega)
   have hcap : rows.length * sz <= cur.size := by rw [hcs]; exact CB _ hnc
   have hst := Ab7 (P := P) hs hh (u := a.eval y0) (by rw [<- y1]; exact q2) (off := i * sz + off) (by omega) y2
   refine .skip (w' := w.setRow g (cur.toList.take (i * sz + off) ++ (a.eval y0).cells.toList ++ cur.toList.drop (i * sz + off + (a.eval y0).cells.toList.length)).toArray) (by
    simp only [execOp, ho, e, Instr.storeAt, Instr.sureAddr, AA, Bb, AK]; rw [hst]; rfl) ?_
   refine Rn hm hn (by rw [hg]; rfl) _ (.put hn (.inr (.inl ⟨t', sz, rows, _, rfl, rfl, by rw [Gc]; exact AF _, fun _ => rfl⟩))) (fun {h' ι'} hk hi hMw => ?_) (fun h1000 => ⟨fun t c he => (by cases he), fun es he => by cases he⟩)
   have hri : rows[i]? = some (rows.getD i []) := En [] (by omega)
   have hrlen : (rows.getD i []).length = sz := hrl _ (Bk hri)
   have hxl : xs.length = rows.length * sz := hown.1
   refine ⟨xs.take (i * sz + off) ++ (a.eval y0).cells.toList ++ xs.drop (i * sz + off + (a.eval y0).cells.toList.length), ?_, ?_, Qb hx1 y2, ?_⟩
   ·rw [hi, hg, Gc, q3]
    refine ⟨?_, .inr ⟨g, cap, _, rfl, As _, setRow_heap w g cur _ t' _ hh, by rw [<- e2] at hnc; omega, by rw [<- e3] at hcm; exact hcm, ?_, ?_⟩⟩
    ·simp only [An, BJ, BW, Ep, hxl, <- q3]
     omega
    ·rw [e3, <- hcs]
     simp only [Gt, An, BJ, BW, Ep]
     omega
    ·have hl1 : (a.eval y0).cells.toList.length = k := by rw [Ep, <- y1]; exact q2
     have hcl : cur.toList.length = cur.size := Ep
     apply List.ext_getElem?
     intro j
     rw [Nu, <- q3, Hd (by omega), Hd (by omega)]
     have hx : ∀ j, xs[j]? = if j < rows.length * sz then cur.toList[j]? else none := fun j => by rw [<- htk, Nu]
     rw [hx]
     by_cases c0 : j < rows.length * sz
     ·rw [if_pos c0, if_pos c0]
     ·rw [if_neg c0, if_neg (by omega), if_neg (by omega), if_neg c0]
   ·intro r hr
    rcases PJ hr with hr | rfl
    ·exact hrl r hr
    ·rw [TJ (by omega)]; exact hrlen
   ·intro i' j r v h1 h2
    refine Rel.keep (fun _ hb => hb) hMw hk (?_ : Rel M w ι h v _)
    rw [AS]
    have hl1 : (a.eval y0).cells.toList.length = k := by rw [Ep, <- y1]; exact q2
    rw [Hd (by omega), hl1]
    by_cases c : i' = i
    ·subst c
     rw [List.getElem?_set_self (by omega)] at h1
     injection h1 with h1
     subst h1
     unfold putAt at h2
     rw [Hd (by omega), q2] at h2
     split at h2 <;> rename_i c1
     ·rw [if_pos (by omega), <- AS]; exact hxr i' j _ v hri h2
     ·rw [if_neg (by omega)]
      split at h2 <;> rename_i c2
      ·rw [if_pos (by omega), show i' * sz + j - (i' * sz + off) = j - off by omega]
       have := y3 _ v h2
       simpa using this
      ·rw [if_neg (by omega), <- AS]; exact hxr i' j _ v hri h2
    ·rw [List.getElem?_set_ne (Ne.symm c)] at h1
     have hj : j < sz := by have := (BQ.1 h2).1; rw [hrl r (Bk h1)] at this; exact this
     have base := hxr i' j r v h1 h2
     rw [AS] at base
     have hout : i' * sz + j < i * sz + off \/ ¬ i' * sz + j < i * sz + off + k := by
      rcases Nat.lt_or_gt_of_ne c with c | c
      ·have hb2 : i' * sz + sz <= i * sz := by rw [<- EI]; exact CB _ c
       omega
      ·have hb2 : i * sz + sz <= i' * sz := by rw [<- EI]; exact CB _ c
       omega
     rcases hout with c1 | c1
     ·rw [if_pos c1]; exact base
     ·rw [if_neg (by omega), if_neg c1]; exact base
 | _ => exact fun hφ => hφ.elim
end
end Go.Proofs.YtjkclhbckfkeeaaGreatDoor
