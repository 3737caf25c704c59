/-
  THE PURE LOGIC, 5: each operation that leaves the store alone does in the machine what it does in the logic.
-/
import Derived.Test.YtodfhajjdfbhgaaDoorPmOps
import Derived.Laws.BytesString
set_option linter.unusedVariables false
set_option linter.unusedSimpArgs false
set_option linter.all false
namespace Go.PM
section
variable {G : GE} {e : Env} {σ : St} {w : World} {T : Tab}

theorem KindOK.slice {P : Program} {e : Nat} {d : TypeDesc} (h : KindOK P (.slice e) d) : d = .slice e := h

theorem rows_cut {rows : List (List D)} {v : Value} {a b sz : Nat} (h : DRel (okc e σ) w (.sl rows) v) (hsz : ∀ r ∈ rows, r.length = sz) (hab : a ≤ b) (hb : b ≤ rows.length) :
    ∃ ad cap, v = .slice ad rows.length cap ∧ rows.length ≤ cap ∧ DRel (okc e σ) w (.sl (cut rows a b)) (.slice (if cap = a then ad else ad.map (·.add (a * sz))) (b - a) (cap - a)) := by
  have hlen : (cut rows a b).length = b - a := by simp [cut]; omega
  cases h with
  | slnil =>
    refine ⟨none, 0, rfl, Nat.le_refl _, ?_⟩
    have h1 : b = 0 := by simpa using hb
    have h2 : a = 0 := by omega
    subst h1; subst h2
    exact .slnil
  | sl rows bk off cap sz' u hcap hsz' hc ho hu =>
    refine ⟨some ⟨bk, off, none⟩, cap, rfl, hcap, ?_⟩
    by_cases hr : rows = []
    · subst hr
      have h1 : b = 0 := by simpa using hb
      have h2 : a = 0 := by omega
      subst h1; subst h2
      have hh : DRel (okc e σ) w (.sl (cut ([] : List (List D)) 0 0)) (.slice (some ⟨bk, off, none⟩) ([] : List (List D)).length cap) := .sl [] bk off cap sz' u (Nat.zero_le _) (fun r h => by cases h) (fun i j h => by cases h) (fun i j h => by cases h) (fun i j x h => by simp at h)
      split
      · exact hh
      · simpa [add_addr] using hh
    · have hss : sz' = sz := by
        cases rows with
        | nil => exact absurd rfl hr
        | cons r l => rw [← hsz' r (by simp), hsz r (by simp)]
      subst hss
      have hg : ∀ i, i < b - a → (cut rows a b)[i]? = rows[a + i]? := fun i hi => by
        simp only [cut, List.getElem?_drop, List.getElem?_take]
        rw [if_pos (by omega)]
      have main : DRel (okc e σ) w (.sl (cut rows a b)) (.slice (some ⟨bk, off + a * sz', none⟩) (cut rows a b).length (cap - a)) := by
        refine .sl _ bk (off + a * sz') (cap - a) sz' (fun i j => u (a + i) j) (by rw [hlen]; omega) (fun r hr => hsz' r (List.mem_of_mem_take (List.mem_of_mem_drop hr))) ?_ ?_ ?_
        · intro i j hi hj
          rw [hlen] at hi
          have := hc (a + i) j (by omega) hj
          rw [Nat.add_mul] at this
          rwa [show off + a * sz' + i * sz' + j = off + (a * sz' + i * sz') + j by omega]
        · intro i j hi hj
          rw [hlen] at hi
          have := ho (a + i) j (by omega) hj
          rw [Nat.add_mul] at this
          rwa [show off + a * sz' + i * sz' + j = off + (a * sz' + i * sz') + j by omega]
        · intro i j x hx
          by_cases hi : i < b - a
          · rw [hg i hi] at hx; exact hu (a + i) j x hx
          · rw [List.getElem?_eq_none (by rw [hlen]; omega)] at hx; cases hx
      rw [hlen] at main
      split
      · rename_i hca
        have hba : b = a := by omega
        subst hba
        have : cut rows b b = [] := by simp [cut]
        rw [this, Nat.sub_self]
        exact .sl [] bk off (cap - b) sz' u (Nat.zero_le _) (fun r h => by cases h) (fun i j h => by cases h) (fun i j h => by cases h) (fun i j x h => by simp at h)
      · simpa [add_addr] using main

theorem opt_rel {ρ : Operand → PV} {ρ' : Operand → Value} (hρ : ∀ x, VRel G e σ w (ρ x) (ρ' x)) (lo : Option Operand) : (∀ v, lo.map ρ' = some v → ∃ x, lo.map ρ = some x ∧ VRel G e σ w x v) ∧ (lo.map ρ' = none → lo.map ρ = none) := by
  cases lo with
  | none => exact ⟨fun v h => by simp at h, fun _ => rfl⟩
  | some x => exact ⟨fun v h => by simp at h; subst h; exact ⟨ρ x, rfl, hρ x⟩, fun h => by simp at h⟩

theorem slice_sound (hT : TabOK T G.P) {K : PV → Prop} {t : TypeId} {px : PV} {vx : Value} (hx : VRel G e σ w px vx) {ρ : Operand → PV} {ρ' : Operand → Value} (hρ : ∀ x, VRel G e σ w (ρ x) (ρ' x)) {lo hi : Option Operand}
    (h : pslice T t px (lo.map ρ) (hi.map ρ) K) : ∃ pv u, K pv ∧ VRel G e σ w pv u ∧ (Instr.sliceAt t vx (lo.map ρ') (hi.map ρ') none).run G.P w = .ok u w := by
  unfold pslice at h
  split at h
  · rename_i hk
    obtain ⟨i, d, z, hi', hd, hs, hby, hkd, hz, hz2, _⟩ := (hT.get (t := t) (by rw [hk]; simp)).ex
    rw [hk] at hkd; cases hkd
    split at h
    · rename_i s
      cases hx.dstr
      obtain ⟨l, u, hK, hlu, hul, hrun⟩ := slBounds_sound (G := G) (e := e) (σ := σ) (w := w) (P := G.P) false (Nat.le_refl s.length) (opt_rel hρ lo).1 (opt_rel hρ lo).2 (opt_rel hρ hi).1 (opt_rel hρ hi).2 h
      refine ⟨_, _, hK, .mkstr, ?_⟩
      have hsz : (⟨s.toArray⟩ : ByteArray).size = s.length := rfl
      simp only [Instr.sliceAt, Instr.slice, Sem.run_bind, run_underlying' hd, Result.andThen, Option.isSome_none, Bool.false_eq_true, if_false, hsz, hrun, Sem.run_pure]
      congr 2
      apply ByteArray.ext
      apply Array.ext'
      simp [cut, ByteArray.data_extract, List.drop_take]
    · exact h.elim
  · rename_i el hk
    split at h
    · exact h.elim
    · rename_i hk2
      split at h
      · rename_i rows hrows
        obtain ⟨i, d, z, hi', hd, hs, hby, hkd, hz, hz2, _⟩ := (hT.get (t := t) (by rw [hk]; simp)).ex
        rw [hk] at hkd; cases hkd
        have hD := toD_rel hrows hx
        obtain ⟨hsz, h⟩ := h
        obtain ⟨ad, cap, rfl, hcap⟩ := hD.sl_inv
        obtain ⟨l, u, hK, hlu, hul, hrun⟩ := slBounds_sound (G := G) (e := e) (σ := σ) (w := w) (P := G.P) true hcap (opt_rel hρ lo).1 (opt_rel hρ lo).2 (opt_rel hρ hi).1 (opt_rel hρ hi).2 h
        obtain ⟨ad', cap', hv, _, hR⟩ := rows_cut hD hsz hlu hul
        cases hv
        obtain ⟨i2, d2, z2, hi2, hd2, hs2, _, _, _, _, _⟩ := (hT.get (t := el) (fun h0 => hk2 h0)).ex
        refine ⟨_, _, hK, .d _ _ hR, ?_⟩
        simp only [Instr.sliceAt, Instr.slice, Sem.run_bind, run_underlying' hd, Result.andThen, hrun, run_sizeOf' hi2, Sem.run_pure, hs2]
      · exact h.elim
  · exact h.elim

theorem foldl_bytes : ∀ (l acc : List UInt8), (l.map (fun b : UInt8 => (b.toNat : Int))).foldl (fun r n => r.push (UInt8.ofNat n.toNat)) (⟨acc.toArray⟩ : ByteArray) = ⟨(acc ++ l).toArray⟩
  | [], acc => by simp
  | b :: l, acc => by
    simp only [List.map_cons, List.foldl_cons, Int.toNat_natCast, UInt8.ofNat_toNat]
    have : (⟨acc.toArray⟩ : ByteArray).push b = ⟨(acc ++ [b]).toArray⟩ := by
      apply ByteArray.ext; simp [ByteArray.push]
    rw [this, foldl_bytes l (acc ++ [b])]
    simp
theorem bytes_sound {l : List UInt8} {v : Value} (h : DRel (okc e σ) w (.sl (l.map (fun b => [.int .u8 b.toNat]))) v) : (Conv.bytesToString v).run G.P w = .ok (.string ⟨l.toArray⟩) w := by
  generalize hr : l.map (fun b : UInt8 => [D.int .u8 b.toNat]) = rows at h
  cases h with
  | slnil =>
    have : l = [] := by simpa using hr
    subst this; rfl
  | sl rows b off cap sz u hcap hsz hc ho hu =>
    subst hr
    have hl := run_bytesToString (P := G.P) w ⟨b, off, none⟩ (l.map (fun b => [D.int .u8 b.toNat])).length cap (l.map (fun b : UInt8 => (b.toNat : Int))) ?_
    · rw [hl]
      congr 2
      exact (foldl_bytes l []).trans (by simp)
    · have := run_loadCells_list (P := G.P) w ⟨b, off, none⟩ ((l.map (fun b : UInt8 => (b.toNat : Int))).map (Value.int .u8)) (fun j x hx => ?_)
      · simpa using this
      · rw [add_addr]
        simp only [List.map_map, List.getElem?_map] at hx
        cases hj : l[j]? with
        | none => rw [hj] at hx; cases hx
        | some y =>
          rw [hj] at hx
          cases hx
          have hjl := (List.getElem?_eq_some_iff.1 hj).1
          have h1 : (l.map (fun b : UInt8 => [D.int .u8 b.toNat]))[j]? = some [.int .u8 y.toNat] := by rw [List.getElem?_map, hj]; rfl
          have hs1 : sz = 1 := (hsz _ (List.mem_of_getElem? h1)).symm
          subst hs1
          have h2 := hc j 0 (by simpa using hjl) (by omega)
          have h3 := hu j 0 (.int .u8 y.toNat) (by rw [h1]; rfl)
          cases h3v : u j 0 <;> rw [h3v] at h3 <;> cases h3
          rw [h3v] at h2
          simpa using h2

theorem qop_sound (hT : TabOK T G.P) (hS : SRel G e σ w) {K : PV → Prop} {ρ : Operand → PV} {ρ' : Operand → Value} (hρ : ∀ x, VRel G e σ w (ρ x) (ρ' x)) (o : Oper) (h : qop T o.op o.type ρ σ.bx K) :
    ∃ pv v, K pv ∧ VRel G e σ w pv v ∧ (execOp ρ' o).run G.P w = .ok (.value v) w := by
  have mv : ∀ x : Operand, (match ρ x with
    | .nils _ => match (T.get o.type).kind with | .slice e => K (.nils e) | _ => K (.nils 0)
    | v => K v) → ∃ pv, K pv ∧ VRel G e σ w pv (ρ' x) := by
    intro x hx
    have hr := hρ x
    split at hx
    · rename_i el heq
      rw [heq] at hr
      generalize ρ' x = v at hr ⊢
      cases hr
      split at hx
      · exact ⟨_, hx, .nils _⟩
      · exact ⟨_, hx, .nils _⟩
    · exact ⟨_, hx, hr⟩
  unfold execOp
  unfold qop at h
  split at h
  · rename_i x ho
    obtain ⟨pv, hK, hr⟩ := mv x h
    exact ⟨pv, _, hK, hr, by simp only [ho, Sem.run_pure]⟩
  · rename_i x ho
    obtain ⟨pv, hK, hr⟩ := mv x h
    exact ⟨pv, _, hK, hr, by simp only [ho, Sem.run_pure]⟩
  · rename_i c a b ho
    have hc := hρ c
    split at h
    · rename_i t heq
      rw [heq] at hc
      have hcb := hc.dbool
      cases t with
      | true => exact ⟨_, _, h, hρ a, by simp [ho, hcb, asBool]⟩
      | false => exact ⟨_, _, h, hρ b, by simp [ho, hcb, asBool]⟩
    · exact h.elim
  · rename_i t ps ho
    split at h
    · rename_i fs hk
      obtain ⟨i, d, z, hi, hd, hs, hby, hkd, hz, hz2, _⟩ := (hT.get (t := t) (by rw [hk]; simp)).ex
      rw [hk] at hkd
      obtain ⟨gs, rfl, hf⟩ := hkd
      obtain ⟨hzl, hzr⟩ := zeroL_rel (G := G) (e := e) (σ := σ) (w := w) hz2
      have hplaces : ∀ (l : List Field) (m : List (Nat × Nat)), FieldsOK G.P m l → ∃ pl : List (Nat × Nat), (l.mapM fun f => (do pure (f.offset, ← sizeOf f.type) : Sem (Nat × Nat))).run G.P w = .ok pl w ∧ ∀ (i : Nat) (f : Field) (j : TypeInfo), l[i]? = some f → G.P.info? f.type = some j → pl[i]? = some (f.offset, j.size) := by
        intro l m hm
        induction hm with
        | nil => exact ⟨[], rfl, fun i f j h => by simp at h⟩
        | cons o t l f m i' ho ht hi' hs' _ ih =>
          obtain ⟨pl, h1, h2⟩ := ih
          have hft : G.P.info? f.type = some i' := by rw [ht]; exact hi'
          refine ⟨(f.offset, i'.size) :: pl, ?_, fun k g j hg hj => ?_⟩
          · simp only [List.mapM_cons, Sem.run_bind, run_sizeOf' hft, Result.andThen, Sem.run_pure, h1]
          · cases k with
            | zero => simp at hg; subst hg; rw [hft] at hj; cases hj; rfl
            | succ k => simpa using h2 k g j (by simpa using hg) hj
      obtain ⟨pl, hpl1, hpl2⟩ := hplaces gs.toList fs hf
      obtain ⟨cs', vs', hK, hfill, hs', hr'⟩ := fill_sound hT hf hρ (fun i => pl[i]?) hpl2 ps.toList (T.get t).zero z.cells (by simpa using hzl) (fun i x u hx hu => hzr i x u hx (by simpa using hu)) h
      refine ⟨_, _, hK, .agg _ vs' hs' (fun i x u hx hu => (hr' i x u hx hu).1) (fun u hu => ?_), ?_⟩
      · obtain ⟨i, hi', hiu⟩ := Array.getElem_of_mem hu
        have hlt : i < cs'.length := by rw [← hs']; exact hi'
        exact (hr' i _ u (List.getElem?_eq_getElem hlt) (by rw [Array.getElem?_eq_getElem hi', hiu])).2
      · have hm : (gs.mapM fun f => (do pure (f.offset, ← sizeOf f.type) : Sem (Nat × Nat))).run G.P w = .ok pl.toArray w := by
          rw [Array.mapM_eq_mapM_toList]
          simp only [Sem.run_map, hpl1, Result.andThen]
        simp only [ho, Instr.build, zeroValue, Sem.run_bind, run_typeInfo' hi, Result.andThen, hz, Sem.run_pure, run_underlying' hd]
        rw [hm]
        have hfill' : Instr.fill (pl.toArray[·]?) z.cells ((ps.map fun p => (p.1, ρ' p.2)).toList) = some vs' := by
          rw [← hfill]
          simp
        simp only [Result.andThen]
        rw [show (Array.map (fun x => match x with | (i, x) => (i, ρ' x)) ps).toList = (ps.map fun p => (p.1, ρ' p.2)).toList from rfl, hfill']
        rfl
    · rename_i n el hk
      obtain ⟨i, d, z, hi, hd, hs, hby, hkd, hz, hz2, _⟩ := (hT.get (t := t) (by rw [hk]; simp)).ex
      rw [hk] at hkd
      cases hkd
      split at h
      · exact h.elim
      · rename_i hk2
        split at h
        · rename_i hb1
          have hb1 := Nat.le_of_ble_eq_true hb1
          obtain ⟨ie, de, ze, hie, hde, hse, _⟩ := (hT.get (t := el) (fun h0 => hk2 h0)).ex
          obtain ⟨hzl, hzr⟩ := zeroL_rel (G := G) (e := e) (σ := σ) (w := w) hz2
          have hgs : ∀ m i0, FieldsOK G.P (arrFs (T.get el).size el m i0) ((List.range' i0 m).map fun k => ({ (default : Field) with type := el, offset := k * (T.get el).size } : Field)) := by
            intro m
            induction m with
            | zero => exact fun _ => .nil
            | succ m ih => exact fun i0 => .cons _ _ _ _ _ ie rfl rfl hie (by rw [hse]; exact hb1) (ih (i0 + 1))
          have hpl : ∀ (i : Nat) (f : Field) (j : TypeInfo), ((List.range' 0 n).map fun k => ({ (default : Field) with type := el, offset := k * (T.get el).size } : Field))[i]? = some f → G.P.info? f.type = some j → (fun i => some (i * ie.size, ie.size)) i = some (f.offset, j.size) := by
            intro i f j hf hj
            have hil : i < n := by have := (List.getElem?_eq_some_iff.1 hf).1; simpa using this
            simp [List.getElem?_range', hil] at hf
            subst hf
            simp only at hj
            rw [hie] at hj; cases hj
            simp [hse]
          obtain ⟨cs', vs', hK, hfill, hs', hr'⟩ := fill_sound hT (hgs n 0) hρ (fun i => some (i * ie.size, ie.size)) hpl ps.toList (T.get t).zero z.cells (by simpa using hzl) (fun i x u hx hu => hzr i x u hx (by simpa using hu)) h
          refine ⟨_, _, hK, .agg _ vs' hs' (fun i x u hx hu => (hr' i x u hx hu).1) (fun u hu => ?_), ?_⟩
          · obtain ⟨i, hi', hiu⟩ := Array.getElem_of_mem hu
            have hlt : i < cs'.length := by rw [← hs']; exact hi'
            exact (hr' i _ u (List.getElem?_eq_getElem hlt) (by rw [Array.getElem?_eq_getElem hi', hiu])).2
          · simp only [ho, Instr.build, zeroValue, Sem.run_bind, run_typeInfo' hi, Result.andThen, hz, Sem.run_pure, run_underlying' hd, run_sizeOf' hie]
            have hfill' : Instr.fill (fun i => some (i * ie.size, ie.size)) z.cells ((ps.map fun p => (p.1, ρ' p.2)).toList) = some vs' := by
              rw [← hfill]
              simp
            rw [show (Array.map (fun x => match x with | (i, x) => (i, ρ' x)) ps).toList = (ps.map fun p => (p.1, ρ' p.2)).toList from rfl, hfill']
            rfl
        · exact h.elim
    · exact h.elim
  · rename_i t a ho
    obtain ⟨pv, u, hK, hr, hrun⟩ := load_sound hT hS (hρ a) h
    exact ⟨pv, u, hK, hr, by simp only [ho, Sem.run_bind, hrun, Result.andThen, Sem.run_pure]⟩
  · rename_i x ho
    have hx := hρ x
    split at h
    · rename_i b off heq; rw [heq] at hx
      refine ⟨_, ρ' x, h, hx, ?_⟩
      cases hv : ρ' x <;> rw [hv] at hx <;> cases hx
      simp [ho, hv]
    · rename_i r off heq; rw [heq] at hx
      refine ⟨_, ρ' x, h, hx, ?_⟩
      cases hv : ρ' x <;> rw [hv] at hx <;> cases hx
      simp [ho, hv]
    · rename_i g a c heq; rw [heq] at hx
      refine ⟨_, ρ' x, h, hx, ?_⟩
      cases hv : ρ' x <;> rw [hv] at hx <;> cases hx
      simp [ho, hv]
    · exact h.elim
  · rename_i op t x y yt ho
    obtain ⟨pv, u, hK, hr, hrun⟩ := pbin_sound hT (hρ x) (hρ y) h
    exact ⟨pv, u, hK, hr, by simp only [ho]; rw [Sem.run_bind, hrun]; rfl⟩
  · rename_i op t x ho
    have hx := hρ x
    split at h
    · rename_i b heq; rw [heq] at hx
      exact ⟨_, _, h, .mkbool, by simp [ho, hx.dbool, Op.unary]⟩
    · rename_i k a heq; rw [heq] at hx
      obtain ⟨pv, h1, h2⟩ := wrapK_sound (G := G) (e := e) (σ := σ) (w := w) h
      exact ⟨_, _, h1, h2, by simp [ho, hx.dint, Op.unary, Op.intArith]⟩
    · rename_i k a heq; rw [heq] at hx
      exact ⟨_, _, h, .mkint, by simp [ho, hx.dint, Op.unary, run_bits]⟩
    · exact h.elim
  · rename_i s d x ho
    have hx := hρ x
    split at h
    · exact h.elim
    · rename_i el hk
      obtain ⟨i, ds, z, hi, hd, hs, hby, hkd, hz, hz2, _⟩ := (hT.get (t := s) (by rw [hk]; simp)).ex
      rw [hk] at hkd; cases hkd
      split at h
      · rename_i hk2
        obtain ⟨i2, dd, z2, hi2, hd2, hs2, hby2, hkd2, hz2, hz22, _⟩ := (hT.get (t := d) (by rw [hk2]; simp)).ex
        rw [hk2] at hkd2; cases hkd2
        split at h
        · rename_i hk3
          obtain ⟨i3, de, z3, hi3, hd3, hs3, hby3, hkd3, hz3, hz33, _⟩ := (hT.get (t := el) (by rw [hk3]; simp)).ex
          rw [hk3] at hkd3; cases hkd3
          split at h
          · rename_i rows hrows
            obtain ⟨l, rfl, hK⟩ := h
            have hD := toD_rel hrows hx
            have hb := bytes_sound (G := G) hD
            refine ⟨_, _, hK, .mkstr, ?_⟩
            obtain ⟨a, cap, hv, _⟩ := hD.sl_inv
            simp only [ho, convert, Sem.run_bind, run_underlying' hd, run_underlying' hd2, Result.andThen]
            rw [hv] at hb ⊢
            simp only [run_underlying' hd3, Sem.run_bind, Result.andThen, hb, Sem.run_pure]
          · exact h.elim
        · exact h.elim
      · exact h.elim
    · rename_i hk1 hk2
      obtain ⟨i, ds, z, hi, hd, hs, hby, hkd, hz, hz2, _⟩ := (hT.get (t := s) (fun h0 => hk1 h0)).ex
      split at h
      · rename_i k hkk
        obtain ⟨i2, dd, z2, hi2, hd2, hs2, hby2, hkd2, hz2, hz22, _⟩ := (hT.get (t := d) (by rw [hkk]; simp)).ex
        rw [hkk] at hkd2; cases hkd2
        split at h
        · rename_i k' n heq; rw [heq] at hx
          obtain ⟨pv, h1, h2⟩ := wrapK_sound (G := G) (e := e) (σ := σ) (w := w) h
          refine ⟨_, _, h1, h2, ?_⟩
          simp only [ho, hx.dint, convert, Sem.run_bind, run_underlying' hd, run_underlying' hd2, Result.andThen]
          rfl
        · exact h.elim
      · rename_i hkk
        obtain ⟨i2, dd, z2, hi2, hd2, hs2, hby2, hkd2, hz2, hz22, _⟩ := (hT.get (t := d) (by rw [hkk]; simp)).ex
        rw [hkk] at hkd2; cases hkd2
        split at h
        · rename_i s' heq; rw [heq] at hx
          refine ⟨_, _, h, .mkstr, ?_⟩
          simp only [ho, hx.dstr, convert, Sem.run_bind, run_underlying' hd, run_underlying' hd2, Result.andThen]
          rfl
        · rename_i k' n heq; rw [heq] at hx
          refine ⟨_, _, h, .mkstr, ?_⟩
          simp only [ho, hx.dint, convert, Sem.run_bind, run_underlying' hd, run_underlying' hd2, Result.andThen]
          simp [Conv.intToString]
        · exact h.elim
      · exact h.elim
  · rename_i s x i ho
    have hx := hρ x
    split at h
    · rename_i fs hk
      obtain ⟨ti, d, z, hi, hd, hs, hby, hkd, hz, hz2, _⟩ := (hT.get (t := s) (by rw [hk]; simp)).ex
      rw [hk] at hkd
      obtain ⟨gs, rfl, hf⟩ := hkd
      split at h
      · rename_i off t hfi
        obtain ⟨f, j, hg, ho', ht, hj, hjs⟩ := hf.get hfi
        have hg' : gs[i]? = some f := by simpa using hg
        have hfp : ∀ (b oo : Nat), (fieldPlace ⟨b, oo, none⟩ f).run G.P w = .ok ⟨b, oo + off, none⟩ w := fun b oo => by
          have hft : G.P.info? f.type = some j := by rw [ht]; exact hj
          have : j.size ≠ 0 := by omega
          simp [fieldPlace, run_sizeOf' hft, this, add_addr, ho']
        split at h
        · rename_i b oo heq; rw [heq] at hx
          generalize hv : ρ' x = v at hx
          cases hx with
          | ptr b oo hb =>
            refine ⟨_, _, h, .ptr b (oo + off) hb, ?_⟩
            simp [ho, hv, Instr.fieldAt, run_underlying' hd, hg', Instr.sureAddr, hfp]
        · rename_i r oo heq; rw [heq] at hx
          generalize hv : ρ' x = v at hx
          cases hx with
          | elem r oo b o2 u hc hok hu =>
            refine ⟨_, _, h, .elem r (oo + off) b o2 u hc hok hu, ?_⟩
            simp [ho, hv, Instr.fieldAt, run_underlying' hd, hg', Instr.sureAddr, hfp, Nat.add_assoc]
        · exact h.elim
      · exact h.elim
    · exact h.elim
  · rename_i s x i ho
    have hx := hρ x
    split at h
    · rename_i fs hk
      obtain ⟨ti, d, z, hi, hd, hs, hby, hkd, hz, hz2, _⟩ := (hT.get (t := s) (by rw [hk]; simp)).ex
      rw [hk] at hkd
      obtain ⟨gs, rfl, hf⟩ := hkd
      split at h
      · rename_i off t hfi
        obtain ⟨f, j, hg, ho', ht, hj, hjs⟩ := hf.get hfi
        have hg' : gs[i]? = some f := by simpa using hg
        split at h
        · rename_i cs heq; rw [heq] at hx
          generalize hv : ρ' x = v at hx
          cases hx with
          | agg cs vs hsz hr h1 =>
            split at h
            · rename_i hka
              obtain ⟨i2, d2, z2, hi2, hd2, hs2, _, hkd2, _, _, _⟩ := (hT.get (t := t) (by intro h0; rw [h0] at hka; cases hka)).ex
              split at h
              · rename_i l hl
                obtain ⟨hll, hlg⟩ := takeN_spec hl
                have hb : ∀ k, k < l.length → off + k < vs.size ∧ cs[off + k]? = l[k]? := fun k hk => by
                  have h2 := hlg k (by omega)
                  rw [List.getElem?_drop, List.getElem?_eq_getElem hk] at h2
                  have := (List.getElem?_eq_some_iff.1 h2).1
                  exact ⟨by rw [hsz]; exact this, by rw [h2, List.getElem?_eq_getElem hk]⟩
                refine ⟨_, .agg (vs.extract off (off + j.size)), h, .agg l _ ?_ ?_ ?_, ?_⟩
                · have hj2 : j.size = l.length := by rw [hj] at hi2; cases hi2; omega
                  simp only [Array.size_extract, hj2]
                  by_cases hl0 : l.length = 0
                  · omega
                  · have := (hb (l.length - 1) (by omega)).1; omega
                · intro k y u hy hu
                  have hk : k < l.length := (List.getElem?_eq_some_iff.1 hy).1
                  rw [Array.getElem?_extract] at hu
                  split at hu
                  · exact hr (off + k) y u (by rw [(hb k hk).2]; exact hy) hu
                  · cases hu
                · intro u hu
                  obtain ⟨k, hk, rfl⟩ := Array.getElem_of_mem hu
                  rw [Array.getElem_extract]
                  exact h1 _ (Array.getElem_mem _)
                · have hia := isAgg_of hkd2 hd2 w
                  rw [hka] at hia
                  subst ht
                  simp [ho, hv, Instr.field, run_underlying' hd, hg', asAgg, part, hia, run_sizeOf' hj, ho']
              · exact h.elim
            · rename_i hka
              split at h
              · exact h.elim
              · rename_i hk2
                obtain ⟨i2, d2, z2, hi2, hd2, hs2, _, hkd2, _, _, _⟩ := (hT.get (t := t) (fun h0 => hk2 h0)).ex
                split at h
                · rename_i y hy
                  have hlt : off < vs.size := by rw [hsz]; exact (List.getElem?_eq_some_iff.1 hy).1
                  have hvo : vs[off]? = some vs[off] := Array.getElem?_eq_getElem hlt
                  have hia := isAgg_of hkd2 hd2 w
                  rw [hka] at hia
                  subst ht
                  exact ⟨_, vs[off], h, hr off y _ hy hvo, by simp [ho, hv, Instr.field, run_underlying' hd, hg', asAgg, part, hia, ho', hvo]⟩
                · exact h.elim
        · exact h.elim
      · exact h.elim
    · exact h.elim
  · rename_i t x i ho
    have hx := hρ x
    have hi := hρ i
    split at h
    · rename_i k n heq; rw [heq] at hi
      have hiv := hi.dint
      split at h
      · rename_i hk
        obtain ⟨ti, d, z, hti, hd, hs, hby, hkd, hz, hz2, _⟩ := (hT.get (t := t) (by rw [hk]; simp)).ex
        rw [hk] at hkd; cases hkd
        split at h
        · rename_i s heq2; rw [heq2] at hx
          have hxv := hx.dstr
          obtain ⟨h0, h1, hK⟩ := h
          have hlt : n.toNat < s.length := by omega
          have hb : (⟨s.toArray⟩ : ByteArray)[n.toNat]? = some (s[n.toNat]) := by
            rw [getElem?_pos (h := (by show n.toNat < s.length; exact hlt))]
            rfl
          refine ⟨_, _, hK, .mkint, ?_⟩
          simp [ho, hxv, hiv, Instr.index, asInt_int, run_underlying' hd, h0, hb, List.getD, List.getElem?_eq_getElem hlt]
        · exact h.elim
      · rename_i m el hk
        obtain ⟨ti, d, z, hti, hd, hs, hby, hkd, hz, hz2, _⟩ := (hT.get (t := t) (by rw [hk]; simp)).ex
        rw [hk] at hkd; cases hkd
        split at h
        · rename_i cs heq2; rw [heq2] at hx
          generalize hv : ρ' x = v at hx
          cases hx with
          | agg cs vs hsz hr h1 =>
            split at h
            · exact h.elim
            · rename_i hka
              split at h
              · exact h.elim
              · rename_i hk2
                obtain ⟨i2, d2, z2, hi2, hd2, hs2, _, hkd2, _, _, _⟩ := (hT.get (t := el) (fun h0 => hk2 h0)).ex
                split at h
                · rename_i hsz1
                  have hs1 := Nat.eq_of_beq_eq_true hsz1
                  split at h
                  · rename_i y hy
                    obtain ⟨h0, hm, hK⟩ := h
                    have hlt : n.toNat < vs.size := by rw [hsz]; exact (List.getElem?_eq_some_iff.1 hy).1
                    have hvo : vs[n.toNat]? = some vs[n.toNat] := Array.getElem?_eq_getElem hlt
                    have hia := isAgg_of hkd2 hd2 w
                    rw [hka] at hia
                    have hi1 : i2.size = 1 := by omega
                    exact ⟨_, vs[n.toNat], hK, hr n.toNat y _ hy hvo, by simp [ho, hv, hiv, Instr.index, asInt_int, run_underlying' hd, h0, hm, part, hia, run_sizeOf' hi2, hi1, hvo]⟩
                  · exact h.elim
                · exact h.elim
        · exact h.elim
      · exact h.elim
    · exact h.elim
  · rename_i t x i ho
    have hx := hρ x
    have hi := hρ i
    split at h
    · rename_i k n heq; rw [heq] at hi
      have hiv := hi.dint
      split at h
      · rename_i el hk
        obtain ⟨ti, d, z, hti, hd, hs, hby, hkd, hz, hz2, _⟩ := (hT.get (t := t) (by rw [hk]; simp)).ex
        rw [hk] at hkd; cases hkd
        split at h
        · exact h.elim
        · rename_i hk2
          obtain ⟨i2, d2, z2, hi2, hd2, hs2, _, hkd2, _, _, _⟩ := (hT.get (t := el) (fun h0 => hk2 h0)).ex
          split at h
          · rename_i rows hrows
            obtain ⟨r, h0, hr, hK⟩ := h
            split at hK
            · rename_i hlen
              have hl := Nat.eq_of_beq_eq_true hlen
              obtain ⟨b, off, cap, u, hv, hn, hc, hok, hu⟩ := VRel.elems (toD_rel hrows hx) hr
              refine ⟨_, _, hK, .elem r 0 b (off + n.toNat * r.length) u hc hok hu, ?_⟩
              have hn' : n < (rows.length : Int) := by omega
              simp [ho, hv, hiv, Instr.indexAt, asInt_int, run_underlying' hd, h0, hn', run_sizeOf' hi2, add_addr, hs2, hl]
            · exact hK.elim
          · exact h.elim
      · exact h.elim
    · exact h.elim
  · rename_i t x lo hi ho
    obtain ⟨pv, u, hK, hr, hrun⟩ := slice_sound hT (hρ x) hρ h
    exact ⟨pv, u, hK, hr, by simp only [ho, Option.map_none, Sem.run_bind, hrun, Result.andThen, Sem.run_pure]⟩
  · rename_i x i ho
    have hx := hρ x
    split at h
    · rename_i cs heq; rw [heq] at hx
      generalize hv : ρ' x = v at hx
      cases hx with
      | tuple cs vs hsz hr =>
        split at h
        · rename_i y hy
          have hlt : i < vs.size := by rw [hsz]; exact (List.getElem?_eq_some_iff.1 hy).1
          have hvo : vs[i]? = some vs[i] := Array.getElem?_eq_getElem hlt
          exact ⟨_, vs[i], h, hr i y _ hy hvo, by simp [ho, hv, Instr.extract, hvo]⟩
        · exact h.elim
    · exact h.elim
  · rename_i g a c ho
    refine ⟨_, _, h, .func g _ _ (a.map ρ') (c.map ρ') (by simp) (by simp) ?_ ?_, by simp [ho, Instr.makeFunc]⟩
    · intro i x u hx hu
      rw [List.getElem?_map] at hx
      rw [Array.getElem?_map] at hu
      cases hq : a[i]? with
      | none => rw [hq] at hu; cases hu
      | some q =>
        rw [hq] at hu
        rw [Array.getElem?_toList, hq] at hx
        cases hx; cases hu; exact hρ q
    · intro i x u hx hu
      rw [List.getElem?_map] at hx
      rw [Array.getElem?_map] at hu
      cases hq : c[i]? with
      | none => rw [hq] at hu; cases hu
      | some q =>
        rw [hq] at hu
        rw [Array.getElem?_toList, hq] at hx
        cases hx; cases hu; exact hρ q
  · rename_i t x ho
    split at h
    · exact h.elim
    · exact h.elim
    · rename_i hk1 hk2
      obtain ⟨ti, d, z, hti, hd, hs, hby, hkd, hz, hz2, _⟩ := (hT.get (t := t) (fun h0 => hk2 h0)).ex
      refine ⟨_, _, h, .iface t _ _ (hρ x), ?_⟩
      have : ∀ ms, d ≠ .interface ms := fun ms h0 => by
        subst h0
        cases hk : (T.get t).kind <;> rw [hk] at hkd <;> first | (cases hkd; done) | (exact hk1 hk) | (obtain ⟨_, h1, _⟩ := hkd; cases h1; done) | (obtain ⟨_, _, _, h1⟩ := hkd; cases h1; done)
      simp only [ho, Instr.makeInterface, Sem.run_bind, run_underlying' hd, Result.andThen]
      cases d <;> first | rfl | exact absurd rfl (this _)
  · rename_i x xt t ho
    split at h
    · exact h.elim
    · exact h.elim
    · rename_i hk1 hk2
      obtain ⟨ti, d, z, hti, hd, hs, hby, hkd, hz, hz2, _⟩ := (hT.get (t := t) (fun h0 => hk2 h0)).ex
      have this : ∀ ms, d ≠ .interface ms := fun ms h0 => by
        subst h0
        cases hk : (T.get t).kind <;> rw [hk] at hkd <;> first | (cases hkd; done) | (exact hk1 hk) | (obtain ⟨_, h1, _⟩ := hkd; cases h1; done) | (obtain ⟨_, _, _, h1⟩ := hkd; cases h1; done)
      have hx := hρ x
      split at h
      · rename_i t' pv heq
        split at h
        · rename_i hb
          cases Nat.eq_of_beq_eq_true hb
          rw [heq] at hx
          generalize hv : ρ' x = vv at hx
          cases hx with
          | iface _ _ u hu =>
            refine ⟨_, .tuple #[u, .bool true], h, .tuple _ _ rfl (fun i p q hp hq => ?_), ?_⟩
            · match i with
              | 0 => cases hp; cases hq; exact hu
              | 1 => cases hp; cases hq; exact .mkbool
              | n + 2 => simp at hp
            · simp only [ho, hv, Instr.typeAssert, Sem.run_bind, run_underlying' hd, Result.andThen]
              cases d <;> first | exact absurd rfl (this _) | simp
        · exact h.elim
      · exact h.elim
  · rename_i b args argTypes ho
    have hargs : ∀ vs, args.toList.map ρ = vs → ∃ us : List Value, (args.map ρ').toList = us ∧ us.length = vs.length ∧ ∀ (i : Nat) (x : PV) (u : Value), vs[i]? = some x → us[i]? = some u → VRel G e σ w x u := fun vs hvs => by
      refine ⟨_, rfl, by rw [← hvs]; simp, fun i x u hx hu => ?_⟩
      rw [← hvs, List.getElem?_map] at hx
      rw [Array.toList_map, List.getElem?_map] at hu
      cases hq : args.toList[i]? with
      | none => rw [hq] at hx; cases hx
      | some q => rw [hq] at hx hu; cases hx; cases hu; exact hρ q
    split at h
    · rename_i t ts v hts hvs
      obtain ⟨us, hus, hlen, hr⟩ := hargs _ hvs
      have hat : argTypes[0]? = some t := by rw [← Array.getElem?_toList, hts]; rfl
      cases us with
      | nil => cases hlen
      | cons u us2 =>
        cases us2 with
        | cons _ _ => simp at hlen
        | nil =>
          have hu := hr 0 v u rfl rfl
          have ha0 : (args.map ρ')[0]? = some u := by rw [← Array.getElem?_toList, hus]; rfl
          split at h
          · rename_i hk
            obtain ⟨ti, d, z, hti, hd, hs, hby, hkd, hz, hz2, _⟩ := (hT.get (t := t) (by rw [hk]; simp)).ex
            rw [hk] at hkd; cases hkd
            split at h
            · rename_i s
              have hus := hu.dstr
              subst hus
              refine ⟨_, _, h, .mkint, ?_⟩
              simp only [ho, resolve, invoke, builtin, Sem.run_bind, Sem.run_pure, Result.andThen, Builtin.len_, hat, ha0, run_underlying' hd]
              rfl
            · exact h.elim
          · rename_i el hk
            obtain ⟨ti, d, z, hti, hd, hs, hby, hkd, hz, hz2, _⟩ := (hT.get (t := t) (by rw [hk]; simp)).ex
            rw [hk] at hkd; cases hkd
            split at h
            · rename_i rows hrows
              obtain ⟨a, cap, hv, _⟩ := (toD_rel hrows hu).sl_inv
              subst hv
              refine ⟨_, _, h, .mkint, ?_⟩
              simp only [ho, resolve, invoke, builtin, Sem.run_bind, Sem.run_pure, Result.andThen, Builtin.len_, hat, ha0, run_underlying' hd]
              rfl
            · exact h.elim
          · exact h.elim
    · rename_i k a k' b hvs
      obtain ⟨us, hus, hlen, hr⟩ := hargs _ hvs
      split at h
      · rename_i hkk
        cases keq_eq hkk
        match us, hlen with
        | [u1, u2], _ =>
          have h1 := (hr 0 _ u1 rfl rfl).dint
          have h2 := (hr 1 _ u2 rfl rfl).dint
          subst h1; subst h2
          refine ⟨_, _, h, .mkint, ?_⟩
          simp only [ho, resolve, invoke, builtin, Sem.run_bind, Sem.run_pure, Result.andThen, Builtin.min_, hus]
          have : min a b = (if b < a then b else a) := by split <;> omega
          rw [this]
          rfl
      · exact h.elim
    · rename_i k a k' b hvs
      obtain ⟨us, hus, hlen, hr⟩ := hargs _ hvs
      split at h
      · rename_i hkk
        cases keq_eq hkk
        match us, hlen with
        | [u1, u2], _ =>
          have h1 := (hr 0 _ u1 rfl rfl).dint
          have h2 := (hr 1 _ u2 rfl rfl).dint
          subst h1; subst h2
          refine ⟨_, _, h, .mkint, ?_⟩
          simp only [ho, resolve, invoke, builtin, Sem.run_bind, Sem.run_pure, Result.andThen, Builtin.max_, hus]
          have : max a b = (if b > a then b else a) := by split <;> omega
          rw [this]
          rfl
      · exact h.elim
    · exact h.elim
  · exact h.elim
end
end Go.PM
