/- A part of the proof: plain logic, contracts and laws over the given program. -/
import Derived.Laws.BytesString
import Derived.Deep.AppendSrc
import Derived.Deep.Upon
import Derived.Lib.OthersKept
import Derived.Lib.ConvBytes
import Derived.Test.YtjmoaahgfjaafaaGreatDoorH00
set_option linter.unusedVariables false
set_option linter.unusedSimpArgs false
set_option linter.all false
section
namespace Go.PM
section
variable {G : GE} {e : Env} {σ : St} {w : World} {T : Tab}
theorem KindOK.slice {P : Program} {e : Nat} {d : TypeDesc} (h : KindOK P (.slice e) d) : d = .slice e := h
theorem rows_cut {rows : List (List D)} {v : Value} {a b sz : Nat} (h : DRel (okc e σ) w (.sl rows) v) (hsz : ∀ r ∈ rows, r.length = sz) (hab : a ≤ b) (hb : b ≤ rows.length) :
  ∃ ad cap, v = .slice ad rows.length cap ∧ rows.length ≤ cap ∧ DRel (okc e σ) w (.sl (cut rows a b)) (.slice (if cap = a then ad else ad.map (·.add (a * sz))) (b - a) (cap - a)) := by
 have hlen : (cut rows a b).length = b - a := by simp [cut]; omega
 cases h with
 | slnil =>
  refine ⟨none, 0, rfl, Nat.le_refl _, ?_⟩
  have h1 : b = 0 := by simpa using hb
  have h2 : a = 0 := by omega
  subst h1; subst h2
  exact .slnil
 | sl rows bk off cap sz' u hcap hsz' hc ho hu =>
  refine ⟨some ⟨bk, off, none⟩, cap, rfl, hcap, ?_⟩
  by_cases hr : rows = []
  ·subst hr
   have h1 : b = 0 := by simpa using hb
   have h2 : a = 0 := by omega
   subst h1; subst h2
   have hh : DRel (okc e σ) w (.sl (cut ([] : List (List D)) 0 0)) (.slice (some ⟨bk, off, none⟩) ([] : List (List D)).length cap) := .sl [] bk off cap sz' u (Nat.zero_le _) (fun r h => by cases h) (fun i j h => by cases h) (fun i j h => by cases h) (fun i j x h => by simp at h)
   split
   ·exact hh
   ·simpa [add_addr] using hh
  ·have hss : sz' = sz := by
    cases rows with
    | nil => exact absurd rfl hr
    | cons r l => rw [← hsz' r (by simp), hsz r (by simp)]
   subst hss
   have hg : ∀ i, i < b - a → (cut rows a b)[i]? = rows[a + i]? := fun i hi => by
    simp only [cut, List.getElem?_drop, List.getElem?_take]
    rw [if_pos (by omega)]
   have main : DRel (okc e σ) w (.sl (cut rows a b)) (.slice (some ⟨bk, off + a * sz', none⟩) (cut rows a b).length (cap - a)) := by
    refine .sl _ bk (off + a * sz') (cap - a) sz' (fun i j => u (a + i) j) (by rw [hlen]; omega) (fun r hr => hsz' r (List.mem_of_mem_take (List.mem_of_mem_drop hr))) ?_ ?_ ?_
    ·intro i j hi hj
     rw [hlen] at hi
     have := hc (a + i) j (by omega) hj
     rw [Nat.add_mul] at this
     rwa [show off + a * sz' + i * sz' + j = off + (a * sz' + i * sz') + j by omega]
    ·intro i j hi hj
     rw [hlen] at hi
     have := ho (a + i) j (by omega) hj
     rw [Nat.add_mul] at this
     rwa [show off + a * sz' + i * sz' + j = off + (a * sz' + i * sz') + j by omega]
    ·intro i j x hx
     by_cases hi : i < b - a
     ·rw [hg i hi] at hx; exact hu (a + i) j x hx
     ·rw [List.getElem?_eq_none (by rw [hlen]; omega)] at hx; cases hx
   rw [hlen] at main
   split
   ·rename_i hca
    have hba : b = a := by omega
    subst hba
    have : cut rows b b = [] := by simp [cut]
    rw [this, Nat.sub_self]
    exact .sl [] bk off (cap - b) sz' u (Nat.zero_le _) (fun r h => by cases h) (fun i j h => by cases h) (fun i j h => by cases h) (fun i j x h => by simp at h)
   ·simpa [add_addr] using main
theorem opt_rel {ρ : Operand → PV} {ρ' : Operand → Value} (hρ : ∀ x, VRel G e σ w (ρ x) (ρ' x)) (lo : Option Operand) : (∀ v, lo.map ρ' = some v → ∃ x, lo.map ρ = some x ∧ VRel G e σ w x v) ∧ (lo.map ρ' = none → lo.map ρ = none) := by
 cases lo with
 | none => exact ⟨fun v h => by simp at h, fun _ => rfl⟩
 | some x => exact ⟨fun v h => by simp at h; subst h; exact ⟨ρ x, rfl, hρ x⟩, fun h => by simp at h⟩
theorem slice_sound (hT : TabOK T G.P) {K : PV → Prop} {t : TypeId} {px : PV} {vx : Value} (hx : VRel G e σ w px vx) {ρ : Operand → PV} {ρ' : Operand → Value} (hρ : ∀ x, VRel G e σ w (ρ x) (ρ' x)) {lo hi : Option Operand}
  (h : pslice T t px (lo.map ρ) (hi.map ρ) K) : ∃ pv u, K pv ∧ VRel G e σ w pv u ∧ (Instr.sliceAt t vx (lo.map ρ') (hi.map ρ') none).run G.P w = .ok u w := by
 unfold pslice at h
 split at h
 ·rename_i hk
  obtain ⟨i, d, z, hi', hd, hs, hby, hkd, hz, hz2, _⟩ := (hT.get (t := t) (by rw [hk]; simp)).ex
  rw [hk] at hkd; cases hkd
  split at h
  ·rename_i s
   cases hx.dstr
   obtain ⟨l, u, hK, hlu, hul, hrun⟩ := slBounds_sound (G := G) (e := e) (σ := σ) (w := w) (P := G.P) false (Nat.le_refl s.length) (opt_rel hρ lo).1 (opt_rel hρ lo).2 (opt_rel hρ hi).1 (opt_rel hρ hi).2 h
   refine ⟨_, _, hK, .mkstr, ?_⟩
   have hsz : (⟨s.toArray⟩ : ByteArray).size = s.length := rfl
   simp only [Instr.sliceAt, Instr.slice, Sem.run_bind, run_underlying' hd, Result.andThen, Option.isSome_none, Bool.false_eq_true, if_false, hsz, hrun, Sem.run_pure]
   congr 2
   apply ByteArray.ext
   apply Array.ext'
   simp [cut, ByteArray.data_extract, List.drop_take]
  ·exact h.elim
 ·rename_i el hk
  split at h
  ·exact h.elim
  ·rename_i hk2
   split at h
   ·rename_i rows hrows
    obtain ⟨i, d, z, hi', hd, hs, hby, hkd, hz, hz2, _⟩ := (hT.get (t := t) (by rw [hk]; simp)).ex
    rw [hk] at hkd; cases hkd
    have hD := toD_rel hrows hx
    obtain ⟨hsz, h⟩ := h
    obtain ⟨ad, cap, rfl, hcap⟩ := hD.sl_inv
    obtain ⟨l, u, hK, hlu, hul, hrun⟩ := slBounds_sound (G := G) (e := e) (σ := σ) (w := w) (P := G.P) true hcap (opt_rel hρ lo).1 (opt_rel hρ lo).2 (opt_rel hρ hi).1 (opt_rel hρ hi).2 h
    obtain ⟨ad', cap', hv, _, hR⟩ := rows_cut hD hsz hlu hul
    cases hv
    obtain ⟨i2, d2, z2, hi2, hd2, hs2, _, _, _, _, _⟩ := (hT.get (t := el) (fun h0 => hk2 h0)).ex
    refine ⟨_, _, hK, .d _ _ hR, ?_⟩
    simp only [Instr.sliceAt, Instr.slice, Sem.run_bind, run_underlying' hd, Result.andThen, hrun, run_sizeOf' hi2, Sem.run_pure, hs2]
   ·exact h.elim
 ·rename_i n el hk
  split at h
  ·exact h.elim
  ·rename_i hk2
   obtain ⟨i2, d2, z2, hi2, hd2, hs2, _, _, _, _, _⟩ := (hT.get (t := el) (fun h0 => hk2 h0)).ex
   obtain ⟨i, d, z, hi', hd, hs, hby, hkd, hz, hz2, _⟩ := (hT.get (t := t) (by rw [hk]; simp)).ex
   rw [hk] at hkd; cases hkd
   split at h
   ·rename_i b off hlo hhi
    cases hx with
    | ptr _ _ hb =>
     have e1 : lo = none := by cases lo <;> simp_all
     have e2 : hi = none := by cases hi <;> simp_all
     subst e1; subst e2
     refine ⟨_, _, h, .asl b off n hb, ?_⟩
     simp only [Instr.sliceAt, Instr.sureAddr, Instr.sliceBounds, Option.map_none, Sem.run_bind, run_underlying' hd, Result.andThen, Sem.run_pure, run_sizeOf' hi2]
     by_cases hn : n = 0
     ·subst hn; simp
     ·simp [hn, add_addr]
   ·rename_i b off kk a hlo hhi
    obtain ⟨ha0, han, hK⟩ := h
    cases hx with
    | ptr _ _ hb =>
     have e2 : hi = none := by cases hi <;> simp_all
     subst e2
     cases lo with
     | none => simp at hlo
     | some x0 =>
      have hx0 := hρ x0
      simp only [Option.map_some, Option.some.injEq] at hlo
      rw [hlo] at hx0
      refine ⟨_, _, hK, .asl b _ _ hb, ?_⟩
      have hle : a ≤ (n : Int) := by omega
      have hne : ¬ n = a.toNat := by omega
      simp [Instr.sliceAt, Instr.sureAddr, Instr.sliceBounds, Instr.sliceBound, asIntOf, hx0.dint, Sem.run_bind, run_underlying' hd, Result.andThen, Sem.run_pure, run_sizeOf' hi2, ha0, hle, hne, hs2, add_addr]
   ·exact h.elim
 ·exact h.elim
theorem foldl_bytes : ∀ (l acc : List UInt8), (l.map (fun b : UInt8 => (b.toNat : Int))).foldl (fun r n => r.push (UInt8.ofNat n.toNat)) (⟨acc.toArray⟩ : ByteArray) = ⟨(acc ++ l).toArray⟩
 | [], acc => by simp
 | b :: l, acc => by
  simp only [List.map_cons, List.foldl_cons, Int.toNat_natCast, UInt8.ofNat_toNat]
  have : (⟨acc.toArray⟩ : ByteArray).push b = ⟨(acc ++ [b]).toArray⟩ := by
   apply ByteArray.ext; simp [ByteArray.push]
  rw [this, foldl_bytes l (acc ++ [b])]
  simp
theorem bytes_sound {l : List UInt8} {v : Value} (h : DRel (okc e σ) w (.sl (l.map (fun b => [.int .u8 b.toNat]))) v) : (Conv.bytesToString v).run G.P w = .ok (.string ⟨l.toArray⟩) w := by
 generalize hr : l.map (fun b : UInt8 => [D.int .u8 b.toNat]) = rows at h
 cases h with
 | slnil =>
  have : l = [] := by simpa using hr
  subst this; rfl
 | sl rows b off cap sz u hcap hsz hc ho hu =>
  subst hr
  have hl := run_bytesToString (P := G.P) w ⟨b, off, none⟩ (l.map (fun b => [D.int .u8 b.toNat])).length cap (l.map (fun b : UInt8 => (b.toNat : Int))) ?_
  ·rw [hl]
   congr 2
   exact (foldl_bytes l []).trans (by simp)
  ·have := run_loadCells_list (P := G.P) w ⟨b, off, none⟩ ((l.map (fun b : UInt8 => (b.toNat : Int))).map (Value.int .u8)) (fun j x hx => ?_)
   ·simpa using this
   ·rw [add_addr]
    simp only [List.map_map, List.getElem?_map] at hx
    cases hj : l[j]? with
    | none => rw [hj] at hx; cases hx
    | some y =>
     rw [hj] at hx
     cases hx
     have hjl := (List.getElem?_eq_some_iff.1 hj).1
     have h1 : (l.map (fun b : UInt8 => [D.int .u8 b.toNat]))[j]? = some [.int .u8 y.toNat] := by rw [List.getElem?_map, hj]; rfl
     have hs1 : sz = 1 := (hsz _ (List.mem_of_getElem? h1)).symm
     subst hs1
     have h2 := hc j 0 (by simpa using hjl) (by omega)
     have h3 := hu j 0 (.int .u8 y.toNat) (by rw [h1]; rfl)
     cases h3v : u j 0 <;> rw [h3v] at h3 <;> cases h3
     rw [h3v] at h2
     simpa using h2
theorem takeN_get {α : Type} : ∀ {n : Nat} {l r : List α}, takeN n l = some r → ∀ (j : Nat) (x : α), r[j]? = some x → l[j]? = some x
 | 0, l, r, h, j, x, hx => by simp only [takeN] at h; cases h; simp at hx
 | n + 1, [], r, h, j, x, hx => by simp [takeN] at h
 | n + 1, y :: l, r, h, j, x, hx => by
  simp only [takeN] at h
  split at h
  ·rename_i r' hr'
   cases h
   cases j with
   | zero => simpa using hx
   | succ j => simp only [List.getElem?_cons_succ] at hx ⊢; exact takeN_get hr' j x hx
  ·cases h
theorem asl_bytes {b off n : Nat} {tb : TypeId} {cs : List PV} {l : List UInt8} (hb : BRel G e σ w (.cells tb cs) (e.β b)) (htk : takeN n (cs.drop off) = some (l.map fun b => .d (.int .u8 b.toNat))) (hln : l.length = n) :
  (Conv.bytesToString (.slice (some ⟨e.β b, off, none⟩) n n)).run G.P w = .ok (.string ⟨l.toArray⟩) w := by
 obtain ⟨vs, hv1, hv2, hv3⟩ := hb
 have hl := run_bytesToString (P := G.P) w ⟨e.β b, off, none⟩ n n (l.map (fun b : UInt8 => (b.toNat : Int))) ?_
 ·rw [hl]
  congr 2
  exact (foldl_bytes l []).trans (by simp)
 ·have := run_loadCells_list (P := G.P) w ⟨e.β b, off, none⟩ ((l.map (fun b : UInt8 => (b.toNat : Int))).map (Value.int .u8)) (fun j x hx => ?_)
  ·rw [← hln]; simpa using this
  ·rw [add_addr]
   simp only [List.map_map, List.getElem?_map] at hx
   cases hj : l[j]? with
   | none => rw [hj] at hx; cases hx
   | some y =>
    rw [hj] at hx
    cases hx
    have h1 := takeN_get htk j (.d (.int .u8 y.toNat)) (by rw [List.getElem?_map, hj]; rfl)
    rw [List.getElem?_drop] at h1
    have hlt : off + j < vs.size := by
     have := (List.getElem?_eq_some_iff.1 h1).1
     rw [hv2]; exact this
    have hvj := Array.getElem?_eq_getElem hlt
    have h2 := (hv3 (off + j) _ _ h1 hvj).1
    have h3 := h2.dint
    simp only [World.cell?, hv1, hvj, h3]
    rfl
theorem qop_sound (hT : TabOK T G.P) (hS : SRel G e σ w) {K : PV → Prop} {ρ : Operand → PV} {ρ' : Operand → Value} (hρ : ∀ x, VRel G e σ w (ρ x) (ρ' x)) (o : Oper) (h : qop T o.op o.type ρ σ.bx K) :
  ∃ pv v, K pv ∧ VRel G e σ w pv v ∧ (execOp ρ' o).run G.P w = .ok (.value v) w := by
 have mv : ∀ x : Operand, (match ρ x with
  | .nils _ => match (T.get o.type).kind with | .slice e => K (.nils e) | _ => K (.nils 0)
  | v => K v) → ∃ pv, K pv ∧ VRel G e σ w pv (ρ' x) := by
  intro x hx
  have hr := hρ x
  split at hx
  ·rename_i el heq
   rw [heq] at hr
   generalize ρ' x = v at hr ⊢
   cases hr
   split at hx
   ·exact ⟨_, hx, .nils _⟩
   ·exact ⟨_, hx, .nils _⟩
  ·exact ⟨_, hx, hr⟩
 unfold execOp
 unfold qop at h
 split at h
 ·rename_i x ho
  obtain ⟨pv, hK, hr⟩ := mv x h
  exact ⟨pv, _, hK, hr, by simp only [ho, Sem.run_pure]⟩
 ·rename_i x ho
  obtain ⟨pv, hK, hr⟩ := mv x h
  exact ⟨pv, _, hK, hr, by simp only [ho, Sem.run_pure]⟩
 ·rename_i c a b ho
  have hc := hρ c
  split at h
  ·rename_i t heq
   rw [heq] at hc
   have hcb := hc.dbool
   cases t with
   | true => exact ⟨_, _, h, hρ a, by simp [ho, hcb, asBool]⟩
   | false => exact ⟨_, _, h, hρ b, by simp [ho, hcb, asBool]⟩
  ·exact h.elim
 ·rename_i t ps ho
  split at h
  ·rename_i fs hk
   obtain ⟨i, d, z, hi, hd, hs, hby, hkd, hz, hz2, _⟩ := (hT.get (t := t) (by rw [hk]; simp)).ex
   rw [hk] at hkd
   obtain ⟨gs, rfl, hf⟩ := hkd
   obtain ⟨hzl, hzr⟩ := zeroL_rel (G := G) (e := e) (σ := σ) (w := w) hz2
   have hplaces : ∀ (l : List Field) (m : List (Nat × Nat)), FieldsOK G.P m l → ∃ pl : List (Nat × Nat), (l.mapM fun f => (do pure (f.offset, ← sizeOf f.type) : Sem (Nat × Nat))).run G.P w = .ok pl w ∧ ∀ (i : Nat) (f : Field) (j : TypeInfo), l[i]? = some f → G.P.info? f.type = some j → pl[i]? = some (f.offset, j.size) := by
    intro l m hm
    induction hm with
    | nil => exact ⟨[], rfl, fun i f j h => by simp at h⟩
    | cons o t l f m i' ho ht hi' hs' _ ih =>
     obtain ⟨pl, h1, h2⟩ := ih
     have hft : G.P.info? f.type = some i' := by rw [ht]; exact hi'
     refine ⟨(f.offset, i'.size) :: pl, ?_, fun k g j hg hj => ?_⟩
     ·simp only [List.mapM_cons, Sem.run_bind, run_sizeOf' hft, Result.andThen, Sem.run_pure, h1]
     ·cases k with
      | zero => simp at hg; subst hg; rw [hft] at hj; cases hj; rfl
      | succ k => simpa using h2 k g j (by simpa using hg) hj
   obtain ⟨pl, hpl1, hpl2⟩ := hplaces gs.toList fs hf
   obtain ⟨cs', vs', hK, hfill, hs', hr'⟩ := fill_sound hT hf hρ (fun i => pl[i]?) hpl2 ps.toList (T.get t).zero z.cells (by simpa using hzl) (fun i x u hx hu => hzr i x u hx (by simpa using hu)) h
   refine ⟨_, _, hK, .agg _ vs' hs' (fun i x u hx hu => (hr' i x u hx hu).1) (fun u hu => ?_), ?_⟩
   ·obtain ⟨i, hi', hiu⟩ := Array.getElem_of_mem hu
    have hlt : i < cs'.length := by rw [← hs']; exact hi'
    exact (hr' i _ u (List.getElem?_eq_getElem hlt) (by rw [Array.getElem?_eq_getElem hi', hiu])).2
   ·have hm : (gs.mapM fun f => (do pure (f.offset, ← sizeOf f.type) : Sem (Nat × Nat))).run G.P w = .ok pl.toArray w := by
     rw [Array.mapM_eq_mapM_toList]
     simp only [Sem.run_map, hpl1, Result.andThen]
    simp only [ho, Instr.build, zeroValue, Sem.run_bind, run_typeInfo' hi, Result.andThen, hz, Sem.run_pure, run_underlying' hd]
    rw [hm]
    have hfill' : Instr.fill (pl.toArray[·]?) z.cells ((ps.map fun p => (p.1, ρ' p.2)).toList) = some vs' := by
     rw [← hfill]
     simp
    simp only [Result.andThen]
    rw [show (Array.map (fun x => match x with | (i, x) => (i, ρ' x)) ps).toList = (ps.map fun p => (p.1, ρ' p.2)).toList from rfl, hfill']
    rfl
  ·rename_i n el hk
   obtain ⟨i, d, z, hi, hd, hs, hby, hkd, hz, hz2, _⟩ := (hT.get (t := t) (by rw [hk]; simp)).ex
   rw [hk] at hkd
   cases hkd
   split at h
   ·exact h.elim
   ·rename_i hk2
    split at h
    ·rename_i hb1
     have hb1 := Nat.le_of_ble_eq_true hb1
     obtain ⟨ie, de, ze, hie, hde, hse, _⟩ := (hT.get (t := el) (fun h0 => hk2 h0)).ex
     obtain ⟨hzl, hzr⟩ := zeroL_rel (G := G) (e := e) (σ := σ) (w := w) hz2
     have hgs : ∀ m i0, FieldsOK G.P (arrFs (T.get el).size el m i0) ((List.range' i0 m).map fun k => ({ (default : Field) with type := el, offset := k * (T.get el).size } : Field)) := by
      intro m
      induction m with
      | zero => exact fun _ => .nil
      | succ m ih => exact fun i0 => .cons _ _ _ _ _ ie rfl rfl hie (by rw [hse]; exact hb1) (ih (i0 + 1))
     have hpl : ∀ (i : Nat) (f : Field) (j : TypeInfo), ((List.range' 0 n).map fun k => ({ (default : Field) with type := el, offset := k * (T.get el).size } : Field))[i]? = some f → G.P.info? f.type = some j → (fun i => some (i * ie.size, ie.size)) i = some (f.offset, j.size) := by
      intro i f j hf hj
      have hil : i < n := by have := (List.getElem?_eq_some_iff.1 hf).1; simpa using this
      simp [List.getElem?_range', hil] at hf
      subst hf
      simp only at hj
      rw [hie] at hj; cases hj
      simp [hse]
     obtain ⟨cs', vs', hK, hfill, hs', hr'⟩ := fill_sound hT (hgs n 0) hρ (fun i => some (i * ie.size, ie.size)) hpl ps.toList (T.get t).zero z.cells (by simpa using hzl) (fun i x u hx hu => hzr i x u hx (by simpa using hu)) h
     refine ⟨_, _, hK, .agg _ vs' hs' (fun i x u hx hu => (hr' i x u hx hu).1) (fun u hu => ?_), ?_⟩
     ·obtain ⟨i, hi', hiu⟩ := Array.getElem_of_mem hu
      have hlt : i < cs'.length := by rw [← hs']; exact hi'
      exact (hr' i _ u (List.getElem?_eq_getElem hlt) (by rw [Array.getElem?_eq_getElem hi', hiu])).2
     ·simp only [ho, Instr.build, zeroValue, Sem.run_bind, run_typeInfo' hi, Result.andThen, hz, Sem.run_pure, run_underlying' hd, run_sizeOf' hie]
      have hfill' : Instr.fill (fun i => some (i * ie.size, ie.size)) z.cells ((ps.map fun p => (p.1, ρ' p.2)).toList) = some vs' := by
       rw [← hfill]
       simp
      rw [show (Array.map (fun x => match x with | (i, x) => (i, ρ' x)) ps).toList = (ps.map fun p => (p.1, ρ' p.2)).toList from rfl, hfill']
      rfl
    ·exact h.elim
  ·exact h.elim
 ·rename_i t a ho
  obtain ⟨pv, u, hK, hr, hrun⟩ := load_sound hT hS (hρ a) h
  exact ⟨pv, u, hK, hr, by simp only [ho, Sem.run_bind, hrun, Result.andThen, Sem.run_pure]⟩
 ·rename_i x ho
  have hx := hρ x
  split at h
  ·rename_i b off heq; rw [heq] at hx
   refine ⟨_, ρ' x, h, hx, ?_⟩
   cases hv : ρ' x <;> rw [hv] at hx <;> cases hx
   simp [ho, hv]
  ·rename_i r off heq; rw [heq] at hx
   refine ⟨_, ρ' x, h, hx, ?_⟩
   cases hv : ρ' x <;> rw [hv] at hx <;> cases hx
   simp [ho, hv]
  ·rename_i g a c heq; rw [heq] at hx
   refine ⟨_, ρ' x, h, hx, ?_⟩
   cases hv : ρ' x <;> rw [hv] at hx <;> cases hx
   simp [ho, hv]
  ·exact h.elim
 ·rename_i op t x y yt ho
  obtain ⟨pv, u, hK, hr, hrun⟩ := pbin_sound hT (hρ x) (hρ y) h
  exact ⟨pv, u, hK, hr, by simp only [ho]; rw [Sem.run_bind, hrun]; rfl⟩
 ·rename_i op t x ho
  have hx := hρ x
  split at h
  ·rename_i b heq; rw [heq] at hx
   exact ⟨_, _, h, .mkbool, by simp [ho, hx.dbool, Op.unary]⟩
  ·rename_i k a heq; rw [heq] at hx
   obtain ⟨pv, h1, h2⟩ := wrapK_sound (G := G) (e := e) (σ := σ) (w := w) h
   exact ⟨_, _, h1, h2, by simp [ho, hx.dint, Op.unary, Op.intArith]⟩
  ·rename_i k a heq; rw [heq] at hx
   exact ⟨_, _, h, .mkint, by simp [ho, hx.dint, Op.unary, run_bits]⟩
  ·exact h.elim
 ·rename_i s d x ho
  have hx := hρ x
  split at h
  ·exact h.elim
  ·rename_i el hk
   obtain ⟨i, ds, z, hi, hd, hs, hby, hkd, hz, hz2, _⟩ := (hT.get (t := s) (by rw [hk]; simp)).ex
   rw [hk] at hkd; cases hkd
   split at h
   ·rename_i hk2
    obtain ⟨i2, dd, z2, hi2, hd2, hs2, hby2, hkd2, hz2, hz22, _⟩ := (hT.get (t := d) (by rw [hk2]; simp)).ex
    rw [hk2] at hkd2; cases hkd2
    split at h
    ·rename_i hk3
     obtain ⟨i3, de, z3, hi3, hd3, hs3, hby3, hkd3, hz3, hz33, _⟩ := (hT.get (t := el) (by rw [hk3]; simp)).ex
     rw [hk3] at hkd3; cases hkd3
     split at h
     ·rename_i rows hrows
      obtain ⟨l, rfl, hK⟩ := h
      have hD := toD_rel hrows hx
      have hb := bytes_sound (G := G) hD
      refine ⟨_, _, hK, .mkstr, ?_⟩
      obtain ⟨a, cap, hv, _⟩ := hD.sl_inv
      simp only [ho, convert, Sem.run_bind, run_underlying' hd, run_underlying' hd2, Result.andThen]
      rw [hv] at hb ⊢
      simp only [run_underlying' hd3, Sem.run_bind, Result.andThen, hb, Sem.run_pure]
     ·exact h.elim
    ·exact h.elim
   ·exact h.elim
  ·rename_i hk1 hk2
   obtain ⟨i, ds, z, hi, hd, hs, hby, hkd, hz, hz2, _⟩ := (hT.get (t := s) (fun h0 => hk1 h0)).ex
   split at h
   ·rename_i k hkk
    obtain ⟨i2, dd, z2, hi2, hd2, hs2, hby2, hkd2, hz2, hz22, _⟩ := (hT.get (t := d) (by rw [hkk]; simp)).ex
    rw [hkk] at hkd2; cases hkd2
    split at h
    ·rename_i k' n heq; rw [heq] at hx
     obtain ⟨pv, h1, h2⟩ := wrapK_sound (G := G) (e := e) (σ := σ) (w := w) h
     refine ⟨_, _, h1, h2, ?_⟩
     simp only [ho, hx.dint, convert, Sem.run_bind, run_underlying' hd, run_underlying' hd2, Result.andThen]
     rfl
    ·exact h.elim
   ·rename_i hkk
    obtain ⟨i2, dd, z2, hi2, hd2, hs2, hby2, hkd2, hz2, hz22, _⟩ := (hT.get (t := d) (by rw [hkk]; simp)).ex
    rw [hkk] at hkd2; cases hkd2
    split at h
    ·rename_i s' heq; rw [heq] at hx
     refine ⟨_, _, h, .mkstr, ?_⟩
     simp only [ho, hx.dstr, convert, Sem.run_bind, run_underlying' hd, run_underlying' hd2, Result.andThen]
     rfl
    ·rename_i k' n heq; rw [heq] at hx
     refine ⟨_, _, h, .mkstr, ?_⟩
     simp only [ho, hx.dint, convert, Sem.run_bind, run_underlying' hd, run_underlying' hd2, Result.andThen]
     simp [Conv.intToString]
    ·exact h.elim
   ·exact h.elim
 ·rename_i s x i ho
  have hx := hρ x
  split at h
  ·rename_i fs hk
   obtain ⟨ti, d, z, hi, hd, hs, hby, hkd, hz, hz2, _⟩ := (hT.get (t := s) (by rw [hk]; simp)).ex
   rw [hk] at hkd
   obtain ⟨gs, rfl, hf⟩ := hkd
   split at h
   ·rename_i off t hfi
    obtain ⟨f, j, hg, ho', ht, hj, hjs⟩ := hf.get hfi
    have hg' : gs[i]? = some f := by simpa using hg
    have hfp : ∀ (b oo : Nat), (fieldPlace ⟨b, oo, none⟩ f).run G.P w = .ok ⟨b, oo + off, none⟩ w := fun b oo => by
     have hft : G.P.info? f.type = some j := by rw [ht]; exact hj
     have : j.size ≠ 0 := by omega
     simp [fieldPlace, run_sizeOf' hft, this, add_addr, ho']
    split at h
    ·rename_i b oo heq; rw [heq] at hx
     generalize hv : ρ' x = v at hx
     cases hx with
     | ptr b oo hb =>
      refine ⟨_, _, h, .ptr b (oo + off) hb, ?_⟩
      simp [ho, hv, Instr.fieldAt, run_underlying' hd, hg', Instr.sureAddr, hfp]
    ·rename_i r oo heq; rw [heq] at hx
     generalize hv : ρ' x = v at hx
     cases hx with
     | elem r oo b o2 u hc hok hu =>
      refine ⟨_, _, h, .elem r (oo + off) b o2 u hc hok hu, ?_⟩
      simp [ho, hv, Instr.fieldAt, run_underlying' hd, hg', Instr.sureAddr, hfp, Nat.add_assoc]
    ·exact h.elim
   ·exact h.elim
  ·exact h.elim
 ·rename_i s x i ho
  have hx := hρ x
  split at h
  ·rename_i fs hk
   obtain ⟨ti, d, z, hi, hd, hs, hby, hkd, hz, hz2, _⟩ := (hT.get (t := s) (by rw [hk]; simp)).ex
   rw [hk] at hkd
   obtain ⟨gs, rfl, hf⟩ := hkd
   split at h
   ·rename_i off t hfi
    obtain ⟨f, j, hg, ho', ht, hj, hjs⟩ := hf.get hfi
    have hg' : gs[i]? = some f := by simpa using hg
    split at h
    ·rename_i cs heq; rw [heq] at hx
     generalize hv : ρ' x = v at hx
     cases hx with
     | agg cs vs hsz hr h1 =>
      split at h
      ·rename_i hka
       obtain ⟨i2, d2, z2, hi2, hd2, hs2, _, hkd2, _, _, _⟩ := (hT.get (t := t) (by intro h0; rw [h0] at hka; cases hka)).ex
       split at h
       ·rename_i l hl
        obtain ⟨hll, hlg⟩ := takeN_spec hl
        have hb : ∀ k, k < l.length → off + k < vs.size ∧ cs[off + k]? = l[k]? := fun k hk => by
         have h2 := hlg k (by omega)
         rw [List.getElem?_drop, List.getElem?_eq_getElem hk] at h2
         have := (List.getElem?_eq_some_iff.1 h2).1
         exact ⟨by rw [hsz]; exact this, by rw [h2, List.getElem?_eq_getElem hk]⟩
        refine ⟨_, .agg (vs.extract off (off + j.size)), h, .agg l _ ?_ ?_ ?_, ?_⟩
        ·have hj2 : j.size = l.length := by rw [hj] at hi2; cases hi2; omega
         simp only [Array.size_extract, hj2]
         by_cases hl0 : l.length = 0
         ·omega
         ·have := (hb (l.length - 1) (by omega)).1; omega
        ·intro k y u hy hu
         have hk : k < l.length := (List.getElem?_eq_some_iff.1 hy).1
         rw [Array.getElem?_extract] at hu
         split at hu
         ·exact hr (off + k) y u (by rw [(hb k hk).2]; exact hy) hu
         ·cases hu
        ·intro u hu
         obtain ⟨k, hk, rfl⟩ := Array.getElem_of_mem hu
         rw [Array.getElem_extract]
         exact h1 _ (Array.getElem_mem _)
        ·have hia := isAgg_of hkd2 hd2 w
         rw [hka] at hia
         subst ht
         simp [ho, hv, Instr.field, run_underlying' hd, hg', asAgg, part, hia, run_sizeOf' hj, ho']
       ·exact h.elim
      ·rename_i hka
       split at h
       ·exact h.elim
       ·rename_i hk2
        obtain ⟨i2, d2, z2, hi2, hd2, hs2, _, hkd2, _, _, _⟩ := (hT.get (t := t) (fun h0 => hk2 h0)).ex
        split at h
        ·rename_i y hy
         have hlt : off < vs.size := by rw [hsz]; exact (List.getElem?_eq_some_iff.1 hy).1
         have hvo : vs[off]? = some vs[off] := Array.getElem?_eq_getElem hlt
         have hia := isAgg_of hkd2 hd2 w
         rw [hka] at hia
         subst ht
         exact ⟨_, vs[off], h, hr off y _ hy hvo, by simp [ho, hv, Instr.field, run_underlying' hd, hg', asAgg, part, hia, ho', hvo]⟩
        ·exact h.elim
    ·exact h.elim
   ·exact h.elim
  ·exact h.elim
 ·rename_i t x i ho
  have hx := hρ x
  have hi := hρ i
  split at h
  ·rename_i k n heq; rw [heq] at hi
   have hiv := hi.dint
   split at h
   ·rename_i hk
    obtain ⟨ti, d, z, hti, hd, hs, hby, hkd, hz, hz2, _⟩ := (hT.get (t := t) (by rw [hk]; simp)).ex
    rw [hk] at hkd; cases hkd
    split at h
    ·rename_i s heq2; rw [heq2] at hx
     have hxv := hx.dstr
     obtain ⟨h0, h1, hK⟩ := h
     have hlt : n.toNat < s.length := by omega
     have hb : (⟨s.toArray⟩ : ByteArray)[n.toNat]? = some (s[n.toNat]) := by
      rw [getElem?_pos (h := (by show n.toNat < s.length; exact hlt))]
      rfl
     refine ⟨_, _, hK, .mkint, ?_⟩
     simp [ho, hxv, hiv, Instr.index, asInt_int, run_underlying' hd, h0, hb, List.getD, List.getElem?_eq_getElem hlt]
    ·exact h.elim
   ·rename_i m el hk
    obtain ⟨ti, d, z, hti, hd, hs, hby, hkd, hz, hz2, _⟩ := (hT.get (t := t) (by rw [hk]; simp)).ex
    rw [hk] at hkd; cases hkd
    split at h
    ·rename_i cs heq2; rw [heq2] at hx
     generalize hv : ρ' x = v at hx
     cases hx with
     | agg cs vs hsz hr h1 =>
      split at h
      ·rename_i hka
       obtain ⟨i2, d2, z2, hi2, hd2, hs2, _, hkd2, _, _, _⟩ := (hT.get (t := el) (by intro h0; rw [h0] at hka; cases hka)).ex
       split at h
       ·rename_i l hl
        obtain ⟨g0, g1, h⟩ := h
        obtain ⟨hll, hlg⟩ := takeN_spec hl
        obtain ⟨off, hoff⟩ : ∃ off, off = n.toNat * (T.get el).size := ⟨_, rfl⟩
        rw [← hoff] at hlg
        have hb : ∀ k, k < l.length → off + k < vs.size ∧ cs[off + k]? = l[k]? := fun k hk => by
         have h2 := hlg k (by omega)
         rw [List.getElem?_drop, List.getElem?_eq_getElem hk] at h2
         have := (List.getElem?_eq_some_iff.1 h2).1
         exact ⟨by rw [hsz]; exact this, by rw [h2, List.getElem?_eq_getElem hk]⟩
        refine ⟨_, .agg (vs.extract off (off + i2.size)), h, .agg l _ ?_ ?_ ?_, ?_⟩
        ·have hj2 : i2.size = l.length := by omega
         simp only [Array.size_extract, hj2]
         by_cases hl0 : l.length = 0
         ·have := hs2; have hsz1 : 1 ≤ l.length ∨ l.length = 0 := by omega
          have hle : off ≤ vs.size ∨ vs.size < off := by omega
          omega
         ·have := (hb (l.length - 1) (by omega)).1; omega
        ·intro k y u hy hu
         have hk : k < l.length := (List.getElem?_eq_some_iff.1 hy).1
         rw [Array.getElem?_extract] at hu
         split at hu
         ·exact hr (off + k) y u (by rw [(hb k hk).2]; exact hy) hu
         ·cases hu
        ·intro u hu
         obtain ⟨k, hk, rfl⟩ := Array.getElem_of_mem hu
         rw [Array.getElem_extract]
         exact h1 _ (Array.getElem_mem _)
        ·have hia := isAgg_of hkd2 hd2 w
         rw [hka] at hia
         simp [ho, hv, hiv, Instr.index, asInt_int, run_underlying' hd, g0, g1, part, hia, run_sizeOf' hi2, hoff, hs2]
       ·exact h.elim
      ·rename_i hka
       split at h
       ·exact h.elim
       ·rename_i hk2
        obtain ⟨i2, d2, z2, hi2, hd2, hs2, _, hkd2, _, _, _⟩ := (hT.get (t := el) (fun h0 => hk2 h0)).ex
        split at h
        ·rename_i hsz1
         have hs1 := Nat.eq_of_beq_eq_true hsz1
         split at h
         ·rename_i y hy
          obtain ⟨h0, hm, hK⟩ := h
          have hlt : n.toNat < vs.size := by rw [hsz]; exact (List.getElem?_eq_some_iff.1 hy).1
          have hvo : vs[n.toNat]? = some vs[n.toNat] := Array.getElem?_eq_getElem hlt
          have hia := isAgg_of hkd2 hd2 w
          rw [hka] at hia
          have hi1 : i2.size = 1 := by omega
          exact ⟨_, vs[n.toNat], hK, hr n.toNat y _ hy hvo, by simp [ho, hv, hiv, Instr.index, asInt_int, run_underlying' hd, h0, hm, part, hia, run_sizeOf' hi2, hi1, hvo]⟩
         ·exact h.elim
        ·exact h.elim
    ·exact h.elim
   ·exact h.elim
  ·exact h.elim
 ·rename_i t x i ho
  have hx := hρ x
  have hi := hρ i
  split at h
  ·rename_i k n heq; rw [heq] at hi
   have hiv := hi.dint
   split at h
   ·rename_i el hk
    obtain ⟨ti, d, z, hti, hd, hs, hby, hkd, hz, hz2, _⟩ := (hT.get (t := t) (by rw [hk]; simp)).ex
    rw [hk] at hkd; cases hkd
    split at h
    ·exact h.elim
    ·rename_i hk2
     obtain ⟨i2, d2, z2, hi2, hd2, hs2, _, hkd2, _, _, _⟩ := (hT.get (t := el) (fun h0 => hk2 h0)).ex
     split at h
     ·rename_i b off m heqx
      obtain ⟨h0, hn', hK⟩ := h
      rw [heqx] at hx
      generalize hv : ρ' x = vx at hx
      cases hx with
      | asl _ _ _ hb =>
       refine ⟨_, _, hK, .ptr b (off + n.toNat * (T.get el).size) hb, ?_⟩
       simp [ho, hv, hiv, Instr.indexAt, asInt_int, run_underlying' hd, h0, hn', run_sizeOf' hi2, add_addr, hs2]
     split at h
     ·rename_i rows hrows
      obtain ⟨r, h0, hr, hK⟩ := h
      split at hK
      ·rename_i hlen
       have hl := Nat.eq_of_beq_eq_true hlen
       obtain ⟨b, off, cap, u, hv, hn, hc, hok, hu⟩ := VRel.elems (toD_rel hrows hx) hr
       refine ⟨_, _, hK, .elem r 0 b (off + n.toNat * r.length) u hc hok hu, ?_⟩
       have hn' : n < (rows.length : Int) := by omega
       simp [ho, hv, hiv, Instr.indexAt, asInt_int, run_underlying' hd, h0, hn', run_sizeOf' hi2, add_addr, hs2, hl]
      ·exact hK.elim
     ·exact h.elim
   ·rename_i m el hk
    obtain ⟨ti, d, z, hti, hd, hs, hby, hkd, hz, hz2, _⟩ := (hT.get (t := t) (by rw [hk]; simp)).ex
    rw [hk] at hkd; cases hkd
    split at h
    ·exact h.elim
    ·rename_i hk2
     obtain ⟨i2, d2, z2, hi2, hd2, hs2, _, hkd2, _, _, _⟩ := (hT.get (t := el) (fun h0 => hk2 h0)).ex
     split at h
     ·rename_i b off heqx
      obtain ⟨h0, hn', hK⟩ := h
      rw [heqx] at hx
      generalize hv : ρ' x = vx at hx
      cases hx with
      | ptr _ _ hb =>
       refine ⟨_, _, hK, .ptr b (off + n.toNat * (T.get el).size) hb, ?_⟩
       simp [ho, hv, hiv, Instr.indexAt, Instr.sureAddr, asInt_int, run_underlying' hd, h0, hn', run_sizeOf' hi2, add_addr, hs2]
     ·exact h.elim
   ·exact h.elim
  ·exact h.elim
 ·rename_i t x lo hi ho
  obtain ⟨pv, u, hK, hr, hrun⟩ := slice_sound hT (hρ x) hρ h
  exact ⟨pv, u, hK, hr, by simp only [ho, Option.map_none, Sem.run_bind, hrun, Result.andThen, Sem.run_pure]⟩
 ·rename_i x i ho
  have hx := hρ x
  split at h
  ·rename_i cs heq; rw [heq] at hx
   generalize hv : ρ' x = v at hx
   cases hx with
   | tuple cs vs hsz hr =>
    split at h
    ·rename_i y hy
     have hlt : i < vs.size := by rw [hsz]; exact (List.getElem?_eq_some_iff.1 hy).1
     have hvo : vs[i]? = some vs[i] := Array.getElem?_eq_getElem hlt
     exact ⟨_, vs[i], h, hr i y _ hy hvo, by simp [ho, hv, Instr.extract, hvo]⟩
    ·exact h.elim
  ·exact h.elim
 ·rename_i g a c ho
  refine ⟨_, _, h, .func g _ _ (a.map ρ') (c.map ρ') (by simp) (by simp) ?_ ?_, by simp [ho, Instr.makeFunc]⟩
  ·intro i x u hx hu
   rw [List.getElem?_map] at hx
   rw [Array.getElem?_map] at hu
   cases hq : a[i]? with
   | none => rw [hq] at hu; cases hu
   | some q =>
    rw [hq] at hu
    rw [Array.getElem?_toList, hq] at hx
    cases hx; cases hu; exact hρ q
  ·intro i x u hx hu
   rw [List.getElem?_map] at hx
   rw [Array.getElem?_map] at hu
   cases hq : c[i]? with
   | none => rw [hq] at hu; cases hu
   | some q =>
    rw [hq] at hu
    rw [Array.getElem?_toList, hq] at hx
    cases hx; cases hu; exact hρ q
 ·rename_i t x ho
  split at h
  ·exact h.elim
  ·exact h.elim
  ·rename_i hk1 hk2
   obtain ⟨ti, d, z, hti, hd, hs, hby, hkd, hz, hz2, _⟩ := (hT.get (t := t) (fun h0 => hk2 h0)).ex
   refine ⟨_, _, h, .iface t _ _ (hρ x), ?_⟩
   have : ∀ ms, d ≠ .interface ms := fun ms h0 => by
    subst h0
    cases hk : (T.get t).kind <;> rw [hk] at hkd <;> first | (cases hkd; done) | (exact hk1 hk) | (obtain ⟨_, h1, _⟩ := hkd; cases h1; done) | (obtain ⟨_, _, _, h1⟩ := hkd; cases h1; done)
   simp only [ho, Instr.makeInterface, Sem.run_bind, run_underlying' hd, Result.andThen]
   cases d <;> first | rfl | exact absurd rfl (this _)
 ·rename_i x xt t ho
  split at h
  ·exact h.elim
  ·exact h.elim
  ·rename_i hk1 hk2
   obtain ⟨ti, d, z, hti, hd, hs, hby, hkd, hz, hz2, _⟩ := (hT.get (t := t) (fun h0 => hk2 h0)).ex
   have this : ∀ ms, d ≠ .interface ms := fun ms h0 => by
    subst h0
    cases hk : (T.get t).kind <;> rw [hk] at hkd <;> first | (cases hkd; done) | (exact hk1 hk) | (obtain ⟨_, h1, _⟩ := hkd; cases h1; done) | (obtain ⟨_, _, _, h1⟩ := hkd; cases h1; done)
   have hx := hρ x
   split at h
   ·rename_i t' pv heq
    split at h
    ·rename_i hb
     cases Nat.eq_of_beq_eq_true hb
     rw [heq] at hx
     generalize hv : ρ' x = vv at hx
     cases hx with
     | iface _ _ u hu =>
      refine ⟨_, .tuple #[u, .bool true], h, .tuple _ _ rfl (fun i p q hp hq => ?_), ?_⟩
      ·match i with
       | 0 => cases hp; cases hq; exact hu
       | 1 => cases hp; cases hq; exact .mkbool
       | n + 2 => simp at hp
      ·simp only [ho, hv, Instr.typeAssert, Sem.run_bind, run_underlying' hd, Result.andThen]
       cases d <;> first | exact absurd rfl (this _) | simp
    ·exact h.elim
   ·exact h.elim
 ·rename_i b args argTypes ho
  have hargs : ∀ vs, args.toList.map ρ = vs → ∃ us : List Value, (args.map ρ').toList = us ∧ us.length = vs.length ∧ ∀ (i : Nat) (x : PV) (u : Value), vs[i]? = some x → us[i]? = some u → VRel G e σ w x u := fun vs hvs => by
   refine ⟨_, rfl, by rw [← hvs]; simp, fun i x u hx hu => ?_⟩
   rw [← hvs, List.getElem?_map] at hx
   rw [Array.toList_map, List.getElem?_map] at hu
   cases hq : args.toList[i]? with
   | none => rw [hq] at hx; cases hx
   | some q => rw [hq] at hx hu; cases hx; cases hu; exact hρ q
  split at h
  ·rename_i t ts v hts hvs
   obtain ⟨us, hus, hlen, hr⟩ := hargs _ hvs
   have hat : argTypes[0]? = some t := by rw [← Array.getElem?_toList, hts]; rfl
   cases us with
   | nil => cases hlen
   | cons u us2 =>
    cases us2 with
    | cons _ _ => simp at hlen
    | nil =>
     have hu := hr 0 v u rfl rfl
     have ha0 : (args.map ρ')[0]? = some u := by rw [← Array.getElem?_toList, hus]; rfl
     split at h
     ·rename_i hk
      obtain ⟨ti, d, z, hti, hd, hs, hby, hkd, hz, hz2, _⟩ := (hT.get (t := t) (by rw [hk]; simp)).ex
      rw [hk] at hkd; cases hkd
      split at h
      ·rename_i s
       have hus := hu.dstr
       subst hus
       refine ⟨_, _, h, .mkint, ?_⟩
       simp only [ho, resolve, invoke, builtin, Sem.run_bind, Sem.run_pure, Result.andThen, Builtin.len_, hat, ha0, run_underlying' hd]
       rfl
      ·exact h.elim
     ·rename_i el hk
      obtain ⟨ti, d, z, hti, hd, hs, hby, hkd, hz, hz2, _⟩ := (hT.get (t := t) (by rw [hk]; simp)).ex
      rw [hk] at hkd; cases hkd
      split at h
      ·rename_i b off m
       cases hu with
       | asl _ _ _ hb =>
        refine ⟨_, _, h, .mkint, ?_⟩
        simp only [ho, resolve, invoke, builtin, Sem.run_bind, Sem.run_pure, Result.andThen, Builtin.len_, hat, ha0, run_underlying' hd]
        rfl
      split at h
      ·rename_i rows hrows
       obtain ⟨a, cap, hv, _⟩ := (toD_rel hrows hu).sl_inv
       subst hv
       refine ⟨_, _, h, .mkint, ?_⟩
       simp only [ho, resolve, invoke, builtin, Sem.run_bind, Sem.run_pure, Result.andThen, Builtin.len_, hat, ha0, run_underlying' hd]
       rfl
      ·exact h.elim
     ·exact h.elim
  ·rename_i k a k' b hvs
   obtain ⟨us, hus, hlen, hr⟩ := hargs _ hvs
   split at h
   ·rename_i hkk
    cases keq_eq hkk
    match us, hlen with
    | [u1, u2], _ =>
     have h1 := (hr 0 _ u1 rfl rfl).dint
     have h2 := (hr 1 _ u2 rfl rfl).dint
     subst h1; subst h2
     refine ⟨_, _, h, .mkint, ?_⟩
     simp only [ho, resolve, invoke, builtin, Sem.run_bind, Sem.run_pure, Result.andThen, Builtin.min_, hus]
     have : min a b = (if b < a then b else a) := by split <;> omega
     rw [this]
     rfl
   ·exact h.elim
  ·rename_i k a k' b hvs
   obtain ⟨us, hus, hlen, hr⟩ := hargs _ hvs
   split at h
   ·rename_i hkk
    cases keq_eq hkk
    match us, hlen with
    | [u1, u2], _ =>
     have h1 := (hr 0 _ u1 rfl rfl).dint
     have h2 := (hr 1 _ u2 rfl rfl).dint
     subst h1; subst h2
     refine ⟨_, _, h, .mkint, ?_⟩
     simp only [ho, resolve, invoke, builtin, Sem.run_bind, Sem.run_pure, Result.andThen, Builtin.max_, hus]
     have : max a b = (if b > a then b else a) := by split <;> omega
     rw [this]
     rfl
   ·exact h.elim
  ·exact h.elim
 ·exact h.elim
end
end Go.PM
end

section
namespace Go.PM
section
variable {G : GE} {e : Env} {σ : St} {w : World} {T : Tab}
structure Grows (w w1 : World) : Prop where
 os : w1.os = w.os
 tape : w1.tape = w.tape
 output : w1.output = w.output
 size : w.heap.size ≤ w1.heap.size
 old : ∀ b, b < w.heap.size → w1.heap[b]? = w.heap[b]?
theorem Grows.refl (w : World) : Grows w w := ⟨rfl, rfl, rfl, Nat.le_refl _, fun _ _ => rfl⟩
theorem Grows.trans {a b c : World} (h : Grows a b) (k : Grows b c) : Grows a c :=
 ⟨k.os.trans h.os, k.tape.trans h.tape, k.output.trans h.output, Nat.le_trans h.size k.size, fun i hi => (k.old i (Nat.lt_of_lt_of_le hi h.size)).trans (h.old i hi)⟩
theorem Grows.alloc (w : World) (o : Obj) : Grows w (w.alloc o) := ⟨rfl, rfl, rfl, by simp only [World.alloc, Array.size_push]; omega, fun i hi => heap_alloc_old w o i hi⟩
theorem Grows.drew (w : World) : Grows w w.drew := ⟨rfl, rfl, rfl, Nat.le_refl _, fun _ _ => rfl⟩
theorem Grows.cell {w w1 : World} (h : Grows w w1) {b off : Nat} (hb : b < w.heap.size) : w1.cell? ⟨b, off, none⟩ = w.cell? ⟨b, off, none⟩ := by simp [World.cell?, h.old b hb]
theorem Grows.stepped {w1 : World} (h : Grows w w1) (e : Env) (σ : St) : Stepped e σ w e σ w1 where
 len := Nat.le_refl _
 beta := fun _ _ => rfl
 X := rfl
 pres := fun b off u hc ho => ⟨ho, (h.cell (cell_lt hc)).trans hc⟩
 blocks := fun b hb _ _ => h.old b hb
 size := h.size
 os := h.os
 tape := h.tape
 output := h.output
 fresh := fun i h1 h2 => by omega
 ftok := fun t ht p hp => .inr ⟨t, ht, p, hp, rfl⟩
 nx := Nat.le_refl _
 toks := fun _ _ ht => ⟨ht, rfl⟩
 own := fun _ _ _ _ _ hp => h.old _ hp
theorem SRel.grow (hS : SRel G e σ w) {w1 : World} (h : Grows w w1) : SRel G e σ w1 where
 inj := hS.inj
 box := fun i x hx => (hS.box i x hx).step (h.stepped e σ) (h.old _ (hS.lt (List.getElem?_eq_some_iff.1 hx).1))
 low := hS.low
 tkn := hS.tkn
 own := fun t ht p hp => by
  obtain ⟨h1, h2, cs, ty, fz, h3⟩ := hS.own t ht p hp
  exact ⟨h1, h2, cs, ty, fz, (h.old _ (Array.getElem?_eq_some_iff.1 h3).1).trans h3⟩
 dis := hS.dis
 xown := hS.xown
 xlt := fun b off hx => Nat.lt_of_lt_of_le (hS.xlt b off hx) h.size
 glob := fun b hb => (h.old b (Nat.lt_of_lt_of_le hb hS.big)).trans (hS.glob b hb)
 big := Nat.le_trans hS.big h.size
def Env.more (e : Env) (n b : Nat) : Env := { e with β := fun i => if i = n then b else e.β i }
theorem St.new_len (σ : St) (x : Box) : (σ.new x).bx.length = σ.bx.length + 1 := by simp [St.new]
theorem alloc_box (hS : SRel G e σ w) (x : Box) (ob : Obj) (hob : ∀ e1 σ1 w1, Stepped e σ w e1 σ1 w1 → w1.heap[w.heap.size]? = some ob → BRel G e1 σ1 w1 x w.heap.size) :
  Stepped e σ w (e.more σ.bx.length w.heap.size) (σ.new x) (w.alloc ob) ∧ SRel G (e.more σ.bx.length w.heap.size) (σ.new x) (w.alloc ob) ∧
   VRel G (e.more σ.bx.length w.heap.size) (σ.new x) (w.alloc ob) (.ptr σ.bx.length 0) (.pointer (some ⟨w.heap.size, 0, none⟩)) := by
 have hg := Grows.alloc w ob
 have hβ : ∀ i, i < σ.bx.length → (e.more σ.bx.length w.heap.size).β i = e.β i := fun i hi => by simp only [Env.more]; rw [if_neg (by omega)]
 have hβn : (e.more σ.bx.length w.heap.size).β σ.bx.length = w.heap.size := by simp [Env.more]
 have hst : Stepped e σ w (e.more σ.bx.length w.heap.size) (σ.new x) (w.alloc ob) := {
  len := by rw [St.new_len]; omega
  beta := hβ
  X := rfl
  pres := fun b off u hc ho => ⟨⟨ho.1, fun i hi => by
    have hb := cell_lt hc
    rw [St.new_len] at hi
    by_cases h : i = σ.bx.length
    ·rw [h, hβn]; omega
    ·rw [hβ i (by omega)]; exact ho.2.1 i (by omega), ho.2.2⟩, (hg.cell (cell_lt hc)).trans hc⟩
  blocks := fun b hb _ _ => hg.old b hb
  size := hg.size
  os := rfl
  tape := rfl
  output := rfl
  fresh := fun i h1 h2 => by
   rw [St.new_len] at h2
   rw [show i = σ.bx.length by omega, hβn]; exact Nat.le_refl _
  ftok := fun t ht p hp => .inr ⟨t, ht, p, hp, rfl⟩
  nx := Nat.le_refl _
  toks := fun _ _ ht => ⟨ht, rfl⟩
  own := fun _ _ _ _ _ hp => hg.old _ hp }
 refine ⟨hst, ?_, ?_⟩
 ·exact {
   inj := fun i j hi hj hij => by
    rw [St.new_len] at hi hj
    by_cases h1 : i = σ.bx.length <;> by_cases h2 : j = σ.bx.length
    ·omega
    ·rw [h1, hβn, hβ j (by omega)] at hij
     have := hS.lt (i := j) (by omega); omega
    ·rw [h2, hβn, hβ i (by omega)] at hij
     have := hS.lt (i := i) (by omega); omega
    ·rw [hβ i (by omega), hβ j (by omega)] at hij
     exact hS.inj i j (by omega) (by omega) hij
   box := fun i y hy => by
    have hi := (List.getElem?_eq_some_iff.1 hy).1
    rw [St.new_len] at hi
    by_cases h1 : i = σ.bx.length
    ·subst h1
     rw [hβn]
     simp [St.new] at hy
     subst hy
     exact hob _ _ _ hst (heap_alloc_new w ob)
    ·have hi' : i < σ.bx.length := by omega
     rw [hβ i hi']
     simp only [St.new, List.getElem?_append_left hi'] at hy
     exact (hS.box i y hy).step hst (hg.old _ (hS.lt hi'))
   low := fun i hi => by
    rw [St.new_len] at hi
    by_cases h1 : i = σ.bx.length
    ·rw [h1, hβn]; exact hS.big
    ·rw [hβ i (by omega)]; exact hS.low i (by omega)
   tkn := hS.tkn
   own := fun t ht p hp => by
    obtain ⟨h1, h2, cs, ty, fz, h3⟩ := hS.own t ht p hp
    have hlt := (Array.getElem?_eq_some_iff.1 h3).1
    refine ⟨h1, fun i hi => ?_, cs, ty, fz, (hg.old _ hlt).trans h3⟩
    rw [St.new_len] at hi
    by_cases h4 : i = σ.bx.length
    ·rw [h4, hβn]; omega
    ·rw [hβ i (by omega)]; exact h2 i (by omega)
   dis := hS.dis
   xown := hS.xown
   xlt := fun b off hx => Nat.lt_of_lt_of_le (hS.xlt b off hx) hg.size
   glob := fun b hb => (hg.old b (Nat.lt_of_lt_of_le hb hS.big)).trans (hS.glob b hb)
   big := Nat.le_trans hS.big hg.size }
 ·have := VRel.ptr (G := G) (e := e.more σ.bx.length w.heap.size) (σ := σ.new x) (w := w.alloc ob) σ.bx.length 0 (by rw [St.new_len]; omega)
  rwa [hβn] at this
theorem alloc_cells (hS : SRel G e σ w) (t : TypeId) (cs : List PV) (vs : Array Value) (hs : vs.size = cs.length) (hr : ∀ (i : Nat) (x : PV) (u : Value), cs[i]? = some x → vs[i]? = some u → VRel G e σ w x u ∧ u.oneCell' = true) :
  Stepped e σ w (e.more σ.bx.length w.heap.size) (σ.new (.cells t cs)) (w.alloc (.cells vs t)) ∧ SRel G (e.more σ.bx.length w.heap.size) (σ.new (.cells t cs)) (w.alloc (.cells vs t)) ∧
   VRel G (e.more σ.bx.length w.heap.size) (σ.new (.cells t cs)) (w.alloc (.cells vs t)) (.ptr σ.bx.length 0) (.pointer (some ⟨w.heap.size, 0, none⟩)) :=
 alloc_box hS (.cells t cs) (.cells vs t) (fun _ _ _ hst hh => ⟨vs, hh, hs, fun i x u hx hu => ⟨(hr i x u hx hu).1.step hst, (hr i x u hx hu).2⟩⟩)
def Comes1 (P : Program) (ρ' : Operand → Value) (o : Oper) (w : World) (v : Value) (w1 : World) : Prop :=
 (execOp ρ' o).run P w = .ok (.value v) w1 ∨ ((execOp ρ' o).run P w = .ok .skip w1 ∧ v = Go.undef)
theorem heap_setCells_at (b : Nat) : ∀ (vs : List Value) (o : Nat) (w : World) (cs : Array Value) (ty : TypeId) (fz : Nat × Nat), w.heap[b]? = some (.cells cs ty fz) →
  ∃ cs', (w.setCells b o vs).heap[b]? = some (.cells cs' ty fz) ∧ cs'.size = cs.size ∧ ∀ i, cs'[i]? = if o ≤ i ∧ i < o + vs.length ∧ i < cs.size then vs[i - o]? else cs[i]?
 | [], o, w, cs, ty, fz, h => ⟨cs, h, rfl, fun i => by rw [if_neg]; simp; omega⟩
 | v :: vs, o, w, cs, ty, fz, h => by
  have h1 : (w.setCell ⟨b, o, none⟩ v).heap[b]? = some (.cells (cs.setIfInBounds o v) ty fz) := by
   simp [World.setCell, Array.getElem?_modify, h]
  obtain ⟨cs', h2, h3, h4⟩ := heap_setCells_at b vs (o + 1) _ _ ty fz h1
  refine ⟨cs', h2, by rw [h3]; simp, fun i => ?_⟩
  rw [h4]
  simp only [Array.size_setIfInBounds, List.length_cons, Array.getElem?_setIfInBounds]
  by_cases hi : o + 1 ≤ i ∧ i < o + 1 + vs.length ∧ i < cs.size
  ·rw [if_pos hi, if_pos ⟨by omega, by omega, by omega⟩, show i - o = (i - (o + 1)) + 1 by omega, List.getElem?_cons_succ]
  ·rw [if_neg hi]
   by_cases h5 : o = i
   ·subst h5
    by_cases h6 : o < cs.size
    ·rw [if_pos rfl, if_pos h6, if_pos ⟨by omega, by omega, h6⟩]; simp
    ·rw [if_pos rfl, if_neg h6, if_neg (by omega)]; simp [h6]
   ·rw [if_neg h5, if_neg (by omega)]
theorem size_setCells' (b : Nat) : ∀ (vs : List Value) (o : Nat) (w : World), (w.setCells b o vs).heap.size = w.heap.size
 | [], _, _ => rfl
 | v :: vs, o, w => by
  show ((w.setCell ⟨b, o, none⟩ v).setCells b (o + 1) vs).heap.size = _
  rw [size_setCells' b vs]
  simp [World.setCell]
theorem rest_setCells (b : Nat) : ∀ (vs : List Value) (o : Nat) (w : World), (w.setCells b o vs).os = w.os ∧ (w.setCells b o vs).tape = w.tape ∧ (w.setCells b o vs).output = w.output ∧ ∀ k, k ≠ b → (w.setCells b o vs).heap[k]? = w.heap[k]?
 | [], _, _ => ⟨rfl, rfl, rfl, fun _ _ => rfl⟩
 | v :: vs, o, w => by
  obtain ⟨h1, h2, h3, h4⟩ := rest_setCells b vs (o + 1) (w.setCell ⟨b, o, none⟩ v)
  exact ⟨h1, h2, h3, fun k hk => (h4 k hk).trans (RowKit.Below.heap_setCell w ⟨b, o, none⟩ v k hk)⟩
theorem store_sound (hT : TabOK T G.P) (hS : SRel G e σ w) {t : TypeId} {b off : Nat} {x : PV} {v : Value} {l cs : List PV} {ty : TypeId} (hb : σ.bx[b]? = some (.cells ty cs)) (hx : VRel G e σ w x v) (hl : x.cells = some l)
  (hlen : l.length = (T.get t).size) (hfit : off + l.length ≤ cs.length) (hk : (T.get t).kind ≠ .other) :
  ∃ w1, (Instr.storeAt t (.pointer (some ⟨e.β b, off, none⟩)) v).run G.P w = .ok () w1 ∧ Stepped e σ w e (σ.set b (.cells ty (setRange cs off l))) w1 ∧ SRel G e (σ.set b (.cells ty (setRange cs off l))) w1 := by
 obtain ⟨i, d, z, hi, hd, hs, hby, hkd, hz, hz2, _⟩ := (hT.get hk).ex
 have hbl : b < σ.bx.length := (List.getElem?_eq_some_iff.1 hb).1
 obtain ⟨vs, hv1, hv2, hv3⟩ := hS.box b _ hb
 obtain ⟨hc1, hc2⟩ := cells_rel hx hl
 have hvc : v.cells.toList.length = l.length := by simpa using hc1
 have hone : ∀ u ∈ v.cells.toList, u.oneCell' = true := fun u hu => by
  obtain ⟨j, hj, rfl⟩ := List.getElem_of_mem hu
  have h1 : j < l.length := by omega
  exact (hc2 j l[j] _ (List.getElem?_eq_getElem h1) (by rw [← Array.getElem?_toList, List.getElem?_eq_getElem hj])).2
 have hrun := run_storeCells_cells (P := G.P) (e.β b) off v.cells.toList 0 w (fun j hj => by
   have : off + j < vs.size := by omega
   simp [World.cell?, hv1, this]) (fun j hj => by simp [World.frozen?, hv1]) hone
 simp only [Nat.add_zero] at hrun
 obtain ⟨r1, r2, r3, r4⟩ := rest_setCells (e.β b) v.cells.toList off w
 obtain ⟨cs', h1, h2, h3⟩ := heap_setCells_at (e.β b) v.cells.toList off w vs ty (0, 0) hv1
 have hsl : (σ.set b (.cells ty (setRange cs off l))).bx.length = σ.bx.length := by simp [St.set]
 have hst : Stepped e σ w e (σ.set b (.cells ty (setRange cs off l))) (w.setCells (e.β b) off v.cells.toList) := {
  len := by rw [hsl]; exact Nat.le_refl _
  beta := fun _ _ => rfl
  X := rfl
  pres := fun k o u hk ho => ⟨⟨ho.1, fun j hj => ho.2.1 j (by rw [hsl] at hj; exact hj), ho.2.2⟩, by simpa [World.cell?, r4 k (fun h => ho.2.1 b hbl h.symm)] using hk⟩
  blocks := fun k hk hnb _ => r4 k (fun h => hnb b hbl h.symm)
  size := by rw [size_setCells']; exact Nat.le_refl _
  os := r1
  tape := r2
  output := r3
  fresh := fun i h1 h2 => by rw [hsl] at h2; omega
  ftok := fun t ht p hp => .inr ⟨t, ht, p, hp, rfl⟩
  nx := Nat.le_refl _
  toks := fun _ _ ht => ⟨ht, rfl⟩
  own := fun t' hn ht p hp hlt => r4 _ (fun h => (hS.own t' ht p hp).2.1 b hbl h.symm) }
 refine ⟨_, ?_, hst, ?_⟩
 ·have h1' : v.cells.size = i.size := by rw [hc1, hlen, hs]
  simp only [Instr.storeAt, Instr.sureAddr, storeVar, Sem.run_bind, Sem.run_pure, Result.andThen, run_sizeOf' hi]
  rw [if_neg (by rw [h1']; simp)]
  exact hrun
 ·exact {
   inj := fun i j hi hj => hS.inj i j (by rw [hsl] at hi; exact hi) (by rw [hsl] at hj; exact hj)
   box := fun k y hy => by
    by_cases hkb : k = b
    ·subst hkb
     have : y = .cells ty (setRange cs off l) := by
      simp only [St.set, List.getElem?_set_self hbl] at hy
      exact (Option.some.inj hy).symm
     subst this
     refine ⟨cs', h1, by rw [h2, hv2, setRange_length], fun j x u hx' hu => ?_⟩
     rw [setRange_get] at hx'
     rw [h3, hvc] at hu
     by_cases hin : off ≤ j ∧ j < off + l.length ∧ j < cs.length
     ·rw [if_pos hin] at hx'
      rw [if_pos ⟨hin.1, hin.2.1, by omega⟩, Array.getElem?_toList] at hu
      obtain ⟨q1, q2⟩ := hc2 _ x u hx' hu
      exact ⟨q1.step hst, q2⟩
     ·rw [if_neg hin] at hx'
      rw [if_neg (by omega)] at hu
      obtain ⟨q1, q2⟩ := hv3 j x u hx' hu
      exact ⟨q1.step hst, q2⟩
    ·have hy' : σ.bx[k]? = some y := by
      simp only [St.set] at hy
      rwa [List.getElem?_set_ne (fun h => hkb h.symm)] at hy
     have hkl := (List.getElem?_eq_some_iff.1 hy').1
     exact (hS.box k y hy').step hst (r4 _ (fun h => hkb (hS.inj k b hkl hbl h)))
   low := fun i hi => hS.low i (by rw [hsl] at hi; exact hi)
   tkn := hS.tkn
   own := fun t' ht p hp => by
    obtain ⟨q1, q2, cs2, ty2, fz2, q3⟩ := hS.own t' ht p hp
    refine ⟨q1, fun i hi => q2 i (by rw [hsl] at hi; exact hi), cs2, ty2, fz2, (r4 _ (fun h => q2 b hbl h.symm)).trans q3⟩
   dis := hS.dis
   xown := hS.xown
   xlt := fun k o hx => by rw [size_setCells']; exact hS.xlt k o hx
   glob := fun k hk => (r4 k (fun h => by have := hS.low b hbl; omega)).trans (hS.glob k hk)
   big := by rw [size_setCells']; exact hS.big }
theorem next_sound (hS : SRel G e σ w) {b : Nat} {s : List UInt8} {pos : Nat} (hb : σ.bx[b]? = some (.iter s pos)) (ty : TypeId) {K : PV → St → Prop}
  (h : CondP (decide (pos < s.length)) (K (.tuple [.d (.bool true), .d (.int .i64 pos), .d (.int .i32 (decodeL s pos).1)]) (σ.set b (.iter s (pos + (decodeL s pos).2)))) (K (.tuple [.d (.bool false)]) σ)) :
  ∃ pv σ1 v w1, K pv σ1 ∧ (Instr.next (.pointer (some ⟨e.β b, 0, none⟩)) true ty).run G.P w = .ok v w1 ∧ Stepped e σ w e σ1 w1 ∧ SRel G e σ1 w1 ∧ VRel G e σ1 w1 pv v := by
 have hbl : b < σ.bx.length := (List.getElem?_eq_some_iff.1 hb).1
 have hit : w.heap[e.β b]? = some (.stringIter ⟨s.toArray⟩ pos) := hS.box b _ hb
 by_cases hp : pos < s.length
 ·have : decide (pos < s.length) = true := by simp [hp]
  rw [this] at h
  refine ⟨_, _, _, _, h, Lib.run_next_any_at w (e.β b) ⟨s.toArray⟩ pos ty hit hp, ?_⟩
  have hsl : (σ.set b (.iter s (pos + (decodeL s pos).2))).bx.length = σ.bx.length := by simp [St.set]
  have hoth : ∀ k, k ≠ e.β b → (w.iterAt (e.β b) ⟨s.toArray⟩ (pos + (Utf8.decode ⟨s.toArray⟩ pos).2)).heap[k]? = w.heap[k]? := fun k hk => Lib.iterAt_other w (e.β b) k _ _ hk
  have hst : Stepped e σ w e (σ.set b (.iter s (pos + (decodeL s pos).2))) (w.iterAt (e.β b) ⟨s.toArray⟩ (pos + (Utf8.decode ⟨s.toArray⟩ pos).2)) := {
   len := by rw [hsl]; exact Nat.le_refl _
   beta := fun _ _ => rfl
   X := rfl
   pres := fun k o u hk ho => ⟨⟨ho.1, fun j hj => ho.2.1 j (by rw [hsl] at hj; exact hj), ho.2.2⟩, by simpa [World.cell?, hoth k (fun h => ho.2.1 b hbl h.symm)] using hk⟩
   blocks := fun k hk hnb _ => hoth k (fun h => hnb b hbl h.symm)
   size := by rw [Lib.iterAt_size]; exact Nat.le_refl _
   os := rfl
   tape := rfl
   output := rfl
   fresh := fun i h1 h2 => by rw [hsl] at h2; omega
   ftok := fun t ht p hp => .inr ⟨t, ht, p, hp, rfl⟩
   nx := Nat.le_refl _
   toks := fun _ _ ht => ⟨ht, rfl⟩
   own := fun t' hn ht p hp hlt => hoth _ (fun h => (hS.own t' ht p hp).2.1 b hbl h.symm) }
  refine ⟨hst, ?_, ?_⟩
  ·exact {
    inj := fun i j hi hj => hS.inj i j (by rw [hsl] at hi; exact hi) (by rw [hsl] at hj; exact hj)
    box := fun k y hy => by
     by_cases hkb : k = b
     ·subst hkb
      have : y = .iter s (pos + (decodeL s pos).2) := by
       simp only [St.set, List.getElem?_set_self hbl] at hy
       exact (Option.some.inj hy).symm
      subst this
      exact Lib.iterAt_heap w (e.β k) _ pos _ hit
     ·have hy' : σ.bx[k]? = some y := by
       simp only [St.set] at hy
       rwa [List.getElem?_set_ne (fun h => hkb h.symm)] at hy
      have hkl := (List.getElem?_eq_some_iff.1 hy').1
      exact (hS.box k y hy').step hst (hoth _ (fun h => hkb (hS.inj k b hkl hbl h)))
    low := fun i hi => hS.low i (by rw [hsl] at hi; exact hi)
    tkn := hS.tkn
    own := fun t' ht p hp => by
     obtain ⟨q1, q2, cs2, ty2, fz2, q3⟩ := hS.own t' ht p hp
     refine ⟨q1, fun i hi => q2 i (by rw [hsl] at hi; exact hi), cs2, ty2, fz2, (hoth _ (fun h => q2 b hbl h.symm)).trans q3⟩
    dis := hS.dis
    xown := hS.xown
    xlt := fun k o hx => by rw [Lib.iterAt_size]; exact hS.xlt k o hx
    glob := fun k hk => (hoth k (fun h => by have := hS.low b hbl; omega)).trans (hS.glob k hk)
    big := by rw [Lib.iterAt_size]; exact hS.big }
  ·refine .tuple _ _ rfl (fun i x u hx hu => ?_)
   match i with
   | 0 => cases hx; cases hu; exact .mkbool
   | 1 => cases hx; cases hu; exact .mkint
   | 2 => cases hx; cases hu; exact .mkint
   | n + 3 => cases hx
 ·have : decide (pos < s.length) = false := by simp [hp]
  rw [this] at h
  refine ⟨_, _, _, _, h, Lib.run_next_end_at w (e.β b) ⟨s.toArray⟩ pos ty hit hp, .refl _ _ _, hS, .tuple _ _ rfl (fun i x u hx hu => ?_)⟩
  match i with
  | 0 => cases hx; cases hu; exact .mkbool
  | n + 1 => cases hx
structure Flat (ok : Nat → Nat → Prop) (w : World) (rows : List (List D)) (sz : Nat) (xs : List Value) : Prop where
 len : xs.length = rows.length * sz
 wid : ∀ r ∈ rows, r.length = sz
 rel : ∀ (a b : Nat) (y : D) (u : Value), b < sz → (rows[a]?.bind (·[b]?)) = some y → xs[a * sz + b]? = some u → DRel ok w y u
theorem Flat.mono {ok ok' : Nat → Nat → Prop} {w w' : World} {rows : List (List D)} {sz : Nat} {xs : List Value} (h : Flat ok w rows sz xs) (hp : ∀ (y : D) (u : Value), DRel ok w y u → DRel ok' w' y u) : Flat ok' w' rows sz xs :=
 ⟨h.len, h.wid, fun a b y u hb hy hu => hp y u (h.rel a b y u hb hy hu)⟩
theorem Flat.nil (ok : Nat → Nat → Prop) (w : World) (sz : Nat) : Flat ok w [] sz [] := ⟨by simp, fun r h => (by cases h), fun a b y u _ hy => by simp at hy⟩
theorem Flat.append {ok : Nat → Nat → Prop} {w : World} {r1 r2 : List (List D)} {sz : Nat} {x1 x2 : List Value} (h1 : Flat ok w r1 sz x1) (h2 : Flat ok w r2 sz x2) : Flat ok w (r1 ++ r2) sz (x1 ++ x2) := by
 refine ⟨by rw [List.length_append, List.length_append, h1.len, h2.len, Nat.add_mul], fun r hr => ?_, fun a b y u hb hy hu => ?_⟩
 ·rcases List.mem_append.1 hr with h | h
  ·exact h1.wid r h
  ·exact h2.wid r h
 ·by_cases ha : a < r1.length
  ·rw [List.getElem?_append_left ha] at hy
   have hlt : a * sz + b < x1.length := by
    rw [h1.len]
    calc a * sz + b < a * sz + sz := by omega
     _ = (a + 1) * sz := by rw [Nat.add_mul, Nat.one_mul]
     _ ≤ r1.length * sz := Nat.mul_le_mul_right _ ha
   rw [List.getElem?_append_left hlt] at hu
   exact h1.rel a b y u hb hy hu
  ·have ha' : r1.length ≤ a := by omega
   rw [List.getElem?_append_right ha'] at hy
   have hge : x1.length ≤ a * sz + b := by
    rw [h1.len]
    exact Nat.le_trans (Nat.mul_le_mul_right _ ha') (Nat.le_add_right _ _)
   rw [List.getElem?_append_right hge, h1.len] at hu
   refine h2.rel (a - r1.length) b y u hb hy ?_
   rw [← hu]
   congr 1
   rw [Nat.sub_mul]
   have := Nat.mul_le_mul_right sz ha'
   omega
theorem Flat.of_sl {ok : Nat → Nat → Prop} {w : World} {rows : List (List D)} {b off cap sz : Nat} (hsz : ∀ r ∈ rows, r.length = sz) (hpos : 0 < sz) (h : DRel ok w (.sl rows) (.slice (some ⟨b, off, none⟩) rows.length cap)) :
  ∃ xs, Flat ok w rows sz xs ∧ (∀ (k : Nat) (u : Value), xs[k]? = some u → w.cell? ⟨b, off + k, none⟩ = some u) ∧ (∀ k, k < xs.length → ok b (off + k)) ∧ ∀ u ∈ xs, u.oneCell' = true := by
 cases h with
 | sl rows b off cap sz' u hcap hsz' hc ho hu =>
  by_cases hr : rows = []
  ·subst hr; exact ⟨[], .nil _ _ _, fun k u h => by simp at h, fun k h => by simp at h, fun u h => by cases h⟩
  ·have hss : sz' = sz := by
    cases rows with
    | nil => exact absurd rfl hr
    | cons r l => rw [← hsz' r (by simp), hsz r (by simp)]
   subst hss
   have hk : ∀ k, k < rows.length * sz' → k / sz' < rows.length ∧ k % sz' < sz' ∧ k / sz' * sz' + k % sz' = k := fun k hk =>
    ⟨(Nat.div_lt_iff_lt_mul hpos).2 hk, Nat.mod_lt _ hpos, by rw [Nat.mul_comm]; exact Nat.div_add_mod k sz'⟩
   have hrel : ∀ k, k < rows.length * sz' → ∃ y, (rows[k / sz']?.bind (·[k % sz']?)) = some y ∧ DRel ok w y (u (k / sz') (k % sz')) := fun k h => by
    obtain ⟨h1, h2, h3⟩ := hk k h
    have h4 : (rows[k / sz']).length = sz' := hsz' _ (List.getElem_mem _)
    have h5 : (rows[k / sz']?.bind (·[k % sz']?)) = some ((rows[k / sz'])[k % sz']) := by
     rw [List.getElem?_eq_getElem h1]; simp only [Option.bind_some]; rw [List.getElem?_eq_getElem (by omega)]
    exact ⟨_, h5, hu _ _ _ h5⟩
   refine ⟨(List.range (rows.length * sz')).map fun k => u (k / sz') (k % sz'), ⟨by simp, hsz', fun a b' y v hb hy hv => ?_⟩, fun k v hv => ?_, fun k h => ?_, fun v hv => ?_⟩
   ·rw [List.getElem?_map] at hv
    have ha : a < rows.length := by
     rcases Nat.lt_or_ge a rows.length with h | h
     ·exact h
     ·rw [List.getElem?_eq_none h] at hy; cases hy
    have hlt : a * sz' + b' < rows.length * sz' := by
     calc a * sz' + b' < a * sz' + sz' := by omega
      _ = (a + 1) * sz' := by rw [Nat.add_mul, Nat.one_mul]
      _ ≤ rows.length * sz' := Nat.mul_le_mul_right _ ha
    rw [List.getElem?_range hlt] at hv
    have hd : (a * sz' + b') / sz' = a := by rw [Nat.mul_comm, Nat.mul_add_div hpos, Nat.div_eq_of_lt hb]; omega
    have hm : (a * sz' + b') % sz' = b' := by rw [Nat.mul_comm, Nat.mul_add_mod, Nat.mod_eq_of_lt hb]
    simp only [Option.map_some, hd, hm] at hv
    cases hv
    exact hu a b' y hy
   ·rw [List.getElem?_map] at hv
    by_cases hlt : k < rows.length * sz'
    ·rw [List.getElem?_range hlt] at hv
     cases hv
     obtain ⟨h1, h2, h3⟩ := hk k hlt
     have := hc _ _ h1 h2
     rwa [Nat.add_assoc, h3] at this
    ·rw [List.getElem?_eq_none (by simpa using hlt)] at hv; cases hv
   ·simp only [List.length_map, List.length_range] at h
    obtain ⟨h1, h2, h3⟩ := hk k h
    have := ho _ _ h1 h2
    rwa [Nat.add_assoc, h3] at this
   ·obtain ⟨k, hk', rfl⟩ := List.mem_map.1 hv
    obtain ⟨y, _, hy⟩ := hrel k (List.mem_range.1 hk')
    exact hy.one
theorem Flat.to_sl {ok : Nat → Nat → Prop} {w : World} {rows : List (List D)} {sz : Nat} {xs : List Value} (h : Flat ok w rows sz xs) (b off cap : Nat) (hcap : rows.length ≤ cap)
  (hc : ∀ (k : Nat) (u : Value), xs[k]? = some u → w.cell? ⟨b, off + k, none⟩ = some u) (ho : ∀ k, k < xs.length → ok b (off + k)) : DRel ok w (.sl rows) (.slice (some ⟨b, off, none⟩) rows.length cap) := by
 have hlt : ∀ i j, i < rows.length → j < sz → i * sz + j < xs.length := fun i j hi hj => by
  rw [h.len]
  calc i * sz + j < i * sz + sz := by omega
   _ = (i + 1) * sz := by rw [Nat.add_mul, Nat.one_mul]
   _ ≤ rows.length * sz := Nat.mul_le_mul_right _ hi
 refine .sl rows b off cap sz (fun i j => xs.getD (i * sz + j) Go.undef) hcap h.wid (fun i j hi hj => ?_) (fun i j hi hj => ?_) (fun i j x hx => ?_)
 ·have h1 := hlt i j hi hj
  rw [Nat.add_assoc]
  exact hc _ _ (by simp [List.getD, List.getElem?_eq_getElem h1])
 ·rw [Nat.add_assoc]; exact ho _ (hlt i j hi hj)
 ·have hi : i < rows.length := by
   rcases Nat.lt_or_ge i rows.length with h | h
   ·exact h
   ·rw [List.getElem?_eq_none h] at hx; cases hx
  have hj : j < sz := by
   rw [List.getElem?_eq_getElem hi] at hx
   have := (List.getElem?_eq_some_iff.1 hx).1
   rwa [h.wid _ (List.getElem_mem _)] at this
  exact h.rel i j x _ hj hx (by simp [List.getD, List.getElem?_eq_getElem (hlt i j hi hj)])
theorem src_of (hT : TabOK T G.P) {tx el : Nat} {px : PV} {vx : Value} {more : List (List D)} {sz : Nat} (hm : moreRows T tx el px = some more) (hx : VRel G e σ w px vx) (hsz : ∀ r ∈ more, r.length = sz) (hpos : 0 < sz)
  (hel : sz = (T.get el).size) : ∃ news, Src G.P sz tx vx more.length news w ∧ Flat (okc e σ) w more sz news := by
 unfold moreRows at hm
 split at hm
 ·rename_i hk
  obtain ⟨i, d, z, hi, hd, hs, hby, hkd, hz, hz2, _⟩ := (hT.get (t := tx) (by rw [hk]; simp)).ex
  rw [hk] at hkd; cases hkd
  split at hm
  ·rename_i hk2
   split at hm
   ·rename_i s
    cases hm
    have hv := hx.dstr
    subst hv
    have hlen : (s.map fun b : UInt8 => [D.int .u8 b.toNat]).length = (⟨s.toArray⟩ : ByteArray).size := by simp; rfl
    have hflat : ∀ sz', sz' = 1 → Flat (okc e σ) w (s.map fun b : UInt8 => [D.int .u8 b.toNat]) sz' (byteCells ⟨s.toArray⟩) := by
     rintro _ rfl
     refine ⟨by rw [byteCells_length, hlen, Nat.mul_one], fun r hr => ?_, fun a b y u hb hy hu => ?_⟩
     ·obtain ⟨_, _, rfl⟩ := List.mem_map.1 hr; rfl
     ·have hb0 : b = 0 := by omega
      subst hb0
      simp only [Nat.mul_one, Nat.add_zero, byteCells, List.getElem?_map] at hu
      rw [List.getElem?_map] at hy
      cases hq : s[a]? with
      | none => rw [hq] at hy; cases hy
      | some q =>
       rw [hq] at hy
       simp at hy hu
       rw [hq] at hu
       simp at hu
       subst hy; subst hu
       exact .int _ _
    by_cases hs0 : s = []
    ·subst hs0
     refine ⟨[], ⟨.inr hd, fun _ => rfl, ?_, ?_, by simp, fun u h => by cases h⟩, .nil _ _ _⟩
     ·simp [Builtin.firstCells]
     ·simp [Builtin.firstCells]
    ·have h1 : sz = 1 := by
      cases s with
      | nil => exact absurd rfl hs0
      | cons b l => exact (hsz [.int .u8 b.toNat] (by simp)).symm
     subst h1
     rw [hlen]
     exact ⟨byteCells ⟨s.toArray⟩, Src.ofString w hd _, hflat 1 rfl⟩
   ·cases hm
  ·cases hm
 ·rename_i e' hk
  obtain ⟨i, d, z, hi, hd, hs, hby, hkd, hz, hz2, _⟩ := (hT.get (t := tx) (by rw [hk]; simp)).ex
  rw [hk] at hkd; cases hkd
  split at hm
  ·rename_i rows hrows
   cases hm
   have hD := toD_rel hrows hx
   generalize hg : D.sl more = dd at hD
   cases hD with
   | slnil => cases hg; exact ⟨[], Src.ofNil w hd 0, .nil _ _ _⟩
   | sl rows b off cap sz' u hcap hsz' hc ho hu =>
    cases hg
    obtain ⟨xs, h1, h2, h3, h4⟩ := Flat.of_sl hsz hpos (DRel.sl more b off cap sz' u hcap hsz' hc ho hu)
    exact ⟨xs, Src.ofSlice w hd ⟨b, off, none⟩ more.length cap xs h1.len (fun j u hj => by rw [add_addr]; exact h2 j u hj) h4, h1⟩
   | _ => cases hg
  ·cases hm
 ·cases hm
theorem nmem_iff (t : Nat) : ∀ (l : List Nat), nmem t l = true ↔ t ∈ l
 | [] => by simp [nmem]
 | x :: l => by
  unfold nmem
  split
  ·rename_i h; have := Nat.eq_of_beq_eq_true h; simp [this]
  ·rename_i h
   rw [nmem_iff t l]
   have : x ≠ t := fun h' => by subst h'; simp at h
   simp [Ne.symm this]
theorem mem_ndel (t x : Nat) : ∀ (l : List Nat), x ∈ ndel t l ↔ x ∈ l ∧ x ≠ t
 | [] => by simp [ndel]
 | y :: l => by
  unfold ndel
  split
  ·rename_i h
   have := Nat.eq_of_beq_eq_true h; subst this
   rw [mem_ndel y x l]
   constructor
   ·exact fun h => ⟨List.mem_cons_of_mem _ h.1, h.2⟩
   ·rintro ⟨h1, h2⟩
    rcases List.mem_cons.1 h1 with h | h
    ·exact absurd h h2
    ·exact ⟨h, h2⟩
  ·rename_i h
   have hne : y ≠ t := fun h' => by subst h'; simp at h
   rw [List.mem_cons, List.mem_cons, mem_ndel t x l]
   constructor
   ·rintro (rfl | h)
    ·exact ⟨.inl rfl, hne⟩
    ·exact ⟨.inr h.1, h.2⟩
   ·rintro ⟨rfl | h1, h2⟩
    ·exact .inl rfl
    ·exact .inr ⟨h1, h2⟩
def Env.own (e : Env) (t : Nat) (p : Option (Nat × Nat)) : Env := { e with M := fun i => if i = t then p else e.M i }
theorem append_run (hT : TabOK T G.P) (hS : SRel G e σ w) {t tx el ty : Nat} (hkt : (T.get t).kind = .slice el) (hkel : (T.get el).kind ≠ .other) (hpos : 0 < (T.get el).size)
  {rows more : List (List D)} {v vx : Value} {news : List Value} (hD : DRel (okc e σ) w (.sl rows) v)
  (hrw : ∀ r ∈ rows, r.length = (T.get el).size)
  (hO : (v = .slice none 0 0 ∧ rows = []) ∨ ∃ b off cap cs ty fz, v = .slice (some ⟨b, off, none⟩) rows.length cap ∧ G.nG ≤ b ∧ rows.length ≤ cap ∧ w.heap[b]? = some (.cells cs ty fz) ∧ (off + cap * (T.get el).size ≤ cs.size ∧ off = 0 ∧ ty = el ∧ 0 < cap) ∧
     (∀ o, off + rows.length * (T.get el).size ≤ o → fz.1 ≤ o → fz.2 ≤ o) ∧ (∀ i, i < σ.bx.length → e.β i ≠ b))
  (hsrc : Src G.P (T.get el).size tx vx more.length news w) (hnews : Flat (okc e σ) w more (T.get el).size news)
  (hbytes : (rows.length + more.length) * (T.get el).bytes ≤ 2 ^ 47) (hlen : rows.length + more.length ≤ 2 ^ 47) :
  ∃ v' w1, (Builtin.append_ #[t, tx] ty #[v, vx]).run G.P w = .ok v' w1 ∧ w1.os = w.os ∧ w1.tape = w.tape ∧ w1.output = w.output ∧ w.heap.size ≤ w1.heap.size ∧
   (∀ b off u, w.cell? ⟨b, off, none⟩ = some u → okc e σ b off → w1.cell? ⟨b, off, none⟩ = some u ∨ ∃ a o c, v = .slice (some ⟨a, o, none⟩) rows.length c ∧ b = a ∧ o + rows.length * (T.get el).size ≤ off) ∧
   (∀ b, b < w.heap.size → (∀ a o c, v = .slice (some ⟨a, o, none⟩) rows.length c → b ≠ a) → w1.heap[b]? = w.heap[b]?) ∧
   ((v' = .slice none 0 0 ∧ rows ++ more = []) ∨ ∃ b off cap cs ty fz, v' = .slice (some ⟨b, off, none⟩) (rows ++ more).length cap ∧ G.nG ≤ b ∧ (rows ++ more).length ≤ cap ∧ w1.heap[b]? = some (.cells cs ty fz) ∧ (off + cap * (T.get el).size ≤ cs.size ∧ off = 0 ∧ ty = el ∧ 0 < cap) ∧
    (∀ o, off + rows.length * (T.get el).size ≤ o → fz.1 ≤ o → fz.2 ≤ o) ∧
    ((∃ c, v = .slice (some ⟨b, off, none⟩) rows.length c) ∨ w.heap.size ≤ b) ∧
    ∃ xs, Flat (okc e σ) w (rows ++ more) (T.get el).size xs ∧ ∀ (k : Nat) (u : Value), xs[k]? = some u → w1.cell? ⟨b, off + k, none⟩ = some u) := by
 obtain ⟨ti, td, tz, hti, htd, _, _, hkd, _, _, _⟩ := (hT.get (t := t) (by rw [hkt]; simp)).ex
 rw [hkt] at hkd; cases hkd
 obtain ⟨i, d, z, hi, hd, hs, hby, hkd2, hz, hz2, hzl, _⟩ := (hT.get hkel).ex
 have hzc : z.cells.size = (T.get el).size := by
  have := (zeroL_rel (G := G) (e := e) (σ := σ) (w := w) hz2).1
  rw [← hzl, ← this]; simp
 rw [← hs] at hsrc
 have hsm : ((rows.length + more.length : Nat) : Int) ≤ 9223372036854775807 := by omega
 have hby2 : (rows.length + more.length) * i.bytes ≤ 140737488355328 := by rw [hby]; omega
 have grow : ∀ (base : Option Addr) (cap : Nat) (olds : List Value), (Builtin.firstCells i.size rows.length (.slice base rows.length cap)).run G.P w.drew = .ok olds.toArray w.drew → Flat (okc e σ) w rows (T.get el).size olds → cap < rows.length + more.length →
   ∃ v' w1, (Builtin.append_ #[t, tx] ty #[.slice base rows.length cap, vx]).run G.P w = .ok v' w1 ∧ Grows w w1 ∧
    ∃ b off cap cs ty fz, v' = .slice (some ⟨b, off, none⟩) (rows ++ more).length cap ∧ G.nG ≤ b ∧ (rows ++ more).length ≤ cap ∧ w1.heap[b]? = some (.cells cs ty fz) ∧ (off + cap * (T.get el).size ≤ cs.size ∧ off = 0 ∧ ty = el ∧ 0 < cap) ∧
     (∀ o, off + rows.length * (T.get el).size ≤ o → fz.1 ≤ o → fz.2 ≤ o) ∧ w.heap.size ≤ b ∧
     ∃ xs, Flat (okc e σ) w (rows ++ more) (T.get el).size xs ∧ ∀ (k : Nat) (u : Value), xs[k]? = some u → w1.cell? ⟨b, off + k, none⟩ = some u := by
  intro base cap olds hold hflat hlt
  have hr := run_append_grow_src w t tx ty el i z htd hi hz base rows.length cap olds hold vx more.length news hsrc hlt hsm (growslice_fits hlt hby2)
  refine ⟨_, _, hr, (Grows.drew w).trans (Grows.alloc _ _), w.heap.size, 0, grownCap w (rows.length + more.length) cap el, _, el, (0, 0), by rw [List.length_append], hS.big, by rw [List.length_append]; exact grownCap_ge w _ _ _, heap_alloc_new w.drew _, ⟨?_, rfl, rfl, by have := grownCap_ge w (rows.length + more.length) cap el; omega⟩, fun o _ _ => Nat.zero_le _, Nat.le_refl _, olds ++ news, hflat.append hnews, fun k u hk => ?_⟩
  ·have hge := grownCap_ge w (rows.length + more.length) cap el
   simp only [Array.size_append, List.size_toArray, List.length_append, size_zeroCells, hzc, hflat.len, hnews.len, Nat.zero_add, ← Nat.add_mul]
   exact Nat.mul_le_mul_right _ (by omega)
  ·have h1 : k < (olds ++ news).length := (List.getElem?_eq_some_iff.1 hk).1
   simp only [Nat.zero_add, World.cell?]
   rw [show (w.drew.alloc _).heap[w.heap.size]? = _ from heap_alloc_new w.drew _]
   simp only [Option.isSome_none, Bool.false_eq_true, if_false]
   rw [Array.getElem?_append_left (by simpa using h1)]
   simpa using hk
 rcases hO with ⟨rfl, rfl⟩ | ⟨b, off, cap, cs, tyb, fz, rfl, hb, hc, hh, hcs, hfz, hnb⟩
 ·by_cases hm : more.length = 0
  ·have hmn : more = [] := List.eq_nil_of_length_eq_zero hm
   subst hmn
   have hn0 : news = [] := List.eq_nil_of_length_eq_zero (by rw [hnews.len]; simp)
   subst hn0
   exact ⟨_, w, run_append_nothing w t tx ty el i htd hi none 0 0 (Nat.le_refl _) vx hsrc, rfl, rfl, rfl, Nat.le_refl _, fun _ _ _ h _ => .inl h, fun _ _ _ => rfl, .inl ⟨rfl, rfl⟩⟩
  ·obtain ⟨v', w1, hr, hg, b, off, cap, cs, ty', fz, h1, h2, h3, h4, h5, h6, h7, h8⟩ := grow none 0 [] (run_firstCells_none w.drew i.size 0 0 0) (.nil _ _ _) (by simp; omega)
   exact ⟨v', w1, hr, hg.os, hg.tape, hg.output, hg.size, fun b' o' u hu _ => .inl ((hg.cell (cell_lt hu)).trans hu), fun b' hb' _ => hg.old b' hb', .inr ⟨b, off, cap, cs, ty', fz, h1, h2, h3, h4, h5, h6, .inr h7, h8⟩⟩
 ·obtain ⟨olds, ho1, ho2, ho3, ho4⟩ := Flat.of_sl hrw hpos hD
  by_cases hroom : rows.length + more.length ≤ cap
  ·have hfit : rows.length * (T.get el).size + news.length ≤ cap * (T.get el).size := by
    rw [hnews.len, ← Nat.add_mul]; exact Nat.mul_le_mul_right _ hroom
   have hcell : ∀ k, k < cs.size → (w.cell? ⟨b, k, none⟩).isSome = true := fun k hk => by simp [World.cell?, hh, hk]
   have hr := run_append_room_src w t tx ty el i htd hi b off rows.length cap vx more.length news hsrc hroom (fun j hj => hcell _ (by have := hcs.1; rw [hs]; omega)) (fun j hj => by
    simp only [World.frozen?, hh]
    have h1 := hfz (off + rows.length * i.size + j) (by rw [hs]; omega)
    by_cases h2 : fz.1 ≤ off + rows.length * i.size + j
    ·have := h1 h2
     simp; intro _; omega
    ·simp; omega)
   rw [hs] at hr
   obtain ⟨r1, r2, r3, r4⟩ := rest_setCells b news (off + rows.length * (T.get el).size) w
   obtain ⟨cs', q1, q2, q3⟩ := heap_setCells_at b news (off + rows.length * (T.get el).size) w cs tyb fz hh
   refine ⟨_, _, hr, r1, r2, r3, by rw [size_setCells']; exact Nat.le_refl _, fun b' o' u hu ho => ?_, fun b' hb' hn => r4 b' (hn b off cap rfl), .inr ⟨b, off, cap, cs', tyb, fz, by rw [List.length_append], hb, by rw [List.length_append]; exact hroom, q1, ⟨by rw [q2]; exact hcs.1, hcs.2.1, hcs.2.2.1, hcs.2.2.2⟩, hfz, .inl ⟨cap, rfl⟩, olds ++ news, ho1.append hnews, fun k u hk => ?_⟩⟩
   ·by_cases hbb : b' = b
    ·subst hbb
     by_cases hoo : off + rows.length * (T.get el).size ≤ o'
     ·exact .inr ⟨b', off, cap, rfl, rfl, hoo⟩
     ·left
      rw [World.cell?_setCells_out b' news _ w ⟨b', o', none⟩ (fun _ _ => .inl (by show o' < _; omega))]
      exact hu
    ·left; simpa [World.cell?, r4 b' hbb] using hu
   ·by_cases hk1 : k < olds.length
    ·rw [List.getElem?_append_left hk1] at hk
     rw [World.cell?_setCells_out b news _ w ⟨b, off + k, none⟩ (fun _ _ => .inl (by show off + k < _; rw [← ho1.len]; omega))]
     exact ho2 k u hk
    ·rw [List.getElem?_append_right (by omega)] at hk
     have hkn := (List.getElem?_eq_some_iff.1 hk).1
     have := World.cell?_setCells_in b news (off + rows.length * (T.get el).size) w (fun j hj => hcell _ (by have := hcs.1; omega)) (k - olds.length) hkn
     rw [show off + k = off + rows.length * (T.get el).size + (k - olds.length) by rw [← ho1.len]; omega, this]
     rw [List.getElem?_eq_getElem hkn] at hk
     exact hk
  ·obtain ⟨v', w1, hr, hg, b2, off2, cap2, cs2, ty2, fz2, h1, h2, h3, h4, h5, h6, h7, h8⟩ := grow (some ⟨b, off, none⟩) cap olds (run_firstCells_some w.drew i.size rows.length ⟨b, off, none⟩ rows.length cap olds (by rw [ho1.len, hs]) (fun j u hj => by rw [add_addr]; exact ho2 j u hj)) ho1 (by omega)
   exact ⟨v', w1, hr, hg.os, hg.tape, hg.output, hg.size, fun b' o' u hu _ => .inl ((hg.cell (cell_lt hu)).trans hu), fun b' hb' _ => hg.old b' hb', .inr ⟨b2, off2, cap2, cs2, ty2, fz2, h1, h2, h3, h4, h5, h6, .inr h7, h8⟩⟩
theorem append_fin (hT : TabOK T G.P) (hS : SRel G e σ w) {el : Nat} (hkel : (T.get el).kind ≠ .other) (hpos : 0 < (T.get el).size)
  {rows more : List (List D)} {v v' : Value} {w1 : World} (hD : DRel (okc e σ) w (.sl rows) v) (tk0 : List Nat) (hsub : ∀ x, x ∈ tk0 → x ∈ σ.tk) (hrw : ∀ r ∈ rows, r.length = (T.get el).size) (hw : ∀ r ∈ more, r.length = (T.get el).size)
  (htok : ∀ a o c, v = .slice (some ⟨a, o, none⟩) rows.length c → ∃ tok, tok ∈ σ.tk ∧ tok ∉ tk0 ∧ e.M tok = some (a, o + rows.length * (T.get el).size))
  (hos : w1.os = w.os) (htape : w1.tape = w.tape) (hout : w1.output = w.output) (hsize : w.heap.size ≤ w1.heap.size)
  (hcell : ∀ b off u, w.cell? ⟨b, off, none⟩ = some u → okc e σ b off → w1.cell? ⟨b, off, none⟩ = some u ∨ ∃ a o c, v = .slice (some ⟨a, o, none⟩) rows.length c ∧ b = a ∧ o + rows.length * (T.get el).size ≤ off)
  (hblk : ∀ b, b < w.heap.size → (∀ a o c, v = .slice (some ⟨a, o, none⟩) rows.length c → b ≠ a) → w1.heap[b]? = w.heap[b]?)
  (hres : (v' = .slice none 0 0 ∧ rows ++ more = []) ∨ ∃ b off cap cs ty fz, v' = .slice (some ⟨b, off, none⟩) (rows ++ more).length cap ∧ G.nG ≤ b ∧ (rows ++ more).length ≤ cap ∧ w1.heap[b]? = some (.cells cs ty fz) ∧ (off + cap * (T.get el).size ≤ cs.size ∧ off = 0 ∧ ty = el ∧ 0 < cap) ∧
    (∀ o, off + rows.length * (T.get el).size ≤ o → fz.1 ≤ o → fz.2 ≤ o) ∧
    ((∃ c, v = .slice (some ⟨b, off, none⟩) rows.length c) ∨ w.heap.size ≤ b) ∧
    ∃ xs, Flat (okc e σ) w (rows ++ more) (T.get el).size xs ∧ ∀ (k : Nat) (u : Value), xs[k]? = some u → w1.cell? ⟨b, off + k, none⟩ = some u) :
  ∃ e1, Stepped e σ w e1 { σ with tk := σ.nx :: tk0, nx := σ.nx + 1 } w1 ∧ SRel G e1 { σ with tk := σ.nx :: tk0, nx := σ.nx + 1 } w1 ∧
   VRel G e1 { σ with tk := σ.nx :: tk0, nx := σ.nx + 1 } w1 (.sl σ.nx el (rows ++ more)) v' := by
 obtain ⟨i, d, z, hi, hd, hs, hby, hkd2, hz, hz2, hzl, _⟩ := (hT.get hkel).ex
 have hkeep : ∀ b off u, w.cell? ⟨b, off, none⟩ = some u → okc e σ b off → w1.cell? ⟨b, off, none⟩ = some u := fun b off u hu ho => by
  rcases hcell b off u hu ho with h | ⟨a, o, c, hv, rfl, hle⟩
  ·exact h
  ·obtain ⟨tok, ht1, _, hmm⟩ := htok _ o c hv
   have := ho.2.2 tok ht1 _ hmm rfl
   simp only at this
   omega
 have hbase : ∀ b, b < w.heap.size → (∀ t, t ∈ σ.tk → t ∉ tk0 → ∀ p, e.M t = some p → p.1 ≠ b) → w1.heap[b]? = w.heap[b]? := fun b hb hn => hblk b hb fun a o c hv h => by
  obtain ⟨tok, ht1, ht2, hmm⟩ := htok a o c hv
  exact hn tok ht1 ht2 _ hmm h.symm
 obtain ⟨p, hp, hown, hpn⟩ : ∃ p : Option (Nat × Nat), (p = none ∨ ∃ b k, p = some (b, k) ∧ G.nG ≤ b ∧ (∃ cs ty fz, w1.heap[b]? = some (.cells cs ty fz)) ∧ ((∃ a o c, v = .slice (some ⟨a, o, none⟩) rows.length c ∧ a = b ∧ o + rows.length * (T.get el).size ≤ k) ∨ w.heap.size ≤ b)) ∧
   (∀ e1 : Env, e1.M σ.nx = p → Owned G e1 w1 σ.nx el (rows ++ more) v') ∧
   (∀ b k, p = some (b, k) → True) := by
  rcases hres with ⟨rfl, hnil⟩ | ⟨b, off, cap, cs, tyb, fz, rfl, hb, hc, hh, hcs, hfz, hor, hxs⟩
  ·refine ⟨none, .inl rfl, fun e1 he => .inl ⟨rfl, hnil, he⟩, fun _ _ _ => trivial⟩
  ·refine ⟨some (b, off + (rows ++ more).length * (T.get el).size), .inr ⟨b, _, rfl, hb, ⟨cs, tyb, fz, hh⟩, ?_⟩, fun e1 he => .inr ⟨i.size, by rw [hi]; rfl, by omega, fun r hr => ?_, b, off, cap, cs, tyb, fz, rfl, hb, hc, hh, by rw [hs]; exact hcs, fun o ho => hfz o (by rw [hs] at ho; rw [List.length_append, Nat.add_mul] at ho; omega), by rw [hs]; exact he⟩, fun _ _ _ => trivial⟩
   ·rcases hor with ⟨c, hv⟩ | h
    ·refine .inl ⟨b, off, c, hv, rfl, ?_⟩
     rw [List.length_append, Nat.add_mul]; omega
    ·exact .inr h
   ·rw [hs]
    rcases List.mem_append.1 hr with h | h
    ·exact hrw r h
    ·exact hw r h
 have hM0 : ∀ x, x ∈ tk0 → (e.own σ.nx p).M x = e.M x := fun x hx => by
  have := hS.tkn x (hsub x hx)
  simp only [Env.own]; rw [if_neg (by omega)]
 have hMn : (e.own σ.nx p).M σ.nx = p := by simp [Env.own]
 have hokc : ∀ b off, b < w.heap.size → okc e σ b off → okc (e.own σ.nx p) { σ with tk := σ.nx :: tk0, nx := σ.nx + 1 } b off := fun b off hb ho => by
  refine ⟨ho.1, ho.2.1, fun x hx q hq hqb => ?_⟩
  rcases List.mem_cons.1 hx with rfl | hx
  ·rw [hMn] at hq
   rcases hp with h | ⟨b2, k, h, _, _, hor⟩
   ·rw [h] at hq; cases hq
   ·rw [h] at hq; cases hq
    simp only at hqb
    subst hqb
    rcases hor with ⟨a, o, c, hv, rfl, hle⟩ | hge
    ·obtain ⟨tok, ht1, _, hmm⟩ := htok _ o c hv
     have := ho.2.2 tok ht1 _ hmm rfl
     simp only at this ⊢
     omega
    ·omega
  ·rw [hM0 x hx] at hq
   exact ho.2.2 x (hsub x hx) q hq hqb
 have hst : Stepped e σ w (e.own σ.nx p) { σ with tk := σ.nx :: tk0, nx := σ.nx + 1 } w1 := {
  len := Nat.le_refl _
  beta := fun _ _ => rfl
  X := rfl
  pres := fun b off u hu ho => ⟨hokc b off (cell_lt hu) ho, hkeep b off u hu ho⟩
  blocks := fun b hb _ hn => hbase b hb fun t ht _ q hq => hn t ht q hq
  size := hsize
  os := hos
  tape := htape
  output := hout
  fresh := fun i h1 h2 => by simp only at h2; omega
  ftok := fun x hx q hq => by
   rcases List.mem_cons.1 hx with rfl | h
   ·rw [hMn] at hq
    rcases hp with h | ⟨b2, k, h, _, _, hor⟩
    ·rw [h] at hq; cases hq
    ·rw [h] at hq; cases hq
     rcases hor with ⟨a, o, c, hv, rfl, _⟩ | hge
     ·obtain ⟨tok, ht1, _, hmm⟩ := htok _ o c hv
      exact .inr ⟨tok, ht1, _, hmm, rfl⟩
     ·exact .inl hge
   ·rw [hM0 x h] at hq
    exact .inr ⟨x, hsub x h, q, hq, rfl⟩
  nx := by show σ.nx ≤ σ.nx + 1; omega
  toks := fun x hx hm => by
   rcases List.mem_cons.1 hm with rfl | h
   ·omega
   ·exact ⟨hsub x h, hM0 x h⟩
  own := fun x hx hm q hq hlt => by
   rcases List.mem_cons.1 hm with rfl | h
   ·omega
   ·refine hbase _ hlt fun t ht1 ht2 r hr => ?_
    exact hS.dis t x ht1 (hsub x h) (fun h' => ht2 (h' ▸ h)) r q hr hq }
 have hlow : ∀ b k, p = some (b, k) → G.nG ≤ b ∧ (∀ i, i < σ.bx.length → e.β i ≠ b) ∧ (∀ x, x ∈ tk0 → ∀ q, e.M x = some q → q.1 ≠ b) ∧ (∀ off, k ≤ off → ¬ e.X b off) ∧ ∃ cs ty fz, w1.heap[b]? = some (.cells cs ty fz) := fun b k hpk => by
  rcases hp with h | ⟨b2, k2, h, hb, hcs, hor⟩
  ·rw [h] at hpk; cases hpk
  ·rw [h] at hpk; cases hpk
   refine ⟨hb, fun j hj h' => ?_, fun x hx q hq h' => ?_, fun off ho hX => ?_, hcs⟩
   ·rcases hor with ⟨a, o, c, hv, rfl, hle⟩ | hge
    ·obtain ⟨tok, ht1, _, hmm⟩ := htok _ o c hv
     exact (hS.own tok ht1 _ hmm).2.1 j hj h'
    ·have := hS.lt hj; omega
   ·rcases hor with ⟨a, o, c, hv, rfl, hle⟩ | hge
    ·obtain ⟨tok, ht1, ht2, hmm⟩ := htok _ o c hv
     exact hS.dis tok x ht1 (hsub x hx) (fun h2 => ht2 (h2 ▸ hx)) _ q hmm hq h'.symm
    ·obtain ⟨_, _, cs, tyy, fz, hh⟩ := hS.own x (hsub x hx) q hq
     have := (Array.getElem?_eq_some_iff.1 hh).1; omega
   ·rcases hor with ⟨a, o, c, hv, rfl, hle⟩ | hge
    ·obtain ⟨tok, ht1, _, hmm⟩ := htok _ o c hv
     exact hS.xown tok ht1 _ hmm off (by simp only; omega) hX
    ·have := hS.xlt _ _ hX; omega
 refine ⟨e.own σ.nx p, hst, ?_, ?_⟩
 ·exact {
   inj := hS.inj
   box := fun k y hy => by
    have hk := (List.getElem?_eq_some_iff.1 hy).1
    exact (hS.box k y hy).step hst (hbase _ (hS.lt hk) fun t ht _ q hq h => (hS.own t ht q hq).2.1 k hk h.symm)
   low := hS.low
   tkn := fun x hx => by
    rcases List.mem_cons.1 hx with rfl | h
    ·show σ.nx < σ.nx + 1; omega
    ·have := hS.tkn x (hsub x h); show x < σ.nx + 1; omega
   own := fun x hx q hq => by
    rcases List.mem_cons.1 hx with rfl | h
    ·rw [hMn] at hq
     obtain ⟨h1, h2, _, _, h3⟩ := hlow q.1 q.2 hq
     exact ⟨h1, h2, h3⟩
    ·rw [hM0 x h] at hq
     obtain ⟨h1, h2, cs, tyy, fz, hh⟩ := hS.own x (hsub x h) q hq
     refine ⟨h1, h2, cs, tyy, fz, (hbase _ (Array.getElem?_eq_some_iff.1 hh).1 fun t ht1 ht2 r hr => ?_).trans hh⟩
     exact hS.dis t x ht1 (hsub x h) (fun h' => ht2 (h' ▸ h)) r q hr hq
   dis := fun x y hx hy hxy q r hq hr => by
    rcases List.mem_cons.1 hx with rfl | h1 <;> rcases List.mem_cons.1 hy with rfl | h2
    ·exact absurd rfl hxy
    ·rw [hMn] at hq; rw [hM0 y h2] at hr
     exact fun h => (hlow q.1 q.2 hq).2.2.1 y h2 r hr h.symm
    ·rw [hMn] at hr; rw [hM0 x h1] at hq
     exact fun h => (hlow r.1 r.2 hr).2.2.1 x h1 q hq h
    ·rw [hM0 x h1] at hq; rw [hM0 y h2] at hr
     exact hS.dis x y (hsub x h1) (hsub y h2) hxy q r hq hr
   xlt := fun b off hX => Nat.lt_of_lt_of_le (hS.xlt b off hX) hsize
   xown := fun x hx q hq off ho => by
    rcases List.mem_cons.1 hx with rfl | h
    ·rw [hMn] at hq
     exact (hlow q.1 q.2 hq).2.2.2.1 off ho
    ·rw [hM0 x h] at hq
     exact hS.xown x (hsub x h) q hq off ho
   glob := fun b hb => (hbase b (Nat.lt_of_lt_of_le hb hS.big) fun t ht _ q hq h => by have := (hS.own t ht q hq).1; omega).trans (hS.glob b hb)
   big := Nat.le_trans hS.big hsize }
 ·refine .sl _ _ _ _ (by show σ.nx < σ.nx + 1; omega) ?_ (fun _ => hown _ hMn)
  rcases hres with ⟨rfl, hnil⟩ | ⟨b, off, cap, cs, tyb, fz, rfl, hb, hc, hh, hcs, hfz, hor, xs, hxs1, hxs2⟩
  ·rw [hnil]; exact .slnil
  ·have hflat : Flat (okc (e.own σ.nx p) { σ with tk := σ.nx :: tk0, nx := σ.nx + 1 }) w1 (rows ++ more) (T.get el).size xs := hxs1.mono fun y u h => h.later hst.toLater
   refine hflat.to_sl b off cap hc hxs2 fun k hk => ?_
   have hOwn := hown (e.own σ.nx p) hMn
   rcases hOwn with ⟨h1, _⟩ | ⟨sz, hq1, hq2, hq3, b', off', cap', cs', ty', fz', h1, _, _, _, _, _, hm1⟩
   ·cases h1
   ·cases h1
    rw [hMn] at hm1
    rw [hi] at hq1
    simp only [Option.map_some, Option.some.injEq] at hq1
    subst hq1
    obtain ⟨g1, g2, g3, g4, g5⟩ := hlow _ _ hm1
    rw [hxs1.len] at hk
    refine ⟨fun hX => ?_, g2, fun x hx q hq hqb => ?_⟩
    ·rcases hor with ⟨c, hv⟩ | hge
     ·obtain ⟨tok, ht1, _, hmm⟩ := htok _ off c hv
      by_cases hkk : k < rows.length * (T.get el).size
      ·subst hv
       obtain ⟨olds, ho1, ho2, ho3, ho4⟩ := Flat.of_sl hrw hpos hD
       exact (ho3 k (by rw [ho1.len]; exact hkk)).1 hX
      ·exact hS.xown tok ht1 _ hmm (off + k) (by simp only; omega) hX
     ·have := hS.xlt _ _ hX; omega
    ·rcases List.mem_cons.1 hx with rfl | h
     ·rw [hMn, hm1] at hq; cases hq
      simp only
      rw [hs]; omega
     ·rw [hM0 x h] at hq
      exact absurd hqb (g3 x h q hq)
theorem owned_facts (hT : TabOK T G.P) (hS : SRel G e σ w) {el : Nat} (hkel : (T.get el).kind ≠ .other) {rows : List (List D)} {v : Value} (tk0 : List Nat)
  (hO : (v = .slice none 0 0 ∧ rows = []) ∨ ∃ tok, tok ∈ σ.tk ∧ tok ∉ tk0 ∧ Owned G e w tok el rows v) :
  ((v = .slice none 0 0 ∧ rows = []) ∨ ∃ b off cap cs ty fz, v = .slice (some ⟨b, off, none⟩) rows.length cap ∧ G.nG ≤ b ∧ rows.length ≤ cap ∧ w.heap[b]? = some (.cells cs ty fz) ∧ (off + cap * (T.get el).size ≤ cs.size ∧ off = 0 ∧ ty = el ∧ 0 < cap) ∧
     (∀ o, off + rows.length * (T.get el).size ≤ o → fz.1 ≤ o → fz.2 ≤ o) ∧ (∀ i, i < σ.bx.length → e.β i ≠ b)) ∧ (∀ r ∈ rows, r.length = (T.get el).size) ∧
     (∀ a o c, v = .slice (some ⟨a, o, none⟩) rows.length c → ∃ tok, tok ∈ σ.tk ∧ tok ∉ tk0 ∧ e.M tok = some (a, o + rows.length * (T.get el).size)) := by
 obtain ⟨i, d, z, hi, hd, hs, hby, hkd2, hz, hz2, hzl, _⟩ := (hT.get hkel).ex
 rcases hO with ⟨rfl, rfl⟩ | ⟨tok, ht1, ht2, ⟨rfl, rfl, _⟩ | ⟨sz, h1, h2, h3, b, off, cap, cs, tyb, fz, rfl, hb, hc, hh, hcs, hfz, hmm⟩⟩
 ·exact ⟨.inl ⟨rfl, rfl⟩, fun r h => (by cases h), fun a o c h => by simp at h⟩
 ·exact ⟨.inl ⟨rfl, rfl⟩, fun r h => (by cases h), fun a o c h => by simp at h⟩
 ·rw [hi] at h1
  simp only [Option.map_some, Option.some.injEq] at h1
  subst h1
  rw [hs] at h3 hcs hfz hmm
  exact ⟨.inr ⟨b, off, cap, cs, tyb, fz, rfl, hb, hc, hh, hcs, hfz, (hS.own tok ht1 _ hmm).2.1⟩, h3, fun a o c hv => by cases hv; exact ⟨tok, ht1, ht2, hmm⟩⟩
theorem append_rel (hT : TabOK T G.P) (hS : SRel G e σ w) {t tx el ty : Nat} (hkt : (T.get t).kind = .slice el) (hkel : (T.get el).kind ≠ .other) (hpos : 0 < (T.get el).size)
  {rows more : List (List D)} {v vx : Value} {px : PV} (hD : DRel (okc e σ) w (.sl rows) v) (tk0 : List Nat) (hsub : ∀ x, x ∈ tk0 → x ∈ σ.tk)
  (hO : (v = .slice none 0 0 ∧ rows = []) ∨ ∃ tok, tok ∈ σ.tk ∧ tok ∉ tk0 ∧ Owned G e w tok el rows v)
  (hm : moreRows T tx el px = some more) (hx : VRel G e σ w px vx) (hw : ∀ r ∈ more, r.length = (T.get el).size)
  (hbytes : (rows.length + more.length) * (T.get el).bytes ≤ 2 ^ 47) (hlen : rows.length + more.length ≤ 2 ^ 47) :
  ∃ v' w1 e1, (Builtin.append_ #[t, tx] ty #[v, vx]).run G.P w = .ok v' w1 ∧ Stepped e σ w e1 { σ with tk := σ.nx :: tk0, nx := σ.nx + 1 } w1 ∧ SRel G e1 { σ with tk := σ.nx :: tk0, nx := σ.nx + 1 } w1 ∧
   VRel G e1 { σ with tk := σ.nx :: tk0, nx := σ.nx + 1 } w1 (.sl σ.nx el (rows ++ more)) v' := by
 obtain ⟨i, d, z, hi, hd, hs, hby, hkd2, hz, hz2, hzl, _⟩ := (hT.get hkel).ex
 obtain ⟨news, hsrc, hnews⟩ := src_of hT hm hx hw hpos rfl
 obtain ⟨hO3, hrw, htok⟩ := owned_facts hT hS hkel tk0 hO
 obtain ⟨v', w1, hrun, hos, htape, hout, hsize, hcell, hblk, hres⟩ := append_run (ty := ty) hT hS hkt hkel hpos hD hrw hO3 hsrc hnews hbytes hlen
 obtain ⟨e1, h1, h2, h3⟩ := append_fin hT hS hkel hpos hD tk0 hsub hrw hw htok hos htape hout hsize hcell hblk hres
 exact ⟨v', w1, e1, hrun, h1, h2, h3⟩
theorem toDs_rel {ok : Nat → Nat → Prop} : ∀ {l : List PV} {r : List D}, toDs l = some r → r.length = l.length ∧ ∀ (i : Nat) (x : PV) (y : D), l[i]? = some x → r[i]? = some y → toD x = some y
 | [], r, h => by cases h; exact ⟨rfl, fun i x y hx => by simp at hx⟩
 | v :: l, r, h => by
  simp only [toDs] at h
  split at h
  ·rename_i d hd
   split at h
   ·rename_i r' hr
    cases h
    obtain ⟨h1, h2⟩ := toDs_rel (ok := ok) hr
    refine ⟨by simp [h1], fun i x y hx hy => ?_⟩
    cases i with
    | zero => simp at hx hy; subst hx; subst hy; exact hd
    | succ i => exact h2 i x y (by simpa using hx) (by simpa using hy)
   ·cases h
  ·cases h
theorem laid_fill {ρ : Operand → PV} {ρ' : Operand → Value} (hρ : ∀ x, VRel G e σ w (ρ x) (ρ' x)) {sz : Nat} (hpos : 0 < sz) :
  ∀ (ps : List (Nat × Operand)) (rows rows' : List (List D)) (vs : Array Value), Flat (okc e σ) w rows sz vs.toList → (∀ u ∈ vs, u.oneCell' = true) → laidRows sz ρ ps rows = some rows' →
   ∃ vs' : Array Value, Instr.fill (fun i => some (i * sz, sz)) vs (ps.map fun p => (p.1, ρ' p.2)) = some vs' ∧ Flat (okc e σ) w rows' sz vs'.toList ∧ rows'.length = rows.length ∧ (∀ u ∈ vs', u.oneCell' = true)
 | [], rows, rows', vs, hf, h1, h => by cases h; exact ⟨vs, rfl, hf, rfl, h1⟩
 | (i, x) :: ps, rows, rows', vs, hf, h1, h => by
  simp only [laidRows] at h
  split at h
  ·rename_i r hr
   split at h
   ·rename_i hlen hlt
    have e1 := Nat.eq_of_beq_eq_true hlen
    have e2 := Nat.le_of_ble_eq_true hlt
    unfold rowOf at hr
    split at hr
    ·rename_i l hl
     obtain ⟨hc1, hc2⟩ := cells_rel (hρ x) hl
     obtain ⟨hd1, hd2⟩ := toDs_rel (ok := okc e σ) hr
     have hvs : vs.size = rows.length * sz := by have := hf.len; simpa using this
     have hsz : (ρ' x).cells.size = sz := by rw [hc1, ← hd1, e1]
     have hin : i * sz + sz ≤ rows.length * sz := by
      calc i * sz + sz = (i + 1) * sz := by rw [Nat.add_mul, Nat.one_mul]
       _ ≤ rows.length * sz := Nat.mul_le_mul_right _ e2
     simp only [List.map_cons, Instr.fill]
     rw [if_neg (by rw [hsz, hvs]; simp; omega)]
     rw [layArr]
     have hget : ∀ k, ((((ρ' x).cells.toList.zipIdx 0).foldl (fun cs (p : Value × Nat) => cs.setIfInBounds (i * sz + p.2) p.1) vs))[k]? = if i * sz ≤ k ∧ k < i * sz + sz then (ρ' x).cells[k - i * sz]? else vs[k]? := fun k => by
      rw [layOver_get]
      simp only [Nat.add_zero, Array.length_toList, hsz, Array.getElem?_toList]
      by_cases hk : i * sz ≤ k ∧ k < i * sz + sz
      ·rw [if_pos hk, if_pos ⟨hk.1, hk.2, by omega⟩]
      ·rw [if_neg hk, if_neg (by omega)]
     have hsize : ((((ρ' x).cells.toList.zipIdx 0).foldl (fun cs (p : Value × Nat) => cs.setIfInBounds (i * sz + p.2) p.1) vs)).size = vs.size := layOver_size vs (i * sz) (ρ' x).cells.toList 0 vs
     generalize ((((ρ' x).cells.toList.zipIdx 0).foldl (fun cs (p : Value × Nat) => cs.setIfInBounds (i * sz + p.2) p.1) vs)) = vs2 at hget hsize ⊢
     have hF2 : Flat (okc e σ) w (rows.set i r) sz vs2.toList := by
      refine ⟨by rw [Array.length_toList, hsize, hvs, List.length_set], fun r' hr' => ?_, fun a b y u hb hy hu => ?_⟩
      ·rcases List.mem_or_eq_of_mem_set hr' with h' | rfl
       ·exact hf.wid r' h'
       ·exact e1
      ·rw [Array.getElem?_toList, hget] at hu
       by_cases hai : a = i
       ·subst hai
        rw [if_pos ⟨by omega, by omega⟩, show a * sz + b - a * sz = b by omega] at hu
        rw [List.getElem?_set_self (by omega)] at hy
        simp only [Option.bind_some] at hy
        have hbl : b < l.length := by omega
        have := hd2 b l[b] y (List.getElem?_eq_getElem hbl) hy
        exact toD_rel this (hc2 b l[b] u (List.getElem?_eq_getElem hbl) hu).1
       ·rw [List.getElem?_set_ne (Ne.symm hai)] at hy
        have hne : ¬ (i * sz ≤ a * sz + b ∧ a * sz + b < i * sz + sz) := fun hh => by
         rcases Nat.lt_or_gt_of_ne hai with h' | h'
         ·have : (a + 1) * sz ≤ i * sz := Nat.mul_le_mul_right _ h'
          rw [Nat.add_mul, Nat.one_mul] at this; omega
         ·have : (i + 1) * sz ≤ a * sz := Nat.mul_le_mul_right _ h'
          rw [Nat.add_mul, Nat.one_mul] at this; omega
        rw [if_neg hne] at hu
        exact hf.rel a b y u hb hy (by rw [Array.getElem?_toList]; exact hu)
     have hone2 : ∀ u ∈ vs2, u.oneCell' = true := by
      intro u hu
      obtain ⟨k, hk, rfl⟩ := Array.getElem_of_mem hu
      have h3 := hget k
      rw [Array.getElem?_eq_getElem hk] at h3
      by_cases hk2 : i * sz ≤ k ∧ k < i * sz + sz
      ·rw [if_pos hk2] at h3
       have hbl : k - i * sz < l.length := by omega
       exact (hc2 (k - i * sz) l[k - i * sz] _ (List.getElem?_eq_getElem hbl) h3.symm).2
      ·rw [if_neg hk2] at h3
       exact h1 _ (Array.mem_of_getElem? h3.symm)
     obtain ⟨vs', q1, q2, q3, q4⟩ := laid_fill hρ hpos ps (rows.set i r) rows' vs2 hF2 hone2 h
     exact ⟨vs', q1, q2, by rw [q3, List.length_set], q4⟩
    ·cases hr
   ·cases h
  ·cases h
theorem buildSlice_run (hT : TabOK T G.P) {ρ : Operand → PV} {ρ' : Operand → Value} (hρ : ∀ x, VRel G e σ w (ρ x) (ρ' x)) {t n el : Nat} {ps : Array (Nat × Operand)} {zero : List D} {rows : List (List D)}
  (hkt : (T.get t).kind = .slice el) (hkel : (T.get el).kind ≠ .other) (hzero : toDs (T.get el).zero = some zero) (hpos : 1 ≤ zero.length) (hbig : n * zero.length ≤ 16777216) (hrows : litRows zero ρ n ps.toList = some rows) :
  ∃ vs', (Instr.buildSlice t n (ps.map fun p => (p.1, ρ' p.2))).run G.P w = .ok (.slice (some ⟨w.heap.size, 0, none⟩) n n) (w.alloc (.cells vs' el)) ∧ Flat (okc e σ) w rows zero.length vs'.toList ∧ rows.length = n ∧ zero.length = (T.get el).size := by
 obtain ⟨ti, td, tz, hti, htd, _, _, hkd, _, _, _⟩ := (hT.get (t := t) (by rw [hkt]; simp)).ex
 rw [hkt] at hkd; cases hkd
 obtain ⟨i, d, z, hi, hd, hs, hby, hkd2, hz, hz2, hzl, _⟩ := (hT.get hkel).ex
 obtain ⟨hd1, hd2⟩ := toDs_rel (ok := okc e σ) hzero
 have hisz : i.size = zero.length := by rw [hs, ← hzl, hd1]
 obtain ⟨hz3, hz4⟩ := zeroL_rel (G := G) (e := e) (σ := σ) (w := w) hz2
 have hzc : z.cells.size = zero.length := by rw [hd1, ← hz3]; simp
 have hsz : 0 < zero.length := hpos
 have h0 : Flat (okc e σ) w (List.replicate n zero) zero.length ((Array.range (n * zero.length)).map (fun k => z.cells[k % z.cells.size]!)).toList := by
  refine ⟨by simp, fun r hr => by rw [(List.mem_replicate.1 hr).2], fun a b y u hb hy hu => ?_⟩
  by_cases ha : a < n
  ·have hlt : a * zero.length + b < n * zero.length := by
    calc a * zero.length + b < a * zero.length + zero.length := by omega
     _ = (a + 1) * zero.length := by rw [Nat.add_mul, Nat.one_mul]
     _ ≤ n * zero.length := Nat.mul_le_mul_right _ ha
   have hm : (a * zero.length + b) % z.cells.size = b := by rw [hzc, Nat.mul_comm, Nat.mul_add_mod, Nat.mod_eq_of_lt hb]
   rw [Array.getElem?_toList, Array.getElem?_map, Array.getElem?_range, if_pos hlt] at hu
   simp only [Option.map_some, hm, Option.some.injEq] at hu
   have hbz : b < z.cells.size := by omega
   rw [getElem!_pos z.cells b hbz] at hu
   have hbl : b < (T.get el).zero.length := by omega
   have := hz4 b _ u (List.getElem?_eq_getElem hbl) (by rw [Array.getElem?_toList, Array.getElem?_eq_getElem hbz, hu])
   rw [List.getElem?_replicate, if_pos ha] at hy
   simp only [Option.bind_some] at hy
   exact toD_rel (hd2 b _ y (List.getElem?_eq_getElem hbl) hy) this.1
  ·rw [List.getElem?_replicate, if_neg ha] at hy; cases hy
 have h01 : ∀ u ∈ (Array.range (n * zero.length)).map (fun k => z.cells[k % z.cells.size]!), u.oneCell' = true := fun u hu => by
  obtain ⟨k, hk, rfl⟩ := Array.mem_map.1 hu
  have hm : k % z.cells.size < z.cells.size := Nat.mod_lt _ (by omega)
  rw [getElem!_pos z.cells _ hm]
  have hbl : k % z.cells.size < (T.get el).zero.length := by omega
  exact (hz4 _ _ _ (List.getElem?_eq_getElem hbl) (by rw [Array.getElem?_toList, Array.getElem?_eq_getElem hm])).2
 obtain ⟨vs', q1, q2, q3, q4⟩ := laid_fill hρ hsz ps.toList _ rows _ h0 h01 hrows
 rw [List.length_replicate] at q3
 have hrun : (Instr.buildSlice t n (ps.map fun p => (p.1, ρ' p.2))).run G.P w = .ok (.slice (some ⟨w.heap.size, 0, none⟩) n n) (w.alloc (.cells vs' el)) := by
  unfold Instr.buildSlice
  simp only [Sem.run_bind, run_underlying' htd, Result.andThen, run_sizeOf' hi, hisz]
  rw [if_neg (by omega)]
  have hps : (ps.map fun p => (p.1, ρ' p.2)).toList = ps.toList.map fun p => (p.1, ρ' p.2) := by simp
  split
  ·rename_i h0'
   have hsame : (Array.range (n * zero.length)).map (fun k => (#[] : Array Value)[k % (#[] : Array Value).size]!) = (Array.range (n * zero.length)).map (fun k => z.cells[k % z.cells.size]!) := by
    rw [h0']; simp
   simp only [Sem.run_bind, Sem.run_pure, Result.andThen]
   rw [hsame, hps, q1]
   simp only [Sem.run_bind, newRow, run_newObj, Result.andThen, Sem.run_pure]
   rfl
  ·simp only [Sem.run_bind, Sem.run_pure, Result.andThen, zeroValue, run_typeInfo' hi, hz]
   rw [hps, q1]
   simp only [Sem.run_bind, newRow, run_newObj, Result.andThen, Sem.run_pure]
   rfl
 exact ⟨vs', hrun, q2, q3, by rw [← hisz, hs]⟩
theorem buildSlice_sound (hT : TabOK T G.P) (hS : SRel G e σ w) {ρ : Operand → PV} {ρ' : Operand → Value} (hρ : ∀ x, VRel G e σ w (ρ x) (ρ' x)) {t n el : Nat} {ps : Array (Nat × Operand)} {zero : List D} {rows : List (List D)}
  (hkt : (T.get t).kind = .slice el) (hkel : (T.get el).kind ≠ .other) (hzero : toDs (T.get el).zero = some zero) (hpos : 1 ≤ zero.length) (hbig : n * zero.length ≤ 16777216) (hrows : litRows zero ρ n ps.toList = some rows) :
  ∃ v w1, (Instr.buildSlice t n (ps.map fun p => (p.1, ρ' p.2))).run G.P w = .ok v w1 ∧ Grows w w1 ∧ DRel (okc e σ) w1 (.sl rows) v := by
 obtain ⟨vs', hrun, q2, hlen, _⟩ := buildSlice_run (ρ' := ρ') hT hρ hkt hkel hzero hpos hbig hrows
 refine ⟨_, _, hrun, Grows.alloc w _, ?_⟩
 have hg := Grows.alloc w (.cells vs' el)
 have hst := hg.stepped e σ
 have hflat : Flat (okc e σ) (w.alloc (.cells vs' el)) rows zero.length vs'.toList := q2.mono fun y u h => h.later hst.toLater
 have := hflat.to_sl w.heap.size 0 n (by omega) (fun k u hk => by
  simp only [World.cell?, Nat.zero_add]
  rw [heap_alloc_new w (.cells vs' el)]
  simpa using hk) (fun k hk => ⟨fun hX => by have := hS.xlt _ _ hX; omega, fun j hj h => by have := hS.lt hj; omega, fun x hx q hq hqb => by
   obtain ⟨_, _, cs, tyy, fz, hh⟩ := hS.own x hx q hq
   have := (Array.getElem?_eq_some_iff.1 hh).1
   omega⟩)
 rwa [hlen] at this
theorem ownB_sound (hT : TabOK T G.P) (hS : SRel G e σ w) {K : PV → St → Prop} {ρ : Operand → PV} {ρ' : Operand → Value} (hρ : ∀ x, VRel G e σ w (ρ x) (ρ' x)) (o : Oper) (h : ownB T o.op ρ σ K) :
  ∃ pv σ1 v w1 e1, K pv σ1 ∧ (execOp ρ' o).run G.P w = .ok (.value v) w1 ∧ Stepped e σ w e1 σ1 w1 ∧ SRel G e1 σ1 w1 ∧ VRel G e1 σ1 w1 pv v := by
 unfold ownB at h
 split at h
 ·rename_i t n ps ho
  split at h
  ·rename_i el hk
   split at h
   ·exact h.elim
   ·rename_i hk2
    split at h
    ·rename_i zero hzero
     split at h
     ·rename_i rows hpos hbig hn hrows
      have hn := Nat.le_of_ble_eq_true hn
      obtain ⟨vs', hrun, hfl, hlen, hzs⟩ := buildSlice_run (ρ' := ρ') hT hρ hk (fun h0 => hk2 h0) hzero (Nat.le_of_ble_eq_true hpos) (Nat.le_of_ble_eq_true hbig) hrows
      rw [hzs] at hfl
      have hvs : vs'.size = n * (T.get el).size := by have := hfl.len; rw [hlen, Array.length_toList] at this; exact this
      obtain ⟨e1, h1, h2, h3⟩ := append_fin (more := rows) (v' := .slice (some ⟨w.heap.size, 0, none⟩) n n) (w1 := w.alloc (.cells vs' el)) hT hS (fun h0 => hk2 h0) (by have := Nat.le_of_ble_eq_true hpos; omega) (.slnil) σ.tk (fun _ h => h) (fun r hr => by cases hr) (fun r hr => hfl.wid r hr)
       (fun a o c hv => by simp at hv) rfl rfl rfl (Grows.alloc w _).size (fun b off u hu _ => .inl (by rw [(Grows.alloc w _).cell (cell_lt hu)]; exact hu)) (fun b hb _ => heap_alloc_old w _ b hb)
       (.inr ⟨w.heap.size, 0, n, vs', el, (0, 0), by simp [hlen], hS.big, by simp [hlen], heap_alloc_new w _, ⟨by omega, rfl, rfl, by omega⟩, fun o _ _ => by simp, .inr (Nat.le_refl _), vs'.toList, by simpa using hfl, fun k u hk => by
        simp only [World.cell?, Nat.zero_add]
        rw [heap_alloc_new w (.cells vs' el)]
        simpa using hk⟩)
      refine ⟨_, _, _, _, e1, h, ?_, h1, h2, h3⟩
      unfold execOp
      simp only [ho, Sem.run_bind]
      rw [show (Array.map (fun x => match x with | (i, x) => (i, ρ' x)) ps) = (ps.map fun p => (p.1, ρ' p.2)) from rfl, hrun]
      rfl
     ·exact h.elim
    ·exact h.elim
  ·exact h.elim
 ·rename_i s d x ho
  have hx := hρ x
  split at h
  ·rename_i el hk
   obtain ⟨i, ds, z, hi, hd, hs, hby, hkd, hz, hz2, _⟩ := (hT.get (t := s) (by rw [hk]; simp)).ex
   rw [hk] at hkd; cases hkd
   split at h
   ·rename_i b off n hk2 hk3 heqx
    obtain ⟨i2, dd, z2, hi2, hd2, hs2, hby2, hkd2, hz2, hz22, _⟩ := (hT.get (t := d) (by rw [hk2]; simp)).ex
    rw [hk2] at hkd2; cases hkd2
    obtain ⟨i3, de, z3, hi3, hd3, hs3, hby3, hkd3, hz3, hz33, _⟩ := (hT.get (t := el) (by rw [hk3]; simp)).ex
    rw [hk3] at hkd3; cases hkd3
    rw [heqx] at hx
    split at h
    ·rename_i tb cs hbx
     obtain ⟨l, hln, htk, hK⟩ := h
     generalize hv : ρ' x = vx at hx
     cases hx with
     | asl _ _ _ hb =>
      refine ⟨_, _, _, _, e, hK, ?_, Stepped.refl e σ w, hS, .mkstr⟩
      unfold execOp
      simp only [ho, convert, Sem.run_bind, run_underlying' hd, run_underlying' hd2, Result.andThen, hv]
      simp only [run_underlying' hd3, Sem.run_bind, Result.andThen, asl_bytes (hS.box b _ hbx) htk hln, Sem.run_pure]
    ·exact h.elim
   ·exact h.elim
  ·exact h.elim
 ·exact h.elim
theorem qopG_sound (hT : TabOK T G.P) (hS : SRel G e σ w) {K : PV → Prop} {ρ : Operand → PV} {ρ' : Operand → Value} (hρ : ∀ x, VRel G e σ w (ρ x) (ρ' x)) (o : Oper) (h : qopG T o.op o.type ρ σ.bx K) :
  ∃ pv v w1, K pv ∧ Grows w w1 ∧ VRel G e σ w1 pv v ∧ (execOp ρ' o).run G.P w = .ok (.value v) w1 := by
 unfold qopG at h
 split at h
 ·rename_i x hx
  unfold isS2B at hx
  split at hx
  ·rename_i s d x' ho
   split at hx
   ·rename_i hks
    split at hx
    ·rename_i el hkd
     split at hx
     ·rename_i hke
      cases hx
      obtain ⟨i1, d1, z1, hi1, hd1, hs1, hby1, hkd1, _⟩ := (hT.get (t := s) (by rw [hks]; simp)).ex
      obtain ⟨i2, d2, z2, hi2, hd2, hs2, hby2, hkd2, _⟩ := (hT.get (t := d) (by rw [hkd]; simp)).ex
      obtain ⟨i3, d3, z3, hi3, hd3, hs3, hby3, hkd3, _⟩ := (hT.get (t := el) (by rw [hke]; simp)).ex
      rw [hks] at hkd1; rw [hkd] at hkd2; rw [hke] at hkd3
      obtain rfl : d1 = .string := hkd1
      obtain rfl : d2 = .slice el := hkd2
      obtain rfl : d3 = .int .u8 := hkd3
      have hx := hρ x
      split at h
      ·rename_i l heq
       rw [heq] at hx
       have hg : Grows w (Lib.bytesWorld w el ⟨l.toArray⟩) := ⟨rfl, rfl, rfl, by rw [Lib.bytesWorld_size]; omega, fun b hb => Lib.bytesWorld_at_old w el _ b hb⟩
       refine ⟨_, .slice (some ⟨w.heap.size, 0, none⟩) l.length (grownCap w l.length 0 el), _, h, hg, ?_, ?_⟩
       ·refine .d _ _ ?_
        have := DRel.sl (ok := okc e σ) (w := Lib.bytesWorld w el ⟨l.toArray⟩) (l.map fun b : UInt8 => [D.int .u8 b.toNat]) w.heap.size 0 (grownCap w l.length 0 el) 1 (fun i _ => .int .u8 (l.getD i 0).toNat) ?_ ?_ ?_ ?_ ?_
        ·simpa using this
        ·simp only [List.length_map]; exact grownCap_ge w l.length 0 el
        ·intro r hr; simp only [List.mem_map] at hr; obtain ⟨b, _, rfl⟩ := hr; rfl
        ·intro i j hi hj
         simp only [List.length_map] at hi
         have : j = 0 := by omega
         subst this
         simp only [Nat.zero_add, Nat.mul_one, Nat.add_zero]
         have := Lib.bytesWorld_cell w el ⟨l.toArray⟩ i (show i < l.toArray.size by simpa using hi)
         simpa using this
        ·intro i j hi hj
         refine ⟨fun hX => ?_, fun k hk => ?_, fun t ht p hp hpb => ?_⟩
         ·have := hS.xlt _ _ hX; omega
         ·have := hS.lt hk; omega
         ·obtain ⟨_, _, cs, ty, fz, hh⟩ := hS.own t ht p hp
          have := (Array.getElem?_eq_some_iff.1 hh).1
          omega
        ·intro i j y hy
         rw [List.getElem?_map] at hy
         cases hli : l[i]? with
         | none => rw [hli] at hy; simp at hy
         | some b =>
          rw [hli] at hy
          cases j with
          | zero => simp at hy; subst hy; simp only [List.getD_eq_getElem?_getD, hli, Option.getD_some]; exact .int _ _
          | succ j => simp at hy
       ·unfold execOp
        simp only [ho, hx.dstr]
        rw [Sem.run_bind, Lib.run_convert_string_bytes w s d el ⟨l.toArray⟩ hd1 hd2 hd3]
        rfl
      ·exact h.elim
     ·cases hx
    ·cases hx
   ·cases hx
  ·cases hx
 ·split at h
  ·rename_i t n ps ho
   split at h
   ·rename_i el hk
    split at h
    ·exact h.elim
    ·rename_i hk2
     split at h
     ·rename_i zero hzero
      split at h
      ·rename_i rows hpos hbig hrows
       obtain ⟨v, w1, hrun, hg, hD⟩ := buildSlice_sound hT hS hρ hk (fun h0 => hk2 h0) hzero (Nat.le_of_ble_eq_true hpos) (Nat.le_of_ble_eq_true hbig) hrows
       refine ⟨_, v, w1, h, hg, .d _ _ hD, ?_⟩
       unfold execOp
       simp only [ho, Sem.run_bind]
       rw [show (Array.map (fun x => match x with | (i, x) => (i, ρ' x)) ps) = (ps.map fun p => (p.1, ρ' p.2)) from rfl, hrun]
       rfl
      ·exact h.elim
     ·exact h.elim
   ·exact h.elim
  ·obtain ⟨pv, v, h1, h2, h3⟩ := qop_sound hT hS hρ o h
   exact ⟨pv, v, w, h1, Grows.refl w, h2, h3⟩
theorem eop_sound (hT : TabOK T G.P) (hS : SRel G e σ w) {K : PV → St → Prop} {ρ : Operand → PV} {ρ' : Operand → Value} (hρ : ∀ x, VRel G e σ w (ρ x) (ρ' x)) (o : Oper) (h : eop T o.op ρ σ K) :
  ∃ pv σ1 v w1 e1, K pv σ1 ∧ Comes1 G.P ρ' o w v w1 ∧ Stepped e σ w e1 σ1 w1 ∧ SRel G e1 σ1 w1 ∧ VRel G e1 σ1 w1 pv v := by
 unfold eop at h
 split at h
 ·rename_i el ho
  split at h
  ·exact h.elim
  ·rename_i hk
   obtain ⟨i, d, z, hi, hd, hs, hby, hkd, hz, hz2, hzl, _⟩ := (hT.get (t := el) (fun h0 => hk h0)).ex
   obtain ⟨hz3, hz4⟩ := zeroL_rel (G := G) (e := e) (σ := σ) (w := w) hz2
   obtain ⟨h1, h2, h3⟩ := alloc_cells hS el (T.get el).zero z.cells (by simpa using hz3) (fun i x u hx hu => hz4 i x u hx (by rw [Array.getElem?_toList]; exact hu))
   refine ⟨_, _, _, _, _, h, .inl ?_, h1, h2, h3⟩
   unfold execOp
   simp only [ho, Instr.alloc, zeroValue, Sem.run_bind, run_typeInfo' hi, Result.andThen, hz, Sem.run_pure]
   rfl
 ·rename_i el x ho
  split at h
  ·rename_i l hl
   obtain ⟨hc1, hc2⟩ := cells_rel (hρ x) hl
   obtain ⟨h1, h2, h3⟩ := alloc_cells hS el l (ρ' x).cells hc1 hc2
   exact ⟨_, _, _, _, _, h, .inl (by unfold execOp; simp only [ho]; rfl), h1, h2, h3⟩
  ·exact h.elim
 ·rename_i t a x ho
  have ha := hρ a
  split at h
  ·rename_i b off heq; rw [heq] at ha
   split at h
   ·rename_i ty cs hb
    split at h
    ·rename_i l hl
     split at h
     ·exact h.elim
     ·rename_i h1 h2 hk
      generalize hv : ρ' a = v at ha
      cases ha with
      | ptr b off hbl =>
       obtain ⟨w1, hrun, hst, hS1⟩ := store_sound hT hS hb (hρ x) hl (Nat.eq_of_beq_eq_true h1) (Nat.le_of_ble_eq_true h2) (fun h0 => hk h0)
       refine ⟨_, _, Go.undef, w1, e, h, .inr ⟨?_, rfl⟩, hst, hS1, .undef _⟩
       unfold execOp
       simp only [ho, hv, Sem.run_bind, hrun, Result.andThen, Sem.run_pure]
     ·exact h.elim
    ·exact h.elim
   ·exact h.elim
  ·exact h.elim
 ·rename_i t x ho
  split at h
  ·rename_i hk
   obtain ⟨i, d, z, hi, hd, hs, hby, hkd, hz, hz2, hzl, _⟩ := (hT.get (t := t) (by rw [hk]; simp)).ex
   rw [hk] at hkd; cases hkd
   split at h
   ·rename_i s heq
    have hx := hρ x
    rw [heq] at hx
    have hxv := hx.dstr
    obtain ⟨h1, h2, h3⟩ := alloc_box hS (.iter s 0) (.stringIter ⟨s.toArray⟩ 0) (fun _ _ _ _ hh => hh)
    refine ⟨_, _, _, _, _, h, .inl ?_, h1, h2, h3⟩
    unfold execOp
    simp only [ho, hxv, Instr.range, Sem.run_bind, run_underlying' hd, Result.andThen, Sem.run_pure, run_newObj]
    rfl
   ·exact h.elim
  ·exact h.elim
 ·rename_i x ho
  have hx := hρ x
  split at h
  ·rename_i b heq; rw [heq] at hx
   split at h
   ·rename_i s pos hb
    generalize hv : ρ' x = v at hx
    cases hx with
    | ptr b off hbl =>
     obtain ⟨pv, σ1, v, w1, hK, hrun, hst, hS1, hr⟩ := next_sound hS hb o.type h
     refine ⟨pv, σ1, v, w1, e, hK, .inl ?_, hst, hS1, hr⟩
     unfold execOp
     simp only [ho, hv, Sem.run_bind, hrun, Result.andThen, Sem.run_pure]
   ·exact h.elim
  ·exact h.elim
 ·rename_i args argTypes ho
  split at h
  ·rename_i t tx s x hts hvs
   have hat : argTypes = #[t, tx] := by rw [← Array.toArray_toList (xs := argTypes), hts]
   obtain ⟨q1, q2, hargs⟩ : ∃ q1 q2, args.toList = [q1, q2] := by
    cases hl : args.toList with
    | nil => rw [hl] at hvs; cases hvs
    | cons a l => cases l with
     | nil => rw [hl] at hvs; cases hvs
     | cons b l => cases l with
      | nil => exact ⟨a, b, rfl⟩
      | cons c l => rw [hl] at hvs; simp at hvs
   have ha : args = #[q1, q2] := by rw [← Array.toArray_toList (xs := args), hargs]
   rw [hargs] at hvs
   simp only [List.map_cons, List.map_nil, List.cons.injEq, and_true] at hvs
   obtain ⟨hs', hx'⟩ := hvs
   have hrs := hρ q1
   have hrx := hρ q2
   rw [hs'] at hrs
   rw [hx'] at hrx
   have hexec : ∀ v' w1, (Builtin.append_ #[t, tx] o.type #[ρ' q1, ρ' q2]).run G.P w = .ok v' w1 → Comes1 G.P ρ' o w v' w1 := fun v' w1 hr => .inl (by
    unfold execOp
    simp only [ho, resolve, invoke, builtin, Sem.run_bind, Sem.run_pure, Result.andThen, ha, hat]
    rw [show Array.map ρ' #[q1, q2] = #[ρ' q1, ρ' q2] from by simp, hr])
   split at h
   ·rename_i el hk
    split at h
    ·exact h.elim
    ·rename_i hk2
     split at h
     ·rename_i more hpos hm
      split at h
      ·rename_i el2
       obtain ⟨hw, hb, hl, hK⟩ := h
       generalize hv : ρ' q1 = v at hrs hexec
       cases hrs with
       | nils =>
        obtain ⟨v', w1, e1, hrun, hst, hS1, hr⟩ := append_rel (ty := o.type) hT hS hk (fun h0 => hk2 h0) (Nat.le_of_ble_eq_true hpos) (rows := []) (.slnil) σ.tk (fun _ h => h) (.inl ⟨rfl, rfl⟩) hm hrx hw (by simpa using hb) (by simpa using hl)
        exact ⟨_, _, v', w1, e1, hK, hexec v' w1 hrun, hst, hS1, hr⟩
      ·rename_i tok e2 rows
       split at h
       ·rename_i hmem he2
        obtain ⟨hw, hb, hl, hK⟩ := h
        have := Nat.eq_of_beq_eq_true he2
        subst this
        have hmem' := (nmem_iff _ _).1 hmem
        generalize hv : ρ' q1 = v at hrs hexec
        cases hrs with
        | sl tok e2 rows v hn hd ht =>
         obtain ⟨v', w1, e1, hrun, hst, hS1, hr⟩ := append_rel (ty := o.type) hT hS hk (fun h0 => hk2 h0) (Nat.le_of_ble_eq_true hpos) hd (ndel tok σ.tk) (fun x hx => ((mem_ndel _ _ _).1 hx).1) (.inr ⟨tok, hmem', fun h => ((mem_ndel _ _ _).1 h).2 rfl, ht hmem'⟩) hm hrx hw hb hl
         exact ⟨_, _, v', w1, e1, hK, hexec v' w1 hrun, hst, hS1, hr⟩
       ·exact h.elim
      ·exact h.elim
     ·exact h.elim
   ·exact h.elim
  ·exact h.elim
 ·exact h.elim
end
end Go.PM
end
