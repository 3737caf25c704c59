/-
  THE PURE LOGIC, 4: the operations that leave the store alone.
-/
import Derived.Test.YtodfhajjdfbhgaaDoorPmTab
import Derived.Laws.Cells
import Derived.Laws.Slices
import Derived.Laws.Strings
import GoSem.Dispatch
set_option linter.unusedVariables false
set_option linter.unusedSimpArgs false
set_option linter.all false
namespace Go.PM

section inv
variable {G : GE} {e : Env} {σ : St} {w : World} {v : Value}
theorem DRel.one {ok : Nat → Nat → Prop} {x : D} (h : DRel ok w x v) : v.oneCell' = true := by cases h <;> rfl
theorem VRel.dint {k : IntKind} {n : Int} (h : VRel G e σ w (.d (.int k n)) v) : v = .int k n := by cases h with | d _ _ h => cases h; rfl
theorem VRel.dbool {b : Bool} (h : VRel G e σ w (.d (.bool b)) v) : v = .bool b := by cases h with | d _ _ h => cases h; rfl
theorem VRel.dstr {s : List UInt8} (h : VRel G e σ w (.d (.str s)) v) : v = .string ⟨s.toArray⟩ := by cases h with | d _ _ h => cases h; rfl
theorem VRel.mkint {k : IntKind} {n : Int} : VRel G e σ w (.d (.int k n)) (.int k n) := .d _ _ (.int _ _)
theorem VRel.mkbool {b : Bool} : VRel G e σ w (.d (.bool b)) (.bool b) := .d _ _ (.bool _)
theorem VRel.mkstr {s : List UInt8} : VRel G e σ w (.d (.str s)) (.string ⟨s.toArray⟩) := .d _ _ (.str _)
theorem toD_rel {x : PV} {y : D} (hy : toD x = some y) (h : VRel G e σ w x v) : DRel (okc e σ) w y v := by
  cases h with
  | d x v h => cases hy; exact h
  | sl t el rows v hn hd _ => cases hy; exact hd
  | nils el => cases hy; exact .slnil
  | _ => cases hy
theorem DRel.sl_inv {ok : Nat → Nat → Prop} {rows : List (List D)} (h : DRel ok w (.sl rows) v) : ∃ a cap, v = .slice a rows.length cap ∧ rows.length ≤ cap := by
  cases h with
  | slnil => exact ⟨none, 0, rfl, Nat.le_refl _⟩
  | sl rows b off cap sz u hcap hsz hc ho hu => exact ⟨some ⟨b, off, none⟩, cap, rfl, hcap⟩
end inv

theorem run_typeInfo' {P : Program} {t : TypeId} {i : TypeInfo} (h : P.info? t = some i) (w : World) : (typeInfo t).run P w = .ok i w := by simp [typeInfo, h]
theorem run_sizeOf' {P : Program} {t : TypeId} {i : TypeInfo} (h : P.info? t = some i) (w : World) : (sizeOf t).run P w = .ok i.size w := by simp [sizeOf, run_typeInfo' h]
theorem run_underlying' {P : Program} {t : TypeId} {d : TypeDesc} (h : P.underlying t = some d) (w : World) : (underlying t).run P w = .ok d w := by simp [underlying, h]
theorem isAgg_of {P : Program} {k : TK} {d : TypeDesc} (h : KindOK P k d) {t : TypeId} (hd : P.underlying t = some d) (w : World) : (isAgg t).run P w = .ok k.isAgg w := by
  unfold isAgg
  simp only [Sem.run_bind, run_underlying' hd, Result.andThen]
  cases k with
  | struct fs => obtain ⟨gs, rfl, _⟩ := h; rfl
  | func => obtain ⟨a, b, c, rfl⟩ := h; rfl
  | iface => obtain ⟨ms, rfl⟩ := h; rfl
  | other => cases h
  | _ => cases h; rfl

theorem takeN_spec {α : Type} : ∀ {n : Nat} {l r : List α}, takeN n l = some r → r.length = n ∧ ∀ i, i < n → l[i]? = r[i]?
  | 0, l, r, h => by simp [takeN] at h; subst h; exact ⟨rfl, fun i hi => by omega⟩
  | n + 1, [], r, h => by simp [takeN] at h
  | n + 1, x :: l, r, h => by
    simp only [takeN] at h
    split at h
    · rename_i r' hr
      cases h
      obtain ⟨h1, h2⟩ := takeN_spec hr
      refine ⟨by simp [h1], fun i hi => ?_⟩
      cases i with
      | zero => rfl
      | succ i => simpa using h2 i (by omega)
    · cases h

theorem add_addr (b o i : Nat) : (⟨b, o, none⟩ : Addr).add i = ⟨b, o + i, none⟩ := by
  unfold Addr.add
  split
  · subst_vars; rfl
  · rfl
/-- Reading a variable cell by cell. -/
theorem run_loadVar' {P : Program} {t : TypeId} {i : TypeInfo} {d : TypeDesc} {k : TK} (hi : P.info? t = some i) (hd : P.underlying t = some d) (hk : KindOK P k d) (w : World) (b o : Nat) (g : Nat → Value)
    (hc : ∀ j, j < (if k.isAgg then i.size else 1) → w.cell? ⟨b, o + j, none⟩ = some (g j)) :
    (loadVar t ⟨b, o, none⟩).run P w = .ok (if k.isAgg then .agg ((List.range i.size).map g).toArray else g 0) w := by
  unfold loadVar
  simp only [Sem.run_bind, isAgg_of hk hd, Result.andThen]
  cases hka : k.isAgg with
  | true =>
    simp only [if_true, Sem.run_bind, run_sizeOf' hi, Result.andThen]
    rw [run_loadCells w ⟨b, o, none⟩ i.size g (fun j hj => by rw [add_addr]; exact hc j (by simp [hka, hj]))]
    rfl
  | false =>
    simp only [Bool.false_eq_true, if_false, run_load]
    have := hc 0 (by simp [hka])
    simp only [Nat.add_zero] at this
    rw [this]

section
variable {G : GE} {e : Env} {σ : St} {w : World}
theorem BRel.cell {t : TypeId} {cs : List PV} {b : Nat} (h : BRel G e σ w (.cells t cs) b) {o : Nat} {x : PV} (hx : cs[o]? = some x) : ∃ u, w.cell? ⟨b, o, none⟩ = some u ∧ VRel G e σ w x u ∧ u.oneCell' = true := by
  obtain ⟨vs, h1, h2, h3⟩ := h
  have ho : o < vs.size := by rw [h2]; exact (List.getElem?_eq_some_iff.1 hx).1
  have hv : vs[o]? = some vs[o] := Array.getElem?_eq_getElem ho
  exact ⟨vs[o], by simp [World.cell?, h1, hv], (h3 o x _ hx hv).1, (h3 o x _ hx hv).2⟩

/-- A load, out of a box or out of a row. -/
theorem load_sound {T : Tab} {K : PV → Prop} (hT : TabOK T G.P) (hS : SRel G e σ w) {t : TypeId} {x : PV} {v : Value} (hv : VRel G e σ w x v)
    (h : pload T t x σ.bx K) : ∃ pv u, K pv ∧ VRel G e σ w pv u ∧ (Instr.loadAt t v).run G.P w = .ok u w := by
  cases hv with
  | ptr b off hb =>
    simp only [pload] at h
    split at h
    · rename_i ty cs hbx
      have hB := hS.box b _ hbx
      split at h
      · rename_i hk
        obtain ⟨i, d, z, hi, hd, hs, hby, hkd, hz, hz2, _⟩ := (hT.get (t := t) (by intro h0; rw [h0] at hk; cases hk)).ex
        split at h
        · rename_i l hl
          obtain ⟨hll, hlg⟩ := takeN_spec hl
          have hcell : ∀ j, j < i.size → ∃ u x, l[j]? = some x ∧ w.cell? ⟨e.β b, off + j, none⟩ = some u ∧ VRel G e σ w x u ∧ u.oneCell' = true := fun j hj => by
            have h1 : j < l.length := by omega
            have h2 := hlg j (by omega)
            rw [List.getElem?_eq_getElem h1, List.getElem?_drop] at h2
            obtain ⟨u, hu1, hu2, hu3⟩ := hB.cell h2
            exact ⟨u, l[j], List.getElem?_eq_getElem h1, hu1, hu2, hu3⟩
          have hrun := run_loadVar' hi hd hkd w (e.β b) off (fun j => (w.cell? ⟨e.β b, off + j, none⟩).getD undef) (fun j hj => by
            rw [hk] at hj
            obtain ⟨u, x, _, hu, _⟩ := hcell j hj
            rw [hu]; rfl)
          rw [hk] at hrun
          refine ⟨_, _, h, ?_, by simp only [Instr.loadAt, Instr.sureAddr, Sem.run_bind, Sem.run_pure, Result.andThen]; exact hrun⟩
          refine .agg _ _ (by simp [hll, hs]) (fun j x u hx hu => ?_) (fun u hu => ?_)
          · have hj : j < i.size := by have := (List.getElem?_eq_some_iff.1 hx).1; omega
            obtain ⟨u', x', hx', hu', hr, _⟩ := hcell j hj
            simp [hj, hu'] at hu
            rw [hx'] at hx; cases hx; subst hu; exact hr
          · simp only [List.mem_toArray, List.mem_map, List.mem_range] at hu
            obtain ⟨j, hj, rfl⟩ := hu
            obtain ⟨u', x', hx', hu', hr, h1⟩ := hcell j hj
            rw [hu']; exact h1
        · exact h.elim
      · rename_i hk
        split at h
        · exact h.elim
        · rename_i hk2
          obtain ⟨i, d, z, hi, hd, hs, hby, hkd, hz, hz2, _⟩ := (hT.get (t := t) (fun h0 => hk2 h0)).ex
          split at h
          · rename_i y hy
            obtain ⟨u, hu1, hu2, hu3⟩ := hB.cell hy
            have hrun := run_loadVar' hi hd hkd w (e.β b) off (fun _ => u) (fun j hj => by
              rw [hk] at hj
              have : j = 0 := by simpa using hj
              subst this; simpa using hu1)
            rw [hk] at hrun
            exact ⟨_, _, h, hu2, by simp only [Instr.loadAt, Instr.sureAddr, Sem.run_bind, Sem.run_pure, Result.andThen]; exact hrun⟩
          · exact h.elim
    · exact h.elim
  | elem r off b o u hc ho hu =>
    simp only [pload] at h
    split at h
    · rename_i hk
      obtain ⟨i, d, z, hi, hd, hs, hby, hkd, hz, hz2, _⟩ := (hT.get (t := t) (by intro h0; rw [h0] at hk; cases hk)).ex
      split at h
      · rename_i l hl
        obtain ⟨hll, hlg⟩ := takeN_spec hl
        have hrj : ∀ j, j < i.size → off + j < r.length ∧ r[off + j]? = l[j]? := fun j hj => by
          have h1 : j < l.length := by omega
          have h2 := hlg j (by omega)
          rw [List.getElem?_drop] at h2
          refine ⟨?_, h2⟩
          rw [List.getElem?_eq_getElem h1] at h2
          exact (List.getElem?_eq_some_iff.1 h2).1
        have hrun := run_loadVar' hi hd hkd w b (o + off) (fun j => u (off + j)) (fun j hj => by
          rw [hk] at hj
          have := hc _ (hrj j hj).1
          rwa [← Nat.add_assoc] at this)
        rw [hk] at hrun
        refine ⟨_, _, h, ?_, by simp only [Instr.loadAt, Instr.sureAddr, Sem.run_bind, Sem.run_pure, Result.andThen]; exact hrun⟩
        have hrel : ∀ j x, j < i.size → l[j]? = some x → DRel (okc e σ) w x (u (off + j)) := fun j x hj hx => hu (off + j) x (by rw [(hrj j hj).2]; exact hx)
        refine .agg _ _ (by simp [hll, hs]) (fun j x v hx hv => ?_) (fun v hv => ?_)
        · rw [List.getElem?_map] at hx
          cases hlj : l[j]? with
          | none => rw [hlj] at hx; cases hx
          | some y =>
            rw [hlj] at hx; cases hx
            have hj : j < i.size := by have := (List.getElem?_eq_some_iff.1 hlj).1; omega
            simp [hj] at hv
            subst hv
            exact .d _ _ (hrel j y hj hlj)
        · simp only [List.mem_toArray, List.mem_map, List.mem_range] at hv
          obtain ⟨j, hj, rfl⟩ := hv
          have h1 : j < l.length := by omega
          exact (hrel j _ hj (List.getElem?_eq_getElem h1)).one
      · exact h.elim
    · rename_i hk
      split at h
      · exact h.elim
      · rename_i hk2
        obtain ⟨i, d, z, hi, hd, hs, hby, hkd, hz, hz2, _⟩ := (hT.get (t := t) (fun h0 => hk2 h0)).ex
        split at h
        · rename_i y hy
          have hlt := (List.getElem?_eq_some_iff.1 hy).1
          have hrun := run_loadVar' hi hd hkd w b (o + off) (fun _ => u off) (fun j hj => by
            rw [hk] at hj
            have : j = 0 := by simpa using hj
            subst this; simpa using hc off hlt)
          rw [hk] at hrun
          exact ⟨_, _, h, .d _ _ (hu off y hy), by simp only [Instr.loadAt, Instr.sureAddr, Sem.run_bind, Sem.run_pure, Result.andThen]; exact hrun⟩
        · exact h.elim
  | _ => exact h.elim

/-! ### Arithmetic and comparison -/
theorem run_bits {P : Program} (op : BinOp) (k : IntKind) (a b : Int) (w : World) (h : op = .and ∨ op = .or ∨ op = .xor ∨ op = .andNot) : (Op.intBits op k a b).run P w = .ok (.int k (bitsOf op k a b)) w := by
  rw [bitsOf_eq]; rcases h with rfl | rfl | rfl | rfl <;> rfl
theorem wrapK_sound {k : IntKind} {n : Int} {K : PV → Prop} (h : wrapK k n K) : ∃ pv, K pv ∧ VRel G e σ w pv (.int k (k.wrap n)) := by
  rcases h with ⟨h1, h2⟩ | h
  · exact ⟨_, h2, by rw [show k.wrap n = n from h1]; exact .mkint⟩
  · exact ⟨_, h, .mkint⟩
theorem wrapK_run {k : IntKind} {n : Int} {K : PV → Prop} (h : wrapK k n K) {s : Sem Value} {P : Program} (hs : s.run P w = .ok (.int k (k.wrap n)) w) : ∃ pv u, K pv ∧ VRel G e σ w pv u ∧ s.run P w = .ok u w := by
  obtain ⟨pv, h1, h2⟩ := wrapK_sound (G := G) (e := e) (σ := σ) (w := w) h
  exact ⟨pv, _, h1, h2, hs⟩
theorem pint_sound {op : BinOp} {k : IntKind} {a b : Int} {K : PV → Prop} (h : pint op k a b K) (t : TypeId) (x y : Operand) :
    ∃ pv u, K pv ∧ VRel G e σ w pv u ∧ (do eqGuard op t x y (.int k a) (.int k b); binOp op t (.int k a) (.int k b) : Sem Value).run G.P w = .ok u w := by
  have hg : (eqGuard op t x y (.int k a) (.int k b)).run G.P w = .ok () w := by cases op <;> rfl
  cases op <;> simp only [pint] at h <;> simp only [Sem.run_bind, hg, Result.andThen]
  case add => exact wrapK_run h (by simp [binOp, Op.intArith])
  case sub => exact wrapK_run h (by simp [binOp, Op.intArith])
  case mul => exact wrapK_run h (by simp [binOp, Op.intArith])
  case quo => exact wrapK_run h.2 (by simp [binOp, Op.intDiv, h.1])
  case rem => exact ⟨_, _, h.2, .mkint, by simp [binOp, Op.intDiv, h.1]⟩
  case and => exact ⟨_, _, h, .mkint, by simp [binOp, run_bits]⟩
  case or => exact ⟨_, _, h, .mkint, by simp [binOp, run_bits]⟩
  case xor => exact ⟨_, _, h, .mkint, by simp [binOp, run_bits]⟩
  case andNot => exact ⟨_, _, h, .mkint, by simp [binOp, run_bits]⟩
  case eql => exact ⟨_, _, h, .mkbool, by simp [binOp, Op.intCmp]; rfl⟩
  case neq => exact ⟨_, _, h, .mkbool, by simp [binOp, Op.intCmp, bne]; rfl⟩
  case lss => exact ⟨_, _, h, .mkbool, by simp [binOp, Op.intCmp]⟩
  case leq => exact ⟨_, _, h, .mkbool, by simp [binOp, Op.intCmp]⟩
  case gtr => exact ⟨_, _, h, .mkbool, by simp [binOp, Op.intCmp]⟩
  case geq => exact ⟨_, _, h, .mkbool, by simp [binOp, Op.intCmp]⟩
theorem toList_mk (s : List UInt8) : (⟨s.toArray⟩ : ByteArray).toList = s := ByteArray.toList_mk s
theorem beq_dec {α : Type} [BEq α] [LawfulBEq α] [DecidableEq α] (a b : α) : (a == b) = decide (a = b) := by rw [Bool.eq_iff_iff]; simp
theorem eqFields_sound {T : Tab} (hT : TabOK T G.P) (d : Nat) {xs ys : Array Value} : ∀ {fs : List (Nat × Nat)} {gs : List Field} {i : Nat} {px py : List PV} {K : Bool → Prop}, FieldsOK G.P fs gs → gs.all (fun f => f.name != "_") = true →
    (∀ (j : Nat) (x : PV), px[j]? = some x → ∃ u, xs[i + j]? = some u ∧ VRel G e σ w x u) → (∀ (j : Nat) (x : PV), py[j]? = some x → ∃ u, ys[i + j]? = some u ∧ VRel G e σ w x u) → peqCells T i fs px py K →
    ∃ r, K r ∧ (Op.eqFields (d + 1) xs ys gs).run G.P w = .ok r w
  | [], gs, i, px, py, K, hf, hn, hx, hy, h => by
    cases hf
    cases px <;> cases py <;> first | exact ⟨_, h, rfl⟩ | exact h.elim
  | (o', t') :: fs', gs, i', px, py, K, hf, hn, hx, hy, h => by
    cases hf with
    | cons _ _ _ f gs info ho ht hi hs hf =>
      simp only [List.all_cons, Bool.and_eq_true] at hn
      cases px with
      | nil => exact h.elim
      | cons x xs' =>
      cases py with
      | nil => exact h.elim
      | cons y ys' =>
        obtain ⟨u, hu, hxu⟩ := hx 0 x rfl
        obtain ⟨v, hv, hyv⟩ := hy 0 y rfl
        simp only [Nat.add_zero] at hu hv
        have hx' : ∀ (j : Nat) (z : PV), xs'[j]? = some z → ∃ u, xs[i' + 1 + j]? = some u ∧ VRel G e σ w z u := fun j z hz => by have := hx (j + 1) z (by simpa using hz); rwa [show i' + (j + 1) = i' + 1 + j by omega] at this
        have hy' : ∀ (j : Nat) (z : PV), ys'[j]? = some z → ∃ u, ys[i' + 1 + j]? = some u ∧ VRel G e σ w z u := fun j z hz => by have := hy (j + 1) z (by simpa using hz); rwa [show i' + (j + 1) = i' + 1 + j by omega] at this
        have hname : f.name ≠ "_" := by simpa using hn.1
        have fin : ∀ (b : Bool) (K1 : Bool → Prop), o' = i' → (T.get t').kind ≠ .other → (T.get t').kind.isAgg = false → (Op.equalIn (d + 1) t' u v).run G.P w = .ok b w → (peqCells T (i' + 1) fs' xs' ys' fun r => K1 (b && r)) →
            ∃ r, K1 r ∧ (Op.eqFields (d + 1) xs ys (f :: gs)).run G.P w = .ok r w := fun b K1 hoi hko hka he hk => by
          obtain ⟨r, h1, h2⟩ := eqFields_sound hT d hf hn.2 hx' hy' hk
          obtain ⟨i2, d2, z2, hi2, hd2, hs2, hby2, hkd2, _⟩ := (hT.get hko).ex
          have hpx : ∀ (zs : Array Value) (q : Value), zs[i']? = some q → (part t' zs f.offset).run G.P w = .ok q w := fun zs q hq => by
            unfold part
            simp only [Sem.run_bind, isAgg_of hkd2 hd2, Result.andThen, hka]
            simp [ho, hoi, hq]
          refine ⟨_, h1, ?_⟩
          simp only [Op.eqFields]
          rw [if_pos hname]
          simp only [Sem.run_bind, ht, hpx xs u hu, hpx ys v hv, he, Result.andThen]
          cases b with
          | true => simp only [Bool.not_true, Bool.false_eq_true, if_false, Bool.true_and]; exact h2
          | false => simp
        have tk : ∀ (k : TK), (T.get t').kind = k → k ≠ .other → ∃ dd, G.P.underlying t' = some dd ∧ KindOK G.P k dd := fun k hk hko => by
          obtain ⟨i2, d2, z2, hi2, hd2, hs2, hby2, hkd2, _⟩ := (hT.get (t := t') (by rw [hk]; exact hko)).ex
          exact ⟨d2, hd2, by rw [← hk]; exact hkd2⟩
        simp only [peqCells] at h
        split at h
        · rename_i k0 k a k' b hoi hkind
          obtain ⟨dd, hd1, hd2⟩ := tk _ hkind (by simp)
          cases hxu.dint; cases hyv.dint
          split at h
          · rename_i hk
            cases keq_eq hk
            refine fin (decide (a = b)) K (Nat.eq_of_beq_eq_true hoi) (by rw [hkind]; simp) (by rw [hkind]; rfl) ?_ h
            rw [run_equalIn_int w d _ k k0 a b (by rw [hd1]; exact congrArg some hd2), beq_dec]
          · exact h.elim
        · rename_i a b hoi hkind
          obtain ⟨dd, hd1, hd2⟩ := tk _ hkind (by simp)
          cases hxu.dstr; cases hyv.dstr
          refine fin (decide (a = b)) K (Nat.eq_of_beq_eq_true hoi) (by rw [hkind]; simp) (by rw [hkind]; rfl) ?_ h
          rw [run_equalIn_string w d _ _ _ (by rw [hd1]; exact congrArg some hd2), toList_mk, toList_mk, beq_dec]
        · rename_i a b hoi hkind
          obtain ⟨dd, hd1, hd2⟩ := tk _ hkind (by simp)
          cases hxu.dbool; cases hyv.dbool
          refine fin (decide (a = b)) K (Nat.eq_of_beq_eq_true hoi) (by rw [hkind]; simp) (by rw [hkind]; rfl) ?_ h
          rw [run_equalIn_bool w d _ a b (by rw [hd1]; exact congrArg some hd2), beq_dec]
        · exact h.elim
/-- No number and no string: '==' is the type's own. -/
def plainV : Value → Bool
  | .int _ _ => false | .string _ => false | .float _ _ => false | .complex _ _ _ => false | _ => true
theorem binOp_eql {t : TypeId} {vx vy : Value} (h : plainV vx = true) : binOp .eql t vx vy = (do pure (.bool (← Op.equal t vx vy))) := by
  cases vx <;> first | (cases h; done) | (cases vy <;> rfl)
theorem binOp_neq {t : TypeId} {vx vy : Value} (h : plainV vx = true) : binOp .neq t vx vy = (do pure (.bool (!(← Op.equal t vx vy)))) := by
  cases vx <;> first | (cases h; done) | (cases vy <;> rfl)
theorem guard_plain {P : Program} {op : BinOp} {t : TypeId} {x y : Operand} {vx vy : Value} (h : (match vx with | .nilIface => false | .agg _ => false | _ => true) = true) : (eqGuard op t x y vx vy).run P w = .ok () w := by
  cases op <;> first | rfl | (cases vx <;> first | (cases h; done) | rfl)
theorem equal_eq (t : TypeId) (x y : Value) : Op.equal t x y = Op.equalIn (9999 + 1) t x y := rfl
theorem peq_sound {T : Tab} (hT : TabOK T G.P) {t : TypeId} {x y : Operand} {px py : PV} {vx vy : Value} {K : Bool → Prop} (hx : VRel G e σ w px vx) (hy : VRel G e σ w py vy) (h : peq T t x y px py K) (op : BinOp) :
    ∃ b, K b ∧ (Op.equal t vx vy).run G.P w = .ok b w ∧ (eqGuard op t x y vx vy).run G.P w = .ok () w ∧ plainV vx = true := by
  have tk : ∀ (k : TK), (T.get t).kind = k → k ≠ .other → ∃ dd, G.P.underlying t = some dd ∧ KindOK G.P k dd ∧ ((T.get t).eqok = true → eqB G.P t dd = true) := fun k hk hko => by
    obtain ⟨i2, d2, z2, hi2, hd2, hs2, hby2, hkd2, _, _, _, _, h8⟩ := (hT.get (t := t) (by rw [hk]; exact hko)).ex
    exact ⟨d2, hd2, by rw [← hk]; exact hkd2, h8⟩
  have dn : ∀ {v : Value}, VRel G e σ w (.d .nilp) v → v = .pointer none := fun h => by cases h with | d _ _ h => cases h; rfl
  have df : ∀ {v : Value}, VRel G e σ w (.d .nilf) v → v = .nilFunc := fun h => by cases h with | d _ _ h => cases h; rfl
  have di : ∀ {v : Value}, VRel G e σ w (.d .nili) v → v = .nilIface := fun h => by cases h with | d _ _ h => cases h; rfl
  unfold peq at h
  split at h
  · rename_i hkind
    obtain ⟨dd, hd1, hd2, _⟩ := tk _ hkind (by simp)
    split at h
    · rename_i a b
      cases hx.dbool; cases hy.dbool
      exact ⟨_, h, by rw [run_equal_bool w t a b (by rw [hd1]; exact congrArg some hd2), beq_dec], guard_plain rfl, rfl⟩
    · exact h.elim
  · rename_i el hkind
    obtain ⟨dd, hd1, hd2, _⟩ := tk _ hkind (by simp)
    obtain rfl : dd = .pointer el := hd2
    split at h
    · cases dn hx; cases dn hy
      exact ⟨_, h, by rw [equal_eq, Op.equalIn]; simp [run_underlying' hd1], guard_plain rfl, rfl⟩
    · cases dn hx; cases hy
      exact ⟨_, h, by rw [equal_eq, Op.equalIn]; simp [run_underlying' hd1], guard_plain rfl, rfl⟩
    · cases dn hx; cases hy
      exact ⟨_, h, by rw [equal_eq, Op.equalIn]; simp [run_underlying' hd1], guard_plain rfl, rfl⟩
    · cases dn hy; cases hx
      exact ⟨_, h, by rw [equal_eq, Op.equalIn]; simp [run_underlying' hd1], guard_plain rfl, rfl⟩
    · cases dn hy; cases hx
      exact ⟨_, h, by rw [equal_eq, Op.equalIn]; simp [run_underlying' hd1], guard_plain rfl, rfl⟩
    · exact h.elim
  · rename_i hkind
    obtain ⟨dd, hd1, ⟨q1, q2, q3, rfl⟩, _⟩ := tk _ hkind (by simp)
    split at h
    · cases df hx; cases df hy
      exact ⟨_, h, by rw [equal_eq, Op.equalIn]; simp [run_underlying' hd1], guard_plain rfl, rfl⟩
    · cases df hx; cases hy
      exact ⟨_, h, by rw [equal_eq, Op.equalIn]; simp [run_underlying' hd1], guard_plain rfl, rfl⟩
    · cases df hy; cases hx
      exact ⟨_, h, by rw [equal_eq, Op.equalIn]; simp [run_underlying' hd1], guard_plain rfl, rfl⟩
    · exact h.elim
  · rename_i hkind
    obtain ⟨dd, hd1, ⟨q1, rfl⟩, _⟩ := tk _ hkind (by simp)
    split at h
    · cases di hx; cases di hy
      split at h
      · rename_i hc
        refine ⟨_, h, by rw [equal_eq, Op.equalIn]; simp [run_underlying' hd1], ?_, rfl⟩
        cases op <;> first | rfl | (unfold eqGuard; cases x <;> cases y <;> first | rfl | (cases hc; done))
      · exact h.elim
    · cases di hx; cases hy
      exact ⟨_, h, by rw [equal_eq, Op.equalIn]; simp [run_underlying' hd1], by cases op <;> rfl, rfl⟩
    · cases di hy; cases hx
      exact ⟨_, h, by rw [equal_eq, Op.equalIn]; simp [run_underlying' hd1], by cases op <;> rfl, rfl⟩
    · rename_i t1 k a t2 k' b
      cases hx with
      | iface _ _ u hu =>
      cases hy with
      | iface _ _ v hv =>
      cases hu.dint; cases hv.dint
      split at h
      · rename_i kk hb hkk hek
        cases Nat.eq_of_beq_eq_true hb
        split at h
        · rename_i hkq
          cases keq_eq hkq
          obtain ⟨i2, d2, z2, hi2, hd2, hs2, hby2, hkd2, _, _, _, _, h8⟩ := (hT.get (t := t1) (by rw [hkk]; simp)).ex
          rw [hkk] at hkd2
          obtain rfl : d2 = .int kk := hkd2
          have hc := h8 hek
          simp only [eqB, hi2] at hc
          refine ⟨_, h, ?_, by cases op <;> rfl, rfl⟩
          rw [equal_eq, Op.equalIn]
          simp only [Sem.run_bind, run_underlying' hd1, Result.andThen, ne_eq, not_true, if_false, run_typeInfo' hi2, hc, Bool.not_true, Bool.false_eq_true]
          rw [run_equalIn_int w 9998 t1 k kk a b hd2, beq_dec]
        · exact h.elim
      · rename_i hb
        have hne : t1 ≠ t2 := fun e => by subst e; simp at hb
        refine ⟨_, h, ?_, by cases op <;> rfl, rfl⟩
        rw [equal_eq, Op.equalIn]
        simp [run_underlying' hd1, hne]
      · exact h.elim
    · exact h.elim
  · rename_i el hkind
    obtain ⟨dd, hd1, hd2, _⟩ := tk _ hkind (by simp)
    obtain rfl : dd = .slice el := hd2
    split at h
    · cases hx; cases hy
      exact ⟨_, h, by rw [equal_eq, Op.equalIn]; simp [run_underlying' hd1], guard_plain rfl, rfl⟩
    · cases hy
      cases hx with
      | d _ _ hx => cases hx with
        | sl => exact ⟨_, h, by rw [equal_eq, Op.equalIn]; simp [run_underlying' hd1], guard_plain rfl, rfl⟩
    · cases hy
      cases hx with
      | sl _ _ _ _ _ hx _ => cases hx with
        | sl => exact ⟨_, h, by rw [equal_eq, Op.equalIn]; simp [run_underlying' hd1], guard_plain rfl, rfl⟩
    · exact h.elim
  · rename_i fs hkind
    obtain ⟨dd, hd1, ⟨gs, rfl, hf⟩, h8⟩ := tk _ hkind (by simp)
    split at h
    · rename_i hek
      have hB := h8 hek
      simp only [eqB, Bool.and_eq_true, Bool.not_eq_true'] at hB
      split at h
      · rename_i xs ys
        cases hx with
        | agg _ vxs hxs hxr _ =>
        cases hy with
        | agg _ vys hys hyr _ =>
        have hfo : G.P.fieldsOf t = gs := by simp [Program.fieldsOf, hd1]
        have conv : ∀ {l : List PV} {vs : Array Value}, vs.size = l.length → (∀ (i : Nat) (x : PV) (u : Value), l[i]? = some x → vs[i]? = some u → VRel G e σ w x u) → ∀ (j : Nat) (x : PV), l[j]? = some x → ∃ u, vs[0 + j]? = some u ∧ VRel G e σ w x u := fun {l vs} hs hr j x hx => by
          have hj := (List.getElem?_eq_some_iff.1 hx).1
          refine ⟨vs[j], by rw [Nat.zero_add]; exact Array.getElem?_eq_getElem (by omega), hr j x _ hx (Array.getElem?_eq_getElem (by omega))⟩
        obtain ⟨r, hK, hrun⟩ := eqFields_sound hT 9998 hf hB.1.1 (conv hxs hxr) (conv hys hyr) h
        refine ⟨r, hK, ?_, run_eqGuard_agg w op t x y _ _ hB.2, rfl⟩
        have := run_equalIn_struct w 9999 t vxs vys (by rw [hfo]; exact hd1) hB.1.2
        rw [hfo] at this
        exact this.trans hrun
      · exact h.elim
    · exact h.elim
  · exact h.elim
theorem pbin_sound {T : Tab} (hT : TabOK T G.P) {op : BinOp} {px py : PV} {vx vy : Value} {K : PV → Prop} {t : TypeId} {x y : Operand} (hx : VRel G e σ w px vx) (hy : VRel G e σ w py vy) (h : pbin T op t x y px py K) :
    ∃ pv u, K pv ∧ VRel G e σ w pv u ∧ (do eqGuard op t x y vx vy; binOp op t vx vy : Sem Value).run G.P w = .ok u w := by
  unfold pbin at h
  split at h
  · rename_i k a k' b
    cases hx.dint; cases hy.dint
    split at h
    · have hg : (eqGuard .shl t x y (.int k a) (.int k' b)).run G.P w = .ok () w := rfl
      have : ¬ b < 0 := by omega
      exact wrapK_run h.2 (by simp [hg, binOp, Op.shift, this])
    · refine ⟨_, _, h.2, .mkint, ?_⟩
      have hg : (eqGuard .shr t x y (.int k a) (.int k' b)).run G.P w = .ok () w := rfl
      have : ¬ b < 0 := by omega
      simp [hg, binOp, Op.shift, this]
    · split at h
      · rename_i hk
        cases keq_eq hk
        exact pint_sound h t x y
      · exact h.elim
  · rename_i a b
    cases hx.dstr; cases hy.dstr
    have hg : (eqGuard op t x y (.string ⟨a.toArray⟩) (.string ⟨b.toArray⟩)).run G.P w = .ok () w := by cases op <;> rfl
    cases op <;> simp only at h <;> simp only [Sem.run_bind, hg, Result.andThen]
    case add =>
      refine ⟨_, _, h.2, .mkstr, ?_⟩
      have h1 : ¬ ((a.length : Int) + (b.length : Int) > IntKind.i64.max) := by
        have : IntKind.i64.max = 2 ^ 63 - 1 := rfl
        rw [this]; have := h.1; omega
      have h2 : (⟨a.toArray⟩ : ByteArray) ++ ⟨b.toArray⟩ = ⟨(a ++ b).toArray⟩ := by
        apply ByteArray.ext; simp [ByteArray.data_append]
      have h3 : (⟨a.toArray⟩ : ByteArray).size = a.length := rfl
      have h4 : (⟨b.toArray⟩ : ByteArray).size = b.length := rfl
      simp only [binOp, Op.stringOp, h3, h4, Int.natCast_add]
      rw [if_neg h1, h2]
      rfl
    all_goals refine ⟨_, _, h, .mkbool, ?_⟩
    all_goals simp only [binOp, Op.stringOp, toList_mk, ← beq_dec, Sem.run_pure]
  · rename_i px' py' hno1 hno2
    cases op <;> simp only at h <;> first | exact h.elim | skip
    · obtain ⟨b, hK, h1, h2, n1⟩ := peq_sound hT hx hy h .eql
      refine ⟨_, _, hK, .mkbool, ?_⟩
      simp only [Sem.run_bind, h2, Result.andThen, binOp_eql n1, h1, Sem.run_pure]
    · obtain ⟨b, hK, h1, h2, n1⟩ := peq_sound hT hx hy h .neq
      refine ⟨_, _, hK, .mkbool, ?_⟩
      simp only [Sem.run_bind, h2, Result.andThen, binOp_neq n1, h1, Sem.run_pure]

/-! ### The other operations -/
theorem setRange_length {α : Type} : ∀ (l : List α) (o : Nat) (vs : List α), (setRange l o vs).length = l.length
  | [], _, [] => rfl
  | _ :: _, _, [] => rfl
  | [], _, _ :: _ => rfl
  | _ :: l, 0, _ :: vs => by simp [setRange, setRange_length l 0 vs]
  | _ :: l, o + 1, v :: vs => by simp [setRange, setRange_length l o (v :: vs)]
theorem setRange_get {α : Type} : ∀ (l : List α) (o : Nat) (vs : List α) (i : Nat), (setRange l o vs)[i]? = if o ≤ i ∧ i < o + vs.length ∧ i < l.length then vs[i - o]? else l[i]?
  | l, o, [], i => by
    have : setRange l o [] = l := by cases l <;> rfl
    rw [this, if_neg]; simp; omega
  | [], o, v :: vs, i => by simp [setRange]
  | x :: l, 0, v :: vs, i => by
    cases i with
    | zero => simp [setRange]
    | succ i =>
      have := setRange_get l 0 vs i
      simp only [setRange, List.getElem?_cons_succ, this, Nat.zero_le, true_and, Nat.zero_add, List.length_cons, Nat.sub_zero]
      by_cases h : i < vs.length ∧ i < l.length
      · rw [if_pos h, if_pos ⟨by omega, by omega⟩]
      · rw [if_neg h, if_neg]; omega
  | x :: l, o + 1, v :: vs, i => by
    cases i with
    | zero => simp [setRange]
    | succ i =>
      have := setRange_get l o (v :: vs) i
      simp only [setRange, List.getElem?_cons_succ, this, List.length_cons]
      by_cases h : o ≤ i ∧ i < o + (vs.length + 1) ∧ i < l.length
      · rw [if_pos h, if_pos ⟨by omega, by omega, by omega⟩]; congr 1; omega
      · rw [if_neg h, if_neg]; omega
/-- The machine's way to lay a part over cells. -/
theorem layOver_size (vs : Array Value) (off : Nat) : ∀ (l : List Value) (j : Nat) (cs : Array Value), ((l.zipIdx j).foldl (fun cs (p : Value × Nat) => cs.setIfInBounds (off + p.2) p.1) cs).size = cs.size := by
  intro l
  induction l with
  | nil => intro j cs; rfl
  | cons v l ih => intro j cs; simp only [List.zipIdx_cons, List.foldl_cons]; rw [ih]; simp
theorem layOver_get (off : Nat) : ∀ (l : List Value) (j : Nat) (cs : Array Value) (i : Nat),
    ((l.zipIdx j).foldl (fun cs (p : Value × Nat) => cs.setIfInBounds (off + p.2) p.1) cs)[i]? = if off + j ≤ i ∧ i < off + j + l.length ∧ i < cs.size then l[i - (off + j)]? else cs[i]? := by
  intro l
  induction l with
  | nil => intro j cs i; rw [if_neg]; rfl; simp; omega
  | cons v l ih =>
    intro j cs i
    simp only [List.zipIdx_cons, List.foldl_cons]
    rw [ih]
    simp only [Array.size_setIfInBounds, List.length_cons, Array.getElem?_setIfInBounds]
    by_cases h : off + (j + 1) ≤ i ∧ i < off + (j + 1) + l.length ∧ i < cs.size
    · rw [if_pos h, if_pos ⟨by omega, by omega, by omega⟩]
      rw [show i - (off + j) = (i - (off + (j + 1))) + 1 by omega, List.getElem?_cons_succ]
    · rw [if_neg h]
      by_cases h2 : off + j = i
      · subst h2
        simp only [if_true]
        by_cases h3 : off + j < cs.size
        · rw [if_pos h3, if_pos ⟨by omega, by omega, h3⟩]; simp
        · rw [if_neg h3, if_neg (by omega)]; simp [h3]
      · rw [if_neg h2, if_neg (by omega)]
theorem cells_rel {x : PV} {v : Value} {l : List PV} (h : VRel G e σ w x v) (hl : x.cells = some l) : v.cells.size = l.length ∧ ∀ (i : Nat) (y : PV) (u : Value), l[i]? = some y → v.cells[i]? = some u → VRel G e σ w y u ∧ u.oneCell' = true := by
  have plain : ∀ (x : PV) (v : Value), VRel G e σ w x v → v.oneCell' = true → x.cells = some [x] → v.cells = #[v] → x.cells = some l → v.cells.size = l.length ∧ ∀ (i : Nat) (y : PV) (u : Value), l[i]? = some y → v.cells[i]? = some u → VRel G e σ w y u ∧ u.oneCell' = true := by
    intro x v h h1 hx hv hl
    rw [hx] at hl; cases hl
    rw [hv]
    refine ⟨rfl, fun i y u hy hu => ?_⟩
    cases i with
    | zero => simp at hy hu; subst hy; subst hu; exact ⟨h, h1⟩
    | succ i => simp at hy
  cases h with
  | agg cs vs hs h h1 =>
    cases hl
    exact ⟨hs, fun i y u hy hu => ⟨h i y u hy hu, h1 u (Array.mem_of_getElem? hu)⟩⟩
  | undef v => cases hl
  | d x v h => exact plain _ _ (.d _ _ h) h.one rfl (by cases h <;> rfl) hl
  | sl t el rows v hn hd ht => exact plain _ _ (.sl _ _ _ _ hn hd ht) hd.one rfl (by cases hd <;> rfl) hl
  | ptr b off h => exact plain _ _ (.ptr _ _ h) rfl rfl rfl hl
  | elem r off b o u hc ho hu => exact plain _ _ (.elem _ _ _ _ u hc ho hu) rfl rfl rfl hl
  | nils el => exact plain _ _ (.nils _) rfl rfl rfl hl
  | func f a c va vc ha hc h1 h2 => exact plain _ _ (.func _ _ _ _ _ ha hc h1 h2) rfl rfl rfl hl
  | iface t x v h => exact plain _ _ (.iface _ _ _ h) rfl rfl rfl hl
  | tuple cs vs hs h => cases hl
  | raw v =>
    cases v with
    | func f a c => exact plain _ _ (.raw _) rfl rfl rfl hl
    | _ => cases hl

theorem layArr (off : Nat) (vs cells : Array Value) : Array.foldl (fun cs (x : Value × Nat) => cs.setIfInBounds (off + x.2) x.1) vs cells.zipIdx = List.foldl (fun cs (x : Value × Nat) => cs.setIfInBounds (off + x.2) x.1) vs (cells.toList.zipIdx 0) := by
  rw [← Array.foldl_toList, Array.toList_zipIdx]
theorem FieldsOK.length {P : Program} {l : List (Nat × Nat)} {m : List Field} (h : FieldsOK P l m) : m.length = l.length := by
  induction h with
  | nil => rfl
  | cons _ _ _ _ _ _ _ _ _ _ _ ih => simp [ih]
/-- Laying parts over a struct's zero. -/
theorem fill_sound {T : Tab} (hT : TabOK T G.P) {fs : List (Nat × Nat)} {gs : List Field} (hf : FieldsOK G.P fs gs) {ρ : Operand → PV} {ρ' : Operand → Value} (hρ : ∀ x, VRel G e σ w (ρ x) (ρ' x)) {K : List PV → Prop}
    (places : Nat → Option (Nat × Nat)) (hp : ∀ i f j, gs[i]? = some f → G.P.info? f.type = some j → places i = some (f.offset, j.size)) :
    ∀ (ps : List (Nat × Operand)) (cs : List PV) (vs : Array Value), vs.size = cs.length → (∀ (i : Nat) (x : PV) (u : Value), cs[i]? = some x → vs[i]? = some u → VRel G e σ w x u ∧ u.oneCell' = true) →
      fillParts T fs ρ ps cs K → ∃ cs' vs', K cs' ∧ Instr.fill places vs (ps.map fun p => (p.1, ρ' p.2)) = some vs' ∧ vs'.size = cs'.length ∧ (∀ (i : Nat) (x : PV) (u : Value), cs'[i]? = some x → vs'[i]? = some u → VRel G e σ w x u ∧ u.oneCell' = true)
  | [], cs, vs, hs, hr, h => ⟨cs, vs, h, rfl, hs, hr⟩
  | (i, x) :: ps, cs, vs, hs, hr, h => by
    simp only [fillParts] at h
    split at h
    · rename_i o t l hfi hl
      split at h
      · exact h.elim
      · rename_i h1 h2 hk
        obtain ⟨f, j, hg, ho, ht, hi, hj⟩ := hf.get hfi
        obtain ⟨i2, d, z, hi2, hd, hs2, hby, hkd, hz, hz2, _⟩ := (hT.get (t := t) (fun h0 => hk h0)).ex
        rw [hi] at hi2; cases hi2
        have e1 := Nat.eq_of_beq_eq_true h1
        have e2 := Nat.le_of_ble_eq_true h2
        obtain ⟨hc1, hc2⟩ := cells_rel (hρ x) hl
        have hpl := hp i f j hg (by rw [ht]; exact hi)
        simp only [List.map_cons, Instr.fill, hpl]
        have hsz : (ρ' x).cells.size = j.size := by rw [hc1, e1, hs2]
        rw [if_neg (by rw [hsz, hs, ho]; simp; omega)]
        refine fill_sound hT hf hρ places hp ps _ _ ?_ ?_ h
        · rw [setRange_length, ← hs]
          rw [layArr]; exact layOver_size vs f.offset (ρ' x).cells.toList 0 vs
        · intro k y u hy hu
          rw [setRange_get] at hy
          have hu' : (((ρ' x).cells.toList.zipIdx 0).foldl (fun cs (p : Value × Nat) => cs.setIfInBounds (f.offset + p.2) p.1) vs)[k]? = some u := by
            rw [← layArr]; exact hu
          rw [layOver_get] at hu'
          simp only [Nat.add_zero, Array.length_toList] at hu'
          by_cases hin : o ≤ k ∧ k < o + l.length ∧ k < cs.length
          · rw [if_pos hin] at hy
            rw [if_pos ⟨by omega, by omega, by omega⟩, ho] at hu'
            exact hc2 (k - o) y u hy (by simpa using hu')
          · rw [if_neg hin] at hy
            rw [if_neg (by omega)] at hu'
            exact hr k y u hy hu'
      · exact h.elim
    · exact h.elim

theorem VRel.elems {rows : List (List D)} {v : Value} (h : DRel (okc e σ) w (.sl rows) v) {n : Nat} {r : List D} (hr : rows[n]? = some r) :
    ∃ (b off cap : Nat) (u : Nat → Value), v = .slice (some ⟨b, off, none⟩) rows.length cap ∧ n < rows.length ∧ (∀ j, j < r.length → w.cell? ⟨b, off + n * r.length + j, none⟩ = some (u j)) ∧ (∀ j, j < r.length → okc e σ b (off + n * r.length + j)) ∧
      ∀ (j : Nat) (x : D), r[j]? = some x → DRel (okc e σ) w x (u j) := by
  cases h with
  | slnil => simp at hr
  | sl rows b off cap sz u hcap hsz hc ho hu =>
    have hn := (List.getElem?_eq_some_iff.1 hr).1
    have hlen : r.length = sz := hsz r (List.mem_of_getElem? hr)
    refine ⟨b, off, cap, u n, rfl, hn, fun j hj => ?_, fun j hj => ?_, fun j x hx => hu n j x (by rw [hr]; exact hx)⟩
    · rw [hlen] at hj ⊢; exact hc n j hn hj
    · rw [hlen] at hj ⊢; exact ho n j hn hj

theorem asInt_int (P : Program) (k : IntKind) (n : Int) (w : World) : (asIntOf (.int k n)).run P w = .ok (k, n) w := rfl
theorem slBound_ok (P : Program) (k : IntKind) (n : Int) (y : Nat) (c : BoundsCode) (w : World) (h0 : 0 ≤ n) (h : n ≤ y) : (Instr.sliceBound (.int k n) y c).run P w = .ok n.toNat w := by
  simp [Instr.sliceBound, asInt_int, h0, h]
/-- The bounds of a slice expression: within the length. -/
theorem slBounds_sound {P : Program} {lo hi : Option PV} {vlo vhi : Option Value} (isS : Bool) {len cap : Nat} (hcap : len ≤ cap) (hlo : ∀ v, vlo = some v → ∃ x, lo = some x ∧ VRel G e σ w x v) (hlo' : vlo = none → lo = none)
    (hhi : ∀ v, vhi = some v → ∃ x, hi = some x ∧ VRel G e σ w x v) (hhi' : vhi = none → hi = none) {K : Nat → Nat → Prop} (h : slBounds lo hi len K) :
    ∃ l u, K l u ∧ l ≤ u ∧ u ≤ len ∧ (Instr.sliceBounds isS len cap vlo vhi none).run P w = .ok (l, u, cap) w := by
  unfold slBounds at h
  cases vlo with
  | none =>
    rw [hlo' rfl] at h
    cases vhi with
    | none =>
      rw [hhi' rfl] at h
      exact ⟨0, len, h, Nat.zero_le _, Nat.le_refl _, by simp [Instr.sliceBounds]⟩
    | some v =>
      obtain ⟨x, hx, hr⟩ := hhi v rfl
      rw [hx] at h
      simp only at h
      split at h
      · cases hr.dint
        refine ⟨0, _, h.2.2, Nat.zero_le _, by omega, ?_⟩
        simp only [Instr.sliceBounds, Sem.run_bind, Sem.run_pure, Result.andThen]
        rw [slBound_ok P _ _ cap _ w h.1 (by omega)]
      · exact h.elim
  | some v =>
    obtain ⟨x, hx, hr⟩ := hlo v rfl
    rw [hx] at h
    cases vhi with
    | none =>
      rw [hhi' rfl] at h
      simp only at h
      split at h
      · cases hr.dint
        refine ⟨_, len, h.2.2, by omega, Nat.le_refl _, ?_⟩
        simp only [Instr.sliceBounds, Sem.run_bind, Sem.run_pure, Result.andThen]
        rw [slBound_ok P _ _ len _ w h.1 h.2.1]
      · exact h.elim
    | some v2 =>
      obtain ⟨y, hy, hr2⟩ := hhi v2 rfl
      rw [hy] at h
      simp only at h
      split at h
      · cases hr.dint; cases hr2.dint
        refine ⟨_, _, h.2.2.2, by omega, by omega, ?_⟩
        simp only [Instr.sliceBounds, Sem.run_bind, Sem.run_pure, Result.andThen]
        rw [slBound_ok P _ _ cap _ w (by omega) (by omega)]
        simp only []
        rw [slBound_ok P _ _ _ _ w h.1 (by omega)]
      · exact h.elim
end
end Go.PM
