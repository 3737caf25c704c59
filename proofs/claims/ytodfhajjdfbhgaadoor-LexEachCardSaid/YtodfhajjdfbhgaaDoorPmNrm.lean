/-
  THE PURE LOGIC, 10: values and stores brought into one form: the same, told with other tokens and fewer boxes.
-/
import Derived.Test.YtodfhajjdfbhgaaDoorPmAny
set_option linter.unusedVariables false
set_option linter.unusedSimpArgs false
set_option linter.all false
namespace Go.PM

section
variable {G : GE} {e e' : Env} {σ σ' : St} {w w' : World}
/-- One value, brought into the form: 'as' tells for each new token the old one, or none for a nil slice. -/
inductive NV (n : Nat) (as : List (Option Nat)) : PV → PV → Prop
  | sl (t e : Nat) (rows : List (List D)) (j : Nat) (h : as[j]? = some (some t)) : NV n as (.sl t e rows) (.sl j e rows)
  | nils (e j : Nat) (h : as[j]? = some none) : NV n as (.nils e) (.sl j e [])
  | cl (v : PV) (h : bnd n v = true) : NV n as v (clean v)
  | un (v : PV) : NV n as v .undef
structure NInv (S tk : List Nat) (as : List (Option Nat)) : Prop where
  sub : ∀ t, t ∈ tk → t ∈ S
  mem : ∀ (i t : Nat), as[i]? = some (some t) → t ∈ S ∧ t ∉ tk
  inj : ∀ (i j t : Nat), as[i]? = some (some t) → as[j]? = some (some t) → i = j
theorem NV.ext {n : Nat} {as as' : List (Option Nat)} {x y : PV} (h : NV n as x y) (hx : ∃ m, as' = as ++ m) : NV n as' x y := by
  obtain ⟨m, rfl⟩ := hx
  have : ∀ (j : Nat) (q : Option Nat), as[j]? = some q → (as ++ m)[j]? = some q := fun j q hq => by
    rw [List.getElem?_append_left (List.getElem?_eq_some_iff.1 hq).1]; exact hq
  cases h with
  | sl t e rows j h => exact .sl t e rows j (this _ _ h)
  | nils e j h => exact .nils e j (this _ _ h)
  | cl _ h => exact .cl _ h
  | un _ => exact .un _
theorem ndel_mem' {t x : Nat} : ∀ {l : List Nat}, x ∈ ndel t l → x ∈ l ∧ x ≠ t
  | [], h => by simp [ndel] at h
  | y :: l, h => by
    simp only [ndel] at h
    split at h
    · exact ⟨List.mem_cons_of_mem _ (ndel_mem' h).1, (ndel_mem' h).2⟩
    · rename_i hb
      rcases List.mem_cons.1 h with rfl | h
      · exact ⟨by simp, fun e => by subst e; simp at hb⟩
      · exact ⟨List.mem_cons_of_mem _ (ndel_mem' h).1, (ndel_mem' h).2⟩
theorem ext_trans {as as' as'' : List (Option Nat)} (h : ∃ m, as' = as ++ m) (h' : ∃ m, as'' = as' ++ m) : ∃ m, as'' = as ++ m := by
  obtain ⟨m, rfl⟩ := h; obtain ⟨m', rfl⟩ := h'; exact ⟨m ++ m', by rw [List.append_assoc]⟩
theorem NInv.add {S tk : List Nat} {as : List (Option Nat)} (h : NInv S tk as) {t : Nat} (ht : t ∈ tk) : NInv S (ndel t tk) (as ++ [some t]) := by
  have key : ∀ (i s : Nat), (as ++ [some t])[i]? = some (some s) → (as[i]? = some (some s)) ∨ (i = as.length ∧ s = t) := fun i s hi => by
    by_cases hlt : i < as.length
    · rw [List.getElem?_append_left hlt] at hi; exact .inl hi
    · rw [List.getElem?_append_right (by omega)] at hi
      have := (List.getElem?_eq_some_iff.1 hi).1
      simp only [List.length_singleton] at this
      have h0 : i - as.length = 0 := by omega
      rw [h0] at hi
      simp at hi
      exact .inr ⟨by omega, hi.symm⟩
  refine ⟨fun x hx => h.sub x (ndel_mem' hx).1, fun i s hi => ?_, fun i j s hi hj => ?_⟩
  · rcases key i s hi with h1 | ⟨_, rfl⟩
    · exact ⟨(h.mem i s h1).1, fun hm => (h.mem i s h1).2 (ndel_mem' hm).1⟩
    · exact ⟨h.sub _ ht, fun hm => (ndel_mem' hm).2 rfl⟩
  · rcases key i s hi with h1 | ⟨h1, rfl⟩ <;> rcases key j s hj with h2 | ⟨h2, h3⟩
    · exact h.inj i j s h1 h2
    · subst h3; exact absurd ht (h.mem i _ h1).2
    · exact absurd ht (h.mem j _ h2).2
    · omega
theorem NInv.nil {S tk : List Nat} {as : List (Option Nat)} (h : NInv S tk as) : NInv S tk (as ++ [none]) := by
  have key : ∀ (i s : Nat), (as ++ [none])[i]? = some (some s) → (as[i]? = some (some s)) := fun i s hi => by
    by_cases hlt : i < as.length
    · rw [List.getElem?_append_left hlt] at hi; exact hi
    · rw [List.getElem?_append_right (by omega)] at hi
      have := (List.getElem?_eq_some_iff.1 hi).1
      simp only [List.length_singleton] at this
      have h0 : i - as.length = 0 := by omega
      rw [h0] at hi
      simp at hi
  exact ⟨h.sub, fun i s hi => h.mem i s (key i s hi), fun i j s hi hj => h.inj i j s (key i s hi) (key j s hj)⟩
theorem nrm1_ex {n : Nat} {S tk : List Nat} {as : List (Option Nat)} (hI : NInv S tk as) {v : PV} {K : PV → List Nat → Nat → Prop} (h : nrm1 n tk as.length v K) :
    ∃ v' tk' as', K v' tk' as'.length ∧ (∃ m, as' = as ++ m) ∧ NInv S tk' as' ∧ NV n as' v v' := by
  have gen : ∀ v, (match bnd n v with | true => force (clean v) fun v => K v tk as.length | false => K .undef tk as.length : Prop) → ∃ v' tk' as', K v' tk' as'.length ∧ (∃ m, as' = as ++ m) ∧ NInv S tk' as' ∧ NV n as' v v' := fun v h => by
    split at h
    · rename_i hb; rw [force_eq] at h; exact ⟨_, tk, as, h, ⟨[], by simp⟩, hI, .cl v hb⟩
    · exact ⟨_, tk, as, h, ⟨[], by simp⟩, hI, .un v⟩
  cases v with
  | sl t el rows =>
    simp only [nrm1] at h
    split at h
    · rename_i ht
      exact ⟨_, _, as ++ [some t], by simpa using h, ⟨[some t], rfl⟩, hI.add ((nmem_iff _ _).1 ht), .sl t el rows _ (by simp)⟩
    · exact ⟨_, tk, as, h, ⟨[], by simp⟩, hI, .cl (.sl t el rows) rfl⟩
  | nils el => exact ⟨_, tk, as ++ [none], by simpa [nrm1] using h, ⟨[none], rfl⟩, hI.nil, .nils el _ (by simp)⟩
  | _ => exact gen _ h
theorem nrmL_ex {n : Nat} {S : List Nat} : ∀ {vs : List PV} {tk : List Nat} {as : List (Option Nat)} (_ : NInv S tk as) {K : List PV → List Nat → Nat → Prop}, nrmL n vs tk as.length K →
    ∃ vs' tk' as', K vs' tk' as'.length ∧ (∃ m, as' = as ++ m) ∧ NInv S tk' as' ∧ vs'.length = vs.length ∧ ∀ (i : Nat) (x y : PV), vs[i]? = some x → vs'[i]? = some y → NV n as' x y
  | [], tk, as, hI, K, h => ⟨[], tk, as, h, ⟨[], by simp⟩, hI, rfl, fun i x y hx => by simp at hx⟩
  | v :: vs, tk, as, hI, K, h => by
    obtain ⟨v', tk1, as1, h1, hx1, hI1, hv⟩ := nrm1_ex hI h
    obtain ⟨vs', tk2, as2, h2, hx2, hI2, hl, hvs⟩ := nrmL_ex hI1 h1
    refine ⟨v' :: vs', tk2, as2, h2, ext_trans hx1 hx2, hI2, by simp [hl], fun i x y hx hy => ?_⟩
    cases i with
    | zero => simp at hx hy; subst hx; subst hy; exact hv.ext hx2
    | succ i => exact hvs i x y (by simpa using hx) (by simpa using hy)
inductive NB (n : Nat) (as : List (Option Nat)) : Box → Box → Prop
  | cells (t : TypeId) (cs cs' : List PV) (hl : cs'.length = cs.length) (h : ∀ (i : Nat) (x y : PV), cs[i]? = some x → cs'[i]? = some y → NV n as x y) : NB n as (.cells t cs) (.cells t cs')
  | iter (s : List UInt8) (p : Nat) : NB n as (.iter s p) (.iter s p)
  | loop (st : LoopState) (pd : Option Code) (r : Loop) : NB n as (.loop st pd r) (.loop st pd r)
theorem NB.ext {n : Nat} {as as' : List (Option Nat)} {x y : Box} (h : NB n as x y) (hx : ∃ m, as' = as ++ m) : NB n as' x y := by
  cases h with
  | cells t cs cs' hl h => exact .cells t cs cs' hl fun i x y h1 h2 => (h i x y h1 h2).ext hx
  | iter s p => exact .iter s p
  | loop st pd r => exact .loop st pd r
theorem nrmB_ex {n : Nat} {S : List Nat} : ∀ {m : Nat} {bs : List Box} {tk : List Nat} {as : List (Option Nat)} (_ : NInv S tk as) {K : List Box → List Nat → Nat → Prop}, nrmB n m bs tk as.length K →
    ∃ bs' tk' as', K bs' tk' as'.length ∧ (∃ m, as' = as ++ m) ∧ NInv S tk' as' ∧ bs'.length = m ∧ m ≤ bs.length ∧ ∀ (i : Nat) (x y : Box), bs[i]? = some x → bs'[i]? = some y → NB n as' x y
  | 0, bs, tk, as, hI, K, h => ⟨[], tk, as, by simpa [nrmB] using h, ⟨[], by simp⟩, hI, rfl, Nat.zero_le _, fun i x y _ hy => by simp at hy⟩
  | m + 1, [], tk, as, hI, K, h => h.elim
  | m + 1, .cells t cs :: bs, tk, as, hI, K, h => by
    obtain ⟨cs', tk1, as1, h1, hx1, hI1, hl1, hv⟩ := nrmL_ex hI h
    obtain ⟨bs', tk2, as2, h2, hx2, hI2, hl, hm, hvs⟩ := nrmB_ex hI1 h1
    refine ⟨.cells t cs' :: bs', tk2, as2, h2, ext_trans hx1 hx2, hI2, by simp [hl], by simp; omega, fun i x y hx hy => ?_⟩
    cases i with
    | zero => simp at hx hy; subst hx; subst hy; exact .cells t cs cs' hl1 fun i x y h1 h2 => (hv i x y h1 h2).ext hx2
    | succ i => exact hvs i x y (by simpa using hx) (by simpa using hy)
  | m + 1, .iter s p :: bs, tk, as, hI, K, h => by
    obtain ⟨bs', tk2, as2, h2, hx2, hI2, hl, hm, hvs⟩ := nrmB_ex hI (K := fun l tk k => K (.iter s p :: l) tk k) h
    refine ⟨.iter s p :: bs', tk2, as2, h2, hx2, hI2, by simp [hl], by simp; omega, fun i x y hx hy => ?_⟩
    cases i with
    | zero => simp at hx hy; subst hx; subst hy; exact .iter s p
    | succ i => exact hvs i x y (by simpa using hx) (by simpa using hy)
  | m + 1, .loop st pd r :: bs, tk, as, hI, K, h => by
    obtain ⟨bs', tk2, as2, h2, hx2, hI2, hl, hm, hvs⟩ := nrmB_ex hI (K := fun l tk k => K (.loop st pd r :: l) tk k) h
    refine ⟨.loop st pd r :: bs', tk2, as2, h2, hx2, hI2, by simp [hl], by simp; omega, fun i x y hx hy => ?_⟩
    cases i with
    | zero => simp at hx hy; subst hx; subst hy; exact .loop st pd r
    | succ i => exact hvs i x y (by simpa using hx) (by simpa using hy)

/-- The same moment, with the first 'n' boxes and other tokens. -/
structure Drop (n : Nat) (e : Env) (σ : St) (e' : Env) (σ' : St) : Prop where
  le : n ≤ σ.bx.length
  len : σ'.bx.length = n
  beta : e'.β = e.β
  X : e'.X = e.X
  okc : ∀ b off, okc e σ b off → okc e' σ' b off
  tok : ∀ t, t ∈ σ'.tk → ∀ p, e'.M t = some p → ∃ t0, t0 ∈ σ.tk ∧ e.M t0 = some p
theorem Later.drop {e1 : Env} {σ1 : St} {w1 : World} {n : Nat} (h : Later e1 σ1 w1 e σ w) (hd : Drop n e σ e' σ') (hn : σ1.bx.length ≤ n) : Later e1 σ1 w1 e' σ' w where
  len := by rw [hd.len]; exact hn
  beta := by rw [hd.beta]; exact h.beta
  X := by rw [hd.X]; exact h.X
  pres := fun b off u hu ho => let ⟨h1, h2⟩ := h.pres b off u hu ho; ⟨hd.okc b off h1, h2⟩
  blocks := h.blocks
  size := h.size
  os := h.os
  tape := h.tape
  output := h.output
  fresh := fun i h1 h2 => by rw [hd.len] at h2; rw [hd.beta]; exact h.fresh i h1 (Nat.lt_of_lt_of_le h2 hd.le)
  ftok := fun t ht p hp => let ⟨t0, h0, h1⟩ := hd.tok t ht p hp; h.ftok t0 h0 p h1
theorem Marks.drop {lo : Nat} {n : Nat} {l : List Deferred} (h : Marks lo e σ w l) (hd : Drop n e σ e' σ') : Marks lo e' σ' w l := by
  obtain ⟨h0, rs, h1, h2, h3⟩ := h
  refine ⟨h0, rs, h1, h2, fun r hr => ?_⟩
  obtain ⟨g1, g2, g3, g4⟩ := h3 r hr
  refine ⟨g1, g2, fun i hi => ?_, fun t ht p hp => ?_⟩
  · rw [hd.beta]; rw [hd.len] at hi; exact g3 i (Nat.lt_of_lt_of_le hi hd.le)
  · obtain ⟨t0, h0, hp0⟩ := hd.tok t ht p hp; exact g4 t0 h0 p hp0
theorem mem_toks {t : Nat} : ∀ {k : Nat}, t ∈ toks k ↔ t < k
  | 0 => by simp [toks]
  | k + 1 => by simp only [toks, List.mem_cons, mem_toks]; omega
/-- The new tokens' places. -/
def Env.re (e : Env) (as : List (Option Nat)) : Env := { e with M := fun j => (as[j]?.join).bind e.M }
theorem re_some {as : List (Option Nat)} {j : Nat} {p : Nat × Nat} (h : (e.re as).M j = some p) : ∃ t, as[j]? = some (some t) ∧ e.M t = some p := by
  simp only [Env.re] at h
  cases hj : as[j]? with
  | none => rw [hj] at h; simp at h
  | some q =>
    cases q with
    | none => rw [hj] at h; simp at h
    | some t => rw [hj] at h; exact ⟨t, rfl, by simpa using h⟩
theorem re_drop {n : Nat} (hn : n ≤ σ.bx.length) {as : List (Option Nat)} {tk : List Nat} (hI : NInv σ.tk tk as) {bs : List Box} (hb : bs.length = n) : Drop n e σ (e.re as) ⟨bs, toks as.length, as.length⟩ where
  le := hn
  len := hb
  beta := rfl
  X := rfl
  okc := fun b off ho => ⟨ho.1, fun i hi => ho.2.1 i (Nat.lt_of_lt_of_le hi (by rw [show (St.mk bs (toks as.length) as.length).bx.length = n from hb]; exact hn)), fun t ht p hp hpb => by
    obtain ⟨t0, h1, h2⟩ := re_some hp
    exact ho.2.2 t0 (hI.mem _ _ h1).1 p h2 hpb⟩
  tok := fun t ht p hp => by
    obtain ⟨t0, h1, h2⟩ := re_some hp
    exact ⟨t0, (hI.mem _ _ h1).1, h2⟩
theorem NV.rel {n : Nat} (hn : n ≤ σ.bx.length) {as : List (Option Nat)} {tk : List Nat} (hI : NInv σ.tk tk as) {bs : List Box} (hb : bs.length = n) {x y : PV} {v : Value} (h : NV n as x y) (hv : VRel G e σ w x v) :
    VRel G (e.re as) ⟨bs, toks as.length, as.length⟩ w y v := by
  have hd := re_drop (e := e) hn hI hb
  have hlt : ∀ (j : Nat) (q : Option Nat), as[j]? = some q → j < as.length := fun j q hq => (List.getElem?_eq_some_iff.1 hq).1
  cases h with
  | sl t el rows j h =>
    cases hv with
    | sl _ _ _ _ hn2 hd2 ht =>
      refine .sl j el rows v (hlt _ _ h) (hd2.mono fun b off u hu ho => ⟨hd.okc b off ho, hu⟩) fun _ => ?_
      have hM : (e.re as).M j = e.M t := by simp [Env.re, h]
      rcases ht (hI.mem _ _ h).1 with ⟨h1, h2, h3⟩ | ⟨sz, h1, h2, h3, b, off, cap, cs, ty, fz, h4, h5, h6, h7, h8, h9, h10⟩
      · exact .inl ⟨h1, h2, hM.trans h3⟩
      · exact .inr ⟨sz, h1, h2, h3, b, off, cap, cs, ty, fz, h4, h5, h6, h7, h8, h9, hM.trans h10⟩
  | nils el j h =>
    cases hv with
    | nils =>
      refine .sl j el [] _ (hlt _ _ h) .slnil fun _ => .inl ⟨rfl, rfl, ?_⟩
      simp [Env.re, h]
  | cl _ h => exact VRel.clean (e := e) (e' := e.re as) (σ := σ) (σ' := ⟨bs, toks as.length, as.length⟩) (w := w) (w' := w) (n := n) (by show n ≤ bs.length; omega) (fun _ _ => rfl) (fun b off u hu ho => ⟨hd.okc b off ho, hu⟩) hv h
  | un _ => exact .undef v
theorem re_srel {n : Nat} (hS : SRel G e σ w) (hn : n ≤ σ.bx.length) {as : List (Option Nat)} {tk : List Nat} (hI : NInv σ.tk tk as) {bs : List Box} (hb : bs.length = n)
    (hbs : ∀ (i : Nat) (x y : Box), σ.bx[i]? = some x → bs[i]? = some y → NB n as x y) : SRel G (e.re as) ⟨bs, toks as.length, as.length⟩ w where
  inj := fun i j hi hj h => hS.inj i j (by simp only at hi; omega) (by simp only at hj; omega) h
  box := fun i y hy => by
    have hi := (List.getElem?_eq_some_iff.1 hy).1
    simp only at hi
    have hx : σ.bx[i]? = some σ.bx[i] := List.getElem?_eq_getElem (by omega)
    have hB := hS.box i _ hx
    have hN := hbs i _ y hx hy
    generalize σ.bx[i] = x at hB hN
    cases hN with
    | cells t cs cs' hl h =>
      obtain ⟨vs, h1, h2, h3⟩ := hB
      refine ⟨vs, h1, by rw [hl]; exact h2, fun k z u hz hu => ?_⟩
      have hk := (List.getElem?_eq_some_iff.1 hz).1
      have hx : cs[k]? = some cs[k] := List.getElem?_eq_getElem (by omega)
      exact ⟨(h k _ z hx hz).rel hn hI hb (h3 k _ u hx hu).1, (h3 k _ u hx hu).2⟩
    | iter s p => exact hB
    | loop st pd r => exact hB
  low := fun i hi => hS.low i (by simp only at hi; omega)
  tkn := fun t ht => mem_toks.1 ht
  own := fun t ht p hp => by
    obtain ⟨t0, h1, h2⟩ := re_some hp
    obtain ⟨h3, h4, h5⟩ := hS.own t0 (hI.mem _ _ h1).1 p h2
    exact ⟨h3, fun i hi => h4 i (by simp only at hi; omega), h5⟩
  dis := fun t t' ht ht' hne p p' hp hp' => by
    obtain ⟨t0, h1, h2⟩ := re_some hp
    obtain ⟨t1, h3, h4⟩ := re_some hp'
    exact hS.dis t0 t1 (hI.mem _ _ h1).1 (hI.mem _ _ h3).1 (fun h => hne (hI.inj _ _ _ h1 (by rw [h]; exact h3))) p p' h2 h4
  xlt := hS.xlt
  xown := fun t ht p hp => by
    obtain ⟨t0, h1, h2⟩ := re_some hp
    exact hS.xown t0 (hI.mem _ _ h1).1 p h2
  glob := hS.glob
  big := hS.big
theorem NInv.start (S : List Nat) (tk : List Nat) (h : ∀ t, t ∈ tk → t ∈ S) : NInv S tk [] := ⟨h, fun i t h => by simp at h, fun i j t h => by simp at h⟩
theorem nrmSt_ex (hS : SRel G e σ w) {n : Nat} {vs : List PV} {K : List PV → St → Prop} (h : nrmSt n vs σ K) :
    ∃ vs' σ' e', K vs' σ' ∧ SRel G e' σ' w ∧ Drop n e σ e' σ' ∧ vs'.length = vs.length ∧ ∀ (i : Nat) (x y : PV) (u : Value), vs[i]? = some x → vs'[i]? = some y → VRel G e σ w x u → VRel G e' σ' w y u := by
  obtain ⟨vs', tk1, as1, h1, hx1, hI1, hl, hv⟩ := nrmL_ex (as := []) (NInv.start σ.tk σ.tk fun _ h => h) h
  obtain ⟨bs, tk2, as2, h2, hx2, hI2, hbl, hn, hbs⟩ := nrmB_ex hI1 h1
  exact ⟨vs', ⟨bs, toks as2.length, as2.length⟩, e.re as2, h2, re_srel hS hn hI2 hbl hbs, re_drop hn hI2 hbl, hl, fun i x y u hx hy hr => ((hv i x y hx hy).ext hx2).rel hn hI2 hbl hr⟩
end
end Go.PM
