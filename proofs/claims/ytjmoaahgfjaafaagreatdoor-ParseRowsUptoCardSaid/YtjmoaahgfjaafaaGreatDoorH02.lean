/- A part of the proof: plain logic, contracts and laws over the given program. -/
import Derived.OrdersIn
import Derived.Test.YtjmoaahgfjaafaaGreatDoorH01
set_option linter.unusedVariables false
set_option linter.unusedSimpArgs false
set_option linter.all false
section
namespace Go.PM
def fw (ro : Option Nat) : Fence := { fn := fun _ => True, depth := none, alive := false, round := ro }
def Enters (P : Program) (g : FuncId) : Prop := ∀ (args : Array Value) (w : World), (callFunc g args).run P w = .ok (.enter g args) w
def ArgsRel (G : GE) (e : Env) (σ : St) (w : World) (args : List PV) (vs : Array Value) : Prop :=
 vs.size = args.length ∧ ∀ (i : Nat) (x : PV) (u : Value), args[i]? = some x → vs[i]? = some u → VRel G e σ w x u
def EndRel (G : GE) (e : Env) (σ : St) (w : World) : PEnd → Ending → Prop
 | .ret x, en => ∃ v, en = .returned v ∧ VRel G e σ w x v
 | .panic x, en => ∃ v, en = .panicked [{ v := v, recovered := false }] ∧ VRel G e σ w x v
def After (G : GE) (e : Env) (σ : St) (w : World) (K : PEnd → St → Prop) (en : Ending) (w' : World) : Prop :=
 ∃ pe σ' e', K pe σ' ∧ EndRel G e' σ' w' pe en ∧ SRel G e' σ' w' ∧ Stepped e σ w e' σ' w'
def AfterL (G : GE) (e : Env) (σ : St) (w : World) (K : PEnd → St → Prop) (en : Ending) (w' : World) : Prop :=
 ∃ pe σ' e', K pe σ' ∧ EndRel G e' σ' w' pe en ∧ SRel G e' σ' w' ∧ Later e σ w e' σ' w'
def CallSem (G : GE) (cc : FuncId → List PV → St → (PEnd → St → Prop) → Prop) : Prop := ∀ g args σ K, cc g args σ K →
 Enters G.P g ∧ ∀ (ro : Option Nat) (n : Nat) (e : Env) (w : World) (vs : Array Value), SRel G e σ w → ArgsRel G e σ w args vs → CallsIn (fw ro) n G.P g vs w (After G e σ w K)
def RawSem (G : GE) (e0 : Env) (σ0 : St) (w0 : World) (cr : Value → List PV → St → (PEnd → St → Prop) → Prop) : Prop := ∀ v args σ K, cr v args σ K →
 ∃ l, v = .func (.yield l) #[] #[] ∧ ∀ (ro : Option Nat) (n : Nat) (e : Env) (w : World) (vs : Array Value), SRel G e σ w → Later e0 σ0 w0 e σ w → ArgsRel G e σ w args vs →
  ∃ f tmps asg body, (Instr.yield l vs).run G.P w = .ok (.round l f tmps asg body) w ∧ RoundIn (fw ro) n G.P l f tmps asg body w (AfterL G e σ w K)
def IterSem (G : GE) (ci : FuncId → List PV → (Value → List PV → St → (PEnd → St → Prop) → Prop) → St → (PEnd → St → Prop) → Prop) : Prop := ∀ g args raw σ K, ci g args raw σ K →
 Enters G.P g ∧ ∀ (n : Nat) (e : Env) (w : World) (vs : Array Value), SRel G e σ w → ArgsRel G e σ w args vs → RawSem G e σ w raw → CallsIn (fw none) n G.P g vs w (AfterL G e σ w K)
structure CxOK (G : GE) (C : Cx) (ro : Option Nat) (e0 : Env) (σ0 : St) (w0 : World) : Prop where
 tab : TabOK C.T G.P
 call : CallSem G C.call
 raw : RawSem G e0 σ0 w0 C.raw
 iter : IterSem G C.iter
 out : ro = none ∨ ∀ g args raw σ K, ¬ C.iter g args raw σ K
theorem RawSem.later {G : GE} {e0 e : Env} {σ0 σ : St} {w0 w : World} {cr : Value → List PV → St → (PEnd → St → Prop) → Prop} (h : RawSem G e0 σ0 w0 cr) (hL : Later e0 σ0 w0 e σ w) : RawSem G e σ w cr := fun v args σ' K hc => by
 obtain ⟨l, h1, h2⟩ := h v args σ' K hc
 exact ⟨l, h1, fun ro n e' w' vs hS hL' ha => h2 ro n e' w' vs hS (hL.trans hL') ha⟩
theorem CxOK.later {G : GE} {C : Cx} {ro : Option Nat} {e0 e : Env} {σ0 σ : St} {w0 w : World} (h : CxOK G C ro e0 σ0 w0) (hL : Later e0 σ0 w0 e σ w) : CxOK G C ro e σ w := ⟨h.tab, h.call, h.raw.later hL, h.iter, h.out⟩
theorem CxOK.calm {G : GE} {C : Cx} {ro : Option Nat} {e0 : Env} {σ0 : St} {w0 : World} (h : CxOK G C ro e0 σ0 w0) : CxOK G C.calm ro e0 σ0 w0 := ⟨h.tab, h.call, fun _ _ _ _ h => h.elim, h.iter, h.out⟩
def markOf (r : Nat) : Deferred := { target := .collected r, args := #[] }
def Marks (lo : Nat × List Deferred × Bool) (e : Env) (σ : St) (w : World) (l : List Deferred) : Prop := lo.1 ≤ w.heap.size ∧ ∃ rs : List Nat, l = rs.map markOf ++ lo.2.1 ∧ (lo.2.2 = true → rs = []) ∧ rs.Nodup ∧ ∀ r, r ∈ rs → lo.1 ≤ r ∧ w.heap[r]? = some (.deferred (some [])) ∧
 (∀ i, i < σ.bx.length → e.β i ≠ r) ∧ ∀ t, t ∈ σ.tk → ∀ p, e.M t = some p → p.1 ≠ r
theorem Marks.nil {lo : Nat} {fl : Bool} (e : Env) (σ : St) {w : World} (h : lo ≤ w.heap.size) : Marks (lo, [], fl) e σ w [] := ⟨h, [], rfl, fun _ => rfl, List.nodup_nil, fun r h => (by cases h)⟩
theorem Marks.later {lo : Nat × List Deferred × Bool} {e e' : Env} {σ σ' : St} {w w' : World} {l : List Deferred} (h : Marks lo e σ w l) (hL : Later e σ w e' σ' w') : Marks lo e' σ' w' l := by
 obtain ⟨h0, rs, h1, hfl, h2, h3⟩ := h
 refine ⟨Nat.le_trans h0 hL.size, rs, h1, hfl, h2, fun r hr => ?_⟩
 obtain ⟨g1, g2, g3, g4⟩ := h3 r hr
 have hlt := (Array.getElem?_eq_some_iff.1 g2).1
 refine ⟨g1, (hL.blocks r hlt g3 g4).trans g2, fun i hi => ?_, fun t ht p hp => ?_⟩
 ·by_cases h : i < σ.bx.length
  ·rw [hL.beta i h]; exact g3 i h
  ·have := hL.fresh i (by omega) hi; omega
 ·rcases hL.ftok t ht p hp with h | ⟨t0, h0, p0, hp0, h⟩
  ·omega
  ·rw [← h]; exact g4 t0 h0 p0 hp0
theorem bndL_get {n : Nat} : ∀ {l : List PV}, bndL n l = true → ∀ (i : Nat) (x : PV), l[i]? = some x → bnd n x = true
 | [], _, i, x, hx => by simp at hx
 | y :: l, h, i, x, hx => by
  simp only [bndL, Bool.and_eq_true] at h
  cases i with
  | zero => simp at hx; subst hx; exact h.1
  | succ i => exact bndL_get h.2 i x (by simpa using hx)
theorem bndL_of {n : Nat} : ∀ {l : List PV}, (∀ (i : Nat) (x : PV), l[i]? = some x → bnd n x = true) → bndL n l = true
 | [], _ => rfl
 | y :: l, h => by
  simp only [bndL, Bool.and_eq_true]
  exact ⟨h 0 y (by simp), bndL_of fun i x hx => h (i + 1) x (by simpa using hx)⟩
theorem cleanL_get : ∀ {l : List PV} (i : Nat) (y : PV), (cleanL l)[i]? = some y → ∃ x, l[i]? = some x ∧ y = clean x
 | [], i, y, h => by simp [cleanL] at h
 | x :: l, i, y, h => by
  cases i with
  | zero => simp [cleanL] at h; exact ⟨x, by simp, h.symm⟩
  | succ i => simp only [cleanL, List.getElem?_cons_succ] at h; obtain ⟨z, h1, h2⟩ := cleanL_get i y h; exact ⟨z, by simpa using h1, h2⟩
theorem cleanL_length : ∀ {l : List PV}, (cleanL l).length = l.length
 | [] => rfl
 | x :: l => by simp [cleanL, cleanL_length]
section
variable {G : GE} {e e' : Env} {σ σ' : St} {w w' : World}
theorem VRel.bnd {x : PV} {v : Value} (h : VRel G e σ w x v) : bnd σ.bx.length x = true := by
 have get : ∀ {l : List PV} {va : Array Value}, va.size = l.length → (∀ (i : Nat) (x : PV) (u : Value), l[i]? = some x → va[i]? = some u → PM.bnd σ.bx.length x = true) → bndL σ.bx.length l = true := fun {l va} hs h => bndL_of fun i x hx => by
  have hi := (List.getElem?_eq_some_iff.1 hx).1
  exact h i x va[i] hx (Array.getElem?_eq_getElem (by omega))
 induction h with
 | ptr b off h => simp only [PM.bnd, Nat.ble_eq]; omega
 | asl b off n h => simp only [PM.bnd, Nat.ble_eq]; omega
 | func f a c va vc ha hc _ _ ih1 ih2 => simp only [PM.bnd, Bool.and_eq_true]; exact ⟨get ha ih1, get hc ih2⟩
 | iface t x v _ ih => exact ih
 | agg cs vs hs _ _ ih => exact get hs ih
 | tuple cs vs hs _ ih => exact get hs ih
 | _ => rfl
theorem VRel.clean {n : Nat} (hn : n ≤ σ'.bx.length) (hβ : ∀ i, i < n → e'.β i = e.β i)
  (hp : ∀ b off u, w.cell? ⟨b, off, none⟩ = some u → okc e σ b off → okc e' σ' b off ∧ w'.cell? ⟨b, off, none⟩ = some u) {x : PV} {v : Value} (h : VRel G e σ w x v) (hb : PM.bnd n x = true) : VRel G e' σ' w' (clean x) v := by
 induction h with
 | d x v h => exact .d _ _ (h.mono hp)
 | undef v => exact .undef _
 | ptr b off h =>
  simp only [PM.bnd, Nat.ble_eq] at hb
  rw [← hβ b (by omega)]; exact .ptr b off (by omega)
 | asl b off m h =>
  simp only [PM.bnd, Nat.ble_eq] at hb
  rw [← hβ b (by omega)]; exact .asl b off m (by omega)
 | elem r off b o u hc ho hu => exact .elem r off b o u (fun j hj => (hp b _ _ (hc j hj) (ho j hj)).2) (fun j hj => (hp b _ _ (hc j hj) (ho j hj)).1) (fun j x hx => (hu j x hx).mono hp)
 | sl t el rows v hn hd ht => exact .d _ _ (hd.mono hp)
 | nils el => exact .d _ _ .slnil
 | func f a c va vc ha hc _ _ ih1 ih2 =>
  simp only [PM.bnd, Bool.and_eq_true] at hb
  refine .func f _ _ va vc (by rw [cleanL_length]; exact ha) (by rw [cleanL_length]; exact hc) (fun i y u hy hu => ?_) (fun i y u hy hu => ?_)
  ·obtain ⟨x, hx, rfl⟩ := cleanL_get i y hy; exact ih1 i x u hx hu (bndL_get hb.1 i x hx)
  ·obtain ⟨x, hx, rfl⟩ := cleanL_get i y hy; exact ih2 i x u hx hu (bndL_get hb.2 i x hx)
 | iface t x v _ ih => exact .iface t _ v (ih hb)
 | agg cs vs hs _ h1 ih => exact .agg _ vs (by rw [cleanL_length]; exact hs) (fun i y u hy hu => by obtain ⟨x, hx, rfl⟩ := cleanL_get i y hy; exact ih i x u hx hu (bndL_get hb i x hx)) h1
 | tuple cs vs hs _ ih => exact .tuple _ vs (by rw [cleanL_length]; exact hs) (fun i y u hy hu => by obtain ⟨x, hx, rfl⟩ := cleanL_get i y hy; exact ih i x u hx hu (bndL_get hb i x hx))
 | raw v => exact .raw _
theorem cleanNL_length : ∀ {l : List PV}, (cleanNL l).length = l.length
 | [] => rfl
 | x :: l => by simp [PM.cleanNL, cleanNL_length]
theorem cleanNL_get : ∀ {l : List PV} (i : Nat) (y : PV), (cleanNL l)[i]? = some y → ∃ x, l[i]? = some x ∧ y = PM.cleanN x
 | [], i, y, h => by simp [PM.cleanNL] at h
 | x :: l, i, y, h => by
  cases i with
  | zero => simp [PM.cleanNL] at h; exact ⟨x, by simp, h.symm⟩
  | succ i => simp only [PM.cleanNL, List.getElem?_cons_succ] at h; obtain ⟨z, h1, h2⟩ := cleanNL_get i y h; exact ⟨z, by simpa using h1, h2⟩
theorem VRel.cleanN {n : Nat} (hn : n ≤ σ'.bx.length) (hβ : ∀ i, i < n → e'.β i = e.β i)
  (hp : ∀ b off u, w.cell? ⟨b, off, none⟩ = some u → okc e σ b off → okc e' σ' b off ∧ w'.cell? ⟨b, off, none⟩ = some u) {x : PV} {v : Value} (h : VRel G e σ w x v) (hb : PM.bnd n x = true) : VRel G e' σ' w' (cleanN x) v := by
 induction h with
 | d x v h => exact .d _ _ (h.mono hp)
 | undef v => exact .undef _
 | ptr b off h =>
  simp only [PM.bnd, Nat.ble_eq] at hb
  rw [← hβ b (by omega)]; exact .ptr b off (by omega)
 | asl b off m h =>
  simp only [PM.bnd, Nat.ble_eq] at hb
  rw [← hβ b (by omega)]; exact .asl b off m (by omega)
 | elem r off b o u hc ho hu => exact .elem r off b o u (fun j hj => (hp b _ _ (hc j hj) (ho j hj)).2) (fun j hj => (hp b _ _ (hc j hj) (ho j hj)).1) (fun j x hx => (hu j x hx).mono hp)
 | sl t el rows v hn hd ht => exact .d _ _ (hd.mono hp)
 | nils el => exact .nils el
 | func f a c va vc ha hc h1 h2 ih1 ih2 => exact VRel.clean hn hβ hp (.func f a c va vc ha hc h1 h2) hb
 | iface t x v h ih => exact VRel.clean hn hβ hp (.iface t x v h) hb
 | agg cs vs hs _ h1 ih => exact .agg _ vs (by rw [cleanNL_length]; exact hs) (fun i y u hy hu => by obtain ⟨x, hx, rfl⟩ := cleanNL_get i y hy; exact ih i x u hx hu (bndL_get hb i x hx)) h1
 | tuple cs vs hs h ih => exact VRel.clean hn hβ hp (.tuple cs vs hs h) hb
 | raw v => exact .raw _
end
theorem FRel.clean {G : GE} {e e' : Env} {σ σ' : St} {w w' : World} {f : Frame} {tm : Array Value} (hF : FRel G e σ w f tm) (hL : Later e σ w e' σ' w') : FRel G e' σ' w' (cleanF f) tm :=
 fun i => VRel.clean hL.len hL.beta hL.pres (hF i) (hF i).bnd
def ExRel (G : GE) (e : Env) (σ : St) (w : World) : PExit → Exit → Prop
 | .normal, x => x = .normal
 | .exit id, x => x = .exit id
 | .goto l, x => x = .goto l
 | .ret, x => x = .ret
 | .panic p, x => ∃ v, x = .panic [{ v := v, recovered := false }] ∧ VRel G e σ w p v
def PostOf (G : GE) (e0 : Env) (σ0 : St) (w0 : World) (ds : Nat × List Deferred × Bool) (n : Nat) (Z : Array Value → Prop) (Q : PQ) : Exit → Act → World → Prop := fun x a w =>
 ∃ pe f e σ, Q pe f σ ∧ ExRel G e σ w pe x ∧ SRel G e σ w ∧ FRel G e σ w f a.tmps ∧ Later e0 σ0 w0 e σ w ∧ a.tmps.size = n ∧ Marks ds e σ w a.defers ∧ Z a.tmps
def KRel (G : GE) (e0 : Env) (σ0 : St) (w0 : World) (ds : Nat × List Deferred × Bool) (n : Nat) (Z : Array Value → Prop) (K : Frame → St → Prop) : Act → World → Prop := fun a w =>
 ∃ f e σ, K f σ ∧ SRel G e σ w ∧ FRel G e σ w f a.tmps ∧ Later e0 σ0 w0 e σ w ∧ a.tmps.size = n ∧ Marks ds e σ w a.defers ∧ Z a.tmps
theorem forceN_eq : ∀ (n : Nat) (K : Nat → Prop), forceN n K = K n
 | 0, K => rfl
 | n + 1, K => by simp only [forceN, forceN_eq n]
theorem force0_eq (v : PV) (K : PV → Prop) : force0 v K = K v := by cases v <;> simp only [force0, forceN_eq]
theorem forceL0_eq : ∀ (l : List PV) (K : List PV → Prop), forceL0 l K = K l
 | [], _ => rfl
 | v :: l, K => by simp only [forceL0, force0_eq, forceL0_eq l]
theorem force1_eq (v : PV) (K : PV → Prop) : force1 v K = K v := by cases v <;> simp only [force1, forceN_eq, forceL0_eq]
theorem forceL1_eq : ∀ (l : List PV) (K : List PV → Prop), forceL1 l K = K l
 | [], _ => rfl
 | v :: l, K => by simp only [forceL1, force1_eq, forceL1_eq l]
theorem force_eq (v : PV) (K : PV → Prop) : force v K = K v := by cases v <;> simp only [force, forceN_eq, forceL0_eq, force1_eq, forceL1_eq]
theorem forceL_eq : ∀ (l : List PV) (K : List PV → Prop), forceL l K = K l
 | [], _ => rfl
 | v :: l, K => by simp only [forceL, force_eq, forceL_eq l]
theorem forceB_eq : ∀ (l : List Box) (K : List Box → Prop), forceB l K = K l
 | [], _ => rfl
 | .cells t cs :: l, K => by simp only [forceB, forceL_eq, forceB_eq l]
 | .iter s p :: l, K => by simp only [forceB, forceB_eq l]
 | .loop st pd r :: l, K => by simp only [forceB, forceB_eq l]
theorem forceT_eq : ∀ (l : List Nat) (K : List Nat → Prop), forceT l K = K l
 | [], _ => rfl
 | t :: l, K => by simp only [forceT, forceN_eq, forceT_eq l]
theorem forceSt_eq (σ : St) (K : St → Prop) : forceSt σ K = K σ := by simp only [forceSt, forceB_eq, forceT_eq, forceN_eq]
theorem putK_eq (f : Frame) (d : Option Nat) (v : PV) (K : Frame → Prop) : putK f d v K = K (fputO f d v) := by
 cases d with
 | none => rfl
 | some i => simp only [putK, force_eq]; rfl
theorem fset_self {f : Frame} {s : Nat} {v : PV} (h : f s = v) : fset f s v = f := by
 funext j
 by_cases hj : s = j
 ·subst hj; rw [fset_same, h]
 ·rw [fset_ne f v hj]
theorem put_size (a : Act) (d : Option Nat) (v : Value) : (a.put d v).tmps.size = a.tmps.size := by cases d <;> simp [Act.put]
theorem put_keep {N : Nat} {Z : Array Value → Prop} {a : Act} {d : Option Nat} {v : Value} (hd : ∀ i, d = some i → i < N ∧ ∀ t v, Z t → Z (t.setIfInBounds i v)) (hZ : Z a.tmps) : Z (a.put d v).tmps := by
 cases d with
 | none => exact hZ
 | some i => exact (hd i rfl).2 _ _ hZ
theorem put_defers (a : Act) (d : Option Nat) (v : Value) : (a.put d v).defers = a.defers := by cases d <;> rfl
section
variable {G : GE} {C : Cx} {e0 e : Env} {σ0 σ : St} {w0 w : World} {a : Act} {f : Frame} {Q : PQ} {K : Frame → St → Prop} {ro : Option Nat} {n : Nat} {ds : Nat × List Deferred × Bool} {N : Nat} {Z : Array Value → Prop}
theorem KRel.put {e1 : Env} {σ1 : St} {w1 : World} {o : Oper} {pv : PV} {v : Value} (hF : FRel G e σ w f a.tmps) (hL : Later e0 σ0 w0 e σ w) (hN : a.tmps.size = N) (hds : Marks ds e σ w a.defers) (hZ : Z a.tmps) (hd : ∀ d, o.dst = some d → d < N ∧ ∀ t v, Z t → Z (t.setIfInBounds d v))
  (hK : putK f o.dst pv fun f => K f σ1) (hst : Stepped e σ w e1 σ1 w1) (hS1 : SRel G e1 σ1 w1) (hr : VRel G e1 σ1 w1 pv v) : KRel G e0 σ0 w0 ds N Z K (a.put o.dst v) w1 := by
 rw [putK_eq] at hK
 exact ⟨_, e1, σ1, hK, hS1, (hF.step hst).put hr (by rw [hN]; exact fun d h => (hd d h).1), hL.trans hst.toLater, by rw [put_size]; exact hN, by rw [put_defers]; exact hds.later hst.toLater, put_keep hd hZ⟩
theorem args_rel {args : Array Operand} (hρ : ∀ x, VRel G e σ w (ev f x) (a.eval x)) : ArgsRel G e σ w (args.toList.map (ev f)) (args.map a.eval) := by
 refine ⟨by simp, fun i x u hx hu => ?_⟩
 rw [List.getElem?_map] at hx
 rw [Array.getElem?_map] at hu
 cases hq : args[i]? with
 | none => rw [hq] at hu; cases hu
 | some q =>
  rw [hq] at hu
  rw [Array.getElem?_toList, hq] at hx
  cases hx; cases hu; exact hρ q
theorem ArgsRel.append {x y : List PV} {vx vy : Array Value} (h1 : ArgsRel G e σ w x vx) (h2 : ArgsRel G e σ w y vy) : ArgsRel G e σ w (x ++ y) (vx ++ vy) := by
 refine ⟨by rw [Array.size_append, List.length_append, h1.1, h2.1], fun i p u hp hu => ?_⟩
 by_cases hi : i < x.length
 ·rw [List.getElem?_append_left hi] at hp
  rw [Array.getElem?_append_left (by rw [h1.1]; exact hi)] at hu
  exact h1.2 i p u hp hu
 ·rw [List.getElem?_append_right (by omega)] at hp
  rw [Array.getElem?_append_right (by rw [h1.1]; omega), h1.1] at hu
  exact h2.2 _ p u hp hu
theorem pf_rel {G : GE} {C : Cx} {e e' : Env} {σ σ' : St} {w w' : World} {f : Frame} {tm : Array Value} (hF : FRel G e σ w f tm) (hL : Later e σ w e' σ' w') : FRel G e' σ' w' (C.pf f) tm := by
 unfold Cx.pf
 split
 ·exact hF.clean hL
 ·exact fun i => .undef _
theorem runOp_sound (hC : CxOK G C ro e0 σ0 w0) (hS : SRel G e σ w) (hF : FRel G e σ w f a.tmps) (hL : Later e0 σ0 w0 e σ w) (hN : a.tmps.size = N) (hds : Marks ds e σ w a.defers) (hZ : Z a.tmps) {o : Oper} (hd : ∀ d, o.dst = some d → d < N ∧ ∀ t v, Z t → Z (t.setIfInBounds d v))
  (h : runOp C o f σ Q K) : o.wpIn (fw ro) n G.P a w (KRel G e0 σ0 w0 ds N Z K) (PostOf G e0 σ0 w0 ds N Z Q) := by
 have hρ : ∀ x, VRel G e σ w (ev f x) (a.eval x) := fun x => ev_rel hF x
 refine ⟨fun _ _ => trivial, ?_⟩
 unfold runOp at h
 simp only [forceSt_eq, force_eq] at h
 split at h
 ·rename_i hE
  have hnd : ∀ c, o.op ≠ .defer c := fun c hc => by rw [hc] at h; exact h
  rw [show (fw ro).round = ro from rfl, Oper.semAt_eq _ _ _ hnd]
  obtain ⟨pv, v, w1, hK, hg, hr, hrun⟩ := qopG_sound hC.tab hS hρ o h
  rw [hrun]
  exact KRel.put hF hL hN hds hZ hd hK (hg.stepped e σ) (hS.grow hg) hr
 ·rename_i hE
  have hnd : ∀ c, o.op ≠ .defer c := fun c hc => by rw [hc] at hE; cases hE
  rw [show (fw ro).round = ro from rfl, Oper.semAt_eq _ _ _ hnd]
  split at h
  ·rename_i x args at' ho
   have hx := hρ x
   have hres : ∀ (next : World → Ending → World → Prop), True := fun _ => trivial
   unfold callPV at h
   split at h
   ·rename_i g first caps heq
    rw [heq] at hx
    generalize hv : a.eval x = v at hx
    cases hx with
    | func g first caps va vc ha hc h1 h2 =>
     obtain ⟨hent, hcall⟩ := hC.call _ _ _ _ h
     have hargs : ArgsRel G e σ w (first ++ args.toList.map (ev f) ++ caps) (va ++ args.map a.eval ++ vc) := (ArgsRel.append (ArgsRel.append ⟨ha, h1⟩ (args_rel hρ)) ⟨hc, h2⟩)
     have hrun : (execOp a.eval o).run G.P w = .ok (.enter g (va ++ args.map a.eval ++ vc)) w := by
      unfold execOp
      simp only [ho, resolve, hv, Deferred.ofValue, Sem.run_bind, Sem.run_pure, Result.andThen, invoke]
      exact hent _ _
     rw [hrun, Oper.uponIn_enter]
     refine ⟨fun h => by simp [fw] at h, (hcall ro (n - 1) e w _ hS hargs).mono fun en w' hA => ?_⟩
     obtain ⟨pe, σ', e', hK, hE', hS', hst⟩ := hA
     cases pe with
     | ret pv =>
      obtain ⟨u, rfl, hr⟩ := hE'
      exact KRel.put hF hL hN hds hZ hd hK hst hS' hr
     | panic pv =>
      obtain ⟨u, rfl, hr⟩ := hE'
      exact ⟨.panic pv, _, e', σ', hK, ⟨u, rfl, hr⟩, hS', pf_rel hF hst.toLater, hL.trans hst.toLater, hN, hds.later hst.toLater, hZ⟩
   ·rename_i v heq
    rw [heq] at hx
    generalize hv : a.eval x = v' at hx
    cases hx with
    | raw v =>
     obtain ⟨l, rfl, hraw⟩ := hC.raw _ _ _ _ h
     obtain ⟨fn, tmps, asg, body, hy, hround⟩ := hraw ro (n - 1) e w _ hS hL (args_rel hρ)
     have hrun : (execOp a.eval o).run G.P w = .ok (.round l fn tmps asg body) w := by
      unfold execOp
      simp only [ho, resolve, hv, Deferred.ofValue, Sem.run_bind, Sem.run_pure, Result.andThen, invoke, Array.empty_append, hy]
     rw [hrun, Oper.uponIn_round]
     refine ⟨fun h => by simp [fw] at h, hround.mono fun en w' hA => ?_⟩
     obtain ⟨pe, σ', e', hK, hE', hS', hst⟩ := hA
     cases pe with
     | ret pv =>
      obtain ⟨u, rfl, hr⟩ := hE'
      simp only at hK
      rw [putK_eq] at hK
      exact ⟨_, e', σ', hK, hS', (hF.clean hst).put hr (by rw [hN]; exact fun d h => (hd d h).1), hL.trans hst, by rw [put_size]; exact hN, by rw [put_defers]; exact hds.later hst, put_keep hd hZ⟩
     | panic pv =>
      obtain ⟨u, rfl, hr⟩ := hE'
      exact ⟨.panic pv, _, e', σ', hK, ⟨u, rfl, hr⟩, hS', pf_rel (hF.clean (Later.refl _ _ _)) hst, hL.trans hst, hN, hds.later hst, hZ⟩
   ·exact h.elim
  ·rename_i x ho
   have hx := hρ x
   split at h
   ·rename_i t pv heq
    rw [heq] at hx
    generalize hv : a.eval x = v at hx
    cases hx with
    | iface _ _ u hu =>
     have hrun : (execOp a.eval o).run G.P w = .halt (.panic (.iface t u)) w := by
      unfold execOp
      simp only [ho, hv, Instr.panic]
      rfl
     rw [hrun]
     exact ⟨.panic (.iface t pv), _, e, σ, h, ⟨.iface t u, rfl, .iface t pv u hu⟩, hS, pf_rel hF (Later.refl _ _ _), hL, hN, hds, hZ⟩
   ·exact h.elim
  ·obtain ⟨pv, σ1, v, w1, e1, hK, hcomes, hst, hS1, hr⟩ := eop_sound hC.tab hS hρ o h
   rcases hcomes with hrun | ⟨hrun, rfl⟩
   ·rw [hrun]; exact KRel.put hF hL hN hds hZ hd hK hst hS1 hr
   ·rw [hrun]; exact KRel.put hF hL hN hds hZ hd hK hst hS1 hr
theorem pstep_sound (hC : CxOK G C ro e0 σ0 w0) (hS : SRel G e σ w) (hF : FRel G e σ w f a.tmps) (hL : Later e0 σ0 w0 e σ w) (hN : a.tmps.size = N) (hds : Marks ds e σ w a.defers) (hZ : Z a.tmps) {ops : Array Oper} {o : Oper} (hd : ∀ d, o.dst = some d → d < N ∧ ∀ t v, Z t → Z (t.setIfInBounds d v))
  (h : pstep C ops.toList Q o f σ K) :
  if Region.wanted o (yielded ops a.tmps) = true then o.wpIn (fw ro) n G.P a w (KRel G e0 σ0 w0 ds N Z K) (PostOf G e0 σ0 w0 ds N Z Q)
  else KRel G e0 σ0 w0 ds N Z K (a.put o.dst Go.undef) w := by
 unfold pstep at h
 split at h
 ·rename_i hg
  have : Region.wanted o (yielded ops a.tmps) = true := by simp [Region.wanted, hg]
  rw [if_pos this]
  exact runOp_sound hC hS hF hL hN hds hZ hd h
 ·rename_i j want hg
  split at h
  ·rename_i s hs
   have hslot : (ops[j]?).bind (·.dst) = some s := by
    unfold guardSlot at hs
    rw [Array.getElem?_toList] at hs
    cases hoj : ops[j]? with
    | none => rw [hoj] at hs; cases hs
    | some oj => rw [hoj] at hs; exact hs
   have hFs := hF s
   split at h
   ·rename_i t hft
    rw [hft] at hFs
    have hv := hFs.dbool
    have hy : yielded ops a.tmps j = some t := by
     unfold yielded
     rw [hslot]
     have : a.tmps[s]? = some (.bool t) := by
      rw [Array.getD_eq_getD_getElem?] at hv
      cases h2 : a.tmps[s]? with
      | none => rw [h2] at hv; cases hv
      | some u => rw [h2] at hv; simp at hv; rw [hv]
     simp [this]
    have hwant : Region.wanted o (yielded ops a.tmps) = (t == want) := by simp [Region.wanted, hg, hy]
    rw [hwant]
    cases t <;> cases want <;> simp only [CondP] at h
    ·rw [fset_self hft] at h; simp only [beq_self_eq_true, if_true]; exact runOp_sound hC hS hF hL hN hds hZ hd h
    ·rw [fset_self hft] at h; rw [if_neg (by decide)]; exact KRel.put hF hL hN hds hZ hd h (.refl _ _ _) hS (.raw _)
    ·rw [fset_self hft] at h; rw [if_neg (by decide)]; exact KRel.put hF hL hN hds hZ hd h (.refl _ _ _) hS (.raw _)
    ·rw [fset_self hft] at h; simp only [beq_self_eq_true, if_true]; exact runOp_sound hC hS hF hL hN hds hZ hd h
   ·rename_i vs hft
    rw [hft] at hFs
    generalize hv : a.tmps.getD s Go.undef = v at hFs
    cases hFs
    have hy : yielded ops a.tmps j = none := by
     unfold yielded
     rw [hslot]
     rw [Array.getD_eq_getD_getElem?] at hv
     cases h2 : a.tmps[s]? with
     | none => simp [h2]
     | some u => rw [h2] at hv; simp at hv; subst hv; simp [h2]
    have hwant : Region.wanted o (yielded ops a.tmps) = false := by simp [Region.wanted, hg, hy]
    rw [hwant, if_neg (by simp)]
    exact KRel.put hF hL hN hds hZ hd h (.refl _ _ _) hS (.raw _)
   ·exact h.elim
  ·exact h.elim
theorem pstepB_sound (hC : CxOK G C ro e0 σ0 w0) (hS : SRel G e σ w) (hF : FRel G e σ w f a.tmps) (hL : Later e0 σ0 w0 e σ w) (hN : a.tmps.size = N) (hds : Marks ds e σ w a.defers) (hZ : Z a.tmps) {ops : Array Oper} {o : Oper} (hd : ∀ d, o.dst = some d → d < N ∧ ∀ t v, Z t → Z (t.setIfInBounds d v))
  (h : pstepB C ops.toList Q o f σ K) :
  if Region.wanted o (yielded ops a.tmps) = true then o.wpIn (fw ro) n G.P a w (KRel G e0 σ0 w0 ds N Z K) (PostOf G e0 σ0 w0 ds N Z Q)
  else KRel G e0 σ0 w0 ds N Z K (a.put o.dst Go.undef) w := by
 unfold pstepB at h
 split at h
 ·rename_i hb
  have hg : o.guard = none := by
   unfold isOwnB at hb
   split at hb
   ·split at hb
    ·assumption
    ·cases hb
   ·cases hb
  have : Region.wanted o (yielded ops a.tmps) = true := by simp [Region.wanted, hg]
  rw [if_pos this]
  simp only [forceSt_eq] at h
  have hnd : ∀ c, o.op ≠ .defer c := fun c hc => by rw [hc] at h; exact h
  refine ⟨fun _ _ => trivial, ?_⟩
  rw [show (fw ro).round = ro from rfl, Oper.semAt_eq _ _ _ hnd]
  obtain ⟨pv, σ1, v, w1, e1, hK, hrun, hst, hS1, hr⟩ := ownB_sound hC.tab hS (fun x => ev_rel hF x) o h
  rw [hrun]
  exact KRel.put hF hL hN hds hZ hd hK hst hS1 hr
 ·exact pstep_sound hC hS hF hL hN hds hZ hd h
theorem pops_sound (hC : CxOK G C ro e0 σ0 w0) {ops : Array Oper} (hd : ∀ o, o ∈ ops → ∀ d, o.dst = some d → d < N ∧ ∀ t v, Z t → Z (t.setIfInBounds d v)) : ∀ (l : List Oper) (k : Nat), (∀ j, l[j]? = ops[k + j]?) → ∀ {e : Env} {σ : St} {w : World} {a : Act} {f : Frame},
  SRel G e σ w → FRel G e σ w f a.tmps → Later e0 σ0 w0 e σ w → a.tmps.size = N → Marks ds e σ w a.defers → Z a.tmps → pops C ops.toList Q l f σ →
  wpOpsIn (fw ro) n G.P ops (PostOf G e0 σ0 w0 ds N Z Q) (List.range' k l.length) a w
 | [], k, _, e, σ, w, a, f, hS, hF, hL, hN, hds, hZ, h => ⟨.normal, f, e, σ, h, rfl, hS, hF, hL, hN, hds, hZ⟩
 | o :: l, k, hl, e, σ, w, a, f, hS, hF, hL, hN, hds, hZ, h => by
  have h0 : ops[k]? = some o := by simpa using (hl 0).symm
  have hstep := pstepB_sound (ro := ro) (n := n) hC hS hF hL hN hds hZ (ops := ops) (hd o (Array.mem_of_getElem? h0)) h
  have next : ∀ a' w', KRel G e0 σ0 w0 ds N Z (pops C ops.toList Q l) a' w' → wpOpsIn (fw ro) n G.P ops (PostOf G e0 σ0 w0 ds N Z Q) (List.range' (k + 1) l.length) a' w' := fun a' w' ⟨f', e', σ', h1, h2, h3, h4, h5, h6, h7⟩ =>
   pops_sound hC hd l (k + 1) (fun j => by have := hl (j + 1); simpa [Nat.add_assoc, Nat.add_comm 1 j] using this) h2 h3 h4 h5 h6 h7 h1
  rw [List.length_cons, List.range'_succ]
  simp only [wpOpsIn, h0]
  split at hstep
  ·rename_i hw
   rw [if_pos hw]
   exact Oper.wpIn_mono next hstep
  ·rename_i hw
   rw [if_neg hw]
   exact ⟨fun _ _ => trivial, next _ _ hstep⟩
end
end Go.PM
end

section
namespace Go.PM
theorem wrapK_ex {k : IntKind} {n : Int} {K : PV → Prop} (h : wrapK k n K) : ∃ v, K v ∧ ∀ K' : PV → Prop, K' v → wrapK k n K' := by
 rcases h with ⟨h1, h2⟩ | h
 ·exact ⟨_, h2, fun K' h' => .inl ⟨h1, h'⟩⟩
 ·exact ⟨_, h, fun K' h' => .inr h'⟩
theorem pint_ex {op : BinOp} {k : IntKind} {a b : Int} {K : PV → Prop} (h : pint op k a b K) : ∃ v, K v ∧ ∀ K' : PV → Prop, K' v → pint op k a b K' := by
 cases op <;> simp only [pint] at h <;> first
  | exact h.elim
  | exact wrapK_ex h
  | exact ⟨_, h, fun K' h' => h'⟩
  | (obtain ⟨v, h1, h2⟩ := wrapK_ex h.2; exact ⟨v, h1, fun K' h' => ⟨h.1, h2 K' h'⟩⟩)
  | exact ⟨_, h.2, fun K' h' => ⟨h.1, h'⟩⟩
theorem peqCells_ex {T : Tab} : ∀ {fs : List (Nat × Nat)} {i : Nat} {xs ys : List PV} {K : Bool → Prop}, peqCells T i fs xs ys K → ∃ v, K v ∧ ∀ K' : Bool → Prop, K' v → peqCells T i fs xs ys K'
 | [], i, xs, ys, K, h => by cases xs <;> cases ys <;> first | exact ⟨_, h, fun K' h' => h'⟩ | exact h.elim
 | (o, t) :: fs, i, [], ys, K, h => h.elim
 | (o, t) :: fs, i, x :: xs, [], K, h => h.elim
 | (o, t) :: fs, i, x :: xs, y :: ys, K, h => by
  simp only [peqCells] at h
  split at h
  ·rename_i h1 h2
   split at h
   ·rename_i h3
    obtain ⟨v, g1, g2⟩ := peqCells_ex h
    exact ⟨_, g1, fun K' h' => by simp only [peqCells, h1, h2, h3]; exact g2 (fun r => K' _) h'⟩
   ·exact h.elim
  ·rename_i h1 h2
   obtain ⟨v, g1, g2⟩ := peqCells_ex h
   exact ⟨_, g1, fun K' h' => by simp only [peqCells, h1, h2]; exact g2 (fun r => K' _) h'⟩
  ·rename_i h1 h2
   obtain ⟨v, g1, g2⟩ := peqCells_ex h
   exact ⟨_, g1, fun K' h' => by simp only [peqCells, h1, h2]; exact g2 (fun r => K' _) h'⟩
  ·exact h.elim
theorem peq_ex {T : Tab} {t : TypeId} {x y : Operand} {px py : PV} {K : Bool → Prop} (h : peq T t x y px py K) : ∃ v, K v ∧ ∀ K' : Bool → Prop, K' v → peq T t x y px py K' := by
 unfold peq at h
 split at h
 case h_6 =>
  rename_i hk
  split at h
  ·rename_i he
   split at h
   ·obtain ⟨v, g1, g2⟩ := peqCells_ex h
    exact ⟨v, g1, fun K' h' => by simp only [peq, hk, he]; exact g2 K' h'⟩
   ·exact h.elim
  ·exact h.elim
 all_goals (repeat' split at h) <;> first
  | exact h.elim
  | exact ⟨_, h, fun K' h' => by simp only [peq, *]; exact h'⟩
  | exact ⟨_, h, fun K' h' => by simp only [peq, *]⟩
theorem pbin_ex {T : Tab} {op : BinOp} {t : TypeId} {x y : Operand} {px py : PV} {K : PV → Prop} (h : pbin T op t x y px py K) : ∃ v, K v ∧ ∀ K' : PV → Prop, K' v → pbin T op t x y px py K' := by
 unfold pbin at h
 split at h
 ·split at h
  ·obtain ⟨v, h1, h2⟩ := wrapK_ex h.2
   exact ⟨_, h1, fun K' h' => ⟨h.1, h2 K' h'⟩⟩
  ·exact ⟨_, h.2, fun K' h' => ⟨h.1, h'⟩⟩
  ·rename_i h1 h2
   split at h
   ·rename_i hk
    obtain ⟨v, g1, g2⟩ := pint_ex h
    refine ⟨v, g1, fun K' h' => ?_⟩
    cases op <;> first
     | exact absurd rfl h1
     | exact absurd rfl h2
     | (simp only [pbin, hk]; exact g2 K' h')
   ·exact h.elim
 ·cases op <;> simp only at h <;> first
   | exact h.elim
   | exact ⟨_, h, fun K' h' => h'⟩
   | exact ⟨_, h.2, fun K' h' => ⟨h.1, h'⟩⟩
 ·rename_i h1 h2
  cases op <;> simp only at h <;> first
   | exact h.elim
   | (obtain ⟨v, g1, g2⟩ := peq_ex h
      refine ⟨_, g1, fun K' h' => ?_⟩
      unfold pbin
      split
      ·exact absurd rfl (h1 _ _ _ _ rfl)
      ·exact absurd rfl (h2 _ _ rfl)
      ·exact g2 _ h')
theorem slBounds_ex {lo hi : Option PV} {n : Nat} {K : Nat → Nat → Prop} (h : slBounds lo hi n K) : ∃ a b, K a b ∧ ∀ K' : Nat → Nat → Prop, K' a b → slBounds lo hi n K' := by
 unfold slBounds at h
 split at h
 ·exact ⟨_, _, h, fun K' h' => h'⟩
 ·split at h
  ·exact ⟨_, _, h.2.2, fun K' h' => ⟨h.1, h.2.1, h'⟩⟩
  ·exact h.elim
 ·split at h
  ·exact ⟨_, _, h.2.2, fun K' h' => ⟨h.1, h.2.1, h'⟩⟩
  ·exact h.elim
 ·split at h
  ·exact ⟨_, _, h.2.2.2, fun K' h' => ⟨h.1, h.2.1, h.2.2.1, h'⟩⟩
  ·exact h.elim
theorem pload_ex {T : Tab} {t : TypeId} {x : PV} {bx : List Box} {K : PV → Prop} (h : pload T t x bx K) : ∃ v, K v ∧ ∀ K' : PV → Prop, K' v → pload T t x bx K' := by
 unfold pload at h
 (repeat' split at h) <;> first
  | exact h.elim
  | exact ⟨_, h, fun K' h' => by simp only [pload, *]; exact h'⟩
  | exact ⟨_, h, fun K' h' => by simp_all [pload]⟩
theorem pslice_ex {T : Tab} {t : TypeId} {x : PV} {lo hi : Option PV} {K : PV → Prop} (h : pslice T t x lo hi K) : ∃ v, K v ∧ ∀ K' : PV → Prop, K' v → pslice T t x lo hi K' := by
 unfold pslice at h
 split at h
 ·rename_i hk
  split at h
  ·obtain ⟨a, b, h1, h2⟩ := slBounds_ex h
   exact ⟨_, h1, fun K' h' => by simp only [pslice, hk]; exact h2 (fun a b => K' _) h'⟩
  ·exact h.elim
 ·rename_i el hk
  split at h
  ·exact h.elim
  ·rename_i hk2
   split at h
   ·rename_i rows hrows
    obtain ⟨hw, h⟩ := h
    obtain ⟨a, b, h1, h2⟩ := slBounds_ex h
    refine ⟨_, h1, fun K' h' => ?_⟩
    unfold pslice
    rw [hk]
    dsimp only
    cases hk3 : (T.get el).kind
    case other => exact absurd hk3 hk2
    all_goals (dsimp only; rw [hrows]; exact ⟨hw, h2 (fun a b => K' _) h'⟩)
   ·exact h.elim
 ·rename_i n el hk
  split at h
  ·exact h.elim
  ·rename_i hk2
   split at h
   ·refine ⟨_, h, fun K' h' => ?_⟩
    unfold pslice
    rw [hk]
    dsimp only
    cases hk3 : (T.get el).kind
    case other => exact absurd hk3 hk2
    all_goals exact h'
   ·rename_i hlo hhi
    obtain ⟨g1, g2, h⟩ := h
    refine ⟨_, h, fun K' h' => ?_⟩
    unfold pslice
    rw [hk]
    dsimp only
    cases hk3 : (T.get el).kind
    case other => exact absurd hk3 hk2
    all_goals exact ⟨g1, g2, h'⟩
   ·exact h.elim
 ·exact h.elim
theorem fill_ex {T : Tab} {fs : List (Nat × Nat)} {ρ : Operand → PV} : ∀ {ps : List (Nat × Operand)} {cs : List PV} {K : List PV → Prop}, fillParts T fs ρ ps cs K → ∃ v, K v ∧ ∀ K' : List PV → Prop, K' v → fillParts T fs ρ ps cs K'
 | [], cs, K, h => ⟨cs, h, fun K' h' => h'⟩
 | (i, x) :: ps, cs, K, h => by
  simp only [fillParts] at h
  split at h
  ·split at h
   ·exact h.elim
   ·obtain ⟨v, h1, h2⟩ := fill_ex h
    exact ⟨v, h1, fun K' h' => by have := h2 K' h'; simp only [fillParts, *]⟩
   ·exact h.elim
  ·exact h.elim
theorem qop_ex {T : Tab} {o : Op} {ty : TypeId} {ρ : Operand → PV} {bx : List Box} {K : PV → Prop} (h : qop T o ty ρ bx K) : ∃ v, K v ∧ ∀ K' : PV → Prop, K' v → qop T o ty ρ bx K' := by
 unfold qop at h
 split at h
 case h_5 => obtain ⟨v, h1, h2⟩ := pload_ex h; exact ⟨v, h1, fun K' h' => h2 K' h'⟩
 case h_7 => obtain ⟨v, h1, h2⟩ := pbin_ex h; exact ⟨v, h1, fun K' h' => h2 K' h'⟩
 case h_14 => obtain ⟨v, h1, h2⟩ := pslice_ex h; exact ⟨v, h1, fun K' h' => h2 K' h'⟩
 case h_4 =>
  split at h
  ·rename_i fs hk; obtain ⟨v, h1, h2⟩ := fill_ex h; exact ⟨_, h1, fun K' h' => by simp only [qop, hk]; exact h2 (fun cs => K' (.agg cs)) h'⟩
  ·rename_i n el hk
   split at h
   ·exact h.elim
   ·rename_i hk2
    split at h
    ·rename_i hb1
     obtain ⟨v, h1, h2⟩ := fill_ex h
     refine ⟨_, h1, fun K' h' => ?_⟩
     have h3 := h2 (fun cs => K' (.agg cs)) h'
     simp only [qop, hk]
     cases hk5 : (T.get el).kind
     case other => exact absurd hk5 hk2
     all_goals (simp only [hb1]; exact h3)
    ·exact h.elim
  ·exact h.elim
 case h_3 =>
  split at h
  ·rename_i t heq
   cases t
   ·exact ⟨_, h, fun K' h' => by simp only [qop, heq]; exact h'⟩
   ·exact ⟨_, h, fun K' h' => by simp only [qop, heq]; exact h'⟩
  ·exact h.elim
 all_goals (repeat' split at h) <;> first
  | exact h.elim
  | exact ⟨_, h, fun K' h' => by first | (simp only [qop, *]; exact h') | (simp only [qop, *])⟩
  | (obtain ⟨v, h1, h2⟩ := wrapK_ex h; exact ⟨_, h1, fun K' h' => by first | (simp only [qop, *]; exact h2 K' h') | (simp only [qop, *])⟩)
  | (obtain ⟨h1, h2⟩ := h; exact ⟨_, h2, fun K' h' => by simp only [qop, *]; exact ⟨h1, h'⟩⟩)
  | (obtain ⟨h0, h1, h2⟩ := h; exact ⟨_, h2, fun K' h' => by first | (simp only [qop, *]; exact ⟨h0, h1, h'⟩) | (simp only [qop, *]; exact ⟨trivial, trivial, h'⟩)⟩)
  | skip
 ·rename_i h1 _ h2 _ h3 _ rows h4
  obtain ⟨l, hl, hK⟩ := h
  exact ⟨_, hK, fun K' h' => by simp only [qop, h1, h2, h3, h4]; exact ⟨l, hl, h'⟩⟩
 ·rename_i h1 _ h2 _ s h3
  obtain ⟨h4, h5, hK⟩ := h
  exact ⟨_, hK, fun K' h' => by simp only [qop, h1, h2, h3]; exact ⟨h4, h5, h'⟩⟩
 ·rename_i hi _ m el hk _ cs hx _ ha _ l hl
  obtain ⟨h4, h5, hK⟩ := h
  exact ⟨_, hK, fun K' h' => by simp only [qop, hi, hk, hx, ha, hl]; exact ⟨h4, h5, h'⟩⟩
 ·rename_i hi _ m el hk _ cs hx _ ha _ ho _ hs _ v hv
  obtain ⟨h4, h5, hK⟩ := h
  refine ⟨_, hK, fun K' h' => ?_⟩
  simp only [qop, hi, hk, hx, ha]
  cases hk3 : (T.get el).kind
  case other => exact absurd hk3 ho
  all_goals (simp only [hs, hv]; exact ⟨h4, h5, h'⟩)
 ·rename_i hi _ el hk _ ho _ b off m hx
  obtain ⟨h4, h5, hK⟩ := h
  refine ⟨_, hK, fun K' h' => ?_⟩
  simp only [qop, hi, hk, hx]
  cases hk3 : (T.get el).kind
  case other => exact absurd hk3 ho
  all_goals exact ⟨h4, h5, h'⟩
 ·rename_i hi _ el hk _ ho _ hne _ rows hr
  obtain ⟨r, h4, h5, h6⟩ := h
  split at h6
  ·rename_i h7
   refine ⟨_, h6, fun K' h' => ?_⟩
   simp only [qop, hi, hk]
   cases hk3 : (T.get el).kind
   case other => exact absurd hk3 ho
   all_goals
    split
    ·rename_i hx2; rw [hr] at hx2; cases hx2; exact ⟨r, h4, h5, by simp only [h7]; exact h'⟩
    ·rename_i hx2; exact (hx2 _ hr).elim
  ·exact h6.elim
 ·rename_i hi _ m el hk _ ho _ b off hx
  obtain ⟨h4, h5, hK⟩ := h
  refine ⟨_, hK, fun K' h' => ?_⟩
  simp only [qop, hi, hk, hx]
  cases hk3 : (T.get el).kind
  case other => exact absurd hk3 ho
  all_goals exact ⟨h4, h5, h'⟩
theorem qopG_plain {T : Tab} {o : Op} {ty : TypeId} {ρ : Operand → PV} {bx : List Box} {K : PV → Prop} (h1 : isS2B T o = none) (h2 : ∀ t n ps, o = .buildSlice t n ps → False) : qopG T o ty ρ bx K = qop T o ty ρ bx K := by
 unfold qopG
 rw [h1]
 cases o <;> first | rfl | exact (h2 _ _ _ rfl).elim
theorem qopG_ex {T : Tab} {o : Op} {ty : TypeId} {ρ : Operand → PV} {bx : List Box} {K : PV → Prop} (h : qopG T o ty ρ bx K) : ∃ v, K v ∧ ∀ K' : PV → Prop, K' v → qopG T o ty ρ bx K' := by
 unfold qopG at h
 split at h
 ·rename_i x hx
  split at h
  ·rename_i s heq
   exact ⟨_, h, fun K' h' => by unfold qopG; rw [hx]; simp only [heq]; exact h'⟩
  ·exact h.elim
 ·rename_i hx
  split at h
  ·rename_i t n ps
   (repeat' split at h) <;> first
    | exact h.elim
    | (refine ⟨_, h, fun K' h' => ?_⟩; unfold qopG; rw [hx]; simp only [*])
  ·rename_i hno
   obtain ⟨v, h1, h2⟩ := qop_ex h
   exact ⟨v, h1, fun K' h' => by rw [qopG_plain hx hno]; exact h2 K' h'⟩
theorem cellsAt_get {bx bx' : List Box} {b off n : Nat} (h : cellsAt bx b off n = cellsAt bx' b off n) {t : TypeId} {cs : List PV} (hb : bx[b]? = some (.cells t cs)) :
  ∃ t' cs', bx'[b]? = some (.cells t' cs') ∧ (cs.drop off).take n = (cs'.drop off).take n := by
 unfold cellsAt at h
 rw [hb] at h
 simp only at h
 split at h
 ·rename_i t' cs' hb'; exact ⟨t', cs', hb', Option.some.inj h⟩
 ·cases h
theorem takeN_congr {α : Type} : ∀ {n : Nat} {l m : List α}, l.take n = m.take n → takeN n l = takeN n m
 | 0, _, _, _ => rfl
 | n + 1, [], [], _ => rfl
 | n + 1, [], y :: m, h => by simp at h
 | n + 1, x :: l, [], h => by simp at h
 | n + 1, x :: l, y :: m, h => by
  simp only [List.take_succ_cons, List.cons.injEq] at h
  obtain ⟨rfl, h⟩ := h
  simp only [takeN, takeN_congr h]
theorem pload_congr {T : Tab} {t : TypeId} {x : PV} {bx bx' : List Box} {K : PV → Prop} (hpos : (T.get t).kind ≠ .other → (T.get t).kind.isAgg = false → (T.get t).size = 1) (hl : ∀ b off, x = .ptr b off → cellsAt bx b off (T.get t).size = cellsAt bx' b off (T.get t).size)
  (h : pload T t x bx K) : pload T t x bx' K := by
 unfold pload at h ⊢
 split at h
 ·rename_i b off
  have hc := hl b off rfl
  split at h
  ·rename_i ty cs hb
   obtain ⟨t', cs', hb', htake⟩ := cellsAt_get hc hb
   simp only [hb']
   split at h
   ·rename_i hk
    rw [← takeN_congr htake]; exact h
   ·rename_i hk
    have h1 : (T.get t).kind ≠ .other → cs[off]? = cs'[off]? := fun ho => by
     have hp := hpos ho hk
     have := congrArg (·[0]?) htake
     simpa [List.getElem?_take, hp] using this
    cases hk2 : (T.get t).kind <;> rw [hk2] at h <;> simp only at h ⊢ <;> first | exact h.elim | (rw [← h1 (by rw [hk2]; simp)]; exact h)
  ·exact h.elim
 ·exact h
 ·exact h.elim
theorem qop_congr {T : Tab} {o : Op} {ty : TypeId} {ρ ρ' : Operand → PV} {bx bx' : List Box} {K : PV → Prop} (hρ : ∀ x, x ∈ o.operands → ρ x = ρ' x)
  (hpos : ∀ t, (T.get t).kind ≠ .other → (T.get t).kind.isAgg = false → (T.get t).size = 1)
  (hl : ∀ t a b off, o = .load t a → ρ a = .ptr b off → cellsAt bx b off (T.get t).size = cellsAt bx' b off (T.get t).size) (h : qop T o ty ρ bx K) : qop T o ty ρ' bx' K := by
 cases o with
 | load t a =>
  have ha : ρ a = ρ' a := hρ a (by simp [Op.operands])
  simp only [qop] at h ⊢
  rw [← ha]
  exact pload_congr (hpos t) (fun b off hx => hl t a b off rfl hx) h
 | build t ps =>
  simp only [qop] at h ⊢
  have fillC : ∀ fs (l : List (Nat × Operand)), (∀ p ∈ l, ρ p.2 = ρ' p.2) → ∀ cs (K : List PV → Prop), fillParts T fs ρ l cs K → fillParts T fs ρ' l cs K := by
    intro fs l
    induction l with
    | nil => intro _ cs K h; exact h
    | cons p l ih =>
     intro hp cs K h
     obtain ⟨i, x⟩ := p
     simp only [fillParts] at h ⊢
     rw [← hp (i, x) (by simp)]
     split at h
     ·rename_i h1 h2
      split at h
      ·exact h.elim
      ·rename_i h3 h4 h5
       simp only [h1, h2, h3, h4]
       cases hk5 : (T.get _).kind
       case other => exact absurd hk5 h5
       all_goals exact ih (fun q hq => hp q (by simp [hq])) _ _ h
      ·exact h.elim
     ·exact h.elim
  have hps : ∀ p ∈ ps.toList, ρ p.2 = ρ' p.2 := fun p hp => hρ p.2 (by simp only [Op.operands]; exact Array.mem_def.2 (by simp only [List.mem_map]; exact ⟨p, hp, rfl⟩))
  split at h
  ·exact fillC _ ps.toList hps _ _ h
  ·rename_i n el hk
   split at h
   ·exact h.elim
   ·rename_i hk2
    split at h
    ·rename_i hb1
     cases hk5 : (T.get el).kind
     case other => exact absurd hk5 hk2
     all_goals (exact fillC _ ps.toList hps _ _ h)
    ·exact h.elim
  ·exact h.elim
 | slice t x lo hi mx =>
  cases mx with
  | some _ => exact h
  | none =>
   simp only [qop] at h ⊢
   have h1 : ρ x = ρ' x := hρ x (by simp [Op.operands])
   have h2 : lo.map ρ = lo.map ρ' := by cases lo with | none => rfl | some a => simp [hρ a (by simp [Op.operands])]
   have h3 : hi.map ρ = hi.map ρ' := by cases hi with | none => rfl | some a => simp [hρ a (by simp [Op.operands])]
   rw [← h1, ← h2, ← h3]; exact h
 | makeFunc fn a c =>
  cases fn with
  | func g =>
   simp only [qop] at h ⊢
   have h1 : a.toList.map ρ = a.toList.map ρ' := List.map_congr_left fun x hx => hρ x (by simp only [Op.operands, Array.mem_append]; exact .inl (Array.mem_def.2 hx))
   have h2 : c.toList.map ρ = c.toList.map ρ' := List.map_congr_left fun x hx => hρ x (by simp only [Op.operands, Array.mem_append]; exact .inr (Array.mem_def.2 hx))
   rw [← h1, ← h2]; exact h
  | _ => exact h
 | call c =>
  obtain ⟨callee, args, argTypes⟩ := c
  cases callee with
  | builtin b =>
   simp only [qop] at h ⊢
   have h1 : args.toList.map ρ = args.toList.map ρ' := List.map_congr_left fun x hx => hρ x (by simp only [Op.operands, Call.operands, Array.empty_append]; exact Array.mem_def.2 hx)
   rw [← h1]; exact h
  | _ => exact h
 | move x => simp only [qop] at h ⊢; rw [← hρ x (by simp [Op.operands])]; exact h
 | assign x => simp only [qop] at h ⊢; rw [← hρ x (by simp [Op.operands])]; exact h
 | pick c a b => simp only [qop] at h ⊢; rw [← hρ c (by simp [Op.operands]), ← hρ a (by simp [Op.operands]), ← hρ b (by simp [Op.operands])]; exact h
 | nilCheck x => simp only [qop] at h ⊢; rw [← hρ x (by simp [Op.operands])]; exact h
 | binOp op t x y yt => simp only [qop] at h ⊢; rw [← hρ x (by simp [Op.operands]), ← hρ y (by simp [Op.operands])]; exact h
 | unOp op t x => simp only [qop] at h ⊢; rw [← hρ x (by simp [Op.operands])]; exact h
 | convert s d x => simp only [qop] at h ⊢; rw [← hρ x (by simp [Op.operands])]; exact h
 | fieldAddr s x i => simp only [qop] at h ⊢; rw [← hρ x (by simp [Op.operands])]; exact h
 | field s x i => simp only [qop] at h ⊢; rw [← hρ x (by simp [Op.operands])]; exact h
 | index t x i => simp only [qop] at h ⊢; rw [← hρ x (by simp [Op.operands]), ← hρ i (by simp [Op.operands])]; exact h
 | indexAddr t x i => simp only [qop] at h ⊢; rw [← hρ x (by simp [Op.operands]), ← hρ i (by simp [Op.operands])]; exact h
 | extract x i => simp only [qop] at h ⊢; rw [← hρ x (by simp [Op.operands])]; exact h
 | makeInterface t x => simp only [qop] at h ⊢; rw [← hρ x (by simp [Op.operands])]; exact h
 | typeAssert x xt t b => cases b <;> simp only [qop] at h ⊢ <;> first | exact h.elim | (rw [← hρ x (by simp [Op.operands])]; exact h)
 | _ => exact h
theorem isS2B_operand {T : Tab} {o : Op} {x : Operand} (h : isS2B T o = some x) : x ∈ o.operands ∧ ∀ t a, o ≠ .load t a := by
 unfold isS2B at h
 split at h
 ·(repeat' split at h) <;> first | cases h; done | (cases h; exact ⟨by simp [Op.operands], fun t a hh => by cases hh⟩)
 ·cases h
theorem laidRows_congr {w : Nat} {ρ ρ' : Operand → PV} : ∀ {ps : List (Nat × Operand)} (_ : ∀ p ∈ ps, ρ p.2 = ρ' p.2) (rows : List (List D)), laidRows w ρ ps rows = laidRows w ρ' ps rows
 | [], _, _ => rfl
 | (i, x) :: ps, h, rows => by
  simp only [laidRows]
  rw [← h (i, x) (by simp)]
  cases rowOf (ρ x) with
  | none => rfl
  | some r =>
   have ih := laidRows_congr (w := w) (ρ := ρ) (ρ' := ρ') (ps := ps) (fun p hp => h p (List.mem_cons_of_mem _ hp)) (rows.set i r)
   simp only [ih]
theorem qopG_congr {T : Tab} {o : Op} {ty : TypeId} {ρ ρ' : Operand → PV} {bx bx' : List Box} {K : PV → Prop} (hρ : ∀ x, x ∈ o.operands → ρ x = ρ' x)
  (hpos : ∀ t, (T.get t).kind ≠ .other → (T.get t).kind.isAgg = false → (T.get t).size = 1)
  (hl : ∀ t a b off, o = .load t a → ρ a = .ptr b off → cellsAt bx b off (T.get t).size = cellsAt bx' b off (T.get t).size) (h : qopG T o ty ρ bx K) : qopG T o ty ρ' bx' K := by
 unfold qopG at h ⊢
 split at h
 ·rename_i x hx
  rw [← hρ x (isS2B_operand hx).1]
  exact h
 ·rename_i hx
  split at h
  ·rename_i t n ps
   have : ∀ w rows, laidRows w ρ ps.toList rows = laidRows w ρ' ps.toList rows := fun w rows => laidRows_congr (fun p hp => hρ p.2 (by simp only [Op.operands]; exact Array.mem_def.2 (by simp only [List.mem_map]; exact ⟨p, hp, rfl⟩))) rows
   simp only [litRows, this] at h ⊢
   exact h
  ·rename_i hno
   exact qop_congr hρ hpos hl h
theorem eop_congr {T : Tab} {o : Op} {ρ ρ' : Operand → PV} {σ : St} {K : PV → St → Prop} (hρ : ∀ x, x ∈ o.operands → ρ x = ρ' x) (h : eop T o ρ σ K) : eop T o ρ' σ K := by
 cases o with
 | box e x => simp only [eop] at h ⊢; rw [← hρ x (by simp [Op.operands])]; exact h
 | store t a x => simp only [eop] at h ⊢; rw [← hρ a (by simp [Op.operands]), ← hρ x (by simp [Op.operands])]; exact h
 | range t x => simp only [eop] at h ⊢; rw [← hρ x (by simp [Op.operands])]; exact h
 | next x b => cases b <;> simp only [eop] at h ⊢ <;> first | exact h | (rw [← hρ x (by simp [Op.operands])]; exact h)
 | call c =>
  obtain ⟨callee, args, argTypes⟩ := c
  cases callee with
  | builtin b =>
   cases b with
   | append =>
    simp only [eop] at h ⊢
    have h1 : args.toList.map ρ = args.toList.map ρ' := List.map_congr_left fun x hx => hρ x (by simp only [Op.operands, Call.operands, Array.empty_append]; exact Array.mem_def.2 hx)
    rw [← h1]; exact h
   | _ => exact h
  | _ => exact h
 | _ => exact h
end Go.PM
end

section
namespace Go.PM
def guardState (all : List Oper) (o : Oper) (f : Frame) : Option Bool := match o.guard with
 | none => some true
 | some (j, want) => match guardSlot all j with
  | some s => match f s with
   | .d (.bool t) => some (t == want)
   | .raw (.tuple _) => some false
   | _ => none
  | none => none
theorem pstep_iff (C : Cx) (all : List Oper) (Q : PQ) (o : Oper) (f : Frame) (σ : St) (K : Frame → St → Prop) :
  pstep C all Q o f σ K ↔ match guardState all o f with
   | some true => runOp C o f σ Q K
   | some false => K (fputO f o.dst (.raw Go.undef)) σ
   | none => False := by
 unfold pstep guardState
 cases hg : o.guard with
 | none => exact Iff.rfl
 | some p =>
  obtain ⟨j, want⟩ := p
  simp only
  cases hs : guardSlot all j with
  | none => exact Iff.rfl
  | some s =>
   simp only
   cases hf : f s with
   | d x =>
    cases x with
    | bool t => cases t <;> cases want <;> simp only [CondP, fset_self hf, putK_eq] <;> exact Iff.rfl
    | _ => exact Iff.rfl
   | raw v => cases v <;> simp only [putK_eq] <;> exact Iff.rfl
   | _ => exact Iff.rfl
structure CxMono (C : Cx) : Prop where
 one : ∀ t, (C.T.get t).kind ≠ .other → (C.T.get t).kind.isAgg = false → (C.T.get t).size = 1
 call : ∀ g args σ (K K' : PEnd → St → Prop), (∀ e σ, K e σ → K' e σ) → C.call g args σ K → C.call g args σ K'
 raw : ∀ v args σ (K : PEnd → St → Prop), ¬ C.raw v args σ K
 quiet : C.pk = false
theorem qopG_mono {T : Tab} {o : Op} {ty : TypeId} {ρ : Operand → PV} {bx : List Box} {K K' : PV → Prop} (hK : ∀ v, K v → K' v) (h : qopG T o ty ρ bx K) : qopG T o ty ρ bx K' :=
 let ⟨v, h1, h2⟩ := qopG_ex h; h2 K' (hK v h1)
theorem CondP_mono {t : Bool} {X Y X' Y' : Prop} (h1 : X → X') (h2 : Y → Y') (h : CondP t X Y) : CondP t X' Y' := by cases t; exact h2 h; exact h1 h
theorem eop_mono {T : Tab} {o : Op} {ρ : Operand → PV} {σ : St} {K K' : PV → St → Prop} (hK : ∀ v σ, K v σ → K' v σ) (h : eop T o ρ σ K) : eop T o ρ σ K' := by
 unfold eop at h ⊢
 (repeat' split at h) <;> first
  | exact h.elim
  | exact hK _ _ h
  | exact CondP_mono (hK _ _) (hK _ _) h
  | exact ⟨h.1, h.2.1, h.2.2.1, hK _ _ h.2.2.2⟩
  | (rename_i hk; exfalso; simp_all; done)
section
variable {C : Cx} {all : List Oper} {Q : PQ} {f : Frame} {σ : St} {K K' : Frame → St → Prop}
theorem runOp_mono (hM : CxMono C) {o : Oper} (hK : ∀ f σ, K f σ → K' f σ) (h : runOp C o f σ Q K) : runOp C o f σ Q K' := by
 unfold runOp at h ⊢
 simp only [forceSt_eq, force_eq] at h ⊢
 split at h
 ·exact qopG_mono (fun v hv => by rw [putK_eq] at hv ⊢; exact hK _ _ hv) h
 ·split at h
  ·unfold callPV at h ⊢
   split at h
   ·refine hM.call _ _ _ _ _ (fun e σ he => ?_) h
    cases e with
    | ret v => simp only at he ⊢; rw [putK_eq] at he ⊢; exact hK _ _ he
    | panic v => exact he
   ·exact (hM.raw _ _ _ _ h).elim
   ·exact h
  ·exact h
  ·exact eop_mono (fun v σ hv => by rw [putK_eq] at hv ⊢; exact hK _ _ hv) h
theorem pstep_mono (hM : CxMono C) {o : Oper} (hK : ∀ f σ, K f σ → K' f σ) (h : pstep C all Q o f σ K) : pstep C all Q o f σ K' := by
 rw [pstep_iff] at h ⊢
 split at h
 ·exact runOp_mono hM hK h
 ·exact hK _ _ h
 ·exact h
def looks (all : List Oper) (o : Oper) : List Nat :=
 (o.op.operands.toList.filterMap fun | .tmp t => some t | _ => none) ++ (match o.guard with | some (j, _) => (guardSlot all j).toList | none => [])
theorem ev_same {f f' : Frame} {o : Oper} (h : ∀ d, d ∈ looks all o → f d = f' d) {x : Operand} (hx : x ∈ o.op.operands) : ev f x = ev f' x := by
 cases x with
 | tmp t =>
  refine h t ?_
  unfold looks
  refine List.mem_append.2 (.inl (List.mem_filterMap.2 ⟨.tmp t, Array.mem_def.1 hx, rfl⟩))
 | _ => rfl
theorem guard_same {f f' : Frame} {o : Oper} (h : ∀ d, d ∈ looks all o → f d = f' d) : guardState all o f = guardState all o f' := by
 unfold guardState
 cases hg : o.guard with
 | none => rfl
 | some p =>
  obtain ⟨j, want⟩ := p
  simp only
  cases hs : guardSlot all j with
  | none => rfl
  | some s =>
   simp only
   rw [h s (by unfold looks; rw [hg]; simp only [hs]; simp)]
theorem fputO_comm {d d' : Option Nat} (h : ∀ i, d = some i → d' ≠ some i) (f : Frame) (v u : PV) : fputO (fputO f d v) d' u = fputO (fputO f d' u) d v := by
 cases d with
 | none => rfl
 | some i =>
  cases d' with
  | none => rfl
  | some j =>
   have hij : i ≠ j := fun e => h i rfl (by rw [e])
   funext k
   simp only [fputO]
   by_cases h1 : j = k
   ·subst h1; rw [fset_same, fset_ne _ _ hij, fset_same]
   ·rw [fset_ne _ _ h1]
    by_cases h2 : i = k
    ·subst h2; rw [fset_same, fset_same]
    ·rw [fset_ne _ _ h2, fset_ne _ _ h2, fset_ne _ _ h1]
theorem fputO_out {d : Option Nat} {v : PV} {k : Nat} (h : ∀ i, d = some i → i ≠ k) : fputO f d v k = f k := by
 cases d with
 | none => rfl
 | some i => exact fset_ne f v (h i rfl)
theorem calls_operands {x : Operand} {args : Array Operand} {at' : Array TypeId} {y : Operand} : y ∈ (Op.call { callee := .value x, args, argTypes := at' }).operands ↔ y = x ∨ y ∈ args := by
 simp [Op.operands, Call.operands]
theorem runOp_out (hM : CxMono C) {o : Oper} {d : Option Nat} {v : PV} (h1 : ∀ i, d = some i → i ∉ looks all o) (h2 : ∀ i, d = some i → o.dst ≠ some i) (h : runOp C o (fputO f d v) σ Q K) :
  runOp C o f σ Q (fun f' σ' => K (fputO f' d v) σ') := by
 have hsame : ∀ k, k ∈ looks all o → fputO f d v k = f k := fun k hk => fputO_out fun i hi e => h1 i hi (e ▸ hk)
 have hev : ∀ x, x ∈ o.op.operands → ev (fputO f d v) x = ev f x := fun x hx => ev_same hsame hx
 have hcomm : ∀ u, fputO (fputO f d v) o.dst u = fputO (fputO f o.dst u) d v := fun u => fputO_comm h2 f v u
 unfold runOp at h ⊢
 simp only [forceSt_eq, force_eq, Cx.pf, hM.quiet] at h ⊢
 split at h
 ·refine qopG_mono (fun u hu => ?_) (qopG_congr hev hM.one (fun _ _ _ _ _ _ => rfl) h)
  rw [putK_eq] at hu ⊢; rw [hcomm] at hu; exact hu
 ·split at h
  ·rename_i x args at' ho
   have hx : ev (fputO f d v) x = ev f x := hev x (by rw [ho]; exact calls_operands.2 (.inl rfl))
   have hargs : args.toList.map (ev (fputO f d v)) = args.toList.map (ev f) := List.map_congr_left fun y hy => hev y (by rw [ho]; exact calls_operands.2 (.inr (Array.mem_def.2 hy)))
   rw [hx, hargs] at h
   have hk : ∀ (e : PEnd) (σ' : St), (match e with | .ret u => putK (fputO f d v) o.dst u fun f => K f σ' | .panic v => Q (.panic v) (fun _ => .undef) σ' : Prop) → (match e with | .ret u => putK f o.dst u fun f => K (fputO f d v) σ' | .panic v => Q (.panic v) (fun _ => .undef) σ' : Prop) := fun e σ' he => by
    cases e with
    | ret u => simp only at he ⊢; rw [putK_eq] at he ⊢; rw [hcomm] at he; exact he
    | panic v => exact he
   unfold callPV at h ⊢
   split at h
   ·exact hM.call _ _ _ _ _ hk h
   ·exact (hM.raw _ _ _ _ h).elim
   ·exact h
  ·rename_i x ho
   rw [hev x (by rw [ho]; simp [Op.operands])] at h
   exact h
  ·refine eop_mono (fun u σ' hu => ?_) (eop_congr (fun x hx => hev x hx) h)
   rw [putK_eq] at hu ⊢; rw [hcomm] at hu; exact hu
theorem runOp_mono' (hM : CxMono C) {o : Oper} (hK : ∀ u σ', (isEff o.op = false → σ' = σ) → K (fputO f o.dst u) σ' → K' (fputO f o.dst u) σ') (h : runOp C o f σ Q K) : runOp C o f σ Q K' := by
 unfold runOp at h ⊢
 simp only [forceSt_eq, force_eq] at h ⊢
 split at h
 ·rename_i hE
  exact qopG_mono (fun v hv => by rw [putK_eq] at hv ⊢; exact hK _ _ (fun _ => rfl) hv) h
 ·rename_i hE
  have hE' : ∀ σ', isEff o.op = false → σ' = σ := fun σ' h => by rw [hE] at h; cases h
  split at h
  ·unfold callPV at h ⊢
   split at h
   ·refine hM.call _ _ _ _ _ (fun e σ he => ?_) h
    cases e with
    | ret v => simp only at he ⊢; rw [putK_eq] at he ⊢; exact hK _ _ (hE' _) he
    | panic v => exact he
   ·exact (hM.raw _ _ _ _ h).elim
   ·exact h
  ·exact h
  ·exact eop_mono (fun v σ hv => by rw [putK_eq] at hv ⊢; exact hK _ _ (hE' _) hv) h
theorem pstep_mono' (hM : CxMono C) {o : Oper} (hK : ∀ u σ', (isEff o.op = false → σ' = σ) → K (fputO f o.dst u) σ' → K' (fputO f o.dst u) σ') (h : pstep C all Q o f σ K) : pstep C all Q o f σ K' := by
 rw [pstep_iff] at h ⊢
 split at h
 ·exact runOp_mono' hM hK h
 ·exact hK _ _ (fun _ => rfl) h
 ·exact h
theorem pstep_out (hM : CxMono C) {o : Oper} {d : Option Nat} {v : PV} (h1 : ∀ i, d = some i → i ∉ looks all o) (h2 : ∀ i, d = some i → o.dst ≠ some i) (h : pstep C all Q o (fputO f d v) σ K) :
  pstep C all Q o f σ (fun f' σ' => K (fputO f' d v) σ') := by
 rw [pstep_iff] at h ⊢
 rw [guard_same (f' := f) (fun k hk => fputO_out fun i hi e => h1 i hi (e ▸ hk))] at h
 split at h
 ·exact runOp_out hM h1 h2 h
 ·rw [fputO_comm h2] at h; exact h
 ·exact h
theorem quiet_yield (hM : CxMono C) {o : Oper} (hE : isEff o.op = false) (h : pstep C all Q o f σ K) : ∃ v, K (fputO f o.dst v) σ ∧ ∀ f' σ', (∀ d, d ∈ looks all o → f d = f' d) →
  (∀ t a b off, o.op = .load t a → ev f a = .ptr b off → cellsAt σ.bx b off (C.T.get t).size = cellsAt σ'.bx b off (C.T.get t).size) → ∀ K' : Frame → St → Prop, K' (fputO f' o.dst v) σ' → pstep C all Q o f' σ' K' := by
 rw [pstep_iff] at h
 split at h
 ·rename_i hg
  unfold runOp at h
  simp only [hE] at h
  obtain ⟨v, hv, hall⟩ := qopG_ex h
  rw [putK_eq] at hv
  refine ⟨v, hv, fun f' σ' hf hl K' hK' => ?_⟩
  rw [pstep_iff, ← guard_same hf, hg]
  simp only [runOp, hE]
  refine qopG_congr (fun x hx => ev_same hf hx) hM.one hl (hall _ ?_)
  rw [putK_eq]; exact hK'
 ·rename_i hg
  refine ⟨_, h, fun f' σ' hf hl K' hK' => ?_⟩
  rw [pstep_iff, ← guard_same hf, hg]
  exact hK'
 ·exact h.elim
theorem chkL_iff {ms : List Nat} {j : Nat} {pre post : List Box} {X : Prop} : ∀ {l : List Ld}, chkL ms j pre post l X ↔ (∀ d, d ∈ l → anc ms d.i j = false → cellsAt pre d.b d.off d.n = cellsAt post d.b d.off d.n) ∧ X
 | [] => by simp [chkL]
 | d :: l => by
  obtain ⟨di, db, doff, dn⟩ := d
  simp only [chkL]
  cases hd : anc ms di j with
  | true => simp only [chkL_iff, List.mem_cons, forall_eq_or_imp, hd, Bool.true_eq_false, false_implies, true_and]
  | false => simp only [chkL_iff, List.mem_cons, forall_eq_or_imp, hd, true_implies, and_assoc]
theorem addLd_same {o : Oper} {f' : Frame} (h : ∀ d, d ∈ looks all o → f d = f' d) (T : Tab) (i : Nat) (ctx : List Ld) : addLd T o i f ctx = addLd T o i f' ctx := by
 unfold addLd
 split
 ·rename_i t a ho
  rw [ev_same h (by rw [ho]; simp [Op.operands] : a ∈ o.op.operands)]
 ·rfl
theorem addLd_sub {o : Oper} {ctx ctx' : List Ld} (h : ∀ d, d ∈ ctx' → d ∈ ctx) (T : Tab) (i : Nat) : ∀ d, d ∈ addLd T o i f ctx' → d ∈ addLd T o i f ctx := by
 unfold addLd
 split
 ·split
  ·intro d hd; rcases List.mem_cons.1 hd with rfl | hd
   ·simp
   ·exact List.mem_cons_of_mem _ (h d hd)
  ·exact h
 ·exact h
theorem addLd_old {o : Oper} {ctx : List Ld} (T : Tab) (i : Nat) : ∀ d, d ∈ ctx → d ∈ addLd T o i f ctx := by
 unfold addLd
 split
 ·split
  ·intro d hd; exact List.mem_cons_of_mem _ hd
  ·exact fun _ h => h
 ·exact fun _ h => h
theorem addLd_two {o o' : Oper} {f' : Frame} {ctx : List Ld} (T : Tab) (i i' : Nat) : ∀ d, d ∈ addLd T o i f (addLd T o' i' f' ctx) → d ∈ addLd T o' i' f' (addLd T o i f ctx) := by
 have key : ∀ (o : Oper) (i : Nat) (f : Frame), ∃ l, ∀ c, addLd T o i f c = l ++ c := fun o i f => by
  unfold addLd
  split
  ·split
   ·exact ⟨[_], fun c => rfl⟩
   ·exact ⟨[], fun c => rfl⟩
  ·exact ⟨[], fun c => rfl⟩
 obtain ⟨l, hl⟩ := key o i f
 obtain ⟨l', hl'⟩ := key o' i' f'
 intro d hd
 rw [hl, hl'] at hd
 rw [hl', hl]
 simp only [List.mem_append] at hd ⊢
 rcases hd with h | h | h
 ·exact .inr (.inl h)
 ·exact .inl h
 ·exact .inr (.inr h)
theorem stepI_ctx (hM : CxMono C) {ms : List Nat} {i : Nat} {o : Oper} {ctx ctx' : List Ld} {K : List Ld → Frame → St → Prop} (hs : ∀ d, d ∈ ctx' → d ∈ ctx) (hK : ∀ c c' f σ, (∀ d, d ∈ c' → d ∈ c) → K c f σ → K c' f σ)
  (h : stepI C all ms Q i o ctx f σ K) : stepI C all ms Q i o ctx' f σ K := by
 unfold stepI at h ⊢
 refine pstep_mono hM (fun f' σ' hk => ?_) h
 cases hE : isEff o.op with
 | true => simp only [hE] at hk ⊢; rw [chkL_iff] at hk ⊢; exact ⟨fun d hd => hk.1 d (hs d hd), hK _ _ _ _ hs hk.2⟩
 | false => simp only [hE] at hk ⊢; exact hK _ _ _ _ (addLd_sub hs _ _) hk
theorem popsI_ctx (hM : CxMono C) {ms : List Nat} : ∀ (l : List (Nat × Oper)) (c c' : List Ld) (f : Frame) (σ : St), (∀ d, d ∈ c' → d ∈ c) → popsI C all ms Q l c f σ → popsI C all ms Q l c' f σ
 | [], _, _, _, _, _, h => h
 | (i, o) :: l, c, c', f, σ, hs, h => stepI_ctx hM hs (fun c c' f σ => popsI_ctx hM l c c' f σ) h
def apartB (all : List Oper) (x y : Oper) : Bool :=
 (match x.dst with | some d => !(nmem d (looks all y)) && (match y.dst with | some d' => !(Nat.beq d d') | none => true) | none => true) &&
 (match y.dst with | some d => !(nmem d (looks all x)) | none => true)
theorem apartB_spec {x y : Oper} (h : apartB all x y = true) : (∀ i, x.dst = some i → i ∉ looks all y) ∧ (∀ i, x.dst = some i → y.dst ≠ some i) ∧ (∀ i, y.dst = some i → i ∉ looks all x) := by
 unfold apartB at h
 rw [Bool.and_eq_true] at h
 refine ⟨fun i hi => ?_, fun i hi => ?_, fun i hi => ?_⟩
 ·have := h.1; rw [hi] at this; simp only [Bool.and_eq_true, Bool.not_eq_true'] at this
  intro hm; rw [(nmem_iff _ _).2 hm] at this; cases this.1
 ·have := h.1; rw [hi] at this; simp only [Bool.and_eq_true, Bool.not_eq_true'] at this
  intro hm; rw [hm] at this; simp at this
 ·have := h.2; rw [hi] at this; simp only [Bool.not_eq_true'] at this
  intro hm; rw [(nmem_iff _ _).2 hm] at this; cases this
theorem swap (hM : CxMono C) {ms : List Nat} {ix iy : Nat} {x y : Oper} {ctx : List Ld} {K0 : List Ld → Frame → St → Prop} (hK : ∀ c c' f σ, (∀ d, d ∈ c' → d ∈ c) → K0 c f σ → K0 c' f σ)
  (hE : isEff x.op = false) (hap : apartB all x y = true) (hanc : anc ms ix iy = false) (h : stepI C all ms Q ix x ctx f σ (fun c f σ => stepI C all ms Q iy y c f σ K0)) :
  stepI C all ms Q iy y ctx f σ (fun c f σ => stepI C all ms Q ix x c f σ K0) := by
 obtain ⟨ha, hb, hc⟩ := apartB_spec hap
 unfold stepI at h
 simp only [hE] at h
 obtain ⟨v, hv, hall⟩ := quiet_yield hM hE h
 have hsame : ∀ u d, d ∈ looks all x → f d = fputO f y.dst u d := fun u d hd => (fputO_out fun i hi e => hc i hi (e ▸ hd)).symm
 have hv := pstep_out hM ha hb hv
 unfold stepI
 refine pstep_mono' hM (fun u σ' hq hk => ?_) hv
 cases hEy : isEff y.op with
 | true =>
  simp only [hEy] at hk ⊢
  rw [chkL_iff] at hk ⊢
  refine ⟨fun d hd hda => hk.1 d (addLd_old _ _ d hd) hda, ?_⟩
  simp only [hE]
  refine hall _ _ (hsame u) (fun t a b off ho ha => ?_) _ ?_
  ·exact hk.1 ⟨ix, b, off, (C.T.get t).size⟩ (by simp [addLd, ho, ha]) hanc
  ·rw [← addLd_same (hsame u)]; exact hk.2
 | false =>
  simp only [hEy] at hk ⊢
  simp only [hE]
  obtain rfl := hq hEy
  refine hall _ _ (hsame u) (fun t a b off ho ha => rfl) _ ?_
  rw [← addLd_same (hsame u)]
  refine hK _ _ _ _ ?_ hk
  rw [← addLd_same (f := f) (f' := fputO f x.dst v) (o := y) (fun d hd => (fputO_out fun i hi e => ha i hi (e ▸ hd)).symm)]
  exact addLd_two _ _ _
theorem toFront (hM : CxMono C) {ms : List Nat} {i : Nat} {o : Oper} {post : List (Nat × Oper)} : ∀ (pre : List (Nat × Oper)), (∀ p, p ∈ pre → isEff p.2.op = false ∧ apartB all p.2 o = true ∧ anc ms p.1 i = false) → ∀ (ctx : List Ld) (f : Frame) (σ : St),
  popsI C all ms Q (pre ++ (i, o) :: post) ctx f σ → stepI C all ms Q i o ctx f σ (popsI C all ms Q (pre ++ post))
 | [], _, _, _, _, h => h
 | (ix, x) :: pre, hp, ctx, f, σ, h => by
  obtain ⟨h1, h2, h3⟩ := hp (ix, x) (by simp)
  refine swap hM (popsI_ctx hM _) h1 h2 h3 ?_
  have h' : stepI C all ms Q ix x ctx f σ (popsI C all ms Q (pre ++ (i, o) :: post)) := h
  unfold stepI at h' ⊢
  refine pstep_mono hM (fun f' σ' hk => ?_) h'
  cases hE : isEff x.op with
  | true => rw [hE] at h1; cases h1
  | false => simp only [hE] at hk ⊢; exact toFront hM pre (fun p hp' => hp p (List.mem_cons_of_mem _ hp')) _ _ _ hk
end
end Go.PM
end

section
namespace Go.PM
def edgesIn (n i : Nat) : List Edge → Bool
 | [] => true
 | e :: l => (match Region.binds .any e with | true => Nat.ble (e.on + 1) n && !(Nat.beq e.on i) | false => true) && edgesIn n i l
def edgesOff (j : Nat) : List Edge → Bool
 | [] => true
 | e :: l => (match Region.binds .any e with | true => !(Nat.beq e.on j) | false => true) && edgesOff j l
def headOK (all : List Oper) (ms : List Nat) (i : Nat) (o : Oper) : List (Nat × Oper) → Bool
 | [] => true
 | (j, p) :: l => !(Nat.beq i j) && edgesOff j o.after.toList && (anc ms i j || (!(isEff o.op) && apartB all o p)) && headOK all ms i o l
def pairOK (all : List Oper) (ms : List Nat) (n : Nat) : List (Nat × Oper) → Bool
 | [] => true
 | (i, o) :: l => headOK all ms i o l && edgesIn n i o.after.toList && pairOK all ms n l
def covers (cs : List (Nat × Oper)) : Nat → Bool
 | 0 => true
 | n + 1 => cs.any (fun p => Nat.beq p.1 n) && covers cs n
def masksOK (ms : List Nat) : List (Nat × Oper) → Bool
 | [] => true
 | (i, o) :: l => Nat.beq (ms.getD i 0) (maskOf ms o.after.toList 0) && masksOK ms l
def drawOK (ops : List Oper) : Bool :=
 let ms := masks ops []
 let cs := canon ops
 Nat.beq cs.length ops.length && pairOK ops ms ops.length cs && covers cs ops.length && masksOK ms cs
theorem edgesIn_spec {n i : Nat} : ∀ {l : List Edge}, edgesIn n i l = true → ∀ e ∈ l, Region.binds .any e = true → e.on < n ∧ e.on ≠ i
 | [], _, e, he, _ => by cases he
 | x :: l, h, e, he, hb => by
  simp only [edgesIn, Bool.and_eq_true] at h
  rcases List.mem_cons.1 he with rfl | he
  ·have h1 := h.1
   rw [hb] at h1
   simp only [Bool.and_eq_true, Nat.ble_eq, Bool.not_eq_true'] at h1
   exact ⟨h1.1, fun e => by rw [e] at h1; simp at h1⟩
  ·exact edgesIn_spec h.2 e he hb
theorem edgesOff_spec {j : Nat} : ∀ {l : List Edge}, edgesOff j l = true → ∀ e ∈ l, Region.binds .any e = true → e.on ≠ j
 | [], _, e, he, _ => by cases he
 | x :: l, h, e, he, hb => by
  simp only [edgesOff, Bool.and_eq_true] at h
  rcases List.mem_cons.1 he with rfl | he
  ·have h1 := h.1
   rw [hb] at h1
   simp only [Bool.not_eq_true'] at h1
   exact fun e => by rw [e] at h1; simp at h1
  ·exact edgesOff_spec h.2 e he hb
def Ahead (all : List Oper) (ms : List Nat) (x y : Nat × Oper) : Prop :=
 x.1 ≠ y.1 ∧ (∀ e ∈ x.2.after.toList, Region.binds .any e = true → e.on ≠ y.1) ∧ (anc ms x.1 y.1 = true ∨ (isEff x.2.op = false ∧ apartB all x.2 y.2 = true))
theorem headOK_spec {all : List Oper} {ms : List Nat} {i : Nat} {o : Oper} : ∀ {l : List (Nat × Oper)}, headOK all ms i o l = true → ∀ p ∈ l, Ahead all ms (i, o) p
 | [], _, p, hp => by cases hp
 | (j, x) :: l, h, p, hp => by
  simp only [headOK, Bool.and_eq_true, Bool.or_eq_true, Bool.not_eq_true'] at h
  rcases List.mem_cons.1 hp with rfl | hp
  ·exact ⟨fun (e : i = j) => by have := h.1.1.1; rw [e] at this; simp at this, edgesOff_spec h.1.1.2, h.1.2⟩
  ·exact headOK_spec h.2 p hp
theorem pairOK_spec {all : List Oper} {ms : List Nat} {n : Nat} : ∀ {l : List (Nat × Oper)}, pairOK all ms n l = true → l.Pairwise (Ahead all ms) ∧ ∀ p ∈ l, ∀ e ∈ p.2.after.toList, Region.binds .any e = true → e.on < n ∧ e.on ≠ p.1
 | [], _ => ⟨List.Pairwise.nil, fun p hp => by cases hp⟩
 | (i, o) :: l, h => by
  simp only [pairOK, Bool.and_eq_true] at h
  obtain ⟨h1, h2⟩ := pairOK_spec h.2
  refine ⟨List.Pairwise.cons (headOK_spec h.1.1) h1, fun p hp => ?_⟩
  rcases List.mem_cons.1 hp with rfl | hp
  ·exact edgesIn_spec h.1.2
  ·exact h2 p hp
theorem covers_spec {cs : List (Nat × Oper)} : ∀ {n : Nat}, covers cs n = true → ∀ k, k < n → ∃ p ∈ cs, p.1 = k
 | 0, _, k, hk => by omega
 | n + 1, h, k, hk => by
  simp only [covers, Bool.and_eq_true, List.any_eq_true] at h
  by_cases hkn : k = n
  ·obtain ⟨p, hp, hb⟩ := h.1; exact ⟨p, hp, by rw [hkn]; exact Nat.eq_of_beq_eq_true hb⟩
  ·exact covers_spec h.2 k (by omega)
theorem masksOK_spec {ms : List Nat} : ∀ {l : List (Nat × Oper)}, masksOK ms l = true → ∀ p ∈ l, ms.getD p.1 0 = maskOf ms p.2.after.toList 0
 | [], _, p, hp => by cases hp
 | (i, o) :: l, h, p, hp => by
  simp only [masksOK, Bool.and_eq_true] at h
  rcases List.mem_cons.1 hp with rfl | hp
  ·exact Nat.eq_of_beq_eq_true h.1
  ·exact masksOK_spec h.2 p hp
theorem maskOf_bit {ms : List Nat} {x : Nat} : ∀ {l : List Edge} {s : Nat}, (maskOf ms l s).testBit x = true → s.testBit x = true ∨ ∃ e ∈ l, Region.binds .any e = true ∧ (e.on = x ∨ anc ms x e.on = true)
 | [], s, h => .inl h
 | e :: l, s, h => by
  unfold maskOf at h
  cases hb : Region.binds .any e with
  | true =>
   rw [hb] at h
   rcases maskOf_bit h with h1 | ⟨e', he', h1⟩
   ·rw [Nat.testBit_or, Nat.testBit_or, Bool.or_eq_true, Bool.or_eq_true] at h1
    rcases h1 with (h1 | h1) | h1
    ·exact .inl h1
    ·rw [Nat.testBit_two_pow] at h1
     exact .inr ⟨e, by simp, hb, .inl (by simpa using h1)⟩
    ·exact .inr ⟨e, by simp, hb, .inr h1⟩
   ·exact .inr ⟨e', List.mem_cons_of_mem _ he', h1⟩
  | false =>
   rw [hb] at h
   rcases maskOf_bit h with h1 | ⟨e', he', h1⟩
   ·exact .inl h1
   ·exact .inr ⟨e', List.mem_cons_of_mem _ he', h1⟩
theorem pickQ_mem {left : List (Nat × Oper)} : ∀ {l : List (Nat × Oper)} {p : Nat × Oper}, pickQ left l = some p → p ∈ l
 | [], p, h => by cases h
 | (i, o) :: l, p, h => by
  unfold pickQ at h
  split at h
  ·cases h; simp
  ·exact List.mem_cons_of_mem _ (pickQ_mem h)
theorem dropI_mem {i : Nat} : ∀ {l : List (Nat × Oper)} {p : Nat × Oper}, p ∈ dropI i l → p ∈ l
 | [], p, h => by cases h
 | (j, o) :: l, p, h => by
  unfold dropI at h
  split at h
  ·exact List.mem_cons_of_mem _ h
  ·rcases List.mem_cons.1 h with rfl | h
   ·simp
   ·exact List.mem_cons_of_mem _ (dropI_mem h)
theorem canonF_mem : ∀ {n : Nat} {l : List (Nat × Oper)} {p : Nat × Oper}, p ∈ canonF n l → p ∈ l
 | 0, l, p, h => h
 | n + 1, [], p, h => by cases h
 | n + 1, x :: l, p, h => by
  unfold canonF at h
  split at h
  ·rename_i i o hp
   rcases List.mem_cons.1 h with rfl | h
   ·exact pickQ_mem hp
   ·exact dropI_mem (canonF_mem h)
  ·rcases List.mem_cons.1 h with rfl | h
   ·simp
   ·exact List.mem_cons_of_mem _ (canonF_mem h)
theorem numbered_mem : ∀ {l : List Oper} {i : Nat} {p : Nat × Oper}, p ∈ numbered i l → i ≤ p.1 ∧ l[p.1 - i]? = some p.2
 | [], i, p, h => by cases h
 | o :: l, i, p, h => by
  unfold numbered at h
  rcases List.mem_cons.1 h with rfl | h
  ·simp
  ·obtain ⟨h1, h2⟩ := numbered_mem h
   refine ⟨by omega, ?_⟩
   rw [show p.1 - i = (p.1 - (i + 1)) + 1 by omega]
   simpa using h2
theorem canon_mem {ops : List Oper} {p : Nat × Oper} (h : p ∈ canon ops) : ops[p.1]? = some p.2 := by
 have := numbered_mem (canonF_mem h)
 simpa using this.2
section
variable {G : GE} {C : Cx} {e0 e : Env} {σ0 σ : St} {w0 w : World} {a : Act} {f : Frame} {Q : PQ} {ro : Option Nat} {n : Nat} {ds : Nat × List Deferred × Bool} {N : Nat} {Z : Array Value → Prop}
theorem any_sound (hC : CxOK G C ro e0 σ0 w0) (hM : CxMono C) {ops : Array Oper} (hd : ∀ o, o ∈ ops → ∀ d, o.dst = some d → d < N ∧ ∀ t v, Z t → Z (t.setIfInBounds d v)) {ms : List Nat} (hms : ∀ i o, ops[i]? = some o → ms.getD i 0 = maskOf ms o.after.toList 0) :
  ∀ (k : Nat) (l : List (Nat × Oper)), l.length = k → (∀ p ∈ l, ops[p.1]? = some p.2) → l.Pairwise (Ahead ops.toList ms) → (∀ p ∈ l, ∀ e ∈ p.2.after.toList, Region.binds .any e = true → e.on < ops.size ∧ e.on ≠ p.1) →
  ∀ {listed : Array Bool}, listed.size = ops.size → (∀ k, k < ops.size → (listed.getD k false = true ↔ ∀ p ∈ l, p.1 ≠ k)) → (∀ j, (∀ p ∈ l, p.1 ≠ j) → ∀ p ∈ l, anc ms p.1 j = false) →
  ∀ {ctx : List Ld} {e : Env} {σ : St} {w : World} {a : Act} {f : Frame}, SRel G e σ w → FRel G e σ w f a.tmps → Later e0 σ0 w0 e σ w → a.tmps.size = N → Marks ds e σ w a.defers → Z a.tmps → popsI C ops.toList ms Q l ctx f σ →
  wpAnyIn (fw ro) n G.P .any ops (PostOf G e0 σ0 w0 ds N Z Q) k listed a w
 | 0, l, hl, hget, hp, hed, listed, hsz, hli, hdown, ctx, e, σ, w, a, f, hS, hF, hL, hN, hds, hZ, h => by
  have hl0 : l = [] := List.length_eq_zero_iff.1 hl
  subst hl0
  refine ⟨?_, ⟨.normal, f, e, σ, h, rfl, hS, hF, hL, hN, hds, hZ⟩⟩
  rw [List.eq_nil_iff_forall_not_mem]
  intro i hi
  obtain ⟨h1, o, ho, _⟩ := mem_ready.1 hi
  have hlt := (Array.getElem?_eq_some_iff.1 ho).1
  have := (hli i hlt).2 (fun p hp => by cases hp)
  have hlt' : i < listed.size := by rw [hsz]; exact hlt
  simp [Array.getD, hlt'] at this h1
  rw [this] at h1; cases h1
 | k + 1, l, hl, hget, hp, hed, listed, hsz, hli, hdown, ctx, e, σ, w, a, f, hS, hF, hL, hN, hds, hZ, h => by
  have hgd : ∀ i b, i < ops.size → listed.getD i b = listed.getD i false := fun i b hi => by
   have hlt' : i < listed.size := by rw [hsz]; exact hi
   simp [Array.getD, hlt']
  refine ⟨fun hr => ?_, fun i hi => ?_⟩
  ·cases l with
   | nil => simp at hl
   | cons x l =>
    exfalso
    have hx := hget x (by simp)
    have hlt := (Array.getElem?_eq_some_iff.1 hx).1
    have : x.1 ∈ Region.ready .any ops listed := by
     refine mem_ready.2 ⟨?_, x.2, hx, fun ed hed' hb => ?_⟩
     ·rw [hgd _ _ hlt]
      cases hv : listed.getD x.1 false with
      | false => rfl
      | true => exact absurd rfl ((hli x.1 hlt).1 hv x (by simp))
     ·have h1 := hed x (by simp) ed (Array.mem_def.1 hed') hb
      refine (hli ed.on h1.1).2 fun p hp' => ?_
      rcases List.mem_cons.1 hp' with rfl | hp'
      ·exact fun e => h1.2 e.symm
      ·exact fun e => (List.rel_of_pairwise_cons hp hp').2.1 ed (Array.mem_def.1 hed') hb e.symm
    rw [hr] at this; cases this
  ·obtain ⟨h1, o, ho, hall⟩ := mem_ready.1 hi
   have hlt := (Array.getElem?_eq_some_iff.1 ho).1
   rw [hgd _ _ hlt] at h1
   have hmem : ∃ p ∈ l, p.1 = i := by
    apply Classical.byContradiction
    intro hno
    have := (hli i hlt).2 (fun p hp e => hno ⟨p, hp, e⟩)
    rw [h1] at this; cases this
   obtain ⟨p, hpl, rfl⟩ := hmem
   have hpo : p.2 = o := by have := hget p hpl; rw [ho] at this; exact (Option.some.inj this).symm
   obtain ⟨pre, post, rfl⟩ := List.append_of_mem hpl
   obtain ⟨i, o'⟩ := p
   dsimp only at hpo ho hlt h1 hi
   subst hpo
   have hpw := List.pairwise_append.1 hp
   have hpost := (List.pairwise_cons.1 hpw.2.1)
   have hnotanc : ∀ x ∈ pre ++ (i, o') :: post, anc ms x.1 i = false := fun x hx => by
    cases hax : anc ms x.1 i with
    | false => rfl
    | true =>
     exfalso
     unfold anc at hax
     rw [hms i o' ho] at hax
     rcases maskOf_bit hax with h2 | ⟨ed, hed', hb, h2⟩
     ·simp at h2
     ·have hlst := hall ed (Array.mem_def.2 hed') hb
      have hne := (hli ed.on (hed _ hpl ed hed' hb).1).1 hlst
      rcases h2 with h2 | h2
      ·exact hne x hx h2.symm
      ·rw [hdown ed.on hne x hx] at h2; cases h2
   have hfront := toFront hM pre (fun x hx => by
    have hA := hpw.2.2 x hx (i, o') (by simp)
    have hna := hnotanc x (by simp [hx])
    rcases hA.2.2 with h2 | h2
    ·rw [hna] at h2; cases h2
    ·exact ⟨h2.1, h2.2, hna⟩) ctx f σ h
   have hstep := pstep_sound (ro := ro) (n := n) hC hS hF hL hN hds hZ (ops := ops) (hd o' (Array.mem_of_getElem? ho)) hfront
   have hne' : ∀ x ∈ pre ++ post, x.1 ≠ i := fun x hx => by
    rcases List.mem_append.1 hx with hx | hx
    ·exact (hpw.2.2 x hx (i, o') (by simp)).1
    ·exact fun e => (hpost.1 x hx).1 e.symm
   have hsub : ∀ x, x ∈ pre ++ post → x ∈ pre ++ (i, o') :: post := fun x hx => by
    rcases List.mem_append.1 hx with hx | hx <;> simp [hx]
   have next : ∀ a' w', KRel G e0 σ0 w0 ds N Z (fun f' σ' => ∃ c, popsI C ops.toList ms Q (pre ++ post) c f' σ') a' w' → wpAnyIn (fw ro) n G.P .any ops (PostOf G e0 σ0 w0 ds N Z Q) k (listed.setIfInBounds i true) a' w' := fun a' w' ⟨f', e', σ', ⟨c, hk1⟩, h2, h3, h4, h5, h6, h7⟩ => by
    refine any_sound hC hM hd hms k (pre ++ post) (by simp at hl ⊢; omega) (fun x hx => hget x (hsub x hx)) (List.pairwise_append.2 ⟨hpw.1, hpost.2, fun x hx y hy => hpw.2.2 x hx y (List.mem_cons_of_mem _ hy)⟩)
     (fun x hx => hed x (hsub x hx)) (by simpa using hsz) (fun k hk => ?_) (fun j hj x hx => ?_) h2 h3 h4 h5 h6 h7 hk1
    ·by_cases hki : k = i
     ·subst hki
      have hlt' : k < listed.size := by rw [hsz]; exact hlt
      have : (listed.setIfInBounds k true).getD k false = true := by simp [Array.getD, hlt']
      simp only [this, true_iff]
      exact hne'
     ·have : (listed.setIfInBounds i true).getD k false = listed.getD k false := getD_set_ne false (Ne.symm hki)
      rw [this, hli k hk]
      constructor
      ·exact fun hh x hx => hh x (hsub x hx)
      ·intro hh x hx
       rcases List.mem_append.1 hx with hx | hx
       ·exact hh x (by simp [hx])
       ·rcases List.mem_cons.1 hx with rfl | hx
        ·exact fun e => hki e.symm
        ·exact hh x (by simp [hx])
    ·by_cases hji : j = i
     ·subst hji; exact hnotanc x (hsub x hx)
     ·refine hdown j (fun y hy => ?_) x (hsub x hx)
      rcases List.mem_append.1 hy with hy | hy
      ·exact hj y (by simp [hy])
      ·rcases List.mem_cons.1 hy with rfl | hy
       ·exact fun e => hji e.symm
       ·exact hj y (by simp [hy])
   have hK : ∀ a' w', KRel G e0 σ0 w0 ds N Z (fun f' σ' => match isEff o'.op with | true => chkL ms i σ.bx σ'.bx ctx (popsI C ops.toList ms Q (pre ++ post) ctx f' σ') | false => popsI C ops.toList ms Q (pre ++ post) (addLd C.T o' i f ctx) f' σ') a' w' →
     KRel G e0 σ0 w0 ds N Z (fun f' σ' => ∃ c, popsI C ops.toList ms Q (pre ++ post) c f' σ') a' w' := fun a' w' ⟨f', e', σ', hk, hrest⟩ => by
    refine ⟨f', e', σ', ?_, hrest⟩
    cases hE : isEff o'.op with
    | true => rw [hE] at hk; exact ⟨_, (chkL_iff.1 hk).2⟩
    | false => rw [hE] at hk; exact ⟨_, hk⟩
   unfold wpOpIn
   rw [ho]
   dsimp only
   split at hstep
   ·rename_i hw
    rw [if_pos hw]
    exact Oper.wpIn_mono (fun a w h => next a w (hK a w h)) hstep
   ·rename_i hw
    rw [if_neg hw]
    exact ⟨fun _ _ => trivial, next _ _ (hK _ _ hstep)⟩
theorem draw_sound (hC : CxOK G C ro e0 σ0 w0) (hM : CxMono C) {ops : Array Oper} (hd : ∀ o, o ∈ ops → ∀ d, o.dst = some d → d < N ∧ ∀ t v, Z t → Z (t.setIfInBounds d v)) (hok : drawOK ops.toList = true)
  (hS : SRel G e σ w) (hF : FRel G e σ w f a.tmps) (hL : Later e0 σ0 w0 e σ w) (hN : a.tmps.size = N) (hds : Marks ds e σ w a.defers) (hZ : Z a.tmps) (h : popsI C ops.toList (masks ops.toList []) Q (canon ops.toList) [] f σ) :
  wpAnyIn (fw ro) n G.P .any ops (PostOf G e0 σ0 w0 ds N Z Q) ops.size (Array.replicate ops.size false) a w := by
 simp only [drawOK, Bool.and_eq_true] at hok
 obtain ⟨⟨⟨h1, h2⟩, h3⟩, h4⟩ := hok
 have hlen : (canon ops.toList).length = ops.size := by simpa using Nat.eq_of_beq_eq_true h1
 have hcov : ∀ k, k < ops.size → ∃ p ∈ canon ops.toList, p.1 = k := fun k hk => covers_spec h3 k (by simpa using hk)
 have hget : ∀ p ∈ canon ops.toList, ops[p.1]? = some p.2 := fun p hp => by have := canon_mem hp; simpa using this
 refine any_sound hC hM hd (ms := masks ops.toList []) (fun i o ho => ?_) _ (canon ops.toList) hlen hget (pairOK_spec h2).1 (fun p hp e he hb => by have := (pairOK_spec h2).2 p hp e he hb; simpa using this) (by simp) (fun k hk => ?_) (fun j hj p hp => ?_) hS hF hL hN hds hZ h
 ·obtain ⟨p, hp, rfl⟩ := hcov i (Array.getElem?_eq_some_iff.1 ho).1
  have := hget p hp
  rw [ho] at this
  cases this
  exact masksOK_spec h4 p hp
 ·have : (Array.replicate ops.size false).getD k false = false := by simp [Array.getD]
  rw [this]
  simp only [Bool.false_eq_true, false_iff]
  obtain ⟨p, hp, he⟩ := hcov k hk
  exact fun hh => hh p hp he
 ·by_cases hj' : j < ops.size
  ·obtain ⟨q, hq, he⟩ := hcov j hj'
   exact absurd he (hj q hq)
  ·unfold anc
   have : (masks ops.toList []).length = ops.size := by
    have : ∀ (l : List Oper) (acc : List Nat), (masks l acc).length = acc.length + l.length := by
     intro l
     induction l with
     | nil => intro acc; rfl
     | cons o l ih => intro acc; rw [masks, ih]; simp; omega
    rw [this]; simp
   rw [List.getD_eq_getElem?_getD, List.getElem?_eq_none (by omega)]
   simp
end
end Go.PM
end

section
namespace Go.PM
section
variable {G : GE} {e e' : Env} {σ σ' : St} {w w' : World}
inductive NV (n : Nat) (as : List (Option Nat)) : PV → PV → Prop
 | sl (t e : Nat) (rows : List (List D)) (j : Nat) (h : as[j]? = some (some t)) : NV n as (.sl t e rows) (.sl j e rows)
 | nils (e j : Nat) (h : as[j]? = some none) : NV n as (.nils e) (.sl j e [])
 | cl (v : PV) (h : bnd n v = true) : NV n as v (clean v)
 | un (v : PV) : NV n as v .undef
 | clN (v : PV) (h : bnd n v = true) : NV n as v (cleanN v)
structure NInv (S tk : List Nat) (as : List (Option Nat)) : Prop where
 sub : ∀ t, t ∈ tk → t ∈ S
 mem : ∀ (i t : Nat), as[i]? = some (some t) → t ∈ S ∧ t ∉ tk
 inj : ∀ (i j t : Nat), as[i]? = some (some t) → as[j]? = some (some t) → i = j
theorem NV.ext {n : Nat} {as as' : List (Option Nat)} {x y : PV} (h : NV n as x y) (hx : ∃ m, as' = as ++ m) : NV n as' x y := by
 obtain ⟨m, rfl⟩ := hx
 have : ∀ (j : Nat) (q : Option Nat), as[j]? = some q → (as ++ m)[j]? = some q := fun j q hq => by
  rw [List.getElem?_append_left (List.getElem?_eq_some_iff.1 hq).1]; exact hq
 cases h with
 | sl t e rows j h => exact .sl t e rows j (this _ _ h)
 | nils e j h => exact .nils e j (this _ _ h)
 | cl _ h => exact .cl _ h
 | un _ => exact .un _
 | clN _ h => exact .clN _ h
theorem ndel_mem' {t x : Nat} : ∀ {l : List Nat}, x ∈ ndel t l → x ∈ l ∧ x ≠ t
 | [], h => by simp [ndel] at h
 | y :: l, h => by
  simp only [ndel] at h
  split at h
  ·exact ⟨List.mem_cons_of_mem _ (ndel_mem' h).1, (ndel_mem' h).2⟩
  ·rename_i hb
   rcases List.mem_cons.1 h with rfl | h
   ·exact ⟨by simp, fun e => by subst e; simp at hb⟩
   ·exact ⟨List.mem_cons_of_mem _ (ndel_mem' h).1, (ndel_mem' h).2⟩
theorem ext_trans {as as' as'' : List (Option Nat)} (h : ∃ m, as' = as ++ m) (h' : ∃ m, as'' = as' ++ m) : ∃ m, as'' = as ++ m := by
 obtain ⟨m, rfl⟩ := h; obtain ⟨m', rfl⟩ := h'; exact ⟨m ++ m', by rw [List.append_assoc]⟩
theorem NInv.add {S tk : List Nat} {as : List (Option Nat)} (h : NInv S tk as) {t : Nat} (ht : t ∈ tk) : NInv S (ndel t tk) (as ++ [some t]) := by
 have key : ∀ (i s : Nat), (as ++ [some t])[i]? = some (some s) → (as[i]? = some (some s)) ∨ (i = as.length ∧ s = t) := fun i s hi => by
  by_cases hlt : i < as.length
  ·rw [List.getElem?_append_left hlt] at hi; exact .inl hi
  ·rw [List.getElem?_append_right (by omega)] at hi
   have := (List.getElem?_eq_some_iff.1 hi).1
   simp only [List.length_singleton] at this
   have h0 : i - as.length = 0 := by omega
   rw [h0] at hi
   simp at hi
   exact .inr ⟨by omega, hi.symm⟩
 refine ⟨fun x hx => h.sub x (ndel_mem' hx).1, fun i s hi => ?_, fun i j s hi hj => ?_⟩
 ·rcases key i s hi with h1 | ⟨_, rfl⟩
  ·exact ⟨(h.mem i s h1).1, fun hm => (h.mem i s h1).2 (ndel_mem' hm).1⟩
  ·exact ⟨h.sub _ ht, fun hm => (ndel_mem' hm).2 rfl⟩
 ·rcases key i s hi with h1 | ⟨h1, rfl⟩ <;> rcases key j s hj with h2 | ⟨h2, h3⟩
  ·exact h.inj i j s h1 h2
  ·subst h3; exact absurd ht (h.mem i _ h1).2
  ·exact absurd ht (h.mem j _ h2).2
  ·omega
theorem NInv.nil {S tk : List Nat} {as : List (Option Nat)} (h : NInv S tk as) : NInv S tk (as ++ [none]) := by
 have key : ∀ (i s : Nat), (as ++ [none])[i]? = some (some s) → (as[i]? = some (some s)) := fun i s hi => by
  by_cases hlt : i < as.length
  ·rw [List.getElem?_append_left hlt] at hi; exact hi
  ·rw [List.getElem?_append_right (by omega)] at hi
   have := (List.getElem?_eq_some_iff.1 hi).1
   simp only [List.length_singleton] at this
   have h0 : i - as.length = 0 := by omega
   rw [h0] at hi
   simp at hi
 exact ⟨h.sub, fun i s hi => h.mem i s (key i s hi), fun i j s hi hj => h.inj i j s (key i s hi) (key j s hj)⟩
theorem nrm1_ex {n : Nat} {S tk : List Nat} {as : List (Option Nat)} (hI : NInv S tk as) {v : PV} {K : PV → List Nat → Nat → Prop} (h : nrm1 n tk as.length v K) :
  ∃ v' tk' as', K v' tk' as'.length ∧ (∃ m, as' = as ++ m) ∧ NInv S tk' as' ∧ NV n as' v v' := by
 have gen : ∀ v, (match bnd n v with | true => force (clean v) fun v => K v tk as.length | false => K .undef tk as.length : Prop) → ∃ v' tk' as', K v' tk' as'.length ∧ (∃ m, as' = as ++ m) ∧ NInv S tk' as' ∧ NV n as' v v' := fun v h => by
  split at h
  ·rename_i hb; rw [force_eq] at h; exact ⟨_, tk, as, h, ⟨[], by simp⟩, hI, .cl v hb⟩
  ·exact ⟨_, tk, as, h, ⟨[], by simp⟩, hI, .un v⟩
 cases v with
 | sl t el rows =>
  simp only [nrm1] at h
  split at h
  ·rename_i ht
   exact ⟨_, _, as ++ [some t], by simpa using h, ⟨[some t], rfl⟩, hI.add ((nmem_iff _ _).1 ht), .sl t el rows _ (by simp)⟩
  ·exact ⟨_, tk, as, h, ⟨[], by simp⟩, hI, .cl (.sl t el rows) rfl⟩
 | nils el => exact ⟨_, tk, as ++ [none], by simpa [nrm1] using h, ⟨[none], rfl⟩, hI.nil, .nils el _ (by simp)⟩
 | _ => exact gen _ h
theorem nrmL_ex {n : Nat} {S : List Nat} : ∀ {vs : List PV} {tk : List Nat} {as : List (Option Nat)} (_ : NInv S tk as) {K : List PV → List Nat → Nat → Prop}, nrmL n vs tk as.length K →
  ∃ vs' tk' as', K vs' tk' as'.length ∧ (∃ m, as' = as ++ m) ∧ NInv S tk' as' ∧ vs'.length = vs.length ∧ ∀ (i : Nat) (x y : PV), vs[i]? = some x → vs'[i]? = some y → NV n as' x y
 | [], tk, as, hI, K, h => ⟨[], tk, as, h, ⟨[], by simp⟩, hI, rfl, fun i x y hx => by simp at hx⟩
 | v :: vs, tk, as, hI, K, h => by
  obtain ⟨v', tk1, as1, h1, hx1, hI1, hv⟩ := nrm1_ex hI h
  obtain ⟨vs', tk2, as2, h2, hx2, hI2, hl, hvs⟩ := nrmL_ex hI1 h1
  refine ⟨v' :: vs', tk2, as2, h2, ext_trans hx1 hx2, hI2, by simp [hl], fun i x y hx hy => ?_⟩
  cases i with
  | zero => simp at hx hy; subst hx; subst hy; exact hv.ext hx2
  | succ i => exact hvs i x y (by simpa using hx) (by simpa using hy)
theorem nrm1N_ex {n : Nat} {S tk : List Nat} {as : List (Option Nat)} (hI : NInv S tk as) {v : PV} {K : PV → List Nat → Nat → Prop} (h : nrm1N n tk as.length v K) :
  ∃ v' tk' as', K v' tk' as'.length ∧ (∃ m, as' = as ++ m) ∧ NInv S tk' as' ∧ NV n as' v v' := by
 have gen : ∀ v, (match bnd n v with | true => force (cleanN v) fun v => K v tk as.length | false => K .undef tk as.length : Prop) → ∃ v' tk' as', K v' tk' as'.length ∧ (∃ m, as' = as ++ m) ∧ NInv S tk' as' ∧ NV n as' v v' := fun v h => by
  split at h
  ·rename_i hb; rw [force_eq] at h; exact ⟨_, tk, as, h, ⟨[], by simp⟩, hI, .clN v hb⟩
  ·exact ⟨_, tk, as, h, ⟨[], by simp⟩, hI, .un v⟩
 cases v with
 | sl t el rows =>
  simp only [nrm1N] at h
  split at h
  ·rename_i ht
   exact ⟨_, _, as ++ [some t], by simpa using h, ⟨[some t], rfl⟩, hI.add ((nmem_iff _ _).1 ht), .sl t el rows _ (by simp)⟩
  ·exact ⟨_, tk, as, h, ⟨[], by simp⟩, hI, .cl (.sl t el rows) rfl⟩
 | nils el => exact ⟨_, tk, as ++ [none], by simpa [nrm1N] using h, ⟨[none], rfl⟩, hI.nil, .nils el _ (by simp)⟩
 | _ => exact gen _ h
theorem nrmLN_ex {n : Nat} {S : List Nat} : ∀ {vs : List PV} {tk : List Nat} {as : List (Option Nat)} (_ : NInv S tk as) {K : List PV → List Nat → Nat → Prop}, nrmLN n vs tk as.length K →
  ∃ vs' tk' as', K vs' tk' as'.length ∧ (∃ m, as' = as ++ m) ∧ NInv S tk' as' ∧ vs'.length = vs.length ∧ ∀ (i : Nat) (x y : PV), vs[i]? = some x → vs'[i]? = some y → NV n as' x y
 | [], tk, as, hI, K, h => ⟨[], tk, as, h, ⟨[], by simp⟩, hI, rfl, fun i x y hx => by simp at hx⟩
 | v :: vs, tk, as, hI, K, h => by
  obtain ⟨v', tk1, as1, h1, hx1, hI1, hv⟩ := nrm1N_ex hI h
  obtain ⟨vs', tk2, as2, h2, hx2, hI2, hl, hvs⟩ := nrmLN_ex hI1 h1
  refine ⟨v' :: vs', tk2, as2, h2, ext_trans hx1 hx2, hI2, by simp [hl], fun i x y hx hy => ?_⟩
  cases i with
  | zero => simp at hx hy; subst hx; subst hy; exact hv.ext hx2
  | succ i => exact hvs i x y (by simpa using hx) (by simpa using hy)
inductive NB (n : Nat) (as : List (Option Nat)) : Box → Box → Prop
 | cells (t : TypeId) (cs cs' : List PV) (hl : cs'.length = cs.length) (h : ∀ (i : Nat) (x y : PV), cs[i]? = some x → cs'[i]? = some y → NV n as x y) : NB n as (.cells t cs) (.cells t cs')
 | iter (s : List UInt8) (p : Nat) : NB n as (.iter s p) (.iter s p)
 | loop (st : LoopState) (pd : Option Code) (r : Loop) : NB n as (.loop st pd r) (.loop st pd r)
theorem NB.ext {n : Nat} {as as' : List (Option Nat)} {x y : Box} (h : NB n as x y) (hx : ∃ m, as' = as ++ m) : NB n as' x y := by
 cases h with
 | cells t cs cs' hl h => exact .cells t cs cs' hl fun i x y h1 h2 => (h i x y h1 h2).ext hx
 | iter s p => exact .iter s p
 | loop st pd r => exact .loop st pd r
theorem nrmB_ex {n : Nat} {S : List Nat} : ∀ {m : Nat} {bs : List Box} {tk : List Nat} {as : List (Option Nat)} (_ : NInv S tk as) {K : List Box → List Nat → Nat → Prop}, nrmB n m bs tk as.length K →
  ∃ bs' tk' as', K bs' tk' as'.length ∧ (∃ m, as' = as ++ m) ∧ NInv S tk' as' ∧ bs'.length = m ∧ m ≤ bs.length ∧ ∀ (i : Nat) (x y : Box), bs[i]? = some x → bs'[i]? = some y → NB n as' x y
 | 0, bs, tk, as, hI, K, h => ⟨[], tk, as, by simpa [nrmB] using h, ⟨[], by simp⟩, hI, rfl, Nat.zero_le _, fun i x y _ hy => by simp at hy⟩
 | m + 1, [], tk, as, hI, K, h => h.elim
 | m + 1, .cells t cs :: bs, tk, as, hI, K, h => by
  obtain ⟨cs', tk1, as1, h1, hx1, hI1, hl1, hv⟩ := nrmL_ex hI h
  obtain ⟨bs', tk2, as2, h2, hx2, hI2, hl, hm, hvs⟩ := nrmB_ex hI1 h1
  refine ⟨.cells t cs' :: bs', tk2, as2, h2, ext_trans hx1 hx2, hI2, by simp [hl], by simp; omega, fun i x y hx hy => ?_⟩
  cases i with
  | zero => simp at hx hy; subst hx; subst hy; exact .cells t cs cs' hl1 fun i x y h1 h2 => (hv i x y h1 h2).ext hx2
  | succ i => exact hvs i x y (by simpa using hx) (by simpa using hy)
 | m + 1, .iter s p :: bs, tk, as, hI, K, h => by
  obtain ⟨bs', tk2, as2, h2, hx2, hI2, hl, hm, hvs⟩ := nrmB_ex hI (K := fun l tk k => K (.iter s p :: l) tk k) h
  refine ⟨.iter s p :: bs', tk2, as2, h2, hx2, hI2, by simp [hl], by simp; omega, fun i x y hx hy => ?_⟩
  cases i with
  | zero => simp at hx hy; subst hx; subst hy; exact .iter s p
  | succ i => exact hvs i x y (by simpa using hx) (by simpa using hy)
 | m + 1, .loop st pd r :: bs, tk, as, hI, K, h => by
  obtain ⟨bs', tk2, as2, h2, hx2, hI2, hl, hm, hvs⟩ := nrmB_ex hI (K := fun l tk k => K (.loop st pd r :: l) tk k) h
  refine ⟨.loop st pd r :: bs', tk2, as2, h2, hx2, hI2, by simp [hl], by simp; omega, fun i x y hx hy => ?_⟩
  cases i with
  | zero => simp at hx hy; subst hx; subst hy; exact .loop st pd r
  | succ i => exact hvs i x y (by simpa using hx) (by simpa using hy)
structure Drop (n : Nat) (e : Env) (σ : St) (e' : Env) (σ' : St) : Prop where
 le : n ≤ σ.bx.length
 len : σ'.bx.length = n
 beta : e'.β = e.β
 X : e'.X = e.X
 okc : ∀ b off, okc e σ b off → okc e' σ' b off
 tok : ∀ t, t ∈ σ'.tk → ∀ p, e'.M t = some p → ∃ t0, t0 ∈ σ.tk ∧ e.M t0 = some p
theorem Later.drop {e1 : Env} {σ1 : St} {w1 : World} {n : Nat} (h : Later e1 σ1 w1 e σ w) (hd : Drop n e σ e' σ') (hn : σ1.bx.length ≤ n) : Later e1 σ1 w1 e' σ' w where
 len := by rw [hd.len]; exact hn
 beta := by rw [hd.beta]; exact h.beta
 X := by rw [hd.X]; exact h.X
 pres := fun b off u hu ho => let ⟨h1, h2⟩ := h.pres b off u hu ho; ⟨hd.okc b off h1, h2⟩
 blocks := h.blocks
 size := h.size
 os := h.os
 tape := h.tape
 output := h.output
 fresh := fun i h1 h2 => by rw [hd.len] at h2; rw [hd.beta]; exact h.fresh i h1 (Nat.lt_of_lt_of_le h2 hd.le)
 ftok := fun t ht p hp => let ⟨t0, h0, h1⟩ := hd.tok t ht p hp; h.ftok t0 h0 p h1
theorem Marks.drop {lo : Nat × List Deferred × Bool} {n : Nat} {l : List Deferred} (h : Marks lo e σ w l) (hd : Drop n e σ e' σ') : Marks lo e' σ' w l := by
 obtain ⟨h0, rs, h1, hfl, h2, h3⟩ := h
 refine ⟨h0, rs, h1, hfl, h2, fun r hr => ?_⟩
 obtain ⟨g1, g2, g3, g4⟩ := h3 r hr
 refine ⟨g1, g2, fun i hi => ?_, fun t ht p hp => ?_⟩
 ·rw [hd.beta]; rw [hd.len] at hi; exact g3 i (Nat.lt_of_lt_of_le hi hd.le)
 ·obtain ⟨t0, h0, hp0⟩ := hd.tok t ht p hp; exact g4 t0 h0 p hp0
theorem mem_toks {t : Nat} : ∀ {k : Nat}, t ∈ toks k ↔ t < k
 | 0 => by simp [toks]
 | k + 1 => by simp only [toks, List.mem_cons, mem_toks]; omega
def Env.re (e : Env) (as : List (Option Nat)) : Env := { e with M := fun j => (as[j]?.join).bind e.M }
theorem re_some {as : List (Option Nat)} {j : Nat} {p : Nat × Nat} (h : (e.re as).M j = some p) : ∃ t, as[j]? = some (some t) ∧ e.M t = some p := by
 simp only [Env.re] at h
 cases hj : as[j]? with
 | none => rw [hj] at h; simp at h
 | some q =>
  cases q with
  | none => rw [hj] at h; simp at h
  | some t => rw [hj] at h; exact ⟨t, rfl, by simpa using h⟩
theorem re_drop {n : Nat} (hn : n ≤ σ.bx.length) {as : List (Option Nat)} {tk : List Nat} (hI : NInv σ.tk tk as) {bs : List Box} (hb : bs.length = n) : Drop n e σ (e.re as) ⟨bs, toks as.length, as.length⟩ where
 le := hn
 len := hb
 beta := rfl
 X := rfl
 okc := fun b off ho => ⟨ho.1, fun i hi => ho.2.1 i (Nat.lt_of_lt_of_le hi (by rw [show (St.mk bs (toks as.length) as.length).bx.length = n from hb]; exact hn)), fun t ht p hp hpb => by
  obtain ⟨t0, h1, h2⟩ := re_some hp
  exact ho.2.2 t0 (hI.mem _ _ h1).1 p h2 hpb⟩
 tok := fun t ht p hp => by
  obtain ⟨t0, h1, h2⟩ := re_some hp
  exact ⟨t0, (hI.mem _ _ h1).1, h2⟩
theorem NV.rel {n : Nat} (hn : n ≤ σ.bx.length) {as : List (Option Nat)} {tk : List Nat} (hI : NInv σ.tk tk as) {bs : List Box} (hb : bs.length = n) {x y : PV} {v : Value} (h : NV n as x y) (hv : VRel G e σ w x v) :
  VRel G (e.re as) ⟨bs, toks as.length, as.length⟩ w y v := by
 have hd := re_drop (e := e) hn hI hb
 have hlt : ∀ (j : Nat) (q : Option Nat), as[j]? = some q → j < as.length := fun j q hq => (List.getElem?_eq_some_iff.1 hq).1
 cases h with
 | sl t el rows j h =>
  cases hv with
  | sl _ _ _ _ hn2 hd2 ht =>
   refine .sl j el rows v (hlt _ _ h) (hd2.mono fun b off u hu ho => ⟨hd.okc b off ho, hu⟩) fun _ => ?_
   have hM : (e.re as).M j = e.M t := by simp [Env.re, h]
   rcases ht (hI.mem _ _ h).1 with ⟨h1, h2, h3⟩ | ⟨sz, h1, h2, h3, b, off, cap, cs, ty, fz, h4, h5, h6, h7, h8, h9, h10⟩
   ·exact .inl ⟨h1, h2, hM.trans h3⟩
   ·exact .inr ⟨sz, h1, h2, h3, b, off, cap, cs, ty, fz, h4, h5, h6, h7, h8, h9, hM.trans h10⟩
 | nils el j h =>
  cases hv with
  | nils =>
   refine .sl j el [] _ (hlt _ _ h) .slnil fun _ => .inl ⟨rfl, rfl, ?_⟩
   simp [Env.re, h]
 | cl _ h => exact VRel.clean (e := e) (e' := e.re as) (σ := σ) (σ' := ⟨bs, toks as.length, as.length⟩) (w := w) (w' := w) (n := n) (by show n ≤ bs.length; omega) (fun _ _ => rfl) (fun b off u hu ho => ⟨hd.okc b off ho, hu⟩) hv h
 | un _ => exact .undef v
 | clN _ h => exact VRel.cleanN (e := e) (e' := e.re as) (σ := σ) (σ' := ⟨bs, toks as.length, as.length⟩) (w := w) (w' := w) (n := n) (by show n ≤ bs.length; omega) (fun _ _ => rfl) (fun b off u hu ho => ⟨hd.okc b off ho, hu⟩) hv h
theorem re_srel {n : Nat} (hS : SRel G e σ w) (hn : n ≤ σ.bx.length) {as : List (Option Nat)} {tk : List Nat} (hI : NInv σ.tk tk as) {bs : List Box} (hb : bs.length = n)
  (hbs : ∀ (i : Nat) (x y : Box), σ.bx[i]? = some x → bs[i]? = some y → NB n as x y) : SRel G (e.re as) ⟨bs, toks as.length, as.length⟩ w where
 inj := fun i j hi hj h => hS.inj i j (by simp only at hi; omega) (by simp only at hj; omega) h
 box := fun i y hy => by
  have hi := (List.getElem?_eq_some_iff.1 hy).1
  simp only at hi
  have hx : σ.bx[i]? = some σ.bx[i] := List.getElem?_eq_getElem (by omega)
  have hB := hS.box i _ hx
  have hN := hbs i _ y hx hy
  generalize σ.bx[i] = x at hB hN
  cases hN with
  | cells t cs cs' hl h =>
   obtain ⟨vs, h1, h2, h3⟩ := hB
   refine ⟨vs, h1, by rw [hl]; exact h2, fun k z u hz hu => ?_⟩
   have hk := (List.getElem?_eq_some_iff.1 hz).1
   have hx : cs[k]? = some cs[k] := List.getElem?_eq_getElem (by omega)
   exact ⟨(h k _ z hx hz).rel hn hI hb (h3 k _ u hx hu).1, (h3 k _ u hx hu).2⟩
  | iter s p => exact hB
  | loop st pd r => exact hB
 low := fun i hi => hS.low i (by simp only at hi; omega)
 tkn := fun t ht => mem_toks.1 ht
 own := fun t ht p hp => by
  obtain ⟨t0, h1, h2⟩ := re_some hp
  obtain ⟨h3, h4, h5⟩ := hS.own t0 (hI.mem _ _ h1).1 p h2
  exact ⟨h3, fun i hi => h4 i (by simp only at hi; omega), h5⟩
 dis := fun t t' ht ht' hne p p' hp hp' => by
  obtain ⟨t0, h1, h2⟩ := re_some hp
  obtain ⟨t1, h3, h4⟩ := re_some hp'
  exact hS.dis t0 t1 (hI.mem _ _ h1).1 (hI.mem _ _ h3).1 (fun h => hne (hI.inj _ _ _ h1 (by rw [h]; exact h3))) p p' h2 h4
 xlt := hS.xlt
 xown := fun t ht p hp => by
  obtain ⟨t0, h1, h2⟩ := re_some hp
  exact hS.xown t0 (hI.mem _ _ h1).1 p h2
 glob := hS.glob
 big := hS.big
theorem NInv.start (S : List Nat) (tk : List Nat) (h : ∀ t, t ∈ tk → t ∈ S) : NInv S tk [] := ⟨h, fun i t h => by simp at h, fun i j t h => by simp at h⟩
theorem nrmSt_ex (hS : SRel G e σ w) {n : Nat} {vs : List PV} {K : List PV → St → Prop} (h : nrmSt n vs σ K) :
  ∃ vs' σ' e', K vs' σ' ∧ SRel G e' σ' w ∧ Drop n e σ e' σ' ∧ vs'.length = vs.length ∧ ∀ (i : Nat) (x y : PV) (u : Value), vs[i]? = some x → vs'[i]? = some y → VRel G e σ w x u → VRel G e' σ' w y u := by
 obtain ⟨vs', tk1, as1, h1, hx1, hI1, hl, hv⟩ := nrmL_ex (as := []) (NInv.start σ.tk σ.tk fun _ h => h) h
 obtain ⟨bs, tk2, as2, h2, hx2, hI2, hbl, hn, hbs⟩ := nrmB_ex hI1 h1
 exact ⟨vs', ⟨bs, toks as2.length, as2.length⟩, e.re as2, h2, re_srel hS hn hI2 hbl hbs, re_drop hn hI2 hbl, hl, fun i x y u hx hy hr => ((hv i x y hx hy).ext hx2).rel hn hI2 hbl hr⟩
end
end Go.PM
end
