/-
  THE PURE LOGIC, 7: the precondition of a function's code is one: regions in the text's order, code, loops.
-/
import Derived.Test.YtodfhajjdfbhgaaDoorPmEff
import Derived.OrdersIn
set_option linter.unusedVariables false
set_option linter.unusedSimpArgs false
set_option linter.all false
namespace Go.PM

/-- The fence that lets all in; in a round of a range over a function or not. -/
def fw (ro : Option Nat) : Fence := { fn := fun _ => True, depth := none, alive := false, round := ro }
theorem fw_none : fw none = Fence.wide := rfl
def Enters (P : Program) (g : FuncId) : Prop := ∀ (args : Array Value) (w : World), (callFunc g args).run P w = .ok (.enter g args) w

def ArgsRel (G : GE) (e : Env) (σ : St) (w : World) (args : List PV) (vs : Array Value) : Prop :=
  vs.size = args.length ∧ ∀ (i : Nat) (x : PV) (u : Value), args[i]? = some x → vs[i]? = some u → VRel G e σ w x u
def EndRel (G : GE) (e : Env) (σ : St) (w : World) : PEnd → Ending → Prop
  | .ret x, en => ∃ v, en = .returned v ∧ VRel G e σ w x v
  | .panic x, en => ∃ v, en = .panicked [{ v := v, recovered := false }] ∧ VRel G e σ w x v
/-- What stands behind a call. -/
def After (G : GE) (e : Env) (σ : St) (w : World) (K : PEnd → St → Prop) (en : Ending) (w' : World) : Prop :=
  ∃ pe σ' e', K pe σ' ∧ EndRel G e' σ' w' pe en ∧ SRel G e' σ' w' ∧ Stepped e σ w e' σ' w'
/-- The same, told with tokens of its own. -/
def AfterL (G : GE) (e : Env) (σ : St) (w : World) (K : PEnd → St → Prop) (en : Ending) (w' : World) : Prop :=
  ∃ pe σ' e', K pe σ' ∧ EndRel G e' σ' w' pe en ∧ SRel G e' σ' w' ∧ Later e σ w e' σ' w'
def CallSem (G : GE) (cc : FuncId → List PV → St → (PEnd → St → Prop) → Prop) : Prop := ∀ g args σ K, cc g args σ K →
  Enters G.P g ∧ ∀ (ro : Option Nat) (n : Nat) (e : Env) (w : World) (vs : Array Value), SRel G e σ w → ArgsRel G e σ w args vs → CallsIn (fw ro) n G.P g vs w (After G e σ w K)
/-- What a call of 'yield' does, from a moment on. -/
def RawSem (G : GE) (e0 : Env) (σ0 : St) (w0 : World) (cr : Value → List PV → St → (PEnd → St → Prop) → Prop) : Prop := ∀ v args σ K, cr v args σ K →
  ∃ l, v = .func (.yield l) #[] #[] ∧ ∀ (ro : Option Nat) (n : Nat) (e : Env) (w : World) (vs : Array Value), SRel G e σ w → Later e0 σ0 w0 e σ w → ArgsRel G e σ w args vs →
    ∃ f tmps asg body, (Instr.yield l vs).run G.P w = .ok (.round l f tmps asg body) w ∧ RoundIn (fw ro) n G.P l f tmps asg body w (AfterL G e σ w K)
/-- What a call of a function that is ranged over does. -/
def IterSem (G : GE) (ci : FuncId → List PV → (Value → List PV → St → (PEnd → St → Prop) → Prop) → St → (PEnd → St → Prop) → Prop) : Prop := ∀ g args raw σ K, ci g args raw σ K →
  Enters G.P g ∧ ∀ (n : Nat) (e : Env) (w : World) (vs : Array Value), SRel G e σ w → ArgsRel G e σ w args vs → RawSem G e σ w raw → CallsIn (fw none) n G.P g vs w (AfterL G e σ w K)
structure CxOK (G : GE) (C : Cx) (ro : Option Nat) (e0 : Env) (σ0 : St) (w0 : World) : Prop where
  tab : TabOK C.T G.P
  call : CallSem G C.call
  raw : RawSem G e0 σ0 w0 C.raw
  iter : IterSem G C.iter
  out : ro = none ∨ ∀ g args raw σ K, ¬ C.iter g args raw σ K
theorem RawSem.later {G : GE} {e0 e : Env} {σ0 σ : St} {w0 w : World} {cr : Value → List PV → St → (PEnd → St → Prop) → Prop} (h : RawSem G e0 σ0 w0 cr) (hL : Later e0 σ0 w0 e σ w) : RawSem G e σ w cr := fun v args σ' K hc => by
  obtain ⟨l, h1, h2⟩ := h v args σ' K hc
  exact ⟨l, h1, fun ro n e' w' vs hS hL' ha => h2 ro n e' w' vs hS (hL.trans hL') ha⟩
theorem CxOK.later {G : GE} {C : Cx} {ro : Option Nat} {e0 e : Env} {σ0 σ : St} {w0 w : World} (h : CxOK G C ro e0 σ0 w0) (hL : Later e0 σ0 w0 e σ w) : CxOK G C ro e σ w := ⟨h.tab, h.call, h.raw.later hL, h.iter, h.out⟩
theorem CxOK.calm {G : GE} {C : Cx} {ro : Option Nat} {e0 : Env} {σ0 : St} {w0 : World} (h : CxOK G C ro e0 σ0 w0) : CxOK G C.calm ro e0 σ0 w0 := ⟨h.tab, h.call, fun _ _ _ _ h => h.elim, h.iter, h.out⟩

/-! ### Marks: what a range over a function leaves among the deferred calls -/
def markOf (r : Nat) : Deferred := { target := .collected r, args := #[] }
def Marks (lo : Nat) (e : Env) (σ : St) (w : World) (l : List Deferred) : Prop := lo ≤ w.heap.size ∧ ∃ rs : List Nat, l = rs.map markOf ∧ rs.Nodup ∧ ∀ r, r ∈ rs → lo ≤ r ∧ w.heap[r]? = some (.deferred (some [])) ∧
  (∀ i, i < σ.bx.length → e.β i ≠ r) ∧ ∀ t, t ∈ σ.tk → ∀ p, e.M t = some p → p.1 ≠ r
theorem Marks.nil {lo : Nat} (e : Env) (σ : St) {w : World} (h : lo ≤ w.heap.size) : Marks lo e σ w [] := ⟨h, [], rfl, List.nodup_nil, fun r h => (by cases h)⟩
theorem Marks.later {lo : Nat} {e e' : Env} {σ σ' : St} {w w' : World} {l : List Deferred} (h : Marks lo e σ w l) (hL : Later e σ w e' σ' w') : Marks lo e' σ' w' l := by
  obtain ⟨h0, rs, h1, h2, h3⟩ := h
  refine ⟨Nat.le_trans h0 hL.size, rs, h1, h2, fun r hr => ?_⟩
  obtain ⟨g1, g2, g3, g4⟩ := h3 r hr
  have hlt := (Array.getElem?_eq_some_iff.1 g2).1
  refine ⟨g1, (hL.blocks r hlt g3 g4).trans g2, fun i hi => ?_, fun t ht p hp => ?_⟩
  · by_cases h : i < σ.bx.length
    · rw [hL.beta i h]; exact g3 i h
    · have := hL.fresh i (by omega) hi; omega
  · rcases hL.ftok t ht p hp with h | ⟨t0, h0, p0, hp0, h⟩
    · omega
    · rw [← h]; exact g4 t0 h0 p0 hp0

/-! ### Values without tokens -/
theorem bndL_get {n : Nat} : ∀ {l : List PV}, bndL n l = true → ∀ (i : Nat) (x : PV), l[i]? = some x → bnd n x = true
  | [], _, i, x, hx => by simp at hx
  | y :: l, h, i, x, hx => by
    simp only [bndL, Bool.and_eq_true] at h
    cases i with
    | zero => simp at hx; subst hx; exact h.1
    | succ i => exact bndL_get h.2 i x (by simpa using hx)
theorem bndL_of {n : Nat} : ∀ {l : List PV}, (∀ (i : Nat) (x : PV), l[i]? = some x → bnd n x = true) → bndL n l = true
  | [], _ => rfl
  | y :: l, h => by
    simp only [bndL, Bool.and_eq_true]
    exact ⟨h 0 y (by simp), bndL_of fun i x hx => h (i + 1) x (by simpa using hx)⟩
theorem cleanL_get : ∀ {l : List PV} (i : Nat) (y : PV), (cleanL l)[i]? = some y → ∃ x, l[i]? = some x ∧ y = clean x
  | [], i, y, h => by simp [cleanL] at h
  | x :: l, i, y, h => by
    cases i with
    | zero => simp [cleanL] at h; exact ⟨x, by simp, h.symm⟩
    | succ i => simp only [cleanL, List.getElem?_cons_succ] at h; obtain ⟨z, h1, h2⟩ := cleanL_get i y h; exact ⟨z, by simpa using h1, h2⟩
theorem cleanL_length : ∀ {l : List PV}, (cleanL l).length = l.length
  | [] => rfl
  | x :: l => by simp [cleanL, cleanL_length]
section
variable {G : GE} {e e' : Env} {σ σ' : St} {w w' : World}
theorem VRel.bnd {x : PV} {v : Value} (h : VRel G e σ w x v) : bnd σ.bx.length x = true := by
  have get : ∀ {l : List PV} {va : Array Value}, va.size = l.length → (∀ (i : Nat) (x : PV) (u : Value), l[i]? = some x → va[i]? = some u → PM.bnd σ.bx.length x = true) → bndL σ.bx.length l = true := fun {l va} hs h => bndL_of fun i x hx => by
    have hi := (List.getElem?_eq_some_iff.1 hx).1
    exact h i x va[i] hx (Array.getElem?_eq_getElem (by omega))
  induction h with
  | ptr b off h => simp only [PM.bnd, Nat.ble_eq]; omega
  | func f a c va vc ha hc _ _ ih1 ih2 => simp only [PM.bnd, Bool.and_eq_true]; exact ⟨get ha ih1, get hc ih2⟩
  | iface t x v _ ih => exact ih
  | agg cs vs hs _ _ ih => exact get hs ih
  | tuple cs vs hs _ ih => exact get hs ih
  | _ => rfl
/-- A value without its tokens. -/
theorem VRel.clean {n : Nat} (hn : n ≤ σ'.bx.length) (hβ : ∀ i, i < n → e'.β i = e.β i)
    (hp : ∀ b off u, w.cell? ⟨b, off, none⟩ = some u → okc e σ b off → okc e' σ' b off ∧ w'.cell? ⟨b, off, none⟩ = some u) {x : PV} {v : Value} (h : VRel G e σ w x v) (hb : PM.bnd n x = true) : VRel G e' σ' w' (clean x) v := by
  induction h with
  | d x v h => exact .d _ _ (h.mono hp)
  | undef v => exact .undef _
  | ptr b off h =>
    simp only [PM.bnd, Nat.ble_eq] at hb
    rw [← hβ b (by omega)]; exact .ptr b off (by omega)
  | elem r off b o u hc ho hu => exact .elem r off b o u (fun j hj => (hp b _ _ (hc j hj) (ho j hj)).2) (fun j hj => (hp b _ _ (hc j hj) (ho j hj)).1) (fun j x hx => (hu j x hx).mono hp)
  | sl t el rows v hn hd ht => exact .d _ _ (hd.mono hp)
  | nils el => exact .d _ _ .slnil
  | func f a c va vc ha hc _ _ ih1 ih2 =>
    simp only [PM.bnd, Bool.and_eq_true] at hb
    refine .func f _ _ va vc (by rw [cleanL_length]; exact ha) (by rw [cleanL_length]; exact hc) (fun i y u hy hu => ?_) (fun i y u hy hu => ?_)
    · obtain ⟨x, hx, rfl⟩ := cleanL_get i y hy; exact ih1 i x u hx hu (bndL_get hb.1 i x hx)
    · obtain ⟨x, hx, rfl⟩ := cleanL_get i y hy; exact ih2 i x u hx hu (bndL_get hb.2 i x hx)
  | iface t x v _ ih => exact .iface t _ v (ih hb)
  | agg cs vs hs _ h1 ih => exact .agg _ vs (by rw [cleanL_length]; exact hs) (fun i y u hy hu => by obtain ⟨x, hx, rfl⟩ := cleanL_get i y hy; exact ih i x u hx hu (bndL_get hb i x hx)) h1
  | tuple cs vs hs _ ih => exact .tuple _ vs (by rw [cleanL_length]; exact hs) (fun i y u hy hu => by obtain ⟨x, hx, rfl⟩ := cleanL_get i y hy; exact ih i x u hx hu (bndL_get hb i x hx))
  | raw v => exact .raw _

end
theorem FRel.clean {G : GE} {e e' : Env} {σ σ' : St} {w w' : World} {f : Frame} {tm : Array Value} (hF : FRel G e σ w f tm) (hL : Later e σ w e' σ' w') : FRel G e' σ' w' (cleanF f) tm :=
  fun i => VRel.clean hL.len hL.beta hL.pres (hF i) (hF i).bnd

def ExRel (G : GE) (e : Env) (σ : St) (w : World) : PExit → Exit → Prop
  | .normal, x => x = .normal
  | .exit id, x => x = .exit id
  | .goto l, x => x = .goto l
  | .ret, x => x = .ret
  | .panic p, x => ∃ v, x = .panic [{ v := v, recovered := false }] ∧ VRel G e σ w p v
/-- What an exit of the code comes to in the machine, told from the moment (e0, σ0, w0) on. -/
def PostOf (G : GE) (e0 : Env) (σ0 : St) (w0 : World) (ds : Nat) (n : Nat) (Z : Array Value → Prop) (Q : PQ) : Exit → Act → World → Prop := fun x a w =>
  ∃ pe f e σ, Q pe f σ ∧ ExRel G e σ w pe x ∧ SRel G e σ w ∧ FRel G e σ w f a.tmps ∧ Later e0 σ0 w0 e σ w ∧ a.tmps.size = n ∧ Marks ds e σ w a.defers ∧ Z a.tmps
def KRel (G : GE) (e0 : Env) (σ0 : St) (w0 : World) (ds : Nat) (n : Nat) (Z : Array Value → Prop) (K : Frame → St → Prop) : Act → World → Prop := fun a w =>
  ∃ f e σ, K f σ ∧ SRel G e σ w ∧ FRel G e σ w f a.tmps ∧ Later e0 σ0 w0 e σ w ∧ a.tmps.size = n ∧ Marks ds e σ w a.defers ∧ Z a.tmps

theorem force_eq (v : PV) (K : PV → Prop) : force v K = K v := by cases v <;> rfl
theorem forceL_eq : ∀ (l : List PV) (K : List PV → Prop), forceL l K = K l
  | [], _ => rfl
  | v :: l, K => by simp only [forceL, force_eq, forceL_eq l]
theorem forceB_eq : ∀ (l : List Box) (K : List Box → Prop), forceB l K = K l
  | [], _ => rfl
  | .cells t cs :: l, K => by simp only [forceB, forceL_eq, forceB_eq l]
  | .iter s p :: l, K => by simp only [forceB, forceB_eq l]
  | .loop st pd r :: l, K => by simp only [forceB, forceB_eq l]
theorem forceN_eq (n : Nat) (K : Nat → Prop) : forceN n K = K n := by cases n <;> rfl
theorem forceT_eq : ∀ (l : List Nat) (K : List Nat → Prop), forceT l K = K l
  | [], _ => rfl
  | t :: l, K => by simp only [forceT, forceN_eq, forceT_eq l]
theorem forceSt_eq (σ : St) (K : St → Prop) : forceSt σ K = K σ := by simp only [forceSt, forceB_eq, forceT_eq, forceN_eq]
theorem putK_eq (f : Frame) (d : Option Nat) (v : PV) (K : Frame → Prop) : putK f d v K = K (fputO f d v) := by
  cases d with
  | none => rfl
  | some i => simp only [putK, force_eq]; rfl
theorem fset_self {f : Frame} {s : Nat} {v : PV} (h : f s = v) : fset f s v = f := by
  funext j
  by_cases hj : s = j
  · subst hj; rw [fset_same, h]
  · rw [fset_ne f v hj]
theorem put_size (a : Act) (d : Option Nat) (v : Value) : (a.put d v).tmps.size = a.tmps.size := by cases d <;> simp [Act.put]
theorem put_keep {N : Nat} {Z : Array Value → Prop} {a : Act} {d : Option Nat} {v : Value} (hd : ∀ i, d = some i → i < N ∧ ∀ t v, Z t → Z (t.setIfInBounds i v)) (hZ : Z a.tmps) : Z (a.put d v).tmps := by
  cases d with
  | none => exact hZ
  | some i => exact (hd i rfl).2 _ _ hZ
theorem put_defers (a : Act) (d : Option Nat) (v : Value) : (a.put d v).defers = a.defers := by cases d <;> rfl

section
variable {G : GE} {C : Cx} {e0 e : Env} {σ0 σ : St} {w0 w : World} {a : Act} {f : Frame} {Q : PQ} {K : Frame → St → Prop} {ro : Option Nat} {n : Nat} {ds : Nat} {N : Nat} {Z : Array Value → Prop}

theorem KRel.put {e1 : Env} {σ1 : St} {w1 : World} {o : Oper} {pv : PV} {v : Value} (hF : FRel G e σ w f a.tmps) (hL : Later e0 σ0 w0 e σ w) (hN : a.tmps.size = N) (hds : Marks ds e σ w a.defers) (hZ : Z a.tmps) (hd : ∀ d, o.dst = some d → d < N ∧ ∀ t v, Z t → Z (t.setIfInBounds d v))
    (hK : putK f o.dst pv fun f => K f σ1) (hst : Stepped e σ w e1 σ1 w1) (hS1 : SRel G e1 σ1 w1) (hr : VRel G e1 σ1 w1 pv v) : KRel G e0 σ0 w0 ds N Z K (a.put o.dst v) w1 := by
  rw [putK_eq] at hK
  exact ⟨_, e1, σ1, hK, hS1, (hF.step hst).put hr (by rw [hN]; exact fun d h => (hd d h).1), hL.trans hst.toLater, by rw [put_size]; exact hN, by rw [put_defers]; exact hds.later hst.toLater, put_keep hd hZ⟩

theorem args_rel {args : Array Operand} (hρ : ∀ x, VRel G e σ w (ev f x) (a.eval x)) : ArgsRel G e σ w (args.toList.map (ev f)) (args.map a.eval) := by
  refine ⟨by simp, fun i x u hx hu => ?_⟩
  rw [List.getElem?_map] at hx
  rw [Array.getElem?_map] at hu
  cases hq : args[i]? with
  | none => rw [hq] at hu; cases hu
  | some q =>
    rw [hq] at hu
    rw [Array.getElem?_toList, hq] at hx
    cases hx; cases hu; exact hρ q
theorem ArgsRel.append {x y : List PV} {vx vy : Array Value} (h1 : ArgsRel G e σ w x vx) (h2 : ArgsRel G e σ w y vy) : ArgsRel G e σ w (x ++ y) (vx ++ vy) := by
  refine ⟨by rw [Array.size_append, List.length_append, h1.1, h2.1], fun i p u hp hu => ?_⟩
  by_cases hi : i < x.length
  · rw [List.getElem?_append_left hi] at hp
    rw [Array.getElem?_append_left (by rw [h1.1]; exact hi)] at hu
    exact h1.2 i p u hp hu
  · rw [List.getElem?_append_right (by omega)] at hp
    rw [Array.getElem?_append_right (by rw [h1.1]; omega), h1.1] at hu
    exact h2.2 _ p u hp hu

/-- One operation that is carried out. -/
theorem runOp_sound (hC : CxOK G C ro e0 σ0 w0) (hS : SRel G e σ w) (hF : FRel G e σ w f a.tmps) (hL : Later e0 σ0 w0 e σ w) (hN : a.tmps.size = N) (hds : Marks ds e σ w a.defers) (hZ : Z a.tmps) {o : Oper} (hd : ∀ d, o.dst = some d → d < N ∧ ∀ t v, Z t → Z (t.setIfInBounds d v))
    (h : runOp C o f σ Q K) : o.wpIn (fw ro) n G.P a w (KRel G e0 σ0 w0 ds N Z K) (PostOf G e0 σ0 w0 ds N Z Q) := by
  have hρ : ∀ x, VRel G e σ w (ev f x) (a.eval x) := fun x => ev_rel hF x
  refine ⟨fun _ _ => trivial, ?_⟩
  unfold runOp at h
  simp only [forceSt_eq] at h
  split at h
  · rename_i hE
    have hnd : ∀ c, o.op ≠ .defer c := fun c hc => by rw [hc] at h; exact h
    rw [show (fw ro).round = ro from rfl, Oper.semAt_eq _ _ _ hnd]
    obtain ⟨pv, v, w1, hK, hg, hr, hrun⟩ := qopG_sound hC.tab hS hρ o h
    rw [hrun]
    exact KRel.put hF hL hN hds hZ hd hK (hg.stepped e σ) (hS.grow hg) hr
  · rename_i hE
    have hnd : ∀ c, o.op ≠ .defer c := fun c hc => by rw [hc] at hE; cases hE
    rw [show (fw ro).round = ro from rfl, Oper.semAt_eq _ _ _ hnd]
    split at h
    · rename_i x args at' ho
      have hx := hρ x
      have hres : ∀ (next : World → Ending → World → Prop), True := fun _ => trivial
      unfold callPV at h
      split at h
      · rename_i g first caps heq
        rw [heq] at hx
        generalize hv : a.eval x = v at hx
        cases hx with
        | func g first caps va vc ha hc h1 h2 =>
          obtain ⟨hent, hcall⟩ := hC.call _ _ _ _ h
          have hargs : ArgsRel G e σ w (first ++ args.toList.map (ev f) ++ caps) (va ++ args.map a.eval ++ vc) := (ArgsRel.append (ArgsRel.append ⟨ha, h1⟩ (args_rel hρ)) ⟨hc, h2⟩)
          have hrun : (execOp a.eval o).run G.P w = .ok (.enter g (va ++ args.map a.eval ++ vc)) w := by
            unfold execOp
            simp only [ho, resolve, hv, Deferred.ofValue, Sem.run_bind, Sem.run_pure, Result.andThen, invoke]
            exact hent _ _
          rw [hrun, Oper.uponIn_enter]
          refine ⟨fun h => by simp [fw] at h, (hcall ro (n - 1) e w _ hS hargs).mono fun en w' hA => ?_⟩
          obtain ⟨pe, σ', e', hK, hE', hS', hst⟩ := hA
          cases pe with
          | ret pv =>
            obtain ⟨u, rfl, hr⟩ := hE'
            exact KRel.put hF hL hN hds hZ hd hK hst hS' hr
          | panic pv =>
            obtain ⟨u, rfl, hr⟩ := hE'
            exact ⟨.panic pv, _, e', σ', hK, ⟨u, rfl, hr⟩, hS', fun i => .undef _, hL.trans hst.toLater, hN, hds.later hst.toLater, hZ⟩
      · rename_i v heq
        rw [heq] at hx
        generalize hv : a.eval x = v' at hx
        cases hx with
        | raw v =>
          obtain ⟨l, rfl, hraw⟩ := hC.raw _ _ _ _ h
          obtain ⟨fn, tmps, asg, body, hy, hround⟩ := hraw ro (n - 1) e w _ hS hL (args_rel hρ)
          have hrun : (execOp a.eval o).run G.P w = .ok (.round l fn tmps asg body) w := by
            unfold execOp
            simp only [ho, resolve, hv, Deferred.ofValue, Sem.run_bind, Sem.run_pure, Result.andThen, invoke, Array.empty_append, hy]
          rw [hrun, Oper.uponIn_round]
          refine ⟨fun h => by simp [fw] at h, hround.mono fun en w' hA => ?_⟩
          obtain ⟨pe, σ', e', hK, hE', hS', hst⟩ := hA
          cases pe with
          | ret pv =>
            obtain ⟨u, rfl, hr⟩ := hE'
            simp only at hK
            rw [putK_eq] at hK
            exact ⟨_, e', σ', hK, hS', (hF.clean hst).put hr (by rw [hN]; exact fun d h => (hd d h).1), hL.trans hst, by rw [put_size]; exact hN, by rw [put_defers]; exact hds.later hst, put_keep hd hZ⟩
          | panic pv =>
            obtain ⟨u, rfl, hr⟩ := hE'
            exact ⟨.panic pv, _, e', σ', hK, ⟨u, rfl, hr⟩, hS', fun i => .undef _, hL.trans hst, hN, hds.later hst, hZ⟩
      · exact h.elim
    · rename_i x ho
      have hx := hρ x
      split at h
      · rename_i t pv heq
        rw [heq] at hx
        generalize hv : a.eval x = v at hx
        cases hx with
        | iface _ _ u hu =>
          have hrun : (execOp a.eval o).run G.P w = .halt (.panic (.iface t u)) w := by
            unfold execOp
            simp only [ho, hv, Instr.panic]
            rfl
          rw [hrun]
          exact ⟨.panic (.iface t pv), _, e, σ, h, ⟨.iface t u, rfl, .iface t pv u hu⟩, hS, fun i => .undef _, hL, hN, hds, hZ⟩
      · exact h.elim
    · obtain ⟨pv, σ1, v, w1, e1, hK, hcomes, hst, hS1, hr⟩ := eop_sound hC.tab hS hρ o h
      rcases hcomes with hrun | ⟨hrun, rfl⟩
      · rw [hrun]; exact KRel.put hF hL hN hds hZ hd hK hst hS1 hr
      · rw [hrun]; exact KRel.put hF hL hN hds hZ hd hK hst hS1 hr

/-- One operation of a region, its guard looked at. -/
theorem pstep_sound (hC : CxOK G C ro e0 σ0 w0) (hS : SRel G e σ w) (hF : FRel G e σ w f a.tmps) (hL : Later e0 σ0 w0 e σ w) (hN : a.tmps.size = N) (hds : Marks ds e σ w a.defers) (hZ : Z a.tmps) {ops : Array Oper} {o : Oper} (hd : ∀ d, o.dst = some d → d < N ∧ ∀ t v, Z t → Z (t.setIfInBounds d v))
    (h : pstep C ops.toList Q o f σ K) :
    if Region.wanted o (yielded ops a.tmps) = true then o.wpIn (fw ro) n G.P a w (KRel G e0 σ0 w0 ds N Z K) (PostOf G e0 σ0 w0 ds N Z Q)
    else KRel G e0 σ0 w0 ds N Z K (a.put o.dst Go.undef) w := by
  unfold pstep at h
  split at h
  · rename_i hg
    have : Region.wanted o (yielded ops a.tmps) = true := by simp [Region.wanted, hg]
    rw [if_pos this]
    exact runOp_sound hC hS hF hL hN hds hZ hd h
  · rename_i j want hg
    split at h
    · rename_i s hs
      have hslot : (ops[j]?).bind (·.dst) = some s := by
        unfold guardSlot at hs
        rw [Array.getElem?_toList] at hs
        cases hoj : ops[j]? with
        | none => rw [hoj] at hs; cases hs
        | some oj => rw [hoj] at hs; exact hs
      have hFs := hF s
      split at h
      · rename_i t hft
        rw [hft] at hFs
        have hv := hFs.dbool
        have hy : yielded ops a.tmps j = some t := by
          unfold yielded
          rw [hslot]
          have : a.tmps[s]? = some (.bool t) := by
            rw [Array.getD_eq_getD_getElem?] at hv
            cases h2 : a.tmps[s]? with
            | none => rw [h2] at hv; cases hv
            | some u => rw [h2] at hv; simp at hv; rw [hv]
          simp [this]
        have hwant : Region.wanted o (yielded ops a.tmps) = (t == want) := by simp [Region.wanted, hg, hy]
        rw [hwant]
        cases t <;> cases want <;> simp only [CondP] at h
        · rw [fset_self hft] at h; simp only [beq_self_eq_true, if_true]; exact runOp_sound hC hS hF hL hN hds hZ hd h
        · rw [fset_self hft] at h; rw [if_neg (by decide)]; exact KRel.put hF hL hN hds hZ hd h (.refl _ _ _) hS (.raw _)
        · rw [fset_self hft] at h; rw [if_neg (by decide)]; exact KRel.put hF hL hN hds hZ hd h (.refl _ _ _) hS (.raw _)
        · rw [fset_self hft] at h; simp only [beq_self_eq_true, if_true]; exact runOp_sound hC hS hF hL hN hds hZ hd h
      · rename_i vs hft
        rw [hft] at hFs
        generalize hv : a.tmps.getD s Go.undef = v at hFs
        cases hFs
        have hy : yielded ops a.tmps j = none := by
          unfold yielded
          rw [hslot]
          rw [Array.getD_eq_getD_getElem?] at hv
          cases h2 : a.tmps[s]? with
          | none => simp [h2]
          | some u => rw [h2] at hv; simp at hv; subst hv; simp [h2]
        have hwant : Region.wanted o (yielded ops a.tmps) = false := by simp [Region.wanted, hg, hy]
        rw [hwant, if_neg (by simp)]
        exact KRel.put hF hL hN hds hZ hd h (.refl _ _ _) hS (.raw _)
      · exact h.elim
    · exact h.elim

/-- A region in the text's order. -/
theorem pops_sound (hC : CxOK G C ro e0 σ0 w0) {ops : Array Oper} (hd : ∀ o, o ∈ ops → ∀ d, o.dst = some d → d < N ∧ ∀ t v, Z t → Z (t.setIfInBounds d v)) : ∀ (l : List Oper) (k : Nat), (∀ j, l[j]? = ops[k + j]?) → ∀ {e : Env} {σ : St} {w : World} {a : Act} {f : Frame},
    SRel G e σ w → FRel G e σ w f a.tmps → Later e0 σ0 w0 e σ w → a.tmps.size = N → Marks ds e σ w a.defers → Z a.tmps → pops C ops.toList Q l f σ →
    wpOpsIn (fw ro) n G.P ops (PostOf G e0 σ0 w0 ds N Z Q) (List.range' k l.length) a w
  | [], k, _, e, σ, w, a, f, hS, hF, hL, hN, hds, hZ, h => ⟨.normal, f, e, σ, h, rfl, hS, hF, hL, hN, hds, hZ⟩
  | o :: l, k, hl, e, σ, w, a, f, hS, hF, hL, hN, hds, hZ, h => by
    have h0 : ops[k]? = some o := by simpa using (hl 0).symm
    have hstep := pstep_sound (ro := ro) (n := n) hC hS hF hL hN hds hZ (ops := ops) (hd o (Array.mem_of_getElem? h0)) h
    have next : ∀ a' w', KRel G e0 σ0 w0 ds N Z (pops C ops.toList Q l) a' w' → wpOpsIn (fw ro) n G.P ops (PostOf G e0 σ0 w0 ds N Z Q) (List.range' (k + 1) l.length) a' w' := fun a' w' ⟨f', e', σ', h1, h2, h3, h4, h5, h6, h7⟩ =>
      pops_sound hC hd l (k + 1) (fun j => by have := hl (j + 1); simpa [Nat.add_assoc, Nat.add_comm 1 j] using this) h2 h3 h4 h5 h6 h7 h1
    rw [List.length_cons, List.range'_succ]
    simp only [wpOpsIn, h0]
    split at hstep
    · rename_i hw
      rw [if_pos hw]
      exact Oper.wpIn_mono next hstep
    · rename_i hw
      rw [if_neg hw]
      exact ⟨fun _ _ => trivial, next _ _ hstep⟩
end
end Go.PM
