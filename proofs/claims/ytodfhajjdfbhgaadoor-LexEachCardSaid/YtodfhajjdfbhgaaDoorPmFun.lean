/-
  THE PURE LOGIC, 12: a function's contract out of its body's precondition.
-/
import Derived.Test.YtodfhajjdfbhgaaDoorPmW
import Derived.RangeFuncCalls
import Derived.RangeFuncLeaves
import Derived.Laws.Sem
set_option linter.unusedVariables false
set_option linter.unusedSimpArgs false
set_option linter.all false
namespace Go.PM

abbrev Spec := List PV → St → (PEnd → St → Prop) → Prop
/-- A function's contract in pure data. -/
structure PCalls (G : GE) (g : FuncId) (sp : Spec) : Prop where
  enters : Enters G.P g
  calls : ∀ args σ K, sp args σ K → ∀ (n : Nat) (e : Env) (w : World) (vs : Array Value), SRel G e σ w → ArgsRel G e σ w args vs → CallsIn (fw none) n G.P g vs w (AfterL G e σ w K)

theorem enters_of {P : Program} {f : FuncId} {fn : Func} {c : Code} (hf : P.funcs[f]? = some fn) (hname : (fn.name == "runtime.NumGoroutine") = false) (hb : fn.body = some c) : Enters P f := fun args w => by
  have h1 : fn.name ≠ "runtime.NumGoroutine" := by simpa using hname
  simp [callFunc, hf, h1, hb]

section
variable {G : GE} {C : Cx} {e : Env} {σ : St} {w : World} {f : Frame} {n : Nat} {tm : Array Value}
/-- The machine's reading of one result. -/
def res1 (tm : Array Value) : ResultVar → Sem Value
  | .tmp t => pure (tm.getD t Go.undef)
  | .cell a t => do loadVar t (← asAddr (tm.getD a Go.undef))
theorem loadAt_asAddr {P : Program} {t : TypeId} {v u : Value} (hv : ∃ a, v = .pointer (some a)) (h : (Instr.loadAt t v).run P w = .ok u w) : (do loadVar t (← asAddr v) : Sem Value).run P w = .ok u w := by
  obtain ⟨a, rfl⟩ := hv
  simpa [Instr.loadAt, Instr.sureAddr, asAddr] using h
theorem pres_sound (hT : TabOK C.T G.P) (hS : SRel G e σ w) (hF : FRel G e σ w f tm) : ∀ {l : List ResultVar} {K : List PV → Prop}, pres C.T f σ.bx l K →
    ∃ pvs vs, K pvs ∧ (l.mapM (res1 tm)).run G.P w = .ok vs w ∧ vs.length = pvs.length ∧ ∀ (i : Nat) (x : PV) (u : Value), pvs[i]? = some x → vs[i]? = some u → VRel G e σ w x u
  | [], K, h => ⟨[], [], h, rfl, rfl, fun i x u hx => by simp at hx⟩
  | .tmp t :: l, K, h => by
    simp only [pres, force_eq] at h
    obtain ⟨pvs, vs, hK, hr, hl, hv⟩ := pres_sound hT hS hF h
    refine ⟨f t :: pvs, tm.getD t Go.undef :: vs, hK, ?_, by simp [hl], fun i x u hx hu => ?_⟩
    · rw [List.mapM_cons]
      simp only [res1, Sem.run_bind, Sem.run_pure, Result.andThen, hr]
    · cases i with
      | zero => simp only [List.getElem?_cons_zero, Option.some.injEq] at hx hu; subst hx; subst hu; exact hF t
      | succ i => exact hv i x u (by simpa using hx) (by simpa using hu)
  | .cell a t :: l, K, h => by
    simp only [pres] at h
    have hptr : ∃ a', tm.getD a Go.undef = .pointer (some a') := by
      have := hF a
      generalize tm.getD a Go.undef = v at this
      generalize f a = x at this h
      cases this with
      | ptr b off _ => exact ⟨_, rfl⟩
      | elem r off b o u _ _ _ => exact ⟨_, rfl⟩
      | _ => exact h.elim
    obtain ⟨pv, u0, hk, hr0, hrun⟩ := load_sound hT hS (hF a) h
    rw [force_eq] at hk
    obtain ⟨pvs, vs, hK, hr, hl, hv⟩ := pres_sound hT hS hF hk
    refine ⟨pv :: pvs, u0 :: vs, hK, ?_, by simp [hl], fun i x u hx hu => ?_⟩
    · rw [List.mapM_cons]
      have := loadAt_asAddr hptr hrun
      simp only [res1]
      rw [Sem.run_bind, this]
      simp only [Sem.run_bind, Sem.run_pure, Result.andThen, hr]
    · cases i with
      | zero => simp only [List.getElem?_cons_zero, Option.some.injEq] at hx hu; subst hx; subst hu; exact hr0
      | succ i => exact hv i x u (by simpa using hx) (by simpa using hu)
theorem results_sound (hT : TabOK C.T G.P) (hS : SRel G e σ w) (hF : FRel G e σ w f tm) {fn : Func} {K : List PV → Prop} (h : pres C.T f σ.bx fn.results.toList K) :
    ∃ pvs v, K pvs ∧ (results fn tm).run G.P w = .ok v w ∧ VRel G e σ w (oneOf pvs) v := by
  obtain ⟨pvs, vs, hK, hr, hl, hv⟩ := pres_sound hT hS hF h
  have hres : (results fn tm).run G.P w = .ok (if h : vs.toArray.size = 1 then vs.toArray[0] else .tuple vs.toArray) w := by
    have hfun : results fn tm = (do let vs ← fn.results.mapM (res1 tm); pure (if h : vs.size = 1 then vs[0] else .tuple vs)) := by
      unfold results
      congr 1
    have h1 : fn.results.mapM (res1 tm) = List.toArray <$> fn.results.toList.mapM (res1 tm) := by
      conv => lhs; rw [show fn.results = fn.results.toList.toArray from by simp]
      exact List.mapM_toArray
    rw [hfun, h1, Sem.run_bind, Sem.run_map, hr]
    rfl
  refine ⟨pvs, _, hK, hres, ?_⟩
  match pvs, vs, hl, hv with
  | [], [], _, hv => exact .tuple [] #[] rfl (fun i x u hx => by simp at hx)
  | [x], [u], _, hv => exact hv 0 x u rfl rfl
  | x :: y :: l, u :: v :: m, hl, hv =>
    have : ¬ ((u :: v :: m).toArray.size = 1) := by simp
    rw [dif_neg this]
    exact .tuple _ _ (by simpa using hl) (fun i a b ha hb => hv i a b ha (by simpa using hb))

/-- What is left when a function ends. -/
theorem leave_sound {e0 : Env} {σ0 : St} {w0 : World} {keep : Nat} {own : Bool} {pv : PV} {v : Value} {K : PV → St → Prop} (hS : SRel G e σ w) (hL : Later e0 σ0 w0 e σ w) (hk : σ0.bx.length ≤ keep) (hv : VRel G e σ w pv v)
    (h : leave keep own pv σ K) : ∃ pv' σ' e', K pv' σ' ∧ VRel G e' σ' w pv' v ∧ SRel G e' σ' w ∧ Later e0 σ0 w0 e' σ' w := by
  unfold leave at h
  split at h
  · rename_i hb
    cases own with
    | true =>
      simp only at h
      obtain ⟨vs', σ', e', hK, hS', hd, hlen, hvs⟩ := nrmSt_ex hS h
      match vs', hlen, hK with
      | [y], _, hK => exact ⟨y, σ', e', hK, hvs 0 pv y v rfl rfl hv, hS', hL.drop hd hk⟩
    | false =>
      simp only at h
      obtain ⟨bs, tk', as', hK, hx, hI, hbl, hn, hbs⟩ := nrmB_ex (as := []) (NInv.start σ.tk [] (fun t ht => by cases ht)) h
      exact ⟨clean pv, _, e.re as', hK, (NV.cl pv hb).rel hn hI hbl hv, re_srel hS hn hI hbl hbs, hL.drop (re_drop hn hI hbl) hk⟩
  · exact h.elim

theorem argF_rel {vs : Array Value} : ∀ (args : List PV) (i : Nat), (∀ (k : Nat) (x : PV), args[k]? = some x → VRel G e σ w x (vs.getD (i + k) Go.undef)) → FRel G e σ w (argF i args) vs
  | [], i, _ => fun j => .undef _
  | a :: args, i, h => by
    intro j
    simp only [argF]
    by_cases hij : i = j
    · subst hij; rw [fset_same]; exact h 0 a (by simp)
    · rw [fset_ne _ _ hij]
      exact argF_rel args (i + 1) (fun k x hx => by have := h (k + 1) x (by simpa using hx); rwa [show i + (k + 1) = i + 1 + k by omega] at this) j

/-! ### The marks are taken -/
theorem VRel.world {w' : World} (hc : ∀ b off u, w.cell? ⟨b, off, none⟩ = some u → w'.cell? ⟨b, off, none⟩ = some u) (hb : ∀ (b : Nat) (cs : Array Value) (ty : TypeId) (fz : Nat × Nat), w.heap[b]? = some (Obj.cells cs ty fz) → w'.heap[b]? = some (Obj.cells cs ty fz)) {x : PV} {v : Value} (h : VRel G e σ w x v) : VRel G e σ w' x v := by
  have hd : ∀ {x : D} {v : Value}, DRel (okc e σ) w x v → DRel (okc e σ) w' x v := fun hd => hd.mono fun b off u hu ho => ⟨ho, hc b off u hu⟩
  induction h with
  | d x v h => exact .d _ _ (hd h)
  | undef v => exact .undef _
  | ptr b off h => exact .ptr b off h
  | elem r off b o u hcc ho hu => exact .elem r off b o u (fun j hj => hc _ _ _ (hcc j hj)) ho (fun j x hx => hd (hu j x hx))
  | sl t el rows v hn hdd ht =>
    refine .sl t el rows v hn (hd hdd) fun h => ?_
    rcases ht h with h1 | ⟨sz, g1, g2, g3, b, off, cap, cs, ty, fz, g4, g5, g6, g7, g8⟩
    · exact .inl h1
    · exact .inr ⟨sz, g1, g2, g3, b, off, cap, cs, ty, fz, g4, g5, g6, hb _ _ _ _ g7, g8⟩
  | nils el => exact .nils el
  | func f a c va vc ha hcc _ _ ih1 ih2 => exact .func f a c va vc ha hcc ih1 ih2
  | iface t x v _ ih => exact .iface t x v ih
  | agg cs vs hs _ h1 ih => exact .agg cs vs hs ih h1
  | tuple cs vs hs _ ih => exact .tuple cs vs hs ih
  | raw v => exact .raw v
theorem put_mark {r : Nat} (hS : SRel G e σ w) (hr : w.heap[r]? = some (.deferred (some []))) (hb : ∀ i, i < σ.bx.length → e.β i ≠ r) (hg : G.nG ≤ r) :
    SRel G e σ (w.putObj r (.deferred none)) ∧ (∀ x v, VRel G e σ w x v → VRel G e σ (w.putObj r (.deferred none)) x v) ∧ ∀ (e0 : Env) (σ0 : St) (w0 : World), Later e0 σ0 w0 e σ w → w0.heap.size ≤ r → Later e0 σ0 w0 e σ (w.putObj r (.deferred none)) := by
  have hoth : ∀ k, k ≠ r → (w.putObj r (.deferred none)).heap[k]? = w.heap[k]? := fun k hk => World.putObj_heap_other hk
  have hcell : ∀ b off u, w.cell? ⟨b, off, none⟩ = some u → b ≠ r := fun b off u hu he => by
    subst he; simp [World.cell?, hr] at hu
  have hc : ∀ b off u, w.cell? ⟨b, off, none⟩ = some u → (w.putObj r (.deferred none)).cell? ⟨b, off, none⟩ = some u := fun b off u hu => by
    have := hcell b off u hu
    simpa [World.cell?, hoth b this] using hu
  have hbk : ∀ (b : Nat) (cs : Array Value) (ty : TypeId) (fz : Nat × Nat), w.heap[b]? = some (Obj.cells cs ty fz) → (w.putObj r (.deferred none)).heap[b]? = some (Obj.cells cs ty fz) := fun b cs ty fz h => by
    have : b ≠ r := fun he => by subst he; rw [hr] at h; cases h
    rw [hoth b this]; exact h
  have hV : ∀ x v, VRel G e σ w x v → VRel G e σ (w.putObj r (.deferred none)) x v := fun x v h => h.world hc hbk
  refine ⟨?_, hV, fun e0 σ0 w0 hL hr0 => ?_⟩
  · exact {
      inj := hS.inj
      box := fun i x hx => by
        have hi := (List.getElem?_eq_some_iff.1 hx).1
        have hB := hS.box i x hx
        have heq := hoth (e.β i) (hb i hi)
        cases x with
        | cells t cs =>
          obtain ⟨vs, g1, g2, g3⟩ := hB
          exact ⟨vs, heq.trans g1, g2, fun k y u hy hu => ⟨hV _ _ (g3 k y u hy hu).1, (g3 k y u hy hu).2⟩⟩
        | iter s p => exact heq.trans hB
        | loop st pd r => exact heq.trans hB
      low := hS.low
      tkn := hS.tkn
      own := fun t ht p hp => by
        obtain ⟨q1, q2, cs, ty, fz, q3⟩ := hS.own t ht p hp
        exact ⟨q1, q2, cs, ty, fz, hbk _ _ _ _ q3⟩
      dis := hS.dis
      xlt := fun b off hx => by rw [World.putObj_size]; exact hS.xlt b off hx
      xown := hS.xown
      glob := fun b hbg => (hoth b (by omega)).trans (hS.glob b hbg)
      big := by rw [World.putObj_size]; exact hS.big }
  · exact {
      len := hL.len
      beta := hL.beta
      X := hL.X
      pres := fun b off u hu ho => let ⟨h1, h2⟩ := hL.pres b off u hu ho; ⟨h1, hc b off u h2⟩
      blocks := fun b hlt hn ht => (hoth b (by omega)).trans (hL.blocks b hlt hn ht)
      size := by rw [World.putObj_size]; exact hL.size
      os := hL.os
      tape := hL.tape
      output := hL.output
      fresh := hL.fresh
      ftok := hL.ftok }
/-- A frame that is left with nothing but marks among its deferred calls. -/
theorem leaves_marks {fn : Func} {R : Ending → World → Prop} {u : FrameMode} {e0 : Env} {σ0 : St} {w0 : World} (hu : u ≠ .run) : ∀ (rs : List Nat) {w : World}, rs.Nodup → (∀ r, r ∈ rs → w0.heap.size ≤ r ∧ w.heap[r]? = some (.deferred (some [])) ∧ ∀ i, i < σ.bx.length → e.β i ≠ r) →
    G.nG ≤ w0.heap.size → SRel G e σ w → FRel G e σ w f tm → Later e0 σ0 w0 e σ w → (∀ pv v, VRel G e σ w pv v → ∀ w', SRel G e σ w' → FRel G e σ w' f tm → Later e0 σ0 w0 e σ w' → VRel G e σ w' pv v → True) →
    (∀ w', (∀ x v, VRel G e σ w x v → VRel G e σ w' x v) → SRel G e σ w' → FRel G e σ w' f tm → Later e0 σ0 w0 e σ w' → LeavesIn (fw none) n G.P fn tm R [] u w') → LeavesInM (fw none) n G.P fn tm R (rs.map markOf) u w
  | [], w, _, _, _, hS, hF, hL, _, hend => by
    simp only [List.map_nil, LeavesInM]
    exact hend w (fun _ _ h => h) hS hF hL
  | r :: rs, w, hnd, hrs, hG, hS, hF, hL, _, hend => by
    obtain ⟨h1, h2, h3⟩ := hrs r (by simp)
    obtain ⟨hS', hV, hL'⟩ := put_mark hS h2 h3 (Nat.le_trans hG h1)
    simp only [List.map_cons, LeavesInM]
    refine ⟨hu, .inl ⟨r, _, rfl, run_takeDeferred h2, ?_⟩⟩
    refine leaves_marks hu rs (List.nodup_cons.1 hnd).2 (fun q hq => ?_) hG hS' (fun i => hV _ _ (hF i)) (hL' _ _ _ hL h1) (fun _ _ _ _ _ _ _ _ => trivial) (fun w' hV' => hend w' fun x v h => hV' x v (hV x v h))
    obtain ⟨g1, g2, g3⟩ := hrs q (List.mem_cons_of_mem _ hq)
    have hne : q ≠ r := fun e => (List.nodup_cons.1 hnd).1 (e ▸ hq)
    exact ⟨g1, (World.putObj_heap_other hne).trans g2, g3⟩

theorem calls_of_WF (hmix : G.P.follows .mixedOrders = true) {g : FuncId} {fn : Func} {c : Code} (hC : CxOK G C none e σ w) (hM : CxMono C.calm) (hf : G.P.funcs[g]? = some fn) (hb : fn.body = some c) (hok : codeOK fn.ntmps c = true)
    {args : List PV} {Q : PQ} {K : PEnd → St → Prop} (hlen : args.length ≤ fn.ntmps) (h : W C c Q (argF 0 args) σ)
    (hQ : ∀ (pe : PExit) (f : Frame) (σ' : St), Q pe f σ' → match pe with
      | .normal | .ret => pres C.T f σ'.bx fn.results.toList fun vs => ∀ (e' : Env) (w' : World) (v : Value), SRel G e' σ' w' → VRel G e' σ' w' (oneOf vs) v → Later e σ w e' σ' w' → AfterL G e σ w K (.returned v) w'
      | .panic p => ∀ (e' : Env) (w' : World) (v : Value), SRel G e' σ' w' → VRel G e' σ' w' p v → Later e σ w e' σ' w' → AfterL G e σ w K (.panicked [{ v := v, recovered := false }]) w'
      | _ => False)
    {vs : Array Value} (hS : SRel G e σ w) (hargs : ArgsRel G e σ w args vs) : CallsIn (fw none) n G.P g vs w (AfterL G e σ w K) := by
  have hsz : vs.size = args.length := hargs.1
  have hF : FRel G e σ w (argF 0 args) (vs ++ Array.replicate (fn.ntmps - vs.size) undef) := argF_rel args 0 fun k x hx => by
    have hk := (List.getElem?_eq_some_iff.1 hx).1
    have hkv : k < vs.size := by omega
    have : (vs ++ Array.replicate (fn.ntmps - vs.size) undef).getD (0 + k) Go.undef = vs[k] := by
      simp [Array.getD, Array.getElem_append, hkv]
      intro h; omega
    rw [this]
    exact hargs.2 k x _ hx (Array.getElem?_eq_getElem hkv)
  have hw := W_sound (n := n) (ro := none) (ds := w.heap.size) hmix c hC hM hok [] #[] (noWrite_nil c) _ (a := { tmps := vs ++ Array.replicate (fn.ntmps - vs.size) undef, defers := [] }) hS hF (Later.refl e σ w) (by simp; omega) (Marks.nil e σ (Nat.le_refl _)) (fun i hi => by cases hi) h
  refine callsIn_of_wp_marks hf hb trivial (wpIn_mono hw fun x a' w' hp => ?_)
  obtain ⟨pe, f', e', σ', hq, hx, h1, h2, h3, h4, ⟨_, rs, h5, h5n, h5r⟩, h6⟩ := hp
  have hq' := hQ pe f' σ' hq
  have hrs : ∀ r, r ∈ rs → w.heap.size ≤ r ∧ w'.heap[r]? = some (.deferred (some [])) ∧ ∀ i, i < σ'.bx.length → e'.β i ≠ r := fun r hr => let ⟨g1, g2, g3, _⟩ := h5r r hr; ⟨g1, g2, g3⟩
  have ends : ∀ (hq' : pres C.T f' σ'.bx fn.results.toList fun vs => ∀ (e' : Env) (w' : World) (v : Value), SRel G e' σ' w' → VRel G e' σ' w' (oneOf vs) v → Later e σ w e' σ' w' → AfterL G e σ w K (.returned v) w'), LeavesInM (fw none) n G.P fn a'.tmps (AfterL G e σ w K) a'.defers .returning w' := fun hq' => by
    rw [h5]
    refine leaves_marks (by simp) rs h5n hrs hS.big h1 h2 h3 (fun _ _ _ _ _ _ _ _ => trivial) fun w2 _ k1 k2 k3 => ?_
    obtain ⟨pvs, v, hl, hr, hv⟩ := results_sound hC.tab k1 k2 hq'
    exact ⟨v, hr, hl e' w2 v k1 hv k3⟩
  cases pe with
  | normal => obtain rfl : x = .normal := hx; exact ends hq'
  | ret => obtain rfl : x = .ret := hx; exact ends hq'
  | panic p =>
    obtain ⟨v, rfl, hv⟩ := hx
    show LeavesInM (fw none) n G.P fn a'.tmps (AfterL G e σ w K) a'.defers (.panicking _) w'
    rw [h5]
    refine leaves_marks (by simp) rs h5n hrs hS.big h1 h2 h3 (fun _ _ _ _ _ _ _ _ => trivial) fun w2 hV k1 k2 k3 => ?_
    exact hq' e' w2 v k1 (hV _ _ hv) k3
  | exit id => exact hq'.elim
  | goto l => exact hq'.elim
/-- A function's contract. -/
theorem calls_of_WF' (hmix : G.P.follows .mixedOrders = true) {g : FuncId} {fn : Func} {c : Code} (hC : CxOK G C none e σ w) (hM : CxMono C.calm) (hf : G.P.funcs[g]? = some fn) (hb : fn.body = some c) (hok : codeOK fn.ntmps c = true)
    {keep : Nat} {own : Bool} {args : List PV} {R : PEnd → St → Prop} (hk : σ.bx.length ≤ keep) (hlen : args.length ≤ fn.ntmps) (h : WF C fn keep own args σ R) {vs : Array Value} (hS : SRel G e σ w) (hargs : ArgsRel G e σ w args vs) :
    CallsIn (fw none) n G.P g vs w (AfterL G e σ w R) := by
  have hbo : bodyOf fn = c := by simp [bodyOf, hb]
  unfold WF at h
  rw [hbo] at h
  have presM : ∀ {T : Tab} {f : Frame} {bx : List Box} {l : List ResultVar} {K K' : List PV → Prop}, (∀ vs, K vs → K' vs) → pres T f bx l K → pres T f bx l K' := by
    intro T f bx l
    induction l with
    | nil => exact fun hK h => hK _ h
    | cons r l ih =>
      intro K K' hK h
      cases r with
      | tmp t => simp only [pres, force_eq] at h ⊢; exact ih (fun vs h => hK _ h) h
      | cell a t =>
        simp only [pres] at h ⊢
        obtain ⟨v, h1, h2⟩ := pload_ex h
        refine h2 _ ?_
        rw [force_eq] at h1 ⊢
        exact ih (fun vs h => hK _ h) h1
  refine calls_of_WF hmix hC hM hf hb hok hlen h (fun pe f' σ' hq => ?_) hS hargs
  have fin : ∀ {pv : PV} {p : PV → PEnd} {en : Value → Ending}, (∀ (pv : PV) (e : Env) (σ : St) (w : World) v, VRel G e σ w pv v → EndRel G e σ w (p pv) (en v)) → (leave keep own pv σ' fun v σ'' => R (p v) σ'') → ∀ (e' : Env) (w' : World) (v : Value), SRel G e' σ' w' → VRel G e' σ' w' pv v → Later e σ w e' σ' w' → AfterL G e σ w R (en v) w' := fun {pv p en} hpe hl e' w' v hS' hv hL => by
    obtain ⟨pv', σ'', e'', hK, hv', hS'', hL''⟩ := leave_sound hS' hL hk hv hl
    exact ⟨p pv', σ'', e'', hK, hpe _ _ _ _ _ hv', hS'', hL''⟩
  cases pe with
  | normal => exact presM (fun vs hl => fin (p := .ret) (en := .returned) (fun _ _ _ _ v h => ⟨v, rfl, h⟩) hl) hq
  | ret => exact presM (fun vs hl => fin (p := .ret) (en := .returned) (fun _ _ _ _ v h => ⟨v, rfl, h⟩) hl) hq
  | panic p => exact fin (p := .panic) (en := fun v => .panicked [{ v := v, recovered := false }]) (fun _ _ _ _ v h => ⟨v, rfl, h⟩) hq
  | exit id => exact hq.elim
  | goto l => exact hq.elim
end
end Go.PM
