/- A part of the proof: plain logic, contracts and laws over the given program. -/
import Derived.RecoverIn
import Derived.Test.YtjmoaahgfjaafaaGreatDoorH04
set_option linter.unusedVariables false
set_option linter.unusedSimpArgs false
set_option linter.all false
section
namespace Go.PM
structure PDef (G : GE) (g : FuncId) (spR : List PV → St → (St → Prop) → Prop) (spP : PV → List PV → St → (St → Prop) → Prop) : Prop where
 enters : Enters G.P g
 ret : ∀ args σ K, spR args σ K → ∀ (n : Nat) (e : Env) (w : World) (vs : Array Value), SRel G e σ w → ArgsRel G e σ w args vs →
  CallsDIn (fw none) n G.P g vs .returning w fun en u' w' => u' = .returning ∧ (∃ r, en = .returned r) ∧ ∃ σ' e', K σ' ∧ SRel G e' σ' w' ∧ Later e σ w e' σ' w'
 pan : ∀ pv args σ K, spP pv args σ K → ∀ (n : Nat) (e : Env) (w : World) (vs : Array Value) (v : Value), SRel G e σ w → ArgsRel G e σ w args vs → VRel G e σ w pv v →
  CallsDIn (fw none) n G.P g vs (.panicking [{ v := v, recovered := false }]) w fun en u' w' => u' = .panicking [{ v := v, recovered := true }] ∧ (∃ r, en = .returned r) ∧ ∃ σ' e', K σ' ∧ SRel G e' σ' w' ∧ Later e σ w e' σ' w'
def recB (c : Code) : Option (Nat × Nat × Code) := match c with
 | .seq (.region _ ops false) rest => match ops.toList with
  | [o1, o2] => match o1.op, o1.dst, o1.guard, o2.op, o2.dst, o2.guard with
   | .call { callee := .builtin .recover, args, .. }, some a, none, .assign (.tmp a'), some b, none => match args.toList, Nat.beq a a' with
    | [], true => some (a, b, rest)
    | _, _ => none
   | _, _, _, _, _, _ => none
  | _ => none
 | _ => none
theorem recB_spec {c : Code} {a b : Nat} {rest : Code} (h : recB c = some (a, b, rest)) : ∃ id ops o1 o2 at', c = .seq (.region id ops false) rest ∧ ops = #[o1, o2] ∧ o1.op = .call { callee := .builtin .recover, args := #[], argTypes := at' } ∧ o1.dst = some a ∧ o1.guard = none ∧ o2.op = .assign (.tmp a) ∧ o2.dst = some b ∧ o2.guard = none := by
 unfold recB at h
 split at h
 ·rename_i id ops rest'
  split at h
  ·rename_i o1 o2 hops
   split at h
   ·rename_i args at' a1 a2 b1 h1 h2 h3 h4 h5 h6
    split at h
    ·rename_i h7 h8
     cases h
     have := Nat.eq_of_beq_eq_true h8
     subst this
     have ha : args = #[] := by apply Array.ext'; simpa using h7
     subst ha
     exact ⟨id, ops, o1, o2, at', rfl, by apply Array.ext'; simpa using hops, h1, h2, h3, h4, h5, h6⟩
    ·cases h
   ·cases h
  ·cases h
 ·cases h
section
variable {G : GE}
def recQ (T : Tab) (fn : Func) (keep : Nat) (K : St → Prop) : PQ := fun e f σ => match e with
 | .normal | .ret => pres T f σ.bx fn.results.toList fun vs => leave keep false (oneOf vs) σ fun _ σ' => K σ'
 | _ => False
theorem pdef_of {T : Tab} {tbl : Tbl} (hT : TabOK T G.P) (hmix : G.P.follows .mixedOrders = true) (ht : TblOK G tbl) {g : FuncId} {fn : Func} {c : Code} (hf : G.P.funcs[g]? = some fn) (hb : fn.body = some c) (hname : (fn.name == "runtime.NumGoroutine") = false)
  {a b : Nat} {rest : Code} (hrec : recB c = some (a, b, rest)) (hok : codeOK fn.ntmps c = true) {spR : List PV → St → (St → Prop) → Prop} {spP : PV → List PV → St → (St → Prop) → Prop}
  (hr : ∀ args σ K, spR args σ K → ∃ loops keep, σ.bx.length ≤ keep ∧ args.length ≤ fn.ntmps ∧ W (ctx T tbl loops) rest (recQ T fn keep K) (fset (fset (argF 0 args) a (.d .nili)) b (.d .nili)) σ)
  (hp : ∀ pv args σ K, spP pv args σ K → ∃ loops keep, σ.bx.length ≤ keep ∧ args.length ≤ fn.ntmps ∧ W (ctx T tbl loops) rest (recQ T fn keep K) (fset (fset (argF 0 args) a pv) b pv) σ) : PDef G g spR spP := by
 obtain ⟨id, ops, o1, o2, at', rfl, rfl, q1, q2, q3, q4, q5, q6⟩ := recB_spec hrec
 simp only [codeOK, Bool.and_eq_true, opsOK, q2, q5] at hok
 have ha : a < fn.ntmps := by have := Nat.le_of_ble_eq_true hok.1.1.1; omega
 have hbN : b < fn.ntmps := by have := Nat.le_of_ble_eq_true hok.1.1.2.1; omega
 have walk : ∀ (pv : PV) (v : Value) (u u' : FrameMode) (args : List PV) (σ : St) (K : St → Prop) (loops : Nat → LoopAnn) (keep : Nat), σ.bx.length ≤ keep → args.length ≤ fn.ntmps → W (ctx T tbl loops) rest (recQ T fn keep K) (fset (fset (argF 0 args) a pv) b pv) σ →
   (∀ (c₀ : Go.Frame) (cs : List Go.Frame), c₀.mode = u → match recoverD (c₀ :: cs) with | some (x, cs') => x = v ∧ cs' = { c₀ with mode := u' } :: cs | none => v = .nilIface ∧ u' = u) →
   ∀ (n : Nat) (e : Env) (w : World) (vs : Array Value), SRel G e σ w → ArgsRel G e σ w args vs → VRel G e σ w pv v →
   CallsDIn (fw none) n G.P g vs u w fun en u2 w' => u2 = u' ∧ (∃ r, en = .returned r) ∧ ∃ σ' e', K σ' ∧ SRel G e' σ' w' ∧ Later e σ w e' σ' w' := by
  intro pv v u u' args σ K loops keep hk hlen hW hrc n e w vs hS hargs hv
  refine callsDIn_of_wpSIn hf hb trivial fun c₀ cs hu => ?_
  have hsz : vs.size = args.length := hargs.1
  have hF : FRel G e σ w (argF 0 args) (vs ++ Array.replicate (fn.ntmps - vs.size) undef) := argF_rel args 0 fun k x hx => by
   have hk := (List.getElem?_eq_some_iff.1 hx).1
   have hkv : k < vs.size := by omega
   have : (vs ++ Array.replicate (fn.ntmps - vs.size) undef).getD (0 + k) Go.undef = vs[k] := by
    simp [Array.getD, Array.getElem_append, hkv]
    intro h; omega
   rw [this]
   exact hargs.2 k x _ hx (Array.getElem?_eq_getElem hkv)
  refine wpSIn_seq (wpSIn_region ?_)
  let A0 : Act := { tmps := vs ++ Array.replicate (fn.ntmps - vs.size) undef, defers := [] }
  have hA0 : A0.tmps.size = fn.ntmps := by simp [A0]; omega
  have s0 : (#[o1, o2] : Array Oper)[0]? = some o1 := rfl
  have s1 : (#[o1, o2] : Array Oper)[1]? = some o2 := rfl
  have w1 : ∀ t, Region.wanted o1 (yielded #[o1, o2] t) = true := fun t => by simp [Region.wanted, q3]
  have w2 : ∀ t, Region.wanted o2 (yielded #[o1, o2] t) = true := fun t => by simp [Region.wanted, q6]
  have x1 : ∀ A : Act, (execOp A.eval o1).run G.P w = .ok .recover w := fun A => by
   unfold execOp
   simp only [q1, resolve, Sem.run_bind, Sem.run_pure, Result.andThen, invoke, builtin]
  have x2 : ∀ A : Act, (execOp A.eval o2).run G.P w = .ok (.value (A.eval (.tmp a))) w := fun A => by
   unfold execOp
   simp only [q4, Sem.run_pure]
  have y2 : (A0.put (some a) v).eval (.tmp a) = v := by
   simp [Act.put, Act.eval, Array.getElem?_setIfInBounds, hA0, ha]
  have tail : rest.wpSIn (fw none) n G.P (bodyPostS G.P fn c₀ cs fun en u2 w' => u2 = u' ∧ (∃ r, en = .returned r) ∧ ∃ σ' e', K σ' ∧ SRel G e' σ' w' ∧ Later e σ w e' σ' w') ((A0.put (some a) v).put (some b) v) ({ c₀ with mode := u' } :: cs) w := by
   have hF1 : FRel G e σ w (fset (argF 0 args) a pv) (A0.put (some a) v).tmps := FRel.put (a := A0) (d := some a) hF hv (fun i hi => by cases hi; rw [hA0]; exact ha)
   have hF2 : FRel G e σ w (fset (fset (argF 0 args) a pv) b pv) ((A0.put (some a) v).put (some b) v).tmps := FRel.put (a := A0.put (some a) v) (d := some b) hF1 hv (fun i hi => by cases hi; rw [put_size, hA0]; exact hbN)
   refine wpSIn_of_wpIn rfl (wpIn_mono (W_sound (n := n) (ro := none) (ds := (w.heap.size, [], true)) hmix rest (C := ctx T tbl loops) ⟨hT, ht.sem, fun _ _ _ _ h => h.elim, noIter_sem, .inl rfl⟩ ⟨fun _ h1 h2 => hT.one h1 h2, ht.mono, fun _ _ _ _ h => h.elim, rfl⟩ (fun _ _ _ _ _ _ h => h) hok.2 [] #[] (noWrite_nil _) _
    (a := (A0.put (some a) v).put (some b) v) hS hF2 (Later.refl e σ w) (by rw [put_size, put_size, hA0]) (by rw [put_defers, put_defers]; exact Marks.nil e σ (Nat.le_refl _)) (fun i hi => by cases hi) hW) fun x a' w' hp => ?_)
   obtain ⟨pe, f', e', σ', hq, hx, h1, h2, h3, h4, ⟨_, rs, h5, h5f, _⟩, h6⟩ := hp
   have hd0 : a'.defers = [] := by rw [h5, h5f rfl]; rfl
   have done : (pres T f' σ'.bx fn.results.toList fun vs => leave keep false (oneOf vs) σ' fun _ σ'' => K σ'') → ∃ r, (results fn a'.tmps).run G.P w' = .ok r w' ∧ u' = u' ∧ (∃ r', Ending.returned r = .returned r') ∧ ∃ σ' e', K σ' ∧ SRel G e' σ' w' ∧ Later e σ w e' σ' w' := fun hl => by
    obtain ⟨pvs, r, hlv, hr, hvr⟩ := results_sound (C := ctx T tbl loops) hT h1 h2 hl
    obtain ⟨pv', σ2, e2, hK, _, hS2, hL2⟩ := leave_sound h1 h3 hk hvr hlv
    exact ⟨r, hr, rfl, ⟨r, rfl⟩, σ2, e2, hK, hS2, hL2⟩
   cases pe with
   | normal => obtain rfl : x = .normal := hx; obtain ⟨r, hr, hR⟩ := done hq; exact ⟨hd0, u', rfl, r, hr, hR⟩
   | ret => obtain rfl : x = .ret := hx; obtain ⟨r, hr, hR⟩ := done hq; exact ⟨hd0, u', rfl, r, hr, hR⟩
   | exit id => exact hq.elim
   | goto l => exact hq.elim
   | panic p => exact hq.elim
  show wpOpsSIn (fw none) n G.P #[o1, o2] _ [0, 1] A0 (c₀ :: cs) w
  simp only [wpOpsSIn, s0, s1, w1, w2, if_true, x1, x2, q2, q5]
  refine ⟨fun _ _ => trivial, ?_⟩
  have hh := hrc c₀ cs hu
  cases hrd : recoverD (c₀ :: cs) with
  | none =>
   rw [hrd] at hh
   obtain ⟨rfl, rfl⟩ := hh
   have hc0 : ({ c₀ with mode := u' } : Go.Frame) = c₀ := by subst hu; rfl
   rw [hc0] at tail
   simp only [y2]
   exact ⟨fun _ _ => trivial, tail⟩
  | some p =>
   obtain ⟨x, cs'⟩ := p
   rw [hrd] at hh
   obtain ⟨rfl, rfl⟩ := hh
   simp only [y2]
   exact ⟨fun _ _ => trivial, tail⟩
 refine ⟨enters_of hf hname hb, fun args σ K hs n e w vs hS hargs => ?_, fun pv args σ K hs n e w vs v hS hargs hv => ?_⟩
 ·obtain ⟨loops, keep, h1, h2, h3⟩ := hr args σ K hs
  exact walk (.d .nili) .nilIface .returning .returning args σ K loops keep h1 h2 h3 (fun c₀ cs hu => by simp [recoverD, hu]) n e w vs hS hargs (.d _ _ .nili)
 ·obtain ⟨loops, keep, h1, h2, h3⟩ := hp pv args σ K hs
  exact walk pv v _ _ args σ K loops keep h1 h2 h3 (fun c₀ cs hu => by simp [recoverD, hu]) n e w vs hS hargs hv
end
def splitLast : List Oper → Option (List Oper × Oper)
 | [] => none
 | [o] => some ([], o)
 | o :: p :: l => match splitLast (p :: l) with | some (a, b) => some (o :: a, b) | none => none
theorem splitLast_spec : ∀ {l : List Oper} {i : List Oper} {o : Oper}, splitLast l = some (i, o) → l = i ++ [o]
 | [], i, o, h => by cases h
 | [x], i, o, h => by cases h; rfl
 | x :: p :: l, i, o, h => by
  simp only [splitLast] at h
  split at h
  ·rename_i a b hs
   cases h
   rw [splitLast_spec hs]; rfl
  ·cases h
def deferCall (o : Oper) : Option (Operand × List Operand) := match o.op, o.guard, o.dst with
 | .defer { callee := .value x, args, .. }, none, none => some (x, args.toList)
 | _, _, _ => none
theorem deferCall_spec {o : Oper} {x : Operand} {args : List Operand} (h : deferCall o = some (x, args)) : ∃ as at', o.op = .defer { callee := .value x, args := as, argTypes := at' } ∧ as.toList = args ∧ o.guard = none ∧ o.dst = none := by
 unfold deferCall at h
 split at h
 ·rename_i x' as at' h1 h2 h3; cases h; exact ⟨as, at', h1, rfl, h2, h3⟩
 ·cases h
def deferIn (c : Code) : Option (List Oper × List Oper × Operand × List Operand) := match c with
 | .region _ ops false => match splitLast ops.toList with
  | some (init, last) => match deferCall last with
   | some (x, args) => some (ops.toList, init, x, args)
   | none => none
  | none => none
 | _ => none
def WD (C : Cx) (g0 : FuncId) (Q0 : PQ) (Q1 : List PV → PQ) : Code → Frame → St → Prop
 | .seq a b, f, σ => match deferIn a with
  | some (all, init, x, args) => pops C all (fun e f σ => match e with
    | .normal => (match ev f x with
     | .func g first caps => (match Nat.beq g g0 with
      | true => W C b (Q1 (cleanL (first ++ args.map (ev f) ++ caps))) f σ
      | false => False)
     | _ => False)
    | e => Q0 e f σ) init f σ
  | none => W C a (fun e f σ => match e with | .normal => WD C g0 Q0 Q1 b f σ | e => Q0 e f σ) f σ
 | c, f, σ => W C c Q0 f σ
section
variable {G : GE} {C : Cx} {e0 : Env} {σ0 : St} {w0 : World} {n N : Nat} {ds : Nat × List Deferred × Bool} {Z : Array Value → Prop} {Q : PQ}
theorem popsD_sound (hC : CxOK G C none e0 σ0 w0) {ops : Array Oper} {rest : List Nat} {QQ : Exit → Act → World → Prop} (hd : ∀ o, o ∈ ops → ∀ d, o.dst = some d → d < N ∧ ∀ t v, Z t → Z (t.setIfInBounds d v))
  (hQQ : ∀ x a w, x ≠ .normal → PostOf G e0 σ0 w0 ds N Z Q x a w → QQ x a w) (hend : ∀ a w, PostOf G e0 σ0 w0 ds N Z Q .normal a w → wpOpsIn (fw none) n G.P ops QQ rest a w) :
  ∀ (l : List Oper) (k : Nat), (∀ j, j < l.length → l[j]? = ops[k + j]?) → ∀ {e : Env} {σ : St} {w : World} {a : Act} {f : Frame},
  SRel G e σ w → FRel G e σ w f a.tmps → Later e0 σ0 w0 e σ w → a.tmps.size = N → Marks ds e σ w a.defers → Z a.tmps → pops C ops.toList Q l f σ → wpOpsIn (fw none) n G.P ops QQ (List.range' k l.length ++ rest) a w
 | [], k, _, e, σ, w, a, f, hS, hF, hL, hN, hds, hZ, h => hend a w ⟨.normal, f, e, σ, h, rfl, hS, hF, hL, hN, hds, hZ⟩
 | o :: l, k, hl, e, σ, w, a, f, hS, hF, hL, hN, hds, hZ, h => by
  have h0 : ops[k]? = some o := by simpa using (hl 0 (by simp)).symm
  have hstep := pstepB_sound (ro := none) (n := n) hC hS hF hL hN hds hZ (ops := ops) (hd o (Array.mem_of_getElem? h0)) h
  have next : ∀ a' w', KRel G e0 σ0 w0 ds N Z (pops C ops.toList Q l) a' w' → wpOpsIn (fw none) n G.P ops QQ (List.range' (k + 1) l.length ++ rest) a' w' := fun a' w' ⟨f', e', σ', h1, h2, h3, h4, h5, h6, h7⟩ =>
   popsD_sound hC hd hQQ hend l (k + 1) (fun j hj => by have := hl (j + 1) (by simp; omega); simpa [Nat.add_assoc, Nat.add_comm 1 j] using this) h2 h3 h4 h5 h6 h7 h1
  rw [List.length_cons, List.range'_succ, List.cons_append]
  simp only [wpOpsIn, h0]
  split at hstep
  ·rename_i hw
   rw [if_pos hw]
   exact Oper.wpIn_exit hQQ (Oper.wpIn_mono next hstep)
  ·rename_i hw
   rw [if_neg hw]
   exact ⟨fun _ _ => trivial, next _ _ hstep⟩
def deferredOf (g0 : FuncId) (va vc : Array Value) : Deferred := { target := .fn (.func g0) vc, args := va }
def PostD (G : GE) (g0 : FuncId) (e0 : Env) (σ0 : St) (w0 : World) (N : Nat) (Q0 : PQ) (Q1 : List PV → PQ) : Exit → Act → World → Prop := fun x a w =>
 PostOf G e0 σ0 w0 (0, [], true) N (Kept [] #[]) Q0 x a w ∨
 ∃ fa va vc e1 σ1 w1, Later e0 σ0 w0 e1 σ1 w1 ∧ ArgsRel G e1 σ1 w1 fa (va ++ vc) ∧ PostOf G e1 σ1 w1 (0, [deferredOf g0 va vc], true) N (Kept [] #[]) (Q1 (cleanL fa)) x a w
theorem WD_sound {g0 : FuncId} {Q0 : PQ} {Q1 : List PV → PQ} (hmix : G.P.follows .mixedOrders = true) (hC : ∀ e σ w, CxOK G C none e σ w) (hM : CxMono C.calm) (hI : ∀ g args raw σ K, ¬ C.iter g args raw σ K) :
  ∀ (c : Code), codeOK N c = true → ∀ {e : Env} {σ : St} {w : World} {a : Act} {f : Frame}, SRel G e σ w → FRel G e σ w f a.tmps → Later e0 σ0 w0 e σ w → a.tmps.size = N → a.defers = [] → WD C g0 Q0 Q1 c f σ →
   c.wpIn (fw none) n G.P (PostD G g0 e0 σ0 w0 N Q0 Q1) a w := by
 have plain : ∀ (c : Code), codeOK N c = true → ∀ {e : Env} {σ : St} {w : World} {a : Act} {f : Frame}, SRel G e σ w → FRel G e σ w f a.tmps → Later e0 σ0 w0 e σ w → a.tmps.size = N → a.defers = [] → W C c Q0 f σ → c.wpIn (fw none) n G.P (PostD G g0 e0 σ0 w0 N Q0 Q1) a w :=
  fun c hok {e σ w a f} hS hF hL hN hd h => wpIn_mono (W_sound (n := n) (ro := none) (ds := (0, [], true)) hmix c (hC _ _ _) hM (fun _ => hI) hok [] #[] (noWrite_nil _) _ hS hF hL hN (by rw [hd]; exact Marks.nil e σ (Nat.zero_le _)) (fun i hi => by cases hi) h) fun x a w hp => .inl hp
 intro c
 induction c with
 | seq c1 c2 ih1 ih2 =>
  intro hok e σ w a f hS hF hL hN hd h
  have hok' := hok
  simp only [codeOK, Bool.and_eq_true] at hok'
  have hM0 : Marks (0, [], true) e σ w a.defers := by rw [hd]; exact Marks.nil e σ (Nat.zero_le _)
  simp only [WD] at h
  split at h
  ·rename_i all init x args hdi
   unfold deferIn at hdi
   split at hdi
   ·rename_i id ops
    split at hdi
    ·rename_i init' last hsl
     split at hdi
     ·rename_i x' args' hdc
      cases hdi
      have hops := splitLast_spec hsl
      obtain ⟨as, at', hop, has, hg, hdst⟩ := deferCall_spec hdc
      have hsize : ops.size = init.length + 1 := by rw [← Array.length_toList, hops]; simp
      have hlast : ops[init.length]? = some last := by rw [← Array.getElem?_toList, hops]; simp
      have hopsOK := hok'.1
      simp only [codeOK, Bool.and_eq_true] at hopsOK
      have hd2 : ∀ o, o ∈ ops → ∀ d, o.dst = some d → d < N ∧ ∀ t v, Kept [] #[] t → Kept [] #[] (t.setIfInBounds d v) := fun o ho d hdd => ⟨opsOK_spec hopsOK.1 o (Array.mem_def.1 ho) d hdd, fun t v _ i hi => by cases hi⟩
      refine wpIn_seq (wpIn_region ?_)
      rw [show List.range ops.size = List.range' 0 init.length ++ [init.length] from by rw [hsize, List.range_succ, List.range_eq_range']]
      refine popsD_sound (N := N) (Z := Kept [] #[]) (ds := (0, [], true)) (hC e0 σ0 w0) hd2 (fun x a w hx hp => ?_) (fun a1 w1 hp => ?_) init 0 (fun j hj => ?_) hS hF hL hN hM0 (fun i hi => by cases hi) h
      ·cases x with
       | normal => exact absurd rfl hx
       | _ =>
        obtain ⟨pe, f', e', σ', hq, hxr, hrest⟩ := hp
        refine .inl ⟨pe, f', e', σ', ?_, hxr, hrest⟩
        cases pe <;> first | exact hq | (cases hxr; done) | (obtain ⟨_, hxr, _⟩ := hxr; cases hxr)
      ·obtain ⟨pe, f', e', σ', hq, hxr, h1, h2, h3, h4, ⟨_, rs, h5, h5f, _⟩, h6⟩ := hp
       cases pe with
       | normal =>
        simp only at hq
        have hv := ev_rel h2 x
        split at hq
        ·rename_i g first caps heq
         split at hq
         ·rename_i hgb
          cases Nat.eq_of_beq_eq_true hgb
          rw [heq] at hv
          generalize hgv : a1.eval x = v at hv
          cases hv with
          | func _ _ _ va vc ha hc k1 k2 =>
           have hd0 : a1.defers = [] := by rw [h5, h5f rfl]; rfl
           have hargs : ArgsRel G e' σ' w1 (first ++ args.map (ev f') ++ caps) (va ++ as.map a1.eval ++ vc) := by
            have hm := args_rel (G := G) (e := e') (σ := σ') (w := w1) (a := a1) (f := f') (args := as) (fun x => ev_rel h2 x)
            rw [has] at hm
            exact ArgsRel.append (ArgsRel.append ⟨ha, k1⟩ hm) ⟨hc, k2⟩
           have hw : Region.wanted last (yielded ops a1.tmps) = true := by simp [Region.wanted, hg]
           simp only [wpOpsIn, hlast, hw, if_true]
           have hrun : (execOp a1.eval last).run G.P w1 = .ok (.defer (deferredOf g0 (va ++ as.map a1.eval) vc)) w1 := by
            unfold execOp
            simp only [hop, resolve, hgv, Deferred.ofValue, Sem.run_bind, Sem.run_pure, Result.andThen]
            rfl
           refine ⟨fun _ _ => trivial, ?_⟩
           rw [show (fw none).round = none from rfl, Oper.semAt_none, hrun, Oper.uponIn_defer]
           rw [hdst]
           show c2.wpIn (fw none) n G.P (PostD G g0 e0 σ0 w0 N Q0 Q1) { a1 with defers := deferredOf g0 (va ++ as.map a1.eval) vc :: a1.defers } w1
           rw [hd0]
           refine wpIn_mono (W_sound (n := n) (ro := none) (ds := (0, [deferredOf g0 (va ++ as.map a1.eval) vc], true)) hmix c2 (hC e' σ' w1) hM (fun _ => hI) hok'.2 [] #[] (noWrite_nil _) _ (a := { a1 with defers := [deferredOf g0 (va ++ as.map a1.eval) vc] }) h1 h2 (Later.refl _ _ _) h4
            ⟨Nat.zero_le _, [], rfl, fun _ => rfl, List.nodup_nil, fun r h => by cases h⟩ (fun i hi => by cases hi) hq) fun x a w hp => .inr ⟨_, _, _, e', σ', w1, h3, hargs, hp⟩
         ·exact hq.elim
        ·exact hq.elim
       | exit id => cases hxr
       | goto l => cases hxr
       | ret => cases hxr
       | panic p => obtain ⟨_, hxr, _⟩ := hxr; cases hxr
      ·rw [← Array.getElem?_toList, hops, Nat.zero_add, List.getElem?_append_left hj]
     ·cases hdi
    ·cases hdi
   ·cases hdi
  ·refine wpIn_seq (wpIn_mono (W_sound (n := n) (ro := none) (ds := (0, [], true)) hmix c1 (hC _ _ _) hM (fun _ => hI) hok'.1 [] #[] (noWrite_nil _) _ hS hF hL hN hM0 (fun i hi => by cases hi) h) fun x a1 w1 hp => ?_)
   obtain ⟨pe, f', e', σ', hq, hxr, h1, h2, h3, h4, h5, h6⟩ := hp
   cases pe with
   | normal =>
    obtain rfl : x = .normal := hxr
    obtain ⟨_, rs, h5, h5f, _⟩ := h5
    exact ih2 hok'.2 h1 h2 h3 h4 (by rw [h5, h5f rfl]; rfl) hq
   | exit id => obtain rfl : x = .exit id := hxr; exact .inl ⟨.exit id, f', e', σ', hq, rfl, h1, h2, h3, h4, h5, h6⟩
   | goto l => obtain rfl : x = .goto l := hxr; exact .inl ⟨.goto l, f', e', σ', hq, rfl, h1, h2, h3, h4, h5, h6⟩
   | ret => obtain rfl : x = .ret := hxr; exact .inl ⟨.ret, f', e', σ', hq, rfl, h1, h2, h3, h4, h5, h6⟩
   | panic p => obtain ⟨v, rfl, hv⟩ := hxr; exact .inl ⟨.panic p, f', e', σ', hq, ⟨v, rfl, hv⟩, h1, h2, h3, h4, h5, h6⟩
 | _ => intro hok e σ w a f hS hF hL hN hd h; exact plain _ hok hS hF hL hN hd h
end
def exitD (T : Tab) (fn : Func) (keep : Nat) (own : Bool) (spR : List PV → St → (St → Prop) → Prop) (spP : PV → List PV → St → (St → Prop) → Prop) (R : PEnd → St → Prop) (fa : List PV) : PQ := fun e f σ => match e with
 | .normal | .ret => spR fa σ fun σ2 => pres T (cleanF f) σ2.bx fn.results.toList fun vs => leave keep own (oneOf vs) σ2 fun v σ' => R (.ret v) σ'
 | .panic pv => spP pv fa σ fun σ2 => pres T (cleanF f) σ2.bx fn.results.toList fun vs => leave keep own (oneOf vs) σ2 fun v σ' => R (.ret v) σ'
 | _ => False
theorem ArgsRel.clean {G : GE} {e e' : Env} {σ σ' : St} {w w' : World} {fa : List PV} {vs : Array Value} (h : ArgsRel G e σ w fa vs) (hL : Later e σ w e' σ' w') : ArgsRel G e' σ' w' (cleanL fa) vs := by
 refine ⟨by rw [cleanL_length]; exact h.1, fun i y u hy hu => ?_⟩
 obtain ⟨x, hx, rfl⟩ := cleanL_get i y hy
 have hv := h.2 i x u hx hu
 exact VRel.clean hL.len hL.beta hL.pres hv hv.bnd
theorem CallsDIn.mono {F : Fence} {n : Nat} {P : Program} {f : FuncId} {args : Array Value} {u : FrameMode} {w : World} {R R' : Ending → FrameMode → World → Prop} (h : CallsDIn F n P f args u w R) (hR : ∀ e u w, R e u w → R' e u w) : CallsDIn F n P f args u w R' :=
 ⟨h.1, fun c cs hu hr => let ⟨e, u', w', fr, h1, h2⟩ := h.2 c cs hu hr; ⟨e, u', w', fr, hR _ _ _ h1, h2⟩⟩
theorem pcallsD {G : GE} {T : Tab} {tbl : Tbl} (hT : TabOK T G.P) (hmix : G.P.follows .mixedOrders = true) (ht : TblOK G tbl) {g : FuncId} {fn : Func} {c : Code} (hf : G.P.funcs[g]? = some fn) (hb : fn.body = some c) (hname : (fn.name == "runtime.NumGoroutine") = false)
  (hok : codeOK fn.ntmps c = true) {g0 : FuncId} {spR : List PV → St → (St → Prop) → Prop} {spP : PV → List PV → St → (St → Prop) → Prop} (hd : PDef G g0 spR spP) {sp : Spec}
  (h : ∀ args σ K, sp args σ K → ∃ loops unr ties keep own, σ.bx.length ≤ keep ∧ args.length ≤ fn.ntmps ∧ WD (ctxU T tbl noIter loops unr ties) g0 (exitQ T fn keep own K) (exitD T fn keep own spR spP K) (bodyOf fn) (argF 0 args) σ) : PCalls G g sp where
 enters := enters_of hf hname hb
 calls := fun args σ K hs n e w vs hS hargs => by
  obtain ⟨loops, unr, ties, keep, own, hk, hlen, hW⟩ := h args σ K hs
  have hbo : bodyOf fn = c := by simp [bodyOf, hb]
  rw [hbo] at hW
  have hsz : vs.size = args.length := hargs.1
  have hF : FRel G e σ w (argF 0 args) (vs ++ Array.replicate (fn.ntmps - vs.size) undef) := argF_rel args 0 fun k x hx => by
   have hk := (List.getElem?_eq_some_iff.1 hx).1
   have hkv : k < vs.size := by omega
   have : (vs ++ Array.replicate (fn.ntmps - vs.size) undef).getD (0 + k) Go.undef = vs[k] := by
    simp [Array.getD, Array.getElem_append, hkv]
    intro h; omega
   rw [this]
   exact hargs.2 k x _ hx (Array.getElem?_eq_getElem hkv)
  refine callsIn_of_wp_defers hf hb trivial (wpIn_mono (WD_sound (n := n) (e0 := e) (σ0 := σ) (w0 := w) hmix (C := ctxU T tbl noIter loops unr ties) (fun _ _ _ => ⟨hT, ht.sem, fun _ _ _ _ h => h.elim, noIter_sem, .inl rfl⟩) ⟨fun _ h1 h2 => hT.one h1 h2, ht.mono, fun _ _ _ _ h => h.elim, rfl⟩ (fun _ _ _ _ _ h => h) c hok
   (a := { tmps := vs ++ Array.replicate (fn.ntmps - vs.size) undef, defers := [] }) hS hF (Later.refl e σ w) (by simp; omega) rfl hW) fun x a' w' hp => ?_)
  have ends : ∀ {f' : Frame} {tm : Array Value} {e' : Env} {σ' : St} {w' : World}, SRel G e' σ' w' → FRel G e' σ' w' f' tm → Later e σ w e' σ' w' →
    (pres T f' σ'.bx fn.results.toList fun vs => leave keep own (oneOf vs) σ' fun v σ'' => K (.ret v) σ'') → ∃ v, (results fn tm).run G.P w' = .ok v w' ∧ AfterL G e σ w K (.returned v) w' := fun h1 h2 h3 hl => by
   obtain ⟨pvs, r, hlv, hr, hvr⟩ := results_sound (C := ctx T tbl loops) hT h1 h2 hl
   obtain ⟨pv', σ2, e2, hK, hv2, hS2, hL2⟩ := leave_sound h1 h3 hk hvr hlv
   exact ⟨r, hr, .ret pv', σ2, e2, hK, ⟨r, rfl, hv2⟩, hS2, hL2⟩
  rcases hp with ⟨pe, f', e', σ', hq, hx, h1, h2, h3, h4, ⟨_, rs, h5, h5f, _⟩, h6⟩ | ⟨fa, va, vc, e1, σ1, w1, hL1, hfa, pe, f', e', σ', hq, hx, h1, h2, h3, h4, ⟨_, rs, h5, h5f, _⟩, h6⟩
  ·have hd0 : a'.defers = [] := by rw [h5, h5f rfl]; rfl
   cases pe with
   | normal => obtain rfl : x = .normal := hx; show LeavesIn _ _ _ _ _ _ _ _ _; rw [hd0]; exact ends h1 h2 h3 hq
   | ret => obtain rfl : x = .ret := hx; show LeavesIn _ _ _ _ _ _ _ _ _; rw [hd0]; exact ends h1 h2 h3 hq
   | panic p =>
    obtain ⟨v, rfl, hv⟩ := hx
    show LeavesIn _ _ _ _ _ _ _ _ _
    rw [hd0]
    obtain ⟨pv', σ2, e2, hK, hv2, hS2, hL2⟩ := leave_sound h1 h3 hk hv hq
    exact ⟨.panic pv', σ2, e2, hK, ⟨v, rfl, hv2⟩, hS2, hL2⟩
   | exit id => exact hq.elim
   | goto l => exact hq.elim
  ·have hd0 : a'.defers = [deferredOf g0 va vc] := by rw [h5, h5f rfl]; rfl
   have hL2 : Later e σ w e' σ' w' := hL1.trans h3
   have hinv : (invoke (deferredOf g0 va vc).target (deferredOf g0 va vc).args).run G.P w' = .ok (.enter g0 (va ++ vc)) w' := by
    show (callFunc g0 (va ++ vc)).run G.P w' = _
    exact hd.enters _ _
   have after : ∀ {e2 : Env} {σ2 : St} {w2 : World}, SRel G e2 σ2 w2 → Later e' σ' w' e2 σ2 w2 → (pres T (cleanF f') σ2.bx fn.results.toList fun vs => leave keep own (oneOf vs) σ2 fun v σ'' => K (.ret v) σ'') → ∃ v, (results fn a'.tmps).run G.P w2 = .ok v w2 ∧ AfterL G e σ w K (.returned v) w2 :=
    fun h1' hL' hl => ends h1' (h2.clean hL') (hL2.trans hL') hl
   have hfa' : ArgsRel G e' σ' w' (cleanL fa) (va ++ vc) := hfa.clean h3
   have go : ∀ u, u ≠ .run → CallsDIn (fw none) (n - 1) G.P g0 (va ++ vc) u w' (fun
     | .returned _, u', w' => LeavesIn (fw none) n G.P fn a'.tmps (AfterL G e σ w K) [] (settle u') w'
     | .panicked chain, u', w' => LeavesIn (fw none) n G.P fn a'.tmps (AfterL G e σ w K) [] (raised u' chain) w'
     | .outgrown, _, w' => AfterL G e σ w K .outgrown w') → LeavesIn (fw none) n G.P fn a'.tmps (AfterL G e σ w K) [deferredOf g0 va vc] u w' := fun u hu hc =>
    ⟨hu, (fun h => by cases h), .func g0, vc, g0, va ++ vc, rfl, hinv, fun _ _ => trivial, hc⟩
   cases pe with
   | normal =>
    obtain rfl : x = .normal := hx
    show LeavesIn _ _ _ _ _ _ _ _ _
    rw [hd0]
    refine go _ (by simp) ((hd.ret _ _ _ hq _ _ _ _ h1 hfa').mono fun en u2 w2 hh => ?_)
    obtain ⟨rfl, ⟨r, rfl⟩, σ2, e2, hK, hS2, hL'⟩ := hh
    exact after hS2 hL' hK
   | ret =>
    obtain rfl : x = .ret := hx
    show LeavesIn _ _ _ _ _ _ _ _ _
    rw [hd0]
    refine go _ (by simp) ((hd.ret _ _ _ hq _ _ _ _ h1 hfa').mono fun en u2 w2 hh => ?_)
    obtain ⟨rfl, ⟨r, rfl⟩, σ2, e2, hK, hS2, hL'⟩ := hh
    exact after hS2 hL' hK
   | panic p =>
    obtain ⟨v, rfl, hv⟩ := hx
    show LeavesIn _ _ _ _ _ _ _ _ _
    rw [hd0]
    refine go _ (by simp) ((hd.pan _ _ _ _ hq _ _ _ _ v h1 hfa' hv).mono fun en u2 w2 hh => ?_)
    obtain ⟨rfl, ⟨r, rfl⟩, σ2, e2, hK, hS2, hL'⟩ := hh
    exact after hS2 hL' hK
   | exit id => exact hq.elim
   | goto l => exact hq.elim
end Go.PM
end
