/-
  THE PURE LOGIC, 11: the precondition of code is one.
-/
import Derived.Test.YtodfhajjdfbhgaaDoorPmNrm
import Derived.Scope
import Derived.RangeFuncRecord
import Derived.RangeFuncCalls
set_option linter.unusedVariables false
set_option linter.unusedSimpArgs false
set_option linter.all false
namespace Go.PM

theorem stepR_scope {P : Program} {b : Go.Frame} {a : Act} {k : List Item} {cs : List Go.Frame} {w : World} {c : Code} :
    step P (lone (b.atR a (.code (.scope c) :: k)) cs w) = .next (lone (b.atR a (.code c :: .inScope c :: k)) cs w) :=
  step_lone_go (by simp [stepG, stepG.exec, Go.Frame.atR])
theorem stepR_inScope {P : Program} {b : Go.Frame} {a : Act} {k : List Item} {cs : List Go.Frame} {w : World} {c : Code} :
    step P (lone (b.atR a (.inScope c :: k)) cs w) = .next (lone (b.atR a k) cs w) :=
  step_lone_go (by simp [stepG, stepG.exec, Go.Frame.atR])
/-- A scope through which the run goes without a jump. -/
theorem wpIn_scope {F : Fence} {n : Nat} {P : Program} {Q : Exit → Act → World → Prop} {a : Act} {w : World} {c : Code} (h : c.wpIn F n P (Exit.noGoto Q) a w) : (Code.scope c).wpIn F n P Q a w := by
  intro b k cs hro hb hr
  have h0 : (lone (b.atR a (.code (.scope c) :: k)) cs w).fenced P F := fenced_calm hb hr rfl
  obtain ⟨e, a₁, w₁, hq, harr⟩ := h b (.inScope c :: k) cs hro hb hr
  cases e with
  | normal => exact ⟨.normal, a₁, w₁, hq, .head h0 stepR_scope (StepsIn.trans harr (.one (fenced_calm hb hr rfl) stepR_inScope))⟩
  | exit id =>
    have hx : exitTo id (.inScope c :: k) = exitTo id k := by simp [exitTo]
    exact ⟨.exit id, a₁, w₁, hq, fun k' hk => .head h0 stepR_scope (harr.1 k' (by rw [hx]; exact hk)),
      fun hr' hk => let ⟨k₁, h1, h2⟩ := harr.2 hr' (by rw [hx]; exact hk); ⟨k₁, h1, .head h0 stepR_scope h2⟩⟩
  | goto l => exact hq.elim
  | ret => exact ⟨_, a₁, w₁, hq, .of_steps (.one h0 stepR_scope) harr⟩
  | panic ch => exact ⟨_, a₁, w₁, hq, .of_steps (.one h0 stepR_scope) harr⟩
  | outgrown => exact ⟨_, a₁, w₁, hq, .of_steps (.one h0 stepR_scope) harr⟩
def opsOK (N : Nat) : List Oper → Bool
  | [] => true
  | o :: l => (match o.dst with | some d => Nat.ble (d + 1) N | none => true) && opsOK N l
def codeOK (N : Nat) : Code → Bool
  | .region _ ops draw => opsOK N ops.toList && (!draw || drawOK ops.toList)
  | .seq a b => codeOK N a && codeOK N b
  | .cond _ a b => codeOK N a && codeOK N b
  | .block _ b => codeOK N b
  | .loop b => codeOK N b
  | .scope b => codeOK N b
  | .rangeFunc _ ps a b => ps.toList.all (fun p => Nat.ble (p + 1) N) && codeOK N a && codeOK N b
  | _ => true
theorem opsOK_spec {N : Nat} : ∀ {l : List Oper}, opsOK N l = true → ∀ o ∈ l, ∀ d, o.dst = some d → d < N
  | [], _, o, ho => by cases ho
  | x :: l, h, o, ho => by
    simp only [opsOK, Bool.and_eq_true] at h
    rcases List.mem_cons.1 ho with rfl | ho
    · intro d hd
      have := h.1
      rw [hd] at this
      exact Nat.le_of_ble_eq_true this
    · exact opsOK_spec h.2 o ho
theorem writesOps_spec {ks : List Nat} : ∀ {l : List Oper}, writesOps l ks = true → ∀ o ∈ l, ∀ d, o.dst = some d → d ∉ ks
  | [], _, o, ho => by cases ho
  | x :: l, h, o, ho => by
    simp only [writesOps, Bool.and_eq_true] at h
    rcases List.mem_cons.1 ho with rfl | ho
    · intro d hd hm
      have := h.1
      rw [hd] at this
      simp only [Bool.not_eq_true'] at this
      rw [(nmem_iff _ _).2 hm] at this; cases this
    · exact writesOps_spec h.2 o ho
/-- These slots have what they had. -/
def Kept (ks : List Nat) (t0 t : Array Value) : Prop := ∀ i, i ∈ ks → t.getD i Go.undef = t0.getD i Go.undef
theorem Kept.set {ks : List Nat} {t0 t : Array Value} (h : Kept ks t0 t) {d : Nat} (hd : d ∉ ks) (v : Value) : Kept ks t0 (t.setIfInBounds d v) := fun i hi => by
  have hne : d ≠ i := fun e => hd (e ▸ hi)
  rw [← h i hi]
  simp [Array.getElem?_setIfInBounds, hne]
theorem writesOps_append {ks ls : List Nat} : ∀ {l : List Oper}, writesOps l ks = true → writesOps l ls = true → writesOps l (ks ++ ls) = true
  | [], _, _ => rfl
  | o :: l, h1, h2 => by
    simp only [writesOps, Bool.and_eq_true] at h1 h2 ⊢
    refine ⟨?_, writesOps_append h1.2 h2.2⟩
    have h1 := h1.1
    have h2 := h2.1
    cases hd : o.dst with
    | none => rfl
    | some d =>
      rw [hd] at h1 h2
      simp only [Bool.not_eq_true'] at h1 h2 ⊢
      cases h3 : nmem d (ks ++ ls) with
      | false => rfl
      | true =>
        rcases List.mem_append.1 ((nmem_iff _ _).1 h3) with h4 | h4
        · rw [(nmem_iff _ _).2 h4] at h1; cases h1
        · rw [(nmem_iff _ _).2 h4] at h2; cases h2
theorem noWrite_append {ks ls : List Nat} : ∀ {c : Code}, noWrite ks c = true → noWrite ls c = true → noWrite (ks ++ ls) c = true := by
  intro c
  induction c with
  | region id ops draw => exact fun h1 h2 => writesOps_append h1 h2
  | seq a b iha ihb => intro h1 h2; simp only [noWrite, Bool.and_eq_true] at h1 h2 ⊢; exact ⟨iha h1.1 h2.1, ihb h1.2 h2.2⟩
  | cond c a b iha ihb => intro h1 h2; simp only [noWrite, Bool.and_eq_true] at h1 h2 ⊢; exact ⟨iha h1.1 h2.1, ihb h1.2 h2.2⟩
  | block id b ih => intro h1 h2; exact ih h1 h2
  | loop b ih => intro h1 h2; exact ih h1 h2
  | scope b ih => intro h1 h2; exact ih h1 h2
  | _ => intro _ _; rfl

theorem noWrite_nil : ∀ c : Code, noWrite [] c = true := by
  intro c
  induction c with
  | region id ops draw =>
    have : ∀ l : List Oper, writesOps l [] = true := by
      intro l
      induction l with
      | nil => rfl
      | cons o l ih => simp only [writesOps, ih, Bool.and_true]; cases o.dst <;> rfl
    exact this _
  | seq a b iha ihb => simp [noWrite, iha, ihb]
  | cond c a b iha ihb => simp [noWrite, iha, ihb]
  | block id b ih => exact ih
  | loop b ih => exact ih
  | scope b ih => exact ih
  | _ => rfl
section
variable {G : GE} {C : Cx} {e0 e : Env} {σ0 σ : St} {w0 w : World} {a : Act} {f : Frame} {Q : PQ} {ro : Option Nat} {n : Nat} {ds : Nat} {N : Nat}

theorem fsets_rel {base : Frame} {tm : Array Value} (hb : FRel G e σ w base tm) : ∀ {live : List Nat} {vs : List PV}, (∀ (k i : Nat) (x : PV), live[k]? = some i → vs[k]? = some x → VRel G e σ w x (tm.getD i Go.undef)) → FRel G e σ w (fsets base live vs) tm
  | [], vs, _ => by cases vs <;> exact hb
  | i :: is, [], _ => hb
  | i :: is, v :: vs, h => by
    intro j
    have ih := fsets_rel hb (live := is) (vs := vs) fun k i x h1 h2 => h (k + 1) i x (by simpa using h1) (by simpa using h2)
    simp only [fsets]
    by_cases hij : i = j
    · subst hij; rw [fset_same]; exact h 0 i v (by simp) (by simp)
    · rw [fset_ne _ _ hij]; exact ih j
theorem keepF_rel {f0 : Frame} {tm : Array Value} : ∀ {keep : List Nat}, (∀ i, i ∈ keep → VRel G e σ w (clean (f0 i)) (tm.getD i Go.undef)) → FRel G e σ w (keepF f0 keep) tm
  | [], _ => fun i => .undef _
  | i :: is, h => by
    intro j
    simp only [keepF]
    by_cases hij : i = j
    · subst hij; rw [fset_same]; exact h i (by simp)
    · rw [fset_ne _ _ hij]; exact keepF_rel (fun k hk => h k (List.mem_cons_of_mem _ hk)) j

theorem seq_post {ks : List Nat} {t0 : Array Value} {b : Code} (ihb : ∀ (Q : PQ) {e : Env} {σ : St} {w : World} {a : Act} {f : Frame}, SRel G e σ w → FRel G e σ w f a.tmps → Later e0 σ0 w0 e σ w → a.tmps.size = N → Marks ds e σ w a.defers → Kept ks t0 a.tmps → W C b Q f σ → b.wpIn (fw ro) n G.P (PostOf G e0 σ0 w0 ds N (Kept ks t0) Q) a w)
    (x : Exit) (a : Act) (w : World) (h : PostOf G e0 σ0 w0 ds N (Kept ks t0) (fun e f σ => match e with | .normal => W C b Q f σ | e => Q e f σ) x a w) : Exit.then (b.wpIn (fw ro) n G.P (PostOf G e0 σ0 w0 ds N (Kept ks t0) Q)) (PostOf G e0 σ0 w0 ds N (Kept ks t0) Q) x a w := by
  obtain ⟨pe, f, e, σ, hq, hx, h1, h2, h3, h4, h5, h6⟩ := h
  cases pe with
  | normal => obtain rfl : x = .normal := hx; exact ihb Q h1 h2 h3 h4 h5 h6 hq
  | exit id => obtain rfl : x = .exit id := hx; exact ⟨.exit id, f, e, σ, hq, rfl, h1, h2, h3, h4, h5, h6⟩
  | goto l => obtain rfl : x = .goto l := hx; exact ⟨.goto l, f, e, σ, hq, rfl, h1, h2, h3, h4, h5, h6⟩
  | ret => obtain rfl : x = .ret := hx; exact ⟨.ret, f, e, σ, hq, rfl, h1, h2, h3, h4, h5, h6⟩
  | panic p => obtain ⟨v, rfl, hv⟩ := hx; exact ⟨.panic p, f, e, σ, hq, ⟨v, rfl, hv⟩, h1, h2, h3, h4, h5, h6⟩
theorem block_post {Z : Array Value → Prop} {id : Nat} (x : Exit) (a : Act) (w : World) (h : PostOf G e0 σ0 w0 ds N Z (fun e f σ => match e with | .exit i => (match Nat.beq i id with | true => Q .normal f σ | false => Q (.exit i) f σ) | e => Q e f σ) x a w) :
    Exit.inBlock id (PostOf G e0 σ0 w0 ds N Z Q) x a w := by
  obtain ⟨pe, f, e, σ, hq, hx, hrest⟩ := h
  cases pe with
  | normal => obtain rfl : x = .normal := hx; exact ⟨.normal, f, e, σ, hq, rfl, hrest⟩
  | exit i =>
    obtain rfl : x = .exit i := hx
    simp only [Exit.inBlock]
    by_cases hi : i = id
    · subst hi
      rw [if_pos rfl]
      simp only [show Nat.beq i i = true from by simp] at hq
      exact ⟨.normal, f, e, σ, hq, rfl, hrest⟩
    · rw [if_neg hi]
      have : Nat.beq i id = false := by
        cases hb : Nat.beq i id with
        | false => rfl
        | true => exact absurd (Nat.eq_of_beq_eq_true hb) hi
      simp only [this] at hq
      exact ⟨.exit i, f, e, σ, hq, rfl, hrest⟩
  | goto l => obtain rfl : x = .goto l := hx; exact ⟨.goto l, f, e, σ, hq, rfl, hrest⟩
  | ret => obtain rfl : x = .ret := hx; exact ⟨.ret, f, e, σ, hq, rfl, hrest⟩
  | panic p => obtain ⟨v, rfl, hv⟩ := hx; exact ⟨.panic p, f, e, σ, hq, ⟨v, rfl, hv⟩, hrest⟩
theorem scope_post {Z : Array Value → Prop} (x : Exit) (a : Act) (w : World) (h : PostOf G e0 σ0 w0 ds N Z (fun e f σ => match e with | .goto _ => False | e => Q e f σ) x a w) :
    Exit.noGoto (PostOf G e0 σ0 w0 ds N Z Q) x a w := by
  obtain ⟨pe, f, e, σ, hq, hx, hrest⟩ := h
  cases pe with
  | normal => obtain rfl : x = .normal := hx; exact ⟨.normal, f, e, σ, hq, rfl, hrest⟩
  | exit i => obtain rfl : x = .exit i := hx; exact ⟨.exit i, f, e, σ, hq, rfl, hrest⟩
  | goto l => exact hq.elim
  | ret => obtain rfl : x = .ret := hx; exact ⟨.ret, f, e, σ, hq, rfl, hrest⟩
  | panic p => obtain ⟨v, rfl, hv⟩ := hx; exact ⟨.panic p, f, e, σ, hq, ⟨v, rfl, hv⟩, hrest⟩
theorem PostOf.rebase {e1 : Env} {σ1 : St} {w1 : World} {Z Z' : Array Value → Prop} (hL : Later e1 σ1 w1 e0 σ0 w0) (hZ : ∀ t, Z t → Z' t) {x : Exit} {a : Act} {w : World} (h : PostOf G e0 σ0 w0 ds N Z Q x a w) : PostOf G e1 σ1 w1 ds N Z' Q x a w := by
  obtain ⟨pe, f, e, σ, hq, hx, h1, h2, h3, h4, h5, h6⟩ := h
  exact ⟨pe, f, e, σ, hq, hx, h1, h2, hL.trans h3, h4, h5, hZ _ h6⟩

/-- A loop's record turns. -/
theorem put_loop (hS : SRel G e σ w) {b : Nat} {st st' : LoopState} {pd pd' : Option Code} {r : Loop} (hb : σ.bx[b]? = some (.loop st pd r)) :
    Stepped e σ w e (σ.set b (.loop st' pd' r)) (w.putObj (e.β b) (.loop { r with state := st', pending := pd' })) ∧ SRel G e (σ.set b (.loop st' pd' r)) (w.putObj (e.β b) (.loop { r with state := st', pending := pd' })) := by
  have hbl : b < σ.bx.length := (List.getElem?_eq_some_iff.1 hb).1
  have hit : w.heap[e.β b]? = some (.loop { r with state := st, pending := pd }) := hS.box b _ hb
  have hsl : (σ.set b (.loop st' pd' r)).bx.length = σ.bx.length := by simp [St.set]
  have hoth : ∀ k, k ≠ e.β b → (w.putObj (e.β b) (.loop { r with state := st', pending := pd' })).heap[k]? = w.heap[k]? := fun k hk => World.putObj_heap_other hk
  have hst : Stepped e σ w e (σ.set b (.loop st' pd' r)) (w.putObj (e.β b) (.loop { r with state := st', pending := pd' })) := {
    len := by rw [hsl]; exact Nat.le_refl _
    beta := fun _ _ => rfl
    X := rfl
    pres := fun k o u hk ho => ⟨⟨ho.1, fun j hj => ho.2.1 j (by rw [hsl] at hj; exact hj), ho.2.2⟩, by simpa [World.cell?, hoth k (fun h => ho.2.1 b hbl h.symm)] using hk⟩
    blocks := fun k hk hnb _ => hoth k (fun h => hnb b hbl h.symm)
    size := by rw [World.putObj_size]; exact Nat.le_refl _
    os := rfl
    tape := rfl
    output := rfl
    fresh := fun i h1 h2 => by rw [hsl] at h2; omega
    ftok := fun t ht p hp => .inr ⟨t, ht, p, hp, rfl⟩
    nx := Nat.le_refl _
    toks := fun _ _ ht => ⟨ht, rfl⟩
    own := fun t' hn ht p hp hlt => hoth _ (fun h => (hS.own t' ht p hp).2.1 b hbl h.symm) }
  refine ⟨hst, ?_⟩
  exact {
    inj := fun i j hi hj => hS.inj i j (by rw [hsl] at hi; exact hi) (by rw [hsl] at hj; exact hj)
    box := fun k y hy => by
      by_cases hkb : k = b
      · subst hkb
        have : y = .loop st' pd' r := by
          simp only [St.set, List.getElem?_set_self hbl] at hy
          exact (Option.some.inj hy).symm
        subst this
        exact World.putObj_heap_same (Array.getElem?_eq_some_iff.1 hit).1
      · have hy' : σ.bx[k]? = some y := by
          simp only [St.set] at hy
          rwa [List.getElem?_set_ne (fun h => hkb h.symm)] at hy
        have hkl := (List.getElem?_eq_some_iff.1 hy').1
        exact (hS.box k y hy').step hst (hoth _ (fun h => hkb (hS.inj k b hkl hbl h)))
    low := fun i hi => hS.low i (by rw [hsl] at hi; exact hi)
    tkn := hS.tkn
    own := fun t' ht p hp => by
      obtain ⟨q1, q2, cs2, ty2, fz2, q3⟩ := hS.own t' ht p hp
      refine ⟨q1, fun i hi => q2 i (by rw [hsl] at hi; exact hi), cs2, ty2, fz2, (hoth _ (fun h => q2 b hbl h.symm)).trans q3⟩
    dis := hS.dis
    xown := hS.xown
    xlt := fun k o hx => by rw [World.putObj_size]; exact hS.xlt k o hx
    glob := fun k hk => (hoth k (fun h => by have := hS.low b hbl; omega)).trans (hS.glob k hk)
    big := by rw [World.putObj_size]; exact hS.big }
theorem fputs_rel : ∀ {ps : List Nat} {f : Frame} {args : List PV} {tm : Array Value} {vs : List Value}, FRel G e σ w f tm → vs.length = args.length → (∀ (i : Nat) (x : PV) (u : Value), args[i]? = some x → vs[i]? = some u → VRel G e σ w x u) → (∀ p ∈ ps, p < tm.size) →
    FRel G e σ w (fputs f ps args) ((ps.zip vs).foldl (fun tmps (x : Nat × Value) => tmps.setIfInBounds x.1 x.2) tm) ∧ ((ps.zip vs).foldl (fun tmps (x : Nat × Value) => tmps.setIfInBounds x.1 x.2) tm).size = tm.size
  | [], f, args, tm, vs, hF, hl, hr, hp => by simp only [fputs, List.zip_nil_left, List.foldl_nil, and_true]; exact hF
  | p :: ps, f, [], tm, [], hF, hl, hr, hp => ⟨hF, rfl⟩
  | p :: ps, f, x :: args, tm, u :: vs, hF, hl, hr, hp => by
      simp only [List.zip_cons_cons, List.foldl_cons, fputs]
      have h1 : FRel G e σ w (fset f p x) (tm.setIfInBounds p u) := by
        have := FRel.put (a := { tmps := tm, defers := [] }) (d := some p) hF (hr 0 x u rfl rfl) (fun i hi => by cases hi; exact hp p (by simp))
        exact this
      obtain ⟨g1, g2⟩ := fputs_rel (ps := ps) h1 (by simpa using hl) (fun i y v hy hv => hr (i + 1) y v (by simpa using hy) (by simpa using hv)) (fun q hq => by simpa using hp q (by simp [hq]))
      exact ⟨g1, by rw [g2]; simp⟩
theorem Marks.push {lo : Nat} {l : List Deferred} (hS : SRel G e σ w) (h : Marks lo e σ w l) : Marks lo e σ (w.alloc (.deferred (some []))) (markOf w.heap.size :: l) := by
  obtain ⟨h0, rs, h1, h2, h3⟩ := h
  have hg := Grows.alloc w (.deferred (some []))
  have hold : ∀ r ∈ rs, r < w.heap.size := fun r hr => (Array.getElem?_eq_some_iff.1 (h3 r hr).2.1).1
  refine ⟨Nat.le_trans h0 hg.size, w.heap.size :: rs, by rw [h1]; rfl, List.nodup_cons.2 ⟨fun hm => by have := hold _ hm; omega, h2⟩, fun r hr => ?_⟩
  rcases List.mem_cons.1 hr with rfl | hr
  · refine ⟨h0, heap_alloc_new w _, fun i hi => by have := hS.lt hi; omega, fun t ht p hp => ?_⟩
    obtain ⟨_, _, cs, ty, fz, hh⟩ := hS.own t ht p hp
    have := (Array.getElem?_eq_some_iff.1 hh).1
    omega
  · obtain ⟨g1, g2, g3, g4⟩ := h3 r hr
    exact ⟨g1, (hg.old r (hold r hr)).trans g2, g3, g4⟩

/-- The precondition of code is one. -/
theorem W_sound (hmix : G.P.follows .mixedOrders = true) : ∀ (c : Code) {C : Cx} {ro : Option Nat} {e0 : Env} {σ0 : St} {w0 : World} {N ds n : Nat}, CxOK G C ro e0 σ0 w0 → CxMono C.calm → codeOK N c = true → ∀ (ks : List Nat) (t0 : Array Value), noWrite ks c = true → ∀ (Q : PQ) {e : Env} {σ : St} {w : World} {a : Act} {f : Frame},
    SRel G e σ w → FRel G e σ w f a.tmps → Later e0 σ0 w0 e σ w → a.tmps.size = N → Marks ds e σ w a.defers → Kept ks t0 a.tmps → W C c Q f σ → c.wpIn (fw ro) n G.P (PostOf G e0 σ0 w0 ds N (Kept ks t0) Q) a w := by
  intro c
  induction c with
  | skip => intro C ro e0 σ0 w0 N ds n hC hM _ ks t0 _ Q e σ w a f hS hF hL hN hds hZ h; exact wpIn_skip ⟨.normal, f, e, σ, h, rfl, hS, hF, hL, hN, hds, hZ⟩
  | label l => intro C ro e0 σ0 w0 N ds n hC hM _ ks t0 _ Q e σ w a f hS hF hL hN hds hZ h; exact wpIn_label ⟨.normal, f, e, σ, h, rfl, hS, hF, hL, hN, hds, hZ⟩
  | exit id => intro C ro e0 σ0 w0 N ds n hC hM _ ks t0 _ Q e σ w a f hS hF hL hN hds hZ h; exact wpIn_exit ⟨.exit id, f, e, σ, h, rfl, hS, hF, hL, hN, hds, hZ⟩
  | goto l => intro C ro e0 σ0 w0 N ds n hC hM _ ks t0 _ Q e σ w a f hS hF hL hN hds hZ h; exact wpIn_goto ⟨.goto l, f, e, σ, h, rfl, hS, hF, hL, hN, hds, hZ⟩
  | ret => intro C ro e0 σ0 w0 N ds n hC hM _ ks t0 _ Q e σ w a f hS hF hL hN hds hZ h; exact wpIn_ret ⟨.ret, f, e, σ, h, rfl, hS, hF, hL, hN, hds, hZ⟩
  | region id ops draw =>
    intro C ro e0 σ0 w0 N ds n hC hM hok ks t0 hks Q e σ w a f hS hF hL hN hds hZ h
    simp only [codeOK, Bool.and_eq_true] at hok
    have hd : ∀ o, o ∈ ops → ∀ d, o.dst = some d → d < N ∧ ∀ t v, Kept ks t0 t → Kept ks t0 (t.setIfInBounds d v) := fun o ho d hod =>
      ⟨opsOK_spec hok.1 o (Array.mem_def.1 ho) d hod, fun t v hk => hk.set (writesOps_spec hks o (Array.mem_def.1 ho) d hod) v⟩
    cases draw with
    | false =>
      refine wpIn_region ?_
      have := pops_sound (ro := ro) (n := n) hC hd ops.toList 0 (fun j => by simp) hS hF hL hN hds hZ h
      rw [List.range_eq_range']
      simpa using this
    | true =>
      refine wpIn_region_any hmix ?_
      have hdr : drawOK ops.toList = true := by simpa using hok.2
      have hL' : Later e0 σ0 w0 e σ { w with drawn := w.drawn + 1 } := hL.trans { Later.refl e σ w with }
      have hst : Stepped e σ w e σ { w with drawn := w.drawn + 1 } := { Stepped.refl e σ w with }
      have hS' : SRel G e σ { w with drawn := w.drawn + 1 } := { hS with box := fun i x hx => (hS.box i x hx).step hst rfl }
      exact draw_sound hC.calm hM hd hdr hS' (hF.step hst) hL' hN (hds.later hst.toLater) hZ h
  | seq x y ihx ihy =>
    intro C ro e0 σ0 w0 N ds n hC hM hok ks t0 hks Q e σ w a f hS hF hL hN hds hZ h
    simp only [codeOK, Bool.and_eq_true] at hok
    simp only [noWrite, Bool.and_eq_true] at hks
    exact wpIn_seq (wpIn_mono (ihx hC hM hok.1 ks t0 hks.1 _ hS hF hL hN hds hZ h) (seq_post fun Q {e σ w a f} => ihy hC hM hok.2 ks t0 hks.2 Q))
  | cond c x y ihx ihy =>
    intro C ro e0 σ0 w0 N ds n hC hM hok ks t0 hks Q e σ w a f hS hF hL hN hds hZ h
    simp only [codeOK, Bool.and_eq_true] at hok
    simp only [noWrite, Bool.and_eq_true] at hks
    simp only [W] at h
    have hv := ev_rel hF c
    split at h
    · rename_i t hc
      rw [hc] at hv
      cases t with
      | true => exact wpIn_cond_true hv.dbool (ihx hC hM hok.1 ks t0 hks.1 _ hS hF hL hN hds hZ h)
      | false => exact wpIn_cond_false hv.dbool (ihy hC hM hok.2 ks t0 hks.2 _ hS hF hL hN hds hZ h)
    · exact h.elim
  | block id b ih =>
    intro C ro e0 σ0 w0 N ds n hC hM hok ks t0 hks Q e σ w a f hS hF hL hN hds hZ h
    exact wpIn_block (wpIn_mono (ih hC hM hok ks t0 hks _ hS hF hL hN hds hZ h) block_post)
  | scope b ih =>
    intro C ro e0 σ0 w0 N ds n hC hM hok ks t0 hks Q e σ w a f hS hF hL hN hds hZ h
    exact wpIn_scope (wpIn_mono (ih hC hM hok ks t0 hks _ hS hF hL hN hds hZ h) scope_post)
  | loop b ih =>
    intro C ro e0 σ0 w0 N ds n hC hM hok ks t0 hks Q e σ w a f hS hF hL hN hds hZ h
    simp only [W] at h
    generalize C.loop (keyOf b) = A at h
    split at h
    · rename_i m0 _
      generalize m0 + 1 = m at h
      let J : Nat → Frame → St → Act → World → Prop := fun k f1 σ1 a1 w1 => ∃ e1, unroll (fun Q f σ => W C b Q f σ) Q k f1 σ1 ∧ SRel G e1 σ1 w1 ∧ FRel G e1 σ1 w1 f1 a1.tmps ∧ Later e σ w e1 σ1 w1 ∧ a1.tmps.size = N ∧ Marks ds e1 σ1 w1 a1.defers ∧ Kept ks a.tmps a1.tmps
      let In : Act → World → Prop := fun a1 w1 => ∃ k f1 σ1, J k f1 σ1 a1 w1
      let Mu : Act → World → Nat → Prop := fun a1 w1 m => ∃ f1 σ1, J m f1 σ1 a1 w1
      have least : ∀ a1 w1, In a1 w1 → ∃ m, Mu a1 w1 m ∧ ∀ m', Mu a1 w1 m' → m ≤ m' := fun a1 w1 ⟨k, f1, σ1, hJ⟩ => by
        have : ∀ m, Mu a1 w1 m → ∃ m, Mu a1 w1 m ∧ ∀ m', Mu a1 w1 m' → m ≤ m' := by
          intro m
          induction m using Nat.strongRecOn with
          | _ m ihm =>
            intro hm
            by_cases hex : ∃ m', m' < m ∧ Mu a1 w1 m'
            · obtain ⟨m', h1, h2⟩ := hex; exact ihm m' h1 h2
            · exact ⟨m, hm, fun m' hm' => Nat.le_of_not_lt fun hlt => hex ⟨m', hlt, hm'⟩⟩
        exact this _ ⟨f1, σ1, hJ⟩
      classical
      let mu : Act → World → Nat := fun a1 w1 => if hh : ∃ m, Mu a1 w1 m ∧ ∀ m', Mu a1 w1 m' → m ≤ m' then Classical.choose hh else 0
      have hmu : ∀ a1 w1, In a1 w1 → Mu a1 w1 (mu a1 w1) ∧ ∀ m', Mu a1 w1 m' → mu a1 w1 ≤ m' := fun a1 w1 hIn => by
        have hh := least a1 w1 hIn
        simp only [mu, dif_pos hh]
        exact Classical.choose_spec hh
      refine wpIn_loop In mu ⟨m, f, σ, e, h, hS, hF, Later.refl e σ w, hN, hds, fun i _ => rfl⟩ ?_
      intro a1 w1 hIn
      obtain ⟨⟨f2, σ2, ⟨e2, hU, hS2, hF2, hL2, hN2, hds2, hK2⟩⟩, _⟩ := hmu a1 w1 hIn
      generalize hmm : mu a1 w1 = mm at hU
      cases mm with
      | zero => exact hU.elim
      | succ mm =>
        simp only [unroll] at hU
        have hb := ih (n := n) (hC.later hL) hM hok ks a.tmps hks _ hS2 hF2 hL2 hN2 hds2 hK2 hU
        refine wpIn_mono hb fun x a' w' hp => ?_
        obtain ⟨pe, f', e', σ', hq, hx, h1, h2, h3, h4, h5, h6⟩ := hp
        have hk6 : Kept ks t0 a'.tmps := fun i hi => (h6 i hi).trans (hZ i hi)
        cases pe with
        | normal =>
          obtain rfl : x = .normal := hx
          have hJ : J mm f' σ' a' w' := ⟨e', hq, h1, h2, h3, h4, h5, h6⟩
          have hIn' : In a' w' := ⟨mm, f', σ', hJ⟩
          refine ⟨hIn', ?_⟩
          have := (hmu a' w' hIn').2 _ ⟨f', σ', hJ⟩
          exact Nat.lt_succ_of_le this
        | exit id => obtain rfl : x = .exit id := hx; exact ⟨.exit id, f', e', σ', hq, rfl, h1, h2, hL.trans h3, h4, h5, hk6⟩
        | goto l => obtain rfl : x = .goto l := hx; exact ⟨.goto l, f', e', σ', hq, rfl, h1, h2, hL.trans h3, h4, h5, hk6⟩
        | ret => obtain rfl : x = .ret := hx; exact ⟨.ret, f', e', σ', hq, rfl, h1, h2, hL.trans h3, h4, h5, hk6⟩
        | panic p => obtain ⟨v, rfl, hv⟩ := hx; exact ⟨.panic p, f', e', σ', hq, ⟨v, rfl, hv⟩, h1, h2, hL.trans h3, h4, h5, hk6⟩
    have key : ∀ A : LoopAnn, noWrite A.keep b = true → (nrmSt σ.bx.length (A.live.map f) σ fun vs σ0 => A.I vs σ0 ∧
        ∀ vs σ1, A.I vs σ1 → W C b (fun e f' σ' => match e with
          | .normal => nrmSt σ1.bx.length (A.live.map f') σ' fun vs' σ'' => A.I vs' σ'' ∧ A.μ vs' σ'' < A.μ vs σ1
          | e => Q e f' σ') (fsets (keepF f A.keep) A.live vs) σ1) → (Code.loop b).wpIn (fw ro) n G.P (PostOf G e0 σ0 w0 ds N (Kept ks t0) Q) a w := fun A hkeep h => by
      obtain ⟨vs0, σ1, e1, ⟨hI, hround⟩, hS1, hdrop, hlen, hvs⟩ := nrmSt_ex hS h
      have hkeepRel : ∀ {e' : Env} {σ' : St} {w' : World} {tm : Array Value}, Later e σ w e' σ' w' → Kept (ks ++ A.keep) a.tmps tm → ∀ i, i ∈ A.keep → VRel G e' σ' w' (clean (f i)) (tm.getD i Go.undef) := fun {e' σ' w' tm} hl hk i hi => by
        rw [hk i (List.mem_append.2 (.inr hi))]
        exact VRel.clean hl.len hl.beta hl.pres (hF i) (hF i).bnd
      have hlive : ∀ (f' : Frame) (tm : Array Value) (vs' : List PV) {e' : Env} {σ' : St} {w' : World} {e'' : Env} {σ'' : St}, FRel G e' σ' w' f' tm → (∀ (i : Nat) (x y : PV) (u : Value), (A.live.map f')[i]? = some x → vs'[i]? = some y → VRel G e' σ' w' x u → VRel G e'' σ'' w' y u) →
          ∀ (k i : Nat) (x : PV), A.live[k]? = some i → vs'[k]? = some x → VRel G e'' σ'' w' x (tm.getD i Go.undef) := fun f' tm vs' {e' σ' w' e'' σ''} hf hv k i x h1 h2 =>
        hv k (f' i) x _ (by rw [List.getElem?_map, h1]; rfl) h2 (hf i)
      let J : List PV → St → Act → World → Prop := fun vs σ1 a1 w1 => ∃ e1, A.I vs σ1 ∧ SRel G e1 σ1 w1 ∧ FRel G e1 σ1 w1 (fsets (keepF f A.keep) A.live vs) a1.tmps ∧ Later e σ w e1 σ1 w1 ∧ a1.tmps.size = N ∧ Marks ds e1 σ1 w1 a1.defers ∧ Kept (ks ++ A.keep) a.tmps a1.tmps
      let In : Act → World → Prop := fun a1 w1 => ∃ vs σ1, J vs σ1 a1 w1
      let Mu : Act → World → Nat → Prop := fun a1 w1 m => ∃ vs σ1, J vs σ1 a1 w1 ∧ A.μ vs σ1 = m
      have least : ∀ a1 w1, In a1 w1 → ∃ m, Mu a1 w1 m ∧ ∀ m', Mu a1 w1 m' → m ≤ m' := fun a1 w1 ⟨vs, σ1, hJ⟩ => by
        have : ∀ m, Mu a1 w1 m → ∃ m, Mu a1 w1 m ∧ ∀ m', Mu a1 w1 m' → m ≤ m' := by
          intro m
          induction m using Nat.strongRecOn with
          | _ m ihm =>
            intro hm
            by_cases hex : ∃ m', m' < m ∧ Mu a1 w1 m'
            · obtain ⟨m', h1, h2⟩ := hex; exact ihm m' h1 h2
            · exact ⟨m, hm, fun m' hm' => Nat.le_of_not_lt fun hlt => hex ⟨m', hlt, hm'⟩⟩
        exact this _ ⟨vs, σ1, hJ, rfl⟩
      classical
      let mu : Act → World → Nat := fun a1 w1 => if hh : ∃ m, Mu a1 w1 m ∧ ∀ m', Mu a1 w1 m' → m ≤ m' then Classical.choose hh else 0
      have hmu : ∀ a1 w1, In a1 w1 → Mu a1 w1 (mu a1 w1) ∧ ∀ m', Mu a1 w1 m' → mu a1 w1 ≤ m' := fun a1 w1 hIn => by
        have hh := least a1 w1 hIn
        simp only [mu, dif_pos hh]
        exact Classical.choose_spec hh
      have hL1 : Later e σ w e1 σ1 w := (Later.refl e σ w).drop hdrop (Nat.le_refl _)
      have hKept0 : Kept (ks ++ A.keep) a.tmps a.tmps := fun i _ => rfl
      refine wpIn_loop In mu ⟨vs0, σ1, e1, hI, hS1, ?_, hL1, hN, hds.drop hdrop, hKept0⟩ ?_
      · exact fsets_rel (keepF_rel (hkeepRel hL1 hKept0)) (hlive f a.tmps vs0 hF hvs)
      · intro a1 w1 hIn
        obtain ⟨⟨vs, σ2, ⟨e2, hI2, hS2, hF2, hL2, hN2, hds2, hK2⟩, hm⟩, _⟩ := hmu a1 w1 hIn
        have hb := ih (n := n) (hC.later hL) hM hok (ks ++ A.keep) a.tmps (noWrite_append hks hkeep) _ hS2 hF2 hL2 hN2 hds2 hK2 (hround vs σ2 hI2)
        refine wpIn_mono hb fun x a' w' hp => ?_
        obtain ⟨pe, f', e', σ', hq, hx, h1, h2, h3, h4, h5, h6⟩ := hp
        have hk6 : Kept ks t0 a'.tmps := fun i hi => (h6 i (List.mem_append.2 (.inl hi))).trans (hZ i hi)
        cases pe with
        | normal =>
          obtain rfl : x = .normal := hx
          obtain ⟨vs', σ3, e3, ⟨hI3, hlt⟩, hS3, hdrop3, hlen3, hvs3⟩ := nrmSt_ex h1 hq
          have hL3 : Later e σ w e3 σ3 w' := h3.drop hdrop3 hL2.len
          have hJ : J vs' σ3 a' w' := ⟨e3, hI3, hS3, fsets_rel (keepF_rel (hkeepRel hL3 h6)) (hlive f' a'.tmps vs' h2 hvs3), hL3, h4, h5.drop hdrop3, h6⟩
          have hIn' : In a' w' := ⟨vs', σ3, hJ⟩
          refine ⟨hIn', ?_⟩
          have := (hmu a' w' hIn').2 _ ⟨vs', σ3, hJ, rfl⟩
          rw [← hm]
          exact Nat.lt_of_le_of_lt this hlt
        | exit id => obtain rfl : x = .exit id := hx; exact ⟨.exit id, f', e', σ', hq, rfl, h1, h2, hL.trans h3, h4, h5, hk6⟩
        | goto l => obtain rfl : x = .goto l := hx; exact ⟨.goto l, f', e', σ', hq, rfl, h1, h2, hL.trans h3, h4, h5, hk6⟩
        | ret => obtain rfl : x = .ret := hx; exact ⟨.ret, f', e', σ', hq, rfl, h1, h2, hL.trans h3, h4, h5, hk6⟩
        | panic p => obtain ⟨v, rfl, hv⟩ := hx; exact ⟨.panic p, f', e', σ', hq, ⟨v, rfl, hv⟩, h1, h2, hL.trans h3, h4, h5, hk6⟩
    split at h
    · rename_i hkeep
      split at h
      · exact key _ hkeep h
      · exact key (A.tied f) hkeep h
    · exact h.elim
  | rangeFunc g ps asg body iha ihb =>
    intro C ro e0 σ0 w0 N ds n hC hM hok ks t0 hks Q e σ w a f hS hF hL hN hds hZ h
    simp only [codeOK, Bool.and_eq_true] at hok
    simp only [W] at h
    split at h
    · rename_i gid first caps hg
      have hv := ev_rel hF g
      rw [hg] at hv
      generalize hgv : a.eval g = gv at hv
      cases hv with
      | func _ _ _ va vc ha hc h1 h2 =>
      have hro : ro = none := by
        rcases hC.out with h0 | h0
        · exact h0
        · exact absurd (h 0 default) (h0 _ _ _ _ _)
      subst hro
      refine wpIn_rangeFunc fun fn _ => ?_
      have hMi : CxMono C.inner.calm := ⟨hM.one, hM.call, hM.raw⟩
      let rec0 : Loop := { state := .ready, pending := none, fn, tmps := a.tmps, params := ps, assign := asg, body, defers := w.heap.size }
      let wA := w.alloc (.deferred (some []))
      have hgA : Grows w wA := Grows.alloc w _
      have hSA : SRel G e σ wA := hS.grow hgA
      have hstA : Stepped e σ w e σ wA := hgA.stepped e σ
      have hdsA : Marks ds e σ wA (markOf w.heap.size :: a.defers) := hds.push hS
      have hsz : wA.heap.size = w.heap.size + 1 := by simp [wA]
      obtain ⟨hst1, hS1, _⟩ := alloc_box hSA (.loop .ready none rec0) (.loop rec0) (fun _ _ _ _ hh => hh)
      have hβ1 : (e.more σ.bx.length wA.heap.size).β σ.bx.length = w.heap.size + 1 := by simp [Env.more, hsz]
      have hit := h (w.heap.size + 1) rec0
      obtain ⟨hent, hcall⟩ := hC.iter _ _ _ _ _ hit
      have hargs1 : ArgsRel G (e.more σ.bx.length wA.heap.size) (σ.new (.loop .ready none rec0)) (wA.alloc (.loop rec0)) (first ++ .raw (.func (.yield (w.heap.size + 1)) #[] #[]) :: caps) (va ++ #[.func (.yield (w.heap.size + 1)) #[] #[]] ++ vc) := by
        rw [List.append_cons]
        refine (ArgsRel.append (ArgsRel.append ⟨ha, fun i x u hx hu => ((h1 i x u hx hu).step hstA).step hst1⟩ ⟨rfl, fun i x u hx hu => ?_⟩) ⟨hc, fun i x u hx hu => ((h2 i x u hx hu).step hstA).step hst1⟩)
        match i with
        | 0 => cases hx; cases hu; exact .raw _
        | n + 1 => cases hx
      have hL1 : Later e σ w (e.more σ.bx.length wA.heap.size) (σ.new (.loop .ready none rec0)) (wA.alloc (.loop rec0)) := hstA.toLater.trans hst1.toLater
      have hlen1 : σ.bx.length < (σ.new (.loop .ready none rec0)).bx.length := by rw [St.new_len]; omega
      refine ⟨w.heap.size + 1, [markOf w.heap.size], wA.alloc (.loop rec0), { target := .fn (.func gid) vc, args := va ++ #[.func (.yield (w.heap.size + 1)) #[] #[]] }, wA.alloc (.loop rec0), gid, va ++ #[.func (.yield (w.heap.size + 1)) #[] #[]] ++ vc, wA.alloc (.loop rec0),
        run_enterLoop_outer fn a.tmps ps asg body, ?_, fun _ _ => trivial, ?_, fun hh => by simp [fw] at hh, ?_⟩
      · show (Deferred.ofValue (a.eval g) _).run _ _ = _
        rw [hgv]
        simp [Deferred.ofValue, rangeCall, Act.eval]
      · simp only [invoke]; exact hent _ _
      · refine (hcall (n - 1) _ _ _ hS1 hargs1 ?_).mono fun en w3 hA => ?_
        · -- a round
          intro v args σ' K hr
          obtain ⟨rfl, hbx, hal, hWA⟩ := hr
          refine ⟨w.heap.size + 1, rfl, fun ro n e' w' vs hS' hL' ha' => ?_⟩
          have hi' : σ.bx.length < σ'.bx.length := (List.getElem?_eq_some_iff.1 hbx).1
          have hβ' : e'.β σ.bx.length = w.heap.size + 1 := (hL'.beta _ hlen1).trans hβ1
          have hheap : w'.heap[w.heap.size + 1]? = some (.loop rec0) := by have := hS'.box _ _ hbx; rw [hβ'] at this; exact this
          have hvs : vs.size = rec0.params.size := by rw [ha'.1, hal]; simp [rec0]
          refine ⟨_, _, _, _, run_yield hheap hvs, ?_⟩
          have hF0 : FRel G e' σ' w' (cleanF f) a.tmps := hF.clean (hL1.trans hL')
          have hps : ∀ p ∈ ps.toList, p < a.tmps.size := fun p hp => by
            have := List.all_eq_true.1 hok.1.1 p hp
            rw [hN]; exact Nat.le_of_ble_eq_true this
          have hfold : (rec0.params.zip vs).foldl (fun tmps (x : Nat × Value) => tmps.setIfInBounds x.1 x.2) rec0.tmps = (ps.toList.zip vs.toList).foldl (fun tmps (x : Nat × Value) => tmps.setIfInBounds x.1 x.2) a.tmps := by
            rw [← Array.foldl_toList, Array.toList_zip]
          obtain ⟨hF1, hsz1⟩ := fputs_rel (ps := ps.toList) (args := args) (vs := vs.toList) hF0 (by simpa using ha'.1) (fun i x u hx hu => ha'.2 i x u hx (by simpa using hu)) hps
          refine roundIn_of_wpIn trivial ?_
          have hCr : CxOK G C.inner (some (w.heap.size + 1)) e' σ' w' := ⟨hC.tab, hC.call, hC.raw.later (hL.trans (hL1.trans hL')), fun _ _ _ _ _ hh => hh.elim, .inr fun _ _ _ _ _ hh => hh⟩
          have hwa := iha (n := n) (ds := 0) hCr hMi hok.1.2 [] #[] (noWrite_nil _) _ (a := { tmps := (rec0.params.zip vs).foldl (fun tmps (x : Nat × Value) => tmps.setIfInBounds x.1 x.2) rec0.tmps, defers := [] }) hS' (by rw [hfold]; exact hF1) (Later.refl _ _ _) (by rw [hfold]; exact hsz1.trans hN) (Marks.nil _ _ (Nat.zero_le _)) (fun i hi => by cases hi) hWA
          refine wpIn_mono hwa fun x1 a1 w1 hp => ?_
          obtain ⟨pe, f1, e1, σ1, hq, hx, k1, k2, k3, k4, k5, k6⟩ := hp
          cases pe with
          | normal =>
            obtain rfl : x1 = .normal := hx
            obtain ⟨hb1, hWB⟩ := hq
            obtain ⟨hst2, hS2⟩ := put_loop (st' := .busy) (pd' := none) k1 hb1
            have hβ1' : e1.β σ.bx.length = w.heap.size + 1 := (k3.beta _ hi').trans hβ'
            have hheap1 : w1.heap[w.heap.size + 1]? = some (.loop rec0) := by have := k1.box _ _ hb1; rw [hβ1'] at this; exact this
            refine ⟨_, run_beginRound hheap1 rfl, ?_⟩
            rw [hβ1'] at hst2 hS2
            have hwb := ihb (n := n) (ds := 0) (hCr.later (k3.trans hst2.toLater)) hMi hok.2 [] #[] (noWrite_nil _) _ hS2 (k2.step hst2) (Later.refl _ _ _) k4 (k5.later hst2.toLater) (fun i hi => by cases hi) hWB
            refine wpIn_mono hwb fun x2 a2 w2 hp2 => ?_
            obtain ⟨pe2, f2, e2, σ2, hq2, hx2, m1, m2, m3, m4, m5, m6⟩ := hp2
            have hl2 : σ.bx.length < (σ1.set σ.bx.length (.loop .busy none rec0)).bx.length := by simp only [St.set, List.length_set]; exact (List.getElem?_eq_some_iff.1 hb1).1
            have hβ2 : e2.β σ.bx.length = w.heap.size + 1 := (m3.beta _ hl2).trans hβ1'
            have hL2 : Later e' σ' w' e2 σ2 w2 := (k3.trans hst2.toLater).trans m3
            have fin : ∀ (jump : Option Code), endR σ.bx.length rec0 (if jump.isNone then .ready else .done) jump jump.isNone σ2 K → ∃ v w'', (Instr.endRound (w.heap.size + 1) jump).run G.P w2 = .ok v w'' ∧ AfterL G e' σ' w' K (.returned v) w'' := fun jump hq => by
              obtain ⟨hbx2, hK⟩ := hq
              have hheap2 : w2.heap[w.heap.size + 1]? = some (.loop { rec0 with state := .busy, pending := none }) := by have := m1.box _ _ hbx2; rw [hβ2] at this; exact this
              have hst5 := put_loop (st' := if jump.isNone then .ready else .done) (pd' := jump) m1 hbx2
              rw [hβ2] at hst5
              exact ⟨_, _, run_endRound jump hheap2, _, _, e2, hK, ⟨_, rfl, .mkbool⟩, hst5.2, hL2.trans hst5.1.toLater⟩
            cases pe2 with
            | normal => obtain rfl : x2 = .normal := hx2; exact fin none hq2
            | ret => obtain rfl : x2 = .ret := hx2; exact fin (some .ret) hq2
            | exit id => obtain rfl : x2 = .exit id := hx2; exact fin (some (.exit id)) hq2
            | goto t => obtain rfl : x2 = .goto t := hx2; exact fin (some (.goto t)) hq2
            | panic p => exact hq2.elim
          | exit id => exact hq.elim
          | goto t => exact hq.elim
          | ret => exact hq.elim
          | panic p => exact hq.elim
        · -- behind the loop
          obtain ⟨pe, σ3, e3, hk, hE, hS3, hL3⟩ := hA
          have hLs := hL1.trans hL3
          have hds3 : Marks ds e3 σ3 w3 (markOf w.heap.size :: a.defers) := (hdsA.later hst1.toLater).later hL3
          have hβ3 : e3.β σ.bx.length = w.heap.size + 1 := (hL3.beta _ hlen1).trans hβ1
          cases pe with
          | panic p =>
            obtain ⟨u, rfl, hr⟩ := hE
            exact ⟨.panic p, _, e3, σ3, hk, ⟨u, rfl, hr⟩, hS3, fun i => .undef _, hL.trans hLs, hN, hds3, hZ⟩
          | ret p =>
            obtain ⟨u, rfl, hr⟩ := hE
            unfold rangeEnd at hk
            simp only at hk
            split at hk
            · rename_i st pd r hbx
              have hheap : w3.heap[w.heap.size + 1]? = some (.loop { r with state := st, pending := pd }) := by have := hS3.box _ _ hbx; rw [hβ3] at this; exact this
              have hst4 := put_loop (st' := .exhausted) (pd' := pd) hS3 hbx
              rw [hβ3] at hst4
              obtain ⟨hst4, hS4⟩ := hst4
              have hpost : ∀ (pe : PExit) (x : Exit), Q pe (cleanF f) (σ3.set σ.bx.length (.loop .exhausted pd r)) → ExRel G e3 (σ3.set σ.bx.length (.loop .exhausted pd r)) (w3.putObj (w.heap.size + 1) (.loop { r with state := .exhausted, pending := pd })) pe x →
                  PostOf G e0 σ0 w0 ds N (Kept ks t0) Q x { a with defers := [markOf w.heap.size] ++ a.defers } (w3.putObj (w.heap.size + 1) (.loop { r with state := .exhausted, pending := pd })) := fun pe x hq hx =>
                ⟨pe, _, e3, _, hq, hx, hS4, hF.clean (hLs.trans hst4.toLater), hL.trans (hLs.trans hst4.toLater), hN, hds3.later hst4.toLater, hZ⟩
              have hend : ∀ (hb : st ≠ .busy), (Instr.endLoop (w.heap.size + 1)).run G.P w3 = .ok pd (w3.putObj (w.heap.size + 1) (.loop { r with state := .exhausted, pending := pd })) := fun hb => run_endLoop hheap hb
              have go : st ≠ .busy → jumpTo σ.bx.length r (cleanF f) Q σ3 pd → rangePost (fw none) n G.P (w.heap.size + 1) (PostOf G e0 σ0 w0 ds N (Kept ks t0) Q) { a with defers := [markOf w.heap.size] ++ a.defers } (.returned u) w3 := fun hb hq => by
                refine ⟨pd, _, hend hb, ?_⟩
                unfold jumpTo at hq
                split at hq
                · exact hpost .normal .normal hq rfl
                · exact wpIn_ret (hpost .ret .ret hq rfl)
                · rename_i id; exact wpIn_exit (hpost (.exit id) (.exit id) hq rfl)
                · rename_i t; exact wpIn_goto (hpost (.goto t) (.goto t) hq rfl)
                · exact hq.elim
              cases st with
              | busy => exact hk.elim
              | ready => exact go (by simp) hk
              | done => exact go (by simp) hk
              | exhausted => exact go (by simp) hk
            · exact hk.elim
    · exact h.elim
  | _ => intro C ro e0 σ0 w0 N ds n hC hM _ ks t0 _ Q e σ w a f hS hF hL hN hds hZ h; exact h.elim
end
end Go.PM
