/-
  THE PURE LOGIC, 14: a table of contracts; a function's contract out of its body.
-/
import Derived.Test.YtodfhajjdfbhgaaDoorPmCall
set_option linter.unusedVariables false
set_option linter.unusedSimpArgs false
set_option linter.all false
namespace Go.PM

abbrev Tbl := List (Nat × Spec)
def Tbl.find : Tbl → Nat → List PV → St → (PEnd → St → Prop) → Prop
  | [], _, _, _, _ => False
  | (g, sp) :: l, n, args, σ, K => match Nat.beq g n with
    | true => viaCall sp args σ K
    | false => Tbl.find l n args σ K
def TblOK (G : GE) : Tbl → Prop
  | [] => True
  | (g, sp) :: l => (PCalls G g sp ∧ SpecMono sp) ∧ TblOK G l
theorem TblOK.sem {G : GE} : ∀ {l : Tbl}, TblOK G l → CallSem G (Tbl.find l)
  | [], _ => fun _ _ _ _ h => h.elim
  | (g, sp) :: l, ⟨⟨h1, _⟩, h2⟩ => fun n args σ K h => by
    simp only [Tbl.find] at h
    split at h
    · rename_i hb
      cases Nat.eq_of_beq_eq_true hb
      exact viaCall_sound h1 h
    · exact TblOK.sem h2 n args σ K h
theorem TblOK.mono {G : GE} : ∀ {l : Tbl}, TblOK G l → ∀ n args σ (K K' : PEnd → St → Prop), (∀ e σ, K e σ → K' e σ) → Tbl.find l n args σ K → Tbl.find l n args σ K'
  | [], _ => fun _ _ _ _ _ _ h => h.elim
  | (g, sp) :: l, ⟨⟨_, h1⟩, h2⟩ => fun n args σ K K' hK h => by
    simp only [Tbl.find] at h ⊢
    split at h
    · exact viaCall_mono h1 _ _ _ _ hK h
    · exact TblOK.mono h2 n args σ K K' hK h
def noRaw : Value → List PV → St → (PEnd → St → Prop) → Prop := fun _ _ _ _ => False
abbrev Raw := Value → List PV → St → (PEnd → St → Prop) → Prop
abbrev Iter := FuncId → List PV → Raw → St → (PEnd → St → Prop) → Prop
def noIter : Iter := fun _ _ _ _ _ => False
def noLoop : LoopAnn := ⟨[], [], fun _ _ => False, fun _ _ => 0⟩
/-- A loop's annotation, by the number of its body's first region. -/
def loopsOf : List (Nat × LoopAnn) → Nat → LoopAnn
  | [], _ => noLoop
  | (k, a) :: l, n => match Nat.beq k n with | true => a | false => loopsOf l n
def ctx (T : Tab) (tbl : Tbl) (loops : Nat → LoopAnn) : Cx := ⟨T, Tbl.find tbl, noRaw, noIter, loops, fun _ => 0, fun _ => false⟩
def ctxI (T : Tab) (tbl : Tbl) (it : Iter) (loops : Nat → LoopAnn) : Cx := ⟨T, Tbl.find tbl, noRaw, it, loops, fun _ => 0, fun _ => false⟩
/-- Likewise, some loops gone through round by round. -/
def ctxU (T : Tab) (tbl : Tbl) (it : Iter) (loops : Nat → LoopAnn) (unr : Nat → Nat) (ties : Nat → Bool) : Cx := ⟨T, Tbl.find tbl, noRaw, it, loops, unr, ties⟩
def tieOf : List Nat → Nat → Bool
  | [], _ => false
  | k :: l, n => match Nat.beq k n with | true => true | false => tieOf l n
def unrOf : List (Nat × Nat) → Nat → Nat
  | [], _ => 0
  | (k, a) :: l, n => match Nat.beq k n with | true => a | false => unrOf l n
/-- A function that is ranged over, walked in place. -/
def iterOf (T : Tab) (tbl : Tbl) (it : Iter) (gid : FuncId) (fn : Func) (loops : Nat → LoopAnn) : Iter := fun g args raw σ K => match Nat.beq gid g with
  | true => Nat.ble args.length fn.ntmps = true ∧ W ⟨T, Tbl.find tbl, raw, it, loops, fun _ => 0, fun _ => false⟩ (bodyOf fn) (fun e f σ' => match e with
      | .normal | .ret => pres T f σ'.bx fn.results.toList fun vs => K (.ret (oneOf vs)) σ'
      | .panic v => K (.panic v) σ'
      | _ => False) (argF 0 args) σ
  | false => False
theorem noIter_sem {G : GE} : IterSem G noIter := fun _ _ _ _ _ h => h.elim
theorem iterOf_sem {G : GE} {T : Tab} {tbl : Tbl} (hT : TabOK T G.P) (hmix : G.P.follows .mixedOrders = true) (ht : TblOK G tbl) {it : Iter} (hit : IterSem G it) {gid : FuncId} {fn : Func} {c : Code} (hf : G.P.funcs[gid]? = some fn) (hb : fn.body = some c) (hname : (fn.name == "runtime.NumGoroutine") = false)
    (hok : codeOK fn.ntmps c = true) (loops : Nat → LoopAnn) : IterSem G (iterOf T tbl it gid fn loops) := fun g args raw σ K h => by
  unfold iterOf at h
  split at h
  · rename_i hbq
    cases Nat.eq_of_beq_eq_true hbq
    refine ⟨enters_of hf hname hb, fun n e w vs hS hargs hraw => ?_⟩
    have hbo : bodyOf fn = c := by simp [bodyOf, hb]
    rw [hbo] at h
    have presM : ∀ {T : Tab} {f : Frame} {bx : List Box} {l : List ResultVar} {K K' : List PV → Prop}, (∀ vs, K vs → K' vs) → pres T f bx l K → pres T f bx l K' := by
      intro T f bx l
      induction l with
      | nil => exact fun hK h => hK _ h
      | cons r l ih =>
        intro K K' hK h
        cases r with
        | tmp t => simp only [pres, force_eq] at h ⊢; exact ih (fun vs h => hK _ h) h
        | cell a t =>
          simp only [pres] at h ⊢
          obtain ⟨v, h1, h2⟩ := pload_ex h
          refine h2 _ ?_
          rw [force_eq] at h1 ⊢
          exact ih (fun vs h => hK _ h) h1
    refine calls_of_WF hmix (C := ⟨T, Tbl.find tbl, raw, it, loops, fun _ => 0, fun _ => false⟩) ⟨hT, ht.sem, hraw, hit, .inl rfl⟩ ⟨fun _ h1 h2 => hT.one h1 h2, ht.mono, fun _ _ _ _ h => h.elim⟩ hf hb hok (Nat.le_of_ble_eq_true h.1) h.2 (fun pe f' σ' hq => ?_) hS hargs
    cases pe with
    | normal => exact presM (fun vs hK e' w' v h1 h2 h3 => ⟨.ret (oneOf vs), σ', e', hK, ⟨v, rfl, h2⟩, h1, h3⟩) hq
    | ret => exact presM (fun vs hK e' w' v h1 h2 h3 => ⟨.ret (oneOf vs), σ', e', hK, ⟨v, rfl, h2⟩, h1, h3⟩) hq
    | panic p => exact fun e' w' v h1 h2 h3 => ⟨.panic p, _, e', hq, ⟨v, rfl, h2⟩, h1, h3⟩
    | exit id => exact hq.elim
    | goto l => exact hq.elim
  · exact h.elim
/-- Two that are ranged over. -/
def orIter (a b : Iter) : Iter := fun g args raw σ K => a g args raw σ K ∨ b g args raw σ K
theorem orIter_sem {G : GE} {a b : Iter} (ha : IterSem G a) (hb : IterSem G b) : IterSem G (orIter a b) := fun g args raw σ K h => h.elim (ha g args raw σ K) (hb g args raw σ K)
/-- A function's contract. -/
theorem pcallsI {G : GE} {T : Tab} {tbl : Tbl} (hT : TabOK T G.P) (hmix : G.P.follows .mixedOrders = true) (ht : TblOK G tbl) {it : Iter} (hit : IterSem G it) {g : FuncId} {fn : Func} {c : Code} (hf : G.P.funcs[g]? = some fn) (hb : fn.body = some c) (hname : (fn.name == "runtime.NumGoroutine") = false)
    (hok : codeOK fn.ntmps c = true) {sp : Spec}
    (h : ∀ args σ K, sp args σ K → ∃ loops keep own, σ.bx.length ≤ keep ∧ args.length ≤ fn.ntmps ∧ WF (ctxI T tbl it loops) fn keep own args σ K) : PCalls G g sp where
  enters := enters_of hf hname hb
  calls := fun args σ K hs n e w vs hS ha => by
    obtain ⟨loops, keep, own, h1, h2, h3⟩ := h args σ K hs
    exact calls_of_WF' hmix (C := ctxI T tbl it loops) ⟨hT, ht.sem, fun _ _ _ _ h => h.elim, hit, .inl rfl⟩ ⟨fun _ h1 h2 => hT.one h1 h2, ht.mono, fun _ _ _ _ h => h.elim⟩ hf hb hok h1 h2 h3 hS ha
theorem pcallsU {G : GE} {T : Tab} {tbl : Tbl} (hT : TabOK T G.P) (hmix : G.P.follows .mixedOrders = true) (ht : TblOK G tbl) {it : Iter} (hit : IterSem G it) {g : FuncId} {fn : Func} {c : Code} (hf : G.P.funcs[g]? = some fn) (hb : fn.body = some c) (hname : (fn.name == "runtime.NumGoroutine") = false)
    (hok : codeOK fn.ntmps c = true) {sp : Spec}
    (h : ∀ args σ K, sp args σ K → ∃ loops unr ties keep own, σ.bx.length ≤ keep ∧ args.length ≤ fn.ntmps ∧ WF (ctxU T tbl it loops unr ties) fn keep own args σ K) : PCalls G g sp where
  enters := enters_of hf hname hb
  calls := fun args σ K hs n e w vs hS ha => by
    obtain ⟨loops, unr, ties, keep, own, h1, h2, h3⟩ := h args σ K hs
    exact calls_of_WF' hmix (C := ctxU T tbl it loops unr ties) ⟨hT, ht.sem, fun _ _ _ _ h => h.elim, hit, .inl rfl⟩ ⟨fun _ h1 h2 => hT.one h1 h2, ht.mono, fun _ _ _ _ h => h.elim⟩ hf hb hok h1 h2 h3 hS ha
theorem pcallsN {G : GE} {T : Tab} {tbl : Tbl} (hT : TabOK T G.P) (hmix : G.P.follows .mixedOrders = true) (ht : TblOK G tbl) {g : FuncId} {fn : Func} {c : Code} (hf : G.P.funcs[g]? = some fn) (hb : fn.body = some c) (hname : (fn.name == "runtime.NumGoroutine") = false)
    (hok : codeOK fn.ntmps c = true) {sp : Spec}
    (h : ∀ args σ K, sp args σ K → ∃ loops unr ties keep own, σ.bx.length ≤ keep ∧ args.length ≤ fn.ntmps ∧ WF (ctxU T tbl noIter loops unr ties) fn keep own args σ K) : PCalls G g sp :=
  pcallsU hT hmix ht noIter_sem hf hb hname hok h
theorem pcalls {G : GE} {T : Tab} {tbl : Tbl} (hT : TabOK T G.P) (hmix : G.P.follows .mixedOrders = true) (ht : TblOK G tbl) {g : FuncId} {fn : Func} {c : Code} (hf : G.P.funcs[g]? = some fn) (hb : fn.body = some c) (hname : (fn.name == "runtime.NumGoroutine") = false)
    (hok : codeOK fn.ntmps c = true) {sp : Spec}
    (h : ∀ args σ K, sp args σ K → ∃ loops keep own, σ.bx.length ≤ keep ∧ args.length ≤ fn.ntmps ∧ WF (ctx T tbl loops) fn keep own args σ K) : PCalls G g sp :=
  pcallsI hT hmix ht noIter_sem hf hb hname hok h

/-! ### For the walks -/
theorem CondP.tt {X Y : Prop} (h : X) : CondP true X Y := h
theorem CondP.ff {X Y : Prop} (h : Y) : CondP false X Y := h
theorem CondP.dec {p : Prop} [Decidable p] {X Y : Prop} (h1 : p → X) (h2 : ¬ p → Y) : CondP (decide p) X Y := by
  by_cases h : p
  · simp only [h, decide_true]; exact h1 h
  · simp only [h, decide_false]; exact h2 h
theorem CondP.ndec {p : Prop} [Decidable p] {X Y : Prop} (h1 : ¬ p → X) (h2 : p → Y) : CondP (!decide p) X Y := by
  by_cases h : p
  · simp only [h, decide_true]; exact h2 h
  · simp only [h, decide_false]; exact h1 h
theorem InR.i64 {n : Int} (h1 : -9223372036854775808 ≤ n) (h2 : n ≤ 9223372036854775807) : InR .i64 n := by
  unfold InR IntKind.wrap
  simp only [show IntKind.i64.bits = 64 from rfl, show IntKind.i64.signed = true from rfl, Bool.true_and]
  split <;> simp at * <;> omega
theorem InR.i32 {n : Int} (h1 : -2147483648 ≤ n) (h2 : n ≤ 2147483647) : InR .i32 n := by
  unfold InR IntKind.wrap
  simp only [show IntKind.i32.bits = 32 from rfl, show IntKind.i32.signed = true from rfl, Bool.true_and]
  split <;> simp at * <;> omega
theorem InR.u8 {n : Int} (h1 : 0 ≤ n) (h2 : n ≤ 255) : InR .u8 n := by
  unfold InR IntKind.wrap
  simp only [show IntKind.u8.bits = 8 from rfl, show IntKind.u8.signed = false from rfl, Bool.false_and]
  simp; omega
theorem InR.u32 {n : Int} (h1 : 0 ≤ n) (h2 : n ≤ 4294967295) : InR .u32 n := by
  unfold InR IntKind.wrap
  simp only [show IntKind.u32.bits = 32 from rfl, show IntKind.u32.signed = false from rfl, Bool.false_and]
  simp; omega
theorem InR.u64 {n : Int} (h1 : 0 ≤ n) (h2 : n ≤ 18446744073709551615) : InR .u64 n := by
  unfold InR IntKind.wrap
  simp only [show IntKind.u64.bits = 64 from rfl, show IntKind.u64.signed = false from rfl, Bool.false_and]
  simp; omega
theorem K_of {K : PEnd → St → Prop} {p p' : PEnd} {σ σ' : St} (h : K p σ) (h1 : p = p') (h2 : σ = σ') : K p' σ' := by subst h1; subst h2; exact h
end Go.PM
