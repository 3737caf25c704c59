/- A part of the proof: plain logic, contracts and laws over the given program. -/
import Derived.Test.YtodfhajjdfbhgaaDoorQTop
import Derived.Test.YtodfhajjdfbhgaaDoorRows
import Derived.Test.YtodfhajjdfbhgaaDoorTie
import Derived.Test.YtodfhajjdfbhgaaDoorCards
import Derived.ProofKit
import Derived.OpenShut
import Derived.LaidMore
import Derived.Lay
import Derived.LaidSub
import Derived.SevenTiedAt
import Derived.Stop.Joined
import Derived.Stop.LaidErr
set_option linter.unusedVariables false
set_option linter.unusedSimpArgs false
set_option linter.all false
set_option maxRecDepth 100000
namespace Go
variable {H : Type} {enc : TypeId × Value → H}
/-- The plain wrap with a condition of the row's, the world's shape kept. -/
theorem returnsInHanded_and_shape {a : Assume} {C : Checked} {os : Os} {f : FuncId} {fn : Func} {s : ChangeSpec} {conds : List PathCond} {apart fresh handsOn again : Bool} {X : World → Array Value → Prop}
    (hX : ∀ (w w' : World) (args : Array Value), w.heap = w'.heap → X w args → X w' args)
    (own : ownKnob C.prog.godebug = none) (started : os.Started) (noInit : C.prog.inits.idxOf? f = none) (hfn : C.prog.funcs[f]? = some fn)
    (witness : ∃ (w : World) (tape : Tape) (i : Input), w.os = os ∧ (w.forCall tape i).Shaped C.prog ∧ i.vars = [] ∧ Input.okWide C.prog (w.forCall tape i) .any w.heap.size f i ∧
      ((s.pre enc C.prog fn conds apart (w.forCall tape i).memory i.args ∧ X (w.forCall tape i).memory i.args) ∧ sizedMet enc C.prog fn (OpenSpec.ofChange s) apart (w.forCall tape i).memory i.args) ∧ a.holds C.prog (lone (Frame.enter C.prog f i.args .normal) [] (w.forCall tape i)))
    (contract : ∀ (W : World) (base : Nat) (args : Array Value) (ds gs : List (DataW H)) (before : List MemPlace),
      (∀ (j : Nat) t v, fn.params[j]? = some t → args[j]? = some v → Value.okWide C.prog W .any base t v) →
      DataW.Whole enc C.prog fn.params.toList s.vars apart W args.toList ds gs before → X W args → W.ShapedOpen C.prog →
      Calls C.prog f args W fun e W' => ∃ v, e = .returned v ∧ s.post enc C.prog fn apart fresh handsOn again W args v W') :
    ReturnsInHanded a C os f .any (fun w args => (s.pre enc C.prog fn conds apart w args ∧ X w args) ∧ sizedMet enc C.prog fn (OpenSpec.ofChange s) apart w args) (s.post enc C.prog fn apart fresh handsOn again) := by
  refine returnsInHanded_of_calls own started noInit witness ?_
  intro w tape i _ hsh _ hok hpre hholds
  obtain ⟨_, _, _, fn', hfn', _, _, _, _, hval⟩ := hok
  have e : fn' = fn := Option.some.inj (hfn'.symm.trans hfn)
  subst e
  obtain ⟨⟨⟨ds, gs, before, hw, hc⟩, hx⟩, hz⟩ := hpre
  have hw' := DataW.Whole.of_heap (w' := w.forCall tape i) (by rfl) hw
  refine (contract (w.forCall tape i) w.heap.size i.args ds gs before hval hw' (hX _ _ _ (by rfl) hx) hsh).mono fun e W' ⟨v, he, hp⟩ => ?_
  subst he
  exact ChangeSpec.post_blind hp
end Go
namespace Go.PM.Lex
open Go.Proofs Go.Proofs.YtodfhajjdfbhgaaDoor Go.ChangeShapes Go.WideShapes Go.ChangeAt Go.RowKit
theorem r_own : ownKnob Tryd.prog.godebug = none := by kernel_rfl
theorem r_star : "*" ++ "errors.errorString" = "*errors.errorString" := by decide
theorem r_row124 (u : TypeId) (h : Tryd.prog.typeName? 3 u = some "*errors.errorString") : u = 119 :=
  typeName_ptr_named (nm := "errors.errorString") (by rw [r_star]; kernel_rfl) (by kernel_rfl) (by decide) u (by rw [r_star]; exact h)
theorem r_iface {W : World} {n : String} {text : List UInt8} {g : Nat} (hg : Tryd.prog.globalNamed n = some g) (ht : (Tryd.prog.globals[g]?).map (·.type) = some 85)
    (h : laidMet Tryd.prog [(n, .iface "*errors.errorString" (.ptr (.agg [.lit (.string text)])))] W) : ∃ ev, W.cell? ⟨g, 0, none⟩ = some ev ∧ (ev = .nilIface ∨ ∃ te pe, ev = .iface te pe) := by
  obtain ⟨a1, s1, hv1, _⟩ := laid_sentinel h hg ht Tryd.underlying85 r_row124 Tryd.underlying119 Tryd.underlying121 rfl rfl Tryd.underlying9 (by kernel_rfl) (by kernel_rfl)
  refine ⟨.iface 119 (.pointer (some a1)), ?_, .inr ⟨_, _, rfl⟩⟩
  simpa using World.var?_cell hg hv1 0
theorem r_glob {W : World} (h : laidMetH Tryd.prog Rows.lexEachRow.laid W) (hsh : W.ShapedOpen Tryd.prog) : GlobOK W 5 := by
  rw [MakeChecks.laidMetH_plain _ _ _ (by kernel_rfl)] at h
  have h1 := laidMet.filter (fun x => x.1 == "strconv.ErrSyntax") h
  have h2 := laidMet.filter (fun x => x.1 == "strconv.ErrRange") h
  exact ⟨by omega, Tryd.laysM143.s1_3 W hsh, r_iface (by kernel_rfl) (by kernel_rfl) h1, r_iface (by kernel_rfl) (by kernel_rfl) h2⟩
theorem r_kept {e e' : Env} {W W' : World} {σ' : St} {may : MemPlace → Prop} (h : Later e ⟨[], [], 0⟩ W e' σ' W') : W.keptBut W' may := by
  refine ⟨h.os, h.output, fun i hi => ?_⟩
  have := h.blocks i hi (fun j hj => by simp at hj) (fun t ht => by cases ht)
  rw [this]
  cases hh : W.heap[i]? with
  | none => rfl
  | some o => cases o <;> simp
def ePure : Env := ⟨fun _ => 0, fun _ => none, fun _ _ => False⟩
theorem r_start {W : World} (h : 5 ≤ W.heap.size) : SRel (GG W 5) ePure ⟨[], [], 0⟩ W where
  inj := fun i j hi => by simp at hi
  box := fun i x hx => by simp at hx
  low := fun i hi => by simp at hi
  tkn := fun t ht => by cases ht
  own := fun t ht => by cases ht
  dis := fun t t' ht => by cases ht
  xlt := fun b off hx => hx.elim
  xown := fun t ht => by cases ht
  glob := fun b hb => rfl
  big := h
/-- A law of one text: true. -/
noncomputable def spLaw1 : Spec := fun args σ K => match args, σ with
  | [.d (.str s)], ⟨[], [], 0⟩ => K (.ret (.d (.bool true))) ⟨[], [], 0⟩
  | _, _ => False
theorem r_call1 {g : FuncId} (hp : ∀ {W : World}, GlobOK W 5 → PCalls (GG W 5) g spLaw1) {W : World} (hg : GlobOK W 5) (s : ByteArray) :
    Calls Tryd.prog g #[.string s] W fun e W' => e = .returned (.bool true) ∧ ∀ may, W.keptBut W' may := by
  have hsz : 5 ≤ W.heap.size := by
    obtain ⟨ev, h1, _⟩ := hg.errRange
    have := World.block_lt_of_cell? W ⟨4, 0, none⟩ h1
    simp at this; omega
  have hc := (hp hg).calls [.d (.str s.data.toList)] ⟨[], [], 0⟩ (fun pe _ => pe = .ret (.d (.bool true))) rfl 0 ePure W #[.string s] (r_start hsz) ⟨rfl, fun i x u hx hu => by
    match i, hx, hu with
    | 0, hx, hu => cases hx; cases hu; exact .d _ _ (.str _)
    | i + 1, hx, hu => simp at hx⟩
  refine Calls.mono (callsIn_wide.1 hc) fun en W' ⟨pe, σ', e', hK, hE, hS, hL⟩ => ?_
  subst hK
  obtain ⟨v, rfl, hv⟩ := hE
  cases hv with
  | d _ _ hd =>
    cases hd
    exact ⟨rfl, fun may => r_kept hL⟩
end Go.PM.Lex
