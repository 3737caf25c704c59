/- A part of the proof: plain logic, contracts and laws over the given program. -/
import Derived.Test.YtodfhajjdfbhgaaDoorQSp
import Derived.Test.YtodfhajjdfbhgaaDoorShelf
import Derived.Shelf.Strings.SlTrimAscii
set_option linter.unusedVariables false
set_option linter.unusedSimpArgs false
set_option linter.all false
set_option maxRecDepth 100000
noncomputable section
namespace Go.PM
/-- A library function that leaves the boxes alone. -/
theorem pcalls_lib {G : GE} {g : FuncId} {sp : Spec} (hent : Enters G.P g)
    (h : ∀ args σ K, sp args σ K → ∀ (e : Env) (w : World) (vs : Array Value), SRel G e σ w → ArgsRel G e σ w args vs → ∃ pv, K (.ret pv) σ ∧ ∃ v, (∀ w', Grows w w' → VRel G e σ w' pv v) ∧ Calls G.P g vs w fun en w' => en = .returned v ∧ Grows w w') : PCalls G g sp where
  enters := hent
  calls := fun args σ K hs n e w vs hS ha => by
    obtain ⟨pv, hK, v, hv, hc⟩ := h args σ K hs e w vs hS ha
    refine CallsIn.mono (callsIn_wide.2 hc) fun en w' ⟨he, hg⟩ => ?_
    subst he
    exact ⟨.ret pv, σ, e, hK, ⟨v, rfl, hv w' hg⟩, hS.grow hg, (hg.stepped e σ).toLater⟩
theorem Grows.of_below {w w' : World} (h : RowKit.Below w.heap.size w w') : Grows w w' := ⟨h.os, h.tape, h.output, h.size, h.block⟩
section
variable {G : GE} {e : Env} {σ : St} {w : World} {vs : Array Value}
theorem args1 {x : PV} (h : ArgsRel G e σ w [x] vs) : ∃ u, vs = #[u] ∧ VRel G e σ w x u := by
  obtain ⟨hs, hr⟩ := h
  obtain ⟨l⟩ := vs
  match l, hs with
  | [u], _ => exact ⟨u, rfl, hr 0 x u rfl rfl⟩
theorem args2 {x y : PV} (h : ArgsRel G e σ w [x, y] vs) : ∃ u v, vs = #[u, v] ∧ VRel G e σ w x u ∧ VRel G e σ w y v := by
  obtain ⟨hs, hr⟩ := h
  obtain ⟨l⟩ := vs
  match l, hs with
  | [u, v], _ => exact ⟨u, v, rfl, hr 0 x u rfl rfl, hr 1 y v rfl rfl⟩
theorem args3 {x y z : PV} (h : ArgsRel G e σ w [x, y, z] vs) : ∃ u v t, vs = #[u, v, t] ∧ VRel G e σ w x u ∧ VRel G e σ w y v ∧ VRel G e σ w z t := by
  obtain ⟨hs, hr⟩ := h
  obtain ⟨l⟩ := vs
  match l, hs with
  | [u, v, t], _ => exact ⟨u, v, t, rfl, hr 0 x u rfl rfl, hr 1 y v rfl rfl, hr 2 z t rfl rfl⟩
end
end Go.PM
namespace Go.PM.Lex
open Go.Proofs
variable {w0 : World} {nG : Nat}
theorem hasPrefix_ok : PCalls (GG w0 nG) 26 spHasPrefix := pcalls_lib (enters_of Tryd.func26 (by kernel_rfl) rfl) fun args σ K h e w vs hS ha => by
  unfold spHasPrefix at h
  split at h
  · obtain ⟨u, v, rfl, hu, hv⟩ := args2 ha
    cases hu.dstr; cases hv.dstr
    exact ⟨_, h, _, fun _ _ => .mkbool, (Tryd.strings_HasPrefix _ _ w).mono fun en w' ⟨h1, h2⟩ => ⟨h1, by rw [h2]; exact Grows.refl _⟩⟩
  · exact h.elim
theorem indexByte_ok : PCalls (GG w0 nG) 27 spIndexByte := pcalls_lib (enters_of Tryd.func27 (by kernel_rfl) rfl) fun args σ K h e w vs hS ha => by
  unfold spIndexByte at h
  split at h
  · obtain ⟨u, v, rfl, hu, hv⟩ := args2 ha
    cases hu.dstr; cases hv.dint
    exact ⟨_, h, _, fun _ _ => .mkint, (Tryd.strings_IndexByte _ _ w).mono fun en w' ⟨h1, h2⟩ => ⟨h1, by rw [h2]; exact Grows.refl _⟩⟩
  · exact h.elim
theorem runeLen_ok : PCalls (GG w0 nG) 44 spRuneLen := pcalls_lib (enters_of Tryd.func44 (by kernel_rfl) rfl) fun args σ K h e w vs hS ha => by
  unfold spRuneLen at h
  split at h
  · obtain ⟨u, rfl, hu⟩ := args1 ha
    cases hu.dint
    exact ⟨_, h, _, fun _ _ => .mkint, (Tryd.utf8_RuneLen _ w).mono fun en w' ⟨h1, h2⟩ => ⟨h1, by rw [h2]; exact Grows.refl _⟩⟩
  · exact h.elim
theorem index_ok (h2 : 0 < nG) (hm : ∃ m, w0.cell? ⟨0, 0, none⟩ = some (.int .i64 m)) : PCalls (GG w0 nG) 28 spIndex := pcalls_lib (enters_of Tryd.func28 (by kernel_rfl) rfl) fun args σ K h e w vs hS ha => by
  unfold spIndex at h
  split at h
  · rename_i s p
    obtain ⟨u, v, rfl, hu, hv⟩ := args2 ha
    cases hu.dstr; cases hv.dstr
    obtain ⟨m, hm⟩ := hm
    have hm' : w.cell? ⟨0, 0, none⟩ = some (.int .i64 m) := by
      have := hS.glob 0 h2
      simpa [World.cell?, this] using hm
    exact ⟨_, h.2, _, fun _ _ => .mkint, (Tryd.strings_Index ⟨s.toArray⟩ ⟨p.toArray⟩ m w (show s.toArray.size < _ by simpa using h.1) hm').mono fun en w' ⟨h1, h2⟩ => ⟨h1, by rw [h2]; exact Grows.refl _⟩⟩
  · exact h.elim
theorem trimLeft_ok : PCalls (GG w0 nG) 25 spTrimLeft := pcalls_lib (enters_of Tryd.func25 (by kernel_rfl) rfl) fun args σ K h e w vs hS ha => by
  unfold spTrimLeft at h
  split at h
  · rename_i s p
    obtain ⟨u, v, rfl, hu, hv⟩ := args2 ha
    cases hu.dstr; cases hv.dstr
    refine ⟨_, h.2, _, fun _ _ => .mkstr, (Any.strings_TrimLeft_laid Tryd.lays161 (by kernel_rfl) ⟨s.toArray⟩ ⟨p.toArray⟩ w (show p.toArray.size < _ by simpa using h.1.1) h.1.2).mono fun en w' ⟨h1, h2⟩ => ⟨h1, Grows.of_below h2⟩⟩
  · exact h.elim
end Go.PM.Lex
