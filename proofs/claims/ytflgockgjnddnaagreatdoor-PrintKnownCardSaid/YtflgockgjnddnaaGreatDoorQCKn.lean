/-
  The law PrintKnown of the printer returns true: the tied card of its row, without further conditions.
-/
import Derived.Test.YtflgockgjnddnaaGreatDoorK10
set_option linter.unusedVariables false
set_option linter.unusedSimpArgs false
set_option linter.all false
set_option maxRecDepth 100000
set_option maxHeartbeats 16000000
section
namespace Go.PM.Lex
open Go.Proofs
variable {w0 : World} {nG : Nat}
theorem Ziz (hg : GlobOK w0 nG) (hN : NumOK w0 nG) (hL : LexC w0 nG) : PCalls (GG w0 nG) 8 W7 := ZkQ ⟨⟨Ztp ⟨⟨Zub hg, Zdc⟩, ⟨cPE hg hN hL 200000, Zdo _⟩, trivial⟩, Ziy⟩, ⟨ZqQ hg, JP⟩, ⟨Zyj hg hN hL 200000, ZkL _⟩, ⟨cPE hg hN hL 200000, Zdo _⟩, ⟨Zyi hg hN hL 200000, ZkJ _⟩, ⟨ZkF ⟨⟨cPE hg hN hL 1000, Zdo _⟩, trivial⟩, Zfo⟩, trivial⟩
theorem Zb1 {W : World} (hg : GlobOK W 8) (hN : NumOK W 8) (hL : LexC W 8)  :
    Calls Tryz.prog 8 #[] W fun e W' => e = .returned (.bool true) ∧ ∀ may, W.keptBut W' may := by
  have hsz : 8 ≤ W.heap.size := by
    obtain ⟨ev, h1, _⟩ := hg.errRange
    have := World.block_lt_of_cell? W ⟨7, 0, none⟩ h1
    simp at this; omega
  have hc := (Ziz hg hN hL).calls [] ⟨[], [], 0⟩ (fun pe _ => pe = .ret (.d (.bool true))) rfl 0 Zwm W #[] (Ztq hsz) ⟨rfl, fun i x u hx hu => by
    match i, hx, hu with

    | i + 0, hx, hu => simp at hx⟩
  refine Calls.mono (callsIn_wide.1 hc) fun en W' ⟨pe, σ', e', hK, hE, hS, hL⟩ => ?_
  subst hK
  obtain ⟨v, rfl, hv⟩ := hE
  cases hv with
  | d _ _ hd =>
    cases hd
    exact ⟨rfl, fun may => Zwl hL⟩
end Go.PM.Lex
namespace Go.Proofs.YtflgockgjnddnaaGreatDoor
open Go.ChangeShapes Go.WideShapes Go.ChangeAt Go.RowKit Go.ChangeMaps Go.PM.Lex
theorem printKnown_lifted (os : Os) (started : os.Started) (H : Type) (enc : TypeId × Value → H) :
    ReturnsInHanded {} Tryz.checked os 8 .any (fun w args => (Rows.printKnownSpec.pre enc Tryz.prog Tryz.f8 Rows.printKnownRow.domain false w args ∧ laidMetH Tryz.prog Rows.printKnownRow.laid w) ∧ sizedMet enc Tryz.prog Tryz.f8 (OpenSpec.ofChange Rows.printKnownSpec) false w args)
      (Rows.printKnownSpec.post enc Tryz.prog Tryz.f8 false true false false) := by
  refine Ve (C := Tryz.checked) (X := fun w _ => laidMetH Tryz.prog Rows.printKnownRow.laid w) (fun _ _ _ hh h => h.of_heap hh) Zxx started (by kernel_rfl) Tryz.func8
    (ChangeSpec.witness_shaped (enc := enc) (C := Tryz.checked) (os := os) (X := fun w _ => laidMetH Tryz.prog Rows.printKnownRow.laid w) false (World.laidAll Tryz.prog os Rows.printKnownRow.laid) #[] 8 (World.laidAll_os _ _ _)
      (World.shaped_of_ZipB (by kernel_rfl) (by kernel_rfl)) (by kernel_rfl) (by kernel_rfl) (by kernel_rfl)
      (by rw [MakeChecks.laidMetH_plain _ _ _ (by kernel_rfl)]; exact laidMet_laidAll _ (by kernel_rfl) (by kernel_rfl))) ?_
  intro W base args ds gs before hval0 hW hL hsh
  have hval : ∀ (j : Nat) t v, Tryz.f8.params[j]? = some t → args[j]? = some v → Value.okWide Tryz.prog W .any base t v := hval0
  have hW' := hW
  obtain ⟨p, q, hA0, hV, rfl, _, _⟩ := hW
  have hA : DataW.TrodAll enc Tryz.prog W 0 (fun _ => true) true Tryz.f8.params.toList args.toList ds p := hA0
  rw [Tryz.params8] at hA hval
  obtain ⟨rfl, rfl, rfl⟩ := trodAll_none hA
  obtain ⟨rfl, rfl⟩ := trodVars_none hV
  simp only [List.append_nil] at hW'
  refine (Zb1 (Zwk hL hsh) (ZxA hL) (Zxy (by decide) (Zwn hL)) ).mono fun e W' ⟨he, hk⟩ => ?_
  subst he
  refine ⟨_, rfl, _, _, _, [], [], [], hW', ?_, ?_, ?_, hk _, fun h => by cases h⟩
  · exact trodAll_mk1 (shut_bool Tryz.underlying4 true)
  · exact trodAll_mk0 
  · rfl
theorem ZfC : Rows.printKnownRow.wf (OpenSpec.ofChange Rows.printKnownSpec) = true := by kernel_rfl
theorem ZfD : Tryz.f8.params.all (Tryz.checked.prog.readableRec ·) = true := by kernel_rfl
theorem ZfE : namedTie Tryz.checked.prog Rows.printKnownRow.named Rows.printKnownSpec.vars = true := by kernel_rfl
theorem ZfF : (Rows.printKnownRow.stops == []) = true := by kernel_rfl
theorem ZfG : (Rows.printKnownRow.knobs == []) = true := by kernel_rfl
theorem ZfH : (Rows.printKnownRow.inPlace == Tryz.checked.prog.inPlace 8) = true := by kernel_rfl
theorem ZfI : (Rows.printKnownRow.unfollowed == Tryz.checked.prog.unfollowed 8) = true := by kernel_rfl
theorem ZfJ : (Rows.printKnownRow.recurses == Tryz.checked.prog.recurses 8) = true := by kernel_rfl
theorem ZfK : (Rows.printKnownRow.named == Tryz.checked.prog.varsNamed 8) = true := by kernel_rfl
theorem ZdS : (Rows.printKnownRow.maps == (Tryz.f8.params.toList ++ Rows.printKnownSpec.plain.varTypes Tryz.checked.prog).any (Tryz.checked.prog.mapsRec ·)) = true := by kernel_rfl
theorem ZdT : (Rows.printKnownRow.ifaces == (Tryz.f8.params.toList ++ Rows.printKnownSpec.plain.varTypes Tryz.checked.prog).any (Tryz.checked.prog.ifacesRec ·)) = true := by kernel_rfl
theorem ZdU : (Rows.printKnownRow.mapsOut == Tryz.checked.prog.mapsAmong Tryz.f8.resultTypes.toList) = true := by kernel_rfl
theorem ZdV : (Rows.printKnownRow.loops == (Tryz.f8.params.toList ++ Rows.printKnownSpec.plain.varTypes Tryz.checked.prog).any (Tryz.checked.prog.loopsFrom ·)) = true := by kernel_rfl
theorem ZdW : (Rows.printKnownRow.wideKeys == (Tryz.f8.params.toList ++ Rows.printKnownSpec.plain.varTypes Tryz.checked.prog ++ Tryz.f8.resultTypes.toList).any (Tryz.checked.prog.wideKeysFrom ·)) = true := by kernel_rfl
theorem ZdX : Rows.printKnownSpec.vars.all (Tryz.checked.prog.varReadable ·) = true := by kernel_rfl
theorem ZdY : Tryz.f8.resultTypes.all (fun t => Tryz.checked.prog.readableRec t && decide (t < Tryz.checked.prog.types.size)) = true := by kernel_rfl
theorem ZdZ : (Rows.printKnownRow.ifacesOut == Tryz.f8.resultTypes.toList.any (Tryz.checked.prog.ifacesRec ·)) = true := by kernel_rfl
theorem Zd0 : (Rows.printKnownRow.loopsOut == Tryz.f8.resultTypes.toList.any (Tryz.checked.prog.loopsFrom ·)) = true := by kernel_rfl
theorem Zd1 : Rows.printKnownRow.shortTexts.isNone = true := by kernel_rfl
theorem Zd2 : (Rows.printKnownRow.kinds == (if Rows.printKnownRow.domain.isEmpty then [] else Tryz.f8.params.toList.map fun t => match Tryz.checked.prog.underlying t with | some (.int k) => some k | _ => none)) = true := by kernel_rfl
theorem Zd3 : (Rows.printKnownRow.pinned == Rows.printKnownRow.pinnedBy) = true := by kernel_rfl
theorem Zd4 : (Rows.printKnownRow.veiled == (Tryz.f8.params.toList ++ Rows.printKnownSpec.plain.varTypes Tryz.checked.prog ++ Tryz.f8.resultTypes.toList).any (Tryz.checked.prog.veiledRec ·)) = true := by kernel_rfl
theorem Zd5 : Rows.printKnownRow.veiledFits Tryz.checked.prog Tryz.f8.params.toList (Tryz.f8.params.toList ++ Rows.printKnownSpec.plain.varTypes Tryz.checked.prog ++ Tryz.f8.resultTypes.toList) = true := by kernel_rfl
theorem printKnown_closed : joinedFacts Tryz.checked.prog 8 Tryz.f8 Rows.printKnownSpec Rows.printKnownRow = true := Znn jp1 jp2 jp3 jp4 jp5 jp6 jp7 jp8 jp9 ZfC ZfD ZfE ZfF ZfG ZfH ZfI ZfJ ZfK ZdS ZdT ZdU ZdV ZdW ZdX ZdY ZdZ Zd0 Zd1 Zd2 Zd3 Zd4 Zd5
theorem printKnown_holds : Rows.PrintKnownSaid :=
  OpenClaim.holds_of_wide 8 Tryz.f8 rfl rfl rfl rfl rfl rfl rfl ⟨rfl, rfl, rfl, rfl, rfl⟩ rfl rfl rfl rfl rfl (by kernel_rfl) Tryz.func8 printKnown_closed
    (of_decide_eq_true (by kernel_rfl)) (by unfold Func.isWrapper; first | (rw [if_pos (by decide +kernel)]; kernel_rfl) | (rw [if_neg (by decide +kernel)]; exact ⟨rfl, rfl⟩))
    (fun os started H enc _ => printKnown_lifted os started H enc)
theorem printKnown_w : Rows.printKnownRow.wfByText (OpenSpec.ofChange Rows.printKnownSpec) = true := by kernel_rfl
theorem printKnown_named : Tryz.prog.funcNamed Rows.printKnownRow.func = some 8 := by kernel_rfl
theorem printKnown_goes : false = Rows.printKnownRow.goesBy Tryz.checked.prog := by kernel_rfl
theorem printKnown_card_holds : Rows.PrintKnownCardSaid :=
  Claim7.holds_tied_plain_at .later [] _ _ _ _ printKnown_holds (fun _ h => by cases h) printKnown_w (fun _ h => by cases h) printKnown_row_tie rfl ⟨rfl, rfl⟩ jp10 rfl
    (fun f fn hf hfn => by
      obtain rfl : f = 8 := Option.some.inj (printKnown_named.symm.trans hf) |>.symm
      obtain rfl : fn = Tryz.f8 := (Option.some.inj (Tryz.func8.symm.trans hfn)).symm
      exact ⟨jp11, fun j t ht => by
        rw [Tryz.params8] at ht
        have hm : False := by simpa using Array.mem_of_getElem? ht
        exact hm.elim⟩)
    printKnown_goes
end Go.Proofs.YtflgockgjnddnaaGreatDoor
end
