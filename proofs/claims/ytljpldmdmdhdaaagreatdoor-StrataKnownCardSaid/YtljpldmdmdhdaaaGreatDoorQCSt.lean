/-
  The law StrataKnown of strata returns true: the tied card of its row, without further conditions.
-/
import Derived.Test.YtljpldmdmdhdaaaGreatDoorB12
set_option linter.unusedVariables false
set_option linter.unusedSimpArgs false
set_option linter.all false
set_option maxRecDepth 100000
set_option maxHeartbeats 16000000
section
namespace Go.PM.Lex
open Go.Proofs
variable {w0 : World} {nG : Nat}
theorem ZDB {w0 : World} {nG : Nat} (hg : GlobOK w0 nG) (hN : NumOK w0 nG) (hL : LexC w0 nG) : PCalls (GG w0 nG) 6 ZoQ := ZDf ⟨ZC6 (ZEM hg hN hL 100000), Zwx, ZFN _, Zz4, Zsm, trivial⟩
theorem ZFi {w0 : World} {nG : Nat} (hg : GlobOK w0 nG) (hN : NumOK w0 nG) (hL : LexC w0 nG) : PCalls (GG w0 nG) 9 Zvd := ZDh ⟨ZDB hg hN hL, Zwx, Zsm, Zz5, ZAa, trivial⟩
theorem ZjL (hg : GlobOK w0 nG) (hN : NumOK w0 nG) (hL : LexC w0 nG) : PCalls (GG w0 nG) 3 UP := ZoW ⟨ZAB ⟨ZcQ, ZDB hg hN hL, ZFi hg hN hL, trivial⟩, ZAA ⟨ZcQ, ZDB hg hN hL, ZFi hg hN hL, trivial⟩, ZcQ, ZDB hg hN hL, ZsU ⟨ZcQ, ZDB hg hN hL, ZFi hg hN hL, ZvJ, trivial⟩, trivial⟩
theorem ZbA {W : World} (hg : GlobOK W 8) (hN : NumOK W 8) (hL : LexC W 8)  :
    Calls Tryz.prog 3 #[] W fun e W' => e = .returned (.bool true) ∧ ∀ may, W.keptBut W' may := by
  have hsz : 8 ≤ W.heap.size := by
    obtain ⟨ev, h1, _⟩ := hg.errRange
    have := World.block_lt_of_cell? W ⟨7, 0, none⟩ h1
    simp at this; omega
  have hc := (ZjL hg hN hL).calls [] ⟨[], [], 0⟩ (fun pe _ => pe = .ret (.d (.bool true))) rfl 0 ZAC W #[] (ZAD hsz) ⟨rfl, fun i x u hx hu => by
    match i, hx, hu with

    | i + 0, hx, hu => simp at hx⟩
  refine Calls.mono (callsIn_wide.1 hc) fun en W' ⟨pe, σ', e', hK, hE, hS, hL⟩ => ?_
  subst hK
  obtain ⟨v, rfl, hv⟩ := hE
  cases hv with
  | d _ _ hd =>
    cases hd
    exact ⟨rfl, fun may => ZDy hL⟩
end Go.PM.Lex
namespace Go.Proofs.YtljpldmdmdhdaaaGreatDoor
open Go.ChangeShapes Go.WideShapes Go.ChangeAt Go.RowKit Go.ChangeMaps Go.PM.Lex
theorem strataKnown_lifted (os : Os) (started : os.Started) (H : Type) (enc : TypeId × Value → H) :
    ReturnsInHanded {} Tryz.checked os 3 .any (fun w args => (Rows.strataKnownSpec.pre enc Tryz.prog Tryz.f3 Rows.strataKnownRow.domain false w args ∧ laidMetH Tryz.prog Rows.strataKnownRow.laid w) ∧ sizedMet enc Tryz.prog Tryz.f3 (OpenSpec.ofChange Rows.strataKnownSpec) false w args)
      (Rows.strataKnownSpec.post enc Tryz.prog Tryz.f3 false true false false) := by
  refine WG (C := Tryz.checked) (X := fun w _ => laidMetH Tryz.prog Rows.strataKnownRow.laid w) (fun _ _ _ hh h => h.of_heap hh) ZFe started (by kernel_rfl) Tryz.func3
    (ChangeSpec.witness_shaped (enc := enc) (C := Tryz.checked) (os := os) (X := fun w _ => laidMetH Tryz.prog Rows.strataKnownRow.laid w) false (World.laidAll Tryz.prog os Rows.strataKnownRow.laid) #[] 8 (World.laidAll_os _ _ _)
      (World.shaped_of_ZipB (by kernel_rfl) (by kernel_rfl)) (by kernel_rfl) (by kernel_rfl) (by kernel_rfl)
      (by rw [MakeChecks.laidMetH_plain _ _ _ (by kernel_rfl)]; exact laidMet_laidAll _ (by kernel_rfl) (by kernel_rfl))) ?_
  intro W base args ds gs before hval0 hW hL hsh
  have hval : ∀ (j : Nat) t v, Tryz.f3.params[j]? = some t → args[j]? = some v → Value.okWide Tryz.prog W .any base t v := hval0
  have hW' := hW
  obtain ⟨p, q, hA0, hV, rfl, _, _⟩ := hW
  have hA : DataW.TrodAll enc Tryz.prog W 0 (fun _ => true) true Tryz.f3.params.toList args.toList ds p := hA0
  rw [Tryz.params3] at hA hval
  obtain ⟨rfl, rfl, rfl⟩ := trodAll_none hA
  obtain ⟨rfl, rfl⟩ := trodVars_none hV
  simp only [List.append_nil] at hW'
  refine (ZbA (ZDx hL hsh) (ZFh hL) (ZFf (by decide) (ZDz hL)) ).mono fun e W' ⟨he, hk⟩ => ?_
  subst he
  refine ⟨_, rfl, _, _, _, [], [], [], hW', ?_, ?_, ?_, hk _, fun h => by cases h⟩
  · exact trodAll_mk1 (shut_bool Tryz.underlying4 true)
  · exact trodAll_mk0 
  · rfl
theorem Ze3 : Rows.strataKnownRow.wf (OpenSpec.ofChange Rows.strataKnownSpec) = true := by kernel_rfl
theorem Ze4 : Tryz.f3.params.all (Tryz.checked.prog.readableRec ·) = true := by kernel_rfl
theorem Ze5 : namedTie Tryz.checked.prog Rows.strataKnownRow.named Rows.strataKnownSpec.vars = true := by kernel_rfl
theorem Ze6 : (Rows.strataKnownRow.stops == []) = true := by kernel_rfl
theorem Ze7 : (Rows.strataKnownRow.knobs == []) = true := by kernel_rfl
theorem Ze8 : (Rows.strataKnownRow.inPlace == Tryz.checked.prog.inPlace 3) = true := by kernel_rfl
theorem Ze9 : (Rows.strataKnownRow.unfollowed == Tryz.checked.prog.unfollowed 3) = true := by kernel_rfl
theorem Zfa : (Rows.strataKnownRow.recurses == Tryz.checked.prog.recurses 3) = true := by kernel_rfl
theorem Zfb : (Rows.strataKnownRow.named == Tryz.checked.prog.varsNamed 3) = true := by kernel_rfl
theorem Zex : (Rows.strataKnownRow.maps == (Tryz.f3.params.toList ++ Rows.strataKnownSpec.plain.varTypes Tryz.checked.prog).any (Tryz.checked.prog.mapsRec ·)) = true := by kernel_rfl
theorem Zey : (Rows.strataKnownRow.ifaces == (Tryz.f3.params.toList ++ Rows.strataKnownSpec.plain.varTypes Tryz.checked.prog).any (Tryz.checked.prog.ifacesRec ·)) = true := by kernel_rfl
theorem Zez : (Rows.strataKnownRow.mapsOut == Tryz.checked.prog.mapsAmong Tryz.f3.resultTypes.toList) = true := by kernel_rfl
theorem ZeA : (Rows.strataKnownRow.loops == (Tryz.f3.params.toList ++ Rows.strataKnownSpec.plain.varTypes Tryz.checked.prog).any (Tryz.checked.prog.loopsFrom ·)) = true := by kernel_rfl
theorem ZeB : (Rows.strataKnownRow.wideKeys == (Tryz.f3.params.toList ++ Rows.strataKnownSpec.plain.varTypes Tryz.checked.prog ++ Tryz.f3.resultTypes.toList).any (Tryz.checked.prog.wideKeysFrom ·)) = true := by kernel_rfl
theorem ZeC : Rows.strataKnownSpec.vars.all (Tryz.checked.prog.varReadable ·) = true := by kernel_rfl
theorem ZeD : Tryz.f3.resultTypes.all (fun t => Tryz.checked.prog.readableRec t && decide (t < Tryz.checked.prog.types.size)) = true := by kernel_rfl
theorem ZeE : (Rows.strataKnownRow.ifacesOut == Tryz.f3.resultTypes.toList.any (Tryz.checked.prog.ifacesRec ·)) = true := by kernel_rfl
theorem ZeF : (Rows.strataKnownRow.loopsOut == Tryz.f3.resultTypes.toList.any (Tryz.checked.prog.loopsFrom ·)) = true := by kernel_rfl
theorem ZeG : Rows.strataKnownRow.shortTexts.isNone = true := by kernel_rfl
theorem ZeH : (Rows.strataKnownRow.kinds == (if Rows.strataKnownRow.domain.isEmpty then [] else Tryz.f3.params.toList.map fun t => match Tryz.checked.prog.underlying t with | some (.int k) => some k | _ => none)) = true := by kernel_rfl
theorem ZeI : (Rows.strataKnownRow.pinned == Rows.strataKnownRow.pinnedBy) = true := by kernel_rfl
theorem ZeJ : (Rows.strataKnownRow.veiled == (Tryz.f3.params.toList ++ Rows.strataKnownSpec.plain.varTypes Tryz.checked.prog ++ Tryz.f3.resultTypes.toList).any (Tryz.checked.prog.veiledRec ·)) = true := by kernel_rfl
theorem ZeK : Rows.strataKnownRow.veiledFits Tryz.checked.prog Tryz.f3.params.toList (Tryz.f3.params.toList ++ Rows.strataKnownSpec.plain.varTypes Tryz.checked.prog ++ Tryz.f3.resultTypes.toList) = true := by kernel_rfl
theorem strataKnown_closed : joinedFacts Tryz.checked.prog 3 Tryz.f3 Rows.strataKnownSpec Rows.strataKnownRow = true := ZsW jp1 jp2 jp3 jp4 jp5 jp6 jp7 jp8 jp9 Ze3 Ze4 Ze5 Ze6 Ze7 Ze8 Ze9 Zfa Zfb Zex Zey Zez ZeA ZeB ZeC ZeD ZeE ZeF ZeG ZeH ZeI ZeJ ZeK
theorem strataKnown_holds : Rows.StrataKnownSaid :=
  OpenClaim.holds_of_wide 3 Tryz.f3 rfl rfl rfl rfl rfl rfl rfl ⟨rfl, rfl, rfl, rfl, rfl⟩ rfl rfl rfl rfl rfl (by kernel_rfl) Tryz.func3 strataKnown_closed
    (of_decide_eq_true (by kernel_rfl)) (by unfold Func.isWrapper; first | (rw [if_pos (by decide +kernel)]; kernel_rfl) | (rw [if_neg (by decide +kernel)]; exact ⟨rfl, rfl⟩))
    (fun os started H enc _ => strataKnown_lifted os started H enc)
theorem strataKnown_w : Rows.strataKnownRow.wfByText (OpenSpec.ofChange Rows.strataKnownSpec) = true := by kernel_rfl
theorem strataKnown_named : Tryz.prog.funcNamed Rows.strataKnownRow.func = some 3 := by kernel_rfl
theorem strataKnown_goes : false = Rows.strataKnownRow.goesBy Tryz.checked.prog := by kernel_rfl
theorem strataKnown_card_holds : Rows.StrataKnownCardSaid :=
  Claim7.holds_tied_plain_at .later [] _ _ _ _ strataKnown_holds (fun _ h => by cases h) strataKnown_w (fun _ h => by cases h) strataKnown_row_tie rfl ⟨rfl, rfl⟩ jp10 rfl
    (fun f fn hf hfn => by
      obtain rfl : f = 3 := Option.some.inj (strataKnown_named.symm.trans hf) |>.symm
      obtain rfl : fn = Tryz.f3 := (Option.some.inj (Tryz.func3.symm.trans hfn)).symm
      exact ⟨jp11, fun j t ht => by
        rw [Tryz.params3] at ht
        have hm : False := by simpa using Array.mem_of_getElem? ht
        exact hm.elim⟩)
    strataKnown_goes
end Go.Proofs.YtljpldmdmdhdaaaGreatDoor
end
