/-
  The law ParseKnown of the reader of trees returns true: the tied card of its row, without further conditions.
-/
import Derived.Test.YtjmoaahgfjaafaaGreatDoorG12
set_option linter.unusedVariables false
set_option linter.unusedSimpArgs false
set_option linter.all false
section
set_option maxRecDepth 100000
set_option maxHeartbeats 8000000
namespace Go.PM.Lex
open Go.Proofs
variable {w0 : World} {nG : Nat}
theorem cParseKnown (hg : GlobOK w0 nG) : PCalls (GG w0 nG) 5 spLaw0 := known_ok ⟨⟨cTopU hg, spTopU_mono⟩, ⟨cTopE hg, spTopE_mono⟩, ⟨cTopF hg, spTopF_mono⟩, ⟨wrong_ok ⟨⟨cTopU hg, spTopU_mono⟩, trivial⟩, spWrong_mono⟩, ⟨cTimes 65536, spTimes_mono _⟩, ⟨works15_ok ⟨⟨cTopU hg, spTopU_mono⟩, ⟨kept_ok, spKept_mono⟩, trivial⟩, spTrue15_mono⟩, trivial⟩
theorem r_callParseKnown {W : World} (hg : GlobOK W 8)  :
    Calls Tryz.prog 5 #[] W fun e W' => e = .returned (.bool true) ∧ ∀ may, W.keptBut W' may := by
  have hsz : 8 ≤ W.heap.size := by
    obtain ⟨ev, h1, _⟩ := hg.errRange
    have := World.block_lt_of_cell? W ⟨7, 0, none⟩ h1
    simp at this; omega
  have hc := (cParseKnown hg).calls [] ⟨[], [], 0⟩ (fun pe _ => pe = .ret (.d (.bool true))) rfl 0 ePure W #[] (r_start hsz) ⟨rfl, fun i x u hx hu => by
    match i, hx, hu with

    | i + 0, hx, hu => simp at hx⟩
  refine Calls.mono (callsIn_wide.1 hc) fun en W' ⟨pe, σ', e', hK, hE, hS, hL⟩ => ?_
  subst hK
  obtain ⟨v, rfl, hv⟩ := hE
  cases hv with
  | d _ _ hd =>
    cases hd
    exact ⟨rfl, fun may => r_kept hL⟩
end Go.PM.Lex
namespace Go.Proofs.YtjmoaahgfjaafaaGreatDoor
open Go.ChangeShapes Go.WideShapes Go.ChangeAt Go.RowKit Go.ChangeMaps Go.PM.Lex
theorem parseKnown_lifted (os : Os) (started : os.Started) (H : Type) (enc : TypeId × Value → H) :
    ReturnsInHanded {} Tryz.checked os 5 .any (fun w args => (Rows.parseKnownSpec.pre enc Tryz.prog Tryz.f5 Rows.parseKnownRow.domain false w args ∧ laidMetH Tryz.prog Rows.parseKnownRow.laid w) ∧ sizedMet enc Tryz.prog Tryz.f5 (OpenSpec.ofChange Rows.parseKnownSpec) false w args)
      (Rows.parseKnownSpec.post enc Tryz.prog Tryz.f5 false true false false) := by
  refine returnsInHanded_and_shape (C := Tryz.checked) (X := fun w _ => laidMetH Tryz.prog Rows.parseKnownRow.laid w) (fun _ _ _ hh h => h.of_heap hh) r_own started (by kernel_rfl) Tryz.func5
    (ChangeSpec.witness_shaped (enc := enc) (C := Tryz.checked) (os := os) (X := fun w _ => laidMetH Tryz.prog Rows.parseKnownRow.laid w) false (World.laidAll Tryz.prog os Rows.parseKnownRow.laid) #[] 8 (World.laidAll_os _ _ _)
      (World.shaped_of_ZipB (by kernel_rfl) (by kernel_rfl)) (by kernel_rfl) (by kernel_rfl) (by kernel_rfl)
      (by rw [MakeChecks.laidMetH_plain _ _ _ (by kernel_rfl)]; exact laidMet_laidAll _ (by kernel_rfl) (by kernel_rfl))) ?_
  intro W base args ds gs before hval0 hW hL hsh
  have hval : ∀ (j : Nat) t v, Tryz.f5.params[j]? = some t → args[j]? = some v → Value.okWide Tryz.prog W .any base t v := hval0
  have hW' := hW
  obtain ⟨p, q, hA0, hV, rfl, _, _⟩ := hW
  have hA : DataW.TrodAll enc Tryz.prog W 0 (fun _ => true) true Tryz.f5.params.toList args.toList ds p := hA0
  rw [Tryz.params5] at hA hval
  obtain ⟨rfl, rfl, rfl⟩ := trodAll_none hA
  obtain ⟨rfl, rfl⟩ := trodVars_none hV
  simp only [List.append_nil] at hW'
  refine (r_callParseKnown (r_glob hL hsh) ).mono fun e W' ⟨he, hk⟩ => ?_
  subst he
  refine ⟨_, rfl, _, _, _, [], [], [], hW', ?_, ?_, ?_, hk _, fun h => by cases h⟩
  · exact trodAll_mk1 (shut_bool Tryz.underlying4 true)
  · exact trodAll_mk0 
  · rfl
theorem parseKnown_k1 : Rows.parseKnownRow.wf (OpenSpec.ofChange Rows.parseKnownSpec) = true := by kernel_rfl
theorem parseKnown_k2 : Tryz.f5.params.all (Tryz.checked.prog.readableRec ·) = true := by kernel_rfl
theorem parseKnown_k3 : namedTie Tryz.checked.prog Rows.parseKnownRow.named Rows.parseKnownSpec.vars = true := by kernel_rfl
theorem parseKnown_k4 : (Rows.parseKnownRow.stops == []) = true := by kernel_rfl
theorem parseKnown_k5 : (Rows.parseKnownRow.knobs == []) = true := by kernel_rfl
theorem parseKnown_k6 : (Rows.parseKnownRow.inPlace == Tryz.checked.prog.inPlace 5) = true := by kernel_rfl
theorem parseKnown_k7 : (Rows.parseKnownRow.unfollowed == Tryz.checked.prog.unfollowed 5) = true := by kernel_rfl
theorem parseKnown_k8 : (Rows.parseKnownRow.recurses == Tryz.checked.prog.recurses 5) = true := by kernel_rfl
theorem parseKnown_k9 : (Rows.parseKnownRow.named == Tryz.checked.prog.varsNamed 5) = true := by kernel_rfl
theorem parseKnown_k10 : (Rows.parseKnownRow.maps == (Tryz.f5.params.toList ++ Rows.parseKnownSpec.plain.varTypes Tryz.checked.prog).any (Tryz.checked.prog.mapsRec ·)) = true := by kernel_rfl
theorem parseKnown_k11 : (Rows.parseKnownRow.ifaces == (Tryz.f5.params.toList ++ Rows.parseKnownSpec.plain.varTypes Tryz.checked.prog).any (Tryz.checked.prog.ifacesRec ·)) = true := by kernel_rfl
theorem parseKnown_k12 : (Rows.parseKnownRow.mapsOut == Tryz.checked.prog.mapsAmong Tryz.f5.resultTypes.toList) = true := by kernel_rfl
theorem parseKnown_k13 : (Rows.parseKnownRow.loops == (Tryz.f5.params.toList ++ Rows.parseKnownSpec.plain.varTypes Tryz.checked.prog).any (Tryz.checked.prog.loopsFrom ·)) = true := by kernel_rfl
theorem parseKnown_k14 : (Rows.parseKnownRow.wideKeys == (Tryz.f5.params.toList ++ Rows.parseKnownSpec.plain.varTypes Tryz.checked.prog ++ Tryz.f5.resultTypes.toList).any (Tryz.checked.prog.wideKeysFrom ·)) = true := by kernel_rfl
theorem parseKnown_k15 : Rows.parseKnownSpec.vars.all (Tryz.checked.prog.varReadable ·) = true := by kernel_rfl
theorem parseKnown_k16 : Tryz.f5.resultTypes.all (fun t => Tryz.checked.prog.readableRec t && decide (t < Tryz.checked.prog.types.size)) = true := by kernel_rfl
theorem parseKnown_k17 : (Rows.parseKnownRow.ifacesOut == Tryz.f5.resultTypes.toList.any (Tryz.checked.prog.ifacesRec ·)) = true := by kernel_rfl
theorem parseKnown_k18 : (Rows.parseKnownRow.loopsOut == Tryz.f5.resultTypes.toList.any (Tryz.checked.prog.loopsFrom ·)) = true := by kernel_rfl
theorem parseKnown_k19 : Rows.parseKnownRow.shortTexts.isNone = true := by kernel_rfl
theorem parseKnown_k20 : (Rows.parseKnownRow.kinds == (if Rows.parseKnownRow.domain.isEmpty then [] else Tryz.f5.params.toList.map fun t => match Tryz.checked.prog.underlying t with | some (.int k) => some k | _ => none)) = true := by kernel_rfl
theorem parseKnown_k21 : (Rows.parseKnownRow.pinned == Rows.parseKnownRow.pinnedBy) = true := by kernel_rfl
theorem parseKnown_k22 : (Rows.parseKnownRow.veiled == (Tryz.f5.params.toList ++ Rows.parseKnownSpec.plain.varTypes Tryz.checked.prog ++ Tryz.f5.resultTypes.toList).any (Tryz.checked.prog.veiledRec ·)) = true := by kernel_rfl
theorem parseKnown_k23 : Rows.parseKnownRow.veiledFits Tryz.checked.prog Tryz.f5.params.toList (Tryz.f5.params.toList ++ Rows.parseKnownSpec.plain.varTypes Tryz.checked.prog ++ Tryz.f5.resultTypes.toList) = true := by kernel_rfl
theorem parseKnown_closed : joinedFacts Tryz.checked.prog 5 Tryz.f5 Rows.parseKnownSpec Rows.parseKnownRow = true := joined_of jp1 jp2 jp3 jp4 jp5 jp6 jp7 jp8 jp9 parseKnown_k1 parseKnown_k2 parseKnown_k3 parseKnown_k4 parseKnown_k5 parseKnown_k6 parseKnown_k7 parseKnown_k8 parseKnown_k9 parseKnown_k10 parseKnown_k11 parseKnown_k12 parseKnown_k13 parseKnown_k14 parseKnown_k15 parseKnown_k16 parseKnown_k17 parseKnown_k18 parseKnown_k19 parseKnown_k20 parseKnown_k21 parseKnown_k22 parseKnown_k23
theorem parseKnown_holds : Rows.ParseKnownSaid :=
  OpenClaim.holds_of_wide 5 Tryz.f5 rfl rfl rfl rfl rfl rfl rfl ⟨rfl, rfl, rfl, rfl, rfl⟩ rfl rfl rfl rfl rfl (by kernel_rfl) Tryz.func5 parseKnown_closed
    (of_decide_eq_true (by kernel_rfl)) (by unfold Func.isWrapper; first | (rw [if_pos (by decide +kernel)]; kernel_rfl) | (rw [if_neg (by decide +kernel)]; exact ⟨rfl, rfl⟩))
    (fun os started H enc _ => parseKnown_lifted os started H enc)
theorem parseKnown_w : Rows.parseKnownRow.wfByText (OpenSpec.ofChange Rows.parseKnownSpec) = true := by kernel_rfl
theorem parseKnown_named : Tryz.prog.funcNamed Rows.parseKnownRow.func = some 5 := by kernel_rfl
theorem parseKnown_goes : false = Rows.parseKnownRow.goesBy Tryz.checked.prog := by kernel_rfl
theorem parseKnown_card_holds : Rows.ParseKnownCardSaid :=
  Claim7.holds_tied_plain_at .later [] _ _ _ _ parseKnown_holds (fun _ h => by cases h) parseKnown_w (fun _ h => by cases h) parseKnown_row_tie rfl ⟨rfl, rfl⟩ jp10 rfl
    (fun f fn hf hfn => by
      obtain rfl : f = 5 := Option.some.inj (parseKnown_named.symm.trans hf) |>.symm
      obtain rfl : fn = Tryz.f5 := (Option.some.inj (Tryz.func5.symm.trans hfn)).symm
      exact ⟨jp11, fun j t ht => by
        rw [Tryz.params5] at ht
        have hm : False := by simpa using Array.mem_of_getElem? ht
        exact hm.elim⟩)
    parseKnown_goes
end Go.Proofs.YtjmoaahgfjaafaaGreatDoor
end
