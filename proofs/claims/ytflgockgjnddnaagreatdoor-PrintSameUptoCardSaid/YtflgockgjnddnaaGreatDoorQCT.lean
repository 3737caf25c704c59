/-
  The law PrintSame of the printer returns true for every two units whose bulk is at most 1048576: the second form's tied card of its row.
-/
import Derived.Deep.DeepHandedRow
import Derived.Carry
import Derived.Test.YtflgockgjnddnaaGreatDoorG10
set_option linter.unusedVariables false
set_option linter.unusedSimpArgs false
set_option linter.all false
section
set_option maxRecDepth 100000
set_option maxHeartbeats 8000000
namespace Go.PM.Lex
open Go.Proofs
variable {w0 : World} {nG : Nat}
theorem cPrintSame (hg : GlobOK w0 nG) (hL : LexC w0 nG) : PCalls (GG w0 nG) 5 (spPrSame 2097152) := prSame_ok ⟨⟨cZUn 6000, spSz_mono _ _ _ _⟩, ⟨cSameU 2097152, spSt_mono _ _ _ _⟩, ⟨cKUnit 2097152, spKU_mono _⟩, ⟨works16_ok ⟨⟨cPE hg hL 1000, spPE_mono _⟩, trivial⟩, spTrue16_mono⟩, trivial⟩
theorem r_callPrintSame {W : World} (hg : GlobOK W 8) (hL : LexC W 8) {a0 : Array Value} {x0 : Un} (h0 : VRel (GG W 8) ePure ⟨[], [], 0⟩ W (.agg ((encUn plZ x0).map .d)) (.agg a0)) (z0 : szUn x0 ≤ 2097152) (y0 : wUn x0 ≤ 2097152) (r0 : rngU x0 = true) {a1 : Array Value} {x1 : Un} (h1 : VRel (GG W 8) ePure ⟨[], [], 0⟩ W (.agg ((encUn plZ x1).map .d)) (.agg a1)) (z1 : szUn x1 ≤ 2097152) (y1 : wUn x1 ≤ 2097152) (r1 : rngU x1 = true) :
    Calls Tryz.prog 5 #[.agg a0, .agg a1] W fun e W' => e = .returned (.bool true) ∧ (∀ may, W.keptBut W' may) ∧ RowKit.Below W.heap.size W W' := by
  have hsz : 8 ≤ W.heap.size := by
    obtain ⟨ev, h1, _⟩ := hg.errRange
    have := World.block_lt_of_cell? W ⟨7, 0, none⟩ h1
    simp at this; omega
  have hc := (cPrintSame hg hL).calls [.agg ((encUn plZ x0).map .d), .agg ((encUn plZ x1).map .d)] ⟨[], [], 0⟩ (fun pe _ => pe = .ret (.d (.bool true))) ⟨⟨plZ, x0, plZ, x1, rfl, rfl, z0, z1, by decide⟩, rfl⟩ 0 ePure W #[.agg a0, .agg a1] (r_start hsz) ⟨rfl, fun i x u hx hu => by
    match i, hx, hu with
    | 0, hx, hu => cases hx; cases hu; exact h0
    | 1, hx, hu => cases hx; cases hu; exact h1
    | i + 2, hx, hu => simp at hx⟩
  refine Calls.mono (callsIn_wide.1 hc) fun en W' ⟨pe, σ', e', hK, hE, hS, hL⟩ => ?_
  subst hK
  obtain ⟨v, rfl, hv⟩ := hE
  cases hv with
  | d _ _ hd =>
    cases hd
    exact ⟨rfl, fun may => r_kept hL, ⟨hL.os, hL.tape, hL.output, hL.size, fun k hk => hL.blocks k hk (fun i hi => by simp at hi) (fun t ht => by cases ht)⟩⟩
end Go.PM.Lex
namespace Go.Proofs.YtflgockgjnddnaaGreatDoor
open Go.ChangeShapes Go.WideShapes Go.ChangeAt Go.RowKit Go.ChangeMaps Go.PM.Lex
theorem printSame_contract (H : Type) (enc : TypeId × Value → H) (W : World) (base : Nat) (args : Array Value) (ds gs : List (DataW H)) (before : List MemPlace)
    (hval : ∀ (j : Nat) t v, Tryz.f5.params[j]? = some t → args[j]? = some v → Value.okWide Tryz.prog W .any base t v)
    (hW : DataW.Whole enc Tryz.prog Tryz.f5.params.toList Rows.printSameSpec.vars false W args.toList ds gs before) (hk : Rows.uptoSmall H (ds ++ gs) = true)
    (hL : laidMetH Tryz.prog Rows.printSameUptoRow.laid W) (hsh : W.ShapedOpen Tryz.prog) :
    Calls Tryz.prog 5 args W fun e W' => ∃ v, e = .returned v ∧ Rows.printSameSpec.post enc Tryz.prog Tryz.f5 false true false false W args v W' := by
  have hW' := hW
  obtain ⟨p, q, hA0, hV, rfl, _, _⟩ := hW
  have hA : DataW.TrodAll enc Tryz.prog W 0 (fun _ => true) true Tryz.f5.params.toList args.toList ds p := hA0
  have hlt := DataW.TrodAll.lt hA
  rw [Tryz.params5] at hA hval
  obtain ⟨v0, v1, d0, d1, p0, p1, rfl, rfl, rfl, h0, h1⟩ := trodAll_two hA
  obtain ⟨rfl, rfl⟩ := trodVars_none hV
  obtain ⟨a0, rfl⟩ : ∃ cs, v0 = .agg cs := by
    have : Value.okWide Tryz.prog W .any base 44 v0 := hval 0 _ v0 rfl rfl
    unfold Value.okWide at this
    rw [Tryz.underlying44] at this
    obtain ⟨cs, h, _⟩ := this; exact ⟨cs, h⟩
  obtain ⟨x0, hx0, zs0, zw0, rg0⟩ := arg_unit (nG := 8) h0
  obtain ⟨a1, rfl⟩ : ∃ cs, v1 = .agg cs := by
    have : Value.okWide Tryz.prog W .any base 44 v1 := hval 1 _ v1 rfl rfl
    unfold Value.okWide at this
    rw [Tryz.underlying44] at this
    obtain ⟨cs, h, _⟩ := this; exact ⟨cs, h⟩
  obtain ⟨x1, hx1, zs1, zw1, rg1⟩ := arg_unit (nG := 8) h1
  have hb : Rows.uptoBulkAll ([d0, d1] ++ []) ≤ 1048576 := of_decide_eq_true hk
  simp only [List.append_nil, Rows.uptoBulkAll] at hb
  simp only [List.append_nil] at hW'
  have hg := r_glob hL hsh
  refine (r_callPrintSame hg (cLexC (by decide) (r_tabs hL)) hx0 (by omega) (by omega) rg0 hx1 (by omega) (by omega) rg1).mono fun e W' ⟨he, hk, hbl⟩ => ?_
  subst he
  refine ⟨_, rfl, _, _, _, [], (p0 ++ p1), [], hW', ?_, ?_, ?_, hk _, fun h => by cases h⟩
  · exact trodAll_mk1 (shut_bool Tryz.underlying4 true)
  · exact trodAll_mk2 (hbl.trod jp1 (by kernel_rfl) (of_decide_eq_true (by kernel_rfl)) h0 fun z hz => hlt z (by simp [hz])) (hbl.trod jp1 (by kernel_rfl) (of_decide_eq_true (by kernel_rfl)) h1 fun z hz => hlt z (by simp [hz]))
  · rfl
theorem printSame_reads (os : Os) {H : Type} (enc : TypeId × Value → H) : ∃ places, DataW.whole enc Tryz.prog ((World.laidAll Tryz.prog os Rows.printSameUptoRow.laid).forCall (fun _ _ => 0) ⟨#[], #[.agg #[.slice none 0 0, .slice none 0 0, .slice none 0 0, .slice none 0 0, .slice none 0 0, .slice none 0 0], .agg #[.slice none 0 0, .slice none 0 0, .slice none 0 0, .slice none 0 0, .slice none 0 0, .slice none 0 0]], []⟩).memory Tryz.f5.params.toList Rows.printSameSpec.vars false #[Value.agg #[.slice none 0 0, .slice none 0 0, .slice none 0 0, .slice none 0 0, .slice none 0 0, .slice none 0 0], .agg #[.slice none 0 0, .slice none 0 0, .slice none 0 0, .slice none 0 0, .slice none 0 0, .slice none 0 0]].toList 8 = some ([.agg [.nil, .nil, .nil, .nil, .nil, .nil], .agg [.nil, .nil, .nil, .nil, .nil, .nil]], [], places) :=
  ⟨[], by kernel_rfl⟩
theorem printSame_lifted (os : Os) (started : os.Started) (H : Type) (enc : TypeId × Value → H) (F : Stop.Interp) :
    ReturnsInHanded {} Tryz.checked os 5 .any ((Rows.OpenSpec.upto Rows.printSameSpec).preRow enc Tryz.prog Tryz.f5 Rows.printSameUptoRow.domain false Rows.printSameUptoRow.laid) (((Rows.OpenSpec.upto Rows.printSameSpec).at F).post enc Tryz.prog Tryz.f5 false true false false) := by
  obtain ⟨places, hx⟩ := printSame_reads os enc
  refine returnsInHanded_of_row (C := Tryz.checked) (s := Rows.OpenSpec.upto Rows.printSameSpec) r_own started (by kernel_rfl) Tryz.func5
    ⟨World.laidAll Tryz.prog os Rows.printSameUptoRow.laid, fun _ _ => 0, ⟨#[], #[.agg #[.slice none 0 0, .slice none 0 0, .slice none 0 0, .slice none 0 0, .slice none 0 0, .slice none 0 0], .agg #[.slice none 0 0, .slice none 0 0, .slice none 0 0, .slice none 0 0, .slice none 0 0, .slice none 0 0]], []⟩, World.laidAll_os _ _ _, World.shaped_of_ZipB (by kernel_rfl) (by kernel_rfl), rfl, (Input.okWide_of_okWideB (base := 0) (by kernel_rfl)).2,
      OpenSpec.preRow_of_cond 8 hx (by kernel_rfl) (fun k hk => by cases hk; kernel_rfl) (by kernel_rfl) (by rw [MakeChecks.laidMetH_plain _ _ _ (by kernel_rfl)]; exact laidMet_laidAll _ (by kernel_rfl) (by kernel_rfl)),
      by simp only [Assume.holds]; exact ⟨by simp, by simp, fun _ => Modest.zero, by simp, by simp⟩⟩ ?_
  intro W base args ds gs before hval hW _ hcond _ hL hsh _
  exact printSame_contract H enc W base args ds gs before hval hW (hcond _ rfl) hL hsh
theorem printSame_k1 : Rows.printSameUptoRow.wf (OpenSpec.ofChange Rows.printSameSpec) = true := by kernel_rfl
theorem printSame_k2 : Tryz.f5.params.all (Tryz.checked.prog.readableRec ·) = true := by kernel_rfl
theorem printSame_k3 : namedTie Tryz.checked.prog Rows.printSameUptoRow.named Rows.printSameSpec.vars = true := by kernel_rfl
theorem printSame_k4 : (Rows.printSameUptoRow.stops == []) = true := by kernel_rfl
theorem printSame_k5 : (Rows.printSameUptoRow.knobs == []) = true := by kernel_rfl
theorem printSame_k6 : (Rows.printSameUptoRow.inPlace == Tryz.checked.prog.inPlace 5) = true := by kernel_rfl
theorem printSame_k7 : (Rows.printSameUptoRow.unfollowed == Tryz.checked.prog.unfollowed 5) = true := by kernel_rfl
theorem printSame_k8 : (Rows.printSameUptoRow.recurses == Tryz.checked.prog.recurses 5) = true := by kernel_rfl
theorem printSame_k9 : (Rows.printSameUptoRow.named == Tryz.checked.prog.varsNamed 5) = true := by kernel_rfl
theorem printSame_k10 : (Rows.printSameUptoRow.maps == (Tryz.f5.params.toList ++ Rows.printSameSpec.plain.varTypes Tryz.checked.prog).any (Tryz.checked.prog.mapsRec ·)) = true := by kernel_rfl
theorem printSame_k11 : (Rows.printSameUptoRow.ifaces == (Tryz.f5.params.toList ++ Rows.printSameSpec.plain.varTypes Tryz.checked.prog).any (Tryz.checked.prog.ifacesRec ·)) = true := by kernel_rfl
theorem printSame_k12 : (Rows.printSameUptoRow.mapsOut == Tryz.checked.prog.mapsAmong Tryz.f5.resultTypes.toList) = true := by kernel_rfl
theorem printSame_k13 : (Rows.printSameUptoRow.loops == (Tryz.f5.params.toList ++ Rows.printSameSpec.plain.varTypes Tryz.checked.prog).any (Tryz.checked.prog.loopsFrom ·)) = true := by kernel_rfl
theorem printSame_k14 : (Rows.printSameUptoRow.wideKeys == (Tryz.f5.params.toList ++ Rows.printSameSpec.plain.varTypes Tryz.checked.prog ++ Tryz.f5.resultTypes.toList).any (Tryz.checked.prog.wideKeysFrom ·)) = true := by kernel_rfl
theorem printSame_k15 : Rows.printSameSpec.vars.all (Tryz.checked.prog.varReadable ·) = true := by kernel_rfl
theorem printSame_k16 : Tryz.f5.resultTypes.all (fun t => Tryz.checked.prog.readableRec t && decide (t < Tryz.checked.prog.types.size)) = true := by kernel_rfl
theorem printSame_k17 : (Rows.printSameUptoRow.ifacesOut == Tryz.f5.resultTypes.toList.any (Tryz.checked.prog.ifacesRec ·)) = true := by kernel_rfl
theorem printSame_k18 : (Rows.printSameUptoRow.loopsOut == Tryz.f5.resultTypes.toList.any (Tryz.checked.prog.loopsFrom ·)) = true := by kernel_rfl
theorem printSame_k19 : Rows.printSameUptoRow.shortTexts.isNone = true := by kernel_rfl
theorem printSame_k20 : (Rows.printSameUptoRow.kinds == (if Rows.printSameUptoRow.domain.isEmpty then [] else Tryz.f5.params.toList.map fun t => match Tryz.checked.prog.underlying t with | some (.int k) => some k | _ => none)) = true := by kernel_rfl
theorem printSame_k21 : (Rows.printSameUptoRow.pinned == Rows.printSameUptoRow.pinnedBy) = true := by kernel_rfl
theorem printSame_k22 : (Rows.printSameUptoRow.veiled == (Tryz.f5.params.toList ++ Rows.printSameSpec.plain.varTypes Tryz.checked.prog ++ Tryz.f5.resultTypes.toList).any (Tryz.checked.prog.veiledRec ·)) = true := by kernel_rfl
theorem printSame_k23 : Rows.printSameUptoRow.veiledFits Tryz.checked.prog Tryz.f5.params.toList (Tryz.f5.params.toList ++ Rows.printSameSpec.plain.varTypes Tryz.checked.prog ++ Tryz.f5.resultTypes.toList) = true := by kernel_rfl
theorem printSame_closed : joinedFacts Tryz.checked.prog 5 Tryz.f5 Rows.printSameSpec Rows.printSameUptoRow = true := joined_of jp1 jp2 jp3 jp4 jp5 jp6 jp7 jp8 jp9 printSame_k1 printSame_k2 printSame_k3 printSame_k4 printSame_k5 printSame_k6 printSame_k7 printSame_k8 printSame_k9 printSame_k10 printSame_k11 printSame_k12 printSame_k13 printSame_k14 printSame_k15 printSame_k16 printSame_k17 printSame_k18 printSame_k19 printSame_k20 printSame_k21 printSame_k22 printSame_k23
theorem printSame_holds : Rows.PrintSameUptoSaid :=
  OpenClaim.holds_of_cond 5 Tryz.f5 rfl rfl rfl rfl rfl rfl rfl ⟨rfl, rfl, rfl, rfl, rfl⟩ rfl rfl rfl rfl rfl (by kernel_rfl) Tryz.func5 printSame_closed
    (of_decide_eq_true (by kernel_rfl)) (by unfold Func.isWrapper; first | (rw [if_pos (by decide +kernel)]; kernel_rfl) | (rw [if_neg (by decide +kernel)]; exact ⟨rfl, rfl⟩))
    (fun os started H enc _ F => by rw [OpenClaim.pre_eq_preRow]; exact printSame_lifted os started H enc F)
theorem printSame_w : Rows.printSameUptoRow.wfByText (Rows.OpenSpec.upto Rows.printSameSpec) = true := by kernel_rfl
theorem printSame_named : Tryz.prog.funcNamed Rows.printSameUptoRow.func = some 5 := by kernel_rfl
theorem printSame_goes : false = Rows.printSameUptoRow.goesBy Tryz.checked.prog := by kernel_rfl
theorem printSame_card_holds : Rows.PrintSameUptoCardSaid :=
  Claim7.holds_tied_plain_at .later [] _ _ _ _ printSame_holds (fun _ h => by cases h) printSame_w (fun _ h => by cases h) printSameUpto_row_tie rfl ⟨rfl, rfl⟩ jp10 rfl
    (fun f fn hf hfn => by
      obtain rfl : f = 5 := Option.some.inj (printSame_named.symm.trans hf) |>.symm
      obtain rfl : fn = Tryz.f5 := (Option.some.inj (Tryz.func5.symm.trans hfn)).symm
      exact ⟨jp11, fun j t ht => by
        rw [Tryz.params5] at ht
        have hm : t ∈ [44, 44] := by simpa using Array.mem_of_getElem? ht
        have hall : ([44, 44].all fun u => !Tryz.prog.wantsStandIn u) = true := by kernel_rfl
        exact (show Tryz.prog.wantsStandIn t = false by simpa using List.all_eq_true.1 hall t hm)⟩)
    printSame_goes
end Go.Proofs.YtflgockgjnddnaaGreatDoor
end
