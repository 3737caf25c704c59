/-
  The law PrintUnits of the printer returns true for every unit whose bulk is at most 1048576: the second form's tied card of its row.
-/
import Derived.Deep.DeepHandedRow
import Derived.Carry
import Derived.Test.YtkoicjdlpkaopaaGreatDoorU12
set_option linter.unusedVariables false
set_option linter.unusedSimpArgs false
set_option linter.all false
set_option maxRecDepth 100000
set_option maxHeartbeats 16000000
section
namespace Go.PM.Lex
open Go.Proofs
variable {w0 : World} {nG : Nat}
theorem Zjn (hg : GlobOK w0 nG) (hN : NumOK w0 nG) (hL : LexC w0 nG) : PCalls (GG w0 nG) 3 (Zec 2097152) := Zmn ⟨ZAU 6000, ZAi 2097152, ZAg hg hN hL 2097152, Zl0 ⟨cPE hg hN hL 1000, trivial⟩, trivial⟩
theorem Zcy {W : World} (hg : GlobOK W 8) (hN : NumOK W 8) (hL : LexC W 8) {a0 : Array Value} {x0 : Un} (h0 : VRel (GG W 8) Zmo ⟨[], [], 0⟩ W (.agg ((Yg plZ x0).map .d)) (.agg a0)) (z0 : Zfe x0 ≤ 2097152) (y0 : wUn x0 ≤ 2097152) (r0 : ZiL x0 = true) :
    Calls Tryz.prog 3 #[.agg a0] W fun e W' => e = .returned (.bool true) ∧ (∀ may, W.keptBut W' may) ∧ RowKit.Below W.heap.size W W' := by
  have hsz : 8 ≤ W.heap.size := by
    obtain ⟨ev, h1, _⟩ := hg.errRange
    have := World.block_lt_of_cell? W ⟨7, 0, none⟩ h1
    simp at this; omega
  have hc := (Zjn hg hN hL).calls [.agg ((Yg plZ x0).map .d)] ⟨[], [], 0⟩ (fun pe _ => pe = .ret (.d (.bool true))) ⟨⟨plZ, x0, rfl, ⟨z0, y0, r0⟩, by decide⟩, rfl⟩ 0 Zmo W #[.agg a0] (Zwn hsz) ⟨rfl, fun i x u hx hu => by
    match i, hx, hu with
    | 0, hx, hu => cases hx; cases hu; exact h0
    | i + 1, hx, hu => simp at hx⟩
  refine Calls.mono (callsIn_wide.1 hc) fun en W' ⟨pe, σ', e', hK, hE, hS, hL⟩ => ?_
  subst hK
  obtain ⟨v, rfl, hv⟩ := hE
  cases hv with
  | d _ _ hd =>
    cases hd
    exact ⟨rfl, fun may => ZyI hL, ⟨hL.os, hL.tape, hL.output, hL.size, fun k hk => hL.blocks k hk (fun i hi => by simp at hi) (fun t ht => by cases ht)⟩⟩
end Go.PM.Lex
namespace Go.Proofs.YtkoicjdlpkaopaaGreatDoor
open Go.ChangeShapes Go.WideShapes Go.ChangeAt Go.RowKit Go.ChangeMaps Go.PM.Lex
theorem printUnits_contract (H : Type) (enc : TypeId × Value → H) (W : World) (base : Nat) (args : Array Value) (ds gs : List (DataW H)) (before : List MemPlace)
    (hval : ∀ (j : Nat) t v, Tryz.f3.params[j]? = some t → args[j]? = some v → Value.okWide Tryz.prog W .any base t v)
    (hW : DataW.Whole enc Tryz.prog Tryz.f3.params.toList Rows.printUnitsSpec.vars false W args.toList ds gs before) (hk : Rows.uptoSmall H (ds ++ gs) = true)
    (hL : laidMetH Tryz.prog Rows.printUnitsUptoRow.laid W) (hsh : W.ShapedOpen Tryz.prog) :
    Calls Tryz.prog 3 args W fun e W' => ∃ v, e = .returned v ∧ Rows.printUnitsSpec.post enc Tryz.prog Tryz.f3 false true false false W args v W' := by
  have hW' := hW
  obtain ⟨p, q, hA0, hV, rfl, _, _⟩ := hW
  have hA : DataW.TrodAll enc Tryz.prog W 0 (fun _ => true) true Tryz.f3.params.toList args.toList ds p := hA0
  have hlt := DataW.TrodAll.lt hA
  rw [Tryz.params3] at hA hval
  obtain ⟨v0, d0, rfl, rfl, h0⟩ := trodAll_one hA
  obtain ⟨rfl, rfl⟩ := trodVars_none hV
  obtain ⟨a0, rfl⟩ : ∃ cs, v0 = .agg cs := by
    have : Value.okWide Tryz.prog W .any base 29 v0 := hval 0 _ v0 rfl rfl
    unfold Value.okWide at this
    rw [Tryz.underlying29] at this
    obtain ⟨cs, h, _⟩ := this; exact ⟨cs, h⟩
  obtain ⟨x0, hx0, zs0, zw0, rg0⟩ := Zsy (nG := 8) h0
  have hb : Rows.uptoBulkAll ([d0] ++ []) ≤ 1048576 := of_decide_eq_true hk
  simp only [List.append_nil, Rows.uptoBulkAll] at hb
  simp only [List.append_nil] at hW'
  have hg := ZyH hL hsh
  refine (Zcy hg (ZAm hL) (ZAk (by decide) (ZyJ hL)) hx0 (by omega) (by omega) rg0).mono fun e W' ⟨he, hk, hbl⟩ => ?_
  subst he
  refine ⟨_, rfl, _, _, _, [], (p), [], hW', ?_, ?_, ?_, hk _, fun h => by cases h⟩
  · exact trodAll_mk1 (shut_bool Tryz.underlying4 true)
  · exact trodAll_mk1 (hbl.trod jp1 (by kernel_rfl) (of_decide_eq_true (by kernel_rfl)) h0 fun z hz => hlt z (by simp [hz]))
  · rfl
theorem printUnits_reads (os : Os) {H : Type} (enc : TypeId × Value → H) : ∃ places, DataW.whole enc Tryz.prog ((World.laidAll Tryz.prog os Rows.printUnitsUptoRow.laid).forCall (fun _ _ => 0) ⟨#[], #[.agg #[.slice none 0 0, .slice none 0 0, .slice none 0 0, .slice none 0 0, .slice none 0 0, .slice none 0 0]], []⟩).memory Tryz.f3.params.toList Rows.printUnitsSpec.vars false #[Value.agg #[.slice none 0 0, .slice none 0 0, .slice none 0 0, .slice none 0 0, .slice none 0 0, .slice none 0 0]].toList 8 = some ([.agg [.nil, .nil, .nil, .nil, .nil, .nil]], [], places) :=
  ⟨[], by kernel_rfl⟩
theorem printUnits_lifted (os : Os) (started : os.Started) (H : Type) (enc : TypeId × Value → H) (F : Stop.Interp) :
    ReturnsInHanded {} Tryz.checked os 3 .any ((Rows.OpenSpec.upto Rows.printUnitsSpec).preRow enc Tryz.prog Tryz.f3 Rows.printUnitsUptoRow.domain false Rows.printUnitsUptoRow.laid) (((Rows.OpenSpec.upto Rows.printUnitsSpec).at F).post enc Tryz.prog Tryz.f3 false true false false) := by
  obtain ⟨places, hx⟩ := printUnits_reads os enc
  refine returnsInHanded_of_row (C := Tryz.checked) (s := Rows.OpenSpec.upto Rows.printUnitsSpec) ZAj started (by kernel_rfl) Tryz.func3
    ⟨World.laidAll Tryz.prog os Rows.printUnitsUptoRow.laid, fun _ _ => 0, ⟨#[], #[.agg #[.slice none 0 0, .slice none 0 0, .slice none 0 0, .slice none 0 0, .slice none 0 0, .slice none 0 0]], []⟩, World.laidAll_os _ _ _, World.shaped_of_ZipB (by kernel_rfl) (by kernel_rfl), rfl, (Input.okWide_of_okWideB (base := 0) (by kernel_rfl)).2,
      OpenSpec.preRow_of_cond 8 hx (by kernel_rfl) (fun k hk => by cases hk; kernel_rfl) (by kernel_rfl) (by rw [MakeChecks.laidMetH_plain _ _ _ (by kernel_rfl)]; exact laidMet_laidAll _ (by kernel_rfl) (by kernel_rfl)),
      by simp only [Assume.holds]; exact ⟨by simp, by simp, fun _ => Modest.zero, by simp, by simp⟩⟩ ?_
  intro W base args ds gs before hval hW _ hcond _ hL hsh _
  exact printUnits_contract H enc W base args ds gs before hval hW (hcond _ rfl) hL hsh
theorem Zgs : Rows.printUnitsUptoRow.wf (OpenSpec.ofChange Rows.printUnitsSpec) = true := by kernel_rfl
theorem Zgt : Tryz.f3.params.all (Tryz.checked.prog.readableRec ·) = true := by kernel_rfl
theorem Zgu : namedTie Tryz.checked.prog Rows.printUnitsUptoRow.named Rows.printUnitsSpec.vars = true := by kernel_rfl
theorem Zgv : (Rows.printUnitsUptoRow.stops == []) = true := by kernel_rfl
theorem Zgw : (Rows.printUnitsUptoRow.knobs == []) = true := by kernel_rfl
theorem Zgx : (Rows.printUnitsUptoRow.inPlace == Tryz.checked.prog.inPlace 3) = true := by kernel_rfl
theorem Zgy : (Rows.printUnitsUptoRow.unfollowed == Tryz.checked.prog.unfollowed 3) = true := by kernel_rfl
theorem Zgz : (Rows.printUnitsUptoRow.recurses == Tryz.checked.prog.recurses 3) = true := by kernel_rfl
theorem ZgA : (Rows.printUnitsUptoRow.named == Tryz.checked.prog.varsNamed 3) = true := by kernel_rfl
theorem Zep : (Rows.printUnitsUptoRow.maps == (Tryz.f3.params.toList ++ Rows.printUnitsSpec.plain.varTypes Tryz.checked.prog).any (Tryz.checked.prog.mapsRec ·)) = true := by kernel_rfl
theorem Zeq : (Rows.printUnitsUptoRow.ifaces == (Tryz.f3.params.toList ++ Rows.printUnitsSpec.plain.varTypes Tryz.checked.prog).any (Tryz.checked.prog.ifacesRec ·)) = true := by kernel_rfl
theorem Zer : (Rows.printUnitsUptoRow.mapsOut == Tryz.checked.prog.mapsAmong Tryz.f3.resultTypes.toList) = true := by kernel_rfl
theorem Zes : (Rows.printUnitsUptoRow.loops == (Tryz.f3.params.toList ++ Rows.printUnitsSpec.plain.varTypes Tryz.checked.prog).any (Tryz.checked.prog.loopsFrom ·)) = true := by kernel_rfl
theorem Zet : (Rows.printUnitsUptoRow.wideKeys == (Tryz.f3.params.toList ++ Rows.printUnitsSpec.plain.varTypes Tryz.checked.prog ++ Tryz.f3.resultTypes.toList).any (Tryz.checked.prog.wideKeysFrom ·)) = true := by kernel_rfl
theorem Zeu : Rows.printUnitsSpec.vars.all (Tryz.checked.prog.varReadable ·) = true := by kernel_rfl
theorem Zev : Tryz.f3.resultTypes.all (fun t => Tryz.checked.prog.readableRec t && decide (t < Tryz.checked.prog.types.size)) = true := by kernel_rfl
theorem Zew : (Rows.printUnitsUptoRow.ifacesOut == Tryz.f3.resultTypes.toList.any (Tryz.checked.prog.ifacesRec ·)) = true := by kernel_rfl
theorem Zex : (Rows.printUnitsUptoRow.loopsOut == Tryz.f3.resultTypes.toList.any (Tryz.checked.prog.loopsFrom ·)) = true := by kernel_rfl
theorem Zey : Rows.printUnitsUptoRow.shortTexts.isNone = true := by kernel_rfl
theorem Zez : (Rows.printUnitsUptoRow.kinds == (if Rows.printUnitsUptoRow.domain.isEmpty then [] else Tryz.f3.params.toList.map fun t => match Tryz.checked.prog.underlying t with | some (.int k) => some k | _ => none)) = true := by kernel_rfl
theorem ZeA : (Rows.printUnitsUptoRow.pinned == Rows.printUnitsUptoRow.pinnedBy) = true := by kernel_rfl
theorem ZeB : (Rows.printUnitsUptoRow.veiled == (Tryz.f3.params.toList ++ Rows.printUnitsSpec.plain.varTypes Tryz.checked.prog ++ Tryz.f3.resultTypes.toList).any (Tryz.checked.prog.veiledRec ·)) = true := by kernel_rfl
theorem ZeC : Rows.printUnitsUptoRow.veiledFits Tryz.checked.prog Tryz.f3.params.toList (Tryz.f3.params.toList ++ Rows.printUnitsSpec.plain.varTypes Tryz.checked.prog ++ Tryz.f3.resultTypes.toList) = true := by kernel_rfl
theorem printUnits_closed : joinedFacts Tryz.checked.prog 3 Tryz.f3 Rows.printUnitsSpec Rows.printUnitsUptoRow = true := Zqc jp1 jp2 jp3 jp4 jp5 jp6 jp7 jp8 jp9 Zgs Zgt Zgu Zgv Zgw Zgx Zgy Zgz ZgA Zep Zeq Zer Zes Zet Zeu Zev Zew Zex Zey Zez ZeA ZeB ZeC
theorem printUnits_holds : Rows.PrintUnitsUptoSaid :=
  OpenClaim.holds_of_cond 3 Tryz.f3 rfl rfl rfl rfl rfl rfl rfl ⟨rfl, rfl, rfl, rfl, rfl⟩ rfl rfl rfl rfl rfl (by kernel_rfl) Tryz.func3 printUnits_closed
    (of_decide_eq_true (by kernel_rfl)) (by unfold Func.isWrapper; first | (rw [if_pos (by decide +kernel)]; kernel_rfl) | (rw [if_neg (by decide +kernel)]; exact ⟨rfl, rfl⟩))
    (fun os started H enc _ F => by rw [OpenClaim.pre_eq_preRow]; exact printUnits_lifted os started H enc F)
theorem printUnits_w : Rows.printUnitsUptoRow.wfByText (Rows.OpenSpec.upto Rows.printUnitsSpec) = true := by kernel_rfl
theorem printUnits_named : Tryz.prog.funcNamed Rows.printUnitsUptoRow.func = some 3 := by kernel_rfl
theorem printUnits_goes : false = Rows.printUnitsUptoRow.goesBy Tryz.checked.prog := by kernel_rfl
theorem printUnits_card_holds : Rows.PrintUnitsUptoCardSaid :=
  Claim7.holds_tied_plain_at .later [] _ _ _ _ printUnits_holds (fun _ h => by cases h) printUnits_w (fun _ h => by cases h) printUnitsUpto_row_tie rfl ⟨rfl, rfl⟩ jp10 rfl
    (fun f fn hf hfn => by
      obtain rfl : f = 3 := Option.some.inj (printUnits_named.symm.trans hf) |>.symm
      obtain rfl : fn = Tryz.f3 := (Option.some.inj (Tryz.func3.symm.trans hfn)).symm
      exact ⟨jp11, fun j t ht => by
        rw [Tryz.params3] at ht
        have hm : t ∈ [29] := by simpa using Array.mem_of_getElem? ht
        have hall : ([29].all fun u => !Tryz.prog.wantsStandIn u) = true := by kernel_rfl
        exact (show Tryz.prog.wantsStandIn t = false by simpa using List.all_eq_true.1 hall t hm)⟩)
    printUnits_goes
end Go.Proofs.YtkoicjdlpkaopaaGreatDoor
end
