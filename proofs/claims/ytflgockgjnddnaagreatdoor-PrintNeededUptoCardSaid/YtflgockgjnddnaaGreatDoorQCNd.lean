/-
  The law PrintNeeded of the printer returns true for every expression whose bulk is at most 1048576: the second form's tied card of its row.
-/
import Derived.Deep.DeepHandedRow
import Derived.Carry
import Derived.Test.YtflgockgjnddnaaGreatDoorU11
set_option linter.unusedVariables false
set_option linter.unusedSimpArgs false
set_option linter.all false
section
set_option maxRecDepth 100000
set_option maxHeartbeats 8000000
namespace Go.PM.Lex
open Go.Proofs
variable {w0 : World} {nG : Nat}
theorem cPrintNeeded (hg : GlobOK w0 nG) (hN : NumOK w0 nG) (hL : LexC w0 nG) : PCalls (GG w0 nG) 4 (spPrNeeded 2097152) := prNeeded_ok ⟨⟨cZE 6000, spSz_mono _ _ _ _⟩, ⟨cPE hg hN hL 2097152, spPE_mono _⟩, ⟨cTopE hg, spTopE_mono⟩, ⟨(cSame 1099511627776).1, spSameE_mono _⟩, ⟨works16_ok ⟨⟨cPE hg hN hL 1000, spPE_mono _⟩, trivial⟩, spTrue16_mono⟩, ⟨beg_ok, spBeg_mono⟩, ⟨shut_ok, spShut_mono⟩, trivial⟩
theorem r_callPrintNeeded {W : World} (hg : GlobOK W 8) (hN : NumOK W 8) (hL : LexC W 8) {a0 : Array Value} {x0 : Ex} (h0 : VRel (GG W 8) ePure ⟨[], [], 0⟩ W (.agg ((encE plZ x0).map .d)) (.agg a0)) (z0 : szE x0 ≤ 2097152) (y0 : wE x0 ≤ 2097152) (r0 : rngE x0 = true) :
    Calls Tryz.prog 4 #[.agg a0] W fun e W' => e = .returned (.bool true) ∧ (∀ may, W.keptBut W' may) ∧ RowKit.Below W.heap.size W W' := by
  have hsz : 8 ≤ W.heap.size := by
    obtain ⟨ev, h1, _⟩ := hg.errRange
    have := World.block_lt_of_cell? W ⟨7, 0, none⟩ h1
    simp at this; omega
  have hc := (cPrintNeeded hg hN hL).calls [.agg ((encE plZ x0).map .d)] ⟨[], [], 0⟩ (fun pe _ => pe = .ret (.d (.bool true))) ⟨⟨plZ, x0, rfl, ⟨z0, y0, r0⟩, by decide⟩, rfl⟩ 0 ePure W #[.agg a0] (r_start hsz) ⟨rfl, fun i x u hx hu => by
    match i, hx, hu with
    | 0, hx, hu => cases hx; cases hu; exact h0
    | i + 1, hx, hu => simp at hx⟩
  refine Calls.mono (callsIn_wide.1 hc) fun en W' ⟨pe, σ', e', hK, hE, hS, hL⟩ => ?_
  subst hK
  obtain ⟨v, rfl, hv⟩ := hE
  cases hv with
  | d _ _ hd =>
    cases hd
    exact ⟨rfl, fun may => r_kept hL, ⟨hL.os, hL.tape, hL.output, hL.size, fun k hk => hL.blocks k hk (fun i hi => by simp at hi) (fun t ht => by cases ht)⟩⟩
end Go.PM.Lex
namespace Go.Proofs.YtflgockgjnddnaaGreatDoor
open Go.ChangeShapes Go.WideShapes Go.ChangeAt Go.RowKit Go.ChangeMaps Go.PM.Lex
theorem printNeeded_contract (H : Type) (enc : TypeId × Value → H) (W : World) (base : Nat) (args : Array Value) (ds gs : List (DataW H)) (before : List MemPlace)
    (hval : ∀ (j : Nat) t v, Tryz.f4.params[j]? = some t → args[j]? = some v → Value.okWide Tryz.prog W .any base t v)
    (hW : DataW.Whole enc Tryz.prog Tryz.f4.params.toList Rows.printNeededSpec.vars false W args.toList ds gs before) (hk : Rows.uptoSmall H (ds ++ gs) = true)
    (hL : laidMetH Tryz.prog Rows.printNeededUptoRow.laid W) (hsh : W.ShapedOpen Tryz.prog) :
    Calls Tryz.prog 4 args W fun e W' => ∃ v, e = .returned v ∧ Rows.printNeededSpec.post enc Tryz.prog Tryz.f4 false true false false W args v W' := by
  have hW' := hW
  obtain ⟨p, q, hA0, hV, rfl, _, _⟩ := hW
  have hA : DataW.TrodAll enc Tryz.prog W 0 (fun _ => true) true Tryz.f4.params.toList args.toList ds p := hA0
  have hlt := DataW.TrodAll.lt hA
  rw [Tryz.params4] at hA hval
  obtain ⟨v0, d0, rfl, rfl, h0⟩ := trodAll_one hA
  obtain ⟨rfl, rfl⟩ := trodVars_none hV
  obtain ⟨a0, rfl⟩ : ∃ cs, v0 = .agg cs := by
    have : Value.okWide Tryz.prog W .any base 24 v0 := hval 0 _ v0 rfl rfl
    unfold Value.okWide at this
    rw [Tryz.underlying24] at this
    obtain ⟨cs, h, _⟩ := this; exact ⟨cs, h⟩
  obtain ⟨x0, hx0, zs0, zw0, rg0⟩ := arg_expr (nG := 8) h0
  have hb : Rows.uptoBulkAll ([d0] ++ []) ≤ 1048576 := of_decide_eq_true hk
  simp only [List.append_nil, Rows.uptoBulkAll] at hb
  simp only [List.append_nil] at hW'
  have hg := r_glob hL hsh
  refine (r_callPrintNeeded hg (r_num hL) (cLexC (by decide) (r_tabs hL)) hx0 (by omega) (by omega) rg0).mono fun e W' ⟨he, hk, hbl⟩ => ?_
  subst he
  refine ⟨_, rfl, _, _, _, [], (p), [], hW', ?_, ?_, ?_, hk _, fun h => by cases h⟩
  · exact trodAll_mk1 (shut_bool Tryz.underlying4 true)
  · exact trodAll_mk1 (hbl.trod jp1 (by kernel_rfl) (of_decide_eq_true (by kernel_rfl)) h0 fun z hz => hlt z (by simp [hz]))
  · rfl
theorem printNeeded_reads (os : Os) {H : Type} (enc : TypeId × Value → H) : ∃ places, DataW.whole enc Tryz.prog ((World.laidAll Tryz.prog os Rows.printNeededUptoRow.laid).forCall (fun _ _ => 0) ⟨#[], #[.agg #[.int .u8 0, .string ⟨#[]⟩, .int .i64 0, .slice none 0 0, .int .i64 0]], []⟩).memory Tryz.f4.params.toList Rows.printNeededSpec.vars false #[Value.agg #[.int .u8 0, .string ⟨#[]⟩, .int .i64 0, .slice none 0 0, .int .i64 0]].toList 8 = some ([.agg [.lit (.int .u8 0), .lit (.string []), .lit (.int .i64 0), .nil, .lit (.int .i64 0)]], [], places) :=
  ⟨[], by kernel_rfl⟩
theorem printNeeded_lifted (os : Os) (started : os.Started) (H : Type) (enc : TypeId × Value → H) (F : Stop.Interp) :
    ReturnsInHanded {} Tryz.checked os 4 .any ((Rows.OpenSpec.upto Rows.printNeededSpec).preRow enc Tryz.prog Tryz.f4 Rows.printNeededUptoRow.domain false Rows.printNeededUptoRow.laid) (((Rows.OpenSpec.upto Rows.printNeededSpec).at F).post enc Tryz.prog Tryz.f4 false true false false) := by
  obtain ⟨places, hx⟩ := printNeeded_reads os enc
  refine returnsInHanded_of_row (C := Tryz.checked) (s := Rows.OpenSpec.upto Rows.printNeededSpec) r_own started (by kernel_rfl) Tryz.func4
    ⟨World.laidAll Tryz.prog os Rows.printNeededUptoRow.laid, fun _ _ => 0, ⟨#[], #[.agg #[.int .u8 0, .string ⟨#[]⟩, .int .i64 0, .slice none 0 0, .int .i64 0]], []⟩, World.laidAll_os _ _ _, World.shaped_of_ZipB (by kernel_rfl) (by kernel_rfl), rfl, (Input.okWide_of_okWideB (base := 0) (by kernel_rfl)).2,
      OpenSpec.preRow_of_cond 8 hx (by kernel_rfl) (fun k hk => by cases hk; kernel_rfl) (by kernel_rfl) (by rw [MakeChecks.laidMetH_plain _ _ _ (by kernel_rfl)]; exact laidMet_laidAll _ (by kernel_rfl) (by kernel_rfl)),
      by simp only [Assume.holds]; exact ⟨by simp, by simp, fun _ => Modest.zero, by simp, by simp⟩⟩ ?_
  intro W base args ds gs before hval hW _ hcond _ hL hsh _
  exact printNeeded_contract H enc W base args ds gs before hval hW (hcond _ rfl) hL hsh
theorem printNeeded_k1 : Rows.printNeededUptoRow.wf (OpenSpec.ofChange Rows.printNeededSpec) = true := by kernel_rfl
theorem printNeeded_k2 : Tryz.f4.params.all (Tryz.checked.prog.readableRec ·) = true := by kernel_rfl
theorem printNeeded_k3 : namedTie Tryz.checked.prog Rows.printNeededUptoRow.named Rows.printNeededSpec.vars = true := by kernel_rfl
theorem printNeeded_k4 : (Rows.printNeededUptoRow.stops == []) = true := by kernel_rfl
theorem printNeeded_k5 : (Rows.printNeededUptoRow.knobs == []) = true := by kernel_rfl
theorem printNeeded_k6 : (Rows.printNeededUptoRow.inPlace == Tryz.checked.prog.inPlace 4) = true := by kernel_rfl
theorem printNeeded_k7 : (Rows.printNeededUptoRow.unfollowed == Tryz.checked.prog.unfollowed 4) = true := by kernel_rfl
theorem printNeeded_k8 : (Rows.printNeededUptoRow.recurses == Tryz.checked.prog.recurses 4) = true := by kernel_rfl
theorem printNeeded_k9 : (Rows.printNeededUptoRow.named == Tryz.checked.prog.varsNamed 4) = true := by kernel_rfl
theorem printNeeded_k10 : (Rows.printNeededUptoRow.maps == (Tryz.f4.params.toList ++ Rows.printNeededSpec.plain.varTypes Tryz.checked.prog).any (Tryz.checked.prog.mapsRec ·)) = true := by kernel_rfl
theorem printNeeded_k11 : (Rows.printNeededUptoRow.ifaces == (Tryz.f4.params.toList ++ Rows.printNeededSpec.plain.varTypes Tryz.checked.prog).any (Tryz.checked.prog.ifacesRec ·)) = true := by kernel_rfl
theorem printNeeded_k12 : (Rows.printNeededUptoRow.mapsOut == Tryz.checked.prog.mapsAmong Tryz.f4.resultTypes.toList) = true := by kernel_rfl
theorem printNeeded_k13 : (Rows.printNeededUptoRow.loops == (Tryz.f4.params.toList ++ Rows.printNeededSpec.plain.varTypes Tryz.checked.prog).any (Tryz.checked.prog.loopsFrom ·)) = true := by kernel_rfl
theorem printNeeded_k14 : (Rows.printNeededUptoRow.wideKeys == (Tryz.f4.params.toList ++ Rows.printNeededSpec.plain.varTypes Tryz.checked.prog ++ Tryz.f4.resultTypes.toList).any (Tryz.checked.prog.wideKeysFrom ·)) = true := by kernel_rfl
theorem printNeeded_k15 : Rows.printNeededSpec.vars.all (Tryz.checked.prog.varReadable ·) = true := by kernel_rfl
theorem printNeeded_k16 : Tryz.f4.resultTypes.all (fun t => Tryz.checked.prog.readableRec t && decide (t < Tryz.checked.prog.types.size)) = true := by kernel_rfl
theorem printNeeded_k17 : (Rows.printNeededUptoRow.ifacesOut == Tryz.f4.resultTypes.toList.any (Tryz.checked.prog.ifacesRec ·)) = true := by kernel_rfl
theorem printNeeded_k18 : (Rows.printNeededUptoRow.loopsOut == Tryz.f4.resultTypes.toList.any (Tryz.checked.prog.loopsFrom ·)) = true := by kernel_rfl
theorem printNeeded_k19 : Rows.printNeededUptoRow.shortTexts.isNone = true := by kernel_rfl
theorem printNeeded_k20 : (Rows.printNeededUptoRow.kinds == (if Rows.printNeededUptoRow.domain.isEmpty then [] else Tryz.f4.params.toList.map fun t => match Tryz.checked.prog.underlying t with | some (.int k) => some k | _ => none)) = true := by kernel_rfl
theorem printNeeded_k21 : (Rows.printNeededUptoRow.pinned == Rows.printNeededUptoRow.pinnedBy) = true := by kernel_rfl
theorem printNeeded_k22 : (Rows.printNeededUptoRow.veiled == (Tryz.f4.params.toList ++ Rows.printNeededSpec.plain.varTypes Tryz.checked.prog ++ Tryz.f4.resultTypes.toList).any (Tryz.checked.prog.veiledRec ·)) = true := by kernel_rfl
theorem printNeeded_k23 : Rows.printNeededUptoRow.veiledFits Tryz.checked.prog Tryz.f4.params.toList (Tryz.f4.params.toList ++ Rows.printNeededSpec.plain.varTypes Tryz.checked.prog ++ Tryz.f4.resultTypes.toList) = true := by kernel_rfl
theorem printNeeded_closed : joinedFacts Tryz.checked.prog 4 Tryz.f4 Rows.printNeededSpec Rows.printNeededUptoRow = true := joined_of jp1 jp2 jp3 jp4 jp5 jp6 jp7 jp8 jp9 printNeeded_k1 printNeeded_k2 printNeeded_k3 printNeeded_k4 printNeeded_k5 printNeeded_k6 printNeeded_k7 printNeeded_k8 printNeeded_k9 printNeeded_k10 printNeeded_k11 printNeeded_k12 printNeeded_k13 printNeeded_k14 printNeeded_k15 printNeeded_k16 printNeeded_k17 printNeeded_k18 printNeeded_k19 printNeeded_k20 printNeeded_k21 printNeeded_k22 printNeeded_k23
theorem printNeeded_holds : Rows.PrintNeededUptoSaid :=
  OpenClaim.holds_of_cond 4 Tryz.f4 rfl rfl rfl rfl rfl rfl rfl ⟨rfl, rfl, rfl, rfl, rfl⟩ rfl rfl rfl rfl rfl (by kernel_rfl) Tryz.func4 printNeeded_closed
    (of_decide_eq_true (by kernel_rfl)) (by unfold Func.isWrapper; first | (rw [if_pos (by decide +kernel)]; kernel_rfl) | (rw [if_neg (by decide +kernel)]; exact ⟨rfl, rfl⟩))
    (fun os started H enc _ F => by rw [OpenClaim.pre_eq_preRow]; exact printNeeded_lifted os started H enc F)
theorem printNeeded_w : Rows.printNeededUptoRow.wfByText (Rows.OpenSpec.upto Rows.printNeededSpec) = true := by kernel_rfl
theorem printNeeded_named : Tryz.prog.funcNamed Rows.printNeededUptoRow.func = some 4 := by kernel_rfl
theorem printNeeded_goes : false = Rows.printNeededUptoRow.goesBy Tryz.checked.prog := by kernel_rfl
theorem printNeeded_card_holds : Rows.PrintNeededUptoCardSaid :=
  Claim7.holds_tied_plain_at .later [] _ _ _ _ printNeeded_holds (fun _ h => by cases h) printNeeded_w (fun _ h => by cases h) printNeededUpto_row_tie rfl ⟨rfl, rfl⟩ jp10 rfl
    (fun f fn hf hfn => by
      obtain rfl : f = 4 := Option.some.inj (printNeeded_named.symm.trans hf) |>.symm
      obtain rfl : fn = Tryz.f4 := (Option.some.inj (Tryz.func4.symm.trans hfn)).symm
      exact ⟨jp11, fun j t ht => by
        rw [Tryz.params4] at ht
        have hm : t ∈ [24] := by simpa using Array.mem_of_getElem? ht
        have hall : ([24].all fun u => !Tryz.prog.wantsStandIn u) = true := by kernel_rfl
        exact (show Tryz.prog.wantsStandIn t = false by simpa using List.all_eq_true.1 hall t hm)⟩)
    printNeeded_goes
end Go.Proofs.YtflgockgjnddnaaGreatDoor
end
