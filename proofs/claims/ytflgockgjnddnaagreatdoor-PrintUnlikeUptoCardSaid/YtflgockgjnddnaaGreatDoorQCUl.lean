/-
  The law PrintUnlike of the printer returns true for every two expressions whose bulk is at most 1048576: the second form's tied card of its row.
-/
import Derived.Deep.DeepHandedRow
import Derived.Carry
import Derived.Test.YtflgockgjnddnaaGreatDoorU10
set_option linter.unusedVariables false
set_option linter.unusedSimpArgs false
set_option linter.all false
section
set_option maxRecDepth 100000
set_option maxHeartbeats 8000000
namespace Go.PM.Lex
open Go.Proofs
variable {w0 : World} {nG : Nat}
theorem cPrintUnlike (hg : GlobOK w0 nG) (hN : NumOK w0 nG) (hL : LexC w0 nG) : PCalls (GG w0 nG) 3 (spPrUnlike 2097152) := prUnlike_ok ⟨⟨cZE 6000, spSz_mono _ _ _ _⟩, ⟨cPE hg hN hL 2097152, spPE_mono _⟩, ⟨cTopE hg, spTopE_mono⟩, ⟨(cSame 1099511627776).1, spSameE_mono _⟩, ⟨works16_ok ⟨⟨cPE hg hN hL 1000, spPE_mono _⟩, trivial⟩, spTrue16_mono⟩, trivial⟩
theorem r_callPrintUnlike {W : World} (hg : GlobOK W 8) (hN : NumOK W 8) (hL : LexC W 8) {a0 : Array Value} {x0 : Ex} (h0 : VRel (GG W 8) ePure ⟨[], [], 0⟩ W (.agg ((encE plZ x0).map .d)) (.agg a0)) (z0 : szE x0 ≤ 2097152) (y0 : wE x0 ≤ 2097152) (r0 : rngE x0 = true) {a1 : Array Value} {x1 : Ex} (h1 : VRel (GG W 8) ePure ⟨[], [], 0⟩ W (.agg ((encE plZ x1).map .d)) (.agg a1)) (z1 : szE x1 ≤ 2097152) (y1 : wE x1 ≤ 2097152) (r1 : rngE x1 = true) :
    Calls Tryz.prog 3 #[.agg a0, .agg a1] W fun e W' => e = .returned (.bool true) ∧ (∀ may, W.keptBut W' may) ∧ RowKit.Below W.heap.size W W' := by
  have hsz : 8 ≤ W.heap.size := by
    obtain ⟨ev, h1, _⟩ := hg.errRange
    have := World.block_lt_of_cell? W ⟨7, 0, none⟩ h1
    simp at this; omega
  have hc := (cPrintUnlike hg hN hL).calls [.agg ((encE plZ x0).map .d), .agg ((encE plZ x1).map .d)] ⟨[], [], 0⟩ (fun pe _ => pe = .ret (.d (.bool true))) ⟨⟨plZ, x0, plZ, x1, rfl, rfl, ⟨z0, y0, r0⟩, ⟨z1, y1, r1⟩, by decide⟩, rfl⟩ 0 ePure W #[.agg a0, .agg a1] (r_start hsz) ⟨rfl, fun i x u hx hu => by
    match i, hx, hu with
    | 0, hx, hu => cases hx; cases hu; exact h0
    | 1, hx, hu => cases hx; cases hu; exact h1
    | i + 2, hx, hu => simp at hx⟩
  refine Calls.mono (callsIn_wide.1 hc) fun en W' ⟨pe, σ', e', hK, hE, hS, hL⟩ => ?_
  subst hK
  obtain ⟨v, rfl, hv⟩ := hE
  cases hv with
  | d _ _ hd =>
    cases hd
    exact ⟨rfl, fun may => r_kept hL, ⟨hL.os, hL.tape, hL.output, hL.size, fun k hk => hL.blocks k hk (fun i hi => by simp at hi) (fun t ht => by cases ht)⟩⟩
end Go.PM.Lex
namespace Go.Proofs.YtflgockgjnddnaaGreatDoor
open Go.ChangeShapes Go.WideShapes Go.ChangeAt Go.RowKit Go.ChangeMaps Go.PM.Lex
theorem printUnlike_contract (H : Type) (enc : TypeId × Value → H) (W : World) (base : Nat) (args : Array Value) (ds gs : List (DataW H)) (before : List MemPlace)
    (hval : ∀ (j : Nat) t v, Tryz.f3.params[j]? = some t → args[j]? = some v → Value.okWide Tryz.prog W .any base t v)
    (hW : DataW.Whole enc Tryz.prog Tryz.f3.params.toList Rows.printUnlikeSpec.vars false W args.toList ds gs before) (hk : Rows.uptoSmall H (ds ++ gs) = true)
    (hL : laidMetH Tryz.prog Rows.printUnlikeUptoRow.laid W) (hsh : W.ShapedOpen Tryz.prog) :
    Calls Tryz.prog 3 args W fun e W' => ∃ v, e = .returned v ∧ Rows.printUnlikeSpec.post enc Tryz.prog Tryz.f3 false true false false W args v W' := by
  have hW' := hW
  obtain ⟨p, q, hA0, hV, rfl, _, _⟩ := hW
  have hA : DataW.TrodAll enc Tryz.prog W 0 (fun _ => true) true Tryz.f3.params.toList args.toList ds p := hA0
  have hlt := DataW.TrodAll.lt hA
  rw [Tryz.params3] at hA hval
  obtain ⟨v0, v1, d0, d1, p0, p1, rfl, rfl, rfl, h0, h1⟩ := trodAll_two hA
  obtain ⟨rfl, rfl⟩ := trodVars_none hV
  obtain ⟨a0, rfl⟩ : ∃ cs, v0 = .agg cs := by
    have : Value.okWide Tryz.prog W .any base 24 v0 := hval 0 _ v0 rfl rfl
    unfold Value.okWide at this
    rw [Tryz.underlying24] at this
    obtain ⟨cs, h, _⟩ := this; exact ⟨cs, h⟩
  obtain ⟨x0, hx0, zs0, zw0, rg0⟩ := arg_expr (nG := 8) h0
  obtain ⟨a1, rfl⟩ : ∃ cs, v1 = .agg cs := by
    have : Value.okWide Tryz.prog W .any base 24 v1 := hval 1 _ v1 rfl rfl
    unfold Value.okWide at this
    rw [Tryz.underlying24] at this
    obtain ⟨cs, h, _⟩ := this; exact ⟨cs, h⟩
  obtain ⟨x1, hx1, zs1, zw1, rg1⟩ := arg_expr (nG := 8) h1
  have hb : Rows.uptoBulkAll ([d0, d1] ++ []) ≤ 1048576 := of_decide_eq_true hk
  simp only [List.append_nil, Rows.uptoBulkAll] at hb
  simp only [List.append_nil] at hW'
  have hg := r_glob hL hsh
  refine (r_callPrintUnlike hg (r_num hL) (cLexC (by decide) (r_tabs hL)) hx0 (by omega) (by omega) rg0 hx1 (by omega) (by omega) rg1).mono fun e W' ⟨he, hk, hbl⟩ => ?_
  subst he
  refine ⟨_, rfl, _, _, _, [], (p0 ++ p1), [], hW', ?_, ?_, ?_, hk _, fun h => by cases h⟩
  · exact trodAll_mk1 (shut_bool Tryz.underlying4 true)
  · exact trodAll_mk2 (hbl.trod jp1 (by kernel_rfl) (of_decide_eq_true (by kernel_rfl)) h0 fun z hz => hlt z (by simp [hz])) (hbl.trod jp1 (by kernel_rfl) (of_decide_eq_true (by kernel_rfl)) h1 fun z hz => hlt z (by simp [hz]))
  · rfl
theorem printUnlike_reads (os : Os) {H : Type} (enc : TypeId × Value → H) : ∃ places, DataW.whole enc Tryz.prog ((World.laidAll Tryz.prog os Rows.printUnlikeUptoRow.laid).forCall (fun _ _ => 0) ⟨#[], #[.agg #[.int .u8 0, .string ⟨#[]⟩, .int .i64 0, .slice none 0 0, .int .i64 0], .agg #[.int .u8 0, .string ⟨#[]⟩, .int .i64 0, .slice none 0 0, .int .i64 0]], []⟩).memory Tryz.f3.params.toList Rows.printUnlikeSpec.vars false #[Value.agg #[.int .u8 0, .string ⟨#[]⟩, .int .i64 0, .slice none 0 0, .int .i64 0], .agg #[.int .u8 0, .string ⟨#[]⟩, .int .i64 0, .slice none 0 0, .int .i64 0]].toList 8 = some ([.agg [.lit (.int .u8 0), .lit (.string []), .lit (.int .i64 0), .nil, .lit (.int .i64 0)], .agg [.lit (.int .u8 0), .lit (.string []), .lit (.int .i64 0), .nil, .lit (.int .i64 0)]], [], places) :=
  ⟨[], by kernel_rfl⟩
theorem printUnlike_lifted (os : Os) (started : os.Started) (H : Type) (enc : TypeId × Value → H) (F : Stop.Interp) :
    ReturnsInHanded {} Tryz.checked os 3 .any ((Rows.OpenSpec.upto Rows.printUnlikeSpec).preRow enc Tryz.prog Tryz.f3 Rows.printUnlikeUptoRow.domain false Rows.printUnlikeUptoRow.laid) (((Rows.OpenSpec.upto Rows.printUnlikeSpec).at F).post enc Tryz.prog Tryz.f3 false true false false) := by
  obtain ⟨places, hx⟩ := printUnlike_reads os enc
  refine returnsInHanded_of_row (C := Tryz.checked) (s := Rows.OpenSpec.upto Rows.printUnlikeSpec) r_own started (by kernel_rfl) Tryz.func3
    ⟨World.laidAll Tryz.prog os Rows.printUnlikeUptoRow.laid, fun _ _ => 0, ⟨#[], #[.agg #[.int .u8 0, .string ⟨#[]⟩, .int .i64 0, .slice none 0 0, .int .i64 0], .agg #[.int .u8 0, .string ⟨#[]⟩, .int .i64 0, .slice none 0 0, .int .i64 0]], []⟩, World.laidAll_os _ _ _, World.shaped_of_ZipB (by kernel_rfl) (by kernel_rfl), rfl, (Input.okWide_of_okWideB (base := 0) (by kernel_rfl)).2,
      OpenSpec.preRow_of_cond 8 hx (by kernel_rfl) (fun k hk => by cases hk; kernel_rfl) (by kernel_rfl) (by rw [MakeChecks.laidMetH_plain _ _ _ (by kernel_rfl)]; exact laidMet_laidAll _ (by kernel_rfl) (by kernel_rfl)),
      by simp only [Assume.holds]; exact ⟨by simp, by simp, fun _ => Modest.zero, by simp, by simp⟩⟩ ?_
  intro W base args ds gs before hval hW _ hcond _ hL hsh _
  exact printUnlike_contract H enc W base args ds gs before hval hW (hcond _ rfl) hL hsh
theorem printUnlike_k1 : Rows.printUnlikeUptoRow.wf (OpenSpec.ofChange Rows.printUnlikeSpec) = true := by kernel_rfl
theorem printUnlike_k2 : Tryz.f3.params.all (Tryz.checked.prog.readableRec ·) = true := by kernel_rfl
theorem printUnlike_k3 : namedTie Tryz.checked.prog Rows.printUnlikeUptoRow.named Rows.printUnlikeSpec.vars = true := by kernel_rfl
theorem printUnlike_k4 : (Rows.printUnlikeUptoRow.stops == []) = true := by kernel_rfl
theorem printUnlike_k5 : (Rows.printUnlikeUptoRow.knobs == []) = true := by kernel_rfl
theorem printUnlike_k6 : (Rows.printUnlikeUptoRow.inPlace == Tryz.checked.prog.inPlace 3) = true := by kernel_rfl
theorem printUnlike_k7 : (Rows.printUnlikeUptoRow.unfollowed == Tryz.checked.prog.unfollowed 3) = true := by kernel_rfl
theorem printUnlike_k8 : (Rows.printUnlikeUptoRow.recurses == Tryz.checked.prog.recurses 3) = true := by kernel_rfl
theorem printUnlike_k9 : (Rows.printUnlikeUptoRow.named == Tryz.checked.prog.varsNamed 3) = true := by kernel_rfl
theorem printUnlike_k10 : (Rows.printUnlikeUptoRow.maps == (Tryz.f3.params.toList ++ Rows.printUnlikeSpec.plain.varTypes Tryz.checked.prog).any (Tryz.checked.prog.mapsRec ·)) = true := by kernel_rfl
theorem printUnlike_k11 : (Rows.printUnlikeUptoRow.ifaces == (Tryz.f3.params.toList ++ Rows.printUnlikeSpec.plain.varTypes Tryz.checked.prog).any (Tryz.checked.prog.ifacesRec ·)) = true := by kernel_rfl
theorem printUnlike_k12 : (Rows.printUnlikeUptoRow.mapsOut == Tryz.checked.prog.mapsAmong Tryz.f3.resultTypes.toList) = true := by kernel_rfl
theorem printUnlike_k13 : (Rows.printUnlikeUptoRow.loops == (Tryz.f3.params.toList ++ Rows.printUnlikeSpec.plain.varTypes Tryz.checked.prog).any (Tryz.checked.prog.loopsFrom ·)) = true := by kernel_rfl
theorem printUnlike_k14 : (Rows.printUnlikeUptoRow.wideKeys == (Tryz.f3.params.toList ++ Rows.printUnlikeSpec.plain.varTypes Tryz.checked.prog ++ Tryz.f3.resultTypes.toList).any (Tryz.checked.prog.wideKeysFrom ·)) = true := by kernel_rfl
theorem printUnlike_k15 : Rows.printUnlikeSpec.vars.all (Tryz.checked.prog.varReadable ·) = true := by kernel_rfl
theorem printUnlike_k16 : Tryz.f3.resultTypes.all (fun t => Tryz.checked.prog.readableRec t && decide (t < Tryz.checked.prog.types.size)) = true := by kernel_rfl
theorem printUnlike_k17 : (Rows.printUnlikeUptoRow.ifacesOut == Tryz.f3.resultTypes.toList.any (Tryz.checked.prog.ifacesRec ·)) = true := by kernel_rfl
theorem printUnlike_k18 : (Rows.printUnlikeUptoRow.loopsOut == Tryz.f3.resultTypes.toList.any (Tryz.checked.prog.loopsFrom ·)) = true := by kernel_rfl
theorem printUnlike_k19 : Rows.printUnlikeUptoRow.shortTexts.isNone = true := by kernel_rfl
theorem printUnlike_k20 : (Rows.printUnlikeUptoRow.kinds == (if Rows.printUnlikeUptoRow.domain.isEmpty then [] else Tryz.f3.params.toList.map fun t => match Tryz.checked.prog.underlying t with | some (.int k) => some k | _ => none)) = true := by kernel_rfl
theorem printUnlike_k21 : (Rows.printUnlikeUptoRow.pinned == Rows.printUnlikeUptoRow.pinnedBy) = true := by kernel_rfl
theorem printUnlike_k22 : (Rows.printUnlikeUptoRow.veiled == (Tryz.f3.params.toList ++ Rows.printUnlikeSpec.plain.varTypes Tryz.checked.prog ++ Tryz.f3.resultTypes.toList).any (Tryz.checked.prog.veiledRec ·)) = true := by kernel_rfl
theorem printUnlike_k23 : Rows.printUnlikeUptoRow.veiledFits Tryz.checked.prog Tryz.f3.params.toList (Tryz.f3.params.toList ++ Rows.printUnlikeSpec.plain.varTypes Tryz.checked.prog ++ Tryz.f3.resultTypes.toList) = true := by kernel_rfl
theorem printUnlike_closed : joinedFacts Tryz.checked.prog 3 Tryz.f3 Rows.printUnlikeSpec Rows.printUnlikeUptoRow = true := joined_of jp1 jp2 jp3 jp4 jp5 jp6 jp7 jp8 jp9 printUnlike_k1 printUnlike_k2 printUnlike_k3 printUnlike_k4 printUnlike_k5 printUnlike_k6 printUnlike_k7 printUnlike_k8 printUnlike_k9 printUnlike_k10 printUnlike_k11 printUnlike_k12 printUnlike_k13 printUnlike_k14 printUnlike_k15 printUnlike_k16 printUnlike_k17 printUnlike_k18 printUnlike_k19 printUnlike_k20 printUnlike_k21 printUnlike_k22 printUnlike_k23
theorem printUnlike_holds : Rows.PrintUnlikeUptoSaid :=
  OpenClaim.holds_of_cond 3 Tryz.f3 rfl rfl rfl rfl rfl rfl rfl ⟨rfl, rfl, rfl, rfl, rfl⟩ rfl rfl rfl rfl rfl (by kernel_rfl) Tryz.func3 printUnlike_closed
    (of_decide_eq_true (by kernel_rfl)) (by unfold Func.isWrapper; first | (rw [if_pos (by decide +kernel)]; kernel_rfl) | (rw [if_neg (by decide +kernel)]; exact ⟨rfl, rfl⟩))
    (fun os started H enc _ F => by rw [OpenClaim.pre_eq_preRow]; exact printUnlike_lifted os started H enc F)
theorem printUnlike_w : Rows.printUnlikeUptoRow.wfByText (Rows.OpenSpec.upto Rows.printUnlikeSpec) = true := by kernel_rfl
theorem printUnlike_named : Tryz.prog.funcNamed Rows.printUnlikeUptoRow.func = some 3 := by kernel_rfl
theorem printUnlike_goes : false = Rows.printUnlikeUptoRow.goesBy Tryz.checked.prog := by kernel_rfl
theorem printUnlike_card_holds : Rows.PrintUnlikeUptoCardSaid :=
  Claim7.holds_tied_plain_at .later [] _ _ _ _ printUnlike_holds (fun _ h => by cases h) printUnlike_w (fun _ h => by cases h) printUnlikeUpto_row_tie rfl ⟨rfl, rfl⟩ jp10 rfl
    (fun f fn hf hfn => by
      obtain rfl : f = 3 := Option.some.inj (printUnlike_named.symm.trans hf) |>.symm
      obtain rfl : fn = Tryz.f3 := (Option.some.inj (Tryz.func3.symm.trans hfn)).symm
      exact ⟨jp11, fun j t ht => by
        rw [Tryz.params3] at ht
        have hm : t ∈ [24, 24] := by simpa using Array.mem_of_getElem? ht
        have hall : ([24, 24].all fun u => !Tryz.prog.wantsStandIn u) = true := by kernel_rfl
        exact (show Tryz.prog.wantsStandIn t = false by simpa using List.all_eq_true.1 hall t hm)⟩)
    printUnlike_goes
end Go.Proofs.YtflgockgjnddnaaGreatDoor
end
