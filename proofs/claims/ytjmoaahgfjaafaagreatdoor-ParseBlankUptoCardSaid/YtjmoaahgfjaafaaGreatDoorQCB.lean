/-
  The law ParseBlank of the reader of trees returns true for every text whose bulk is at most 1048576: the second form's tied card of its row.
-/
import Derived.Deep.DeepHandedRow
import Derived.Test.YtjmoaahgfjaafaaGreatDoorG12
set_option linter.unusedVariables false
set_option linter.unusedSimpArgs false
set_option linter.all false
section
set_option maxRecDepth 100000
set_option maxHeartbeats 8000000
namespace Go.PM.Lex
open Go.Proofs
variable {w0 : World} {nG : Nat}
theorem cParseBlank (hg : GlobOK w0 nG) : PCalls (GG w0 nG) 4 spPar1 := parBlank_ok ⟨⟨cTopU hg, spTopU_mono⟩, ⟨tokR2_ok, spTokR2_mono⟩, ⟨cKUnit 70000, spKU_mono _⟩, ⟨works15_ok ⟨⟨cTopU hg, spTopU_mono⟩, ⟨kept_ok, spKept_mono⟩, trivial⟩, spTrue15_mono⟩, trivial⟩
theorem r_callParseBlank {W : World} (hg : GlobOK W 8) (a0 : ByteArray) (z0 : a0.size < 4294967281) :
    Calls Tryz.prog 4 #[.string a0] W fun e W' => e = .returned (.bool true) ∧ ∀ may, W.keptBut W' may := by
  have hsz : 8 ≤ W.heap.size := by
    obtain ⟨ev, h1, _⟩ := hg.errRange
    have := World.block_lt_of_cell? W ⟨7, 0, none⟩ h1
    simp at this; omega
  have hc := (cParseBlank hg).calls [.d (.str a0.data.toList)] ⟨[], [], 0⟩ (fun pe _ => pe = .ret (.d (.bool true))) ⟨by rw [Array.length_toList]; exact z0, rfl⟩ 0 ePure W #[.string a0] (r_start hsz) ⟨rfl, fun i x u hx hu => by
    match i, hx, hu with
    | 0, hx, hu => cases hx; cases hu; exact .d _ _ (.str _)
    | i + 1, hx, hu => simp at hx⟩
  refine Calls.mono (callsIn_wide.1 hc) fun en W' ⟨pe, σ', e', hK, hE, hS, hL⟩ => ?_
  subst hK
  obtain ⟨v, rfl, hv⟩ := hE
  cases hv with
  | d _ _ hd =>
    cases hd
    exact ⟨rfl, fun may => r_kept hL⟩
end Go.PM.Lex
namespace Go.Proofs.YtjmoaahgfjaafaaGreatDoor
open Go.ChangeShapes Go.WideShapes Go.ChangeAt Go.RowKit Go.ChangeMaps Go.PM.Lex
theorem parseBlank_contract (H : Type) (enc : TypeId × Value → H) (W : World) (base : Nat) (args : Array Value) (ds gs : List (DataW H)) (before : List MemPlace)
    (hval : ∀ (j : Nat) t v, Tryz.f4.params[j]? = some t → args[j]? = some v → Value.okWide Tryz.prog W .any base t v)
    (hW : DataW.Whole enc Tryz.prog Tryz.f4.params.toList Rows.parseBlankSpec.vars false W args.toList ds gs before) (hk : Rows.uptoSmall H (ds ++ gs) = true)
    (hL : laidMetH Tryz.prog Rows.parseBlankUptoRow.laid W) (hsh : W.ShapedOpen Tryz.prog) :
    Calls Tryz.prog 4 args W fun e W' => ∃ v, e = .returned v ∧ Rows.parseBlankSpec.post enc Tryz.prog Tryz.f4 false true false false W args v W' := by
  have hW' := hW
  obtain ⟨p, q, hA0, hV, rfl, _, _⟩ := hW
  have hA : DataW.TrodAll enc Tryz.prog W 0 (fun _ => true) true Tryz.f4.params.toList args.toList ds p := hA0
  rw [Tryz.params4] at hA hval
  obtain ⟨v0, d0, rfl, rfl, h0⟩ := trodAll_one hA
  obtain ⟨rfl, rfl⟩ := trodVars_none hV
  obtain ⟨a0, rfl, rfl, rfl, hs0⟩ := open_string Tryz.underlying9 (hval 0 9 v0 rfl rfl) h0
  have hb : Rows.uptoBulkAll ([DataW.lit (H := H) (.string a0.data.toList)] ++ []) ≤ 1048576 := of_decide_eq_true hk
  simp only [List.append_nil, Rows.uptoBulkAll, Rows.uptoBulk] at hb
  have e0 : a0.data.toList.length = a0.size := by rw [Array.length_toList]; rfl
  simp only [List.append_nil] at hW'
  refine (r_callParseBlank (r_glob hL hsh) a0 (by omega)).mono fun e W' ⟨he, hk⟩ => ?_
  subst he
  refine ⟨_, rfl, _, _, _, [], [], [], hW', ?_, ?_, ?_, hk _, fun h => by cases h⟩
  · exact trodAll_mk1 (shut_bool Tryz.underlying4 true)
  · exact trodAll_mk1 (shut_string Tryz.underlying9 hs0)
  · rfl
theorem parseBlank_reads (os : Os) {H : Type} (enc : TypeId × Value → H) : ∃ places, DataW.whole enc Tryz.prog ((World.laidAll Tryz.prog os Rows.parseBlankUptoRow.laid).forCall (fun _ _ => 0) ⟨#[], #[.string ⟨#[]⟩], []⟩).memory Tryz.f4.params.toList Rows.parseBlankSpec.vars false #[Value.string ⟨#[]⟩].toList 8 = some ([.lit (.string [])], [], places) :=
  ⟨[], by kernel_rfl⟩
theorem parseBlank_lifted (os : Os) (started : os.Started) (H : Type) (enc : TypeId × Value → H) (F : Stop.Interp) :
    ReturnsInHanded {} Tryz.checked os 4 .any ((Rows.OpenSpec.upto Rows.parseBlankSpec).preRow enc Tryz.prog Tryz.f4 Rows.parseBlankUptoRow.domain false Rows.parseBlankUptoRow.laid) (((Rows.OpenSpec.upto Rows.parseBlankSpec).at F).post enc Tryz.prog Tryz.f4 false true false false) := by
  obtain ⟨places, hx⟩ := parseBlank_reads os enc
  refine returnsInHanded_of_row (C := Tryz.checked) (s := Rows.OpenSpec.upto Rows.parseBlankSpec) r_own started (by kernel_rfl) Tryz.func4
    ⟨World.laidAll Tryz.prog os Rows.parseBlankUptoRow.laid, fun _ _ => 0, ⟨#[], #[.string ⟨#[]⟩], []⟩, World.laidAll_os _ _ _, World.shaped_of_ZipB (by kernel_rfl) (by kernel_rfl), rfl, (Input.okWide_of_okWideB (base := 0) (by kernel_rfl)).2,
      OpenSpec.preRow_of_cond 8 hx (by kernel_rfl) (fun k hk => by cases hk; kernel_rfl) (by kernel_rfl) (by rw [MakeChecks.laidMetH_plain _ _ _ (by kernel_rfl)]; exact laidMet_laidAll _ (by kernel_rfl) (by kernel_rfl)),
      by simp only [Assume.holds]; exact ⟨by simp, by simp, fun _ => Modest.zero, by simp, by simp⟩⟩ ?_
  intro W base args ds gs before hval hW _ hcond _ hL hsh _
  exact parseBlank_contract H enc W base args ds gs before hval hW (hcond _ rfl) hL hsh
theorem parseBlank_k1 : Rows.parseBlankUptoRow.wf (OpenSpec.ofChange Rows.parseBlankSpec) = true := by kernel_rfl
theorem parseBlank_k2 : Tryz.f4.params.all (Tryz.checked.prog.readableRec ·) = true := by kernel_rfl
theorem parseBlank_k3 : namedTie Tryz.checked.prog Rows.parseBlankUptoRow.named Rows.parseBlankSpec.vars = true := by kernel_rfl
theorem parseBlank_k4 : (Rows.parseBlankUptoRow.stops == []) = true := by kernel_rfl
theorem parseBlank_k5 : (Rows.parseBlankUptoRow.knobs == []) = true := by kernel_rfl
theorem parseBlank_k6 : (Rows.parseBlankUptoRow.inPlace == Tryz.checked.prog.inPlace 4) = true := by kernel_rfl
theorem parseBlank_k7 : (Rows.parseBlankUptoRow.unfollowed == Tryz.checked.prog.unfollowed 4) = true := by kernel_rfl
theorem parseBlank_k8 : (Rows.parseBlankUptoRow.recurses == Tryz.checked.prog.recurses 4) = true := by kernel_rfl
theorem parseBlank_k9 : (Rows.parseBlankUptoRow.named == Tryz.checked.prog.varsNamed 4) = true := by kernel_rfl
theorem parseBlank_k10 : (Rows.parseBlankUptoRow.maps == (Tryz.f4.params.toList ++ Rows.parseBlankSpec.plain.varTypes Tryz.checked.prog).any (Tryz.checked.prog.mapsRec ·)) = true := by kernel_rfl
theorem parseBlank_k11 : (Rows.parseBlankUptoRow.ifaces == (Tryz.f4.params.toList ++ Rows.parseBlankSpec.plain.varTypes Tryz.checked.prog).any (Tryz.checked.prog.ifacesRec ·)) = true := by kernel_rfl
theorem parseBlank_k12 : (Rows.parseBlankUptoRow.mapsOut == Tryz.checked.prog.mapsAmong Tryz.f4.resultTypes.toList) = true := by kernel_rfl
theorem parseBlank_k13 : (Rows.parseBlankUptoRow.loops == (Tryz.f4.params.toList ++ Rows.parseBlankSpec.plain.varTypes Tryz.checked.prog).any (Tryz.checked.prog.loopsFrom ·)) = true := by kernel_rfl
theorem parseBlank_k14 : (Rows.parseBlankUptoRow.wideKeys == (Tryz.f4.params.toList ++ Rows.parseBlankSpec.plain.varTypes Tryz.checked.prog ++ Tryz.f4.resultTypes.toList).any (Tryz.checked.prog.wideKeysFrom ·)) = true := by kernel_rfl
theorem parseBlank_k15 : Rows.parseBlankSpec.vars.all (Tryz.checked.prog.varReadable ·) = true := by kernel_rfl
theorem parseBlank_k16 : Tryz.f4.resultTypes.all (fun t => Tryz.checked.prog.readableRec t && decide (t < Tryz.checked.prog.types.size)) = true := by kernel_rfl
theorem parseBlank_k17 : (Rows.parseBlankUptoRow.ifacesOut == Tryz.f4.resultTypes.toList.any (Tryz.checked.prog.ifacesRec ·)) = true := by kernel_rfl
theorem parseBlank_k18 : (Rows.parseBlankUptoRow.loopsOut == Tryz.f4.resultTypes.toList.any (Tryz.checked.prog.loopsFrom ·)) = true := by kernel_rfl
theorem parseBlank_k19 : Rows.parseBlankUptoRow.shortTexts.isNone = true := by kernel_rfl
theorem parseBlank_k20 : (Rows.parseBlankUptoRow.kinds == (if Rows.parseBlankUptoRow.domain.isEmpty then [] else Tryz.f4.params.toList.map fun t => match Tryz.checked.prog.underlying t with | some (.int k) => some k | _ => none)) = true := by kernel_rfl
theorem parseBlank_k21 : (Rows.parseBlankUptoRow.pinned == Rows.parseBlankUptoRow.pinnedBy) = true := by kernel_rfl
theorem parseBlank_k22 : (Rows.parseBlankUptoRow.veiled == (Tryz.f4.params.toList ++ Rows.parseBlankSpec.plain.varTypes Tryz.checked.prog ++ Tryz.f4.resultTypes.toList).any (Tryz.checked.prog.veiledRec ·)) = true := by kernel_rfl
theorem parseBlank_k23 : Rows.parseBlankUptoRow.veiledFits Tryz.checked.prog Tryz.f4.params.toList (Tryz.f4.params.toList ++ Rows.parseBlankSpec.plain.varTypes Tryz.checked.prog ++ Tryz.f4.resultTypes.toList) = true := by kernel_rfl
theorem parseBlank_closed : joinedFacts Tryz.checked.prog 4 Tryz.f4 Rows.parseBlankSpec Rows.parseBlankUptoRow = true := joined_of jp1 jp2 jp3 jp4 jp5 jp6 jp7 jp8 jp9 parseBlank_k1 parseBlank_k2 parseBlank_k3 parseBlank_k4 parseBlank_k5 parseBlank_k6 parseBlank_k7 parseBlank_k8 parseBlank_k9 parseBlank_k10 parseBlank_k11 parseBlank_k12 parseBlank_k13 parseBlank_k14 parseBlank_k15 parseBlank_k16 parseBlank_k17 parseBlank_k18 parseBlank_k19 parseBlank_k20 parseBlank_k21 parseBlank_k22 parseBlank_k23
theorem parseBlank_holds : Rows.ParseBlankUptoSaid :=
  OpenClaim.holds_of_cond 4 Tryz.f4 rfl rfl rfl rfl rfl rfl rfl ⟨rfl, rfl, rfl, rfl, rfl⟩ rfl rfl rfl rfl rfl (by kernel_rfl) Tryz.func4 parseBlank_closed
    (of_decide_eq_true (by kernel_rfl)) (by unfold Func.isWrapper; first | (rw [if_pos (by decide +kernel)]; kernel_rfl) | (rw [if_neg (by decide +kernel)]; exact ⟨rfl, rfl⟩))
    (fun os started H enc _ F => by rw [OpenClaim.pre_eq_preRow]; exact parseBlank_lifted os started H enc F)
theorem parseBlank_w : Rows.parseBlankUptoRow.wfByText (Rows.OpenSpec.upto Rows.parseBlankSpec) = true := by kernel_rfl
theorem parseBlank_named : Tryz.prog.funcNamed Rows.parseBlankUptoRow.func = some 4 := by kernel_rfl
theorem parseBlank_goes : false = Rows.parseBlankUptoRow.goesBy Tryz.checked.prog := by kernel_rfl
theorem parseBlank_card_holds : Rows.ParseBlankUptoCardSaid :=
  Claim7.holds_tied_plain_at .later [] _ _ _ _ parseBlank_holds (fun _ h => by cases h) parseBlank_w (fun _ h => by cases h) parseBlankUpto_row_tie rfl ⟨rfl, rfl⟩ jp10 rfl
    (fun f fn hf hfn => by
      obtain rfl : f = 4 := Option.some.inj (parseBlank_named.symm.trans hf) |>.symm
      obtain rfl : fn = Tryz.f4 := (Option.some.inj (Tryz.func4.symm.trans hfn)).symm
      exact ⟨jp11, fun j t ht => by
        rw [Tryz.params4] at ht
        have hm : t ∈ [9] := by simpa using Array.mem_of_getElem? ht
        have hall : ([9].all fun u => !Tryz.prog.wantsStandIn u) = true := by kernel_rfl
        exact (show Tryz.prog.wantsStandIn t = false by simpa using List.all_eq_true.1 hall t hm)⟩)
    parseBlank_goes
end Go.Proofs.YtjmoaahgfjaafaaGreatDoor
end
