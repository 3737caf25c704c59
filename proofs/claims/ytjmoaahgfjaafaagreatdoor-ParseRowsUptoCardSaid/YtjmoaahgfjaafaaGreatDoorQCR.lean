/-
  The law ParseRows of the reader of trees returns true for every two texts whose bulk is at most 1048576: the second form's tied card of its row.
-/
import Derived.Deep.DeepHandedRow
import Derived.Test.YtjmoaahgfjaafaaGreatDoorH13
set_option linter.unusedVariables false
set_option linter.unusedSimpArgs false
set_option linter.all false
section
set_option maxRecDepth 100000
set_option maxHeartbeats 8000000
namespace Go.PM.Lex
open Go.Proofs
variable {w0 : World} {nG : Nat}
theorem cParseRows (hg : GlobOK w0 nG) : PCalls (GG w0 nG) 3 spPar2 := parRows_ok ⟨⟨cTopU hg, spTopU_mono⟩, ⟨tokR2_ok, spTokR2_mono⟩, ⟨cKUnit 70000, spKU_mono _⟩, ⟨works15_ok ⟨⟨cTopU hg, spTopU_mono⟩, ⟨kept_ok, spKept_mono⟩, trivial⟩, spTrue15_mono⟩, trivial⟩
theorem r_callParseRows {W : World} (hg : GlobOK W 8) (a0 : ByteArray) (a1 : ByteArray) (z0 : a0.size < 4294967281) (z1 : a1.size < 4294967281) :
    Calls Tryz.prog 3 #[.string a0, .string a1] W fun e W' => e = .returned (.bool true) ∧ ∀ may, W.keptBut W' may := by
  have hsz : 8 ≤ W.heap.size := by
    obtain ⟨ev, h1, _⟩ := hg.errRange
    have := World.block_lt_of_cell? W ⟨7, 0, none⟩ h1
    simp at this; omega
  have hc := (cParseRows hg).calls [.d (.str a0.data.toList), .d (.str a1.data.toList)] ⟨[], [], 0⟩ (fun pe _ => pe = .ret (.d (.bool true))) ⟨⟨by rw [Array.length_toList]; exact z0, by rw [Array.length_toList]; exact z1⟩, rfl⟩ 0 ePure W #[.string a0, .string a1] (r_start hsz) ⟨rfl, fun i x u hx hu => by
    match i, hx, hu with
    | 0, hx, hu => cases hx; cases hu; exact .d _ _ (.str _)
    | 1, hx, hu => cases hx; cases hu; exact .d _ _ (.str _)
    | i + 2, hx, hu => simp at hx⟩
  refine Calls.mono (callsIn_wide.1 hc) fun en W' ⟨pe, σ', e', hK, hE, hS, hL⟩ => ?_
  subst hK
  obtain ⟨v, rfl, hv⟩ := hE
  cases hv with
  | d _ _ hd =>
    cases hd
    exact ⟨rfl, fun may => r_kept hL⟩
end Go.PM.Lex
namespace Go.Proofs.YtjmoaahgfjaafaaGreatDoor
open Go.ChangeShapes Go.WideShapes Go.ChangeAt Go.RowKit Go.ChangeMaps Go.PM.Lex
theorem parseRows_contract (H : Type) (enc : TypeId × Value → H) (W : World) (base : Nat) (args : Array Value) (ds gs : List (DataW H)) (before : List MemPlace)
    (hval : ∀ (j : Nat) t v, Tryz.f3.params[j]? = some t → args[j]? = some v → Value.okWide Tryz.prog W .any base t v)
    (hW : DataW.Whole enc Tryz.prog Tryz.f3.params.toList Rows.parseRowsSpec.vars false W args.toList ds gs before) (hk : Rows.uptoSmall H (ds ++ gs) = true)
    (hL : laidMetH Tryz.prog Rows.parseRowsUptoRow.laid W) (hsh : W.ShapedOpen Tryz.prog) :
    Calls Tryz.prog 3 args W fun e W' => ∃ v, e = .returned v ∧ Rows.parseRowsSpec.post enc Tryz.prog Tryz.f3 false true false false W args v W' := by
  have hW' := hW
  obtain ⟨p, q, hA0, hV, rfl, _, _⟩ := hW
  have hA : DataW.TrodAll enc Tryz.prog W 0 (fun _ => true) true Tryz.f3.params.toList args.toList ds p := hA0
  rw [Tryz.params3] at hA hval
  obtain ⟨v0, v1, d0, d1, p0, p1, rfl, rfl, rfl, h0, h1⟩ := trodAll_two hA
  obtain ⟨rfl, rfl⟩ := trodVars_none hV
  obtain ⟨a0, rfl, rfl, rfl, hs0⟩ := open_string Tryz.underlying9 (hval 0 9 v0 rfl rfl) h0
  obtain ⟨a1, rfl, rfl, rfl, hs1⟩ := open_string Tryz.underlying9 (hval 1 9 v1 rfl rfl) h1
  have hb : Rows.uptoBulkAll ([DataW.lit (H := H) (.string a0.data.toList), .lit (.string a1.data.toList)] ++ []) ≤ 1048576 := of_decide_eq_true hk
  simp only [List.append_nil, Rows.uptoBulkAll, Rows.uptoBulk] at hb
  have e0 : a0.data.toList.length = a0.size := by rw [Array.length_toList]; rfl
  have e1 : a1.data.toList.length = a1.size := by rw [Array.length_toList]; rfl
  simp only [List.append_nil] at hW'
  refine (r_callParseRows (r_glob hL hsh) a0 a1 (by omega) (by omega)).mono fun e W' ⟨he, hk⟩ => ?_
  subst he
  refine ⟨_, rfl, _, _, _, [], [], [], hW', ?_, ?_, ?_, hk _, fun h => by cases h⟩
  · exact trodAll_mk1 (shut_bool Tryz.underlying4 true)
  · exact trodAll_mk2 (shut_string Tryz.underlying9 hs0) (shut_string Tryz.underlying9 hs1)
  · rfl
theorem parseRows_reads (os : Os) {H : Type} (enc : TypeId × Value → H) : ∃ places, DataW.whole enc Tryz.prog ((World.laidAll Tryz.prog os Rows.parseRowsUptoRow.laid).forCall (fun _ _ => 0) ⟨#[], #[.string ⟨#[]⟩, .string ⟨#[]⟩], []⟩).memory Tryz.f3.params.toList Rows.parseRowsSpec.vars false #[Value.string ⟨#[]⟩, .string ⟨#[]⟩].toList 8 = some ([.lit (.string []), .lit (.string [])], [], places) :=
  ⟨[], by kernel_rfl⟩
theorem parseRows_lifted (os : Os) (started : os.Started) (H : Type) (enc : TypeId × Value → H) (F : Stop.Interp) :
    ReturnsInHanded {} Tryz.checked os 3 .any ((Rows.OpenSpec.upto Rows.parseRowsSpec).preRow enc Tryz.prog Tryz.f3 Rows.parseRowsUptoRow.domain false Rows.parseRowsUptoRow.laid) (((Rows.OpenSpec.upto Rows.parseRowsSpec).at F).post enc Tryz.prog Tryz.f3 false true false false) := by
  obtain ⟨places, hx⟩ := parseRows_reads os enc
  refine returnsInHanded_of_row (C := Tryz.checked) (s := Rows.OpenSpec.upto Rows.parseRowsSpec) r_own started (by kernel_rfl) Tryz.func3
    ⟨World.laidAll Tryz.prog os Rows.parseRowsUptoRow.laid, fun _ _ => 0, ⟨#[], #[.string ⟨#[]⟩, .string ⟨#[]⟩], []⟩, World.laidAll_os _ _ _, World.shaped_of_ZipB (by kernel_rfl) (by kernel_rfl), rfl, (Input.okWide_of_okWideB (base := 0) (by kernel_rfl)).2,
      OpenSpec.preRow_of_cond 8 hx (by kernel_rfl) (fun k hk => by cases hk; kernel_rfl) (by kernel_rfl) (by rw [MakeChecks.laidMetH_plain _ _ _ (by kernel_rfl)]; exact laidMet_laidAll _ (by kernel_rfl) (by kernel_rfl)),
      by simp only [Assume.holds]; exact ⟨by simp, by simp, fun _ => Modest.zero, by simp, by simp⟩⟩ ?_
  intro W base args ds gs before hval hW _ hcond _ hL hsh _
  exact parseRows_contract H enc W base args ds gs before hval hW (hcond _ rfl) hL hsh
theorem parseRows_k1 : Rows.parseRowsUptoRow.wf (OpenSpec.ofChange Rows.parseRowsSpec) = true := by kernel_rfl
theorem parseRows_k2 : Tryz.f3.params.all (Tryz.checked.prog.readableRec ·) = true := by kernel_rfl
theorem parseRows_k3 : namedTie Tryz.checked.prog Rows.parseRowsUptoRow.named Rows.parseRowsSpec.vars = true := by kernel_rfl
theorem parseRows_k4 : (Rows.parseRowsUptoRow.stops == []) = true := by kernel_rfl
theorem parseRows_k5 : (Rows.parseRowsUptoRow.knobs == []) = true := by kernel_rfl
theorem parseRows_k6 : (Rows.parseRowsUptoRow.inPlace == Tryz.checked.prog.inPlace 3) = true := by kernel_rfl
theorem parseRows_k7 : (Rows.parseRowsUptoRow.unfollowed == Tryz.checked.prog.unfollowed 3) = true := by kernel_rfl
theorem parseRows_k8 : (Rows.parseRowsUptoRow.recurses == Tryz.checked.prog.recurses 3) = true := by kernel_rfl
theorem parseRows_k9 : (Rows.parseRowsUptoRow.named == Tryz.checked.prog.varsNamed 3) = true := by kernel_rfl
theorem parseRows_k10 : (Rows.parseRowsUptoRow.maps == (Tryz.f3.params.toList ++ Rows.parseRowsSpec.plain.varTypes Tryz.checked.prog).any (Tryz.checked.prog.mapsRec ·)) = true := by kernel_rfl
theorem parseRows_k11 : (Rows.parseRowsUptoRow.ifaces == (Tryz.f3.params.toList ++ Rows.parseRowsSpec.plain.varTypes Tryz.checked.prog).any (Tryz.checked.prog.ifacesRec ·)) = true := by kernel_rfl
theorem parseRows_k12 : (Rows.parseRowsUptoRow.mapsOut == Tryz.checked.prog.mapsAmong Tryz.f3.resultTypes.toList) = true := by kernel_rfl
theorem parseRows_k13 : (Rows.parseRowsUptoRow.loops == (Tryz.f3.params.toList ++ Rows.parseRowsSpec.plain.varTypes Tryz.checked.prog).any (Tryz.checked.prog.loopsFrom ·)) = true := by kernel_rfl
theorem parseRows_k14 : (Rows.parseRowsUptoRow.wideKeys == (Tryz.f3.params.toList ++ Rows.parseRowsSpec.plain.varTypes Tryz.checked.prog ++ Tryz.f3.resultTypes.toList).any (Tryz.checked.prog.wideKeysFrom ·)) = true := by kernel_rfl
theorem parseRows_k15 : Rows.parseRowsSpec.vars.all (Tryz.checked.prog.varReadable ·) = true := by kernel_rfl
theorem parseRows_k16 : Tryz.f3.resultTypes.all (fun t => Tryz.checked.prog.readableRec t && decide (t < Tryz.checked.prog.types.size)) = true := by kernel_rfl
theorem parseRows_k17 : (Rows.parseRowsUptoRow.ifacesOut == Tryz.f3.resultTypes.toList.any (Tryz.checked.prog.ifacesRec ·)) = true := by kernel_rfl
theorem parseRows_k18 : (Rows.parseRowsUptoRow.loopsOut == Tryz.f3.resultTypes.toList.any (Tryz.checked.prog.loopsFrom ·)) = true := by kernel_rfl
theorem parseRows_k19 : Rows.parseRowsUptoRow.shortTexts.isNone = true := by kernel_rfl
theorem parseRows_k20 : (Rows.parseRowsUptoRow.kinds == (if Rows.parseRowsUptoRow.domain.isEmpty then [] else Tryz.f3.params.toList.map fun t => match Tryz.checked.prog.underlying t with | some (.int k) => some k | _ => none)) = true := by kernel_rfl
theorem parseRows_k21 : (Rows.parseRowsUptoRow.pinned == Rows.parseRowsUptoRow.pinnedBy) = true := by kernel_rfl
theorem parseRows_k22 : (Rows.parseRowsUptoRow.veiled == (Tryz.f3.params.toList ++ Rows.parseRowsSpec.plain.varTypes Tryz.checked.prog ++ Tryz.f3.resultTypes.toList).any (Tryz.checked.prog.veiledRec ·)) = true := by kernel_rfl
theorem parseRows_k23 : Rows.parseRowsUptoRow.veiledFits Tryz.checked.prog Tryz.f3.params.toList (Tryz.f3.params.toList ++ Rows.parseRowsSpec.plain.varTypes Tryz.checked.prog ++ Tryz.f3.resultTypes.toList) = true := by kernel_rfl
theorem parseRows_closed : joinedFacts Tryz.checked.prog 3 Tryz.f3 Rows.parseRowsSpec Rows.parseRowsUptoRow = true := joined_of jp1 jp2 jp3 jp4 jp5 jp6 jp7 jp8 jp9 parseRows_k1 parseRows_k2 parseRows_k3 parseRows_k4 parseRows_k5 parseRows_k6 parseRows_k7 parseRows_k8 parseRows_k9 parseRows_k10 parseRows_k11 parseRows_k12 parseRows_k13 parseRows_k14 parseRows_k15 parseRows_k16 parseRows_k17 parseRows_k18 parseRows_k19 parseRows_k20 parseRows_k21 parseRows_k22 parseRows_k23
theorem parseRows_holds : Rows.ParseRowsUptoSaid :=
  OpenClaim.holds_of_cond 3 Tryz.f3 rfl rfl rfl rfl rfl rfl rfl ⟨rfl, rfl, rfl, rfl, rfl⟩ rfl rfl rfl rfl rfl (by kernel_rfl) Tryz.func3 parseRows_closed
    (of_decide_eq_true (by kernel_rfl)) (by unfold Func.isWrapper; first | (rw [if_pos (by decide +kernel)]; kernel_rfl) | (rw [if_neg (by decide +kernel)]; exact ⟨rfl, rfl⟩))
    (fun os started H enc _ F => by rw [OpenClaim.pre_eq_preRow]; exact parseRows_lifted os started H enc F)
theorem parseRows_w : Rows.parseRowsUptoRow.wfByText (Rows.OpenSpec.upto Rows.parseRowsSpec) = true := by kernel_rfl
theorem parseRows_named : Tryz.prog.funcNamed Rows.parseRowsUptoRow.func = some 3 := by kernel_rfl
theorem parseRows_goes : false = Rows.parseRowsUptoRow.goesBy Tryz.checked.prog := by kernel_rfl
theorem parseRows_card_holds : Rows.ParseRowsUptoCardSaid :=
  Claim7.holds_tied_plain_at .later [] _ _ _ _ parseRows_holds (fun _ h => by cases h) parseRows_w (fun _ h => by cases h) parseRowsUpto_row_tie rfl ⟨rfl, rfl⟩ jp10 rfl
    (fun f fn hf hfn => by
      obtain rfl : f = 3 := Option.some.inj (parseRows_named.symm.trans hf) |>.symm
      obtain rfl : fn = Tryz.f3 := (Option.some.inj (Tryz.func3.symm.trans hfn)).symm
      exact ⟨jp11, fun j t ht => by
        rw [Tryz.params3] at ht
        have hm : t ∈ [9, 9] := by simpa using Array.mem_of_getElem? ht
        have hall : ([9, 9].all fun u => !Tryz.prog.wantsStandIn u) = true := by kernel_rfl
        exact (show Tryz.prog.wantsStandIn t = false by simpa using List.all_eq_true.1 hall t hm)⟩)
    parseRows_goes
end Go.Proofs.YtjmoaahgfjaafaaGreatDoor
end
