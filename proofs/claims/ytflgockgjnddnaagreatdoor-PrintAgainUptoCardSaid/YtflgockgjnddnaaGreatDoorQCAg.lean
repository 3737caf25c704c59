/-
  The law PrintAgain of the printer returns true for every text whose bulk is at most 1048576: the second form's tied card of its row.
-/
import Derived.Deep.DeepHandedRow
import Derived.Carry
import Derived.Test.YtflgockgjnddnaaGreatDoorV11
set_option linter.unusedVariables false
set_option linter.unusedSimpArgs false
set_option linter.all false
set_option maxRecDepth 100000
set_option maxHeartbeats 16000000
section
namespace Go.PM.Lex
open Go.Proofs
variable {w0 : World} {nG : Nat}
theorem ZlH (hg : GlobOK w0 nG) (hN : NumOK w0 nG) (hL : LexC w0 nG) : PCalls (GG w0 nG) 10 ZfG := Zoy ⟨⟨ZDT hg hN hL 200000, Zos _⟩, ⟨Zze hg, Ze4⟩, ⟨ZtZ 200000, Ys _ _ _ _⟩, ⟨Zn9 ⟨⟨cPE hg hN hL 1000, Zqw _⟩, trivial⟩, ZhP⟩, trivial⟩
theorem ZdT {W : World} (hg : GlobOK W 8) (hN : NumOK W 8) (hL : LexC W 8) (a0 : ByteArray) (z0 : a0.size ≤ 1048576) :
    Calls Tryz.prog 10 #[.string a0] W fun e W' => e = .returned (.bool true) ∧ (∀ may, W.keptBut W' may) ∧ RowKit.Below W.heap.size W W' := by
  have hsz : 8 ≤ W.heap.size := by
    obtain ⟨ev, h1, _⟩ := hg.errRange
    have := World.block_lt_of_cell? W ⟨7, 0, none⟩ h1
    simp at this; omega
  have hc := (ZlH hg hN hL).calls [.d (.str a0.data.toList)] ⟨[], [], 0⟩ (fun pe _ => pe = .ret (.d (.bool true))) ⟨by rw [Array.length_toList]; exact Nat.lt_of_le_of_lt z0 (by decide), rfl⟩ 0 ZBF W #[.string a0] (Zyr hsz) ⟨rfl, fun i x u hx hu => by
    match i, hx, hu with
    | 0, hx, hu => cases hx; cases hu; exact .d _ _ (.str _)
    | i + 1, hx, hu => simp at hx⟩
  refine Calls.mono (callsIn_wide.1 hc) fun en W' ⟨pe, σ', e', hK, hE, hS, hL⟩ => ?_
  subst hK
  obtain ⟨v, rfl, hv⟩ := hE
  cases hv with
  | d _ _ hd =>
    cases hd
    exact ⟨rfl, fun may => ZBE hL, ⟨hL.os, hL.tape, hL.output, hL.size, fun k hk => hL.blocks k hk (fun i hi => by simp at hi) (fun t ht => by cases ht)⟩⟩
end Go.PM.Lex
namespace Go.Proofs.YtflgockgjnddnaaGreatDoor
open Go.ChangeShapes Go.WideShapes Go.ChangeAt Go.RowKit Go.ChangeMaps Go.PM.Lex
theorem printAgain_contract (H : Type) (enc : TypeId × Value → H) (W : World) (base : Nat) (args : Array Value) (ds gs : List (DataW H)) (before : List MemPlace)
    (hval : ∀ (j : Nat) t v, Tryz.f10.params[j]? = some t → args[j]? = some v → Value.okWide Tryz.prog W .any base t v)
    (hW : DataW.Whole enc Tryz.prog Tryz.f10.params.toList Rows.printAgainSpec.vars false W args.toList ds gs before) (hk : Rows.uptoSmall H (ds ++ gs) = true)
    (hL : laidMetH Tryz.prog Rows.printAgainUptoRow.laid W) (hsh : W.ShapedOpen Tryz.prog) :
    Calls Tryz.prog 10 args W fun e W' => ∃ v, e = .returned v ∧ Rows.printAgainSpec.post enc Tryz.prog Tryz.f10 false true false false W args v W' := by
  have hW' := hW
  obtain ⟨p, q, hA0, hV, rfl, _, _⟩ := hW
  have hA : DataW.TrodAll enc Tryz.prog W 0 (fun _ => true) true Tryz.f10.params.toList args.toList ds p := hA0
  have hlt := DataW.TrodAll.lt hA
  rw [Tryz.params10] at hA hval
  obtain ⟨v0, d0, rfl, rfl, h0⟩ := trodAll_one hA
  obtain ⟨rfl, rfl⟩ := trodVars_none hV
  obtain ⟨a0, rfl, rfl, rfl, hs0⟩ := open_string Tryz.underlying9 (hval 0 9 v0 rfl rfl) h0
  have hb : Rows.uptoBulkAll ([DataW.lit (H := H) (.string a0.data.toList)] ++ []) ≤ 1048576 := of_decide_eq_true hk
  simp only [List.append_nil, Rows.uptoBulkAll, Rows.uptoBulk] at hb
  have e0 : a0.data.toList.length = a0.size := by rw [Array.length_toList]; rfl
  simp only [List.append_nil] at hW'
  have hg := ZBD hL hsh
  refine (ZdT hg (ZC5 hL) (ZC3 (by decide) (ZBG hL)) a0 (by omega)).mono fun e W' ⟨he, hk, hbl⟩ => ?_
  subst he
  refine ⟨_, rfl, _, _, _, [], ([]), [], hW', ?_, ?_, ?_, hk _, fun h => by cases h⟩
  · exact trodAll_mk1 (shut_bool Tryz.underlying4 true)
  · exact trodAll_mk1 (shut_string Tryz.underlying9 hs0)
  · rfl
theorem printAgain_reads (os : Os) {H : Type} (enc : TypeId × Value → H) : ∃ places, DataW.whole enc Tryz.prog ((World.laidAll Tryz.prog os Rows.printAgainUptoRow.laid).forCall (fun _ _ => 0) ⟨#[], #[.string ⟨#[]⟩], []⟩).memory Tryz.f10.params.toList Rows.printAgainSpec.vars false #[Value.string ⟨#[]⟩].toList 8 = some ([.lit (.string [])], [], places) :=
  ⟨[], by kernel_rfl⟩
theorem printAgain_lifted (os : Os) (started : os.Started) (H : Type) (enc : TypeId × Value → H) (F : Stop.Interp) :
    ReturnsInHanded {} Tryz.checked os 10 .any ((Rows.OpenSpec.upto Rows.printAgainSpec).preRow enc Tryz.prog Tryz.f10 Rows.printAgainUptoRow.domain false Rows.printAgainUptoRow.laid) (((Rows.OpenSpec.upto Rows.printAgainSpec).at F).post enc Tryz.prog Tryz.f10 false true false false) := by
  obtain ⟨places, hx⟩ := printAgain_reads os enc
  refine returnsInHanded_of_row (C := Tryz.checked) (s := Rows.OpenSpec.upto Rows.printAgainSpec) ZC2 started (by kernel_rfl) Tryz.func10
    ⟨World.laidAll Tryz.prog os Rows.printAgainUptoRow.laid, fun _ _ => 0, ⟨#[], #[.string ⟨#[]⟩], []⟩, World.laidAll_os _ _ _, World.shaped_of_ZipB (by kernel_rfl) (by kernel_rfl), rfl, (Input.okWide_of_okWideB (base := 0) (by kernel_rfl)).2,
      OpenSpec.preRow_of_cond 8 hx (by kernel_rfl) (fun k hk => by cases hk; kernel_rfl) (by kernel_rfl) (by rw [MakeChecks.laidMetH_plain _ _ _ (by kernel_rfl)]; exact laidMet_laidAll _ (by kernel_rfl) (by kernel_rfl)),
      by simp only [Assume.holds]; exact ⟨by simp, by simp, fun _ => Modest.zero, by simp, by simp⟩⟩ ?_
  intro W base args ds gs before hval hW _ hcond _ hL hsh _
  exact printAgain_contract H enc W base args ds gs before hval hW (hcond _ rfl) hL hsh
theorem Zid : Rows.printAgainUptoRow.wf (OpenSpec.ofChange Rows.printAgainSpec) = true := by kernel_rfl
theorem Zie : Tryz.f10.params.all (Tryz.checked.prog.readableRec ·) = true := by kernel_rfl
theorem Zif : namedTie Tryz.checked.prog Rows.printAgainUptoRow.named Rows.printAgainSpec.vars = true := by kernel_rfl
theorem Zig : (Rows.printAgainUptoRow.stops == []) = true := by kernel_rfl
theorem Zih : (Rows.printAgainUptoRow.knobs == []) = true := by kernel_rfl
theorem Zii : (Rows.printAgainUptoRow.inPlace == Tryz.checked.prog.inPlace 10) = true := by kernel_rfl
theorem Zij : (Rows.printAgainUptoRow.unfollowed == Tryz.checked.prog.unfollowed 10) = true := by kernel_rfl
theorem Zik : (Rows.printAgainUptoRow.recurses == Tryz.checked.prog.recurses 10) = true := by kernel_rfl
theorem Zil : (Rows.printAgainUptoRow.named == Tryz.checked.prog.varsNamed 10) = true := by kernel_rfl
theorem Zf0 : (Rows.printAgainUptoRow.maps == (Tryz.f10.params.toList ++ Rows.printAgainSpec.plain.varTypes Tryz.checked.prog).any (Tryz.checked.prog.mapsRec ·)) = true := by kernel_rfl
theorem Zf1 : (Rows.printAgainUptoRow.ifaces == (Tryz.f10.params.toList ++ Rows.printAgainSpec.plain.varTypes Tryz.checked.prog).any (Tryz.checked.prog.ifacesRec ·)) = true := by kernel_rfl
theorem Zf2 : (Rows.printAgainUptoRow.mapsOut == Tryz.checked.prog.mapsAmong Tryz.f10.resultTypes.toList) = true := by kernel_rfl
theorem Zf3 : (Rows.printAgainUptoRow.loops == (Tryz.f10.params.toList ++ Rows.printAgainSpec.plain.varTypes Tryz.checked.prog).any (Tryz.checked.prog.loopsFrom ·)) = true := by kernel_rfl
theorem Zf4 : (Rows.printAgainUptoRow.wideKeys == (Tryz.f10.params.toList ++ Rows.printAgainSpec.plain.varTypes Tryz.checked.prog ++ Tryz.f10.resultTypes.toList).any (Tryz.checked.prog.wideKeysFrom ·)) = true := by kernel_rfl
theorem Zf5 : Rows.printAgainSpec.vars.all (Tryz.checked.prog.varReadable ·) = true := by kernel_rfl
theorem Zf6 : Tryz.f10.resultTypes.all (fun t => Tryz.checked.prog.readableRec t && decide (t < Tryz.checked.prog.types.size)) = true := by kernel_rfl
theorem Zf7 : (Rows.printAgainUptoRow.ifacesOut == Tryz.f10.resultTypes.toList.any (Tryz.checked.prog.ifacesRec ·)) = true := by kernel_rfl
theorem Zf8 : (Rows.printAgainUptoRow.loopsOut == Tryz.f10.resultTypes.toList.any (Tryz.checked.prog.loopsFrom ·)) = true := by kernel_rfl
theorem Zf9 : Rows.printAgainUptoRow.shortTexts.isNone = true := by kernel_rfl
theorem Zga : (Rows.printAgainUptoRow.kinds == (if Rows.printAgainUptoRow.domain.isEmpty then [] else Tryz.f10.params.toList.map fun t => match Tryz.checked.prog.underlying t with | some (.int k) => some k | _ => none)) = true := by kernel_rfl
theorem Zgb : (Rows.printAgainUptoRow.pinned == Rows.printAgainUptoRow.pinnedBy) = true := by kernel_rfl
theorem Zgc : (Rows.printAgainUptoRow.veiled == (Tryz.f10.params.toList ++ Rows.printAgainSpec.plain.varTypes Tryz.checked.prog ++ Tryz.f10.resultTypes.toList).any (Tryz.checked.prog.veiledRec ·)) = true := by kernel_rfl
theorem Zgd : Rows.printAgainUptoRow.veiledFits Tryz.checked.prog Tryz.f10.params.toList (Tryz.f10.params.toList ++ Rows.printAgainSpec.plain.varTypes Tryz.checked.prog ++ Tryz.f10.resultTypes.toList) = true := by kernel_rfl
theorem printAgain_closed : joinedFacts Tryz.checked.prog 10 Tryz.f10 Rows.printAgainSpec Rows.printAgainUptoRow = true := ZrH jp1 jp2 jp3 jp4 jp5 jp6 jp7 jp8 jp9 Zid Zie Zif Zig Zih Zii Zij Zik Zil Zf0 Zf1 Zf2 Zf3 Zf4 Zf5 Zf6 Zf7 Zf8 Zf9 Zga Zgb Zgc Zgd
theorem printAgain_holds : Rows.PrintAgainUptoSaid :=
  OpenClaim.holds_of_cond 10 Tryz.f10 rfl rfl rfl rfl rfl rfl rfl ⟨rfl, rfl, rfl, rfl, rfl⟩ rfl rfl rfl rfl rfl (by kernel_rfl) Tryz.func10 printAgain_closed
    (of_decide_eq_true (by kernel_rfl)) (by unfold Func.isWrapper; first | (rw [if_pos (by decide +kernel)]; kernel_rfl) | (rw [if_neg (by decide +kernel)]; exact ⟨rfl, rfl⟩))
    (fun os started H enc _ F => by rw [OpenClaim.pre_eq_preRow]; exact printAgain_lifted os started H enc F)
theorem printAgain_w : Rows.printAgainUptoRow.wfByText (Rows.OpenSpec.upto Rows.printAgainSpec) = true := by kernel_rfl
theorem printAgain_named : Tryz.prog.funcNamed Rows.printAgainUptoRow.func = some 10 := by kernel_rfl
theorem printAgain_goes : false = Rows.printAgainUptoRow.goesBy Tryz.checked.prog := by kernel_rfl
theorem printAgain_card_holds : Rows.PrintAgainUptoCardSaid :=
  Claim7.holds_tied_plain_at .later [] _ _ _ _ printAgain_holds (fun _ h => by cases h) printAgain_w (fun _ h => by cases h) printAgainUpto_row_tie rfl ⟨rfl, rfl⟩ jp10 rfl
    (fun f fn hf hfn => by
      obtain rfl : f = 10 := Option.some.inj (printAgain_named.symm.trans hf) |>.symm
      obtain rfl : fn = Tryz.f10 := (Option.some.inj (Tryz.func10.symm.trans hfn)).symm
      exact ⟨jp11, fun j t ht => by
        rw [Tryz.params10] at ht
        have hm : t ∈ [9] := by simpa using Array.mem_of_getElem? ht
        have hall : ([9].all fun u => !Tryz.prog.wantsStandIn u) = true := by kernel_rfl
        exact (show Tryz.prog.wantsStandIn t = false by simpa using List.all_eq_true.1 hall t hm)⟩)
    printAgain_goes
end Go.Proofs.YtflgockgjnddnaaGreatDoor
end
