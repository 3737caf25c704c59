/-
  The law PrintBack of the printer returns true for every unit whose bulk is at most 1048576: the second form's tied card of its row.
-/
import Derived.Deep.DeepHandedRow
import Derived.Carry
import Derived.Test.YtflgockgjnddnaaGreatDoorB11
set_option linter.unusedVariables false
set_option linter.unusedSimpArgs false
set_option linter.all false
set_option maxRecDepth 100000
set_option maxHeartbeats 16000000
section
namespace Go.PM.Lex
open Go.Proofs
variable {w0 : World} {nG : Nat}
theorem Znu (hg : GlobOK w0 nG) (hN : NumOK w0 nG) (hL : LexC w0 nG) : PCalls (GG w0 nG) 9 (Zg6 2097152) := Zqy ⟨⟨ZCn 6000, XO _ _ _ _⟩, ⟨ZCF hg hN hL 2097152, Zns _⟩, ⟨ZxX hg, ZeA⟩, ⟨ZsV 2097152, YA _ _ _ _⟩, ⟨ZsP 2097152, ZeD _⟩, ⟨Zm8 ⟨⟨cPE hg hN hL 1000, Zpw _⟩, trivial⟩, ZgO⟩, trivial⟩
theorem Ze6 {W : World} (hg : GlobOK W 8) (hN : NumOK W 8) (hL : LexC W 8) {a0 : Array Value} {x0 : Un} (h0 : VRel (GG W 8) Znt ⟨[], [], 0⟩ W (.agg ((Yf plZ x0).map .d)) (.agg a0)) (z0 : Zc8 x0 ≤ 2097152) (y0 : wUn x0 ≤ 2097152) (r0 : Zfa x0 = true) :
    Calls Tryz.prog 9 #[.agg a0] W fun e W' => e = .returned (.bool true) ∧ (∀ may, W.keptBut W' may) ∧ RowKit.Below W.heap.size W W' := by
  have hsz : 8 ≤ W.heap.size := by
    obtain ⟨ev, h1, _⟩ := hg.errRange
    have := World.block_lt_of_cell? W ⟨7, 0, none⟩ h1
    simp at this; omega
  have hc := (Znu hg hN hL).calls [.agg ((Yf plZ x0).map .d)] ⟨[], [], 0⟩ (fun pe _ => pe = .ret (.d (.bool true))) ⟨⟨plZ, x0, rfl, ⟨z0, y0, r0⟩, by decide⟩, rfl⟩ 0 Znt W #[.agg a0] (Zxa hsz) ⟨rfl, fun i x u hx hu => by
    match i, hx, hu with
    | 0, hx, hu => cases hx; cases hu; exact h0
    | i + 1, hx, hu => simp at hx⟩
  refine Calls.mono (callsIn_wide.1 hc) fun en W' ⟨pe, σ', e', hK, hE, hS, hL⟩ => ?_
  subst hK
  obtain ⟨v, rfl, hv⟩ := hE
  cases hv with
  | d _ _ hd =>
    cases hd
    exact ⟨rfl, fun may => ZAw hL, ⟨hL.os, hL.tape, hL.output, hL.size, fun k hk => hL.blocks k hk (fun i hi => by simp at hi) (fun t ht => by cases ht)⟩⟩
end Go.PM.Lex
namespace Go.Proofs.YtflgockgjnddnaaGreatDoor
open Go.ChangeShapes Go.WideShapes Go.ChangeAt Go.RowKit Go.ChangeMaps Go.PM.Lex
theorem printBack_contract (H : Type) (enc : TypeId × Value → H) (W : World) (base : Nat) (args : Array Value) (ds gs : List (DataW H)) (before : List MemPlace)
    (hval : ∀ (j : Nat) t v, Tryz.f9.params[j]? = some t → args[j]? = some v → Value.okWide Tryz.prog W .any base t v)
    (hW : DataW.Whole enc Tryz.prog Tryz.f9.params.toList Rows.printBackSpec.vars false W args.toList ds gs before) (hk : Rows.uptoSmall H (ds ++ gs) = true)
    (hL : laidMetH Tryz.prog Rows.printBackUptoRow.laid W) (hsh : W.ShapedOpen Tryz.prog) :
    Calls Tryz.prog 9 args W fun e W' => ∃ v, e = .returned v ∧ Rows.printBackSpec.post enc Tryz.prog Tryz.f9 false true false false W args v W' := by
  have hW' := hW
  obtain ⟨p, q, hA0, hV, rfl, _, _⟩ := hW
  have hA : DataW.TrodAll enc Tryz.prog W 0 (fun _ => true) true Tryz.f9.params.toList args.toList ds p := hA0
  have hlt := DataW.TrodAll.lt hA
  rw [Tryz.params9] at hA hval
  obtain ⟨v0, d0, rfl, rfl, h0⟩ := trodAll_one hA
  obtain ⟨rfl, rfl⟩ := trodVars_none hV
  obtain ⟨a0, rfl⟩ : ∃ cs, v0 = .agg cs := by
    have : Value.okWide Tryz.prog W .any base 44 v0 := hval 0 _ v0 rfl rfl
    unfold Value.okWide at this
    rw [Tryz.underlying44] at this
    obtain ⟨cs, h, _⟩ := this; exact ⟨cs, h⟩
  obtain ⟨x0, hx0, zs0, zw0, rg0⟩ := Zsv (nG := 8) h0
  have hb : Rows.uptoBulkAll ([d0] ++ []) ≤ 1048576 := of_decide_eq_true hk
  simp only [List.append_nil, Rows.uptoBulkAll] at hb
  simp only [List.append_nil] at hW'
  have hg := ZAv hL hsh
  refine (Ze6 hg (ZBS hL) (ZBQ (by decide) (ZAx hL)) hx0 (by omega) (by omega) rg0).mono fun e W' ⟨he, hk, hbl⟩ => ?_
  subst he
  refine ⟨_, rfl, _, _, _, [], (p), [], hW', ?_, ?_, ?_, hk _, fun h => by cases h⟩
  · exact trodAll_mk1 (shut_bool Tryz.underlying4 true)
  · exact trodAll_mk1 (hbl.trod jp1 (by kernel_rfl) (of_decide_eq_true (by kernel_rfl)) h0 fun z hz => hlt z (by simp [hz]))
  · rfl
theorem printBack_reads (os : Os) {H : Type} (enc : TypeId × Value → H) : ∃ places, DataW.whole enc Tryz.prog ((World.laidAll Tryz.prog os Rows.printBackUptoRow.laid).forCall (fun _ _ => 0) ⟨#[], #[.agg #[.slice none 0 0, .slice none 0 0, .slice none 0 0, .slice none 0 0, .slice none 0 0, .slice none 0 0]], []⟩).memory Tryz.f9.params.toList Rows.printBackSpec.vars false #[Value.agg #[.slice none 0 0, .slice none 0 0, .slice none 0 0, .slice none 0 0, .slice none 0 0, .slice none 0 0]].toList 8 = some ([.agg [.nil, .nil, .nil, .nil, .nil, .nil]], [], places) :=
  ⟨[], by kernel_rfl⟩
theorem printBack_lifted (os : Os) (started : os.Started) (H : Type) (enc : TypeId × Value → H) (F : Stop.Interp) :
    ReturnsInHanded {} Tryz.checked os 9 .any ((Rows.OpenSpec.upto Rows.printBackSpec).preRow enc Tryz.prog Tryz.f9 Rows.printBackUptoRow.domain false Rows.printBackUptoRow.laid) (((Rows.OpenSpec.upto Rows.printBackSpec).at F).post enc Tryz.prog Tryz.f9 false true false false) := by
  obtain ⟨places, hx⟩ := printBack_reads os enc
  refine returnsInHanded_of_row (C := Tryz.checked) (s := Rows.OpenSpec.upto Rows.printBackSpec) ZBP started (by kernel_rfl) Tryz.func9
    ⟨World.laidAll Tryz.prog os Rows.printBackUptoRow.laid, fun _ _ => 0, ⟨#[], #[.agg #[.slice none 0 0, .slice none 0 0, .slice none 0 0, .slice none 0 0, .slice none 0 0, .slice none 0 0]], []⟩, World.laidAll_os _ _ _, World.shaped_of_ZipB (by kernel_rfl) (by kernel_rfl), rfl, (Input.okWide_of_okWideB (base := 0) (by kernel_rfl)).2,
      OpenSpec.preRow_of_cond 8 hx (by kernel_rfl) (fun k hk => by cases hk; kernel_rfl) (by kernel_rfl) (by rw [MakeChecks.laidMetH_plain _ _ _ (by kernel_rfl)]; exact laidMet_laidAll _ (by kernel_rfl) (by kernel_rfl)),
      by simp only [Assume.holds]; exact ⟨by simp, by simp, fun _ => Modest.zero, by simp, by simp⟩⟩ ?_
  intro W base args ds gs before hval hW _ hcond _ hL hsh _
  exact printBack_contract H enc W base args ds gs before hval hW (hcond _ rfl) hL hsh
theorem ZiV : Rows.printBackUptoRow.wf (OpenSpec.ofChange Rows.printBackSpec) = true := by kernel_rfl
theorem ZiW : Tryz.f9.params.all (Tryz.checked.prog.readableRec ·) = true := by kernel_rfl
theorem ZiX : namedTie Tryz.checked.prog Rows.printBackUptoRow.named Rows.printBackSpec.vars = true := by kernel_rfl
theorem ZiY : (Rows.printBackUptoRow.stops == []) = true := by kernel_rfl
theorem ZiZ : (Rows.printBackUptoRow.knobs == []) = true := by kernel_rfl
theorem Zi0 : (Rows.printBackUptoRow.inPlace == Tryz.checked.prog.inPlace 9) = true := by kernel_rfl
theorem Zi1 : (Rows.printBackUptoRow.unfollowed == Tryz.checked.prog.unfollowed 9) = true := by kernel_rfl
theorem Zi2 : (Rows.printBackUptoRow.recurses == Tryz.checked.prog.recurses 9) = true := by kernel_rfl
theorem Zi3 : (Rows.printBackUptoRow.named == Tryz.checked.prog.varsNamed 9) = true := by kernel_rfl
theorem Zg7 : (Rows.printBackUptoRow.maps == (Tryz.f9.params.toList ++ Rows.printBackSpec.plain.varTypes Tryz.checked.prog).any (Tryz.checked.prog.mapsRec ·)) = true := by kernel_rfl
theorem Zg8 : (Rows.printBackUptoRow.ifaces == (Tryz.f9.params.toList ++ Rows.printBackSpec.plain.varTypes Tryz.checked.prog).any (Tryz.checked.prog.ifacesRec ·)) = true := by kernel_rfl
theorem Zg9 : (Rows.printBackUptoRow.mapsOut == Tryz.checked.prog.mapsAmong Tryz.f9.resultTypes.toList) = true := by kernel_rfl
theorem Zha : (Rows.printBackUptoRow.loops == (Tryz.f9.params.toList ++ Rows.printBackSpec.plain.varTypes Tryz.checked.prog).any (Tryz.checked.prog.loopsFrom ·)) = true := by kernel_rfl
theorem Zhb : (Rows.printBackUptoRow.wideKeys == (Tryz.f9.params.toList ++ Rows.printBackSpec.plain.varTypes Tryz.checked.prog ++ Tryz.f9.resultTypes.toList).any (Tryz.checked.prog.wideKeysFrom ·)) = true := by kernel_rfl
theorem Zhc : Rows.printBackSpec.vars.all (Tryz.checked.prog.varReadable ·) = true := by kernel_rfl
theorem Zhd : Tryz.f9.resultTypes.all (fun t => Tryz.checked.prog.readableRec t && decide (t < Tryz.checked.prog.types.size)) = true := by kernel_rfl
theorem Zhe : (Rows.printBackUptoRow.ifacesOut == Tryz.f9.resultTypes.toList.any (Tryz.checked.prog.ifacesRec ·)) = true := by kernel_rfl
theorem Zhf : (Rows.printBackUptoRow.loopsOut == Tryz.f9.resultTypes.toList.any (Tryz.checked.prog.loopsFrom ·)) = true := by kernel_rfl
theorem Zhg : Rows.printBackUptoRow.shortTexts.isNone = true := by kernel_rfl
theorem Zhh : (Rows.printBackUptoRow.kinds == (if Rows.printBackUptoRow.domain.isEmpty then [] else Tryz.f9.params.toList.map fun t => match Tryz.checked.prog.underlying t with | some (.int k) => some k | _ => none)) = true := by kernel_rfl
theorem Zhi : (Rows.printBackUptoRow.pinned == Rows.printBackUptoRow.pinnedBy) = true := by kernel_rfl
theorem Zhj : (Rows.printBackUptoRow.veiled == (Tryz.f9.params.toList ++ Rows.printBackSpec.plain.varTypes Tryz.checked.prog ++ Tryz.f9.resultTypes.toList).any (Tryz.checked.prog.veiledRec ·)) = true := by kernel_rfl
theorem Zhk : Rows.printBackUptoRow.veiledFits Tryz.checked.prog Tryz.f9.params.toList (Tryz.f9.params.toList ++ Rows.printBackSpec.plain.varTypes Tryz.checked.prog ++ Tryz.f9.resultTypes.toList) = true := by kernel_rfl
theorem printBack_closed : joinedFacts Tryz.checked.prog 9 Tryz.f9 Rows.printBackSpec Rows.printBackUptoRow = true := ZqA jp1 jp2 jp3 jp4 jp5 jp6 jp7 jp8 jp9 ZiV ZiW ZiX ZiY ZiZ Zi0 Zi1 Zi2 Zi3 Zg7 Zg8 Zg9 Zha Zhb Zhc Zhd Zhe Zhf Zhg Zhh Zhi Zhj Zhk
theorem printBack_holds : Rows.PrintBackUptoSaid :=
  OpenClaim.holds_of_cond 9 Tryz.f9 rfl rfl rfl rfl rfl rfl rfl ⟨rfl, rfl, rfl, rfl, rfl⟩ rfl rfl rfl rfl rfl (by kernel_rfl) Tryz.func9 printBack_closed
    (of_decide_eq_true (by kernel_rfl)) (by unfold Func.isWrapper; first | (rw [if_pos (by decide +kernel)]; kernel_rfl) | (rw [if_neg (by decide +kernel)]; exact ⟨rfl, rfl⟩))
    (fun os started H enc _ F => by rw [OpenClaim.pre_eq_preRow]; exact printBack_lifted os started H enc F)
theorem printBack_w : Rows.printBackUptoRow.wfByText (Rows.OpenSpec.upto Rows.printBackSpec) = true := by kernel_rfl
theorem printBack_named : Tryz.prog.funcNamed Rows.printBackUptoRow.func = some 9 := by kernel_rfl
theorem printBack_goes : false = Rows.printBackUptoRow.goesBy Tryz.checked.prog := by kernel_rfl
theorem printBack_card_holds : Rows.PrintBackUptoCardSaid :=
  Claim7.holds_tied_plain_at .later [] _ _ _ _ printBack_holds (fun _ h => by cases h) printBack_w (fun _ h => by cases h) printBackUpto_row_tie rfl ⟨rfl, rfl⟩ jp10 rfl
    (fun f fn hf hfn => by
      obtain rfl : f = 9 := Option.some.inj (printBack_named.symm.trans hf) |>.symm
      obtain rfl : fn = Tryz.f9 := (Option.some.inj (Tryz.func9.symm.trans hfn)).symm
      exact ⟨jp11, fun j t ht => by
        rw [Tryz.params9] at ht
        have hm : t ∈ [44] := by simpa using Array.mem_of_getElem? ht
        have hall : ([44].all fun u => !Tryz.prog.wantsStandIn u) = true := by kernel_rfl
        exact (show Tryz.prog.wantsStandIn t = false by simpa using List.all_eq_true.1 hall t hm)⟩)
    printBack_goes
end Go.Proofs.YtflgockgjnddnaaGreatDoor
end
