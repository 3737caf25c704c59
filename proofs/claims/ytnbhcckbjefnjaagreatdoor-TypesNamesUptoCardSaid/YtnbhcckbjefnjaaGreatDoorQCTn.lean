/-
  The law TypesNames of the types returns true for every program and every int whose bulk is at most 1048576: the second form's tied card of its row.
-/
import Derived.Deep.DeepHandedRow
import Derived.Carry
import Derived.Test.YtnbhcckbjefnjaaGreatDoorB12
set_option linter.unusedVariables false
set_option linter.unusedSimpArgs false
set_option linter.all false
set_option maxRecDepth 100000
set_option maxHeartbeats 16000000
section
namespace Go.PM.Lex
open Go.Proofs
variable {w0 : World} {nG : Nat}
theorem ZDl {x : Pr} (hz : ZbW x ≤ 2097152) (hw : wUn (prU x) ≤ 2097152) (hr : Zlv (prU x) = true) : JP 2097152 (prU x) := by
  have h2 := ZgO _ hr
  exact ⟨hr, hw, by omega, rfl, rfl, rfl⟩
theorem Zky (hg : GlobOK w0 nG) (hN : NumOK w0 nG) (hL : LexC w0 nG) : PCalls (GG w0 nG) 3 (Zd4 2097152) := ZnC ⟨ZEl 6000, ZtK (ZxF hg hN hL 1000), Zuv (ZxF hg hN hL 4194304), ZCW (ZxF hg hN hL 4194304), ZBK _, ZDM _, trivial⟩
theorem Zcf {W : World} (hg : GlobOK W 8) (hN : NumOK W 8) (hL : LexC W 8) {a0 : Array Value} {x0 : Pr} (h0 : VRel (GG W 8) Zkx ⟨[], [], 0⟩ W (.agg ((UC plZ x0).map .d)) (.agg a0)) (z0 : ZbW x0 ≤ 2097152) (y0 : wUn (prU x0) ≤ 2097152) (r0 : Zlv (prU x0) = true) (a1 : Int) :
    Calls Tryz.prog 3 #[.agg a0, .int .i64 a1] W fun e W' => e = .returned (.bool true) ∧ (∀ may, W.keptBut W' may) ∧ RowKit.Below W.heap.size W W' := by
  have hsz : 8 ≤ W.heap.size := by
    obtain ⟨ev, h1, _⟩ := hg.errRange
    have := World.block_lt_of_cell? W ⟨7, 0, none⟩ h1
    simp at this; omega
  have hc := (Zky hg hN hL).calls [.agg ((UC plZ x0).map .d), .d (.int .i64 a1)] ⟨[], [], 0⟩ (fun pe _ => pe = .ret (.d (.bool true))) ⟨⟨plZ, x0, rfl, ⟨ZDl z0 y0 r0, by decide, z0⟩⟩, rfl⟩ 0 Zkx W #[.agg a0, .int .i64 a1] (Zys hsz) ⟨rfl, fun i x u hx hu => by
    match i, hx, hu with
    | 0, hx, hu => cases hx; cases hu; exact h0
    | 1, hx, hu => cases hx; cases hu; exact .d _ _ (.int _ _)
    | i + 2, hx, hu => simp at hx⟩
  refine Calls.mono (callsIn_wide.1 hc) fun en W' ⟨pe, σ', e', hK, hE, hS, hL⟩ => ?_
  subst hK
  obtain ⟨v, rfl, hv⟩ := hE
  cases hv with
  | d _ _ hd =>
    cases hd
    exact ⟨rfl, fun may => ZBv hL, ⟨hL.os, hL.tape, hL.output, hL.size, fun k hk => hL.blocks k hk (fun i hi => by simp at hi) (fun t ht => by cases ht) rfl⟩⟩
end Go.PM.Lex
namespace Go.Proofs.YtnbhcckbjefnjaaGreatDoor
open Go.ChangeShapes Go.WideShapes Go.ChangeAt Go.RowKit Go.ChangeMaps Go.PM.Lex
theorem typesNames_contract (H : Type) (enc : TypeId × Value → H) (W : World) (base : Nat) (args : Array Value) (ds gs : List (DataW H)) (before : List MemPlace)
    (hval : ∀ (j : Nat) t v, Tryz.f3.params[j]? = some t → args[j]? = some v → Value.okWide Tryz.prog W .any base t v)
    (hW : DataW.Whole enc Tryz.prog Tryz.f3.params.toList Rows.typesNamesSpec.vars false W args.toList ds gs before) (hk : Rows.uptoSmall H (ds ++ gs) = true)
    (hL : laidMetH Tryz.prog Rows.typesNamesUptoRow.laid W) (hsh : W.ShapedOpen Tryz.prog) :
    Calls Tryz.prog 3 args W fun e W' => ∃ v, e = .returned v ∧ Rows.typesNamesSpec.post enc Tryz.prog Tryz.f3 false true false false W args v W' := by
  have hW' := hW
  obtain ⟨p, q, hA0, hV, rfl, _, _⟩ := hW
  have hA : DataW.TrodAll enc Tryz.prog W 0 (fun _ => true) true Tryz.f3.params.toList args.toList ds p := hA0
  have hlt := DataW.TrodAll.lt hA
  rw [Tryz.params3] at hA hval
  obtain ⟨v0, v1, d0, d1, p0, p1, rfl, rfl, rfl, h0, h1⟩ := trodAll_two hA
  obtain ⟨rfl, rfl⟩ := trodVars_none hV
  obtain ⟨a0, rfl⟩ : ∃ cs, v0 = .agg cs := by
    have : Value.okWide Tryz.prog W .any base 26 v0 := hval 0 _ v0 rfl rfl
    unfold Value.okWide at this
    rw [Tryz.underlying26] at this
    obtain ⟨cs, h, _⟩ := this; exact ⟨cs, h⟩
  obtain ⟨x0, hx0, zs0, zw0, rg0⟩ := ZtP (nG := 8) h0
  obtain ⟨a1, rfl, rfl, rfl, hs1⟩ := open_int Tryz.underlying3 (hval 1 _ v1 rfl rfl) h1
  have hb : Rows.uptoBulkAll ([d0, DataW.lit (H := H) (.int .i64 a1)] ++ []) ≤ 1048576 := of_decide_eq_true hk
  simp only [List.append_nil, Rows.uptoBulkAll, Rows.uptoBulk] at hb
  simp only [List.append_nil] at hW'
  have hg := ZBu hL hsh
  refine (Zcf hg (ZDk hL) (ZDi (by decide) (ZBw hL)) hx0 (by omega) (by omega) rg0 a1).mono fun e W' ⟨he, hk, hbl⟩ => ?_
  subst he
  refine ⟨_, rfl, _, _, _, [], (p0 ++ []), [], hW', ?_, ?_, ?_, hk _, fun h => by cases h⟩
  · exact trodAll_mk1 (shut_bool Tryz.underlying4 true)
  · exact trodAll_mk2 (hbl.trod jp1 (by kernel_rfl) (of_decide_eq_true (by kernel_rfl)) h0 fun z hz => hlt z (by simp [hz])) (shut_int Tryz.underlying3 hs1)
  · rfl
theorem typesNames_reads (os : Os) {H : Type} (enc : TypeId × Value → H) : ∃ places, DataW.whole enc Tryz.prog ((World.laidAll Tryz.prog os Rows.typesNamesUptoRow.laid).forCall (fun _ _ => 0) ⟨#[], #[.agg #[.slice none 0 0, .slice none 0 0, .slice none 0 0], .int .i64 0], []⟩).memory Tryz.f3.params.toList Rows.typesNamesSpec.vars false #[Value.agg #[.slice none 0 0, .slice none 0 0, .slice none 0 0], .int .i64 0].toList 8 = some ([.agg [.nil, .nil, .nil], .lit (.int .i64 0)], [], places) :=
  ⟨[], by kernel_rfl⟩
theorem typesNames_lifted (os : Os) (started : os.Started) (H : Type) (enc : TypeId × Value → H) (F : Stop.Interp) :
    ReturnsInHanded {} Tryz.checked os 3 .any ((Rows.OpenSpec.upto Rows.typesNamesSpec).preRow enc Tryz.prog Tryz.f3 Rows.typesNamesUptoRow.domain false Rows.typesNamesUptoRow.laid) (((Rows.OpenSpec.upto Rows.typesNamesSpec).at F).post enc Tryz.prog Tryz.f3 false true false false) := by
  obtain ⟨places, hx⟩ := typesNames_reads os enc
  refine returnsInHanded_of_row (C := Tryz.checked) (s := Rows.OpenSpec.upto Rows.typesNamesSpec) ZDg started (by kernel_rfl) Tryz.func3
    ⟨World.laidAll Tryz.prog os Rows.typesNamesUptoRow.laid, fun _ _ => 0, ⟨#[], #[.agg #[.slice none 0 0, .slice none 0 0, .slice none 0 0], .int .i64 0], []⟩, World.laidAll_os _ _ _, World.shaped_of_ZipB (by kernel_rfl) (by kernel_rfl), rfl, (Input.okWide_of_okWideB (base := 0) (by kernel_rfl)).2,
      OpenSpec.preRow_of_cond 8 hx (by kernel_rfl) (fun k hk => by cases hk; kernel_rfl) (by kernel_rfl) (by rw [MakeChecks.laidMetH_plain _ _ _ (by kernel_rfl)]; exact laidMet_laidAll _ (by kernel_rfl) (by kernel_rfl)),
      by simp only [Assume.holds]; exact ⟨by simp, by simp, fun _ => Modest.zero, by simp, by simp⟩⟩ ?_
  intro W base args ds gs before hval hW _ hcond _ hL hsh _
  exact typesNames_contract H enc W base args ds gs before hval hW (hcond _ rfl) hL hsh
theorem Zhb : Rows.typesNamesUptoRow.wf (OpenSpec.ofChange Rows.typesNamesSpec) = true := by kernel_rfl
theorem Zhc : Tryz.f3.params.all (Tryz.checked.prog.readableRec ·) = true := by kernel_rfl
theorem Zhd : namedTie Tryz.checked.prog Rows.typesNamesUptoRow.named Rows.typesNamesSpec.vars = true := by kernel_rfl
theorem Zhe : (Rows.typesNamesUptoRow.stops == []) = true := by kernel_rfl
theorem Zhf : (Rows.typesNamesUptoRow.knobs == []) = true := by kernel_rfl
theorem Zhg : (Rows.typesNamesUptoRow.inPlace == Tryz.checked.prog.inPlace 3) = true := by kernel_rfl
theorem Zhh : (Rows.typesNamesUptoRow.unfollowed == Tryz.checked.prog.unfollowed 3) = true := by kernel_rfl
theorem Zhi : (Rows.typesNamesUptoRow.recurses == Tryz.checked.prog.recurses 3) = true := by kernel_rfl
theorem Zhj : (Rows.typesNamesUptoRow.named == Tryz.checked.prog.varsNamed 3) = true := by kernel_rfl
theorem ZeB : (Rows.typesNamesUptoRow.maps == (Tryz.f3.params.toList ++ Rows.typesNamesSpec.plain.varTypes Tryz.checked.prog).any (Tryz.checked.prog.mapsRec ·)) = true := by kernel_rfl
theorem ZeC : (Rows.typesNamesUptoRow.ifaces == (Tryz.f3.params.toList ++ Rows.typesNamesSpec.plain.varTypes Tryz.checked.prog).any (Tryz.checked.prog.ifacesRec ·)) = true := by kernel_rfl
theorem ZeD : (Rows.typesNamesUptoRow.mapsOut == Tryz.checked.prog.mapsAmong Tryz.f3.resultTypes.toList) = true := by kernel_rfl
theorem ZeE : (Rows.typesNamesUptoRow.loops == (Tryz.f3.params.toList ++ Rows.typesNamesSpec.plain.varTypes Tryz.checked.prog).any (Tryz.checked.prog.loopsFrom ·)) = true := by kernel_rfl
theorem ZeF : (Rows.typesNamesUptoRow.wideKeys == (Tryz.f3.params.toList ++ Rows.typesNamesSpec.plain.varTypes Tryz.checked.prog ++ Tryz.f3.resultTypes.toList).any (Tryz.checked.prog.wideKeysFrom ·)) = true := by kernel_rfl
theorem ZeG : Rows.typesNamesSpec.vars.all (Tryz.checked.prog.varReadable ·) = true := by kernel_rfl
theorem ZeH : Tryz.f3.resultTypes.all (fun t => Tryz.checked.prog.readableRec t && decide (t < Tryz.checked.prog.types.size)) = true := by kernel_rfl
theorem ZeI : (Rows.typesNamesUptoRow.ifacesOut == Tryz.f3.resultTypes.toList.any (Tryz.checked.prog.ifacesRec ·)) = true := by kernel_rfl
theorem ZeJ : (Rows.typesNamesUptoRow.loopsOut == Tryz.f3.resultTypes.toList.any (Tryz.checked.prog.loopsFrom ·)) = true := by kernel_rfl
theorem ZeK : Rows.typesNamesUptoRow.shortTexts.isNone = true := by kernel_rfl
theorem ZeL : (Rows.typesNamesUptoRow.kinds == (if Rows.typesNamesUptoRow.domain.isEmpty then [] else Tryz.f3.params.toList.map fun t => match Tryz.checked.prog.underlying t with | some (.int k) => some k | _ => none)) = true := by kernel_rfl
theorem ZeM : (Rows.typesNamesUptoRow.pinned == Rows.typesNamesUptoRow.pinnedBy) = true := by kernel_rfl
theorem ZeN : (Rows.typesNamesUptoRow.veiled == (Tryz.f3.params.toList ++ Rows.typesNamesSpec.plain.varTypes Tryz.checked.prog ++ Tryz.f3.resultTypes.toList).any (Tryz.checked.prog.veiledRec ·)) = true := by kernel_rfl
theorem ZeO : Rows.typesNamesUptoRow.veiledFits Tryz.checked.prog Tryz.f3.params.toList (Tryz.f3.params.toList ++ Rows.typesNamesSpec.plain.varTypes Tryz.checked.prog ++ Tryz.f3.resultTypes.toList) = true := by kernel_rfl
theorem typesNames_closed : joinedFacts Tryz.checked.prog 3 Tryz.f3 Rows.typesNamesSpec Rows.typesNamesUptoRow = true := Zrh jp1 jp2 jp3 jp4 jp5 jp6 jp7 jp8 jp9 Zhb Zhc Zhd Zhe Zhf Zhg Zhh Zhi Zhj ZeB ZeC ZeD ZeE ZeF ZeG ZeH ZeI ZeJ ZeK ZeL ZeM ZeN ZeO
theorem typesNames_holds : Rows.TypesNamesUptoSaid :=
  OpenClaim.holds_of_cond 3 Tryz.f3 rfl rfl rfl rfl rfl rfl rfl ⟨rfl, rfl, rfl, rfl, rfl⟩ rfl rfl rfl rfl rfl (by kernel_rfl) Tryz.func3 typesNames_closed
    (of_decide_eq_true (by kernel_rfl)) (by unfold Func.isWrapper; first | (rw [if_pos (by decide +kernel)]; kernel_rfl) | (rw [if_neg (by decide +kernel)]; exact ⟨rfl, rfl⟩))
    (fun os started H enc _ F => by rw [OpenClaim.pre_eq_preRow]; exact typesNames_lifted os started H enc F)
theorem typesNames_w : Rows.typesNamesUptoRow.wfByText (Rows.OpenSpec.upto Rows.typesNamesSpec) = true := by kernel_rfl
theorem typesNames_named : Tryz.prog.funcNamed Rows.typesNamesUptoRow.func = some 3 := by kernel_rfl
theorem typesNames_goes : false = Rows.typesNamesUptoRow.goesBy Tryz.checked.prog := by kernel_rfl
theorem typesNames_card_holds : Rows.TypesNamesUptoCardSaid :=
  Claim7.holds_tied_plain_at .later [] _ _ _ _ typesNames_holds (fun _ h => by cases h) typesNames_w (fun _ h => by cases h) typesNamesUpto_row_tie rfl ⟨rfl, rfl⟩ jp10 rfl
    (fun f fn hf hfn => by
      obtain rfl : f = 3 := Option.some.inj (typesNames_named.symm.trans hf) |>.symm
      obtain rfl : fn = Tryz.f3 := (Option.some.inj (Tryz.func3.symm.trans hfn)).symm
      exact ⟨jp11, fun j t ht => by
        rw [Tryz.params3] at ht
        have hm : t ∈ [26, 3] := by simpa using Array.mem_of_getElem? ht
        have hall : ([26, 3].all fun u => !Tryz.prog.wantsStandIn u) = true := by kernel_rfl
        exact (show Tryz.prog.wantsStandIn t = false by simpa using List.all_eq_true.1 hall t hm)⟩)
    typesNames_goes
end Go.Proofs.YtnbhcckbjefnjaaGreatDoor
end
