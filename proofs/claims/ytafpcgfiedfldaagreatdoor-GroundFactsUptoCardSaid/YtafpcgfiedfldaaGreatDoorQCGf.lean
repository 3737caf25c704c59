/-
  The law GroundFacts of ground returns true for every program whose bulk is at most 1048576: the second form's tied card of its row.
-/
import Derived.Deep.DeepHandedRow
import Derived.Carry
import Derived.Test.YtafpcgfiedfldaaGreatDoorB13
set_option linter.unusedVariables false
set_option linter.unusedSimpArgs false
set_option linter.all false
set_option maxRecDepth 100000
set_option maxHeartbeats 16000000
section
namespace Go.PM.Lex
open Go.Proofs
variable {w0 : World} {nG : Nat}
theorem ZD6 {x : Pr} (hz : ZaE x ≤ 2097152) (hw : wUn (prU x) ≤ 2097152) (hr : ZlT (prU x) = true) : Zaq 2097152 (prU x) := by
  have h2 := Zg1 _ hr
  exact ⟨hr, hw, by omega, rfl, rfl, rfl⟩
theorem Zjg (hg : GlobOK w0 nG) (hN : NumOK w0 nG) (hL : LexC w0 nG) : PCalls (GG w0 nG) 3 (Zhl 2097152) := Zrj ⟨ZFa 6000, Zt7 (ZxZ hg hN hL 1000), ZuR (ZxZ hg hN hL 2097152), Zrh (ZxZ hg hN hL 2097152), ZBH _, trivial⟩
theorem Zbz {W : World} (hg : GlobOK W 8) (hN : NumOK W 8) (hL : LexC W 8) {a0 : Array Value} {x0 : Pr} (h0 : VRel (GG W 8) ZkY ⟨[], [], 0⟩ W (.agg ((V5 plZ x0).map .d)) (.agg a0)) (z0 : ZaE x0 ≤ 2097152) (y0 : wUn (prU x0) ≤ 2097152) (r0 : ZlT (prU x0) = true) :
    Calls Tryz.prog 3 #[.agg a0] W fun e W' => e = .returned (.bool true) ∧ (∀ may, W.keptBut W' may) ∧ RowKit.Below W.heap.size W W' := by
  have hsz : 8 ≤ W.heap.size := by
    obtain ⟨ev, h1, _⟩ := hg.errRange
    have := World.block_lt_of_cell? W ⟨7, 0, none⟩ h1
    simp at this; omega
  have hc := (Zjg hg hN hL).calls [.agg ((V5 plZ x0).map .d)] ⟨[], [], 0⟩ (fun pe _ => pe = .ret (.d (.bool true))) ⟨⟨plZ, x0, rfl, ⟨ZD6 z0 y0 r0, by decide, z0⟩⟩, rfl⟩ 0 ZkY W #[.agg a0] (ZyZ hsz) ⟨rfl, fun i x u hx hu => by
    match i, hx, hu with
    | 0, hx, hu => cases hx; cases hu; exact h0
    | i + 1, hx, hu => simp at hx⟩
  refine Calls.mono (callsIn_wide.1 hc) fun en W' ⟨pe, σ', e', hK, hE, hS, hL⟩ => ?_
  subst hK
  obtain ⟨v, rfl, hv⟩ := hE
  cases hv with
  | d _ _ hd =>
    cases hd
    exact ⟨rfl, fun may => ZB9 hL, ⟨hL.os, hL.tape, hL.output, hL.size, fun k hk => hL.blocks k hk (fun i hi => by simp at hi) (fun t ht => by cases ht) rfl⟩⟩
end Go.PM.Lex
namespace Go.Proofs.YtafpcgfiedfldaaGreatDoor
open Go.ChangeShapes Go.WideShapes Go.ChangeAt Go.RowKit Go.ChangeMaps Go.PM.Lex
theorem groundFacts_contract (H : Type) (enc : TypeId × Value → H) (W : World) (base : Nat) (args : Array Value) (ds gs : List (DataW H)) (before : List MemPlace)
    (hval : ∀ (j : Nat) t v, Tryz.f3.params[j]? = some t → args[j]? = some v → Value.okWide Tryz.prog W .any base t v)
    (hW : DataW.Whole enc Tryz.prog Tryz.f3.params.toList Rows.groundFactsSpec.vars false W args.toList ds gs before) (hk : Rows.uptoSmall H (ds ++ gs) = true)
    (hL : laidMetH Tryz.prog Rows.groundFactsUptoRow.laid W) (hsh : W.ShapedOpen Tryz.prog) :
    Calls Tryz.prog 3 args W fun e W' => ∃ v, e = .returned v ∧ Rows.groundFactsSpec.post enc Tryz.prog Tryz.f3 false true false false W args v W' := by
  have hW' := hW
  obtain ⟨p, q, hA0, hV, rfl, _, _⟩ := hW
  have hA : DataW.TrodAll enc Tryz.prog W 0 (fun _ => true) true Tryz.f3.params.toList args.toList ds p := hA0
  have hlt := DataW.TrodAll.lt hA
  rw [Tryz.params3] at hA hval
  obtain ⟨v0, d0, rfl, rfl, h0⟩ := trodAll_one hA
  obtain ⟨rfl, rfl⟩ := trodVars_none hV
  obtain ⟨a0, rfl⟩ : ∃ cs, v0 = .agg cs := by
    have : Value.okWide Tryz.prog W .any base 26 v0 := hval 0 _ v0 rfl rfl
    unfold Value.okWide at this
    rw [Tryz.underlying26] at this
    obtain ⟨cs, h, _⟩ := this; exact ⟨cs, h⟩
  obtain ⟨x0, hx0, zs0, zw0, rg0⟩ := Zuc (nG := 8) h0
  have hb : Rows.uptoBulkAll ([d0] ++ []) ≤ 1048576 := of_decide_eq_true hk
  simp only [List.append_nil, Rows.uptoBulkAll] at hb
  simp only [List.append_nil] at hW'
  have hg := ZB8 hL hsh
  refine (Zbz hg (ZD5 hL) (ZD3 (by decide) (ZCa hL)) hx0 (by omega) (by omega) rg0).mono fun e W' ⟨he, hk, hbl⟩ => ?_
  subst he
  refine ⟨_, rfl, _, _, _, [], (p), [], hW', ?_, ?_, ?_, hk _, fun h => by cases h⟩
  · exact trodAll_mk1 (shut_bool Tryz.underlying4 true)
  · exact trodAll_mk1 (hbl.trod jp1 (by kernel_rfl) (of_decide_eq_true (by kernel_rfl)) h0 fun z hz => hlt z (by simp [hz]))
  · rfl
theorem groundFacts_reads (os : Os) {H : Type} (enc : TypeId × Value → H) : ∃ places, DataW.whole enc Tryz.prog ((World.laidAll Tryz.prog os Rows.groundFactsUptoRow.laid).forCall (fun _ _ => 0) ⟨#[], #[.agg #[.slice none 0 0, .slice none 0 0, .slice none 0 0]], []⟩).memory Tryz.f3.params.toList Rows.groundFactsSpec.vars false #[Value.agg #[.slice none 0 0, .slice none 0 0, .slice none 0 0]].toList 8 = some ([.agg [.nil, .nil, .nil]], [], places) :=
  ⟨[], by kernel_rfl⟩
theorem groundFacts_lifted (os : Os) (started : os.Started) (H : Type) (enc : TypeId × Value → H) (F : Stop.Interp) :
    ReturnsInHanded {} Tryz.checked os 3 .any ((Rows.OpenSpec.upto Rows.groundFactsSpec).preRow enc Tryz.prog Tryz.f3 Rows.groundFactsUptoRow.domain false Rows.groundFactsUptoRow.laid) (((Rows.OpenSpec.upto Rows.groundFactsSpec).at F).post enc Tryz.prog Tryz.f3 false true false false) := by
  obtain ⟨places, hx⟩ := groundFacts_reads os enc
  refine returnsInHanded_of_row (C := Tryz.checked) (s := Rows.OpenSpec.upto Rows.groundFactsSpec) ZD1 started (by kernel_rfl) Tryz.func3
    ⟨World.laidAll Tryz.prog os Rows.groundFactsUptoRow.laid, fun _ _ => 0, ⟨#[], #[.agg #[.slice none 0 0, .slice none 0 0, .slice none 0 0]], []⟩, World.laidAll_os _ _ _, World.shaped_of_ZipB (by kernel_rfl) (by kernel_rfl), rfl, (Input.okWide_of_okWideB (base := 0) (by kernel_rfl)).2,
      OpenSpec.preRow_of_cond 8 hx (by kernel_rfl) (fun k hk => by cases hk; kernel_rfl) (by kernel_rfl) (by rw [MakeChecks.laidMetH_plain _ _ _ (by kernel_rfl)]; exact laidMet_laidAll _ (by kernel_rfl) (by kernel_rfl)),
      by simp only [Assume.holds]; exact ⟨by simp, by simp, fun _ => Modest.zero, by simp, by simp⟩⟩ ?_
  intro W base args ds gs before hval hW _ hcond _ hL hsh _
  exact groundFacts_contract H enc W base args ds gs before hval hW (hcond _ rfl) hL hsh
theorem ZeV : Rows.groundFactsUptoRow.wf (OpenSpec.ofChange Rows.groundFactsSpec) = true := by kernel_rfl
theorem ZeW : Tryz.f3.params.all (Tryz.checked.prog.readableRec ·) = true := by kernel_rfl
theorem ZeX : namedTie Tryz.checked.prog Rows.groundFactsUptoRow.named Rows.groundFactsSpec.vars = true := by kernel_rfl
theorem ZeY : (Rows.groundFactsUptoRow.stops == []) = true := by kernel_rfl
theorem ZeZ : (Rows.groundFactsUptoRow.knobs == []) = true := by kernel_rfl
theorem Ze0 : (Rows.groundFactsUptoRow.inPlace == Tryz.checked.prog.inPlace 3) = true := by kernel_rfl
theorem Ze1 : (Rows.groundFactsUptoRow.unfollowed == Tryz.checked.prog.unfollowed 3) = true := by kernel_rfl
theorem Ze2 : (Rows.groundFactsUptoRow.recurses == Tryz.checked.prog.recurses 3) = true := by kernel_rfl
theorem Ze3 : (Rows.groundFactsUptoRow.named == Tryz.checked.prog.varsNamed 3) = true := by kernel_rfl
theorem Zen : (Rows.groundFactsUptoRow.maps == (Tryz.f3.params.toList ++ Rows.groundFactsSpec.plain.varTypes Tryz.checked.prog).any (Tryz.checked.prog.mapsRec ·)) = true := by kernel_rfl
theorem Zeo : (Rows.groundFactsUptoRow.ifaces == (Tryz.f3.params.toList ++ Rows.groundFactsSpec.plain.varTypes Tryz.checked.prog).any (Tryz.checked.prog.ifacesRec ·)) = true := by kernel_rfl
theorem Zep : (Rows.groundFactsUptoRow.mapsOut == Tryz.checked.prog.mapsAmong Tryz.f3.resultTypes.toList) = true := by kernel_rfl
theorem Zeq : (Rows.groundFactsUptoRow.loops == (Tryz.f3.params.toList ++ Rows.groundFactsSpec.plain.varTypes Tryz.checked.prog).any (Tryz.checked.prog.loopsFrom ·)) = true := by kernel_rfl
theorem Zer : (Rows.groundFactsUptoRow.wideKeys == (Tryz.f3.params.toList ++ Rows.groundFactsSpec.plain.varTypes Tryz.checked.prog ++ Tryz.f3.resultTypes.toList).any (Tryz.checked.prog.wideKeysFrom ·)) = true := by kernel_rfl
theorem Zes : Rows.groundFactsSpec.vars.all (Tryz.checked.prog.varReadable ·) = true := by kernel_rfl
theorem Zet : Tryz.f3.resultTypes.all (fun t => Tryz.checked.prog.readableRec t && decide (t < Tryz.checked.prog.types.size)) = true := by kernel_rfl
theorem Zeu : (Rows.groundFactsUptoRow.ifacesOut == Tryz.f3.resultTypes.toList.any (Tryz.checked.prog.ifacesRec ·)) = true := by kernel_rfl
theorem Zev : (Rows.groundFactsUptoRow.loopsOut == Tryz.f3.resultTypes.toList.any (Tryz.checked.prog.loopsFrom ·)) = true := by kernel_rfl
theorem Zew : Rows.groundFactsUptoRow.shortTexts.isNone = true := by kernel_rfl
theorem Zex : (Rows.groundFactsUptoRow.kinds == (if Rows.groundFactsUptoRow.domain.isEmpty then [] else Tryz.f3.params.toList.map fun t => match Tryz.checked.prog.underlying t with | some (.int k) => some k | _ => none)) = true := by kernel_rfl
theorem Zey : (Rows.groundFactsUptoRow.pinned == Rows.groundFactsUptoRow.pinnedBy) = true := by kernel_rfl
theorem Zez : (Rows.groundFactsUptoRow.veiled == (Tryz.f3.params.toList ++ Rows.groundFactsSpec.plain.varTypes Tryz.checked.prog ++ Tryz.f3.resultTypes.toList).any (Tryz.checked.prog.veiledRec ·)) = true := by kernel_rfl
theorem ZeA : Rows.groundFactsUptoRow.veiledFits Tryz.checked.prog Tryz.f3.params.toList (Tryz.f3.params.toList ++ Rows.groundFactsSpec.plain.varTypes Tryz.checked.prog ++ Tryz.f3.resultTypes.toList) = true := by kernel_rfl
theorem groundFacts_closed : joinedFacts Tryz.checked.prog 3 Tryz.f3 Rows.groundFactsSpec Rows.groundFactsUptoRow = true := ZrF jp1 jp2 jp3 jp4 jp5 jp6 jp7 jp8 jp9 ZeV ZeW ZeX ZeY ZeZ Ze0 Ze1 Ze2 Ze3 Zen Zeo Zep Zeq Zer Zes Zet Zeu Zev Zew Zex Zey Zez ZeA
theorem groundFacts_holds : Rows.GroundFactsUptoSaid :=
  OpenClaim.holds_of_cond 3 Tryz.f3 rfl rfl rfl rfl rfl rfl rfl ⟨rfl, rfl, rfl, rfl, rfl⟩ rfl rfl rfl rfl rfl (by kernel_rfl) Tryz.func3 groundFacts_closed
    (of_decide_eq_true (by kernel_rfl)) (by unfold Func.isWrapper; first | (rw [if_pos (by decide +kernel)]; kernel_rfl) | (rw [if_neg (by decide +kernel)]; exact ⟨rfl, rfl⟩))
    (fun os started H enc _ F => by rw [OpenClaim.pre_eq_preRow]; exact groundFacts_lifted os started H enc F)
theorem groundFacts_w : Rows.groundFactsUptoRow.wfByText (Rows.OpenSpec.upto Rows.groundFactsSpec) = true := by kernel_rfl
theorem groundFacts_named : Tryz.prog.funcNamed Rows.groundFactsUptoRow.func = some 3 := by kernel_rfl
theorem groundFacts_goes : false = Rows.groundFactsUptoRow.goesBy Tryz.checked.prog := by kernel_rfl
theorem groundFacts_card_holds : Rows.GroundFactsUptoCardSaid :=
  Claim7.holds_tied_plain_at .later [] _ _ _ _ groundFacts_holds (fun _ h => by cases h) groundFacts_w (fun _ h => by cases h) groundFactsUpto_row_tie rfl ⟨rfl, rfl⟩ jp10 rfl
    (fun f fn hf hfn => by
      obtain rfl : f = 3 := Option.some.inj (groundFacts_named.symm.trans hf) |>.symm
      obtain rfl : fn = Tryz.f3 := (Option.some.inj (Tryz.func3.symm.trans hfn)).symm
      exact ⟨jp11, fun j t ht => by
        rw [Tryz.params3] at ht
        have hm : t ∈ [26] := by simpa using Array.mem_of_getElem? ht
        have hall : ([26].all fun u => !Tryz.prog.wantsStandIn u) = true := by kernel_rfl
        exact (show Tryz.prog.wantsStandIn t = false by simpa using List.all_eq_true.1 hall t hm)⟩)
    groundFacts_goes
end Go.Proofs.YtafpcgfiedfldaaGreatDoor
end
