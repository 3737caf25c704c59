/-
  The law PrintExprs of the printer returns true for every expression and every rule whose bulk is at most 1048576: the second form's tied card of its row.
-/
import Derived.Deep.DeepHandedRow
import Derived.Carry
import Derived.Test.YtflgockgjnddnaaGreatDoorE12
set_option linter.unusedVariables false
set_option linter.unusedSimpArgs false
set_option linter.all false
set_option maxRecDepth 100000
set_option maxHeartbeats 16000000
section
namespace Go.PM.Lex
open Go.Proofs
variable {w0 : World} {nG : Nat}
theorem Zlt (hg : GlobOK w0 nG) (hN : NumOK w0 nG) (hL : LexC w0 nG) : PCalls (GG w0 nG) 6 (ZfE 2097152) := Zn6 ⟨⟨cZE 6000, UK _ _ _ _⟩, ⟨ZxV ⟨⟨cZE 6000, UK _ _ _ _⟩, ⟨cZL 6000, Zau _ _ _ _⟩, trivial⟩, Zau _ _ _ _⟩, ⟨Zzm 2097152, Zat _ _ _ _⟩, ⟨ZAc hg hN hL 2097152, Zat _ _ _ _⟩, ⟨Zzo 2097152, Zat _ _ _ _⟩, ⟨Zzk hg hN hL 2097152, Zat _ _ _ _⟩, ⟨ZnK ⟨⟨cPE hg hN hL 1000, Zp8 _⟩, trivial⟩, ZhA⟩, trivial⟩
theorem ZdO {W : World} (hg : GlobOK W 8) (hN : NumOK W 8) (hL : LexC W 8) {a0 : Array Value} {x0 : Ex} (h0 : VRel (GG W 8) ZjU ⟨[], [], 0⟩ W (.agg ((Yc plZ x0).map .d)) (.agg a0)) (z0 : szE x0 ≤ 2097152) (y0 : wE x0 ≤ 2097152) (r0 : Jv x0 = true) {a1 : Array Value} {x1 : Ru} (h1 : VRel (GG W 8) ZjU ⟨[], [], 0⟩ W (.agg ((Xj plZ x1).map .d)) (.agg a1)) (z1 : Zj2 x1 ≤ 2097152) (y1 : wRu x1 ≤ 2097152) (r1 : ZbT x1 = true) :
    Calls Tryz.prog 6 #[.agg a0, .agg a1] W fun e W' => e = .returned (.bool true) ∧ (∀ may, W.keptBut W' may) ∧ RowKit.Below W.heap.size W W' := by
  have hsz : 8 ≤ W.heap.size := by
    obtain ⟨ev, h1, _⟩ := hg.errRange
    have := World.block_lt_of_cell? W ⟨7, 0, none⟩ h1
    simp at this; omega
  have hc := (Zlt hg hN hL).calls [.agg ((Yc plZ x0).map .d), .agg ((Xj plZ x1).map .d)] ⟨[], [], 0⟩ (fun pe _ => pe = .ret (.d (.bool true))) ⟨⟨plZ, x0, plZ, x1, rfl, rfl, ⟨z0, y0, r0⟩, ⟨z1, y1, r1⟩, by decide⟩, rfl⟩ 0 ZjU W #[.agg a0, .agg a1] (Zv5 hsz) ⟨rfl, fun i x u hx hu => by
    match i, hx, hu with
    | 0, hx, hu => cases hx; cases hu; exact h0
    | 1, hx, hu => cases hx; cases hu; exact h1
    | i + 2, hx, hu => simp at hx⟩
  refine Calls.mono (callsIn_wide.1 hc) fun en W' ⟨pe, σ', e', hK, hE, hS, hL⟩ => ?_
  subst hK
  obtain ⟨v, rfl, hv⟩ := hE
  cases hv with
  | d _ _ hd =>
    cases hd
    exact ⟨rfl, fun may => ZxX hL, ⟨hL.os, hL.tape, hL.output, hL.size, fun k hk => hL.blocks k hk (fun i hi => by simp at hi) (fun t ht => by cases ht)⟩⟩
end Go.PM.Lex
namespace Go.Proofs.YtflgockgjnddnaaGreatDoor
open Go.ChangeShapes Go.WideShapes Go.ChangeAt Go.RowKit Go.ChangeMaps Go.PM.Lex
theorem printExprs_contract (H : Type) (enc : TypeId × Value → H) (W : World) (base : Nat) (args : Array Value) (ds gs : List (DataW H)) (before : List MemPlace)
    (hval : ∀ (j : Nat) t v, Tryz.f6.params[j]? = some t → args[j]? = some v → Value.okWide Tryz.prog W .any base t v)
    (hW : DataW.Whole enc Tryz.prog Tryz.f6.params.toList Rows.printExprsSpec.vars false W args.toList ds gs before) (hk : Rows.uptoSmall H (ds ++ gs) = true)
    (hL : laidMetH Tryz.prog Rows.printExprsUptoRow.laid W) (hsh : W.ShapedOpen Tryz.prog) :
    Calls Tryz.prog 6 args W fun e W' => ∃ v, e = .returned v ∧ Rows.printExprsSpec.post enc Tryz.prog Tryz.f6 false true false false W args v W' := by
  have hW' := hW
  obtain ⟨p, q, hA0, hV, rfl, _, _⟩ := hW
  have hA : DataW.TrodAll enc Tryz.prog W 0 (fun _ => true) true Tryz.f6.params.toList args.toList ds p := hA0
  have hlt := DataW.TrodAll.lt hA
  rw [Tryz.params6] at hA hval
  obtain ⟨v0, v1, d0, d1, p0, p1, rfl, rfl, rfl, h0, h1⟩ := trodAll_two hA
  obtain ⟨rfl, rfl⟩ := trodVars_none hV
  obtain ⟨a0, rfl⟩ : ∃ cs, v0 = .agg cs := by
    have : Value.okWide Tryz.prog W .any base 24 v0 := hval 0 _ v0 rfl rfl
    unfold Value.okWide at this
    rw [Tryz.underlying24] at this
    obtain ⟨cs, h, _⟩ := this; exact ⟨cs, h⟩
  obtain ⟨x0, hx0, zs0, zw0, rg0⟩ := Ztf (nG := 8) h0
  obtain ⟨a1, rfl⟩ : ∃ cs, v1 = .agg cs := by
    have : Value.okWide Tryz.prog W .any base 50 v1 := hval 1 _ v1 rfl rfl
    unfold Value.okWide at this
    rw [Tryz.underlying50] at this
    obtain ⟨cs, h, _⟩ := this; exact ⟨cs, h⟩
  obtain ⟨x1, hx1, zs1, zw1, rg1⟩ := Ztg (nG := 8) h1
  have hb : Rows.uptoBulkAll ([d0, d1] ++ []) ≤ 1048576 := of_decide_eq_true hk
  simp only [List.append_nil, Rows.uptoBulkAll] at hb
  simp only [List.append_nil] at hW'
  have hg := ZxW hL hsh
  refine (ZdO hg (Zzu hL) (Zzs (by decide) (ZxY hL)) hx0 (by omega) (by omega) rg0 hx1 (by omega) (by omega) rg1).mono fun e W' ⟨he, hk, hbl⟩ => ?_
  subst he
  refine ⟨_, rfl, _, _, _, [], (p0 ++ p1), [], hW', ?_, ?_, ?_, hk _, fun h => by cases h⟩
  · exact trodAll_mk1 (shut_bool Tryz.underlying4 true)
  · exact trodAll_mk2 (hbl.trod jp1 (by kernel_rfl) (of_decide_eq_true (by kernel_rfl)) h0 fun z hz => hlt z (by simp [hz])) (hbl.trod jp1 (by kernel_rfl) (of_decide_eq_true (by kernel_rfl)) h1 fun z hz => hlt z (by simp [hz]))
  · rfl
theorem printExprs_reads (os : Os) {H : Type} (enc : TypeId × Value → H) : ∃ places, DataW.whole enc Tryz.prog ((World.laidAll Tryz.prog os Rows.printExprsUptoRow.laid).forCall (fun _ _ => 0) ⟨#[], #[.agg #[.int .u8 0, .string ⟨#[]⟩, .int .i64 0, .slice none 0 0, .int .i64 0], .agg #[.string ⟨#[]⟩, .slice none 0 0, .slice none 0 0, .int .i64 0]], []⟩).memory Tryz.f6.params.toList Rows.printExprsSpec.vars false #[Value.agg #[.int .u8 0, .string ⟨#[]⟩, .int .i64 0, .slice none 0 0, .int .i64 0], .agg #[.string ⟨#[]⟩, .slice none 0 0, .slice none 0 0, .int .i64 0]].toList 8 = some ([.agg [.lit (.int .u8 0), .lit (.string []), .lit (.int .i64 0), .nil, .lit (.int .i64 0)], .agg [.lit (.string []), .nil, .nil, .lit (.int .i64 0)]], [], places) :=
  ⟨[], by kernel_rfl⟩
theorem printExprs_lifted (os : Os) (started : os.Started) (H : Type) (enc : TypeId × Value → H) (F : Stop.Interp) :
    ReturnsInHanded {} Tryz.checked os 6 .any ((Rows.OpenSpec.upto Rows.printExprsSpec).preRow enc Tryz.prog Tryz.f6 Rows.printExprsUptoRow.domain false Rows.printExprsUptoRow.laid) (((Rows.OpenSpec.upto Rows.printExprsSpec).at F).post enc Tryz.prog Tryz.f6 false true false false) := by
  obtain ⟨places, hx⟩ := printExprs_reads os enc
  refine returnsInHanded_of_row (C := Tryz.checked) (s := Rows.OpenSpec.upto Rows.printExprsSpec) Zzr started (by kernel_rfl) Tryz.func6
    ⟨World.laidAll Tryz.prog os Rows.printExprsUptoRow.laid, fun _ _ => 0, ⟨#[], #[.agg #[.int .u8 0, .string ⟨#[]⟩, .int .i64 0, .slice none 0 0, .int .i64 0], .agg #[.string ⟨#[]⟩, .slice none 0 0, .slice none 0 0, .int .i64 0]], []⟩, World.laidAll_os _ _ _, World.shaped_of_ZipB (by kernel_rfl) (by kernel_rfl), rfl, (Input.okWide_of_okWideB (base := 0) (by kernel_rfl)).2,
      OpenSpec.preRow_of_cond 8 hx (by kernel_rfl) (fun k hk => by cases hk; kernel_rfl) (by kernel_rfl) (by rw [MakeChecks.laidMetH_plain _ _ _ (by kernel_rfl)]; exact laidMet_laidAll _ (by kernel_rfl) (by kernel_rfl)),
      by simp only [Assume.holds]; exact ⟨by simp, by simp, fun _ => Modest.zero, by simp, by simp⟩⟩ ?_
  intro W base args ds gs before hval hW _ hcond _ hL hsh _
  exact printExprs_contract H enc W base args ds gs before hval hW (hcond _ rfl) hL hsh
theorem ZhU : Rows.printExprsUptoRow.wf (OpenSpec.ofChange Rows.printExprsSpec) = true := by kernel_rfl
theorem ZhV : Tryz.f6.params.all (Tryz.checked.prog.readableRec ·) = true := by kernel_rfl
theorem ZhW : namedTie Tryz.checked.prog Rows.printExprsUptoRow.named Rows.printExprsSpec.vars = true := by kernel_rfl
theorem ZhX : (Rows.printExprsUptoRow.stops == []) = true := by kernel_rfl
theorem ZhY : (Rows.printExprsUptoRow.knobs == []) = true := by kernel_rfl
theorem ZhZ : (Rows.printExprsUptoRow.inPlace == Tryz.checked.prog.inPlace 6) = true := by kernel_rfl
theorem Zh0 : (Rows.printExprsUptoRow.unfollowed == Tryz.checked.prog.unfollowed 6) = true := by kernel_rfl
theorem Zh1 : (Rows.printExprsUptoRow.recurses == Tryz.checked.prog.recurses 6) = true := by kernel_rfl
theorem Zh2 : (Rows.printExprsUptoRow.named == Tryz.checked.prog.varsNamed 6) = true := by kernel_rfl
theorem ZfW : (Rows.printExprsUptoRow.maps == (Tryz.f6.params.toList ++ Rows.printExprsSpec.plain.varTypes Tryz.checked.prog).any (Tryz.checked.prog.mapsRec ·)) = true := by kernel_rfl
theorem ZfX : (Rows.printExprsUptoRow.ifaces == (Tryz.f6.params.toList ++ Rows.printExprsSpec.plain.varTypes Tryz.checked.prog).any (Tryz.checked.prog.ifacesRec ·)) = true := by kernel_rfl
theorem ZfY : (Rows.printExprsUptoRow.mapsOut == Tryz.checked.prog.mapsAmong Tryz.f6.resultTypes.toList) = true := by kernel_rfl
theorem ZfZ : (Rows.printExprsUptoRow.loops == (Tryz.f6.params.toList ++ Rows.printExprsSpec.plain.varTypes Tryz.checked.prog).any (Tryz.checked.prog.loopsFrom ·)) = true := by kernel_rfl
theorem Zf0 : (Rows.printExprsUptoRow.wideKeys == (Tryz.f6.params.toList ++ Rows.printExprsSpec.plain.varTypes Tryz.checked.prog ++ Tryz.f6.resultTypes.toList).any (Tryz.checked.prog.wideKeysFrom ·)) = true := by kernel_rfl
theorem Zf1 : Rows.printExprsSpec.vars.all (Tryz.checked.prog.varReadable ·) = true := by kernel_rfl
theorem Zf2 : Tryz.f6.resultTypes.all (fun t => Tryz.checked.prog.readableRec t && decide (t < Tryz.checked.prog.types.size)) = true := by kernel_rfl
theorem Zf3 : (Rows.printExprsUptoRow.ifacesOut == Tryz.f6.resultTypes.toList.any (Tryz.checked.prog.ifacesRec ·)) = true := by kernel_rfl
theorem Zf4 : (Rows.printExprsUptoRow.loopsOut == Tryz.f6.resultTypes.toList.any (Tryz.checked.prog.loopsFrom ·)) = true := by kernel_rfl
theorem Zf5 : Rows.printExprsUptoRow.shortTexts.isNone = true := by kernel_rfl
theorem Zf6 : (Rows.printExprsUptoRow.kinds == (if Rows.printExprsUptoRow.domain.isEmpty then [] else Tryz.f6.params.toList.map fun t => match Tryz.checked.prog.underlying t with | some (.int k) => some k | _ => none)) = true := by kernel_rfl
theorem Zf7 : (Rows.printExprsUptoRow.pinned == Rows.printExprsUptoRow.pinnedBy) = true := by kernel_rfl
theorem Zf8 : (Rows.printExprsUptoRow.veiled == (Tryz.f6.params.toList ++ Rows.printExprsSpec.plain.varTypes Tryz.checked.prog ++ Tryz.f6.resultTypes.toList).any (Tryz.checked.prog.veiledRec ·)) = true := by kernel_rfl
theorem Zf9 : Rows.printExprsUptoRow.veiledFits Tryz.checked.prog Tryz.f6.params.toList (Tryz.f6.params.toList ++ Rows.printExprsSpec.plain.varTypes Tryz.checked.prog ++ Tryz.f6.resultTypes.toList) = true := by kernel_rfl
theorem printExprs_closed : joinedFacts Tryz.checked.prog 6 Tryz.f6 Rows.printExprsSpec Rows.printExprsUptoRow = true := ZqT jp1 jp2 jp3 jp4 jp5 jp6 jp7 jp8 jp9 ZhU ZhV ZhW ZhX ZhY ZhZ Zh0 Zh1 Zh2 ZfW ZfX ZfY ZfZ Zf0 Zf1 Zf2 Zf3 Zf4 Zf5 Zf6 Zf7 Zf8 Zf9
theorem printExprs_holds : Rows.PrintExprsUptoSaid :=
  OpenClaim.holds_of_cond 6 Tryz.f6 rfl rfl rfl rfl rfl rfl rfl ⟨rfl, rfl, rfl, rfl, rfl⟩ rfl rfl rfl rfl rfl (by kernel_rfl) Tryz.func6 printExprs_closed
    (of_decide_eq_true (by kernel_rfl)) (by unfold Func.isWrapper; first | (rw [if_pos (by decide +kernel)]; kernel_rfl) | (rw [if_neg (by decide +kernel)]; exact ⟨rfl, rfl⟩))
    (fun os started H enc _ F => by rw [OpenClaim.pre_eq_preRow]; exact printExprs_lifted os started H enc F)
theorem printExprs_w : Rows.printExprsUptoRow.wfByText (Rows.OpenSpec.upto Rows.printExprsSpec) = true := by kernel_rfl
theorem printExprs_named : Tryz.prog.funcNamed Rows.printExprsUptoRow.func = some 6 := by kernel_rfl
theorem printExprs_goes : false = Rows.printExprsUptoRow.goesBy Tryz.checked.prog := by kernel_rfl
theorem printExprs_card_holds : Rows.PrintExprsUptoCardSaid :=
  Claim7.holds_tied_plain_at .later [] _ _ _ _ printExprs_holds (fun _ h => by cases h) printExprs_w (fun _ h => by cases h) printExprsUpto_row_tie rfl ⟨rfl, rfl⟩ jp10 rfl
    (fun f fn hf hfn => by
      obtain rfl : f = 6 := Option.some.inj (printExprs_named.symm.trans hf) |>.symm
      obtain rfl : fn = Tryz.f6 := (Option.some.inj (Tryz.func6.symm.trans hfn)).symm
      exact ⟨jp11, fun j t ht => by
        rw [Tryz.params6] at ht
        have hm : t ∈ [24, 50] := by simpa using Array.mem_of_getElem? ht
        have hall : ([24, 50].all fun u => !Tryz.prog.wantsStandIn u) = true := by kernel_rfl
        exact (show Tryz.prog.wantsStandIn t = false by simpa using List.all_eq_true.1 hall t hm)⟩)
    printExprs_goes
end Go.Proofs.YtflgockgjnddnaaGreatDoor
end
