/-
  The law TypesBelow of the types returns true for every program and every three texts whose bulk is at most 1048576: the second form's tied card of its row.
-/
import Derived.Deep.DeepHandedRow
import Derived.Carry
import Derived.Test.YtipdifmlclblhaaGreatDoorG10
set_option linter.unusedVariables false
set_option linter.unusedSimpArgs false
set_option linter.all false
set_option maxRecDepth 100000
set_option maxHeartbeats 16000000
section
namespace Go.PM.Lex
open Go.Proofs
variable {w0 : World} {nG : Nat}
theorem Zrp : PCalls (GG w0 nG) 32 Zie := Zxt ⟨Zll, trivial⟩
theorem ZjV : PCalls (GG w0 nG) 18 UP := Zq3 ⟨Zll, trivial⟩
theorem Zrq : PCalls (GG w0 nG) 19 ZdI := Zq4 ⟨Zrp, trivial⟩
theorem Zrr : PCalls (GG w0 nG) 44 ZdJ := Ztm ⟨Ztl ⟨Ztk ⟨Ztj ⟨ZjV, trivial⟩, trivial⟩, trivial⟩, trivial⟩
theorem ZC6 : PCalls (GG w0 nG) 25 Ztq := ZzS ⟨Ztp ⟨Zto ⟨Ztn ⟨Zrr, trivial⟩, trivial⟩, trivial⟩, Zrr, ZjV, Zrp, trivial⟩
theorem Zrs : PCalls (GG w0 nG) 16 Zaq := Zq9 ⟨ZjN ⟨ZjM, trivial⟩, ZjP ⟨ZjO, trivial⟩, trivial⟩
theorem ZdT (hg : GlobOK w0 nG) (hN : NumOK w0 nG) (hL : LexC w0 nG) (n : Nat) : PCalls (GG w0 nG) 15 (We n) := ZjT ⟨ZzI hg hN hL n, Zrs, ZC6, trivial⟩
theorem ZC7 (hg : GlobOK w0 nG) (hN : NumOK w0 nG) (hL : LexC w0 nG) {n : Nat} : TblOK (GG w0 nG) (Zra n) := ⟨ZdT hg hN hL n, trivial⟩
theorem ZBO : PCalls (GG w0 nG) 9 Zch := Zre ⟨Zrs, Zq5 ⟨Zrp, trivial⟩, trivial⟩
theorem ZBP (hg : GlobOK w0 nG) (hN : NumOK w0 nG) (hL : LexC w0 nG) {n : Nat} : TblOK (GG w0 nG) (ZdP n) := ⟨ZdT hg hN hL n, ZjV, Zrq, trivial⟩
theorem ZBQ (hg : GlobOK w0 nG) (hN : NumOK w0 nG) (hL : LexC w0 nG) {n : Nat} : TblOK (GG w0 nG) (Zbf n) := ⟨ZdT hg hN hL n, ZmY ⟨Zrq, trivial⟩, trivial⟩
theorem ZjW (hg : GlobOK w0 nG) (hN : NumOK w0 nG) (hL : LexC w0 nG) : PCalls (GG w0 nG) 4 (ZdR 2097152) := Zm3 ⟨ZCQ 6000, Ztt (ZzI hg hN hL 1000), Zrb (ZC7 hg hN hL), ZBO, Zrd (ZBP hg hN hL), Zm2 (ZBQ hg hN hL), trivial⟩
theorem ZbZ {W : World} (hg : GlobOK W 8) (hN : NumOK W 8) (hL : LexC W 8) {a0 : Array Value} {x0 : Pr} (h0 : VRel (GG W 8) Zm5 ⟨[], [], 0⟩ W (.agg ((Ut plZ x0).map .d)) (.agg a0)) (z0 : Zis x0 ≤ 2097152) (y0 : wUn (prU x0) ≤ 2097152) (r0 : ZmQ (prU x0) = true) (a1 : ByteArray) (z1 : a1.size ≤ 1048576) (a2 : ByteArray) (z2 : a2.size ≤ 1048576) (a3 : ByteArray) (z3 : a3.size ≤ 1048576) :
    Calls Tryz.prog 4 #[.agg a0, .string a1, .string a2, .string a3] W fun e W' => e = .returned (.bool true) ∧ (∀ may, W.keptBut W' may) ∧ RowKit.Below W.heap.size W W' := by
  have hsz : 8 ≤ W.heap.size := by
    obtain ⟨ev, h1, _⟩ := hg.errRange
    have := World.block_lt_of_cell? W ⟨7, 0, none⟩ h1
    simp at this; omega
  have hc := (ZjW hg hN hL).calls [.agg ((Ut plZ x0).map .d), .d (.str a1.data.toList), .d (.str a2.data.toList), .d (.str a3.data.toList)] ⟨[], [], 0⟩ (fun pe _ => pe = .ret (.d (.bool true))) ⟨⟨plZ, x0, rfl, ⟨by omega, ZBK z0 y0 (by decide)⟩, by decide⟩, rfl⟩ 0 Zm5 W #[.agg a0, .string a1, .string a2, .string a3] (ZxC hsz) ⟨rfl, fun i x u hx hu => by
    match i, hx, hu with
    | 0, hx, hu => cases hx; cases hu; exact h0
    | 1, hx, hu => cases hx; cases hu; exact .d _ _ (.str _)
    | 2, hx, hu => cases hx; cases hu; exact .d _ _ (.str _)
    | 3, hx, hu => cases hx; cases hu; exact .d _ _ (.str _)
    | i + 4, hx, hu => simp at hx⟩
  refine Calls.mono (callsIn_wide.1 hc) fun en W' ⟨pe, σ', e', hK, hE, hS, hL⟩ => ?_
  subst hK
  obtain ⟨v, rfl, hv⟩ := hE
  cases hv with
  | d _ _ hd =>
    cases hd
    exact ⟨rfl, fun may => ZAa hL, ⟨hL.os, hL.tape, hL.output, hL.size, fun k hk => hL.blocks k hk (fun i hi => by simp at hi) (fun t ht => by cases ht)⟩⟩
end Go.PM.Lex
namespace Go.Proofs.YtipdifmlclblhaaGreatDoor
open Go.ChangeShapes Go.WideShapes Go.ChangeAt Go.RowKit Go.ChangeMaps Go.PM.Lex
theorem typesBelow_contract (H : Type) (enc : TypeId × Value → H) (W : World) (base : Nat) (args : Array Value) (ds gs : List (DataW H)) (before : List MemPlace)
    (hval : ∀ (j : Nat) t v, Tryz.f4.params[j]? = some t → args[j]? = some v → Value.okWide Tryz.prog W .any base t v)
    (hW : DataW.Whole enc Tryz.prog Tryz.f4.params.toList Rows.typesBelowSpec.vars false W args.toList ds gs before) (hk : Rows.uptoSmall H (ds ++ gs) = true)
    (hL : laidMetH Tryz.prog Rows.typesBelowUptoRow.laid W) (hsh : W.ShapedOpen Tryz.prog) :
    Calls Tryz.prog 4 args W fun e W' => ∃ v, e = .returned v ∧ Rows.typesBelowSpec.post enc Tryz.prog Tryz.f4 false true false false W args v W' := by
  have hW' := hW
  obtain ⟨p, q, hA0, hV, rfl, _, _⟩ := hW
  have hA : DataW.TrodAll enc Tryz.prog W 0 (fun _ => true) true Tryz.f4.params.toList args.toList ds p := hA0
  have hlt := DataW.TrodAll.lt hA
  rw [Tryz.params4] at hA hval
  obtain ⟨v0, v1, v2, v3, d0, d1, d2, d3, p0, p1, p2, p3, rfl, rfl, rfl, h0, h1, h2, h3⟩ := Zim hA
  obtain ⟨rfl, rfl⟩ := trodVars_none hV
  obtain ⟨a0, rfl⟩ : ∃ cs, v0 = .agg cs := by
    have : Value.okWide Tryz.prog W .any base 26 v0 := hval 0 _ v0 rfl rfl
    unfold Value.okWide at this
    rw [Tryz.underlying26] at this
    obtain ⟨cs, h, _⟩ := this; exact ⟨cs, h⟩
  obtain ⟨x0, hx0, zs0, zw0, rg0⟩ := Zty (nG := 8) h0
  obtain ⟨a1, rfl, rfl, rfl, hs1⟩ := open_string Tryz.underlying9 (hval 1 9 v1 rfl rfl) h1
  obtain ⟨a2, rfl, rfl, rfl, hs2⟩ := open_string Tryz.underlying9 (hval 2 9 v2 rfl rfl) h2
  obtain ⟨a3, rfl, rfl, rfl, hs3⟩ := open_string Tryz.underlying9 (hval 3 9 v3 rfl rfl) h3
  have hb : Rows.uptoBulkAll ([d0, DataW.lit (H := H) (.string a1.data.toList), DataW.lit (H := H) (.string a2.data.toList), DataW.lit (H := H) (.string a3.data.toList)] ++ []) ≤ 1048576 := of_decide_eq_true hk
  simp only [List.append_nil, Rows.uptoBulkAll, Rows.uptoBulk] at hb
  have e1 : a1.data.toList.length = a1.size := by rw [Array.length_toList]; rfl
  have e2 : a2.data.toList.length = a2.size := by rw [Array.length_toList]; rfl
  have e3 : a3.data.toList.length = a3.size := by rw [Array.length_toList]; rfl
  simp only [List.append_nil] at hW'
  have hg := Zz9 hL hsh
  refine (ZbZ hg (ZBN hL) (ZBL (by decide) (ZAb hL)) hx0 (by omega) (by omega) rg0 a1 (by omega) a2 (by omega) a3 (by omega)).mono fun e W' ⟨he, hk, hbl⟩ => ?_
  subst he
  refine ⟨_, rfl, _, _, _, [], (p0 ++ ([] ++ ([] ++ []))), [], hW', ?_, ?_, ?_, hk _, fun h => by cases h⟩
  · exact trodAll_mk1 (shut_bool Tryz.underlying4 true)
  · exact ZjU (hbl.trod jp1 (by kernel_rfl) (of_decide_eq_true (by kernel_rfl)) h0 fun z hz => hlt z (by simp [hz])) (shut_string Tryz.underlying9 hs1) (shut_string Tryz.underlying9 hs2) (shut_string Tryz.underlying9 hs3)
  · rfl
theorem typesBelow_reads (os : Os) {H : Type} (enc : TypeId × Value → H) : ∃ places, DataW.whole enc Tryz.prog ((World.laidAll Tryz.prog os Rows.typesBelowUptoRow.laid).forCall (fun _ _ => 0) ⟨#[], #[.agg #[.slice none 0 0, .slice none 0 0, .slice none 0 0], .string ⟨#[]⟩, .string ⟨#[]⟩, .string ⟨#[]⟩], []⟩).memory Tryz.f4.params.toList Rows.typesBelowSpec.vars false #[Value.agg #[.slice none 0 0, .slice none 0 0, .slice none 0 0], .string ⟨#[]⟩, .string ⟨#[]⟩, .string ⟨#[]⟩].toList 8 = some ([.agg [.nil, .nil, .nil], .lit (.string []), .lit (.string []), .lit (.string [])], [], places) :=
  ⟨[], by kernel_rfl⟩
theorem typesBelow_lifted (os : Os) (started : os.Started) (H : Type) (enc : TypeId × Value → H) (F : Stop.Interp) :
    ReturnsInHanded {} Tryz.checked os 4 .any ((Rows.OpenSpec.upto Rows.typesBelowSpec).preRow enc Tryz.prog Tryz.f4 Rows.typesBelowUptoRow.domain false Rows.typesBelowUptoRow.laid) (((Rows.OpenSpec.upto Rows.typesBelowSpec).at F).post enc Tryz.prog Tryz.f4 false true false false) := by
  obtain ⟨places, hx⟩ := typesBelow_reads os enc
  refine returnsInHanded_of_row (C := Tryz.checked) (s := Rows.OpenSpec.upto Rows.typesBelowSpec) ZBI started (by kernel_rfl) Tryz.func4
    ⟨World.laidAll Tryz.prog os Rows.typesBelowUptoRow.laid, fun _ _ => 0, ⟨#[], #[.agg #[.slice none 0 0, .slice none 0 0, .slice none 0 0], .string ⟨#[]⟩, .string ⟨#[]⟩, .string ⟨#[]⟩], []⟩, World.laidAll_os _ _ _, World.shaped_of_ZipB (by kernel_rfl) (by kernel_rfl), rfl, (Input.okWide_of_okWideB (base := 0) (by kernel_rfl)).2,
      OpenSpec.preRow_of_cond 8 hx (by kernel_rfl) (fun k hk => by cases hk; kernel_rfl) (by kernel_rfl) (by rw [MakeChecks.laidMetH_plain _ _ _ (by kernel_rfl)]; exact laidMet_laidAll _ (by kernel_rfl) (by kernel_rfl)),
      by simp only [Assume.holds]; exact ⟨by simp, by simp, fun _ => Modest.zero, by simp, by simp⟩⟩ ?_
  intro W base args ds gs before hval hW _ hcond _ hL hsh _
  exact typesBelow_contract H enc W base args ds gs before hval hW (hcond _ rfl) hL hsh
theorem ZgA : Rows.typesBelowUptoRow.wf (OpenSpec.ofChange Rows.typesBelowSpec) = true := by kernel_rfl
theorem ZgB : Tryz.f4.params.all (Tryz.checked.prog.readableRec ·) = true := by kernel_rfl
theorem ZgC : namedTie Tryz.checked.prog Rows.typesBelowUptoRow.named Rows.typesBelowSpec.vars = true := by kernel_rfl
theorem ZgD : (Rows.typesBelowUptoRow.stops == []) = true := by kernel_rfl
theorem ZgE : (Rows.typesBelowUptoRow.knobs == []) = true := by kernel_rfl
theorem ZgF : (Rows.typesBelowUptoRow.inPlace == Tryz.checked.prog.inPlace 4) = true := by kernel_rfl
theorem ZgG : (Rows.typesBelowUptoRow.unfollowed == Tryz.checked.prog.unfollowed 4) = true := by kernel_rfl
theorem ZgH : (Rows.typesBelowUptoRow.recurses == Tryz.checked.prog.recurses 4) = true := by kernel_rfl
theorem ZgI : (Rows.typesBelowUptoRow.named == Tryz.checked.prog.varsNamed 4) = true := by kernel_rfl
theorem Zed : (Rows.typesBelowUptoRow.maps == (Tryz.f4.params.toList ++ Rows.typesBelowSpec.plain.varTypes Tryz.checked.prog).any (Tryz.checked.prog.mapsRec ·)) = true := by kernel_rfl
theorem Zee : (Rows.typesBelowUptoRow.ifaces == (Tryz.f4.params.toList ++ Rows.typesBelowSpec.plain.varTypes Tryz.checked.prog).any (Tryz.checked.prog.ifacesRec ·)) = true := by kernel_rfl
theorem Zef : (Rows.typesBelowUptoRow.mapsOut == Tryz.checked.prog.mapsAmong Tryz.f4.resultTypes.toList) = true := by kernel_rfl
theorem Zeg : (Rows.typesBelowUptoRow.loops == (Tryz.f4.params.toList ++ Rows.typesBelowSpec.plain.varTypes Tryz.checked.prog).any (Tryz.checked.prog.loopsFrom ·)) = true := by kernel_rfl
theorem Zeh : (Rows.typesBelowUptoRow.wideKeys == (Tryz.f4.params.toList ++ Rows.typesBelowSpec.plain.varTypes Tryz.checked.prog ++ Tryz.f4.resultTypes.toList).any (Tryz.checked.prog.wideKeysFrom ·)) = true := by kernel_rfl
theorem Zei : Rows.typesBelowSpec.vars.all (Tryz.checked.prog.varReadable ·) = true := by kernel_rfl
theorem Zej : Tryz.f4.resultTypes.all (fun t => Tryz.checked.prog.readableRec t && decide (t < Tryz.checked.prog.types.size)) = true := by kernel_rfl
theorem Zek : (Rows.typesBelowUptoRow.ifacesOut == Tryz.f4.resultTypes.toList.any (Tryz.checked.prog.ifacesRec ·)) = true := by kernel_rfl
theorem Zel : (Rows.typesBelowUptoRow.loopsOut == Tryz.f4.resultTypes.toList.any (Tryz.checked.prog.loopsFrom ·)) = true := by kernel_rfl
theorem Zem : Rows.typesBelowUptoRow.shortTexts.isNone = true := by kernel_rfl
theorem Zen : (Rows.typesBelowUptoRow.kinds == (if Rows.typesBelowUptoRow.domain.isEmpty then [] else Tryz.f4.params.toList.map fun t => match Tryz.checked.prog.underlying t with | some (.int k) => some k | _ => none)) = true := by kernel_rfl
theorem Zeo : (Rows.typesBelowUptoRow.pinned == Rows.typesBelowUptoRow.pinnedBy) = true := by kernel_rfl
theorem Zep : (Rows.typesBelowUptoRow.veiled == (Tryz.f4.params.toList ++ Rows.typesBelowSpec.plain.varTypes Tryz.checked.prog ++ Tryz.f4.resultTypes.toList).any (Tryz.checked.prog.veiledRec ·)) = true := by kernel_rfl
theorem Zeq : Rows.typesBelowUptoRow.veiledFits Tryz.checked.prog Tryz.f4.params.toList (Tryz.f4.params.toList ++ Rows.typesBelowSpec.plain.varTypes Tryz.checked.prog ++ Tryz.f4.resultTypes.toList) = true := by kernel_rfl
theorem typesBelow_closed : joinedFacts Tryz.checked.prog 4 Tryz.f4 Rows.typesBelowSpec Rows.typesBelowUptoRow = true := Zro jp1 jp2 jp3 jp4 jp5 jp6 jp7 jp8 jp9 ZgA ZgB ZgC ZgD ZgE ZgF ZgG ZgH ZgI Zed Zee Zef Zeg Zeh Zei Zej Zek Zel Zem Zen Zeo Zep Zeq
theorem typesBelow_holds : Rows.TypesBelowUptoSaid :=
  OpenClaim.holds_of_cond 4 Tryz.f4 rfl rfl rfl rfl rfl rfl rfl ⟨rfl, rfl, rfl, rfl, rfl⟩ rfl rfl rfl rfl rfl (by kernel_rfl) Tryz.func4 typesBelow_closed
    (of_decide_eq_true (by kernel_rfl)) (by unfold Func.isWrapper; first | (rw [if_pos (by decide +kernel)]; kernel_rfl) | (rw [if_neg (by decide +kernel)]; exact ⟨rfl, rfl⟩))
    (fun os started H enc _ F => by rw [OpenClaim.pre_eq_preRow]; exact typesBelow_lifted os started H enc F)
theorem typesBelow_w : Rows.typesBelowUptoRow.wfByText (Rows.OpenSpec.upto Rows.typesBelowSpec) = true := by kernel_rfl
theorem typesBelow_named : Tryz.prog.funcNamed Rows.typesBelowUptoRow.func = some 4 := by kernel_rfl
theorem typesBelow_goes : false = Rows.typesBelowUptoRow.goesBy Tryz.checked.prog := by kernel_rfl
theorem typesBelow_card_holds : Rows.TypesBelowUptoCardSaid :=
  Claim7.holds_tied_plain_at .later [] _ _ _ _ typesBelow_holds (fun _ h => by cases h) typesBelow_w (fun _ h => by cases h) typesBelowUpto_row_tie rfl ⟨rfl, rfl⟩ jp10 rfl
    (fun f fn hf hfn => by
      obtain rfl : f = 4 := Option.some.inj (typesBelow_named.symm.trans hf) |>.symm
      obtain rfl : fn = Tryz.f4 := (Option.some.inj (Tryz.func4.symm.trans hfn)).symm
      exact ⟨jp11, fun j t ht => by
        rw [Tryz.params4] at ht
        have hm : t ∈ [26, 9, 9, 9] := by simpa using Array.mem_of_getElem? ht
        have hall : ([26, 9, 9, 9].all fun u => !Tryz.prog.wantsStandIn u) = true := by kernel_rfl
        exact (show Tryz.prog.wantsStandIn t = false by simpa using List.all_eq_true.1 hall t hm)⟩)
    typesBelow_goes
end Go.Proofs.YtipdifmlclblhaaGreatDoor
end
