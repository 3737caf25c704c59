/-
  The law GroundMore of ground returns true for every two lists of literals, every list of texts and every text whose bulk is at most 1048576: the second form's tied card of its row.
-/
import Derived.Deep.DeepHandedRow
import Derived.Carry
import Derived.Test.YtbdleclcgopcdaaGreatDoorB14
set_option linter.unusedVariables false
set_option linter.unusedSimpArgs false
set_option linter.all false
set_option maxRecDepth 100000
set_option maxHeartbeats 16000000
section
namespace Go.PM.Lex
open Go.Proofs
variable {w0 : World} {nG : Nat}
theorem Zsh {l : List Bs} {n : Nat} (h : szS wBs l ≤ n) : ∀ t ∈ l, t.length ≤ n := fun t ht => by
  have h1 := Zbf (f := wBs) ht
  have h2 : t.length ≤ wBs t := Nat.le_add_left _ _
  omega
theorem Zlc (hg : GlobOK w0 nG) (hN : NumOK w0 nG) (hL : LexC w0 nG) : PCalls (GG w0 nG) 3 Zk4 := Zuz ⟨cZL 6000, ZuM (ZD2 hg hN hL 1000), Zuy, ZrT ZCq, ZrS, Zvw, trivial⟩
theorem Zcd {W : World} (hg : GlobOK W 8) (hN : NumOK W 8) (hL : LexC W 8) {v0 : Value} {x0 : List Li} (h0 : VRel (GG W 8) ZeE ⟨[], [], 0⟩ W (.d (.sl (Zv plZ x0))) v0) (z0 : Zai x0 ≤ 2097152) (y0 : wLs x0 ≤ 2097152) {v1 : Value} {x1 : List Li} (h1 : VRel (GG W 8) ZeE ⟨[], [], 0⟩ W (.d (.sl (Zv plZ x1))) v1) (z1 : Zai x1 ≤ 2097152) (y1 : wLs x1 ≤ 2097152) {v2 : Value} {x2 : List Bs} (h2 : VRel (GG W 8) ZeE ⟨[], [], 0⟩ W (.d (.sl (YV x2))) v2) (z2 : szS wBs x2 ≤ 2097152) (a3 : ByteArray) (z3 : a3.size ≤ 1048576) :
    Calls Tryz.prog 3 #[v0, v1, v2, .string a3] W fun e W' => e = .returned (.bool true) ∧ (∀ may, W.keptBut W' may) ∧ RowKit.Below W.heap.size W W' := by
  have hsz : 8 ≤ W.heap.size := by
    obtain ⟨ev, h1, _⟩ := hg.errRange
    have := World.block_lt_of_cell? W ⟨7, 0, none⟩ h1
    simp at this; omega
  have hc := (Zlc hg hN hL).calls [.d (.sl (Zv plZ x0)), .d (.sl (Zv plZ x1)), .d (.sl (YV x2)), .d (.str a3.data.toList)] ⟨[], [], 0⟩ (fun pe _ => pe = .ret (.d (.bool true))) ⟨⟨plZ, x0, x1, x2, rfl, rfl, rfl, ⟨z0, z1⟩, ⟨y0, y1⟩, Zsh z2, by have := Zq wBs x2; omega, by rw [Array.length_toList]; exact Nat.le_trans z3 (by decide)⟩, rfl⟩ 0 ZeE W #[v0, v1, v2, .string a3] (ZzG hsz) ⟨rfl, fun i x u hx hu => by
    match i, hx, hu with
    | 0, hx, hu => cases hx; cases hu; exact h0
    | 1, hx, hu => cases hx; cases hu; exact h1
    | 2, hx, hu => cases hx; cases hu; exact h2
    | 3, hx, hu => cases hx; cases hu; exact .d _ _ (.str _)
    | i + 4, hx, hu => simp at hx⟩
  refine Calls.mono (callsIn_wide.1 hc) fun en W' ⟨pe, σ', e', hK, hE, hS, hL⟩ => ?_
  subst hK
  obtain ⟨v, rfl, hv⟩ := hE
  cases hv with
  | d _ _ hd =>
    cases hd
    exact ⟨rfl, fun may => ZCN hL, ⟨hL.os, hL.tape, hL.output, hL.size, fun k hk => hL.blocks k hk (fun i hi => by simp at hi) (fun t ht => by cases ht) rfl⟩⟩
end Go.PM.Lex
namespace Go.Proofs.YtbdleclcgopcdaaGreatDoor
open Go.ChangeShapes Go.WideShapes Go.ChangeAt Go.RowKit Go.ChangeMaps Go.PM.Lex
theorem Zeh {P : Program} {W : World} {base : Nat} {t e : TypeId} {v : Value} (ht : P.underlying t = some (.slice e)) (h : Value.okWide P W .any base t v) : v.cells.toList = [v] := by
  unfold Value.okWide at h
  rw [ht] at h
  cases v with
  | agg cs => simp [Cell.okWide, Cell.ok, ht] at h
  | _ => rfl
theorem groundMore_contract (H : Type) (enc : TypeId × Value → H) (W : World) (base : Nat) (args : Array Value) (ds gs : List (DataW H)) (before : List MemPlace)
    (hval : ∀ (j : Nat) t v, Tryz.f3.params[j]? = some t → args[j]? = some v → Value.okWide Tryz.prog W .any base t v)
    (hW : DataW.Whole enc Tryz.prog Tryz.f3.params.toList Rows.groundMoreSpec.vars false W args.toList ds gs before) (hk : Rows.uptoSmall H (ds ++ gs) = true)
    (hL : laidMetH Tryz.prog Rows.groundMoreUptoRow.laid W) (hsh : W.ShapedOpen Tryz.prog) :
    Calls Tryz.prog 3 args W fun e W' => ∃ v, e = .returned v ∧ Rows.groundMoreSpec.post enc Tryz.prog Tryz.f3 false true false false W args v W' := by
  have hW' := hW
  obtain ⟨p, q, hA0, hV, rfl, _, _⟩ := hW
  have hA : DataW.TrodAll enc Tryz.prog W 0 (fun _ => true) true Tryz.f3.params.toList args.toList ds p := hA0
  have hlt := DataW.TrodAll.lt hA
  rw [Tryz.params3] at hA hval
  obtain ⟨v0, v1, v2, v3, d0, d1, d2, d3, p0, p1, p2, p3, rfl, rfl, rfl, h0, h1, h2, h3⟩ := trodAll_four hA
  obtain ⟨rfl, rfl⟩ := trodVars_none hV
  obtain ⟨x0, hx0, zs0, zw0⟩ := ZmR (nG := 8) (Zeh Tryz.underlying22 (hval 0 _ v0 rfl rfl)) h0
  obtain ⟨x1, hx1, zs1, zw1⟩ := ZmR (nG := 8) (Zeh Tryz.underlying22 (hval 1 _ v1 rfl rfl)) h1
  obtain ⟨x2, hx2, zs2⟩ := Zsf (nG := 8) (Zeh Tryz.underlying23 (hval 2 _ v2 rfl rfl)) h2
  obtain ⟨a3, rfl, rfl, rfl, hs3⟩ := open_string Tryz.underlying9 (hval 3 9 v3 rfl rfl) h3
  have hb : Rows.uptoBulkAll ([d0, d1, d2, DataW.lit (H := H) (.string a3.data.toList)] ++ []) ≤ 1048576 := of_decide_eq_true hk
  simp only [List.append_nil, Rows.uptoBulkAll, Rows.uptoBulk] at hb
  have e3 : a3.data.toList.length = a3.size := by rw [Array.length_toList]; rfl
  simp only [List.append_nil] at hW'
  have hg := ZCM hL hsh
  refine (Zcd hg (ZEG hL) (ZEE (by decide) (ZCO hL)) hx0 (by omega) (by omega) hx1 (by omega) (by omega) hx2 (by omega) a3 (by omega)).mono fun e W' ⟨he, hk, hbl⟩ => ?_
  subst he
  refine ⟨_, rfl, _, _, _, [], (p0 ++ (p1 ++ (p2 ++ []))), [], hW', ?_, ?_, ?_, hk _, fun h => by cases h⟩
  · exact trodAll_mk1 (shut_bool Tryz.underlying4 true)
  · exact trodAll_mk4 (hbl.trod jp1 (by kernel_rfl) (of_decide_eq_true (by kernel_rfl)) h0 fun z hz => hlt z (by simp [hz])) (hbl.trod jp1 (by kernel_rfl) (of_decide_eq_true (by kernel_rfl)) h1 fun z hz => hlt z (by simp [hz])) (hbl.trod jp1 (by kernel_rfl) (of_decide_eq_true (by kernel_rfl)) h2 fun z hz => hlt z (by simp [hz])) (shut_string Tryz.underlying9 hs3)
  · rfl
theorem groundMore_reads (os : Os) {H : Type} (enc : TypeId × Value → H) : ∃ places, DataW.whole enc Tryz.prog ((World.laidAll Tryz.prog os Rows.groundMoreUptoRow.laid).forCall (fun _ _ => 0) ⟨#[], #[.slice none 0 0, .slice none 0 0, .slice none 0 0, .string ⟨#[]⟩], []⟩).memory Tryz.f3.params.toList Rows.groundMoreSpec.vars false #[Value.slice none 0 0, .slice none 0 0, .slice none 0 0, .string ⟨#[]⟩].toList 8 = some ([.nil, .nil, .nil, .lit (.string [])], [], places) :=
  ⟨[], by kernel_rfl⟩
theorem groundMore_lifted (os : Os) (started : os.Started) (H : Type) (enc : TypeId × Value → H) (F : Stop.Interp) :
    ReturnsInHanded {} Tryz.checked os 3 .any ((Rows.OpenSpec.upto Rows.groundMoreSpec).preRow enc Tryz.prog Tryz.f3 Rows.groundMoreUptoRow.domain false Rows.groundMoreUptoRow.laid) (((Rows.OpenSpec.upto Rows.groundMoreSpec).at F).post enc Tryz.prog Tryz.f3 false true false false) := by
  obtain ⟨places, hx⟩ := groundMore_reads os enc
  refine returnsInHanded_of_row (C := Tryz.checked) (s := Rows.OpenSpec.upto Rows.groundMoreSpec) ZED started (by kernel_rfl) Tryz.func3
    ⟨World.laidAll Tryz.prog os Rows.groundMoreUptoRow.laid, fun _ _ => 0, ⟨#[], #[.slice none 0 0, .slice none 0 0, .slice none 0 0, .string ⟨#[]⟩], []⟩, World.laidAll_os _ _ _, World.shaped_of_ZipB (by kernel_rfl) (by kernel_rfl), rfl, (Input.okWide_of_okWideB (base := 0) (by kernel_rfl)).2,
      OpenSpec.preRow_of_cond 8 hx (by kernel_rfl) (fun k hk => by cases hk; kernel_rfl) (by kernel_rfl) (by rw [MakeChecks.laidMetH_plain _ _ _ (by kernel_rfl)]; exact laidMet_laidAll _ (by kernel_rfl) (by kernel_rfl)),
      by simp only [Assume.holds]; exact ⟨by simp, by simp, fun _ => Modest.zero, by simp, by simp⟩⟩ ?_
  intro W base args ds gs before hval hW _ hcond _ hL hsh _
  exact groundMore_contract H enc W base args ds gs before hval hW (hcond _ rfl) hL hsh
theorem Zhv : Rows.groundMoreUptoRow.wf (OpenSpec.ofChange Rows.groundMoreSpec) = true := by kernel_rfl
theorem Zhw : Tryz.f3.params.all (Tryz.checked.prog.readableRec ·) = true := by kernel_rfl
theorem Zhx : namedTie Tryz.checked.prog Rows.groundMoreUptoRow.named Rows.groundMoreSpec.vars = true := by kernel_rfl
theorem Zhy : (Rows.groundMoreUptoRow.stops == []) = true := by kernel_rfl
theorem Zhz : (Rows.groundMoreUptoRow.knobs == []) = true := by kernel_rfl
theorem ZhA : (Rows.groundMoreUptoRow.inPlace == Tryz.checked.prog.inPlace 3) = true := by kernel_rfl
theorem ZhB : (Rows.groundMoreUptoRow.unfollowed == Tryz.checked.prog.unfollowed 3) = true := by kernel_rfl
theorem ZhC : (Rows.groundMoreUptoRow.recurses == Tryz.checked.prog.recurses 3) = true := by kernel_rfl
theorem ZhD : (Rows.groundMoreUptoRow.named == Tryz.checked.prog.varsNamed 3) = true := by kernel_rfl
theorem ZeF : (Rows.groundMoreUptoRow.maps == (Tryz.f3.params.toList ++ Rows.groundMoreSpec.plain.varTypes Tryz.checked.prog).any (Tryz.checked.prog.mapsRec ·)) = true := by kernel_rfl
theorem ZeG : (Rows.groundMoreUptoRow.ifaces == (Tryz.f3.params.toList ++ Rows.groundMoreSpec.plain.varTypes Tryz.checked.prog).any (Tryz.checked.prog.ifacesRec ·)) = true := by kernel_rfl
theorem ZeH : (Rows.groundMoreUptoRow.mapsOut == Tryz.checked.prog.mapsAmong Tryz.f3.resultTypes.toList) = true := by kernel_rfl
theorem ZeI : (Rows.groundMoreUptoRow.loops == (Tryz.f3.params.toList ++ Rows.groundMoreSpec.plain.varTypes Tryz.checked.prog).any (Tryz.checked.prog.loopsFrom ·)) = true := by kernel_rfl
theorem ZeJ : (Rows.groundMoreUptoRow.wideKeys == (Tryz.f3.params.toList ++ Rows.groundMoreSpec.plain.varTypes Tryz.checked.prog ++ Tryz.f3.resultTypes.toList).any (Tryz.checked.prog.wideKeysFrom ·)) = true := by kernel_rfl
theorem ZeK : Rows.groundMoreSpec.vars.all (Tryz.checked.prog.varReadable ·) = true := by kernel_rfl
theorem ZeL : Tryz.f3.resultTypes.all (fun t => Tryz.checked.prog.readableRec t && decide (t < Tryz.checked.prog.types.size)) = true := by kernel_rfl
theorem ZeM : (Rows.groundMoreUptoRow.ifacesOut == Tryz.f3.resultTypes.toList.any (Tryz.checked.prog.ifacesRec ·)) = true := by kernel_rfl
theorem ZeN : (Rows.groundMoreUptoRow.loopsOut == Tryz.f3.resultTypes.toList.any (Tryz.checked.prog.loopsFrom ·)) = true := by kernel_rfl
theorem ZeO : Rows.groundMoreUptoRow.shortTexts.isNone = true := by kernel_rfl
theorem ZeP : (Rows.groundMoreUptoRow.kinds == (if Rows.groundMoreUptoRow.domain.isEmpty then [] else Tryz.f3.params.toList.map fun t => match Tryz.checked.prog.underlying t with | some (.int k) => some k | _ => none)) = true := by kernel_rfl
theorem ZeQ : (Rows.groundMoreUptoRow.pinned == Rows.groundMoreUptoRow.pinnedBy) = true := by kernel_rfl
theorem ZeR : (Rows.groundMoreUptoRow.veiled == (Tryz.f3.params.toList ++ Rows.groundMoreSpec.plain.varTypes Tryz.checked.prog ++ Tryz.f3.resultTypes.toList).any (Tryz.checked.prog.veiledRec ·)) = true := by kernel_rfl
theorem ZeS : Rows.groundMoreUptoRow.veiledFits Tryz.checked.prog Tryz.f3.params.toList (Tryz.f3.params.toList ++ Rows.groundMoreSpec.plain.varTypes Tryz.checked.prog ++ Tryz.f3.resultTypes.toList) = true := by kernel_rfl
theorem groundMore_closed : joinedFacts Tryz.checked.prog 3 Tryz.f3 Rows.groundMoreSpec Rows.groundMoreUptoRow = true := Zsg jp1 jp2 jp3 jp4 jp5 jp6 jp7 jp8 jp9 Zhv Zhw Zhx Zhy Zhz ZhA ZhB ZhC ZhD ZeF ZeG ZeH ZeI ZeJ ZeK ZeL ZeM ZeN ZeO ZeP ZeQ ZeR ZeS
theorem groundMore_holds : Rows.GroundMoreUptoSaid :=
  OpenClaim.holds_of_cond 3 Tryz.f3 rfl rfl rfl rfl rfl rfl rfl ⟨rfl, rfl, rfl, rfl, rfl⟩ rfl rfl rfl rfl rfl (by kernel_rfl) Tryz.func3 groundMore_closed
    (of_decide_eq_true (by kernel_rfl)) (by unfold Func.isWrapper; first | (rw [if_pos (by decide +kernel)]; kernel_rfl) | (rw [if_neg (by decide +kernel)]; exact ⟨rfl, rfl⟩))
    (fun os started H enc _ F => by rw [OpenClaim.pre_eq_preRow]; exact groundMore_lifted os started H enc F)
theorem groundMore_w : Rows.groundMoreUptoRow.wfByText (Rows.OpenSpec.upto Rows.groundMoreSpec) = true := by kernel_rfl
theorem groundMore_named : Tryz.prog.funcNamed Rows.groundMoreUptoRow.func = some 3 := by kernel_rfl
theorem groundMore_goes : false = Rows.groundMoreUptoRow.goesBy Tryz.checked.prog := by kernel_rfl
theorem groundMore_card_holds : Rows.GroundMoreUptoCardSaid :=
  Claim7.holds_tied_plain_at .later [] _ _ _ _ groundMore_holds (fun _ h => by cases h) groundMore_w (fun _ h => by cases h) groundMoreUpto_row_tie rfl ⟨rfl, rfl⟩ jp10 rfl
    (fun f fn hf hfn => by
      obtain rfl : f = 3 := Option.some.inj (groundMore_named.symm.trans hf) |>.symm
      obtain rfl : fn = Tryz.f3 := (Option.some.inj (Tryz.func3.symm.trans hfn)).symm
      exact ⟨jp11, fun j t ht => by
        rw [Tryz.params3] at ht
        have hm : t ∈ [22, 22, 23, 9] := by simpa using Array.mem_of_getElem? ht
        have hall : ([22, 22, 23, 9].all fun u => !Tryz.prog.wantsStandIn u) = true := by kernel_rfl
        exact (show Tryz.prog.wantsStandIn t = false by simpa using List.all_eq_true.1 hall t hm)⟩)
    groundMore_goes
end Go.Proofs.YtbdleclcgopcdaaGreatDoor
end
