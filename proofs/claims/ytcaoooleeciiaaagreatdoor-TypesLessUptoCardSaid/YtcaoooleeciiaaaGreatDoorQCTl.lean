/- The law TypesLess: its row's tied card, second form. -/
import Derived.Deep.DeepHandedRow
import Derived.Carry
import Derived.Test.YtcaoooleeciiaaaGreatDoorB13
set_option linter.unusedVariables false
set_option linter.unusedSimpArgs false
set_option linter.all false
set_option maxRecDepth 100000
set_option maxHeartbeats 16000000
section
namespace Go.PM.Lex
open Go.Proofs
variable {w0:World} {nG:Nat}
theorem ZGO {x:Pr} (hz:Zd4 x<=2097152) (hw:wUn (prU x)<=2097152) (hr:ZiO (prU x)=true):ZdH 2097152 (prU x):=by
 have h2:=Znn _ hr
 exact ⟨hr,hw,by omega,rfl,rfl,rfl⟩
theorem Zri (hg:GlobOK w0 nG) (hN:NumOK w0 nG) (hL:LexC w0 nG):PCalls (GG w0 nG) 3 (Zjd 2097152):=ZuG ⟨ZJx 6000,ZxY (ZFT hg hN hL 1000),ZyI (ZFT hg hN hL 2097152),ZxE,trivial⟩
theorem Zgl {W:World} (hg:GlobOK W 8) (hN:NumOK W 8) (hL:LexC W 8) {a0:Array Value} {x0:Pr} (h0:VRel (GG W 8) ZnM ⟨[],[],0⟩ W (.agg ((Za2 plZ x0).map .d)) (.agg a0)) (z0:Zd4 x0<=2097152) (y0:wUn (prU x0)<=2097152) (r0:ZiO (prU x0)=true) (a1:Int) (a2:Int) :
  Calls Tryz.prog 3 #[.agg a0,.int .u64 a1,.int .i64 a2] W fun e W'=>e=.returned (.bool true)/\(∀ may,W.keptBut W' may)/\RowKit.Below W.heap.size W W':=by
 have hsz:8<=W.heap.size:=by
  obtain ⟨ev,h1,_⟩:=hg.errRange
  have:=World.block_lt_of_cell? W ⟨7,0,none⟩ h1
  simp at this; omega
 have hc:=(Zri hg hN hL).calls [.agg ((Za2 plZ x0).map .d),.d (.int .u64 a1),.d (.int .i64 a2)] ⟨[],[],0⟩ (fun pe _=>pe=.ret (.d (.bool true))) ⟨⟨plZ,x0,rfl,⟨ZGO z0 y0 r0,by decide,z0⟩,ZCX (ZGO z0 y0 r0) (by decide) z0⟩,rfl⟩ 0 ZnM W #[.agg a0,.int .u64 a1,.int .i64 a2] (ZDf hsz) ⟨rfl,fun i x u hx hu=>by
  match i,hx,hu with
  | 0,hx,hu=>cases hx; cases hu; exact h0
  | 1,hx,hu=>cases hx; cases hu; exact .d _ _ (.int _ _)
  | 2,hx,hu=>cases hx; cases hu; exact .d _ _ (.int _ _)
  | i + 3,hx,hu=>simp at hx⟩
 refine Calls.mono (callsIn_wide.1 hc) fun en W' ⟨pe,σ',e',hK,hE,hS,hL⟩=>?_
 subst hK
 obtain ⟨v,rfl,hv⟩:=hE
 cases hv with
 | d _ _ hd =>
  cases hd
  exact ⟨rfl,fun may=>ZGL hL,⟨hL.os,hL.tape,hL.output,hL.size,fun k hk=>hL.blocks k hk (fun i hi=>by simp at hi) (fun t ht=>by cases ht) rfl⟩⟩
end Go.PM.Lex
namespace Go.Proofs.YtcaoooleeciiaaaGreatDoor
open Go.ChangeShapes Go.WideShapes Go.ChangeAt Go.RowKit Go.ChangeMaps Go.PM.Lex
abbrev RW:=Rows.typesLessUptoRow
abbrev RS:=Rows.typesLessSpec
noncomputable abbrev RP:=Tryz.checked.prog
theorem typesLess_contract (H:Type) (enc:TypeId × Value->H) (W:World) (base:Nat) (args:Array Value) (ds gs:List (DataW H)) (before:List MemPlace)
  (hval:∀ (j:Nat) t v,Tryz.f3.params[j]?=some t->args[j]?=some v->Value.okWide Tryz.prog W .any base t v)
  (hW:DataW.Whole enc Tryz.prog Tryz.f3.params.toList RS.vars false W args.toList ds gs before) (hk:Rows.uptoSmall H (ds++gs)=true)
  (hL:laidMetH Tryz.prog RW.laid W) (hsh:W.ShapedOpen Tryz.prog) :
  Calls Tryz.prog 3 args W fun e W'=>∃ v,e=.returned v/\RS.post enc Tryz.prog Tryz.f3 false true false false W args v W':=by
 have hW':=hW
 obtain ⟨p,q,hA0,hV,rfl,_,_⟩:=hW
 have hA:DataW.TrodAll enc Tryz.prog W 0 (fun _=>true) true Tryz.f3.params.toList args.toList ds p:=hA0
 have hlt:=DataW.TrodAll.lt hA
 rw [Tryz.params3] at hA hval
 obtain ⟨v0,v1,v2,d0,d1,d2,p0,p1,p2,rfl,rfl,rfl,h0,h1,h2⟩:=trodAll_three hA
 obtain ⟨rfl,rfl⟩:=trodVars_none hV
 obtain ⟨a0,rfl⟩:∃ cs,v0=.agg cs:=by
  have:Value.okWide Tryz.prog W .any base 26 v0:=hval 0 _ v0 rfl rfl
  unfold Value.okWide at this
  rw [Tryz.underlying26] at this
  obtain ⟨cs,h,_⟩:=this; exact ⟨cs,h⟩
 obtain ⟨x0,hx0,zs0,zw0,rg0⟩:=Zx3 (nG:=8) h0
 obtain ⟨a1,rfl,rfl,rfl,hs1⟩:=open_int Tryz.underlying27 (hval 1 _ v1 rfl rfl) h1
 obtain ⟨a2,rfl,rfl,rfl,hs2⟩:=open_int Tryz.underlying3 (hval 2 _ v2 rfl rfl) h2
 have hb:Rows.uptoBulkAll ([d0,DataW.lit (H:=H) (.int .u64 a1),DataW.lit (H:=H) (.int .i64 a2)]++[])<=1048576:=of_decide_eq_true hk
 simp only [List.append_nil,Rows.uptoBulkAll,Rows.uptoBulk] at hb
 simp only [List.append_nil] at hW'
 have hg:=ZGK hL hsh
 refine (Zgl hg (ZIz hL) (ZIx (by decide) (ZGM hL)) hx0 (by omega) (by omega) rg0 a1 a2).mono fun e W' ⟨he,hk,hbl⟩=>?_
 subst he
 refine ⟨_,rfl,_,_,_,[],(p0++([]++[])),[],hW',?_,?_,?_,hk _,fun h=>by cases h⟩
 · exact trodAll_mk1 (shut_bool Tryz.underlying4 true)
 · exact trodAll_mk3 (hbl.trod jp1 (by kernel_rfl) (of_decide_eq_true (by kernel_rfl)) h0 fun z hz=>hlt z (by simp [hz])) (shut_int Tryz.underlying27 hs1) (shut_int Tryz.underlying3 hs2)
 · rfl
theorem typesLess_reads (os:Os) {H:Type} (enc:TypeId × Value->H):∃ places,DataW.whole enc Tryz.prog ((World.laidAll Tryz.prog os RW.laid).forCall (fun _ _=>0) ⟨#[],#[.agg #[.slice none 0 0,.slice none 0 0,.slice none 0 0],.int .u64 0,.int .i64 0],[]⟩).memory Tryz.f3.params.toList RS.vars false #[Value.agg #[.slice none 0 0,.slice none 0 0,.slice none 0 0],.int .u64 0,.int .i64 0].toList 8=some ([.agg [.nil,.nil,.nil],.lit (.int .u64 0),.lit (.int .i64 0)],[],places) :=
 ⟨[],by kernel_rfl⟩
theorem typesLess_lifted (os:Os) (started:os.Started) (H:Type) (enc:TypeId × Value->H) (F:Stop.Interp) :
  ReturnsInHanded {} Tryz.checked os 3 .any ((Rows.OpenSpec.upto RS).preRow enc Tryz.prog Tryz.f3 RW.domain false RW.laid) (((Rows.OpenSpec.upto RS).at F).post enc Tryz.prog Tryz.f3 false true false false):=by
 obtain ⟨places,hx⟩:=typesLess_reads os enc
 refine returnsInHanded_of_row (C:=Tryz.checked) (s:=Rows.OpenSpec.upto RS) ZIv started (by kernel_rfl) Tryz.func3
  ⟨World.laidAll Tryz.prog os RW.laid,fun _ _=>0,⟨#[],#[.agg #[.slice none 0 0,.slice none 0 0,.slice none 0 0],.int .u64 0,.int .i64 0],[]⟩,World.laidAll_os _ _ _,World.shaped_of_ZipB (by kernel_rfl) (by kernel_rfl),rfl,(Input.okWide_of_okWideB (base:=0) (by kernel_rfl)).2,
   OpenSpec.preRow_of_cond 8 hx (by kernel_rfl) (fun k hk=>by cases hk; kernel_rfl) (by kernel_rfl) (by rw [MakeChecks.laidMetH_plain _ _ _ (by kernel_rfl)]; exact laidMet_laidAll _ (by kernel_rfl) (by kernel_rfl)),
   by simp only [Assume.holds]; exact ⟨by simp,by simp,fun _=>Modest.zero,by simp,by simp⟩⟩ ?_
 intro W base args ds gs before hval hW _ hcond _ hL hsh _
 exact typesLess_contract H enc W base args ds gs before hval hW (hcond _ rfl) hL hsh
theorem ZlD:RW.wf (OpenSpec.ofChange RS)=true:=by kernel_rfl
theorem ZlE:Tryz.f3.params.all (RP.readableRec ·)=true:=by kernel_rfl
theorem ZlF:namedTie RP RW.named RS.vars=true:=by kernel_rfl
theorem ZlG:(RW.stops == [])=true:=by kernel_rfl
theorem ZlH:(RW.knobs == [])=true:=by kernel_rfl
theorem ZlI:(RW.inPlace == RP.inPlace 3)=true:=by kernel_rfl
theorem ZlJ:(RW.unfollowed == RP.unfollowed 3)=true:=by kernel_rfl
theorem ZlK:(RW.recurses == RP.recurses 3)=true:=by kernel_rfl
theorem ZlL:(RW.named == RP.varsNamed 3)=true:=by kernel_rfl
theorem Zjt:(RW.maps == (Tryz.f3.params.toList++RS.plain.varTypes RP).any (RP.mapsRec ·))=true:=by kernel_rfl
theorem Zju:(RW.ifaces == (Tryz.f3.params.toList++RS.plain.varTypes RP).any (RP.ifacesRec ·))=true:=by kernel_rfl
theorem Zjv:(RW.mapsOut == RP.mapsAmong Tryz.f3.resultTypes.toList)=true:=by kernel_rfl
theorem Zjw:(RW.loops == (Tryz.f3.params.toList++RS.plain.varTypes RP).any (RP.loopsFrom ·))=true:=by kernel_rfl
theorem Zjx:(RW.wideKeys == (Tryz.f3.params.toList++RS.plain.varTypes RP++Tryz.f3.resultTypes.toList).any (RP.wideKeysFrom ·))=true:=by kernel_rfl
theorem Zjy:RS.vars.all (RP.varReadable ·)=true:=by kernel_rfl
theorem Zjz:Tryz.f3.resultTypes.all (fun t=>RP.readableRec t && decide (t < RP.types.size))=true:=by kernel_rfl
theorem ZjA:(RW.ifacesOut == Tryz.f3.resultTypes.toList.any (RP.ifacesRec ·))=true:=by kernel_rfl
theorem ZjB:(RW.loopsOut == Tryz.f3.resultTypes.toList.any (RP.loopsFrom ·))=true:=by kernel_rfl
theorem ZjC:RW.shortTexts.isNone=true:=by kernel_rfl
theorem ZjD:(RW.kinds == (if RW.domain.isEmpty then [] else Tryz.f3.params.toList.map fun t=>match RP.underlying t with | some (.int k)=>some k | _=>none))=true:=by kernel_rfl
theorem ZjE:(RW.pinned == RW.pinnedBy)=true:=by kernel_rfl
theorem ZjF:(RW.veiled == (Tryz.f3.params.toList++RS.plain.varTypes RP++Tryz.f3.resultTypes.toList).any (RP.veiledRec ·))=true:=by kernel_rfl
theorem ZjG:RW.veiledFits RP Tryz.f3.params.toList (Tryz.f3.params.toList++RS.plain.varTypes RP++Tryz.f3.resultTypes.toList)=true:=by kernel_rfl
theorem typesLess_closed:joinedFacts RP 3 Tryz.f3 RS RW=true:=Zu7 jp1 jp2 jp3 jp4 jp5 jp6 jp7 jp8 jp9 ZlD ZlE ZlF ZlG ZlH ZlI ZlJ ZlK ZlL Zjt Zju Zjv Zjw Zjx Zjy Zjz ZjA ZjB ZjC ZjD ZjE ZjF ZjG
theorem typesLess_holds:Rows.TypesLessUptoSaid :=
 OpenClaim.holds_of_cond 3 Tryz.f3 rfl rfl rfl rfl rfl rfl rfl ⟨rfl,rfl,rfl,rfl,rfl⟩ rfl rfl rfl rfl rfl (by kernel_rfl) Tryz.func3 typesLess_closed
  (of_decide_eq_true (by kernel_rfl)) (by unfold Func.isWrapper; first | (rw [if_pos (by decide +kernel)]; kernel_rfl) | (rw [if_neg (by decide +kernel)]; exact ⟨rfl,rfl⟩))
  (fun os started H enc _ F=>by rw [OpenClaim.pre_eq_preRow]; exact typesLess_lifted os started H enc F)
theorem typesLess_w:RW.wfByText (Rows.OpenSpec.upto RS)=true:=by kernel_rfl
theorem typesLess_named:Tryz.prog.funcNamed RW.func=some 3:=by kernel_rfl
theorem typesLess_goes:false=RW.goesBy RP:=by kernel_rfl
theorem typesLess_card_holds:Rows.TypesLessUptoCardSaid :=
 Claim7.holds_tied_plain_at .later [] _ _ _ _ typesLess_holds (fun _ h=>by cases h) typesLess_w (fun _ h=>by cases h) typesLessUpto_row_tie rfl ⟨rfl,rfl⟩ jp10 rfl
  (fun f fn hf hfn=>by
   obtain rfl:f=3:=Option.some.inj (typesLess_named.symm.trans hf) |>.symm
   obtain rfl:fn=Tryz.f3:=(Option.some.inj (Tryz.func3.symm.trans hfn)).symm
   exact ⟨jp11,fun j t ht=>by
    rw [Tryz.params3] at ht
    have hm:t ∈ [26,27,3]:=by simpa using Array.mem_of_getElem? ht
    have hall:([26,27,3].all fun u=>!Tryz.prog.wantsStandIn u)=true:=by kernel_rfl
    exact (show Tryz.prog.wantsStandIn t=false by simpa using List.all_eq_true.1 hall t hm)⟩)
  typesLess_goes
end Go.Proofs.YtcaoooleeciiaaaGreatDoor
end
