/- A part of the proof: plain logic, contracts and laws over the given program. -/
import Derived.Shelf.Strings.Builder1
import Derived.Test.YtkoicjdlpkaopaaGreatDoorShelf
import Derived.Shelf.RegionOpenPlain
import Derived.Lib.Walk
import Derived.Lib.UnsafeStr
import Derived.Lib.Builder
import Derived.WalkKit
import Derived.Laws.Externs
import Derived.KernelRfl
import Derived.Test.YtkoicjdlpkaopaaGreatDoorU05
set_option linter.unusedVariables false
set_option linter.unusedSimpArgs false
set_option linter.all false
set_option maxRecDepth 100000
set_option maxHeartbeats 16000000
section
namespace Go.PM
theorem Ux {G:GE} {g:FuncId} {sp:Zt} (mi:VX G.P g)
  (h:∀args σ K,sp args σ K->∀(e:Env) (w:World) (vs:Array Value),SRel G e σ w->ArgsRel G e σ w args vs->∃pv σ' v,K (.ret pv) σ'/\Calls G.P g vs w fun en w'=>en=.returned v/\VRel G e σ' w' pv v/\SRel G e σ' w'/\Later e σ w e σ' w'):PCalls G g sp where
 enters:=mi
 calls:=fun args σ K hs n e w vs hS ha=>by
  obtain ⟨pv,σ',v,hK,hc⟩:=h args σ K hs e w vs hS ha;refine CallsIn.mono (callsIn_wide.2 hc) fun en w' ⟨he,hv,ey,hL⟩=>?_
  subst he;exact ⟨.ret pv,σ',e,hK,⟨v,rfl,hv⟩,ey,hL⟩
section
variable {G:GE} {T:Tab} {e:Env} {σ:St} {w:World}
theorem Zdr (hT:TabOK T G.P) (hS:SRel G e σ w) {t:TypeId} {b off:Nat} {x:PV} {v:Value} {l cs:List PV} {ty:TypeId} (hb:σ.bx[b]?=some (.cells ty cs)) (hx:VRel G e σ w x v) (hl:x.cells=some l)
  (ab:l.length=(T.get t).size) (mh:off+l.length<=cs.length) (hk:(T.get t).kind≠.other) :
  Stepped e σ w e (σ.set b (.cells ty (Z9 cs off l))) (w.setCells (e.β b) off v.cells.toList)/\SRel G e (σ.set b (.cells ty (Z9 cs off l))) (w.setCells (e.β b) off v.cells.toList):=by
 obtain ⟨w1,hr,h1,h2⟩:=J6 hT hS hb hx hl ab mh hk;obtain ⟨i,d,z,hi,hd,hs,ff,bh,hz,ei,_⟩:=(hT.get hk).ex;obtain ⟨vs,kz,oq,hv3⟩:=hS.box b _ hb;obtain ⟨dl,fu⟩:=VW hx hl;have hvc:v.cells.toList.length=l.length:=by simpa using dl
 have lg:∀u∈v.cells.toList,u.oneCell'=true:=fun u hu=>by
  exact m185
 have am:=run_storeCells_cells (P:=G.P) (e.β b) off v.cells.toList 0 w (fun j hj=>by
   have:off+j<vs.size:=oM;simp [World.cell?,kz,this]) (fun j hj=>by simp [World.frozen?,kz]) lg
 simp only [Se] at am;have bi:(Instr.storeAt t (.pointer (some ⟨e.β b,off,none⟩)) v).run G.P w=.ok () (w.setCells (e.β b) off v.cells.toList):=by
  have ji:v.cells.size=i.size:=by rw [dl,ab,hs]
  exact m90
 rw [bi] at hr
 cases hr
 exact ⟨h1,h2⟩
end
end Go.PM
namespace Go.PM.Lex
open Go.Proofs Go.Shelf
variable {w0:World} {nG:Nat}
theorem u50:Tryz.prog.underlying 55=some (.pointer 58):=kR
theorem u95:Tryz.prog.underlying 260=some .unsafePointer:=kR
theorem i53:∃j,Tryz.prog.info? 58=some j/\j.size=2:=by
 have h:(Tryz.prog.info? 58).map (·.size)=some 2:=kR
 obtain ⟨j,h1,h2⟩:=Option.map_eq_some_iff.1 h;exact ⟨j,h1,h2⟩
theorem ZwV:liesAt Tryz.prog Tryz.prog.depth 58 (2 / Tryz.prog.cellsOf 58) 0 58 1=true:=kR
theorem Zhe (b:Nat) (w:World) (h0:w.cell? ⟨b,0,none⟩=some (.pointer (some ⟨b,0,none⟩))) :
  Calls Tryz.prog 166 #[.pointer (some ⟨b,0,none⟩)] w fun e w'=>e=.returned (.tuple #[])/\w'=w:=by
 obtain ⟨j,hj,ui⟩:=i53
 go_enter Tryz.func166,Tryz.ntmps166
 go_wp2
 rw [Go.Lib.run_neq_ptr_same w _ u50 hj]
 go_wp2
 go_end0
 exact ⟨rfl,rfl⟩
theorem ZlC (b:Nat) (w:World) (h0:w.cell? ⟨b,0,none⟩=some (.pointer none)) (pj:w.shape? b=some (58,2)) (ky:w.frozen? ⟨b,0,none⟩=false) :
  Calls Tryz.prog 166 #[.pointer (some ⟨b,0,none⟩)] w fun e w'=>e=.returned (.tuple #[])/\w'=w.setCell ⟨b,0,none⟩ (.pointer (some ⟨b,0,none⟩)):=by
 obtain ⟨j,hj,ui⟩:=i53
 go_enter Tryz.func166,Tryz.ntmps166
 go_wp2
 rw [Go.Lib.run_to_unsafe w ⟨b,0,none⟩ u50 u95 hj (by rw [ui];decide) pj (Nat.zero_lt_succ 1)];simp only [Result.andThen];rw [Oper.upon_value]
 go_wp2
 rw [run_callFunc_extern Tryz.func217 kR kR kR (e:=Extern.AbiNoEscape.same) kR];rw [Go.Lib.run_noEscape];simp only [Result.andThen];rw [Oper.upon_value]
 go_wp2
 rw [Go.Lib.run_from_unsafe w ⟨b,0,none⟩ u95 u50 hj pj ZwV];simp only [Result.andThen];rw [Oper.upon_value]
 go_wp2
 go_end0
 exact ⟨rfl,rfl⟩
noncomputable def Uy:Zt:=fun args σ K=>match args,σ with
 | [.ptr 0 0],⟨[.cells t [p,q]],tk,nx⟩=>((p=.d .nilp\/p=.ptr 0 0)/\t=58)/\K (.ret (.tuple [])) ⟨[.cells t [.ptr 0 0,q]],tk,nx⟩
 | _,_=>False
theorem Zcj:PC w0 nG 166 Uy:=Ux (Zn Tryz.func166 kR rfl) fun args σ K h e w vs hS ha=>by
 unfold Uy at h
 split at h
 ·rename_i t p q tk nx
  obtain ⟨⟨hp,rfl⟩,hK⟩:=h;obtain ⟨u,rfl,hu⟩:=Zhb ha;obtain ⟨cv,dl,fu,jd⟩:=hS.box 0 _ rfl;have dm:cv.size=2:=fu;obtain ⟨x0,ka⟩:∃x,cv[0]?=some x:=⟨cv[0]'oM,by simp [dm]⟩
  have ge:=(jd 0 p x0 rfl ka).1
  cases hu with
  | ptr b off hb =>
  refine ⟨_,_,.tuple #[],hK,?_⟩;rcases hp with rfl | rfl
  ·cases ge with
   | d _ _ hd =>
   cases hd
   refine Calls.mono (ZlC (e.β 0) w ?_ ?_ ?_) fun en w' ⟨h1,h2⟩=>?_
   ·simp [World.cell?,dl,ka]
   ·simp only [World.shape?,dl,dm]
   ·simp [World.frozen?,dl]
   have hst:=Zdr (G:=GG w0 nG) (T:=ZgB) Zb hS (t:=55) (b:=0) (off:=0) (x:=.ptr 0 0) (v:=.pointer (some ⟨e.β 0,0,none⟩)) (l:=[.ptr 0 0]) (cs:=[.d .nilp,q]) (ty:=58) rfl (.ptr 0 0 hb) rfl rfl sM (by intro h;cases h);rw [h2];exact ⟨h1,.tuple [] #[] rfl (fun i x u hx=>by simp at hx),hst.2,hst.1.toLater⟩
  exact m108
 exact h.elim
theorem Zno {P:Program} {ρ:Ren} (L:Lays.n169 P ρ) (X:Builder.Extra P ρ) (b g cap:Nat) (p:Value) (cur:Array Value) (fz:Nat×Nat) (l:Bs) (w:World) (h0:l≠[])
  (qn:w.heap[b]?=some (.cells #[p,.slice (some ⟨g,0,none⟩) l.length cap] (ρ.t 72) (0,0))) (hg:w.heap[g]?=some (.cells cur (ρ.t 5) fz)) (hn:l.length<=cur.size) (hcap:cap≠0) (et:l.length<=9223372036854775807)
  (ba:∀j x,l[j]?=some x->w.cell? ⟨g,j,none⟩=some (.int .u8 x.toNat)) :
  Calls P (ρ.f 169) #[.pointer (some ⟨b,0,none⟩)] w fun e w'=>e=.returned (.string ⟨l.toArray⟩)/\w'=w.drew.freeze ⟨g,0,none⟩ l.length:=by
 have c1:w.drew.cell? ⟨b,1,none⟩=some (.slice (some ⟨g,0,none⟩) l.length cap):=by
  have:w.drew.heap[b]?=some (.cells #[p,.slice (some ⟨g,0,none⟩) l.length cap] (ρ.t 72) (0,0)):=qn;rw [Go.Lib.cell_of_heap this];rfl
 have hSD:(Builtin.unsafeSliceData_ #[(ρ.t 37)] (ρ.t 127) #[.slice (some ⟨g,0,none⟩) l.length cap]).run P w.drew=.ok (.pointer (some ⟨g,0,none⟩)) w.drew :=
  Go.Lib.run_unsafeSliceData_row _ _ _ _ _ _ hcap
 have hUS:(Builtin.unsafeString_ #[(ρ.t 127),(ρ.t 3)] (ρ.t 9) #[.pointer (some ⟨g,0,none⟩),.int .i64 l.length]).run P w.drew=.ok (.string ⟨l.toArray⟩) (w.drew.freeze ⟨g,0,none⟩ l.length):=by
  exact m93
 have mixed:=L.mixed;have t72:=L.t72;have a72:=L.a72;have z72:=L.z72;have v72:=L.v72;have u72:=run_underlying L.t72;have t70:=L.t70;have a70:=L.a70;have z70:=L.z70;have v70:=L.v70;have u70:=run_underlying L.t70;have t37:=L.t37;have a37:=L.a37;have z37:=L.z37;have v37:=L.v37;have u37:=run_underlying L.t37;have t127:=L.t127;have a127:=L.a127;have z127:=L.z127;have v127:=L.v127;have u127:=run_underlying L.t127;have t3:=L.t3;have a3:=L.a3;have z3:=L.z3;have v3:=L.v3;have u3:=run_underlying L.t3;have t9:=L.t9;have a9:=L.a9;have z9:=L.z9;have v9:=L.v9;have u9:=run_underlying L.t9;have t5:=X.t5;have a5:=X.a5;have z5:=X.z5;have v5:=X.v5;have u5:=run_underlying X.t5
 go_enter L.f169,Body.n169_ntmps ρ
 go_wp2
 go_region_o
 all_goals (go_wp2;go_ret;exact ⟨rfl,rfl⟩)
theorem Uz (w:World) (g n k:Nat) (hk:k≠g):(w.drew.freeze ⟨g,0,none⟩ n).heap[k]?=w.heap[k]?:=by
 unfold World.freeze
 split
 ·rfl
 simp only [Array.getElem?_modify];rw [Tc (fun h=>hk h.symm)];rfl
theorem ZiF (w:World) (g n:Nat) {cs:Array Value} {ty:TypeId} {fz:Nat×Nat} (h:w.heap[g]?=some (.cells cs ty fz)):∃fz',(w.drew.freeze ⟨g,0,none⟩ n).heap[g]?=some (.cells cs ty fz'):=by
 have h':w.drew.heap[g]?=some (.cells cs ty fz):=h;unfold World.freeze
 split
 ·exact ⟨fz,h'⟩
 simp only [Array.getElem?_modify,if_true,h',Sw];exact ⟨_,rfl⟩
theorem ZwW {G:GE} {e:Env} {w w':World} {t:TypeId} {p:PV} {rows:List (List D)} (hp:p=.d .nilp\/p=.ptr 0 0) (hS:SRel G e ⟨[.cells t [p,.sl 0 5 rows]],[0],1⟩ w)
  (hsz:w.heap.size<=w'.heap.size) (rf:w'.os=w.os) (htp:w'.tape=w.tape) (jn:w'.output=w.output)
  (ba:∀b off u,w.cell? ⟨b,off,none⟩=some u->w'.cell? ⟨b,off,none⟩=some u)
  (iz:∀b,b<w.heap.size->(∀q,e.M 0=some q->q.1≠b)->w'.heap[b]?=w.heap[b]?) :
  SRel G e ⟨[.cells t [p,.d (.sl rows)]],[],0⟩ w'/\Later e ⟨[.cells t [p,.sl 0 5 rows]],[0],1⟩ w e ⟨[.cells t [p,.d (.sl rows)]],[],0⟩ w':=by
 have hL:Later e ⟨[.cells t [p,.sl 0 5 rows]],[0],1⟩ w e ⟨[.cells t [p,.d (.sl rows)]],[],0⟩ w':={
  len:=Tr _
  beta:=fun _ _=>rfl
  X:=rfl
  pres:=fun b off u hu ho=>⟨⟨ho.1,ho.2.1,fun x hx=>by cases hx⟩,ba b off u hu⟩
  blocks:=fun b hb h1 h2=>iz b hb fun q hq=>h2 0 sM q hq
  size:=hsz
  os:=rf
  tape:=htp
  output:=jn
  fresh:=fun i h1 h2=>by simp at h1 h2;omega
  ftok:=fun x hx=>by cases hx }
 have ah:=hS.lt (i:=0) sM;have pm:w'.heap[e.β 0]?=w.heap[e.β 0]?:=iz _ ah fun q hq=>fun h=>(hS.own 0 sM q hq).2.1 0 sM h.symm
 refine ⟨?_,hL⟩;exact {
  inj:=hS.inj
  box:=fun i x hx=>by
   match i,hx with
   | 0,hx =>
    cases hx
    obtain ⟨cv,h1,h2,h3⟩:=hS.box 0 _ rfl;refine ⟨cv,pm.trans h1,h2,fun j y u hy hu=>?_⟩
    match j,hy with
    | 0,hy =>
     exact m110
    | 1,hy =>
     cases hy
     obtain ⟨q1,q2⟩:=h3 1 (.sl 0 5 rows) u rfl hu;refine ⟨?_,q2⟩
     cases q1 with
     | sl _ _ _ _ hn hd ht=>exact .d _ _ (hd.later hL)
    | j+2,hy=>simp at hy
   | i+1,hx=>simp at hx
  low:=hS.low
  tkn:=fun x hx=>by cases hx
  own:=fun x hx=>by cases hx
  dis:=fun x y hx=>by cases hx
  xlt:=fun b off hx=>TH (hS.xlt b off hx) hsz
  xown:=fun x hx=>by cases hx
  glob:=fun b hb=>by
   rw [iz b (TH hb hS.big) fun q hq=>fun h=>by have:=(hS.own 0 sM q hq).1;omega];exact hS.glob b hb
  big:=TW hS.big hsz }
theorem XP (l:Bs):(Zj l).length=l.length:=by simp [Zj]
theorem ZwX:(Tryz.prog.info? 5).map (·.size)=some 1:=kR
theorem Zhf:PC w0 nG 17 ZcE:=Ux (Zn Tryz.func17 kR rfl) fun args σ K h e w vs hS ha=>by
 unfold ZcE at h
 split at h
 ·rename_i t p el rows
  obtain ⟨l,⟨rfl,rfl,rfl,hp,et⟩,hK⟩:=h;obtain ⟨u,rfl,hu⟩:=Zhb ha;obtain ⟨cv,dl,fu,jd⟩:=hS.box 0 _ rfl;have dm:cv.size=2:=fu;obtain ⟨v0,v1,rfl⟩:∃v0 v1,cv=#[v0,v1]:=by
   obtain ⟨lst⟩:=cv
   match lst,dm with
   | [a,b],_=>exact ⟨a,b,rfl⟩
  have ae:=(jd 1 (.sl 0 5 (Zj l)) v1 rfl rfl).1
  cases hu with
  | ptr b off hb =>
  refine ⟨_,_,.string ⟨l.toArray⟩,hK,?_⟩;have fin:∀w',w.heap.size<=w'.heap.size->w'.os=w.os->w'.tape=w.tape->w'.output=w.output ->
    (∀b off u,w.cell? ⟨b,off,none⟩=some u->w'.cell? ⟨b,off,none⟩=some u) ->
    (∀b,b<w.heap.size->(∀q,e.M 0=some q->q.1≠b)->w'.heap[b]?=w.heap[b]?) ->
    VRel (GG w0 nG) e ⟨[.cells 58 [p,.d (.sl (Zj l))]],[],0⟩ w' (.d (.str l)) (.string ⟨l.toArray⟩)/\SRel (GG w0 nG) e ⟨[.cells 58 [p,.d (.sl (Zj l))]],[],0⟩ w'/\Later e ⟨[.cells 58 [p,.sl 0 5 (Zj l)]],[0],1⟩ w e ⟨[.cells 58 [p,.d (.sl (Zj l))]],[],0⟩ w':=fun w' h1 h2 h3 h4 h5 h6 =>
   ⟨.mkstr,ZwW hp hS h1 h2 h3 h4 h5 h6⟩
  have grown:∀w',Grows w w'->_:=fun w' g=>fin w' g.size g.os g.tape g.output (fun b off u hu=>(g.cell (Uo hu)).trans hu) (fun b hb _=>g.old b hb)
  cases ae with
  | sl _ _ _ _ hn hd ht =>
  rcases ht sM with ⟨rfl,bj,hM⟩ | ⟨sz,g1,g2,g3,g,off,cap,cs,ty,fz,rfl,g4,g5,g6,⟨g7,rfl,rfl,g8⟩,g9,hM⟩
  ·have hl:l=[]:=by simpa [Zj] using bj
   subst hl;refine (Any.Builder_String_nil Tryz.lays169 Tryz.Builder_Extra_169 w.heap.size (e.β 0) v0 w dl).mono fun en w' ⟨h1,h2⟩=>?_
   exact ⟨h1,grown w' (ZBJ h2)⟩
  have jz:sz=1:=by
   have:(Tryz.prog.info? 5).map (·.size)=some sz:=g1
   rw [ZwX] at this;cases this;rfl
  subst jz;rw [XP] at g5 dl g9 hM hd
  by_cases hl:l=[]
  ·subst hl;refine (Any.Builder_String_room Tryz.lays169 Tryz.Builder_Extra_169 w.heap.size (e.β 0) g cap v0 w oM dl).mono fun en w' ⟨h1,h2⟩=>?_
   exact ⟨h1,grown w' (ZBJ h2)⟩
  have ba:∀j x,l[j]?=some x->w.cell? ⟨g,j,none⟩=some (.int .u8 x.toNat):=by
   exact m41
  obtain ⟨fz',rn⟩:=ZiF w g l.length g6;refine (Zno Tryz.lays169 Tryz.Builder_Extra_169 (e.β 0) g cap v0 cs fz l w hl dl g6 oM oM oM ba).mono fun en w' ⟨h1,h2⟩=>?_
  rw [h2];refine ⟨h1,fin _ ?_ ?_ ?_ ?_ ?_ ?_⟩
  ·unfold World.freeze;split <;> first | exact Tr _ | (simp only [Array.size_modify];exact Tr _)
  ·exact m188
  ·exact m188
  ·exact m188
  ·exact m135
  intro b hb hq
  exact Uz w g l.length b fun h=>hq _ hM h.symm
 exact h.elim
end Go.PM.Lex
end

section
namespace Go.PM.Lex
open Go.Proofs
variable {w0:World} {nG:Nat}
structure GlobOK (w0:World) (nG:Nat):Prop where
 big:7<nG
 maxLen:∃m,w0.cell? ⟨2,0,none⟩=some (.int .i64 m)
 errSyntax:∃ev,w0.cell? ⟨6,0,none⟩=some ev/\(ev=.nilIface\/∃te pe,ev=.iface te pe)
 errRange:∃ev,w0.cell? ⟨7,0,none⟩=some ev/\(ev=.nilIface\/∃te pe,ev=.iface te pe)
noncomputable def ZlD:Zt:=fun args σ K=>match args with
 | [.d (.str _),.d (.str s)]=>s.length<4294967281/\K (.ret .undef) σ
 | _=>False
theorem Zhg {e:Env} {σ:St} {w:World} {k:Nat} {u:Value} (hS:SRel (GG w0 nG) e σ w) (hk:k<nG) (h:w0.cell? ⟨k,0,none⟩=some u):w.cell? ⟨k,0,none⟩=some u:=by
 have:=hS.glob k hk;simpa [World.cell?,this] using h
theorem Zeh (hg:GlobOK w0 nG):PC w0 nG 288 ZlD where
 enters:=Zn Tryz.func288 kR rfl
 calls:=fun args σ K hs n e w vs hS ha=>by
  unfold ZlD at hs
  split at hs
  ·rename_i fn s
   obtain ⟨hl,hK⟩:=hs;obtain ⟨u,v,rfl,hu,hv⟩:=Zhc ha
   cases hu.dstr;cases hv.dstr
   obtain ⟨ev,h1,h2⟩:=hg.errSyntax;refine CallsIn.mono (callsIn_wide.2 (Tryz.strconv_syntaxError _ _ ev w (show s.toArray.size<=_ by simp;omega) (Zhg hS (by have:=hg.big;omega) h1) h2)) fun en w' ⟨N,h3,_,_,h4⟩=>?_
   exact m162
  exact hs.elim
theorem ZfS (hg:GlobOK w0 nG):PC w0 nG 289 ZlD where
 enters:=Zn Tryz.func289 kR rfl
 calls:=fun args σ K hs n e w vs hS ha=>by
  unfold ZlD at hs
  split at hs
  ·rename_i fn s
   obtain ⟨hl,hK⟩:=hs;obtain ⟨u,v,rfl,hu,hv⟩:=Zhc ha
   cases hu.dstr;cases hv.dstr
   obtain ⟨ev,h1,h2⟩:=hg.errRange;refine CallsIn.mono (callsIn_wide.2 (Tryz.strconv_rangeError _ _ ev w (show s.toArray.size<=_ by simp;omega) (Zhg hS (by have:=hg.big;omega) h1) h2)) fun en w' ⟨N,h3,_,_,h4⟩=>?_
   exact m162
  exact hs.elim
noncomputable def Zds:Zt:=fun args σ K=>match args,σ with
 | [.d (.str _),.d (.str s),.d (.int .i64 _),.d (.int .i64 _),.iface 311 (.d (.int .i64 c))],⟨[],[],0⟩=>((c=1\/c=2)/\s.length<4294967281)/\K (.ret (.iface 313 .undef)) ⟨[],[],0⟩
 | _,_=>False
noncomputable def Zzi:Tbl:=[(288,ZlD),(289,ZlD)]
theorem ZlE (hg:GlobOK w0 nG):PC w0 nG 282 Zds:=by
 refine Zd Zb mixed (tbl:=Zzi) ⟨Zeh hg,ZfS hg,trivial⟩ Tryz.func282 rfl kR kR ?_;intro args σ K h
 unfold Zds at h
 split at h
 ·rename_i fn s b0 b1 c
  obtain ⟨⟨hc,hl⟩,h⟩:=h;refine ⟨Za [],0,false,sM,Ta rfl,?_⟩;rcases hc with rfl | rfl
  ·conv=>whnf
   refine ⟨hl,wN ?_⟩;exact h
  conv=>whnf
  refine ⟨hl,wN ?_⟩;exact h
 exact h.elim
noncomputable def ZiG:Zt:=fun args σ K=>match args,σ with
 | [.d (.int .u8 c)],⟨[],[],0⟩=>K (.ret (.d (.int .u8 (Zm .or .u8 c 32)))) ⟨[],[],0⟩
 | _,_=>False
theorem ZqU:PC w0 nG 286 ZiG:=by
 refine Zd Zb mixed (tbl:=[]) trivial Tryz.func286 rfl kR kR ?_;intro args σ K h
 unfold ZiG at h
 split at h
 ·refine ⟨Za [],0,false,sM,Ta rfl,wN ?_⟩;exact h
 exact h.elim
theorem ZA3:∀n:Fin 256,Xz true (UInt8.ofNat n.val)=true->¬(48<=n.val/\n.val<=57)->Zm .or .u8 (n.val:Int) 32=Zax (UInt8.ofNat n.val)+87/\10<=Zax (UInt8.ofNat n.val)/\Zax (UInt8.ofNat n.val)<=15:=by rw [Yz];decide +kernel
theorem Zhh {b:UInt8} (h:Xz true b=true) (hn:¬(48<=b.toNat/\b.toNat<=57)):Zm .or .u8 (b.toNat:Int) 32=Zax b+87/\10<=Zax b/\Zax b<=15:=by
 have:=ZA3 ⟨b.toNat,b.toNat_lt⟩;simp only [UInt8.ofNat_toNat] at this;exact this h hn
theorem Za0 (B:Nat) (l:Bs) (b:UInt8):XE B (l++[b])=XE B l * B+Zax b:=by simp [XE,List.foldl_append]
theorem Za1 {l:Bs} {i:Nat} (h:i<l.length):l.take (i+1)=l.take i++[l.getD i 0]:=by
 rw [List.take_succ,Ti h];simp [List.getD,h]
theorem ZjM (B:Nat) (hB:1<=B):∀(l:Bs) (n:Nat),n<=l.foldl (fun n b=>n * B+Zax b) n
 | [],n=>Tr _
 | b::l,n=>by
  have:=ZjM B hB l (n * B+Zax b);have h2:n<=n * B:=Nat.le_mul_of_pos_right n hB;simp only [List.foldl_cons];omega
theorem U1 (B:Nat) (hB:1<=B) (l:Bs) (i:Nat):XE B (l.take i)<=XE B l:=by
 conv=>rhs;rw [<- List.take_append_drop i l]
 unfold XE
 rw [List.foldl_append];exact ZjM B hB _ _
noncomputable def Zzj:Zt:=fun args σ K=>match args,σ with
 | [.d (.str l),.d (.int .i64 base),.d (.int .i64 bits)],⟨[],[],0⟩=>∃gj:Bool,((l.all (Xz gj)=true/\l.length<4294967281)/\base=(if gj then 16 else 10)/\bits=(if gj then 64 else 63)) /\
   (l=[]->K (.ret (.tuple [.d (.int .u64 0),.iface 311 (.d (.int .i64 2))])) ⟨[],[],0⟩) /\
   (l≠[]->(if gj then 18446744073709551616 else 9223372036854775808)<=XE (if gj then 16 else 10) l->K (.ret (.tuple [.d (.int .u64 (if gj then 18446744073709551615 else 9223372036854775807)),.iface 311 (.d (.int .i64 1))])) ⟨[],[],0⟩) /\
   (l≠[]->¬(if gj then 18446744073709551616 else 9223372036854775808)<=XE (if gj then 16 else 10) l->K (.ret (.tuple [.d (.int .u64 (XE (if gj then 16 else 10) l)),.d .nili])) ⟨[],[],0⟩)
 | _,_=>False
noncomputable def Zzk:Tbl:=[(286,ZiG)]
theorem Zzl:PC w0 nG 281 Zzj:=by
 refine Zd Zb mixed (tbl:=Zzk) ⟨ZqU,trivial⟩ Tryz.func281 rfl kR kR ?_;intro args σ K h
 unfold Zzj at h
 split at h
 ·rename_i l base bits
  obtain ⟨gj,⟨⟨cd,hl⟩,rfl,rfl⟩,d8,nk,dj⟩:=h;have hml:((l.map fun b=>[D.int .u8 (b.toNat:Int)]:List (List D))).length=l.length:=sM
  cases gj with
  | true =>
   simp only [if_true,To,if_false] at nk dj |-;refine ⟨Za [(36,⟨[101,13,12],[0,1,8,10,11,99,100],fun vs σ=>σ=⟨[],[],0⟩/\∃i:Nat,vs=[.d (.int .i64 i),.d (.int .u64 (XE 16 (l.take i))),.d (.bool false)]/\i<=l.length/\XE 16 (l.take i)<18446744073709551616,muI l.length⟩)],0,false,sM,Ta rfl,wN ?_⟩;refine ZBC (fun h0=>wN ?_) (fun h0=>wN ?_)
   ·exact d8 h0
   have an:l≠[]:=h0;have s8:=nk an;have lb:=dj an;refine Or.inl ⟨InR.u64 oM oM,wN ?_⟩;refine ⟨dM,Or.inr ?_⟩;rw [show IntKind.u64.wrap (1 * 2 ^ min (Int.toNat 64) IntKind.u64.bits)=0 from dM];(conv=>whnf);refine Or.inr ?_;rw [show IntKind.u64.wrap (0 - 1)=18446744073709551615 from dM];(conv=>whnf);refine ⟨⟨rfl,0,rfl,oM,by simp [XE]⟩,?_⟩;intro vs σ1 hI
   obtain ⟨rfl,i,rfl,hi,hN⟩:=hI;have ak:=U1 16 oM l;have az:=fun h:i<l.length=>Za0 16 (l.take i) (l.getD i 0)
   generalize hNN:XE 16 (l.take i)=N at hN az |-;(conv=>whnf);refine ZBC (fun h2=>?_) (fun h2=>wN ?_)
   ·have cq:i<l.length:=by simpa using h2
    have jr:(l.map fun b=>[D.int .u8 (b.toNat:Int)])[((i:Int)).toNat]?=some [D.int .u8 ((l.getD i 0).toNat:Int)]:=by
     rw [Tu,TL,Ti cq];simp [List.getD,cq]
    have hd:Xz true (l.getD i 0)=true:=Tm.1 cd _ (by rw [TY,Ti cq];exact TD cq);have hs:=az cq;rw [<- Za1 cq] at hs;have dx:=ak (i+1);have hb:=(l.getD i 0).toNat_lt;generalize nd:l.getD i 0=b at jr hd hs hb;(conv=>whnf);refine ⟨_,oM,jr,wN ?_⟩;refine ZBC (fun h3=>?_) (fun h3=>wN ?_)
    ·have du:b.toNat=95:=by omega
     simp [Xz,Zl,du] at hd
    refine ZBC (fun h4=>wN ?_) (fun h4=>?_)
    ·refine ZBC (fun h5=>wN ?_) (fun h5=>?_)
     ·refine Or.inl ⟨InR.u8 oM oM,wN ?_⟩;have hD:(Zax b:Int)=(b.toNat:Int) - 48:=by unfold Zax;rw [Tg oM];omega
      refine Or.inl ⟨InR.u8 oM oM,wN ?_⟩;refine ZBC (fun h6=>?_) (fun h6=>wN ?_)
      ·omega
      refine ZBC (fun h7=>wN ?_) (fun h7=>wN ?_)
      ·exact s8 oM
      refine Or.inl ⟨InR.u64 oM oM,wN ?_⟩;refine Or.inl ⟨InR.u64 oM oM,wN ?_⟩;refine Or.inl ⟨InR.u64 oM oM,wN ?_⟩
      by_cases et:(N:Int) * 16+((b.toNat:Int) - 48)<=18446744073709551615
      ·refine Or.inl ⟨InR.u64 oM oM,wN ?_⟩;refine ZBC (fun h8=>?_) (fun h8=>wN ?_)
       ·omega
       refine ZBC (fun h9=>wN ?_) (fun h9=>wN ?_)
       ·exact s8 oM
       refine Or.inl ⟨InR.i64 oM oM,wN ?_⟩;refine ⟨⟨rfl,i+1,?_,oM,oM⟩,?_⟩
       ·have e:((XE 16 (l.take (i+1)):Nat):Int)=(N:Int) * 16+((b.toNat:Int) - 48):=by omega
        rw [e];rfl
       exact m231
      have hw:IntKind.u64.wrap ((N:Int) * 16+((b.toNat:Int) - 48))=(N:Int) * 16+((b.toNat:Int) - 48) - 18446744073709551616:=by
       exact m81
      exact m73
     skip
     exact m17
    skip
    exact m17
   exact m163
  | false =>
  simp only [if_true,To,if_false] at nk dj |-;refine ⟨Za [(36,⟨[101,13,12],[0,1,8,10,11,99,100],fun vs σ=>σ=⟨[],[],0⟩/\∃i:Nat,vs=[.d (.int .i64 i),.d (.int .u64 (XE 10 (l.take i))),.d (.bool false)]/\i<=l.length/\XE 10 (l.take i)<9223372036854775808,muI l.length⟩)],0,false,sM,Ta rfl,wN ?_⟩;refine ZBC (fun h0=>wN ?_) (fun h0=>wN ?_)
  ·exact d8 h0
  have an:l≠[]:=h0;have s8:=nk an;have lb:=dj an;refine Or.inl ⟨InR.u64 oM oM,wN ?_⟩;refine ⟨dM,Or.inr ?_⟩;rw [show IntKind.u64.wrap (1 * 2 ^ min (Int.toNat 63) IntKind.u64.bits)=9223372036854775808 from dM];(conv=>whnf);refine Or.inr ?_;rw [show IntKind.u64.wrap (9223372036854775808 - 1)=9223372036854775807 from dM];(conv=>whnf);refine ⟨⟨rfl,0,rfl,oM,by simp [XE]⟩,?_⟩;intro vs σ1 hI
  obtain ⟨rfl,i,rfl,hi,hN⟩:=hI;have ak:=U1 10 oM l;have az:=fun h:i<l.length=>Za0 10 (l.take i) (l.getD i 0)
  generalize hNN:XE 10 (l.take i)=N at hN az |-;(conv=>whnf);refine ZBC (fun h2=>?_) (fun h2=>wN ?_)
  ·have cq:i<l.length:=by simpa using h2
   have jr:(l.map fun b=>[D.int .u8 (b.toNat:Int)])[((i:Int)).toNat]?=some [D.int .u8 ((l.getD i 0).toNat:Int)]:=by
    rw [Tu,TL,Ti cq];simp [List.getD,cq]
   have hd:Xz false (l.getD i 0)=true:=Tm.1 cd _ (by rw [TY,Ti cq];exact TD cq);have hs:=az cq;rw [<- Za1 cq] at hs;have dx:=ak (i+1);have hb:=(l.getD i 0).toNat_lt;generalize nd:l.getD i 0=b at jr hd hs hb;(conv=>whnf);refine ⟨_,oM,jr,wN ?_⟩;refine ZBC (fun h3=>?_) (fun h3=>wN ?_)
   ·have du:b.toNat=95:=by omega
    simp [Xz,Zl,du] at hd
   have hd':48<=b.toNat/\b.toNat<=57:=by
    simp only [Xz,TU,T8,Zl,TG] at hd;omega
   refine ZBC (fun h4=>wN ?_) (fun h4=>?_)
   ·refine ZBC (fun h5=>wN ?_) (fun h5=>?_)
    ·refine Or.inl ⟨InR.u8 oM oM,wN ?_⟩;have hD:(Zax b:Int)=(b.toNat:Int) - 48:=by unfold Zax;rw [Tg oM];omega
     refine Or.inl ⟨InR.u8 oM oM,wN ?_⟩;refine ZBC (fun h6=>?_) (fun h6=>wN ?_)
     ·omega
     refine ZBC (fun h7=>wN ?_) (fun h7=>wN ?_)
     ·exact s8 oM
     refine Or.inl ⟨InR.u64 oM oM,wN ?_⟩;refine Or.inl ⟨InR.u64 oM oM,wN ?_⟩;refine Or.inl ⟨InR.u64 oM oM,wN ?_⟩
     by_cases et:(N:Int) * 10+((b.toNat:Int) - 48)<=18446744073709551615
     ·refine Or.inl ⟨InR.u64 oM oM,wN ?_⟩;refine ZBC (fun h8=>?_) (fun h8=>wN ?_)
      ·omega
      refine ZBC (fun h9=>wN ?_) (fun h9=>wN ?_)
      ·exact s8 oM
      refine Or.inl ⟨InR.i64 oM oM,wN ?_⟩;refine ⟨⟨rfl,i+1,?_,oM,oM⟩,?_⟩
      ·have e:((XE 10 (l.take (i+1)):Nat):Int)=(N:Int) * 10+((b.toNat:Int) - 48):=by omega
       rw [e];rfl
      exact m231
     have hw:IntKind.u64.wrap ((N:Int) * 10+((b.toNat:Int) - 48))=(N:Int) * 10+((b.toNat:Int) - 48) - 18446744073709551616:=by
      exact m81
     exact m73
    omega
   omega
  exact m163
 exact h.elim
theorem Zt2:∀n:Fin 64,Zm .or .u8 128 (n.val:Int)=128+n.val:=by rw [Yz];decide +kernel
theorem Zt3:∀n:Fin 32,Zm .or .u8 192 (n.val:Int)=192+n.val:=by rw [Yz];decide +kernel
theorem Zt4:∀n:Fin 16,Zm .or .u8 224 (n.val:Int)=224+n.val:=by rw [Yz];decide +kernel
theorem Zt5:∀n:Fin 8,Zm .or .u8 240 (n.val:Int)=240+n.val:=by rw [Yz];decide +kernel
theorem Zt6:∀n:Fin 256,Zm .and .u8 (n.val:Int) 63=n.val % 64:=by rw [Yz];decide +kernel
theorem ZsI {x:Int} (h0:0<=x) (h1:x<64):Zm .or .u8 128 x=128+x:=by obtain ⟨n,rfl⟩:∃n:Nat,x=n:=⟨x.toNat,oM⟩;exact Zt2 ⟨n,oM⟩
theorem ZA4 {x:Int} (h0:0<=x) (h1:x<32):Zm .or .u8 192 x=192+x:=by obtain ⟨n,rfl⟩:∃n:Nat,x=n:=⟨x.toNat,oM⟩;exact Zt3 ⟨n,oM⟩
theorem ZAA {x:Int} (h0:0<=x) (h1:x<16):Zm .or .u8 224 x=224+x:=by obtain ⟨n,rfl⟩:∃n:Nat,x=n:=⟨x.toNat,oM⟩;exact Zt4 ⟨n,oM⟩
theorem ZA5 {x:Int} (h0:0<=x) (h1:x<8):Zm .or .u8 240 x=240+x:=by obtain ⟨n,rfl⟩:∃n:Nat,x=n:=⟨x.toNat,oM⟩;exact Zt5 ⟨n,oM⟩
theorem a63 {x:Int} (h0:0<=x) (h1:x<256):Zm .and .u8 x 63=x % 64:=by obtain ⟨n,rfl⟩:∃n:Nat,x=n:=⟨x.toNat,oM⟩;rw [Zt6 ⟨n,oM⟩]
theorem wu8 (n:Int):IntKind.u8.wrap n=n % 256:=by simp [IntKind.wrap,IntKind.bits,IntKind.signed]
theorem W2 (c:Int):Zj (Lib.encodeRune c)=(Lib.encodeRuneZ c).map fun x=>[D.int .u8 x]:=by
 have h:=Lib.encodeRuneZ_byte c;unfold Lib.encodeRune Zj
 rw [List.map_map];refine Su fun x hx=>?_
 have:=h x hx;simp [UInt8.toNat_ofNat'];omega
noncomputable def U2:Zt:=fun args σ K=>match args,σ with
 | [.sl 0 e rows,.d (.int .i32 c)],⟨[],[0],1⟩=>(e=5/\(∀r∈rows,r.length=1)/\rows.length<70368744177664/\0<=c/\c<=1114111)/\K (.ret (.sl 0 5 (rows++Zj (Lib.encodeRune c)))) ⟨[],[0],1⟩
 | _,_=>False
noncomputable def UA:Zt:=fun args σ K=>match args,σ with
 | [.sl 0 e rows,.d (.int .i32 c)],⟨[],[0],1⟩=>(e=5/\(∀r∈rows,r.length=1)/\rows.length<70368744177664/\128<=c/\c<=1114111)/\K (.ret (.sl 0 5 (rows++Zj (Lib.encodeRune c)))) ⟨[],[0],1⟩
 | _,_=>False
theorem Zei:PC w0 nG 232 UA:=by
 refine Zd Zb mixed (tbl:=[]) trivial Tryz.func232 rfl kR kR ?_;intro args σ K h
 unfold UA at h
 split at h
 ·rename_i e rows c
  obtain ⟨⟨rfl,ae,qp,gi,dl⟩,h⟩:=h;refine ⟨Za [],0,true,sM,Ta rfl,wN ?_⟩;have e6:c.fdiv (2 ^ min (Int.toNat 6) IntKind.i32.bits)=c / 64:=by rw [show (2:Int) ^ min (Int.toNat 6) IntKind.i32.bits=64 by decide];exact Sr _ oM
  have e12:c.fdiv (2 ^ min (Int.toNat 12) IntKind.i32.bits)=c / 4096:=by rw [show (2:Int) ^ min (Int.toNat 12) IntKind.i32.bits=4096 by decide];exact Sr _ oM
  have e18:c.fdiv (2 ^ min (Int.toNat 18) IntKind.i32.bits)=c / 262144:=by rw [show (2:Int) ^ min (Int.toNat 18) IntKind.i32.bits=262144 by decide];exact Sr _ oM
  refine Or.inl ⟨InR.u32 oM oM,wN ?_⟩;refine ZBC (fun h1=>?_) (fun h1=>wN ?_)
  ·skip
   have g:K (.ret (.sl 0 5 (rows++[[D.int .u8 (Zm .or .u8 192 (IntKind.u8.wrap (c.fdiv (2 ^ min (Int.toNat 6) IntKind.i32.bits))))],[D.int .u8 (Zm .or .u8 128 (Zm .and .u8 (IntKind.u8.wrap (c)) 63))]]))) ⟨[],[0],1⟩:=by
    have e:Zj (Lib.encodeRune c)=[[D.int .u8 (Zm .or .u8 192 (IntKind.u8.wrap (c.fdiv (2 ^ min (Int.toNat 6) IntKind.i32.bits))))],[D.int .u8 (Zm .or .u8 128 (Zm .and .u8 (IntKind.u8.wrap (c)) 63))]]:=by
     rw [W2,Lib.encodeRuneZ_two gi oM];simp only [e6,e12,e18,wu8,TN,TQ];rw [ZA4 oM oM,a63 oM oM,ZsI oM oM,show c / 64 % 256=c / 64 by omega,show c % 256 % 64=c % 64 by omega]
     all_goals (try omega)
     (try (congr 1 <;> omega))
    rw [e] at h;exact h
   conv=>whnf
   refine ⟨dM,wN ?_⟩;refine Or.inr (wN ?_);refine Or.inr (wN ?_);refine ⟨fun r hr=>by (simp at hr;rcases hr with rfl | rfl <;> rfl),(show (rows.length+2) * 1<=2 ^ 47 by omega),(show rows.length+2<=2 ^ 47 by omega),?_⟩;(conv=>whnf);exact g
  refine ZBC (fun h2=>wN ?_) (fun h2=>wN ?_)
  ·refine ZBC (fun cq=>wN ?_) (fun cq=>absurd h2 cq);have g:K (.ret (.sl 0 5 (rows++[[D.int .u8 (Zm .or .u8 224 (IntKind.u8.wrap (c.fdiv (2 ^ min (Int.toNat 12) IntKind.i32.bits))))],[D.int .u8 (Zm .or .u8 128 (Zm .and .u8 (IntKind.u8.wrap (c.fdiv (2 ^ min (Int.toNat 6) IntKind.i32.bits))) 63))],[D.int .u8 (Zm .or .u8 128 (Zm .and .u8 (IntKind.u8.wrap (c)) 63))]]))) ⟨[],[0],1⟩:=by
    exact m46
   exact m239
  refine ZBC (fun h3=>wN ?_) (fun h3=>wN ?_)
  ·refine ZBC (fun h4=>?_) (fun h4=>wN ?_)
   ·skip
    have g:K (.ret (.sl 0 5 (rows++[[D.int .u8 (Zm .or .u8 224 (IntKind.u8.wrap (c.fdiv (2 ^ min (Int.toNat 12) IntKind.i32.bits))))],[D.int .u8 (Zm .or .u8 128 (Zm .and .u8 (IntKind.u8.wrap (c.fdiv (2 ^ min (Int.toNat 6) IntKind.i32.bits))) 63))],[D.int .u8 (Zm .or .u8 128 (Zm .and .u8 (IntKind.u8.wrap (c)) 63))]]))) ⟨[],[0],1⟩:=by
     exact m46
    conv=>whnf
    exact m239
   refine ZBC (fun h5=>wN ?_) (fun h5=>?_)
   ·refine ZBC (fun h6=>?_) (fun h6=>?_)
    ·skip
     have g:K (.ret (.sl 0 5 (rows++[[D.int .u8 (Zm .or .u8 240 (IntKind.u8.wrap (c.fdiv (2 ^ min (Int.toNat 18) IntKind.i32.bits))))],[D.int .u8 (Zm .or .u8 128 (Zm .and .u8 (IntKind.u8.wrap (c.fdiv (2 ^ min (Int.toNat 12) IntKind.i32.bits))) 63))],[D.int .u8 (Zm .or .u8 128 (Zm .and .u8 (IntKind.u8.wrap (c.fdiv (2 ^ min (Int.toNat 6) IntKind.i32.bits))) 63))],[D.int .u8 (Zm .or .u8 128 (Zm .and .u8 (IntKind.u8.wrap (c)) 63))]]))) ⟨[],[0],1⟩:=by
      have e:Zj (Lib.encodeRune c)=[[D.int .u8 (Zm .or .u8 240 (IntKind.u8.wrap (c.fdiv (2 ^ min (Int.toNat 18) IntKind.i32.bits))))],[D.int .u8 (Zm .or .u8 128 (Zm .and .u8 (IntKind.u8.wrap (c.fdiv (2 ^ min (Int.toNat 12) IntKind.i32.bits))) 63))],[D.int .u8 (Zm .or .u8 128 (Zm .and .u8 (IntKind.u8.wrap (c.fdiv (2 ^ min (Int.toNat 6) IntKind.i32.bits))) 63))],[D.int .u8 (Zm .or .u8 128 (Zm .and .u8 (IntKind.u8.wrap (c)) 63))]]:=by
       rw [W2,Lib.encodeRuneZ_four oM oM];simp only [e6,e12,e18,wu8,TN,TQ];rw [ZA5 oM oM,a63 oM oM,a63 oM oM,a63 oM oM,ZsI oM oM,ZsI oM oM,ZsI oM oM,show c / 262144 % 256=c / 262144 by omega,show c / 4096 % 256 % 64=c / 4096 % 64 by omega,show c / 64 % 256 % 64=c / 64 % 64 by omega,show c % 256 % 64=c % 64 by omega]
       all_goals (try omega)
       (try (congr 1 <;> omega))
      rw [e] at h;exact h
     conv=>whnf
     refine ⟨dM,wN ?_⟩;refine Or.inr (wN ?_);refine ⟨dM,wN ?_⟩;refine Or.inr (wN ?_);refine ⟨dM,wN ?_⟩;refine Or.inr (wN ?_);refine Or.inr (wN ?_);refine ⟨fun r hr=>by (simp at hr;rcases hr with rfl | rfl | rfl | rfl <;> rfl),(show (rows.length+4) * 1<=2 ^ 47 by omega),(show rows.length+4<=2 ^ 47 by omega),?_⟩;(conv=>whnf);exact g
    omega
   omega
  refine ZBC (fun h5=>?_) (fun h5=>?_)
  ·omega
  skip
  have g:K (.ret (.sl 0 5 (rows++[[D.int .u8 (239)],[D.int .u8 (191)],[D.int .u8 (189)]]))) ⟨[],[0],1⟩:=by
   have e:Zj (Lib.encodeRune c)=[[D.int .u8 (239)],[D.int .u8 (191)],[D.int .u8 (189)]]:=by
    rw [W2,Lib.encodeRuneZ_bad oM];rfl
   rw [e] at h;exact h
  conv=>whnf
  exact m72
 exact h.elim
noncomputable def Zzm:Tbl:=[(232,UA)]
theorem ZfT:PC w0 nG 185 U2:=by
 refine Zd Zb mixed (tbl:=Zzm) ⟨Zei,trivial⟩ Tryz.func185 rfl kR kR ?_;intro args σ K h
 unfold U2 at h
 split at h
 ·rename_i e rows c
  obtain ⟨⟨rfl,ae,qp,gi,dl⟩,h⟩:=h;refine ⟨Za [],0,true,sM,Ta rfl,wN ?_⟩;refine Or.inl ⟨InR.u32 oM oM,wN ?_⟩;refine ZBC (fun h1=>wN ?_) (fun h1=>wN ?_)
  ·have e:Zj (Lib.encodeRune c)=[[D.int .u8 c]]:=by rw [W2,Lib.encodeRuneZ_one gi h1];rfl
   rw [e] at h;refine Or.inl ⟨InR.u8 oM oM,wN ?_⟩;exact m79
  refine ⟨⟨rfl,ae,oM,oM,oM⟩,wN ?_⟩;exact h
 exact h.elim
theorem ZqV:TO w0 nG [(166,Uy)]:=⟨Zcj,trivial⟩
theorem Zck:PC w0 nG 125 Uu:=by
 refine Zd Zb mixed ZqV Tryz.func125 rfl kR kR ?_;intro args σ K h
 unfold Uu at h
 split at h
 ·rename_i c t p e rows
  obtain ⟨⟨hp,rfl,rfl,ae,qp⟩,h⟩:=h;refine ⟨Za [],1,true,sM,Ta rfl,?_⟩;rcases hp with rfl | rfl
  ·conv=>whnf
   refine ⟨⟨.inl rfl,rfl⟩,wN ?_⟩;exact m79
  conv=>whnf
  refine ⟨⟨.inr rfl,rfl⟩,wN ?_⟩;exact m79
 exact h.elim
theorem Zzo (c:Int):(Lib.encodeRune c).length<=4:=by unfold Lib.encodeRune;rw [Te];exact (Lib.encodeRuneZ_length c).2
theorem ZqW:TO w0 nG [(166,Uy),(185,U2)]:=⟨Zcj,ZfT,trivial⟩
theorem Zcl:PC w0 nG 127 Uv:=by
 refine Zd Zb mixed ZqW Tryz.func127 rfl kR kR ?_;intro args σ K h
 unfold Uv at h
 split at h
 ·rename_i c t p e rows
  obtain ⟨⟨hp,rfl,rfl,ae,qp,gi,dl⟩,h⟩:=h;refine ⟨Za [],1,true,sM,Ta rfl,?_⟩;rcases hp with rfl | rfl
  ·conv=>whnf
   refine ⟨⟨.inl rfl,rfl⟩,wN ?_⟩;refine ⟨⟨rfl,ae,qp,gi,dl⟩,wN ?_⟩;refine Or.inl ⟨InR.i64 (by rw [Tb,XP];have:=Lib.encodeRuneZ_length c;omega) (by rw [Tb,XP];have:=Zzo c;omega),wN ?_⟩;exact h
  conv=>whnf
  refine ⟨⟨.inr rfl,rfl⟩,wN ?_⟩;refine ⟨⟨rfl,ae,qp,gi,dl⟩,wN ?_⟩;refine Or.inl ⟨InR.i64 (by rw [Tb,XP];omega) (by rw [Tb,XP];have:=Zzo c;omega),wN ?_⟩;exact h
 exact h.elim
noncomputable def Zah:Zt:=fun args σ K=>match args with
 | [.d (.int .i32 c)]=>K (.ret (.d (.bool (Lib.validRune c)))) σ
 | _=>False
theorem ZwY (c:Int) (h:128<=c) (h2:c<=1114111):2<=(Utf8.encode c).data.toList.length/\(Utf8.encode c).data.toList.length<=4/\∀b∈(Utf8.encode c).data.toList,128<=b.toNat:=by
 unfold Utf8.encode
 simp only;generalize hn:(if Utf8.valid c then c.toNat else Utf8.runeError)=n;have ik:128<=n/\n<=1114111:=by
  rw [<- hn];split
  ·omega
  simp [Utf8.runeError]
 rw [Tc oM];split
 ·simp [UInt8.toNat_ofNat'];omega
 split
 ·simp [UInt8.toNat_ofNat'];omega
 simp [UInt8.toNat_ofNat'];omega
theorem Znp {l:Bs} {c:UInt8} (h:∀b∈l,b.toNat<128) (hc:128<=c.toNat):Lib.indexByte l c=-1:=by
 induction l with
 | nil=>rfl
 | cons b l ih =>
 have h1:=ih (fun x hx=>h x (Tx _ hx));have h2:(b == c)=false:=by
  simp only [beq_eq_false_iff_ne];intro e;subst e;have:=h b sM;omega
 simp [Lib.indexByte,h1,h2]
theorem ZqX {s:Bs} (h:∀b∈s,b.toNat<128) (i:Nat):(s.getD i 0).toNat<128:=by
 rw [TY]
 by_cases hi:i<s.length
 ·rw [Ti hi];exact h _ (TD hi)
 rw [Sk oM];decide
theorem Znq {s:Bs} (h:∀b∈s,128<=b.toNat) {i:Nat} (hi:i<s.length):128<=(s.getD i 0).toNat:=by
 rw [TY,Ti hi];exact h _ (TD hi)
theorem Zzq {n:Int} {k:Nat} (h:n=k) (hk:k<256):(n.toNat.toUInt8).toNat=k:=by
 subst h;simp [UInt8.toNat_ofNat'];omega
theorem Zhi (ht:TO w0 nG [(181,Vc),(182,Zah)]):PC w0 nG 126 Ve:=by
 refine Zd Zb mixed ht Tryz.func126 rfl kR kR ?_;intro args σ K h
 unfold Ve at h
 split at h
 ·rename_i s c
  obtain ⟨⟨hs,gi,dl⟩,h⟩:=h;have gk:s.length=4:=by rcases hs with rfl | rfl <;> rfl
  have hsa:∀b∈s,b.toNat<128:=by rcases hs with rfl | rfl <;> decide
  have xg:∀p,p<4->(decodeL s p).1<128/\(decodeL s p).2=1:=by
   intro p hp
   rcases hs with rfl | rfl
   all_goals (match p,hp with | 0,_=>exact ⟨dM,dM⟩ | 1,_=>exact ⟨dM,dM⟩ | 2,_=>exact ⟨dM,dM⟩ | 3,_=>exact ⟨dM,dM⟩)
  refine ⟨Za [(38,⟨[],[0,175],fun vs σ=>vs=[]/\∃p:Nat,p<=4/\σ=⟨[.iter s p],[],0⟩,fun _ σ=>match σ.bx with | [.iter _ p]=>4 - p | _=>0⟩),
    (5,⟨[9],[0,1,7,8],fun vs σ=>σ=⟨[],[],0⟩/\vs=[.d (.int .i64 (((Utf8.encode c).data.toList.length:Int) - 1))],fun _ _=>0⟩)],0,false,sM,Ta rfl,?_⟩
  have pn:128<=c->K (.ret (.d (.int .i64 (-1)))) ⟨[],[],0⟩:=fun g=>by
   have:Zdo s c=-1:=by unfold Zdo;rw [Tc oM]
   rw [this] at h;exact h
  conv=>whnf
  refine ZBC (fun h1=>wN ?_) (fun h1=>?_)
  ·refine ZBC (fun h2=>wN ?_) (fun h2=>wN ?_)
   ·have e:Zdo s c=Lib.indexByte s c.toNat.toUInt8:=by unfold Zdo;rw [Tg h2]
    rw [e] at h;refine Or.inl ⟨InR.u8 oM oM,wN ?_⟩;exact h
   refine ZBC (fun h3=>wN ?_) (fun h3=>wN ?_)
   ·refine ⟨⟨rfl,0,oM,rfl⟩,?_⟩;intro vs σ1 hI
    obtain ⟨rfl,p,hp,rfl⟩:=hI;(conv=>whnf);refine ZBC (fun h4=>wN ?_) (fun h4=>wN ?_)
    ·have hd:=xg p oM;refine ZBC (fun h5=>?_) (fun h5=>wN ?_)
     ·omega
     refine ⟨⟨rfl,p+1,oM,by rw [hd.2];rfl⟩,?_⟩;exact (show 4 - (p+(decodeL s p).2)<4 - p by omega)
    exact pn oM
   refine ZBF (fun h4=>wN ?_) (fun h4=>wN ?_)
   ·exact pn oM
   obtain ⟨e1,e2,e3⟩:=ZwY c oM dl;have hl:=Znq e3 (i:=(Utf8.encode c).data.toList.length - 1) oM;refine Or.inl ⟨InR.i64 oM oM,wN ?_⟩;refine ⟨⟨rfl,rfl⟩,?_⟩;intro vs σ1 hI
   obtain ⟨rfl,rfl⟩:=hI;(conv=>whnf);refine ZBC (fun h5=>wN ?_) (fun h5=>?_)
   ·refine ⟨oM,oM,wN ?_⟩;refine ⟨oM,oM,wN ?_⟩;have sa:=ZqX hsa (((Utf8.encode c).data.toList.length:Int) - 1).toNat;have sb:128<=((Utf8.encode c).data.toList.getD (((Utf8.encode c).data.toList.length:Int) - 1).toNat 0).toNat:=Znq e3 oM;refine ZBE (fun h6=>wN ?_) (fun h6=>?_)
    ·refine Or.inl ⟨InR.i64 oM oM,wN ?_⟩;refine ⟨oM,oM,wN ?_⟩;refine ⟨oM,oM,wN ?_⟩;generalize hx:Lib.indexByte _ _=x;have:x=-1:=by
      rw [<- hx];refine Znp (fun b hb=>hsa b (List.mem_of_mem_take (List.mem_of_mem_drop hb))) ?_;rw [Zzq rfl (UInt8.toNat_lt _)];exact sb
     subst this;(conv=>whnf);exact pn oM
    omega
   omega
  omega
 exact h.elim
noncomputable def ZwZ:Tbl:=[(281,Zzj),(282,Zds)]
theorem Zhj (hg:GlobOK w0 nG):PC w0 nG 274 Zad:=by
 refine Zd Zb mixed (tbl:=ZwZ) ⟨Zzl,ZlE hg,trivial⟩ Tryz.func274 rfl kR kR ?_;intro args σ K h
 unfold Zad at h
 split at h
 ·rename_i l base bits
  obtain ⟨gj,⟨hl,rfl,rfl⟩,dk,dj⟩:=h;refine ⟨Za [],0,false,sM,Ta rfl,wN ?_⟩;refine ⟨gj,⟨hl,rfl,rfl⟩,fun h0=>?_,fun h0 h1=>?_,fun h0 h1=>?_⟩
  ·conv=>whnf
   refine ⟨⟨.inr rfl,hl.2⟩,wN ?_⟩;exact dk (.inl h0) _
  ·conv=>whnf
   refine ⟨⟨.inl rfl,hl.2⟩,wN ?_⟩;exact dk (.inr h1) _
  conv=>whnf
  exact dj (by simp only [not_or];exact ⟨h0,h1⟩)
 exact h.elim
theorem Znr:PC w0 nG 154 Zci:=ZtP ⟨ZlB,VA,trivial⟩
theorem Zzs:PC w0 nG 252 ZjF:=ZtR ⟨VA,U0,trivial⟩
theorem Zw0:PC w0 nG 156 Zg4:=ZtT ⟨Znr,ZaS,ZfM,trivial⟩
theorem Zw1 (hg:GlobOK w0 nG):PC w0 nG 220 ZbD:=ZqH ⟨ZiD,VA,U0,ZqO (by have:=hg.big;omega) hg.maxLen,trivial⟩
theorem Zt7 (hg:GlobOK w0 nG):PC w0 nG 254 ZcF:=Znc ⟨VA,ZfM,Zhj hg,Znr,ZaS,trivial⟩
theorem Zhk:PC w0 nG 182 Zah:=Y5 (Zn Tryz.func182 kR rfl) fun args σ K h e w vs hS ha=>by
 unfold Zah at h
 split at h
 ·obtain ⟨u,rfl,hu⟩:=Zhb ha
  cases hu.dint
  exact ⟨_,h,_,fun _ _=>.mkbool,(Tryz.utf8_ValidRune _ w).mono fun en w' ⟨h1,h2⟩=>⟨h1,by rw [h2];exact Grows.refl _⟩⟩
 exact h.elim
theorem Ze2:PC w0 nG 126 Ve:=Zhi ⟨U0,Zhk,trivial⟩
theorem Zzt:PC w0 nG 253 ZjG:=ZtV ⟨Ze2,Zck,Znr,Zcl,Zhf,trivial⟩
theorem Zzu (hg:GlobOK w0 nG):PC w0 nG 221 ZeW:=ZtX ⟨Znr,Zzs,ZaS,ZfM,Zzt,Zt7 hg,Zw0,trivial⟩
theorem Zzv (hg:GlobOK w0 nG):TO w0 nG ZfO:=⟨Zw1 hg,Zzu hg,trivial⟩
theorem Zt8 (hg:GlobOK w0 nG):PC w0 nG 110 ZaX:=Znl (Zzv hg) ⟨ZwU,trivial⟩
def ZiH (s:Bs):Bool:=Zi (pk s).1 && decide (XD s=s.length)
noncomputable def Zai:Zt:=fun args σ K=>match args,σ with
 | [.d (.str s)],⟨[],[],0⟩=>s.length<4294967281/\K (.ret (.d (.bool (ZiH s)))) ⟨[],[],0⟩
 | _,_=>False
noncomputable def Zw2:Tbl:=[(135,Zag),(136,ZfQ)]
theorem Zw3:PC w0 nG 71 Zai:=by
 refine Zd Zb mixed (tbl:=Zw2) ⟨ZaZ,ZjL,trivial⟩ Tryz.func71 rfl kR kR ?_;intro args σ K h
 unfold Zai at h
 split at h
 ·rename_i s
  obtain ⟨hs,h⟩:=h;refine ⟨Za [],0,false,dM,Ta rfl,wN ?_⟩;refine ⟨⟨oM,hs⟩,wN ?_⟩;refine ZBF (fun h1=>wN ?_) (fun h1=>wN ?_)
  ·have ji:Zi (pk s).1=false:=by simpa using h1
   rw [ZiH,ji] at h;exact h
  have ji:Zi (pk s).1=true:=by simpa using h1
  refine ⟨⟨oM,oM,hs,by simpa using ji⟩,wN ?_⟩;refine ZaR h ?_;rw [ZiH,ji,Tt,decide_eq_decide];have:s.drop (Int.toNat 0)=s:=Sl;rw [this];omega
 exact h.elim
theorem Zzx (ht:TO w0 nG [(154,Zci),(155,Jo),(156,Zg4)]):PC w0 nG 88 Zai:=by
 refine Zd Zb mixed ht Tryz.func88 rfl kR kR ?_;intro args σ K h
 unfold Zai at h
 split at h
 ·rename_i s
  obtain ⟨hs,h⟩:=h;refine ⟨Za [],0,false,dM,Ta rfl,wN ?_⟩;have eg:=Ww (s.drop (Int.toNat 0));have hd:s.drop (Int.toNat 0)=s:=Sl;refine ⟨⟨oM,oM⟩,wN ?_⟩;refine ⟨⟨eg.1,oM⟩,wN ?_⟩;refine ZBF (fun h1=>wN ?_) (fun h1=>wN ?_)
  ·have ji:Zi (pk s).1=true:=by rw [<- hd];exact h1
   refine ⟨⟨oM,oM,hs⟩,wN ?_⟩;refine ZaR h ?_;rw [ZiH,ji,Tt,decide_eq_decide,hd];omega
  have ji:Zi (pk s).1=false:=by rw [<- hd];exact h1
  rw [ZiH,ji] at h;exact h
 exact h.elim
def YL (s:Bs):Bool:=ZiH s && (!decide (s=[95]) && !Zbn s)
def ZI (op:Nat):Nat:=if op=16 then 0 else if op=17 then 0 else if op=15 then 1 else if op=18 then 2 else if op=19 then 2 else if op=10 then 3 else if op=11 then 3 else if op=12 then 4 else if op=13 then 4 else if op=14 then 4
 else if op=8 then 5 else if op=9 then 5 else if op=20 then 6 else if op=21 then 6 else if op=22 then 6 else if op=23 then 6 else if op=24 then 6 else if op=25 then 6 else if op=6\/op=7 then 6 else if op=1\/op=2\/op=3\/op=4\/op=5 then 6 else 0
def Yc (op:Nat):Bs:=if op=16 then [98,111,114] else if op=17 then [98,120,111,114] else if op=15 then [98,97,110,100] else if op=18 then [115,104,108] else if op=19 then [115,104,114] else if op=10 then [43] else if op=11 then [45] else if op=12 then [42] else if op=13 then [47] else if op=14 then [37]
 else if op=8 then [45] else if op=9 then [126] else if op=20 then [99,97,116] else if op=21 then [115,116,114,108,101,110] else if op=22 then [115,117,98,115,116,114] else if op=23 then [99,111,100,101] else if op=24 then [115,116,114] else if op=25 then [110,117,109] else []
def Yq (op:Nat):Int:=if op=16 then 2 else if op=17 then 2 else if op=15 then 2 else if op=18 then 2 else if op=19 then 2 else if op=10 then 2 else if op=11 then 2 else if op=12 then 2 else if op=13 then 2 else if op=14 then 2
 else if op=8 then 1 else if op=9 then 1 else if op=20 then 2 else if op=21 then 1 else if op=22 then 3 else if op=23 then 1 else if op=24 then 1 else if op=25 then 1 else if op=6\/op=7 then -1 else if op=1\/op=2\/op=3\/op=4\/op=5 then 0 else -2
def Z7 (op:Nat) (text:Bs):Bool:=if op=1\/op=7 then YL text else if op=4 then (WC text).isSome else decide (text=[])
mutual
def ZV:Ex->Bool
 | .mk op text n args _=>decide (-2<Yq op) && ((decide (Yq op<0) || decide ((args.length:Int)=Yq op)) && ((decide (n=0) || decide (op=3)) && (Z7 op text && Zns args)))
def Zns:List Ex->Bool
 | []=>true
 | e::l=>ZV e && Zns l
end
theorem Zo (l:List Ex):Zns l=l.all ZV:=by induction l with | nil=>rfl | cons x l ih=>simp [Zns,ih]
def ZX (op:Nat) (rel:Bs) (args body:Nat):Bool :=
 if op=1\/op=2 then YL rel && !decide (0<body)
 else if 3<=op/\op<=8 then decide (rel=[]) && (decide (args=2) && !decide (0<body))
 else if op=9 then decide (rel=[]) && (decide (args=1) && decide (0<body))
 else if 9<op/\op<=12 then decide (rel=[]) && (decide (args=2) && decide (0<body)) else false
mutual
def ZY:Li->Bool
 | .mk op rel args body _=>ZX op rel args.length body.length && (Zns args && ZqY body)
def ZqY:List Li->Bool
 | []=>true
 | e::l=>ZY e && ZqY l
end
theorem Z4 (l:List Li):ZqY l=l.all ZY:=by induction l with | nil=>rfl | cons x l ih=>simp [ZqY,ih]
def Y0 (r:Ru):Bool:=YL r.head && (r.args.all ZV && r.body.all ZY)
def Yl (f:Fi):Bool:=YL f.name && YL f.typ
def YO (c:Ca):Bool:=YL c.name && c.fields.all Yl
def UM (t:Ty):Bool:=if t.kind=1 then YL t.base && (decide (t.fields.length=0) && decide (t.cases.length=0)) else if t.kind=2 then decide (t.base=[]) && decide (t.cases.length=0)
 else if t.kind=3 then decide (t.base=[]) && (decide (t.fields.length=0) && !decide (t.cases.length=0)) else false
def Z6 (t:Ty):Bool:=UM t && (YL t.name && (t.fields.all Yl && t.cases.all YO))
def Xu (d:Re):Bool:=YL d.name && d.fields.all Yl
def Xv (i:Ini):Bool:=YL i.name && (YL i.comp && i.types.all YL)
def X7 (o:Ov):Bool:=YL o.rel
mutual
def Za2:Un->Bool
 | .mk tys rels rules comps inits overs=>tys.all Z6 && (rels.all Xu && (rules.all Y0 && (ZjN comps && (inits.all Xv && overs.all X7))))
def Yd:Co->Bool
 | .mk nm ps base tys u _=>YL nm && (ps.all YL && (tys.all YL && (((decide (base=[]) && decide (tys.length=0)) || YL base) && Za2 u)))
def ZjN:List Co->Bool
 | []=>true
 | c::l=>Yd c && ZjN l
end
theorem X5 (l:List Co):ZjN l=l.all Yd:=by induction l with | nil=>rfl | cons x l ih=>simp [ZjN,ih]
def Zbl (d:Nat):UInt8:=if d<10 then UInt8.ofNat (48+d) else UInt8.ofNat (87+d)
def VN (base:Nat):Nat->Nat->Bs
 | 0,_=>[]
 | f+1,n=>if n<base then [Zbl n] else VN base f (n / base)++[Zbl (n % base)]
def XY (base n:Nat):Bs:=VN base (n+1) n
def Zdt (n:Int):Bs:=if n<0 then [48,120]++XY 16 (n+18446744073709551616).toNat else XY 10 n.toNat
def ZqZ (s:Bs):Bs:=(WC s).getD []
def Zh (sep:Bs):List Bs->Bs
 | []=>[]
 | [x]=>x
 | x::l=>x++(sep++Zh sep l)
def cmm:Bs:=[44,32]
def opE:Ex->Nat | .mk op _ _ _ _=>op
def Zmp (want:Nat) (p:Nat×Bs):Bs:=if p.1<want then [40]++(p.2++[41]) else p.2
def exA (w1 w2:Nat) (sep:Bs):List (Nat×Bs)->Bs
 | []=>[]
 | [a]=>Zmp w1 a
 | a::b::_=>Zmp w1 a++(sep++Zmp w2 b)
def exN (op:Nat) (text:Bs) (n:Int) (ps:List (Nat×Bs)):Bs :=
 if ZI op<5 then exA (ZI op) (ZI op+1) ([32]++(Yc op++[32])) ps
 else if ZI op=5 then Yc op++exA 5 5 [] ps
 else if Yc op≠[] then Yc op++([40]++(Zh cmm (ps.map Prod.snd)++[41]))
 else if op=6 then [91]++(Zh cmm (ps.map Prod.snd)++[93])
 else if op=7 then [36]++(text++(if ps.length=0 then [] else [40]++(Zh cmm (ps.map Prod.snd)++[41])))
 else if op=3 then Zdt n
 else if op=4 then ZqZ text
 else if op=5 then [110,105,108]
 else if op=2 then [95]
 else text
mutual
def exT:Ex->Bs
 | .mk op text n args _=>exN op text n (Zej args)
def Zej:List Ex->List (Nat×Bs)
 | []=>[]
 | e::l=>(ZI (opE e),exT e)::Zej l
end
theorem Znt (l:List Ex):Zej l=l.map fun e=>(ZI (opE e),exT e):=by induction l with | nil=>rfl | cons x l ih=>simp [Zej,ih]
theorem Js (l:List Ex):(Zej l).length=l.length:=by rw [Znt,Te]
def exW (want:Nat) (e:Ex):Bs:=Zmp want (ZI (opE e),exT e)
def Zhl (l:List Ex):List Bs:=l.map exT
theorem Y9 (l:List Ex):(Zej l).map Prod.snd=Zhl l:=by rw [Znt,List.map_map];rfl
def WG (fr fin:Bs) (l:List Ex):Bs:=fr++(Zh cmm (Zhl l)++fin)
def Znu (op:Nat):Bs:=if op=3 then [32,61,32] else if op=4 then [32,33,61,32] else if op=5 then [32,60,32] else if op=6 then [32,60,61,32] else if op=7 then [32,62,32] else [32,62,61,32]
def Zhm (op:Nat):Bs:=if op=9 then [99,111,117,110,116] else if op=10 then [115,117,109] else if op=11 then [109,105,110] else [109,97,120]
def Znv (l:List Ex):Bs:=(l.map fun e=>[32]++exT e).flatten
def Zhn:List Ex->Bs
 | []=>[]
 | e::_=>exT e
mutual
def liT:Li->Bs
 | .mk op rel args body _ =>
  if op=2 then [33]++(rel++WG [40] [41] args)
  else if op=1 then rel++WG [40] [41] args
  else if op<=8 then Zhn args++(Znu op++Zhn args.tail)
  else Zhn args++([32,61,32]++(Zhm op++(Znv args.tail++([32,58,32,123,32]++(Zh cmm (Zqm body)++[32,125])))))
def Zqm:List Li->List Bs
 | []=>[]
 | e::l=>liT e::Zqm l
end
theorem U3 (l:List Li):Zqm l=l.map liT:=by induction l with | nil=>rfl | cons x l ih=>simp [Zqm,ih]
def ruT (r:Ru):Bs:=r.head++(WG [40] [41] r.args++((if 0<r.body.length then [32,58,45,32]++Zh cmm (Zqm r.body) else [])++[46]))
def fiT (f:Fi):Bs:=f.name++([58,32]++f.typ)
def VB (fr:Bs) (l:List Fi) (fin:Bs):Bs:=fr++(Zh cmm (l.map fiT)++fin)
def UN (l:List Bs):Bs:=if l.length=0 then [] else [60]++(Zh cmm l++[62])
def caT (c:Ca):Bs:=VB (c.name++[32,123]) c.fields [125]
def tyT (t:Ty):Bs:=[116,121,112,101,32]++(t.name++((if t.kind=1 then [32,60,58,32]++t.base else if t.kind=2 then VB [32,61,32,91] t.fields [93] else [32,61,32]++Zh [32,124,32] (t.cases.map caT))++[10]))
def reT (d:Re):Bs:=VB ([100,101,99,108,32]++(d.name++[40])) d.fields [41]++((if d.inn then [32,105,110,112,117,116] else [])++((if d.out then [32,111,117,116,112,117,116] else [])++((if d.inl then [32,105,110,108,105,110,101] else [])++[10])))
def inT (i:Ini):Bs:=[105,110,105,116,32]++(i.name++([32,61,32]++(i.comp++(UN i.types++[10]))))
def ovT (o:Ov):Bs:=[111,118,101,114,114,105,100,101,32]++(o.rel++[10])
mutual
def unT:Un->Bs
 | .mk tys rels rules comps inits overs=>(tys.map tyT).flatten++((rels.map reT).flatten++((Zt9 comps).flatten++((inits.map inT).flatten++((overs.map ovT).flatten++(rules.map fun r=>ruT r++[10]).flatten))))
def coT:Co->Bs
 | .mk nm ps base tys u _=>[99,111,109,112,32]++(nm++(UN ps++((if base=[] then [] else [32,58,32]++(base++UN tys))++([32,123,10]++(unT u++[125,10])))))
def Zt9:List Co->List Bs
 | []=>[]
 | c::l=>coT c::Zt9 l
end
theorem Znw (l:List Co):Zt9 l=l.map coT:=by induction l with | nil=>rfl | cons x l ih=>simp [Zt9,ih]
def words24:List Bs:=[[116,121,112,101],[100,101,99,108],[105,110,112,117,116],[111,117,116,112,117,116],[105,110,108,105,110,101],[99,111,109,112],[105,110,105,116],[111,118,101,114,114,105,100,101],[110,105,108],[99,111,117,110,116],[115,117,109],[109,105,110],[109,97,120],[98,111,114],[98,120,111,114],[98,97,110,100],[115,104,108],[115,104,114],[99,97,116],[115,116,114,108,101,110],[115,117,98,115,116,114],[99,111,100,101],[115,116,114],[110,117,109]]
theorem Zw4 (s:Bs):Zbn s=words24.contains s:=by
 unfold Zbn ZU words24 keptWords
 simp only [Sm,Ss,T8]
 by_cases h1:s=[99,97,116]
 ·subst h1;decide
 by_cases h2:s=[115,116,114,108,101,110]
 ·subst h2;decide
 by_cases h3:s=[115,117,98,115,116,114]
 ·subst h3;decide
 by_cases h4:s=[99,111,100,101]
 ·subst h4;decide
 by_cases h5:s=[115,116,114]
 ·subst h5;decide
 by_cases h6:s=[110,117,109]
 ·subst h6;decide
 have q1:(s == [99,97,116])=false:=by simpa using h1
 have q2:(s == [115,116,114,108,101,110])=false:=by simpa using h2
 have q3:(s == [115,117,98,115,116,114])=false:=by simpa using h3
 have q4:(s == [99,111,100,101])=false:=by simpa using h4
 have q5:(s == [115,116,114])=false:=by simpa using h5
 have q6:(s == [110,117,109])=false:=by simpa using h6
 simp only [Tc h1,Tc h2,Tc h3,Tc h4,Tc h5,Tc h6,q1,q2,q3,q4,q5,q6,T8,ne_eq,not_true_eq_false,decide_false]
noncomputable def Za3:Zt:=fun args σ K=>match args,σ with
 | [.d (.str s)],⟨[],[],0⟩=>∀b,Zbn s=b->K (.ret (.d (.bool b))) ⟨[],[],0⟩
 | _,_=>False
theorem Zdu:PC w0 nG 72 Za3:=by
 refine Zd Zb mixed (tbl:=[]) trivial Tryz.func72 rfl kR kR ?_;intro args σ K h
 unfold Za3 at h
 split at h
 ·rename_i s
  rw [Zw4] at h;refine ⟨Za [(3,⟨[4],[0,3],fun vs σ=>∃i:Nat,vs=[.d (.int .i64 i)]/\σ=⟨[],[],0⟩/\i<=words24.length/\words24.contains s=(words24.drop i).contains s,mu1 words24.length⟩)],0,false,sM,Ta rfl,wN ?_⟩;refine ⟨⟨0,rfl,rfl,dM,rfl⟩,?_⟩;intro vs σ hI
  obtain ⟨i,rfl,rfl,hi,hc⟩:=hI;have hn:words24.length=24:=rfl;(conv=>whnf);refine ZBC (fun aa=>wN ?_) (fun aa=>?_)
  ·have aa:i<words24.length:=by have aa:(i:Int)<24:=aa;omega
   have ae:(words24.map fun w=>[D.str w])[((i:Nat):Int).toNat]?=some [D.str words24[i]]:=by simp [aa]
   obtain ⟨wd,il⟩:∃x,words24[i]=x:=⟨_,rfl⟩
   rw [TS aa,Sm] at hc;rw [il] at ae hc;refine ⟨_,oM,ae,wN ?_⟩;refine ZBC (fun he=>wN ?_) (fun he=>wN ?_)
   ·exact h _ (by rw [hc,he];simp)
   refine Or.inl ⟨InR.i64 oM oM,wN ?_⟩;have an:(s == wd)=false:=by simpa using fun g:s=wd=>he g.symm
   refine ⟨⟨i+1,rfl,rfl,oM,by rw [hc,an,SE]⟩,?_⟩;exact lzM oM
  have aa:i=words24.length:=by have aa:¬(i:Int)<24:=aa;omega
  subst aa;rw [Sa] at hc;(conv=>whnf);exact h _ hc
 exact h.elim
noncomputable def U4:Zt:=fun args σ K=>match args,σ with
 | [.d (.str s)],⟨[],[],0⟩=>s.length<4294967281/\∀b,YL s=b->K (.ret (.d (.bool b))) ⟨[],[],0⟩
 | _,_=>False
noncomputable def Zq0:Tbl:=[(71,Zai),(72,Za3)]
theorem WY:PC w0 nG 25 U4:=by
 refine Zd Zb mixed (tbl:=Zq0) ⟨Zw3,Zdu,trivial⟩ Tryz.func25 rfl kR kR ?_;intro args σ K h
 unfold U4 at h
 split at h
 ·rename_i s
  obtain ⟨hs,h⟩:=h;refine ⟨Za [],0,false,sM,Ta rfl,wN ?_⟩;unfold YL at h
  refine ⟨hs,?_⟩
  cases hb:ZiH s with
  | false =>
   rw [hb] at h;(conv=>whnf);exact h _ rfl
  | true =>
  rw [hb] at h;(conv=>whnf);refine ZBE (fun hc=>wN ?_) (fun hc=>wN ?_)
  ·have hu:(!decide (s=[95]))=true:=by simpa using hc
   rw [hu] at h;intro b hk
   conv=>whnf
   cases b
   all_goals
    conv=>whnf
    exact h _ (by rw [hk];rfl)
  have hu:(!decide (s=[95]))=false:=by simpa using hc
  rw [hu] at h;exact h _ rfl
 exact h.elim
noncomputable def JT (v:Nat->D):Zt:=fun args σ K=>match args,σ with
 | [.d (.int .u8 o)],⟨[],[],0⟩=>∃op:Nat,o=(op:Int)/\∀d,v op=d->K (.ret (.d d)) ⟨[],[],0⟩
 | _,_=>False
theorem ZcG (op:Nat):op=0\/op=1\/op=2\/op=3\/op=4\/op=5\/op=6\/op=7\/op=8\/op=9\/op=10\/op=11\/op=12\/op=13\/op=14\/op=15\/op=16\/op=17\/op=18\/op=19\/op=20\/op=21\/op=22\/op=23\/op=24\/op=25\/26<=op:=oM
theorem Zdv {op:Nat} (h:26<=op):Yq op=-2:=by
 unfold Yq
 repeat rw [Tc oM]
theorem Ze3:PC w0 nG 196 (JT fun op=>.int .i64 (Yq op)):=by
 refine Zd Zb mixed (tbl:=[]) trivial Tryz.func196 rfl kR kR ?_;intro args σ K h
 unfold JT at h
 split at h
 ·obtain ⟨op,rfl,h⟩:=h;refine ⟨Za [],0,false,sM,Ta rfl,?_⟩;rcases ZcG op with rfl | rfl | rfl | rfl | rfl | rfl | rfl | rfl | rfl | rfl | rfl | rfl | rfl | rfl | rfl | rfl | rfl | rfl | rfl | rfl | rfl | rfl | rfl | rfl | rfl | rfl | ho
  rotate_right
  ·have h:K (.ret (.d (.int .i64 (Yq op)))) ⟨[],[],0⟩:=h _ rfl;rw [Zdv ho] at h;exact m137
  all_goals
   conv=>whnf
   exact h _ rfl
 exact h.elim
def JU (op:Nat):Nat:=if -2<Yq op then ZI op else 6
theorem Ze4 {op:Nat} (h:-2<Yq op):JU op=ZI op:=Tg h
theorem ZlF {op:Nat} (h:26<=op):JU op=6:=by unfold JU;rw [Zdv h,Tc dM]
theorem Zdw:PC w0 nG 198 (JT fun op=>.int .i64 (JU op:Nat)):=by
 refine Zd Zb mixed (tbl:=[]) trivial Tryz.func198 rfl kR kR ?_;intro args σ K h
 unfold JT at h
 split at h
 ·obtain ⟨op,rfl,h⟩:=h;refine ⟨Za [],0,false,sM,Ta rfl,?_⟩;rcases ZcG op with rfl | rfl | rfl | rfl | rfl | rfl | rfl | rfl | rfl | rfl | rfl | rfl | rfl | rfl | rfl | rfl | rfl | rfl | rfl | rfl | rfl | rfl | rfl | rfl | rfl | rfl | ho
  rotate_right
  ·have h:K (.ret (.d (.int .i64 (JU op:Nat)))) ⟨[],[],0⟩:=h _ rfl;rw [ZlF ho] at h;exact m137
  all_goals
   conv=>whnf
   exact h _ rfl
 exact h.elim
theorem ZlG {op:Nat} (h:26<=op):Yc op=[]:=by
 unfold Yc
 repeat rw [Tc oM]
theorem Zho:PC w0 nG 200 (JT fun op=>.str (Yc op)):=by
 refine Vb Zb mixed (tbl:=[]) trivial Tryz.func200 rfl kR kR ?_;intro args σ K h
 unfold JT at h
 split at h
 ·obtain ⟨op,rfl,h⟩:=h;refine ⟨Za [],Wv [(4,19)],Ys [],0,false,sM,Ta rfl,?_⟩;rcases ZcG op with rfl | rfl | rfl | rfl | rfl | rfl | rfl | rfl | rfl | rfl | rfl | rfl | rfl | rfl | rfl | rfl | rfl | rfl | rfl | rfl | rfl | rfl | rfl | rfl | rfl | rfl | ho
  rotate_right
  ·have h:K (.ret (.d (.str (Yc op)))) ⟨[],[],0⟩:=h _ rfl;rw [ZlG ho] at h;(conv=>whnf)
   (repeat (first | (refine ⟨_,dM,rfl,?_⟩;conv=>whnf) | (refine Or.inl ⟨InR.i64 dM dM,?_⟩;conv=>whnf) | (refine ZBC (fun g=>absurd g oM) (fun _=>?_);conv=>whnf)))
   exact h
  all_goals
   conv=>whnf
   (repeat (first | (refine ⟨_,dM,rfl,?_⟩;conv=>whnf) | (refine Or.inl ⟨InR.i64 dM dM,?_⟩;conv=>whnf)))
   exact h _ rfl
 exact h.elim
def nmT (s:Bs):T0:=⟨1,s,0⟩
def sgT (s:Bs):T0:=⟨4,s,0⟩
def ZsJ (sep:Bs):List Ts->Ts
 | []=>[]
 | x::l=>sgT sep::(x++ZsJ sep l)
def Zua (sep:Bs):List Ts->Ts
 | []=>[]
 | x::l=>x++ZsJ sep l
def Zw5 (want:Nat) (p:Nat×Ts):Ts:=if p.1<want then sgT [40]::(p.2++[sgT [41]]) else p.2
def opT (op:Nat):T0:=if 15<=op/\op<=19 then nmT (Yc op) else sgT (Yc op)
def ZAB (w1 w2:Nat) (mid:Ts):List (Nat×Ts)->Ts
 | []=>[]
 | [a]=>Zw5 w1 a
 | a::b::_=>Zw5 w1 a++(mid++Zw5 w2 b)
def brK (fr fin:Bs) (ps:List Ts):Ts:=sgT fr::(Zua [44] ps++[sgT fin])
def ZA6 (op:Nat) (text:Bs) (n:Int) (ps:List (Nat×Ts)):Ts :=
 if ZI op<5 then ZAB (ZI op) (ZI op+1) [opT op] ps
 else if ZI op=5 then sgT (Yc op)::ZAB 5 5 [] ps
 else if Yc op≠[] then nmT (Yc op)::brK [40] [41] (ps.map Prod.snd)
 else if op=6 then brK [91] [93] (ps.map Prod.snd)
 else if op=7 then sgT [36]::nmT text::(if ps.length=0 then [] else brK [40] [41] (ps.map Prod.snd))
 else if op=3 then [⟨2,[],n⟩]
 else if op=4 then [⟨3,text,0⟩]
 else if op=5 then [nmT [110,105,108]]
 else if op=2 then [nmT [95]]
 else [nmT text]
mutual
def exK:Ex->Ts
 | .mk op text n args _=>ZA6 op text n (ZAC args)
def ZAC:List Ex->List (Nat×Ts)
 | []=>[]
 | e::l=>(ZI (opE e),exK e)::ZAC l
end
def Zub (want:Nat) (e:Ex):Ts:=Zw5 want (ZI (opE e),exK e)
def Lim {α:Type} (x:R α):Prop:=∃p,x=.err p 3\/x=.err p 151
def Rd {α β:Type} (er:α->β) (v:α) (r:Ts) (x:R α):Prop:=(∃v',er v'=er v/\x=.ok v' r)\/Lim x
theorem Lim.bind {α β:Type} {x:R α} {f:α->Ts->R β} (h:Lim x):Lim (x.bind f):=by
 obtain ⟨p,rfl | rfl⟩:=h
 ·exact ⟨p,.inl rfl⟩
 exact ⟨p,.inr rfl⟩
theorem Rd.bind {α β γ δ:Type} {er:α->β} {er2:γ->δ} {v:α} {u:γ} {r s:Ts} {x:R α} {f:α->Ts->R γ} (h:Rd er v r x) (hf:∀v',er v'=er v->Rd er2 u s (f v' r)):Rd er2 u s (x.bind f):=by
 rcases h with ⟨v',e,rfl⟩ | h
 ·exact hf v' e
 exact .inr h.bind
theorem Rd.ok {α β:Type} {er:α->β} {v v':α} {r:Ts} (h:er v'=er v):Rd er v r (.ok v' r):=.inl ⟨v',h,rfl⟩
theorem Rd.id {α:Type} {v:α} {r:Ts}:Rd (fun x:α=>x) v r (.ok v r):=.inl ⟨v,rfl,rfl⟩
theorem Rd.binds {α γ δ:Type} {er2:γ->δ} {v:α} {u:γ} {r s:Ts} {x:R α} {f:α->Ts->R γ} (h:Rd (fun x:α=>x) v r x) (hf:Rd er2 u s (f v r)):Rd er2 u s (x.bind f):=h.bind fun v' e=>by cases (show v'=v from e);exact hf
structure Nx (r:Ts):Prop where
 par:isW r [[40]]=false
 bin:(Wn r).1=0
theorem Znx {op:Nat} {t:Bs} {n:Int} {l:List Ex} {a:Nat} (h:ZV (.mk op t n l a)=true):-2<Yq op/\(Yq op<0\/(l.length:Int)=Yq op)/\(n=0\/op=3)/\Z7 op t=true/\∀x∈l,ZV x=true:=by
 simp only [ZV,Zo,Tk,Sb,TG] at h;obtain ⟨h1,h2,h3,h4,h5⟩:=h;exact ⟨h1,h2,h3,h4,Tm.1 h5⟩
theorem Zzy {op:Nat} (h:-2<Yq op):op<26:=by
 by_cases hc:op<26
 ·exact hc
 unfold Yq at h
 (repeat rw [Tc oM] at h)
 omega
theorem Zq1 {op:Nat} (h:-2<Yq op):(ZI op<5->Yq op=2/\Wn [opT op]=(ZI op+1,op)/\isW [opT op] [[40]]=false/\op≠1/\op≠7/\op≠4/\op≠3)/\(ZI op=5->Yq op=1/\(op=8\/op=9))/\ZI op<=6 /\
  (ZI op=6->Yc op≠[]->ZU (Yc op)=op/\(YN op:Int)=Yq op/\op≠0/\Zbn (Yc op)=true/\op≠1/\op≠7/\op≠4/\op≠3) /\
  (ZI op=6->Yc op=[]->op=1\/op=2\/op=3\/op=4\/op=5\/op=6\/op=7):=by
 have h1:∀o:Fin 26,-2<Yq o.val->ZI o.val<5->Yq o.val=2/\Wn [opT o.val]=(ZI o.val+1,o.val)/\isW [opT o.val] [[40]]=false/\o.val≠1/\o.val≠7/\o.val≠4/\o.val≠3:=by decide +kernel
 have h2:∀o:Fin 26,-2<Yq o.val->ZI o.val=5->Yq o.val=1/\(o.val=8\/o.val=9):=by decide +kernel
 have h3:∀o:Fin 26,-2<Yq o.val->ZI o.val<=6:=by decide +kernel
 have h4:∀o:Fin 26,-2<Yq o.val->ZI o.val=6->Yc o.val≠[]->ZU (Yc o.val)=o.val/\(YN o.val:Int)=Yq o.val/\o.val≠0/\Zbn (Yc o.val)=true:=by decide +kernel
 have h6:∀o:Fin 26,-2<Yq o.val->ZI o.val=6->Yc o.val≠[]->o.val≠1/\o.val≠7/\o.val≠4/\o.val≠3:=by decide +kernel
 have h5:∀o:Fin 26,-2<Yq o.val->ZI o.val=6->Yc o.val=[]->o.val=1\/o.val=2\/o.val=3\/o.val=4\/o.val=5\/o.val=6\/o.val=7:=by decide +kernel
 obtain ⟨o,ho⟩:∃o:Fin 26,o.val=op:=⟨⟨op,Zzy h⟩,rfl⟩
 subst ho;exact ⟨h1 o h,h2 o h,h3 o h,fun a b=>by obtain ⟨p,q,r,s⟩:=h4 o h a b;exact ⟨p,q,r,s,h6 o h a b⟩,h5 o h⟩
theorem Zhp {l:List Ex} (h:l.length=2):∃a b,l=[a,b]:=by match l,h with | [a,b],_=>exact ⟨a,b,rfl⟩
theorem ZjO {l:List Ex} (h:l.length=1):∃a,l=[a]:=by match l,h with | [a],_=>exact ⟨a,rfl⟩
def Ln (e:Ex) (r:Ts) (sub:Nat->Ts->R Ex) (least:Nat) (x:R Ex):Prop:=(∃f e',r.length<f/\erE e'=erE e/\x=WQ sub least f e' r)\/Lim x
structure ExR (e:Ex):Prop where
 sg:∀d r,isW r [[40]]=false->Rd erE e r (Zv d (Zub 5 e++r))
 ln:∀d k w l r,w<=l->l<=5->6<=k+w->isW r [[40]]=false->(Wn r).1<l+2->Ln e r (WU (Zv d) (k - 1)) (w+1) (WU (Zv d) k (w+1) (Zub l e++r))
def Zzz (op:Nat):Bs:=if op=3 then [61] else if op=4 then [33,61] else if op=5 then [60] else if op=6 then [60,61] else if op=7 then [62] else [62,61]
theorem Zny {op:Nat} {rel:Bs} {args:List Ex} {body:List Li} {a:Nat} (h:ZY (.mk op rel args body a)=true):ZX op rel args.length body.length=true/\(∀x∈args,ZV x=true)/\∀x∈body,ZY x=true:=by
 simp only [ZY,Zo,Z4,Tk] at h;exact ⟨h.1,Tm.1 h.2.1,Tm.1 h.2.2⟩
theorem Znz {op:Nat} {rel:Bs} {na nb:Nat} (h:ZX op rel na nb=true):((op=1\/op=2)/\YL rel=true/\nb=0)\/(3<=op/\op<=8/\rel=[]/\na=2/\nb=0)\/(op=9/\rel=[]/\na=1/\0<nb)\/(9<op/\op<=12/\rel=[]/\na=2/\0<nb):=by
 unfold ZX at h
 split at h
 ·rename_i c
  simp only [Tk,TV,decide_eq_false_iff_not] at h;exact .inl ⟨c,h.1,oM⟩
 split at h
 ·rename_i c
  simp only [Tk,TV,decide_eq_false_iff_not,TG] at h;exact .inr (.inl ⟨c.1,c.2,h.1,h.2.1,oM⟩)
 split at h
 ·rename_i c
  simp only [Tk,TG] at h;exact .inr (.inr (.inl ⟨c,h.1,h.2.1,h.2.2⟩))
 split at h
 ·rename_i c
  simp only [Tk,TG] at h;exact .inr (.inr (.inr ⟨c.1,c.2,h.1,h.2.1,h.2.2⟩))
 cases h
theorem Zq2 {t:Ty} (h:Z6 t=true):YL t.name=true/\(∀f∈t.fields,Yl f=true)/\(∀c∈t.cases,YO c=true) /\
  ((t.kind=1/\YL t.base=true/\t.fields=[]/\t.cases=[])\/(t.kind=2/\t.base=[]/\t.cases=[])\/(t.kind=3/\t.base=[]/\t.fields=[]/\t.cases≠[])):=by
 simp only [Z6,Tk] at h;obtain ⟨h1,h2,h3,h4⟩:=h;refine ⟨h2,Tm.1 h3,Tm.1 h4,?_⟩;unfold UM at h1
 split at h1
 ·rename_i c
  simp only [Tk,TG] at h1;exact .inl ⟨c,h1.1,TB h1.2.1,TB h1.2.2⟩
 split at h1
 ·rename_i c
  simp only [Tk,TG] at h1;exact .inr (.inl ⟨c,h1.1,TB h1.2⟩)
 split at h1
 ·rename_i c
  simp only [Tk,TG,TV,decide_eq_false_iff_not] at h1;exact .inr (.inr ⟨c,h1.1,TB h1.2.1,fun e=>h1.2.2 (by rw [e];rfl)⟩)
 cases h1
theorem Zuc {tys:List Ty} {rels:List Re} {rules:List Ru} {comps:List Co} {inits:List Ini} {overs:List Ov} (h:Za2 (.mk tys rels rules comps inits overs)=true) :
  (∀x∈tys,Z6 x=true)/\(∀x∈rels,Xu x=true)/\(∀x∈rules,Y0 x=true)/\(∀x∈comps,Yd x=true)/\(∀x∈inits,Xv x=true)/\∀x∈overs,X7 x=true:=by
 simp only [Za2,X5,Tk] at h;obtain ⟨h1,h2,h3,h4,h5,h6⟩:=h;exact ⟨Tm.1 h1,Tm.1 h2,Tm.1 h3,Tm.1 h4,Tm.1 h5,Tm.1 h6⟩
theorem ZjP {nm:Bs} {ps:List Bs} {base:Bs} {tys:List Bs} {u:Un} {a:Nat} (h:Yd (.mk nm ps base tys u a)=true):YL nm=true/\(∀x∈ps,YL x=true)/\(∀x∈tys,YL x=true)/\((base=[]/\tys=[])\/YL base=true)/\Za2 u=true:=by
 simp only [Yd,Tk,Sb,TG] at h;obtain ⟨h1,h2,h3,h4,h5⟩:=h;refine ⟨h1,Tm.1 h2,Tm.1 h3,?_,h5⟩;rcases h4 with ⟨e1,e2⟩ | h4
 ·exact .inl ⟨e1,TB e2⟩
 exact .inr h4
theorem ZiI {a:Nat} {r:Bs} {room:Bool} {t:Tok} (h:Xq a r room=.tok t):room=true:=by
 cases room with
 | true=>rfl
 | false =>
 rw [YT] at h;split at h
 ·cases h
 rw [Tg rfl] at h;cases h
theorem Zud {z:Bs} {c:UInt8} (hc:c.toNat<128):pk (c::z)=((c.toNat:Int),1):=by
 have e:Lib.decodeL (c::z)=(c.toNat,1):=by
  rw [Lib.decodeL_N];unfold Lib.decodeN;rw [Tg (by simpa using hc)];simp
 unfold pk
 rw [e,Tc sO]
structure Fol (c:UInt8) (z:Bs):Prop where
 low:c.toNat<128
 let':Zi c.toNat=false
 dig:Zl c.toNat=false
 dot:c=46->Zi (pk z).1=false
theorem Fol.pk {c:UInt8} {z:Bs} (h:Fol c z):Lex.pk (c::z)=((c.toNat:Int),1):=Zud h.low
inductive Pc where
 | blank (b:UInt8) | tok (s:Bs) (t:T0)
def Pc.bs:Pc->Bs | .blank b=>[b] | .tok s _=>s
def Pc.ts:Pc->Ts | .blank _=>[] | .tok _ t=>[t]
def bsP (l:List Pc):Bs:=(l.map Pc.bs).flatten
def tsP (l:List Pc):Ts:=(l.map Pc.ts).flatten
@[simp] theorem bsP_nil:bsP []=[]:=rfl
@[simp] theorem tsP_nil:tsP []=[]:=rfl
@[simp] theorem bsP_cons (p:Pc) (l:List Pc):bsP (p::l)=p.bs++bsP l:=by simp [bsP]
@[simp] theorem tsP_cons (p:Pc) (l:List Pc):tsP (p::l)=p.ts++tsP l:=by simp [tsP]
@[simp] theorem bsP_app (l m:List Pc):bsP (l++m)=bsP l++bsP m:=by simp [bsP]
@[simp] theorem tsP_app (l m:List Pc):tsP (l++m)=tsP l++tsP m:=by simp [tsP]
def nmP (s:Bs):Pc:=.tok s (nmT s)
def sgP (s:Bs):Pc:=.tok s (sgT s)
theorem ZlH:∀d:Fin 16,Zax (Zbl d.val)=d.val/\Xz true (Zbl d.val)=true/\(d.val<10->Xz false (Zbl d.val)=true)/\Zbl d.val≠120:=by decide +kernel
theorem Zq3 (base:Nat) (l:Bs) (b:UInt8):XE base (l++[b])=XE base l * base+Zax b:=by simp [XE]
theorem ZbG {base:Nat} (hb:base=10\/base=16):∀(f n:Nat),n<f->XE base (VN base f n)=n/\(∀b∈VN base f n,Xz (decide (base=16)) b=true/\b≠120)/\VN base f n≠[]/\∀k,n<base ^ (k+1)->(VN base f n).length<=k+1
 | 0,n,h=>oM
 | f+1,n,h=>by
  have hd:∀d,d<base->Zax (Zbl d)=d/\Xz (decide (base=16)) (Zbl d)=true/\Zbl d≠120:=fun d hd=>by
   obtain ⟨h1,h2,h3,h4⟩:=ZlH ⟨d,oM⟩;refine ⟨h1,?_,h4⟩;rcases hb with rfl | rfl
   ·exact h3 hd
   exact h2
  rw [VN]
  by_cases c:n<base
  ·rw [Tg c];obtain ⟨h1,h2,h3⟩:=hd n c;refine ⟨by simpa [XE] using h1,fun b hb=>?_,sM,fun k _=>sM⟩;rw [List.mem_singleton.1 hb];exact ⟨h2,h3⟩
  rw [Tc c];have ah:n / base<n:=Nat.div_lt_self oM oM;obtain ⟨i1,i2,i3,i4⟩:=ZbG hb f (n / base) oM;obtain ⟨h1,h2,h3⟩:=hd (n % base) (Nat.mod_lt _ oM);refine ⟨?_,fun b hb=>?_,sM,fun k hk=>?_⟩
  ·rw [Zq3,i1,h1,SD];exact Nat.div_add_mod n base
  ·rcases TZ.1 hb with hb | hb
   ·exact i2 b hb
   rw [List.mem_singleton.1 hb];exact ⟨h2,h3⟩
  cases k with
  | zero=>simp at hk;omega
  | succ k =>
  have:n / base<base ^ (k+1):=by
   rw [Nat.div_lt_iff_lt_mul oM];rw [Nat.pow_succ] at hk;exact hk
  have:=i4 k this;exact m113
def ZyW (n:Int):Bool:=decide (-9223372036854775808<=n) && decide (n<9223372036854775808)
mutual
def JV:Ex->Bool
 | .mk _ _ n l _=>ZyW n && ZiJ l
def ZiJ:List Ex->Bool
 | []=>true
 | x::l=>JV x && ZiJ l
end
theorem VC (l:List Ex):ZiJ l=l.all JV:=by induction l with | nil=>rfl | cons x l ih=>simp [ZiJ,ih]
theorem ZbH {op:Nat} {t:Bs} {n:Int} {l:List Ex} {a:Nat} (h:JV (.mk op t n l a)=true):(-9223372036854775808<=n/\n<9223372036854775808)/\∀x∈l,JV x=true:=by
 simp only [JV,VC,ZyW,Tk,TG] at h;exact ⟨h.1,Tm.1 h.2⟩
mutual
def Zh2:Li->Bool
 | .mk _ _ args body _=>ZiJ args && ZlI body
def ZlI:List Li->Bool
 | []=>true
 | x::l=>Zh2 x && ZlI l
end
theorem UB (l:List Li):ZlI l=l.all Zh2:=by induction l with | nil=>rfl | cons x l ih=>simp [ZlI,ih]
theorem ZiK {op:Nat} {rel:Bs} {args:List Ex} {body:List Li} {a:Nat} (h:Zh2 (.mk op rel args body a)=true):(∀x∈args,JV x=true)/\∀x∈body,Zh2 x=true:=by
 simp only [Zh2,VC,UB,Tk] at h;exact ⟨Tm.1 h.1,Tm.1 h.2⟩
def Zdx (r:Ru):Bool:=r.args.all JV && r.body.all Zh2
mutual
def ZiL:Un->Bool
 | .mk _ _ rules comps _ _=>rules.all Zdx && Ze5 comps
def Zdy:Co->Bool
 | .mk _ _ _ _ u _=>ZiL u
def Ze5:List Co->Bool
 | []=>true
 | c::l=>Zdy c && Ze5 l
end
theorem V7 (l:List Co):Ze5 l=l.all Zdy:=by induction l with | nil=>rfl | cons x l ih=>simp [Ze5,ih]
def spP:Pc:=.blank 32
def nlP:Pc:=.blank 10
@[simp] theorem bs_sp:spP.bs=[32]:=rfl
@[simp] theorem bs_nl:nlP.bs=[10]:=rfl
@[simp] theorem ts_sp:spP.ts=[]:=rfl
@[simp] theorem ts_nl:nlP.ts=[]:=rfl
@[simp] theorem bs_nm (s:Bs):(nmP s).bs=s:=rfl
@[simp] theorem bs_sg (s:Bs):(sgP s).bs=s:=rfl
@[simp] theorem ts_nm (s:Bs):(nmP s).ts=[nmT s]:=rfl
@[simp] theorem ts_sg (s:Bs):(sgP s).ts=[sgT s]:=rfl
@[simp] theorem bs_tok (s:Bs) (t:T0):(Pc.tok s t).bs=s:=rfl
@[simp] theorem ts_tok (s:Bs) (t:T0):(Pc.tok s t).ts=[t]:=rfl
def ts2 (p:Nat×List Pc):Nat×Ts:=(p.1,tsP p.2)
end Go.PM.Lex
end

section
noncomputable section
namespace Go.PM.Lex
open Go.Proofs
def tz (L:List Tok) (a:Int):Ts:=(L.drop a.toNat).map Tok.t0
def Zg (L:List Tok) (en:Int) (r:Nat):Int:=match L.drop (L.length - r) with
 | []=>en
 | t::_=>t.at'
structure ROK (L:List Tok) (a:Int) (ts:Ts):Prop where
 lo:0<=a
 hi:a<=L.length
 big:L.length<=1048576
 eq:tz L a=ts
theorem ROK.len {L:List Tok} {a:Int} {ts:Ts} (h:ROK L a ts):(ts.length:Int)=L.length - a:=by
 rw [<- h.eq];simp only [tz,Te,Tp];have:=h.lo;have:=h.hi;omega
theorem ROK.next {L:List Tok} {a:Int} {t:T0} {ts:Ts} (h:ROK L a (t::ts)):ROK L (a+1) ts:=by
 have hl:=h.len;have h0:=h.lo;refine ⟨oM,by simp at hl;omega,h.big,?_⟩;have:=h.eq;simp only [tz] at this |-;rw [show (a+1).toNat=a.toNat+1 by omega,<- Tw,List.map_drop,this];rfl
theorem ZS {ts:Ts} {ws:List Bs} (h:isW ts ws=true):ts≠[]:=by rintro rfl;simp [isW,hd] at h
theorem Za5 {ts:Ts} (h:Zq ts=true):ts≠[]:=by rintro rfl;simp [Zq,hd] at h
theorem ROK.tl {L:List Tok} {a:Int} {ts:Ts} (h:ROK L a ts) (hn:ts≠[]):ROK L (a+1) ts.tail:=by
 cases ts with
 | nil=>exact absurd rfl hn
 | cons t ts=>exact h.next
theorem ROK.get {L:List Tok} {a:Int} {t:T0} {ts:Ts} (h:ROK L a (t::ts)):∃x,L[a.toNat]?=some x/\x.t0=t/\∀en,Zg L en (ts.length+1)=x.at':=by
 have hl:=h.len;have h0:=h.lo;have h1:=h.eq;simp only [Td] at hl;have ah:a.toNat<L.length:=oM;refine ⟨L[a.toNat],Ti ah,?_,fun en=>?_⟩
 ·simp only [tz] at h1;rw [TS ah] at h1;simp only [TN,List.cons.injEq] at h1;exact h1.1
 unfold Zg
 rw [show L.length - (ts.length+1)=a.toNat by omega,TS ah]
theorem ROK.none {L:List Tok} {a:Int} (h:ROK L a []):a=L.length:=by have:=h.len;simp at this;omega
theorem Zcm (L:List Tok) (en:Int):Zg L en 0=en:=by simp [Zg]
abbrev Pl:=Nat->Int
mutual
def YE (pl:Pl):Ex->List D
 | .mk op text n args a=>[.int .u8 op,.str text,.int .i64 n,.sl (Z0 pl args),.int .i64 (pl a)]
def Z0 (pl:Pl):List Ex->List (List D)
 | []=>[]
 | e::l=>YE pl e::Z0 pl l
end
mutual
def XI (pl:Pl):Li->List D
 | .mk op rel args body a=>[.int .u8 op,.str rel,.sl (Z0 pl args),.sl (XQ pl body),.int .i64 (pl a)]
def XQ (pl:Pl):List Li->List (List D)
 | []=>[]
 | e::l=>XI pl e::XQ pl l
end
def ZW (pl:Pl) (r:Ru):List D:=[.str r.head,.sl (Z0 pl r.args),.sl (XQ pl r.body),.int .i64 (pl r.at')]
def ZJ (f:Fi):List D:=[.str f.name,.str f.typ]
def ZZ (c:Ca):List D:=[.str c.name,.sl (c.fields.map ZJ)]
def Z1 (pl:Pl) (t:Ty):List D:=[.int .u8 t.kind,.str t.name,.str t.base,.sl (t.fields.map ZJ),.sl (t.cases.map ZZ),.int .i64 (pl t.at')]
def Z3 (pl:Pl) (r:Re):List D:=[.str r.name,.sl (r.fields.map ZJ),.bool r.inn,.bool r.out,.bool r.inl,.int .i64 (pl r.at')]
def ZB (s:Bs):List D:=[.str s]
def Yi (pl:Pl) (i:Ini):List D:=[.str i.name,.str i.comp,.sl (i.types.map ZB),.int .i64 (pl i.at')]
def Ye (pl:Pl) (o:Ov):List D:=[.str o.rel,.int .i64 (pl o.at')]
mutual
def Yg (pl:Pl):Un->List D
 | .mk tys rels rules comps inits overs=>[.sl (tys.map (Z1 pl)),.sl (rels.map (Z3 pl)),.sl (rules.map (ZW pl)),.sl (YQ pl comps),.sl (inits.map (Yi pl)),.sl (overs.map (Ye pl))]
def YG (pl:Pl):Co->List D
 | .mk name params base types u a=>[.str name,.sl (params.map ZB),.str base,.sl (types.map ZB)]++Yg pl u++[.int .i64 (pl a)]
def YQ (pl:Pl):List Co->List (List D)
 | []=>[]
 | e::l=>YG pl e::YQ pl l
end
theorem Ze (pl:Pl) (l:List Ex):Z0 pl l=l.map (YE pl):=by induction l with | nil=>rfl | cons x l ih=>simp [Z0,ih]
theorem Zr (pl:Pl) (l:List Li):XQ pl l=l.map (XI pl):=by induction l with | nil=>rfl | cons x l ih=>simp [XQ,ih]
theorem ZN (pl:Pl) (l:List Co):YQ pl l=l.map (YG pl):=by induction l with | nil=>rfl | cons x l ih=>simp [YQ,ih]
abbrev Za6 (l:List D):PV:=.agg (l.map .d)
abbrev flt (L:List Tok) (en:Int) (r e:Nat):PV:=.iface 163 (.agg [.d (.int .i64 (Zg L en r)),.d (.int .i64 e)])
abbrev RK:=PEnd->Int->Int->Prop
def RKk {α:Type} (enc:α->PV) (L:List Tok) (en dp lo:Int) (x:R α) (K:RK):Prop:=match x with
 | .ok v ts'=>∀a',lo<=a'->ROK L a' ts'->K (.ret (enc v)) a' dp
 | .err r e=>∀a' dp',K (.panic (flt L en r e)) a' dp'
def X8 (body:List PV->List Tok->Int->Int->Int->Ts->RK->Prop):Zt:=fun args σ K=>match args,σ with
 | .ptr 0 0::rest,⟨[.cells t [.d (.sl rows),.d (.int .i64 a),.d (.int .i64 en),.d (.int .i64 dp)]],[],0⟩=>∃L ts,rows=Zy L/\ROK L a ts /\
   body rest L en dp a ts fun pe a' dp'=>K pe ⟨[.cells t [.d (.sl (Zy L)),.d (.int .i64 a'),.d (.int .i64 en),.d (.int .i64 dp')]],[],0⟩
 | _,_=>False
theorem ZnC {body:List PV->List Tok->Int->Int->Int->Ts->RK->Prop} (hb:∀rest L en dp a ts (K K':RK),(∀pe a d,K pe a d->K' pe a d)->body rest L en dp a ts K->body rest L en dp a ts K'):Yb (X8 body):=fun args σ K K' hK h=>by
 unfold X8 at h |-
 split at h
 ·obtain ⟨L,ts,h1,h2,h3⟩:=h;exact ⟨L,ts,h1,h2,hb _ _ _ _ _ _ _ _ (fun pe a d hk=>hK _ _ hk) h3⟩
 exact h.elim
def X6:Zt:=fun args σ K=>match args,σ with
 | [.d (.str s)],⟨[],[],0⟩=>∀n:Int,(ZU s:Int)=n->K (.ret (.d (.int .u8 n))) ⟨[],[],0⟩
 | _,_=>False
def Zhq:Zt:=fun args σ K=>match args,σ with
 | [.d (.str s)],⟨[],[],0⟩=>∀b,Zbn s=b->K (.ret (.d (.bool b))) ⟨[],[],0⟩
 | _,_=>False
def Zel (s:Bs):Nat->List Bs->Int
 | _,[]=>-1
 | i,w::ws=>if s=w then i else Zel s (i+1) ws
def ZfV:Zt:=fun args σ K=>match args,σ with
 | [.d (.sl rows),.d (.str s)],⟨[],[],0⟩=>∃ws:List Bs,rows=ws.map ZB/\ws.length<=1048576/\K (.ret (.d (.int .i64 (Zel s 0 ws)))) ⟨[],[],0⟩
 | _,_=>False
def ZbI:Zt:=fun args σ K=>match args,σ with
 | [.d (.sl rows),.d (.str s)],⟨[],[],0⟩=>∃ws:List Bs,rows=ws.map ZB/\ws.length<=1048576/\∀b,ws.contains s=b->K (.ret (.d (.bool b))) ⟨[],[],0⟩
 | _,_=>False
def Za7:Zt:=X8 fun rest L en dp a ts K=>match rest with
 | [.d (.int .i64 n)]=>∀fin,(n=0/\K (.ret (.agg [.d (.int .u8 (hd ts).kind),.d (.str (hd ts).text),.d (.int .i64 (hd ts).n),.d (.int .i64 (Zg L en ts.length)),.d (.int .i64 fin)])) a dp) \/
   (n=1/\K (.ret (.agg [.d (.int .u8 (hd ts.tail).kind),.d (.str (hd ts.tail).text),.d (.int .i64 (hd ts.tail).n),.d (.int .i64 (Zg L en ts.tail.length)),.d (.int .i64 fin)])) a dp)
 | _=>False
def Vi:Zt:=X8 fun rest L en dp a ts K=>match rest with
 | []=>K (.ret (.d (.int .i64 (Zg L en ts.length)))) a dp
 | _=>False
def Zhr:Zt:=X8 fun rest L en dp a ts K=>match rest with
 | [.d (.sl rows)]=>∃ws:List Bs,rows=ws.map ZB/\ws.length<=1048576/\∀b,isW ts ws=b->K (.ret (.d (.bool b))) a dp
 | _=>False
def Zaj (p:Ts->Bool):Zt:=X8 fun rest L en dp a ts K=>match rest with
 | []=>∀b,p ts=b->K (.ret (.d (.bool b))) a dp
 | _=>False
def Xm:Zt:=X8 fun rest L en dp a ts K=>match rest with
 | [.d (.int .i64 e)]=>K (.panic (.iface 163 (.agg [.d (.int .i64 (Zg L en ts.length)),.d (.int .i64 e)]))) a dp
 | _=>False
theorem ZdB:Yb Xm:=ZnC fun rest L en dp a ts K K' hK h=>by
 split at h
 ·exact hK _ _ _ h
 exact h.elim
def WR:Zt:=X8 fun rest L en dp a ts K=>match rest with
 | [.d (.sl rows)]=>∃ws:List Bs,rows=ws.map ZB/\ws.length<=1048576/\(isW ts ws=true->ROK L (a+1) ts.tail->K (.ret (.d (.bool true))) (a+1) dp)/\(isW ts ws=false->K (.ret (.d (.bool false))) a dp)
 | _=>False
def ZjS:Zt:=X8 fun rest L en dp a ts K=>match rest with
 | [.d (.int .i64 n),.d (.int .i64 m)]=>(n=m->K (.panic (flt L en ts.length 3)) a dp)/\(n≠m->K (.ret (.tuple [])) (a+1) dp)
 | _=>False
def spR {α:Type} (enc:List Tok->Int->α->PV) (P:Ts->R α) (lo:Int):Zt:=X8 fun rest L en dp a ts K=>match rest with
 | []=>∀x,P ts=x->RKk (enc L en) L en dp (a+lo) x K
 | _=>False
def Wa:Zt:=X8 fun rest L en dp a ts K=>match rest with
 | [.d (.str w)]=>∀x,ZT w ts=x->RKk (fun _=>.tuple []) L en dp (a+1) x K
 | _=>False
abbrev We:Zt:=spR (fun _ _ (v:Bs)=>.d (.str v)) Z2 1
end Go.PM.Lex
end
end

section
namespace Go.PM.Lex
open Go.Proofs
variable {w0:World} {nG:Nat}
theorem ZbJ:PC w0 nG 157 X6:=by
 refine Zd Zb mixed (tbl:=[]) trivial Tryz.func157 rfl kR kR ?_;exact m91
noncomputable def Zug:Tbl:=[(157,X6)]
theorem ZiN:PC w0 nG 89 Zhq:=by
 refine Zd Zb mixed (tbl:=Zug) ⟨ZbJ,trivial⟩ Tryz.func89 rfl kR kR ?_;intro args σ K h
 unfold Zhq at h
 split at h
 ·rename_i s
  refine ⟨Za [],0,false,sM,Ta rfl,?_⟩
  repeat' ((conv=>whnf);refine ZBC (fun hc=>?_) (fun hc=>?_))
  all_goals (conv=>whnf)
  all_goals first
   | contradiction
   | exact h _ (by subst_vars;decide)
   | skip
  intro n hn
  conv=>whnf
  refine h _ ?_;have hk:keptWords.contains s=false:=by
   have:¬s∈keptWords:=by
    simp only [keptWords,Tv,Sq,or_false,not_or]
    repeat' (first | assumption | refine ⟨by assumption,?_⟩)
   rw [Bool.eq_false_iff];intro g
   exact this (List.contains_iff_mem.1 g)
  rw [Zbn,hk,<- hn]
  by_cases h0:ZU s=0 <;> simp [h0]
 exact h.elim
theorem Ze6 (s w:Bs) (i:Nat) (ws:List Bs):Zel s i (w::ws)=if s=w then (i:Int) else Zel s (i+1) ws:=rfl
theorem Zhs (s:Bs):∀(ws:List Bs) (i:Nat),(0<=Zel s i ws)↔ws.contains s=true
 | [],i=>by simp [Zel]
 | w::ws,i=>by
  rw [Ze6];split
  ·rename_i h;subst h;simp
  rename_i h;rw [Zhs s ws];simp [h]
theorem ZlK (s:Bs) (ws:List Bs) (i:Nat) (h:i<ws.length):Zel s i (ws.drop i)=if s=ws[i] then (i:Int) else Zel s (i+1) (ws.drop (i+1)):=by
 rw [TS h,Ze6]
theorem ZnD:PC w0 nG 222 ZfV:=by
 refine Zd Zb mixed (tbl:=[]) trivial Tryz.func222 rfl kR kR ?_;intro args σ K h
 unfold ZfV at h
 split at h
 ·rename_i rows s
  obtain ⟨ws,rfl,hw,h⟩:=h;refine ⟨Za [(2,⟨[8],[0,1,7],fun vs σ=>∃i:Nat,vs=[.d (.int .i64 i)]/\σ=⟨[],[],0⟩/\i<=ws.length/\Zel s 0 ws=Zel s i (ws.drop i),mu1 ws.length⟩)],0,false,sM,Ta rfl,wN ?_⟩;refine ⟨⟨0,rfl,rfl,oM,rfl⟩,?_⟩;intro vs σ hI
  obtain ⟨i,rfl,rfl,hi,hx⟩:=hI;(conv=>whnf);refine ZBC (fun hc=>wN ?_) (fun hc=>wN ?_)
  ·have hc:i<ws.length:=by have hc:(i:Int)<((ws.map ZB).length:Int):=hc;rw [Te] at hc;omega
   refine ⟨ZB ws[i],oM,by simp [hc],wN ?_⟩;rw [ZlK s ws i hc] at hx;refine ZBC (fun h1=>wN ?_) (fun h1=>wN ?_)
   ·rw [hx,Tg h1] at h;exact h
   rw [Tc h1] at hx;refine Or.inl ⟨InR.i64 oM oM,wN ?_⟩;refine ⟨⟨i+1,rfl,rfl,oM,hx⟩,?_⟩;exact lzM oM
  have hc:ws.length<=i:=by have hc:¬(i:Int)<((ws.map ZB).length:Int):=hc;rw [Te] at hc;omega
  rw [Tz hc] at hx;rw [hx] at h;exact h
 exact h.elim
noncomputable def Zuh:Tbl:=[(222,ZfV)]
theorem ZiO:PC w0 nG 170 ZbI:=by
 refine Zd Zb mixed (tbl:=Zuh) ⟨ZnD,trivial⟩ Tryz.func170 rfl kR kR ?_;intro args σ K h
 unfold ZbI at h
 split at h
 ·rename_i rows s
  obtain ⟨ws,rfl,hw,h⟩:=h;refine ⟨Za [],0,false,sM,Ta rfl,wN ?_⟩;refine ⟨ws,rfl,hw,wN ?_⟩;exact h _ (by rw [Bool.eq_iff_iff,TG,<- Zhs s ws 0])
 exact h.elim
theorem Zak:PC w0 nG 169 Za7:=by
 refine Zd Zb mixed (tbl:=[]) trivial Tryz.func169 rfl kR kR ?_;intro args σ K h
 unfold Za7 X8 at h
 split at h
 ·rename_i t rows a en dp
  obtain ⟨L,ts,rfl,ho,h⟩:=h;split at h
  ·rename_i n
   have hl:=ho.len;have h0:=ho.lo;have h1:=ho.hi;have h2:=ho.big;have hn:n=0\/n=1:=by rcases h 0 with g | g <;> simp [g.1]
   refine ⟨Za [],1,false,sM,Ta rfl,wN ?_⟩;refine Or.inl ⟨InR.i64 oM oM,wN ?_⟩;refine ZBC (fun hc=>?_) (fun hc=>wN ?_)
   ·have hc:a+n<L.length:=by have hc:a+n<((Zy L).length:Int):=hc;rw [ZG] at hc;exact hc
    rcases hn with rfl | rfl
    ·cases ts with
     | nil=>simp at hl;omega
     | cons t0 ts =>
     obtain ⟨x,hx,rfl,hp⟩:=ho.get;(conv=>whnf);refine ⟨ZqJ x,oM,by simp [Zy,hx],wN ?_⟩;have h:=h x.fin;rw [Td,hp] at h;rcases h with h | h
     ·exact h.2
     exact absurd h.1 oM
    cases ts with
    | nil=>simp at hl;omega
    | cons t1 ts =>
    cases ts with
    | nil=>simp at hl;omega
    | cons t0 ts =>
    obtain ⟨x,hx,rfl,hp⟩:=ho.next.get;(conv=>whnf);refine ⟨ZqJ x,oM,by simp [Zy,hx],wN ?_⟩;have h:=h x.fin;simp only [List.tail_cons,Td,hp] at h;rcases h with h | h
    ·exact absurd h.1 oM
    exact h.2
   have hc:¬a+n<L.length:=by have hc:¬a+n<((Zy L).length:Int):=hc;rw [ZG] at hc;exact hc
   have h:=h 0;rcases hn with rfl | rfl
   ·cases ts with
    | nil => rcases h with h | h
             ·have h:=h.2;simp only [Tf,Zcm] at h;exact h
             exact absurd h.1 oM
    | cons t0 ts=>simp at hl;omega
   have:ts.tail=[]:=by
    cases ts with
    | nil=>rfl
    | cons t1 ts=>cases ts with
     | nil=>rfl
     | cons t0 ts=>simp at hl;omega
   rw [this] at h;rcases h with h | h
   ·exact absurd h.1 oM
   have h:=h.2;simp only [Tf,Zcm] at h;exact h
  exact h.elim
 exact h.elim
noncomputable def ZjT:Tbl:=[(169,Za7)]
theorem Zq4 (ht:TO w0 nG ZjT):PC w0 nG 118 Vi:=by
 refine Zd Zb mixed (tbl:=ZjT) ht Tryz.func118 rfl kR kR ?_;intro args σ K h
 unfold Vi X8 at h
 split at h
 ·rename_i rest t rows a en dp
  obtain ⟨L,ts,rfl,ho,h⟩:=h;split at h
  ·skip
   refine ⟨Za [],1,false,sM,Ta rfl,wN ?_⟩;refine ⟨L,ts,rfl,ho,fun fin=>Or.inl ⟨rfl,wN ?_⟩⟩;exact h
  exact h.elim
 exact h.elim
noncomputable def Zxa:Tbl:=[(169,Za7),(170,ZbI)]
theorem ZzA (ht:TO w0 nG Zxa):PC w0 nG 113 Zhr:=by
 refine Zd Zb mixed (tbl:=Zxa) ht Tryz.func113 rfl kR kR ?_;intro args σ K h
 unfold Zhr X8 at h
 split at h
 ·rename_i rest t rows a en dp
  obtain ⟨L,ts,rfl,ho,h⟩:=h;split at h
  ·rename_i rows
   obtain ⟨ws,rfl,hw,h⟩:=h;refine ⟨Za [],1,false,sM,Ta rfl,wN ?_⟩;refine ⟨L,ts,rfl,ho,fun fin=>Or.inl ⟨rfl,wN ?_⟩⟩;refine ZBC (fun h1=>wN ?_) (fun h1=>wN ?_)
   ·refine ⟨ws,rfl,hw,fun b hb=>wN ?_⟩;exact h _ (by simp only [isW,hb];simp [show (hd ts).kind=1 by omega])
   refine ZBC (fun h2=>wN ?_) (fun h2=>wN ?_)
   ·refine ⟨ws,rfl,hw,fun b hb=>wN ?_⟩;exact h _ (by simp only [isW,hb];simp [show (hd ts).kind=4 by omega])
   exact h _ (by simp [isW,show ¬(hd ts).kind=1 by omega,show ¬(hd ts).kind=4 by omega])
  exact h.elim
 exact h.elim
noncomputable def ZjU:Tbl:=[(169,Za7),(89,Zhq)]
theorem Zq5 (ht:TO w0 nG ZjU):PC w0 nG 122 (Zaj Zq):=by
 refine Zd Zb mixed (tbl:=ZjU) ht Tryz.func122 rfl kR kR ?_;intro args σ K h
 unfold Zaj X8 at h
 split at h
 ·rename_i rest t rows a en dp
  obtain ⟨L,ts,rfl,ho,h⟩:=h;split at h
  ·skip
   refine ⟨Za [],1,false,sM,Ta rfl,wN ?_⟩;refine ⟨L,ts,rfl,ho,fun fin=>Or.inl ⟨rfl,wN ?_⟩⟩;refine ZBC (fun h1=>wN ?_) (fun h1=>wN ?_)
   ·refine ZBE (fun h2=>wN ?_) (fun h2=>wN ?_)
    ·intro b hb
     conv=>whnf
     exact h _ (by simp only [Zq,hb];rw [TC (show (hd ts).kind=1 by omega),decide_eq_false h2];simp)
    exact h _ (by simp only [Zq];rw [TC (p:=(hd ts).text=[95]) h2];simp)
   exact h _ (by simp [Zq,show ¬(hd ts).kind=1 by omega])
  exact h.elim
 exact h.elim
noncomputable def ZnE:Tbl:=[(118,Vi)]
theorem Zui (ht:TO w0 nG ZnE):PC w0 nG 112 Xm:=by
 refine Zd Zb mixed (tbl:=ZnE) ht Tryz.func112 rfl kR kR ?_;intro args σ K h
 unfold Xm X8 at h
 split at h
 ·rename_i rest t rows a en dp
  obtain ⟨L,ts,rfl,ho,h⟩:=h;split at h
  ·skip
   refine ⟨Za [],1,false,sM,Ta rfl,wN ?_⟩;refine ⟨L,ts,rfl,ho,wN ?_⟩;exact h
  exact h.elim
 exact h.elim
noncomputable def ZnF:Tbl:=[(113,Zhr)]
theorem Zuj (ht:TO w0 nG ZnF):PC w0 nG 171 WR:=by
 refine Zd Zb mixed (tbl:=ZnF) ht Tryz.func171 rfl kR kR ?_;intro args σ K h
 unfold WR X8 at h
 split at h
 ·rename_i rest t rows a en dp
  obtain ⟨L,ts,rfl,ho,h⟩:=h;split at h
  ·rename_i rows
   obtain ⟨ws,rfl,hw,h1,h2⟩:=h;refine ⟨Za [],1,false,sM,Ta rfl,wN ?_⟩;refine ⟨L,ts,rfl,ho,ws,rfl,hw,fun b hb=>?_⟩
   cases b with
   | true =>
    have ac:=ho.tl (ZS hb);have g1:=ho.lo;have g2:=ac.hi;have g3:=ac.big;(conv=>whnf);refine Or.inl ⟨InR.i64 oM oM,wN ?_⟩;exact h1 hb ac
   | false =>
   conv=>whnf
   exact h2 hb
  exact h.elim
 exact h.elim
noncomputable def ZnG:Tbl:=[(171,WR),(112,Xm)]
theorem Zuk (ht:TO w0 nG ZnG):PC w0 nG 120 Wa:=by
 refine Zd Zb mixed (tbl:=ZnG) ht Tryz.func120 rfl kR kR ?_;intro args σ K h
 unfold Wa X8 at h
 split at h
 ·rename_i rest t rows a en dp
  obtain ⟨L,ts,rfl,ho,h⟩:=h;split at h
  ·rename_i w
   refine ⟨Za [],1,false,sM,Ta rfl,wN ?_⟩;refine ⟨L,ts,rfl,ho,[w],rfl,sM,fun hb ac=>wN ?_,fun hb=>wN ?_⟩
   ·have h:=h _ rfl;rw [ZT,Tg hb] at h;exact h _ oM ac
   refine ⟨L,ts,rfl,ho,wN ?_⟩;have h:=h _ rfl;rw [ZT,Tc (by rw [hb];simp)] at h;exact h _ _
  exact h.elim
 exact h.elim
noncomputable def ZnH:Tbl:=[(112,Xm)]
theorem Zul (ht:TO w0 nG ZnH):PC w0 nG 114 ZjS:=by
 refine Zd Zb mixed (tbl:=ZnH) ht Tryz.func114 rfl kR kR ?_;intro args σ K h
 unfold ZjS X8 at h
 split at h
 ·rename_i rest t rows a en dp
  obtain ⟨L,ts,rfl,ho,h⟩:=h;split at h
  ·rename_i n m
   refine ⟨Za [],1,false,sM,Ta rfl,wN ?_⟩;have g1:=ho.lo;have g2:=ho.hi;have g3:=ho.big;refine ZBC (fun hc=>wN ?_) (fun hc=>wN ?_)
   ·refine ⟨L,ts,rfl,ho,wN ?_⟩;exact h.1 hc
   refine Or.inl ⟨InR.i64 oM oM,wN ?_⟩;exact h.2 hc
  exact h.elim
 exact h.elim
noncomputable def ZjV:Tbl:=[(122,(Zaj Zq)),(112,Xm)]
theorem Zq6 (ht:TO w0 nG ZjV):PC w0 nG 119 We:=by
 refine Zd Zb mixed (tbl:=ZjV) ht Tryz.func119 rfl kR kR ?_;intro args σ K h
 unfold We spR X8 at h
 split at h
 ·rename_i rest t rows a en dp
  obtain ⟨L,ts,rfl,ho,h⟩:=h;split at h
  ·skip
   refine ⟨Za [],1,false,sM,Ta rfl,wN ?_⟩;have h:=h _ rfl;refine ⟨L,ts,rfl,ho,fun b hb=>?_⟩
   cases b with
   | true =>
    have ac:=ho.tl (Za5 hb);have g1:=ho.lo;have g2:=ac.hi;have g3:=ac.big;rw [Z2,Tg hb] at h;(conv=>whnf);refine Or.inl ⟨InR.i64 oM oM,wN ?_⟩;refine Or.inl ⟨InR.i64 oM oM,wN ?_⟩
    cases ts with
    | nil=>exact absurd rfl (Za5 hb)
    | cons t0 ts =>
    obtain ⟨x,hx,rfl,hp⟩:=ho.get;refine ⟨ZqJ x,oM,by rw [show a+1 - 1=a by omega];simp [Zy,hx],wN ?_⟩;exact h _ oM ac
   | false =>
   rw [Z2,Tc (by rw [hb];simp)] at h;(conv=>whnf);exact m98
  exact h.elim
 exact h.elim
noncomputable def Zht:Tbl:=[(169,Za7),(113,Zhr),(89,Zhq),(157,X6)]
theorem ZnI (ht:TO w0 nG Zht):PC w0 nG 227 (Zaj ZA):=by
 refine Zd Zb mixed (tbl:=Zht) ht Tryz.func227 rfl kR kR ?_;intro args σ K h
 unfold Zaj X8 at h
 split at h
 ·rename_i rest t rows a en dp
  obtain ⟨L,ts,rfl,ho,h⟩:=h;split at h
  ·skip
   refine ⟨Za [],1,false,sM,Ta rfl,wN ?_⟩;refine ⟨L,ts,rfl,ho,fun fin=>Or.inl ⟨rfl,wN ?_⟩⟩;refine ZBC (fun h1=>wN ?_) (fun h1=>wN ?_)
   ·refine ZBC (fun _=>wN ?_) (fun g=>absurd h1 g);exact h _ (by rw [ZA,Tg oM])
   refine ZBC (fun h2=>wN ?_) (fun h2=>wN ?_)
   ·exact h _ (by rw [ZA,Tg oM])
   refine ZBC (fun h3=>wN ?_) (fun h3=>wN ?_)
   ·refine ⟨L,ts,rfl,ho,[[45],[126],[40],[91],[36]],rfl,sM,fun b hb=>wN ?_⟩;exact h _ (by rw [ZA,Tc oM,Tg oM];exact hb)
   refine ZBC (fun h4=>wN ?_) (fun h4=>wN ?_)
   ·have e0:ZA ts=(!Zbn (hd ts).text || (decide ((hd ts).text=[110,105,108]) || decide (ZU (hd ts).text≠0))):=by rw [ZA,Tc oM,Tc oM,Tg oM]
    rw [e0] at h;intro b hb
    rw [hb] at h
    cases b with
    | false => conv => whnf
               exact h _ rfl
    | true =>
    conv=>whnf
    refine ZBC (fun h5=>wN ?_) (fun h5=>wN ?_)
    ·exact h _ (by rw [TC (p:=(hd ts).text=[110,105,108]) h5];rfl)
    intro n hn
    conv=>whnf
    exact h _ (by rw [decide_eq_false (p:=(hd ts).text=[110,105,108]) h5,<- hn];by_cases g:ZU (hd ts).text=0 <;> simp [g])
   exact h _ (by rw [ZA,Tc oM,Tc oM,Tc oM])
  exact h.elim
 exact h.elim
noncomputable def Zq7:Zt:=X8 fun rest L en dp a ts K=>match rest with
 | []=>∀n k:Int,((Wn ts).1:Int)=n->((Wn ts).2:Int)=k->K (.ret (.tuple [.d (.int .i64 n),.d (.int .u8 k)])) a dp
 | _=>False
noncomputable def ZsK:Tbl:=[(169,Za7)]
theorem ZnJ (ht:TO w0 nG ZsK):PC w0 nG 192 Zq7:=by
 refine Zd Zb mixed (tbl:=ZsK) ht Tryz.func192 rfl kR kR ?_;intro args σ K h
 unfold Zq7 X8 at h
 split at h
 ·rename_i rest t rows a en dp
  obtain ⟨L,ts,rfl,ho,h⟩:=h;split at h
  ·skip
   refine ⟨Za [],1,false,sM,Ta rfl,wN ?_⟩;refine ⟨L,ts,rfl,ho,fun fin=>Or.inl ⟨rfl,wN ?_⟩⟩;refine ZBE (fun h1=>wN ?_) (fun h1=>?_)
   ·refine ZBE (fun h2=>wN ?_) (fun h2=>?_)
    ·have e0:Wn ts=(0,0):=by rw [Wn,Tg oM]
     exact h _ _ (by rw [e0];rfl) (by rw [e0];rfl)
    have hn:¬((hd ts).kind≠1/\(hd ts).kind≠4):=by omega
    clear h1 h2
    exact m134
   have hn:¬((hd ts).kind≠1/\(hd ts).kind≠4):=by omega
   clear h1
   exact m134
  exact h.elim
 exact h.elim
noncomputable def ZnK (body:List PV->List Tok->Int->Int->Int->Ts->RK->Prop):Zt:=fun args σ K=>match args,σ with
 | .ptr 0 0::rest,⟨[.cells t0 [.ptr 1 0],.cells t [.d (.sl rows),.d (.int .i64 a),.d (.int .i64 en),.d (.int .i64 dp)]],[],0⟩=>∃L ts,rows=Zy L/\ROK L a ts /\
   body rest L en dp a ts fun pe a' dp'=>K pe ⟨[.cells t0 [.ptr 1 0],.cells t [.d (.sl (Zy L)),.d (.int .i64 a'),.d (.int .i64 en),.d (.int .i64 dp')]],[],0⟩
 | _,_=>False
noncomputable def ZwB {α:Type} (enc:List Tok->Int->α->PV) (P:Ts->R α) (lo:Int):Zt:=ZnK fun rest L en dp a ts K=>match rest with
 | []=>∀x,P ts=x->RKk (enc L en) L en dp (a+lo) x K
 | _=>False
noncomputable def ZjW (p:Ts->Bool):Zt:=ZnK fun rest L en dp a ts K=>match rest with
 | []=>∀b,p ts=b->K (.ret (.d (.bool b))) a dp
 | _=>False
noncomputable def Zh3 {α:Type} (enc:List Tok->Int->α->PV) (P:Ts->R α) (lo:Int) (d:Nat):Zt:=X8 fun rest L en dp a ts K=>match rest with
 | []=>(dp=64 - (d:Int)/\0<=dp)/\∀x,P ts=x->RKk (enc L en) L en dp (a+lo) x K
 | _=>False
theorem ZH {α β:Type} (f:α->β) (l:List α) (x:α):l.map f++[f x]=(l++[x]).map f:=sM
theorem Vj {α : Type} (sign : Bs) (most : Nat) (st : Ts -> Bool) (one : Ts -> R α) (f : Nat) (l : List α) (ts : Ts) : Xl sign most st one (f + 1) l ts = if st ts = true /\ l.length = most then .err ts.length 3
      else (one ts).bind fun x ts=>if isW ts [sign]=true then Xl sign most st one f (l++[x]) ts.tail else .ok (l++[x]) ts:=rfl
noncomputable def Zal:Zt:=fun args σ K=>match args,σ with
 | [.ptr 0 0,.d (.str sg),.d (.int .i64 m),.func g1 [.ptr 0 0] [],.func g2 [] [.ptr 1 0]],⟨[.cells t [.d (.sl rows),.d (.int .i64 a),.d (.int .i64 en),.d (.int .i64 dp)],.cells t0 [.ptr 0 0]],[],0⟩ =>
   (sg=[44]/\m=12/\g1=122/\g2=224)/\∃L ts,rows=Zy L/\ROK L a ts/\∀x,YM [44] 12 Zq YP ts=x ->
    RKk (fun (l:List Fi)=>.d (.sl (l.map (ZJ)))) L en dp a x fun pe a' dp'=>K pe ⟨[.cells t [.d (.sl (Zy L)),.d (.int .i64 a'),.d (.int .i64 en),.d (.int .i64 dp')],.cells t0 [.ptr 0 0]],[],0⟩
 | _,_=>False
noncomputable def Zcn:Tbl:=[(122,(Zaj Zq)),(112,Xm),(224,(ZwB (fun _ _ (v:Fi)=>Za6 (ZJ v)) YP 1)),(171,WR)]
theorem Zhu (ht:TO w0 nG (Zcn)):PC w0 nG 223 (Zal):=by
 refine Zd Zb mixed (tbl:=Zcn) ht Tryz.func223 rfl kR kR ?_;intro args σ K h
 unfold Zal at h
 split at h
 ·rename_i sg m g1 g2 t rows a en dp t0
  obtain ⟨⟨rfl,rfl,rfl,rfl⟩,L,ts,rfl,ho,h⟩:=h;have h:=h _ rfl;have hl:=ho.len;have et:=ho.big;have mf:=ho.lo;refine ⟨Za [(2,⟨[11],[0,1,2,3,4],fun vs σ=>∃(l:List Fi) (a':Int) (ts':Ts) (f:Nat),vs=[.sl 0 100 (l.map (ZJ))] /\
   σ=⟨[.cells t [.d (.sl (Zy L)),.d (.int .i64 a'),.d (.int .i64 en),.d (.int .i64 dp)],.cells t0 [.ptr 0 0]],[0],1⟩/\ROK L a' ts'/\a+l.length<=a'/\ts'.length<f /\
   YM [44] 12 Zq YP ts=Xl [44] 12 Zq YP f l ts',
   fun _ σ=>match σ with | ⟨.cells _ [_,.d (.int _ i),_,_]::_,_,_⟩=>((L.length:Int) - i).toNat | _=>0⟩)],2,false,sM,Ta rfl,?_⟩
  conv=>whnf
  refine ⟨⟨[],a,ts,ts.length+1,rfl,rfl,ho,sM,oM,rfl⟩,?_⟩;intro vs σ hI
  obtain ⟨l,a1,ts1,f,rfl,rfl,af,zo,hf,hm⟩:=hI;obtain ⟨f,rfl⟩:∃g,f=g+1:=⟨f - 1,oM⟩
  rw [Vj] at hm;have dx:=af.len;have rp:=af.hi;(conv=>whnf);refine ⟨L,ts1,rfl,af,fun b hb=>?_⟩;have step:(¬(Zq ts1=true/\l.length=12))->YM [44] 12 Zq YP ts=((YP) ts1).bind fun x ts=>if isW ts [[44]]=true then Xl [44] 12 Zq YP f (l++[x]) ts.tail else .ok (l++[x]) ts:=fun g=>by rw [hm,Tc g]
  cases b with
  | false =>
   have step:=step (by rw [hb];simp);(conv=>whnf);exact m32
  | true =>
  conv=>whnf
  refine ZBC (fun hc=>wN ?_) (fun hc=>wN ?_)
  ·have hc:l.length=12:=by
    have hc:((l.map (ZJ)).length:Int)=12:=hc;rw [Te] at hc;omega
   exact m97
  have step:=step (fun g=>hc (by show ((l.map (ZJ)).length:Int)=12;rw [Te,g.2];rfl));exact m32
 exact h.elim
noncomputable def ZdC:Zt:=fun args σ K=>match args,σ with
 | [.ptr 0 0,.d (.str sg),.d (.int .i64 m),.func g1 [.ptr 0 0] [],.func g2 [.ptr 0 0] []],⟨[.cells t [.d (.sl rows),.d (.int .i64 a),.d (.int .i64 en),.d (.int .i64 dp)]],[],0⟩ =>
   (sg=[44]/\m=12/\g1=122/\g2=119)/\∃L ts,rows=Zy L/\ROK L a ts/\∀x,YM [44] 12 Zq Z2 ts=x ->
    RKk (fun (l:List Bs)=>.d (.sl (l.map (ZB)))) L en dp a x fun pe a' dp'=>K pe ⟨[.cells t [.d (.sl (Zy L)),.d (.int .i64 a'),.d (.int .i64 en),.d (.int .i64 dp')]],[],0⟩
 | _,_=>False
noncomputable def Ze7:Tbl:=[(122,(Zaj Zq)),(112,Xm),(119,We),(171,WR)]
theorem ZlL (ht:TO w0 nG (Ze7)):PC w0 nG 177 (ZdC):=by
 refine Zd Zb mixed (tbl:=Ze7) ht Tryz.func177 rfl kR kR ?_;intro args σ K h
 unfold ZdC at h
 split at h
 ·rename_i sg m g1 g2 t rows a en dp
  obtain ⟨⟨rfl,rfl,rfl,rfl⟩,L,ts,rfl,ho,h⟩:=h;have h:=h _ rfl;have hl:=ho.len;have et:=ho.big;have mf:=ho.lo;refine ⟨Za [(2,⟨[11],[0,1,2,3,4],fun vs σ=>∃(l:List Bs) (a':Int) (ts':Ts) (f:Nat),vs=[.sl 0 9 (l.map (ZB))] /\
   σ=⟨[.cells t [.d (.sl (Zy L)),.d (.int .i64 a'),.d (.int .i64 en),.d (.int .i64 dp)]],[0],1⟩/\ROK L a' ts'/\a+l.length<=a'/\ts'.length<f /\
   YM [44] 12 Zq Z2 ts=Xl [44] 12 Zq Z2 f l ts',
   fun _ σ=>match σ with | ⟨.cells _ [_,.d (.int _ i),_,_]::_,_,_⟩=>((L.length:Int) - i).toNat | _=>0⟩)],1,false,sM,Ta rfl,?_⟩
  conv=>whnf
  refine ⟨⟨[],a,ts,ts.length+1,rfl,rfl,ho,sM,oM,rfl⟩,?_⟩;intro vs σ hI
  obtain ⟨l,a1,ts1,f,rfl,rfl,af,zo,hf,hm⟩:=hI;obtain ⟨f,rfl⟩:∃g,f=g+1:=⟨f - 1,oM⟩
  rw [Vj] at hm;have dx:=af.len;have rp:=af.hi;(conv=>whnf);refine ⟨L,ts1,rfl,af,fun b hb=>?_⟩;have step:(¬(Zq ts1=true/\l.length=12))->YM [44] 12 Zq Z2 ts=((Z2) ts1).bind fun x ts=>if isW ts [[44]]=true then Xl [44] 12 Zq Z2 f (l++[x]) ts.tail else .ok (l++[x]) ts:=fun g=>by rw [hm,Tc g]
  cases b with
  | false =>
   have step:=step (by rw [hb];simp);(conv=>whnf);exact m35
  | true =>
  conv=>whnf
  refine ZBC (fun hc=>wN ?_) (fun hc=>wN ?_)
  ·have hc:l.length=12:=by
    have hc:((l.map (ZB)).length:Int)=12:=hc;rw [Te] at hc;omega
   exact m97
  have step:=step (fun g=>hc (by show ((l.map (ZB)).length:Int)=12;rw [Te,g.2];rfl));exact m35
 exact h.elim
noncomputable def ZbK:Zt:=fun args σ K=>match args,σ with
 | [.ptr 0 0,.d (.str sg),.d (.int .i64 m),.func g1 [.ptr 0 0] [],.func g2 [] [.ptr 1 0]],⟨[.cells t [.d (.sl rows),.d (.int .i64 a),.d (.int .i64 en),.d (.int .i64 dp)],.cells t0 [.ptr 0 0]],[],0⟩ =>
   (sg=[124]/\m=64/\g1=122/\g2=174)/\∃L ts,rows=Zy L/\ROK L a ts/\∀x,YM [124] 64 Zq Wo ts=x ->
    RKk (fun (l:List Ca)=>.d (.sl (l.map (ZZ)))) L en dp a x fun pe a' dp'=>K pe ⟨[.cells t [.d (.sl (Zy L)),.d (.int .i64 a'),.d (.int .i64 en),.d (.int .i64 dp')],.cells t0 [.ptr 0 0]],[],0⟩
 | _,_=>False
noncomputable def ZdD:Tbl:=[(122,(Zaj Zq)),(112,Xm),(174,(ZwB (fun _ _ (v:Ca)=>Za6 (ZZ v)) Wo 1)),(171,WR)]
theorem ZiP (ht:TO w0 nG (ZdD)):PC w0 nG 173 (ZbK):=by
 refine Zd Zb mixed (tbl:=ZdD) ht Tryz.func173 rfl kR kR ?_;intro args σ K h
 unfold ZbK at h
 split at h
 ·rename_i sg m g1 g2 t rows a en dp t0
  obtain ⟨⟨rfl,rfl,rfl,rfl⟩,L,ts,rfl,ho,h⟩:=h;have h:=h _ rfl;have hl:=ho.len;have et:=ho.big;have mf:=ho.lo;refine ⟨Za [(2,⟨[11],[0,1,2,3,4],fun vs σ=>∃(l:List Ca) (a':Int) (ts':Ts) (f:Nat),vs=[.sl 0 70 (l.map (ZZ))] /\
   σ=⟨[.cells t [.d (.sl (Zy L)),.d (.int .i64 a'),.d (.int .i64 en),.d (.int .i64 dp)],.cells t0 [.ptr 0 0]],[0],1⟩/\ROK L a' ts'/\a+l.length<=a'/\ts'.length<f /\
   YM [124] 64 Zq Wo ts=Xl [124] 64 Zq Wo f l ts',
   fun _ σ=>match σ with | ⟨.cells _ [_,.d (.int _ i),_,_]::_,_,_⟩=>((L.length:Int) - i).toNat | _=>0⟩)],2,false,sM,Ta rfl,?_⟩
  conv=>whnf
  refine ⟨⟨[],a,ts,ts.length+1,rfl,rfl,ho,sM,oM,rfl⟩,?_⟩;intro vs σ hI
  obtain ⟨l,a1,ts1,f,rfl,rfl,af,zo,hf,hm⟩:=hI;obtain ⟨f,rfl⟩:∃g,f=g+1:=⟨f - 1,oM⟩
  rw [Vj] at hm;have dx:=af.len;have rp:=af.hi;(conv=>whnf);refine ⟨L,ts1,rfl,af,fun b hb=>?_⟩;have step:(¬(Zq ts1=true/\l.length=64))->YM [124] 64 Zq Wo ts=((Wo) ts1).bind fun x ts=>if isW ts [[124]]=true then Xl [124] 64 Zq Wo f (l++[x]) ts.tail else .ok (l++[x]) ts:=fun g=>by rw [hm,Tc g]
  cases b with
  | false =>
   have step:=step (by rw [hb];simp);(conv=>whnf);exact m33
  | true =>
  conv=>whnf
  refine ZBC (fun hc=>wN ?_) (fun hc=>wN ?_)
  ·have hc:l.length=64:=by
    have hc:((l.map (ZZ)).length:Int)=64:=hc;rw [Te] at hc;omega
   exact m97
  have step:=step (fun g=>hc (by show ((l.map (ZZ)).length:Int)=64;rw [Te,g.2];rfl));exact m33
 exact h.elim
noncomputable def Za8 (d:Nat):Zt:=fun args σ K=>match args,σ with
 | [.ptr 0 0,.d (.str sg),.d (.int .i64 m),.func g1 [.ptr 0 0] [],.func g2 [.ptr 0 0] []],⟨[.cells t [.d (.sl rows),.d (.int .i64 a),.d (.int .i64 en),.d (.int .i64 dp)]],[],0⟩ =>
   (sg=[44]/\m=12/\g1=227/\g2=70/\(dp=64 - (d:Int)/\0<=dp))/\∃L ts,rows=Zy L/\ROK L a ts/\∀x,YM [44] 12 ZA (Ya d) ts=x ->
    RKk (fun (l:List Ex)=>.d (.sl (l.map (YE (Zg L en))))) L en dp a x fun pe a' dp'=>K pe ⟨[.cells t [.d (.sl (Zy L)),.d (.int .i64 a'),.d (.int .i64 en),.d (.int .i64 dp')]],[],0⟩
 | _,_=>False
noncomputable def Zhv (d:Nat):Tbl:=[(227,(Zaj ZA)),(112,Xm),(70,(Zh3 (fun L en (v:Ex)=>Za6 (YE (Zg L en) v)) (Ya d) 0 d)),(171,WR)]
theorem ZnL (d:Nat) (ht:TO w0 nG (Zhv d)):PC w0 nG 226 (Za8 d):=by
 refine Zd Zb mixed (tbl:=Zhv d) ht Tryz.func226 rfl kR kR ?_;intro args σ K h
 unfold Za8 at h
 split at h
 ·rename_i sg m g1 g2 t rows a en dp
  obtain ⟨⟨rfl,rfl,rfl,rfl,d7⟩,L,ts,rfl,ho,h⟩:=h;have h:=h _ rfl;have hl:=ho.len;have et:=ho.big;have mf:=ho.lo;refine ⟨Za [(2,⟨[11],[0,1,2,3,4],fun vs σ=>∃(l:List Ex) (a':Int) (ts':Ts) (f:Nat),vs=[.sl 0 48 (l.map (YE (Zg L en)))] /\
   σ=⟨[.cells t [.d (.sl (Zy L)),.d (.int .i64 a'),.d (.int .i64 en),.d (.int .i64 dp)]],[0],1⟩/\ROK L a' ts'/\a+l.length<=a'/\ts'.length<f /\
   YM [44] 12 ZA (Ya d) ts=Xl [44] 12 ZA (Ya d) f l ts',
   fun _ σ=>match σ with | ⟨.cells _ [_,.d (.int _ i),_,_]::_,_,_⟩=>((L.length:Int) - i).toNat | _=>0⟩)],1,false,sM,Ta rfl,?_⟩
  conv=>whnf
  refine ⟨⟨[],a,ts,ts.length+1,rfl,rfl,ho,sM,oM,rfl⟩,?_⟩;intro vs σ hI
  obtain ⟨l,a1,ts1,f,rfl,rfl,af,zo,hf,hm⟩:=hI;obtain ⟨f,rfl⟩:∃g,f=g+1:=⟨f - 1,oM⟩
  rw [Vj] at hm;have dx:=af.len;have rp:=af.hi;(conv=>whnf);refine ⟨L,ts1,rfl,af,fun b hb=>?_⟩;have step:(¬(ZA ts1=true/\l.length=12))->YM [44] 12 ZA (Ya d) ts=(((Ya d)) ts1).bind fun x ts=>if isW ts [[44]]=true then Xl [44] 12 ZA (Ya d) f (l++[x]) ts.tail else .ok (l++[x]) ts:=fun g=>by rw [hm,Tc g]
  cases b with
  | false =>
   have step:=step (by rw [hb];simp);(conv=>whnf);exact m28
  | true =>
  conv=>whnf
  refine ZBC (fun hc=>wN ?_) (fun hc=>wN ?_)
  ·have hc:l.length=12:=by
    have hc:((l.map (YE (Zg L en))).length:Int)=12:=hc;rw [Te] at hc;omega
   exact m97
  have step:=step (fun g=>hc (by show ((l.map (YE (Zg L en))).length:Int)=12;rw [Te,g.2];rfl));exact m28
 exact h.elim
noncomputable def ZfW (d:Nat):Zt:=fun args σ K=>match args,σ with
 | [.ptr 0 0,.d (.str sg),.d (.int .i64 m),.func g1 [] [.ptr 1 0],.func g2 [.ptr 0 0] []],⟨[.cells t [.d (.sl rows),.d (.int .i64 a),.d (.int .i64 en),.d (.int .i64 dp)],.cells t0 [.ptr 0 0]],[],0⟩ =>
   (sg=[44]/\m=32/\g1=229/\g2=230/\(dp=64 - (d:Int)/\0<=dp))/\∃L ts,rows=Zy L/\ROK L a ts/\∀x,YM [44] 32 ZE (ZaB d (WJ d)) ts=x ->
    RKk (fun (l:List Li)=>.d (.sl (l.map (XI (Zg L en))))) L en dp a x fun pe a' dp'=>K pe ⟨[.cells t [.d (.sl (Zy L)),.d (.int .i64 a'),.d (.int .i64 en),.d (.int .i64 dp')],.cells t0 [.ptr 0 0]],[],0⟩
 | _,_=>False
noncomputable def Zhw (d:Nat):Tbl:=[(229,(ZjW ZE)),(112,Xm),(230,(Zh3 (fun L en (v:Li)=>Za6 (XI (Zg L en) v)) (ZaB d (WJ d)) 0 d)),(171,WR)]
theorem ZnM (d:Nat) (ht:TO w0 nG (Zhw d)):PC w0 nG 228 (ZfW d):=by
 refine Zd Zb mixed (tbl:=Zhw d) ht Tryz.func228 rfl kR kR ?_;intro args σ K h
 unfold ZfW at h
 split at h
 ·rename_i sg m g1 g2 t rows a en dp t0
  obtain ⟨⟨rfl,rfl,rfl,rfl,d7⟩,L,ts,rfl,ho,h⟩:=h;have h:=h _ rfl;have hl:=ho.len;have et:=ho.big;have mf:=ho.lo;refine ⟨Za [(2,⟨[11],[0,1,2,3,4],fun vs σ=>∃(l:List Li) (a':Int) (ts':Ts) (f:Nat),vs=[.sl 0 151 (l.map (XI (Zg L en)))] /\
   σ=⟨[.cells t [.d (.sl (Zy L)),.d (.int .i64 a'),.d (.int .i64 en),.d (.int .i64 dp)],.cells t0 [.ptr 0 0]],[0],1⟩/\ROK L a' ts'/\a+l.length<=a'/\ts'.length<f /\
   YM [44] 32 ZE (ZaB d (WJ d)) ts=Xl [44] 32 ZE (ZaB d (WJ d)) f l ts',
   fun _ σ=>match σ with | ⟨.cells _ [_,.d (.int _ i),_,_]::_,_,_⟩=>((L.length:Int) - i).toNat | _=>0⟩)],2,false,sM,Ta rfl,?_⟩
  conv=>whnf
  refine ⟨⟨[],a,ts,ts.length+1,rfl,rfl,ho,sM,oM,rfl⟩,?_⟩;intro vs σ hI
  obtain ⟨l,a1,ts1,f,rfl,rfl,af,zo,hf,hm⟩:=hI;obtain ⟨f,rfl⟩:∃g,f=g+1:=⟨f - 1,oM⟩
  rw [Vj] at hm;have dx:=af.len;have rp:=af.hi;(conv=>whnf);refine ⟨L,ts1,rfl,af,fun b hb=>?_⟩;have step:(¬(ZE ts1=true/\l.length=32))->YM [44] 32 ZE (ZaB d (WJ d)) ts=(((ZaB d (WJ d))) ts1).bind fun x ts=>if isW ts [[44]]=true then Xl [44] 32 ZE (ZaB d (WJ d)) f (l++[x]) ts.tail else .ok (l++[x]) ts:=fun g=>by rw [hm,Tc g]
  cases b with
  | false =>
   have step:=step (by rw [hb];simp);(conv=>whnf);exact m27
  | true =>
  conv=>whnf
  refine ZBC (fun hc=>wN ?_) (fun hc=>wN ?_)
  ·have hc:l.length=32:=by
    have hc:((l.map (XI (Zg L en))).length:Int)=32:=hc;rw [Te] at hc;omega
   exact m97
  have step:=step (fun g=>hc (by show ((l.map (XI (Zg L en))).length:Int)=32;rw [Te,g.2];rfl));exact m27
 exact h.elim
noncomputable abbrev ZfX:Zt:=ZwB (fun _ _ (v:Fi)=>Za6 (ZJ v)) YP 1
noncomputable abbrev ZiQ:Zt:=ZwB (fun _ _ (v:Ca)=>Za6 (ZZ v)) Wo 1
noncomputable def Jt:Zt:=X8 fun rest L en dp a ts K=>match rest with
 | [.d (.str w)]=>∀x,Yu w ts=x->RKk (fun (v:List Fi)=>.d (.sl (v.map ZJ))) L en dp a x K
 | _=>False
noncomputable abbrev ZdE:Zt:=spR (fun _ _ (v:List Bs)=>.d (.sl (v.map ZB))) Y6 0
noncomputable abbrev ZfY:Zt:=spR (fun L en (v:Ty)=>Za6 (Z1 (Zg L en) v)) UQ 0
noncomputable abbrev ZjX:Zt:=spR (fun L en (v:Re)=>Za6 (Z3 (Zg L en) v)) ZcT 0
noncomputable def Zhx:Tbl:=[(119,We),(120,Wa)]
theorem ZnN (ht:TO w0 nG Zhx):PC w0 nG 224 ZfX:=by
 refine Zd Zb mixed (tbl:=Zhx) ht Tryz.func224 rfl kR kR ?_;intro args σ K h
 unfold ZfX ZwB ZnK at h
 split at h
 ·rename_i rest t0 t rows a en dp
  obtain ⟨L,ts,rfl,ho,h⟩:=h;split at h
  ·skip
   have h0:=ho.lo;have h1:=ho.hi;have h2:=ho.big;refine ⟨Za [],2,false,sM,Ta rfl,wN ?_⟩;have h:=h _ rfl;unfold YP at h
   refine ⟨L,ts,rfl,ho,fun x fd=>?_⟩;rcases x with ⟨v1,ts1⟩ | ⟨r1,e1⟩
   rotate_left
   ·exact m65
   rw [fd,R.bind_ok] at h;intro a1 fj af
   have aj:=af.hi;(conv=>whnf);refine ⟨L,ts1,rfl,af,fun x dt=>?_⟩;exact m212
  exact h.elim
 exact h.elim
noncomputable def Zhy:Tbl:=[(113,Zhr),(223,Zal)]
theorem ZnO (ht:TO w0 nG Zhy):PC w0 nG 172 Jt:=by
 refine Zd Zb mixed (tbl:=Zhy) ht Tryz.func172 rfl kR kR ?_;intro args σ K h
 unfold Jt X8 at h
 split at h
 ·rename_i rest t rows a en dp
  obtain ⟨L,ts,rfl,ho,h⟩:=h;split at h
  ·rename_i w
   have h0:=ho.lo;have h1:=ho.hi;have h2:=ho.big;refine ⟨Za [],1,false,sM,Ta rfl,wN ?_⟩;have h:=h _ rfl;unfold Yu at h
   refine ⟨L,ts,rfl,ho,[w],rfl,sM,fun b1 ew=>?_⟩
   cases b1 with
   | true =>
    rw [Tg ew] at h;(conv=>whnf);exact h _ oM ho
   | false =>
   rw [Tc (by rw [ew];simp)] at h;(conv=>whnf);refine ⟨⟨rfl,rfl,rfl,rfl⟩,L,ts,rfl,ho,fun x dt=>?_⟩;rcases x with ⟨v2,ts2⟩ | ⟨r2,e2⟩
   rotate_left
   ·rw [dt] at h;intro a9 d9;(conv=>whnf);exact h _ _
   rw [dt] at h;intro a2 fx ac
   have bp:=ac.hi;(conv=>whnf);exact h _ oM ac
  exact h.elim
 exact h.elim
noncomputable def ZjY:Tbl:=[(171,WR),(177,ZdC),(120,Wa)]
theorem Zq8 (ht:TO w0 nG ZjY):PC w0 nG 121 ZdE:=by
 refine Zd Zb mixed (tbl:=ZjY) ht Tryz.func121 rfl kR kR ?_;intro args σ K h
 unfold ZdE spR X8 at h
 split at h
 ·rename_i rest t rows a en dp
  obtain ⟨L,ts,rfl,ho,h⟩:=h;split at h
  ·skip
   have h0:=ho.lo;have h1:=ho.hi;have h2:=ho.big;refine ⟨Za [],1,false,sM,Ta rfl,wN ?_⟩;have h:=h _ rfl;unfold Y6 at h
   refine ⟨L,ts,rfl,ho,[[60]],rfl,sM,fun ew af=>wN ?_,fun ew=>wN ?_⟩
   ·rw [Tg ew] at h;have aj:=af.hi;refine ⟨⟨rfl,rfl,rfl,rfl⟩,L,ts.tail,rfl,af,fun x dt=>?_⟩;exact m212
   rw [Tc (by rw [ew];simp)] at h;exact h _ oM ho
  exact h.elim
 exact h.elim
noncomputable def ZjZ:Tbl:=[(119,We),(120,Wa),(172,Jt)]
theorem Zq9 (ht:TO w0 nG ZjZ):PC w0 nG 174 ZiQ:=by
 refine Zd Zb mixed (tbl:=ZjZ) ht Tryz.func174 rfl kR kR ?_;intro args σ K h
 unfold ZiQ ZwB ZnK at h
 split at h
 ·rename_i rest t0 t rows a en dp
  obtain ⟨L,ts,rfl,ho,h⟩:=h;split at h
  ·skip
   have h0:=ho.lo;have h1:=ho.hi;have h2:=ho.big;refine ⟨Za [],2,false,sM,Ta rfl,wN ?_⟩;have h:=h _ rfl;unfold Wo at h
   refine ⟨L,ts,rfl,ho,fun x fd=>?_⟩;rcases x with ⟨v1,ts1⟩ | ⟨r1,e1⟩
   rotate_left
   ·exact m65
   rw [fd,R.bind_ok] at h;intro a1 fj af
   have aj:=af.hi;(conv=>whnf);refine ⟨L,ts1,rfl,af,fun x dt=>?_⟩;rcases x with ⟨v2,ts2⟩ | ⟨r2,e2⟩
   rotate_left
   ·exact m54
   rw [dt,R.bind_ok] at h;intro a2 fx ac
   have bp:=ac.hi;(conv=>whnf);refine ⟨L,ts2,rfl,ac,fun x gf=>?_⟩;rcases x with ⟨v3,ts3⟩ | ⟨r3,e3⟩
   rotate_left
   ·exact m29
   rw [gf,R.bind_ok] at h;intro a3 i9 ai
   have f6:=ai.hi;(conv=>whnf);refine ⟨L,ts3,rfl,ai,fun x np=>?_⟩;rcases x with ⟨v4,ts4⟩ | ⟨r4,e4⟩
   rotate_left
   ·exact m116
   rw [np,R.bind_ok] at h;intro a4 n7 av
   have qq:=av.hi;(conv=>whnf);exact h _ oM av
  exact h.elim
 exact h.elim
noncomputable def Zj0:Tbl:=[(118,Vi),(119,We),(171,WR),(120,Wa),(172,Jt),(173,ZbK)]
theorem Zra (ht:TO w0 nG Zj0):PC w0 nG 115 ZfY:=by
 refine Zd Zb mixed (tbl:=Zj0) ht Tryz.func115 rfl kR kR ?_;intro args σ K h
 unfold ZfY spR X8 at h
 split at h
 ·rename_i rest t rows a en dp
  obtain ⟨L,ts,rfl,ho,h⟩:=h;split at h
  ·skip
   have h0:=ho.lo;have h1:=ho.hi;have h2:=ho.big;refine ⟨Za [],1,false,sM,Ta rfl,wN ?_⟩;have h:=h _ rfl;unfold UQ at h
   refine ⟨L,ts,rfl,ho,wN ?_⟩;refine ⟨L,ts,rfl,ho,fun x fd=>?_⟩;rcases x with ⟨v1,ts1⟩ | ⟨r1,e1⟩
   rotate_left
   ·exact m65
   rw [fd,R.bind_ok] at h;intro a1 fj af
   have aj:=af.hi;(conv=>whnf);refine ⟨L,ts1,rfl,af,[[60,58]],rfl,sM,fun ki ac=>wN ?_,fun ki=>wN ?_⟩
   ·rw [Tg ki] at h;have bp:=ac.hi;refine ⟨L,ts1.tail,rfl,ac,fun x gf=>?_⟩;rcases x with ⟨v3,ts3⟩ | ⟨r3,e3⟩
    rotate_left
    ·exact m29
    exact m128
   rw [Tc (by rw [ki];simp)] at h;refine ⟨L,ts1,rfl,af,fun x gf=>?_⟩;rcases x with ⟨v3,ts3⟩ | ⟨r3,e3⟩
   rotate_left
   ·exact m29
   rw [gf,R.bind_ok] at h;intro a3 i9 ai
   have f6:=ai.hi;(conv=>whnf);refine ⟨L,ts3,rfl,ai,[[91]],rfl,sM,fun ql av=>wN ?_,fun ql=>wN ?_⟩
   ·rw [Tg ql] at h;have qq:=av.hi;refine ⟨L,ts3.tail,rfl,av,fun x lw=>?_⟩;rcases x with ⟨v5,ts5⟩ | ⟨r5,e5⟩
    rotate_left
    ·exact m53
    rw [lw,R.bind_ok] at h;intro a5 mo cy
    have vr:=cy.hi;(conv=>whnf);refine ⟨L,ts5,rfl,cy,fun x rq=>?_⟩;rcases x with ⟨v6,ts6⟩ | ⟨r6,e6⟩
    rotate_left
    ·rw [rq,R.bind_err] at h;intro a9 d9;(conv=>whnf);exact h _ _
    rw [rq,R.bind_ok] at h;intro a6 zp jm
    have fb:=jm.hi;(conv=>whnf);exact h _ oM jm
   rw [Tc (by rw [ql];simp)] at h;refine ⟨⟨rfl,rfl,rfl,rfl⟩,L,ts3,rfl,ai,fun x lw=>?_⟩;rcases x with ⟨v5,ts5⟩ | ⟨r5,e5⟩
   rotate_left
   ·exact m53
   rw [lw,R.bind_ok] at h;intro a5 mo cy
   have vr:=cy.hi;(conv=>whnf);exact h _ oM cy
  exact h.elim
 exact h.elim
def WH (i o n:Bool):Nat:=(match i with | true=>0 | false=>1)+(match o with | true=>0 | false=>1)+(match n with | true=>0 | false=>1)
theorem V8 (f : Nat) (i o n : Bool) (ts : Ts) : YS (f + 1) i o n ts = if i = false /\ isW ts [[105, 110, 112, 117, 116]] = true then YS f true o n ts.tail
      else if o=false/\isW ts [[111,117,116,112,117,116]]=true then YS f i true n ts.tail
      else if n=false/\isW ts [[105,110,108,105,110,101]]=true then YS f i o true ts.tail
      else ((i,o,n),ts):=rfl
noncomputable def ZnP:Tbl:=[(118,Vi),(119,We),(171,WR),(120,Wa),(172,Jt)]
theorem Zum (ht:TO w0 nG ZnP):PC w0 nG 116 ZjX:=by
 refine Zd Zb mixed (tbl:=ZnP) ht Tryz.func116 rfl kR kR ?_;intro args σ K h
 unfold ZjX spR X8 at h
 split at h
 ·rename_i rest t rows a en dp
  obtain ⟨L,ts,rfl,ho,h⟩:=h;split at h
  ·skip
   have h0:=ho.lo;have h1:=ho.hi;have h2:=ho.big;refine ⟨Za [(7,⟨[],[0,2,3],fun vs σ=>∃(nm:Bs) (l:List Fi) (a5:Int) (ts5:Ts) (i o n:Bool) (a':Int) (ts':Ts) (f:Nat),vs=[]/\σ=⟨[.cells t [.d (.sl (Zy L)),.d (.int .i64 a'),.d (.int .i64 en),.d (.int .i64 dp)],.cells 72 [.d (.str []),.sl 0 100 [],.d (.bool false),.d (.bool false),.d (.bool false),.d (.int .i64 0)],.cells 72 [.d (.str nm),.d (.sl (l.map ZJ)),.d (.bool i),.d (.bool o),.d (.bool n),.d (.int .i64 (Zg L en ts.length))]],[0],1⟩/\ROK L a' ts'/\a<=a'/\WH i o n<f/\RKk (fun (v:Re)=>Za6 (Z3 (Zg L en) v)) L en dp (a+0) (R.ok ⟨nm,l,(YS f i o n ts').1.1,(YS f i o n ts').1.2.1,(YS f i o n ts').1.2.2,ts.length⟩ (YS f i o n ts').2) (fun pe a' dp'=>K pe ⟨[.cells t [.d (.sl (Zy L)),.d (.int .i64 a'),.d (.int .i64 en),.d (.int .i64 dp')]],[],0⟩),fun _ σ=>match σ with | ⟨[_,_,.cells _ [_,_,.d (.bool i),.d (.bool o),.d (.bool n),_]],_,_⟩=>WH i o n | _=>0⟩)],1,false,sM,Ta rfl,wN ?_⟩;have h:=h _ rfl;unfold ZcT at h
   refine ⟨L,ts,rfl,ho,wN ?_⟩;refine ⟨L,ts,rfl,ho,fun x fd=>?_⟩;rcases x with ⟨v1,ts1⟩ | ⟨r1,e1⟩
   rotate_left
   ·exact m65
   rw [fd,R.bind_ok] at h;intro a1 fj af
   have aj:=af.hi;(conv=>whnf);refine ⟨L,ts1,rfl,af,fun x dt=>?_⟩;rcases x with ⟨v2,ts2⟩ | ⟨r2,e2⟩
   rotate_left
   ·exact m54
   rw [dt,R.bind_ok] at h;intro a2 fx ac
   have bp:=ac.hi;(conv=>whnf);refine ⟨L,ts2,rfl,ac,fun x gf=>?_⟩;rcases x with ⟨v3,ts3⟩ | ⟨r3,e3⟩
   rotate_left
   ·exact m29
   rw [gf,R.bind_ok] at h;intro a3 i9 ai
   have f6:=ai.hi;(conv=>whnf);refine ⟨L,ts3,rfl,ai,fun x np=>?_⟩;rcases x with ⟨v4,ts4⟩ | ⟨r4,e4⟩
   rotate_left
   ·exact m116
   rw [np,R.bind_ok] at h;intro a4 n7 av
   have qq:=av.hi;(conv=>whnf);refine ⟨⟨v1,v3,a4,ts4,false,false,false,a4,ts4,4,rfl,rfl,av,oM,dM,h⟩,?_⟩
   clear h fd dt gf np af ac ai av aj bp f6 qq fj fx i9 n7
   intro vs σ hI
   obtain ⟨nm,l,a5,ts5,i,o,n,a',ts',f,rfl,rfl,dw,ak,hf,h⟩:=hI;obtain ⟨f,rfl⟩:∃g,f=g+1:=⟨f - 1,oM⟩
   rw [V8] at h;have sb:=dw.hi;(conv=>whnf)
   cases i with
   | true =>
    rw [Tc sM] at h;(conv=>whnf)
    cases o with
    | true =>
     rw [Tc sM] at h;(conv=>whnf)
     cases n with
     | true =>
      exact m180
     | false =>
     conv=>whnf
     refine ⟨L,ts',rfl,dw,[[105,110,108,105,110,101]],rfl,sM,fun ja iw=>wN ?_,fun ja=>wN ?_⟩
     ·rw [Tg ⟨rfl,ja⟩] at h;have ta:=iw.hi;refine ⟨⟨nm,l,a5,ts5,true,true,true,a'+1,ts'.tail,f,rfl,rfl,iw,oM,?_,h⟩,?_⟩
      ·(simp only [WH] at hf |-;omega)
      show WH true true true<WH true true false
      (simp only [WH];omega)
     exact m172
    | false =>
    conv=>whnf
    refine ⟨L,ts',rfl,dw,[[111,117,116,112,117,116]],rfl,sM,fun ja iw=>wN ?_,fun ja=>wN ?_⟩
    ·rw [Tg ⟨rfl,ja⟩] at h;have ta:=iw.hi;refine ⟨⟨nm,l,a5,ts5,true,true,n,a'+1,ts'.tail,f,rfl,rfl,iw,oM,?_,h⟩,?_⟩
     ·cases n <;> (simp only [WH] at hf |-;omega)
     show WH true true n<WH true false n
     cases n <;> (simp only [WH];omega)
    rw [Tc (by rw [ja];simp)] at h
    cases n with
    | true =>
     exact m180
    | false =>
    conv=>whnf
    refine ⟨L,ts',rfl,dw,[[105,110,108,105,110,101]],rfl,sM,fun ja iw=>wN ?_,fun ja=>wN ?_⟩
    ·rw [Tg ⟨rfl,ja⟩] at h;have ta:=iw.hi;refine ⟨⟨nm,l,a5,ts5,true,false,true,a'+1,ts'.tail,f,rfl,rfl,iw,oM,?_,h⟩,?_⟩
     ·(simp only [WH] at hf |-;omega)
     show WH true false true<WH true false false
     (simp only [WH];omega)
    exact m172
   | false =>
   conv=>whnf
   refine ⟨L,ts',rfl,dw,[[105,110,112,117,116]],rfl,sM,fun ja iw=>wN ?_,fun ja=>wN ?_⟩
   ·rw [Tg ⟨rfl,ja⟩] at h;have ta:=iw.hi;refine ⟨⟨nm,l,a5,ts5,true,o,n,a'+1,ts'.tail,f,rfl,rfl,iw,oM,?_,h⟩,?_⟩
    ·cases o <;> cases n <;> (simp only [WH] at hf |-;omega)
    show WH true o n<WH false o n
    cases o <;> cases n <;> (simp only [WH];omega)
   rw [Tc (by rw [ja];simp)] at h
   cases o with
   | true =>
    rw [Tc sM] at h;(conv=>whnf)
    cases n with
    | true =>
     exact m180
    | false =>
    conv=>whnf
    refine ⟨L,ts',rfl,dw,[[105,110,108,105,110,101]],rfl,sM,fun ja iw=>wN ?_,fun ja=>wN ?_⟩
    ·rw [Tg ⟨rfl,ja⟩] at h;have ta:=iw.hi;refine ⟨⟨nm,l,a5,ts5,false,true,true,a'+1,ts'.tail,f,rfl,rfl,iw,oM,?_,h⟩,?_⟩
     ·(simp only [WH] at hf |-;omega)
     show WH false true true<WH false true false
     (simp only [WH];omega)
    exact m172
   | false =>
   conv=>whnf
   refine ⟨L,ts',rfl,dw,[[111,117,116,112,117,116]],rfl,sM,fun ja iw=>wN ?_,fun ja=>wN ?_⟩
   ·rw [Tg ⟨rfl,ja⟩] at h;have ta:=iw.hi;refine ⟨⟨nm,l,a5,ts5,false,true,n,a'+1,ts'.tail,f,rfl,rfl,iw,oM,?_,h⟩,?_⟩
    ·cases n <;> (simp only [WH] at hf |-;omega)
    show WH false true n<WH false false n
    cases n <;> (simp only [WH];omega)
   rw [Tc (by rw [ja];simp)] at h
   cases n with
   | true =>
    exact m180
   | false =>
   conv=>whnf
   refine ⟨L,ts',rfl,dw,[[105,110,108,105,110,101]],rfl,sM,fun ja iw=>wN ?_,fun ja=>wN ?_⟩
   ·rw [Tg ⟨rfl,ja⟩] at h;have ta:=iw.hi;refine ⟨⟨nm,l,a5,ts5,false,false,true,a'+1,ts'.tail,f,rfl,rfl,iw,oM,?_,h⟩,?_⟩
    ·(simp only [WH] at hf |-;omega)
    show WH false false true<WH false false false
    (simp only [WH];omega)
   exact m172
  exact h.elim
 exact h.elim
noncomputable def ZiR (fn:Func) (tb:Tbl):Zt:=fun args σ K=>∃K0:PEnd->St->Prop,(∀e σ,K0 e σ->K e σ)/\args.length<=fn.ntmps/\WF (ctx ZgB tb (Za [])) fn σ.bx.length false args σ K0
theorem Zhz (fn:Func) (tb:Tbl):Yb (ZiR fn tb):=fun args σ K K' hK ⟨K0,h1,h2⟩=>⟨K0,fun e σ h=>hK _ _ (h1 e σ h),h2⟩
noncomputable def Zxb (fn:Func) (unr:Nat->Nat) (tb:Tbl):Zt:=fun args σ K=>∃K0:PEnd->St->Prop,(∀e σ,K0 e σ->K e σ)/\args.length<=fn.ntmps/\WF (Zze ZgB tb (Za []) unr (Ys [])) fn σ.bx.length false args σ K0
theorem _root_.Go.PM.PCalls.closed {G:GE} {g:FuncId} {sp:Zt} (h:PCalls G g sp):PCalls G g (fun args σ K=>∃K0:PEnd->St->Prop,(∀e σ,K0 e σ->K e σ)/\sp args σ K0):=⟨h.enters,fun args σ K ⟨K0,hK,hs⟩ n e w vs hS ha =>
 (h.calls args σ K0 hs n e w vs hS ha).mono fun en w' ⟨pe,σ',e',hk,hr⟩=>⟨pe,σ',e',hK _ _ hk,hr⟩⟩
theorem ZbL {g : FuncId} {fn : Func} {c : Code} {tb : Tbl} (ht : TO w0 nG tb) (hf : (GG w0 nG).P.funcs[g]? = some fn) (hb : fn.body = some c) (be : (fn.name == "runtime.NumGoroutine") = false) (aw : ZR fn.ntmps c = true) : PC w0 nG g (ZiR fn tb) := by
 have h:PC w0 nG g (fun args σ K=>args.length<=fn.ntmps/\WF (ctx ZgB tb (Za [])) fn σ.bx.length false args σ K):=by
  refine Zd Zb mixed ht hf hb be aw ?_;intro args σ K h
  exact ⟨Za [],σ.bx.length,false,Tr _,h.1,h.2⟩
 exact h.closed
theorem Zxc {g : FuncId} {fn : Func} {c : Code} {unr : Nat -> Nat} {tb : Tbl} (ht : TO w0 nG tb) (hf : (GG w0 nG).P.funcs[g]? = some fn) (hb : fn.body = some c) (be : (fn.name == "runtime.NumGoroutine") = false) (aw : ZR fn.ntmps c = true) : PC w0 nG g (Zxb fn unr tb) := by
 have h:PC w0 nG g (fun args σ K=>args.length<=fn.ntmps/\WF (Zze ZgB tb (Za []) unr (Ys [])) fn σ.bx.length false args σ K):=by
  refine Vb Zb mixed ht hf hb be aw ?_;intro args σ K h
  exact ⟨Za [],unr,Ys [],σ.bx.length,false,Tr _,h.1,h.2⟩
 exact h.closed
noncomputable def Zun {α:Type} (enc:List Tok->Int->α->PV) (P:Ts->R α) (lo:Int) (d:Nat):Zt:=X8 fun rest L en dp a ts K=>match rest with
 | []=>(0<d/\dp=65 - (d:Int)/\0<=dp)/\∀x,P ts=x->RKk (enc L en) L en dp (a+lo) x K
 | _=>False
theorem ZdF {α:Type} {enc:List Tok->Int->α->PV} {P:Ts->R α} {lo:Int} {g:FuncId} (h:VX (GG w0 nG).P g):PC w0 nG g (Zun enc P lo 0):=⟨h,fun args σ K hs=>by
 exfalso;unfold Zun X8 at hs
 split at hs
 ·obtain ⟨L,ts,_,_,hs⟩:=hs;split at hs
  ·have:=hs.1.1;omega
  exact hs
 exact hs⟩
theorem _root_.Go.PM.PCalls.weaken1 {G:GE} {g:FuncId} {sp sp':Zt} (h:PCalls G g sp) (hw:∀args σ K,sp' args σ K->sp args σ K):PCalls G g sp':=⟨h.enters,fun args σ K hs=>h.calls args σ K (hw _ _ _ hs)⟩
theorem ZdG {α:Type} {enc:List Tok->Int->α->PV} {P:Ts->R α} {lo:Int} {d:Nat} {g:FuncId} (h:PC w0 nG g (Zh3 enc P lo d)):PC w0 nG g (Zun enc P lo (d+1)):=h.weaken1 fun args σ K hs=>by
 unfold Zun X8 at hs
 unfold Zh3 X8
 split at hs
 ·obtain ⟨L,ts,h1,h2,hs⟩:=hs;refine ⟨L,ts,h1,h2,?_⟩;split at hs
  ·exact ⟨by have:=hs.1.2;omega,hs.2⟩
  exact hs.elim
 exact hs
noncomputable def ZbM:Zt:=fun args σ K=>match args,σ with
 | [.d (.str w),.ptr 0 0],⟨[.cells t0 [.ptr 1 0],.cells t [.d (.sl rows),.d (.int .i64 a),.d (.int .i64 en),.d (.int .i64 dp)]],[],0⟩=>∃L ts,rows=Zy L/\ROK L a ts /\
   (isW ts [w]=true->ROK L (a+1) ts.tail->K (.ret (.d (.bool true))) ⟨[.cells t0 [.ptr 1 0],.cells t [.d (.sl (Zy L)),.d (.int .i64 (a+1)),.d (.int .i64 en),.d (.int .i64 dp)]],[],0⟩) /\
   (isW ts [w]=false->K (.ret (.d (.bool false))) ⟨[.cells t0 [.ptr 1 0],.cells t [.d (.sl (Zy L)),.d (.int .i64 a),.d (.int .i64 en),.d (.int .i64 dp)]],[],0⟩)
 | _,_=>False
noncomputable def ZcH:Tbl:=[(171,WR)]
theorem ZnQ (ht:TO w0 nG ZcH):PC w0 nG 255 ZbM:=by
 refine Zd Zb mixed (tbl:=ZcH) ht Tryz.func255 rfl kR kR ?_;exact m84
theorem ZnR (ht:TO w0 nG ZcH):PC w0 nG 256 ZbM:=by
 refine Zd Zb mixed (tbl:=ZcH) ht Tryz.func256 rfl kR kR ?_;exact m84
noncomputable def Zrb:Zt:=fun args σ K=>match args,σ with
 | [.asl 0 0 n,.func g [] [.ptr 1 0]],⟨[.cells tA cs,.cells t0 [.ptr 2 0],.cells t [.d (.sl rows),.d (.int .i64 a),.d (.int .i64 en),.d (.int .i64 dp)]],[],0⟩=>∃L ts ws,rows=Zy L/\ROK L a ts /\
   ((ws=relWords/\g=255)\/(ws=aggWords/\g=256))/\n=ws.length/\cs=ws.map (fun w=>PV.d (.str w)) /\
   (∀k:Nat,Ui ts 0 ws=some k->ROK L (a+1) ts.tail->K (.ret (.d (.int .i64 k))) ⟨[.cells tA cs,.cells t0 [.ptr 2 0],.cells t [.d (.sl (Zy L)),.d (.int .i64 (a+1)),.d (.int .i64 en),.d (.int .i64 dp)]],[],0⟩) /\
   (Ui ts 0 ws=none->K (.ret (.d (.int .i64 (-1)))) ⟨[.cells tA cs,.cells t0 [.ptr 2 0],.cells t [.d (.sl (Zy L)),.d (.int .i64 a),.d (.int .i64 en),.d (.int .i64 dp)]],[],0⟩)
 | _,_=>False
noncomputable def ZsL:Tbl:=[(255,ZbM),(256,ZbM)]
theorem Zxd (ht:TO w0 nG ZsL):PC w0 nG 163 Zrb:=by
 refine Vb Zb mixed (tbl:=ZsL) ht Tryz.func163 rfl kR kR ?_;intro args σ K h
 unfold Zrb at h
 split at h
 ·rename_i n g tA cs t0 t rows a en dp
  obtain ⟨L,ts,ws,rfl,ho,xk,rfl,rfl,h1,h2⟩:=h;refine ⟨Za [],Wv [(2,8)],Ys [],3,false,sM,Ta rfl,?_⟩;rcases xk with ⟨rfl,rfl⟩ | ⟨rfl,rfl⟩
  ·conv=>whnf
   refine ⟨dM,dM,wN ?_⟩;refine ⟨L,ts,rfl,ho,fun hw0 ac=>wN ?_,fun hw0=>wN ?_⟩
   ·exact h1 0 (by simp [Ui,relWords, *]) ac
   refine Or.inl ⟨InR.i64 oM oM,wN ?_⟩;refine ⟨dM,dM,wN ?_⟩;refine ⟨L,ts,rfl,ho,fun ew ac=>wN ?_,fun ew=>wN ?_⟩
   ·exact h1 1 (by simp [Ui,relWords, *]) ac
   refine Or.inl ⟨InR.i64 oM oM,wN ?_⟩;refine ⟨dM,dM,wN ?_⟩;refine ⟨L,ts,rfl,ho,fun ki ac=>wN ?_,fun ki=>wN ?_⟩
   ·exact h1 2 (by simp [Ui,relWords, *]) ac
   refine Or.inl ⟨InR.i64 oM oM,wN ?_⟩;refine ⟨dM,dM,wN ?_⟩;refine ⟨L,ts,rfl,ho,fun lc ac=>wN ?_,fun lc=>wN ?_⟩
   ·exact h1 3 (by simp [Ui,relWords, *]) ac
   refine Or.inl ⟨InR.i64 oM oM,wN ?_⟩;refine ⟨dM,dM,wN ?_⟩;refine ⟨L,ts,rfl,ho,fun ql ac=>wN ?_,fun ql=>wN ?_⟩
   ·exact h1 4 (by simp [Ui,relWords, *]) ac
   refine Or.inl ⟨InR.i64 oM oM,wN ?_⟩;refine ⟨dM,dM,wN ?_⟩;refine ⟨L,ts,rfl,ho,fun hw5 ac=>wN ?_,fun hw5=>wN ?_⟩
   ·exact h1 5 (by simp [Ui,relWords, *]) ac
   refine Or.inl ⟨InR.i64 oM oM,wN ?_⟩;exact h2 (by simp [Ui,relWords, *])
  conv=>whnf
  refine ⟨dM,dM,wN ?_⟩;refine ⟨L,ts,rfl,ho,fun hw0 ac=>wN ?_,fun hw0=>wN ?_⟩
  ·exact h1 0 (by simp [Ui,aggWords, *]) ac
  refine Or.inl ⟨InR.i64 oM oM,wN ?_⟩;refine ⟨dM,dM,wN ?_⟩;refine ⟨L,ts,rfl,ho,fun ew ac=>wN ?_,fun ew=>wN ?_⟩
  ·exact h1 1 (by simp [Ui,aggWords, *]) ac
  refine Or.inl ⟨InR.i64 oM oM,wN ?_⟩;refine ⟨dM,dM,wN ?_⟩;refine ⟨L,ts,rfl,ho,fun ki ac=>wN ?_,fun ki=>wN ?_⟩
  ·exact h1 2 (by simp [Ui,aggWords, *]) ac
  refine Or.inl ⟨InR.i64 oM oM,wN ?_⟩;refine ⟨dM,dM,wN ?_⟩;refine ⟨L,ts,rfl,ho,fun lc ac=>wN ?_,fun lc=>wN ?_⟩
  ·exact h1 3 (by simp [Ui,aggWords, *]) ac
  refine Or.inl ⟨InR.i64 oM oM,wN ?_⟩;exact h2 (by simp [Ui,aggWords, *])
 exact h.elim
def ZbN:Nat->Ts->R Ex
 | 0=>fun _=>.err 0 150
 | d+1=>Zv d
theorem Zj1 (d:Nat):Yp d=fun ts=>WU (ZbN d) 6 1 ts:=by cases d <;> rfl
theorem Ju (d:Nat) (ts:Ts):Zv d ts=VL d (ZbN d) ts:=by cases d <;> rfl
theorem Ze8 {ts:Ts} (h:ZA ts=true):ts≠[]:=by rintro rfl;simp [ZA,hd] at h
noncomputable abbrev ZiS (d:Nat):Zt:=Zun (fun L en (v:Ex)=>Za6 (YE (Zg L en) v)) (Yp d) 0 d
noncomputable abbrev ZhA (d:Nat):Zt:=Zun (fun L en (v:Ex)=>Za6 (YE (Zg L en) v)) (ZbN d) 0 d
noncomputable abbrev ZdH (d:Nat):Zt:=Zh3 (fun L en (v:Ex)=>Za6 (YE (Zg L en) v)) (Ya d) 0 d
noncomputable abbrev ZcI (d:Nat):Zt:=Zh3 (fun L en (v:Ex)=>Za6 (YE (Zg L en) v)) (Zv d) 0 d
noncomputable abbrev Za9 (d:Nat):Zt:=Zh3 (fun L en (v:Ex)=>Za6 (YE (Zg L en) v)) (YA d (Yp d)) 0 d
noncomputable def ZdI (d:Nat):Zt:=X8 fun rest L en dp a ts K=>match rest with
 | [.d (.str fr),.d (.str tw)]=>((dp=64 - (d:Int)/\0<=dp)/\tw≠[])/\∀x,XX d (Yp d) fr tw ts=x->RKk (fun (l:List Ex)=>.d (.sl (l.map (YE (Zg L en))))) L en dp a x K
 | _=>False
noncomputable def Zj2 (d:Nat):Zt:=X8 fun rest L en dp a ts K=>match rest with
 | [.agg [.d (.int .u8 op),.d (.str []),.d (.int .i64 n),.nils e,.d (.int .i64 at')]]=>((dp=64 - (d:Int)/\0<=dp)/\n=0/\e=48)/\∃o:Nat,op=(o:Int)/\∀x,Zu d [40] [41] (XZ (Yp d) (YN o) []) ts=x ->
   RKk (fun (l:List Ex)=>.agg [.d (.int .u8 op),.d (.str []),.d (.int .i64 0),.d (.sl (l.map (YE (Zg L en)))),.d (.int .i64 at')]) L en dp a x K
 | _=>False
noncomputable def V9 (d:Nat):Zt:=fun args σ K=>match args,σ with
 | [.ptr 0 0,.d (.str sg),.d (.int .i64 m),.func g1 [.ptr 0 0] [],.func g2 [.ptr 0 0] []],⟨[.cells t [.d (.sl rows),.d (.int .i64 a),.d (.int .i64 en),.d (.int .i64 dp)]],[],0⟩ =>
   (sg=[44]/\m=12/\g1=227/\g2=70/\0<d/\dp=65 - (d:Int)/\0<=dp)/\∃L ts,rows=Zy L/\ROK L a ts/\∀x,YM [44] 12 ZA (Yp d) ts=x ->
    RKk (fun (l:List Ex)=>.d (.sl (l.map (YE (Zg L en))))) L en dp a x fun pe a' dp'=>K pe ⟨[.cells t [.d (.sl (Zy L)),.d (.int .i64 a'),.d (.int .i64 en),.d (.int .i64 dp')]],[],0⟩
 | _,_=>False
noncomputable def Zj3 (d:Nat):Tbl:=[(113,Zhr),(226,V9 d)]
noncomputable def Zj4 (d:Nat):Tbl:=[(113,Zhr),(120,Wa),(112,Xm),(225,ZiR Tryz.f225 (Zj3 d))]
noncomputable def ZnS (d:Nat):Tbl:=[(175,ZiR Tryz.f175 (Zj4 d))]
theorem Zuo {d:Nat} (ht:TO w0 nG (ZnS d)):PC w0 nG 178 (ZdI d):=by
 refine Zd Zb mixed (tbl:=ZnS d) ht Tryz.func178 rfl kR kR ?_;intro args σ K h
 unfold ZdI X8 at h
 split at h
 ·rename_i rest t rows a en dp
  obtain ⟨L,ts,rfl,ho,h⟩:=h;split at h
  ·rename_i fr tw
   obtain ⟨⟨d7,hto⟩,h⟩:=h;have h0:=ho.lo;have h1:=ho.hi;have h2:=ho.big;refine ⟨Za [],1,false,sM,Ta rfl,wN ?_⟩;have h:=h _ rfl;unfold XX at h
   refine ⟨_,fun _ _ h=>h,Ta rfl,wN ?_⟩;refine ⟨L,ts,rfl,ho,[fr],rfl,sM,fun b ew=>?_⟩
   cases b with
   | false =>
    exact m232
   | true =>
   rw [Zu,Tg ew] at h;(conv=>whnf);refine ZBC (fun hc=>wN ?_) (fun hc=>wN ?_)
   ·rw [Tg oM] at h;exact m98
   rw [Tc oM] at h;refine ⟨L,ts,rfl,ho,fun x hx=>?_⟩;rw [ZT,Tg ew] at hx;subst hx;intro a1 fj af
   have aj:=af.hi;(conv=>whnf);refine Or.inl ⟨InR.i64 oM oM,wN ?_⟩;refine ⟨_,fun _ _ h=>h,Ta rfl,wN ?_⟩;refine ⟨L,ts.tail,rfl,af,[tw],rfl,sM,fun b ql=>?_⟩;have fh:∀(x:R (List Ex)),(if isW ts.tail [tw]=true then R.ok [] ts.tail else YM [44] 12 ZA (Yp d) ts.tail)=x->True:=fun _ _=>trivial
   cases b with
   | true =>
    rw [Tg ql,R.bind_ok] at h;(conv=>whnf);have ac:=af;refine ZBE (fun _=>wN ?_) (fun g=>absurd g hto);rw [Tc hto] at h;refine ⟨L,ts.tail,rfl,af,fun x gf=>?_⟩;exact m22
   | false =>
   rw [Tc (by rw [ql];simp)] at h;(conv=>whnf);refine ⟨⟨rfl,rfl,rfl,rfl,oM,oM,oM⟩,L,ts.tail,rfl,af,fun x dt=>?_⟩;rcases x with ⟨v2,ts2⟩ | ⟨r2,e2⟩
   rotate_left
   ·exact m54
   rw [dt,R.bind_ok] at h;intro a2 fx ac
   have bp:=ac.hi;(conv=>whnf);refine ZBE (fun _=>wN ?_) (fun g=>absurd g hto);rw [Tc hto] at h;refine ⟨L,ts2,rfl,ac,fun x gf=>?_⟩;exact m22
  exact h.elim
 exact h.elim
end Go.PM.Lex
end
