/- A part of the proof: plain logic, contracts and laws over the given program. -/
import Derived.Shelf.Strings.Builder1
import Derived.Test.YtcifacgjebbdbaaGreatDoorShelf
import Derived.Shelf.RegionOpenPlain
import Derived.Lib.Walk
import Derived.Lib.UnsafeStr
import Derived.Lib.Builder
import Derived.WalkKit
import Derived.Laws.Externs
import Derived.Lib.MapLaws
import Derived.Lib.ValidU
import Derived.Test.YtcifacgjebbdbaaGreatDoorValid
import Derived.Shelf.Unicode.ValidAny
import Derived.KernelRfl
import Derived.Test.YtcifacgjebbdbaaGreatDoorB06
set_option linter.unusedVariables false
set_option linter.unusedSimpArgs false
set_option linter.all false
set_option maxRecDepth 100000
set_option maxHeartbeats 16000000
noncomputable section
section
namespace Go.PM
def VM {G:GE} {g:FuncId} {sp:Zm} (jo:Wr G.P g)
  (h:∀args σ K,sp args σ K->∀(e:Env) (w:World) (vs:Array Value),SRel G e σ w->ArgsRel G e σ w args vs->∃pv σ' v,K (.ret pv) σ'/\Calls G.P g vs w fun en w'=>en=.returned v/\VRel G e σ' w' pv v/\SRel G e σ' w'/\Later e σ w e σ' w'):PCalls G g sp where
 enters:=jo
 calls:=fun args σ K hs n e w vs hS ha=>by
  obtain ⟨pv,σ',v,hK,hc⟩:=h args σ K hs e w vs hS ha;refine CallsIn.mono (callsIn_wide.2 hc) fun en w' ⟨he,hv,jw,hL⟩=>?_
  subst he;exact ⟨.ret pv,σ',e,hK,⟨v,rfl,hv⟩,jw,hL⟩
section
variable {G:GE} {T:Tab} {e:Env} {σ:St} {w:World}
def Zdp (hT:TabOK T G.P) (hS:SRel G e σ w) {t:TypeId} {b off:Nat} {x:PV} {v:Value} {l cs:List PV} {ty:TypeId} (hb:σ.bx[b]?=some (.cells ty cs)) (hx:VRel G e σ w x v) (hl:x.cells=some l)
  (aa:l.length=(T.get t).size) (ot:off+l.length<=cs.length) (hk:(T.get t).kind≠.other) :
  Stepped e σ w e (σ.set b (.cells ty (Z6 cs off l))) (w.setCells (e.β b) off v.cells.toList)/\SRel G e (σ.set b (.cells ty (Z6 cs off l))) (w.setCells (e.β b) off v.cells.toList):=by
 obtain ⟨w1,hr,h1,h2⟩:=Jz hT hS hb hx hl aa ot hk;obtain ⟨i,d,z,hi,hd,hs,dy,aw,hz,dc,_⟩:=(hT.get hk).ex;obtain ⟨vs,kz,oi,ye⟩:=hS.box b _ hb;obtain ⟨dh,bj⟩:=Vg hx hl;have hvc:v.cells.toList.length=l.length:=by simpa using dh
 have lg:∀u∈v.cells.toList,u.oneCell'=true:=fun u hu=>by
  exact mq160
 have aj:=run_storeCells_cells (P:=G.P) (e.β b) off v.cells.toList 0 w (fun j hj=>by
   have:off+j<vs.size:=oM;simp [World.cell?,kz,this]) (fun j hj=>by simp [World.frozen?,kz]) lg
 simp only [Sl] at aj;have dz:(Instr.storeAt t (.pointer (some ⟨e.β b,off,none⟩)) v).run G.P w=.ok () (w.setCells (e.β b) off v.cells.toList):=by
  have j9:v.cells.size=i.size:=by rw [dh,aa,hs]
  exact mq67
 rw [dz] at hr
 cases hr
 exact ⟨h1,h2⟩
end
end Go.PM
namespace Go.PM.Lex
open Go.Proofs Go.Shelf
variable {w0:World} {nG:Nat}
def u50:Tryz.prog.underlying 115=some (.pointer 117):=kR
def u95:Tryz.prog.underlying 301=some .unsafePointer:=kR
def i53:∃j,Tryz.prog.info? 117=some j/\j.size=2:=by
 have h:(Tryz.prog.info? 117).map (·.size)=some 2:=kR
 obtain ⟨j,h1,h2⟩:=TG.1 h;exact ⟨j,h1,h2⟩
def Zzm:liesAt Tryz.prog Tryz.prog.depth 117 (2 / Tryz.prog.cellsOf 117) 0 117 1=true:=kR
def Zh1 (b:Nat) (w:World) (h0:w.cell? ⟨b,0,none⟩=some (.pointer (some ⟨b,0,none⟩))) :
  Calls Tryz.prog 201 #[.pointer (some ⟨b,0,none⟩)] w fun e w'=>e=.returned (.tuple #[])/\w'=w:=by
 obtain ⟨j,hj,ua⟩:=i53
 go_enter Tryz.func201,Tryz.ntmps201
 go_wp2
 rw [Go.Lib.run_neq_ptr_same w _ u50 hj]
 go_wp2
 go_end0
 exact ⟨rfl,rfl⟩
def ZmF (b:Nat) (w:World) (h0:w.cell? ⟨b,0,none⟩=some (.pointer none)) (ez:w.shape? b=some (117,2)) (kx:w.frozen? ⟨b,0,none⟩=false) :
  Calls Tryz.prog 201 #[.pointer (some ⟨b,0,none⟩)] w fun e w'=>e=.returned (.tuple #[])/\w'=w.setCell ⟨b,0,none⟩ (.pointer (some ⟨b,0,none⟩)):=by
 obtain ⟨j,hj,ua⟩:=i53
 go_enter Tryz.func201,Tryz.ntmps201
 go_wp2
 rw [Go.Lib.run_to_unsafe w ⟨b,0,none⟩ u50 u95 hj (by rw [ua];decide) ez (Nat.zero_lt_succ 1)];simp only [Result.andThen];rw [Oper.upon_value]
 go_wp2
 rw [run_callFunc_extern Tryz.func237 kR kR kR (e:=Extern.AbiNoEscape.same) kR];rw [Go.Lib.run_noEscape];simp only [Result.andThen];rw [Oper.upon_value]
 go_wp2
 rw [Go.Lib.run_from_unsafe w ⟨b,0,none⟩ u95 u50 hj ez Zzm];simp only [Result.andThen];rw [Oper.upon_value]
 go_wp2
 go_end0
 exact ⟨rfl,rfl⟩
def VN:Zm:=fun args σ K=>match args,σ with
 | [.ptr 0 0],⟨[.cells t [p,q]],tk,nx⟩=>((p=.d .nilp\/p=.ptr 0 0)/\t=117)/\K (.ret (.tuple [])) ⟨[.cells t [.ptr 0 0,q]],tk,nx⟩
 | _,_=>False
def ZbX:PC w0 nG 201 VN:=VM (Zl Tryz.func201 kR rfl) fun args σ K h e w vs hS ha=>by
 unfold VN at h
 split at h
 ·rename_i t p q tk nx
  obtain ⟨⟨hp,rfl⟩,hK⟩:=h;obtain ⟨u,rfl,hu⟩:=Zgy ha;obtain ⟨cv,dh,bj,kq⟩:=hS.box 0 _ rfl;have dk:cv.size=2:=bj;obtain ⟨x0,ky⟩:∃x,cv[0]?=some x:=⟨cv[0]'oM,by simp [dk]⟩
  have lr:=(kq 0 p x0 rfl ky).1
  cases hu with
  | ptr b off hb =>
  refine ⟨_,_,.tuple #[],hK,?_⟩;rcases hp with rfl | rfl
  ·cases lr with
   | d _ _ hd =>
   cases hd
   refine Calls.mono (ZmF (e.β 0) w ?_ ?_ ?_) fun en w' ⟨h1,h2⟩=>?_
   ·simp [World.cell?,dh,ky]
   ·simp only [World.shape?,dh,dk]
   ·simp [World.frozen?,dh]
   have hst:=Zdp (G:=GG w0 nG) (T:=Zaf) ZC hS (t:=115) (b:=0) (off:=0) (x:=.ptr 0 0) (v:=.pointer (some ⟨e.β 0,0,none⟩)) (l:=[.ptr 0 0]) (cs:=[.d .nilp,q]) (ty:=117) rfl (.ptr 0 0 hb) rfl rfl sM (by intro h;cases h);rw [h2];exact ⟨h1,.tuple [] #[] rfl (fun i x u hx=>by simp at hx),hst.2,hst.1.toLater⟩
  exact mq88
 exact h.elim
def ZoP {P:Program} {ρ:Ren} (L:Lays.n169 P ρ) (X:Builder.Extra P ρ) (b g cap:Nat) (p:Value) (cur:Array Value) (fz:Nat×Nat) (l:Bs) (w:World) (h0:l≠[])
  (qd:w.heap[b]?=some (.cells #[p,.slice (some ⟨g,0,none⟩) l.length cap] (ρ.t 72) (0,0))) (hg:w.heap[g]?=some (.cells cur (ρ.t 5) fz)) (hn:l.length<=cur.size) (hcap:cap≠0) (dr:l.length<=9223372036854775807)
  (ay:∀j x,l[j]?=some x->w.cell? ⟨g,j,none⟩=some (.int .u8 x.toNat)) :
  Calls P (ρ.f 169) #[.pointer (some ⟨b,0,none⟩)] w fun e w'=>e=.returned (.string ⟨l.toArray⟩)/\w'=w.drew.freeze ⟨g,0,none⟩ l.length:=by
 have c1:w.drew.cell? ⟨b,1,none⟩=some (.slice (some ⟨g,0,none⟩) l.length cap):=by
  have:w.drew.heap[b]?=some (.cells #[p,.slice (some ⟨g,0,none⟩) l.length cap] (ρ.t 72) (0,0)):=qd;rw [Go.Lib.cell_of_heap this];rfl
 have hSD:(Builtin.unsafeSliceData_ #[(ρ.t 37)] (ρ.t 127) #[.slice (some ⟨g,0,none⟩) l.length cap]).run P w.drew=.ok (.pointer (some ⟨g,0,none⟩)) w.drew :=
  Go.Lib.run_unsafeSliceData_row _ _ _ _ _ _ hcap
 have hUS:(Builtin.unsafeString_ #[(ρ.t 127),(ρ.t 3)] (ρ.t 9) #[.pointer (some ⟨g,0,none⟩),.int .i64 l.length]).run P w.drew=.ok (.string ⟨l.toArray⟩) (w.drew.freeze ⟨g,0,none⟩ l.length):=by
  exact mq68
 have mixed:=L.mixed;have t72:=L.t72;have a72:=L.a72;have z72:=L.z72;have v72:=L.v72;have u72:=run_underlying L.t72;have t70:=L.t70;have a70:=L.a70;have z70:=L.z70;have v70:=L.v70;have u70:=run_underlying L.t70;have t37:=L.t37;have a37:=L.a37;have z37:=L.z37;have v37:=L.v37;have u37:=run_underlying L.t37;have t127:=L.t127;have a127:=L.a127;have z127:=L.z127;have v127:=L.v127;have u127:=run_underlying L.t127;have t3:=L.t3;have a3:=L.a3;have z3:=L.z3;have v3:=L.v3;have u3:=run_underlying L.t3;have t9:=L.t9;have a9:=L.a9;have z9:=L.z9;have v9:=L.v9;have u9:=run_underlying L.t9;have t5:=X.t5;have a5:=X.a5;have z5:=X.z5;have v5:=X.v5;have u5:=run_underlying X.t5
 go_enter L.f169,Body.n169_ntmps ρ
 go_wp2
 go_region_o
 all_goals (go_wp2;go_ret;exact ⟨rfl,rfl⟩)
def VO (w:World) (g n k:Nat) (hk:k≠g):(w.drew.freeze ⟨g,0,none⟩ n).heap[k]?=w.heap[k]?:=by
 unfold World.freeze
 split
 ·rfl
 simp only [SF];rw [Tf (fun h=>hk h.symm)];rfl
def ZjD (w:World) (g n:Nat) {cs:Array Value} {ty:TypeId} {fz:Nat×Nat} (h:w.heap[g]?=some (.cells cs ty fz)):∃fz',(w.drew.freeze ⟨g,0,none⟩ n).heap[g]?=some (.cells cs ty fz'):=by
 have h':w.drew.heap[g]?=some (.cells cs ty fz):=h;unfold World.freeze
 split
 ·exact ⟨fz,h'⟩
 simp only [SF,if_true,h',Sc];exact ⟨_,rfl⟩
def Zzn {G:GE} {e:Env} {w w':World} {t:TypeId} {p:PV} {rows:List (List D)} (hp:p=.d .nilp\/p=.ptr 0 0) (hS:SRel G e ⟨[.cells t [p,.sl 0 5 rows]],[0],1⟩ w)
  (hsz:w.heap.size<=w'.heap.size) (qp:w'.os=w.os) (htp:w'.tape=w.tape) (kb:w'.output=w.output)
  (ay:∀b off u,w.cell? ⟨b,off,none⟩=some u->w'.cell? ⟨b,off,none⟩=some u)
  (f7:∀b,b<w.heap.size->(∀q,e.M 0=some q->q.1≠b)->w'.heap[b]?=w.heap[b]?) :
  SRel G e ⟨[.cells t [p,.d (.sl rows)]],[],0⟩ w'/\Later e ⟨[.cells t [p,.sl 0 5 rows]],[0],1⟩ w e ⟨[.cells t [p,.d (.sl rows)]],[],0⟩ w':=by
 have hL:Later e ⟨[.cells t [p,.sl 0 5 rows]],[0],1⟩ w e ⟨[.cells t [p,.d (.sl rows)]],[],0⟩ w':={
  len:=Tz _
  beta:=fun _ _=>rfl
  X:=fun _ _ h=>h
  pres:=fun b off u hu ho=>⟨⟨ho.1,ho.2.1,(fun x hx=>by cases hx),ho.2.2.2⟩,ay b off u hu⟩
  fhid:=fun b h=>.inr (.inr h)
  blocks:=fun b hb h1 h2 _=>f7 b hb fun q hq=>h2 0 sM q hq
  size:=hsz
  os:=qp
  tape:=htp
  output:=kb
  fresh:=fun i h1 h2=>by simp at h1 h2;omega
  ftok:=fun x hx=>by cases hx }
 have ab:=hS.lt (i:=0) sM;have pb:w'.heap[e.β 0]?=w.heap[e.β 0]?:=f7 _ ab fun q hq=>fun h=>(hS.own 0 sM q hq).2.1 0 sM h.symm
 refine ⟨?_,hL⟩;exact {
  inj:=hS.inj
  box:=fun i x hx=>by
   match i,hx with
   | 0,hx =>
    cases hx
    obtain ⟨cv,h1,h2,h3⟩:=hS.box 0 _ rfl;refine ⟨cv,pb.trans h1,h2,fun j y u hy hu=>?_⟩
    match j,hy with
    | 0,hy =>
     exact mq92
    | 1,hy =>
     cases hy
     obtain ⟨q1,q2⟩:=h3 1 (.sl 0 5 rows) u rfl hu;refine ⟨?_,q2⟩
     cases q1 with
     | sl _ _ _ _ hn hd ht=>exact .d _ _ (hd.later hL)
    | j+2,hy=>simp at hy
   | i+1,hx=>simp at hx
  low:=hS.low
  tkn:=fun x hx=>by cases hx
  own:=fun x hx=>by cases hx
  dis:=fun x y hx=>by cases hx
  xlt:=fun b off hx=>TF (hS.xlt b off hx) hsz
  xown:=fun x hx=>by cases hx
  hid:=fun b q hq=>let ⟨k1,k2,k3,k4,k5⟩:=hS.hid b q hq;⟨k1,TF k2 hsz,k3,(fun x hx=>by cases hx),k5⟩
  glob:=fun b hb=>by
   rw [f7 b (TF hb hS.big) fun q hq=>fun h=>by have:=(hS.own 0 sM q hq).1;omega];exact hS.glob b hb
  big:=Sa hS.big hsz }
def Y4 (l:Bs):(Zg l).length=l.length:=by simp [Zg]
def Zzo:(Tryz.prog.info? 5).map (·.size)=some 1:=kR
def Zh2:PC w0 nG 47 Zcu:=VM (Zl Tryz.func47 kR rfl) fun args σ K h e w vs hS ha=>by
 unfold Zcu at h
 split at h
 ·rename_i t p el rows
  obtain ⟨l,⟨rfl,rfl,rfl,hp,dr⟩,hK⟩:=h;obtain ⟨u,rfl,hu⟩:=Zgy ha;obtain ⟨cv,dh,bj,kq⟩:=hS.box 0 _ rfl;have dk:cv.size=2:=bj;obtain ⟨v0,v1,rfl⟩:∃v0 v1,cv=#[v0,v1]:=by
   obtain ⟨lst⟩:=cv
   match lst,dk with
   | [a,b],_=>exact ⟨a,b,rfl⟩
  have cn:=(kq 1 (.sl 0 5 (Zg l)) v1 rfl rfl).1
  cases hu with
  | ptr b off hb =>
  refine ⟨_,_,.string ⟨l.toArray⟩,hK,?_⟩;have fin:∀w',w.heap.size<=w'.heap.size->w'.os=w.os->w'.tape=w.tape->w'.output=w.output ->
    (∀b off u,w.cell? ⟨b,off,none⟩=some u->w'.cell? ⟨b,off,none⟩=some u) ->
    (∀b,b<w.heap.size->(∀q,e.M 0=some q->q.1≠b)->w'.heap[b]?=w.heap[b]?) ->
    VRel (GG w0 nG) e ⟨[.cells 117 [p,.d (.sl (Zg l))]],[],0⟩ w' (.d (.str l)) (.string ⟨l.toArray⟩)/\SRel (GG w0 nG) e ⟨[.cells 117 [p,.d (.sl (Zg l))]],[],0⟩ w'/\Later e ⟨[.cells 117 [p,.sl 0 5 (Zg l)]],[0],1⟩ w e ⟨[.cells 117 [p,.d (.sl (Zg l))]],[],0⟩ w':=fun w' h1 h2 h3 h4 h5 h6 =>
   ⟨.mkstr,Zzn hp hS h1 h2 h3 h4 h5 h6⟩
  have grown:∀w',Grows w w'->_:=fun w' g=>fin w' g.size g.os g.tape g.output (fun b off u hu=>(g.cell (VE hu)).trans hu) (fun b hb _=>g.old b hb)
  cases cn with
  | sl _ _ _ _ hn hd ht =>
  rcases ht sM with ⟨rfl,bq,hM⟩ | ⟨sz,g1,g2,g3,g,off,cap,cs,ty,fz,rfl,g4,g5,g6,⟨g7,rfl,rfl,g8⟩,g9,hM⟩
  ·have hl:l=[]:=by simpa [Zg] using bq
   subst hl;refine (Any.Builder_String_nil Tryz.lays169 Tryz.Builder_Extra_169 w.heap.size (e.β 0) v0 w dh).mono fun en w' ⟨h1,h2⟩=>?_
   exact ⟨h1,grown w' (ZEC h2)⟩
  have lf:sz=1:=by
   have:(Tryz.prog.info? 5).map (·.size)=some sz:=g1
   rw [Zzo] at this;cases this;rfl
  subst lf;rw [Y4] at g5 dh g9 hM hd
  by_cases hl:l=[]
  ·subst hl;refine (Any.Builder_String_room Tryz.lays169 Tryz.Builder_Extra_169 w.heap.size (e.β 0) g cap v0 w oM dh).mono fun en w' ⟨h1,h2⟩=>?_
   exact ⟨h1,grown w' (ZEC h2)⟩
  have ay:∀j x,l[j]?=some x->w.cell? ⟨g,j,none⟩=some (.int .u8 x.toNat):=by
   exact mq29
  obtain ⟨fz',rb⟩:=ZjD w g l.length g6;refine (ZoP Tryz.lays169 Tryz.Builder_Extra_169 (e.β 0) g cap v0 cs fz l w hl dh g6 oM oM oM ay).mono fun en w' ⟨h1,h2⟩=>?_
  rw [h2];refine ⟨h1,fin _ ?_ ?_ ?_ ?_ ?_ ?_⟩
  ·unfold World.freeze;split <;> first | exact Tz _ | (simp only [Array.size_modify];exact Tz _)
  ·exact mq164
  ·exact mq164
  ·exact mq164
  ·exact mq115
  intro b hb hq
  exact VO w g l.length b fun h=>hq _ hM h.symm
 exact h.elim
end Go.PM.Lex
end

section
namespace Go.PM.Lex
open Go.Proofs
variable {w0:World} {nG:Nat}
structure GlobOK (w0:World) (nG:Nat):Prop where
 big:7<nG
 maxLen:∃m,w0.cell? ⟨2,0,none⟩=some (.int .i64 m)
 errSyntax:∃ev,w0.cell? ⟨6,0,none⟩=some ev/\(ev=.nilIface\/∃te pe,ev=.iface te pe)
 errRange:∃ev,w0.cell? ⟨7,0,none⟩=some ev/\(ev=.nilIface\/∃te pe,ev=.iface te pe)
def ZmG:Zm:=fun args σ K=>match args with
 | [.d (.str _),.d (.str s)]=>s.length<4294967281/\K (.ret .undef) σ
 | _=>False
def Zh3 {e:Env} {σ:St} {w:World} {k:Nat} {u:Value} (hS:SRel (GG w0 nG) e σ w) (hk:k<nG) (h:w0.cell? ⟨k,0,none⟩=some u):w.cell? ⟨k,0,none⟩=some u:=by
 have:=hS.glob k hk;simpa [World.cell?,this] using h
def Zev (hg:GlobOK w0 nG):PC w0 nG 317 ZmG where
 enters:=Zl Tryz.func317 kR rfl
 calls:=fun args σ K hs n e w vs hS ha=>by
  unfold ZmG at hs
  split at hs
  ·rename_i fn s
   obtain ⟨hl,hK⟩:=hs;obtain ⟨u,v,rfl,hu,hv⟩:=ZjB ha
   cases hu.dstr;cases hv.dstr
   obtain ⟨ev,h1,h2⟩:=hg.errSyntax;refine CallsIn.mono (callsIn_wide.2 (Tryz.strconv_syntaxError _ _ ev w (show s.toArray.size<=_ by simp;omega) (Zh3 hS (by have:=hg.big;omega) h1) h2)) fun en w' ⟨N,h3,_,_,h4⟩=>?_
   exact mq137
  exact hs.elim
def Zgz (hg:GlobOK w0 nG):PC w0 nG 318 ZmG where
 enters:=Zl Tryz.func318 kR rfl
 calls:=fun args σ K hs n e w vs hS ha=>by
  unfold ZmG at hs
  split at hs
  ·rename_i fn s
   obtain ⟨hl,hK⟩:=hs;obtain ⟨u,v,rfl,hu,hv⟩:=ZjB ha
   cases hu.dstr;cases hv.dstr
   obtain ⟨ev,h1,h2⟩:=hg.errRange;refine CallsIn.mono (callsIn_wide.2 (Tryz.strconv_rangeError _ _ ev w (show s.toArray.size<=_ by simp;omega) (Zh3 hS (by have:=hg.big;omega) h1) h2)) fun en w' ⟨N,h3,_,_,h4⟩=>?_
   exact mq137
  exact hs.elim
def Zdq:Zm:=fun args σ K=>match args,σ with
 | [.d (.str _),.d (.str s),.d (.int .i64 _),.d (.int .i64 _),.iface 361 (.d (.int .i64 c))],⟨[],[],0⟩=>((c=1\/c=2)/\s.length<4294967281)/\K (.ret (.iface 363 .undef)) ⟨[],[],0⟩
 | _,_=>False
def ZB0:Tbl:=[(317,ZmG),(318,ZmG)]
def ZmH (hg:GlobOK w0 nG):PC w0 nG 308 Zdq:=by
 refine pwt (tbl:=ZB0) ⟨Zev hg,Zgz hg,trivial⟩ Tryz.func308 fun args σ K h=>?_
 unfold Zdq at h
 split at h
 ·rename_i fn s b0 b1 c
  obtain ⟨⟨hc,hl⟩,h⟩:=h;refine pwu [] 0 false ?_;rcases hc with rfl | rfl
  ·conv=>whnf
   refine ⟨hl,wN ?_⟩;exact h
  conv=>whnf
  refine ⟨hl,wN ?_⟩;exact h
 exact h.elim
def ZjE:Zm:=fun args σ K=>match args,σ with
 | [.d (.int .u8 c)],⟨[],[],0⟩=>K (.ret (.d (.int .u8 (Zh .or .u8 c 32)))) ⟨[],[],0⟩
 | _,_=>False
def Zr0:PC w0 nG 315 ZjE:=by
 refine pwe Tryz.func315 fun args σ K h=>?_
 unfold ZjE at h
 split at h
 ·refine pwv [] 0 false ?_;exact h
 exact h.elim
def ZDC:∀n:Fin 256,YR true (UInt8.ofNat n.val)=true->¬(48<=n.val/\n.val<=57)->Zh .or .u8 (n.val:Int) 32=J1 (UInt8.ofNat n.val)+87/\10<=J1 (UInt8.ofNat n.val)/\J1 (UInt8.ofNat n.val)<=15:=by rw [Yb];decide +kernel
def Zh4 {b:UInt8} (h:YR true b=true) (hn:¬(48<=b.toNat/\b.toNat<=57)):Zh .or .u8 (b.toNat:Int) 32=J1 b+87/\10<=J1 b/\J1 b<=15:=by
 have:=ZDC ⟨b.toNat,b.toNat_lt⟩;simp only [UInt8.ofNat_toNat] at this;exact this h hn
def Zao (B:Nat) (l:Bs) (b:UInt8):YY B (l++[b])=YY B l * B+J1 b:=by simp [YY,List.foldl_append]
def Zap {l:Bs} {i:Nat} (h:i<l.length):l.take (i+1)=l.take i++[l.getD i 0]:=by
 rw [List.take_succ,Tb h];simp [List.getD,h]
def Zk0 (B:Nat) (hB:1<=B):∀(l:Bs) (n:Nat),n<=l.foldl (fun n b=>n * B+J1 b) n
 | [],n=>Tz _
 | b::l,n=>by
  have:=Zk0 B hB l (n * B+J1 b);have h2:n<=n * B:=Nat.le_mul_of_pos_right n hB;simp only [List.foldl_cons];omega
def Us (B:Nat) (hB:1<=B) (l:Bs) (i:Nat):YY B (l.take i)<=YY B l:=by
 conv=>rhs;rw [<- List.take_append_drop i l]
 unfold YY
 rw [List.foldl_append];exact Zk0 B hB _ _
def ZB1:Zm:=fun args σ K=>match args,σ with
 | [.d (.str l),.d (.int .i64 base),.d (.int .i64 bits)],⟨[],[],0⟩=>∃gh:Bool,((l.all (YR gh)=true/\l.length<4294967281)/\base=(if gh then 16 else 10)/\bits=(if gh then 64 else 63)) /\
   (l=[]->K (.ret (.tuple [.d (.int .u64 0),.iface 361 (.d (.int .i64 2))])) ⟨[],[],0⟩) /\
   (l≠[]->(if gh then 18446744073709551616 else 9223372036854775808)<=YY (if gh then 16 else 10) l->K (.ret (.tuple [.d (.int .u64 (if gh then 18446744073709551615 else 9223372036854775807)),.iface 361 (.d (.int .i64 1))])) ⟨[],[],0⟩) /\
   (l≠[]->¬(if gh then 18446744073709551616 else 9223372036854775808)<=YY (if gh then 16 else 10) l->K (.ret (.tuple [.d (.int .u64 (YY (if gh then 16 else 10) l)),.d .nili])) ⟨[],[],0⟩)
 | _,_=>False
def ZB2:Tbl:=[(315,ZjE)]
def ZB3:PC w0 nG 307 ZB1:=by
 refine pwt (tbl:=ZB2) ⟨Zr0,trivial⟩ Tryz.func307 fun args σ K h=>?_
 unfold ZB1 at h
 split at h
 ·rename_i l base bits
  obtain ⟨gh,⟨⟨cd,hl⟩,rfl,rfl⟩,d8,nc,cz⟩:=h;have hml:((l.map fun b=>[D.int .u8 (b.toNat:Int)]:List (List D))).length=l.length:=sM
  cases gh with
  | true =>
   simp only [if_true,Tt,if_false] at nc cz |-;refine ⟨Zk [(36,⟨[101,13,12],[0,1,8,10,11,99,100],fun vs σ=>σ=⟨[],[],0⟩/\∃i:Nat,vs=[.d (.int .i64 i),.d (.int .u64 (YY 16 (l.take i))),.d (.bool false)]/\i<=l.length/\YY 16 (l.take i)<18446744073709551616,muI l.length⟩)],0,false,sM,Tc rfl,wN ?_⟩;refine ZEw (fun h0=>wN ?_) (fun h0=>wN ?_)
   ·exact d8 h0
   have ai:l≠[]:=h0;have sq:=nc ai;have lb:=cz ai;refine J0 ?_;refine ⟨dM,Or.inr ?_⟩;rw [show IntKind.u64.wrap (1 * 2 ^ min (Int.toNat 64) IntKind.u64.bits)=0 from dM];(conv=>whnf);refine Or.inr ?_;rw [show IntKind.u64.wrap (0 - 1)=18446744073709551615 from dM];(conv=>whnf);refine ⟨⟨rfl,0,rfl,oM,by simp [YY]⟩,?_⟩;intro vs σ1 hI
   obtain ⟨rfl,i,rfl,hi,hN⟩:=hI;have ar:=Us 16 oM l;have bi:=fun h:i<l.length=>Zao 16 (l.take i) (l.getD i 0)
   generalize hNN:YY 16 (l.take i)=N at hN bi |-;(conv=>whnf);refine ZEw (fun h2=>?_) (fun h2=>wN ?_)
   ·have bz:i<l.length:=by simpa using h2
    have cj:(l.map fun b=>[D.int .u8 (b.toNat:Int)])[((i:Int)).toNat]?=some [D.int .u8 ((l.getD i 0).toNat:Int)]:=by
     rw [Ti,Tj,Tb bz];simp [List.getD,bz]
    have hd:YR true (l.getD i 0)=true:=Tq.1 cd _ (by rw [TS,Tb bz];exact TE bz);have hs:=bi bz;rw [<- Zap bz] at hs;have cg:=ar (i+1);have hb:=(l.getD i 0).toNat_lt;generalize l8:l.getD i 0=b at cj hd hs hb;(conv=>whnf);refine ⟨_,oM,cj,wN ?_⟩;refine ZEw (fun h3=>?_) (fun h3=>wN ?_)
    ·have dg:b.toNat=95:=by omega
     simp [YR,Zf,dg] at hd
    refine ZEw (fun h4=>wN ?_) (fun h4=>?_)
    ·refine ZEw (fun h5=>wN ?_) (fun h5=>?_)
     ·refine WY ?_;have hD:(J1 b:Int)=(b.toNat:Int) - 48:=by unfold J1;rw [Th oM];omega
      refine WY ?_;refine ZEw (fun h6=>?_) (fun h6=>wN ?_)
      ·omega
      refine ZEw (fun h7=>wN ?_) (fun h7=>wN ?_)
      ·exact sq oM
      refine J0 ?_;refine J0 ?_;refine J0 ?_
      by_cases dr:(N:Int) * 16+((b.toNat:Int) - 48)<=18446744073709551615
      ·refine J0 ?_;refine ZEw (fun h8=>?_) (fun h8=>wN ?_)
       ·omega
       refine ZEw (fun h9=>wN ?_) (fun h9=>wN ?_)
       ·exact sq oM
       refine Zj ?_;refine ⟨⟨rfl,i+1,?_,oM,oM⟩,?_⟩
       ·have e:((YY 16 (l.take (i+1)):Nat):Int)=(N:Int) * 16+((b.toNat:Int) - 48):=by omega
        rw [e];rfl
       exact mq190
      have hw:IntKind.u64.wrap ((N:Int) * 16+((b.toNat:Int) - 48))=(N:Int) * 16+((b.toNat:Int) - 48) - 18446744073709551616:=by
       exact mq60
      exact mq56
     skip
     exact mq10
    skip
    exact mq10
   exact mq138
  | false =>
  simp only [if_true,Tt,if_false] at nc cz |-;refine ⟨Zk [(36,⟨[101,13,12],[0,1,8,10,11,99,100],fun vs σ=>σ=⟨[],[],0⟩/\∃i:Nat,vs=[.d (.int .i64 i),.d (.int .u64 (YY 10 (l.take i))),.d (.bool false)]/\i<=l.length/\YY 10 (l.take i)<9223372036854775808,muI l.length⟩)],0,false,sM,Tc rfl,wN ?_⟩;refine ZEw (fun h0=>wN ?_) (fun h0=>wN ?_)
  ·exact d8 h0
  have ai:l≠[]:=h0;have sq:=nc ai;have lb:=cz ai;refine J0 ?_;refine ⟨dM,Or.inr ?_⟩;rw [show IntKind.u64.wrap (1 * 2 ^ min (Int.toNat 63) IntKind.u64.bits)=9223372036854775808 from dM];(conv=>whnf);refine Or.inr ?_;rw [show IntKind.u64.wrap (9223372036854775808 - 1)=9223372036854775807 from dM];(conv=>whnf);refine ⟨⟨rfl,0,rfl,oM,by simp [YY]⟩,?_⟩;intro vs σ1 hI
  obtain ⟨rfl,i,rfl,hi,hN⟩:=hI;have ar:=Us 10 oM l;have bi:=fun h:i<l.length=>Zao 10 (l.take i) (l.getD i 0)
  generalize hNN:YY 10 (l.take i)=N at hN bi |-;(conv=>whnf);refine ZEw (fun h2=>?_) (fun h2=>wN ?_)
  ·have bz:i<l.length:=by simpa using h2
   have cj:(l.map fun b=>[D.int .u8 (b.toNat:Int)])[((i:Int)).toNat]?=some [D.int .u8 ((l.getD i 0).toNat:Int)]:=by
    rw [Ti,Tj,Tb bz];simp [List.getD,bz]
   have hd:YR false (l.getD i 0)=true:=Tq.1 cd _ (by rw [TS,Tb bz];exact TE bz);have hs:=bi bz;rw [<- Zap bz] at hs;have cg:=ar (i+1);have hb:=(l.getD i 0).toNat_lt;generalize l8:l.getD i 0=b at cj hd hs hb;(conv=>whnf);refine ⟨_,oM,cj,wN ?_⟩;refine ZEw (fun h3=>?_) (fun h3=>wN ?_)
   ·have dg:b.toNat=95:=by omega
    simp [YR,Zf,dg] at hd
   have hd':48<=b.toNat/\b.toNat<=57:=by
    simp only [YR,TT,So,Zf,TQ] at hd;omega
   refine ZEw (fun h4=>wN ?_) (fun h4=>?_)
   ·refine ZEw (fun h5=>wN ?_) (fun h5=>?_)
    ·refine WY ?_;have hD:(J1 b:Int)=(b.toNat:Int) - 48:=by unfold J1;rw [Th oM];omega
     refine WY ?_;refine ZEw (fun h6=>?_) (fun h6=>wN ?_)
     ·omega
     refine ZEw (fun h7=>wN ?_) (fun h7=>wN ?_)
     ·exact sq oM
     refine J0 ?_;refine J0 ?_;refine J0 ?_
     by_cases dr:(N:Int) * 10+((b.toNat:Int) - 48)<=18446744073709551615
     ·refine J0 ?_;refine ZEw (fun h8=>?_) (fun h8=>wN ?_)
      ·omega
      refine ZEw (fun h9=>wN ?_) (fun h9=>wN ?_)
      ·exact sq oM
      refine Zj ?_;refine ⟨⟨rfl,i+1,?_,oM,oM⟩,?_⟩
      ·have e:((YY 10 (l.take (i+1)):Nat):Int)=(N:Int) * 10+((b.toNat:Int) - 48):=by omega
       rw [e];rfl
      exact mq190
     have hw:IntKind.u64.wrap ((N:Int) * 10+((b.toNat:Int) - 48))=(N:Int) * 10+((b.toNat:Int) - 48) - 18446744073709551616:=by
      exact mq60
     exact mq56
    omega
   omega
  exact mq138
 exact h.elim
def Zvv {p:UInt8->Bool}:∀(l:Bs) (k:Nat),k<=(l.takeWhile p).length->(k<l.length->(p (l.getD k 0)=true↔k<(l.takeWhile p).length))/\(l.length<=k->k=(l.takeWhile p).length)/\(k<(l.takeWhile p).length->k<l.length/\(l.takeWhile p).getD k 0=l.getD k 0)
 | [],k,h=>by simp at h;subst h;simp
 | b::l,k,h=>by
  by_cases hb:p b=true
  ·rw [List.takeWhile_cons_of_pos hb] at h |-
   cases k with
   | zero=>simp [hb]
   | succ k =>
   have ih:=Zvv (p:=p) l k (by simpa using h);simp only [Td,SC,Nat.add_lt_add_iff_right,Nat.add_le_add_iff_right];exact ⟨ih.1,fun g=>by have:=ih.2.1 g;omega,ih.2.2⟩
  rw [List.takeWhile_cons_of_neg hb] at h |-;simp only [Tg,Nat.le_zero] at h;subst h;simp [hb]
def Wk {s:Bs} {o k:Nat}:(s.drop o).getD k 0=s.getD (o+k) 0:=by
 rw [TS,SG,<- TS]
def Zk1 (b:UInt8):(0<=Zvq b.toNat↔YR true b=true)/\(YR true b=true->Zvq b.toNat=J1 b/\J1 b<16):=by
 have key:∀n:Fin 256,(0<=Zvq (n.val:Int)↔YR true (UInt8.ofNat n.val)=true)/\(YR true (UInt8.ofNat n.val)=true->Zvq (n.val:Int)=J1 (UInt8.ofNat n.val)/\J1 (UInt8.ofNat n.val)<16):=by decide +kernel
 have:=key ⟨b.toNat,b.toNat_lt⟩;simpa using this
def Zzp {m d:Nat} (hm:m<2 ^ 60) (hd:d<16):Zh .or .u64 ((m:Int) * 16) (d:Int)=((m * 16+d:Nat):Int):=by
 have e:Zh .or .u64 ((m:Int) * 16) (d:Int)=IntKind.u64.wrap (BitVec.ofInt 64 ((m:Int) * 16) ||| BitVec.ofInt 64 (d:Int)).toNat:=by rw [Yb];rfl
 have h1:(BitVec.ofInt 64 ((m:Int) * 16)).toNat=m * 16:=by
  rw [show (m:Int) * 16=((m * 16:Nat):Int) by simp,BitVec.ofInt_natCast,BitVec.toNat_ofNat];omega
 have h2:(BitVec.ofInt 64 (d:Int)).toNat=d:=by rw [BitVec.ofInt_natCast,BitVec.toNat_ofNat];omega
 have h3:m * 16 ||| d=m * 16+d:=by
  have:=Nat.two_pow_add_eq_or_of_lt (i:=4) (b:=d) oM m;rw [show (2:Nat) ^ 4=16 by rfl] at this;rw [Nat.mul_comm m 16,<- this]
 rw [e,BitVec.toNat_or,h1,h2,h3];have:InR .u64 ((m * 16+d:Nat):Int):=InR.u64 oM oM;exact this
def Zk2 (n:Int):0<=IntKind.u64.wrap n/\IntKind.u64.wrap n<18446744073709551616:=by
 unfold IntKind.wrap
 simp only [show IntKind.u64.bits=64 from rfl,show IntKind.u64.signed=false from rfl,TT];simp;omega
def Zr1 (x y:Int):0<=Zh .or .u64 x y/\Zh .or .u64 x y<18446744073709551616:=by
 have e:Zh .or .u64 x y=IntKind.u64.wrap (BitVec.ofInt 64 x ||| BitVec.ofInt 64 y).toNat:=by rw [Yb];rfl
 rw [e];exact Zk2 _
def Zvw:∀(l:Bs),(∀b∈l,J1 b<16)->YY 16 l<16 ^ l.length:=by
 intro l
 have key:∀(l:Bs) (n m:Nat),n<16 ^ m->(∀b∈l,J1 b<16)->l.foldl (fun n b=>n * 16+J1 b) n<16 ^ (m+l.length):=by
  intro l
  induction l with
  | nil=>intro n m h _;exact h
  | cons b l ih =>
  intro n m h hb
  have h1:=hb b sM;have:=ih (n * 16+J1 b) (m+1) (by rw [Nat.pow_succ];omega) (fun c hc=>hb c (by simp [hc]));simpa [Sk,Nat.add_comm 1] using this
 intro hb
 have:=key l 0 0 sM hb;simpa [YY] using this
def ZoQ:Zm:=fun args σ K=>match args,σ with
 | [.d (.str s),.d (.int .i64 a)],⟨[],[],0⟩=>(0<=a/\a<s.length/\s.length<4294967281/\Zf ((s.getD a.toNat 0).toNat:Int)=true) /\
   (∀n,ZI (s.drop a.toNat)=some n->K (.ret (.tuple [WQ 2 [] (IntKind.i64.wrap n) a (a+Zu (s.drop a.toNat)),.d (.bool true)])) ⟨[],[],0⟩) /\
   (ZI (s.drop a.toNat)=none->∀n e:Int,K (.ret (.tuple [WQ 2 [] n a e,.d (.bool false)])) ⟨[],[],0⟩)
 | _,_=>False
def Zvx:Tbl:=[(256,ZoH),(219,Wy),(218,Zbi)]
def Zvy:PC w0 nG 222 ZoQ:=by
 refine YF ZC mixed (tbl:=Zvx) ⟨Zvr,Zal,Zcw,trivial⟩ Tryz.func222 rfl kR kR ?_;intro args σ K h
 unfold ZoQ at h
 split at h
 ·rename_i s a
  obtain ⟨⟨h0,h1,hs,ey⟩,cz,ct⟩:=h;obtain ⟨a,rfl⟩:∃n:Nat,a=n:=⟨a.toNat,oM⟩
  simp only [Ti] at cz ct ey;have so:cut s ((a:Int)).toNat (min ((a:Int)+2) (s.length:Int)).toNat=(s.drop a).take 2:=by
   rw [Xy]
   by_cases h4:(a:Int)+2<=s.length
   ·rw [Int.min_eq_left h4];congr 1;omega
   rw [Int.min_eq_right oM,List.take_of_length_le (by rw [Tu];omega),List.take_of_length_le (by rw [Tu];omega)];rfl
  obtain ⟨r,hr⟩:∃r,r=s.drop a:=⟨_,rfl⟩
  obtain ⟨D,hD⟩:∃D,D=Zc r:=⟨_,rfl⟩
  rw [<- hr] at cz ct;refine ⟨Zk [(6,⟨[7],[0,1,4,6,8],fun vs σ=>∃k n:Nat,vs=[.d (.int .u64 n)]/\σ=⟨[.cells 186 [.d (.int .u8 0),.d (.str []),.d (.int .i64 0),.d (.int .i64 0),.d (.int .i64 0)],.cells 186 [.d (.int .u8 2),.d (.str []),.d (.int .i64 0),.d (.int .i64 a),.d (.int .i64 (a+2+k:Nat))]],[],0⟩/\(k<=D.length/\n<18446744073709551616/\(k<=16->n=YY 16 (D.take k))),fun _ σ=>match σ.bx with | [_,.cells _ [_,_,_,_,.d (.int _ n)]]=>((s.length:Int) - n).toNat | _=>0⟩),
   (10,⟨[7,8],[0,1,4,6],fun vs σ=>∃(k n:Nat) (ok:Bool),vs=[.d (.int .u64 n),.d (.bool ok)]/\σ=⟨[.cells 186 [.d (.int .u8 0),.d (.str []),.d (.int .i64 0),.d (.int .i64 0),.d (.int .i64 0)],.cells 186 [.d (.int .u8 2),.d (.str []),.d (.int .i64 0),.d (.int .i64 a),.d (.int .i64 (a+k:Nat))]],[],0⟩/\(k<=D.length/\n<18446744073709551616/\ok=decide (YY 10 (D.take k)<9223372036854775808)/\(ok=true->n=YY 10 (D.take k))),fun _ σ=>match σ.bx with | [_,.cells _ [_,_,_,_,.d (.int _ n)]]=>((s.length:Int) - n).toNat | _=>0⟩)],Ye [],ZB [],0,false,sM,Tc rfl,?_⟩
  have fin:∀(e n:Nat) (ok:Bool),e=a+Zu r->(ok=true->D≠[]/\YY (if YG r then 16 else 10) D<(if YG r then 18446744073709551616 else 9223372036854775808)/\n=YY (if YG r then 16 else 10) D/\¬(YG r=true/\16<D.length)) ->
    (ok=false->D=[]\/(if YG r then 18446744073709551616 else 9223372036854775808)<=YY (if YG r then 16 else 10) D\/(YG r=true/\16<D.length)) ->
    ∀X:Bool,X=(ok && !Zd (pk (s.drop e)).1 && !Zf (pk (s.drop e)).1)->K (.ret (.tuple [.agg [.d (.int .u8 2),.d (.str []),.d (.int .i64 (IntKind.i64.wrap n)),.d (.int .i64 a),.d (.int .i64 e)],.d (.bool X)])) ⟨[],[],0⟩:=fun e n ok he adk adl X hX=>by
   have io:s.drop e=r.drop (Zu r):=by rw [hr,TC,<- hr,he]
   have jz:(Zc r=[]\/(if YG r then 18446744073709551616 else 9223372036854775808)<=YY (if YG r then 16 else 10) (Zc r)\/(Zd (pk (r.drop (Zu r))).1=true\/Zf (pk (r.drop (Zu r))).1=true\/(YG r=true/\16<(Zc r).length)))->ZI r=none:=fun g=>by
    unfold ZI
    by_cases g1:Zc r=[]
    ·rw [Th g1]
    rw [Tf g1]
    by_cases g2:(if YG r then 18446744073709551616 else 9223372036854775808)<=YY (if YG r then 16 else 10) (Zc r)
    ·rw [Th g2]
    rw [Tf g2];rcases g with g | g | g
    ·exact absurd g g1
    ·exact absurd g g2
    rw [Th g]
   rw [io] at hX;rw [<- hD] at jz
   cases X with
   | false =>
    have:ZI r=none:=by
     apply jz
     cases ok with
     | false=>rcases adl rfl with g | g | g <;> simp [g]
     | true =>
     simp only [TX] at hX
     cases hl:Zd (pk (r.drop (Zu r))).1 with
     | true=>simp
     | false =>
     rw [hl] at hX
     cases hd:Zf (pk (r.drop (Zu r))).1 with
     | true=>simp
     | false=>rw [hd] at hX;simp at hX
    exact ct this _ _
   | true =>
   cases ok with
   | false=>simp at hX
   | true =>
   obtain ⟨g1,g2,g3,g4⟩:=adk rfl
   cases hl:Zd (pk (r.drop (Zu r))).1 with
   | true=>rw [hl] at hX;simp at hX
   | false =>
   cases hd:Zf (pk (r.drop (Zu r))).1 with
   | true=>rw [hd] at hX;simp at hX
   | false =>
   have hn:ZI r=some n:=by
    unfold ZI
    rw [<- hD,Tf g1,Tf oM,Tf (by rw [hl,hd];simp only [Tt,false_or];exact g4),g3]
   have:=cz n hn;rw [show (a:Int)+(Zu r:Int)=(e:Int) by omega] at this;exact this
  conv=>whnf
  refine Zj ?_;refine ⟨oM,oM,oM,wN ?_⟩;rw [so,<- hr];(conv=>whnf);refine ZEw (fun k1=>wN ?_) (fun k1=>wN ?_)
  ·have hx:YG r=true:=(ZrX _ _ _).2 k1;have dl:a+2<=s.length:=by have:=(Zv (show Lib.hasPrefix r [48,120]=true from hx)).1;rw [hr,Tu] at this;omega
   have vw:D=(s.drop (a+2)).takeWhile (YR true):=by rw [hD,Zc,hx,Th rfl,hr,TC]
   have hNl:Zu r=2+D.length:=by rw [Zu,hx,Th rfl,hD]
   have htw:∀k,k<=D.length->(a+2+k<s.length->(YR true (s.getD (a+2+k) 0)=true↔k<D.length))/\(s.length<=a+2+k->k=D.length)/\(k<D.length->a+2+k<s.length/\D.getD k 0=s.getD (a+2+k) 0):=fun k hk=>by
    have:=Zvv (p:=YR true) (s.drop (a+2)) k (by rw [<- vw];exact hk);exact mq128
   have hDl:a+2+D.length<=s.length:=by
    have:=XQ (YR true) (s.drop (a+2));rw [<- vw,Tu] at this;omega
   refine Zj ?_;refine ⟨⟨0,0,rfl,rfl,oM,oM,fun _=>by simp [YY]⟩,?_⟩;intro vs σ1 hI
   obtain ⟨k,n,rfl,rfl,hk,hn,xe⟩:=hI;obtain ⟨t1,t2,t3⟩:=htw k hk;have xc:=(s.getD (a+2+k) 0).toNat_lt;have gw:(s.getD (((a+2+k:Nat):Int)).toNat 0)=s.getD (a+2+k) 0:=by rw [Ti]
   have tail:k=D.length->∀okb:Bool,okb=(decide (0<k) && decide (k<=16))->∀X:Bool,X=(okb && !Zd (pk (s.drop (a+2+k))).1 && !Zf (pk (s.drop (a+2+k))).1) ->
     K (.ret (.tuple [.agg [.d (.int .u8 2),.d (.str []),.d (.int .i64 (IntKind.i64.wrap n)),.d (.int .i64 a),.d (.int .i64 (a+2+k:Nat))],.d (.bool X)])) ⟨[],[],0⟩:=fun xg okb ao X hX=>by
    refine fin (a+2+k) n okb (by rw [hNl];omega) (fun g=>?_) (fun g=>?_) X hX
    ·rw [ao] at g;simp only [Tm,TQ] at g;have hv:=xe g.2;rw [xg,T6] at hv;rw [hx];simp only [if_true];exact ⟨fun e=>by rw [e] at xg;simp at xg;omega,oM,hv,oM⟩
    rw [ao] at g;simp only [Bool.and_eq_false_iff,decide_eq_false_iff_not] at g;rcases g with g | g
    ·exact .inl (TY oM)
    exact .inr (.inr ⟨hx,oM⟩)
   conv=>whnf
   refine ZEw (fun q1=>wN ?_) (fun q1=>wN ?_)
   ·have q1':a+2+k<s.length:=by omega
    refine ⟨oM,oM,wN ?_⟩;rw [gw];refine ⟨⟨oM,oM⟩,?_⟩;have hxd:=Zk1 (s.getD (a+2+k) 0);generalize yj:Zvq ((s.getD (a+2+k) 0).toNat:Int)=v at hxd |-;obtain ⟨m,rfl⟩ | ⟨m,rfl⟩:(∃m:Nat,v=m)\/(∃m:Nat,v=Int.negSucc m):=by
     cases v with
     | ofNat m=>exact .inl ⟨m,rfl⟩
     | negSucc m=>exact .inr ⟨m,rfl⟩
    ·have q2':YR true (s.getD (a+2+k) 0)=true:=hxd.1.1 oM;have ab:k<D.length:=(t1 q1').1 q2';obtain ⟨d1,d2⟩:=hxd.2 q2';have ik:k+1<=16->YY 16 (D.take (k+1))=n * 16+m/\n<2 ^ 60:=fun g=>by
      have h1:=xe oM;have cd:∀b∈D.take k,J1 b<16:=fun b hb=>by
       have:=Wc (YR true) (s.drop (a+2));rw [<- vw,Tq] at this;exact ((Zk1 b).2 (this b (List.mem_of_mem_take hb))).2
      have h2:=Zvw _ cd;have h3:(16:Nat) ^ (D.take k).length<=16 ^ 15:=Nat.pow_le_pow_right oM (by rw [Si];omega);rw [Zap ab,Zao,<- h1,(t3 ab).2];exact ⟨oM,by rw [h1];omega⟩
     have fin2:∀(x:Int),(k+1<=16->x=(n:Int) * 16)->∃n':Nat,Zh .or .u64 x (m:Int)=n'/\n'<18446744073709551616/\(k+1<=16->n'=YY 16 (D.take (k+1))):=fun x hx=>by
      have:=Zr1 x (m:Int);refine ⟨(Zh .or .u64 x (m:Int)).toNat,oM,oM,fun g=>?_⟩;obtain ⟨g1,g2⟩:=ik g;rw [hx g,Zzp g2 oM,g1];omega
     conv=>whnf
     refine ⟨oM,wN ?_⟩
     by_cases zn:k+1<=16
     ·have:=(ik zn).2;have e0:(2:Int) ^ (min (Int.toNat 4) IntKind.u64.bits)=16:=rfl;refine Or.inl ⟨InR.u64 (by rw [e0];omega) (by rw [e0];omega),wN ?_⟩;obtain ⟨n',e1,e2,e3⟩:=fin2 ((n:Int) * 2 ^ (min (Int.toNat 4) IntKind.u64.bits)) (fun _=>rfl);exact mq65
     refine Or.inr (wN ?_);obtain ⟨n',e1,e2,e3⟩:=fin2 (IntKind.u64.wrap ((n:Int) * 2 ^ (min (Int.toNat 4) IntKind.u64.bits))) (fun g=>absurd g zn);exact mq65
    have q2':k=D.length:=by
     have:¬k<D.length:=fun g=>by have:=hxd.1.2 ((t1 q1').2 g);omega
     omega
    conv=>whnf
    refine Zj ?_;refine ZEw (fun z0=>wN ?_) (fun z0=>wN ?_)
    ·refine Zj ?_;refine Or.inr (wN ?_);refine ZEw (fun z1=>wN ?_) (fun z1=>wN ?_)
     ·refine ⟨⟨oM,oM⟩,wN ?_⟩
      repeat (refine ⟨rfl,?_⟩;conv=>whnf)
      refine ZEz (fun z2=>wN ?_) (fun z2=>wN ?_)
      ·have z2':Zd (pk (s.drop (a+2+k))).1=false:=by rw [Ti] at z2;simpa only [TZ] using z2
       refine ZEw (fun z3=>wN ?_) (fun z3=>wN ?_)
       ·repeat (refine ⟨rfl,?_⟩;conv=>whnf)
        refine tail q2' true (by rw [TL (show 0<k by omega),TL (show k<=16 by omega)];rfl) true ?_;rw [z2',Tr (show s.length<=a+2+k by omega)];rfl
       have z3':a+2+k<s.length:=by omega
       have ko:=UU (r:=s.drop (a+2+k)) (by rw [Tu];omega);rw [Wk,Sl] at ko;refine ⟨oM,oM,wN ?_⟩;rw [gw];refine Or.inl ⟨InR.i32 oM oM,wN ?_⟩
       repeat (refine ⟨rfl,?_⟩;conv=>whnf)
       refine tail q2' true (by rw [TL (show 0<k by omega),TL (show k<=16 by omega)];rfl) _ ?_;rw [z2',ko];simp
      have z2':Zd (pk (s.drop (a+2+k))).1=true:=by rw [Ti] at z2;simpa only [Bool.not_eq_false'] using z2
      repeat (refine ⟨rfl,?_⟩;conv=>whnf)
      refine tail q2' true (by rw [TL (show 0<k by omega),TL (show k<=16 by omega)];rfl) false ?_;rw [z2'];rfl
     repeat (refine ⟨rfl,?_⟩;conv=>whnf)
     refine tail q2' false (by rw [decide_eq_false (show ¬k<=16 by omega)];simp) false sM
    refine Or.inr (wN ?_)
    repeat (refine ⟨rfl,?_⟩;conv=>whnf)
    refine tail q2' false (by rw [decide_eq_false (show ¬0<k by omega)];simp) false sM
   have q1':k=D.length:=t2 oM;refine Zj ?_;refine ZEw (fun z0=>wN ?_) (fun z0=>wN ?_)
   ·refine Zj ?_;refine Or.inr (wN ?_);refine ZEw (fun z1=>wN ?_) (fun z1=>wN ?_)
    ·refine ⟨⟨oM,oM⟩,wN ?_⟩
     repeat (refine ⟨rfl,?_⟩;conv=>whnf)
     refine ZEz (fun z2=>wN ?_) (fun z2=>wN ?_)
     ·have z2':Zd (pk (s.drop (a+2+k))).1=false:=by rw [Ti] at z2;simpa only [TZ] using z2
      refine ZEw (fun z3=>wN ?_) (fun z3=>wN ?_)
      ·repeat (refine ⟨rfl,?_⟩;conv=>whnf)
       refine tail q1' true (by rw [TL (show 0<k by omega),TL (show k<=16 by omega)];rfl) true ?_;rw [z2',Tr (show s.length<=a+2+k by omega)];rfl
      have z3':a+2+k<s.length:=by omega
      have ko:=UU (r:=s.drop (a+2+k)) (by rw [Tu];omega);rw [Wk,Sl] at ko;refine ⟨oM,oM,wN ?_⟩;rw [gw];refine Or.inl ⟨InR.i32 oM oM,wN ?_⟩
      repeat (refine ⟨rfl,?_⟩;conv=>whnf)
      refine tail q1' true (by rw [TL (show 0<k by omega),TL (show k<=16 by omega)];rfl) _ ?_;rw [z2',ko];simp
     have z2':Zd (pk (s.drop (a+2+k))).1=true:=by rw [Ti] at z2;simpa only [Bool.not_eq_false'] using z2
     repeat (refine ⟨rfl,?_⟩;conv=>whnf)
     refine tail q1' true (by rw [TL (show 0<k by omega),TL (show k<=16 by omega)];rfl) false ?_;rw [z2'];rfl
    repeat (refine ⟨rfl,?_⟩;conv=>whnf)
    refine tail q1' false (by rw [decide_eq_false (show ¬k<=16 by omega)];simp) false sM
   refine Or.inr (wN ?_)
   repeat (refine ⟨rfl,?_⟩;conv=>whnf)
   refine tail q1' false (by rw [decide_eq_false (show ¬0<k by omega)];simp) false sM
  have hx:YG r=false:=by rw [YG,Bool.eq_false_iff];exact fun g=>k1 ((ZrX _ _ _).1 g)
  have vw:D=(s.drop a).takeWhile (YR false):=by rw [hD,Zc,hx,Tf sM,hr,Sn]
  have hNl:Zu r=D.length:=by rw [Zu,hx,Tf sM,hD,T9]
  have htw:∀k,k<=D.length->(a+k<s.length->(YR false (s.getD (a+k) 0)=true↔k<D.length))/\(s.length<=a+k->k=D.length)/\(k<D.length->a+k<s.length/\D.getD k 0=s.getD (a+k) 0):=fun k hk=>by
   have:=Zvv (p:=YR false) (s.drop a) k (by rw [<- vw];exact hk);exact mq128
  have hDl:a+D.length<=s.length:=by
   have:=XQ (YR false) (s.drop a);rw [<- vw,Tu] at this;omega
  refine ⟨⟨0,0,true,rfl,rfl,oM,oM,by simp [YY],fun _=>by simp [YY]⟩,?_⟩;intro vs σ1 hI
  obtain ⟨k,n,ok,rfl,rfl,hk,hn,ao,xe⟩:=hI;obtain ⟨t1,t2,t3⟩:=htw k hk;have xc:=(s.getD (a+k) 0).toNat_lt;have gw:(s.getD (((a+k:Nat):Int)).toNat 0)=s.getD (a+k) 0:=by rw [Ti]
  have adn:D≠[]:=fun g=>by
   have hdb:YR false (s.getD a 0)=true:=by rw [YR,ey];rfl
   have:=((htw 0 oM).1 oM).1 hdb;rw [g] at this;simp at this
  have tail:k=D.length->∀okb:Bool,okb=ok->∀X:Bool,X=(okb && !Zd (pk (s.drop (a+k))).1 && !Zf (pk (s.drop (a+k))).1) ->
    K (.ret (.tuple [.agg [.d (.int .u8 2),.d (.str []),.d (.int .i64 (IntKind.i64.wrap n)),.d (.int .i64 a),.d (.int .i64 (a+k:Nat))],.d (.bool X)])) ⟨[],[],0⟩:=fun xg okb ado X hX=>by
   subst ado;refine fin (a+k) n okb (by rw [hNl];omega) (fun g=>?_) (fun g=>?_) X hX
   ·have hv:=xe g;rw [g] at ao;rw [xg,T6] at hv ao;have adp:=of_decide_eq_true ao.symm;rw [hx];simp only [Tt,if_false,false_and,not_false_eq_true,and_true];exact ⟨adn,oM,hv⟩
   rw [g] at ao;rw [xg,T6] at ao;have adp:=of_decide_eq_false ao.symm;rw [hx];simp only [Tt,if_false];exact .inr (.inl oM)
  conv=>whnf
  refine ZEw (fun q1=>wN ?_) (fun q1=>wN ?_)
  ·have q1':a+k<s.length:=by omega
   refine ⟨oM,oM,wN ?_⟩;rw [gw];refine Or.inl ⟨InR.i32 oM oM,wN ?_⟩;have hdB:YR false (s.getD (a+k) 0)=Zf ((s.getD (a+k) 0).toNat:Int):=by rw [YR];simp
   refine ZEz (fun q2=>wN ?_) (fun q2=>wN ?_)
   ·have q2':YR false (s.getD (a+k) 0)=true:=hdB.trans q2;have ab:k<D.length:=(t1 q1').1 q2';have mj:=isDigit_iff.1 q2;obtain ⟨d,hd⟩:∃d:Nat,d=J1 (s.getD (a+k) 0):=⟨_,rfl⟩
    have hdv:((s.getD (a+k) 0).toNat:Int) - 48=(d:Int):=by rw [hd,J1,Th oM];omega
    have hv:YY 10 (D.take (k+1))=YY 10 (D.take k) * 10+d:=by rw [Zap ab,Zao,(t3 ab).2,hd]
    have ar:=Us 10 oM (D.take (k+1)) k;rw [List.take_take,Nat.min_eq_left oM] at ar;refine ⟨oM,oM,wN ?_⟩;rw [gw];refine WY ?_;rw [hdv];refine J0 ?_;refine J0 ?_;refine ⟨oM,wN ?_⟩;have qo:((9223372036854775807:Int) - (d:Int)).tdiv 10=(9223372036854775807 - (d:Int)) / 10:=Int.tdiv_eq_ediv_of_nonneg oM;rw [qo];refine J0 ?_;have big:∃n':Nat,IntKind.u64.wrap (IntKind.u64.wrap ((n:Int) * 10)+(d:Int))=n'/\n'<18446744073709551616:=by
     have:=Zk2 (IntKind.u64.wrap ((n:Int) * 10)+(d:Int));exact ⟨(IntKind.u64.wrap (IntKind.u64.wrap ((n:Int) * 10)+(d:Int))).toNat,oM,oM⟩
    conv=>whnf
    refine ZEw (fun z1=>wN ?_) (fun z1=>?_)
    ·obtain ⟨n',e1,e2⟩:=big;have hf:false=decide (YY 10 (D.take (k+1))<9223372036854775808):=by
      symm;apply decide_eq_false
      rw [hv]
      cases ok with
      | true=>have:=xe rfl;omega
      | false=>have:=of_decide_eq_false ao.symm;omega
     exact mq77
    cases ok with
    | true =>
     have jf:=xe rfl;have adq:n * 10+d<9223372036854775808:=oM;(conv=>whnf);refine J0 ?_;refine J0 ?_;refine Zj ?_;exact ⟨⟨k+1,n * 10+d,true,rfl,rfl,oM,oM,by rw [hv,<- jf];exact (TL adq).symm,fun _=>by rw [hv,jf]⟩,(show ((s.length:Int) - (((a+k:Nat):Int)+1)).toNat<((s.length:Int) - ((a+k:Nat):Int)).toNat by omega)⟩
    | false =>
    obtain ⟨n',e1,e2⟩:=big;have hf:false=decide (YY 10 (D.take (k+1))<9223372036854775808):=by
     symm;apply decide_eq_false
     have:=of_decide_eq_false ao.symm;omega
    conv=>whnf
    exact mq77
   have q2':k=D.length:=by
    have:¬k<D.length:=fun g=>by have:=(t1 q1').2 g;rw [hdB,q2] at this;cases this
    omega
   refine Or.inr (wN ?_)
   cases ok with
   | true =>
    conv=>whnf
    refine ⟨⟨oM,oM⟩,wN ?_⟩
    repeat (refine ⟨rfl,?_⟩;conv=>whnf)
    refine ZEz (fun z2=>wN ?_) (fun z2=>wN ?_)
    ·have z2':Zd (pk (s.drop (a+k))).1=false:=by rw [Ti] at z2;simpa only [TZ] using z2
     refine ZEw (fun z3=>wN ?_) (fun z3=>wN ?_)
     ·repeat (refine ⟨rfl,?_⟩;conv=>whnf)
      refine tail q2' true rfl true ?_;rw [z2',Tr (show s.length<=a+k by omega)];rfl
     have z3':a+k<s.length:=by omega
     have ko:=UU (r:=s.drop (a+k)) (by rw [Tu];omega);rw [Wk,Sl] at ko;refine ⟨oM,oM,wN ?_⟩;rw [gw];refine Or.inl ⟨InR.i32 oM oM,wN ?_⟩
     repeat (refine ⟨rfl,?_⟩;conv=>whnf)
     refine tail q2' true rfl _ ?_;rw [z2',ko];simp
    have z2':Zd (pk (s.drop (a+k))).1=true:=by rw [Ti] at z2;simpa only [Bool.not_eq_false'] using z2
    repeat (refine ⟨rfl,?_⟩;conv=>whnf)
    refine tail q2' true rfl false ?_;rw [z2'];rfl
   | false =>
   conv=>whnf
   repeat (refine ⟨rfl,?_⟩;conv=>whnf)
   refine tail q2' false rfl false sM
  have q1':k=D.length:=t2 oM;refine Or.inr (wN ?_)
  cases ok with
  | true =>
   conv=>whnf
   refine ⟨⟨oM,oM⟩,wN ?_⟩
   repeat (refine ⟨rfl,?_⟩;conv=>whnf)
   refine ZEz (fun z2=>wN ?_) (fun z2=>wN ?_)
   ·have z2':Zd (pk (s.drop (a+k))).1=false:=by rw [Ti] at z2;simpa only [TZ] using z2
    refine ZEw (fun z3=>wN ?_) (fun z3=>wN ?_)
    ·repeat (refine ⟨rfl,?_⟩;conv=>whnf)
     refine tail q1' true rfl true ?_;rw [z2',Tr (show s.length<=a+k by omega)];rfl
    have z3':a+k<s.length:=by omega
    have ko:=UU (r:=s.drop (a+k)) (by rw [Tu];omega);rw [Wk,Sl] at ko;refine ⟨oM,oM,wN ?_⟩;rw [gw];refine Or.inl ⟨InR.i32 oM oM,wN ?_⟩
    repeat (refine ⟨rfl,?_⟩;conv=>whnf)
    refine tail q1' true rfl _ ?_;rw [z2',ko];simp
   have z2':Zd (pk (s.drop (a+k))).1=true:=by rw [Ti] at z2;simpa only [Bool.not_eq_false'] using z2
   repeat (refine ⟨rfl,?_⟩;conv=>whnf)
   refine tail q1' true rfl false ?_;rw [z2'];rfl
  | false =>
  conv=>whnf
  repeat (refine ⟨rfl,?_⟩;conv=>whnf)
  refine tail q1' false rfl false sM
 exact h.elim
def Zdr {r:Bs} (hr:r≠[]) {c:Nat} (hc:c<65533):(Lib.decodeL r).1=c↔(pk r).1=(c:Int):=by
 unfold pk
 by_cases hv:Lib.decodeL r=(65533,1)
 ·rw [Th (.inr hv),hv];simp only;omega
 rw [Tf (by simp only [not_or];exact ⟨hr,hv⟩)];simp only;omega
def Zh5 {r:Bs} (h:(pk r).1≠-1):r≠[]/\pk r=(((Lib.decodeL r).1:Int),(Lib.decodeL r).2)/\Lib.encodeRune ((Lib.decodeL r).1:Int)=r.take (Lib.decodeL r).2:=by
 by_cases hr:r=[]
 ·rw [hr] at h;simp [pk] at h
 by_cases hv:Lib.decodeL r=(65533,1)
 ·unfold pk at h;rw [Th (.inr hv)] at h;simp at h
 refine ⟨hr,by unfold pk;rw [Tf (by simp only [not_or];exact ⟨hr,hv⟩)],Lib.encode_decode r hr fun g=>hv (Prod.ext g.1 g.2)⟩
def ZmI {f:Nat} {r out:Bs} {p:Nat} (hc:(pk r).1=34):ZH (f+1) r false out p=.ok out (p+1):=by
 have hr:r≠[]:=(Zh5 oM).1;have h1:=(Zdr hr (c:=34) oM).2 hc;rw [ZH,Tf hr,Tf sM,Th h1]
def Zr2 {f:Nat} {r out:Bs} {p:Nat} (hr:r≠[]) (h1:(pk r).1≠34) (h2:(pk r).1≠92) (hc:(pk r).1<32):ZH (f+1) r false out p=.err p:=by
 rw [ZH,Tf hr,Tf sM,Tf (fun g=>h1 ((Zdr hr (c:=34) oM).1 g)),Tf (fun g=>h2 ((Zdr hr (c:=92) oM).1 g)),Th hc]
def Zvz {f:Nat} {r out:Bs} {p:Nat} (h1:(pk r).1≠34) (h2:(pk r).1≠92) (hc:¬(pk r).1<32):ZH (f+1) r false out p=ZH f (r.drop (pk r).2) false (out++r.take (pk r).2) (p+(pk r).2):=by
 obtain ⟨hr,he,adr⟩:=Zh5 (show (pk r).1≠-1 by omega);rw [ZH,Tf hr,Tf sM,Tf (fun g=>h1 ((Zdr hr (c:=34) oM).1 g)),Tf (fun g=>h2 ((Zdr hr (c:=92) oM).1 g)),Tf hc,adr];rw [he]
def Zr3 {f:Nat} {r out:Bs} {p:Nat} (hc:(pk r).1=92):ZH (f+1) r false out p=ZH f (r.drop 1) true out (p+1):=by
 have hr:r≠[]:=(Zh5 oM).1;have h1:=(Zdr hr (c:=92) oM).2 hc;have h2:=(ZkW r oM oM).2.2;have h3:=(Zh5 (show (pk r).1≠-1 by omega)).2.1;rw [h3] at h2;simp only at h2;rw [ZH,Tf hr,Tf sM,Tf oM,Th h1,h2]
def Zk3 (f:Nat) (e:Bool) (out:Bs) (p:Nat):ZH f [] e out p=.err 0:=by
 cases f <;> simp [ZH]
def ZoR {f:Nat} {b:UInt8} {l out:Bs} {p:Nat}:ZH (f+1) (b::l) true out p=match ZiU b.toNat with
  | none=>.err (p - 1)
  | some x=>ZH f l false (out++[x]) (p+1):=by
 have hr:b::l≠[]:=sM;have key:∀c:Nat,c<128->((Lib.decodeL (b::l)).1=c↔b.toNat=c):=fun c hc=>by
  rw [Zdr hr oM,Zbj sM oM oM];simp only [Sq];omega
 have sz:b.toNat<128->(Lib.decodeL (b::l)).2=1:=fun h=>by
  have h1:=(Zbj (r:=b::l) (c:=b.toNat) sM oM oM).2 sM;have h2:=(ZkW (b::l) oM oM).2.2;have h3:=(Zh5 (r:=b::l) oM).2.1;rw [h3] at h2;exact h2
 have he:ZiU (Lib.decodeL (b::l)).1=ZiU b.toNat:=by
  unfold ZiU
  simp only [key 110 oM,key 116 oM,key 34 oM,key 92 oM]
 rw [ZH,Tf hr,Th rfl,he]
 cases hx:ZiU b.toNat with
 | none=>rfl
 | some x =>
 have:b.toNat<128:=by
  unfold ZiU at hx
  (repeat' split at hx) <;> first | omega | cases hx
 rw [sz this];rfl
def ZjF:Zm:=fun args σ K=>match args,σ with
 | [.d (.str s),.d (.int .i64 a)],⟨[],[],0⟩=>(0<=a/\a<s.length/\s.length<4294967281) /\
   (match Y3 (s.drop a.toNat) with
    | .ok t l=>K (.ret (.tuple [WQ 3 t 0 a (a+l),.d (.int .i64 (-1))])) ⟨[],[],0⟩
    | .err p=>K (.ret (.tuple [WQ 0 [] 0 0 0,.d (.int .i64 (a+p))])) ⟨[],[],0⟩)
 | _,_=>False
def Zr4:Tbl:=[(254,ZhZ)]
def Zr5:PC w0 nG 223 ZjF:=by
 refine YF ZC mixed (tbl:=Zr4) ⟨Zjv,trivial⟩ Tryz.func223 rfl kR kR ?_;intro args σ K h
 unfold ZjF at h
 split at h
 ·rename_i s a
  obtain ⟨⟨h0,h1,hs⟩,h⟩:=h;obtain ⟨a,rfl⟩:∃n:Nat,a=n:=⟨a.toNat,oM⟩
  simp only [Ti] at h;refine ⟨Zk [(3,⟨[6,7],[0,1,4],fun vs σ=>∃(out:Bs) (i f:Nat),vs=[.sl 0 5 (Zg out),.d (.int .i64 i)]/\σ=⟨[.cells 186 [.d (.int .u8 0),.d (.str []),.d (.int .i64 0),.d (.int .i64 0),.d (.int .i64 0)]],[0],1⟩/\(a+1<=i/\i<=s.length/\s.length<i+f/\out.length<=i)/\ZH f (s.drop i) false out (i - a)=Y3 (s.drop a),fun vs _=>match vs with | [_,.d (.int _ n)]=>((s.length:Int) - n).toNat | _=>0⟩)],Ye [],ZB [],0,false,sM,Tc rfl,wN ?_⟩;refine Zj ?_;refine ⟨⟨[],a+1,(s.drop a).length+1,rfl,rfl,⟨oM,oM,hD,sM⟩,?_⟩,?_⟩
  ·rw [Y3,TC,show a+1 - a=1 by omega]
  intro vs σ1 hI
  obtain ⟨out,i,f,rfl,rfl,⟨hi0,yk,ac,w9⟩,fk⟩:=hI;obtain ⟨f,rfl⟩:∃g,f=g+1:=⟨f - 1,oM⟩
  have cp:=Xz out;have ff:=ZkS (s.drop i);have qy:=X3 (s.drop i);have nv:=ZrO (s.drop i);have ao:∀t l,Y3 (s.drop a)=.ok t l->K (.ret (.tuple [WQ 3 t 0 a (a+l),.d (.int .i64 (-1))])) ⟨[],[],0⟩:=fun t l g=>by rw [g] at h;exact h
  have zo:∀p,Y3 (s.drop a)=.err p->K (.ret (.tuple [WQ 0 [] 0 0 0,.d (.int .i64 (a+p))])) ⟨[],[],0⟩:=fun p g=>by rw [g] at h;exact h
  have sr:Y3 (s.drop a)=.err 0->K (.ret (.tuple [WQ 0 [] 0 0 0,.d (.int .i64 a)])) ⟨[],[],0⟩:=fun g=>by have:=zo 0 g;rw [show (a:Int)+((0:Nat):Int)=a by omega] at this;exact this
  have su:Y3 (s.drop a)=.err (i - a)->K (.ret (.tuple [WQ 0 [] 0 0 0,.d (.int .i64 i)])) ⟨[],[],0⟩:=fun g=>by have:=zo _ g;rw [show (a:Int)+((i - a:Nat):Int)=i by omega] at this;exact this
  conv=>whnf
  refine ZEw (fun h2=>wN ?_) (fun h2=>wN ?_)
  ·have bz:i<s.length:=by omega
   have hdh:=Uq bz;have ai:s.drop i≠[]:=by rw [hdh];simp
   refine ⟨⟨oM,oM,hs⟩,wN ?_⟩;generalize iv:(pk (s.drop ((i:Int)).toNat)).1=c;have hc:(pk (s.drop i)).1=c:=iv;have jq:c≠-1->i+(pk (s.drop i)).2<=s.length:=fun g=>by
    have:=(nv (by rw [hc];exact g)).2.1;rw [Tu] at this;omega
   conv=>whnf
   refine ZEw (fun h3=>wN ?_) (fun h3=>wN ?_)
   ·have g1:=ZmI (f:=f) (out:=out) (p:=i - a) (r:=s.drop i) (by rw [hc];exact h3);rw [fk] at g1;refine ⟨out,rfl,wN ?_⟩;refine Zj ?_;have:=ao _ _ g1;rw [show (a:Int)+((i - a+1:Nat):Int)=(i:Int)+1 by omega] at this;exact this
   refine ZEw (fun h4=>wN ?_) (fun h4=>wN ?_)
   ·have g1:=Zr3 (f:=f) (out:=out) (p:=i - a) (r:=s.drop i) (by rw [hc];exact h4);rw [fk,TC] at g1;refine Zj ?_;refine ZEw (fun h5=>wN ?_) (fun h5=>?_)
    ·exact sr (by rw [g1,Tr oM,Zk3])
    have fe:i+1<s.length:=by omega
    obtain ⟨f,rfl⟩:∃g,f=g+1:=⟨f - 1,oM⟩
    rw [Uq fe,ZoR] at g1;obtain ⟨b,hb⟩:∃b,b=s.getD (i+1) 0:=⟨_,rfl⟩
    have xc:=b.toNat_lt;have gw:s.getD (((i:Int)+1)).toNat 0=b:=by rw [hb];congr 1
    rw [<- hb] at g1;have on:∀x:UInt8,ZiU b.toNat=some x->∃out':Bs,Zg out++[[.int .u8 (x.toNat:Int)]]=Zg out'/\(a+1<=i+2/\i+2<=s.length/\s.length<i+2+f/\out'.length<=i+2)/\ZH f (s.drop (i+2)) false out' (i+2 - a)=Y3 (s.drop a):=fun x hx=>by
     refine ⟨out++[x],(VL _ _).symm,⟨oM,oM,oM,sO⟩,?_⟩;rw [g1,hx];simp only;rw [show i - a+1+1=i+2 - a by omega]
    conv=>whnf
    refine Zj ?_;refine ⟨oM,oM,wN ?_⟩;rw [gw];have q:∀n:Nat,(b.toNat:Int)=n->b.toNat=n:=fun n g=>oM
    conv=>whnf
    refine ZEw (fun k1=>wN ?_) (fun k1=>wN ?_)
    ·have k1':=q 110 k1;refine ⟨fun r hr=>by (simp at hr;rcases hr with rfl <;> rfl),(show ((Zg out).length+1) * 1<=2 ^ 47 by omega),(show (Zg out).length+1<=2 ^ 47 by omega),?_⟩;(conv=>whnf);refine Zj ?_;obtain ⟨out',e1,e2,e3⟩:=on 10 (by rw [k1'];rfl);exact mq126
    refine ZEw (fun k2=>wN ?_) (fun k2=>wN ?_)
    ·have k2':=q 116 k2;refine ⟨fun r hr=>by (simp at hr;rcases hr with rfl <;> rfl),(show ((Zg out).length+1) * 1<=2 ^ 47 by omega),(show (Zg out).length+1<=2 ^ 47 by omega),?_⟩;(conv=>whnf);refine Zj ?_;obtain ⟨out',e1,e2,e3⟩:=on 9 (by rw [k2'];rfl);exact mq126
    refine ZEw (fun k3=>wN ?_) (fun k3=>wN ?_)
    ·have k3':=q 34 k3;refine ZEw (fun _=>wN ?_) (fun g=>absurd k3 g);refine Zj ?_;refine ⟨oM,oM,wN ?_⟩;rw [gw];refine ⟨fun r hr=>by (simp at hr;rcases hr with rfl <;> rfl),(show ((Zg out).length+1) * 1<=2 ^ 47 by omega),(show (Zg out).length+1<=2 ^ 47 by omega),?_⟩;(conv=>whnf);refine Zj ?_;obtain ⟨out',e1,e2,e3⟩:=on 34 (by rw [k3'];rfl);refine ⟨⟨out',i+2,f,?_,rfl,e2,e3⟩,(show ((s.length:Int) - ((i:Int)+2)).toNat<((s.length:Int) - (i:Int)).toNat by omega)⟩;rw [<- e1,k3'];rfl
    refine ZEw (fun k4=>wN ?_) (fun k4=>wN ?_)
    ·have k4':=q 92 k4;refine Zj ?_;refine ⟨oM,oM,wN ?_⟩;rw [gw];refine ⟨fun r hr=>by (simp at hr;rcases hr with rfl <;> rfl),(show ((Zg out).length+1) * 1<=2 ^ 47 by omega),(show (Zg out).length+1<=2 ^ 47 by omega),?_⟩;(conv=>whnf);refine Zj ?_;obtain ⟨out',e1,e2,e3⟩:=on 92 (by rw [k4'];rfl);refine ⟨⟨out',i+2,f,?_,rfl,e2,e3⟩,(show ((s.length:Int) - ((i:Int)+2)).toNat<((s.length:Int) - (i:Int)).toNat by omega)⟩;rw [<- e1,k4'];rfl
    have hnone:ZiU b.toNat=none:=by
     unfold ZiU
     rw [Tf (fun g=>k1 oM),Tf (fun g=>k2 oM),Tf (fun g=>k3 oM),Tf (fun g=>k4 oM)]
    rw [hnone] at g1;exact su (by rw [g1];simp)
   refine ZEw (fun h5=>wN ?_) (fun h5=>wN ?_)
   ·have g1:=Zr2 (f:=f) (out:=out) (p:=i - a) ai (by rw [hc];exact h3) (by rw [hc];exact h4) (by rw [hc];exact h5);rw [fk] at g1;exact su g1
   have g1:=Zvz (f:=f) (out:=out) (p:=i - a) (r:=s.drop i) (by rw [hc];exact h3) (by rw [hc];exact h4) (by rw [hc];exact h5);rw [fk,TC] at g1;have g3:=jq oM;have ec:cut s ((i:Int)).toNat ((i:Int)+((pk (s.drop ((i:Int)).toNat)).2:Int)).toNat=(s.drop i).take (pk (s.drop i)).2:=by
    rw [Xy];congr 1;simp only [Ti];omega
   have htl:((s.drop i).take (pk (s.drop i)).2).length=(pk (s.drop i)).2:=by rw [Si,Tu];omega
   refine Or.inl ⟨InR.i64 tN tN,wN ?_⟩;refine ⟨oM,tN,tN,wN ?_⟩;rw [ec];refine ⟨fun r hr=>Zbh _ r hr,(show ((Zg out).length+(Zg ((s.drop i).take (pk (s.drop i)).2)).length) * 1<=2 ^ 47 by rw [Xz,Xz];omega),(show (Zg out).length+(Zg ((s.drop i).take (pk (s.drop i)).2)).length<=2 ^ 47 by rw [Xz,Xz];omega),wN ?_⟩;refine Or.inl ⟨InR.i64 tN tN,wN ?_⟩;refine ⟨⟨out++(s.drop i).take (pk (s.drop i)).2,i+(pk (s.drop i)).2,f,?_,rfl,⟨oM,g3,oM,by rw [Ta];omega⟩,?_⟩,?_⟩
   ·rw [Wj];rfl
   ·rw [g1];congr 1;omega
   exact (show ((s.length:Int) - ((i:Int)+((pk (s.drop i)).2:Int))).toNat<((s.length:Int) - (i:Int)).toNat by omega)
  have g1:Y3 (s.drop a)=.err 0:=by rw [<- fk,Tr oM,Zk3]
  exact sr g1
 exact h.elim
def ZoS:∀b∈ones,b.toNat<128/\Zd (b.toNat:Int)=false/\Zf (b.toNat:Int)=false/\b.toNat≠34:=dM
def ZoT {r:Bs} (h:Z9 r≠0):r.getD 0 0∈ones:=by
 unfold Z9 at h
 split at h
 ·rename_i g
  simp only [twos,SK,List.any_nil,Sm,Tt,or_false] at g;rcases g with g | g | g | g | g <;> (rw [(Zv g).2,Sq];decide)
 split at h
 ·rename_i g;exact List.contains_iff_mem.1 g
 exact absurd rfl h
def Zds {r:Bs} (h0:0<r.length) (h:Zd (pk r).1=true\/Zf (pk r).1=true\/(pk r).1=34):Z9 r=0:=by
 by_cases hs:Z9 r=0
 ·exact hs
 obtain ⟨g1,g2,g3,g4⟩:=ZoS _ (ZoT hs);have:=(Zbj (c:=(r.getD 0 0).toNat) h0 oM oM).2 rfl;rw [this,g2,g3] at h;rcases h with h | h | h
 ·cases h
 ·cases h
 exact absurd h oM
def ZmJ {c:Int} (h:Zd c=true):Zf c=false/\c≠34:=by
 rw [ZhW] at h;refine ⟨?_,oM⟩;rw [Bool.eq_false_iff];intro g;rw [isDigit_iff] at g;omega
def Zr6 {a:Nat} {r:Bs} (h0:0<r.length) (h:Zd (pk r).1=true):Xd a r true=.tok ⟨1,r.take (Y2 r),0,a,a+Y2 r⟩:=by
 obtain ⟨h1,h2⟩:=ZmJ h;have hs:=Zds h0 (.inl h);simp only [Xd,hs,h,h1,h2];simp
def ZvA {a:Nat} {r:Bs} (h0:0<r.length) (h:Zf (pk r).1=true):Xd a r true=XW a r:=by
 have hs:=Zds h0 (.inr (.inl h));have h2:(pk r).1≠34:=by rw [isDigit_iff] at h;omega
 simp only [Xd,hs,h,h2];simp
def ZvB {a:Nat} {r:Bs} (h0:0<r.length) (h:(pk r).1=34):Xd a r true=Zce a r:=by
 have hs:=Zds h0 (.inr (.inr h));simp only [Xd,hs,h];simp
def Zun {a:Nat} {r:Bs} (h:0<Z9 r):Xd a r true=.tok ⟨4,r.take (Z9 r),0,a,a+Z9 r⟩:=by
 simp only [Xd];rw [Tf oM,Tf sM,Th h]
def Zzq {a:Nat} {r:Bs} {room:Bool} (h:ZoI r=false):Xd a r room=.bad a 140:=by
 simp only [ZoI,Sg,decide_eq_false_iff_not] at h;obtain ⟨⟨⟨h1,h2⟩,h3⟩,h4⟩:=h;simp only [Xd];rw [Th ⟨oM,h3,h1,h2⟩]
def Zzr {a:Nat} {r:Bs} (h:ZoI r=true):Xd a r false=.bad a 3:=by
 have hn:¬(Z9 r=0/\(pk r).1≠34/\Zd (pk r).1=false/\Zf (pk r).1=false):=by
  rintro ⟨g1,g2,g3,g4⟩
  simp only [ZoI,g1,g3,g4,g2] at h;simp at h
 simp only [Xd];rw [Tf hn];simp
def ZoU:Zm:=fun args σ K=>match args,σ with
 | [.d (.str s),.d (.int .i64 a)],⟨[],[],0⟩=>(0<=a/\a<s.length/\s.length<4294967281/\ZoI (s.drop a.toNat)=true) /\
   (match Xd a.toNat (s.drop a.toNat) true with
    | .tok t=>K (.ret (.tuple [WQ t.kind t.text t.n t.at' t.fin,.d (.int .i64 0),.d (.int .i64 0)])) ⟨[],[],0⟩
    | .bad p e=>K (.ret (.tuple [WQ 0 [] 0 0 0,.d (.int .i64 p),.d (.int .i64 e)])) ⟨[],[],0⟩)
 | _,_=>False
def ZvC:Tbl:=[(218,Zbi),(221,Zjw),(219,Wy),(222,ZoQ),(223,ZjF),(220,Zgv)]
def ZvD:PC w0 nG 169 ZoU:=by
 refine YF ZC mixed (tbl:=ZvC) ⟨Zcw,ZrW,Zal,Zvy,Zr5,ZkY,trivial⟩ Tryz.func169 rfl kR kR ?_;intro args σ K h
 unfold ZoU at h
 split at h
 ·rename_i s a
  obtain ⟨⟨h0,h1,hs,hb⟩,h⟩:=h;obtain ⟨a,rfl⟩:∃n:Nat,a=n:=⟨a.toNat,oM⟩
  simp only [Ti] at h hb;have lr:0<(s.drop a).length:=hD;have ko:=UU lr;have vu:=Zbj lr (c:=34) oM oM;rw [Lib.getD_dropU,Sl] at ko vu;have xc:=(s.getD a 0).toNat_lt;have gw:s.getD ((a:Int)).toNat 0=s.getD a 0:=by rw [Ti]
  refine ⟨Zk [],Ye [],ZB [],0,false,dM,Tc rfl,wN ?_⟩;refine ⟨⟨h0,hs⟩,wN ?_⟩;refine ZEz (fun h2=>wN ?_) (fun h2=>wN ?_)
  ·have bz:Zd (pk (s.drop a)).1=true:=h2;rw [Zr6 lr bz] at h;refine ⟨⟨h0,oM,hs,bz⟩,wN ?_⟩;have e1:cut s ((a:Int)).toNat (((a:Int)).toNat+Y2 (s.drop ((a:Int)).toNat))=(s.drop a).take (Y2 (s.drop a)):=by rw [Xy];congr 1;simp only [Ti];omega
   rw [e1];exact mq145
  have bz:Zd (pk (s.drop a)).1=false:=h2;refine ⟨h0,h1,wN ?_⟩;rw [gw];refine Or.inl ⟨InR.i32 oM oM,wN ?_⟩;refine ZEz (fun h3=>wN ?_) (fun h3=>wN ?_)
  ·have dg:Zf (pk (s.drop a)).1=true:=ko.trans h3;rw [ZvA lr dg,XW] at h;refine ⟨⟨h0,h1,hs,h3⟩,fun n hn=>wN ?_,fun hn n e=>wN ?_⟩
   ·rw [show ZI (s.drop a)=some n from hn] at h;exact mq145
   rw [show ZI (s.drop a)=none from hn] at h;exact h
  have dg:Zf (pk (s.drop a)).1=false:=ko.trans h3;refine ⟨h0,h1,wN ?_⟩;rw [gw];(conv=>whnf);refine ZEw (fun h4=>wN ?_) (fun h4=>wN ?_)
  ·have gq:=vu.2 h4;rw [ZvB lr gq,Zce] at h;refine ⟨⟨h0,h1,hs⟩,?_⟩;rw [Ti]
   cases hT:Y3 (s.drop a) with
   | ok t l =>
    rw [hT] at h;(conv=>whnf);exact mq145
   | err p =>
   rw [hT] at h;(conv=>whnf);exact mq145
  have hsg:0<Z9 (s.drop a):=by
   rw [ZoI,bz,dg,decide_eq_false (fun g=>h4 (vu.1 g))] at hb;simpa using hb
  have hsb:Z9 (s.drop a)<=(s.drop a).length:=by
   have:=Zdl (a:=a) lr (Zun (a:=a) hsg);simp only at this;omega
  have ei:((s.drop a).take (Z9 (s.drop a))).length=Z9 (s.drop a):=by
   rw [Si];omega
  rw [Tu] at hsb;rw [Zun hsg] at h;refine ⟨⟨h0,h1,hs⟩,wN ?_⟩;refine Or.inl ⟨InR.i64 (by simp only [Ti,ei];omega) (by simp only [Ti,ei];omega),wN ?_⟩;simp only [Ti,ei];exact mq145
 exact h.elim
def ZoV:Zm:=fun args σ K=>match args,σ with
 | [.d (.str s),.d (.int .i64 m)],⟨[],[],0⟩=>s.length<4294967281 /\
   K (.ret (.tuple [.d (.sl (Zz (J2 s m).1)),.d (.int .i64 (J2 s m).2.1),.d (.int .i64 (J2 s m).2.2)])) ⟨[],[],0⟩
 | _,_=>False
def ZvE:Tbl:=[(167,Zgx),(168,ZoJ),(169,ZoU)]
def ZvF:PC w0 nG 99 ZoV:=by
 refine YF ZC mixed (tbl:=ZvE) ⟨ZoO,Zvt,ZvD,trivial⟩ Tryz.func99 rfl kR kR ?_;intro args σ K h
 unfold ZoV at h
 split at h
 ·rename_i s m
  obtain ⟨hs,h⟩:=h;refine ⟨Zk [(3,⟨[7,8],[0,1],fun vs σ=>∃(l:List Tok) (e f:Nat),vs=[.sl 0 186 (Zz l),.d (.int .i64 e)]/\σ=⟨[],[0],1⟩ /\
   (e<=s.length/\s.length<e+f/\l.length<=e)/\J2 s m=(l++(XP f (m - l.length) e (s.drop e)).1,(XP f (m - l.length) e (s.drop e)).2),fun vs _=>match vs with | [_,.d (.int _ n)]=>((s.length:Int) - n).toNat | _=>0⟩)],Ye [],ZB [],0,false,sM,Tc rfl,?_⟩
  conv=>whnf
  refine ⟨⟨[],0,s.length+1,rfl,rfl,⟨oM,oM,sM⟩,by simp [J2]⟩,?_⟩;intro vs σ1 hI
  obtain ⟨l,e,f,rfl,rfl,⟨vt,oe,ar⟩,cd⟩:=hI;obtain ⟨f,rfl⟩:∃g,f=g+1:=⟨f - 1,oM⟩
  have cp:(Zr (s.drop e)).2<=s.length - e:=by have:(Zr (s.drop e)).2<=(s.drop e).length:=Zaj _ _;rw [Tu] at this;exact this
  have ce:∀p c:Nat,XP (f+1) (m - l.length) e (s.drop e)=([],(p,c))->K (.ret (.tuple [.d (.sl (Zz l)),.d (.int .i64 p),.d (.int .i64 c)])) ⟨[],[],0⟩:=fun p c g=>by
   rw [cd,g] at h;simp only [T2] at h;exact h
  have d0:s.drop ((e:Int)).toNat=s.drop e:=by rw [Ti]
  conv=>whnf
  refine ⟨⟨oM,oM,hs⟩,?_⟩;rw [d0];obtain ⟨k,hk⟩:∃k,k=(Zr (s.drop e)).2:=⟨_,rfl⟩
  rw [<- hk];rw [<- hk] at cp
  cases ao:(Zr (s.drop e)).1 with
  | false =>
   have g1:=ce (e+k) 140 (by rw [XP,Th ao,hk]);rw [Int.natCast_add] at g1;simp only [Tt,if_false];(conv=>whnf);exact g1
  | true =>
  have bu:¬(Zr (s.drop e)).1=false:=by rw [ao];simp
  simp only [if_true];(conv=>whnf);refine ZEw (fun h3=>wN ?_) (fun h3=>wN ?_)
  ·have d8:(s.drop e).drop k=[]:=by rw [TC];exact Tr oM
   have g1:=ce 0 0 (by rw [XP,Tf bu,<- hk,Th d8]);exact g1
  have ab:e+k<s.length:=by omega
  have ai:¬(s.drop e).drop k=[]:=fun g=>by have:=congrArg List.length g;rw [TC,Tu] at this;simp at this;omega
  have g1:XP (f+1) (m - l.length) e (s.drop e)=(match Xd (e+k) (s.drop (e+k)) (decide ((l.length:Int)<m)) with
    | .bad p e=>([],(p,e))
    | .tok t=>(t::(XP f (m - l.length - 1) t.fin ((s.drop (e+k)).drop (t.fin - (e+k)))).1,(XP f (m - l.length - 1) t.fin ((s.drop (e+k)).drop (t.fin - (e+k)))).2)):=by
   rw [XP,Tf bu,<- hk,Tf ai,TC,show (decide (0<m - (l.length:Int)))=decide ((l.length:Int)<m) from by rw [decide_eq_decide];omega] <;> rfl
  have rm:s.drop ((e:Int)+(k:Int)).toNat=s.drop (e+k):=by rw [show ((e:Int)+(k:Int)).toNat=e+k by omega]
  refine ⟨⟨oM,oM,hs⟩,wN ?_⟩;refine ZEz (fun h4=>wN ?_) (fun h4=>wN ?_)
  ·rw [rm] at h4;have gq:ZoI (s.drop (e+k))=false:=by simpa using h4
   have g2:=ce _ _ (g1.trans (by rw [Zzq gq]));exact g2
  rw [rm] at h4;have gq:ZoI (s.drop (e+k))=true:=by simpa using h4
  refine ZEw (fun h5=>wN ?_) (fun h5=>wN ?_)
  ·have fe:¬(l.length:Int)<m:=by have h5:m<=((Zz l).length:Int):=h5;rw [ZV] at h5;omega
   have g2:=ce _ _ (g1.trans (by rw [decide_eq_false fe,Zzr gq]));exact g2
  have fe:(l.length:Int)<m:=by have h5:¬m<=((Zz l).length:Int):=h5;rw [ZV] at h5;omega
  rw [TL fe] at g1;refine ⟨⟨oM,oM,hs,by rw [rm];exact gq⟩,?_⟩;rw [rm,show ((e:Int)+(k:Int)).toNat=e+k by omega]
  cases hx:Xd (e+k) (s.drop (e+k)) true with
  | bad p c =>
   rw [hx] at g1;have hc:=ZhY hx;have g2:=ce p c g1;(conv=>whnf);refine ZEy (fun h6=>wN ?_) (fun h6=>absurd h6 (by have:((c:Nat):Int)≠0:=oM;exact this));exact g2
  | tok t =>
  rw [hx] at g1;obtain ⟨fx,la,ht3⟩:=Zdl hD hx;rw [Tu] at ht3;(conv=>whnf);refine ⟨fun r hr=>by (simp at hr;subst hr;rfl),(show ((Zz l).length+1) * 48<=2 ^ 47 by rw [ZV];omega),(show (Zz l).length+1<=2 ^ 47 by rw [ZV];omega),wN ?_⟩;refine ⟨⟨l++[t],t.fin,f,?_,rfl,⟨oM,oM,by rw [Ta];simp;omega⟩,?_⟩,?_⟩
  ·rw [Zfn];rfl
  ·exact mq102
  exact (show ((s.length:Int) - (t.fin:Int)).toNat<((s.length:Int) - (e:Int)).toNat by omega)
 exact h.elim
def ZoW:Zm:=fun args σ K=>match args,σ with
 | [.d (.str s),.d (.int .i64 m)],⟨[],[],0⟩=>s.length<4294967281 /\
   ∀x,J2 s m=x->K (.ret (.tuple (if x.2.2=0 then [.d (.sl (Zz x.1)),.d (.int .i64 0),.d (.int .i64 0)] else [.d (.sl []),.d (.int .i64 x.2.1),.d (.int .i64 x.2.2)]))) ⟨[],[],0⟩
 | _,_=>False
def ZvG:Tbl:=[(99,ZoV)]
def ZvH:PC w0 nG 56 ZoW:=by
 refine pwt (tbl:=ZvG) ⟨ZvF,trivial⟩ Tryz.func56 fun args σ K h=>?_
 unfold ZoW at h
 split at h
 ·rename_i s m
  obtain ⟨hs,h⟩:=h;refine pwv [] 0 false ?_;refine ⟨hs,?_⟩;obtain ⟨x,hx⟩:∃x,J2 s m=x:=⟨_,rfl⟩
  have h:=h x hx;rw [hx];obtain ⟨l,p,c⟩:=x;(conv=>whnf);refine ZEy (fun hc=>wN ?_) (fun hc=>wN ?_)
  ·simp only at hc h;rw [Tf oM] at h;exact h
  simp only at hc h;rw [Th oM] at h;exact h
 exact h.elim
structure T0 where
 kind:Nat
 text:Bs
 n:Int
 deriving DecidableEq
def Tok.t0 (t:Tok):T0:=⟨t.kind,t.text,t.n⟩
abbrev Ts:=List T0
inductive R (α:Type) where
 | ok (a:α) (ts:Ts) | err (r e:Nat)
def R.bind {α β:Type} (x:R α) (f:α->Ts->R β):R β:=match x with
 | .ok a ts=>f a ts
 | .err r e=>.err r e
@[simp] theorem R.bind_ok {α β:Type} (a:α) (ts:Ts) (f:α->Ts->R β):(R.ok a ts).bind f=f a ts:=rfl
@[simp] theorem R.bind_err {α β:Type} (r e:Nat) (f:α->Ts->R β):(R.err r e:R α).bind f=.err r e:=rfl
inductive Ex where
 | mk (op:Nat) (text:Bs) (n:Int) (args:List Ex) (at':Nat)
inductive Li where
 | mk (op:Nat) (rel:Bs) (args:List Ex) (body:List Li) (at':Nat)
structure Ru where
 head:Bs
 args:List Ex
 body:List Li
 at':Nat
structure Fi where
 name:Bs
 typ:Bs
structure Ca where
 name:Bs
 fields:List Fi
structure Ty where
 kind:Nat
 name:Bs
 base:Bs
 fields:List Fi
 cases:List Ca
 at':Nat
structure Re where
 name:Bs
 fields:List Fi
 inn:Bool
 out:Bool
 inl:Bool
 at':Nat
structure Ini where
 name:Bs
 comp:Bs
 types:List Bs
 at':Nat
structure Ov where
 rel:Bs
 at':Nat
mutual
inductive Un where
 | mk (types:List Ty) (rels:List Re) (rules:List Ru) (comps:List Co) (inits:List Ini) (overs:List Ov)
inductive Co where
 | mk (name:Bs) (params:List Bs) (base:Bs) (types:List Bs) (unit:Un) (at':Nat)
end
def hd (ts:Ts):T0:=match ts with
 | []=>⟨0,[],0⟩
 | t::_=>t
def ZT (s:Bs):Nat :=
 if s=[99,97,116] then 20 else if s=[115,116,114,108,101,110] then 21 else if s=[115,117,98,115,116,114] then 22 else if s=[99,111,100,101] then 23 else if s=[115,116,114] then 24 else if s=[110,117,109] then 25 else 0
def keptWords:List Bs:=[[116,121,112,101],[100,101,99,108],[105,110,112,117,116],[111,117,116,112,117,116],[105,110,108,105,110,101],[99,111,109,112],[105,110,105,116],[111,118,101,114,114,105,100,101],[110,105,108],[99,111,117,110,116],[115,117,109],[109,105,110],[109,97,120],[98,111,114],[98,120,111,114],[98,97,110,100],[115,104,108],[115,104,114]]
def Zbk (s:Bs):Bool:=keptWords.contains s || decide (ZT s≠0)
def isW (ts:Ts) (ws:List Bs):Bool:=(decide ((hd ts).kind=1) || decide ((hd ts).kind=4)) && ws.contains (hd ts).text
def ZG (ts:Ts):Bool:=decide ((hd ts).kind=1) && (!decide ((hd ts).text=[95]) && !Zbk (hd ts).text)
def ZU (ts:Ts):Bool :=
 if (hd ts).kind=2\/(hd ts).kind=3 then true
 else if (hd ts).kind=4 then isW ts [[45],[126],[40],[91],[36]]
 else if (hd ts).kind=1 then !Zbk (hd ts).text || (decide ((hd ts).text=[110,105,108]) || decide (ZT (hd ts).text≠0))
 else false
def Zcf (ts:Ts):Nat×Nat :=
 if (hd ts).kind≠1/\(hd ts).kind≠4 then (0,0)
 else if (hd ts).text=[98,111,114] then (1,16) else if (hd ts).text=[98,120,111,114] then (1,17) else if (hd ts).text=[98,97,110,100] then (2,15) else if (hd ts).text=[115,104,108] then (3,18) else if (hd ts).text=[115,104,114] then (3,19)
 else if (hd ts).text=[43] then (4,10) else if (hd ts).text=[45] then (4,11) else if (hd ts).text=[42] then (5,12) else if (hd ts).text=[47] then (5,13) else if (hd ts).text=[37] then (5,14) else (0,0)
def ZR (w:Bs) (ts:Ts):R Unit:=if isW ts [w]=true then .ok () ts.tail else .err ts.length 150
def YO (ts:Ts):R Bs:=if ZG ts=true then .ok (hd ts).text ts.tail else .err ts.length 150
def Zo {α:Type} (d:Nat) (fr tw:Bs) (read:Ts->R α) (ts:Ts):R α :=
 if isW ts [fr]=true then
  (if d=0 then .err ts.length 151 else (read ts.tail).bind fun x ts=>if tw=[] then .ok x ts else (ZR tw ts).bind fun _ ts=>.ok x ts)
 else .err ts.length 150
def WE {α:Type} (sign:Bs) (cm:Nat) (starts:Ts->Bool) (one:Ts->R α):Nat->List α->Ts->R (List α)
 | 0,_,_=>.err 0 150
 | f+1,l,ts=>if starts ts=true/\l.length=cm then .err ts.length 3
   else (one ts).bind fun x ts=>if isW ts [sign]=true then WE sign cm starts one f (l++[x]) ts.tail else .ok (l++[x]) ts
def XX {α:Type} (sign:Bs) (cm:Nat) (starts:Ts->Bool) (one:Ts->R α) (ts:Ts):R (List α):=WE sign cm starts one (ts.length+1) [] ts
def Vo (ts:Ts):R Fi:=(YO ts).bind fun a ts=>(ZR [58] ts).bind fun _ ts=>(YO ts).bind fun b ts=>.ok ⟨a,b⟩ ts
def Zbl (fin:Bs) (ts:Ts):R (List Fi):=if isW ts [fin]=true then .ok [] ts else XX [44] 12 ZG Vo ts
def Zfo (ts:Ts):R (List Bs):=if isW ts [[60]]=true then (XX [44] 12 ZG YO ts.tail).bind fun l ts=>(ZR [62] ts).bind fun _ ts=>.ok l ts else .ok [] ts
def Zdt (ts:Ts):R Ca:=(YO ts).bind fun a ts=>(ZR [123] ts).bind fun _ ts=>(Zbl [125] ts).bind fun l ts=>(ZR [125] ts).bind fun _ ts=>.ok ⟨a,l⟩ ts
def Zh6 (t0:Ts):R Ty:=(YO t0).bind fun nm ts =>
 if isW ts [[60,58]]=true then (YO ts.tail).bind fun b ts=>.ok ⟨1,nm,b,[],[],t0.length⟩ ts
 else (ZR [61] ts).bind fun _ ts =>
  if isW ts [[91]]=true then (Zbl [93] ts.tail).bind fun l ts=>(ZR [93] ts).bind fun _ ts=>.ok ⟨2,nm,[],l,[],t0.length⟩ ts
  else (XX [124] 64 ZG Zdt ts).bind fun l ts=>.ok ⟨3,nm,[],[],l,t0.length⟩ ts
def Y5:Nat->Bool->Bool->Bool->Ts->(Bool×Bool×Bool)×Ts
 | 0,i,o,n,ts=>((i,o,n),ts)
 | f+1,i,o,n,ts=>if i=false/\isW ts [[105,110,112,117,116]]=true then Y5 f true o n ts.tail
   else if o=false/\isW ts [[111,117,116,112,117,116]]=true then Y5 f i true n ts.tail
   else if n=false/\isW ts [[105,110,108,105,110,101]]=true then Y5 f i o true ts.tail
   else ((i,o,n),ts)
def ZoX (t0:Ts):R Re:=(YO t0).bind fun nm ts=>(ZR [40] ts).bind fun _ ts=>(Zbl [41] ts).bind fun l ts=>(ZR [41] ts).bind fun _ ts =>
 .ok ⟨nm,l,(Y5 4 false false false ts).1.1,(Y5 4 false false false ts).1.2.1,(Y5 4 false false false ts).1.2.2,t0.length⟩ (Y5 4 false false false ts).2
def Zh7 (d:Nat) (ex:Ts->R Ex) (fr tw:Bs) (ts:Ts):R (List Ex):=Zo d fr tw (fun ts=>if isW ts [tw]=true then .ok [] ts else XX [44] 12 ZU ex ts) ts
def Zaq (ex:Ts->R Ex):Nat->List Ex->Ts->R (List Ex)
 | 0,l,ts=>.ok l ts
 | k+1,l,ts=>(if l=[] then .ok () ts else ZR [44] ts).bind fun _ ts=>(ex ts).bind fun e ts=>Zaq ex k (l++[e]) ts
def WG (op:Nat):Nat:=if op=22 then 3 else if op=20 then 2 else 1
def Zar (d:Nat) (ex:Ts->R Ex) (ts:Ts):R Ex :=
 if ZU ts=false then .err ts.length 150
 else if (hd ts).kind=2 then .ok (.mk 3 [] (hd ts).n [] ts.length) ts.tail
 else if (hd ts).kind=3 then .ok (.mk 4 (hd ts).text 0 [] ts.length) ts.tail
 else if (hd ts).text=[40] then Zo d [40] [41] ex ts
 else if (hd ts).text=[91] then (Zh7 d ex [91] [93] ts).bind fun l ts'=>.ok (.mk 6 [] 0 l ts.length) ts'
 else if (hd ts).text=[36] then (YO ts.tail).bind fun nm ts'=>if isW ts' [[40]]=true then (Zh7 d ex [40] [41] ts').bind fun l ts'=>.ok (.mk 7 nm 0 l ts.length) ts' else .ok (.mk 7 nm 0 [] ts.length) ts'
 else if ZT (hd ts).text≠0 then (Zo d [40] [41] (Zaq ex (WG (ZT (hd ts).text)) []) ts.tail).bind fun l ts'=>.ok (.mk (ZT (hd ts).text) [] 0 l ts.length) ts'
 else if (hd ts).text=[110,105,108] then .ok (.mk 5 [] 0 [] ts.length) ts.tail
 else if (hd ts).text=[95] then .ok (.mk 2 [] 0 [] ts.length) ts.tail
 else .ok (.mk 1 (hd ts).text 0 [] ts.length) ts.tail
def Ex.at':Ex->Nat | .mk _ _ _ _ a=>a
def Zas (sub:Nat->Ts->R Ex) (least:Nat):Nat->Ex->Ts->R Ex
 | 0,_,_=>.err 0 150
 | f+1,e,ts=>if (Zcf ts).1<least\/(Zcf ts).1=0 then .ok e ts
   else (sub ((Zcf ts).1+1) ts.tail).bind fun g ts'=>Zas sub least f (.mk (Zcf ts).2 [] 0 [e,g] e.at') ts'
def JI (sg:Ts->R Ex):Nat->Nat->Ts->R Ex
 | 0,_,ts=>sg ts
 | k+1,least,ts=>(sg ts).bind fun e ts=>Zas (JI sg k) least (ts.length+1) e ts
def Zdu (d:Nat) (sg:Ts->R Ex) (ts:Ts):R Ex :=
 if isW ts [[45]]=true then (Zo d [45] [] sg ts).bind fun e ts'=>.ok (.mk 8 [] 0 [e] ts.length) ts'
 else if isW ts [[126]]=true then (Zo d [126] [] sg ts).bind fun e ts'=>.ok (.mk 9 [] 0 [e] ts.length) ts'
 else Zar d (JI sg 6 1) ts
def XA:Nat->Ts->R Ex
 | 0=>Zdu 0 fun _=>.err 0 150
 | d+1=>Zdu (d+1) (XA d)
def Zbm (d:Nat) (ts:Ts):R Ex:=JI (XA d) 6 1 ts
def Zdv:Nat->Ts->R Ex
 | 0=>fun _=>.err 0 150
 | d+1=>Zbm d
def ZbY (ts:Ts):Nat->List Bs->Option Nat
 | _,[]=>none
 | i,w::ws=>if isW ts [w]=true then some i else ZbY ts (i+1) ws
def relWords:List Bs:=[[61],[33,61],[60],[60,61],[62],[62,61]]
def aggWords:List Bs:=[[99,111,117,110,116],[115,117,109],[109,105,110],[109,97,120]]
def Zdw (ts:Ts):R Nat:=match ZbY ts 0 relWords with
 | none=>.err ts.length 150
 | some 0=>match ZbY ts.tail 0 aggWords with
  | some j=>.ok (9+j) ts.tail.tail
  | none=>.ok 3 ts.tail
 | some k=>.ok (3+k) ts.tail
def Zdx (d op a:Nat) (ts:Ts):R Li:=(YO ts).bind fun nm ts=>(Zh7 d (Zdv d) [40] [41] ts).bind fun l ts=>.ok (.mk op nm l [] a) ts
def WH (d:Nat) (bd:Ts->R (List Li)) (a op:Nat) (l:List Ex) (ts:Ts):R Li :=
 if 9<=op then (ZR [58] ts).bind fun _ ts=>(Zo d [123] [125] bd ts).bind fun b ts=>.ok (.mk op [] l b a) ts
 else .ok (.mk op [] l [] a) ts
def Zk4 (d:Nat) (bd:Ts->R (List Li)) (t0:Ts):R Li:=(Zbm d t0).bind fun e ts=>(Zdw ts).bind fun op ts =>
 if op=9 then WH d bd t0.length op [e] ts else (Zbm d ts).bind fun g ts=>WH d bd t0.length op [e,g] ts
def ZmK (d:Nat) (bd:Ts->R (List Li)) (t0:Ts):R Li :=
 if isW t0 [[33]]=true then Zdx d 2 t0.length t0.tail
 else if ZG t0=true/\(hd t0.tail).kind=4/\(hd t0.tail).text=[40] then Zdx d 1 t0.length t0
 else Zk4 d bd t0
def Yf (ts:Ts):Bool:=ZU ts || isW ts [[33]]
def ZmL:Nat->Ts->R (List Li)
 | 0=>XX [44] 32 Yf (ZmK 0 fun _=>.err 0 150)
 | d+1=>XX [44] 32 Yf (ZmK (d+1) (ZmL d))
def Zew:Nat->Ts->R (List Li)
 | 0=>fun _=>.err 0 150
 | d+1=>ZmL d
def ZoY (d:Nat) (bodies:Bool) (t0:Ts):R Ru:=(YO t0).bind fun nm ts=>(Zh7 d (Zdv d) [40] [41] ts).bind fun l ts =>
 if bodies=true/\isW ts [[58,45]]=true then (ZmL d ts.tail).bind fun b ts=>(ZR [46] ts).bind fun _ ts=>.ok ⟨nm,l,b,t0.length⟩ ts
 else (ZR [46] ts).bind fun _ ts=>.ok ⟨nm,l,[],t0.length⟩ ts
def ZoZ (d:Nat) (un:Ts->R Un) (t0:Ts):R Co:=(YO t0).bind fun nm ts=>(Zfo ts).bind fun ps ts =>
 if isW ts [[58]]=true then (YO ts.tail).bind fun b ts=>(Zfo ts).bind fun tys ts=>(Zo d [123] [125] un ts).bind fun u ts=>.ok (.mk nm ps b tys u t0.length) ts
 else (Zo d [123] [125] un ts).bind fun u ts=>.ok (.mk nm ps [] [] u t0.length) ts
def Zo0 (t0:Ts):R Ini:=(YO t0).bind fun nm ts=>(ZR [61] ts).bind fun _ ts=>(YO ts).bind fun c ts=>(Zfo ts).bind fun tys ts=>.ok ⟨nm,c,tys,t0.length⟩ ts
def Zo1 (t0:Ts):R Ov:=(YO t0).bind fun nm ts=>.ok ⟨nm,t0.length⟩ ts
def X4 (inside:Bool) (d:Nat) (un:Ts->R Un):Nat->Un->Ts->R Un
 | 0,_,_=>.err 0 150
 | f+1,.mk tys rels rules comps inits overs,ts =>
  if ts=[]\/(inside=true/\isW ts [[125]]=true) then .ok (.mk tys rels rules comps inits overs) ts
  else if isW ts [[116,121,112,101]]=true then (if tys.length=256 then .err ts.length 3 else (Zh6 ts.tail).bind fun x ts=>X4 inside d un f (.mk (tys++[x]) rels rules comps inits overs) ts)
  else if isW ts [[100,101,99,108]]=true then (if rels.length=256 then .err ts.length 3 else (ZoX ts.tail).bind fun x ts=>X4 inside d un f (.mk tys (rels++[x]) rules comps inits overs) ts)
  else if isW ts [[99,111,109,112]]=true then (if comps.length=64 then .err ts.length 3 else (ZoZ d un ts.tail).bind fun x ts=>X4 inside d un f (.mk tys rels rules (comps++[x]) inits overs) ts)
  else if isW ts [[105,110,105,116]]=true then (if inits.length=256 then .err ts.length 3 else (Zo0 ts.tail).bind fun x ts=>X4 inside d un f (.mk tys rels rules comps (inits++[x]) overs) ts)
  else if isW ts [[111,118,101,114,114,105,100,101]]=true then (if overs.length=256 then .err ts.length 3 else (Zo1 ts.tail).bind fun x ts=>X4 inside d un f (.mk tys rels rules comps inits (overs++[x])) ts)
  else if ZG ts=true then (if rules.length=1024 then .err ts.length 3 else (ZoY d true ts).bind fun x ts=>X4 inside d un f (.mk tys rels (rules++[x]) comps inits overs) ts)
  else .err ts.length 150
def Un.nil:Un:=.mk [] [] [] [] [] []
def ZmM (inside:Bool) (d:Nat) (un:Ts->R Un) (ts:Ts):R Un:=X4 inside d un (ts.length+1) .nil ts
def Zo2:Nat->Ts->R Un
 | 0=>ZmM true 0 fun _=>.err 0 150
 | d+1=>ZmM true (d+1) (Zo2 d)
def Zbn (ts:Ts):R Un:=ZmM false 64 (Zo2 63) ts
end Go.PM.Lex
end

section
namespace Go.PM.Lex
mutual
def erE:Ex->Ex
 | .mk op t n args _=>.mk op t n (ZC5 args) 0
def ZC5:List Ex->List Ex
 | []=>[]
 | e::l=>erE e::ZC5 l
end
def Stb {α:Type} (er:α->α) (m:Ts) (x y:R α):Prop:=∀v ts,x=.ok v ts->∃v',er v'=er v/\y=.ok v' (ts++m)
section
variable {α β:Type} {er:α->α} {er2:β->β} {m:Ts}
def Stb.ok {v v':α} {ts:Ts} (h:er v'=er v):Stb er m (.ok v ts) (.ok v' (ts++m)):=fun w rest e=>by cases e;exact ⟨v',h,rfl⟩
def Stb.ok' {v v':α} {ts ts':Ts} (h:er v'=er v) (e:ts'=ts++m):Stb er m (.ok v ts) (.ok v' ts'):=e ▸ Stb.ok h
def Stb.err {r e:Nat} {y:R α}:Stb er m (.err r e) y:=fun w rest e=>by cases e
def Stb.bind {x y:R α} {f g:α->Ts->R β} (h:Stb er m x y) (hf:∀v v' ts,er v'=er v->Stb er2 m (f v ts) (g v' (ts++m))):Stb er2 m (x.bind f) (y.bind g):=fun w rest e=>by
 cases x with
 | ok v ts =>
  obtain ⟨v',h1,rfl⟩:=h v ts rfl;exact hf v v' ts h1 w rest e
 | err r e'=>cases e
def Stb.binds {x y:R α} {f g:α->Ts->R β} (h:Stb id m x y) (hf:∀v ts,Stb er2 m (f v ts) (g v (ts++m))):Stb er2 m (x.bind f) (y.bind g):=Stb.bind h fun v v' ts e=>by cases (show v'=v from e);exact hf v ts
end
variable {m:Ts}
def map_id' {α:Type} (l:List α):l.map id=l:=sM
def Un.le:Un->Un->Prop
 | .mk a1 a2 a3 a4 a5 a6,.mk b1 b2 b3 b4 b5 b6=>a1.length<=b1.length/\a2.length<=b2.length/\a3.length<=b3.length/\a4.length<=b4.length/\a5.length<=b5.length/\a6.length<=b6.length
def Un.le_refl:∀u:Un,Un.le u u | .mk ..=>⟨Tz _,Tz _,Tz _,Tz _,Tz _,Tz _⟩
def Un.le_trans:∀{u v w:Un},Un.le u v->Un.le v w->Un.le u w
 | .mk ..,.mk ..,.mk ..,⟨h1,h2,h3,h4,h5,h6⟩,⟨k1,k2,k3,k4,k5,k6⟩=>⟨oM,oM,oM,oM,oM,oM⟩
def Un.room:Un->Un->Prop
 | .mk a1 a2 a3 a4 a5 a6,.mk b1 b2 b3 b4 b5 b6=>a1.length+b1.length<=256/\a2.length+b2.length<=256/\a3.length+b3.length<=1024/\a4.length+b4.length<=64/\a5.length+b5.length<=256/\a6.length+b6.length<=256
end Go.PM.Lex
end

section
namespace Go.PM.Lex
def ZmN (c:Nat):Option UInt8:=if c=10 then some 110 else if c=9 then some 116 else if c=34 then some 34 else if c=92 then some 92 else none
def VP:Nat->Bs->Bs->Option Bs
 | 0,_,_=>none
 | f+1,r,out=>if r=[] then some out else match ZmN (Lib.decodeL r).1 with
  | some b=>VP f (r.drop (Lib.decodeL r).2) (out++[92,b])
  | none=>if (Lib.decodeL r).1<32 then none else VP f (r.drop (Lib.decodeL r).2) (out++Lib.encodeRune (Lib.decodeL r).1)
def Jq (s:Bs):Option Bs:=if Lib.validD s=true then (VP (s.length+1) s [34]).map (·++[34]) else none
open Go.Proofs
variable {w0:World} {nG:Nat}
def ZjG:Zm:=fun args σ K=>match args with
 | [.d (.str s)]=>s.length<=9223372036854775807/\K (.ret (.d (.bool (Lib.validD s)))) σ
 | _=>False
def Zr7 (h1:1<nG) (hT:Lib.Utf8Tabs 0 1 w0):PC w0 nG 232 ZjG:=YN (Zl Tryz.func232 kR rfl) fun args σ K h e w vs hS ha=>by
 unfold ZjG at h
 split at h
 ·rename_i s
  obtain ⟨u,rfl,hu⟩:=Zgy ha
  cases hu.dstr
  have hT':Lib.Utf8Tabs 0 1 w:=by
   have g0:=hS.glob 0 (show 0<nG by omega);have g1:=hS.glob 1 h1;obtain ⟨a,b⟩:=hT;refine ⟨fun c hc=>?_,fun i hi=>?_⟩
   ·have:=a c hc;simpa [World.cell?,g0] using this
   have:=b i hi;simpa [World.cell?,g1] using this
  exact ⟨_,h.2,_,fun _ _=>.mkbool,(Any.utf8_ValidString Tryz.laysValid ⟨s.toArray⟩ w (show s.toArray.size<=_ by simpa using h.1) hT').mono fun en w' ⟨h1,h2⟩=>⟨h1,ZEC h2⟩⟩
 exact h.elim
def Zr8 {n:Nat} (h:ZmN n=none):Zdk [10,9,34,92] n=-1:=by
 unfold ZmN at h
 split at h;· cases h
 split at h;· cases h
 split at h;· cases h
 split at h;· cases h
 rename_i h1 h2 h3 h4
 unfold Zdk
 split
 ·rename_i h5
  have hc:([10,9,34,92]:Bs).contains ((n:Int).toNat.toUInt8)=false:=by
   have b1:=Up (n:=n) (k:=10) oM oM h1;have b2:=Up (n:=n) (k:=9) oM oM h2;exact mq107
  rw [Lib.contains_iff_indexByte,decide_eq_false_iff_not] at hc;have:=Lib.indexByte_ge [10,9,34,92] ((n:Int).toNat.toUInt8);omega
 rfl
def Zr9 {n:Nat} {b:UInt8} (h:ZmN n=some b):(Zdk [10,9,34,92] n=0/\b=110)\/(Zdk [10,9,34,92] n=1/\b=116)\/(Zdk [10,9,34,92] n=2/\b=34)\/(Zdk [10,9,34,92] n=3/\b=92):=by
 unfold ZmN at h
 exact mq61
def JJ:Zm:=fun args σ K=>match args,σ with
 | [.d (.str s)],⟨[],[],0⟩=>s.length<4294967281/\(Jq s=none->K (.ret (.tuple [.d (.str []),.d (.bool false)])) ⟨[],[],0⟩)/\(∀q,Jq s=some q->K (.ret (.tuple [.d (.str q),.d (.bool true)])) ⟨[],[],0⟩)
 | _,_=>False
def Zh8:ZL JJ:=fun args σ K K' hK h=>by
 unfold JJ at h |-
 split at h
 ·exact ⟨h.1,fun g=>hK _ _ (h.2.1 g),fun q g=>hK _ _ (h.2.2 q g)⟩
 exact h.elim
def ZDD (B:Nat):List PV->St->Nat:=fun _ σ=>match σ.bx with | [_,.iter _ p]=>B - p | _=>0
def Zsb:OKw w0 nG [(232,ZjG),(233,VJ),(234,Wz),(235,VK),(47,Zcu)] 195 JJ:=by
 refine pwo Tryz.func195 fun args σ K h=>?_
 unfold JJ at h
 split at h
 ·rename_i s
  obtain ⟨hs,ct,cz⟩:=h;refine pwv [(6,⟨[],[4,13],fun vs σ=>vs=[]/\∃(out:Bs) (i f:Nat),σ=⟨[.cells 117 [.ptr 0 0,.sl 0 5 (Zg out)],.iter s i],[0],1⟩/\(i<=s.length/\s.length<i+f/\out.length<=4 * i+1)/\VP f (s.drop i) out=VP (s.length+1) s [34],ZDD s.length⟩)] 0 false ?_;refine ⟨oM,wN ?_⟩;refine ZEz (fun h1=>wN ?_) (fun h1=>wN ?_)
  ·have hv:Lib.validD s=false:=by simpa using h1
   exact ct (by unfold Jq;rw [Tf (by rw [hv];simp)])
  have hv:Lib.validD s=true:=by simpa using h1
  have hq:Jq s=(VP (s.length+1) s [34]).map (·++[34]):=by unfold Jq;rw [Th hv]
  refine ⟨⟨.inl rfl,rfl,rfl,sM,sM⟩,wN ?_⟩;refine ⟨⟨rfl,[34],0,s.length+1,rfl,⟨oM,oM,sM⟩,by rw [Sn]⟩,?_⟩;intro vs σ1 hI
  obtain ⟨rfl,out,i,f,rfl,⟨yk,ac,w9⟩,fk⟩:=hI;obtain ⟨f,rfl⟩:∃g,f=g+1:=⟨f - 1,oM⟩
  have bu:=Zbh out;have cp:=Xz out;have bl:=Zdh s i;have io:=Zbg (s.drop i);have je:=Lib.decodeL_le (s.drop i);rw [Tu] at je;(conv=>whnf);refine ZEw (fun h2=>wN ?_) (fun h2=>wN ?_)
  ·have ai:s.drop i≠[]:=fun g=>by have:=congrArg List.length g;rw [Tu] at this;simp at this;omega
   have g3:i+(decodeL s i).2<=s.length:=by rw [bl];have:=je ai;omega
   have qz:1<=(decodeL s i).2:=by rw [bl];omega
   refine ⟨⟨.inr rfl,oM,by rw [bl];omega⟩,wN ?_⟩;generalize hk:Zdk _ _=k;have my:Zdk [10,9,34,92] ((Lib.decodeL (s.drop i)).1:Int)=k:=by rw [<- bl];exact hk
   cases hE:ZmN (Lib.decodeL (s.drop i)).1 with
   | some b =>
    have g1:VP f (s.drop (i+(decodeL s i).2)) (out++[92,b])=VP (s.length+1) s [34]:=by rw [<- fk,bl];simp [VP,ai,hE,TC]
    rcases Zr9 hE with ⟨e1,rfl⟩ | ⟨e1,rfl⟩ | ⟨e1,rfl⟩ | ⟨e1,rfl⟩
    all_goals (rw [e1] at my;subst my)
    all_goals (conv=>whnf)
    all_goals (refine ⟨⟨.inr rfl,rfl,rfl,bu,oM⟩,?_⟩)
    all_goals (conv=>whnf)
    all_goals (refine ⟨oM,by first | omega | (simp;done) | (simp;omega),?_⟩)
    all_goals (conv=>whnf)
    all_goals (refine ⟨⟨.inr rfl,rfl,rfl,fun r hr=>by (rcases TJ.1 hr with hr | hr;exact bu r hr;simp at hr;subst hr;rfl),by rw [Ta];simp;omega⟩,?_⟩)
    all_goals (conv=>whnf)
    all_goals (refine ⟨⟨rfl,_,_,f,?_,⟨g3,oM,?_⟩,g1⟩,?_⟩)
    all_goals (first | (rw [Wj,Tn];rfl) | (rw [Ta];simp;omega) | exact (show s.length - (i+(decodeL s i).2)<s.length - i by omega))
   | none =>
   rw [Zr8 hE] at my;subst my;(conv=>whnf);refine ZEw (fun h5=>wN ?_) (fun h5=>wN ?_)
   ·have fe:(Lib.decodeL (s.drop i)).1<32:=by rw [bl] at h5;omega
    refine ct ?_;rw [hq,<- fk];simp [VP,ai,hE,fe]
   have fe:¬(Lib.decodeL (s.drop i)).1<32:=by rw [bl] at h5;omega
   have g1:VP f (s.drop (i+(decodeL s i).2)) (out++Lib.encodeRune ((decodeL s i).1:Int))=VP (s.length+1) s [34]:=by rw [<- fk,bl];simp [VP,ai,hE,fe,TC]
   have hen:=Zjt ((decodeL s i).1:Int);refine ⟨⟨.inr rfl,rfl,rfl,bu,oM,oM,by rw [bl];omega⟩,wN ?_⟩;refine ⟨⟨rfl,_,_,f,?_,⟨g3,oM,?_⟩,g1⟩,?_⟩
   ·rw [Wj];rfl
   ·rw [Ta];omega
   exact (show s.length - (i+(decodeL s i).2)<s.length - i by omega)
  have d8:s.drop i=[]:=Tr oM;have g1:VP (s.length+1) s [34]=some out:=by rw [<- fk];simp [VP,d8]
  refine ⟨⟨.inr rfl,rfl,rfl,bu,oM⟩,wN ?_⟩;refine ⟨out++[34],⟨by rw [VL];rfl,rfl,rfl,.inr rfl,by rw [Ta];simp;omega⟩,wN ?_⟩;exact cz _ (by rw [hq,g1];rfl)
 exact h.elim
def ZvI:∀n:Fin 64,Zh .or .u8 128 (n.val:Int)=128+n.val:=by rw [Yb];decide +kernel
def ZvJ:∀n:Fin 32,Zh .or .u8 192 (n.val:Int)=192+n.val:=by rw [Yb];decide +kernel
def ZvK:∀n:Fin 16,Zh .or .u8 224 (n.val:Int)=224+n.val:=by rw [Yb];decide +kernel
def ZvL:∀n:Fin 8,Zh .or .u8 240 (n.val:Int)=240+n.val:=by rw [Yb];decide +kernel
def ZvM:∀n:Fin 256,Zh .and .u8 (n.val:Int) 63=n.val % 64:=by rw [Yb];decide +kernel
def Zuo {x:Int} (h0:0<=x) (h1:x<64):Zh .or .u8 128 x=128+x:=by obtain ⟨n,rfl⟩:∃n:Nat,x=n:=⟨x.toNat,oM⟩;exact ZvI ⟨n,oM⟩
def ZDE {x:Int} (h0:0<=x) (h1:x<32):Zh .or .u8 192 x=192+x:=by obtain ⟨n,rfl⟩:∃n:Nat,x=n:=⟨x.toNat,oM⟩;exact ZvJ ⟨n,oM⟩
def ZC6 {x:Int} (h0:0<=x) (h1:x<16):Zh .or .u8 224 x=224+x:=by obtain ⟨n,rfl⟩:∃n:Nat,x=n:=⟨x.toNat,oM⟩;exact ZvK ⟨n,oM⟩
def ZDF {x:Int} (h0:0<=x) (h1:x<8):Zh .or .u8 240 x=240+x:=by obtain ⟨n,rfl⟩:∃n:Nat,x=n:=⟨x.toNat,oM⟩;exact ZvL ⟨n,oM⟩
def a63 {x:Int} (h0:0<=x) (h1:x<256):Zh .and .u8 x 63=x % 64:=by obtain ⟨n,rfl⟩:∃n:Nat,x=n:=⟨x.toNat,oM⟩;rw [ZvM ⟨n,oM⟩]
def wu8 (n:Int):IntKind.u8.wrap n=n % 256:=by simp [IntKind.wrap,IntKind.bits,IntKind.signed]
def Wl (c:Int):Zg (Lib.encodeRune c)=(Lib.encodeRuneZ c).map fun x=>[D.int .u8 x]:=by
 have h:=Lib.encodeRuneZ_byte c;unfold Lib.encodeRune Zg
 rw [SH];refine Sx fun x hx=>?_
 have:=h x hx;simp [UInt8.toNat_ofNat'];omega
def Ut:Zm:=fun args σ K=>match args,σ with
 | [.sl 0 e rows,.d (.int .i32 c)],⟨[],[0],1⟩=>(e=5/\(∀r∈rows,r.length=1)/\rows.length<70368744177664/\0<=c/\c<=1114111)/\K (.ret (.sl 0 5 (rows++Zg (Lib.encodeRune c)))) ⟨[],[0],1⟩
 | _,_=>False
def VQ:Zm:=fun args σ K=>match args,σ with
 | [.sl 0 e rows,.d (.int .i32 c)],⟨[],[0],1⟩=>(e=5/\(∀r∈rows,r.length=1)/\rows.length<70368744177664/\128<=c/\c<=1114111)/\K (.ret (.sl 0 5 (rows++Zg (Lib.encodeRune c)))) ⟨[],[0],1⟩
 | _,_=>False
def Zex:PC w0 nG 284 VQ:=by
 refine pwe Tryz.func284 fun args σ K h=>?_
 unfold VQ at h
 split at h
 ·rename_i e rows c
  obtain ⟨⟨rfl,cn,qe,iv,dh⟩,h⟩:=h;refine pwv [] 0 true ?_;have e6:c.fdiv (2 ^ min (Int.toNat 6) IntKind.i32.bits)=c / 64:=by rw [show (2:Int) ^ min (Int.toNat 6) IntKind.i32.bits=64 by decide];exact Int.fdiv_eq_ediv_of_nonneg _ oM
  have e12:c.fdiv (2 ^ min (Int.toNat 12) IntKind.i32.bits)=c / 4096:=by rw [show (2:Int) ^ min (Int.toNat 12) IntKind.i32.bits=4096 by decide];exact Int.fdiv_eq_ediv_of_nonneg _ oM
  have e18:c.fdiv (2 ^ min (Int.toNat 18) IntKind.i32.bits)=c / 262144:=by rw [show (2:Int) ^ min (Int.toNat 18) IntKind.i32.bits=262144 by decide];exact Int.fdiv_eq_ediv_of_nonneg _ oM
  refine Or.inl ⟨InR.u32 oM oM,wN ?_⟩;refine ZEw (fun h1=>?_) (fun h1=>wN ?_)
  ·skip
   have g:K (.ret (.sl 0 5 (rows++[[D.int .u8 (Zh .or .u8 192 (IntKind.u8.wrap (c.fdiv (2 ^ min (Int.toNat 6) IntKind.i32.bits))))],[D.int .u8 (Zh .or .u8 128 (Zh .and .u8 (IntKind.u8.wrap (c)) 63))]]))) ⟨[],[0],1⟩:=by
    have e:Zg (Lib.encodeRune c)=[[D.int .u8 (Zh .or .u8 192 (IntKind.u8.wrap (c.fdiv (2 ^ min (Int.toNat 6) IntKind.i32.bits))))],[D.int .u8 (Zh .or .u8 128 (Zh .and .u8 (IntKind.u8.wrap (c)) 63))]]:=by
     rw [Wl,Lib.encodeRuneZ_two iv oM];simp only [e6,e12,e18,wu8,TD,TM];rw [ZDE oM oM,a63 oM oM,Zuo oM oM,show c / 64 % 256=c / 64 by omega,show c % 256 % 64=c % 64 by omega]
     all_goals (try omega)
     (try (congr 1 <;> omega))
    rw [e] at h;exact h
   conv=>whnf
   refine ⟨dM,wN ?_⟩;refine Or.inr (wN ?_);refine Or.inr (wN ?_);refine ⟨fun r hr=>by (simp at hr;rcases hr with rfl | rfl <;> rfl),(show (rows.length+2) * 1<=2 ^ 47 by omega),(show rows.length+2<=2 ^ 47 by omega),?_⟩;(conv=>whnf);exact g
  refine ZEw (fun h2=>wN ?_) (fun h2=>wN ?_)
  ·refine ZEw (fun bz=>wN ?_) (fun bz=>absurd h2 bz);have g:K (.ret (.sl 0 5 (rows++[[D.int .u8 (Zh .or .u8 224 (IntKind.u8.wrap (c.fdiv (2 ^ min (Int.toNat 12) IntKind.i32.bits))))],[D.int .u8 (Zh .or .u8 128 (Zh .and .u8 (IntKind.u8.wrap (c.fdiv (2 ^ min (Int.toNat 6) IntKind.i32.bits))) 63))],[D.int .u8 (Zh .or .u8 128 (Zh .and .u8 (IntKind.u8.wrap (c)) 63))]]))) ⟨[],[0],1⟩:=by
    exact mq34
   exact mq197
  refine ZEw (fun h3=>wN ?_) (fun h3=>wN ?_)
  ·refine ZEw (fun h4=>?_) (fun h4=>wN ?_)
   ·skip
    have g:K (.ret (.sl 0 5 (rows++[[D.int .u8 (Zh .or .u8 224 (IntKind.u8.wrap (c.fdiv (2 ^ min (Int.toNat 12) IntKind.i32.bits))))],[D.int .u8 (Zh .or .u8 128 (Zh .and .u8 (IntKind.u8.wrap (c.fdiv (2 ^ min (Int.toNat 6) IntKind.i32.bits))) 63))],[D.int .u8 (Zh .or .u8 128 (Zh .and .u8 (IntKind.u8.wrap (c)) 63))]]))) ⟨[],[0],1⟩:=by
     exact mq34
    conv=>whnf
    exact mq197
   refine ZEw (fun h5=>wN ?_) (fun h5=>?_)
   ·refine ZEw (fun h6=>?_) (fun h6=>?_)
    ·skip
     have g:K (.ret (.sl 0 5 (rows++[[D.int .u8 (Zh .or .u8 240 (IntKind.u8.wrap (c.fdiv (2 ^ min (Int.toNat 18) IntKind.i32.bits))))],[D.int .u8 (Zh .or .u8 128 (Zh .and .u8 (IntKind.u8.wrap (c.fdiv (2 ^ min (Int.toNat 12) IntKind.i32.bits))) 63))],[D.int .u8 (Zh .or .u8 128 (Zh .and .u8 (IntKind.u8.wrap (c.fdiv (2 ^ min (Int.toNat 6) IntKind.i32.bits))) 63))],[D.int .u8 (Zh .or .u8 128 (Zh .and .u8 (IntKind.u8.wrap (c)) 63))]]))) ⟨[],[0],1⟩:=by
      have e:Zg (Lib.encodeRune c)=[[D.int .u8 (Zh .or .u8 240 (IntKind.u8.wrap (c.fdiv (2 ^ min (Int.toNat 18) IntKind.i32.bits))))],[D.int .u8 (Zh .or .u8 128 (Zh .and .u8 (IntKind.u8.wrap (c.fdiv (2 ^ min (Int.toNat 12) IntKind.i32.bits))) 63))],[D.int .u8 (Zh .or .u8 128 (Zh .and .u8 (IntKind.u8.wrap (c.fdiv (2 ^ min (Int.toNat 6) IntKind.i32.bits))) 63))],[D.int .u8 (Zh .or .u8 128 (Zh .and .u8 (IntKind.u8.wrap (c)) 63))]]:=by
       rw [Wl,Lib.encodeRuneZ_four oM oM];simp only [e6,e12,e18,wu8,TD,TM];rw [ZDF oM oM,a63 oM oM,a63 oM oM,a63 oM oM,Zuo oM oM,Zuo oM oM,Zuo oM oM,show c / 262144 % 256=c / 262144 by omega,show c / 4096 % 256 % 64=c / 4096 % 64 by omega,show c / 64 % 256 % 64=c / 64 % 64 by omega,show c % 256 % 64=c % 64 by omega]
       all_goals (try omega)
       (try (congr 1 <;> omega))
      rw [e] at h;exact h
     conv=>whnf
     refine ⟨dM,wN ?_⟩;refine Or.inr (wN ?_);refine ⟨dM,wN ?_⟩;refine Or.inr (wN ?_);refine ⟨dM,wN ?_⟩;refine Or.inr (wN ?_);refine Or.inr (wN ?_);refine ⟨fun r hr=>by (simp at hr;rcases hr with rfl | rfl | rfl | rfl <;> rfl),(show (rows.length+4) * 1<=2 ^ 47 by omega),(show rows.length+4<=2 ^ 47 by omega),?_⟩;(conv=>whnf);exact g
    omega
   omega
  refine ZEw (fun h5=>?_) (fun h5=>?_)
  ·omega
  skip
  have g:K (.ret (.sl 0 5 (rows++[[D.int .u8 (239)],[D.int .u8 (191)],[D.int .u8 (189)]]))) ⟨[],[0],1⟩:=by
   have e:Zg (Lib.encodeRune c)=[[D.int .u8 (239)],[D.int .u8 (191)],[D.int .u8 (189)]]:=by
    rw [Wl,Lib.encodeRuneZ_bad oM];rfl
   rw [e] at h;exact h
  conv=>whnf
  exact mq55
 exact h.elim
def ZB4:Tbl:=[(284,VQ)]
def ZgA:PC w0 nG 268 Ut:=by
 refine pwt (tbl:=ZB4) ⟨Zex,trivial⟩ Tryz.func268 fun args σ K h=>?_
 unfold Ut at h
 split at h
 ·rename_i e rows c
  obtain ⟨⟨rfl,cn,qe,iv,dh⟩,h⟩:=h;refine pwv [] 0 true ?_;refine Or.inl ⟨InR.u32 oM oM,wN ?_⟩;refine ZEw (fun h1=>wN ?_) (fun h1=>wN ?_)
  ·have e:Zg (Lib.encodeRune c)=[[D.int .u8 c]]:=by rw [Wl,Lib.encodeRuneZ_one iv h1];rfl
   rw [e] at h;refine WY ?_;exact mq171
  refine ⟨⟨rfl,cn,oM,oM,oM⟩,wN ?_⟩;exact h
 exact h.elim
def Zsc:TO w0 nG [(201,VN)]:=⟨ZbX,trivial⟩
def ZbZ:PC w0 nG 233 VJ:=by
 refine pwt Zsc Tryz.func233 fun args σ K h=>?_
 unfold VJ at h
 split at h
 ·rename_i c t p e rows
  obtain ⟨⟨hp,rfl,rfl,cn,qe⟩,h⟩:=h;refine pwu [] 1 true ?_;rcases hp with rfl | rfl
  ·conv=>whnf
   refine ⟨⟨.inl rfl,rfl⟩,wN ?_⟩;exact mq171
  conv=>whnf
  refine ⟨⟨.inr rfl,rfl⟩,wN ?_⟩;exact mq171
 exact h.elim
def ZB6 (c:Int):(Lib.encodeRune c).length<=4:=by unfold Lib.encodeRune;rw [Te];exact (Lib.encodeRuneZ_length c).2
def Zsd:TO w0 nG [(201,VN),(268,Ut)]:=⟨ZbX,ZgA,trivial⟩
def Zb0:PC w0 nG 235 VK:=by
 refine pwt Zsd Tryz.func235 fun args σ K h=>?_
 unfold VK at h
 split at h
 ·rename_i c t p e rows
  obtain ⟨⟨hp,rfl,rfl,cn,qe,iv,dh⟩,h⟩:=h;refine pwu [] 1 true ?_;rcases hp with rfl | rfl
  ·conv=>whnf
   refine ⟨⟨.inl rfl,rfl⟩,wN ?_⟩;refine ⟨⟨rfl,cn,qe,iv,dh⟩,wN ?_⟩;refine Or.inl ⟨InR.i64 (by rw [Ta,Y4];have:=Lib.encodeRuneZ_length c;omega) (by rw [Ta,Y4];have:=ZB6 c;omega),wN ?_⟩;exact h
  conv=>whnf
  refine ⟨⟨.inr rfl,rfl⟩,wN ?_⟩;refine ⟨⟨rfl,cn,qe,iv,dh⟩,wN ?_⟩;refine Or.inl ⟨InR.i64 (by rw [Ta,Y4];omega) (by rw [Ta,Y4];have:=ZB6 c;omega),wN ?_⟩;exact h
 exact h.elim
def JK:Zm:=fun args σ K=>match args with
 | [.d (.int .i32 c)]=>K (.ret (.d (.bool (Lib.validRune c)))) σ
 | _=>False
def Zzs (c:Int) (h:128<=c) (h2:c<=1114111):2<=(Utf8.encode c).data.toList.length/\(Utf8.encode c).data.toList.length<=4/\∀b∈(Utf8.encode c).data.toList,128<=b.toNat:=by
 unfold Utf8.encode
 simp only;generalize hn:(if Utf8.valid c then c.toNat else Utf8.runeError)=n;have jf:128<=n/\n<=1114111:=by
  rw [<- hn];split
  ·omega
  simp [Utf8.runeError]
 rw [Tf oM];split
 ·simp [UInt8.toNat_ofNat'];omega
 split
 ·simp [UInt8.toNat_ofNat'];omega
 simp [UInt8.toNat_ofNat'];omega
def Zo3 {l:Bs} {c:UInt8} (h:∀b∈l,b.toNat<128) (hc:128<=c.toNat):Lib.indexByte l c=-1:=by
 induction l with
 | nil=>rfl
 | cons b l ih =>
 have h1:=ih (fun x hx=>h x (TA _ hx));have h2:(b == c)=false:=by
  simp only [beq_eq_false_iff_ne];intro e;subst e;have:=h b sM;omega
 simp [Lib.indexByte,h1,h2]
def Zse {s:Bs} (h:∀b∈s,b.toNat<128) (i:Nat):(s.getD i 0).toNat<128:=by
 rw [TS]
 by_cases hi:i<s.length
 ·rw [Tb hi];exact h _ (TE hi)
 rw [T7 oM];decide
def Zo4 {s:Bs} (h:∀b∈s,128<=b.toNat) {i:Nat} (hi:i<s.length):128<=(s.getD i 0).toNat:=by
 rw [TS,Tb hi];exact h _ (TE hi)
def ZB8 {n:Int} {k:Nat} (h:n=k) (hk:k<256):(n.toNat.toUInt8).toNat=k:=by
 subst h;simp [UInt8.toNat_ofNat'];omega
def Zh9:OKw w0 nG [(264,Wx),(265,JK)] 234 Wz:=by
 refine pwo Tryz.func234 fun args σ K h=>?_
 unfold Wz at h
 split at h
 ·rename_i s c
  obtain ⟨⟨hs,iv,dh⟩,h⟩:=h;have ei:s.length=4:=by rcases hs with rfl | rfl <;> rfl
  have hsa:∀b∈s,b.toNat<128:=by rcases hs with rfl | rfl <;> decide
  have w8:∀p,p<4->(decodeL s p).1<128/\(decodeL s p).2=1:=by
   intro p hp
   rcases hs with rfl | rfl
   all_goals (match p,hp with | 0,_=>exact ⟨dM,dM⟩ | 1,_=>exact ⟨dM,dM⟩ | 2,_=>exact ⟨dM,dM⟩ | 3,_=>exact ⟨dM,dM⟩)
  refine pwu [(38,⟨[],[0,175],fun vs σ=>vs=[]/\∃p:Nat,p<=4/\σ=⟨[.iter s p],[],0⟩,fun _ σ=>match σ.bx with | [.iter _ p]=>4 - p | _=>0⟩),
    (5,⟨[9],[0,1,7,8],fun vs σ=>σ=⟨[],[],0⟩/\vs=[.d (.int .i64 (((Utf8.encode c).data.toList.length:Int) - 1))],fun _ _=>0⟩)] 0 false ?_
  have pa:128<=c->K (.ret (.d (.int .i64 (-1)))) ⟨[],[],0⟩:=fun g=>by
   have:Zdk s c=-1:=by unfold Zdk;rw [Tf oM]
   rw [this] at h;exact h
  conv=>whnf
  refine ZEw (fun h1=>wN ?_) (fun h1=>?_)
  ·refine ZEw (fun h2=>wN ?_) (fun h2=>wN ?_)
   ·have e:Zdk s c=Lib.indexByte s c.toNat.toUInt8:=by unfold Zdk;rw [Th h2]
    rw [e] at h;refine WY ?_;exact h
   refine ZEw (fun h3=>wN ?_) (fun h3=>wN ?_)
   ·refine ⟨⟨rfl,0,oM,rfl⟩,?_⟩;intro vs σ1 hI
    obtain ⟨rfl,p,hp,rfl⟩:=hI;(conv=>whnf);refine ZEw (fun h4=>wN ?_) (fun h4=>wN ?_)
    ·have hd:=w8 p oM;refine ZEw (fun h5=>?_) (fun h5=>wN ?_)
     ·omega
     refine ⟨⟨rfl,p+1,oM,by rw [hd.2];rfl⟩,?_⟩;exact (show 4 - (p+(decodeL s p).2)<4 - p by omega)
    exact pa oM
   refine ZEz (fun h4=>wN ?_) (fun h4=>wN ?_)
   ·exact pa oM
   obtain ⟨e1,e2,e3⟩:=Zzs c oM dh;have hl:=Zo4 e3 (i:=(Utf8.encode c).data.toList.length - 1) oM;refine Zj ?_;refine ⟨⟨rfl,rfl⟩,?_⟩;intro vs σ1 hI
   obtain ⟨rfl,rfl⟩:=hI;(conv=>whnf);refine ZEw (fun h5=>wN ?_) (fun h5=>?_)
   ·refine ⟨oM,oM,wN ?_⟩;refine ⟨oM,oM,wN ?_⟩;have rn:=Zse hsa (((Utf8.encode c).data.toList.length:Int) - 1).toNat;have rp:128<=((Utf8.encode c).data.toList.getD (((Utf8.encode c).data.toList.length:Int) - 1).toNat 0).toNat:=Zo4 e3 oM;refine ZEy (fun h6=>wN ?_) (fun h6=>?_)
    ·refine Zj ?_;refine ⟨oM,oM,wN ?_⟩;refine ⟨oM,oM,wN ?_⟩;generalize hx:Lib.indexByte _ _=x;have:x=-1:=by
      rw [<- hx];refine Zo3 (fun b hb=>hsa b (List.mem_of_mem_take (List.mem_of_mem_drop hb))) ?_;rw [ZB8 rfl (UInt8.toNat_lt _)];exact rp
     subst this;(conv=>whnf);exact pa oM
    omega
   omega
  omega
 exact h.elim
def Zzt:Tbl:=[(307,ZB1),(308,Zdq)]
def Zia (hg:GlobOK w0 nG):PC w0 nG 294 JH:=by
 refine pwt (tbl:=Zzt) ⟨ZB3,ZmH hg,trivial⟩ Tryz.func294 fun args σ K h=>?_
 unfold JH at h
 split at h
 ·rename_i l base bits
  obtain ⟨gh,⟨hl,rfl,rfl⟩,ct,cz⟩:=h;refine pwv [] 0 false ?_;refine ⟨gh,⟨hl,rfl,rfl⟩,fun h0=>?_,fun h0 h1=>?_,fun h0 h1=>?_⟩
  ·conv=>whnf
   refine ⟨⟨.inr rfl,hl.2⟩,wN ?_⟩;exact ct (.inl h0) _
  ·conv=>whnf
   refine ⟨⟨.inl rfl,hl.2⟩,wN ?_⟩;exact ct (.inr h1) _
  conv=>whnf
  exact cz (by simp only [not_or];exact ⟨h0,h1⟩)
 exact h.elim
def Zo5:PC w0 nG 187 ZbV:=Zvd ⟨ZmE,W2,trivial⟩
def ZCa:PC w0 nG 274 ZkQ:=Zvf ⟨W2,Ur,trivial⟩
def Zzu:PC w0 nG 189 ZhU:=Zvh ⟨Zo5,Zag,Zgs,trivial⟩
def Zzv (hg:GlobOK w0 nG):PC w0 nG 242 Zbe:=ZrQ ⟨ZjC,W2,Ur,ZrZ (by have:=hg.big;omega) hg.maxLen,trivial⟩
def ZvN (hg:GlobOK w0 nG):PC w0 nG 276 Zcv:=Zow ⟨W2,Zgs,Zia hg,Zo5,Zag,trivial⟩
def Zib:PC w0 nG 265 JK:=YN (Zl Tryz.func265 kR rfl) fun args σ K h e w vs hS ha=>by
 unfold JK at h
 split at h
 ·obtain ⟨u,rfl,hu⟩:=Zgy ha
  cases hu.dint
  exact ⟨_,h,_,fun _ _=>.mkbool,(Tryz.utf8_ValidRune _ w).mono fun en w' ⟨h1,h2⟩=>⟨h1,by rw [h2];exact Grows.refl _⟩⟩
 exact h.elim
def Zfp:PC w0 nG 234 Wz:=Zh9 ⟨Ur,Zib,trivial⟩
def ZCb:PC w0 nG 275 ZkT:=Zvj ⟨Zfp,ZbZ,Zo5,Zb0,Zh2,trivial⟩
def ZCc (hg:GlobOK w0 nG):PC w0 nG 243 Zfl:=Zvl ⟨Zo5,ZCa,Zag,Zgs,ZCb,ZvN hg,Zzu,trivial⟩
def ZCd (hg:GlobOK w0 nG):TO w0 nG Zgu:=⟨Zzv hg,ZCc hg,trivial⟩
def ZvO (hg:GlobOK w0 nG):PC w0 nG 151 Zam:=ZoF (ZCd hg) ⟨Zzl,trivial⟩
def Zsf (s:Bs):Bool:=Zd (pk s).1 && decide (Y2 s=s.length)
def ZgB:Zm:=fun args σ K=>match args,σ with
 | [.d (.str s)],⟨[],[],0⟩=>s.length<4294967281/\K (.ret (.d (.bool (Zsf s)))) ⟨[],[],0⟩
 | _,_=>False
def ZCf:OKw w0 nG [(187,ZbV),(188,US),(189,ZhU)] 128 ZgB:=by
 refine pwo Tryz.func128 fun args σ K h=>?_
 unfold ZgB at h
 split at h
 ·rename_i s
  obtain ⟨hs,h⟩:=h;refine pwv [] 0 false ?_;have qy:=X3 (s.drop (Int.toNat 0));have hd:s.drop (Int.toNat 0)=s:=Sn;refine ⟨⟨oM,oM⟩,wN ?_⟩;refine ⟨⟨qy.1,oM⟩,wN ?_⟩;refine ZEz (fun h1=>wN ?_) (fun h1=>wN ?_)
  ·have j9:Zd (pk s).1=true:=by rw [<- hd];exact h1
   refine ⟨⟨oM,oM,hs⟩,wN ?_⟩;refine ZbW h ?_;rw [Zsf,j9,TX,decide_eq_decide,hd];omega
  have j9:Zd (pk s).1=false:=by rw [<- hd];exact h1
  rw [Zsf,j9] at h;exact h
 exact h.elim
def Xi (s:Bs):Bool:=Zsf s && (!decide (s=[95]) && !Zbk s)
def ZY (op:Nat):Nat:=if op=16 then 0 else if op=17 then 0 else if op=15 then 1 else if op=18 then 2 else if op=19 then 2 else if op=10 then 3 else if op=11 then 3 else if op=12 then 4 else if op=13 then 4 else if op=14 then 4
 else if op=8 then 5 else if op=9 then 5 else if op=20 then 6 else if op=21 then 6 else if op=22 then 6 else if op=23 then 6 else if op=24 then 6 else if op=25 then 6 else if op=6\/op=7 then 6 else if op=1\/op=2\/op=3\/op=4\/op=5 then 6 else 0
def VR (op:Nat):Bs:=if op=16 then [98,111,114] else if op=17 then [98,120,111,114] else if op=15 then [98,97,110,100] else if op=18 then [115,104,108] else if op=19 then [115,104,114] else if op=10 then [43] else if op=11 then [45] else if op=12 then [42] else if op=13 then [47] else if op=14 then [37]
 else if op=8 then [45] else if op=9 then [126] else if op=20 then [99,97,116] else if op=21 then [115,116,114,108,101,110] else if op=22 then [115,117,98,115,116,114] else if op=23 then [99,111,100,101] else if op=24 then [115,116,114] else if op=25 then [110,117,109] else []
def V8 (op:Nat):Int:=if op=16 then 2 else if op=17 then 2 else if op=15 then 2 else if op=18 then 2 else if op=19 then 2 else if op=10 then 2 else if op=11 then 2 else if op=12 then 2 else if op=13 then 2 else if op=14 then 2
 else if op=8 then 1 else if op=9 then 1 else if op=20 then 2 else if op=21 then 1 else if op=22 then 3 else if op=23 then 1 else if op=24 then 1 else if op=25 then 1 else if op=6\/op=7 then -1 else if op=1\/op=2\/op=3\/op=4\/op=5 then 0 else -2
def V9 (op:Nat) (text:Bs):Bool:=if op=1\/op=7 then Xi text else if op=4 then (Jq text).isSome else decide (text=[])
mutual
def Yj:Ex->Bool
 | .mk op text n args _=>decide (-2<V8 op) && ((decide (V8 op<0) || decide ((args.length:Int)=V8 op)) && ((decide (n=0) || decide (op=3)) && (V9 op text && Zo6 args)))
def Zo6:List Ex->Bool
 | []=>true
 | e::l=>Yj e && Zo6 l
end
def Zx (l:List Ex):Zo6 l=l.all Yj:=by induction l with | nil=>rfl | cons x l ih=>simp [Zo6,ih]
def YV (op:Nat) (rel:Bs) (args body:Nat):Bool :=
 if op=1\/op=2 then Xi rel && !decide (0<body)
 else if 3<=op/\op<=8 then decide (rel=[]) && (decide (args=2) && !decide (0<body))
 else if op=9 then decide (rel=[]) && (decide (args=1) && decide (0<body))
 else if 9<op/\op<=12 then decide (rel=[]) && (decide (args=2) && decide (0<body)) else false
mutual
def YJ:Li->Bool
 | .mk op rel args body _=>YV op rel args.length body.length && (Zo6 args && Zcg body)
def Zcg:List Li->Bool
 | []=>true
 | e::l=>YJ e && Zcg l
end
def Xj (l:List Li):Zcg l=l.all YJ:=by induction l with | nil=>rfl | cons x l ih=>simp [Zcg,ih]
def XT (r:Ru):Bool:=Xi r.head && (r.args.all Yj && r.body.all YJ)
def YP (f:Fi):Bool:=Xi f.name && Xi f.typ
def Xo (c:Ca):Bool:=Xi c.name && c.fields.all YP
def Zb1 (t:Ty):Bool:=if t.kind=1 then Xi t.base && (decide (t.fields.length=0) && decide (t.cases.length=0)) else if t.kind=2 then decide (t.base=[]) && decide (t.cases.length=0)
 else if t.kind=3 then decide (t.base=[]) && (decide (t.fields.length=0) && !decide (t.cases.length=0)) else false
def Yq (t:Ty):Bool:=Zb1 t && (Xi t.name && (t.fields.all YP && t.cases.all Xo))
def Wd (d:Re):Bool:=Xi d.name && d.fields.all YP
def WI (i:Ini):Bool:=Xi i.name && (Xi i.comp && i.types.all Xi)
def W9 (o:Ov):Bool:=Xi o.rel
mutual
def Zey:Un->Bool
 | .mk tys rels rules comps inits overs=>tys.all Yq && (rels.all Wd && (rules.all XT && (Zk5 comps && (inits.all WI && overs.all W9))))
def Yl:Co->Bool
 | .mk nm ps base tys u _=>Xi nm && (ps.all Xi && (tys.all Xi && (((decide (base=[]) && decide (tys.length=0)) || Xi base) && Zey u)))
def Zk5:List Co->Bool
 | []=>true
 | c::l=>Yl c && Zk5 l
end
def WJ (l:List Co):Zk5 l=l.all Yl:=by induction l with | nil=>rfl | cons x l ih=>simp [Zk5,ih]
def ZiV (d:Nat):UInt8:=if d<10 then UInt8.ofNat (48+d) else UInt8.ofNat (87+d)
def JL (base:Nat):Nat->Nat->Bs
 | 0,_=>[]
 | f+1,n=>if n<base then [ZiV n] else JL base f (n / base)++[ZiV (n % base)]
def Vp (base n:Nat):Bs:=JL base (n+1) n
def Zfq (n:Int):Bs:=if n<0 then [48,120]++Vp 16 (n+18446744073709551616).toNat else Vp 10 n.toNat
def ZvP (s:Bs):Bs:=(Jq s).getD []
def Zi (sep:Bs):List Bs->Bs
 | []=>[]
 | [x]=>x
 | x::l=>x++(sep++Zi sep l)
def cmm:Bs:=[44,32]
def opE:Ex->Nat | .mk op _ _ _ _=>op
def Zsg (want:Nat) (p:Nat×Bs):Bs:=if p.1<want then [40]++(p.2++[41]) else p.2
def exA (w1 w2:Nat) (sep:Bs):List (Nat×Bs)->Bs
 | []=>[]
 | [a]=>Zsg w1 a
 | a::b::_=>Zsg w1 a++(sep++Zsg w2 b)
def exN (op:Nat) (text:Bs) (n:Int) (ps:List (Nat×Bs)):Bs :=
 if ZY op<5 then exA (ZY op) (ZY op+1) ([32]++(VR op++[32])) ps
 else if ZY op=5 then VR op++exA 5 5 [] ps
 else if VR op≠[] then VR op++([40]++(Zi cmm (ps.map Prod.snd)++[41]))
 else if op=6 then [91]++(Zi cmm (ps.map Prod.snd)++[93])
 else if op=7 then [36]++(text++(if ps.length=0 then [] else [40]++(Zi cmm (ps.map Prod.snd)++[41])))
 else if op=3 then Zfq n
 else if op=4 then ZvP text
 else if op=5 then [110,105,108]
 else if op=2 then [95]
 else text
mutual
def exT:Ex->Bs
 | .mk op text n args _=>exN op text n (Zo7 args)
def Zo7:List Ex->List (Nat×Bs)
 | []=>[]
 | e::l=>(ZY (opE e),exT e)::Zo7 l
end
def Zo8 (l:List Ex):Zo7 l=l.map fun e=>(ZY (opE e),exT e):=by induction l with | nil=>rfl | cons x l ih=>simp [Zo7,ih]
def Zcx (l:List Ex):(Zo7 l).length=l.length:=by rw [Zo8,Te]
def exW (want:Nat) (e:Ex):Bs:=Zsg want (ZY (opE e),exT e)
def Zzw (l:List Ex):List Bs:=l.map exT
def UV (l:List Ex):(Zo7 l).map Prod.snd=Zzw l:=by rw [Zo8,SH];rfl
def Wm (fr fin:Bs) (l:List Ex):Bs:=fr++(Zi cmm (Zzw l)++fin)
def ZvQ (op:Nat):Bs:=if op=3 then [32,61,32] else if op=4 then [32,33,61,32] else if op=5 then [32,60,32] else if op=6 then [32,60,61,32] else if op=7 then [32,62,32] else [32,62,61,32]
def ZjH (op:Nat):Bs:=if op=9 then [99,111,117,110,116] else if op=10 then [115,117,109] else if op=11 then [109,105,110] else [109,97,120]
def Zsh (l:List Ex):Bs:=(l.map fun e=>[32]++exT e).flatten
def Zk6:List Ex->Bs
 | []=>[]
 | e::_=>exT e
mutual
def liT:Li->Bs
 | .mk op rel args body _ =>
  if op=2 then [33]++(rel++Wm [40] [41] args)
  else if op=1 then rel++Wm [40] [41] args
  else if op<=8 then Zk6 args++(ZvQ op++Zk6 args.tail)
  else Zk6 args++([32,61,32]++(ZjH op++(Zsh args.tail++([32,58,32,123,32]++(Zi cmm (Zrn body)++[32,125])))))
def Zrn:List Li->List Bs
 | []=>[]
 | e::l=>liT e::Zrn l
end
def Zdy (l:List Li):Zrn l=l.map liT:=by induction l with | nil=>rfl | cons x l ih=>simp [Zrn,ih]
def ruT (r:Ru):Bs:=r.head++(Wm [40] [41] r.args++((if 0<r.body.length then [32,58,45,32]++Zi cmm (Zrn r.body) else [])++[46]))
def fiT (f:Fi):Bs:=f.name++([58,32]++f.typ)
def Vq (fr:Bs) (l:List Fi) (fin:Bs):Bs:=fr++(Zi cmm (l.map fiT)++fin)
def Zzx (l:List Bs):Bs:=if l.length=0 then [] else [60]++(Zi cmm l++[62])
def caT (c:Ca):Bs:=Vq (c.name++[32,123]) c.fields [125]
def tyT (t:Ty):Bs:=[116,121,112,101,32]++(t.name++((if t.kind=1 then [32,60,58,32]++t.base else if t.kind=2 then Vq [32,61,32,91] t.fields [93] else [32,61,32]++Zi [32,124,32] (t.cases.map caT))++[10]))
def reT (d:Re):Bs:=Vq ([100,101,99,108,32]++(d.name++[40])) d.fields [41]++((if d.inn then [32,105,110,112,117,116] else [])++((if d.out then [32,111,117,116,112,117,116] else [])++((if d.inl then [32,105,110,108,105,110,101] else [])++[10])))
def inT (i:Ini):Bs:=[105,110,105,116,32]++(i.name++([32,61,32]++(i.comp++(Zzx i.types++[10]))))
def ovT (o:Ov):Bs:=[111,118,101,114,114,105,100,101,32]++(o.rel++[10])
mutual
def unT:Un->Bs
 | .mk tys rels rules comps inits overs=>(tys.map tyT).flatten++((rels.map reT).flatten++((Zy3 comps).flatten++((inits.map inT).flatten++((overs.map ovT).flatten++(rules.map fun r=>ruT r++[10]).flatten))))
def coT:Co->Bs
 | .mk nm ps base tys u _=>[99,111,109,112,32]++(nm++(Zzx ps++((if base=[] then [] else [32,58,32]++(base++Zzx tys))++([32,123,10]++(unT u++[125,10])))))
def Zy3:List Co->List Bs
 | []=>[]
 | c::l=>coT c::Zy3 l
end
def noC:Un->Prop
 | .mk _ _ _ c i o=>c=[]/\i=[]/\o=[]
def words24:List Bs:=[[116,121,112,101],[100,101,99,108],[105,110,112,117,116],[111,117,116,112,117,116],[105,110,108,105,110,101],[99,111,109,112],[105,110,105,116],[111,118,101,114,114,105,100,101],[110,105,108],[99,111,117,110,116],[115,117,109],[109,105,110],[109,97,120],[98,111,114],[98,120,111,114],[98,97,110,100],[115,104,108],[115,104,114],[99,97,116],[115,116,114,108,101,110],[115,117,98,115,116,114],[99,111,100,101],[115,116,114],[110,117,109]]
def Zzy (s:Bs):Zbk s=words24.contains s:=by
 unfold Zbk ZT words24 keptWords
 simp only [List.contains_cons,List.contains_nil,So]
 by_cases h1:s=[99,97,116]
 ·subst h1;decide
 by_cases h2:s=[115,116,114,108,101,110]
 ·subst h2;decide
 by_cases h3:s=[115,117,98,115,116,114]
 ·subst h3;decide
 by_cases h4:s=[99,111,100,101]
 ·subst h4;decide
 by_cases h5:s=[115,116,114]
 ·subst h5;decide
 by_cases h6:s=[110,117,109]
 ·subst h6;decide
 have q1:(s == [99,97,116])=false:=by simpa using h1
 have q2:(s == [115,116,114,108,101,110])=false:=by simpa using h2
 have q3:(s == [115,117,98,115,116,114])=false:=by simpa using h3
 have q4:(s == [99,111,100,101])=false:=by simpa using h4
 have q5:(s == [115,116,114])=false:=by simpa using h5
 have q6:(s == [110,117,109])=false:=by simpa using h6
 simp only [Tf h1,Tf h2,Tf h3,Tf h4,Tf h5,Tf h6,q1,q2,q3,q4,q5,q6,So,ne_eq,not_true_eq_false,decide_false]
def Zcy:Zm:=fun args σ K=>match args,σ with
 | [.d (.str s)],⟨[],[],0⟩=>∀b,Zbk s=b->K (.ret (.d (.bool b))) ⟨[],[],0⟩
 | _,_=>False
def Zic:PC w0 nG 170 Zcy:=by
 refine pwe Tryz.func170 fun args σ K h=>?_
 unfold Zcy at h
 split at h
 ·rename_i s
  rw [Zzy] at h;refine pwv [(3,⟨[4],[0,3],fun vs σ=>∃i:Nat,vs=[.d (.int .i64 i)]/\σ=⟨[],[],0⟩/\i<=words24.length/\words24.contains s=(words24.drop i).contains s,mu1 words24.length⟩)] 0 false ?_;refine ⟨⟨0,rfl,rfl,dM,rfl⟩,?_⟩;intro vs σ hI
  obtain ⟨i,rfl,rfl,hi,hc⟩:=hI;have hn:words24.length=24:=rfl;(conv=>whnf);refine ZEw (fun ac=>wN ?_) (fun ac=>?_)
  ·have ac:i<words24.length:=by have ac:(i:Int)<24:=ac;omega
   have cn:(words24.map fun w=>[D.str w])[((i:Nat):Int).toNat]?=some [D.str words24[i]]:=by simp [ac]
   obtain ⟨wd,hwd⟩:∃x,words24[i]=x:=⟨_,rfl⟩
   rw [Tl ac,List.contains_cons] at hc;rw [hwd] at cn hc;refine ⟨_,oM,cn,wN ?_⟩;refine ZEw (fun he=>wN ?_) (fun he=>wN ?_)
   ·exact h _ (by rw [hc,he];simp)
   refine Zj ?_;have ai:(s == wd)=false:=by simpa using fun g:s=wd=>he g.symm
   refine ⟨⟨i+1,rfl,rfl,oM,by rw [hc,ai,SL]⟩,?_⟩;exact lzM oM
  have ac:i=words24.length:=by have ac:¬(i:Int)<24:=ac;omega
  subst ac;rw [Su] at hc;(conv=>whnf);exact h _ hc
 exact h.elim
end Go.PM.Lex
end

section
noncomputable section
namespace Go.PM.Lex
open Go.Proofs
def tz (L:List Tok) (a:Int):Ts:=(L.drop a.toNat).map Tok.t0
def Zb (L:List Tok) (en:Int) (r:Nat):Int:=match L.drop (L.length - r) with
 | []=>en
 | t::_=>t.at'
structure ROK (L:List Tok) (a:Int) (ts:Ts):Prop where
 lo:0<=a
 hi:a<=L.length
 big:L.length<=1048576
 eq:tz L a=ts
def ROK.len {L:List Tok} {a:Int} {ts:Ts} (h:ROK L a ts):(ts.length:Int)=L.length - a:=by
 rw [<- h.eq];simp only [tz,Te,Tu];have:=h.lo;have:=h.hi;omega
def ROK.next {L:List Tok} {a:Int} {t:T0} {ts:Ts} (h:ROK L a (t::ts)):ROK L (a+1) ts:=by
 have hl:=h.len;have h0:=h.lo;refine ⟨oM,by simp at hl;omega,h.big,?_⟩;have:=h.eq;simp only [tz] at this |-;rw [show (a+1).toNat=a.toNat+1 by omega,<- TC,List.map_drop,this];rfl
def Yz {ts:Ts} {ws:List Bs} (h:isW ts ws=true):ts≠[]:=by rintro rfl;simp [isW,hd] at h
def ZdB {ts:Ts} (h:ZG ts=true):ts≠[]:=by rintro rfl;simp [ZG,hd] at h
def ROK.tl {L:List Tok} {a:Int} {ts:Ts} (h:ROK L a ts) (hn:ts≠[]):ROK L (a+1) ts.tail:=by
 cases ts with
 | nil=>exact absurd rfl hn
 | cons t ts=>exact h.next
def ROK.get {L:List Tok} {a:Int} {t:T0} {ts:Ts} (h:ROK L a (t::ts)):∃x,L[a.toNat]?=some x/\x.t0=t/\∀en,Zb L en (ts.length+1)=x.at':=by
 have hl:=h.len;have h0:=h.lo;have h1:=h.eq;simp only [Td] at hl;have ab:a.toNat<L.length:=oM;refine ⟨L[a.toNat],Tb ab,?_,fun en=>?_⟩
 ·simp only [tz] at h1;rw [Tl ab] at h1;simp only [TD,List.cons.injEq] at h1;exact h1.1
 unfold Zb
 rw [show L.length - (ts.length+1)=a.toNat by omega,Tl ab]
def ROK.none {L:List Tok} {a:Int} (h:ROK L a []):a=L.length:=by have:=h.len;simp at this;omega
def Uu (L:List Tok) (en:Int):Zb L en 0=en:=by simp [Zb]
abbrev Pl:=Nat->Int
mutual
def ZW (pl:Pl):Ex->List D
 | .mk op text n args a=>[.int .u8 op,.str text,.int .i64 n,.sl (Zp pl args),.int .i64 (pl a)]
def Zp (pl:Pl):List Ex->List (List D)
 | []=>[]
 | e::l=>ZW pl e::Zp pl l
end
mutual
def Xp (pl:Pl):Li->List D
 | .mk op rel args body a=>[.int .u8 op,.str rel,.sl (Zp pl args),.sl (Y6 pl body),.int .i64 (pl a)]
def Y6 (pl:Pl):List Li->List (List D)
 | []=>[]
 | e::l=>Xp pl e::Y6 pl l
end
def ZS (pl:Pl) (r:Ru):List D:=[.str r.head,.sl (Zp pl r.args),.sl (Y6 pl r.body),.int .i64 (pl r.at')]
def Zn (f:Fi):List D:=[.str f.name,.str f.typ]
def Zt (c:Ca):List D:=[.str c.name,.sl (c.fields.map Zn)]
def Zq (pl:Pl) (t:Ty):List D:=[.int .u8 t.kind,.str t.name,.str t.base,.sl (t.fields.map Zn),.sl (t.cases.map Zt),.int .i64 (pl t.at')]
def ZN (pl:Pl) (r:Re):List D:=[.str r.name,.sl (r.fields.map Zn),.bool r.inn,.bool r.out,.bool r.inl,.int .i64 (pl r.at')]
def Ym (s:Bs):List D:=[.str s]
def We (pl:Pl) (i:Ini):List D:=[.str i.name,.str i.comp,.sl (i.types.map Ym),.int .i64 (pl i.at')]
def Wf (pl:Pl) (o:Ov):List D:=[.str o.rel,.int .i64 (pl o.at')]
mutual
def XY (pl:Pl):Un->List D
 | .mk tys rels rules comps inits overs=>[.sl (tys.map (Zq pl)),.sl (rels.map (ZN pl)),.sl (rules.map (ZS pl)),.sl (Zk9 pl comps),.sl (inits.map (We pl)),.sl (overs.map (Wf pl))]
def XU (pl:Pl):Co->List D
 | .mk name params base types u a=>[.str name,.sl (params.map Ym),.str base,.sl (types.map Ym)]++XY pl u++[.int .i64 (pl a)]
def Zk9 (pl:Pl):List Co->List (List D)
 | []=>[]
 | e::l=>XU pl e::Zk9 pl l
end
def Ze (pl:Pl) (l:List Ex):Zp pl l=l.map (ZW pl):=by induction l with | nil=>rfl | cons x l ih=>simp [Zp,ih]
def ZD (pl:Pl) (l:List Li):Y6 pl l=l.map (Xp pl):=by induction l with | nil=>rfl | cons x l ih=>simp [Y6,ih]
def ZdC (pl:Pl) (l:List Co):Zk9 pl l=l.map (XU pl):=by induction l with | nil=>rfl | cons x l ih=>simp [Zk9,ih]
abbrev Uv (l:List D):PV:=.agg (l.map .d)
abbrev flt (L:List Tok) (en:Int) (r e:Nat):PV:=.iface 224 (.agg [.d (.int .i64 (Zb L en r)),.d (.int .i64 e)])
abbrev RK:=PEnd->Int->Int->Prop
def RKk {α:Type} (enc:α->PV) (L:List Tok) (en dp lo:Int) (x:R α) (K:RK):Prop:=match x with
 | .ok v ts'=>∀a',lo<=a'->ROK L a' ts'->K (.ret (enc v)) a' dp
 | .err r e=>∀a' dp',K (.panic (flt L en r e)) a' dp'
def Xq (body:List PV->List Tok->Int->Int->Int->Ts->RK->Prop):Zm:=fun args σ K=>match args,σ with
 | .ptr 0 0::rest,⟨[.cells t [.d (.sl rows),.d (.int .i64 a),.d (.int .i64 en),.d (.int .i64 dp)]],[],0⟩=>∃L ts,rows=Zz L/\ROK L a ts /\
   body rest L en dp a ts fun pe a' dp'=>K pe ⟨[.cells t [.d (.sl (Zz L)),.d (.int .i64 a'),.d (.int .i64 en),.d (.int .i64 dp')]],[],0⟩
 | _,_=>False
def Zpc {body:List PV->List Tok->Int->Int->Int->Ts->RK->Prop} (hb:∀rest L en dp a ts (K K':RK),(∀pe a d,K pe a d->K' pe a d)->body rest L en dp a ts K->body rest L en dp a ts K'):ZL (Xq body):=fun args σ K K' hK h=>by
 unfold Xq at h |-
 split at h
 ·obtain ⟨L,ts,h1,h2,h3⟩:=h;exact ⟨L,ts,h1,h2,hb _ _ _ _ _ _ _ _ (fun pe a d hk=>hK _ _ hk) h3⟩
 exact h.elim
def Xk:Zm:=fun args σ K=>match args,σ with
 | [.d (.str s)],⟨[],[],0⟩=>∀n:Int,(ZT s:Int)=n->K (.ret (.d (.int .u8 n))) ⟨[],[],0⟩
 | _,_=>False
def Zid:Zm:=fun args σ K=>match args,σ with
 | [.d (.str s)],⟨[],[],0⟩=>∀b,Zbk s=b->K (.ret (.d (.bool b))) ⟨[],[],0⟩
 | _,_=>False
def ZeA (s:Bs):Nat->List Bs->Int
 | _,[]=>-1
 | i,w::ws=>if s=w then i else ZeA s (i+1) ws
def ZgD:Zm:=fun args σ K=>match args,σ with
 | [.d (.sl rows),.d (.str s)],⟨[],[],0⟩=>∃ws:List Bs,rows=ws.map Ym/\ws.length<=1048576/\K (.ret (.d (.int .i64 (ZeA s 0 ws)))) ⟨[],[],0⟩
 | _,_=>False
def Zbo:Zm:=fun args σ K=>match args,σ with
 | [.d (.sl rows),.d (.str s)],⟨[],[],0⟩=>∃ws:List Bs,rows=ws.map Ym/\ws.length<=1048576/\∀b,ws.contains s=b->K (.ret (.d (.bool b))) ⟨[],[],0⟩
 | _,_=>False
def Zau:Zm:=Xq fun rest L en dp a ts K=>match rest with
 | [.d (.int .i64 n)]=>∀fin,(n=0/\K (.ret (.agg [.d (.int .u8 (hd ts).kind),.d (.str (hd ts).text),.d (.int .i64 (hd ts).n),.d (.int .i64 (Zb L en ts.length)),.d (.int .i64 fin)])) a dp) \/
   (n=1/\K (.ret (.agg [.d (.int .u8 (hd ts.tail).kind),.d (.str (hd ts.tail).text),.d (.int .i64 (hd ts.tail).n),.d (.int .i64 (Zb L en ts.tail.length)),.d (.int .i64 fin)])) a dp)
 | _=>False
def WK:Zm:=Xq fun rest L en dp a ts K=>match rest with
 | []=>K (.ret (.d (.int .i64 (Zb L en ts.length)))) a dp
 | _=>False
def Zie:Zm:=Xq fun rest L en dp a ts K=>match rest with
 | [.d (.sl rows)]=>∃ws:List Bs,rows=ws.map Ym/\ws.length<=1048576/\∀b,isW ts ws=b->K (.ret (.d (.bool b))) a dp
 | _=>False
def JM (p:Ts->Bool):Zm:=Xq fun rest L en dp a ts K=>match rest with
 | []=>∀b,p ts=b->K (.ret (.d (.bool b))) a dp
 | _=>False
def YS:Zm:=Xq fun rest L en dp a ts K=>match rest with
 | [.d (.int .i64 e)]=>K (.panic (.iface 224 (.agg [.d (.int .i64 (Zb L en ts.length)),.d (.int .i64 e)]))) a dp
 | _=>False
def ZjJ:ZL YS:=Zpc fun rest L en dp a ts K K' hK h=>by
 split at h
 ·exact hK _ _ _ h
 exact h.elim
def X5:Zm:=Xq fun rest L en dp a ts K=>match rest with
 | [.d (.sl rows)]=>∃ws:List Bs,rows=ws.map Ym/\ws.length<=1048576/\(isW ts ws=true->ROK L (a+1) ts.tail->K (.ret (.d (.bool true))) (a+1) dp)/\(isW ts ws=false->K (.ret (.d (.bool false))) a dp)
 | _=>False
def Zla:Zm:=Xq fun rest L en dp a ts K=>match rest with
 | [.d (.int .i64 n),.d (.int .i64 m)]=>(n=m->K (.panic (flt L en ts.length 3)) a dp)/\(n≠m->K (.ret (.tuple [])) (a+1) dp)
 | _=>False
def spR {α:Type} (enc:List Tok->Int->α->PV) (P:Ts->R α) (lo:Int):Zm:=Xq fun rest L en dp a ts K=>match rest with
 | []=>∀x,P ts=x->RKk (enc L en) L en dp (a+lo) x K
 | _=>False
def Xt:Zm:=Xq fun rest L en dp a ts K=>match rest with
 | [.d (.str w)]=>∀x,ZR w ts=x->RKk (fun _=>.tuple []) L en dp (a+1) x K
 | _=>False
abbrev XB:Zm:=spR (fun _ _ (v:Bs)=>.d (.str v)) YO 1
end Go.PM.Lex
end
end

section
namespace Go.PM.Lex
open Go.Proofs
variable {w0:World} {nG:Nat}
def ZEG {α β:Type} {x:R α} {f:α->Ts->R β} {v:β} {t:Ts} (h:x.bind f=.ok v t):∃a t1,x=.ok a t1/\f a t1=.ok v t:=by
 cases x with
 | ok a t1=>exact ⟨a,t1,rfl,h⟩
 | err r e=>cases h
def ZdD {w:Bs} {ts t1:Ts} {u:Unit} (h:ZR w ts=.ok u t1):isW ts [w]=true/\t1=ts.tail:=by
 unfold ZR at h;split at h
 ·cases h;exact ⟨by assumption,rfl⟩
 cases h
def ZgE {ts t1:Ts} {s:Bs} (h:YO ts=.ok s t1):ZG ts=true/\s=(hd ts).text/\t1=ts.tail:=by
 unfold YO at h;split at h
 ·cases h;exact ⟨by assumption,rfl,rfl⟩
 cases h
def ZdE {α:Type} {d:Nat} {fr tt:Bs} {rd:Ts->R α} {ts t1:Ts} {x:α} (h:Zo d fr tt rd ts=.ok x t1):isW ts [fr]=true/\(∃e,d=e+1)/\∃t2,rd ts.tail=.ok x t2/\(tt=[]/\t1=t2\/tt≠[]/\isW t2 [tt]=true/\t1=t2.tail):=by
 unfold Zo at h
 split at h
 ·split at h
  ·cases h
  obtain ⟨y,t2,h1,h⟩:=ZEG h;refine ⟨by assumption,⟨d - 1,oM⟩,?_⟩;split at h
  ·cases h;exact ⟨_,h1,.inl ⟨by assumption,rfl⟩⟩
  obtain ⟨u,t3,h2,h⟩:=ZEG h
  cases h
  exact ⟨_,h1,.inr ⟨by assumption,ZdD h2⟩⟩
 cases h
structure IK (L:List Tok) (a dp:Int) (d:Nat) (ts:Ts):Prop extends ROK L a ts where
 dpe:dp=64 - (d:Int)
 d64:d<=64
 kinds:∀x∈L,1<=x.kind/\x.kind<=4
section
variable {L:List Tok} {a dp:Int} {d:Nat} {ts:Ts}
def IK.tl (h:IK L a dp d ts) (hn:ts≠[]):IK L (a+1) dp d ts.tail:=⟨h.toROK.tl hn,h.dpe,h.d64,h.kinds⟩
def IK.inr (h:IK L a dp d ts):InR .i64 a:=by have:=h.lo;have:=h.hi;have:=h.big;exact InR.i64 oM oM
def IK.nil (h:IK L a dp d ts) (hc:¬a<((Zz L).length:Int)):ts=[]:=by
 rw [ZV] at hc;have:=h.len;exact TY oM
def IK.lt (h:IK L a dp d ts) (hn:ts≠[]):a<((Zz L).length:Int):=by
 rw [ZV];have:=h.len;cases ts with | nil=>exact absurd rfl hn | cons t ts=>simp only [Td] at this;omega
def IK.at' (h:IK L a dp d ts) (n:Nat) (hc:a+n<((Zz L).length:Int)):0<=a+n/\∃x,(Zz L)[(a+n).toNat]?=some (Zvo x)/\hd (ts.drop n)=x.t0/\ts.drop n≠[]/\(1<=x.kind/\x.kind<=4)/\∀en,Zb L en (ts.drop n).length=x.at':=by
 rw [ZV] at hc;have h0:=h.lo;have aa:=h.len;have ab:(a+n).toNat<L.length:=oM;have hq:ts.drop n=L[(a+n).toNat].t0::ts.drop (n+1):=by
  have he:=h.eq;simp only [tz] at he;rw [<- he,<- List.map_drop,TC,show a.toNat+n=(a+n).toNat by omega,Tl ab,TD,<- List.map_drop,TC,show (a+n).toNat+1=a.toNat+(n+1) by omega]
 refine ⟨oM,L[(a+n).toNat],by simp [Zz,ab],by rw [hq];rfl,by rw [hq];simp,h.kinds _ (TE ab),fun en=>?_⟩;unfold Zb
 rw [Tu,show L.length - (ts.length - n)=(a+n).toNat by omega,Tl ab]
def IK.at0 (h:IK L a dp d ts) (hc:a<((Zz L).length:Int)):0<=a/\∃x,(Zz L)[a.toNat]?=some (Zvo x)/\hd ts=x.t0/\ts≠[]/\(1<=x.kind/\x.kind<=4)/\∀en,Zb L en ts.length=x.at':=by
 have g:=h.at' 0 (by simpa using hc);simpa using g
end
abbrev U9 (t:TypeId) (L:List Tok) (a en dp:Int):Box:=.cells t [.d (.sl (Zz L)),.d (.int .i64 a),.d (.int .i64 en),.d (.int .i64 dp),.d (.int .i64 0),.d (.int .i64 0)]
abbrev KI:=PV->Nat->Ts->Prop
def iSp (body:List PV->Pl->Nat->Ts->KI->Prop):Zm:=fun args σ K=>match args,σ with
 | .ptr 0 0::rest,⟨[.cells t [.d (.sl rows),.d (.int .i64 a),.d (.int .i64 en),.d (.int .i64 dp),.d (.int .i64 w),.d (.int .i64 q)]],[],0⟩=>∃L d ts,(rows=Zz L/\w=0/\q=0)/\IK L a dp d ts /\
   body rest (Zb L en) d ts fun v d' ts'=>∀a' dp',a<=a'->IK L a' dp' d' ts'->K (.ret v) ⟨[U9 t L a' en dp'],[],0⟩
 | _,_=>False
def XZ:Zm:=iSp fun rest pl d ts K=>match rest with
 | [.d (.int .i64 m),.d (.str w)]=>∃n:Nat,(m=n/\n<=1)/\∀b,isW (ts.drop n) [w]=b->K (.d (.bool b)) d ts
 | _=>False
def UW:Zm:=iSp fun rest pl d ts K=>match rest with
 | [.d (.int .i64 m)]=>m=0/\∀b,ZG ts=b->K (.d (.bool b)) d ts
 | _=>False
def Uw:Zm:=iSp fun rest pl d ts K=>match rest with
 | []=>∀b,ZU ts=b->K (.d (.bool b)) d ts
 | _=>False
def JN:Zm:=iSp fun rest pl d ts K=>match rest with
 | []=>K (.d (.int .i64 (pl ts.length))) d ts
 | _=>False
def Ux:Zm:=iSp fun rest pl d ts K=>match rest with
 | [.d (.str w)]=>isW ts [w]=true/\K (.tuple []) d ts.tail
 | _=>False
def JO:Zm:=iSp fun rest pl d ts K=>match rest with
 | [.d (.str w)]=>isW ts [w]=true/\∃e,d=e+1/\K (.tuple []) e ts.tail
 | _=>False
def Zbp:Zm:=iSp fun rest pl d ts K=>match rest with
 | [.d (.str w)]=>(isW ts [w]=true/\d<64)/\K (.tuple []) (d+1) ts.tail
 | _=>False
def Zbq:Zm:=iSp fun rest pl d ts K=>match rest with
 | []=>ZG ts=true/\K (.d (.str (hd ts).text)) d ts.tail
 | _=>False
def Zbr:Zm:=iSp fun rest pl d ts K=>match rest with
 | [.d (.int .i64 n),.d (.int .i64 m)]=>n<m/\K (.tuple []) d ts
 | _=>False
def iR {α:Type} (enc:Pl->α->PV) (P:Nat->Ts->R α) (ok:Nat->Prop):Zm:=iSp fun rest pl d ts K=>match rest with
 | []=>ok d/\∃x t1,P d ts=.ok x t1/\K (enc pl x) d t1
 | _=>False
def ZdF:PC w0 nG 257 Xk:=by
 refine pwe Tryz.func257 fun args σ K h=>?_
 exact mq83
def Zav:PC w0 nG 106 JN:=by
 refine pwe Tryz.func106 fun args σ K h=>?_
 unfold JN iSp at h
 split at h
 ·rename_i rest t rows a en dp w q
  obtain ⟨L,d,ts,⟨rfl,rfl,rfl⟩,ho,h⟩:=h;split at h
  ·refine pwv [] 1 false ?_;refine ZEw (fun hc=>wN ?_) (fun hc=>?_)
   ·obtain ⟨h0,x,hx,ey,ai,ia,ff⟩:=ho.at0 hc;rw [ff] at h;refine ⟨_,h0,hx,wN ?_⟩;exact h _ _ oM ho
   obtain rfl:=ho.nil hc;rw [Tg,Uu] at h;(conv=>whnf);exact h _ _ oM ho
  exact h.elim
 exact h.elim
def XF:PC w0 nG 57 XZ:=by
 refine pwe Tryz.func57 fun args σ K h=>?_
 unfold XZ iSp at h
 split at h
 ·rename_i rest t rows a en dp w q
  obtain ⟨L,d,ts,⟨rfl,rfl,rfl⟩,ho,h⟩:=h;split at h
  ·rename_i m wd
   obtain ⟨n,⟨rfl,hn⟩,h⟩:=h;have r1:=ho.lo;have r2:=ho.hi;have r3:=ho.big;refine pwv [] 1 false ?_;refine Zj ?_;refine ZEw (fun hc=>wN ?_) (fun hc=>wN ?_)
   ·have hc:((Zz L).length:Int)<=a+n:=hc;rw [ZV] at hc;have aa:=ho.len;exact h _ (by rw [Tr oM];rfl) _ _ oM ho
   have hc:a+n<((Zz L).length:Int):=by have hc:¬((Zz L).length:Int)<=a+n:=hc;omega
   obtain ⟨h0,x,hx,ey,ai,ia,ff⟩:=ho.at' n hc;have hv:isW (ts.drop n) [wd]=((decide (x.kind=1) || decide (x.kind=4)) && (x.text == wd)):=by
    simp only [isW,ey,List.contains_cons,List.contains_nil,So];rfl
   rw [hv] at h;refine ⟨_,h0,hx,wN ?_⟩;refine ZEw (fun h1=>wN ?_) (fun h1=>wN ?_)
   ·refine ZEw (fun h2=>wN ?_) (fun h2=>wN ?_)
    ·have h2:x.kind=1:=by have h2:(x.kind:Int)=1:=h2;omega
     exact h _ (by rw [h1,h2];simp) _ _ oM ho
    have h2:¬x.kind=1:=by have h2:¬(x.kind:Int)=1:=h2;omega
    exact h _ (by rw [h1];simp [h2];omega) _ _ oM ho
   have h1:(x.text == wd)=false:=by simpa using h1
   exact h _ (by rw [h1,Bool.and_false]) _ _ oM ho
  exact h.elim
 exact h.elim
def Zpd:Tbl:=[(170,Zcy)]
def Zaw:PC w0 nG 100 UW:=by
 refine pwt (tbl:=Zpd) ⟨Zic,trivial⟩ Tryz.func100 fun args σ K h=>?_
 unfold UW iSp at h
 split at h
 ·rename_i rest t rows a en dp w q
  obtain ⟨L,d,ts,⟨rfl,rfl,rfl⟩,ho,h⟩:=h;split at h
  ·obtain ⟨rfl,h⟩:=h;refine pwv [] 1 false ?_;refine Or.inl ⟨by rw [Int.add_zero];exact ho.inr,?_⟩;rw [Int.add_zero];(conv=>whnf);refine ZEw (fun hc=>wN ?_) (fun hc=>?_)
   ·obtain ⟨h0,x,hx,ey,ai,ia,ff⟩:=ho.at0 hc;rw [ZG,ey] at h;have hv:∀b,(decide (x.kind=1) && (!decide (x.text=[95]) && !Zbk x.text))=b->∀a' dp',a<=a'->IK L a' dp' d ts->K (.ret (.d (.bool b))) ⟨[U9 t L a' en dp'],[],0⟩:=h;refine ⟨_,h0,hx,wN ?_⟩;refine ZEw (fun h1=>wN ?_) (fun h1=>wN ?_)
    ·have h1:x.kind=1:=by have h1:(x.kind:Int)=1:=h1;omega
     refine ⟨_,h0,hx,wN ?_⟩;refine ZEy (fun h2=>wN ?_) (fun h2=>wN ?_)
     ·refine ⟨_,h0,hx,wN ?_⟩;intro b hb
      cases b
      all_goals
       conv=>whnf
       exact hv _ (by rw [h1,hb];simpa using h2) _ _ oM ho
     have h2:x.text=[95]:=by simpa using h2
     exact hv _ (by rw [h2];simp) _ _ oM ho
    have h1:¬x.kind=1:=by have h1:¬(x.kind:Int)=1:=h1;omega
    exact hv _ (by rw [decide_eq_false h1,TT]) _ _ oM ho
   obtain rfl:=ho.nil hc;(conv=>whnf);exact h _ rfl _ _ oM ho
  exact h.elim
 exact h.elim
def Zsi:Tbl:=[(57,XZ)]
def UX:PC w0 nG 171 Ux:=by
 refine pwt (tbl:=Zsi) ⟨XF,trivial⟩ Tryz.func171 fun args σ K h=>?_
 unfold Ux iSp at h
 split at h
 ·rename_i rest t rows a en dp w q
  obtain ⟨L,d,ts,⟨rfl,rfl,rfl⟩,ho,h⟩:=h;split at h
  ·obtain ⟨hw,h⟩:=h;refine pwv [] 1 false ?_;refine ⟨L,d,ts,⟨rfl,rfl,rfl⟩,ho,0,⟨rfl,oM⟩,fun b hb=>?_⟩;obtain rfl:b=true:=hb.symm.trans hw;intro a1 dp1 cg ak
   have hn:=ak.tl (Yz hw);(conv=>whnf);refine Or.inl ⟨hn.inr,wN ?_⟩;exact h _ _ oM hn
  exact h.elim
 exact h.elim
def Zsj:Tbl:=[(57,XZ),(171,Ux)]
def Zax:PC w0 nG 174 JO:=by
 refine pwt (tbl:=Zsj) ⟨XF,UX,trivial⟩ Tryz.func174 fun args σ K h=>?_
 unfold JO iSp at h
 split at h
 ·rename_i rest t rows a en dp w q
  obtain ⟨L,d,ts,⟨rfl,rfl,rfl⟩,ho,h⟩:=h;split at h
  ·obtain ⟨hw,e,rfl,h⟩:=h;refine pwv [] 1 false ?_;refine ⟨L,_,ts,⟨rfl,rfl,rfl⟩,ho,0,⟨rfl,oM⟩,fun b hb=>?_⟩;obtain rfl:b=true:=hb.symm.trans hw;intro a1 dp1 cg ak
   have z1:=ak.dpe;(conv=>whnf);refine ZEw (fun hc=>absurd (show dp1=64 from hc) oM) (fun hc=>wN ?_);refine ⟨L,_,ts,⟨rfl,rfl,rfl⟩,ak,hw,?_⟩;intro a2 dp2 dl ah
   have z2:=ah.dpe;have z3:=ah.d64;(conv=>whnf);refine Zj ?_;exact h _ _ oM ⟨ah.toROK,oM,oM,ah.kinds⟩
  exact h.elim
 exact h.elim
def Zsk:Tbl:=[(171,Ux)]
def Zcz:PC w0 nG 175 Zbp:=by
 refine pwt (tbl:=Zsk) ⟨UX,trivial⟩ Tryz.func175 fun args σ K h=>?_
 unfold Zbp iSp at h
 split at h
 ·rename_i rest t rows a en dp w q
  obtain ⟨L,d,ts,⟨rfl,rfl,rfl⟩,ho,h⟩:=h;split at h
  ·obtain ⟨⟨hw,ahl⟩,h⟩:=h;refine pwv [] 1 false ?_;refine ⟨L,_,ts,⟨rfl,rfl,rfl⟩,ho,hw,?_⟩;intro a2 dp2 dl ah
   have z2:=ah.dpe;(conv=>whnf);refine Zj ?_;exact h _ _ oM ⟨ah.toROK,oM,oM,ah.kinds⟩
  exact h.elim
 exact h.elim
def Zsl:Tbl:=[(100,UW)]
def ZcA:PC w0 nG 107 Zbq:=by
 refine pwt (tbl:=Zsl) ⟨Zaw,trivial⟩ Tryz.func107 fun args σ K h=>?_
 unfold Zbq iSp at h
 split at h
 ·rename_i rest t rows a en dp w q
  obtain ⟨L,d,ts,⟨rfl,rfl,rfl⟩,ho,h⟩:=h;split at h
  ·obtain ⟨hw,h⟩:=h;refine pwv [] 1 false ?_;refine ⟨L,_,ts,⟨rfl,rfl,rfl⟩,ho,rfl,fun b hb=>?_⟩;obtain rfl:b=true:=hb.symm.trans hw;intro a1 dp1 cg ak
   have ai:=ZdB hw;have hn:=ak.tl ai;obtain ⟨h0,x,hx,ey,_⟩:=ak.at0 (ak.lt ai);rw [ey] at h;(conv=>whnf);refine Or.inl ⟨hn.inr,wN ?_⟩;refine Or.inl ⟨by rw [TW];exact ak.inr,?_⟩;rw [TW];(conv=>whnf);refine ⟨_,h0,hx,wN ?_⟩;exact h _ _ oM hn
  exact h.elim
 exact h.elim
def ZcB:PC w0 nG 101 Zbr:=by
 refine pwe Tryz.func101 fun args σ K h=>?_
 unfold Zbr iSp at h
 split at h
 ·rename_i rest t rows a en dp w q
  obtain ⟨L,d,ts,⟨rfl,rfl,rfl⟩,ho,h⟩:=h;split at h
  ·rename_i n m
   obtain ⟨ab,h⟩:=h;refine pwv [] 1 false ?_;refine ZEw (fun hc=>absurd (show n>=m from hc) oM) (fun hc=>wN ?_);exact h _ _ oM ho
  exact h.elim
 exact h.elim
end Go.PM.Lex
end
