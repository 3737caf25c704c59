/- A part of the proof: plain logic, contracts and laws over the given program. -/
import Derived.Test.YtljpldmdmdhdaaaGreatDoorB08
set_option linter.unusedVariables false
set_option linter.unusedSimpArgs false
set_option linter.all false
set_option maxRecDepth 100000
set_option maxHeartbeats 16000000
noncomputable section
section
namespace Go.PM.Lex
open Go.Proofs
variable {w0:World} {nG:Nat}
def ZcC {p:Pr} {vs:Vs}:∀{l:List Ex} {ns:List Int} {j:Nat} {e:Ex} {n:Int},ZaO p vs l ns=none->l[j]?=some e->ns[j]?=some n->rtE p vs e n=none
 | [],_,j,e,n,h,h1,h2=>by simp at h1
 | x::l,[],j,e,n,h,h1,h2=>by simp at h2
 | x::l,y::ns,j,e,n,h,h1,h2=>by
  simp only [ZaO] at h
  cases hx:rtE p vs x y with
  | some f=>rw [hx] at h;cases h
  | none =>
  rw [hx] at h
  cases j with
  | zero=>simp at h1 h2;subst h1;subst h2;exact hx
  | succ j=>exact ZcC h (by simpa using h1) (by simpa using h2)
def Zb3 {p:Pr} {vs:Vs} {op:Nat} {text:Bs} {num:Int} {args:List Ex} {a:Nat} {kind:Bs} (h:rtE p vs (.mk op text num args a) (Xk p kind)=none) :
  (op=7->∃(i k:Nat) (t:Ty) (c:Ca),lkM text (Y6 p)=some ((i:Int),(k:Int))/\p.types[i]?=some t/\t.cases[k]?=some c/\Yz p op text kind=c.fields/\c.fields.length=args.length) /\
  (op=6->∃t,ZhZ p (Xk p kind)=some t/\Yz p op text kind=t.fields/\t.fields.length=args.length) /\
  (op≠7->op≠6->Yz p op text kind=[]) /\
  ∀(j:Nat) (e:Ex) (f:Fi),args[j]?=some e->(Yz p op text kind)[j]?=some f->rtE p vs e (Xk p f.typ)=none:=by
 simp only [rtE] at h;split at h
 ·cases h
 rename_i h1
 split at h
 ·cases h
 rename_i h2
 split at h
 ·cases h
 rename_i h3
 have h3:(ZL p op text args.length (Xk p kind)).length=args.length:=Decidable.of_not_not h3;refine ⟨fun h7=>?_,fun h6=>?_,fun h7 h6=>?_,fun j e f he hf=>?_⟩
 ·cases hl:lkM text (Y6 p) with
  | none=>exact absurd ⟨h7,by rw [hl];rfl⟩ h1
  | some v =>
  obtain ⟨i,k,t,c,rfl,g2,g3,g4⟩:=Zd7 hl;have hp:ZL p op text args.length (Xk p kind)=ZX p c.fields:=by simp only [ZL,Ti h7,g4]
  rw [hp] at h3;refine ⟨i,k,t,c,rfl,g2,g3,?_,by simpa [ZX] using h3⟩;simp only [Yz,Ti h7,g4]
 ·cases hr:ZhZ p (Xk p kind) with
  | none=>exact absurd (.inr (.inl ⟨.inl h6,by rw [hr];rfl⟩)) h2
  | some t =>
  have h7:¬op=7:=oM;have hp:ZL p op text args.length (Xk p kind)=ZX p t.fields:=by simp only [ZL,Te h7,Ti h6,hr]
  rw [hp] at h3;refine ⟨t,rfl,?_,by simpa [ZX] using h3⟩;simp only [Yz,Te h7,Ti h6,hr]
 ·simp only [Yz,Te h7,Te h6]
 have hp:(Yz p op text kind).length≠0->ZL p op text args.length (Xk p kind)=ZX p (Yz p op text kind):=fun ai=>by
  unfold Yz at ai |-
  unfold ZL
  by_cases h7:op=7
  ·simp only [Ti h7] at ai |-
   cases hc:Zjk p text with
   | none=>rw [hc] at ai;simp at ai
   | some tc=>rfl
  simp only [Te h7] at ai |-
  by_cases h6:op=6
  ·simp only [Ti h6] at ai |-
   cases hr:ZhZ p (Xk p kind) with
   | none=>rw [hr] at ai;simp at ai
   | some t=>rfl
  simp only [Te h6] at ai;simp at ai
 have ai:(Yz p op text kind).length≠0:=fun h0=>by
  have:=(To.1 hf).1;omega
 rw [hp ai] at h;exact ZcC h he (by rw [ZX,Th,hf];rfl)
mutual
def Zht (p:Pr):∀(e:Ex) (kind:Bs),(wiE p e kind).length<=szE e
 | .mk op text n args a,kind=>by
  simp only [wiE,Tf,szE];have:=Zhu p args (Yz p op text kind);omega
def Zhu (p:Pr):∀(l:List Ex) (fs:List Fi),(ZaP p l fs).length<=VF l
 | [],fs=>by simp [ZaP]
 | e::l,[]=>by simp [ZaP]
 | e::l,f::fs=>by
  simp only [ZaP,Tc,VF];have:=Zht p e f.typ;have:=Zhu p l fs;omega
end
def ZcD {α:Type} {f:α->Nat} {l:List α} {j:Nat} {x:α} (h:l[j]?=some x):szS f (l.drop j)=1+f x+szS f (l.drop (j+1)):=by
 have hj:=(To.1 h).1;rw [Tk hj,szS];rw [Ta hj] at h
 cases h;rfl
def Wp {p:Pr} {kn:List (Bs×Bs)}:∀(a b:List (Ex×Bs)),VN p kn (a++b)=orF (VN p kn a) (VN p kn b)
 | [],b=>rfl
 | (.mk op text _ _ at',k)::a,b=>by
  simp only [Sl,VN];split
  ·rfl
  exact Wp a b
def Zou {p:Pr} {kn:List (Bs×Bs)} (x:Ex×Bs) (l:List (Ex×Bs)):VN p kn (x::l)=orF (h2T p kn x) (VN p kn l):=by
 obtain ⟨⟨op,text,n,args,a⟩,k⟩:=x;simp only [VN,h2T];split <;> rfl
abbrev ZrG (pl:Pl) (p:Pr) (r:Ru) (vs:Vs) (more:Bool) (M:SM):List Box:=[.cells 165 (ZuO pl r more 2 3),.cells 217 [.mp 4],.cells 149 (Zjc pl p 5),.dmap (mvM mvI vs),.smap 9 M none]++Zjd p
abbrev ZuP (pl:Pl) (p:Pr) (r:Ru) (vs:Vs) (more:Bool) (M:SM):List Box:=[.cells 165 (ZuO pl r more 3 4),.cells 104 [.ptr 0 0],.cells 217 [.mp 5],.cells 149 (Zjc pl p 6),.dmap (mvM mvI vs),.smap 9 M none]++Zjd p
def Zov (m:Nat):Zh:=fun args σ K=>match args,σ with
 | [.ptr 0 0,.agg c,.d (.str kind),.func f [] [.ptr 1 0]],⟨bx,[],0⟩=>∃pl p r vs more e M n,c=(ZD pl e).map .d/\f=140/\bx=ZrG pl p r vs more M/\OKP p/\(szE e<=m/\m<=2097152)/\rtE p vs e (Xk p kind)=none/\(ZrC M n/\n+szE e<=1073741824)/\K (.ret (.tuple [])) ⟨ZrG pl p r vs more (We M (wiE p e kind)),[],0⟩
 | _,_=>False
def Zwj {m:Nat}:OKw w0 nG [(139,spB Zov m),(140,ZDL),(135,Vw),(199,Zk4)] 139 (Zov m):=by
 refine pwo Tryz.func139 fun args σ K h=>?_
 unfold Zov at h
 split at h
 ·rename_i c kind f bx
  obtain ⟨pl,p,r,vs,more,⟨op,text,num,eargs,ea⟩,M,n,rfl,rfl,rfl,hp,⟨hz,hm⟩,we,⟨hM,hn⟩,h⟩:=h;simp only [wiE] at h;obtain ⟨F,hF⟩:∃F,We M ((.mk op text num eargs ea,kind)::ZaP p eargs (Yz p op text kind))=F:=⟨_,rfl⟩
  rw [hF] at h;have hM1:=ZmK hM (.mk op text num eargs ea,kind);have hF:We (Zwh M (.mk op text num eargs ea,kind)) (ZaP p eargs (Yz p op text kind))=F:=hF;have aw:(Ze pl eargs).length=eargs.length:=by rw [Zc,Td]
  simp only [szE,XG] at hz hn;have mr:=ZE szE eargs;obtain ⟨r7,r6,r0,rk⟩:=Zb3 we;obtain ⟨fs,sd⟩:∃fs,Yz p op text kind=fs:=⟨_,rfl⟩
  rw [sd] at r7 r6 r0 rk hF
  by_cases h7:op=7
  ·obtain ⟨i0,k0,t,c,hl,h2,h3,g1,g2⟩:=r7 h7;have hr:(p.types.map (Z6 pl))[(i0:Int).toNat]?=some (Z6 pl t):=by rw [Tg,Th,h2];rfl
   have fd:(t.cases.map XF)[(k0:Int).toNat]?=some (XF c):=by rw [Tg,Th,h3];rfl
   obtain ⟨t1,t2,t3,t4,t5,t6⟩:=t;obtain ⟨c1,c2⟩:=c;simp only at g1 g2;obtain rfl:fs=c2:=g1;refine pwu [(11,⟨[67],[0,3,5,65,66],fun w σ=>∃(j n1:Nat) (M1:SM),w=[.d (.int .i64 j)]/\σ=⟨ZrG pl p r vs more M1++[.cells 67 ((ZD pl (.mk op text num eargs ea)).map .d),.cells 156 [.d (.int .i64 i0),.d (.int .i64 k0)]],[],0⟩/\j<=eargs.length/\(ZrC M1 n1/\n1+szS szE (eargs.drop j)<=1073741824)/\We M1 (ZaP p (eargs.drop j) (fs.drop j))=F,
    fun w _=>match w with | [.d (.int _ j)]=>((eargs.length:Int) - j).toNat | _=>0⟩)] 9 false ?_
   conv=>whnf
   refine ⟨pl,.mk op text num eargs ea,rfl,⟨rfl,rfl⟩,fun t rows hr=>by have:=hM t rows hr;omega,wN ?_⟩;refine ZGr (fun jg=>?_) (fun jg=>absurd (show (op:Int)=7 by omega) jg);(conv=>whnf);refine optK.yes (by rw [ZJ,hl];rfl) (wN ?_)
   (repeat (refine ⟨rfl,?_⟩;conv=>whnf))
   refine ⟨dM,dM,wN ?_⟩;refine ⟨_,oM,hr,wN ?_⟩;refine ⟨dM,dM,wN ?_⟩;refine ⟨_,oM,fd,wN ?_⟩;exact mq9
  by_cases h6:op=6
  ·obtain ⟨t0,qm,g1,g2⟩:=r6 h6;refine pwu [(11,⟨[67],[0,3,5,65,66],fun w σ=>∃(j n1:Nat) (M1:SM),w=[.d (.int .i64 j)]/\σ=⟨ZrG pl p r vs more M1++[.cells 67 ((ZD pl (.mk op text num eargs ea)).map .d),.cells 122 ((Z6 pl t0).map .d)],[],0⟩/\j<=eargs.length/\(ZrC M1 n1/\n1+szS szE (eargs.drop j)<=1073741824)/\We M1 (ZaP p (eargs.drop j) (fs.drop j))=F,
    fun w _=>match w with | [.d (.int _ j)]=>((eargs.length:Int) - j).toNat | _=>0⟩)] 9 false ?_
   conv=>whnf
   refine ⟨pl,.mk op text num eargs ea,rfl,⟨rfl,rfl⟩,fun t rows hr=>by have:=hM t rows hr;omega,wN ?_⟩;refine ZGr (fun jg=>absurd (show op=7 by have jg:(op:Int)=7:=jg;omega) h7) (fun jg=>wN ?_);refine ZGr (fun ny=>?_) (fun ny=>absurd (show (op:Int)=6 by omega) ny);(conv=>whnf);refine ⟨pl,p,rfl,hp.bp,hp.ends,fun n6 hn6=>?_⟩;subst hn6;(conv=>whnf);refine ⟨pl,p,r,vs,more,rfl,hp,fun t6 ru=>?_,fun ru=>by rw [qm] at ru;cases ru⟩;obtain rfl:t0=t6:=Option.some.inj (qm.symm.trans ru);obtain ⟨t1,t2,t3,t4,t5,t6⟩:=t0;simp only at g1 g2;obtain rfl:fs=t4:=g1;(conv=>whnf);exact mq9
  skip
  refine pwu [(11,⟨[67],[0,3,5,65,66],fun w σ=>∃(j n1:Nat) (M1:SM),w=[.d (.int .i64 j)]/\σ=⟨ZrG pl p r vs more M1++[.cells 67 ((ZD pl (.mk op text num eargs ea)).map .d)],[],0⟩/\j<=eargs.length/\(ZrC M1 n1/\n1+szS szE (eargs.drop j)<=1073741824)/\We M1 (ZaP p (eargs.drop j) (fs.drop j))=F,
   fun w _=>match w with | [.d (.int _ j)]=>((eargs.length:Int) - j).toNat | _=>0⟩)] 9 false ?_
  conv=>whnf
  refine ⟨pl,.mk op text num eargs ea,rfl,⟨rfl,rfl⟩,fun t rows hr=>by have:=hM t rows hr;omega,wN ?_⟩;refine ZGr (fun jg=>absurd (show op=7 by have jg:(op:Int)=7:=jg;omega) h7) (fun jg=>wN ?_);refine ZGr (fun ny=>absurd (show op=6 by have ny:(op:Int)=6:=ny;omega) h6) (fun ny=>wN ?_);have h0:fs=[]:=r0 h7 h6;subst h0;refine ⟨⟨0,n+1,_,rfl,rfl,oM,⟨hM1,by rw [Sq];omega⟩,hF⟩,?_⟩
  rintro w σ1 ⟨j,n1,M1,rfl,rfl,hj,⟨wg,kd⟩,ha⟩
  have ha:M1=F:=by
   exact mq130
  subst ha;exact mq35
 exact h.elim
def Zow (m:Nat):Zh:=fun args σ K=>match args,σ with
 | [.ptr 0 0,.agg c,.d (.str kind),.func f [] [.ptr 1 0,.ptr 2 0]],⟨bx,[],0⟩=>∃pl p r vs more e M kn,c=(ZD pl e).map .d/\f=141/\bx=ZuP pl p r vs more M/\OKP p/\(szE e<=m/\m<=2097152)/\rtE p vs e (Xk p kind)=none/\ZEV M kn/\∀x,VN p kn (wiE p e kind)=x->FlK pl K ⟨bx,[],0⟩ x
 | _,_=>False
def Zwk {m:Nat}:OKw w0 nG [(139,spB Zow m),(141,ZDM),(135,Vw),(199,Zk4)] 139 (Zow m):=by
 refine pwo Tryz.func139 fun args σ K h=>?_
 unfold Zow at h
 split at h
 ·rename_i c kind f bx
  obtain ⟨pl,p,r,vs,more,⟨op,text,num,eargs,ea⟩,M,kn,rfl,rfl,rfl,hp,⟨hz,hm⟩,we,l4,h⟩:=h;simp only [wiE] at h;obtain ⟨X,hX⟩:∃X,VN p kn ((.mk op text num eargs ea,kind)::ZaP p eargs (Yz p op text kind))=X:=⟨_,rfl⟩
  have h:=h X hX;rw [Zou] at hX;have aw:(Ze pl eargs).length=eargs.length:=by rw [Zc,Td]
  simp only [szE,XG] at hz;have mr:=ZE szE eargs;obtain ⟨r7,r6,r0,rk⟩:=Zb3 we;obtain ⟨fs,sd⟩:∃fs,Yz p op text kind=fs:=⟨_,rfl⟩
  rw [sd] at r7 r6 r0 rk hX
  by_cases h7:op=7
  ·obtain ⟨i0,k0,t,c,hl,h2,h3,g1,g2⟩:=r7 h7;have hr:(p.types.map (Z6 pl))[(i0:Int).toNat]?=some (Z6 pl t):=by rw [Tg,Th,h2];rfl
   have fd:(t.cases.map XF)[(k0:Int).toNat]?=some (XF c):=by rw [Tg,Th,h3];rfl
   obtain ⟨t1,t2,t3,t4,t5,t6⟩:=t;obtain ⟨c1,c2⟩:=c;simp only at g1 g2;obtain rfl:fs=c2:=g1;refine pwu [(11,⟨[67],[0,3,5,65,66],fun w σ=>∃(j:Nat),w=[.d (.int .i64 j)]/\σ=⟨ZuP pl p r vs more M++[.cells 67 ((ZD pl (.mk op text num eargs ea)).map .d),.cells 156 [.d (.int .i64 i0),.d (.int .i64 k0)]],[],0⟩/\j<=eargs.length/\VN p kn (ZaP p (eargs.drop j) (fs.drop j))=X,
    fun w _=>match w with | [.d (.int _ j)]=>((eargs.length:Int) - j).toNat | _=>0⟩)] 10 false ?_
   conv=>whnf
   refine ⟨pl,p,r,vs,more,M,kn,.mk op text num eargs ea,rfl,rfl,hp,l4,fun y hy=>?_⟩;rw [hy] at hX
   cases y with
   | some ae =>
    exact mq168
   | none =>
   simp only [FlK,orF] at hX |-;(conv=>whnf);refine ZGr (fun jg=>?_) (fun jg=>absurd (show (op:Int)=7 by omega) jg);(conv=>whnf);refine optK.yes (by rw [ZJ,hl];rfl) (wN ?_)
   (repeat (refine ⟨rfl,?_⟩;conv=>whnf))
   refine ⟨dM,dM,wN ?_⟩;refine ⟨_,oM,hr,wN ?_⟩;refine ⟨dM,dM,wN ?_⟩;refine ⟨_,oM,fd,wN ?_⟩;exact mq11
  by_cases h6:op=6
  ·obtain ⟨t0,qm,g1,g2⟩:=r6 h6;refine pwu [(11,⟨[67],[0,3,5,65,66],fun w σ=>∃(j:Nat),w=[.d (.int .i64 j)]/\σ=⟨ZuP pl p r vs more M++[.cells 67 ((ZD pl (.mk op text num eargs ea)).map .d),.cells 122 ((Z6 pl t0).map .d)],[],0⟩/\j<=eargs.length/\VN p kn (ZaP p (eargs.drop j) (fs.drop j))=X,
    fun w _=>match w with | [.d (.int _ j)]=>((eargs.length:Int) - j).toNat | _=>0⟩)] 10 false ?_
   conv=>whnf
   refine ⟨pl,p,r,vs,more,M,kn,.mk op text num eargs ea,rfl,rfl,hp,l4,fun y hy=>?_⟩;rw [hy] at hX
   cases y with
   | some ae =>
    exact mq168
   | none =>
   simp only [FlK,orF] at hX |-;(conv=>whnf);refine ZGr (fun jg=>absurd (show op=7 by have jg:(op:Int)=7:=jg;omega) h7) (fun jg=>wN ?_);refine ZGr (fun ny=>?_) (fun ny=>absurd (show (op:Int)=6 by omega) ny);(conv=>whnf);refine ⟨pl,p,rfl,hp.bp,hp.ends,fun n6 hn6=>?_⟩;subst hn6;(conv=>whnf);refine ⟨pl,p,r,vs,more,rfl,hp,fun t6 ru=>?_,fun ru=>by rw [qm] at ru;cases ru⟩;obtain rfl:t0=t6:=Option.some.inj (qm.symm.trans ru);obtain ⟨t1,t2,t3,t4,t5,t6⟩:=t0;simp only at g1 g2;obtain rfl:fs=t4:=g1;(conv=>whnf);exact mq11
  skip
  refine pwu [(11,⟨[67],[0,3,5,65,66],fun w σ=>∃(j:Nat),w=[.d (.int .i64 j)]/\σ=⟨ZuP pl p r vs more M++[.cells 67 ((ZD pl (.mk op text num eargs ea)).map .d)],[],0⟩/\j<=eargs.length/\VN p kn (ZaP p (eargs.drop j) (fs.drop j))=X,
   fun w _=>match w with | [.d (.int _ j)]=>((eargs.length:Int) - j).toNat | _=>0⟩)] 10 false ?_
  conv=>whnf
  refine ⟨pl,p,r,vs,more,M,kn,.mk op text num eargs ea,rfl,rfl,hp,l4,fun y hy=>?_⟩;rw [hy] at hX
  cases y with
  | some ae =>
   exact mq168
  | none =>
  simp only [FlK,orF] at hX |-;(conv=>whnf);refine ZGr (fun jg=>absurd (show op=7 by have jg:(op:Int)=7:=jg;omega) h7) (fun jg=>wN ?_);refine ZGr (fun ny=>absurd (show op=6 by have ny:(op:Int)=6:=ny;omega) h6) (fun ny=>wN ?_);have h0:fs=[]:=r0 h7 h6;subst h0;refine ⟨⟨0,rfl,rfl,oM,hX⟩,?_⟩
  rintro w σ1 ⟨j,rfl,rfl,hj,ha⟩
  have ha:none=X:=by
   exact mq130
  subst ha;exact mq35
 exact h.elim
def knF (x:Ex×Bs):Option (Bs×Bs):=match x with
 | (.mk op text _ _ _,k)=>if op=1 then some (text,k) else none
def Zjq (p:Pr) (l:List Li):Zjl p l=(l.flatMap (VH p)).filterMap knF:=rfl
def ZmL (M:SM) (kn:List (Bs×Bs)):Prop:=∀t,(lkM t M).getD []=(kn.filter fun y=>decide (y.1=t)).map fun y=>ZuN y.2
def ZuQ {M:SM} {kn:List (Bs×Bs)} (h:ZmL M kn) (x:Ex×Bs):ZmL (Zwh M x) (kn++(knF x).toList):=by
 obtain ⟨⟨op,text,_,_,_⟩,k⟩:=x;simp only [Zwh,knF];split
 ·intro t
  rw [JP,List.filter_append,TM]
  by_cases ht:t=text
  ·subst ht;simp [h t]
  have nf:¬text=t:=fun e=>ht e.symm
  simp [ht,nf,h t]
 intro t;simpa using h t
def Zjr:∀(l:List (Ex×Bs)) {M:SM} {kn:List (Bs×Bs)},ZmL M kn->ZmL (We M l) (kn++l.filterMap knF)
 | [],M,kn,h=>by simpa [We] using h
 | x::l,M,kn,h=>by
  have:=Zjr l (ZuQ h x);simp only [List.filterMap_cons]
  cases hx:knF x with
  | none=>rw [hx] at this;simpa [We] using this
  | some y=>rw [hx] at this;simpa [We] using this
def Zf5 (p:Pr):∀(l:List Li),(l.flatMap (VH p)).length<=szS szL l
 | []=>sM
 | .mk op rel args body a::l=>by
  have:=Zf5 p l;have h2:=Zhu p args (Zos p rel);rw [XG] at h2;rw [List.flatMap_cons,Tc,szS,szL];simp only [VH];split
  ·omega
  rw [Tj];omega
def Zzg (p:Pr) {l:List Li} (h:szS szL l<=1073741824):ZEV (We [] (l.flatMap (VH p))) (Zjl p l):=by
 refine ⟨?_,?_⟩
 ·have h1:=Zf5 p l;have h2:=List.length_filterMap_le knF (l.flatMap (VH p));rw [Zjq];omega
 have:=Zjr (l.flatMap (VH p)) (M:=[]) (kn:=[]) (fun t=>rfl);rw [List.nil_append,<- Zjq] at this;exact this
def Zjs {p:Pr} {vs:Vs} {name:Bs} {args:List Ex} {a:Nat} {hd:Bool} (h:ZuE p vs name args a hd=none) :
  ∃(i:Nat) (d:Re),lkM name (JQ p)=some (i:Int)/\p.rels[i]?=some d/\d.fields.length=args.length/\ZaO p vs args (ZX p d.fields)=none/\Zos p name=d.fields:=by
 unfold ZuE at h
 cases hl:lkM name (JQ p) with
 | none=>rw [hl] at h;cases h
 | some n =>
 obtain ⟨i,d,rfl,h2,h3⟩:=ZcA hl;rw [hl] at h;simp only [Tg,h2] at h;split at h
 ·cases h
 split at h
 ·cases h
 rename_i hn
 have hn:d.fields.length=args.length:=Decidable.of_not_not hn;rw [Zbp hl h2,Ti hn] at h;exact ⟨i,d,rfl,h2,hn,h,by simp only [Zos,hl,Tg,h2]⟩
def ZmM {p:Pr} {vs:Vs}:∀{l:List Li} {j:Nat} {x:Li},Zh0 p vs l=none->l[j]?=some x->rtL p vs x=none
 | [],j,x,h,hx=>by simp at hx
 | y::l,j,x,h,hx=>by
  simp only [Zh0] at h
  cases hy:rtL p vs y with
  | some f=>rw [hy] at h;cases h
  | none =>
  rw [hy] at h
  cases j with
  | zero=>simp at hx;subst hx;exact hy
  | succ j=>exact ZmM h (by simpa using hx)
def ZFD (a b:Zh):Zh:=fun args σ K=>a args σ K\/b args σ K
def ZrH {G:GE} {g:FuncId} {a b:Zh} (ha:PCalls G g a) (hb:PCalls G g b):PCalls G g (ZFD a b):=⟨ha.enters,fun args σ K h=>h.elim (ha.calls args σ K) (hb.calls args σ K)⟩
abbrev ZEZ (pl:Pl) (p:Pr) (r:Ru) (vs:Vs) (more:Bool) (M:SM):List Box:=Zb1 pl p r vs more++[.cells 104 [.ptr 0 0],.smap 9 M none,.cells 217 [.mp 8]]
def Zec (m:Nat):Zh:=ZaQ fun rest pl p r vs more K=>match rest with
 | []=>(ZbX r<=m/\m<=2097152)/\ZuE p vs r.head r.args r.at' true=none/\Zh0 p vs r.body=none/\∀x,ZmG p r=x->RtK pl K vs more x
 | _=>False
def Zjt (m:Nat):Zy (Zec m):=Zd6 fun rest pl p r vs more K K' hK h=>by
 split at h
 ·obtain ⟨h1,h2,h3,h4⟩:=h;exact ⟨h1,h2,h3,fun x g=>Zhs hK (h4 x g)⟩
 exact h.elim
def ZmN (m:Nat):Tbl:=[(139,ZFD (Zov m) (Zow m))]
def ZuR {m:Nat} (ht:TO w0 nG (ZmN m)):PC w0 nG 87 (Zec m):=by
 refine ZpP Zr mixed (tbl:=ZmN m) ht Tryz.func87 rfl kR kR ?_;intro args σ K h
 unfold Zec ZaQ at h
 split at h
 ·obtain ⟨pl,p,⟨head,ab,body,rat⟩,vs,more,rfl,hp,h⟩:=h;split at h
  ·obtain ⟨⟨hz,hm⟩,hrel,aaq,h⟩:=h;simp only [ZbX] at hz hrel aaq;obtain ⟨hi,hd,cf,dg,ct,fc,jn⟩:=Zjs hrel;have si:=ZE szL body;have kg:(Zx pl body).length=body.length:=by rw [Zn,Td]
   have hlh:(Ze pl ab).length=ab.length:=by rw [Zc,Td]
   have hnh:=ZE szE ab;have l4:=Zzg p (l:=body) oM;obtain ⟨MF,hMF⟩:∃MF,We [] (body.flatMap (VH p))=MF:=⟨_,rfl⟩
   rw [hMF] at l4;obtain ⟨X,hX⟩:∃X,ZmG p ⟨head,ab,body,rat⟩=X:=⟨_,rfl⟩
   have h:=h X hX;have hX:VN p (Zjl p body) (ZaP p ab hd.fields)=X:=by rw [<- hX,ZmG,jn]
   generalize Zjl p body=kn at l4 hX;refine ⟨Zg [(3,⟨[16],[1,2,14,15],fun w σ=>∃(j n:Nat) (M:SM),w=[.d (.int .i64 j)]/\σ=⟨ZEZ pl p ⟨head,ab,body,rat⟩ vs more M,[],0⟩/\j<=body.length/\(ZrC M n/\n+szS szL (body.drop j)<=1073741824)/\We M ((body.drop j).flatMap (VH p))=MF,
     fun w _=>match w with | [.d (.int _ j)]=>((body.length:Int) - j).toNat | _=>0⟩),
    (7,⟨[45],[1,2,4,14,15,16,43,44],fun w σ=>∃(j i n:Nat) (M:SM) (rel:Bs) (eargs:List Ex) (lbody:List Li) (at':Nat) (fs:List Fi),w=[.ptr 7 0,.ptr 9 0,.ptr 10 0,.d (.sl (Zx pl body)),.d (.int .i64 ((Zx pl body).length:Nat)),.d (.int .i64 j),.d (.sl (fs.map Zp)),.d (.int .i64 ((fs.map Zp).length:Nat)),.d (.int .i64 i)] /\
      σ=⟨ZEZ pl p ⟨head,ab,body,rat⟩ vs more M++[.cells 65 ((YC pl (.mk 1 rel eargs lbody at')).map .d)],[],0⟩/\body[j]?=some (.mk 1 rel eargs lbody at')/\fs=Zos p rel/\i<=eargs.length /\
      (ZrC M n/\n+szS szE (eargs.drop i)+szS szL (body.drop (j+1))<=1073741824)/\We (We M (ZaP p (eargs.drop i) (fs.drop i))) ((body.drop (j+1)).flatMap (VH p))=MF,
     fun w _=>match w with | [_,_,_,_,_,_,_,.d (.int _ n),.d (.int _ i)]=>(n - i).toNat | _=>0⟩),
    (13,⟨[87],[1,2,85,86],fun w σ=>∃(j:Nat),w=[.d (.int .i64 j)]/\σ=⟨ZEZ pl p ⟨head,ab,body,rat⟩ vs more MF,[],0⟩/\j<=ab.length/\VN p kn (ZaP p (ab.drop j) (hd.fields.drop j))=X,
     fun w _=>match w with | [.d (.int _ j)]=>((ab.length:Int) - j).toNat | _=>0⟩)],ZV [],ZC [7],ZC [9],ZC [],7,false,sM,Tb rfl,?_⟩
   conv=>whnf
   refine ⟨⟨0,0,[],rfl,rfl,oM,⟨(fun t rows hr=>by cases hr),by rw [Sq];omega⟩,hMF⟩,?_⟩
   rintro w σ1 ⟨j,n,M,rfl,rfl,hj,⟨hM,hn⟩,ha⟩
   conv=>whnf
   refine ZGr (fun hc=>?_) (fun hc=>?_);rotate_left
   ·have hc:¬(j:Int)<((Zx pl body).length:Int):=hc;rw [Tm oM] at ha;have ha:M=MF:=ha;subst ha;have hr:(p.rels.map (Zu pl))[(hi:Int).toNat]?=some (Zu pl hd):=by rw [Tg,Th,dg];rfl
    obtain ⟨d1,d2,d3,d4,d5,d6⟩:=hd;simp only at ct fc hX;(conv=>whnf);refine optK.yes (by rw [ZJ,cf];rfl) (wN ?_)
    (repeat (refine ⟨rfl,?_⟩;conv=>whnf))
    refine ⟨_,oM,hr,wN ?_⟩;refine ⟨⟨0,rfl,rfl,oM,hX⟩,?_⟩
    rintro w σ1 ⟨i,rfl,rfl,af,ha⟩
    conv=>whnf
    refine ZGr (fun bw=>?_) (fun bw=>?_);rotate_left
    ·have bw:¬(i:Int)<((d2.map Zp).length:Int):=bw;rw [Td] at bw;rw [Tm oM] at ha;have ha:none=X:=ha;subst ha;exact mq35
    have aa:i<d2.length:=by have bw:(i:Int)<((d2.map Zp).length:Int):=bw;rw [Td] at bw;omega
    have av:i<ab.length:=oM;rw [Tk aa,Tk av] at ha;simp only [ZaP] at ha;have hk:=ZcC fc (Ta av) (by rw [ZX,Th,Ta aa];rfl);have pu:(d2.map Zp)[(i:Int).toNat]?=some (Zp d2[i]):=by rw [Tg,Th,Ta aa];rfl
    have nw:(Ze pl ab)[(i:Int).toNat]?=some (ZD pl ab[i]):=by rw [Zc,Tg,Th,Ta av];rfl
    have dr:=ZQ szE ab i av;have hμ:((ab.length:Int) - ((i:Int)+1)).toNat<((ab.length:Int) - (i:Int)).toNat:=oM;generalize d2[i]=f0 at ha hk pu;generalize ab[i]=x0 at ha hk nw dr;obtain ⟨f1,f2⟩:=f0;obtain ⟨x1,x2,x3,x4,x5⟩:=x0;(conv=>whnf);refine ⟨_,oM,pu,wN ?_⟩;refine ⟨_,oM,nw,wN ?_⟩;refine .inr ⟨pl,p,⟨head,ab,body,rat⟩,vs,more,.mk x1 x2 x3 x4 x5,M,kn,rfl,rfl,rfl,hp,⟨oM,hm⟩,hk,l4,fun y hy=>?_⟩;rw [Wp,hy] at ha
    cases y with
    | some ae =>
     obtain ⟨a,e⟩:=ae;simp only [orF] at ha;subst ha;simp only [FlK,RtK] at h |-;exact mq35
    | none =>
    simp only [FlK,orF] at ha |-;(conv=>whnf)
    (repeat (refine ⟨rfl,?_⟩;conv=>whnf))
    refine Zk ?_;exact ⟨⟨i+1,rfl,rfl,oM,ha⟩,hμ⟩
   have aa:j<body.length:=by have hc:(j:Int)<((Zx pl body).length:Int):=hc;omega
   have hr:(Zx pl body)[(j:Int).toNat]?=some (YC pl body[j]):=by rw [Zn,Tg,Th,Ta aa];rfl
   have dr:=ZQ szL body j aa;have i7:=ZcD (f:=szL) (Ta aa);have hx:=ZmM aaq (Ta aa);rw [Tk aa,List.flatMap_cons,We,T7] at ha;have hμ:((body.length:Int) - ((j:Int)+1)).toNat<((body.length:Int) - (j:Int)).toNat:=oM;have jj:body[j]?=some body[j]:=Ta aa;generalize body[j]=x at ha hr dr i7 hx jj;obtain ⟨op,rel,eargs,lbody,at'⟩:=x;simp only [szL,Vt] at dr i7;simp only [VH] at ha;(conv=>whnf);refine ⟨_,oM,hr,wN ?_⟩;refine ZGu (fun ho=>wN ?_) (fun ho=>?_)
   ·have ho:¬op=1:=fun g=>ho (by simp only [g];rfl)
    rw [Te ho] at ha;refine Zk ?_;exact ⟨⟨j+1,n,M,rfl,rfl,oM,⟨hM,oM⟩,ha⟩,hμ⟩
   have ho:op=1:=by have ho:(op:Int)=1:=ho;omega
   subst ho;rw [Ti rfl] at ha;simp only [rtL] at hx;rw [Ti dM] at hx;obtain ⟨ri,d,q1,q2,q3,q4,q5⟩:=Zjs hx;have hrr:(p.rels.map (Zu pl))[(ri:Int).toNat]?=some (Zu pl d):=by rw [Tg,Th,q2];rfl
   obtain ⟨d1,d2,d3,d4,d5,d6⟩:=d;simp only at q3 q4 q5;have f7:(Ze pl eargs).length=eargs.length:=by rw [Zc,Td]
   have ai:=ZE szE eargs;rw [q5] at ha;(conv=>whnf);refine optK.yes (by rw [ZJ,q1];rfl) (wN ?_)
   (repeat (refine ⟨rfl,?_⟩;conv=>whnf))
   refine ⟨_,oM,hrr,wN ?_⟩;refine ⟨⟨j,0,n,M,rel,eargs,lbody,at',d2,rfl,rfl,jj,q5.symm,oM,⟨hM,by rw [Sq];omega⟩,ha⟩,?_⟩
   clear ha hM hn
   rintro w σ1 ⟨j',i,n2,M2,rel',eargs',lbody',at'',fs',hw,rfl,lj,aar,af,⟨wg,kd⟩,ha⟩
   have ej:(some (PV.d (.int .i64 (j:Int))):Option PV)=some (.d (.int .i64 (j':Int))):=congrArg (fun l:List PV=>l[5]?) hw;obtain rfl:j=j':=by have ej:=Option.some.inj ej;injection ej with ej;injection ej with _ ej;omega
   rw [jj] at lj;obtain ⟨_,rfl,rfl,rfl,rfl⟩:=Li.mk.inj (Option.some.inj lj);obtain rfl:fs'=d2:=aar.trans q5;have hw:w=[.d (.int .i64 i)]:=congrArg (List.drop 8) hw;subst hw;(conv=>whnf);refine ZGr (fun bw=>?_) (fun bw=>?_);rotate_left
   ·have bw:¬(i:Int)<((fs'.map Zp).length:Int):=bw;rw [Td] at bw;have hii:i=eargs.length:=oM;rw [Tm oM] at ha kd;have ha:We M2 ((body.drop (j+1)).flatMap (VH p))=MF:=ha;(conv=>whnf);refine Zk ?_;exact ⟨⟨j+1,n2,M2,rfl,rfl,oM,⟨wg,by simp only [szS] at kd;omega⟩,ha⟩,hμ⟩
   have lk:i<fs'.length:=by have bw:(i:Int)<((fs'.map Zp).length:Int):=bw;rw [Td] at bw;omega
   have av:i<eargs.length:=oM;rw [Tk lk,Tk av] at ha;simp only [ZaP] at ha;have hk:=ZcC q4 (Ta av) (by rw [ZX,Th,Ta lk];rfl);have pu:(fs'.map Zp)[(i:Int).toNat]?=some (Zp fs'[i]):=by rw [Tg,Th,Ta lk];rfl
   have nw:(Ze pl eargs)[(i:Int).toNat]?=some (ZD pl eargs[i]):=by rw [Zc,Tg,Th,Ta av];rfl
   have ve:=ZQ szE eargs i av;have hde:=ZcD (f:=szE) (Ta av);have hμ2:(((fs'.map Zp).length:Int) - ((i:Int)+1)).toNat<(((fs'.map Zp).length:Int) - (i:Int)).toNat:=by rw [Td];omega
   generalize fs'[i]=f0 at ha hk pu;generalize eargs[i]=x0 at ha hk nw ve hde;obtain ⟨f1,f2⟩:=f0;obtain ⟨x1,x2,x3,x4,x5⟩:=x0;(conv=>whnf);refine ⟨_,oM,pu,wN ?_⟩;refine ⟨_,oM,nw,wN ?_⟩;refine .inl ⟨pl,p,⟨head,ab,body,rat⟩,vs,more,.mk x1 x2 x3 x4 x5,M2,n2,rfl,rfl,rfl,hp,⟨oM,hm⟩,hk,⟨wg,oM⟩,wN ?_⟩;have hM3:=ZaB (wiE p (.mk x1 x2 x3 x4 x5) f2) wg;have hwl:=Zht p (.mk x1 x2 x3 x4 x5) f2;rw [show We M2 (wiE p (.mk x1 x2 x3 x4 x5) f2++ZaP p (List.drop (i+1) eargs) (List.drop (i+1) fs'))=We (We M2 (wiE p (.mk x1 x2 x3 x4 x5) f2)) (ZaP p (List.drop (i+1) eargs) (List.drop (i+1) fs')) from T7 ..] at ha
   (repeat (refine ⟨rfl,?_⟩;conv=>whnf))
   refine Zk ?_;exact ⟨⟨j,i+1,n2+(wiE p (.mk x1 x2 x3 x4 x5) f2).length,_,rel,eargs,lbody,at',fs',rfl,rfl,jj,aar,oM,⟨hM3,oM⟩,ha⟩,hμ2⟩
  exact h.elim
 exact h.elim
def recOfC:Nat×Nat×Code:=match ZAL (Y8 Tryz.f84) with | some x=>x | none=>(0,0,.skip)
def Zzh:List PV->St->(St->Prop)->Prop:=fun args σ K=>args.length<=Tryz.f84.ntmps/\W (ctx VE [] (Zg [])) recOfC.2.2 (Ztx VE Tryz.f84 σ.bx.length K) (Va (Va (Zck 0 args) recOfC.1 (.d .nili)) recOfC.2.1 (.d .nili)) σ
def Zzi:PV->List PV->St->(St->Prop)->Prop:=fun pv args σ K=>args.length<=Tryz.f84.ntmps/\W (ctx VE [] (Zg [])) recOfC.2.2 (Ztx VE Tryz.f84 σ.bx.length K) (Va (Va (Zck 0 args) recOfC.1 pv) recOfC.2.1 pv) σ
def Zzj:PDef (GG w0 nG) 84 Zzh Zzi :=
 Zku (a:=recOfC.1) (b:=recOfC.2.1) (rest:=recOfC.2.2) Zr mixed Tryz.func84 rfl kR rfl kR (fun args σ K h=>⟨ZoY VE [] (Zg []) (fun _=>0) (fun _=>false),σ.bx.length,CxG.of (tbl:=[]) Zr trivial trivial _ _ _,Tt _,h.1,h.2⟩) (fun pv args σ K h=>⟨ZoY VE [] (Zg []) (fun _=>0) (fun _=>false),σ.bx.length,CxG.of (tbl:=[]) Zr trivial trivial _ _ _,Tt _,h.1,h.2⟩)
def ZGc (pl:Pl):Flt->PV
 | none=>.agg [.d (.int .i64 0),.d (.int .i64 0)]
 | some (a,e)=>.agg [.d (.int .i64 (pl a)),.d (.int .i64 e)]
def ZcE (m:Nat):Zh:=ZaQ fun rest pl p r vs more K=>match rest with
 | []=>(ZbX r<=m/\m<=2097152)/\Zca r.body=true/\∀x,Zjm p r vs=x->K (.ret (ZGc pl x)) vs more
 | _=>False
def Zju (m:Nat):Tbl:=[(85,Zf4 m),(86,Zeb m),(87,Zec m)]
def ZrI {m:Nat} (ht:TO w0 nG (Zju m)):PC w0 nG 45 (ZcE m):=by
 refine Zcu Zr mixed Tryz.func45 rfl kR kR Zzj ?_;intro args σ K h
 unfold ZcE ZaQ at h
 split at h
 ·obtain ⟨pl,p,⟨head,ab,body,rat⟩,vs,more,rfl,hp,h⟩:=h;split at h
  ·obtain ⟨⟨hz,hm⟩,ca,h⟩:=h;simp only [ZbX] at hz ca;refine ⟨ZoY VE (Zju m) (Zg []) (ZV []) (ZC []),7,false,CxG.of Zr ht ⟨Zk5 m,Zk6 m,Zjt m,trivial⟩ _ _ _,sM,Tb rfl,wN ?_⟩;simp only [Zjm] at h;refine ZGr (fun hc=>wN ?_) (fun hc=>wN ?_)
   ·have hc:64<vs.length:=by have hc:(64:Int)<((mvM mvI vs).length:Nat):=hc;rw [Zrf] at hc;omega
    rw [Ti hc] at h;exact h _ rfl
   have hc:¬64<vs.length:=by have hc:¬(64:Int)<((mvM mvI vs).length:Nat):=hc;rw [Zrf] at hc;omega
   rw [Te hc] at h
   (repeat (refine ⟨rfl,?_⟩;conv=>whnf))
   refine ⟨pl,p,⟨head,ab,body,rat⟩,vs,more,rfl,hp,ab,rat,rfl,rfl,⟨oM,hm⟩,fun x hx=>?_⟩;rw [hx] at h
   cases x with
   | some ae =>
    obtain ⟨a,e⟩:=ae;have h:=h _ rfl;exact mq107
   | none =>
   simp only [RtK];(conv=>whnf)
   (repeat (refine ⟨rfl,?_⟩;conv=>whnf))
   refine ⟨pl,p,⟨head,ab,body,rat⟩,vs,more,rfl,hp,body,rfl,⟨oM,hm⟩,ca,fun y hy=>?_⟩;rw [hy] at h
   cases y with
   | some ae =>
    obtain ⟨a,e⟩:=ae;have h:=h _ rfl;exact mq107
   | none =>
   simp only [RtK];(conv=>whnf)
   (repeat (refine ⟨rfl,?_⟩;conv=>whnf))
   refine ⟨pl,p,⟨head,ab,body,rat⟩,vs,more,rfl,hp,⟨by simp only [ZbX];omega,hm⟩,hx,hy,fun z hz=>?_⟩;have h:=h z hz
   cases z with
   | some ae =>
    obtain ⟨a,e⟩:=ae;exact mq107
   | none =>
   exact mq107
  exact h.elim
 exact h.elim
def ZE0:Prop:=∀p:Pr,ZmE p=none->ZCv p
def pig:∀(n:Nat) (f:Nat->Nat),(∀i,i<=n->f i<n)->∃i j,i<j/\j<=n/\f i=f j
 | 0,f,h=>absurd (h 0 (Tt _)) oM
 | n+1,f,h=>by
  by_cases hx:∃i,i<=n/\f i=f (n+1)
  ·obtain ⟨i,h1,h2⟩:=hx;exact ⟨i,n+1,oM,oM,h2⟩
  have ai:∀i,i<=n->f i≠f (n+1):=fun i hi g=>hx ⟨i,hi,g⟩
  have hv:=h (n+1) oM;obtain ⟨i,j,h1,h2,h3⟩:=pig n (fun i=>if f (n+1)<f i then f i - 1 else f i) (fun i hi=>by
   have h1:=h i oM;have h2:=ai i hi;show (if f (n+1)<f i then f i - 1 else f i)<n;split <;> omega)
  refine ⟨i,j,h1,oM,?_⟩;have h4:=ai i oM;have h5:=ai j h2
  change (if f (n+1)<f i then f i - 1 else f i)=(if f (n+1)<f j then f j - 1 else f j) at h3
  split at h3 <;> split at h3 <;> omega
def sN (p:Pr):Nat->Bs->Bs
 | 0,a=>a
 | n+1,a=>sN p n ((XH p a).getD [])
def ZrJ (p:Pr):∀(i k:Nat) (a:Bs),sN p (i+k) a=sN p k (sN p i a)
 | 0,k,a=>by rw [Sx];rfl
 | i+1,k,a=>by rw [show i+1+k=(i+k)+1 by omega];exact ZrJ p i k _
def ZmO {p:Pr}:∀{n:Nat} {a:Bs},Zbn p n a=none->∀i,i<n->(XH p (sN p i a)).isSome=true
 | 0,_,_,i,hi=>oM
 | n+1,a,h,i,hi=>by
  simp only [Zbn] at h;split at h
  ·cases h
  rename_i c hc
  cases i with
  | zero=>simp only [sN,hc];rfl
  | succ i=>simp only [sN,hc];exact ZmO h i oM
def ZrK {p:Pr} {s:Bs}:∀{k n:Nat} {a:Bs},(∀i,i<=k->(XH p (sN p i a)).isSome=true)->sN p (k+1) a=s->k<n->Zji p s n a=true
 | k,0,_,_,_,h=>oM
 | 0,n+1,a,h,hs,_=>by
  obtain ⟨c,hc⟩:=Sw.1 (h 0 oM);simp only [sN] at hc hs;rw [hc] at hs;simp only [Ss] at hs;simp only [Zji,hc];rw [Ti hs]
 | k+1,n+1,a,h,hs,hk=>by
  obtain ⟨c,hc⟩:=Sw.1 (h 0 oM);simp only [sN] at hc;simp only [Zji,hc];split
  ·rfl
  refine ZrK (k:=k) (fun i hi=>?_) ?_ oM
  ·have:=h (i+1) oM;simpa only [sN,hc,Ss] using this
  rw [<- hs];simp only [sN,hc];rfl
def Zf6 {p:Pr}:∀{l:List Ty},Zhp p l=none->∀t∈l,ZuB p t=false
 | [],_,_,h=>by cases h
 | x::l,h,t,ht=>by
  simp only [Zhp] at h;split at h
  ·cases h
  rename_i hx
  rcases Tr.1 ht with rfl | ht
  ·simpa using hx
  exact Zf6 h t ht
def Zzk {p:Pr} {a b:Bs} (h:XH p a=some b):∃(k:Nat) (t:Ty),lkM a (Zuo p)=some (k:Int)/\p.types[k]?=some t/\t.name=a/\t.kind=1/\t.base=b:=by
 unfold XH at h
 split at h
 ·cases h
 rename_i i hi
 obtain ⟨k,t,rfl,ht,hn⟩:=Zrg hi;split at h
 ·cases h
 rw [Tg,ht] at h;simp only at h;split at h
 ·rename_i hc;cases h;exact ⟨k,t,hi,ht,hn,hc.1,rfl⟩
 cases h
def Zzl {p:Pr} (h:Zhp p p.types=none):ZCv p:=fun s=>by
 cases he:Zwb p s with
 | some r=>rfl
 | none =>
 exfalso;have hs:=ZmO he;have hix:∀i,i<=p.types.length->∃(k:Nat) (t:Ty),lkM (sN p i s) (Zuo p)=some (k:Int)/\p.types[k]?=some t/\t.name=sN p i s:=fun i hi=>by
  obtain ⟨b,hb⟩:=Sw.1 (hs i oM);obtain ⟨k,t,h1,h2,h3,_⟩:=Zzk hb;exact ⟨k,t,h1,h2,h3⟩
 obtain ⟨i,j,h1,h2,h3⟩:=pig p.types.length (fun i=>((lkM (sN p i s) (Zuo p)).getD 0).toNat) (fun i hi=>by
  obtain ⟨k,t,g1,g2,_⟩:=hix i hi;simp only [g1,Ss,Tg];exact (To.1 g2).1)
 obtain ⟨k1,t1,g1,g2,g3⟩:=hix i oM;obtain ⟨k2,t2,q1,q2,q3⟩:=hix j h2;simp only [g1,q1,Ss,Tg] at h3;subst h3;rw [g2] at q2
 cases q2
 have bm:sN p j s=sN p i s:=q3.symm.trans g3;have hr:=Zf6 h t1 (TW g2);have:ZuB p t1=true:=by
  unfold ZuB
  rw [g3];refine ZrK (k:=j - i - 1) (fun m hm=>?_) ?_ oM
  ·rw [<- ZrJ];exact hs _ oM
  rw [<- ZrJ,show i+(j - i - 1+1)=j by omega];exact bm
 rw [this] at hr
 cases hr
def ZuS {p:Pr} (h:ZmE p=none):ZfY p.types Zjj []=none/\Zor p p.types=none/\Zhp p p.types=none:=by
 unfold ZmE at h
 split at h
 ·cases h
 rename_i h1
 split at h
 ·cases h
 rename_i h2
 split at h
 ·cases h
 rename_i h3;exact ⟨h1,h2,h3⟩
def ZCJ:ZE0:=fun p h=>Zzl (ZuS h).2.2
inductive On (p:Pr):Bs->Bs->Prop
 | refl (a:Bs):On p a a
 | step {a c b:Bs} (h:XH p a=some c) (k:On p c b):On p a b
def On.trans {p:Pr} {a b c:Bs} (h:On p a b) (k:On p b c):On p a c:=by
 induction h with
 | refl=>exact k
 | step h _ ih=>exact .step h (ih k)
def NZ (x:Flt):Prop:=∀a e,x=some (a,e)->e≠0
def NZ.none:NZ none:=fun a e h=>by cases h
def NZ.mk {a e:Nat} (h:e≠0):NZ (some (a,e)):=fun _ _ g=>by cases g;exact h
mutual
theorem ZCK (p:Pr) (vs:Vs):∀(e:Ex) (n:Int),NZ (rtE p vs e n)
 | .mk op text num args a,n=>by
  simp only [rtE];split
  ·exact .mk dM
  split
  ·exact .mk dM
  split
  ·exact .mk dM
  exact Zed p vs args _
theorem Zed (p:Pr) (vs:Vs):∀(l:List Ex) (ns:List Int),NZ (ZaO p vs l ns)
 | [],_=>.none
 | e::l,[]=>.none
 | e::l,n::ns=>by
  have h:=ZCK p vs e n;simp only [ZaO];split
  ·simp_all
  exact Zed p vs l ns
end
def ZrL (p:Pr) (vs:Vs) (name:Bs) (args:List Ex) (a:Nat) (hd:Bool):NZ (ZuE p vs name args a hd):=by
 unfold ZuE
 split
 ·exact .mk dM
 split
 ·exact .none
 split
 ·exact .mk dM
 split
 ·exact .mk dM
 exact Zed p vs _ _
mutual
theorem ZCL (p:Pr) (vs:Vs):∀(x:Li),NZ (rtL p vs x)
 | .mk op rel args body a=>by
  simp only [rtL];split
  ·exact ZrL p vs _ _ _ _
  split
  ·have h:=Zed p vs args [Jh p vs args,Jh p vs args];split
   ·simp_all
   split
   ·exact .mk dM
   exact .none
  have h:=Zed p vs args (List.replicate args.length 0);split
  ·simp_all
  exact Zk8 p vs body
theorem Zk8 (p:Pr) (vs:Vs):∀(l:List Li),NZ (Zh0 p vs l)
 | []=>.none
 | x::l=>by
  have h:=ZCL p vs x;simp only [Zh0];split
  ·simp_all
  exact Zk8 p vs l
end
def ZmP (p:Pr) (kn:List (Bs×Bs)):∀l,NZ (VN p kn l)
 | []=>.none
 | (.mk op text _ _ a,k)::l=>by
  simp only [VN];split
  ·exact .mk dM
  exact ZmP p kn l
theorem Zjv (p:Pr) (r:Ru) (vs:Vs):NZ (Zjm p r vs):=by
 unfold Zjm
 split
 ·exact .mk dM
 have h:=ZrL p vs r.head r.args r.at' true;split
 ·simp_all
 have h:=Zk8 p vs r.body;split
 ·simp_all
 exact ZmP p _ _
def ZrM {p:Pr} (h:(Zja (prU p)).2=0) {r:Ru} (hr:r∈p.rules):Zca r.body=true:=by
 have hm:ZkJ (prU p)=true:=by
  cases hm:ZkJ (prU p) with
  | true=>rfl
  | false=>rw [Zja,hm] at h;simp at h
 simp only [prU,ZkJ,Tl,Tn] at hm;have:=hm.2.2.1 r hr;simp only [XD,Tl] at this;rw [Xe];exact this.2.2
def Zee (n:Nat):Zh:=fun args σ K=>match args,σ with
 | [.agg c],⟨[],[],0⟩=>∃pl p,c=(Zax pl p).map .d/\(Zd2 n (prU p)/\n<=16777216/\Zd3 p<=2097152) /\
   ((Zja (prU p)).2≠0->K (.ret (.tuple [.d .nilp,.agg [.d (.int .i64 0),.d (.int .i64 (Zja (prU p)).2)]])) ⟨[],[],0⟩) /\
   ((Zja (prU p)).2=0->∀a e,orF (ZmE p) (Ji p p.rules)=some (a,e)->K (.ret (.tuple [.d .nilp,.agg [.d (.int .i64 (pl a)),.d (.int .i64 e)]])) ⟨[],[],0⟩) /\
   ((Zja (prU p)).2=0->orF (ZmE p) (Ji p p.rules)=none->K (.ret (.tuple [.ptr 5 0,.agg [.d (.int .i64 0),.d (.int .i64 0)]])) ⟨ZER pl p,[],0⟩)
 | _,_=>False
def ZrN (n:Nat):Tbl:=[(41,Zre WZ Zd2 Zja n),(42,Zcz),(43,ZuC),(44,ZcB 2097152),(45,ZcE 2097152)]
def Zzm {n:Nat} (ht:TO w0 nG (ZrN n)):PC w0 nG 30 (Zee n):=by
 refine Yn Zr mixed (tbl:=ZrN n) ht Tryz.func30 rfl kR kR ?_;intro args σ K h
 unfold Zee at h
 split at h
 ·obtain ⟨pl,⟨p1,p2,p3⟩,rfl,⟨hc,hn,hz⟩,h1,h2,h3⟩:=h;have hp:BP ⟨p1,p2,p3⟩:=⟨oM,hc.2.2.2.2.2.2.1⟩
  have jo:=@ZrM ⟨p1,p2,p3⟩;obtain ⟨tx,k,ho⟩:∃s k,Zja (prU ⟨p1,p2,p3⟩)=(s,k):=⟨_,_,rfl⟩
  rw [ho] at h1 h2 h3 jo;simp only at h1 h2 h3 jo
  by_cases hk:k=0
  ·subst hk;have h2:=h2 rfl;have h3:=h3 rfl;have jo:=@jo rfl
   cases hd:ZmE ⟨p1,p2,p3⟩ with
   | none =>
    rw [hd] at h2 h3;simp only [orF] at h2 h3;have ak:OKP ⟨p1,p2,p3⟩:=⟨hp,ZCJ _ hd⟩
    have nz:∀r∈p3,ZbX r<=2097152:=fun r hr=>by have:=Uk (f:=ZbX) hr;simp only [Zd3] at hz;omega
    have ct:(p3.map (Zs pl)).length=p3.length:=Td ..;have fc:p3.length<=2097152:=by have:=ZE ZbX p3;simp only [Zd3] at hz;omega
    cases hX:Ji ⟨p1,p2,p3⟩ p3 with
    | none =>
     have h3:=h3 hX;refine ⟨Zg [(9,⟨[37],[3,6,35,36],fun w σ=>∃j:Nat,w=[.d (.int .i64 j)]/\σ=⟨ZER pl ⟨p1,p2,p3⟩++[.cells 81 [.d (.int .i64 0),.d (.int .i64 0)]],[],0⟩/\j<=p3.length/\Ji ⟨p1,p2,p3⟩ (p3.drop j)=none,
      fun w _=>match w with | [.d (.int _ j)]=>((p3.length:Int) - j).toNat | _=>0⟩)],ZV [],ZC [],8,false,sM,Tb rfl,?_⟩
     conv=>whnf
     refine ⟨pl,prU ⟨p1,p2,p3⟩,rfl,⟨hc,hn⟩,fun s k he=>?_⟩;rw [ho] at he
     cases he
     conv=>whnf
     refine ⟨pl,⟨p1,p2,p3⟩,rfl,hp,wN ?_⟩;refine ⟨pl,⟨p1,p2,p3⟩,rfl,hp,fun x hx=>?_⟩;rw [hd] at hx;subst hx;(conv=>whnf);refine ⟨⟨0,rfl,rfl,oM,hX⟩,?_⟩
     rintro w σ1 ⟨j,rfl,rfl,hj,ha⟩
     conv=>whnf
     refine ZGr (fun hq=>?_) (fun hq=>?_);rotate_left
     ·have hq:¬(j:Int)<((p3.map (Zs pl)).length:Nat):=hq;rw [Tm oM] at ha;have ha:none=none:=ha;(conv=>whnf);exact h3
     have aa:j<p3.length:=by have hq:(j:Int)<((p3.map (Zs pl)).length:Nat):=hq;omega
     have hr:(p3.map (Zs pl))[(j:Int).toNat]?=some (Zs pl p3[j]):=by rw [Tg,Th,Ta aa];rfl
     have i5:=nz _ (TA aa);have wh:=jo (TA aa);rw [Tk aa] at ha;simp only [Ji] at ha;have hμ:((p3.length:Int) - ((j:Int)+1)).toNat<((p3.length:Int) - (j:Int)).toNat:=oM;generalize p3[j]=r at ha hr i5 wh;obtain ⟨r1,r2,r3,r4⟩:=r;(conv=>whnf);refine ⟨_,oM,hr,wN ?_⟩;refine ⟨pl,⟨p1,p2,p3⟩,⟨r1,r2,r3,r4⟩,rfl,rfl,ak,⟨i5,dM⟩,wh,wN ?_⟩;refine ⟨pl,⟨p1,p2,p3⟩,⟨r1,r2,r3,r4⟩,Zcb ⟨p1,p2,p3⟩ ⟨r1,r2,r3,r4⟩,false,rfl,ak,⟨i5,dM⟩,wh,fun x hx=>?_⟩;have tn:=Zjv ⟨p1,p2,p3⟩ ⟨r1,r2,r3,r4⟩ (Zcb ⟨p1,p2,p3⟩ ⟨r1,r2,r3,r4⟩);rw [hx] at ha tn
     cases x with
     | none =>
      conv=>whnf
      exact mq43
     | some ae =>
     obtain ⟨a2,e2⟩:=ae
     cases ha
    | some ae =>
    obtain ⟨a,e⟩:=ae;have h2:=h2 a e hX;refine ⟨Zg [(9,⟨[37],[3,6,35,36],fun w σ=>∃j:Nat,w=[.d (.int .i64 j)]/\σ=⟨ZER pl ⟨p1,p2,p3⟩++[.cells 81 [.d (.int .i64 0),.d (.int .i64 0)]],[],0⟩/\j<=p3.length/\Ji ⟨p1,p2,p3⟩ (p3.drop j)=some (a,e),
     fun w _=>match w with | [.d (.int _ j)]=>((p3.length:Int) - j).toNat | _=>0⟩)],ZV [],ZC [],0,false,sM,Tb rfl,?_⟩
    conv=>whnf
    refine ⟨pl,prU ⟨p1,p2,p3⟩,rfl,⟨hc,hn⟩,fun s k he=>?_⟩;rw [ho] at he
    cases he
    conv=>whnf
    refine ⟨pl,⟨p1,p2,p3⟩,rfl,hp,wN ?_⟩;refine ⟨pl,⟨p1,p2,p3⟩,rfl,hp,fun x hx=>?_⟩;rw [hd] at hx;subst hx;(conv=>whnf);refine ⟨⟨0,rfl,rfl,oM,hX⟩,?_⟩
    rintro w σ1 ⟨j,rfl,rfl,hj,ha⟩
    conv=>whnf
    refine ZGr (fun hq=>?_) (fun hq=>?_);rotate_left
    ·have hq:¬(j:Int)<((p3.map (Zs pl)).length:Nat):=hq;rw [Tm oM] at ha;have ha:none=some (a,e):=ha
     cases ha
    have aa:j<p3.length:=by have hq:(j:Int)<((p3.map (Zs pl)).length:Nat):=hq;omega
    have hr:(p3.map (Zs pl))[(j:Int).toNat]?=some (Zs pl p3[j]):=by rw [Tg,Th,Ta aa];rfl
    have i5:=nz _ (TA aa);have wh:=jo (TA aa);rw [Tk aa] at ha;simp only [Ji] at ha;have hμ:((p3.length:Int) - ((j:Int)+1)).toNat<((p3.length:Int) - (j:Int)).toNat:=oM;generalize p3[j]=r at ha hr i5 wh;obtain ⟨r1,r2,r3,r4⟩:=r;(conv=>whnf);refine ⟨_,oM,hr,wN ?_⟩;refine ⟨pl,⟨p1,p2,p3⟩,⟨r1,r2,r3,r4⟩,rfl,rfl,ak,⟨i5,dM⟩,wh,wN ?_⟩;refine ⟨pl,⟨p1,p2,p3⟩,⟨r1,r2,r3,r4⟩,Zcb ⟨p1,p2,p3⟩ ⟨r1,r2,r3,r4⟩,false,rfl,ak,⟨i5,dM⟩,wh,fun x hx=>?_⟩;have tn:=Zjv ⟨p1,p2,p3⟩ ⟨r1,r2,r3,r4⟩ (Zcb ⟨p1,p2,p3⟩ ⟨r1,r2,r3,r4⟩);rw [hx] at ha tn
    cases x with
    | none =>
     conv=>whnf
     exact mq43
    | some ae =>
    obtain ⟨a2,e2⟩:=ae;have ha:some (a2,e2)=some (a,e):=ha
    cases ha
    conv=>whnf
    refine ZGu (fun _=>wN ?_) (fun g=>absurd oM (tn _ _ rfl))
    assumption
   | some ae =>
   obtain ⟨a,e⟩:=ae;have h2:=h2 a e (by rw [hd];rfl);refine ⟨Zg [],ZV [],ZC [],0,false,sM,Tb rfl,wN ?_⟩;refine ⟨pl,prU ⟨p1,p2,p3⟩,rfl,⟨hc,hn⟩,fun s k he=>?_⟩;rw [ho] at he
   cases he
   conv=>whnf
   refine ⟨pl,⟨p1,p2,p3⟩,rfl,hp,wN ?_⟩;refine ⟨pl,⟨p1,p2,p3⟩,rfl,hp,fun x hx=>?_⟩;rw [hd] at hx;subst hx;(conv=>whnf);refine ZGu (fun _=>wN ?_) (fun g=>absurd oM (Zy3 hd))
   assumption
  have h1:=h1 hk;refine ⟨Zg [],ZV [],ZC [],0,false,sM,Tb rfl,wN ?_⟩;refine ⟨pl,prU ⟨p1,p2,p3⟩,rfl,⟨hc,hn⟩,fun s k he=>?_⟩;rw [ho] at he
  cases he
  conv=>whnf
  refine ZGu (fun _=>wN ?_) (fun g=>absurd oM hk);exact h1
 exact h.elim
def Zhv (n:Nat):Zh:=fun args σ K=>match args,σ with
 | [.agg c],⟨[],[],0⟩=>∃pl p,c=(Zax pl p).map .d/\(Zd2 n (prU p)/\n<=16777216/\Zd3 p<=2097152)/\∀a e,Zy4 pl p=(a,e)->K (.ret (.tuple [.d (.int .i64 a),.d (.int .i64 e)])) ⟨[],[],0⟩
 | _,_=>False
def Zzn (pl:Pl) (p:Pr):Zy4 pl p=if (Zja (prU p)).2≠0 then ((0:Int),((Zja (prU p)).2:Int)) else match orF (ZmE p) (Ji p p.rules) with | some (a,e)=>(pl a,(e:Int)) | none=>(0,0):=by
 unfold Zy4
 split
 ·rfl
 cases ZmE p with
 | some ae=>rfl
 | none=>rfl
def ZuT {n:Nat}:OKw w0 nG [(30,Zee n)] 22 (Zhv n):=by
 refine pwo Tryz.func22 fun args σ K h=>?_
 unfold Zhv at h
 split at h
 ·obtain ⟨pl,p,rfl,hc,h⟩:=h;simp only [Zzn] at h;refine pwv [] 0 false ?_;refine ⟨pl,p,rfl,hc,fun g=>?_,fun g a e g2=>?_,fun g g2=>?_⟩
  ·conv=>whnf
   exact h _ _ (by rw [Ti g])
  ·conv=>whnf
   exact h _ _ (by rw [Te (fun q=>q g),g2])
  conv=>whnf
  exact h _ _ (by rw [Te (fun q=>q g),g2])
 exact h.elim
end Go.PM.Lex
end

section
namespace Go.PM.Lex
section
variable {ty:List Ty} {re:List Re} {a b:List Ru}
end
end Go.PM.Lex
end

section
namespace Go.PM.Lex
mutual
def prE:Ex->List Ex
 | .mk op t n args a=>.mk op t n args a::Ze0 args
def Ze0:List Ex->List Ex
 | []=>[]
 | e::l=>prE e++Ze0 l
end
abbrev Bv:=List (Bs×Bool)
def txX:Ex->Bs | .mk _ t _ _ _=>t
def atX:Ex->Nat | .mk _ _ _ _ a=>a
def addX (m:Bv) (x:Ex):Bv:=if opE x=1 then Z2 (txX x) true m else m
def addXs (m:Bv) (l:List Ex):Bv:=l.foldl addX m
def Zcd (m:Bv) (x:Ex):Bool:=decide (opE x=2) || (decide (opE x=1) && !((lkM (txX x) m).getD false))
def ZeL (m:Bv) (e:Ex):Option Ex:=(prE e).find? (Zcd m)
def Xi (m:Bv) (l:List Ex):Option Ex:=(Ze0 l).find? (Zcd m)
def ZmQ:∀l k:List Ex,Ze0 (l++k)=Ze0 l++Ze0 k
 | [],_=>rfl
 | e::l,k=>by simp only [Sl,Ze0,ZmQ l k,Tp]
def Zjw {l:List Ex} {j:Nat} (h:j<l.length):Ze0 (l.take (j+1))=Ze0 (l.take j)++prE l[j]:=by
 rw [List.take_add_one,Ta h,ZmQ];simp [Ze0]
def Zjx (m:Bv) (l k:List Ex):addXs m (l++k)=addXs (addXs m l) k:=T7 ..
def Zf7 {m:Bv} {l:List Ex} {j:Nat} (h:j<l.length):Xi m (l.drop j)=match ZeL m l[j] with | some x=>some x | none=>Xi m (l.drop (j+1)):=by
 rw [Tk h];simp only [Xi,ZeL,Ze0,List.find?_append]
 cases (prE l[j]).find? (Zcd m) <;> rfl
mutual
def UW (m:Bv):Ex->Bool
 | .mk op t n args a=>if 8<=op then (ZeL m (.mk op t n args a)).isSome else Wq m args
def Wq (m:Bv):List Ex->Bool
 | []=>false
 | e::l=>UW m e || Wq m l
end
def Zox (m:Bv) (l:List Ex):Wq m l=l.any (UW m):=by induction l with | nil=>rfl | cons x l ih=>simp [Wq,ih]
mutual
def ZjQ:Ex->Bv->Bv
 | .mk op t _ args _,m=>if op=1 then Z2 t true m else if op=6\/op=7 then Uo args m else m
def Uo:List Ex->Bv->Bv
 | [],m=>m
 | e::l,m=>Uo l (ZjQ e m)
end
def Zbr {l:List Ex} {j:Nat} (h:j<l.length) (m:Bv):Uo (l.drop j) m=Uo (l.drop (j+1)) (ZjQ l[j] m):=by
 rw [Tk h];rfl
def Z3 (m:Bv) (a b:Ex):Bv:=if (ZeL m b).isNone=true/\UW m a=false then ZjQ a m else m
def ZrO (m:Bv):Li->Bv
 | .mk op _ args _ _=>if op=1 then (if Wq m args=false then Uo args m else m)
  else if op=3 then (match args with | [a,b]=>Z3 (Z3 m a b) b a | _=>m) else m
def Zjy (m:Bv) (l:List Li):Bv:=l.foldl ZrO m
def opL:Li->Nat | .mk op _ _ _ _=>op
def bindsT (l:List Li):Nat->Bv->Option Bv
 | 0,_=>none
 | k+1,m=>if m.length<(Zjy m l).length then bindsT l k (Zjy m l) else some (Zjy m l)
mutual
def Zzo (m:Bv):Ex->Option Ex
 | .mk op _ _ args _=>if 8<=op then Xi m args else Zce m args
def Zce (m:Bv):List Ex->Option Ex
 | []=>none
 | e::l=>match Zzo m e with | some x=>some x | none=>Zce m l
end
mutual
def Zzp (m:Bv):Ex->Option Ex
 | .mk op t n args a=>if op=2 then none else if op=6\/op=7 then Zcf m args else ZeL m (.mk op t n args a)
def Zcf (m:Bv):List Ex->Option Ex
 | []=>none
 | e::l=>match Zzp m e with | some x=>some x | none=>Zcf m l
end
def Zf8 {m:Bv} {l:List Ex} {j:Nat} (h:j<l.length):Zce m (l.drop j)=match Zzo m l[j] with | some x=>some x | none=>Zce m (l.drop (j+1)):=by
 rw [Tk h];rfl
def Zbs {m:Bv} {l:List Ex} {j:Nat} (h:j<l.length):Zcf m (l.drop j)=match Zzp m l[j] with | some x=>some x | none=>Zcf m (l.drop (j+1)):=by
 rw [Tk h];rfl
def unB (X:List Bs) (m:Bv):Nat:=X.countP fun t=>(lkM t m).isNone
def Inc (X:List Bs) (m k:Bv):Prop:=(∀t,(lkM t k).isNone=true->(lkM t m).isNone=true)/\m.length<=k.length/\unB X k+k.length<=unB X m+m.length
def Inc.refl (X:List Bs) (m:Bv):Inc X m m:=⟨fun _ h=>h,Tt _,Tt _⟩
def Inc.trans {X:List Bs} {m k l:Bv} (h:Inc X m k) (g:Inc X k l):Inc X m l:=⟨fun t ht=>h.1 t (g.1 t ht),TP h.2.1 g.2.1,TP g.2.2 h.2.2⟩
def Zwl {X:List Bs} {m k:Bv} (h:∀t,(lkM t k).isNone=true->(lkM t m).isNone=true):unB X k<=unB X m:=List.countP_mono_left fun t _ g=>h t g
def Zwm {m k:Bv} (h:∀t,(lkM t k).isNone=true->(lkM t m).isNone=true) {t:Bs} (h2:(lkM t m).isNone=true) (h3:(lkM t k).isNone=false):∀{X:List Bs},t∈X->unB X k<unB X m
 | y::Y,ht=>by
  have le:=Zwl (X:=Y) h;unfold unB at le |-
  simp only [List.countP_cons];rcases Tr.1 ht with rfl | ht
  ·rw [h2,h3];simp;omega
  have ih:=Zwm h h2 h3 ht;unfold unB at ih
  have:(if (lkM y k).isNone=true then 1 else 0)<=(if (lkM y m).isNone=true then 1 else 0):=by
   split
   ·rename_i g;rw [h y g];simp
   exact T6 _
  omega
def Zzq {X:List Bs} {t:Bs} (ht:t∈X) (m:Bv):Inc X m (Z2 t true m):=by
 have h1:∀(m:Bv) s,lkM s (Z2 t true m)=if s=t then some true else lkM s m:=fun m s=>by
  exact mq66
 have h2:∀m:Bv,(Z2 t true m).length=if (lkM t m).isNone=true then m.length+1 else m.length:=fun m=>by
  exact mq88
 have h0:∀s,(lkM s (Z2 t true m)).isNone=true->(lkM s m).isNone=true:=fun s hs=>by
  rw [h1] at hs;split at hs
  ·cases hs
  exact hs
 refine ⟨h0,?_,?_⟩
 ·rw [h2];split <;> omega
 rw [h2];split
 ·rename_i h
  have:=Zwm h0 h (by rw [h1,Ti rfl];rfl) ht;omega
 have:=Zwl (X:=X) h0;omega
mutual
def Zhw {X:List Bs}:∀(e:Ex) (m:Bv),(∀t∈nvE e,t∈X)->Inc X m (ZjQ e m)
 | .mk op t n args a,m,h=>by
  simp only [nvE] at h;simp only [ZjQ]
  by_cases h1:op=1
  ·rw [Ti h1] at h |-;exact Zzq (h t sM) m
  rw [Te h1] at h |-;split
  ·exact ZaC args m h
  exact .refl X m
def ZaC {X:List Bs}:∀(l:List Ex) (m:Bv),(∀t∈Zhr l,t∈X)->Inc X m (Uo l m)
 | [],m,_=>.refl X m
 | e::l,m,h=>by
  simp only [Zhr,Tw] at h;exact (Zhw e m fun t g=>h t (.inl g)).trans (ZaC l _ fun t g=>h t (.inr g))
end
def UN {X:List Bs} {a b:Ex} (m:Bv) (h:∀t∈nvE a,t∈X):Inc X m (Z3 m a b):=by
 unfold Z3
 split
 ·exact Zhw a m h
 exact .refl X m
def ZrP {X:List Bs}:∀(x:Li) (m:Bv),(∀t∈nvL x,t∈X)->Inc X m (ZrO m x)
 | .mk op rel args body a,m,h=>by
  simp only [nvL,Tw] at h;simp only [ZrO];split
  ·split
   ·exact ZaC args m fun t g=>h t (.inl g)
   exact .refl X m
  split
  ·split
   ·rename_i a b
    simp only [Zhr,Tw] at h;exact (UN m fun t g=>h t (.inl (.inl g))).trans (UN _ fun t g=>h t (.inl (.inr (.inl g))))
   exact .refl X m
  exact .refl X m
def Zf9 {X:List Bs}:∀(l:List Li) (m:Bv),(∀t∈Vb l,t∈X)->Inc X m (Zjy m l)
 | [],m,_=>.refl X m
 | x::l,m,h=>by
  simp only [Vb,Tw] at h;exact (ZrP x m fun t g=>h t (.inl g)).trans (Zf9 l _ fun t g=>h t (.inr g))
def ZuU {X:List Bs} {m k:Bv} (h:Inc X m k) (hl:m.length<k.length):unB X k<unB X m:=by
 have:=h.2.2;omega
def Zef {l:List Li} {X:List Bs} (hX:∀t∈Vb l,t∈X):∀(k:Nat) (m:Bv),unB X m<k->∃r,bindsT l k m=some r
 | 0,m,h=>oM
 | k+1,m,h=>by
  simp only [bindsT];split
  ·rename_i g
   have:=ZuU (Zf9 l m hX) g;exact Zef hX k _ oM
  exact ⟨_,rfl⟩
def bindsF (l:List Li) (m:Bv):Bv:=(bindsT l ((Vb l).length+1) m).getD []
def ZrQ (l:List Li) (m:Bv):bindsT l ((Vb l).length+1) m=some (bindsF l m):=by
 obtain ⟨r,h⟩:=Zef (l:=l) (X:=Vb l) (fun t h=>h) ((Vb l).length+1) m (by
  have:unB (Vb l) m<=(Vb l).length:=List.countP_le_length;omega)
 rw [bindsF,h];rfl
def ZE2 (m:Bv):Li->Bv
 | .mk op _ args _ _=>addXs m (Ze0 (if op<9 then args else args.take 1))
def outLs (m:Bv) (l:List Li):Bv:=l.foldl ZE2 m
mutual
def ZrR:Li->Bv->Bv
 | .mk _ _ args body _,m=>Zk9 body (outLs (addXs m (Ze0 (args.drop 1))) body)
def Zk9:List Li->Bv->Bv
 | [],m=>m
 | x::l,m=>Zk9 l (if 9<=opL x then ZrR x m else m)
end
def Zcg (o:Bv) (t:Bs):Bool:=(lkM t o).getD false
def JS (o m:Bv):Bv:=m.filter fun x=>Zcg o x.1
def VO (x:Li) (o:Bv):Bv:=JS o (ZrR x [])
def ZaD (s m:Bv):Bool:=s.all fun x=>Zcg m x.1
def Zh1 (o m:Bv):Li->Bv
 | .mk op rel args body a=>if op=1 then (if Wq m args=false then Uo args m else m)
  else if op=3 then (match args with | [a,b]=>Z3 (Z3 m a b) b a | _=>m)
  else if (op=9/\args.length=1)\/(9<op/\op<=12/\args.length=2) then (match args with
   | e::_=>if ZaD (VO (.mk op rel args body a) o) m=true/\UW m e=false then ZjQ e m else m
   | []=>m)
  else m
def Yh (o m:Bv) (l:List Li):Bv:=l.foldl (Zh1 o) m
def Zch (o:Bv) (l:List Li):Nat->Bv->Option Bv
 | 0,_=>none
 | k+1,m=>if m.length<(Yh o m l).length then Zch o l k (Yh o m l) else some (Yh o m l)
def UX (o:Bv) (l:List Li) (m:Bv):Bv:=(Zch o l ((Vb l).length+1) m).getD []
mutual
def Zoy:Li->Bv->Bv->Option Ex
 | .mk op rel args body a,m,o=>if op=1 then Zce m args else if op=2 then Zcf m args else if op<9 then Xi m args
  else match Xi m (args.take 1) with
   | some x=>some x
   | none=>match Xi (UX (outLs (VO (.mk op rel args body a) o) body) body (JS m (VO (.mk op rel args body a) o))) (args.drop 1) with
    | some x=>some x
    | none=>VP body (UX (outLs (VO (.mk op rel args body a) o) body) body (JS m (VO (.mk op rel args body a) o))) (outLs (VO (.mk op rel args body a) o) body)
def VP:List Li->Bv->Bv->Option Ex
 | [],_,_=>none
 | x::l,m,o=>match Zoy x m o with | some y=>some y | none=>VP l m o
end
def Zoz {m o:Bv} {l:List Li} {j:Nat} (h:j<l.length):VP (l.drop j) m o=match Zoy l[j] m o with | some x=>some x | none=>VP (l.drop (j+1)) m o:=by
 rw [Tk h];rfl
def ZuV (r:Ru):Bv:=outLs (addXs [] (Ze0 r.args)) r.body
def ZDN (r:Ru):Option Ex:=match Xi (UX (ZuV r) r.body []) r.args with | some x=>some x | none=>VP r.body (UX (ZuV r) r.body []) (ZuV r)
def ZoA:List Ru->Option Ex
 | []=>none
 | r::l=>match ZDN r with | some x=>some x | none=>ZoA l
def Zzr (pl:Pl) (p:Pr):Int×Int:=if (Zy4 pl p).2≠0 then Zy4 pl p else match ZoA p.rules with | some x=>(pl (atX x),190) | none=>(0,0)
def ZoB {m:Bv} {l:List Li} {j:Nat} (h:j<l.length):Zk9 (l.drop j) m=Zk9 (l.drop (j+1)) (if 9<=opL l[j] then ZrR l[j] m else m):=by
 rw [Tk h];rfl
def ZoC {l:List Li} {j:Nat} (h:j<l.length) (m:Bv):outLs m (l.take (j+1))=ZE2 (outLs m (l.take j)) l[j]:=by
 unfold outLs
 rw [List.take_add_one,Ta h,T7];rfl
def ZoD {l:List Li} {j:Nat} (h:j<l.length) (o m:Bv):Yh o m (l.take (j+1))=Zh1 o (Yh o m (l.take j)) l[j]:=by
 unfold Yh
 rw [List.take_add_one,Ta h,T7];rfl
def ZuW {X:List Bs} (o:Bv):∀(x:Li) (m:Bv),(∀t∈nvL x,t∈X)->Inc X m (Zh1 o m x)
 | .mk op rel args body a,m,h=>by
  have hx:∀t∈Zhr args,t∈X:=fun t g=>h t (by simp only [nvL,Tw];exact .inl g)
  simp only [Zh1];split
  ·split
   ·exact ZaC args m hx
   exact .refl X m
  split
  ·split
   ·rename_i e f
    simp only [Zhr,Tw,TU] at hx;exact (UN m fun t g=>hx t (.inl g)).trans (UN _ fun t g=>hx t (.inr g))
   exact .refl X m
  split
  ·split
   ·split
    ·simp only [Zhr,Tw] at hx;exact Zhw _ m fun t g=>hx t (.inl g)
    exact .refl X m
   exact .refl X m
  exact .refl X m
def Zeg {X:List Bs} (o:Bv):∀(l:List Li) (m:Bv),(∀t∈Vb l,t∈X)->Inc X m (Yh o m l)
 | [],m,_=>.refl X m
 | x::l,m,h=>by
  simp only [Vb,Tw] at h;exact (ZuW o x m fun t g=>h t (.inl g)).trans (Zeg o l _ fun t g=>h t (.inr g))
def Zga {o:Bv} {l:List Li} {X:List Bs} (hX:∀t∈Vb l,t∈X):∀(k:Nat) (m:Bv),unB X m<k->∃r,Zch o l k m=some r
 | 0,m,h=>oM
 | k+1,m,h=>by
  have hi:=Zeg o l m hX;simp only [Zch];split
  ·exact Zga hX k _ (by have:=hi.2.2;omega)
  exact ⟨_,rfl⟩
def Zhx (o:Bv) (l:List Li) (m:Bv):Zch o l ((Vb l).length+1) m=some (UX o l m):=by
 obtain ⟨r,h⟩:=Zga (o:=o) (l:=l) (X:=Vb l) (fun t h=>h) ((Vb l).length+1) m (by
  have:unB (Vb l) m<=(Vb l).length:=List.countP_le_length;omega)
 rw [UX,h];rfl
end Go.PM.Lex
end

section
namespace Go.PM.Lex
def EqS (m k:Bv):Prop:=(∀t,lkM t m=lkM t k)/\m.length=k.length
def EqS.refl (m:Bv):EqS m m:=⟨fun _=>rfl,rfl⟩
def ZrS (t:Bs) (m:Bv) (s:Bs):lkM s (Z2 t true m)=if s=t then some true else lkM s m:=by
 exact mq66
def ZmR (t:Bs) (m:Bv):(Z2 t true m).length=if (lkM t m).isNone=true then m.length+1 else m.length:=by
 exact mq88
variable {m k o p:Bv}
def EqS.put (h:EqS m k) (t:Bs):EqS (Z2 t true m) (Z2 t true k):=⟨fun s=>by rw [ZrS,ZrS,h.1],by rw [ZmR,ZmR,h.1,h.2]⟩
def Zla {t:Bs} {b:Bool}:∀{m:Bv},(m.map (·.1)).Nodup->(lkM t m=some b↔(t,b)∈m)
 | [],_=>by simp [lkM]
 | (y,v)::m,hn=>by
  simp only [Tx,List.nodup_cons] at hn;have ih:=Zla (t:=t) (b:=b) hn.2;simp only [lkM]
  by_cases h:t=y
  ·subst h;rw [TY rfl];simp only [Tr,Prod.mk.injEq,true_and];exact ⟨fun g=>.inl (Option.some.inj g).symm,fun g=>g.elim (fun g=>by rw [g]) fun g=>absurd (List.mem_map_of_mem (f:=(·.1)) g) hn.1⟩
  rw [decide_eq_false h];simp only [Tr,Prod.mk.injEq,h,false_and,false_or];exact ih
def EqS.perm (h:m.Perm k) (hn:(k.map (·.1)).Nodup):EqS m k:=by
 have hm:(m.map (·.1)).Nodup:=(h.map _).nodup_iff.2 hn
 refine ⟨fun t=>Option.ext fun b=>?_,h.length_eq⟩;rw [Zla hm,Zla hn,h.mem_iff]
def EqS.has (h:EqS m k):Zcg m=Zcg k:=funext fun t=>by unfold Zcg;rw [h.1]
def EqS.free (h:EqS m k):Zcd m=Zcd k:=funext fun x=>by unfold Zcd;rw [h.1]
def EqS.ask (h:EqS m k):ZeL m=ZeL k:=funext fun e=>by unfold ZeL;rw [h.free]
def EqS.asks (h:EqS m k):Xi m=Xi k:=funext fun e=>by unfold Xi;rw [h.free]
def EqS.addX (h:EqS m k) (x:Ex):EqS (addX m x) (addX k x):=by
 unfold Lex.addX
 split
 ·exact h.put _
 exact h
def EqS.addXs (h:EqS m k):∀l,EqS (addXs m l) (addXs k l):=fun l=>by
 induction l generalizing m k with
 | nil=>exact h
 | cons x l ih=>exact ih (h.addX x)
def EqS.outLs (h:EqS m k):∀l,EqS (outLs m l) (outLs k l):=fun l=>by
 induction l generalizing m k with
 | nil=>exact h
 | cons x l ih=>exact ih (by obtain ⟨op,rel,args,body,a⟩:=x;exact h.addXs _)
mutual
def EqS.opn (h:EqS m k):∀e,UW m e=UW k e
 | .mk op t n args a=>by simp only [UW,h.ask,h.opns args]
def EqS.opns (h:EqS m k):∀l,Wq m l=Wq k l
 | []=>rfl
 | e::l=>by simp only [Wq,h.opn e,h.opns l]
end
mutual
def EqS.pat:∀(e:Ex) {m k:Bv},EqS m k->EqS (ZjQ e m) (ZjQ e k)
 | .mk op t n args a,m,k,h=>by
  simp only [ZjQ];split
  ·exact h.put _
  split
  ·exact EqS.pats args h
  exact h
def EqS.pats:∀(l:List Ex) {m k:Bv},EqS m k->EqS (Uo l m) (Uo l k)
 | [],_,_,h=>h
 | e::l,_,_,h=>EqS.pats l (EqS.pat e h)
end
def EqS.side (h:EqS m k) (a b:Ex):EqS (Z3 m a b) (Z3 k a b):=by
 unfold Z3
 rw [h.ask,h.opn];split
 ·exact EqS.pat _ h
 exact h
mutual
def EqS.fn (h:EqS m k):∀e,Zzo m e=Zzo k e
 | .mk op t n args a=>by simp only [Zzo,h.asks,h.fns args]
def EqS.fns (h:EqS m k):∀l,Zce m l=Zce k l
 | []=>rfl
 | e::l=>by simp only [Zce,h.fn e,h.fns l]
end
mutual
def EqS.ng (h:EqS m k):∀e,Zzp m e=Zzp k e
 | .mk op t n args a=>by simp only [Zzp,h.ask,h.ngs args]
def EqS.ngs (h:EqS m k):∀l,Zcf m l=Zcf k l
 | []=>rfl
 | e::l=>by simp only [Zcf,h.ng e,h.ngs l]
end
def EqS.keep (h:EqS m k):JS m=JS k:=funext fun s=>by unfold JS;rw [h.has]
def EqS.shar (h:EqS m k) (x:Li):VO x m=VO x k:=by unfold VO;rw [h.keep]
def ZrT {s r:Bv} (h:s.Perm r) (m:Bv):ZaD s m=ZaD r m:=by
 unfold ZaD
 rw [Bool.eq_iff_iff,Tn,Tn];exact ⟨fun g x hx=>g x (h.mem_iff.2 hx),fun g x hx=>g x (h.mem_iff.1 hx)⟩
def EqS.wth (h:EqS m k) (s:Bv):ZaD s m=ZaD s k:=by unfold ZaD;rw [h.has]
def EqS.bnd (ho:EqS o p) (x:Li) (h:EqS m k):EqS (Zh1 o m x) (Zh1 p k x):=by
 obtain ⟨op,rel,args,body,a⟩:=x;simp only [Zh1,h.opns,ho.shar,h.wth,h.opn]
 repeat' split
 all_goals first | exact h | exact EqS.pats _ h | exact EqS.pat _ h | exact (h.side ..).side ..
def ZGI (ho:EqS o p):∀(l:List Li) {m k:Bv},EqS m k->EqS (Yh o m l) (Yh p k l)
 | [],_,_,h=>h
 | x::l,_,_,h=>ZGI ho l (ho.bnd x h)
def ZGJ (ho:EqS o p) (l:List Li):∀(n:Nat) {m k r:Bv},EqS m k->Zch o l n m=some r->∃s,Zch p l n k=some s/\EqS r s
 | 0,_,_,_,_,h=>by cases h
 | n+1,m,k,r,h,g=>by
  have hb:=ZGI ho l h;simp only [Zch] at g |-;rw [<- hb.2,<- h.2];split at g <;> rename_i hc
  ·rw [Ti hc];exact ZGJ ho l n hb g
  rw [Te hc,<- Option.some.inj g];exact ⟨_,rfl,hb⟩
def EqS.bndF (ho:EqS o p) (l:List Li) (h:EqS m k):EqS (UX o l m) (UX p l k):=by
 obtain ⟨s,h1,h2⟩:=ZGJ ho l _ h (Zhx o l m);rw [Zhx] at h1
 cases h1
 exact h2
def EqS.askA (h:EqS m k) (ho:EqS o p):∀x,Zoy x m o=Zoy x k p
 | .mk op rel args body a=>by simp only [Zoy,h.fns,h.ngs,h.asks,ho.shar,h.keep]
def EqS.askAs (h:EqS m k) (ho:EqS o p):∀l,VP l m o=VP l k p
 | []=>rfl
 | x::l=>by simp only [VP,h.askA ho x,h.askAs ho l]
def okS (m:Bv):Bool:=decide (m.map (·.1)).Nodup && (decide (m.length<=1000000) && m.all fun x=>decide (x.1.length<=1000000))
mutual
def ZCM:Li->Bool
 | .mk op rel args body a=>decide (op<9) || (!args.isEmpty && (okS (ZrR (.mk op rel args body a) []) && Zbt body))
def Zbt:List Li->Bool
 | []=>true
 | x::l=>ZCM x && Zbt l
end
def ZrU (h:okS m=true):(m.map (·.1)).Nodup/\m.length<=1000000/\∀x∈m.map (·.1),x.length<=1000000:=by
 simp only [okS,Tl,TH,Tn] at h;exact ⟨h.1,h.2.1,fun x hx=>by obtain ⟨y,hy,rfl⟩:=Sr.1 hx;exact h.2.2 y hy⟩
def Zhy (h:(m.map (·.1)).Nodup/\m.length<=1000000/\∀x∈m.map (·.1),x.length<=1000000):((JS o m).map (·.1)).Nodup/\(JS o m).length<=1000000/\∀x∈(JS o m).map (·.1),x.length<=1000000 :=
 have hs:(JS o m).Sublist m:=List.filter_sublist
 ⟨(hs.map _).nodup h.1,TP hs.length_le h.2.1,fun x hx=>h.2.2 x ((hs.map _).subset hx)⟩
def Zlb (h:(m.map (·.1)).Nodup/\m.length<=1000000/\∀x∈m.map (·.1),x.length<=1000000) (g:k.Perm m):(k.map (·.1)).Nodup/\k.length<=1000000/\∀x∈k.map (·.1),x.length<=1000000 :=
 have hs:=g.map (·.1)
 ⟨hs.nodup_iff.2 h.1,by rw [g.length_eq];exact h.2.1,fun x hx=>h.2.2 x (hs.mem_iff.1 hx)⟩
end Go.PM.Lex
end

section
namespace Go.PM.Lex
mutual
def atL:Li->Bool->List (Bs×Bool)
 | .mk op rel _ body _,i=>(if op=1\/op=2 then [(rel,i || decide (op=2))] else [])++VI body true
def VI:List Li->Bool->List (Bs×Bool)
 | [],_=>[]
 | x::l,i=>atL x i++VI l i
end
def ZcF (i:Bool):∀l k:List Li,VI (l++k) i=VI l i++VI k i
 | [],_=>rfl
 | e::l,k=>by simp only [Sl,VI,ZcF i l k,Tp]
def ZaE {l:List Li} {j:Nat} (h:j<l.length) (i:Bool):VI (l.take (j+1)) i=VI (l.take j) i++atL l[j] i:=by
 rw [List.take_add_one,Ta h,ZcF];simp [VI]
abbrev Tri:=Bv×Bv×Bv
abbrev abcN:List Bs:=[[97],[98],[99]]
def ZAS (t:Tri) (x:Bs):Bv:=if x=[97] then t.1 else if x=[98] then t.2.1 else t.2.2
def ZuX (h n:Bs) (t:Tri):Tri:=if h=[97] then (Z2 n true t.1,t.2) else if h=[98] then (t.1,Z2 n true t.2.1,t.2.2) else (t.1,t.2.1,Z2 n true t.2.2)
def JT (h:Bs) (l:List (Bs×Bool)) (t:Tri):Tri:=l.foldl (fun t x=>ZuX h x.1 t) t
def ZoE (l:List Ru):Tri:=l.foldl (fun t r=>JT r.head (VI r.body false) t) ([],[],[])
def Uq (D:Tri) (x:Bs):List Bs:=(ZAS D x).map (·.1)
def ZaR (S:List Bs) (x:Bs):List Bs:=if x∈S then S else S++[x]
def ZoF (D:Tri) (S:List Bs):List Bs:=(S.flatMap (Uq D)).foldl ZaR S
def rS (D:Tri) (x:Bs):List Bs:=ZoF D (ZoF D (ZoF D [x]))
def tog (D:Tri) (a b:Bs):Bool:=(rS D a).contains b && (rS D b).contains a
def okD (D:Tri):Bool:=abcN.all fun x=>(rS D x).all (fun y=>abcN.contains y && (Uq D y).all fun z=>(rS D x).contains z) && ((ZAS D x).all fun y=>abcN.contains y.1) && (decide (Uq D x).Nodup && decide ((ZAS D x).length<=3))
def ZrV (l:List Ru):Bool:=l.all fun r=>abcN.contains r.head && (VI r.body false).all fun x=>abcN.contains x.1
def Cl (D:Tri) (C:Bs->Prop):Prop:=∀x,C x->∀z∈Uq D x,C z
def mem_addN {S:List Bs} {x y:Bs}:y∈ZaR S x↔y∈S\/y=x:=by
 unfold ZaR;split
 ·exact ⟨.inl,fun h=>h.elim id fun h=>h ▸ ‹_›⟩
 simp
def mem_adds {l:List Bs}:∀{S:List Bs} {y:Bs},y∈l.foldl ZaR S↔y∈S\/y∈l:=by
 induction l with
 | nil=>simp
 | cons x l ih=>intro S y;rw [SI,ih,mem_addN];simp [or_assoc]
def mem_step {D:Tri} {S:List Bs} {y:Bs}:y∈ZoF D S↔y∈S\/∃x∈S,y∈Uq D x:=by
 unfold ZoF;rw [mem_adds,List.mem_flatMap]
def ZrW (D:Tri) (x:Bs):x∈rS D x:=mem_step.2 (.inl (mem_step.2 (.inl (mem_step.2 (.inl sM)))))
def Zlc {D:Tri} {C:Bs->Prop} (hC:Cl D C) {S:List Bs} (h:∀y∈S,C y):∀y∈ZoF D S,C y:=fun y hy=>by
 rcases mem_step.1 hy with g | ⟨x,g,q⟩
 ·exact h y g
 exact hC x (h x g) y q
def ZCN {D:Tri} {C:Bs->Prop} (hC:Cl D C) {x:Bs} (hx:C x):∀y∈rS D x,C y:=Zlc hC (Zlc hC (Zlc hC (fun y hy=>by rw [Sy.1 hy];exact hx)))
def ZmS {D:Tri} (h:okD D=true) {x:Bs} (hx:x∈abcN):((∀y∈rS D x,y∈abcN/\∀z∈Uq D y,z∈rS D x)/\∀p∈ZAS D x,p.1∈abcN)/\(Uq D x).Nodup/\(ZAS D x).length<=3:=by
 have h:=Tn.1 h x hx;simpa only [Tl,Tn,List.contains_iff_mem,TH] using h
def ZCO {D:Tri} (h:okD D=true) {x:Bs} (hx:x∈abcN):Cl D (·∈rS D x):=fun y hy=>((ZmS h hx).1.1 y hy).2
def Zwn {D:Tri} (h:okD D=true) {x:Bs} (hx:x∈abcN) {y:Bs} (hy:y∈rS D x):y∈abcN:=((ZmS h hx).1.1 y hy).1
def ZuY {D:Tri} (h:okD D=true) {x:Bs} (hx:x∈abcN) {y:Bs} (hy:y∈Uq D x):y∈abcN:=by
 obtain ⟨p,hp,rfl⟩:=Sr.1 hy;exact (ZmS h hx).1.2 p hp
def ZrX {x:Bs} (h:x∈abcN):x.length<=1073741824:=by
 simp only [Tr,TT,SC] at h;rcases h with rfl | rfl | rfl <;> decide
def Zzs {S:List Bs} (hn:S.Nodup) (h:∀z∈S,z∈abcN):S.length<=3:=List.Nodup.length_le_of_subset hn h
def Y2 (S:List Bs):Bv:=S.map fun x=>(x,true)
def Zeh (S:List Bs):(Y2 S).map (·.1)=S:=by simp [Y2,Function.comp_def]
def ZaF (S:List Bs) (y:Bs):Zcg (Y2 S) y=S.contains y:=by
 unfold Zcg Y2
 induction S with
 | nil=>rfl
 | cons x S ih =>
 simp only [Tx,lkM,SH]
 by_cases h:y=x
 ·subst h;simp
 rw [decide_eq_false h,ih,beq_false_of_ne h];rfl
def ZmT {S:List Bs} {x:Bs}:Z2 x true (Y2 S)=Y2 (ZaR S x):=by
 unfold ZaR Y2
 induction S with
 | nil=>rfl
 | cons y S ih =>
 simp only [Tx,Z2]
 by_cases h:x=y
 ·subst h;simp
 rw [decide_eq_false h];simp only [ih,Tr,h,false_or];split <;> simp
structure Vis (D:Tri) (S0:List Bs) (x:Bs) (S1:List Bs):Prop where
 nd:S1.Nodup
 sub:∀y∈S0,y∈S1
 inn:x∈S1
 cl:∀y∈S1,y∉S0->∀z∈Uq D y,z∈S1
 up:∀C:Bs->Prop,Cl D C->(∀y∈S0,C y)->C x->∀y∈S1,C y
def Vis.seen {D:Tri} {S0:List Bs} {x:Bs} (hn:S0.Nodup) (h:x∈S0):Vis D S0 x S0:=⟨hn,fun _ h=>h,h,fun y h1 h2=>absurd h1 h2,fun C _ h _=>h⟩
structure Mid (D:Tri) (S0:List Bs) (x:Bs) (l:List Bs) (S1:List Bs):Prop where
 nd:S1.Nodup
 sub:∀y∈S0,y∈S1
 inn:x∈S1
 all:∀y∈l,y∈S1
 cl:∀y∈S1,y∉S0->y≠x->∀z∈Uq D y,z∈S1
 up:∀C:Bs->Prop,Cl D C->(∀y∈S0,C y)->C x->∀y∈S1,C y
def Mid.start {D:Tri} {S0:List Bs} {x:Bs} (hn:S0.Nodup) (h:x∉S0):Mid D S0 x [] (ZaR S0 x) where
 nd:=by unfold ZaR;rw [Te h];exact List.nodup_append.2 ⟨hn,sM,fun a ha b hb=>by rw [Sy.1 hb];exact fun e=>h (e ▸ ha)⟩
 sub:=fun y hy=>mem_addN.2 (.inl hy)
 inn:=mem_addN.2 (.inr rfl)
 all:=fun y hy=>by cases hy
 cl:=fun y hy h1 h2=>((mem_addN.1 hy).elim h1 h2).elim
 up:=fun C _ h hx y hy=>(mem_addN.1 hy).elim (h y) fun e=>e ▸ hx
def Mid.step {D:Tri} {S0 S1 S2 l:List Bs} {x z:Bs} (h:Mid D S0 x l S1) (hz:z∈Uq D x) (v:Vis D S1 z S2):Mid D S0 x (l++[z]) S2 where
 nd:=v.nd
 sub:=fun y hy=>v.sub y (h.sub y hy)
 inn:=v.sub x h.inn
 all:=fun y hy=>(Tw.1 hy).elim (fun g=>v.sub y (h.all y g)) fun g=>by rw [Sy.1 g];exact v.inn
 cl:=fun y hy h1 h2 w hw=>if g:y∈S1 then v.sub w (h.cl y g h1 h2 w hw) else v.cl y hy g w hw
 up:=fun C hC h0 hx=>v.up C hC (h.up C hC h0 hx) (hC x hx z hz)
def Mid.done {D:Tri} {S0 S1 l:List Bs} {x:Bs} (h:Mid D S0 x l S1) (hl:∀z∈Uq D x,z∈l):Vis D S0 x S1 where
 nd:=h.nd
 sub:=h.sub
 inn:=h.inn
 cl:=fun y hy h1 z hz=>if g:y=x then h.all z (hl z (g ▸ hz)) else h.cl y hy h1 g z hz
 up:=h.up
def Vis.mem {D:Tri} {x:Bs} {S:List Bs} (h:Vis D [] x S) (hd:okD D=true) (hx:x∈abcN) (y:Bs):y∈S↔y∈rS D x :=
 ⟨h.up (·∈rS D x) (ZCO hd hx) (fun y hy=>by cases hy) (ZrW D x) y,ZCN (C:=(·∈S)) (fun y hy z hz=>h.cl y hy sM z hz) h.inn y⟩
def ZDO (D:Tri) (r:Ru):Bool:=(VI r.body false).any fun x=>x.2 && tog D x.1 r.head
def Wr (D:Tri) (told:List Bs) (d:Bs):Bool:=!told.contains d && (rS D d).all fun n=>told.contains n || tog D n d
def Zbu (D:Tri):Nat->List Bs->List (List Bs)->Option (List (List Bs))
 | 0,_,_=>none
 | k+1,told,out=>match abcN.find? (Wr D told) with
  | none=>some out
  | some d=>Zbu D k ((abcN.filter (tog D · d)).foldl ZaR told) (out++[abcN.filter (tog D · d)])
def ovE (m:Bv) (e:Ex):Bv:=if opE e=1 then Z2 (txX e) true m else m
def Zhz (m:Bv) (e:Ex):Bool:=if opE e=3\/opE e=4\/opE e=5 then false else !decide (opE e=1) || !Zcg m (txX e)
def Zci:Li->List Ex | .mk _ _ args _ _=>args
def ZGd:Li->Bs | .mk _ rel _ _ _=>rel
def Zs3 (D:Tri) (hd:Bs) (s:Bv×Bool) (x:Li):Bv×Bool:=if opL x=1 then ((Zci x).foldl ovE s.1,s.2 || tog D (ZGd x) hd) else s
def endR (D:Tri) (r:Ru):Bool:=!((r.body.foldl (Zs3 D r.head) ([],false)).2 && r.args.any (Zhz (r.body.foldl (Zs3 D r.head) ([],false)).1))
def Zzt (r:Ru):Bool:=r.body.all fun x=>(Zci x).all fun e=>!decide (opE e=6) && !decide (opE e=7)
end Go.PM.Lex
end

section
namespace Go.PM
def low0 (n:Nat):PV->Bool
 | .d _=>true
 | .ptr b _=>Nat.ble (b+1) n
 | .mp b=>Nat.ble (b+1) n
 | .nilm=>true
 | .raw _=>true
 | _=>false
def ZAT (n:Nat):List PV->Bool
 | []=>true
 | v::l=>low0 n v && ZAT n l
def lowV (n:Nat):PV->Bool
 | .agg cs=>ZAT n cs
 | v=>low0 n v
def ZoG (n:Nat):List PV->Bool
 | []=>true
 | v::l=>lowV n v && ZoG n l
def lowB (n:Nat):Box->Bool
 | .cells _ cs=>ZAT n cs
 | .dmap _=>true
 | .loop _ _ _=>true
 | _=>false
def Zei (n:Nat):List Box->Bool
 | []=>true
 | v::l=>lowB n v && Zei n l
def Zb4:List Box->Bool
 | []=>true
 | .cells _ _::l=>Zb4 l
 | .dmap _::l=>Zb4 l
 | .loop _ _ _::l=>Zb4 l
 | .iter _ _::l=>Zb4 l
 | _::_=>false
theorem ZhA {n:Nat}:∀{l:List PV} {i:Nat} {x:PV},ZAT n l=true->l[i]?=some x->low0 n x=true
 | v::l,0,x,h,hx=>by simp [ZAT] at h;simp_all
 | v::l,i+1,x,h,hx=>by simp [ZAT] at h;exact ZhA h.2 (by trivial)
theorem Zjz {n:Nat}:∀{l:List PV} {i:Nat} {x:PV},ZoG n l=true->l[i]?=some x->lowV n x=true
 | v::l,0,x,h,hx=>by simp [ZoG] at h;simp_all
 | v::l,i+1,x,h,hx=>by simp [ZoG] at h;exact Zjz h.2 (by trivial)
theorem Zej {n:Nat}:∀{l:List Box} {i:Nat} {x:Box},Zei n l=true->l[i]?=some x->lowB n x=true
 | v::l,0,x,h,hx=>by simp [Zei] at h;simp_all
 | v::l,i+1,x,h,hx=>by simp [Zei] at h;exact Zej h.2 (by trivial)
def Zgb:∀{l:List Box} {i:Nat} {x:Box},Zb4 l=true->l[i]?=some x->Zb4 [x]=true
 | v::l,0,x,h,hx=>by simp at hx;subst hx;cases v <;> first | rfl | assumption
 | v::l,i+1,x,h,hx=>by
  refine Zgb (l:=l) ?_ (by trivial)
  cases v <;> first | exact h | trivial
section
variable {G:GE} {e e1 e2:Env} {σ σ1 σ2:St} {w w2:World} {n:Nat}
def VRel.low0 (hβ:∀i,i<n->e2.β i=e.β i) (hn:n<=σ2.bx.length) (hD:∀d v,DRel (okc e σ) w d v->DRel (okc e2 σ2) w2 d v) {x:PV} {u:Value} (hl:low0 n x=true) (h:VRel G e σ w x u):VRel G e2 σ2 w2 x u:=by
 cases h with
 | d x v h=>exact .d _ _ (hD _ _ h)
 | ptr b off h =>
  have hb:=Tb hl;rw [<- hβ b hb];exact .ptr b off oM
 | mp b h =>
  have hb:=Tb hl;rw [<- hβ b hb];exact .mp b oM
 | nilm=>exact .nilm
 | raw=>exact .raw _
 | _=>trivial
def ZGM (hβ:∀i,i<n->e2.β i=e.β i) (hn:n<=σ2.bx.length) (hD:∀d v,DRel (okc e σ) w d v->DRel (okc e2 σ2) w2 d v) {x:PV} {u:Value} (hl:lowV n x=true) (h:VRel G e σ w x u):VRel G e2 σ2 w2 x u:=by
 have gen:∀{x u},PM.low0 n x=true->VRel G e σ w x u->VRel G e2 σ2 w2 x u:=fun hl h=>h.low0 hβ hn hD hl
 cases h with
 | agg cs vs hs h h1=>exact .agg cs vs hs (fun i x u hx hu=>gen (ZhA hl hx) (h i x u hx hu)) h1
 | d x _ h=>exact gen hl (.d x _ h)
 | ptr b off h=>exact gen hl (.ptr b off h)
 | mp b h=>exact gen hl (.mp b h)
 | nilm=>exact .nilm
 | raw=>exact .raw _
 | _=>trivial
def BRel.lowB (hβ:∀i,i<n->e2.β i=e.β i) (hn:n<=σ2.bx.length) (hD:∀d v,DRel (okc e σ) w d v->DRel (okc e2 σ2) w2 d v) {x:Box} {b:Nat} (hb:w2.heap[b]?=w.heap[b]?) (hl:lowB n x=true) (h:BRel G e σ w x b):BRel G e2 σ2 w2 x b:=by
 cases x with
 | cells t cs =>
  obtain ⟨vs,h1,h2,h3⟩:=h;exact ⟨vs,hb.trans h1,h2,fun i x u hx hu=>⟨(h3 i x u hx hu).1.low0 hβ hn hD (ZhA hl hx),(h3 i x u hx hu).2⟩⟩
 | dmap m=>exact h.dmapTo hb hD
 | loop st pd r=>exact Eq.trans hb h
 | _=>trivial
def Env.hide (e:Env) (σ:St) (n:Nat):Env:={ e with X:=fun b off=>e.X b off\/∃i,n<=i/\i<σ.bx.length/\e.β i=b }
def St.low (σ:St) (n:Nat):St:=⟨σ.bx.take n,[],σ.nx⟩
def ZGA (hn:n<=σ.bx.length):(σ.low n).bx.length=n:=by simp [St.low];omega
def ZhB (hn:n<=σ.bx.length) {b off:Nat} (h:okc e σ b off):okc (e.hide σ n) (σ.low n) b off :=
 ⟨fun hx=>hx.elim h.1 fun ⟨i,_,hi,he⟩=>h.2.1 i hi he,fun i hi=>h.2.1 i (by rw [ZGA hn] at hi;omega),fun t ht=>(nomatch ht),h.2.2.2⟩
def DRel.hide (hn:n<=σ.bx.length) {d:D} {v:Value} (h:DRel (okc e σ) w d v):DRel (okc (e.hide σ n) (σ.low n)) w d v:=h.mono fun b off u hu ho=>⟨ZhB hn ho,hu⟩
theorem SRel.hide (hS:SRel G e σ w) (hn:n<=σ.bx.length) (hl:Zei n (σ.bx.take n)=true):SRel G (e.hide σ n) (σ.low n) w where
 inj:=fun i j hi hj=>by rw [ZGA hn] at hi hj;exact hS.inj i j oM oM
 box:=fun i x hx=>by
  have jd:(σ.bx.take n)[i]?=some x:=hx;have hi:=(To.1 jd).1;rw [List.length_take] at hi;have h0:σ.bx[i]?=some x:=by grind
  exact BRel.lowB (e:=e) (σ:=σ) (w:=w) (e2:=e.hide σ n) (σ2:=σ.low n) (w2:=w) (fun _ _=>rfl) (Nat.le_of_eq (ZGA hn).symm) (fun _ _ h=>h.hide hn) rfl (Zej hl jd) (hS.box i x h0)
 low:=fun i hi=>by rw [ZGA hn] at hi;exact hS.low i oM
 tkn:=fun t ht=>(nomatch ht)
 own:=fun t ht=>(nomatch ht)
 dis:=fun t t' ht=>(nomatch ht)
 xlt:=fun b off hx=>hx.elim (hS.xlt b off) fun ⟨i,_,hi,he⟩=>he ▸ hS.lt hi
 xown:=fun t ht=>(nomatch ht)
 hid:=fun b q hq=>by
  obtain ⟨h1,h2,h3,h4,h5⟩:=hS.hid b q hq;exact ⟨h1,h2,fun i hi=>h3 i (by rw [ZGA hn] at hi;omega),fun t ht=>(nomatch ht),fun off ho hx=>hx.elim (h5 off ho) fun ⟨i,_,hi,he⟩=>h3 i hi he⟩
 glob:=hS.glob
 big:=hS.big
def Later.hide {e0:Env} {σ0:St} {w0:World} (h:Later e0 σ0 w0 e σ w) (hn:n<=σ.bx.length) (h0:σ0.bx.length<=n):Later e0 σ0 w0 (e.hide σ n) (σ.low n) w where
 len:=by rw [ZGA hn];exact h0
 beta:=h.beta
 X:=fun b off hx=>.inl (h.X b off hx)
 pres:=fun b off u hu ho=>let ⟨h1,h2⟩:=h.pres b off u hu ho;⟨ZhB hn h1,h2⟩
 blocks:=h.blocks
 size:=h.size
 os:=h.os
 tape:=h.tape
 output:=h.output
 fresh:=fun i h1 h2=>h.fresh i h1 (by rw [ZGA hn] at h2;omega)
 ftok:=fun t ht=>(nomatch ht)
 fhid:=h.fhid
def ArgsRel.hide {args:List PV} {vs:Array Value} (h:ArgsRel G e σ w args vs) (hn:n<=σ.bx.length) (hl:ZoG n args=true):ArgsRel G (e.hide σ n) (σ.low n) w args vs :=
 ⟨h.1,fun i x u hx hu=>ZGM (e:=e) (σ:=σ) (w:=w) (e2:=e.hide σ n) (σ2:=σ.low n) (w2:=w) (fun _ _=>rfl) (Nat.le_of_eq (ZGA hn).symm) (fun _ _ h=>h.hide hn) (Zjz hl hx) (h.2 i x u hx hu)⟩
def Env.show (e e':Env):Env:=⟨e.β,e'.M,e.X,e'.H⟩
def St.show (σ σ':St) (n:Nat):St:=⟨σ'.bx.take n++σ.bx.drop n,[],σ.nx+σ'.nx⟩
def ZuZ {σ':St} (hn:n<=σ.bx.length) (qi:n<=σ'.bx.length):(σ.show σ' n).bx.length=σ.bx.length:=by simp [St.show];omega
theorem SRel.show {e':Env} {σ':St} {w':World} (hS:SRel G e σ w) (ht:σ.tk=[]) (hn:n<=σ.bx.length) (ha:Zb4 (σ.bx.drop n)=true) (hS':SRel G e' σ' w') (hL:Later (e.hide σ n) (σ.low n) w e' σ' w') (hl:Zei n (σ'.bx.take n)=true) :
  SRel G (e.show e') (σ.show σ' n) w'/\Later e σ w (e.show e') (σ.show σ' n) w':=by
 have qi:n<=σ'.bx.length:=by have:=hL.len;rw [ZGA hn] at this;exact this
 have hβ:∀i,i<n->e'.β i=e.β i:=fun i hi=>hL.beta i (by rw [ZGA hn];exact hi)
 have hlen:=ZuZ (σ':=σ') hn qi;have hX:∀i,n<=i->i<σ.bx.length->∀off,e'.X (e.β i) off:=fun i h1 h2 off=>hL.X _ _ (.inr ⟨i,h1,h2,rfl⟩)
 have ak:∀b off,okc e' σ' b off->okc (e.show e') (σ.show σ' n) b off:=fun b off ho=>by
  refine ⟨fun hx=>ho.1 (hL.X _ _ (.inl hx)),fun i hi he=>?_,fun t ht=>(nomatch ht),ho.2.2.2⟩;rw [hlen] at hi
  by_cases h:i<n
  ·exact ho.2.1 i oM ((hβ i h).trans he)
  exact ho.1 (by have:=hX i oM hi off;rw [show e.β i=b from he] at this;exact this)
 have hD:∀d v,DRel (okc e' σ') w' d v->DRel (okc (e.show e') (σ.show σ' n)) w' d v:=fun d v h=>h.mono fun b off u hu ho=>⟨ak b off ho,hu⟩
 have hst:Stepped e σ w (e.show e') (σ.show σ' n) w':={
  len:=Nat.le_of_eq hlen.symm
  beta:=fun _ _=>rfl
  X:=fun _ _ h=>h
  pres:=fun b off u hu ho=>let ⟨h1,h2⟩:=hL.pres b off u hu (ZhB hn ho);⟨ak _ _ h1,h2⟩
  blocks:=fun b hb hi _ hh=>hL.blocks b hb (fun i h=>hi i (by rw [ZGA hn] at h;omega)) (fun t ht=>(nomatch ht)) hh
  size:=hL.size
  os:=hL.os
  tape:=hL.tape
  output:=hL.output
  fresh:=fun i h1 h2=>oM
  ftok:=fun t ht=>(nomatch ht)
  fhid:=fun b hb=>(hL.fhid b hb).elim .inl fun h=>h.elim (fun ⟨t,ht,_⟩=>nomatch ht) fun h=>.inr (.inr h)
  nx:=Nat.le_add_right _ _
  toks:=fun t _ ht=>(nomatch ht)
  own:=fun t _ ht=>(nomatch ht) }
 refine ⟨{ inj:=fun i j hi hj=>by rw [hlen] at hi hj;exact hS.inj i j hi hj,box:=fun i x hx=>?_,low:=fun i hi=>by rw [hlen] at hi;exact hS.low i hi,tkn:=fun t ht=>(nomatch ht),own:=fun t ht=>(nomatch ht),dis:=fun t t' ht=>(nomatch ht),xlt:=fun b off hx=>(TC (hS.xlt b off hx) hL.size:b<w'.heap.size),xown:=fun t ht=>(nomatch ht),hid:=fun b q hq=>?_,glob:=hS'.glob,big:=hS'.big },hst.toLater⟩
 ·have hx:(σ'.bx.take n++σ.bx.drop n)[i]?=some x:=hx
  by_cases h:i<n
  ·rw [T4 (by grind)] at hx;have h0:σ'.bx[i]?=some x:=by grind
   have:=(hS'.box i x h0).lowB (e2:=e.show e') (σ2:=σ.show σ' n) (w2:=w') (n:=n) (fun i hi=>(hβ i hi).symm) oM hD rfl (Zej hl hx);rw [hβ i h] at this;exact this
  rw [Se (by grind)] at hx;have eu:(σ'.bx.take n).length=n:=by grind
  have sq:=Zgb ha hx;rw [eu,List.getElem?_drop,show n+(i - n)=i by omega] at hx;have hi:=(To.1 hx).1;have hB:=hS.box i x hx;have gy:w'.heap[e.β i]?=w.heap[e.β i]?:=hL.blocks _ (hS.lt hi) (fun j hj he=>by
   rw [ZGA hn] at hj;have:=hS.inj j i oM hi he;omega) (fun t ht=>nomatch ht) (by
   show e.H (e.β i)=none
   cases hq:e.H (e.β i) with
   | none=>rfl
   | some q=>exact absurd rfl ((hS.hid _ _ hq).2.2.1 i hi))
  cases x with
  | cells t cs =>
   obtain ⟨vs,h1,h2,h3⟩:=hB;exact ⟨vs,gy.trans h1,h2,fun i x u hx hu=>⟨(h3 i x u hx hu).1.step hst,(h3 i x u hx hu).2⟩⟩
  | dmap m=>exact hB.dmapTo gy fun d v h=>h.later hst.toLater
  | loop st pd r=>exact Eq.trans gy hB
  | iter s p=>exact Eq.trans gy hB
  | _=>trivial
 obtain ⟨h1,h2,h3,h4,h5⟩:=hS'.hid b q hq;refine ⟨h1,h2,fun i hi he=>?_,fun t ht=>(nomatch ht),fun off ho hx=>h5 off ho (hL.X _ _ (.inl hx))⟩;rw [hlen] at hi
 by_cases h:i<n
 ·exact h3 i oM ((hβ i h).trans he)
 exact h5 q.2 (Tt _) (by have:=hX i oM hi q.2;rw [show e.β i=b from he] at this;exact this)
end
def Zzu (n:Nat) (σ:St) (K:PEnd->St->Prop) (pe:PEnd) (σ':St):Prop:=∃b:Bool,pe=.ret (.d (.bool b))/\Zei n (σ'.bx.take n)=true/\K (.ret (.d (.bool b))) (σ.show σ' n)
def ZrY (n:Nat) (args:List PV) (σ:St):Prop:=σ.tk=[]/\Nat.ble n σ.bx.length=true/\Zei n (σ.bx.take n)=true/\Zb4 (σ.bx.drop n)=true/\ZoG n args=true
def Zwo (n:Nat) (raw:Raw):Raw:=fun v args σ K=>ZrY n args σ/\raw v args (σ.low n) (Zzu n σ K)
def ZrZ (n:Nat) (raw:Raw) (it:ZfB):ZfB:=fun g args _ σ K=>ZrY n args σ/\it g args raw (σ.low n) (Zzu n σ K)
section
variable {G:GE} {e0:Env} {σ0:St} {w0:World}
def Zgc {e:Env} {σ:St} {w w':World} {n:Nat} {args:List PV} {K:PEnd->St->Prop} {en:Ending} (hS:SRel G e σ w) (ho:ZrY n args σ) (h:YO G (e.hide σ n) (σ.low n) w (Zzu n σ K) en w'):YO G e σ w K en w':=by
 obtain ⟨pe,σ',e',⟨b,rfl,hl,hK⟩,⟨v,rfl,hv⟩,hS',hL⟩:=h;obtain ⟨h1,h2,h3,h4,h5⟩:=ho;obtain ⟨g1,g2⟩:=hS.show h1 (Tb h2) h4 hS' hL hl;refine ⟨_,_,_,hK,⟨v,rfl,?_⟩,g1,g2⟩
 cases hv with
 | d _ _ hd=>cases hd;exact .d _ _ (.bool b)
def ZoH {raw:Raw} {n:Nat} (h:RawSem G e0 σ0 w0 raw) (hn:σ0.bx.length<=n):RawSem G e0 σ0 w0 (Zwo n raw):=fun v args σ K ⟨ho,hc⟩=>by
 obtain ⟨l,hl,hr⟩:=h v args _ _ hc;refine ⟨l,hl,fun ro k e w vs hS hL ha=>?_⟩;have aw:=Tb ho.2.1;obtain ⟨f,tmps,asg,body,hy,hR⟩:=hr ro k _ w vs (hS.hide aw ho.2.2.1) (hL.hide aw hn) (ha.hide aw ho.2.2.2.2);exact ⟨f,tmps,asg,body,hy,hR.mono fun en w' hA=>Zgc hS ho hA⟩
def Zld {raw:Raw} {it:ZfB} {n:Nat} (kp:IterSem G it) (h:RawSem G e0 σ0 w0 raw) (hn:σ0.bx.length<=n):IterAt G e0 σ0 w0 (ZrZ n raw it):=fun g args _ σ K ⟨ho,hc⟩=>by
 obtain ⟨ga,hr⟩:=kp g args raw _ _ hc;refine ⟨ga,fun k e w vs hS hL ha _=>?_⟩;have aw:=Tb ho.2.1;exact (hr k _ w vs (hS.hide aw ho.2.2.1) (ha.hide aw ho.2.2.2.2) (h.later (hL.hide aw hn))).mono fun en w' hA=>Zgc hS ho hA
end
def ZFE (T:Tab) (tbl:Tbl) (n:Nat) (raw:Raw) (it:ZfB) (loops:Nat->LoopAnn):Cx:=⟨T,ZGB tbl,Zwo n raw,ZrZ n raw it,loops,fun _=>0,fun _=>false,fun _=>false,true,fun _=>none,fun _=>false,fun _=>false⟩
def Zr0 {G : GE} {T : Tab} {tbl : Tbl} (hT : TabOK T G.P) (ay : G.P.follows .mixedOrders = true) (ht : TblOK G tbl) (hm : TblM tbl) {it : ZfB} (kp : IterSem G it) {g : FuncId} {fn : Func} {c : Code} (hf : G.P.funcs[g]? = some fn) (hb : fn.body = some c) (ao : (fn.name == "runtime.NumGoroutine") = false)
  (ak:ZG fn.ntmps c=true) {ci:ZfB} (h:∀g' args raw σ K,ci g' args raw σ K->g'=g/\args.length<=fn.ntmps/\∃loops,WF (ZFE T tbl σ.bx.length raw it loops) fn σ.bx.length false args σ K):IterSem G ci:=fun g' args raw σ K hc=>by
 obtain ⟨rfl,hlen,loops,hw⟩:=h g' args raw σ K hc;refine ⟨Zf hf ao hb,fun n e w vs hS ab ia=>?_⟩;exact V0 ay (C:=ZFE T tbl σ.bx.length raw it loops) ⟨hT,ht.sem,ZoH ia (Tt _),Zld kp ia (Tt _),.inl rfl⟩ ⟨fun _ h1 h2=>hT.one h1 h2,hm.mono,fun _ _ _ _ h=>h.elim,fun _ _ _ _ _ h=>h.elim,rfl⟩ hf hb ak (Tt _) hlen hw hS ab
end Go.PM
end
