/- A part of the proof: plain logic, contracts and laws over the given program. -/
import Derived.Test.YtcifacgjebbdbaaGreatDoorB07
set_option linter.unusedVariables false
set_option linter.unusedSimpArgs false
set_option linter.all false
set_option maxRecDepth 100000
set_option maxHeartbeats 16000000
noncomputable section
section
namespace Go.PM.Lex
open Go.Proofs
variable {w0:World} {nG:Nat}
def ZdG {α:Type} (sign:Bs) (one:Ts->R α):Nat->List α->Ts->R (List α)
 | 0,_,_=>.err 0 150
 | f+1,l,ts=>(one ts).bind fun x ts=>if isW ts [sign]=true then ZdG sign one f (l++[x]) ts.tail else .ok (l++[x]) ts
def UY {α:Type} {sign:Bs} {one:Ts->R α} {f:Nat} {l x:List α} {ts t1:Ts} (h:ZdG sign one f l ts=.ok x t1):∃g v t2,f=g+1/\one ts=.ok v t2/\(isW t2 [sign]=true->ZdG sign one g (l++[v]) t2.tail=.ok x t1)/\(isW t2 [sign]=false->x=l++[v]/\t1=t2):=by
 cases f with
 | zero=>cases h
 | succ g =>
 obtain ⟨v,t2,h1,h⟩:=ZEG h;refine ⟨g,v,t2,rfl,h1,fun hb=>?_,fun hb=>?_⟩
 ·rwa [Th hb] at h
 rw [Tf (by rw [hb];simp)] at h;cases h;exact ⟨rfl,rfl⟩
def ZdH (fin:Bs) (ts:Ts):R (List Fi):=if isW ts [fin]=true then .ok [] ts else ZdG [44] Vo 12 [] ts
def ZzD (ts:Ts):R Ca:=(YO ts).bind fun a ts=>(ZR [123] ts).bind fun _ ts=>(ZdH [125] ts).bind fun l ts=>(ZR [125] ts).bind fun _ ts=>.ok ⟨a,l⟩ ts
def Zpe (t0:Ts):R Ty:=(YO t0).bind fun nm ts =>
 if isW ts [[60,58]]=true then (YO ts.tail).bind fun b ts=>.ok ⟨1,nm,b,[],[],t0.length⟩ ts
 else (ZR [61] ts).bind fun _ ts =>
  if isW ts [[91]]=true then (ZdH [93] ts.tail).bind fun l ts=>(ZR [93] ts).bind fun _ ts=>.ok ⟨2,nm,[],l,[],t0.length⟩ ts
  else (ZdG [124] ZzD 64 [] ts).bind fun l ts=>.ok ⟨3,nm,[],[],l,t0.length⟩ ts
def Zfr:Nat->Bool->Bool->Bool->Ts->R (Bool×Bool×Bool)
 | 0,_,_,_,_=>.err 0 150
 | f+1,i,o,n,ts=>if isW ts [[105,110,112,117,116]]=true/\i=false then Zfr f true o n ts.tail
   else if isW ts [[111,117,116,112,117,116]]=true/\o=false then Zfr f i true n ts.tail
   else if isW ts [[105,110,108,105,110,101]]=true/\n=false then Zfr f i o true ts.tail
   else .ok (i,o,n) ts
def ZvT (t0:Ts):R Re:=(YO t0).bind fun nm ts=>(ZR [40] ts).bind fun _ ts=>(ZdH [41] ts).bind fun l ts=>(ZR [41] ts).bind fun _ ts =>
 (Zfr 4 false false false ts).bind fun r ts=>.ok ⟨nm,l,r.1,r.2.1,r.2.2,t0.length⟩ ts
def Zy4 (L:List Tok):List PV->St->Nat:=fun _ σ=>match σ with | ⟨.cells _ [_,.d (.int _ i),_,_,_,_]::_,_,_⟩=>((L.length:Int) - i).toNat | _=>0
def Zay:Zm:=iSp fun rest pl d ts K=>match rest with
 | [.d (.str w)]=>∃x t1,ZdH w ts=.ok x t1/\K (.d (.sl (x.map Zn))) d t1
 | _=>False
def UZ:Tbl:=[(57,XZ),(100,UW),(101,Zbr),(107,Zbq),(171,Ux)]
def VT:TO w0 nG UZ:=⟨XF,Zaw,ZcB,ZcA,UX,trivial⟩
def Zfs:PC w0 nG 172 Zay:=by
 refine pwt (tbl:=UZ) VT Tryz.func172 fun args σ K h=>?_
 unfold Zay iSp at h
 split at h
 ·rename_i rest t rows a en dp w q
  obtain ⟨L,d,ts,⟨rfl,rfl,rfl⟩,ho,h⟩:=h;split at h
  ·rename_i wd
   obtain ⟨x,t1,hx,h⟩:=h;unfold ZdH at hx
   refine pwv [(4,⟨[5],[0],fun vs σ=>∃(l:List Fi) (f:Nat) (a' dp':Int) (ts':Ts),vs=[.sl 0 89 (l.map Zn)]/\σ=⟨[U9 t L a' en dp'],[0],1⟩/\a<=a'/\IK L a' dp' d ts'/\l.length+f=12/\ZdG [44] Vo f l ts'=.ok x t1,Zy4 L⟩)] 1 false ?_;refine ⟨L,d,ts,⟨rfl,rfl,rfl⟩,ho,0,⟨rfl,oM⟩,fun b0 d0=>?_⟩;have d0:isW ts [wd]=b0:=d0;rw [d0] at hx;intro a1 dp1 cg ak
   cases b0 with
   | true =>
    rw [Th rfl] at hx
    cases hx
    conv=>whnf
    exact h _ _ oM ak
   | false =>
   rw [Tf sM] at hx;(conv=>whnf);refine ⟨⟨[],12,a1,dp1,ts,rfl,rfl,oM,ak,rfl,hx⟩,?_⟩;intro vs σ hI
   obtain ⟨l,f,a2,dp2,ts2,rfl,rfl,dl,ah,hf,hx⟩:=hI;obtain ⟨g,v,t2,rfl,hv,hm,he⟩:=UY hx;obtain ⟨s1,u1,g1,hv⟩:=ZEG hv;obtain ⟨dm,rfl,rfl⟩:=ZgE g1;obtain ⟨_,u2,g2,hv⟩:=ZEG hv;obtain ⟨iw,rfl⟩:=ZdD g2;obtain ⟨s3,u3,g3,hv⟩:=ZEG hv;obtain ⟨nw,rfl,rfl⟩:=ZgE g3
   cases hv
   conv=>whnf
   refine ⟨L,_,_,⟨rfl,rfl,rfl⟩,ah,rfl,fun b hb=>?_⟩;obtain rfl:b=true:=hb.symm.trans dm;intro a3 dp3 dx am
   have mr:(l.map Zn).length<=12:=by rw [Te];omega
   conv=>whnf
   refine ⟨L,_,_,⟨rfl,rfl,rfl⟩,am,(by rw [Te];omega),?_⟩;intro a4 dp4 eu cf
   conv=>whnf
   refine ⟨L,_,_,⟨rfl,rfl,rfl⟩,cf,dm,?_⟩;intro a5 dp5 jg cq
   conv=>whnf
   refine ⟨L,_,_,⟨rfl,rfl,rfl⟩,cq,iw,?_⟩;intro a6 dp6 ny fb
   conv=>whnf
   refine ⟨L,_,_,⟨rfl,rfl,rfl⟩,fb,nw,?_⟩;intro a7 dp7 xk iz
   conv=>whnf
   refine ⟨Tw.2 rfl,(show ((l.map Zn).length+1) * 32<=2 ^ 47 by omega),(show (l.map Zn).length+1<=2 ^ 47 by omega),wN ?_⟩;refine ⟨L,_,_,⟨rfl,rfl,rfl⟩,iz,0,⟨rfl,oM⟩,fun b hb=>?_⟩;intro a8 dp8 xm jh
   cases b with
   | true =>
    have hn:=jh.tl (Yz hb);have hh:=hn.hi;(conv=>whnf);refine Or.inl ⟨hn.inr,wN ?_⟩;refine ⟨⟨l++[_],g,_,_,_,by rw [TP];rfl,rfl,oM,hn,by rw [Ta];simp only [Td,Tg];omega,hm hb⟩,?_⟩;show ((L.length:Int) - (a8+1)).toNat<((L.length:Int) - a2).toNat;omega
   | false =>
   obtain ⟨rfl,rfl⟩:=he hb;rw [TP] at h;(conv=>whnf);exact h _ _ oM jh
  exact h.elim
 exact h.elim
def ZgF:Zm:=iR (fun pl v=>Uv (Zq pl v)) (fun _=>Zpe) (fun _=>True)
def Zpf:Tbl:=(106,JN)::(172,Zay)::UZ
def Zpg:PC w0 nG 102 ZgF:=by
 refine pwt (tbl:=Zpf) ⟨Zav,Zfs,VT⟩ Tryz.func102 fun args σ K h=>?_
 unfold ZgF iR iSp at h
 split at h
 ·rename_i rest t rows a en dp w q
  obtain ⟨L,d,ts,⟨rfl,rfl,rfl⟩,ho,h⟩:=h;split at h
  ·obtain ⟨_,x,t1,hx,h⟩:=h;unfold Zpe at hx
   obtain ⟨s1,u1,g1,hx⟩:=ZEG hx;obtain ⟨dm,rfl,rfl⟩:=ZgE g1;obtain ⟨xl,hxl⟩:∃xl:List Ca,x.cases=xl:=⟨_,rfl⟩
   refine pwu [(16,⟨[],[0,2,3],fun vs σ=>∃(l:List Ca) (f:Nat) (a' dp':Int) (ts':Ts),vs=[] /\
     σ=⟨[U9 t L a' en dp',.cells 56 [.d (.int .u8 0),.d (.str []),.d (.str []),.sl 0 89 [],.sl 1 59 [],.d (.int .i64 0)],
      .cells 56 [.d (.int .u8 3),.d (.str (hd ts).text),.d (.str []),.sl 2 89 [],.sl 3 59 (l.map Zt),.d (.int .i64 (Zb L en ts.length))]],[3,2,1,0],4⟩/\a<=a'/\IK L a' dp' d ts'/\l.length+f=64/\ZdG [124] ZzD f l ts'=.ok xl t1,Zy4 L⟩)] 1 false ?_
   conv=>whnf
   refine ⟨L,_,_,⟨rfl,rfl,rfl⟩,ho,?_⟩;intro a1 dp1 cg ak
   conv=>whnf
   refine ⟨L,_,_,⟨rfl,rfl,rfl⟩,ak,dm,?_⟩;intro a2 dp2 dl ah
   conv=>whnf
   refine ⟨L,_,_,⟨rfl,rfl,rfl⟩,ah,0,⟨rfl,oM⟩,fun b1 bu=>?_⟩;have bu:isW ts.tail [[60,58]]=b1:=bu;rw [bu] at hx;intro a3 dp3 dx am
   cases b1 with
   | true =>
    rw [Th rfl] at hx;obtain ⟨s2,u2,g2,hx⟩:=ZEG hx;obtain ⟨iw,rfl,rfl⟩:=ZgE g2
    cases hx
    have hn:=am.tl (Yz bu);(conv=>whnf);refine Or.inl ⟨hn.inr,wN ?_⟩;refine ⟨L,_,_,⟨rfl,rfl,rfl⟩,hn,iw,?_⟩;exact mq134
   | false =>
   rw [Tf sM] at hx;obtain ⟨_,u2,g2,hx⟩:=ZEG hx;obtain ⟨iw,rfl⟩:=ZdD g2;(conv=>whnf);refine ⟨L,_,_,⟨rfl,rfl,rfl⟩,am,iw,?_⟩;intro a4 dp4 eu cf
   conv=>whnf
   refine ⟨L,_,_,⟨rfl,rfl,rfl⟩,cf,0,⟨rfl,oM⟩,fun b2 dw=>?_⟩;have dw:isW ts.tail.tail [[91]]=b2:=dw;rw [dw] at hx;intro a5 dp5 jg cq
   cases b2 with
   | true =>
    rw [Th rfl] at hx;obtain ⟨l3,u3,g3,hx⟩:=ZEG hx;obtain ⟨_,u4,g4,hx⟩:=ZEG hx;obtain ⟨kj,rfl⟩:=ZdD g4
    cases hx
    have hn:=cq.tl (Yz dw);(conv=>whnf);refine Or.inl ⟨hn.inr,wN ?_⟩;refine ⟨L,_,_,⟨rfl,rfl,rfl⟩,hn,_,_,g3,?_⟩;intro a6 dp6 ny fb
    conv=>whnf
    refine ⟨L,_,_,⟨rfl,rfl,rfl⟩,fb,kj,?_⟩;intro a7 dp7 xk iz
    conv=>whnf
    exact h _ _ oM iz
   | false =>
   rw [Tf sM] at hx;obtain ⟨l3,u3,g3,hx⟩:=ZEG hx
   cases hx
   obtain rfl:l3=xl:=hxl;(conv=>whnf);refine ⟨⟨[],64,_,_,_,rfl,rfl,oM,cq,rfl,g3⟩,?_⟩;intro vs σ hI
   obtain ⟨l,f,a2,dp2,ts2,rfl,rfl,dl,ah,hf,hx⟩:=hI;obtain ⟨g,v,t2,rfl,hv,hm,he⟩:=UY hx;obtain ⟨s1,u1,g1,hv⟩:=ZEG hv;obtain ⟨dm,rfl,rfl⟩:=ZgE g1;obtain ⟨_,u2,g2,hv⟩:=ZEG hv;obtain ⟨iw,rfl⟩:=ZdD g2;obtain ⟨l5,u3,g3,hv⟩:=ZEG hv;obtain ⟨_,u4,g4,hv⟩:=ZEG hv;obtain ⟨kj,rfl⟩:=ZdD g4
   cases hv
   conv=>whnf
   refine ⟨L,_,_,⟨rfl,rfl,rfl⟩,ah,rfl,fun b hb=>?_⟩;obtain rfl:b=true:=hb.symm.trans dm;intro a3 dp3 dx am
   have mr:(l.map Zt).length<=64:=by rw [Te];omega
   conv=>whnf
   refine ⟨L,_,_,⟨rfl,rfl,rfl⟩,am,(by rw [Te];omega),?_⟩;intro a4 dp4 eu cf
   conv=>whnf
   refine ⟨L,_,_,⟨rfl,rfl,rfl⟩,cf,dm,?_⟩;intro a5 dp5 jg cq
   conv=>whnf
   refine ⟨L,_,_,⟨rfl,rfl,rfl⟩,cq,iw,?_⟩;intro a6 dp6 ny fb
   conv=>whnf
   refine ⟨L,_,_,⟨rfl,rfl,rfl⟩,fb,_,_,g3,?_⟩;intro a7 dp7 xk iz
   conv=>whnf
   refine ⟨L,_,_,⟨rfl,rfl,rfl⟩,iz,kj,?_⟩;intro a8 dp8 xm jh
   conv=>whnf
   refine ⟨Tw.2 rfl,(show ((l.map Zt).length+1) * 40<=2 ^ 47 by omega),(show (l.map Zt).length+1<=2 ^ 47 by omega),wN ?_⟩;refine ⟨L,_,_,⟨rfl,rfl,rfl⟩,jh,0,⟨rfl,oM⟩,fun b hb=>?_⟩;intro a9 dp9 hl9 fh
   cases b with
   | true =>
    have hn:=fh.tl (Yz hb);have hh:=hn.hi;(conv=>whnf);refine Or.inl ⟨hn.inr,wN ?_⟩;refine ⟨⟨l++[_],g,_,_,_,rfl,by rw [TP];rfl,oM,hn,by rw [Ta];simp only [Td,Tg];omega,hm hb⟩,?_⟩;show ((L.length:Int) - (a9+1)).toNat<((L.length:Int) - a2).toNat;omega
   | false =>
   obtain ⟨rfl,rfl⟩:=he hb;simp only [Zq,TP,TD,TM] at h;(conv=>whnf);exact h _ _ oM fh
  exact h.elim
 exact h.elim
def Zho (i o n:Bool):Nat:=(if i then 0 else 1)+(if o then 0 else 1)+(if n then 0 else 1)
def ZjK:Zm:=iR (fun pl v=>Uv (ZN pl v)) (fun _=>ZvT) (fun _=>True)
def Zsm:Tbl:=(106,JN)::(172,Zay)::UZ
def Zsn:PC w0 nG 103 ZjK:=by
 refine pwt (tbl:=Zsm) ⟨Zav,Zfs,VT⟩ Tryz.func103 fun args σ K h=>?_
 unfold ZjK iR iSp at h
 split at h
 ·rename_i rest t rows a en dp w q
  obtain ⟨L,d,ts,⟨rfl,rfl,rfl⟩,ho,h⟩:=h;split at h
  ·obtain ⟨_,x,t1,hx,h⟩:=h;unfold ZvT at hx
   obtain ⟨s1,u1,g1,hx⟩:=ZEG hx;obtain ⟨dm,rfl,rfl⟩:=ZgE g1;obtain ⟨_,u2,g2,hx⟩:=ZEG hx;obtain ⟨iw,rfl⟩:=ZdD g2;obtain ⟨fl,u3,g3,hx⟩:=ZEG hx;obtain ⟨_,u4,g4,hx⟩:=ZEG hx;obtain ⟨kj,rfl⟩:=ZdD g4;obtain ⟨r,u5,g5,hx⟩:=ZEG hx
   cases hx
   refine pwu [(6,⟨[],[0,2,3],fun vs σ=>∃(f:Nat) (i o n:Bool) (a' dp':Int) (ts':Ts),vs=[] /\
     σ=⟨[U9 t L a' en dp',.cells 109 [.d (.str []),.sl 0 89 [],.d (.bool false),.d (.bool false),.d (.bool false),.d (.int .i64 0)],
      .cells 109 [.d (.str (hd ts).text),.d (.sl (fl.map Zn)),.d (.bool i),.d (.bool o),.d (.bool n),.d (.int .i64 (Zb L en ts.length))]],[0],1⟩/\a<=a'/\IK L a' dp' d ts'/\Zfr f i o n ts'=.ok r t1,
    fun _ σ=>match σ with | ⟨[_,_,.cells _ [_,_,.d (.bool i),.d (.bool o),.d (.bool n),_]],_,_⟩=>Zho i o n | _=>0⟩)] 1 false ?_
   conv=>whnf
   refine ⟨L,_,_,⟨rfl,rfl,rfl⟩,ho,?_⟩;intro a1 dp1 cg ak
   conv=>whnf
   refine ⟨L,_,_,⟨rfl,rfl,rfl⟩,ak,dm,?_⟩;intro a2 dp2 dl ah
   conv=>whnf
   refine ⟨L,_,_,⟨rfl,rfl,rfl⟩,ah,iw,?_⟩;intro a3 dp3 dx am
   conv=>whnf
   refine ⟨L,_,_,⟨rfl,rfl,rfl⟩,am,_,_,g3,?_⟩;intro a4 dp4 eu cf
   conv=>whnf
   refine ⟨L,_,_,⟨rfl,rfl,rfl⟩,cf,kj,?_⟩;intro a5 dp5 jg cq
   conv=>whnf
   refine ⟨⟨4,false,false,false,_,_,_,rfl,rfl,oM,cq,g5⟩,?_⟩;intro vs σ hI
   obtain ⟨f,i,o,n,a6,dp6,ts6,rfl,rfl,ny,fb,hx⟩:=hI
   cases f with
   | zero=>cases hx
   | succ f =>
   rw [Zfr] at hx;(conv=>whnf);refine ⟨L,_,_,⟨rfl,rfl,rfl⟩,fb,0,⟨rfl,oM⟩,fun b1 bu=>?_⟩;have bu:isW ts6 [[105,110,112,117,116]]=b1:=bu;rw [bu] at hx;intro a7 dp7 xk iz
   by_cases h1:b1=true/\i=false
   ·rw [Th h1] at hx;obtain ⟨rfl,rfl⟩:=h1;have hn:=iz.tl (Yz bu);(conv=>whnf);refine Or.inl ⟨hn.inr,wN ?_⟩;refine ⟨⟨f,true,o,n,_,_,_,rfl,rfl,oM,hn,hx⟩,?_⟩;show Zho true o n<Zho false o n;simp only [Zho];cases o <;> cases n <;> decide
   rw [Tf h1] at hx
   cases b1
   case' true=>obtain rfl:i=true:=by cases i with | true=>rfl | false=>exact absurd ⟨rfl,rfl⟩ h1
   all_goals
    conv=>whnf
    refine ⟨L,_,_,⟨rfl,rfl,rfl⟩,iz,0,⟨rfl,oM⟩,fun b2 dw=>?_⟩;have dw:isW ts6 [[111,117,116,112,117,116]]=b2:=dw;rw [dw] at hx;intro a8 dp8 xm jh
    by_cases h2:b2=true/\o=false
    ·rw [Th h2] at hx;obtain ⟨rfl,rfl⟩:=h2;have hn:=jh.tl (Yz dw);(conv=>whnf);refine Or.inl ⟨hn.inr,wN ?_⟩;refine ⟨⟨f,_,true,n,_,_,_,rfl,rfl,oM,hn,hx⟩,?_⟩
     first | show Zho i true n<Zho i false n | show Zho true true n<Zho true false n
     simp only [Zho];simp
    rw [Tf h2] at hx
    cases b2
    case' true=>obtain rfl:o=true:=by cases o with | true=>rfl | false=>exact absurd ⟨rfl,rfl⟩ h2
    all_goals
     conv=>whnf
     refine ⟨L,_,_,⟨rfl,rfl,rfl⟩,jh,0,⟨rfl,oM⟩,fun b3 gt=>?_⟩;have gt:isW ts6 [[105,110,108,105,110,101]]=b3:=gt;rw [gt] at hx;intro a9 dp9 hl9 fh
     by_cases h3:b3=true/\n=false
     ·rw [Th h3] at hx;obtain ⟨rfl,rfl⟩:=h3;have hn:=fh.tl (Yz gt);(conv=>whnf);refine Or.inl ⟨hn.inr,wN ?_⟩;refine ⟨⟨f,_,_,true,_,_,_,rfl,rfl,oM,hn,hx⟩,?_⟩
      first | show Zho i o true<Zho i o false | show Zho true o true<Zho true o false | show Zho i true true<Zho i true false | show Zho true true true<Zho true true false
      simp only [Zho];simp
     rw [Tf h3] at hx
     cases hx
     cases b3
     case' true=>obtain rfl:n=true:=by cases n with | true=>rfl | false=>exact absurd ⟨rfl,rfl⟩ h3
     all_goals
      conv=>whnf
      exact h _ _ oM fh
  exact h.elim
 exact h.elim
def ZzE (l:Nat):List Bs:=if l=0 then [[98,111,114],[98,120,111,114]] else if l=1 then [[98,97,110,100]] else if l=2 then [[115,104,108],[115,104,114]] else if l=3 then [[43],[45]] else [[42],[47],[37]]
def ZzF (l:Nat):List Nat:=if l=0 then [16,17] else if l=1 then [15] else if l=2 then [18,19] else if l=3 then [10,11] else [12,13,14]
def opJ (ts:Ts):List Bs->List Nat->Nat->Nat
 | w::ws,o::os,r=>opJ ts ws os (if isW ts [w]=true then o else r)
 | _,_,r=>r
def Zso (sub:Ts->R Ex) (ln:Nat):Nat->Ex->Ts->R Ex
 | 0,_,_=>.err 0 150
 | f+1,e,ts=>if opJ ts (ZzE ln) (ZzF ln) 0=0 then .ok e ts else (sub ts.tail).bind fun g ts'=>Zso sub ln f (.mk (opJ ts (ZzE ln) (ZzF ln) 0) [] 0 [e,g] e.at') ts'
def ZvU (sg:Ts->R Ex):Nat->Ts->R Ex
 | 0,ts=>sg ts
 | k+1,ts=>(ZvU sg k ts).bind fun e ts'=>Zso (ZvU sg k) (4 - k) (ts'.length+1) e ts'
def Zph (d:Nat) (ex:Ts->R Ex) (fr tt:Bs) (ts:Ts):R (List Ex):=Zo d fr tt (fun ts=>if isW ts [tt]=true then .ok [] ts else ZdG [44] ex 12 [] ts) ts
def ZjL (ex:Ts->R Ex):Nat->Nat->List Ex->Ts->R (List Ex)
 | 0,_,l,ts=>.ok l ts
 | k+1,i,l,ts=>(if i=0 then .ok () ts else ZR [44] ts).bind fun _ ts=>(ex ts).bind fun e ts=>ZjL ex k (i+1) (l++[e]) ts
def ZmP (d:Nat) (ex:Ts->R Ex) (ts:Ts):R Ex :=
 if ZU ts=false then .err ts.length 150
 else if (hd ts).kind=2 then .ok (.mk 3 [] (hd ts).n [] ts.length) ts.tail
 else if (hd ts).kind=3 then .ok (.mk 4 (hd ts).text 0 [] ts.length) ts.tail
 else if (hd ts).text=[40] then Zo d [40] [41] ex ts
 else if (hd ts).text=[91] then (Zph d ex [91] [93] ts).bind fun l ts'=>.ok (.mk 6 [] 0 l ts.length) ts'
 else if (hd ts).text=[36] then (YO ts.tail).bind fun nm ts'=>if isW ts' [[40]]=true then (Zph d ex [40] [41] ts').bind fun l ts'=>.ok (.mk 7 nm 0 l ts.length) ts' else .ok (.mk 7 nm 0 [] ts.length) ts'
 else if (hd ts).text=[110,105,108] then .ok (.mk 5 [] 0 [] ts.length) ts.tail
 else if (hd ts).text=[95] then .ok (.mk 2 [] 0 [] ts.length) ts.tail
 else if ZT (hd ts).text≠0 then (Zo d [40] [41] (ZjL ex (WG (ZT (hd ts).text)) 0 []) ts.tail).bind fun l ts'=>.ok (.mk (ZT (hd ts).text) [] 0 l ts.length) ts'
 else .ok (.mk 1 (hd ts).text 0 [] ts.length) ts.tail
def ZBA (d:Nat) (sub:Ts->R Ex) (ts:Ts):R Ex :=
 if isW ts [[126]]=true then (Zo d [126] [] sub ts).bind fun e ts'=>.ok (.mk 9 [] 0 [e] ts.length) ts'
 else if isW ts [[45]]=true then (Zo d [45] [] sub ts).bind fun e ts'=>.ok (.mk 8 [] 0 [e] ts.length) ts'
 else ZmP d (ZvU sub 5) ts
def Zup:Nat->Ts->R Ex
 | 0=>ZBA 0 fun _=>.err 0 150
 | d+1=>ZBA (d+1) (Zup d)
def ZC7:Nat->Ts->R Ex
 | 0=>fun _=>.err 0 150
 | d+1=>Zup d
def ZvV (d:Nat):Zup d=ZBA d (ZC7 d):=by cases d <;> rfl
def exJ (d:Nat):Ts->R Ex:=ZvU (Zup d) 5
def exU (d:Nat):Ts->R Ex:=ZvU (ZC7 d) 5
def VU (n l:Nat):Zm:=iSp fun rest pl d ts K=>match rest with
 | [.d (.int .i64 i)]=>∃j:Nat,(i=j/\j<=5/\(d<n\/(d=n/\l<=j)))/\∃x t1,ZvU (Zup d) (5 - j) ts=.ok x t1/\K (Uv (ZW pl x)) d t1
 | _=>False
abbrev ZdI (P:Nat->Ts->R Ex) (n:Nat):Zm:=iR (fun pl v=>Uv (ZW pl v)) P (fun d=>d<n+1)
def ZdJ (n:Nat):Zm:=iSp fun rest pl d ts K=>match rest with
 | [.d (.str fr),.d (.str tt),.d (.bool b)]=>(b=true/\tt≠[]/\d<n+1)/\∃x t1,Zph d (exU d) fr tt ts=.ok x t1/\K (.d (.sl (Zp pl x))) d t1
 | _=>False
def ZjM (n:Nat):Zm:=iSp fun rest pl d ts K=>match rest with
 | [.agg [.d (.int .u8 op),.d (.str []),.d (.int .i64 m),.nils e,.d (.int .i64 p)]]=>(m=0/\e=138/\d<n+1)/\∃o:Nat,op=(o:Int)/\∃x t1,Zo d [40] [41] (ZjL (exU d) (WG o) 0 []) ts=.ok x t1/\K (.agg [.d (.int .u8 op),.d (.str []),.d (.int .i64 0),.d (.sl (Zp pl x)),.d (.int .i64 p)]) d t1
 | _=>False
def ZmQ:Tbl:=[(170,Zcy),(257,Xk)]
def Zbs:PC w0 nG 224 Uw:=by
 refine pwt (tbl:=ZmQ) ⟨Zic,ZdF,trivial⟩ Tryz.func224 fun args σ K h=>?_
 unfold Uw iSp at h
 split at h
 ·rename_i rest t rows a en dp w q
  obtain ⟨L,d,ts,⟨rfl,rfl,rfl⟩,ho,h⟩:=h;split at h
  ·refine pwv [] 1 false ?_;refine ZEw (fun hc=>?_) (fun hc=>wN ?_)
   ·obtain rfl:=ho.nil (show ¬a<((Zz L).length:Int) by have hc:a>=((Zz L).length:Int):=hc;omega);(conv=>whnf);exact h _ rfl _ _ oM ho
   have hc:a<((Zz L).length:Int):=by have hc:¬a>=((Zz L).length:Int):=hc;omega
   obtain ⟨h0,x,hx,ey,ai,ia,ff⟩:=ho.at0 hc;rw [ZU,ey] at h;have h:∀b,(if x.kind=2\/x.kind=3 then true else if x.kind=4 then isW ts [[45],[126],[40],[91],[36]] else if x.kind=1 then !Zbk x.text || (decide (x.text=[110,105,108]) || decide (ZT x.text≠0)) else false)=b->∀a' dp',a<=a'->IK L a' dp' d ts->K (.ret (.d (.bool b))) ⟨[U9 t L a' en dp'],[],0⟩:=h;refine ⟨_,h0,hx,wN ?_⟩
   (repeat (refine ⟨rfl,?_⟩;conv=>whnf))
   refine ZEw (fun h1=>wN ?_) (fun h1=>wN ?_)
   ·have h1:x.kind=2:=by have h1:(x.kind:Int)=2:=h1;omega
    refine ZEw (fun _=>wN ?_) (fun g=>absurd (by rw [h1];rfl) g);exact h _ (by rw [Th (Or.inl h1)]) _ _ oM ho
   have h1:¬x.kind=2:=by have h1:¬(x.kind:Int)=2:=h1;omega
   refine ZEw (fun h2=>wN ?_) (fun h2=>wN ?_)
   ·have h2:x.kind=3:=by have h2:(x.kind:Int)=3:=h2;omega
    exact h _ (by rw [Th (Or.inr h2)]) _ _ oM ho
   have h2:¬x.kind=3:=by have h2:¬(x.kind:Int)=3:=h2;omega
   rw [Tf oM] at h;refine ZEw (fun h3=>wN ?_) (fun h3=>wN ?_)
   ·have h3:x.kind=4:=by have h3:(x.kind:Int)=4:=h3;omega
    have hw5:isW ts [[45],[126],[40],[91],[36]]=[[45],[126],[40],[91],[36]].contains x.text:=by
     rw [isW,ey];simp [Tok.t0,h3]
    rw [Th h3,hw5] at h;refine ZEw (fun hq=>wN ?_) (fun hq=>wN ?_)
    ·exact mq53
    have hq0:¬x.text=[45]:=hq;refine ZEw (fun hq=>wN ?_) (fun hq=>wN ?_)
    ·exact mq53
    have ig:¬x.text=[126]:=hq;refine ZEw (fun hq=>wN ?_) (fun hq=>wN ?_)
    ·exact mq53
    have mf:¬x.text=[40]:=hq;refine ZEw (fun hq=>wN ?_) (fun hq=>wN ?_)
    ·exact mq53
    have hq3:¬x.text=[91]:=hq;exact h _ (by rw [Bool.eq_iff_iff,TQ,List.contains_iff_mem];simp only [Tv,Sv,or_false,hq0,ig,mf,hq3,false_or]) _ _ oM ho
   have h3:¬x.kind=4:=by have h3:¬(x.kind:Int)=4:=h3;omega
   rw [Tf h3,Th oM] at h;intro b hb
   rw [hb] at h
   cases b with
   | false =>
    conv=>whnf
    exact h _ rfl _ _ oM ho
   | true =>
   conv=>whnf
   refine ZEw (fun h5=>wN ?_) (fun h5=>wN ?_)
   ·exact h _ (by rw [TL (p:=x.text=[110,105,108]) h5];rfl) _ _ oM ho
   intro n hn
   conv=>whnf
   exact h _ (by rw [decide_eq_false (p:=x.text=[110,105,108]) h5,<- hn];by_cases g:ZT x.text=0 <;> simp [g]) _ _ oM ho
  exact h.elim
 exact h.elim
def ZCg (o:Nat):List D:=[.int .u8 o]
def Zpi:Zm:=fun args σ K=>match args,σ with
 | [.d (.int .i64 i)],⟨[],[],0⟩=>∃n:Nat,i=n/\n<=4/\K (.ret (.tuple [.d (.sl ((ZzE n).map Ym)),.d (.sl ((ZzF n).map ZCg))])) ⟨[],[],0⟩
 | _,_=>False
def ZvW:PC w0 nG 259 Zpi:=by
 refine Zbc ZC mixed (tbl:=[]) trivial Tryz.func259 rfl kR kR ?_;intro args σ K h
 unfold Zpi at h
 split at h
 ·rename_i i
  obtain ⟨n,rfl,hn,h⟩:=h;refine ⟨Zk [],Ye [],ZB [],ZB [],ZB [],0,true,sM,Tc rfl,?_⟩;have dk:n=0\/n=1\/n=2\/n=3\/n=4:=oM;rcases dk with rfl | rfl | rfl | rfl | rfl
  all_goals
   conv=>whnf
   exact h
 exact h.elim
def ZgG {n:Nat} (he:PC w0 nG 225 (VU n 6)):PC w0 nG 176 (ZdJ n):=by
 refine pwt (tbl:=[(174,JO),(57,XZ),(175,Zbp),(224,Uw),(101,Zbr),(225,VU n 6)]) ⟨Zax,XF,Zcz,Zbs,ZcB,he,trivial⟩ Tryz.func176 fun args σ K h=>?_
 unfold ZdJ iSp at h
 split at h
 ·rename_i rest t rows a en dp w q
  obtain ⟨L,d,ts,⟨rfl,rfl,rfl⟩,ho,h⟩:=h;split at h
  ·rename_i fr tt bb
   obtain ⟨⟨rfl,htt,gx⟩,x,t1,hx,h⟩:=h;obtain ⟨hw,⟨e,rfl⟩,t2,hy,h2⟩:=ZdE hx
   clear hx
   have hx:=hy
   clear hy
   obtain ⟨ez,rfl⟩:isW t2 [tt]=true/\t1=t2.tail:=by rcases h2 with ⟨g,_⟩ | g;exact absurd g htt;exact g.2
   have h64:=ho.d64;refine pwv [(6,⟨[9],[0,2],fun vs σ=>∃(l:List Ex) (f:Nat) (a' dp':Int) (ts':Ts),vs=[.sl 0 138 (l.map (ZW (Zb L en)))]/\σ=⟨[U9 t L a' en dp'],[0],1⟩/\a<=a'/\IK L a' dp' e ts'/\l.length+f=12/\ZdG [44] (exJ e) f l ts'=.ok x t2,Zy4 L⟩)] 1 false ?_;refine ⟨L,_,_,⟨rfl,rfl,rfl⟩,ho,hw,e,rfl,?_⟩;intro a1 dp1 cg ak
   conv=>whnf
   refine ⟨L,_,_,⟨rfl,rfl,rfl⟩,ak,0,⟨rfl,oM⟩,fun b hb=>?_⟩;have hb:isW ts.tail [tt]=b:=hb;rw [hb] at hx;intro a2 dp2 dl ah
   cases b with
   | true =>
    rw [Th rfl] at hx
    cases hx
    conv=>whnf
    refine ⟨L,_,_,⟨rfl,rfl,rfl⟩,ah,⟨hb,oM⟩,?_⟩;intro a3 dp3 dx am
    conv=>whnf
    exact h _ _ oM am
   | false =>
   rw [Tf sM] at hx;(conv=>whnf);refine ⟨⟨[],12,a2,dp2,_,rfl,rfl,oM,ah,rfl,hx⟩,?_⟩;intro vs σ hI
   obtain ⟨l,f,a3,dp3,ts3,rfl,rfl,dx,am,hf,hx⟩:=hI;obtain ⟨g,⟨eo,es,em,er,ep⟩,t4,rfl,hv,hm,hq⟩:=UY hx;have mr:(l.map (ZW (Zb L en))).length<12:=by rw [Te];omega
   conv=>whnf
   refine ⟨L,_,_,⟨rfl,rfl,rfl⟩,am,fun b hb=>?_⟩;intro a4 dp4 eu cf
   have eu:a<=a4/\a3<=a4:=⟨oM,eu⟩
   cases b
   case' true =>
    conv=>whnf
    refine ⟨L,_,_,⟨rfl,rfl,rfl⟩,cf,(by rw [Te];omega),?_⟩;intro a5 dp5 jg cq
    have eu:a<=a5/\a3<=a5:=⟨oM,oM⟩
    clear cf jg
   all_goals
    conv=>whnf
    refine ⟨L,_,_,⟨rfl,rfl,rfl⟩,by assumption,0,⟨rfl,oM,.inl oM⟩,_,_,hv,?_⟩;intro a6 dp6 ny fb
    conv=>whnf
    refine ⟨Tw.2 rfl,(show ((l.map (ZW (Zb L en))).length+1) * 64<=2 ^ 47 by omega),(show (l.map (ZW (Zb L en))).length+1<=2 ^ 47 by omega),wN ?_⟩;refine ⟨L,_,_,⟨rfl,rfl,rfl⟩,fb,0,⟨rfl,oM⟩,fun b hb=>?_⟩;intro a8 dp8 xm jh
    cases b with
    | true =>
     have hn:=jh.tl (Yz hb);have hh:=hn.hi;(conv=>whnf);refine Or.inl ⟨hn.inr,wN ?_⟩;refine ⟨⟨l++[.mk eo es em er ep],g,_,_,_,by rw [TP];rfl,rfl,oM,hn,by rw [Ta];simp only [Td,Tg];omega,hm hb⟩,?_⟩;show ((L.length:Int) - (a8+1)).toNat<((L.length:Int) - a3).toNat;omega
    | false =>
    obtain ⟨rfl,rfl⟩:=hq hb;rw [Ze,TP] at h;(conv=>whnf);refine ⟨L,_,_,⟨rfl,rfl,rfl⟩,jh,⟨ez,oM⟩,?_⟩;intro a9 dp9 hl9 fh
    conv=>whnf
    exact h _ _ oM fh
  exact h.elim
 exact h.elim
def ZmR {ex:Ts->R Ex} {k i:Nat} {l x:List Ex} {ts t1:Ts} (h:ZjL ex (k+1) i l ts=.ok x t1):∃ts2 v t2,(if i=0 then ts2=ts else isW ts [[44]]=true/\ts2=ts.tail)/\ex ts2=.ok v t2/\ZjL ex k (i+1) (l++[v]) t2=.ok x t1:=by
 rw [ZjL] at h;obtain ⟨_,ts2,h1,h⟩:=ZEG h;obtain ⟨v,t2,h2,h⟩:=ZEG h;refine ⟨ts2,v,t2,?_,h2,h⟩;split at h1
 ·cases h1;rw [Th (by assumption)]
 rw [Tf (by assumption)];exact ZdD h1
def Zsr {n:Nat} (he:PC w0 nG 225 (VU n 6)):PC w0 nG 297 (ZjM n):=by
 refine pwt (tbl:=[(174,JO),(171,Ux),(225,VU n 6),(175,Zbp)]) ⟨Zax,UX,he,Zcz,trivial⟩ Tryz.func297 fun args σ K h=>?_
 unfold ZjM iSp at h
 split at h
 ·rename_i rest t rows a en dp w q
  obtain ⟨L,d,ts,⟨rfl,rfl,rfl⟩,ho,h⟩:=h;split at h
  ·rename_i op mm ee pp
   obtain ⟨⟨rfl,rfl,gx⟩,o,rfl,x,t1,hx,h⟩:=h;obtain ⟨hw,⟨e,rfl⟩,t2,hy,h2⟩:=ZdE hx
   clear hx
   have hx:=hy
   clear hy
   obtain ⟨ez,rfl⟩:isW t2 [[41]]=true/\t1=t2.tail:=by rcases h2 with ⟨g,_⟩ | g;exact absurd g dM;exact g.2
   have h64:=ho.d64;refine pwu [(8,⟨[6],[0,3,4,5],fun vs σ=>∃(i:Nat) (l:List Ex) (a' dp':Int) (ts':Ts),vs=[.d (.int .i64 i)]/\(l.length=i/\i<=WG o) /\
     σ=⟨[U9 t L a' en dp',.cells 138 [.d (.int .u8 o),.d (.str []),.d (.int .i64 0),.sl 0 138 (l.map (ZW (Zb L en))),.d (.int .i64 pp)],.cells 138 [.d (.int .u8 0),.d (.str []),.d (.int .i64 0),.sl 1 138 [],.d (.int .i64 0)]],[1,0],2⟩/\a<=a'/\IK L a' dp' e ts'/\ZjL (exJ e) (WG o - i) i l ts'=.ok x t2,
    fun vs _=>match vs with | [.d (.int _ i)]=>((WG o:Int) - i).toNat | _=>0⟩)] 1 false ?_
   conv=>whnf
   refine ZEw (fun zu=>?_) (fun zu=>?_)
   all_goals
    conv=>whnf
    refine ZEw (fun h22=>?_) (fun h22=>?_)
    all_goals conv=>whnf
   ·omega
   case' refine_1.refine_2=>have lu:WG o=2:=by unfold WG;rw [Tf oM,Th oM]
   case' refine_2.refine_1=>have lu:WG o=3:=by unfold WG;rw [Th oM]
   case' refine_2.refine_2=>have lu:WG o=1:=by unfold WG;rw [Tf oM,Tf oM]
   all_goals
    rw [lu] at hx;refine ⟨L,_,_,⟨rfl,rfl,rfl⟩,ho,hw,e,rfl,?_⟩;intro a1 dp1 cg ak
    conv=>whnf
    refine ⟨⟨0,[],a1,dp1,_,rfl,⟨rfl,oM⟩,rfl,oM,ak,by rw [lu];exact hx⟩,?_⟩;intro vs σ hI
    obtain ⟨i,l,a2,dp2,ts2,rfl,⟨tu,nj⟩,rfl,dl,ah,hx⟩:=hI;rw [lu] at nj hx;have mr:(l.map (ZW (Zb L en))).length<=3:=by rw [Te];omega
    conv=>whnf
    refine ZEw (fun hc=>?_) (fun hc=>?_)
    ·have hi:(i:Int)<_:=hc;obtain ⟨k,hk⟩:∃k,WG o - i=k+1:=⟨WG o - i - 1,by rw [lu];omega⟩
     rw [lu] at hk;rw [hk] at hx;obtain ⟨ts3,⟨eo,es,em,er,ep⟩,t4,h3,hv,kr⟩:=ZmR hx;have be:WG o - (i+1)=k:=by rw [lu];omega
     conv=>whnf
     refine ZEw (fun h0=>?_) (fun h0=>?_)
     case' refine_1.refine_1 =>
      rw [Tf oM] at h3;obtain ⟨h3,rfl⟩:=h3;(conv=>whnf);refine ⟨L,_,_,⟨rfl,rfl,rfl⟩,ah,h3,?_⟩;intro a5 dp5 jg cq
     case' refine_1.refine_2 =>
      rw [Th oM] at h3;subst h3;have jg:=Int.le_refl a2;have cq:=ah
     all_goals
      conv=>whnf
      refine ⟨L,_,_,⟨rfl,rfl,rfl⟩,cq,0,⟨rfl,oM,.inl oM⟩,_,_,hv,?_⟩;intro a6 dp6 ny fb
      conv=>whnf
      refine ⟨Tw.2 rfl,(show ((l.map (ZW (Zb L en))).length+1) * 64<=2 ^ 47 by omega),(show (l.map (ZW (Zb L en))).length+1<=2 ^ 47 by omega),wN ?_⟩
      (repeat (refine ⟨rfl,?_⟩;conv=>whnf))
      refine Zj ?_;refine ⟨⟨i+1,l++[.mk eo es em er ep],_,_,_,rfl,⟨by rw [Ta,tu];rfl,by rw [lu];omega⟩,by rw [TP];rfl,oM,fb,by rw [be];exact kr⟩,?_⟩;show ((WG o:Int) - ((i:Int)+1)).toNat<((WG o:Int) - (i:Int)).toNat;omega
    have hi:¬(i:Int)<_:=hc;have hk:WG o - i=0:=by rw [lu];omega
    rw [lu] at hk;rw [hk] at hx
    cases hx
    rw [Ze] at h;(conv=>whnf);refine ⟨L,_,_,⟨rfl,rfl,rfl⟩,ah,⟨ez,oM⟩,?_⟩;intro a5 dp5 jg cq
    conv=>whnf
    (repeat (refine ⟨rfl,?_⟩;conv=>whnf))
    exact h _ _ oM cq
  exact h.elim
 exact h.elim
def Zst {n:Nat} (hp:PC w0 nG 282 (ZdI (fun d=>ZmP d (exU d)) n)) (he:PC w0 nG 225 (VU n 6)):PC w0 nG 258 (ZdI Zup n):=by
 refine pwt (tbl:=[(106,JN),(57,XZ),(174,JO),(282,ZdI (fun d=>ZmP d (exU d)) n),(225,VU n 6)]) ⟨Zav,XF,Zax,hp,he,trivial⟩ Tryz.func258 fun args σ K h=>?_
 unfold ZdI iR iSp at h
 split at h
 ·rename_i rest t rows a en dp w q
  obtain ⟨L,d,ts,⟨rfl,rfl,rfl⟩,ho,h⟩:=h;split at h
  ·obtain ⟨gx,x,t1,hx,h⟩:=h;rw [ZvV] at hx;have h64:=ho.d64;refine pwv [] 1 false ?_;refine ⟨L,_,_,⟨rfl,rfl,rfl⟩,ho,?_⟩;intro a1 dp1 cg ak
   conv=>whnf
   refine ⟨L,_,_,⟨rfl,rfl,rfl⟩,ak,0,⟨rfl,oM⟩,fun b1 bu=>?_⟩;have bu:isW ts [[45]]=b1:=bu;intro a2 dp2 dl ah
   cases b1
   all_goals
    conv=>whnf
    refine ⟨L,_,_,⟨rfl,rfl,rfl⟩,ah,0,⟨rfl,oM⟩,fun b2 dw=>?_⟩;have dw:isW ts [[126]]=b2:=dw;intro a3 dp3 dx am
    rw [ZBA,bu,dw] at hx
    cases b2
    all_goals
     first | rw [Th rfl] at hx | rw [Tf sM,Th rfl] at hx | rw [Tf sM,Tf sM] at hx
   case' false.false =>
    obtain ⟨eo,es,em,er,ep⟩:=x;(conv=>whnf);refine ⟨L,_,_,⟨rfl,rfl,rfl⟩,am,gx,_,_,hx,?_⟩;intro a4 dp4 eu cf
    conv=>whnf
    exact h _ _ oM cf
   all_goals
    obtain ⟨⟨eo,es,em,er,ep⟩,t2,hx,hq⟩:=ZEG hx
    cases hq
    obtain ⟨hw,⟨e,rfl⟩,t3,hy,h2⟩:=ZdE hx
    clear hx
    have hx:=hy
    clear hy
    obtain rfl:t1=t3:=by rcases h2 with ⟨_,g⟩ | ⟨g,_⟩;exact g;exact absurd rfl g
    conv=>whnf
    refine ⟨L,_,_,⟨rfl,rfl,rfl⟩,am,hw,e,rfl,?_⟩;intro a4 dp4 eu cf
    conv=>whnf
    refine ⟨L,_,_,⟨rfl,rfl,rfl⟩,cf,5,⟨rfl,oM,.inl oM⟩,_,_,hx,?_⟩;intro a5 dp5 jg cq
    have z5:=cq.dpe;(conv=>whnf);refine Zj ?_;exact h _ _ oM ⟨cq.toROK,oM,oM,cq.kinds⟩
  exact h.elim
 exact h.elim
def Zsv {n:Nat} (he:PC w0 nG 225 (VU n 6)):PC w0 nG 282 (ZdI (fun d=>ZmP d (exU d)) n):=by
 refine Zbc ZC mixed (tbl:=[(224,Uw),(174,JO),(225,VU n 6),(175,Zbp),(176,ZdJ n),(107,Zbq),(57,XZ),(257,Xk),(297,ZjM n)]) ⟨Zbs,Zax,he,Zcz,ZgG he,ZcA,XF,ZdF,Zsr he,trivial⟩ Tryz.func282 rfl kR kR ?_;intro args σ K h
 unfold ZdI iR iSp at h
 split at h
 ·rename_i rest t rows a en dp w q
  obtain ⟨L,d,ts,⟨rfl,rfl,rfl⟩,ho,h⟩:=h;split at h
  ·obtain ⟨gx,x,t1,hx,h⟩:=h;have h64:=ho.d64
   change ZmP d (exU d) ts=.ok x t1 at hx
   rw [ZmP] at hx;split at hx
   ·cases hx
   rename_i hst
   have hst:ZU ts=true:=by simpa using hst
   refine ⟨Zk [],Ye [],ZB [],ZB [],ZB [297],1,false,sM,Tc rfl,wN ?_⟩;refine ⟨L,_,_,⟨rfl,rfl,rfl⟩,ho,fun b hb=>?_⟩;obtain rfl:b=true:=hb.symm.trans hst;intro a1 dp1 cg ak
   have ai:ts≠[]:=by rintro rfl;simp [ZU,hd] at hst
   have hn:=ak.tl ai;obtain ⟨h0,y,hy,ey,_,ia,ff⟩:=ak.at0 (ak.lt ai);rw [ey] at hx;have ff:=ff en;have ir:y.t0.kind=y.kind:=rfl;have xn:y.t0.text=y.text:=rfl;have hxn:y.t0.n=y.n:=rfl;rw [ir,xn,hxn] at hx;(conv=>whnf);refine ⟨_,h0,hy,wN ?_⟩
   (repeat (refine ⟨rfl,?_⟩;conv=>whnf))
   refine ZEw (fun hc=>?_) (fun hc=>wN ?_)
   ·rw [Th (show y.kind=2 by have hc:(y.kind:Int)=2:=hc;omega)] at hx;exact mq52
   rw [Tf (show ¬y.kind=2 by have hc:¬(y.kind:Int)=2:=hc;omega)] at hx;refine ZEw (fun hc=>?_) (fun hc=>wN ?_)
   ·rw [Th (show y.kind=3 by have hc:(y.kind:Int)=3:=hc;omega)] at hx;exact mq52
   rw [Tf (show ¬y.kind=3 by have hc:¬(y.kind:Int)=3:=hc;omega)] at hx;refine ZEw (fun hc=>?_) (fun hc=>wN ?_)
   ·rw [Th (show y.text=[40] from hc)] at hx;obtain ⟨hw,⟨e,rfl⟩,t2,hy,h2⟩:=ZdE hx
    clear hx
    have hx:=hy
    clear hy
    obtain ⟨ez,rfl⟩:isW t2 [[41]]=true/\t1=t2.tail:=by rcases h2 with ⟨g,_⟩ | g;exact absurd g dM;exact g.2
    obtain ⟨eo,es,em,er,ep⟩:=x;(conv=>whnf);refine ⟨L,_,_,⟨rfl,rfl,rfl⟩,ak,hw,e,rfl,?_⟩;intro a2 dp2 dl ah
    conv=>whnf
    refine ⟨L,_,_,⟨rfl,rfl,rfl⟩,ah,0,⟨rfl,oM,.inl oM⟩,_,_,hx,?_⟩;intro a3 dp3 dx am
    conv=>whnf
    refine ⟨L,_,_,⟨rfl,rfl,rfl⟩,am,⟨ez,oM⟩,?_⟩;exact mq134
   rw [Tf (show ¬y.text=[40] from hc)] at hx;refine ZEw (fun hc=>?_) (fun hc=>wN ?_)
   ·rw [Th (show y.text=[91] from hc)] at hx;obtain ⟨l,t2,hx,hq⟩:=ZEG hx
    cases hq
    simp only [ZW,ff] at h;(conv=>whnf);refine ⟨L,_,_,⟨rfl,rfl,rfl⟩,ak,⟨rfl,sM,gx⟩,_,_,hx,?_⟩;intro a2 dp2 dl ah
    conv=>whnf
    exact h _ _ oM ah
   rw [Tf (show ¬y.text=[91] from hc)] at hx;refine ZEw (fun hc=>?_) (fun hc=>wN ?_)
   ·rw [Th (show y.text=[36] from hc)] at hx;obtain ⟨s,t2,g2,hx⟩:=ZEG hx;obtain ⟨iw,rfl,rfl⟩:=ZgE g2;(conv=>whnf);refine Or.inl ⟨hn.inr,wN ?_⟩;refine ⟨L,_,_,⟨rfl,rfl,rfl⟩,hn,iw,?_⟩;intro a2 dp2 dl ah
    conv=>whnf
    refine ⟨L,_,_,⟨rfl,rfl,rfl⟩,ah,0,⟨rfl,oM⟩,fun b3 gt=>?_⟩;have gt:isW ts.tail.tail [[40]]=b3:=gt;rw [gt] at hx;intro a3 dp3 dx am
    cases b3 with
    | false =>
     rw [Tf sM] at hx
     cases hx
     simp only [ZW,ff] at h;(conv=>whnf);exact h _ _ oM am
    | true =>
    rw [Th rfl] at hx;obtain ⟨l,t4,hx,hq⟩:=ZEG hx
    cases hq
    simp only [ZW,ff] at h;(conv=>whnf);refine ⟨L,_,_,⟨rfl,rfl,rfl⟩,am,⟨rfl,sM,gx⟩,_,_,hx,?_⟩;exact mq134
   rw [Tf (show ¬y.text=[36] from hc)] at hx;refine ZEw (fun hc=>?_) (fun hc=>wN ?_)
   ·rw [Th (show y.text=[110,105,108] from hc)] at hx;exact mq52
   rw [Tf (show ¬y.text=[110,105,108] from hc)] at hx;refine ZEw (fun hc=>?_) (fun hc=>wN ?_)
   ·rw [Th (show y.text=[95] from hc)] at hx;exact mq52
   rw [Tf (show ¬y.text=[95] from hc)] at hx;intro f hf
   conv=>whnf
   refine ZEy (fun hc=>?_) (fun hc=>?_)
   ·rw [Th (show ZT y.text≠0 by omega)] at hx;obtain ⟨l,t2,hx,hq⟩:=ZEG hx
    cases hq
    simp only [ZW,ff] at h;(conv=>whnf);refine Or.inl ⟨hn.inr,wN ?_⟩;intro f2 hf2
    subst hf2;(conv=>whnf);refine ⟨L,_,_,⟨rfl,rfl,rfl⟩,hn,⟨rfl,rfl,gx⟩,ZT y.text,rfl,_,_,hx,?_⟩;intro a2 dp2 dl ah
    conv=>whnf
    exact h _ _ oM ah
   rw [Tf (show ¬ZT y.text≠0 by omega)] at hx;exact mq52
  exact h.elim
 exact h.elim
def Zuq {ts:Ts}:∀(ws:List Bs) (os:List Nat),opJ ts ws os 0≠0->ts≠[]
 | [],_,h=>absurd rfl h
 | _::_,[],h=>absurd rfl h
 | w::ws,o::os,h=>by
  rintro rfl
  exact Zuq (ts:=[]) ws os h rfl
def Zur (n l:Nat):Tbl:=[(258,ZdI Zup n),(259,Zpi),(225,VU n (l+1)),(57,XZ)]
def ZzG {n l:Nat} (ht:TO w0 nG (Zur n l)):PC w0 nG 225 (VU n l):=by
 refine YF ZC mixed (tbl:=Zur n l) ht Tryz.func225 rfl kR kR ?_;intro args σ K h
 unfold VU iSp at h
 split at h
 ·rename_i rest t rows a en dp w q
  obtain ⟨L,d,ts,⟨rfl,rfl,rfl⟩,ho,h⟩:=h;split at h
  ·obtain ⟨j,⟨rfl,hj5,gx⟩,x,t1,hx,h⟩:=h;refine ⟨Zk [(7,⟨[],[0,1,4,5,6,7],fun vs σ=>∃(f eo:Nat) (es:Bs) (em:Int) (er:List Ex) (ep:Nat) (a' dp':Int) (ts':Ts),vs=[] /\
     σ=⟨[U9 t L a' en dp',.cells 138 [.d (.int .u8 0),.d (.str []),.d (.int .i64 0),.sl 0 138 [],.d (.int .i64 0)],.cells 138 [.d (.int .u8 eo),.d (.str es),.d (.int .i64 em),.d (.sl (Zp (Zb L en) er)),.d (.int .i64 (Zb L en ep))]],[0],1⟩/\a<=a'/\IK L a' dp' d ts'/\Zso (ZvU (Zup d) (4 - j)) j f (.mk eo es em er ep) ts'=.ok x t1,Zy4 L⟩)],Ye [(10,5)],ZB [],1,false,sM,Tc rfl,?_⟩
   conv=>whnf
   refine ZEw (fun h5=>?_) (fun h5=>?_)
   ·have h5:j=5:=by have h5:(j:Int)=5:=h5;omega
    subst h5;obtain ⟨eo,es,em,er,ep⟩:=x;(conv=>whnf);refine ⟨L,_,_,⟨rfl,rfl,rfl⟩,ho,(show d<n+1 by omega),_,_,hx,?_⟩;intro a1 dp1 cg ak
    conv=>whnf
    exact h _ _ oM ak
   have h5:j<=4:=by have h5:¬(j:Int)=5:=h5;omega
   rw [show 5 - j=(4 - j)+1 by omega] at hx;obtain ⟨⟨eo,es,em,er,ep⟩,t2,g1,hx⟩:=ZEG hx;rw [show 4 - (4 - j)=j by omega] at hx;(conv=>whnf);refine ⟨j,rfl,h5,wN ?_⟩;refine Zj ?_;refine ⟨L,_,_,⟨rfl,rfl,rfl⟩,ho,j+1,⟨oM,oM,oM⟩,_,_,by rw [show 5 - (j+1)=4 - j by omega];exact g1,?_⟩;intro a1 dp1 cg ak
   conv=>whnf
   refine ⟨⟨_,eo,es,em,er,ep,a1,dp1,_,rfl,rfl,oM,ak,hx⟩,?_⟩
   clear hx g1
   intro vs σ hI
   obtain ⟨f,eo,es,em,er,ep,a2,dp2,ts2,rfl,rfl,dl,ah,hx⟩:=hI
   cases f with
   | zero=>cases hx
   | succ f =>
   rw [Zso] at hx;obtain ⟨o,fg⟩:∃o,opJ ts2 (ZzE j) (ZzF j) 0=o:=⟨_,rfl⟩
   have ai:o≠0->ts2≠[]:=fun g=>Zuq _ _ (by rw [fg];exact g)
   rw [fg] at hx;obtain ⟨k,hk⟩:∃k:Nat,k=j+1:=⟨_,rfl⟩
   have ox:5 - k=4 - j:=oM;have dk:j=0\/j=1\/j=2\/j=3\/j=4:=oM;rcases dk with rfl | rfl | rfl | rfl | rfl
   all_goals
    simp [ZzE,ZzF,opJ] at fg
    (repeat'
     conv=>whnf
     refine ⟨_,dM,rfl,wN ?_⟩;refine ⟨L,_,_,⟨rfl,rfl,rfl⟩,ah,0,⟨rfl,oM⟩,fun b hb=>?_⟩;rw [show isW ts2 [_]=b from hb] at fg
     clear hb
     intro a3 dp3 dx am
     have dl:=Int.le_trans dl dx;have ah:=am
     cases b
     case' true =>
      conv=>whnf
      refine ⟨_,dM,rfl,?_⟩
     all_goals
      conv=>whnf
      refine oiD ?_)
   all_goals
    simp at fg;subst fg;(conv=>whnf)
   all_goals first
    | (rw [Th rfl] at hx;cases hx;exact h _ _ oM (by assumption))
    | (rw [Tf dM] at hx
       obtain ⟨⟨go,gs,gm,gr,gp⟩,t3,g3,hx⟩:=ZEG hx;have hn:=ah.tl (ai dM);have hh:=hn.hi;refine Or.inl ⟨hn.inr,wN ?_⟩;refine Vd ?_;refine ⟨L,_,_,⟨rfl,rfl,rfl⟩,hn,k,⟨oM,oM,oM⟩,_,_,by rw [ox];exact g3,?_⟩;intro a6 dp6 ny fb
       conv=>whnf
       refine ⟨⟨f,_,_,_,_,_,a6,dp6,_,rfl,by rfl,oM,fb,hx⟩,?_⟩;show ((L.length:Int) - a6).toNat<((L.length:Int) - a2).toNat;omega)
  exact h.elim
 exact h.elim
def Zbt:PC w0 nG 190 Xk:=by
 refine pwe Tryz.func190 fun args σ K h=>?_
 exact mq83
def ZvX:Tbl:=[(190,Xk)]
def ZjN:PC w0 nG 129 Zid:=by
 refine pwt (tbl:=ZvX) ⟨Zbt,trivial⟩ Tryz.func129 fun args σ K h=>?_
 unfold Zid at h
 split at h
 ·rename_i s
  refine pwu [] 0 false ?_
  repeat' ((conv=>whnf);refine ZEw (fun hc=>?_) (fun hc=>?_))
  all_goals (conv=>whnf)
  all_goals first
   | contradiction
   | exact h _ (by subst_vars;decide)
   | skip
  intro n hn
  conv=>whnf
  refine h _ ?_;have hk:keptWords.contains s=false:=by
   have:¬s∈keptWords:=by
    simp only [keptWords,Tv,Sv,or_false,not_or]
    repeat' (first | assumption | refine ⟨by assumption,?_⟩)
   rw [Bool.eq_false_iff];intro g
   exact this (List.contains_iff_mem.1 g)
  rw [Zbk,hk,<- hn]
  by_cases h0:ZT s=0 <;> simp [h0]
 exact h.elim
def Zft (s w:Bs) (i:Nat) (ws:List Bs):ZeA s i (w::ws)=if s=w then (i:Int) else ZeA s (i+1) ws:=rfl
def Zif (s:Bs):∀(ws:List Bs) (i:Nat),(0<=ZeA s i ws)↔ws.contains s=true
 | [],i=>by simp [ZeA]
 | w::ws,i=>by
  rw [Zft];split
  ·rename_i h;subst h;simp
  rename_i h;rw [Zif s ws];simp [h]
def ZmS (s:Bs) (ws:List Bs) (i:Nat) (h:i<ws.length):ZeA s i (ws.drop i)=if s=ws[i] then (i:Int) else ZeA s (i+1) (ws.drop (i+1)):=by
 rw [Tl h,Zft]
def Zpj:PC w0 nG 244 ZgD:=by
 refine pwe Tryz.func244 fun args σ K h=>?_
 unfold ZgD at h
 split at h
 ·rename_i rows s
  obtain ⟨ws,rfl,hw,h⟩:=h;refine pwv [(2,⟨[8],[0,1,7],fun vs σ=>∃i:Nat,vs=[.d (.int .i64 i)]/\σ=⟨[],[],0⟩/\i<=ws.length/\ZeA s 0 ws=ZeA s i (ws.drop i),mu1 ws.length⟩)] 0 false ?_;refine ⟨⟨0,rfl,rfl,oM,rfl⟩,?_⟩;intro vs σ hI
  obtain ⟨i,rfl,rfl,hi,hx⟩:=hI;(conv=>whnf);refine ZEw (fun hc=>wN ?_) (fun hc=>wN ?_)
  ·have hc:i<ws.length:=by have hc:(i:Int)<((ws.map Ym).length:Int):=hc;rw [Te] at hc;omega
   refine ⟨Ym ws[i],oM,by simp [hc],wN ?_⟩;rw [ZmS s ws i hc] at hx;refine ZEw (fun h1=>wN ?_) (fun h1=>wN ?_)
   ·rw [hx,Th h1] at h;exact h
   rw [Tf h1] at hx;refine Zj ?_;refine ⟨⟨i+1,rfl,rfl,oM,hx⟩,?_⟩;exact lzM oM
  have hc:ws.length<=i:=by have hc:¬(i:Int)<((ws.map Ym).length:Int):=hc;rw [Te] at hc;omega
  rw [Tr hc] at hx;rw [hx] at h;exact h
 exact h.elim
def ZvY:Tbl:=[(244,ZgD)]
def ZjO:PC w0 nG 208 Zbo:=by
 refine pwt (tbl:=ZvY) ⟨Zpj,trivial⟩ Tryz.func208 fun args σ K h=>?_
 unfold Zbo at h
 split at h
 ·rename_i rows s
  obtain ⟨ws,rfl,hw,h⟩:=h;refine pwv [] 0 false ?_;refine ⟨ws,rfl,hw,wN ?_⟩;exact h _ (by rw [Bool.eq_iff_iff,TQ,<- Zif s ws 0])
 exact h.elim
def JP:PC w0 nG 207 Zau:=by
 refine pwe Tryz.func207 fun args σ K h=>?_
 unfold Zau Xq at h
 split at h
 ·rename_i t rows a en dp
  obtain ⟨L,ts,rfl,ho,h⟩:=h;split at h
  ·rename_i n
   have hl:=ho.len;have h0:=ho.lo;have h1:=ho.hi;have h2:=ho.big;have hn:n=0\/n=1:=by rcases h 0 with g | g <;> simp [g.1]
   refine pwv [] 1 false ?_;refine Zj ?_;refine ZEw (fun hc=>?_) (fun hc=>wN ?_)
   ·have hc:a+n<L.length:=by have hc:a+n<((Zz L).length:Int):=hc;rw [ZV] at hc;exact hc
    rcases hn with rfl | rfl
    ·cases ts with
     | nil=>simp at hl;omega
     | cons t0 ts =>
     obtain ⟨x,hx,rfl,hp⟩:=ho.get;(conv=>whnf);refine ⟨Zvo x,oM,by simp [Zz,hx],wN ?_⟩;have h:=h x.fin;rw [Td,hp] at h;rcases h with h | h
     ·exact h.2
     exact absurd h.1 oM
    cases ts with
    | nil=>simp at hl;omega
    | cons t1 ts =>
    cases ts with
    | nil=>simp at hl;omega
    | cons t0 ts =>
    obtain ⟨x,hx,rfl,hp⟩:=ho.next.get;(conv=>whnf);refine ⟨Zvo x,oM,by simp [Zz,hx],wN ?_⟩;have h:=h x.fin;simp only [List.tail_cons,Td,hp] at h;rcases h with h | h
    ·exact absurd h.1 oM
    exact h.2
   have hc:¬a+n<L.length:=by have hc:¬a+n<((Zz L).length:Int):=hc;rw [ZV] at hc;exact hc
   have h:=h 0;rcases hn with rfl | rfl
   ·cases ts with
    | nil => rcases h with h | h
             ·have h:=h.2;simp only [Tg,Uu] at h;exact h
             exact absurd h.1 oM
    | cons t0 ts=>simp at hl;omega
   have:ts.tail=[]:=by
    cases ts with
    | nil=>rfl
    | cons t1 ts=>cases ts with
     | nil=>rfl
     | cons t0 ts=>simp at hl;omega
   rw [this] at h;rcases h with h | h
   ·exact absurd h.1 oM
   have h:=h.2;simp only [Tg,Uu] at h;exact h
  exact h.elim
 exact h.elim
def Zsx:OKw w0 nG [(207,Zau)] 159 WK:=by
 refine pwo Tryz.func159 fun args σ K h=>?_
 unfold WK Xq at h
 split at h
 ·rename_i rest t rows a en dp
  obtain ⟨L,ts,rfl,ho,h⟩:=h;split at h
  ·skip
   refine pwv [] 1 false ?_;refine ⟨L,ts,rfl,ho,fun fin=>Or.inl ⟨rfl,wN ?_⟩⟩;exact h
  exact h.elim
 exact h.elim
def ZCi:OKw w0 nG [(207,Zau),(208,Zbo)] 154 Zie:=by
 refine pwo Tryz.func154 fun args σ K h=>?_
 unfold Zie Xq at h
 split at h
 ·rename_i rest t rows a en dp
  obtain ⟨L,ts,rfl,ho,h⟩:=h;split at h
  ·rename_i rows
   obtain ⟨ws,rfl,hw,h⟩:=h;refine pwv [] 1 false ?_;refine ⟨L,ts,rfl,ho,fun fin=>Or.inl ⟨rfl,wN ?_⟩⟩;refine ZEw (fun h1=>wN ?_) (fun h1=>wN ?_)
   ·refine ⟨ws,rfl,hw,fun b hb=>wN ?_⟩;exact h _ (by simp only [isW,hb];simp [show (hd ts).kind=1 by omega])
   refine ZEw (fun h2=>wN ?_) (fun h2=>wN ?_)
   ·refine ⟨ws,rfl,hw,fun b hb=>wN ?_⟩;exact h _ (by simp only [isW,hb];simp [show (hd ts).kind=4 by omega])
   exact h _ (by simp [isW,show ¬(hd ts).kind=1 by omega,show ¬(hd ts).kind=4 by omega])
  exact h.elim
 exact h.elim
def Zsz:OKw w0 nG [(207,Zau),(129,Zid)] 163 (JM ZG):=by
 refine pwo Tryz.func163 fun args σ K h=>?_
 unfold JM Xq at h
 split at h
 ·rename_i rest t rows a en dp
  obtain ⟨L,ts,rfl,ho,h⟩:=h;split at h
  ·skip
   refine pwv [] 1 false ?_;refine ⟨L,ts,rfl,ho,fun fin=>Or.inl ⟨rfl,wN ?_⟩⟩;refine ZEw (fun h1=>wN ?_) (fun h1=>wN ?_)
   ·refine ZEy (fun h2=>wN ?_) (fun h2=>wN ?_)
    ·intro b hb
     conv=>whnf
     exact h _ (by simp only [ZG,hb];rw [TL (show (hd ts).kind=1 by omega),decide_eq_false h2];simp)
    exact h _ (by simp only [ZG];rw [TL (p:=(hd ts).text=[95]) h2];simp)
   exact h _ (by simp [ZG,show ¬(hd ts).kind=1 by omega])
  exact h.elim
 exact h.elim
def Zv0:OKw w0 nG [(159,WK)] 153 YS:=by
 refine pwo Tryz.func153 fun args σ K h=>?_
 unfold YS Xq at h
 split at h
 ·rename_i rest t rows a en dp
  obtain ⟨L,ts,rfl,ho,h⟩:=h;split at h
  ·skip
   refine pwv [] 1 false ?_;refine ⟨L,ts,rfl,ho,wN ?_⟩;exact h
  exact h.elim
 exact h.elim
def Zv2:OKw w0 nG [(154,Zie)] 209 X5:=by
 refine pwo Tryz.func209 fun args σ K h=>?_
 unfold X5 Xq at h
 split at h
 ·rename_i rest t rows a en dp
  obtain ⟨L,ts,rfl,ho,h⟩:=h;split at h
  ·rename_i rows
   obtain ⟨ws,rfl,hw,h1,h2⟩:=h;refine pwv [] 1 false ?_;refine ⟨L,ts,rfl,ho,ws,rfl,hw,fun b hb=>?_⟩
   cases b with
   | true =>
    have ah:=ho.tl (Yz hb);have g1:=ho.lo;have g2:=ah.hi;have g3:=ah.big;(conv=>whnf);refine Zj ?_;exact h1 hb ah
   | false =>
   conv=>whnf
   exact h2 hb
  exact h.elim
 exact h.elim
def Zv4:OKw w0 nG [(209,X5),(153,YS)] 161 Xt:=by
 refine pwo Tryz.func161 fun args σ K h=>?_
 unfold Xt Xq at h
 split at h
 ·rename_i rest t rows a en dp
  obtain ⟨L,ts,rfl,ho,h⟩:=h;split at h
  ·rename_i w
   refine pwv [] 1 false ?_;refine ⟨L,ts,rfl,ho,[w],rfl,sM,fun hb ah=>wN ?_,fun hb=>wN ?_⟩
   ·have h:=h _ rfl;rw [ZR,Th hb] at h;exact h _ oM ah
   refine ⟨L,ts,rfl,ho,wN ?_⟩;have h:=h _ rfl;rw [ZR,Tf (by rw [hb];simp)] at h;exact h _ _
  exact h.elim
 exact h.elim
def Zv6:OKw w0 nG [(153,YS)] 155 Zla:=by
 refine pwo Tryz.func155 fun args σ K h=>?_
 unfold Zla Xq at h
 split at h
 ·rename_i rest t rows a en dp
  obtain ⟨L,ts,rfl,ho,h⟩:=h;split at h
  ·rename_i n m
   refine pwv [] 1 false ?_;have g1:=ho.lo;have g2:=ho.hi;have g3:=ho.big;refine ZEw (fun hc=>wN ?_) (fun hc=>wN ?_)
   ·refine ⟨L,ts,rfl,ho,wN ?_⟩;exact h.1 hc
   refine Zj ?_;exact h.2 hc
  exact h.elim
 exact h.elim
def ZsB:OKw w0 nG [(163,(JM ZG)),(153,YS)] 160 XB:=by
 refine pwo Tryz.func160 fun args σ K h=>?_
 unfold XB spR Xq at h
 split at h
 ·rename_i rest t rows a en dp
  obtain ⟨L,ts,rfl,ho,h⟩:=h;split at h
  ·skip
   refine pwv [] 1 false ?_;have h:=h _ rfl;refine ⟨L,ts,rfl,ho,fun b hb=>?_⟩
   cases b with
   | true =>
    have ah:=ho.tl (ZdB hb);have g1:=ho.lo;have g2:=ah.hi;have g3:=ah.big;rw [YO,Th hb] at h;(conv=>whnf);refine Zj ?_;refine Zj ?_
    cases ts with
    | nil=>exact absurd rfl (ZdB hb)
    | cons t0 ts =>
    obtain ⟨x,hx,rfl,hp⟩:=ho.get;refine ⟨Zvo x,oM,by rw [show a+1 - 1=a by omega];simp [Zz,hx],wN ?_⟩;exact h _ oM ah
   | false =>
   rw [YO,Tf (by rw [hb];simp)] at h;(conv=>whnf);exact mq74
  exact h.elim
 exact h.elim
def Zpl:OKw w0 nG [(207,Zau),(154,Zie),(129,Zid),(190,Xk)] 249 (JM ZU):=by
 refine pwo Tryz.func249 fun args σ K h=>?_
 unfold JM Xq at h
 split at h
 ·rename_i rest t rows a en dp
  obtain ⟨L,ts,rfl,ho,h⟩:=h;split at h
  ·skip
   refine pwv [] 1 false ?_;refine ⟨L,ts,rfl,ho,fun fin=>Or.inl ⟨rfl,wN ?_⟩⟩;refine ZEw (fun h1=>wN ?_) (fun h1=>wN ?_)
   ·refine ZEw (fun _=>wN ?_) (fun g=>absurd h1 g);exact h _ (by rw [ZU,Th oM])
   refine ZEw (fun h2=>wN ?_) (fun h2=>wN ?_)
   ·exact h _ (by rw [ZU,Th oM])
   refine ZEw (fun h3=>wN ?_) (fun h3=>wN ?_)
   ·refine ⟨L,ts,rfl,ho,[[45],[126],[40],[91],[36]],rfl,sM,fun b hb=>wN ?_⟩;exact h _ (by rw [ZU,Tf oM,Th oM];exact hb)
   refine ZEw (fun h4=>wN ?_) (fun h4=>wN ?_)
   ·have e0:ZU ts=(!Zbk (hd ts).text || (decide ((hd ts).text=[110,105,108]) || decide (ZT (hd ts).text≠0))):=by rw [ZU,Tf oM,Tf oM,Th oM]
    rw [e0] at h;intro b hb
    rw [hb] at h
    cases b with
    | false => conv => whnf
               exact h _ rfl
    | true =>
    conv=>whnf
    refine ZEw (fun h5=>wN ?_) (fun h5=>wN ?_)
    ·exact h _ (by rw [TL (p:=(hd ts).text=[110,105,108]) h5];rfl)
    intro n hn
    conv=>whnf
    exact h _ (by rw [decide_eq_false (p:=(hd ts).text=[110,105,108]) h5,<- hn];by_cases g:ZT (hd ts).text=0 <;> simp [g])
   exact h _ (by rw [ZU,Tf oM,Tf oM,Tf oM])
  exact h.elim
 exact h.elim
def ZsC:Zm:=Xq fun rest L en dp a ts K=>match rest with
 | []=>∀n k:Int,((Zcf ts).1:Int)=n->((Zcf ts).2:Int)=k->K (.ret (.tuple [.d (.int .i64 n),.d (.int .u8 k)])) a dp
 | _=>False
def Zpm:OKw w0 nG [(207,Zau)] 296 ZsC:=by
 refine pwo Tryz.func296 fun args σ K h=>?_
 unfold ZsC Xq at h
 split at h
 ·rename_i rest t rows a en dp
  obtain ⟨L,ts,rfl,ho,h⟩:=h;split at h
  ·skip
   refine pwv [] 1 false ?_;refine ⟨L,ts,rfl,ho,fun fin=>Or.inl ⟨rfl,wN ?_⟩⟩;refine ZEy (fun h1=>wN ?_) (fun h1=>?_)
   ·refine ZEy (fun h2=>wN ?_) (fun h2=>?_)
    ·have e0:Zcf ts=(0,0):=by rw [Zcf,Th oM]
     exact h _ _ (by rw [e0];rfl) (by rw [e0];rfl)
    have hn:¬((hd ts).kind≠1/\(hd ts).kind≠4):=by omega
    clear h1 h2
    exact mq114
   have hn:¬((hd ts).kind≠1/\(hd ts).kind≠4):=by omega
   clear h1
   exact mq114
  exact h.elim
 exact h.elim
def Zpn (body:List PV->List Tok->Int->Int->Int->Ts->RK->Prop):Zm:=fun args σ K=>match args,σ with
 | .ptr 0 0::rest,⟨[.cells t0 [.ptr 1 0],.cells t [.d (.sl rows),.d (.int .i64 a),.d (.int .i64 en),.d (.int .i64 dp)]],[],0⟩=>∃L ts,rows=Zz L/\ROK L a ts /\
   body rest L en dp a ts fun pe a' dp'=>K pe ⟨[.cells t0 [.ptr 1 0],.cells t [.d (.sl (Zz L)),.d (.int .i64 a'),.d (.int .i64 en),.d (.int .i64 dp')]],[],0⟩
 | _,_=>False
def Zy5 {α:Type} (enc:List Tok->Int->α->PV) (P:Ts->R α) (lo:Int):Zm:=Zpn fun rest L en dp a ts K=>match rest with
 | []=>∀x,P ts=x->RKk (enc L en) L en dp (a+lo) x K
 | _=>False
def Zlb (p:Ts->Bool):Zm:=Zpn fun rest L en dp a ts K=>match rest with
 | []=>∀b,p ts=b->K (.ret (.d (.bool b))) a dp
 | _=>False
def ZiW {α:Type} (enc:List Tok->Int->α->PV) (P:Ts->R α) (lo:Int) (d:Nat):Zm:=Xq fun rest L en dp a ts K=>match rest with
 | []=>(dp=64 - (d:Int)/\0<=dp)/\∀x,P ts=x->RKk (enc L en) L en dp (a+lo) x K
 | _=>False
def Zy {α β:Type} (f:α->β) (l:List α) (x:α):l.map f++[f x]=(l++[x]).map f:=sM
def Uy {α : Type} (sign : Bs) (cm : Nat) (st : Ts -> Bool) (one : Ts -> R α) (f : Nat) (l : List α) (ts : Ts) : WE sign cm st one (f + 1) l ts = if st ts = true /\ l.length = cm then .err ts.length 3
      else (one ts).bind fun x ts=>if isW ts [sign]=true then WE sign cm st one f (l++[x]) ts.tail else .ok (l++[x]) ts:=rfl
def JQ:Zm:=fun args σ K=>match args,σ with
 | [.ptr 0 0,.d (.str sg),.d (.int .i64 m),.func g1 [.ptr 0 0] [],.func g2 [] [.ptr 1 0]],⟨[.cells t [.d (.sl rows),.d (.int .i64 a),.d (.int .i64 en),.d (.int .i64 dp)],.cells t0 [.ptr 0 0]],[],0⟩ =>
   (sg=[44]/\m=12/\g1=163/\g2=246)/\∃L ts,rows=Zz L/\ROK L a ts/\∀x,XX [44] 12 ZG Vo ts=x ->
    RKk (fun (l:List Fi)=>.d (.sl (l.map (Zn)))) L en dp a x fun pe a' dp'=>K pe ⟨[.cells t [.d (.sl (Zz L)),.d (.int .i64 a'),.d (.int .i64 en),.d (.int .i64 dp')],.cells t0 [.ptr 0 0]],[],0⟩
 | _,_=>False
def Zih:OKw w0 nG ([(163,(JM ZG)),(153,YS),(246,(Zy5 (fun _ _ (v:Fi)=>Uv (Zn v)) Vo 1)),(209,X5)]) 245 (JQ):=by
 refine pwo Tryz.func245 fun args σ K h=>?_
 unfold JQ at h
 split at h
 ·rename_i sg m g1 g2 t rows a en dp t0
  obtain ⟨⟨rfl,rfl,rfl,rfl⟩,L,ts,rfl,ho,h⟩:=h;have h:=h _ rfl;have hl:=ho.len;have dr:=ho.big;have l7:=ho.lo;refine pwu [(2,⟨[11],[0,1,2,3,4],fun vs σ=>∃(l:List Fi) (a':Int) (ts':Ts) (f:Nat),vs=[.sl 0 89 (l.map (Zn))] /\
   σ=⟨[.cells t [.d (.sl (Zz L)),.d (.int .i64 a'),.d (.int .i64 en),.d (.int .i64 dp)],.cells t0 [.ptr 0 0]],[0],1⟩/\ROK L a' ts'/\a+l.length<=a'/\ts'.length<f /\
   XX [44] 12 ZG Vo ts=WE [44] 12 ZG Vo f l ts',
   fun _ σ=>match σ with | ⟨.cells _ [_,.d (.int _ i),_,_]::_,_,_⟩=>((L.length:Int) - i).toNat | _=>0⟩)] 2 false ?_
  conv=>whnf
  refine ⟨⟨[],a,ts,ts.length+1,rfl,rfl,ho,sM,oM,rfl⟩,?_⟩;intro vs σ hI
  obtain ⟨l,a1,ts1,f,rfl,rfl,ak,xq,hf,hm⟩:=hI;obtain ⟨f,rfl⟩:∃g,f=g+1:=⟨f - 1,oM⟩
  rw [Uy] at hm;have cg:=ak.len;have rc:=ak.hi;(conv=>whnf);refine ⟨L,ts1,rfl,ak,fun b hb=>?_⟩;have step:(¬(ZG ts1=true/\l.length=12))->XX [44] 12 ZG Vo ts=((Vo) ts1).bind fun x ts=>if isW ts [[44]]=true then WE [44] 12 ZG Vo f (l++[x]) ts.tail else .ok (l++[x]) ts:=fun g=>by rw [hm,Tf g]
  cases b with
  | false =>
   have step:=step (by rw [hb];simp);(conv=>whnf);exact mq19
  | true =>
  conv=>whnf
  refine ZEw (fun hc=>wN ?_) (fun hc=>wN ?_)
  ·have hc:l.length=12:=by
    have hc:((l.map (Zn)).length:Int)=12:=hc;rw [Te] at hc;omega
   exact mq70
  have step:=step (fun g=>hc (by show ((l.map (Zn)).length:Int)=12;rw [Te,g.2];rfl));exact mq19
 exact h.elim
def ZdK:Zm:=fun args σ K=>match args,σ with
 | [.ptr 0 0,.d (.str sg),.d (.int .i64 m),.func g1 [.ptr 0 0] [],.func g2 [.ptr 0 0] []],⟨[.cells t [.d (.sl rows),.d (.int .i64 a),.d (.int .i64 en),.d (.int .i64 dp)]],[],0⟩ =>
   (sg=[44]/\m=12/\g1=163/\g2=160)/\∃L ts,rows=Zz L/\ROK L a ts/\∀x,XX [44] 12 ZG YO ts=x ->
    RKk (fun (l:List Bs)=>.d (.sl (l.map (Ym)))) L en dp a x fun pe a' dp'=>K pe ⟨[.cells t [.d (.sl (Zz L)),.d (.int .i64 a'),.d (.int .i64 en),.d (.int .i64 dp')]],[],0⟩
 | _,_=>False
def ZmU:OKw w0 nG ([(163,(JM ZG)),(153,YS),(160,XB),(209,X5)]) 215 (ZdK):=by
 refine pwo Tryz.func215 fun args σ K h=>?_
 unfold ZdK at h
 split at h
 ·rename_i sg m g1 g2 t rows a en dp
  obtain ⟨⟨rfl,rfl,rfl,rfl⟩,L,ts,rfl,ho,h⟩:=h;have h:=h _ rfl;have hl:=ho.len;have dr:=ho.big;have l7:=ho.lo;refine pwu [(2,⟨[11],[0,1,2,3,4],fun vs σ=>∃(l:List Bs) (a':Int) (ts':Ts) (f:Nat),vs=[.sl 0 9 (l.map (Ym))] /\
   σ=⟨[.cells t [.d (.sl (Zz L)),.d (.int .i64 a'),.d (.int .i64 en),.d (.int .i64 dp)]],[0],1⟩/\ROK L a' ts'/\a+l.length<=a'/\ts'.length<f /\
   XX [44] 12 ZG YO ts=WE [44] 12 ZG YO f l ts',
   fun _ σ=>match σ with | ⟨.cells _ [_,.d (.int _ i),_,_]::_,_,_⟩=>((L.length:Int) - i).toNat | _=>0⟩)] 1 false ?_
  conv=>whnf
  refine ⟨⟨[],a,ts,ts.length+1,rfl,rfl,ho,sM,oM,rfl⟩,?_⟩;intro vs σ hI
  obtain ⟨l,a1,ts1,f,rfl,rfl,ak,xq,hf,hm⟩:=hI;obtain ⟨f,rfl⟩:∃g,f=g+1:=⟨f - 1,oM⟩
  rw [Uy] at hm;have cg:=ak.len;have rc:=ak.hi;(conv=>whnf);refine ⟨L,ts1,rfl,ak,fun b hb=>?_⟩;have step:(¬(ZG ts1=true/\l.length=12))->XX [44] 12 ZG YO ts=((YO) ts1).bind fun x ts=>if isW ts [[44]]=true then WE [44] 12 ZG YO f (l++[x]) ts.tail else .ok (l++[x]) ts:=fun g=>by rw [hm,Tf g]
  cases b with
  | false =>
   have step:=step (by rw [hb];simp);(conv=>whnf);exact mq20
  | true =>
  conv=>whnf
  refine ZEw (fun hc=>wN ?_) (fun hc=>wN ?_)
  ·have hc:l.length=12:=by
    have hc:((l.map (Ym)).length:Int)=12:=hc;rw [Te] at hc;omega
   exact mq70
  have step:=step (fun g=>hc (by show ((l.map (Ym)).length:Int)=12;rw [Te,g.2];rfl));exact mq20
 exact h.elim
def Zbu:Zm:=fun args σ K=>match args,σ with
 | [.ptr 0 0,.d (.str sg),.d (.int .i64 m),.func g1 [.ptr 0 0] [],.func g2 [] [.ptr 1 0]],⟨[.cells t [.d (.sl rows),.d (.int .i64 a),.d (.int .i64 en),.d (.int .i64 dp)],.cells t0 [.ptr 0 0]],[],0⟩ =>
   (sg=[124]/\m=64/\g1=163/\g2=212)/\∃L ts,rows=Zz L/\ROK L a ts/\∀x,XX [124] 64 ZG Zdt ts=x ->
    RKk (fun (l:List Ca)=>.d (.sl (l.map (Zt)))) L en dp a x fun pe a' dp'=>K pe ⟨[.cells t [.d (.sl (Zz L)),.d (.int .i64 a'),.d (.int .i64 en),.d (.int .i64 dp')],.cells t0 [.ptr 0 0]],[],0⟩
 | _,_=>False
def ZjQ:OKw w0 nG ([(163,(JM ZG)),(153,YS),(212,(Zy5 (fun _ _ (v:Ca)=>Uv (Zt v)) Zdt 1)),(209,X5)]) 211 (Zbu):=by
 refine pwo Tryz.func211 fun args σ K h=>?_
 unfold Zbu at h
 split at h
 ·rename_i sg m g1 g2 t rows a en dp t0
  obtain ⟨⟨rfl,rfl,rfl,rfl⟩,L,ts,rfl,ho,h⟩:=h;have h:=h _ rfl;have hl:=ho.len;have dr:=ho.big;have l7:=ho.lo;refine pwu [(2,⟨[11],[0,1,2,3,4],fun vs σ=>∃(l:List Ca) (a':Int) (ts':Ts) (f:Nat),vs=[.sl 0 59 (l.map (Zt))] /\
   σ=⟨[.cells t [.d (.sl (Zz L)),.d (.int .i64 a'),.d (.int .i64 en),.d (.int .i64 dp)],.cells t0 [.ptr 0 0]],[0],1⟩/\ROK L a' ts'/\a+l.length<=a'/\ts'.length<f /\
   XX [124] 64 ZG Zdt ts=WE [124] 64 ZG Zdt f l ts',
   fun _ σ=>match σ with | ⟨.cells _ [_,.d (.int _ i),_,_]::_,_,_⟩=>((L.length:Int) - i).toNat | _=>0⟩)] 2 false ?_
  conv=>whnf
  refine ⟨⟨[],a,ts,ts.length+1,rfl,rfl,ho,sM,oM,rfl⟩,?_⟩;intro vs σ hI
  obtain ⟨l,a1,ts1,f,rfl,rfl,ak,xq,hf,hm⟩:=hI;obtain ⟨f,rfl⟩:∃g,f=g+1:=⟨f - 1,oM⟩
  rw [Uy] at hm;have cg:=ak.len;have rc:=ak.hi;(conv=>whnf);refine ⟨L,ts1,rfl,ak,fun b hb=>?_⟩;have step:(¬(ZG ts1=true/\l.length=64))->XX [124] 64 ZG Zdt ts=((Zdt) ts1).bind fun x ts=>if isW ts [[124]]=true then WE [124] 64 ZG Zdt f (l++[x]) ts.tail else .ok (l++[x]) ts:=fun g=>by rw [hm,Tf g]
  cases b with
  | false =>
   have step:=step (by rw [hb];simp);(conv=>whnf);exact mq18
  | true =>
  conv=>whnf
  refine ZEw (fun hc=>wN ?_) (fun hc=>wN ?_)
  ·have hc:l.length=64:=by
    have hc:((l.map (Zt)).length:Int)=64:=hc;rw [Te] at hc;omega
   exact mq70
  have step:=step (fun g=>hc (by show ((l.map (Zt)).length:Int)=64;rw [Te,g.2];rfl));exact mq18
 exact h.elim
def Zaz (d:Nat):Zm:=fun args σ K=>match args,σ with
 | [.ptr 0 0,.d (.str sg),.d (.int .i64 m),.func g1 [.ptr 0 0] [],.func g2 [.ptr 0 0] []],⟨[.cells t [.d (.sl rows),.d (.int .i64 a),.d (.int .i64 en),.d (.int .i64 dp)]],[],0⟩ =>
   (sg=[44]/\m=12/\g1=249/\g2=250/\(dp=64 - (d:Int)/\0<=dp))/\∃L ts,rows=Zz L/\ROK L a ts/\∀x,XX [44] 12 ZU (Zbm d) ts=x ->
    RKk (fun (l:List Ex)=>.d (.sl (l.map (ZW (Zb L en))))) L en dp a x fun pe a' dp'=>K pe ⟨[.cells t [.d (.sl (Zz L)),.d (.int .i64 a'),.d (.int .i64 en),.d (.int .i64 dp')]],[],0⟩
 | _,_=>False
def Zpp (d:Nat):OKw w0 nG [(249,(JM ZU)),(153,YS),(250,(ZiW (fun L en (v:Ex)=>Uv (ZW (Zb L en) v)) (Zbm d) 0 d)),(209,X5)] 248 (Zaz d):=by
 refine pwo Tryz.func248 fun args σ K h=>?_
 unfold Zaz at h
 split at h
 ·rename_i sg m g1 g2 t rows a en dp
  obtain ⟨⟨rfl,rfl,rfl,rfl,fu⟩,L,ts,rfl,ho,h⟩:=h;have h:=h _ rfl;have hl:=ho.len;have dr:=ho.big;have l7:=ho.lo;refine pwu [(2,⟨[11],[0,1,2,3,4],fun vs σ=>∃(l:List Ex) (a':Int) (ts':Ts) (f:Nat),vs=[.sl 0 138 (l.map (ZW (Zb L en)))] /\
   σ=⟨[.cells t [.d (.sl (Zz L)),.d (.int .i64 a'),.d (.int .i64 en),.d (.int .i64 dp)]],[0],1⟩/\ROK L a' ts'/\a+l.length<=a'/\ts'.length<f /\
   XX [44] 12 ZU (Zbm d) ts=WE [44] 12 ZU (Zbm d) f l ts',
   fun _ σ=>match σ with | ⟨.cells _ [_,.d (.int _ i),_,_]::_,_,_⟩=>((L.length:Int) - i).toNat | _=>0⟩)] 1 false ?_
  conv=>whnf
  refine ⟨⟨[],a,ts,ts.length+1,rfl,rfl,ho,sM,oM,rfl⟩,?_⟩;intro vs σ hI
  obtain ⟨l,a1,ts1,f,rfl,rfl,ak,xq,hf,hm⟩:=hI;obtain ⟨f,rfl⟩:∃g,f=g+1:=⟨f - 1,oM⟩
  rw [Uy] at hm;have cg:=ak.len;have rc:=ak.hi;(conv=>whnf);refine ⟨L,ts1,rfl,ak,fun b hb=>?_⟩;have step:(¬(ZU ts1=true/\l.length=12))->XX [44] 12 ZU (Zbm d) ts=(((Zbm d)) ts1).bind fun x ts=>if isW ts [[44]]=true then WE [44] 12 ZU (Zbm d) f (l++[x]) ts.tail else .ok (l++[x]) ts:=fun g=>by rw [hm,Tf g]
  cases b with
  | false =>
   have step:=step (by rw [hb];simp);(conv=>whnf);exact mq16
  | true =>
  conv=>whnf
  refine ZEw (fun hc=>wN ?_) (fun hc=>wN ?_)
  ·have hc:l.length=12:=by
    have hc:((l.map (ZW (Zb L en))).length:Int)=12:=hc;rw [Te] at hc;omega
   exact mq70
  have step:=step (fun g=>hc (by show ((l.map (ZW (Zb L en))).length:Int)=12;rw [Te,g.2];rfl));exact mq16
 exact h.elim
def ZgH (d:Nat):Zm:=fun args σ K=>match args,σ with
 | [.ptr 0 0,.d (.str sg),.d (.int .i64 m),.func g1 [] [.ptr 1 0],.func g2 [.ptr 0 0] []],⟨[.cells t [.d (.sl rows),.d (.int .i64 a),.d (.int .i64 en),.d (.int .i64 dp)],.cells t0 [.ptr 0 0]],[],0⟩ =>
   (sg=[44]/\m=32/\g1=252/\g2=253/\(dp=64 - (d:Int)/\0<=dp))/\∃L ts,rows=Zz L/\ROK L a ts/\∀x,XX [44] 32 Yf (ZmK d (Zew d)) ts=x ->
    RKk (fun (l:List Li)=>.d (.sl (l.map (Xp (Zb L en))))) L en dp a x fun pe a' dp'=>K pe ⟨[.cells t [.d (.sl (Zz L)),.d (.int .i64 a'),.d (.int .i64 en),.d (.int .i64 dp')],.cells t0 [.ptr 0 0]],[],0⟩
 | _,_=>False
def Zpr (d:Nat):OKw w0 nG [(252,(Zlb Yf)),(153,YS),(253,(ZiW (fun L en (v:Li)=>Uv (Xp (Zb L en) v)) (ZmK d (Zew d)) 0 d)),(209,X5)] 251 (ZgH d):=by
 refine pwo Tryz.func251 fun args σ K h=>?_
 unfold ZgH at h
 split at h
 ·rename_i sg m g1 g2 t rows a en dp t0
  obtain ⟨⟨rfl,rfl,rfl,rfl,fu⟩,L,ts,rfl,ho,h⟩:=h;have h:=h _ rfl;have hl:=ho.len;have dr:=ho.big;have l7:=ho.lo;refine pwu [(2,⟨[11],[0,1,2,3,4],fun vs σ=>∃(l:List Li) (a':Int) (ts':Ts) (f:Nat),vs=[.sl 0 142 (l.map (Xp (Zb L en)))] /\
   σ=⟨[.cells t [.d (.sl (Zz L)),.d (.int .i64 a'),.d (.int .i64 en),.d (.int .i64 dp)],.cells t0 [.ptr 0 0]],[0],1⟩/\ROK L a' ts'/\a+l.length<=a'/\ts'.length<f /\
   XX [44] 32 Yf (ZmK d (Zew d)) ts=WE [44] 32 Yf (ZmK d (Zew d)) f l ts',
   fun _ σ=>match σ with | ⟨.cells _ [_,.d (.int _ i),_,_]::_,_,_⟩=>((L.length:Int) - i).toNat | _=>0⟩)] 2 false ?_
  conv=>whnf
  refine ⟨⟨[],a,ts,ts.length+1,rfl,rfl,ho,sM,oM,rfl⟩,?_⟩;intro vs σ hI
  obtain ⟨l,a1,ts1,f,rfl,rfl,ak,xq,hf,hm⟩:=hI;obtain ⟨f,rfl⟩:∃g,f=g+1:=⟨f - 1,oM⟩
  rw [Uy] at hm;have cg:=ak.len;have rc:=ak.hi;(conv=>whnf);refine ⟨L,ts1,rfl,ak,fun b hb=>?_⟩;have step:(¬(Yf ts1=true/\l.length=32))->XX [44] 32 Yf (ZmK d (Zew d)) ts=(((ZmK d (Zew d))) ts1).bind fun x ts=>if isW ts [[44]]=true then WE [44] 32 Yf (ZmK d (Zew d)) f (l++[x]) ts.tail else .ok (l++[x]) ts:=fun g=>by rw [hm,Tf g]
  cases b with
  | false =>
   have step:=step (by rw [hb];simp);(conv=>whnf);exact mq15
  | true =>
  conv=>whnf
  refine ZEw (fun hc=>wN ?_) (fun hc=>wN ?_)
  ·have hc:l.length=32:=by
    have hc:((l.map (Xp (Zb L en))).length:Int)=32:=hc;rw [Te] at hc;omega
   exact mq70
  have step:=step (fun g=>hc (by show ((l.map (Xp (Zb L en))).length:Int)=32;rw [Te,g.2];rfl));exact mq15
 exact h.elim
abbrev ZgI:Zm:=Zy5 (fun _ _ (v:Fi)=>Uv (Zn v)) Vo 1
abbrev ZjR:Zm:=Zy5 (fun _ _ (v:Ca)=>Uv (Zt v)) Zdt 1
def U0:Zm:=Xq fun rest L en dp a ts K=>match rest with
 | [.d (.str w)]=>∀x,Zbl w ts=x->RKk (fun (v:List Fi)=>.d (.sl (v.map Zn))) L en dp a x K
 | _=>False
abbrev ZdL:Zm:=spR (fun _ _ (v:List Bs)=>.d (.sl (v.map Ym))) Zfo 0
abbrev ZgJ:Zm:=spR (fun L en (v:Ty)=>Uv (Zq (Zb L en) v)) Zh6 0
abbrev Zlc:Zm:=spR (fun L en (v:Re)=>Uv (ZN (Zb L en) v)) ZoX 0
def Zpt:OKw w0 nG [(160,XB),(161,Xt)] 246 ZgI:=by
 refine pwo Tryz.func246 fun args σ K h=>?_
 unfold ZgI Zy5 Zpn at h
 split at h
 ·rename_i rest t0 t rows a en dp
  obtain ⟨L,ts,rfl,ho,h⟩:=h;split at h
  ·skip
   have h0:=ho.lo;have h1:=ho.hi;have h2:=ho.big;refine pwv [] 2 false ?_;have h:=h _ rfl;unfold Vo at h
   refine ⟨L,ts,rfl,ho,fun x dv=>?_⟩;rcases x with ⟨v1,ts1⟩ | ⟨r1,e1⟩
   rotate_left
   ·exact mq48
   rw [dv,R.bind_ok] at h;intro a1 ew ak
   have bu:=ak.hi;(conv=>whnf);refine ⟨L,ts1,rfl,ak,fun x ca=>?_⟩;exact mq175
  exact h.elim
 exact h.elim
def Zpv:OKw w0 nG [(154,Zie),(245,JQ)] 210 U0:=by
 refine pwo Tryz.func210 fun args σ K h=>?_
 unfold U0 Xq at h
 split at h
 ·rename_i rest t rows a en dp
  obtain ⟨L,ts,rfl,ho,h⟩:=h;split at h
  ·rename_i w
   have h0:=ho.lo;have h1:=ho.hi;have h2:=ho.big;refine pwv [] 1 false ?_;have h:=h _ rfl;unfold Zbl at h
   refine ⟨L,ts,rfl,ho,[w],rfl,sM,fun b1 dm=>?_⟩
   cases b1 with
   | true =>
    rw [Th dm] at h;(conv=>whnf);exact h _ oM ho
   | false =>
   rw [Tf (by rw [dm];simp)] at h;(conv=>whnf);refine ⟨⟨rfl,rfl,rfl,rfl⟩,L,ts,rfl,ho,fun x ca=>?_⟩;rcases x with ⟨v2,ts2⟩ | ⟨r2,e2⟩
   rotate_left
   ·rw [ca] at h;intro a9 d9;(conv=>whnf);exact h _ _
   rw [ca] at h;intro a2 gl ah
   have dw:=ah.hi;(conv=>whnf);exact h _ oM ah
  exact h.elim
 exact h.elim
def ZsE:OKw w0 nG [(209,X5),(215,ZdK),(161,Xt)] 162 ZdL:=by
 refine pwo Tryz.func162 fun args σ K h=>?_
 unfold ZdL spR Xq at h
 split at h
 ·rename_i rest t rows a en dp
  obtain ⟨L,ts,rfl,ho,h⟩:=h;split at h
  ·skip
   have h0:=ho.lo;have h1:=ho.hi;have h2:=ho.big;refine pwv [] 1 false ?_;have h:=h _ rfl;unfold Zfo at h
   refine ⟨L,ts,rfl,ho,[[60]],rfl,sM,fun dm ak=>wN ?_,fun dm=>wN ?_⟩
   ·rw [Th dm] at h;have bu:=ak.hi;refine ⟨⟨rfl,rfl,rfl,rfl⟩,L,ts.tail,rfl,ak,fun x ca=>?_⟩;exact mq175
   rw [Tf (by rw [dm];simp)] at h;exact h _ oM ho
  exact h.elim
 exact h.elim
def ZsG:OKw w0 nG [(160,XB),(161,Xt),(210,U0)] 212 ZjR:=by
 refine pwo Tryz.func212 fun args σ K h=>?_
 unfold ZjR Zy5 Zpn at h
 split at h
 ·rename_i rest t0 t rows a en dp
  obtain ⟨L,ts,rfl,ho,h⟩:=h;split at h
  ·skip
   have h0:=ho.lo;have h1:=ho.hi;have h2:=ho.big;refine pwv [] 2 false ?_;have h:=h _ rfl;unfold Zdt at h
   refine ⟨L,ts,rfl,ho,fun x dv=>?_⟩;rcases x with ⟨v1,ts1⟩ | ⟨r1,e1⟩
   rotate_left
   ·exact mq48
   rw [dv,R.bind_ok] at h;intro a1 ew ak
   have bu:=ak.hi;(conv=>whnf);refine ⟨L,ts1,rfl,ak,fun x ca=>?_⟩;rcases x with ⟨v2,ts2⟩ | ⟨r2,e2⟩
   rotate_left
   ·exact mq41
   rw [ca,R.bind_ok] at h;intro a2 gl ah
   have dw:=ah.hi;(conv=>whnf);refine ⟨L,ts2,rfl,ah,fun x fi=>?_⟩;rcases x with ⟨v3,ts3⟩ | ⟨r3,e3⟩
   rotate_left
   ·exact mq17
   rw [fi,R.bind_ok] at h;intro a3 gy am
   have gt:=am.hi;(conv=>whnf);refine ⟨L,ts3,rfl,am,fun x nd=>?_⟩;rcases x with ⟨v4,ts4⟩ | ⟨r4,e4⟩
   rotate_left
   ·exact mq101
   rw [nd,R.bind_ok] at h;intro a4 nz cf
   have sy:=cf.hi;(conv=>whnf);exact h _ oM cf
  exact h.elim
 exact h.elim
def ZsI:OKw w0 nG [(159,WK),(160,XB),(209,X5),(161,Xt),(210,U0),(211,Zbu)] 156 ZgJ:=by
 refine pwo Tryz.func156 fun args σ K h=>?_
 unfold ZgJ spR Xq at h
 split at h
 ·rename_i rest t rows a en dp
  obtain ⟨L,ts,rfl,ho,h⟩:=h;split at h
  ·skip
   have h0:=ho.lo;have h1:=ho.hi;have h2:=ho.big;refine pwv [] 1 false ?_;have h:=h _ rfl;unfold Zh6 at h
   refine ⟨L,ts,rfl,ho,wN ?_⟩;refine ⟨L,ts,rfl,ho,fun x dv=>?_⟩;rcases x with ⟨v1,ts1⟩ | ⟨r1,e1⟩
   rotate_left
   ·exact mq48
   rw [dv,R.bind_ok] at h;intro a1 ew ak
   have bu:=ak.hi;(conv=>whnf);refine ⟨L,ts1,rfl,ak,[[60,58]],rfl,sM,fun iw ah=>wN ?_,fun iw=>wN ?_⟩
   ·rw [Th iw] at h;have dw:=ah.hi;refine ⟨L,ts1.tail,rfl,ah,fun x fi=>?_⟩;rcases x with ⟨v3,ts3⟩ | ⟨r3,e3⟩
    rotate_left
    ·exact mq17
    exact mq110
   rw [Tf (by rw [iw];simp)] at h;refine ⟨L,ts1,rfl,ak,fun x fi=>?_⟩;rcases x with ⟨v3,ts3⟩ | ⟨r3,e3⟩
   rotate_left
   ·exact mq17
   rw [fi,R.bind_ok] at h;intro a3 gy am
   have gt:=am.hi;(conv=>whnf);refine ⟨L,ts3,rfl,am,[[91]],rfl,sM,fun kj cf=>wN ?_,fun kj=>wN ?_⟩
   ·rw [Th kj] at h;have sy:=cf.hi;refine ⟨L,ts3.tail,rfl,cf,fun x kr=>?_⟩;rcases x with ⟨v5,ts5⟩ | ⟨r5,e5⟩
    rotate_left
    ·exact mq40
    rw [kr,R.bind_ok] at h;intro a5 mn cq
    have vz:=cq.hi;(conv=>whnf);refine ⟨L,ts5,rfl,cq,fun x rf=>?_⟩;rcases x with ⟨v6,ts6⟩ | ⟨r6,e6⟩
    rotate_left
    ·rw [rf,R.bind_err] at h;intro a9 d9;(conv=>whnf);exact h _ _
    rw [rf,R.bind_ok] at h;intro a6 zw fb
    have hb6:=fb.hi;(conv=>whnf);exact h _ oM fb
   rw [Tf (by rw [kj];simp)] at h;refine ⟨⟨rfl,rfl,rfl,rfl⟩,L,ts3,rfl,am,fun x kr=>?_⟩;rcases x with ⟨v5,ts5⟩ | ⟨r5,e5⟩
   rotate_left
   ·exact mq40
   rw [kr,R.bind_ok] at h;intro a5 mn cq
   have vz:=cq.hi;(conv=>whnf);exact h _ oM cq
  exact h.elim
 exact h.elim
def J3 (i o n:Bool):Nat:=(match i with | true=>0 | false=>1)+(match o with | true=>0 | false=>1)+(match n with | true=>0 | false=>1)
def ZmV (f : Nat) (i o n : Bool) (ts : Ts) : Y5 (f + 1) i o n ts = if i = false /\ isW ts [[105, 110, 112, 117, 116]] = true then Y5 f true o n ts.tail
      else if o=false/\isW ts [[111,117,116,112,117,116]]=true then Y5 f i true n ts.tail
      else if n=false/\isW ts [[105,110,108,105,110,101]]=true then Y5 f i o true ts.tail
      else ((i,o,n),ts):=rfl
def Zv8:OKw w0 nG [(159,WK),(160,XB),(209,X5),(161,Xt),(210,U0)] 157 Zlc:=by
 refine pwo Tryz.func157 fun args σ K h=>?_
 unfold Zlc spR Xq at h
 split at h
 ·rename_i rest t rows a en dp
  obtain ⟨L,ts,rfl,ho,h⟩:=h;split at h
  ·skip
   have h0:=ho.lo;have h1:=ho.hi;have h2:=ho.big;refine pwv [(7,⟨[],[0,2,3],fun vs σ=>∃(nm:Bs) (l:List Fi) (a5:Int) (ts5:Ts) (i o n:Bool) (a':Int) (ts':Ts) (f:Nat),vs=[]/\σ=⟨[.cells t [.d (.sl (Zz L)),.d (.int .i64 a'),.d (.int .i64 en),.d (.int .i64 dp)],.cells 109 [.d (.str []),.sl 0 89 [],.d (.bool false),.d (.bool false),.d (.bool false),.d (.int .i64 0)],.cells 109 [.d (.str nm),.d (.sl (l.map Zn)),.d (.bool i),.d (.bool o),.d (.bool n),.d (.int .i64 (Zb L en ts.length))]],[0],1⟩/\ROK L a' ts'/\a<=a'/\J3 i o n<f/\RKk (fun (v:Re)=>Uv (ZN (Zb L en) v)) L en dp (a+0) (R.ok ⟨nm,l,(Y5 f i o n ts').1.1,(Y5 f i o n ts').1.2.1,(Y5 f i o n ts').1.2.2,ts.length⟩ (Y5 f i o n ts').2) (fun pe a' dp'=>K pe ⟨[.cells t [.d (.sl (Zz L)),.d (.int .i64 a'),.d (.int .i64 en),.d (.int .i64 dp')]],[],0⟩),fun _ σ=>match σ with | ⟨[_,_,.cells _ [_,_,.d (.bool i),.d (.bool o),.d (.bool n),_]],_,_⟩=>J3 i o n | _=>0⟩)] 1 false ?_;have h:=h _ rfl;unfold ZoX at h
   refine ⟨L,ts,rfl,ho,wN ?_⟩;refine ⟨L,ts,rfl,ho,fun x dv=>?_⟩;rcases x with ⟨v1,ts1⟩ | ⟨r1,e1⟩
   rotate_left
   ·exact mq48
   rw [dv,R.bind_ok] at h;intro a1 ew ak
   have bu:=ak.hi;(conv=>whnf);refine ⟨L,ts1,rfl,ak,fun x ca=>?_⟩;rcases x with ⟨v2,ts2⟩ | ⟨r2,e2⟩
   rotate_left
   ·exact mq41
   rw [ca,R.bind_ok] at h;intro a2 gl ah
   have dw:=ah.hi;(conv=>whnf);refine ⟨L,ts2,rfl,ah,fun x fi=>?_⟩;rcases x with ⟨v3,ts3⟩ | ⟨r3,e3⟩
   rotate_left
   ·exact mq17
   rw [fi,R.bind_ok] at h;intro a3 gy am
   have gt:=am.hi;(conv=>whnf);refine ⟨L,ts3,rfl,am,fun x nd=>?_⟩;rcases x with ⟨v4,ts4⟩ | ⟨r4,e4⟩
   rotate_left
   ·exact mq101
   rw [nd,R.bind_ok] at h;intro a4 nz cf
   have sy:=cf.hi;(conv=>whnf);refine ⟨⟨v1,v3,a4,ts4,false,false,false,a4,ts4,4,rfl,rfl,cf,oM,dM,h⟩,?_⟩
   clear h dv ca fi nd ak ah am cf bu dw gt sy ew gl gy nz
   intro vs σ hI
   obtain ⟨nm,l,a5,ts5,i,o,n,a',ts',f,rfl,rfl,dj,ar,hf,h⟩:=hI;obtain ⟨f,rfl⟩:∃g,f=g+1:=⟨f - 1,oM⟩
   rw [ZmV] at h;have rp:=dj.hi;(conv=>whnf)
   cases i with
   | true =>
    rw [Tf sM] at h;(conv=>whnf)
    cases o with
    | true =>
     rw [Tf sM] at h;(conv=>whnf)
     cases n with
     | true =>
      exact mq154
     | false =>
     conv=>whnf
     refine ⟨L,ts',rfl,dj,[[105,110,108,105,110,101]],rfl,sM,fun gz fh=>wN ?_,fun gz=>wN ?_⟩
     ·rw [Th ⟨rfl,gz⟩] at h;have s4:=fh.hi;refine ⟨⟨nm,l,a5,ts5,true,true,true,a'+1,ts'.tail,f,rfl,rfl,fh,oM,?_,h⟩,?_⟩
      ·(simp only [J3] at hf |-;omega)
      show J3 true true true<J3 true true false
      (simp only [J3];omega)
     exact mq148
    | false =>
    conv=>whnf
    refine ⟨L,ts',rfl,dj,[[111,117,116,112,117,116]],rfl,sM,fun gz fh=>wN ?_,fun gz=>wN ?_⟩
    ·rw [Th ⟨rfl,gz⟩] at h;have s4:=fh.hi;refine ⟨⟨nm,l,a5,ts5,true,true,n,a'+1,ts'.tail,f,rfl,rfl,fh,oM,?_,h⟩,?_⟩
     ·cases n <;> (simp only [J3] at hf |-;omega)
     show J3 true true n<J3 true false n
     cases n <;> (simp only [J3];omega)
    rw [Tf (by rw [gz];simp)] at h
    cases n with
    | true =>
     exact mq154
    | false =>
    conv=>whnf
    refine ⟨L,ts',rfl,dj,[[105,110,108,105,110,101]],rfl,sM,fun gz fh=>wN ?_,fun gz=>wN ?_⟩
    ·rw [Th ⟨rfl,gz⟩] at h;have s4:=fh.hi;refine ⟨⟨nm,l,a5,ts5,true,false,true,a'+1,ts'.tail,f,rfl,rfl,fh,oM,?_,h⟩,?_⟩
     ·(simp only [J3] at hf |-;omega)
     show J3 true false true<J3 true false false
     (simp only [J3];omega)
    exact mq148
   | false =>
   conv=>whnf
   refine ⟨L,ts',rfl,dj,[[105,110,112,117,116]],rfl,sM,fun gz fh=>wN ?_,fun gz=>wN ?_⟩
   ·rw [Th ⟨rfl,gz⟩] at h;have s4:=fh.hi;refine ⟨⟨nm,l,a5,ts5,true,o,n,a'+1,ts'.tail,f,rfl,rfl,fh,oM,?_,h⟩,?_⟩
    ·cases o <;> cases n <;> (simp only [J3] at hf |-;omega)
    show J3 true o n<J3 false o n
    cases o <;> cases n <;> (simp only [J3];omega)
   rw [Tf (by rw [gz];simp)] at h
   cases o with
   | true =>
    rw [Tf sM] at h;(conv=>whnf)
    cases n with
    | true =>
     exact mq154
    | false =>
    conv=>whnf
    refine ⟨L,ts',rfl,dj,[[105,110,108,105,110,101]],rfl,sM,fun gz fh=>wN ?_,fun gz=>wN ?_⟩
    ·rw [Th ⟨rfl,gz⟩] at h;have s4:=fh.hi;refine ⟨⟨nm,l,a5,ts5,false,true,true,a'+1,ts'.tail,f,rfl,rfl,fh,oM,?_,h⟩,?_⟩
     ·(simp only [J3] at hf |-;omega)
     show J3 false true true<J3 false true false
     (simp only [J3];omega)
    exact mq148
   | false =>
   conv=>whnf
   refine ⟨L,ts',rfl,dj,[[111,117,116,112,117,116]],rfl,sM,fun gz fh=>wN ?_,fun gz=>wN ?_⟩
   ·rw [Th ⟨rfl,gz⟩] at h;have s4:=fh.hi;refine ⟨⟨nm,l,a5,ts5,false,true,n,a'+1,ts'.tail,f,rfl,rfl,fh,oM,?_,h⟩,?_⟩
    ·cases n <;> (simp only [J3] at hf |-;omega)
    show J3 false true n<J3 false false n
    cases n <;> (simp only [J3];omega)
   rw [Tf (by rw [gz];simp)] at h
   cases n with
   | true =>
    exact mq154
   | false =>
   conv=>whnf
   refine ⟨L,ts',rfl,dj,[[105,110,108,105,110,101]],rfl,sM,fun gz fh=>wN ?_,fun gz=>wN ?_⟩
   ·rw [Th ⟨rfl,gz⟩] at h;have s4:=fh.hi;refine ⟨⟨nm,l,a5,ts5,false,false,true,a'+1,ts'.tail,f,rfl,rfl,fh,oM,?_,h⟩,?_⟩
    ·(simp only [J3] at hf |-;omega)
    show J3 false false true<J3 false false false
    (simp only [J3];omega)
   exact mq148
  exact h.elim
 exact h.elim
def Zld (fn:Func) (tb:Tbl):Zm:=fun args σ K=>∃K0:PEnd->St->Prop,(∀e σ,K0 e σ->K e σ)/\args.length<=fn.ntmps/\WF (ctx Zaf tb (Zk [])) fn σ.bx.length false args σ K0
def Zpw (fn:Func) (tb:Tbl):ZL (Zld fn tb):=fun args σ K K' hK ⟨K0,h1,h2⟩=>⟨K0,fun e σ h=>hK _ _ (h1 e σ h),h2⟩
def ZzI (fn:Func) (unr:Nat->Nat) (tb:Tbl):Zm:=fun args σ K=>∃K0:PEnd->St->Prop,(∀e σ,K0 e σ->K e σ)/\args.length<=fn.ntmps/\WF (ZBW Zaf tb (Zk []) unr (ZB [])) fn σ.bx.length false args σ K0
def _root_.Go.PM.PCalls.closed {G:GE} {g:FuncId} {sp:Zm} (h:PCalls G g sp):PCalls G g (fun args σ K=>∃K0:PEnd->St->Prop,(∀e σ,K0 e σ->K e σ)/\sp args σ K0):=⟨h.enters,fun args σ K ⟨K0,hK,hs⟩ n e w vs hS ha =>
 (h.calls args σ K0 hs n e w vs hS ha).mono fun en w' ⟨pe,σ',e',hk,hr⟩=>⟨pe,σ',e',hK _ _ hk,hr⟩⟩
def Zch {g : FuncId} {fn : Func} {c : Code} {tb : Tbl} (ht : TO w0 nG tb) (hf : (GG w0 nG).P.funcs[g]? = some fn) (hb : fn.body = some c) (av : (fn.name == "runtime.NumGoroutine") = false) (ao : ZJ fn.ntmps c = true) : PC w0 nG g (Zld fn tb) := by
 have h:PC w0 nG g (fun args σ K=>args.length<=fn.ntmps/\WF (ctx Zaf tb (Zk [])) fn σ.bx.length false args σ K):=by
  refine ZhS ZC mixed ht hf hb av ao ?_;intro args σ K h
  exact ⟨Zk [],σ.bx.length,false,Tz _,h.1,h.2⟩
 exact h.closed
def ZzJ {g : FuncId} {fn : Func} {c : Code} {unr : Nat -> Nat} {tb : Tbl} (ht : TO w0 nG tb) (hf : (GG w0 nG).P.funcs[g]? = some fn) (hb : fn.body = some c) (av : (fn.name == "runtime.NumGoroutine") = false) (ao : ZJ fn.ntmps c = true) : PC w0 nG g (ZzI fn unr tb) := by
 have h:PC w0 nG g (fun args σ K=>args.length<=fn.ntmps/\WF (ZBW Zaf tb (Zk []) unr (ZB [])) fn σ.bx.length false args σ K):=by
  refine YF ZC mixed ht hf hb av ao ?_;intro args σ K h
  exact ⟨Zk [],unr,ZB [],σ.bx.length,false,Tz _,h.1,h.2⟩
 exact h.closed
def Zv9 {α:Type} (enc:List Tok->Int->α->PV) (P:Ts->R α) (lo:Int) (d:Nat):Zm:=Xq fun rest L en dp a ts K=>match rest with
 | []=>(0<d/\dp=65 - (d:Int)/\0<=dp)/\∀x,P ts=x->RKk (enc L en) L en dp (a+lo) x K
 | _=>False
def ZdM {α:Type} {enc:List Tok->Int->α->PV} {P:Ts->R α} {lo:Int} {g:FuncId} (h:Wr (GG w0 nG).P g):PC w0 nG g (Zv9 enc P lo 0):=⟨h,fun args σ K hs=>by
 exfalso;unfold Zv9 Xq at hs
 split at hs
 ·obtain ⟨L,ts,_,_,hs⟩:=hs;split at hs
  ·have:=hs.1.1;omega
  exact hs
 exact hs⟩
def _root_.Go.PM.PCalls.weaken1 {G:GE} {g:FuncId} {sp sp':Zm} (h:PCalls G g sp) (hw:∀args σ K,sp' args σ K->sp args σ K):PCalls G g sp':=⟨h.enters,fun args σ K hs=>h.calls args σ K (hw _ _ _ hs)⟩
def ZdN {α:Type} {enc:List Tok->Int->α->PV} {P:Ts->R α} {lo:Int} {d:Nat} {g:FuncId} (h:PC w0 nG g (ZiW enc P lo d)):PC w0 nG g (Zv9 enc P lo (d+1)):=h.weaken1 fun args σ K hs=>by
 unfold Zv9 Xq at hs
 unfold ZiW Xq
 split at hs
 ·obtain ⟨L,ts,h1,h2,hs⟩:=hs;refine ⟨L,ts,h1,h2,?_⟩;split at hs
  ·exact ⟨by have:=hs.1.2;omega,hs.2⟩
  exact hs.elim
 exact hs
def Zbv:Zm:=fun args σ K=>match args,σ with
 | [.d (.str w),.ptr 0 0],⟨[.cells t0 [.ptr 1 0],.cells t [.d (.sl rows),.d (.int .i64 a),.d (.int .i64 en),.d (.int .i64 dp)]],[],0⟩=>∃L ts,rows=Zz L/\ROK L a ts /\
   (isW ts [w]=true->ROK L (a+1) ts.tail->K (.ret (.d (.bool true))) ⟨[.cells t0 [.ptr 1 0],.cells t [.d (.sl (Zz L)),.d (.int .i64 (a+1)),.d (.int .i64 en),.d (.int .i64 dp)]],[],0⟩) /\
   (isW ts [w]=false->K (.ret (.d (.bool false))) ⟨[.cells t0 [.ptr 1 0],.cells t [.d (.sl (Zz L)),.d (.int .i64 a),.d (.int .i64 en),.d (.int .i64 dp)]],[],0⟩)
 | _,_=>False
def Zle:Tbl:=[(209,X5)]
def Zpx:OKw w0 nG Zle 278 Zbv:=by
 refine pwo Tryz.func278 fun args σ K h=>?_
 exact mq72
def Zpy:OKw w0 nG Zle 279 Zbv:=by
 refine pwo Tryz.func279 fun args σ K h=>?_
 exact mq72
def ZsJ:Zm:=fun args σ K=>match args,σ with
 | [.asl 0 0 n,.func g [] [.ptr 1 0]],⟨[.cells tA cs,.cells t0 [.ptr 2 0],.cells t [.d (.sl rows),.d (.int .i64 a),.d (.int .i64 en),.d (.int .i64 dp)]],[],0⟩=>∃L ts ws,rows=Zz L/\ROK L a ts /\
   ((ws=relWords/\g=278)\/(ws=aggWords/\g=279))/\n=ws.length/\cs=ws.map (fun w=>PV.d (.str w)) /\
   (∀k:Nat,ZbY ts 0 ws=some k->ROK L (a+1) ts.tail->K (.ret (.d (.int .i64 k))) ⟨[.cells tA cs,.cells t0 [.ptr 2 0],.cells t [.d (.sl (Zz L)),.d (.int .i64 (a+1)),.d (.int .i64 en),.d (.int .i64 dp)]],[],0⟩) /\
   (ZbY ts 0 ws=none->K (.ret (.d (.int .i64 (-1)))) ⟨[.cells tA cs,.cells t0 [.ptr 2 0],.cells t [.d (.sl (Zz L)),.d (.int .i64 a),.d (.int .i64 en),.d (.int .i64 dp)]],[],0⟩)
 | _,_=>False
def Zus:Tbl:=[(278,Zbv),(279,Zbv)]
def ZzK (ht:TO w0 nG Zus):PC w0 nG 166 ZsJ:=by
 refine YF ZC mixed (tbl:=Zus) ht Tryz.func166 rfl kR kR ?_;intro args σ K h
 unfold ZsJ at h
 split at h
 ·rename_i n g tA cs t0 t rows a en dp
  obtain ⟨L,ts,ws,rfl,ho,xd,rfl,rfl,h1,h2⟩:=h;refine ⟨Zk [],Ye [(2,8)],ZB [],3,false,sM,Tc rfl,?_⟩;rcases xd with ⟨rfl,rfl⟩ | ⟨rfl,rfl⟩
  ·conv=>whnf
   refine ⟨dM,dM,wN ?_⟩;refine ⟨L,ts,rfl,ho,fun hw0 ah=>wN ?_,fun hw0=>wN ?_⟩
   ·exact h1 0 (by simp [ZbY,relWords, *]) ah
   refine Zj ?_;refine ⟨dM,dM,wN ?_⟩;refine ⟨L,ts,rfl,ho,fun dm ah=>wN ?_,fun dm=>wN ?_⟩
   ·exact h1 1 (by simp [ZbY,relWords, *]) ah
   refine Zj ?_;refine ⟨dM,dM,wN ?_⟩;refine ⟨L,ts,rfl,ho,fun iw ah=>wN ?_,fun iw=>wN ?_⟩
   ·exact h1 2 (by simp [ZbY,relWords, *]) ah
   refine Zj ?_;refine ⟨dM,dM,wN ?_⟩;refine ⟨L,ts,rfl,ho,fun nw ah=>wN ?_,fun nw=>wN ?_⟩
   ·exact h1 3 (by simp [ZbY,relWords, *]) ah
   refine Zj ?_;refine ⟨dM,dM,wN ?_⟩;refine ⟨L,ts,rfl,ho,fun kj ah=>wN ?_,fun kj=>wN ?_⟩
   ·exact h1 4 (by simp [ZbY,relWords, *]) ah
   refine Zj ?_;refine ⟨dM,dM,wN ?_⟩;refine ⟨L,ts,rfl,ho,fun hw5 ah=>wN ?_,fun hw5=>wN ?_⟩
   ·exact h1 5 (by simp [ZbY,relWords, *]) ah
   refine Zj ?_;exact h2 (by simp [ZbY,relWords, *])
  conv=>whnf
  refine ⟨dM,dM,wN ?_⟩;refine ⟨L,ts,rfl,ho,fun hw0 ah=>wN ?_,fun hw0=>wN ?_⟩
  ·exact h1 0 (by simp [ZbY,aggWords, *]) ah
  refine Zj ?_;refine ⟨dM,dM,wN ?_⟩;refine ⟨L,ts,rfl,ho,fun dm ah=>wN ?_,fun dm=>wN ?_⟩
  ·exact h1 1 (by simp [ZbY,aggWords, *]) ah
  refine Zj ?_;refine ⟨dM,dM,wN ?_⟩;refine ⟨L,ts,rfl,ho,fun iw ah=>wN ?_,fun iw=>wN ?_⟩
  ·exact h1 2 (by simp [ZbY,aggWords, *]) ah
  refine Zj ?_;refine ⟨dM,dM,wN ?_⟩;refine ⟨L,ts,rfl,ho,fun nw ah=>wN ?_,fun nw=>wN ?_⟩
  ·exact h1 3 (by simp [ZbY,aggWords, *]) ah
  refine Zj ?_;exact h2 (by simp [ZbY,aggWords, *])
 exact h.elim
def ZsK:PC w0 nG 225 (VU 0 6):=by
 refine pwe Tryz.func225 fun args σ K h=>?_
 unfold VU iSp at h
 split at h
 ·obtain ⟨L,d,ts,_,ho,h⟩:=h;split at h
  ·obtain ⟨j,⟨_,hj,gx⟩,_⟩:=h;omega
  exact h.elim
 exact h.elim
def Zlf {n:Nat} (he:PC w0 nG 225 (VU n 6)):∀k,k<=6->PC w0 nG 225 (VU n (6 - k))
 | 0,_=>he
 | k+1,hk=>by
  have ih:=Zlf he k oM;rw [show 6 - k=(6 - (k+1))+1 by omega] at ih;exact ZzG ⟨Zst (Zsv he) he,ZvW,ih,XF,trivial⟩
def ZzL:∀n,PC w0 nG 225 (VU n 6)
 | 0=>ZsK
 | n+1=>(Zlf (ZzL n) 6 oM).weaken1 fun args σ K h=>by
  unfold VU iSp at h |-
  split at h
  ·obtain ⟨L,d,ts,h1,h2,h⟩:=h;refine ⟨L,d,ts,h1,h2,?_⟩;split at h
   ·obtain ⟨j,⟨h3,h4,h5⟩,h6⟩:=h;exact ⟨j,⟨h3,h4,oM⟩,h6⟩
   exact h.elim
  exact h
def ZeB (ts:Ts):Nat->Nat
 | 0=>0
 | i+1=>if isW ts [relWords[i]?.getD []]=true then 3+i else ZeB ts i
def Zpz (ts:Ts):Nat->Nat
 | 0=>0
 | i+1=>if Zpz ts i≠0 then Zpz ts i else if isW ts [aggWords[i]?.getD []]=true then 9+i else 0
def ZpA (ts:Ts):∀i,ZeB ts i<=2+i
 | 0=>by simp [ZeB]
 | i+1=>by have:=ZpA ts i;rw [ZeB];split <;> omega
def ZpB {ts:Ts}:∀i,ZeB ts i≠0->ts≠[]
 | 0,h=>absurd rfl h
 | i+1,h=>by
  rw [ZeB] at h;split at h
  ·exact Yz (by assumption)
  exact ZpB i h
def Zfu {ts:Ts} {i:Nat} (h:Zpz ts (i+1)=9+i) (h0:Zpz ts i=0):∀k,Zpz ts (i+1+k)=9+i
 | 0=>h
 | k+1=>by
  have:=Zfu h h0 k;rw [show i+1+(k+1)=(i+1+k)+1 by omega,Zpz,this,Th oM]
def Zwa (d op a:Nat) (ts:Ts):R Li:=(YO ts).bind fun nm ts=>(Zph d (exU d) [40] [41] ts).bind fun l ts=>.ok (.mk op nm l [] a) ts
def ZC8 (d:Nat) (bd:Ts->R (List Li)) (op a:Nat) (l:List Ex) (ts:Ts):R Li :=
 (if op=9 then .ok l ts.tail else (exJ d ts.tail).bind fun g t=>.ok (l++[g]) t).bind fun l ts=>(ZR [58] ts).bind fun _ ts=>(Zo d [123] [125] bd ts).bind fun b ts=>.ok (.mk op [] l b a) ts
def ZzM (d:Nat) (bd:Ts->R (List Li)) (t0:Ts):R Li :=
 if isW t0 [[33]]=true then Zwa d 2 t0.length t0.tail
 else if ZG t0=true/\isW t0.tail [[40]]=true then Zwa d 1 t0.length t0
 else (exJ d t0).bind fun e ts=>if ZeB ts 6=0 then .err ts.length 150 else
  if ZeB ts 6=3/\Zpz ts.tail 4≠0 then ZC8 d bd (Zpz ts.tail 4) t0.length [e] ts.tail
  else (exJ d ts.tail).bind fun g t=>.ok (.mk (ZeB ts 6) [] [e,g] [] t0.length) t
def ZpC (d:Nat) (bd:Ts->R (List Li)) (ts:Ts):R (List Li):=ZdG [44] (ZzM d bd) 32 [] ts
def ZpD:Nat->Ts->R (List Li)
 | 0=>ZpC 0 fun _=>.err 0 150
 | d+1=>ZpC (d+1) (ZpD d)
def ZpE:Nat->Ts->R (List Li)
 | 0=>fun _=>.err 0 150
 | d+1=>ZpD d
def ZsL (d:Nat):ZpD d=ZpC d (ZpE d):=by cases d <;> rfl
def ZzN (d:Nat) (t0:Ts):R Ru:=(YO t0).bind fun nm ts=>(Zph d (exU d) [40] [41] ts).bind fun l ts=>(if isW ts [[58,45]]=true then ZpD d ts.tail else .ok [] ts).bind fun b ts=>(ZR [46] ts).bind fun _ ts=>.ok ⟨nm,l,b,t0.length⟩ ts
def ZjS (n:Nat):Zm:=iSp fun rest pl d ts K=>match rest with
 | [.d (.int .u8 op),.d (.int .i64 p)]=>∃o r:Nat,(op=o/\p=pl r/\d<n+1)/\∃x t1,Zwa d o r ts=.ok x t1/\K (Uv (Xp pl x)) d t1
 | _=>False
abbrev Zlg (n:Nat):Zm:=iR (fun pl v=>Uv (Xp pl v)) (fun d=>ZzM d (ZpE d)) (fun d=>d<n+1)
abbrev VV (n:Nat):Zm:=iR (fun pl v=>.d (.sl (Y6 pl v))) ZpD (fun d=>d<n)
abbrev ZgK (n:Nat):Zm:=iR (fun pl v=>Uv (ZS pl v)) ZzN (fun d=>d<n+1)
def Zlh (n:Nat):Zm:=fun args σ K=>match args,σ with
 | [.ptr 0 0,.agg [.d (.int .u8 o),.d (.str s),.sl 0 e1 rows1,.sl 1 e2 rows2,.d (.int .i64 p)],.d (.int .u8 op)],⟨[.cells t [.d (.sl rows),.d (.int .i64 a),.d (.int .i64 en),.d (.int .i64 dp),.d (.int .i64 w),.d (.int .i64 q)]],[1,0],2⟩ =>
   ∃(L:List Tok) (d:Nat) (ts:Ts) (l:List Ex) (r k:Nat),((rows=Zz L/\w=0/\q=0)/\(s=[]/\e1=138/\e2=142/\rows2=[])/\rows1=Zp (Zb L en) l/\p=Zb L en r/\op=k)/\IK L a dp d ts/\(ts≠[]/\d<n+1/\l.length<=1) /\
    ∃x t1,ZC8 d (ZpE d) k r l ts=.ok x t1/\∀a' dp',a<=a'->IK L a' dp' d t1->K (.ret (Uv (Xp (Zb L en) x))) ⟨[U9 t L a' en dp'],[],0⟩
 | _,_=>False
def ZsN (n:Nat):PC w0 nG 260 (ZjS n):=by
 refine pwt (tbl:=[(107,Zbq),(176,ZdJ n)]) ⟨ZcA,ZgG (ZzL n),trivial⟩ Tryz.func260 fun args σ K h=>?_
 unfold ZjS iSp at h
 split at h
 ·rename_i rest t rows a en dp w q
  obtain ⟨L,d,ts,⟨rfl,rfl,rfl⟩,ho,h⟩:=h;split at h
  ·obtain ⟨o,r,⟨rfl,rfl,gx⟩,x,t1,hx,h⟩:=h;obtain ⟨s1,u1,g1,hx⟩:=ZEG hx;obtain ⟨dm,rfl,rfl⟩:=ZgE g1;obtain ⟨l,u2,g2,hx⟩:=ZEG hx
   cases hx
   refine pwv [] 1 false ?_;refine ⟨L,_,_,⟨rfl,rfl,rfl⟩,ho,dm,?_⟩;intro a1 dp1 cg ak
   conv=>whnf
   refine ⟨L,_,_,⟨rfl,rfl,rfl⟩,ak,⟨rfl,sM,gx⟩,_,_,g2,?_⟩;intro a2 dp2 dl ah
   conv=>whnf
   exact h _ _ oM ah
  exact h.elim
 exact h.elim
def ZsP {n:Nat} (hb:PC w0 nG 177 (VV (n+1))):PC w0 nG 108 (ZgK n):=by
 refine pwt (tbl:=[(106,JN),(107,Zbq),(176,ZdJ n),(57,XZ),(177,VV (n+1)),(171,Ux)]) ⟨Zav,ZcA,ZgG (ZzL n),XF,hb,UX,trivial⟩ Tryz.func108 fun args σ K h=>?_
 unfold ZgK iR iSp at h
 split at h
 ·rename_i rest t rows a en dp w q
  obtain ⟨L,d,ts,⟨rfl,rfl,rfl⟩,ho,h⟩:=h;split at h
  ·obtain ⟨gx,x,t1,hx,h⟩:=h;obtain ⟨s1,u1,g1,hx⟩:=ZEG hx;obtain ⟨dm,rfl,rfl⟩:=ZgE g1;obtain ⟨l,u2,g2,hx⟩:=ZEG hx;obtain ⟨bd,u3,g3,hx⟩:=ZEG hx;obtain ⟨_,u4,g4,hx⟩:=ZEG hx;obtain ⟨kj,rfl⟩:=ZdD g4
   cases hx
   refine pwv [] 1 false ?_;refine ⟨L,_,_,⟨rfl,rfl,rfl⟩,ho,?_⟩;intro a0 dp0 pr ho0
   conv=>whnf
   refine ⟨L,_,_,⟨rfl,rfl,rfl⟩,ho0,dm,?_⟩;intro a1 dp1 cg ak
   conv=>whnf
   refine ⟨L,_,_,⟨rfl,rfl,rfl⟩,ak,⟨rfl,sM,gx⟩,_,_,g2,?_⟩;intro a2 dp2 dl ah
   conv=>whnf
   refine ⟨L,_,_,⟨rfl,rfl,rfl⟩,ah,0,⟨rfl,oM⟩,fun b hb=>?_⟩;have hb:isW u2 [[58,45]]=b:=hb;rw [hb] at g3;intro a3 dp3 dx am
   cases b with
   | false =>
    rw [Tf sM] at g3
    cases g3
    conv=>whnf
    refine ⟨L,_,_,⟨rfl,rfl,rfl⟩,am,kj,?_⟩;exact mq134
   | true =>
   rw [Th rfl] at g3;have hn:=am.tl (Yz hb);(conv=>whnf);refine Or.inl ⟨hn.inr,wN ?_⟩;refine ⟨L,_,_,⟨rfl,rfl,rfl⟩,hn,gx,_,_,g3,?_⟩;intro a4 dp4 eu cf
   conv=>whnf
   refine ⟨L,_,_,⟨rfl,rfl,rfl⟩,cf,kj,?_⟩;intro a5 dp5 jg cq
   conv=>whnf
   exact h _ _ oM cq
  exact h.elim
 exact h.elim
def Zwc {n:Nat} (hb:PC w0 nG 177 (VV n)):PC w0 nG 261 (Zlh n):=by
 refine pwt (tbl:=[(225,VU (n+1) 6),(171,Ux),(174,JO),(177,VV n),(175,Zbp)]) ⟨ZzL _,UX,Zax,hb,Zcz,trivial⟩ Tryz.func261 fun args σ K h=>?_
 unfold Zlh at h
 split at h
 ·rename_i o s e1 rows1 e2 rows2 p op t rows a en dp w q
  obtain ⟨L,d,ts,l,r,k,⟨⟨rfl,rfl,rfl⟩,⟨rfl,rfl,rfl,rfl⟩,rfl,rfl,rfl⟩,ho,⟨ai,gx,cg⟩,x,t1,hx,h⟩:=h;obtain ⟨l2,u1,g1,hx⟩:=ZEG hx;obtain ⟨_,u2,g2,hx⟩:=ZEG hx;obtain ⟨iw,rfl⟩:=ZdD g2;obtain ⟨bd,u3,g3,hx⟩:=ZEG hx
  cases hx
  obtain ⟨hw,⟨e,rfl⟩,t2,g6,h2⟩:=ZdE g3;obtain ⟨ez,rfl⟩:isW t2 [[125]]=true/\t1=t2.tail:=by rcases h2 with ⟨g,_⟩ | g;exact absurd g dM;exact g.2
  have h64:=ho.d64;have hn:=ho.tl ai;have qe:(Zp (Zb L en) l).length<=1:=by rw [Ze,Te];exact cg
  refine pwv [] 1 false ?_;refine Or.inl ⟨hn.inr,wN ?_⟩;refine ZEy (fun hc=>?_) (fun hc=>?_)
  case' refine_1 =>
   rw [Tf (show ¬k=9 by have hc:¬(k:Int)=9:=hc;omega)] at g1;obtain ⟨⟨eo,es,em,er,ep⟩,u5,g5,g1⟩:=ZEG g1
   cases g1
   simp only [Xp,Ze,TP,TD,TM] at h;rw [<- Ze] at h;(conv=>whnf);refine ⟨L,_,_,⟨rfl,rfl,rfl⟩,hn,0,⟨rfl,oM,.inl oM⟩,_,_,g5,?_⟩;intro a1 dp1 xq ak
   conv=>whnf
   refine ⟨Tw.2 rfl,(show ((Zp (Zb L en) l).length+1) * 64<=2 ^ 47 by omega),(show (Zp (Zb L en) l).length+1<=2 ^ 47 by omega),wN ?_⟩
   (repeat (refine ⟨rfl,?_⟩;conv=>whnf))
  case' refine_2 =>
   rw [Th (show k=9 by have hc:(k:Int)=9:=hc;omega)] at g1
   cases g1
   have ak:=hn;have xq:=Int.le_refl (a+1);(conv=>whnf)
  all_goals
   refine ⟨L,_,_,⟨rfl,rfl,rfl⟩,ak,iw,?_⟩;intro a2 dp2 dl ah
   conv=>whnf
   refine ⟨L,_,_,⟨rfl,rfl,rfl⟩,ah,hw,e,rfl,?_⟩;intro a3 dp3 dx am
   conv=>whnf
   refine ⟨L,_,_,⟨rfl,rfl,rfl⟩,am,(show e<n by omega),_,_,g6,?_⟩;intro a4 dp4 eu cf
   conv=>whnf
   refine ⟨L,_,_,⟨rfl,rfl,rfl⟩,cf,⟨ez,oM⟩,?_⟩;intro a5 dp5 jg cq
   conv=>whnf
   exact h _ _ oM cq
 exact h.elim
def ZsR {n:Nat} (hl:PC w0 nG 226 (Zlg n)):PC w0 nG 177 (VV (n+1)):=by
 refine pwt (tbl:=[(224,Uw),(57,XZ),(101,Zbr),(226,Zlg n)]) ⟨Zbs,XF,ZcB,hl,trivial⟩ Tryz.func177 fun args σ K h=>?_
 unfold VV iR iSp at h
 split at h
 ·rename_i rest t rows a en dp w q
  obtain ⟨L,d,ts,⟨rfl,rfl,rfl⟩,ho,h⟩:=h;split at h
  ·obtain ⟨gx,x,t1,hx,h⟩:=h;rw [ZsL] at hx;refine pwv [(2,⟨[3],[0],fun vs σ=>∃(l:List Li) (f:Nat) (a' dp':Int) (ts':Ts),vs=[.sl 0 142 (l.map (Xp (Zb L en)))]/\σ=⟨[U9 t L a' en dp'],[0],1⟩/\a<=a'/\IK L a' dp' d ts'/\l.length+f=32/\ZdG [44] (ZzM d (ZpE d)) f l ts'=.ok x t1,Zy4 L⟩)] 1 false ?_;refine ⟨⟨[],32,a,dp,_,rfl,rfl,oM,ho,rfl,hx⟩,?_⟩;intro vs σ hI
   obtain ⟨l,f,a3,dp3,ts3,rfl,rfl,dx,am,hf,hx⟩:=hI;obtain ⟨g,⟨eo,es,ea,eb,ep⟩,t4,rfl,hv,hm,hq⟩:=UY hx;have mr:(l.map (Xp (Zb L en))).length<32:=by rw [Te];omega
   have zx:((l.map (Xp (Zb L en))).length:Int)<32:=oM;(conv=>whnf);refine ⟨L,_,_,⟨rfl,rfl,rfl⟩,am,fun b hb=>?_⟩;intro a4 dp4 eu cf
   cases b
   case' true =>
    conv=>whnf
    refine ⟨L,_,_,⟨rfl,rfl,rfl⟩,cf,zx,?_⟩;intro a6 dp6 ny fb
    have eu:=Int.le_trans eu ny;have cf:=fb
   case' false =>
    conv=>whnf
    refine ⟨L,_,_,⟨rfl,rfl,rfl⟩,cf,0,⟨rfl,oM⟩,fun b hb=>?_⟩;intro a5 dp5 jg cq
    have eu:=Int.le_trans eu jg;have cf:=cq
    cases b
    case' true =>
     conv=>whnf
     refine ⟨L,_,_,⟨rfl,rfl,rfl⟩,cf,zx,?_⟩;intro a6 dp6 ny fb
     have eu:=Int.le_trans eu ny;have cf:=fb
   all_goals
    conv=>whnf
    refine ⟨L,_,_,⟨rfl,rfl,rfl⟩,cf,gx,_,_,hv,?_⟩;intro a7 dp7 xk iz
    conv=>whnf
    refine ⟨Tw.2 rfl,(show ((l.map (Xp (Zb L en))).length+1) * 80<=2 ^ 47 by omega),(show (l.map (Xp (Zb L en))).length+1<=2 ^ 47 by omega),wN ?_⟩;refine ⟨L,_,_,⟨rfl,rfl,rfl⟩,iz,0,⟨rfl,oM⟩,fun b hb=>?_⟩;intro a8 dp8 xm jh
    cases b with
    | true =>
     have hn:=jh.tl (Yz hb);have hh:=hn.hi;(conv=>whnf);refine Or.inl ⟨hn.inr,wN ?_⟩;refine ⟨⟨l++[.mk eo es ea eb ep],g,_,_,_,by rw [TP];rfl,rfl,oM,hn,by rw [Ta];simp only [Td,Tg];omega,hm hb⟩,?_⟩;show ((L.length:Int) - (a8+1)).toNat<((L.length:Int) - a3).toNat;omega
    | false =>
    obtain ⟨rfl,rfl⟩:=hq hb;dsimp only at h;rw [ZD,TP] at h;(conv=>whnf);exact h _ _ oM jh
  exact h.elim
 exact h.elim
def Zwe {n:Nat} (hg:PC w0 nG 261 (Zlh n)):PC w0 nG 226 (Zlg n):=by
 refine Zjq ZC mixed (tbl:=[(106,JN),(57,XZ),(100,UW),(260,ZjS n),(225,VU (n+1) 6),(261,Zlh n)]) ⟨Zav,XF,Zaw,ZsN n,ZzL _,hg,trivial⟩ Tryz.func226 rfl kR kR ?_;intro args σ K h
 unfold Zlg iR iSp at h
 split at h
 ·rename_i rest t rows a en dp w q
  obtain ⟨L,d,ts,⟨rfl,rfl,rfl⟩,ho,h⟩:=h;split at h
  ·obtain ⟨gx,x,t1,hx,h⟩:=h
   change ZzM d (ZpE d) ts=.ok x t1 at hx
   unfold ZzM at hx
   by_cases hA:isW ts [[33]]=true
   ·rw [Th hA] at hx;obtain ⟨eo,es,ea,eb,ep⟩:=x;refine ⟨Zk [],Ye [],ZB [],ZB [],ZB [261],ZB [],1,false,sM,Tc rfl,wN ?_⟩;refine ⟨L,_,_,⟨rfl,rfl,rfl⟩,ho,?_⟩;intro a1 dp1 cg ak
    conv=>whnf
    refine ⟨L,_,_,⟨rfl,rfl,rfl⟩,ak,0,⟨rfl,oM⟩,fun b hb=>?_⟩;obtain rfl:b=true:=hb.symm.trans hA;intro a2 dp2 dl ah
    have hn:=ah.tl (Yz hA);(conv=>whnf);refine Or.inl ⟨hn.inr,wN ?_⟩;refine ⟨L,_,_,⟨rfl,rfl,rfl⟩,hn,2,ts.length,⟨rfl,rfl,gx⟩,_,_,hx,?_⟩;intro a3 dp3 dx am
    conv=>whnf
    exact h _ _ oM am
   rw [Tf hA] at hx;have hA:isW ts [[33]]=false:=by simpa using hA
   by_cases hB:ZG ts=true/\isW ts.tail [[40]]=true
   ·rw [Th hB] at hx;obtain ⟨eo,es,ea,eb,ep⟩:=x;refine ⟨Zk [],Ye [],ZB [],ZB [],ZB [261],ZB [],1,false,sM,Tc rfl,wN ?_⟩;refine ⟨L,_,_,⟨rfl,rfl,rfl⟩,ho,?_⟩;intro a1 dp1 cg ak
    conv=>whnf
    refine ⟨L,_,_,⟨rfl,rfl,rfl⟩,ak,0,⟨rfl,oM⟩,fun b hb=>?_⟩;obtain rfl:b=false:=hb.symm.trans hA;intro a2 dp2 dl ah
    conv=>whnf
    refine ⟨L,_,_,⟨rfl,rfl,rfl⟩,ah,rfl,fun b hb=>?_⟩;obtain rfl:b=true:=hb.symm.trans hB.1;intro a3 dp3 dx am
    conv=>whnf
    refine ⟨L,_,_,⟨rfl,rfl,rfl⟩,am,1,⟨rfl,oM⟩,fun b hb=>?_⟩;rw [List.drop_one] at hb;obtain rfl:b=true:=hb.symm.trans hB.2;intro a4 dp4 eu cf
    conv=>whnf
    refine ⟨L,_,_,⟨rfl,rfl,rfl⟩,cf,1,ts.length,⟨rfl,rfl,gx⟩,_,_,hx,?_⟩;intro a5 dp5 jg cq
    conv=>whnf
    exact h _ _ oM cq
   rw [Tf hB] at hx;obtain ⟨⟨eo,es,em,er,ep⟩,ts1,g1,hx⟩:=ZEG hx;split at hx
   ·cases hx
   rename_i fg
   refine ⟨Zk [(11,⟨[7],[0,2,4,5,6],fun vs σ=>∃(i:Nat) (a' dp':Int),vs=[.d (.int .i64 i)] /\
     σ=⟨[U9 t L a' en dp',.cells 142 [.d (.int .u8 0),.d (.str []),.sl 0 138 [],.sl 1 142 [],.d (.int .i64 0)],
      .cells 142 [.d (.int .u8 (ZeB ts1 i)),.d (.str []),.sl 2 138 [],.sl 3 142 [],.d (.int .i64 (Zb L en ts.length))],
      .cells 138 [.d (.int .u8 eo),.d (.str es),.d (.int .i64 em),.d (.sl (Zp (Zb L en) er)),.d (.int .i64 (Zb L en ep))]],[3,2,1,0],4⟩/\i<=6/\a<=a'/\IK L a' dp' d ts1,
     fun vs _=>match vs with | [.d (.int _ i)]=>(6 - i).toNat | _=>0⟩),
    (22,⟨[9],[0,2,4,8],fun vs σ=>∃(i:Nat) (a' dp':Int),vs=[.d (.int .i64 i)] /\
     σ=⟨[U9 t L a' en dp',.cells 142 [.d (.int .u8 0),.d (.str []),.sl 0 138 [],.sl 1 142 [],.d (.int .i64 0)],
      .cells 142 [.d (.int .u8 (ZeB ts1 6)),.d (.str []),.sl 2 138 [ZW (Zb L en) (.mk eo es em er ep)],.sl 3 142 [],.d (.int .i64 (Zb L en ts.length))],
      .cells 138 [.d (.int .u8 eo),.d (.str es),.d (.int .i64 em),.d (.sl (Zp (Zb L en) er)),.d (.int .i64 (Zb L en ep))]],[3,2,1,0],4⟩/\i<=4/\a<=a'/\IK L a' dp' d ts1.tail/\(ZeB ts1 6=3->Zpz ts1.tail i=0),
     fun vs _=>match vs with | [.d (.int _ i)]=>(4 - i).toNat | _=>0⟩)],Ye [],ZB [],ZB [],ZB [261],ZB [],1,false,sM,Tc rfl,?_⟩
   conv=>whnf
   refine ⟨L,_,_,⟨rfl,rfl,rfl⟩,ho,?_⟩;intro a1 dp1 cg ak
   conv=>whnf
   refine ⟨L,_,_,⟨rfl,rfl,rfl⟩,ak,0,⟨rfl,oM⟩,fun b hb=>?_⟩;obtain rfl:b=false:=hb.symm.trans hA;intro a2 dp2 dl ah
   conv=>whnf
   refine ⟨L,_,_,⟨rfl,rfl,rfl⟩,ah,rfl,fun b1 bu=>?_⟩;intro a3 dp3 dx am
   cases b1
   case' true =>
    conv=>whnf
    refine ⟨L,_,_,⟨rfl,rfl,rfl⟩,am,1,⟨rfl,oM⟩,fun b2 dw=>?_⟩;rw [List.drop_one] at dw;obtain rfl:b2=false:=by cases b2 with | false=>rfl | true=>exact absurd ⟨bu,dw⟩ hB
    intro a4 dp4 eu cf
    have dx:=Int.le_trans dx eu;have am:=cf
   all_goals
    conv=>whnf
    refine ⟨L,_,_,⟨rfl,rfl,rfl⟩,am,0,⟨rfl,oM,.inl gx⟩,_,_,g1,?_⟩;intro a5 dp5 jg cq
    conv=>whnf
    refine ⟨⟨0,a5,dp5,rfl,rfl,oM,oM,cq⟩,?_⟩;intro vs σ hI
    obtain ⟨i,a6,dp6,rfl,rfl,hi,ny,fb⟩:=hI;(conv=>whnf);refine ZEw (fun ac=>wN ?_) (fun ac=>?_)
    ·have ac:i<6:=by have ac:(i:Int)<6:=ac;omega
     obtain ⟨u,hu⟩:∃u,relWords[i]?=some u:=⟨_,Tb (show i<relWords.length from ac)⟩
     have cn:(relWords.map fun w=>[D.str w])[((i:Nat):Int).toNat]?=some [D.str u]:=by simp [hu]
     refine ⟨_,oM,cn,wN ?_⟩;refine ⟨L,_,_,⟨rfl,rfl,rfl⟩,fb,0,⟨rfl,oM⟩,fun b hb=>?_⟩;have j6:ZeB ts1 (i+1)=if b=true then 3+i else ZeB ts1 i:=by rw [ZeB,hu,<- hb];rfl
     intro a7 dp7 xk iz
     cases b with
     | true =>
      conv=>whnf
      refine WY ?_;refine WY ?_;exact mq135
     | false =>
     conv=>whnf
     exact mq135
    obtain rfl:i=6:=by have ac:¬(i:Int)<6:=ac;omega
    have ar:=ZpA ts1 6;have hn:=fb.tl (ZpB 6 fg);(conv=>whnf);refine ZEw (fun g=>absurd (show ZeB ts1 6=0 by have g:(ZeB ts1 6:Int)=0:=g;omega) fg) (fun _=>wN ?_);refine Or.inl ⟨hn.inr,wN ?_⟩;refine ⟨Tw.2 rfl,(show (0+1) * 64<=2 ^ 47 by omega),(show 0+1<=2 ^ 47 by omega),wN ?_⟩;refine ⟨⟨0,_,_,rfl,rfl,oM,oM,hn,fun _=>rfl⟩,?_⟩
    clear cg ak dl ah dx am jg cq ny fb hn
    intro vs σ hI
    obtain ⟨i,a6,dp6,rfl,rfl,hi,ny,fb,zy⟩:=hI;(conv=>whnf);refine ZEw (fun ac=>wN ?_) (fun ac=>?_)
    ·have ac:i<4:=by have ac:(i:Int)<4:=ac;omega
     obtain ⟨u,hu⟩:∃u,aggWords[i]?=some u:=⟨_,Tb (show i<aggWords.length from ac)⟩
     have cn:(aggWords.map fun w=>[D.str w])[((i:Nat):Int).toNat]?=some [D.str u]:=by simp [hu]
     refine ZEw (fun h3=>wN ?_) (fun h3=>wN ?_)
     ·have h3:ZeB ts1 6=3:=by have h3:(ZeB ts1 6:Int)=3:=h3;omega
      have zy:=zy h3;refine ⟨_,oM,cn,wN ?_⟩;refine ⟨L,_,_,⟨rfl,rfl,rfl⟩,fb,0,⟨rfl,oM⟩,fun b hb=>?_⟩;have hb:isW ts1.tail [u]=b:=hb;have zz:Zpz ts1.tail (i+1)=if b=true then 9+i else 0:=by rw [Zpz,Tf (by rw [zy];simp),hu,<- hb];rfl
      intro a7 dp7 xk iz
      cases b with
      | true =>
       have hj:=Zfu zz zy (3 - i);rw [show i+1+(3 - i)=4 by omega] at hj;rw [Th ⟨h3,by rw [hj];omega⟩,hj] at hx;obtain ⟨xo,xs,xa,xb,xp⟩:=x;(conv=>whnf);refine WY ?_;refine WY ?_;refine ⟨L,_,_,[.mk eo es em er ep],ts.length,9+i,⟨⟨rfl,rfl,rfl⟩,⟨rfl,rfl,rfl,rfl⟩,rfl,rfl,oM⟩,iz,⟨Yz hb,gx,sM⟩,_,_,hx,?_⟩;intro a8 dp8 xm jh
       conv=>whnf
       exact h _ _ oM jh
      | false =>
      conv=>whnf
      refine Zj ?_;refine ⟨⟨i+1,_,_,rfl,rfl,oM,oM,iz,fun _=>zz⟩,?_⟩;show (4 - ((i:Int)+1)).toNat<(4 - (i:Int)).toNat;omega
     have h3:¬ZeB ts1 6=3:=by have h3:¬(ZeB ts1 6:Int)=3:=h3;omega
     refine Zj ?_;refine ⟨⟨i+1,_,_,rfl,rfl,oM,oM,fb,fun g=>absurd g h3⟩,?_⟩;show (4 - ((i:Int)+1)).toNat<(4 - (i:Int)).toNat;omega
    obtain rfl:i=4:=by have ac:¬(i:Int)<4:=ac;omega
    rw [Tf (fun g=>g.2 (zy g.1))] at hx;obtain ⟨⟨go,gs,gm,gr,gp⟩,t3,g3,hx⟩:=ZEG hx
    cases hx
    conv=>whnf
    refine ⟨L,_,_,⟨rfl,rfl,rfl⟩,fb,0,⟨rfl,oM,.inl gx⟩,_,_,g3,?_⟩;intro a8 dp8 xm jh
    conv=>whnf
    refine ⟨Tw.2 rfl,(show (1+1) * 64<=2 ^ 47 by omega),(show 1+1<=2 ^ 47 by omega),wN ?_⟩;exact h _ _ oM jh
  exact h.elim
 exact h.elim
def ZsS:PC w0 nG 177 (VV 0):=by
 refine pwe Tryz.func177 fun args σ K h=>?_
 unfold VV iR iSp at h
 split at h
 ·obtain ⟨L,d,ts,_,ho,h⟩:=h;split at h
  ·exact absurd h.1 (Nat.not_lt_zero _)
  exact h.elim
 exact h.elim
def Zut:∀n,PC w0 nG 177 (VV n)
 | 0=>ZsS
 | n+1=>ZsR (Zwe (Zwc (Zut n)))
def ZzO (n:Nat):PC w0 nG 108 (ZgK n):=ZsP (Zut (n+1))
structure U3 where
 tys:List Ty
 rels:List Re
 rules:List Ru
def ZsT (d:Nat) (u:U3) (ts:Ts):R U3 :=
 if (hd ts).kind≠1 then .err 0 150
 else if (hd ts).text=[116,121,112,101] then (if u.tys.length<256 then (Zpe ts.tail).bind fun x ts=>.ok ⟨u.tys++[x],u.rels,u.rules⟩ ts else .err 0 3)
 else if (hd ts).text=[100,101,99,108] then (if u.rels.length<256 then (ZvT ts.tail).bind fun x ts=>.ok ⟨u.tys,u.rels++[x],u.rules⟩ ts else .err 0 3)
 else if ZG ts=true then (if u.rules.length<1024 then (ZzN d ts).bind fun x t1=>if t1.length<ts.length then .ok ⟨u.tys,u.rels,u.rules++[x]⟩ t1 else .err 0 150 else .err 0 3)
 else .err 0 150
def ZpF (d:Nat):Nat->U3->Ts->R U3
 | 0,_,_=>.err 0 150
 | f+1,u,ts=>match ts with
  | []=>.ok u []
  | t::ts=>(ZsT d u (t::ts)).bind fun u ts=>ZpF d f u ts
def ZdO (s:Bs):Option (Pl×U3):=match J2 s ((16384:Nat):Int) with
 | (l,_,c)=>if c=0/\s.length<=65536/\l.length<=1048576/\(l.all fun t=>decide (1<=t.kind) && decide (t.kind<=4))=true then
   (match ZpF 64 (l.length+1) ⟨[],[],[]⟩ (l.map Tok.t0) with
    | .ok u []=>some (Zb l s.length,u)
    | _=>none) else none
abbrev ZBB (pl:Pl) (u:U3):PV:=.agg [.sl 0 56 (u.tys.map (Zq pl)),.sl 1 109 (u.rels.map (ZN pl)),.sl 2 74 (u.rules.map (ZS pl)),.sl 3 158 [],.sl 4 163 [],.sl 5 167 []]
def ZjT (n:Nat):Zm:=fun args σ K=>match args,σ with
 | [.ptr 0 0,.agg [.sl 0 e0 r0,.sl 1 e1 r1,.sl 2 e2 r2,.sl 3 e3 r3,.sl 4 e4 r4,.sl 5 e5 r5]],⟨[.cells t [.d (.sl rows),.d (.int .i64 a),.d (.int .i64 en),.d (.int .i64 dp),.d (.int .i64 w),.d (.int .i64 q)]],[5,4,3,2,1,0],6⟩ =>
   ∃(L:List Tok) (d:Nat) (ts:Ts) (u:U3),((rows=Zz L/\w=0/\q=0)/\((e0=56/\r0=u.tys.map (Zq (Zb L en)))/\(e1=109/\r1=u.rels.map (ZN (Zb L en)))/\(e2=74/\r2=u.rules.map (ZS (Zb L en))))/\(e3=158/\r3=[])/\(e4=163/\r4=[])/\e5=167/\r5=[])/\IK L a dp d ts/\(ts≠[]/\d<n+1) /\
    ∃x t1,ZsT d u ts=.ok x t1/\∀a' dp',a<a'->IK L a' dp' d t1->K (.ret (ZBB (Zb L en) x)) ⟨[U9 t L a' en dp'],[5,4,3,2,1,0],6⟩
 | _,_=>False
def ZjU {ts:Ts} (h:ZG ts=true) {w:Bs} (hw:Zbk w=true):¬(hd ts).text=w:=by
 rintro rfl
 simp only [ZG,Tm] at h;rw [hw] at h;exact absurd h.2.2 dM
def ZsV (n:Nat):PC w0 nG 58 (ZjT n):=by
 refine Zjq ZC mixed (tbl:=[(100,UW),(101,Zbr),(102,ZgF),(103,ZjK),(108,ZgK n)]) ⟨Zaw,ZcB,Zpg,Zsn,ZzO n,trivial⟩ Tryz.func58 rfl kR kR ?_;intro args σ K h
 unfold ZjT at h
 split at h
 ·rename_i e0 r0 e1 r1 e2 r2 e3 r3 e4 r4 e5 r5 t rows a en dp w q
  obtain ⟨L,d,ts,u,⟨⟨rfl,rfl,rfl⟩,⟨⟨rfl,rfl⟩,⟨rfl,rfl⟩,rfl,rfl⟩,⟨rfl,rfl⟩,⟨rfl,rfl⟩,rfl,rfl⟩,ho,⟨ai,gx⟩,x,t1,hx,h⟩:=h;obtain ⟨h0,y,hy,ey,_,ia,ff⟩:=ho.at0 (ho.lt ai);unfold ZsT at hx
  have zl:∀{w:Bs},ZG ts=true->Zbk w=true->¬y.text=w:=fun h hw g=>ZjU h hw (by rw [ey];exact g)
  rw [ey] at hx;have ir:y.t0.kind=y.kind:=rfl;have xn:y.t0.text=y.text:=rfl;rw [ir,xn] at hx;split at hx
  ·cases hx
  rename_i hk
  have ab:=ho.lt ai;refine ⟨Zk [],Ye [],ZB [],ZB [],ZB [],ZB [],1,true,sM,Tc rfl,wN ?_⟩;refine ZEw (fun hc=>wN ?_) (fun hc=>absurd ab hc);refine ⟨_,h0,hy,wN ?_⟩;refine ZEw (fun dh=>?_) (fun dh=>absurd (show (y.kind:Int)=1 by omega) dh);(conv=>whnf);refine ⟨_,h0,hy,wN ?_⟩
  by_cases t0:y.text=[116,121,112,101]
  ·rw [Th t0] at hx;split at hx
   case isFalse=>cases hx
   rename_i aa
   obtain ⟨⟨vk,vn,vb,vf,vc,vp⟩,t2,g2,hx⟩:=ZEG hx
   cases hx
   have mr:(u.tys.map (Zq (Zb L en))).length<256:=by rw [Te];omega
   simp only [ZBB,TP,TD,TM] at h;refine ZEw (fun _=>wN ?_) (fun g=>absurd t0 g);refine ⟨L,_,_,⟨rfl,rfl,rfl⟩,ho,(show ((u.tys.map (Zq (Zb L en))).length:Int)<256 by omega),?_⟩;intro a1 dp1 cg ak
   have hn:=ak.tl ai;(conv=>whnf);refine Or.inl ⟨hn.inr,wN ?_⟩;refine ZEw (fun _=>wN ?_) (fun g=>absurd t0 g);refine ⟨L,_,_,⟨rfl,rfl,rfl⟩,hn,trivial,_,_,g2,?_⟩;intro a3 dp3 dx am
   conv=>whnf
   (repeat (refine ⟨rfl,?_⟩;conv=>whnf))
   refine ⟨Tw.2 rfl,(show ((u.tys.map (Zq (Zb L en))).length+1) * 96<=2 ^ 47 by omega),(show (u.tys.map (Zq (Zb L en))).length+1<=2 ^ 47 by omega),wN ?_⟩;exact mq159
  rw [Tf t0] at hx
  by_cases t1:y.text=[100,101,99,108]
  ·rw [Th t1] at hx;split at hx
   case isFalse=>cases hx
   rename_i aa
   obtain ⟨⟨vn,vf,vi,vo,vl,vp⟩,t2,g2,hx⟩:=ZEG hx
   cases hx
   have mr:(u.rels.map (ZN (Zb L en))).length<256:=by rw [Te];omega
   simp only [ZBB,TP,TD,TM] at h;refine ZEw (fun g=>absurd g t0) (fun _=>wN ?_);refine ZEw (fun _=>wN ?_) (fun g=>absurd t1 g);refine ⟨L,_,_,⟨rfl,rfl,rfl⟩,ho,(show ((u.rels.map (ZN (Zb L en))).length:Int)<256 by omega),?_⟩;intro a1 dp1 cg ak
   have hn:=ak.tl ai;(conv=>whnf);refine Or.inl ⟨hn.inr,wN ?_⟩;refine ZEw (fun g=>absurd g t0) (fun _=>wN ?_);refine ZEw (fun _=>wN ?_) (fun g=>absurd t1 g);refine ⟨L,_,_,⟨rfl,rfl,rfl⟩,hn,trivial,_,_,g2,?_⟩;intro a3 dp3 dx am
   conv=>whnf
   (repeat (refine ⟨rfl,?_⟩;conv=>whnf))
   refine ⟨Tw.2 rfl,(show ((u.rels.map (ZN (Zb L en))).length+1) * 56<=2 ^ 47 by omega),(show (u.rels.map (ZN (Zb L en))).length+1<=2 ^ 47 by omega),wN ?_⟩;exact mq159
  rw [Tf t1] at hx;split at hx
  case isFalse=>cases hx
  rename_i z4
  split at hx
  case isFalse=>cases hx
  rename_i aa
  obtain ⟨⟨vh,va,vb,vp⟩,t2,g2,hx⟩:=ZEG hx;split at hx
  case isFalse=>cases hx
  rename_i ez
  cases hx
  have t2:¬y.text=[99,111,109,112]:=zl z4 dM;have t3:¬y.text=[105,110,105,116]:=zl z4 dM;have t4:¬y.text=[111,118,101,114,114,105,100,101]:=zl z4 dM;have mr:(u.rules.map (ZS (Zb L en))).length<1024:=by rw [Te];omega
  simp only [ZBB,TP,TD,TM] at h;refine ZEw (fun g=>absurd g t0) (fun _=>wN ?_);refine ZEw (fun g=>absurd g t1) (fun _=>wN ?_);refine ZEw (fun g=>absurd g t2) (fun _=>wN ?_);refine ZEw (fun g=>absurd g t3) (fun _=>wN ?_);refine ZEw (fun g=>absurd g t4) (fun _=>wN ?_);refine ⟨L,_,_,⟨rfl,rfl,rfl⟩,ho,rfl,fun b hb=>?_⟩;obtain rfl:b=true:=hb.symm.trans z4;intro a1 dp1 cg ak
  conv=>whnf
  refine ⟨L,_,_,⟨rfl,rfl,rfl⟩,ak,(show ((u.rules.map (ZS (Zb L en))).length:Int)<1024 by omega),?_⟩;intro a2 dp2 dl ah
  have hn:=ah.tl ai;(conv=>whnf);refine Or.inl ⟨hn.inr,wN ?_⟩;refine ZEw (fun g=>absurd g t0) (fun _=>wN ?_);refine ZEw (fun g=>absurd g t1) (fun _=>wN ?_);refine ZEw (fun g=>absurd g t2) (fun _=>wN ?_);refine ZEw (fun g=>absurd g t3) (fun _=>wN ?_);refine ZEw (fun g=>absurd g t4) (fun _=>wN ?_);refine ⟨L,_,_,⟨rfl,rfl,rfl⟩,(⟨ho.toROK,ah.dpe,ho.d64,ho.kinds⟩:IK L a dp2 d ts),gx,_,_,g2,?_⟩;intro a3 dp3 dx am
  have ig:=ho.len;have mf:=am.len;(conv=>whnf)
  (repeat (refine ⟨rfl,?_⟩;conv=>whnf))
  refine ⟨Tw.2 rfl,(show ((u.rules.map (ZS (Zb L en))).length+1) * 72<=2 ^ 47 by omega),(show (u.rules.map (ZS (Zb L en))).length+1<=2 ^ 47 by omega),wN ?_⟩;exact mq159
 exact h.elim
abbrev ZzP (pl:Pl) (u:U3):PV:=.agg [.d (.sl (u.tys.map (Zq pl))),.d (.sl (u.rels.map (ZN pl))),.d (.sl (u.rules.map (ZS pl))),.d (.sl []),.d (.sl []),.d (.sl [])]
def ZjV (n:Nat):Zm:=iSp fun rest pl d ts K=>match rest with
 | [.d (.bool b)]=>(b=false/\d<n+1)/\∃f x t1,ZpF d f ⟨[],[],[]⟩ ts=.ok x t1/\K (ZzP pl x) d t1
 | _=>False
def ZsX (n:Nat):PC w0 nG 30 (ZjV n):=by
 refine Zjq ZC mixed (tbl:=[(58,ZjT n)]) ⟨ZsV n,trivial⟩ Tryz.func30 rfl kR kR ?_;intro args σ K h
 unfold ZjV iSp at h
 split at h
 ·rename_i rest t rows a en dp w q
  obtain ⟨L,d,ts,⟨rfl,rfl,rfl⟩,ho,h⟩:=h;split at h
  ·obtain ⟨⟨rfl,gx⟩,f,x,t1,hx,h⟩:=h;refine ⟨Zk [(2,⟨[],[0,1,4,5],fun vs σ=>∃(f:Nat) (u:U3) (a' dp':Int) (ts':Ts),vs=[] /\
     σ=⟨[U9 t L a' en dp',.cells 64 [.sl 0 56 [],.sl 1 109 [],.sl 2 74 [],.sl 3 158 [],.sl 4 163 [],.sl 5 167 []],
      .cells 64 [.sl 6 56 (u.tys.map (Zq (Zb L en))),.sl 7 109 (u.rels.map (ZN (Zb L en))),.sl 8 74 (u.rules.map (ZS (Zb L en))),.sl 9 158 [],.sl 10 163 [],.sl 11 167 []]],[11,10,9,8,7,6,5,4,3,2,1,0],12⟩/\a<=a'/\IK L a' dp' d ts'/\ZpF d f u ts'=.ok x t1,Zy4 L⟩)],Ye [],ZB [],ZB [],ZB [58],ZB [],1,false,sM,Tc rfl,?_⟩
   conv=>whnf
   refine ⟨⟨f,⟨[],[],[]⟩,a,dp,_,rfl,rfl,oM,ho,hx⟩,?_⟩;intro vs σ hI
   obtain ⟨f,u,a3,dp3,ts3,rfl,rfl,dx,am,hx⟩:=hI
   cases f with
   | zero=>cases hx
   | succ f =>
   conv=>whnf
   refine ZEw (fun hc=>?_) (fun hc=>?_)
   ·have ai:ts3≠[]:=by
     rintro rfl
     have:=am.len;have hc:a3<((Zz L).length:Int):=hc;rw [ZV] at hc;simp only [Tg] at this;omega
    obtain ⟨y,ys,rfl⟩:∃y ys,ts3=y::ys:=by cases ts3 with | nil=>exact absurd rfl ai | cons y ys=>exact ⟨y,ys,rfl⟩
    change (ZsT d u (y::ys)).bind (fun u ts=>ZpF d f u ts)=.ok x t1 at hx
    obtain ⟨u2,t4,g4,hx⟩:=ZEG hx;(conv=>whnf);refine ⟨L,d,_,u,⟨⟨rfl,rfl,rfl⟩,⟨⟨rfl,rfl⟩,⟨rfl,rfl⟩,rfl,rfl⟩,⟨rfl,rfl⟩,⟨rfl,rfl⟩,rfl,rfl⟩,am,⟨ai,gx⟩,_,_,g4,?_⟩;intro a4 dp4 eu cf
    have hh:=cf.hi;(conv=>whnf);refine ⟨⟨f,u2,_,_,_,rfl,rfl,oM,cf,hx⟩,?_⟩;show ((L.length:Int) - a4).toNat<((L.length:Int) - a3).toNat;omega
   obtain rfl:=am.nil hc
   change R.ok u []=.ok x t1 at hx
   cases hx
   conv=>whnf
   exact h _ _ oM am
  exact h.elim
 exact h.elim
def ZjW:Zm:=iSp fun rest pl d ts K=>match rest with
 | []=>ts=[]/\K (.tuple [.d (.int .i64 0),.d (.int .i64 0)]) d ts
 | _=>False
def ZsY:PC w0 nG 31 ZjW:=by
 refine pwe Tryz.func31 fun args σ K h=>?_
 unfold ZjW iSp at h
 split at h
 ·rename_i rest t rows a en dp w q
  obtain ⟨L,d,ts,⟨rfl,rfl,rfl⟩,ho,h⟩:=h;split at h
  ·obtain ⟨rfl,h⟩:=h;refine pwv [] 1 false ?_;refine ZEw (fun hc=>?_) (fun hc=>wN ?_)
   ·have hc:a<((Zz L).length:Int):=hc;have:=ho.none;rw [ZV] at hc;omega
   exact h _ _ oM ho
  exact h.elim
 exact h.elim
def ZgL:Zm:=fun args σ K=>match args,σ with
 | [.d (.str s),.d (.int .i64 b),.d (.int .i64 m)],⟨[],[],0⟩=>(s.length<=65536/\b=65536/\m=16384)/\∃l p,J2 s ((16384:Nat):Int)=(l,p,0) /\
   K (.ret (.tuple [.ptr 0 0,.d (.int .i64 0),.d (.int .i64 0)])) ⟨[U9 133 l 0 s.length 0],[],0⟩
 | _,_=>False
def ZpG:Tbl:=[(56,ZoW)]
def ZpH:PC w0 nG 29 ZgL:=by
 refine pwt (tbl:=ZpG) ⟨ZvH,trivial⟩ Tryz.func29 fun args σ K h=>?_
 unfold ZgL at h
 split at h
 ·rename_i s b m
  obtain ⟨⟨hs,rfl,rfl⟩,l,p,hq,h⟩:=h;refine pwv [] 1 false ?_;refine ZEw (fun hc=>absurd (show (s.length:Int)>65536 from hc) oM) (fun hc=>wN ?_);refine ⟨oM,?_⟩;intro x hx
  obtain rfl:(l,p,0)=x:=hq.symm.trans hx;exact mq51
 exact h.elim
def Zwf:Zm:=fun args σ K=>match args,σ with
 | [.d (.str s)],⟨[],[],0⟩=>∃pl u,ZdO s=some (pl,u)/\K (.ret (.tuple [ZzP pl u,.d (.int .i64 0),.d (.int .i64 0)])) ⟨[],[],0⟩
 | _,_=>False
def ZzQ:Tbl:=[(29,ZgL),(30,ZjV 64),(31,ZjW)]
def ZDG:PC w0 nG 18 Zwf:=by
 refine pwt (tbl:=ZzQ) ⟨ZpH,ZsX 64,ZsY,trivial⟩ Tryz.func18 fun args σ K h=>?_
 unfold Zwf at h
 split at h
 ·rename_i s
  obtain ⟨pl,u,hr,h⟩:=h;unfold ZdO at hr
  split at hr
  rename_i l p c hq
  split at hr
  case isFalse=>cases hr
  rename_i dk
  obtain ⟨rfl,hs,hl,hk⟩:=dk;split at hr
  case h_2=>cases hr
  rename_i u1 hu
  cases hr
  have ho:IK l 0 0 64 (l.map Tok.t0):=⟨⟨oM,oM,hl,by simp [tz]⟩,oM,oM,fun x hx=>by have:=Tq.1 hk x hx;simpa using this⟩
  refine pwv [] 0 false ?_;refine ⟨⟨hs,rfl,rfl⟩,l,p,hq,wN ?_⟩;refine ⟨l,_,_,⟨rfl,rfl,rfl⟩,ho,⟨rfl,oM⟩,_,_,_,hu,?_⟩;intro a1 dp1 cg ak
  conv=>whnf
  refine ⟨l,_,_,⟨rfl,rfl,rfl⟩,ak,rfl,?_⟩;intro a2 dp2 dl ah
  exact mq51
 exact h.elim
def ZgM:Nat->Ts->R Ex
 | 0=>fun _=>.err 0 150
 | d+1=>XA d
def ZsZ (d:Nat):Zdv d=fun ts=>JI (ZgM d) 6 1 ts:=by cases d <;> rfl
def ZmW (d:Nat) (ts:Ts):XA d ts=Zdu d (ZgM d) ts:=by cases d <;> rfl
def ZmX {ts:Ts} (h:ZU ts=true):ts≠[]:=by rintro rfl;simp [ZU,hd] at h
abbrev ZjX (d:Nat):Zm:=Zv9 (fun L en (v:Ex)=>Uv (ZW (Zb L en) v)) (Zdv d) 0 d
abbrev Zii (d:Nat):Zm:=Zv9 (fun L en (v:Ex)=>Uv (ZW (Zb L en) v)) (ZgM d) 0 d
abbrev Zfv (d:Nat):Zm:=ZiW (fun L en (v:Ex)=>Uv (ZW (Zb L en) v)) (Zbm d) 0 d
abbrev ZcC (d:Nat):Zm:=ZiW (fun L en (v:Ex)=>Uv (ZW (Zb L en) v)) (XA d) 0 d
abbrev ZaA (d:Nat):Zm:=ZiW (fun L en (v:Ex)=>Uv (ZW (Zb L en) v)) (Zar d (Zdv d)) 0 d
def ZdP (d:Nat):Zm:=Xq fun rest L en dp a ts K=>match rest with
 | [.d (.str fr),.d (.str tw)]=>((dp=64 - (d:Int)/\0<=dp)/\tw≠[])/\∀x,Zh7 d (Zdv d) fr tw ts=x->RKk (fun (l:List Ex)=>.d (.sl (l.map (ZW (Zb L en))))) L en dp a x K
 | _=>False
def Zli (d:Nat):Zm:=Xq fun rest L en dp a ts K=>match rest with
 | [.agg [.d (.int .u8 op),.d (.str []),.d (.int .i64 n),.nils e,.d (.int .i64 at')]]=>((dp=64 - (d:Int)/\0<=dp)/\n=0/\e=138)/\∃o:Nat,op=(o:Int)/\∀x,Zo d [40] [41] (Zaq (Zdv d) (WG o) []) ts=x ->
   RKk (fun (l:List Ex)=>.agg [.d (.int .u8 op),.d (.str []),.d (.int .i64 0),.d (.sl (l.map (ZW (Zb L en)))),.d (.int .i64 at')]) L en dp a x K
 | _=>False
def Vr (d:Nat):Zm:=fun args σ K=>match args,σ with
 | [.ptr 0 0,.d (.str sg),.d (.int .i64 m),.func g1 [.ptr 0 0] [],.func g2 [.ptr 0 0] []],⟨[.cells t [.d (.sl rows),.d (.int .i64 a),.d (.int .i64 en),.d (.int .i64 dp)]],[],0⟩ =>
   (sg=[44]/\m=12/\g1=249/\g2=250/\0<d/\dp=65 - (d:Int)/\0<=dp)/\∃L ts,rows=Zz L/\ROK L a ts/\∀x,XX [44] 12 ZU (Zdv d) ts=x ->
    RKk (fun (l:List Ex)=>.d (.sl (l.map (ZW (Zb L en))))) L en dp a x fun pe a' dp'=>K pe ⟨[.cells t [.d (.sl (Zz L)),.d (.int .i64 a'),.d (.int .i64 en),.d (.int .i64 dp')]],[],0⟩
 | _,_=>False
def Zlj (d:Nat):Tbl:=[(154,Zie),(248,Vr d)]
def Zlk (d:Nat):Tbl:=[(154,Zie),(161,Xt),(153,YS),(247,Zld Tryz.f247 (Zlj d))]
def Zwh {d:Nat}:OKw w0 nG [(213,Zld Tryz.f213 (Zlk d))] 216 (ZdP d):=by
 refine pwo Tryz.func216 fun args σ K h=>?_
 unfold ZdP Xq at h
 split at h
 ·rename_i rest t rows a en dp
  obtain ⟨L,ts,rfl,ho,h⟩:=h;split at h
  ·rename_i fr tw
   obtain ⟨⟨fu,wx⟩,h⟩:=h;have h0:=ho.lo;have h1:=ho.hi;have h2:=ho.big;refine pwv [] 1 false ?_;have h:=h _ rfl;unfold Zh7 at h
   refine ⟨_,fun _ _ h=>h,Tc rfl,wN ?_⟩;refine ⟨L,ts,rfl,ho,[fr],rfl,sM,fun b dm=>?_⟩
   cases b with
   | false =>
    exact mq188
   | true =>
   rw [Zo,Th dm] at h;(conv=>whnf);refine ZEw (fun hc=>wN ?_) (fun hc=>wN ?_)
   ·rw [Th oM] at h;exact mq74
   rw [Tf oM] at h;refine ⟨L,ts,rfl,ho,fun x hx=>?_⟩;rw [ZR,Th dm] at hx;subst hx;intro a1 ew ak
   have bu:=ak.hi;(conv=>whnf);refine Zj ?_;refine ⟨_,fun _ _ h=>h,Tc rfl,wN ?_⟩;refine ⟨L,ts.tail,rfl,ak,[tw],rfl,sM,fun b kj=>?_⟩;have fk:∀(x:R (List Ex)),(if isW ts.tail [tw]=true then R.ok [] ts.tail else XX [44] 12 ZU (Zdv d) ts.tail)=x->True:=fun _ _=>trivial
   cases b with
   | true =>
    rw [Th kj,R.bind_ok] at h;(conv=>whnf);have ah:=ak;refine ZEy (fun _=>wN ?_) (fun g=>absurd g wx);rw [Tf wx] at h;refine ⟨L,ts.tail,rfl,ak,fun x fi=>?_⟩;exact mq13
   | false =>
   rw [Tf (by rw [kj];simp)] at h;(conv=>whnf);refine ⟨⟨rfl,rfl,rfl,rfl,oM,oM,oM⟩,L,ts.tail,rfl,ak,fun x ca=>?_⟩;rcases x with ⟨v2,ts2⟩ | ⟨r2,e2⟩
   rotate_left
   ·exact mq41
   rw [ca,R.bind_ok] at h;intro a2 gl ah
   have dw:=ah.hi;(conv=>whnf);refine ZEy (fun _=>wN ?_) (fun g=>absurd g wx);rw [Tf wx] at h;refine ⟨L,ts2,rfl,ah,fun x fi=>?_⟩;exact mq13
  exact h.elim
 exact h.elim
def Vt (ex:Ts->R Ex) (k:Nat) (l:List Ex) (ts:Ts):Zaq ex (k+1) l ts=(if l=[] then .ok () ts else ZR [44] ts).bind fun _ ts=>(ex ts).bind fun e ts=>Zaq ex k (l++[e]) ts:=rfl
def Zll (d:Nat):Tbl:=[(161,Xt),(250,ZjX d)]
def Zlm (d:Nat):Tbl:=[(154,Zie),(161,Xt),(153,YS),(326,ZzI Tryz.f326 (Ye [(1,5)]) (Zll d))]
def Zwj {d:Nat}:OKw w0 nG [(213,Zld Tryz.f213 (Zlm d))] 322 (Zli d):=by
 refine pwo Tryz.func322 fun args σ K h=>?_
 unfold Zli Xq at h
 split at h
 ·rename_i rest t rows a en dp
  obtain ⟨L,ts,rfl,ho,h⟩:=h;split at h
  ·rename_i op n e at'
   obtain ⟨⟨fu,rfl,rfl⟩,o,rfl,h⟩:=h;have h:=h _ rfl;have h0:=ho.lo;have h1:=ho.hi;have h2:=ho.big;refine pwv [] 1 false ?_;refine ZEw (fun fg=>?_) (fun fg=>wN ?_)
   ·obtain rfl:o=22:=by omega
    have lu:WG 22=3:=rfl;(conv=>whnf);refine Vd ?_;refine Vd ?_;rw [lu] at h;refine ⟨_,fun _ _ h=>h,Tc rfl,wN ?_⟩;refine ⟨L,ts,rfl,ho,[[40]],rfl,sM,fun b dm=>?_⟩
    cases b with
    | false =>
     exact mq188
    | true =>
    rw [Zo,Th dm] at h;(conv=>whnf);refine ZEw (fun hc=>wN ?_) (fun hc=>wN ?_)
    ·rw [Th oM] at h;exact mq74
    rw [Tf oM] at h;refine ⟨L,ts,rfl,ho,fun x hx=>?_⟩;rw [ZR,Th dm] at hx;subst hx;intro a1 ew ak
    have bu:=ak.hi;(conv=>whnf);refine Zj ?_;refine ⟨_,fun _ _ h=>h,Tc rfl,wN ?_⟩;rw [Vt] at h;rw [Th rfl,R.bind_ok] at h;refine ⟨L,ts.tail,rfl,ak,⟨oM,oM,oM⟩,fun x n4=>?_⟩;rcases x with ⟨v10,ts10⟩ | ⟨r10,e10⟩
    rotate_left
    ·exact mq142
    rw [n4,R.bind_ok] at h;intro a10 s5 lv
    have z6:=lv.hi;obtain ⟨v10a,v10b,v10c,v10d,v10e⟩:=v10;(conv=>whnf);refine ⟨rfl,rfl,Tc rfl,Tc rfl,wN ?_⟩
    repeat (refine ⟨rfl,?_⟩;conv=>whnf)
    refine Vd ?_;rw [Vt] at h;rw [Tf sM] at h;refine ⟨L,ts10,rfl,lv,fun x ku=>?_⟩;rcases x with ⟨v11,ts11⟩ | ⟨r11,e11⟩
    rotate_left
    ·rw [ku,R.bind_err,R.bind_err] at h;intro a9 d9;(conv=>whnf);exact h _ _
    rw [ku,R.bind_ok] at h;intro a11 s6 lw
    have z7:=lw.hi;(conv=>whnf);refine ⟨L,ts11,rfl,lw,⟨oM,oM,oM⟩,fun x lx=>?_⟩;rcases x with ⟨v12,ts12⟩ | ⟨r12,e12⟩
    rotate_left
    ·rw [lx,R.bind_err,R.bind_err] at h;intro a9 d9;(conv=>whnf);exact h _ _
    rw [lx,R.bind_ok] at h;intro a12 s7 ly
    have z8:=ly.hi;obtain ⟨v12a,v12b,v12c,v12d,v12e⟩:=v12;(conv=>whnf);refine ⟨rfl,rfl,Tc rfl,Tc rfl,wN ?_⟩
    repeat (refine ⟨rfl,?_⟩;conv=>whnf)
    refine Vd ?_;rw [Vt] at h;rw [Tf sM] at h;refine ⟨L,ts12,rfl,ly,fun x aaa=>?_⟩;rcases x with ⟨v13,ts13⟩ | ⟨r13,e13⟩
    rotate_left
    ·rw [aaa,R.bind_err,R.bind_err] at h;intro a9 d9;(conv=>whnf);exact h _ _
    rw [aaa,R.bind_ok] at h;intro a13 afj aab
    have ahq:=aab.hi;(conv=>whnf);refine ⟨L,ts13,rfl,aab,⟨oM,oM,oM⟩,fun x aac=>?_⟩;rcases x with ⟨v14,ts14⟩ | ⟨r14,e14⟩
    rotate_left
    ·rw [aac,R.bind_err,R.bind_err] at h;intro a9 d9;(conv=>whnf);exact h _ _
    rw [aac,R.bind_ok] at h;intro a14 afk aad
    have ahr:=aad.hi;obtain ⟨v14a,v14b,v14c,v14d,v14e⟩:=v14;(conv=>whnf);refine ⟨rfl,rfl,Tc rfl,Tc rfl,wN ?_⟩
    repeat (refine ⟨rfl,?_⟩;conv=>whnf)
    refine Vd ?_;rw [Zaq] at h;rw [R.bind_ok] at h;have aae:ts14=ts14:=rfl;have ah:=aad;obtain ⟨ts2,pi⟩:∃t,t=ts14:=⟨_,rfl⟩
    rw [<- pi] at h ah;exact mq184
   refine ZEw (fun v7=>?_) (fun v7=>wN ?_)
   ·obtain rfl:o=20:=by omega
    have lu:WG 20=2:=rfl;(conv=>whnf);refine Vd ?_;rw [lu] at h;refine ⟨_,fun _ _ h=>h,Tc rfl,wN ?_⟩;refine ⟨L,ts,rfl,ho,[[40]],rfl,sM,fun b dm=>?_⟩
    cases b with
    | false =>
     exact mq188
    | true =>
    rw [Zo,Th dm] at h;(conv=>whnf);refine ZEw (fun hc=>wN ?_) (fun hc=>wN ?_)
    ·rw [Th oM] at h;exact mq74
    rw [Tf oM] at h;refine ⟨L,ts,rfl,ho,fun x hx=>?_⟩;rw [ZR,Th dm] at hx;subst hx;intro a1 ew ak
    have bu:=ak.hi;(conv=>whnf);refine Zj ?_;refine ⟨_,fun _ _ h=>h,Tc rfl,wN ?_⟩;rw [Vt] at h;rw [Th rfl,R.bind_ok] at h;refine ⟨L,ts.tail,rfl,ak,⟨oM,oM,oM⟩,fun x n4=>?_⟩;rcases x with ⟨v10,ts10⟩ | ⟨r10,e10⟩
    rotate_left
    ·exact mq142
    rw [n4,R.bind_ok] at h;intro a10 s5 lv
    have z6:=lv.hi;obtain ⟨v10a,v10b,v10c,v10d,v10e⟩:=v10;(conv=>whnf);refine ⟨rfl,rfl,Tc rfl,Tc rfl,wN ?_⟩
    repeat (refine ⟨rfl,?_⟩;conv=>whnf)
    refine Vd ?_;rw [Vt] at h;rw [Tf sM] at h;refine ⟨L,ts10,rfl,lv,fun x ku=>?_⟩;rcases x with ⟨v11,ts11⟩ | ⟨r11,e11⟩
    rotate_left
    ·rw [ku,R.bind_err,R.bind_err] at h;intro a9 d9;(conv=>whnf);exact h _ _
    rw [ku,R.bind_ok] at h;intro a11 s6 lw
    have z7:=lw.hi;(conv=>whnf);refine ⟨L,ts11,rfl,lw,⟨oM,oM,oM⟩,fun x lx=>?_⟩;rcases x with ⟨v12,ts12⟩ | ⟨r12,e12⟩
    rotate_left
    ·rw [lx,R.bind_err,R.bind_err] at h;intro a9 d9;(conv=>whnf);exact h _ _
    rw [lx,R.bind_ok] at h;intro a12 s7 ly
    have z8:=ly.hi;obtain ⟨v12a,v12b,v12c,v12d,v12e⟩:=v12;(conv=>whnf);refine ⟨rfl,rfl,Tc rfl,Tc rfl,wN ?_⟩
    repeat (refine ⟨rfl,?_⟩;conv=>whnf)
    refine Vd ?_;rw [Zaq] at h;rw [R.bind_ok] at h;have aae:ts12=ts12:=rfl;have ah:=ly;obtain ⟨ts2,pi⟩:∃t,t=ts12:=⟨_,rfl⟩
    rw [<- pi] at h ah;exact mq184
   have lu:WG o=1:=by rw [WG,Tf oM,Tf oM]
   rw [lu] at h;refine ⟨_,fun _ _ h=>h,Tc rfl,wN ?_⟩;refine ⟨L,ts,rfl,ho,[[40]],rfl,sM,fun b dm=>?_⟩
   cases b with
   | false =>
    exact mq188
   | true =>
   rw [Zo,Th dm] at h;(conv=>whnf);refine ZEw (fun hc=>wN ?_) (fun hc=>wN ?_)
   ·rw [Th oM] at h;exact mq74
   rw [Tf oM] at h;refine ⟨L,ts,rfl,ho,fun x hx=>?_⟩;rw [ZR,Th dm] at hx;subst hx;intro a1 ew ak
   have bu:=ak.hi;(conv=>whnf);refine Zj ?_;refine ⟨_,fun _ _ h=>h,Tc rfl,wN ?_⟩;rw [Vt] at h;rw [Th rfl,R.bind_ok] at h;refine ⟨L,ts.tail,rfl,ak,⟨oM,oM,oM⟩,fun x n4=>?_⟩;rcases x with ⟨v10,ts10⟩ | ⟨r10,e10⟩
   rotate_left
   ·exact mq142
   rw [n4,R.bind_ok] at h;intro a10 s5 lv
   have z6:=lv.hi;obtain ⟨v10a,v10b,v10c,v10d,v10e⟩:=v10;(conv=>whnf);refine ⟨rfl,rfl,Tc rfl,Tc rfl,wN ?_⟩
   repeat (refine ⟨rfl,?_⟩;conv=>whnf)
   refine Vd ?_;rw [Zaq] at h;rw [R.bind_ok] at h;have aae:ts10=ts10:=rfl;have ah:=lv;obtain ⟨ts2,pi⟩:∃t,t=ts10:=⟨_,rfl⟩
   rw [<- pi] at h ah;exact mq184
  exact h.elim
 exact h.elim
def Zln (d:Nat):Tbl:=[(250,ZjX d)]
def Zlo (d:Nat):Tbl:=[(154,Zie),(161,Xt),(153,YS),(321,Zld Tryz.f321 (Zln d))]
def ZpI (d:Nat):Tbl:=[(249,JM ZU),(153,YS),(207,Zau),(213,Zld Tryz.f213 (Zlo d)),(216,ZdP d),(160,XB),(154,Zie),(190,Xk),(322,Zli d)]
def ZmY {d:Nat} (ht:TO w0 nG (ZpI d)):PC w0 nG 310 (ZaA d):=by
 refine Zbc ZC mixed (tbl:=ZpI d) ht Tryz.func310 rfl kR kR ?_;intro args σ K h
 unfold ZaA ZiW Xq at h
 split at h
 ·rename_i rest t rows a en dp
  obtain ⟨L,ts,rfl,ho,h⟩:=h;split at h
  ·obtain ⟨fu,h⟩:=h;have h0:=ho.lo;have h1:=ho.hi;have h2:=ho.big;refine ⟨Zk [],Ye [],ZB [],ZB [],ZB [322],1,false,sM,Tc rfl,wN ?_⟩;have h:=h _ rfl;refine ⟨L,ts,rfl,ho,fun b hst=>?_⟩
   cases b with
   | false =>
    rw [Zar,Th hst] at h;(conv=>whnf);exact mq74
   | true =>
   rw [Zar,Tf (by rw [hst];simp)] at h;have xr:=ho.tl (ZmX hst);have xc:=xr.hi;(conv=>whnf);refine ⟨L,ts,rfl,ho,fun fin=>Or.inl ⟨rfl,wN ?_⟩⟩;refine ZEw (fun hc=>wN ?_) (fun hc=>wN ?_)
   ·rw [Th (show (hd ts).kind=2 by omega)] at h;exact mq132
   rw [Tf (show ¬(hd ts).kind=2 by omega)] at h;refine ZEw (fun hc=>wN ?_) (fun hc=>wN ?_)
   ·rw [Th (show (hd ts).kind=3 by omega)] at h;exact mq132
   rw [Tf (show ¬(hd ts).kind=3 by omega)] at h;refine ZEw (fun hc=>wN ?_) (fun hc=>wN ?_)
   ·rw [Th (show (hd ts).text=[40] from hc)] at h;refine ⟨_,fun _ _ h=>h,Tc rfl,wN ?_⟩;refine ⟨L,ts,rfl,ho,[[40]],rfl,sM,fun b dm=>?_⟩
    cases b with
    | false =>
     exact mq188
    | true =>
    rw [Zo,Th dm] at h;(conv=>whnf);refine ZEw (fun hc=>wN ?_) (fun hc=>wN ?_)
    ·rw [Th oM] at h;exact mq74
    rw [Tf oM] at h;refine ⟨L,ts,rfl,ho,fun x hx=>?_⟩;rw [ZR,Th dm] at hx;subst hx;intro a1 ew ak
    have bu:=ak.hi;(conv=>whnf);refine Zj ?_;refine ⟨_,fun _ _ h=>h,Tc rfl,wN ?_⟩;refine ⟨L,ts.tail,rfl,ak,⟨oM,oM,oM⟩,fun x ca=>?_⟩;rcases x with ⟨v2,ts2⟩ | ⟨r2,e2⟩
    rotate_left
    ·exact mq41
    rw [ca,R.bind_ok] at h;intro a2 gl ah
    have dw:=ah.hi;obtain ⟨v2a,v2b,v2c,v2d,v2e⟩:=v2;(conv=>whnf);exact mq184
   rw [Tf (show ¬(hd ts).text=[40] from hc)] at h;refine ZEw (fun hc=>wN ?_) (fun hc=>wN ?_)
   ·rw [Th (show (hd ts).text=[91] from hc)] at h;refine ⟨L,ts,rfl,ho,⟨fu,sM⟩,fun x dv=>?_⟩;rcases x with ⟨v1,ts1⟩ | ⟨r1,e1⟩
    rotate_left
    ·exact mq48
    rw [dv,R.bind_ok] at h;intro a1 ew ak
    have bu:=ak.hi;(conv=>whnf);rw [<- Ze];exact h _ oM ak
   rw [Tf (show ¬(hd ts).text=[91] from hc)] at h;refine ZEw (fun hc=>wN ?_) (fun hc=>wN ?_)
   ·rw [Th (show (hd ts).text=[36] from hc)] at h;refine Zj ?_;refine ⟨L,ts.tail,rfl,xr,fun x dv=>?_⟩;rcases x with ⟨v1,ts1⟩ | ⟨r1,e1⟩
    rotate_left
    ·exact mq48
    rw [dv,R.bind_ok] at h;intro a1 ew ak
    have bu:=ak.hi;(conv=>whnf);refine ⟨L,ts1,rfl,ak,[[40]],rfl,sM,fun b iw=>?_⟩
    cases b with
    | false =>
     rw [Tf (by rw [iw];simp)] at h;(conv=>whnf);exact h _ oM ak
    | true =>
    rw [Th iw] at h;(conv=>whnf);refine ⟨L,ts1,rfl,ak,⟨fu,sM⟩,fun x fi=>?_⟩;rcases x with ⟨v3,ts3⟩ | ⟨r3,e3⟩
    rotate_left
    ·exact mq17
    exact mq153
   rw [Tf (show ¬(hd ts).text=[36] from hc)] at h;intro n hn
   conv=>whnf
   refine ZEy (fun hc=>wN ?_) (fun hc=>wN ?_)
   ·rw [Th (show ZT (hd ts).text≠0 by omega)] at h;refine Zj ?_;intro n2 lm
    conv=>whnf
    refine ⟨L,ts.tail,rfl,xr,⟨fu,rfl,rfl⟩,ZT (hd ts).text,lm.symm,fun x dv=>?_⟩;rcases x with ⟨v1,ts1⟩ | ⟨r1,e1⟩
    rotate_left
    ·exact mq48
    rw [dv,R.bind_ok] at h;intro a1 ew ak
    have bu:=ak.hi;(conv=>whnf);rw [<- lm,<- Ze];exact h _ oM ak
   rw [Tf (show ¬ZT (hd ts).text≠0 by omega)] at h;refine ZEw (fun hc=>wN ?_) (fun hc=>wN ?_)
   ·rw [Th (show (hd ts).text=[110,105,108] from hc)] at h;refine Zj ?_;exact h _ oM xr
   rw [Tf (show ¬(hd ts).text=[110,105,108] from hc)] at h;refine ZEw (fun hc=>wN ?_) (fun hc=>wN ?_)
   ·rw [Th (show (hd ts).text=[95] from hc)] at h;refine Zj ?_;exact h _ oM xr
   rw [Tf (show ¬(hd ts).text=[95] from hc)] at h;exact mq132
  exact h.elim
 exact h.elim
def Zlp (d:Nat):Tbl:=[(295,Zii d)]
def Zlq (d:Nat):Tbl:=[(154,Zie),(161,Xt),(153,YS),(309,Zld Tryz.f309 (Zlp d))]
def Zlr (d:Nat):Tbl:=[(159,WK),(154,Zie),(213,Zld Tryz.f213 (Zlq d)),(310,ZaA d)]
def ZpJ {d:Nat} (ht:TO w0 nG (Zlr d)):PC w0 nG 295 (ZcC d):=by
 refine YF ZC mixed (tbl:=Zlr d) ht Tryz.func295 rfl kR kR ?_;intro args σ K h
 unfold ZcC ZiW Xq at h
 split at h
 ·rename_i rest t rows a en dp
  obtain ⟨L,ts,rfl,ho,h⟩:=h;split at h
  ·obtain ⟨fu,h⟩:=h;have h0:=ho.lo;have h1:=ho.hi;have h2:=ho.big;refine ⟨Zk [],Ye [(3,4)],ZB [],1,false,sM,Tc rfl,wN ?_⟩;have h:=h _ rfl;rw [ZmW,Zdu] at h;refine ⟨L,ts,rfl,ho,wN ?_⟩;refine ⟨dM,dM,wN ?_⟩;refine ⟨L,ts,rfl,ho,[[45]],rfl,sM,fun b hw8=>?_⟩
   cases b with
   | true =>
    rw [Th hw8] at h;(conv=>whnf);refine ⟨_,fun _ _ h=>h,Tc rfl,wN ?_⟩;refine ⟨L,ts,rfl,ho,[[45]],rfl,sM,fun b dm=>?_⟩;exact mq14
   | false =>
   rw [Tf (by rw [hw8];simp)] at h;(conv=>whnf);refine Vd ?_;refine ⟨dM,dM,wN ?_⟩;refine ⟨L,ts,rfl,ho,[[126]],rfl,sM,fun b gz=>?_⟩
   cases b with
   | true =>
    rw [Th gz] at h;(conv=>whnf);refine ⟨_,fun _ _ h=>h,Tc rfl,wN ?_⟩;refine ⟨L,ts,rfl,ho,[[126]],rfl,sM,fun b dm=>?_⟩;exact mq14
   | false =>
   rw [Tf (by rw [gz];simp)] at h;(conv=>whnf);refine Vd ?_;rw [show JI (ZgM d) 6 1=Zdv d from (ZsZ d).symm] at h;refine ⟨L,ts,rfl,ho,fu,fun x dv=>?_⟩;exact mq84
  exact h.elim
 exact h.elim
def Zfw (d j:Nat):Zm:=Xq fun rest L en dp a ts K=>match rest with
 | [.d (.int .i64 least)]=>((dp=64 - (d:Int)/\0<=dp)/\1<=least/\least<=6/\6<=least+(j:Int))/\∀x,JI (XA d) j least.toNat ts=x->RKk (fun (v:Ex)=>Uv (ZW (Zb L en) v)) L en dp a x K
 | _=>False
def ZdQ (d j:Nat):Zm:=Xq fun rest L en dp a ts K=>match rest with
 | [.d (.int .i64 least)]=>((dp=64 - (d:Int)/\0<=dp)/\0<j/\1<=least/\least<=6/\7<=least+(j:Int))/\∀x,JI (XA d) (j - 1) least.toNat ts=x->RKk (fun (v:Ex)=>Uv (ZW (Zb L en) v)) L en dp a x K
 | _=>False
def ZpK (ts:Ts):(Zcf ts).1<=5/\(Zcf ts).2<=255:=by
 unfold Zcf
 repeat' (first | (split;decide) | split)
 all_goals decide
def Zij (sub : Nat -> Ts -> R Ex) (least f : Nat) (e : Ex) (ts : Ts) : Zas sub least (f + 1) e ts = if (Zcf ts).1 < least \/ (Zcf ts).1 = 0 then .ok e ts
      else (sub ((Zcf ts).1+1) ts.tail).bind fun g ts'=>Zas sub least f (.mk (Zcf ts).2 [] 0 [e,g] e.at') ts':=rfl
def ZmZ {sub:Nat->Ts->R Ex} {least f:Nat} {e:Ex} {ts:Ts} (h:6<=least):Zas sub least (f+1) e ts=.ok e ts:=by
 rw [Zij,Th];have:=(ZpK ts).1;omega
def Zwk {ts:Ts} (h:(Zcf ts).1≠0):ts≠[]:=by rintro rfl;exact h rfl
def Zs0 (sg:Ts->R Ex) (j least:Nat) (ts:Ts) (h:6<=least+j):JI sg j least ts=(sg ts).bind fun e ts=>Zas (JI sg (j - 1)) least (ts.length+1) e ts:=by
 cases j with
 | zero =>
  rw [JI]
  cases sg ts with
  | ok e ts=>rw [R.bind_ok,ZmZ oM]
  | err r e=>rfl
 | succ j=>rfl
def ZpL {d j:Nat}:OKw w0 nG [(295,ZcC d),(296,ZsC),(277,ZdQ d j)] 277 (Zfw d j):=by
 refine pwo Tryz.func277 fun args σ K h=>?_
 unfold Zfw Xq at h
 split at h
 ·rename_i rest t rows a en dp
  obtain ⟨L,ts,rfl,ho,h⟩:=h;split at h
  ·rename_i least
   obtain ⟨⟨fu,cg,dl,dx⟩,h⟩:=h;have h0:=ho.lo;have h1:=ho.hi;have h2:=ho.big;refine pwv [(2,⟨[],[0,1,4,5],fun vs σ=>∃(u1:Nat) (u2:Bs) (u3:Int) (u4:List Ex) (u5:Nat) (a':Int) (ts':Ts) (f:Nat),vs=[]/\σ=⟨[.cells t [.d (.sl (Zz L)),.d (.int .i64 a'),.d (.int .i64 en),.d (.int .i64 dp)],.cells 138 [.d (.int .u8 0),.d (.str []),.d (.int .i64 0),.sl 0 138 [],.d (.int .i64 0)],.cells 138 [.d (.int .u8 u1),.d (.str u2),.d (.int .i64 u3),.d (.sl (Zp (Zb L en) u4)),.d (.int .i64 (Zb L en u5))]],[0],1⟩/\ROK L a' ts'/\a<=a'/\ts'.length<f/\RKk (fun (v:Ex)=>Uv (ZW (Zb L en) v)) L en dp a (Zas (JI (XA d) (j - 1)) least.toNat f (.mk u1 u2 u3 u4 u5) ts') (fun pe a' dp'=>K pe ⟨[.cells t [.d (.sl (Zz L)),.d (.int .i64 a'),.d (.int .i64 en),.d (.int .i64 dp')]],[],0⟩),fun _ σ=>match σ with | ⟨.cells _ [_,.d (.int _ i),_,_]::_,_,_⟩=>((L.length:Int) - i).toNat | _=>0⟩)] 1 false ?_;have h:=h _ rfl;rw [Zs0 _ _ _ _ oM] at h;refine ⟨L,ts,rfl,ho,fu,fun x dv=>?_⟩;rcases x with ⟨v1,ts1⟩ | ⟨r1,e1⟩
   rotate_left
   ·exact mq48
   rw [dv,R.bind_ok] at h;intro a1 ew ak
   have bu:=ak.hi;obtain ⟨v1a,v1b,v1c,v1d,v1e⟩:=v1;(conv=>whnf);refine ⟨⟨v1a,v1b,v1c,v1d,v1e,a1,ts1,ts1.length+1,rfl,rfl,ak,oM,oM,h⟩,?_⟩
   clear h dv ak bu ew
   intro vs σ hI
   obtain ⟨u1,u2,u3,u4,u5,a',ts',f,rfl,rfl,dj,ad1,hf,h⟩:=hI;obtain ⟨f,rfl⟩:∃g,f=g+1:=⟨f - 1,oM⟩
   rw [Zij] at h;have qh:=dj.hi;have s8:=dj.len;(conv=>whnf);refine ⟨L,ts',rfl,dj,fun n op hn fg=>wN ?_⟩;have ahs:=ZpK ts';refine ZEw (fun hc=>wN ?_) (fun hc=>wN ?_)
   ·rw [Th oM] at h;exact h _ oM dj
   refine ZEw (fun bj=>wN ?_) (fun bj=>wN ?_)
   ·rw [Th oM] at h;exact h _ oM dj
   rw [Tf oM] at h;have ah:=dj.tl (Zwk oM);have dw:=ah.hi;have gj:=ah.len;refine Zj ?_;refine Zj ?_;refine ⟨L,ts'.tail,rfl,ah,⟨fu,oM,oM,oM,oM⟩,fun x fi=>?_⟩;rw [show (n+1).toNat=(Zcf ts').1+1 by omega] at fi;rcases x with ⟨v3,ts3⟩ | ⟨r3,e3⟩
   rotate_left
   ·exact mq17
   rw [fi,R.bind_ok] at h;intro a3 gy am
   have gt:=am.hi;obtain ⟨v3a,v3b,v3c,v3d,v3e⟩:=v3;(conv=>whnf);have jy:=am.len;obtain rfl:op=((Zcf ts').2:Int):=fg.symm;refine ⟨⟨(Zcf ts').2,[],0,[.mk u1 u2 u3 u4 u5,.mk v3a v3b v3c v3d v3e],u5,a3,ts3,f,rfl,rfl,am,oM,oM,h⟩,?_⟩;exact mq173
  exact h.elim
 exact h.elim
def Zwn {d:Nat}:OKw w0 nG [(277,Zfw d 6)] 250 (Zfv d):=by
 refine pwo Tryz.func250 fun args σ K h=>?_
 unfold Zfv ZiW Xq at h
 split at h
 ·rename_i rest t rows a en dp
  obtain ⟨L,ts,rfl,ho,h⟩:=h;split at h
  ·obtain ⟨fu,h⟩:=h;have h0:=ho.lo;have h1:=ho.hi;have h2:=ho.big;refine pwv [] 1 false ?_;have h:=h _ rfl;refine ⟨L,ts,rfl,ho,⟨fu,oM,oM,oM⟩,fun x dv=>?_⟩;rw [Zbm] at h
   change JI (XA d) 6 1 ts=x at dv
   exact mq84
  exact h.elim
 exact h.elim
end Go.PM.Lex
end
