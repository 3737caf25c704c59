/- A part of the proof: plain logic, contracts and laws over the given program. -/
import Derived.Lib.LaidTab
import Derived.Test.YtcaoooleeciiaaaGreatDoorB09
set_option linter.unusedVariables false
set_option linter.unusedSimpArgs false
set_option linter.all false
set_option maxRecDepth 100000
set_option maxHeartbeats 16000000
noncomputable section
section
namespace Go.PM.Lex
def ZFn {len len' b0 b1 b2 b3 b1' b2' b3':Nat} (hl:len<=len') (h1:1<len->b1'=b1) (mz:¬1<len->b1'<128) (h2:2<len->b2'=b2) (cz:1<len->¬2<len->b2'<128) (h3:3<len->b3'=b3) (eg:2<len->¬3<len->b3'<128) :
  Lib.decodeN len' b0 b1' b2' b3'=Lib.decodeN len b0 b1 b2 b3:=by
 unfold Lib.decodeN
 by_cases c0:b0<128
 ·rw [Tg c0,Tg c0]
 rw [Tb c0,Tb c0]
 by_cases l1:1<len
 ·have e1:=h1 l1;subst e1;have g1:1<len':=oM
  by_cases l2:2<len
  ·have e2:=h2 l2;subst e2;have g2:2<len':=oM
   by_cases l3:3<len
   ·have e3:=h3 l3;subst e3;have g3:3<len':=oM;simp only [l1,l2,l3,g1,g2,g3,true_and]
   have:=eg l2 l3;have k:¬b3' / 64=2:=oM;simp only [l1,l2,l3,g1,g2,k,true_and,false_and,and_false,if_false]
  have:=cz l1 l2;have k:¬b2' / 64=2:=oM;simp only [l1,l2,g1,k,true_and,false_and,and_false,if_false]
 have:=mz l1;have k:¬b1' / 64=2:=oM;simp only [l1,k,true_and,false_and,and_false,if_false]
def ZfC (x z:Bs) (c:UInt8) (k:Nat) (h:¬k<x.length) (h2:x.length=k):(x++c::z).getD k 0=c:=by
 simp only [T5];rw [TZ oM,show k - x.length=0 by omega];rfl
def ZqS {x z:Bs} {c:UInt8} (hx:x≠[]) (hc:c.toNat<128):Lib.decodeL (x++c::z)=Lib.decodeL x:=by
 have ao:=Sf.2 hx;rw [Lib.decodeL_N,Lib.decodeL_N,VA x _ 0 ao];refine ZFn (by rw [Ta];omega) (fun h=>by rw [VA x _ 1 h]) (fun h=>?_) (fun h=>by rw [VA x _ 2 h]) (fun h h'=>?_) (fun h=>by rw [VA x _ 3 h]) (fun h h'=>?_)
 ·rw [ZfC x z c 1 h oM];exact hc
 ·rw [ZfC x z c 2 h' oM];exact hc
 rw [ZfC x z c 3 h' oM];exact hc
def ZbZ {x z:Bs} {c:UInt8} (hx:x≠[]) (hc:c.toNat<128):pk (x++c::z)=pk x:=by
 unfold pk
 rw [ZqS hx hc]
 by_cases g:Lib.decodeL x=(65533,1)
 ·rw [Tg (.inr g),Tg (.inr g)]
 rw [Tb (by simp [g]),Tb (by simp [hx,g])]
def ZfD {z:Bs} {c:UInt8} (hc:c.toNat<128):pk (c::z)=((c.toNat:Int),1):=by
 have e:Lib.decodeL (c::z)=(c.toNat,1):=by
  rw [Lib.decodeL_N];unfold Lib.decodeN;rw [Tg (by simpa using hc)];simp
 unfold pk
 rw [e,Tb sO]
structure Fol (c:UInt8) (z:Bs):Prop where
 low:c.toNat<128
 let':Ze c.toNat=false
 dig:Zk c.toNat=false
 dot:c=46->Ze (pk z).1=false
def Fol.pk {c:UInt8} {z:Bs} (h:Fol c z):Lex.pk (c::z)=((c.toNat:Int),1):=ZfD h.low
def ZqT {c:UInt8} {z:Bs} (h:Fol c z):∀(f:Nat),YE f (c::z)=0
 | 0=>rfl
 | f+1=>by
  by_cases uw:(Lex.pk (c::z)).1=46
  ·refine WE uw ?_;rw [h.pk] at uw;have:c=46:=by
    have uw:(c.toNat:Int)=46:=uw;exact UInt8.toNat_inj.1 (show c.toNat=(46:UInt8).toNat by have:(46:UInt8).toNat=46:=rfl;omega)
   exact h.dot this
  exact V6 uw (by rw [h.pk];exact h.let') (by rw [h.pk];exact h.dig)
def ZfE {c:UInt8} {z:Bs} (h:Fol c z):∀(f:Nat) (x:Bs),x.length<f->∀f',(x++c::z).length<f'->YE f' (x++c::z)=YE f x
 | 0,x,hx,f',hf=>oM
 | f+1,x,hx,0,hf=>oM
 | f+1,x,hx,f'+1,hf=>by
  by_cases aq:x=[]
  ·subst aq;rw [Tu,ZqT h,ZqB]
  have eh:=ZbZ (z:=z) aq h.low;rw [Ta] at hf;have step:∀(aj:(Lex.pk x).1≠-1),(x++c::z).drop (Lex.pk x).2=x.drop (Lex.pk x).2++c::z/\YE f' (x.drop (Lex.pk x).2++c::z)=YE f (x.drop (Lex.pk x).2):=fun aj=>by
   obtain ⟨h1,h2,h3⟩:=ZvK x aj;exact ⟨Ss h2,ZfE h f _ hD f' (by rw [Ta,TD];omega)⟩
  by_cases h1:(Lex.pk x).1=46
  ·have jd:=ZDL x oM oM;have y6:Ze (Lex.pk ((x++c::z).drop 1)).1=Ze (Lex.pk (x.drop 1)).1:=by
    rw [Ss jd.1]
    by_cases hd:x.drop 1=[]
    ·rw [hd,Tu,h.pk,Zas];rw [h.let'];rfl
    rw [ZbZ hd h.low]
   obtain ⟨s1,s2⟩:=step oM
   by_cases h2:Ze (Lex.pk (x.drop 1)).1=true
   ·rw [Zcz h1 h2,Zcz (by rw [eh];exact h1) (by rw [y6];exact h2),eh,s1,s2]
   have h2:Ze (Lex.pk (x.drop 1)).1=false:=by simpa using h2
   rw [WE h1 h2,WE (by rw [eh];exact h1) (by rw [y6];exact h2)]
  by_cases h2:Ze (Lex.pk x).1=true\/Zk (Lex.pk x).1=true
  ·obtain ⟨s1,s2⟩:=step (Zti h2);rw [Zby h1 h2,Zby (by rw [eh];exact h1) (by rw [eh];exact h2),eh,s1,s2]
  simp only [not_or,Bool.not_eq_true] at h2;rw [V6 h1 h2.1 h2.2,V6 (by rw [eh];exact h1) (by rw [eh];exact h2.1) (by rw [eh];exact h2.2)]
def Zb0 (p:UInt8->Bool) {c:UInt8} (z:Bs) (hc:p c=false):∀l:Bs,(l++c::z).takeWhile p=l.takeWhile p
 | []=>by simp [Sg,hc]
 | b::l=>by
  by_cases hb:p b=true
  ·simp only [Tp,Sg,hb,if_true,Zb0 p z hc l]
  simp [Sg,hb]
def ZiV {x z:Bs} {a b c:UInt8} (hx:x≠[]) (hb:b≠c):Lib.hasPrefix (x++c::z) [a,b]=Lib.hasPrefix x [a,b]:=by
 match x,hx with
 | [d],_ =>
  have:(b == c)=false:=by simpa using hb
  simp [Lib.hasPrefix,List.isPrefixOf,this]
 | d::e::l,_=>simp [Lib.hasPrefix,List.isPrefixOf]
def ZBS {c:UInt8} {z:Bs} (h:Fol c z) (fd:Bool):XT fd c=false:=by
 have h1:=h.let';have h2:=h.dig;unfold XT
 rw [h2,Bool.false_or]
 cases fd with
 | false=>rfl
 | true =>
 simp only [Ze,decide_eq_false_iff_not,not_or] at h1;simp only [T2,decide_eq_false_iff_not,not_or];omega
def Zm6 {x z:Bs} {c:UInt8} (hx:x≠[]) (h:Fol c z):ZP (x++c::z)=ZP x/\Zw (x++c::z)=Zw x:=by
 have ac3:(120:UInt8)≠c:=fun g=>by
  have:=h.let';rw [<- g] at this;revert this;decide
 have hh:XZ (x++c::z)=XZ x:=ZiV hx ac3;have hk:(if XZ x=true then 2 else 0)<=x.length:=by
  split
  ·rename_i g;exact (Z4 g).1
  omega
 have hd:Zb (x++c::z)=Zb x:=by
  unfold Zb
  rw [hh,Ss hk,Zb0 _ _ (ZBS h _)]
 have hl:Zw (x++c::z)=Zw x:=by unfold Zw;rw [hh,hd]
 refine ⟨?_,hl⟩;have am:=Zkm x;have hp:∀p:Int->Bool,p (-1)=false->p c.toNat=false->p (Lex.pk ((x++c::z).drop (Zw x))).1=p (Lex.pk (x.drop (Zw x))).1:=fun p h1 h2=>by
  rw [Ss am]
  by_cases hn:x.drop (Zw x)=[]
  ·rw [hn,Tu,h.pk,Zas];show p (c.toNat:Int)=p (-1);rw [h1,h2]
  rw [ZbZ hn h.low]
 unfold ZP
 rw [hd,hl,hh,hp Ze dM h.let',hp Zk dM h.dig]
def ZtR {r z:Bs} {c:UInt8} {a:Nat} {room:Bool} {t:Tok} (hr:r≠[]) (hc:Fol c z) (hs:YX (r++c::z)=YX r) (h:Vk a r room=.tok t):Vk a (r++c::z) room=.tok t:=by
 have ao:=Sf.2 hr;have eh:=ZbZ (z:=z) hr hc.low;rw [Yr] at h |-;rw [hs,eh];split at h
 ·cases h
 rename_i g0
 rw [Tb g0];split at h
 ·cases h
 rename_i gr
 rw [Tb gr];split at h
 ·rename_i g1
  have:=(Zmv r ao).1;rw [Tg g1,List.take_append_of_le_length this];exact h
 rename_i g1
 rw [Tb g1];split at h
 ·rename_i g2
  rw [Tg g2];unfold ZdD at h |-
  split at h
  ·cases h
  rename_i tx l ht
  have jz:Wl (r++c::z)=.ok tx l:=by
   unfold Wl at ht |-
   rw [Ss ao];exact Zhi _ _ _ _ _ _ _ ht _ (by rw [TD,Ta];omega)
  rw [jz];exact h
 rename_i g2
 rw [Tb g2];split at h
 ·rename_i g3
  rw [Tg g3];obtain ⟨n1,n2⟩:=Zm6 hr hc;unfold Wm at h |-
  rw [n1,n2];exact h
 rename_i g3
 rw [Tb g3];have hn:Vj (r++c::z)=Vj r:=ZfE hc _ r oM _ oM;have am:Vj r<=r.length:=ZeX _ _;rw [hn,List.take_append_of_le_length am];exact h
def JH:∀(f f':Nat) (r:Bs),r.length<f->r.length<f'->Zx f r=Zx f' r
 | 0,f',r,h,h'=>oM
 | f+1,0,r,h,h'=>oM
 | f+1,f'+1,r,h,h'=>by
  have am:=Ztj r
  cases h1:Lib.hasPrefix (Lib.trimLeftS r ws) [47,47] with
  | true =>
   have fc:=(Z4 h1).1;have h22:=Zbz (c:=10) h1 dM dM;rw [Vy h1 _ rfl,Vy h1 _ rfl];rw [JH f f' _ (by rw [TD];split <;> omega) (by rw [TD];split <;> omega)]
  | false =>
  cases h2:Lib.hasPrefix (Lib.trimLeftS r ws) [47,42] with
  | true =>
   have fc:=(Z4 h2).1
   by_cases h3:Lib.index ((Lib.trimLeftS r ws).drop 2) [42,47]<0
   ·rw [Vz h1 h2 h3,Vz h1 h2 h3]
   have hi:Lib.index ((Lib.trimLeftS r ws).drop 2) [42,47]=((Lib.index ((Lib.trimLeftS r ws).drop 2) [42,47]).toNat:Nat):=by omega
   rw [UQ h1 h2 _ hi,UQ h1 h2 _ hi,JH f f' _ hD hD]
  | false=>rw [Va h1 h2,Va h1 h2]
def ZtS {f:Nat} {r:Bs} (h:r.length<f):Zx f r=ZT r:=JH _ _ r h oM
def ZtT (r y:Bs) (h:Lib.trimLeftS r ws=[]):Lib.trimLeftS (r++y) ws=Lib.trimLeftS y ws:=by
 induction r with
 | nil=>rfl
 | cons b r ih =>
 unfold Lib.trimLeftS at *
 by_cases hb:ws.contains b=true
 ·simp only [Tp,SY,hb,if_true] at h |-;exact ih h
 rw [SY,Tb hb] at h;cases h
def Zm7 {r y:Bs} (h:Lib.trimLeftS r ws=[]):ZT (r++y)=((ZT y).1,r.length+(ZT y).2):=by
 have ht:=ZtT r y h;have am:=Ztj y;obtain ⟨f,hf⟩:∃f,(r++y).length+1=f+1:=⟨_,rfl⟩
 rw [<- ZtS (f:=(r++y).length+1) (r:=y) (by rw [Ta];omega)];unfold ZT
 rw [hf];have aa:(r++y).length=r.length+y.length:=Ta
 cases h1:Lib.hasPrefix (Lib.trimLeftS y ws) [47,47] with
 | true =>
  rw [Vy (r:=r++y) (by rw [ht];exact h1) _ rfl,Vy h1 _ rfl,ht];refine Prod.ext rfl ?_;simp only;omega
 | false =>
 cases h2:Lib.hasPrefix (Lib.trimLeftS y ws) [47,42] with
 | false =>
  rw [Va (r:=r++y) (by rw [ht];exact h1) (by rw [ht];exact h2),Va h1 h2,ht];refine Prod.ext rfl ?_;simp only;omega
 | true =>
 by_cases h3:Lib.index ((Lib.trimLeftS y ws).drop 2) [42,47]<0
 ·rw [Vz (r:=r++y) (by rw [ht];exact h1) (by rw [ht];exact h2) (by rw [ht];exact h3),Vz h1 h2 h3,ht];refine Prod.ext rfl ?_;simp only;omega
 have hi:Lib.index ((Lib.trimLeftS y ws).drop 2) [42,47]=((Lib.index ((Lib.trimLeftS y ws).drop 2) [42,47]).toNat:Nat):=by omega
 rw [UQ (r:=r++y) (by rw [ht];exact h1) (by rw [ht];exact h2) _ (by rw [ht];exact hi),UQ h1 h2 _ hi,ht];refine Prod.ext rfl ?_;simp only;omega
inductive Pc where
 | blank (b:UInt8) | tok (s:Bs) (t:T0)
def Pc.bs:Pc->Bs | .blank b=>[b] | .tok s _=>s
def Pc.ts:Pc->Ts | .blank _=>[] | .tok _ t=>[t]
def bsP (l:List Pc):Bs:=(l.map Pc.bs).flatten
def tsP (l:List Pc):Ts:=(l.map Pc.ts).flatten
@[simp] theorem bsP_nil:bsP []=[]:=rfl
@[simp] theorem tsP_nil:tsP []=[]:=rfl
@[simp] theorem bsP_cons (p:Pc) (l:List Pc):bsP (p::l)=p.bs++bsP l:=by simp [bsP]
@[simp] theorem tsP_cons (p:Pc) (l:List Pc):tsP (p::l)=p.ts++tsP l:=by simp [tsP]
@[simp] theorem bsP_app (l m:List Pc):bsP (l++m)=bsP l++bsP m:=by simp [bsP]
@[simp] theorem tsP_app (l m:List Pc):tsP (l++m)=tsP l++tsP m:=by simp [tsP]
def ZoY (l:List (List Pc)):bsP l.flatten=(l.map bsP).flatten:=by induction l with | nil=>rfl | cons x l ih=>simp [ih]
def ZoZ (l:List (List Pc)):tsP l.flatten=(l.map tsP).flatten:=by induction l with | nil=>rfl | cons x l ih=>simp [ih]
def ZqU:Pc->Bs->Prop
 | .blank b,_=>ws.contains b=true
 | .tok s t,k=>s≠[]/\ZT (s++k)=(true,0)/\∀a,Vk a (s++k) true=.tok ⟨t.kind,t.text,t.n,a,a+s.length⟩
def VF:List Pc->Bs->Prop
 | [],_=>True
 | p::l,k=>ZqU p (bsP l++k)/\VF l k
def YR (l m:List Pc) (k:Bs):VF (l++m) k↔VF l (bsP m++k)/\VF m k:=by
 induction l with
 | nil=>simp [VF]
 | cons p l ih=>simp only [Tp,VF,ih,bsP_app,Tj,and_assoc]
def ZFo {b:UInt8} (hb:ws.contains b=true) (g:Nat) (most:Int) (a:Nat) (z:Bs):Wn (g+1) most a (b::z)=Wn (g+1) most (a+1) z:=by
 have h:ZT ([b]++z)=((ZT z).1,1+(ZT z).2):=Zm7 (by unfold Lib.trimLeftS;rw [SY,Tg hb];rfl);rw [Tp,Tu] at h;rw [Wn,Wn,h];simp only;rw [show a+(1+(ZT z).2)=a+1+(ZT z).2 by omega,show (b::z).drop (1+(ZT z).2)=z.drop (ZT z).2 by rw [Nat.add_comm,List.drop_succ_cons]]
def ZtU {a:Nat} {r:Bs} {t:Tok} (h:Vk a r true=.tok t):Vk a r false=.bad a 3:=by
 rw [Yr] at h |-;split at h
 ·cases h
 rename_i g;rw [Tb g,Tg rfl]
def ZcP:∀(ps:List Pc) (f:Nat) (most:Int) (a:Nat),VF ps []->(bsP ps).length<f ->
  (((tsP ps).length:Int)<=most->∃l p,Wn f most a (bsP ps)=(l,(p,0))/\l.map Tok.t0=tsP ps)/\(most<(tsP ps).length->0<=most->∃l p,Wn f most a (bsP ps)=(l,(p,3)))
 | ps,0,most,a,hv,hf=>oM
 | [],f+1,most,a,hv,hf=>by
  refine ⟨fun _=>⟨[],0,?_,rfl⟩,fun h h2=>by simp at h;omega⟩;rw [bsP_nil,Wn,ZqC];simp
 | .blank b::ps,f+1,most,a,hv,hf=>by
  obtain ⟨h1,h2⟩:=hv;rw [bsP_cons] at hf |-;simp only [Pc.bs,Tp,Tu,Te] at hf |-;rw [ZFo h1];simp only [tsP_cons,Pc.ts,Tu];exact ZcP ps (f+1) most (a+1) h2 oM
 | .tok s t::ps,f+1,most,a,hv,hf=>by
  obtain ⟨⟨h1,h2,h3⟩,h4⟩:=hv;simp only [TL] at h2 h3;have ao:=Sf.2 h1;rw [bsP_cons] at hf |-;simp only [Pc.bs,Ta] at hf |-;have aj:¬s++bsP ps=[]:=by simp [h1]
  have hl:(tsP (.tok s t::ps)).length=(tsP ps).length+1:=by simp [Pc.ts]
  rw [Wn,h2];simp only [Bool.true_eq_false,if_false,SQ,Si];rw [Tb aj,hl];obtain ⟨i1,i2⟩:=ZcP ps f (most - 1) (a+s.length) h4 oM;have hd:(s++bsP ps).drop (a+s.length - a)=bsP ps:=by rw [Nat.add_sub_cancel_left,List.drop_left]
  refine ⟨fun hm=>?_,fun hm h0=>?_⟩
  ·rw [Sj oM,h3 a];simp only;rw [hd];obtain ⟨l,p,e1,e2⟩:=i1 oM;rw [e1];exact ⟨_,p,rfl,by simp [e2,Tok.t0,Pc.ts]⟩
  by_cases vf:0<most
  ·rw [Sj vf,h3 a];simp only;rw [hd];obtain ⟨l,p,e1⟩:=i2 oM oM;rw [e1];exact ⟨_,p,rfl⟩
  rw [decide_eq_false vf,ZtU (h3 a)];exact ⟨_,_,rfl⟩
def Zvg (k:Bs):Prop:=k=[]\/∃c z,k=c::z/\Fol c z
def nmP (s:Bs):Pc:=.tok s (nmT s)
def sgP (s:Bs):Pc:=.tok s (sgT s)
def ZiW {b:UInt8} (hb:ws.contains b=false) (z:Bs):Lib.trimLeftS (b::z) ws=b::z:=by
 unfold Lib.trimLeftS;rw [SY,Tb (by rw [hb];decide)]
def Zhl {x y b:UInt8} (h:x≠b) (z:Bs):Lib.hasPrefix (b::z) [x,y]=false:=by simp [Lib.hasPrefix,List.isPrefixOf,h]
def JI {x y b c:UInt8} (h:y≠c) (z:Bs):Lib.hasPrefix (b::c::z) [x,y]=false:=by simp [Lib.hasPrefix,List.isPrefixOf,h]
def ZtV {b:UInt8} (hb:ws.contains b=false) (z:Bs) (h:b=47->∀c z',z=c::z'->c≠47/\c≠42):ZT (b::z)=(true,0):=by
 have hp:∀c,c=47\/c=42->Lib.hasPrefix (b::z) [47,c]=false:=fun c hc=>by
  cases z with
  | nil=>simp [Lib.hasPrefix,List.isPrefixOf]
  | cons d z' =>
  by_cases y7:b=47
  ·have:=h y7 d z' rfl;rcases hc with rfl | rfl
   ·exact JI this.1.symm _
   exact JI this.2.symm _
  exact Zhl (fun e=>y7 e.symm) _
 unfold ZT
 rw [Va (by rw [ZiW hb];exact hp 47 (.inl rfl)) (by rw [ZiW hb];exact hp 42 (.inr rfl)),ZiW hb,Nat.sub_self]
def Uh {b:UInt8} (hb:ones.contains b=false) (z:Bs):YX (b::z)=0:=by
 have h2:∀x y:UInt8,x∈ones->Lib.hasPrefix (b::z) [x,y]=false:=fun x y hx=>by
  have:¬x=b:=fun e=>by rw [e] at hx;simp at hb;exact hb hx
  simp [Lib.hasPrefix,List.isPrefixOf,this]
 unfold YX
 rw [Tb,Tb]
 ·simpa using hb
 simp only [twos,SZ,List.any_nil];rw [h2 58 _ dM,h2 33 _ dM,h2 60 _ dM,h2 62 _ dM,h2 60 _ dM];simp
def Zo0 {s:Bs} (h:Ud s=true):∃b z,s=b::z/\ones.contains b=false/\ws.contains b=false/\b≠47/\b≠45/\b≠61/\b≠58/\b≠42:=by
 simp only [Ud,Tm] at h
 cases s with
 | nil=>rw [Zas] at h;exact absurd h.1 dM
 | cons b z =>
 refine ⟨b,z,rfl,?_⟩
 by_cases hb:b.toNat<128
 ·have h1:=h.1;rw [ZfD hb] at h1;have hk:∀n:Fin 128,Ze (n.val:Int)=true->ones.contains (UInt8.ofNat n.val)=false/\ws.contains (UInt8.ofNat n.val)=false/\UInt8.ofNat n.val≠47/\UInt8.ofNat n.val≠45/\UInt8.ofNat n.val≠61/\UInt8.ofNat n.val≠58/\UInt8.ofNat n.val≠42:=by decide +kernel
  have:=hk ⟨b.toNat,hb⟩ h1;simpa using this
 have hk:∀n:Fin 256,128<=n.val->ones.contains (UInt8.ofNat n.val)=false/\ws.contains (UInt8.ofNat n.val)=false/\UInt8.ofNat n.val≠47/\UInt8.ofNat n.val≠45/\UInt8.ofNat n.val≠61/\UInt8.ofNat n.val≠58/\UInt8.ofNat n.val≠42:=by decide +kernel
 have:=hk ⟨b.toNat,b.toNat_lt⟩ (by simp only;omega);simpa using this
def Zm8 {s:Bs} {t:T0} {k:Bs} (hs:s≠[]) (hk:Zvg k) (hsg:∀k,YX (s++k)=0) (hb:∀k,ZT (s++k)=(true,0)) (h:∀a,Vk a s true=.tok ⟨t.kind,t.text,t.n,a,a+s.length⟩):ZqU (.tok s t) k:=by
 refine ⟨hs,hb k,fun a=>?_⟩;rcases hk with rfl | ⟨c,z,rfl,hc⟩
 ·rw [TL];exact h a
 exact ZtR hs hc (by have:=hsg [];rw [TL] at this;rw [hsg,this]) (h a)
def Xq {s:Bs} (h:Ud s=true) {k:Bs} (hk:Zvg k):ZqU (nmP s) k:=by
 obtain ⟨b,z,rfl,h1,h2,h3,_⟩:=Zo0 h;simp only [Ud,Tm,TV] at h;refine Zm8 sM hk (fun k=>Uh h1 _) (fun k=>ZtV h2 _ fun e=>absurd e h3) fun a=>?_
 have hl:=isLetter_iff.1 h.1;have wr:(pk (b::z)).1≠34:=oM;have ac4:Zk (pk (b::z)).1=false:=by
  cases e:Zk (pk (b::z)).1 with
  | false=>rfl
  | true=>have:=isDigit_iff.1 e;omega
 rw [Yr,Uh h1,Tb (by rw [h.1];simp),Tb sM,Tb oM,Tb wr,Tb (by rw [ac4];simp),h.2,Sp];rfl
def SgK (w k:Bs):Prop:=(w∈twos\/w∈ones.map fun b=>[b])/\((w≠[58]/\w≠[33]/\w≠[60]/\w≠[62]/\w≠[47])\/k=[]\/∃c z,k=c::z/\c≠45/\c≠61/\c≠58/\c≠47/\c≠42)
def ZwN (k:Bs):∀w∈twos,YX (w++k)=2:=by
 intro w hw
 have:twos.any (Lib.hasPrefix (w++k))=true:=by
  rw [List.any_eq_true];exact ⟨w,hw,by unfold Lib.hasPrefix;rw [List.isPrefixOf_iff_prefix];exact List.prefix_append _ _⟩
 rw [YX,Tg this]
def ZwO {b:UInt8} (hb:b∈ones) {k:Bs} (h:(b≠58/\b≠33/\b≠60/\b≠62)\/k=[]\/∃c z,k=c::z/\c≠45/\c≠61/\c≠58):YX (b::k)=1:=by
 have h1:twos.any (Lib.hasPrefix (b::k))=false:=by
  simp only [twos,SZ,List.any_nil,Sd];rcases h with ⟨h1,h2,h3,h4⟩ | rfl | ⟨c,z,rfl,h1,h2,h3⟩
  ·exact ⟨Zhl h1.symm _,Zhl h2.symm _,Zhl h3.symm _,Zhl h4.symm _,Zhl h3.symm _,trivial⟩
  ·simp [Lib.hasPrefix,List.isPrefixOf]
  exact ⟨JI h1.symm _,JI h2.symm _,JI h2.symm _,JI h2.symm _,JI h3.symm _,trivial⟩
 rw [YX,Tb (by rw [h1];simp),Tg (by simpa using hb)]
def ZkW {r:Bs} {n:Nat} (h:YX r=n) (hn:0<n) (a:Nat):Vk a r true=.tok ⟨4,r.take n,0,a,a+n⟩:=by
 rw [Yr,h,Tb oM,Tb sM,Tg hn]
def ZBT {w k:Bs} (h:SgK w k):ZqU (sgP w) k:=by
 obtain ⟨hw,hk⟩:=h;rcases hw with hw | hw
 ·have hb:∀w∈twos,w.length=2/\ws.contains (w.getD 0 0)=false/\w.getD 0 0≠47:=by decide +kernel
  obtain ⟨h0,h1,h2⟩:=hb w hw;obtain ⟨b,c,rfl⟩:∃b c,w=[b,c]:=by match w,h0 with | [b,c],_=>exact ⟨b,c,rfl⟩
  refine ⟨sM,ZtV h1 _ fun e=>absurd e h2,fun a=>?_⟩;rw [ZkW (ZwN k _ hw) dM];rfl
 obtain ⟨b,hb,rfl⟩:=Sh.1 hw;have hws:∀b∈ones,ws.contains b=false:=by decide +kernel
 refine ⟨sM,ZtV (hws b hb) _ fun e c z hz=>?_,fun a=>?_⟩
 ·rcases hk with hk | hk | ⟨c',z',hk,hc⟩
  ·exact absurd (by rw [e]) hk.2.2.2.2
  ·have hz:k=c::z:=hz;rw [hk] at hz;cases hz
  have hz:k=c::z:=hz;rw [hk] at hz;cases hz;exact ⟨hc.2.2.2.1,hc.2.2.2.2⟩
 rw [Tp,Tu,ZkW (ZwO hb ?_) dM]
 ·rfl
 rcases hk with hk | hk | ⟨c,z,hk,hc⟩
 ·exact .inl ⟨fun e=>hk.1 (by rw [e]),fun e=>hk.2.1 (by rw [e]),fun e=>hk.2.2.1 (by rw [e]),fun e=>hk.2.2.2.1 (by rw [e])⟩
 ·exact .inr (.inl hk)
 exact .inr (.inr ⟨c,z,hk,hc.1,hc.2.1,hc.2.2.1⟩)
def ZFp {s q:Bs} (h:Uc s=some q) {k:Bs} (hk:Zvg k):ZqU (.tok q ⟨3,s,0⟩) k:=by
 unfold Uc at h
 split at h
 ·rename_i hv
  cases hq:Vb (s.length+1) s [34] with
  | none=>rw [hq] at h;cases h
  | some x =>
  rw [hq] at h
  cases h
  obtain ⟨m,rfl,ht⟩:=ZiI _ _ _ _ hq (.inr hv) oM;have gx:([34]++m)++[34]=(34::(m++[34]):Bs):=rfl;show ZqU (.tok (([34]++m)++[34]) ⟨3,s,0⟩) k;rw [gx];have aa:(34::(m++[34]):Bs).length=m.length+2:=sM;have y8:Wl (34::(m++[34]))=.ok s (m.length+2):=by
   unfold Wl
   rw [List.drop_succ_cons,Si,ht _ [] 1 (by rw [aa];omega)];simp only [Tu,TR.ok.injEq,true_and];omega
  have eh:pk (34::(m++[34]))=(34,1):=ZfD dM;refine Zm8 sM hk (fun k=>Uh dM _) (fun k=>ZtV dM _ fun e=>absurd e dM) fun a=>?_
  rw [Yr,Uh dM,eh,Tb sM,Tb sM,Tb oM,Tg rfl,ZdD,y8,aa]
 cases h
def ZqV:∀d:Fin 16,Zip (ZlO d.val)=d.val/\XT true (ZlO d.val)=true/\(d.val<10->XT false (ZlO d.val)=true)/\ZlO d.val≠120:=by decide +kernel
def ZwP (base:Nat) (l:Bs) (b:UInt8):WP base (l++[b])=WP base l * base+Zip b:=by simp [WP]
def Ui {base:Nat} (hb:base=10\/base=16):∀(f n:Nat),n<f->WP base (ZaZ base f n)=n/\(∀b∈ZaZ base f n,XT (decide (base=16)) b=true/\b≠120)/\ZaZ base f n≠[]/\∀k,n<base ^ (k+1)->(ZaZ base f n).length<=k+1
 | 0,n,h=>oM
 | f+1,n,h=>by
  have hd:∀d,d<base->Zip (ZlO d)=d/\XT (decide (base=16)) (ZlO d)=true/\ZlO d≠120:=fun d hd=>by
   obtain ⟨h1,h2,h3,h4⟩:=ZqV ⟨d,oM⟩;refine ⟨h1,?_,h4⟩;rcases hb with rfl | rfl
   ·exact h3 hd
   exact h2
  rw [ZaZ]
  by_cases c:n<base
  ·rw [Tg c];obtain ⟨h1,h2,h3⟩:=hd n c;refine ⟨by simpa [WP] using h1,fun b hb=>?_,sM,fun k _=>sM⟩;rw [List.mem_singleton.1 hb];exact ⟨h2,h3⟩
  rw [Tb c];have ab:n / base<n:=Nat.div_lt_self oM oM;obtain ⟨i1,i2,i3,i4⟩:=Ui hb f (n / base) oM;obtain ⟨h1,h2,h3⟩:=hd (n % base) (Nat.mod_lt _ oM);refine ⟨?_,fun b hb=>?_,sM,fun k hk=>?_⟩
  ·rw [ZwP,i1,h1,Nat.mul_comm];exact Nat.div_add_mod n base
  ·rcases T1.1 hb with hb | hb
   ·exact i2 b hb
   rw [List.mem_singleton.1 hb];exact ⟨h2,h3⟩
  cases k with
  | zero=>simp at hk;omega
  | succ k =>
  have:n / base<base ^ (k+1):=by
   rw [Nat.div_lt_iff_lt_mul oM];rw [Nat.pow_succ] at hk;exact hk
  have:=i4 k this;exact mq94
def VM (p:UInt8->Bool):∀l:Bs,(∀b∈l,p b=true)->l.takeWhile p=l
 | [],_=>rfl
 | x::l,h=>by rw [Sg,Tg (h x sM),VM p l fun b hb=>h b (Tt _ hb)]
def ZtW {b:UInt8} (h:XT false b=true):b.toNat<128/\Zk (b.toNat:Int)=true/\ones.contains b=false/\ws.contains b=false/\b≠47:=by
 have hk:∀n:Fin 256,XT false (UInt8.ofNat n.val)=true->n.val<128/\Zk (n.val:Int)=true/\ones.contains (UInt8.ofNat n.val)=false/\ws.contains (UInt8.ofNat n.val)=false/\UInt8.ofNat n.val≠47:=by decide +kernel
 have:=hk ⟨b.toNat,b.toNat_lt⟩;simp only [UInt8.ofNat_toNat] at this;exact this h
def ZkX {r:Bs} {b:UInt8} {z:Bs} {v:Nat} (hr:r=b::z) (hb:XT false b=true) (hn:ZP r=some v) (hl:Zw r=r.length) {k:Bs} (hk:Zvg k) {n:Int} (hw:IntKind.i64.wrap (v:Int)=n):ZqU (.tok r ⟨2,[],n⟩) k:=by
 subst hr;obtain ⟨h1,h2,h3,h4,h5⟩:=ZtW hb;refine Zm8 sM hk (fun k=>Uh h3 _) (fun k=>ZtV h4 _ fun e=>absurd e h5) fun a=>?_
 have hd:=isDigit_iff.1 h2;rw [Yr,Uh h3,ZfD h1,Tb (by simp only [h2];simp),Tb sM,Tb oM,Tb (by simp only;omega),Tg h2,Wm,hn,hl];simp only [hw]
def ZFq {n:Int} (h0:-9223372036854775808<=n) (h1:n<9223372036854775808) {k:Bs} (hk:Zvg k):ZqU (.tok (Zfm n) ⟨2,[],n⟩) k:=by
 unfold Zfm
 by_cases hn:n<0
 ·rw [Tg hn];obtain ⟨m,hm⟩:∃m:Nat,(n+18446744073709551616).toNat=m:=⟨_,rfl⟩
  rw [hm];have vg:m<18446744073709551616:=oM;obtain ⟨e1,e2,e3,e4⟩:WP 16 (Ym 16 m)=m/\(∀b∈Ym 16 m,XT (decide (16=16)) b=true/\b≠120)/\Ym 16 m≠[]/\∀k,m<16 ^ (k+1)->(Ym 16 m).length<=k+1:=Ui (base:=16) (.inr rfl) (m+1) m oM;have e4:=e4 15 (by have:(16:Nat) ^ (15+1)=18446744073709551616:=dM;omega);have hx:XZ ([48,120]++Ym 16 m)=true:=by simp [XZ,Lib.hasPrefix,List.isPrefixOf]
  have hd:Zb ([48,120]++Ym 16 m)=Ym 16 m:=by
   unfold Zb
   rw [hx];simp only [if_true];show (Ym 16 m).takeWhile (XT true)=Ym 16 m;exact VM _ _ fun b hb=>(e2 b hb).1
  have hl:Zw ([48,120]++Ym 16 m)=([48,120]++Ym 16 m).length:=by
   rw [Zw,hx,hd];simp [Ym];omega
  refine ZkX (r:=[48,120]++Ym 16 m) (v:=m) rfl dM ?_ hl hk ?_
  ·rw [ZP,hd,hx];simp only [if_true];rw [Tb e3,Tb (by rw [e1];omega),Tb,e1];rw [hl,SH,Zas]
   rintro (g | g | ⟨_,g⟩)
   ·revert g;decide
   ·revert g;decide
   omega
  rw [show (m:Int)=n+18446744073709551616 by omega];exact mq148
 rw [Tb hn];obtain ⟨m,rfl⟩:∃m:Nat,n=m:=⟨n.toNat,oM⟩
 rw [Tn];obtain ⟨e1,e2,e3,e4⟩:WP 10 (Ym 10 m)=m/\(∀b∈Ym 10 m,XT (decide (10=16)) b=true/\b≠120)/\Ym 10 m≠[]/\∀k,m<10 ^ (k+1)->(Ym 10 m).length<=k+1:=Ui (base:=10) (.inl rfl) (m+1) m oM;have hx:XZ (Ym 10 m)=false:=by
  unfold XZ Lib.hasPrefix
  match hq:Ym 10 m with
  | []=>rfl
  | [a]=>simp [List.isPrefixOf]
  | a::b::l =>
   have:b≠120:=(e2 b (by rw [hq];simp)).2;exact JI this.symm l
 have hd:Zb (Ym 10 m)=Ym 10 m:=by
  unfold Zb
  rw [hx];simp only [Tx,if_false,Si];exact VM _ _ fun b hb=>(e2 b hb).1
 have hl:Zw (Ym 10 m)=(Ym 10 m).length:=by rw [Zw,hx,hd];simp
 obtain ⟨b,z,y9⟩:∃b z,Ym 10 m=b::z:=by
  match hq:Ym 10 m with
  | []=>exact absurd hq e3
  | a::l=>exact ⟨a,l,rfl⟩
 refine ZkX (r:=Ym 10 m) (v:=m) y9 (e2 b (by rw [y9];simp)).1 ?_ hl hk ?_
 ·unfold ZP
  rw [hd,hx];simp only [Tx,if_false];rw [Tb e3,Tb (by rw [e1];omega),Tb,e1];rw [hl,SH,Zas]
  rintro (g | g | ⟨g,_⟩)
  ·revert g;decide
  ·revert g;decide
  cases g
 exact mq148
def spP:Pc:=.blank 32
def nlP:Pc:=.blank 10
@[simp] theorem bs_sp:spP.bs=[32]:=rfl
@[simp] theorem bs_nl:nlP.bs=[10]:=rfl
@[simp] theorem ts_sp:spP.ts=[]:=rfl
@[simp] theorem ts_nl:nlP.ts=[]:=rfl
@[simp] theorem bs_nm (s:Bs):(nmP s).bs=s:=rfl
@[simp] theorem bs_sg (s:Bs):(sgP s).bs=s:=rfl
@[simp] theorem ts_nm (s:Bs):(nmP s).ts=[nmT s]:=rfl
@[simp] theorem ts_sg (s:Bs):(sgP s).ts=[sgT s]:=rfl
@[simp] theorem bs_tok (s:Bs) (t:T0):(Pc.tok s t).bs=s:=rfl
@[simp] theorem ts_tok (s:Bs) (t:T0):(Pc.tok s t).ts=[t]:=rfl
def Yt (k:Bs):ZqU spP k:=by show ws.contains 32=true;decide
def ZBU (k:Bs):ZqU nlP k:=by show ws.contains 10=true;decide
def Zb1 (sep:List Pc):List (List Pc)->List Pc
 | []=>[]
 | x::l=>sep++(x++Zb1 sep l)
def Vg (sep:List Pc):List (List Pc)->List Pc
 | []=>[]
 | x::l=>x++Zb1 sep l
def cmP:List Pc:=[sgP [44],spP]
def ZGV:List Pc:=[spP,sgP [124],spP]
def Zdq (sep:Bs):∀(x:Bs) (l:List Bs),Zf sep (x::l)=x++(l.map fun y=>sep++y).flatten
 | x,[]=>by simp [Zf]
 | x,y::l=>by rw [Zf,Zdq sep y l];simp;intro h;cases h
def ZkY (sep:List Pc):∀l:List (List Pc),bsP (Zb1 sep l)=((l.map bsP).map fun y=>bsP sep++y).flatten
 | []=>rfl
 | x::l=>by simp [Zb1,ZkY sep l]
def ZkZ {sep:List Pc} {w:Bs} (h:tsP sep=[sgT w]):∀l:List (List Pc),tsP (Zb1 sep l)=Uf w (l.map tsP)
 | []=>rfl
 | x::l=>by simp [Zb1,Uf,ZkZ h l,h]
def Uj (sep:List Pc) (l:List (List Pc)):bsP (Vg sep l)=Zf (bsP sep) (l.map bsP):=by
 cases l with
 | nil=>rfl
 | cons x l=>rw [Tz,Zdq,Vg,bsP_app,ZkY]
def Uk {sep:List Pc} {w:Bs} (h:tsP sep=[sgT w]) (l:List (List Pc)):tsP (Vg sep l)=Z3 w (l.map tsP):=by
 cases l with
 | nil=>rfl
 | cons x l=>rw [Tz,Z3,Vg,tsP_app,ZkZ h]
def Zk0 {sep:List Pc} {Ok:Bs->Prop} (ke:∀x,VF sep x) (hOk:∀x,Ok (bsP sep++x)):∀(l:List (List Pc)) (k:Bs),Ok k->(∀x∈l,∀k,Ok k->VF x k)->VF (Zb1 sep l) k/\Ok (bsP (Zb1 sep l)++k)
 | [],k,hk,h=>⟨trivial,hk⟩
 | x::l,k,hk,h=>by
  obtain ⟨h1,h2⟩:=Zk0 ke hOk l k hk fun y hy=>h y (Tt _ hy)
  rw [Zb1];refine ⟨?_,?_⟩
  ·rw [YR,YR];exact ⟨ke _,h x sM _ h2,h1⟩
  rw [bsP_app,Tj];exact hOk _
def WT {sep:List Pc} {Ok:Bs->Prop} (ke:∀x,VF sep x) (hOk:∀x,Ok (bsP sep++x)) {l:List (List Pc)} {k:Bs} (hk:Ok k) (h:∀x∈l,∀k,Ok k->VF x k):VF (Vg sep l) k:=by
 cases l with
 | nil=>exact trivial
 | cons x l =>
 obtain ⟨h1,h2⟩:=Zk0 ke hOk l k hk fun y hy=>h y (Tt _ hy)
 rw [Vg,YR];exact ⟨h x sM _ h2,h1⟩
def Aft (k:Bs):Prop:=k=[]\/(∃c z,k=c::z/\c∈([32,41,44,93]:Bs))\/k=[46]\/∃z,k=46::10::z
def VD {c:UInt8} (hc:c∈([32,41,44,93]:Bs)) (z:Bs):Aft (c::z):=.inr (.inl ⟨c,z,rfl,hc⟩)
def ZFr {c:UInt8} (h:c.toNat<128/\Ze c.toNat=false/\Zk c.toNat=false/\c≠46) (z:Bs):Fol c z:=⟨h.1,h.2.1,h.2.2.1,fun e=>absurd e h.2.2.2⟩
def ZwQ:Bs:=[32,41,44,93,58,40,10,60,62,125,123]
def Z8 {c:UInt8} (hc:c∈ZwQ) (z:Bs):Zvg (c::z):=by
 have h:∀c∈ZwQ,c.toNat<128/\Ze c.toNat=false/\Zk c.toNat=false/\c≠46:=dM;exact .inr ⟨c,z,rfl,ZFr (h c hc) z⟩
def ZBV {k:Bs} (h:Aft k):Zvg k:=by
 rcases h with rfl | ⟨c,z,rfl,hc⟩ | rfl | ⟨z,rfl⟩
 ·exact .inl rfl
 ·have h:∀c∈([32,41,44,93]:Bs),c∈ZwQ:=by decide
  exact Z8 (h c hc) z
 ·exact .inr ⟨46,[],rfl,dM,dM,dM,fun _=>by rw [Zas];decide⟩
 exact .inr ⟨46,10::z,rfl,dM,dM,dM,fun _=>by rw [ZfD dM];decide⟩
def Xt {s:Bs} (h:Yx s=true):Ud s=true:=by
 simp only [Yx,Tm] at h;exact h.1
def Zm9:List Bs:=[[40],[41],[91],[93],[123],[125],[44],[46],[61],[43],[45],[42],[37],[124],[36],[126],[58,45],[33,61],[60,61],[62,61],[60,58]]
def Yh {w:Bs} (hw:w∈Zm9) (k:Bs):ZqU (sgP w) k:=by
 have h:∀w∈Zm9,(w∈twos\/w∈ones.map fun b=>[b])/\(w≠[58]/\w≠[33]/\w≠[60]/\w≠[62]/\w≠[47]):=dM;obtain ⟨h1,h2⟩:=h w hw;exact ZBT ⟨h1,.inl h2⟩
def ZfF {w:Bs} (hw:w∈twos\/w∈ones.map fun b=>[b]) {c:UInt8} (hc:c=32\/c=10) (z:Bs):ZqU (sgP w) (c::z):=by
 refine ZBT ⟨hw,.inr (.inr ⟨c,z,rfl,?_⟩)⟩;rcases hc with rfl | rfl <;> decide
def ZBW {w:Bs} (hw:w∈ones.map fun b=>[b]) {s:Bs} (hs:Ud s=true) (k:Bs):ZqU (sgP w) (s++k):=by
 obtain ⟨b,z,rfl,h1,h2,h3,h4,h5,h6,h7⟩:=Zo0 hs;exact ZBT ⟨.inr hw,.inr (.inr ⟨b,z++k,rfl,h4,h5,h6,h3,h7⟩)⟩
def ZtX (k:Bs):VF cmP k:=⟨Yh dM _,Yt _,trivial⟩
def opP (op:Nat):Pc:=if 15<=op/\op<=19 then nmP (ZD op) else sgP (ZD op)
def ZiX (want:Nat) (p:Nat×List Pc):List Pc:=if p.1<want then sgP [40]::(p.2++[sgP [41]]) else p.2
def Zvh (w1 w2:Nat) (mid:List Pc):List (Nat×List Pc)->List Pc
 | []=>[]
 | [a]=>ZiX w1 a
 | a::b::_=>ZiX w1 a++(mid++ZiX w2 b)
def brP (fr fin:Bs) (ps:List (List Pc)):List Pc:=sgP fr::(Vg cmP ps++[sgP fin])
def ZBX (op:Nat) (text:Bs) (n:Int) (ps:List (Nat×List Pc)):List Pc :=
 if Zj op<5 then Zvh (Zj op) (Zj op+1) [spP,opP op,spP] ps
 else if Zj op=5 then sgP (ZD op)::Zvh 5 5 [] ps
 else if ZD op≠[] then nmP (ZD op)::brP [40] [41] (ps.map Prod.snd)
 else if op=6 then brP [91] [93] (ps.map Prod.snd)
 else if op=7 then sgP [36]::nmP text::(if ps.length=0 then [] else brP [40] [41] (ps.map Prod.snd))
 else if op=3 then [.tok (Zfm n) ⟨2,[],n⟩]
 else if op=4 then [.tok (Ztl text) ⟨3,text,0⟩]
 else if op=5 then [nmP [110,105,108]]
 else if op=2 then [nmP [95]]
 else [nmP text]
mutual
def exP:Ex->List Pc
 | .mk op text n args _=>ZBX op text n (ZfG args)
def ZfG:List Ex->List (Nat×List Pc)
 | []=>[]
 | e::l=>(Zj (opE e),exP e)::ZfG l
end
def ZwR (l:List Ex):ZfG l=l.map fun e=>(Zj (opE e),exP e):=by induction l with | nil=>rfl | cons x l ih=>simp [ZfG,ih]
def ZFs (op:Nat) (t:Bs) (n:Int) (l:List Ex) (a:Nat):exP (.mk op t n l a)=ZBX op t n (ZfG l):=by rw [exP]
def bs2 (p:Nat×List Pc):Nat×Bs:=(p.1,bsP p.2)
def ts2 (p:Nat×List Pc):Nat×Ts:=(p.1,tsP p.2)
def Zo1 (w:Nat) (p:Nat×List Pc):bsP (ZiX w p)=Ztm w (bs2 p):=by
 unfold ZiX Ztm bs2
 simp only;split <;> simp
def Zo2 (w:Nat) (p:Nat×List Pc):tsP (ZiX w p)=ZlR w (ts2 p):=by
 unfold ZiX ZlR ts2
 simp only;split <;> simp
def ZtY (w1 w2:Nat) (mid:List Pc) (l:List (Nat×List Pc)):bsP (Zvh w1 w2 mid l)=exA w1 w2 (bsP mid) (l.map bs2):=by
 match l with
 | []=>rfl
 | [a]=>simp [Zvh,exA,Zo1]
 | a::b::l=>simp [Zvh,exA,Zo1]
def ZtZ (w1 w2:Nat) (mid:List Pc) (l:List (Nat×List Pc)):tsP (Zvh w1 w2 mid l)=ZE2 w1 w2 (tsP mid) (l.map ts2):=by
 match l with
 | []=>rfl
 | [a]=>simp [Zvh,ZE2,Zo2]
 | a::b::l=>simp [Zvh,ZE2,Zo2]
def ZwS:bsP cmP=cmm:=rfl
def ZwT:tsP cmP=[sgT [44]]:=rfl
def ZfH (fr fin:Bs) (l:List (List Pc)):bsP (brP fr fin l)=fr++(Zf cmm (l.map bsP)++fin):=by simp [brP,Uj,ZwS]
def ZfI (fr fin:Bs) (l:List (List Pc)):tsP (brP fr fin l)=brK fr fin (l.map tsP):=by simp [brP,brK,Uk ZwT]
def ZFt (op:Nat):(opP op).bs=ZD op:=by unfold opP;split <;> rfl
def ZFu (op:Nat):(opP op).ts=[opT op]:=by unfold opP opT;split <;> rfl
def Zna (l:List (Nat×List Pc)):(l.map Prod.snd).map bsP=(l.map bs2).map Prod.snd:=by rw [TW,TW];rfl
def Znb (l:List (Nat×List Pc)):(l.map Prod.snd).map tsP=(l.map ts2).map Prod.snd:=by rw [TW,TW];rfl
def ZBY (op:Nat) (t:Bs) (n:Int) (l:List (Nat×List Pc)):bsP (ZBX op t n l)=exN op t n (l.map bs2):=by
 unfold ZBX exN
 split
 ·rw [ZtY];simp [ZFt]
 split
 ·rw [bsP_cons,ZtY];rfl
 split
 ·rw [bsP_cons,ZfH,Zna];rfl
 split
 ·rw [ZfH,Zna]
 split
 ·rw [bsP_cons,bsP_cons,Tf];split
  ·rfl
  rw [ZfH,Zna];rfl
 split
 ·simp
 split
 ·simp
 split
 ·simp
 split
 ·simp
 simp
def ZBZ (op:Nat) (t:Bs) (n:Int) (l:List (Nat×List Pc)):tsP (ZBX op t n l)=ZoO op t n (l.map ts2):=by
 unfold ZBX ZoO
 split
 ·rw [ZtZ];simp [ZFu]
 split
 ·rw [tsP_cons,ZtZ];rfl
 split
 ·rw [tsP_cons,ZfI,Znb];rfl
 split
 ·rw [ZfI,Znb]
 split
 ·rw [tsP_cons,tsP_cons,Tf];split
  ·rfl
  rw [ZfI,Znb];rfl
 split
 ·simp
 split
 ·simp
 split
 ·simp
 split
 ·simp
 simp
mutual
def Zo3:∀e:Ex,bsP (exP e)=exT e
 | .mk op t n l a=>by rw [exP,exT,ZBY,Zo4 l]
def Zo4:∀l:List Ex,(ZfG l).map bs2=ZoL l
 | []=>by rw [ZfG,ZoL];rfl
 | x::l=>by rw [ZfG,ZoL,Tz,Zo4 l,bs2,Zo3 x]
end
mutual
def Zo5:∀e:Ex,tsP (exP e)=exK e
 | .mk op t n l a=>by rw [exP,exK,ZBZ,Zo6 l]
def Zo6:∀l:List Ex,(ZfG l).map ts2=Zvd l
 | []=>by rw [ZfG,Zvd];rfl
 | x::l=>by rw [ZfG,Zvd,Tz,Zo6 l,ts2,Zo5 x]
end
def ZHX {op:Nat} (h:-2<Yg op):(Zj op<5->(15<=op/\op<=19->Ud (ZD op)=true)/\(¬(15<=op/\op<=19)->ZD op∈ones.map fun b=>[b]))/\(Zj op=5->ZD op∈Zm9)/\(Zj op=6->ZD op≠[]->Ud (ZD op)=true):=by
 have h1:∀o:Fin 26,-2<Yg o.val->Zj o.val<5->15<=o.val/\o.val<=19->Ud (ZD o.val)=true:=by decide +kernel
 have h2:∀o:Fin 26,-2<Yg o.val->Zj o.val<5->¬(15<=o.val/\o.val<=19)->ZD o.val∈ones.map fun b=>[b]:=by decide +kernel
 have h3:∀o:Fin 26,-2<Yg o.val->Zj o.val=5->ZD o.val∈Zm9:=by decide +kernel
 have h4:∀o:Fin 26,-2<Yg o.val->Zj o.val=6->ZD o.val≠[]->Ud (ZD o.val)=true:=by decide +kernel
 obtain ⟨o,ho⟩:∃o:Fin 26,o.val=op:=⟨⟨op,ZwD h⟩,rfl⟩
 subst ho;exact ⟨fun c=>⟨h1 o h c,h2 o h c⟩,h3 o h,h4 o h⟩
def ZiY {w:Nat} {p:Nat×List Pc} {k:Bs} (hk:Aft k) (h:∀k,Aft k->VF p.2 k):VF (ZiX w p) k:=by
 unfold ZiX
 split
 ·refine ⟨Yh dM _,(YR _ _ _).2 ⟨h _ ?_,Yh dM _,trivial⟩⟩;simp only [bsP_cons,bs_sg,bsP_nil,TL,Tp,Tu];exact VD dM _
 exact h k hk
def Zhm {fr fin:Bs} (hfr:fr∈Zm9) (fj:fin∈[[41],[93]]) {l:List (List Pc)} (h:∀x∈l,∀k,Aft k->VF x k) (k:Bs):VF (brP fr fin l) k:=by
 have hk:∀w∈[[41],[93]],w∈Zm9/\w=[w.getD 0 0]/\w.getD 0 0∈([32,41,44,93]:Bs):=dM;obtain ⟨h1,h3,h2⟩:=hk fin fj;generalize fin.getD 0 0=c at h2 h3;subst h3;refine ⟨Yh hfr _,(YR _ _ _).2 ⟨WT ZtX (fun x=>?_) ?_ h,Yh h1 _,trivial⟩⟩
 ·exact VD dM _
 simp only [bsP_cons,bs_sg,bsP_nil,TL,Tp,Tu];exact VD h2 _
def ZFv:∀(n:Nat) (e:Ex),SizeOf.sizeOf e<n->Yb e=true->ZiN e=true->∀k,Aft k->VF (exP e) k
 | 0,e,h,_,_=>oM
 | q+1,.mk op t n l a,h,hm,hr=>fun k hk=>by
  obtain ⟨m1,m2,m3,m4,m5⟩:=ZiQ hm;obtain ⟨f1,f2,f3,f4,f5⟩:=Zd2 m1;obtain ⟨p1,p2,p3⟩:=ZHX m1;obtain ⟨r1,r2⟩:=ZcM hr;have ih:∀x∈l,∀k,Aft k->VF (exP x) k:=fun x hx=>ZFv q x (ZwE h hx) (m5 x hx) (r2 x hx)
  have ihm:∀x∈l.map exP,∀k,Aft k->VF x k:=fun x hx=>by obtain ⟨y,hy,rfl⟩:=Sh.1 hx;exact ih y hy
  rw [ZFs,ZwR];unfold ZBX
  by_cases c1:Zj op<5
  ·obtain ⟨x,y,rfl⟩:=Zax (l:=l) (by have:=f1 c1;omega);rw [Tg c1];simp only [Tz,TN,Zvh];refine (YR _ _ _).2 ⟨ZiY ?_ (ih x sM),(YR _ _ _).2 ⟨⟨Yt _,?_,Yt _,trivial⟩,ZiY hk (ih y sM)⟩⟩
   ·simp only [Tp,bsP_cons,bs_sp,Tu];exact VD dM _
   simp only [bsP_cons,bs_sp,Tp,Tu,bsP_nil];unfold opP
   split
   ·rename_i c;exact Xq ((p1 c1).1 c) (Z8 dM _)
   rename_i c;exact ZfF (.inr ((p1 c1).2 c)) (.inl rfl) _
  rw [Tb c1]
  by_cases c2:Zj op=5
  ·obtain ⟨x,rfl⟩:=Zfs (l:=l) (by have:=f2 c2;omega);rw [Tg c2];simp only [Tz,TN,Zvh];exact ⟨Yh (p2 c2) _,ZiY hk (ih x sM)⟩
  have c3:Zj op=6:=oM;rw [Tb c2];have ac5:(l.map fun e=>(Zj (opE e),exP e)).map Prod.snd=l.map exP:=by rw [TW];rfl
  rw [ac5]
  by_cases c4:ZD op≠[]
  ·rw [Tg c4];exact ⟨Xq (p3 c3 c4) (Z8 (c:=40) dM _),Zhm dM dM ihm k⟩
  rw [Tb c4];have hf:=ZBV hk;rcases f5 c3 (by simpa using c4) with rfl | rfl | rfl | rfl | rfl | rfl | rfl
  ·exact ⟨Xq (Xt (ZbV m4 (.inl rfl))) hf,trivial⟩
  ·exact ⟨Xq (by decide +kernel) hf,trivial⟩
  ·exact ⟨ZFq r1.1 r1.2 hf,trivial⟩
  ·have hq:(Uc t).isSome=true:=by unfold WJ at m4;rw [Tb dM,Tg rfl] at m4;exact m4
   obtain ⟨v,hv⟩:=Sw.1 hq;have:Ztl t=v:=by rw [Ztl,hv];rfl
   show VF [.tok (Ztl t) ⟨3,t,0⟩] k;rw [this];exact ⟨ZFp hv hf,trivial⟩
  ·exact ⟨Xq (by decide +kernel) hf,trivial⟩
  ·exact Zhm dM dM ihm k
  have hn:=Xt (ZbV m4 (.inr rfl));show VF (sgP [36]::nmP t::(if (l.map fun e=>(Zj (opE e),exP e)).length=0 then [] else brP [40] [41] (l.map exP))) k;rw [Tf]
  by_cases hl:l.length=0
  ·rw [Tg hl];exact ⟨Yh dM _,Xq hn hf,trivial⟩
  rw [Tb hl];exact ⟨Yh dM _,Xq hn (Z8 (c:=40) dM _),Zhm dM dM ihm k⟩
def Zys {e:Ex} (h:Yb e=true) (hr:ZiN e=true) {k:Bs} (hk:Aft k):VF (exP e) k:=ZFv _ e (SC _) h hr k hk
def ZB0 (op:Nat):List Pc:=[spP,sgP (ZwI op),spP]
def Zyt:List Ex->List Pc
 | []=>[]
 | e::_=>exP e
def ZB1 (l:List Ex):List Pc:=(l.map fun e=>spP::exP e).flatten
mutual
def liP:Li->List Pc
 | .mk op rel args body _ =>
  if op=2 then sgP [33]::nmP rel::brP [40] [41] (args.map exP)
  else if op=1 then nmP rel::brP [40] [41] (args.map exP)
  else if op<=8 then Zyt args++(ZB0 op++Zyt args.tail)
  else Zyt args++(spP::sgP [61]::spP::nmP (JE op)::(ZB1 args.tail++(spP::sgP [58]::spP::sgP [123]::spP::(Vg cmP (Zvi body)++[spP,sgP [125]]))))
def Zvi:List Li->List (List Pc)
 | []=>[]
 | e::l=>liP e::Zvi l
end
def Znc (l:List Li):Zvi l=l.map liP:=by induction l with | nil=>rfl | cons x l ih=>simp [Zvi,ih]
def Znd (l:List Ex):bsP (Zyt l)=ZmR l:=by cases l with | nil=>rfl | cons x l=>exact Zo3 x
def Zne (l:List Ex):tsP (Zyt l)=Zve l:=by cases l with | nil=>rfl | cons x l=>exact Zo5 x
def ZB2 (l:List Ex):bsP (ZB1 l)=Ztp l:=by
 unfold ZB1 Ztp
 rw [ZoY,TW]
 congr 1
 refine TX fun x _=>?_
 simp [Zo3]
def ZB3 (l:List Ex):tsP (ZB1 l)=(l.map exK).flatten:=by
 unfold ZB1
 rw [ZoZ,TW]
 congr 1
 refine TX fun x _=>?_
 simp [Zo5]
def ZiZ (l:List Ex):(l.map exP).map bsP=ZDm l:=by rw [TW];exact TX fun x _=>Zo3 x
def Zi0 (l:List Ex):(l.map exP).map tsP=l.map exK:=by rw [TW];exact TX fun x _=>Zo5 x
def ZB4 {op:Nat}:bsP (ZB0 op)=Zto op:=by
 unfold ZB0 ZwI Zto
 (repeat' split) <;> rfl
def ZB5 {op:Nat}:tsP (ZB0 op)=[sgT (ZwI op)]:=by simp [ZB0]
mutual
def ZFw:∀x:Li,bsP (liP x)=liT x
 | .mk op rel args body a=>by
  rw [liP,liT];split
  ·rw [bsP_cons,bsP_cons,ZfH,ZiZ];rfl
  split
  ·rw [bsP_cons,ZfH,ZiZ];rfl
  split
  ·rw [bsP_app,bsP_app,Znd,Znd,ZB4]
  simp only [bsP_app,bsP_cons,bsP_nil,Znd,ZB2,Uj,ZwS,Znf body,bs_sp,bs_sg,bs_nm,TL,Tp,Tu]
def Znf:∀l:List Li,(Zvi l).map bsP=ZoM l
 | []=>by rw [Zvi,ZoM];rfl
 | x::l=>by rw [Zvi,ZoM,Tz,ZFw x,Znf l]
end
mutual
def ZFx:∀x:Li,tsP (liP x)=liK x
 | .mk op rel args body a=>by
  rw [liP,liK];split
  ·rw [tsP_cons,tsP_cons,ZfI,Zi0];rfl
  split
  ·rw [tsP_cons,ZfI,Zi0];rfl
  split
  ·rw [tsP_app,tsP_app,Zne,Zne,ZB5];rfl
  simp only [tsP_app,tsP_cons,tsP_nil,Zne,ZB3,Uk ZwT,Zng body,ts_sp,ts_sg,ts_nm,TL,Tp,Tu]
def Zng:∀l:List Li,(Zvi l).map tsP=ZBM l
 | []=>by rw [Zvi,ZBM];rfl
 | x::l=>by rw [Zvi,ZBM,Tz,ZFx x,Zng l]
end
def ZB6 {op:Nat} (k:Bs):VF (ZB0 op) k:=by
 refine ⟨Yt _,?_,Yt _,trivial⟩;simp only [bsP_cons,bs_sp,bsP_nil,TL,Tp,Tu];refine ZfF ?_ (.inl rfl) _;unfold ZwI
 (repeat' split) <;> decide
def ZFy:∀(n:Nat) (x:Li),SizeOf.sizeOf x<n->YT x=true->ZmW x=true->∀k,Aft k->VF (liP x) k
 | 0,x,h,_,_=>oM
 | q+1,.mk op rel args body a,h,hm,hr=>fun k hk=>by
  obtain ⟨m1,m2,m3⟩:=Zm3 hm;obtain ⟨r1,r2⟩:=ZmX hr;have ih:∀x∈body,∀k,Aft k->VF (liP x) k:=fun x hx=>ZFy q x (Zyo h hx) (m3 x hx) (r2 x hx)
  have he:∀x∈args,∀k,Aft k->VF (exP x) k:=fun x hx k hk=>Zys (m2 x hx) (r1 x hx) hk
  have hem:∀x∈args.map exP,∀k,Aft k->VF x k:=fun x hx=>by obtain ⟨y,hy,rfl⟩:=Sh.1 hx;exact he y hy
  have hbm:∀x∈body.map liP,∀k,Aft k->VF x k:=fun x hx=>by obtain ⟨y,hy,rfl⟩:=Sh.1 hx;exact ih y hy
  have hag:Ud (JE op)=true:=by unfold JE;(repeat' split) <;> decide +kernel
  have aftsp:∀z:Bs,Aft (32::z):=fun z=>VD dM z
  rw [liP,Znc];rcases Zm4 m1 with ⟨c,hn,hb⟩ | ⟨c1,c2,rfl,ha,hb⟩ | ⟨rfl,rfl,ha,hb⟩ | ⟨c1,c2,rfl,ha,hb⟩
  ·rcases c with rfl | rfl
   ·rw [Tb dM,Tg rfl];exact ⟨Xq (Xt hn) (Z8 (c:=40) dM _),Zhm dM dM hem k⟩
   rw [Tg rfl];refine ⟨?_,Xq (Xt hn) (Z8 (c:=40) dM _),Zhm dM dM hem k⟩;rw [bsP_cons,bs_nm,Tj];exact ZBW dM (Xt hn) _
  ·obtain ⟨x,y,rfl⟩:=Zax ha;rw [Tb oM,Tb oM,Tg c2];simp only [Zyt,TQ];refine (YR _ _ _).2 ⟨he x sM _ ?_,(YR _ _ _).2 ⟨ZB6 _,he y sM k hk⟩⟩;rw [ZB0];simp only [Tp,bsP_cons,bs_sp,Tu];exact aftsp _
  ·obtain ⟨x,rfl⟩:=Zfs ha;rw [Tb oM,Tb oM,Tb oM];simp only [Zyt,TQ,ZB1,TN,SP,Tu];refine (YR _ _ _).2 ⟨he x sM _ ?_,Yt _,Yh dM _,Yt _,Xq hag ?_,Yt _,?_,Yt _,Yh dM _,Yt _,(YR _ _ _).2 ⟨WT ZtX (fun x=>VD dM _) ?_ hbm,Yt _,Yh dM _,trivial⟩⟩
   ·exact mq123
   ·simp only [bsP_cons,bs_sp,Tp,Tu];exact Z8 dM _
   ·simp only [bsP_cons,bs_sp,Tp,Tu];exact ZfF dM (.inl rfl) _
   exact mq123
  obtain ⟨x,y,rfl⟩:=Zax ha;rw [Tb oM,Tb oM,Tb oM];simp only [Zyt,TQ,ZB1,Tz,TN,Sb,SP,Tu,TL,Tp];refine (YR _ _ _).2 ⟨he x sM _ ?_,Yt _,Yh dM _,Yt _,Xq hag ?_,Yt _,(YR _ _ _).2 ⟨he y sM _ ?_,Yt _,?_,Yt _,Yh dM _,Yt _,(YR _ _ _).2 ⟨WT ZtX (fun x=>VD dM _) ?_ hbm,Yt _,Yh dM _,trivial⟩⟩⟩
  ·exact mq123
  ·simp only [bsP_cons,bs_sp,Tp,Tu];exact Z8 dM _
  ·exact mq123
  ·simp only [bsP_cons,bs_sp,Tp,Tu];exact ZfF dM (.inl rfl) _
  exact mq123
def ZFz {x:Li} (h:YT x=true) (hr:ZmW x=true) {k:Bs} (hk:Aft k):VF (liP x) k:=ZFy _ x (SC _) h hr k hk
def ifP:List Pc:=[spP,sgP [58,45],spP]
def ruP (r:Ru):List Pc:=nmP r.head::(brP [40] [41] (r.args.map exP)++((if 0<r.body.length then ifP++Vg cmP (r.body.map liP) else [])++[sgP [46]]))
def ZB7 (l:List Li):(l.map liP).map bsP=ZoM l:=by rw [<- Znc,Znf]
def ZB8 (l:List Li):(l.map liP).map tsP=l.map liK:=by rw [<- Znc,Zng,ZtL]
def ZFA (r:Ru):bsP (ruP r)=ruT r:=by
 unfold ruP ruT argT
 split
 ·simp [-List.map_map,ZfH,ZiZ,Uj,ZwS,ZB7,ifP]
 simp [-List.map_map,ZfH,ZiZ]
def ZFB (r:Ru):tsP (ruP r)=ruK r:=by
 unfold ruP ruK
 split
 ·simp [-List.map_map,ZfI,Zi0,Uk ZwT,ZB8,ifP]
 simp [-List.map_map,ZfI,Zi0]
def ZFC {r:Ru} (h:YQ r=true) (hr:Zfp r=true) {k:Bs} (hk:k=[]\/∃z,k=10::z):VF (ruP r) k:=by
 obtain ⟨h1,h2,h3⟩:=ZbX h;simp only [Zfp,Tm] at hr;have r1:=To.1 hr.1;have r2:=To.1 hr.2;refine ⟨Xq (Xt h1) (Z8 (c:=40) dM _),(YR _ _ _).2 ⟨Zhm dM dM (fun x hx=>?_) _,(YR _ _ _).2 ⟨?_,Yh dM _,trivial⟩⟩⟩
 ·obtain ⟨y,hy,rfl⟩:=Sh.1 hx;exact fun k hk=>Zys (h2 y hy) (r1 y hy) hk
 split
 ·refine (YR _ _ _).2 ⟨⟨Yt _,Yh dM _,Yt _,trivial⟩,WT (Ok:=Aft) ZtX (fun x=>?_) ?_ fun x hx=>?_⟩
  ·exact VD dM _
  ·simp only [bsP_cons,bs_sg,bsP_nil,TL,Tp,Tu];rcases hk with rfl | ⟨z,rfl⟩
   ·exact .inr (.inr (.inl rfl))
   exact .inr (.inr (.inr ⟨z,rfl⟩))
  obtain ⟨y,hy,rfl⟩:=Sh.1 hx;exact fun k hk=>ZFz (h3 y hy) (r2 y hy) hk
 exact trivial
def fiP (f:Fi):List Pc:=[nmP f.name,sgP [58],spP,nmP f.typ]
def Zyu (l:List Fi) (fin:Bs):List Pc:=Vg cmP (l.map fiP)++[sgP fin]
def ZFD (f:Fi):bsP (fiP f)=fiT f:=by simp [fiP,fiT]
def ZFE (f:Fi):tsP (fiP f)=fiK f:=by simp [fiP,fiK]
def ZB9 (l:List Fi):(l.map fiP).map bsP=l.map fiT:=by rw [TW];exact TX fun x _=>ZFD x
def ZCa (l:List Fi):(l.map fiP).map tsP=l.map fiK:=by rw [TW];exact TX fun x _=>ZFE x
def Znh (fr:Bs) (l:List Fi) (fin:Bs):fr++bsP (Zyu l fin)=VL fr l fin:=by simp [-List.map_map,Zyu,VL,Uj,ZwS,ZB9]
def Zni (fr:Bs) (l:List Fi) (fin:Bs):sgT fr::tsP (Zyu l fin)=Zyp fr l fin:=by simp [-List.map_map,Zyu,Zyp,Uk ZwT,ZCa]
def Znj {l:List Fi} (h:∀f∈l,YH f=true) {fin:Bs} (fj:fin∈[[41],[93],[125]]) (k:Bs):VF (Zyu l fin) k:=by
 have hk:∀w∈[[41],[93],[125]],w∈Zm9/\w=[w.getD 0 0]/\w.getD 0 0∈ZwQ:=dM;obtain ⟨h1,h3,h2⟩:=hk fin fj;generalize fin.getD 0 0=c at h2 h3;subst h3;refine (YR _ _ _).2 ⟨WT (Ok:=Zvg) ZtX (fun x=>Z8 (c:=44) dM _) ?_ fun x hx=>?_,Yh h1 _,trivial⟩
 ·simp only [bsP_cons,bs_sg,bsP_nil,TL,Tp,Tu];exact Z8 h2 _
 obtain ⟨f,hf,rfl⟩:=Sh.1 hx;obtain ⟨f1,f2⟩:=ZiR (h f hf);exact fun k hk=>⟨Xq (Xt f1) (Z8 (c:=58) dM _),ZfF dM (.inl rfl) _,Yt _,Xq (Xt f2) hk,trivial⟩
def caP (c:Ca):List Pc:=nmP c.name::spP::sgP [123]::Zyu c.fields [125]
def ZFF (c:Ca):bsP (caP c)=caT c:=by
 rw [caT,<- Znh];simp [caP]
def ZFG (c:Ca):tsP (caP c)=caK c:=by
 rw [caK,<- Zni];simp [caP]
def ZFH {c:Ca} (h:Xp c=true) (k:Bs):VF (caP c) k:=by
 obtain ⟨h1,h2⟩:=ZiS h;exact ⟨Xq (Xt h1) (Z8 (c:=32) dM _),Yt _,Yh dM _,Znj h2 dM k⟩
def ZFI:bsP ZGV=[32,124,32]:=rfl
def ZFJ:tsP ZGV=[sgT [124]]:=rfl
def ZFK (k:Bs):VF ZGV k:=⟨Yt _,Yh dM _,Yt _,trivial⟩
def tyP (t:Ty):List Pc:=nmP [116,121,112,101]::spP::nmP t.name::((if t.kind=1 then [spP,sgP [60,58],spP,nmP t.base] else if t.kind=2 then spP::sgP [61]::spP::sgP [91]::Zyu t.fields [93] else spP::sgP [61]::spP::Vg ZGV (t.cases.map caP))++[nlP])
def ZCb (l:List Ca):(l.map caP).map bsP=l.map caT:=by rw [TW];exact TX fun x _=>ZFF x
def ZCc (l:List Ca):(l.map caP).map tsP=l.map caK:=by rw [TW];exact TX fun x _=>ZFG x
def ZFL (t:Ty):bsP (tyP t)=tyT t:=by
 unfold tyP tyT
 split
 ·simp
 split
 ·rw [<- Znh];simp
 simp [-List.map_map,Uj,ZFI,ZCb]
def ZFM (t:Ty):tsP (tyP t)=tyK t:=by
 unfold tyP tyK
 split
 ·simp
 split
 ·rw [<- Zni];simp
 simp [-List.map_map,Uk ZFJ,ZCc]
def Zdr (z:Bs):Zvg (32::z):=Z8 dM z
def ZFN {t:Ty} (h:Yl t=true) (k:Bs):VF (tyP t) k:=by
 obtain ⟨h1,h2,h3,h4⟩:=ZiT h;have hw:Ud [116,121,112,101]=true:=by decide +kernel
 refine ⟨Xq hw (Zdr _),Yt _,Xq (Xt h1) ?_,(YR _ _ _).2 ⟨?_,ZBU _,trivial⟩⟩
 ·(repeat' split) <;> exact Zdr _
 rcases h4 with ⟨e,hb,_,_⟩ | ⟨e,_,_⟩ | ⟨e,_,_,_⟩
 ·rw [Tg e];exact ⟨Yt _,Yh dM _,Yt _,Xq (Xt hb) (Z8 (c:=10) dM _),trivial⟩
 ·rw [Tb oM,Tg e];exact ⟨Yt _,Yh dM _,Yt _,Yh dM _,Znj h2 dM _⟩
 rw [Tb oM,Tb oM];refine ⟨Yt _,Yh dM _,Yt _,WT (Ok:=fun _=>True) ZFK (fun _=>trivial) trivial fun x hx=>?_⟩;obtain ⟨y,hy,rfl⟩:=Sh.1 hx;exact fun k _=>ZFH (h3 y hy) k
def Zo7 (i o n:Bool):List Pc:=(if i then [spP,nmP [105,110,112,117,116]] else [])++((if o then [spP,nmP [111,117,116,112,117,116]] else [])++(if n then [spP,nmP [105,110,108,105,110,101]] else []))
def reP (d:Re):List Pc:=nmP [100,101,99,108]::spP::nmP d.name::sgP [40]::(Zyu d.fields [41]++(Zo7 d.inn d.out d.inl++[nlP]))
def ZFO (d:Re):bsP (reP d)=reT d:=by
 obtain ⟨nm,fs,i,o,n,a⟩:=d;unfold reP reT
 rw [<- Znh]
 cases i <;> cases o <;> cases n <;> simp [Zo7]
def ZFP (d:Re):tsP (reP d)=reK d:=by
 obtain ⟨nm,fs,i,o,n,a⟩:=d;unfold reP reK
 rw [<- Zni]
 cases i <;> cases o <;> cases n <;> simp [Zo7,ZoT]
def ZFQ {d:Re} (h:Xx d=true) (k:Bs):VF (reP d) k:=by
 simp only [Xx,Tm] at h;obtain ⟨h1,h2⟩:=h;have h2:=To.1 h2;have w1:Ud [100,101,99,108]=true:=by decide +kernel
 have w2:Ud [105,110,112,117,116]=true:=by decide +kernel
 have w3:Ud [111,117,116,112,117,116]=true:=by decide +kernel
 have w4:Ud [105,110,108,105,110,101]=true:=by decide +kernel
 refine ⟨Xq w1 (Zdr _),Yt _,Xq (Xt h1) (Z8 (c:=40) dM _),Yh dM _,(YR _ _ _).2 ⟨Znj h2 dM _,(YR _ _ _).2 ⟨?_,ZBU _,trivial⟩⟩⟩;have f10:∀z:Bs,Zvg (10::z):=fun z=>Z8 dM z
 obtain ⟨nm,fs,i,o,n,a⟩:=d
 cases i <;> cases o <;> cases n <;> simp only [Zo7,if_true,Tx,if_false,Tu,TL,Tp]
 ·exact trivial
 ·exact ⟨Yt _,Xq w4 (f10 _),trivial⟩
 ·exact ⟨Yt _,Xq w3 (f10 _),trivial⟩
 ·exact ⟨Yt _,Xq w3 (Zdr _),Yt _,Xq w4 (f10 _),trivial⟩
 ·exact ⟨Yt _,Xq w2 (f10 _),trivial⟩
 ·exact ⟨Yt _,Xq w2 (Zdr _),Yt _,Xq w4 (f10 _),trivial⟩
 ·exact ⟨Yt _,Xq w2 (Zdr _),Yt _,Xq w3 (f10 _),trivial⟩
 exact ⟨Yt _,Xq w2 (Zdr _),Yt _,Xq w3 (Zdr _),Yt _,Xq w4 (f10 _),trivial⟩
def Zi1 {α:Type} (P:α->List Pc) (l:List α):List Pc:=(l.map P).flatten
def Zi2 {α:Type} {P:α->List Pc} {T:α->Bs} (h:∀x,bsP (P x)=T x) (l:List α):bsP (Zi1 P l)=(l.map T).flatten:=by
 rw [Zi1,ZoY,TW];congr 1;exact TX fun x _=>h x
def Zi3 {α:Type} {P:α->List Pc} {T:α->Ts} (h:∀x,tsP (P x)=T x) (l:List α):tsP (Zi1 P l)=(l.map T).flatten:=by
 rw [Zi1,ZoZ,TW];congr 1;exact TX fun x _=>h x
def Zd3 {α:Type} {P:α->List Pc}:∀(l:List α),(∀x∈l,∀k,VF (P x) k)->∀k,VF (Zi1 P l) k
 | [],h,k=>trivial
 | x::l,h,k=>by
  rw [Zi1,Tz,Sb];exact (YR _ _ _).2 ⟨h x sM _,Zd3 l (fun y hy=>h y (Tt _ hy)) k⟩
def ZDq (tys:List Ty) (rels:List Re) (rules:List Ru):List Pc:=Zi1 tyP tys++(Zi1 reP rels++Zi1 (fun r=>ruP r++[nlP]) rules)
def ZCd (tys:List Ty) (rels:List Re) (rules:List Ru):bsP (ZDq tys rels rules)=unT (.mk tys rels rules [] [] []):=by
 have e:∀r:Ru,bsP (ruP r++[nlP])=ruT r++[10]:=fun r=>by rw [bsP_app,ZFA];rfl
 simp only [ZDq,unT,ZAa,bsP_app,Zi2 ZFL,Zi2 ZFO,Zi2 e,TN,SP,Tu]
def ZCe (tys:List Ty) (rels:List Re) (rules:List Ru):tsP (ZDq tys rels rules)=unK (.mk tys rels rules [] [] []):=by
 have e:∀r:Ru,tsP (ruP r++[nlP])=ruK r:=fun r=>by rw [tsP_app,ZFB];simp
 simp only [ZDq,unK,ZDp,tsP_app,Zi3 ZFM,Zi3 ZFP,Zi3 e,TN,SP,Tu]
def ZCf {tys:List Ty} {rels:List Re} {rules:List Ru} (h:ZbN (.mk tys rels rules [] [] [])=true) (hr:ZiO (.mk tys rels rules [] [] [])=true):VF (ZDq tys rels rules) []:=by
 obtain ⟨m1,m2,m3,_,_,_⟩:=ZiU h;simp only [ZiO,Tm] at hr;have r1:=To.1 hr.1;have e:∀x∈rules,∀k,VF (ruP x++[nlP]) k:=fun x hx k=>(YR _ _ _).2 ⟨ZFC (m3 x hx) (r1 x hx) (.inr ⟨_,rfl⟩),ZBU _,trivial⟩
 exact (YR _ _ _).2 ⟨Zd3 _ (fun x hx k=>ZFN (m1 x hx) k) _,(YR _ _ _).2 ⟨Zd3 _ (fun x hx k=>ZFQ (m2 x hx) k) _,Zd3 _ e _⟩⟩
def ZfJ:∀(f:Nat) (r out q:Bs),Vb f r out=some q->q.length<=out.length+4 * r.length
 | 0,r,out,q,h=>by simp [Vb] at h
 | f+1,r,out,q,h=>by
  unfold Vb at h
  split at h
  ·cases h;omega
  rename_i hr
  have hd:=Lib.decodeL_le r hr;have hg:=ZcA r;split at h
  ·have:=ZfJ f _ _ _ h;simp only [Ta,Te,Th,TD] at this;omega
  split at h
  ·cases h
  have:=ZfJ f _ _ _ h;have h4:=ZHi (Lib.decodeL r).1;simp only [Ta,TD] at this;omega
def ZwU (s:Bs):(Ztl s).length<=4 * s.length+2:=by
 unfold Ztl Uc
 split
 ·cases hq:Vb (s.length+1) s [34] with
  | none=>simp
  | some q =>
  have:=ZfJ _ _ _ _ hq;simp only [So,SE,Ta,Te,Th] at this |-;omega
 simp
def ZwV {n:Int} (h0:-9223372036854775808<=n) (h1:n<9223372036854775808):(Zfm n).length<=20:=by
 unfold Zfm
 split
 ·have h:=(Ui (base:=16) (.inr rfl) ((n+18446744073709551616).toNat+1) (n+18446744073709551616).toNat oM).2.2.2 15 (by
   have:(16:Nat) ^ (15+1)=18446744073709551616:=dM;omega)
  simp only [Ta,Te,Th,Ym];omega
 have h:=(Ui (base:=10) (.inl rfl) (n.toNat+1) n.toNat oM).2.2.2 18 (by
  have:(10:Nat) ^ (18+1)=10000000000000000000:=dM;omega)
 rw [Ym];omega
def ZwW (op:Nat):(ZD op).length<=6:=by
 by_cases h:op<26
 ·have hk:∀o:Fin 26,(ZD o.val).length<=6:=by decide
  exact hk ⟨op,h⟩
 unfold ZD
 (repeat rw [Tb oM])
 decide
def Zyv (l:List (Nat×Bs)):Nat:=(l.map fun p=>p.2.length+4).sum
def Ul (l:List Bs):(Zf cmm l).length<=(l.map fun s=>s.length+4).sum:=by
 match l with
 | []=>exact Sl _
 | [x]=>simp [Zf]
 | x::y::l =>
  have ih:=Ul (y::l);rw [Zf]
  ·simp only [Ta,Tz,SS] at ih |-;have:cmm.length=2:=rfl;omega
  intro h;cases h
def Zi4 (w:Nat) (p:Nat×Bs):(Ztm w p).length<=p.2.length+2:=by
 unfold Ztm;split
 ·exact mq94
 omega
def Zt0 (w1 w2:Nat) (sep:Bs) (l:List (Nat×Bs)):(exA w1 w2 sep l).length<=Zyv l+sep.length:=by
 match l with
 | []=>simp [exA]
 | [a]=>have:=Zi4 w1 a;simp only [exA,Zyv,Tz,TN,SS,List.sum_nil];omega
 | a::b::l =>
  have h1:=Zi4 w1 a;have h2:=Zi4 w2 b;simp only [exA,Zyv,Tz,SS,Ta];omega
def Zt1 (op:Nat) (t:Bs) (n:Int) (l:List (Nat×Bs)) (h0:-9223372036854775808<=n) (h1:n<9223372036854775808):(exN op t n l).length<=Zyv l+5 * t.length+30:=by
 have hw:=ZwW op;have hn:=ZwV h0 h1;have hq:=ZwU t;have hc:(Zf cmm (l.map Prod.snd)).length<=Zyv l:=by
  have:=Ul (l.map Prod.snd);rw [TW] at this;exact this
 unfold exN
 split
 ·have:=Zt0 (Zj op) (Zj op+1) ([32]++(ZD op++[32])) l;simp only [Ta,Te,Th] at this;omega
 split
 ·have:=Zt0 5 5 [] l;simp only [Ta,Th] at this |-;omega
 split
 ·exact mq94
 split
 ·exact mq94
 split
 ·simp only [Ta,Te,Th];split
  ·simp only [Th];omega
  exact mq94
 split
 ·omega
 split
 ·omega
 split
 ·simp only [Te,Th];omega
 split
 ·simp only [Te,Th];omega
 omega
mutual
def ZfK:∀e:Ex,ZiN e=true->(exT e).length+4<=64 * wE e
 | .mk op t n l a,h=>by
  obtain ⟨r1,r2⟩:=ZcM h;have ih:=ZcQ l (by rw [UT];exact To.2 r2);have:=Zt1 op t n (ZoL l) r1.1 r1.2;rw [exT,wE];omega
def ZcQ:∀l:List Ex,ZmV l=true->Zyv (ZoL l)<=64 * wEs l
 | [],h=>by rw [ZoL];simp [Zyv]
 | x::l,h=>by
  rw [ZmV,Tm] at h;have h1:=ZfK x h.1;have h2:=ZcQ l h.2;rw [ZoL,wEs];unfold Zyv at h2 |-
  simp only [Tz,SS];omega
end
def Zt2 {α:Type} {T:α->Bs} {w:α->Nat}:∀l:List α,(∀x∈l,(T x).length+4<=64 * w x)->(l.map fun x=>(T x).length+4).sum<=64 * szS w l
 | [],h=>Sl _
 | x::l,h=>by
  have h1:=h x sM;have h2:=Zt2 l fun y hy=>h y (Tt _ hy)
  simp only [Tz,SS,szS];omega
def Za1 {α:Type} {T:α->Bs} {w:α->Nat} {l:List α} (h:∀x∈l,(T x).length+4<=64 * w x):(Zf cmm (l.map T)).length<=64 * szS w l:=by
 have h1:=Ul (l.map T);rw [TW] at h1;exact Sc h1 (Zt2 l h)
def Vh {α:Type} {T:α->Bs} {w:α->Nat}:∀{l:List α},(∀x∈l,(T x).length+4<=64 * w x)->((l.map T).flatten).length<=64 * szS w l
 | [],h=>Sl _
 | x::l,h=>by
  have h1:=h x sM;have h2:=Vh (l:=l) fun y hy=>h y (Tt _ hy)
  simp only [Tz,Sb,Ta,szS];omega
def Znk:∀{l:List Ex},(∀x∈l,ZiN x=true)->(ZmR l).length+(Ztp l.tail).length<=64 * szS wE l/\(ZmR l).length+(ZmR l.tail).length<=64 * szS wE l
 | [],h=>by simp [ZmR,Ztp]
 | x::l,h=>by
  have h1:=ZfK x (h x sM);have h2:=Vh (T:=fun e=>[32]++exT e) (w:=fun e=>wE e) (l:=l) fun y hy=>by
   have:=ZfK y (h y (Tt _ hy))
   cases y with
   | mk o t n a b =>
   have hw:1<=wE (.mk o t n a b):=by rw [wE];omega
   have h3:=Zt1 o t n (ZoL a) (ZcM (h _ (Tt _ hy))).1.1 (ZcM (h _ (Tt _ hy))).1.2;have h4:=ZcQ a (by rw [UT];exact To.2 (ZcM (h _ (Tt _ hy))).2);simp only [Ta,Te,Th];rw [exT,wE];omega
  refine ⟨?_,?_⟩
  ·show (exT x).length+(Ztp l).length<=64 * szS wE (x::l);rw [szS];unfold Ztp
   have:szS (fun e=>wE e) l=szS wE l:=rfl;omega
  show (exT x).length+(ZmR l).length<=64 * szS wE (x::l)
  cases l with
  | nil=>rw [szS,szS];simp [ZmR];omega
  | cons y l =>
  have h5:=ZfK y (h y sM);rw [szS,szS];simp only [ZmR];omega
def ZCg (op:Nat):(Zto op).length<=4:=by unfold Zto;(repeat' split) <;> decide
def ZCh (op:Nat):(JE op).length<=5:=by unfold JE;(repeat' split) <;> decide
def Zk1 {fr fin:Bs} {l:List Ex} (h:∀x∈l,ZiN x=true):(argT fr fin l).length<=fr.length+64 * szS wE l+fin.length:=by
 have:=Za1 (T:=exT) (w:=wE) fun x hx=>ZfK x (h x hx)
 unfold argT ZDm
 simp only [Ta];omega
mutual
def ZCi:∀x:Li,ZmW x=true->(liT x).length+4<=64 * wL x
 | .mk op rel args body a,h=>by
  obtain ⟨r1,r2⟩:=ZmX h;have h1:=Zi5 body (by rw [J4];exact To.2 r2);have h2:=Zk1 (fr:=[40]) (fin:=[41]) r1;obtain ⟨h3,h4⟩:=Znk r1;have h5:=ZCg op;have h6:=ZCh op;have h7:=Ul (ZoM body);rw [liT,wL];simp only [Te,Th] at h2;split
  ·exact mq94
  split
  ·simp only [Ta];omega
  split
  ·simp only [Ta];omega
  exact mq94
def Zi5:∀l:List Li,ZqJ l=true->((ZoM l).map fun s=>s.length+4).sum<=64 * wLs l
 | [],h=>by rw [ZoM];simp
 | x::l,h=>by
  rw [ZqJ,Tm] at h;have h1:=ZCi x h.1;have h2:=Zi5 l h.2;rw [ZoM,wLs];simp only [Tz,SS];omega
end
def ZCj {r:Ru} (h:Zfp r=true):(ruT r).length+10<=64 * wRu r:=by
 simp only [Zfp,Tm] at h;have r1:=To.1 h.1;have r2:=To.1 h.2;have h1:=Zk1 (fr:=[40]) (fin:=[41]) r1;have h2:=Zi5 r.body (by rw [J4];exact h.2);have h3:=Ul (ZoM r.body);rw [JF] at h2;unfold ruT wRu
 simp only [Te,Th] at h1;split
 ·exact mq94
 exact mq94
def ZCk (f:Fi):(fiT f).length+4<=64 * wFi f:=by
 unfold fiT wFi;simp only [Ta,Te,Th];omega
def Znl (fr fin:Bs) (l:List Fi):(VL fr l fin).length<=fr.length+64 * szS wFi l+fin.length:=by
 have:=Za1 (T:=fiT) (w:=wFi) (l:=l) fun x _=>ZCk x
 unfold VL
 simp only [Ta];omega
def ZCl (c:Ca):(caT c).length+4<=64 * wCa c:=by
 have:=Znl (c.name++[32,123]) [125] c.fields;unfold caT wCa
 simp only [Ta,Te,Th] at this |-;omega
def Zhn (l:List Bs):(Zf [32,124,32] l).length<=(l.map fun s=>s.length+4).sum:=by
 match l with
 | []=>exact Sl _
 | [x]=>simp [Zf]
 | x::y::l =>
  have ih:=Zhn (y::l);rw [Zf]
  ·simp only [Ta,Tz,SS,Te,Th] at ih |-;omega
  intro h;cases h
def ZCm (t:Ty):(tyT t).length+4<=64 * wTy t:=by
 have h1:=Znl [32,61,32,91] [93] t.fields;have h2:=Zhn (t.cases.map caT);rw [TW] at h2;have h3:=Zt2 (T:=caT) (w:=wCa) t.cases fun x _=>ZCl x
 have h4:(t.cases.map fun x=>(caT x).length+4).sum=(t.cases.map ((fun s:Bs=>s.length+4)∘caT)).sum:=rfl;rw [h4] at h3;unfold tyT wTy
 simp only [Te,Th] at h1;simp only [Ta,Te,Th];split
 ·exact mq94
 split
 ·omega
 exact mq94
def ZCn (d:Re):(reT d).length+4<=64 * wRe d:=by
 have h1:=Znl ([100,101,99,108,32]++(d.name++[40])) [41] d.fields;have hi:∀(b:Bool) (s:Bs),(if b then s else []).length<=s.length:=fun b s=>by cases b <;> simp
 have i1:=hi d.inn [32,105,110,112,117,116];have i2:=hi d.out [32,111,117,116,112,117,116];have i3:=hi d.inl [32,105,110,108,105,110,101];unfold reT wRe
 simp only [Ta,Te,Th] at h1 i1 i2 i3 |-;omega
def Znm (l:List Bs):(ZEc l).length<=2+64 * szS wBs l:=by
 have h1:=Za1 (T:=fun s:Bs=>s) (w:=wBs) (l:=l) fun x _=>by unfold wBs;omega
 rw [List.map_id'] at h1;unfold ZEc
 split
 ·simp
 exact mq94
def ZCo (i:Ini):(inT i).length+4<=64 * wIn i:=by
 have:=Znm i.types;unfold inT wIn
 exact mq94
def ZCp (o:Ov):(ovT o).length+4<=64 * wOv o:=by
 unfold ovT wOv
 exact mq94
mutual
def Znn:∀u:Un,ZiO u=true->(unT u).length+4<=64 * wUn u
 | .mk a b c d e f,h=>by
  simp only [ZiO,Tm] at h;have r1:=To.1 h.1;have h1:=Vh (T:=tyT) (w:=wTy) (l:=a) fun x _=>ZCm x
  have h2:=Vh (T:=reT) (w:=wRe) (l:=b) fun x _=>ZCn x
  have h3:=Vh (T:=fun r=>ruT r++[10]) (w:=wRu) (l:=c) fun x hx=>by
   have:=ZCj (r1 x hx);exact mq94
  have h4:=Zo8 d h.2;have h5:=Vh (T:=inT) (w:=wIn) (l:=e) fun x _=>ZCo x
  have h6:=Vh (T:=ovT) (w:=wOv) (l:=f) fun x _=>ZCp x
  rw [unT,wUn];simp only [Ta];omega
def ZCq:∀c:Co,ZtA c=true->(coT c).length+4<=64 * wCo c+64
 | .mk nm ps base tys u a,h=>by
  rw [ZtA] at h;have h1:=Znn u h;have h2:=Znm ps;have h3:=Znm tys;rw [coT,wCo];split
  ·exact mq94
  exact mq94
def Zo8:∀l:List Co,Zfq l=true->((ZAa l).flatten).length<=64 * Zyk l
 | [],h=>by rw [ZAa];simp
 | x::l,h=>by
  rw [Zfq,Tm] at h;have h1:=ZCq x h.1;have h2:=Zo8 l h.2;rw [ZAa,Zyk];simp only [Sb,Ta];omega
end
open Go.Proofs
variable {w0:World} {nG:Nat}
def ZwX (n:Nat):Zq:=fun args σ K=>match args,σ with
 | [.agg c],⟨[],[],0⟩=>∃pl x,c=(WI pl x).map .d/\((ZbN x=true->ZiO x=true)/\wUn x<=n/\n<=16777216/\noC x) /\
   ((ZbN x=false->K (.ret (.tuple [.d (.str []),.d (.int .i64 160)])) ⟨[],[],0⟩)/\(ZbN x=true->∀r,JA 65536 16384 Wp (unT x)=r->K (.ret (.tuple [.d (.str (UU (unT x) r).1),.d (.int .i64 (UU (unT x) r).2)])) ⟨[],[],0⟩))
 | _,_=>False
def ZFS {n:Nat}:OKw w0 nG [(23,Xh (Y3 WI) ZbN wUn n),(24,ZGU n),(26,ZbT),(25,ZoB),(27,ZtD)] 15 (ZwX n):=by
 refine pwo Tryz.func15 fun args σ K h=>?_
 unfold ZwX at h
 split at h
 ·obtain ⟨pl,⟨u1,u2,u3,u4,u5,u6⟩,rfl,⟨vz,hz,hn,hnc⟩,ha,hb⟩:=h;refine pwv [] 0 true ?_;refine ⟨pl,(.mk u1 u2 u3 u4 u5 u6),rfl,⟨hz,oM⟩,fun b cq=>?_⟩
  cases b with
  | false =>
   conv=>whnf
   exact ha cq
  | true =>
  have h1:=vz cq;have h2:=Znn _ h1;have hb:=hb cq;(conv=>whnf);refine ⟨[],unT (.mk u1 u2 u3 u4 u5 u6),rfl,⟨.inl rfl,rfl,rfl⟩,⟨pl,(.mk u1 u2 u3 u4 u5 u6),rfl,⟨by rw [ZGT,cq,h1];rfl,hz,oM,hnc⟩,rfl⟩,by simp only [Th];omega,fun p' jf=>?_⟩;obtain ⟨T,hT⟩:∃T,unT (.mk u1 u2 u3 u4 u5 u6)=T:=⟨_,rfl⟩
  rw [hT] at hb h2 |-;rcases jf with rfl | rfl
  all_goals
   conv=>whnf
   refine ⟨T,⟨rfl,rfl,rfl,iM,oM⟩,?_⟩;(conv=>whnf);refine ⟨oM,fun x hx=>?_⟩;have hb:=hb x hx
   cases x with
   | ok v L =>
    obtain ⟨v1,v2,v3,v4,v5,v6⟩:=v;unfold ZIF
    dsimp only;(conv=>whnf);refine ⟨T,⟨rfl,rfl,rfl,iM,oM⟩,?_⟩;(conv=>whnf);refine ⟨fun g=>absurd g dM,fun _=>wN ?_⟩;exact hb
   | err p c =>
   conv=>whnf
   refine ⟨T,⟨rfl,rfl,rfl,iM,oM⟩,?_⟩;(conv=>whnf);refine ⟨fun g=>wN ?_,fun g=>wN ?_⟩
   ·rw [UU,Tg oM] at hb;exact hb
   rw [UU,Tb oM] at hb;exact hb
 exact h.elim
def ZJw (hg:GlobOK w0 nG) (hN:NumOK w0 nG) (hL:LexC w0 nG) (n:Nat):PC w0 nG 15 (ZwX n) :=
 ZFS ⟨ZIO hL n,cWU hN hL n,Zhj,ZHz hg,ZBD,trivial⟩
def Zt3 {α:Type} (enc:Pl->α->List D) (c:Nat->α->Prop) (f:α->Bs×Nat) (n:Nat):Zq:=fun args σ K=>match args,σ with
 | [.agg cs],⟨[],[],0⟩=>∃pl e,cs=(enc pl e).map .d/\(c n e/\n<=16777216)/\∀s k,f e=(s,k)->K (.ret (.tuple [.d (.str s),.d (.int .i64 (k:Nat))])) ⟨[],[],0⟩
 | _,_=>False
def Zds (x:Un):Bs×Nat:=if ZbN x=true then UU (unT x) (JA 65536 16384 Wp (unT x)) else ([],160)
def ZdH (n:Nat) (x:Un):Prop:=ZiO x=true/\wUn x<=n/\(unT x).length<1073741824/\noC x
def ZFT (hg:GlobOK w0 nG) (hN:NumOK w0 nG) (hL:LexC w0 nG) (n:Nat):PC w0 nG 15 (Zt3 WI ZdH Zds n):=(ZJw hg hN hL n).weaken1 fun args σ K h=>by
 unfold Zt3 at h
 unfold ZwX
 split at h
 ·obtain ⟨pl,e,h1,⟨⟨h2,h3,h4,h6⟩,h5⟩,h⟩:=h;exact ⟨pl,e,h1,⟨fun _=>h2,h3,oM,h6⟩,fun g=>h _ _ (by rw [Zds,Tb (by rw [g];simp)]),fun g x hx=>h _ _ (by rw [Zds,Tg g,hx])⟩
 exact h.elim
def Zt4 {α:Type} (enc:Pl->α->List D) (sz:α->Nat) (bd:Int->Int) (m:Nat):Zq:=fun args σ K=>match args,σ with
 | [.agg c,.d (.int .i64 most)],⟨[],[],0⟩=>∃pl x B,c=(enc pl x).map .d/\((0<=most/\most<m)/\m<=1000000/\sz x<=B/\B<=1099511627776)/\∀r,0<=r->r<=bd most->K (.ret (.d (.int .i64 r))) ⟨[],[],0⟩
 | _,_=>False
def ZdI {α:Type} (enc:Pl->α->List D) (sz:α->Nat) (bd:Int->Int) (m:Nat):Zq:=fun args σ K=>match args,σ with
 | [.d (.sl r1),.d (.int .i64 most)],⟨[],[],0⟩=>∃pl l B,r1=l.map (enc pl)/\((0<=most/\most<m)/\m<=1000000/\szS sz l<=B/\B<=1099511627776)/\∀r,0<=r->r<=bd most->K (.ret (.d (.int .i64 r))) ⟨[],[],0⟩
 | _,_=>False
def bd2 (m:Int):Int:=2 * m+1
def bd3 (m:Int):Int:=3 * m+1
def bd5 (m:Int):Int:=5 * m+2
def ZFU {m:Nat}:OKw w0 nG [(12,spB (Zt4 Z7 szE bd2) m)] 12 (Zt4 Z7 szE bd2 m):=by
 refine pwo Tryz.func12 fun args σ K h=>?_
 unfold Zt4 at h
 split at h
 ·obtain ⟨pl,⟨a1,a2,a3,a4,a5⟩,B,rfl,⟨⟨vf,pi⟩,vg,hz,hB⟩,h⟩:=h
  rename_i most
  simp only [szE] at hz;have ir:(Zs pl a4).length=a4.length:=by rw [Zd,Tf]
  have hsz:=ZoC a4;unfold bd2 at h
  refine pwv [(3,⟨[6,5],[1,2],fun vs σ=>∃(i:Nat) (nn:Int),vs=[.d (.int .i64 i),.d (.int .i64 nn)]/\σ=⟨[.cells 59 ((Z7 pl (.mk a1 a2 a3 a4 a5)).map .d)],[],0⟩/\i<=a4.length/\1<=nn/\nn<=2 * most+1,fun vs _=>match vs with | [.d (.int _ i),_]=>((a4.length:Nat) - i:Int).toNat | _=>0⟩)] 0 false ?_
  (repeat (first | (refine oiO ?_;conv=>whnf) | (refine ⟨_,oM,bj,?_⟩;conv=>whnf)))
  refine ⟨⟨0,_,rfl,rfl,oM,oM,oM⟩,?_⟩;intro vs σ hI
  obtain ⟨i,nn,rfl,rfl,hi,dl,fe⟩:=hI;(conv=>whnf);refine ZJU (fun af=>?_) (fun af=>?_);rotate_left
  ·exact mq145
  have af:i<a4.length:=lzI ir af;(conv=>whnf);refine ZJU (fun iv=>?_) (fun iv=>?_);rotate_left
  ·exact mq145
  conv=>whnf
  obtain ⟨eA,hA⟩:∃e,a4[i]=e:=⟨_,rfl⟩
  have hg:=ZoD a4 i af;obtain ⟨b1,b2,b3,b4,b5⟩:=eA;rw [hA] at hg;have bj:(Zs pl a4)[((i:Nat):Int).toNat]?=some (Z7 pl (.mk b1 b2 b3 b4 b5)):=by rw [Zd];simp [af,hA]
  (repeat (first | (refine oiO ?_;conv=>whnf) | (refine ⟨_,oM,bj,?_⟩;conv=>whnf)))
  refine ⟨oM,pl,.mk b1 b2 b3 b4 b5,B,rfl,⟨⟨oM,oM⟩,oM,oM,hB⟩,fun r lv mg=>wN ?_⟩;unfold bd2 at mg
  refine Zl ?_;refine Zl ?_;refine ⟨⟨i+1,_,rfl,rfl,oM,oM,oM⟩,?_⟩;show ((a4.length:Nat) - ((i:Int)+1)).toNat<((a4.length:Nat) - (i:Int)).toNat;omega
 exact h.elim
def cZE:∀m,PC w0 nG 12 (Zt4 Z7 szE bd2 m)
 | 0=>ZFU ⟨ZV (Zg Tryz.func12 kR rfl),trivial⟩
 | m+1=>ZFU ⟨ZW (sp:=Zt4 Z7 szE bd2) (cZE m),trivial⟩
def ZFV {m:Nat} :PC w0 nG 8 (ZdI (fun _=>Zn) sz0 bd3 m):=by
 refine pwe Tryz.func8 fun args σ K h=>?_
 unfold ZdI at h
 split at h
 ·obtain ⟨pl,l,B,rfl,⟨⟨vf,pi⟩,vg,hz,hB⟩,h⟩:=h
  rename_i most
  have ir:(l.map Zn).length=l.length:=Tf ..;have hsz:=Zo (sz0 (α:=Fi)) l;unfold bd3 at h
  refine pwv [(3,⟨[6,5],[0,1],fun vs σ=>∃(i:Nat) (nn:Int),vs=[.d (.int .i64 i),.d (.int .i64 nn)]/\σ=⟨[],[],0⟩/\i<=l.length/\0<=nn/\nn<=3 * most+1,fun vs _=>match vs with | [.d (.int _ i),_]=>((l.length:Nat) - i:Int).toNat | _=>0⟩)] 0 false ?_;refine ⟨⟨0,0,rfl,rfl,oM,oM,oM⟩,?_⟩;intro vs σ hI
  obtain ⟨i,nn,rfl,rfl,hi,dl,fe⟩:=hI;(conv=>whnf);refine ZJU (fun af=>?_) (fun af=>?_);rotate_left
  ·exact mq145
  have af:i<l.length:=lzI ir af;(conv=>whnf);refine ZJU (fun iv=>?_) (fun iv=>?_);rotate_left
  ·exact mq145
  conv=>whnf
  obtain ⟨eA,hA⟩:∃e,l[i]=e:=⟨_,rfl⟩
  obtain ⟨b1,b2⟩:=eA;have bj:(l.map Zn)[((i:Nat):Int).toNat]?=some (Zn ⟨b1,b2⟩):=by simp [af,hA]
  (repeat (first | (refine oiO ?_;conv=>whnf) | (refine ⟨_,oM,bj,?_⟩;conv=>whnf)))
  exact mq191
 exact h.elim
def ZFW {m:Nat}:OKw w0 nG [(12,Zt4 Z7 szE bd2 m),(13,spB (ZdI XD szL bd2) m)] 13 (ZdI XD szL bd2 m):=by
 refine pwo Tryz.func13 fun args σ K h=>?_
 unfold ZdI at h
 split at h
 ·obtain ⟨pl,l,B,rfl,⟨⟨vf,pi⟩,vg,hz,hB⟩,h⟩:=h
  rename_i most
  have ir:(l.map (XD pl)).length=l.length:=Tf ..;have hsz:=Zo szL l;unfold bd2 at h
  refine pwv [(3,⟨[6,5],[0,1],fun vs σ=>∃(i:Nat) (nn:Int),vs=[.d (.int .i64 i),.d (.int .i64 nn)]/\σ=⟨[],[],0⟩/\i<=l.length/\0<=nn/\nn<=2 * most+1,fun vs _=>match vs with | [.d (.int _ i),_]=>((l.length:Nat) - i:Int).toNat | _=>0⟩),(7,⟨[7,5],[0,1,6],fun vs σ=>∃(i:Nat) (nn:Int),vs=[.d (.int .i64 i),.d (.int .i64 nn)]/\σ=⟨[],[],0⟩/\i<=B/\1<=nn/\nn<=2 * most+1,fun vs _=>match vs with | [.d (.int _ i),_]=>((B:Nat) - i:Int).toNat | _=>0⟩)] 0 false ?_;refine ⟨⟨0,0,rfl,rfl,oM,oM,oM⟩,?_⟩;intro vs σ hI
  obtain ⟨i,nn,rfl,rfl,hi,dl,fe⟩:=hI;(conv=>whnf);refine ZJU (fun af=>?_) (fun af=>?_);rotate_left
  ·exact mq145
  have af:i<l.length:=lzI ir af;(conv=>whnf);refine ZJU (fun iv=>?_) (fun iv=>?_);rotate_left
  ·exact mq145
  conv=>whnf
  obtain ⟨eA,hA⟩:∃e,l[i]=e:=⟨_,rfl⟩
  have hg:=Zu szL l i af;obtain ⟨b1,b2,ar,b4,b5⟩:=eA;rw [hA] at hg;simp only [szL,X2] at hg;have bj:(l.map (XD pl))[((i:Nat):Int).toNat]?=some (XD pl (.mk b1 b2 ar b4 b5)):=by simp [af,hA]
  have wu:(Zs pl ar).length=ar.length:=by rw [Zd,Tf]
  have hs4:=Zo szE ar
  (repeat (first | (refine oiO ?_;conv=>whnf) | (refine ⟨_,oM,bj,?_⟩;conv=>whnf)))
  refine ⟨⟨0,_,rfl,rfl,oM,oM,oM⟩,?_⟩;intro vs' σ' za
  obtain ⟨j,n2,rfl,rfl,hj,zb,zd⟩:=za;(conv=>whnf)
  (repeat (first | (refine oiO ?_;conv=>whnf) | (refine ⟨_,oM,bj,?_⟩;conv=>whnf)))
  refine ZJU (fun iw=>?_) (fun iw=>?_);rotate_left
  ·exact mq162
  have iw:j<ar.length:=lzI wu iw;(conv=>whnf);refine ZJU (fun rt=>?_) (fun rt=>?_);rotate_left
  ·exact mq162
  exact mq38
 exact h.elim
def cZL:∀m,PC w0 nG 13 (ZdI XD szL bd2 m)
 | 0=>ZFW ⟨cZE 0,ZV (Zg Tryz.func13 kR rfl),trivial⟩
 | m+1=>ZFW ⟨cZE _,ZW (sp:=ZdI XD szL bd2) (cZL m),trivial⟩
def ZFY {m:Nat}:OKw w0 nG [(12,Zt4 Z7 szE bd2 m),(13,ZdI XD szL bd2 m)] 9 (ZdI ZH Zdk bd2 m):=by
 refine pwo Tryz.func9 fun args σ K h=>?_
 unfold ZdI at h
 split at h
 ·obtain ⟨pl,l,B,rfl,⟨⟨vf,pi⟩,vg,hz,hB⟩,h⟩:=h
  rename_i most
  have ir:(l.map (ZH pl)).length=l.length:=Tf ..;have hsz:=Zo Zdk l;unfold bd2 at h
  refine pwv [(3,⟨[6,5],[0,1],fun vs σ=>∃(i:Nat) (nn:Int),vs=[.d (.int .i64 i),.d (.int .i64 nn)]/\σ=⟨[],[],0⟩/\i<=l.length/\0<=nn/\nn<=2 * most+1,fun vs _=>match vs with | [.d (.int _ i),_]=>((l.length:Nat) - i:Int).toNat | _=>0⟩),(7,⟨[7,5],[0,1,6],fun vs σ=>∃(i:Nat) (nn:Int),vs=[.d (.int .i64 i),.d (.int .i64 nn)]/\σ=⟨[],[],0⟩/\i<=B/\1<=nn/\nn<=2 * most+1,fun vs _=>match vs with | [.d (.int _ i),_]=>((B:Nat) - i:Int).toNat | _=>0⟩)] 0 false ?_;refine ⟨⟨0,0,rfl,rfl,oM,oM,oM⟩,?_⟩;intro vs σ hI
  obtain ⟨i,nn,rfl,rfl,hi,dl,fe⟩:=hI;(conv=>whnf);refine ZJU (fun af=>?_) (fun af=>?_);rotate_left
  ·exact mq145
  have af:i<l.length:=lzI ir af;(conv=>whnf);refine ZJU (fun iv=>?_) (fun iv=>?_);rotate_left
  ·exact mq145
  conv=>whnf
  obtain ⟨eA,hA⟩:∃e,l[i]=e:=⟨_,rfl⟩
  have hg:=Zu Zdk l i af;obtain ⟨b1,ar,b4,b5⟩:=eA;rw [hA] at hg;simp only [Zdk,X2] at hg;have bj:(l.map (ZH pl))[((i:Nat):Int).toNat]?=some (ZH pl (⟨b1,ar,b4,b5⟩:Ru)):=by simp [af,hA]
  have wu:(Zs pl ar).length=ar.length:=by rw [Zd,Tf]
  have hs4:=Zo szE ar
  (repeat (first | (refine oiO ?_;conv=>whnf) | (refine ⟨_,oM,bj,?_⟩;conv=>whnf)))
  refine ⟨⟨0,_,rfl,rfl,oM,oM,oM⟩,?_⟩;intro vs' σ' za
  obtain ⟨j,n2,rfl,rfl,hj,zb,zd⟩:=za;(conv=>whnf)
  (repeat (first | (refine oiO ?_;conv=>whnf) | (refine ⟨_,oM,bj,?_⟩;conv=>whnf)))
  refine ZJU (fun iw=>?_) (fun iw=>?_);rotate_left
  ·exact mq164
  have iw:j<ar.length:=lzI wu iw;(conv=>whnf);refine ZJU (fun rt=>?_) (fun rt=>?_);rotate_left
  ·exact mq164
  exact mq38
 exact h.elim
structure Pr where
 types:List Ty
 rels:List Re
 rules:List Ru
def Za2 (pl:Pl) (p:Pr):List D:=[.sl (p.types.map (Zv pl)),.sl (p.rels.map (ZO pl)),.sl (p.rules.map (ZH pl))]
def Zd4 (p:Pr):Nat:=1+szS ZqA p.types+szS ZmN p.rels+szS Zdk p.rules
def ZF0 {m:Nat}:OKw w0 nG [(8,ZdI (fun _=>Zn) sz0 bd3 m),(9,ZdI ZH Zdk bd2 m)] 4 (Zt4 Za2 Zd4 bd5 m):=by
 refine pwo Tryz.func4 fun args σ K h=>?_
 unfold Zt4 at h
 split at h
 ·obtain ⟨pl,⟨p1,p2,p3⟩,B,rfl,⟨⟨vf,pi⟩,vg,hz,hB⟩,h⟩:=h
  rename_i most
  simp only [Zd4] at hz;unfold bd5 at h
  have du:(p1.map (Zv pl)).length=p1.length:=Tf ..;have fc:(p2.map (ZO pl)).length=p2.length:=Tf ..;have lw:=Zo ZqA p1;have em:=Zo ZmN p2;refine pwv [(3,⟨[6,5],[1,2],fun vs σ=>∃(i:Nat) (nn:Int),vs=[.d (.int .i64 i),.d (.int .i64 nn)]/\σ=⟨[.cells 26 ((Za2 pl ⟨p1,p2,p3⟩).map .d)],[],0⟩/\i<=p1.length/\0<=nn/\nn<=5 * most+2,fun vs _=>match vs with | [.d (.int _ i),_]=>((p1.length:Nat) - i:Int).toNat | _=>0⟩),(10,⟨[8,5],[1,2,6,7],fun vs σ=>∃(i:Nat) (nn:Int) (b1:Nat) (b2 b3:Bs) (b4:List Fi) (b5:List Ca) (b6:Nat),vs=[.d (.int .i64 i),.d (.int .i64 nn)]/\σ=⟨[.cells 26 ((Za2 pl ⟨p1,p2,p3⟩).map .d),.cells 42 ((Zv pl ⟨b1,b2,b3,b4,b5,b6⟩).map .d)],[],0⟩/\(i<=b5.length/\szS ZlN b5<=B)/\0<=nn/\nn<=5 * most+2,fun vs _=>match vs with | [.d (.int _ i),_]=>((B:Nat) - i:Int).toNat | _=>0⟩),(14,⟨[9,5],[1,2],fun vs σ=>∃(i:Nat) (nn:Int),vs=[.d (.int .i64 i),.d (.int .i64 nn)]/\σ=⟨[.cells 26 ((Za2 pl ⟨p1,p2,p3⟩).map .d)],[],0⟩/\i<=p2.length/\0<=nn/\nn<=5 * most+2,fun vs _=>match vs with | [.d (.int _ i),_]=>((p2.length:Nat) - i:Int).toNat | _=>0⟩)] 0 false ?_;refine ⟨⟨0,0,rfl,rfl,oM,oM,oM⟩,?_⟩;intro vs σ hI
  obtain ⟨i,nn,rfl,rfl,hi,dl,fe⟩:=hI;(conv=>whnf);refine ZJU (fun af=>?_) (fun af=>?_);rotate_left
  ·exact mq9
  have af:i<p1.length:=lzI du af;(conv=>whnf);refine ZJU (fun iv=>?_) (fun iv=>?_);rotate_left
  ·exact mq9
  conv=>whnf
  obtain ⟨eA,hA⟩:∃e,p1[i]=e:=⟨_,rfl⟩
  have hg:=Zu ZqA p1 i af;obtain ⟨b1,b2,b3,b4,b5,b6⟩:=eA;rw [hA] at hg;simp only [ZqA] at hg;have bj:(p1.map (Zv pl))[((i:Nat):Int).toNat]?=some (Zv pl ⟨b1,b2,b3,b4,b5,b6⟩):=by simp [af,hA]
  (repeat (first | (refine oiO ?_;conv=>whnf) | (refine ⟨_,oM,bj,?_⟩;conv=>whnf)))
  refine ZJU (fun am=>wN ?_) (fun am=>wN ?_)
  ·(repeat (first | (refine oiO ?_;conv=>whnf) | (refine ⟨_,oM,bj,?_⟩;conv=>whnf)))
   refine ⟨pl,b4,B,rfl,⟨⟨oM,oM⟩,oM,oM,hB⟩,fun r lv mg=>wN ?_⟩;unfold bd3 at mg
   (repeat (first | (refine oiO ?_;conv=>whnf) | (refine ⟨_,oM,bj,?_⟩;conv=>whnf)))
   exact mq13
  exact mq13
 exact h.elim
def ZJx (m:Nat):PC w0 nG 4 (Zt4 Za2 Zd4 bd5 m):=ZF0 ⟨ZFV,ZFY ⟨cZE m,cZL m,trivial⟩,trivial⟩
def mvM {α:Type} (f:α->MV) (m:List (Bs×α)):List (Bs×MV):=m.map fun x=>(x.1,f x.2)
def mvI (n:Int):MV:=.one (.int .i64 n)
def mvB (b:Bool):MV:=.one (.bool b)
def mvC (c:Int×Int):MV:=.agg [.int .i64 c.1,.int .i64 c.2]
def ZX {α:Type} {f:α->MV} {k:Bs}:∀m:List (Bs×α),lkM k (mvM f m)=(lkM k m).map f
 | []=>rfl
 | (x,v)::l=>by
  have ih:=ZX (f:=f) (k:=k) l;simp only [mvM,Tz,lkM] at ih |-
  cases decide (k=x) with
  | true=>rfl
  | false=>exact ih
def UX {α:Type} {f:α->MV} {k:Bs} {v:α}:∀m:List (Bs×α),Y5 k (f v) (mvM f m)=mvM f (Y5 k v m)
 | []=>rfl
 | (x,u)::l=>by
  have ih:=UX (f:=f) (k:=k) (v:=v) l;simp only [mvM,Tz,Y5] at ih |-
  cases decide (k=x) with
  | true=>rfl
  | false=>simp only [ih];rfl
def Zno {α:Type} {f:α->MV} (m:List (Bs×α)):(mvM f m).length=m.length:=Tf ..
def Za3 {α:Type} {k s:Bs} {v:α}:∀m:List (Bs×α),lkM s (Y5 k v m)=if s=k then some v else lkM s m
 | []=>by simp only [Y5,lkM];by_cases h:s=k <;> simp [h]
 | (x,u)::l=>by
  have ih:=Za3 (k:=k) (s:=s) (v:=v) l;simp only [Y5]
  by_cases h:k=x
  ·subst h;rw [Sj rfl];simp only [lkM]
   by_cases g:s=k <;> simp [g]
  rw [decide_eq_false h];simp only [lkM,ih]
  by_cases g:s=x
  ·subst g;rw [Sj rfl];simp only;rw [Tb (fun e=>h e.symm)]
  rw [decide_eq_false g]
def putM_len {α:Type} {k:Bs} {v:α}:∀{m:List (Bs×α)},lkM k m=none->(Y5 k v m).length=m.length+1
 | [],_=>rfl
 | (x,u)::l,h=>by
  simp only [lkM] at h;simp only [Y5]
  cases hd:decide (k=x) with
  | true=>rw [hd] at h;cases h
  | false=>rw [hd] at h;simp only [Te,putM_len h]
def Zyw:Bs:=[110,117,109,98,101,114]
def ZGW:Bs:=[115,121,109,98,111,108]
def Zk2 (s:Bs):Bool:=decide (s=Zyw) || decide (s=ZGW)
def WM:Nat->List Bs->List (Bs×Int)->List (Bs×Int)
 | _,[],m=>m
 | i,s::l,m=>WM (i+1) l (if (lkM s m).isNone=true then Y5 s (i:Int) m else m)
def Xi (l:List Bs):List (Bs×Int):=WM 0 l []
def ZwY (p:Pr):List (Bs×Int):=Xi (p.types.map (·.name))
def JJ (p:Pr):List (Bs×Int):=Xi (p.rels.map (·.name))
def YN (i:Nat):Nat->List Ca->List (Bs×(Int×Int))->List (Bs×(Int×Int))
 | _,[],m=>m
 | k,c::l,m=>YN i (k+1) l (if (lkM c.name m).isNone=true then Y5 c.name ((i:Int),(k:Int)) m else m)
def Za4:Nat->List Ty->List (Bs×(Int×Int))->List (Bs×(Int×Int))
 | _,[],m=>m
 | i,t::l,m=>Za4 (i+1) l (YN i 0 t.cases m)
def XB (p:Pr):List (Bs×(Int×Int)):=Za4 0 p.types []
def WN:List Ty->List (Bs×Int)->List (Bs×Int)
 | [],m=>m
 | t::l,m=>WN l (if t.kind≠1/\(lkM t.name m).isNone=true then Y5 t.name (m.length:Int) m else m)
def Za5 (p:Pr):List (Bs×Int):=WN p.types [(Zyw,0),(ZGW,1)]
def Xj (p:Pr) (s:Bs):Option Bs:=match lkM s (ZwY p) with
 | none=>none
 | some i=>if Zk2 s=true then none else match p.types[i.toNat]? with
  | some t=>if t.kind=1/\t.base≠[] then some t.base else none
  | none=>none
def Um (p:Pr) (s:Bs):Bool:=(lkM s (ZwY p)).isSome || Zk2 s
def ZfL {s:Bs}:∀(l:List Bs) (i:Nat) (m:List (Bs×Int)) (n:Int),lkM s (WM i l m)=some n->lkM s m=some n\/∃k:Nat,n=i+k/\l[k]?=some s
 | [],i,m,n,h=>.inl h
 | x::l,i,m,n,h=>by
  rcases ZfL l (i+1) _ n h with h | ⟨k,h1,h2⟩
  ·split at h
   ·rw [Za3] at h;split at h
    ·rename_i e;cases h;exact .inr ⟨0,oM,by simp [e]⟩
    exact .inl h
   exact .inl h
  exact .inr ⟨k+1,oM,by simpa using h2⟩
def Zho {s:Bs} {l:List Bs} {n:Int} (h:lkM s (Xi l)=some n):∃k:Nat,n=k/\l[k]?=some s:=by
 rcases ZfL l 0 [] n h with h | ⟨k,h1,h2⟩
 ·cases h
 exact ⟨k,oM,h2⟩
def Zt5 {p:Pr} {s:Bs} {n:Int} (h:lkM s (ZwY p)=some n):∃(k:Nat) (t:Ty),n=k/\p.types[k]?=some t/\t.name=s:=by
 exact mq149
abbrev Zk3 (pl:Pl) (p:Pr) (b:Nat):List PV:=[.mp b,.mp (b+1),.mp (b+2),.mp (b+3),.d (.sl (p.types.map (Zv pl))),.d (.sl (p.rels.map (ZO pl))),.d (.sl (p.rules.map (ZH pl)))]
abbrev Zk4 (p:Pr):List Box:=[.dmap (mvM mvI (ZwY p)),.dmap (mvM mvI (JJ p)),.dmap (mvM mvI (Za5 p)),.dmap (mvM mvC (XB p))]
abbrev Zgz (pl:Pl) (p:Pr):List Box:=.cells 95 (Zk3 pl p 1)::Zk4 p
def BP (p:Pr):Prop:=Zd4 p<=1073741824
def BP.len {p:Pr} (h:BP p):p.types.length<=1073741824/\p.rels.length<=1073741824/\p.rules.length<=1073741824:=by
 unfold BP Zd4 at h
 have h1:=Zo ZqA p.types;have h2:=Zo ZmN p.rels;have h3:=Zo Zdk p.rules;omega
def Zi6 {α:Type} {f:α->Nat} {l:List α} {x:α} (h:x∈l):f x<szS f l:=by
 obtain ⟨i,hi,rfl⟩:=Sn h;exact Zu f l i hi
def BP.ty {p:Pr} (h:BP p) {t:Ty} (ht:t∈p.types):t.fields.length<=1073741824/\t.cases.length<=1073741824/\∀c∈t.cases,c.fields.length<=1073741824:=by
 unfold BP Zd4 at h
 have h1:=Zi6 (f:=ZqA) ht;have e1:ZqA t=1+szS sz0 t.fields+szS ZlN t.cases:=rfl;have h2:=Zo sz0 t.fields;have h3:=Zo ZlN t.cases;refine ⟨oM,oM,fun c hc=>?_⟩;have h4:=Zi6 (f:=ZlN) hc;have e2:ZlN c=1+szS sz0 c.fields:=rfl;have h5:=Zo sz0 c.fields;omega
def BP.re {p:Pr} (h:BP p) {d:Re} (hd:d∈p.rels):d.fields.length<=1073741824:=by
 unfold BP Zd4 at h
 have h1:=Zi6 (f:=ZmN) hd;have e1:ZmN d=1+szS sz0 d.fields:=rfl;have h2:=Zo sz0 d.fields;omega
def Za6 (p:Pr) (b:Bs):Nat->Bs->Bool
 | 0,_=>false
 | n+1,a=>if a=b then true else match Xj p a with
  | none=>false
  | some c=>Za6 p b n c
def Wt (p:Pr) (a b:Bs):Bool:=Za6 p b (p.types.length+1) a
def Zai (p:Pr):Nat->Bs->Option Bs
 | 0,_=>none
 | n+1,a=>match Xj p a with
  | none=>some a
  | some c=>Zai p n c
def ZwZ (p:Pr) (a:Bs):Option Bs:=Zai p (p.types.length+1) a
def JK (p:Pr):Nat->Bs->Nat
 | 0,_=>0
 | n+1,a=>match Xj p a with
  | none=>0
  | some c=>JK p n c+1
def Xr (p:Pr) (a:Bs):Int:=(lkM ((ZwZ p a).getD []) (Za5 p)).getD 0
def ZZ (p:Pr) (l:List Fi):List Int:=l.map fun f=>Xr p f.typ
def ZF1 (p:Pr):Prop:=∀s,(ZwZ p s).isSome=true
def Zhp {p:Pr}:∀{n m:Nat} {a r:Bs},Zai p n a=some r->n<=m->Zai p m a=some r
 | 0,_,_,_,h,_=>by cases h
 | n+1,0,_,_,_,h=>oM
 | n+1,m+1,a,r,h,am=>by
  simp only [Zai] at h |-;split at h
  ·exact h
  exact Zhp h oM
def Zw0 {p:Pr} {n:Nat} {a c r:Bs} (hb:Xj p a=some c) (h:Zai p n a=some r):∃m,n=m+1/\Zai p m c=some r:=by
 cases n with
 | zero=>cases h
 | succ m=>refine ⟨m,rfl,?_⟩;simpa only [Zai,hb] using h
def Zw1 {p:Pr} {a c r:Bs} (hb:Xj p a=some c) (h:ZwZ p a=some r):ZwZ p c=some r:=by
 obtain ⟨m,h1,h2⟩:=Zw0 hb h;exact Zhp h2 oM
def Zw2 {p:Pr} {a:Bs} (hb:Xj p a=none):ZwZ p a=some a:=by simp only [ZwZ,Zai,hb]
def Zo9 {p:Pr}:∀{n:Nat} {a c r:Bs},Zai p n a=some r->Xj p a=some c->∀m,n<=m->JK p m c<JK p m a
 | 0,_,_,_,h,_,_,_=>by cases h
 | n+1,a,c,r,h,hb,m,hm=>by
  obtain ⟨k,rfl⟩:∃k,m=k+1:=⟨m - 1,oM⟩
  simp only [Zai,hb] at h;have e:JK p (k+1) a=JK p k c+1:=by simp only [JK,hb]
  rw [e]
  cases hc:Xj p c with
  | none=>simp only [JK,hc];omega
  | some d =>
  have e2:JK p (k+1) c=JK p k d+1:=by simp only [JK,hc]
  rw [e2];have:=Zo9 h hc k oM;omega
def Zb2 (body:List PV->Pl->Pr->(PEnd->Prop)->Prop):Zq:=fun args σ K=>match args,σ with
 | .ptr 0 0::rest,⟨bx,[],0⟩=>∃pl p,bx=Zgz pl p/\BP p/\body rest pl p fun pe=>K pe ⟨bx,[],0⟩
 | _,_=>False
def Znp:Zq:=fun args σ K=>match args,σ with
 | [.d (.str s)],⟨[],[],0⟩=>∀b,Zk2 s=b->K (.ret (.d (.bool b))) ⟨[],[],0⟩
 | _,_=>False
def Zpa:PC w0 nG 76 Znp:=by
 refine pwe Tryz.func76 fun args σ K h=>?_
 unfold Znp at h
 split at h
 ·rename_i s
  refine pwv [] 0 false ?_;refine ZJU (fun h1=>wN ?_) (fun h1=>wN ?_)
  ·exact h _ (by simp [Zk2,show s=Zyw from h1])
  exact h _ (by simp [Zk2,show ¬s=Zyw from h1];rfl)
 exact h.elim
def Zhq:Zq:=Zb2 fun rest pl p K=>match rest with
 | [.d (.str s)]=>∀x,Xj p s=x->K (.ret (.tuple [.d (.str (x.getD [])),.d (.bool x.isSome)]))
 | _=>False
def Zt6:Tbl:=[(76,Znp)]
def ZCr (ht:TO w0 nG Zt6):PC w0 nG 36 Zhq:=by
 refine pwt ht Tryz.func36 fun args σ K h=>?_
 unfold Zhq Zb2 at h
 split at h
 ·obtain ⟨pl,p,rfl,hp,h⟩:=h;split at h
  ·rename_i s
   refine pwv [] 5 false ?_;refine ZJ2 (fun v hv=>?_) (fun hv=>?_);rotate_left
   ·rw [ZX,Option.map_eq_none_iff] at hv;(conv=>whnf);exact h none (by simp only [Xj,hv])
   rw [ZX] at hv;obtain ⟨n,hn,rfl⟩:=TF.1 hv;obtain ⟨k,⟨t1,t2,t3,t4,t5,t6⟩,rfl,ht,ax⟩:=Zt5 hn;have hk:p.types[(k:Int).toNat]?=some ⟨t1,t2,t3,t4,t5,t6⟩:=by rw [Tn];exact ht
   have hr:(p.types.map (Zv pl))[(k:Int).toNat]?=some (Zv pl ⟨t1,t2,t3,t4,t5,t6⟩):=by rw [Tk,hk];rfl
   conv=>whnf
   intro b hb
   cases b with
   | true =>
    conv=>whnf
    exact h none (by simp only [Xj,hn,hb,if_true])
   | false =>
   conv=>whnf
   refine ⟨_,oM,hr,wN ?_⟩;refine ZJX (fun hc=>wN ?_) (fun hc=>wN ?_)
   ·exact h none (by simp only [Xj,hn,hb,hk];rw [Tb sM,Tb];intro g;exact hc (by simp only [g.1];rfl))
   refine ⟨_,oM,hr,wN ?_⟩;refine ⟨_,oM,hr,wN ?_⟩;have dg:t1=1:=by have hc:(t1:Int)=1:=hc;omega
   cases t3 with
   | nil=>exact h none (by simp only [Xj,hn,hb,hk];rw [Tb sM,Tb sM])
   | cons x t3=>exact h (some (x::t3)) (by simp only [Xj,hn,hb,hk];rw [Tb sM,Tg ⟨dg,sM⟩])
  exact h.elim
 exact h.elim
def Zb3:Zq:=Zb2 fun rest pl p K=>match rest with
 | [.d (.str s)]=>∀b,Um p s=b->K (.ret (.d (.bool b)))
 | _=>False
def Zt7:OKw w0 nG Zt6 35 Zb3:=by
 refine pwo Tryz.func35 fun args σ K h=>?_
 unfold Zb3 Zb2 at h
 split at h
 ·obtain ⟨pl,p,rfl,hp,h⟩:=h;split at h
  ·rename_i s
   refine pwv [] 5 false ?_;refine ZJ2 (fun v hv=>?_) (fun hv=>wN ?_)
   ·rw [ZX] at hv;obtain ⟨n,hn,rfl⟩:=TF.1 hv;(conv=>whnf);exact h true (by simp [Um,hn])
   rw [ZX,Option.map_eq_none_iff] at hv;intro b hb
   conv=>whnf
   exact h b (by simp [Um,hv,hb])
  exact h.elim
 exact h.elim
def UY:Zq:=Zb2 fun rest pl p K=>match rest with
 | [.d (.str s)]=>ZF1 p/\∀n,Xr p s=n->K (.ret (.d (.int .i64 n)))
 | _=>False
def Zpb:Tbl:=[(36,Zhq)]
def Zt8:OKw w0 nG Zpb 77 UY:=by
 refine pwo Tryz.func77 fun args σ K h=>?_
 unfold UY Zb2 at h
 split at h
 ·obtain ⟨pl,p,rfl,hp,h⟩:=h;split at h
  ·rename_i s
   obtain ⟨he,h⟩:=h;obtain ⟨r,hr⟩:=Sw.1 (he s);refine pwv [(1,⟨[1],[0],fun vs σ=>∃a,vs=[.d (.str a)]/\σ=⟨Zgz pl p,[],0⟩/\ZwZ p a=some r,fun vs _=>match vs with | [.d (.str a)]=>JK p (p.types.length+1) a | _=>0⟩)] 5 false ?_;refine ⟨⟨s,rfl,rfl,hr⟩,?_⟩
   rintro vs σ1 ⟨a,rfl,rfl,ha⟩
   conv=>whnf
   refine ⟨pl,p,rfl,hp,fun x hx=>?_⟩
   cases x with
   | none =>
    have np:r=a:=by rw [Zw2 hx] at ha;exact (Option.some.inj ha).symm
    subst np;(conv=>whnf);refine ZJ2 (fun v hv=>?_) (fun hv=>wN ?_)
    ·rw [ZX] at hv;obtain ⟨n,hn,rfl⟩:=TF.1 hv;(conv=>whnf);exact h n (by simp [Xr,hr,hn])
    rw [ZX,Option.map_eq_none_iff] at hv;exact h 0 (by simp [Xr,hr,hv])
   | some c =>
   conv=>whnf
   exact ⟨⟨c,rfl,rfl,Zw1 hx ha⟩,Zo9 ha hx _ (Tw _)⟩
  exact h.elim
 exact h.elim
def Zi7:Zq:=Zb2 fun rest pl p K=>match rest with
 | [.d (.str a),.d (.str b)]=>∀x,Wt p a b=x->K (.ret (.d (.bool x)))
 | _=>False
def Zt9:OKw w0 nG Zpb 86 Zi7:=by
 refine pwo Tryz.func86 fun args σ K h=>?_
 unfold Zi7 Zb2 at h
 split at h
 ·obtain ⟨pl,p,rfl,hp,h⟩:=h;split at h
  ·rename_i s b
   have ab:=hp.len.1;have hl:(p.types.map (Zv pl)).length=p.types.length:=Tf ..;refine pwu [(2,⟨[1,16],[0,2,15],fun vs σ=>∃a j,vs=[.d (.str a),.d (.int .i64 j)]/\σ=⟨Zgz pl p,[],0⟩/\(0<=j/\j<=p.types.length+1)/\Za6 p b (p.types.length+1 - j.toNat) a=Wt p s b,
    fun vs _=>match vs with | [_,.d (.int _ j)]=>((p.types.length:Int)+1 - j).toNat | _=>0⟩)] 5 false ?_
   conv=>whnf
   refine Zl ?_;refine ⟨⟨s,0,rfl,rfl,⟨oM,oM⟩,rfl⟩,?_⟩
   rintro vs σ1 ⟨a,j,rfl,rfl,⟨so,hj1⟩,ha⟩
   conv=>whnf
   refine ZJU (fun hc=>?_) (fun hc=>?_);rotate_left
   ·conv=>whnf
    rw [show p.types.length+1 - j.toNat=0 by omega] at ha;exact h false (by rw [<- ha];rfl)
   obtain ⟨q,hq⟩:∃q,p.types.length+1 - j.toNat=q+1:=⟨p.types.length - j.toNat,oM⟩
   rw [hq] at ha;simp only [Za6] at ha;(conv=>whnf);refine ZJU (fun vz=>wN ?_) (fun vz=>wN ?_)
   ·rw [Tg vz] at ha;exact h true ha.symm
   rw [Tb vz] at ha;refine ⟨pl,p,rfl,hp,fun x hx=>?_⟩;rw [hx] at ha
   cases x with
   | none =>
    conv=>whnf
    exact h false ha.symm
   | some c =>
   conv=>whnf
   refine Zl ?_;refine ⟨⟨c,j+1,rfl,rfl,⟨oM,oM⟩,?_⟩,?_⟩
   ·rw [show p.types.length+1 - (j+1).toNat=q by omega];exact ha
   show ((p.types.length:Int)+1 - (j+1)).toNat<((p.types.length:Int)+1 - j).toNat;omega
  exact h.elim
 exact h.elim
abbrev Zua (pl:Pl) (p:Pr):List Box:=.cells 50 [.ptr 1 0]::.cells 95 (Zk3 pl p 2)::Zk4 p
def ZqW {α:Type} (enc:α->List D) (cond:α->Prop) (q:Pr->α->Bool):Zq:=fun args σ K=>match args,σ with
 | [.agg c,.ptr 0 0],⟨bx,[],0⟩=>∃pl p x,bx=Zua pl p/\c=(enc x).map .d/\(BP p/\cond x)/\∀b,q p x=b->K (.ret (.d (.bool b))) ⟨bx,[],0⟩
 | _,_=>False
def Znq {α:Type} (q:α->Bool):Nat->List α->Int
 | _,[]=>-1
 | i,x::l=>if q x=true then i else Znq q (i+1) l
def Zi8 {α:Type} {q:α->Bool}:∀(l:List α) (i:Nat),(0<=Znq q i l)↔l.any q=true
 | [],i=>by simp [Znq]
 | x::l,i=>by
  simp only [Znq,SZ]
  cases hq:q x with
  | true=>simp
  | false=>simpa using Zi8 l (i+1)
def Zhr {α:Type} (clo:FuncId) (enc:α->List D) (cond:α->Prop) (q:Pr->α->Bool):Zq:=fun args σ K=>match args,σ with
 | [.d (.sl rows),.func g [] [.ptr 0 0]],⟨bx,[],0⟩=>∃pl p l,bx=Zua pl p/\rows=l.map enc/\(g=clo/\BP p/\l.length<=1073741824/\∀x∈l,cond x)/\∀i,Znq (q p) 0 l=i->K (.ret (.d (.int .i64 i))) ⟨bx,[],0⟩
 | _,_=>False
def Zhs {α:Type} (clo:FuncId) (enc:α->List D) (cond:α->Prop) (q:Pr->α->Bool):Zq:=fun args σ K=>match args,σ with
 | [.d (.sl rows),.func g [] [.ptr 0 0]],⟨bx,[],0⟩=>∃pl p,∃l:List α,bx=Zua pl p/\rows=l.map enc/\(g=clo/\BP p/\l.length<=1073741824/\∀x∈l,cond x)/\∀b,l.any (q p)=b->K (.ret (.d (.bool b))) ⟨bx,[],0⟩
 | _,_=>False
def Uo (p:Pr) (l:List Fi):Bool:=!(l.any fun f=>!Um p f.typ)
def ZcR:{α:Type}->α->Prop:=fun _=>True
def Zht (c:Ca):Prop:=c.fields.length<=1073741824
def Zw4:OKw w0 nG [(35,Zb3)] 75 (ZqW Zn ZcR (fun p (f:Fi)=>!Um p f.typ)):=by
 refine pwo Tryz.func75 fun args σ K h=>?_
 unfold ZqW at h
 split at h
 ·obtain ⟨pl,p,⟨f1,f2⟩,rfl,rfl,⟨hp,vh⟩,h⟩:=h;refine pwv [] 6 false ?_;refine ⟨pl,p,rfl,hp,fun b hb=>wN ?_⟩;exact h _ (by simp only [hb])
 exact h.elim
def Zw6:OKw w0 nG [(75,ZqW Zn ZcR (fun p (f:Fi)=>!Um p f.typ))] 140 (Zhr 75 Zn ZcR (fun p (f:Fi)=>!Um p f.typ)):=by
 refine pwo Tryz.func140 fun args σ K h=>?_
 unfold Zhr at h
 split at h
 ·obtain ⟨pl,p,l,rfl,rfl,⟨rfl,hp,aa,li⟩,h⟩:=h;have hl:(l.map Zn).length=l.length:=Tf ..;refine pwu [(2,⟨[8],[0,1,7],fun vs σ=>∃j:Nat,vs=[.d (.int .i64 j)]/\σ=⟨Zua pl p,[],0⟩/\j<=l.length/\Znq ((fun p (f:Fi)=>!Um p f.typ) p) j (l.drop j)=Znq ((fun p (f:Fi)=>!Um p f.typ) p) 0 l,
   mu1 l.length⟩)] 6 false ?_
  conv=>whnf
  refine ⟨⟨0,rfl,rfl,oM,rfl⟩,?_⟩
  rintro vs σ1 ⟨j,rfl,rfl,hj,ha⟩
  conv=>whnf
  refine ZJU (fun hc=>?_) (fun hc=>?_);rotate_left
  ·conv=>whnf
   rw [TA oM] at ha;exact h (-1) ha.symm
  have ab:j<l.length:=oM;rw [Tq ab] at ha;have hr:(l.map Zn)[(j:Int).toNat]?=some (Zn l[j]):=by rw [Tn,Tk,Tc ab];rfl
  have vh:=li _ (TM ab);generalize l[j]=x at ha hr vh;obtain ⟨f1,f2⟩:=x;exact mq198
 exact h.elim
def Zw8:OKw w0 nG [(140,Zhr 75 Zn ZcR (fun p (f:Fi)=>!Um p f.typ))] 74 (Zhs 75 Zn ZcR (fun p (f:Fi)=>!Um p f.typ)):=by
 refine pwo Tryz.func74 fun args σ K h=>?_
 exact mq71
def ZfM:Zq:=Zb2 fun rest pl p K=>match rest with
 | [.d (.sl rows)]=>∃l:List Fi,rows=l.map Zn/\l.length<=1073741824/\∀b,Uo p l=b->K (.ret (.d (.bool b)))
 | _=>False
def Zxa:OKw w0 nG [(74,Zhs 75 Zn ZcR (fun p (f:Fi)=>!Um p f.typ))] 34 ZfM:=by
 refine pwo Tryz.func34 fun args σ K h=>?_
 unfold ZfM Zb2 at h
 split at h
 ·obtain ⟨pl,p,rfl,hp,h⟩:=h;split at h
  ·obtain ⟨l,rfl,aa,h⟩:=h;refine pwv [] 5 false ?_;refine ⟨pl,p,l,rfl,rfl,⟨rfl,hp,aa,fun _ _=>trivial⟩,fun b hb=>wN ?_⟩;exact h _ (by simp only [Uo,hb])
  exact h.elim
 exact h.elim
def Zxc:OKw w0 nG [(34,ZfM)] 33 (ZqW Zy Zht (fun p (c:Ca)=>!Uo p c.fields)):=by
 refine pwo Tryz.func33 fun args σ K h=>?_
 unfold ZqW at h
 split at h
 ·obtain ⟨pl,p,⟨c1,c2⟩,rfl,rfl,⟨hp,vh⟩,h⟩:=h;refine pwv [] 6 false ?_;refine ⟨pl,p,rfl,hp,c2,rfl,vh,fun b hb=>wN ?_⟩;exact h _ (by simp only [hb])
 exact h.elim
def Zxe:OKw w0 nG [(33,ZqW Zy Zht (fun p (c:Ca)=>!Uo p c.fields))] 73 (Zhr 33 Zy Zht (fun p (c:Ca)=>!Uo p c.fields)):=by
 refine pwo Tryz.func73 fun args σ K h=>?_
 unfold Zhr at h
 split at h
 ·obtain ⟨pl,p,l,rfl,rfl,⟨rfl,hp,aa,li⟩,h⟩:=h;have hl:(l.map Zy).length=l.length:=Tf ..;refine pwu [(2,⟨[8],[0,1,7],fun vs σ=>∃j:Nat,vs=[.d (.int .i64 j)]/\σ=⟨Zua pl p,[],0⟩/\j<=l.length/\Znq ((fun p (c:Ca)=>!Uo p c.fields) p) j (l.drop j)=Znq ((fun p (c:Ca)=>!Uo p c.fields) p) 0 l,
   mu1 l.length⟩)] 6 false ?_
  conv=>whnf
  refine ⟨⟨0,rfl,rfl,oM,rfl⟩,?_⟩
  rintro vs σ1 ⟨j,rfl,rfl,hj,ha⟩
  conv=>whnf
  refine ZJU (fun hc=>?_) (fun hc=>?_);rotate_left
  ·conv=>whnf
   rw [TA oM] at ha;exact h (-1) ha.symm
  have ab:j<l.length:=oM;rw [Tq ab] at ha;have hr:(l.map Zy)[(j:Int).toNat]?=some (Zy l[j]):=by rw [Tn,Tk,Tc ab];rfl
  have vh:=li _ (TM ab);generalize l[j]=x at ha hr vh;obtain ⟨c1,c2⟩:=x;exact mq198
 exact h.elim
def Zxg:OKw w0 nG [(73,Zhr 33 Zy Zht (fun p (c:Ca)=>!Uo p c.fields))] 32 (Zhs 33 Zy Zht (fun p (c:Ca)=>!Uo p c.fields)):=by
 refine pwo Tryz.func32 fun args σ K h=>?_
 exact mq71
def Up (l:List Int):List (List D):=l.map fun n=>[.int .i64 n]
def Zb4:Zq:=Zb2 fun rest pl p K=>match rest with
 | [.d (.sl rows)]=>∃l:List Fi,rows=l.map Zn/\(ZF1 p/\l.length<=1073741824)/\K (.ret (.d (.sl (Up (ZZ p l)))))
 | _=>False
def ZqY (ht:TO w0 nG [(77,UY)]):PC w0 nG 141 Zb4:=by
 refine pwt ht Tryz.func141 fun args σ K h=>?_
 unfold Zb4 Zb2 at h
 split at h
 ·obtain ⟨pl,p,rfl,hp,h⟩:=h;split at h
  ·obtain ⟨l,rfl,⟨he,aa⟩,h⟩:=h;have hl:(l.map Zn).length=l.length:=Tf ..;refine pwu [(3,⟨[5,10],[0,8,9],fun vs σ=>∃j:Nat,vs=[.sl 0 3 (Up (ZZ p (l.take j))),.d (.int .i64 j)]/\σ=⟨Zgz pl p,[0],1⟩/\j<=l.length,
    mu2 l.length⟩)] 5 false ?_
   conv=>whnf
   refine ⟨⟨0,rfl,rfl,oM⟩,?_⟩
   rintro vs σ1 ⟨j,rfl,rfl,hj⟩
   conv=>whnf
   refine ZJU (fun hc=>?_) (fun hc=>?_);rotate_left
   ·conv=>whnf
    rw [List.take_of_length_le oM];exact h
   have ab:j<l.length:=oM;have ht:ZZ p (l.take (j+1))=ZZ p (l.take j)++[Xr p l[j].typ]:=by simp only [ZZ,List.take_succ,Tc ab,Option.toList_some,Su,Tz,TN]
   have hr:(l.map Zn)[(j:Int).toNat]?=some (Zn l[j]):=by rw [Tn,Tk,Tc ab];rfl
   have hlr:(Up (ZZ p (l.take j))).length=j:=by simp [Up,ZZ];omega
   generalize l[j]=x at ht hr;obtain ⟨f1,f2⟩:=x;(conv=>whnf);refine ⟨_,oM,hr,wN ?_⟩;refine ⟨pl,p,rfl,hp,he,fun n hn=>wN ?_⟩;refine ⟨fun r hr=>by simp at hr;subst hr;rfl,?_,?_,?_⟩
   ·show ((Up (ZZ p (l.take j))).length+1) * 8<=2 ^ 47;omega
   ·show (Up (ZZ p (l.take j))).length+1<=2 ^ 47;omega
   conv=>whnf
   refine Zl ?_;refine ⟨⟨j+1,?_,rfl,oM⟩,?_⟩
   ·rw [ht,hn];simp only [Up,Su,Tz,TN];rfl
   show ((l.length:Int) - ((j:Int)+1)).toNat<((l.length:Int) - (j:Int)).toNat;omega
  exact h.elim
 exact h.elim
def UZ {s:Bs}:∀(l:List Bs) (i:Nat) (m:List (Bs×Int)),WM i (l++[s]) m=if (lkM s (WM i l m)).isNone=true then Y5 s ((i:Int)+l.length) (WM i l m) else WM i l m
 | [],i,m=>by simp [WM]
 | x::l,i,m=>by
  simp only [Tp,WM,UZ l (i+1),Te];rw [show ((i+1:Nat):Int)+(l.length:Int)=(i:Int)+((l.length+1:Nat):Int) by omega]
  try rfl
def J7 {α:Type} (enc:Pl->α->List D) (nm:α->Bs):Zq:=fun args σ K=>match args,σ with
 | [.agg c],⟨[],[],0⟩=>∃pl x,c=(enc pl x).map .d/\K (.ret (.d (.str (nm x)))) ⟨[],[],0⟩
 | _,_=>False
def J8 {α:Type} (clo:FuncId) (enc:Pl->α->List D) (nm:α->Bs):Zq:=fun args σ K=>match args,σ with
 | [.d (.sl rows),.func g [] []],⟨[],[],0⟩=>∃pl,∃l:List α,rows=l.map (enc pl)/\(g=clo/\l.length<=1073741824)/\K (.ret (.mp 0)) ⟨[.dmap (mvM mvI (Xi (l.map nm)))],[],0⟩
 | _,_=>False
def Znr:PC w0 nG 29 (J7 Zv (·.name)):=by
 refine pwe Tryz.func29 fun args σ K h=>?_
 exact mq121
def Znt:OKw w0 nG [(29,J7 Zv (·.name))] 28 (J8 29 Zv (·.name)):=by
 refine pwo Tryz.func28 fun args σ K h=>?_
 unfold J8 at h
 split at h
 ·obtain ⟨pl,l,rfl,⟨rfl,aa⟩,h⟩:=h;have hl:(l.map (Zv pl)).length=l.length:=Tf ..;refine pwu [(3,⟨[13],[1,5,11,12],fun vs σ=>∃j:Nat,vs=[.d (.int .i64 j)]/\σ=⟨[.dmap (mvM mvI (Xi ((l.take j).map (·.name))))],[],0⟩/\j<=l.length,
   mu1 l.length⟩)] 1 false ?_
  conv=>whnf
  refine ⟨⟨0,rfl,rfl,oM⟩,?_⟩
  rintro vs σ1 ⟨j,rfl,rfl,hj⟩
  conv=>whnf
  refine ZJU (fun hc=>?_) (fun hc=>?_);rotate_left
  ·conv=>whnf
   rw [List.take_of_length_le oM];exact h
  have ab:j<l.length:=oM;have hs:Xi ((l.take (j+1)).map (·.name))=if (lkM l[j].name (Xi ((l.take j).map (·.name)))).isNone=true then Y5 l[j].name (j:Int) (Xi ((l.take j).map (·.name))) else Xi ((l.take j).map (·.name)):=by
   exact mq111
  have hr:(l.map (Zv pl))[(j:Int).toNat]?=some (Zv pl l[j]):=by rw [Tn,Tk,Tc ab];rfl
  exact mq31
 exact h.elim
def Znu:PC w0 nG 31 (J7 ZO (·.name)):=by
 refine pwe Tryz.func31 fun args σ K h=>?_
 exact mq121
def Znw:OKw w0 nG [(31,J7 ZO (·.name))] 30 (J8 31 ZO (·.name)):=by
 refine pwo Tryz.func30 fun args σ K h=>?_
 unfold J8 at h
 split at h
 ·obtain ⟨pl,l,rfl,⟨rfl,aa⟩,h⟩:=h;have hl:(l.map (ZO pl)).length=l.length:=Tf ..;refine pwu [(3,⟨[13],[1,5,11,12],fun vs σ=>∃j:Nat,vs=[.d (.int .i64 j)]/\σ=⟨[.dmap (mvM mvI (Xi ((l.take j).map (·.name))))],[],0⟩/\j<=l.length,
   mu1 l.length⟩)] 1 false ?_
  conv=>whnf
  refine ⟨⟨0,rfl,rfl,oM⟩,?_⟩
  rintro vs σ1 ⟨j,rfl,rfl,hj⟩
  conv=>whnf
  refine ZJU (fun hc=>?_) (fun hc=>?_);rotate_left
  ·conv=>whnf
   rw [List.take_of_length_le oM];exact h
  have ab:j<l.length:=oM;have hs:Xi ((l.take (j+1)).map (·.name))=if (lkM l[j].name (Xi ((l.take j).map (·.name)))).isNone=true then Y5 l[j].name (j:Int) (Xi ((l.take j).map (·.name))) else Xi ((l.take j).map (·.name)):=by
   exact mq111
  have hr:(l.map (ZO pl))[(j:Int).toNat]?=some (ZO pl l[j]):=by rw [Tn,Tk,Tc ab];rfl
  exact mq31
 exact h.elim
def Zdt {i:Nat} {c:Ca}:∀(l:List Ca) (k:Nat) (m:List (Bs×(Int×Int))),YN i k (l++[c]) m=if (lkM c.name (YN i k l m)).isNone=true then Y5 c.name ((i:Int),((k+l.length:Nat):Int)) (YN i k l m) else YN i k l m
 | [],k,m=>rfl
 | x::l,k,m=>by
  simp only [Tp,YN,Zdt l (k+1),Te];rw [show k+1+l.length=k+(l.length+1) by omega]
  try rfl
def Zdu {t:Ty}:∀(l:List Ty) (i:Nat) (m:List (Bs×(Int×Int))),Za4 i (l++[t]) m=YN (i+l.length) 0 t.cases (Za4 i l m)
 | [],i,m=>rfl
 | x::l,i,m=>by
  simp only [Tp,Za4,Zdu l (i+1),Te];rw [show i+1+l.length=i+(l.length+1) by omega]
def Zb5 {t:Ty}:∀(l:List Ty) (m:List (Bs×Int)),WN (l++[t]) m=if t.kind≠1/\(lkM t.name (WN l m)).isNone=true then Y5 t.name ((WN l m).length:Int) (WN l m) else WN l m
 | [],m=>rfl
 | x::l,m=>by simp only [Tp,WN,Zb5 l];rfl
abbrev Zub (pl:Pl) (p:Pr):List PV:=[.d (.sl (p.types.map (Zv pl))),.d (.sl (p.rels.map (ZO pl))),.d (.sl (p.rules.map (ZH pl)))]
abbrev Zuc (pl:Pl) (p:Pr) (cs:List (Bs×(Int×Int))) (sh:List (Bs×Int)):List Box:=[.cells 26 (Zub pl p),.dmap (mvM mvC cs),.dmap (mvM mvI sh),
 .cells 95 ([.mp 4,.mp 5,.mp 2,.mp 1]++Zub pl p),.dmap (mvM mvI (ZwY p)),.dmap (mvM mvI (JJ p))]
def Zd5:Zq:=fun args σ K=>match args,σ with
 | [.agg c],⟨[],[],0⟩=>∃pl p,c=(Za2 pl p).map .d/\BP p/\K (.ret (.ptr 3 0)) ⟨Zuc pl p (XB p) (Za5 p),[],0⟩
 | _,_=>False
def Zk5:Tbl:=[(28,J8 29 Zv (·.name)),(30,J8 31 ZO (·.name))]
abbrev Znx (p:Pr) (j:Nat):List (Bs×(Int×Int)):=Za4 0 (p.types.take j) []
abbrev ZqZ (p:Pr) (j:Nat):List (Bs×Int):=WN (p.types.take j) [(Zyw,0),(ZGW,1)]
def Zud (ht:TO w0 nG Zk5):PC w0 nG 16 Zd5:=by
 refine VI ZR mixed (tbl:=Zk5) ht Tryz.func16 rfl kR kR ?_;intro args σ K h
 unfold Zd5 at h
 split at h
 ·obtain ⟨pl,p,rfl,hp,h⟩:=h;have aa:=hp.len;have hl:(p.types.map (Zv pl)).length=p.types.length:=Tf ..;refine ⟨Zr [(5,⟨[33],[3,31,32],fun vs σ=>∃j:Nat,vs=[.d (.int .i64 j)]/\σ=⟨Zuc pl p (Znx p j) (ZqZ p j),[],0⟩/\j<=p.types.length,
    fun vs _=>match vs with | [.d (.int _ j)]=>((p.types.length:Int) - j).toNat | _=>0⟩),
   (8,⟨[41],[3,4,5,31,32,33,39,40],fun vs σ=>∃(j k:Nat) (t:Ty),vs=[.ptr 3 0,.d (.int .i64 j),.ptr 6 0,.d (.sl (p.types.map (Zv pl))),.d (.int .i64 (p.types.map (Zv pl)).length),.d (.int .i64 j),.d (.sl (t.cases.map Zy)),.d (.int .i64 (t.cases.map Zy).length),.d (.int .i64 k)] /\
     σ=⟨Zuc pl p (YN j 0 (t.cases.take k) (Znx p j)) (ZqZ p j)++[.cells 42 ((Zv pl t).map .d)],[],0⟩/\k<=t.cases.length/\p.types[j]?=some t/\t.cases.length<=1073741824,
    fun vs _=>match vs with | [_,_,_,_,_,_,_,.d (.int _ n),.d (.int _ k)]=>(n - k).toNat | _=>0⟩)],Wk [],YG [8],6,false,sM,Td rfl,?_⟩
  conv=>whnf
  refine ⟨pl,p.types,rfl,⟨rfl,aa.1⟩,wN ?_⟩;refine ⟨pl,p.rels,rfl,⟨rfl,aa.2.1⟩,wN ?_⟩;refine ⟨⟨0,rfl,rfl,oM⟩,?_⟩
  rintro vs σ1 ⟨j,rfl,rfl,hj⟩
  conv=>whnf
  refine ZJU (fun hc=>?_) (fun hc=>?_);rotate_left
  ·have e1:Znx p j=XB p:=by unfold Znx;rw [List.take_of_length_le oM];rfl
   have e2:ZqZ p j=Za5 p:=by unfold ZqZ;rw [List.take_of_length_le oM];rfl
   conv=>whnf
   rw [<- e1,<- e2] at h;exact h
  have ab:j<p.types.length:=oM;have cp:p.types.take (j+1)=p.types.take j++[p.types[j]]:=by rw [List.take_add_one,Tc ab];rfl
  have dk:Znx p (j+1)=YN j 0 p.types[j].cases (Znx p j):=by unfold Znx;rw [cp,Zdu,SO,Nat.min_eq_left oM,Se]
  have kl:ZqZ p (j+1)=if p.types[j].kind≠1/\(lkM p.types[j].name (ZqZ p j)).isNone=true then Y5 p.types[j].name ((ZqZ p j).length:Int) (ZqZ p j) else ZqZ p j:=by unfold ZqZ;rw [cp,Zb5]
  have ht:p.types[j]?=some p.types[j]:=Tc ab;have ox:=(hp.ty (TM ab)).2.1;have hr:(p.types.map (Zv pl))[(j:Int).toNat]?=some (Zv pl p.types[j]):=by rw [Tn,Tk,ht];rfl
  generalize p.types[j]=t at dk kl ht hr ox;obtain ⟨t1,t2,t3,t4,t5,t6⟩:=t;have vd:(t5.map Zy).length=t5.length:=Tf ..;(conv=>whnf);refine ⟨_,oM,hr,wN ?_⟩;refine ⟨⟨j,0,⟨t1,t2,t3,t4,t5,t6⟩,rfl,rfl,oM,ht,ox⟩,?_⟩
  rintro vs σ2 ⟨j',k,t',ca,rfl,hk,jz,-⟩
  have ej:(some (PV.d (.int .i64 (j:Int))):Option PV)=some (.d (.int .i64 (j':Int))):=congrArg (fun l:List PV=>l[5]?) ca;obtain rfl:j=j':=by have ej:=Option.some.inj ej;injection ej with ej;injection ej with _ ej;omega
  obtain rfl:(⟨t1,t2,t3,t4,t5,t6⟩:Ty)=t':=Option.some.inj (ht.symm.trans jz);have ca:vs=[.d (.int .i64 k)]:=congrArg (List.drop 8) ca;subst ca;(conv=>whnf);refine ZJU (fun bw=>?_) (fun bw=>?_)
  ·have av:k<t5.length:=by have bw:(k:Int)<((t5.map Zy).length:Int):=bw;omega
   have o9:YN j 0 (t5.take (k+1)) (Znx p j)=if (lkM t5[k].name (YN j 0 (t5.take k) (Znx p j))).isNone=true then Y5 t5[k].name ((j:Int),(k:Int)) (YN j 0 (t5.take k) (Znx p j)) else YN j 0 (t5.take k) (Znx p j):=by
    rw [List.take_add_one,Tc av];show YN j 0 (t5.take k++[t5[k]]) _=_;rw [Zdt,SO,Nat.min_eq_left oM,Se]
   have cu:(t5.map Zy)[(k:Int).toNat]?=some (Zy t5[k]):=by rw [Tn,Tk,Tc av];rfl
   generalize t5[k]=c at o9 cu;obtain ⟨c1,c2⟩:=c;(conv=>whnf);refine ⟨_,oM,cu,wN ?_⟩;refine ZJ2 (fun v hv=>?_) (fun hv=>wN ?_)
   ·rw [ZX] at hv;obtain ⟨n,hn,rfl⟩:=TF.1 hv;rw [Tb (by rw [show lkM _ _=some n from hn];simp)] at o9;(conv=>whnf)
    (repeat (refine ⟨rfl,?_⟩;conv=>whnf))
    refine Zl ?_;exact ⟨⟨j,k+1,⟨t1,t2,t3,t4,t5,t6⟩,rfl,by simp only [o9];rfl,by simp only;omega,ht,ox⟩,by show (((t5.map Zy).length:Int) - ((k:Int)+1)).toNat<(((t5.map Zy).length:Int) - (k:Int)).toNat;omega⟩
   rw [ZX,Option.map_eq_none_iff] at hv;rw [Tg (by rw [show lkM _ _=none from hv];rfl)] at o9;have e:mvM mvC (YN j 0 (t5.take (k+1)) (Znx p j))=Y5 c1 (.agg [.int .i64 j,.int .i64 k]) (mvM mvC (YN j 0 (t5.take k) (Znx p j))):=by rw [o9,<- UX];rfl
   (repeat (refine ⟨rfl,?_⟩;conv=>whnf))
   refine Zl ?_;exact ⟨⟨j,k+1,⟨t1,t2,t3,t4,t5,t6⟩,rfl,by rw [<- e];rfl,by simp only;omega,ht,ox⟩,by show (((t5.map Zy).length:Int) - ((k:Int)+1)).toNat<(((t5.map Zy).length:Int) - (k:Int)).toNat;omega⟩
  have kh:k=t5.length:=by have bw:¬(k:Int)<((t5.map Zy).length:Int):=bw;have hk:k<=t5.length:=hk;omega
  subst kh;have e1:Znx p (j+1)=YN j 0 (t5.take t5.length) (Znx p j):=by rw [dk,Sp]
  conv=>whnf
  refine ZJ2 (fun v hv=>?_) (fun hv=>wN ?_)
  ·rw [ZX] at hv;obtain ⟨n,hn,rfl⟩:=TF.1 hv;rw [Tb (by rw [show lkM _ _=some n from hn];simp)] at kl;(conv=>whnf);refine ZJX (fun ei=>wN ?_) (fun ei=>wN ?_)
   ·exact mq62
   exact mq62
  rw [ZX,Option.map_eq_none_iff] at hv;refine ZJX (fun ei=>wN ?_) (fun ei=>wN ?_)
  ·rw [Tg ⟨fun g=>ei (by simp only [show t1=1 from g];rfl),by rw [show lkM _ _=none from hv];rfl⟩] at kl;have e2:mvM mvI (ZqZ p (j+1))=Y5 t2 (.one (.int .i64 ((mvM mvI (ZqZ p j)).length:Int))) (mvM mvI (ZqZ p j)):=by rw [kl,<- UX,Zno];rfl
   (repeat (refine ⟨rfl,?_⟩;conv=>whnf))
   refine Zl ?_;exact ⟨⟨j+1,rfl,by rw [e1,<- e2];rfl,oM⟩,by show ((p.types.length:Int) - ((j:Int)+1)).toNat<((p.types.length:Int) - (j:Int)).toNat;omega⟩
  rw [Tb (fun g=>g.1 (by have ei:(t1:Int)=1:=ei;show t1=1;omega))] at kl;exact mq62
 exact h.elim
abbrev BM:=List (Bs×Bool)
def has (k:Bs) (m:BM):Bool:=(lkM k m).getD false
def ZCs:List Ca->Bool->BM->Bool×BM
 | [],b,m=>(b,m)
 | c::l,b,m=>ZCs l (b || has c.name m) (Y5 c.name true m)
def Zb6:List Ty->BM->BM->Option Nat
 | [],_,_=>none
 | t::l,n,m=>if (ZCs t.cases (has t.name n) m).1=true then some t.at' else Zb6 l (Y5 t.name true n) (ZCs t.cases (has t.name n) m).2
def ZgA (p:Pr) (t:Ty):Bool:=t.cases.any (fun c=>!Uo p c.fields) || (!Uo p t.fields || (decide (t.kind=1) && !Um p t.base))
def ZdJ (p:Pr):List Ty->Option Nat
 | []=>none
 | t::l=>if ZgA p t=true then some t.at' else ZdJ p l
def Zay (p:Pr) (s:Bs):Nat->Bs->Bool
 | 0,_=>false
 | n+1,a=>match Xj p a with
  | none=>false
  | some c=>if c=s then true else Zay p s n c
def Zi9 (p:Pr) (t:Ty):Bool:=Zay p t.name (p.types.length+1) t.name
def Za7 (p:Pr):List Ty->Option Nat
 | []=>none
 | t::l=>if Zi9 p t=true then some t.at' else Za7 p l
def ZdK (p:Pr):Nat->List Re->Option (Nat×Nat)
 | _,[]=>none
 | i,d::l=>if (lkM d.name (JJ p)).getD 0≠(i:Int) then some (d.at',170) else if Uo p d.fields=false then some (d.at',180) else if (d.inl && (d.inn || d.out))=true then some (d.at',185) else ZdK p (i+1) l
def Zhu:BM:=[(Zyw,true),(ZGW,true)]
def ZfN (p:Pr):Option (Nat×Nat):=match Zb6 p.types Zhu [] with
 | some a=>some (a,170)
 | none=>match ZdJ p p.types with
  | some a=>some (a,180)
  | none=>match Za7 p p.types with
   | some a=>some (a,172)
   | none=>ZdK p 0 p.rels
def ZGX (pl:Pl):Option (Nat×Nat)->List PV
 | none=>[.d (.int .i64 0),.d (.int .i64 0)]
 | some (a,e)=>[.d (.int .i64 (pl a)),.d (.int .i64 e)]
def Zxh:Zq:=Zb2 fun rest pl p K=>match rest with
 | []=>∀x,ZfN p=x->K (.ret (.agg (ZGX pl x)))
 | _=>False
abbrev ZGY (pl:Pl) (p:Pr) (x y:List (Bs×MV)):List Box:=Zgz pl p++[.cells 50 [.ptr 0 0],.cells 52 [.d (.int .i64 0),.d (.int .i64 0)],.dmap x,.dmap y]
abbrev dSt (pl:Pl) (p:Pr) (n m:BM):List Box:=ZGY pl p (mvM mvB n) (mvM mvB m)
def Zyx:Tbl:=[(32,Zhs 33 Zy Zht (fun p (c:Ca)=>!Uo p c.fields)),(34,ZfM),(35,Zb3),(36,Zhq)]
def optK.bool {k:Bs} {m:BM} {A:MV->Prop} (h:A (mvB (has k m))):optK (lkM k (mvM mvB m)) A (A (mvB false)):=by
 rw [ZX];unfold has at h
 cases hk:lkM k m with
 | none=>rw [hk] at h;exact h
 | some b=>rw [hk] at h;exact h
def ZF2 (ht:TO w0 nG Zyx):PC w0 nG 17 Zxh:=by
 refine VI ZR mixed (tbl:=Zyx) ht Tryz.func17 rfl kR kR ?_;intro args σ K h
 unfold Zxh Zb2 at h
 split at h
 ·obtain ⟨pl,p,rfl,hp,h⟩:=h;split at h
  ·have aa:=hp.len;have hl:(p.types.map (Zv pl)).length=p.types.length:=Tf ..;have hlr:(p.rels.map (ZO pl)).length=p.rels.length:=Tf ..;refine ⟨Zr [(3,⟨[30],[1,2,3,4,28,29],fun vs σ=>∃(j:Nat) (n m:BM),vs=[.d (.int .i64 j)]/\σ=⟨dSt pl p n m,[],0⟩/\j<=p.types.length/\Zb6 (p.types.drop j) n m=Zb6 p.types Zhu [],
     fun vs _=>match vs with | [.d (.int _ j)]=>((p.types.length:Int) - j).toNat | _=>0⟩),
    (7,⟨[7,41],[1,2,3,4,6,28,29,30,39,40],fun vs σ=>∃(j k:Nat) (t:Ty) (n m:BM) (b:Bool),vs=[.ptr 5 0,.ptr 6 0,.mp 7,.mp 8,.ptr 9 0,.d (.sl (p.types.map (Zv pl))),.d (.int .i64 (p.types.map (Zv pl)).length),.d (.int .i64 j),.d (.sl (t.cases.map Zy)),.d (.int .i64 (t.cases.map Zy).length),.d (.bool b),.d (.int .i64 k)] /\
      σ=⟨dSt pl p n m++[.cells 42 ((Zv pl t).map .d)],[],0⟩/\k<=t.cases.length/\p.types[j]?=some t /\
      (if (ZCs (t.cases.drop k) b m).1=true then some t.at' else Zb6 (p.types.drop (j+1)) (Y5 t.name true n) (ZCs (t.cases.drop k) b m).2)=Zb6 p.types Zhu [],
     fun vs _=>match vs with | [_,_,_,_,_,_,_,_,_,.d (.int _ n),_,.d (.int _ k)]=>(n - k).toNat | _=>0⟩),
    (17,⟨[70],[1,2,68,69],fun vs σ=>∃(j:Nat) (n m:BM),vs=[.d (.int .i64 j)]/\σ=⟨dSt pl p n m,[],0⟩/\j<=p.types.length/\ZdJ p (p.types.drop j)=ZdJ p p.types,
     fun vs _=>match vs with | [.d (.int _ j)]=>((p.types.length:Int) - j).toNat | _=>0⟩),
    (24,⟨[108],[1,2,106,107],fun vs σ=>∃(j:Nat) (n m:BM),vs=[.d (.int .i64 j)]/\σ=⟨dSt pl p n m,[],0⟩/\j<=p.types.length/\Za7 p (p.types.drop j)=Za7 p p.types,
     fun vs _=>match vs with | [.d (.int _ j)]=>((p.types.length:Int) - j).toNat | _=>0⟩),
    (27,⟨[15,16],[1,2,14,106,107,108],fun vs σ=>∃(j k:Nat) (a:Bs) (t:Ty) (n m:BM),vs=[.ptr 5 0,.ptr 6 0,.ptr 9 0,.d (.sl (p.types.map (Zv pl))),.d (.int .i64 (p.types.map (Zv pl)).length),.d (.int .i64 j),.d (.str a),.d (.int .i64 k)] /\
      σ=⟨dSt pl p n m++[.cells 42 ((Zv pl t).map .d)],[],0⟩/\k<=p.types.length+1/\p.types[j]?=some t/\Zay p t.name (p.types.length+1 - k) a=Zi9 p t,
     fun vs _=>match vs with | [_,_,_,_,.d (.int _ n),_,_,.d (.int _ k)]=>(n+1 - k).toNat | _=>0⟩),
    (36,⟨[147],[1,2,145,146],fun vs σ=>∃(j:Nat) (n m:BM),vs=[.d (.int .i64 j)]/\σ=⟨dSt pl p n m,[],0⟩/\j<=p.rels.length/\ZdK p j (p.rels.drop j)=ZdK p 0 p.rels,
     fun vs _=>match vs with | [.d (.int _ j)]=>((p.rels.length:Int) - j).toNat | _=>0⟩)],Wk [],YG [7,27],5,false,sM,Td rfl,?_⟩
   conv=>whnf
   refine ⟨⟨0,Zhu,[],rfl,rfl,oM,rfl⟩,?_⟩
   rintro vs σ1 ⟨j,n,m,rfl,rfl,hj,ha⟩
   conv=>whnf
   refine ZJU (fun hc=>?_) (fun hc=>?_)
   ·have ab:j<p.types.length:=by omega
    rw [Tq ab] at ha;simp only [Zb6] at ha;have ht:p.types[j]?=some p.types[j]:=Tc ab;have ox:=(hp.ty (TM ab)).2.1;have hr:(p.types.map (Zv pl))[(j:Int).toNat]?=some (Zv pl p.types[j]):=by rw [Tn,Tk,ht];rfl
    generalize p.types[j]=t at ha ht hr ox;obtain ⟨t1,t2,t3,t4,t5,t6⟩:=t;have vd:(t5.map Zy).length=t5.length:=Tf ..;(conv=>whnf);refine ⟨_,oM,hr,wN ?_⟩;refine optK.bool (wN ?_);refine ⟨⟨j,0,⟨t1,t2,t3,t4,t5,t6⟩,n,m,has t2 n,rfl,rfl,oM,ht,ha⟩,?_⟩
    clear ha
    rintro vs σ2 ⟨j',k,t',n,m,b,ca,rfl,hk,jz,ha⟩
    have ej:(some (PV.d (.int .i64 (j:Int))):Option PV)=some (.d (.int .i64 (j':Int))):=congrArg (fun l:List PV=>l[7]?) ca;obtain rfl:j=j':=by have ej:=Option.some.inj ej;injection ej with ej;injection ej with _ ej;omega
    obtain rfl:(⟨t1,t2,t3,t4,t5,t6⟩:Ty)=t':=Option.some.inj (ht.symm.trans jz);have ca:vs=[.d (.bool b),.d (.int .i64 k)]:=congrArg (List.drop 10) ca;subst ca;(conv=>whnf);refine ZJU (fun bw=>?_) (fun bw=>?_)
    ·have av:k<t5.length:=by have bw:(k:Int)<((t5.map Zy).length:Int):=bw;omega
     have hd:t5.drop k=t5[k]::t5.drop (k+1):=Tq av;have cu:(t5.map Zy)[(k:Int).toNat]?=some (Zy t5[k]):=by rw [Tn,Tk,Tc av];rfl
     simp only at ha;rw [hd] at ha
     clear hd
     generalize t5[k]=c at ha cu;obtain ⟨c1,c2⟩:=c;simp only [ZCs] at ha;(conv=>whnf);refine ⟨_,oM,cu,?_⟩;have hμ:((((t5.map Zy).length:Int) - ((k:Int)+1)).toNat<(((t5.map Zy).length:Int) - (k:Int)).toNat):=oM
     cases b with
     | true =>
      conv=>whnf
      refine Zl ?_;exact ⟨⟨j,k+1,⟨t1,t2,t3,t4,t5,t6⟩,n,Y5 c1 true m,true,rfl,congrArg (fun x=>(⟨ZGY pl p (mvM mvB n) x++[.cells 42 ((Zv pl ⟨t1,t2,t3,t4,t5,t6⟩).map .d)],[],0⟩:St)) (UX (f:=mvB) (k:=c1) (v:=true) m),by simp only;omega,ht,ha⟩,hμ⟩
     | false =>
     conv=>whnf
     refine optK.bool (wN ?_);refine Zl ?_;exact ⟨⟨j,k+1,⟨t1,t2,t3,t4,t5,t6⟩,n,Y5 c1 true m,has c1 m,rfl,congrArg (fun x=>(⟨ZGY pl p (mvM mvB n) x++[.cells 42 ((Zv pl ⟨t1,t2,t3,t4,t5,t6⟩).map .d)],[],0⟩:St)) (UX (f:=mvB) (k:=c1) (v:=true) m),by simp only;omega,ht,ha⟩,hμ⟩
    have kh:k=t5.length:=by have bw:¬(k:Int)<((t5.map Zy).length:Int):=bw;have hk:k<=t5.length:=hk;omega
    subst kh;simp only [SH,ZCs] at ha
    cases b with
    | true =>
     rw [Tg rfl] at ha;(conv=>whnf);exact h (some (t6,170)) (by simp only [ZfN,<- ha])
    | false =>
    rw [Tb sM] at ha;(conv=>whnf);refine Zl ?_;exact ⟨⟨j+1,Y5 t2 true n,m,rfl,congrArg (fun x=>(⟨ZGY pl p x (mvM mvB m),[],0⟩:St)) (UX (f:=mvB) (k:=t2) (v:=true) n),oM,ha⟩,by show ((p.types.length:Int) - ((j:Int)+1)).toNat<((p.types.length:Int) - (j:Int)).toNat;omega⟩
   have so:j=p.types.length:=oM;subst so;rw [SH] at ha;have dz:Zb6 p.types Zhu []=none:=ha.symm
   clear ha
   conv=>whnf
   refine ⟨⟨0,n,m,rfl,rfl,oM,rfl⟩,?_⟩
   clear n m
   rintro vs σ1 ⟨j,n,m,rfl,rfl,hj,ha⟩
   conv=>whnf
   refine ZJU (fun hc=>?_) (fun hc=>?_)
   ·have ab:j<p.types.length:=by omega
    rw [Tq ab] at ha;simp only [ZdJ] at ha;have zf:=hp.ty (TM ab);have hr:(p.types.map (Zv pl))[(j:Int).toNat]?=some (Zv pl p.types[j]):=by rw [Tn,Tk,Tc ab];rfl
    generalize p.types[j]=t at ha hr zf;obtain ⟨t1,t2,t3,t4,t5,t6⟩:=t;simp only at zf;have yes:ZgA p ⟨t1,t2,t3,t4,t5,t6⟩=true->K (.ret (.agg (ZGX pl (some (t6,180))))) ⟨Zgz pl p,[],0⟩:=fun g=>by
     rw [Tg g] at ha;exact h (some (t6,180)) (by simp only [ZfN,dz,<- ha])
    have no:ZgA p ⟨t1,t2,t3,t4,t5,t6⟩=false->ZdJ p (p.types.drop (j+1))=ZdJ p p.types:=fun g=>by
     rw [Tb (by rw [g];simp)] at ha;exact ha
    have hμ:((p.types.length:Int) - ((j:Int)+1)).toNat<((p.types.length:Int) - (j:Int)).toNat:=oM
    clear ha h
    conv=>whnf
    refine ⟨_,oM,hr,wN ?_⟩;refine ⟨pl,p,t5,rfl,rfl,⟨rfl,hp,zf.2.1,zf.2.2⟩,fun b hb=>?_⟩
    cases b with
    | true =>
     conv=>whnf
     exact yes (by simp only [ZgA];rw [hb];rfl)
    | false =>
    conv=>whnf
    refine ⟨pl,p,rfl,hp,t4,rfl,zf.1,fun b ge=>?_⟩
    cases b with
    | false =>
     conv=>whnf
     exact yes (by simp only [ZgA];rw [hb,ge];rfl)
    | true =>
    conv=>whnf
    refine ZJU (fun ei=>wN ?_) (fun ei=>wN ?_)
    ·have ei:t1=1:=by have ei:(t1:Int)=1:=ei;omega
     refine ⟨pl,p,rfl,hp,fun b ka=>?_⟩
     cases b with
     | false =>
      conv=>whnf
      exact yes (by simp only [ZgA];rw [hb,ge,ka,ei];rfl)
     | true =>
     conv=>whnf
     refine Zl ?_;exact ⟨⟨j+1,n,m,rfl,rfl,oM,no (by simp only [ZgA];rw [hb,ge,ka,ei];rfl)⟩,hμ⟩
    have ei:¬t1=1:=fun g=>ei (by simp only [g];rfl)
    refine Zl ?_;exact ⟨⟨j+1,n,m,rfl,rfl,oM,no (by simp only [ZgA];rw [hb,ge,decide_eq_false ei];rfl)⟩,hμ⟩
   have so:j=p.types.length:=oM;subst so;rw [SH] at ha;have cf:ZdJ p p.types=none:=ha.symm
   clear ha
   conv=>whnf
   refine ⟨⟨0,n,m,rfl,rfl,oM,rfl⟩,?_⟩
   clear n m
   rintro vs σ1 ⟨j,n,m,rfl,rfl,hj,ha⟩
   conv=>whnf
   refine ZJU (fun hc=>?_) (fun hc=>?_)
   ·have ab:j<p.types.length:=by omega
    rw [Tq ab] at ha;simp only [Za7] at ha;have ht:p.types[j]?=some p.types[j]:=Tc ab;have hr:(p.types.map (Zv pl))[(j:Int).toNat]?=some (Zv pl p.types[j]):=by rw [Tn,Tk,ht];rfl
    generalize p.types[j]=t at ha ht hr;obtain ⟨t1,t2,t3,t4,t5,t6⟩:=t;have yes:Zi9 p ⟨t1,t2,t3,t4,t5,t6⟩=true->K (.ret (.agg (ZGX pl (some (t6,172))))) ⟨Zgz pl p,[],0⟩:=fun g=>by
     rw [Tg g] at ha;exact h (some (t6,172)) (by simp only [ZfN,dz,cf,<- ha])
    have no:Zi9 p ⟨t1,t2,t3,t4,t5,t6⟩=false->Za7 p (p.types.drop (j+1))=Za7 p p.types:=fun g=>by
     rw [Tb (by rw [g];simp)] at ha;exact ha
    have hμ:((p.types.length:Int) - ((j:Int)+1)).toNat<((p.types.length:Int) - (j:Int)).toNat:=oM
    clear ha h
    conv=>whnf
    refine ⟨_,oM,hr,wN ?_⟩;refine ⟨⟨j,0,t2,⟨t1,t2,t3,t4,t5,t6⟩,n,m,rfl,rfl,oM,ht,rfl⟩,?_⟩
    rintro vs σ2 ⟨j',k,a,t',n,m,ca,rfl,hk,jz,ha⟩
    have ej:(some (PV.d (.int .i64 (j:Int))):Option PV)=some (.d (.int .i64 (j':Int))):=congrArg (fun l:List PV=>l[5]?) ca;obtain rfl:j=j':=by have ej:=Option.some.inj ej;injection ej with ej;injection ej with _ ej;omega
    obtain rfl:(⟨t1,t2,t3,t4,t5,t6⟩:Ty)=t':=Option.some.inj (ht.symm.trans jz);have ca:vs=[.d (.str a),.d (.int .i64 k)]:=congrArg (List.drop 6) ca;subst ca;simp only at ha;(conv=>whnf);refine ZJU (fun bw=>?_) (fun bw=>?_);rotate_left
    ·rw [show p.types.length+1 - k=0 by omega] at ha;(conv=>whnf);refine Zl ?_;exact ⟨⟨j+1,n,m,rfl,rfl,oM,no ha.symm⟩,hμ⟩
    obtain ⟨q,hq⟩:∃q,p.types.length+1 - k=q+1:=⟨p.types.length - k,oM⟩
    rw [hq] at ha;simp only [Zay] at ha;(conv=>whnf);refine ⟨pl,p,rfl,hp,fun x hx=>?_⟩;rw [hx] at ha
    cases x with
    | none =>
     conv=>whnf
     refine Zl ?_;exact ⟨⟨j+1,n,m,rfl,rfl,oM,no ha.symm⟩,hμ⟩
    | some c =>
    simp only at ha;(conv=>whnf);refine ZJU (fun dk=>wN ?_) (fun dk=>wN ?_)
    ·rw [Tg (show c=t2 from dk)] at ha;exact yes ha.symm
    rw [Tb (show ¬c=t2 from dk)] at ha;refine Zl ?_;exact ⟨⟨j,k+1,c,⟨t1,t2,t3,t4,t5,t6⟩,n,m,rfl,rfl,oM,ht,by rw [show p.types.length+1 - (k+1)=q by omega];exact ha⟩,by show (((p.types.map (Zv pl)).length:Int)+1 - ((k:Int)+1)).toNat<(((p.types.map (Zv pl)).length:Int)+1 - (k:Int)).toNat;omega⟩
   have so:j=p.types.length:=oM;subst so;rw [SH] at ha;have sx:Za7 p p.types=none:=ha.symm
   clear ha
   have hdF:ZfN p=ZdK p 0 p.rels:=by simp only [ZfN,dz,cf,sx]
   conv=>whnf
   refine ⟨⟨0,n,m,rfl,rfl,oM,rfl⟩,?_⟩
   clear n m
   rintro vs σ1 ⟨j,n,m,rfl,rfl,hj,ha⟩
   conv=>whnf
   refine ZJU (fun hc=>?_) (fun hc=>?_)
   ·have ab:j<p.rels.length:=by omega
    rw [Tq ab] at ha;simp only [ZdK] at ha;have j5:=hp.re (TM ab);have hr:(p.rels.map (ZO pl))[(j:Int).toNat]?=some (ZO pl p.rels[j]):=by rw [Tn,Tk,Tc ab];rfl
    generalize p.rels[j]=d at ha hr j5;obtain ⟨d1,d2,d3,d4,d5,d6⟩:=d;simp only at j5 ha;have yes:∀e,ZdK p 0 p.rels=some (d6,e)->K (.ret (.agg (ZGX pl (some (d6,e))))) ⟨Zgz pl p,[],0⟩:=fun e g=>h _ (by rw [hdF,g])
    have hμ:((p.rels.length:Int) - ((j:Int)+1)).toNat<((p.rels.length:Int) - (j:Int)).toNat:=oM
    clear h
    have zg:∀A:MV->Prop,A (mvI ((lkM d1 (JJ p)).getD 0))->optK (lkM d1 (mvM mvI (JJ p))) A (A (mvI 0)):=fun A g=>by
     rw [ZX]
     cases hk:lkM d1 (JJ p) with
     | none=>rw [hk] at g;exact g
     | some b=>rw [hk] at g;exact g
    conv=>whnf
    refine ⟨_,oM,hr,wN ?_⟩;refine zg _ (wN ?_);refine ZJX (fun h1=>wN ?_) (fun h1=>wN ?_)
    ·rw [Tg h1] at ha;exact yes 170 ha.symm
    rw [Tb (fun g=>g h1)] at ha;refine ⟨pl,p,rfl,hp,d2,rfl,j5,fun b hb=>?_⟩
    cases b with
    | false =>
     rw [Tg hb] at ha;(conv=>whnf);exact yes 180 ha.symm
    | true =>
    rw [Tb (by rw [hb];simp)] at ha;(conv=>whnf)
    cases d5 with
    | false =>
     rw [Tb sM] at ha;(conv=>whnf);refine Zl ?_;exact ⟨⟨j+1,n,m,rfl,rfl,oM,ha⟩,hμ⟩
    | true =>
    cases d3 with
    | true =>
     rw [Tg sM] at ha;(conv=>whnf);exact yes 185 ha.symm
    | false =>
    cases d4 with
    | true =>
     rw [Tg sM] at ha;(conv=>whnf);exact yes 185 ha.symm
    | false =>
    rw [Tb sM] at ha;(conv=>whnf);refine Zl ?_;exact ⟨⟨j+1,n,m,rfl,rfl,oM,ha⟩,hμ⟩
   have so:j=p.rels.length:=oM;subst so;rw [SH] at ha;(conv=>whnf);exact h none (by rw [hdF,<- ha];rfl)
  exact h.elim
 exact h.elim
def prU (p:Pr):Un:=.mk p.types p.rels p.rules [] [] []
abbrev ZF3 (pl:Pl) (p:Pr) (b:Nat):List Box:=[.cells 26 (Zub pl p),.dmap (mvM mvC (XB p)),.dmap (mvM mvI (Za5 p)),
 .cells 95 ([.mp (b+4),.mp (b+5),.mp (b+2),.mp (b+1)]++Zub pl p),.dmap (mvM mvI (ZwY p)),.dmap (mvM mvI (JJ p))]
abbrev ZH0 (pl:Pl) (p:Pr):List Box:=.cells 26 (Zub pl p)::.cells 52 [.d (.int .i64 0),.d (.int .i64 0)]::ZF3 pl p 2
def Zpc {p:Pr} {a e:Nat}:∀(l:List Re) (i:Nat),ZdK p i l=some (a,e)->e≠0
 | [],_,h=>by cases h
 | d::l,i,h=>by
  simp only [ZdK] at h;split at h
  ·cases h;decide
  split at h
  ·cases h;decide
  split at h
  ·cases h;decide
  exact Zpc l _ h
def Zue {p:Pr} {a e:Nat} (h:ZfN p=some (a,e)):e≠0:=by
 unfold ZfN at h
 split at h
 ·cases h;decide
 split at h
 ·cases h;decide
 split at h
 ·cases h;decide
 exact Zpc _ _ h
abbrev Vs:=List (Bs×Int)
abbrev VS:=Vs×Bool
def ZgB (p:Pr) (n:Int):Option Ty:=p.types.find? fun t=>decide (t.kind=2) && (decide (0<=n) && decide ((lkM t.name (Za5 p)).getD 0=n))
def ZdL (p:Pr) (s:Bs):Option (Ty×Ca):=match lkM s (XB p) with
 | none=>none
 | some (i,k)=>match p.types[i.toNat]? with
  | none=>none
  | some t=>match t.cases[k.toNat]? with
   | none=>none
   | some c=>some (t,c)
def ZJ (p:Pr) (op:Nat) (text:Bs) (ZdM:Nat) (n:Int):List Int :=
 if op=7 then (match ZdL p text with | some tc=>ZZ p tc.2.fields | none=>[])
 else if op=6 then (match ZgB p n with | some t=>ZZ p t.fields | none=>[])
 else if op=20 then [1,1] else if op=21\/op=23\/op=25 then [1] else if op=22 then [1,0,0] else List.replicate ZdM 0
def Zd6 (p:Pr) (vs:Vs) (op:Nat) (text:Bs):Int :=
 if op=1 then (lkM text vs).getD (-1)
 else if op=7 then (match ZdL p text with | some tc=>Xr p tc.1.name | none=>-1)
 else if op=6\/op=5\/op=2 then -1 else if op=4\/op=20\/op=22\/op=24 then 1 else 0
def ZCt (t:Bs) (n:Int) (s:VS):VS :=
 if (lkM t s.1).isNone=true\/((lkM t s.1).getD 0=-1/\n≠-1) then (Y5 t n s.1,s.2 || decide (n≠-1)) else s
mutual
def gvE (p:Pr):Ex->Int->VS->VS
 | .mk op text _ args _,n,s=>if op=1 then ZCt text n s
  else Zbh p args (if (ZJ p op text args.length n).length=args.length then ZJ p op text args.length n else List.replicate args.length (-1)) s
def Zbh (p:Pr):List Ex->List Int->VS->VS
 | e::es,n::ns,s=>Zbh p es ns (gvE p e n s)
 | _,_,s=>s
end
def Xc (p:Pr) (name:Bs) (ZdM:Nat):List Int:=match lkM name (JJ p) with
 | none=>List.replicate ZdM (-1)
 | some i=>match p.rels[i.toNat]? with
  | none=>List.replicate ZdM (-1)
  | some d=>if d.fields.length=ZdM then ZZ p d.fields else List.replicate ZdM (-1)
def Zyy (p:Pr) (vs:Vs):Ex->Int
 | .mk op text _ _ _=>Zd6 p vs op text
def Uq (p:Pr) (vs:Vs):List Ex->Int
 | a::b::_=>if Zyy p vs a≠-1 then Zyy p vs a else Zyy p vs b
 | _=>-1
mutual
def gvL (p:Pr):Li->VS->VS
 | .mk op rel args body _,s=>if op<=2 then Zbh p args (Xc p rel args.length) s
  else if op<=8 then Zbh p args [Uq p s.1 args,Uq p s.1 args] s
  else Zpd p body (Zbh p args (List.replicate args.length 0) s)
def Zpd (p:Pr):List Li->VS->VS
 | [],s=>s
 | x::l,s=>Zpd p l (gvL p x s)
end
def Ur (p:Pr) (r:Ru) (v:Vs):VS:=Zpd p r.body (Zbh p r.args (Xc p r.head r.args.length) (v,false))
def VN (p:Pr) (r:Ru):Nat->Vs->Option Vs
 | 0,_=>none
 | n+1,v=>if (Ur p r v).2=true then VN p r n (Ur p r v).1 else some (Ur p r v).1
abbrev Flt:=Option (Nat×Nat)
mutual
def rtE (p:Pr) (vs:Vs):Ex->Int->Flt
 | .mk op text _ args a,n =>
  if op=7/\(lkM text (XB p)).isNone=true then some (a,184)
  else if (Zd6 p vs op text≠-1/\n≠-1/\Zd6 p vs op text≠n)\/((op=6\/op=5)/\(ZgB p n).isNone=true)\/(op=1/\Zd6 p vs op text=-1) then some (a,183)
  else if (ZJ p op text args.length n).length≠args.length then some (a,182)
  else Za8 p vs args (ZJ p op text args.length n)
def Za8 (p:Pr) (vs:Vs):List Ex->List Int->Flt
 | e::es,n::ns=>match rtE p vs e n with
  | some f=>some f
  | none=>Za8 p vs es ns
 | _,_=>none
end
def Zrk (p:Pr) (vs:Vs) (name:Bs) (args:List Ex) (a:Nat) (head:Bool):Flt:=match lkM name (JJ p) with
 | none=>some (a,181)
 | some i=>match p.rels[i.toNat]? with
  | none=>none
  | some d=>if (head && d.inn)=true then some (a,185) else if d.fields.length≠args.length then some (a,182) else Za8 p vs args (Xc p name args.length)
mutual
def rtL (p:Pr) (vs:Vs):Li->Flt
 | .mk op rel args body a=>if op<=2 then Zrk p vs rel args a false
  else if op<=8 then (match Za8 p vs args [Uq p vs args,Uq p vs args] with
   | some f=>some f
   | none=>if 5<=op/\Uq p vs args≠0/\Uq p vs args≠1 then some (a,183) else none)
  else match Za8 p vs args (List.replicate args.length 0) with
   | some f=>some f
   | none=>ZgC p vs body
def ZgC (p:Pr) (vs:Vs):List Li->Flt
 | []=>none
 | x::l=>match rtL p vs x with
  | some f=>some f
  | none=>ZgC p vs l
end
def Yv (p:Pr) (op:Nat) (text:Bs) (kind:Bs):List Fi :=
 if op=7 then (match ZdL p text with | some tc=>tc.2.fields | none=>[])
 else if op=6 then (match ZgB p (Xr p kind) with | some t=>t.fields | none=>[]) else []
mutual
def wiE (p:Pr):Ex->Bs->List (Ex×Bs)
 | .mk op text n args a,kind=>(.mk op text n args a,kind)::Za9 p args (Yv p op text kind)
def Za9 (p:Pr):List Ex->List Fi->List (Ex×Bs)
 | e::es,f::fs=>wiE p e f.typ++Za9 p es fs
 | _,_=>[]
end
def Zk6 (p:Pr) (name:Bs):List Fi:=match lkM name (JJ p) with
 | none=>(match p.rels[0]? with | some d=>d.fields | none=>[])
 | some i=>match p.rels[i.toNat]? with | some d=>d.fields | none=>[]
def Us (p:Pr):Li->List (Ex×Bs)
 | .mk op rel args _ _=>if op=1 then Za9 p args (Zk6 p rel) else []
def ZfO (p:Pr) (l:List Li):List (Bs×Bs):=(l.flatMap (Us p)).filterMap fun x=>match x with
 | (.mk op text _ _ _,k)=>if op=1 then some (text,k) else none
def VO (p:Pr) (kn:List (Bs×Bs)):List (Ex×Bs)->Flt
 | []=>none
 | (.mk op text _ _ a,k)::l =>
  if (Xj p k).isSome=true/\(8<=op\/(op=1/\(kn.any fun y=>decide (y.1=text) && Wt p y.2 k)=false)) then some (a,183) else VO p kn l
def ZfP (p:Pr) (r:Ru):Flt:=VO p (ZfO p r.body) (Za9 p r.args (Zk6 p r.head))
def Zaz (p:Pr) (r:Ru) (vs:Vs):Flt:=if 64<vs.length then some (r.at',3) else match Zrk p vs r.head r.args r.at' true with
 | some f=>some f
 | none=>match ZgC p vs r.body with
  | some f=>some f
  | none=>ZfP p r
mutual
def nvE:Ex->List Bs
 | .mk op text _ args _=>if op=1 then [text] else ZDr args
def ZDr:List Ex->List Bs
 | []=>[]
 | e::l=>nvE e++ZDr l
end
mutual
def nvL:Li->List Bs
 | .mk _ _ args body _=>ZDr args++ZF4 body
def ZF4:List Li->List Bs
 | []=>[]
 | x::l=>nvL x++ZF4 l
end
def nvR (r:Ru):List Bs:=ZDr r.args++ZF4 r.body
def Zaj (p:Pr) (r:Ru):Vs:=(VN p r ((nvR r).length+1) []).getD []
def XC (p:Pr):List Ru->Flt
 | []=>none
 | r::l=>match Zaz p r (Zaj p r) with
  | some f=>some f
  | none=>XC p l
def Zvj (pl:Pl) (p:Pr):Int×Int:=if (Zds (prU p)).2≠0 then (0,(Zds (prU p)).2) else match ZfN p with
 | some (a,e)=>(pl a,e)
 | none=>match XC p p.rules with
  | some (a,e)=>(pl a,e)
  | none=>(0,0)
end Go.PM.Lex
end
