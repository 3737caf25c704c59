/- A part of the proof: plain logic, contracts and laws over the given program. -/
import Derived.Lib.LaidTab
import Derived.Test.YtljpldmdmdhdaaaGreatDoorB07
set_option linter.unusedVariables false
set_option linter.unusedSimpArgs false
set_option linter.all false
set_option maxRecDepth 100000
set_option maxHeartbeats 16000000
noncomputable section
section
namespace Go.PM.Lex
open Go.Proofs
variable {w0:World} {nG:Nat}
def ZDI (x:Un):Bool:=ZkJ x && Zv6 x
def ZCq (x:Co):Bool:=Zt0 x && Zq3 x
def ZyO {tys:List Ty} {rels:List Re} {rules:List Ru} {comps:List Co} {inits:List Ini} {overs:List Ov} (h:ZDI (.mk tys rels rules comps inits overs)=true) :
  (∀x∈tys,ZxV x=true)/\(∀x∈rels,XS x=true)/\(∀x∈rules,ZCk x=true)/\∀x∈comps,ZCq x=true:=by
 simp only [ZDI,Tl] at h;obtain ⟨h,hr⟩:=h;obtain ⟨m1,m2,m3,m4,m5,m6⟩:=ZyM h;simp only [Zv6,Zq4,Tl] at hr;have r1:=Tn.1 hr.1;have r2:=Tn.1 hr.2;exact ⟨m1,m2,fun x hx=>by rw [ZCk,m3 x hx,r1 x hx];rfl,fun x hx=>by rw [ZCq,m4 x hx,r2 x hx];rfl⟩
def Zs2 (r:Ru):Bs:=ruT r++[10]
def ZCr (body:List PV->Bs->Prop):Zh:=fun args σ K=>match args,σ with
 | .ptr 0 0::rest,⟨[.cells t [p,.sl 0 e rows]],[0],1⟩=>∃l txt,rows=Zm l/\((p=.d .nilp\/p=.ptr 0 0)/\t=143/\e=5)/\body rest txt/\l.length+txt.length<70368744177664 /\
   ∀p',(p'=.d .nilp\/p'=.ptr 0 0)->K (.ret (.tuple [])) ⟨[.cells t [p',.sl 0 e (Zm (l++txt))]],[0],1⟩
 | _,_=>False
def ZDJ (n:Nat):Zh:=ZCr fun rest txt=>∃pl x,rest=[VG WZ pl x]/\(ZDI x=true/\wUn x<=n/\n<=1073741824/\noC x)/\txt=unT x
def Zi8 {α:Type} (T:α->Bs) {xs:List α} {i:Nat} (h:i<xs.length):((xs.take (i+1)).map T).flatten=((xs.take i).map T).flatten++T xs[i]:=by
 rw [List.take_succ_eq_append_getElem h,TM,So];simp
def Zq9 {α:Type} (T:α->Bs) (xs:List α) (i:Nat):((xs.take i).map T).flatten.length<=(xs.map T).flatten.length:=by
 have e:(xs.map T).flatten=((xs.take i).map T).flatten++((xs.drop i).map T).flatten:=by rw [<- So,<- TM,Sd]
 rw [e,Tc];omega
def ZCs (n:Nat):Tbl:=[(122,ZeY),(123,ZyN n),(127,ZDH n)]
def ZEL {n:Nat} (ht:TO w0 nG (ZCs n)):PC w0 nG 68 (ZDJ n):=by
 refine ZpQ Zr mixed (tbl:=ZCs n) ht Tryz.func68 rfl kR kR ?_;intro args σ K h
 unfold ZDJ ZCr at h
 split at h
 ·rename_i rest t p e rows
  obtain ⟨l,txt,rfl,⟨hp,rfl,rfl⟩,⟨pl,⟨tys,rels,rules,comps,inits,overs⟩,rfl,⟨ca,hz,hn,rfl,rfl,rfl,rfl,hfg⟩,rfl⟩,hlen,h⟩:=h;obtain ⟨m1,m2,m3,m4⟩:=ZyO ca;have hz:szS wRe rels+szS wRu rules+1<=n:=by rw [wUn] at hz;omega
  have hu:unT (.mk [] rels rules [] [] [])=(rels.map reT).flatten++(rules.map Zs2).flatten:=by rw [unT,ZAN];rfl
  rw [hu] at hlen;simp only [Tc] at hlen;have h:∀p',(p'=.d .nilp\/p'=.ptr 0 0)->K (.ret (.tuple [])) ⟨[.cells 143 [p',.sl 0 5 (Zm (l++(rels.map reT).flatten++(rules.map Zs2).flatten))]],[0],1⟩:=by
   rw [hu] at h;simpa only [Tp] using h
  have s2:=ZE wRe rels;have s3:=ZE wRu rules;refine ⟨Zg [(15,⟨[60],[2,3,58,59],fun vs σ=>∃(i:Nat) (P:PV),vs=[.d (.int .i64 i)]/\σ=⟨[.cells 143 [P,.sl 0 5 (Zm (l++((rels.take i).map reT).flatten))],.cells 137 [.ptr 0 0],.cells 60 ((WZ pl (.mk [] rels rules [] [] [])).map .d)],[0],1⟩/\(P=.d .nilp\/P=.ptr 0 0)/\i<=rels.length,mu1 rels.length⟩),(47,⟨[166],[2,3,164,165],fun vs σ=>∃(i:Nat) (P:PV),vs=[.d (.int .i64 i)]/\σ=⟨[.cells 143 [P,.sl 0 5 (Zm (l++(rels.map reT).flatten++((rules.take i).map Zs2).flatten))],.cells 137 [.ptr 0 0],.cells 60 ((WZ pl (.mk [] rels rules [] [] [])).map .d)],[0],1⟩/\(P=.d .nilp\/P=.ptr 0 0)/\i<=rules.length,mu1 rules.length⟩)],ZV [(2,1),(19,4),(27,1),(37,1),(42,1)],ZC [],ZC [],ZC [],ZwX [(14,([2,3],fun vs σ=>∃P:PV,vs=[.ptr 1 0,.ptr 2 0]/\σ=⟨[.cells 143 [P,.sl 0 5 (Zm (l))],.cells 137 [.ptr 0 0],.cells 60 ((WZ pl (.mk [] rels rules [] [] [])).map .d)],[0],1⟩/\(P=.d .nilp\/P=.ptr 0 0))),(26,([2,3],fun vs σ=>∃P:PV,vs=[.ptr 1 0,.ptr 2 0]/\σ=⟨[.cells 143 [P,.sl 0 5 (Zm (l++(rels.map reT).flatten))],.cells 137 [.ptr 0 0],.cells 60 ((WZ pl (.mk [] rels rules [] [] [])).map .d)],[0],1⟩/\(P=.d .nilp\/P=.ptr 0 0)))],1,true,sM,Tb rfl,?_⟩;rcases hp with rfl | rfl
  all_goals
   conv=>whnf
   refine ⟨wN ?_,?_⟩
   ·exact ⟨_,rfl,rfl,iM⟩
   intro vs σ hI
   obtain ⟨P,rfl,rfl,hP⟩:=hI;(conv=>whnf);refine ⟨?_,?_⟩
   ·rcases hP with rfl | rfl
    all_goals
     conv=>whnf
     refine ⟨⟨0,_,rfl,zN,iM,oM⟩,?_⟩;intro vs σ hI
     obtain ⟨i,P,rfl,rfl,hP,hi⟩:=hI;(conv=>whnf);refine ZGr (fun af=>?_) (fun af=>?_)
     ·have cf:(rels.map (Zu pl)).length=rels.length:=Td ..;have af:i<rels.length:=lzI cf af;have hg:=ZQ wRe rels i af;have cd:=Zi8 reT af;have aw:=Zq9 reT rels (i+1);have dh:=TA af;obtain ⟨L,hL⟩:∃L,l++((rels.take i).map reT).flatten=L:=⟨_,rfl⟩
      have hLl:L.length=(l).length+((rels.take i).map reT).flatten.length:=by rw [<- hL,Tc]
      (try simp only [Tc] at hLl)
      rw [cd,Tc] at aw;rw [hL];obtain ⟨x,hX⟩:∃x,rels[i]=x:=⟨_,rfl⟩
      rw [hX] at hg dh cd aw;obtain ⟨nm,fs,b1,b2,b3,at'⟩:=x;have me:l++((rels.take (i+1)).map reT).flatten=L++reT ⟨nm,fs,b1,b2,b3,at'⟩:=by rw [cd,<- Tp,hL]
      have cq:(rels.map (Zu pl))[((i:Nat):Int).toNat]?=some (Zu pl ⟨nm,fs,b1,b2,b3,at'⟩):=by simp [af,hX]
      have q:=m2 _ dh;simp only [XS,Tl] at q;obtain ⟨q1,q2⟩:=q;have q2:=Tn.1 q2;have pt:wRe ⟨nm,fs,b1,b2,b3,at'⟩=1+nm.length+szS wFi fs:=rfl;have hw:nm.length+szS wFi fs<=n:=oM;(conv=>whnf);refine ⟨_,oM,cq,?_⟩;have hT0:reT ⟨nm,fs,b1,b2,b3,at'⟩=ZoZ ([100,101,99,108,32]++nm++[40]) fs [41]++((if b1 then [32,105,110,112,117,116] else [])++((if b2 then [32,111,117,116,112,117,116] else [])++((if b3 then [32,105,110,108,105,110,101] else [])++[10]))):=by rw [reT];simp only [Tp]
      obtain ⟨rfl,rfl,rfl⟩:=hfg _ dh;rcases hP with rfl | rfl
      all_goals
       conv=>whnf
       refine ⟨by simp only [Tf,Tj];omega,wN ?_⟩;refine ⟨by simp only [Tc,Tf,Tj];omega,wN ?_⟩;have hT:=hT0;simp only [if_true,TB,if_false,List.nil_append] at hT;rw [hT] at aw;simp only [Tc,Tf,Tj] at aw;refine ⟨L,ZoZ ([100,101,99,108,32]++nm++[40]) fs [41],rfl,⟨iM,rfl,rfl⟩,⟨([100,101,99,108,32]++nm++[40]),[41],fs,rfl,⟨Tn.2 q2,oM,oM⟩,rfl⟩,(by (try simp only [Tc,Tf,Tj]);omega),?_⟩;(conv=>whnf);refine ⟨dM,dM,wN ?_⟩;refine V4 ?_;refine ⟨dM,dM,wN ?_⟩;refine V4 ?_;refine ⟨dM,dM,wN ?_⟩;refine V4 ?_;refine ⟨L++ZoZ ([100,101,99,108,32]++nm++[40]) fs [41],[10],rfl,⟨.inr rfl,rfl,rfl⟩,⟨[[10]],rfl,sM,sM,sM⟩,(by (try simp only [Tc,Tf,Tj]);omega),?_⟩;(conv=>whnf);refine Zk ?_;refine ⟨⟨i+1,_,rfl,(by rw [me,hT];simp only [Tp];rfl),.inr rfl,oM⟩,?_⟩;exact lzM oM
     have af:i=rels.length:=by
      have cf:(rels.map (Zu pl)).length=rels.length:=Td ..;have af:¬(i:Int)<(rels.map (Zu pl)).length:=af;rw [cf] at af;omega
     subst af;rw [Sn];rcases hP with rfl | rfl
     all_goals
      conv=>whnf
      exact ⟨_,rfl,rfl,iM⟩
   intro vs σ hI
   obtain ⟨P,rfl,rfl,hP⟩:=hI;(conv=>whnf);rcases hP with rfl | rfl
   all_goals
    conv=>whnf
    refine ⟨⟨0,_,rfl,zN,iM,oM⟩,?_⟩;intro vs σ hI
    obtain ⟨i,P,rfl,rfl,hP,hi⟩:=hI;(conv=>whnf);refine ZGr (fun af=>?_) (fun af=>?_)
    ·have cf:(rules.map (Zs pl)).length=rules.length:=Td ..;have af:i<rules.length:=lzI cf af;have hg:=ZQ wRu rules i af;have cd:=Zi8 Zs2 af;have aw:=Zq9 Zs2 rules (i+1);have dh:=TA af;obtain ⟨L,hL⟩:∃L,l++(rels.map reT).flatten++((rules.take i).map Zs2).flatten=L:=⟨_,rfl⟩
     have hLl:L.length=(l++(rels.map reT).flatten).length+((rules.take i).map Zs2).flatten.length:=by rw [<- hL,Tc]
     (try simp only [Tc] at hLl)
     rw [cd,Tc] at aw;rw [hL];obtain ⟨x,hX⟩:∃x,rules[i]=x:=⟨_,rfl⟩
     rw [hX] at hg dh cd aw;obtain ⟨head,as',bd,at'⟩:=x;have me:l++(rels.map reT).flatten++((rules.take (i+1)).map Zs2).flatten=L++Zs2 ⟨head,as',bd,at'⟩:=by rw [cd,<- Tp,hL]
     have cq:(rules.map (Zs pl))[((i:Nat):Int).toNat]?=some (Zs pl ⟨head,as',bd,at'⟩):=by simp [af,hX]
     have hw:wRu ⟨head,as',bd,at'⟩<=n:=oM;have hT:Zs2 ⟨head,as',bd,at'⟩=(ruT ⟨head,as',bd,at'⟩)++[10]:=rfl;rw [hT] at aw;simp only [Tc,Tf,Tj] at aw;(conv=>whnf);refine ⟨_,oM,cq,?_⟩;rcases hP with rfl | rfl
     all_goals
      conv=>whnf
      refine ⟨L,(ruT ⟨head,as',bd,at'⟩),rfl,⟨iM,rfl,rfl⟩,⟨pl,⟨head,as',bd,at'⟩,rfl,⟨m3 _ dh,hw,hn⟩,rfl⟩,(by (try simp only [Tc,Tf,Tj]);omega),?_⟩;(conv=>whnf);refine ⟨L++(ruT ⟨head,as',bd,at'⟩),[10],rfl,⟨.inr rfl,rfl,rfl⟩,⟨[[10]],rfl,sM,sM,sM⟩,(by (try simp only [Tc,Tf,Tj]);omega),?_⟩;(conv=>whnf);refine Zk ?_;refine ⟨⟨i+1,_,rfl,(by rw [me,hT];simp only [Tp];rfl),.inr rfl,oM⟩,?_⟩;exact lzM oM
    have af:i=rules.length:=by
     have cf:(rules.map (Zs pl)).length=rules.length:=Td ..;have af:¬(i:Int)<(rules.map (Zs pl)).length:=af;rw [cf] at af;omega
    subst af;rw [Sn];rcases hP with rfl | rfl
    all_goals
     conv=>whnf
     exact h _ iM
 exact h.elim
def cWU (hN:NumOK w0 nG) (hL:LexC w0 nG) (n:Nat):PC w0 nG 68 (ZDJ n) :=
 ZEL ⟨Zau,ZCp,cWR hN hL _,trivial⟩
def ZyP {z:Bs} {c:UInt8} (hc:c.toNat<128):pk (c::z)=((c.toNat:Int),1):=by
 have e:Lib.decodeL (c::z)=(c.toNat,1):=by
  rw [Lib.decodeL_N];unfold Lib.decodeN;rw [Ti (by simpa using hc)];simp
 unfold pk
 rw [e,Te sO]
structure Fol (c:UInt8) (z:Bs):Prop where
 low:c.toNat<128
 let':Zl c.toNat=false
 dig:Zo c.toNat=false
 dot:c=46->Zl (pk z).1=false
def Fol.pk {c:UInt8} {z:Bs} (h:Fol c z):Lex.pk (c::z)=((c.toNat:Int),1):=ZyP h.low
inductive Pc where
 | blank (b:UInt8) | tok (s:Bs) (t:T0)
def Pc.bs:Pc->Bs | .blank b=>[b] | .tok s _=>s
def Pc.ts:Pc->Ts | .blank _=>[] | .tok _ t=>[t]
def bsP (l:List Pc):Bs:=(l.map Pc.bs).flatten
def tsP (l:List Pc):Ts:=(l.map Pc.ts).flatten
@[simp] theorem bsP_nil:bsP []=[]:=rfl
@[simp] theorem tsP_nil:tsP []=[]:=rfl
@[simp] theorem bsP_cons (p:Pc) (l:List Pc):bsP (p::l)=p.bs++bsP l:=by simp [bsP]
@[simp] theorem tsP_cons (p:Pc) (l:List Pc):tsP (p::l)=p.ts++tsP l:=by simp [tsP]
@[simp] theorem bsP_app (l m:List Pc):bsP (l++m)=bsP l++bsP m:=by simp [bsP]
@[simp] theorem tsP_app (l m:List Pc):tsP (l++m)=tsP l++tsP m:=by simp [tsP]
def nmP (s:Bs):Pc:=.tok s (nmT s)
def sgP (s:Bs):Pc:=.tok s (sgT s)
def Zoo:∀d:Fin 16,ZgQ (ZjO d.val)=d.val/\XR true (ZjO d.val)=true/\(d.val<10->XR false (ZjO d.val)=true)/\ZjO d.val≠120:=by decide +kernel
def Zuj (base:Nat) (l:Bs) (b:UInt8):Wf base (l++[b])=Wf base l * base+ZgQ b:=by simp [Wf]
def Zbl {base:Nat} (hb:base=10\/base=16):∀(f n:Nat),n<f->Wf base (JM base f n)=n/\(∀b∈JM base f n,XR (decide (base=16)) b=true/\b≠120)/\JM base f n≠[]/\∀k,n<base ^ (k+1)->(JM base f n).length<=k+1
 | 0,n,h=>oM
 | f+1,n,h=>by
  have hd:∀d,d<base->ZgQ (ZjO d)=d/\XR (decide (base=16)) (ZjO d)=true/\ZjO d≠120:=fun d hd=>by
   obtain ⟨h1,h2,h3,h4⟩:=Zoo ⟨d,oM⟩;refine ⟨h1,?_,h4⟩;rcases hb with rfl | rfl
   ·exact h3 hd
   exact h2
  rw [JM]
  by_cases c:n<base
  ·rw [Ti c];obtain ⟨h1,h2,h3⟩:=hd n c;refine ⟨by simpa [Wf] using h1,fun b hb=>?_,sM,fun k _=>sM⟩;rw [Sy.1 hb];exact ⟨h2,h3⟩
  rw [Te c];have aa:n / base<n:=Nat.div_lt_self oM oM;obtain ⟨i1,i2,i3,i4⟩:=Zbl hb f (n / base) oM;obtain ⟨h1,h2,h3⟩:=hd (n % base) (Nat.mod_lt _ oM);refine ⟨?_,fun b hb=>?_,sM,fun k hk=>?_⟩
  ·rw [Zuj,i1,h1,Nat.mul_comm];exact Nat.div_add_mod n base
  ·rcases Tw.1 hb with hb | hb
   ·exact i2 b hb
   rw [Sy.1 hb];exact ⟨h2,h3⟩
  cases k with
  | zero=>simp at hk;omega
  | succ k =>
  have:n / base<base ^ (k+1):=by
   rw [Nat.div_lt_iff_lt_mul oM];rw [Nat.pow_succ] at hk;exact hk
  have:=i4 k this;exact mq90
def spP:Pc:=.blank 32
def nlP:Pc:=.blank 10
@[simp] theorem bs_sp:spP.bs=[32]:=rfl
@[simp] theorem bs_nl:nlP.bs=[10]:=rfl
@[simp] theorem ts_sp:spP.ts=[]:=rfl
@[simp] theorem ts_nl:nlP.ts=[]:=rfl
@[simp] theorem bs_nm (s:Bs):(nmP s).bs=s:=rfl
@[simp] theorem bs_sg (s:Bs):(sgP s).bs=s:=rfl
@[simp] theorem ts_nm (s:Bs):(nmP s).ts=[nmT s]:=rfl
@[simp] theorem ts_sg (s:Bs):(sgP s).ts=[sgT s]:=rfl
@[simp] theorem bs_tok (s:Bs) (t:T0):(Pc.tok s t).bs=s:=rfl
@[simp] theorem ts_tok (s:Bs) (t:T0):(Pc.tok s t).ts=[t]:=rfl
def ts2 (p:Nat×List Pc):Nat×Ts:=(p.1,tsP p.2)
def Zd0:∀(f:Nat) (r out q:Bs),Vu f r out=some q->q.length<=out.length+4 * r.length
 | 0,r,out,q,h=>by simp [Vu] at h
 | f+1,r,out,q,h=>by
  unfold Vu at h
  split at h
  ·cases h;omega
  rename_i hr
  have hd:=Lib.decodeL_le r hr;have hg:=ZgZ r;split at h
  ·have:=Zd0 f _ _ _ h;simp only [Tc,Tf,Tj,Tz] at this;omega
  split at h
  ·cases h
  have:=Zd0 f _ _ _ h;have h4:=ZD9 (Lib.decodeL r).1;simp only [Tc,Tz] at this;omega
def Zuk (s:Bs):(ZxW s).length<=4 * s.length+2:=by
 unfold ZxW Jf
 split
 ·cases hq:Vu (s.length+1) s [34] with
  | none=>simp
  | some q =>
  have:=Zd0 _ _ _ _ hq;simp only [TX,Ss,Tc,Tf,Tj] at this |-;omega
 simp
def Zul {n:Int} (h0:-9223372036854775808<=n) (h1:n<9223372036854775808):(ZfR n).length<=20:=by
 unfold ZfR
 split
 ·have h:=(Zbl (base:=16) (.inr rfl) ((n+18446744073709551616).toNat+1) (n+18446744073709551616).toNat oM).2.2.2 15 (by
   have:(16:Nat) ^ (15+1)=18446744073709551616:=dM;omega)
  simp only [Tc,Tf,Tj,W4];omega
 have h:=(Zbl (base:=10) (.inl rfl) (n.toNat+1) n.toNat oM).2.2.2 18 (by
  have:(10:Nat) ^ (18+1)=10000000000000000000:=dM;omega)
 rw [W4];omega
def Zum (op:Nat):(Vv op).length<=6:=by
 by_cases h:op<26
 ·have hk:∀o:Fin 26,(Vv o.val).length<=6:=by decide
  exact hk ⟨op,h⟩
 unfold Vv
 (repeat rw [Te oM])
 decide
def Zwa (l:List (Nat×Bs)):Nat:=(l.map fun p=>p.2.length+4).sum
def W6 (l:List Bs):(Zj cmm l).length<=(l.map fun s=>s.length+4).sum:=by
 match l with
 | []=>exact T6 _
 | [x]=>simp [Zj]
 | x::y::l =>
  have ih:=W6 (y::l);rw [Zj]
  ·simp only [Tc,Tx,List.sum_cons] at ih |-;have:cmm.length=2:=rfl;omega
  intro h;cases h
def Zhi (w:Nat) (p:Nat×Bs):(Zt1 w p).length<=p.2.length+2:=by
 unfold Zt1;split
 ·exact mq90
 omega
def Zra (w1 w2:Nat) (sep:Bs) (l:List (Nat×Bs)):(exA w1 w2 sep l).length<=Zwa l+sep.length:=by
 match l with
 | []=>simp [exA]
 | [a]=>have:=Zhi w1 a;simp only [exA,Zwa,Tx,TN,List.sum_cons,List.sum_nil];omega
 | a::b::l =>
  have h1:=Zhi w1 a;have h2:=Zhi w2 b;simp only [exA,Zwa,Tx,List.sum_cons,Tc];omega
def Zrb (op:Nat) (t:Bs) (n:Int) (l:List (Nat×Bs)) (h0:-9223372036854775808<=n) (h1:n<9223372036854775808):(exN op t n l).length<=Zwa l+5 * t.length+30:=by
 have hw:=Zum op;have hn:=Zul h0 h1;have hq:=Zuk t;have hc:(Zj cmm (l.map Prod.snd)).length<=Zwa l:=by
  have:=W6 (l.map Prod.snd);rw [Sj] at this;exact this
 unfold exN
 split
 ·have:=Zra (ZT op) (ZT op+1) ([32]++(Vv op++[32])) l;simp only [Tc,Tf,Tj] at this;omega
 split
 ·have:=Zra 5 5 [] l;simp only [Tc,Tj] at this |-;omega
 split
 ·exact mq90
 split
 ·exact mq90
 split
 ·simp only [Tc,Tf,Tj];split
  ·simp only [Tj];omega
  exact mq90
 split
 ·omega
 split
 ·omega
 split
 ·simp only [Tf,Tj];omega
 split
 ·simp only [Tf,Tj];omega
 omega
mutual
def Zd1:∀e:Ex,Zq0 e=true->(exT e).length+4<=64 * wE e
 | .mk op t n l a,h=>by
  obtain ⟨r1,r2⟩:=ZdY h;have ih:=Zbm l (by rw [Zcx];exact Tn.2 r2);have:=Zrb op t n (ZqN l) r1.1 r1.2;rw [exT,wE];omega
def Zbm:∀l:List Ex,ZkR l=true->Zwa (ZqN l)<=64 * wEs l
 | [],h=>by rw [ZqN];simp [Zwa]
 | x::l,h=>by
  rw [ZkR,Tl] at h;have h1:=Zd1 x h.1;have h2:=Zbm l h.2;rw [ZqN,wEs];unfold Zwa at h2 |-
  simp only [Tx,List.sum_cons];omega
end
def Zrc {α:Type} {T:α->Bs} {w:α->Nat}:∀l:List α,(∀x∈l,(T x).length+4<=64 * w x)->(l.map fun x=>(T x).length+4).sum<=64 * szS w l
 | [],h=>T6 _
 | x::l,h=>by
  have h1:=h x sM;have h2:=Zrc l fun y hy=>h y (TF _ hy)
  simp only [Tx,List.sum_cons,szS];omega
def JO {α:Type} {T:α->Bs} {w:α->Nat} {l:List α} (h:∀x∈l,(T x).length+4<=64 * w x):(Zj cmm (l.map T)).length<=64 * szS w l:=by
 have h1:=W6 (l.map T);rw [Sj] at h1;exact TP h1 (Zrc l h)
def Wd {α:Type} {T:α->Bs} {w:α->Nat}:∀{l:List α},(∀x∈l,(T x).length+4<=64 * w x)->((l.map T).flatten).length<=64 * szS w l
 | [],h=>T6 _
 | x::l,h=>by
  have h1:=h x sM;have h2:=Wd (l:=l) fun y hy=>h y (TF _ hy)
  simp only [Tx,List.flatten_cons,Tc,szS];omega
def ZkT:∀{l:List Ex},(∀x∈l,Zq0 x=true)->(Zmt l).length+(Zt2 l.tail).length<=64 * szS wE l/\(Zmt l).length+(Zmt l.tail).length<=64 * szS wE l
 | [],h=>by simp [Zmt,Zt2]
 | x::l,h=>by
  have h1:=Zd1 x (h x sM);have h2:=Wd (T:=fun e=>[32]++exT e) (w:=fun e=>wE e) (l:=l) fun y hy=>by
   have:=Zd1 y (h y (TF _ hy))
   cases y with
   | mk o t n a b =>
   have hw:1<=wE (.mk o t n a b):=by rw [wE];omega
   have h3:=Zrb o t n (ZqN a) (ZdY (h _ (TF _ hy))).1.1 (ZdY (h _ (TF _ hy))).1.2;have h4:=Zbm a (by rw [Zcx];exact Tn.2 (ZdY (h _ (TF _ hy))).2);simp only [Tc,Tf,Tj];rw [exT,wE];omega
  refine ⟨?_,?_⟩
  ·show (exT x).length+(Zt2 l).length<=64 * szS wE (x::l);rw [szS];unfold Zt2
   have:szS (fun e=>wE e) l=szS wE l:=rfl;omega
  show (exT x).length+(Zmt l).length<=64 * szS wE (x::l)
  cases l with
  | nil=>rw [szS,szS];simp [Zmt];omega
  | cons y l =>
  have h5:=Zd1 y (h y sM);rw [szS,szS];simp only [Zmt];omega
def ZyQ (op:Nat):(ZxX op).length<=4:=by unfold ZxX;(repeat' split) <;> decide
def ZyR (op:Nat):(ZkK op).length<=5:=by unfold ZkK;(repeat' split) <;> decide
def Zi9 {fr fin:Bs} {l:List Ex} (h:∀x∈l,Zq0 x=true):(XW fr fin l).length<=fr.length+64 * szS wE l+fin.length:=by
 have:=JO (T:=exT) (w:=wE) fun x hx=>Zd1 x (h x hx)
 unfold XW ZBy
 simp only [Tc];omega
mutual
def ZyS:∀x:Li,Zv5 x=true->(liT x).length+4<=64 * wL x
 | .mk op rel args body a,h=>by
  obtain ⟨r1,r2⟩:=Zq1 h;have h1:=Zhj body (by rw [Zhh];exact Tn.2 r2);have h2:=Zi9 (fr:=[40]) (fin:=[41]) r1;obtain ⟨h3,h4⟩:=ZkT r1;have h5:=ZyQ op;have h6:=ZyR op;have h7:=W6 (Zs1 body);rw [liT,wL];simp only [Tf,Tj] at h2;split
  ·exact mq90
  split
  ·simp only [Tc];omega
  split
  ·simp only [Tc];omega
  exact mq90
def Zhj:∀l:List Li,Zol l=true->((Zs1 l).map fun s=>s.length+4).sum<=64 * wLs l
 | [],h=>by rw [Zs1];simp
 | x::l,h=>by
  rw [Zol,Tl] at h;have h1:=ZyS x h.1;have h2:=Zhj l h.2;rw [Zs1,wLs];simp only [Tx,List.sum_cons];omega
end
def ZyT {r:Ru} (h:Zq2 r=true):(ruT r).length+10<=64 * wRu r:=by
 simp only [Zq2,Tl] at h;have r1:=Tn.1 h.1;have r2:=Tn.1 h.2;have h1:=Zi9 (fr:=[40]) (fin:=[41]) r1;have h2:=Zhj r.body (by rw [Zhh];exact h.2);have h3:=W6 (Zs1 r.body);rw [Zmu] at h2;unfold ruT wRu
 simp only [Tf,Tj] at h1;split
 ·exact mq90
 exact mq90
def ZyU (f:Fi):(fiT f).length+4<=64 * wFi f:=by
 unfold fiT wFi;simp only [Tc,Tf,Tj];omega
def ZkU (fr fin:Bs) (l:List Fi):(ZoZ fr l fin).length<=fr.length+64 * szS wFi l+fin.length:=by
 have:=JO (T:=fiT) (w:=wFi) (l:=l) fun x _=>ZyU x
 unfold ZoZ
 simp only [Tc];omega
def ZyV (c:Ca):(caT c).length+4<=64 * wCa c:=by
 have:=ZkU (c.name++[32,123]) [125] c.fields;unfold caT wCa
 simp only [Tc,Tf,Tj] at this |-;omega
def ZfU (l:List Bs):(Zj [32,124,32] l).length<=(l.map fun s=>s.length+4).sum:=by
 match l with
 | []=>exact T6 _
 | [x]=>simp [Zj]
 | x::y::l =>
  have ih:=ZfU (y::l);rw [Zj]
  ·simp only [Tc,Tx,List.sum_cons,Tf,Tj] at ih |-;omega
  intro h;cases h
def ZyW (t:Ty):(tyT t).length+4<=64 * wTy t:=by
 have h1:=ZkU [32,61,32,91] [93] t.fields;have h2:=ZfU (t.cases.map caT);rw [Sj] at h2;have h3:=Zrc (T:=caT) (w:=wCa) t.cases fun x _=>ZyV x
 have h4:(t.cases.map fun x=>(caT x).length+4).sum=(t.cases.map ((fun s:Bs=>s.length+4)∘caT)).sum:=rfl;rw [h4] at h3;unfold tyT wTy
 simp only [Tf,Tj] at h1;simp only [Tc,Tf,Tj];split
 ·exact mq90
 split
 ·omega
 exact mq90
def ZyX (d:Re):(reT d).length+4<=64 * wRe d:=by
 have h1:=ZkU ([100,101,99,108,32]++(d.name++[40])) [41] d.fields;have hi:∀(b:Bool) (s:Bs),(if b then s else []).length<=s.length:=fun b s=>by cases b <;> simp
 have i1:=hi d.inn [32,105,110,112,117,116];have i2:=hi d.out [32,111,117,116,112,117,116];have i3:=hi d.inl [32,105,110,108,105,110,101];unfold reT wRe
 simp only [Tc,Tf,Tj] at h1 i1 i2 i3 |-;omega
def ZkV (l:List Bs):(ZBz l).length<=2+64 * szS wBs l:=by
 have h1:=JO (T:=fun s:Bs=>s) (w:=wBs) (l:=l) fun x _=>by unfold wBs;omega
 rw [List.map_id'] at h1;unfold ZBz
 split
 ·simp
 exact mq90
def ZyY (i:Ini):(inT i).length+4<=64 * wIn i:=by
 have:=ZkV i.types;unfold inT wIn
 exact mq90
def ZyZ (o:Ov):(ovT o).length+4<=64 * wOv o:=by
 unfold ovT wOv
 exact mq90
mutual
def Zrd:∀u:Un,Zv6 u=true->(unT u).length+4<=64 * wUn u
 | .mk a b c d e f,h=>by
  simp only [Zv6,Tl] at h;have r1:=Tn.1 h.1;have h1:=Wd (T:=tyT) (w:=wTy) (l:=a) fun x _=>ZyW x
  have h2:=Wd (T:=reT) (w:=wRe) (l:=b) fun x _=>ZyX x
  have h3:=Wd (T:=fun r=>ruT r++[10]) (w:=wRu) (l:=c) fun x hx=>by
   have:=ZyT (r1 x hx);exact mq90
  have h4:=ZmA d h.2;have h5:=Wd (T:=inT) (w:=wIn) (l:=e) fun x _=>ZyY x
  have h6:=Wd (T:=ovT) (w:=wOv) (l:=f) fun x _=>ZyZ x
  rw [unT,wUn];simp only [Tc];omega
def Zy0:∀c:Co,Zq3 c=true->(coT c).length+4<=64 * wCo c+64
 | .mk nm ps base tys u a,h=>by
  rw [Zq3] at h;have h1:=Zrd u h;have h2:=ZkV ps;have h3:=ZkV tys;rw [coT,wCo];split
  ·exact mq90
  exact mq90
def ZmA:∀l:List Co,ZfS l=true->((ZAN l).flatten).length<=64 * ZxY l
 | [],h=>by rw [ZAN];simp
 | x::l,h=>by
  rw [ZfS,Tl] at h;have h1:=Zy0 x h.1;have h2:=ZmA l h.2;rw [ZAN,ZxY];simp only [List.flatten_cons,Tc];omega
end
def Zun (n:Nat):Zh:=fun args σ K=>match args,σ with
 | [.agg c],⟨[],[],0⟩=>∃pl x,c=(WZ pl x).map .d/\((ZkJ x=true->Zv6 x=true)/\wUn x<=n/\n<=16777216/\noC x) /\
   ((ZkJ x=false->K (.ret (.tuple [.d (.str []),.d (.int .i64 160)])) ⟨[],[],0⟩)/\(ZkJ x=true->∀r,JK 65536 16384 Zbb (unT x)=r->K (.ret (.tuple [.d (.str (ZdZ (unT x) r).1),.d (.int .i64 (ZdZ (unT x) r).2)])) ⟨[],[],0⟩))
 | _,_=>False
def ZCu {n:Nat}:OKw w0 nG [(67,Zt4 n),(68,ZDJ n),(70,Zaw),(69,Zmp),(71,Zq7)] 41 (Zun n):=by
 refine pwo Tryz.func41 fun args σ K h=>?_
 unfold Zun at h
 split at h
 ·obtain ⟨pl,⟨u1,u2,u3,u4,u5,u6⟩,rfl,⟨w8,hz,hn,hnc⟩,ha,hb⟩:=h;refine pwv [] 0 true ?_;refine ⟨pl,(.mk u1 u2 u3 u4 u5 u6),rfl,⟨hz,oM,hnc⟩,fun b bq=>?_⟩
  cases b with
  | false =>
   conv=>whnf
   exact ha bq
  | true =>
  have h1:=w8 bq;have h2:=Zrd _ h1;have hb:=hb bq;(conv=>whnf);refine ⟨[],unT (.mk u1 u2 u3 u4 u5 u6),rfl,⟨.inl rfl,rfl,rfl⟩,⟨pl,(.mk u1 u2 u3 u4 u5 u6),rfl,⟨by rw [ZDI,bq,h1];rfl,hz,oM,hnc⟩,rfl⟩,by simp only [Tj];omega,fun p' ju=>?_⟩;obtain ⟨T,hT⟩:∃T,unT (.mk u1 u2 u3 u4 u5 u6)=T:=⟨_,rfl⟩
  rw [hT] at hb h2 |-;rcases ju with rfl | rfl
  all_goals
   conv=>whnf
   refine ⟨T,⟨rfl,rfl,rfl,iM,oM⟩,?_⟩;(conv=>whnf);refine ⟨oM,fun x hx=>?_⟩;have hb:=hb x hx
   cases x with
   | ok v L =>
    obtain ⟨v1,v2,v3,v4,v5,v6⟩:=v;unfold ZFo
    dsimp only;(conv=>whnf);refine ⟨T,⟨rfl,rfl,rfl,iM,oM⟩,?_⟩;(conv=>whnf);refine ⟨fun g=>absurd g dM,fun _=>wN ?_⟩;exact hb
   | err p c =>
   conv=>whnf
   refine ⟨T,⟨rfl,rfl,rfl,iM,oM⟩,?_⟩;(conv=>whnf);refine ⟨fun g=>wN ?_,fun g=>wN ?_⟩
   ·rw [ZdZ,Ti oM] at hb;exact hb
   rw [ZdZ,Te oM] at hb;exact hb
 exact h.elim
def ZGa (hg:GlobOK w0 nG) (hN:NumOK w0 nG) (hL:LexC w0 nG) (n:Nat):PC w0 nG 41 (Zun n) :=
 ZCu ⟨ZF5 hL n,cWU hN hL n,ZfT,ZEq hg,ZyG,trivial⟩
def Zre {α:Type} (enc:Pl->α->List D) (c:Nat->α->Prop) (f:α->Bs×Nat) (n:Nat):Zh:=fun args σ K=>match args,σ with
 | [.agg cs],⟨[],[],0⟩=>∃pl e,cs=(enc pl e).map .d/\(c n e/\n<=16777216)/\∀s k,f e=(s,k)->K (.ret (.tuple [.d (.str s),.d (.int .i64 (k:Nat))])) ⟨[],[],0⟩
 | _,_=>False
def Zja (x:Un):Bs×Nat:=if ZkJ x=true then ZdZ (unT x) (JK 65536 16384 Zbb (unT x)) else ([],160)
def Zd2 (n:Nat) (x:Un):Prop:=Zv6 x=true/\wUn x<=n/\(unT x).length<1073741824/\noC x
def ZEM (hg:GlobOK w0 nG) (hN:NumOK w0 nG) (hL:LexC w0 nG) (n:Nat):PC w0 nG 41 (Zre WZ Zd2 Zja n):=(ZGa hg hN hL n).weaken1 fun args σ K h=>by
 unfold Zre at h
 unfold Zun
 split at h
 ·obtain ⟨pl,e,h1,⟨⟨h2,h3,h4,h6⟩,h5⟩,h⟩:=h;exact ⟨pl,e,h1,⟨fun _=>h2,h3,oM,h6⟩,fun g=>h _ _ (by rw [Zja,Te (by rw [g];simp)]),fun g x hx=>h _ _ (by rw [Zja,Ti g,hx])⟩
 exact h.elim
structure Pr where
 types:List Ty
 rels:List Re
 rules:List Ru
def Zax (pl:Pl) (p:Pr):List D:=[.sl (p.types.map (Z6 pl)),.sl (p.rels.map (Zu pl)),.sl (p.rules.map (Zs pl))]
def Zd3 (p:Pr):Nat:=1+szS ZDD p.types+szS ZDE p.rels+szS ZbX p.rules
def mvM {α:Type} (f:α->MV) (m:List (Bs×α)):List (Bs×MV):=m.map fun x=>(x.1,f x.2)
def mvI (n:Int):MV:=.one (.int .i64 n)
def mvB (b:Bool):MV:=.one (.bool b)
def mvC (c:Int×Int):MV:=.agg [.int .i64 c.1,.int .i64 c.2]
def ZJ {α:Type} {f:α->MV} {k:Bs}:∀m:List (Bs×α),lkM k (mvM f m)=(lkM k m).map f
 | []=>rfl
 | (x,v)::l=>by
  have ih:=ZJ (f:=f) (k:=k) l;simp only [mvM,Tx,lkM] at ih |-
  cases decide (k=x) with
  | true=>rfl
  | false=>exact ih
def WC {α:Type} {f:α->MV} {k:Bs} {v:α}:∀m:List (Bs×α),Z2 k (f v) (mvM f m)=mvM f (Z2 k v m)
 | []=>rfl
 | (x,u)::l=>by
  have ih:=WC (f:=f) (k:=k) (v:=v) l;simp only [mvM,Tx,Z2] at ih |-
  cases decide (k=x) with
  | true=>rfl
  | false=>simp only [ih];rfl
def Zrf {α:Type} {f:α->MV} (m:List (Bs×α)):(mvM f m).length=m.length:=Td ..
def JP {α:Type} {k s:Bs} {v:α}:∀m:List (Bs×α),lkM s (Z2 k v m)=if s=k then some v else lkM s m
 | []=>by simp only [Z2,lkM];by_cases h:s=k <;> simp [h]
 | (x,u)::l=>by
  have ih:=JP (k:=k) (s:=s) (v:=v) l;simp only [Z2]
  by_cases h:k=x
  ·subst h;rw [TY rfl];simp only [lkM]
   by_cases g:s=k <;> simp [g]
  rw [decide_eq_false h];simp only [lkM,ih]
  by_cases g:s=x
  ·subst g;rw [TY rfl];simp only;rw [Te (fun e=>h e.symm)]
  rw [decide_eq_false g]
def putM_len {α:Type} {k:Bs} {v:α}:∀{m:List (Bs×α)},lkM k m=none->(Z2 k v m).length=m.length+1
 | [],_=>rfl
 | (x,u)::l,h=>by
  simp only [lkM] at h;simp only [Z2]
  cases hd:decide (k=x) with
  | true=>rw [hd] at h;cases h
  | false=>rw [hd] at h;simp only [Tf,putM_len h]
def ZAQ:Bs:=[110,117,109,98,101,114]
def ZDK:Bs:=[115,121,109,98,111,108]
def Zjb (s:Bs):Bool:=decide (s=ZAQ) || decide (s=ZDK)
def XT:Nat->List Bs->List (Bs×Int)->List (Bs×Int)
 | _,[],m=>m
 | i,s::l,m=>XT (i+1) l (if (lkM s m).isNone=true then Z2 s (i:Int) m else m)
def YR (l:List Bs):List (Bs×Int):=XT 0 l []
def Zuo (p:Pr):List (Bs×Int):=YR (p.types.map (·.name))
def JQ (p:Pr):List (Bs×Int):=YR (p.rels.map (·.name))
def ZkW (i:Nat):Nat->List Ca->List (Bs×(Int×Int))->List (Bs×(Int×Int))
 | _,[],m=>m
 | k,c::l,m=>ZkW i (k+1) l (if (lkM c.name m).isNone=true then Z2 c.name ((i:Int),(k:Int)) m else m)
def Zhk:Nat->List Ty->List (Bs×(Int×Int))->List (Bs×(Int×Int))
 | _,[],m=>m
 | i,t::l,m=>Zhk (i+1) l (ZkW i 0 t.cases m)
def Y6 (p:Pr):List (Bs×(Int×Int)):=Zhk 0 p.types []
def Zhl:List Ty->List (Bs×Int)->List (Bs×Int)
 | [],m=>m
 | t::l,m=>Zhl l (if t.kind≠1/\(lkM t.name m).isNone=true then Z2 t.name (m.length:Int) m else m)
def JR (p:Pr):List (Bs×Int):=Zhl p.types [(ZAQ,0),(ZDK,1)]
def XH (p:Pr) (s:Bs):Option Bs:=match lkM s (Zuo p) with
 | none=>none
 | some i=>if Zjb s=true then none else match p.types[i.toNat]? with
  | some t=>if t.kind=1/\t.base≠[] then some t.base else none
  | none=>none
def W7 (p:Pr) (s:Bs):Bool:=(lkM s (Zuo p)).isSome || Zjb s
def Zd4 {s:Bs}:∀(l:List Bs) (i:Nat) (m:List (Bs×Int)) (n:Int),lkM s (XT i l m)=some n->lkM s m=some n\/∃k:Nat,n=i+k/\l[k]?=some s
 | [],i,m,n,h=>.inl h
 | x::l,i,m,n,h=>by
  rcases Zd4 l (i+1) _ n h with h | ⟨k,h1,h2⟩
  ·split at h
   ·rw [JP] at h;split at h
    ·rename_i e;cases h;exact .inr ⟨0,oM,by simp [e]⟩
    exact .inl h
   exact .inl h
  exact .inr ⟨k+1,oM,by simpa using h2⟩
def ZfV {s:Bs} {l:List Bs} {n:Int} (h:lkM s (YR l)=some n):∃k:Nat,n=k/\l[k]?=some s:=by
 rcases Zd4 l 0 [] n h with h | ⟨k,h1,h2⟩
 ·cases h
 exact ⟨k,oM,h2⟩
def Zrg {p:Pr} {s:Bs} {n:Int} (h:lkM s (Zuo p)=some n):∃(k:Nat) (t:Ty),n=k/\p.types[k]?=some t/\t.name=s:=by
 exact mq141
abbrev Zjc (pl:Pl) (p:Pr) (b:Nat):List PV:=[.mp b,.mp (b+1),.mp (b+2),.mp (b+3),.d (.sl (p.types.map (Z6 pl))),.d (.sl (p.rels.map (Zu pl))),.d (.sl (p.rules.map (Zs pl)))]
abbrev Zjd (p:Pr):List Box:=[.dmap (mvM mvI (Zuo p)),.dmap (mvM mvI (JQ p)),.dmap (mvM mvI (JR p)),.dmap (mvM mvC (Y6 p))]
abbrev Zje (pl:Pl) (p:Pr):List Box:=.cells 149 (Zjc pl p 1)::Zjd p
def BP (p:Pr):Prop:=Zd3 p<=1073741824/\p.types=[]
def BP.no {p:Pr} (h:BP p) {j:Nat} (hj:j<p.types.length) {A:Prop}:A:=by rw [h.2] at hj;cases hj
def BP.len {p:Pr} (h:BP p):p.types.length<=1073741824/\p.rels.length<=1073741824/\p.rules.length<=1073741824:=by
 unfold BP Zd3 at h
 have h1:=ZE ZDD p.types;have h2:=ZE ZDE p.rels;have h3:=ZE ZbX p.rules;omega
def Uk {α:Type} {f:α->Nat} {l:List α} {x:α} (h:x∈l):f x<szS f l:=by
 obtain ⟨i,hi,rfl⟩:=T5 h;exact ZQ f l i hi
def BP.ty {p:Pr} (h:BP p) {t:Ty} (ht:t∈p.types):t.fields.length<=1073741824/\t.cases.length<=1073741824/\∀c∈t.cases,c.fields.length<=1073741824:=by
 unfold BP Zd3 at h
 have h1:=Uk (f:=ZDD) ht;have e1:ZDD t=1+szS sz0 t.fields+szS ZBv t.cases:=rfl;have h2:=ZE sz0 t.fields;have h3:=ZE ZBv t.cases;refine ⟨oM,oM,fun c hc=>?_⟩;have h4:=Uk (f:=ZBv) hc;have e2:ZBv c=1+szS sz0 c.fields:=rfl;have h5:=ZE sz0 c.fields;omega
def BP.re {p:Pr} (h:BP p) {d:Re} (hd:d∈p.rels):d.fields.length<=1073741824:=by
 unfold BP Zd3 at h
 have h1:=Uk (f:=ZDE) hd;have e1:ZDE d=1+szS sz0 d.fields:=rfl;have h2:=ZE sz0 d.fields;omega
def Zhm (p:Pr) (b:Bs):Nat->Bs->Bool
 | 0,_=>false
 | n+1,a=>if a=b then true else match XH p a with
  | none=>false
  | some c=>Zhm p b n c
def Wo (p:Pr) (a b:Bs):Bool:=Zhm p b (p.types.length+1) a
def Zbn (p:Pr):Nat->Bs->Option Bs
 | 0,_=>none
 | n+1,a=>match XH p a with
  | none=>some a
  | some c=>Zbn p n c
def Zwb (p:Pr) (a:Bs):Option Bs:=Zbn p (p.types.length+1) a
def Ul (p:Pr):Nat->Bs->Nat
 | 0,_=>0
 | n+1,a=>match XH p a with
  | none=>0
  | some c=>Ul p n c+1
def Xk (p:Pr) (a:Bs):Int:=(lkM ((Zwb p a).getD []) (JR p)).getD 0
def ZX (p:Pr) (l:List Fi):List Int:=l.map fun f=>Xk p f.typ
def ZCv (p:Pr):Prop:=∀s,(Zwb p s).isSome=true
def ZfW {p:Pr}:∀{n m:Nat} {a r:Bs},Zbn p n a=some r->n<=m->Zbn p m a=some r
 | 0,_,_,_,h,_=>by cases h
 | n+1,0,_,_,_,h=>oM
 | n+1,m+1,a,r,h,aw=>by
  simp only [Zbn] at h |-;split at h
  ·exact h
  exact ZfW h oM
def Zup {p:Pr} {n:Nat} {a c r:Bs} (hb:XH p a=some c) (h:Zbn p n a=some r):∃m,n=m+1/\Zbn p m c=some r:=by
 cases n with
 | zero=>cases h
 | succ m=>refine ⟨m,rfl,?_⟩;simpa only [Zbn,hb] using h
def Zuq {p:Pr} {a c r:Bs} (hb:XH p a=some c) (h:Zwb p a=some r):Zwb p c=some r:=by
 obtain ⟨m,h1,h2⟩:=Zup hb h;exact ZfW h2 oM
def Zur {p:Pr} {a:Bs} (hb:XH p a=none):Zwb p a=some a:=by simp only [Zwb,Zbn,hb]
def ZmB {p:Pr}:∀{n:Nat} {a c r:Bs},Zbn p n a=some r->XH p a=some c->∀m,n<=m->Ul p m c<Ul p m a
 | 0,_,_,_,h,_,_,_=>by cases h
 | n+1,a,c,r,h,hb,m,hm=>by
  obtain ⟨k,rfl⟩:∃k,m=k+1:=⟨m - 1,oM⟩
  simp only [Zbn,hb] at h;have e:Ul p (k+1) a=Ul p k c+1:=by simp only [Ul,hb]
  rw [e]
  cases hc:XH p c with
  | none=>simp only [Ul,hc];omega
  | some d =>
  have e2:Ul p (k+1) c=Ul p k d+1:=by simp only [Ul,hc]
  rw [e2];have:=ZmB h hc k oM;omega
def Zay (body:List PV->Pl->Pr->(PEnd->Prop)->Prop):Zh:=fun args σ K=>match args,σ with
 | .ptr 0 0::rest,⟨bx,[],0⟩=>∃pl p,bx=Zje pl p/\BP p/\body rest pl p fun pe=>K pe ⟨bx,[],0⟩
 | _,_=>False
def ZkX:Zh:=fun args σ K=>match args,σ with
 | [.d (.str s)],⟨[],[],0⟩=>∀b,Zjb s=b->K (.ret (.d (.bool b))) ⟨[],[],0⟩
 | _,_=>False
def ZmC:PC w0 nG 134 ZkX:=by
 refine pwe Tryz.func134 fun args σ K h=>?_
 unfold ZkX at h
 split at h
 ·rename_i s
  refine pwv [] 0 false ?_;refine ZGr (fun h1=>wN ?_) (fun h1=>wN ?_)
  ·exact h _ (by simp [Zjb,show s=ZAQ from h1])
  exact h _ (by simp [Zjb,show ¬s=ZAQ from h1];rfl)
 exact h.elim
def Zjf:Zh:=Zay fun rest pl p K=>match rest with
 | [.d (.str s)]=>∀x,XH p s=x->K (.ret (.tuple [.d (.str (x.getD [])),.d (.bool x.isSome)]))
 | _=>False
def Zrh:Tbl:=[(134,ZkX)]
def Zy1 (ht:TO w0 nG Zrh):PC w0 nG 80 Zjf:=by
 refine pwt ht Tryz.func80 fun args σ K h=>?_
 unfold Zjf Zay at h
 split at h
 ·obtain ⟨pl,p,rfl,hp,h⟩:=h;split at h
  ·rename_i s
   refine pwv [] 5 false ?_;refine ZGz (fun v hv=>?_) (fun hv=>?_);rotate_left
   ·rw [ZJ,Option.map_eq_none_iff] at hv;(conv=>whnf);exact h none (by simp only [XH,hv])
   rw [ZJ] at hv;obtain ⟨n,hn,rfl⟩:=TD.1 hv;obtain ⟨k,⟨t1,t2,t3,t4,t5,t6⟩,rfl,ht,ao⟩:=Zrg hn;have hk:p.types[(k:Int).toNat]?=some ⟨t1,t2,t3,t4,t5,t6⟩:=by rw [Tg];exact ht
   have hr:(p.types.map (Z6 pl))[(k:Int).toNat]?=some (Z6 pl ⟨t1,t2,t3,t4,t5,t6⟩):=by rw [Th,hk];rfl
   conv=>whnf
   intro b hb
   cases b with
   | true =>
    conv=>whnf
    exact h none (by simp only [XH,hn,hb,if_true])
   | false =>
   conv=>whnf
   refine ⟨_,oM,hr,wN ?_⟩;refine ZGu (fun hc=>wN ?_) (fun hc=>wN ?_)
   ·exact h none (by simp only [XH,hn,hb,hk];rw [Te sM,Te];intro g;exact hc (by simp only [g.1];rfl))
   refine ⟨_,oM,hr,wN ?_⟩;refine ⟨_,oM,hr,wN ?_⟩;have dv:t1=1:=by have hc:(t1:Int)=1:=hc;omega
   cases t3 with
   | nil=>exact h none (by simp only [XH,hn,hb,hk];rw [Te sM,Te sM])
   | cons x t3=>exact h (some (x::t3)) (by simp only [XH,hn,hb,hk];rw [Te sM,Ti ⟨dv,sM⟩])
  exact h.elim
 exact h.elim
def Zcy:Zh:=Zay fun rest pl p K=>match rest with
 | [.d (.str s)]=>∀b,W7 p s=b->K (.ret (.d (.bool b)))
 | _=>False
def Zri:OKw w0 nG Zrh 79 Zcy:=by
 refine pwo Tryz.func79 fun args σ K h=>?_
 unfold Zcy Zay at h
 split at h
 ·obtain ⟨pl,p,rfl,hp,h⟩:=h;split at h
  ·rename_i s
   refine pwv [] 5 false ?_;refine ZGz (fun v hv=>?_) (fun hv=>wN ?_)
   ·rw [ZJ] at hv;obtain ⟨n,hn,rfl⟩:=TD.1 hv;(conv=>whnf);exact h true (by simp [W7,hn])
   rw [ZJ,Option.map_eq_none_iff] at hv;intro b hb
   conv=>whnf
   exact h b (by simp [W7,hv,hb])
  exact h.elim
 exact h.elim
def Vw:Zh:=Zay fun rest pl p K=>match rest with
 | [.d (.str s)]=>ZCv p/\∀n,Xk p s=n->K (.ret (.d (.int .i64 n)))
 | _=>False
def ZmD:Tbl:=[(80,Zjf)]
def Zrj:OKw w0 nG ZmD 135 Vw:=by
 refine pwo Tryz.func135 fun args σ K h=>?_
 unfold Vw Zay at h
 split at h
 ·obtain ⟨pl,p,rfl,hp,h⟩:=h;split at h
  ·rename_i s
   obtain ⟨he,h⟩:=h;obtain ⟨r,hr⟩:=Sw.1 (he s);refine pwv [(1,⟨[1],[0],fun vs σ=>∃a,vs=[.d (.str a)]/\σ=⟨Zje pl p,[],0⟩/\Zwb p a=some r,fun vs _=>match vs with | [.d (.str a)]=>Ul p (p.types.length+1) a | _=>0⟩)] 5 false ?_;refine ⟨⟨s,rfl,rfl,hr⟩,?_⟩
   rintro vs σ1 ⟨a,rfl,rfl,ha⟩
   conv=>whnf
   refine ⟨pl,p,rfl,hp,fun x hx=>?_⟩
   cases x with
   | none =>
    have nw:r=a:=by rw [Zur hx] at ha;exact (Option.some.inj ha).symm
    subst nw;(conv=>whnf);refine ZGz (fun v hv=>?_) (fun hv=>wN ?_)
    ·rw [ZJ] at hv;obtain ⟨n,hn,rfl⟩:=TD.1 hv;(conv=>whnf);exact h n (by simp [Xk,hr,hn])
    rw [ZJ,Option.map_eq_none_iff] at hv;exact h 0 (by simp [Xk,hr,hv])
   | some c =>
   conv=>whnf
   exact ⟨⟨c,rfl,rfl,Zuq hx ha⟩,ZmB ha hx _ (Tt _)⟩
  exact h.elim
 exact h.elim
def Zhn:Zh:=Zay fun rest pl p K=>match rest with
 | [.d (.str a),.d (.str b)]=>∀x,Wo p a b=x->K (.ret (.d (.bool x)))
 | _=>False
def Zrk:OKw w0 nG ZmD 144 Zhn:=by
 refine pwo Tryz.func144 fun args σ K h=>?_
 unfold Zhn Zay at h
 split at h
 ·obtain ⟨pl,p,rfl,hp,h⟩:=h;split at h
  ·rename_i s b
   have aa:=hp.len.1;have hl:(p.types.map (Z6 pl)).length=p.types.length:=Td ..;refine pwu [(2,⟨[1,16],[0,2,15],fun vs σ=>∃a j,vs=[.d (.str a),.d (.int .i64 j)]/\σ=⟨Zje pl p,[],0⟩/\(0<=j/\j<=p.types.length+1)/\Zhm p b (p.types.length+1 - j.toNat) a=Wo p s b,
    fun vs _=>match vs with | [_,.d (.int _ j)]=>((p.types.length:Int)+1 - j).toNat | _=>0⟩)] 5 false ?_
   conv=>whnf
   refine Zk ?_;refine ⟨⟨s,0,rfl,rfl,⟨oM,oM⟩,rfl⟩,?_⟩
   rintro vs σ1 ⟨a,j,rfl,rfl,⟨tj,hj1⟩,ha⟩
   conv=>whnf
   refine ZGr (fun hc=>?_) (fun hc=>?_);rotate_left
   ·conv=>whnf
    rw [show p.types.length+1 - j.toNat=0 by omega] at ha;exact h false (by rw [<- ha];rfl)
   obtain ⟨q,hq⟩:∃q,p.types.length+1 - j.toNat=q+1:=⟨p.types.length - j.toNat,oM⟩
   rw [hq] at ha;simp only [Zhm] at ha;(conv=>whnf);refine ZGr (fun w8=>wN ?_) (fun w8=>wN ?_)
   ·rw [Ti w8] at ha;exact h true ha.symm
   rw [Te w8] at ha;refine ⟨pl,p,rfl,hp,fun x hx=>?_⟩;rw [hx] at ha
   cases x with
   | none =>
    conv=>whnf
    exact h false ha.symm
   | some c =>
   conv=>whnf
   refine Zk ?_;refine ⟨⟨c,j+1,rfl,rfl,⟨oM,oM⟩,?_⟩,?_⟩
   ·rw [show p.types.length+1 - (j+1).toNat=q by omega];exact ha
   show ((p.types.length:Int)+1 - (j+1)).toNat<((p.types.length:Int)+1 - j).toNat;omega
  exact h.elim
 exact h.elim
abbrev Zus (pl:Pl) (p:Pr):List Box:=.cells 79 [.ptr 1 0]::.cells 149 (Zjc pl p 2)::Zjd p
def Zy2 {α:Type} (enc:α->List D) (cond:α->Prop) (q:Pr->α->Bool):Zh:=fun args σ K=>match args,σ with
 | [.agg c,.ptr 0 0],⟨bx,[],0⟩=>∃pl p x,bx=Zus pl p/\c=(enc x).map .d/\(BP p/\cond x)/\∀b,q p x=b->K (.ret (.d (.bool b))) ⟨bx,[],0⟩
 | _,_=>False
def ZfX {α:Type} (q:α->Bool):Nat->List α->Int
 | _,[]=>-1
 | i,x::l=>if q x=true then i else ZfX q (i+1) l
def Zd5 {α:Type} {q:α->Bool}:∀(l:List α) (i:Nat),(0<=ZfX q i l)↔l.any q=true
 | [],i=>by simp [ZfX]
 | x::l,i=>by
  simp only [ZfX,SJ]
  cases hq:q x with
  | true=>simp
  | false=>simpa using Zd5 l (i+1)
def Zrl {α:Type} (clo:FuncId) (enc:α->List D) (cond:α->Prop) (q:Pr->α->Bool):Zh:=fun args σ K=>match args,σ with
 | [.d (.sl rows),.func g [] [.ptr 0 0]],⟨bx,[],0⟩=>∃pl p l,bx=Zus pl p/\rows=l.map enc/\(g=clo/\BP p/\l.length<=1073741824/\∀x∈l,cond x)/\∀i,ZfX (q p) 0 l=i->K (.ret (.d (.int .i64 i))) ⟨bx,[],0⟩
 | _,_=>False
def Zrm {α:Type} (clo:FuncId) (enc:α->List D) (cond:α->Prop) (q:Pr->α->Bool):Zh:=fun args σ K=>match args,σ with
 | [.d (.sl rows),.func g [] [.ptr 0 0]],⟨bx,[],0⟩=>∃pl p,∃l:List α,bx=Zus pl p/\rows=l.map enc/\(g=clo/\BP p/\l.length<=1073741824/\∀x∈l,cond x)/\∀b,l.any (q p)=b->K (.ret (.d (.bool b))) ⟨bx,[],0⟩
 | _,_=>False
def Zjg (p:Pr) (l:List Fi):Bool:=!(l.any fun f=>!W7 p f.typ)
def Zbo:{α:Type}->α->Prop:=fun _=>True
def Zuu:OKw w0 nG [(79,Zcy)] 133 (Zy2 Zp Zbo (fun p (f:Fi)=>!W7 p f.typ)):=by
 refine pwo Tryz.func133 fun args σ K h=>?_
 unfold Zy2 at h
 split at h
 ·obtain ⟨pl,p,⟨f1,f2⟩,rfl,rfl,⟨hp,hcx⟩,h⟩:=h;refine pwv [] 6 false ?_;refine ⟨pl,p,rfl,hp,fun b hb=>wN ?_⟩;exact h _ (by simp only [hb])
 exact h.elim
def Zuw:OKw w0 nG [(133,Zy2 Zp Zbo (fun p (f:Fi)=>!W7 p f.typ))] 197 (Zrl 133 Zp Zbo (fun p (f:Fi)=>!W7 p f.typ)):=by
 refine pwo Tryz.func197 fun args σ K h=>?_
 unfold Zrl at h
 split at h
 ·obtain ⟨pl,p,l,rfl,rfl,⟨rfl,hp,hlen,aan⟩,h⟩:=h;have hl:(l.map Zp).length=l.length:=Td ..;refine pwu [(2,⟨[8],[0,1,7],fun vs σ=>∃j:Nat,vs=[.d (.int .i64 j)]/\σ=⟨Zus pl p,[],0⟩/\j<=l.length/\ZfX ((fun p (f:Fi)=>!W7 p f.typ) p) j (l.drop j)=ZfX ((fun p (f:Fi)=>!W7 p f.typ) p) 0 l,
   mu1 l.length⟩)] 6 false ?_
  conv=>whnf
  refine ⟨⟨0,rfl,rfl,oM,rfl⟩,?_⟩
  rintro vs σ1 ⟨j,rfl,rfl,hj,ha⟩
  conv=>whnf
  refine ZGr (fun hc=>?_) (fun hc=>?_);rotate_left
  ·conv=>whnf
   rw [Tm oM] at ha;exact h (-1) ha.symm
  have aa:j<l.length:=oM;rw [Tk aa] at ha;have hr:(l.map Zp)[(j:Int).toNat]?=some (Zp l[j]):=by rw [Tg,Th,Ta aa];rfl
  have hcx:=aan _ (TA aa);generalize l[j]=x at ha hr hcx;obtain ⟨f1,f2⟩:=x;(conv=>whnf);refine ⟨_,oM,hr,wN ?_⟩;refine ⟨pl,p,_,rfl,rfl,⟨hp,hcx⟩,fun b hb=>?_⟩;exact mq164
 exact h.elim
def Zuy:OKw w0 nG [(197,Zrl 133 Zp Zbo (fun p (f:Fi)=>!W7 p f.typ))] 132 (Zrm 133 Zp Zbo (fun p (f:Fi)=>!W7 p f.typ)):=by
 refine pwo Tryz.func132 fun args σ K h=>?_
 unfold Zrm at h
 split at h
 ·obtain ⟨pl,p,l,rfl,rfl,hc,h⟩:=h;refine pwv [] 6 false ?_;refine ⟨pl,p,l,rfl,rfl,hc,fun i hi=>wN ?_⟩;exact h _ (by rw [Bool.eq_iff_iff,decide_eq_true_iff,<- hi];exact (Zd5 l 0).symm)
 exact h.elim
def Zho:Zh:=Zay fun rest pl p K=>match rest with
 | [.d (.sl rows)]=>∃l:List Fi,rows=l.map Zp/\l.length<=1073741824/\∀b,Zjg p l=b->K (.ret (.d (.bool b)))
 | _=>False
def ZuA:OKw w0 nG [(132,Zrm 133 Zp Zbo (fun p (f:Fi)=>!W7 p f.typ))] 78 Zho:=by
 refine pwo Tryz.func78 fun args σ K h=>?_
 unfold Zho Zay at h
 split at h
 ·obtain ⟨pl,p,rfl,hp,h⟩:=h;split at h
  ·obtain ⟨l,rfl,hlen,h⟩:=h;refine pwv [] 5 false ?_;refine ⟨pl,p,l,rfl,rfl,⟨rfl,hp,hlen,fun _ _=>trivial⟩,fun b hb=>wN ?_⟩;exact h _ (by simp only [Zjg,hb])
  exact h.elim
 exact h.elim
def W8 (l:List Int):List (List D):=l.map fun n=>[.int .i64 n]
def Zaz:Zh:=Zay fun rest pl p K=>match rest with
 | [.d (.sl rows)]=>∃l:List Fi,rows=l.map Zp/\(ZCv p/\l.length<=1073741824)/\K (.ret (.d (.sl (W8 (ZX p l)))))
 | _=>False
def Zoq (ht:TO w0 nG [(135,Vw)]):PC w0 nG 198 Zaz:=by
 refine pwt ht Tryz.func198 fun args σ K h=>?_
 unfold Zaz Zay at h
 split at h
 ·obtain ⟨pl,p,rfl,hp,h⟩:=h;split at h
  ·obtain ⟨l,rfl,⟨he,hlen⟩,h⟩:=h;have hl:(l.map Zp).length=l.length:=Td ..;refine pwu [(3,⟨[5,10],[0,8,9],fun vs σ=>∃j:Nat,vs=[.sl 0 3 (W8 (ZX p (l.take j))),.d (.int .i64 j)]/\σ=⟨Zje pl p,[0],1⟩/\j<=l.length,
    mu2 l.length⟩)] 5 false ?_
   conv=>whnf
   refine ⟨⟨0,rfl,rfl,oM⟩,?_⟩
   rintro vs σ1 ⟨j,rfl,rfl,hj⟩
   conv=>whnf
   refine ZGr (fun hc=>?_) (fun hc=>?_);rotate_left
   ·conv=>whnf
    rw [List.take_of_length_le oM];exact h
   have aa:j<l.length:=oM;have ht:ZX p (l.take (j+1))=ZX p (l.take j)++[Xk p l[j].typ]:=by simp only [ZX,List.take_succ,Ta aa,Option.toList_some,TM,Tx,TN]
   have hr:(l.map Zp)[(j:Int).toNat]?=some (Zp l[j]):=by rw [Tg,Th,Ta aa];rfl
   have hlr:(W8 (ZX p (l.take j))).length=j:=by simp [W8,ZX];omega
   generalize l[j]=x at ht hr;obtain ⟨f1,f2⟩:=x;(conv=>whnf);refine ⟨_,oM,hr,wN ?_⟩;refine ⟨pl,p,rfl,hp,he,fun n hn=>wN ?_⟩;refine ⟨fun r hr=>by simp at hr;subst hr;rfl,?_,?_,?_⟩
   ·show ((W8 (ZX p (l.take j))).length+1) * 8<=2 ^ 47;omega
   ·show (W8 (ZX p (l.take j))).length+1<=2 ^ 47;omega
   conv=>whnf
   refine Zk ?_;refine ⟨⟨j+1,?_,rfl,oM⟩,?_⟩
   ·rw [ht,hn];simp only [W8,TM,Tx,TN];rfl
   show ((l.length:Int) - ((j:Int)+1)).toNat<((l.length:Int) - (j:Int)).toNat;omega
  exact h.elim
 exact h.elim
def Vx {s:Bs}:∀(l:List Bs) (i:Nat) (m:List (Bs×Int)),XT i (l++[s]) m=if (lkM s (XT i l m)).isNone=true then Z2 s ((i:Int)+l.length) (XT i l m) else XT i l m
 | [],i,m=>by simp [XT]
 | x::l,i,m=>by
  simp only [Sl,XT,Vx l (i+1),Tf];rw [show ((i+1:Nat):Int)+(l.length:Int)=(i:Int)+((l.length+1:Nat):Int) by omega]
  try rfl
def UL {α:Type} (enc:Pl->α->List D) (nm:α->Bs):Zh:=fun args σ K=>match args,σ with
 | [.agg c],⟨[],[],0⟩=>∃pl x,c=(enc pl x).map .d/\K (.ret (.d (.str (nm x)))) ⟨[],[],0⟩
 | _,_=>False
def UM {α:Type} (clo:FuncId) (enc:Pl->α->List D) (nm:α->Bs):Zh:=fun args σ K=>match args,σ with
 | [.d (.sl rows),.func g [] []],⟨[],[],0⟩=>∃pl,∃l:List α,rows=l.map (enc pl)/\(g=clo/\l.length<=1073741824)/\K (.ret (.mp 0)) ⟨[.dmap (mvM mvI (YR (l.map nm)))],[],0⟩
 | _,_=>False
def ZkY:PC w0 nG 73 (UL Z6 (·.name)):=by
 refine pwe Tryz.func73 fun args σ K h=>?_
 exact mq118
def Zk0:OKw w0 nG [(73,UL Z6 (·.name))] 72 (UM 73 Z6 (·.name)):=by
 refine pwo Tryz.func72 fun args σ K h=>?_
 unfold UM at h
 split at h
 ·obtain ⟨pl,l,rfl,⟨rfl,hlen⟩,h⟩:=h;have hl:(l.map (Z6 pl)).length=l.length:=Td ..;refine pwu [(3,⟨[13],[1,5,11,12],fun vs σ=>∃j:Nat,vs=[.d (.int .i64 j)]/\σ=⟨[.dmap (mvM mvI (YR ((l.take j).map (·.name))))],[],0⟩/\j<=l.length,
   mu1 l.length⟩)] 1 false ?_
  conv=>whnf
  refine ⟨⟨0,rfl,rfl,oM⟩,?_⟩
  rintro vs σ1 ⟨j,rfl,rfl,hj⟩
  conv=>whnf
  refine ZGr (fun hc=>?_) (fun hc=>?_);rotate_left
  ·conv=>whnf
   rw [List.take_of_length_le oM];exact h
  have aa:j<l.length:=oM;have hs:YR ((l.take (j+1)).map (·.name))=if (lkM l[j].name (YR ((l.take j).map (·.name)))).isNone=true then Z2 l[j].name (j:Int) (YR ((l.take j).map (·.name))) else YR ((l.take j).map (·.name)):=by
   exact mq111
  have hr:(l.map (Z6 pl))[(j:Int).toNat]?=some (Z6 pl l[j]):=by rw [Tg,Th,Ta aa];rfl
  exact mq25
 exact h.elim
def Zk1:PC w0 nG 75 (UL Zu (·.name)):=by
 refine pwe Tryz.func75 fun args σ K h=>?_
 exact mq118
def Zk3:OKw w0 nG [(75,UL Zu (·.name))] 74 (UM 75 Zu (·.name)):=by
 refine pwo Tryz.func74 fun args σ K h=>?_
 unfold UM at h
 split at h
 ·obtain ⟨pl,l,rfl,⟨rfl,hlen⟩,h⟩:=h;have hl:(l.map (Zu pl)).length=l.length:=Td ..;refine pwu [(3,⟨[13],[1,5,11,12],fun vs σ=>∃j:Nat,vs=[.d (.int .i64 j)]/\σ=⟨[.dmap (mvM mvI (YR ((l.take j).map (·.name))))],[],0⟩/\j<=l.length,
   mu1 l.length⟩)] 1 false ?_
  conv=>whnf
  refine ⟨⟨0,rfl,rfl,oM⟩,?_⟩
  rintro vs σ1 ⟨j,rfl,rfl,hj⟩
  conv=>whnf
  refine ZGr (fun hc=>?_) (fun hc=>?_);rotate_left
  ·conv=>whnf
   rw [List.take_of_length_le oM];exact h
  have aa:j<l.length:=oM;have hs:YR ((l.take (j+1)).map (·.name))=if (lkM l[j].name (YR ((l.take j).map (·.name)))).isNone=true then Z2 l[j].name (j:Int) (YR ((l.take j).map (·.name))) else YR ((l.take j).map (·.name)):=by
   exact mq111
  have hr:(l.map (Zu pl))[(j:Int).toNat]?=some (Zu pl l[j]):=by rw [Tg,Th,Ta aa];rfl
  exact mq25
 exact h.elim
abbrev Zrn (pl:Pl) (p:Pr):List PV:=[.d (.sl (p.types.map (Z6 pl))),.d (.sl (p.rels.map (Zu pl))),.d (.sl (p.rules.map (Zs pl)))]
abbrev Zwc (pl:Pl) (p:Pr) (cs:List (Bs×(Int×Int))) (sh:List (Bs×Int)):List Box:=[.cells 32 (Zrn pl p),.dmap (mvM mvC cs),.dmap (mvM mvI sh),
 .cells 149 ([.mp 4,.mp 5,.mp 2,.mp 1]++Zrn pl p),.dmap (mvM mvI (Zuo p)),.dmap (mvM mvI (JQ p))]
def Zcz:Zh:=fun args σ K=>match args,σ with
 | [.agg c],⟨[],[],0⟩=>∃pl p,c=(Zax pl p).map .d/\BP p/\K (.ret (.ptr 3 0)) ⟨Zwc pl p (Y6 p) (JR p),[],0⟩
 | _,_=>False
def Zjh:Tbl:=[(72,UM 73 Z6 (·.name)),(74,UM 75 Zu (·.name))]
abbrev ZEN (p:Pr) (j:Nat):List (Bs×(Int×Int)):=Zhk 0 (p.types.take j) []
abbrev ZEO (p:Pr) (j:Nat):List (Bs×Int):=Zhl (p.types.take j) [(ZAQ,0),(ZDK,1)]
def Zro (ht:TO w0 nG Zjh):PC w0 nG 42 Zcz:=by
 refine Yn Zr mixed (tbl:=Zjh) ht Tryz.func42 rfl kR kR ?_;intro args σ K h
 unfold Zcz at h
 split at h
 ·obtain ⟨pl,p,rfl,hp,h⟩:=h;have hlen:=hp.len;have hl:(p.types.map (Z6 pl)).length=p.types.length:=Td ..;refine ⟨Zg [(5,⟨[33],[3,31,32],fun vs σ=>∃j:Nat,vs=[.d (.int .i64 j)]/\σ=⟨Zwc pl p (ZEN p j) (ZEO p j),[],0⟩/\j<=p.types.length,
    fun vs _=>match vs with | [.d (.int _ j)]=>((p.types.length:Int) - j).toNat | _=>0⟩)],ZV [],ZC [],6,false,sM,Tb rfl,?_⟩
  conv=>whnf
  refine ⟨pl,p.types,rfl,⟨rfl,hlen.1⟩,wN ?_⟩;refine ⟨pl,p.rels,rfl,⟨rfl,hlen.2.1⟩,wN ?_⟩;refine ⟨⟨0,rfl,rfl,oM⟩,?_⟩
  rintro vs σ1 ⟨j,rfl,rfl,hj⟩
  conv=>whnf
  refine ZGr (fun hc=>?_) (fun hc=>?_);rotate_left
  ·have e1:ZEN p j=Y6 p:=by unfold ZEN;rw [List.take_of_length_le oM];rfl
   have e2:ZEO p j=JR p:=by unfold ZEO;rw [List.take_of_length_le oM];rfl
   conv=>whnf
   rw [<- e1,<- e2] at h;exact h
  exact hp.no (show j<p.types.length by omega)
 exact h.elim
abbrev BM:=List (Bs×Bool)
def has (k:Bs) (m:BM):Bool:=(lkM k m).getD false
def ZEP:List Ca->Bool->BM->Bool×BM
 | [],b,m=>(b,m)
 | c::l,b,m=>ZEP l (b || has c.name m) (Z2 c.name true m)
def ZfY:List Ty->BM->BM->Option Nat
 | [],_,_=>none
 | t::l,n,m=>if (ZEP t.cases (has t.name n) m).1=true then some t.at' else ZfY l (Z2 t.name true n) (ZEP t.cases (has t.name n) m).2
def ZEQ (p:Pr) (t:Ty):Bool:=t.cases.any (fun c=>!Zjg p c.fields) || (!Zjg p t.fields || (decide (t.kind=1) && !W7 p t.base))
def Zor (p:Pr):List Ty->Option Nat
 | []=>none
 | t::l=>if ZEQ p t=true then some t.at' else Zor p l
def Zji (p:Pr) (s:Bs):Nat->Bs->Bool
 | 0,_=>false
 | n+1,a=>match XH p a with
  | none=>false
  | some c=>if c=s then true else Zji p s n c
def ZuB (p:Pr) (t:Ty):Bool:=Zji p t.name (p.types.length+1) t.name
def Zhp (p:Pr):List Ty->Option Nat
 | []=>none
 | t::l=>if ZuB p t=true then some t.at' else Zhp p l
def Zhq (p:Pr):Nat->List Re->Option (Nat×Nat)
 | _,[]=>none
 | i,d::l=>if (lkM d.name (JQ p)).getD 0≠(i:Int) then some (d.at',170) else if Zjg p d.fields=false then some (d.at',180) else if (d.inl && (d.inn || d.out))=true then some (d.at',185) else Zhq p (i+1) l
def Zjj:BM:=[(ZAQ,true),(ZDK,true)]
def ZmE (p:Pr):Option (Nat×Nat):=match ZfY p.types Zjj [] with
 | some a=>some (a,170)
 | none=>match Zor p p.types with
  | some a=>some (a,180)
  | none=>match Zhp p p.types with
   | some a=>some (a,172)
   | none=>Zhq p 0 p.rels
def ZFA (pl:Pl):Option (Nat×Nat)->List PV
 | none=>[.d (.int .i64 0),.d (.int .i64 0)]
 | some (a,e)=>[.d (.int .i64 (pl a)),.d (.int .i64 e)]
def ZuC:Zh:=Zay fun rest pl p K=>match rest with
 | []=>∀x,ZmE p=x->K (.ret (.agg (ZFA pl x)))
 | _=>False
abbrev ZGb (pl:Pl) (p:Pr) (x y:List (Bs×MV)):List Box:=Zje pl p++[.cells 79 [.ptr 0 0],.cells 81 [.d (.int .i64 0),.d (.int .i64 0)],.dmap x,.dmap y]
abbrev dSt (pl:Pl) (p:Pr) (n m:BM):List Box:=ZGb pl p (mvM mvB n) (mvM mvB m)
def Zwd:Tbl:=[(78,Zho)]
def optK.bool {k:Bs} {m:BM} {A:MV->Prop} (h:A (mvB (has k m))):optK (lkM k (mvM mvB m)) A (A (mvB false)):=by
 rw [ZJ];unfold has at h
 cases hk:lkM k m with
 | none=>rw [hk] at h;exact h
 | some b=>rw [hk] at h;exact h
def ZCw (ht:TO w0 nG Zwd):PC w0 nG 43 ZuC:=by
 refine Yn Zr mixed (tbl:=Zwd) ht Tryz.func43 rfl kR kR ?_;intro args σ K h
 unfold ZuC Zay at h
 split at h
 ·obtain ⟨pl,p,rfl,hp,h⟩:=h;split at h
  ·have hlen:=hp.len;have hl:(p.types.map (Z6 pl)).length=p.types.length:=Td ..;have hlr:(p.rels.map (Zu pl)).length=p.rels.length:=Td ..;refine ⟨Zg [(3,⟨[30],[1,2,3,4,28,29],fun vs σ=>∃(j:Nat) (n m:BM),vs=[.d (.int .i64 j)]/\σ=⟨dSt pl p n m,[],0⟩/\j<=p.types.length/\ZfY (p.types.drop j) n m=ZfY p.types Zjj [],
     fun vs _=>match vs with | [.d (.int _ j)]=>((p.types.length:Int) - j).toNat | _=>0⟩),
    (17,⟨[70],[1,2,68,69],fun vs σ=>∃(j:Nat) (n m:BM),vs=[.d (.int .i64 j)]/\σ=⟨dSt pl p n m,[],0⟩/\j<=p.types.length/\Zor p (p.types.drop j)=Zor p p.types,
     fun vs _=>match vs with | [.d (.int _ j)]=>((p.types.length:Int) - j).toNat | _=>0⟩),
    (24,⟨[108],[1,2,106,107],fun vs σ=>∃(j:Nat) (n m:BM),vs=[.d (.int .i64 j)]/\σ=⟨dSt pl p n m,[],0⟩/\j<=p.types.length/\Zhp p (p.types.drop j)=Zhp p p.types,
     fun vs _=>match vs with | [.d (.int _ j)]=>((p.types.length:Int) - j).toNat | _=>0⟩),
    (36,⟨[147],[1,2,145,146],fun vs σ=>∃(j:Nat) (n m:BM),vs=[.d (.int .i64 j)]/\σ=⟨dSt pl p n m,[],0⟩/\j<=p.rels.length/\Zhq p j (p.rels.drop j)=Zhq p 0 p.rels,
     fun vs _=>match vs with | [.d (.int _ j)]=>((p.rels.length:Int) - j).toNat | _=>0⟩)],ZV [],ZC [],5,false,sM,Tb rfl,?_⟩
   conv=>whnf
   refine ⟨⟨0,Zjj,[],rfl,rfl,oM,rfl⟩,?_⟩
   rintro vs σ1 ⟨j,n,m,rfl,rfl,hj,ha⟩
   conv=>whnf
   refine ZGr (fun hc=>?_) (fun hc=>?_)
   ·exact hp.no (show j<p.types.length by  omega)
   have tj:j=p.types.length:=oM;subst tj;rw [SG] at ha;have fx:ZfY p.types Zjj []=none:=ha.symm
   clear ha
   conv=>whnf
   refine ⟨⟨0,n,m,rfl,rfl,oM,rfl⟩,?_⟩
   clear n m
   rintro vs σ1 ⟨j,n,m,rfl,rfl,hj,ha⟩
   conv=>whnf
   refine ZGr (fun hc=>?_) (fun hc=>?_)
   ·exact hp.no (show j<p.types.length by  omega)
   have tj:j=p.types.length:=oM;subst tj;rw [SG] at ha;have cg:Zor p p.types=none:=ha.symm
   clear ha
   conv=>whnf
   refine ⟨⟨0,n,m,rfl,rfl,oM,rfl⟩,?_⟩
   clear n m
   rintro vs σ1 ⟨j,n,m,rfl,rfl,hj,ha⟩
   conv=>whnf
   refine ZGr (fun hc=>?_) (fun hc=>?_)
   ·exact hp.no (show j<p.types.length by  omega)
   have tj:j=p.types.length:=oM;subst tj;rw [SG] at ha;have ow:Zhp p p.types=none:=ha.symm
   clear ha
   have hdF:ZmE p=Zhq p 0 p.rels:=by simp only [ZmE,fx,cg,ow]
   conv=>whnf
   refine ⟨⟨0,n,m,rfl,rfl,oM,rfl⟩,?_⟩
   clear n m
   rintro vs σ1 ⟨j,n,m,rfl,rfl,hj,ha⟩
   conv=>whnf
   refine ZGr (fun hc=>?_) (fun hc=>?_)
   ·have aa:j<p.rels.length:=by omega
    rw [Tk aa] at ha;simp only [Zhq] at ha;have jw:=hp.re (TA aa);have hr:(p.rels.map (Zu pl))[(j:Int).toNat]?=some (Zu pl p.rels[j]):=by rw [Tg,Th,Ta aa];rfl
    generalize p.rels[j]=d at ha hr jw;obtain ⟨d1,d2,d3,d4,d5,d6⟩:=d;simp only at jw ha;have yes:∀e,Zhq p 0 p.rels=some (d6,e)->K (.ret (.agg (ZFA pl (some (d6,e))))) ⟨Zje pl p,[],0⟩:=fun e g=>h _ (by rw [hdF,g])
    have hμ:((p.rels.length:Int) - ((j:Int)+1)).toNat<((p.rels.length:Int) - (j:Int)).toNat:=oM
    clear h
    have hix:∀A:MV->Prop,A (mvI ((lkM d1 (JQ p)).getD 0))->optK (lkM d1 (mvM mvI (JQ p))) A (A (mvI 0)):=fun A g=>by
     rw [ZJ]
     cases hk:lkM d1 (JQ p) with
     | none=>rw [hk] at g;exact g
     | some b=>rw [hk] at g;exact g
    conv=>whnf
    refine ⟨_,oM,hr,wN ?_⟩;refine hix _ (wN ?_);refine ZGu (fun h1=>wN ?_) (fun h1=>wN ?_)
    ·rw [Ti h1] at ha;exact yes 170 ha.symm
    rw [Te (fun g=>g h1)] at ha;refine ⟨pl,p,rfl,hp,d2,rfl,jw,fun b hb=>?_⟩
    cases b with
    | false =>
     rw [Ti hb] at ha;(conv=>whnf);exact yes 180 ha.symm
    | true =>
    rw [Te (by rw [hb];simp)] at ha;(conv=>whnf)
    cases d5 with
    | false =>
     rw [Te sM] at ha;(conv=>whnf);refine Zk ?_;exact ⟨⟨j+1,n,m,rfl,rfl,oM,ha⟩,hμ⟩
    | true =>
    cases d3 with
    | true =>
     rw [Ti sM] at ha;(conv=>whnf);exact yes 185 ha.symm
    | false =>
    cases d4 with
    | true =>
     rw [Ti sM] at ha;(conv=>whnf);exact yes 185 ha.symm
    | false =>
    rw [Te sM] at ha;(conv=>whnf);refine Zk ?_;exact ⟨⟨j+1,n,m,rfl,rfl,oM,ha⟩,hμ⟩
   have tj:j=p.rels.length:=oM;subst tj;rw [SG] at ha;(conv=>whnf);exact h none (by rw [hdF,<- ha];rfl)
  exact h.elim
 exact h.elim
def prU (p:Pr):Un:=.mk p.types p.rels p.rules [] [] []
abbrev ZCx (pl:Pl) (p:Pr) (b:Nat):List Box:=[.cells 32 (Zrn pl p),.dmap (mvM mvC (Y6 p)),.dmap (mvM mvI (JR p)),
 .cells 149 ([.mp (b+4),.mp (b+5),.mp (b+2),.mp (b+1)]++Zrn pl p),.dmap (mvM mvI (Zuo p)),.dmap (mvM mvI (JQ p))]
abbrev ZER (pl:Pl) (p:Pr):List Box:=.cells 32 (Zrn pl p)::.cells 81 [.d (.int .i64 0),.d (.int .i64 0)]::ZCx pl p 2
def ZmF {p:Pr} {a e:Nat}:∀(l:List Re) (i:Nat),Zhq p i l=some (a,e)->e≠0
 | [],_,h=>by cases h
 | d::l,i,h=>by
  simp only [Zhq] at h;split at h
  ·cases h;decide
  split at h
  ·cases h;decide
  split at h
  ·cases h;decide
  exact ZmF l _ h
def Zy3 {p:Pr} {a e:Nat} (h:ZmE p=some (a,e)):e≠0:=by
 unfold ZmE at h
 split at h
 ·cases h;decide
 split at h
 ·cases h;decide
 split at h
 ·cases h;decide
 exact ZmF _ _ h
abbrev Vs:=List (Bs×Int)
abbrev VS:=Vs×Bool
def ZhZ (p:Pr) (n:Int):Option Ty:=p.types.find? fun t=>decide (t.kind=2) && (decide (0<=n) && decide ((lkM t.name (JR p)).getD 0=n))
def Zjk (p:Pr) (s:Bs):Option (Ty×Ca):=match lkM s (Y6 p) with
 | none=>none
 | some (i,k)=>match p.types[i.toNat]? with
  | none=>none
  | some t=>match t.cases[k.toNat]? with
   | none=>none
   | some c=>some (t,c)
def ZL (p:Pr) (op:Nat) (text:Bs) (Zcc:Nat) (n:Int):List Int :=
 if op=7 then (match Zjk p text with | some tc=>ZX p tc.2.fields | none=>[])
 else if op=6 then (match ZhZ p n with | some t=>ZX p t.fields | none=>[])
 else if op=20 then [1,1] else if op=21\/op=23\/op=25 then [1] else if op=22 then [1,0,0] else List.replicate Zcc 0
def ZeZ (p:Pr) (vs:Vs) (op:Nat) (text:Bs):Int :=
 if op=1 then (lkM text vs).getD (-1)
 else if op=7 then (match Zjk p text with | some tc=>Xk p tc.1.name | none=>-1)
 else if op=6\/op=5\/op=2 then -1 else if op=4\/op=20\/op=22\/op=24 then 1 else 0
def ZuD (t:Bs) (n:Int) (s:VS):VS :=
 if (lkM t s.1).isNone=true\/((lkM t s.1).getD 0=-1/\n≠-1) then (Z2 t n s.1,s.2 || decide (n≠-1)) else s
mutual
def gvE (p:Pr):Ex->Int->VS->VS
 | .mk op text _ args _,n,s=>if op=1 then ZuD text n s
  else gvEs p args (if (ZL p op text args.length n).length=args.length then ZL p op text args.length n else List.replicate args.length (-1)) s
def gvEs (p:Pr):List Ex->List Int->VS->VS
 | e::es,n::ns,s=>gvEs p es ns (gvE p e n s)
 | _,_,s=>s
end
def Y1 (p:Pr) (name:Bs) (Zcc:Nat):List Int:=match lkM name (JQ p) with
 | none=>List.replicate Zcc (-1)
 | some i=>match p.rels[i.toNat]? with
  | none=>List.replicate Zcc (-1)
  | some d=>if d.fields.length=Zcc then ZX p d.fields else List.replicate Zcc (-1)
def ZAR (p:Pr) (vs:Vs):Ex->Int
 | .mk op text _ _ _=>ZeZ p vs op text
def Jh (p:Pr) (vs:Vs):List Ex->Int
 | a::b::_=>if ZAR p vs a≠-1 then ZAR p vs a else ZAR p vs b
 | _=>-1
mutual
def gvL (p:Pr):Li->VS->VS
 | .mk op rel args body _,s=>if op<=2 then gvEs p args (Y1 p rel args.length) s
  else if op<=8 then gvEs p args [Jh p s.1 args,Jh p s.1 args] s
  else gvLs p body (gvEs p args (List.replicate args.length 0) s)
def gvLs (p:Pr):List Li->VS->VS
 | [],s=>s
 | x::l,s=>gvLs p l (gvL p x s)
end
def Um (p:Pr) (r:Ru) (v:Vs):VS:=gvLs p r.body (gvEs p r.args (Y1 p r.head r.args.length) (v,false))
def WD (p:Pr) (r:Ru):Nat->Vs->Option Vs
 | 0,_=>none
 | n+1,v=>if (Um p r v).2=true then WD p r n (Um p r v).1 else some (Um p r v).1
abbrev Flt:=Option (Nat×Nat)
mutual
def rtE (p:Pr) (vs:Vs):Ex->Int->Flt
 | .mk op text _ args a,n =>
  if op=7/\(lkM text (Y6 p)).isNone=true then some (a,184)
  else if (ZeZ p vs op text≠-1/\n≠-1/\ZeZ p vs op text≠n)\/((op=6\/op=5)/\(ZhZ p n).isNone=true)\/(op=1/\ZeZ p vs op text=-1) then some (a,183)
  else if (ZL p op text args.length n).length≠args.length then some (a,182)
  else ZaO p vs args (ZL p op text args.length n)
def ZaO (p:Pr) (vs:Vs):List Ex->List Int->Flt
 | e::es,n::ns=>match rtE p vs e n with
  | some f=>some f
  | none=>ZaO p vs es ns
 | _,_=>none
end
def ZuE (p:Pr) (vs:Vs) (name:Bs) (args:List Ex) (a:Nat) (head:Bool):Flt:=match lkM name (JQ p) with
 | none=>some (a,181)
 | some i=>match p.rels[i.toNat]? with
  | none=>none
  | some d=>if (head && d.inn)=true then some (a,185) else if d.fields.length≠args.length then some (a,182) else ZaO p vs args (Y1 p name args.length)
mutual
def rtL (p:Pr) (vs:Vs):Li->Flt
 | .mk op rel args body a=>if op<=2 then ZuE p vs rel args a false
  else if op<=8 then (match ZaO p vs args [Jh p vs args,Jh p vs args] with
   | some f=>some f
   | none=>if 5<=op/\Jh p vs args≠0/\Jh p vs args≠1 then some (a,183) else none)
  else match ZaO p vs args (List.replicate args.length 0) with
   | some f=>some f
   | none=>Zh0 p vs body
def Zh0 (p:Pr) (vs:Vs):List Li->Flt
 | []=>none
 | x::l=>match rtL p vs x with
  | some f=>some f
  | none=>Zh0 p vs l
end
def Yz (p:Pr) (op:Nat) (text:Bs) (kind:Bs):List Fi :=
 if op=7 then (match Zjk p text with | some tc=>tc.2.fields | none=>[])
 else if op=6 then (match ZhZ p (Xk p kind) with | some t=>t.fields | none=>[]) else []
mutual
def wiE (p:Pr):Ex->Bs->List (Ex×Bs)
 | .mk op text n args a,kind=>(.mk op text n args a,kind)::ZaP p args (Yz p op text kind)
def ZaP (p:Pr):List Ex->List Fi->List (Ex×Bs)
 | e::es,f::fs=>wiE p e f.typ++ZaP p es fs
 | _,_=>[]
end
def Zos (p:Pr) (name:Bs):List Fi:=match lkM name (JQ p) with
 | none=>(match p.rels[0]? with | some d=>d.fields | none=>[])
 | some i=>match p.rels[i.toNat]? with | some d=>d.fields | none=>[]
def VH (p:Pr):Li->List (Ex×Bs)
 | .mk op rel args _ _=>if op=1 then ZaP p args (Zos p rel) else []
def Zjl (p:Pr) (l:List Li):List (Bs×Bs):=(l.flatMap (VH p)).filterMap fun x=>match x with
 | (.mk op text _ _ _,k)=>if op=1 then some (text,k) else none
def VN (p:Pr) (kn:List (Bs×Bs)):List (Ex×Bs)->Flt
 | []=>none
 | (.mk op text _ _ a,k)::l =>
  if (XH p k).isSome=true/\(8<=op\/(op=1/\(kn.any fun y=>decide (y.1=text) && Wo p y.2 k)=false)) then some (a,183) else VN p kn l
def ZmG (p:Pr) (r:Ru):Flt:=VN p (Zjl p r.body) (ZaP p r.args (Zos p r.head))
def Zjm (p:Pr) (r:Ru) (vs:Vs):Flt:=if 64<vs.length then some (r.at',3) else match ZuE p vs r.head r.args r.at' true with
 | some f=>some f
 | none=>match Zh0 p vs r.body with
  | some f=>some f
  | none=>ZmG p r
mutual
def nvE:Ex->List Bs
 | .mk op text _ args _=>if op=1 then [text] else Zhr args
def Zhr:List Ex->List Bs
 | []=>[]
 | e::l=>nvE e++Zhr l
end
mutual
def nvL:Li->List Bs
 | .mk _ _ args body _=>Zhr args++Vb body
def Vb:List Li->List Bs
 | []=>[]
 | x::l=>nvL x++Vb l
end
def nvR (r:Ru):List Bs:=Zhr r.args++Vb r.body
def Zcb (p:Pr) (r:Ru):Vs:=(WD p r ((nvR r).length+1) []).getD []
def Ji (p:Pr):List Ru->Flt
 | []=>none
 | r::l=>match Zjm p r (Zcb p r) with
  | some f=>some f
  | none=>Ji p l
def Zy4 (pl:Pl) (p:Pr):Int×Int:=if (Zja (prU p)).2≠0 then (0,(Zja (prU p)).2) else match ZmE p with
 | some (a,e)=>(pl a,e)
 | none=>match Ji p p.rules with
  | some (a,e)=>(pl a,e)
  | none=>(0,0)
abbrev ZFB (pl:Pl) (r:Ru) (more:Bool):List PV:=[.ptr 1 0,.d (.str r.head),.d (.sl (Ze pl r.args)),.d (.sl (Zx pl r.body)),.d (.int .i64 (pl r.at')),.mp 2,.d (.bool more)]
abbrev Zb1 (pl:Pl) (p:Pr) (r:Ru) (vs:Vs) (more:Bool):List Box:=.cells 165 (ZFB pl r more)::.cells 149 (Zjc pl p 3)::.dmap (mvM mvI vs)::Zjd p
structure OKP (p:Pr):Prop where
 bp:BP p
 ends:ZCv p
def ZaQ (body:List PV->Pl->Pr->Ru->Vs->Bool->(PEnd->Vs->Bool->Prop)->Prop):Zh:=fun args σ K=>match args,σ with
 | .ptr 0 0::rest,⟨bx,[],0⟩=>∃pl p r vs more,bx=Zb1 pl p r vs more/\OKP p/\body rest pl p r vs more fun pe vs' more'=>K pe ⟨Zb1 pl p r vs' more',[],0⟩
 | _,_=>False
def Zd6 {body:List PV->Pl->Pr->Ru->Vs->Bool->(PEnd->Vs->Bool->Prop)->Prop} (hb:∀rest pl p r vs more (K K':PEnd->Vs->Bool->Prop),(∀pe v m,K pe v m->K' pe v m)->body rest pl p r vs more K->body rest pl p r vs more K'):Zy (ZaQ body):=fun args σ K K' hK h=>by
 unfold ZaQ at h |-
 split at h
 ·obtain ⟨pl,p,r,vs,more,h1,h2,h3⟩:=h;exact ⟨pl,p,r,vs,more,h1,h2,hb _ _ _ _ _ _ _ _ (fun pe v m hk=>hK _ _ hk) h3⟩
 exact h.elim
def ZfZ {s:Bs} {i:Nat} {v:Int×Int}:∀(l:List Ca) (k:Nat) (m:List (Bs×(Int×Int))),lkM s (ZkW i k l m)=some v->lkM s m=some v\/∃(j:Nat) (c:Ca),v=((i:Int),((k+j:Nat):Int))/\l[j]?=some c/\c.name=s
 | [],k,m,h=>.inl h
 | c::l,k,m,h=>by
  rcases ZfZ l (k+1) _ h with h | ⟨j,c',h1,h2,h3⟩
  ·split at h
   ·rw [JP] at h;split at h
    ·rename_i e;cases h;exact .inr ⟨0,c,sM,rfl,e.symm⟩
    exact .inl h
   exact .inl h
  exact .inr ⟨j+1,c',by rw [h1];congr 2;omega,by simpa using h2,h3⟩
def Zf0 {s:Bs} {v:Int×Int}:∀(l:List Ty) (i:Nat) (m:List (Bs×(Int×Int))),lkM s (Zhk i l m)=some v->lkM s m=some v\/∃(j k:Nat) (t:Ty) (c:Ca),v=(((i+j:Nat):Int),(k:Int))/\l[j]?=some t/\t.cases[k]?=some c/\c.name=s
 | [],i,m,h=>.inl h
 | t::l,i,m,h=>by
  rcases Zf0 l (i+1) _ h with h | ⟨j,k,t',c,h1,h2,h3,h4⟩
  ·rcases ZfZ _ _ _ h with h | ⟨j,c,h1,h2,h3⟩
   ·exact .inl h
   exact .inr ⟨0,j,t,c,by rw [h1];simp,rfl,h2,h3⟩
  exact .inr ⟨j+1,k,t',c,by rw [h1];congr 2;omega,by simpa using h2,h3,h4⟩
def Zd7 {p:Pr} {s:Bs} {v:Int×Int} (h:lkM s (Y6 p)=some v):∃(j k:Nat) (t:Ty) (c:Ca),v=((j:Int),(k:Int))/\p.types[j]?=some t/\t.cases[k]?=some c/\Zjk p s=some (t,c):=by
 rcases Zf0 _ _ _ h with h | ⟨j,k,t,c,h1,h2,h3,h4⟩
 ·cases h
 rw [Sx] at h1;refine ⟨j,k,t,c,h1,h2,h3,?_⟩;subst h1;simp only [Zjk,h,Tg,h2,h3]
def Zf1 {p:Pr} {s:Bs} (h:lkM s (Y6 p)=none):Zjk p s=none:=by simp only [Zjk,h]
def Zrp:Zh:=ZaQ fun rest pl p r vs more K=>match rest with
 | [.agg c]=>∃e,c=(ZD pl e).map .d/\∀n,ZAR p vs e=n->K (.ret (.d (.int .i64 n))) vs more
 | _=>False
def ZCz:OKw w0 nG [(135,Vw)] 200 Zrp:=by
 refine pwo Tryz.func200 fun args σ K h=>?_
 unfold Zrp ZaQ at h
 split at h
 ·obtain ⟨pl,p,r,vs,more,rfl,hp,h⟩:=h;split at h
  ·obtain ⟨⟨op,text,num,eargs,ea⟩,rfl,h⟩:=h;simp only [ZAR] at h;refine pwv [] 7 false ?_;refine ZGr (fun h1=>?_) (fun h1=>wN ?_)
   ·have h1:op=1:=by omega
    subst h1;(conv=>whnf);refine ZGz (fun v hv=>?_) (fun hv=>wN ?_)
    ·rw [ZJ] at hv;obtain ⟨n,hn,rfl⟩:=TD.1 hv;(conv=>whnf);exact h n (by simp [ZeZ,hn])
    rw [ZJ,Option.map_eq_none_iff] at hv;exact h (-1) (by simp [ZeZ,hv])
   have h1:¬op=1:=fun g=>h1 (by simp only [g];rfl)
   refine ZGr (fun h7=>?_) (fun h7=>?_)
   ·have h7:op=7:=by omega
    subst h7;(conv=>whnf);refine ZGz (fun v hv=>?_) (fun hv=>wN ?_)
    ·rw [ZJ] at hv;obtain ⟨n,hn,rfl⟩:=TD.1 hv;obtain ⟨j,k,t,c,rfl,h2,h3,h4⟩:=Zd7 hn;have hr:(p.types.map (Z6 pl))[(j:Int).toNat]?=some (Z6 pl t):=by rw [Tg,Th,h2];rfl
     obtain ⟨t1,t2,t3,t4,t5,t6⟩:=t;(conv=>whnf)
     (repeat (refine ⟨rfl,?_⟩;conv=>whnf))
     refine ⟨dM,dM,wN ?_⟩;refine ⟨_,oM,hr,wN ?_⟩;refine ⟨pl,p,rfl,hp.bp,hp.ends,fun n hn=>wN ?_⟩
     (repeat (refine ⟨rfl,?_⟩;conv=>whnf))
     exact h n (by simp only [ZeZ];rw [Te dM,Ti trivial,h4];exact hn)
    rw [ZJ,Option.map_eq_none_iff] at hv
    (repeat (refine ⟨rfl,?_⟩;conv=>whnf))
    exact h (-1) (by simp [ZeZ,Zf1 hv])
   have h7:¬op=7:=fun g=>h7 (by simp only [g];rfl)
   repeat' ((conv=>whnf);refine ZGr (fun hc=>?_) (fun hc=>?_))
   all_goals (conv=>whnf)
   all_goals first
    | (exfalso;omega)
    | (refine h _ ?_
       unfold ZeZ
       rw [Te h1,Te h7]
       first
        | rw [Ti oM]
        | rw [Te oM,Ti oM]
        | rw [Te oM,Te oM])
  exact h.elim
 exact h.elim
def optK.int {k:Bs} {m:List (Bs×Int)} {A:MV->Prop} (h:A (mvI ((lkM k m).getD 0))):optK (lkM k (mvM mvI m)) A (A (mvI 0)):=by
 rw [ZJ]
 cases hk:lkM k m with
 | none=>rw [hk] at h;exact h
 | some b=>rw [hk] at h;exact h
abbrev zTy:List PV:=[.d (.int .u8 0),.d (.str []),.d (.str []),.d (.sl []),.d (.sl []),.d (.int .i64 0)]
def ZES (p:Pr) (n:Int) (t:Ty):Bool:=decide (t.kind=2) && (decide (0<=n) && decide ((lkM t.name (JR p)).getD 0=n))
def Zk4:Zh:=ZaQ fun rest pl p r vs more K=>match rest with
 | [.d (.int .i64 n)]=>(∀t,ZhZ p n=some t->K (.ret (.tuple [.agg ((Z6 pl t).map .d),.d (.bool true)])) vs more)/\(ZhZ p n=none->K (.ret (.tuple [.agg zTy,.d (.bool false)])) vs more)
 | _=>False
def ZCA:PC w0 nG 199 Zk4:=by
 refine pwe Tryz.func199 fun args σ K h=>?_
 unfold Zk4 ZaQ at h
 split at h
 ·obtain ⟨pl,p,r,vs,more,rfl,hp,h⟩:=h;split at h
  ·rename_i n
   obtain ⟨hs,hn⟩:=h;have hlen:=hp.bp.len;have hl:(p.types.map (Z6 pl)).length=p.types.length:=Td ..;refine pwu [(2,⟨[17],[0,1,4,15,16],fun w σ=>∃j:Nat,w=[.d (.int .i64 j)]/\σ=⟨Zb1 pl p r vs more++[.cells 122 [.d (.int .u8 0),.d (.str []),.d (.str []),.sl 0 188 [],.sl 1 155 [],.d (.int .i64 0)]],[1,0],2⟩/\j<=p.types.length/\(p.types.drop j).find? (ZES p n)=ZhZ p n,
    fun w _=>match w with | [.d (.int _ j)]=>((p.types.length:Int) - j).toNat | _=>0⟩)] 7 false ?_
   conv=>whnf
   refine ⟨⟨0,rfl,rfl,oM,rfl⟩,?_⟩
   rintro w σ1 ⟨j,rfl,rfl,hj,ha⟩
   conv=>whnf
   refine ZGr (fun hc=>?_) (fun hc=>?_);rotate_left
   ·conv=>whnf
    rw [Tm oM] at ha;exact hn ha.symm
   exact hp.bp.no (show j<p.types.length by omega)
  exact h.elim
 exact h.elim
def ZmH (p:Pr) (n:Int):Ex->List Int
 | .mk op text _ args _=>ZL p op text args.length n
def Zcc:Ex->Nat
 | .mk _ _ _ args _=>args.length
def Zd8:Zh:=ZaQ fun rest pl p r vs more K=>match rest with
 | [.agg c,.d (.int .i64 n)]=>∃e,c=(ZD pl e).map .d/\Zcc e<=2097152/\∀l b,ZmH p n e=l->decide (l.length=Zcc e)=b->K (.ret (.tuple [.d (.sl (W8 l)),.d (.bool b)])) vs more
 | _=>False
def Zrq (l:List Int):(W8 l).length=l.length:=Td ..
def ZuG (ht:TO w0 nG [(198,Zaz),(199,Zk4)]):PC w0 nG 136 Zd8:=by
 refine pwt ht Tryz.func136 fun args σ K h=>?_
 unfold Zd8 ZaQ at h
 split at h
 ·obtain ⟨pl,p,r,vs,more,rfl,hp,h⟩:=h;split at h
  ·rename_i n
   obtain ⟨⟨op,text,num,eargs,ea⟩,rfl,mr,h⟩:=h;simp only [ZmH,Zcc] at h mr;have aw:(Ze pl eargs).length=eargs.length:=by rw [Zc,Td]
   have fin:∀l:List Int,ZL p op text eargs.length n=l->K (.ret (.tuple [.d (.sl (W8 l)),.d (.bool (decide (((W8 l).length:Int)=((Ze pl eargs).length:Int))))])) ⟨Zb1 pl p r vs more,[],0⟩:=fun l hl =>
    h l _ hl (by rw [Zrq,aw];exact decide_eq_decide.2 oM)
   clear h
   refine pwv [] 7 false ?_;refine ZGr (fun h7=>?_) (fun h7=>wN ?_)
   ·have h7:op=7:=by omega
    subst h7;(conv=>whnf);refine ZGz (fun v hv=>?_) (fun hv=>wN ?_)
    ·rw [ZJ] at hv;obtain ⟨m,hn,rfl⟩:=TD.1 hv;obtain ⟨j,k,t,c,rfl,h2,h3,h4⟩:=Zd7 hn;have zp:=(hp.bp.ty (TW h2)).2.2 c (TW h3);have hr:(p.types.map (Z6 pl))[(j:Int).toNat]?=some (Z6 pl t):=by rw [Tg,Th,h2];rfl
     have fd:(t.cases.map XF)[(k:Int).toNat]?=some (XF c):=by rw [Tg,Th,h3];rfl
     obtain ⟨t1,t2,t3,t4,t5,t6⟩:=t;obtain ⟨c1,c2⟩:=c;(conv=>whnf)
     (repeat (refine ⟨rfl,?_⟩;conv=>whnf))
     refine ⟨dM,dM,wN ?_⟩;refine ⟨_,oM,hr,wN ?_⟩;refine ⟨dM,dM,wN ?_⟩;refine ⟨_,oM,fd,wN ?_⟩;refine ⟨pl,p,rfl,hp.bp,c2,rfl,⟨hp.ends,zp⟩,wN ?_⟩
     (repeat (refine ⟨rfl,?_⟩;conv=>whnf))
     exact fin _ (by simp [ZL,h4])
    rw [ZJ,Option.map_eq_none_iff] at hv
    (repeat (refine ⟨rfl,?_⟩;conv=>whnf))
    exact fin [] (by simp [ZL,Zf1 hv])
   have h7:¬op=7:=fun g=>h7 (by simp only [g];rfl)
   refine ZGr (fun h6=>?_) (fun h6=>wN ?_)
   ·have h6:op=6:=by omega
    subst h6;(conv=>whnf);refine ⟨pl,p,r,vs,more,rfl,hp,fun t ht=>wN ?_,fun ht=>wN ?_⟩
    ·obtain ⟨t1,t2,t3,t4,t5,t6⟩:=t;have dz:=(hp.bp.ty (List.mem_of_find?_eq_some ht)).1;refine ⟨pl,p,rfl,hp.bp,t4,rfl,⟨hp.ends,dz⟩,wN ?_⟩
     (repeat (refine ⟨rfl,?_⟩;conv=>whnf))
     exact fin _ (by simp [ZL,ht])
    exact fin [] (by simp [ZL,ht])
   have h6:¬op=6:=fun g=>h6 (by simp only [g];rfl)
   refine ZGr (fun hc=>?_) (fun hc=>?_)
   ·have hc:op=20:=by omega
    subst hc;(conv=>whnf);exact fin [1,1] (by simp [ZL])
   have wc:¬op=20:=fun g=>hc (by simp only [g];rfl)
   repeat' ((conv=>whnf);refine ZGr (fun hc=>?_) (fun hc=>?_))
   all_goals (conv=>whnf)
   all_goals try (exfalso;omega)
   all_goals try
    first
    | (refine fin [1] ?_;unfold ZL;rw [Te h7,Te h6,Te wc,Ti oM];done)
    | (refine fin [1,0,0] ?_;unfold ZL;rw [Te h7,Te h6,Te wc,Te oM,Ti oM];done)
   all_goals
    refine ⟨rfl,dM,by show (Ze pl eargs).length * 1<=_;omega,by show (Ze pl eargs).length * 8<=_;omega,wN ?_⟩;rw [show List.replicate (Ze pl eargs).length [D.int .i64 0]=W8 (List.replicate eargs.length 0) by rw [W8,List.map_replicate,aw]];exact fin _ (by unfold ZL;rw [Te h7,Te h6,Te wc,Te oM,Te oM])
  exact h.elim
 exact h.elim
def Zy5 (m:Nat):Zh:=ZaQ fun rest pl p r vs more K=>match rest with
 | [.agg c,.d (.int .i64 n)]=>∃e,c=(ZD pl e).map .d/\(szE e<=m/\m<=2097152)/\∀v b,gvE p e n (vs,more)=(v,b)->K (.ret (.tuple [])) v b
 | _=>False
def ZaA (p:Pr) (op:Nat) (text:Bs) (k:Nat) (n:Int):List Int:=if (ZL p op text k n).length=k then ZL p op text k n else List.replicate k (-1)
def Zjn (p:Pr) (op:Nat) (text:Bs) (k:Nat) (n:Int):(ZaA p op text k n).length=k:=by unfold ZaA;split <;> simp [*]
def ZCB {m:Nat}:OKw w0 nG [(82,spB Zy5 m),(136,Zd8)] 82 (Zy5 m):=by
 refine pwo Tryz.func82 fun args σ K h=>?_
 unfold Zy5 ZaQ at h
 split at h
 ·obtain ⟨pl,p,r,vs,more,rfl,hp,h⟩:=h;split at h
  ·rename_i n
   obtain ⟨⟨op,text,num,eargs,ea⟩,rfl,⟨hz,hm⟩,h⟩:=h;simp only [szE,XG] at hz;have mr:=ZE szE eargs;have aw:(Ze pl eargs).length=eargs.length:=by rw [Zc,Td]
   refine pwu [(8,⟨[63],[0,8,9,61,62],fun w σ=>∃(j:Nat) (v:Vs) (b:Bool),w=[.d (.int .i64 j)]/\σ=⟨Zb1 pl p r v b++[.cells 67 ((ZD pl (.mk op text num eargs ea)).map .d)],[],0⟩/\j<=eargs.length /\
     gvEs p (eargs.drop j) ((ZaA p op text eargs.length n).drop j) (v,b)=gvEs p eargs (ZaA p op text eargs.length n) (vs,more),
    fun w _=>match w with | [.d (.int _ j)]=>((eargs.length:Int) - j).toNat | _=>0⟩)] 7 false ?_
   conv=>whnf
   refine ZGr (fun h1=>?_) (fun h1=>wN ?_)
   ·have h1:op=1:=by have h1:(op:Int)=1:=h1;omega
    subst h1;have h:=h (ZuD text n (vs,more)).1 (ZuD text n (vs,more)).2 (by simp [gvE]);have yes:((lkM text vs).isNone=true\/((lkM text vs).getD 0=-1/\n≠-1))->∀b,(more || decide (n≠-1))=b->K (.ret (.tuple [])) ⟨.cells 165 (ZFB pl r b)::.cells 149 (Zjc pl p 3)::.dmap (Z2 text (mvI n) (mvM mvI vs))::Zjd p,[],0⟩:=fun g b hb=>by
     simp only [ZuD] at h;rw [Ti g,hb] at h;rw [WC];exact h
    have no:¬((lkM text vs).isNone=true\/((lkM text vs).getD 0=-1/\n≠-1))->K (.ret (.tuple [])) ⟨Zb1 pl p r vs more,[],0⟩:=fun g=>by
     simp only [ZuD] at h;rw [Te g] at h;exact h
    clear h
    conv=>whnf
    refine ZGz (fun v hv=>?_) (fun hv=>wN ?_)
    ·rw [ZJ] at hv;obtain ⟨old,o5,rfl⟩:=TD.1 hv;rw [o5] at yes no;(conv=>whnf);refine ZGr (fun ho=>wN ?_) (fun ho=>wN ?_)
     ·refine ZGu (fun hn=>wN ?_) (fun hn=>wN ?_)
      ·have yes:=yes (.inr ⟨ho,hn⟩);exact mq119
      exact no (by simp [hn])
     exact no (by simp [show ¬old=-1 from ho])
    rw [ZJ,Option.map_eq_none_iff] at hv;have yes:=yes (.inl (by rw [hv];rfl));exact mq119
   have h1:¬op=1:=fun g=>h1 (by simp only [g];rfl)
   have h:=fun v b (g:gvEs p eargs (ZaA p op text eargs.length n) (vs,more)=(v,b))=>h v b (by simp only [gvE];rw [Te h1];exact g)
   refine ⟨pl,p,r,vs,more,rfl,hp,.mk op text num eargs ea,rfl,by show eargs.length<=_;omega,fun l b hl hb=>?_⟩;simp only [ZmH,Zcc] at hl hb
   cases b with
   | true =>
    have hL:ZaA p op text eargs.length n=l:=by unfold ZaA;rw [hl,Ti (SE hb)]
    conv=>whnf
    refine ⟨⟨0,vs,more,rfl,rfl,oM,rfl⟩,?_⟩
    rintro w σ1 ⟨j,v,b,rfl,rfl,hj,ha⟩
    conv=>whnf
    refine ZGr (fun hc=>?_) (fun hc=>?_);rotate_left
    ·conv=>whnf
     rw [Tm oM] at ha;exact h v b ha.symm
    have aa:j<eargs.length:=oM;have av:j<(ZaA p op text eargs.length n).length:=by rw [Zjn];exact aa
    rw [Tk aa,Tk av] at ha;simp only [gvEs] at ha;have hr:(Ze pl eargs)[(j:Int).toNat]?=some (ZD pl eargs[j]):=by rw [Zc,Tg,Th,Ta aa];rfl
    have dr:=ZQ szE eargs j aa;have fd:(W8 l)[(j:Int).toNat]?=some [.int .i64 (ZaA p op text eargs.length n)[j]]:=by
     rw [W8,Tg,Th,<- hL,Ta av];rfl
    generalize (ZaA p op text eargs.length n)[j]=y at ha fd;generalize eargs[j]=x at ha hr dr;obtain ⟨x1,x2,x3,x4,x5⟩:=x;have hμ:((eargs.length:Int) - ((j:Int)+1)).toNat<((eargs.length:Int) - (j:Int)).toNat:=oM;(conv=>whnf);refine ⟨_,oM,hr,wN ?_⟩;refine ⟨_,oM,fd,wN ?_⟩;exact mq86
   | false =>
   have hL:ZaA p op text eargs.length n=List.replicate eargs.length (-1):=by unfold ZaA;rw [hl,Te (of_decide_eq_false hb)]
   conv=>whnf
   refine ⟨⟨0,vs,more,rfl,rfl,oM,rfl⟩,?_⟩
   rintro w σ1 ⟨j,v,b,rfl,rfl,hj,ha⟩
   conv=>whnf
   refine ZGr (fun hc=>?_) (fun hc=>?_);rotate_left
   ·conv=>whnf
    rw [Tm oM] at ha;exact h v b ha.symm
   have aa:j<eargs.length:=oM;have av:j<(ZaA p op text eargs.length n).length:=by rw [Zjn];exact aa
   rw [Tk aa,Tk av] at ha;simp only [gvEs] at ha;have hr:(Ze pl eargs)[(j:Int).toNat]?=some (ZD pl eargs[j]):=by rw [Zc,Tg,Th,Ta aa];rfl
   have dr:=ZQ szE eargs j aa;have hy:(ZaA p op text eargs.length n)[j]=-1:=by simp only [hL,List.getElem_replicate]
   rw [hy] at ha;generalize eargs[j]=x at ha hr dr;obtain ⟨x1,x2,x3,x4,x5⟩:=x;have hμ:((eargs.length:Int) - ((j:Int)+1)).toNat<((eargs.length:Int) - (j:Int)).toNat:=oM;(conv=>whnf);refine ⟨_,oM,hr,wN ?_⟩;exact mq86
  exact h.elim
 exact h.elim
def Zd9:Zh:=ZaQ fun rest pl p r vs more K=>match rest with
 | [.agg c]=>∃op rel a b args body at',c=(YC pl (.mk op rel (a::b::args) body at')).map .d/\∀n,Jh p vs (a::b::args)=n->K (.ret (.d (.int .i64 n))) vs more
 | _=>False
def ZuI:OKw w0 nG [(200,Zrp)] 137 Zd9:=by
 refine pwo Tryz.func137 fun args σ K h=>?_
 unfold Zd9 ZaQ at h
 split at h
 ·obtain ⟨pl,p,r,vs,more,rfl,hp,h⟩:=h;split at h
  ·obtain ⟨op,rel,⟨a1,a2,a3,a4,a5⟩,⟨b1,b2,b3,b4,b5⟩,args,body,at',rfl,h⟩:=h;simp only [Jh] at h;refine pwv [] 7 false ?_;refine ⟨ZD pl (.mk a1 a2 a3 a4 a5),dM,rfl,wN ?_⟩;refine ⟨pl,p,r,vs,more,rfl,hp,.mk a1 a2 a3 a4 a5,rfl,fun n hn=>wN ?_⟩;rw [hn] at h;refine ZGu (fun hc=>wN ?_) (fun hc=>wN ?_)
   ·exact h n (by rw [Ti hc])
   refine ⟨ZD pl (.mk b1 b2 b3 b4 b5),dM,rfl,wN ?_⟩;refine ⟨pl,p,r,vs,more,rfl,hp,.mk b1 b2 b3 b4 b5,rfl,fun n2 kd=>wN ?_⟩;exact h n2 (by rw [Te (fun g=>g hc)];exact kd)
  exact h.elim
 exact h.elim
def RtK (pl:Pl) (K:PEnd->Vs->Bool->Prop) (vs:Vs) (more:Bool):Flt->Prop
 | none=>K (.ret (.tuple [])) vs more
 | some (a,e)=>K (.panic (.iface 81 (.agg [.d (.int .i64 (pl a)),.d (.int .i64 e)]))) vs more
def Zhs {pl:Pl} {K K':PEnd->Vs->Bool->Prop} (hK:∀pe v m,K pe v m->K' pe v m) {vs:Vs} {more:Bool} {x:Flt} (h:RtK pl K vs more x):RtK pl K' vs more x:=by
 cases x with
 | none=>exact hK _ _ _ h
 | some ae=>exact hK _ _ _ h
def Zy6 (m:Nat):Zh:=ZaQ fun rest pl p r vs more K=>match rest with
 | [.agg c,.d (.int .i64 n)]=>∃e,c=(ZD pl e).map .d/\(szE e<=m/\m<=2097152)/\∀x,rtE p vs e n=x->RtK pl K vs more x
 | _=>False
def Zwe (m:Nat):Tbl:=[(138,spB Zy6 m),(200,Zrp),(136,Zd8),(199,Zk4)]
abbrev Zy7 (a e:Int):PV:=.iface 81 (.agg [.d (.int .i64 a),.d (.int .i64 e)])
theorem Zwf {m:Nat} (ht:TO w0 nG (Zwe m)):PC w0 nG 138 (Zy6 m):=by
 refine ZpQ Zr mixed (tbl:=Zwe m) ht Tryz.func138 rfl kR kR ?_;intro args σ K h
 unfold Zy6 ZaQ at h
 split at h
 ·obtain ⟨pl,p,r,vs,more,rfl,hp,h⟩:=h;split at h
  ·rename_i n
   obtain ⟨⟨op,text,num,eargs,ea⟩,rfl,⟨hz,hm⟩,h⟩:=h;simp only [szE,XG] at hz;have mr:=ZE szE eargs;have aw:(Ze pl eargs).length=eargs.length:=by rw [Zc,Td]
   obtain ⟨x,hx⟩:∃x,rtE p vs (.mk op text num eargs ea) n=x:=⟨_,rfl⟩
   have h:=h x hx;refine ⟨Zg [(14,⟨[101],[0,7,99,100],fun w σ=>∃(j:Nat) (c1 c2 c3 c4 c5 c6 d1 d2:D),w=[.d (.int .i64 j)]/\σ=⟨Zb1 pl p r vs more++[.cells 67 ((ZD pl (.mk op text num eargs ea)).map .d),.cells 122 [.d c1,.d c2,.d c3,.d c4,.d c5,.d c6],.cells 156 [.d d1,.d d2]],[],0⟩/\j<=eargs.length /\
     (ZL p op text eargs.length n).length=eargs.length/\ZaO p vs (eargs.drop j) ((ZL p op text eargs.length n).drop j)=x,
    fun w _=>match w with | [.d (.int _ j)]=>((eargs.length:Int) - j).toNat | _=>0⟩)],ZV [],ZC [],ZC [],ZC [],ZwX [(4,([0,2,4,6,7,8,10],fun w σ=>∃c1 c2 c3 c4 c5 c6:D,w=[.ptr 0 0,.d (.int .i64 n),.ptr 7 0,.d (.int .i64 (ZeZ p vs op text)),.d (.sl (W8 (ZL p op text eargs.length n))),.d (.bool (decide ((ZL p op text eargs.length n).length=eargs.length))),.d (.bool (ZhZ p n).isSome)] /\
     σ=⟨Zb1 pl p r vs more++[.cells 67 ((ZD pl (.mk op text num eargs ea)).map .d),.cells 122 [.d c1,.d c2,.d c3,.d c4,.d c5,.d c6]],[],0⟩)),
    (5,([0,2,4,6,7,8,10,12],fun w σ=>∃c1 c2 c3 c4 c5 c6 d1 d2:D,w=[.ptr 0 0,.d (.int .i64 n),.ptr 7 0,.d (.int .i64 (ZeZ p vs op text)),.d (.sl (W8 (ZL p op text eargs.length n))),.d (.bool (decide ((ZL p op text eargs.length n).length=eargs.length))),.d (.bool (ZhZ p n).isSome),.d (.bool (lkM text (Y6 p)).isSome)] /\
     σ=⟨Zb1 pl p r vs more++[.cells 67 ((ZD pl (.mk op text num eargs ea)).map .d),.cells 122 [.d c1,.d c2,.d c3,.d c4,.d c5,.d c6],.cells 156 [.d d1,.d d2]],[],0⟩)),
    (13,([0,4,7],fun w σ=>∃c1 c2 c3 c4 c5 c6 d1 d2:D,w=[.ptr 0 0,.ptr 7 0,.d (.sl (W8 (ZL p op text eargs.length n)))] /\
     σ=⟨Zb1 pl p r vs more++[.cells 67 ((ZD pl (.mk op text num eargs ea)).map .d),.cells 122 [.d c1,.d c2,.d c3,.d c4,.d c5,.d c6],.cells 156 [.d d1,.d d2]],[],0⟩/\(ZL p op text eargs.length n).length=eargs.length /\
     ZaO p vs eargs (ZL p op text eargs.length n)=x))],7,false,sM,Tb rfl,?_⟩
   conv=>whnf
   refine ⟨pl,p,r,vs,more,rfl,hp,.mk op text num eargs ea,rfl,fun own jt=>?_⟩;simp only [ZAR] at jt;subst jt;(conv=>whnf);refine ⟨pl,p,r,vs,more,rfl,hp,.mk op text num eargs ea,rfl,by show eargs.length<=_;omega,fun l ok hl ak=>?_⟩;simp only [ZmH,Zcc] at hl ak;subst hl ak;(conv=>whnf);refine ⟨?_,?_⟩
   ·refine ⟨pl,p,r,vs,more,rfl,hp,fun t we=>wN ?_,fun we=>wN ?_⟩
    ·obtain ⟨t1,t2,t3,t4,t5,t6⟩:=t;exact ⟨_,_,_,_,_,_,by rw [we];rfl,rfl⟩
    exact ⟨_,_,_,_,_,_,by rw [we];rfl,rfl⟩
   rintro w σ1 ⟨c1,c2,c3,c4,c5,c6,rfl,rfl⟩
   conv=>whnf
   refine ⟨wN ?_,?_⟩
   ·refine ZGz (fun v hv=>?_) (fun hv=>wN ?_)
    ·rw [ZJ] at hv;obtain ⟨ij,ji,rfl⟩:=TD.1 hv;obtain ⟨i,k⟩:=ij;(conv=>whnf)
     (repeat (refine ⟨rfl,?_⟩;conv=>whnf))
     exact ⟨_,_,_,_,_,_,_,_,by rw [ji];rfl,rfl⟩
    rw [ZJ,Option.map_eq_none_iff] at hv
    (repeat (refine ⟨rfl,?_⟩;conv=>whnf))
    exact ⟨_,_,_,_,_,_,_,_,by rw [hv];rfl,rfl⟩
   rintro w σ1 ⟨c1,c2,c3,c4,c5,c6,d1,d2,rfl,rfl⟩
   conv=>whnf
   refine ⟨?_,?_⟩
   ·have eok : (op = 7 -> (lkM text (Y6 p)).isSome = true) -> ¬ ((ZeZ p vs op text ≠ -1 /\ n ≠ -1 /\ ZeZ p vs op text ≠ n) \/ ((op = 6 \/ op = 5) /\ (ZhZ p n).isSome = false) \/ (op = 1 /\ ZeZ p vs op text = -1)) -> decide ((ZL p op text eargs.length n).length = eargs.length) = true ->
        (ZL p op text eargs.length n).length=eargs.length/\ZaO p vs eargs (ZL p op text eargs.length n)=x:=fun g1 g2 g3=>by
     have g3:=SE g3;refine ⟨g3,?_⟩;rw [<- hx,rtE,Te (fun g=>by have:=g1 g.1;cases hl:lkM text (Y6 p) <;> simp_all),Te (fun g=>g2 (by
      rcases g with g | ⟨g,g'⟩ | g
      ·exact .inl g
      ·exact .inr (.inl ⟨g,by cases hl:ZhZ p n <;> simp_all⟩)
      exact .inr (.inr g))),Te (fun g=>g g3)]
    have e184:op=7->(lkM text (Y6 p)).isSome=false->K (.panic (Zy7 (pl ea) 184)) ⟨Zb1 pl p r vs more,[],0⟩:=fun g1 g2=>by
     rw [rtE,Ti ⟨g1,by cases hl:lkM text (Y6 p) <;> simp_all⟩] at hx;subst hx;exact h
    have e183:(op=7->(lkM text (Y6 p)).isSome=true)->((ZeZ p vs op text≠-1/\n≠-1/\ZeZ p vs op text≠n)\/((op=6\/op=5)/\(ZhZ p n).isSome=false)\/(op=1/\ZeZ p vs op text=-1))->K (.panic (Zy7 (pl ea) 183)) ⟨Zb1 pl p r vs more,[],0⟩:=fun g1 g2=>by
     rw [rtE,Te (fun g=>by have:=g1 g.1;cases hl:lkM text (Y6 p) <;> simp_all),Ti (by
      rcases g2 with g | ⟨g,g'⟩ | g
      ·exact .inl g
      ·exact .inr (.inl ⟨g,by cases hl:ZhZ p n <;> simp_all⟩)
      exact .inr (.inr g))] at hx
     subst hx;exact h
    have e182:(op=7->(lkM text (Y6 p)).isSome=true)->¬((ZeZ p vs op text≠-1/\n≠-1/\ZeZ p vs op text≠n)\/((op=6\/op=5)/\(ZhZ p n).isSome=false)\/(op=1/\ZeZ p vs op text=-1))->decide ((ZL p op text eargs.length n).length=eargs.length)=false->K (.panic (Zy7 (pl ea) 182)) ⟨Zb1 pl p r vs more,[],0⟩:=fun g1 g2 g3=>by
     have g3:=of_decide_eq_false g3;rw [rtE,Te (fun g=>by have:=g1 g.1;cases hl:lkM text (Y6 p) <;> simp_all),Te (fun g=>g2 (by
      rcases g with g | ⟨g,g'⟩ | g
      ·exact .inl g
      ·exact .inr (.inl ⟨g,by cases hl:ZhZ p n <;> simp_all⟩)
      exact .inr (.inr g))),Ti g3] at hx
     subst hx;exact h
    clear h hx
    generalize decide ((ZL p op text eargs.length n).length=eargs.length)=ok at eok e182 |-;generalize (ZhZ p n).isSome=rec at eok e182 e183 |-;generalize (lkM text (Y6 p)).isSome=br at eok e182 e183 e184 |-;generalize ZeZ p vs op text=own at eok e182 e183 |-;have n2:∀{rec:Bool},¬(own≠-1/\n≠-1/\own≠n)->((op=6\/op=5)->rec=true)->¬(op=1/\own=-1)->¬((own≠-1/\n≠-1/\own≠n)\/((op=6\/op=5)/\rec=false)\/(op=1/\own=-1)):=fun {rec} g1 g2 g3 g=>by
     rcases g with g | ⟨g,g'⟩ | g
     ·exact g1 g
     ·rw [g2 g] at g';cases g'
     exact g3 g
    cases br <;> cases rec <;> cases ok
    all_goals repeat' ((conv=>whnf);first | refine ZGr (fun hc=>?_) (fun hc=>?_) | refine ZGu (fun hc=>?_) (fun hc=>?_))
    all_goals (conv=>whnf)
    all_goals first
     | (exfalso;omega)
     | exact e184 oM rfl
     | exact e183 (fun g=>by first | rfl | (exfalso;omega)) (by first | (left;omega) | (right;left;exact ⟨oM,rfl⟩) | (right;right;omega))
     | exact e182 (fun g=>by first | rfl | (exfalso;omega)) (n2 oM (fun g=>by first | rfl | (exfalso;omega)) oM) rfl
     | exact ⟨c1,c2,c3,c4,c5,c6,d1,d2,rfl,rfl,eok (fun g=>by first | rfl | (exfalso;omega)) (n2 oM (fun g=>by first | rfl | (exfalso;omega)) oM) rfl⟩
   rintro w σ1 ⟨c1,c2,c3,c4,c5,c6,d1,d2,rfl,rfl,hlen,ha⟩
   conv=>whnf
   refine ⟨⟨0,c1,c2,c3,c4,c5,c6,d1,d2,rfl,rfl,oM,hlen,ha⟩,?_⟩
   rintro w σ1 ⟨j,c1,c2,c3,c4,c5,c6,d1,d2,rfl,rfl,hj,hlen,ha⟩
   conv=>whnf
   refine ZGr (fun hc=>?_) (fun hc=>?_);rotate_left
   ·conv=>whnf
    rw [Tm oM] at ha;subst ha;exact h
   have aa:j<eargs.length:=oM;have av:j<(ZL p op text eargs.length n).length:=by rw [hlen];exact aa
   rw [Tk aa,Tk av] at ha;simp only [ZaO] at ha;have hr:(Ze pl eargs)[(j:Int).toNat]?=some (ZD pl eargs[j]):=by rw [Zc,Tg,Th,Ta aa];rfl
   have dr:=ZQ szE eargs j aa;have fd:(W8 (ZL p op text eargs.length n))[(j:Int).toNat]?=some [.int .i64 (ZL p op text eargs.length n)[j]]:=by
    rw [W8,Tg,Th,Ta av];rfl
   have hμ:((eargs.length:Int) - ((j:Int)+1)).toNat<((eargs.length:Int) - (j:Int)).toNat:=oM;generalize (ZL p op text eargs.length n)[j]=y at ha fd;generalize eargs[j]=e at ha hr dr;obtain ⟨x1,x2,x3,x4,x5⟩:=e;(conv=>whnf);refine ⟨_,oM,hr,wN ?_⟩;refine ⟨_,oM,fd,wN ?_⟩;refine ⟨oM,pl,p,r,vs,more,rfl,hp,.mk x1 x2 x3 x4 x5,rfl,⟨oM,oM⟩,fun f hf=>?_⟩;rw [hf] at ha
   cases f with
   | none =>
    simp only [RtK];(conv=>whnf)
    (repeat (refine ⟨rfl,?_⟩;conv=>whnf))
    refine Zk ?_;exact ⟨⟨j+1,c1,c2,c3,c4,c5,c6,d1,d2,rfl,rfl,oM,hlen,ha⟩,hμ⟩
   | some ae =>
   obtain ⟨a,e⟩:=ae;simp only at ha;subst ha;simp only [RtK] at h |-;exact mq35
  exact h.elim
 exact h.elim
def ZcA {p:Pr} {s:Bs} {n:Int} (h:lkM s (JQ p)=some n):∃(k:Nat) (d:Re),n=k/\p.rels[k]?=some d/\d.name=s:=by
 exact mq141
def Zbp {p:Pr} {s:Bs} {n:Nat} {k:Nat} {d:Re} (h:lkM s (JQ p)=some (k:Int)) (hd:p.rels[k]?=some d):Y1 p s n=if d.fields.length=n then ZX p d.fields else List.replicate n (-1):=by
 simp only [Y1,h,Tg,hd]
def Zf2 {p:Pr} {s:Bs} {n:Nat} (h:lkM s (JQ p)=none):Y1 p s n=List.replicate n (-1):=by
 simp only [Y1,h]
def Zjo (p:Pr) (s:Bs) (n:Nat):(Y1 p s n).length=n:=by
 unfold Y1
 split
 ·simp
 split
 ·simp
 split
 ·simp [ZX, *]
 simp
def Zrr (m:Nat):Zh:=ZaQ fun rest pl p r vs more K=>match rest with
 | [.d (.str name),.d (.sl rows),.func f [.ptr 0 0] []]=>∃args,rows=Ze pl args/\f=82/\(szS szE args<=m/\m<=2097152)/\∀v b,gvEs p args (Y1 p name args.length) (vs,more)=(v,b)->K (.ret (.tuple [])) v b
 | _=>False
def ZCD {m:Nat}:OKw w0 nG [(82,Zy5 m),(135,Vw)] 81 (Zrr m):=by
 refine pwo Tryz.func81 fun args σ K h=>?_
 unfold Zrr ZaQ at h
 split at h
 ·obtain ⟨pl,p,r,vs,more,rfl,hp,h⟩:=h;split at h
  ·rename_i name rows f
   obtain ⟨eargs,rfl,rfl,⟨hz,hm⟩,h⟩:=h;have mr:=ZE szE eargs;have aw:(Ze pl eargs).length=eargs.length:=by rw [Zc,Td]
   refine pwu [(3,⟨[46],[0,3,8,9,44,45],fun w σ=>∃(j:Nat) (v:Vs) (b:Bool),w=[.d (.int .i64 j)]/\σ=⟨Zb1 pl p r v b,[],0⟩/\j<=eargs.length /\
     gvEs p (eargs.drop j) ((Y1 p name eargs.length).drop j) (v,b)=gvEs p eargs (Y1 p name eargs.length) (vs,more),
    fun w _=>match w with | [.d (.int _ j)]=>((eargs.length:Int) - j).toNat | _=>0⟩)] 7 false ?_
   have step:∀(j:Nat) (v:Vs) (b:Bool),j<eargs.length->gvEs p (eargs.drop j) ((Y1 p name eargs.length).drop j) (v,b)=gvEs p eargs (Y1 p name eargs.length) (vs,more)->∃(x:Ex) (y:Int),(Ze pl eargs)[(j:Int).toNat]?=some (ZD pl x)/\(Y1 p name eargs.length)[j]?=some y/\szE x<=m /\
     ∀v' b',gvE p x y (v,b)=(v',b')->gvEs p (eargs.drop (j+1)) ((Y1 p name eargs.length).drop (j+1)) (v',b')=gvEs p eargs (Y1 p name eargs.length) (vs,more):=fun j v b aa ha=>by
    have av:j<(Y1 p name eargs.length).length:=by rw [Zjo];exact aa
    have dr:=ZQ szE eargs j aa;rw [Tk aa,Tk av] at ha;simp only [gvEs] at ha;exact ⟨eargs[j],(Y1 p name eargs.length)[j],by rw [Zc,Tg,Th,Ta aa];rfl,Ta av,oM,fun v' b' hg=>by rw [hg] at ha;exact ha⟩
   have fin:∀(j:Nat) (v:Vs) (b:Bool),¬j<eargs.length->gvEs p (eargs.drop j) ((Y1 p name eargs.length).drop j) (v,b)=gvEs p eargs (Y1 p name eargs.length) (vs,more)->K (.ret (.tuple [])) ⟨Zb1 pl p r v b,[],0⟩:=fun j v b hn ha=>by
    rw [Tm oM] at ha;exact h v b ha.symm
   conv=>whnf
   refine ZGz (fun v hv=>?_) (fun hv=>wN ?_)
   ·rw [ZJ] at hv;obtain ⟨i,hi,rfl⟩:=TD.1 hv;obtain ⟨k,d,rfl,h2,h3⟩:=ZcA hi;have hr:(p.rels.map (Zu pl))[(k:Int).toNat]?=some (Zu pl d):=by rw [Tg,Th,h2];rfl
    have hT:=Zbp (n:=eargs.length) hi h2;obtain ⟨d1,d2,d3,d4,d5,d6⟩:=d;simp only at hT;(conv=>whnf);refine ⟨_,oM,hr,wN ?_⟩;refine ⟨⟨0,vs,more,rfl,rfl,oM,rfl⟩,?_⟩
    rintro w σ1 ⟨j,v,b,rfl,rfl,hj,ha⟩
    conv=>whnf
    refine ZGr (fun hc=>?_) (fun hc=>?_);rotate_left
    ·conv=>whnf
     exact fin j v b oM ha
    obtain ⟨⟨x1,x2,x3,x4,x5⟩,y,cj,hy,dr,li⟩:=step j v b oM ha;have hμ:((eargs.length:Int) - ((j:Int)+1)).toNat<((eargs.length:Int) - (j:Int)).toNat:=oM;(conv=>whnf);refine ⟨_,oM,cj,wN ?_⟩;refine ZGr (fun hq=>?_) (fun hq=>?_)
    ·have hq:d2.length=eargs.length:=by have hq:((d2.map Zp).length:Int)=((Ze pl eargs).length:Int):=hq;rw [Td,aw] at hq;omega
     rw [hT,Ti hq,ZX,Th] at hy;obtain ⟨⟨f1,f2⟩,hf,hy⟩:=TD.1 hy;have fd:(d2.map Zp)[(j:Int).toNat]?=some (Zp ⟨f1,f2⟩):=by rw [Tg,Th,hf];rfl
     simp only at hy;(conv=>whnf)
     (repeat (refine ⟨rfl,?_⟩;conv=>whnf))
     refine ⟨_,oM,hr,wN ?_⟩
     (repeat (refine ⟨rfl,?_⟩;conv=>whnf))
     refine ⟨_,oM,fd,wN ?_⟩
     (repeat (refine ⟨rfl,?_⟩;conv=>whnf))
     refine ⟨pl,p,rfl,hp.bp,hp.ends,fun n hn=>?_⟩;rw [hy] at hn;subst hn;(conv=>whnf)
     (repeat (refine ⟨rfl,?_⟩;conv=>whnf))
     exact mq62
    have hq:¬d2.length=eargs.length:=by have hq:¬((d2.map Zp).length:Int)=((Ze pl eargs).length:Int):=hq;rw [Td,aw] at hq;omega
    rw [hT,Te hq,Sz] at hy;split at hy
    ·cases hy
     conv=>whnf
     exact mq62
    cases hy
   rw [ZJ,Option.map_eq_none_iff] at hv;have hT:=Zf2 (n:=eargs.length) hv;refine ⟨⟨0,vs,more,rfl,rfl,oM,rfl⟩,?_⟩
   rintro w σ1 ⟨j,v,b,rfl,rfl,hj,ha⟩
   conv=>whnf
   refine ZGr (fun hc=>?_) (fun hc=>?_);rotate_left
   ·conv=>whnf
    exact fin j v b oM ha
   obtain ⟨⟨x1,x2,x3,x4,x5⟩,y,cj,hy,dr,li⟩:=step j v b oM ha;have hμ:((eargs.length:Int) - ((j:Int)+1)).toNat<((eargs.length:Int) - (j:Int)).toNat:=oM;rw [hT,Sz] at hy;split at hy
   ·cases hy
    conv=>whnf
    refine ⟨_,oM,cj,wN ?_⟩;exact mq62
   cases hy
  exact h.elim
 exact h.elim
def Zf3 (m:Nat):Zh:=ZaQ fun rest pl p r vs more K=>match rest with
 | [.d (.sl rows)]=>∃l,rows=Zx pl l/\(szS szL l<=m/\m<=2097152)/\Zca l=true/\∀v b,gvLs p l (vs,more)=(v,b)->K (.ret (.tuple [])) v b
 | _=>False
def Zrs {op:Nat} {rel:Bs} {args:List Ex} {body:List Li} {a:Nat} (h:YH (.mk op rel args body a)=true) (h1:¬op<=2) (h2:op<=8):∃x y,args=[x,y]:=by
 simp only [YH,YS] at h;rw [Te oM,Ti oM] at h;simp only [Tl,TH] at h
 match args,h.1.2.1 with
 | [x,y],_=>exact ⟨x,y,rfl⟩
def ZmI {op:Nat} {rel:Bs} {args:List Ex} {body:List Li} {a:Nat} (h:YH (.mk op rel args body a)=true):Zca body=true:=by
 simp only [YH,Tl] at h;exact h.2.2
def Zrt (m:Nat):Tbl:=[(83,spB Zf3 m),(82,Zy5 m),(81,Zrr m),(137,Zd9)]
def Zru {m:Nat} (ht:TO w0 nG (Zrt m)):PC w0 nG 83 (Zf3 m):=by
 refine Yn Zr mixed (tbl:=Zrt m) ht Tryz.func83 rfl kR kR ?_;intro args σ K h
 unfold Zf3 ZaQ at h
 split at h
 ·obtain ⟨pl,p,r,vs,more,rfl,hp,h⟩:=h;split at h
  ·rename_i rows
   obtain ⟨l,rfl,⟨hz,hm⟩,ca,h⟩:=h;have mr:=ZE szL l;have aw:(Zx pl l).length=l.length:=by rw [Zn,Td]
   obtain ⟨F,hF⟩:∃F,gvLs p l (vs,more)=F:=⟨_,rfl⟩
   have h:∀v b,F=(v,b)->K (.ret (.tuple [])) ⟨Zb1 pl p r v b,[],0⟩:=fun v b g=>h v b (hF.trans g)
   refine ⟨Zg [(1,⟨[11],[0,9,10],fun w σ=>∃(j:Nat) (v:Vs) (b:Bool),w=[.d (.int .i64 j)]/\σ=⟨Zb1 pl p r v b,[],0⟩/\j<=l.length/\gvLs p (l.drop j) (v,b)=F,
    fun w _=>match w with | [.d (.int _ j)]=>((l.length:Int) - j).toNat | _=>0⟩),
    (4,⟨[18],[0,5,9,10,11,16,17],fun w σ=>∃(j i op:Nat) (rel:Bs) (eargs:List Ex) (body:List Li) (at':Nat) (v:Vs) (b:Bool),w=[.ptr 0 0,.ptr 7 0,.d (.sl (Zx pl l)),.d (.int .i64 ((Zx pl l).length:Nat)),.d (.int .i64 j),.d (.sl (Ze pl eargs)),.d (.int .i64 ((Ze pl eargs).length:Nat)),.d (.int .i64 i)] /\
     σ=⟨Zb1 pl p r v b++[.cells 65 ((YC pl (.mk op rel eargs body at')).map .d)],[],0⟩/\l[j]?=some (.mk op rel eargs body at')/\i<=eargs.length/\(szS szE eargs<=m/\szS szL body+1<=m)/\Zca body=true /\
     gvLs p (l.drop (j+1)) (gvLs p body (gvEs p (eargs.drop i) (List.replicate (eargs.length - i) 0) (v,b)))=F,
    fun w _=>match w with | [_,_,_,_,_,_,.d (.int _ n),.d (.int _ i)]=>(n - i).toNat | _=>0⟩)],ZV [],ZC [4],7,false,sM,Tb rfl,?_⟩
   conv=>whnf
   refine ⟨⟨0,vs,more,rfl,rfl,oM,hF⟩,?_⟩
   rintro w σ1 ⟨j,v,b,rfl,rfl,hj,ha⟩
   conv=>whnf
   refine ZGr (fun hc=>?_) (fun hc=>?_);rotate_left
   ·conv=>whnf
    rw [Tm oM] at ha;exact h v b ha.symm
   have aa:j<l.length:=oM;have hr:(Zx pl l)[(j:Int).toNat]?=some (YC pl l[j]):=by rw [Zn,Tg,Th,Ta aa];rfl
   have dr:=ZQ szL l j aa;have f9:YH l[j]=true:=by rw [Xe,Tn] at ca;exact ca _ (TA aa)
   rw [Tk aa] at ha;simp only [gvLs] at ha;have hμ:((l.length:Int) - ((j:Int)+1)).toNat<((l.length:Int) - (j:Int)).toNat:=oM;have jj:l[j]?=some l[j]:=Ta aa;generalize l[j]=x at ha hr dr f9 jj;obtain ⟨op,rel,eargs,body,at'⟩:=x;simp only [szL,XG,Vt] at dr;simp only [gvL] at ha;have ai:=ZE szE eargs;have f7:(Ze pl eargs).length=eargs.length:=by rw [Zc,Td]
   conv=>whnf
   refine ⟨_,oM,hr,wN ?_⟩;refine ZGr (fun h2=>wN ?_) (fun h2=>wN ?_)
   ·have h2:op<=2:=by have h2:(op:Int)<=2:=h2;omega
    rw [Ti h2] at ha;refine ⟨pl,p,r,v,b,rfl,hp,eargs,rfl,rfl,⟨oM,hm⟩,fun v' b' hg=>wN ?_⟩;rw [hg] at ha;refine Zk ?_;exact ⟨⟨j+1,v',b',rfl,rfl,oM,ha⟩,hμ⟩
   have h2:¬op<=2:=by have h2:¬(op:Int)<=2:=h2;omega
   rw [Te h2] at ha;refine ZGr (fun h8=>?_) (fun h8=>wN ?_)
   ·have h8:op<=8:=by have h8:(op:Int)<=8:=h8;omega
    rw [Ti h8] at ha;obtain ⟨⟨a1,a2,a3,a4,a5⟩,⟨b1,b2,b3,b4,b5⟩,rfl⟩:=Zrs f9 h2 h8;simp only [szS] at dr;(conv=>whnf);refine ⟨pl,p,r,v,b,rfl,hp,op,rel,.mk a1 a2 a3 a4 a5,.mk b1 b2 b3 b4 b5,[],body,at',rfl,fun n hn=>wN ?_⟩;simp only [hn,gvEs] at ha;refine ⟨ZD pl (.mk a1 a2 a3 a4 a5),dM,rfl,wN ?_⟩;refine ⟨pl,p,r,v,b,rfl,hp,.mk a1 a2 a3 a4 a5,rfl,⟨oM,hm⟩,fun v1 b1' ja=>wN ?_⟩;rw [ja] at ha;refine ⟨ZD pl (.mk b1 b2 b3 b4 b5),dM,rfl,wN ?_⟩;refine ⟨pl,p,r,v1,b1',rfl,hp,.mk b1 b2 b3 b4 b5,rfl,⟨oM,hm⟩,fun v2 b2' pt=>wN ?_⟩;rw [pt] at ha;refine Zk ?_;exact ⟨⟨j+1,v2,b2',rfl,rfl,oM,ha⟩,hμ⟩
   have h8:¬op<=8:=by have h8:¬(op:Int)<=8:=h8;omega
   rw [Te h8] at ha;refine ⟨⟨j,0,op,rel,eargs,body,at',v,b,rfl,rfl,jj,oM,⟨oM,oM⟩,ZmI f9,ha⟩,?_⟩
   rintro w σ1 ⟨j',i,op',rel',eargs',body',at'',v2,b2,hw,rfl,lj,hi,⟨qh,cx⟩,hmb,iv⟩
   have ej:(some (PV.d (.int .i64 (j:Int))):Option PV)=some (.d (.int .i64 (j':Int))):=congrArg (fun l:List PV=>l[4]?) hw;obtain rfl:j=j':=by have ej:=Option.some.inj ej;injection ej with ej;injection ej with _ ej;omega
   rw [jj] at lj;obtain ⟨rfl,rfl,rfl,rfl,rfl⟩:=Li.mk.inj (Option.some.inj lj);have hw:w=[.d (.int .i64 i)]:=congrArg (List.drop 7) hw;subst hw;(conv=>whnf);refine ZGr (fun bw=>?_) (fun bw=>?_)
   ·have av:i<eargs.length:=by have bw:(i:Int)<((Ze pl eargs).length:Int):=bw;omega
    have fd:(Ze pl eargs)[(i:Int).toNat]?=some (ZD pl eargs[i]):=by rw [Zc,Tg,Th,Ta av];rfl
    have ve:=ZQ szE eargs i av;rw [Tk av,show eargs.length - i=(eargs.length - (i+1))+1 by omega,List.replicate_succ] at iv;simp only [gvEs] at iv;generalize eargs[i]=e at iv fd ve;obtain ⟨x1,x2,x3,x4,x5⟩:=e;(conv=>whnf);refine ⟨_,oM,fd,wN ?_⟩;refine ⟨pl,p,r,v2,b2,rfl,hp,.mk x1 x2 x3 x4 x5,rfl,⟨oM,hm⟩,fun v' b' hg=>wN ?_⟩;rw [hg] at iv;refine Zk ?_;exact ⟨⟨j,i+1,op,rel,eargs,body,at',v',b',rfl,rfl,jj,oM,⟨qh,cx⟩,hmb,iv⟩,by show (((Ze pl eargs).length:Int) - ((i:Int)+1)).toNat<(((Ze pl eargs).length:Int) - (i:Int)).toNat;omega⟩
   have hii:i=eargs.length:=by have bw:¬(i:Int)<((Ze pl eargs).length:Int):=bw;omega
   subst hii;rw [SG,Nat.sub_self] at iv;simp only [gvEs,List.replicate_zero] at iv;(conv=>whnf);refine ⟨oM,pl,p,r,v2,b2,rfl,hp,body,rfl,⟨oM,oM⟩,hmb,fun v' b' hg=>wN ?_⟩;rw [hg] at iv;refine Zk ?_;exact ⟨⟨j+1,v',b',rfl,rfl,oM,iv⟩,hμ⟩
  exact h.elim
 exact h.elim
def Xf (v:Vs) (x:Bs):Bool:=decide ((lkM x v).getD (-1)=-1)
def ZmJ (X:List Bs) (v:Vs):Nat:=X.countP (Xf v)
def Less (X:List Bs) (s s':VS):Prop:=(∀x,Xf s'.1 x=true->Xf s.1 x=true)/\(s'.2=true->s.2=true\/∃x∈X,Xf s.1 x=true/\Xf s'.1 x=false)
def Less.rfl' {X:List Bs} {s:VS}:Less X s s:=⟨fun _ h=>h,fun h=>.inl h⟩
def Less.trans {X:List Bs} {a b c:VS} (h:Less X a b) (k:Less X b c):Less X a c:=by
 refine ⟨fun x hx=>h.1 x (k.1 x hx),fun hc=>?_⟩;rcases k.2 hc with hb | ⟨x,hx,h1,h2⟩
 ·rcases h.2 hb with ha | ⟨x,hx,h1,h2⟩
  ·exact .inl ha
  refine .inr ⟨x,hx,h1,?_⟩
  cases hc':Xf c.1 x with
  | false=>rfl
  | true=>rw [k.1 x hc'] at h2;cases h2
 exact .inr ⟨x,hx,h.1 x h1,h2⟩
def Less.sub {X Y:List Bs} {a b:VS} (h:Less X a b) (hs:∀x∈X,x∈Y):Less Y a b :=
 ⟨h.1,fun hb=>(h.2 hb).imp id fun ⟨x,hx,h1⟩=>⟨x,hs x hx,h1⟩⟩
def Zrv {t:Bs} {n:Int} {s:VS}:Less [t] s (ZuD t n s):=by
 unfold ZuD
 split
 ·rename_i h
  have hu:Xf s.1 t=true:=by
   unfold Xf
   rcases h with h | ⟨h1,_⟩
   ·have:lkM t s.1=none:=by simpa using h
    rw [this];rfl
   cases hl:lkM t s.1 with
   | none=>rfl
   | some v=>rw [hl] at h1;simp at h1;simp [h1]
  refine ⟨fun x hx=>?_,fun hm=>?_⟩
  ·by_cases yc:x=t
   ·subst yc;exact hu
   unfold Xf at hx |-
   simp only [JP,Te yc] at hx;exact hx
  simp only [Sk,TH] at hm;rcases hm with hm | hm
  ·exact .inl hm
  refine .inr ⟨t,sM,hu,?_⟩;unfold Xf
  simp only [JP,if_true,Ss];simpa using hm
 exact .rfl'
mutual
def ZuJ (p:Pr):∀(e:Ex) (n:Int) (s:VS),Less (nvE e) s (gvE p e n s)
 | .mk op text num args a,n,s=>by
  simp only [gvE,nvE];split
  ·exact Zrv
  exact W9 p args _ s
def W9 (p:Pr):∀(l:List Ex) (ns:List Int) (s:VS),Less (Zhr l) s (gvEs p l ns s)
 | [],_,s=>.rfl'
 | e::l,[],s=>.rfl'
 | e::l,n::ns,s=>by
  simp only [gvEs,Zhr];exact ((ZuJ p e n s).sub fun x hx=>List.mem_append_left _ hx).trans ((W9 p l ns _).sub fun x hx=>List.mem_append_right _ hx)
end
mutual
def ZuK (p:Pr):∀(x:Li) (s:VS),Less (nvL x) s (gvL p x s)
 | .mk op rel args body a,s=>by
  simp only [gvL,nvL];split
  ·exact (W9 p args _ s).sub fun x hx=>List.mem_append_left _ hx
  split
  ·exact (W9 p args _ s).sub fun x hx=>List.mem_append_left _ hx
  exact ((W9 p args _ s).sub fun x hx=>List.mem_append_left _ hx).trans ((Zea p body _).sub fun x hx=>List.mem_append_right _ hx)
def Zea (p:Pr):∀(l:List Li) (s:VS),Less (Vb l) s (gvLs p l s)
 | [],s=>.rfl'
 | x::l,s=>by
  simp only [gvLs,Vb];exact ((ZuK p x s).sub fun y hy=>List.mem_append_left _ hy).trans ((Zea p l _).sub fun y hy=>List.mem_append_right _ hy)
end
def Zrw {v v':Vs} (h:∀x,Xf v' x=true->Xf v x=true):∀X:List Bs,ZmJ X v'<=ZmJ X v
 | []=>Tt _
 | x::X=>by
  have ih:=Zrw h X;unfold ZmJ at ih |-
  rw [List.countP_cons,List.countP_cons]
  cases h1:Xf v' x with
  | false=>simp;omega
  | true=>rw [h x h1];simpa using ih
def Zwg {v v':Vs} (h:∀x,Xf v' x=true->Xf v x=true):∀{X:List Bs} {x:Bs},x∈X->Xf v x=true->Xf v' x=false->ZmJ X v'<ZmJ X v
 | y::X,x,hx,h1,h2=>by
  rcases Tr.1 hx with rfl | hx
  ·have:=Zrw h X;unfold ZmJ at this |-
   rw [List.countP_cons,List.countP_cons,h1,h2];simp;omega
  have ih:=Zwg h hx h1 h2;unfold ZmJ at ih |-
  rw [List.countP_cons,List.countP_cons]
  cases h3:Xf v' y with
  | false=>simp;omega
  | true=>rw [h y h3];simpa using ih
def Zot (p:Pr) (r:Ru) (v:Vs):Less (nvR r) (v,false) (Um p r v):=by
 unfold Um nvR
 exact ((W9 p r.args _ _).sub fun x hx=>List.mem_append_left _ hx).trans ((Zea p r.body _).sub fun x hx=>List.mem_append_right _ hx)
def Zjp (p:Pr) (r:Ru) (v:Vs):ZmJ (nvR r) (Um p r v).1<=ZmJ (nvR r) v/\((Um p r v).2=true->ZmJ (nvR r) (Um p r v).1<ZmJ (nvR r) v):=by
 have h:=Zot p r v;refine ⟨Zrw h.1 _,fun hb=>?_⟩;rcases h.2 hb with h1 | ⟨x,hx,h1,h2⟩
 ·cases h1
 exact Zwg h.1 hx h1 h2
def Zb2 (p:Pr) (r:Ru):∀(n:Nat) (v:Vs),ZmJ (nvR r) v<n->∃w,WD p r n v=some w
 | 0,v,h=>oM
 | n+1,v,h=>by
  simp only [WD];split
  ·rename_i hb
   exact Zb2 p r n _ (by have:=(Zjp p r v).2 hb;omega)
  exact ⟨_,rfl⟩
def ZuL (p:Pr) (r:Ru):WD p r ((nvR r).length+1) []=some (Zcb p r):=by
 obtain ⟨w,hw⟩:=Zb2 p r ((nvR r).length+1) [] (Nat.lt_succ_of_le List.countP_le_length);unfold Zcb
 rw [hw];rfl
def ZCE (X:List Bs) (m:List (Bs×MV)):Nat:=X.countP fun x=>match lkM x m with | some (.one (.int _ n))=>decide (n=-1) | _=>true
def Zrx (X:List Bs) (v:Vs):ZCE X (mvM mvI v)=ZmJ X v:=by
 unfold ZCE ZmJ
 congr 1
 funext x
 rw [ZJ];unfold Xf
 cases lkM x v with
 | none=>rfl
 | some n=>rfl
abbrev ZFC (pl:Pl) (p:Pr) (r:Ru) (v:Vs) (b:Bool):List Box:=Zje pl p++[.cells 46 ((Zs pl r).map .d),.dmap (mvM mvI v),.cells 165 [.ptr 0 0,.d (.str r.head),.d (.sl (Ze pl r.args)),.d (.sl (Zx pl r.body)),.d (.int .i64 (pl r.at')),.mp 6,.d (.bool b)]]
def ZcB (m:Nat):Zh:=fun args σ K=>match args,σ with
 | [.ptr 0 0,.agg c],⟨bx,[],0⟩=>∃pl p r,c=(Zs pl r).map .d/\bx=Zje pl p/\OKP p/\(ZbX r<=m/\m<=2097152)/\Zca r.body=true/\K (.ret (.ptr 7 0)) ⟨ZFC pl p r (Zcb p r) false,[],0⟩
 | _,_=>False
def Zrz {m:Nat}:OKw w0 nG [(81,Zrr m),(83,Zf3 m)] 44 (ZcB m):=by
 refine pwo Tryz.func44 fun args σ K h=>?_
 unfold ZcB at h
 split at h
 ·obtain ⟨pl,p,⟨head,eargs,body,at'⟩,rfl,rfl,hp,⟨hz,hm⟩,ca,h⟩:=h;simp only [ZbX] at hz;refine pwu [(3,⟨[],[3,5],fun w σ=>∃(v:Vs) (b:Bool),w=[]/\σ=⟨ZFC pl p ⟨head,eargs,body,at'⟩ v b,[],0⟩/\(b=true->∃n,WD p ⟨head,eargs,body,at'⟩ n v=some (Zcb p ⟨head,eargs,body,at'⟩))/\(b=false->v=Zcb p ⟨head,eargs,body,at'⟩),
   fun _ σ=>match σ with
    | ⟨_::_::_::_::_::_::.dmap m::.cells _ [_,_,_,_,_,_,.d (.bool b)]::_,_,_⟩=>2 * ZCE (nvR ⟨head,eargs,body,at'⟩) m+(if b=true then 1 else 0)
    | _=>0⟩)] 8 false ?_
  conv=>whnf
  refine ⟨⟨[],true,rfl,rfl,fun _=>⟨_,ZuL _ _⟩,fun h=>by cases h⟩,?_⟩
  rintro w σ1 ⟨v,b,rfl,rfl,h1,h2⟩
  cases b with
  | false =>
   have h2:=h2 rfl;(conv=>whnf);subst h2;exact h
  | true =>
  obtain ⟨n,hn⟩:=h1 rfl
  cases n with
  | zero=>cases hn
  | succ n =>
  simp only [WD] at hn;(conv=>whnf);refine ⟨pl,p,⟨head,eargs,body,at'⟩,v,false,rfl,hp,eargs,rfl,rfl,⟨oM,hm⟩,fun v1 b1 ja=>wN ?_⟩;refine ⟨pl,p,⟨head,eargs,body,at'⟩,v1,b1,rfl,hp,body,rfl,⟨oM,hm⟩,ca,fun v2 b2 pt=>?_⟩;have hr:Um p ⟨head,eargs,body,at'⟩ v=(v2,b2):=by unfold Um;simp only [ja];exact pt
  have hc:=Zjp p ⟨head,eargs,body,at'⟩ v;rw [hr] at hn hc;simp only at hn hc;have hμ:2 * ZCE (nvR ⟨head,eargs,body,at'⟩) (mvM mvI v2)+(if b2=true then 1 else 0)<2 * ZCE (nvR ⟨head,eargs,body,at'⟩) (mvM mvI v)+(if true=true then 1 else 0):=by
   rw [Zrx,Zrx]
   cases b2 with
   | true=>have:=hc.2 rfl;simp;omega
   | false=>have:=hc.1;simp;omega
  conv=>whnf
  exact ⟨⟨v2,b2,rfl,rfl,fun hb=>by subst hb;exact ⟨n,by simpa using hn⟩,fun hb=>by subst hb;simpa using hn⟩,hμ⟩
 exact h.elim
def ZuM (m:Nat):Zh:=ZaQ fun rest pl p r vs more K=>match rest with
 | [.d (.str name),.d (.sl rows),.func f [.ptr 0 0] []]=>∃args,rows=Ze pl args/\f=138/\(szS szE args<=m/\m<=2097152)/\∀x,ZaO p vs args (Y1 p name args.length)=x->RtK pl K vs more x
 | _=>False
def ZCG {m:Nat}:OKw w0 nG [(138,Zy6 m),(135,Vw)] 81 (ZuM m):=by
 refine pwo Tryz.func81 fun args σ K h=>?_
 unfold ZuM ZaQ at h
 split at h
 ·obtain ⟨pl,p,r,vs,more,rfl,hp,h⟩:=h;split at h
  ·rename_i name rows f
   obtain ⟨eargs,rfl,rfl,⟨hz,hm⟩,h⟩:=h;have mr:=ZE szE eargs;obtain ⟨X,hX⟩:∃X,ZaO p vs eargs (Y1 p name eargs.length)=X:=⟨_,rfl⟩
   have h:=h X hX;have aw:(Ze pl eargs).length=eargs.length:=by rw [Zc,Td]
   refine pwu [(3,⟨[46],[0,3,8,9,44,45],fun w σ=>∃(j:Nat),w=[.d (.int .i64 j)]/\σ=⟨Zb1 pl p r vs more,[],0⟩/\j<=eargs.length /\
     ZaO p vs (eargs.drop j) ((Y1 p name eargs.length).drop j)=X,
    fun w _=>match w with | [.d (.int _ j)]=>((eargs.length:Int) - j).toNat | _=>0⟩)] 7 false ?_
   have step:∀(j:Nat),j<eargs.length->ZaO p vs (eargs.drop j) ((Y1 p name eargs.length).drop j)=X->∃(x:Ex) (y:Int),(Ze pl eargs)[(j:Int).toNat]?=some (ZD pl x)/\(Y1 p name eargs.length)[j]?=some y/\szE x<=m /\
     (rtE p vs x y=none->ZaO p vs (eargs.drop (j+1)) ((Y1 p name eargs.length).drop (j+1))=X)/\∀f,rtE p vs x y=some f->X=some f:=fun j aa ha=>by
    have av:j<(Y1 p name eargs.length).length:=by rw [Zjo];exact aa
    have dr:=ZQ szE eargs j aa;rw [Tk aa,Tk av] at ha;simp only [ZaO] at ha;exact ⟨eargs[j],(Y1 p name eargs.length)[j],by rw [Zc,Tg,Th,Ta aa];rfl,Ta av,oM,fun hg=>by rw [hg] at ha;exact ha,fun f hg=>by rw [hg] at ha;exact ha.symm⟩
   have fin:∀(j:Nat),¬j<eargs.length->ZaO p vs (eargs.drop j) ((Y1 p name eargs.length).drop j)=X->K (.ret (.tuple [])) ⟨Zb1 pl p r vs more,[],0⟩:=fun j hn ha=>by
    rw [Tm oM] at ha;subst ha;exact h
   conv=>whnf
   refine ZGz (fun v hv=>?_) (fun hv=>wN ?_)
   ·rw [ZJ] at hv;obtain ⟨i,hi,rfl⟩:=TD.1 hv;obtain ⟨k,d,rfl,h2,h3⟩:=ZcA hi;have hr:(p.rels.map (Zu pl))[(k:Int).toNat]?=some (Zu pl d):=by rw [Tg,Th,h2];rfl
    have hT:=Zbp (n:=eargs.length) hi h2;obtain ⟨d1,d2,d3,d4,d5,d6⟩:=d;simp only at hT;(conv=>whnf);refine ⟨_,oM,hr,wN ?_⟩;refine ⟨⟨0,rfl,rfl,oM,hX⟩,?_⟩
    rintro w σ1 ⟨j,rfl,rfl,hj,ha⟩
    conv=>whnf
    refine ZGr (fun hc=>?_) (fun hc=>?_);rotate_left
    ·conv=>whnf
     exact fin j oM ha
    obtain ⟨⟨x1,x2,x3,x4,x5⟩,y,cj,hy,dr,li,dq⟩:=step j oM ha;have hμ:((eargs.length:Int) - ((j:Int)+1)).toNat<((eargs.length:Int) - (j:Int)).toNat:=oM;(conv=>whnf);refine ⟨_,oM,cj,wN ?_⟩;refine ZGr (fun hq=>?_) (fun hq=>?_)
    ·have hq:d2.length=eargs.length:=by have hq:((d2.map Zp).length:Int)=((Ze pl eargs).length:Int):=hq;rw [Td,aw] at hq;omega
     rw [hT,Ti hq,ZX,Th] at hy;obtain ⟨⟨f1,f2⟩,hf,hy⟩:=TD.1 hy;have fd:(d2.map Zp)[(j:Int).toNat]?=some (Zp ⟨f1,f2⟩):=by rw [Tg,Th,hf];rfl
     simp only at hy;(conv=>whnf)
     (repeat (refine ⟨rfl,?_⟩;conv=>whnf))
     refine ⟨_,oM,hr,wN ?_⟩
     (repeat (refine ⟨rfl,?_⟩;conv=>whnf))
     refine ⟨_,oM,fd,wN ?_⟩
     (repeat (refine ⟨rfl,?_⟩;conv=>whnf))
     refine ⟨pl,p,rfl,hp.bp,hp.ends,fun n hn=>?_⟩;rw [hy] at hn;subst hn;(conv=>whnf)
     (repeat (refine ⟨rfl,?_⟩;conv=>whnf))
     exact mq28
    have hq:¬d2.length=eargs.length:=by have hq:¬((d2.map Zp).length:Int)=((Ze pl eargs).length:Int):=hq;rw [Td,aw] at hq;omega
    rw [hT,Te hq,Sz] at hy;split at hy
    ·cases hy
     conv=>whnf
     exact mq28
    cases hy
   rw [ZJ,Option.map_eq_none_iff] at hv;have hT:=Zf2 (n:=eargs.length) hv;refine ⟨⟨0,rfl,rfl,oM,hX⟩,?_⟩
   rintro w σ1 ⟨j,rfl,rfl,hj,ha⟩
   conv=>whnf
   refine ZGr (fun hc=>?_) (fun hc=>?_);rotate_left
   ·conv=>whnf
    exact fin j oM ha
   obtain ⟨⟨x1,x2,x3,x4,x5⟩,y,cj,hy,dr,li,dq⟩:=step j oM ha;have hμ:((eargs.length:Int) - ((j:Int)+1)).toNat<((eargs.length:Int) - (j:Int)).toNat:=oM;rw [hT,Sz] at hy;split at hy
   ·cases hy
    conv=>whnf
    refine ⟨_,oM,cj,wN ?_⟩;exact mq28
   cases hy
  exact h.elim
 exact h.elim
def Zf4 (m:Nat):Zh:=ZaQ fun rest pl p r vs more K=>match rest with
 | [.d (.str name),.d (.sl rows),.d (.int .i64 a),.d (.bool hd)]=>∃args an,rows=Ze pl args/\a=pl an/\(szS szE args<=m/\m<=2097152)/\∀x,ZuE p vs name args an hd=x->RtK pl K vs more x
 | _=>False
def Zk5 (m:Nat):Zy (Zf4 m):=Zd6 fun rest pl p r vs more K K' hK h=>by
 split at h
 ·obtain ⟨e,an,h1,h2,h3,h4⟩:=h;exact ⟨e,an,h1,h2,h3,fun x g=>Zhs hK (h4 x g)⟩
 exact h.elim
def Zy9 {m:Nat}:OKw w0 nG [(81,ZuM m)] 85 (Zf4 m):=by
 refine pwo Tryz.func85 fun args σ K h=>?_
 unfold Zf4 ZaQ at h
 split at h
 ·obtain ⟨pl,p,r,vs,more,rfl,hp,h⟩:=h;split at h
  ·rename_i name rows a hd
   obtain ⟨eargs,an,rfl,rfl,⟨hz,hm⟩,h⟩:=h;have aw:(Ze pl eargs).length=eargs.length:=by rw [Zc,Td]
   simp only [ZuE] at h;refine pwv [] 7 false ?_;refine ZGz (fun v hv=>?_) (fun hv=>?_);rotate_left
   ·rw [ZJ,Option.map_eq_none_iff] at hv;rw [hv] at h;have h:=h _ rfl;simp only [RtK] at h;exact mq35
   rw [ZJ] at hv;obtain ⟨i,hi,rfl⟩:=TD.1 hv;obtain ⟨k,d,rfl,h2,h3⟩:=ZcA hi;have hr:(p.rels.map (Zu pl))[(k:Int).toNat]?=some (Zu pl d):=by rw [Tg,Th,h2];rfl
   rw [hi] at h;simp only [Tg,h2] at h;obtain ⟨d1,d2,d3,d4,d5,d6⟩:=d;simp only at h;have hb:(hd && d3)=true->K (.panic (Zy7 (pl an) 185)) ⟨Zb1 pl p r vs more,[],0⟩:=fun g=>by
    have h:=h _ rfl;rw [Ti g] at h;exact h
   have h:(hd && d3)=false->∀x,(if d2.length≠eargs.length then some (an,182) else ZaO p vs eargs (Y1 p name eargs.length))=x->RtK pl (fun pe vs' more'=>K pe ⟨Zb1 pl p r vs' more',[],0⟩) vs more x:=fun g x hx=>h x (by rw [Te (by rw [g];simp)];exact hx)
   have rest:(hd && d3)=false->∀(X:Prop),X->X:=fun _ X hX=>hX
   cases hd with
   | true =>
    conv=>whnf
    refine ⟨_,oM,hr,?_⟩
    cases d3 with
    | true =>
     conv=>whnf
     exact hb rfl
    | false =>
    exact mq27
   | false =>
   exact mq27
  exact h.elim
 exact h.elim
def orF (x:Flt) (y:Flt):Flt:=match x with | some f=>some f | none=>y
def Zeb (m:Nat):Zh:=ZaQ fun rest pl p r vs more K=>match rest with
 | [.d (.sl rows)]=>∃l,rows=Zx pl l/\(szS szL l<=m/\m<=2097152)/\Zca l=true/\∀x,Zh0 p vs l=x->RtK pl K vs more x
 | _=>False
def Zk6 (m:Nat):Zy (Zeb m):=Zd6 fun rest pl p r vs more K K' hK h=>by
 split at h
 ·obtain ⟨e,h1,h2,h3,h4⟩:=h;exact ⟨e,h1,h2,h3,fun x g=>Zhs hK (h4 x g)⟩
 exact h.elim
def ZrA (m:Nat):Tbl:=[(86,spB Zeb m),(138,Zy6 m),(85,Zf4 m),(137,Zd9)]
def ZrB {m:Nat} (ht:TO w0 nG (ZrA m)):PC w0 nG 86 (Zeb m):=by
 refine Yn Zr mixed (tbl:=ZrA m) ht Tryz.func86 rfl kR kR ?_;intro args σ K h
 unfold Zeb ZaQ at h
 split at h
 ·obtain ⟨pl,p,r,vs,more,rfl,hp,h⟩:=h;split at h
  ·rename_i rows
   obtain ⟨l,rfl,⟨hz,hm⟩,ca,h⟩:=h;have mr:=ZE szL l;have aw:(Zx pl l).length=l.length:=by rw [Zn,Td]
   obtain ⟨X,hX⟩:∃X,Zh0 p vs l=X:=⟨_,rfl⟩
   have h:=h X hX;refine ⟨Zg [(1,⟨[11],[0,9,10],fun w σ=>∃(j:Nat),w=[.d (.int .i64 j)]/\σ=⟨Zb1 pl p r vs more,[],0⟩/\j<=l.length/\Zh0 p vs (l.drop j)=X,
    fun w _=>match w with | [.d (.int _ j)]=>((l.length:Int) - j).toNat | _=>0⟩),
    (4,⟨[18],[0,5,9,10,11,16,17],fun w σ=>∃(j i op:Nat) (rel:Bs) (eargs:List Ex) (body:List Li) (at':Nat),w=[.ptr 0 0,.ptr 7 0,.d (.sl (Zx pl l)),.d (.int .i64 ((Zx pl l).length:Nat)),.d (.int .i64 j),.d (.sl (Ze pl eargs)),.d (.int .i64 ((Ze pl eargs).length:Nat)),.d (.int .i64 i)] /\
     σ=⟨Zb1 pl p r vs more++[.cells 65 ((YC pl (.mk op rel eargs body at')).map .d)],[],0⟩/\l[j]?=some (.mk op rel eargs body at')/\i<=eargs.length/\(szS szE eargs<=m/\szS szL body+1<=m)/\Zca body=true /\
     orF (ZaO p vs (eargs.drop i) (List.replicate (eargs.length - i) 0)) (orF (Zh0 p vs body) (Zh0 p vs (l.drop (j+1))))=X,
    fun w _=>match w with | [_,_,_,_,_,_,.d (.int _ n),.d (.int _ i)]=>(n - i).toNat | _=>0⟩)],ZV [],ZC [4],7,false,sM,Tb rfl,?_⟩
   conv=>whnf
   refine ⟨⟨0,rfl,rfl,oM,hX⟩,?_⟩
   rintro w σ1 ⟨j,rfl,rfl,hj,ha⟩
   conv=>whnf
   refine ZGr (fun hc=>?_) (fun hc=>?_);rotate_left
   ·conv=>whnf
    rw [Tm oM] at ha;subst ha;exact h
   have aa:j<l.length:=oM;have hr:(Zx pl l)[(j:Int).toNat]?=some (YC pl l[j]):=by rw [Zn,Tg,Th,Ta aa];rfl
   have dr:=ZQ szL l j aa;have f9:YH l[j]=true:=by rw [Xe,Tn] at ca;exact ca _ (TA aa)
   rw [Tk aa] at ha;have ha:orF (rtL p vs l[j]) (Zh0 p vs (l.drop (j+1)))=X:=by rw [<- ha];simp only [Zh0];rfl
   have hμ:((l.length:Int) - ((j:Int)+1)).toNat<((l.length:Int) - (j:Int)).toNat:=oM;have jj:l[j]?=some l[j]:=Ta aa;generalize l[j]=x at ha hr dr f9 jj;obtain ⟨op,rel,eargs,body,at'⟩:=x;simp only [szL,XG,Vt] at dr;simp only [rtL] at ha;have ai:=ZE szE eargs;have f7:(Ze pl eargs).length=eargs.length:=by rw [Zc,Td]
   conv=>whnf
   refine ⟨_,oM,hr,wN ?_⟩;refine ZGr (fun h2=>wN ?_) (fun h2=>wN ?_)
   ·have h2:op<=2:=by have h2:(op:Int)<=2:=h2;omega
    rw [Ti h2] at ha;refine ⟨pl,p,r,vs,more,rfl,hp,eargs,at',rfl,rfl,⟨oM,hm⟩,fun f hf=>?_⟩;rw [hf] at ha
    cases f with
    | none =>
     simp only [RtK];(conv=>whnf);exact mq43
    | some ae =>
    exact mq158
   have h2:¬op<=2:=by have h2:¬(op:Int)<=2:=h2;omega
   rw [Te h2] at ha;refine ZGr (fun h8=>?_) (fun h8=>wN ?_)
   ·have h8:op<=8:=by have h8:(op:Int)<=8:=h8;omega
    rw [Ti h8] at ha;obtain ⟨⟨a1,a2,a3,a4,a5⟩,⟨b1,b2,b3,b4,b5⟩,rfl⟩:=Zrs f9 h2 h8;simp only [szS] at dr;(conv=>whnf);refine ⟨pl,p,r,vs,more,rfl,hp,op,rel,.mk a1 a2 a3 a4 a5,.mk b1 b2 b3 b4 b5,[],body,at',rfl,fun n hn=>wN ?_⟩;simp only [hn,ZaO] at ha;refine ⟨ZD pl (.mk a1 a2 a3 a4 a5),dM,rfl,wN ?_⟩;refine ⟨pl,p,r,vs,more,rfl,hp,.mk a1 a2 a3 a4 a5,rfl,⟨oM,hm⟩,fun f hf=>?_⟩;rw [hf] at ha
    cases f with
    | some ae =>
     exact mq158
    | none =>
    simp only [RtK];(conv=>whnf);refine ⟨ZD pl (.mk b1 b2 b3 b4 b5),dM,rfl,wN ?_⟩;refine ⟨pl,p,r,vs,more,rfl,hp,.mk b1 b2 b3 b4 b5,rfl,⟨oM,hm⟩,fun f hf=>?_⟩;rw [hf] at ha
    cases f with
    | some ae =>
     exact mq158
    | none =>
    simp only [RtK];simp only at ha;have good:¬(5<=op/\n≠0/\n≠1)->Zh0 p vs (l.drop (j+1))=X:=fun g=>by rw [Te g] at ha;exact ha
    have bad:(5<=op/\n≠0/\n≠1)->K (.panic (Zy7 (pl at') 183)) ⟨Zb1 pl p r vs more,[],0⟩:=fun g=>by
     rw [Ti g] at ha;simp only [orF] at ha;subst ha;exact h
    conv=>whnf
    refine ZGr (fun h5=>wN ?_) (fun h5=>wN ?_)
    ·have h5:5<=op:=by have h5:(5:Int)<=op:=h5;omega
     refine ZGu (fun kr=>wN ?_) (fun kr=>wN ?_)
     ·refine ZGu (fun lb=>wN ?_) (fun lb=>wN ?_)
      ·conv=>whnf
       exact bad ⟨h5,kr,lb⟩
      conv=>whnf
      refine Zk ?_;exact ⟨⟨j+1,rfl,rfl,oM,good (fun g=>g.2.2 lb)⟩,hμ⟩
     conv=>whnf
     refine Zk ?_;exact ⟨⟨j+1,rfl,rfl,oM,good (fun g=>g.2.1 kr)⟩,hμ⟩
    have h5:¬5<=op:=by have h5:¬(5:Int)<=op:=h5;omega
    refine Zk ?_;exact ⟨⟨j+1,rfl,rfl,oM,good (fun g=>h5 g.1)⟩,hμ⟩
   have h8:¬op<=8:=by have h8:¬(op:Int)<=8:=h8;omega
   rw [Te h8] at ha;have ha:orF (ZaO p vs eargs (List.replicate eargs.length 0)) (orF (Zh0 p vs body) (Zh0 p vs (l.drop (j+1))))=X:=by
    rw [<- ha];cases ZaO p vs eargs (List.replicate eargs.length 0) <;> rfl
   refine ⟨⟨j,0,op,rel,eargs,body,at',rfl,rfl,jj,oM,⟨oM,oM⟩,ZmI f9,ha⟩,?_⟩
   clear ha
   rintro w σ1 ⟨j',i,op',rel',eargs',body',at'',hw,rfl,lj,hi,⟨qh,cx⟩,hmb,ha⟩
   have ej:(some (PV.d (.int .i64 (j:Int))):Option PV)=some (.d (.int .i64 (j':Int))):=congrArg (fun l:List PV=>l[4]?) hw;obtain rfl:j=j':=by have ej:=Option.some.inj ej;injection ej with ej;injection ej with _ ej;omega
   rw [jj] at lj;obtain ⟨rfl,rfl,rfl,rfl,rfl⟩:=Li.mk.inj (Option.some.inj lj);have hw:w=[.d (.int .i64 i)]:=congrArg (List.drop 7) hw;subst hw;(conv=>whnf);refine ZGr (fun bw=>?_) (fun bw=>?_)
   ·have av:i<eargs.length:=by have bw:(i:Int)<((Ze pl eargs).length:Int):=bw;omega
    have fd:(Ze pl eargs)[(i:Int).toNat]?=some (ZD pl eargs[i]):=by rw [Zc,Tg,Th,Ta av];rfl
    have ve:=ZQ szE eargs i av;rw [Tk av,show eargs.length - i=(eargs.length - (i+1))+1 by omega,List.replicate_succ] at ha;simp only [ZaO] at ha;generalize eargs[i]=e at ha fd ve;obtain ⟨x1,x2,x3,x4,x5⟩:=e;(conv=>whnf);refine ⟨_,oM,fd,wN ?_⟩;refine ⟨pl,p,r,vs,more,rfl,hp,.mk x1 x2 x3 x4 x5,rfl,⟨oM,hm⟩,fun f hf=>?_⟩;rw [hf] at ha
    cases f with
    | none =>
     simp only [RtK];(conv=>whnf);refine Zk ?_;exact ⟨⟨j,i+1,op,rel,eargs,body,at',rfl,rfl,jj,oM,⟨qh,cx⟩,hmb,ha⟩,by show (((Ze pl eargs).length:Int) - ((i:Int)+1)).toNat<(((Ze pl eargs).length:Int) - (i:Int)).toNat;omega⟩
    | some ae =>
    exact mq158
   have hii:i=eargs.length:=by have bw:¬(i:Int)<((Ze pl eargs).length:Int):=bw;omega
   subst hii;rw [SG,Nat.sub_self] at ha;simp only [ZaO,List.replicate_zero,orF] at ha;(conv=>whnf);refine ⟨oM,pl,p,r,vs,more,rfl,hp,body,rfl,⟨oM,oM⟩,hmb,fun f hf=>?_⟩;rw [hf] at ha
   cases f with
   | none =>
    simp only [RtK];(conv=>whnf);exact mq43
   | some ae =>
   obtain ⟨a,e⟩:=ae;simp only at ha;subst ha;simp only [RtK] at h |-;exact mq35
  exact h.elim
 exact h.elim
abbrev SM:=List (Bs×List (List D))
def ZuN (k:Bs):List D:=[.str k]
def Zwh (M:SM):Ex×Bs->SM
 | (.mk op text _ _ _,k)=>if op=1 then Z2 text ((lkM text M).getD []++[ZuN k]) M else M
def We (M:SM) (l:List (Ex×Bs)):SM:=l.foldl Zwh M
def ZrC (M:SM) (n:Nat):Prop:=∀t rows,lkM t M=some rows->rows.length<=n
def ZmK {M:SM} {n:Nat} (h:ZrC M n) (x:Ex×Bs):ZrC (Zwh M x) (n+1):=by
 obtain ⟨⟨op,text,_,_,_⟩,k⟩:=x;simp only [Zwh];split
 ·intro t rows hr
  rw [JP] at hr;split at hr
  ·cases hr
   rw [Tc]
   cases hl:lkM text M with
   | none=>simp
   | some r=>have:=h _ _ hl;simp;omega
  have:=h _ _ hr;omega
 intro t rows hr;have:=h _ _ hr;omega
def ZaB:∀(l:List (Ex×Bs)) {M:SM} {n:Nat},ZrC M n->ZrC (We M l) (n+l.length)
 | [],M,n,h=>h
 | x::l,M,n,h=>by
  have:=ZaB l (ZmK h x);rw [Tf,show n+(l.length+1)=n+1+l.length by omega];exact this
def Zbq {α:Type} {k:Bs} {u v:α}:∀m:List (Bs×α),Z2 k v (Z2 k u m)=Z2 k v m
 | []=>by simp [Z2]
 | (x,y)::l=>by
  simp only [Z2]
  by_cases h:k=x
  ·simp [h,Z2]
  simp only [decide_eq_false h,Z2,Zbq l]
def ZDL:Zh:=fun args σ K=>match args,σ with
 | [.agg c,.d (.str k),.ptr 0 0],⟨[.cells ty [.mp 1],.smap el M none],[],0⟩=>∃pl e,c=(ZD pl e).map .d/\(ty=217/\el=9)/\ZrC M 1073741824/\K (.ret (.tuple [])) ⟨[.cells ty [.mp 1],.smap el (Zwh M (e,k)) none],[],0⟩
 | _,_=>False
def ZEU:PC w0 nG 140 ZDL:=by
 refine ZpP Zr mixed (tbl:=[]) trivial Tryz.func140 rfl kR kR ?_;intro args σ K h
 unfold ZDL at h
 split at h
 ·rename_i k ty el M
  obtain ⟨pl,⟨op,text,num,eargs,ea⟩,rfl,⟨rfl,rfl⟩,hM,h⟩:=h;refine ⟨Zg [],ZV [],ZC [],ZC [],ZC [2],2,false,sM,Tb rfl,wN ?_⟩;simp only [Zwh] at h;refine ZGr (fun h1=>wN ?_) (fun h1=>wN ?_)
  ·have h1:op=1:=by have h1:(op:Int)=1:=h1;omega
   rw [Ti h1] at h;refine ⟨1,text,wN ?_⟩;refine ZGz (fun rows hr=>wN ?_) (fun hr=>wN ?_)
   ·rw [hr] at h;have hlen:=hM _ _ hr;refine ⟨rfl,wN ?_⟩;refine ⟨fun r hr=>by simp at hr;subst hr;rfl,by show (rows.length+1) * 16<=140737488355328;omega,by show rows.length+1<=140737488355328;omega,wN ?_⟩
    (repeat (refine ⟨rfl,?_⟩;conv=>whnf))
    rw [<- Zbq (u:=[])] at h;exact h
   rw [hr] at h;refine ⟨rfl,wN ?_⟩;refine ⟨fun r hr=>by simp at hr;subst hr;rfl,by show 1 * 16<=140737488355328;omega,by show 1<=140737488355328;omega,wN ?_⟩
   (repeat (refine ⟨rfl,?_⟩;conv=>whnf))
   rw [<- Zbq (u:=[])] at h;exact h
  have h1:¬op=1:=fun g=>h1 (by simp only [g];rfl)
  rw [Te h1] at h;exact h
 exact h.elim
abbrev ZuO (pl:Pl) (r:Ru) (more:Bool) (a b:Nat):List PV:=[.ptr a 0,.d (.str r.head),.d (.sl (Ze pl r.args)),.d (.sl (Zx pl r.body)),.d (.int .i64 (pl r.at')),.mp b,.d (.bool more)]
abbrev Zk7 (pl:Pl) (p:Pr) (r:Ru) (vs:Vs) (more:Bool) (kind:Bs):List Box:=[.cells 104 [.ptr 2 0],.cells 9 [.d (.str kind)],.cells 165 (ZuO pl r more 3 4),.cells 149 (Zjc pl p 5),.dmap (mvM mvI vs)]++Zjd p
def ZrD:Zh:=fun args σ K=>match args,σ with
 | [.d (.str k),.ptr 0 0,.ptr 1 0],⟨bx,[],0⟩=>∃pl p r vs more kind,bx=Zk7 pl p r vs more kind/\OKP p/\∀x,Wo p k kind=x->K (.ret (.d (.bool x))) ⟨bx,[],0⟩
 | _,_=>False
def Zzb:OKw w0 nG [(144,Zhn)] 143 ZrD:=by
 refine pwo Tryz.func143 fun args σ K h=>?_
 unfold ZrD at h
 split at h
 ·obtain ⟨pl,p,r,vs,more,kind,rfl,hp,h⟩:=h;refine pwv [] 9 false ?_;refine ⟨pl,p,rfl,hp.bp,fun x hx=>wN ?_⟩
  (repeat (refine ⟨rfl,?_⟩;conv=>whnf))
  exact h x hx
 exact h.elim
def ZrE:Zh:=fun args σ K=>match args,σ with
 | [.d (.sl rows),.func g [] [.ptr 0 0,.ptr 1 0]],⟨bx,[],0⟩=>∃pl p r vs more kind,∃l:List Bs,bx=Zk7 pl p r vs more kind/\rows=l.map ZuN/\(g=143/\OKP p/\l.length<=1073741824)/\∀i,ZfX (fun k=>Wo p k kind) 0 l=i->K (.ret (.d (.int .i64 i))) ⟨bx,[],0⟩
 | [.sl 0 _ [],.func g [] [.ptr 0 0,.ptr 1 0]],⟨bx,[0],1⟩=>∃pl p r vs more kind,bx=Zk7 pl p r vs more kind/\K (.ret (.d (.int .i64 (-1)))) ⟨bx,[],0⟩
 | _,_=>False
def Zzd:OKw w0 nG [(143,ZrD)] 201 ZrE:=by
 refine pwo Tryz.func201 fun args σ K h=>?_
 unfold ZrE at h
 split at h
 ·obtain ⟨pl,p,r,vs,more,kind,l,rfl,rfl,⟨rfl,hp,hlen⟩,h⟩:=h;have hl:(l.map ZuN).length=l.length:=Td ..;refine pwu [(2,⟨[8],[0,1,7],fun w σ=>∃j:Nat,w=[.d (.int .i64 j)]/\σ=⟨Zk7 pl p r vs more kind,[],0⟩/\j<=l.length/\ZfX (fun k=>Wo p k kind) j (l.drop j)=ZfX (fun k=>Wo p k kind) 0 l,
   fun w _=>match w with | [.d (.int _ j)]=>((l.length:Int) - j).toNat | _=>0⟩)] 9 false ?_
  conv=>whnf
  refine ⟨⟨0,rfl,rfl,oM,rfl⟩,?_⟩
  rintro w σ1 ⟨j,rfl,rfl,hj,ha⟩
  conv=>whnf
  refine ZGr (fun hc=>?_) (fun hc=>?_);rotate_left
  ·conv=>whnf
   rw [Tm oM] at ha;exact h (-1) ha.symm
  have aa:j<l.length:=oM;rw [Tk aa] at ha;have hr:(l.map ZuN)[(j:Int).toNat]?=some (ZuN l[j]):=by rw [Tg,Th,Ta aa];rfl
  generalize l[j]=x at ha hr;(conv=>whnf);refine ⟨_,oM,hr,wN ?_⟩;refine ⟨pl,p,r,vs,more,kind,rfl,hp,fun b hb=>?_⟩;exact mq164
 ·obtain ⟨pl,p,r,vs,more,kind,rfl,h⟩:=h;refine pwv [(2,⟨[8],[0,1,7],fun w σ=>w=[.d (.int .i64 0)]/\σ=⟨Zk7 pl p r vs more kind,[],0⟩,fun _ _=>0⟩)] 9 false ?_;refine ⟨⟨rfl,rfl⟩,?_⟩
  rintro w σ1 ⟨rfl,rfl⟩
  exact mq35
 exact h.elim
def ZrF:Zh:=fun args σ K=>match args,σ with
 | [.d (.sl rows),.func g [] [.ptr 0 0,.ptr 1 0]],⟨bx,[],0⟩=>∃pl p r vs more kind,∃l:List Bs,bx=Zk7 pl p r vs more kind/\rows=l.map ZuN/\(g=143/\OKP p/\l.length<=1073741824)/\∀b,(l.any fun k=>Wo p k kind)=b->K (.ret (.d (.bool b))) ⟨bx,[],0⟩
 | [.sl 0 _ [],.func g [] [.ptr 0 0,.ptr 1 0]],⟨bx,[0],1⟩=>∃pl p r vs more kind,bx=Zk7 pl p r vs more kind/\K (.ret (.d (.bool false))) ⟨bx,[],0⟩
 | _,_=>False
def Zzf:OKw w0 nG [(201,ZrE)] 142 ZrF:=by
 refine pwo Tryz.func142 fun args σ K h=>?_
 unfold ZrF at h
 split at h
 ·obtain ⟨pl,p,r,vs,more,kind,l,rfl,rfl,hc,h⟩:=h;refine pwv [] 9 false ?_;refine ⟨pl,p,r,vs,more,kind,l,rfl,rfl,hc,fun i hi=>wN ?_⟩;exact h _ (by rw [Bool.eq_iff_iff,decide_eq_true_iff,<- hi];exact (Zd5 l 0).symm)
 ·obtain ⟨pl,p,r,vs,more,kind,rfl,h⟩:=h;refine pwv [] 9 false ?_;refine ⟨pl,p,r,vs,more,kind,rfl,wN ?_⟩;exact h
 exact h.elim
def h2T (p:Pr) (kn:List (Bs×Bs)):Ex×Bs->Flt
 | (.mk op text _ _ a,k)=>if (XH p k).isSome=true/\(8<=op\/(op=1/\(kn.any fun y=>decide (y.1=text) && Wo p y.2 k)=false)) then some (a,183) else none
def ZEV (M:SM) (kn:List (Bs×Bs)):Prop:=kn.length<=1073741824/\∀t,(lkM t M).getD []=(kn.filter fun y=>decide (y.1=t)).map fun y=>ZuN y.2
abbrev ZEW (pl:Pl) (p:Pr) (r:Ru) (vs:Vs) (more:Bool) (M:SM):List Box:=[.cells 104 [.ptr 2 0],.cells 217 [.mp 3],.cells 165 (ZuO pl r more 4 5),.smap 9 M none,.cells 149 (Zjc pl p 6),.dmap (mvM mvI vs)]++Zjd p
def FlK (pl:Pl) (K:PEnd->St->Prop) (σ:St):Flt->Prop
 | none=>K (.ret (.tuple [])) σ
 | some (a,e)=>K (.panic (Zy7 (pl a) e)) σ
def ZDM:Zh:=fun args σ K=>match args,σ with
 | [.agg c,.d (.str kind),.ptr 0 0,.ptr 1 0],⟨bx,[],0⟩=>∃pl p r vs more M kn e,c=(ZD pl e).map .d/\bx=ZEW pl p r vs more M/\OKP p/\ZEV M kn/\∀x,h2T p kn (e,kind)=x->FlK pl K ⟨bx,[],0⟩ x
 | _,_=>False
def Zwi {p:Pr} {kn:List (Bs×Bs)} {t k:Bs}:((kn.filter fun y=>decide (y.1=t)).map (·.2)).any (fun y=>Wo p y k)=kn.any fun y=>decide (y.1=t) && Wo p y.2 k:=by
 rw [List.any_map,List.any_filter];rfl
def ZEY:OKw w0 nG [(80,Zjf),(142,ZrF)] 141 ZDM:=by
 refine pwo Tryz.func141 fun args σ K h=>?_
 unfold ZDM at h
 split at h
 ·rename_i kind bx
  obtain ⟨pl,p,r,vs,more,M,kn,⟨op,text,num,eargs,ea⟩,rfl,rfl,hp,⟨lq,cu⟩,h⟩:=h;have good:¬((XH p kind).isSome=true/\(8<=op\/(op=1/\(kn.any fun y=>decide (y.1=text) && Wo p y.2 kind)=false)))->K (.ret (.tuple [])) ⟨ZEW pl p r vs more M,[],0⟩:=fun g=>h none (by simp only [h2T];rw [Te g])
  have bad:((XH p kind).isSome=true/\(8<=op\/(op=1/\(kn.any fun y=>decide (y.1=text) && Wo p y.2 kind)=false)))->K (.panic (Zy7 (pl ea) 183)) ⟨ZEW pl p r vs more M,[],0⟩:=fun g=>h (some (ea,183)) (by simp only [h2T];rw [Ti g])
  clear h
  refine pwv [] 10 false ?_;refine ⟨pl,p,rfl,hp.bp,fun x hx=>wN ?_⟩
  (repeat (refine ⟨rfl,?_⟩;conv=>whnf))
  refine ZGz (fun rows hr=>wN ?_) (fun hr=>wN ?_)
  ·have cj:=cu text;rw [hr] at cj;have cj:rows=((kn.filter fun y=>decide (y.1=text)).map (·.2)).map ZuN:=by rw [Sj];exact cj
   refine ⟨pl,p,r,vs,more,kind,_,rfl,cj,⟨rfl,hp,by rw [Td];have:=List.length_filter_le (fun y:Bs×Bs=>decide (y.1=text)) kn;omega⟩,fun b hb=>?_⟩;rw [Zwi] at hb;rw [hx,hb] at good bad;generalize x.isSome=sub at good bad |-
   cases sub <;> cases b
   all_goals repeat' ((conv=>whnf);first | refine ZGr (fun hc=>?_) (fun hc=>?_) | refine ZGu (fun hc=>?_) (fun hc=>?_))
   all_goals (conv=>whnf)
   all_goals first
    | (exfalso;omega)
    | exact bad ⟨rfl,by first | (left;omega) | (right;exact ⟨oM,rfl⟩)⟩
    | exact good (fun g=>by first | exact Bool.noConfusion g.1 | (rcases g.2 with g | g <;> first | omega | exact Bool.noConfusion g.2))
  have cj:=cu text;rw [hr] at cj;have fh:kn.filter (fun y=>decide (y.1=text))=[]:=by
   cases hf:kn.filter (fun y=>decide (y.1=text)) with
   | nil=>rfl
   | cons y l=>rw [hf] at cj;simp at cj
  have hb:(kn.any fun y=>decide (y.1=text) && Wo p y.2 kind)=false:=by rw [<- Zwi,fh];rfl
  rw [hx,hb] at good bad;obtain ⟨b,lu⟩:∃b:Bool,b=false:=⟨_,rfl⟩
  refine ⟨pl,p,r,vs,more,kind,rfl,?_⟩
  clear lu b
  generalize jp:false=b at good bad;generalize x.isSome=sub at good bad |-
  cases sub <;> cases b <;> first | (cases jp;done) | skip
  all_goals repeat' ((conv=>whnf);first | refine ZGr (fun hc=>?_) (fun hc=>?_) | refine ZGu (fun hc=>?_) (fun hc=>?_))
  all_goals (conv=>whnf)
  all_goals first
   | (exfalso;omega)
   | exact bad ⟨rfl,by first | (left;omega) | (right;exact ⟨oM,rfl⟩)⟩
   | exact good (fun g=>by first | exact Bool.noConfusion g.1 | (rcases g.2 with g | g <;> first | omega | exact Bool.noConfusion g.2))
 exact h.elim
end Go.PM.Lex
end
