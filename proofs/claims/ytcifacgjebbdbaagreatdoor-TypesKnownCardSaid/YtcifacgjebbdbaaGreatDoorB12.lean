/- A part of the proof: plain logic, contracts and laws over the given program. -/
import Derived.Test.YtcifacgjebbdbaaGreatDoorIter
import Derived.WideShapes
import Derived.Test.YtcifacgjebbdbaaGreatDoorRows
import Derived.Test.YtcifacgjebbdbaaGreatDoorTie
import Derived.Test.YtcifacgjebbdbaaGreatDoorCards
import Derived.ProofKit
import Derived.OpenShut
import Derived.LaidMore
import Derived.Lay
import Derived.LaidSub
import Derived.SevenTiedAt
import Derived.Stop.Joined
import Derived.Stop.LaidErr
import Derived.Lib.LaidU8T
import Derived.Lib.LaidTab
import Derived.JoinedOf
import Derived.Test.YtcifacgjebbdbaaGreatDoorB11
set_option linter.unusedVariables false
set_option linter.unusedSimpArgs false
set_option linter.all false
set_option maxRecDepth 100000
set_option maxHeartbeats 16000000
noncomputable section
section
namespace Go.PM.Lex
open Go.Proofs
variable {w0:World} {nG:Nat}
def ZyI (pl:Pl) (p:Pr):Int×Int:=if (UC (prU p)).2≠0 then (0,(UC (prU p)).2) else match Zcj p with | some (a,e)=>(pl a,e) | none=>(0,0)
def X6 (p:Pr):Pr:=⟨p.types,[],[]⟩
def Znu (p:Pr):Int:=(ZyI (fun _=>0) (X6 p)).2
def ZlU (pl:Pl) (p:Pr) (g:(UC (prU p)).2≠0):(ZyI pl p).2=(UC (prU p)).2:=by rw [ZyI,Th g]
def ZlV (pl:Pl) {p:Pr} {a e:Nat} (g:(UC (prU p)).2=0) (g2:Zcj p=some (a,e)):(ZyI pl p).2=e:=by rw [ZyI,Tf (fun q=>q g),g2]
def ZqQ (pl:Pl) {p:Pr} (g:(UC (prU p)).2=0) (g2:Zcj p=none):(ZyI pl p).2=0:=by rw [ZyI,Tf (fun q=>q g),g2]
def ZuR (p:Pr) (s:Bs):Int×Int:=if Znu p≠0 then (0,Znu p) else if W3 (X6 p) s=false then (0,180) else (Xm (X6 p) s,0)
def ZyJ:Prop:=∀p:Pr,Zcj p=none->ZA9 p
def Zg6 (n:Nat):Zm:=fun args σ K=>match args,σ with
 | [.agg c,.d (.str s)],⟨[],[],0⟩=>∃pl p,c=(ZeD pl p).map .d/\(ZtK n (X6 p)/\n<=16777216/\ZyJ)/\∀a e,ZuR p s=(a,e)->K (.ret (.tuple [.d (.int .i64 a),.d (.int .i64 e)])) ⟨[],[],0⟩
 | _,_=>False
def ZqS {n:Nat}:OKw w0 nG [(16,U6 n),(19,U1),(20,Va)] 9 (Zg6 n):=by
 refine pwo Tryz.func9 fun args σ K h=>?_
 unfold Zg6 at h
 split at h
 ·obtain ⟨pl,p,rfl,⟨hc,hn,ao⟩,h⟩:=h;refine pwv [] 0 false ?_;refine ⟨pl,X6 p,rfl,⟨hc,hn,rfl⟩,fun g=>?_,fun g a e g2=>?_,fun g g2=>?_⟩
  ·have he:Znu p=(UC (prU (X6 p))).2:=ZlU _ _ g;(conv=>whnf);refine ZEy (fun _=>wN ?_) (fun g3=>absurd (by have g3:((UC (prU (X6 p))).2:Int)=0:=g3;omega) g)
   (repeat (refine ⟨rfl,?_⟩;conv=>whnf))
   exact h _ _ (by rw [ZuR,Th (by rw [he];omega),he])
  ·have he:Znu p=e:=ZlV _ g g2;have ai:=Zeb g2;(conv=>whnf);refine ZEy (fun _=>wN ?_) (fun g3=>absurd (by have g3:(e:Int)=0:=g3;omega) ai)
   (repeat (refine ⟨rfl,?_⟩;conv=>whnf))
   exact h _ _ (by rw [ZuR,Th (by rw [he];omega),he])
  have he:Znu p=0:=ZqQ _ g g2;(conv=>whnf);refine ⟨pl,X6 p,rfl,hc.2,fun b hb=>?_⟩
  cases b with
  | false =>
   conv=>whnf
   exact h _ _ (by rw [ZuR,Tf (by rw [he];simp),Th hb])
  | true =>
  conv=>whnf
  refine ⟨pl,X6 p,rfl,hc.2,ao _ g2,fun m hm=>wN ?_⟩;exact h _ _ (by rw [ZuR,Tf (by rw [he];simp),Tf (by rw [hb];simp),hm])
 exact h.elim
def Zg7:Zm:=fun args σ K=>match args,σ with
 | [.agg c,.d (.str a),.d (.str b)],⟨[],[],0⟩=>∃pl p,c=(ZeD pl p).map .d/\BP p/\∀x,XV p a b=x->K (.ret (.d (.bool x))) ⟨[],[],0⟩
 | _,_=>False
def ZqU:OKw w0 nG [(24,U5),(25,Zd8)] 12 Zg7:=by
 refine pwo Tryz.func12 fun args σ K h=>?_
 unfold Zg7 at h
 split at h
 ·obtain ⟨pl,p,rfl,hp,h⟩:=h;refine pwv [] 0 false ?_;refine ⟨pl,p,rfl,hp,wN ?_⟩;refine ⟨pl,p,rfl,hp,fun x hx=>wN ?_⟩;exact h _ hx
 exact h.elim
def ZiM (p:Pr) (t:Ty):List (List D):=if t.kind=2 then [[.int .u8 3,.sl (Yh (ZF p t.fields)),.sl []]] else if t.kind=3 then [[.int .u8 4,.sl [],.sl (t.cases.map fun c=>[.sl (Yh (ZF p c.fields))])]] else []
def X1 (p:Pr) (l:List Ty):List (List D):=[[.int .u8 1,.sl [],.sl []],[.int .u8 2,.sl [],.sl []]]++(l.map (ZiM p)).flatten
def ZqV (p:Pr) (t:Ty):(ZiM p t).length<=1:=by
 unfold ZiM
 split
 ·simp
 split <;> simp
def ZiN (p:Pr):∀l:List Ty,(X1 p l).length<=2+l.length
 | []=>by simp [X1]
 | t::l=>by
  have ih:=ZiN p l;have h1:=ZqV p t;simp only [X1,TD,List.flatten_cons,Ta,Td] at ih |-;omega
def Znv (p:Pr) (l:List Ty) (t:Ty):X1 p (l++[t])=X1 p l++ZiM p t:=by simp [X1]
def ZaO (n:Nat):Zm:=fun args σ K=>match args,σ with
 | [.agg c],⟨[],[],0⟩=>∃pl p,c=(ZeD pl p).map .d/\(ZtK n (X6 p)/\n<=16777216/\ZyJ)/\(Znu p≠0->K (.ret (.tuple [.d (.sl []),.d (.int .i64 (Znu p))])) ⟨[],[],0⟩)/\(Znu p=0->K (.ret (.tuple [.d (.sl (X1 (X6 p) p.types)),.d (.int .i64 0)])) ⟨[],[],0⟩)
 | _,_=>False
def ZfT (n:Nat):Tbl:=[(16,U6 n),(17,UE)]
abbrev sBx (pl:Pl) (p:Pr):List Box:=.cells 31 (ZgZ pl p)::.cells 31 (ZgZ pl (X6 p))::.cells 50 [.d (.int .i64 0),.d (.int .i64 0)]::(Zqv pl (X6 p) 3++[.cells 50 [.d (.int .i64 0),.d (.int .i64 0)]])
def Znw {n:Nat} (ht:TO w0 nG (ZfT n)):PC w0 nG 6 (ZaO n):=by
 refine Zbc ZC mixed (tbl:=ZfT n) ht Tryz.func6 rfl kR kR ?_;intro args σ K h
 unfold ZaO at h
 split at h
 ·obtain ⟨pl,p,rfl,⟨hc,hn,ao⟩,h1,h2⟩:=h;have aa:p.types.length<=1073741824:=hc.2.len.1;have hl:(p.types.map (Zq pl)).length=p.types.length:=Te ..;refine ⟨Zk [(6,⟨[6,30],[4,28,29],fun vs σ=>∃j:Nat,vs=[.sl 0 36 (X1 (X6 p) (p.types.take j)),.d (.int .i64 j)]/\σ=⟨sBx pl p,[0],1⟩/\j<=p.types.length,
    fun vs _=>match vs with | [_,.d (.int _ j)]=>((p.types.length:Int) - j).toNat | _=>0⟩),
   (14,⟨[6,52],[4,9,28,29,30,50,51],fun vs σ=>∃(j k:Nat) (t:Ty),vs=[.ptr 6 0,.ptr 11 0,.d (.sl (p.types.map (Zq pl))),.d (.int .i64 (p.types.map (Zq pl)).length),.d (.int .i64 j),.d (.sl (t.cases.map Zt)),.d (.int .i64 (t.cases.map Zt).length),.sl 0 36 (X1 (X6 p) (p.types.take j)),.d (.int .i64 k)] /\
     σ=⟨sBx pl p++[.cells 56 ((Zq pl t).map .d),.cells 36 [.d (.int .u8 4),.sl 1 3 [],.sl 2 33 ((t.cases.take k).map fun c=>[.sl (Yh (ZF (X6 p) c.fields))])]],[2,1,0],3⟩/\k<=t.cases.length/\p.types[j]?=some t,
    fun vs _=>match vs with | [_,_,_,_,_,_,.d (.int _ n),_,.d (.int _ k)]=>(n - k).toNat | _=>0⟩)],Ye [],ZB [14],ZB [26],ZB [],0,false,sM,Tc rfl,?_⟩
  conv=>whnf
  refine ⟨pl,X6 p,rfl,⟨hc,hn,rfl⟩,fun g=>?_,fun g a e g2=>?_,fun g g2=>?_⟩
  ·have he:Znu p=(UC (prU (X6 p))).2:=ZlU _ _ g;(conv=>whnf);refine ZEy (fun _=>wN ?_) (fun g3=>absurd (by have g3:((UC (prU (X6 p))).2:Int)=0:=g3;omega) g)
   (repeat (refine ⟨rfl,?_⟩;conv=>whnf))
   rw [he] at h1;exact h1 oM
  ·have he:Znu p=e:=ZlV _ g g2;have ai:=Zeb g2;(conv=>whnf);refine ZEy (fun _=>wN ?_) (fun g3=>absurd (by have g3:(e:Int)=0:=g3;omega) ai)
   (repeat (refine ⟨rfl,?_⟩;conv=>whnf))
   rw [he] at h1;exact h1 oM
  have he:Znu p=0:=ZqQ _ g g2;have h2:=h2 he;have tg:=ao _ g2;(conv=>whnf);refine ⟨⟨0,rfl,rfl,oM⟩,?_⟩
  rintro vs σ1 ⟨j,rfl,rfl,hj⟩
  conv=>whnf
  refine ZEw (fun dh=>?_) (fun dh=>?_);rotate_left
  ·conv=>whnf
   rw [List.take_of_length_le oM];exact h2
  have ab:j<p.types.length:=oM;have cu:p.types.take (j+1)=p.types.take j++[p.types[j]]:=by rw [List.take_add_one,Tb ab];rfl
  have ez:X1 (X6 p) (p.types.take (j+1))=X1 (X6 p) (p.types.take j)++ZiM (X6 p) p.types[j]:=by rw [cu,Znv]
  have ei:(X1 (X6 p) (p.types.take j)).length<=2+j:=by have:=ZiN (X6 p) (p.types.take j);rw [Si,Nat.min_eq_left oM] at this;exact this
  have ht:p.types[j]?=some p.types[j]:=Tb ab;have qf:=hc.2.ty (p:=X6 p) (TE ab);have hr:(p.types.map (Zq pl))[(j:Int).toNat]?=some (Zq pl p.types[j]):=by rw [Ti,Tj,ht];rfl
  generalize p.types[j]=t at ez ht hr qf;obtain ⟨t1,t2,t3,t4,t5,t6⟩:=t;simp only at qf;have jg:(t5.map Zt).length=t5.length:=Te ..;have hμ:((p.types.length:Int) - ((j:Int)+1)).toNat<((p.types.length:Int) - (j:Int)).toNat:=oM;(conv=>whnf);refine ⟨_,oM,hr,wN ?_⟩;refine ZEw (fun be=>wN ?_) (fun be=>wN ?_)
  ·have be:t1=2:=by have be:(t1:Int)=2:=be;omega
   have ez:X1 (X6 p) (p.types.take (j+1))=X1 (X6 p) (p.types.take j)++[[.int .u8 3,.sl (Yh (ZF (X6 p) t4)),.sl []]]:=by rw [ez,ZiM,Th be]
   refine ⟨pl,X6 p,rfl,hc.2,t4,rfl,⟨tg,qf.1⟩,wN ?_⟩;refine ⟨fun r hr=>by simp at hr;subst hr;rfl,?_,?_,?_⟩
   ·show ((X1 (X6 p) (p.types.take j)).length+1) * 56<=2 ^ 47;omega
   ·show (X1 (X6 p) (p.types.take j)).length+1<=2 ^ 47;omega
   conv=>whnf
   refine Zj ?_;exact ⟨⟨j+1,by rw [ez];rfl,rfl,oM⟩,hμ⟩
  refine ZEw (fun fc=>?_) (fun fc=>?_);rotate_left
  ·have ez:X1 (X6 p) (p.types.take (j+1))=X1 (X6 p) (p.types.take j):=by
    rw [ez,ZiM,Tf (fun g=>be (by simp only [show t1=2 from g];rfl)),Tf (fun g=>fc (by simp only [show t1=3 from g];rfl)),T2]
   conv=>whnf
   refine Zj ?_;exact ⟨⟨j+1,by rw [ez];rfl,rfl,oM⟩,hμ⟩
  have fc:t1=3:=by have fc:(t1:Int)=3:=fc;omega
  have ez:X1 (X6 p) (p.types.take (j+1))=X1 (X6 p) (p.types.take j)++[[.int .u8 4,.sl [],.sl (t5.map fun c=>[.sl (Yh (ZF (X6 p) c.fields))])]]:=by rw [ez,ZiM,Tf (by simp [fc]),Th fc]
  conv=>whnf
  refine ⟨⟨j,0,⟨t1,t2,t3,t4,t5,t6⟩,rfl,rfl,oM,ht⟩,?_⟩
  rintro vs σ2 ⟨j',k,t',bv,rfl,hk,kh⟩
  have ej:(some (PV.d (.int .i64 (j:Int))):Option PV)=some (.d (.int .i64 (j':Int))):=congrArg (fun l:List PV=>l[4]?) bv;obtain rfl:j=j':=by have ej:=Option.some.inj ej;injection ej with ej;injection ej with _ ej;omega
  obtain rfl:(⟨t1,t2,t3,t4,t5,t6⟩:Ty)=t':=Option.some.inj (ht.symm.trans kh);have bv:vs=[.sl 0 36 (X1 (X6 p) (p.types.take j)),.d (.int .i64 k)]:=congrArg (List.drop 7) bv;subst bv;(conv=>whnf);refine ZEw (fun bj=>?_) (fun bj=>?_)
  ·have aq:k<t5.length:=by have bj:(k:Int)<((t5.map Zt).length:Int):=bj;omega
   have hkl:((t5.take k).map fun c:Ca=>[D.sl (Yh (ZF (X6 p) c.fields))]).length=k:=by rw [Te,Si];omega
   have lz:((t5.take (k+1)).map fun c:Ca=>[D.sl (Yh (ZF (X6 p) c.fields))])=((t5.take k).map fun c:Ca=>[D.sl (Yh (ZF (X6 p) c.fields))])++[[D.sl (Yh (ZF (X6 p) t5[k].fields))]]:=by
    rw [List.take_add_one,Tb aq];show List.map _ (t5.take k++[t5[k]])=_;rw [TP];rfl
   have hcf:=qf.2.2 _ (TE aq);have dz:(t5.map Zt)[(k:Int).toNat]?=some (Zt t5[k]):=by rw [Ti,Tj,Tb aq];rfl
   generalize t5[k]=c at lz dz hcf;obtain ⟨c1,c2⟩:=c;(conv=>whnf);refine ⟨_,oM,dz,wN ?_⟩;refine ⟨pl,X6 p,rfl,hc.2,c2,rfl,⟨tg,hcf⟩,wN ?_⟩
   (repeat (refine ⟨rfl,?_⟩;conv=>whnf))
   refine ⟨fun r hr=>by simp at hr;subst hr;rfl,?_,?_,?_⟩
   ·show (((t5.take k).map fun c:Ca=>[D.sl (Yh (ZF (X6 p) c.fields))]).length+1) * 24<=2 ^ 47;omega
   ·show ((t5.take k).map fun c:Ca=>[D.sl (Yh (ZF (X6 p) c.fields))]).length+1<=2 ^ 47;omega
   conv=>whnf
   (repeat (refine ⟨rfl,?_⟩;conv=>whnf))
   refine Zj ?_;exact ⟨⟨j,k+1,⟨t1,t2,t3,t4,t5,t6⟩,rfl,by simp only [lz];rfl,by simp only;omega,ht⟩,by show (((t5.map Zt).length:Int) - ((k:Int)+1)).toNat<(((t5.map Zt).length:Int) - (k:Int)).toNat;omega⟩
  have ia:k=t5.length:=by have bj:¬(k:Int)<((t5.map Zt).length:Int):=bj;have hk:k<=t5.length:=hk;omega
  subst ia;(conv=>whnf);refine ⟨fun r hr=>by simp at hr;subst hr;rfl,?_,?_,?_⟩
  ·show ((X1 (X6 p) (p.types.take j)).length+1) * 56<=2 ^ 47;omega
  ·show (X1 (X6 p) (p.types.take j)).length+1<=2 ^ 47;omega
  conv=>whnf
  refine Zj ?_;exact ⟨⟨j+1,by rw [ez];simp only [T6];rfl,rfl,oM⟩,hμ⟩
 exact h.elim
def pig:∀(n:Nat) (f:Nat->Nat),(∀i,i<=n->f i<n)->∃i j,i<j/\j<=n/\f i=f j
 | 0,f,h=>absurd (h 0 (Tz _)) oM
 | n+1,f,h=>by
  by_cases hx:∃i,i<=n/\f i=f (n+1)
  ·obtain ⟨i,h1,h2⟩:=hx;exact ⟨i,n+1,oM,oM,h2⟩
  have ai:∀i,i<=n->f i≠f (n+1):=fun i hi g=>hx ⟨i,hi,g⟩
  have hv:=h (n+1) oM;obtain ⟨i,j,h1,h2,h3⟩:=pig n (fun i=>if f (n+1)<f i then f i - 1 else f i) (fun i hi=>by
   have h1:=h i oM;have h2:=ai i hi;show (if f (n+1)<f i then f i - 1 else f i)<n;split <;> omega)
  refine ⟨i,j,h1,oM,?_⟩;have h4:=ai i oM;have h5:=ai j h2
  change (if f (n+1)<f i then f i - 1 else f i)=(if f (n+1)<f j then f j - 1 else f j) at h3
  split at h3 <;> split at h3 <;> omega
def sN (p:Pr):Nat->Bs->Bs
 | 0,a=>a
 | n+1,a=>sN p n ((X0 p a).getD [])
def ZqW (p:Pr):∀(i k:Nat) (a:Bs),sN p (i+k) a=sN p k (sN p i a)
 | 0,k,a=>by rw [T9];rfl
 | i+1,k,a=>by rw [show i+1+k=(i+k)+1 by omega];exact ZqW p i k _
def ZlW {p:Pr}:∀{n:Nat} {a:Bs},ZbE p n a=none->∀i,i<n->(X0 p (sN p i a)).isSome=true
 | 0,_,_,i,hi=>oM
 | n+1,a,h,i,hi=>by
  simp only [ZbE] at h;split at h
  ·cases h
  rename_i c hc
  cases i with
  | zero=>simp only [sN,hc];rfl
  | succ i=>simp only [sN,hc];exact ZlW h i oM
def ZqX {p:Pr} {s:Bs}:∀{k n:Nat} {a:Bs},(∀i,i<=k->(X0 p (sN p i a)).isSome=true)->sN p (k+1) a=s->k<n->Zea p s n a=true
 | k,0,_,_,_,h=>oM
 | 0,n+1,a,h,hs,_=>by
  obtain ⟨c,hc⟩:=SA.1 (h 0 oM);simp only [sN] at hc hs;rw [hc] at hs;simp only [Sw] at hs;simp only [Zea,hc];rw [Th hs]
 | k+1,n+1,a,h,hs,hk=>by
  obtain ⟨c,hc⟩:=SA.1 (h 0 oM);simp only [sN] at hc;simp only [Zea,hc];split
  ·rfl
  refine ZqX (k:=k) (fun i hi=>?_) ?_ oM
  ·have:=h (i+1) oM;simpa only [sN,hc,Sw] using this
  rw [<- hs];simp only [sN,hc];rfl
def ZfU {p:Pr}:∀{l:List Ty},Zci p l=none->∀t∈l,Zkm p t=false
 | [],_,_,h=>by cases h
 | x::l,h,t,ht=>by
  simp only [Zci] at h;split at h
  ·cases h
  rename_i hx
  rcases Tv.1 ht with rfl | ht
  ·simpa using hx
  exact ZfU h t ht
def ZyK {p:Pr} {a b:Bs} (h:X0 p a=some b):∃(k:Nat) (t:Ty),lkM a (Zts p)=some (k:Int)/\p.types[k]?=some t/\t.name=a/\t.kind=1/\t.base=b:=by
 unfold X0 at h
 split at h
 ·cases h
 rename_i i hi
 obtain ⟨k,t,rfl,ht,hn⟩:=Zqm hi;split at h
 ·cases h
 rw [Ti,ht] at h;simp only at h;split at h
 ·rename_i hc;cases h;exact ⟨k,t,hi,ht,hn,hc.1,rfl⟩
 cases h
def ZyL {p:Pr} (h:Zci p p.types=none):ZA9 p:=fun s=>by
 cases he:ZuI p s with
 | some r=>rfl
 | none =>
 exfalso;have hs:=ZlW he;have hix:∀i,i<=p.types.length->∃(k:Nat) (t:Ty),lkM (sN p i s) (Zts p)=some (k:Int)/\p.types[k]?=some t/\t.name=sN p i s:=fun i hi=>by
  obtain ⟨b,hb⟩:=SA.1 (hs i oM);obtain ⟨k,t,h1,h2,h3,_⟩:=ZyK hb;exact ⟨k,t,h1,h2,h3⟩
 obtain ⟨i,j,h1,h2,h3⟩:=pig p.types.length (fun i=>((lkM (sN p i s) (Zts p)).getD 0).toNat) (fun i hi=>by
  obtain ⟨k,t,g1,g2,_⟩:=hix i hi;simp only [g1,Sw,Ti];exact (Tk.1 g2).1)
 obtain ⟨k1,t1,g1,g2,g3⟩:=hix i oM;obtain ⟨k2,t2,q1,q2,q3⟩:=hix j h2;simp only [g1,q1,Sw,Ti] at h3;subst h3;rw [g2] at q2
 cases q2
 have bm:sN p j s=sN p i s:=q3.symm.trans g3;have hr:=ZfU h t1 (T1 g2);have:Zkm p t1=true:=by
  unfold Zkm
  rw [g3];refine ZqX (k:=j - i - 1) (fun m hm=>?_) ?_ oM
  ·rw [<- ZqW];exact hs _ oM
  rw [<- ZqW,show i+(j - i - 1+1)=j by omega];exact bm
 rw [this] at hr
 cases hr
def Zt1 {p:Pr} (h:Zcj p=none):ZaK p.types ZfK []=none/\Zg0 p p.types=none/\Zci p p.types=none:=by
 unfold Zcj at h
 split at h
 ·cases h
 rename_i h1
 split at h
 ·cases h
 rename_i h2
 split at h
 ·cases h
 rename_i h3;exact ⟨h1,h2,h3⟩
def ZfV:ZyJ:=fun p h=>ZyL (Zt1 h).2.2
inductive On (p:Pr):Bs->Bs->Prop
 | refl (a:Bs):On p a a
 | step {a c b:Bs} (h:X0 p a=some c) (k:On p c b):On p a b
def On.trans {p:Pr} {a b c:Bs} (h:On p a b) (k:On p b c):On p a c:=by
 induction h with
 | refl=>exact k
 | step h _ ih=>exact .step h (ih k)
def NZ (x:Flt):Prop:=∀a e,x=some (a,e)->e≠0
def NZ.none:NZ none:=fun a e h=>by cases h
def NZ.mk {a e:Nat} (h:e≠0):NZ (some (a,e)):=fun _ _ g=>by cases g;exact h
mutual
def ZBm (p:Pr) (vs:Vs):∀(e:Ex) (n:Int),NZ (rtE p vs e n)
 | .mk op text num args a,n=>by
  simp only [rtE];split
  ·exact .mk dM
  split
  ·exact .mk dM
  split
  ·exact .mk dM
  exact Zek p vs args _
def Zek (p:Pr) (vs:Vs):∀(l:List Ex) (ns:List Int),NZ (ZaS p vs l ns)
 | [],_=>.none
 | e::l,[]=>.none
 | e::l,n::ns=>by
  have h:=ZBm p vs e n;simp only [ZaS];split
  ·exact mq139
  exact Zek p vs l ns
end
def ZqY (p:Pr) (vs:Vs) (name:Bs) (args:List Ex) (a:Nat) (hd:Bool):NZ (ZtM p vs name args a hd):=by
 unfold ZtM
 split
 ·exact .mk dM
 split
 ·exact .none
 split
 ·exact .mk dM
 split
 ·exact .mk dM
 exact Zek p vs _ _
mutual
def ZBn (p:Pr) (vs:Vs):∀(x:Li),NZ (rtL p vs x)
 | .mk op rel args body a=>by
  simp only [rtL];split
  ·exact ZqY p vs _ _ _ _
  split
  ·have h:=Zek p vs args [Jt p vs args,Jt p vs args];split
   ·exact mq139
   split
   ·exact .mk dM
   exact .none
  have h:=Zek p vs args (List.replicate args.length 0);split
  ·exact mq139
  exact Zkr p vs body
def Zkr (p:Pr) (vs:Vs):∀(l:List Li),NZ (Zhp p vs l)
 | []=>.none
 | x::l=>by
  have h:=ZBn p vs x;simp only [Zhp];split
  ·exact mq139
  exact Zkr p vs l
end
def ZlX (p:Pr) (kn:List (Bs×Bs)):∀l,NZ (Ub p kn l)
 | []=>.none
 | (.mk op text _ _ a,k)::l=>by
  simp only [Ub];split
  ·exact .mk dM
  exact ZlX p kn l
def Zel (p:Pr) (r:Ru) (vs:Vs):NZ (Zb9 p r vs):=by
 unfold Zb9
 split
 ·exact .mk dM
 have h:=ZqY p vs r.head r.args r.at' true;split
 ·exact mq139
 have h:=Zkr p vs r.body;split
 ·exact mq139
 exact ZlX p _ _
def ZiO {p:Pr} (h:(UC (prU p)).2=0) {r:Ru} (hr:r∈p.rules):Zcg r.body=true:=by
 have hm:Zey (prU p)=true:=by
  cases hm:Zey (prU p) with
  | true=>rfl
  | false=>rw [UC,hm] at h;simp at h
 simp only [prU,Zey,Tm,Tq] at hm;have:=hm.2.2.1 r hr;simp only [XT,Tm] at this;rw [Xj];exact this.2.2
def ZaP (n:Nat):Zm:=fun args σ K=>match args,σ with
 | [.agg c],⟨[],[],0⟩=>∃pl p,c=(ZeD pl p).map .d/\(Zd6 n (prU p)/\n<=16777216/\Znk p<=2097152) /\
   ((UC (prU p)).2≠0->K (.ret (.tuple [.d .nilp,.agg [.d (.int .i64 0),.d (.int .i64 (UC (prU p)).2)]])) ⟨[],[],0⟩) /\
   ((UC (prU p)).2=0->∀a e,orF (Zcj p) (Xu p p.rules)=some (a,e)->K (.ret (.tuple [.d .nilp,.agg [.d (.int .i64 (pl a)),.d (.int .i64 e)]])) ⟨[],[],0⟩) /\
   ((UC (prU p)).2=0->orF (Zcj p) (Xu p p.rules)=none->K (.ret (.tuple [.ptr 5 0,.agg [.d (.int .i64 0),.d (.int .i64 0)]])) ⟨ZBM pl p,[],0⟩)
 | _,_=>False
def ZqZ (n:Nat):Tbl:=[(26,Zni XY Zd6 UC n),(24,U5),(27,Zqu),(21,ZaM 2097152),(28,ZcH 2097152)]
def Zq0 {n:Nat} (ht:TO w0 nG (ZqZ n)):PC w0 nG 16 (ZaP n):=by
 refine YF ZC mixed (tbl:=ZqZ n) ht Tryz.func16 rfl kR kR ?_;intro args σ K h
 unfold ZaP at h
 split at h
 ·obtain ⟨pl,⟨p1,p2,p3⟩,rfl,⟨hc,hn,hz⟩,h1,h2,h3⟩:=h;have hp:BP ⟨p1,p2,p3⟩:=by unfold BP;omega
  have j5:=@ZiO ⟨p1,p2,p3⟩;obtain ⟨tx,k,ho⟩:∃s k,UC (prU ⟨p1,p2,p3⟩)=(s,k):=⟨_,_,rfl⟩
  rw [ho] at h1 h2 h3 j5;simp only at h1 h2 h3 j5
  by_cases hk:k=0
  ·subst hk;have h2:=h2 rfl;have h3:=h3 rfl;have j5:=@j5 rfl
   cases hd:Zcj ⟨p1,p2,p3⟩ with
   | none =>
    rw [hd] at h2 h3;simp only [orF] at h2 h3;have ao:OKP ⟨p1,p2,p3⟩:=⟨hp,ZfV _ hd⟩
    have aan:∀r∈p3,ZlE r<=2097152:=fun r hr=>by have:=ZbD (f:=ZlE) hr;simp only [Znk] at hz;omega
    have dx:(p3.map (ZS pl)).length=p3.length:=Te ..;have eu:p3.length<=2097152:=by have:=ZA ZlE p3;simp only [Znk] at hz;omega
    cases hX:Xu ⟨p1,p2,p3⟩ p3 with
    | none =>
     have h3:=h3 hX;refine ⟨Zk [(9,⟨[37],[3,6,35,36],fun w σ=>∃j:Nat,w=[.d (.int .i64 j)]/\σ=⟨ZBM pl ⟨p1,p2,p3⟩++[.cells 50 [.d (.int .i64 0),.d (.int .i64 0)]],[],0⟩/\j<=p3.length/\Xu ⟨p1,p2,p3⟩ (p3.drop j)=none,
      fun w _=>match w with | [.d (.int _ j)]=>((p3.length:Int) - j).toNat | _=>0⟩)],Ye [],ZB [],8,false,sM,Tc rfl,?_⟩
     conv=>whnf
     refine ⟨pl,prU ⟨p1,p2,p3⟩,rfl,⟨hc,hn⟩,fun s k he=>?_⟩;rw [ho] at he
     cases he
     conv=>whnf
     refine ⟨pl,⟨p1,p2,p3⟩,rfl,hp,wN ?_⟩;refine ⟨pl,⟨p1,p2,p3⟩,rfl,hp,fun x hx=>?_⟩;rw [hd] at hx;subst hx;(conv=>whnf);refine ⟨⟨0,rfl,rfl,oM,hX⟩,?_⟩
     rintro w σ1 ⟨j,rfl,rfl,hj,ha⟩
     conv=>whnf
     refine ZEw (fun hq=>?_) (fun hq=>?_);rotate_left
     ·have hq:¬(j:Int)<((p3.map (ZS pl)).length:Nat):=hq;rw [Tr oM] at ha;have ha:none=none:=ha;(conv=>whnf);exact h3
     have ab:j<p3.length:=by have hq:(j:Int)<((p3.map (ZS pl)).length:Nat):=hq;omega
     have hr:(p3.map (ZS pl))[(j:Int).toNat]?=some (ZS pl p3[j]):=by rw [Ti,Tj,Tb ab];rfl
     have js:=aan _ (TE ab);have qg:=j5 (TE ab);rw [Tl ab] at ha;simp only [Xu] at ha;have hμ:((p3.length:Int) - ((j:Int)+1)).toNat<((p3.length:Int) - (j:Int)).toNat:=oM;generalize p3[j]=r at ha hr js qg;obtain ⟨r1,r2,r3,r4⟩:=r;(conv=>whnf);refine ⟨_,oM,hr,wN ?_⟩;refine ⟨pl,⟨p1,p2,p3⟩,⟨r1,r2,r3,r4⟩,rfl,rfl,ao,⟨js,dM⟩,qg,wN ?_⟩;refine ⟨pl,⟨p1,p2,p3⟩,⟨r1,r2,r3,r4⟩,Vy ⟨p1,p2,p3⟩ ⟨r1,r2,r3,r4⟩,false,rfl,ao,⟨js,dM⟩,qg,fun x hx=>?_⟩;have hnz:=Zel ⟨p1,p2,p3⟩ ⟨r1,r2,r3,r4⟩ (Vy ⟨p1,p2,p3⟩ ⟨r1,r2,r3,r4⟩);rw [hx] at ha hnz
     cases x with
     | none =>
      conv=>whnf
      exact mq89
     | some ae =>
     obtain ⟨a2,e2⟩:=ae
     cases ha
    | some ae =>
    obtain ⟨a,e⟩:=ae;have h2:=h2 a e hX;refine ⟨Zk [(9,⟨[37],[3,6,35,36],fun w σ=>∃j:Nat,w=[.d (.int .i64 j)]/\σ=⟨ZBM pl ⟨p1,p2,p3⟩++[.cells 50 [.d (.int .i64 0),.d (.int .i64 0)]],[],0⟩/\j<=p3.length/\Xu ⟨p1,p2,p3⟩ (p3.drop j)=some (a,e),
     fun w _=>match w with | [.d (.int _ j)]=>((p3.length:Int) - j).toNat | _=>0⟩)],Ye [],ZB [],0,false,sM,Tc rfl,?_⟩
    conv=>whnf
    refine ⟨pl,prU ⟨p1,p2,p3⟩,rfl,⟨hc,hn⟩,fun s k he=>?_⟩;rw [ho] at he
    cases he
    conv=>whnf
    refine ⟨pl,⟨p1,p2,p3⟩,rfl,hp,wN ?_⟩;refine ⟨pl,⟨p1,p2,p3⟩,rfl,hp,fun x hx=>?_⟩;rw [hd] at hx;subst hx;(conv=>whnf);refine ⟨⟨0,rfl,rfl,oM,hX⟩,?_⟩
    rintro w σ1 ⟨j,rfl,rfl,hj,ha⟩
    conv=>whnf
    refine ZEw (fun hq=>?_) (fun hq=>?_);rotate_left
    ·have hq:¬(j:Int)<((p3.map (ZS pl)).length:Nat):=hq;rw [Tr oM] at ha;have ha:none=some (a,e):=ha
     cases ha
    have ab:j<p3.length:=by have hq:(j:Int)<((p3.map (ZS pl)).length:Nat):=hq;omega
    have hr:(p3.map (ZS pl))[(j:Int).toNat]?=some (ZS pl p3[j]):=by rw [Ti,Tj,Tb ab];rfl
    have js:=aan _ (TE ab);have qg:=j5 (TE ab);rw [Tl ab] at ha;simp only [Xu] at ha;have hμ:((p3.length:Int) - ((j:Int)+1)).toNat<((p3.length:Int) - (j:Int)).toNat:=oM;generalize p3[j]=r at ha hr js qg;obtain ⟨r1,r2,r3,r4⟩:=r;(conv=>whnf);refine ⟨_,oM,hr,wN ?_⟩;refine ⟨pl,⟨p1,p2,p3⟩,⟨r1,r2,r3,r4⟩,rfl,rfl,ao,⟨js,dM⟩,qg,wN ?_⟩;refine ⟨pl,⟨p1,p2,p3⟩,⟨r1,r2,r3,r4⟩,Vy ⟨p1,p2,p3⟩ ⟨r1,r2,r3,r4⟩,false,rfl,ao,⟨js,dM⟩,qg,fun x hx=>?_⟩;have hnz:=Zel ⟨p1,p2,p3⟩ ⟨r1,r2,r3,r4⟩ (Vy ⟨p1,p2,p3⟩ ⟨r1,r2,r3,r4⟩);rw [hx] at ha hnz
    cases x with
    | none =>
     conv=>whnf
     exact mq89
    | some ae =>
    obtain ⟨a2,e2⟩:=ae;have ha:some (a2,e2)=some (a,e):=ha
    cases ha
    conv=>whnf
    refine ZEy (fun _=>wN ?_) (fun g=>absurd (by have g:(e:Int)=0:=g;omega) (hnz _ _ rfl))
    (repeat (refine ⟨rfl,?_⟩;conv=>whnf))
    exact h2
   | some ae =>
   obtain ⟨a,e⟩:=ae;have h2:=h2 a e (by rw [hd];rfl);refine ⟨Zk [],Ye [],ZB [],0,false,sM,Tc rfl,wN ?_⟩;refine ⟨pl,prU ⟨p1,p2,p3⟩,rfl,⟨hc,hn⟩,fun s k he=>?_⟩;rw [ho] at he
   cases he
   conv=>whnf
   refine ⟨pl,⟨p1,p2,p3⟩,rfl,hp,wN ?_⟩;refine ⟨pl,⟨p1,p2,p3⟩,rfl,hp,fun x hx=>?_⟩;exact mq103
  have h1:=h1 hk;refine ⟨Zk [],Ye [],ZB [],0,false,sM,Tc rfl,wN ?_⟩;refine ⟨pl,prU ⟨p1,p2,p3⟩,rfl,⟨hc,hn⟩,fun s k he=>?_⟩;exact mq136
 exact h.elim
def Zg8 (n:Nat):Zm:=fun args σ K=>match args,σ with
 | [.agg c],⟨[],[],0⟩=>∃pl p,c=(ZeD pl p).map .d/\(Zd6 n (prU p)/\n<=16777216/\Znk p<=2097152)/\∀a e,Zrq pl p=(a,e)->K (.ret (.tuple [.d (.int .i64 a),.d (.int .i64 e)])) ⟨[],[],0⟩
 | _,_=>False
def ZbJ (pl:Pl) (p:Pr):Zrq pl p=if (UC (prU p)).2≠0 then ((0:Int),((UC (prU p)).2:Int)) else match orF (Zcj p) (Xu p p.rules) with | some (a,e)=>(pl a,(e:Int)) | none=>(0,0):=by
 unfold Zrq
 split
 ·rfl
 cases Zcj p with
 | some ae=>rfl
 | none=>rfl
def Zt2 {n:Nat}:OKw w0 nG [(16,ZaP n)] 15 (Zg8 n):=by
 refine pwo Tryz.func15 fun args σ K h=>?_
 unfold Zg8 at h
 split at h
 ·obtain ⟨pl,p,rfl,hc,h⟩:=h;simp only [ZbJ] at h;refine pwv [] 0 false ?_;refine ⟨pl,p,rfl,hc,fun g=>?_,fun g a e g2=>?_,fun g g2=>?_⟩
  ·conv=>whnf
   exact h _ _ (by rw [Th g])
  ·conv=>whnf
   exact h _ _ (by rw [Tf (fun q=>q g),g2])
  conv=>whnf
  exact h _ _ (by rw [Tf (fun q=>q g),g2])
 exact h.elim
end Go.PM.Lex
end

section
namespace Go.PM.Lex
section
variable {ty:List Ty} {re:List Re} {a b:List Ru}
end
def rules_none {p:Pr}:∀{l:List Ru},Xu p l=none↔∀r∈l,Zb9 p r (Vy p r)=none
 | []=>by simp [Xu]
 | r::l=>by
  simp only [Xu,List.forall_mem_cons,<- rules_none (p:=p) (l:=l)]
  cases Zb9 p r (Vy p r) with
  | none=>simp
  | some f=>simp
end Go.PM.Lex
end

section
namespace Go.PM.Lex
open Go.Proofs
variable {w0:World} {nG:Nat}
def U7:Zm:=fun args σ K=>match args,σ with
 | [],⟨[],[],0⟩=>K (.ret (.d (.bool true))) ⟨[],[],0⟩
 | _,_=>False
def Zt3:PC w0 nG 33 ZfG:=Zyr ⟨ZlJ,trivial⟩
def Zq1:PC w0 nG 19 U1:=Zqo ⟨ZlJ,trivial⟩
def ZaQ:PC w0 nG 20 Va:=Zqp ⟨Zt3,trivial⟩
def ZuS:PC w0 nG 51 Zd9:=ZtD ⟨ZtB ⟨Ztz ⟨Ztx ⟨Zq1,trivial⟩,trivial⟩,trivial⟩,trivial⟩
def ZBP:PC w0 nG 27 Zqu:=ZBa ⟨ZtJ ⟨ZtH ⟨ZtF ⟨ZuS,trivial⟩,trivial⟩,trivial⟩,ZuS,Zq1,Zt3,trivial⟩
def Zem:PC w0 nG 24 U5:=Zqt ⟨Zkh ⟨Zkf,trivial⟩,Zkk ⟨Zki,trivial⟩,trivial⟩
def ZuT:PC w0 nG 25 Zd8:=Zqq ⟨Zt3,trivial⟩
def Zq2:PC w0 nG 17 UE:=Znn ⟨ZaQ,trivial⟩
def ZCS:PC w0 nG 110 Zqw:=ZBc ⟨ZaQ,trivial⟩
def ZyM:PC w0 nG 109 Zkn:=ZBd
def ZlY:PC w0 nG 60 Zef:=ZtP ⟨Zq2,ZyM,trivial⟩
def ZlZ:PC w0 nG 61 Zeg:=ZtR ⟨ZCS,trivial⟩
def kGv:∀m,PC w0 nG 35 (Zyt m)
 | 0=>ZBe ⟨Z0 (Zl Tryz.func35 kR rfl),ZlY,trivial⟩
 | m+1=>ZBe ⟨Z1 (sp:=Zyt) (kGv m),ZlY,trivial⟩
def kRt:∀m,PC w0 nG 93 (Zyu m)
 | 0=>ZuL ⟨Z0 (Zl Tryz.func93 kR rfl),ZCS,ZlY,ZyM,trivial⟩
 | m+1=>ZuL ⟨Z1 (sp:=Zyu) (kRt m),ZCS,ZlY,ZyM,trivial⟩
def ZCT (m:Nat):PC w0 nG 34 (Zqy m):=ZBg ⟨kGv m,ZaQ,trivial⟩
def ZDQ (m:Nat):PC w0 nG 34 (ZtV m):=ZBj ⟨kRt m,ZaQ,trivial⟩
def ZBo:∀m,PC w0 nG 36 (ZfQ m)
 | 0=>ZqB ⟨Z0 (Zl Tryz.func36 kR rfl),kGv 0,ZCT 0,ZlZ,trivial⟩
 | m+1=>ZqB ⟨Z1 (sp:=ZfQ) (ZBo m),kGv _,ZCT _,ZlZ,trivial⟩
def ZyN (m:Nat):PC w0 nG 53 (ZfR m):=Zyx ⟨ZDQ m,trivial⟩
def ZBp:∀m,PC w0 nG 54 (Zei m)
 | 0=>ZqI ⟨Z0 (Zl Tryz.func54 kR rfl),kRt 0,ZyN 0,ZlZ,trivial⟩
 | m+1=>ZqI ⟨Z1 (sp:=Zei) (ZBp m),kRt _,ZyN _,ZlZ,trivial⟩
def kH1:PC w0 nG 95 ZBN:=ZCL
def kH2:PC w0 nG 96 ZBO:=ZCP ⟨Zt3,ZyD ⟨ZyB ⟨Zyz ⟨ZuT,trivial⟩,trivial⟩,trivial⟩,trivial⟩
def ZDu:∀m,PC w0 nG 94 (Zns m)
 | 0=>ZuP ⟨Z0 (Zl Tryz.func94 kR rfl),kH1,ZaQ,ZyM,trivial⟩
 | m+1=>ZuP ⟨Z1 (sp:=Zns) (ZDu m),kH1,ZaQ,ZyM,trivial⟩
def ZDv:∀m,PC w0 nG 94 (Znt m)
 | 0=>ZuQ ⟨Z0 (Zl Tryz.func94 kR rfl),kH2,ZaQ,ZyM,trivial⟩
 | m+1=>ZuQ ⟨Z1 (sp:=Znt) (ZDv m),kH2,ZaQ,ZyM,trivial⟩
def ZBq (m:Nat):PC w0 nG 55 (Zej m):=Zt0 ⟨ZqO (ZDu m) (ZDv m),trivial⟩
def Zq3 (m:Nat):PC w0 nG 28 (ZcH m):=ZqP ⟨ZyN m,ZBp m,ZBq m,trivial⟩
def Zks (m:Nat):PC w0 nG 21 (ZaM m):=ZqG ⟨ZCT m,ZBo m,trivial⟩
def Zq4 {n:Nat} (hp:PC w0 nG 26 (Zni XY Zd6 UC n)):PC w0 nG 15 (Zg8 n):=Zt2 ⟨Zq0 ⟨hp,Zem,ZBP,Zks _,Zq3 _,trivial⟩,trivial⟩
def Zl0 (k:Bs) (n:Int):∀v:Vs,(YB k n v).map (·.1)=if k∈v.map (·.1) then v.map (·.1) else v.map (·.1)++[k]
 | []=>rfl
 | (x,u)::v=>by
  have ih:=Zl0 k n v;simp only [YB]
  by_cases h:k=x
  ·subst h;simp
  rw [decide_eq_false h];simp only [TD,Tv,h,false_or,ih];split <;> rfl
def Qv (P:Bs->Prop) (v:Vs):Prop:=(v.map (·.1)).Nodup/\∀t∈v.map (·.1),P t
def Qv.set {P:Bs->Prop} {t:Bs} {n:Int} {s:VS} (h:Qv P s.1) (ht:P t):Qv P (ZtL t n s).1:=by
 unfold ZtL
 split
 ·unfold Qv
  simp only [Zl0];split
  ·exact h
  rename_i g
  refine ⟨List.nodup_append.2 ⟨h.1,sM,fun a ha b hb=>?_⟩,fun x hx=>?_⟩
  ·simp at hb;subst hb;exact fun e=>g (e ▸ ha)
  rcases TJ.1 hx with hx | hx
  ·exact h.2 x hx
  simp at hx;subst hx;exact ht
 exact h
mutual
def Qv.gvE {P:Bs->Prop} {p:Pr}:∀{e:Ex} {n:Int} {s:VS},Qv P s.1->(∀t∈nvE e,P t)->Qv P (gvE p e n s).1
 | .mk op text num args a,n,s,h,ht=>by
  simp only [nvE] at ht;simp only [Lex.gvE]
  by_cases g:op=1
  ·rw [Th g] at ht |-;exact h.set (ht _ sM)
  rw [Tf g] at ht |-;exact Qv.gvEs h ht
def Qv.gvEs {P:Bs->Prop} {p:Pr}:∀{l:List Ex} {ns:List Int} {s:VS},Qv P s.1->(∀t∈Zrp l,P t)->Qv P (gvEs p l ns s).1
 | [],_,_,h,_=>h
 | e::l,[],_,h,_=>h
 | e::l,n::ns,s,h,ht=>by
  simp only [Zrp,TJ] at ht;simp only [Lex.gvEs];exact Qv.gvEs (Qv.gvE h fun t g=>ht t (.inl g)) fun t g=>ht t (.inr g)
end
mutual
def Qv.gvL {P:Bs->Prop} {p:Pr}:∀{x:Li} {s:VS},Qv P s.1->(∀t∈nvL x,P t)->Qv P (gvL p x s).1
 | .mk op rel args body a,s,h,ht=>by
  simp only [nvL,TJ] at ht;simp only [Lex.gvL];have h1:∀ns,Qv P (Lex.gvEs p args ns s).1:=fun ns=>Qv.gvEs h fun t g=>ht t (.inl g)
  split
  ·exact h1 _
  split
  ·exact h1 _
  exact Qv.gvLs (h1 _) fun t g=>ht t (.inr g)
def Qv.gvLs {P:Bs->Prop} {p:Pr}:∀{l:List Li} {s:VS},Qv P s.1->(∀t∈ZtN l,P t)->Qv P (gvLs p l s).1
 | [],_,h,_=>h
 | x::l,s,h,ht=>by
  simp only [ZtN,TJ] at ht;simp only [Lex.gvLs];exact Qv.gvLs (Qv.gvL h fun t g=>ht t (.inl g)) fun t g=>ht t (.inr g)
end
def ZEL {P:Bs->Prop} {p:Pr} {r:Ru} (ht:∀t∈nvR r,P t):∀{n:Nat} {v w:Vs},Qv P v->Vb p r n v=some w->Qv P w
 | 0,_,_,_,h=>by cases h
 | n+1,v,w,hv,h=>by
  simp only [nvR,TJ] at ht;have h1:Qv P (UF p r v).1:=Qv.gvLs (Qv.gvEs hv fun t g=>ht t (.inl g)) fun t g=>ht t (.inr g)
  simp only [Vb] at h;split at h
  ·exact ZEL (by simpa only [nvR,TJ] using ht) h1 h
  cases h;exact h1
def Qv.vars {P:Bs->Prop} {p:Pr} {r:Ru} (ht:∀t∈nvR r,P t):Qv P (Vy p r):=by
 have h0:Qv P []:=⟨.nil,fun _ h=>nomatch h⟩
 unfold Vy
 cases h:Vb p r ((nvR r).length+1) [] with
 | none=>exact h0
 | some w=>exact ZEL ht h0 h
mutual
def nvE_w:∀(e:Ex) (t:Bs),t∈nvE e->t.length<=wE e
 | .mk op text n args a,t,h=>by
  simp only [nvE] at h;simp only [wE];split at h
  ·simp at h;subst h;omega
  have:=nvEs_w args t h;omega
def nvEs_w:∀(l:List Ex) (t:Bs),t∈Zrp l->t.length<=wEs l
 | e::l,t,h=>by
  simp only [Zrp,TJ] at h;simp only [wEs];rcases h with h | h
  ·have:=nvE_w e t h;omega
  have:=nvEs_w l t h;omega
end
mutual
def nvL_w:∀(x:Li) (t:Bs),t∈nvL x->t.length<=wL x
 | .mk op rel args body a,t,h=>by
  simp only [nvL,TJ] at h;simp only [wL,<- Zir];rcases h with h | h
  ·have:=nvEs_w args t h;omega
  have:=nvLs_w body t h;omega
def nvLs_w:∀(l:List Li) (t:Bs),t∈ZtN l->t.length<=wLs l
 | x::l,t,h=>by
  simp only [ZtN,TJ] at h;simp only [wLs];rcases h with h | h
  ·have:=nvL_w x t h;omega
  have:=nvLs_w l t h;omega
end
def nvR_w {r:Ru} {t:Bs} (h:t∈nvR r):t.length<=wRu r:=by
 simp only [nvR,TJ] at h;simp only [wRu,<- Zir,<- Zis];rcases h with h | h
 ·have:=nvEs_w _ t h;omega
 have:=nvLs_w _ t h;omega
def ZiP (p:Pr):∀l,NZ (Xu p l)
 | []=>.none
 | r::l=>by
  simp only [Xu];have h:=Zel p r (Vy p r);split
  ·exact mq139
  exact ZiP p l
def ZiQ {pl:Pl} {p:Pr} (h:(Zrq pl p).2=0):(UC (prU p)).2=0/\orF (Zcj p) (Xu p p.rules)=none:=by
 rw [ZbJ] at h;split at h
 ·rename_i g;simp only at h;omega
 rename_i g
 cases hd:Zcj p with
 | some ae =>
  obtain ⟨a,e⟩:=ae;rw [hd] at h;have:=Zeb hd;simp only [orF] at h;omega
 | none =>
 cases hr:Xu p p.rules with
 | none=>exact ⟨oM,rfl⟩
 | some ae =>
 obtain ⟨a,e⟩:=ae;rw [hd,hr] at h;have:=ZiP p p.rules a e hr;simp only [orF] at h;omega
def Zq5 {x y:Flt} (h:orF x y=none):x=none/\y=none:=by
 cases x with
 | none=>exact ⟨rfl,h⟩
 | some a=>cases h
def ZyO {n:Nat} {p:Pr} (hw:wUn (prU p)<=n) (h:Xu p p.rules=none) {r:Ru} (hr:r∈p.rules):Qv (fun t=>t.length<=n) (Vy p r)/\(Vy p r).length<=64:=by
 have hm:=ZbD (f:=wRu) hr;simp only [prU,wUn,Zuz,szS] at hw;refine ⟨.vars fun t ht=>by have:=nvR_w ht;show t.length<=n;omega,?_⟩;have h1:=rules_none.1 h r hr;unfold Zb9 at h1
 split at h1
 ·cases h1
 omega
def VA (pl:Pl) (p:Pr) (i:Int):Vs:=if (Zrq pl p).2=0/\0<=i then (match p.rules[i.toNat]? with | some r=>Vy p r | none=>[]) else []
def Zq6 {n:Nat} {pl:Pl} {p:Pr} {i:Int} (hw:wUn (prU p)<=n):Qv (fun t=>t.length<=n) (VA pl p i)/\(VA pl p i).length<=64:=by
 have h0:Qv (fun t=>t.length<=n) []:=⟨.nil,fun _ h=>nomatch h⟩
 unfold VA
 split
 ·rename_i h
  split
  ·rename_i r hr
   exact ZyO hw (Zq5 (ZiQ h.1).2).2 (T1 hr)
  exact ⟨h0,Se _⟩
 exact ⟨h0,Se _⟩
def ZBr {v:Vs} {s:Bs}:s∈v.map (·.1)->∃n,lkM s v=some n:=by
 induction v with
 | nil=>intro h;cases h
 | cons x v ih =>
 intro h
 obtain ⟨y,n⟩:=x;simp only [lkM]
 by_cases g:s=y
 ·rw [TL g];exact ⟨_,rfl⟩
 rw [decide_eq_false g];refine ih ?_;rcases Tv.1 h with h | h
 ·exact absurd h g
 exact h
end Go.PM.Lex
end

section
namespace Go.PM
def Znx {G:GE} {g:FuncId} {sp:Zm} (jo:Wr G.P g)
  (h:∀args σ K,sp args σ K->∀(e:Env) (w:World) (vs:Array Value),SRel G e σ w->ArgsRel G e σ w args vs->Calls G.P g vs w fun en w'=>∃pv v,en=.returned v/\K (.ret pv) σ/\Grows w w'/\VRel G e σ w' pv v):PCalls G g sp where
 enters:=jo
 calls:=fun args σ K hs n e w vs hS ha=>by
  refine CallsIn.mono (callsIn_wide.2 (h args σ K hs e w vs hS ha)) fun en w' ⟨pv,v,he,hK,hg,hv⟩=>?_
  subst he;exact ⟨.ret pv,σ,e,hK,⟨v,rfl,hv⟩,hS.grow hg,(hg.stepped e σ).toLater⟩
def ZyP {G:GE} {e:Env} {bx:List Box} {w:World} {k b off:Nat} (hS:SRel G e ⟨bx,[],k⟩ w) (hb:w.heap.size<=b):okc e ⟨bx,[],k⟩ b off:=by
 refine ⟨fun h=>?_,fun i hi h=>?_,fun t ht=>(by cases ht),fun q hq=>?_⟩
 ·have:=hS.xlt _ _ h;omega
 ·have:=hS.lt hi;omega
 have:=(hS.hid _ _ hq).2.1;omega
end Go.PM
namespace Go.PM.Lex
open Go.Proofs Go.RowKit Go.Maps Go.Sort
variable {w0:World} {nG:Nat}
def Zq7:Zm:=fun args σ K=>match args,σ with
 | [.mp 0],⟨[.dmap m],[],0⟩=>K (.ret (.func 39 [] [.ptr 1 0])) ⟨[.dmap m,.cells 79 [.mp 0]],[],0⟩
 | _,_=>False
def ZyQ:PC w0 nG 23 Zq7:=by
 refine pwe Tryz.func23 fun args σ K h=>?_
 unfold Zq7 at h
 split at h
 ·refine pwv [] 2 false ?_;exact h
 exact h.elim
abbrev WS (l:List Bs):List (List D):=l.map fun s=>[.str s]
def ZCU (l:List Bs):Prop:=∃ss:List Bs,l=ss.mergeSort fun x y=>decide (x<=y)
def Zg9:Zm:=fun args σ K=>match args,σ with
 | [.func f [] [.ptr 0 0]],⟨[.cells t [.mp 1],.dmap m],[],0⟩=>(f=39/\(m.map (·.1)).Nodup/\m.length<=1073741824/\∀x∈m.map (·.1),x.length<=1073741824) /\
   ∀l:List Bs,l.Perm (m.map (·.1))->ZCU l->K (.ret (.d (.sl (WS l)))) ⟨[.cells t [.mp 1],.dmap m],[],0⟩
 | _,_=>False
def Zl1:∀{m:List (Bs×MV)} {i:Nat} {k:Bs},(ZaW m)[2 * i]?=some (.d (.str k))->(m.map (·.1))[i]?=some k
 | [],i,k,h=>by simp [ZaW] at h
 | (x,v)::m,0,k,h=>by simp [ZaW] at h;simp [h]
 | (x,v)::m,i+1,k,h=>by
  rw [show 2 * (i+1)=2 * i+2 by omega] at h;have:=Zl1 (m:=m) (i:=i) (k:=k) (by simpa [ZaW] using h);simpa using this
def Zq8 {G:GE} {e:Env} {σ:St} {w:World} {m:List (Bs×MV)} {b:Nat} {P:Program} {k:TypeId} (hk:P.underlying k=some .string) (hB:BRel G e σ w (.dmap m) b) (hn:(m.map (·.1)).Nodup) (hl:m.length<=1073741824) (hx:∀x∈m.map (·.1),x.length<=1073741824) :
  ∃D0:DataW Unit,w.ownsMap P k (fun _=>some (.nil,[])) b m.length D0/\(strKeys D0).Perm (m.map (·.1))/\Maps.size D0=m.length:=by
 obtain ⟨bn,ck,⟨ni,gd⟩,es,h1,h2,h3,h4⟩:=hB;rw [Zf2] at h3;have aa:es.toList.length=m.length:=sO;have qr:es.size<=1073741824:=oM;have hb:es.toList.map (·.born)=bn:=List.ext_getElem? fun i=>by
  rw [Tj,Tx]
  cases hu:es[i]? with
  | none=>exact (T7 (by have:=Array.getElem?_eq_none_iff.1 hu;omega)).symm
  | some u=>exact (h4 i u hu).1.symm
 have wi:es.toList.map (·.key)=(m.map (·.1)).map fun s=>Value.string ⟨s.toArray⟩:=List.ext_getElem? fun i=>by
  rw [Tj,Tx]
  cases hu:es[i]? with
  | none=>exact (T7 (by have:=Array.getElem?_eq_none_iff.1 hu;simp;omega)).symm
  | some u =>
  obtain ⟨_,kk,x,g1,_,g3,_⟩:=h4 i u hu;rw [Tj,Zl1 g1];simp [g3]
 have aeb:∀s:Bs,s∈m.map (·.1)->Go.keyOf P k (.string ⟨s.toArray⟩)=some (.string s):=fun s hs=>by
  have:=hx s hs;have hm:s.length<=maxLen:=Sa this dM;simp [Go.keyOf,hk,mapKey,ByteArray.size,hm]
 have cy:∀u∈es.toList,∃s,s∈m.map (·.1)/\u.key=.string ⟨s.toArray⟩:=fun u hu=>by
  have:u.key∈es.toList.map (·.key):=List.mem_map_of_mem hu
  rw [wi] at this;obtain ⟨s,h,g⟩:=Ss.1 this;exact ⟨s,h,g.symm⟩
 have zp:∀u∈es.toList,∀s,s∈m.map (·.1)->u.key=.string ⟨s.toArray⟩->WideElems.rd (H:=Unit) P k (fun _=>some (.nil,[])) u=some (.string s,.nil):=fun u hu s hs g=>by
  unfold WideElems.rd
  rw [g,aeb s hs];rfl
 have aao:(es.toList.map (WideElems.rg (H:=Unit) P k fun _=>some (.nil,[]))).map (fun p=>strOf p.1)=m.map (·.1):=by
  have q:(es.toList.map (WideElems.rg (H:=Unit) P k fun _=>some (.nil,[]))).map (fun p=>(Value.string ⟨(strOf p.1).toArray⟩))=es.toList.map (·.key):=by
   rw [SH];refine Sx fun u hu=>?_
   obtain ⟨s,hs,g⟩:=cy u hu;simp only [Function.comp,WideElems.rg,zp u hu s hs g,Sw,strOf,g]
  rw [wi] at q;have q2:=congrArg (List.map fun v:Value=>match v with | .string s=>s.data.toList | _=>[]) q;simpa [SH,Function.comp_def] using q2
 refine ⟨_,⟨es,ck,h1,⟨Sa qr dM,⟨fun x hx=>?_,?_,?_⟩,fun x hx=>?_⟩,oM,rfl⟩,?_,?_⟩
 ·exact gd _ (hb ▸ List.mem_map_of_mem hx)
 ·rw [hb];exact ni
 ·rw [wi];exact List.Pairwise.map _ (fun a b g e=>g (by simpa using e)) hn
 ·obtain ⟨s,hs,g⟩:=cy x hx;exact ⟨_,zp x hx s hs g⟩
 ·have:=(WideShapes.sorted_perm (es.toList.map (WideElems.rg (H:=Unit) P k fun _=>some (.nil,[])))).map fun p=>strOf p.1
  rw [aao] at this;exact this
 show (List.foldr DataW.insert [] _).length=_;rw [(WideShapes.sorted_perm _).length_eq,Te,aa]
def Zq9 {G:GE} {e:Env} {bx:List Box} {w w':World} {k base el:Nat} {v:Value} {l:List Bs} (hS:SRel G e ⟨bx,[],k⟩ w) (hb:w.heap.size<=base) (h:w'.ownsRow base el 1 v l.length (l.map encStr)):DRel (okc e ⟨bx,[],k⟩) w' (.sl (WS l)) v:=by
 obtain ⟨_,⟨rfl,h0⟩ | ⟨g,cap,cur,rfl,h1,h2,h3,_,h5,h6⟩⟩:=h
 ·rw [Sr.1 h0];exact .slnil
 have hl:(WS l).length=l.length:=Te ..;rw [<- hl];refine .sl (WS l) g 0 cap 1 (fun i _=>encStr (l.getD i [])) (by rw [hl];exact h3) (fun r hr=>?_) (fun i j hi hj=>?_) (fun i j _ _=>ZyP hS oM) fun i j x hx=>?_
 ·obtain ⟨s,_,rfl⟩:=Ss.1 hr;rfl
 ·obtain rfl:j=0:=by omega
  rw [hl] at hi;have q:=congrArg (fun t=>t[i]?) h6;simp only [Nat.mul_one,SN,Th hi,Tx,Tj,Tb hi,Sc] at q;simp [World.cell?,h2,q,TS,Tb hi]
 rw [Tj] at hx
 cases hi:l[i]? with
 | none=>rw [hi] at hx;cases hx
 | some s =>
 rw [hi] at hx
 match j,hx with
 | 0,hx =>
  simp at hx;subst hx;show DRel _ _ _ (encStr (l.getD i []));rw [TS,hi];exact .str s
 | j+1,hx=>simp at hx
def Zra:PC w0 nG 22 Zg9:=Znx (Zl Tryz.func22 kR rfl) fun args σ K h e w vs hS ha=>by
 unfold Zg9 at h
 split at h
 ·rename_i f t m
  obtain ⟨⟨rfl,hn,hl,hx⟩,h⟩:=h;obtain ⟨u,rfl,hu⟩:=Zgy ha
  cases hu with
  | func _ _ _ va vc hva hvc _ h2 =>
  obtain ⟨va⟩:=va;obtain rfl:va=[]:=Sr.1 hva;obtain ⟨vc⟩:=vc
  match vc,hvc with
  | [pv],_ =>
  have hp:=h2 0 _ pv rfl rfl
  cases hp with
  | ptr _ _ d0 =>
  obtain ⟨cs,g1,g2,g3⟩:=hS.box 0 _ rfl;obtain ⟨cs⟩:=cs
  match cs,g2 with
  | [mv],_ =>
  have hm:=(g3 0 _ mv rfl rfl).1
  cases hm with
  | mp _ bu =>
  have ay:w.cell? ⟨e.β 0,0,none⟩=some (.map (some (e.β 1))):=by simp [World.cell?,g1]
  obtain ⟨D0,ho,aap,hsz⟩:=Zq8 (P:=Tryz.prog) (k:=9) Tryz.underlying9 (hS.box 1 _ rfl) hn hl hx;have aec:=AnyZ.keys_gives (ρ:=Tryz.iter39_ren) Tryz.iter39 Fence.wide 2 trivial rfl oM (e.β 0) (e.β 1) m.length D0 w (hS.lt d0) ay ho;have hc:=AnyZ.sorted_in Tryz.sorted22 Fence.wide 5 trivial trivial trivial trivial rfl oM ⟨fun blk off cap ss W hH f7 hsz=>callsIn_wide.2 (AnyM.slices_Sort_string Tryz.sort38 blk off cap ss W hH f7 hsz),fun p cap W=>callsIn_wide.2 (AnyM.slices_Sort_string_none Tryz.sort38 p cap W)⟩ (Zl Tryz.func38 kR rfl) 39 _ trivial (Zl Tryz.func39 kR rfl) _ _ (by rw [hsz];exact Sa hl dM) (by rw [hsz];omega) w aec;refine (callsIn_wide.1 hc).mono ?_
  rintro en w' ⟨v,ss,rfl,yc,cj,_,cp⟩
  have hp:(ss.mergeSort fun x y=>decide (x<=y)).Perm (m.map (·.1)):=(List.mergeSort_perm ss _).trans (yc.trans aap)
  rw [<- (List.mergeSort_perm ss fun x y=>decide (x<=y)).length_eq] at cj;exact ⟨_,v,rfl,h _ hp ⟨ss,rfl⟩,ZEC cp,.d _ _ (Zq9 hS (Tz _) cj)⟩
 exact h.elim
end Go.PM.Lex
end

section
namespace Go.PM.Lex
open Go.Proofs
variable {w0:World} {nG:Nat}
abbrev Zrr (v:Vs) (l:List Bs):List (List D):=Yh (l.map fun s=>(lkM s v).getD 0)
def Zrb {l k:List Bs} (h:WS l=WS k):l=k:=by
 have e:=congrArg (List.map fun r:List D=>match r with | [.str s]=>s | _=>[]) h;simpa [SH,Function.comp_def] using e
def Zkt (v:Vs):(mvM mvI v).map (·.1)=v.map (·.1):=by
 unfold mvM;simp [Function.comp_def]
def Zha (pl:Pl) (p:Pr) (i:Int):Int:=if (Zrq pl p).2≠0 then (Zrq pl p).2 else if 0<=i/\i<p.rules.length then 0 else 2
def Zl2 (n:Nat):Zm:=fun args σ K=>match args,σ with
 | [.agg c,.d (.int .i64 i)],⟨[],[],0⟩=>∃pl p,c=(ZeD pl p).map .d/\(Zd6 n (prU p)/\n<=16777216/\Znk p<=2097152)/\∀v,VA pl p i=v->∀(l:List Bs) (e:Int),l.Perm (v.map (·.1))->ZCU l->e=Zha pl p i->K (.ret (.tuple [.d (.sl (WS l)),.d (.sl (Zrr v l)),.d (.int .i64 e)])) ⟨[],[],0⟩
 | _,_=>False
abbrev vBx (pl:Pl) (p:Pr) (r:Ru) (v:Vs):List Box:=.cells 31 (ZgZ pl p)::.cells 31 (ZgZ pl p)::.cells 50 [.d (.int .i64 0),.d (.int .i64 0)]::(Zqv pl p 3++[.cells 50 [.d (.int .i64 0),.d (.int .i64 0)],.cells 74 ((ZS pl r).map .d),.dmap (mvM mvI v),
 .cells 81 [.ptr 6 0,.d (.str r.head),.d (.sl (Zp pl r.args)),.d (.sl (Y6 pl r.body)),.d (.int .i64 (pl r.at')),.mp 11,.d (.bool false)],.cells 79 [.mp 11]])
def Zrc (n:Nat):Tbl:=[(16,ZaP n),(21,ZaM 2097152),(23,Zq7),(22,Zg9)]
def Zrd {n:Nat} (ht:TO w0 nG (Zrc n)):PC w0 nG 10 (Zl2 n):=by
 refine YF ZC mixed (tbl:=Zrc n) ht Tryz.func10 rfl kR kR ?_;intro args σ K h
 unfold Zl2 at h
 split at h
 ·rename_i i
  obtain ⟨pl,⟨p1,p2,p3⟩,rfl,⟨hc,hn,hz⟩,h⟩:=h;have h:=h _ rfl;have hp:BP ⟨p1,p2,p3⟩:=by unfold BP;omega
  have dx:(p3.map (ZS pl)).length=p3.length:=Te ..;have bad:VA pl ⟨p1,p2,p3⟩ i=[]->∀e:Int,e=Zha pl ⟨p1,p2,p3⟩ i->K (.ret (.tuple [.d (.sl []),.d (.sl []),.d (.int .i64 e)])) ⟨[],[],0⟩:=fun g e he=>h [] e (by rw [g];exact .nil) ⟨[],sM⟩ he
  by_cases hk:(Zrq pl ⟨p1,p2,p3⟩).2=0
  ·obtain ⟨ho,ic⟩:=ZiQ hk;obtain ⟨hd,hru⟩:=Zq5 ic
   by_cases hi:0<=i/\i<p3.length
   ·have ao:OKP ⟨p1,p2,p3⟩:=⟨hp,ZfV _ hd⟩
    have ab:i.toNat<p3.length:=oM;have cy:=TE ab;have bw:p3[i.toNat]?=some p3[i.toNat]:=Tb ab;have hv:VA pl ⟨p1,p2,p3⟩ i=Vy ⟨p1,p2,p3⟩ p3[i.toNat]:=by
     unfold VA
     rw [Th ⟨hk,hi.1⟩];show (match p3[i.toNat]? with | some r=>_ | none=>_)=_;rw [bw]
    have hvk:=Zq6 (pl:=pl) (i:=i) hc.2.1;rw [hv] at h hvk;have hr:(p3.map (ZS pl))[i.toNat]?=some (ZS pl p3[i.toNat]):=by rw [Tj,bw];rfl
    have js:ZlE p3[i.toNat]<=2097152:=by have:=ZbD (f:=ZlE) cy;simp only [Znk] at hz;omega
    have qg:=ZiO ho cy;generalize p3[i.toNat]=r at h hvk hr js qg;obtain ⟨r1,r2,r3,r4⟩:=r;obtain ⟨⟨im,qb⟩,hvl⟩:=hvk;generalize hV:Vy ⟨p1,p2,p3⟩ ⟨r1,r2,r3,r4⟩=v at h im qb hvl;refine ⟨Zk [(10,⟨[11,50],[9,10,48,49],fun w σ=>∃(l:List Bs) (j:Nat),w=[.ptr 12 0,.d (.sl (WS l)),.d (.sl (WS l)),.d (.int .i64 (WS l).length),.sl 0 3 (Zrr v (l.take j)),.d (.int .i64 j)]/\σ=⟨vBx pl ⟨p1,p2,p3⟩ ⟨r1,r2,r3,r4⟩ v,[0],1⟩/\j<=l.length/\l.Perm (v.map (·.1)),
     fun w _=>match w with | [_,_,_,.d (.int _ n),_,.d (.int _ j)]=>(n - j).toNat | _=>0⟩)],Ye [],ZB [10],0,false,sM,Tc rfl,?_⟩
    conv=>whnf
    refine ⟨pl,⟨p1,p2,p3⟩,rfl,⟨hc,hn,hz⟩,fun g=>absurd ho g,fun _ a e g2=>(by rw [ic] at g2;cases g2),fun _ _=>wN ?_⟩
    (repeat (refine ZEw (fun g=>absurd hi (by first | (have g:i<0:=g;omega) | (have g:((p3.map (ZS pl)).length:Int)<=i:=g;omega))) (fun _=>?_);conv=>whnf))
    refine ⟨_,hi.1,hr,wN ?_⟩;refine ⟨pl,⟨p1,p2,p3⟩,⟨r1,r2,r3,r4⟩,rfl,rfl,ao,⟨js,dM⟩,qg,?_⟩;rw [hV];(conv=>whnf);refine ⟨⟨rfl,by rw [Zkt];exact im,by unfold mvM;rw [Te];omega,fun x hx=>by rw [Zkt] at hx;have:=qb x hx;omega⟩,fun l hl hs=>wN ?_⟩;rw [Zkt] at hl;have mr:l.length<=64:=by rw [hl.length_eq,Te];exact hvl
    refine ⟨⟨l,0,rfl,rfl,oM,hl⟩,?_⟩
    rintro w σ1 ⟨l',j,hw,rfl,hj,hl'⟩
    obtain rfl:l=l':=Zrb (by
     have e:=congrArg (fun t:List PV=>t[1]?) hw;have e:=Option.some.inj e
     injection e with e
     injection e)
    have hw:w=[.sl 0 3 (Zrr v (l.take j)),.d (.int .i64 j)]:=congrArg (List.drop 4) hw;subst hw;(conv=>whnf);refine ZEw (fun hq=>?_) (fun hq=>?_);rotate_left
    ·have hq:¬(j:Int)<((WS l).length:Nat):=hq;have qe:(WS l).length=l.length:=Te ..;(conv=>whnf);rw [List.take_of_length_le oM];exact h l 0 hl hs (by rw [Zha,Tf (by rw [hk];simp),Th hi])
    have qe:(WS l).length=l.length:=Te ..;have ab:j<l.length:=by have hq:(j:Int)<((WS l).length:Nat):=hq;omega
    obtain ⟨m,hm⟩:=ZBr (hl.mem_iff.1 (TE ab));have hr:(WS l)[(j:Int).toNat]?=some [.str l[j]]:=by rw [Ti,Tj,Tb ab];rfl
    have ht:Zrr v (l.take (j+1))=Zrr v (l.take j)++[[.int .i64 m]]:=by
     simp only [Zrr,Yh];rw [List.take_add_one,Tb ab];simp only [TP,Option.toList_some,TD,TM,hm,Sw]
    have hlr:(Zrr v (l.take j)).length=j:=by simp [Zrr,Yh];omega
    generalize l[j]=s at hm hr;(conv=>whnf);refine ⟨_,oM,hr,wN ?_⟩;refine optK.yes (a:=.one (.int .i64 m)) (by rw [ZQ,hm];rfl) (wN ?_);refine ⟨fun r hr=>by simp at hr;subst hr;rfl,?_,?_,?_⟩
    ·show ((Zrr v (l.take j)).length+1) * 8<=2 ^ 47;omega
    ·show (Zrr v (l.take j)).length+1<=2 ^ 47;omega
    conv=>whnf
    refine Zj ?_;refine ⟨⟨l,j+1,by rw [ht];rfl,rfl,oM,hl⟩,?_⟩;show (((WS l).length:Int) - ((j:Int)+1)).toNat<(((WS l).length:Int) - (j:Int)).toNat;omega
   have hv:VA pl ⟨p1,p2,p3⟩ i=[]:=by
    unfold VA
    split
    ·rename_i g
     rw [T7 (by show p3.length<=_;omega)]
    rfl
   have bad:=bad hv;have hve:(2:Int)=Zha pl ⟨p1,p2,p3⟩ i:=by rw [Zha,Tf (by rw [hk];simp),Tf hi]
   refine ⟨Zk [],Ye [],ZB [],0,false,sM,Tc rfl,wN ?_⟩;refine ⟨pl,⟨p1,p2,p3⟩,rfl,⟨hc,hn,hz⟩,fun g=>absurd ho g,fun _ a e g2=>(by rw [ic] at g2;cases g2),fun _ _=>wN ?_⟩;refine ZEw (fun g=>wN ?_) (fun g=>wN ?_)
   ·exact bad _ hve
   have jn:((p3.map (ZS pl)).length:Int)<=i:=by have g:¬i<0:=g;omega
   (repeat (first | (refine ZEw (fun q=>absurd q g) (fun _=>?_);conv=>whnf) | (refine ZEw (fun _=>?_) (fun q=>absurd jn q);conv=>whnf)))
   exact bad _ hve
  have hv:VA pl ⟨p1,p2,p3⟩ i=[]:=by
   unfold VA
   rw [Tf (fun g=>hk g.1)]
  have bad:=bad hv;refine ⟨Zk [],Ye [],ZB [],0,false,sM,Tc rfl,wN ?_⟩;refine ⟨pl,⟨p1,p2,p3⟩,rfl,⟨hc,hn,hz⟩,fun g=>wN ?_,fun g a e g2=>wN ?_,fun g g2=>absurd (by rw [ZbJ,Tf (fun q=>q g),g2]) hk⟩
  ·refine ZEy (fun _=>wN ?_) (fun g3=>absurd (by have g3:((UC (prU ⟨p1,p2,p3⟩)).2:Int)=0:=g3;omega) g)
   (repeat (refine ⟨rfl,?_⟩;conv=>whnf))
   exact bad _ (by rw [Zha,Th hk,ZbJ,Th g])
  have he:e≠0:=by
   intro q
   subst q;exact hk (by rw [ZbJ,Tf (fun q=>q g),g2];rfl)
  refine ZEy (fun _=>wN ?_) (fun g3=>absurd (by have g3:(e:Int)=0:=g3;omega) he)
  (repeat (refine ⟨rfl,?_⟩;conv=>whnf))
  exact bad _ (by rw [Zha,Th hk,ZbJ,Tf (fun q=>q g),g2])
 exact h.elim
def ZCV {n:Nat} (hp:PC w0 nG 26 (Zni XY Zd6 UC n)):PC w0 nG 10 (Zl2 n):=Zrd ⟨Zq0 ⟨hp,Zem,ZBP,Zks _,Zq3 _,trivial⟩,Zks _,ZyQ,Zra,trivial⟩
def prK (u:U3):Pr:=⟨u.tys,u.rels,u.rules⟩
def ZuU (p:Pr):Bool:=ZuC (prU p) && (decide (wUn (prU p)<=100000) && (decide ((unT (prU p)).length<1073741824) && decide (Znk p<=2097152)))
def UG {p:Pr} (h:ZuU p=true):Zd6 100000 (prU p)/\Znk p<=2097152:=by
 simp only [ZuU,Tm,TQ] at h;exact ⟨⟨h.1,h.2.1,h.2.2.1,rfl,rfl,rfl⟩,h.2.2.2⟩
def ZfW (s:Bs) (a e:Int):Bool:=match ZdO s with
 | some (pl,u)=>ZuU (prK u) && decide (Zrq pl (prK u)=(a,e))
 | none=>false
def Zhb {s:Bs} {a e:Int} (h:ZfW s a e=true):∃pl u,ZdO s=some (pl,u)/\(Zd6 100000 (prU (prK u))/\Znk (prK u)<=2097152)/\Zrq pl (prK u)=(a,e):=by
 unfold ZfW at h
 split at h
 ·rename_i pl u hr
  simp only [Tm,TQ] at h;exact ⟨pl,u,hr,UG h.1,h.2⟩
 cases h
def Zt4:Bs:=[116,121,112,101,32,78,32,60,58,32,110,117,109,98,101,114,32,116,121,112,101,32,82,32,61,32,91,97,58,32,78,44,32,98,58,32,82,93,32,116,121,112,101,32,84,32,61,32,76,32,123,118,58,32,110,117,109,98,101,114,125,32,124,32,77,32,123,108,58,32,84,44,32,114,58,32,84,125,32,100,101,99,108,32,112,40,120,58,32,78,41,32,100,101,99,108,32,113,40,120,58,32,110,117,109,98,101,114,41,32,100,101,99,108,32,116,40,120,58,32,84,41,32,100,101,99,108,32,114,40,120,58,32,82,41,32,100,101,99,108,32,115,40,120,58,32,115,121,109,98,111,108,41,32]
def isK (s:Bs) (a e:Int):Bool:=ZfW (Zt4++s) (if e=0 then 0 else a+154) e
def ZiR:Nat->Bs
 | 0=>[]
 | i+1=>(if i=0 then ZiR i else ZiR i++[32,43,32])++([120]++[UInt8.ofNat (48+i / 10),UInt8.ofNat (48+i % 10)])
def Zhc:∀i,(ZiR i).length<=6 * i
 | 0=>by simp [ZiR]
 | i+1=>by
  have:=Zhc i;rw [ZiR];split <;> simp only [Ta,Td,Tg] <;> omega
def ZyR (n:Nat):Bs:=([113,40]++ZiR n)++[41,46]
def Zhd:Zm:=fun args σ K=>match args,σ with
 | [.d (.str s)],⟨[],[],0⟩=>∃pl u,ZdO s=some (pl,u)/\K (.ret (.agg ((ZeD pl (prK u)).map .d))) ⟨[],[],0⟩
 | _,_=>False
def ZyS:Zm:=fun args σ K=>match args,σ with
 | [.d (.str s),.d (.int .i64 a),.d (.int .i64 e)],⟨[],[],0⟩=>(isK s a e=true/\(0<=a/\a<=100000)/\s.length<1000)/\K (.ret (.d (.bool true))) ⟨[],[],0⟩
 | _,_=>False
def Zku:Zm:=fun args σ K=>match args,σ with
 | [.d (.str s),.d (.int .i64 a),.d (.int .i64 e)],⟨[],[],0⟩=>ZfW s a e=true/\K (.ret (.d (.bool true))) ⟨[],[],0⟩
 | _,_=>False
def Zkv:Zm:=fun args σ K=>match args,σ with
 | [.d (.sl x),.d (.sl y)],⟨[],[],0⟩=>∃l:List Int,x=Yh l/\y=Yh l/\l.length<=1000/\K (.ret (.d (.bool true))) ⟨[],[],0⟩
 | _,_=>False
def Zkw:Zm:=fun args σ K=>match args,σ with
 | [.d (.sl x),.d (.sl y)],⟨[],[],0⟩=>∃l:List Bs,x=WS l/\y=WS l/\l.length<=1000/\K (.ret (.d (.bool true))) ⟨[],[],0⟩
 | _,_=>False
def Zt5:Tbl:=[(18,Zwf)]
def ZcI:PC w0 nG 7 Zhd:=by
 refine pwt (tbl:=Zt5) ⟨ZDG,trivial⟩ Tryz.func7 fun args σ K h=>?_
 unfold Zhd at h
 split at h
 ·obtain ⟨pl,u,hr,h⟩:=h;refine pwv [] 0 false ?_;refine ⟨pl,u,hr,wN ?_⟩;exact h
 exact h.elim
def Zre:Tbl:=[(7,Zhd),(15,Zg8 100000)]
def ZBs:OKw w0 nG Zre 4 ZyS:=by
 refine pwo Tryz.func4 fun args σ K h=>?_
 unfold ZyS at h
 split at h
 ·rename_i s a e
  obtain ⟨⟨hc,⟨ha,hb⟩,hs⟩,h⟩:=h;obtain ⟨pl,u,hr,hf,hk⟩:=Zhb hc;refine pwv [] 0 false ?_;refine ⟨(show 154+s.length<2 ^ 62 by omega),wN ?_⟩;refine ⟨pl,u,hr,wN ?_⟩;refine ⟨pl,prK u,rfl,⟨hf.1,dM,hf.2⟩,fun a2 e2 hx=>?_⟩;rw [hk] at hx
  by_cases he:e=0
  ·subst he;rw [Th rfl] at hx
   cases hx
   exact mq51
  rw [Tf he] at hx
  cases hx
  conv=>whnf
  refine ZEw (fun g=>absurd g he) (fun _=>wN ?_);refine Zj ?_;exact mq162
 exact h.elim
def Zt6:OKw w0 nG Zre 5 Zku:=by
 refine pwo Tryz.func5 fun args σ K h=>?_
 unfold Zku at h
 split at h
 ·rename_i s a e
  obtain ⟨hc,h⟩:=h;obtain ⟨pl,u,hr,hf,hk⟩:=Zhb hc;refine pwv [] 0 false ?_;refine ⟨pl,u,hr,wN ?_⟩;refine ⟨pl,prK u,rfl,⟨hf.1,dM,hf.2⟩,fun a2 e2 hx=>?_⟩;rw [hk] at hx
  cases hx
  conv=>whnf
  exact mq162
 exact h.elim
def Zkx:Zm:=fun args σ K=>match args,σ with
 | [.d (.int .i64 n)],⟨[],[],0⟩=>∃k:Nat,(n=k/\k<=90)/\K (.ret (.d (.str (ZyR k)))) ⟨[],[],0⟩
 | _,_=>False
def Zt7:PC w0 nG 13 Zkx:=by
 refine pwe Tryz.func13 fun args σ K h=>?_
 unfold Zkx at h
 split at h
 ·obtain ⟨k,⟨rfl,hk⟩,h⟩:=h;refine pwv [(3,⟨[3,4],[0],fun vs σ=>∃i:Nat,vs=[.d (.str (ZiR i)),.d (.int .i64 i)]/\σ=⟨[],[],0⟩/\i<=k,fun vs _=>match vs with | [_,.d (.int _ i)]=>((k:Int) - i).toNat | _=>0⟩)] 0 false ?_;refine ⟨⟨0,rfl,rfl,oM⟩,?_⟩
  rintro vs σ1 ⟨i,rfl,rfl,hi⟩
  conv=>whnf
  refine ZEw (fun hq=>wN ?_) (fun hq=>?_)
  ·have hq:i<k:=by have hq:(i:Int)<k:=hq;omega
   have e1:(48:Int)+(i:Int).tdiv 10=((UInt8.ofNat (48+i / 10)).toNat:Int):=by
    rw [Int.tdiv_eq_ediv_of_nonneg oM,UInt8.toNat_ofNat_of_lt' (by show 48+i / 10<256;omega)];omega
   have e2:(48:Int)+(i:Int).tmod 10=((UInt8.ofNat (48+i % 10)).toNat:Int):=by
    rw [Int.tmod_eq_emod_of_nonneg oM,UInt8.toNat_ofNat_of_lt' (by show 48+i % 10<256;omega)];omega
   have q1:(i:Int).tdiv 10=((i / 10:Nat):Int):=by rw [Int.tdiv_eq_ediv_of_nonneg oM];omega
   have q2:(i:Int).tmod 10=((i % 10:Nat):Int):=by rw [Int.tmod_eq_emod_of_nonneg oM];omega
   have hL:=Zhc i;have hd:ZiR (i+1)=(if i=0 then ZiR i else ZiR i++[32,43,32])++([120]++[UInt8.ofNat (48+i / 10),UInt8.ofNat (48+i % 10)]):=rfl;refine ZEw (fun h0=>?_) (fun h0=>?_)
   case' refine_1 =>
    rw [Tf (by have h0:(i:Int)>0:=h0;omega)] at hd;(conv=>whnf);refine ⟨(show (ZiR i).length+3<2 ^ 62 by omega),?_⟩
   case' refine_2=>rw [Th (by have h0:¬(i:Int)>0:=h0;omega)] at hd
   all_goals
    conv=>whnf
    refine ⟨(by first | (show (ZiR i++[32,43,32]).length+1<2 ^ 62;rw [Ta];simp only [Td,Tg];omega) | (show (ZiR i).length+1<2 ^ 62;omega)),?_⟩;(conv=>whnf);refine ⟨dM,wN ?_⟩;refine Or.inl ⟨InR.i64 (by rw [q1];omega) (by rw [q1];omega),wN ?_⟩;refine Or.inl ⟨InR.i64 (by rw [q1];omega) (by rw [q1];omega),wN ?_⟩;refine Or.inl ⟨InR.u8 (by rw [q1];omega) (by rw [q1];omega),wN ?_⟩;refine ⟨dM,wN ?_⟩;refine Or.inl ⟨InR.i64 (by rw [q2];omega) (by rw [q2];omega),wN ?_⟩;refine Or.inl ⟨InR.u8 (by rw [q2];omega) (by rw [q2];omega),wN ?_⟩;refine ⟨[UInt8.ofNat (48+i / 10),UInt8.ofNat (48+i % 10)],by rw [e1,e2];rfl,wN ?_⟩;refine ⟨(by first | (show ((ZiR i++[32,43,32])++[120]).length+2<2 ^ 62;simp only [Ta,Td,Tg];omega) | (show (ZiR i++[120]).length+2<2 ^ 62;simp only [Ta,Td,Tg];omega)),?_⟩;(conv=>whnf);refine Zj ?_;refine ⟨⟨i+1,by rw [hd];simp,rfl,oM⟩,?_⟩;show ((k:Int) - ((i:Int)+1)).toNat<((k:Int) - (i:Int)).toNat;omega
  obtain rfl:i=k:=by have hq:¬(i:Int)<k:=hq;omega
  have hL:=Zhc i;(conv=>whnf);refine ⟨(show 2+(ZiR i).length<2 ^ 62 by omega),wN ?_⟩;refine ⟨(show ([113,40]++ZiR i).length+2<2 ^ 62 by simp only [Ta,Td,Tg];omega),wN ?_⟩;exact h
 exact h.elim
def Zt8:PC w0 nG 8 Zkv:=by
 refine pwe Tryz.func8 fun args σ K h=>?_
 unfold Zkv at h
 split at h
 ·obtain ⟨l,rfl,rfl,hl,h⟩:=h;have aa:(Yh l).length=l.length:=Te ..;refine pwv [(4,⟨[5],[0,1],fun vs σ=>∃i:Nat,vs=[.d (.int .i64 i)]/\σ=⟨[],[],0⟩/\i<=l.length,mu1 l.length⟩)] 0 false ?_;refine ZEy (fun g=>absurd rfl g) (fun _=>wN ?_);refine ⟨⟨0,rfl,rfl,oM⟩,?_⟩
  rintro vs σ1 ⟨i,rfl,rfl,hi⟩
  conv=>whnf
  refine ZEw (fun hq=>?_) (fun hq=>wN ?_)
  ·have ab:i<l.length:=by have hq:(i:Int)<((Yh l).length:Nat):=hq;omega
   have hr:(Yh l)[(i:Int).toNat]?=some [.int .i64 l[i]]:=by rw [Ti];simp [Yh,ab]
   exact mq69
  exact h
 exact h.elim
def Zt9:PC w0 nG 11 Zkw:=by
 refine pwe Tryz.func11 fun args σ K h=>?_
 unfold Zkw at h
 split at h
 ·obtain ⟨l,rfl,rfl,hl,h⟩:=h;have aa:(WS l).length=l.length:=Te ..;refine pwv [(4,⟨[5],[0,1],fun vs σ=>∃i:Nat,vs=[.d (.int .i64 i)]/\σ=⟨[],[],0⟩/\i<=l.length,mu1 l.length⟩)] 0 false ?_;refine ZEy (fun g=>absurd rfl g) (fun _=>wN ?_);refine ⟨⟨0,rfl,rfl,oM⟩,?_⟩
  rintro vs σ1 ⟨i,rfl,rfl,hi⟩
  conv=>whnf
  refine ZEw (fun hq=>?_) (fun hq=>wN ?_)
  ·have ab:i<l.length:=by have hq:(i:Int)<((WS l).length:Nat):=hq;omega
   have hr:(WS l)[(i:Int).toNat]?=some [.str l[i]]:=by rw [Ti];simp [ab]
   exact mq69
  exact h
 exact h.elim
def tk0:isK [113,40,120,41,32,58,45,32,112,40,120,41,46] 0 0=true:=kR
def tk1:isK [112,40,120,41,32,58,45,32,113,40,120,41,46] 2 183=true:=kR
def tk2:isK [112,40,49,41,46] 0 0=true:=kR
def tk3:isK [112,40,49,32,43,32,49,41,46] 2 183=true:=kR
def tk4:isK [112,40,120,41,32,58,45,32,113,40,120,41,44,32,112,40,120,41,46] 0 0=true:=kR
def tk5:isK [116,40,36,77,40,36,76,40,120,41,44,32,121,41,41,32,58,45,32,113,40,120,41,44,32,116,40,121,41,46] 0 0=true:=kR
def tk6:isK [116,40,36,76,41,46] 2 182=true:=kR
def tk7:isK [116,40,36,75,41,46] 2 184=true:=kR
def tk8:isK [114,40,91,120,44,32,110,105,108,93,41,32,58,45,32,112,40,120,41,46] 0 0=true:=kR
def tk9:isK [114,40,91,120,44,32,110,105,108,93,41,32,58,45,32,113,40,120,41,46] 3 183=true:=kR
def ZDR:isK [114,40,91,49,93,41,46] 2 182=true:=kR
def ZDS:isK [113,40,120,41,32,58,45,32,115,40,120,41,46] 10 183=true:=kR
def ZDT:isK [113,40,120,41,32,58,45,32,115,40,121,41,44,32,120,32,61,32,115,116,114,108,101,110,40,121,41,46] 0 0=true:=kR
def ZDU:isK [113,40,120,41,32,58,45,32,120,32,61,32,121,46] 0 0=true:=kR
def ZDV:isK [113,40,49,41,32,58,45,32,91,49,93,32,61,32,91,49,93,46] 8 183=true:=kR
def ZDW:isK [113,40,49,41,32,58,45,32,120,32,61,32,121,46] 8 183=true:=kR
def ZDX:isK [113,40,120,41,32,58,45,32,116,40,120,41,44,32,113,40,121,41,44,32,120,32,60,32,121,46] 10 183=true:=kR
def ZDY:isK [113,40,121,41,32,58,45,32,116,40,120,41,44,32,116,40,122,41,44,32,113,40,121,41,44,32,120,32,60,32,122,46] 26 183=true:=kR
def ZDZ:isK [117,40,49,41,46] 0 181=true:=kR
def ZD0:isK [112,40,49,44,32,50,41,46] 0 182=true:=kR
def ZD1:isK [113,40,49,41,32,58,45,32,117,40,49,41,46] 8 181=true:=kR
def ZD2:isK [113,40,49,41,32,58,45,32,33,112,40,49,44,32,50,41,46] 8 182=true:=kR
def ZD3:isK [113,40,110,41,32,58,45,32,110,32,61,32,99,111,117,110,116,32,58,32,123,32,115,40,120,41,32,125,46] 0 0=true:=kR
def ZD4:isK [115,40,110,41,32,58,45,32,110,32,61,32,99,111,117,110,116,32,58,32,123,32,115,40,120,41,32,125,46] 8 183=true:=kR
def ZD5:isK [112,40,110,41,32,58,45,32,110,32,61,32,115,117,109,32,120,32,58,32,123,32,113,40,120,41,32,125,46] 2 183=true:=kR
def ZD6:isK [113,40,110,41,32,58,45,32,110,32,61,32,109,97,120,32,120,32,58,32,123,32,115,40,120,41,32,125,46] 24 183=true:=kR
def ZD7:isK [113,40,120,41,32,58,45,32,114,40,91,120,44,32,121,93,41,44,32,114,40,121,41,44,32,121,32,33,61,32,110,105,108,46] 0 0=true:=kR
def ZD8:isK [113,40,120,41,32,58,45,32,91,120,44,32,95,93,32,61,32,121,44,32,114,40,121,41,46] 0 0=true:=kR
def ZD9:isK [112,40,120,41,32,58,45,32,116,40,36,76,40,120,41,41,46] 2 183=true:=kR
def ZEa:isK [112,40,120,41,32,58,45,32,114,40,91,120,44,32,95,93,41,46] 0 0=true:=kR
def ZEb:isK [115,40,99,97,116,40,34,97,34,44,32,115,116,114,40,115,116,114,108,101,110,40,120,41,41,41,41,32,58,45,32,115,40,120,41,44,32,110,117,109,40,120,41,32,60,32,99,111,100,101,40,115,117,98,115,116,114,40,120,44,32,48,44,32,49,41,41,46] 0 0=true:=kR
def ZEc:isK [113,40,120,41,32,58,45,32,112,40,120,41,44,32,120,32,61,32,34,97,34,46] 18 183=true:=kR
def ZEd:isK [115,40,110,105,108,41,46] 2 183=true:=kR
def ZEe:isK [115,40,95,41,32,58,45,32,49,32,61,32,49,46] 0 0=true:=kR
def ZEf:ZfW [116,121,112,101,32,110,117,109,98,101,114,32,61,32,91,93] 5 170=true:=kR
def ZEg:ZfW [116,121,112,101,32,84,32,61,32,91,93,32,116,121,112,101,32,84,32,61,32,91,93] 17 170=true:=kR
def ZEh:ZfW [116,121,112,101,32,84,32,61,32,65,32,123,125,32,116,121,112,101,32,85,32,61,32,65,32,123,125] 19 170=true:=kR
def ZEi:ZfW [116,121,112,101,32,84,32,60,58,32,85] 5 180=true:=kR
def ZEj:ZfW [116,121,112,101,32,84,32,61,32,91,97,58,32,85,93] 5 180=true:=kR
def ZEk:ZfW [116,121,112,101,32,84,32,61,32,65,32,123,97,58,32,85,125] 5 180=true:=kR
def ZEl:ZfW [116,121,112,101,32,65,32,60,58,32,66,32,116,121,112,101,32,66,32,60,58,32,66] 17 172=true:=kR
def ZEm:ZfW [116,121,112,101,32,65,32,60,58,32,66,32,116,121,112,101,32,66,32,60,58,32,67,32,116,121,112,101,32,67,32,60,58,32,65] 5 172=true:=kR
def ZEn:ZfW [100,101,99,108,32,112,40,120,58,32,84,41] 5 180=true:=kR
def ZEo:ZfW [100,101,99,108,32,112,40,41,32,100,101,99,108,32,112,40,41] 14 170=true:=kR
def ZEp:ZfW [100,101,99,108,32,112,40,41,32,105,110,112,117,116,32,105,110,108,105,110,101] 5 185=true:=kR
def ZEq:ZfW [100,101,99,108,32,112,40,41,32,105,110,112,117,116,32,112,40,41,46] 15 185=true:=kR
def ZEr:ZfW [116,121,112,101,32,84,32,61,32,91,97,58,32,84,44,32,98,58,32,85,93,32,116,121,112,101,32,85,32,61,32,65,32,123,116,58,32,84,125,32,124,32,66,32,123,125] 0 0=true:=kR
def ZEs:ZfW [] 0 0=true:=kR
def ZEt:isK (ZyR 65) 0 3=true:=kR
def ZEu:isK (ZyR 64) 0 0=true:=kR
abbrev ZBt:List (List D):=[[.int .u8 1,.sl [],.sl []],[.int .u8 2,.sl [],.sl []],[.int .u8 3,.sl (Yh [0,2]),.sl []],[.int .u8 4,.sl [],.sl [[.sl (Yh [0])],[.sl (Yh [3,3])]]]]
structure HeadF (pl:Pl) (u:U3):Prop where
 rd:ZdO Zt4=some (pl,u)
 ft:ZuU (prK u)=true
 fy:ZuU (X6 (prK u))=true
 er:Znu (prK u)=0
 sh:X1 (X6 (prK u)) u.tys=ZBt
 sn:ZuR (prK u) [78]=(0,0)
 st:ZuR (prK u) [84]=(3,0)
 sx:ZuR (prK u) [88]=(0,180)
 b1:XV (prK u) [78] [110,117,109,98,101,114]=true
 b2:XV (prK u) [110,117,109,98,101,114] [78]=false
 ve:Zha pl (prK u) 0=2
def uH:U3:=match ZdO Zt4 with | some (_,u)=>u | none=>⟨[],[],[]⟩
def plH:Pl:=match ZdO Zt4 with | some (pl,_)=>pl | none=>fun _=>0
def ZCW:HeadF plH uH:=⟨kR,kR,kR,kR,kR,kR,kR,kR,kR,kR,kR⟩
def txV:Bs:=[116,121,112,101,32,78,32,60,58,32,110,117,109,98,101,114,32,116,121,112,101,32,82,32,61,32,91,97,58,32,78,44,32,98,58,32,82,93,32,116,121,112,101,32,84,32,61,32,76,32,123,118,58,32,110,117,109,98,101,114,125,32,124,32,77,32,123,108,58,32,84,44,32,114,58,32,84,125,32,100,101,99,108,32,112,40,120,58,32,78,41,32,100,101,99,108,32,113,40,120,58,32,110,117,109,98,101,114,41,32,100,101,99,108,32,116,40,120,58,32,84,41,32,100,101,99,108,32,114,40,120,58,32,82,41,32,100,101,99,108,32,115,40,120,58,32,115,121,109,98,111,108,41,32,113,40,121,41,32,58,45,32,116,40,120,41,44,32,115,40,97,41,44,32,121,32,61,32,115,116,114,108,101,110,40,97,41,46]
structure VarsF (pl:Pl) (u:U3) (v:Vs):Prop where
 rd:ZdO txV=some (pl,u)
 ft:ZuU (prK u)=true
 vv:VA pl (prK u) 0=v
 kp:(v.map (·.1)).isPerm [[97],[120],[121]]=true
 sv:([[97],[120],[121]].map fun s:Bs=>(lkM s v).getD 0)=[1,3,0]
 ev:Zha pl (prK u) 0=0
def uV:U3:=match ZdO txV with | some (_,u)=>u | none=>⟨[],[],[]⟩
def plV:Pl:=match ZdO txV with | some (pl,_)=>pl | none=>fun _=>0
def ZCX:VarsF plV uV (VA plV (prK uV) 0):=⟨kR,kR,rfl,kR,kR,kR⟩
def ZEv {l:List Bs} (h:ZCU l) (hp:l.Perm [[97],[120],[121]]):l=[[97],[120],[121]]:=by
 obtain ⟨ss,rfl⟩:=h;have hs:=List.pairwise_mergeSort (le:=fun x y:Bs=>decide (x<=y)) (fun a b c h1 h2=>by simp only [TQ] at h1 h2 |-;exact List.le_trans h1 h2) (fun a b=>by simpa using List.le_total a b) ss;refine List.Perm.eq_of_pairwise (fun a b ha hb h1 h2=>?_) hs dM hp;have ha:=hp.subset ha;simp only [Tv,Sv,or_false] at ha hb;rcases ha with rfl | rfl | rfl <;> rcases hb with rfl | rfl | rfl <;> first | rfl | exact absurd h1 dM | exact absurd h2 dM
def Zen:Zm:=fun args σ K=>match args,σ with
 | [.agg c],⟨[],[],0⟩=>∃pl p,c=(ZeD pl p).map .d/\(ZuU (X6 p)=true/\Znu p=0)/\∀x,X1 (X6 p) p.types=x->K (.ret (.tuple [.d (.sl x),.d (.int .i64 0)])) ⟨[],[],0⟩
 | _,_=>False
def ZaR {p:Pr} (h:ZuU p=true):ZtK 100000 p:=⟨(UG h).1,by have:=(UG h).2;unfold BP;omega⟩
def ZyT (h:PC w0 nG 6 (ZaO 100000)):PC w0 nG 6 Zen:=h.weaken1 fun args σ K h=>by
 unfold Zen at h
 unfold ZaO
 split at h
 ·obtain ⟨pl,p,h1,⟨h2,h3⟩,h4⟩:=h;exact ⟨pl,p,h1,⟨ZaR h2,dM,ZfV⟩,fun g=>absurd h3 g,fun _=>h4 _ rfl⟩
 exact h.elim
def tkA:ZfW [116,121,112,101,32,78,32,60,58,32,110,117,109,98,101,114,32,100,101,99,108,32,112,40,120,58,32,78,41,32,100,101,99,108,32,113,40,120,58,32,110,117,109,98,101,114,41,32,113,40,120,41,32,58,45,32,112,40,120,41,46] 0 0=true:=kR
def tkB:ZfW [116,121,112,101,32,78,32,60,58,32,110,117,109,98,101,114,32,100,101,99,108,32,112,40,120,58,32,78,41,32,100,101,99,108,32,113,40,120,58,32,110,117,109,98,101,114,41,32,112,40,120,41,32,58,45,32,113,40,120,41,46] 50 183=true:=kR
def Zrf:OKw w0 nG Zre 14 U7:=by
 refine pwo Tryz.func14 fun args σ K h=>?_
 unfold U7 at h
 split at h
 ·obtain ⟨pl,u,hr,hf,hk⟩:=Zhb tkA;obtain ⟨pl2,u2,dz,hf2,be⟩:=Zhb tkB;refine pwv [] 0 false ?_;refine ⟨pl,u,hr,wN ?_⟩;refine ⟨pl,prK u,rfl,⟨hf.1,dM,hf.2⟩,fun a e hx=>?_⟩;rw [hk] at hx
  cases hx
  conv=>whnf
  refine ⟨pl2,u2,dz,wN ?_⟩;refine ⟨pl2,prK u2,rfl,⟨hf2.1,dM,hf2.2⟩,fun a e hx=>?_⟩;rw [be] at hx
  cases hx
  exact mq51
 exact h.elim
def Zny:OKw w0 nG [(4,ZyS),(5,Zku),(7,Zhd),(6,Zen),(9,Zg6 100000),(10,Zl2 100000),(12,Zg7),(8,Zkv),(11,Zkw),(13,Zkx),(14,U7)] 3 U7:=by
 refine pwo Tryz.func3 fun args σ K h=>?_
 unfold U7 at h
 split at h
 ·obtain ⟨pl,u,F⟩:∃pl u,HeadF pl u:=⟨_,_,ZCW⟩
  obtain ⟨pl2,u2,v2,G⟩:∃pl u v,VarsF pl u v:=⟨_,_,_,ZCX⟩
  have hb:BP (prK u):=by have:=(UG F.ft).2;unfold BP;omega
  refine pwv [] 0 false ?_;refine ⟨⟨tk0,⟨dM,dM⟩,dM⟩,wN ?_⟩;refine ⟨⟨tk1,⟨dM,dM⟩,dM⟩,wN ?_⟩;refine ⟨⟨tk2,⟨dM,dM⟩,dM⟩,wN ?_⟩;refine ⟨⟨tk3,⟨dM,dM⟩,dM⟩,wN ?_⟩;refine ⟨⟨tk4,⟨dM,dM⟩,dM⟩,wN ?_⟩;refine ⟨⟨tk5,⟨dM,dM⟩,dM⟩,wN ?_⟩;refine ⟨⟨tk6,⟨dM,dM⟩,dM⟩,wN ?_⟩;refine ⟨⟨tk7,⟨dM,dM⟩,dM⟩,wN ?_⟩;refine ⟨⟨tk8,⟨dM,dM⟩,dM⟩,wN ?_⟩;refine ⟨⟨tk9,⟨dM,dM⟩,dM⟩,wN ?_⟩;refine ⟨⟨ZDR,⟨dM,dM⟩,dM⟩,wN ?_⟩;refine ⟨⟨ZDS,⟨dM,dM⟩,dM⟩,wN ?_⟩;refine ⟨⟨ZDT,⟨dM,dM⟩,dM⟩,wN ?_⟩;refine ⟨⟨ZDU,⟨dM,dM⟩,dM⟩,wN ?_⟩;refine ⟨⟨ZDV,⟨dM,dM⟩,dM⟩,wN ?_⟩;refine ⟨⟨ZDW,⟨dM,dM⟩,dM⟩,wN ?_⟩;refine ⟨⟨ZDX,⟨dM,dM⟩,dM⟩,wN ?_⟩;refine ⟨⟨ZDY,⟨dM,dM⟩,dM⟩,wN ?_⟩;refine ⟨⟨ZDZ,⟨dM,dM⟩,dM⟩,wN ?_⟩;refine ⟨⟨ZD0,⟨dM,dM⟩,dM⟩,wN ?_⟩;refine ⟨⟨ZD1,⟨dM,dM⟩,dM⟩,wN ?_⟩;refine ⟨⟨ZD2,⟨dM,dM⟩,dM⟩,wN ?_⟩;refine ⟨⟨ZD3,⟨dM,dM⟩,dM⟩,wN ?_⟩;refine ⟨⟨ZD4,⟨dM,dM⟩,dM⟩,wN ?_⟩;refine ⟨⟨ZD5,⟨dM,dM⟩,dM⟩,wN ?_⟩;refine ⟨⟨ZD6,⟨dM,dM⟩,dM⟩,wN ?_⟩;refine ⟨⟨ZD7,⟨dM,dM⟩,dM⟩,wN ?_⟩;refine ⟨⟨ZD8,⟨dM,dM⟩,dM⟩,wN ?_⟩;refine ⟨⟨ZD9,⟨dM,dM⟩,dM⟩,wN ?_⟩;refine ⟨⟨ZEa,⟨dM,dM⟩,dM⟩,wN ?_⟩;refine ⟨⟨ZEb,⟨dM,dM⟩,dM⟩,wN ?_⟩;refine ⟨⟨ZEc,⟨dM,dM⟩,dM⟩,wN ?_⟩;refine ⟨⟨ZEd,⟨dM,dM⟩,dM⟩,wN ?_⟩;refine ⟨⟨ZEe,⟨dM,dM⟩,dM⟩,wN ?_⟩;refine ⟨ZEf,wN ?_⟩;refine ⟨ZEg,wN ?_⟩;refine ⟨ZEh,wN ?_⟩;refine ⟨ZEi,wN ?_⟩;refine ⟨ZEj,wN ?_⟩;refine ⟨ZEk,wN ?_⟩;refine ⟨ZEl,wN ?_⟩;refine ⟨ZEm,wN ?_⟩;refine ⟨ZEn,wN ?_⟩;refine ⟨ZEo,wN ?_⟩;refine ⟨ZEp,wN ?_⟩;refine ⟨ZEq,wN ?_⟩;refine ⟨ZEr,wN ?_⟩;refine ⟨ZEs,wN ?_⟩;refine ⟨pl,u,F.rd,wN ?_⟩;refine ⟨pl,prK u,rfl,⟨F.fy,F.er⟩,fun x hx=>?_⟩;obtain rfl:ZBt=x:=F.sh.symm.trans hx;(conv=>whnf)
  (repeat (refine ⟨_,dM,rfl,?_⟩;conv=>whnf))
  refine ⟨[0,2],rfl,rfl,dM,wN ?_⟩
  (repeat (refine ⟨_,dM,rfl,?_⟩;conv=>whnf))
  refine ⟨[3,3],rfl,rfl,dM,wN ?_⟩;refine ⟨pl,u,F.rd,wN ?_⟩;refine ⟨pl,prK u,rfl,⟨ZaR F.fy,dM,ZfV⟩,fun a e hx=>?_⟩;have hx:=F.sn.symm.trans hx
  cases hx
  conv=>whnf
  refine ⟨pl,u,F.rd,wN ?_⟩;refine ⟨pl,prK u,rfl,⟨ZaR F.fy,dM,ZfV⟩,fun a e hx=>?_⟩;have hx:=F.st.symm.trans hx
  cases hx
  conv=>whnf
  refine ⟨pl,u,F.rd,wN ?_⟩;refine ⟨pl,prK u,rfl,⟨ZaR F.fy,dM,ZfV⟩,fun a e hx=>?_⟩;have hx:=F.sx.symm.trans hx
  cases hx
  conv=>whnf
  refine ⟨pl2,u2,G.rd,wN ?_⟩;refine ⟨pl2,prK u2,rfl,⟨(UG G.ft).1,dM,(UG G.ft).2⟩,fun v hv l e hl hs he=>?_⟩;obtain rfl:v2=v:=G.vv.symm.trans hv;obtain rfl:=ZEv hs (hl.trans (List.isPerm_iff.1 G.kp));obtain rfl:e=0:=he.trans G.ev;(conv=>whnf);refine ⟨pl,u,F.rd,wN ?_⟩;refine ⟨pl,prK u,rfl,⟨(UG F.ft).1,dM,(UG F.ft).2⟩,fun v3 ye l3 e3 dx hs3 he3=>?_⟩;obtain rfl:e3=2:=he3.trans F.ve;(conv=>whnf);refine ⟨[[97],[120],[121]],rfl,rfl,dM,wN ?_⟩;refine ⟨[1,3,0],congrArg Yh G.sv,rfl,dM,wN ?_⟩;refine ⟨pl,u,F.rd,wN ?_⟩;refine ⟨pl,prK u,rfl,hb,fun x hx=>?_⟩;obtain rfl:true=x:=F.b1.symm.trans hx;(conv=>whnf);refine ⟨pl,u,F.rd,wN ?_⟩;refine ⟨pl,prK u,rfl,hb,fun x hx=>?_⟩;obtain rfl:false=x:=F.b2.symm.trans hx;(conv=>whnf);refine ⟨65,⟨rfl,dM⟩,wN ?_⟩;refine ⟨⟨ZEt,⟨dM,dM⟩,dM⟩,wN ?_⟩;refine ⟨64,⟨rfl,dM⟩,wN ?_⟩;refine ⟨⟨ZEu,⟨dM,dM⟩,dM⟩,wN ?_⟩;exact h
 exact h.elim
end Go.PM.Lex
end

section
namespace Go
variable {H:Type} {enc:TypeId×Value->H}
def Vc {a:Assume} {C:Checked} {os:Os} {f:FuncId} {fn:Func} {s:ChangeSpec} {conds:List PathCond} {apart fresh nh again:Bool} {X:World->Array Value->Prop}
  (hX:∀(w w':World) (args:Array Value),w.heap=w'.heap->X w args->X w' args)
  (own:ownKnob C.prog.godebug=none) (started:os.Started) (noInit:C.prog.inits.idxOf? f=none) (hfn:C.prog.funcs[f]?=some fn)
  (witness:∃(w:World) (tape:Tape) (i:Input),w.os=os/\(w.forCall tape i).Shaped C.prog/\i.vars=[]/\Input.okWide C.prog (w.forCall tape i) .any w.heap.size f i /\
   ((s.pre enc C.prog fn conds apart (w.forCall tape i).memory i.args/\X (w.forCall tape i).memory i.args)/\sizedMet enc C.prog fn (OpenSpec.ofChange s) apart (w.forCall tape i).memory i.args)/\a.holds C.prog (lone (Frame.enter C.prog f i.args .normal) [] (w.forCall tape i)))
  (contract:∀(W:World) (base:Nat) (args:Array Value) (ds gs:List (DataW H)) (before:List MemPlace),
   (∀(j:Nat) t v,fn.params[j]?=some t->args[j]?=some v->Value.okWide C.prog W .any base t v) ->
   DataW.Whole enc C.prog fn.params.toList s.vars apart W args.toList ds gs before->X W args->W.ShapedOpen C.prog ->
   Calls C.prog f args W fun e W'=>∃v,e=.returned v/\s.post enc C.prog fn apart fresh nh again W args v W') :
  ReturnsInHanded a C os f .any (fun w args=>(s.pre enc C.prog fn conds apart w args/\X w args)/\sizedMet enc C.prog fn (OpenSpec.ofChange s) apart w args) (s.post enc C.prog fn apart fresh nh again):=by
 refine returnsInHanded_of_calls own started noInit witness ?_;intro w tape i _ ez _ ao aef aeg
 obtain ⟨_,_,_,fn',aeh,_,_,_,_,wj⟩:=ao;have e:fn'=fn:=Option.some.inj (aeh.symm.trans hfn);subst e;obtain ⟨⟨⟨ds,gs,before,hw,hc⟩,hx⟩,hz⟩:=aef;have hw':=DataW.Whole.of_heap (w':=w.forCall tape i) (by rfl) hw;refine (contract (w.forCall tape i) w.heap.size i.args ds gs before wj hw' (hX _ _ _ (by rfl) hx) ez).mono fun e W' ⟨v,he,hp⟩=>?_
 subst he;exact ChangeSpec.post_blind hp
end Go
namespace Go.PM.Lex
open Go.Proofs Go.Proofs.YtcifacgjebbdbaaGreatDoor Go.ChangeShapes Go.WideShapes Go.ChangeAt Go.RowKit
def ZCY:ownKnob Tryz.prog.godebug=none:=kR
def ZuV : "*" ++ "errors.errorString" = "*errors.errorString" := by decide
def Zua (u : TypeId) (h : Tryz.prog.typeName? 3 u = some "*errors.errorString") : u = 372 :=
 typeName_ptr_named (nm := "errors.errorString") (by rw [ZuV]; kernel_rfl) kR dM u (by rw [ZuV]; exact h)
def Zrg {W:World} {n:String} {text:List UInt8} {g:Nat} (hg:Tryz.prog.globalNamed n=some g) (ht:(Tryz.prog.globals[g]?).map (·.type)=some 214)
  (h : laidMet Tryz.prog [(n, .iface "*errors.errorString" (.ptr (.agg [.lit (.string text)])))] W) : ∃ ev, W.cell? ⟨g, 0, none⟩ = some ev /\ (ev = .nilIface \/ ∃ te pe, ev = .iface te pe) := by
 obtain ⟨a1,s1,kz,_⟩:=laid_sentinel h hg ht Tryz.underlying214 Zua Tryz.underlying372 Tryz.underlying374 rfl rfl Tryz.underlying9 kR kR;refine ⟨.iface 372 (.pointer (some a1)),?_,.inr ⟨_,_,rfl⟩⟩;simpa using World.var?_cell hg kz 0
def ZBv {W:World} (h:laidMetH Tryz.prog Rows.typesKnownRow.laid W) (ez:W.ShapedOpen Tryz.prog):GlobOK W 8:=by
 rw [MakeChecks.laidMetH_plain _ _ _ kR] at h;have h1 := laidMet.filter (fun x => x.1 == "strconv.ErrSyntax") h;have h2 := laidMet.filter (fun x => x.1 == "strconv.ErrRange") h;exact ⟨oM,Tryz.laysM143.s1_3 W ez,Zrg kR kR h1,Zrg kR kR h2⟩
def ZyU:Env:=⟨fun _=>0,fun _=>none,fun _ _=>False,fun _=>none⟩
def ZBw {e':Env} {W W':World} {σ':St} {may:MemPlace->Prop} (h:Later ZyU ⟨[],[],0⟩ W e' σ' W'):W.keptBut W' may:=by
 refine ⟨h.os,h.output,fun i hi=>?_⟩;have:=h.blocks i hi (fun j hj=>by simp at hj) (fun t ht=>by cases ht) rfl;rw [this]
 cases hh:W.heap[i]? with
 | none=>rfl
 | some o=>cases o <;> simp
def ZyV {W:World} (h:8<=W.heap.size):SRel (GG W 8) ZyU ⟨[],[],0⟩ W where
 inj:=fun i j hi=>by simp at hi
 box:=fun i x hx=>by simp at hx
 low:=fun i hi=>by simp at hi
 tkn:=fun t ht=>by cases ht
 own:=fun t ht=>by cases ht
 dis:=fun t t' ht=>by cases ht
 xlt:=fun b off hx=>hx.elim
 xown:=fun t ht=>by cases ht
 hid:=fun b q hq=>by cases hq
 glob:=fun b hb=>rfl
 big:=h
end Go.PM.Lex
end

section
namespace Go.PM.Lex
open Go.Proofs Go.Proofs.YtcifacgjebbdbaaGreatDoor
def ZyW:Rows.laid_unicode_utf8_first=Lib.firstData:=kR
def Zub:(Rows.laid_unicode_utf8_acceptRanges:DataW Unit)=Lib.acceptData:=kR
def ZBx {W:World} (h:laidMetH Tryz.prog Rows.typesKnownRow.laid W):Lib.Utf8Tabs 0 1 W:=by
 rw [MakeChecks.laidMetH_plain _ _ _ kR] at h;have h1:=Lib.laidMet.reads (d:=Rows.laid_unicode_utf8_first) h (.tail _ (.tail _ (.tail _ (.tail _ (.tail _ (.tail _ (.head _)))))));have h2:=Lib.laidMet.reads (d:=Rows.laid_unicode_utf8_acceptRanges) h (.tail _ (.tail _ (.tail _ (.head _))));rw [ZyW] at h1;rw [Zub] at h2;exact utf8Tabs_of_readsT (U8Types.of196 Tryz.laysValid) ⟨kR,kR,kR,kR,kR,kR,kR⟩ h1 h2
variable {w0:World} {nG:Nat}
def ZCZ (hb:1<nG) (hT:Lib.Utf8Tabs 0 1 w0):LexC w0 nG where
 name:=ZCf ⟨Zo5,Zag,Zzu,trivial⟩
 quote:=Zsb ⟨Zr7 hb hT,ZbZ,Zfp,Zb0,Zh2,trivial⟩
end Go.PM.Lex
end

section
namespace Go.PM.Lex
open Go.Proofs Go.Proofs.YtcifacgjebbdbaaGreatDoor
def Zuc:DataW Unit->List Int
 | .agg xs=>xs.map fun | .lit (.int _ z)=>z | _=>0
 | _=>[]
def ZyX:(Rows.laid_internal_strconv_uint64pow10:DataW Unit)=Lib.tabData .u64 Lib.pow10Tab:=kR
def ZC0:(Rows.laid_math_bits_deBruijn64tab:DataW Unit)=Lib.tabData .u8 (Zuc Rows.laid_math_bits_deBruijn64tab):=kR
def ZyY:(Zuc Rows.laid_math_bits_deBruijn64tab).getD 15 0=4:=kR
def ZBy:(Zuc Rows.laid_math_bits_deBruijn64tab).length=64:=kR
def ZC1 {W:World} (h:laidMetH Tryz.prog Rows.typesKnownRow.laid W):NumOK W 8:=by
 rw [MakeChecks.laidMetH_plain _ _ _ kR] at h;have h1 := laidMet.filter (fun x => x.1 == "internal/strconv.uint64pow10") h;have h2 := laidMet.filter (fun x => x.1 == "math/bits.deBruijn64tab") h;have k1 : laidMet Tryz.prog [("internal/strconv.uint64pow10", Lib.tabData .u64 Lib.pow10Tab)] W := by rw [<- ZyX]; exact h1
 have k2 : laidMet Tryz.prog [("math/bits.deBruijn64tab", Lib.tabData .u8 (Zuc Rows.laid_math_bits_deBruijn64tab))] W := by rw [<- ZC0]; exact h2
 refine ⟨dM,Lib.tabIs_of_head (g:=3) (t:=351) kR kR Tryz.underlying351 kR kR kR k1,?_⟩;have k3:=Lib.tabIs_of_head (g:=5) (t:=367) kR kR Tryz.underlying367 kR kR kR k2;have k4:=k3.cell (g:=5) kR 15 (by rw [ZBy];decide);rw [ZyY] at k4;exact k4
end Go.PM.Lex
end

section
namespace Go.PM.Lex
open Go.Proofs Go.Proofs.YtcifacgjebbdbaaGreatDoor
def Z5 {a b:Bool} (h1:a=true) (h2:b=true):(a && b)=true:=by rw [h1,h2];rfl
def Zrh {P:Program} {f:FuncId} {fn:Func} {s:ChangeSpec} {c:OpenClaim}
  (p1:laidOutB P=true) (p2:mapsRowed P=true) (p3:(P.stops == [])=true) (p4:(P.stopKnobs == [])=true) (p5:(c.plainKeys == P.plainKeys)=true) (p6:P.stopsHeard=true) (p7:P.mayEnter=true) (p8:(c.lifted == P.liftsFinal)=true) (p9:(P.make == some c.make)=true)
  (k1:c.wf (OpenSpec.ofChange s)=true) (k2:fn.params.all (P.readableRec ·)=true) (k3:namedTie P c.named s.vars=true) (k4:(c.stops == [])=true) (k5:(c.knobs == [])=true)
  (k6:(c.inPlace == P.inPlace f)=true) (k7:(c.unfollowed == P.unfollowed f)=true) (k8:(c.recurses == P.recurses f)=true) (k9:(c.named == P.varsNamed f)=true)
  (k10:(c.maps == (fn.params.toList++s.plain.varTypes P).any (P.mapsRec ·))=true) (k11:(c.ifaces == (fn.params.toList++s.plain.varTypes P).any (P.ifacesRec ·))=true) (k12:(c.mapsOut == P.mapsAmong fn.resultTypes.toList)=true)
  (k13:(c.loops == (fn.params.toList++s.plain.varTypes P).any (P.loopsFrom ·))=true) (k14:(c.wideKeys == (fn.params.toList++s.plain.varTypes P++fn.resultTypes.toList).any (P.wideKeysFrom ·))=true)
  (k15:s.vars.all (P.varReadable ·)=true) (k16:fn.resultTypes.all (fun t=>P.readableRec t && decide (t<P.types.size))=true) (k17:(c.ifacesOut == fn.resultTypes.toList.any (P.ifacesRec ·))=true) (k18:(c.loopsOut == fn.resultTypes.toList.any (P.loopsFrom ·))=true)
  (k19:c.shortTexts.isNone=true) (k20:(c.kinds == (if c.domain.isEmpty then [] else fn.params.toList.map fun t=>match P.underlying t with | some (.int k)=>some k | _=>none))=true) (k21:(c.pinned == c.pinnedBy)=true)
  (k22:(c.veiled == (fn.params.toList++s.plain.varTypes P++fn.resultTypes.toList).any (P.veiledRec ·))=true) (k23:c.veiledFits P fn.params.toList (fn.params.toList++s.plain.varTypes P++fn.resultTypes.toList)=true):joinedFacts P f fn s c=true:=by
 unfold joinedFacts
 exact (Z5 (Z5 (Z5 (Z5 (Z5 (Z5 (Z5 (Z5 (Z5 (Z5 (Z5 (Z5 (Z5 (Z5 (Z5 (Z5 (Z5 (Z5 (Z5 (Z5 (Z5 (Z5 (Z5 (Z5 (Z5 (Z5 (Z5 (Z5 (Z5 (Z5 (Z5 k1 p1) p2) k2) k3) k4) p3) k5) p4) k6) k7) k8) k9) k10) k11) k12) k13) k14) k15) k16) k17) k18) p5) k19) p6) p7) p8) p9) k20) k21) k22) k23)
def jp1:laidOutB Tryz.checked.prog=true:=kR
def jp2:mapsRowed Tryz.checked.prog=true:=kR
def jp3:(Tryz.checked.prog.stops == [])=true:=kR
def jp4:(Tryz.checked.prog.stopKnobs == [])=true:=kR
def jp5:(Rows.typesKnownRow.plainKeys == Tryz.checked.prog.plainKeys)=true:=kR
def jp6:Tryz.checked.prog.stopsHeard=true:=kR
def jp7:Tryz.checked.prog.mayEnter=true:=kR
def jp8:(Rows.typesKnownRow.lifted == Tryz.checked.prog.liftsFinal)=true:=kR
def jp9:(Tryz.checked.prog.make == some Rows.typesKnownRow.make)=true:=kR
def jp10:Tryz.checked.prog.mainIs=some (Rows.typesKnownCard.stood.harness.1,Rows.typesKnownCard.stood.harness.2.toList):=kR
def jp11:Rows.typesKnownCard.stood.looks=Tryz.checked.prog.looks []:=kR
end Go.PM.Lex
end
