/- A part of the proof: plain logic, contracts and laws over the given program. -/
import Derived.Test.YtflgockgjnddnaaGreatDoorE08
set_option linter.unusedVariables false
set_option linter.unusedSimpArgs false
set_option linter.all false
set_option maxRecDepth 100000
set_option maxHeartbeats 16000000
section
namespace Go.PM.Lex
open Go.Proofs
variable {w0:World} {nG:Nat}
theorem ZtL (o:Nat) (t:Bs) (l:List Ex) (b:List Li) (a:Nat):wL (.mk o t l b a)=1+t.length+szS wE l+szS wL b:=by rw [wL,Zdx]
noncomputable def Zy7 (n:Nat):Tbl:=[(94,Za6),(96,Zk4 Yc ZQ wE n),(105,spB (Zk4 Xi ZZ wL) n)]
theorem Zqj {n:Nat} (ht:TblOK (GG w0 nG) (Zy7 n)):PCalls (GG w0 nG) 105 (Zk4 Xi ZZ wL n):=by
 refine pc ht Tryz.func105 ?_;intro args σ K h
 unfold Zk4 at h
 split at h
 ·obtain ⟨pl,l,rfl,⟨hz,hn⟩,h⟩:=h;have hlen:(l.map (Xi pl)).length=l.length:=Ti ..;have hsz:=Wn wL l;refine ⟨Zb [(2,⟨[3],[0],fun vs σ=>∃i:Nat,vs=[.d (.int .i64 i)]∧σ=⟨[],[],0⟩∧i≤l.length∧l.all ZZ=(l.drop i).all ZZ,fun vs _=>match vs with | [.d (.int _ i)]=>((l.length:Int) - i).toNat | _=>0⟩)],0,false,by simp,Ta rfl,?_⟩;(conv=>whnf);refine ⟨⟨0,rfl,rfl,by omega,rfl⟩,?_⟩;intro vs σ hI
  obtain ⟨i,rfl,rfl,hi,ha⟩:=hI;(conv=>whnf);refine ZAf (fun hi2=>?_) (fun hi2=>?_)
  ·have hi2:i<l.length:=by have hi2:(i:Int)<(l.map (Xi pl)).length:=hi2;rw [hlen] at hi2;omega
   have hg:=Wo wL l i hi2;rw [ZdY ZZ hi2] at ha;obtain ⟨eA,hA⟩:∃x,l[i]=x:=⟨_,rfl⟩
   obtain ⟨op,rel,ar,bo,at'⟩:=eA;rw [hA] at hg ha;rw [ZtL] at hg;have har:(ZM pl ar).length=ar.length:=by rw [Zg,Ti]
   have hbo:(Xy pl bo).length=bo.length:=by rw [Zs,Ti]
   have hr1:(l.map (Xi pl))[((i:Nat):Int).toNat]?=some (Xi pl (.mk op rel ar bo at')):=by simp [hi2,hA]
   have no:ZZ (.mk op rel ar bo at')=false→K (.ret (.d (.bool false))) ⟨[],[],0⟩:=fun g=>h _ (by rw [ha,g];rfl)
   have go:ZZ (.mk op rel ar bo at')=true→l.all ZZ=(l.drop (i+1)).all ZZ:=fun g=>by rw [ha,g,TE]
   clear ha
   conv=>whnf
   refine ⟨_,by omega,hr1,?_⟩;(conv=>whnf);refine ZAf (fun g1=>?_) (fun g1=>?_)
   ·exact m186
   conv=>whnf
   refine ZAf (fun g2=>?_) (fun g2=>?_)
   ·exact m186
   conv=>whnf
   refine ZAf (fun g3=>?_) (fun g3=>?_)
   ·conv=>whnf
    refine ZAf (fun g4=>?_) (fun g4=>?_)
    ·conv=>whnf
     refine ZAf (fun q1=>?_) (fun q1=>?_)
     ·conv=>whnf
      refine ZAf (fun q2=>?_) (fun q2=>?_)
      ·have q2:ar.length=2:=by have q2:((ZM pl ar).length:Int)=2:=q2;rw [har] at q2;omega
       conv=>whnf
       refine ZAh (fun q3=>?_) (fun q3=>?_)
       ·have q3:¬bo.length=0:=by have q3:¬((Xy pl bo).length:Int)=0:=q3;rw [hbo] at q3;omega
        have hL:ZY op rel ar.length bo.length=false:=by unfold ZY;rw [Tc (by omega),Tf (by omega)];rw [TC (show 0<bo.length by omega)];simp
        exact m48
       ·have q3:bo.length=0:=by have q3:((Xy pl bo).length:Int)=0:=q3;rw [hbo] at q3;omega
        have hL:ZY op rel ar.length bo.length=true:=by unfold ZY;rw [Tc (by omega),Tf (by omega)];rw [decide_eq_false (show ¬0<bo.length by omega)];simp [q1,q2]
        exact m6
      ·have q2:¬ar.length=2:=by have q2:¬((ZM pl ar).length:Int)=2:=q2;rw [har] at q2;omega
       have hL:ZY op rel ar.length bo.length=false:=by unfold ZY;rw [Tc (by omega),Tf (by omega)];simp [q2]
       exact m48
     ·have hL:ZY op rel ar.length bo.length=false:=by unfold ZY;rw [Tc (by omega),Tf (by omega)];simp [show ¬rel=[] from q1]
      exact m48
    conv=>whnf
    refine ZAf (fun g5=>?_) (fun g5=>?_)
    ·conv=>whnf
     refine ZAf (fun q1=>?_) (fun q1=>?_)
     ·conv=>whnf
      refine ZAf (fun q2=>?_) (fun q2=>?_)
      ·have q2:ar.length=1:=by have q2:((ZM pl ar).length:Int)=1:=q2;rw [har] at q2;omega
       conv=>whnf
       refine ZAh (fun q3=>?_) (fun q3=>?_)
       ·have q3:¬0<bo.length:=by have q3:¬((Xy pl bo).length:Int)>0:=q3;rw [hbo] at q3;omega
        have hL:ZY op rel ar.length bo.length=false:=by unfold ZY;rw [Tc (by omega),Tc (by omega),Tf (by omega)];rw [decide_eq_false (show ¬0<bo.length by omega)];simp
        exact m48
       ·have q3:0<bo.length:=by have q3:((Xy pl bo).length:Int)>0:=q3;rw [hbo] at q3;omega
        have hL:ZY op rel ar.length bo.length=true:=by unfold ZY;rw [Tc (by omega),Tc (by omega),Tf (by omega)];rw [TC (show 0<bo.length by omega)];simp [q1,q2]
        exact m6
      ·have q2:¬ar.length=1:=by have q2:¬((ZM pl ar).length:Int)=1:=q2;rw [har] at q2;omega
       have hL:ZY op rel ar.length bo.length=false:=by unfold ZY;rw [Tc (by omega),Tc (by omega),Tf (by omega)];simp [q2]
       exact m48
     ·have hL:ZY op rel ar.length bo.length=false:=by unfold ZY;rw [Tc (by omega),Tc (by omega),Tf (by omega)];simp [show ¬rel=[] from q1]
      exact m48
    conv=>whnf
    refine ZAf (fun g6=>?_) (fun g6=>?_)
    ·exact m5
    conv=>whnf
    refine ZAf (fun g7=>?_) (fun g7=>?_)
    ·exact m5
    conv=>whnf
    refine ZAf (fun g8=>?_) (fun g8=>?_)
    ·exact m5
    ·have hL:ZY op rel ar.length bo.length=false:=by unfold ZY;rw [Tc (by omega),Tc (by omega),Tc (by omega),Tc (by omega)]
     exact m48
   ·conv=>whnf
    (repeat (refine ZAf (fun g=>absurd g (by omega)) (fun _=>?_);conv=>whnf))
    have hL:ZY op rel ar.length bo.length=false:=by unfold ZY;rw [Tc (by omega),Tc (by omega),Tc (by omega),Tc (by omega)]
    exact no (by rw [ZZ,hL];rfl)
  ·have hi2:i=l.length:=by have hi2:¬(i:Int)<(l.map (Xi pl)).length:=hi2;rw [hlen] at hi2;omega
   subst hi2;rw [List.drop_length] at ha;(conv=>whnf);exact h _ ha
 ·exact h.elim
theorem cMy:∀n,PCalls (GG w0 nG) 56 (Zqg Yc ZQ wE n)
 | 0=>Zqi ⟨⟨Zgw,XO _⟩,⟨ZbS,WS⟩,⟨Zhj,YI⟩,⟨Z5 (Zo Tryz.func96 (by kernel_rfl) rfl),ZK (WZ _ _ _) _⟩,trivial⟩
 | n+1=>Zqi ⟨⟨Zgw,XO _⟩,⟨ZbS,WS⟩,⟨Zhj,YI⟩,⟨Z6 (sp:=Zk4 Yc ZQ wE) (Zqh ⟨⟨cMy n,Zca _ _ _ n⟩,trivial⟩),ZK (WZ _ _ _) _⟩,trivial⟩
theorem cMs (n:Nat):PCalls (GG w0 nG) 96 (Zk4 Yc ZQ wE n):=Zqh ⟨⟨cMy n,Zca _ _ _ n⟩,trivial⟩
theorem cMl:∀n,PCalls (GG w0 nG) 105 (Zk4 Xi ZZ wL n)
 | 0=>Zqj ⟨⟨ZbS,WS⟩,⟨cMs _,WZ _ _ _ _⟩,⟨Z5 (Zo Tryz.func105 (by kernel_rfl) rfl),ZK (WZ _ _ _) _⟩,trivial⟩
 | n+1=>Zqj ⟨⟨ZbS,WS⟩,⟨cMs _,WZ _ _ _ _⟩,⟨Z6 (sp:=Zk4 Xi ZZ wL) (cMl n),ZK (WZ _ _ _) _⟩,trivial⟩
noncomputable def Zy8 (n:Nat):Tbl:=[(94,Za6),(96,Zk4 Yc ZQ wE n),(105,Zk4 Xi ZZ wL n)]
theorem ZvA {n:Nat} (ht:TblOK (GG w0 nG) (Zy8 n)):PCalls (GG w0 nG) 60 (Zqg Xj JP wRu n):=by
 refine pc ht Tryz.func60 ?_;intro args σ K h
 unfold Zqg at h
 split at h
 ·obtain ⟨pl,⟨hd1,ar,bo,at'⟩,rfl,⟨hz,hn⟩,h⟩:=h;unfold wRu at hz
  unfold JP at h
  dsimp only at hz h;refine ⟨Zb [],0,false,by simp,Ta rfl,?_⟩;(conv=>whnf);refine ⟨show hd1.length<4294967281 by omega,fun b0 hb0=>?_⟩;rw [hb0] at h
  cases b0 with
  | false =>
   exact m238
  | true =>
   rw [TE] at h;(conv=>whnf);refine ⟨pl,ar,Zg pl ar,⟨by omega,hn⟩,fun b1 hb1=>?_⟩;rw [hb1] at h
   cases b1 with
   | false =>
    exact m238
   | true =>
    rw [TE] at h;(conv=>whnf);refine ⟨pl,bo,Zs pl bo,⟨by omega,hn⟩,fun b2 hb2=>?_⟩;(conv=>whnf);exact h _ hb2
 ·exact h.elim
theorem cMr (n:Nat):PCalls (GG w0 nG) 60 (Zqg Xj JP wRu n):=ZvA ⟨⟨ZbS,WS⟩,⟨cMs n,WZ _ _ _ n⟩,⟨cMl n,WZ _ _ _ n⟩,trivial⟩
end Go.PM.Lex
end

section
namespace Go.PM.Lex
open Go.Proofs
variable {w0:World} {nG:Nat}
noncomputable def Zwh (n:Nat):Zr:=fun args σ K=>match args,σ with
 | [.agg c],⟨[],[],0⟩=>∃pl e,c=(Xi pl e).map .d∧((ZZ e=true∧Zj1 e=true)∧wL e≤n∧n≤16777216)∧∀t,liT e=t→K (.ret (.d (.str t))) ⟨[],[],0⟩
 | _,_=>False
theorem Zjo (n:Nat):Za (Zwh n):=fun args σ K K' hK h=>by
 unfold Zwh at h ⊢
 exact m46
noncomputable def Zjp (n:Nat):Zr:=fun args σ K=>match args,σ with
 | [.d (.sl r)],⟨[],[],0⟩=>∃pl l,r=Xy pl l∧((∀x∈l,ZZ x=true∧Zj1 x=true)∧szS wL l≤n∧n≤16777216)∧∀t,Zl cmm (l.map liT)=t→K (.ret (.d (.str t))) ⟨[],[],0⟩
 | _,_=>False
theorem ZcZ (n:Nat):Za (Zjp n):=fun args σ K K' hK h=>by
 unfold Zjp at h ⊢
 exact m46
noncomputable def ZxA (n:Nat):Tbl:=[(172,Zwh n)]
theorem Zmt {n:Nat} (ht:TblOK (GG w0 nG) (ZxA n)):PCalls (GG w0 nG) 106 (Zjp n):=by
 refine pc ht Tryz.func106 ?_;intro args σ K h
 unfold Zjp at h
 split at h
 ·obtain ⟨pl,l,rfl,⟨hm,hz,hn⟩,h⟩:=h;have hlen:(Xy pl l).length=l.length:=by rw [Zs,Ti]
  have hsz:=Wn wL l;refine ⟨Zb [(3,⟨[3,4],[0],fun vs σ=>∃i:Nat,vs=[.d (.str (Zl cmm ((l.take i).map liT))),.d (.int .i64 i)]∧σ=⟨[],[],0⟩∧i≤l.length,fun vs _=>match vs with | [_,.d (.int _ i)]=>((l.length:Int) - i).toNat | _=>0⟩)],0,true,by simp,Ta rfl,?_⟩;(conv=>whnf);refine ⟨⟨0,(by simp only [Si,TX,Zl];rfl),rfl,by omega⟩,?_⟩;intro vs σ hI
  obtain ⟨i,rfl,rfl,hi⟩:=hI;(conv=>whnf);refine ZAf (fun hi2=>?_) (fun hi2=>?_)
  ·have hi2:i<l.length:=by have hi2:(i:Int)<(Xy pl l).length:=hi2;rw [hlen] at hi2;omega
   have hg:=Wo wL l i hi2;have hmx:=hm _ (TP hi2);have htk:=Jd cmm liT hi2;have hle:=ZH (T:=liT) (w:=wL) (l:=l.take i) fun x hx=>ZcT x (hm x (List.mem_of_mem_take hx)).2
   have hxl:=ZcT _ hmx.2;have hsi:szS wL (l.take i)≤szS wL l:=ZhH wL l i;obtain ⟨S,hS⟩:∃S,Zl cmm ((l.take i).map liT)=S:=⟨_,rfl⟩
   rw [hS] at hle htk ⊢;obtain ⟨eA,hA⟩:∃x,l[i]=x:=⟨_,rfl⟩
   obtain ⟨a1,a2,a3,a4,a5⟩:=eA;rw [hA] at hg hmx htk hxl;obtain ⟨X,hX⟩:∃X,liT (.mk a1 a2 a3 a4 a5)=X:=⟨_,rfl⟩
   rw [hX] at htk hxl;have hr1:(Xy pl l)[((i:Nat):Int).toNat]?=some (Xi pl (.mk a1 a2 a3 a4 a5)):=by rw [Zs];simp [hi2,hA]
   exact m24
  ·have hi2:i=l.length:=by have hi2:¬(i:Int)<(Xy pl l).length:=hi2;rw [hlen] at hi2;omega
   subst hi2;rw [Sk];exact m238
 ·exact h.elim
noncomputable def Zy9 (n:Nat):Tbl:=[(57,Zq4 n),(101,Zsj n),(106,spB Zjp n)]
theorem Zqk {n:Nat} (ht:TblOK (GG w0 nG) (Zy9 n)):PCalls (GG w0 nG) 172 (Zwh n):=by
 refine pc ht Tryz.func172 ?_;intro args σ K h
 unfold Zwh at h
 split at h
 ·obtain ⟨pl,⟨op,rel,ar,bo,at'⟩,rfl,⟨⟨hm,hr⟩,hz,hn⟩,h⟩:=h;obtain ⟨m1,m2,m3⟩:=Zpg hm;obtain ⟨r1,r2⟩:=ZkB hr;rw [ZtL] at hz;have h:=h _ rfl;refine ⟨Zb [],0,true,by simp,Ta rfl,?_⟩;rcases Zph m1 with ⟨c,hn1,hb⟩ | ⟨c1,c2,rfl,ha,hb⟩ | ⟨rfl,rfl,ha,hb⟩ | ⟨c1,c2,rfl,ha,hb⟩
  ·rcases c with rfl | rfl
   ·have hT:liT (.mk 1 rel ar bo at')=((rel++[40])++Zl cmm (ar.map exT))++[41]:=by rw [liT];simp [Wd,ZiK]
    rw [hT] at h;(conv=>whnf);refine ⟨show rel.length+1<2 ^ 62 by omega,?_⟩;(conv=>whnf);refine ⟨pl,ar,rfl,⟨fun x hx=>⟨m2 x hx,r1 x hx⟩,by omega,by omega⟩,fun t ht=>?_⟩;have hcl:t.length≤64 * szS wE ar:=by rw [← ht];exact ZH fun x hx=>Z7 x (r1 x hx)
    conv=>whnf
    (repeat (refine ⟨rfl,?_⟩;conv=>whnf))
    rw [ht] at h;refine ⟨show (rel++[40]).length+t.length<2 ^ 62 by simp only [Tb,Td,Te];omega,?_⟩;(conv=>whnf);refine ⟨show ((rel++[40])++t).length+1<2 ^ 62 by simp only [Tb,Td,Te];omega,?_⟩;exact m54
   ·have hT:liT (.mk 2 rel ar bo at')=((([33]++rel)++[40])++Zl cmm (ar.map exT))++[41]:=by rw [liT];simp [Wd,ZiK]
    rw [hT] at h;(conv=>whnf);refine ⟨show 1+rel.length<2 ^ 62 by omega,?_⟩;(conv=>whnf);refine ⟨show ([33]++rel).length+1<2 ^ 62 by simp only [Tb,Td,Te];omega,?_⟩;(conv=>whnf);refine ⟨pl,ar,rfl,⟨fun x hx=>⟨m2 x hx,r1 x hx⟩,by omega,by omega⟩,fun t ht=>?_⟩;have hcl:t.length≤64 * szS wE ar:=by rw [← ht];exact ZH fun x hx=>Z7 x (r1 x hx)
    conv=>whnf
    (repeat (refine ⟨rfl,?_⟩;conv=>whnf))
    rw [ht] at h;refine ⟨show (([33]++rel)++[40]).length+t.length<2 ^ 62 by simp only [Tb,Td,Te];omega,?_⟩;(conv=>whnf);refine ⟨show ((([33]++rel)++[40])++t).length+1<2 ^ 62 by simp only [Tb,Td,Te];omega,?_⟩;exact m54
  ·obtain ⟨x,y,rfl⟩:=ZiO ha;obtain ⟨hmx,hrx⟩:ZQ x=true∧Jv x=true:=⟨m2 x (by simp),r1 x (by simp)⟩
   obtain ⟨hmy,hry⟩:ZQ y=true∧Jv y=true:=⟨m2 y (by simp),r1 y (by simp)⟩
   simp only [szS] at hz;have hT:liT (.mk op [] [x,y] bo at')=(((exT x++[32])++Zyz op)++[32])++exT y:=by
    rw [liT,Tc (by omega),Tc (by omega),Tf c2];simp only [ZiM,List.tail_cons];have e:Zpd op=[32]++(Zyz op++[32]):=by unfold Zpd Zyz;(repeat' split) <;> rfl
    rw [e];simp only [To]
   rw [hT] at h;obtain ⟨x1,x2,x3,x4,x5⟩:=x;obtain ⟨y1,y2,y3,y4,y5⟩:=y;obtain rfl | rfl | rfl | rfl | rfl | rfl:op=3∨op=4∨op=5∨op=6∨op=7∨op=8:=by omega
   all_goals
    conv=>whnf
    (repeat (first | (refine ⟨_,by decide,rfl,?_⟩;conv=>whnf) | (refine Or.inl ⟨InR.u8 (by decide) (by decide),?_⟩;conv=>whnf) | (refine ⟨rfl,?_⟩;conv=>whnf)))
    refine ⟨pl,.mk x1 x2 x3 x4 x5,rfl,⟨⟨hmx,hrx⟩,by omega,by omega⟩,fun t1 ht1=>?_⟩;have hlx:=Z7 _ hrx;rw [ht1] at h hlx;(conv=>whnf)
    (repeat (first | (refine ⟨_,by decide,rfl,?_⟩;conv=>whnf) | (refine Or.inl ⟨InR.u8 (by decide) (by decide),?_⟩;conv=>whnf) | (refine ⟨rfl,?_⟩;conv=>whnf)))
    refine ⟨show (t1).length+([32]:Bs).length<2 ^ 62 by simp only [Tb,Td,Te];omega,?_⟩;(conv=>whnf)
    (repeat (first | (refine ⟨_,by decide,rfl,?_⟩;conv=>whnf) | (refine Or.inl ⟨InR.u8 (by decide) (by decide),?_⟩;conv=>whnf) | (refine ⟨rfl,?_⟩;conv=>whnf)))
    refine ⟨(by simp;omega),?_⟩;(conv=>whnf)
    (repeat (first | (refine ⟨_,by decide,rfl,?_⟩;conv=>whnf) | (refine Or.inl ⟨InR.u8 (by decide) (by decide),?_⟩;conv=>whnf) | (refine ⟨rfl,?_⟩;conv=>whnf)))
    refine ⟨(by simp;omega),?_⟩;(conv=>whnf)
    (repeat (first | (refine ⟨_,by decide,rfl,?_⟩;conv=>whnf) | (refine Or.inl ⟨InR.u8 (by decide) (by decide),?_⟩;conv=>whnf) | (refine ⟨rfl,?_⟩;conv=>whnf)))
    refine ⟨pl,.mk y1 y2 y3 y4 y5,rfl,⟨⟨hmy,hry⟩,by omega,by omega⟩,fun t2 ht2=>?_⟩;have hly:=Z7 _ hry;rw [ht2] at h hly;(conv=>whnf)
    (repeat (first | (refine ⟨_,by decide,rfl,?_⟩;conv=>whnf) | (refine Or.inl ⟨InR.u8 (by decide) (by decide),?_⟩;conv=>whnf) | (refine ⟨rfl,?_⟩;conv=>whnf)))
    refine ⟨(by simp;omega),?_⟩;(conv=>whnf)
    (repeat (first | (refine ⟨_,by decide,rfl,?_⟩;conv=>whnf) | (refine Or.inl ⟨InR.u8 (by decide) (by decide),?_⟩;conv=>whnf) | (refine ⟨rfl,?_⟩;conv=>whnf)))
    exact h
  ·obtain ⟨x,rfl⟩:=ZlL ha;obtain ⟨hmx,hrx⟩:ZQ x=true∧Jv x=true:=⟨m2 x (by simp),r1 x (by simp)⟩
   simp only [szS] at hz;have hT:liT (.mk 9 [] [x] bo at')=((exT x++[32,61,32,99,111,117,110,116,32,58,32,123,32])++Zl cmm (bo.map liT))++[32,125]:=by
    rw [liT,Tc (by omega),Tc (by omega),Tc (by omega),JQ];simp only [ZiM,List.tail_cons,Zpe,TX,List.flatten_nil,Sx,To];rfl
   rw [hT] at h;obtain ⟨x1,x2,x3,x4,x5⟩:=x;(conv=>whnf)
   (repeat (first | (refine ⟨_,by decide,rfl,?_⟩;conv=>whnf) | (refine Or.inl ⟨InR.u8 (by decide) (by decide),?_⟩;conv=>whnf) | (refine ⟨rfl,?_⟩;conv=>whnf)))
   refine ⟨pl,.mk x1 x2 x3 x4 x5,rfl,⟨⟨hmx,hrx⟩,by omega,by omega⟩,fun t1 ht1=>?_⟩;have hlx:=Z7 _ hrx;rw [ht1] at h hlx;(conv=>whnf)
   (repeat (first | (refine ⟨_,by decide,rfl,?_⟩;conv=>whnf) | (refine Or.inl ⟨InR.u8 (by decide) (by decide),?_⟩;conv=>whnf) | (refine ⟨rfl,?_⟩;conv=>whnf)))
   refine ⟨show (t1).length+([32,61,32,99,111,117,110,116,32,58,32,123,32]:Bs).length<2 ^ 62 by simp only [Tb,Td,Te];omega,?_⟩;(conv=>whnf)
   (repeat (first | (refine ⟨_,by decide,rfl,?_⟩;conv=>whnf) | (refine Or.inl ⟨InR.u8 (by decide) (by decide),?_⟩;conv=>whnf) | (refine ⟨rfl,?_⟩;conv=>whnf)))
   refine ⟨by omega,pl,bo,rfl,⟨fun x hx=>⟨m3 x hx,r2 x hx⟩,by omega,by omega⟩,fun t2 ht2=>?_⟩;have hcl:t2.length≤64 * szS wL bo:=by rw [← ht2];exact ZH fun x hx=>ZcT x (r2 x hx)
   rw [ht2] at h;(conv=>whnf)
   (repeat (first | (refine ⟨_,by decide,rfl,?_⟩;conv=>whnf) | (refine Or.inl ⟨InR.u8 (by decide) (by decide),?_⟩;conv=>whnf) | (refine ⟨rfl,?_⟩;conv=>whnf)))
   refine ⟨show (t1++[32,61,32,99,111,117,110,116,32,58,32,123,32]).length+(t2:Bs).length<2 ^ 62 by simp only [Tb,Td,Te];omega,?_⟩;(conv=>whnf)
   (repeat (first | (refine ⟨_,by decide,rfl,?_⟩;conv=>whnf) | (refine Or.inl ⟨InR.u8 (by decide) (by decide),?_⟩;conv=>whnf) | (refine ⟨rfl,?_⟩;conv=>whnf)))
   refine ⟨show ((t1++[32,61,32,99,111,117,110,116,32,58,32,123,32])++t2).length+([32,125]:Bs).length<2 ^ 62 by simp only [Tb,Td,Te];omega,?_⟩;(conv=>whnf)
   (repeat (first | (refine ⟨_,by decide,rfl,?_⟩;conv=>whnf) | (refine Or.inl ⟨InR.u8 (by decide) (by decide),?_⟩;conv=>whnf) | (refine ⟨rfl,?_⟩;conv=>whnf)))
   exact h
  ·obtain ⟨x,y,rfl⟩:=ZiO ha;obtain ⟨hmx,hrx⟩:ZQ x=true∧Jv x=true:=⟨m2 x (by simp),r1 x (by simp)⟩
   obtain ⟨hmy,hry⟩:ZQ y=true∧Jv y=true:=⟨m2 y (by simp),r1 y (by simp)⟩
   simp only [szS] at hz;have hT:liT (.mk op [] [x,y] bo at')=((((((exT x++[32,61,32])++ZiL op)++[32])++exT y)++[32,58,32,123,32])++Zl cmm (bo.map liT))++[32,125]:=by
    rw [liT,Tc (by omega),Tc (by omega),Tc (by omega),JQ];simp only [ZiM,List.tail_cons,Zpe,TJ,TX,List.flatten_cons,List.flatten_nil,T2,To]
   rw [hT] at h;obtain ⟨x1,x2,x3,x4,x5⟩:=x;obtain ⟨y1,y2,y3,y4,y5⟩:=y;obtain rfl | rfl | rfl:op=10∨op=11∨op=12:=by omega
   all_goals
    conv=>whnf
    (repeat (first | (refine ⟨_,by decide,rfl,?_⟩;conv=>whnf) | (refine Or.inl ⟨InR.u8 (by decide) (by decide),?_⟩;conv=>whnf) | (refine ⟨rfl,?_⟩;conv=>whnf)))
    refine ⟨pl,.mk x1 x2 x3 x4 x5,rfl,⟨⟨hmx,hrx⟩,by omega,by omega⟩,fun t1 ht1=>?_⟩;have hlx:=Z7 _ hrx;rw [ht1] at h hlx;(conv=>whnf)
    (repeat (first | (refine ⟨_,by decide,rfl,?_⟩;conv=>whnf) | (refine Or.inl ⟨InR.u8 (by decide) (by decide),?_⟩;conv=>whnf) | (refine ⟨rfl,?_⟩;conv=>whnf)))
    refine ⟨show (t1).length+([32,61,32]:Bs).length<2 ^ 62 by simp only [Tb,Td,Te];omega,?_⟩;(conv=>whnf)
    (repeat (first | (refine ⟨_,by decide,rfl,?_⟩;conv=>whnf) | (refine Or.inl ⟨InR.u8 (by decide) (by decide),?_⟩;conv=>whnf) | (refine ⟨rfl,?_⟩;conv=>whnf)))
    refine ⟨(by simp;omega),?_⟩;(conv=>whnf)
    (repeat (first | (refine ⟨_,by decide,rfl,?_⟩;conv=>whnf) | (refine Or.inl ⟨InR.u8 (by decide) (by decide),?_⟩;conv=>whnf) | (refine ⟨rfl,?_⟩;conv=>whnf)))
    refine ⟨(by simp;omega),?_⟩;(conv=>whnf)
    (repeat (first | (refine ⟨_,by decide,rfl,?_⟩;conv=>whnf) | (refine Or.inl ⟨InR.u8 (by decide) (by decide),?_⟩;conv=>whnf) | (refine ⟨rfl,?_⟩;conv=>whnf)))
    refine ⟨pl,.mk y1 y2 y3 y4 y5,rfl,⟨⟨hmy,hry⟩,by omega,by omega⟩,fun t2 ht2=>?_⟩;have hly:=Z7 _ hry;rw [ht2] at h hly;(conv=>whnf)
    (repeat (first | (refine ⟨_,by decide,rfl,?_⟩;conv=>whnf) | (refine Or.inl ⟨InR.u8 (by decide) (by decide),?_⟩;conv=>whnf) | (refine ⟨rfl,?_⟩;conv=>whnf)))
    refine ⟨(by simp;omega),?_⟩;(conv=>whnf)
    (repeat (first | (refine ⟨_,by decide,rfl,?_⟩;conv=>whnf) | (refine Or.inl ⟨InR.u8 (by decide) (by decide),?_⟩;conv=>whnf) | (refine ⟨rfl,?_⟩;conv=>whnf)))
    refine ⟨(by simp;omega),?_⟩;(conv=>whnf)
    (repeat (first | (refine ⟨_,by decide,rfl,?_⟩;conv=>whnf) | (refine Or.inl ⟨InR.u8 (by decide) (by decide),?_⟩;conv=>whnf) | (refine ⟨rfl,?_⟩;conv=>whnf)))
    refine ⟨by omega,pl,bo,rfl,⟨fun x hx=>⟨m3 x hx,r2 x hx⟩,by omega,by omega⟩,fun t3 ht3=>?_⟩;have hcl:t3.length≤64 * szS wL bo:=by rw [← ht3];exact ZH fun x hx=>ZcT x (r2 x hx)
    rw [ht3] at h;(conv=>whnf)
    (repeat (first | (refine ⟨_,by decide,rfl,?_⟩;conv=>whnf) | (refine Or.inl ⟨InR.u8 (by decide) (by decide),?_⟩;conv=>whnf) | (refine ⟨rfl,?_⟩;conv=>whnf)))
    refine ⟨(by simp;omega),?_⟩;(conv=>whnf)
    (repeat (first | (refine ⟨_,by decide,rfl,?_⟩;conv=>whnf) | (refine Or.inl ⟨InR.u8 (by decide) (by decide),?_⟩;conv=>whnf) | (refine ⟨rfl,?_⟩;conv=>whnf)))
    refine ⟨(by simp;omega),?_⟩;(conv=>whnf)
    (repeat (first | (refine ⟨_,by decide,rfl,?_⟩;conv=>whnf) | (refine Or.inl ⟨InR.u8 (by decide) (by decide),?_⟩;conv=>whnf) | (refine ⟨rfl,?_⟩;conv=>whnf)))
    exact h
 ·exact h.elim
theorem cLt:∀n,PCalls (GG w0 nG) 172 (Zwh n)
 | 0=>Zqk ⟨⟨cTx 0,UF _⟩,⟨Zvz 0,JX _⟩,⟨Z5 (Zo Tryz.func106 (by kernel_rfl) rfl),ZK ZcZ _⟩,trivial⟩
 | n+1=>Zqk ⟨⟨cTx (n+1),UF _⟩,⟨Zvz (n+1),JX _⟩,⟨Z6 (sp:=Zjp) (Zmt ⟨⟨cLt n,Zjo n⟩,trivial⟩),ZK ZcZ _⟩,trivial⟩
theorem Zz8 (n:Nat):PCalls (GG w0 nG) 106 (Zjp n):=Zmt ⟨⟨cLt n,Zjo n⟩,trivial⟩
noncomputable def Zwi (n:Nat):Zr:=fun args σ K=>match args,σ with
 | [.agg c],⟨[],[],0⟩=>∃pl x,c=(Xj pl x).map .d∧((JP x=true∧ZbT x=true)∧wRu x≤n∧n≤16777216)∧∀t,ruT x=t→K (.ret (.d (.str t))) ⟨[],[],0⟩
 | _,_=>False
theorem Zql (n:Nat):Za (Zwi n):=fun args σ K K' hK h=>by
 unfold Zwi at h ⊢
 exact m46
noncomputable def Zza (n:Nat):Tbl:=[(101,Zsj n),(106,Zjp n)]
theorem ZvB {n:Nat} (ht:TblOK (GG w0 nG) (Zza n)):PCalls (GG w0 nG) 61 (Zwi n):=by
 refine pc ht Tryz.func61 ?_;intro args σ K h
 unfold Zwi at h
 split at h
 ·obtain ⟨pl,⟨hd1,ar,bo,at'⟩,rfl,⟨⟨hm,hr⟩,hz,hn⟩,h⟩:=h;have hz:1+hd1.length+szS wE ar+szS wL bo≤n:=hz;have hm:(Zj0 hd1 && (ar.all ZQ && bo.all ZZ))=true:=hm;have hr:(ar.all Jv && bo.all Zj1)=true:=hr;simp only [Tl,Tv] at hm hr;obtain ⟨m1,m2,m3⟩:=hm;obtain ⟨r1,r2⟩:=hr;have h:=h _ rfl;have hbo:(Xy pl bo).length=bo.length:=by rw [Zs,Ti]
  refine ⟨Zb [],0,true,by simp,Ta rfl,?_⟩;(conv=>whnf);refine ⟨(by simp;omega),?_⟩;(conv=>whnf);refine ⟨pl,ar,rfl,⟨fun x hx=>⟨m2 x hx,r1 x hx⟩,by omega,by omega⟩,fun t ht=>?_⟩;have hcl:t.length≤64 * szS wE ar:=by rw [← ht];exact ZH fun x hx=>Z7 x (r1 x hx)
  conv=>whnf
  (repeat (first | (refine ⟨_,by decide,rfl,?_⟩;conv=>whnf) | (refine ⟨rfl,?_⟩;conv=>whnf)))
  refine ⟨(by simp;omega),?_⟩;(conv=>whnf)
  (repeat (first | (refine ⟨_,by decide,rfl,?_⟩;conv=>whnf) | (refine ⟨rfl,?_⟩;conv=>whnf)))
  refine ⟨(by simp;omega),?_⟩;(conv=>whnf)
  (repeat (first | (refine ⟨_,by decide,rfl,?_⟩;conv=>whnf) | (refine ⟨rfl,?_⟩;conv=>whnf)))
  refine ZAf (fun hc=>?_) (fun hc=>?_)
  ·have hc:0<bo.length:=by have hc:((Xy pl bo).length:Int)>0:=hc;rw [hbo] at hc;omega
   have hT:ruT ⟨hd1,ar,bo,at'⟩=(((((hd1++[40])++Zl cmm (ar.map exT))++[41])++[32,58,45,32])++Zl cmm (bo.map liT))++[46]:=by
    unfold ruT
    rw [Tf hc,JQ];simp only [Wd,ZiK,To]
   rw [hT,ht] at h;(conv=>whnf);refine ⟨(by simp;omega),?_⟩;(conv=>whnf)
   (repeat (first | (refine ⟨_,by decide,rfl,?_⟩;conv=>whnf) | (refine ⟨rfl,?_⟩;conv=>whnf)))
   refine ⟨pl,bo,rfl,⟨fun x hx=>⟨m3 x hx,r2 x hx⟩,by omega,by omega⟩,fun t2 ht2=>?_⟩;have hcl2:t2.length≤64 * szS wL bo:=by rw [← ht2];exact ZH fun x hx=>ZcT x (r2 x hx)
   rw [ht2] at h;(conv=>whnf)
   (repeat (first | (refine ⟨_,by decide,rfl,?_⟩;conv=>whnf) | (refine ⟨rfl,?_⟩;conv=>whnf)))
   refine ⟨(by simp;omega),?_⟩;(conv=>whnf)
   (repeat (first | (refine ⟨_,by decide,rfl,?_⟩;conv=>whnf) | (refine ⟨rfl,?_⟩;conv=>whnf)))
   exact m145
  ·have hc:¬0<bo.length:=by have hc:¬((Xy pl bo).length:Int)>0:=hc;rw [hbo] at hc;omega
   have hT:ruT ⟨hd1,ar,bo,at'⟩=(((hd1++[40])++Zl cmm (ar.map exT))++[41])++[46]:=by
    unfold ruT
    rw [Tc hc];simp only [Wd,ZiK,To,Sx]
   rw [hT,ht] at h;(conv=>whnf);exact m145
 ·exact h.elim
theorem cRt (n:Nat):PCalls (GG w0 nG) 61 (Zwi n):=ZvB ⟨⟨Zvz n,JX n⟩,⟨Zz8 n,ZcZ n⟩,trivial⟩
end Go.PM.Lex
end

section
namespace Go.PM.Lex
open Go.Proofs
variable {w0:World} {nG:Nat}
structure RQ (L:List Tok) (a:Int) (ts:Ts):Prop extends ROK L a ts where
 kinds:∀x∈L,1≤x.kind∧x.kind≤4
 names:∀x∈L,x.kind=1→x.text≠[40]
 signs:∀x∈L,x.kind=4→x.text.length≤2
theorem RQ.tlq {L:List Tok} {a:Int} {ts:Ts} (h:RQ L a ts) (hn:ts≠[]):RQ L (a+1) ts.tail:=⟨h.toROK.tl hn,h.kinds,h.names,h.signs⟩
inductive SS where
 | ok (d:Nat) (ts:Ts) | bad (e:Nat)
def SOK (L:List Tok) (a dp w:Int):SS→Prop
 | .ok d ts=>w=0∧RQ L a ts∧dp=64 - (d:Int)∧d≤64
 | .bad e=>w=(e:Int)∧0<e∧0≤a∧a≤(L.length:Int)∧L.length≤1048576
theorem SOK.wz {L:List Tok} {a dp w:Int} {S:SS} (h:SOK L a dp w S) (hw:w=0):∃d ts,S=.ok d ts∧RQ L a ts∧dp=64 - (d:Int)∧d≤64:=by
 cases S with
 | ok d ts=>exact ⟨d,ts,rfl,h.2⟩
 | bad e=>have:=h.1;have:=h.2.1;omega
theorem SOK.w1 {L:List Tok} {a dp w:Int} {S:SS} (h:SOK L a dp w S) (hw:¬w=0):∃e,S=.bad e∧w=(e:Int)∧0<e:=by
 cases S with
 | ok d ts=>exact absurd h.1 hw
 | bad e=>exact ⟨e,rfl,h.1,h.2.1⟩
theorem SOK.rg {L:List Tok} {a dp w:Int} {S:SS} (h:SOK L a dp w S):0≤a∧a≤(L.length:Int)∧L.length≤1048576:=by
 cases S with
 | ok d ts=>exact ⟨h.2.1.lo,h.2.1.hi,h.2.1.big⟩
 | bad e=>exact h.2.2
theorem SOK.mk {L:List Tok} {a dp:Int} {d:Nat} {ts:Ts} (h1:RQ L a ts) (h2:dp=64 - (d:Int)) (h3:d≤64):SOK L a dp 0 (.ok d ts):=⟨rfl,h1,h2,h3⟩
theorem SOK.fail {L:List Tok} {a dp w dp':Int} {S:SS} (h:SOK L a dp w S) (e:Nat) (he:0<e):SOK L a dp' (e:Int) (.bad e):=⟨rfl,he,h.rg⟩
theorem SOK.stay {L:List Tok} {a dp w dp':Int} {e:Nat} (h:SOK L a dp w (.bad e)):SOK L a dp' w (.bad e):=h
abbrev UG (t:TypeId) (L:List Tok) (a en dp w pl:Int):Box:=.cells t [.d (.sl (Zv L)),.d (.int .i64 a),.d (.int .i64 en),.d (.int .i64 dp),.d (.int .i64 w),.d (.int .i64 pl)]
abbrev KS:=PV→SS→Prop
def qSp (body:List PV→SS→KS→Prop):Zr:=fun args σ K=>match args,σ with
 | .ptr 0 0::rest,⟨[.cells t [.d (.sl rows),.d (.int .i64 a),.d (.int .i64 en),.d (.int .i64 dp),.d (.int .i64 w),.d (.int .i64 pl)]],[],0⟩=>∃L S,rows=Zv L∧SOK L a dp w S ∧
   body rest S fun v S'=>∀a' dp' w' pl',SOK L a' dp' w' S'→K (.ret v) ⟨[.cells t [.d (.sl (Zv L)),.d (.int .i64 a'),.d (.int .i64 en),.d (.int .i64 dp'),.d (.int .i64 w'),.d (.int .i64 pl')]],[],0⟩
 | _,_=>False
theorem ZI {body:List PV→SS→KS→Prop} (hb:∀rest S (K K':KS),(∀v S',K v S'→K' v S')→body rest S K→body rest S K'):Za (qSp body):=fun args σ K K' hK h=>by
 unfold qSp at h ⊢
 split at h
 ·obtain ⟨L,S,h1,h2,h3⟩:=h;exact ⟨L,S,h1,h2,hb _ _ _ _ (fun v S' hk a' dp' w' pl' hs=>hK _ _ (hk a' dp' w' pl' hs)) h3⟩
 ·exact h.elim
def Zk5 (e:Nat):SS→SS
 | .ok _ _=>.bad e
 | .bad f=>.bad f
def YT (m:Nat) (w:Bs):SS→Bool
 | .ok _ ts=>isW (ts.drop m) [w]
 | .bad _=>false
def ZgO:SS→Bool
 | .ok _ ts=>Zn ts
 | .bad _=>false
def ZhI:SS→Bool
 | .ok _ ts=>Zx ts
 | .bad _=>false
def Xb:SS→SS
 | .ok d ts=>.ok d ts.tail
 | .bad e=>.bad e
def Ye (w:Bs):SS→SS
 | .ok d ts=>if isW ts [w]=true then .ok d ts.tail else .bad 150
 | .bad e=>.bad e
def Wp (w:Bs):SS→SS
 | .ok d ts=>if isW ts [w]=true then (if d=0 then .bad 151 else .ok (d - 1) ts.tail) else .bad 150
 | .bad e=>.bad e
def Zcb (w:Bs):SS→SS
 | .ok d ts=>if isW ts [w]=true then .ok (d+1) ts.tail else .bad 150
 | .bad e=>.bad e
def YU:SS→SS
 | .ok d ts=>if Zn ts=true then .ok d ts.tail else .bad 150
 | .bad e=>.bad e
def Wq (n m:Int) (S:SS):SS:=if n≥m then Zk5 3 S else S
def ZF {α:Type} (P:Nat→Ts→R α):SS→SS
 | .ok d ts=>match P d ts with
  | .ok _ ts'=>.ok d ts'
  | .err _ e=>.bad e
 | .bad e=>.bad e
def VB:Zr:=qSp fun rest S K=>match rest with
 | [.d (.int .i64 e)]=>∃n:Nat,e=n∧0<n∧K (.tuple []) (Zk5 n S)
 | _=>False
theorem YK:Za VB:=ZI fun rest S K K' hK h=>by
 split at h
 ·obtain ⟨n,h1,h2,h3⟩:=h;exact ⟨n,h1,h2,hK _ _ h3⟩
 ·exact h.elim
def VC:Zr:=qSp fun rest S K=>match rest with
 | []=>∀p:Int,K (.d (.int .i64 p)) S
 | _=>False
theorem YL:Za VC:=ZI fun rest S K K' hK h=>by
 split at h
 ·exact fun p=>hK _ _ (h p)
 ·exact h.elim
def Xz:Zr:=qSp fun rest S K=>match rest with
 | [.d (.int .i64 m),.d (.str w)]=>∃n:Nat,m=n∧n≤1∧∀b,YT n w S=b→K (.d (.bool b)) S
 | _=>False
theorem ZT:Za Xz:=ZI fun rest S K K' hK h=>by
 split at h
 ·obtain ⟨n,h1,h2,h3⟩:=h;exact ⟨n,h1,h2,fun b hb=>hK _ _ (h3 b hb)⟩
 ·exact h.elim
def Je:Zr:=qSp fun rest S K=>match rest with
 | [.d (.int .i64 m)]=>m=0∧∀b,ZgO S=b→K (.d (.bool b)) S
 | _=>False
theorem Vh:Za Je:=ZI fun rest S K K' hK h=>by
 exact m152
def UH:Zr:=qSp fun rest S K=>match rest with
 | []=>∀b,ZhI S=b→K (.d (.bool b)) S
 | _=>False
theorem Uc:Za UH:=ZI fun rest S K K' hK h=>by
 exact m102
def VD:Zr:=qSp fun rest S K=>match rest with
 | [.d (.str w)]=>∀S',Ye w S=S'→K (.tuple []) S'
 | _=>False
theorem YM:Za VD:=ZI fun rest S K K' hK h=>by
 exact m102
def Jf:Zr:=qSp fun rest S K=>match rest with
 | [.d (.str w)]=>∀S',Wp w S=S'→K (.tuple []) S'
 | _=>False
theorem XW:Za Jf:=ZI fun rest S K K' hK h=>by
 exact m102
def JY:Zr:=qSp fun rest S K=>match rest with
 | [.d (.str w)]=>(∀d ts,S=.ok d ts→d<64)∧∀S',Zcb w S=S'→K (.tuple []) S'
 | _=>False
theorem W0:Za JY:=ZI fun rest S K K' hK h=>by
 exact m152
def VE:Zr:=qSp fun rest S K=>match rest with
 | []=>∀S' s,YU S=S'→K (.d (.str s)) S'
 | _=>False
theorem YN:Za VE:=ZI fun rest S K K' hK h=>by
 split at h
 ·exact fun b s hb=>hK _ _ (h b s hb)
 ·exact h.elim
def Zbi:Zr:=qSp fun rest S K=>match rest with
 | [.d (.int .i64 n),.d (.int .i64 m)]=>∀S',Wq n m S=S'→K (.tuple []) S'
 | _=>False
theorem VV:Za Zbi:=ZI fun rest S K K' hK h=>by
 exact m102
theorem RQ.at' {L:List Tok} {a:Int} {ts:Ts} (hr:RQ L a ts) (n:Nat) (h:a+n<L.length):∃x,(Zv L)[(a+n).toNat]?=some (Zro x)∧hd (ts.drop n)=x.t0∧ts.drop n≠[]∧1≤x.kind∧x.kind≤4:=by
 have h0:=hr.lo;have hlen:=hr.len;have hlt:(a+n).toNat<L.length:=by omega
 have hq:ts.drop n=L[(a+n).toNat].t0::ts.drop (n+1):=by
  exact m123
 exact ⟨L[(a+n).toNat],by simp [Zv,hlt],by rw [hq];rfl,by rw [hq];simp,hr.kinds _ (TP hlt)⟩
theorem RQ.nam {L:List Tok} {a:Int} {ts:Ts} (hr:RQ L a ts) (n:Nat):(hd (ts.drop n)).kind=1→(hd (ts.drop n)).text≠[40]:=by
 by_cases h:a+n<L.length
 ·have h0:=hr.lo;have hlt:(a+n).toNat<L.length:=by omega
  have hq:ts.drop n=L[(a+n).toNat].t0::ts.drop (n+1):=by
   exact m123
  rw [hq];exact hr.names _ (TP hlt)
 ·have hlen:=hr.len;rw [Tz (by omega)];intro h;exact absurd h (by decide)
theorem RQ.at0 {L:List Tok} {a:Int} {ts:Ts} (hr:RQ L a ts) (h:a<L.length):∃x,(Zv L)[a.toNat]?=some (Zro x)∧hd ts=x.t0∧ts≠[]∧1≤x.kind∧x.kind≤4:=by
 have g:=hr.at' 0 (by simpa using h);simpa using g
theorem VW:PCalls (GG w0 nG) 171 VB:=by
 refine pc (tbl:=[]) trivial Tryz.func171 ?_;intro args σ K h
 unfold VB qSp at h
 split at h
 ·rename_i t rows a en dp w pl
  obtain ⟨L,S,rfl,ho,h⟩:=h;split at h
  ·rename_i e
   obtain ⟨n,rfl,hn,h⟩:=h;obtain ⟨r1,r2,r3⟩:=ho.rg;refine ⟨Zb [],1,false,by simp,Ta rfl,?_⟩;(conv=>whnf);refine ZAh (fun hw=>?_) (fun hw=>?_)
   ·obtain ⟨f,rfl,hf,hf0⟩:=ho.w1 hw;(conv=>whnf);exact h _ _ _ _ ho
   ·obtain ⟨d,ts,rfl,hr⟩:=ho.wz (by simpa using hw);(conv=>whnf);refine ZAf (fun hc=>?_) (fun hc=>?_)
    ·have hc:a<L.length:=by have hc:a<((Zv L).length:Int):=hc;rw [ZC] at hc;exact hc
     have hx:(Zv L)[a.toNat]?=some (Zro L[a.toNat]):=by simp [Zv,show a.toNat<L.length by omega]
     conv=>whnf
     refine ⟨_,by omega,hx,?_⟩;(conv=>whnf)
     (repeat (refine ⟨rfl,?_⟩;conv=>whnf))
     exact h _ _ _ _ (ho.fail n hn)
    ·conv=>whnf
     exact h _ _ _ _ (ho.fail n hn)
  ·exact h.elim
 ·exact h.elim
theorem VX:PCalls (GG w0 nG) 234 VC:=by
 refine pc (tbl:=[]) trivial Tryz.func234 ?_;intro args σ K h
 unfold VC qSp at h
 split at h
 ·rename_i rest t rows a en dp w pl
  obtain ⟨L,S,rfl,ho,h⟩:=h;split at h
  ·obtain ⟨r1,r2,r3⟩:=ho.rg;refine ⟨Zb [],1,false,by simp,Ta rfl,?_⟩;(conv=>whnf);refine ZAf (fun hc=>?_) (fun hc=>?_)
   ·have hc:a<L.length:=by have hc:a<((Zv L).length:Int):=hc;rw [ZC] at hc;exact hc
    have hx:(Zv L)[a.toNat]?=some (Zro L[a.toNat]):=by simp [Zv,show a.toNat<L.length by omega]
    conv=>whnf
    refine ⟨_,by omega,hx,?_⟩;(conv=>whnf);exact h _ _ _ _ _ ho
   ·conv=>whnf
    exact h _ _ _ _ _ ho
  ·exact h.elim
 ·exact h.elim
theorem Xv:PCalls (GG w0 nG) 170 Xz:=by
 refine pc (tbl:=[]) trivial Tryz.func170 ?_;intro args σ K h
 unfold Xz qSp at h
 split at h
 ·rename_i t rows a en dp w pl
  obtain ⟨L,S,rfl,ho,h⟩:=h;split at h
  ·rename_i m wd
   obtain ⟨n,rfl,hn,h⟩:=h;obtain ⟨r1,r2,r3⟩:=ho.rg;refine ⟨Zb [],1,false,by simp,Ta rfl,?_⟩;(conv=>whnf);refine oiO ?_;(conv=>whnf);refine ZAh (fun hw=>?_) (fun hw=>?_)
   ·exact m154
   ·obtain ⟨d,ts,rfl,hr,hdp,hd2⟩:=ho.wz (by simpa using hw);have hlen:=hr.len;(conv=>whnf);refine ZAf (fun hc=>?_) (fun hc=>?_)
    ·have hc:(L.length:Int)≤a+n:=by have hc:a+n≥((Zv L).length:Int):=hc;rw [ZC] at hc;exact hc
     conv=>whnf
     exact h _ (by rw [YT,Tz (by omega)];rfl) _ _ _ _ ho
    ·have hc:¬(L.length:Int)≤a+n:=by have hc:¬a+n≥((Zv L).length:Int):=hc;rw [ZC] at hc;exact hc
     obtain ⟨x,hx,hd0,hne,hkk⟩:=hr.at' n (by omega);have hv:YT n wd (.ok d ts)=((decide (x.kind=1) || decide (x.kind=4)) && (x.text == wd)):=by
      simp only [YT,isW,hd0,Sj,Sp,T4];rfl
     conv=>whnf
     refine ⟨_,by omega,hx,?_⟩;(conv=>whnf);refine ZAf (fun h1=>?_) (fun h1=>?_)
     ·conv=>whnf
      refine ZAf (fun h2=>?_) (fun h2=>?_)
      ·have h2:x.kind=1:=by have h2:(x.kind:Int)=1:=h2;omega
       conv=>whnf
       exact h _ (by rw [hv,h1,h2];simp) _ _ _ _ ho
      ·have h2:¬x.kind=1:=by have h2:¬(x.kind:Int)=1:=h2;omega
       conv=>whnf
       exact h _ (by rw [hv,h1];simp [h2];omega) _ _ _ _ ho
     ·have h1:(x.text == wd)=false:=by simpa using h1
      conv=>whnf
      exact h _ (by rw [hv,h1,Bool.and_false]) _ _ _ _ ho
  ·exact h.elim
 ·exact h.elim
end Go.PM.Lex
end

section
namespace Go.PM.Lex
open Go.Proofs
variable {w0:World} {nG:Nat}
theorem Zfp:PCalls (GG w0 nG) 292 Xk:=by
 refine pc (tbl:=[]) trivial Tryz.func292 ?_;exact m83
noncomputable def Zqm:Tbl:=[(164,U5)]
theorem Zcc:PCalls (GG w0 nG) 237 Je:=by
 refine pc (tbl:=Zqm) ⟨⟨ZeN,U6⟩,trivial⟩ Tryz.func237 ?_;intro args σ K h
 unfold Je qSp at h
 split at h
 ·rename_i t rows a en dp w pl
  obtain ⟨L,S,rfl,ho,h⟩:=h;split at h
  ·obtain ⟨rfl,h⟩:=h;obtain ⟨r1,r2,r3⟩:=ho.rg;refine ⟨Zb [],1,false,by simp,Ta rfl,?_⟩;(conv=>whnf);refine oiO ?_;rw [Int.add_zero];(conv=>whnf);refine ZAf (fun hw=>?_) (fun hw=>?_)
   ·obtain ⟨d,ts,rfl,hr,hdp,hd2⟩:=ho.wz hw;have hlen:=hr.len;(conv=>whnf);refine ZAf (fun hc=>?_) (fun hc=>?_)
    ·have hc:a<L.length:=by have hc:a<((Zv L).length:Int):=hc;rw [ZC] at hc;exact hc
     obtain ⟨x,hx,hd0,hne,hkk⟩:=hr.at0 hc;have hv:ZgO (.ok d ts)=(decide (x.kind=1) && (!decide (x.text=[95]) && !Zcm x.text)):=by
      rw [ZgO,Zn,hd0];rfl
     conv=>whnf
     refine ⟨_,by omega,hx,?_⟩;(conv=>whnf);refine ZAf (fun h1=>?_) (fun h1=>?_)
     ·have h1:x.kind=1:=by have h1:(x.kind:Int)=1:=h1;omega
      conv=>whnf
      refine ⟨_,by omega,hx,?_⟩;(conv=>whnf);refine ZAh (fun h2=>?_) (fun h2=>?_)
      ·conv=>whnf
       refine ⟨_,by omega,hx,?_⟩;(conv=>whnf);intro b hb
       cases b
       all_goals
        conv=>whnf
        exact h _ (by rw [hv,h1,hb];simpa using h2) _ _ _ _ ho
      ·have h2:x.text=[95]:=by simpa using h2
       conv=>whnf
       exact h _ (by rw [hv,h2];simp) _ _ _ _ ho
     ·have h1:¬x.kind=1:=by have h1:¬(x.kind:Int)=1:=h1;omega
      conv=>whnf
      exact h _ (by rw [hv,decide_eq_false h1,Sc]) _ _ _ _ ho
    ·have hc:¬a<L.length:=by have hc:¬a<((Zv L).length:Int):=hc;rw [ZC] at hc;exact hc
     have hn:ts=[]:=TN (by omega);subst hn;(conv=>whnf);exact h _ rfl _ _ _ _ ho
   ·exact m154
  ·exact h.elim
 ·exact h.elim
noncomputable def Zmu:Tbl:=[(170,Xz),(171,VB)]
theorem Zk6:TblOK (GG w0 nG) Zmu:=⟨⟨Xv,ZT⟩,⟨VW,YK⟩,trivial⟩
theorem VY:PCalls (GG w0 nG) 294 VD:=by
 refine ZbE Z8 mixed (tbl:=Zmu) Zk6 Tryz.func294 rfl (by kernel_rfl) (by kernel_rfl) ?_;intro args σ K h
 unfold VD qSp at h
 split at h
 ·rename_i t rows a en dp w pl
  obtain ⟨L,S,rfl,ho,h⟩:=h;split at h
  ·rename_i wd
   refine ⟨Zb [],1,false,by simp,Ta rfl,?_⟩;(conv=>whnf);refine ⟨L,S,rfl,ho,0,rfl,by omega,fun b hb=>?_⟩;intro a1 dp1 w1 pl1 ho1
   cases b with
   | false =>
    conv=>whnf
    refine ⟨L,S,rfl,ho1,150,rfl,by omega,?_⟩;intro a2 dp2 w2 pl2 ho2
    conv=>whnf
    refine h _ ?_ _ _ _ _ ho2
    cases S with
    | ok d ts=>have hb:isW ts [wd]=false:=hb;simp [Ye,Zk5,hb]
    | bad e=>rfl
   | true =>
    cases S with
    | bad e=>cases hb
    | ok d ts =>
     have hb:isW ts [wd]=true:=hb;obtain ⟨rfl,hr,rfl,hd2⟩:=ho1;have hn:=hr.tlq (ZN hb);have q1:=hn.lo;have q2:=hn.hi;have q3:=hn.big;(conv=>whnf);refine oiO ?_;(conv=>whnf);exact h _ (by simp [Ye,hb]) _ _ _ _ (SOK.mk hn rfl hd2)
  ·exact h.elim
 ·exact h.elim
noncomputable def Zmv:Tbl:=[(170,Xz),(171,VB),(294,VD)]
theorem Zk7:TblOK (GG w0 nG) Zmv:=⟨⟨Xv,ZT⟩,⟨VW,YK⟩,⟨VY,YM⟩,trivial⟩
theorem Zan:PCalls (GG w0 nG) 236 Jf:=by
 refine ZbE Z8 mixed (tbl:=Zmv) Zk7 Tryz.func236 rfl (by kernel_rfl) (by kernel_rfl) ?_;intro args σ K h
 unfold Jf qSp at h
 split at h
 ·rename_i t rows a en dp w pl
  obtain ⟨L,S,rfl,ho,h⟩:=h;split at h
  ·rename_i wd
   refine ⟨Zb [],1,false,by simp,Ta rfl,?_⟩;(conv=>whnf);refine ⟨L,S,rfl,ho,0,rfl,by omega,fun b hb=>?_⟩;intro a1 dp1 w1 pl1 ho1
   cases b with
   | true =>
    cases S with
    | bad e=>cases hb
    | ok d ts =>
     have hb2:isW ts [wd]=true:=hb;obtain ⟨rfl,hr,rfl,hd2⟩:=ho1;(conv=>whnf);refine ZAf (fun hc=>?_) (fun hc=>?_)
     ·have hc:d=0:=by have hc:(64:Int) - d=64:=hc;omega
      subst hc;(conv=>whnf);refine ⟨L,_,rfl,(SOK.mk hr rfl hd2),151,rfl,by omega,?_⟩;intro a2 dp2 w2 pl2 ho2
      conv=>whnf
      exact h _ (by rw [Wp,Tf hb2,Tf rfl];rfl) _ _ _ _ ho2
     ·have hc:¬d=0:=by have hc:¬(64:Int) - d=64:=hc;omega
      conv=>whnf
      refine ⟨L,_,rfl,(SOK.mk hr rfl hd2),fun S' hS'=>?_⟩;intro a2 dp2 w2 pl2 ho2
      have hS':SS.ok d ts.tail=S':=by rw [← hS',Ye,Tf hb2]
      subst hS';obtain ⟨rfl,hr2,rfl,hd3⟩:=ho2;(conv=>whnf);refine oiO ?_;(conv=>whnf);exact h _ (by rw [Wp,Tf hb2,Tc hc]) _ _ _ _ (SOK.mk hr2 (by omega) (by omega))
   | false =>
    conv=>whnf
    refine ⟨L,S,rfl,ho1,fun S' hS'=>?_⟩;intro a2 dp2 w2 pl2 ho2
    obtain ⟨e,rfl,hS2⟩:∃e,S'=.bad e∧Wp wd S=.bad e:=by
     cases S with
     | ok d ts=>have hb:isW ts [wd]=false:=hb;exact ⟨150,by rw [← hS'];simp [Ye,hb],by simp [Wp,hb]⟩
     | bad e=>exact ⟨e,hS'.symm,rfl⟩
    conv=>whnf
    refine Or.inr ?_;(conv=>whnf);exact h _ hS2 _ _ _ _ ho2.stay
  ·exact h.elim
 ·exact h.elim
noncomputable def Zsl:Tbl:=[(294,VD)]
theorem Zcd:PCalls (GG w0 nG) 290 JY:=by
 refine pc (tbl:=Zsl) ⟨⟨VY,YM⟩,trivial⟩ Tryz.func290 ?_;intro args σ K h
 unfold JY qSp at h
 split at h
 ·rename_i t rows a en dp w pl
  obtain ⟨L,S,rfl,ho,h⟩:=h;split at h
  ·rename_i wd
   obtain ⟨hd64,h⟩:=h;refine ⟨Zb [],1,false,by simp,Ta rfl,?_⟩;(conv=>whnf);refine ⟨L,S,rfl,ho,fun S' hS'=>?_⟩;intro a2 dp2 w2 pl2 ho2
   cases S' with
   | ok d2 ts2 =>
    obtain ⟨rfl,hr2,rfl,hd3⟩:=ho2;obtain ⟨hlt,hS2⟩:d2<64∧Zcb wd S=.ok (d2+1) ts2:=by
     cases S with
     | ok d ts =>
      have h64:=hd64 _ _ rfl
      by_cases hb:isW ts [wd]=true
      ·rw [Ye,Tf hb] at hS'
       cases hS'
       exact ⟨h64,by rw [Zcb,Tf hb]⟩
      ·rw [Ye,Tc hb] at hS'
       cases hS'
     | bad e=>cases hS'
    conv=>whnf
    refine oiO ?_;(conv=>whnf);exact h _ hS2 _ _ _ _ (SOK.mk hr2 (by omega) (by omega))
   | bad e =>
    have hS2:Zcb wd S=.bad e:=by
     cases S with
     | ok d ts =>
      by_cases hb:isW ts [wd]=true
      ·rw [Ye,Tf hb] at hS'
       cases hS'
      ·rw [Ye,Tc hb] at hS';rw [Zcb,Tc hb];exact hS'
     | bad f=>exact hS'
    conv=>whnf
    refine Or.inr ?_;(conv=>whnf);exact h _ hS2 _ _ _ _ ho2.stay
  ·exact h.elim
 ·exact h.elim
noncomputable def Zsm:Tbl:=[(237,Je),(171,VB)]
theorem VZ:PCalls (GG w0 nG) 243 VE:=by
 refine pc (tbl:=Zsm) ⟨⟨Zcc,Vh⟩,⟨VW,YK⟩,trivial⟩ Tryz.func243 ?_;intro args σ K h
 unfold VE qSp at h
 split at h
 ·rename_i rest t rows a en dp w pl
  obtain ⟨L,S,rfl,ho,h⟩:=h;split at h
  ·refine ⟨Zb [],1,false,by simp,Ta rfl,?_⟩;(conv=>whnf);refine ⟨L,S,rfl,ho,rfl,fun b hb=>?_⟩;intro a1 dp1 w1 pl1 ho1
   cases b with
   | false =>
    conv=>whnf
    refine ⟨L,S,rfl,ho1,150,rfl,by omega,?_⟩;intro a2 dp2 w2 pl2 ho2
    conv=>whnf
    refine h _ _ ?_ _ _ _ _ ho2
    cases S with
    | ok d ts=>have hb:Zn ts=false:=hb;simp [YU,Zk5,hb]
    | bad e=>rfl
   | true =>
    cases S with
    | bad e=>cases hb
    | ok d ts =>
     have hb:Zn ts=true:=hb;obtain ⟨rfl,hr,rfl,hd2⟩:=ho1;have hn:=hr.tlq (ZbV hb);have q1:=hn.lo;have q2:=hn.hi;have q3:=hn.big;have q4:=hr.lo;obtain ⟨x,hx,hd0,hne,hkk⟩:=hr.at0 (by omega);(conv=>whnf);refine oiO ?_;(conv=>whnf);refine oiO ?_;rw [show a1+1 - 1=a1 by omega];(conv=>whnf);refine ⟨_,by omega,hx,?_⟩;(conv=>whnf);exact h _ _ (by simp [YU,hb]) _ _ _ _ (SOK.mk hn rfl hd2)
  ·exact h.elim
 ·exact h.elim
noncomputable def Zsn:Tbl:=[(171,VB)]
theorem Zd3:PCalls (GG w0 nG) 238 Zbi:=by
 refine pc (tbl:=Zsn) ⟨⟨VW,YK⟩,trivial⟩ Tryz.func238 ?_;intro args σ K h
 unfold Zbi qSp at h
 split at h
 ·rename_i t rows a en dp w pl
  obtain ⟨L,S,rfl,ho,h⟩:=h;split at h
  ·rename_i n m
   refine ⟨Zb [],1,false,by simp,Ta rfl,?_⟩;(conv=>whnf);refine ZAf (fun hc=>?_) (fun hc=>?_)
   ·conv=>whnf
    refine ⟨L,S,rfl,ho,3,rfl,by omega,?_⟩;intro a2 dp2 w2 pl2 ho2
    conv=>whnf
    exact h _ (by rw [Wq,Tf hc]) _ _ _ _ ho2
   ·conv=>whnf
    exact h _ (by rw [Wq,Tc hc]) _ _ _ _ ho
  ·exact h.elim
 ·exact h.elim
end Go.PM.Lex
end

section
namespace Go.PM.Lex
open Go.Proofs
variable {w0:World} {nG:Nat}
def V0 {α:Type} (d:Nat):R α→SS
 | .ok _ ts=>.ok d ts
 | .err _ e=>.bad e
theorem Zh {α:Type} (P:Nat→Ts→R α) (d:Nat) (ts:Ts):ZF P (.ok d ts)=V0 d (P d ts):=by
 show (match P d ts with | .ok _ ts'=>SS.ok d ts' | .err _ e=>.bad e)=_;cases P d ts <;> rfl
def upS:SS→SS
 | .ok d ts=>.ok (d+1) ts
 | .bad e=>.bad e
theorem UI {α:Type} (rd:Nat→Ts→R α) (fr tt:Bs) (htt:tt≠[]) (S:SS):ZF (fun d=>Zq d fr tt (rd d)) S=Zcb tt (ZF (fun d=>rd (d+1)) (Wp fr S)):=by
 cases S with
 | bad e=>rfl
 | ok d ts =>
  rw [Zh,Zq,Wp]
  by_cases h1:isW ts [fr]=true
  ·rw [Tf h1,Tf h1]
   by_cases h2:d=0
   ·rw [Tf h2,Tf h2];rfl
   ·rw [Tc h2,Tc h2,Zh,show d - 1+1=d by omega]
    cases hx:rd d ts.tail with
    | err r e=>rfl
    | ok v ts2 =>
     rw [R.bind_ok,Tc htt];simp only [V0,Zcb,ZO]
     by_cases h3:isW ts2 [tt]=true
     ·rw [Tf h3,Tf h3,R.bind_ok,show d - 1+1=d by omega]
     ·rw [Tc h3,Tc h3,R.bind_err]
  ·rw [Tc h1,Tc h1];rfl
theorem V3 (S:SS):ZF (fun _=>Z1) S=YU S:=by
 cases S with
 | bad e=>rfl
 | ok d ts =>
  rw [Zh,Z1,YU]
  by_cases h:Zn ts=true
  ·rw [Tf h,Tf h];rfl
  ·rw [Tc h,Tc h];rfl
def ZnM (tt:Bs) (d:Nat) (ts:Ts):R (List Ex):=if isW ts [tt]=true then .ok [] ts else YE [44] 12 Zx (ZW d) ts
theorem Zso (fr tt:Bs) (htt:tt≠[]) (S:SS):ZF (fun d=>XY d (Yi d) fr tt) S=Zcb tt (ZF (ZnM tt) (Wp fr S)) :=
 UI (fun d ts=>if isW ts [tt]=true then .ok [] ts else YE [44] 12 Zx (Yi d) ts) fr tt htt S
theorem Zmw (w:Bs) (S:SS) (h:YT 0 w S=true) (hw:w=[45]∨w=[126]):ZF Zp S=upS (ZF Zp (Wp w S)):=by
 cases S with
 | bad e=>cases h
 | ok d ts =>
  have h:isW ts [w]=true:=h;have key:∀op:Nat,V0 d ((Zq d w [] (ZcM d) ts).bind fun e ts'=>R.ok (Ex.mk op [] 0 [e] ts.length) ts')=upS (ZF Zp (Wp w (.ok d ts))):=fun op=>by
   rw [Zq,Wp,Tf h,Tf h]
   by_cases h2:d=0
   ·rw [Tf h2,Tf h2];rfl
   ·rw [Tc h2,Tc h2,Zh];obtain ⟨d,rfl⟩:∃g,d=g+1:=⟨d - 1,by omega⟩
    rw [ZcM,Nat.add_sub_cancel]
    cases Zp d ts.tail with
    | err r e=>rfl
    | ok v ts2=>rw [R.bind_ok,Tf rfl,R.bind_ok];rfl
  rw [Zh,Zak,V4];rcases hw with rfl | rfl
  ·rw [Tf h];exact key 8
  ·have h1:¬isW ts [[45]]=true:=fun g=>by
    simp only [isW,Sj,Sp,T4,Tl,beq_iff_eq] at g h;rw [g.2] at h;exact absurd h.2 (by decide)
   rw [Tc h1,Tf h];exact key 9
theorem Zsp (S:SS) (h1:YT 0 [45] S=false) (h2:YT 0 [126] S=false):ZF Zp S=ZF (fun d=>Yr d (Yi d)) S:=by
 cases S with
 | bad e=>rfl
 | ok d ts =>
  have h1:isW ts [[45]]=false:=h1;have h2:isW ts [[126]]=false:=h2;rw [Zh,Zh,Zak,V4,Tc (by rw [h1];simp),Tc (by rw [h2];simp),ZlQ]
def Zq5 (sub:Ts→R Ex) (ln:Nat):Nat→Ex→Ts→R Ex
 | 0,_,_=>.err 0 150
 | f+1,e,ts=>if (Wu ts).1=ln then (sub ts.tail).bind fun g ts'=>Zq5 sub ln f (.mk (Wu ts).2 [] 0 [e,g] e.at') ts' else .ok e ts
def dsK (sg:Ts→R Ex):Nat→Ts→R Ex
 | 0,ts=>sg ts
 | k+1,ts=>(dsK sg k ts).bind fun e ts'=>Zq5 (dsK sg k) (5 - k) (ts'.length+1) e ts'
noncomputable def ZnN:Tbl:=[(164,U5),(292,Xk)]
theorem Zc0:PCalls (GG w0 nG) 289 UH:=by
 refine pc (tbl:=ZnN) ⟨⟨ZeN,U6⟩,⟨Zfp,XE⟩,trivial⟩ Tryz.func289 ?_;intro args σ K h
 unfold UH qSp at h
 split at h
 ·rename_i rest t rows a en dp w pl
  obtain ⟨L,S,rfl,ho,h⟩:=h;split at h
  ·obtain ⟨r1,r2,r3⟩:=ho.rg;refine ⟨Zb [],1,false,by simp,Ta rfl,?_⟩;(conv=>whnf);refine ZAh (fun hw=>?_) (fun hw=>?_)
   ·exact m154
   obtain ⟨d,ts,rfl,hr,hdp,hd2⟩:=ho.wz (by simpa using hw);have hlen:=hr.len;(conv=>whnf);refine ZAf (fun hc=>?_) (fun hc=>?_)
   ·have hc:(L.length:Int)≤a:=by have hc:a≥((Zv L).length:Int):=hc;rw [ZC] at hc;exact hc
    have hn:ts=[]:=TN (by omega);subst hn;(conv=>whnf);exact h _ rfl _ _ _ _ ho
   have hc:a<L.length:=by have hc:¬a≥((Zv L).length:Int):=hc;rw [ZC] at hc;omega
   obtain ⟨x,hx,hd0,hne,hkk⟩:=hr.at0 hc;have hv:ZhI (.ok d ts)=Zx ts:=rfl;rw [Zx,hd0] at hv;have hv:ZhI (.ok d ts)=if x.kind=2∨x.kind=3 then true else if x.kind=4 then isW ts [[45],[126],[40],[91],[36]] else if x.kind=1 then !Zcm x.text || (decide (x.text=[110,105,108]) || decide (ZU x.text≠0)) else false:=hv
   conv=>whnf
   refine ⟨_,by omega,hx,?_⟩;(conv=>whnf)
   (repeat (refine ⟨rfl,?_⟩;conv=>whnf))
   refine ZAf (fun h1=>?_) (fun h1=>?_)
   ·have h1:x.kind=2:=by have h1:(x.kind:Int)=2:=h1;omega
    conv=>whnf
    refine ZAf (fun _=>?_) (fun g=>absurd (by rw [h1];rfl) g);(conv=>whnf);exact h _ (by rw [hv,Tf (Or.inl h1)]) _ _ _ _ ho
   have h1:¬x.kind=2:=by have h1:¬(x.kind:Int)=2:=h1;omega
   conv=>whnf
   refine ZAf (fun h2=>?_) (fun h2=>?_)
   ·have h2:x.kind=3:=by have h2:(x.kind:Int)=3:=h2;omega
    conv=>whnf
    exact h _ (by rw [hv,Tf (Or.inr h2)]) _ _ _ _ ho
   have h2:¬x.kind=3:=by have h2:¬(x.kind:Int)=3:=h2;omega
   rw [Tc (by omega)] at hv;(conv=>whnf);refine ZAf (fun h3=>?_) (fun h3=>?_)
   ·have h3:x.kind=4:=by have h3:(x.kind:Int)=4:=h3;omega
    have hw5:isW ts [[45],[126],[40],[91],[36]]=[[45],[126],[40],[91],[36]].contains x.text:=by
     rw [isW,hd0];simp [Tok.t0,h3]
    rw [Tf h3,hw5] at hv;(conv=>whnf);refine ZAf (fun hq=>?_) (fun hq=>?_)
    ·exact m63
    have hq0:¬x.text=[45]:=hq;(conv=>whnf);refine ZAf (fun hq=>?_) (fun hq=>?_)
    ·exact m63
    have hq1:¬x.text=[126]:=hq;(conv=>whnf);refine ZAf (fun hq=>?_) (fun hq=>?_)
    ·exact m63
    have hq2:¬x.text=[40]:=hq;(conv=>whnf);refine ZAf (fun hq=>?_) (fun hq=>?_)
    ·exact m63
    have hq3:¬x.text=[91]:=hq;(conv=>whnf);exact h _ (by rw [hv,Bool.eq_iff_iff,TG,List.contains_iff_mem];simp only [Tt,Sn,or_false,hq0,hq1,hq2,hq3,false_or]) _ _ _ _ ho
   have h3:¬x.kind=4:=by have h3:¬(x.kind:Int)=4:=h3;omega
   rw [Tc h3,Tf (by omega)] at hv;(conv=>whnf);intro b hb
   rw [hb] at hv
   cases b with
   | false =>
    conv=>whnf
    exact h _ hv _ _ _ _ ho
   | true =>
    conv=>whnf
    refine ZAf (fun h5=>?_) (fun h5=>?_)
    ·conv=>whnf
     exact h _ (by rw [hv,TC (p:=x.text=[110,105,108]) h5];rfl) _ _ _ _ ho
    ·conv=>whnf
     intro n hn
     conv=>whnf
     exact h _ (by rw [hv,decide_eq_false (p:=x.text=[110,105,108]) h5,← hn];by_cases g:ZU x.text=0 <;> simp [g]) _ _ _ _ ho
  ·exact h.elim
 ·exact h.elim
def Zbp (l:Nat):List Bs:=if l=0 then [[98,111,114],[98,120,111,114]] else if l=1 then [[98,97,110,100]] else if l=2 then [[115,104,108],[115,104,114]] else if l=3 then [[43],[45]] else [[42],[47],[37]]
def Zz9 (l:Nat):List Nat:=if l=0 then [16,17] else if l=1 then [15] else if l=2 then [18,19] else if l=3 then [10,11] else [12,13,14]
def Zzb (o:Nat):List D:=[.int .u8 o]
def Zjq:Zr:=fun args σ K=>match args,σ with
 | [.d (.int .i64 i)],⟨[],[],0⟩=>∃n:Nat,i=n∧n≤4∧K (.ret (.tuple [.d (.sl ((Zbp n).map X1)),.d (.sl ((Zz9 n).map Zzb))])) ⟨[],[],0⟩
 | _,_=>False
theorem Zk8:Za Zjq:=fun args σ K K' hK h=>by
 unfold Zjq at h ⊢
 split at h
 ·obtain ⟨n,h1,h2,h3⟩:=h;exact ⟨n,h1,h2,hK _ _ h3⟩
 ·exact h.elim
theorem ZvC:PCalls (GG w0 nG) 169 Zjq:=by
 refine Zez Z8 mixed (tbl:=[]) trivial Tryz.func169 rfl (by kernel_rfl) (by kernel_rfl) ?_;intro args σ K h
 unfold Zjq at h
 split at h
 ·rename_i i
  obtain ⟨n,rfl,hn,h⟩:=h;refine ⟨Zb [],W4 [],Yu [],Yu [],Yu [],0,true,by simp,Ta rfl,?_⟩;have hcs:n=0∨n=1∨n=2∨n=3∨n=4:=by omega
  rcases hcs with rfl | rfl | rfl | rfl | rfl
  all_goals
   conv=>whnf
   exact h
 ·exact h.elim
end Go.PM.Lex
end

section
namespace Go.PM.Lex
theorem ZdB {sub sub':Nat→Ts→R Ex} {least:Nat} (h:∀q,least<q→q≤6→sub q=sub' q):∀f e ts,Vb sub least f e ts=Vb sub' least f e ts
 | 0,_,_=>rfl
 | f+1,e,ts=>by
  rw [WV,WV]
  by_cases hc:(Wu ts).1<least∨(Wu ts).1=0
  ·rw [Tf hc,Tf hc]
  ·rw [Tc hc,Tc hc,h _ (by omega) (by have:=(ZkO ts).1;omega)]
   cases sub' ((Wu ts).1+1) ts.tail with
   | err r e=>rfl
   | ok g ts'=>exact ZdB h f _ _
theorem Zjr (sg:Ts→R Ex):∀m least j j',6 - least≤m→6≤least+j→6≤least+j'→Vc sg j least=Vc sg j' least
 | 0,least,j,j',hm,h1,h2=>by
  funext ts
  rw [Ws _ _ _ _ h1,Ws _ _ _ _ h2]
  cases sg ts with
  | err r e=>rfl
  | ok e ts1=>rw [R.bind_ok,R.bind_ok,Zal (by omega),Zal (by omega)]
 | m+1,least,j,j',hm,h1,h2=>by
  funext ts
  rw [Ws _ _ _ _ h1,Ws _ _ _ _ h2]
  cases sg ts with
  | err r e=>rfl
  | ok e ts1 =>
   rw [R.bind_ok,R.bind_ok];exact ZdB (fun q hq _=>Zjr sg m q _ _ (by omega) (by omega) (by omega)) _ _ _
theorem Zfq {sub:Nat→Ts→R Ex} {least:Nat}:∀f e ts v ts',Vb sub least f e ts=.ok v ts'→(Wu ts').1<least∨(Wu ts').1=0
 | 0,_,_,_,_,h=>by cases h
 | f+1,e,ts,v,ts',h=>by
  rw [WV] at h
  by_cases hc:(Wu ts).1<least∨(Wu ts).1=0
  ·rw [Tf hc] at h;cases h;exact hc
  ·rw [Tc hc] at h
   cases hx:sub ((Wu ts).1+1) ts.tail with
   | err r e=>rw [hx] at h;cases h
   | ok g ts1=>rw [hx,R.bind_ok] at h;exact Zfq f _ _ _ _ h
theorem ZnO {sg:Ts→R Ex} {j least:Nat} {ts ts':Ts} {v:Ex} (h6:6≤least+j) (h:Vc sg j least ts=.ok v ts'):(Wu ts').1<least∨(Wu ts').1=0:=by
 rw [Ws _ _ _ _ h6] at h
 cases hx:sg ts with
 | err r e=>rw [hx] at h;cases h
 | ok e ts1=>rw [hx,R.bind_ok] at h;exact Zfq _ _ _ _ _ h
theorem Zc1 (sub:Ts→R Ex) (ln f:Nat) (e:Ex) (ts:Ts):Zq5 sub ln (f+1) e ts=if (Wu ts).1=ln then (sub ts.tail).bind fun g ts'=>Zq5 sub ln f (.mk (Wu ts).2 [] 0 [e,g] e.at') ts' else .ok e ts:=rfl
theorem Xw {ts:Ts} (h:(Wu ts).1≠0):ts.tail.length+1=ts.length:=by
 cases ts with
 | nil=>exact absurd rfl (ZpB h)
 | cons t ts=>rfl
theorem Zjs {sub:Ts→R Ex} (hf:Zjk sub) {ln:Nat} (h0:ln≠0):∀n f f' e ts,ts.length≤n→ts.length<f→ts.length<f'→Zq5 sub ln f e ts=Zq5 sub ln f' e ts
 | n,0,_,_,_,_,h1,_=>by omega
 | n,_,0,_,_,_,_,h2=>by omega
 | n,f+1,f'+1,e,ts,hn,h1,h2=>by
  rw [Zc1,Zc1]
  by_cases hc:(Wu ts).1=ln
  ·rw [Tf hc,Tf hc];have ht:=Xw (ts:=ts) (by omega)
   cases hx:sub ts.tail with
   | err r e=>rfl
   | ok g ts1 =>
    have hq:=hf _ _ _ hx;dsimp only at hq;rw [R.bind_ok,R.bind_ok];exact Zjs hf h0 (n - 1) f f' _ _ (by omega) (by omega) (by omega)
  ·rw [Tc hc,Tc hc]
theorem Zc2 {sub:Nat→Ts→R Ex} (hf:∀q,Zjk (sub q)) {least:Nat} (h0:1≤least) (hs:∀ts v ts',sub (least+1) ts=.ok v ts'→(Wu ts').1<least+1∨(Wu ts').1=0) :
  ∀n f f' e ts,ts.length≤n→ts.length<f→ts.length<f'→Vb sub least f e ts=(Vb sub (least+1) f' e ts).bind fun e' ts'=>Zq5 (sub (least+1)) least (ts'.length+1) e' ts'
 | n,0,_,_,_,_,h1,_=>by omega
 | n,_,0,_,_,_,_,h2=>by omega
 | n,f+1,f'+1,e,ts,hn,h1,h2=>by
  rw [WV,WV]
  by_cases hc:(Wu ts).1<least∨(Wu ts).1=0
  ·rw [Tf hc,Tf (by omega),R.bind_ok,Zc1,Tc (by omega)]
  ·rw [Tc hc];have ht:=Xw (ts:=ts) (by omega)
   by_cases hc2:(Wu ts).1=least
   ·rw [Tf (by omega),R.bind_ok,Zc1,Tf hc2,hc2]
    cases hx:sub (least+1) ts.tail with
    | err r e=>rfl
    | ok g ts1 =>
     have hq:=hf _ _ _ _ hx;dsimp only at hq;have hst:=hs _ _ _ hx;rw [R.bind_ok,R.bind_ok,Zc2 hf h0 hs (n - 1) f (f'+1) _ ts1 (by omega) (by omega) (by omega),WV,Tf hst,R.bind_ok];exact Zjs (hf _) (by omega) n _ _ _ _ (by omega) (by omega) (by omega)
   ·rw [Tc (by omega)]
    cases hx:sub ((Wu ts).1+1) ts.tail with
    | err r e=>rfl
    | ok g ts1 =>
     have hq:=hf _ _ _ _ hx;dsimp only at hq;rw [R.bind_ok,R.bind_ok];exact Zc2 hf h0 hs (n - 1) f f' _ ts1 (by omega) (by omega) (by omega)
theorem ZhJ {sg:Ts→R Ex} (hsg:Zjk sg):∀k,k≤5→dsK sg k=Vc sg 6 (6 - k)
 | 0,_=>by
  funext ts
  rw [Ws _ _ _ _ (by omega)];show sg ts=_
  cases sg ts with
  | err r e=>rfl
  | ok e ts1=>rw [R.bind_ok,Zal (by omega)]
 | k+1,hk=>by
  funext ts
  have ih:=ZhJ hsg k (by omega);show (dsK sg k ts).bind (fun e ts'=>Zq5 (dsK sg k) (5 - k) (ts'.length+1) e ts')=_;rw [ih,show 6 - (k+1)=5 - k by omega,show 6 - k=(5 - k)+1 by omega,Ws sg 6 (5 - k) ts (by omega),Ws sg 6 (5 - k+1) ts (by omega)]
  cases hx:sg ts with
  | err r e=>rfl
  | ok e ts1 =>
   rw [R.bind_ok,R.bind_ok];have hI:Vc sg 6 (5 - k+1)=Vc sg (6 - 1) (5 - k+1):=Zjr sg 6 _ _ _ (by omega) (by omega) (by omega);rw [hI];exact (Zc2 (sub:=Vc sg (6 - 1)) (least:=5 - k) (fun q=>JW hsg _ _) (by omega) (fun ts v ts' h=>ZnO (by omega) h) ts1.length _ _ _ _ (Tq _) (by omega) (by omega)).symm
theorem Zbj (d:Nat):dsK (Zp d) 5=ZW d:=ZhJ (UE d) 5 (by omega)
theorem ZtM (d k:Nat) (hk:k≤5):Zjk (dsK (Zp d) k):=by rw [ZhJ (UE d) k hk];exact JW (UE d) _ _
theorem ZdC {d:Nat} {ts:Ts} (h:Zx ts=false):∃r e,ZW d ts=.err r e:=by
 have h4:∀w,w∈[[45],[126]]→isW ts [w]=false:=by
  intro w hw
  rw [Bool.eq_false_iff];intro g
  simp only [isW,Sj,Sp,T4,Tl,T9,TG,beq_iff_eq] at g;obtain ⟨hk,ht⟩:=g;have hw:w=[45]∨w=[126]:=by simpa using hw
  unfold Zx at h
  rcases hk with hk | hk
  ·rw [Tc (by omega),Tc (by omega),Tf hk,ht] at h;rcases hw with rfl | rfl <;> revert h <;> decide
  ·rw [Tc (by omega),Tf hk,isW,hk,ht] at h;rcases hw with rfl | rfl <;> revert h <;> decide
 refine ⟨ts.length,150,?_⟩;show Vc (Zp d) 6 1 ts=_;rw [Ws _ _ _ _ (by omega),Zak,V4,Tc (by rw [h4 _ (by simp)];simp),Tc (by rw [h4 _ (by simp)];simp),Yr,Tf h];rfl
end Go.PM.Lex
end

section
namespace Go.PM.Lex
open Go.Proofs
variable {w0:World} {nG:Nat}
abbrev ZxB (o:Int) (s:Bs) (n:Int) (rows:List (List D)) (p:Int):PV:=.agg [.d (.int .u8 o),.d (.str s),.d (.int .i64 n),.d (.sl rows),.d (.int .i64 p)]
def dLt (n:Nat) (S:SS):Prop:=∀d ts,S=.ok d ts→d<n
def Ud (n l:Nat):Zr:=qSp fun rest S K=>match rest with
 | [.d (.int .i64 i)]=>∃j:Nat,i=j∧j≤5∧(∀d ts,S=.ok d ts→d<n∨(d=n∧l≤j))∧∀S',ZF (fun d=>dsK (Zp d) (5 - j)) S=S'→∀o s m rows p,K (ZxB o s m rows p) S'
 | _=>False
theorem XX (n l:Nat):Za (Ud n l):=ZI fun rest S K K' hK h=>by
 split at h
 ·obtain ⟨j,h1,h2,h3,h4⟩:=h;exact ⟨j,h1,h2,h3,fun S' hS o s m rows p=>hK _ _ (h4 S' hS o s m rows p)⟩
 ·exact h.elim
def JZ (P:Nat→Ts→R Ex) (n:Nat):Zr:=qSp fun rest S K=>match rest with
 | []=>dLt (n+1) S∧∀S',ZF P S=S'→∀o s m rows p,K (ZxB o s m rows p) S'
 | _=>False
theorem ZdD (P:Nat→Ts→R Ex) (n:Nat):Za (JZ P n):=ZI fun rest S K K' hK h=>by
 split at h
 ·exact ⟨h.1,fun S' hS o s m rows p=>hK _ _ (h.2 S' hS o s m rows p)⟩
 ·exact h.elim
def Jg (n:Nat):Zr:=qSp fun rest S K=>match rest with
 | [.d (.str fr),.d (.str tt),.d (.bool b)]=>(b=true∧tt≠[]∧dLt (n+1) S)∧∀S',ZF (fun d=>XY d (Yi d) fr tt) S=S'→∀rows,K (.d (.sl rows)) S'
 | _=>False
theorem J0 (n:Nat):Za (Jg n):=ZI fun rest S K K' hK h=>by
 exact m139
def ZhK (n:Nat):Zr:=qSp fun rest S K=>match rest with
 | [.agg [.d (.int .u8 op),.d (.str []),.d (.int .i64 m),.nils e,.d (.int .i64 p)]]=>(m=0∧e=24∧dLt (n+1) S)∧∃o:Nat,op=(o:Int)∧∀S',ZF (fun d=>Zq d [40] [41] (X2 (Yi d) (YF o) [])) S=S'→∀o s m rows p,K (ZxB o s m rows p) S'
 | _=>False
theorem Zjt (n:Nat):Za (ZhK n):=ZI fun rest S K K' hK h=>by
 split at h
 ·obtain ⟨h0,o,h1,h2⟩:=h;exact ⟨h0,o,h1,fun S' hS o s m rows p=>hK _ _ (h2 S' hS o s m rows p)⟩
 ·exact h.elim
def LRq (n N:Nat) (X:SS):SS→Nat→Prop
 | .bad e,k=>X=.bad e∧k≤2000000
 | .ok d ts,k=>d<n∧d<64∧∃f l,X=V0 d (Xe [44] 12 Zx (ZW d) f l ts)∧ts.length<f∧l.length=k∧k≤12∧k+ts.length≤N
def PRq (n N:Nat) (X:SS):SS→Nat→Prop
 | .bad e,k=>X=.bad e∧k≤2000000
 | .ok d ts,k=>d<n∧d<64∧∃f l,X=V0 d ((ZW d ts).bind fun x ts=>if isW ts [[44]]=true then Xe [44] 12 Zx (ZW d) f (l++[x]) ts.tail else .ok (l++[x]) ts)∧ts.length≤f∧l.length=k∧(Zx ts=true→k<12)∧k≤12∧k+ts.length≤N
def ERq (n N:Nat) (X:SS):SS→Nat→Prop
 | .bad e,k=>X=.bad e∧k≤2000001
 | .ok d ts,k=>d<n∧d<64∧∃f l,X=V0 d (if isW ts [[44]]=true then Xe [44] 12 Zx (ZW d) f l ts.tail else .ok l ts)∧ts.length≤f∧l.length=k∧k≤12∧k+ts.length≤N
theorem LRq.room {n N:Nat} {X S:SS} {k:Nat} {b:Bool} (h:LRq n N X S k) (hb:ZhI S=b):PRq n N X (if b=true then Wq k 12 S else S) k:=by
 cases S with
 | bad e=>cases b <;> simp only [if_true,if_false,Tr] <;> first | exact h | (unfold Wq;split <;> exact h)
 | ok d ts =>
  obtain ⟨h1,h2,f,l,h3,h4,h5,h6,h7⟩:=h;obtain ⟨f,rfl⟩:∃g,f=g+1:=⟨f - 1,by omega⟩
  rw [Vy] at h3;have hb:Zx ts=b:=hb
  cases b with
  | false =>
   rw [Tc (by rw [hb];simp)] at h3;exact ⟨h1,h2,f,l,h3,by omega,h5,by rw [hb];simp,h6,h7⟩
  | true =>
   rw [Tf rfl]
   by_cases hk:k=12
   ·rw [Tf ⟨hb,by omega⟩] at h3;rw [Wq,Tf (by omega)];exact ⟨h3,by omega⟩
   ·rw [Tc (fun g=>hk (by omega))] at h3;rw [Wq,Tc (by omega)];exact ⟨h1,h2,f,l,h3,by omega,h5,fun _=>by omega,h6,h7⟩
theorem PRq.expr {n N:Nat} {X S:SS} {k:Nat} (h:PRq n N X S k):ERq n N X (ZF (fun d=>dsK (Zp d) 5) S) (k+1):=by
 cases S with
 | bad e=>exact ⟨h.1,by have:=h.2;omega⟩
 | ok d ts =>
  obtain ⟨h1,h2,f,l,h3,h4,h5,h6,h6b,h7⟩:=h;rw [Zh];show ERq n N X (V0 d (dsK (Zp d) 5 ts)) (k+1);rw [Zbj]
  by_cases hs:Zx ts=true
  ·have h6:=h6 hs
   cases hx:ZW d ts with
   | err r e=>rw [hx,R.bind_err] at h3;exact ⟨h3,by omega⟩
   | ok v ts3 =>
    have hf:=Zd1 d ts v ts3 hx;dsimp only at hf;have hv:1≤szE v:=by cases v;simp [szE]
    rw [hx,R.bind_ok] at h3;exact ⟨h1,h2,f,l++[v],h3,by omega,by simp;omega,by omega,by omega⟩
  ·obtain ⟨r,e,hx⟩:=ZdC (d:=d) (by simpa using hs);rw [hx] at h3 ⊢;exact ⟨h3,by omega⟩
theorem ERq.stop {n N:Nat} {X S:SS} {k:Nat} (h:ERq n N X S k) (hb:YT 0 [44] S=false):X=S:=by
 cases S with
 | bad e=>exact h.1
 | ok d ts =>
  obtain ⟨h1,h2,f,l,h3,_⟩:=h;have hb:isW ts [[44]]=false:=hb;rw [Tc (by rw [hb];simp)] at h3;exact h3
theorem ERq.more {n N:Nat} {X S:SS} {k:Nat} (h:ERq n N X S k) (hb:YT 0 [44] S=true):LRq n N X (Xb S) k:=by
 cases S with
 | bad e=>cases hb
 | ok d ts =>
  obtain ⟨h1,h2,f,l,h3,h4,h5,h6,h7⟩:=h;have hb:isW ts [[44]]=true:=hb;rw [Tf hb] at h3;have hn:ts.tail.length<ts.length:=by
   cases ts with
   | nil=>exact absurd rfl (ZN hb)
   | cons t ts=>simp
  exact ⟨h1,h2,f,l,h3,by omega,h5,by omega,by omega⟩
theorem LRq.tight {n N:Nat} {X:SS} {k d:Nat} {ts:Ts} (h:LRq n N X (.ok d ts) k):LRq n (k+ts.length) X (.ok d ts) k:=by
 obtain ⟨h1,h2,f,l,h3,h4,h5,h6,h7⟩:=h;exact ⟨h1,h2,f,l,h3,h4,h5,h6,Tq _⟩
theorem LRq.wide {n N:Nat} {X:SS} {k d:Nat} {ts:Ts} (h:LRq n N X (.ok d ts) k):k+ts.length≤N:=by
 obtain ⟨h1,h2,f,l,h3,h4,h5,h6,h7⟩:=h;exact h7
theorem LRq.le {n N M:Nat} {X S:SS} {k:Nat} (h:LRq n N X S k) (hn:N≤M):LRq n M X S k:=by
 cases S with
 | bad e=>exact h
 | ok d ts=>obtain ⟨h1,h2,f,l,h3,h4,h5,h6,h7⟩:=h;exact ⟨h1,h2,f,l,h3,h4,h5,h6,by omega⟩
theorem ERq.lt {n N:Nat} {X S:SS} {k:Nat} (h:ERq n N X S k):∀d ts,S=.ok d ts→d<64:=by
 rintro d ts rfl;exact h.2.1
theorem PRq.lt {n N:Nat} {X S:SS} {k:Nat} (h:PRq n N X S k):∀d ts,S=.ok d ts→d<n:=by
 rintro d ts rfl;exact h.1
theorem PRq.k {n N:Nat} {X S:SS} {k:Nat} (h:PRq n N X S k):k≤2000000:=by
 cases S with
 | bad e=>exact h.2
 | ok d ts=>obtain ⟨_,_,f,l,_,_,_,_,h6,h7⟩:=h;omega
theorem ZnP {n:Nat} {L:List Tok} {S S1:SS} {fr tt:Bs} (hS:dLt (n+1) S) (h64:∀d ts,S=.ok d ts→d≤64∧ts.length≤L.length) (h1:Wp fr S=S1) (hb:YT 0 tt S1=false):LRq n L.length (ZF (ZnM tt) S1) S1 0:=by
 cases S with
 | bad e=>subst h1;exact ⟨rfl,by omega⟩
 | ok d ts =>
  have hd:=hS _ _ rfl;obtain ⟨h6,h7⟩:=h64 _ _ rfl;rw [Wp] at h1;split at h1
  ·split at h1
   ·subst h1;exact ⟨rfl,by omega⟩
   ·subst h1;have hb:isW ts.tail [tt]=false:=hb;rw [Zh,ZnM,Tc (by rw [hb];simp)];have:ts.tail.length≤ts.length:=by cases ts <;> simp
    exact ⟨by omega,by omega,ts.tail.length+1,[],rfl,by omega,rfl,by omega,by omega⟩
  ·subst h1;exact ⟨rfl,by omega⟩
theorem ZvD {fr:Bs} {S:SS} {d:Nat} {ts:Ts} {N:Nat} (h:Wp fr S=.ok d ts) (h64:∀d ts,S=.ok d ts→d≤64∧ts.length≤N):d<64:=by
 cases S with
 | bad e=>cases h
 | ok d0 ts0 =>
  have h6:=(h64 _ _ rfl).1;rw [Wp] at h;split at h
  ·split at h
   ·cases h
   ·injection h with h1 h2;omega
  ·cases h
noncomputable def Zsq (n:Nat):Tbl:=[(236,Jf),(170,Xz),(290,JY),(289,UH),(238,Zbi),(103,Ud n 6)]
theorem Zmx {n:Nat} (he:PCalls (GG w0 nG) 103 (Ud n 6)):PCalls (GG w0 nG) 291 (Jg n):=by
 refine pc (tbl:=Zsq n) ⟨⟨Zan,XW⟩,⟨Xv,ZT⟩,⟨Zcd,W0⟩,⟨Zc0,Uc⟩,⟨Zd3,VV⟩,⟨he,XX _ _⟩,trivial⟩ Tryz.func291 ?_;intro args σ K h
 unfold Jg qSp at h
 split at h
 ·rename_i t rows a en dp w pl
  obtain ⟨L,S,rfl,ho,h⟩:=h;split at h
  ·rename_i fr tt bb
   obtain ⟨⟨rfl,htt,hdn⟩,h⟩:=h;have h:=h _ rfl;rw [Zso fr tt htt S] at h;obtain ⟨S1,hS1⟩:∃x,Wp fr S=x:=⟨_,rfl⟩
   have h64:∀d ts,S=.ok d ts→d≤64∧ts.length≤L.length:=by
    rintro d ts rfl
    obtain ⟨q1,q2,q3,q4⟩:=ho;have:=q2.len;have:=q2.lo;exact ⟨q4,by omega⟩
   rw [hS1] at h;obtain ⟨X,hX⟩:∃x,ZF (ZnM tt) S1=x:=⟨_,rfl⟩
   obtain ⟨r1,r2,r3⟩:=ho.rg;refine ⟨Zb [(6,⟨[9],[0,2],fun vs σ=>∃(rows:List (List D)) (a' dp' w' pl':Int) (S':SS),vs=[.sl 0 24 rows]∧σ=⟨[UG t L a' en dp' w' pl'],[0],1⟩∧SOK L a' dp' w' S'∧LRq n L.length X S' rows.length,
    fun _ σ=>match σ with | ⟨.cells _ [_,.d (.int _ i),_,_,.d (.int _ w),_]::_,_,_⟩=>if w=0 then ((L.length:Int) - i).toNat+1 else 0 | _=>0⟩)],1,false,by simp,Ta rfl,?_⟩
   conv=>whnf
   refine ⟨L,S,rfl,ho,fun S1' hS1'=>?_⟩;obtain rfl:S1=S1':=by rw [← hS1,hS1']
   intro a1 dp1 w1 pl1 ho1
   conv=>whnf
   refine ⟨L,S1,rfl,ho1,0,rfl,by omega,fun b hb=>?_⟩;intro a2 dp2 w2 pl2 ho2
   cases b with
   | true =>
    cases S1 with
    | bad e=>cases hb
    | ok d1 ts1 =>
     have hb2:isW ts1 [tt]=true:=hb;have hM:ZF (ZnM tt) (.ok d1 ts1)=.ok d1 ts1:=by rw [Zh,ZnM,Tf hb2];rfl
     rw [hM] at h;(conv=>whnf);refine ⟨L,_,rfl,ho2,⟨?_,fun S2 hS2=>?_⟩⟩
     ·rintro d ts hq
      cases hq
      exact ZvD hS1 h64
     intro a3 dp3 w3 pl3 ho3
     subst hS2;(conv=>whnf);exact h _ _ _ _ _ ho3
   | false =>
    have hlr:=ZnP hdn h64 hS1 hb;rw [hX] at hlr h;(conv=>whnf);refine ⟨⟨[],a2,dp2,w2,pl2,S1,rfl,rfl,ho2,hlr⟩,?_⟩
    clear hlr ho1 ho2
    intro vs σ hI
    obtain ⟨rows,a3,dp3,w3,pl3,S3,rfl,rfl,ho3,hlr⟩:=hI;(conv=>whnf);refine ZAf (fun hw=>?_) (fun hw=>?_)
    ·obtain ⟨d3,ts3,rfl,hr3,hdp3,hd3⟩:=ho3.wz hw;have hlen3:=hr3.len;have hlo3:=hr3.lo;have hhi3:=hr3.hi;(conv=>whnf);refine ⟨L,_,rfl,ho3,fun b hb3=>?_⟩;have hwide:=hlr.wide;have hpr:=hlr.tight.room hb3;intro a4 dp4 w4 pl4 ho4
     cases b
     all_goals conv=>whnf
     rotate_left;refine ⟨L,_,rfl,ho4,fun S4 hS4=>?_⟩;rw [Tf rfl,hS4] at hpr;intro a5 dp5 w5 pl5 ho5
     conv=>whnf
     rotate_left;rw [Tc (by simp)] at hpr;have ho5:=ho4
     all_goals
      have her:=hpr.expr;have hk:=hpr.k;refine ⟨L,_,rfl,ho5,0,rfl,by omega,fun d ts hq=>Or.inl (hpr.lt d ts hq),fun S6 hS6=>?_⟩;rw [show 5 - 0=5 from rfl] at hS6;rw [hS6] at her;intro eo es em er ep a6 dp6 w6 pl6 ho6
      conv=>whnf
      refine ⟨Tn.2 rfl,(show (rows.length+1) * 64≤2 ^ 47 by omega),(show rows.length+1≤2 ^ 47 by omega),?_⟩;(conv=>whnf);refine ⟨L,_,rfl,ho6,0,rfl,by omega,fun b hb6=>?_⟩;intro a7 dp7 w7 pl7 ho7
      cases b with
      | true =>
       have hmr:=her.more hb6
       cases S6 with
       | bad e=>cases hb6
       | ok d6 ts6 =>
        have hb6:isW ts6 [[44]]=true:=hb6;obtain ⟨rfl,hr6,hdp6,hd6⟩:=ho7;have hr7:=hr6.tlq (ZN hb6);have q1:=hr7.lo;have q2:=hr7.hi;have q3:=hr7.len;(conv=>whnf);refine oiO ?_;(conv=>whnf);refine ⟨⟨_,_,_,_,_,.ok d6 ts6.tail,rfl,rfl,SOK.mk hr7 hdp6 hd6,?_⟩,?_⟩
        ·rw [Tb];exact hmr.le hwide
        ·have hle:=her.2.2;obtain ⟨_,_,_,_,_,_,hle⟩:=hle;exact m31
      | false =>
       have hst:=her.stop hb6;subst hst;(conv=>whnf);refine ⟨L,_,rfl,ho7,⟨her.lt,fun S8 hS8=>?_⟩⟩;intro a8 dp8 w8 pl8 ho8
       subst hS8;(conv=>whnf);exact h _ _ _ _ _ ho8
    ·obtain ⟨e,rfl,hw2,hw3⟩:=ho3.w1 hw;obtain ⟨rfl,_⟩:=hlr;(conv=>whnf);refine ⟨L,_,rfl,ho3,⟨(by rintro d ts hq;cases hq),fun S8 hS8=>?_⟩⟩;intro a8 dp8 w8 pl8 ho8
     subst hS8;(conv=>whnf);exact h _ _ _ _ _ ho8
  ·exact h.elim
 ·exact h.elim
end Go.PM.Lex
end

section
namespace Go.PM.Lex
open Go.Proofs
variable {w0:World} {nG:Nat}
theorem Yg {α:Type} {P:Nat→Ts→R α} {n:Nat} {S:SS} (h:dLt n S):dLt n (ZF P S):=by
 cases S with
 | bad e=>intro d ts hq;cases hq
 | ok d0 ts0 =>
  intro d ts hq
  rw [Zh] at hq
  cases hx:P d0 ts0 with
  | err r e=>rw [hx] at hq;cases hq
  | ok v ts3=>rw [hx] at hq;simp only [V0,SS.ok.injEq] at hq;have:=h _ _ rfl;omega
theorem Y9 {fr:Bs} {n:Nat} {S:SS} (h:dLt (n+1) S):dLt n (Wp fr S):=by
 cases S with
 | bad e=>intro d ts hq;cases hq
 | ok d0 ts0 =>
  intro d ts hq
  have:=h _ _ rfl;rw [Wp] at hq;split at hq
  ·split at hq
   ·cases hq
   ·injection hq with h1 h2;omega
  ·cases hq
theorem ZhL {L:List Tok} {a dp w:Int} {S:SS} (h:SOK L a dp w S):dLt 65 S:=by
 rintro d ts rfl;have:=h.2.2.2;omega
theorem Zqn {S:SS} {v u:Bs} (h1:YT 0 v S=true) (h2:YT 0 u S=true):v=u:=by
 cases S with
 | bad e=>cases h1
 | ok d ts =>
  have h1:isW ts [v]=true:=h1;have h2:isW ts [u]=true:=h2;simp only [isW,Sj,Sp,T4,Tl,beq_iff_eq] at h1 h2;rw [← h1.2,← h2.2]
noncomputable def Zsr (n:Nat):Tbl:=[(234,VC),(170,Xz),(236,Jf),(235,JZ (fun d=>Yr d (Yi d)) n),(103,Ud n 6)]
theorem Zss {n:Nat} (hp:PCalls (GG w0 nG) 235 (JZ (fun d=>Yr d (Yi d)) n)) (he:PCalls (GG w0 nG) 103 (Ud n 6)):PCalls (GG w0 nG) 168 (JZ Zp n):=by
 refine pc (tbl:=Zsr n) ⟨⟨VX,YL⟩,⟨Xv,ZT⟩,⟨Zan,XW⟩,⟨hp,ZdD _ _⟩,⟨he,XX _ _⟩,trivial⟩ Tryz.func168 ?_;intro args σ K h
 unfold JZ qSp at h
 split at h
 ·rename_i rest t rows a en dp w pl
  obtain ⟨L,S,rfl,ho,h⟩:=h;split at h
  ·obtain ⟨hdn,h⟩:=h;have h:=h _ rfl;refine ⟨Zb [],1,false,by simp,Ta rfl,?_⟩;(conv=>whnf);refine ⟨L,S,rfl,ho,fun p=>?_⟩;intro a1 dp1 w1 pl1 ho1
   conv=>whnf
   refine ⟨L,S,rfl,ho1,0,rfl,by omega,fun b1 hb1=>?_⟩;intro a2 dp2 w2 pl2 ho2
   cases b1
   all_goals
    conv=>whnf
    refine ⟨L,S,rfl,ho2,0,rfl,by omega,fun b2 hb2=>?_⟩;intro a3 dp3 w3 pl3 ho3
    cases b2
    all_goals conv=>whnf
   ·refine ⟨L,S,rfl,ho3,hdn,fun S' hS'=>?_⟩;rw [Zsp S hb1 hb2,hS'] at h;intro eo es em er ep a4 dp4 w4 pl4 ho4
    conv=>whnf
    exact h _ _ _ _ _ _ _ _ _ ho4
   ·refine ⟨L,S,rfl,ho3,fun S1 hS1=>?_⟩;rw [Zmw _ S hb2 (Or.inr rfl)] at h;have hdn1:=Y9 (fr:=[126]) hdn;have h64:=Y9 (fr:=[126]) (ZhL ho);exact m47
   ·refine ⟨L,S,rfl,ho3,fun S1 hS1=>?_⟩;rw [Zmw _ S hb1 (Or.inl rfl)] at h;have hdn1:=Y9 (fr:=[45]) hdn;have h64:=Y9 (fr:=[45]) (ZhL ho);exact m47
   ·refine absurd (Zqn hb1 hb2) (by decide)
  ·exact h.elim
 ·exact h.elim
def CRq (n m:Nat) (X:SS):SS→Nat→Prop
 | .bad e,i=>X=.bad e∧i≤m
 | .ok d ts,i=>d<n∧d<64∧i≤m∧∃l,X=V0 d (X2 (ZW d) (m - i) l ts)∧l.length=i
theorem CRq.step {n m:Nat} {X S:SS} {i:Nat} (h:CRq n m X S i) (hi:i<m):dLt n (if (i:Int)>0 then Ye [44] S else S)∧CRq n m X (ZF (fun d=>dsK (Zp d) 5) (if (i:Int)>0 then Ye [44] S else S)) (i+1):=by
 cases S with
 | bad e =>
  have:(if (i:Int)>0 then Ye [44] (.bad e) else SS.bad e)=.bad e:=by split <;> rfl
  rw [this];exact ⟨fun d ts hq=>(by cases hq),h.1,by omega⟩
 | ok d ts =>
  obtain ⟨h1,h2,_,l,h3,h4⟩:=h;obtain ⟨q,hq⟩:∃q,m - i=q+1:=⟨m - i - 1,by omega⟩
  rw [hq,X2] at h3;have key:∀ts2,X=V0 d ((ZW d ts2).bind fun e ts=>X2 (ZW d) q (l++[e]) ts)→CRq n m X (ZF (fun d=>dsK (Zp d) 5) (.ok d ts2)) (i+1):=fun ts2 hX=>by
   rw [Zh];show CRq n m X (V0 d (dsK (Zp d) 5 ts2)) (i+1);rw [Zbj]
   cases hx:ZW d ts2 with
   | err r e=>rw [hx] at hX;exact ⟨hX,by omega⟩
   | ok v ts3 =>
    rw [hx,R.bind_ok] at hX;exact ⟨h1,h2,by omega,l++[v],by rw [hX,show m - (i+1)=q by omega],by simp [h4]⟩
  by_cases h0:(i:Int)>0
  ·rw [Tf h0];have hl:l≠[]:=by rintro rfl;simp at h4;omega
   rw [Tc hl,ZO] at h3;rw [Ye]
   by_cases hb:isW ts [[44]]=true
   ·rw [Tf hb,R.bind_ok] at h3;rw [Tf hb];exact ⟨fun d' ts' hq=>(by cases hq;exact h1),key _ h3⟩
   ·rw [Tc hb,R.bind_err] at h3;rw [Tc hb];exact ⟨fun d' ts' hq=>(by cases hq),h3,by omega⟩
  ·rw [Tc h0];have hl:l=[]:=TN (by omega);rw [Tf hl,R.bind_ok] at h3;exact ⟨fun d' ts' hq=>(by cases hq;exact h1),key _ h3⟩
theorem CRq.done {n m:Nat} {X S:SS} (h:CRq n m X S m):X=S∧∀d ts,S=.ok d ts→d<64:=by
 cases S with
 | bad e=>exact ⟨h.1,fun d ts hq=>by cases hq⟩
 | ok d ts =>
  obtain ⟨h1,h2,_,l,h3,h4⟩:=h;rw [Nat.sub_self] at h3;exact ⟨h3,fun d ts hq=>by cases hq;exact h2⟩
theorem CRq.le {n m:Nat} {X S:SS} {i:Nat} (h:CRq n m X S i):i≤m:=by
 cases S with
 | bad e=>exact h.2
 | ok d ts=>exact h.2.2.1
theorem CRq.start {n m:Nat} {S:SS} (h:dLt n S) (h64:dLt 64 S):CRq n m (ZF (fun d=>X2 (ZW d) m []) S) S 0:=by
 cases S with
 | bad e=>exact ⟨rfl,by omega⟩
 | ok d ts=>exact ⟨h _ _ rfl,h64 _ _ rfl,by omega,[],by rw [Zh];rfl,rfl⟩
noncomputable def Zst (n:Nat):Tbl:=[(236,Jf),(294,VD),(103,Ud n 6),(290,JY)]
theorem Zsu {n:Nat} (he:PCalls (GG w0 nG) 103 (Ud n 6)):PCalls (GG w0 nG) 293 (ZhK n):=by
 refine pc (tbl:=Zst n) ⟨⟨Zan,XW⟩,⟨VY,YM⟩,⟨he,XX _ _⟩,⟨Zcd,W0⟩,trivial⟩ Tryz.func293 ?_;intro args σ K h
 unfold ZhK qSp at h
 split at h
 ·rename_i t rows a en dp w pl
  obtain ⟨L,S,rfl,ho,h⟩:=h;split at h
  ·rename_i op mm ee pp
   obtain ⟨⟨rfl,rfl,hdn⟩,o,rfl,h⟩:=h;have h:=h _ rfl;rw [UI (fun d=>X2 (Yi d) (YF o) []) [40] [41] (by decide) S] at h;have h64:=Y9 (fr:=[40]) (ZhL ho);have hdn1:=Y9 (fr:=[40]) hdn;obtain ⟨S1,hS1⟩:∃x,Wp [40] S=x:=⟨_,rfl⟩
   rw [hS1] at h h64 hdn1;have hst:=CRq.start (m:=YF o) hdn1 h64;obtain ⟨X,hX⟩:∃x,ZF (fun d=>X2 (ZW d) (YF o) []) S1=x:=⟨_,rfl⟩
   have h:∀(o_1:Int) (s:List UInt8) (m:Int) (rows:List (List D)) (p:Int) (a' dp' w' pl':Int),SOK L a' dp' w' (Zcb [41] X)→K (.ret (ZxB o_1 s m rows p)) ⟨[UG t L a' en dp' w' pl'],[],0⟩:=by rw [← hX];exact h
   rw [hX] at hst
   clear hX
   refine ⟨Zb [(8,⟨[6],[0,3,4,5],fun vs σ=>∃(i:Nat) (rows:List (List D)) (a' dp' w' pl':Int) (S':SS),vs=[.d (.int .i64 i)]∧rows.length≤i ∧
     σ=⟨[UG t L a' en dp' w' pl',.cells 24 [.d (.int .u8 o),.d (.str []),.d (.int .i64 0),.sl 0 24 rows,.d (.int .i64 pp)],.cells 24 [.d (.int .u8 0),.d (.str []),.d (.int .i64 0),.sl 1 24 [],.d (.int .i64 0)]],[1,0],2⟩∧SOK L a' dp' w' S'∧CRq n (YF o) X S' i,
    fun vs _=>match vs with | [.d (.int _ i)]=>((YF o:Int) - i).toNat | _=>0⟩)],1,false,by simp,Ta rfl,?_⟩
   conv=>whnf
   refine ZAf (fun h20=>?_) (fun h20=>?_)
   all_goals
    conv=>whnf
    refine ZAf (fun h22=>?_) (fun h22=>?_)
    all_goals conv=>whnf
   ·omega
   ·have har:YF o=2:=by unfold YF;rw [Tc (by omega),Tf (by omega)]
    refine ⟨L,S,rfl,ho,fun S1' hS1'=>?_⟩;obtain rfl:S1=S1':=by rw [← hS1,hS1']
    intro a1 dp1 w1 pl1 ho1
    conv=>whnf
    refine ⟨⟨0,[],a1,dp1,w1,pl1,S1,rfl,(by simp),(by rfl),ho1,hst⟩,?_⟩;intro vs σ hI
    obtain ⟨i,rows,a2,dp2,w2,pl2,S2,rfl,hrl,rfl,ho2,hcr⟩:=hI;(conv=>whnf);refine ZAf (fun hc=>?_) (fun hc=>?_)
    ·have hi:i<YF o:=by rw [har];have hc:(i:Int)<2:=hc;omega
     exact m11
    ·have hi:i=YF o:=by have:=hcr.le;rw [har] at this ⊢;have hc:¬(i:Int)<2:=hc;omega
     exact m60
   ·have har:YF o=3:=by unfold YF;rw [Tf (by omega)]
    refine ⟨L,S,rfl,ho,fun S1' hS1'=>?_⟩;obtain rfl:S1=S1':=by rw [← hS1,hS1']
    intro a1 dp1 w1 pl1 ho1
    conv=>whnf
    refine ⟨⟨0,[],a1,dp1,w1,pl1,S1,rfl,(by simp),(by rfl),ho1,hst⟩,?_⟩;intro vs σ hI
    obtain ⟨i,rows,a2,dp2,w2,pl2,S2,rfl,hrl,rfl,ho2,hcr⟩:=hI;(conv=>whnf);refine ZAf (fun hc=>?_) (fun hc=>?_)
    ·have hi:i<YF o:=by rw [har];have hc:(i:Int)<3:=hc;omega
     exact m11
    ·have hi:i=YF o:=by have:=hcr.le;rw [har] at this ⊢;have hc:¬(i:Int)<3:=hc;omega
     exact m60
   ·have har:YF o=1:=by unfold YF;rw [Tc (by omega),Tc (by omega)]
    refine ⟨L,S,rfl,ho,fun S1' hS1'=>?_⟩;obtain rfl:S1=S1':=by rw [← hS1,hS1']
    intro a1 dp1 w1 pl1 ho1
    conv=>whnf
    refine ⟨⟨0,[],a1,dp1,w1,pl1,S1,rfl,(by simp),(by rfl),ho1,hst⟩,?_⟩;intro vs σ hI
    obtain ⟨i,rows,a2,dp2,w2,pl2,S2,rfl,hrl,rfl,ho2,hcr⟩:=hI;(conv=>whnf);refine ZAf (fun hc=>?_) (fun hc=>?_)
    ·have hi:i<YF o:=by rw [har];have hc:(i:Int)<1:=hc;omega
     exact m11
    ·have hi:i=YF o:=by have:=hcr.le;rw [har] at this ⊢;have hc:¬(i:Int)<1:=hc;omega
     exact m60
  ·exact h.elim
 ·exact h.elim
end Go.PM.Lex
end

section
namespace Go.PM.Lex
open Go.Proofs
variable {w0:World} {nG:Nat}
theorem VF {α β:Type} (d:Nat) (x:R α) (g:α→Ts→β):V0 d (x.bind fun v ts=>.ok (g v ts) ts)=V0 d x:=by cases x <;> rfl
theorem Zqo (S:SS):ZF (fun d=>Zq d [40] [41] (Yi d)) S=Zcb [41] (ZF (fun d=>dsK (Zp d) 5) (Wp [40] S)):=by
 rw [UI Yi [40] [41] (by decide) S]
 congr 1
 cases Wp [40] S with
 | bad e=>rfl
 | ok d ts =>
  rw [Zh,Zh];show V0 d (ZW d ts)=V0 d (dsK (Zp d) 5 ts);rw [Zbj]
theorem ZnQ (d:Nat) (ts:Ts) (g:Bs→List Ex→Ex):V0 d ((Z1 ts).bind fun nm ts'=>if isW ts' [[40]]=true then (XY d (Yi d) [40] [41] ts').bind fun l ts'=>.ok (g nm l) ts' else .ok (g nm []) ts') =
  if YT 0 [40] (YU (.ok d ts))=true then ZF (fun d=>XY d (Yi d) [40] [41]) (YU (.ok d ts)) else YU (.ok d ts):=by
 rw [Z1,YU]
 by_cases h:Zn ts=true
 ·rw [Tf h,Tf h,R.bind_ok];show _=if isW ts.tail [[40]]=true then _ else _
  by_cases h2:isW ts.tail [[40]]=true
  ·rw [Tf h2,Tf h2,Zh];exact VF d _ _
  ·rw [Tc h2,Tc h2];rfl
 ·rw [Tc h,Tc h];rfl
noncomputable def Zsv (n:Nat):Tbl:=[(289,UH),(171,VB),(236,Jf),(103,Ud n 6),(290,JY),(291,Jg n),(243,VE),(170,Xz),(292,Xk),(293,ZhK n)]
theorem Zsw {n:Nat} (he:PCalls (GG w0 nG) 103 (Ud n 6)):PCalls (GG w0 nG) 235 (JZ (fun d=>Yr d (Yi d)) n):=by
 refine Zez Z8 mixed (tbl:=Zsv n) ⟨⟨Zc0,Uc⟩,⟨VW,YK⟩,⟨Zan,XW⟩,⟨he,XX _ _⟩,⟨Zcd,W0⟩,⟨Zmx he,J0 _⟩,⟨VZ,YN⟩,⟨Xv,ZT⟩,⟨Zfp,XE⟩,⟨Zsu he,Zjt _⟩,trivial⟩ Tryz.func235 rfl (by kernel_rfl) (by kernel_rfl) ?_;intro args σ K h
 unfold JZ qSp at h
 split at h
 ·rename_i rest t rows a en dp w pl
  obtain ⟨L,S,rfl,ho,h⟩:=h;split at h
  ·obtain ⟨hdn,h⟩:=h;have h:=h _ rfl;refine ⟨Zb [],W4 [],Yu [],Yu [],Yu [293],1,false,by simp,Ta rfl,?_⟩;(conv=>whnf);refine ⟨L,S,rfl,ho,fun b hb=>?_⟩;intro a1 dp1 w1 pl1 ho1
   cases b with
   | false =>
    have hX:ZF (fun d=>Yr d (Yi d)) S=Zk5 150 S:=by
     cases S with
     | bad e=>rfl
     | ok d ts =>
      have hb:Zx ts=false:=hb;rw [Zh,Yr,Tf hb];rfl
    rw [hX] at h;(conv=>whnf);refine ⟨L,S,rfl,ho1,150,rfl,by omega,?_⟩;exact m125
   | true =>
    cases S with
    | bad e=>cases hb
    | ok d ts =>
     have hst:Zx ts=true:=hb;obtain ⟨rfl,hr,rfl,hd2⟩:=ho1;have hn:=hr.tlq (ZgB hst);have q1:=hn.lo;have q2:=hn.hi;have q3:=hn.big;have q4:=hr.lo;obtain ⟨x,hx,hd0,hne,hkk⟩:=hr.at0 (by omega);have hok:=SOK.mk hr rfl hd2;have hnx:=SOK.mk hn rfl hd2;have hP:ZF (fun d=>Yr d (Yi d)) (.ok d ts)=V0 d (Yr d (Yi d) ts):=Zh _ _ _;rw [hP,Yr,Tc (by rw [hst];simp),hd0] at h
     clear hP
     have hxk:x.t0.kind=x.kind:=rfl;have hxt:x.t0.text=x.text:=rfl;rw [hxk,hxt] at h;(conv=>whnf);refine ⟨_,by omega,hx,?_⟩;(conv=>whnf)
     (repeat (refine ⟨rfl,?_⟩;conv=>whnf))
     refine ZAf (fun hc=>?_) (fun hc=>?_)
     ·rw [Tf (show x.kind=2 by have hc:(x.kind:Int)=2:=hc;omega)] at h;exact m89
     rw [Tc (show ¬x.kind=2 by have hc:¬(x.kind:Int)=2:=hc;omega)] at h;(conv=>whnf);refine ZAf (fun hc=>?_) (fun hc=>?_)
     ·rw [Tf (show x.kind=3 by have hc:(x.kind:Int)=3:=hc;omega)] at h;exact m89
     rw [Tc (show ¬x.kind=3 by have hc:¬(x.kind:Int)=3:=hc;omega)] at h;(conv=>whnf);refine ZAf (fun hc=>?_) (fun hc=>?_)
     ·rw [Tf (show x.text=[40] from hc)] at h;have hP:V0 d (Zq d [40] [41] (Yi d) ts)=_:=(Zh (fun d=>Zq d [40] [41] (Yi d)) d ts).symm.trans (Zqo _);rw [hP] at h;have h64:=Y9 (fr:=[40]) (ZhL hok);have hdn1:=Y9 (fr:=[40]) hdn;(conv=>whnf);refine ⟨L,_,rfl,hok,fun S2 hS2=>?_⟩;rw [hS2] at h h64 hdn1;intro a2 dp2 w2 pl2 ho2
      conv=>whnf
      refine ⟨L,_,rfl,ho2,0,rfl,by omega,fun d ts hq=>Or.inl (hdn1 d ts hq),fun S3 hS3=>?_⟩;rw [show 5 - 0=5 from rfl] at hS3;have h65:=Yg (P:=fun d=>dsK (Zp d) 5) h64;rw [hS3] at h h65;intro eo es em er ep a3 dp3 w3 pl3 ho3
      conv=>whnf
      refine ⟨L,_,rfl,ho3,h65,fun S4 hS4=>?_⟩;rw [hS4] at h;intro a4 dp4 w4 pl4 ho4
      conv=>whnf
      exact h _ _ _ _ _ _ _ _ _ ho4
     rw [Tc (show ¬x.text=[40] from hc)] at h;(conv=>whnf);refine ZAf (fun hc=>?_) (fun hc=>?_)
     ·rw [Tf (show x.text=[91] from hc),VF] at h;have hP:V0 d (XY d (Yi d) [91] [93] ts)=_:=(Zh (fun d=>XY d (Yi d) [91] [93]) d ts).symm;rw [hP] at h;(conv=>whnf);refine ⟨L,_,rfl,hok,⟨rfl,by simp,hdn⟩,fun S2 hS2 rows2=>?_⟩;rw [hS2] at h;exact m125
     rw [Tc (show ¬x.text=[91] from hc)] at h;(conv=>whnf);refine ZAf (fun hc=>?_) (fun hc=>?_)
     ·rw [Tf (show x.text=[36] from hc),ZnQ d ts.tail (fun nm l=>.mk 7 nm 0 l ts.length)] at h;have hdn2:dLt (n+1) (YU (.ok d ts.tail)):=by
       rw [← V3];exact Yg (fun d' ts' hq=>by cases hq;exact hdn _ _ rfl)
      conv=>whnf
      refine oiO ?_;(conv=>whnf);refine ⟨L,_,rfl,hnx,fun S2 s2 hS2=>?_⟩;rw [hS2] at h hdn2;intro a2 dp2 w2 pl2 ho2
      conv=>whnf
      refine ⟨L,_,rfl,ho2,0,rfl,by omega,fun b3 hb3=>?_⟩;rw [hb3] at h;intro a3 dp3 w3 pl3 ho3
      cases b3 with
      | false =>
       rw [Tc (by simp)] at h;(conv=>whnf);exact h _ _ _ _ _ _ _ _ _ ho3
      | true =>
       rw [Tf rfl] at h;(conv=>whnf);refine ⟨L,_,rfl,ho3,⟨rfl,by simp,hdn2⟩,fun S4 hS4 rows4=>?_⟩;rw [hS4] at h;intro a4 dp4 w4 pl4 ho4
       conv=>whnf
       exact h _ _ _ _ _ _ _ _ _ ho4
     rw [Tc (show ¬x.text=[36] from hc)] at h;(conv=>whnf);refine ZAf (fun hc=>?_) (fun hc=>?_)
     ·rw [show x.text=[110,105,108] from hc,Tc (by decide),Tf rfl] at h;exact m89
     have hnil:¬x.text=[110,105,108]:=hc;(conv=>whnf);refine ZAf (fun hc=>?_) (fun hc=>?_)
     ·rw [show x.text=[95] from hc,Tc (by decide),Tc (by decide),Tf rfl] at h;exact m89
     have hund:¬x.text=[95]:=hc;(conv=>whnf);intro f hf
     conv=>whnf
     refine ZAh (fun hc=>?_) (fun hc=>?_)
     ·rw [Tf (show ZU x.text≠0 by omega),VF] at h;have hP:V0 d (Zq d [40] [41] (X2 (Yi d) (YF (ZU x.text)) []) ts.tail)=_:=(Zh (fun d=>Zq d [40] [41] (X2 (Yi d) (YF (ZU x.text)) [])) d ts.tail).symm;rw [hP] at h;(conv=>whnf);refine oiO ?_;(conv=>whnf);intro f2 hf2
      conv=>whnf
      refine ⟨L,_,rfl,hnx,⟨rfl,rfl,fun d' ts' hq=>by cases hq;exact hdn _ _ rfl⟩,ZU x.text,hf2.symm,fun S2 hS2=>?_⟩;rw [hS2] at h;intro eo es em er ep a2 dp2 w2 pl2 ho2
      conv=>whnf
      exact h _ _ _ _ _ _ _ _ _ ho2
     rw [Tc (show ¬ZU x.text≠0 by omega),Tc hnil,Tc hund] at h;exact m89
  ·exact h.elim
 ·exact h.elim
end Go.PM.Lex
end

section
namespace Go.PM.Lex
open Go.Proofs
variable {w0:World} {nG:Nat}
theorem ZhM (ts:Ts) (w:Bs):isW ts [w]=true↔((hd ts).kind=1∨(hd ts).kind=4)∧(hd ts).text=w:=by
 simp only [isW,Sj,Sp,T4,Tl,T9,TG,beq_iff_eq]
theorem Va {j:Nat} (hj:j≤4) (ts:Ts):(∃w∈Zbp j,isW ts [w]=true)↔(Wu ts).1=j+1:=by
 simp only [ZhM];unfold Wu
 generalize (hd ts).kind=k;generalize (hd ts).text=x
 by_cases hk:k=1∨k=4
 ·rw [Tc (by omega)];simp only [hk,true_and];have hcs:j=0∨j=1∨j=2∨j=3∨j=4:=by omega
  by_cases h1:x=[98,111,114]
  ·subst h1;rcases hcs with rfl | rfl | rfl | rfl | rfl <;> decide
  by_cases h2:x=[98,120,111,114]
  ·subst h2;rcases hcs with rfl | rfl | rfl | rfl | rfl <;> decide
  by_cases h3:x=[98,97,110,100]
  ·subst h3;rcases hcs with rfl | rfl | rfl | rfl | rfl <;> decide
  by_cases h4:x=[115,104,108]
  ·subst h4;rcases hcs with rfl | rfl | rfl | rfl | rfl <;> decide
  by_cases h5:x=[115,104,114]
  ·subst h5;rcases hcs with rfl | rfl | rfl | rfl | rfl <;> decide
  by_cases h6:x=[43]
  ·subst h6;rcases hcs with rfl | rfl | rfl | rfl | rfl <;> decide
  by_cases h7:x=[45]
  ·subst h7;rcases hcs with rfl | rfl | rfl | rfl | rfl <;> decide
  by_cases h8:x=[42]
  ·subst h8;rcases hcs with rfl | rfl | rfl | rfl | rfl <;> decide
  by_cases h9:x=[47]
  ·subst h9;rcases hcs with rfl | rfl | rfl | rfl | rfl <;> decide
  by_cases h10:x=[37]
  ·subst h10;rcases hcs with rfl | rfl | rfl | rfl | rfl <;> decide
  rw [Tc h1,Tc h2,Tc h3,Tc h4,Tc h5,Tc h6,Tc h7,Tc h8,Tc h9,Tc h10]
  constructor
  ·rintro ⟨w,hw,rfl⟩
   rcases hcs with rfl | rfl | rfl | rfl | rfl <;> simp only [Zbp] at hw <;> simp at hw <;> simp_all
  ·intro h;simp at h
 ·rw [Tf (by omega)]
  constructor
  ·rintro ⟨w,_,h,_⟩;exact absurd h hk
  ·intro h;simp at h
def XRq (n l j N:Nat) (X:SS):SS→Prop
 | .bad e=>X=.bad e
 | .ok d ts=>(d<n∨(d=n∧l≤j))∧ts.length≤N∧∃f e,X=V0 d (Zq5 (dsK (Zp d) (4 - j)) (j+1) f e ts)∧ts.length<f
theorem XRq.start {n l j N:Nat} (hj:j≤4) {S:SS} (hS:∀d ts,S=.ok d ts→d<n∨(d=n∧l≤j)) (hN:∀d ts,S=.ok d ts→ts.length≤N):XRq n l j N (ZF (fun d=>dsK (Zp d) (5 - j)) S) (ZF (fun d=>dsK (Zp d) (4 - j)) S):=by
 cases S with
 | bad e=>rfl
 | ok d ts =>
  have h1:=hS _ _ rfl;have h2:=hN _ _ rfl;rw [Zh,Zh];show XRq n l j N (V0 d (dsK (Zp d) (5 - j) ts)) (V0 d (dsK (Zp d) (4 - j) ts));rw [show 5 - j=(4 - j)+1 by omega];have hk:=ZtM d (4 - j) (by omega);show XRq n l j N (V0 d ((dsK (Zp d) (4 - j) ts).bind fun e ts'=>Zq5 (dsK (Zp d) (4 - j)) (5 - (4 - j)) (ts'.length+1) e ts')) _;rw [show 5 - (4 - j)=j+1 by omega]
  cases hx:dsK (Zp d) (4 - j) ts with
  | err r e=>rfl
  | ok e ts1 =>
   have hq:=hk _ _ _ hx;dsimp only at hq;exact ⟨h1,by omega,ts1.length+1,e,rfl,by omega⟩
theorem XRq.stop {n l j N:Nat} {X S:SS} (hj:j≤4) (h:XRq n l j N X S) (hb:∀w∈Zbp j,YT 0 w S=false):X=S:=by
 cases S with
 | bad e=>exact h
 | ok d ts =>
  obtain ⟨h1,h2,f,e,h3,h4⟩:=h;obtain ⟨f,rfl⟩:∃g,f=g+1:=⟨f - 1,by omega⟩
  rw [Zc1,Tc] at h3
  ·exact h3
  ·intro g
   obtain ⟨w,hw,hq⟩:=(Va hj ts).2 g;have:isW ts [w]=false:=hb w hw;rw [hq] at this;cases this
theorem XRq.more {n l j N d:Nat} {X:SS} {ts:Ts} (hj:j≤4) (h:XRq n l j N X (.ok d ts)) {w:Bs} (hw:w∈Zbp j) (hb:isW ts [w]=true):XRq n l j (ts.length - 1) X (ZF (fun d=>dsK (Zp d) (4 - j)) (.ok d ts.tail)):=by
 obtain ⟨h1,h2,f,e,h3,h4⟩:=h;obtain ⟨f,rfl⟩:∃g,f=g+1:=⟨f - 1,by omega⟩
 have hb2:=(Va hj ts).1 ⟨w,hw,hb⟩;rw [Zc1,Tf hb2] at h3;rw [Zh];show XRq n l j (ts.length - 1) X (V0 d (dsK (Zp d) (4 - j) ts.tail));have hk:=ZtM d (4 - j) (by omega);have ht:=Xw (ts:=ts) (by omega)
 cases hx:dsK (Zp d) (4 - j) ts.tail with
 | err r e=>rw [hx] at h3;exact h3
 | ok g ts1 =>
  have hq:=hk _ _ _ hx;dsimp only at hq;rw [hx] at h3;exact ⟨h1,by omega,f,_,h3,by omega⟩
theorem XRq.le {n l j N M:Nat} {X S:SS} (h:XRq n l j N X S) (hn:N≤M):XRq n l j M X S:=by
 cases S with
 | bad e=>exact h
 | ok d ts=>obtain ⟨h1,h2,h3⟩:=h;exact ⟨h1,by omega,h3⟩
theorem Zbk {ts:Ts} {v u:Bs} (h1:isW ts [v]=true) (h2:isW ts [u]=true):v=u:=by
 rw [ZhM] at h1 h2;rw [← h1.2,← h2.2]
end Go.PM.Lex
end

section
namespace Go.PM.Lex
open Go.Proofs
variable {w0:World} {nG:Nat}
noncomputable def ZtN (n l:Nat):Tbl:=[(168,JZ Zp n),(169,Zjq),(103,Ud n (l+1)),(170,Xz)]
theorem ZxC {n l:Nat} (ht:TblOK (GG w0 nG) (ZtN n l)):PCalls (GG w0 nG) 103 (Ud n l):=by
 refine V7 Z8 mixed (tbl:=ZtN n l) ht Tryz.func103 rfl (by kernel_rfl) (by kernel_rfl) ?_;intro args σ K h
 unfold Ud qSp at h
 split at h
 ·rename_i t rows a en dp w pl
  obtain ⟨L,S,rfl,ho,h⟩:=h;split at h
  ·obtain ⟨j,rfl,hj5,hdn,h⟩:=h
   replace h:=h _ rfl
   obtain ⟨X,hX⟩:∃x,ZF (fun d=>dsK (Zp d) (5 - j)) S=x:=⟨_,rfl⟩
   rw [hX] at h;refine ⟨Zb [(7,⟨[],[0,1,4,5,6,7],fun vs σ=>∃(eo:Int) (es:Bs) (em:Int) (er:List (List D)) (ep:Int) (a' dp' w' pl':Int) (S':SS),vs=[] ∧
     σ=⟨[UG t L a' en dp' w' pl',.cells 24 [.d (.int .u8 0),.d (.str []),.d (.int .i64 0),.sl 0 24 [],.d (.int .i64 0)],.cells 24 [.d (.int .u8 eo),.d (.str es),.d (.int .i64 em),.d (.sl er),.d (.int .i64 ep)]],[0],1⟩∧SOK L a' dp' w' S'∧XRq n l j L.length X S',
     fun _ σ=>match σ with | ⟨.cells _ [_,.d (.int _ i),_,_,.d (.int _ w),_]::_,_,_⟩=>if w=0 then ((L.length:Int) - i).toNat+1 else 0 | _=>0⟩)],W4 [(10,5)],Yu [],1,false,by simp,Ta rfl,?_⟩
   conv=>whnf
   refine ZAh (fun hw=>?_) (fun hw=>?_)
   ·obtain ⟨f,rfl,hf,hf0⟩:=ho.w1 hw;rw [← hX] at h;(conv=>whnf);exact h _ _ _ _ _ _ _ _ _ ho
   ·obtain ⟨d,ts,rfl,hr,hdp,hd2⟩:=ho.wz (by simpa using hw);(conv=>whnf);refine ZAf (fun h5=>?_) (fun h5=>?_)
    ·have h5:j=5:=by have h5:(j:Int)=5:=h5;omega
     subst h5;(conv=>whnf);refine ⟨L,_,rfl,ho,⟨?_,fun S' hS'=>?_⟩⟩
     ·rintro d' ts' hq;have:=hdn d' ts' hq;omega
     have hS':ZF (fun d=>dsK (Zp d) (5 - 5)) (.ok d ts)=S':=hS';rw [hS'] at hX;subst hX;intro eo es em er ep a4 dp4 w4 pl4 ho4
     conv=>whnf
     exact h _ _ _ _ _ _ _ _ _ ho4
    ·have h5:j≤4:=by have h5:¬(j:Int)=5:=h5;omega
     have hlr:=XRq.start (N:=L.length) h5 hdn (by rintro d' ts' hq;cases hq;have:=hr.len;have:=hr.lo;omega);rw [hX] at hlr;(conv=>whnf);refine ⟨j,rfl,h5,?_⟩;(conv=>whnf);refine oiO ?_;(conv=>whnf);refine ⟨L,_,rfl,ho,j+1,by omega,by omega,(by rintro d' ts' hq;have:=hdn d' ts' hq;omega),fun S1 hS1=>?_⟩;rw [show 5 - (j+1)=4 - j by omega] at hS1;rw [hS1] at hlr;intro eo es em er ep a1 dp1 w1 pl1 ho1
     conv=>whnf
     refine ⟨⟨eo,es,em,er,ep,a1,dp1,w1,pl1,S1,rfl,rfl,ho1,hlr⟩,?_⟩
     clear hlr ho1 hS1 ho hX hdn hr hdp hd2
     intro vs σ hI
     obtain ⟨eo,es,em,er,ep,a1,dp1,w1,pl1,S1,rfl,rfl,ho1,hlr⟩:=hI;(conv=>whnf);refine ZAf (fun hw1=>?_) (fun hw1=>?_)
     ·obtain ⟨d1,ts1,rfl,hr1,hdp1,hd1⟩:=ho1.wz hw1;have hcs:j=0∨j=1∨j=2∨j=3∨j=4:=by omega
      rcases hcs with rfl | rfl | rfl | rfl | rfl
      ·conv=>whnf
       refine ⟨_,by decide,rfl,?_⟩;(conv=>whnf);refine ⟨L,_,rfl,ho1,0,rfl,by omega,fun b hb0=>?_⟩;have hb0:isW ts1 [[98,111,114]]=b:=hb0;intro c0a c0d c0w c0p ho0x
       cases b with
       | true =>
        conv=>whnf
        refine ⟨_,by decide,rfl,?_⟩;(conv=>whnf);refine oiD ?_;(conv=>whnf);refine ⟨_,by decide,rfl,?_⟩;(conv=>whnf);refine ⟨L,_,rfl,ho0x,0,rfl,by omega,fun b hb1=>?_⟩;have hb1:isW ts1 [[98,120,111,114]]=b:=hb1;intro c1a c1d c1w c1p ho1x
        cases b with
        | true =>
         exact absurd (Zbk hb0 hb1) (by decide)
        | false =>
         conv=>whnf
         refine oiD ?_;(conv=>whnf);have hmr:=hlr.more (by omega) (show [98,111,114]∈Zbp 0 by decide) hb0;have hcond:=hlr.1;obtain ⟨rfl,hr2,rfl,hd2⟩:=ho1x;have hr3:=hr2.tlq (ZN hb0);have q1:=hr3.lo;have q2:=hr3.hi;have q3:=hr3.len;have q5:=hr2.len;have q6:=hr2.big;have q7:=hr1.len;have q8:=Xw (ts:=ts1) (by have:=(Va (j:=0) (by omega) ts1).1 ⟨_,(show [98,111,114]∈Zbp 0 by decide),hb0⟩;omega);exact m216
       | false =>
        conv=>whnf
        refine oiD ?_;(conv=>whnf);refine ⟨_,by decide,rfl,?_⟩;(conv=>whnf);refine ⟨L,_,rfl,ho0x,0,rfl,by omega,fun b hb1=>?_⟩;have hb1:isW ts1 [[98,120,111,114]]=b:=hb1;intro c1a c1d c1w c1p ho1x
        cases b with
        | true =>
         conv=>whnf
         refine ⟨_,by decide,rfl,?_⟩;(conv=>whnf);refine oiD ?_;(conv=>whnf);have hmr:=hlr.more (by omega) (show [98,120,111,114]∈Zbp 0 by decide) hb1;have hcond:=hlr.1;obtain ⟨rfl,hr2,rfl,hd2⟩:=ho1x;have hr3:=hr2.tlq (ZN hb1);have q1:=hr3.lo;have q2:=hr3.hi;have q3:=hr3.len;have q5:=hr2.len;have q6:=hr2.big;have q7:=hr1.len;have q8:=Xw (ts:=ts1) (by have:=(Va (j:=0) (by omega) ts1).1 ⟨_,(show [98,120,111,114]∈Zbp 0 by decide),hb1⟩;omega);exact m216
        | false =>
         exact m67
      ·conv=>whnf
       refine ⟨_,by decide,rfl,?_⟩;(conv=>whnf);refine ⟨L,_,rfl,ho1,0,rfl,by omega,fun b hb0=>?_⟩;have hb0:isW ts1 [[98,97,110,100]]=b:=hb0;intro c0a c0d c0w c0p ho0x
       cases b with
       | true =>
        conv=>whnf
        refine ⟨_,by decide,rfl,?_⟩;(conv=>whnf);refine oiD ?_;(conv=>whnf);have hmr:=hlr.more (by omega) (show [98,97,110,100]∈Zbp 1 by decide) hb0;have hcond:=hlr.1;obtain ⟨rfl,hr2,rfl,hd2⟩:=ho0x;have hr3:=hr2.tlq (ZN hb0);have q1:=hr3.lo;have q2:=hr3.hi;have q3:=hr3.len;have q5:=hr2.len;have q6:=hr2.big;have q7:=hr1.len;have q8:=Xw (ts:=ts1) (by have:=(Va (j:=1) (by omega) ts1).1 ⟨_,(show [98,97,110,100]∈Zbp 1 by decide),hb0⟩;omega);(conv=>whnf);refine oiO ?_;(conv=>whnf);refine oiD ?_;(conv=>whnf);refine ⟨L,_,rfl,SOK.mk hr3 rfl hd2,1+1,by omega,by omega,(by rintro d' ts' hq;cases hq;omega),fun S3 hS3=>?_⟩;rw [show 5 - (1+1)=4 - 1 by omega] at hS3;exact m7
       | false =>
        conv=>whnf
        refine oiD ?_;(conv=>whnf);have hs:=hlr.stop (by omega) (by intro u hu;simp only [Zbp] at hu;simp at hu;subst hu <;> assumption);subst hs;exact h _ _ _ _ _ _ _ _ _ ho0x
      ·conv=>whnf
       refine ⟨_,by decide,rfl,?_⟩;(conv=>whnf);refine ⟨L,_,rfl,ho1,0,rfl,by omega,fun b hb0=>?_⟩;have hb0:isW ts1 [[115,104,108]]=b:=hb0;intro c0a c0d c0w c0p ho0x
       cases b with
       | true =>
        conv=>whnf
        refine ⟨_,by decide,rfl,?_⟩;(conv=>whnf);refine oiD ?_;(conv=>whnf);refine ⟨_,by decide,rfl,?_⟩;(conv=>whnf);refine ⟨L,_,rfl,ho0x,0,rfl,by omega,fun b hb1=>?_⟩;have hb1:isW ts1 [[115,104,114]]=b:=hb1;intro c1a c1d c1w c1p ho1x
        cases b with
        | true =>
         exact absurd (Zbk hb0 hb1) (by decide)
        | false =>
         conv=>whnf
         refine oiD ?_;(conv=>whnf);have hmr:=hlr.more (by omega) (show [115,104,108]∈Zbp 2 by decide) hb0;have hcond:=hlr.1;obtain ⟨rfl,hr2,rfl,hd2⟩:=ho1x;have hr3:=hr2.tlq (ZN hb0);have q1:=hr3.lo;have q2:=hr3.hi;have q3:=hr3.len;have q5:=hr2.len;have q6:=hr2.big;have q7:=hr1.len;have q8:=Xw (ts:=ts1) (by have:=(Va (j:=2) (by omega) ts1).1 ⟨_,(show [115,104,108]∈Zbp 2 by decide),hb0⟩;omega);exact m215
       | false =>
        conv=>whnf
        refine oiD ?_;(conv=>whnf);refine ⟨_,by decide,rfl,?_⟩;(conv=>whnf);refine ⟨L,_,rfl,ho0x,0,rfl,by omega,fun b hb1=>?_⟩;have hb1:isW ts1 [[115,104,114]]=b:=hb1;intro c1a c1d c1w c1p ho1x
        cases b with
        | true =>
         conv=>whnf
         refine ⟨_,by decide,rfl,?_⟩;(conv=>whnf);refine oiD ?_;(conv=>whnf);have hmr:=hlr.more (by omega) (show [115,104,114]∈Zbp 2 by decide) hb1;have hcond:=hlr.1;obtain ⟨rfl,hr2,rfl,hd2⟩:=ho1x;have hr3:=hr2.tlq (ZN hb1);have q1:=hr3.lo;have q2:=hr3.hi;have q3:=hr3.len;have q5:=hr2.len;have q6:=hr2.big;have q7:=hr1.len;have q8:=Xw (ts:=ts1) (by have:=(Va (j:=2) (by omega) ts1).1 ⟨_,(show [115,104,114]∈Zbp 2 by decide),hb1⟩;omega);exact m215
        | false =>
         exact m67
      ·conv=>whnf
       refine ⟨_,by decide,rfl,?_⟩;(conv=>whnf);refine ⟨L,_,rfl,ho1,0,rfl,by omega,fun b hb0=>?_⟩;have hb0:isW ts1 [[43]]=b:=hb0;intro c0a c0d c0w c0p ho0x
       cases b with
       | true =>
        conv=>whnf
        refine ⟨_,by decide,rfl,?_⟩;(conv=>whnf);refine oiD ?_;(conv=>whnf);refine ⟨_,by decide,rfl,?_⟩;(conv=>whnf);refine ⟨L,_,rfl,ho0x,0,rfl,by omega,fun b hb1=>?_⟩;have hb1:isW ts1 [[45]]=b:=hb1;intro c1a c1d c1w c1p ho1x
        cases b with
        | true =>
         exact absurd (Zbk hb0 hb1) (by decide)
        | false =>
         conv=>whnf
         refine oiD ?_;(conv=>whnf);have hmr:=hlr.more (by omega) (show [43]∈Zbp 3 by decide) hb0;have hcond:=hlr.1;obtain ⟨rfl,hr2,rfl,hd2⟩:=ho1x;have hr3:=hr2.tlq (ZN hb0);have q1:=hr3.lo;have q2:=hr3.hi;have q3:=hr3.len;have q5:=hr2.len;have q6:=hr2.big;have q7:=hr1.len;have q8:=Xw (ts:=ts1) (by have:=(Va (j:=3) (by omega) ts1).1 ⟨_,(show [43]∈Zbp 3 by decide),hb0⟩;omega);exact m214
       | false =>
        conv=>whnf
        refine oiD ?_;(conv=>whnf);refine ⟨_,by decide,rfl,?_⟩;(conv=>whnf);refine ⟨L,_,rfl,ho0x,0,rfl,by omega,fun b hb1=>?_⟩;have hb1:isW ts1 [[45]]=b:=hb1;intro c1a c1d c1w c1p ho1x
        cases b with
        | true =>
         conv=>whnf
         refine ⟨_,by decide,rfl,?_⟩;(conv=>whnf);refine oiD ?_;(conv=>whnf);have hmr:=hlr.more (by omega) (show [45]∈Zbp 3 by decide) hb1;have hcond:=hlr.1;obtain ⟨rfl,hr2,rfl,hd2⟩:=ho1x;have hr3:=hr2.tlq (ZN hb1);have q1:=hr3.lo;have q2:=hr3.hi;have q3:=hr3.len;have q5:=hr2.len;have q6:=hr2.big;have q7:=hr1.len;have q8:=Xw (ts:=ts1) (by have:=(Va (j:=3) (by omega) ts1).1 ⟨_,(show [45]∈Zbp 3 by decide),hb1⟩;omega);exact m214
        | false =>
         exact m67
      ·conv=>whnf
       refine ⟨_,by decide,rfl,?_⟩;(conv=>whnf);refine ⟨L,_,rfl,ho1,0,rfl,by omega,fun b hb0=>?_⟩;have hb0:isW ts1 [[42]]=b:=hb0;intro c0a c0d c0w c0p ho0x
       cases b with
       | true =>
        conv=>whnf
        refine ⟨_,by decide,rfl,?_⟩;(conv=>whnf);refine oiD ?_;(conv=>whnf);refine ⟨_,by decide,rfl,?_⟩;(conv=>whnf);refine ⟨L,_,rfl,ho0x,0,rfl,by omega,fun b hb1=>?_⟩;have hb1:isW ts1 [[47]]=b:=hb1;intro c1a c1d c1w c1p ho1x
        cases b with
        | true =>
         exact absurd (Zbk hb0 hb1) (by decide)
        | false =>
         conv=>whnf
         refine oiD ?_;(conv=>whnf);refine ⟨_,by decide,rfl,?_⟩;(conv=>whnf);refine ⟨L,_,rfl,ho1x,0,rfl,by omega,fun b hb2=>?_⟩;have hb2:isW ts1 [[37]]=b:=hb2;intro c2a c2d c2w c2p ho2x
         cases b with
         | true =>
          exact absurd (Zbk hb0 hb2) (by decide)
         | false =>
          conv=>whnf
          refine oiD ?_;(conv=>whnf);have hmr:=hlr.more (by omega) (show [42]∈Zbp 4 by decide) hb0;have hcond:=hlr.1;obtain ⟨rfl,hr2,rfl,hd2⟩:=ho2x;have hr3:=hr2.tlq (ZN hb0);have q1:=hr3.lo;have q2:=hr3.hi;have q3:=hr3.len;have q5:=hr2.len;have q6:=hr2.big;have q7:=hr1.len;have q8:=Xw (ts:=ts1) (by have:=(Va (j:=4) (by omega) ts1).1 ⟨_,(show [42]∈Zbp 4 by decide),hb0⟩;omega);exact m192
       | false =>
        conv=>whnf
        refine oiD ?_;(conv=>whnf);refine ⟨_,by decide,rfl,?_⟩;(conv=>whnf);refine ⟨L,_,rfl,ho0x,0,rfl,by omega,fun b hb1=>?_⟩;have hb1:isW ts1 [[47]]=b:=hb1;intro c1a c1d c1w c1p ho1x
        cases b with
        | true =>
         conv=>whnf
         refine ⟨_,by decide,rfl,?_⟩;(conv=>whnf);refine oiD ?_;(conv=>whnf);refine ⟨_,by decide,rfl,?_⟩;(conv=>whnf);refine ⟨L,_,rfl,ho1x,0,rfl,by omega,fun b hb2=>?_⟩;have hb2:isW ts1 [[37]]=b:=hb2;intro c2a c2d c2w c2p ho2x
         cases b with
         | true =>
          exact absurd (Zbk hb1 hb2) (by decide)
         | false =>
          conv=>whnf
          refine oiD ?_;(conv=>whnf);have hmr:=hlr.more (by omega) (show [47]∈Zbp 4 by decide) hb1;have hcond:=hlr.1;obtain ⟨rfl,hr2,rfl,hd2⟩:=ho2x;have hr3:=hr2.tlq (ZN hb1);have q1:=hr3.lo;have q2:=hr3.hi;have q3:=hr3.len;have q5:=hr2.len;have q6:=hr2.big;have q7:=hr1.len;have q8:=Xw (ts:=ts1) (by have:=(Va (j:=4) (by omega) ts1).1 ⟨_,(show [47]∈Zbp 4 by decide),hb1⟩;omega);exact m192
        | false =>
         conv=>whnf
         refine oiD ?_;(conv=>whnf);refine ⟨_,by decide,rfl,?_⟩;(conv=>whnf);refine ⟨L,_,rfl,ho1x,0,rfl,by omega,fun b hb2=>?_⟩;have hb2:isW ts1 [[37]]=b:=hb2;intro c2a c2d c2w c2p ho2x
         cases b with
         | true =>
          conv=>whnf
          refine ⟨_,by decide,rfl,?_⟩;(conv=>whnf);refine oiD ?_;(conv=>whnf);have hmr:=hlr.more (by omega) (show [37]∈Zbp 4 by decide) hb2;have hcond:=hlr.1;obtain ⟨rfl,hr2,rfl,hd2⟩:=ho2x;have hr3:=hr2.tlq (ZN hb2);have q1:=hr3.lo;have q2:=hr3.hi;have q3:=hr3.len;have q5:=hr2.len;have q6:=hr2.big;have q7:=hr1.len;have q8:=Xw (ts:=ts1) (by have:=(Va (j:=4) (by omega) ts1).1 ⟨_,(show [37]∈Zbp 4 by decide),hb2⟩;omega);exact m192
         | false =>
          conv=>whnf
          refine oiD ?_;(conv=>whnf);have hs:=hlr.stop (by omega) (by intro u hu;simp only [Zbp] at hu;simp at hu;rcases hu with rfl | rfl | rfl <;> assumption);subst hs;exact h _ _ _ _ _ _ _ _ _ ho2x
     ·obtain ⟨e,rfl,hf,hf0⟩:=ho1.w1 hw1;have hlr:X=.bad e:=hlr;subst hlr;(conv=>whnf);exact h _ _ _ _ _ _ _ _ _ ho1
  ·exact h.elim
 ·exact h.elim
end Go.PM.Lex
end

section
namespace Go.PM.Lex
open Go.Proofs
variable {w0:World} {nG:Nat}
def ZvE (c:Int):Int:=if 48≤c∧c≤57 then c - 48 else if 97≤c∧c≤102 then c - 87 else if 65≤c∧c≤70 then c - 55 else -1
noncomputable def Zju:Zr:=fun args σ K=>match args,σ with
 | [.d (.int .u8 c)],⟨[],[],0⟩=>(0≤c∧c<256)∧K (.ret (.d (.int .i64 (ZvE c)))) ⟨[],[],0⟩
 | _,_=>False
theorem Zk9:Za Zju:=fun args σ K K' hK h=>by
 unfold Zju at h ⊢;split at h <;> first | exact ⟨h.1,hK _ _ h.2⟩ | exact h.elim
theorem ZvF:PCalls (GG w0 nG) 325 Zju:=by
 refine pc (tbl:=[]) trivial Tryz.func325 ?_;intro args σ K h
 unfold Zju at h
 split at h
 ·rename_i c
  obtain ⟨⟨h0,h1⟩,h⟩:=h;refine ⟨Zb [],0,false,by decide,Ta rfl,?_⟩;unfold ZvE at h
  by_cases k1:48≤c∧c≤57
  ·rw [Tf k1] at h;(conv=>whnf);refine ZAf (fun h2=>?_) (fun h2=>absurd k1.1 h2);(conv=>whnf);refine ZAf (fun h3=>?_) (fun h3=>absurd k1.2 h3);(conv=>whnf);refine oiB ?_;(conv=>whnf);refine oiO ?_;exact m54
  rw [Tc k1] at h
  by_cases k2:97≤c∧c≤102
  ·rw [Tf k2] at h;(conv=>whnf);refine ZAf (fun h2=>?_) (fun h2=>absurd (show c≥48 by omega) h2);(conv=>whnf);refine ZAf (fun h3=>absurd ⟨h2,h3⟩ k1) (fun h3=>?_);(conv=>whnf);refine ZAf (fun h4=>?_) (fun h4=>absurd k2.1 h4);(conv=>whnf);refine ZAf (fun h5=>?_) (fun h5=>absurd k2.2 h5);(conv=>whnf);refine oiB ?_;(conv=>whnf);refine oiO ?_;(conv=>whnf);refine oiO ?_;(conv=>whnf);rw [show c - 87=c - 97+10 by omega] at h;exact h
  rw [Tc k2] at h
  by_cases k3:65≤c∧c≤70
  ·rw [Tf k3] at h;(conv=>whnf);refine ZAf (fun h2=>?_) (fun h2=>absurd (show c≥48 by omega) h2);(conv=>whnf);refine ZAf (fun h3=>absurd ⟨h2,h3⟩ k1) (fun h3=>?_);(conv=>whnf);refine ZAf (fun h4=>absurd h4 (show ¬(c≥97) by omega)) (fun h4=>?_);(conv=>whnf);refine ZAf (fun h6=>?_) (fun h6=>absurd k3.1 h6);(conv=>whnf);refine ZAf (fun h7=>?_) (fun h7=>absurd k3.2 h7);(conv=>whnf);refine oiB ?_;(conv=>whnf);refine oiO ?_;(conv=>whnf);refine oiO ?_;(conv=>whnf);rw [show c - 55=c - 65+10 by omega] at h;exact h
  rw [Tc k3] at h;have fin:∀b:Bool,b=false→True:=fun _ _=>trivial
  conv=>whnf
  refine ZAf (fun h2=>?_) (fun h2=>?_)
  ·conv=>whnf
   refine ZAf (fun h3=>absurd ⟨h2,h3⟩ k1) (fun h3=>?_);(conv=>whnf);refine ZAf (fun h4=>?_) (fun h4=>?_)
   ·conv=>whnf
    refine ZAf (fun h5=>absurd ⟨h4,h5⟩ k2) (fun h5=>?_);exact m230
   ·exact m230
  ·conv=>whnf
   refine ZAf (fun h4=>absurd (show c≥48 from by have:c≥97:=h4;omega) h2) (fun h4=>?_);(conv=>whnf);refine ZAf (fun h4=>absurd (show c≥48 from by have:c≥65:=h4;omega) h2) (fun h4=>?_);exact m54
 ·exact h.elim
noncomputable def Zc3:Zr:=fun args σ K=>match args,σ with
 | [.d (.str s),.d (.int .i64 a)],⟨[],[],0⟩=>(0≤a∧a<s.length∧s.length<4294967281)∧K (.ret (.d (.str ((s.drop a.toNat).take (Yh (s.drop a.toNat)))))) ⟨[],[],0⟩
 | _,_=>False
theorem ZdE:Za Zc3:=fun args σ K K' hK h=>by
 unfold Zc3 at h ⊢;split at h <;> first | exact ⟨h.1,hK _ _ h.2⟩ | exact h.elim
theorem Zce {l:Bs} {i:Nat} (h:i<l.length):l.getD i 0=l[i]:=by rw [TS,Tg h];rfl
theorem Zsx (r:Bs) (x y:UInt8):Lib.hasPrefix r [x,y]=true↔r.take 2=[x,y]:=by
 unfold Lib.hasPrefix
 rw [List.isPrefixOf_iff_prefix,List.prefix_iff_eq_take];exact ⟨fun g=>g.symm,fun g=>g.symm⟩
theorem Zsy (r:Bs):twos.any (Lib.hasPrefix r)=true↔r.take 2∈twos:=by
 simp only [twos,SC,List.any_nil,T9,Zsx,Tt,Tr,or_false,Sn]
theorem Zmy:PCalls (GG w0 nG) 314 Zc3:=by
 refine pc (tbl:=[]) trivial Tryz.func314 ?_;intro args σ K h
 unfold Zc3 at h
 split at h
 ·rename_i s a
  obtain ⟨⟨h0,h1,hs⟩,h⟩:=h;obtain ⟨a,rfl⟩:∃n:Nat,a=n:=⟨a.toNat,by omega⟩
  simp only [Tj] at h;have hcu:cut s ((a:Int)).toNat (min ((a:Int)+2) (s.length:Int)).toNat=(s.drop a).take 2:=by
   rw [X8]
   by_cases h4:(a:Int)+2≤s.length
   ·rw [Int.min_eq_left h4];congr 1;omega
   ·exact m76
  have h2:=Zsy (s.drop a);generalize hu:(s.drop a).take 2=u at hcu h2;have hin:u∈twos→K (.ret (.d (.str u))) ⟨[],[],0⟩:=fun g=>by
   rw [Yh,Tf (h2.2 g),hu] at h;exact h
  refine ⟨Zb [(6,⟨[7],[0,1,6],fun vs σ=>σ=⟨[],[],0⟩∧∃i:Nat,vs=[.d (.int .i64 i)]∧i≤21∧∀j<i,ones.getD j 0≠s.getD a 0,fun vs _=>match vs with | [.d (.int _ n)]=>(21 - n).toNat | _=>0⟩)],0,false,by simp,Ta rfl,?_⟩;(conv=>whnf);refine oiO ?_;(conv=>whnf);refine ⟨by omega,by omega,by omega,?_⟩;(conv=>whnf);rw [hcu];have mem:∀x,x∈twos→u=x→K (.ret (.d (.str u))) ⟨[],[],0⟩:=fun x hx g=>hin (g ▸ hx)
  conv=>whnf
  refine ZAf (fun h3=>?_) (fun h3=>?_)
  ·conv=>whnf
   exact mem _ (by decide) h3
  conv=>whnf
  refine ZAf (fun h4=>?_) (fun h4=>?_)
  ·conv=>whnf
   exact mem _ (by decide) h4
  conv=>whnf
  refine ZAf (fun h5=>?_) (fun h5=>?_)
  ·conv=>whnf
   exact mem _ (by decide) h5
  conv=>whnf
  refine ZAf (fun h6=>?_) (fun h6=>?_)
  ·conv=>whnf
   exact mem _ (by decide) h6
  conv=>whnf
  refine ZAf (fun h7=>?_) (fun h7=>?_)
  ·conv=>whnf
   exact mem _ (by decide) h7
  have hno:¬u∈twos:=fun g=>by
   simp only [twos,Tt,Sn,or_false] at g;rcases g with g | g | g | g | g
   ·exact h3 g
   ·exact h4 g
   ·exact h5 g
   ·exact h6 g
   ·exact h7 g
  have hs1:Yh (s.drop a)=if ones.contains (s.getD a 0) then 1 else 0:=by
   rw [Yh,Tc (fun g=>hno (h2.1 g)),Lib.getD_dropU,Sa]
  conv=>whnf
  refine ⟨⟨rfl,0,rfl,by omega,by omega⟩,?_⟩;intro vs σ1 hI
  obtain ⟨rfl,i,rfl,hi,hj⟩:=hI;(conv=>whnf);have hol:ones.length=21:=rfl;(conv=>whnf);refine ZAf (fun h8=>?_) (fun h8=>?_)
  ·have h8':i<21:=by have:(i:Int)<(21:Int):=h8;omega
   have hget:∀x:UInt8,ones.getD i 0=x→ones.contains x=true:=fun x g=>by
    rw [Zce (by rw [hol];exact h8')] at g;rw [← g];simp
   conv=>whnf
   refine ⟨by omega,h8,?_⟩;(conv=>whnf);refine ⟨h0,h1,?_⟩;(conv=>whnf);refine ZAf (fun h9=>?_) (fun h9=>?_)
   ·have h9':ones.getD i 0=s.getD a 0:=by
     have:((ones.getD i 0).toNat:Int)=((s.getD a 0).toNat:Int):=h9;exact UInt8.toNat_inj.1 (by omega)
    conv=>whnf
    refine oiO ?_;(conv=>whnf);refine ⟨by omega,by omega,show (i:Int)+1≤21 by omega,?_⟩;(conv=>whnf);have e:cut ones ((i:Int)).toNat ((i:Int)+1).toNat=(s.drop a).take 1:=by
     rw [X8,show ((i:Int)+1).toNat - ((i:Int)).toNat=1 by omega,show ((i:Int)).toNat=i from rfl];rw [TM (by rw [hol];exact h8':i<ones.length),TM (by omega:a<s.length)];rw [Zce (by rw [hol];exact h8'),Zce (by omega)] at h9';rw [List.take_succ_cons,List.take_succ_cons,Si,Si,h9']
    rw [hs1,hget _ h9',Tf rfl,← e] at h;exact h
   ·conv=>whnf
    refine oiO ?_;(conv=>whnf);refine ⟨⟨rfl,i+1,rfl,by omega,fun j hj1 g=>?_⟩,?_⟩
    ·rcases Nat.lt_or_ge j i with g1 | g1
     ·exact hj j g1 g
     ·obtain rfl:j=i:=by omega
      exact h9 (show ((ones.getD j 0).toNat:Int)=((s.getD a 0).toNat:Int) by rw [g])
    ·exact (show ((21:Int) - ((i:Int)+1)).toNat<((21:Int) - (i:Int)).toNat by omega)
  ·have h8':21≤i:=by have:¬(i:Int)<(21:Int):=h8;omega
   have hc:ones.contains (s.getD a 0)=false:=by
    rw [Bool.eq_false_iff];intro g
    rw [List.contains_iff_mem] at g;obtain ⟨j,hj1,hj2⟩:=TW g;exact hj j (by rw [hol] at hj1;omega) (by rw [Zce hj1];exact hj2)
   conv=>whnf
   rw [hs1,hc,Tc (by simp),Si] at h;exact h
 ·exact h.elim
def Zqp (r:Bs):Bool:=Zf (pk r).1 || Zj (pk r).1 || decide ((pk r).1=34) || decide (0<Yh r)
noncomputable def Zjv:Zr:=fun args σ K=>match args,σ with
 | [.d (.str s),.d (.int .i64 a)],⟨[],[],0⟩=>(0≤a∧a<s.length∧s.length<4294967281)∧K (.ret (.d (.bool (Zqp (s.drop a.toNat))))) ⟨[],[],0⟩
 | _,_=>False
theorem Zla:Za Zjv:=fun args σ K K' hK h=>by
 unfold Zjv at h ⊢;split at h <;> first | exact ⟨h.1,hK _ _ h.2⟩ | exact h.elim
theorem Zc4 {r:Bs} (h0:0<r.length) {c:Int} (hc0:0≤c) (hc:c<128):(pk r).1=c↔((r.getD 0 0).toNat:Int)=c:=by
 constructor
 ·intro g
  have:=(Ziu r (by omega) (by omega)).2.1;omega
 ·intro g
  obtain ⟨b,l,rfl⟩:∃b l,r=b::l:=by cases r with | nil=>simp at h0 | cons b l=>exact ⟨b,l,rfl⟩
  have e:Lib.decodeL (b::l)=(b.toNat,1):=by
   rw [Lib.decodeL_N];simp only [Se,Td] at g ⊢;unfold Lib.decodeN
   rw [Tf (by omega)]
  unfold pk
  rw [Tc,e]
  ·simpa using g
  ·rw [e];simp only [not_or];exact ⟨by simp,fun k=>by have:=b.toNat_lt;injection k;omega⟩
theorem Zao {r:Bs} (h0:0<r.length):Zj (pk r).1=Zj ((r.getD 0 0).toNat:Int):=by
 have k:=fun (c:Int) h1 h2=>@Zc4 r h0 c h1 h2
 rw [Bool.eq_iff_iff,isDigit_iff,isDigit_iff]
 constructor
 ·intro g;have:=(k _ (by omega:0≤(pk r).1) (by omega)).1 rfl;omega
 ·intro g;have:=(k _ (by omega:0≤((r.getD 0 0).toNat:Int)) (by omega)).2 rfl;omega
noncomputable def ZvG:Tbl:=[(230,U1),(285,Wi),(314,Zc3)]
theorem ZvH:PCalls (GG w0 nG) 287 Zjv:=by
 refine pc (tbl:=ZvG) ⟨⟨ZbO,WQ⟩,⟨ZbN,Xh⟩,⟨Zmy,ZdE⟩,trivial⟩ Tryz.func287 ?_;intro args σ K h
 unfold Zjv at h
 split at h
 ·rename_i s a
  obtain ⟨⟨h0,h1,hs⟩,h⟩:=h;obtain ⟨a,rfl⟩:∃n:Nat,a=n:=⟨a.toNat,by omega⟩
  simp only [Tj] at h;have hr0:0<(s.drop a).length:=by rw [Tk];omega
  have hdg:=Zao hr0;have h34:=Zc4 hr0 (c:=34) (by omega) (by omega);rw [Lib.getD_dropU,Sa] at hdg h34;refine ⟨Zb [],0,false,by decide,Ta rfl,?_⟩;(conv=>whnf);refine ⟨⟨h0,hs⟩,?_⟩;(conv=>whnf);refine ZAi (fun h2=>?_) (fun h2=>?_)
  ·have h2':Zf (pk (s.drop a)).1=true:=h2;(conv=>whnf);rw [Zqp,h2',Bool.true_or,Bool.true_or,Bool.true_or] at h;exact h
  ·have h2':Zf (pk (s.drop a)).1=false:=h2;rw [Zqp,h2',SA] at h;(conv=>whnf);refine ⟨h0,h1,?_⟩;(conv=>whnf);have hbt:=(s.getD ((a:Int)).toNat 0).toNat_lt;refine Or.inl ⟨InR.i32 (by omega) (by omega),?_⟩;(conv=>whnf);refine ZAi (fun h3=>?_) (fun h3=>?_)
   ·have h3':Zj (pk (s.drop a)).1=true:=hdg.trans h3;(conv=>whnf);rw [h3',Bool.true_or,Bool.true_or] at h;exact h
   ·have h3':Zj (pk (s.drop a)).1=false:=hdg.trans h3;rw [h3',SA] at h;(conv=>whnf);refine ⟨h0,h1,?_⟩;(conv=>whnf);refine ZAf (fun h4=>?_) (fun h4=>?_)
    ·conv=>whnf
     rw [TC (h34.2 h4),Bool.true_or] at h;exact h
    ·rw [decide_eq_false (fun g=>h4 (h34.1 g)),SA] at h;(conv=>whnf);refine ⟨⟨h0,h1,hs⟩,?_⟩;(conv=>whnf);have hl:((s.drop a).take (Yh (s.drop a))).length=0↔Yh (s.drop a)=0:=by rw [Sl];omega
     refine ZbG h ?_;have e:∀n,(decide (0<n))=!(decide (n=0)):=fun n=>by cases n <;> simp
     rw [e]
     congr 1
     rw [decide_eq_decide,← hl];exact Sw
 ·exact h.elim
end Go.PM.Lex
end

section
namespace Go.PM.Lex
open Go.Proofs
variable {w0:World} {nG:Nat}
theorem Zmz {R:Bs} (h:Lib.hasPrefix R [47,47]=true):2≤(if Lib.indexByte R 10<0 then R.length else (Lib.indexByte R 10).toNat)∧(if Lib.indexByte R 10<0 then R.length else (Lib.indexByte R 10).toNat)≤R.length:=by
 have h1:=(Zz h).1;have h2:=VT 10 R;have h3:=ZbJ (c:=10) h (by decide) (by decide);split <;> omega
theorem UJ:∀(f g:Nat) (r:Bs),r.length<f→r.length<g→Zu f r=Zu g r
 | 0,_,r,h,_=>by omega
 | _,0,r,_,h=>by omega
 | f+1,g+1,r,hf,hg=>by
  have hle:=Zo4 r
  cases h1:Lib.hasPrefix (Lib.trimLeftS r ws) [47,47] with
  | true =>
   have h2:=Zmz h1;rw [WN h1 _ rfl,WN h1 _ rfl];rw [UJ f g _ (by rw [Tk];omega) (by rw [Tk];omega)]
  | false =>
   cases h2:Lib.hasPrefix (Lib.trimLeftS r ws) [47,42] with
   | false=>rw [Vu h1 h2,Vu h1 h2]
   | true =>
    have h4:=(Zz h2).1
    by_cases h3:Lib.index ((Lib.trimLeftS r ws).drop 2) [42,47]<0
    ·rw [WO h1 h2 h3,WO h1 h2 h3]
    ·rw [Vv h1 h2 (Lib.index ((Lib.trimLeftS r ws).drop 2) [42,47]).toNat (by omega),Vv h1 h2 (Lib.index ((Lib.trimLeftS r ws).drop 2) [42,47]).toNat (by omega)];rw [UJ f g _ (by rw [Tk];omega) (by rw [Tk];omega)]
theorem Zjw {f:Nat} {r:Bs} (h:r.length<f):Zu f r=Zt r:=UJ _ _ r h (by omega)
theorem ZvI {c:UInt8} {r:Bs} (h:ws.contains c=true):Lib.trimLeftS (c::r) ws=Lib.trimLeftS r ws:=by
 unfold Lib.trimLeftS;rw [List.dropWhile_cons,Tf h]
theorem Zqq {c:UInt8} {r:Bs} (h:ws.contains c=false):Lib.trimLeftS (c::r) ws=c::r:=by
 unfold Lib.trimLeftS;rw [List.dropWhile_cons,Tc (by rw [h];simp)]
theorem Zqr {c:UInt8} {r:Bs} (h:ws.contains c=true):Zt (c::r)=((Zt r).1,1+(Zt r).2):=by
 have ht:=ZvI (r:=r) h;have hle:=Zo4 r;have e:∀x:Bs,Zt x=Zu (x.length+1) x:=fun _=>rfl
 rw [e,e]
 cases h1:Lib.hasPrefix (Lib.trimLeftS r ws) [47,47] with
 | true =>
  have h1':=h1;rw [← ht] at h1';have h2:=Zmz h1;rw [WN h1' _ rfl,WN h1 _ rfl,ht,UJ (c::r).length r.length _ (by rw [Tk,Td];omega) (by rw [Tk];omega)];exact m179
 | false =>
  have h1':=h1;rw [← ht] at h1'
  cases h2:Lib.hasPrefix (Lib.trimLeftS r ws) [47,42] with
  | false =>
   have h2':=h2;rw [← ht] at h2';rw [Vu h1 h2,Vu h1' h2',ht];exact m179
  | true =>
   have h2':=h2;rw [← ht] at h2';have h4:=(Zz h2).1
   by_cases h3:Lib.index ((Lib.trimLeftS r ws).drop 2) [42,47]<0
   ·have h3':=h3;rw [← ht] at h3';rw [WO h1 h2 h3,WO h1' h2' h3',ht];exact m179
   ·have h3':Lib.index ((Lib.trimLeftS (c::r) ws).drop 2) [42,47]=((Lib.index ((Lib.trimLeftS r ws).drop 2) [42,47]).toNat:Nat):=by rw [ht];omega
    rw [Vv h1' h2' _ h3',Vv h1 h2 (Lib.index ((Lib.trimLeftS r ws).drop 2) [42,47]).toNat (by omega),ht];rw [UJ (c::r).length r.length _ (by rw [Tk,Td];omega) (by rw [Tk];omega)];exact m179
theorem ZhN {r:Bs} {a b:UInt8} (h:Lib.hasPrefix r [a,b]=true) (ha:ws.contains a=false):Lib.trimLeftS r ws=r:=by
 rw [(Zz h).2];exact Zqq ha
theorem Zlb {r:Bs} (h:Lib.hasPrefix r [47,47]=true) (n:Nat) (hn:n=if Lib.indexByte r 10<0 then r.length else (Lib.indexByte r 10).toNat):Zt r=((Zt (r.drop n)).1,n+(Zt (r.drop n)).2):=by
 have ht:=ZhN h (by decide);have h1:=h;rw [← ht] at h1;have h2:=Zmz h;have e:Zt r=Zu (r.length+1) r:=rfl;rw [e,WN h1 n (by rw [ht];exact hn),ht,Zjw (by rw [Tk];omega)];refine Prod.ext rfl ?_;simp
theorem Zqs {r:Bs} (h:Lib.hasPrefix r [47,42]=true):Lib.hasPrefix r [47,47]=false:=by
 rw [(Zz h).2];rfl
theorem Zlc {r:Bs} (h:Lib.hasPrefix r [47,42]=true) (h3:Lib.index (r.drop 2) [42,47]<0):Zt r=(false,0):=by
 have ht:=ZhN h (by decide);have h1:=h;rw [← ht] at h1;have h0:=Zqs h;rw [← ht] at h0;have e:Zt r=Zu (r.length+1) r:=rfl;rw [e,WO h0 h1 (by rw [ht];exact h3),ht];simp
theorem ZnR {r:Bs} (h:Lib.hasPrefix r [47,42]=true) (i:Nat) (h3:Lib.index (r.drop 2) [42,47]=i):Zt r=((Zt (r.drop (i+4))).1,i+4+(Zt (r.drop (i+4))).2):=by
 have ht:=ZhN h (by decide);have h1:=h;rw [← ht] at h1;have h0:=Zqs h;rw [← ht] at h0;have h4:=(Zz h).1;have e:Zt r=Zu (r.length+1) r:=rfl;rw [e,Vv h0 h1 i (by rw [ht];exact h3),ht,Zjw (by rw [Tk];omega)];refine Prod.ext rfl ?_;simp
theorem ZnS {c:UInt8} {r:Bs} (h:ws.contains c=false) (h1:Lib.hasPrefix (c::r) [47,47]=false) (h2:Lib.hasPrefix (c::r) [47,42]=false):Zt (c::r)=(true,0):=by
 have ht:=Zqq (r:=r) h;have e:Zt (c::r)=Zu ((c::r).length+1) (c::r):=rfl;rw [e,Vu (by rw [ht];exact h1) (by rw [ht];exact h2),ht];simp
theorem J1 {s:Bs} {a:Nat} (h:a<s.length):s.drop a=s.getD a 0::s.drop (a+1):=by
 rw [TM h,Zce h]
theorem ZfU {b c:UInt8} {l:Bs} (h:b≠c):Lib.indexByte (b::l) c=if Lib.indexByte l c<0 then -1 else Lib.indexByte l c+1:=by
 have hge:=Lib.indexByte_ge l c;simp only [Lib.indexByte];rw [Tc (by simpa using h)]
 by_cases h1:Lib.indexByte l c=-1
 ·rw [h1];simp
 ·rw [Tc (by simpa using h1),Tc (by omega)]
theorem ZnT {b:UInt8} {l p:Bs} (h:Lib.hasPrefix (b::l) p=false):Lib.index (b::l) p=if Lib.index l p<0 then -1 else Lib.index l p+1:=by
 have hge:=Lib.index_ge l p;unfold Lib.hasPrefix at h
 simp only [Lib.index];rw [Tc (by rw [h];simp)]
 by_cases h1:Lib.index l p=-1
 ·rw [h1];simp
 ·rw [Tc (by simpa using h1),Tc (by omega)]
theorem Zqt {l p:Bs} (h:Lib.hasPrefix l p=true) (hp:p≠[]):Lib.index l p=0:=by
 unfold Lib.hasPrefix at h
 cases l with
 | nil=>cases p with
  | nil=>exact absurd rfl hp
  | cons x p=>simp [List.isPrefixOf] at h
 | cons b l=>simp only [Lib.index];rw [Tf h]
theorem Zfr {l:Bs} (h:l.length≤1):Lib.index l [42,47]=-1:=by
 match l,h with
 | [],_=>rfl
 | [b],_=>simp [Lib.index,List.isPrefixOf]
def ZaO (k:Nat) (i:Int):Int:=if i<0 then -1 else i+k
theorem Zfs {k:Nat} {i:Int}:ZaO k (if i<0 then -1 else i+1)=ZaO (k+1) i:=by
 unfold ZaO
 split <;> split <;> omega
theorem Zft {i:Int} (h:-1≤i):ZaO 0 i=i:=by unfold ZaO;split <;> omega
noncomputable def Zcf:Zr:=fun args σ K=>match args,σ with
 | [.d (.str s),.d (.int .i64 a)],⟨[],[],0⟩=>(0≤a∧a≤s.length∧s.length<4294967281) ∧
   K (.ret (.tuple [.d (.int .i64 (a+(Zt (s.drop a.toNat)).2)),.d (.int .i64 (if (Zt (s.drop a.toNat)).1=true then -1 else a+(Zt (s.drop a.toNat)).2))])) ⟨[],[],0⟩
 | _,_=>False
theorem ZhO:Za Zcf:=fun args σ K K' hK h=>by
 unfold Zcf at h ⊢;split at h <;> first | exact ⟨h.1,hK _ _ h.2⟩ | exact h.elim
theorem Zqu:PCalls (GG w0 nG) 286 Zcf:=by
 refine V7 Z8 mixed (tbl:=[]) trivial Tryz.func286 rfl (by kernel_rfl) (by kernel_rfl) ?_;intro args σ K h
 unfold Zcf at h
 split at h
 ·rename_i s a
  obtain ⟨⟨h0,h1,hs⟩,h⟩:=h;obtain ⟨a,rfl⟩:∃n:Nat,a=n:=⟨a.toNat,by omega⟩
  simp only [Tj] at h;refine ⟨Zb [(1,⟨[1],[0],fun vs σ=>σ=⟨[],[],0⟩∧∃e:Nat,vs=[.d (.int .i64 e)]∧(a≤e∧e≤s.length)∧Zt (s.drop a)=((Zt (s.drop e)).1,e - a+(Zt (s.drop e)).2),muI s.length⟩),
   (8,⟨[1],[0,14],fun vs σ=>σ=⟨[],[],0⟩∧∃e x:Nat,vs=[.d (.str s),.d (.int .i64 e),.d (.int .i64 x)]∧(a≤e∧e≤x∧x≤s.length)∧Zt (s.drop a)=((Zt (s.drop e)).1,e - a+(Zt (s.drop e)).2)∧Lib.hasPrefix (s.drop e) [47,47]=true∧Lib.indexByte (s.drop e) 10=ZaO (x - e) (Lib.indexByte (s.drop x) 10),fun vs _=>match vs with | [_,_,.d (.int _ n)]=>((s.length:Int) - n).toNat | _=>0⟩),
   (12,⟨[8],[0,1],fun vs σ=>σ=⟨[],[],0⟩∧∃e x:Nat,vs=[.d (.str s),.d (.int .i64 e),.d (.int .i64 x)]∧(a≤e∧e+2≤x∧(x≤s.length∨x=s.length+1∧x=e+3))∧Zt (s.drop a)=((Zt (s.drop e)).1,e - a+(Zt (s.drop e)).2)∧Lib.hasPrefix (s.drop e) [47,42]=true∧(e+2<x→Lib.index (s.drop (e+2)) [42,47]=ZaO (x - 1 - (e+2)) (Lib.index (s.drop (x - 1)) [42,47])),fun vs _=>match vs with | [_,_,.d (.int _ n)]=>((s.length:Int)+1 - n).toNat | _=>0⟩)],W4 [],Yu [8,12],0,false,by simp,Ta rfl,?_⟩
  conv=>whnf
  refine ⟨⟨rfl,a,rfl,⟨by omega,by omega⟩,by simp⟩,?_⟩;intro vs σ1 hI
  obtain ⟨rfl,e,rfl,⟨he1,he2⟩,hE⟩:=hI;have stop:∀k,(Zt (s.drop e))=(true,k)→k=0→K (.ret (.tuple [.d (.int .i64 e),.d (.int .i64 (-1))])) ⟨[],[],0⟩:=fun k hk h3=>by
   subst h3;rw [hE,hk] at h;simp only [if_true] at h;rw [show (a:Int)+((e - a+0:Nat):Int)=(e:Int) by omega] at h;exact h
  conv=>whnf
  refine ZAf (fun h2=>?_) (fun h2=>?_)
  ·have h2':e<s.length:=by omega
   have hdh:=J1 h2';have hbt:=(s.getD e 0).toNat_lt;(conv=>whnf);refine ⟨by omega,by omega,?_⟩;(conv=>whnf);refine oiO ?_;(conv=>whnf);refine ⟨by omega,by omega,by omega,?_⟩;(conv=>whnf);have hcu:cut s ((e:Int)).toNat (min ((e:Int)+2) (s.length:Int)).toNat=(s.drop e).take 2:=by
    rw [X8]
    by_cases h4:(e:Int)+2≤s.length
    ·rw [Int.min_eq_left h4];congr 1;omega
    ·exact m76
   have hws:∀b:UInt8,s.getD e 0=b→ws.contains b=true→a≤e+1∧e+1≤s.length∧Zt (s.drop a)=((Zt (s.drop (e+1))).1,e+1 - a+(Zt (s.drop (e+1))).2):=fun b hb hw=>by
    refine ⟨by omega,by omega,?_⟩;rw [hE,hdh,hb,Zqr hw];refine Prod.ext rfl ?_;simp only;omega
   have byt:∀n:Nat,n<256→(((s.getD ((e:Int)).toNat 0).toNat:Int)=(n:Int)↔s.getD e 0=UInt8.ofNat n):=fun n hn=>by
    rw [Tj]
    constructor
    ·intro g;apply UInt8.toNat_inj.1;rw [UInt8.toNat_ofNat_of_lt' (by show n<256;omega)];omega
    ·intro g;rw [g,UInt8.toNat_ofNat_of_lt' (by show n<256;omega)]
   conv=>whnf
   refine ZAf (fun k1=>?_) (fun k1=>?_)
   ·obtain ⟨g1,g2,g3⟩:=hws _ ((byt 9 (by omega)).1 k1) (by decide);exact m57
   conv=>whnf
   refine ZAf (fun k2=>?_) (fun k2=>?_)
   ·obtain ⟨g1,g2,g3⟩:=hws _ ((byt 10 (by omega)).1 k2) (by decide);exact m57
   conv=>whnf
   refine ZAf (fun k3=>?_) (fun k3=>?_)
   ·obtain ⟨g1,g2,g3⟩:=hws _ ((byt 13 (by omega)).1 k3) (by decide);exact m57
   conv=>whnf
   refine ZAf (fun k4=>?_) (fun k4=>?_)
   ·obtain ⟨g1,g2,g3⟩:=hws _ ((byt 32 (by omega)).1 k4) (by decide);exact m57
   have hnw:ws.contains (s.getD e 0)=false:=by
    rw [Bool.eq_false_iff];intro g
    rw [List.contains_iff_mem] at g;simp only [Tt,Sn,or_false] at g;rcases g with g | g | g | g
    ·exact k4 ((byt 32 (by omega)).2 g)
    ·exact k1 ((byt 9 (by omega)).2 g)
    ·exact k3 ((byt 13 (by omega)).2 g)
    ·exact k2 ((byt 10 (by omega)).2 g)
   conv=>whnf
   rw [hcu];(conv=>whnf);refine ZAf (fun k5=>?_) (fun k5=>?_)
   ·have hp:Lib.hasPrefix (s.drop e) [47,47]=true:=(Zsx _ _ _).2 k5;(conv=>whnf);refine ⟨⟨rfl,e,e,rfl,⟨by omega,by omega,by omega⟩,hE,hp,by rw [Nat.sub_self,Zft (Lib.indexByte_ge _ _)]⟩,?_⟩;intro vs σ1 hI
    obtain ⟨rfl,e',x,hv,⟨x1,x2,x3⟩,hE',hp',hx⟩:=hI;obtain ⟨rfl,rfl⟩:e=e'∧vs=[.d (.int .i64 x)]:=by
     exact m171
    have hend:∀n,n=(if Lib.indexByte (s.drop e) 10<0 then (s.drop e).length else (Lib.indexByte (s.drop e) 10).toNat)→x=e+n→a≤x∧x≤s.length∧Zt (s.drop a)=((Zt (s.drop x)).1,x - a+(Zt (s.drop x)).2)∧e+2≤x:=fun n hn hxe=>by
     have:=Zmz hp;refine ⟨by omega,by omega,?_,by omega⟩;rw [hE,Zlb hp n hn,Tu,← hxe];refine Prod.ext rfl ?_;simp only;omega
    conv=>whnf
    refine ZAf (fun q1=>?_) (fun q1=>?_)
    ·have q1':x<s.length:=by omega
     have hxh:=J1 q1';(conv=>whnf);refine ⟨by omega,by omega,?_⟩;(conv=>whnf);refine ZAh (fun q2=>?_) (fun q2=>?_)
     ·have q2':s.getD x 0≠10:=fun g=>q2 (show ((s.getD ((x:Int)).toNat 0).toNat:Int)=10 by rw [Tj,g];rfl)
      conv=>whnf
      refine oiO ?_;(conv=>whnf);refine ⟨⟨rfl,e,x+1,rfl,⟨by omega,by omega,by omega⟩,hE,hp,?_⟩,(show ((s.length:Int) - ((x:Int)+1)).toNat<((s.length:Int) - (x:Int)).toNat by omega)⟩;rw [hx,hxh,ZfU q2',Zfs,show x+1 - e=x - e+1 by omega]
     ·have q2':s.getD x 0=10:=by
       have g:((s.getD ((x:Int)).toNat 0).toNat:Int)=10:=q2;rw [Tj] at g
       apply UInt8.toNat_inj.1;show (s.getD x 0).toNat=10;omega
      have h0:Lib.indexByte (s.drop x) 10=0:=by rw [hxh,q2'];rfl
      rw [h0] at hx;have hx':Lib.indexByte (s.drop e) 10=((x - e:Nat):Int):=by rw [hx];unfold ZaO;rw [Tc (by omega)];omega
      obtain ⟨g1,g2,g3,g4⟩:=hend (x - e) (by rw [hx',Tc (by omega)];omega) (by omega);exact m156
    ·have q1':x=s.length:=by omega
     have h0:Lib.indexByte (s.drop x) 10=-1:=by rw [q1',List.drop_length];rfl
     rw [h0] at hx;have hx':Lib.indexByte (s.drop e) 10=-1:=by rw [hx];rfl
     obtain ⟨g1,g2,g3,g4⟩:=hend (x - e) (by rw [hx',Tf (by omega),Tk];omega) (by omega);exact m156
   ·have hp:Lib.hasPrefix (s.drop e) [47,47]=false:=by rw [Bool.eq_false_iff];exact fun g=>k5 ((Zsx _ _ _).1 g)
    conv=>whnf
    refine ZAf (fun k6=>?_) (fun k6=>?_)
    ·have hp2:Lib.hasPrefix (s.drop e) [47,42]=true:=(Zsx _ _ _).2 k6;have hl2:e+2≤s.length:=by have:=(Zz hp2).1;rw [Tk] at this;omega
     conv=>whnf
     refine oiO ?_;(conv=>whnf);refine ⟨⟨rfl,e,e+2,rfl,⟨by omega,by omega,by omega⟩,hE,hp2,fun g=>by omega⟩,?_⟩;intro vs σ1 hI
     obtain ⟨rfl,e',x,hv,⟨x1,x2,x3⟩,hE',hp',hx⟩:=hI;obtain ⟨rfl,rfl⟩:e=e'∧vs=[.d (.int .i64 x)]:=by
      exact m171
     have hdd:(s.drop e).drop 2=s.drop (e+2):=by rw [Tu]
     have more:(e+2<x→Lib.hasPrefix (s.drop (x - 1)) [42,47]=false)→(e+2<x→x<s.length)→(e+2<x+1→Lib.index (s.drop (e+2)) [42,47]=ZaO (x+1 - 1 - (e+2)) (Lib.index (s.drop (x+1 - 1)) [42,47])):=fun g1 g2 _=>by
      rcases Nat.lt_or_ge (e+2) x with g | g
      ·have hxh:s.drop (x - 1)=s.getD (x - 1) 0::s.drop x:=by rw [J1 (show x - 1<s.length by have:=g2 g;omega),show x - 1+1=x by omega]
       rw [hx g,hxh,ZnT (by rw [← hxh];exact g1 g),Zfs,show x+1 - 1 - (e+2)=x - 1 - (e+2)+1 by omega,Nat.add_sub_cancel]
      ·obtain rfl:x=e+2:=by omega
       rw [Nat.add_sub_cancel,Nat.sub_self,Zft (Lib.index_ge _ _)]
     have out:s.length≤x→K (.ret (.tuple [.d (.int .i64 e),.d (.int .i64 e)])) ⟨[],[],0⟩:=fun g=>by
      have hneg:Lib.index ((s.drop e).drop 2) [42,47]<0:=by
       rw [hdd];rcases Nat.lt_or_ge (e+2) x with g1 | g1
       ·rw [hx g1,Zfr (by rw [Tk];omega)];exact (show (-1:Int)<0 by decide)
       ·rw [Zfr (by rw [Tk];omega)];decide
      have hb:=Zlc hp2 hneg;rw [hE,hb] at h;simp only [Tr,if_false] at h;rw [show (a:Int)+((e - a+0:Nat):Int)=(e:Int) by omega] at h;exact h
     conv=>whnf
     refine ZAf (fun q1=>?_) (fun q1=>?_)
     ·have q1':x<s.length:=by omega
      conv=>whnf
      refine oiO ?_;(conv=>whnf);refine oiO ?_;(conv=>whnf);refine ⟨by omega,by omega,by omega,?_⟩;(conv=>whnf);have hcx:cut s ((x:Int) - 1).toNat ((x:Int)+1).toNat=(s.drop (x - 1)).take 2:=by
       rw [X8,show ((x:Int) - 1).toNat=x - 1 by omega];congr 1;omega
      rw [hcx];(conv=>whnf);refine ZAh (fun q2=>?_) (fun q2=>?_)
      ·have q2':Lib.hasPrefix (s.drop (x - 1)) [42,47]=false:=by rw [Bool.eq_false_iff];exact fun g=>q2 ((Zsx _ _ _).1 g)
       conv=>whnf
       refine oiO ?_;(conv=>whnf);exact ⟨⟨rfl,e,x+1,rfl,⟨by omega,by omega,by omega⟩,hE,hp2,more (fun _=>q2') (fun _=>q1')⟩,(show ((s.length:Int)+1 - ((x:Int)+1)).toNat<((s.length:Int)+1 - (x:Int)).toNat by omega)⟩
      ·have q2':Lib.hasPrefix (s.drop (x - 1)) [42,47]=true:=(Zsx _ _ _).2 q2;(conv=>whnf);refine oiO ?_;(conv=>whnf);refine ZAf (fun q3=>?_) (fun q3=>?_)
       ·have q3':x=e+2:=by omega
        conv=>whnf
        refine oiO ?_;(conv=>whnf);exact ⟨⟨rfl,e,x+1,rfl,⟨by omega,by omega,by omega⟩,hE,hp2,more (fun g=>by omega) (fun _=>q1')⟩,(show ((s.length:Int)+1 - ((x:Int)+1)).toNat<((s.length:Int)+1 - (x:Int)).toNat by omega)⟩
       ·have q3':e+2<x:=by omega
        have hi:Lib.index ((s.drop e).drop 2) [42,47]=((x - 1 - (e+2):Nat):Int):=by
         rw [hdd,hx q3',Zqt q2' (by simp)];unfold ZaO;rw [Tc (by omega)];omega
        have hb:=ZnR hp2 _ hi;rw [Tu,show e+(x - 1 - (e+2)+4)=x+1 by omega] at hb;(conv=>whnf);refine ZAf (fun q4=>absurd q4 (by omega)) (fun q4=>?_);(conv=>whnf);refine oiO ?_;(conv=>whnf);refine ⟨⟨rfl,x+1,rfl,⟨by omega,by omega⟩,?_⟩,(show ((s.length:Int) - ((x:Int)+1)).toNat<((s.length:Int) - (e:Int)).toNat by omega)⟩;rw [hE,hb];refine Prod.ext rfl ?_;simp only;omega
     ·have q1':s.length≤x:=by omega
      conv=>whnf
      refine oiO ?_;(conv=>whnf);refine ZAf (fun q3=>?_) (fun q3=>?_)
      ·have q3':x=e+2:=by omega
       conv=>whnf
       refine oiO ?_;(conv=>whnf);exact ⟨⟨rfl,e,x+1,rfl,⟨by omega,by omega,by omega⟩,hE,hp2,more (fun g=>by omega) (fun g=>by omega)⟩,(show ((s.length:Int)+1 - ((x:Int)+1)).toNat<((s.length:Int)+1 - (x:Int)).toNat by omega)⟩
      ·conv=>whnf
       refine ZAf (fun q4=>?_) (fun q4=>absurd (show (x:Int)≥s.length by omega) q4);(conv=>whnf);exact out q1'
    ·have hp2:Lib.hasPrefix (s.drop e) [47,42]=false:=by rw [Bool.eq_false_iff];exact fun g=>k6 ((Zsx _ _ _).1 g)
     conv=>whnf
     refine stop 0 ?_ rfl;rw [hdh] at hp hp2 ⊢;exact ZnS hnw hp hp2
  ·have h2':e=s.length:=by omega
   conv=>whnf
   refine stop 0 ?_ rfl;rw [h2',List.drop_length];exact Zne
 ·exact h.elim
end Go.PM.Lex
end
