/- A part of the proof: plain logic, contracts and laws over the given program. -/
import Derived.Lib.LaidTab
import Derived.Test.YtkoicjdlpkaopaaGreatDoorRows
import Derived.Test.YtkoicjdlpkaopaaGreatDoorTie
import Derived.Test.YtkoicjdlpkaopaaGreatDoorCards
import Derived.ProofKit
import Derived.OpenShut
import Derived.LaidMore
import Derived.Lay
import Derived.LaidSub
import Derived.SevenTiedAt
import Derived.Stop.Joined
import Derived.Stop.LaidErr
import Derived.Lib.LaidU8T
import Derived.JoinedOf
import Derived.Deep.Slices
import Derived.ChangeArms
import Derived.DataReads
import Derived.Test.YtkoicjdlpkaopaaGreatDoorU10
set_option linter.unusedVariables false
set_option linter.unusedSimpArgs false
set_option linter.all false
set_option maxRecDepth 100000
set_option maxHeartbeats 16000000
section
namespace Go.PM.Lex
open Go.Proofs
variable {w0:World} {nG:Nat}
def ZwH (x:Un):Bool:=Za2 x && ZiL x
def Zsn (x:Co):Bool:=Yd x && Zdy x
theorem Zwg {tys:List Ty} {rels:List Re} {rules:List Ru} {comps:List Co} {inits:List Ini} {overs:List Ov} (h:ZwH (.mk tys rels rules comps inits overs)=true) :
  (∀x∈tys,Z6 x=true)/\(∀x∈rels,Xu x=true)/\(∀x∈rules,Zyl x=true)/\∀x∈comps,Zsn x=true:=by
 simp only [ZwH,Tk] at h;obtain ⟨h,hr⟩:=h;obtain ⟨m1,m2,m3,m4,m5,m6⟩:=Zuc h;simp only [ZiL,V7,Tk] at hr;have r1:=Tm.1 hr.1;have r2:=Tm.1 hr.2;exact ⟨m1,m2,fun x hx=>by rw [Zyl,m3 x hx,r1 x hx];rfl,fun x hx=>by rw [Zsn,m4 x hx,r2 x hx];rfl⟩
theorem Zso {nm:Bs} {ps:List Bs} {base:Bs} {tys:List Bs} {u:Un} {a:Nat} (h:Zsn (.mk nm ps base tys u a)=true):ZwH u=true:=by
 simp only [Zsn,Tk] at h;rw [ZwH,(ZjP h.1).2.2.2.2];have:=h.2;rw [Zdy] at this;rw [this];rfl
def Zed (r:Ru):Bs:=ruT r++[10]
noncomputable def Zys (body:List PV->Bs->Prop):Zt:=fun args σ K=>match args,σ with
 | .ptr 0 0::rest,⟨[.cells t [p,.sl 0 e rows]],[0],1⟩=>∃l txt,rows=Zj l/\((p=.d .nilp\/p=.ptr 0 0)/\t=60/\e=5)/\body rest txt/\l.length+txt.length<70368744177664 /\
   ∀p',(p'=.d .nilp\/p'=.ptr 0 0)->K (.ret (.tuple [])) ⟨[.cells t [p',.sl 0 e (Zj (l++txt))]],[0],1⟩
 | _,_=>False
noncomputable def ZwI (n:Nat):Zt:=Zys fun rest txt=>∃pl x,rest=[Xh Yg pl x]/\(ZwH x=true/\wUn x<=n/\n<=1073741824)/\txt=unT x
theorem Y1 {α:Type} (T:α->Bs) {xs:List α} {i:Nat} (h:i<xs.length):((xs.take (i+1)).map T).flatten=((xs.take i).map T).flatten++T xs[i]:=by
 rw [List.take_succ_eq_append_getElem h,SG,List.flatten_append];simp
theorem WP {α:Type} (T:α->Bs) (xs:List α) (i:Nat):((xs.take i).map T).flatten.length<=(xs.map T).flatten.length:=by
 have e:(xs.map T).flatten=((xs.take i).map T).flatten++((xs.drop i).map T).flatten:=by rw [<- List.flatten_append,<- SG,List.take_append_drop]
 rw [e,Tb];omega
noncomputable def Zyt (n:Nat):Tbl:=[(52,Zen),(53,Zsm n),(54,Zo2 55 (fun _=>ZZ) YO caT wCa n),(56,Zwf n),(57,Zy6 n),(15,spB ZwI n)]
theorem Zyu {n:Nat} (ht:TO w0 nG (Zyt n)):PC w0 nG 15 (ZwI n):=by
 refine ZtN Zb mixed (tbl:=Zyt n) ht Tryz.func15 rfl kR kR ?_;intro args σ K h
 unfold ZwI Zys at h
 split at h
 ·rename_i rest t p e rows
  obtain ⟨l,txt,rfl,⟨hp,rfl,rfl⟩,⟨pl,⟨tys,rels,rules,comps,inits,overs⟩,rfl,⟨dy,hz,hn⟩,rfl⟩,ab,h⟩:=h;obtain ⟨m1,m2,m3,m4⟩:=Zwg dy;have hz:szS wTy tys+szS wRe rels+szS wRu rules+szS wCo comps+szS wIn inits+szS wOv overs+1<=n:=by rw [wUn,XB] at hz;omega
  have hu:unT (.mk tys rels rules comps inits overs)=(tys.map tyT).flatten++((rels.map reT).flatten++((comps.map coT).flatten++((inits.map inT).flatten++((overs.map ovT).flatten++(rules.map Zed).flatten)))):=by rw [unT,Znw];rfl
  rw [hu] at ab;simp only [Tb] at ab;have h:∀p',(p'=.d .nilp\/p'=.ptr 0 0)->K (.ret (.tuple [])) ⟨[.cells 60 [p',.sl 0 5 (Zj (l++(tys.map tyT).flatten++(rels.map reT).flatten++(comps.map coT).flatten++(inits.map inT).flatten++(overs.map ovT).flatten++(rules.map Zed).flatten))]],[0],1⟩:=by
   rw [hu] at h;simpa only [Th] using h
  have ec:YQ pl comps=comps.map (YG pl):=ZN pl comps;have s1:=Zp wTy tys;have s2:=Zp wRe rels;have s3:=Zp wRu rules;have s4:=Zp wCo comps;have s5:=Zp wIn inits;have s6:=Zp wOv overs;refine ⟨Za [(2,⟨[21],[2,3,19,20],fun vs σ=>∃(i:Nat) (P:PV),vs=[.d (.int .i64 i)]/\σ=⟨[.cells 60 [P,.sl 0 5 (Zj (l++((tys.take i).map tyT).flatten))],.cells 54 [.ptr 0 0],.cells 29 ((Yg pl (.mk tys rels rules comps inits overs)).map .d)],[0],1⟩/\(P=.d .nilp\/P=.ptr 0 0)/\i<=tys.length,mu1 tys.length⟩),(15,⟨[60],[2,3,58,59],fun vs σ=>∃(i:Nat) (P:PV),vs=[.d (.int .i64 i)]/\σ=⟨[.cells 60 [P,.sl 0 5 (Zj (l++(tys.map tyT).flatten++((rels.take i).map reT).flatten))],.cells 54 [.ptr 0 0],.cells 29 ((Yg pl (.mk tys rels rules comps inits overs)).map .d)],[0],1⟩/\(P=.d .nilp\/P=.ptr 0 0)/\i<=rels.length,mu1 rels.length⟩),(27,⟨[98],[2,3,96,97],fun vs σ=>∃(i:Nat) (P:PV),vs=[.d (.int .i64 i)]/\σ=⟨[.cells 60 [P,.sl 0 5 (Zj (l++(tys.map tyT).flatten++(rels.map reT).flatten++((comps.take i).map coT).flatten))],.cells 54 [.ptr 0 0],.cells 29 ((Yg pl (.mk tys rels rules comps inits overs)).map .d)],[0],1⟩/\(P=.d .nilp\/P=.ptr 0 0)/\i<=comps.length,mu1 comps.length⟩),(37,⟨[135],[2,3,133,134],fun vs σ=>∃(i:Nat) (P:PV),vs=[.d (.int .i64 i)]/\σ=⟨[.cells 60 [P,.sl 0 5 (Zj (l++(tys.map tyT).flatten++(rels.map reT).flatten++(comps.map coT).flatten++((inits.take i).map inT).flatten))],.cells 54 [.ptr 0 0],.cells 29 ((Yg pl (.mk tys rels rules comps inits overs)).map .d)],[0],1⟩/\(P=.d .nilp\/P=.ptr 0 0)/\i<=inits.length,mu1 inits.length⟩),(42,⟨[153],[2,3,151,152],fun vs σ=>∃(i:Nat) (P:PV),vs=[.d (.int .i64 i)]/\σ=⟨[.cells 60 [P,.sl 0 5 (Zj (l++(tys.map tyT).flatten++(rels.map reT).flatten++(comps.map coT).flatten++(inits.map inT).flatten++((overs.take i).map ovT).flatten))],.cells 54 [.ptr 0 0],.cells 29 ((Yg pl (.mk tys rels rules comps inits overs)).map .d)],[0],1⟩/\(P=.d .nilp\/P=.ptr 0 0)/\i<=overs.length,mu1 overs.length⟩),(47,⟨[166],[2,3,164,165],fun vs σ=>∃(i:Nat) (P:PV),vs=[.d (.int .i64 i)]/\σ=⟨[.cells 60 [P,.sl 0 5 (Zj (l++(tys.map tyT).flatten++(rels.map reT).flatten++(comps.map coT).flatten++(inits.map inT).flatten++(overs.map ovT).flatten++((rules.take i).map Zed).flatten))],.cells 54 [.ptr 0 0],.cells 29 ((Yg pl (.mk tys rels rules comps inits overs)).map .d)],[0],1⟩/\(P=.d .nilp\/P=.ptr 0 0)/\i<=rules.length,mu1 rules.length⟩)],Wv [(19,4)],Ys [],Ys [],Ys [],ZwR [(14,([2,3],fun vs σ=>∃P:PV,vs=[.ptr 1 0,.ptr 2 0]/\σ=⟨[.cells 60 [P,.sl 0 5 (Zj (l++(tys.map tyT).flatten))],.cells 54 [.ptr 0 0],.cells 29 ((Yg pl (.mk tys rels rules comps inits overs)).map .d)],[0],1⟩/\(P=.d .nilp\/P=.ptr 0 0))),(26,([2,3],fun vs σ=>∃P:PV,vs=[.ptr 1 0,.ptr 2 0]/\σ=⟨[.cells 60 [P,.sl 0 5 (Zj (l++(tys.map tyT).flatten++(rels.map reT).flatten))],.cells 54 [.ptr 0 0],.cells 29 ((Yg pl (.mk tys rels rules comps inits overs)).map .d)],[0],1⟩/\(P=.d .nilp\/P=.ptr 0 0))),(36,([2,3],fun vs σ=>∃P:PV,vs=[.ptr 1 0,.ptr 2 0]/\σ=⟨[.cells 60 [P,.sl 0 5 (Zj (l++(tys.map tyT).flatten++(rels.map reT).flatten++(comps.map coT).flatten))],.cells 54 [.ptr 0 0],.cells 29 ((Yg pl (.mk tys rels rules comps inits overs)).map .d)],[0],1⟩/\(P=.d .nilp\/P=.ptr 0 0))),(41,([2,3],fun vs σ=>∃P:PV,vs=[.ptr 1 0,.ptr 2 0]/\σ=⟨[.cells 60 [P,.sl 0 5 (Zj (l++(tys.map tyT).flatten++(rels.map reT).flatten++(comps.map coT).flatten++(inits.map inT).flatten))],.cells 54 [.ptr 0 0],.cells 29 ((Yg pl (.mk tys rels rules comps inits overs)).map .d)],[0],1⟩/\(P=.d .nilp\/P=.ptr 0 0))),(46,([2,3],fun vs σ=>∃P:PV,vs=[.ptr 1 0,.ptr 2 0]/\σ=⟨[.cells 60 [P,.sl 0 5 (Zj (l++(tys.map tyT).flatten++(rels.map reT).flatten++(comps.map coT).flatten++(inits.map inT).flatten++(overs.map ovT).flatten))],.cells 54 [.ptr 0 0],.cells 29 ((Yg pl (.mk tys rels rules comps inits overs)).map .d)],[0],1⟩/\(P=.d .nilp\/P=.ptr 0 0)))],1,true,sM,Ta rfl,?_⟩;rcases hp with rfl | rfl
  all_goals
   conv=>whnf
   refine ⟨wN ?_,?_⟩
   ·refine ⟨⟨0,_,rfl,zN,iM,oM⟩,?_⟩;intro vs σ hI
    obtain ⟨i,P,rfl,rfl,hP,hi⟩:=hI;(conv=>whnf);refine ZBC (fun aa=>?_) (fun aa=>?_)
    ·have dx:(tys.map (Z1 pl)).length=tys.length:=Te ..;have aa:i<tys.length:=lzI dx aa;have hg:=Zs wTy tys i aa;have ao:=Y1 tyT aa;have ak:=WP tyT tys (i+1);have dq:=TD aa;obtain ⟨L,hL⟩:∃L,l++((tys.take i).map tyT).flatten=L:=⟨_,rfl⟩
     have qb:L.length=(l).length+((tys.take i).map tyT).flatten.length:=by rw [<- hL,Tb]
     (try simp only [Tb] at qb)
     rw [ao,Tb] at ak;rw [hL];obtain ⟨x,hX⟩:∃x,tys[i]=x:=⟨_,rfl⟩
     rw [hX] at hg dq ao ak;obtain ⟨kd,nm,base,fs,cs,at'⟩:=x;have bu:l++((tys.take (i+1)).map tyT).flatten=L++tyT ⟨kd,nm,base,fs,cs,at'⟩:=by rw [ao,<- Th,hL]
     have ae:(tys.map (Z1 pl))[((i:Nat):Int).toNat]?=some (Z1 pl ⟨kd,nm,base,fs,cs,at'⟩):=by simp [aa,hX]
     obtain ⟨q1,q2,q3,q4⟩:=Zq2 (m1 _ dq);simp only at q1 q2 q3 q4;have hg2:wTy ⟨kd,nm,base,fs,cs,at'⟩=1+nm.length+base.length+szS wFi fs+szS wCa cs:=rfl;have hw:nm.length+base.length+szS wFi fs+szS wCa cs<=n:=oM;(conv=>whnf);refine ⟨_,oM,ae,?_⟩
     by_cases k1:kd=1
     ·have hT:tyT ⟨kd,nm,base,fs,cs,at'⟩=[116,121,112,101,32]++(nm++(([32,60,58,32]++base)++[10])):=by rw [tyT,Tg k1]
      rw [hT] at ak;simp only [Tb,Td,Tf] at ak;rcases hP with rfl | rfl
      all_goals
       conv=>whnf
       refine ⟨L,[116,121,112,101,32]++nm,rfl,⟨iM,rfl,rfl⟩,⟨[[116,121,112,101,32],nm],rfl,sM,sM,sM⟩,(by (try simp only [Tb,Td,Tf]);omega),?_⟩;(conv=>whnf);refine ZBC (fun _=>?_) (fun g=>absurd (show (kd:Int)=1 by omega) g);(conv=>whnf);refine ⟨L++([116,121,112,101,32]++nm),[32,60,58,32]++base,rfl,⟨.inr rfl,rfl,rfl⟩,⟨[[32,60,58,32],base],rfl,sM,sM,sM⟩,(by (try simp only [Tb,Td,Tf]);omega),?_⟩;(conv=>whnf);refine ⟨L++([116,121,112,101,32]++nm)++([32,60,58,32]++base),[10],rfl,⟨.inr rfl,rfl,rfl⟩,⟨[[10]],rfl,sM,sM,sM⟩,(by (try simp only [Tb,Td,Tf]);omega),?_⟩;(conv=>whnf);refine Or.inl ⟨InR.i64 oM oM,wN ?_⟩;refine ⟨⟨i+1,_,rfl,(by rw [bu,hT];simp only [Th];rfl),.inr rfl,oM⟩,?_⟩;exact lzM oM
     by_cases k2:kd=2
     ·have hT:tyT ⟨kd,nm,base,fs,cs,at'⟩=[116,121,112,101,32]++(nm++(VB [32,61,32,91] fs [93]++[10])):=by rw [tyT,Tc k1,Tg k2]
      rw [hT] at ak;simp only [Tb,Td,Tf] at ak;rcases hP with rfl | rfl
      all_goals
       conv=>whnf
       refine ⟨L,[116,121,112,101,32]++nm,rfl,⟨iM,rfl,rfl⟩,⟨[[116,121,112,101,32],nm],rfl,sM,sM,sM⟩,(by (try simp only [Tb,Td,Tf]);omega),?_⟩;(conv=>whnf);refine ZBC (fun g=>absurd (show kd=1 by have g:(kd:Int)=1:=g;omega) k1) (fun _=>wN ?_);refine ZBC (fun _=>?_) (fun g=>absurd (show (kd:Int)=2 by omega) g);(conv=>whnf);refine ⟨L++([116,121,112,101,32]++nm),VB [32,61,32,91] fs [93],rfl,⟨.inr rfl,rfl,rfl⟩,⟨[32,61,32,91],[93],fs,rfl,⟨Tm.2 q2,oM,oM⟩,rfl⟩,(by (try simp only [Tb,Td,Tf]);omega),?_⟩;(conv=>whnf);refine ⟨L++([116,121,112,101,32]++nm)++VB [32,61,32,91] fs [93],[10],rfl,⟨.inr rfl,rfl,rfl⟩,⟨[[10]],rfl,sM,sM,sM⟩,(by (try simp only [Tb,Td,Tf]);omega),?_⟩;(conv=>whnf);refine Or.inl ⟨InR.i64 oM oM,wN ?_⟩;refine ⟨⟨i+1,_,rfl,(by rw [bu,hT];simp only [Th];rfl),.inr rfl,oM⟩,?_⟩;exact lzM oM
     have hT:tyT ⟨kd,nm,base,fs,cs,at'⟩=[116,121,112,101,32]++(nm++([32,61,32]++(Zh [32,124,32] (cs.map caT)++[10]))):=by rw [tyT,Tc k1,Tc k2];simp only [Th]
     rw [hT] at ak;simp only [Tb,Td,Tf] at ak;rcases hP with rfl | rfl
     all_goals
      conv=>whnf
      refine ⟨L,[116,121,112,101,32]++nm,rfl,⟨iM,rfl,rfl⟩,⟨[[116,121,112,101,32],nm],rfl,sM,sM,sM⟩,(by (try simp only [Tb,Td,Tf]);omega),?_⟩;(conv=>whnf);refine ZBC (fun g=>absurd (show kd=1 by have g:(kd:Int)=1:=g;omega) k1) (fun _=>wN ?_);refine ZBC (fun g=>absurd (show kd=2 by have g:(kd:Int)=2:=g;omega) k2) (fun _=>wN ?_);refine ⟨L++([116,121,112,101,32]++nm),[32,61,32],rfl,⟨.inr rfl,rfl,rfl⟩,⟨[[32,61,32]],rfl,sM,sM,sM⟩,(by (try simp only [Tb,Td,Tf]);omega),?_⟩;(conv=>whnf);refine ⟨L++([116,121,112,101,32]++nm)++[32,61,32],fun _=>0,cs,rfl,rfl,⟨rfl,rfl,rfl⟩,⟨Tm.2 q3,oM,oM⟩,(by (try simp only [Tb,Td,Tf]);show _+(Zh [32,124,32] (cs.map caT)).length<_;omega),?_⟩;(conv=>whnf);refine ⟨L++([116,121,112,101,32]++nm)++[32,61,32]++Zh [32,124,32] (cs.map caT),[10],rfl,⟨.inr rfl,rfl,rfl⟩,⟨[[10]],rfl,sM,sM,sM⟩,(by (try simp only [Tb,Td,Tf]);omega),?_⟩;(conv=>whnf);refine Or.inl ⟨InR.i64 oM oM,wN ?_⟩;refine ⟨⟨i+1,_,rfl,(by rw [bu,hT];simp only [Th];rfl),.inr rfl,oM⟩,?_⟩;exact lzM oM
    have aa:i=tys.length:=by
     have dx:(tys.map (Z1 pl)).length=tys.length:=Te ..;have aa:¬(i:Int)<(tys.map (Z1 pl)).length:=aa;rw [dx] at aa;omega
    subst aa;rw [TJ];rcases hP with rfl | rfl
    all_goals
     conv=>whnf
     exact ⟨_,rfl,rfl,iM⟩
   intro vs σ hI
   obtain ⟨P,rfl,rfl,hP⟩:=hI;(conv=>whnf);refine ⟨?_,?_⟩
   ·rcases hP with rfl | rfl
    all_goals
     conv=>whnf
     refine ⟨⟨0,_,rfl,zN,iM,oM⟩,?_⟩;intro vs σ hI
     obtain ⟨i,P,rfl,rfl,hP,hi⟩:=hI;(conv=>whnf);refine ZBC (fun aa=>?_) (fun aa=>?_)
     ·have dx:(rels.map (Z3 pl)).length=rels.length:=Te ..;have aa:i<rels.length:=lzI dx aa;have hg:=Zs wRe rels i aa;have ao:=Y1 reT aa;have ak:=WP reT rels (i+1);have dq:=TD aa;obtain ⟨L,hL⟩:∃L,l++(tys.map tyT).flatten++((rels.take i).map reT).flatten=L:=⟨_,rfl⟩
      have qb:L.length=(l++(tys.map tyT).flatten).length+((rels.take i).map reT).flatten.length:=by rw [<- hL,Tb]
      (try simp only [Tb] at qb)
      rw [ao,Tb] at ak;rw [hL];obtain ⟨x,hX⟩:∃x,rels[i]=x:=⟨_,rfl⟩
      rw [hX] at hg dq ao ak;obtain ⟨nm,fs,b1,b2,b3,at'⟩:=x;have bu:l++(tys.map tyT).flatten++((rels.take (i+1)).map reT).flatten=L++reT ⟨nm,fs,b1,b2,b3,at'⟩:=by rw [ao,<- Th,hL]
      have ae:(rels.map (Z3 pl))[((i:Nat):Int).toNat]?=some (Z3 pl ⟨nm,fs,b1,b2,b3,at'⟩):=by simp [aa,hX]
      have q:=m2 _ dq;simp only [Xu,Tk] at q;obtain ⟨q1,q2⟩:=q;have q2:=Tm.1 q2;have hg2:wRe ⟨nm,fs,b1,b2,b3,at'⟩=1+nm.length+szS wFi fs:=rfl;have hw:nm.length+szS wFi fs<=n:=oM;(conv=>whnf);refine ⟨_,oM,ae,?_⟩;have ua:reT ⟨nm,fs,b1,b2,b3,at'⟩=VB ([100,101,99,108,32]++nm++[40]) fs [41]++((if b1 then [32,105,110,112,117,116] else [])++((if b2 then [32,111,117,116,112,117,116] else [])++((if b3 then [32,105,110,108,105,110,101] else [])++[10]))):=by rw [reT];simp only [Th]
      rcases hP with rfl | rfl
      all_goals
       conv=>whnf
       refine ⟨by simp only [Td,Tf];omega,wN ?_⟩;refine ⟨by simp only [Tb,Td,Tf];omega,?_⟩
       cases b1 <;> cases b2 <;> cases b3
       ·have hT:=ua;simp only [if_true,To,if_false,T3] at hT;rw [hT] at ak;simp only [Tb,Td,Tf] at ak;(conv=>whnf);refine ⟨L,VB ([100,101,99,108,32]++nm++[40]) fs [41],rfl,⟨iM,rfl,rfl⟩,⟨([100,101,99,108,32]++nm++[40]),[41],fs,rfl,⟨Tm.2 q2,oM,oM⟩,rfl⟩,(by (try simp only [Tb,Td,Tf]);omega),?_⟩;(conv=>whnf);refine ⟨dM,dM,wN ?_⟩;refine Or.inl ⟨InR.i64 dM dM,wN ?_⟩;refine ⟨dM,dM,wN ?_⟩;refine Or.inl ⟨InR.i64 dM dM,wN ?_⟩;refine ⟨dM,dM,wN ?_⟩;refine Or.inl ⟨InR.i64 dM dM,wN ?_⟩;refine ⟨L++VB ([100,101,99,108,32]++nm++[40]) fs [41],[10],rfl,⟨.inr rfl,rfl,rfl⟩,⟨[[10]],rfl,sM,sM,sM⟩,(by (try simp only [Tb,Td,Tf]);omega),?_⟩;exact m34
       ·have hT:=ua;simp only [if_true,To,if_false,T3] at hT;rw [hT] at ak;simp only [Tb,Td,Tf] at ak;(conv=>whnf);refine ⟨L,VB ([100,101,99,108,32]++nm++[40]) fs [41],rfl,⟨iM,rfl,rfl⟩,⟨([100,101,99,108,32]++nm++[40]),[41],fs,rfl,⟨Tm.2 q2,oM,oM⟩,rfl⟩,(by (try simp only [Tb,Td,Tf]);omega),?_⟩;(conv=>whnf);refine ⟨dM,dM,wN ?_⟩;refine Or.inl ⟨InR.i64 dM dM,wN ?_⟩;refine ⟨dM,dM,wN ?_⟩;refine Or.inl ⟨InR.i64 dM dM,wN ?_⟩;refine ⟨dM,dM,wN ?_⟩;refine ⟨dM,dM,wN ?_⟩;refine ⟨L++VB ([100,101,99,108,32]++nm++[40]) fs [41],[32,105,110,108,105,110,101],rfl,⟨.inr rfl,rfl,rfl⟩,⟨[[32,105,110,108,105,110,101]],rfl,sM,sM,sM⟩,(by (try simp only [Tb,Td,Tf]);omega),?_⟩;(conv=>whnf)
        (repeat (refine ⟨rfl,?_⟩;conv=>whnf))
        conv=>whnf
        refine Or.inl ⟨InR.i64 dM dM,wN ?_⟩;refine ⟨L++VB ([100,101,99,108,32]++nm++[40]) fs [41]++[32,105,110,108,105,110,101],[10],rfl,⟨.inr rfl,rfl,rfl⟩,⟨[[10]],rfl,sM,sM,sM⟩,(by (try simp only [Tb,Td,Tf]);omega),?_⟩;exact m34
       ·have hT:=ua;simp only [if_true,To,if_false,T3] at hT;rw [hT] at ak;simp only [Tb,Td,Tf] at ak;(conv=>whnf);refine ⟨L,VB ([100,101,99,108,32]++nm++[40]) fs [41],rfl,⟨iM,rfl,rfl⟩,⟨([100,101,99,108,32]++nm++[40]),[41],fs,rfl,⟨Tm.2 q2,oM,oM⟩,rfl⟩,(by (try simp only [Tb,Td,Tf]);omega),?_⟩;(conv=>whnf);refine ⟨dM,dM,wN ?_⟩;refine Or.inl ⟨InR.i64 dM dM,wN ?_⟩;refine ⟨dM,dM,wN ?_⟩;refine ⟨dM,dM,wN ?_⟩;refine ⟨L++VB ([100,101,99,108,32]++nm++[40]) fs [41],[32,111,117,116,112,117,116],rfl,⟨.inr rfl,rfl,rfl⟩,⟨[[32,111,117,116,112,117,116]],rfl,sM,sM,sM⟩,(by (try simp only [Tb,Td,Tf]);omega),?_⟩;(conv=>whnf)
        (repeat (refine ⟨rfl,?_⟩;conv=>whnf))
        conv=>whnf
        refine Or.inl ⟨InR.i64 dM dM,wN ?_⟩;refine ⟨dM,dM,wN ?_⟩;refine Or.inl ⟨InR.i64 dM dM,wN ?_⟩;refine ⟨L++VB ([100,101,99,108,32]++nm++[40]) fs [41]++[32,111,117,116,112,117,116],[10],rfl,⟨.inr rfl,rfl,rfl⟩,⟨[[10]],rfl,sM,sM,sM⟩,(by (try simp only [Tb,Td,Tf]);omega),?_⟩;exact m34
       ·have hT:=ua;simp only [if_true,To,if_false,T3] at hT;rw [hT] at ak;simp only [Tb,Td,Tf] at ak;(conv=>whnf);refine ⟨L,VB ([100,101,99,108,32]++nm++[40]) fs [41],rfl,⟨iM,rfl,rfl⟩,⟨([100,101,99,108,32]++nm++[40]),[41],fs,rfl,⟨Tm.2 q2,oM,oM⟩,rfl⟩,(by (try simp only [Tb,Td,Tf]);omega),?_⟩;(conv=>whnf);refine ⟨dM,dM,wN ?_⟩;refine Or.inl ⟨InR.i64 dM dM,wN ?_⟩;refine ⟨dM,dM,wN ?_⟩;refine ⟨dM,dM,wN ?_⟩;refine ⟨L++VB ([100,101,99,108,32]++nm++[40]) fs [41],[32,111,117,116,112,117,116],rfl,⟨.inr rfl,rfl,rfl⟩,⟨[[32,111,117,116,112,117,116]],rfl,sM,sM,sM⟩,(by (try simp only [Tb,Td,Tf]);omega),?_⟩;(conv=>whnf)
        (repeat (refine ⟨rfl,?_⟩;conv=>whnf))
        conv=>whnf
        refine Or.inl ⟨InR.i64 dM dM,wN ?_⟩;refine ⟨dM,dM,wN ?_⟩;refine ⟨dM,dM,wN ?_⟩;refine ⟨L++VB ([100,101,99,108,32]++nm++[40]) fs [41]++[32,111,117,116,112,117,116],[32,105,110,108,105,110,101],rfl,⟨.inr rfl,rfl,rfl⟩,⟨[[32,105,110,108,105,110,101]],rfl,sM,sM,sM⟩,(by (try simp only [Tb,Td,Tf]);omega),?_⟩;(conv=>whnf)
        (repeat (refine ⟨rfl,?_⟩;conv=>whnf))
        conv=>whnf
        refine Or.inl ⟨InR.i64 dM dM,wN ?_⟩;refine ⟨L++VB ([100,101,99,108,32]++nm++[40]) fs [41]++[32,111,117,116,112,117,116]++[32,105,110,108,105,110,101],[10],rfl,⟨.inr rfl,rfl,rfl⟩,⟨[[10]],rfl,sM,sM,sM⟩,(by (try simp only [Tb,Td,Tf]);omega),?_⟩;exact m34
       ·have hT:=ua;simp only [if_true,To,if_false,T3] at hT;rw [hT] at ak;simp only [Tb,Td,Tf] at ak;(conv=>whnf);refine ⟨L,VB ([100,101,99,108,32]++nm++[40]) fs [41],rfl,⟨iM,rfl,rfl⟩,⟨([100,101,99,108,32]++nm++[40]),[41],fs,rfl,⟨Tm.2 q2,oM,oM⟩,rfl⟩,(by (try simp only [Tb,Td,Tf]);omega),?_⟩;(conv=>whnf);refine ⟨dM,dM,wN ?_⟩;refine ⟨dM,dM,wN ?_⟩;refine ⟨L++VB ([100,101,99,108,32]++nm++[40]) fs [41],[32,105,110,112,117,116],rfl,⟨.inr rfl,rfl,rfl⟩,⟨[[32,105,110,112,117,116]],rfl,sM,sM,sM⟩,(by (try simp only [Tb,Td,Tf]);omega),?_⟩;(conv=>whnf)
        (repeat (refine ⟨rfl,?_⟩;conv=>whnf))
        conv=>whnf
        refine Or.inl ⟨InR.i64 dM dM,wN ?_⟩;refine ⟨dM,dM,wN ?_⟩;refine Or.inl ⟨InR.i64 dM dM,wN ?_⟩;refine ⟨dM,dM,wN ?_⟩;refine Or.inl ⟨InR.i64 dM dM,wN ?_⟩;refine ⟨L++VB ([100,101,99,108,32]++nm++[40]) fs [41]++[32,105,110,112,117,116],[10],rfl,⟨.inr rfl,rfl,rfl⟩,⟨[[10]],rfl,sM,sM,sM⟩,(by (try simp only [Tb,Td,Tf]);omega),?_⟩;exact m34
       ·have hT:=ua;simp only [if_true,To,if_false,T3] at hT;rw [hT] at ak;simp only [Tb,Td,Tf] at ak;(conv=>whnf);refine ⟨L,VB ([100,101,99,108,32]++nm++[40]) fs [41],rfl,⟨iM,rfl,rfl⟩,⟨([100,101,99,108,32]++nm++[40]),[41],fs,rfl,⟨Tm.2 q2,oM,oM⟩,rfl⟩,(by (try simp only [Tb,Td,Tf]);omega),?_⟩;(conv=>whnf);refine ⟨dM,dM,wN ?_⟩;refine ⟨dM,dM,wN ?_⟩;refine ⟨L++VB ([100,101,99,108,32]++nm++[40]) fs [41],[32,105,110,112,117,116],rfl,⟨.inr rfl,rfl,rfl⟩,⟨[[32,105,110,112,117,116]],rfl,sM,sM,sM⟩,(by (try simp only [Tb,Td,Tf]);omega),?_⟩;(conv=>whnf)
        (repeat (refine ⟨rfl,?_⟩;conv=>whnf))
        conv=>whnf
        refine Or.inl ⟨InR.i64 dM dM,wN ?_⟩;refine ⟨dM,dM,wN ?_⟩;refine Or.inl ⟨InR.i64 dM dM,wN ?_⟩;refine ⟨dM,dM,wN ?_⟩;refine ⟨dM,dM,wN ?_⟩;refine ⟨L++VB ([100,101,99,108,32]++nm++[40]) fs [41]++[32,105,110,112,117,116],[32,105,110,108,105,110,101],rfl,⟨.inr rfl,rfl,rfl⟩,⟨[[32,105,110,108,105,110,101]],rfl,sM,sM,sM⟩,(by (try simp only [Tb,Td,Tf]);omega),?_⟩;(conv=>whnf)
        (repeat (refine ⟨rfl,?_⟩;conv=>whnf))
        conv=>whnf
        refine Or.inl ⟨InR.i64 dM dM,wN ?_⟩;refine ⟨L++VB ([100,101,99,108,32]++nm++[40]) fs [41]++[32,105,110,112,117,116]++[32,105,110,108,105,110,101],[10],rfl,⟨.inr rfl,rfl,rfl⟩,⟨[[10]],rfl,sM,sM,sM⟩,(by (try simp only [Tb,Td,Tf]);omega),?_⟩;exact m34
       ·have hT:=ua;simp only [if_true,To,if_false,T3] at hT;rw [hT] at ak;simp only [Tb,Td,Tf] at ak;(conv=>whnf);refine ⟨L,VB ([100,101,99,108,32]++nm++[40]) fs [41],rfl,⟨iM,rfl,rfl⟩,⟨([100,101,99,108,32]++nm++[40]),[41],fs,rfl,⟨Tm.2 q2,oM,oM⟩,rfl⟩,(by (try simp only [Tb,Td,Tf]);omega),?_⟩;(conv=>whnf);refine ⟨dM,dM,wN ?_⟩;refine ⟨dM,dM,wN ?_⟩;refine ⟨L++VB ([100,101,99,108,32]++nm++[40]) fs [41],[32,105,110,112,117,116],rfl,⟨.inr rfl,rfl,rfl⟩,⟨[[32,105,110,112,117,116]],rfl,sM,sM,sM⟩,(by (try simp only [Tb,Td,Tf]);omega),?_⟩;(conv=>whnf)
        (repeat (refine ⟨rfl,?_⟩;conv=>whnf))
        conv=>whnf
        refine Or.inl ⟨InR.i64 dM dM,wN ?_⟩;refine ⟨dM,dM,wN ?_⟩;refine ⟨dM,dM,wN ?_⟩;refine ⟨L++VB ([100,101,99,108,32]++nm++[40]) fs [41]++[32,105,110,112,117,116],[32,111,117,116,112,117,116],rfl,⟨.inr rfl,rfl,rfl⟩,⟨[[32,111,117,116,112,117,116]],rfl,sM,sM,sM⟩,(by (try simp only [Tb,Td,Tf]);omega),?_⟩;(conv=>whnf)
        (repeat (refine ⟨rfl,?_⟩;conv=>whnf))
        conv=>whnf
        refine Or.inl ⟨InR.i64 dM dM,wN ?_⟩;refine ⟨dM,dM,wN ?_⟩;refine Or.inl ⟨InR.i64 dM dM,wN ?_⟩;refine ⟨L++VB ([100,101,99,108,32]++nm++[40]) fs [41]++[32,105,110,112,117,116]++[32,111,117,116,112,117,116],[10],rfl,⟨.inr rfl,rfl,rfl⟩,⟨[[10]],rfl,sM,sM,sM⟩,(by (try simp only [Tb,Td,Tf]);omega),?_⟩;exact m34
       have hT:=ua;simp only [if_true,To,if_false,T3] at hT;rw [hT] at ak;simp only [Tb,Td,Tf] at ak;(conv=>whnf);refine ⟨L,VB ([100,101,99,108,32]++nm++[40]) fs [41],rfl,⟨iM,rfl,rfl⟩,⟨([100,101,99,108,32]++nm++[40]),[41],fs,rfl,⟨Tm.2 q2,oM,oM⟩,rfl⟩,(by (try simp only [Tb,Td,Tf]);omega),?_⟩;(conv=>whnf);refine ⟨dM,dM,wN ?_⟩;refine ⟨dM,dM,wN ?_⟩;refine ⟨L++VB ([100,101,99,108,32]++nm++[40]) fs [41],[32,105,110,112,117,116],rfl,⟨.inr rfl,rfl,rfl⟩,⟨[[32,105,110,112,117,116]],rfl,sM,sM,sM⟩,(by (try simp only [Tb,Td,Tf]);omega),?_⟩;(conv=>whnf)
       (repeat (refine ⟨rfl,?_⟩;conv=>whnf))
       conv=>whnf
       refine Or.inl ⟨InR.i64 dM dM,wN ?_⟩;refine ⟨dM,dM,wN ?_⟩;refine ⟨dM,dM,wN ?_⟩;refine ⟨L++VB ([100,101,99,108,32]++nm++[40]) fs [41]++[32,105,110,112,117,116],[32,111,117,116,112,117,116],rfl,⟨.inr rfl,rfl,rfl⟩,⟨[[32,111,117,116,112,117,116]],rfl,sM,sM,sM⟩,(by (try simp only [Tb,Td,Tf]);omega),?_⟩;(conv=>whnf)
       (repeat (refine ⟨rfl,?_⟩;conv=>whnf))
       conv=>whnf
       refine Or.inl ⟨InR.i64 dM dM,wN ?_⟩;refine ⟨dM,dM,wN ?_⟩;refine ⟨dM,dM,wN ?_⟩;refine ⟨L++VB ([100,101,99,108,32]++nm++[40]) fs [41]++[32,105,110,112,117,116]++[32,111,117,116,112,117,116],[32,105,110,108,105,110,101],rfl,⟨.inr rfl,rfl,rfl⟩,⟨[[32,105,110,108,105,110,101]],rfl,sM,sM,sM⟩,(by (try simp only [Tb,Td,Tf]);omega),?_⟩;(conv=>whnf)
       (repeat (refine ⟨rfl,?_⟩;conv=>whnf))
       conv=>whnf
       refine Or.inl ⟨InR.i64 dM dM,wN ?_⟩;refine ⟨L++VB ([100,101,99,108,32]++nm++[40]) fs [41]++[32,105,110,112,117,116]++[32,111,117,116,112,117,116]++[32,105,110,108,105,110,101],[10],rfl,⟨.inr rfl,rfl,rfl⟩,⟨[[10]],rfl,sM,sM,sM⟩,(by (try simp only [Tb,Td,Tf]);omega),?_⟩;exact m34
     have aa:i=rels.length:=by
      have dx:(rels.map (Z3 pl)).length=rels.length:=Te ..;have aa:¬(i:Int)<(rels.map (Z3 pl)).length:=aa;rw [dx] at aa;omega
     subst aa;rw [TJ];rcases hP with rfl | rfl
     all_goals
      conv=>whnf
      exact ⟨_,rfl,rfl,iM⟩
   intro vs σ hI
   obtain ⟨P,rfl,rfl,hP⟩:=hI;(conv=>whnf);refine ⟨?_,?_⟩
   ·rcases hP with rfl | rfl
    all_goals
     conv=>whnf
     refine ⟨⟨0,_,rfl,zN,iM,oM⟩,?_⟩;intro vs σ hI
     obtain ⟨i,P,rfl,rfl,hP,hi⟩:=hI;(conv=>whnf);refine ZBC (fun aa=>?_) (fun aa=>?_)
     ·have dx:(comps.map (YG pl)).length=comps.length:=Te ..;have aa:i<comps.length:=by have aa:(i:Int)<(comps.map (YG pl)).length:=(by rw [<- ec];exact aa);rw [dx] at aa;omega
      have hg:=Zs wCo comps i aa;have ao:=Y1 coT aa;have ak:=WP coT comps (i+1);have dq:=TD aa;obtain ⟨L,hL⟩:∃L,l++(tys.map tyT).flatten++(rels.map reT).flatten++((comps.take i).map coT).flatten=L:=⟨_,rfl⟩
      have qb:L.length=(l++(tys.map tyT).flatten++(rels.map reT).flatten).length+((comps.take i).map coT).flatten.length:=by rw [<- hL,Tb]
      (try simp only [Tb] at qb)
      rw [ao,Tb] at ak;rw [hL];obtain ⟨x,hX⟩:∃x,comps[i]=x:=⟨_,rfl⟩
      rw [hX] at hg dq ao ak;obtain ⟨nm,ps,base,ts,⟨u1,u2,u3,u4,u5,u6⟩,at'⟩:=x;have bu:l++(tys.map tyT).flatten++(rels.map reT).flatten++((comps.take (i+1)).map coT).flatten=L++coT (.mk nm ps base ts (.mk u1 u2 u3 u4 u5 u6) at'):=by rw [ao,<- Th,hL]
      have ae:(comps.map (YG pl))[((i:Nat):Int).toNat]?=some (YG pl (.mk nm ps base ts (.mk u1 u2 u3 u4 u5 u6) at')):=by simp [aa,hX]
      have hu:=Zso (m4 _ dq);have hw:nm.length+szS wBs ps+base.length+szS wBs ts+wUn (.mk u1 u2 u3 u4 u5 u6)+1<=n:=by rw [wCo] at hg;omega
      rw [<- ec] at ae;(conv=>whnf);refine ⟨_,oM,ae,?_⟩
      by_cases k1:base=[]
      ·have hT:coT (.mk nm ps base ts (.mk u1 u2 u3 u4 u5 u6) at')=([99,111,109,112,32]++nm++UN ps)++([32,123,10]++(unT (.mk u1 u2 u3 u4 u5 u6)++([125,10]))):=by rw [coT,Tg k1,T3];simp only [Th]
       rw [hT] at ak;simp only [Tb,Td,Tf] at ak;rcases hP with rfl | rfl
       all_goals
        conv=>whnf
        refine ⟨ps,rfl,⟨oM,hn⟩,wN ?_⟩
        (repeat (refine ⟨rfl,?_⟩;conv=>whnf))
        refine ⟨L,[99,111,109,112,32]++nm++UN ps,rfl,⟨iM,rfl,rfl⟩,⟨[[99,111,109,112,32],nm,UN ps],rfl,sM,sM,sM⟩,(by (try simp only [Tb,Td,Tf]);omega),?_⟩;(conv=>whnf)
        (repeat (refine ⟨rfl,?_⟩;conv=>whnf))
        refine ZBE (fun g=>absurd k1 g) (fun _=>wN ?_);refine ⟨L++([99,111,109,112,32]++nm++UN ps),[32,123,10],rfl,⟨.inr rfl,rfl,rfl⟩,⟨[[32,123,10]],rfl,sM,sM,sM⟩,(by (try simp only [Tb,Td,Tf]);omega),?_⟩;(conv=>whnf);refine ⟨oM,L++([99,111,109,112,32]++nm++UN ps)++[32,123,10],unT (.mk u1 u2 u3 u4 u5 u6),rfl,⟨.inr rfl,rfl,rfl⟩,⟨pl,.mk u1 u2 u3 u4 u5 u6,rfl,⟨hu,oM,oM⟩,rfl⟩,(by (try simp only [Tb,Td,Tf]);omega),fun p' i7=>?_⟩;rcases i7 with rfl | rfl
        all_goals
         conv=>whnf
         refine ⟨L++([99,111,109,112,32]++nm++UN ps)++[32,123,10]++unT (.mk u1 u2 u3 u4 u5 u6),[125,10],rfl,⟨iM,rfl,rfl⟩,⟨[[125,10]],rfl,sM,sM,sM⟩,(by (try simp only [Tb,Td,Tf]);omega),?_⟩;(conv=>whnf);refine Or.inl ⟨InR.i64 oM oM,wN ?_⟩;refine ⟨⟨i+1,_,rfl,(by rw [bu,hT];simp only [Th];rfl),.inr rfl,oM⟩,?_⟩;exact lzM oM
      have hT:coT (.mk nm ps base ts (.mk u1 u2 u3 u4 u5 u6) at')=([99,111,109,112,32]++nm++UN ps)++(([32,58,32]++base++UN ts)++([32,123,10]++(unT (.mk u1 u2 u3 u4 u5 u6)++([125,10])))):=by rw [coT,Tc k1];simp only [Th]
      rw [hT] at ak;simp only [Tb,Td,Tf] at ak;rcases hP with rfl | rfl
      all_goals
       conv=>whnf
       refine ⟨ps,rfl,⟨oM,hn⟩,wN ?_⟩
       (repeat (refine ⟨rfl,?_⟩;conv=>whnf))
       refine ⟨L,[99,111,109,112,32]++nm++UN ps,rfl,⟨iM,rfl,rfl⟩,⟨[[99,111,109,112,32],nm,UN ps],rfl,sM,sM,sM⟩,(by (try simp only [Tb,Td,Tf]);omega),?_⟩;(conv=>whnf)
       (repeat (refine ⟨rfl,?_⟩;conv=>whnf))
       refine ZBE (fun _=>wN ?_) (fun g=>absurd g k1);refine ⟨ts,rfl,⟨oM,hn⟩,wN ?_⟩
       (repeat (refine ⟨rfl,?_⟩;conv=>whnf))
       refine ⟨L++([99,111,109,112,32]++nm++UN ps),[32,58,32]++base++UN ts,rfl,⟨.inr rfl,rfl,rfl⟩,⟨[[32,58,32],base,UN ts],rfl,sM,sM,sM⟩,(by (try simp only [Tb,Td,Tf]);omega),?_⟩;(conv=>whnf)
       (repeat (refine ⟨rfl,?_⟩;conv=>whnf))
       conv=>whnf
       refine ⟨L++([99,111,109,112,32]++nm++UN ps)++([32,58,32]++base++UN ts),[32,123,10],rfl,⟨.inr rfl,rfl,rfl⟩,⟨[[32,123,10]],rfl,sM,sM,sM⟩,(by (try simp only [Tb,Td,Tf]);omega),?_⟩;(conv=>whnf);refine ⟨oM,L++([99,111,109,112,32]++nm++UN ps)++([32,58,32]++base++UN ts)++[32,123,10],unT (.mk u1 u2 u3 u4 u5 u6),rfl,⟨.inr rfl,rfl,rfl⟩,⟨pl,.mk u1 u2 u3 u4 u5 u6,rfl,⟨hu,oM,oM⟩,rfl⟩,(by (try simp only [Tb,Td,Tf]);omega),fun p' i7=>?_⟩;rcases i7 with rfl | rfl
       all_goals
        conv=>whnf
        refine ⟨L++([99,111,109,112,32]++nm++UN ps)++([32,58,32]++base++UN ts)++[32,123,10]++unT (.mk u1 u2 u3 u4 u5 u6),[125,10],rfl,⟨iM,rfl,rfl⟩,⟨[[125,10]],rfl,sM,sM,sM⟩,(by (try simp only [Tb,Td,Tf]);omega),?_⟩;(conv=>whnf);refine Or.inl ⟨InR.i64 oM oM,wN ?_⟩;refine ⟨⟨i+1,_,rfl,(by rw [bu,hT];simp only [Th];rfl),.inr rfl,oM⟩,?_⟩;exact lzM oM
     have aa:i=comps.length:=by
      have dx:(comps.map (YG pl)).length=comps.length:=Te ..;have aa:¬(i:Int)<(comps.map (YG pl)).length:=(by rw [<- ec];exact aa)
      rw [dx] at aa;omega
     subst aa;rw [TJ];rcases hP with rfl | rfl
     all_goals
      conv=>whnf
      exact ⟨_,rfl,rfl,iM⟩
   intro vs σ hI
   obtain ⟨P,rfl,rfl,hP⟩:=hI;(conv=>whnf);refine ⟨?_,?_⟩
   ·rcases hP with rfl | rfl
    all_goals
     conv=>whnf
     refine ⟨⟨0,_,rfl,zN,iM,oM⟩,?_⟩;intro vs σ hI
     obtain ⟨i,P,rfl,rfl,hP,hi⟩:=hI;(conv=>whnf);refine ZBC (fun aa=>?_) (fun aa=>?_)
     ·have dx:(inits.map (Yi pl)).length=inits.length:=Te ..;have aa:i<inits.length:=lzI dx aa;have hg:=Zs wIn inits i aa;have ao:=Y1 inT aa;have ak:=WP inT inits (i+1);have dq:=TD aa;obtain ⟨L,hL⟩:∃L,l++(tys.map tyT).flatten++(rels.map reT).flatten++(comps.map coT).flatten++((inits.take i).map inT).flatten=L:=⟨_,rfl⟩
      have qb:L.length=(l++(tys.map tyT).flatten++(rels.map reT).flatten++(comps.map coT).flatten).length+((inits.take i).map inT).flatten.length:=by rw [<- hL,Tb]
      (try simp only [Tb] at qb)
      rw [ao,Tb] at ak;rw [hL];obtain ⟨x,hX⟩:∃x,inits[i]=x:=⟨_,rfl⟩
      rw [hX] at hg dq ao ak;obtain ⟨nm,cp,ts,at'⟩:=x;have bu:l++(tys.map tyT).flatten++(rels.map reT).flatten++(comps.map coT).flatten++((inits.take (i+1)).map inT).flatten=L++inT ⟨nm,cp,ts,at'⟩:=by rw [ao,<- Th,hL]
      have ae:(inits.map (Yi pl))[((i:Nat):Int).toNat]?=some (Yi pl ⟨nm,cp,ts,at'⟩):=by simp [aa,hX]
      have hg2:wIn ⟨nm,cp,ts,at'⟩=1+nm.length+cp.length+szS wBs ts:=rfl;have hw:nm.length+cp.length+szS wBs ts<=n:=oM;have hT:inT ⟨nm,cp,ts,at'⟩=[105,110,105,116,32]++nm++[32,61,32]++cp++UN ts++[10]:=by rw [inT];simp only [Th]
      rw [hT] at ak;simp only [Tb,Td,Tf] at ak;(conv=>whnf);refine ⟨_,oM,ae,?_⟩;rcases hP with rfl | rfl
      all_goals
       conv=>whnf
       refine ⟨ts,rfl,⟨oM,hn⟩,wN ?_⟩
       (repeat (refine ⟨rfl,?_⟩;conv=>whnf))
       refine ⟨L,[105,110,105,116,32]++nm++[32,61,32]++cp++UN ts++[10],rfl,⟨iM,rfl,rfl⟩,⟨[[105,110,105,116,32],nm,[32,61,32],cp,UN ts,[10]],rfl,sM,sM,sM⟩,(by (try simp only [Tb,Td,Tf]);omega),?_⟩;(conv=>whnf)
       (repeat (refine ⟨rfl,?_⟩;conv=>whnf))
       refine Or.inl ⟨InR.i64 oM oM,wN ?_⟩;refine ⟨⟨i+1,_,rfl,(by rw [bu,hT];simp only [Th];rfl),.inr rfl,oM⟩,?_⟩;exact lzM oM
     have aa:i=inits.length:=by
      have dx:(inits.map (Yi pl)).length=inits.length:=Te ..;have aa:¬(i:Int)<(inits.map (Yi pl)).length:=aa;rw [dx] at aa;omega
     subst aa;rw [TJ];rcases hP with rfl | rfl
     all_goals
      conv=>whnf
      exact ⟨_,rfl,rfl,iM⟩
   intro vs σ hI
   obtain ⟨P,rfl,rfl,hP⟩:=hI;(conv=>whnf);refine ⟨?_,?_⟩
   ·rcases hP with rfl | rfl
    all_goals
     conv=>whnf
     refine ⟨⟨0,_,rfl,zN,iM,oM⟩,?_⟩;intro vs σ hI
     obtain ⟨i,P,rfl,rfl,hP,hi⟩:=hI;(conv=>whnf);refine ZBC (fun aa=>?_) (fun aa=>?_)
     ·have dx:(overs.map (Ye pl)).length=overs.length:=Te ..;have aa:i<overs.length:=lzI dx aa;have hg:=Zs wOv overs i aa;have ao:=Y1 ovT aa;have ak:=WP ovT overs (i+1);have dq:=TD aa;obtain ⟨L,hL⟩:∃L,l++(tys.map tyT).flatten++(rels.map reT).flatten++(comps.map coT).flatten++(inits.map inT).flatten++((overs.take i).map ovT).flatten=L:=⟨_,rfl⟩
      have qb:L.length=(l++(tys.map tyT).flatten++(rels.map reT).flatten++(comps.map coT).flatten++(inits.map inT).flatten).length+((overs.take i).map ovT).flatten.length:=by rw [<- hL,Tb]
      (try simp only [Tb] at qb)
      rw [ao,Tb] at ak;rw [hL];obtain ⟨x,hX⟩:∃x,overs[i]=x:=⟨_,rfl⟩
      rw [hX] at hg dq ao ak;obtain ⟨rel,at'⟩:=x;have bu:l++(tys.map tyT).flatten++(rels.map reT).flatten++(comps.map coT).flatten++(inits.map inT).flatten++((overs.take (i+1)).map ovT).flatten=L++ovT ⟨rel,at'⟩:=by rw [ao,<- Th,hL]
      have ae:(overs.map (Ye pl))[((i:Nat):Int).toNat]?=some (Ye pl ⟨rel,at'⟩):=by simp [aa,hX]
      have hg2:wOv ⟨rel,at'⟩=1+rel.length:=rfl;have hw:rel.length<=n:=oM;have hT:ovT ⟨rel,at'⟩=[111,118,101,114,114,105,100,101,32]++rel++[10]:=by rw [ovT];simp only [Th]
      rw [hT] at ak;simp only [Tb,Td,Tf] at ak;(conv=>whnf);refine ⟨_,oM,ae,?_⟩;rcases hP with rfl | rfl
      all_goals
       conv=>whnf
       refine ⟨L,[111,118,101,114,114,105,100,101,32]++rel++[10],rfl,⟨iM,rfl,rfl⟩,⟨[[111,118,101,114,114,105,100,101,32],rel,[10]],rfl,sM,sM,sM⟩,(by (try simp only [Tb,Td,Tf]);omega),?_⟩;(conv=>whnf);refine Or.inl ⟨InR.i64 oM oM,wN ?_⟩;refine ⟨⟨i+1,_,rfl,(by rw [bu,hT];simp only [Th];rfl),.inr rfl,oM⟩,?_⟩;exact lzM oM
     have aa:i=overs.length:=by
      have dx:(overs.map (Ye pl)).length=overs.length:=Te ..;have aa:¬(i:Int)<(overs.map (Ye pl)).length:=aa;rw [dx] at aa;omega
     subst aa;rw [TJ];rcases hP with rfl | rfl
     all_goals
      conv=>whnf
      exact ⟨_,rfl,rfl,iM⟩
   intro vs σ hI
   obtain ⟨P,rfl,rfl,hP⟩:=hI;(conv=>whnf);rcases hP with rfl | rfl
   all_goals
    refine ⟨⟨0,_,rfl,zN,iM,oM⟩,?_⟩;intro vs σ hI
    obtain ⟨i,P,rfl,rfl,hP,hi⟩:=hI;(conv=>whnf);refine ZBC (fun aa=>?_) (fun aa=>?_)
    ·have dx:(rules.map (ZW pl)).length=rules.length:=Te ..;have aa:i<rules.length:=lzI dx aa;have hg:=Zs wRu rules i aa;have ao:=Y1 Zed aa;have ak:=WP Zed rules (i+1);have dq:=TD aa;obtain ⟨L,hL⟩:∃L,l++(tys.map tyT).flatten++(rels.map reT).flatten++(comps.map coT).flatten++(inits.map inT).flatten++(overs.map ovT).flatten++((rules.take i).map Zed).flatten=L:=⟨_,rfl⟩
     have qb:L.length=(l++(tys.map tyT).flatten++(rels.map reT).flatten++(comps.map coT).flatten++(inits.map inT).flatten++(overs.map ovT).flatten).length+((rules.take i).map Zed).flatten.length:=by rw [<- hL,Tb]
     (try simp only [Tb] at qb)
     rw [ao,Tb] at ak;rw [hL];obtain ⟨x,hX⟩:∃x,rules[i]=x:=⟨_,rfl⟩
     rw [hX] at hg dq ao ak;obtain ⟨head,as',bd,at'⟩:=x;have bu:l++(tys.map tyT).flatten++(rels.map reT).flatten++(comps.map coT).flatten++(inits.map inT).flatten++(overs.map ovT).flatten++((rules.take (i+1)).map Zed).flatten=L++Zed ⟨head,as',bd,at'⟩:=by rw [ao,<- Th,hL]
     have ae:(rules.map (ZW pl))[((i:Nat):Int).toNat]?=some (ZW pl ⟨head,as',bd,at'⟩):=by simp [aa,hX]
     have hw:wRu ⟨head,as',bd,at'⟩<=n:=oM;have hT:Zed ⟨head,as',bd,at'⟩=(ruT ⟨head,as',bd,at'⟩)++[10]:=rfl;rw [hT] at ak;simp only [Tb,Td,Tf] at ak;(conv=>whnf);refine ⟨_,oM,ae,?_⟩;rcases hP with rfl | rfl
     all_goals
      conv=>whnf
      refine ⟨L,(ruT ⟨head,as',bd,at'⟩),rfl,⟨iM,rfl,rfl⟩,⟨pl,⟨head,as',bd,at'⟩,rfl,⟨m3 _ dq,hw,hn⟩,rfl⟩,(by (try simp only [Tb,Td,Tf]);omega),?_⟩;(conv=>whnf);refine ⟨L++(ruT ⟨head,as',bd,at'⟩),[10],rfl,⟨.inr rfl,rfl,rfl⟩,⟨[[10]],rfl,sM,sM,sM⟩,(by (try simp only [Tb,Td,Tf]);omega),?_⟩;(conv=>whnf);refine Or.inl ⟨InR.i64 oM oM,wN ?_⟩;refine ⟨⟨i+1,_,rfl,(by rw [bu,hT];simp only [Th];rfl),.inr rfl,oM⟩,?_⟩;exact lzM oM
    have aa:i=rules.length:=by
     have dx:(rules.map (ZW pl)).length=rules.length:=Te ..;have aa:¬(i:Int)<(rules.map (ZW pl)).length:=aa;rw [dx] at aa;omega
    subst aa;rw [TJ];rcases hP with rfl | rfl
    all_goals
     conv=>whnf
     exact h _ iM
 exact h.elim
theorem cWU (hN:NumOK w0 nG) (hL:LexC w0 nG):∀n,PC w0 nG 15 (ZwI n)
 | 0=>Zyu ⟨JY,Zp2,ZAS 0,Ztp,cWR hN hL 0,ZK (Zn Tryz.func15 kR rfl),trivial⟩
 | n+1=>Zyu ⟨JY,Zp2,ZAS _,Ztp,cWR hN hL _,ZL (sp:=ZwI) (cWU hN hL n),trivial⟩
noncomputable def Zsp (n:Nat):Zt:=fun args σ K=>match args,σ with
 | [.agg c],⟨[],[],0⟩=>∃pl x,c=(Yg pl x).map .d/\((Za2 x=true->ZiL x=true)/\wUn x<=n/\n<=16777216) /\
   ((Za2 x=false->K (.ret (.tuple [.d (.str []),.d (.int .i64 160)])) ⟨[],[],0⟩)/\(Za2 x=true->∀r,Yv 65536 16384 WK (unT x)=r->K (.ret (.tuple [.d (.str (Vn (unT x) r).1),.d (.int .i64 (Vn (unT x) r).2)])) ⟨[],[],0⟩))
 | _,_=>False
noncomputable def Ztq (n:Nat):Tbl:=[(14,XA (Xh Yg) Za2 wUn n),(15,ZwI n),(17,U8),(16,Zkr),(18,ZkE)]
theorem Zyv {n:Nat} (ht:TO w0 nG (Ztq n)):PC w0 nG 7 (Zsp n):=by
 refine Zd Zb mixed (tbl:=Ztq n) ht Tryz.func7 rfl kR kR ?_;intro args σ K h
 unfold Zsp at h
 split at h
 ·obtain ⟨pl,⟨u1,u2,u3,u4,u5,u6⟩,rfl,⟨hab,hz,hn⟩,ha,hb⟩:=h;refine ⟨Za [],0,true,sM,Ta rfl,wN ?_⟩;refine ⟨pl,(.mk u1 u2 u3 u4 u5 u6),rfl,⟨hz,oM⟩,fun b aj=>?_⟩
  cases b with
  | false =>
   conv=>whnf
   exact ha aj
  | true =>
  have h1:=hab aj;have h2:=ZdW _ h1;have hb:=hb aj;(conv=>whnf);refine ⟨[],unT (.mk u1 u2 u3 u4 u5 u6),rfl,⟨.inl rfl,rfl,rfl⟩,⟨pl,(.mk u1 u2 u3 u4 u5 u6),rfl,⟨by rw [ZwH,aj,h1];rfl,hz,oM⟩,rfl⟩,by simp only [Tf];omega,fun p' i7=>?_⟩;obtain ⟨T,hT⟩:∃T,unT (.mk u1 u2 u3 u4 u5 u6)=T:=⟨_,rfl⟩
  rw [hT] at hb h2 |-;rcases i7 with rfl | rfl
  all_goals
   conv=>whnf
   refine ⟨T,⟨rfl,rfl,rfl,iM,oM⟩,?_⟩;(conv=>whnf);refine ⟨oM,fun x hx=>?_⟩;have hb:=hb x hx
   cases x with
   | ok v L =>
    obtain ⟨v1,v2,v3,v4,v5,v6⟩:=v;unfold ZyY
    dsimp only;(conv=>whnf);refine ⟨T,⟨rfl,rfl,rfl,iM,oM⟩,?_⟩;(conv=>whnf);refine ⟨fun g=>absurd g dM,fun _=>wN ?_⟩;exact hb
   | err p c =>
   conv=>whnf
   refine ⟨T,⟨rfl,rfl,rfl,iM,oM⟩,?_⟩;(conv=>whnf);exact m173
 exact h.elim
theorem ZBg (hg:GlobOK w0 nG) (hN:NumOK w0 nG) (hL:LexC w0 nG) (n:Nat):PC w0 nG 7 (Zsp n) :=
 Zyv ⟨ZAK hL n,cWU hN hL n,ZbV,ZzG hg,Zpe,trivial⟩
theorem ZhW {α:Type} (txt:Bs) (x:Top α):Vn txt x=if VS x=3\/VS x=151 then ([],3) else (txt,0):=by
 cases x with
 | ok v L=>rw [Tc (by simp [VS])];rfl
 | err p e=>rfl
noncomputable def Zwh:Zt:=fun args σ K=>match args,σ with
 | [.d (.str s),.d (.int .i64 e)],⟨[],[],0⟩=>∃n:Nat,e=n/\(n=3\/n=151->K (.ret (.tuple [.d (.str []),.d (.int .i64 3)])) ⟨[],[],0⟩)/\(¬(n=3\/n=151)->K (.ret (.tuple [.d (.str s),.d (.int .i64 0)])) ⟨[],[],0⟩)
 | _,_=>False
theorem Zyw:PC w0 nG 13 Zwh:=by
 refine Zd Zb mixed (tbl:=[]) trivial Tryz.func13 rfl kR kR ?_;intro args σ K h
 unfold Zwh at h
 split at h
 ·rename_i s e
  obtain ⟨n,rfl,ha,hb⟩:=h;refine ⟨Za [],0,false,sM,Ta rfl,wN ?_⟩;refine ZBC (fun h3=>wN ?_) (fun h3=>wN ?_)
  ·have du:n=3:=by have h3:(n:Int)=3:=h3;omega
   exact ha (.inl du)
  have du:¬n=3:=by have h3:¬(n:Int)=3:=h3;omega
  refine ZBC (fun h4=>wN ?_) (fun h4=>wN ?_)
  ·have gt:n=151:=by have h4:(n:Int)=151:=h4;omega
   exact ha (.inr gt)
  have gt:¬n=151:=by have h4:¬(n:Int)=151:=h4;omega
  exact hb oM
 exact h.elim
noncomputable def Zml {α:Type} (enc:Pl->α->List D) (c:Nat->α->Prop) (f:α->Bs×Nat) (n:Nat):Zt:=fun args σ K=>match args,σ with
 | [.agg cs],⟨[],[],0⟩=>∃pl e,cs=(enc pl e).map .d/\(c n e/\n<=16777216)/\∀s k,f e=(s,k)->K (.ret (.tuple [.d (.str s),.d (.int .i64 (k:Nat))])) ⟨[],[],0⟩
 | _,_=>False
noncomputable def Zyx:Tbl:=[(25,U4)]
theorem Zp4 {n:Nat}:PC w0 nG 26 (Zfl (fun _=>ZJ) Yl wFi n):=by
 refine Zd Zb mixed (tbl:=Zyx) ⟨WY,trivial⟩ Tryz.func26 rfl kR kR ?_;intro args σ K h
 unfold Zfl at h
 split at h
 ·obtain ⟨pl,l,rfl,⟨hz,hn⟩,h⟩:=h;have hsz:=Zp wFi l;refine ⟨Za [(2,⟨[3],[0],fun vs σ=>∃i:Nat,vs=[.d (.int .i64 i)]/\σ=⟨[],[],0⟩/\i<=l.length/\l.all Yl=(l.drop i).all Yl,mu1 l.length⟩)],0,false,sM,Ta rfl,wN ?_⟩;refine ⟨⟨0,rfl,rfl,oM,rfl⟩,?_⟩;intro vs σ hI
  obtain ⟨i,rfl,rfl,hi,ha⟩:=hI;(conv=>whnf);refine ZBC (fun aa=>wN ?_) (fun aa=>?_)
  ·have aa:i<l.length:=lzI (Te ..) aa;have hg:=Zs wFi l i aa;rw [Z5 Yl aa] at ha;obtain ⟨eA,hA⟩:∃x,l[i]=x:=⟨_,rfl⟩
   rw [hA] at hg ha;obtain ⟨nm,ty⟩:=eA;simp only [wFi] at hg;have ae:(l.map ZJ)[((i:Nat):Int).toNat]?=some (ZJ ⟨nm,ty⟩):=by simp [aa,hA]
   have no:Yl ⟨nm,ty⟩=false->K (.ret (.d (.bool false))) ⟨[],[],0⟩:=fun g=>h _ (by rw [ha,g];rfl)
   have go:Yl ⟨nm,ty⟩=true->l.all Yl=(l.drop (i+1)).all Yl:=fun g=>by rw [ha,g,Tt]
   clear ha
   refine ⟨_,oM,ae,wN ?_⟩;refine ⟨show nm.length<4294967281 by omega,fun b0 au=>?_⟩
   cases b0 with
   | false =>
    conv=>whnf
    exact no (by simp [Yl,au])
   | true =>
   conv=>whnf
   refine ⟨_,oM,ae,wN ?_⟩;refine ⟨show ty.length<4294967281 by omega,fun b1 aj=>?_⟩
   cases b1 with
   | false =>
    conv=>whnf
    exact no (by simp [Yl,au,aj])
   | true =>
   have ha:=go (by simp [Yl,au,aj]);exact m18
  have aa:i=l.length:=lzE (Te ..) oM aa;exact m127
 exact h.elim
theorem Zsq {n:Nat}:PC w0 nG 28 (Zfl (fun _=>ZB) YL wBs n):=by
 refine Zd Zb mixed (tbl:=Zyx) ⟨WY,trivial⟩ Tryz.func28 rfl kR kR ?_;intro args σ K h
 unfold Zfl at h
 split at h
 ·obtain ⟨pl,l,rfl,⟨hz,hn⟩,h⟩:=h;have hsz:=Zp wBs l;refine ⟨Za [(2,⟨[3],[0],fun vs σ=>∃i:Nat,vs=[.d (.int .i64 i)]/\σ=⟨[],[],0⟩/\i<=l.length/\l.all YL=(l.drop i).all YL,mu1 l.length⟩)],0,false,sM,Ta rfl,wN ?_⟩;refine ⟨⟨0,rfl,rfl,oM,rfl⟩,?_⟩;intro vs σ hI
  obtain ⟨i,rfl,rfl,hi,ha⟩:=hI;(conv=>whnf);refine ZBC (fun aa=>wN ?_) (fun aa=>?_)
  ·have aa:i<l.length:=lzI (Te ..) aa;have hg:=Zs wBs l i aa;rw [Z5 YL aa] at ha;obtain ⟨eA,hA⟩:∃x,l[i]=x:=⟨_,rfl⟩
   rw [hA] at hg ha;simp only [wBs] at hg;have ae:(l.map ZB)[((i:Nat):Int).toNat]?=some (ZB eA):=by simp [aa,hA]
   have no:YL eA=false->K (.ret (.d (.bool false))) ⟨[],[],0⟩:=fun g=>h _ (by rw [ha,g];rfl)
   have go:YL eA=true->l.all YL=(l.drop (i+1)).all YL:=fun g=>by rw [ha,g,Tt]
   clear ha
   refine ⟨_,oM,ae,wN ?_⟩;refine ⟨show eA.length<4294967281 by omega,fun b0 au=>?_⟩;exact m206
  have aa:i=l.length:=lzE (Te ..) oM aa;exact m127
 exact h.elim
theorem Zwi {n:Nat}:PC w0 nG 24 (ZgD Z1 Z6 wTy n):=by
 refine Zd Zb mixed (tbl:=[(25,U4),(26,Zfl (fun _=>ZJ) Yl wFi n)]) ⟨WY,Zp4,trivial⟩ Tryz.func24 rfl kR kR ?_;intro args σ K h
 unfold ZgD at h
 split at h
 ·obtain ⟨pl,⟨k,nm,bs,fs,cs,at'⟩,rfl,⟨hz,hn⟩,h⟩:=h;simp only [wTy] at hz;have hT:Z6 ⟨k,nm,bs,fs,cs,at'⟩=(cs.all YO && (UM ⟨k,nm,bs,fs,cs,at'⟩ && (YL nm && fs.all Yl))):=by
   simp only [Z6]
   cases UM ⟨k,nm,bs,fs,cs,at'⟩ <;> cases YL nm <;> cases fs.all Yl <;> cases cs.all YO <;> rfl
  rw [hT] at h
  clear hT
  have dv:(fs.map ZJ).length=fs.length:=Te ..;have gw:(cs.map ZZ).length=cs.length:=Te ..;have hsz:=Zp wCa cs;have hsf:=Zp wFi fs;refine ⟨Za [(4,⟨[3],[1],fun vs σ=>∃i:Nat,vs=[.d (.int .i64 i)]/\σ=⟨[.cells 67 [.d (.int .u8 k),.d (.str nm),.d (.str bs),.d (.sl (fs.map ZJ)),.d (.sl (cs.map ZZ)),.d (.int .i64 (pl at'))]],[],0⟩/\i<=cs.length/\cs.all YO=(cs.drop i).all YO,mu1 cs.length⟩)],0,false,sM,Ta rfl,wN ?_⟩;refine ⟨show nm.length<4294967281 by omega,fun b0 ek=>?_⟩
  cases b0 with
  | false =>
   conv=>whnf
   exact h _ (by rw [ek];simp)
  | true =>
  conv=>whnf
  refine ⟨⟨0,rfl,rfl,oM,rfl⟩,?_⟩;intro vs σ hI
  obtain ⟨i,rfl,rfl,hi,ha⟩:=hI;(conv=>whnf);refine ZBC (fun aa=>wN ?_) (fun aa=>?_)
  ·have aa:i<cs.length:=lzI (Te ..) aa;have hg:=Zs wCa cs i aa;rw [Z5 YO aa] at ha;obtain ⟨eA,hA⟩:∃x,cs[i]=x:=⟨_,rfl⟩
   rw [hA] at hg ha;obtain ⟨cn,cf⟩:=eA;simp only [wCa] at hg;have ae:(cs.map ZZ)[((i:Nat):Int).toNat]?=some (ZZ ⟨cn,cf⟩):=by simp [aa,hA]
   have no:YO ⟨cn,cf⟩=false->K (.ret (.d (.bool false))) ⟨[],[],0⟩:=fun g=>h _ (by rw [ha,g];rfl)
   have go:YO ⟨cn,cf⟩=true->cs.all YO=(cs.drop (i+1)).all YO:=fun g=>by rw [ha,g,Tt]
   clear ha
   refine ⟨_,oM,ae,wN ?_⟩;refine ⟨show cn.length<4294967281 by omega,fun b0 au=>?_⟩
   cases b0 with
   | false =>
    conv=>whnf
    exact no (by simp [YO,au])
   | true =>
   conv=>whnf
   refine ⟨_,oM,ae,wN ?_⟩;refine ⟨pl,cf,rfl,⟨oM,hn⟩,fun b1 aj=>?_⟩
   cases b1 with
   | false =>
    conv=>whnf
    exact no (by simp only [YO,au,aj];rfl)
   | true =>
   have ha:=go (by simp only [YO,au,aj];rfl);exact m18
  have aa:i=cs.length:=lzE (Te ..) oM aa;subst aa;rw [Sa] at ha;rw [ha] at h;simp only [List.all_nil,Tt] at h;(conv=>whnf);rw [ek,Tt] at h;have fin:∀b,UM ⟨k,nm,bs,fs,cs,at'⟩=b->(b=true->fs.all Yl=true)->K (.ret (.d (.bool b))) ⟨[],[],0⟩:=fun b g1 g2=>h b (by rw [g1];cases b with | false=>rfl | true=>rw [g2 rfl];rfl)
  have hd:decide (((cs.map ZZ).length:Int)=0)=decide (cs.length=0):=by rw [gw];exact decide_eq_decide.2 oM
  have bf:decide (0<((cs.map ZZ).length:Int))=!decide (cs.length=0):=by rw [gw];cases cs <;> simp
  refine ZBC (fun k1=>?_) (fun k1=>wN ?_)
  ·have k1:k=1:=by have k1:(k:Int)=1:=k1;omega
   subst k1;have ht:UM ⟨1,nm,bs,fs,cs,at'⟩=(YL bs && (decide (fs.length=0) && decide (cs.length=0))):=by simp [UM]
   conv=>whnf
   refine ⟨show bs.length<4294967281 by omega,fun b2 bp=>?_⟩;rw [bp] at ht
   cases b2 with
   | false =>
    conv=>whnf
    exact fin false ht (fun g=>by cases g)
   | true =>
   conv=>whnf
   refine ZBC (fun q=>wN ?_) (fun q=>wN ?_)
   ·have q:fs.length=0:=by have q:((fs.map ZJ).length:Int)=0:=q;rw [dv] at q;omega
    have h9:=fin (decide (cs.length=0)) (by rw [ht,TC q];simp) (fun _=>by rw [TB q];rfl);rw [<- hd] at h9;exact h9
   have q:¬fs.length=0:=by have q:¬((fs.map ZJ).length:Int)=0:=q;rw [dv] at q;omega
   exact fin false (by rw [ht];rw [decide_eq_false q];simp) (fun g=>by cases g)
  refine ZBC (fun k2=>?_) (fun k2=>wN ?_)
  ·have k2:k=2:=by have k2:(k:Int)=2:=k2;omega
   subst k2;have ht:UM ⟨2,nm,bs,fs,cs,at'⟩=(decide (bs=[]) && decide (cs.length=0)):=by simp [UM]
   conv=>whnf
   refine ZBC (fun q=>wN ?_) (fun q=>wN ?_)
   ·have q:bs=[]:=q;refine ⟨pl,fs,rfl,⟨oM,hn⟩,fun b2 bp=>?_⟩
    cases b2 with
    | false =>
     conv=>whnf
     exact h _ (by rw [bp];simp)
    | true =>
    conv=>whnf
    have h9:=fin (decide (cs.length=0)) (by rw [ht,TC q];simp) (fun _=>bp);rw [<- hd] at h9;exact h9
   have q:¬bs=[]:=q;exact fin false (by rw [ht];simp [q]) (fun g=>by cases g)
  refine ZBC (fun k3=>?_) (fun k3=>wN ?_)
  ·have k3:k=3:=by have k3:(k:Int)=3:=k3;omega
   subst k3;have ht:UM ⟨3,nm,bs,fs,cs,at'⟩=(decide (bs=[]) && (decide (fs.length=0) && !decide (cs.length=0))):=by simp [UM]
   conv=>whnf
   refine ZBC (fun q=>wN ?_) (fun q=>wN ?_)
   ·have q:bs=[]:=q;refine ZBC (fun q1=>wN ?_) (fun q1=>wN ?_)
    ·have q1:fs.length=0:=by have q1:((fs.map ZJ).length:Int)=0:=q1;rw [dv] at q1;omega
     have h9:=fin (!decide (cs.length=0)) (by rw [ht,TC q,TC q1];simp) (fun _=>by rw [TB q1];rfl);rw [<- bf] at h9;exact h9
    have q1:¬fs.length=0:=by have q1:¬((fs.map ZJ).length:Int)=0:=q1;rw [dv] at q1;omega
    exact fin false (by rw [ht];rw [decide_eq_false q1];simp) (fun g=>by cases g)
   have q:¬bs=[]:=q;exact fin false (by rw [ht];simp [q]) (fun g=>by cases g)
  exact fin false (by unfold UM;dsimp only;rw [if_neg (fun g=>k1 (by subst g;rfl)),if_neg (fun g=>k2 (by subst g;rfl)),if_neg (fun g=>k3 (by subst g;rfl))]) (fun g=>by cases g)
 exact h.elim
theorem Zp5 (n:Bs) (p:List Bs) (b:Bs) (t:List Bs) (u:Un) (a:Nat):wCo (.mk n p b t u a)=1+n.length+szS wBs p+b.length+szS wBs t+wUn u:=by rw [wCo]
theorem Zsr (nm:Bs) (ps:List Bs) (base:Bs) (tys:List Bs) (u:Un) (a:Nat):Yd (.mk nm ps base tys u a)=(YL nm && (ps.all YL && (tys.all YL && (((decide (base=[]) && decide (tys.length=0)) || YL base) && Za2 u)))):=by rw [Yd]
theorem Zp6 {n:Nat} (hu:PC w0 nG 10 (spB (ZgD Yg Za2 wUn) n)):PC w0 nG 10 (ZgD Yg Za2 wUn n):=by
 refine Zd Zb mixed (tbl:=[(25,U4),(26,Zfl (fun _=>ZJ) Yl wFi n),(28,Zfl (fun _=>ZB) YL wBs n),(24,ZgD Z1 Z6 wTy n),(27,ZgD ZW Y0 wRu n),(10,spB (ZgD Yg Za2 wUn) n)]) ⟨WY,Zp4,Zsq,Zwi,cMr n,hu,trivial⟩ Tryz.func10 rfl kR kR ?_;intro args σ K h
 unfold ZgD at h
 split at h
 ·obtain ⟨pl,⟨tys,rels,rules,comps,inits,overs⟩,rfl,⟨hz,hn⟩,h⟩:=h;rw [wUn,XB] at hz;rw [Za2,X5] at h;have gw:(YQ pl comps).length=comps.length:=by rw [ZN,Te]
  have hs0:=Zp wTy tys;have mg:=Zp wRe rels;have gd:=Zp wRu rules;have hs3:=Zp wCo comps;have hs4:=Zp wIn inits;have hs5:=Zp wOv overs;refine ⟨Za [(2,⟨[3],[1],fun vs σ=>∃i:Nat,vs=[.d (.int .i64 i)]/\σ=⟨[.cells 29 [.d (.sl (tys.map (Z1 pl))),.d (.sl (rels.map (Z3 pl))),.d (.sl (rules.map (ZW pl))),.d (.sl (YQ pl comps)),.d (.sl (inits.map (Yi pl))),.d (.sl (overs.map (Ye pl)))]],[],0⟩/\i<=tys.length/\tys.all Z6=(tys.drop i).all Z6,mu1 tys.length⟩),
   (7,⟨[4],[1],fun vs σ=>∃i:Nat,vs=[.d (.int .i64 i)]/\σ=⟨[.cells 29 [.d (.sl (tys.map (Z1 pl))),.d (.sl (rels.map (Z3 pl))),.d (.sl (rules.map (ZW pl))),.d (.sl (YQ pl comps)),.d (.sl (inits.map (Yi pl))),.d (.sl (overs.map (Ye pl)))]],[],0⟩/\i<=rels.length/\rels.all Xu=(rels.drop i).all Xu,mu1 rels.length⟩),
   (12,⟨[5],[1],fun vs σ=>∃i:Nat,vs=[.d (.int .i64 i)]/\σ=⟨[.cells 29 [.d (.sl (tys.map (Z1 pl))),.d (.sl (rels.map (Z3 pl))),.d (.sl (rules.map (ZW pl))),.d (.sl (YQ pl comps)),.d (.sl (inits.map (Yi pl))),.d (.sl (overs.map (Ye pl)))]],[],0⟩/\i<=rules.length/\rules.all Y0=(rules.drop i).all Y0,mu1 rules.length⟩),
   (17,⟨[6],[1],fun vs σ=>∃i:Nat,vs=[.d (.int .i64 i)]/\σ=⟨[.cells 29 [.d (.sl (tys.map (Z1 pl))),.d (.sl (rels.map (Z3 pl))),.d (.sl (rules.map (ZW pl))),.d (.sl (YQ pl comps)),.d (.sl (inits.map (Yi pl))),.d (.sl (overs.map (Ye pl)))]],[],0⟩/\i<=comps.length/\comps.all Yd=(comps.drop i).all Yd,mu1 comps.length⟩),
   (23,⟨[8],[1],fun vs σ=>∃i:Nat,vs=[.d (.int .i64 i)]/\σ=⟨[.cells 29 [.d (.sl (tys.map (Z1 pl))),.d (.sl (rels.map (Z3 pl))),.d (.sl (rules.map (ZW pl))),.d (.sl (YQ pl comps)),.d (.sl (inits.map (Yi pl))),.d (.sl (overs.map (Ye pl)))]],[],0⟩/\i<=inits.length/\inits.all Xv=(inits.drop i).all Xv,mu1 inits.length⟩),
   (28,⟨[9],[1],fun vs σ=>∃i:Nat,vs=[.d (.int .i64 i)]/\σ=⟨[.cells 29 [.d (.sl (tys.map (Z1 pl))),.d (.sl (rels.map (Z3 pl))),.d (.sl (rules.map (ZW pl))),.d (.sl (YQ pl comps)),.d (.sl (inits.map (Yi pl))),.d (.sl (overs.map (Ye pl)))]],[],0⟩/\i<=overs.length/\overs.all X7=(overs.drop i).all X7,mu1 overs.length⟩)],0,false,sM,Ta rfl,?_⟩
  conv=>whnf
  refine ⟨⟨0,rfl,rfl,oM,rfl⟩,?_⟩;intro vs σ hI
  obtain ⟨i,rfl,rfl,hi,ha⟩:=hI;(conv=>whnf);refine ZBC (fun aa=>wN ?_) (fun aa=>?_)
  ·have aa:i<tys.length:=lzI (Te ..) aa;have hg:=Zs wTy tys i aa;rw [Z5 Z6 aa] at ha;obtain ⟨eA,hA⟩:∃x,tys[i]=x:=⟨_,rfl⟩
   rw [hA] at hg ha;obtain ⟨k,nm,bs,fs,cs,at'⟩:=eA;have ae:(tys.map (Z1 pl))[((i:Nat):Int).toNat]?=some (Z1 pl ⟨k,nm,bs,fs,cs,at'⟩):=by simp [aa,hA]
   have no:Z6 ⟨k,nm,bs,fs,cs,at'⟩=false->K (.ret (.d (.bool false))) ⟨[],[],0⟩:=fun g=>h _ (by rw [ha,g];rfl)
   have go:Z6 ⟨k,nm,bs,fs,cs,at'⟩=true->tys.all Z6=(tys.drop (i+1)).all Z6:=fun g=>by rw [ha,g,Tt]
   clear ha
   refine ⟨_,oM,ae,wN ?_⟩;refine ⟨pl,⟨k,nm,bs,fs,cs,at'⟩,rfl,⟨oM,hn⟩,fun b0 au=>?_⟩;exact m206
  have aa:i=tys.length:=lzE (Te ..) oM aa;subst aa;rw [Sa] at ha;rw [ha] at h;simp only [List.all_nil,Tt] at h;(conv=>whnf);refine ⟨⟨0,rfl,rfl,oM,rfl⟩,?_⟩;intro vs σ hI
  obtain ⟨i,rfl,rfl,hi,ha⟩:=hI;(conv=>whnf);refine ZBC (fun aa=>wN ?_) (fun aa=>?_)
  ·have aa:i<rels.length:=lzI (Te ..) aa;have hg:=Zs wRe rels i aa;rw [Z5 Xu aa] at ha;obtain ⟨eA,hA⟩:∃x,rels[i]=x:=⟨_,rfl⟩
   rw [hA] at hg ha;obtain ⟨nm,fs,ii,oo,ll,at'⟩:=eA;simp only [wRe] at hg;have ae:(rels.map (Z3 pl))[((i:Nat):Int).toNat]?=some (Z3 pl ⟨nm,fs,ii,oo,ll,at'⟩):=by simp [aa,hA]
   have no:Xu ⟨nm,fs,ii,oo,ll,at'⟩=false->K (.ret (.d (.bool false))) ⟨[],[],0⟩:=fun g=>h _ (by rw [ha,g];rfl)
   have go:Xu ⟨nm,fs,ii,oo,ll,at'⟩=true->rels.all Xu=(rels.drop (i+1)).all Xu:=fun g=>by rw [ha,g,Tt]
   clear ha
   refine ⟨_,oM,ae,wN ?_⟩;refine ⟨show nm.length<4294967281 by omega,fun b0 au=>?_⟩
   cases b0 with
   | false =>
    conv=>whnf
    exact no (by simp [Xu,au])
   | true =>
   conv=>whnf
   refine ⟨_,oM,ae,wN ?_⟩;refine ⟨pl,fs,rfl,⟨oM,hn⟩,fun b1 aj=>?_⟩
   cases b1 with
   | false =>
    conv=>whnf
    exact no (by simp only [Xu,au,aj];rfl)
   | true =>
   have ha:=go (by simp only [Xu,au,aj];rfl);exact m18
  have aa:i=rels.length:=lzE (Te ..) oM aa;subst aa;rw [Sa] at ha;rw [ha] at h;simp only [List.all_nil,Tt] at h;(conv=>whnf);refine ⟨⟨0,rfl,rfl,oM,rfl⟩,?_⟩;intro vs σ hI
  obtain ⟨i,rfl,rfl,hi,ha⟩:=hI;(conv=>whnf);refine ZBC (fun aa=>wN ?_) (fun aa=>?_)
  ·have aa:i<rules.length:=lzI (Te ..) aa;have hg:=Zs wRu rules i aa;rw [Z5 Y0 aa] at ha;obtain ⟨eA,hA⟩:∃x,rules[i]=x:=⟨_,rfl⟩
   rw [hA] at hg ha;obtain ⟨dg,ar,bo,at'⟩:=eA;have ae:(rules.map (ZW pl))[((i:Nat):Int).toNat]?=some (ZW pl ⟨dg,ar,bo,at'⟩):=by simp [aa,hA]
   have no:Y0 ⟨dg,ar,bo,at'⟩=false->K (.ret (.d (.bool false))) ⟨[],[],0⟩:=fun g=>h _ (by rw [ha,g];rfl)
   have go:Y0 ⟨dg,ar,bo,at'⟩=true->rules.all Y0=(rules.drop (i+1)).all Y0:=fun g=>by rw [ha,g,Tt]
   clear ha
   refine ⟨_,oM,ae,wN ?_⟩;refine ⟨pl,⟨dg,ar,bo,at'⟩,rfl,⟨oM,hn⟩,fun b0 au=>?_⟩;exact m206
  have aa:i=rules.length:=lzE (Te ..) oM aa;subst aa;rw [Sa] at ha;rw [ha] at h;simp only [List.all_nil,Tt] at h;(conv=>whnf);refine ⟨⟨0,rfl,rfl,oM,rfl⟩,?_⟩;intro vs σ hI
  obtain ⟨i,rfl,rfl,hi,ha⟩:=hI;(conv=>whnf);refine ZBC (fun aa=>?_) (fun aa=>?_)
  ·have aa:i<comps.length:=lzI gw aa;have hg:=Zs wCo comps i aa;rw [Z5 Yd aa] at ha;obtain ⟨eA,hA⟩:∃x,comps[i]=x:=⟨_,rfl⟩
   rw [hA] at hg ha;obtain ⟨nm,ps,base,ts,⟨u1,u2,u3,u4,u5,u6⟩,at'⟩:=eA;rw [Zp5] at hg;have ae:(YQ pl comps)[((i:Nat):Int).toNat]?=some (YG pl (.mk nm ps base ts (.mk u1 u2 u3 u4 u5 u6) at')):=by rw [ZN];simp [aa,hA]
   have no:Yd (.mk nm ps base ts (.mk u1 u2 u3 u4 u5 u6) at')=false->K (.ret (.d (.bool false))) ⟨[],[],0⟩:=fun g=>h _ (by rw [ha,g];rfl)
   have go:Yd (.mk nm ps base ts (.mk u1 u2 u3 u4 u5 u6) at')=true->comps.all Yd=(comps.drop (i+1)).all Yd:=fun g=>by rw [ha,g,Tt]
   clear ha
   conv=>whnf
   rw [Zsr] at no go;refine ⟨_,oM,ae,wN ?_⟩;refine ⟨show nm.length<4294967281 by omega,fun b0 au=>?_⟩;rw [au] at no go
   cases b0 with
   | false =>
    conv=>whnf
    exact no rfl
   | true =>
   rw [Tt] at no go;(conv=>whnf);refine ⟨pl,ps,rfl,⟨oM,hn⟩,fun b1 aj=>?_⟩;rw [aj] at no go
   cases b1 with
   | false =>
    conv=>whnf
    exact no rfl
   | true =>
   rw [Tt] at no go;(conv=>whnf);refine ⟨pl,ts,rfl,⟨oM,hn⟩,fun b2 bp=>?_⟩;rw [bp] at no go
   cases b2 with
   | false =>
    conv=>whnf
    exact no rfl
   | true =>
   rw [Tt] at no go
   cases base with
   | nil =>
    have n6:(ts.map ZB).length=ts.length:=Te ..;(conv=>whnf)
    cases hq:decide (0<((ts.map ZB).length:Int)) with
    | true =>
     have l6:¬ts.length=0:=by have:=of_decide_eq_true hq;rw [n6] at this;omega
     conv=>whnf
     exact no (by rw [decide_eq_false l6,show YL []=false by decide];simp)
    | false =>
    have l6:ts.length=0:=by have:=of_decide_eq_false hq;rw [n6] at this;omega
    rw [TC l6] at no go;(conv=>whnf);refine ⟨oM,pl,.mk u1 u2 u3 u4 u5 u6,rfl,⟨oM,oM⟩,fun b3 f6=>?_⟩;rw [f6] at no go
    cases b3 with
    | false =>
     conv=>whnf
     exact no sM
    | true =>
    have ha:=go sM;exact m18
   | cons bc bl =>
   conv=>whnf
   refine ⟨show (bc::bl).length<4294967281 by omega,fun b3 f6=>?_⟩;rw [f6] at no go
   cases b3 with
   | false =>
    conv=>whnf
    exact no sM
   | true =>
   conv=>whnf
   refine ⟨oM,pl,.mk u1 u2 u3 u4 u5 u6,rfl,⟨oM,oM⟩,fun b4 qq=>?_⟩;rw [qq] at no go
   cases b4 with
   | false =>
    conv=>whnf
    exact no sM
   | true =>
   have ha:=go sM;exact m18
  have aa:i=comps.length:=lzE gw oM aa;subst aa;rw [Sa] at ha;rw [ha] at h;simp only [List.all_nil,Tt] at h;(conv=>whnf);refine ⟨⟨0,rfl,rfl,oM,rfl⟩,?_⟩;intro vs σ hI
  obtain ⟨i,rfl,rfl,hi,ha⟩:=hI;(conv=>whnf);refine ZBC (fun aa=>wN ?_) (fun aa=>?_)
  ·have aa:i<inits.length:=lzI (Te ..) aa;have hg:=Zs wIn inits i aa;rw [Z5 Xv aa] at ha;obtain ⟨eA,hA⟩:∃x,inits[i]=x:=⟨_,rfl⟩
   rw [hA] at hg ha;obtain ⟨nm,cn,ts,at'⟩:=eA;simp only [wIn] at hg;have ae:(inits.map (Yi pl))[((i:Nat):Int).toNat]?=some (Yi pl ⟨nm,cn,ts,at'⟩):=by simp [aa,hA]
   have no:Xv ⟨nm,cn,ts,at'⟩=false->K (.ret (.d (.bool false))) ⟨[],[],0⟩:=fun g=>h _ (by rw [ha,g];rfl)
   have go:Xv ⟨nm,cn,ts,at'⟩=true->inits.all Xv=(inits.drop (i+1)).all Xv:=fun g=>by rw [ha,g,Tt]
   clear ha
   refine ⟨_,oM,ae,wN ?_⟩;refine ⟨show nm.length<4294967281 by omega,fun b0 au=>?_⟩
   cases b0 with
   | false =>
    conv=>whnf
    exact no (by simp [Xv,au])
   | true =>
   conv=>whnf
   refine ⟨_,oM,ae,wN ?_⟩;refine ⟨show cn.length<4294967281 by omega,fun b1 aj=>?_⟩
   cases b1 with
   | false =>
    conv=>whnf
    exact no (by simp [Xv,au,aj])
   | true =>
   conv=>whnf
   refine ⟨_,oM,ae,wN ?_⟩;refine ⟨pl,ts,rfl,⟨oM,hn⟩,fun b2 bp=>?_⟩
   cases b2 with
   | false =>
    conv=>whnf
    exact no (by simp only [Xv,au,aj,bp];rfl)
   | true =>
   have ha:=go (by simp only [Xv,au,aj,bp];rfl);exact m18
  have aa:i=inits.length:=lzE (Te ..) oM aa;subst aa;rw [Sa] at ha;rw [ha] at h;simp only [List.all_nil,Tt] at h;(conv=>whnf);refine ⟨⟨0,rfl,rfl,oM,rfl⟩,?_⟩;intro vs σ hI
  obtain ⟨i,rfl,rfl,hi,ha⟩:=hI;(conv=>whnf);refine ZBC (fun aa=>wN ?_) (fun aa=>?_)
  ·have aa:i<overs.length:=lzI (Te ..) aa;have hg:=Zs wOv overs i aa;rw [Z5 X7 aa] at ha;obtain ⟨eA,hA⟩:∃x,overs[i]=x:=⟨_,rfl⟩
   rw [hA] at hg ha;obtain ⟨nm,at'⟩:=eA;simp only [wOv] at hg;have ae:(overs.map (Ye pl))[((i:Nat):Int).toNat]?=some (Ye pl ⟨nm,at'⟩):=by simp [aa,hA]
   have no:X7 ⟨nm,at'⟩=false->K (.ret (.d (.bool false))) ⟨[],[],0⟩:=fun g=>h _ (by rw [ha,g];rfl)
   have go:X7 ⟨nm,at'⟩=true->overs.all X7=(overs.drop (i+1)).all X7:=fun g=>by rw [ha,g,Tt]
   clear ha
   refine ⟨_,oM,ae,wN ?_⟩;refine ⟨show nm.length<4294967281 by omega,fun b0 au=>?_⟩;exact m206
  have aa:i=overs.length:=lzE (Te ..) oM aa;exact m127
 exact h.elim
theorem cMu:∀n,PC w0 nG 10 (ZgD Yg Za2 wUn n)
 | 0=>Zp6 (ZK (Zn Tryz.func10 kR rfl))
 | n+1=>Zp6 (ZL (sp:=ZgD Yg Za2 wUn) (cMu n))
noncomputable def ZAb:Zt:=fun args σ K=>match args,σ with
 | [.d (.sl r)],⟨[],[],0⟩=>∃l,r=l.map ZB/\((Zh cmm l).length<1099511627776/\l.length<1099511627776)/\∀t,Zh cmm l=t->K (.ret (.d (.str t))) ⟨[],[],0⟩
 | [.sl 0 _ r],⟨[],[0],1⟩=>∃l,r=l.map ZB/\((Zh cmm l).length<1099511627776/\l.length<1099511627776)/\∀t,Zh cmm l=t->K (.ret (.d (.str t))) ⟨[],[],0⟩
 | _,_=>False
theorem Zp7:PC w0 nG 75 ZAb:=by
 refine Zd Zb mixed (tbl:=[]) trivial Tryz.func75 rfl kR kR ?_;intro args σ K h
 unfold ZAb at h
 split at h;rotate_left 2
 ·exact h.elim
 all_goals
  obtain ⟨l,rfl,⟨hz,hn⟩,h⟩:=h;have ab:(l.map ZB).length=l.length:=Te ..;have hid:l.map (fun s:Bs=>s)=l:=List.map_id' ..;refine ⟨Za [(3,⟨[3,4],[0],fun vs σ=>∃i:Nat,vs=[.d (.str (Zh cmm ((l.take i).map fun s=>s))),.d (.int .i64 i)]/\σ=⟨[],[],0⟩/\i<=l.length,mu2 l.length⟩)],0,true,sM,Ta rfl,wN ?_⟩;refine ⟨⟨0,(by simp only [T2,TQ,Zh];rfl),rfl,oM⟩,?_⟩;intro vs σ hI
  obtain ⟨i,rfl,rfl,hi⟩:=hI;(conv=>whnf);refine ZBC (fun aa=>?_) (fun aa=>?_)
  ·have aa:i<l.length:=lzI ab aa;have ao:=Xo cmm (fun s:Bs=>s) aa;have ak:=WE cmm (fun s:Bs=>s) l i;have fx:=WE cmm (fun s:Bs=>s) l (i+1);rw [hid] at ak fx;obtain ⟨S,hS⟩:∃S,Zh cmm ((l.take i).map fun s=>s)=S:=⟨_,rfl⟩
   rw [hS] at ak ao |-;obtain ⟨X,hX⟩:∃x,l[i]=x:=⟨_,rfl⟩
   rw [hX] at ao;have ae:(l.map ZB)[((i:Nat):Int).toNat]?=some (ZB X):=by simp [aa,hX]
   have mu:((l.length:Int) - ((i:Int)+1)).toNat<((l.length:Int) - (i:Int)).toNat:=oM;(conv=>whnf);refine ZBC (fun h0=>wN ?_) (fun h0=>?_)
   ·have h0:0<i:=by omega
    rw [Tc oM] at ao;have ma:S.length+(2+X.length)<1099511627776:=by rw [ao] at fx;simp only [Tb,show cmm.length=2 from rfl] at fx;omega
    refine ⟨show S.length+2<2 ^ 62 by omega,wN ?_⟩;refine ⟨_,oM,ae,wN ?_⟩;refine ⟨show (S++cmm).length+X.length<2 ^ 62 by rw [Tb,show cmm.length=2 from rfl];omega,wN ?_⟩;refine Or.inl ⟨InR.i64 oM oM,wN ?_⟩;exact ⟨⟨i+1,by rw [ao,<- Th];rfl,rfl,oM⟩,mu⟩
   obtain rfl:i=0:=by omega
   rw [Tg rfl] at ao;have ma:X.length<1099511627776:=by rw [ao] at fx;omega
   have hS0:S=[]:=by rw [<- hS];rfl
   rw [hS0];(conv=>whnf);refine ⟨_,oM,ae,wN ?_⟩;refine ⟨show 0+X.length<2 ^ 62 by omega,wN ?_⟩;refine Or.inl ⟨InR.i64 oM oM,wN ?_⟩;exact ⟨⟨1,by rw [ao];rfl,rfl,oM⟩,mu⟩
  have aa:i=l.length:=lzE ab oM aa;subst aa;rw [TJ,hid];(conv=>whnf);exact h _ rfl
noncomputable def Zy7 (n:Nat):Zt:=fun args σ K=>match args,σ with
 | [.d (.sl r)],⟨[],[],0⟩=>∃l,r=l.map ZJ/\(szS wFi l<=n/\n<=16777216)/\∀t,Zh cmm (l.map fiT)=t->t.length<=64 * szS wFi l->K (.ret (.d (.str t))) ⟨[],[],0⟩
 | _,_=>False
noncomputable def Zyy:Tbl:=[(75,ZAb)]
theorem Zp8 {n:Nat}:PC w0 nG 30 (Zy7 n):=by
 refine Zd Zb mixed (tbl:=Zyy) ⟨Zp7,trivial⟩ Tryz.func30 rfl kR kR ?_;intro args σ K h
 unfold Zy7 at h
 split at h
 ·obtain ⟨l,rfl,⟨hz,hn⟩,h⟩:=h;have ab:(l.map ZJ).length=l.length:=Te ..;have hsz:=Zp wFi l;have cd:=ZC (T:=fiT) (w:=wFi) (l:=l) fun x _=>ZoY x
  have h:=h _ rfl cd;refine ⟨Za [(3,⟨[3,4],[0],fun vs σ=>∃i:Nat,vs=[.sl 0 9 (((l.take i).map fiT).map ZB),.d (.int .i64 i)]/\σ=⟨[],[0],1⟩/\i<=l.length,mu2 l.length⟩)],0,true,sM,Ta rfl,wN ?_⟩;refine ⟨⟨0,rfl,rfl,oM⟩,?_⟩;intro vs σ hI
  obtain ⟨i,rfl,rfl,hi⟩:=hI;(conv=>whnf);refine ZBC (fun aa=>?_) (fun aa=>?_)
  ·have aa:i<l.length:=lzI ab aa;have hg:=Zs wFi l i aa;have ao:((l.take (i+1)).map fiT).map ZB=((l.take i).map fiT).map ZB++[ZB (fiT l[i])]:=by rw [List.take_succ_eq_append_getElem aa,SG,SG];rfl
   obtain ⟨eA,hA⟩:∃x,l[i]=x:=⟨_,rfl⟩
   obtain ⟨nm,ty⟩:=eA;rw [hA] at hg ao;rw [show fiT ⟨nm,ty⟩=(nm++[58,32])++ty by simp only [fiT,Th]] at ao;simp only [wFi] at hg;have ae:(l.map ZJ)[((i:Nat):Int).toNat]?=some (ZJ ⟨nm,ty⟩):=by simp [aa,hA]
   have hRl:(((l.take i).map fiT).map ZB).length=i:=sO;obtain ⟨R,hR⟩:∃R,((l.take i).map fiT).map ZB=R:=⟨_,rfl⟩
   rw [hR] at ao hRl |-;(conv=>whnf);refine ⟨_,oM,ae,wN ?_⟩;refine ⟨sO,wN ?_⟩;refine ⟨_,oM,ae,wN ?_⟩;refine ⟨sO,wN ?_⟩;refine ⟨Tl.2 rfl,(show (R.length+1) * 16<=2 ^ 47 by omega),(show R.length+1<=2 ^ 47 by omega),wN ?_⟩
   (repeat (refine ⟨rfl,?_⟩;conv=>whnf))
   refine Or.inl ⟨InR.i64 oM oM,wN ?_⟩;refine ⟨⟨i+1,by rw [ao];rfl,rfl,oM⟩,?_⟩;exact lzM oM
  have aa:i=l.length:=lzE ab oM aa;subst aa;rw [TJ];(conv=>whnf);refine ⟨l.map fiT,rfl,⟨oM,by rw [Te];omega⟩,fun t ht=>wN ?_⟩;rw [ht] at h;exact h
 exact h.elim
noncomputable def ZAc:Zt:=fun args σ K=>match args,σ with
 | [.d (.sl r)],⟨[],[],0⟩=>∃l,r=l.map ZB/\szS wBs l<=16777216/\∀t,UN l=t->t.length<=2+64 * szS wBs l->K (.ret (.d (.str t))) ⟨[],[],0⟩
 | _,_=>False
theorem Zwj:PC w0 nG 31 ZAc:=by
 refine Zd Zb mixed (tbl:=Zyy) ⟨Zp7,trivial⟩ Tryz.func31 rfl kR kR ?_;intro args σ K h
 unfold ZAc at h
 split at h
 ·obtain ⟨l,rfl,hz,h⟩:=h;have ab:(l.map ZB).length=l.length:=Te ..;have hsz:=Zp wBs l;have h:=h _ rfl (Zap l);have hcm:=ZC (T:=fun s:Bs=>s) (w:=wBs) (l:=l) fun x _=>by unfold wBs;omega
  rw [show l.map (fun s:Bs=>s)=l from List.map_id' ..] at hcm;refine ⟨Za [],0,true,sM,Ta rfl,wN ?_⟩;refine ZBC (fun hc=>wN ?_) (fun hc=>wN ?_)
  ·have hc:l.length=0:=by have hc:((l.map ZB).length:Int)=0:=hc;rw [ab] at hc;omega
   rw [UN,Tg hc] at h;exact h
  have hc:¬l.length=0:=by have hc:¬((l.map ZB).length:Int)=0:=hc;rw [ab] at hc;omega
  rw [UN,Tc hc] at h;refine ⟨l,rfl,⟨oM,oM⟩,fun t ht=>wN ?_⟩;rw [ht] at h hcm;refine ⟨sO,wN ?_⟩;refine ⟨sO,wN ?_⟩;exact h
 exact h.elim
noncomputable def ZAd (n:Nat):Zt:=fun args σ K=>match args,σ with
 | [.agg c],⟨[],[],0⟩=>∃pl x,c=(Z1 pl x).map .d/\(Z6 x=true/\wTy x<=n/\n<=16777216)/\∀t,tyT x=t->K (.ret (.d (.str t))) ⟨[],[],0⟩
 | _,_=>False
theorem Zwk {t:Ty} (h:Z6 t=true):t.kind=1\/t.kind=2\/(t.kind=3/\0<t.cases.length):=by
 unfold Z6 at h
 simp only [Tk] at h;have h:=h.1;unfold UM at h
 split at h
 ·left;assumption
 split at h
 ·right;left;assumption
 split at h
 ·right;right
  simp only [Tk,TV,decide_eq_false_iff_not] at h;exact ⟨by assumption,oM⟩
 cases h
theorem Zwl {n:Nat}:PC w0 nG 29 (ZAd n):=by
 refine Zd Zb mixed (tbl:=[(30,Zy7 n)]) ⟨Zp8,trivial⟩ Tryz.func29 rfl kR kR ?_;intro args σ K h
 unfold ZAd at h
 split at h
 ·obtain ⟨pl,⟨k,nm,bs,fs,cs,at'⟩,rfl,⟨hm,hz,hn⟩,h⟩:=h;have hk:=Zwk hm;have n6:=ZoZ ⟨k,nm,bs,fs,cs,at'⟩;have h:=h _ rfl;simp only [wTy] at hz n6;simp only at hk;have gw:(cs.map ZZ).length=cs.length:=Te ..;have hsz:=Zp wCa cs;refine ⟨Za [(8,⟨[3,4],[1],fun vs σ=>∃i:Nat,vs=[.d (.str (([116,121,112,101,32]++nm)++(if i=0 then [] else [32,61,32]++Zh [32,124,32] ((cs.take i).map caT)))),.d (.int .i64 i)]/\σ=⟨[.cells 67 [.d (.int .u8 3),.d (.str nm),.d (.str bs),.d (.sl (fs.map ZJ)),.d (.sl (cs.map ZZ)),.d (.int .i64 (pl at'))]],[],0⟩/\i<=cs.length,mu2 cs.length⟩)],0,true,sM,Ta rfl,?_⟩;rcases hk with rfl | rfl | ⟨rfl,gi⟩
  ·rw [show tyT ⟨1,nm,bs,fs,cs,at'⟩=((([116,121,112,101,32]++nm)++[32,60,58,32])++bs)++[10] by simp [tyT]] at h;(conv=>whnf);refine ⟨sO,wN ?_⟩;refine ⟨sO,wN ?_⟩;refine ⟨sO,wN ?_⟩;refine ⟨sO,wN ?_⟩;exact h
  ·rw [show tyT ⟨2,nm,bs,fs,cs,at'⟩=((([116,121,112,101,32]++nm)++[32,61,32,91])++Zh cmm (fs.map fiT))++[93,10] by simp [tyT,VB]] at h;(conv=>whnf);refine ⟨sO,wN ?_⟩;refine ⟨sO,wN ?_⟩;refine ⟨fs,rfl,⟨oM,hn⟩,fun t ht hl=>wN ?_⟩;rw [ht] at h;refine ⟨sO,wN ?_⟩;refine ⟨sO,wN ?_⟩;exact h
  have hT:tyT ⟨3,nm,bs,fs,cs,at'⟩=(([116,121,112,101,32]++nm)++([32,61,32]++Zh [32,124,32] (cs.map caT)))++[10]:=by simp [tyT]
  rw [hT] at h n6
  clear hT
  have hC:(Zh [32,124,32] (cs.map caT)).length<=64 * n:=by
   simp only [Tb] at n6;omega
  conv=>whnf
  refine ⟨sO,wN ?_⟩;refine ⟨⟨0,(by rw [Tg rfl,TT];rfl),rfl,oM⟩,?_⟩;intro vs σ hI
  obtain ⟨i,rfl,rfl,hi⟩:=hI;(conv=>whnf);refine ZBC (fun aa=>?_) (fun aa=>?_)
  ·have aa:i<cs.length:=lzI gw aa;have hg:=Zs wCa cs i aa;have ao:=Xo [32,124,32] caT aa;have ak:=WE [32,124,32] caT cs i;have fx:=WE [32,124,32] caT cs (i+1);obtain ⟨S,hS⟩:∃S,Zh [32,124,32] ((cs.take i).map caT)=S:=⟨_,rfl⟩
   rw [hS] at ak ao |-;obtain ⟨eA,hA⟩:∃x,cs[i]=x:=⟨_,rfl⟩
   obtain ⟨cn,cf⟩:=eA;rw [hA] at hg ao;simp only [wCa] at hg;have ae:(cs.map ZZ)[((i:Nat):Int).toNat]?=some (ZZ ⟨cn,cf⟩):=by simp [aa,hA]
   have hca:caT ⟨cn,cf⟩=((cn++[32,123])++Zh cmm (cf.map fiT))++[125]:=by simp [caT,VB]
   obtain ⟨T,hT⟩:∃T,Zh cmm (cf.map fiT)=T:=⟨_,rfl⟩
   rw [hca,hT] at ao;have mu:((cs.length:Int) - ((i:Int)+1)).toNat<((cs.length:Int) - (i:Int)).toNat:=oM;(conv=>whnf);refine ZBC (fun h0=>?_) (fun h0=>?_)
   ·obtain rfl:i=0:=by have h0:(i:Int)=0:=h0;omega
    rw [Tg rfl] at ao;rw [Tg rfl,TT];(conv=>whnf)
    (repeat (first | (refine ⟨_,oM,ae,?_⟩;conv=>whnf) | (refine ⟨sO,?_⟩;conv=>whnf)))
    refine ⟨cf,rfl,⟨oM,hn⟩,fun t ht hl=>?_⟩;obtain rfl:t=T:=ht.symm.trans hT;(conv=>whnf)
    (repeat (first | (refine ⟨_,oM,ae,?_⟩;conv=>whnf) | (refine ⟨sO,?_⟩;conv=>whnf) | (refine ⟨rfl,?_⟩;conv=>whnf)))
    refine Or.inl ⟨InR.i64 oM oM,wN ?_⟩;exact ⟨⟨1,by rw [Tc oM,ao];simp only [Th];rfl,rfl,oM⟩,mu⟩
   have h0:¬i=0:=by have h0:¬(i:Int)=0:=h0;omega
   rw [Tc h0] at ao |-;(conv=>whnf)
   (repeat (first | (refine ⟨_,oM,ae,?_⟩;conv=>whnf) | (refine ⟨sO,?_⟩;conv=>whnf)))
   refine ⟨cf,rfl,⟨oM,hn⟩,fun t ht hl=>?_⟩;obtain rfl:t=T:=ht.symm.trans hT;(conv=>whnf)
   (repeat (first | (refine ⟨_,oM,ae,?_⟩;conv=>whnf) | (refine ⟨sO,?_⟩;conv=>whnf) | (refine ⟨rfl,?_⟩;conv=>whnf)))
   refine Or.inl ⟨InR.i64 oM oM,wN ?_⟩;exact ⟨⟨i+1,by rw [Tc oM,ao];simp only [Th];rfl,rfl,oM⟩,mu⟩
  have aa:i=cs.length:=lzE gw oM aa;subst aa;rw [Tc oM,TJ];(conv=>whnf);refine ⟨sO,wN ?_⟩;exact h
 exact h.elim
noncomputable def Zwm (n:Nat):Zt:=fun args σ K=>match args,σ with
 | [.agg c],⟨[],[],0⟩=>∃pl x,c=(Yg pl x).map .d/\((Za2 x=true/\ZiL x=true)/\wUn x<=n/\n<=16777216)/\∀t,unT x=t->K (.ret (.d (.str t))) ⟨[],[],0⟩
 | _,_=>False
theorem Zp9 {n:Nat} (hu:PC w0 nG 11 (spB Zwm n)):PC w0 nG 11 (Zwm n):=by
 refine Zd Zb mixed (tbl:=[(29,ZAd n),(30,Zy7 n),(31,ZAc),(11,spB Zwm n),(32,Zy3 n)]) ⟨Zwl,Zp8,Zwj,hu,cRt n,trivial⟩ Tryz.func11 rfl kR kR ?_;intro args σ K h
 unfold Zwm at h
 split at h
 ·obtain ⟨pl,⟨tys,rels,rules,comps,inits,overs⟩,rfl,⟨⟨hm,zl⟩,hz,hn⟩,h⟩:=h;have wi:=ZdW _ zl;have h:=h _ rfl;have hU:unT (.mk tys rels rules comps inits overs)=(tys.map tyT).flatten++((rels.map reT).flatten++((comps.map coT).flatten++((inits.map inT).flatten++((overs.map ovT).flatten++(rules.map Zed).flatten)))):=by rw [unT,Znw];rfl
  rw [hU] at h wi
  clear hU
  rw [wUn,XB] at hz wi;rw [Za2,X5] at hm;rw [ZiL,V7] at zl;simp only [Tk,Tm] at hm zl;obtain ⟨m1,_,m2,m3,_,_⟩:=hm;obtain ⟨r2,r3⟩:=zl;simp only [Tb] at wi;have gw:(YQ pl comps).length=comps.length:=by rw [ZN,Te]
  have hs0:=Zp wTy tys;have mg:=Zp wRe rels;have gd:=Zp wCo comps;have hs3:=Zp wIn inits;have hs4:=Zp wOv overs;have hs5:=Zp wRu rules;obtain ⟨A1,hA1⟩:∃A,(tys.map tyT).flatten=A:=⟨_,rfl⟩
  have dx:A1.length=(tys.map tyT).flatten.length:=by rw [hA1]
  obtain ⟨A2,zd⟩:∃A,A1++(rels.map reT).flatten=A:=⟨_,rfl⟩
  have iu:A2.length=A1.length+(rels.map reT).flatten.length:=by rw [<- zd,Tb]
  obtain ⟨A3,hA3⟩:∃A,A2++(comps.map coT).flatten=A:=⟨_,rfl⟩
  have l9:A3.length=A2.length+(comps.map coT).flatten.length:=by rw [<- hA3,Tb]
  obtain ⟨A4,hA4⟩:∃A,A3++(inits.map inT).flatten=A:=⟨_,rfl⟩
  have jv:A4.length=A3.length+(inits.map inT).flatten.length:=by rw [<- hA4,Tb]
  obtain ⟨A5,hA5⟩:∃A,A4++(overs.map ovT).flatten=A:=⟨_,rfl⟩
  have xn:A5.length=A4.length+(overs.map ovT).flatten.length:=by rw [<- hA5,Tb]
  obtain ⟨A6,hA6⟩:∃A,A5++(rules.map Zed).flatten=A:=⟨_,rfl⟩
  have hl6:A6.length=A5.length+(rules.map Zed).flatten.length:=by rw [<- hA6,Tb]
  simp only [<- Th] at h;rw [hA1,zd,hA3,hA4,hA5,hA6] at h;refine ⟨Za [(3,⟨[3,4],[1],fun vs σ=>∃i:Nat,vs=[.d (.str (((tys.take i).map tyT).flatten)),.d (.int .i64 i)]/\σ=⟨[.cells 29 [.d (.sl (tys.map (Z1 pl))),.d (.sl (rels.map (Z3 pl))),.d (.sl (rules.map (ZW pl))),.d (.sl (YQ pl comps)),.d (.sl (inits.map (Yi pl))),.d (.sl (overs.map (Ye pl)))]],[],0⟩/\i<=tys.length,mu2 tys.length⟩),
   (7,⟨[3,5],[1],fun vs σ=>∃i:Nat,vs=[.d (.str (A1++((rels.take i).map reT).flatten)),.d (.int .i64 i)]/\σ=⟨[.cells 29 [.d (.sl (tys.map (Z1 pl))),.d (.sl (rels.map (Z3 pl))),.d (.sl (rules.map (ZW pl))),.d (.sl (YQ pl comps)),.d (.sl (inits.map (Yi pl))),.d (.sl (overs.map (Ye pl)))]],[],0⟩/\i<=rels.length,mu2 rels.length⟩),
   (19,⟨[3,7],[1],fun vs σ=>∃i:Nat,vs=[.d (.str (A2++((comps.take i).map coT).flatten)),.d (.int .i64 i)]/\σ=⟨[.cells 29 [.d (.sl (tys.map (Z1 pl))),.d (.sl (rels.map (Z3 pl))),.d (.sl (rules.map (ZW pl))),.d (.sl (YQ pl comps)),.d (.sl (inits.map (Yi pl))),.d (.sl (overs.map (Ye pl)))]],[],0⟩/\i<=comps.length,mu2 comps.length⟩),
   (27,⟨[3,9],[1],fun vs σ=>∃i:Nat,vs=[.d (.str (A3++((inits.take i).map inT).flatten)),.d (.int .i64 i)]/\σ=⟨[.cells 29 [.d (.sl (tys.map (Z1 pl))),.d (.sl (rels.map (Z3 pl))),.d (.sl (rules.map (ZW pl))),.d (.sl (YQ pl comps)),.d (.sl (inits.map (Yi pl))),.d (.sl (overs.map (Ye pl)))]],[],0⟩/\i<=inits.length,mu2 inits.length⟩),
   (31,⟨[3,10],[1],fun vs σ=>∃i:Nat,vs=[.d (.str (A4++((overs.take i).map ovT).flatten)),.d (.int .i64 i)]/\σ=⟨[.cells 29 [.d (.sl (tys.map (Z1 pl))),.d (.sl (rels.map (Z3 pl))),.d (.sl (rules.map (ZW pl))),.d (.sl (YQ pl comps)),.d (.sl (inits.map (Yi pl))),.d (.sl (overs.map (Ye pl)))]],[],0⟩/\i<=overs.length,mu2 overs.length⟩),
   (35,⟨[3,11],[1],fun vs σ=>∃i:Nat,vs=[.d (.str (A5++((rules.take i).map Zed).flatten)),.d (.int .i64 i)]/\σ=⟨[.cells 29 [.d (.sl (tys.map (Z1 pl))),.d (.sl (rels.map (Z3 pl))),.d (.sl (rules.map (ZW pl))),.d (.sl (YQ pl comps)),.d (.sl (inits.map (Yi pl))),.d (.sl (overs.map (Ye pl)))]],[],0⟩/\i<=rules.length,mu2 rules.length⟩)],0,true,sM,Ta rfl,?_⟩
  conv=>whnf
  refine ⟨⟨0,zN,rfl,oM⟩,?_⟩;intro vs σ hI
  obtain ⟨i,rfl,rfl,hi⟩:=hI;(conv=>whnf);refine ZBC (fun aa=>?_) (fun aa=>?_)
  ·have aa:i<tys.length:=lzI (Te ..) aa;have hg:=Zs wTy tys i aa;have ao:=Y1 tyT aa;have ak:=WP tyT tys (i+1);rw [ao,Tb] at ak;obtain ⟨S,hS⟩:∃S,((tys.take i).map tyT).flatten=S:=⟨_,rfl⟩
   have bu:((tys.take (i+1)).map tyT).flatten=S++tyT tys[i]:=by rw [ao,hS]
   rw [hS] at ak;have gx:S.length+(tyT tys[i]).length<=64 * n:=oM
   clear ao ak
   rw [hS];obtain ⟨eA,hA⟩:∃x,tys[i]=x:=⟨_,rfl⟩
   rw [hA] at hg bu gx;obtain ⟨k,nm,bs,fs,cs,at'⟩:=eA;have ae:(tys.map (Z1 pl))[((i:Nat):Int).toNat]?=some (Z1 pl ⟨k,nm,bs,fs,cs,at'⟩):=by simp [aa,hA]
   have mu:((tys.length:Int) - ((i:Int)+1)).toNat<((tys.length:Int) - (i:Int)).toNat:=oM;have qc:S.length<=64 * n:=oM;(conv=>whnf);have fq:Z6 ⟨k,nm,bs,fs,cs,at'⟩=true:=hA ▸ m1 _ (TD aa)
   (repeat (first | (refine ⟨_,oM,ae,?_⟩;conv=>whnf) | (refine ⟨sO,?_⟩;conv=>whnf) | (refine ⟨rfl,?_⟩;conv=>whnf)))
   refine ⟨pl,⟨k,nm,bs,fs,cs,at'⟩,rfl,⟨fq,oM,hn⟩,fun t ht=>wN ?_⟩;rw [ht] at bu gx;exact m25
  have aa:i=tys.length:=lzE (Te ..) oM aa;subst aa;rw [TJ,hA1];(conv=>whnf);refine ⟨⟨0,zN,rfl,oM⟩,?_⟩;intro vs σ hI
  obtain ⟨i,rfl,rfl,hi⟩:=hI;(conv=>whnf);refine ZBC (fun aa=>?_) (fun aa=>?_)
  ·have aa:i<rels.length:=lzI (Te ..) aa;have hg:=Zs wRe rels i aa;have ao:=Y1 reT aa;have ak:=WP reT rels (i+1);rw [ao,Tb] at ak;obtain ⟨S,hS⟩:∃S,A1++((rels.take i).map reT).flatten=S:=⟨_,rfl⟩
   have bu:A1++((rels.take (i+1)).map reT).flatten=S++reT rels[i]:=by rw [ao,<- Th,hS]
   have hSl:S.length=A1.length+((rels.take i).map reT).flatten.length:=by rw [<- hS,Tb]
   have gx:S.length+(reT rels[i]).length<=64 * n:=oM
   clear ao ak
   rw [hS];obtain ⟨eA,hA⟩:∃x,rels[i]=x:=⟨_,rfl⟩
   rw [hA] at hg bu gx;obtain ⟨nm,fs,ii,oo,ll,at'⟩:=eA;have ae:(rels.map (Z3 pl))[((i:Nat):Int).toNat]?=some (Z3 pl ⟨nm,fs,ii,oo,ll,at'⟩):=by simp [aa,hA]
   have mu:((rels.length:Int) - ((i:Int)+1)).toNat<((rels.length:Int) - (i:Int)).toNat:=oM;have qc:S.length<=64 * n:=oM;(conv=>whnf);simp only [wRe] at hg;obtain ⟨X,hX⟩:∃X,Zh cmm (fs.map fiT)=X:=⟨_,rfl⟩
   have hT:reT ⟨nm,fs,ii,oo,ll,at'⟩=(((([100,101,99,108,32]++nm)++[40])++X)++[41])++((if ii=true then [32,105,110,112,117,116] else [])++((if oo=true then [32,111,117,116,112,117,116] else [])++((if ll=true then [32,105,110,108,105,110,101] else [])++[10]))):=by
    rw [<- hX];simp [reT,VB]
   rw [hT] at bu
   clear hT gx
   (repeat (first | (refine ⟨_,oM,ae,?_⟩;conv=>whnf) | (refine ⟨sO,?_⟩;conv=>whnf) | (refine ⟨rfl,?_⟩;conv=>whnf)))
   refine ⟨fs,rfl,⟨oM,hn⟩,fun t ht n6=>?_⟩;obtain rfl:t=X:=ht.symm.trans hX;(conv=>whnf)
   (repeat (first | (refine ⟨_,oM,ae,?_⟩;conv=>whnf) | (refine ⟨sO,?_⟩;conv=>whnf) | (refine ⟨rfl,?_⟩;conv=>whnf)))
   cases ii
   all_goals
    conv=>whnf
    (repeat (first | (refine ⟨_,oM,ae,?_⟩;conv=>whnf) | (refine ⟨sO,?_⟩;conv=>whnf) | (refine ⟨rfl,?_⟩;conv=>whnf)))
    cases oo
    all_goals
     conv=>whnf
     (repeat (first | (refine ⟨_,oM,ae,?_⟩;conv=>whnf) | (refine ⟨sO,?_⟩;conv=>whnf) | (refine ⟨rfl,?_⟩;conv=>whnf)))
     cases ll
     all_goals
      conv=>whnf
      (repeat (first | (refine ⟨_,oM,ae,?_⟩;conv=>whnf) | (refine ⟨sO,?_⟩;conv=>whnf) | (refine ⟨rfl,?_⟩;conv=>whnf)))
      simp only [if_true,if_false,To,T3] at bu;refine Or.inl ⟨InR.i64 oM oM,wN ?_⟩;exact ⟨⟨i+1,by rw [bu];(try simp only [Th]);rfl,rfl,oM⟩,mu⟩
  have aa:i=rels.length:=lzE (Te ..) oM aa;subst aa;rw [TJ,zd];(conv=>whnf);refine ⟨⟨0,zN,rfl,oM⟩,?_⟩;intro vs σ hI
  obtain ⟨i,rfl,rfl,hi⟩:=hI;(conv=>whnf);refine ZBC (fun aa=>?_) (fun aa=>?_)
  ·have aa:i<comps.length:=lzI gw aa;have hg:=Zs wCo comps i aa;have ao:=Y1 coT aa;have ak:=WP coT comps (i+1);rw [ao,Tb] at ak;obtain ⟨S,hS⟩:∃S,A2++((comps.take i).map coT).flatten=S:=⟨_,rfl⟩
   have bu:A2++((comps.take (i+1)).map coT).flatten=S++coT comps[i]:=by rw [ao,<- Th,hS]
   have hSl:S.length=A2.length+((comps.take i).map coT).flatten.length:=by rw [<- hS,Tb]
   have gx:S.length+(coT comps[i]).length<=64 * n:=oM
   clear ao ak
   rw [hS];obtain ⟨eA,hA⟩:∃x,comps[i]=x:=⟨_,rfl⟩
   rw [hA] at hg bu gx;obtain ⟨nm,ps,base,ts,⟨u1,u2,u3,u4,u5,u6⟩,at'⟩:=eA;have ae:(YQ pl comps)[((i:Nat):Int).toNat]?=some (YG pl (.mk nm ps base ts (.mk u1 u2 u3 u4 u5 u6) at')):=by rw [ZN];simp [aa,hA]
   have mu:((comps.length:Int) - ((i:Int)+1)).toNat<((comps.length:Int) - (i:Int)).toNat:=oM;have qc:S.length<=64 * n:=oM;(conv=>whnf);obtain ⟨fq,jh⟩:Yd (.mk nm ps base ts (.mk u1 u2 u3 u4 u5 u6) at')=true/\Zdy (.mk nm ps base ts (.mk u1 u2 u3 u4 u5 u6) at')=true:=hA ▸ ⟨m3 _ (TD aa),r3 _ (TD aa)⟩;have vf:=(ZjP fq).2.2.2.2;rw [Zdy] at jh;rw [Zp5] at hg;have uf:=ZdW _ jh;have sr:=Zap ps;have aei:=Zap ts;obtain ⟨X,hX⟩:∃X,UN ps=X:=⟨_,rfl⟩
   obtain ⟨Y,hY⟩:∃Y,UN ts=Y:=⟨_,rfl⟩
   obtain ⟨Z,hZ⟩:∃Z,unT (.mk u1 u2 u3 u4 u5 u6)=Z:=⟨_,rfl⟩
   have hT:coT (.mk nm ps base ts (.mk u1 u2 u3 u4 u5 u6) at')=(([99,111,109,112,32]++nm)++X)++((if base=[] then [] else ([32,58,32]++base)++Y)++(([32,123,10]++Z)++[125,10])):=by
    rw [<- hX,<- hY,<- hZ,coT];simp only [Th]
   rw [hT] at bu;rw [hX] at sr;rw [hY] at aei;rw [hZ] at uf
   clear hT gx
   (repeat (first | (refine ⟨_,oM,ae,?_⟩;conv=>whnf) | (refine ⟨sO,?_⟩;conv=>whnf) | (refine ⟨rfl,?_⟩;conv=>whnf)))
   refine ⟨ps,rfl,oM,fun t ht n6=>?_⟩;obtain rfl:t=X:=ht.symm.trans hX;(conv=>whnf)
   (repeat (first | (refine ⟨_,oM,ae,?_⟩;conv=>whnf) | (refine ⟨sO,?_⟩;conv=>whnf) | (refine ⟨rfl,?_⟩;conv=>whnf)))
   cases base with
   | nil =>
    rw [Tg rfl] at bu;exact m208
   | cons bc bl =>
   rw [Tc sM] at bu;simp only [Td] at hg;(conv=>whnf)
   (repeat (first | (refine ⟨_,oM,ae,?_⟩;conv=>whnf) | (refine ⟨sO,?_⟩;conv=>whnf) | (refine ⟨rfl,?_⟩;conv=>whnf)))
   refine ⟨ts,rfl,oM,fun t3 sx ah2=>?_⟩;obtain rfl:t3=Y:=sx.symm.trans hY;exact m208
  have aa:i=comps.length:=lzE gw oM aa;subst aa;rw [TJ,hA3];(conv=>whnf);refine ⟨⟨0,zN,rfl,oM⟩,?_⟩;intro vs σ hI
  obtain ⟨i,rfl,rfl,hi⟩:=hI;(conv=>whnf);refine ZBC (fun aa=>?_) (fun aa=>?_)
  ·have aa:i<inits.length:=lzI (Te ..) aa;have hg:=Zs wIn inits i aa;have ao:=Y1 inT aa;have ak:=WP inT inits (i+1);rw [ao,Tb] at ak;obtain ⟨S,hS⟩:∃S,A3++((inits.take i).map inT).flatten=S:=⟨_,rfl⟩
   have bu:A3++((inits.take (i+1)).map inT).flatten=S++inT inits[i]:=by rw [ao,<- Th,hS]
   have hSl:S.length=A3.length+((inits.take i).map inT).flatten.length:=by rw [<- hS,Tb]
   have gx:S.length+(inT inits[i]).length<=64 * n:=oM
   clear ao ak
   rw [hS];obtain ⟨eA,hA⟩:∃x,inits[i]=x:=⟨_,rfl⟩
   rw [hA] at hg bu gx;obtain ⟨nm,cn,ts,at'⟩:=eA;have ae:(inits.map (Yi pl))[((i:Nat):Int).toNat]?=some (Yi pl ⟨nm,cn,ts,at'⟩):=by simp [aa,hA]
   have mu:((inits.length:Int) - ((i:Int)+1)).toNat<((inits.length:Int) - (i:Int)).toNat:=oM;have qc:S.length<=64 * n:=oM;(conv=>whnf);simp only [wIn] at hg;have sr:=Zap ts;obtain ⟨Y,hY⟩:∃Y,UN ts=Y:=⟨_,rfl⟩
   have hT:inT ⟨nm,cn,ts,at'⟩=(((([105,110,105,116,32]++nm)++[32,61,32])++cn)++Y)++[10]:=by rw [<- hY];simp only [inT,Th]
   rw [hT] at bu;rw [hY] at sr
   clear hT gx
   (repeat (first | (refine ⟨_,oM,ae,?_⟩;conv=>whnf) | (refine ⟨sO,?_⟩;conv=>whnf) | (refine ⟨rfl,?_⟩;conv=>whnf)))
   refine ⟨ts,rfl,oM,fun t ht n6=>?_⟩;obtain rfl:t=Y:=ht.symm.trans hY;(conv=>whnf);exact m25
  have aa:i=inits.length:=lzE (Te ..) oM aa;subst aa;rw [TJ,hA4];(conv=>whnf);refine ⟨⟨0,zN,rfl,oM⟩,?_⟩;intro vs σ hI
  obtain ⟨i,rfl,rfl,hi⟩:=hI;(conv=>whnf);refine ZBC (fun aa=>?_) (fun aa=>?_)
  ·have aa:i<overs.length:=lzI (Te ..) aa;have hg:=Zs wOv overs i aa;have ao:=Y1 ovT aa;have ak:=WP ovT overs (i+1);rw [ao,Tb] at ak;obtain ⟨S,hS⟩:∃S,A4++((overs.take i).map ovT).flatten=S:=⟨_,rfl⟩
   have bu:A4++((overs.take (i+1)).map ovT).flatten=S++ovT overs[i]:=by rw [ao,<- Th,hS]
   have hSl:S.length=A4.length+((overs.take i).map ovT).flatten.length:=by rw [<- hS,Tb]
   have gx:S.length+(ovT overs[i]).length<=64 * n:=oM
   clear ao ak
   rw [hS];obtain ⟨eA,hA⟩:∃x,overs[i]=x:=⟨_,rfl⟩
   rw [hA] at hg bu gx;obtain ⟨nm,at'⟩:=eA;have ae:(overs.map (Ye pl))[((i:Nat):Int).toNat]?=some (Ye pl ⟨nm,at'⟩):=by simp [aa,hA]
   have mu:((overs.length:Int) - ((i:Int)+1)).toNat<((overs.length:Int) - (i:Int)).toNat:=oM;have qc:S.length<=64 * n:=oM;(conv=>whnf);simp only [wOv] at hg;have hT:ovT ⟨nm,at'⟩=([111,118,101,114,114,105,100,101,32]++nm)++[10]:=by simp only [ovT,Th]
   rw [hT] at bu
   clear hT gx
   exact m25
  have aa:i=overs.length:=lzE (Te ..) oM aa;subst aa;rw [TJ,hA5];(conv=>whnf);refine ⟨⟨0,zN,rfl,oM⟩,?_⟩;intro vs σ hI
  obtain ⟨i,rfl,rfl,hi⟩:=hI;(conv=>whnf);refine ZBC (fun aa=>?_) (fun aa=>?_)
  ·have aa:i<rules.length:=lzI (Te ..) aa;have hg:=Zs wRu rules i aa;have ao:=Y1 Zed aa;have ak:=WP Zed rules (i+1);rw [ao,Tb] at ak;obtain ⟨S,hS⟩:∃S,A5++((rules.take i).map Zed).flatten=S:=⟨_,rfl⟩
   have bu:A5++((rules.take (i+1)).map Zed).flatten=S++Zed rules[i]:=by rw [ao,<- Th,hS]
   have hSl:S.length=A5.length+((rules.take i).map Zed).flatten.length:=by rw [<- hS,Tb]
   have gx:S.length+(Zed rules[i]).length<=64 * n:=oM
   clear ao ak
   rw [hS];obtain ⟨eA,hA⟩:∃x,rules[i]=x:=⟨_,rfl⟩
   rw [hA] at hg bu gx;obtain ⟨dg,ar,bo,at'⟩:=eA;have ae:(rules.map (ZW pl))[((i:Nat):Int).toNat]?=some (ZW pl ⟨dg,ar,bo,at'⟩):=by simp [aa,hA]
   have mu:((rules.length:Int) - ((i:Int)+1)).toNat<((rules.length:Int) - (i:Int)).toNat:=oM;have qc:S.length<=64 * n:=oM;(conv=>whnf);obtain ⟨fq,jh⟩:Y0 ⟨dg,ar,bo,at'⟩=true/\Zdx ⟨dg,ar,bo,at'⟩=true:=hA ▸ ⟨m2 _ (TD aa),r2 _ (TD aa)⟩;have bz:=ZoX jh;obtain ⟨X,hX⟩:∃X,ruT ⟨dg,ar,bo,at'⟩=X:=⟨_,rfl⟩
   have hT:Zed ⟨dg,ar,bo,at'⟩=X++[10]:=by rw [<- hX];rfl
   rw [hT] at bu;rw [hX] at bz
   clear hT gx
   (repeat (first | (refine ⟨_,oM,ae,?_⟩;conv=>whnf) | (refine ⟨sO,?_⟩;conv=>whnf) | (refine ⟨rfl,?_⟩;conv=>whnf)))
   refine ⟨pl,⟨dg,ar,bo,at'⟩,rfl,⟨⟨fq,jh⟩,oM,oM⟩,fun t ht=>?_⟩;obtain rfl:t=X:=ht.symm.trans hX;(conv=>whnf);exact m25
  have aa:i=rules.length:=lzE (Te ..) oM aa;subst aa;rw [TJ,hA6];exact m103
 exact h.elim
theorem cUt:∀n,PC w0 nG 11 (Zwm n)
 | 0=>Zp9 (ZK (Zn Tryz.func11 kR rfl))
 | n+1=>Zp9 (ZL (sp:=Zwm) (cUt n))
noncomputable def ZhX {α:Type} (enc:Pl->α->List D) (sz:α->Nat) (bd:Int->Int) (m:Nat):Zt:=fun args σ K=>match args,σ with
 | [.agg c,.d (.int .i64 most)],⟨[],[],0⟩=>∃pl x B,c=(enc pl x).map .d/\((0<=most/\most<m)/\m<=1000000/\sz x<=B/\B<=1099511627776)/\∀r,0<=r->r<=bd most->K (.ret (.d (.int .i64 r))) ⟨[],[],0⟩
 | _,_=>False
noncomputable def Zcx {α:Type} (enc:Pl->α->List D) (sz:α->Nat) (bd:Int->Int) (m:Nat):Zt:=fun args σ K=>match args,σ with
 | [.d (.sl r1),.d (.int .i64 most)],⟨[],[],0⟩=>∃pl l B,r1=l.map (enc pl)/\((0<=most/\most<m)/\m<=1000000/\szS sz l<=B/\B<=1099511627776)/\∀r,0<=r->r<=bd most->K (.ret (.d (.int .i64 r))) ⟨[],[],0⟩
 | _,_=>False
def bd2 (m:Int):Int:=2 * m+1
def bd3 (m:Int):Int:=3 * m+1
def bd5 (m:Int):Int:=5 * m+2
def bdU (m:Int):Int:=5 * m+4611686018427
noncomputable def Zyz (m:Nat):Tbl:=[(61,spB (ZhX YE szE bd2) m)]
theorem ZyA {m:Nat} (ht:TO w0 nG (Zyz m)):PC w0 nG 61 (ZhX YE szE bd2 m):=by
 refine Zd Zb mixed (tbl:=(Zyz m)) ht Tryz.func61 rfl kR kR ?_;intro args σ K h
 unfold ZhX at h
 split at h
 ·obtain ⟨pl,⟨a1,a2,a3,a4,a5⟩,B,rfl,⟨⟨hm0,qi⟩,hm2,hz,hB⟩,h⟩:=h
  rename_i most
  simp only [szE] at hz;have jv:(Z0 pl a4).length=a4.length:=by rw [Ze,Te]
  have hsz:=Zkt a4;unfold bd2 at h
  refine ⟨Za [(3,⟨[6,5],[1,2],fun vs σ=>∃(i:Nat) (nn:Int),vs=[.d (.int .i64 i),.d (.int .i64 nn)]/\σ=⟨[.cells 48 ((YE pl (.mk a1 a2 a3 a4 a5)).map .d)],[],0⟩/\i<=a4.length/\1<=nn/\nn<=2 * most+1,fun vs _=>match vs with | [.d (.int _ i),_]=>((a4.length:Nat) - i:Int).toNat | _=>0⟩)],0,false,sM,Ta rfl,wN ?_⟩
  (repeat (first | (refine Or.inl ⟨InR.i64 oM oM,?_⟩;conv=>whnf) | (refine ⟨_,oM,ae,?_⟩;conv=>whnf)))
  refine ⟨⟨0,_,rfl,rfl,oM,oM,oM⟩,?_⟩;intro vs σ hI
  obtain ⟨i,nn,rfl,rfl,hi,ek,ik⟩:=hI;(conv=>whnf);refine ZBC (fun aa=>?_) (fun aa=>?_);rotate_left
  ·exact m107
  have aa:i<a4.length:=lzI jv aa;(conv=>whnf);refine ZBC (fun gc=>?_) (fun gc=>?_);rotate_left
  ·exact m107
  conv=>whnf
  obtain ⟨eA,hA⟩:∃e,a4[i]=e:=⟨_,rfl⟩
  have hg:=Zku a4 i aa;obtain ⟨b1,b2,b3,b4,b5⟩:=eA;rw [hA] at hg;have ae:(Z0 pl a4)[((i:Nat):Int).toNat]?=some (YE pl (.mk b1 b2 b3 b4 b5)):=by rw [Ze];simp [aa,hA]
  (repeat (first | (refine Or.inl ⟨InR.i64 oM oM,?_⟩;conv=>whnf) | (refine ⟨_,oM,ae,?_⟩;conv=>whnf)))
  refine ⟨oM,pl,.mk b1 b2 b3 b4 b5,B,rfl,⟨⟨oM,oM⟩,oM,oM,hB⟩,fun r ge kx=>wN ?_⟩;unfold bd2 at kx
  refine Or.inl ⟨InR.i64 oM oM,wN ?_⟩;refine Or.inl ⟨InR.i64 oM oM,wN ?_⟩;refine ⟨⟨i+1,_,rfl,rfl,oM,oM,oM⟩,?_⟩;show ((a4.length:Nat) - ((i:Int)+1)).toNat<((a4.length:Nat) - (i:Int)).toNat;omega
 exact h.elim
theorem cZE:∀m,PC w0 nG 61 (ZhX YE szE bd2 m)
 | 0=>ZyA ⟨ZK (Zn Tryz.func61 kR rfl),trivial⟩
 | m+1=>ZyA ⟨ZL (sp:=ZhX YE szE bd2) (cZE m),trivial⟩
theorem ZyB {m:Nat} :PC w0 nG 19 (Zcx (fun _=>ZJ) sz0 bd3 m):=by
 refine Zd Zb mixed (tbl:=[]) trivial Tryz.func19 rfl kR kR ?_;intro args σ K h
 unfold Zcx at h
 split at h
 ·obtain ⟨pl,l,B,rfl,⟨⟨hm0,qi⟩,hm2,hz,hB⟩,h⟩:=h
  rename_i most
  have jv:(l.map ZJ).length=l.length:=Te ..;have hsz:=Zp (sz0 (α:=Fi)) l;unfold bd3 at h
  refine ⟨Za [(3,⟨[6,5],[0,1],fun vs σ=>∃(i:Nat) (nn:Int),vs=[.d (.int .i64 i),.d (.int .i64 nn)]/\σ=⟨[],[],0⟩/\i<=l.length/\0<=nn/\nn<=3 * most+1,fun vs _=>match vs with | [.d (.int _ i),_]=>((l.length:Nat) - i:Int).toNat | _=>0⟩)],0,false,sM,Ta rfl,wN ?_⟩;refine ⟨⟨0,0,rfl,rfl,oM,oM,oM⟩,?_⟩;intro vs σ hI
  obtain ⟨i,nn,rfl,rfl,hi,ek,ik⟩:=hI;(conv=>whnf);refine ZBC (fun aa=>?_) (fun aa=>?_);rotate_left
  ·exact m107
  have aa:i<l.length:=lzI jv aa;(conv=>whnf);refine ZBC (fun gc=>?_) (fun gc=>?_);rotate_left
  ·exact m107
  conv=>whnf
  obtain ⟨eA,hA⟩:∃e,l[i]=e:=⟨_,rfl⟩
  obtain ⟨b1,b2⟩:=eA;have ae:(l.map ZJ)[((i:Nat):Int).toNat]?=some (ZJ ⟨b1,b2⟩):=by simp [aa,hA]
  (repeat (first | (refine Or.inl ⟨InR.i64 oM oM,?_⟩;conv=>whnf) | (refine ⟨_,oM,ae,?_⟩;conv=>whnf)))
  exact m240
 exact h.elim
noncomputable def ZyC (m:Nat):Tbl:=[(61,ZhX YE szE bd2 m),(62,spB (Zcx XI szL bd2) m)]
theorem ZyD {m:Nat} (ht:TO w0 nG (ZyC m)):PC w0 nG 62 (Zcx XI szL bd2 m):=by
 refine Zd Zb mixed (tbl:=(ZyC m)) ht Tryz.func62 rfl kR kR ?_;intro args σ K h
 unfold Zcx at h
 split at h
 ·obtain ⟨pl,l,B,rfl,⟨⟨hm0,qi⟩,hm2,hz,hB⟩,h⟩:=h
  rename_i most
  have jv:(l.map (XI pl)).length=l.length:=Te ..;have hsz:=Zp szL l;unfold bd2 at h
  refine ⟨Za [(3,⟨[6,5],[0,1],fun vs σ=>∃(i:Nat) (nn:Int),vs=[.d (.int .i64 i),.d (.int .i64 nn)]/\σ=⟨[],[],0⟩/\i<=l.length/\0<=nn/\nn<=2 * most+1,fun vs _=>match vs with | [.d (.int _ i),_]=>((l.length:Nat) - i:Int).toNat | _=>0⟩),(7,⟨[7,5],[0,1,6],fun vs σ=>∃(i:Nat) (nn:Int),vs=[.d (.int .i64 i),.d (.int .i64 nn)]/\σ=⟨[],[],0⟩/\i<=B/\1<=nn/\nn<=2 * most+1,fun vs _=>match vs with | [.d (.int _ i),_]=>((B:Nat) - i:Int).toNat | _=>0⟩)],0,false,sM,Ta rfl,wN ?_⟩;refine ⟨⟨0,0,rfl,rfl,oM,oM,oM⟩,?_⟩;intro vs σ hI
  obtain ⟨i,nn,rfl,rfl,hi,ek,ik⟩:=hI;(conv=>whnf);refine ZBC (fun aa=>?_) (fun aa=>?_);rotate_left
  ·exact m107
  have aa:i<l.length:=lzI jv aa;(conv=>whnf);refine ZBC (fun gc=>?_) (fun gc=>?_);rotate_left
  ·exact m107
  conv=>whnf
  obtain ⟨eA,hA⟩:∃e,l[i]=e:=⟨_,rfl⟩
  have hg:=Zs szL l i aa;obtain ⟨b1,b2,ar,b4,b5⟩:=eA;rw [hA] at hg;simp only [szL,XR] at hg;have ae:(l.map (XI pl))[((i:Nat):Int).toNat]?=some (XI pl (.mk b1 b2 ar b4 b5)):=by simp [aa,hA]
  have xp:(Z0 pl ar).length=ar.length:=by rw [Ze,Te]
  have hs4:=Zp szE ar
  (repeat (first | (refine Or.inl ⟨InR.i64 oM oM,?_⟩;conv=>whnf) | (refine ⟨_,oM,ae,?_⟩;conv=>whnf)))
  refine ⟨⟨0,_,rfl,rfl,oM,oM,oM⟩,?_⟩;intro vs' σ' wj
  obtain ⟨j,n2,rfl,rfl,hj,wl,wm⟩:=wj;(conv=>whnf)
  (repeat (first | (refine Or.inl ⟨InR.i64 oM oM,?_⟩;conv=>whnf) | (refine ⟨_,oM,ae,?_⟩;conv=>whnf)))
  refine ZBC (fun gh=>?_) (fun gh=>?_);rotate_left
  ·exact m202
  have gh:j<ar.length:=lzI xp gh;(conv=>whnf);refine ZBC (fun qo=>?_) (fun qo=>?_);rotate_left
  ·exact m202
  exact m42
 exact h.elim
theorem cZL:∀m,PC w0 nG 62 (Zcx XI szL bd2 m)
 | 0=>ZyD ⟨cZE 0,ZK (Zn Tryz.func62 kR rfl),trivial⟩
 | m+1=>ZyD ⟨cZE _,ZL (sp:=Zcx XI szL bd2) (cZL m),trivial⟩
noncomputable def Ztr (m:Nat):Tbl:=[(61,ZhX YE szE bd2 m),(62,Zcx XI szL bd2 m)]
theorem ZyE {m:Nat} (ht:TO w0 nG (Ztr m)):PC w0 nG 20 (Zcx ZW ZiY bd2 m):=by
 refine Zd Zb mixed (tbl:=(Ztr m)) ht Tryz.func20 rfl kR kR ?_;intro args σ K h
 unfold Zcx at h
 split at h
 ·obtain ⟨pl,l,B,rfl,⟨⟨hm0,qi⟩,hm2,hz,hB⟩,h⟩:=h
  rename_i most
  have jv:(l.map (ZW pl)).length=l.length:=Te ..;have hsz:=Zp ZiY l;unfold bd2 at h
  refine ⟨Za [(3,⟨[6,5],[0,1],fun vs σ=>∃(i:Nat) (nn:Int),vs=[.d (.int .i64 i),.d (.int .i64 nn)]/\σ=⟨[],[],0⟩/\i<=l.length/\0<=nn/\nn<=2 * most+1,fun vs _=>match vs with | [.d (.int _ i),_]=>((l.length:Nat) - i:Int).toNat | _=>0⟩),(7,⟨[7,5],[0,1,6],fun vs σ=>∃(i:Nat) (nn:Int),vs=[.d (.int .i64 i),.d (.int .i64 nn)]/\σ=⟨[],[],0⟩/\i<=B/\1<=nn/\nn<=2 * most+1,fun vs _=>match vs with | [.d (.int _ i),_]=>((B:Nat) - i:Int).toNat | _=>0⟩)],0,false,sM,Ta rfl,wN ?_⟩;refine ⟨⟨0,0,rfl,rfl,oM,oM,oM⟩,?_⟩;intro vs σ hI
  obtain ⟨i,nn,rfl,rfl,hi,ek,ik⟩:=hI;(conv=>whnf);refine ZBC (fun aa=>?_) (fun aa=>?_);rotate_left
  ·exact m107
  have aa:i<l.length:=lzI jv aa;(conv=>whnf);refine ZBC (fun gc=>?_) (fun gc=>?_);rotate_left
  ·exact m107
  conv=>whnf
  obtain ⟨eA,hA⟩:∃e,l[i]=e:=⟨_,rfl⟩
  have hg:=Zs ZiY l i aa;obtain ⟨b1,ar,b4,b5⟩:=eA;rw [hA] at hg;simp only [ZiY,XR] at hg;have ae:(l.map (ZW pl))[((i:Nat):Int).toNat]?=some (ZW pl (⟨b1,ar,b4,b5⟩:Ru)):=by simp [aa,hA]
  have xp:(Z0 pl ar).length=ar.length:=by rw [Ze,Te]
  have hs4:=Zp szE ar
  (repeat (first | (refine Or.inl ⟨InR.i64 oM oM,?_⟩;conv=>whnf) | (refine ⟨_,oM,ae,?_⟩;conv=>whnf)))
  refine ⟨⟨0,_,rfl,rfl,oM,oM,oM⟩,?_⟩;intro vs' σ' wj
  obtain ⟨j,n2,rfl,rfl,hj,wl,wm⟩:=wj;(conv=>whnf)
  (repeat (first | (refine Or.inl ⟨InR.i64 oM oM,?_⟩;conv=>whnf) | (refine ⟨_,oM,ae,?_⟩;conv=>whnf)))
  refine ZBC (fun gh=>?_) (fun gh=>?_);rotate_left
  ·exact m204
  have gh:j<ar.length:=lzI xp gh;(conv=>whnf);refine ZBC (fun qo=>?_) (fun qo=>?_);rotate_left
  ·exact m204
  exact m42
 exact h.elim
structure Pr where
 types:List Ty
 rels:List Re
 rules:List Ru
def Zmm (pl:Pl) (p:Pr):List D:=[.sl (p.types.map (Z1 pl)),.sl (p.rels.map (Z3 pl)),.sl (p.rules.map (ZW pl))]
def ZyF (p:Pr):Nat:=1+szS Zkw p.types+szS Zkx p.rels+szS ZiY p.rules
noncomputable def Zts (m:Nat):Tbl:=[(19,Zcx (fun _=>ZJ) sz0 bd3 m),(20,Zcx ZW ZiY bd2 m)]
theorem ZyG {m:Nat} (ht:TO w0 nG (Zts m)):PC w0 nG 8 (ZhX Zmm ZyF bd5 m):=by
 refine Zd Zb mixed (tbl:=(Zts m)) ht Tryz.func8 rfl kR kR ?_;intro args σ K h
 unfold ZhX at h
 split at h
 ·obtain ⟨pl,⟨p1,p2,p3⟩,B,rfl,⟨⟨hm0,qi⟩,hm2,hz,hB⟩,h⟩:=h
  rename_i most
  simp only [ZyF] at hz;unfold bd5 at h
  have dx:(p1.map (Z1 pl)).length=p1.length:=Te ..;have iu:(p2.map (Z3 pl)).length=p2.length:=Te ..;have mg:=Zp Zkw p1;have gd:=Zp Zkx p2;refine ⟨Za [(3,⟨[6,5],[1,2],fun vs σ=>∃(i:Nat) (nn:Int),vs=[.d (.int .i64 i),.d (.int .i64 nn)]/\σ=⟨[.cells 38 ((Zmm pl ⟨p1,p2,p3⟩).map .d)],[],0⟩/\i<=p1.length/\0<=nn/\nn<=5 * most+2,fun vs _=>match vs with | [.d (.int _ i),_]=>((p1.length:Nat) - i:Int).toNat | _=>0⟩),(10,⟨[8,5],[1,2,6,7],fun vs σ=>∃(i:Nat) (nn:Int) (b1:Nat) (b2 b3:Bs) (b4:List Fi) (b5:List Ca) (b6:Nat),vs=[.d (.int .i64 i),.d (.int .i64 nn)]/\σ=⟨[.cells 38 ((Zmm pl ⟨p1,p2,p3⟩).map .d),.cells 67 ((Z1 pl ⟨b1,b2,b3,b4,b5,b6⟩).map .d)],[],0⟩/\(i<=b5.length/\szS Zkv b5<=B)/\0<=nn/\nn<=5 * most+2,fun vs _=>match vs with | [.d (.int _ i),_]=>((B:Nat) - i:Int).toNat | _=>0⟩),(14,⟨[9,5],[1,2],fun vs σ=>∃(i:Nat) (nn:Int),vs=[.d (.int .i64 i),.d (.int .i64 nn)]/\σ=⟨[.cells 38 ((Zmm pl ⟨p1,p2,p3⟩).map .d)],[],0⟩/\i<=p2.length/\0<=nn/\nn<=5 * most+2,fun vs _=>match vs with | [.d (.int _ i),_]=>((p2.length:Nat) - i:Int).toNat | _=>0⟩)],0,false,sM,Ta rfl,wN ?_⟩;refine ⟨⟨0,0,rfl,rfl,oM,oM,oM⟩,?_⟩;intro vs σ hI
  obtain ⟨i,nn,rfl,rfl,hi,ek,ik⟩:=hI;(conv=>whnf);refine ZBC (fun aa=>?_) (fun aa=>?_);rotate_left
  ·exact m15
  have aa:i<p1.length:=lzI dx aa;(conv=>whnf);refine ZBC (fun gc=>?_) (fun gc=>?_);rotate_left
  ·exact m15
  conv=>whnf
  obtain ⟨eA,hA⟩:∃e,p1[i]=e:=⟨_,rfl⟩
  have hg:=Zs Zkw p1 i aa;obtain ⟨b1,b2,b3,b4,b5,b6⟩:=eA;rw [hA] at hg;simp only [Zkw] at hg;have ae:(p1.map (Z1 pl))[((i:Nat):Int).toNat]?=some (Z1 pl ⟨b1,b2,b3,b4,b5,b6⟩):=by simp [aa,hA]
  (repeat (first | (refine Or.inl ⟨InR.i64 oM oM,?_⟩;conv=>whnf) | (refine ⟨_,oM,ae,?_⟩;conv=>whnf)))
  refine ZBC (fun ak=>wN ?_) (fun ak=>wN ?_)
  ·(repeat (first | (refine Or.inl ⟨InR.i64 oM oM,?_⟩;conv=>whnf) | (refine ⟨_,oM,ae,?_⟩;conv=>whnf)))
   refine ⟨pl,b4,B,rfl,⟨⟨oM,oM⟩,oM,oM,hB⟩,fun r ge kx=>wN ?_⟩;unfold bd3 at kx
   (repeat (first | (refine Or.inl ⟨InR.i64 oM oM,?_⟩;conv=>whnf) | (refine ⟨_,oM,ae,?_⟩;conv=>whnf)))
   exact m19
  exact m19
 exact h.elim
noncomputable def Ztt (m:Nat):Tbl:=[(8,ZhX Zmm ZyF bd5 m),(4,spB (ZhX Yg Zfe bdU) m)]
theorem Ztu {m:Nat} (ht:TO w0 nG (Ztt m)):PC w0 nG 4 (ZhX Yg Zfe bdU m):=by
 refine Zd Zb mixed (tbl:=(Ztt m)) ht Tryz.func4 rfl kR kR ?_;intro args σ K h
 unfold ZhX at h
 split at h
 ·obtain ⟨pl,⟨p1,p2,p3,p4,p5,p6⟩,B,rfl,⟨⟨hm0,qi⟩,hm2,hz,hB⟩,h⟩:=h
  rename_i most
  simp only [Zfe,Xa] at hz;unfold bdU at h
  have jv:(YQ pl p4).length=p4.length:=by rw [ZN,Te]
  have xn:(p5.map (Yi pl)).length=p5.length:=Te ..;have hl6:(p6.map (Ye pl)).length=p6.length:=Te ..;have hs4:=Zp ZgC p4;have hs5:=Zp Zoi p5;have hs6:=Zp (sz0 (α:=Ov)) p6;refine ⟨Za [(3,⟨[6,5],[1,2],fun vs σ=>∃(i:Nat) (nn:Int),vs=[.d (.int .i64 i),.d (.int .i64 nn)]/\σ=⟨[.cells 29 ((Yg pl (.mk p1 p2 p3 p4 p5 p6)).map .d)],[],0⟩/\i<=p5.length/\0<=nn/\nn<=5 * most+4611686018427,fun vs _=>match vs with | [.d (.int _ i),_]=>((p5.length:Nat) - i:Int).toNat | _=>0⟩),(7,⟨[7,5],[1,2,6],fun vs σ=>∃(i:Nat) (nn:Int),vs=[.d (.int .i64 i),.d (.int .i64 nn)]/\σ=⟨[.cells 29 ((Yg pl (.mk p1 p2 p3 p4 p5 p6)).map .d)],[],0⟩/\i<=B/\0<=nn/\nn<=5 * most+4611686018427,fun vs _=>match vs with | [.d (.int _ i),_]=>((B:Nat) - i:Int).toNat | _=>0⟩),(11,⟨[8,5],[1,2],fun vs σ=>∃(i:Nat) (nn:Int),vs=[.d (.int .i64 i),.d (.int .i64 nn)]/\σ=⟨[.cells 29 ((Yg pl (.mk p1 p2 p3 p4 p5 p6)).map .d)],[],0⟩/\i<=p6.length/\0<=nn/\nn<=5 * most+4611686018427,fun vs _=>match vs with | [.d (.int _ i),_]=>((p6.length:Nat) - i:Int).toNat | _=>0⟩),(15,⟨[9,5],[1,2],fun vs σ=>∃(i:Nat) (nn:Int),vs=[.d (.int .i64 i),.d (.int .i64 nn)]/\σ=⟨[.cells 29 ((Yg pl (.mk p1 p2 p3 p4 p5 p6)).map .d)],[],0⟩/\i<=p4.length/\0<=nn/\nn<=5 * most+4611686018427,fun vs _=>match vs with | [.d (.int _ i),_]=>((p4.length:Nat) - i:Int).toNat | _=>0⟩)],0,false,sM,Ta rfl,wN ?_⟩;refine ⟨pl,⟨p1,p2,p3⟩,B,rfl,⟨⟨oM,oM⟩,oM,by simp only [ZyF];omega,hB⟩,fun r ge kx=>wN ?_⟩;unfold bd5 at kx
  refine ⟨⟨0,_,rfl,rfl,oM,oM,oM⟩,?_⟩;intro vs σ hI
  obtain ⟨i,nn,rfl,rfl,hi,ek,ik⟩:=hI;(conv=>whnf);refine ZBC (fun aa=>?_) (fun aa=>?_);rotate_left
  ·exact m205
  have aa:i<p5.length:=lzI xn aa;(conv=>whnf);refine ZBC (fun gc=>?_) (fun gc=>?_);rotate_left
  ·exact m205
  conv=>whnf
  obtain ⟨eA,hA⟩:∃e,p5[i]=e:=⟨_,rfl⟩
  have hg:=Zs Zoi p5 i aa;obtain ⟨b1,b2,b3,b4⟩:=eA;rw [hA] at hg;simp only [Zoi] at hg;have ae:(p5.map (Yi pl))[((i:Nat):Int).toNat]?=some (Yi pl ⟨b1,b2,b3,b4⟩):=by simp [aa,hA]
  have kj:(b3.map ZB).length=b3.length:=Te ..;have ah3:(List.map ZB (Ini.types ⟨b1,b2,b3,b4⟩)).length=b3.length:=Te ..;have hsb:=Zp (sz0 (α:=Bs)) b3
  (repeat (first | (refine Or.inl ⟨InR.i64 oM oM,?_⟩;conv=>whnf) | (refine ⟨_,oM,ae,?_⟩;conv=>whnf)))
  refine ⟨⟨0,_,rfl,rfl,oM,oM,oM⟩,?_⟩;intro vs' σ' wj
  obtain ⟨j,n2,rfl,rfl,hj,wl,wm⟩:=wj;(conv=>whnf)
  (repeat (first | (refine Or.inl ⟨InR.i64 oM oM,?_⟩;conv=>whnf) | (refine ⟨_,oM,ae,?_⟩;conv=>whnf)))
  refine ZBC (fun gh=>?_) (fun gh=>?_);rotate_left
  ·exact m121
  have gh:j<b3.length:=lzI kj gh;(conv=>whnf);refine ZBC (fun qo=>?_) (fun qo=>?_);rotate_left
  ·exact m121
  conv=>whnf
  have bi:(b3.map ZB)[((j:Nat):Int).toNat]?=some (ZB b3[j]):=by simp [gh]
  (repeat (first | (refine ⟨_,oM,ae,?_⟩;conv=>whnf) | (refine ⟨_,oM,bi,?_⟩;conv=>whnf) | (refine Or.inl ⟨InR.i64 oM oM,?_⟩;conv=>whnf)))
  refine ⟨⟨j+1,_,rfl,rfl,oM,oM,oM⟩,?_⟩;exact m243
 exact h.elim
theorem ZAT (m:Nat):PC w0 nG 8 (ZhX Zmm ZyF bd5 m):=ZyG ⟨ZyB,ZyE ⟨cZE m,cZL m,trivial⟩,trivial⟩
theorem ZAU:∀m,PC w0 nG 4 (ZhX Yg Zfe bdU m)
 | 0=>Ztu ⟨ZAT 0,ZK (Zn Tryz.func4 kR rfl),trivial⟩
 | m+1=>Ztu ⟨ZAT _,ZL (sp:=ZhX Yg Zfe bdU) (ZAU m),trivial⟩
def Zss (x:Un):Bs×Nat:=if Za2 x=true then Vn (unT x) (Yv 65536 16384 WK (unT x)) else ([],160)
def Zqa (n:Nat) (x:Un):Prop:=ZiL x=true/\wUn x<=n/\(unT x).length<1073741824
theorem ZAg (hg:GlobOK w0 nG) (hN:NumOK w0 nG) (hL:LexC w0 nG) (n:Nat):PC w0 nG 7 (Zml Yg Zqa Zss n):=(ZBg hg hN hL n).weaken1 fun args σ K h=>by
 unfold Zml at h
 unfold Zsp
 split at h
 ·obtain ⟨pl,e,h1,⟨⟨h2,h3,h4⟩,h5⟩,h⟩:=h;exact ⟨pl,e,h1,⟨fun _=>h2,h3,oM⟩,fun g=>h _ _ (by rw [Zss,Tc (by rw [g];simp)]),fun g x hx=>h _ _ (by rw [Zss,Tg g,hx])⟩
 exact h.elim
theorem ZAi (n:Nat):PC w0 nG 6 (Zml Yg Zqa Zss n):=by
 refine Zd Zb mixed (tbl:=[(10,ZgD Yg Za2 wUn n),(11,Zwm n),(12,Zp0),(13,Zwh)]) ⟨cMu n,cUt n,Zz7,Zyw,trivial⟩ Tryz.func6 rfl kR kR ?_;intro args σ K h
 unfold Zml at h
 split at h
 ·obtain ⟨pl,⟨u1,u2,u3,u4,u5,u6⟩,rfl,⟨⟨hr,hz,x6⟩,hn⟩,h⟩:=h;refine ⟨Za [],0,false,sM,Ta rfl,wN ?_⟩;refine ⟨pl,.mk u1 u2 u3 u4 u5 u6,rfl,⟨hz,hn⟩,fun b aj=>?_⟩
  cases b with
  | false =>
   conv=>whnf
   exact h _ _ (by rw [Zss,Tc (by rw [aj];simp)])
  | true =>
  have jn:Zss (.mk u1 u2 u3 u4 u5 u6)=if VS (Yv 65536 16384 WK (unT (.mk u1 u2 u3 u4 u5 u6)))=3\/VS (Yv 65536 16384 WK (unT (.mk u1 u2 u3 u4 u5 u6)))=151 then ([],3) else (unT (.mk u1 u2 u3 u4 u5 u6),0):=by
   rw [Zss,Tg aj,ZhW]
  rw [jn] at h;(conv=>whnf);refine ⟨pl,.mk u1 u2 u3 u4 u5 u6,rfl,⟨⟨aj,hr⟩,hz,hn⟩,fun T hT=>wN ?_⟩;rw [hT] at h x6;refine ⟨oM,fun e he r0 r1 r2 r3 r4 r5 q=>wN ?_⟩;rw [he] at h;refine ⟨e,rfl,fun g=>wN ?_,fun g=>wN ?_⟩
  ·rw [Tg g] at h;exact h _ _ rfl
  rw [Tc g] at h;exact h _ _ rfl
 exact h.elim
noncomputable def Zec (n:Nat):Zt:=fun args σ K=>match args,σ with
 | [.agg c1],⟨[],[],0⟩=>(∃pl1 x1,c1=(Yg pl1 x1).map .d/\(Zfe x1<=n/\wUn x1<=n/\ZiL x1=true)/\n<=4194304)/\K (.ret (.d (.bool true))) ⟨[],[],0⟩
 | _,_=>False
noncomputable def Zfo (n:Nat):Tbl:=[(4,ZhX Yg Zfe bdU 6000),(6,Zml Yg Zqa Zss n),(7,Zml Yg Zqa Zss n),(5,Zf7)]
theorem Zmn {n:Nat} (ht:TO w0 nG (Zfo n)):PC w0 nG 3 (Zec n):=by
 refine Zd Zb mixed (tbl:=Zfo n) ht Tryz.func3 rfl kR kR ?_;intro args σ K h
 unfold Zec at h
 split at h
 ·obtain ⟨⟨pl1,⟨a1,a2,a3,a4,a5,a6⟩,rfl,⟨hz1,ew,ae⟩,hn⟩,h⟩:=h;have dx:=ZdW _ ae;have hcU:Zqa n (.mk a1 a2 a3 a4 a5 a6):=⟨ae,ew,oM⟩
  refine ⟨Za [],0,false,sM,Ta rfl,wN ?_⟩;refine ⟨pl1,.mk a1 a2 a3 a4 a5 a6,n,rfl,⟨⟨dM,dM⟩,dM,hz1,oM⟩,fun r ge ah5=>wN ?_⟩;refine ZBC (fun hc=>wN ?_) (fun hc=>wN ?_)
  ·exact h
  refine ⟨pl1,.mk a1 a2 a3 a4 a5 a6,rfl,⟨hcU,oM⟩,fun s1 k1 rl=>wN ?_⟩;refine ⟨pl1,.mk a1 a2 a3 a4 a5 a6,rfl,⟨hcU,oM⟩,fun s2 k2 oh=>?_⟩;rw [rl] at oh
  cases oh
  conv=>whnf
  refine ZBC (fun _=>wN ?_) (fun g=>absurd rfl g);refine ZBC (fun _=>wN ?_) (fun g=>absurd rfl g);exact h
 exact h.elim
end Go.PM.Lex
end

section
namespace Go
variable {H:Type} {enc:TypeId×Value->H}
end Go
namespace Go.PM.Lex
open Go.Proofs Go.Proofs.YtkoicjdlpkaopaaGreatDoor Go.ChangeShapes Go.WideShapes Go.ChangeAt Go.RowKit
theorem ZAj:ownKnob Tryz.prog.godebug=none:=kR
theorem Ztv : "*" ++ "errors.errorString" = "*errors.errorString" := by decide
theorem Zst (u : TypeId) (h : Tryz.prog.typeName? 3 u = some "*errors.errorString") : u = 320 :=
 typeName_ptr_named (nm := "errors.errorString") (by rw [Ztv]; kernel_rfl) kR dM u (by rw [Ztv]; exact h)
theorem Zqb {W:World} {n:String} {text:List UInt8} {g:Nat} (hg:Tryz.prog.globalNamed n=some g) (ht:(Tryz.prog.globals[g]?).map (·.type)=some 154)
  (h : laidMet Tryz.prog [(n, .iface "*errors.errorString" (.ptr (.agg [.lit (.string text)])))] W) : ∃ ev, W.cell? ⟨g, 0, none⟩ = some ev /\ (ev = .nilIface \/ ∃ te pe, ev = .iface te pe) := by
 obtain ⟨a1,s1,kz,_⟩:=laid_sentinel h hg ht Tryz.underlying154 Zst Tryz.underlying320 Tryz.underlying322 rfl rfl Tryz.underlying9 kR kR;refine ⟨.iface 320 (.pointer (some a1)),?_,.inr ⟨_,_,rfl⟩⟩;simpa using World.var?_cell hg kz 0
theorem ZyH {W:World} (h:laidMetH Tryz.prog Rows.printUnitsRow.laid W) (pj:W.ShapedOpen Tryz.prog):GlobOK W 8:=by
 rw [MakeChecks.laidMetH_plain _ _ _ kR] at h;have h1 := laidMet.filter (fun x => x.1 == "strconv.ErrSyntax") h;have h2 := laidMet.filter (fun x => x.1 == "strconv.ErrRange") h;exact ⟨oM,Tryz.laysM143.s1_3 W pj,Zqb kR kR h1,Zqb kR kR h2⟩
theorem ZyI {e e':Env} {W W':World} {σ':St} {may:MemPlace->Prop} (h:Later e ⟨[],[],0⟩ W e' σ' W'):W.keptBut W' may:=by
 refine ⟨h.os,h.output,fun i hi=>?_⟩;have:=h.blocks i hi (fun j hj=>by simp at hj) (fun t ht=>by cases ht);rw [this]
 cases hh:W.heap[i]? with
 | none=>rfl
 | some o=>cases o <;> simp
def Zmo:Env:=⟨fun _=>0,fun _=>none,fun _ _=>False⟩
theorem Zwn {W:World} (h:8<=W.heap.size):SRel (GG W 8) Zmo ⟨[],[],0⟩ W where
 inj:=fun i j hi=>by simp at hi
 box:=fun i x hx=>by simp at hx
 low:=fun i hi=>by simp at hi
 tkn:=fun t ht=>by cases ht
 own:=fun t ht=>by cases ht
 dis:=fun t t' ht=>by cases ht
 xlt:=fun b off hx=>hx.elim
 xown:=fun t ht=>by cases ht
 glob:=fun b hb=>rfl
 big:=h
end Go.PM.Lex
end

section
namespace Go.PM.Lex
open Go.Proofs Go.Proofs.YtkoicjdlpkaopaaGreatDoor
theorem Zwo:Rows.laid_unicode_utf8_first=Lib.firstData:=kR
theorem Zsu:(Rows.laid_unicode_utf8_acceptRanges:DataW Unit)=Lib.acceptData:=kR
theorem ZyJ {W:World} (h:laidMetH Tryz.prog Rows.printUnitsRow.laid W):Lib.Utf8Tabs 0 1 W:=by
 rw [MakeChecks.laidMetH_plain _ _ _ kR] at h;have h1:=Lib.laidMet.reads (d:=Rows.laid_unicode_utf8_first) h (.tail _ (.tail _ (.tail _ (.tail _ (.tail _ (.tail _ (.head _)))))));have h2:=Lib.laidMet.reads (d:=Rows.laid_unicode_utf8_acceptRanges) h (.tail _ (.tail _ (.tail _ (.head _))));rw [Zwo] at h1;rw [Zsu] at h2;exact utf8Tabs_of_readsT (U8Types.of196 Tryz.laysValid) ⟨kR,kR,kR,kR,kR,kR,kR⟩ h1 h2
variable {w0:World} {nG:Nat}
theorem ZAk (hb:1<nG) (hT:Lib.Utf8Tabs 0 1 w0):LexC w0 nG where
 name:=Zzx ⟨Znr,ZaS,Zw0,trivial⟩
 quote:=ZqT ⟨ZqP hb hT,Zck,Ze2,Zcl,Zhf,trivial⟩
end Go.PM.Lex
end

section
namespace Go.PM.Lex
open Go.Proofs Go.Proofs.YtkoicjdlpkaopaaGreatDoor
def Zsv:DataW Unit->List Int
 | .agg xs=>xs.map fun | .lit (.int _ z)=>z | _=>0
 | _=>[]
theorem Zwp:(Rows.laid_internal_strconv_uint64pow10:DataW Unit)=Lib.tabData .u64 Lib.pow10Tab:=kR
theorem ZAl:(Rows.laid_math_bits_deBruijn64tab:DataW Unit)=Lib.tabData .u8 (Zsv Rows.laid_math_bits_deBruijn64tab):=kR
theorem Zwq:(Zsv Rows.laid_math_bits_deBruijn64tab).getD 15 0=4:=kR
theorem ZyK:(Zsv Rows.laid_math_bits_deBruijn64tab).length=64:=kR
theorem ZAm {W:World} (h:laidMetH Tryz.prog Rows.printUnitsRow.laid W):NumOK W 8:=by
 rw [MakeChecks.laidMetH_plain _ _ _ kR] at h;have h1 := laidMet.filter (fun x => x.1 == "internal/strconv.uint64pow10") h;have h2 := laidMet.filter (fun x => x.1 == "math/bits.deBruijn64tab") h;have k1 : laidMet Tryz.prog [("internal/strconv.uint64pow10", Lib.tabData .u64 Lib.pow10Tab)] W := by rw [<- Zwp]; exact h1
 have k2 : laidMet Tryz.prog [("math/bits.deBruijn64tab", Lib.tabData .u8 (Zsv Rows.laid_math_bits_deBruijn64tab))] W := by rw [<- ZAl]; exact h2
 refine ⟨dM,Lib.tabIs_of_head (g:=3) (t:=273) kR kR Tryz.underlying273 kR kR kR k1,?_⟩;have k3:=Lib.tabIs_of_head (g:=5) (t:=304) kR kR Tryz.underlying304 kR kR kR k2;have k4:=k3.cell (g:=5) kR 15 (by rw [ZyK];decide);rw [Zwq] at k4;exact k4
end Go.PM.Lex
end

section
namespace Go.PM.Lex
open Go.Proofs Go.Proofs.YtkoicjdlpkaopaaGreatDoor
theorem Yt {a b:Bool} (h1:a=true) (h2:b=true):(a && b)=true:=by rw [h1,h2];rfl
theorem Zqc {P:Program} {f:FuncId} {fn:Func} {s:ChangeSpec} {c:OpenClaim}
  (p1:laidOutB P=true) (p2:mapsRowed P=true) (p3:(P.stops == [])=true) (p4:(P.stopKnobs == [])=true) (p5:(c.plainKeys == P.plainKeys)=true) (p6:P.stopsHeard=true) (p7:P.mayEnter=true) (p8:(c.lifted == P.liftsFinal)=true) (p9:(P.make == some c.make)=true)
  (k1:c.wf (OpenSpec.ofChange s)=true) (k2:fn.params.all (P.readableRec ·)=true) (k3:namedTie P c.named s.vars=true) (k4:(c.stops == [])=true) (k5:(c.knobs == [])=true)
  (k6:(c.inPlace == P.inPlace f)=true) (k7:(c.unfollowed == P.unfollowed f)=true) (k8:(c.recurses == P.recurses f)=true) (k9:(c.named == P.varsNamed f)=true)
  (k10:(c.maps == (fn.params.toList++s.plain.varTypes P).any (P.mapsRec ·))=true) (k11:(c.ifaces == (fn.params.toList++s.plain.varTypes P).any (P.ifacesRec ·))=true) (k12:(c.mapsOut == P.mapsAmong fn.resultTypes.toList)=true)
  (k13:(c.loops == (fn.params.toList++s.plain.varTypes P).any (P.loopsFrom ·))=true) (k14:(c.wideKeys == (fn.params.toList++s.plain.varTypes P++fn.resultTypes.toList).any (P.wideKeysFrom ·))=true)
  (k15:s.vars.all (P.varReadable ·)=true) (k16:fn.resultTypes.all (fun t=>P.readableRec t && decide (t<P.types.size))=true) (k17:(c.ifacesOut == fn.resultTypes.toList.any (P.ifacesRec ·))=true) (k18:(c.loopsOut == fn.resultTypes.toList.any (P.loopsFrom ·))=true)
  (k19:c.shortTexts.isNone=true) (k20:(c.kinds == (if c.domain.isEmpty then [] else fn.params.toList.map fun t=>match P.underlying t with | some (.int k)=>some k | _=>none))=true) (k21:(c.pinned == c.pinnedBy)=true)
  (k22:(c.veiled == (fn.params.toList++s.plain.varTypes P++fn.resultTypes.toList).any (P.veiledRec ·))=true) (k23:c.veiledFits P fn.params.toList (fn.params.toList++s.plain.varTypes P++fn.resultTypes.toList)=true):joinedFacts P f fn s c=true:=by
 unfold joinedFacts
 exact (Yt (Yt (Yt (Yt (Yt (Yt (Yt (Yt (Yt (Yt (Yt (Yt (Yt (Yt (Yt (Yt (Yt (Yt (Yt (Yt (Yt (Yt (Yt (Yt (Yt (Yt (Yt (Yt (Yt (Yt (Yt k1 p1) p2) k2) k3) k4) p3) k5) p4) k6) k7) k8) k9) k10) k11) k12) k13) k14) k15) k16) k17) k18) p5) k19) p6) p7) p8) p9) k20) k21) k22) k23)
theorem jp1:laidOutB Tryz.checked.prog=true:=kR
theorem jp2:mapsRowed Tryz.checked.prog=true:=kR
theorem jp3:(Tryz.checked.prog.stops == [])=true:=kR
theorem jp4:(Tryz.checked.prog.stopKnobs == [])=true:=kR
theorem jp5:(Rows.printUnitsRow.plainKeys == Tryz.checked.prog.plainKeys)=true:=kR
theorem jp6:Tryz.checked.prog.stopsHeard=true:=kR
theorem jp7:Tryz.checked.prog.mayEnter=true:=kR
theorem jp8:(Rows.printUnitsRow.lifted == Tryz.checked.prog.liftsFinal)=true:=kR
theorem jp9:(Tryz.checked.prog.make == some Rows.printUnitsRow.make)=true:=kR
theorem jp10:Tryz.checked.prog.mainIs=some (Rows.printUnitsCard.stood.harness.1,Rows.printUnitsCard.stood.harness.2.toList):=kR
theorem jp11:Rows.printUnitsCard.stood.looks=Tryz.checked.prog.looks []:=kR
end Go.PM.Lex
end

section
namespace Go.PM
mutual
inductive PlainD (P:Program):TypeId->List D->Nat->Prop
 | int {t:TypeId} {k:IntKind} {n:Int} (h:P.underlying t=some (.int k)) (hw:(Lit.int k n).wf=true):PlainD P t [.int k n] 1
 | str {t:TypeId} {s:List UInt8} (h:P.underlying t=some .string):PlainD P t [.str s] (s.length+1)
 | bool {t:TypeId} {b:Bool} (h:P.underlying t=some .bool):PlainD P t [.bool b] 1
 | st {t:TypeId} {fs:Array Field} {ds:List D} {b:Nat} (h:P.underlying t=some (.struct fs)) (hf:PlainFs P (fs.toList.map (·.type)) ds b):PlainD P t ds (b+1)
 | sl {t e:TypeId} {rows:List (List D)} {b:Nat} (h:P.underlying t=some (.slice e)) (hr:PlainRs P e rows b):PlainD P t [.sl rows] (b+1)
inductive PlainFs (P:Program):List TypeId->List D->Nat->Prop
 | nil:PlainFs P [] [] 0
 | cons {f:TypeId} {l:List TypeId} {r ds:List D} {b c:Nat} (h1:PlainD P f r b) (h2:PlainFs P l ds c):PlainFs P (f::l) (r++ds) (b+c)
inductive PlainRs (P:Program):TypeId->List (List D)->Nat->Prop
 | nil {e:TypeId}:PlainRs P e [] 0
 | cons {e:TypeId} {r:List D} {rows:List (List D)} {b c:Nat} (h1:PlainD P e r b) (h2:PlainRs P e rows c):PlainRs P e (r::rows) (b+c)
end
structure CR (ok:Nat->Nat->Prop) (w:World) (ds:List D) (cs:List Value):Prop where
 len:ds.length=cs.length
 rel:∀(i:Nat) (x:D) (u:Value),ds[i]?=some x->cs[i]?=some u->DRel ok w x u
 one:∀u∈cs,u.oneCell'=true
theorem CR.nil {ok:Nat->Nat->Prop} {w:World}:CR ok w [] []:=⟨rfl,fun i x u h=>by simp at h,fun u h=>by cases h⟩
theorem CR.one1 {ok:Nat->Nat->Prop} {w:World} {x:D} {u:Value} (h:DRel ok w x u) (h1:u.oneCell'=true):CR ok w [x] [u]:=⟨rfl,fun i y v hy hv=>by
 match i,hy,hv with
 | 0,hy,hv=>cases hy;cases hv;exact h
 | i+1,hy,hv=>simp at hy,fun v hv=>by rw [List.mem_singleton.1 hv];exact h1⟩
theorem CR.app {ok:Nat->Nat->Prop} {w:World} {d1 d2:List D} {c1 c2:List Value} (h1:CR ok w d1 c1) (h2:CR ok w d2 c2):CR ok w (d1++d2) (c1++c2):=by
 refine ⟨by rw [Tb,Tb,h1.len,h2.len],fun i x u hx hu=>?_,fun u hu=>?_⟩
 ·by_cases hi:i<d1.length
  ·rw [TM hi] at hx;rw [TM (by rw [<- h1.len];exact hi)] at hu;exact h1.rel i x u hx hu
  rw [TX oM] at hx;rw [TX (by rw [<- h1.len];omega),<- h1.len] at hu;exact h2.rel _ x u hx hu
 rcases TZ.1 hu with h | h
 ·exact h1.one u h
 exact h2.one u h
def Zsw (P:Program):List Field->Nat->Option Nat
 | [],a=>some a
 | f::l,a=>if f.offset=a then Zsw P l (a+P.cellsOf f.type) else none
def Zqd (P:Program) (S:List TypeId) (t:TypeId):Bool:=match P.underlying t with
 | some (.int _) | some .string | some .bool=>true
 | some (.struct fs)=>fs.toList.all (fun f=>S.contains f.type) && decide (Zsw P fs.toList 0=some (P.cellsOf t))
 | some (.slice e)=>S.contains e && decide (0<P.cellsOf e)
 | _=>false
section
variable {H:Type} {enc:TypeId×Value->H} {P:Program} {w:World} {ok:Nat->Nat->Prop}
theorem Zb5 {S:List TypeId} (hS:S.all (Zqd P S)=true) (aw:∀b off,ok b off) (bulk:DataW H->Nat) (bulks:List (DataW H)->Nat)
  (k1:∀k n,1<=bulk (.lit (.int k n))) (k2:∀s,s.length+1<=bulk (.lit (.string s))) (k3:∀b,1<=bulk (.lit (.bool b))) (k4:∀l,bulks l+1<=bulk (.agg l)) (k5:∀l m,bulks l+1<=bulk (.slice l m)) (k6:1<=bulk .nil) (k7:∀d l,bulk d+bulks l<=bulks (d::l)) :
  ∀(fuel:Nat) (t:TypeId) (cs:List Value) (x:DataW H×List MemPlace),t∈S->DataW.trod enc P w 0 (fun _=>true) true fuel t cs=some x->∃ds b,PlainD P t ds b/\CR ok w ds cs/\b<=bulk x.1
 | 0,t,cs,x,ht,h=>by simp [DataW.trod] at h
 | fuel+1,t,cs,x,ht,h=>by
  have hp:=Tm.1 hS t ht;unfold Zqd at hp
  split at hp
  ·rename_i k hu
   obtain ⟨n,rfl,rfl,hw⟩:=DataW.trod_int hu h;exact ⟨_,1,.int hu hw,.one1 (.int _ _) rfl,k1 _ _⟩
  ·rename_i hu
   obtain ⟨s,rfl,rfl,hw⟩:=DataW.trod_string hu h;exact ⟨[.str s.data.toList],_,.str hu,.one1 (.str _) rfl,k2 _⟩
  ·rename_i hu
   obtain ⟨b,rfl,rfl⟩:=DataW.trod_bool hu h;exact ⟨_,1,.bool hu,.one1 (.bool _) rfl,k3 _⟩
  ·rename_i fs hu
   rw [Tk,TG,Tm] at hp;obtain ⟨qu,iv⟩:=hp;obtain ⟨xs,n,hn,rfl,ab,ma,hf⟩:=DataW.trod_struct hu h;obtain rfl:fuel=n:=oM;have key:∀(l:List Field) (k a:Nat),fs.toList.drop k=l->Zsw P l a=some (P.cellsOf t)->∃ds b,PlainFs P (l.map (·.type)) ds b/\CR ok w ds (cs.drop a)/\b<=bulks ((xs.drop k).map (·.1)):=by
    intro l
    induction l with
    | nil =>
     intro k a hk ha
     cases ha
     exact ⟨[],0,.nil,by rw [Tz oM];exact .nil,T7 _⟩
    | cons f l ih =>
    intro k a hk ha
    rw [Zsw] at ha;split at ha
    ·rename_i kn
     have hkl:k<fs.size:=by
      have:=congrArg List.length hk;simp at this;omega
     have hfk:fs[k]?=some f:=by
      have:(fs.toList.drop k)[0]?=some f:=by rw [hk];rfl
      simpa using this
     have hd:fs.toList.drop (k+1)=l:=by rw [<- Tw,hk];rfl
     obtain ⟨ds,b,g1,g2,g3⟩:=ih (k+1) _ hd ha;have hx:=hf k f hfk;rw [Ti oM] at hx;have hfS:f.type∈S:=by
      have:=qu f (by have:=Sh (l:=fs.toList) (i:=k) (a:=f) (by simpa using hfk);exact this);simpa using this
     obtain ⟨dr,br,q1,q2,q3⟩:=Zb5 hS aw bulk bulks k1 k2 k3 k4 k5 k6 k7 fuel _ _ _ hfS hx;rw [kn] at q2;refine ⟨dr++ds,br+b,.cons q1 g1,?_,?_⟩
     ·have e:cs.drop a=(cs.drop a).take (P.cellsOf f.type)++cs.drop (a+P.cellsOf f.type):=by rw [<- Tw,List.take_append_drop]
      rw [e];exact q2.app g2
     have e:xs.drop k=xs[k]::xs.drop (k+1):=TS oM;rw [e,TN];exact TW (Nat.add_le_add q3 g3) (k7 _ _)
    cases ha
   obtain ⟨ds,b,g1,g2,g3⟩:=key fs.toList 0 0 rfl iv;rw [Sl] at g2 g3;exact ⟨ds,b+1,.st hu g1,g2,TW (Nat.add_le_add_right g3 1) (k4 _)⟩
  ·rename_i e hu
   rw [Tk,TG] at hp;obtain ⟨hp,ay⟩:=hp;have heS:e∈S:=by simpa using hp
   rcases DataW.trod_slice hu h with ⟨rfl,rfl⟩ | ⟨a,len,cap,elems,rest,n,hn,rfl,rfl,hb,hl,hm,ab,hel,zf,hns⟩
   ·exact ⟨[.sl []],1,.sl hu .nil,.one1 .slnil rfl,k6⟩
   obtain rfl:fuel=n:=oM;obtain ⟨mg,gd⟩:=zf rfl
   by_cases gi:cap=0
   ·subst gi;obtain rfl:len=0:=oM;exact ⟨[.sl []],1,.sl hu .nil,.one1 (.slz a) rfl,TW oM (k5 _ _)⟩
   have aaj:a.spot=none:=by
    have h0:∃cs',w.cells? 0 (a.add (0 * P.cellsOf e)) (P.cellsOf e)=some cs':=by
     by_cases ov:0<len
     ·have:=hel 0 ov;rw [Ti oM] at this;obtain ⟨cs',h1,_⟩:=Option.bind_eq_some_iff.1 this;exact ⟨cs',h1⟩
     have:=gd 0 oM;rw [Ti oM] at this;obtain ⟨cs',h1,_⟩:=Option.bind_eq_some_iff.1 this;exact ⟨cs',by rw [show len+0=0 by omega] at h1;exact h1⟩
    obtain ⟨cs',h1⟩:=h0;obtain ⟨_,h2,h3⟩:=World.cells?_some h1;have h4:=h3 0 ay;rw [Ti oM] at h4;have ea:(a.add (0 * P.cellsOf e)).add 0=a:=by simp [Addr.add]
    rw [ea] at h4
    cases zf:a.spot with
    | none=>rfl
    | some q =>
    unfold World.cell? at h4
    split at h4
    ·rw [zf] at h4;simp at h4
    cases h4
   obtain ⟨blk,off,sp⟩:=a;obtain rfl:sp=none:=aaj;have key:∀(m k:Nat),k+m=len->∃rows b,PlainRs P e rows b/\rows.length=m/\b<=bulks ((elems.drop k).map (·.1))/\∀(i:Nat) (r:List D),rows[i]?=some r->∃cs,cs.length=P.cellsOf e/\CR ok w r cs/\∀j,j<P.cellsOf e->w.cell? ⟨blk,off+(k+i) * P.cellsOf e+j,none⟩=cs[j]?:=by
    intro m
    induction m with
    | zero=>intro k hk;exact ⟨[],0,.nil,rfl,T7 _,fun i r h=>by simp at h⟩
    | succ m ih =>
    intro k hk
    obtain ⟨rows,b,g1,g2,g3,g4⟩:=ih (k+1) oM;have hx:=hel k oM;rw [Ti oM] at hx;obtain ⟨cs',h1,h2⟩:=Option.bind_eq_some_iff.1 hx;obtain ⟨_,h3,h4⟩:=World.cells?_some h1;obtain ⟨dr,br,q1,q2,q3⟩:=Zb5 hS aw bulk bulks k1 k2 k3 k4 k5 k6 k7 fuel _ _ _ heS h2;refine ⟨dr::rows,br+b,.cons q1 g1,by rw [Td,g2],?_,fun i r hr=>?_⟩
    ·rw [TS (show k<elems.length by omega),TN];exact TW (Nat.add_le_add q3 g3) (k7 _ _)
    cases i with
    | zero =>
     cases hr
     refine ⟨cs',h3,q2,fun j hj=>?_⟩;have:=h4 j hj;rw [Ym,Ym] at this;rw [Se];exact this
    | succ i =>
    rw [T6] at hr;obtain ⟨cs,e1,e2,e3⟩:=g4 i r hr;exact ⟨cs,e1,e2,fun j hj=>by rw [show k+(i+1)=k+1+i by omega];exact e3 j hj⟩
   obtain ⟨rows,b,g1,g2,g3,g4⟩:=key len 0 oM;rw [Sl] at g3;refine ⟨[.sl rows],b+1,.sl hu g1,.one1 ?_ rfl,TW (Nat.add_le_add_right g3 1) (k5 _ _)⟩;subst g2;refine .sl rows blk off cap (P.cellsOf e) (fun i j=>(w.cell? ⟨blk,off+i * P.cellsOf e+j,none⟩).getD default) hl (fun r hr=>?_) (fun i j hi hj=>?_) (fun i j _ _=>aw _ _) (fun i j x hx=>?_)
   ·obtain ⟨i,hi,rfl⟩:=Sd hr;obtain ⟨cs,e1,e2,_⟩:=g4 i _ (Ti hi);rw [e2.len,e1]
   ·obtain ⟨cs,e1,e2,e3⟩:=g4 i _ (Ti hi);have:=e3 j hj;rw [Sf,Ti oM] at this;simp only [this,Option.getD_some]
   obtain ⟨r,hr,hx⟩:=Option.bind_eq_some_iff.1 hx;obtain ⟨cs,e1,e2,e3⟩:=g4 i r hr;have hjr:=(Tj.1 hx).1;have hj:j<P.cellsOf e:=by rw [<- e1,<- e2.len];exact hjr
   have:=e3 j hj;rw [Sf,Ti oM] at this;simp only [this,Option.getD_some];exact e2.rel j x _ hx (Ti oM)
  cases hp
end
end Go.PM
end
