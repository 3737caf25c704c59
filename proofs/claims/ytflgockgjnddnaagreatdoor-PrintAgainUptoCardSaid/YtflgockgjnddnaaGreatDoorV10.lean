/- A part of the proof: plain logic, contracts and laws over the given program. -/
import Derived.Lib.LaidTab
import Derived.Test.YtflgockgjnddnaaGreatDoorV09
set_option linter.unusedVariables false
set_option linter.unusedSimpArgs false
set_option linter.all false
set_option maxRecDepth 100000
set_option maxHeartbeats 16000000
section
namespace Go.PM.Lex
open Go.Proofs
variable {w0:World} {nG:Nat}
def ZyF (x:Un):Bool:=Za1 x && ZgJ x
def Zs6 (x:Co):Bool:=Yc x && ZaK x
theorem ZxA {tys:List Ty} {rels:List Re} {rules:List Ru} {comps:List Co} {inits:List Ini} {overs:List Ov} (h:ZyF (.mk tys rels rules comps inits overs)=true) :
  (∀x∈tys,Ym x=true)∧(∀x∈rels,XN x=true)∧(∀x∈rules,ZAw x=true)∧∀x∈comps,Zs6 x=true:=by
 simp only [ZyF,Tj] at h
 obtain ⟨h,hr⟩:=h
 obtain ⟨m1,m2,m3,m4,m5,m6⟩:=Zk8 h
 simp only [ZgJ,VS,Tj] at hr
 have r1:=Tl.1 hr.1
 have r2:=Tl.1 hr.2
 exact ⟨m1,m2,fun x hx=>by rw [ZAw,m3 x hx,r1 x hx];rfl,fun x hx=>by rw [Zs6,m4 x hx,r2 x hx];rfl⟩
theorem Zs7 {nm:Bs} {ps:List Bs} {base:Bs} {tys:List Bs} {u:Un} {a:Nat} (h:Zs6 (.mk nm ps base tys u a)=true):ZyF u=true:=by
 simp only [Zs6,Tj] at h
 rw [ZyF,(Zd5 h.1).2.2.2.2]
 have:=h.2
 rw [ZaK] at this
 rw [this];rfl
def ZrP (r:Ru):Bs:=ruT r++[10]
noncomputable def Zs8 (body:List PV→Bs→Prop):Zz:=fun args σ K=>match args,σ with
 | .ptr 0 0::rest,⟨[.cells t [p,.sl 0 e rows]],[0],1⟩=>∃l txt,rows=Zk l∧((p=.d .nilp∨p=.ptr 0 0)∧t=84∧e=5)∧body rest txt∧l.length+txt.length<70368744177664 ∧
   ∀p',(p'=.d .nilp∨p'=.ptr 0 0)→K (.ret (.tuple [])) ⟨[.cells t [p',.sl 0 e (Zk (l++txt))]],[0],1⟩
 | _,_=>False
theorem Zoi (body:List PV→Bs→Prop):Zc (Zs8 body):=fun args σ K K' hK h=>by
 unfold Zs8 at h ⊢
 split at h
 ·obtain ⟨l,txt,h1,h2,h3,h4,h5⟩:=h;exact ⟨l,txt,h1,h2,h3,h4,fun p' hp=>hK _ _ (h5 p' hp)⟩
 ·exact h.elim
noncomputable def ZxB (n:Nat):Zz:=Zs8 fun rest txt=>∃pl x,rest=[Xd XK pl x]∧(ZyF x=true∧wUn x≤n∧n≤1073741824)∧txt=unT x
theorem Zfo (n:Nat):Zc (ZxB n):=Zoi _
theorem UV {α:Type} (T:α→Bs) {xs:List α} {i:Nat} (h:i<xs.length):((xs.take (i+1)).map T).flatten=((xs.take i).map T).flatten++T xs[i]:=by
 rw [List.take_succ_eq_append_getElem h,List.map_append,List.flatten_append];simp
theorem Zda {α:Type} (T:α→Bs) (xs:List α) (i:Nat):((xs.take i).map T).flatten.length≤(xs.map T).flatten.length:=by
 have e:(xs.map T).flatten=((xs.take i).map T).flatten++((xs.drop i).map T).flatten:=by rw [← List.flatten_append,← List.map_append,List.take_append_drop]
 rw [e,Ta];omega
noncomputable def ZAJ (n:Nat):Tbl:=[(75,ZfY),(132,ZqS n),(133,Zn5 134 (fun _=>ZI) Xz caT wCa n),(135,ZqU n),(64,ZAx n),(68,spB ZxB n)]
theorem ZAK {n:Nat} (ht:TblOK (GG w0 nG) (ZAJ n)):PCalls (GG w0 nG) 68 (ZxB n):=by
 refine ZuB XI mixed (tbl:=ZAJ n) ht Tryz.func68 rfl (by kernel_rfl) (by kernel_rfl) ?_
 intro args σ K h
 unfold ZxB Zs8 at h
 split at h
 ·rename_i rest t p e rows
  obtain ⟨l,txt,rfl,⟨hp,rfl,rfl⟩,⟨pl,⟨tys,rels,rules,comps,inits,overs⟩,rfl,⟨hmay,hz,hn⟩,rfl⟩,hlen,h⟩:=h
  obtain ⟨m1,m2,m3,m4⟩:=ZxA hmay
  have hz:szS wTy tys+szS wRe rels+szS wRu rules+szS wCo comps+szS wIn inits+szS wOv overs+1≤n:=by rw [wUn,XY] at hz;omega
  have hu:unT (.mk tys rels rules comps inits overs)=(tys.map tyT).flatten++((rels.map reT).flatten++((comps.map coT).flatten++((inits.map inT).flatten++((overs.map ovT).flatten++(rules.map ZrP).flatten)))):=by rw [unT,ZvS];rfl
  rw [hu] at hlen
  simp only [Ta] at hlen
  have h:∀p',(p'=.d .nilp∨p'=.ptr 0 0)→K (.ret (.tuple [])) ⟨[.cells 84 [p',.sl 0 5 (Zk (l++(tys.map tyT).flatten++(rels.map reT).flatten++(comps.map coT).flatten++(inits.map inT).flatten++(overs.map ovT).flatten++(rules.map ZrP).flatten))]],[0],1⟩:=by
   rw [hu] at h;simpa only [Tg] using h
  have ec:Zi1 pl comps=comps.map (ZY pl):=Yb pl comps
  have s1:=ZH wTy tys
  have s2:=ZH wRe rels
  have s3:=ZH wRu rules
  have s4:=ZH wCo comps
  have s5:=ZH wIn inits
  have s6:=ZH wOv overs
  refine ⟨Za [(2,⟨[21],[2,3,19,20],fun vs σ=>∃(i:Nat) (P:PV),vs=[.d (.int .i64 i)]∧σ=⟨[.cells 84 [P,.sl 0 5 (Zk (l++((tys.take i).map tyT).flatten))],.cells 78 [.ptr 0 0],.cells 44 ((XK pl (.mk tys rels rules comps inits overs)).map .d)],[0],1⟩∧(P=.d .nilp∨P=.ptr 0 0)∧i≤tys.length,fun vs _=>match vs with | [.d (.int _ i)]=>((tys.length:Int) - i).toNat | _=>0⟩),(15,⟨[60],[2,3,58,59],fun vs σ=>∃(i:Nat) (P:PV),vs=[.d (.int .i64 i)]∧σ=⟨[.cells 84 [P,.sl 0 5 (Zk (l++(tys.map tyT).flatten++((rels.take i).map reT).flatten))],.cells 78 [.ptr 0 0],.cells 44 ((XK pl (.mk tys rels rules comps inits overs)).map .d)],[0],1⟩∧(P=.d .nilp∨P=.ptr 0 0)∧i≤rels.length,fun vs _=>match vs with | [.d (.int _ i)]=>((rels.length:Int) - i).toNat | _=>0⟩),(27,⟨[98],[2,3,96,97],fun vs σ=>∃(i:Nat) (P:PV),vs=[.d (.int .i64 i)]∧σ=⟨[.cells 84 [P,.sl 0 5 (Zk (l++(tys.map tyT).flatten++(rels.map reT).flatten++((comps.take i).map coT).flatten))],.cells 78 [.ptr 0 0],.cells 44 ((XK pl (.mk tys rels rules comps inits overs)).map .d)],[0],1⟩∧(P=.d .nilp∨P=.ptr 0 0)∧i≤comps.length,fun vs _=>match vs with | [.d (.int _ i)]=>((comps.length:Int) - i).toNat | _=>0⟩),(37,⟨[135],[2,3,133,134],fun vs σ=>∃(i:Nat) (P:PV),vs=[.d (.int .i64 i)]∧σ=⟨[.cells 84 [P,.sl 0 5 (Zk (l++(tys.map tyT).flatten++(rels.map reT).flatten++(comps.map coT).flatten++((inits.take i).map inT).flatten))],.cells 78 [.ptr 0 0],.cells 44 ((XK pl (.mk tys rels rules comps inits overs)).map .d)],[0],1⟩∧(P=.d .nilp∨P=.ptr 0 0)∧i≤inits.length,fun vs _=>match vs with | [.d (.int _ i)]=>((inits.length:Int) - i).toNat | _=>0⟩),(42,⟨[153],[2,3,151,152],fun vs σ=>∃(i:Nat) (P:PV),vs=[.d (.int .i64 i)]∧σ=⟨[.cells 84 [P,.sl 0 5 (Zk (l++(tys.map tyT).flatten++(rels.map reT).flatten++(comps.map coT).flatten++(inits.map inT).flatten++((overs.take i).map ovT).flatten))],.cells 78 [.ptr 0 0],.cells 44 ((XK pl (.mk tys rels rules comps inits overs)).map .d)],[0],1⟩∧(P=.d .nilp∨P=.ptr 0 0)∧i≤overs.length,fun vs _=>match vs with | [.d (.int _ i)]=>((overs.length:Int) - i).toNat | _=>0⟩),(47,⟨[166],[2,3,164,165],fun vs σ=>∃(i:Nat) (P:PV),vs=[.d (.int .i64 i)]∧σ=⟨[.cells 84 [P,.sl 0 5 (Zk (l++(tys.map tyT).flatten++(rels.map reT).flatten++(comps.map coT).flatten++(inits.map inT).flatten++(overs.map ovT).flatten++((rules.take i).map ZrP).flatten))],.cells 78 [.ptr 0 0],.cells 44 ((XK pl (.mk tys rels rules comps inits overs)).map .d)],[0],1⟩∧(P=.d .nilp∨P=.ptr 0 0)∧i≤rules.length,fun vs _=>match vs with | [.d (.int _ i)]=>((rules.length:Int) - i).toNat | _=>0⟩)],ZbX [(19,4)],VW [],VW [],VW [],ZyN [(14,([2,3],fun vs σ=>∃P:PV,vs=[.ptr 1 0,.ptr 2 0]∧σ=⟨[.cells 84 [P,.sl 0 5 (Zk (l++(tys.map tyT).flatten))],.cells 78 [.ptr 0 0],.cells 44 ((XK pl (.mk tys rels rules comps inits overs)).map .d)],[0],1⟩∧(P=.d .nilp∨P=.ptr 0 0))),(26,([2,3],fun vs σ=>∃P:PV,vs=[.ptr 1 0,.ptr 2 0]∧σ=⟨[.cells 84 [P,.sl 0 5 (Zk (l++(tys.map tyT).flatten++(rels.map reT).flatten))],.cells 78 [.ptr 0 0],.cells 44 ((XK pl (.mk tys rels rules comps inits overs)).map .d)],[0],1⟩∧(P=.d .nilp∨P=.ptr 0 0))),(36,([2,3],fun vs σ=>∃P:PV,vs=[.ptr 1 0,.ptr 2 0]∧σ=⟨[.cells 84 [P,.sl 0 5 (Zk (l++(tys.map tyT).flatten++(rels.map reT).flatten++(comps.map coT).flatten))],.cells 78 [.ptr 0 0],.cells 44 ((XK pl (.mk tys rels rules comps inits overs)).map .d)],[0],1⟩∧(P=.d .nilp∨P=.ptr 0 0))),(41,([2,3],fun vs σ=>∃P:PV,vs=[.ptr 1 0,.ptr 2 0]∧σ=⟨[.cells 84 [P,.sl 0 5 (Zk (l++(tys.map tyT).flatten++(rels.map reT).flatten++(comps.map coT).flatten++(inits.map inT).flatten))],.cells 78 [.ptr 0 0],.cells 44 ((XK pl (.mk tys rels rules comps inits overs)).map .d)],[0],1⟩∧(P=.d .nilp∨P=.ptr 0 0))),(46,([2,3],fun vs σ=>∃P:PV,vs=[.ptr 1 0,.ptr 2 0]∧σ=⟨[.cells 84 [P,.sl 0 5 (Zk (l++(tys.map tyT).flatten++(rels.map reT).flatten++(comps.map coT).flatten++(inits.map inT).flatten++(overs.map ovT).flatten))],.cells 78 [.ptr 0 0],.cells 44 ((XK pl (.mk tys rels rules comps inits overs)).map .d)],[0],1⟩∧(P=.d .nilp∨P=.ptr 0 0)))],1,true,by simp,Tb rfl,?_⟩
  rcases hp with rfl | rfl
  all_goals
   conv=>whnf
   refine ⟨?_,?_⟩
   ·conv=>whnf
    refine ⟨⟨0,_,rfl,(by simp only [T6,TF,Sp,TA];rfl),(by first | exact .inl rfl | exact .inr rfl),by omega⟩,?_⟩
    intro vs σ hI
    obtain ⟨i,P,rfl,rfl,hP,hi⟩:=hI
    conv=>whnf
    refine ZEb (fun hi2=>?_) (fun hi2=>?_)
    ·have hl1:(tys.map (Ya pl)).length=tys.length:=Tf ..
     have hi2:i<tys.length:=by have hi2:(i:Int)<(tys.map (Ya pl)).length:=hi2;rw [hl1] at hi2;omega
     have hg:=ZD wTy tys i hi2
     have htk:=UV tyT hi2
     have hle:=Zda tyT tys (i+1)
     have hmem:=TV hi2
     obtain ⟨L,hL⟩:∃L,l++((tys.take i).map tyT).flatten=L:=⟨_,rfl⟩
     have hLl:L.length=(l).length+((tys.take i).map tyT).flatten.length:=by rw [← hL,Ta]
     (try simp only [Ta] at hLl)
     rw [htk,Ta] at hle
     rw [hL]
     obtain ⟨x,hX⟩:∃x,tys[i]=x:=⟨_,rfl⟩
     rw [hX] at hg hmem htk hle
     obtain ⟨kd,nm,base,fs,cs,at'⟩:=x
     have hfin:l++((tys.take (i+1)).map tyT).flatten=L++tyT ⟨kd,nm,base,fs,cs,at'⟩:=by rw [htk,← Tg,hL]
     have hr1:(tys.map (Ya pl))[((i:Nat):Int).toNat]?=some (Ya pl ⟨kd,nm,base,fs,cs,at'⟩):=by simp [hi2,hX]
     obtain ⟨q1,q2,q3,q4⟩:=ZhU (m1 _ hmem)
     simp only at q1 q2 q3 q4
     have hg2:wTy ⟨kd,nm,base,fs,cs,at'⟩=1+nm.length+base.length+szS wFi fs+szS wCa cs:=rfl
     have hw:nm.length+base.length+szS wFi fs+szS wCa cs≤n:=by omega
     conv=>whnf
     refine ⟨_,by omega,hr1,?_⟩
     by_cases k1:kd=1
     ·have hT:tyT ⟨kd,nm,base,fs,cs,at'⟩=[116,121,112,101,32]++(nm++(([32,60,58,32]++base)++[10])):=by rw [tyT,Th k1]
      rw [hT] at hle
      simp only [Ta,Tc,Td] at hle
      rcases hP with rfl | rfl
      all_goals
       conv=>whnf
       refine ⟨L,[116,121,112,101,32]++nm,rfl,⟨(by first | exact .inl rfl | exact .inr rfl),rfl,rfl⟩,⟨[[116,121,112,101,32],nm],rfl,by simp,by simp,by simp⟩,(by (try simp only [Ta,Tc,Td]);omega),?_⟩
       conv=>whnf
       refine ZEb (fun _=>?_) (fun g=>absurd (show (kd:Int)=1 by omega) g)
       conv=>whnf
       refine ⟨L++([116,121,112,101,32]++nm),[32,60,58,32]++base,rfl,⟨.inr rfl,rfl,rfl⟩,⟨[[32,60,58,32],base],rfl,by simp,by simp,by simp⟩,(by (try simp only [Ta,Tc,Td]);omega),?_⟩
       conv=>whnf
       refine ⟨L++([116,121,112,101,32]++nm)++([32,60,58,32]++base),[10],rfl,⟨.inr rfl,rfl,rfl⟩,⟨[[10]],rfl,by simp,by simp,by simp⟩,(by (try simp only [Ta,Tc,Td]);omega),?_⟩
       conv=>whnf
       refine oiO ?_
       conv=>whnf
       refine ⟨⟨i+1,_,rfl,(by rw [hfin,hT];simp only [Tg];rfl),.inr rfl,by omega⟩,?_⟩
       show ((tys.length:Int) - ((i:Int)+1)).toNat<((tys.length:Int) - (i:Int)).toNat
       omega
     by_cases k2:kd=2
     ·have hT:tyT ⟨kd,nm,base,fs,cs,at'⟩=[116,121,112,101,32]++(nm++(Um [32,61,32,91] fs [93]++[10])):=by rw [tyT,Te k1,Th k2]
      rw [hT] at hle
      simp only [Ta,Tc,Td] at hle
      rcases hP with rfl | rfl
      all_goals
       conv=>whnf
       refine ⟨L,[116,121,112,101,32]++nm,rfl,⟨(by first | exact .inl rfl | exact .inr rfl),rfl,rfl⟩,⟨[[116,121,112,101,32],nm],rfl,by simp,by simp,by simp⟩,(by (try simp only [Ta,Tc,Td]);omega),?_⟩
       conv=>whnf
       refine ZEb (fun g=>absurd (show kd=1 by have g:(kd:Int)=1:=g;omega) k1) (fun _=>?_)
       conv=>whnf
       refine ZEb (fun _=>?_) (fun g=>absurd (show (kd:Int)=2 by omega) g)
       conv=>whnf
       refine ⟨L++([116,121,112,101,32]++nm),Um [32,61,32,91] fs [93],rfl,⟨.inr rfl,rfl,rfl⟩,⟨[32,61,32,91],[93],fs,rfl,⟨Tl.2 q2,by omega,by omega⟩,rfl⟩,(by (try simp only [Ta,Tc,Td]);omega),?_⟩
       conv=>whnf
       refine ⟨L++([116,121,112,101,32]++nm)++Um [32,61,32,91] fs [93],[10],rfl,⟨.inr rfl,rfl,rfl⟩,⟨[[10]],rfl,by simp,by simp,by simp⟩,(by (try simp only [Ta,Tc,Td]);omega),?_⟩
       conv=>whnf
       refine oiO ?_
       conv=>whnf
       refine ⟨⟨i+1,_,rfl,(by rw [hfin,hT];simp only [Tg];rfl),.inr rfl,by omega⟩,?_⟩
       show ((tys.length:Int) - ((i:Int)+1)).toNat<((tys.length:Int) - (i:Int)).toNat
       omega
     have hT:tyT ⟨kd,nm,base,fs,cs,at'⟩=[116,121,112,101,32]++(nm++([32,61,32]++(Zf [32,124,32] (cs.map caT)++[10]))):=by rw [tyT,Te k1,Te k2];simp only [Tg]
     rw [hT] at hle
     simp only [Ta,Tc,Td] at hle
     rcases hP with rfl | rfl
     all_goals
      conv=>whnf
      refine ⟨L,[116,121,112,101,32]++nm,rfl,⟨(by first | exact .inl rfl | exact .inr rfl),rfl,rfl⟩,⟨[[116,121,112,101,32],nm],rfl,by simp,by simp,by simp⟩,(by (try simp only [Ta,Tc,Td]);omega),?_⟩
      conv=>whnf
      refine ZEb (fun g=>absurd (show kd=1 by have g:(kd:Int)=1:=g;omega) k1) (fun _=>?_)
      conv=>whnf
      refine ZEb (fun g=>absurd (show kd=2 by have g:(kd:Int)=2:=g;omega) k2) (fun _=>?_)
      conv=>whnf
      refine ⟨L++([116,121,112,101,32]++nm),[32,61,32],rfl,⟨.inr rfl,rfl,rfl⟩,⟨[[32,61,32]],rfl,by simp,by simp,by simp⟩,(by (try simp only [Ta,Tc,Td]);omega),?_⟩
      conv=>whnf
      refine ⟨L++([116,121,112,101,32]++nm)++[32,61,32],fun _=>0,cs,rfl,rfl,⟨rfl,rfl,rfl⟩,⟨Tl.2 q3,by omega,by omega⟩,(by (try simp only [Ta,Tc,Td]);show _+(Zf [32,124,32] (cs.map caT)).length<_;omega),?_⟩
      conv=>whnf
      refine ⟨L++([116,121,112,101,32]++nm)++[32,61,32]++Zf [32,124,32] (cs.map caT),[10],rfl,⟨.inr rfl,rfl,rfl⟩,⟨[[10]],rfl,by simp,by simp,by simp⟩,(by (try simp only [Ta,Tc,Td]);omega),?_⟩
      conv=>whnf
      refine oiO ?_
      conv=>whnf
      refine ⟨⟨i+1,_,rfl,(by rw [hfin,hT];simp only [Tg];rfl),.inr rfl,by omega⟩,?_⟩
      show ((tys.length:Int) - ((i:Int)+1)).toNat<((tys.length:Int) - (i:Int)).toNat
      omega
    have hi2:i=tys.length:=by
     have hl1:(tys.map (Ya pl)).length=tys.length:=Tf ..
     have hi2:¬(i:Int)<(tys.map (Ya pl)).length:=hi2
     rw [hl1] at hi2;omega
    subst hi2
    rw [Sd]
    rcases hP with rfl | rfl
    all_goals
     conv=>whnf
     exact ⟨_,rfl,rfl,(by first | exact .inl rfl | exact .inr rfl)⟩
   intro vs σ hI
   obtain ⟨P,rfl,rfl,hP⟩:=hI
   conv=>whnf
   refine ⟨?_,?_⟩
   ·rcases hP with rfl | rfl
    all_goals
     conv=>whnf
     refine ⟨⟨0,_,rfl,(by simp only [T6,TF,Sp,TA];rfl),(by first | exact .inl rfl | exact .inr rfl),by omega⟩,?_⟩
     intro vs σ hI
     obtain ⟨i,P,rfl,rfl,hP,hi⟩:=hI
     conv=>whnf
     refine ZEb (fun hi2=>?_) (fun hi2=>?_)
     ·have hl1:(rels.map (Z8 pl)).length=rels.length:=Tf ..
      have hi2:i<rels.length:=by have hi2:(i:Int)<(rels.map (Z8 pl)).length:=hi2;rw [hl1] at hi2;omega
      have hg:=ZD wRe rels i hi2
      have htk:=UV reT hi2
      have hle:=Zda reT rels (i+1)
      have hmem:=TV hi2
      obtain ⟨L,hL⟩:∃L,l++(tys.map tyT).flatten++((rels.take i).map reT).flatten=L:=⟨_,rfl⟩
      have hLl:L.length=(l++(tys.map tyT).flatten).length+((rels.take i).map reT).flatten.length:=by rw [← hL,Ta]
      (try simp only [Ta] at hLl)
      rw [htk,Ta] at hle
      rw [hL]
      obtain ⟨x,hX⟩:∃x,rels[i]=x:=⟨_,rfl⟩
      rw [hX] at hg hmem htk hle
      obtain ⟨nm,fs,b1,b2,b3,at'⟩:=x
      have hfin:l++(tys.map tyT).flatten++((rels.take (i+1)).map reT).flatten=L++reT ⟨nm,fs,b1,b2,b3,at'⟩:=by rw [htk,← Tg,hL]
      have hr1:(rels.map (Z8 pl))[((i:Nat):Int).toNat]?=some (Z8 pl ⟨nm,fs,b1,b2,b3,at'⟩):=by simp [hi2,hX]
      have q:=m2 _ hmem
      simp only [XN,Tj] at q
      obtain ⟨q1,q2⟩:=q
      have q2:=Tl.1 q2
      have hg2:wRe ⟨nm,fs,b1,b2,b3,at'⟩=1+nm.length+szS wFi fs:=rfl
      have hw:nm.length+szS wFi fs≤n:=by omega
      conv=>whnf
      refine ⟨_,by omega,hr1,?_⟩
      have hT0:reT ⟨nm,fs,b1,b2,b3,at'⟩=Um ([100,101,99,108,32]++nm++[40]) fs [41]++((if b1 then [32,105,110,112,117,116] else [])++((if b2 then [32,111,117,116,112,117,116] else [])++((if b3 then [32,105,110,108,105,110,101] else [])++[10]))):=by rw [reT];simp only [Tg]
      rcases hP with rfl | rfl
      all_goals
       conv=>whnf
       refine ⟨by simp only [Tc,Td];omega,?_⟩
       conv=>whnf
       refine ⟨by simp only [Ta,Tc,Td];omega,?_⟩
       cases b1 <;> cases b2 <;> cases b3
       ·have hT:=hT0
        simp only [if_true,Tt,if_false,To] at hT
        rw [hT] at hle
        simp only [Ta,Tc,Td] at hle
        conv=>whnf
        refine ⟨L,Um ([100,101,99,108,32]++nm++[40]) fs [41],rfl,⟨(by first | exact .inl rfl | exact .inr rfl),rfl,rfl⟩,⟨([100,101,99,108,32]++nm++[40]),[41],fs,rfl,⟨Tl.2 q2,by omega,by omega⟩,rfl⟩,(by (try simp only [Ta,Tc,Td]);omega),?_⟩
        conv=>whnf
        refine ⟨by decide,by decide,?_⟩
        conv=>whnf
        refine oiD ?_
        conv=>whnf
        refine ⟨by decide,by decide,?_⟩
        conv=>whnf
        refine oiD ?_
        conv=>whnf
        refine ⟨by decide,by decide,?_⟩
        conv=>whnf
        refine oiD ?_
        conv=>whnf
        refine ⟨L++Um ([100,101,99,108,32]++nm++[40]) fs [41],[10],rfl,⟨.inr rfl,rfl,rfl⟩,⟨[[10]],rfl,by simp,by simp,by simp⟩,(by (try simp only [Ta,Tc,Td]);omega),?_⟩
        exact m17
       ·have hT:=hT0
        simp only [if_true,Tt,if_false,To] at hT
        rw [hT] at hle
        simp only [Ta,Tc,Td] at hle
        conv=>whnf
        refine ⟨L,Um ([100,101,99,108,32]++nm++[40]) fs [41],rfl,⟨(by first | exact .inl rfl | exact .inr rfl),rfl,rfl⟩,⟨([100,101,99,108,32]++nm++[40]),[41],fs,rfl,⟨Tl.2 q2,by omega,by omega⟩,rfl⟩,(by (try simp only [Ta,Tc,Td]);omega),?_⟩
        conv=>whnf
        refine ⟨by decide,by decide,?_⟩
        conv=>whnf
        refine oiD ?_
        conv=>whnf
        refine ⟨by decide,by decide,?_⟩
        conv=>whnf
        refine oiD ?_
        conv=>whnf
        refine ⟨by decide,by decide,?_⟩
        conv=>whnf
        refine ⟨by decide,by decide,?_⟩
        conv=>whnf
        refine ⟨L++Um ([100,101,99,108,32]++nm++[40]) fs [41],[32,105,110,108,105,110,101],rfl,⟨.inr rfl,rfl,rfl⟩,⟨[[32,105,110,108,105,110,101]],rfl,by simp,by simp,by simp⟩,(by (try simp only [Ta,Tc,Td]);omega),?_⟩
        conv=>whnf
        (repeat (refine ⟨rfl,?_⟩;conv=>whnf))
        conv=>whnf
        refine oiD ?_
        conv=>whnf
        refine ⟨L++Um ([100,101,99,108,32]++nm++[40]) fs [41]++[32,105,110,108,105,110,101],[10],rfl,⟨.inr rfl,rfl,rfl⟩,⟨[[10]],rfl,by simp,by simp,by simp⟩,(by (try simp only [Ta,Tc,Td]);omega),?_⟩
        exact m17
       ·have hT:=hT0
        simp only [if_true,Tt,if_false,To] at hT
        rw [hT] at hle
        simp only [Ta,Tc,Td] at hle
        conv=>whnf
        refine ⟨L,Um ([100,101,99,108,32]++nm++[40]) fs [41],rfl,⟨(by first | exact .inl rfl | exact .inr rfl),rfl,rfl⟩,⟨([100,101,99,108,32]++nm++[40]),[41],fs,rfl,⟨Tl.2 q2,by omega,by omega⟩,rfl⟩,(by (try simp only [Ta,Tc,Td]);omega),?_⟩
        conv=>whnf
        refine ⟨by decide,by decide,?_⟩
        conv=>whnf
        refine oiD ?_
        conv=>whnf
        refine ⟨by decide,by decide,?_⟩
        conv=>whnf
        refine ⟨by decide,by decide,?_⟩
        conv=>whnf
        refine ⟨L++Um ([100,101,99,108,32]++nm++[40]) fs [41],[32,111,117,116,112,117,116],rfl,⟨.inr rfl,rfl,rfl⟩,⟨[[32,111,117,116,112,117,116]],rfl,by simp,by simp,by simp⟩,(by (try simp only [Ta,Tc,Td]);omega),?_⟩
        conv=>whnf
        (repeat (refine ⟨rfl,?_⟩;conv=>whnf))
        conv=>whnf
        refine oiD ?_
        conv=>whnf
        refine ⟨by decide,by decide,?_⟩
        conv=>whnf
        refine oiD ?_
        conv=>whnf
        refine ⟨L++Um ([100,101,99,108,32]++nm++[40]) fs [41]++[32,111,117,116,112,117,116],[10],rfl,⟨.inr rfl,rfl,rfl⟩,⟨[[10]],rfl,by simp,by simp,by simp⟩,(by (try simp only [Ta,Tc,Td]);omega),?_⟩
        exact m17
       ·have hT:=hT0
        simp only [if_true,Tt,if_false,To] at hT
        rw [hT] at hle
        simp only [Ta,Tc,Td] at hle
        conv=>whnf
        refine ⟨L,Um ([100,101,99,108,32]++nm++[40]) fs [41],rfl,⟨(by first | exact .inl rfl | exact .inr rfl),rfl,rfl⟩,⟨([100,101,99,108,32]++nm++[40]),[41],fs,rfl,⟨Tl.2 q2,by omega,by omega⟩,rfl⟩,(by (try simp only [Ta,Tc,Td]);omega),?_⟩
        conv=>whnf
        refine ⟨by decide,by decide,?_⟩
        conv=>whnf
        refine oiD ?_
        conv=>whnf
        refine ⟨by decide,by decide,?_⟩
        conv=>whnf
        refine ⟨by decide,by decide,?_⟩
        conv=>whnf
        refine ⟨L++Um ([100,101,99,108,32]++nm++[40]) fs [41],[32,111,117,116,112,117,116],rfl,⟨.inr rfl,rfl,rfl⟩,⟨[[32,111,117,116,112,117,116]],rfl,by simp,by simp,by simp⟩,(by (try simp only [Ta,Tc,Td]);omega),?_⟩
        conv=>whnf
        (repeat (refine ⟨rfl,?_⟩;conv=>whnf))
        conv=>whnf
        refine oiD ?_
        conv=>whnf
        refine ⟨by decide,by decide,?_⟩
        conv=>whnf
        refine ⟨by decide,by decide,?_⟩
        conv=>whnf
        refine ⟨L++Um ([100,101,99,108,32]++nm++[40]) fs [41]++[32,111,117,116,112,117,116],[32,105,110,108,105,110,101],rfl,⟨.inr rfl,rfl,rfl⟩,⟨[[32,105,110,108,105,110,101]],rfl,by simp,by simp,by simp⟩,(by (try simp only [Ta,Tc,Td]);omega),?_⟩
        conv=>whnf
        (repeat (refine ⟨rfl,?_⟩;conv=>whnf))
        conv=>whnf
        refine oiD ?_
        conv=>whnf
        refine ⟨L++Um ([100,101,99,108,32]++nm++[40]) fs [41]++[32,111,117,116,112,117,116]++[32,105,110,108,105,110,101],[10],rfl,⟨.inr rfl,rfl,rfl⟩,⟨[[10]],rfl,by simp,by simp,by simp⟩,(by (try simp only [Ta,Tc,Td]);omega),?_⟩
        exact m17
       ·have hT:=hT0
        simp only [if_true,Tt,if_false,To] at hT
        rw [hT] at hle
        simp only [Ta,Tc,Td] at hle
        conv=>whnf
        refine ⟨L,Um ([100,101,99,108,32]++nm++[40]) fs [41],rfl,⟨(by first | exact .inl rfl | exact .inr rfl),rfl,rfl⟩,⟨([100,101,99,108,32]++nm++[40]),[41],fs,rfl,⟨Tl.2 q2,by omega,by omega⟩,rfl⟩,(by (try simp only [Ta,Tc,Td]);omega),?_⟩
        conv=>whnf
        refine ⟨by decide,by decide,?_⟩
        conv=>whnf
        refine ⟨by decide,by decide,?_⟩
        conv=>whnf
        refine ⟨L++Um ([100,101,99,108,32]++nm++[40]) fs [41],[32,105,110,112,117,116],rfl,⟨.inr rfl,rfl,rfl⟩,⟨[[32,105,110,112,117,116]],rfl,by simp,by simp,by simp⟩,(by (try simp only [Ta,Tc,Td]);omega),?_⟩
        conv=>whnf
        (repeat (refine ⟨rfl,?_⟩;conv=>whnf))
        conv=>whnf
        refine oiD ?_
        conv=>whnf
        refine ⟨by decide,by decide,?_⟩
        conv=>whnf
        refine oiD ?_
        conv=>whnf
        refine ⟨by decide,by decide,?_⟩
        conv=>whnf
        refine oiD ?_
        conv=>whnf
        refine ⟨L++Um ([100,101,99,108,32]++nm++[40]) fs [41]++[32,105,110,112,117,116],[10],rfl,⟨.inr rfl,rfl,rfl⟩,⟨[[10]],rfl,by simp,by simp,by simp⟩,(by (try simp only [Ta,Tc,Td]);omega),?_⟩
        exact m17
       ·have hT:=hT0
        simp only [if_true,Tt,if_false,To] at hT
        rw [hT] at hle
        simp only [Ta,Tc,Td] at hle
        conv=>whnf
        refine ⟨L,Um ([100,101,99,108,32]++nm++[40]) fs [41],rfl,⟨(by first | exact .inl rfl | exact .inr rfl),rfl,rfl⟩,⟨([100,101,99,108,32]++nm++[40]),[41],fs,rfl,⟨Tl.2 q2,by omega,by omega⟩,rfl⟩,(by (try simp only [Ta,Tc,Td]);omega),?_⟩
        conv=>whnf
        refine ⟨by decide,by decide,?_⟩
        conv=>whnf
        refine ⟨by decide,by decide,?_⟩
        conv=>whnf
        refine ⟨L++Um ([100,101,99,108,32]++nm++[40]) fs [41],[32,105,110,112,117,116],rfl,⟨.inr rfl,rfl,rfl⟩,⟨[[32,105,110,112,117,116]],rfl,by simp,by simp,by simp⟩,(by (try simp only [Ta,Tc,Td]);omega),?_⟩
        conv=>whnf
        (repeat (refine ⟨rfl,?_⟩;conv=>whnf))
        conv=>whnf
        refine oiD ?_
        conv=>whnf
        refine ⟨by decide,by decide,?_⟩
        conv=>whnf
        refine oiD ?_
        conv=>whnf
        refine ⟨by decide,by decide,?_⟩
        conv=>whnf
        refine ⟨by decide,by decide,?_⟩
        conv=>whnf
        refine ⟨L++Um ([100,101,99,108,32]++nm++[40]) fs [41]++[32,105,110,112,117,116],[32,105,110,108,105,110,101],rfl,⟨.inr rfl,rfl,rfl⟩,⟨[[32,105,110,108,105,110,101]],rfl,by simp,by simp,by simp⟩,(by (try simp only [Ta,Tc,Td]);omega),?_⟩
        conv=>whnf
        (repeat (refine ⟨rfl,?_⟩;conv=>whnf))
        conv=>whnf
        refine oiD ?_
        conv=>whnf
        refine ⟨L++Um ([100,101,99,108,32]++nm++[40]) fs [41]++[32,105,110,112,117,116]++[32,105,110,108,105,110,101],[10],rfl,⟨.inr rfl,rfl,rfl⟩,⟨[[10]],rfl,by simp,by simp,by simp⟩,(by (try simp only [Ta,Tc,Td]);omega),?_⟩
        exact m17
       ·have hT:=hT0
        simp only [if_true,Tt,if_false,To] at hT
        rw [hT] at hle
        simp only [Ta,Tc,Td] at hle
        conv=>whnf
        refine ⟨L,Um ([100,101,99,108,32]++nm++[40]) fs [41],rfl,⟨(by first | exact .inl rfl | exact .inr rfl),rfl,rfl⟩,⟨([100,101,99,108,32]++nm++[40]),[41],fs,rfl,⟨Tl.2 q2,by omega,by omega⟩,rfl⟩,(by (try simp only [Ta,Tc,Td]);omega),?_⟩
        conv=>whnf
        refine ⟨by decide,by decide,?_⟩
        conv=>whnf
        refine ⟨by decide,by decide,?_⟩
        conv=>whnf
        refine ⟨L++Um ([100,101,99,108,32]++nm++[40]) fs [41],[32,105,110,112,117,116],rfl,⟨.inr rfl,rfl,rfl⟩,⟨[[32,105,110,112,117,116]],rfl,by simp,by simp,by simp⟩,(by (try simp only [Ta,Tc,Td]);omega),?_⟩
        conv=>whnf
        (repeat (refine ⟨rfl,?_⟩;conv=>whnf))
        conv=>whnf
        refine oiD ?_
        conv=>whnf
        refine ⟨by decide,by decide,?_⟩
        conv=>whnf
        refine ⟨by decide,by decide,?_⟩
        conv=>whnf
        refine ⟨L++Um ([100,101,99,108,32]++nm++[40]) fs [41]++[32,105,110,112,117,116],[32,111,117,116,112,117,116],rfl,⟨.inr rfl,rfl,rfl⟩,⟨[[32,111,117,116,112,117,116]],rfl,by simp,by simp,by simp⟩,(by (try simp only [Ta,Tc,Td]);omega),?_⟩
        conv=>whnf
        (repeat (refine ⟨rfl,?_⟩;conv=>whnf))
        conv=>whnf
        refine oiD ?_
        conv=>whnf
        refine ⟨by decide,by decide,?_⟩
        conv=>whnf
        refine oiD ?_
        conv=>whnf
        refine ⟨L++Um ([100,101,99,108,32]++nm++[40]) fs [41]++[32,105,110,112,117,116]++[32,111,117,116,112,117,116],[10],rfl,⟨.inr rfl,rfl,rfl⟩,⟨[[10]],rfl,by simp,by simp,by simp⟩,(by (try simp only [Ta,Tc,Td]);omega),?_⟩
        exact m17
       ·have hT:=hT0
        simp only [if_true,Tt,if_false,To] at hT
        rw [hT] at hle
        simp only [Ta,Tc,Td] at hle
        conv=>whnf
        refine ⟨L,Um ([100,101,99,108,32]++nm++[40]) fs [41],rfl,⟨(by first | exact .inl rfl | exact .inr rfl),rfl,rfl⟩,⟨([100,101,99,108,32]++nm++[40]),[41],fs,rfl,⟨Tl.2 q2,by omega,by omega⟩,rfl⟩,(by (try simp only [Ta,Tc,Td]);omega),?_⟩
        conv=>whnf
        refine ⟨by decide,by decide,?_⟩
        conv=>whnf
        refine ⟨by decide,by decide,?_⟩
        conv=>whnf
        refine ⟨L++Um ([100,101,99,108,32]++nm++[40]) fs [41],[32,105,110,112,117,116],rfl,⟨.inr rfl,rfl,rfl⟩,⟨[[32,105,110,112,117,116]],rfl,by simp,by simp,by simp⟩,(by (try simp only [Ta,Tc,Td]);omega),?_⟩
        conv=>whnf
        (repeat (refine ⟨rfl,?_⟩;conv=>whnf))
        conv=>whnf
        refine oiD ?_
        conv=>whnf
        refine ⟨by decide,by decide,?_⟩
        conv=>whnf
        refine ⟨by decide,by decide,?_⟩
        conv=>whnf
        refine ⟨L++Um ([100,101,99,108,32]++nm++[40]) fs [41]++[32,105,110,112,117,116],[32,111,117,116,112,117,116],rfl,⟨.inr rfl,rfl,rfl⟩,⟨[[32,111,117,116,112,117,116]],rfl,by simp,by simp,by simp⟩,(by (try simp only [Ta,Tc,Td]);omega),?_⟩
        conv=>whnf
        (repeat (refine ⟨rfl,?_⟩;conv=>whnf))
        conv=>whnf
        refine oiD ?_
        conv=>whnf
        refine ⟨by decide,by decide,?_⟩
        conv=>whnf
        refine ⟨by decide,by decide,?_⟩
        conv=>whnf
        refine ⟨L++Um ([100,101,99,108,32]++nm++[40]) fs [41]++[32,105,110,112,117,116]++[32,111,117,116,112,117,116],[32,105,110,108,105,110,101],rfl,⟨.inr rfl,rfl,rfl⟩,⟨[[32,105,110,108,105,110,101]],rfl,by simp,by simp,by simp⟩,(by (try simp only [Ta,Tc,Td]);omega),?_⟩
        conv=>whnf
        (repeat (refine ⟨rfl,?_⟩;conv=>whnf))
        conv=>whnf
        refine oiD ?_
        conv=>whnf
        refine ⟨L++Um ([100,101,99,108,32]++nm++[40]) fs [41]++[32,105,110,112,117,116]++[32,111,117,116,112,117,116]++[32,105,110,108,105,110,101],[10],rfl,⟨.inr rfl,rfl,rfl⟩,⟨[[10]],rfl,by simp,by simp,by simp⟩,(by (try simp only [Ta,Tc,Td]);omega),?_⟩
        exact m17
     have hi2:i=rels.length:=by
      have hl1:(rels.map (Z8 pl)).length=rels.length:=Tf ..
      have hi2:¬(i:Int)<(rels.map (Z8 pl)).length:=hi2
      rw [hl1] at hi2;omega
     subst hi2
     rw [Sd]
     rcases hP with rfl | rfl
     all_goals
      conv=>whnf
      exact ⟨_,rfl,rfl,(by first | exact .inl rfl | exact .inr rfl)⟩
   intro vs σ hI
   obtain ⟨P,rfl,rfl,hP⟩:=hI
   conv=>whnf
   refine ⟨?_,?_⟩
   ·rcases hP with rfl | rfl
    all_goals
     conv=>whnf
     refine ⟨⟨0,_,rfl,(by simp only [T6,TF,Sp,TA];rfl),(by first | exact .inl rfl | exact .inr rfl),by omega⟩,?_⟩
     intro vs σ hI
     obtain ⟨i,P,rfl,rfl,hP,hi⟩:=hI
     conv=>whnf
     refine ZEb (fun hi2=>?_) (fun hi2=>?_)
     ·have hl1:(comps.map (ZY pl)).length=comps.length:=Tf ..
      have hi2:i<comps.length:=by have hi2:(i:Int)<(comps.map (ZY pl)).length:=(by rw [← ec];exact hi2);rw [hl1] at hi2;omega
      have hg:=ZD wCo comps i hi2
      have htk:=UV coT hi2
      have hle:=Zda coT comps (i+1)
      have hmem:=TV hi2
      obtain ⟨L,hL⟩:∃L,l++(tys.map tyT).flatten++(rels.map reT).flatten++((comps.take i).map coT).flatten=L:=⟨_,rfl⟩
      have hLl:L.length=(l++(tys.map tyT).flatten++(rels.map reT).flatten).length+((comps.take i).map coT).flatten.length:=by rw [← hL,Ta]
      (try simp only [Ta] at hLl)
      rw [htk,Ta] at hle
      rw [hL]
      obtain ⟨x,hX⟩:∃x,comps[i]=x:=⟨_,rfl⟩
      rw [hX] at hg hmem htk hle
      obtain ⟨nm,ps,base,ts,⟨u1,u2,u3,u4,u5,u6⟩,at'⟩:=x
      have hfin:l++(tys.map tyT).flatten++(rels.map reT).flatten++((comps.take (i+1)).map coT).flatten=L++coT (.mk nm ps base ts (.mk u1 u2 u3 u4 u5 u6) at'):=by rw [htk,← Tg,hL]
      have hr1:(comps.map (ZY pl))[((i:Nat):Int).toNat]?=some (ZY pl (.mk nm ps base ts (.mk u1 u2 u3 u4 u5 u6) at')):=by simp [hi2,hX]
      have hu:=Zs7 (m4 _ hmem)
      have hw:nm.length+szS wBs ps+base.length+szS wBs ts+wUn (.mk u1 u2 u3 u4 u5 u6)+1≤n:=by rw [wCo] at hg;omega
      rw [← ec] at hr1
      conv=>whnf
      refine ⟨_,by omega,hr1,?_⟩
      by_cases k1:base=[]
      ·have hT:coT (.mk nm ps base ts (.mk u1 u2 u3 u4 u5 u6) at')=([99,111,109,112,32]++nm++JK ps)++([32,123,10]++(unT (.mk u1 u2 u3 u4 u5 u6)++([125,10]))):=by rw [coT,Th k1,To];simp only [Tg]
       rw [hT] at hle
       simp only [Ta,Tc,Td] at hle
       rcases hP with rfl | rfl
       all_goals
        conv=>whnf
        refine ⟨ps,rfl,⟨by omega,hn⟩,?_⟩
        conv=>whnf
        (repeat (refine ⟨rfl,?_⟩;conv=>whnf))
        refine ⟨L,[99,111,109,112,32]++nm++JK ps,rfl,⟨(by first | exact .inl rfl | exact .inr rfl),rfl,rfl⟩,⟨[[99,111,109,112,32],nm,JK ps],rfl,by simp,by simp,by simp⟩,(by (try simp only [Ta,Tc,Td]);omega),?_⟩
        conv=>whnf
        (repeat (refine ⟨rfl,?_⟩;conv=>whnf))
        refine ZEf (fun g=>absurd k1 g) (fun _=>?_)
        conv=>whnf
        refine ⟨L++([99,111,109,112,32]++nm++JK ps),[32,123,10],rfl,⟨.inr rfl,rfl,rfl⟩,⟨[[32,123,10]],rfl,by simp,by simp,by simp⟩,(by (try simp only [Ta,Tc,Td]);omega),?_⟩
        conv=>whnf
        refine ⟨by omega,L++([99,111,109,112,32]++nm++JK ps)++[32,123,10],unT (.mk u1 u2 u3 u4 u5 u6),rfl,⟨.inr rfl,rfl,rfl⟩,⟨pl,.mk u1 u2 u3 u4 u5 u6,rfl,⟨hu,by omega,by omega⟩,rfl⟩,(by (try simp only [Ta,Tc,Td]);omega),fun p' hp'=>?_⟩
        rcases hp' with rfl | rfl
        all_goals
         conv=>whnf
         refine ⟨L++([99,111,109,112,32]++nm++JK ps)++[32,123,10]++unT (.mk u1 u2 u3 u4 u5 u6),[125,10],rfl,⟨(by first | exact .inl rfl | exact .inr rfl),rfl,rfl⟩,⟨[[125,10]],rfl,by simp,by simp,by simp⟩,(by (try simp only [Ta,Tc,Td]);omega),?_⟩
         conv=>whnf
         refine oiO ?_
         conv=>whnf
         refine ⟨⟨i+1,_,rfl,(by rw [hfin,hT];simp only [Tg];rfl),.inr rfl,by omega⟩,?_⟩
         show ((comps.length:Int) - ((i:Int)+1)).toNat<((comps.length:Int) - (i:Int)).toNat
         omega
      have hT:coT (.mk nm ps base ts (.mk u1 u2 u3 u4 u5 u6) at')=([99,111,109,112,32]++nm++JK ps)++(([32,58,32]++base++JK ts)++([32,123,10]++(unT (.mk u1 u2 u3 u4 u5 u6)++([125,10])))):=by rw [coT,Te k1];simp only [Tg]
      rw [hT] at hle
      simp only [Ta,Tc,Td] at hle
      rcases hP with rfl | rfl
      all_goals
       conv=>whnf
       refine ⟨ps,rfl,⟨by omega,hn⟩,?_⟩
       conv=>whnf
       (repeat (refine ⟨rfl,?_⟩;conv=>whnf))
       refine ⟨L,[99,111,109,112,32]++nm++JK ps,rfl,⟨(by first | exact .inl rfl | exact .inr rfl),rfl,rfl⟩,⟨[[99,111,109,112,32],nm,JK ps],rfl,by simp,by simp,by simp⟩,(by (try simp only [Ta,Tc,Td]);omega),?_⟩
       conv=>whnf
       (repeat (refine ⟨rfl,?_⟩;conv=>whnf))
       refine ZEf (fun _=>?_) (fun g=>absurd g k1)
       conv=>whnf
       refine ⟨ts,rfl,⟨by omega,hn⟩,?_⟩
       conv=>whnf
       (repeat (refine ⟨rfl,?_⟩;conv=>whnf))
       refine ⟨L++([99,111,109,112,32]++nm++JK ps),[32,58,32]++base++JK ts,rfl,⟨.inr rfl,rfl,rfl⟩,⟨[[32,58,32],base,JK ts],rfl,by simp,by simp,by simp⟩,(by (try simp only [Ta,Tc,Td]);omega),?_⟩
       conv=>whnf
       (repeat (refine ⟨rfl,?_⟩;conv=>whnf))
       conv=>whnf
       refine ⟨L++([99,111,109,112,32]++nm++JK ps)++([32,58,32]++base++JK ts),[32,123,10],rfl,⟨.inr rfl,rfl,rfl⟩,⟨[[32,123,10]],rfl,by simp,by simp,by simp⟩,(by (try simp only [Ta,Tc,Td]);omega),?_⟩
       conv=>whnf
       refine ⟨by omega,L++([99,111,109,112,32]++nm++JK ps)++([32,58,32]++base++JK ts)++[32,123,10],unT (.mk u1 u2 u3 u4 u5 u6),rfl,⟨.inr rfl,rfl,rfl⟩,⟨pl,.mk u1 u2 u3 u4 u5 u6,rfl,⟨hu,by omega,by omega⟩,rfl⟩,(by (try simp only [Ta,Tc,Td]);omega),fun p' hp'=>?_⟩
       rcases hp' with rfl | rfl
       all_goals
        conv=>whnf
        refine ⟨L++([99,111,109,112,32]++nm++JK ps)++([32,58,32]++base++JK ts)++[32,123,10]++unT (.mk u1 u2 u3 u4 u5 u6),[125,10],rfl,⟨(by first | exact .inl rfl | exact .inr rfl),rfl,rfl⟩,⟨[[125,10]],rfl,by simp,by simp,by simp⟩,(by (try simp only [Ta,Tc,Td]);omega),?_⟩
        conv=>whnf
        refine oiO ?_
        conv=>whnf
        refine ⟨⟨i+1,_,rfl,(by rw [hfin,hT];simp only [Tg];rfl),.inr rfl,by omega⟩,?_⟩
        show ((comps.length:Int) - ((i:Int)+1)).toNat<((comps.length:Int) - (i:Int)).toNat
        omega
     have hi2:i=comps.length:=by
      have hl1:(comps.map (ZY pl)).length=comps.length:=Tf ..
      have hi2:¬(i:Int)<(comps.map (ZY pl)).length:=(by rw [← ec];exact hi2)
      rw [hl1] at hi2;omega
     subst hi2
     rw [Sd]
     rcases hP with rfl | rfl
     all_goals
      conv=>whnf
      exact ⟨_,rfl,rfl,(by first | exact .inl rfl | exact .inr rfl)⟩
   intro vs σ hI
   obtain ⟨P,rfl,rfl,hP⟩:=hI
   conv=>whnf
   refine ⟨?_,?_⟩
   ·rcases hP with rfl | rfl
    all_goals
     conv=>whnf
     refine ⟨⟨0,_,rfl,(by simp only [T6,TF,Sp,TA];rfl),(by first | exact .inl rfl | exact .inr rfl),by omega⟩,?_⟩
     intro vs σ hI
     obtain ⟨i,P,rfl,rfl,hP,hi⟩:=hI
     conv=>whnf
     refine ZEb (fun hi2=>?_) (fun hi2=>?_)
     ·have hl1:(inits.map (Yd pl)).length=inits.length:=Tf ..
      have hi2:i<inits.length:=by have hi2:(i:Int)<(inits.map (Yd pl)).length:=hi2;rw [hl1] at hi2;omega
      have hg:=ZD wIn inits i hi2
      have htk:=UV inT hi2
      have hle:=Zda inT inits (i+1)
      have hmem:=TV hi2
      obtain ⟨L,hL⟩:∃L,l++(tys.map tyT).flatten++(rels.map reT).flatten++(comps.map coT).flatten++((inits.take i).map inT).flatten=L:=⟨_,rfl⟩
      have hLl:L.length=(l++(tys.map tyT).flatten++(rels.map reT).flatten++(comps.map coT).flatten).length+((inits.take i).map inT).flatten.length:=by rw [← hL,Ta]
      (try simp only [Ta] at hLl)
      rw [htk,Ta] at hle
      rw [hL]
      obtain ⟨x,hX⟩:∃x,inits[i]=x:=⟨_,rfl⟩
      rw [hX] at hg hmem htk hle
      obtain ⟨nm,cp,ts,at'⟩:=x
      have hfin:l++(tys.map tyT).flatten++(rels.map reT).flatten++(comps.map coT).flatten++((inits.take (i+1)).map inT).flatten=L++inT ⟨nm,cp,ts,at'⟩:=by rw [htk,← Tg,hL]
      have hr1:(inits.map (Yd pl))[((i:Nat):Int).toNat]?=some (Yd pl ⟨nm,cp,ts,at'⟩):=by simp [hi2,hX]
      have hg2:wIn ⟨nm,cp,ts,at'⟩=1+nm.length+cp.length+szS wBs ts:=rfl
      have hw:nm.length+cp.length+szS wBs ts≤n:=by omega
      have hT:inT ⟨nm,cp,ts,at'⟩=[105,110,105,116,32]++nm++[32,61,32]++cp++JK ts++[10]:=by rw [inT];simp only [Tg]
      rw [hT] at hle
      simp only [Ta,Tc,Td] at hle
      conv=>whnf
      refine ⟨_,by omega,hr1,?_⟩
      rcases hP with rfl | rfl
      all_goals
       conv=>whnf
       refine ⟨ts,rfl,⟨by omega,hn⟩,?_⟩
       conv=>whnf
       (repeat (refine ⟨rfl,?_⟩;conv=>whnf))
       refine ⟨L,[105,110,105,116,32]++nm++[32,61,32]++cp++JK ts++[10],rfl,⟨(by first | exact .inl rfl | exact .inr rfl),rfl,rfl⟩,⟨[[105,110,105,116,32],nm,[32,61,32],cp,JK ts,[10]],rfl,by simp,by simp,by simp⟩,(by (try simp only [Ta,Tc,Td]);omega),?_⟩
       conv=>whnf
       (repeat (refine ⟨rfl,?_⟩;conv=>whnf))
       refine oiO ?_
       conv=>whnf
       refine ⟨⟨i+1,_,rfl,(by rw [hfin,hT];simp only [Tg];rfl),.inr rfl,by omega⟩,?_⟩
       show ((inits.length:Int) - ((i:Int)+1)).toNat<((inits.length:Int) - (i:Int)).toNat
       omega
     have hi2:i=inits.length:=by
      have hl1:(inits.map (Yd pl)).length=inits.length:=Tf ..
      have hi2:¬(i:Int)<(inits.map (Yd pl)).length:=hi2
      rw [hl1] at hi2;omega
     subst hi2
     rw [Sd]
     rcases hP with rfl | rfl
     all_goals
      conv=>whnf
      exact ⟨_,rfl,rfl,(by first | exact .inl rfl | exact .inr rfl)⟩
   intro vs σ hI
   obtain ⟨P,rfl,rfl,hP⟩:=hI
   conv=>whnf
   refine ⟨?_,?_⟩
   ·rcases hP with rfl | rfl
    all_goals
     conv=>whnf
     refine ⟨⟨0,_,rfl,(by simp only [T6,TF,Sp,TA];rfl),(by first | exact .inl rfl | exact .inr rfl),by omega⟩,?_⟩
     intro vs σ hI
     obtain ⟨i,P,rfl,rfl,hP,hi⟩:=hI
     conv=>whnf
     refine ZEb (fun hi2=>?_) (fun hi2=>?_)
     ·have hl1:(overs.map (Ye pl)).length=overs.length:=Tf ..
      have hi2:i<overs.length:=by have hi2:(i:Int)<(overs.map (Ye pl)).length:=hi2;rw [hl1] at hi2;omega
      have hg:=ZD wOv overs i hi2
      have htk:=UV ovT hi2
      have hle:=Zda ovT overs (i+1)
      have hmem:=TV hi2
      obtain ⟨L,hL⟩:∃L,l++(tys.map tyT).flatten++(rels.map reT).flatten++(comps.map coT).flatten++(inits.map inT).flatten++((overs.take i).map ovT).flatten=L:=⟨_,rfl⟩
      have hLl:L.length=(l++(tys.map tyT).flatten++(rels.map reT).flatten++(comps.map coT).flatten++(inits.map inT).flatten).length+((overs.take i).map ovT).flatten.length:=by rw [← hL,Ta]
      (try simp only [Ta] at hLl)
      rw [htk,Ta] at hle
      rw [hL]
      obtain ⟨x,hX⟩:∃x,overs[i]=x:=⟨_,rfl⟩
      rw [hX] at hg hmem htk hle
      obtain ⟨rel,at'⟩:=x
      have hfin:l++(tys.map tyT).flatten++(rels.map reT).flatten++(comps.map coT).flatten++(inits.map inT).flatten++((overs.take (i+1)).map ovT).flatten=L++ovT ⟨rel,at'⟩:=by rw [htk,← Tg,hL]
      have hr1:(overs.map (Ye pl))[((i:Nat):Int).toNat]?=some (Ye pl ⟨rel,at'⟩):=by simp [hi2,hX]
      have hg2:wOv ⟨rel,at'⟩=1+rel.length:=rfl
      have hw:rel.length≤n:=by omega
      have hT:ovT ⟨rel,at'⟩=[111,118,101,114,114,105,100,101,32]++rel++[10]:=by rw [ovT];simp only [Tg]
      rw [hT] at hle
      simp only [Ta,Tc,Td] at hle
      conv=>whnf
      refine ⟨_,by omega,hr1,?_⟩
      rcases hP with rfl | rfl
      all_goals
       conv=>whnf
       refine ⟨L,[111,118,101,114,114,105,100,101,32]++rel++[10],rfl,⟨(by first | exact .inl rfl | exact .inr rfl),rfl,rfl⟩,⟨[[111,118,101,114,114,105,100,101,32],rel,[10]],rfl,by simp,by simp,by simp⟩,(by (try simp only [Ta,Tc,Td]);omega),?_⟩
       conv=>whnf
       refine oiO ?_
       conv=>whnf
       refine ⟨⟨i+1,_,rfl,(by rw [hfin,hT];simp only [Tg];rfl),.inr rfl,by omega⟩,?_⟩
       show ((overs.length:Int) - ((i:Int)+1)).toNat<((overs.length:Int) - (i:Int)).toNat
       omega
     have hi2:i=overs.length:=by
      have hl1:(overs.map (Ye pl)).length=overs.length:=Tf ..
      have hi2:¬(i:Int)<(overs.map (Ye pl)).length:=hi2
      rw [hl1] at hi2;omega
     subst hi2
     rw [Sd]
     rcases hP with rfl | rfl
     all_goals
      conv=>whnf
      exact ⟨_,rfl,rfl,(by first | exact .inl rfl | exact .inr rfl)⟩
   intro vs σ hI
   obtain ⟨P,rfl,rfl,hP⟩:=hI
   conv=>whnf
   rcases hP with rfl | rfl
   all_goals
    refine ⟨⟨0,_,rfl,(by simp only [T6,TF,Sp,TA];rfl),(by first | exact .inl rfl | exact .inr rfl),by omega⟩,?_⟩
    intro vs σ hI
    obtain ⟨i,P,rfl,rfl,hP,hi⟩:=hI
    conv=>whnf
    refine ZEb (fun hi2=>?_) (fun hi2=>?_)
    ·have hl1:(rules.map (Z7 pl)).length=rules.length:=Tf ..
     have hi2:i<rules.length:=by have hi2:(i:Int)<(rules.map (Z7 pl)).length:=hi2;rw [hl1] at hi2;omega
     have hg:=ZD wRu rules i hi2
     have htk:=UV ZrP hi2
     have hle:=Zda ZrP rules (i+1)
     have hmem:=TV hi2
     obtain ⟨L,hL⟩:∃L,l++(tys.map tyT).flatten++(rels.map reT).flatten++(comps.map coT).flatten++(inits.map inT).flatten++(overs.map ovT).flatten++((rules.take i).map ZrP).flatten=L:=⟨_,rfl⟩
     have hLl:L.length=(l++(tys.map tyT).flatten++(rels.map reT).flatten++(comps.map coT).flatten++(inits.map inT).flatten++(overs.map ovT).flatten).length+((rules.take i).map ZrP).flatten.length:=by rw [← hL,Ta]
     (try simp only [Ta] at hLl)
     rw [htk,Ta] at hle
     rw [hL]
     obtain ⟨x,hX⟩:∃x,rules[i]=x:=⟨_,rfl⟩
     rw [hX] at hg hmem htk hle
     obtain ⟨head,as',bd,at'⟩:=x
     have hfin:l++(tys.map tyT).flatten++(rels.map reT).flatten++(comps.map coT).flatten++(inits.map inT).flatten++(overs.map ovT).flatten++((rules.take (i+1)).map ZrP).flatten=L++ZrP ⟨head,as',bd,at'⟩:=by rw [htk,← Tg,hL]
     have hr1:(rules.map (Z7 pl))[((i:Nat):Int).toNat]?=some (Z7 pl ⟨head,as',bd,at'⟩):=by simp [hi2,hX]
     have hw:wRu ⟨head,as',bd,at'⟩≤n:=by omega
     have hT:ZrP ⟨head,as',bd,at'⟩=(ruT ⟨head,as',bd,at'⟩)++[10]:=rfl
     rw [hT] at hle
     simp only [Ta,Tc,Td] at hle
     conv=>whnf
     refine ⟨_,by omega,hr1,?_⟩
     rcases hP with rfl | rfl
     all_goals
      conv=>whnf
      refine ⟨L,(ruT ⟨head,as',bd,at'⟩),rfl,⟨(by first | exact .inl rfl | exact .inr rfl),rfl,rfl⟩,⟨pl,⟨head,as',bd,at'⟩,rfl,⟨m3 _ hmem,hw,hn⟩,rfl⟩,(by (try simp only [Ta,Tc,Td]);omega),?_⟩
      conv=>whnf
      refine ⟨L++(ruT ⟨head,as',bd,at'⟩),[10],rfl,⟨.inr rfl,rfl,rfl⟩,⟨[[10]],rfl,by simp,by simp,by simp⟩,(by (try simp only [Ta,Tc,Td]);omega),?_⟩
      conv=>whnf
      refine oiO ?_
      conv=>whnf
      refine ⟨⟨i+1,_,rfl,(by rw [hfin,hT];simp only [Tg];rfl),.inr rfl,by omega⟩,?_⟩
      show ((rules.length:Int) - ((i:Int)+1)).toNat<((rules.length:Int) - (i:Int)).toNat
      omega
    have hi2:i=rules.length:=by
     have hl1:(rules.map (Z7 pl)).length=rules.length:=Tf ..
     have hi2:¬(i:Int)<(rules.map (Z7 pl)).length:=hi2
     rw [hl1] at hi2;omega
    subst hi2
    rw [Sd]
    rcases hP with rfl | rfl
    all_goals
     conv=>whnf
     exact h _ (by first | exact .inl rfl | exact .inr rfl)
 ·exact h.elim
theorem cWU (hN:NumOK w0 nG) (hL:LexC w0 nG):∀n,PCalls (GG w0 nG) 68 (ZxB n)
 | 0=>ZAK ⟨⟨Za2,Y2⟩,⟨ZqT,Zc8 0⟩,⟨ZDA 0,Zci _ _ _ _ _ _⟩,⟨Zt9,ZgM 0⟩,⟨cWR hN hL 0,ZjB 0⟩,⟨Yi (Zi Tryz.func68 (by kernel_rfl) rfl),ZV Zfo _⟩,trivial⟩
 | n+1=>ZAK ⟨⟨Za2,Y2⟩,⟨ZqT,Zc8 _⟩,⟨ZDA _,Zci _ _ _ _ _ _⟩,⟨Zt9,ZgM _⟩,⟨cWR hN hL _,ZjB _⟩,⟨Yj (sp:=ZxB) (cWU hN hL n),ZV Zfo _⟩,trivial⟩
end Go.PM.Lex
end

section
namespace Go.PM.Lex
theorem ZxC {a:Nat} {r:Bs} {room:Bool} {t:Tok} (h:WU a r room=.tok t):room=true:=by
 cases room with
 | true=>rfl
 | false =>
  rw [ZK] at h
  split at h
  ·cases h
  ·rw [Th rfl] at h;cases h
end Go.PM.Lex
end

section
namespace Go.PM.Lex
theorem ZAL {len len' b0 b1 b2 b3 b1' b2' b3':Nat} (hl:len≤len') (h1:1<len→b1'=b1) (h1':¬1<len→b1'<128) (h2:2<len→b2'=b2) (h2':1<len→¬2<len→b2'<128) (h3:3<len→b3'=b3) (h3':2<len→¬3<len→b3'<128) :
  Lib.decodeN len' b0 b1' b2' b3'=Lib.decodeN len b0 b1 b2 b3:=by
 unfold Lib.decodeN
 by_cases c0:b0<128
 ·rw [Th c0,Th c0]
 rw [Te c0,Te c0]
 by_cases l1:1<len
 ·have e1:=h1 l1;subst e1
  have g1:1<len':=by omega
  by_cases l2:2<len
  ·have e2:=h2 l2;subst e2
   have g2:2<len':=by omega
   by_cases l3:3<len
   ·have e3:=h3 l3;subst e3
    have g3:3<len':=by omega
    simp only [l1,l2,l3,g1,g2,g3,true_and]
   ·have:=h3' l2 l3
    have k:¬b3' / 64=2:=by omega
    simp only [l1,l2,l3,g1,g2,k,true_and,false_and,and_false,if_false]
  ·have:=h2' l1 l2
   have k:¬b2' / 64=2:=by omega
   simp only [l1,l2,g1,k,true_and,false_and,and_false,if_false]
 ·have:=h1' l1
  have k:¬b1' / 64=2:=by omega
  simp only [l1,k,true_and,false_and,and_false,if_false]
theorem Zfp (x z:Bs) (c:UInt8) (k:Nat) (h:¬k<x.length) (h2:x.length=k):(x++c::z).getD k 0=c:=by
 simp only [T2];rw [T1 (by omega),show k - x.length=0 by omega];rfl
theorem Zoj {x z:Bs} {c:UInt8} (hx:x≠[]) (hc:c.toNat<128):Lib.decodeL (x++c::z)=Lib.decodeL x:=by
 have hpos:=TT.2 hx
 rw [Lib.decodeL_N,Lib.decodeL_N,Ud x _ 0 hpos]
 refine ZAL (by rw [Ta];omega) (fun h=>by rw [Ud x _ 1 h]) (fun h=>?_) (fun h=>by rw [Ud x _ 2 h]) (fun h h'=>?_) (fun h=>by rw [Ud x _ 3 h]) (fun h h'=>?_)
 ·rw [Zfp x z c 1 h (by omega)];exact hc
 ·rw [Zfp x z c 2 h' (by omega)];exact hc
 ·rw [Zfp x z c 3 h' (by omega)];exact hc
theorem Zcp {x z:Bs} {c:UInt8} (hx:x≠[]) (hc:c.toNat<128):pk (x++c::z)=pk x:=by
 unfold pk
 rw [Zoj hx hc]
 by_cases g:Lib.decodeL x=(65533,1)
 ·rw [Th (.inr g),Th (.inr g)]
 ·rw [Te (by simp [g]),Te (by simp [hx,g])]
theorem Zfq {z:Bs} {c:UInt8} (hc:c.toNat<128):pk (c::z)=((c.toNat:Int),1):=by
 have e:Lib.decodeL (c::z)=(c.toNat,1):=by
  rw [Lib.decodeL_N];unfold Lib.decodeN;rw [Th (by simpa using hc)];simp
 unfold pk
 rw [e,Te (by simp;omega)]
structure Fol (c:UInt8) (z:Bs):Prop where
 low:c.toNat<128
 let':Zg c.toNat=false
 dig:Zm c.toNat=false
 dot:c=46→Zg (pk z).1=false
theorem Fol.pk {c:UInt8} {z:Bs} (h:Fol c z):Lex.pk (c::z)=((c.toNat:Int),1):=Zfq h.low
theorem Zok {c:UInt8} {z:Bs} (h:Fol c z):∀(f:Nat),ZO f (c::z)=0
 | 0=>rfl
 | f+1=>by
  by_cases h46:(Lex.pk (c::z)).1=46
  ·refine Wd h46 ?_
   rw [h.pk] at h46
   have:c=46:=by
    have h46:(c.toNat:Int)=46:=h46
    exact UInt8.toNat_inj.1 (show c.toNat=(46:UInt8).toNat by have:(46:UInt8).toNat=46:=rfl;omega)
   exact h.dot this
  ·exact Vv h46 (by rw [h.pk];exact h.let') (by rw [h.pk];exact h.dig)
theorem Zfr {c:UInt8} {z:Bs} (h:Fol c z):∀(f:Nat) (x:Bs),x.length<f→∀f',(x++c::z).length<f'→ZO f' (x++c::z)=ZO f x
 | 0,x,hx,f',hf=>by omega
 | f+1,x,hx,0,hf=>by omega
 | f+1,x,hx,f'+1,hf=>by
  by_cases hnil:x=[]
  ·subst hnil
   rw [To,Zok h,ZcX]
  ·have hpk:=Zcp (z:=z) hnil h.low
   rw [Ta] at hf
   have step:∀(hne:(Lex.pk x).1≠-1),(x++c::z).drop (Lex.pk x).2=x.drop (Lex.pk x).2++c::z∧ZO f' (x.drop (Lex.pk x).2++c::z)=ZO f (x.drop (Lex.pk x).2):=fun hne=>by
    obtain ⟨h1,h2,h3⟩:=Zns x hne
    exact ⟨Sk h2,Zfr h f _ (by rw [Tu];omega) f' (by rw [Ta,Tu];omega)⟩
   by_cases h1:(Lex.pk x).1=46
   ·have hlow:=ZlY x (by omega) (by omega)
    have hlet:Zg (Lex.pk ((x++c::z).drop 1)).1=Zg (Lex.pk (x.drop 1)).1:=by
     rw [Sk hlow.1]
     by_cases hd:x.drop 1=[]
     ·rw [hd,To,h.pk,JD];rw [h.let'];rfl
     ·rw [Zcp hd h.low]
    obtain ⟨s1,s2⟩:=step (by omega)
    by_cases h2:Zg (Lex.pk (x.drop 1)).1=true
    ·rw [UG h1 h2,UG (by rw [hpk];exact h1) (by rw [hlet];exact h2),hpk,s1,s2]
    ·have h2:Zg (Lex.pk (x.drop 1)).1=false:=by simpa using h2
     rw [Wd h1 h2,Wd (by rw [hpk];exact h1) (by rw [hlet];exact h2)]
   ·by_cases h2:Zg (Lex.pk x).1=true∨Zm (Lex.pk x).1=true
    ·obtain ⟨s1,s2⟩:=step (J9 h2)
     rw [WV h1 h2,WV (by rw [hpk];exact h1) (by rw [hpk];exact h2),hpk,s1,s2]
    ·simp only [not_or,Bool.not_eq_true] at h2
     rw [Vv h1 h2.1 h2.2,Vv (by rw [hpk];exact h1) (by rw [hpk];exact h2.1) (by rw [hpk];exact h2.2)]
theorem Zcq (p:UInt8→Bool) {c:UInt8} (z:Bs) (hc:p c=false):∀l:Bs,(l++c::z).takeWhile p=l.takeWhile p
 | []=>by simp [T3,hc]
 | b::l=>by
  by_cases hb:p b=true
  ·simp only [Tm,T3,hb,if_true,Zcq p z hc l]
  ·simp [T3,hb]
theorem ZhV {x z:Bs} {a b c:UInt8} (hx:x≠[]) (hb:b≠c):Lib.hasPrefix (x++c::z) [a,b]=Lib.hasPrefix x [a,b]:=by
 match x,hx with
 | [d],_ =>
  have:(b == c)=false:=by simpa using hb
  simp [Lib.hasPrefix,List.isPrefixOf,this]
 | d::e::l,_=>simp [Lib.hasPrefix,List.isPrefixOf]
theorem ZxD {c:UInt8} {z:Bs} (h:Fol c z) (hex:Bool):Wr hex c=false:=by
 have h1:=h.let'
 have h2:=h.dig
 unfold Wr
 rw [h2,Bool.false_or]
 cases hex with
 | false=>rfl
 | true =>
  simp only [Zg,decide_eq_false_iff_not,not_or] at h1
  simp only [TC,decide_eq_false_iff_not,not_or]
  omega
theorem Zlb {x z:Bs} {c:UInt8} (hx:x≠[]) (h:Fol c z):ZG (x++c::z)=ZG x∧Zn (x++c::z)=Zn x:=by
 have h120:(120:UInt8)≠c:=fun g=>by
  have:=h.let'
  rw [← g] at this;revert this;decide
 have hh:Y4 (x++c::z)=Y4 x:=ZhV hx h120
 have hk:(if Y4 x=true then 2 else 0)≤x.length:=by
  split
  ·rename_i g;exact (Z6 g).1
  ·omega
 have hd:Zd (x++c::z)=Zd x:=by
  unfold Zd
  rw [hh,Sk hk,Zcq _ _ (ZxD h _)]
 have hl:Zn (x++c::z)=Zn x:=by unfold Zn;rw [hh,hd]
 refine ⟨?_,hl⟩
 have hle:=ZeG x
 have hp:∀p:Int→Bool,p (-1)=false→p c.toNat=false→p (Lex.pk ((x++c::z).drop (Zn x))).1=p (Lex.pk (x.drop (Zn x))).1:=fun p h1 h2=>by
  rw [Sk hle]
  by_cases hn:x.drop (Zn x)=[]
  ·rw [hn,To,h.pk,JD]
   show p (c.toNat:Int)=p (-1)
   rw [h1,h2]
  ·rw [Zcp hn h.low]
 unfold ZG
 rw [hd,hl,hh,hp Zg (by decide) h.let',hp Zm (by decide) h.dig]
theorem ZqV {r z:Bs} {c:UInt8} {a:Nat} {room:Bool} {t:Tok} (hr:r≠[]) (hc:Fol c z) (hs:Yw (r++c::z)=Yw r) (h:WU a r room=.tok t):WU a (r++c::z) room=.tok t:=by
 have hpos:=TT.2 hr
 have hpk:=Zcp (z:=z) hr hc.low
 rw [ZK] at h ⊢
 rw [hs,hpk]
 split at h
 ·cases h
 ·rename_i g0
  rw [Te g0]
  split at h
  ·cases h
  ·rename_i gr
   rw [Te gr]
   split at h
   ·rename_i g1
    have:=(Zhq r hpos).1
    rw [Th g1,List.take_append_of_le_length this];exact h
   ·rename_i g1
    rw [Te g1]
    split at h
    ·rename_i g2
     rw [Th g2]
     unfold ZaG at h ⊢
     split at h
     ·cases h
     ·rename_i tx l ht
      have ht':Wc (r++c::z)=.ok tx l:=by
       unfold Wc at ht ⊢
       rw [Sk hpos]
       exact ZgI _ _ _ _ _ _ _ ht _ (by rw [Tu,Ta];omega)
      rw [ht'];exact h
    ·rename_i g2
     rw [Te g2]
     split at h
     ·rename_i g3
      rw [Th g3]
      obtain ⟨n1,n2⟩:=Zlb hr hc
      unfold XE at h ⊢
      rw [n1,n2];exact h
     ·rename_i g3
      rw [Te g3]
      have hn:Xg (r++c::z)=Xg r:=Zfr hc _ r (by omega) _ (by omega)
      have hle:Xg r≤r.length:=Zb2 _ _
      rw [hn,List.take_append_of_le_length hle];exact h
theorem Zai:∀(f f':Nat) (r:Bs),r.length<f→r.length<f'→Zs f r=Zs f' r
 | 0,f',r,h,h'=>by omega
 | f+1,0,r,h,h'=>by omega
 | f+1,f'+1,r,h,h'=>by
  have hle:=Zqe r
  cases h1:Lib.hasPrefix (Lib.trimLeftS r ws) [47,47] with
  | true =>
   have hl2:=(Z6 h1).1
   have h22:=Zb0 (c:=10) h1 (by decide) (by decide)
   rw [Ub h1 _ rfl,Ub h1 _ rfl]
   rw [Zai f f' _ (by rw [Tu];split <;> omega) (by rw [Tu];split <;> omega)]
  | false =>
   cases h2:Lib.hasPrefix (Lib.trimLeftS r ws) [47,42] with
   | true =>
    have hl2:=(Z6 h2).1
    by_cases h3:Lib.index ((Lib.trimLeftS r ws).drop 2) [42,47]<0
    ·rw [Uc h1 h2 h3,Uc h1 h2 h3]
    ·have hi:Lib.index ((Lib.trimLeftS r ws).drop 2) [42,47]=((Lib.index ((Lib.trimLeftS r ws).drop 2) [42,47]).toNat:Nat):=by omega
     rw [Jp h1 h2 _ hi,Jp h1 h2 _ hi,Zai f f' _ (by rw [Tu];omega) (by rw [Tu];omega)]
   | false=>rw [VO h1 h2,VO h1 h2]
theorem ZqW {f:Nat} {r:Bs} (h:r.length<f):Zs f r=ZP r:=Zai _ _ r h (by omega)
theorem ZqX (r y:Bs) (h:Lib.trimLeftS r ws=[]):Lib.trimLeftS (r++y) ws=Lib.trimLeftS y ws:=by
 induction r with
 | nil=>rfl
 | cons b r ih =>
  unfold Lib.trimLeftS at *
  by_cases hb:ws.contains b=true
  ·simp only [Tm,SG,hb,if_true] at h ⊢;exact ih h
  ·rw [SG,Te hb] at h;cases h
theorem Zlc {r y:Bs} (h:Lib.trimLeftS r ws=[]):ZP (r++y)=((ZP y).1,r.length+(ZP y).2):=by
 have ht:=ZqX r y h
 have hle:=Zqe y
 obtain ⟨f,hf⟩:∃f,(r++y).length+1=f+1:=⟨_,rfl⟩
 rw [← ZqW (f:=(r++y).length+1) (r:=y) (by rw [Ta];omega)]
 unfold ZP
 rw [hf]
 have hlen:(r++y).length=r.length+y.length:=Ta
 cases h1:Lib.hasPrefix (Lib.trimLeftS y ws) [47,47] with
 | true =>
  rw [Ub (r:=r++y) (by rw [ht];exact h1) _ rfl,Ub h1 _ rfl,ht]
  refine Prod.ext rfl ?_
  simp only;omega
 | false =>
  cases h2:Lib.hasPrefix (Lib.trimLeftS y ws) [47,42] with
  | false =>
   rw [VO (r:=r++y) (by rw [ht];exact h1) (by rw [ht];exact h2),VO h1 h2,ht]
   refine Prod.ext rfl ?_
   simp only;omega
  | true =>
   by_cases h3:Lib.index ((Lib.trimLeftS y ws).drop 2) [42,47]<0
   ·rw [Uc (r:=r++y) (by rw [ht];exact h1) (by rw [ht];exact h2) (by rw [ht];exact h3),Uc h1 h2 h3,ht]
    refine Prod.ext rfl ?_
    simp only;omega
   ·have hi:Lib.index ((Lib.trimLeftS y ws).drop 2) [42,47]=((Lib.index ((Lib.trimLeftS y ws).drop 2) [42,47]).toNat:Nat):=by omega
    rw [Jp (r:=r++y) (by rw [ht];exact h1) (by rw [ht];exact h2) _ (by rw [ht];exact hi),Jp h1 h2 _ hi,ht]
    refine Prod.ext rfl ?_
    simp only;omega
end Go.PM.Lex
end

section
namespace Go.PM.Lex
inductive Pc where
 | blank (b:UInt8) | tok (s:Bs) (t:T0)
def Pc.bs:Pc→Bs | .blank b=>[b] | .tok s _=>s
def Pc.ts:Pc→Ts | .blank _=>[] | .tok _ t=>[t]
def bsP (l:List Pc):Bs:=(l.map Pc.bs).flatten
def tsP (l:List Pc):Ts:=(l.map Pc.ts).flatten
@[simp] theorem bsP_nil:bsP []=[]:=rfl
@[simp] theorem tsP_nil:tsP []=[]:=rfl
@[simp] theorem bsP_cons (p:Pc) (l:List Pc):bsP (p::l)=p.bs++bsP l:=by simp [bsP]
@[simp] theorem tsP_cons (p:Pc) (l:List Pc):tsP (p::l)=p.ts++tsP l:=by simp [tsP]
@[simp] theorem bsP_app (l m:List Pc):bsP (l++m)=bsP l++bsP m:=by simp [bsP]
@[simp] theorem tsP_app (l m:List Pc):tsP (l++m)=tsP l++tsP m:=by simp [tsP]
theorem ZmF (l:List (List Pc)):bsP l.flatten=(l.map bsP).flatten:=by induction l with | nil=>rfl | cons x l ih=>simp [ih]
theorem ZmG (l:List (List Pc)):tsP l.flatten=(l.map tsP).flatten:=by induction l with | nil=>rfl | cons x l ih=>simp [ih]
def Zol:Pc→Bs→Prop
 | .blank b,_=>ws.contains b=true
 | .tok s t,k=>s≠[]∧ZP (s++k)=(true,0)∧∀a,WU a (s++k) true=.tok ⟨t.kind,t.text,t.n,a,a+s.length⟩
def VF:List Pc→Bs→Prop
 | [],_=>True
 | p::l,k=>Zol p (bsP l++k)∧VF l k
theorem Yg (l m:List Pc) (k:Bs):VF (l++m) k↔VF l (bsP m++k)∧VF m k:=by
 induction l with
 | nil=>simp [VF]
 | cons p l ih=>simp only [Tm,VF,ih,bsP_app,Tg,and_assoc]
theorem ZAM {b:UInt8} (hb:ws.contains b=true) (g:Nat) (most:Int) (a:Nat) (z:Bs):XS (g+1) most a (b::z)=XS (g+1) most (a+1) z:=by
 have h:ZP ([b]++z)=((ZP z).1,1+(ZP z).2):=Zlc (by unfold Lib.trimLeftS;rw [SG,Th hb];rfl)
 rw [Tm,To] at h
 rw [XS,XS,h]
 simp only
 rw [show a+(1+(ZP z).2)=a+1+(ZP z).2 by omega,show (b::z).drop (1+(ZP z).2)=z.drop (ZP z).2 by rw [Nat.add_comm,List.drop_succ_cons]]
theorem ZqY {a:Nat} {r:Bs} {t:Tok} (h:WU a r true=.tok t):WU a r false=.bad a 3:=by
 rw [ZK] at h ⊢
 split at h
 ·cases h
 ·rename_i g;rw [Te g,Th rfl]
theorem Zdb:∀(ps:List Pc) (f:Nat) (most:Int) (a:Nat),VF ps []→(bsP ps).length<f →
  (((tsP ps).length:Int)≤most→∃l p,XS f most a (bsP ps)=(l,(p,0))∧l.map Tok.t0=tsP ps)∧(most<(tsP ps).length→0≤most→∃l p,XS f most a (bsP ps)=(l,(p,3)))
 | ps,0,most,a,hv,hf=>by omega
 | [],f+1,most,a,hv,hf=>by
  refine ⟨fun _=>⟨[],0,?_,rfl⟩,fun h h2=>by simp at h;omega⟩
  rw [bsP_nil,XS,ZnZ];simp
 | .blank b::ps,f+1,most,a,hv,hf=>by
  obtain ⟨h1,h2⟩:=hv
  rw [bsP_cons] at hf ⊢
  simp only [Pc.bs,Tm,To,Tc] at hf ⊢
  rw [ZAM h1]
  simp only [tsP_cons,Pc.ts,To]
  exact Zdb ps (f+1) most (a+1) h2 (by omega)
 | .tok s t::ps,f+1,most,a,hv,hf=>by
  obtain ⟨⟨h1,h2,h3⟩,h4⟩:=hv
  simp only [TA] at h2 h3
  have hpos:=TT.2 h1
  rw [bsP_cons] at hf ⊢
  simp only [Pc.bs,Ta] at hf ⊢
  have hne:¬s++bsP ps=[]:=by simp [h1]
  have hl:(tsP (.tok s t::ps)).length=(tsP ps).length+1:=by simp [Pc.ts]
  rw [XS,h2]
  simp only [Bool.true_eq_false,if_false,SH,SB]
  rw [Te hne,hl]
  obtain ⟨i1,i2⟩:=Zdb ps f (most - 1) (a+s.length) h4 (by omega)
  have hd:(s++bsP ps).drop (a+s.length - a)=bsP ps:=by rw [Ss,List.drop_left]
  refine ⟨fun hm=>?_,fun hm h0=>?_⟩
  ·rw [SC (by omega),h3 a]
   simp only
   rw [hd]
   obtain ⟨l,p,e1,e2⟩:=i1 (by omega)
   rw [e1]
   exact ⟨_,p,rfl,by simp [e2,Tok.t0,Pc.ts]⟩
  ·by_cases hm0:0<most
   ·rw [SC hm0,h3 a]
    simp only
    rw [hd]
    obtain ⟨l,p,e1⟩:=i2 (by omega) (by omega)
    rw [e1]
    exact ⟨_,p,rfl⟩
   ·rw [decide_eq_false hm0,ZqY (h3 a)]
    exact ⟨_,_,rfl⟩
def Zom (k:Bs):Prop:=k=[]∨∃c z,k=c::z∧Fol c z
def nmP (s:Bs):Pc:=.tok s (nmT s)
def sgP (s:Bs):Pc:=.tok s (sgT s)
theorem ZhW {b:UInt8} (hb:ws.contains b=false) (z:Bs):Lib.trimLeftS (b::z) ws=b::z:=by
 unfold Lib.trimLeftS;rw [SG,Te (by rw [hb];decide)]
theorem ZgN {x y b:UInt8} (h:x≠b) (z:Bs):Lib.hasPrefix (b::z) [x,y]=false:=by simp [Lib.hasPrefix,List.isPrefixOf,h]
theorem Zaj {x y b c:UInt8} (h:y≠c) (z:Bs):Lib.hasPrefix (b::c::z) [x,y]=false:=by simp [Lib.hasPrefix,List.isPrefixOf,h]
theorem ZqZ {b:UInt8} (hb:ws.contains b=false) (z:Bs) (h:b=47→∀c z',z=c::z'→c≠47∧c≠42):ZP (b::z)=(true,0):=by
 have hp:∀c,c=47∨c=42→Lib.hasPrefix (b::z) [47,c]=false:=fun c hc=>by
  cases z with
  | nil=>simp [Lib.hasPrefix,List.isPrefixOf]
  | cons d z' =>
   by_cases hb47:b=47
   ·have:=h hb47 d z' rfl
    rcases hc with rfl | rfl
    ·exact Zaj this.1.symm _
    ·exact Zaj this.2.symm _
   ·exact ZgN (fun e=>hb47 e.symm) _
 unfold ZP
 rw [VO (by rw [ZhW hb];exact hp 47 (.inl rfl)) (by rw [ZhW hb];exact hp 42 (.inr rfl)),ZhW hb,Nat.sub_self]
theorem UW {b:UInt8} (hb:ones.contains b=false) (z:Bs):Yw (b::z)=0:=by
 have h2:∀x y:UInt8,x∈ones→Lib.hasPrefix (b::z) [x,y]=false:=fun x y hx=>by
  have:¬x=b:=fun e=>by rw [e] at hx;simp at hb;exact hb hx
  simp [Lib.hasPrefix,List.isPrefixOf,this]
 unfold Yw
 rw [Te,Te]
 ·simpa using hb
 ·simp only [twos,SJ,List.any_nil]
  rw [h2 58 _ (by decide),h2 33 _ (by decide),h2 60 _ (by decide),h2 62 _ (by decide),h2 60 _ (by decide)]
  simp
theorem ZmH {s:Bs} (h:W3 s=true):∃b z,s=b::z∧ones.contains b=false∧ws.contains b=false∧b≠47∧b≠45∧b≠61∧b≠58∧b≠42:=by
 simp only [W3,Tj] at h
 cases s with
 | nil=>rw [JD] at h;exact absurd h.1 (by decide)
 | cons b z =>
  refine ⟨b,z,rfl,?_⟩
  by_cases hb:b.toNat<128
  ·have h1:=h.1
   rw [Zfq hb] at h1
   have hk:∀n:Fin 128,Zg (n.val:Int)=true→ones.contains (UInt8.ofNat n.val)=false∧ws.contains (UInt8.ofNat n.val)=false∧UInt8.ofNat n.val≠47∧UInt8.ofNat n.val≠45∧UInt8.ofNat n.val≠61∧UInt8.ofNat n.val≠58∧UInt8.ofNat n.val≠42:=by decide +kernel
   have:=hk ⟨b.toNat,hb⟩ h1
   simpa using this
  ·have hk:∀n:Fin 256,128≤n.val→ones.contains (UInt8.ofNat n.val)=false∧ws.contains (UInt8.ofNat n.val)=false∧UInt8.ofNat n.val≠47∧UInt8.ofNat n.val≠45∧UInt8.ofNat n.val≠61∧UInt8.ofNat n.val≠58∧UInt8.ofNat n.val≠42:=by decide +kernel
   have:=hk ⟨b.toNat,b.toNat_lt⟩ (by simp only;omega)
   simpa using this
theorem Zld {s:Bs} {t:T0} {k:Bs} (hs:s≠[]) (hk:Zom k) (hsg:∀k,Yw (s++k)=0) (hb:∀k,ZP (s++k)=(true,0)) (h:∀a,WU a s true=.tok ⟨t.kind,t.text,t.n,a,a+s.length⟩):Zol (.tok s t) k:=by
 refine ⟨hs,hb k,fun a=>?_⟩
 rcases hk with rfl | ⟨c,z,rfl,hc⟩
 ·rw [TA];exact h a
 ·exact ZqV hs hc (by have:=hsg [];rw [TA] at this;rw [hsg,this]) (h a)
theorem YM {s:Bs} (h:W3 s=true) {k:Bs} (hk:Zom k):Zol (nmP s) k:=by
 obtain ⟨b,z,rfl,h1,h2,h3,_⟩:=ZmH h
 simp only [W3,Tj,TJ] at h
 refine Zld (by simp) hk (fun k=>UW h1 _) (fun k=>ZqZ h2 _ fun e=>absurd e h3) fun a=>?_
 have hl:=isLetter_iff.1 h.1
 have h34:(pk (b::z)).1≠34:=by omega
 have hdig:Zm (pk (b::z)).1=false:=by
  cases e:Zm (pk (b::z)).1 with
  | false=>rfl
  | true=>have:=isDigit_iff.1 e;omega
 rw [ZK,UW h1,Te (by rw [h.1];simp),Te (by simp),Te (by omega),Te h34,Te (by rw [hdig];simp),h.2,Sd]
 rfl
def SgK (w k:Bs):Prop:=(w∈twos∨w∈ones.map fun b=>[b])∧((w≠[58]∧w≠[33]∧w≠[60]∧w≠[62]∧w≠[47])∨k=[]∨∃c z,k=c::z∧c≠45∧c≠61∧c≠58∧c≠47∧c≠42)
theorem Zs9 (k:Bs):∀w∈twos,Yw (w++k)=2:=by
 intro w hw
 have:twos.any (Lib.hasPrefix (w++k))=true:=by
  rw [Sz]
  exact ⟨w,hw,by unfold Lib.hasPrefix;rw [Sw];exact List.prefix_append _ _⟩
 rw [Yw,Th this]
theorem Zta {b:UInt8} (hb:b∈ones) {k:Bs} (h:(b≠58∧b≠33∧b≠60∧b≠62)∨k=[]∨∃c z,k=c::z∧c≠45∧c≠61∧c≠58):Yw (b::k)=1:=by
 have h1:twos.any (Lib.hasPrefix (b::k))=false:=by
  simp only [twos,SJ,List.any_nil,Sb]
  rcases h with ⟨h1,h2,h3,h4⟩ | rfl | ⟨c,z,rfl,h1,h2,h3⟩
  ·exact ⟨ZgN h1.symm _,ZgN h2.symm _,ZgN h3.symm _,ZgN h4.symm _,ZgN h3.symm _,trivial⟩
  ·simp [Lib.hasPrefix,List.isPrefixOf]
  ·exact ⟨Zaj h1.symm _,Zaj h2.symm _,Zaj h2.symm _,Zaj h2.symm _,Zaj h3.symm _,trivial⟩
 rw [Yw,Te (by rw [h1];simp),Th (by simpa using hb)]
theorem ZjE {r:Bs} {n:Nat} (h:Yw r=n) (hn:0<n) (a:Nat):WU a r true=.tok ⟨4,r.take n,0,a,a+n⟩:=by
 rw [ZK,h,Te (by omega),Te (by simp),Th hn]
theorem ZxE {w k:Bs} (h:SgK w k):Zol (sgP w) k:=by
 obtain ⟨hw,hk⟩:=h
 rcases hw with hw | hw
 ·have hb:∀w∈twos,w.length=2∧ws.contains (w.getD 0 0)=false∧w.getD 0 0≠47:=by decide +kernel
  obtain ⟨h0,h1,h2⟩:=hb w hw
  obtain ⟨b,c,rfl⟩:∃b c,w=[b,c]:=by match w,h0 with | [b,c],_=>exact ⟨b,c,rfl⟩
  refine ⟨by simp,ZqZ h1 _ fun e=>absurd e h2,fun a=>?_⟩
  rw [ZjE (Zs9 k _ hw) (by decide)]
  rfl
 ·obtain ⟨b,hb,rfl⟩:=Sf.1 hw
  have hws:∀b∈ones,ws.contains b=false:=by decide +kernel
  refine ⟨by simp,ZqZ (hws b hb) _ fun e c z hz=>?_,fun a=>?_⟩
  ·rcases hk with hk | hk | ⟨c',z',hk,hc⟩
   ·exact absurd (by rw [e]) hk.2.2.2.2
   ·have hz:k=c::z:=hz
    rw [hk] at hz;cases hz
   ·have hz:k=c::z:=hz
    rw [hk] at hz;cases hz;exact ⟨hc.2.2.2.1,hc.2.2.2.2⟩
  ·rw [Tm,To,ZjE (Zta hb ?_) (by decide)]
   ·rfl
   ·rcases hk with hk | hk | ⟨c,z,hk,hc⟩
    ·exact .inl ⟨fun e=>hk.1 (by rw [e]),fun e=>hk.2.1 (by rw [e]),fun e=>hk.2.2.1 (by rw [e]),fun e=>hk.2.2.2.1 (by rw [e])⟩
    ·exact .inr (.inl hk)
    ·exact .inr (.inr ⟨c,z,hk,hc.1,hc.2.1,hc.2.2.1⟩)
theorem ZAN {s q:Bs} (h:Vj s=some q) {k:Bs} (hk:Zom k):Zol (.tok q ⟨3,s,0⟩) k:=by
 unfold Vj at h
 split at h
 ·rename_i hv
  cases hq:W2 (s.length+1) s [34] with
  | none=>rw [hq] at h;cases h
  | some x =>
   rw [hq] at h
   cases h
   obtain ⟨m,rfl,ht⟩:=ZhL _ _ _ _ hq (.inr hv) (by omega)
   have hq':([34]++m)++[34]=(34::(m++[34]):Bs):=rfl
   show Zol (.tok (([34]++m)++[34]) ⟨3,s,0⟩) k
   rw [hq']
   have hlen:(34::(m++[34]):Bs).length=m.length+2:=by simp
   have htext:Wc (34::(m++[34]))=.ok s (m.length+2):=by
    unfold Wc
    rw [List.drop_succ_cons,SB,ht _ [] 1 (by rw [hlen];omega)]
    simp only [To,TR.ok.injEq,true_and];omega
   have hpk:pk (34::(m++[34]))=(34,1):=Zfq (by decide)
   refine Zld (by simp) hk (fun k=>UW (by decide) _) (fun k=>ZqZ (by decide) _ fun e=>absurd e (by decide)) fun a=>?_
   rw [ZK,UW (by decide),hpk,Te (by simp),Te (by simp),Te (by omega),Th rfl,ZaG,htext,hlen]
 ·cases h
theorem Zon:∀d:Fin 16,Zhj (Zj0 d.val)=d.val∧Wr true (Zj0 d.val)=true∧(d.val<10→Wr false (Zj0 d.val)=true)∧Zj0 d.val≠120:=by decide +kernel
theorem Ztb (base:Nat) (l:Bs) (b:UInt8):Vn base (l++[b])=Vn base l * base+Zhj b:=by simp [Vn]
theorem UX {base:Nat} (hb:base=10∨base=16):∀(f n:Nat),n<f→Vn base (ZbB base f n)=n∧(∀b∈ZbB base f n,Wr (decide (base=16)) b=true∧b≠120)∧ZbB base f n≠[]∧∀k,n<base ^ (k+1)→(ZbB base f n).length≤k+1
 | 0,n,h=>by omega
 | f+1,n,h=>by
  have hd:∀d,d<base→Zhj (Zj0 d)=d∧Wr (decide (base=16)) (Zj0 d)=true∧Zj0 d≠120:=fun d hd=>by
   obtain ⟨h1,h2,h3,h4⟩:=Zon ⟨d,by omega⟩
   refine ⟨h1,?_,h4⟩
   rcases hb with rfl | rfl
   ·exact h3 hd
   ·exact h2
  rw [ZbB]
  by_cases c:n<base
  ·rw [Th c]
   obtain ⟨h1,h2,h3⟩:=hd n c
   refine ⟨by simpa [Vn] using h1,fun b hb=>?_,by simp,fun k _=>by simp⟩
   rw [Sv.1 hb];exact ⟨h2,h3⟩
  ·rw [Te c]
   have hlt:n / base<n:=Nat.div_lt_self (by omega) (by omega)
   obtain ⟨i1,i2,i3,i4⟩:=UX hb f (n / base) (by omega)
   obtain ⟨h1,h2,h3⟩:=hd (n % base) (Nat.mod_lt _ (by omega))
   refine ⟨?_,fun b hb=>?_,by simp,fun k hk=>?_⟩
   ·rw [Ztb,i1,h1,Nat.mul_comm];exact Nat.div_add_mod n base
   ·rcases TX.1 hb with hb | hb
    ·exact i2 b hb
    ·rw [Sv.1 hb];exact ⟨h2,h3⟩
   ·cases k with
    | zero=>simp at hk;omega
    | succ k =>
     have:n / base<base ^ (k+1):=by
      rw [Nat.div_lt_iff_lt_mul (by omega)]
      rw [Nat.pow_succ] at hk;exact hk
     have:=i4 k this
     exact m91
theorem Up (p:UInt8→Bool):∀l:Bs,(∀b∈l,p b=true)→l.takeWhile p=l
 | [],_=>rfl
 | x::l,h=>by rw [T3,Th (h x (by simp)),Up p l fun b hb=>h b (Tp _ hb)]
theorem Zq0 {b:UInt8} (h:Wr false b=true):b.toNat<128∧Zm (b.toNat:Int)=true∧ones.contains b=false∧ws.contains b=false∧b≠47:=by
 have hk:∀n:Fin 256,Wr false (UInt8.ofNat n.val)=true→n.val<128∧Zm (n.val:Int)=true∧ones.contains (UInt8.ofNat n.val)=false∧ws.contains (UInt8.ofNat n.val)=false∧UInt8.ofNat n.val≠47:=by decide +kernel
 have:=hk ⟨b.toNat,b.toNat_lt⟩
 simp only [UInt8.ofNat_toNat] at this
 exact this h
theorem ZjF {r:Bs} {b:UInt8} {z:Bs} {v:Nat} (hr:r=b::z) (hb:Wr false b=true) (hn:ZG r=some v) (hl:Zn r=r.length) {k:Bs} (hk:Zom k) {n:Int} (hw:IntKind.i64.wrap (v:Int)=n):Zol (.tok r ⟨2,[],n⟩) k:=by
 subst hr
 obtain ⟨h1,h2,h3,h4,h5⟩:=Zq0 hb
 refine Zld (by simp) hk (fun k=>UW h3 _) (fun k=>ZqZ h4 _ fun e=>absurd e h5) fun a=>?_
 have hd:=isDigit_iff.1 h2
 rw [ZK,UW h3,Zfq h1,Te (by simp only [h2];simp),Te (by simp),Te (by omega),Te (by simp only;omega),Th h2,XE,hn,hl]
 simp only [hw]
theorem ZAO {n:Int} (h0:-9223372036854775808≤n) (h1:n<9223372036854775808) {k:Bs} (hk:Zom k):Zol (.tok (Zd1 n) ⟨2,[],n⟩) k:=by
 unfold Zd1
 by_cases hn:n<0
 ·rw [Th hn]
  obtain ⟨m,hm⟩:∃m:Nat,(n+18446744073709551616).toNat=m:=⟨_,rfl⟩
  rw [hm]
  have hm2:m<18446744073709551616:=by omega
  obtain ⟨e1,e2,e3,e4⟩:Vn 16 (Yx 16 m)=m∧(∀b∈Yx 16 m,Wr (decide (16=16)) b=true∧b≠120)∧Yx 16 m≠[]∧∀k,m<16 ^ (k+1)→(Yx 16 m).length≤k+1:=UX (base:=16) (.inr rfl) (m+1) m (by omega)
  have e4:=e4 15 (by have:(16:Nat) ^ (15+1)=18446744073709551616:=(by decide);omega)
  have hx:Y4 ([48,120]++Yx 16 m)=true:=by simp [Y4,Lib.hasPrefix,List.isPrefixOf]
  have hd:Zd ([48,120]++Yx 16 m)=Yx 16 m:=by
   unfold Zd
   rw [hx]
   simp only [if_true]
   show (Yx 16 m).takeWhile (Wr true)=Yx 16 m
   exact Up _ _ fun b hb=>(e2 b hb).1
  have hl:Zn ([48,120]++Yx 16 m)=([48,120]++Yx 16 m).length:=by
   rw [Zn,hx,hd];simp [Yx];omega
  refine ZjF (r:=[48,120]++Yx 16 m) (v:=m) rfl (by decide) ?_ hl hk ?_
  ·rw [ZG,hd,hx]
   simp only [if_true]
   rw [Te e3,Te (by rw [e1];omega),Te,e1]
   rw [hl,List.drop_length,JD]
   rintro (g | g | ⟨_,g⟩)
   ·revert g;decide
   ·revert g;decide
   ·omega
  ·rw [show (m:Int)=n+18446744073709551616 by omega]
   exact m141
 ·rw [Te hn]
  obtain ⟨m,rfl⟩:∃m:Nat,n=m:=⟨n.toNat,by omega⟩
  rw [TN]
  obtain ⟨e1,e2,e3,e4⟩:Vn 10 (Yx 10 m)=m∧(∀b∈Yx 10 m,Wr (decide (10=16)) b=true∧b≠120)∧Yx 10 m≠[]∧∀k,m<10 ^ (k+1)→(Yx 10 m).length≤k+1:=UX (base:=10) (.inl rfl) (m+1) m (by omega)
  have hx:Y4 (Yx 10 m)=false:=by
   unfold Y4 Lib.hasPrefix
   match hq:Yx 10 m with
   | []=>rfl
   | [a]=>simp [List.isPrefixOf]
   | a::b::l =>
    have:b≠120:=(e2 b (by rw [hq];simp)).2
    exact Zaj this.symm l
  have hd:Zd (Yx 10 m)=Yx 10 m:=by
   unfold Zd
   rw [hx]
   simp only [Tt,if_false,SB]
   exact Up _ _ fun b hb=>(e2 b hb).1
  have hl:Zn (Yx 10 m)=(Yx 10 m).length:=by rw [Zn,hx,hd];simp
  obtain ⟨b,z,hbz⟩:∃b z,Yx 10 m=b::z:=by
   match hq:Yx 10 m with
   | []=>exact absurd hq e3
   | a::l=>exact ⟨a,l,rfl⟩
  refine ZjF (r:=Yx 10 m) (v:=m) hbz (e2 b (by rw [hbz];simp)).1 ?_ hl hk ?_
  ·unfold ZG
   rw [hd,hx]
   simp only [Tt,if_false]
   rw [Te e3,Te (by rw [e1];omega),Te,e1]
   rw [hl,List.drop_length,JD]
   rintro (g | g | ⟨g,_⟩)
   ·revert g;decide
   ·revert g;decide
   ·cases g
  ·exact m141
end Go.PM.Lex
end

section
namespace Go.PM.Lex
def spP:Pc:=.blank 32
def nlP:Pc:=.blank 10
@[simp] theorem bs_sp:spP.bs=[32]:=rfl
@[simp] theorem bs_nl:nlP.bs=[10]:=rfl
@[simp] theorem ts_sp:spP.ts=[]:=rfl
@[simp] theorem ts_nl:nlP.ts=[]:=rfl
@[simp] theorem bs_nm (s:Bs):(nmP s).bs=s:=rfl
@[simp] theorem bs_sg (s:Bs):(sgP s).bs=s:=rfl
@[simp] theorem ts_nm (s:Bs):(nmP s).ts=[nmT s]:=rfl
@[simp] theorem ts_sg (s:Bs):(sgP s).ts=[sgT s]:=rfl
@[simp] theorem bs_tok (s:Bs) (t:T0):(Pc.tok s t).bs=s:=rfl
@[simp] theorem ts_tok (s:Bs) (t:T0):(Pc.tok s t).ts=[t]:=rfl
theorem Yf (k:Bs):Zol spP k:=by show ws.contains 32=true;decide
theorem Zle (k:Bs):Zol nlP k:=by show ws.contains 10=true;decide
def Zcr (sep:List Pc):List (List Pc)→List Pc
 | []=>[]
 | x::l=>sep++(x++Zcr sep l)
def WH (sep:List Pc):List (List Pc)→List Pc
 | []=>[]
 | x::l=>x++Zcr sep l
def cmP:List Pc:=[sgP [44],spP]
def ZBV:List Pc:=[spP,sgP [124],spP]
theorem ZdJ (sep:Bs):∀(x:Bs) (l:List Bs),Zf sep (x::l)=x++(l.map fun y=>sep++y).flatten
 | x,[]=>by simp [Zf]
 | x,y::l=>by rw [Zf,ZdJ sep y l];simp;intro h;cases h
theorem ZjG (sep:List Pc):∀l:List (List Pc),bsP (Zcr sep l)=((l.map bsP).map fun y=>bsP sep++y).flatten
 | []=>rfl
 | x::l=>by simp [Zcr,ZjG sep l]
theorem ZjH {sep:List Pc} {w:Bs} (h:tsP sep=[sgT w]):∀l:List (List Pc),tsP (Zcr sep l)=US w (l.map tsP)
 | []=>rfl
 | x::l=>by simp [Zcr,US,ZjH h l,h]
theorem Vx (sep:List Pc) (l:List (List Pc)):bsP (WH sep l)=Zf (bsP sep) (l.map bsP):=by
 cases l with
 | nil=>rfl
 | cons x l=>rw [Tw,ZdJ,WH,bsP_app,ZjG]
theorem Vy {sep:List Pc} {w:Bs} (h:tsP sep=[sgT w]) (l:List (List Pc)):tsP (WH sep l)=Z3 w (l.map tsP):=by
 cases l with
 | nil=>rfl
 | cons x l=>rw [Tw,Z3,WH,tsP_app,ZjH h]
theorem ZjI {sep:List Pc} {Ok:Bs→Prop} (hsep:∀x,VF sep x) (hOk:∀x,Ok (bsP sep++x)):∀(l:List (List Pc)) (k:Bs),Ok k→(∀x∈l,∀k,Ok k→VF x k)→VF (Zcr sep l) k∧Ok (bsP (Zcr sep l)++k)
 | [],k,hk,h=>⟨trivial,hk⟩
 | x::l,k,hk,h=>by
  obtain ⟨h1,h2⟩:=ZjI hsep hOk l k hk fun y hy=>h y (Tp _ hy)
  rw [Zcr]
  refine ⟨?_,?_⟩
  ·rw [Yg,Yg]
   exact ⟨hsep _,h x (by simp) _ h2,h1⟩
  ·rw [bsP_app,Tg];exact hOk _
theorem WI {sep:List Pc} {Ok:Bs→Prop} (hsep:∀x,VF sep x) (hOk:∀x,Ok (bsP sep++x)) {l:List (List Pc)} {k:Bs} (hk:Ok k) (h:∀x∈l,∀k,Ok k→VF x k):VF (WH sep l) k:=by
 cases l with
 | nil=>exact trivial
 | cons x l =>
  obtain ⟨h1,h2⟩:=ZjI hsep hOk l k hk fun y hy=>h y (Tp _ hy)
  rw [WH,Yg]
  exact ⟨h x (by simp) _ h2,h1⟩
def Aft (k:Bs):Prop:=k=[]∨(∃c z,k=c::z∧c∈([32,41,44,93]:Bs))∨k=[46]∨∃z,k=46::10::z
theorem Ug {c:UInt8} (hc:c∈([32,41,44,93]:Bs)) (z:Bs):Aft (c::z):=.inr (.inl ⟨c,z,rfl,hc⟩)
theorem ZAP {c:UInt8} (h:c.toNat<128∧Zg c.toNat=false∧Zm c.toNat=false∧c≠46) (z:Bs):Fol c z:=⟨h.1,h.2.1,h.2.2.1,fun e=>absurd e h.2.2.2⟩
def Ztc:Bs:=[32,41,44,93,58,40,10,60,62,125,123]
theorem ZB {c:UInt8} (hc:c∈Ztc) (z:Bs):Zom (c::z):=by
 have h:∀c∈Ztc,c.toNat<128∧Zg c.toNat=false∧Zm c.toNat=false∧c≠46:=by decide
 exact .inr ⟨c,z,rfl,ZAP (h c hc) z⟩
theorem ZxF {k:Bs} (h:Aft k):Zom k:=by
 rcases h with rfl | ⟨c,z,rfl,hc⟩ | rfl | ⟨z,rfl⟩
 ·exact .inl rfl
 ·have h:∀c∈([32,41,44,93]:Bs),c∈Ztc:=by decide
  exact ZB (h c hc) z
 ·exact .inr ⟨46,[],rfl,by decide,by decide,by decide,fun _=>by rw [JD];decide⟩
 ·exact .inr ⟨46,10::z,rfl,by decide,by decide,by decide,fun _=>by rw [Zfq (by decide)];decide⟩
theorem Yn {s:Bs} (h:Yk s=true):W3 s=true:=by
 simp only [Yk,Tj] at h;exact h.1
def Zlf:List Bs:=[[40],[41],[91],[93],[123],[125],[44],[46],[61],[43],[45],[42],[37],[124],[36],[126],[58,45],[33,61],[60,61],[62,61],[60,58]]
theorem Z4 {w:Bs} (hw:w∈Zlf) (k:Bs):Zol (sgP w) k:=by
 have h:∀w∈Zlf,(w∈twos∨w∈ones.map fun b=>[b])∧(w≠[58]∧w≠[33]∧w≠[60]∧w≠[62]∧w≠[47]):=by decide
 obtain ⟨h1,h2⟩:=h w hw
 exact ZxE ⟨h1,.inl h2⟩
theorem ZbF {w:Bs} (hw:w∈twos∨w∈ones.map fun b=>[b]) {c:UInt8} (hc:c=32∨c=10) (z:Bs):Zol (sgP w) (c::z):=by
 refine ZxE ⟨hw,.inr (.inr ⟨c,z,rfl,?_⟩)⟩
 rcases hc with rfl | rfl <;> decide
theorem Zq1 {w:Bs} (hw:w∈ones.map fun b=>[b]) {s:Bs} (hs:W3 s=true) (k:Bs):Zol (sgP w) (s++k):=by
 obtain ⟨b,z,rfl,h1,h2,h3,h4,h5,h6,h7⟩:=ZmH hs
 exact ZxE ⟨.inr hw,.inr (.inr ⟨b,z++k,rfl,h4,h5,h6,h3,h7⟩)⟩
theorem Zoo (k:Bs):VF cmP k:=⟨Z4 (by decide) _,Yf _,trivial⟩
def opP (op:Nat):Pc:=if 15≤op∧op≤19 then nmP (ZE op) else sgP (ZE op)
def ZhX (want:Nat) (p:Nat×List Pc):List Pc:=if p.1<want then sgP [40]::(p.2++[sgP [41]]) else p.2
def ZrQ (w1 w2:Nat) (mid:List Pc):List (Nat×List Pc)→List Pc
 | []=>[]
 | [a]=>ZhX w1 a
 | a::b::_=>ZhX w1 a++(mid++ZhX w2 b)
def brP (fr fin:Bs) (ps:List (List Pc)):List Pc:=sgP fr::(WH cmP ps++[sgP fin])
def ZxG (op:Nat) (text:Bs) (n:Int) (ps:List (Nat×List Pc)):List Pc :=
 if Zl op<5 then ZrQ (Zl op) (Zl op+1) [spP,opP op,spP] ps
 else if Zl op=5 then sgP (ZE op)::ZrQ 5 5 [] ps
 else if ZE op≠[] then nmP (ZE op)::brP [40] [41] (ps.map Prod.snd)
 else if op=6 then brP [91] [93] (ps.map Prod.snd)
 else if op=7 then sgP [36]::nmP text::(if ps.length=0 then [] else brP [40] [41] (ps.map Prod.snd))
 else if op=3 then [.tok (Zd1 n) ⟨2,[],n⟩]
 else if op=4 then [.tok (Zqf text) ⟨3,text,0⟩]
 else if op=5 then [nmP [110,105,108]]
 else if op=2 then [nmP [95]]
 else [nmP text]
mutual
def exP:Ex→List Pc
 | .mk op text n args _=>ZxG op text n (Zfs args)
def Zfs:List Ex→List (Nat×List Pc)
 | []=>[]
 | e::l=>(Zl (opE e),exP e)::Zfs l
end
theorem Ztd (l:List Ex):Zfs l=l.map fun e=>(Zl (opE e),exP e):=by induction l with | nil=>rfl | cons x l ih=>simp [Zfs,ih]
theorem ZAQ (op:Nat) (t:Bs) (n:Int) (l:List Ex) (a:Nat):exP (.mk op t n l a)=ZxG op t n (Zfs l):=by rw [exP]
def bs2 (p:Nat×List Pc):Nat×Bs:=(p.1,bsP p.2)
def ts2 (p:Nat×List Pc):Nat×Ts:=(p.1,tsP p.2)
theorem ZmI (w:Nat) (p:Nat×List Pc):bsP (ZhX w p)=Zqg w (bs2 p):=by
 unfold ZhX Zqg bs2
 simp only
 split <;> simp
theorem ZmJ (w:Nat) (p:Nat×List Pc):tsP (ZhX w p)=Zj4 w (ts2 p):=by
 unfold ZhX Zj4 ts2
 simp only
 split <;> simp
theorem Zq2 (w1 w2:Nat) (mid:List Pc) (l:List (Nat×List Pc)):bsP (ZrQ w1 w2 mid l)=exA w1 w2 (bsP mid) (l.map bs2):=by
 match l with
 | []=>rfl
 | [a]=>simp [ZrQ,exA,ZmI]
 | a::b::l=>simp [ZrQ,exA,ZmI]
theorem Zq3 (w1 w2:Nat) (mid:List Pc) (l:List (Nat×List Pc)):tsP (ZrQ w1 w2 mid l)=ZAn w1 w2 (tsP mid) (l.map ts2):=by
 match l with
 | []=>rfl
 | [a]=>simp [ZrQ,ZAn,ZmJ]
 | a::b::l=>simp [ZrQ,ZAn,ZmJ]
theorem Zq4:bsP cmP=cmm:=rfl
theorem Zq5:tsP cmP=[sgT [44]]:=rfl
theorem Zft (fr fin:Bs) (l:List (List Pc)):bsP (brP fr fin l)=fr++(Zf cmm (l.map bsP)++fin):=by simp [brP,Vx,Zq4]
theorem Zfu (fr fin:Bs) (l:List (List Pc)):tsP (brP fr fin l)=brK fr fin (l.map tsP):=by simp [brP,brK,Vy Zq5]
theorem ZAR (op:Nat):(opP op).bs=ZE op:=by unfold opP;split <;> rfl
theorem ZAS (op:Nat):(opP op).ts=[opT op]:=by unfold opP opT;split <;> rfl
theorem Zlg (l:List (Nat×List Pc)):(l.map Prod.snd).map bsP=(l.map bs2).map Prod.snd:=by rw [TL,TL];rfl
theorem Zlh (l:List (Nat×List Pc)):(l.map Prod.snd).map tsP=(l.map ts2).map Prod.snd:=by rw [TL,TL];rfl
theorem ZxH (op:Nat) (t:Bs) (n:Int) (l:List (Nat×List Pc)):bsP (ZxG op t n l)=exN op t n (l.map bs2):=by
 unfold ZxG exN
 split
 ·rw [Zq2];simp [ZAR]
 split
 ·rw [bsP_cons,Zq2];rfl
 split
 ·rw [bsP_cons,Zft,Zlg];rfl
 split
 ·rw [Zft,Zlg]
 split
 ·rw [bsP_cons,bsP_cons,Tf]
  split
  ·rfl
  ·rw [Zft,Zlg];rfl
 split
 ·simp
 split
 ·simp
 split
 ·simp
 split
 ·simp
 ·simp
theorem ZxI (op:Nat) (t:Bs) (n:Int) (l:List (Nat×List Pc)):tsP (ZxG op t n l)=Zmu op t n (l.map ts2):=by
 unfold ZxG Zmu
 split
 ·rw [Zq3];simp [ZAS]
 split
 ·rw [tsP_cons,Zq3];rfl
 split
 ·rw [tsP_cons,Zfu,Zlh];rfl
 split
 ·rw [Zfu,Zlh]
 split
 ·rw [tsP_cons,tsP_cons,Tf]
  split
  ·rfl
  ·rw [Zfu,Zlh];rfl
 split
 ·simp
 split
 ·simp
 split
 ·simp
 split
 ·simp
 ·simp
mutual
theorem ZmK:∀e:Ex,bsP (exP e)=exT e
 | .mk op t n l a=>by rw [exP,exT,ZxH,ZmL l]
theorem ZmL:∀l:List Ex,(Zfs l).map bs2=Zin l
 | []=>by rw [Zfs,Zin];rfl
 | x::l=>by rw [Zfs,Zin,Tw,ZmL l,bs2,ZmK x]
end
mutual
theorem ZmM:∀e:Ex,tsP (exP e)=exK e
 | .mk op t n l a=>by rw [exP,exK,ZxI,ZmN l]
theorem ZmN:∀l:List Ex,(Zfs l).map ts2=ZrN l
 | []=>by rw [Zfs,ZrN];rfl
 | x::l=>by rw [Zfs,ZrN,Tw,ZmN l,ts2,ZmM x]
end
theorem ZCX {op:Nat} (h:-2<Z2 op):(Zl op<5→(15≤op∧op≤19→W3 (ZE op)=true)∧(¬(15≤op∧op≤19)→ZE op∈ones.map fun b=>[b]))∧(Zl op=5→ZE op∈Zlf)∧(Zl op=6→ZE op≠[]→W3 (ZE op)=true):=by
 have h1:∀o:Fin 26,-2<Z2 o.val→Zl o.val<5→15≤o.val∧o.val≤19→W3 (ZE o.val)=true:=by decide +kernel
 have h2:∀o:Fin 26,-2<Z2 o.val→Zl o.val<5→¬(15≤o.val∧o.val≤19)→ZE o.val∈ones.map fun b=>[b]:=by decide +kernel
 have h3:∀o:Fin 26,-2<Z2 o.val→Zl o.val=5→ZE o.val∈Zlf:=by decide +kernel
 have h4:∀o:Fin 26,-2<Z2 o.val→Zl o.val=6→ZE o.val≠[]→W3 (ZE o.val)=true:=by decide +kernel
 obtain ⟨o,ho⟩:∃o:Fin 26,o.val=op:=⟨⟨op,ZsU h⟩,rfl⟩
 subst ho
 exact ⟨fun c=>⟨h1 o h c,h2 o h c⟩,h3 o h,h4 o h⟩
theorem ZhY {w:Nat} {p:Nat×List Pc} {k:Bs} (hk:Aft k) (h:∀k,Aft k→VF p.2 k):VF (ZhX w p) k:=by
 unfold ZhX
 split
 ·refine ⟨Z4 (by decide) _,(Yg _ _ _).2 ⟨h _ ?_,Z4 (by decide) _,trivial⟩⟩
  simp only [bsP_cons,bs_sg,bsP_nil,TA,Tm,To]
  exact Ug (by decide) _
 ·exact h k hk
theorem ZgO {fr fin:Bs} (hfr:fr∈Zlf) (hfin:fin∈[[41],[93]]) {l:List (List Pc)} (h:∀x∈l,∀k,Aft k→VF x k) (k:Bs):VF (brP fr fin l) k:=by
 have hk:∀w∈[[41],[93]],w∈Zlf∧w=[w.getD 0 0]∧w.getD 0 0∈([32,41,44,93]:Bs):=by decide
 obtain ⟨h1,h3,h2⟩:=hk fin hfin
 generalize fin.getD 0 0=c at h2 h3
 subst h3
 refine ⟨Z4 hfr _,(Yg _ _ _).2 ⟨WI Zoo (fun x=>?_) ?_ h,Z4 h1 _,trivial⟩⟩
 ·exact Ug (by decide) _
 ·simp only [bsP_cons,bs_sg,bsP_nil,TA,Tm,To]
  exact Ug h2 _
theorem ZAT:∀(n:Nat) (e:Ex),SizeOf.sizeOf e<n→ZW e=true→Zcl e=true→∀k,Aft k→VF (exP e) k
 | 0,e,h,_,_=>by omega
 | q+1,.mk op t n l a,h,hm,hr=>fun k hk=>by
  obtain ⟨m1,m2,m3,m4,m5⟩:=ZhR hm
  obtain ⟨f1,f2,f3,f4,f5⟩:=Zd3 m1
  obtain ⟨p1,p2,p3⟩:=ZCX m1
  obtain ⟨r1,r2⟩:=Zc4 hr
  have ih:∀x∈l,∀k,Aft k→VF (exP x) k:=fun x hx=>ZAT q x (ZsV h hx) (m5 x hx) (r2 x hx)
  have ihm:∀x∈l.map exP,∀k,Aft k→VF x k:=fun x hx=>by obtain ⟨y,hy,rfl⟩:=Sf.1 hx;exact ih y hy
  rw [ZAQ,Ztd]
  unfold ZxG
  by_cases c1:Zl op<5
  ·obtain ⟨x,y,rfl⟩:=Za5 (l:=l) (by have:=f1 c1;omega)
   rw [Th c1]
   simp only [Tw,TF,ZrQ]
   refine (Yg _ _ _).2 ⟨ZhY ?_ (ih x (by simp)),(Yg _ _ _).2 ⟨⟨Yf _,?_,Yf _,trivial⟩,ZhY hk (ih y (by simp))⟩⟩
   ·simp only [Tm,bsP_cons,bs_sp,To]
    exact Ug (by decide) _
   ·simp only [bsP_cons,bs_sp,Tm,To,bsP_nil]
    unfold opP
    split
    ·rename_i c;exact YM ((p1 c1).1 c) (ZB (by decide) _)
    ·rename_i c;exact ZbF (.inr ((p1 c1).2 c)) (.inl rfl) _
  rw [Te c1]
  by_cases c2:Zl op=5
  ·obtain ⟨x,rfl⟩:=Zfg (l:=l) (by have:=f2 c2;omega)
   rw [Th c2]
   simp only [Tw,TF,ZrQ]
   exact ⟨Z4 (p2 c2) _,ZhY hk (ih x (by simp))⟩
  have c3:Zl op=6:=by omega
  rw [Te c2]
  have hsnd:(l.map fun e=>(Zl (opE e),exP e)).map Prod.snd=l.map exP:=by rw [TL];rfl
  rw [hsnd]
  by_cases c4:ZE op≠[]
  ·rw [Th c4]
   exact ⟨YM (p3 c3 c4) (ZB (c:=40) (by decide) _),ZgO (by decide) (by decide) ihm k⟩
  rw [Te c4]
  have hf:=ZxF hk
  rcases f5 c3 (by simpa using c4) with rfl | rfl | rfl | rfl | rfl | rfl | rfl
  ·exact ⟨YM (Yn (Zcn m4 (.inl rfl))) hf,trivial⟩
  ·exact ⟨YM (by decide +kernel) hf,trivial⟩
  ·exact ⟨ZAO r1.1 r1.2 hf,trivial⟩
  ·have hq:(Vj t).isSome=true:=by unfold XM at m4;rw [Te (by decide),Th rfl] at m4;exact m4
   obtain ⟨v,hv⟩:=Option.isSome_iff_exists.1 hq
   have:Zqf t=v:=by rw [Zqf,hv];rfl
   show VF [.tok (Zqf t) ⟨3,t,0⟩] k
   rw [this]
   exact ⟨ZAN hv hf,trivial⟩
  ·exact ⟨YM (by decide +kernel) hf,trivial⟩
  ·exact ZgO (by decide) (by decide) ihm k
  ·have hn:=Yn (Zcn m4 (.inr rfl))
   show VF (sgP [36]::nmP t::(if (l.map fun e=>(Zl (opE e),exP e)).length=0 then [] else brP [40] [41] (l.map exP))) k
   rw [Tf]
   by_cases hl:l.length=0
   ·rw [Th hl]
    exact ⟨Z4 (by decide) _,YM hn hf,trivial⟩
   ·rw [Te hl]
    exact ⟨Z4 (by decide) _,YM hn (ZB (c:=40) (by decide) _),ZgO (by decide) (by decide) ihm k⟩
theorem Zua {e:Ex} (h:ZW e=true) (hr:Zcl e=true) {k:Bs} (hk:Aft k):VF (exP e) k:=ZAT _ e (Sc _) h hr k hk
def ZxJ (op:Nat):List Pc:=[spP,sgP (ZsZ op),spP]
def Zub:List Ex→List Pc
 | []=>[]
 | e::_=>exP e
def ZxK (l:List Ex):List Pc:=(l.map fun e=>spP::exP e).flatten
mutual
def liP:Li→List Pc
 | .mk op rel args body _ =>
  if op=2 then sgP [33]::nmP rel::brP [40] [41] (args.map exP)
  else if op=1 then nmP rel::brP [40] [41] (args.map exP)
  else if op≤8 then Zub args++(ZxJ op++Zub args.tail)
  else Zub args++(spP::sgP [61]::spP::nmP (Zab op)::(ZxK args.tail++(spP::sgP [58]::spP::sgP [123]::spP::(WH cmP (ZrR body)++[spP,sgP [125]]))))
def ZrR:List Li→List (List Pc)
 | []=>[]
 | e::l=>liP e::ZrR l
end
theorem Zli (l:List Li):ZrR l=l.map liP:=by induction l with | nil=>rfl | cons x l ih=>simp [ZrR,ih]
theorem Zlj (l:List Ex):bsP (Zub l)=Zjr l:=by cases l with | nil=>rfl | cons x l=>exact ZmK x
theorem Zlk (l:List Ex):tsP (Zub l)=ZrO l:=by cases l with | nil=>rfl | cons x l=>exact ZmM x
theorem ZxL (l:List Ex):bsP (ZxK l)=Zmp l:=by
 unfold ZxK Zmp
 rw [ZmF,TL]
 congr 1
 refine TW fun x _=>?_
 simp [ZmK]
theorem ZxM (l:List Ex):tsP (ZxK l)=(l.map exK).flatten:=by
 unfold ZxK
 rw [ZmG,TL]
 congr 1
 refine TW fun x _=>?_
 simp [ZmM]
theorem ZhZ (l:List Ex):(l.map exP).map bsP=Zt0 l:=by rw [TL];exact TW fun x _=>ZmK x
theorem Zh0 (l:List Ex):(l.map exP).map tsP=l.map exK:=by rw [TL];exact TW fun x _=>ZmM x
theorem ZxN {op:Nat}:bsP (ZxJ op)=Zqi op:=by
 unfold ZxJ ZsZ Zqi
 (repeat' split) <;> rfl
theorem ZxO {op:Nat}:tsP (ZxJ op)=[sgT (ZsZ op)]:=by simp [ZxJ]
mutual
theorem ZAU:∀x:Li,bsP (liP x)=liT x
 | .mk op rel args body a=>by
  rw [liP,liT]
  split
  ·rw [bsP_cons,bsP_cons,Zft,ZhZ];rfl
  split
  ·rw [bsP_cons,Zft,ZhZ];rfl
  split
  ·rw [bsP_app,bsP_app,Zlj,Zlj,ZxN]
  ·simp only [bsP_app,bsP_cons,bsP_nil,Zlj,ZxL,Vx,Zq4,Zll body,bs_sp,bs_sg,bs_nm,TA,Tm,To]
theorem Zll:∀l:List Li,(ZrR l).map bsP=Zio l
 | []=>by rw [ZrR,Zio];rfl
 | x::l=>by rw [ZrR,Zio,Tw,ZAU x,Zll l]
end
mutual
theorem ZAV:∀x:Li,tsP (liP x)=liK x
 | .mk op rel args body a=>by
  rw [liP,liK]
  split
  ·rw [tsP_cons,tsP_cons,Zfu,Zh0];rfl
  split
  ·rw [tsP_cons,Zfu,Zh0];rfl
  split
  ·rw [tsP_app,tsP_app,Zlk,Zlk,ZxO];rfl
  ·simp only [tsP_app,tsP_cons,tsP_nil,Zlk,ZxM,Vy Zq5,Zlm body,ts_sp,ts_sg,ts_nm,TA,Tm,To]
theorem Zlm:∀l:List Li,(ZrR l).map tsP=Zxt l
 | []=>by rw [ZrR,Zxt];rfl
 | x::l=>by rw [ZrR,Zxt,Tw,ZAV x,Zlm l]
end
theorem ZxP {op:Nat} (k:Bs):VF (ZxJ op) k:=by
 refine ⟨Yf _,?_,Yf _,trivial⟩
 simp only [bsP_cons,bs_sp,bsP_nil,TA,Tm,To]
 refine ZbF ?_ (.inl rfl) _
 unfold ZsZ
 (repeat' split) <;> decide
theorem ZAW:∀(n:Nat) (x:Li),SizeOf.sizeOf x<n→YX x=true→Zfd x=true→∀k,Aft k→VF (liP x) k
 | 0,x,h,_,_=>by omega
 | q+1,.mk op rel args body a,h,hm,hr=>fun k hk=>by
  obtain ⟨m1,m2,m3⟩:=Zk6 hm
  obtain ⟨r1,r2⟩:=Zk1 hr
  have ih:∀x∈body,∀k,Aft k→VF (liP x) k:=fun x hx=>ZAW q x (Zt7 h hx) (m3 x hx) (r2 x hx)
  have he:∀x∈args,∀k,Aft k→VF (exP x) k:=fun x hx k hk=>Zua (m2 x hx) (r1 x hx) hk
  have hem:∀x∈args.map exP,∀k,Aft k→VF x k:=fun x hx=>by obtain ⟨y,hy,rfl⟩:=Sf.1 hx;exact he y hy
  have hbm:∀x∈body.map liP,∀k,Aft k→VF x k:=fun x hx=>by obtain ⟨y,hy,rfl⟩:=Sf.1 hx;exact ih y hy
  have hag:W3 (Zab op)=true:=by unfold Zab;(repeat' split) <;> decide +kernel
  have aftsp:∀z:Bs,Aft (32::z):=fun z=>Ug (by decide) z
  rw [liP,Zli]
  rcases Zk7 m1 with ⟨c,hn,hb⟩ | ⟨c1,c2,rfl,ha,hb⟩ | ⟨rfl,rfl,ha,hb⟩ | ⟨c1,c2,rfl,ha,hb⟩
  ·rcases c with rfl | rfl
   ·rw [Te (by decide),Th rfl]
    exact ⟨YM (Yn hn) (ZB (c:=40) (by decide) _),ZgO (by decide) (by decide) hem k⟩
   ·rw [Th rfl]
    refine ⟨?_,YM (Yn hn) (ZB (c:=40) (by decide) _),ZgO (by decide) (by decide) hem k⟩
    rw [bsP_cons,bs_nm,Tg]
    exact Zq1 (by decide) (Yn hn) _
  ·obtain ⟨x,y,rfl⟩:=Za5 ha
   rw [Te (by omega),Te (by omega),Th c2]
   simp only [Zub,TH]
   refine (Yg _ _ _).2 ⟨he x (by simp) _ ?_,(Yg _ _ _).2 ⟨ZxP _,he y (by simp) k hk⟩⟩
   rw [ZxJ]
   simp only [Tm,bsP_cons,bs_sp,To]
   exact aftsp _
  ·obtain ⟨x,rfl⟩:=Zfg ha
   rw [Te (by omega),Te (by omega),Te (by omega)]
   simp only [Zub,TH,ZxK,TF,Sp,To]
   refine (Yg _ _ _).2 ⟨he x (by simp) _ ?_,Yf _,Z4 (by decide) _,Yf _,YM hag ?_,Yf _,?_,Yf _,Z4 (by decide) _,Yf _,(Yg _ _ _).2 ⟨WI Zoo (fun x=>Ug (by decide) _) ?_ hbm,Yf _,Z4 (by decide) _,trivial⟩⟩
   ·exact m118
   ·simp only [bsP_cons,bs_sp,Tm,To];exact ZB (by decide) _
   ·simp only [bsP_cons,bs_sp,Tm,To];exact ZbF (by decide) (.inl rfl) _
   ·exact m118
  ·obtain ⟨x,y,rfl⟩:=Za5 ha
   rw [Te (by omega),Te (by omega),Te (by omega)]
   simp only [Zub,TH,ZxK,Tw,TF,T7,Sp,To,TA,Tm]
   refine (Yg _ _ _).2 ⟨he x (by simp) _ ?_,Yf _,Z4 (by decide) _,Yf _,YM hag ?_,Yf _,(Yg _ _ _).2 ⟨he y (by simp) _ ?_,Yf _,?_,Yf _,Z4 (by decide) _,Yf _,(Yg _ _ _).2 ⟨WI Zoo (fun x=>Ug (by decide) _) ?_ hbm,Yf _,Z4 (by decide) _,trivial⟩⟩⟩
   ·exact m118
   ·simp only [bsP_cons,bs_sp,Tm,To];exact ZB (by decide) _
   ·exact m118
   ·simp only [bsP_cons,bs_sp,Tm,To];exact ZbF (by decide) (.inl rfl) _
   ·exact m118
theorem ZAX {x:Li} (h:YX x=true) (hr:Zfd x=true) {k:Bs} (hk:Aft k):VF (liP x) k:=ZAW _ x (Sc _) h hr k hk
end Go.PM.Lex
end

section
namespace Go.PM.Lex
def ifP:List Pc:=[spP,sgP [58,45],spP]
def ruP (r:Ru):List Pc:=nmP r.head::(brP [40] [41] (r.args.map exP)++((if 0<r.body.length then ifP++WH cmP (r.body.map liP) else [])++[sgP [46]]))
theorem ZxQ (l:List Li):(l.map liP).map bsP=Zio l:=by rw [← Zli,Zll]
theorem ZxR (l:List Li):(l.map liP).map tsP=l.map liK:=by rw [← Zli,Zlm,ZqE]
theorem ZAY (r:Ru):bsP (ruP r)=ruT r:=by
 unfold ruP ruT Wt
 split
 ·simp [-List.map_map,Zft,ZhZ,Vx,Zq4,ZxQ,ifP]
 ·simp [-List.map_map,Zft,ZhZ]
theorem ZAZ (r:Ru):tsP (ruP r)=ruK r:=by
 unfold ruP ruK
 split
 ·simp [-List.map_map,Zfu,Zh0,Vy Zq5,ZxR,ifP]
 ·simp [-List.map_map,Zfu,Zh0]
theorem ZA0 {r:Ru} (h:Y6 r=true) (hr:Zaf r=true) {k:Bs} (hk:k=[]∨∃z,k=10::z):VF (ruP r) k:=by
 obtain ⟨h1,h2,h3⟩:=Zd4 h
 simp only [Zaf,Tj] at hr
 have r1:=Tl.1 hr.1
 have r2:=Tl.1 hr.2
 refine ⟨YM (Yn h1) (ZB (c:=40) (by decide) _),(Yg _ _ _).2 ⟨ZgO (by decide) (by decide) (fun x hx=>?_) _,(Yg _ _ _).2 ⟨?_,Z4 (by decide) _,trivial⟩⟩⟩
 ·obtain ⟨y,hy,rfl⟩:=Sf.1 hx
  exact fun k hk=>Zua (h2 y hy) (r1 y hy) hk
 ·split
  ·refine (Yg _ _ _).2 ⟨⟨Yf _,Z4 (by decide) _,Yf _,trivial⟩,WI (Ok:=Aft) Zoo (fun x=>?_) ?_ fun x hx=>?_⟩
   ·exact Ug (by decide) _
   ·simp only [bsP_cons,bs_sg,bsP_nil,TA,Tm,To]
    rcases hk with rfl | ⟨z,rfl⟩
    ·exact .inr (.inr (.inl rfl))
    ·exact .inr (.inr (.inr ⟨z,rfl⟩))
   ·obtain ⟨y,hy,rfl⟩:=Sf.1 hx
    exact fun k hk=>ZAX (h3 y hy) (r2 y hy) hk
  ·exact trivial
def fiP (f:Fi):List Pc:=[nmP f.name,sgP [58],spP,nmP f.typ]
def Zuc (l:List Fi) (fin:Bs):List Pc:=WH cmP (l.map fiP)++[sgP fin]
theorem ZA1 (f:Fi):bsP (fiP f)=fiT f:=by simp [fiP,fiT]
theorem ZA2 (f:Fi):tsP (fiP f)=fiK f:=by simp [fiP,fiK]
theorem ZxS (l:List Fi):(l.map fiP).map bsP=l.map fiT:=by rw [TL];exact TW fun x _=>ZA1 x
theorem ZxT (l:List Fi):(l.map fiP).map tsP=l.map fiK:=by rw [TL];exact TW fun x _=>ZA2 x
theorem Zln (fr:Bs) (l:List Fi) (fin:Bs):fr++bsP (Zuc l fin)=Um fr l fin:=by simp [-List.map_map,Zuc,Um,Vx,Zq4,ZxS]
theorem Zlo (fr:Bs) (l:List Fi) (fin:Bs):sgT fr::tsP (Zuc l fin)=Zt8 fr l fin:=by simp [-List.map_map,Zuc,Zt8,Vy Zq5,ZxT]
theorem Zlp {l:List Fi} (h:∀f∈l,YG f=true) {fin:Bs} (hfin:fin∈[[41],[93],[125]]) (k:Bs):VF (Zuc l fin) k:=by
 have hk:∀w∈[[41],[93],[125]],w∈Zlf∧w=[w.getD 0 0]∧w.getD 0 0∈Ztc:=by decide
 obtain ⟨h1,h3,h2⟩:=hk fin hfin
 generalize fin.getD 0 0=c at h2 h3
 subst h3
 refine (Yg _ _ _).2 ⟨WI (Ok:=Zom) Zoo (fun x=>ZB (c:=44) (by decide) _) ?_ fun x hx=>?_,Z4 h1 _,trivial⟩
 ·simp only [bsP_cons,bs_sg,bsP_nil,TA,Tm,To]
  exact ZB h2 _
 ·obtain ⟨f,hf,rfl⟩:=Sf.1 hx
  obtain ⟨f1,f2⟩:=ZhS (h f hf)
  exact fun k hk=>⟨YM (Yn f1) (ZB (c:=58) (by decide) _),ZbF (by decide) (.inl rfl) _,Yf _,YM (Yn f2) hk,trivial⟩
def Zte (l:List Bs):List Pc:=if l.length=0 then [] else sgP [60]::(WH cmP (l.map fun s=>[nmP s])++[sgP [62]])
theorem ZxU (l:List Bs):(l.map fun s=>[nmP s]).map bsP=l:=by rw [TL];simp [Function.comp_def]
theorem ZxV (l:List Bs):(l.map fun s=>[nmP s]).map tsP=l.map fun s=>[nmT s]:=by rw [TL];exact TW fun x _=>by simp
theorem Zfv (l:List Bs):bsP (Zte l)=JK l:=by
 unfold Zte JK
 split
 ·rfl
 ·simp [-List.map_map,Vx,Zq4,ZxU]
theorem Zq6 (l:List Bs):tsP (Zte l)=Zs3 l:=by
 unfold Zte Zs3
 split
 ·rfl
 ·simp [-List.map_map,Vy Zq5,ZxV]
theorem Zh1 {l:List Bs} (h:∀s∈l,Yk s=true) {c:UInt8} (hc:c=32∨c=10) (z:Bs):VF (Zte l) (c::z):=by
 unfold Zte
 split
 ·exact trivial
 ·rename_i hl
  refine ⟨?_,(Yg _ _ _).2 ⟨WI (Ok:=Zom) Zoo (fun x=>ZB (c:=44) (by decide) _) ?_ fun x hx=>?_,ZbF (by decide) hc _,trivial⟩⟩
  ·match l,hl,h with
   | s::l,_,h =>
    simp only [Tw,WH,bsP_app,bsP_cons,bsP_nil,bs_nm,TA,Tg]
    exact Zq1 (by decide) (Yn (h s (by simp))) _
  ·exact ZB (c:=62) (by decide) _
  ·obtain ⟨s,hs,rfl⟩:=Sf.1 hx
   exact fun k hk=>⟨YM (Yn (h s hs)) (by simpa using hk),trivial⟩
theorem Zlq (l:List Bs) (z:Bs):Zom (JK l++32::z):=by
 unfold JK
 split
 ·exact ZB (c:=32) (by decide) _
 ·exact ZB (c:=60) (by decide) _
theorem Zq7 (l:List Bs) (z:Bs):Zom (JK l++10::z):=by
 unfold JK
 split
 ·exact ZB (c:=10) (by decide) _
 ·exact ZB (c:=60) (by decide) _
def caP (c:Ca):List Pc:=nmP c.name::spP::sgP [123]::Zuc c.fields [125]
theorem ZA3 (c:Ca):bsP (caP c)=caT c:=by
 rw [caT,← Zln];simp [caP]
theorem ZA4 (c:Ca):tsP (caP c)=caK c:=by
 rw [caK,← Zlo];simp [caP]
theorem ZA5 {c:Ca} (h:Xz c=true) (k:Bs):VF (caP c) k:=by
 obtain ⟨h1,h2⟩:=ZhT h
 exact ⟨YM (Yn h1) (ZB (c:=32) (by decide) _),Yf _,Z4 (by decide) _,Zlp h2 (by decide) k⟩
theorem ZA6:bsP ZBV=[32,124,32]:=rfl
theorem ZA7:tsP ZBV=[sgT [124]]:=rfl
theorem ZA8 (k:Bs):VF ZBV k:=⟨Yf _,Z4 (by decide) _,Yf _,trivial⟩
def tyP (t:Ty):List Pc:=nmP [116,121,112,101]::spP::nmP t.name::((if t.kind=1 then [spP,sgP [60,58],spP,nmP t.base] else if t.kind=2 then spP::sgP [61]::spP::sgP [91]::Zuc t.fields [93] else spP::sgP [61]::spP::WH ZBV (t.cases.map caP))++[nlP])
theorem ZxW (l:List Ca):(l.map caP).map bsP=l.map caT:=by rw [TL];exact TW fun x _=>ZA3 x
theorem ZxX (l:List Ca):(l.map caP).map tsP=l.map caK:=by rw [TL];exact TW fun x _=>ZA4 x
theorem ZA9 (t:Ty):bsP (tyP t)=tyT t:=by
 unfold tyP tyT
 split
 ·simp
 split
 ·rw [← Zln];simp
 ·simp [-List.map_map,Vx,ZA6,ZxW]
theorem ZBa (t:Ty):tsP (tyP t)=tyK t:=by
 unfold tyP tyK
 split
 ·simp
 split
 ·rw [← Zlo];simp
 ·simp [-List.map_map,Vy ZA7,ZxX]
theorem JF (z:Bs):Zom (32::z):=ZB (by decide) z
theorem ZBb {t:Ty} (h:Ym t=true) (k:Bs):VF (tyP t) k:=by
 obtain ⟨h1,h2,h3,h4⟩:=ZhU h
 have hw:W3 [116,121,112,101]=true:=by decide +kernel
 refine ⟨YM hw (JF _),Yf _,YM (Yn h1) ?_,(Yg _ _ _).2 ⟨?_,Zle _,trivial⟩⟩
 ·(repeat' split) <;> exact JF _
 ·rcases h4 with ⟨e,hb,_,_⟩ | ⟨e,_,_⟩ | ⟨e,_,_,_⟩
  ·rw [Th e]
   exact ⟨Yf _,Z4 (by decide) _,Yf _,YM (Yn hb) (ZB (c:=10) (by decide) _),trivial⟩
  ·rw [Te (by omega),Th e]
   exact ⟨Yf _,Z4 (by decide) _,Yf _,Z4 (by decide) _,Zlp h2 (by decide) _⟩
  ·rw [Te (by omega),Te (by omega)]
   refine ⟨Yf _,Z4 (by decide) _,Yf _,WI (Ok:=fun _=>True) ZA8 (fun _=>trivial) trivial fun x hx=>?_⟩
   obtain ⟨y,hy,rfl⟩:=Sf.1 hx
   exact fun k _=>ZA5 (h3 y hy) k
def ZmO (i o n:Bool):List Pc:=(if i then [spP,nmP [105,110,112,117,116]] else [])++((if o then [spP,nmP [111,117,116,112,117,116]] else [])++(if n then [spP,nmP [105,110,108,105,110,101]] else []))
def reP (d:Re):List Pc:=nmP [100,101,99,108]::spP::nmP d.name::sgP [40]::(Zuc d.fields [41]++(ZmO d.inn d.out d.inl++[nlP]))
theorem ZBc (d:Re):bsP (reP d)=reT d:=by
 obtain ⟨nm,fs,i,o,n,a⟩:=d
 unfold reP reT
 rw [← Zln]
 cases i <;> cases o <;> cases n <;> simp [ZmO]
theorem ZBd (d:Re):tsP (reP d)=reK d:=by
 obtain ⟨nm,fs,i,o,n,a⟩:=d
 unfold reP reK
 rw [← Zlo]
 cases i <;> cases o <;> cases n <;> simp [ZmO,Zmz]
theorem ZBe {d:Re} (h:XN d=true) (k:Bs):VF (reP d) k:=by
 simp only [XN,Tj] at h
 obtain ⟨h1,h2⟩:=h
 have h2:=Tl.1 h2
 have w1:W3 [100,101,99,108]=true:=by decide +kernel
 have w2:W3 [105,110,112,117,116]=true:=by decide +kernel
 have w3:W3 [111,117,116,112,117,116]=true:=by decide +kernel
 have w4:W3 [105,110,108,105,110,101]=true:=by decide +kernel
 refine ⟨YM w1 (JF _),Yf _,YM (Yn h1) (ZB (c:=40) (by decide) _),Z4 (by decide) _,(Yg _ _ _).2 ⟨Zlp h2 (by decide) _,(Yg _ _ _).2 ⟨?_,Zle _,trivial⟩⟩⟩
 have f10:∀z:Bs,Zom (10::z):=fun z=>ZB (by decide) z
 obtain ⟨nm,fs,i,o,n,a⟩:=d
 cases i <;> cases o <;> cases n <;> simp only [ZmO,if_true,Tt,if_false,To,TA,Tm]
 ·exact trivial
 ·exact ⟨Yf _,YM w4 (f10 _),trivial⟩
 ·exact ⟨Yf _,YM w3 (f10 _),trivial⟩
 ·exact ⟨Yf _,YM w3 (JF _),Yf _,YM w4 (f10 _),trivial⟩
 ·exact ⟨Yf _,YM w2 (f10 _),trivial⟩
 ·exact ⟨Yf _,YM w2 (JF _),Yf _,YM w4 (f10 _),trivial⟩
 ·exact ⟨Yf _,YM w2 (JF _),Yf _,YM w3 (f10 _),trivial⟩
 ·exact ⟨Yf _,YM w2 (JF _),Yf _,YM w3 (JF _),Yf _,YM w4 (f10 _),trivial⟩
def inP (i:Ini):List Pc:=nmP [105,110,105,116]::spP::nmP i.name::spP::sgP [61]::spP::nmP i.comp::(Zte i.types++[nlP])
theorem ZBf (i:Ini):bsP (inP i)=inT i:=by simp [inP,inT,Zfv]
theorem ZBg (i:Ini):tsP (inP i)=inK i:=by simp [inP,inK,Zq6]
theorem ZBh {i:Ini} (h:XX i=true) (k:Bs):VF (inP i) k:=by
 simp only [XX,Tj] at h
 obtain ⟨h1,h2,h3⟩:=h
 have h3:=Tl.1 h3
 have w1:W3 [105,110,105,116]=true:=by decide +kernel
 refine ⟨YM w1 (JF _),Yf _,YM (Yn h1) (JF _),Yf _,Z4 (by decide) _,Yf _,YM (Yn h2) ?_,(Yg _ _ _).2 ⟨Zh1 h3 (.inr rfl) _,Zle _,trivial⟩⟩
 simp only [bsP_app,bsP_cons,bs_nl,bsP_nil,Zfv,Tg,Tm,To]
 exact Zq7 _ _
def ovP (o:Ov):List Pc:=[nmP [111,118,101,114,114,105,100,101],spP,nmP o.rel,nlP]
theorem ZBi (o:Ov):bsP (ovP o)=ovT o:=by simp [ovP,ovT]
theorem ZBj (o:Ov):tsP (ovP o)=ovK o:=by simp [ovP,ovK]
theorem ZBk {o:Ov} (h:W4 o=true) (k:Bs):VF (ovP o) k:=by
 have h:Yk o.rel=true:=h
 have w1:W3 [111,118,101,114,114,105,100,101]=true:=by decide +kernel
 exact ⟨YM w1 (JF _),Yf _,YM (Yn h) (ZB (c:=10) (by decide) _),Zle _,trivial⟩
def Zfw {α:Type} (P:α→List Pc) (l:List α):List Pc:=(l.map P).flatten
theorem Zcs {α:Type} {P:α→List Pc} {T:α→Bs} (h:∀x,bsP (P x)=T x) (l:List α):bsP (Zfw P l)=(l.map T).flatten:=by
 rw [Zfw,ZmF,TL];congr 1;exact TW fun x _=>h x
theorem Zct {α:Type} {P:α→List Pc} {T:α→Ts} (h:∀x,tsP (P x)=T x) (l:List α):tsP (Zfw P l)=(l.map T).flatten:=by
 rw [Zfw,ZmG,TL];congr 1;exact TW fun x _=>h x
theorem ZaD {α:Type} {P:α→List Pc}:∀(l:List α),(∀x∈l,∀k,VF (P x) k)→∀k,VF (Zfw P l) k
 | [],h,k=>trivial
 | x::l,h,k=>by
  rw [Zfw,Tw,T7]
  exact (Yg _ _ _).2 ⟨h x (by simp) _,ZaD l (fun y hy=>h y (Tp _ hy)) k⟩
mutual
def unP:Un→List Pc
 | .mk tys rels rules comps inits overs=>Zfw tyP tys++(Zfw reP rels++(Zq8 comps++(Zfw inP inits++(Zfw ovP overs++Zfw (fun r=>ruP r++[nlP]) rules))))
def coP:Co→List Pc
 | .mk nm ps base tys u _=>nmP [99,111,109,112]::spP::nmP nm::(Zte ps++((if base=[] then [] else spP::sgP [58]::spP::nmP base::Zte tys)++(spP::sgP [123]::nlP::(unP u++[sgP [125],nlP]))))
def Zq8:List Co→List Pc
 | []=>[]
 | c::l=>coP c++Zq8 l
end
mutual
theorem Zud:∀u:Un,bsP (unP u)=unT u
 | .mk tys rels rules comps inits overs=>by
  rw [unP,unT]
  simp only [bsP_app,Zcs ZA9,Zcs ZBc,Zcs ZBf,Zcs ZBi,Zq9 comps]
  rw [Zcs (T:=fun r=>ruT r++[10]) fun r=>by simp [ZAY]]
theorem ZBl:∀c:Co,bsP (coP c)=coT c
 | .mk nm ps base tys u a=>by
  rw [coP,coT]
  have ih:=Zud u
  split <;> simp [Zfv,ih]
theorem Zq9:∀l:List Co,bsP (Zq8 l)=(Zmq l).flatten
 | []=>by rw [Zq8,Zmq];rfl
 | c::l=>by rw [Zq8,Zmq,bsP_app,ZBl c,Zq9 l];rfl
end
mutual
theorem Zue:∀u:Un,tsP (unP u)=unK u
 | .mk tys rels rules comps inits overs=>by
  rw [unP,unK]
  simp only [tsP_app,Zct ZBa,Zct ZBd,Zct ZBg,Zct ZBj,Zra comps]
  rw [Zct (T:=ruK) fun r=>by simp [ZAZ]]
theorem ZBm:∀c:Co,tsP (coP c)=coK c
 | .mk nm ps base tys u a=>by
  rw [coP,coK]
  have ih:=Zue u
  split <;> simp [Zq6,ih]
theorem Zra:∀l:List Co,tsP (Zq8 l)=(Zxx l).flatten
 | []=>by rw [Zq8,Zxx];rfl
 | c::l=>by rw [Zq8,Zxx,tsP_app,ZBm c,Zra l];rfl
end
theorem Zrb:∀(l:List Co),(∀x∈l,∀k,VF (coP x) k)→∀k,VF (Zq8 l) k
 | [],h,k=>by rw [Zq8];exact trivial
 | x::l,h,k=>by
  rw [Zq8]
  exact (Yg _ _ _).2 ⟨h x (by simp) _,Zrb l (fun y hy=>h y (Tp _ hy)) k⟩
theorem ZBn:∀(n:Nat) (u:Un),SizeOf.sizeOf u<n→Za1 u=true→ZgJ u=true→∀k,VF (unP u) k
 | 0,u,h,_,_=>by omega
 | q+1,.mk tys rels rules comps inits overs,h,hm,hr=>fun k=>by
  obtain ⟨m1,m2,m3,m4,m5,m6⟩:=Zk8 hm
  simp only [ZgJ,VS,Tj] at hr
  have r1:=Tl.1 hr.1
  have r2:=Tl.1 hr.2
  rw [unP]
  refine (Yg _ _ _).2 ⟨ZaD tys (fun x hx=>ZBb (m1 x hx)) _,(Yg _ _ _).2 ⟨ZaD rels (fun x hx=>ZBe (m2 x hx)) _,(Yg _ _ _).2 ⟨Zrb comps (fun x hx=>?_) _,(Yg _ _ _).2 ⟨ZaD inits (fun x hx=>ZBh (m5 x hx)) _,(Yg _ _ _).2 ⟨ZaD overs (fun x hx=>ZBk (m6 x hx)) _,ZaD rules (fun x hx k=>?_) k⟩⟩⟩⟩⟩
  ·obtain ⟨nm,ps,base,ty,u,a⟩:=x
   intro k
   obtain ⟨c1,c2,c3,c4,c5⟩:=Zd5 (m4 _ hx)
   have hu:=ZBn q u (ZqQ h hx) c5 (by have:=r2 _ hx;rwa [ZaK] at this)
   have w1:W3 [99,111,109,112]=true:=by decide +kernel
   rw [coP]
   refine ⟨YM w1 (JF _),Yf _,YM (Yn c1) ?_,(Yg _ _ _).2 ⟨?_,(Yg _ _ _).2 ⟨?_,Yf _,Z4 (by decide) _,Zle _,(Yg _ _ _).2 ⟨hu _,Z4 (by decide) _,Zle _,trivial⟩⟩⟩⟩
   ·simp only [bsP_app,Zfv,Tg]
    split
    ·simp only [bsP_nil,To,bsP_cons,bs_sp,Tm];exact Zlq _ _
    ·simp only [bsP_cons,bs_sp,Tm,To];exact Zlq _ _
   ·split
    ·simp only [To,bsP_cons,bs_sp,Tm];exact Zh1 c2 (.inl rfl) _
    ·simp only [bsP_cons,bs_sp,Tm,To];exact Zh1 c2 (.inl rfl) _
   ·split
    ·exact trivial
    ·rename_i hb
     have hn:=c4.resolve_left fun g=>hb g.1
     refine ⟨Yf _,ZbF (by decide) (.inl rfl) _,Yf _,YM (Yn hn) ?_,Zh1 c3 (.inl rfl) _⟩
     simp only [Zfv,bsP_cons,bs_sp,Tm,To]
     exact Zlq _ _
  ·exact (Yg _ _ _).2 ⟨ZA0 (m3 x hx) (r1 x hx) (.inr ⟨_,rfl⟩),Zle _,trivial⟩
theorem ZBo {u:Un} (h:Za1 u=true) (hr:ZgJ u=true):VF (unP u) []:=ZBn _ u (Sc _) h hr []
def ZDB {α β:Type} (er:α→β) (v:α) (x:Top α):Prop:=(∃v' L,er v'=er v∧x=.ok v' L)∨∃p e,(e=3∨e=151)∧x=.err p e
theorem ZxY {α β:Type} {er:α→β} {v:α} {P:Ts→R α} {ps:List Pc} (h:Rd er v [] (P (tsP ps))) (hv:VF ps []):ZDB er v (Y5 65536 16384 P (bsP ps)):=by
 unfold Y5
 split
 ·exact .inr ⟨_,_,.inl rfl,rfl⟩
 ·obtain ⟨h1,h2⟩:=Zdb ps ((bsP ps).length+1) 16384 0 hv (by omega)
  by_cases hm:((tsP ps).length:Int)≤16384
  ·obtain ⟨l,p,e1,e2⟩:=h1 hm
   have e1:ZdO (bsP ps) 16384=(l,(p,0)):=e1
   rw [show ((16384:Nat):Int)=16384 from rfl,e1]
   simp only [ne_eq,not_true_eq_false,if_false]
   rw [e2]
   rcases h with ⟨v',e,h⟩ | ⟨r,h | h⟩
   ·rw [h];exact .inl ⟨v',l,e,rfl⟩
   ·rw [h];exact .inr ⟨_,_,.inl rfl,rfl⟩
   ·rw [h];exact .inr ⟨_,_,.inr rfl,rfl⟩
  ·obtain ⟨l,p,e1⟩:=h2 (by omega) (by decide)
   have e1:ZdO (bsP ps) 16384=(l,(p,3)):=e1
   rw [show ((16384:Nat):Int)=16384 from rfl,e1]
   simp only [ne_eq,show ¬(3:Nat)=0 by decide,not_false_eq_true,if_true]
   exact .inr ⟨_,_,.inl rfl,rfl⟩
theorem Zrc {u:Un} (h:Za1 u=true) (hr:ZgJ u=true):ZDB U2 u (Y5 65536 16384 VJ (unT u)):=by
 rw [← Zud]
 refine ZxY ?_ (ZBo h hr)
 rw [Zue]
 exact ZqR h
end Go.PM.Lex
end

section
namespace Go.PM.Lex
theorem ZBp (e:Ex):opE (erE e)=opE e:=by cases e;rfl
theorem ZmP (l:List Ex):(Zd0 l).length=l.length:=by rw [Jo,Tf]
theorem Ztf (l:List Li):(Zjl l).length=l.length:=by rw [ZhH,Tf]
mutual
theorem ZmQ:∀e:Ex,exT (erE e)=exT e
 | .mk op t n l a=>by rw [erE,exT,exT,Zrd l]
theorem Zrd:∀l:List Ex,Zin (Zd0 l)=Zin l
 | []=>by rw [Zd0]
 | x::l=>by rw [Zd0,Zin,Zin,ZmQ x,Zrd l,ZBp]
end
mutual
theorem Zre:∀e:Ex,ZW (erE e)=ZW e
 | .mk op t n l a=>by rw [erE,ZW,ZW,Zh2 l,ZmP]
theorem Zh2:∀l:List Ex,ZhM (Zd0 l)=ZhM l
 | []=>by rw [Zd0]
 | x::l=>by rw [Zd0,ZhM,ZhM,Zre x,Zh2 l]
end
mutual
theorem Zrf:∀e:Ex,Zcl (erE e)=Zcl e
 | .mk op t n l a=>by rw [erE,Zcl,Zcl,Zh3 l]
theorem Zh3:∀l:List Ex,Zfc (Zd0 l)=Zfc l
 | []=>by rw [Zd0]
 | x::l=>by rw [Zd0,Zfc,Zfc,Zrf x,Zh3 l]
end
mutual
theorem ZxZ:∀e:Ex,wE (erE e)=wE e
 | .mk op t n l a=>by rw [erE,wE,wE,Zuf l]
theorem Zuf:∀l:List Ex,wEs (Zd0 l)=wEs l
 | []=>by rw [Zd0]
 | x::l=>by rw [Zd0,wEs,wEs,ZxZ x,Zuf l]
end
theorem Zfx {α β:Type} {er:α→α} {f:α→β} (h:∀x,f (er x)=f x) (l:List α):(l.map er).map f=l.map f:=by rw [TL];exact TW fun x _=>h x
theorem Za6 {α:Type} {er:α→α} {p:α→Bool} (h:∀x,p (er x)=p x) (l:List α):(l.map er).all p=l.all p:=by rw [List.all_map];congr 1;funext x;exact h x
theorem ZdK {α:Type} {er:α→α} {w:α→Nat} (h:∀x,w (er x)=w x) (l:List α):szS w (l.map er)=szS w l:=by induction l with | nil=>rfl | cons x l ih=>simp only [Tw,szS,h,ih]
theorem Zx0 (l:List Ex):Zjr (Zd0 l)=Zjr l:=by cases l with | nil=>rfl | cons x l=>exact ZmQ x
theorem ZCY (l:List Ex):(Zd0 l).tail=Zd0 l.tail:=by cases l with | nil=>rfl | cons x l=>rfl
theorem Zx1 (l:List Ex):Zt0 (Zd0 l)=Zt0 l:=by rw [Jo];exact Zfx ZmQ l
theorem Zx2 (l:List Ex):Zmp (Zd0 l)=Zmp l:=by
 unfold Zmp;rw [Jo,Zfx (f:=fun e=>[32]++exT e) fun x=>by rw [ZmQ]]
theorem Zrg (fr fin:Bs) (l:List Ex):Wt fr fin (Zd0 l)=Wt fr fin l:=by unfold Wt;rw [Zx1]
mutual
theorem ZBq:∀x:Li,liT (erL x)=liT x
 | .mk op rel args body a=>by rw [erL,liT,liT,Zlr body];simp only [Zx0,ZCY,Zx2,Zrg]
theorem Zlr:∀l:List Li,Zio (Zjl l)=Zio l
 | []=>by rw [Zjl]
 | x::l=>by rw [Zjl,Zio,Zio,ZBq x,Zlr l]
end
mutual
theorem Zrh:∀x:Li,YX (erL x)=YX x
 | .mk op rel args body a=>by rw [erL,YX,YX,ZmR body,Zh2,ZmP,Ztf]
theorem ZmR:∀l:List Li,Zjq (Zjl l)=Zjq l
 | []=>by rw [Zjl]
 | x::l=>by rw [Zjl,Zjq,Zjq,Zrh x,ZmR l]
end
mutual
theorem Zri:∀x:Li,Zfd (erL x)=Zfd x
 | .mk op rel args body a=>by rw [erL,Zfd,Zfd,ZmS body,Zh3]
theorem ZmS:∀l:List Li,ZfZ (Zjl l)=ZfZ l
 | []=>by rw [Zjl]
 | x::l=>by rw [Zjl,ZfZ,ZfZ,Zri x,ZmS l]
end
mutual
theorem ZBr:∀x:Li,wL (erL x)=wL x
 | .mk op rel args body a=>by rw [erL,wL,wL,Zug body,Jo,ZdK ZxZ]
theorem Zug:∀l:List Li,wLs (Zjl l)=wLs l
 | []=>by rw [Zjl]
 | x::l=>by rw [Zjl,wLs,wLs,ZBr x,Zug l]
end
theorem ZBs (r:Ru):ruT (ZgH r)=ruT r:=by
 unfold ruT ZgH
 simp only [Tf]
 rw [← Jo,Zrg,← ZhH,Zlr]
theorem Ztg (r:Ru):Y6 (ZgH r)=Y6 r:=by
 unfold Y6 ZgH
 simp only [Za6 Zre,Za6 Zrh]
theorem Zth (r:Ru):Zaf (ZgH r)=Zaf r:=by
 unfold Zaf ZgH
 simp only [Za6 Zrf,Za6 Zri]
theorem ZBt (r:Ru):wRu (ZgH r)=wRu r:=by
 unfold wRu ZgH
 simp only [ZdK ZxZ,ZdK ZBr]
mutual
theorem Zrj:∀u:Un,unT (U2 u)=unT u
 | .mk a b c d e f=>by
  rw [U2,unT,unT,Zrk d,Zfx (er:=ZnT) (f:=tyT) fun x=>rfl,Zfx (er:=ZnU) (f:=reT) fun x=>rfl,Zfx (er:=ZnV) (f:=inT) fun x=>rfl,Zfx (er:=ZnW) (f:=ovT) fun x=>rfl,Zfx (f:=fun r=>ruT r++[10]) fun x=>by rw [ZBs]]
theorem ZBu:∀c:Co,coT (ZfW c)=coT c
 | .mk nm ps base tys u a=>by rw [ZfW,coT,coT,Zrj u]
theorem Zrk:∀l:List Co,Zmq (ZaJ l)=Zmq l
 | []=>by rw [ZaJ]
 | x::l=>by rw [ZaJ,Zmq,Zmq,ZBu x,Zrk l]
end
mutual
theorem Zls:∀u:Un,Za1 (U2 u)=Za1 u
 | .mk a b c d e f=>by
  rw [U2,Za1,Za1,ZjJ d,Za6 (er:=ZnT) (p:=Ym) fun x=>rfl,Za6 (er:=ZnU) (p:=XN) fun x=>rfl,Za6 (er:=ZnV) (p:=XX) fun x=>rfl,Za6 (er:=ZnW) (p:=W4) fun x=>rfl,Za6 Ztg]
theorem Zti:∀c:Co,Yc (ZfW c)=Yc c
 | .mk nm ps base tys u a=>by rw [ZfW,Yc,Yc,Zls u]
theorem ZjJ:∀l:List Co,ZdE (ZaJ l)=ZdE l
 | []=>by rw [ZaJ]
 | x::l=>by rw [ZaJ,ZdE,ZdE,Zti x,ZjJ l]
end
mutual
theorem Zlt:∀u:Un,ZgJ (U2 u)=ZgJ u
 | .mk a b c d e f=>by rw [U2,ZgJ,ZgJ,ZjK d,Za6 Zth]
theorem Ztj:∀c:Co,ZaK (ZfW c)=ZaK c
 | .mk nm ps base tys u a=>by rw [ZfW,ZaK,ZaK,Zlt u]
theorem ZjK:∀l:List Co,Za3 (ZaJ l)=Za3 l
 | []=>by rw [ZaJ]
 | x::l=>by rw [ZaJ,Za3,Za3,Ztj x,ZjK l]
end
mutual
theorem Zrl:∀u:Un,wUn (U2 u)=wUn u
 | .mk a b c d e f=>by
  rw [U2,wUn,wUn,Zrm d,ZdK (er:=ZnT) (w:=wTy) fun x=>rfl,ZdK (er:=ZnU) (w:=wRe) fun x=>rfl,ZdK (er:=ZnV) (w:=wIn) fun x=>rfl,ZdK (er:=ZnW) (w:=wOv) fun x=>rfl,ZdK ZBt]
theorem ZBv:∀c:Co,wCo (ZfW c)=wCo c
 | .mk nm ps base tys u a=>by rw [ZfW,wCo,wCo,Zrl u]
theorem Zrm:∀l:List Co,Zqj (ZaJ l)=Zqj l
 | []=>by rw [ZaJ]
 | x::l=>by rw [ZaJ,Zqj,Zqj,ZBv x,Zrm l]
end
theorem ZBw {u v:Un} (h:U2 v=U2 u):unT v=unT u:=by rw [← Zrj v,h,Zrj]
theorem Zop {u v:Un} (h:U2 v=U2 u):Za1 v=Za1 u:=by rw [← Zls v,h,Zls]
theorem Zoq {u v:Un} (h:U2 v=U2 u):ZgJ v=ZgJ u:=by rw [← Zlt v,h,Zlt]
theorem Zrn {u v:Un} (h:U2 v=U2 u):wUn v=wUn u:=by rw [← Zrl v,h,Zrl]
theorem Zfy:∀(f:Nat) (r out q:Bs),W2 f r out=some q→q.length≤out.length+4 * r.length
 | 0,r,out,q,h=>by simp [W2] at h
 | f+1,r,out,q,h=>by
  unfold W2 at h
  split at h
  ·cases h;omega
  ·rename_i hr
   have hd:=Lib.decodeL_le r hr
   have hg:=Jh r
   split at h
   ·have:=Zfy f _ _ _ h
    simp only [Ta,Tc,Td,Tu] at this;omega
   ·split at h
    ·cases h
    ·have:=Zfy f _ _ _ h
     have h4:=ZCd (Lib.decodeL r).1
     simp only [Ta,Tu] at this;omega
theorem Ztk (s:Bs):(Zqf s).length≤4 * s.length+2:=by
 unfold Zqf Vj
 split
 ·cases hq:W2 (s.length+1) s [34] with
  | none=>simp
  | some q =>
   have:=Zfy _ _ _ _ hq
   simp only [Sx,Option.getD_some,Ta,Tc,Td] at this ⊢;omega
 ·simp
theorem Ztl {n:Int} (h0:-9223372036854775808≤n) (h1:n<9223372036854775808):(Zd1 n).length≤20:=by
 unfold Zd1
 split
 ·have h:=(UX (base:=16) (.inr rfl) ((n+18446744073709551616).toNat+1) (n+18446744073709551616).toNat (by omega)).2.2.2 15 (by
   have:(16:Nat) ^ (15+1)=18446744073709551616:=by decide
   omega)
  simp only [Ta,Tc,Td,Yx];omega
 ·have h:=(UX (base:=10) (.inl rfl) (n.toNat+1) n.toNat (by omega)).2.2.2 18 (by
   have:(10:Nat) ^ (18+1)=10000000000000000000:=by decide
   omega)
  rw [Yx];omega
theorem Ztm (op:Nat):(ZE op).length≤6:=by
 by_cases h:op<26
 ·have hk:∀o:Fin 26,(ZE o.val).length≤6:=by decide
  exact hk ⟨op,h⟩
 ·unfold ZE
  (repeat rw [Te (by omega)])
  decide
def Zuh (l:List (Nat×Bs)):Nat:=(l.map fun p=>p.2.length+4).sum
theorem UY (l:List Bs):(Zf cmm l).length≤(l.map fun s=>s.length+4).sum:=by
 match l with
 | []=>exact Sa _
 | [x]=>simp [Zf]
 | x::y::l =>
  have ih:=UY (y::l)
  rw [Zf]
  ·simp only [Ta,Tw,List.sum_cons] at ih ⊢
   have:cmm.length=2:=rfl
   omega
  ·intro h;cases h
theorem Zh4 (w:Nat) (p:Nat×Bs):(Zqg w p).length≤p.2.length+2:=by
 unfold Zqg;split
 ·exact m91
 ·omega
theorem Zro (w1 w2:Nat) (sep:Bs) (l:List (Nat×Bs)):(exA w1 w2 sep l).length≤Zuh l+sep.length:=by
 match l with
 | []=>simp [exA]
 | [a]=>have:=Zh4 w1 a;simp only [exA,Zuh,Tw,TF,List.sum_cons,List.sum_nil];omega
 | a::b::l =>
  have h1:=Zh4 w1 a
  have h2:=Zh4 w2 b
  simp only [exA,Zuh,Tw,List.sum_cons,Ta];omega
theorem Zrp (op:Nat) (t:Bs) (n:Int) (l:List (Nat×Bs)) (h0:-9223372036854775808≤n) (h1:n<9223372036854775808):(exN op t n l).length≤Zuh l+5 * t.length+30:=by
 have hw:=Ztm op
 have hn:=Ztl h0 h1
 have hq:=Ztk t
 have hc:(Zf cmm (l.map Prod.snd)).length≤Zuh l:=by
  have:=UY (l.map Prod.snd)
  rw [TL] at this
  exact this
 unfold exN
 split
 ·have:=Zro (Zl op) (Zl op+1) ([32]++(ZE op++[32])) l
  simp only [Ta,Tc,Td] at this;omega
 split
 ·have:=Zro 5 5 [] l
  simp only [Ta,Td] at this ⊢;omega
 split
 ·exact m91
 split
 ·exact m91
 split
 ·simp only [Ta,Tc,Td]
  split
  ·simp only [Td];omega
  ·exact m91
 split
 ·omega
 split
 ·omega
 split
 ·simp only [Tc,Td];omega
 split
 ·simp only [Tc,Td];omega
 ·omega
mutual
theorem Zfz:∀e:Ex,Zcl e=true→(exT e).length+4≤64 * wE e
 | .mk op t n l a,h=>by
  obtain ⟨r1,r2⟩:=Zc4 h
  have ih:=Zdc l (by rw [WM];exact Tl.2 r2)
  have:=Zrp op t n (Zin l) r1.1 r1.2
  rw [exT,wE];omega
theorem Zdc:∀l:List Ex,Zfc l=true→Zuh (Zin l)≤64 * wEs l
 | [],h=>by rw [Zin];simp [Zuh]
 | x::l,h=>by
  rw [Zfc,Tj] at h
  have h1:=Zfz x h.1
  have h2:=Zdc l h.2
  rw [Zin,wEs]
  unfold Zuh at h2 ⊢
  simp only [Tw,List.sum_cons];omega
end
theorem Zrq {α:Type} {T:α→Bs} {w:α→Nat}:∀l:List α,(∀x∈l,(T x).length+4≤64 * w x)→(l.map fun x=>(T x).length+4).sum≤64 * szS w l
 | [],h=>Sa _
 | x::l,h=>by
  have h1:=h x (by simp)
  have h2:=Zrq l fun y hy=>h y (Tp _ hy)
  simp only [Tw,List.sum_cons,szS];omega
theorem ZbG {α:Type} {T:α→Bs} {w:α→Nat} {l:List α} (h:∀x∈l,(T x).length+4≤64 * w x):(Zf cmm (l.map T)).length≤64 * szS w l:=by
 have h1:=UY (l.map T)
 rw [TL] at h1
 exact Sh h1 (Zrq l h)
theorem VU {α:Type} {T:α→Bs} {w:α→Nat}:∀{l:List α},(∀x∈l,(T x).length+4≤64 * w x)→((l.map T).flatten).length≤64 * szS w l
 | [],h=>Sa _
 | x::l,h=>by
  have h1:=h x (by simp)
  have h2:=VU (l:=l) fun y hy=>h y (Tp _ hy)
  simp only [Tw,T7,Ta,szS];omega
theorem Zlu:∀{l:List Ex},(∀x∈l,Zcl x=true)→(Zjr l).length+(Zmp l.tail).length≤64 * szS wE l∧(Zjr l).length+(Zjr l.tail).length≤64 * szS wE l
 | [],h=>by simp [Zjr,Zmp]
 | x::l,h=>by
  have h1:=Zfz x (h x (by simp))
  have h2:=VU (T:=fun e=>[32]++exT e) (w:=fun e=>wE e) (l:=l) fun y hy=>by
   have:=Zfz y (h y (Tp _ hy))
   cases y with
   | mk o t n a b =>
    have hw:1≤wE (.mk o t n a b):=by rw [wE];omega
    have h3:=Zrp o t n (Zin a) (Zc4 (h _ (Tp _ hy))).1.1 (Zc4 (h _ (Tp _ hy))).1.2
    have h4:=Zdc a (by rw [WM];exact Tl.2 (Zc4 (h _ (Tp _ hy))).2)
    simp only [Ta,Tc,Td]
    rw [exT,wE];omega
  refine ⟨?_,?_⟩
  ·show (exT x).length+(Zmp l).length≤64 * szS wE (x::l)
   rw [szS];unfold Zmp
   have:szS (fun e=>wE e) l=szS wE l:=rfl
   omega
  ·show (exT x).length+(Zjr l).length≤64 * szS wE (x::l)
   cases l with
   | nil=>rw [szS,szS];simp [Zjr];omega
   | cons y l =>
    have h5:=Zfz y (h y (by simp))
    rw [szS,szS];simp only [Zjr];omega
theorem Zx3 (op:Nat):(Zqi op).length≤4:=by unfold Zqi;(repeat' split) <;> decide
theorem Zx4 (op:Nat):(Zab op).length≤5:=by unfold Zab;(repeat' split) <;> decide
theorem ZjL {fr fin:Bs} {l:List Ex} (h:∀x∈l,Zcl x=true):(Wt fr fin l).length≤fr.length+64 * szS wE l+fin.length:=by
 have:=ZbG (T:=exT) (w:=wE) fun x hx=>Zfz x (h x hx)
 unfold Wt Zt0
 simp only [Ta];omega
mutual
theorem Zx5:∀x:Li,Zfd x=true→(liT x).length+4≤64 * wL x
 | .mk op rel args body a,h=>by
  obtain ⟨r1,r2⟩:=Zk1 h
  have h1:=Zh5 body (by rw [Uf];exact Tl.2 r2)
  have h2:=ZjL (fr:=[40]) (fin:=[41]) r1
  obtain ⟨h3,h4⟩:=Zlu r1
  have h5:=Zx3 op
  have h6:=Zx4 op
  have h7:=UY (Zio body)
  rw [liT,wL]
  simp only [Tc,Td] at h2
  split
  ·exact m91
  split
  ·simp only [Ta];omega
  split
  ·simp only [Ta];omega
  ·exact m91
theorem Zh5:∀l:List Li,ZfZ l=true→((Zio l).map fun s=>s.length+4).sum≤64 * wLs l
 | [],h=>by rw [Zio];simp
 | x::l,h=>by
  rw [ZfZ,Tj] at h
  have h1:=Zx5 x h.1
  have h2:=Zh5 l h.2
  rw [Zio,wLs]
  simp only [Tw,List.sum_cons];omega
end
theorem Zx6 {r:Ru} (h:Zaf r=true):(ruT r).length+10≤64 * wRu r:=by
 simp only [Zaf,Tj] at h
 have r1:=Tl.1 h.1
 have r2:=Tl.1 h.2
 have h1:=ZjL (fr:=[40]) (fin:=[41]) r1
 have h2:=Zh5 r.body (by rw [Uf];exact h.2)
 have h3:=UY (Zio r.body)
 rw [Vk] at h2
 unfold ruT wRu
 simp only [Tc,Td] at h1
 split
 ·exact m91
 ·exact m91
theorem Zx7 (f:Fi):(fiT f).length+4≤64 * wFi f:=by
 unfold fiT wFi;simp only [Ta,Tc,Td];omega
theorem Zlv (fr fin:Bs) (l:List Fi):(Um fr l fin).length≤fr.length+64 * szS wFi l+fin.length:=by
 have:=ZbG (T:=fiT) (w:=wFi) (l:=l) fun x _=>Zx7 x
 unfold Um
 simp only [Ta];omega
theorem Zx8 (c:Ca):(caT c).length+4≤64 * wCa c:=by
 have:=Zlv (c.name++[32,123]) [125] c.fields
 unfold caT wCa
 simp only [Ta,Tc,Td] at this ⊢;omega
theorem ZgP (l:List Bs):(Zf [32,124,32] l).length≤(l.map fun s=>s.length+4).sum:=by
 match l with
 | []=>exact Sa _
 | [x]=>simp [Zf]
 | x::y::l =>
  have ih:=ZgP (y::l)
  rw [Zf]
  ·simp only [Ta,Tw,List.sum_cons,Tc,Td] at ih ⊢
   omega
  ·intro h;cases h
theorem Zx9 (t:Ty):(tyT t).length+4≤64 * wTy t:=by
 have h1:=Zlv [32,61,32,91] [93] t.fields
 have h2:=ZgP (t.cases.map caT)
 rw [TL] at h2
 have h3:=Zrq (T:=caT) (w:=wCa) t.cases fun x _=>Zx8 x
 have h4:(t.cases.map fun x=>(caT x).length+4).sum=(t.cases.map ((fun s:Bs=>s.length+4)∘caT)).sum:=rfl
 rw [h4] at h3
 unfold tyT wTy
 simp only [Tc,Td] at h1
 simp only [Ta,Tc,Td]
 split
 ·exact m91
 split
 ·omega
 ·exact m91
theorem Zya (d:Re):(reT d).length+4≤64 * wRe d:=by
 have h1:=Zlv ([100,101,99,108,32]++(d.name++[40])) [41] d.fields
 have hi:∀(b:Bool) (s:Bs),(if b then s else []).length≤s.length:=fun b s=>by cases b <;> simp
 have i1:=hi d.inn [32,105,110,112,117,116]
 have i2:=hi d.out [32,111,117,116,112,117,116]
 have i3:=hi d.inl [32,105,110,108,105,110,101]
 unfold reT wRe
 simp only [Ta,Tc,Td] at h1 i1 i2 i3 ⊢;omega
theorem Zlw (l:List Bs):(JK l).length≤2+64 * szS wBs l:=by
 have h1:=ZbG (T:=fun s:Bs=>s) (w:=wBs) (l:=l) fun x _=>by unfold wBs;omega
 rw [List.map_id'] at h1
 unfold JK
 split
 ·simp
 ·exact m91
theorem Zyb (i:Ini):(inT i).length+4≤64 * wIn i:=by
 have:=Zlw i.types
 unfold inT wIn
 exact m91
theorem Zyc (o:Ov):(ovT o).length+4≤64 * wOv o:=by
 unfold ovT wOv
 exact m91
mutual
theorem Zlx:∀u:Un,ZgJ u=true→(unT u).length+4≤64 * wUn u
 | .mk a b c d e f,h=>by
  simp only [ZgJ,Tj] at h
  have r1:=Tl.1 h.1
  have h1:=VU (T:=tyT) (w:=wTy) (l:=a) fun x _=>Zx9 x
  have h2:=VU (T:=reT) (w:=wRe) (l:=b) fun x _=>Zya x
  have h3:=VU (T:=fun r=>ruT r++[10]) (w:=wRu) (l:=c) fun x hx=>by
   have:=Zx6 (r1 x hx)
   exact m91
  have h4:=ZmT d h.2
  have h5:=VU (T:=inT) (w:=wIn) (l:=e) fun x _=>Zyb x
  have h6:=VU (T:=ovT) (w:=wOv) (l:=f) fun x _=>Zyc x
  rw [unT,wUn]
  simp only [Ta];omega
theorem Zyd:∀c:Co,ZaK c=true→(coT c).length+4≤64 * wCo c+64
 | .mk nm ps base tys u a,h=>by
  rw [ZaK] at h
  have h1:=Zlx u h
  have h2:=Zlw ps
  have h3:=Zlw tys
  rw [coT,wCo]
  split
  ·exact m91
  ·exact m91
theorem ZmT:∀l:List Co,Za3 l=true→((Zmq l).flatten).length≤64 * Zqj l
 | [],h=>by rw [Zmq];simp
 | x::l,h=>by
  rw [Za3,Tj] at h
  have h1:=Zyd x h.1
  have h2:=ZmT l h.2
  rw [Zmq,Zqj]
  simp only [T7,Ta];omega
end
end Go.PM.Lex
end

section
namespace Go.PM.Lex
open Go.Proofs
variable {w0:World} {nG:Nat}
noncomputable def Zor (n:Nat):Zz:=fun args σ K=>match args,σ with
 | [.agg c],⟨[],[],0⟩=>∃pl x,c=(XK pl x).map .d∧((Za1 x=true→ZgJ x=true)∧wUn x≤n∧n≤16777216) ∧
   ((Za1 x=false→K (.ret (.tuple [.d (.str []),.d (.int .i64 160)])) ⟨[],[],0⟩)∧(Za1 x=true→∀r,Y5 65536 16384 VJ (unT x)=r→K (.ret (.tuple [.d (.str (Ve (unT x) r).1),.d (.int .i64 (Ve (unT x) r).2)])) ⟨[],[],0⟩))
 | _,_=>False
theorem Zos (n:Nat):Zc (Zor n):=fun args σ K K' hK h=>by
 unfold Zor at h ⊢
 exact m120
noncomputable def ZBx (n:Nat):Tbl:=[(67,Xq (Xd XK) Za1 wUn n),(68,ZxB n),(31,VT),(28,Ze3),(32,ZgK)]
theorem ZBy {n:Nat} (ht:TblOK (GG w0 nG) (ZBx n)):PCalls (GG w0 nG) 26 (Zor n):=by
 refine pc ht Tryz.func26 ?_
 intro args σ K h
 unfold Zor at h
 split at h
 ·obtain ⟨pl,⟨u1,u2,u3,u4,u5,u6⟩,rfl,⟨hab,hz,hn⟩,ha,hb⟩:=h
  refine ⟨Za [],0,true,by simp,Tb rfl,?_⟩
  conv=>whnf
  refine ⟨pl,(.mk u1 u2 u3 u4 u5 u6),rfl,⟨hz,by omega⟩,fun b hb1=>?_⟩
  cases b with
  | false =>
   conv=>whnf
   exact ha hb1
  | true =>
   have h1:=hab hb1
   have h2:=Zlx _ h1
   have hb:=hb hb1
   conv=>whnf
   refine ⟨[],unT (.mk u1 u2 u3 u4 u5 u6),rfl,⟨.inl rfl,rfl,rfl⟩,⟨pl,(.mk u1 u2 u3 u4 u5 u6),rfl,⟨by rw [ZyF,hb1,h1];rfl,hz,by omega⟩,rfl⟩,by simp only [Td];omega,fun p' hp'=>?_⟩
   obtain ⟨T,hT⟩:∃T,unT (.mk u1 u2 u3 u4 u5 u6)=T:=⟨_,rfl⟩
   rw [hT] at hb h2 ⊢
   rcases hp' with rfl | rfl
   all_goals
    conv=>whnf
    refine ⟨T,⟨rfl,rfl,rfl,(by first | exact .inl rfl | exact .inr rfl),by omega⟩,?_⟩
    conv=>whnf
    refine ⟨by omega,fun x hx=>?_⟩
    have hb:=hb x hx
    cases x with
    | ok v L =>
     obtain ⟨v1,v2,v3,v4,v5,v6⟩:=v
     unfold Zsy
     dsimp only
     conv=>whnf
     refine ⟨T,⟨rfl,rfl,rfl,(by first | exact .inl rfl | exact .inr rfl),by omega⟩,?_⟩
     conv=>whnf
     refine ⟨fun g=>absurd g (by decide),fun _=>?_⟩
     conv=>whnf
     exact hb
    | err p c =>
     conv=>whnf
     refine ⟨T,⟨rfl,rfl,rfl,(by first | exact .inl rfl | exact .inr rfl),by omega⟩,?_⟩
     exact m102
 ·exact h.elim
theorem ZDT (hg:GlobOK w0 nG) (hN:NumOK w0 nG) (hL:LexC w0 nG) (n:Nat):PCalls (GG w0 nG) 26 (Zor n) :=
 ZBy ⟨⟨ZDu hL n,Zw _ _ _ _⟩,⟨cWU hN hL n,Zfo n⟩,⟨Zc5,Uo⟩,⟨Zze hg,Ze4⟩,⟨Zqv,Zfe⟩,trivial⟩
end Go.PM.Lex
end

section
namespace Go.PM.Lex
end Go.PM.Lex
end
