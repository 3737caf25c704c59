/- A part of the proof: plain logic, contracts and laws over the given program. -/
import Derived.Lib.LaidTab
import Derived.Lib.MapLaws
import Derived.Test.YtflgockgjnddnaaGreatDoorK08
set_option linter.unusedVariables false
set_option linter.unusedSimpArgs false
set_option linter.all false
set_option maxRecDepth 100000
set_option maxHeartbeats 16000000
section
namespace Go.PM.Lex
def ruK (r:Ru):Ts:=nmT r.head::(brK [40] [41] (r.args.map exK)++((if 0<r.body.length then sgT [58,45]::UM [44] (r.body.map liK) else [])++[sgT [46]]))
def fiK (f:Fi):Ts:=[nmT f.name,sgT [58],nmT f.typ]
def Zvn (fr:Bs) (l:List Fi) (fin:Bs):Ts:=sgT fr::(UM [44] (l.map fiK)++[sgT fin])
def Zvo (l:List Bs):Ts:=if l.length=0 then [] else sgT [60]::(UM [44] (l.map fun s=>[nmT s])++[sgT [62]])
def caK (c:Ca):Ts:=nmT c.name::Zvn [123] c.fields [125]
def tyK (t:Ty):Ts:=nmT [116,121,112,101]::nmT t.name::(if t.kind=1 then [sgT [60,58],nmT t.base] else if t.kind=2 then sgT [61]::Zvn [91] t.fields [93] else sgT [61]::UM [124] (t.cases.map caK))
theorem ZoB {t:Ty} (h:Z0 t=true):YP t.name=true∧(∀f∈t.fields,YG f=true)∧(∀c∈t.cases,Xr c=true) ∧
  ((t.kind=1∧YP t.base=true∧t.fields=[]∧t.cases=[])∨(t.kind=2∧t.base=[]∧t.cases=[])∨(t.kind=3∧t.base=[]∧t.fields=[]∧t.cases≠[])):=by
 simp only [Z0,Tj] at h
 obtain ⟨h1,h2,h3,h4⟩:=h
 refine ⟨h2,Tl.1 h3,Tl.1 h4,?_⟩
 unfold Zay at h1
 split at h1
 ·rename_i c
  simp only [Tj,Tz] at h1
  exact .inl ⟨c,h1.1,TQ h1.2.1,TQ h1.2.2⟩
 ·split at h1
  ·rename_i c
   simp only [Tj,Tz] at h1
   exact .inr (.inl ⟨c,h1.1,TQ h1.2⟩)
  ·split at h1
   ·rename_i c
    simp only [Tj,Tz,TS,decide_eq_false_iff_not] at h1
    exact .inr (.inr ⟨c,h1.1,TQ h1.2.1,fun e=>h1.2.2 (by rw [e];rfl)⟩)
   ·cases h1
def Zpt (i o n:Bool):Ts:=(if i then [nmT [105,110,112,117,116]] else [])++((if o then [nmT [111,117,116,112,117,116]] else [])++(if n then [nmT [105,110,108,105,110,101]] else []))
def reK (d:Re):Ts:=nmT [100,101,99,108]::nmT d.name::(Zvn [40] d.fields [41]++Zpt d.inn d.out d.inl)
def inK (i:Ini):Ts:=nmT [105,110,105,116]::nmT i.name::sgT [61]::nmT i.comp::Zvo i.types
def ovK (o:Ov):Ts:=[nmT [111,118,101,114,114,105,100,101],nmT o.rel]
mutual
def unK:Un→Ts
 | .mk tys rels rules comps inits overs=>(tys.map tyK).flatten++((rels.map reK).flatten++((Zvp comps).flatten++((inits.map inK).flatten++((overs.map ovK).flatten++(rules.map ruK).flatten))))
def coK:Co→Ts
 | .mk nm ps base tys u _=>nmT [99,111,109,112]::nmT nm::(Zvo ps++((if base=[] then [] else sgT [58]::nmT base::Zvo tys)++(sgT [123]::(unK u++[sgT [125]]))))
def Zvp:List Co→List Ts
 | []=>[]
 | c::l=>coK c::Zvp l
end
theorem Zsx {tys:List Ty} {rels:List Re} {rules:List Ru} {comps:List Co} {inits:List Ini} {overs:List Ov} (h:ZbL (.mk tys rels rules comps inits overs)=true) :
  (∀x∈tys,Z0 x=true)∧(∀x∈rels,XQ x=true)∧(∀x∈rules,Yq x=true)∧(∀x∈comps,ZP x=true)∧(∀x∈inits,Wa x=true)∧∀x∈overs,WK x=true:=by
 simp only [ZbL,Wb,Tj] at h
 obtain ⟨h1,h2,h3,h4,h5,h6⟩:=h
 exact ⟨Tl.1 h1,Tl.1 h2,Tl.1 h3,Tl.1 h4,Tl.1 h5,Tl.1 h6⟩
theorem ZoC {nm:Bs} {ps:List Bs} {base:Bs} {tys:List Bs} {u:Un} {a:Nat} (h:ZP (.mk nm ps base tys u a)=true):YP nm=true∧(∀x∈ps,YP x=true)∧(∀x∈tys,YP x=true)∧((base=[]∧tys=[])∨YP base=true)∧ZbL u=true:=by
 simp only [ZP,Tj,Sj,Tz] at h
 obtain ⟨h1,h2,h3,h4,h5⟩:=h
 refine ⟨h1,Tl.1 h2,Tl.1 h3,?_,h5⟩
 rcases h4 with ⟨e1,e2⟩ | h4
 ·exact .inl ⟨e1,TQ e2⟩
 ·exact .inr h4
end Go.PM.Lex
end

section
namespace Go.PM.Lex
open Go.Proofs Go.RowKit
variable {w0:World} {nG:Nat}
noncomputable def Zvq:Tbl:=[(75,ZdQ)]
theorem Zvr {n:Nat}:PCalls (GG w0 nG) 196 (Zdh (YH (fun _=>ZN)) YG fiT wFi n):=by
 refine pc (tbl:=Zvq) ⟨⟨Jn,Yv⟩,trivial⟩ Tryz.func196 ?_
 intro args σ K h
 unfold Zdh at h
 split at h
 ·obtain ⟨l,pl,⟨nm,ty⟩,rfl,rfl,⟨rfl,rfl⟩,⟨hmay,hz,hn⟩,hlen,h⟩:=h
  refine ⟨Zb [],2,true,by simp,Tb rfl,?_⟩
  conv=>whnf
  refine ⟨l,fiT ⟨nm,ty⟩,rfl,⟨.inr rfl,rfl,rfl⟩,⟨[nm,[58,32],ty],rfl,by simp,by simp,by simp [fiT]⟩,hlen,?_⟩
  exact m46
 ·exact h.elim
theorem Zyh (n:Nat):PCalls (GG w0 nG) 195 (ZkB 196 (fun _=>ZN) YG fiT wFi n):=Zr9 ⟨⟨ZmD,VE⟩,⟨Zvr,Zbd _ _ _ _ _⟩,trivial⟩
noncomputable def ZmQ (n:Nat):Zu:=Zhh (.tuple []) fun rest txt=>∃(fr fin:Bs) (xs:List Fi),rest=[.d (.str fr),.d (.sl (xs.map ZN)),.d (.str fin)]∧(xs.all YG=true∧szS wFi xs≤n∧n≤1073741824)∧txt=Vc fr xs fin
theorem Zbh (n:Nat):Zc (ZmQ n):=WN _ _
noncomputable def Zvs (n:Nat):Tbl:=[(75,ZdQ),(195,ZkB 196 (fun _=>ZN) YG fiT wFi n)]
theorem ZmR {n:Nat}:PCalls (GG w0 nG) 132 (ZmQ n):=by
 refine pc (tbl:=Zvs n) ⟨⟨Jn,Yv⟩,⟨Zyh n,ZaA _ _ _ _ _ _⟩,trivial⟩ Tryz.func132 ?_
 intro args σ K h
 unfold ZmQ Zhh at h
 split at h
 ·rename_i rest t p e rows
  obtain ⟨l,txt,rfl,⟨hp,rfl,rfl⟩,⟨fr,fin,xs,rfl,⟨hmay,hz,hn⟩,rfl⟩,hlen,h⟩:=h
  have key:l++Vc fr xs fin=l++fr++Zf cmm (xs.map fiT)++fin:=by simp only [Vc,Tk]
  rw [key] at h
  have hlen:l.length+(fr.length+((Zf cmm (xs.map fiT)).length+fin.length))<70368744177664:=by have:=hlen;simp only [Vc,Ta] at this;exact this
  refine ⟨Zb [],1,true,by simp,Tb rfl,?_⟩
  rcases hp with rfl | rfl
  all_goals
   conv=>whnf
   refine ⟨l,fr,rfl,⟨(by first | exact .inl rfl | exact .inr rfl),rfl,rfl⟩,⟨[fr],rfl,by simp,by simp,by simp⟩,by omega,?_⟩
   conv=>whnf
   refine ⟨l++fr,fun _=>0,xs,rfl,rfl,⟨rfl,rfl,rfl⟩,⟨hmay,hz,hn⟩,by rw [Ta];show _+(Zf cmm (xs.map fiT)).length<_;omega,?_⟩
   conv=>whnf
   refine ⟨l++fr++Zf cmm (xs.map fiT),fin,rfl,⟨.inr rfl,rfl,rfl⟩,⟨[fin],rfl,by simp,by simp,by simp⟩,by simp only [Ta];omega,?_⟩
   conv=>whnf
   exact h
 ·exact h.elim
noncomputable def Zvt (n:Nat):Tbl:=[(132,ZmQ n)]
theorem Zvu {n:Nat}:PCalls (GG w0 nG) 134 (Zdh (YH (fun _=>Z6)) Xr caT wCa n):=by
 refine pc (tbl:=Zvt n) ⟨⟨ZmR,Zbh n⟩,trivial⟩ Tryz.func134 ?_
 intro args σ K h
 unfold Zdh at h
 split at h
 ·obtain ⟨l,pl,⟨nm,fs⟩,rfl,rfl,⟨rfl,rfl⟩,⟨hmay,hz,hn⟩,hlen,h⟩:=h
  have hm:fs.all YG=true:=by simp only [Xr,Tj] at hmay;exact hmay.2
  have hz:nm.length+szS wFi fs≤n:=by unfold wCa at hz;simp only at hz;omega
  refine ⟨Zb [],2,true,by simp,Tb rfl,?_⟩
  conv=>whnf
  refine ⟨by simp only [Tc,Td];omega,?_⟩
  conv=>whnf
  refine ⟨l,caT ⟨nm,fs⟩,rfl,⟨.inr rfl,rfl,rfl⟩,⟨nm++[32,123],[125],fs,rfl,⟨hm,by omega,hn⟩,rfl⟩,hlen,?_⟩
  exact m46
 ·exact h.elim
theorem ZxV (n:Nat):PCalls (GG w0 nG) 133 (ZkB 134 (fun _=>Z6) Xr caT wCa n):=Zsb ⟨⟨ZmD,VE⟩,⟨Zvu,Zbd _ _ _ _ _⟩,trivial⟩
theorem JV (sep:Bs):∀l:List Bs,Lib.join l sep=Zf sep l
 | []=>rfl
 | [x]=>by simp [Lib.join,List.intercalate,Zf]
 | x::y::l=>by
  have ih:=JV sep (y::l)
  simp only [Lib.join,List.intercalate] at ih ⊢
  rw [Zf,← ih]
  ·simp
  ·intro h;cases h
theorem Zbi (l:List Bs):(Zf cmm l).length≤szS wBs l:=by
 match l with
 | []=>exact T4 _
 | [x]=>simp only [Zf,szS,wBs];omega
 | x::y::l =>
  have ih:=Zbi (y::l)
  rw [Zf]
  ·simp only [Ta,szS,wBs] at ih ⊢
   have:cmm.length=2:=rfl
   omega
  ·intro h;cases h
noncomputable def ZgY (n:Nat):Zu:=fun args σ K=>match args,σ with
 | [.d (.sl rows),.d (.str sp)],⟨[],[],0⟩=>∃l:List Bs,rows=l.map ZM∧(sp=cmm∧szS wBs l≤n∧n≤1073741824)∧K (.ret (.d (.str (Zf cmm l)))) ⟨[],[],0⟩
 | _,_=>False
theorem Zii (n:Nat):Zc (ZgY n):=fun args σ K K' hK h=>by
 unfold ZgY at h ⊢
 split at h
 ·obtain ⟨l,h1,h2,h3⟩:=h;exact ⟨l,h1,h2,hK _ _ h3⟩
 ·exact h.elim
theorem Zsy {n:Nat}:PCalls (GG w0 nG) 197 (ZgY n):=Yu (Zj Tryz.func197 (by kernel_rfl) rfl) fun args σ K h e w vs hS ha=>by
 unfold ZgY at h
 split at h
 ·rename_i rows sp
  obtain ⟨l,rfl,⟨rfl,hz,hn⟩,h⟩:=h
  obtain ⟨u,v,rfl,hu,hv⟩:=Zge ha
  cases hv.dstr
  have hcl:=Zbi l
  have hll:=ZW wBs l
  generalize hrows:l.map ZM=rows at hu
  have hnil:l=[]→Zf cmm l=[]:=fun e=>by rw [e];rfl
  have empty:∀a c,rows=[]→Calls Tryz.prog 197 #[.slice a 0 c,.string ⟨cmm.toArray⟩] w fun en w'=>en=.returned (.string ⟨(Zf cmm l).toArray⟩)∧Grows w w':=fun a c hr=>by
   have:l=[]:=by rw [hr] at hrows;simpa using hrows
   rw [hnil this]
   exact (Tryz.strings_Join_none a c _ w).mono fun en w' ⟨h1,h2⟩=>⟨h1,by rw [h2];exact Grows.refl _⟩
  refine ⟨_,h,.string ⟨(Zf cmm l).toArray⟩,fun _ _=>.mkstr,?_⟩
  cases hu with
  | d _ _ hd =>
   cases hd with
   | slnil=>exact empty _ _ rfl
   | slz a=>exact empty _ _ rfl
   | sl _ b off cap sz u hcap hsz hc ho hu =>
    have hlen:rows.length=l.length:=by rw [← hrows,Tf]
    by_cases h0:l=[]
    ·have hr:rows=[]:=by rw [← hrows,h0];rfl
     rw [hr]
     exact empty _ _ hr
    ·have hpos:=T5.2 h0
     have hsz1:sz=1:=by
      have:=hsz (ZM l[0]) (by rw [← hrows];exact List.mem_map_of_mem (TE hpos))
      simpa [ZM] using this.symm
     subst hsz1
     have hcell:∀(j:Nat) x,(l.map fun s=>(⟨s.toArray⟩:ByteArray))[j]?=some x→w.cell? ⟨b,off+j,none⟩=some (.string x):=fun j x hx=>by
      rw [TH] at hx
      obtain ⟨s,hs,rfl⟩:=Option.map_eq_some_iff.1 hx
      have hj:=(Tg.1 hs).1
      have h1:=hc j 0 (by omega) (by omega)
      have h2:=hu j 0 (.str s) (by rw [← hrows,TH,hs];rfl)
      generalize huu:u j 0=uu at h1 h2
      cases h2
      simpa using h1
     have hmap:(l.map fun s=>(⟨s.toArray⟩:ByteArray)).map (·.data.toList)=l:=by rw [TD];simp [Function.comp_def]
     have hj:=Tryz.strings_Join b off cap (l.map fun s=>(⟨s.toArray⟩:ByteArray)) ⟨cmm.toArray⟩ w hcell (by
      have:=hc 0 0 (by omega) (by omega)
      exact World.block_lt_of_cell? w _ this) (by rw [Tf];omega) (by rw [Tf];omega) (by rw [hmap,JV];show (Zf cmm l).length≤_;omega)
     rw [hmap,JV,Tf,← hlen] at hj
     exact hj.mono fun en w' ⟨h1,h2⟩=>⟨h1,Zyx h2⟩
 ·exact h.elim
noncomputable def ZmS (n:Nat):Zu:=fun args σ K=>match args,σ with
 | [.d (.sl rows)],⟨[],[],0⟩=>∃l:List Bs,rows=l.map ZM∧(szS wBs l≤n∧n≤1073741824)∧K (.ret (.d (.str (Jm l)))) ⟨[],[],0⟩
 | _,_=>False
theorem ZeA (n:Nat):Zc (ZmS n):=fun args σ K K' hK h=>by
 unfold ZmS at h ⊢
 split at h
 ·obtain ⟨l,h1,h2,h3⟩:=h;exact ⟨l,h1,h2,hK _ _ h3⟩
 ·exact h.elim
noncomputable def Zvv (n:Nat):Tbl:=[(197,ZgY n)]
theorem Zpu {n:Nat}:PCalls (GG w0 nG) 135 (ZmS n):=by
 refine pc (tbl:=Zvv n) ⟨⟨Zsy,Zii n⟩,trivial⟩ Tryz.func135 ?_
 intro args σ K h
 unfold ZmS at h
 split at h
 ·obtain ⟨l,rfl,⟨hz,hn⟩,h⟩:=h
  have hl:(l.map ZM).length=l.length:=Tf ..
  have hcl:=Zbi l
  refine ⟨Zb [],0,false,by simp,Tb rfl,?_⟩
  conv=>whnf
  refine Zyq (fun c=>?_) (fun c=>?_)
  ·have c:l.length=0:=by have c:((l.map ZM).length:Int)=0:=c;omega
   rw [Jm,Ti c] at h
   exact m46
  ·have c:¬l.length=0:=by have c:¬((l.map ZM).length:Int)=0:=c;omega
   rw [Jm,Te c] at h
   conv=>whnf
   refine ⟨l,rfl,⟨rfl,hz,hn⟩,?_⟩
   generalize Zf cmm l=T at h hcl ⊢
   conv=>whnf
   refine ⟨by simp only [Tc,Td];omega,?_⟩
   conv=>whnf
   refine ⟨by simp only [Ta,Tc,Td];omega,?_⟩
   exact m46
 ·exact h.elim
end Go.PM.Lex
end

section
namespace Go.PM.Lex
open Go.Proofs
variable {w0:World} {nG:Nat}
def ZtC (x:Un):Bool:=ZbL x && ZkR x
def ZoD (x:Co):Bool:=ZP x && ZbZ x
theorem Zsz {tys:List Ty} {rels:List Re} {rules:List Ru} {comps:List Co} {inits:List Ini} {overs:List Ov} (h:ZtC (.mk tys rels rules comps inits overs)=true) :
  (∀x∈tys,Z0 x=true)∧(∀x∈rels,XQ x=true)∧(∀x∈rules,ZtA x=true)∧∀x∈comps,ZoD x=true:=by
 simp only [ZtC,Tj] at h
 obtain ⟨h,hr⟩:=h
 obtain ⟨m1,m2,m3,m4,m5,m6⟩:=Zsx h
 simp only [ZkR,ZgW,Tj] at hr
 have r1:=Tl.1 hr.1
 have r2:=Tl.1 hr.2
 exact ⟨m1,m2,fun x hx=>by rw [ZtA,m3 x hx,r1 x hx];rfl,fun x hx=>by rw [ZoD,m4 x hx,r2 x hx];rfl⟩
theorem ZoE {nm:Bs} {ps:List Bs} {base:Bs} {tys:List Bs} {u:Un} {a:Nat} (h:ZoD (.mk nm ps base tys u a)=true):ZtC u=true:=by
 simp only [ZoD,Tj] at h
 rw [ZtC,(ZoC h.1).2.2.2.2]
 have:=h.2
 rw [ZbZ] at this
 rw [this];rfl
def Zns (r:Ru):Bs:=ruT r++[10]
noncomputable def ZoF (body:List PV→Bs→Prop):Zu:=fun args σ K=>match args,σ with
 | .ptr 0 0::rest,⟨[.cells t [p,.sl 0 e rows]],[0],1⟩=>∃l txt,rows=Zi l∧((p=.d .nilp∨p=.ptr 0 0)∧t=84∧e=5)∧body rest txt∧l.length+txt.length<70368744177664 ∧
   ∀p',(p'=.d .nilp∨p'=.ptr 0 0)→K (.ret (.tuple [])) ⟨[.cells t [p',.sl 0 e (Zi (l++txt))]],[0],1⟩
 | _,_=>False
theorem ZkG (body:List PV→Bs→Prop):Zc (ZoF body):=fun args σ K K' hK h=>by
 unfold ZoF at h ⊢
 split at h
 ·obtain ⟨l,txt,h1,h2,h3,h4,h5⟩:=h;exact ⟨l,txt,h1,h2,h3,h4,fun p' hp=>hK _ _ (h5 p' hp)⟩
 ·exact h.elim
noncomputable def ZsA (n:Nat):Zu:=ZoF fun rest txt=>∃pl x,rest=[YH XF pl x]∧(ZtC x=true∧wUn x≤n∧n≤1073741824)∧txt=unT x
theorem Zdq (n:Nat):Zc (ZsA n):=ZkG _
theorem VG {α:Type} (T:α→Bs) {xs:List α} {i:Nat} (h:i<xs.length):((xs.take (i+1)).map T).flatten=((xs.take i).map T).flatten++T xs[i]:=by
 rw [List.take_succ_eq_append_getElem h,List.map_append,List.flatten_append];simp
theorem Zbj {α:Type} (T:α→Bs) (xs:List α) (i:Nat):((xs.take i).map T).flatten.length≤(xs.map T).flatten.length:=by
 have e:(xs.map T).flatten=((xs.take i).map T).flatten++((xs.drop i).map T).flatten:=by rw [← List.flatten_append,← List.map_append,List.take_append_drop]
 rw [e,Ta];omega
noncomputable def Zvw (n:Nat):Tbl:=[(75,ZdQ),(132,ZmQ n),(133,ZkB 134 (fun _=>Z6) Xr caT wCa n),(135,ZmS n),(64,ZtB n),(68,spB ZsA n)]
theorem Zvx {n:Nat} (ht:TblOK (GG w0 nG) (Zvw n)):PCalls (GG w0 nG) 68 (ZsA n):=by
 refine ZpS Y6 mixed (tbl:=Zvw n) ht Tryz.func68 rfl (by kernel_rfl) (by kernel_rfl) ?_
 intro args σ K h
 unfold ZsA ZoF at h
 split at h
 ·rename_i rest t p e rows
  obtain ⟨l,txt,rfl,⟨hp,rfl,rfl⟩,⟨pl,⟨tys,rels,rules,comps,inits,overs⟩,rfl,⟨hmay,hz,hn⟩,rfl⟩,hlen,h⟩:=h
  obtain ⟨m1,m2,m3,m4⟩:=Zsz hmay
  have hz:szS wTy tys+szS wRe rels+szS wRu rules+szS wCo comps+szS wIn inits+szS wOv overs+1≤n:=by rw [wUn,Zfl] at hz;omega
  have hu:unT (.mk tys rels rules comps inits overs)=(tys.map tyT).flatten++((rels.map reT).flatten++((comps.map coT).flatten++((inits.map inT).flatten++((overs.map ovT).flatten++(rules.map Zns).flatten)))):=by rw [unT,ZqX];rfl
  rw [hu] at hlen
  simp only [Ta] at hlen
  have h:∀p',(p'=.d .nilp∨p'=.ptr 0 0)→K (.ret (.tuple [])) ⟨[.cells 84 [p',.sl 0 5 (Zi (l++(tys.map tyT).flatten++(rels.map reT).flatten++(comps.map coT).flatten++(inits.map inT).flatten++(overs.map ovT).flatten++(rules.map Zns).flatten))]],[0],1⟩:=by
   rw [hu] at h;simpa only [Tk] using h
  have ec:Zgs pl comps=comps.map (YM pl):=Zal pl comps
  have s1:=ZW wTy tys
  have s2:=ZW wRe rels
  have s3:=ZW wRu rules
  have s4:=ZW wCo comps
  have s5:=ZW wIn inits
  have s6:=ZW wOv overs
  refine ⟨Zb [(2,⟨[21],[2,3,19,20],fun vs σ=>∃(i:Nat) (P:PV),vs=[.d (.int .i64 i)]∧σ=⟨[.cells 84 [P,.sl 0 5 (Zi (l++((tys.take i).map tyT).flatten))],.cells 78 [.ptr 0 0],.cells 44 ((XF pl (.mk tys rels rules comps inits overs)).map .d)],[0],1⟩∧(P=.d .nilp∨P=.ptr 0 0)∧i≤tys.length,fun vs _=>match vs with | [.d (.int _ i)]=>((tys.length:Int) - i).toNat | _=>0⟩),(15,⟨[60],[2,3,58,59],fun vs σ=>∃(i:Nat) (P:PV),vs=[.d (.int .i64 i)]∧σ=⟨[.cells 84 [P,.sl 0 5 (Zi (l++(tys.map tyT).flatten++((rels.take i).map reT).flatten))],.cells 78 [.ptr 0 0],.cells 44 ((XF pl (.mk tys rels rules comps inits overs)).map .d)],[0],1⟩∧(P=.d .nilp∨P=.ptr 0 0)∧i≤rels.length,fun vs _=>match vs with | [.d (.int _ i)]=>((rels.length:Int) - i).toNat | _=>0⟩),(27,⟨[98],[2,3,96,97],fun vs σ=>∃(i:Nat) (P:PV),vs=[.d (.int .i64 i)]∧σ=⟨[.cells 84 [P,.sl 0 5 (Zi (l++(tys.map tyT).flatten++(rels.map reT).flatten++((comps.take i).map coT).flatten))],.cells 78 [.ptr 0 0],.cells 44 ((XF pl (.mk tys rels rules comps inits overs)).map .d)],[0],1⟩∧(P=.d .nilp∨P=.ptr 0 0)∧i≤comps.length,fun vs _=>match vs with | [.d (.int _ i)]=>((comps.length:Int) - i).toNat | _=>0⟩),(37,⟨[135],[2,3,133,134],fun vs σ=>∃(i:Nat) (P:PV),vs=[.d (.int .i64 i)]∧σ=⟨[.cells 84 [P,.sl 0 5 (Zi (l++(tys.map tyT).flatten++(rels.map reT).flatten++(comps.map coT).flatten++((inits.take i).map inT).flatten))],.cells 78 [.ptr 0 0],.cells 44 ((XF pl (.mk tys rels rules comps inits overs)).map .d)],[0],1⟩∧(P=.d .nilp∨P=.ptr 0 0)∧i≤inits.length,fun vs _=>match vs with | [.d (.int _ i)]=>((inits.length:Int) - i).toNat | _=>0⟩),(42,⟨[153],[2,3,151,152],fun vs σ=>∃(i:Nat) (P:PV),vs=[.d (.int .i64 i)]∧σ=⟨[.cells 84 [P,.sl 0 5 (Zi (l++(tys.map tyT).flatten++(rels.map reT).flatten++(comps.map coT).flatten++(inits.map inT).flatten++((overs.take i).map ovT).flatten))],.cells 78 [.ptr 0 0],.cells 44 ((XF pl (.mk tys rels rules comps inits overs)).map .d)],[0],1⟩∧(P=.d .nilp∨P=.ptr 0 0)∧i≤overs.length,fun vs _=>match vs with | [.d (.int _ i)]=>((overs.length:Int) - i).toNat | _=>0⟩),(47,⟨[166],[2,3,164,165],fun vs σ=>∃(i:Nat) (P:PV),vs=[.d (.int .i64 i)]∧σ=⟨[.cells 84 [P,.sl 0 5 (Zi (l++(tys.map tyT).flatten++(rels.map reT).flatten++(comps.map coT).flatten++(inits.map inT).flatten++(overs.map ovT).flatten++((rules.take i).map Zns).flatten))],.cells 78 [.ptr 0 0],.cells 44 ((XF pl (.mk tys rels rules comps inits overs)).map .d)],[0],1⟩∧(P=.d .nilp∨P=.ptr 0 0)∧i≤rules.length,fun vs _=>match vs with | [.d (.int _ i)]=>((rules.length:Int) - i).toNat | _=>0⟩)],Zad [(19,4)],WQ [],WQ [],WQ [],ZtK [(14,([2,3],fun vs σ=>∃P:PV,vs=[.ptr 1 0,.ptr 2 0]∧σ=⟨[.cells 84 [P,.sl 0 5 (Zi (l++(tys.map tyT).flatten))],.cells 78 [.ptr 0 0],.cells 44 ((XF pl (.mk tys rels rules comps inits overs)).map .d)],[0],1⟩∧(P=.d .nilp∨P=.ptr 0 0))),(26,([2,3],fun vs σ=>∃P:PV,vs=[.ptr 1 0,.ptr 2 0]∧σ=⟨[.cells 84 [P,.sl 0 5 (Zi (l++(tys.map tyT).flatten++(rels.map reT).flatten))],.cells 78 [.ptr 0 0],.cells 44 ((XF pl (.mk tys rels rules comps inits overs)).map .d)],[0],1⟩∧(P=.d .nilp∨P=.ptr 0 0))),(36,([2,3],fun vs σ=>∃P:PV,vs=[.ptr 1 0,.ptr 2 0]∧σ=⟨[.cells 84 [P,.sl 0 5 (Zi (l++(tys.map tyT).flatten++(rels.map reT).flatten++(comps.map coT).flatten))],.cells 78 [.ptr 0 0],.cells 44 ((XF pl (.mk tys rels rules comps inits overs)).map .d)],[0],1⟩∧(P=.d .nilp∨P=.ptr 0 0))),(41,([2,3],fun vs σ=>∃P:PV,vs=[.ptr 1 0,.ptr 2 0]∧σ=⟨[.cells 84 [P,.sl 0 5 (Zi (l++(tys.map tyT).flatten++(rels.map reT).flatten++(comps.map coT).flatten++(inits.map inT).flatten))],.cells 78 [.ptr 0 0],.cells 44 ((XF pl (.mk tys rels rules comps inits overs)).map .d)],[0],1⟩∧(P=.d .nilp∨P=.ptr 0 0))),(46,([2,3],fun vs σ=>∃P:PV,vs=[.ptr 1 0,.ptr 2 0]∧σ=⟨[.cells 84 [P,.sl 0 5 (Zi (l++(tys.map tyT).flatten++(rels.map reT).flatten++(comps.map coT).flatten++(inits.map inT).flatten++(overs.map ovT).flatten))],.cells 78 [.ptr 0 0],.cells 44 ((XF pl (.mk tys rels rules comps inits overs)).map .d)],[0],1⟩∧(P=.d .nilp∨P=.ptr 0 0)))],1,true,by simp,Tb rfl,?_⟩
  rcases hp with rfl | rfl
  all_goals
   conv=>whnf
   refine ⟨?_,?_⟩
   ·conv=>whnf
    refine ⟨⟨0,_,rfl,(by simp only [TY,TN,Sz,TM];rfl),(by first | exact .inl rfl | exact .inr rfl),by omega⟩,?_⟩
    intro vs σ hI
    obtain ⟨i,P,rfl,rfl,hP,hi⟩:=hI
    conv=>whnf
    refine Zyq (fun hi2=>?_) (fun hi2=>?_)
    ·have hl1:(tys.map (Y4 pl)).length=tys.length:=Tf ..
     have hi2:i<tys.length:=by have hi2:(i:Int)<(tys.map (Y4 pl)).length:=hi2;rw [hl1] at hi2;omega
     have hg:=Z1 wTy tys i hi2
     have htk:=VG tyT hi2
     have hle:=Zbj tyT tys (i+1)
     have hmem:=TE hi2
     obtain ⟨L,hL⟩:∃L,l++((tys.take i).map tyT).flatten=L:=⟨_,rfl⟩
     have hLl:L.length=(l).length+((tys.take i).map tyT).flatten.length:=by rw [← hL,Ta]
     (try simp only [Ta] at hLl)
     rw [htk,Ta] at hle
     rw [hL]
     obtain ⟨x,hX⟩:∃x,tys[i]=x:=⟨_,rfl⟩
     rw [hX] at hg hmem htk hle
     obtain ⟨kd,nm,base,fs,cs,at'⟩:=x
     have hfin:l++((tys.take (i+1)).map tyT).flatten=L++tyT ⟨kd,nm,base,fs,cs,at'⟩:=by rw [htk,← Tk,hL]
     have hr1:(tys.map (Y4 pl))[((i:Nat):Int).toNat]?=some (Y4 pl ⟨kd,nm,base,fs,cs,at'⟩):=by simp [hi2,hX]
     obtain ⟨q1,q2,q3,q4⟩:=ZoB (m1 _ hmem)
     simp only at q1 q2 q3 q4
     have hg2:wTy ⟨kd,nm,base,fs,cs,at'⟩=1+nm.length+base.length+szS wFi fs+szS wCa cs:=rfl
     have hw:nm.length+base.length+szS wFi fs+szS wCa cs≤n:=by omega
     conv=>whnf
     refine ⟨_,by omega,hr1,?_⟩
     by_cases k1:kd=1
     ·have hT:tyT ⟨kd,nm,base,fs,cs,at'⟩=[116,121,112,101,32]++(nm++(([32,60,58,32]++base)++[10])):=by rw [tyT,Ti k1]
      rw [hT] at hle
      simp only [Ta,Tc,Td] at hle
      rcases hP with rfl | rfl
      all_goals
       conv=>whnf
       refine ⟨L,[116,121,112,101,32]++nm,rfl,⟨(by first | exact .inl rfl | exact .inr rfl),rfl,rfl⟩,⟨[[116,121,112,101,32],nm],rfl,by simp,by simp,by simp⟩,(by (try simp only [Ta,Tc,Td]);omega),?_⟩
       conv=>whnf
       refine Zyq (fun _=>?_) (fun g=>absurd (show (kd:Int)=1 by omega) g)
       conv=>whnf
       refine ⟨L++([116,121,112,101,32]++nm),[32,60,58,32]++base,rfl,⟨.inr rfl,rfl,rfl⟩,⟨[[32,60,58,32],base],rfl,by simp,by simp,by simp⟩,(by (try simp only [Ta,Tc,Td]);omega),?_⟩
       conv=>whnf
       refine ⟨L++([116,121,112,101,32]++nm)++([32,60,58,32]++base),[10],rfl,⟨.inr rfl,rfl,rfl⟩,⟨[[10]],rfl,by simp,by simp,by simp⟩,(by (try simp only [Ta,Tc,Td]);omega),?_⟩
       conv=>whnf
       refine oiO ?_
       conv=>whnf
       refine ⟨⟨i+1,_,rfl,(by rw [hfin,hT];simp only [Tk];rfl),.inr rfl,by omega⟩,?_⟩
       show ((tys.length:Int) - ((i:Int)+1)).toNat<((tys.length:Int) - (i:Int)).toNat
       omega
     by_cases k2:kd=2
     ·have hT:tyT ⟨kd,nm,base,fs,cs,at'⟩=[116,121,112,101,32]++(nm++(Vc [32,61,32,91] fs [93]++[10])):=by rw [tyT,Te k1,Ti k2]
      rw [hT] at hle
      simp only [Ta,Tc,Td] at hle
      rcases hP with rfl | rfl
      all_goals
       conv=>whnf
       refine ⟨L,[116,121,112,101,32]++nm,rfl,⟨(by first | exact .inl rfl | exact .inr rfl),rfl,rfl⟩,⟨[[116,121,112,101,32],nm],rfl,by simp,by simp,by simp⟩,(by (try simp only [Ta,Tc,Td]);omega),?_⟩
       conv=>whnf
       refine Zyq (fun g=>absurd (show kd=1 by have g:(kd:Int)=1:=g;omega) k1) (fun _=>?_)
       conv=>whnf
       refine Zyq (fun _=>?_) (fun g=>absurd (show (kd:Int)=2 by omega) g)
       conv=>whnf
       refine ⟨L++([116,121,112,101,32]++nm),Vc [32,61,32,91] fs [93],rfl,⟨.inr rfl,rfl,rfl⟩,⟨[32,61,32,91],[93],fs,rfl,⟨Tl.2 q2,by omega,by omega⟩,rfl⟩,(by (try simp only [Ta,Tc,Td]);omega),?_⟩
       conv=>whnf
       refine ⟨L++([116,121,112,101,32]++nm)++Vc [32,61,32,91] fs [93],[10],rfl,⟨.inr rfl,rfl,rfl⟩,⟨[[10]],rfl,by simp,by simp,by simp⟩,(by (try simp only [Ta,Tc,Td]);omega),?_⟩
       conv=>whnf
       refine oiO ?_
       conv=>whnf
       refine ⟨⟨i+1,_,rfl,(by rw [hfin,hT];simp only [Tk];rfl),.inr rfl,by omega⟩,?_⟩
       show ((tys.length:Int) - ((i:Int)+1)).toNat<((tys.length:Int) - (i:Int)).toNat
       omega
     have hT:tyT ⟨kd,nm,base,fs,cs,at'⟩=[116,121,112,101,32]++(nm++([32,61,32]++(Zf [32,124,32] (cs.map caT)++[10]))):=by rw [tyT,Te k1,Te k2];simp only [Tk]
     rw [hT] at hle
     simp only [Ta,Tc,Td] at hle
     rcases hP with rfl | rfl
     all_goals
      conv=>whnf
      refine ⟨L,[116,121,112,101,32]++nm,rfl,⟨(by first | exact .inl rfl | exact .inr rfl),rfl,rfl⟩,⟨[[116,121,112,101,32],nm],rfl,by simp,by simp,by simp⟩,(by (try simp only [Ta,Tc,Td]);omega),?_⟩
      conv=>whnf
      refine Zyq (fun g=>absurd (show kd=1 by have g:(kd:Int)=1:=g;omega) k1) (fun _=>?_)
      conv=>whnf
      refine Zyq (fun g=>absurd (show kd=2 by have g:(kd:Int)=2:=g;omega) k2) (fun _=>?_)
      conv=>whnf
      refine ⟨L++([116,121,112,101,32]++nm),[32,61,32],rfl,⟨.inr rfl,rfl,rfl⟩,⟨[[32,61,32]],rfl,by simp,by simp,by simp⟩,(by (try simp only [Ta,Tc,Td]);omega),?_⟩
      conv=>whnf
      refine ⟨L++([116,121,112,101,32]++nm)++[32,61,32],fun _=>0,cs,rfl,rfl,⟨rfl,rfl,rfl⟩,⟨Tl.2 q3,by omega,by omega⟩,(by (try simp only [Ta,Tc,Td]);show _+(Zf [32,124,32] (cs.map caT)).length<_;omega),?_⟩
      conv=>whnf
      refine ⟨L++([116,121,112,101,32]++nm)++[32,61,32]++Zf [32,124,32] (cs.map caT),[10],rfl,⟨.inr rfl,rfl,rfl⟩,⟨[[10]],rfl,by simp,by simp,by simp⟩,(by (try simp only [Ta,Tc,Td]);omega),?_⟩
      conv=>whnf
      refine oiO ?_
      conv=>whnf
      refine ⟨⟨i+1,_,rfl,(by rw [hfin,hT];simp only [Tk];rfl),.inr rfl,by omega⟩,?_⟩
      show ((tys.length:Int) - ((i:Int)+1)).toNat<((tys.length:Int) - (i:Int)).toNat
      omega
    have hi2:i=tys.length:=by
     have hl1:(tys.map (Y4 pl)).length=tys.length:=Tf ..
     have hi2:¬(i:Int)<(tys.map (Y4 pl)).length:=hi2
     rw [hl1] at hi2;omega
    subst hi2
    rw [T8]
    rcases hP with rfl | rfl
    all_goals
     conv=>whnf
     exact ⟨_,rfl,rfl,(by first | exact .inl rfl | exact .inr rfl)⟩
   intro vs σ hI
   obtain ⟨P,rfl,rfl,hP⟩:=hI
   conv=>whnf
   refine ⟨?_,?_⟩
   ·rcases hP with rfl | rfl
    all_goals
     conv=>whnf
     refine ⟨⟨0,_,rfl,(by simp only [TY,TN,Sz,TM];rfl),(by first | exact .inl rfl | exact .inr rfl),by omega⟩,?_⟩
     intro vs σ hI
     obtain ⟨i,P,rfl,rfl,hP,hi⟩:=hI
     conv=>whnf
     refine Zyq (fun hi2=>?_) (fun hi2=>?_)
     ·have hl1:(rels.map (Y1 pl)).length=rels.length:=Tf ..
      have hi2:i<rels.length:=by have hi2:(i:Int)<(rels.map (Y1 pl)).length:=hi2;rw [hl1] at hi2;omega
      have hg:=Z1 wRe rels i hi2
      have htk:=VG reT hi2
      have hle:=Zbj reT rels (i+1)
      have hmem:=TE hi2
      obtain ⟨L,hL⟩:∃L,l++(tys.map tyT).flatten++((rels.take i).map reT).flatten=L:=⟨_,rfl⟩
      have hLl:L.length=(l++(tys.map tyT).flatten).length+((rels.take i).map reT).flatten.length:=by rw [← hL,Ta]
      (try simp only [Ta] at hLl)
      rw [htk,Ta] at hle
      rw [hL]
      obtain ⟨x,hX⟩:∃x,rels[i]=x:=⟨_,rfl⟩
      rw [hX] at hg hmem htk hle
      obtain ⟨nm,fs,b1,b2,b3,at'⟩:=x
      have hfin:l++(tys.map tyT).flatten++((rels.take (i+1)).map reT).flatten=L++reT ⟨nm,fs,b1,b2,b3,at'⟩:=by rw [htk,← Tk,hL]
      have hr1:(rels.map (Y1 pl))[((i:Nat):Int).toNat]?=some (Y1 pl ⟨nm,fs,b1,b2,b3,at'⟩):=by simp [hi2,hX]
      have q:=m2 _ hmem
      simp only [XQ,Tj] at q
      obtain ⟨q1,q2⟩:=q
      have q2:=Tl.1 q2
      have hg2:wRe ⟨nm,fs,b1,b2,b3,at'⟩=1+nm.length+szS wFi fs:=rfl
      have hw:nm.length+szS wFi fs≤n:=by omega
      conv=>whnf
      refine ⟨_,by omega,hr1,?_⟩
      have hT0:reT ⟨nm,fs,b1,b2,b3,at'⟩=Vc ([100,101,99,108,32]++nm++[40]) fs [41]++((if b1 then [32,105,110,112,117,116] else [])++((if b2 then [32,111,117,116,112,117,116] else [])++((if b3 then [32,105,110,108,105,110,101] else [])++[10]))):=by rw [reT];simp only [Tk]
      rcases hP with rfl | rfl
      all_goals
       conv=>whnf
       refine ⟨by simp only [Tc,Td];omega,?_⟩
       conv=>whnf
       refine ⟨by simp only [Ta,Tc,Td];omega,?_⟩
       cases b1 <;> cases b2 <;> cases b3
       ·have hT:=hT0
        simp only [if_true,To,if_false,T6] at hT
        rw [hT] at hle
        simp only [Ta,Tc,Td] at hle
        conv=>whnf
        refine ⟨L,Vc ([100,101,99,108,32]++nm++[40]) fs [41],rfl,⟨(by first | exact .inl rfl | exact .inr rfl),rfl,rfl⟩,⟨([100,101,99,108,32]++nm++[40]),[41],fs,rfl,⟨Tl.2 q2,by omega,by omega⟩,rfl⟩,(by (try simp only [Ta,Tc,Td]);omega),?_⟩
        conv=>whnf
        refine ⟨by decide,by decide,?_⟩
        conv=>whnf
        refine oiD ?_
        conv=>whnf
        refine ⟨by decide,by decide,?_⟩
        conv=>whnf
        refine oiD ?_
        conv=>whnf
        refine ⟨by decide,by decide,?_⟩
        conv=>whnf
        refine oiD ?_
        conv=>whnf
        refine ⟨L++Vc ([100,101,99,108,32]++nm++[40]) fs [41],[10],rfl,⟨.inr rfl,rfl,rfl⟩,⟨[[10]],rfl,by simp,by simp,by simp⟩,(by (try simp only [Ta,Tc,Td]);omega),?_⟩
        exact m15
       ·have hT:=hT0
        simp only [if_true,To,if_false,T6] at hT
        rw [hT] at hle
        simp only [Ta,Tc,Td] at hle
        conv=>whnf
        refine ⟨L,Vc ([100,101,99,108,32]++nm++[40]) fs [41],rfl,⟨(by first | exact .inl rfl | exact .inr rfl),rfl,rfl⟩,⟨([100,101,99,108,32]++nm++[40]),[41],fs,rfl,⟨Tl.2 q2,by omega,by omega⟩,rfl⟩,(by (try simp only [Ta,Tc,Td]);omega),?_⟩
        conv=>whnf
        refine ⟨by decide,by decide,?_⟩
        conv=>whnf
        refine oiD ?_
        conv=>whnf
        refine ⟨by decide,by decide,?_⟩
        conv=>whnf
        refine oiD ?_
        conv=>whnf
        refine ⟨by decide,by decide,?_⟩
        conv=>whnf
        refine ⟨by decide,by decide,?_⟩
        conv=>whnf
        refine ⟨L++Vc ([100,101,99,108,32]++nm++[40]) fs [41],[32,105,110,108,105,110,101],rfl,⟨.inr rfl,rfl,rfl⟩,⟨[[32,105,110,108,105,110,101]],rfl,by simp,by simp,by simp⟩,(by (try simp only [Ta,Tc,Td]);omega),?_⟩
        conv=>whnf
        (repeat (refine ⟨rfl,?_⟩;conv=>whnf))
        conv=>whnf
        refine oiD ?_
        conv=>whnf
        refine ⟨L++Vc ([100,101,99,108,32]++nm++[40]) fs [41]++[32,105,110,108,105,110,101],[10],rfl,⟨.inr rfl,rfl,rfl⟩,⟨[[10]],rfl,by simp,by simp,by simp⟩,(by (try simp only [Ta,Tc,Td]);omega),?_⟩
        exact m15
       ·have hT:=hT0
        simp only [if_true,To,if_false,T6] at hT
        rw [hT] at hle
        simp only [Ta,Tc,Td] at hle
        conv=>whnf
        refine ⟨L,Vc ([100,101,99,108,32]++nm++[40]) fs [41],rfl,⟨(by first | exact .inl rfl | exact .inr rfl),rfl,rfl⟩,⟨([100,101,99,108,32]++nm++[40]),[41],fs,rfl,⟨Tl.2 q2,by omega,by omega⟩,rfl⟩,(by (try simp only [Ta,Tc,Td]);omega),?_⟩
        conv=>whnf
        refine ⟨by decide,by decide,?_⟩
        conv=>whnf
        refine oiD ?_
        conv=>whnf
        refine ⟨by decide,by decide,?_⟩
        conv=>whnf
        refine ⟨by decide,by decide,?_⟩
        conv=>whnf
        refine ⟨L++Vc ([100,101,99,108,32]++nm++[40]) fs [41],[32,111,117,116,112,117,116],rfl,⟨.inr rfl,rfl,rfl⟩,⟨[[32,111,117,116,112,117,116]],rfl,by simp,by simp,by simp⟩,(by (try simp only [Ta,Tc,Td]);omega),?_⟩
        conv=>whnf
        (repeat (refine ⟨rfl,?_⟩;conv=>whnf))
        conv=>whnf
        refine oiD ?_
        conv=>whnf
        refine ⟨by decide,by decide,?_⟩
        conv=>whnf
        refine oiD ?_
        conv=>whnf
        refine ⟨L++Vc ([100,101,99,108,32]++nm++[40]) fs [41]++[32,111,117,116,112,117,116],[10],rfl,⟨.inr rfl,rfl,rfl⟩,⟨[[10]],rfl,by simp,by simp,by simp⟩,(by (try simp only [Ta,Tc,Td]);omega),?_⟩
        exact m15
       ·have hT:=hT0
        simp only [if_true,To,if_false,T6] at hT
        rw [hT] at hle
        simp only [Ta,Tc,Td] at hle
        conv=>whnf
        refine ⟨L,Vc ([100,101,99,108,32]++nm++[40]) fs [41],rfl,⟨(by first | exact .inl rfl | exact .inr rfl),rfl,rfl⟩,⟨([100,101,99,108,32]++nm++[40]),[41],fs,rfl,⟨Tl.2 q2,by omega,by omega⟩,rfl⟩,(by (try simp only [Ta,Tc,Td]);omega),?_⟩
        conv=>whnf
        refine ⟨by decide,by decide,?_⟩
        conv=>whnf
        refine oiD ?_
        conv=>whnf
        refine ⟨by decide,by decide,?_⟩
        conv=>whnf
        refine ⟨by decide,by decide,?_⟩
        conv=>whnf
        refine ⟨L++Vc ([100,101,99,108,32]++nm++[40]) fs [41],[32,111,117,116,112,117,116],rfl,⟨.inr rfl,rfl,rfl⟩,⟨[[32,111,117,116,112,117,116]],rfl,by simp,by simp,by simp⟩,(by (try simp only [Ta,Tc,Td]);omega),?_⟩
        conv=>whnf
        (repeat (refine ⟨rfl,?_⟩;conv=>whnf))
        conv=>whnf
        refine oiD ?_
        conv=>whnf
        refine ⟨by decide,by decide,?_⟩
        conv=>whnf
        refine ⟨by decide,by decide,?_⟩
        conv=>whnf
        refine ⟨L++Vc ([100,101,99,108,32]++nm++[40]) fs [41]++[32,111,117,116,112,117,116],[32,105,110,108,105,110,101],rfl,⟨.inr rfl,rfl,rfl⟩,⟨[[32,105,110,108,105,110,101]],rfl,by simp,by simp,by simp⟩,(by (try simp only [Ta,Tc,Td]);omega),?_⟩
        conv=>whnf
        (repeat (refine ⟨rfl,?_⟩;conv=>whnf))
        conv=>whnf
        refine oiD ?_
        conv=>whnf
        refine ⟨L++Vc ([100,101,99,108,32]++nm++[40]) fs [41]++[32,111,117,116,112,117,116]++[32,105,110,108,105,110,101],[10],rfl,⟨.inr rfl,rfl,rfl⟩,⟨[[10]],rfl,by simp,by simp,by simp⟩,(by (try simp only [Ta,Tc,Td]);omega),?_⟩
        exact m15
       ·have hT:=hT0
        simp only [if_true,To,if_false,T6] at hT
        rw [hT] at hle
        simp only [Ta,Tc,Td] at hle
        conv=>whnf
        refine ⟨L,Vc ([100,101,99,108,32]++nm++[40]) fs [41],rfl,⟨(by first | exact .inl rfl | exact .inr rfl),rfl,rfl⟩,⟨([100,101,99,108,32]++nm++[40]),[41],fs,rfl,⟨Tl.2 q2,by omega,by omega⟩,rfl⟩,(by (try simp only [Ta,Tc,Td]);omega),?_⟩
        conv=>whnf
        refine ⟨by decide,by decide,?_⟩
        conv=>whnf
        refine ⟨by decide,by decide,?_⟩
        conv=>whnf
        refine ⟨L++Vc ([100,101,99,108,32]++nm++[40]) fs [41],[32,105,110,112,117,116],rfl,⟨.inr rfl,rfl,rfl⟩,⟨[[32,105,110,112,117,116]],rfl,by simp,by simp,by simp⟩,(by (try simp only [Ta,Tc,Td]);omega),?_⟩
        conv=>whnf
        (repeat (refine ⟨rfl,?_⟩;conv=>whnf))
        conv=>whnf
        refine oiD ?_
        conv=>whnf
        refine ⟨by decide,by decide,?_⟩
        conv=>whnf
        refine oiD ?_
        conv=>whnf
        refine ⟨by decide,by decide,?_⟩
        conv=>whnf
        refine oiD ?_
        conv=>whnf
        refine ⟨L++Vc ([100,101,99,108,32]++nm++[40]) fs [41]++[32,105,110,112,117,116],[10],rfl,⟨.inr rfl,rfl,rfl⟩,⟨[[10]],rfl,by simp,by simp,by simp⟩,(by (try simp only [Ta,Tc,Td]);omega),?_⟩
        exact m15
       ·have hT:=hT0
        simp only [if_true,To,if_false,T6] at hT
        rw [hT] at hle
        simp only [Ta,Tc,Td] at hle
        conv=>whnf
        refine ⟨L,Vc ([100,101,99,108,32]++nm++[40]) fs [41],rfl,⟨(by first | exact .inl rfl | exact .inr rfl),rfl,rfl⟩,⟨([100,101,99,108,32]++nm++[40]),[41],fs,rfl,⟨Tl.2 q2,by omega,by omega⟩,rfl⟩,(by (try simp only [Ta,Tc,Td]);omega),?_⟩
        conv=>whnf
        refine ⟨by decide,by decide,?_⟩
        conv=>whnf
        refine ⟨by decide,by decide,?_⟩
        conv=>whnf
        refine ⟨L++Vc ([100,101,99,108,32]++nm++[40]) fs [41],[32,105,110,112,117,116],rfl,⟨.inr rfl,rfl,rfl⟩,⟨[[32,105,110,112,117,116]],rfl,by simp,by simp,by simp⟩,(by (try simp only [Ta,Tc,Td]);omega),?_⟩
        conv=>whnf
        (repeat (refine ⟨rfl,?_⟩;conv=>whnf))
        conv=>whnf
        refine oiD ?_
        conv=>whnf
        refine ⟨by decide,by decide,?_⟩
        conv=>whnf
        refine oiD ?_
        conv=>whnf
        refine ⟨by decide,by decide,?_⟩
        conv=>whnf
        refine ⟨by decide,by decide,?_⟩
        conv=>whnf
        refine ⟨L++Vc ([100,101,99,108,32]++nm++[40]) fs [41]++[32,105,110,112,117,116],[32,105,110,108,105,110,101],rfl,⟨.inr rfl,rfl,rfl⟩,⟨[[32,105,110,108,105,110,101]],rfl,by simp,by simp,by simp⟩,(by (try simp only [Ta,Tc,Td]);omega),?_⟩
        conv=>whnf
        (repeat (refine ⟨rfl,?_⟩;conv=>whnf))
        conv=>whnf
        refine oiD ?_
        conv=>whnf
        refine ⟨L++Vc ([100,101,99,108,32]++nm++[40]) fs [41]++[32,105,110,112,117,116]++[32,105,110,108,105,110,101],[10],rfl,⟨.inr rfl,rfl,rfl⟩,⟨[[10]],rfl,by simp,by simp,by simp⟩,(by (try simp only [Ta,Tc,Td]);omega),?_⟩
        exact m15
       ·have hT:=hT0
        simp only [if_true,To,if_false,T6] at hT
        rw [hT] at hle
        simp only [Ta,Tc,Td] at hle
        conv=>whnf
        refine ⟨L,Vc ([100,101,99,108,32]++nm++[40]) fs [41],rfl,⟨(by first | exact .inl rfl | exact .inr rfl),rfl,rfl⟩,⟨([100,101,99,108,32]++nm++[40]),[41],fs,rfl,⟨Tl.2 q2,by omega,by omega⟩,rfl⟩,(by (try simp only [Ta,Tc,Td]);omega),?_⟩
        conv=>whnf
        refine ⟨by decide,by decide,?_⟩
        conv=>whnf
        refine ⟨by decide,by decide,?_⟩
        conv=>whnf
        refine ⟨L++Vc ([100,101,99,108,32]++nm++[40]) fs [41],[32,105,110,112,117,116],rfl,⟨.inr rfl,rfl,rfl⟩,⟨[[32,105,110,112,117,116]],rfl,by simp,by simp,by simp⟩,(by (try simp only [Ta,Tc,Td]);omega),?_⟩
        conv=>whnf
        (repeat (refine ⟨rfl,?_⟩;conv=>whnf))
        conv=>whnf
        refine oiD ?_
        conv=>whnf
        refine ⟨by decide,by decide,?_⟩
        conv=>whnf
        refine ⟨by decide,by decide,?_⟩
        conv=>whnf
        refine ⟨L++Vc ([100,101,99,108,32]++nm++[40]) fs [41]++[32,105,110,112,117,116],[32,111,117,116,112,117,116],rfl,⟨.inr rfl,rfl,rfl⟩,⟨[[32,111,117,116,112,117,116]],rfl,by simp,by simp,by simp⟩,(by (try simp only [Ta,Tc,Td]);omega),?_⟩
        conv=>whnf
        (repeat (refine ⟨rfl,?_⟩;conv=>whnf))
        conv=>whnf
        refine oiD ?_
        conv=>whnf
        refine ⟨by decide,by decide,?_⟩
        conv=>whnf
        refine oiD ?_
        conv=>whnf
        refine ⟨L++Vc ([100,101,99,108,32]++nm++[40]) fs [41]++[32,105,110,112,117,116]++[32,111,117,116,112,117,116],[10],rfl,⟨.inr rfl,rfl,rfl⟩,⟨[[10]],rfl,by simp,by simp,by simp⟩,(by (try simp only [Ta,Tc,Td]);omega),?_⟩
        exact m15
       ·have hT:=hT0
        simp only [if_true,To,if_false,T6] at hT
        rw [hT] at hle
        simp only [Ta,Tc,Td] at hle
        conv=>whnf
        refine ⟨L,Vc ([100,101,99,108,32]++nm++[40]) fs [41],rfl,⟨(by first | exact .inl rfl | exact .inr rfl),rfl,rfl⟩,⟨([100,101,99,108,32]++nm++[40]),[41],fs,rfl,⟨Tl.2 q2,by omega,by omega⟩,rfl⟩,(by (try simp only [Ta,Tc,Td]);omega),?_⟩
        conv=>whnf
        refine ⟨by decide,by decide,?_⟩
        conv=>whnf
        refine ⟨by decide,by decide,?_⟩
        conv=>whnf
        refine ⟨L++Vc ([100,101,99,108,32]++nm++[40]) fs [41],[32,105,110,112,117,116],rfl,⟨.inr rfl,rfl,rfl⟩,⟨[[32,105,110,112,117,116]],rfl,by simp,by simp,by simp⟩,(by (try simp only [Ta,Tc,Td]);omega),?_⟩
        conv=>whnf
        (repeat (refine ⟨rfl,?_⟩;conv=>whnf))
        conv=>whnf
        refine oiD ?_
        conv=>whnf
        refine ⟨by decide,by decide,?_⟩
        conv=>whnf
        refine ⟨by decide,by decide,?_⟩
        conv=>whnf
        refine ⟨L++Vc ([100,101,99,108,32]++nm++[40]) fs [41]++[32,105,110,112,117,116],[32,111,117,116,112,117,116],rfl,⟨.inr rfl,rfl,rfl⟩,⟨[[32,111,117,116,112,117,116]],rfl,by simp,by simp,by simp⟩,(by (try simp only [Ta,Tc,Td]);omega),?_⟩
        conv=>whnf
        (repeat (refine ⟨rfl,?_⟩;conv=>whnf))
        conv=>whnf
        refine oiD ?_
        conv=>whnf
        refine ⟨by decide,by decide,?_⟩
        conv=>whnf
        refine ⟨by decide,by decide,?_⟩
        conv=>whnf
        refine ⟨L++Vc ([100,101,99,108,32]++nm++[40]) fs [41]++[32,105,110,112,117,116]++[32,111,117,116,112,117,116],[32,105,110,108,105,110,101],rfl,⟨.inr rfl,rfl,rfl⟩,⟨[[32,105,110,108,105,110,101]],rfl,by simp,by simp,by simp⟩,(by (try simp only [Ta,Tc,Td]);omega),?_⟩
        conv=>whnf
        (repeat (refine ⟨rfl,?_⟩;conv=>whnf))
        conv=>whnf
        refine oiD ?_
        conv=>whnf
        refine ⟨L++Vc ([100,101,99,108,32]++nm++[40]) fs [41]++[32,105,110,112,117,116]++[32,111,117,116,112,117,116]++[32,105,110,108,105,110,101],[10],rfl,⟨.inr rfl,rfl,rfl⟩,⟨[[10]],rfl,by simp,by simp,by simp⟩,(by (try simp only [Ta,Tc,Td]);omega),?_⟩
        exact m15
     have hi2:i=rels.length:=by
      have hl1:(rels.map (Y1 pl)).length=rels.length:=Tf ..
      have hi2:¬(i:Int)<(rels.map (Y1 pl)).length:=hi2
      rw [hl1] at hi2;omega
     subst hi2
     rw [T8]
     rcases hP with rfl | rfl
     all_goals
      conv=>whnf
      exact ⟨_,rfl,rfl,(by first | exact .inl rfl | exact .inr rfl)⟩
   intro vs σ hI
   obtain ⟨P,rfl,rfl,hP⟩:=hI
   conv=>whnf
   refine ⟨?_,?_⟩
   ·rcases hP with rfl | rfl
    all_goals
     conv=>whnf
     refine ⟨⟨0,_,rfl,(by simp only [TY,TN,Sz,TM];rfl),(by first | exact .inl rfl | exact .inr rfl),by omega⟩,?_⟩
     intro vs σ hI
     obtain ⟨i,P,rfl,rfl,hP,hi⟩:=hI
     conv=>whnf
     refine Zyq (fun hi2=>?_) (fun hi2=>?_)
     ·have hl1:(comps.map (YM pl)).length=comps.length:=Tf ..
      have hi2:i<comps.length:=by have hi2:(i:Int)<(comps.map (YM pl)).length:=(by rw [← ec];exact hi2);rw [hl1] at hi2;omega
      have hg:=Z1 wCo comps i hi2
      have htk:=VG coT hi2
      have hle:=Zbj coT comps (i+1)
      have hmem:=TE hi2
      obtain ⟨L,hL⟩:∃L,l++(tys.map tyT).flatten++(rels.map reT).flatten++((comps.take i).map coT).flatten=L:=⟨_,rfl⟩
      have hLl:L.length=(l++(tys.map tyT).flatten++(rels.map reT).flatten).length+((comps.take i).map coT).flatten.length:=by rw [← hL,Ta]
      (try simp only [Ta] at hLl)
      rw [htk,Ta] at hle
      rw [hL]
      obtain ⟨x,hX⟩:∃x,comps[i]=x:=⟨_,rfl⟩
      rw [hX] at hg hmem htk hle
      obtain ⟨nm,ps,base,ts,⟨u1,u2,u3,u4,u5,u6⟩,at'⟩:=x
      have hfin:l++(tys.map tyT).flatten++(rels.map reT).flatten++((comps.take (i+1)).map coT).flatten=L++coT (.mk nm ps base ts (.mk u1 u2 u3 u4 u5 u6) at'):=by rw [htk,← Tk,hL]
      have hr1:(comps.map (YM pl))[((i:Nat):Int).toNat]?=some (YM pl (.mk nm ps base ts (.mk u1 u2 u3 u4 u5 u6) at')):=by simp [hi2,hX]
      have hu:=ZoE (m4 _ hmem)
      have hw:nm.length+szS wBs ps+base.length+szS wBs ts+wUn (.mk u1 u2 u3 u4 u5 u6)+1≤n:=by rw [wCo] at hg;omega
      rw [← ec] at hr1
      conv=>whnf
      refine ⟨_,by omega,hr1,?_⟩
      by_cases k1:base=[]
      ·have hT:coT (.mk nm ps base ts (.mk u1 u2 u3 u4 u5 u6) at')=([99,111,109,112,32]++nm++Jm ps)++([32,123,10]++(unT (.mk u1 u2 u3 u4 u5 u6)++([125,10]))):=by rw [coT,Ti k1,T6];simp only [Tk]
       rw [hT] at hle
       simp only [Ta,Tc,Td] at hle
       rcases hP with rfl | rfl
       all_goals
        conv=>whnf
        refine ⟨ps,rfl,⟨by omega,hn⟩,?_⟩
        conv=>whnf
        (repeat (refine ⟨rfl,?_⟩;conv=>whnf))
        refine ⟨L,[99,111,109,112,32]++nm++Jm ps,rfl,⟨(by first | exact .inl rfl | exact .inr rfl),rfl,rfl⟩,⟨[[99,111,109,112,32],nm,Jm ps],rfl,by simp,by simp,by simp⟩,(by (try simp only [Ta,Tc,Td]);omega),?_⟩
        conv=>whnf
        (repeat (refine ⟨rfl,?_⟩;conv=>whnf))
        refine Zyv (fun g=>absurd k1 g) (fun _=>?_)
        conv=>whnf
        refine ⟨L++([99,111,109,112,32]++nm++Jm ps),[32,123,10],rfl,⟨.inr rfl,rfl,rfl⟩,⟨[[32,123,10]],rfl,by simp,by simp,by simp⟩,(by (try simp only [Ta,Tc,Td]);omega),?_⟩
        conv=>whnf
        refine ⟨by omega,L++([99,111,109,112,32]++nm++Jm ps)++[32,123,10],unT (.mk u1 u2 u3 u4 u5 u6),rfl,⟨.inr rfl,rfl,rfl⟩,⟨pl,.mk u1 u2 u3 u4 u5 u6,rfl,⟨hu,by omega,by omega⟩,rfl⟩,(by (try simp only [Ta,Tc,Td]);omega),fun p' hp'=>?_⟩
        rcases hp' with rfl | rfl
        all_goals
         conv=>whnf
         refine ⟨L++([99,111,109,112,32]++nm++Jm ps)++[32,123,10]++unT (.mk u1 u2 u3 u4 u5 u6),[125,10],rfl,⟨(by first | exact .inl rfl | exact .inr rfl),rfl,rfl⟩,⟨[[125,10]],rfl,by simp,by simp,by simp⟩,(by (try simp only [Ta,Tc,Td]);omega),?_⟩
         conv=>whnf
         refine oiO ?_
         conv=>whnf
         refine ⟨⟨i+1,_,rfl,(by rw [hfin,hT];simp only [Tk];rfl),.inr rfl,by omega⟩,?_⟩
         show ((comps.length:Int) - ((i:Int)+1)).toNat<((comps.length:Int) - (i:Int)).toNat
         omega
      have hT:coT (.mk nm ps base ts (.mk u1 u2 u3 u4 u5 u6) at')=([99,111,109,112,32]++nm++Jm ps)++(([32,58,32]++base++Jm ts)++([32,123,10]++(unT (.mk u1 u2 u3 u4 u5 u6)++([125,10])))):=by rw [coT,Te k1];simp only [Tk]
      rw [hT] at hle
      simp only [Ta,Tc,Td] at hle
      rcases hP with rfl | rfl
      all_goals
       conv=>whnf
       refine ⟨ps,rfl,⟨by omega,hn⟩,?_⟩
       conv=>whnf
       (repeat (refine ⟨rfl,?_⟩;conv=>whnf))
       refine ⟨L,[99,111,109,112,32]++nm++Jm ps,rfl,⟨(by first | exact .inl rfl | exact .inr rfl),rfl,rfl⟩,⟨[[99,111,109,112,32],nm,Jm ps],rfl,by simp,by simp,by simp⟩,(by (try simp only [Ta,Tc,Td]);omega),?_⟩
       conv=>whnf
       (repeat (refine ⟨rfl,?_⟩;conv=>whnf))
       refine Zyv (fun _=>?_) (fun g=>absurd g k1)
       conv=>whnf
       refine ⟨ts,rfl,⟨by omega,hn⟩,?_⟩
       conv=>whnf
       (repeat (refine ⟨rfl,?_⟩;conv=>whnf))
       refine ⟨L++([99,111,109,112,32]++nm++Jm ps),[32,58,32]++base++Jm ts,rfl,⟨.inr rfl,rfl,rfl⟩,⟨[[32,58,32],base,Jm ts],rfl,by simp,by simp,by simp⟩,(by (try simp only [Ta,Tc,Td]);omega),?_⟩
       conv=>whnf
       (repeat (refine ⟨rfl,?_⟩;conv=>whnf))
       conv=>whnf
       refine ⟨L++([99,111,109,112,32]++nm++Jm ps)++([32,58,32]++base++Jm ts),[32,123,10],rfl,⟨.inr rfl,rfl,rfl⟩,⟨[[32,123,10]],rfl,by simp,by simp,by simp⟩,(by (try simp only [Ta,Tc,Td]);omega),?_⟩
       conv=>whnf
       refine ⟨by omega,L++([99,111,109,112,32]++nm++Jm ps)++([32,58,32]++base++Jm ts)++[32,123,10],unT (.mk u1 u2 u3 u4 u5 u6),rfl,⟨.inr rfl,rfl,rfl⟩,⟨pl,.mk u1 u2 u3 u4 u5 u6,rfl,⟨hu,by omega,by omega⟩,rfl⟩,(by (try simp only [Ta,Tc,Td]);omega),fun p' hp'=>?_⟩
       rcases hp' with rfl | rfl
       all_goals
        conv=>whnf
        refine ⟨L++([99,111,109,112,32]++nm++Jm ps)++([32,58,32]++base++Jm ts)++[32,123,10]++unT (.mk u1 u2 u3 u4 u5 u6),[125,10],rfl,⟨(by first | exact .inl rfl | exact .inr rfl),rfl,rfl⟩,⟨[[125,10]],rfl,by simp,by simp,by simp⟩,(by (try simp only [Ta,Tc,Td]);omega),?_⟩
        conv=>whnf
        refine oiO ?_
        conv=>whnf
        refine ⟨⟨i+1,_,rfl,(by rw [hfin,hT];simp only [Tk];rfl),.inr rfl,by omega⟩,?_⟩
        show ((comps.length:Int) - ((i:Int)+1)).toNat<((comps.length:Int) - (i:Int)).toNat
        omega
     have hi2:i=comps.length:=by
      have hl1:(comps.map (YM pl)).length=comps.length:=Tf ..
      have hi2:¬(i:Int)<(comps.map (YM pl)).length:=(by rw [← ec];exact hi2)
      rw [hl1] at hi2;omega
     subst hi2
     rw [T8]
     rcases hP with rfl | rfl
     all_goals
      conv=>whnf
      exact ⟨_,rfl,rfl,(by first | exact .inl rfl | exact .inr rfl)⟩
   intro vs σ hI
   obtain ⟨P,rfl,rfl,hP⟩:=hI
   conv=>whnf
   refine ⟨?_,?_⟩
   ·rcases hP with rfl | rfl
    all_goals
     conv=>whnf
     refine ⟨⟨0,_,rfl,(by simp only [TY,TN,Sz,TM];rfl),(by first | exact .inl rfl | exact .inr rfl),by omega⟩,?_⟩
     intro vs σ hI
     obtain ⟨i,P,rfl,rfl,hP,hi⟩:=hI
     conv=>whnf
     refine Zyq (fun hi2=>?_) (fun hi2=>?_)
     ·have hl1:(inits.map (Y9 pl)).length=inits.length:=Tf ..
      have hi2:i<inits.length:=by have hi2:(i:Int)<(inits.map (Y9 pl)).length:=hi2;rw [hl1] at hi2;omega
      have hg:=Z1 wIn inits i hi2
      have htk:=VG inT hi2
      have hle:=Zbj inT inits (i+1)
      have hmem:=TE hi2
      obtain ⟨L,hL⟩:∃L,l++(tys.map tyT).flatten++(rels.map reT).flatten++(comps.map coT).flatten++((inits.take i).map inT).flatten=L:=⟨_,rfl⟩
      have hLl:L.length=(l++(tys.map tyT).flatten++(rels.map reT).flatten++(comps.map coT).flatten).length+((inits.take i).map inT).flatten.length:=by rw [← hL,Ta]
      (try simp only [Ta] at hLl)
      rw [htk,Ta] at hle
      rw [hL]
      obtain ⟨x,hX⟩:∃x,inits[i]=x:=⟨_,rfl⟩
      rw [hX] at hg hmem htk hle
      obtain ⟨nm,cp,ts,at'⟩:=x
      have hfin:l++(tys.map tyT).flatten++(rels.map reT).flatten++(comps.map coT).flatten++((inits.take (i+1)).map inT).flatten=L++inT ⟨nm,cp,ts,at'⟩:=by rw [htk,← Tk,hL]
      have hr1:(inits.map (Y9 pl))[((i:Nat):Int).toNat]?=some (Y9 pl ⟨nm,cp,ts,at'⟩):=by simp [hi2,hX]
      have hg2:wIn ⟨nm,cp,ts,at'⟩=1+nm.length+cp.length+szS wBs ts:=rfl
      have hw:nm.length+cp.length+szS wBs ts≤n:=by omega
      have hT:inT ⟨nm,cp,ts,at'⟩=[105,110,105,116,32]++nm++[32,61,32]++cp++Jm ts++[10]:=by rw [inT];simp only [Tk]
      rw [hT] at hle
      simp only [Ta,Tc,Td] at hle
      conv=>whnf
      refine ⟨_,by omega,hr1,?_⟩
      rcases hP with rfl | rfl
      all_goals
       conv=>whnf
       refine ⟨ts,rfl,⟨by omega,hn⟩,?_⟩
       conv=>whnf
       (repeat (refine ⟨rfl,?_⟩;conv=>whnf))
       refine ⟨L,[105,110,105,116,32]++nm++[32,61,32]++cp++Jm ts++[10],rfl,⟨(by first | exact .inl rfl | exact .inr rfl),rfl,rfl⟩,⟨[[105,110,105,116,32],nm,[32,61,32],cp,Jm ts,[10]],rfl,by simp,by simp,by simp⟩,(by (try simp only [Ta,Tc,Td]);omega),?_⟩
       conv=>whnf
       (repeat (refine ⟨rfl,?_⟩;conv=>whnf))
       refine oiO ?_
       conv=>whnf
       refine ⟨⟨i+1,_,rfl,(by rw [hfin,hT];simp only [Tk];rfl),.inr rfl,by omega⟩,?_⟩
       show ((inits.length:Int) - ((i:Int)+1)).toNat<((inits.length:Int) - (i:Int)).toNat
       omega
     have hi2:i=inits.length:=by
      have hl1:(inits.map (Y9 pl)).length=inits.length:=Tf ..
      have hi2:¬(i:Int)<(inits.map (Y9 pl)).length:=hi2
      rw [hl1] at hi2;omega
     subst hi2
     rw [T8]
     rcases hP with rfl | rfl
     all_goals
      conv=>whnf
      exact ⟨_,rfl,rfl,(by first | exact .inl rfl | exact .inr rfl)⟩
   intro vs σ hI
   obtain ⟨P,rfl,rfl,hP⟩:=hI
   conv=>whnf
   refine ⟨?_,?_⟩
   ·rcases hP with rfl | rfl
    all_goals
     conv=>whnf
     refine ⟨⟨0,_,rfl,(by simp only [TY,TN,Sz,TM];rfl),(by first | exact .inl rfl | exact .inr rfl),by omega⟩,?_⟩
     intro vs σ hI
     obtain ⟨i,P,rfl,rfl,hP,hi⟩:=hI
     conv=>whnf
     refine Zyq (fun hi2=>?_) (fun hi2=>?_)
     ·have hl1:(overs.map (Xa pl)).length=overs.length:=Tf ..
      have hi2:i<overs.length:=by have hi2:(i:Int)<(overs.map (Xa pl)).length:=hi2;rw [hl1] at hi2;omega
      have hg:=Z1 wOv overs i hi2
      have htk:=VG ovT hi2
      have hle:=Zbj ovT overs (i+1)
      have hmem:=TE hi2
      obtain ⟨L,hL⟩:∃L,l++(tys.map tyT).flatten++(rels.map reT).flatten++(comps.map coT).flatten++(inits.map inT).flatten++((overs.take i).map ovT).flatten=L:=⟨_,rfl⟩
      have hLl:L.length=(l++(tys.map tyT).flatten++(rels.map reT).flatten++(comps.map coT).flatten++(inits.map inT).flatten).length+((overs.take i).map ovT).flatten.length:=by rw [← hL,Ta]
      (try simp only [Ta] at hLl)
      rw [htk,Ta] at hle
      rw [hL]
      obtain ⟨x,hX⟩:∃x,overs[i]=x:=⟨_,rfl⟩
      rw [hX] at hg hmem htk hle
      obtain ⟨rel,at'⟩:=x
      have hfin:l++(tys.map tyT).flatten++(rels.map reT).flatten++(comps.map coT).flatten++(inits.map inT).flatten++((overs.take (i+1)).map ovT).flatten=L++ovT ⟨rel,at'⟩:=by rw [htk,← Tk,hL]
      have hr1:(overs.map (Xa pl))[((i:Nat):Int).toNat]?=some (Xa pl ⟨rel,at'⟩):=by simp [hi2,hX]
      have hg2:wOv ⟨rel,at'⟩=1+rel.length:=rfl
      have hw:rel.length≤n:=by omega
      have hT:ovT ⟨rel,at'⟩=[111,118,101,114,114,105,100,101,32]++rel++[10]:=by rw [ovT];simp only [Tk]
      rw [hT] at hle
      simp only [Ta,Tc,Td] at hle
      conv=>whnf
      refine ⟨_,by omega,hr1,?_⟩
      rcases hP with rfl | rfl
      all_goals
       conv=>whnf
       refine ⟨L,[111,118,101,114,114,105,100,101,32]++rel++[10],rfl,⟨(by first | exact .inl rfl | exact .inr rfl),rfl,rfl⟩,⟨[[111,118,101,114,114,105,100,101,32],rel,[10]],rfl,by simp,by simp,by simp⟩,(by (try simp only [Ta,Tc,Td]);omega),?_⟩
       conv=>whnf
       refine oiO ?_
       conv=>whnf
       refine ⟨⟨i+1,_,rfl,(by rw [hfin,hT];simp only [Tk];rfl),.inr rfl,by omega⟩,?_⟩
       show ((overs.length:Int) - ((i:Int)+1)).toNat<((overs.length:Int) - (i:Int)).toNat
       omega
     have hi2:i=overs.length:=by
      have hl1:(overs.map (Xa pl)).length=overs.length:=Tf ..
      have hi2:¬(i:Int)<(overs.map (Xa pl)).length:=hi2
      rw [hl1] at hi2;omega
     subst hi2
     rw [T8]
     rcases hP with rfl | rfl
     all_goals
      conv=>whnf
      exact ⟨_,rfl,rfl,(by first | exact .inl rfl | exact .inr rfl)⟩
   intro vs σ hI
   obtain ⟨P,rfl,rfl,hP⟩:=hI
   conv=>whnf
   rcases hP with rfl | rfl
   all_goals
    refine ⟨⟨0,_,rfl,(by simp only [TY,TN,Sz,TM];rfl),(by first | exact .inl rfl | exact .inr rfl),by omega⟩,?_⟩
    intro vs σ hI
    obtain ⟨i,P,rfl,rfl,hP,hi⟩:=hI
    conv=>whnf
    refine Zyq (fun hi2=>?_) (fun hi2=>?_)
    ·have hl1:(rules.map (Yp pl)).length=rules.length:=Tf ..
     have hi2:i<rules.length:=by have hi2:(i:Int)<(rules.map (Yp pl)).length:=hi2;rw [hl1] at hi2;omega
     have hg:=Z1 wRu rules i hi2
     have htk:=VG Zns hi2
     have hle:=Zbj Zns rules (i+1)
     have hmem:=TE hi2
     obtain ⟨L,hL⟩:∃L,l++(tys.map tyT).flatten++(rels.map reT).flatten++(comps.map coT).flatten++(inits.map inT).flatten++(overs.map ovT).flatten++((rules.take i).map Zns).flatten=L:=⟨_,rfl⟩
     have hLl:L.length=(l++(tys.map tyT).flatten++(rels.map reT).flatten++(comps.map coT).flatten++(inits.map inT).flatten++(overs.map ovT).flatten).length+((rules.take i).map Zns).flatten.length:=by rw [← hL,Ta]
     (try simp only [Ta] at hLl)
     rw [htk,Ta] at hle
     rw [hL]
     obtain ⟨x,hX⟩:∃x,rules[i]=x:=⟨_,rfl⟩
     rw [hX] at hg hmem htk hle
     obtain ⟨head,as',bd,at'⟩:=x
     have hfin:l++(tys.map tyT).flatten++(rels.map reT).flatten++(comps.map coT).flatten++(inits.map inT).flatten++(overs.map ovT).flatten++((rules.take (i+1)).map Zns).flatten=L++Zns ⟨head,as',bd,at'⟩:=by rw [htk,← Tk,hL]
     have hr1:(rules.map (Yp pl))[((i:Nat):Int).toNat]?=some (Yp pl ⟨head,as',bd,at'⟩):=by simp [hi2,hX]
     have hw:wRu ⟨head,as',bd,at'⟩≤n:=by omega
     have hT:Zns ⟨head,as',bd,at'⟩=(ruT ⟨head,as',bd,at'⟩)++[10]:=rfl
     rw [hT] at hle
     simp only [Ta,Tc,Td] at hle
     conv=>whnf
     refine ⟨_,by omega,hr1,?_⟩
     rcases hP with rfl | rfl
     all_goals
      conv=>whnf
      refine ⟨L,(ruT ⟨head,as',bd,at'⟩),rfl,⟨(by first | exact .inl rfl | exact .inr rfl),rfl,rfl⟩,⟨pl,⟨head,as',bd,at'⟩,rfl,⟨m3 _ hmem,hw,hn⟩,rfl⟩,(by (try simp only [Ta,Tc,Td]);omega),?_⟩
      conv=>whnf
      refine ⟨L++(ruT ⟨head,as',bd,at'⟩),[10],rfl,⟨.inr rfl,rfl,rfl⟩,⟨[[10]],rfl,by simp,by simp,by simp⟩,(by (try simp only [Ta,Tc,Td]);omega),?_⟩
      conv=>whnf
      refine oiO ?_
      conv=>whnf
      refine ⟨⟨i+1,_,rfl,(by rw [hfin,hT];simp only [Tk];rfl),.inr rfl,by omega⟩,?_⟩
      show ((rules.length:Int) - ((i:Int)+1)).toNat<((rules.length:Int) - (i:Int)).toNat
      omega
    have hi2:i=rules.length:=by
     have hl1:(rules.map (Yp pl)).length=rules.length:=Tf ..
     have hi2:¬(i:Int)<(rules.map (Yp pl)).length:=hi2
     rw [hl1] at hi2;omega
    subst hi2
    rw [T8]
    rcases hP with rfl | rfl
    all_goals
     conv=>whnf
     exact h _ (by first | exact .inl rfl | exact .inr rfl)
 ·exact h.elim
theorem cWU (hN:NumOK w0 nG) (hL:LexC w0 nG):∀n,PCalls (GG w0 nG) 68 (ZsA n)
 | 0=>Zvx ⟨⟨Jn,Yv⟩,⟨ZmR,Zbh 0⟩,⟨ZxV 0,ZaA _ _ _ _ _ _⟩,⟨Zpu,ZeA 0⟩,⟨cWR hN hL 0,Zdp 0⟩,⟨Xj (Zj Tryz.func68 (by kernel_rfl) rfl),YE Zdq _⟩,trivial⟩
 | n+1=>Zvx ⟨⟨Jn,Yv⟩,⟨ZmR,Zbh _⟩,⟨ZxV _,ZaA _ _ _ _ _ _⟩,⟨Zpu,ZeA _⟩,⟨cWR hN hL _,Zdp _⟩,⟨Xk (sp:=ZsA) (cWU hN hL n),YE Zdq _⟩,trivial⟩
end Go.PM.Lex
end

section
namespace Go.PM.Lex
theorem ZsB {a:Nat} {r:Bs} {room:Bool} {t:Tok} (h:VS a r room=.tok t):room=true:=by
 cases room with
 | true=>rfl
 | false =>
  rw [ZU] at h
  split at h
  ·cases h
  ·rw [Ti rfl] at h;cases h
end Go.PM.Lex
end

section
namespace Go.PM.Lex
theorem ZsC {z:Bs} {c:UInt8} (hc:c.toNat<128):pk (c::z)=((c.toNat:Int),1):=by
 have e:Lib.decodeL (c::z)=(c.toNat,1):=by
  rw [Lib.decodeL_N];unfold Lib.decodeN;rw [Ti (by simpa using hc)];simp
 unfold pk
 rw [e,Te (by simp;omega)]
structure Fol (c:UInt8) (z:Bs):Prop where
 low:c.toNat<128
 let':Zg c.toNat=false
 dig:Zl c.toNat=false
 dot:c=46→Zg (pk z).1=false
theorem Fol.pk {c:UInt8} {z:Bs} (h:Fol c z):Lex.pk (c::z)=((c.toNat:Int),1):=ZsC h.low
end Go.PM.Lex
end

section
namespace Go.PM.Lex
inductive Pc where
 | blank (b:UInt8) | tok (s:Bs) (t:T0)
def Pc.bs:Pc→Bs | .blank b=>[b] | .tok s _=>s
def Pc.ts:Pc→Ts | .blank _=>[] | .tok _ t=>[t]
def bsP (l:List Pc):Bs:=(l.map Pc.bs).flatten
def tsP (l:List Pc):Ts:=(l.map Pc.ts).flatten
@[simp] theorem bsP_nil:bsP []=[]:=rfl
@[simp] theorem tsP_nil:tsP []=[]:=rfl
@[simp] theorem bsP_cons (p:Pc) (l:List Pc):bsP (p::l)=p.bs++bsP l:=by simp [bsP]
@[simp] theorem tsP_cons (p:Pc) (l:List Pc):tsP (p::l)=p.ts++tsP l:=by simp [tsP]
@[simp] theorem bsP_app (l m:List Pc):bsP (l++m)=bsP l++bsP m:=by simp [bsP]
@[simp] theorem tsP_app (l m:List Pc):tsP (l++m)=tsP l++tsP m:=by simp [tsP]
theorem Zjl (l:List (List Pc)):bsP l.flatten=(l.map bsP).flatten:=by induction l with | nil=>rfl | cons x l ih=>simp [ih]
theorem Zjm (l:List (List Pc)):tsP l.flatten=(l.map tsP).flatten:=by induction l with | nil=>rfl | cons x l ih=>simp [ih]
def nmP (s:Bs):Pc:=.tok s (nmT s)
def sgP (s:Bs):Pc:=.tok s (sgT s)
theorem ZkH:∀d:Fin 16,Ze0 (Zhf d.val)=d.val∧Wl true (Zhf d.val)=true∧(d.val<10→Wl false (Zhf d.val)=true)∧Zhf d.val≠120:=by decide +kernel
theorem ZoG (base:Nat) (l:Bs) (b:UInt8):Wz base (l++[b])=Wz base l * base+Ze0 b:=by simp [Wz]
theorem Zbk {base:Nat} (hb:base=10∨base=16):∀(f n:Nat),n<f→Wz base (JS base f n)=n∧(∀b∈JS base f n,Wl (decide (base=16)) b=true∧b≠120)∧JS base f n≠[]∧∀k,n<base ^ (k+1)→(JS base f n).length≤k+1
 | 0,n,h=>by omega
 | f+1,n,h=>by
  have hd:∀d,d<base→Ze0 (Zhf d)=d∧Wl (decide (base=16)) (Zhf d)=true∧Zhf d≠120:=fun d hd=>by
   obtain ⟨h1,h2,h3,h4⟩:=ZkH ⟨d,by omega⟩
   refine ⟨h1,?_,h4⟩
   rcases hb with rfl | rfl
   ·exact h3 hd
   ·exact h2
  rw [JS]
  by_cases c:n<base
  ·rw [Ti c]
   obtain ⟨h1,h2,h3⟩:=hd n c
   refine ⟨by simpa [Wz] using h1,fun b hb=>?_,by simp,fun k _=>by simp⟩
   rw [Sm.1 hb];exact ⟨h2,h3⟩
  ·rw [Te c]
   have hlt:n / base<n:=Nat.div_lt_self (by omega) (by omega)
   obtain ⟨i1,i2,i3,i4⟩:=Zbk hb f (n / base) (by omega)
   obtain ⟨h1,h2,h3⟩:=hd (n % base) (Nat.mod_lt _ (by omega))
   refine ⟨?_,fun b hb=>?_,by simp,fun k hk=>?_⟩
   ·rw [ZoG,i1,h1,Nat.mul_comm];exact Nat.div_add_mod n base
   ·rcases TU.1 hb with hb | hb
    ·exact i2 b hb
    ·rw [Sm.1 hb];exact ⟨h2,h3⟩
   ·cases k with
    | zero=>simp at hk;omega
    | succ k =>
     have:n / base<base ^ (k+1):=by
      rw [Nat.div_lt_iff_lt_mul (by omega)]
      rw [Nat.pow_succ] at hk;exact hk
     have:=i4 k this
     exact m90
end Go.PM.Lex
end

section
namespace Go.PM.Lex
def spP:Pc:=.blank 32
def nlP:Pc:=.blank 10
@[simp] theorem bs_sp:spP.bs=[32]:=rfl
@[simp] theorem bs_nl:nlP.bs=[10]:=rfl
@[simp] theorem ts_sp:spP.ts=[]:=rfl
@[simp] theorem ts_nl:nlP.ts=[]:=rfl
@[simp] theorem bs_nm (s:Bs):(nmP s).bs=s:=rfl
@[simp] theorem bs_sg (s:Bs):(sgP s).bs=s:=rfl
@[simp] theorem ts_nm (s:Bs):(nmP s).ts=[nmT s]:=rfl
@[simp] theorem ts_sg (s:Bs):(sgP s).ts=[sgT s]:=rfl
@[simp] theorem bs_tok (s:Bs) (t:T0):(Pc.tok s t).bs=s:=rfl
@[simp] theorem ts_tok (s:Bs) (t:T0):(Pc.tok s t).ts=[t]:=rfl
def ZeB (sep:List Pc):List (List Pc)→List Pc
 | []=>[]
 | x::l=>sep++(x++ZeB sep l)
def Vd (sep:List Pc):List (List Pc)→List Pc
 | []=>[]
 | x::l=>x++ZeB sep l
def cmP:List Pc:=[sgP [44],spP]
def Zxr:List Pc:=[spP,sgP [124],spP]
theorem ZbP (sep:Bs):∀(x:Bs) (l:List Bs),Zf sep (x::l)=x++(l.map fun y=>sep++y).flatten
 | x,[]=>by simp [Zf]
 | x,y::l=>by rw [Zf,ZbP sep y l];simp;intro h;cases h
theorem ZgZ (sep:List Pc):∀l:List (List Pc),bsP (ZeB sep l)=((l.map bsP).map fun y=>bsP sep++y).flatten
 | []=>rfl
 | x::l=>by simp [ZeB,ZgZ sep l]
theorem Zg0 {sep:List Pc} {w:Bs} (h:tsP sep=[sgT w]):∀l:List (List Pc),tsP (ZeB sep l)=Zjk w (l.map tsP)
 | []=>rfl
 | x::l=>by simp [ZeB,Zjk,Zg0 h l,h]
theorem Wu (sep:List Pc) (l:List (List Pc)):bsP (Vd sep l)=Zf (bsP sep) (l.map bsP):=by
 cases l with
 | nil=>rfl
 | cons x l=>rw [TA,ZbP,Vd,bsP_app,ZgZ]
theorem Wv {sep:List Pc} {w:Bs} (h:tsP sep=[sgT w]) (l:List (List Pc)):tsP (Vd sep l)=UM w (l.map tsP):=by
 cases l with
 | nil=>rfl
 | cons x l=>rw [TA,UM,Vd,tsP_app,Zg0 h]
def opP (op:Nat):Pc:=if 15≤op∧op≤19 then nmP (Wj op) else sgP (Wj op)
def Zij (want:Nat) (p:Nat×List Pc):List Pc:=if p.1<want then sgP [40]::(p.2++[sgP [41]]) else p.2
def Zpv (w1 w2:Nat) (mid:List Pc):List (Nat×List Pc)→List Pc
 | []=>[]
 | [a]=>Zij w1 a
 | a::b::_=>Zij w1 a++(mid++Zij w2 b)
def brP (fr fin:Bs) (ps:List (List Pc)):List Pc:=sgP fr::(Vd cmP ps++[sgP fin])
def Zvy (op:Nat) (text:Bs) (n:Int) (ps:List (Nat×List Pc)):List Pc :=
 if Zv op<5 then Zpv (Zv op) (Zv op+1) [spP,opP op,spP] ps
 else if Zv op=5 then sgP (Wj op)::Zpv 5 5 [] ps
 else if Wj op≠[] then nmP (Wj op)::brP [40] [41] (ps.map Prod.snd)
 else if op=6 then brP [91] [93] (ps.map Prod.snd)
 else if op=7 then sgP [36]::nmP text::(if ps.length=0 then [] else brP [40] [41] (ps.map Prod.snd))
 else if op=3 then [.tok (Zdz n) ⟨2,[],n⟩]
 else if op=4 then [.tok (Zpm text) ⟨3,text,0⟩]
 else if op=5 then [nmP [110,105,108]]
 else if op=2 then [nmP [95]]
 else [nmP text]
mutual
def exP:Ex→List Pc
 | .mk op text n args _=>Zvy op text n (Zg1 args)
def Zg1:List Ex→List (Nat×List Pc)
 | []=>[]
 | e::l=>(Zv (opE e),exP e)::Zg1 l
end
def bs2 (p:Nat×List Pc):Nat×Bs:=(p.1,bsP p.2)
def ts2 (p:Nat×List Pc):Nat×Ts:=(p.1,tsP p.2)
theorem Zjn (w:Nat) (p:Nat×List Pc):bsP (Zij w p)=Zmx w (bs2 p):=by
 unfold Zij Zmx bs2
 simp only
 split <;> simp
theorem Zjo (w:Nat) (p:Nat×List Pc):tsP (Zij w p)=Zty w (ts2 p):=by
 unfold Zij Zty ts2
 simp only
 split <;> simp
theorem ZmT (w1 w2:Nat) (mid:List Pc) (l:List (Nat×List Pc)):bsP (Zpv w1 w2 mid l)=exA w1 w2 (bsP mid) (l.map bs2):=by
 match l with
 | []=>rfl
 | [a]=>simp [Zpv,exA,Zjn]
 | a::b::l=>simp [Zpv,exA,Zjn]
theorem ZmU (w1 w2:Nat) (mid:List Pc) (l:List (Nat×List Pc)):tsP (Zpv w1 w2 mid l)=Zvf w1 w2 (tsP mid) (l.map ts2):=by
 match l with
 | []=>rfl
 | [a]=>simp [Zpv,Zvf,Zjo]
 | a::b::l=>simp [Zpv,Zvf,Zjo]
theorem ZmV:bsP cmP=cmm:=rfl
theorem ZmW:tsP cmP=[sgT [44]]:=rfl
theorem Zdr (fr fin:Bs) (l:List (List Pc)):bsP (brP fr fin l)=fr++(Zf cmm (l.map bsP)++fin):=by simp [brP,Wu,ZmV]
theorem Zds (fr fin:Bs) (l:List (List Pc)):tsP (brP fr fin l)=brK fr fin (l.map tsP):=by simp [brP,brK,Wv ZmW]
theorem Zvz (op:Nat):(opP op).bs=Wj op:=by unfold opP;split <;> rfl
theorem ZvA (op:Nat):(opP op).ts=[opT op]:=by unfold opP opT;split <;> rfl
theorem Zik (l:List (Nat×List Pc)):(l.map Prod.snd).map bsP=(l.map bs2).map Prod.snd:=by rw [TD,TD];rfl
theorem Zil (l:List (Nat×List Pc)):(l.map Prod.snd).map tsP=(l.map ts2).map Prod.snd:=by rw [TD,TD];rfl
theorem ZsD (op:Nat) (t:Bs) (n:Int) (l:List (Nat×List Pc)):bsP (Zvy op t n l)=exN op t n (l.map bs2):=by
 unfold Zvy exN
 split
 ·rw [ZmT];simp [Zvz]
 split
 ·rw [bsP_cons,ZmT];rfl
 split
 ·rw [bsP_cons,Zdr,Zik];rfl
 split
 ·rw [Zdr,Zik]
 split
 ·rw [bsP_cons,bsP_cons,Tf]
  split
  ·rfl
  ·rw [Zdr,Zik];rfl
 split
 ·simp
 split
 ·simp
 split
 ·simp
 split
 ·simp
 ·simp
theorem ZsE (op:Nat) (t:Bs) (n:Int) (l:List (Nat×List Pc)):tsP (Zvy op t n l)=Zxp op t n (l.map ts2):=by
 unfold Zvy Zxp
 split
 ·rw [ZmU];simp [ZvA]
 split
 ·rw [tsP_cons,ZmU];rfl
 split
 ·rw [tsP_cons,Zds,Zil];rfl
 split
 ·rw [Zds,Zil]
 split
 ·rw [tsP_cons,tsP_cons,Tf]
  split
  ·rfl
  ·rw [Zds,Zil];rfl
 split
 ·simp
 split
 ·simp
 split
 ·simp
 split
 ·simp
 ·simp
mutual
theorem Zjp:∀e:Ex,bsP (exP e)=exT e
 | .mk op t n l a=>by rw [exP,exT,ZsD,Zjq l]
theorem Zjq:∀l:List Ex,(Zg1 l).map bs2=ZfM l
 | []=>by rw [Zg1,ZfM];rfl
 | x::l=>by rw [Zg1,ZfM,TA,Zjq l,bs2,Zjp x]
end
mutual
theorem Zjr:∀e:Ex,tsP (exP e)=exK e
 | .mk op t n l a=>by rw [exP,exK,ZsE,Zjs l]
theorem Zjs:∀l:List Ex,(Zg1 l).map ts2=Zvg l
 | []=>by rw [Zg1,Zvg];rfl
 | x::l=>by rw [Zg1,Zvg,TA,Zjs l,ts2,Zjr x]
end
def ZvB (op:Nat):List Pc:=[spP,sgP (Zwv op),spP]
def ZvC:List Ex→List Pc
 | []=>[]
 | e::_=>exP e
def ZvD (l:List Ex):List Pc:=(l.map fun e=>spP::exP e).flatten
mutual
def liP:Li→List Pc
 | .mk op rel args body _ =>
  if op=2 then sgP [33]::nmP rel::brP [40] [41] (args.map exP)
  else if op=1 then nmP rel::brP [40] [41] (args.map exP)
  else if op≤8 then ZvC args++(ZvB op++ZvC args.tail)
  else ZvC args++(spP::sgP [61]::spP::nmP (Zfk op)::(ZvD args.tail++(spP::sgP [58]::spP::sgP [123]::spP::(Vd cmP (Znt body)++[spP,sgP [125]]))))
def Znt:List Li→List (List Pc)
 | []=>[]
 | e::l=>liP e::Znt l
end
theorem ZmX (l:List Li):Znt l=l.map liP:=by induction l with | nil=>rfl | cons x l ih=>simp [Znt,ih]
theorem Zim (l:List Ex):bsP (ZvC l)=ZgR l:=by cases l with | nil=>rfl | cons x l=>exact Zjp x
theorem Zin (l:List Ex):tsP (ZvC l)=Zww l:=by cases l with | nil=>rfl | cons x l=>exact Zjr x
theorem ZsF (l:List Ex):bsP (ZvD l)=Zje l:=by
 unfold ZvD Zje
 rw [Zjl,TD]
 congr 1
 refine TO fun x _=>?_
 simp [Zjp]
theorem ZsG (l:List Ex):tsP (ZvD l)=(l.map exK).flatten:=by
 unfold ZvD
 rw [Zjm,TD]
 congr 1
 refine TO fun x _=>?_
 simp [Zjr]
theorem Zfp (l:List Ex):(l.map exP).map bsP=Zpn l:=by rw [TD];exact TO fun x _=>Zjp x
theorem Zfq (l:List Ex):(l.map exP).map tsP=l.map exK:=by rw [TD];exact TO fun x _=>Zjr x
theorem ZsH {op:Nat}:bsP (ZvB op)=Zmz op:=by
 unfold ZvB Zwv Zmz
 (repeat' split) <;> rfl
theorem ZsI {op:Nat}:tsP (ZvB op)=[sgT (Zwv op)]:=by simp [ZvB]
mutual
theorem ZvE:∀x:Li,bsP (liP x)=liT x
 | .mk op rel args body a=>by
  rw [liP,liT]
  split
  ·rw [bsP_cons,bsP_cons,Zdr,Zfp];rfl
  split
  ·rw [bsP_cons,Zdr,Zfp];rfl
  split
  ·rw [bsP_app,bsP_app,Zim,Zim,ZsH]
  ·simp only [bsP_app,bsP_cons,bsP_nil,Zim,ZsF,Wu,ZmV,Zio body,bs_sp,bs_sg,bs_nm,TM,Sr,T6]
theorem Zio:∀l:List Li,(Znt l).map bsP=ZfN l
 | []=>by rw [Znt,ZfN];rfl
 | x::l=>by rw [Znt,ZfN,TA,ZvE x,Zio l]
end
mutual
theorem ZvF:∀x:Li,tsP (liP x)=liK x
 | .mk op rel args body a=>by
  rw [liP,liK]
  split
  ·rw [tsP_cons,tsP_cons,Zds,Zfq];rfl
  split
  ·rw [tsP_cons,Zds,Zfq];rfl
  split
  ·rw [tsP_app,tsP_app,Zin,Zin,ZsI];rfl
  ·simp only [tsP_app,tsP_cons,tsP_nil,Zin,ZsG,Wv ZmW,Zip body,ts_sp,ts_sg,ts_nm,TM,Sr,T6]
theorem Zip:∀l:List Li,(Znt l).map tsP=Zsr l
 | []=>by rw [Znt,Zsr];rfl
 | x::l=>by rw [Znt,Zsr,TA,ZvF x,Zip l]
end
end Go.PM.Lex
end

section
namespace Go.PM.Lex
def ifP:List Pc:=[spP,sgP [58,45],spP]
def ruP (r:Ru):List Pc:=nmP r.head::(brP [40] [41] (r.args.map exP)++((if 0<r.body.length then ifP++Vd cmP (r.body.map liP) else [])++[sgP [46]]))
theorem ZsJ (l:List Li):(l.map liP).map bsP=ZfN l:=by rw [← ZmX,Zio]
theorem ZsK (l:List Li):(l.map liP).map tsP=l.map liK:=by rw [← ZmX,Zip,Zss]
theorem ZvG (r:Ru):bsP (ruP r)=ruT r:=by
 unfold ruP ruT XH
 split
 ·simp [-List.map_map,Zdr,Zfp,Wu,ZmV,ZsJ,ifP]
 ·simp [-List.map_map,Zdr,Zfp]
theorem ZvH (r:Ru):tsP (ruP r)=ruK r:=by
 unfold ruP ruK
 split
 ·simp [-List.map_map,Zds,Zfq,Wv ZmW,ZsK,ifP]
 ·simp [-List.map_map,Zds,Zfq]
def fiP (f:Fi):List Pc:=[nmP f.name,sgP [58],spP,nmP f.typ]
def ZsL (l:List Fi) (fin:Bs):List Pc:=Vd cmP (l.map fiP)++[sgP fin]
theorem ZvI (f:Fi):bsP (fiP f)=fiT f:=by simp [fiP,fiT]
theorem ZvJ (f:Fi):tsP (fiP f)=fiK f:=by simp [fiP,fiK]
theorem ZsM (l:List Fi):(l.map fiP).map bsP=l.map fiT:=by rw [TD];exact TO fun x _=>ZvI x
theorem ZsN (l:List Fi):(l.map fiP).map tsP=l.map fiK:=by rw [TD];exact TO fun x _=>ZvJ x
theorem Ziq (fr:Bs) (l:List Fi) (fin:Bs):fr++bsP (ZsL l fin)=Vc fr l fin:=by simp [-List.map_map,ZsL,Vc,Wu,ZmV,ZsM]
theorem Zir (fr:Bs) (l:List Fi) (fin:Bs):sgT fr::tsP (ZsL l fin)=Zvn fr l fin:=by simp [-List.map_map,ZsL,Zvn,Wv ZmW,ZsN]
def ZsO (l:List Bs):List Pc:=if l.length=0 then [] else sgP [60]::(Vd cmP (l.map fun s=>[nmP s])++[sgP [62]])
theorem ZsP (l:List Bs):(l.map fun s=>[nmP s]).map bsP=l:=by rw [TD];simp [Function.comp_def]
theorem ZsQ (l:List Bs):(l.map fun s=>[nmP s]).map tsP=l.map fun s=>[nmT s]:=by rw [TD];exact TO fun x _=>by simp
theorem ZmY (l:List Bs):bsP (ZsO l)=Jm l:=by
 unfold ZsO Jm
 split
 ·rfl
 ·simp [-List.map_map,Wu,ZmV,ZsP]
theorem ZmZ (l:List Bs):tsP (ZsO l)=Zvo l:=by
 unfold ZsO Zvo
 split
 ·rfl
 ·simp [-List.map_map,Wv ZmW,ZsQ]
def caP (c:Ca):List Pc:=nmP c.name::spP::sgP [123]::ZsL c.fields [125]
theorem ZvK (c:Ca):bsP (caP c)=caT c:=by
 rw [caT,← Ziq];simp [caP]
theorem ZvL (c:Ca):tsP (caP c)=caK c:=by
 rw [caK,← Zir];simp [caP]
theorem ZvM:bsP Zxr=[32,124,32]:=rfl
theorem ZvN:tsP Zxr=[sgT [124]]:=rfl
def tyP (t:Ty):List Pc:=nmP [116,121,112,101]::spP::nmP t.name::((if t.kind=1 then [spP,sgP [60,58],spP,nmP t.base] else if t.kind=2 then spP::sgP [61]::spP::sgP [91]::ZsL t.fields [93] else spP::sgP [61]::spP::Vd Zxr (t.cases.map caP))++[nlP])
theorem ZsR (l:List Ca):(l.map caP).map bsP=l.map caT:=by rw [TD];exact TO fun x _=>ZvK x
theorem ZsS (l:List Ca):(l.map caP).map tsP=l.map caK:=by rw [TD];exact TO fun x _=>ZvL x
theorem ZvO (t:Ty):bsP (tyP t)=tyT t:=by
 unfold tyP tyT
 split
 ·simp
 split
 ·rw [← Ziq];simp
 ·simp [-List.map_map,Wu,ZvM,ZsR]
theorem ZvP (t:Ty):tsP (tyP t)=tyK t:=by
 unfold tyP tyK
 split
 ·simp
 split
 ·rw [← Zir];simp
 ·simp [-List.map_map,Wv ZvN,ZsS]
def Zm0 (i o n:Bool):List Pc:=(if i then [spP,nmP [105,110,112,117,116]] else [])++((if o then [spP,nmP [111,117,116,112,117,116]] else [])++(if n then [spP,nmP [105,110,108,105,110,101]] else []))
def reP (d:Re):List Pc:=nmP [100,101,99,108]::spP::nmP d.name::sgP [40]::(ZsL d.fields [41]++(Zm0 d.inn d.out d.inl++[nlP]))
theorem ZvQ (d:Re):bsP (reP d)=reT d:=by
 obtain ⟨nm,fs,i,o,n,a⟩:=d
 unfold reP reT
 rw [← Ziq]
 cases i <;> cases o <;> cases n <;> simp [Zm0]
theorem ZvR (d:Re):tsP (reP d)=reK d:=by
 obtain ⟨nm,fs,i,o,n,a⟩:=d
 unfold reP reK
 rw [← Zir]
 cases i <;> cases o <;> cases n <;> simp [Zm0,Zpt]
def inP (i:Ini):List Pc:=nmP [105,110,105,116]::spP::nmP i.name::spP::sgP [61]::spP::nmP i.comp::(ZsO i.types++[nlP])
theorem ZvS (i:Ini):bsP (inP i)=inT i:=by simp [inP,inT,ZmY]
theorem ZvT (i:Ini):tsP (inP i)=inK i:=by simp [inP,inK,ZmZ]
def ovP (o:Ov):List Pc:=[nmP [111,118,101,114,114,105,100,101],spP,nmP o.rel,nlP]
theorem ZvU (o:Ov):bsP (ovP o)=ovT o:=by simp [ovP,ovT]
theorem ZvV (o:Ov):tsP (ovP o)=ovK o:=by simp [ovP,ovK]
def Zfr {α:Type} (P:α→List Pc) (l:List α):List Pc:=(l.map P).flatten
theorem ZaD {α:Type} {P:α→List Pc} {T:α→Bs} (h:∀x,bsP (P x)=T x) (l:List α):bsP (Zfr P l)=(l.map T).flatten:=by
 rw [Zfr,Zjl,TD];congr 1;exact TO fun x _=>h x
theorem ZaE {α:Type} {P:α→List Pc} {T:α→Ts} (h:∀x,tsP (P x)=T x) (l:List α):tsP (Zfr P l)=(l.map T).flatten:=by
 rw [Zfr,Zjm,TD];congr 1;exact TO fun x _=>h x
mutual
def unP:Un→List Pc
 | .mk tys rels rules comps inits overs=>Zfr tyP tys++(Zfr reP rels++(Zpw comps++(Zfr inP inits++(Zfr ovP overs++Zfr (fun r=>ruP r++[nlP]) rules))))
def coP:Co→List Pc
 | .mk nm ps base tys u _=>nmP [99,111,109,112]::spP::nmP nm::(ZsO ps++((if base=[] then [] else spP::sgP [58]::spP::nmP base::ZsO tys)++(spP::sgP [123]::nlP::(unP u++[sgP [125],nlP]))))
def Zpw:List Co→List Pc
 | []=>[]
 | c::l=>coP c++Zpw l
end
mutual
theorem ZvW:∀u:Un,bsP (unP u)=unT u
 | .mk tys rels rules comps inits overs=>by
  rw [unP,unT]
  simp only [bsP_app,ZaD ZvO,ZaD ZvQ,ZaD ZvS,ZaD ZvU,Zm1 comps]
  rw [ZaD (T:=fun r=>ruT r++[10]) fun r=>by simp [ZvG]]
theorem ZvX:∀c:Co,bsP (coP c)=coT c
 | .mk nm ps base tys u a=>by
  rw [coP,coT]
  have ih:=ZvW u
  split <;> simp [ZmY,ih]
theorem Zm1:∀l:List Co,bsP (Zpw l)=(Zjf l).flatten
 | []=>by rw [Zpw,Zjf];rfl
 | c::l=>by rw [Zpw,Zjf,bsP_app,ZvX c,Zm1 l];rfl
end
mutual
theorem ZvY:∀u:Un,tsP (unP u)=unK u
 | .mk tys rels rules comps inits overs=>by
  rw [unP,unK]
  simp only [tsP_app,ZaE ZvP,ZaE ZvR,ZaE ZvT,ZaE ZvV,Zm2 comps]
  rw [ZaE (T:=ruK) fun r=>by simp [ZvH]]
theorem ZvZ:∀c:Co,tsP (coP c)=coK c
 | .mk nm ps base tys u a=>by
  rw [coP,coK]
  have ih:=ZvY u
  split <;> simp [ZmZ,ih]
theorem Zm2:∀l:List Co,tsP (Zpw l)=(Zvp l).flatten
 | []=>by rw [Zpw,Zvp];rfl
 | c::l=>by rw [Zpw,Zvp,tsP_app,ZvZ c,Zm2 l];rfl
end
end Go.PM.Lex
end

section
namespace Go.PM.Lex
theorem Zv0 (e:Ex):opE (erE e)=opE e:=by cases e;rfl
theorem Zjt (l:List Ex):(Zb8 l).length=l.length:=by rw [Zdd,Tf]
theorem ZoH (l:List Li):(ZgN l).length=l.length:=by rw [Zmr,Tf]
mutual
theorem Zju:∀e:Ex,exT (erE e)=exT e
 | .mk op t n l a=>by rw [erE,exT,exT,Zm3 l]
theorem Zm3:∀l:List Ex,ZfM (Zb8 l)=ZfM l
 | []=>by rw [Zb8]
 | x::l=>by rw [Zb8,ZfM,ZfM,Zju x,Zm3 l,Zv0]
end
mutual
theorem Zm4:∀e:Ex,ZO (erE e)=ZO e
 | .mk op t n l a=>by rw [erE,ZO,ZO,Zfs l,Zjt]
theorem Zfs:∀l:List Ex,Zfj (Zb8 l)=Zfj l
 | []=>by rw [Zb8]
 | x::l=>by rw [Zb8,Zfj,Zfj,Zm4 x,Zfs l]
end
mutual
theorem Zm5:∀e:Ex,Zdk (erE e)=Zdk e
 | .mk op t n l a=>by rw [erE,Zdk,Zdk,Zft l]
theorem Zft:∀l:List Ex,Zdl (Zb8 l)=Zdl l
 | []=>by rw [Zb8]
 | x::l=>by rw [Zb8,Zdl,Zdl,Zm5 x,Zft l]
end
mutual
theorem ZsT:∀e:Ex,wE (erE e)=wE e
 | .mk op t n l a=>by rw [erE,wE,wE,Zpx l]
theorem Zpx:∀l:List Ex,wEs (Zb8 l)=wEs l
 | []=>by rw [Zb8]
 | x::l=>by rw [Zb8,wEs,wEs,ZsT x,Zpx l]
end
theorem Zdt {α β:Type} {er:α→α} {f:α→β} (h:∀x,f (er x)=f x) (l:List α):(l.map er).map f=l.map f:=by rw [TD];exact TO fun x _=>h x
theorem Jp {α:Type} {er:α→α} {p:α→Bool} (h:∀x,p (er x)=p x) (l:List α):(l.map er).all p=l.all p:=by rw [List.all_map];congr 1;funext x;exact h x
theorem ZbQ {α:Type} {er:α→α} {w:α→Nat} (h:∀x,w (er x)=w x) (l:List α):szS w (l.map er)=szS w l:=by induction l with | nil=>rfl | cons x l ih=>simp only [TA,szS,h,ih]
theorem ZsU (l:List Ex):ZgR (Zb8 l)=ZgR l:=by cases l with | nil=>rfl | cons x l=>exact Zju x
theorem Zxs (l:List Ex):(Zb8 l).tail=Zb8 l.tail:=by cases l with | nil=>rfl | cons x l=>rfl
theorem ZsV (l:List Ex):Zpn (Zb8 l)=Zpn l:=by rw [Zdd];exact Zdt Zju l
theorem ZsW (l:List Ex):Zje (Zb8 l)=Zje l:=by
 unfold Zje;rw [Zdd,Zdt (f:=fun e=>[32]++exT e) fun x=>by rw [Zju]]
theorem Zm6 (fr fin:Bs) (l:List Ex):XH fr fin (Zb8 l)=XH fr fin l:=by unfold XH;rw [ZsV]
mutual
theorem Zv1:∀x:Li,liT (erL x)=liT x
 | .mk op rel args body a=>by rw [erL,liT,liT,Zis body];simp only [ZsU,Zxs,ZsW,Zm6]
theorem Zis:∀l:List Li,ZfN (ZgN l)=ZfN l
 | []=>by rw [ZgN]
 | x::l=>by rw [ZgN,ZfN,ZfN,Zv1 x,Zis l]
end
mutual
theorem Zm7:∀x:Li,YI (erL x)=YI x
 | .mk op rel args body a=>by rw [erL,YI,YI,Zjv body,Zfs,Zjt,ZoH]
theorem Zjv:∀l:List Li,ZgQ (ZgN l)=ZgQ l
 | []=>by rw [ZgN]
 | x::l=>by rw [ZgN,ZgQ,ZgQ,Zm7 x,Zjv l]
end
mutual
theorem Zm8:∀x:Li,Zhi (erL x)=Zhi x
 | .mk op rel args body a=>by rw [erL,Zhi,Zhi,Zjw body,Zft]
theorem Zjw:∀l:List Li,ZdR (ZgN l)=ZdR l
 | []=>by rw [ZgN]
 | x::l=>by rw [ZgN,ZdR,ZdR,Zm8 x,Zjw l]
end
mutual
theorem Zv2:∀x:Li,wL (erL x)=wL x
 | .mk op rel args body a=>by rw [erL,wL,wL,Zpy body,Zdd,ZbQ ZsT]
theorem Zpy:∀l:List Li,wLs (ZgN l)=wLs l
 | []=>by rw [ZgN]
 | x::l=>by rw [ZgN,wLs,wLs,Zv2 x,Zpy l]
end
theorem Zv3 (r:Ru):ruT (Zod r)=ruT r:=by
 unfold ruT Zod
 simp only [Tf]
 rw [← Zdd,Zm6,← Zmr,Zis]
theorem ZoI (r:Ru):Yq (Zod r)=Yq r:=by
 unfold Yq Zod
 simp only [Jp Zm4,Jp Zm7]
theorem ZoJ (r:Ru):Zbf (Zod r)=Zbf r:=by
 unfold Zbf Zod
 simp only [Jp Zm5,Jp Zm8]
theorem Zv4 (r:Ru):wRu (Zod r)=wRu r:=by
 unfold wRu Zod
 simp only [ZbQ ZsT,ZbQ Zv2]
mutual
theorem Zv5:∀u:Un,unT (Zoe u)=unT u
 | .mk a b c d e f=>by
  rw [Zoe,unT,unT,Zm9 d,Zdt (er:=Zwq) (f:=tyT) fun x=>rfl,Zdt (er:=Zwr) (f:=reT) fun x=>rfl,Zdt (er:=Zws) (f:=inT) fun x=>rfl,Zdt (er:=Zwt) (f:=ovT) fun x=>rfl,Zdt (f:=fun r=>ruT r++[10]) fun x=>by rw [Zv3]]
theorem Zv6:∀c:Co,coT (Zof c)=coT c
 | .mk nm ps base tys u a=>by rw [Zof,coT,coT,Zv5 u]
theorem Zm9:∀l:List Co,Zjf (Zav l)=Zjf l
 | []=>by rw [Zav]
 | x::l=>by rw [Zav,Zjf,Zjf,Zv6 x,Zm9 l]
end
mutual
theorem ZsX:∀u:Un,ZbL (Zoe u)=ZbL u
 | .mk a b c d e f=>by
  rw [Zoe,ZbL,ZbL,Zg2 d,Jp (er:=Zwq) (p:=Z0) fun x=>rfl,Jp (er:=Zwr) (p:=XQ) fun x=>rfl,Jp (er:=Zws) (p:=Wa) fun x=>rfl,Jp (er:=Zwt) (p:=WK) fun x=>rfl,Jp ZoI]
theorem ZoK:∀c:Co,ZP (Zof c)=ZP c
 | .mk nm ps base tys u a=>by rw [Zof,ZP,ZP,ZsX u]
theorem Zg2:∀l:List Co,ZbM (Zav l)=ZbM l
 | []=>by rw [Zav]
 | x::l=>by rw [Zav,ZbM,ZbM,ZoK x,Zg2 l]
end
mutual
theorem ZsY:∀u:Un,ZkR (Zoe u)=ZkR u
 | .mk a b c d e f=>by rw [Zoe,ZkR,ZkR,Zg3 d,Jp ZoJ]
theorem ZoL:∀c:Co,ZbZ (Zof c)=ZbZ c
 | .mk nm ps base tys u a=>by rw [Zof,ZbZ,ZbZ,ZsY u]
theorem Zg3:∀l:List Co,Jo (Zav l)=Jo l
 | []=>by rw [Zav]
 | x::l=>by rw [Zav,Jo,Jo,ZoL x,Zg3 l]
end
mutual
theorem Zv7:∀u:Un,wUn (Zoe u)=wUn u
 | .mk a b c d e f=>by
  rw [Zoe,wUn,wUn,Zna d,ZbQ (er:=Zwq) (w:=wTy) fun x=>rfl,ZbQ (er:=Zwr) (w:=wRe) fun x=>rfl,ZbQ (er:=Zws) (w:=wIn) fun x=>rfl,ZbQ (er:=Zwt) (w:=wOv) fun x=>rfl,ZbQ Zv4]
theorem Zv8:∀c:Co,wCo (Zof c)=wCo c
 | .mk nm ps base tys u a=>by rw [Zof,wCo,wCo,Zv7 u]
theorem Zna:∀l:List Co,ZmA (Zav l)=ZmA l
 | []=>by rw [Zav]
 | x::l=>by rw [Zav,ZmA,ZmA,Zv8 x,Zna l]
end
theorem Zdu:∀(f:Nat) (r out q:Bs),WS f r out=some q→q.length≤out.length+4 * r.length
 | 0,r,out,q,h=>by simp [WS] at h
 | f+1,r,out,q,h=>by
  unfold WS at h
  split at h
  ·cases h;omega
  ·rename_i hr
   have hd:=Lib.decodeL_le r hr
   have hg:=JF r
   split at h
   ·have:=Zdu f _ _ _ h
    simp only [Ta,Tc,Td,Tt] at this;omega
   ·split at h
    ·cases h
    ·have:=Zdu f _ _ _ h
     have h4:=ZwM (Lib.decodeL r).1
     simp only [Ta,Tt] at this;omega
theorem ZoM (s:Bs):(Zpm s).length≤4 * s.length+2:=by
 unfold Zpm VC
 split
 ·cases hq:WS (s.length+1) s [34] with
  | none=>simp
  | some q =>
   have:=Zdu _ _ _ _ hq
   simp only [So,Option.getD_some,Ta,Tc,Td] at this ⊢;omega
 ·simp
theorem ZoN {n:Int} (h0:-9223372036854775808≤n) (h1:n<9223372036854775808):(Zdz n).length≤20:=by
 unfold Zdz
 split
 ·have h:=(Zbk (base:=16) (.inr rfl) ((n+18446744073709551616).toNat+1) (n+18446744073709551616).toNat (by omega)).2.2.2 15 (by
   have:(16:Nat) ^ (15+1)=18446744073709551616:=by decide
   omega)
  simp only [Ta,Tc,Td,VD];omega
 ·have h:=(Zbk (base:=10) (.inl rfl) (n.toNat+1) n.toNat (by omega)).2.2.2 18 (by
   have:(10:Nat) ^ (18+1)=10000000000000000000:=by decide
   omega)
  rw [VD];omega
theorem ZoO (op:Nat):(Wj op).length≤6:=by
 by_cases h:op<26
 ·have hk:∀o:Fin 26,(Wj o.val).length≤6:=by decide
  exact hk ⟨op,h⟩
 ·unfold Wj
  (repeat rw [Te (by omega)])
  decide
def Zpz (l:List (Nat×Bs)):Nat:=(l.map fun p=>p.2.length+4).sum
theorem VH (l:List Bs):(Zf cmm l).length≤(l.map fun s=>s.length+4).sum:=by
 match l with
 | []=>exact T4 _
 | [x]=>simp [Zf]
 | x::y::l =>
  have ih:=VH (y::l)
  rw [Zf]
  ·simp only [Ta,TA,List.sum_cons] at ih ⊢
   have:cmm.length=2:=rfl
   omega
  ·intro h;cases h
theorem Zfu (w:Nat) (p:Nat×Bs):(Zmx w p).length≤p.2.length+2:=by
 unfold Zmx;split
 ·exact m90
 ·omega
theorem Znb (w1 w2:Nat) (sep:Bs) (l:List (Nat×Bs)):(exA w1 w2 sep l).length≤Zpz l+sep.length:=by
 match l with
 | []=>simp [exA]
 | [a]=>have:=Zfu w1 a;simp only [exA,Zpz,TA,TN,List.sum_cons,List.sum_nil];omega
 | a::b::l =>
  have h1:=Zfu w1 a
  have h2:=Zfu w2 b
  simp only [exA,Zpz,TA,List.sum_cons,Ta];omega
theorem Znc (op:Nat) (t:Bs) (n:Int) (l:List (Nat×Bs)) (h0:-9223372036854775808≤n) (h1:n<9223372036854775808):(exN op t n l).length≤Zpz l+5 * t.length+30:=by
 have hw:=ZoO op
 have hn:=ZoN h0 h1
 have hq:=ZoM t
 have hc:(Zf cmm (l.map Prod.snd)).length≤Zpz l:=by
  have:=VH (l.map Prod.snd)
  rw [TD] at this
  exact this
 unfold exN
 split
 ·have:=Znb (Zv op) (Zv op+1) ([32]++(Wj op++[32])) l
  simp only [Ta,Tc,Td] at this;omega
 split
 ·have:=Znb 5 5 [] l
  simp only [Ta,Td] at this ⊢;omega
 split
 ·exact m90
 split
 ·exact m90
 split
 ·simp only [Ta,Tc,Td]
  split
  ·simp only [Td];omega
  ·exact m90
 split
 ·omega
 split
 ·omega
 split
 ·simp only [Tc,Td];omega
 split
 ·simp only [Tc,Td];omega
 ·omega
mutual
theorem Zdv:∀e:Ex,Zdk e=true→(exT e).length+4≤64 * wE e
 | .mk op t n l a,h=>by
  obtain ⟨r1,r2⟩:=Zdm h
  have ih:=Zbl l (by rw [U0];exact Tl.2 r2)
  have:=Znc op t n (ZfM l) r1.1 r1.2
  rw [exT,wE];omega
theorem Zbl:∀l:List Ex,Zdl l=true→Zpz (ZfM l)≤64 * wEs l
 | [],h=>by rw [ZfM];simp [Zpz]
 | x::l,h=>by
  rw [Zdl,Tj] at h
  have h1:=Zdv x h.1
  have h2:=Zbl l h.2
  rw [ZfM,wEs]
  unfold Zpz at h2 ⊢
  simp only [TA,List.sum_cons];omega
end
theorem Znd {α:Type} {T:α→Bs} {w:α→Nat}:∀l:List α,(∀x∈l,(T x).length+4≤64 * w x)→(l.map fun x=>(T x).length+4).sum≤64 * szS w l
 | [],h=>T4 _
 | x::l,h=>by
  have h1:=h x (by simp)
  have h2:=Znd l fun y hy=>h y (Tr _ hy)
  simp only [TA,List.sum_cons,szS];omega
theorem JW {α:Type} {T:α→Bs} {w:α→Nat} {l:List α} (h:∀x∈l,(T x).length+4≤64 * w x):(Zf cmm (l.map T)).length≤64 * szS w l:=by
 have h1:=VH (l.map T)
 rw [TD] at h1
 exact Sc h1 (Znd l h)
theorem WO {α:Type} {T:α→Bs} {w:α→Nat}:∀{l:List α},(∀x∈l,(T x).length+4≤64 * w x)→((l.map T).flatten).length≤64 * szS w l
 | [],h=>T4 _
 | x::l,h=>by
  have h1:=h x (by simp)
  have h2:=WO (l:=l) fun y hy=>h y (Tr _ hy)
  simp only [TA,List.flatten_cons,Ta,szS];omega
theorem Zit:∀{l:List Ex},(∀x∈l,Zdk x=true)→(ZgR l).length+(Zje l.tail).length≤64 * szS wE l∧(ZgR l).length+(ZgR l.tail).length≤64 * szS wE l
 | [],h=>by simp [ZgR,Zje]
 | x::l,h=>by
  have h1:=Zdv x (h x (by simp))
  have h2:=WO (T:=fun e=>[32]++exT e) (w:=fun e=>wE e) (l:=l) fun y hy=>by
   have:=Zdv y (h y (Tr _ hy))
   cases y with
   | mk o t n a b =>
    have hw:1≤wE (.mk o t n a b):=by rw [wE];omega
    have h3:=Znc o t n (ZfM a) (Zdm (h _ (Tr _ hy))).1.1 (Zdm (h _ (Tr _ hy))).1.2
    have h4:=Zbl a (by rw [U0];exact Tl.2 (Zdm (h _ (Tr _ hy))).2)
    simp only [Ta,Tc,Td]
    rw [exT,wE];omega
  refine ⟨?_,?_⟩
  ·show (exT x).length+(Zje l).length≤64 * szS wE (x::l)
   rw [szS];unfold Zje
   have:szS (fun e=>wE e) l=szS wE l:=rfl
   omega
  ·show (exT x).length+(ZgR l).length≤64 * szS wE (x::l)
   cases l with
   | nil=>rw [szS,szS];simp [ZgR];omega
   | cons y l =>
    have h5:=Zdv y (h y (by simp))
    rw [szS,szS];simp only [ZgR];omega
theorem ZsZ (op:Nat):(Zmz op).length≤4:=by unfold Zmz;(repeat' split) <;> decide
theorem Zs0 (op:Nat):(Zfk op).length≤5:=by unfold Zfk;(repeat' split) <;> decide
theorem Zg4 {fr fin:Bs} {l:List Ex} (h:∀x∈l,Zdk x=true):(XH fr fin l).length≤fr.length+64 * szS wE l+fin.length:=by
 have:=JW (T:=exT) (w:=wE) fun x hx=>Zdv x (h x hx)
 unfold XH Zpn
 simp only [Ta];omega
mutual
theorem Zs1:∀x:Li,Zhi x=true→(liT x).length+4≤64 * wL x
 | .mk op rel args body a,h=>by
  obtain ⟨r1,r2⟩:=ZmM h
  have h1:=Zfv body (by rw [Zcb];exact Tl.2 r2)
  have h2:=Zg4 (fr:=[40]) (fin:=[41]) r1
  obtain ⟨h3,h4⟩:=Zit r1
  have h5:=ZsZ op
  have h6:=Zs0 op
  have h7:=VH (ZfN body)
  rw [liT,wL]
  simp only [Tc,Td] at h2
  split
  ·exact m90
  split
  ·simp only [Ta];omega
  split
  ·simp only [Ta];omega
  ·exact m90
theorem Zfv:∀l:List Li,ZdR l=true→((ZfN l).map fun s=>s.length+4).sum≤64 * wLs l
 | [],h=>by rw [ZfN];simp
 | x::l,h=>by
  rw [ZdR,Tj] at h
  have h1:=Zs1 x h.1
  have h2:=Zfv l h.2
  rw [ZfN,wLs]
  simp only [TA,List.sum_cons];omega
end
theorem Zne {r:Ru} (h:Zbf r=true):(ruT r).length+10≤64 * wRu r:=by
 simp only [Zbf,Tj] at h
 have r1:=Tl.1 h.1
 have r2:=Tl.1 h.2
 have h1:=Zg4 (fr:=[40]) (fin:=[41]) r1
 have h2:=Zfv r.body (by rw [Zcb];exact h.2)
 have h3:=VH (ZfN r.body)
 rw [ZgS] at h2
 unfold ruT wRu
 simp only [Tc,Td] at h1
 split
 ·exact m90
 ·exact m90
theorem Zs2 (f:Fi):(fiT f).length+4≤64 * wFi f:=by
 unfold fiT wFi;simp only [Ta,Tc,Td];omega
theorem Ziu (fr fin:Bs) (l:List Fi):(Vc fr l fin).length≤fr.length+64 * szS wFi l+fin.length:=by
 have:=JW (T:=fiT) (w:=wFi) (l:=l) fun x _=>Zs2 x
 unfold Vc
 simp only [Ta];omega
theorem Zs3 (c:Ca):(caT c).length+4≤64 * wCa c:=by
 have:=Ziu (c.name++[32,123]) [125] c.fields
 unfold caT wCa
 simp only [Ta,Tc,Td] at this ⊢;omega
theorem ZeC (l:List Bs):(Zf [32,124,32] l).length≤(l.map fun s=>s.length+4).sum:=by
 match l with
 | []=>exact T4 _
 | [x]=>simp [Zf]
 | x::y::l =>
  have ih:=ZeC (y::l)
  rw [Zf]
  ·simp only [Ta,TA,List.sum_cons,Tc,Td] at ih ⊢
   omega
  ·intro h;cases h
theorem Zs4 (t:Ty):(tyT t).length+4≤64 * wTy t:=by
 have h1:=Ziu [32,61,32,91] [93] t.fields
 have h2:=ZeC (t.cases.map caT)
 rw [TD] at h2
 have h3:=Znd (T:=caT) (w:=wCa) t.cases fun x _=>Zs3 x
 have h4:(t.cases.map fun x=>(caT x).length+4).sum=(t.cases.map ((fun s:Bs=>s.length+4)∘caT)).sum:=rfl
 rw [h4] at h3
 unfold tyT wTy
 simp only [Tc,Td] at h1
 simp only [Ta,Tc,Td]
 split
 ·exact m90
 split
 ·omega
 ·exact m90
theorem Zs5 (d:Re):(reT d).length+4≤64 * wRe d:=by
 have h1:=Ziu ([100,101,99,108,32]++(d.name++[40])) [41] d.fields
 have hi:∀(b:Bool) (s:Bs),(if b then s else []).length≤s.length:=fun b s=>by cases b <;> simp
 have i1:=hi d.inn [32,105,110,112,117,116]
 have i2:=hi d.out [32,111,117,116,112,117,116]
 have i3:=hi d.inl [32,105,110,108,105,110,101]
 unfold reT wRe
 simp only [Ta,Tc,Td] at h1 i1 i2 i3 ⊢;omega
theorem Ziv (l:List Bs):(Jm l).length≤2+64 * szS wBs l:=by
 have h1:=JW (T:=fun s:Bs=>s) (w:=wBs) (l:=l) fun x _=>by unfold wBs;omega
 rw [List.map_id'] at h1
 unfold Jm
 split
 ·simp
 ·exact m90
theorem Zs6 (i:Ini):(inT i).length+4≤64 * wIn i:=by
 have:=Ziv i.types
 unfold inT wIn
 exact m90
theorem Zs7 (o:Ov):(ovT o).length+4≤64 * wOv o:=by
 unfold ovT wOv
 exact m90
mutual
theorem Znf:∀u:Un,ZkR u=true→(unT u).length+4≤64 * wUn u
 | .mk a b c d e f,h=>by
  simp only [ZkR,Tj] at h
  have r1:=Tl.1 h.1
  have h1:=WO (T:=tyT) (w:=wTy) (l:=a) fun x _=>Zs4 x
  have h2:=WO (T:=reT) (w:=wRe) (l:=b) fun x _=>Zs5 x
  have h3:=WO (T:=fun r=>ruT r++[10]) (w:=wRu) (l:=c) fun x hx=>by
   have:=Zne (r1 x hx)
   exact m90
  have h4:=Zjx d h.2
  have h5:=WO (T:=inT) (w:=wIn) (l:=e) fun x _=>Zs6 x
  have h6:=WO (T:=ovT) (w:=wOv) (l:=f) fun x _=>Zs7 x
  rw [unT,wUn]
  simp only [Ta];omega
theorem Zs8:∀c:Co,ZbZ c=true→(coT c).length+4≤64 * wCo c+64
 | .mk nm ps base tys u a,h=>by
  rw [ZbZ] at h
  have h1:=Znf u h
  have h2:=Ziv ps
  have h3:=Ziv tys
  rw [coT,wCo]
  split
  ·exact m90
  ·exact m90
theorem Zjx:∀l:List Co,Jo l=true→((Zjf l).flatten).length≤64 * ZmA l
 | [],h=>by rw [Zjf];simp
 | x::l,h=>by
  rw [Jo,Tj] at h
  have h1:=Zs8 x h.1
  have h2:=Zjx l h.2
  rw [Zjf,ZmA]
  simp only [List.flatten_cons,Ta];omega
end
end Go.PM.Lex
end

section
namespace Go.PM.Lex
open Go.Proofs
variable {w0:World} {nG:Nat}
noncomputable def ZkI (n:Nat):Zu:=fun args σ K=>match args,σ with
 | [.agg c],⟨[],[],0⟩=>∃pl x,c=(Yp pl x).map .d∧((Yq x=true→Zbf x=true)∧wRu x≤n∧n≤16777216) ∧
   ((Yq x=false→K (.ret (.tuple [.d (.str []),.d (.int .i64 160)])) ⟨[],[],0⟩)∧(Yq x=true→∀r,ZV 65536 16384 Wh (ruT x)=r→K (.ret (.tuple [.d (.str (Yy (ruT x) r).1),.d (.int .i64 (Yy (ruT x) r).2)])) ⟨[],[],0⟩))
 | _,_=>False
theorem ZkJ (n:Nat):Zc (ZkI n):=fun args σ K K' hK h=>by
 unfold ZkI at h ⊢
 exact m70
noncomputable def Zv9 (n:Nat):Tbl:=[(63,YQ (YH Yp) Yq wRu n),(64,ZtB n),(31,Wd),(28,ZbK),(32,Zdn)]
theorem Zwa {n:Nat} (ht:TblOK (GG w0 nG) (Zv9 n)):PCalls (GG w0 nG) 24 (ZkI n):=by
 refine pc ht Tryz.func24 ?_
 intro args σ K h
 unfold ZkI at h
 split at h
 ·obtain ⟨pl,⟨hd1,as1,bd1,at'⟩,rfl,⟨hab,hz,hn⟩,ha,hb⟩:=h
  refine ⟨Zb [],0,true,by simp,Tb rfl,?_⟩
  conv=>whnf
  refine ⟨pl,⟨hd1,as1,bd1,at'⟩,rfl,⟨hz,by omega⟩,fun b hb1=>?_⟩
  cases b with
  | false =>
   conv=>whnf
   exact ha hb1
  | true =>
   have h1:=hab hb1
   have h2:=Zne h1
   have hb:=hb hb1
   conv=>whnf
   refine ⟨[],ruT ⟨hd1,as1,bd1,at'⟩,rfl,⟨.inl rfl,rfl,rfl⟩,⟨pl,⟨hd1,as1,bd1,at'⟩,rfl,⟨by rw [ZtA,hb1,h1];rfl,hz,by omega⟩,rfl⟩,by simp only [Td];omega,?_⟩
   obtain ⟨T,hT⟩:∃T,ruT ⟨hd1,as1,bd1,at'⟩=T:=⟨_,rfl⟩
   rw [hT] at hb h2 ⊢
   all_goals
    conv=>whnf
    refine ⟨T,⟨rfl,rfl,rfl,(by first | exact .inl rfl | exact .inr rfl),by omega⟩,?_⟩
    conv=>whnf
    refine ⟨by omega,fun x hx=>?_⟩
    have hb:=hb x hx
    cases x with
    | ok v L =>
     exact m71
    | err p c =>
     exact m177
 ·exact h.elim
theorem Zyi (hg:GlobOK w0 nG) (hN:NumOK w0 nG) (hL:LexC w0 nG) (n:Nat):PCalls (GG w0 nG) 24 (ZkI n) :=
 Zwa ⟨⟨Zxa hL n,Zq _ _ _ _⟩,⟨cWR hN hL n,Zdp n⟩,⟨U1,XT⟩,⟨ZqQ hg,JP⟩,⟨Zih,JU⟩,trivial⟩
noncomputable def ZkK (n:Nat):Zu:=fun args σ K=>match args,σ with
 | [.agg c],⟨[],[],0⟩=>∃pl x,c=(XF pl x).map .d∧((ZbL x=true→ZkR x=true)∧wUn x≤n∧n≤16777216) ∧
   ((ZbL x=false→K (.ret (.tuple [.d (.str []),.d (.int .i64 160)])) ⟨[],[],0⟩)∧(ZbL x=true→∀r,ZV 65536 16384 Wh (unT x)=r→K (.ret (.tuple [.d (.str (Yy (unT x) r).1),.d (.int .i64 (Yy (unT x) r).2)])) ⟨[],[],0⟩))
 | _,_=>False
theorem ZkL (n:Nat):Zc (ZkK n):=fun args σ K K' hK h=>by
 unfold ZkK at h ⊢
 exact m70
noncomputable def Zwb (n:Nat):Tbl:=[(67,YQ (YH XF) ZbL wUn n),(68,ZsA n),(31,Wd),(28,ZbK),(32,Zdn)]
theorem Zwc {n:Nat} (ht:TblOK (GG w0 nG) (Zwb n)):PCalls (GG w0 nG) 26 (ZkK n):=by
 refine pc ht Tryz.func26 ?_
 intro args σ K h
 unfold ZkK at h
 split at h
 ·obtain ⟨pl,⟨u1,u2,u3,u4,u5,u6⟩,rfl,⟨hab,hz,hn⟩,ha,hb⟩:=h
  refine ⟨Zb [],0,true,by simp,Tb rfl,?_⟩
  conv=>whnf
  refine ⟨pl,(.mk u1 u2 u3 u4 u5 u6),rfl,⟨hz,by omega⟩,fun b hb1=>?_⟩
  cases b with
  | false =>
   conv=>whnf
   exact ha hb1
  | true =>
   have h1:=hab hb1
   have h2:=Znf _ h1
   have hb:=hb hb1
   conv=>whnf
   refine ⟨[],unT (.mk u1 u2 u3 u4 u5 u6),rfl,⟨.inl rfl,rfl,rfl⟩,⟨pl,(.mk u1 u2 u3 u4 u5 u6),rfl,⟨by rw [ZtC,hb1,h1];rfl,hz,by omega⟩,rfl⟩,by simp only [Td];omega,fun p' hp'=>?_⟩
   obtain ⟨T,hT⟩:∃T,unT (.mk u1 u2 u3 u4 u5 u6)=T:=⟨_,rfl⟩
   rw [hT] at hb h2 ⊢
   rcases hp' with rfl | rfl
   all_goals
    conv=>whnf
    refine ⟨T,⟨rfl,rfl,rfl,(by first | exact .inl rfl | exact .inr rfl),by omega⟩,?_⟩
    conv=>whnf
    refine ⟨by omega,fun x hx=>?_⟩
    have hb:=hb x hx
    cases x with
    | ok v L =>
     exact m71
    | err p c =>
     exact m177
 ·exact h.elim
theorem Zyj (hg:GlobOK w0 nG) (hN:NumOK w0 nG) (hL:LexC w0 nG) (n:Nat):PCalls (GG w0 nG) 26 (ZkK n) :=
 Zwc ⟨⟨ZxO hL n,Zq _ _ _ _⟩,⟨cWU hN hL n,Zdq n⟩,⟨U1,XT⟩,⟨ZqQ hg,JP⟩,⟨Zih,JU⟩,trivial⟩
end Go.PM.Lex
end

section
namespace Go.PM.Lex
end Go.PM.Lex
end

section
namespace Go.PM.Lex
open Go.Proofs
theorem Zng {ts:Ts} {ws:List Bs} (h:isW ts ws=true):ts.tail.length+1=ts.length:=by obtain ⟨t,l,rfl⟩:=ZqT h;rfl
theorem Zwd {ts:Ts} (h:ZB ts=true):ts.tail.length+1=ts.length:=by
 cases ts with
 | nil=>exact absurd rfl (ZcR h)
 | cons t l=>rfl
theorem XU {α:Type} (f:α→Nat) (x:α):∀l:List α,szS f (l++[x])=szS f l+(1+f x)
 | []=>by simp only [T6,szS];omega
 | y::l=>by simp only [Sr,szS,XU f x l];omega
theorem ZkM {ts:Ts} (h:¬ZL ts=false):ts.tail.length+1=ts.length:=by
 cases ts with
 | nil=>exact absurd rfl h
 | cons t l=>rfl
theorem Zs9 {ts:Ts} (h:¬(U3 ts).1=0):ts.tail.length+1=ts.length:=by
 obtain ⟨t,l,rfl⟩:=ZqU h;rfl
end Go.PM.Lex
end

section
namespace Go.PM.Lex
open Go.Proofs
variable {w0:World} {nG:Nat}
end Go.PM.Lex
end

section
namespace Go.PM.Lex
open Go.Proofs
variable {w0:World} {nG:Nat}
end Go.PM.Lex
end

section
namespace Go.PM.Lex
open Go.Proofs
variable {w0:World} {nG:Nat}
end Go.PM.Lex
end

section
namespace Go.PM.Lex
open Go.Proofs
variable {w0:World} {nG:Nat}
theorem Zwe {r:Bs} (h:(pk r).1≠-1):r≠[]∧pk r=(((Lib.decodeL r).1:Int),(Lib.decodeL r).2)∧Lib.encodeRune ((Lib.decodeL r).1:Int)=r.take (Lib.decodeL r).2:=by
 by_cases hr:r=[]
 ·rw [hr] at h;simp [pk] at h
 ·by_cases hv:Lib.decodeL r=(65533,1)
  ·unfold pk at h;rw [Ti (.inr hv)] at h;simp at h
  ·refine ⟨hr,by unfold pk;rw [Te (by simp only [not_or];exact ⟨hr,hv⟩)],Lib.encode_decode r hr fun g=>hv (Prod.ext g.1 g.2)⟩
end Go.PM.Lex
end

section
namespace Go.PM.Lex
open Go.Proofs
structure TokK (t:T0):Prop where
 num:Zsj t.n=true
 str:t.kind=3→(VC t.text).isSome=true
 nam:t.kind=1→Zif t.text=true
def AllT (ts:Ts):Prop:=∀t∈ts,TokK t
def pt:Ts→Nat
 | []=>0
 | t::l=>t.text.length+4+pt l
theorem AllT.tail {ts:Ts} (h:AllT ts):AllT ts.tail:=fun t ht=>h t (List.mem_of_mem_tail ht)
theorem V4 (ts:Ts):pt ts.tail≤pt ts:=by
 cases ts with
 | nil=>exact Tp _
 | cons t l=>show pt l≤t.text.length+4+pt l;omega
theorem Zg5 {ts:Ts} (h:ts.tail.length+1=ts.length):pt ts.tail+(hd ts).text.length+4=pt ts:=by
 cases ts with
 | nil=>simp at h
 | cons t l=>show pt l+t.text.length+4=t.text.length+4+pt l;omega
theorem Zwf {ts:Ts} (h:AllT ts) (h1:ts.tail.length+1=ts.length):TokK (hd ts):=by
 cases ts with
 | nil=>simp at h1
 | cons t l=>exact h t (List.mem_cons_self ..)
abbrev Gd {α:Type} (sz:α→Nat) (ok:α→Prop) (P:Ts→R α):Prop:=∀ts v ts',AllT ts→P ts=.ok v ts'→ok v∧AllT ts'∧sz v+pt ts'≤pt ts
theorem XC {w:Bs} {ts ts':Ts} {u:Unit} (ha:AllT ts) (h:ZT w ts=.ok u ts'):AllT ts'∧pt ts'+4≤pt ts:=by
 unfold ZT at h
 split at h
 ·rename_i hc;cases h;have:=Zg5 (Zng hc);exact ⟨ha.tail,by omega⟩
 ·cases h
theorem Xl {ts ts':Ts} {v:Bs} (ha:AllT ts) (h:XE ts=.ok v ts'):YP v=true∧AllT ts'∧v.length+4+pt ts'≤pt ts:=by
 unfold XE at h
 split at h
 ·rename_i hc
  cases h
  have hn:=Zwd hc
  have:=Zg5 hn
  refine ⟨?_,ha.tail,by omega⟩
  have hk:=Zwf ha hn
  simp only [ZB,Tj,Tz] at hc
  unfold YP
  rw [hk.nam hc.1,TJ,Tj]
  exact hc.2
 ·cases h
theorem We {α:Type} {d:Nat} {fr tw:Bs} {read:Ts→R α} {ts ts':Ts} {v:α} (ha:AllT ts) (h:Zo d fr tw read ts=.ok v ts'):∃t1,read ts.tail=.ok v t1∧AllT ts.tail∧pt ts.tail+4≤pt ts∧(AllT t1→AllT ts'∧pt ts'≤pt t1):=by
 unfold Zo at h
 split at h
 ·rename_i hc
  have hp:=Zg5 (Zng hc)
  split at h
  ·cases h
  ·obtain ⟨a,t1,h1,h2⟩:=Zys h
   split at h2
   ·cases h2;exact ⟨_,h1,ha.tail,by omega,fun g=>⟨g,Tp _⟩⟩
   ·obtain ⟨u,t2,h3,h4⟩:=Zys h2
    cases h4
    exact ⟨_,h1,ha.tail,by omega,fun g=>by have:=XC g h3;exact ⟨this.1,by omega⟩⟩
 ·cases h
def okL {α:Type} (ok:α→Prop) (l:List α):Prop:=∀x∈l,ok x
theorem Yg {α:Type} {ok:α→Prop}:okL ok []:=fun _ h=>by cases h
theorem Wq {α:Type} {ok:α→Prop} {l:List α} {x:α} (h:okL ok l) (hx:ok x):okL ok (l++[x]):=fun y hy=>by
 rcases TU.1 hy with g | g
 ·exact h y g
 ·rw [Sm.1 g];exact hx
theorem Zg6 {α:Type} {sz:α→Nat} {ok:α→Prop} {sign:Bs} {most:Nat} {st:Ts→Bool} {one:Ts→R α} (h1:Gd (fun x=>1+sz x) ok one):∀f l ts v ts',okL ok l→AllT ts→X3 sign most st one f l ts=.ok v ts'→(okL ok v∧v≠[])∧AllT ts'∧szS sz v+pt ts'≤szS sz l+pt ts
 | 0,_,_,_,_,_,_,h=>by cases h
 | f+1,l,ts,v,ts',hl,ha,h=>by
  rw [X3] at h
  split at h
  ·cases h
  ·obtain ⟨x,t1,h2,h3⟩:=Zys h
   obtain ⟨k1,k2,k⟩:=h1 _ _ _ ha h2
   dsimp only at k
   have hlx:=Wq hl k1
   split at h3
   ·rename_i hc
    obtain ⟨g1,g2,g3⟩:=Zg6 h1 f _ _ _ _ hlx k2.tail h3
    have:=V4 t1
    rw [XU] at g3
    exact ⟨g1,g2,by omega⟩
   ·cases h3
    rw [XU]
    exact ⟨⟨hlx,by simp⟩,k2,by omega⟩
theorem Zbm {α:Type} {sz:α→Nat} {ok:α→Prop} {sign:Bs} {most:Nat} {st:Ts→Bool} {one:Ts→R α} (h1:Gd (fun x=>1+sz x) ok one):Gd (szS sz) (fun v=>okL ok v∧v≠[]) (X4 sign most st one):=fun ts v ts' ha h=>by
 have:=Zg6 h1 _ _ _ _ _ Yg ha h
 simpa [szS] using this
def Zxt (x:Fi):Prop:=YG x=true
def ZxW (x:Bs):Prop:=YP x=true
theorem ZoP:Gd (fun x=>1+wFi x) Zxt Ud:=fun ts v ts' ha h=>by
 obtain ⟨a,t1,h1,h⟩:=Zys h
 obtain ⟨_,t2,h2,h⟩:=Zys h
 obtain ⟨b,t3,h3,h⟩:=Zys h
 cases h
 obtain ⟨a1,a2,a3⟩:=Xl ha h1
 obtain ⟨b2,b3⟩:=XC a2 h2
 obtain ⟨c1,c2,c3⟩:=Xl b2 h3
 refine ⟨?_,c2,?_⟩
 ·unfold Zxt YG;rw [a1,c1];rfl
 ·simp only [wFi];omega
theorem ZoQ:Gd (fun x=>1+wBs x) ZxW XE:=fun ts v ts' ha h=>by
 obtain ⟨a1,a2,a3⟩:=Xl ha h
 exact ⟨a1,a2,by simp only [wBs];omega⟩
theorem Zdw (fin:Bs):Gd (szS wFi) (okL Zxt) (UB fin):=fun ts v ts' ha h=>by
 unfold UB at h
 split at h
 ·cases h;exact ⟨Yg,ha,by simp [szS]⟩
 ·obtain ⟨g1,g2,g3⟩:=Zbm ZoP _ _ _ ha h
  exact ⟨g1.1,g2,g3⟩
theorem Zfw:Gd (szS wBs) (okL ZxW) ZbB:=fun ts v ts' ha h=>by
 unfold ZbB at h
 split at h
 ·rename_i hc
  obtain ⟨a,t1,h1,h⟩:=Zys h
  obtain ⟨_,t2,h2,h⟩:=Zys h
  cases h
  obtain ⟨g1,g2,g3⟩:=Zbm ZoQ _ _ _ ha.tail h1
  obtain ⟨b2,b3⟩:=XC g2 h2
  have:=V4 ts
  exact ⟨g1.1,b2,by omega⟩
 ·cases h;exact ⟨Yg,ha,by simp [szS]⟩
theorem UN {α:Type} {p:α→Bool} {l:List α} (h:okL (fun x=>p x=true) l):l.all p=true:=Tl.2 h
def ZxX (x:Ca):Prop:=Xr x=true
theorem Zta:Gd (fun x=>1+wCa x) ZxX ZbW:=fun ts v ts' ha h=>by
 obtain ⟨a,t1,h1,h⟩:=Zys h
 obtain ⟨_,t2,h2,h⟩:=Zys h
 obtain ⟨b,t3,h3,h⟩:=Zys h
 obtain ⟨_,t4,h4,h⟩:=Zys h
 cases h
 obtain ⟨a1,a2,a3⟩:=Xl ha h1
 obtain ⟨b2,b3⟩:=XC a2 h2
 obtain ⟨c1,c2,c3⟩:=Zdw _ _ _ _ b2 h3
 obtain ⟨d2,d3⟩:=XC c2 h4
 refine ⟨?_,d2,?_⟩
 ·unfold ZxX Xr;rw [a1,TJ];exact UN c1
 ·simp only [wCa];omega
def ZtD (x:Ty):Prop:=Z0 x=true
theorem ZoR:Gd (fun x=>1+wTy x) ZtD Zer:=fun ts v ts' ha h=>by
 obtain ⟨a,t1,h1,h⟩:=Zys h
 obtain ⟨a1,a2,a3⟩:=Xl ha h1
 have hpt:=V4 t1
 split at h
 ·rename_i hc
  obtain ⟨b,t3,h3,h⟩:=Zys h
  cases h
  obtain ⟨c1,c2,c3⟩:=Xl a2.tail h3
  refine ⟨?_,c2,?_⟩
  ·simp [ZtD,Z0,Zay,a1,c1]
  ·simp only [wTy,szS];omega
 ·obtain ⟨_,t2,h2,h⟩:=Zys h
  obtain ⟨b2,b3⟩:=XC a2 h2
  have hpt2:=V4 t2
  split at h
  ·rename_i hc
   obtain ⟨b,t3,h3,h⟩:=Zys h
   obtain ⟨_,t4,h4,h⟩:=Zys h
   cases h
   obtain ⟨c1,c2,c3⟩:=Zdw _ _ _ _ b2.tail h3
   obtain ⟨d2,d3⟩:=XC c2 h4
   have:=UN c1
   refine ⟨?_,d2,?_⟩
   ·simp only [ZtD,Z0,Zay,a1];rw [this];simp
   ·simp only [wTy,szS,Td];omega
  ·obtain ⟨b,t3,h3,h⟩:=Zys h
   cases h
   obtain ⟨c1,c2,c3⟩:=Zbm Zta _ _ _ b2 h3
   have h5:=UN c1.1
   have h6:¬b.length=0:=fun g=>c1.2 (Su.1 g)
   refine ⟨?_,c2,?_⟩
   ·simp only [ZtD,Z0,Zay,a1];rw [h5];simp [h6]
   ·simp only [wTy,szS,Td];omega
theorem Zcc:∀(f:Nat) (i o n:Bool) (ts:Ts),AllT ts→AllT (Yx f i o n ts).2∧pt (Yx f i o n ts).2≤pt ts
 | 0,i,o,n,ts,ha=>⟨ha,Tp _⟩
 | f+1,i,o,n,ts,ha=>by
  rw [Yx]
  have:=V4 ts
  split
  ·have k:=Zcc f true o n ts.tail ha.tail;exact ⟨k.1,by omega⟩
  ·split
   ·have k:=Zcc f i true n ts.tail ha.tail;exact ⟨k.1,by omega⟩
   ·split
    ·have k:=Zcc f i o true ts.tail ha.tail;exact ⟨k.1,by omega⟩
    ·exact ⟨ha,Tp _⟩
def Zwx (x:Re):Prop:=XQ x=true
theorem Ztb:Gd (fun x=>1+wRe x) Zwx Zj3:=fun ts v ts' ha h=>by
 obtain ⟨a,t1,h1,h⟩:=Zys h
 obtain ⟨_,t2,h2,h⟩:=Zys h
 obtain ⟨b,t3,h3,h⟩:=Zys h
 obtain ⟨_,t4,h4,h⟩:=Zys h
 obtain ⟨a1,a2,a3⟩:=Xl ha h1
 obtain ⟨b2,b3⟩:=XC a2 h2
 obtain ⟨c1,c2,c3⟩:=Zdw _ _ _ _ b2 h3
 obtain ⟨d2,d3⟩:=XC c2 h4
 obtain ⟨e2,e3⟩:=Zcc 4 false false false t4 d2
 cases h
 refine ⟨?_,e2,?_⟩
 ·unfold Zwx XQ;rw [a1,TJ];exact UN c1
 ·simp only [wRe];omega
def okE (e:Ex):Prop:=ZO e=true∧Zdk e=true
theorem Ue {op:Nat} {t:Bs} {n:Int} {l:List Ex} {a:Nat} (h1:-2<Wo op) (h2:Wo op<0∨(l.length:Int)=Wo op) (h3:n=0∨op=3) (h4:X9 op t=true) (h5:Zsj n=true) (h6:okL okE l):okE (.mk op t n l a):=by
 have e1:l.all ZO=true:=Tl.2 fun x hx=>(h6 x hx).1
 have e2:l.all Zdk=true:=Tl.2 fun x hx=>(h6 x hx).2
 constructor
 ·simp only [ZO,Zn,Tj,Sj,Tz]
  exact ⟨h1,h2,h3,h4,e1⟩
 ·simp only [Zdk,U0,Tj];exact ⟨h5,e2⟩
theorem Zb0 (o:Nat) (t:Bs) (n:Int) (l:List Ex) (a:Nat):wE (.mk o t n l a)=1+t.length+szS wE l:=by rw [wE,Zjg]
abbrev GdE (P:Ts→R Ex):Prop:=Gd (fun v=>wE v+2) okE P
theorem Zwg {P:Ts→R Ex} (h:GdE P):Gd (fun v=>1+wE v) okE P:=fun ts v ts' ha e=>by obtain ⟨a,b,c⟩:=h _ _ _ ha e;exact ⟨a,b,by dsimp only at c ⊢;omega⟩
theorem Zfx {d:Nat} {ex:Ts→R Ex} (h:GdE ex) (fr tw:Bs) {ts ts':Ts} {v:List Ex} (ha:AllT ts) (e:ZdJ d ex fr tw ts=.ok v ts'):okL okE v∧AllT ts'∧szS wE v+4+pt ts'≤pt ts:=by
 unfold ZdJ at e
 obtain ⟨t1,h1,h2,h3,h4⟩:=We ha e
 split at h1
 ·cases h1;obtain ⟨g1,g2⟩:=h4 h2;exact ⟨Yg,g1,by simp only [szS];omega⟩
 ·obtain ⟨k1,k2,k3⟩:=Zbm (Zwg h) _ _ _ h2 h1
  obtain ⟨g1,g2⟩:=h4 k2
  exact ⟨k1.1,g1,by omega⟩
theorem Zg7 {ex:Ts→R Ex} (h:GdE ex):∀k l ts v ts',okL okE l→AllT ts→Jh ex k l ts=.ok v ts'→okL okE v∧v.length=l.length+k∧AllT ts'∧szS wE v+pt ts'≤szS wE l+pt ts
 | 0,l,ts,v,ts',hl,ha,e=>by cases e;exact ⟨hl,rfl,ha,Tp _⟩
 | k+1,l,ts,v,ts',hl,ha,e=>by
  obtain ⟨_,t1,h1,e⟩:=Zys e
  obtain ⟨x,t2,h2,e⟩:=Zys e
  have h3:AllT t1∧pt t1≤pt ts:=by
   split at h1
   ·cases h1;exact ⟨ha,Tp _⟩
   ·obtain ⟨g1,g2⟩:=XC ha h1;exact ⟨g1,by omega⟩
  obtain ⟨k1,k2,k3⟩:=h _ _ _ h3.1 h2
  obtain ⟨g1,g2,g3,g4⟩:=Zg7 h k _ _ _ _ (Wq hl k1) k2 e
  dsimp only at k3
  rw [XU] at g4
  simp only [Ta,Tw] at g2
  exact ⟨g1,by omega,g3,by omega⟩
theorem Zjy:Zsj 0=true:=by decide
theorem ZkN {d:Nat} {ex:Ts→R Ex} (h:GdE ex) {ts:Ts} {v:Ex} {ts':Ts} (hm:isW ts [[45]]=false) (ht:isW ts [[126]]=false) (ha:AllT ts) (e:VW d ex ts=.ok v ts'):okE v∧AllT ts'∧wE v+2+pt ts'≤pt ts:=by
 unfold VW at e
 split at e
 ·cases e
 rename_i hs
 have hl:=ZkM hs
 have hp:=Zg5 hl
 have hk:=Zwf ha hl
 split at e
 ·rename_i c
  cases e
  exact ⟨Ue (by decide) (.inr rfl) (.inr rfl) (by decide) hk.num Yg,ha.tail,by simp only [Zb0,szS,Td];omega⟩
 split at e
 ·rename_i c
  cases e
  exact ⟨Ue (by decide) (.inr rfl) (.inl rfl) (by simpa [X9] using hk.str c) Zjy Yg,ha.tail,by simp only [Zb0,szS];omega⟩
 split at e
 ·obtain ⟨t1,h1,h2,h3,h4⟩:=We ha e
  obtain ⟨k1,k2,k3⟩:=h _ _ _ h2 h1
  obtain ⟨g1,g2⟩:=h4 k2
  dsimp only at k3
  exact ⟨k1,g1,by omega⟩
 split at e
 ·obtain ⟨l,t1,h1,e⟩:=Zys e
  cases e
  obtain ⟨k1,k2,k3⟩:=Zfx h _ _ ha h1
  exact ⟨Ue (by decide) (.inl (by decide)) (.inl rfl) (by decide) Zjy k1,k2,by simp only [Zb0,Td];omega⟩
 split at e
 ·obtain ⟨l,t1,h1,e⟩:=Zys e
  obtain ⟨a1,a2,a3⟩:=Xl ha.tail h1
  have htx:X9 7 l=true:=by simpa [X9] using a1
  split at e
  ·obtain ⟨l2,t2,h2,e⟩:=Zys e
   cases e
   obtain ⟨k1,k2,k3⟩:=Zfx h _ _ a2 h2
   exact ⟨Ue (by decide) (.inl (by decide)) (.inl rfl) htx Zjy k1,k2,by simp only [Zb0];omega⟩
  ·cases e
   exact ⟨Ue (by decide) (.inl (by decide)) (.inl rfl) htx Zjy Yg,a2,by simp only [Zb0,szS];omega⟩
 split at e
 ·rename_i hf
  obtain ⟨l,t1,h1,e⟩:=Zys e
  obtain ⟨t2,h2,h3,h4,h5⟩:=We ha.tail h1
  cases e
  obtain ⟨g1,g2,g3,g4⟩:=Zg7 h _ _ _ _ _ Yg h3 h2
  obtain ⟨k1,k2⟩:=h5 g3
  have hw:-2<Wo (ZY (hd ts).text)∧((ZhT (ZY (hd ts).text):Nat):Int)=Wo (ZY (hd ts).text)∧X9 (ZY (hd ts).text) []=true:=by
   unfold ZY at hf ⊢
   (repeat' split) <;> first | decide +kernel | (exfalso;revert hf;simp [*])
  simp only [Td,Sf] at g2
  refine ⟨Ue hw.1 (.inr (by rw [g2];exact hw.2.1)) (.inl rfl) hw.2.2 Zjy g1,k1,?_⟩
  simp only [Zb0,szS,Td] at *;omega
 split at e
 ·exact m124
 split at e
 ·exact m124
 ·rename_i c2 c3 cp cb cd cf cn cu
  cases e
  have hn:(hd ts).kind=1∧Zgr (hd ts).text=false:=by
   unfold ZL at hs
   rw [Te (by simp [c2,c3])] at hs
   by_cases c4:(hd ts).kind=4
   ·rw [Ti c4] at hs
    exfalso
    refine hs ?_
    have e1:isW ts [[45],[126],[40],[91],[36]]=false:=by
     unfold isW at hm ht ⊢
     simp only [c4,decide_true,Bool.or_true,TJ] at hm ht ⊢
     simp only [List.contains_cons,List.contains_nil,Sl] at hm ht ⊢
     rw [hm,ht]
     simp [cp,cb,cd]
    exact e1
   ·rw [Te c4] at hs
    by_cases c1:(hd ts).kind=1
    ·rw [Ti c1] at hs
     refine ⟨c1,?_⟩
     simp only [cn,decide_false,Bool.false_or,Tz] at hs
     cases hk:Zgr (hd ts).text with
     | false=>rfl
     | true=>rw [hk] at hs;simp [cf] at hs
    ·rw [Te c1] at hs;exact absurd rfl hs
  have htx:X9 1 (hd ts).text=true:=by
   simp only [X9,true_or,if_true,YP]
   rw [hk.nam hn.1,hn.2]
   simp [cu]
  exact ⟨Ue (by decide) (.inr rfl) (.inl rfl) htx Zjy Yg,ha.tail,by simp only [Zb0,szS];omega⟩
theorem Zwh {ts:Ts} (h:¬(U3 ts).1=0):Wo (U3 ts).2=2∧X9 (U3 ts).2 []=true:=by
 revert h
 unfold U3
 (repeat' split) <;> intro h <;> first | exact absurd rfl h | decide
theorem Zg8 {sub:Nat→Ts→R Ex} (h:∀n,GdE (sub n)) (least:Nat):∀f e ts v ts',okE e→AllT ts→UC sub least f e ts=.ok v ts'→okE v∧AllT ts'∧wE v+pt ts'≤wE e+pt ts
 | 0,_,_,_,_,_,_,k=>by cases k
 | f+1,e,ts,v,ts',he,ha,k=>by
  rw [UC] at k
  split at k
  ·cases k;exact ⟨he,ha,Tp _⟩
  ·rename_i hc
   obtain ⟨g,t1,h1,k⟩:=Zys k
   obtain ⟨k1,k2,k3⟩:=h _ _ _ _ ha.tail h1
   have hb:¬(U3 ts).1=0:=fun e=>hc (.inr e)
   have hp:=Zg5 (Zs9 hb)
   obtain ⟨b1,b2⟩:=Zwh hb
   have hne:okE (.mk (U3 ts).2 [] 0 [e,g] e.at'):=Ue (by omega) (.inr (by rw [b1];rfl)) (.inl rfl) b2 Zjy fun x hx=>by
    rcases Tq.1 hx with rfl | hx
    ·exact he
    ·rw [Sm.1 hx];exact k1
   obtain ⟨g1,g2,g3⟩:=Zg8 h least f _ _ _ _ hne k2 k
   simp only [Zb0,szS,Td] at g3
   dsimp only at k3
   exact ⟨g1,g2,by omega⟩
theorem Zfy {sg:Ts→R Ex} (h:GdE sg):∀k least,GdE (U4 sg k least)
 | 0,least=>h
 | k+1,least=>fun ts v ts' ha e=>by
  obtain ⟨a,t1,h1,e⟩:=Zys e
  obtain ⟨k1,k2,k3⟩:=h _ _ _ ha h1
  obtain ⟨g1,g2,g3⟩:=Zg8 (fun n=>Zfy h k n) _ _ _ _ _ _ k1 k2 e
  dsimp only at k3 ⊢
  exact ⟨g1,g2,by omega⟩
theorem Ziw {α:Type} {ok:α→Prop} {x:α} (h:ok x):okL ok [x]:=fun y hy=>by rw [Sm.1 hy];exact h
theorem ZeD {d:Nat} {sg:Ts→R Ex} (h:GdE sg):GdE (JH d sg):=fun ts v ts' ha e=>by
 unfold JH at e
 split at e
 ·exact m65
 split at e
 ·exact m65
 ·rename_i c1 c2
  exact ZkN (Zfy h 6 1) (by simpa using c1) (by simpa using c2) ha e
theorem Zg9:∀d,GdE (Xy d)
 | 0=>ZeD fun _ _ _ _ e=>by cases e
 | d+1=>ZeD (Zg9 d)
theorem Zfz (d:Nat):GdE (WH d):=Zfy (Zg9 d) 6 1
theorem Zjz:∀d,GdE (ZbX d)
 | 0=>fun _ _ _ _ e=>by cases e
 | d+1=>Zfz d
theorem Zcd {ts:Ts}:∀(ws:List Bs) (i j:Nat),ZaG ts i ws=some j→ts.tail.length+1=ts.length∧i≤j∧j<i+ws.length
 | [],i,j,h=>by cases h
 | w::ws,i,j,h=>by
  rw [ZaG] at h
  split at h
  ·rename_i hc;cases h;exact ⟨Zng hc,Tp _,by simp⟩
  ·obtain ⟨h1,h2,h3⟩:=Zcd ws _ _ h
   simp only [Tc]
   exact ⟨h1,by omega,by omega⟩
theorem ZoS {ts ts':Ts} {op:Nat} (ha:AllT ts) (h:Za1 ts=.ok op ts'):(3≤op∧op≤12)∧AllT ts'∧pt ts'+4≤pt ts:=by
 unfold Za1 at h
 split at h
 ·cases h
 ·rename_i h1
  obtain ⟨i1,i2,i3⟩:=Zcd _ _ _ h1
  have hp:=Zg5 i1
  split at h
  ·rename_i h2
   obtain ⟨j1,j2,j3⟩:=Zcd _ _ _ h2
   have hp2:=Zg5 j1
   cases h
   simp only [Yc,Tc,Td] at j3
   exact ⟨⟨by omega,by omega⟩,ha.tail.tail,by omega⟩
  ·cases h;exact ⟨⟨by omega,by omega⟩,ha.tail,by omega⟩
 ·rename_i h1
  obtain ⟨i1,i2,i3⟩:=Zcd _ _ _ h1
  have hp:=Zg5 i1
  cases h
  simp only [ZQ,Tc,Td] at i3
  exact ⟨⟨by omega,by omega⟩,ha.tail,by omega⟩
def Ztc (x:Li):Prop:=YI x=true∧Zhi x=true
theorem Zix {op:Nat} {rel:Bs} {args:List Ex} {body:List Li} {a:Nat} (h1:Y3 op rel args.length body.length=true) (h2:okL okE args) (h3:okL Ztc body):Ztc (.mk op rel args body a):=by
 have e1:args.all ZO=true:=Tl.2 fun x hx=>(h2 x hx).1
 have e2:args.all Zdk=true:=Tl.2 fun x hx=>(h2 x hx).2
 have e3:body.all YI=true:=Tl.2 fun x hx=>(h3 x hx).1
 have e4:body.all Zhi=true:=Tl.2 fun x hx=>(h3 x hx).2
 constructor
 ·simp only [YI,Zn,Wp,Tj];exact ⟨h1,e1,e3⟩
 ·simp only [Zhi,U0,Zcb,Tj];exact ⟨e2,e4⟩
theorem Ztd (o:Nat) (t:Bs) (l:List Ex) (b:List Li) (a:Nat):wL (.mk o t l b a)=1+t.length+szS wE l+szS wL b:=by rw [wL,ZgS]
abbrev okB (l:List Li):Prop:=okL Ztc l∧l≠[]
theorem ZeE {d op a:Nat} (hop:op=1∨op=2) {ts ts':Ts} {v:Li} (ha:AllT ts) (h:Za2 d op a ts=.ok v ts'):Ztc v∧AllT ts'∧1+wL v+pt ts'≤pt ts:=by
 obtain ⟨nm,t1,h1,h⟩:=Zys h
 obtain ⟨l,t2,h2,h⟩:=Zys h
 cases h
 obtain ⟨a1,a2,a3⟩:=Xl ha h1
 obtain ⟨k1,k2,k3⟩:=Zfx (Zjz d) _ _ a2 h2
 refine ⟨Zix ?_ k1 Yg,k2,by simp only [Ztd,szS];omega⟩
 unfold Y3
 rw [Ti hop,a1];rfl
theorem Zha {d:Nat} {bd:Ts→R (List Li)} (hb:Gd (szS wL) okB bd) {a op:Nat} {l:List Ex} (hop:3≤op∧op≤12) (hln:(op=9→l.length=1)∧(op≠9→l.length=2)) (hl:okL okE l) {ts ts':Ts} {v:Li} (ha:AllT ts) (h:X5 d bd a op l ts=.ok v ts'):Ztc v∧AllT ts'∧wL v+pt ts'≤1+szS wE l+pt ts:=by
 unfold X5 at h
 split at h
 ·rename_i h9
  obtain ⟨_,t1,h1,h⟩:=Zys h
  obtain ⟨b,t2,h2,h⟩:=Zys h
  obtain ⟨b2,b3⟩:=XC ha h1
  obtain ⟨t3,h3,h4,h5,h6⟩:=We b2 h2
  cases h
  obtain ⟨k1,k2,k3⟩:=hb _ _ _ h4 h3
  obtain ⟨g1,g2⟩:=h6 k2
  have hpos:=T5.2 k1.2
  refine ⟨Zix ?_ hl k1.1,g1,by simp only [Ztd,Td];omega⟩
  unfold Y3
  rw [Te (by omega),Te (by omega)]
  by_cases c9:op=9
  ·rw [Ti c9];simp [hln.1 c9,hpos]
  ·rw [Te c9,Ti (by omega)];simp [hln.2 c9,hpos]
 ·rename_i h9
  cases h
  refine ⟨Zix ?_ hl Yg,ha,by simp only [Ztd,szS,Td];omega⟩
  unfold Y3
  rw [Te (by omega),Ti (by omega),hln.2 (by omega)];rfl
theorem Zte {α:Type} {ok:α→Prop} {x y:α} (h:ok x) (h2:ok y):okL ok [x,y]:=fun z hz=>by
 rcases Tq.1 hz with rfl | hz
 ·exact h
 ·rw [Sm.1 hz];exact h2
theorem ZpA {d:Nat} {bd:Ts→R (List Li)} (hb:Gd (szS wL) okB bd):Gd (fun v=>1+wL v) Ztc (ZhU d bd):=fun ts v ts' ha h=>by
 unfold ZhU at h
 split at h
 ·have:=V4 ts
  obtain ⟨a,b,c⟩:=ZeE (.inr rfl) ha.tail h
  exact ⟨a,b,by dsimp only;omega⟩
 split at h
 ·exact ZeE (.inl rfl) ha h
 ·obtain ⟨e,t1,h1,h⟩:=Zys h
  obtain ⟨op,t2,h2,h⟩:=Zys h
  obtain ⟨k1,k2,k3⟩:=Zfz _ _ _ _ ha h1
  obtain ⟨o1,o2,o3⟩:=ZoS k2 h2
  dsimp only at k3
  split at h
  ·rename_i c9
   obtain ⟨g1,g2,g3⟩:=Zha hb o1 ⟨fun _=>rfl,fun g=>absurd c9 g⟩ (Ziw k1) o2 h
   simp only [szS] at g3 ⊢
   exact ⟨g1,g2,by omega⟩
  ·rename_i c9
   obtain ⟨g,t3,h3,h⟩:=Zys h
   obtain ⟨j1,j2,j3⟩:=Zfz _ _ _ _ o2 h3
   obtain ⟨g1,g2,g3⟩:=Zha hb o1 ⟨fun g=>absurd g c9,fun _=>rfl⟩ (Zte k1 j1) j2 h
   simp only [szS] at g3 ⊢;dsimp only at j3
   exact ⟨g1,g2,by omega⟩
theorem Znh:∀d,Gd (szS wL) okB (ZhV d)
 | 0=>Zbm (ZpA fun _ _ _ _ e=>by cases e)
 | d+1=>Zbm (ZpA (Znh d))
def Zwy (x:Ru):Prop:=Yq x=true∧Zbf x=true
theorem Zni {nm:Bs} {l:List Ex} {b:List Li} {a:Nat} (h1:YP nm=true) (h2:okL okE l) (h3:okL Ztc b):Zwy ⟨nm,l,b,a⟩:=by
 have e1:l.all ZO=true:=Tl.2 fun x hx=>(h2 x hx).1
 have e2:l.all Zdk=true:=Tl.2 fun x hx=>(h2 x hx).2
 have e3:b.all YI=true:=Tl.2 fun x hx=>(h3 x hx).1
 have e4:b.all Zhi=true:=Tl.2 fun x hx=>(h3 x hx).2
 constructor
 ·unfold Yq;rw [h1,e1,e3];rfl
 ·unfold Zbf;rw [e2,e4];rfl
theorem Ztf (d:Nat) (b:Bool):Gd (fun v=>1+wRu v) Zwy (Zj4 d b):=fun ts v ts' ha h=>by
 obtain ⟨nm,t1,h1,h⟩:=Zys h
 obtain ⟨l,t2,h2,h⟩:=Zys h
 obtain ⟨a1,a2,a3⟩:=Xl ha h1
 obtain ⟨k1,k2,k3⟩:=Zfx (Zjz d) _ _ a2 h2
 split at h
 ·obtain ⟨b,t3,h3,h⟩:=Zys h
  obtain ⟨_,t4,h4,h⟩:=Zys h
  cases h
  have:=V4 t2
  obtain ⟨j1,j2,j3⟩:=Znh _ _ _ _ k2.tail h3
  obtain ⟨g1,g2⟩:=XC j2 h4
  exact ⟨Zni a1 k1 j1.1,g1,by simp only [wRu];omega⟩
 ·obtain ⟨_,t4,h4,h⟩:=Zys h
  cases h
  obtain ⟨g1,g2⟩:=XC k2 h4
  exact ⟨Zni a1 k1 Yg,g1,by simp only [wRu,szS];omega⟩
def Zwz (u:Un):Prop:=ZbL u=true∧ZkR u=true
def Zxu (c:Co):Prop:=ZP c=true∧ZbZ c=true
def ZwA (i:Ini):Prop:=Wa i=true
def Zxv (o:Ov):Prop:=WK o=true
theorem Ztg {a1 a2 a3 a4 a5 a6} (h1:okL ZtD a1) (h2:okL Zwx a2) (h3:okL Zwy a3) (h4:okL Zxu a4) (h5:okL ZwA a5) (h6:okL Zxv a6):Zwz (.mk a1 a2 a3 a4 a5 a6):=by
 have e1:a3.all Yq=true:=Tl.2 fun x hx=>(h3 x hx).1
 have e2:a3.all Zbf=true:=Tl.2 fun x hx=>(h3 x hx).2
 have e3:a4.all ZP=true:=Tl.2 fun x hx=>(h4 x hx).1
 have e4:a4.all ZbZ=true:=Tl.2 fun x hx=>(h4 x hx).2
 constructor
 ·simp only [ZbL,Wb,Tj];exact ⟨UN h1,UN h2,e1,e3,UN h5,UN h6⟩
 ·simp only [ZkR,ZgW,Tj];exact ⟨e2,e4⟩
theorem Zdx (a1 a2 a3 a4 a5 a6):wUn (.mk a1 a2 a3 a4 a5 a6)=1+szS wTy a1+szS wRe a2+szS wRu a3+szS wCo a4+szS wIn a5+szS wOv a6:=by rw [wUn,Zfl]
abbrev GdU (P:Ts→R Un):Prop:=∀ts v ts',AllT ts→P ts=.ok v ts'→Zwz v∧AllT ts'∧wUn v+pt ts'≤1+pt ts
theorem Zth {d:Nat} {un:Ts→R Un} (hu:GdU un):Gd (fun v=>1+wCo v) Zxu (Zj5 d un):=fun ts v ts' ha h=>by
 obtain ⟨nm,t1,h1,h⟩:=Zys h
 obtain ⟨ps,t2,h2,h⟩:=Zys h
 obtain ⟨a1,a2,a3⟩:=Xl ha h1
 obtain ⟨p1,p2,p3⟩:=Zfw _ _ _ a2 h2
 have hpa:ps.all YP=true:=UN p1
 split at h
 ·rename_i hc
  obtain ⟨b,t3,h3,h⟩:=Zys h
  obtain ⟨tys,t4,h4,h⟩:=Zys h
  obtain ⟨u,t5,h5,h⟩:=Zys h
  have hpt:=V4 t2
  obtain ⟨b1,b2,b3⟩:=Xl p2.tail h3
  obtain ⟨q1,q2,q3⟩:=Zfw _ _ _ b2 h4
  obtain ⟨t6,h6,h7,h8,h9⟩:=We q2 h5
  cases h
  obtain ⟨k1,k2,k3⟩:=hu _ _ _ h7 h6
  obtain ⟨g1,g2⟩:=h9 k2
  have hqa:tys.all YP=true:=UN q1
  refine ⟨⟨?_,k1.2⟩,g1,by simp only [wCo];omega⟩
  simp only [ZP,a1,hpa,hqa,b1,k1.1];simp
 ·obtain ⟨u,t5,h5,h⟩:=Zys h
  obtain ⟨t6,h6,h7,h8,h9⟩:=We p2 h5
  cases h
  obtain ⟨k1,k2,k3⟩:=hu _ _ _ h7 h6
  obtain ⟨g1,g2⟩:=h9 k2
  refine ⟨⟨?_,k1.2⟩,g1,by simp only [wCo,szS,Td];omega⟩
  simp only [ZP,a1,hpa,k1.1];simp
theorem Zti:Gd (fun v=>1+wIn v) ZwA Zj6:=fun ts v ts' ha h=>by
 obtain ⟨nm,t1,h1,h⟩:=Zys h
 obtain ⟨_,t2,h2,h⟩:=Zys h
 obtain ⟨c,t3,h3,h⟩:=Zys h
 obtain ⟨tys,t4,h4,h⟩:=Zys h
 cases h
 obtain ⟨a1,a2,a3⟩:=Xl ha h1
 obtain ⟨b2,b3⟩:=XC a2 h2
 obtain ⟨c1,c2,c3⟩:=Xl b2 h3
 obtain ⟨q1,q2,q3⟩:=Zfw _ _ _ c2 h4
 have hqa:tys.all YP=true:=UN q1
 exact ⟨by simp only [ZwA,Wa,a1,c1,hqa];rfl,q2,by simp only [wIn];omega⟩
theorem Ztj:Gd (fun v=>1+wOv v) Zxv Zj7:=fun ts v ts' ha h=>by
 obtain ⟨nm,t1,h1,h⟩:=Zys h
 cases h
 obtain ⟨a1,a2,a3⟩:=Xl ha h1
 exact ⟨a1,a2,by simp only [wOv];omega⟩
theorem WP {b:Bool} {d:Nat} {un:Ts→R Un} (hu:GdU un):∀f a1 a2 a3 a4 a5 a6 ts v ts',(okL ZtD a1∧okL Zwx a2∧okL Zwy a3∧okL Zxu a4∧okL ZwA a5∧okL Zxv a6)→AllT ts→X6 b d un f (.mk a1 a2 a3 a4 a5 a6) ts=.ok v ts'→Zwz v∧AllT ts'∧wUn v+pt ts'≤wUn (.mk a1 a2 a3 a4 a5 a6)+pt ts
 | 0,_,_,_,_,_,_,ts,v,ts',_,_,h=>by cases h
 | f+1,tys,rels,rules,comps,inits,overs,ts,v,ts',hA,ha,h=>by
  obtain ⟨o1,o2,o3,o4,o5,o6⟩:=hA
  rw [Zc2] at h
  split at h
  ·cases h;exact ⟨Ztg o1 o2 o3 o4 o5 o6,ha,Tp _⟩
  have ht:=V4 ts
  have hat:=ha.tail
  split at h
  ·split at h
   ·cases h
   ·obtain ⟨x,t1,h1,h⟩:=Zys h
    obtain ⟨k1,k2,k3⟩:=ZoR _ _ _ hat h1
    obtain ⟨g1,g2,g3⟩:=WP hu f _ _ _ _ _ _ _ _ _ ⟨Wq o1 k1,o2,o3,o4,o5,o6⟩ k2 h
    exact m54
  split at h
  ·split at h
   ·cases h
   ·obtain ⟨x,t1,h1,h⟩:=Zys h
    obtain ⟨k1,k2,k3⟩:=Ztb _ _ _ hat h1
    obtain ⟨g1,g2,g3⟩:=WP hu f _ _ _ _ _ _ _ _ _ ⟨o1,Wq o2 k1,o3,o4,o5,o6⟩ k2 h
    exact m54
  split at h
  ·split at h
   ·cases h
   ·obtain ⟨x,t1,h1,h⟩:=Zys h
    obtain ⟨k1,k2,k3⟩:=Zth hu _ _ _ hat h1
    obtain ⟨g1,g2,g3⟩:=WP hu f _ _ _ _ _ _ _ _ _ ⟨o1,o2,o3,Wq o4 k1,o5,o6⟩ k2 h
    exact m54
  split at h
  ·split at h
   ·cases h
   ·obtain ⟨x,t1,h1,h⟩:=Zys h
    obtain ⟨k1,k2,k3⟩:=Zti _ _ _ hat h1
    obtain ⟨g1,g2,g3⟩:=WP hu f _ _ _ _ _ _ _ _ _ ⟨o1,o2,o3,o4,Wq o5 k1,o6⟩ k2 h
    exact m54
  split at h
  ·split at h
   ·cases h
   ·obtain ⟨x,t1,h1,h⟩:=Zys h
    obtain ⟨k1,k2,k3⟩:=Ztj _ _ _ hat h1
    obtain ⟨g1,g2,g3⟩:=WP hu f _ _ _ _ _ _ _ _ _ ⟨o1,o2,o3,o4,o5,Wq o6 k1⟩ k2 h
    exact m54
  split at h
  ·split at h
   ·cases h
   ·obtain ⟨x,t1,h1,h⟩:=Zys h
    obtain ⟨k1,k2,k3⟩:=Ztf _ _ _ _ _ ha h1
    obtain ⟨g1,g2,g3⟩:=WP hu f _ _ _ _ _ _ _ _ _ ⟨o1,o2,Wq o3 k1,o4,o5,o6⟩ k2 h
    exact m54
  ·cases h
theorem ZfA {b:Bool} {d:Nat} {un:Ts→R Un} (hu:GdU un):GdU (ZhW b d un):=fun ts v ts' ha h=>by
 obtain ⟨g1,g2,g3⟩:=WP hu _ _ _ _ _ _ _ _ _ _ ⟨Yg,Yg,Yg,Yg,Yg,Yg⟩ ha h
 simp only [Zdx,szS] at g3
 exact ⟨g1,g2,by omega⟩
theorem ZjA:∀d,GdU (Zj8 d)
 | 0=>ZfA fun ts v ts' _ e=>by cases e
 | d+1=>ZfA (ZjA d)
theorem ZkO:GdU Wh:=ZfA (ZjA 63)
def JX (c:Bs):Prop:=c≠[]∧Lib.decodeL c≠(65533,1)∧(Lib.decodeL c).2=c.length∧(Zfi (Lib.decodeL c).1≠none∨¬(Lib.decodeL c).1<32)
def QTx (s:Bs):Prop:=∃ps:List Bs,s=ps.flatten∧∀c∈ps,JX c
theorem QTx.snoc {s c:Bs} (h:QTx s) (hc:JX c):QTx (s++c):=by
 obtain ⟨ps,rfl,h⟩:=h
 exact ⟨ps++[c],by simp,Wq h hc⟩
theorem ZbR:∀(f:Nat) (ps:List Bs),(∀c∈ps,JX c)→Lib.validGoD f ps.flatten=true
 | 0,ps,_=>rfl
 | f+1,[],_=>by simp [Lib.validGoD]
 | f+1,c::ps,h=>by
  obtain ⟨h1,h2,h3,h4⟩:=h c (List.mem_cons_self ..)
  have hd:Lib.decodeL (c++ps.flatten)=Lib.decodeL c:=Zmw h1 h2
  unfold Lib.validGoD
  rw [List.flatten_cons,Te (by simp [h1]),hd,Te (fun g=>h2 (Prod.ext g.1 g.2)),h3,List.drop_left]
  exact ZbR f ps fun x hx=>h x (Tr _ hx)
theorem ZeF:∀(ps:List Bs) (f:Nat) (out:Bs),(∀c∈ps,JX c)→ps.flatten.length<f→(WS f ps.flatten out).isSome=true
 | [],0,out,_,hf=>by simp at hf
 | [],f+1,out,_,hf=>by simp [WS]
 | c::ps,0,out,_,hf=>by omega
 | c::ps,f+1,out,h,hf=>by
  obtain ⟨h1,h2,h3,h4⟩:=h c (List.mem_cons_self ..)
  have hpos:=T5.2 h1
  have hd:Lib.decodeL (c++ps.flatten)=Lib.decodeL c:=Zmw h1 h2
  simp only [List.flatten_cons,Ta] at hf
  have ih:=fun o=>ZeF ps f o (fun x hx=>h x (Tr _ hx)) (by omega)
  unfold WS
  rw [List.flatten_cons,Te (by simp [h1]),hd,h3,List.drop_left]
  cases hu:Zfi (Lib.decodeL c).1 with
  | some b=>exact ih _
  | none =>
   simp only
   rw [Te (h4.resolve_left fun g=>g hu)]
   exact ih _
theorem QTx.quote {s:Bs} (h:QTx s):(VC s).isSome=true:=by
 obtain ⟨ps,rfl,h⟩:=h
 unfold VC Lib.validD
 rw [Ti (ZbR _ _ h),Option.isSome_map]
 exact ZeF _ _ _ h (Nat.lt_succ_self _)
theorem ZaF {b:UInt8} (hb:b.toNat<128) (h:Zfi b.toNat≠none∨¬b.toNat<32):JX [b]:=by
 have hd:=ZqW b [] hb
 refine ⟨by simp,?_,?_,?_⟩
 ·rw [hd];intro g;have:=congrArg Prod.fst g;simp only at this;omega
 ·rw [hd];rfl
 ·rw [hd];exact h
theorem Znj {n:Nat} {x:UInt8} (h:ZnH n=some x):JX [x]:=by
 unfold ZnH at h
 split at h;· cases h;exact ZaF (by decide) (.inl (by decide))
 split at h;· cases h;exact ZaF (by decide) (.inl (by decide))
 split at h;· cases h;exact ZaF (by decide) (.inl (by decide))
 split at h;· cases h;exact ZaF (by decide) (.inl (by decide))
 cases h
theorem ZfB:∀(f:Nat) (r:Bs) (esc:Bool) (acc:Bs) (p:Nat) (t:Bs) (l:Nat),QTx acc→ZD f r esc acc p=.ok t l→QTx t∧t.length+p≤acc.length+l
 | 0,r,esc,acc,p,t,l,_,h=>by cases h
 | f+1,r,esc,acc,p,t,l,ha,h=>by
  have hrg:=JF r
  rw [ZD] at h
  split at h
  ·cases h
  rename_i hr
  split at h
  ·split at h
   ·cases h
   ·rename_i b hb
    obtain ⟨h1,h2⟩:=ZfB f _ _ _ _ _ _ (ha.snoc (Znj hb)) h
    simp only [Ta,Tw] at h2
    exact ⟨h1,by omega⟩
  split at h
  ·cases h;exact ⟨ha,by omega⟩
  split at h
  ·obtain ⟨h1,h2⟩:=ZfB f _ _ _ _ _ _ ha h
   exact ⟨h1,by omega⟩
  split at h
  ·cases h
  ·rename_i h34 h92 h32
   have hpk:(pk r).1≠-1:=by omega
   obtain ⟨_,he,henc⟩:=Zwe hpk
   have hd:=Lib.decodeL_le r hr
   have hv:Lib.decodeL r≠(65533,1):=fun g=>by
    unfold pk at hpk
    rw [Ti (.inr g)] at hpk
    exact hpk rfl
   have hpc:JX (Lib.encodeRune (Lib.decodeL r).1):=by
    rw [henc]
    have htl:(r.take (Lib.decodeL r).2).length=(Lib.decodeL r).2:=by rw [T9];omega
    have hdt:Lib.decodeL (r.take (Lib.decodeL r).2)=Lib.decodeL r:=Zaw (by omega) (Tp _)
    refine ⟨fun g=>by rw [g] at htl;simp at htl;omega,by rw [hdt];exact hv,by rw [hdt,htl],.inr ?_⟩
    rw [hdt]
    rw [he] at h32
    simp only at h32
    omega
   obtain ⟨h1,h2⟩:=ZfB f _ _ _ _ _ _ (ha.snoc hpc) h
   rw [henc] at h2
   simp only [Ta,T9] at h2
   exact ⟨h1,by omega⟩
theorem ZoT (n:Int):Zsj (IntKind.i64.wrap n)=true:=by
 unfold Zsj
 simp only [IntKind.wrap,show IntKind.i64.bits=64 from rfl,show IntKind.i64.signed=true from rfl,TJ,Tj,Tz]
 split <;> omega
theorem ZeG {k j:Nat} {p:Prop} (h:k≠j) (g:k=j):p:=absurd g h
theorem Zce:AllT []:=fun _ h=>by cases h
theorem Ztk {a:Nat} {r:Bs} {t:Tok} (h0:0<r.length) (h:VS a r true=.tok t):TokK t.t0∧t.text.length+a≤t.fin∧t.fin≤a+r.length:=by
 have ha:=Zmv h0 h
 obtain ⟨_,hlt,hfe⟩:=ZcN h0 h
 rw [ZU] at h
 split at h
 ·cases h
 rw [Te (by simp)] at h
 split at h
 ·cases h
  refine ⟨⟨Zjy,fun g=>ZeG (k:=4) (j:=3) (by decide) g,fun g=>ZeG (k:=4) (j:=1) (by decide) g⟩,?_,hfe⟩
  simp only [T9];omega
 split at h
 ·unfold Zae at h
  split at h
  ·cases h
  ·rename_i tx l htx
   cases h
   unfold Wf at htx
   obtain ⟨h1,h2⟩:=ZfB _ _ _ _ _ _ _ ⟨[],rfl,fun _ g=>by cases g⟩ htx
   have h2:tx.length+1≤0+l:=h2
   exact ⟨⟨Zjy,fun _=>h1.quote,fun g=>ZeG (k:=3) (j:=1) (by decide) g⟩,by dsimp only;omega,hfe⟩
 split at h
 ·unfold Xw at h
  split at h
  ·cases h
  ·cases h
   exact ⟨⟨ZoT _,fun g=>ZeG (k:=2) (j:=3) (by decide) g,fun g=>ZeG (k:=2) (j:=1) (by decide) g⟩,by simp only [Td];omega,hfe⟩
 ·rename_i hbad hs h34 hdg
  cases h
  refine ⟨⟨Zjy,fun g=>ZeG (k:=1) (j:=3) (by decide) g,fun _=>?_⟩,by simp only [T9];omega,hfe⟩
  simp only [Sn] at ha
  rw [ZU] at ha
  split at ha
  ·cases ha
  rename_i hb2
  rw [Te (by simp)] at ha
  split at ha
  ·cases ha
  rename_i hs2
  split at ha
  ·unfold Zae at ha
   split at ha <;> cases ha
  rename_i h342
  split at ha
  ·unfold Xw at ha
   split at ha <;> cases ha
  rename_i hd2
  have hl:Zg (pk (r.take (Y7 r))).1=true:=by
   cases hl:Zg (pk (r.take (Y7 r))).1 with
   | true=>rfl
   | false=>exact absurd ⟨by omega,h342,hl,by simpa using hd2⟩ hb2
  injection ha with ha
  have hfin:=congrArg Tok.fin ha
  have htx:=congrArg Tok.text ha
  simp only [Sf] at hfin htx
  show Zif (r.take (Y7 r))=true
  unfold Zif
  rw [hl,TJ,Tz]
  have h5:a+Y7 r≤a+r.length:=hfe
  have h6:Y7 (r.take (Y7 r))=a+Y7 r - a:=by omega
  rw [h6,T9]
  omega
theorem Znk:∀(f:Nat) (most:Int) (a:Nat) (r:Bs),AllT ((Wm f most a r).1.map Tok.t0)∧pt ((Wm f most a r).1.map Tok.t0)≤r.length+4 * (Wm f most a r).1.length
 | 0,most,a,r=>⟨Zce,by simp [Wm,pt]⟩
 | f+1,most,a,r=>by
  rw [Wm]
  split
  ·exact ⟨Zce,by simp [pt]⟩
  dsimp only
  split
  ·exact ⟨Zce,by simp [pt]⟩
  rename_i hne
  split
  ·exact ⟨Zce,by simp [pt]⟩
  ·rename_i t ht
   have hroom:=ZsB ht
   rw [hroom] at ht
   obtain ⟨h1,h2,h3⟩:=Ztk (T5.2 hne) ht
   obtain ⟨i1,i2⟩:=Znk f (most - 1) t.fin ((r.drop (YC r).2).drop (t.fin - (a+(YC r).2)))
   refine ⟨fun x hx=>?_,?_⟩
   ·rw [TA] at hx
    rcases Tq.1 hx with rfl | hx
    ·exact h1
    ·exact i1 x hx
   ·simp only [TA,pt,Tc]
    simp only [Tt] at i2 h3
    show t.text.length+4+_≤_
    omega
theorem Ztl {s:Bs} {v:Un} {L:List Tok} (h:ZV 65536 16384 Wh s=.ok v L):Zwz v∧wUn v≤200000:=by
 unfold ZV at h
 split at h
 ·cases h
 rename_i hs
 split at h
 ·cases h
 split at h
 ·rename_i h1
  cases h
  obtain ⟨g1,g2⟩:=Znk (s.length+1) ((16384:Nat):Int) 0 s
  obtain ⟨k1,k2,k3⟩:=ZkO _ _ _ g1 h1
  have k4:=Zfh s ((16384:Nat):Int)
  have k5:(Wm (s.length+1) ((16384:Nat):Int) 0 s).1.length≤16384:=k4
  exact ⟨k1,by omega⟩
 ·cases h
 ·cases h
end Go.PM.Lex
end
