/- A part of the proof: plain logic, contracts and laws over the given program. -/
import Derived.Test.YtkoicjdlpkaopaaGreatDoorMore
import Derived.Lib.AppendIntMem
import Derived.WalkKit
import Derived.Test.YtkoicjdlpkaopaaGreatDoorU07
set_option linter.unusedVariables false
set_option linter.unusedSimpArgs false
set_option linter.all false
set_option maxRecDepth 100000
set_option maxHeartbeats 16000000
section
namespace Go.PM.Lex
open Go.Proofs
variable {w0:World} {nG:Nat}
theorem wk {rows:List (List D)} {p:PV} {t t1 e e1:Nat} {B:Bs->Prop} {F:Bs->Bs->Prop} (l txt:Bs) (b:B txt) (k:F l txt) (h1:rows=Zj l:=by rfl) (h2:p=.d .nilp\/p=.ptr 0 0:=by first | exact .inl rfl | exact .inr rfl) (h3:t=t1:=by rfl) (h4:e=e1:=by rfl) (h5:l.length+txt.length<70368744177664:=by (try simp only [Tb,Td,Tf]);omega):∃l txt,rows=Zj l/\((p=.d .nilp\/p=.ptr 0 0)/\t=t1/\e=e1)/\B txt/\l.length+txt.length<70368744177664/\F l txt:=⟨l,txt,h1,⟨h2,h3,h4⟩,b,h5,k⟩
noncomputable def Zh5 (r:PV) (body:List PV->Bs->Prop):Zt:=fun args σ K=>match args,σ with
 | .ptr 0 0::rest,⟨[.cells t [p,.sl 0 e rows]],[0],1⟩=>∃l txt,rows=Zj l/\((p=.d .nilp\/p=.ptr 0 0)/\t=60/\e=5)/\body rest txt/\l.length+txt.length<70368744177664 /\
   K (.ret r) ⟨[.cells t [.ptr 0 0,.sl 0 e (Zj (l++txt))]],[0],1⟩
 | _,_=>False
theorem Zbd (r:PV) (body:List PV->Bs->Prop):Yb (Zh5 r body):=fun args σ K K' hK h=>by
 unfold Zh5 at h |-
 split at h
 ·obtain ⟨l,txt,h1,h2,h3,h4,h5⟩:=h;exact ⟨l,txt,h1,h2,h3,h4,hK _ _ h5⟩
 exact h.elim
noncomputable def Zf5 {α:Type} (val:Pl->α->PV) (may:α->Bool) (txt:α->Bs) (w:α->Nat) (n:Nat):Zt:=fun args σ K=>match args,σ with
 | [v,.ptr 0 0],⟨[.cells tp [.ptr 1 0],.cells t [.ptr 1 0,.sl 0 e rows]],[0],1⟩=>∃l pl x,rows=Zj l/\v=val pl x/\(t=60/\e=5)/\(may x=true/\w x<=n/\n<=1073741824)/\l.length+(txt x).length<70368744177664 /\
   K (.ret (.tuple [])) ⟨[.cells tp [.ptr 1 0],.cells t [.ptr 1 0,.sl 0 e (Zj (l++txt x))]],[0],1⟩
 | _,_=>False
noncomputable def Zo2 {α:Type} (g0:FuncId) (enc:Pl->α->List D) (may:α->Bool) (txt:α->Bs) (w:α->Nat) (n:Nat):Zt:=fun args σ K=>match args,σ with
 | [.ptr 0 0,.d (.sl r),.d (.str bt),.func g [] [.ptr 1 0]],⟨[.cells t [.ptr 0 0,.sl 0 e rows],.cells tp [.ptr 0 0]],[0],1⟩=>∃l pl xs,rows=Zj l/\r=xs.map (enc pl)/\(t=60/\e=5/\g=g0)/\(xs.all may=true/\szS w xs<=n/\n<=1073741824)/\l.length+(Zh bt (xs.map txt)).length<70368744177664 /\
   K (.ret (.tuple [])) ⟨[.cells t [.ptr 0 0,.sl 0 e (Zj (l++Zh bt (xs.map txt)))],.cells tp [.ptr 0 0]],[0],1⟩
 | _,_=>False
noncomputable def ZAL (s:Bs):Zt:=Zh5 (.tuple [.d (.int .i64 s.length),.d .nili]) fun rest txt=>rest=[.d (.str s)]/\txt=s
noncomputable def Zf6:Zt:=fun args σ K=>match args with
 | [.ptr 0 0,.d (.str s)]=>ZAL s args σ K
 | _=>False
theorem ZlX:Yb Zf6:=fun args σ K K' hK h=>by
 unfold Zf6 at h |-
 split at h
 ·exact Zbd _ _ _ _ _ _ hK h
 exact h.elim
noncomputable def ZxO:Tbl:=[(166,U7)]
theorem Zo3:PC w0 nG 104 Zf6:=by
 refine Zd Zb mixed (tbl:=ZxO) ⟨Zf4,trivial⟩ Tryz.func104 rfl kR kR ?_;intro args σ K h
 unfold Zf6 at h
 split at h
 ·rename_i s
  unfold ZAL Zh5 at h
  split at h
  ·rename_i rest t p e rows aq
   obtain ⟨l,txt,rfl,⟨hp,rfl,rfl⟩,⟨ax,rfl⟩,ab,h⟩:=h;simp only [List.cons.injEq,true_and] at aq;have hb:∀x:Bs,(Zj x).length=x.length:=fun x=>by simp [Zj]
   rw [Yx] at h;refine ⟨Za [],1,true,sM,Ta rfl,?_⟩;rcases hp with rfl | rfl
   all_goals
    conv=>whnf
    first | refine ⟨⟨.inl rfl,rfl⟩,?_⟩ | refine ⟨⟨.inr rfl,rfl⟩,?_⟩
    conv=>whnf
    refine ⟨fun r hr=>?_,?_,?_,?_⟩
    ·obtain ⟨b,_,rfl⟩:=SC.1 hr;rfl
    ·show ((Zj l).length+(Zj txt).length) * 1<=2 ^ 47;rw [hb,hb];omega
    ·show (Zj l).length+(Zj txt).length<=2 ^ 47;rw [hb,hb];omega
    exact m103
  exact h.elim
 exact h.elim
noncomputable def Zen:Zt:=Zh5 (.tuple []) fun rest txt=>∃ps:List Bs,rest=[.d (.sl (ps.map ZB))]/\ps≠[]/\ps.length<=1073741824/\txt=ps.flatten
theorem ZlY:Yb Zen:=Zbd _ _
noncomputable def Zo4:Tbl:=[(104,Zf6)]
theorem ZhJ:TO w0 nG Zo4:=⟨Zo3,trivial⟩
theorem JY:PC w0 nG 52 Zen:=by
 refine Zd Zb mixed (tbl:=Zo4) ZhJ Tryz.func52 rfl kR kR ?_;intro args σ K h
 unfold Zen Zh5 at h
 split at h
 ·rename_i rest t p e rows
  obtain ⟨l,txt,rfl,⟨hp,rfl,rfl⟩,⟨ps,rfl,an,jx,rfl⟩,ab,h⟩:=h;have dx:(ps.map ZB).length=ps.length:=Te ..;refine ⟨Za [(1,⟨[8],[0,6,7],fun vs σ=>∃(i:Nat) (P:PV),vs=[.d (.int .i64 i)]/\σ=⟨[.cells 60 [P,.sl 0 5 (Zj (l++(ps.take i).flatten))]],[0],1⟩/\(P=.d .nilp\/P=.ptr 0 0)/\(0<i->P=.ptr 0 0)/\i<=ps.length,mu1 ps.length⟩)],1,true,sM,Ta rfl,?_⟩;rcases hp with rfl | rfl
  all_goals
   conv=>whnf
   refine ⟨⟨0,_,rfl,(by simp only [T2,List.flatten_nil,TT];rfl),iM,fun g=>absurd g oM,oM⟩,?_⟩;intro vs σ hI
   obtain ⟨i,P,rfl,rfl,hP,hP0,hi⟩:=hI;(conv=>whnf);refine ZBC (fun aa=>?_) (fun aa=>?_)
   ·have aa:i<ps.length:=lzI dx aa;obtain ⟨s,hs⟩:∃s,ps[i]=s:=⟨_,rfl⟩
    have ae:(ps.map ZB)[((i:Nat):Int).toNat]?=some (ZB s):=by simp [aa,hs]
    have ao:(ps.take (i+1)).flatten=(ps.take i).flatten++s:=by rw [List.take_succ_eq_append_getElem aa,List.flatten_append,hs];simp
    have ak:(ps.take (i+1)).flatten.length<=ps.flatten.length:=by
     have e:ps.flatten=(ps.take (i+1)).flatten++(ps.drop (i+1)).flatten:=by rw [<- List.flatten_append,List.take_append_drop]
     rw [e,Tb];omega
    rw [ao,Tb] at ak;rcases hP with rfl | rfl
    all_goals
     conv=>whnf
     refine ⟨_,oM,ae,wN ?_⟩;refine ⟨l++(ps.take i).flatten,s,rfl,⟨iM,rfl,rfl⟩,⟨rfl,rfl⟩,by rw [Tb];omega,?_⟩;(conv=>whnf);refine Or.inl ⟨InR.i64 oM oM,wN ?_⟩;refine ⟨⟨i+1,_,rfl,(by rw [ao,Th];rfl),.inr rfl,fun _=>rfl,oM⟩,?_⟩;exact lzM oM
   have aa:i=ps.length:=lzE dx oM aa;subst aa;obtain rfl:=hP0 (SB.2 an);rw [TJ];exact m103
 exact h.elim
theorem ZdX (bt:Bs):∀(l:List Bs) (x:Bs),Zh bt (l++[x])=if l=[] then x else Zh bt l++(bt++x)
 | [],x=>rfl
 | [y],x=>by simp [Zh]
 | y::z::l,x=>by
  have ih:=ZdX bt (z::l) x;simp only [SF] at ih |-;rw [Zh,ih] <;> simp [Zh]
theorem Xo {α:Type} (bt:Bs) (f:α->Bs) {xs:List α} {i:Nat} (h:i<xs.length):Zh bt ((xs.take (i+1)).map f)=if i=0 then f xs[i] else Zh bt ((xs.take i).map f)++(bt++f xs[i]):=by
 rw [List.take_succ_eq_append_getElem h,SG,TN,TQ,ZdX];have e:((xs.take i).map f=[])↔i=0:=by
  rw [<- SA,Te,Sn];omega
 by_cases h0:i=0
 ·rw [Tg (e.2 h0),Tg h0]
 rw [Tc (fun g=>h0 (e.1 g)),Tc h0]
theorem Zbe (bt:Bs):∀(l m:List Bs),(Zh bt l).length<=(Zh bt (l++m)).length
 | [],m=>T7 _
 | [x],[]=>Tr _
 | [x],y::m=>by simp only [SF,T3,Zh,Tb];omega
 | x::y::l,m=>by
  have ih:=Zbe bt (y::l) m;simp only [SF,Zh,Tb] at ih |-;omega
theorem WE {α:Type} (bt:Bs) (f:α->Bs) (xs:List α) (i:Nat):(Zh bt ((xs.take i).map f)).length<=(Zh bt (xs.map f)).length:=by
 have h:=Zbe bt ((xs.take i).map f) ((xs.drop i).map f)
 rwa [<- SG,List.take_append_drop] at h
noncomputable def Zo5 (n:Nat):Tbl:=[(104,Zf6),(106,Zf5 (Xh (fun _=>ZJ)) Yl fiT wFi n)]
theorem Zvl {n:Nat} (ht:TO w0 nG (Zo5 n)):PC w0 nG 105 (Zo2 106 (fun _=>ZJ) Yl fiT wFi n):=by
 refine Zd Zb mixed (tbl:=Zo5 n) ht Tryz.func105 rfl kR kR ?_;intro args σ K h
 unfold Zo2 at h
 split at h
 ·rename_i r bt g t e rows tp
  obtain ⟨l,pl,xs,rfl,rfl,⟨rfl,rfl,rfl⟩,⟨dy,hz,hn⟩,ab,h⟩:=h;have dx:(xs.map ((fun _=>ZJ) pl)).length=xs.length:=Te ..;have hsz:=Zp wFi xs;refine ⟨Za [(1,⟨[12],[0,1,2,3,10,11],fun vs σ=>∃i:Nat,vs=[.d (.int .i64 i)]/\σ=⟨[.cells 60 [.ptr 0 0,.sl 0 5 (Zj (l++Zh bt ((xs.take i).map fiT)))],.cells tp [.ptr 0 0]],[0],1⟩/\i<=xs.length,mu1 xs.length⟩)],2,true,sM,Ta rfl,wN ?_⟩;refine ⟨⟨0,rfl,(by simp only [T2,TQ,Zh,TT];rfl),oM⟩,?_⟩;intro vs σ hI
  obtain ⟨i,rfl,rfl,hi⟩:=hI;(conv=>whnf);refine ZBC (fun aa=>wN ?_) (fun aa=>?_)
  ·have aa:i<xs.length:=lzI dx aa;have hg:=Zs wFi xs i aa;have fq:Yl xs[i]=true:=Tm.1 dy _ (TD aa);have ao:=Xo bt fiT aa;have ak:=WE bt fiT xs (i+1);obtain ⟨eA,hA⟩:∃x,xs[i]=x:=⟨_,rfl⟩
   obtain ⟨a1,a2⟩:=eA;rw [hA] at hg fq ao;have ae:(xs.map ((fun _=>ZJ) pl))[((i:Nat):Int).toNat]?=some ((fun _=>ZJ) pl ⟨a1,a2⟩):=by simp [aa,hA]
   refine ⟨_,oM,ae,wN ?_⟩;refine ZBC (fun h0=>wN ?_) (fun h0=>?_)
   ·have h0:0<i:=by omega
    rw [Tc oM] at ao;rw [ao] at ak;simp only [Tb] at ak;refine wk _ bt ⟨rfl,rfl⟩ (wN ?_);refine ⟨l++Zh bt ((xs.take i).map fiT)++bt,pl,⟨a1,a2⟩,rfl,rfl,⟨rfl,rfl⟩,⟨fq,oM,oM⟩,by simp only [Tb];omega,wN ?_⟩;exact m77
   obtain rfl:i=0:=by omega
   rw [Tg rfl] at ao;rw [ao] at ak;(conv=>whnf);refine ⟨l++Zh bt ((xs.take 0).map fiT),pl,⟨a1,a2⟩,rfl,rfl,⟨rfl,rfl⟩,⟨fq,oM,oM⟩,by simp only [T2,TQ,Zh,Tb,Tf];omega,wN ?_⟩;exact m70
  exact m225
 exact h.elim
noncomputable def Zo6 (n:Nat):Tbl:=[(104,Zf6),(55,Zf5 (Xh (fun _=>ZZ)) YO caT wCa n)]
theorem Zvm {n:Nat} (ht:TO w0 nG (Zo6 n)):PC w0 nG 54 (Zo2 55 (fun _=>ZZ) YO caT wCa n):=by
 refine Zd Zb mixed (tbl:=Zo6 n) ht Tryz.func54 rfl kR kR ?_;intro args σ K h
 unfold Zo2 at h
 split at h
 ·rename_i r bt g t e rows tp
  obtain ⟨l,pl,xs,rfl,rfl,⟨rfl,rfl,rfl⟩,⟨dy,hz,hn⟩,ab,h⟩:=h;have dx:(xs.map ((fun _=>ZZ) pl)).length=xs.length:=Te ..;have hsz:=Zp wCa xs;refine ⟨Za [(1,⟨[12],[0,1,2,3,10,11],fun vs σ=>∃i:Nat,vs=[.d (.int .i64 i)]/\σ=⟨[.cells 60 [.ptr 0 0,.sl 0 5 (Zj (l++Zh bt ((xs.take i).map caT)))],.cells tp [.ptr 0 0]],[0],1⟩/\i<=xs.length,mu1 xs.length⟩)],2,true,sM,Ta rfl,wN ?_⟩;refine ⟨⟨0,rfl,(by simp only [T2,TQ,Zh,TT];rfl),oM⟩,?_⟩;intro vs σ hI
  obtain ⟨i,rfl,rfl,hi⟩:=hI;(conv=>whnf);refine ZBC (fun aa=>wN ?_) (fun aa=>?_)
  ·have aa:i<xs.length:=lzI dx aa;have hg:=Zs wCa xs i aa;have fq:YO xs[i]=true:=Tm.1 dy _ (TD aa);have ao:=Xo bt caT aa;have ak:=WE bt caT xs (i+1);obtain ⟨eA,hA⟩:∃x,xs[i]=x:=⟨_,rfl⟩
   obtain ⟨a1,a2⟩:=eA;rw [hA] at hg fq ao;have ae:(xs.map ((fun _=>ZZ) pl))[((i:Nat):Int).toNat]?=some ((fun _=>ZZ) pl ⟨a1,a2⟩):=by simp [aa,hA]
   refine ⟨_,oM,ae,wN ?_⟩;refine ZBC (fun h0=>wN ?_) (fun h0=>?_)
   ·have h0:0<i:=by omega
    rw [Tc oM] at ao;rw [ao] at ak;simp only [Tb] at ak;refine wk _ bt ⟨rfl,rfl⟩ (wN ?_);refine ⟨l++Zh bt ((xs.take i).map caT)++bt,pl,⟨a1,a2⟩,rfl,rfl,⟨rfl,rfl⟩,⟨fq,oM,oM⟩,by simp only [Tb];omega,wN ?_⟩;exact m77
   obtain rfl:i=0:=by omega
   rw [Tg rfl] at ao;rw [ao] at ak;(conv=>whnf);refine ⟨l++Zh bt ((xs.take 0).map caT),pl,⟨a1,a2⟩,rfl,rfl,⟨rfl,rfl⟩,⟨fq,oM,oM⟩,by simp only [T2,TQ,Zh,Tb,Tf];omega,wN ?_⟩;exact m70
  exact m225
 exact h.elim
def ZzO:Tab:=(.node (.node (.node (.node .leaf 3 ⟨1,8,.int .i64,[.d (.int .i64 (0))],true⟩ .leaf) 4 ⟨1,1,.bool,[.d (.bool false)],false⟩ .leaf) 5 ⟨1,1,.int .u8,[.d (.int .u8 (0))],true⟩ (.node .leaf 9 ⟨1,16,.string,[.d (.str [])],false⟩ .leaf)) 56 ⟨1,24,.slice 5,[.nils 5],false⟩ (.node (.node .leaf 132 ⟨1,8,.int .u64,[.d (.int .u64 (0))],true⟩ .leaf) 232 ⟨1,8,.int .u64,[.d (.int .u64 (0))],true⟩ (.node .leaf 274 ⟨65,65,.array 65 5,[.d (.int .u8 (0)),.d (.int .u8 (0)),.d (.int .u8 (0)),.d (.int .u8 (0)),.d (.int .u8 (0)),.d (.int .u8 (0)),.d (.int .u8 (0)),.d (.int .u8 (0)),.d (.int .u8 (0)),.d (.int .u8 (0)),.d (.int .u8 (0)),.d (.int .u8 (0)),.d (.int .u8 (0)),.d (.int .u8 (0)),.d (.int .u8 (0)),.d (.int .u8 (0)),.d (.int .u8 (0)),.d (.int .u8 (0)),.d (.int .u8 (0)),.d (.int .u8 (0)),.d (.int .u8 (0)),.d (.int .u8 (0)),.d (.int .u8 (0)),.d (.int .u8 (0)),.d (.int .u8 (0)),.d (.int .u8 (0)),.d (.int .u8 (0)),.d (.int .u8 (0)),.d (.int .u8 (0)),.d (.int .u8 (0)),.d (.int .u8 (0)),.d (.int .u8 (0)),.d (.int .u8 (0)),.d (.int .u8 (0)),.d (.int .u8 (0)),.d (.int .u8 (0)),.d (.int .u8 (0)),.d (.int .u8 (0)),.d (.int .u8 (0)),.d (.int .u8 (0)),.d (.int .u8 (0)),.d (.int .u8 (0)),.d (.int .u8 (0)),.d (.int .u8 (0)),.d (.int .u8 (0)),.d (.int .u8 (0)),.d (.int .u8 (0)),.d (.int .u8 (0)),.d (.int .u8 (0)),.d (.int .u8 (0)),.d (.int .u8 (0)),.d (.int .u8 (0)),.d (.int .u8 (0)),.d (.int .u8 (0)),.d (.int .u8 (0)),.d (.int .u8 (0)),.d (.int .u8 (0)),.d (.int .u8 (0)),.d (.int .u8 (0)),.d (.int .u8 (0)),.d (.int .u8 (0)),.d (.int .u8 (0)),.d (.int .u8 (0)),.d (.int .u8 (0)),.d (.int .u8 (0))],false⟩ .leaf)))
theorem Zrj:TabOK ZzO Tryz.prog:=by unfold TabOK;kernel_rfl
end Go.PM.Lex
end

section
namespace Go.PM.Lex
open Go.Proofs Go.Shelf Go.RowKit
variable {w0:World} {nG:Nat}
structure NumOK (w0:World) (nG:Nat):Prop where
 big:7<nG
 pow : Lib.TabIs Tryz.prog w0 "internal/strconv.uint64pow10" .u64 Lib.pow10Tab
 bru:w0.cell? ⟨5,15,none⟩=some (.int .u8 4)
theorem ZxP:IntKind.u64.wrap (bits BinOp.and IntKind.u64 (16:Int) (IntKind.u64.wrap (-(16:Int))) * 285870213051353865) / 288230376151711744=(15:Int):=by decide +kernel
theorem Zvn (w:World) (ba:w.cell? ⟨5,15,none⟩=some (.int .u8 4)):Calls Tryz.prog 260 #[.int .u64 16] w fun e w'=>e=.returned (.int .i64 4)/\w'=w:=by
 go_enter Tryz.func260,Tryz.ntmps260
 go_wp2_with (simp only [ZxP])
 go_ret
 exact ⟨rfl,rfl⟩
theorem Zcr:∀(f n:Nat),n<f->Lib.decDigits n=VN 10 f n
 | 0,n,h=>oM
 | f+1,n,h=>by
  rw [Lib.decDigits,VN]
  by_cases c:n<10
  ·rw [dif_pos c,Tg c,Zbl,Tg c]
  rw [dif_neg c,Tc c,Zcr f (n / 10) oM,Zbl,Tg oM]
theorem Zo7 {n:Int} (h:0<=n):Lib.itoa n=Zdt n:=by
 rw [Lib.itoa,Tc oM,Zdt,Tc oM,XY];exact Zcr _ _ oM
theorem Zrk {e:Env} {σ:St} {w:World} {name:String} {k:IntKind} {zs:List Int} {g:Nat} (hS:SRel (GG w0 nG) e σ w) (h:Lib.TabIs Tryz.prog w0 name k zs) (hg:Tryz.prog.globalNamed name=some g) (ah:g<nG):Lib.TabIs Tryz.prog w name k zs:=by
 unfold Lib.TabIs World.var? at h |-
 rw [hg] at h |-;simp only [Option.bind_some] at h |-;rw [hS.glob g ah];exact h
theorem Zvo {e:Env} {σ:St} {w:World} {k i:Nat} {u:Value} (hS:SRel (GG w0 nG) e σ w) (hk:k<nG) (h:w0.cell? ⟨k,i,none⟩=some u):w.cell? ⟨k,i,none⟩=some u:=by
 have:=hS.glob k hk;simpa [World.cell?,this] using h
noncomputable def ZhK:Zt:=fun args σ K=>match args,σ with
 | [.d (.int .i64 n),.d (.int .i64 b)],⟨[],[],0⟩=>(b=10/\0<=n/\n<9223372036854775808)/\K (.ret (.d (.str (Zdt n)))) ⟨[],[],0⟩
 | _,_=>False
theorem Zi2:Yb ZhK:=fun args σ K K' hK h=>by
 unfold ZhK at h |-;split at h <;> first | exact ⟨h.1,hK _ _ h.2⟩ | exact h.elim
theorem Zo8 (hN:NumOK w0 nG):PC w0 nG 68 ZhK:=Y5 (Zn Tryz.func68 kR rfl) fun args σ K h e w vs hS ha=>by
 unfold ZhK at h
 split at h
 ·rename_i n b
  obtain ⟨⟨rfl,h0,h1⟩,h⟩:=h;obtain ⟨u,v,rfl,hu,hv⟩:=Zhc ha
  cases hu.dint;cases hv.dint
  have ht:=Zrk hS hN.pow (g:=3) kR (by have:=hN.big;omega);have hc:=Tryz.strconv_FormatInt_10 n oM oM w ht;rw [Zo7 h0] at hc;exact ⟨_,h,_,fun _ _=>.mkstr,hc.mono fun en w' ⟨h1,k,os,h2⟩=>⟨h1,ZBJ (by rw [h2];exact Lib.below_grow w.heap.size w (Tr _) k os)⟩⟩
 exact h.elim
noncomputable def ZwD:Zt:=fun args σ K=>match args,σ with
 | [.d (.int .u64 n)],⟨[],[],0⟩=>n=16/\K (.ret (.d (.int .i64 4))) ⟨[],[],0⟩
 | _,_=>False
theorem Zvp (hN:NumOK w0 nG):PC w0 nG 260 ZwD:=Y5 (Zn Tryz.func260 kR rfl) fun args σ K h e w vs hS ha=>by
 unfold ZwD at h
 split at h
 ·rename_i n
  obtain ⟨rfl,h⟩:=h;obtain ⟨u,rfl,hu⟩:=Zhb ha
  cases hu.dint
  exact ⟨_,h,_,fun _ _=>.d _ _ (.int _ _),(Zvn w (Zvo hS (k:=5) (by have:=hN.big;omega) hN.bru)).mono fun en w' ⟨h1,h2⟩=>⟨h1,by rw [h2];exact Grows.refl _⟩⟩
 exact h.elim
noncomputable def ZzP:Tbl:=[(260,ZwD)]
theorem ZzQ (hN:NumOK w0 nG):PC w0 nG 237 ZwD:=by
 refine Zd Zb mixed (tbl:=ZzP) ⟨Zvp hN,trivial⟩ Tryz.func237 rfl kR kR ?_;intro args σ K h
 unfold ZwD at h
 split at h
 ·obtain ⟨rfl,h⟩:=h;refine ⟨Za [],0,false,sM,Ta rfl,wN ?_⟩;refine ⟨rfl,wN ?_⟩;exact h
 exact h.elim
noncomputable def Zvq:Zt:=fun args σ K=>match args,σ with
 | [.d (.int .i64 n)],⟨[],[],0⟩=>n=16/\K (.ret (.d (.bool true))) ⟨[],[],0⟩
 | _,_=>False
theorem Zvr:Zm .and .i64 16 15=0:=by rw [Yz];decide +kernel
theorem ZxQ:PC w0 nG 236 Zvq:=by
 refine Zd Zb mixed (tbl:=[]) trivial Tryz.func236 rfl kR kR ?_;intro args σ K h
 unfold Zvq at h
 split at h
 ·obtain ⟨rfl,h⟩:=h;refine ⟨Za [],0,false,sM,Ta rfl,wN ?_⟩;refine Or.inl ⟨InR.i64 oM oM,wN ?_⟩;have e:(Zm .and .i64 16 (16 - 1))=0:=Zvr;rw [e];exact h
 exact h.elim
theorem ZkB {n:Nat} (h:16<=n):XY 16 n=XY 16 (n / 16)++[Zbl (n % 16)]:=by
 have key:∀(f g m:Nat),m<f->m<g->VN 16 f m=VN 16 g m:=by
  intro f
  induction f with
  | zero=>intro g m h;omega
  | succ f ih =>
  intro g m h1 h2
  obtain ⟨g,rfl⟩:∃k,g=k+1:=⟨g - 1,oM⟩
  rw [VN,VN];split
  ·rfl
  rw [ih g (m / 16) oM oM]
 rw [XY,VN,Tc oM,XY,key n (n / 16+1) (n / 16) oM oM]
theorem ZkC {n:Nat} (h:n<16):XY 16 n=[Zbl n]:=by rw [XY,VN,Tg h]
def digs36:Bs:=[48,49,50,51,52,53,54,55,56,57,97,98,99,100,101,102,103,104,105,106,107,108,109,110,111,112,113,114,115,116,117,118,119,120,121,122]
theorem Zo9:∀d:Fin 16,digs36.getD d.val 0=Zbl d.val:=by decide +kernel
theorem Zrl {u:Nat} (h:u<18446744073709551616):Zm .and .u64 (u:Int) 15=((u % 16:Nat):Int):=by
 have e:Zm .and .u64 (u:Int) 15=bits .and .u64 (u:Int) ((15:Nat):Int):=by rw [Yz];rfl
 rw [e,bits_and_u64_nat u 15 h dM];have:u &&& 15=u % 16:=Nat.and_two_pow_sub_one_eq_mod u 4;rw [this]
def sh4 (n:Int):Int:=n.fdiv (2 ^ (min (Int.toNat 4) (IntKind.bits .u64)))
theorem Zvs (u:Nat):sh4 (u:Int)=((u / 16:Nat):Int):=by
 show (u:Int).fdiv ((2:Int) ^ 4)=_;rw [show ((2:Int) ^ 4)=((16:Nat):Int) by decide,Sr _ dM];omega
theorem Zrm {u:Nat} (h:u<18446744073709551616):digs36.getD (Zm .and .u64 (u:Int) 15).toNat 0=Zbl (u % 16):=by
 rw [Zrl h,Tu];exact Zo9 ⟨u % 16,Nat.mod_lt _ dM⟩
theorem Zrn {u:Nat} (h:u<16):digs36.getD (u:Int).toNat 0=Zbl u:=by
 rw [Tu];exact Zo9 ⟨u,h⟩
theorem Zro {u:Nat} (h:u<18446744073709551616):0<=Zm .and .u64 (u:Int) 15:=by rw [Zrl h];omega
theorem Zrp {u:Nat} (h:u<18446744073709551616):Zm .and .u64 (u:Int) 15<36:=by rw [Zrl h];omega
def shN:Nat->Int->Int
 | 0,n=>n
 | j+1,n=>sh4 (shN j n)
noncomputable def ZxR:Nat->Int->Bs
 | 0,_=>[]
 | j+1,n=>digs36.getD (Zm .and .u64 (shN j n) 15).toNat 0::ZxR j n
theorem ZbU (u:Nat):∀j,shN j (u:Int)=((u / 16 ^ j:Nat):Int)
 | 0=>by rw [shN,Nat.pow_zero,Nat.div_one]
 | j+1=>by rw [shN,ZbU u j,Zvs,Nat.div_div_eq_div_mul,Nat.pow_succ]
theorem ZkD {u:Nat} (hu:u<18446744073709551616) (j:Nat):u / 16 ^ j<18446744073709551616:=Nat.lt_of_le_of_lt (Nat.div_le_self _ _) hu
theorem ZAM {u:Nat} (hu:u<18446744073709551616):∀j,(∀k,k<j->16<=u / 16 ^ k)->XY 16 u=XY 16 (u / 16 ^ j)++ZxR j (u:Int)
 | 0,_=>by rw [ZxR,Nat.pow_zero,Nat.div_one,TT]
 | j+1,h=>by
  rw [ZAM hu j fun k hk=>h k oM,ZkB (h j oM),ZxR,ZbU,Zrm (ZkD hu j),Th,Nat.div_div_eq_div_mul,Nat.pow_succ];rfl
theorem ZAN {u j:Nat} (G:∀k,k<j->16<=u / 16 ^ k) (g:(16:Int)<=shN j (u:Int)):∀k,k<j+1->16<=u / 16 ^ k:=fun k hk=>by
 rw [ZbU] at g
 by_cases c:k=j
 ·subst c;omega
 exact G k oM
theorem ZAO {u j:Nat} (hu:u<18446744073709551616) (G:∀k,k<j->16<=u / 16 ^ k) (g:¬(16:Int)<=shN j (u:Int)):XY 16 u=digs36.getD (shN j (u:Int)).toNat 0::ZxR j (u:Int):=by
 rw [ZbU] at g |-;rw [ZAM hu j G,ZkC oM,Zrn oM];rfl
theorem ZBa {u j:Nat} (hu:u<18446744073709551616) (G:∀k,k<j->16<=u / 16 ^ k):0<=Zm .and .u64 (shN j (u:Int)) 15/\Zm .and .u64 (shN j (u:Int)) 15<36:=by
 rw [ZbU];exact ⟨Zro (ZkD hu j),Zrp (ZkD hu j)⟩
theorem ZAP {u j:Nat} (G:∀k,k<j->16<=u / 16 ^ k) (g:¬(16:Int)<=shN j (u:Int)):0<=shN j (u:Int)/\shN j (u:Int)<36:=by
 rw [ZbU] at g |-;generalize u / 16 ^ j=v at g |-;omega
noncomputable def ZzR:Zt:=fun args σ K=>match args,σ with
 | [.sl 0 e [],.d (.int .u64 n),.d (.int .i64 b),.d (.bool ng),.d (.bool ap)],⟨[],[0],1⟩=>(b=16/\ng=false/\ap=false/\0<=n/\n<18446744073709551616)/\K (.ret (.tuple [.d (.sl []),.d (.str (XY 16 n.toNat))])) ⟨[],[],0⟩
 | _,_=>False
noncomputable def ZzS:Tbl:=[(236,Zvq),(237,ZwD)]
theorem ZzT (hN:NumOK w0 nG):PC w0 nG 190 ZzR:=by
 refine Zdl Zrj mixed (tbl:=ZzS) ⟨ZxQ,ZzQ hN,trivial⟩ Tryz.func190 rfl kR kR ?_;intro args σ K h
 unfold ZzR at h
 split at h
 all_goals first | exact h.elim | skip
 all_goals
  obtain ⟨⟨rfl,rfl,rfl,h0,h1⟩,h⟩:=h
  rename_i e n
  obtain ⟨u0,rfl⟩:∃u:Nat,n=u:=⟨n.toNat,oM⟩
  rw [Tu] at h;have hu0:u0<18446744073709551616:=oM;refine ⟨Za [],Wv [(11,17)],Ys [],Ys [101],Ys [],0,false,sM,Ta rfl,wN ?_⟩;refine ⟨rfl,wN ?_⟩;refine Or.inl ⟨InR.u64 oM oM,wN ?_⟩;refine ⟨rfl,wN ?_⟩;refine Or.inl ⟨InR.u64 oM oM,wN ?_⟩;refine Or.inl ⟨InR.u64 oM oM,wN ?_⟩;refine Or.inl ⟨InR.u64 oM oM,wN ?_⟩;refine Or.inl ⟨InR.u64 oM oM,wN ?_⟩;have G:∀k,k<0->16<=u0 / 16 ^ k:=fun k hk=>oM
  iterate 15
   refine ZBC (fun g=>?_) (fun g=>?_);rotate_left
   ·have hb:=ZAO hu0 G g;have B:=ZAP G g;rw [hb] at h;(conv=>whnf);exact m223
   have B:=ZBa hu0 G;have G:=ZAN G g;(conv=>whnf);refine Or.inl ⟨InR.i64 dM dM,wN ?_⟩;refine ⟨B.1,B.2,wN ?_⟩;refine ⟨dM,dM,wN ?_⟩;refine ⟨dM,wN ?_⟩
  refine ZBC (fun g=>?_) (fun g=>wN ?_)
  ·exact absurd (ZAN G g 15 dM) oM
  have hb:=ZAO hu0 G g;have B:=ZAP G g;rw [hb] at h;exact m223
noncomputable def Zcs:Zt:=fun args σ K=>match args,σ with
 | [.d (.int .u64 n),.d (.int .i64 b)],⟨[],[],0⟩=>(b=16/\0<=n/\n<18446744073709551616)/\K (.ret (.d (.str (XY 16 n.toNat)))) ⟨[],[],0⟩
 | _,_=>False
theorem Zi3:Yb Zcs:=fun args σ K K' hK h=>by
 unfold Zcs at h |-;split at h <;> first | exact ⟨h.1,hK _ _ h.2⟩ | exact h.elim
noncomputable def ZzU:Tbl:=[(190,ZzR)]
theorem ZzV (hN:NumOK w0 nG):PC w0 nG 132 Zcs:=by
 refine Zd Zb mixed (tbl:=ZzU) ⟨ZzT hN,trivial⟩ Tryz.func132 rfl kR kR ?_;intro args σ K h
 unfold Zcs at h
 split at h
 ·obtain ⟨⟨rfl,h0,h1⟩,h⟩:=h;refine ⟨Za [],0,false,sM,Ta rfl,wN ?_⟩;refine ⟨⟨rfl,rfl,rfl,h0,h1⟩,wN ?_⟩;exact h
 exact h.elim
noncomputable def Zvt:Tbl:=[(132,Zcs)]
theorem Zpa (hN:NumOK w0 nG):PC w0 nG 67 Zcs:=by
 refine Zd Zb mixed (tbl:=Zvt) ⟨ZzV hN,trivial⟩ Tryz.func67 rfl kR kR ?_;intro args σ K h
 unfold Zcs at h
 split at h
 ·rename_i n b
  obtain ⟨⟨rfl,h0,h1⟩,h⟩:=h;refine ⟨Za [],0,false,sM,Ta rfl,wN ?_⟩;refine ⟨⟨rfl,h0,h1⟩,?_⟩;generalize XY 16 n.toNat=T at h |-;exact m103
 exact h.elim
theorem ZcJ {n:Int} (h:n<0) (h0:-9223372036854775808<=n):0<=IntKind.u64.wrap n/\IntKind.u64.wrap n<18446744073709551616/\Zdt n=[48,120]++XY 16 (IntKind.u64.wrap n).toNat:=by
 have e:IntKind.u64.wrap n=n+18446744073709551616:=by
  unfold IntKind.wrap
  simp [IntKind.signed,IntKind.bits];omega
 refine ⟨oM,oM,?_⟩;rw [Zdt,Tg h,e]
end Go.PM.Lex
end

section
namespace Go.PM.Lex
open Go.Proofs
variable {w0:World} {nG:Nat}
def Zh6 (e:Ex):Bool:=ZV e && JV e
theorem Zvu {op:Nat} {t:Bs} {n:Int} {l:List Ex} {a:Nat} (h:Zh6 (.mk op t n l a)=true):-2<Yq op/\(Yq op<0\/(l.length:Int)=Yq op)/\Z7 op t=true/\(-9223372036854775808<=n/\n<9223372036854775808)/\l.all Zh6=true:=by
 simp only [Zh6,Tk] at h;obtain ⟨h1,h2⟩:=h;obtain ⟨r1,r2⟩:=ZbH h2;simp only [ZV,Zo,Tk,Sb,TG] at h1;obtain ⟨h1,h3,h4,h5,h6⟩:=h1;refine ⟨h1,h3,h5,r1,?_⟩;rw [Tm] at h6 |-;exact fun x hx=>by rw [Zh6,h6 x hx,r2 x hx];rfl
theorem Zrq {op:Nat} (h:-2<Yq op):op<26:=by
 by_cases hc:op<26
 ·exact hc
 unfold Yq at h
 (repeat rw [Tc oM] at h)
 omega
theorem Zvv {op:Nat} (h:-2<Yq op):(ZI op<5->Yq op=2)/\(ZI op=5->Yq op=1)/\ZI op<=6/\(op=5->Yq op=0):=by
 have hk:∀o:Fin 26,-2<Yq o.val->(ZI o.val<5->Yq o.val=2)/\(ZI o.val=5->Yq o.val=1)/\ZI o.val<=6/\(o.val=5->Yq o.val=0):=dM;exact hk ⟨op,Zrq h⟩ h
noncomputable def Zqn (n:Nat):Zt:=Zh5 (.tuple []) fun rest txt=>∃pl e want,rest=[Xh YE pl e,.d (.int .i64 want)]/\(Zh6 e=true/\wE e<=n/\n<=1073741824/\0<=want/\want<=6)/\txt=exW want.toNat e
theorem Zpb (n:Nat):Yb (Zqn n):=Zbd _ _
noncomputable def Zrr (n:Nat):Zt:=Zh5 (.tuple []) fun rest txt=>∃fr fin pl xs,rest=[.d (.str fr),.d (.sl (Z0 pl xs)),.d (.str fin)]/\(xs.all Zh6=true/\szS wE xs<=n/\n<=1073741824)/\txt=WG fr fin xs
theorem Zpc (n:Nat):Yb (Zrr n):=Zbd _ _
theorem Vr (e:Ex):exW 0 e=exT e:=by rw [exW,Zmp,Tc sM]
noncomputable def Ztd (n:Nat):Tbl:=[(22,Zqn n)]
theorem ZxS {n:Nat} (ht:TO w0 nG (Ztd n)):PC w0 nG 131 (Zf5 (Xh YE) Zh6 exT wE n):=by
 refine Zd Zb mixed (tbl:=Ztd n) ht Tryz.func131 rfl kR kR ?_;intro args σ K h
 unfold Zf5 at h
 split at h
 ·obtain ⟨l,pl,⟨op,tx,nn,xs,at'⟩,rfl,rfl,⟨rfl,rfl⟩,⟨dy,hz,hn⟩,ab,h⟩:=h;refine ⟨Za [],2,true,sM,Ta rfl,wN ?_⟩;refine ⟨l,exT (.mk op tx nn xs at'),rfl,⟨.inr rfl,rfl,rfl⟩,⟨pl,.mk op tx nn xs at',0,rfl,⟨dy,hz,hn,oM,oM⟩,(Vr _).symm⟩,ab,wN ?_⟩;exact h
 exact h.elim
noncomputable def ZxT (n:Nat):Tbl:=[(52,Zen),(130,Zo2 131 YE Zh6 exT wE n)]
theorem ZzW {n:Nat} (ht:TO w0 nG (ZxT n)):PC w0 nG 66 (Zrr n):=by
 refine Zd Zb mixed (tbl:=ZxT n) ht Tryz.func66 rfl kR kR ?_;intro args σ K h
 unfold Zrr Zh5 at h
 split at h
 ·rename_i rest t p e rows
  obtain ⟨l,txt,rfl,⟨hp,rfl,rfl⟩,⟨fr,fin,pl,xs,rfl,⟨dy,hz,hn⟩,rfl⟩,ab,h⟩:=h;have key:l++WG fr fin xs=l++fr++Zh cmm (xs.map exT)++fin:=by simp only [WG,Zhl,Th]
  rw [key] at h;have ab:l.length+(fr.length+((Zh cmm (xs.map exT)).length+fin.length))<70368744177664:=by have:=ab;simp only [WG,Zhl,Tb] at this;exact this
  refine ⟨Za [],1,true,sM,Ta rfl,?_⟩;rcases hp with rfl | rfl
  all_goals
   conv=>whnf
   refine wk _ fr ⟨[fr],rfl,sM,sM,sM⟩ ?_;(conv=>whnf);refine ⟨l++fr,pl,xs,rfl,Ze pl xs,⟨rfl,rfl,rfl⟩,⟨dy,hz,hn⟩,by rw [Tb];show _+(Zh cmm (xs.map exT)).length<_;omega,wN ?_⟩;refine wk (l++fr++Zh cmm (xs.map exT)) fin ⟨[fin],rfl,sM,sM,sM⟩ (wN ?_);exact h
 exact h.elim
noncomputable def ZxU:List PV->St->(St->Prop)->Prop:=fun args σ K=>args.length<=Tryz.f52.ntmps/\W (ZwA ZgB Zo4 (Za []) (Wv [(1,3)]) (fun _=>false)) (Wm Tryz.f52) (Zw8 ZgB Tryz.f52 σ.bx.length K) (ZeH 0 args) σ
theorem ZBb:PDef (GG w0 nG) 52 ZxU (fun _ _ _ _=>False) :=
 ZlJ Zb mixed ZhJ ⟨ZlX,trivial⟩ Tryz.func52 rfl kR kR fun args σ K h=>⟨Za [],Wv [(1,3)],σ.bx.length,Tr _,h.1,h.2⟩
noncomputable def ZxV (n:Nat):Tbl:=[(63,ZwC),(52,Zen),(22,spB Zqn n),(66,spB Zrr n),(68,ZhK),(67,Zcs),(64,Vh)]
theorem ZxW {n:Nat} (ht:TO w0 nG (ZxV n)):PC w0 nG 22 (Zqn n):=by
 refine ZfU Zb mixed (tbl:=ZxV n) ht ⟨Zo0,ZlY,Zky Zpb _,Zky Zpc _,Zi2,Zi3,Zhd,trivial⟩ Tryz.func22 rfl kR kR ZBb ?_;intro args σ K h
 unfold Zqn Zh5 at h
 split at h
 ·rename_i rest t p e rows
  obtain ⟨l,txt,rfl,⟨hp,rfl,rfl⟩,⟨pl,⟨op,tx,nn,xs,at'⟩,want,rfl,⟨dy,hz,hn,hw0,hw6⟩,rfl⟩,ab,h⟩:=h;obtain ⟨m1,m2,m3,m4,m5⟩:=Zvu dy;obtain ⟨k1,k2,k3,k5⟩:=Zvv m1;have rt:szS wE xs+tx.length+1<=n:=by rw [wE,Vk] at hz;omega
  rw [Tm] at m5;refine ⟨Za [],Wv [],Ys [],1,true,sM,Ta rfl,?_⟩;rcases hp with rfl | rfl
  all_goals
   conv=>whnf
   refine ⟨op,rfl,fun l1 w1 a1 e1 e2 e3=>?_⟩;subst e1;(conv=>whnf);refine ZBC (fun ah=>wN ?_) (fun ah=>wN ?_)
   ·have hW:exW want.toNat (.mk op tx nn xs at')=[40]++(exT (.mk op tx nn xs at')++[41]):=by rw [exW,Zmp,Tg (by show ZI op<_;omega)]
    rw [hW] at h ab;have afm:l.length+1<70368744177664:=by simp only [Tb,Td,Tf] at ab;omega
    refine wk _ [40] ⟨[[40]],rfl,sM,sM,sM⟩ ?_;(conv=>whnf);refine ZBC (fun c1=>?_) (fun c1=>wN ?_)
    ·have c1:ZI op<5:=by omega
     have iu:xs.length=2:=by have:=k1 c1;omega
     obtain ⟨x0,x1,rfl⟩:∃x0 x1,xs=[x0,x1]:=by match xs,iu with | [a,b],_=>exact ⟨a,b,rfl⟩
     simp only [szS] at rt;have g0:=m5 x0 sM;have g1:=m5 x1 sM;have z0:wE x0<=n - 1:=oM;have z1:wE x1<=n - 1:=oM;obtain ⟨o0,t0,n0,y0,q0⟩:=x0;obtain ⟨o1,t1,n1,y1,q1⟩:=x1;have hx:exT (.mk op tx nn [(.mk o0 t0 n0 y0 q0),(.mk o1 t1 n1 y1 q1)] at')=exW (ZI op) (.mk o0 t0 n0 y0 q0)++(([32]++(w1++[32]))++exW (ZI op+1) (.mk o1 t1 n1 y1 q1)):=by rw [exT,exN,Tg c1,e2];rfl
     rw [hx] at h ab
     (try simp only [Tb,Td,Tf] at ab)
     conv=>whnf
     refine ⟨_,dM,rfl,wN ?_⟩;refine ⟨oM,wk _ (exW (ZI op) (.mk o0 t0 n0 y0 q0)) ⟨pl,(.mk o0 t0 n0 y0 q0),(ZI op:Int),rfl,⟨g0,oM,oM,oM,oM⟩,rfl⟩ ?_⟩;(conv=>whnf);refine wk _ ([32]++(w1++[32])) ⟨[[32],w1,[32]],rfl,sM,sM,sM⟩ ?_;(conv=>whnf);refine ⟨_,dM,rfl,wN ?_⟩;refine Or.inl ⟨InR.i64 oM oM,wN ?_⟩;refine ⟨oM,wk _ (exW (ZI op+1) (.mk o1 t1 n1 y1 q1)) ⟨pl,(.mk o1 t1 n1 y1 q1),((ZI op:Int)+1),rfl,⟨g1,oM,oM,oM,oM⟩,rfl⟩ ?_⟩;(conv=>whnf);refine ⟨Ta rfl,wN ?_⟩;refine ⟨_,dM,rfl,wN ?_⟩;refine wk _ [41] ⟨rfl,rfl⟩ ?_;(conv=>whnf);refine Or.inl ⟨InR.i64 oM oM,wN ?_⟩;rw [show l++([40]++(exW (ZI op) (.mk o0 t0 n0 y0 q0)++(([32]++(w1++[32]))++exW (ZI op+1) (.mk o1 t1 n1 y1 q1))++[41]))=(l++[40])++exW (ZI op) (.mk o0 t0 n0 y0 q0)++([32]++(w1++[32]))++exW (ZI op+1) (.mk o1 t1 n1 y1 q1)++[41] by first | rfl | simp only [Th]] at h;exact h
    have c1:¬ZI op<5:=oM;refine ZBC (fun c2=>?_) (fun c2=>wN ?_)
    ·have c2:ZI op=5:=by omega
     have iu:xs.length=1:=by have:=k2 c2;omega
     obtain ⟨x0,rfl⟩:∃x0,xs=[x0]:=by match xs,iu with | [a],_=>exact ⟨a,rfl⟩
     simp only [szS] at rt;have g0:=m5 x0 sM;have z0:wE x0<=n - 1:=oM;obtain ⟨o0,t0,n0,y0,q0⟩:=x0;have hx:exT (.mk op tx nn [(.mk o0 t0 n0 y0 q0)] at')=w1++exW 5 (.mk o0 t0 n0 y0 q0):=by rw [exT,exN,Tc c1,Tg c2,e2];rfl
     rw [hx] at h ab
     (try simp only [Tb,Td,Tf] at ab)
     conv=>whnf
     refine wk _ w1 ⟨[w1],rfl,sM,sM,sM⟩ ?_;(conv=>whnf);refine ⟨_,dM,rfl,wN ?_⟩;refine ⟨oM,wk _ (exW 5 (.mk o0 t0 n0 y0 q0)) ⟨pl,(.mk o0 t0 n0 y0 q0),5,rfl,⟨g0,oM,oM,oM,oM⟩,rfl⟩ ?_⟩;(conv=>whnf);refine ⟨Ta rfl,wN ?_⟩;refine ⟨_,dM,rfl,wN ?_⟩;refine wk _ [41] ⟨rfl,rfl⟩ ?_;(conv=>whnf);refine Or.inl ⟨InR.i64 oM oM,wN ?_⟩;rw [show l++([40]++(w1++exW 5 (.mk o0 t0 n0 y0 q0)++[41]))=(l++[40])++w1++exW 5 (.mk o0 t0 n0 y0 q0)++[41] by first | rfl | simp only [Th]] at h;exact h
    have c2:¬ZI op=5:=oM;refine ZBE (fun c3=>?_) (fun c3=>wN ?_)
    ·have c3:Yc op≠[]:=by rw [e2];exact c3
     have hx:exT (.mk op tx nn xs at')=w1++WG [40] [41] xs:=by rw [exT,exN,Tc c1,Tc c2,Tg c3,e2,Y9];rfl
     rw [hx] at h ab
     (try simp only [Tb,Td,Tf] at ab)
     conv=>whnf
     refine wk _ w1 ⟨[w1],rfl,sM,sM,sM⟩ ?_;(conv=>whnf);refine ⟨oM,wk _ (WG [40] [41] xs) ⟨[40],[41],pl,xs,rfl,⟨Tm.2 m5,oM,oM⟩,rfl⟩ ?_⟩;(conv=>whnf);refine ⟨Ta rfl,wN ?_⟩;refine ⟨_,dM,rfl,wN ?_⟩;refine wk _ [41] ⟨rfl,rfl⟩ ?_;(conv=>whnf);refine Or.inl ⟨InR.i64 oM oM,wN ?_⟩;rw [show l++([40]++(w1++WG [40] [41] xs++[41]))=(l++[40])++w1++WG [40] [41] xs++[41] by first | rfl | simp only [Th]] at h;exact h
    have c3:¬Yc op≠[]:=by rw [e2];exact fun g=>g c3
    refine ZBC (fun c4=>?_) (fun c4=>wN ?_)
    ·have c4:op=6:=by omega
     have hx:exT (.mk op tx nn xs at')=WG [91] [93] xs:=by rw [exT,exN,Tc c1,Tc c2,Tc c3,Tg c4,Y9];rfl
     rw [hx] at h ab
     (try simp only [Tb,Td,Tf] at ab)
     conv=>whnf
     refine ⟨oM,wk _ (WG [91] [93] xs) ⟨[91],[93],pl,xs,rfl,⟨Tm.2 m5,oM,oM⟩,rfl⟩ ?_⟩;(conv=>whnf);refine ⟨Ta rfl,wN ?_⟩;refine ⟨_,dM,rfl,wN ?_⟩;refine wk _ [41] ⟨rfl,rfl⟩ ?_;(conv=>whnf);refine Or.inl ⟨InR.i64 oM oM,wN ?_⟩;rw [show l++([40]++(WG [91] [93] xs++[41]))=(l++[40])++WG [91] [93] xs++[41] by first | rfl | simp only [Th]] at h;exact h
    have c4:¬op=6:=oM;refine ZBC (fun c5=>?_) (fun c5=>wN ?_)
    ·have c5:op=7:=by omega
     have ma:(Z0 pl xs).length=xs.length:=by rw [Ze,Te]
     by_cases ka:xs.length=0
     ·have hx:exT (.mk op tx nn xs at')=[36]++tx:=by rw [exT,exN,Tc c1,Tc c2,Tc c3,Tc c4,Tg c5,Js,Tg ka,TT]
      rw [hx] at h ab
      (try simp only [Tb,Td,Tf] at ab)
      conv=>whnf
      refine wk _ ([36]++tx) ⟨[[36],tx],rfl,sM,sM,sM⟩ ?_;(conv=>whnf);refine ZBC (fun g=>?_) (fun g=>?_)
      case refine_1=>exact absurd (show ((Z0 pl xs).length:Int)>0 from g) oM
      conv=>whnf
      refine ⟨Ta rfl,wN ?_⟩;refine ⟨_,dM,rfl,wN ?_⟩;refine wk _ [41] ⟨rfl,rfl⟩ ?_;(conv=>whnf);refine Or.inl ⟨InR.i64 oM oM,wN ?_⟩;rw [show l++([40]++([36]++tx++[41]))=(l++[40])++([36]++tx)++[41] by first | rfl | simp only [Th]] at h;exact h
     have hx:exT (.mk op tx nn xs at')=([36]++tx)++WG [40] [41] xs:=by rw [exT,exN,Tc c1,Tc c2,Tc c3,Tc c4,Tg c5,Js,Tc ka,Y9,Th];rfl
     rw [hx] at h ab
     (try simp only [Tb,Td,Tf] at ab)
     conv=>whnf
     refine wk _ ([36]++tx) ⟨[[36],tx],rfl,sM,sM,sM⟩ ?_;(conv=>whnf);refine ZBC (fun g=>?_) (fun g=>?_)
     case refine_2=>exact absurd (show ((Z0 pl xs).length:Int)>0 by omega) g
     conv=>whnf
     refine ⟨oM,wk _ (WG [40] [41] xs) ⟨[40],[41],pl,xs,rfl,⟨Tm.2 m5,oM,oM⟩,rfl⟩ ?_⟩;(conv=>whnf);refine ⟨Ta rfl,wN ?_⟩;refine ⟨_,dM,rfl,wN ?_⟩;refine wk _ [41] ⟨rfl,rfl⟩ ?_;(conv=>whnf);refine Or.inl ⟨InR.i64 oM oM,wN ?_⟩;rw [show l++([40]++(([36]++tx)++WG [40] [41] xs++[41]))=(l++[40])++([36]++tx)++WG [40] [41] xs++[41] by first | rfl | simp only [Th]] at h;exact h
    have c5:¬op=7:=oM;refine ZBC (fun c6=>wN ?_) (fun c6=>wN ?_)
    ·have c6':op=3:=by omega
     obtain ⟨i0,i1⟩:=m4;refine ZBC (fun gn=>wN ?_) (fun gn=>wN ?_)
     ·obtain ⟨j0,j1,j2⟩:=ZcJ gn i0;obtain ⟨wn,z6⟩:∃wn,IntKind.u64.wrap nn=wn:=⟨_,rfl⟩
      rw [z6] at j0 j1 j2;refine Or.inr ?_;rw [z6];have hx:exT (.mk op tx nn xs at')=Zdt nn:=by rw [exT,exN,Tc c1,Tc c2,Tc c3,Tc c4,Tc c5,Tg c6']
      rw [hx] at h ab
      (try simp only [Tb,Td,Tf] at ab)
      conv=>whnf
      refine ⟨⟨rfl,j0,j1⟩,?_⟩;obtain ⟨T,hT⟩:∃T,XY 16 wn.toNat=T:=⟨_,rfl⟩
      rw [hT] at j2 |-;rw [j2] at h ab
      (try simp only [Tb,Td,Tf] at ab)
      conv=>whnf
      refine wk _ ([48,120]++T) ⟨[[48,120],T],rfl,sM,sM,sM⟩ ?_;(conv=>whnf);refine ⟨Ta rfl,wN ?_⟩;refine ⟨_,dM,rfl,wN ?_⟩;refine wk _ [41] ⟨rfl,rfl⟩ ?_;(conv=>whnf);refine Or.inl ⟨InR.i64 oM oM,wN ?_⟩;rw [show l++([40]++(([48,120]++T)++[41]))=(l++[40])++([48,120]++T)++[41] by first | rfl | simp only [Th]] at h;exact h
     refine ZBC (fun _=>?_) (fun g=>absurd c6 g);have hx:exT (.mk op tx nn xs at')=Zdt nn:=by rw [exT,exN,Tc c1,Tc c2,Tc c3,Tc c4,Tc c5,Tg c6']
     rw [hx] at h ab
     (try simp only [Tb,Td,Tf] at ab)
     conv=>whnf
     refine ⟨⟨rfl,oM,i1⟩,wN ?_⟩;refine wk _ (Zdt nn) ⟨[Zdt nn],rfl,sM,sM,sM⟩ ?_;(conv=>whnf);refine ⟨Ta rfl,wN ?_⟩;refine ⟨_,dM,rfl,wN ?_⟩;refine wk _ [41] ⟨rfl,rfl⟩ ?_;(conv=>whnf);refine Or.inl ⟨InR.i64 oM oM,wN ?_⟩;rw [show l++([40]++(Zdt nn++[41]))=(l++[40])++Zdt nn++[41] by first | rfl | simp only [Th]] at h;exact h
    have c6':¬op=3:=oM;refine ZBC (fun g=>absurd g c6) (fun _=>wN ?_);refine ZBC (fun c7=>?_) (fun c7=>wN ?_)
    ·have c7':op=4:=by omega
     have hq:(WC tx).isSome=true:=by unfold Z7 at m3;rw [Tc oM,Tg c7'] at m3;exact m3
     obtain ⟨q,hq⟩:=Option.isSome_iff_exists.1 hq;have hqT:ZqZ tx=q:=by rw [ZqZ,hq];rfl
     have hx:exT (.mk op tx nn xs at')=q:=by rw [exT,exN,Tc c1,Tc c2,Tc c3,Tc c4,Tc c5,Tc c6',Tg c7',hqT]
     rw [hx] at h ab
     (try simp only [Tb,Td,Tf] at ab)
     conv=>whnf
     refine ⟨oM,wN ?_⟩;refine ⟨fun g=>?_,fun q' l8=>?_⟩
     case refine_1=>exact absurd (hq.symm.trans g) sM
     obtain rfl:q=q':=by rw [hq] at l8;exact Option.some.inj l8
     conv=>whnf
     refine wk _ q ⟨[q],rfl,sM,sM,sM⟩ ?_;(conv=>whnf);refine ⟨Ta rfl,wN ?_⟩;refine ⟨_,dM,rfl,wN ?_⟩;refine wk _ [41] ⟨rfl,rfl⟩ ?_;(conv=>whnf);refine Or.inl ⟨InR.i64 oM oM,wN ?_⟩;rw [show l++([40]++(q++[41]))=(l++[40])++q++[41] by first | rfl | simp only [Th]] at h;exact h
    have c7':¬op=4:=oM;refine ZBC (fun c8=>?_) (fun c8=>wN ?_)
    ·have c8':op=5:=by omega
     have hx:exT (.mk op tx nn xs at')=[110,105,108]:=by rw [exT,exN,Tc c1,Tc c2,Tc c3,Tc c4,Tc c5,Tc c6',Tc c7',Tg c8']
     rw [hx] at h ab
     (try simp only [Tb,Td,Tf] at ab)
     conv=>whnf
     refine wk _ [110,105,108] ⟨[[110,105,108]],rfl,sM,sM,sM⟩ ?_;(conv=>whnf);refine ⟨Ta rfl,wN ?_⟩;refine ⟨_,dM,rfl,wN ?_⟩;refine wk _ [41] ⟨rfl,rfl⟩ ?_;(conv=>whnf);refine Or.inl ⟨InR.i64 oM oM,wN ?_⟩;rw [show l++([40]++([110,105,108]++[41]))=(l++[40])++[110,105,108]++[41] by first | rfl | simp only [Th]] at h;exact h
    have c8':¬op=5:=oM;refine ZBC (fun c9=>?_) (fun c9=>?_)
    ·have c9':op=2:=by omega
     have hx:exT (.mk op tx nn xs at')=[95]:=by rw [exT,exN,Tc c1,Tc c2,Tc c3,Tc c4,Tc c5,Tc c6',Tc c7',Tc c8',Tg c9']
     rw [hx] at h ab
     (try simp only [Tb,Td,Tf] at ab)
     conv=>whnf
     refine wk _ [95] ⟨[[95]],rfl,sM,sM,sM⟩ ?_;(conv=>whnf);refine ⟨Ta rfl,wN ?_⟩;refine ⟨_,dM,rfl,wN ?_⟩;refine wk _ [41] ⟨rfl,rfl⟩ ?_;(conv=>whnf);refine Or.inl ⟨InR.i64 oM oM,wN ?_⟩;rw [show l++([40]++([95]++[41]))=(l++[40])++[95]++[41] by first | rfl | simp only [Th]] at h;exact h
    have c9':¬op=2:=oM;have hx:exT (.mk op tx nn xs at')=tx:=by rw [exT,exN,Tc c1,Tc c2,Tc c3,Tc c4,Tc c5,Tc c6',Tc c7',Tc c8',Tc c9']
    rw [hx] at h ab
    (try simp only [Tb,Td,Tf] at ab)
    conv=>whnf
    refine wk _ tx ⟨[tx],rfl,sM,sM,sM⟩ ?_;(conv=>whnf);refine ⟨Ta rfl,wN ?_⟩;refine ⟨_,dM,rfl,wN ?_⟩;refine wk _ [41] ⟨rfl,rfl⟩ ?_;(conv=>whnf);refine Or.inl ⟨InR.i64 oM oM,wN ?_⟩;rw [show l++([40]++(tx++[41]))=(l++[40])++tx++[41] by first | rfl | simp only [Th]] at h;exact h
   have hW:exW want.toNat (.mk op tx nn xs at')=exT (.mk op tx nn xs at'):=by rw [exW,Zmp,Tc (by show ¬ZI op<_;omega)]
   rw [hW] at h ab;refine ZBC (fun c1=>?_) (fun c1=>wN ?_)
   ·have c1:ZI op<5:=by omega
    have iu:xs.length=2:=by have:=k1 c1;omega
    obtain ⟨x0,x1,rfl⟩:∃x0 x1,xs=[x0,x1]:=by match xs,iu with | [a,b],_=>exact ⟨a,b,rfl⟩
    simp only [szS] at rt;have g0:=m5 x0 sM;have g1:=m5 x1 sM;have z0:wE x0<=n - 1:=oM;have z1:wE x1<=n - 1:=oM;obtain ⟨o0,t0,n0,y0,q0⟩:=x0;obtain ⟨o1,t1,n1,y1,q1⟩:=x1;have hx:exT (.mk op tx nn [(.mk o0 t0 n0 y0 q0),(.mk o1 t1 n1 y1 q1)] at')=exW (ZI op) (.mk o0 t0 n0 y0 q0)++(([32]++(w1++[32]))++exW (ZI op+1) (.mk o1 t1 n1 y1 q1)):=by rw [exT,exN,Tg c1,e2];rfl
    rw [hx] at h ab
    (try simp only [Tb,Td,Tf] at ab)
    conv=>whnf
    refine ⟨_,dM,rfl,wN ?_⟩;refine ⟨oM,wk _ (exW (ZI op) (.mk o0 t0 n0 y0 q0)) ⟨pl,(.mk o0 t0 n0 y0 q0),(ZI op:Int),rfl,⟨g0,oM,oM,oM,oM⟩,rfl⟩ ?_⟩;(conv=>whnf);refine wk _ ([32]++(w1++[32])) ⟨[[32],w1,[32]],rfl,sM,sM,sM⟩ ?_;(conv=>whnf);refine ⟨_,dM,rfl,wN ?_⟩;refine Or.inl ⟨InR.i64 oM oM,wN ?_⟩;refine ⟨oM,wk _ (exW (ZI op+1) (.mk o1 t1 n1 y1 q1)) ⟨pl,(.mk o1 t1 n1 y1 q1),((ZI op:Int)+1),rfl,⟨g1,oM,oM,oM,oM⟩,rfl⟩ ?_⟩;rw [show l++(exW (ZI op) (.mk o0 t0 n0 y0 q0)++(([32]++(w1++[32]))++exW (ZI op+1) (.mk o1 t1 n1 y1 q1)))=l++exW (ZI op) (.mk o0 t0 n0 y0 q0)++([32]++(w1++[32]))++exW (ZI op+1) (.mk o1 t1 n1 y1 q1) by first | rfl | simp only [Th]] at h;exact m103
   have c1:¬ZI op<5:=oM;refine ZBC (fun c2=>?_) (fun c2=>wN ?_)
   ·have c2:ZI op=5:=by omega
    have iu:xs.length=1:=by have:=k2 c2;omega
    obtain ⟨x0,rfl⟩:∃x0,xs=[x0]:=by match xs,iu with | [a],_=>exact ⟨a,rfl⟩
    simp only [szS] at rt;have g0:=m5 x0 sM;have z0:wE x0<=n - 1:=oM;obtain ⟨o0,t0,n0,y0,q0⟩:=x0;have hx:exT (.mk op tx nn [(.mk o0 t0 n0 y0 q0)] at')=w1++exW 5 (.mk o0 t0 n0 y0 q0):=by rw [exT,exN,Tc c1,Tg c2,e2];rfl
    rw [hx] at h ab
    (try simp only [Tb,Td,Tf] at ab)
    conv=>whnf
    refine wk _ w1 ⟨[w1],rfl,sM,sM,sM⟩ ?_;(conv=>whnf);refine ⟨_,dM,rfl,wN ?_⟩;refine ⟨oM,wk _ (exW 5 (.mk o0 t0 n0 y0 q0)) ⟨pl,(.mk o0 t0 n0 y0 q0),5,rfl,⟨g0,oM,oM,oM,oM⟩,rfl⟩ ?_⟩;rw [show l++(w1++exW 5 (.mk o0 t0 n0 y0 q0))=l++w1++exW 5 (.mk o0 t0 n0 y0 q0) by first | rfl | simp only [Th]] at h;exact m103
   have c2:¬ZI op=5:=oM;refine ZBE (fun c3=>?_) (fun c3=>wN ?_)
   ·have c3:Yc op≠[]:=by rw [e2];exact c3
    have hx:exT (.mk op tx nn xs at')=w1++WG [40] [41] xs:=by rw [exT,exN,Tc c1,Tc c2,Tg c3,e2,Y9];rfl
    rw [hx] at h ab
    (try simp only [Tb,Td,Tf] at ab)
    conv=>whnf
    refine wk _ w1 ⟨[w1],rfl,sM,sM,sM⟩ ?_;(conv=>whnf);refine ⟨oM,wk _ (WG [40] [41] xs) ⟨[40],[41],pl,xs,rfl,⟨Tm.2 m5,oM,oM⟩,rfl⟩ ?_⟩;rw [show l++(w1++WG [40] [41] xs)=l++w1++WG [40] [41] xs by first | rfl | simp only [Th]] at h;exact m103
   have c3:¬Yc op≠[]:=by rw [e2];exact fun g=>g c3
   refine ZBC (fun c4=>?_) (fun c4=>wN ?_)
   ·have c4:op=6:=by omega
    have hx:exT (.mk op tx nn xs at')=WG [91] [93] xs:=by rw [exT,exN,Tc c1,Tc c2,Tc c3,Tg c4,Y9];rfl
    rw [hx] at h ab
    (try simp only [Tb,Td,Tf] at ab)
    conv=>whnf
    refine ⟨oM,wk _ (WG [91] [93] xs) ⟨[91],[93],pl,xs,rfl,⟨Tm.2 m5,oM,oM⟩,rfl⟩ ?_⟩;rw [show l++(WG [91] [93] xs)=l++WG [91] [93] xs by first | rfl | simp only [Th]] at h;exact m103
   have c4:¬op=6:=oM;refine ZBC (fun c5=>?_) (fun c5=>wN ?_)
   ·have c5:op=7:=by omega
    have ma:(Z0 pl xs).length=xs.length:=by rw [Ze,Te]
    by_cases ka:xs.length=0
    ·have hx:exT (.mk op tx nn xs at')=[36]++tx:=by rw [exT,exN,Tc c1,Tc c2,Tc c3,Tc c4,Tg c5,Js,Tg ka,TT]
     rw [hx] at h ab
     (try simp only [Tb,Td,Tf] at ab)
     conv=>whnf
     refine wk _ ([36]++tx) ⟨[[36],tx],rfl,sM,sM,sM⟩ ?_;(conv=>whnf);refine ZBC (fun g=>?_) (fun g=>?_)
     case refine_1=>exact absurd (show ((Z0 pl xs).length:Int)>0 from g) oM
     rw [show l++([36]++tx)=l++([36]++tx) by first | rfl | simp only [Th]] at h;exact m103
    have hx:exT (.mk op tx nn xs at')=([36]++tx)++WG [40] [41] xs:=by rw [exT,exN,Tc c1,Tc c2,Tc c3,Tc c4,Tg c5,Js,Tc ka,Y9,Th];rfl
    rw [hx] at h ab
    (try simp only [Tb,Td,Tf] at ab)
    conv=>whnf
    refine wk _ ([36]++tx) ⟨[[36],tx],rfl,sM,sM,sM⟩ ?_;(conv=>whnf);refine ZBC (fun g=>?_) (fun g=>?_)
    case refine_2=>exact absurd (show ((Z0 pl xs).length:Int)>0 by omega) g
    conv=>whnf
    refine ⟨oM,wk _ (WG [40] [41] xs) ⟨[40],[41],pl,xs,rfl,⟨Tm.2 m5,oM,oM⟩,rfl⟩ ?_⟩;rw [show l++(([36]++tx)++WG [40] [41] xs)=l++([36]++tx)++WG [40] [41] xs by first | rfl | simp only [Th]] at h;exact m103
   have c5:¬op=7:=oM;refine ZBC (fun c6=>wN ?_) (fun c6=>wN ?_)
   ·have c6':op=3:=by omega
    obtain ⟨i0,i1⟩:=m4;refine ZBC (fun gn=>wN ?_) (fun gn=>wN ?_)
    ·obtain ⟨j0,j1,j2⟩:=ZcJ gn i0;obtain ⟨wn,z6⟩:∃wn,IntKind.u64.wrap nn=wn:=⟨_,rfl⟩
     rw [z6] at j0 j1 j2;refine Or.inr ?_;rw [z6];have hx:exT (.mk op tx nn xs at')=Zdt nn:=by rw [exT,exN,Tc c1,Tc c2,Tc c3,Tc c4,Tc c5,Tg c6']
     rw [hx] at h ab
     (try simp only [Tb,Td,Tf] at ab)
     conv=>whnf
     refine ⟨⟨rfl,j0,j1⟩,?_⟩;obtain ⟨T,hT⟩:∃T,XY 16 wn.toNat=T:=⟨_,rfl⟩
     rw [hT] at j2 |-;rw [j2] at h ab
     (try simp only [Tb,Td,Tf] at ab)
     conv=>whnf
     refine wk _ ([48,120]++T) ⟨[[48,120],T],rfl,sM,sM,sM⟩ ?_;rw [show l++(([48,120]++T))=l++([48,120]++T) by first | rfl | simp only [Th]] at h;exact m103
    refine ZBC (fun _=>?_) (fun g=>absurd c6 g);have hx:exT (.mk op tx nn xs at')=Zdt nn:=by rw [exT,exN,Tc c1,Tc c2,Tc c3,Tc c4,Tc c5,Tg c6']
    rw [hx] at h ab
    (try simp only [Tb,Td,Tf] at ab)
    conv=>whnf
    refine ⟨⟨rfl,oM,i1⟩,wN ?_⟩;refine wk _ (Zdt nn) ⟨[Zdt nn],rfl,sM,sM,sM⟩ ?_;rw [show l++(Zdt nn)=l++Zdt nn by first | rfl | simp only [Th]] at h;exact m103
   have c6':¬op=3:=oM;refine ZBC (fun g=>absurd g c6) (fun _=>wN ?_);refine ZBC (fun c7=>?_) (fun c7=>wN ?_)
   ·have c7':op=4:=by omega
    have hq:(WC tx).isSome=true:=by unfold Z7 at m3;rw [Tc oM,Tg c7'] at m3;exact m3
    obtain ⟨q,hq⟩:=Option.isSome_iff_exists.1 hq;have hqT:ZqZ tx=q:=by rw [ZqZ,hq];rfl
    have hx:exT (.mk op tx nn xs at')=q:=by rw [exT,exN,Tc c1,Tc c2,Tc c3,Tc c4,Tc c5,Tc c6',Tg c7',hqT]
    rw [hx] at h ab
    (try simp only [Tb,Td,Tf] at ab)
    conv=>whnf
    refine ⟨oM,wN ?_⟩;refine ⟨fun g=>?_,fun q' l8=>?_⟩
    case refine_1=>exact absurd (hq.symm.trans g) sM
    obtain rfl:q=q':=by rw [hq] at l8;exact Option.some.inj l8
    conv=>whnf
    refine wk _ q ⟨[q],rfl,sM,sM,sM⟩ ?_;rw [show l++(q)=l++q by first | rfl | simp only [Th]] at h;exact m103
   have c7':¬op=4:=oM;refine ZBC (fun c8=>?_) (fun c8=>wN ?_)
   ·have c8':op=5:=by omega
    have hx:exT (.mk op tx nn xs at')=[110,105,108]:=by rw [exT,exN,Tc c1,Tc c2,Tc c3,Tc c4,Tc c5,Tc c6',Tc c7',Tg c8']
    rw [hx] at h ab
    (try simp only [Tb,Td,Tf] at ab)
    conv=>whnf
    refine wk _ [110,105,108] ⟨[[110,105,108]],rfl,sM,sM,sM⟩ ?_;rw [show l++([110,105,108])=l++[110,105,108] by first | rfl | simp only [Th]] at h;exact m103
   have c8':¬op=5:=oM;refine ZBC (fun c9=>?_) (fun c9=>?_)
   ·have c9':op=2:=by omega
    have hx:exT (.mk op tx nn xs at')=[95]:=by rw [exT,exN,Tc c1,Tc c2,Tc c3,Tc c4,Tc c5,Tc c6',Tc c7',Tc c8',Tg c9']
    rw [hx] at h ab
    (try simp only [Tb,Td,Tf] at ab)
    conv=>whnf
    refine wk _ [95] ⟨[[95]],rfl,sM,sM,sM⟩ ?_;rw [show l++([95])=l++[95] by first | rfl | simp only [Th]] at h;exact m103
   have c9':¬op=2:=oM;have hx:exT (.mk op tx nn xs at')=tx:=by rw [exT,exN,Tc c1,Tc c2,Tc c3,Tc c4,Tc c5,Tc c6',Tc c7',Tc c8',Tc c9']
   rw [hx] at h ab
   (try simp only [Tb,Td,Tf] at ab)
   conv=>whnf
   refine wk _ tx ⟨[tx],rfl,sM,sM,sM⟩ ?_;rw [show l++(tx)=l++tx by first | rfl | simp only [Th]] at h;exact m103
 exact h.elim
end Go.PM.Lex
end

section
namespace Go.PM.Lex
open Go.Proofs Go.Shelf Go.RowKit
variable {w0:World} {nG:Nat}
theorem ZlZ (w:World) (g n:Nat) {cs:Array Value} {ty:TypeId} {fz:Nat×Nat} (h:w.heap[g]?=some (.cells cs ty fz)) (h1:fz.1<=fz.2) (h2:∀o,n<=o->fz.1<=o->fz.2<=o) :
  ∃fz',(w.drew.freeze ⟨g,0,none⟩ n).heap[g]?=some (.cells cs ty fz')/\fz'.1<=fz'.2/\∀o,n<=o->fz'.1<=o->fz'.2<=o:=by
 have h':w.drew.heap[g]?=some (.cells cs ty fz):=h;obtain ⟨lo,hi⟩:=fz;unfold World.freeze
 split
 ·exact ⟨_,h',h1,h2⟩
 simp only [Array.getElem?_modify,if_true,h',Sw];refine ⟨_,rfl,?_,?_⟩
 ·split
  ·exact T7 _
  simp only at h1 |-;omega
 intro o ho ac
 split
 ·simp only;omega
 rename_i an
 have an:lo≠hi:=by simpa using an
 simp only at h1 |-;have k:=h2 (max lo n) oM (by simp only;omega);simp only at k;omega
theorem _root_.Go.PM.Owned.grow {G:GE} {e:Env} {w w':World} {t el:Nat} {rows:List (List D)} {v:Value} (h:Owned G e w t el rows v) (g:Grows w w'):Owned G e w' t el rows v:=by
 rcases h with h | ⟨sz,a1,a2,a3,b,off,cap,cs,ty,fz,a4,a5,a6,a7,a8,a9,a10⟩
 ·exact .inl h
 exact .inr ⟨sz,a1,a2,a3,b,off,cap,cs,ty,fz,a4,a5,a6,(g.old _ (Tq.1 a7).1).trans a7,a8,a9,a10⟩
theorem _root_.Go.PM.Owned.refreeze {G:GE} {e:Env} {w w':World} {t:Nat} {rows:List (List D)} {v:Value} {g n:Nat} {cs:Array Value} {ty:TypeId} {fz fz':Nat×Nat} (h:Owned G e w t 5 rows v) (hM:e.M t=some (g,n))
  (h':w'.heap[g]?=some (.cells cs ty fz')) (h0:w.heap[g]?=some (.cells cs ty fz)) (h1:fz'.1<=fz'.2) (h2:∀o,n<=o->fz'.1<=o->fz'.2<=o):Owned G e w' t 5 rows v:=by
 rcases h with ⟨_,_,h⟩ | ⟨sz,a1,a2,a3,b,off,cap,cs2,ty2,fz2,a4,a5,a6,a7,a8,a9,a10⟩
 ·rw [hM] at h;cases h
 rw [hM] at a10;simp only [Option.some.injEq,Prod.mk.injEq] at a10;obtain ⟨rfl,rfl⟩:=a10;rw [h0] at a7
 cases a7
 exact .inr ⟨sz,a1,a2,a3,g,off,cap,cs,ty,fz',a4,a5,a6,h',a8,⟨h1,h2⟩,hM⟩
theorem Zvw {G:GE} {e:Env} {w w':World} {t:TypeId} {p:PV} {rows:List (List D)} (hp:p=.d .nilp\/p=.ptr 0 0) (hS:SRel G e ⟨[.cells t [p,.sl 0 5 rows]],[0],1⟩ w)
  (hsz:w.heap.size<=w'.heap.size) (rf:w'.os=w.os) (htp:w'.tape=w.tape) (jn:w'.output=w.output)
  (ba:∀b off u,w.cell? ⟨b,off,none⟩=some u->w'.cell? ⟨b,off,none⟩=some u)
  (iz:∀b,b<w.heap.size->(∀q,e.M 0=some q->q.1≠b)->w'.heap[b]?=w.heap[b]?)
  (nu:∀v,Owned G e w 0 5 rows v->Owned G e w' 0 5 rows v) (adw:∀q,e.M 0=some q->∃cs ty fz,w'.heap[q.1]?=some (.cells cs ty fz)) :
  SRel G e ⟨[.cells t [p,.sl 0 5 rows]],[0],1⟩ w'/\Later e ⟨[.cells t [p,.sl 0 5 rows]],[0],1⟩ w e ⟨[.cells t [p,.sl 0 5 rows]],[0],1⟩ w':=by
 have hL:Later e ⟨[.cells t [p,.sl 0 5 rows]],[0],1⟩ w e ⟨[.cells t [p,.sl 0 5 rows]],[0],1⟩ w':={
  len:=Tr _
  beta:=fun _ _=>rfl
  X:=rfl
  pres:=fun b off u hu ho=>⟨ho,ba b off u hu⟩
  blocks:=fun b hb h1 h2=>iz b hb fun q hq=>h2 0 sM q hq
  size:=hsz
  os:=rf
  tape:=htp
  output:=jn
  fresh:=fun i h1 h2=>by simp at h1 h2;omega
  ftok:=fun x hx q hq=>.inr ⟨x,hx,q,hq,rfl⟩ }
 have ah:=hS.lt (i:=0) sM;have pm:w'.heap[e.β 0]?=w.heap[e.β 0]?:=iz _ ah fun q hq=>fun h=>(hS.own 0 sM q hq).2.1 0 sM h.symm
 refine ⟨?_,hL⟩;exact {
  inj:=hS.inj
  box:=fun i x hx=>by
   match i,hx with
   | 0,hx =>
    cases hx
    obtain ⟨cv,h1,h2,h3⟩:=hS.box 0 _ rfl;refine ⟨cv,pm.trans h1,h2,fun j y u hy hu=>?_⟩
    match j,hy with
    | 0,hy =>
     exact m110
    | 1,hy =>
     cases hy
     obtain ⟨q1,q2⟩:=h3 1 (.sl 0 5 rows) u rfl hu;refine ⟨?_,q2⟩
     cases q1 with
     | sl _ _ _ _ hn hd ht=>exact .sl _ _ _ _ hn (hd.later hL) (fun h=>nu _ (ht h))
    | j+2,hy=>simp at hy
   | i+1,hx=>simp at hx
  low:=hS.low
  tkn:=hS.tkn
  own:=fun x hx q hq=>by
   obtain ⟨a,b,_⟩:=hS.own x hx q hq;obtain rfl:x=0:=by simpa using hx
   exact ⟨a,b,adw q hq⟩
  dis:=hS.dis
  xlt:=fun b off hx=>TH (hS.xlt b off hx) hsz
  xown:=hS.xown
  glob:=fun b hb=>by
   rw [iz b (TH hb hS.big) fun q hq=>fun h=>by have:=(hS.own 0 sM q hq).1;omega];exact hS.glob b hb
  big:=TW hS.big hsz }
noncomputable def U8:Zt:=fun args σ K=>match args,σ with
 | [.ptr 0 0],⟨[.cells t [p,.sl 0 e rows]],[0],1⟩=>∃l:Bs,(rows=Zj l/\t=60/\e=5/\(p=.d .nilp\/p=.ptr 0 0)/\l.length<70368744177664)/\K (.ret (.d (.str l))) ⟨[.cells t [p,.sl 0 e rows]],[0],1⟩
 | _,_=>False
theorem ZbV:PC w0 nG 17 U8:=Ux (Zn Tryz.func17 kR rfl) fun args σ K h e w vs hS ha=>by
 unfold U8 at h
 split at h
 ·rename_i t p el rows
  obtain ⟨l,⟨rfl,rfl,rfl,hp,et⟩,hK⟩:=h;obtain ⟨u,rfl,hu⟩:=Zhb ha;obtain ⟨cv,dl,fu,jd⟩:=hS.box 0 _ rfl;have dm:cv.size=2:=fu;obtain ⟨v0,v1,rfl⟩:∃v0 v1,cv=#[v0,v1]:=by
   obtain ⟨lst⟩:=cv
   match lst,dm with
   | [a,b],_=>exact ⟨a,b,rfl⟩
  have ae:=(jd 1 (.sl 0 5 (Zj l)) v1 rfl rfl).1
  cases hu with
  | ptr b off hb =>
  refine ⟨_,_,.string ⟨l.toArray⟩,hK,?_⟩;have fin:∀w',w.heap.size<=w'.heap.size->w'.os=w.os->w'.tape=w.tape->w'.output=w.output ->
    (∀b off u,w.cell? ⟨b,off,none⟩=some u->w'.cell? ⟨b,off,none⟩=some u) ->
    (∀b,b<w.heap.size->(∀q,e.M 0=some q->q.1≠b)->w'.heap[b]?=w.heap[b]?)->(∀v,Owned (GG w0 nG) e w 0 5 (Zj l) v->Owned (GG w0 nG) e w' 0 5 (Zj l) v)->(∀q,e.M 0=some q->∃cs ty fz,w'.heap[q.1]?=some (.cells cs ty fz)) ->
    VRel (GG w0 nG) e ⟨[.cells 60 [p,.sl 0 5 (Zj l)]],[0],1⟩ w' (.d (.str l)) (.string ⟨l.toArray⟩)/\SRel (GG w0 nG) e ⟨[.cells 60 [p,.sl 0 5 (Zj l)]],[0],1⟩ w'/\Later e ⟨[.cells 60 [p,.sl 0 5 (Zj l)]],[0],1⟩ w e ⟨[.cells 60 [p,.sl 0 5 (Zj l)]],[0],1⟩ w':=fun w' h1 h2 h3 h4 h5 h6 h7 h8 =>
   ⟨.mkstr,Zvw hp hS h1 h2 h3 h4 h5 h6 h7 h8⟩
  have grown:∀w',Grows w w'->_:=fun w' g=>fin w' g.size g.os g.tape g.output (fun b off u hu=>(g.cell (Uo hu)).trans hu) (fun b hb _=>g.old b hb) (fun v hv=>hv.grow g) (fun q hq=>by obtain ⟨_,_,cs,ty,fz,hh⟩:=hS.own 0 sM q hq;exact ⟨cs,ty,fz,(g.old _ (Tq.1 hh).1).trans hh⟩)
  cases ae with
  | sl _ _ _ _ hn hd ht =>
  rcases ht sM with ⟨rfl,bj,hM⟩ | ⟨sz,g1,g2,g3,g,off,cap,cs,ty,fz,rfl,g4,g5,g6,⟨g7,rfl,rfl,g8⟩,g9,hM⟩
  ·have hl:l=[]:=by simpa [Zj] using bj
   subst hl;refine (Zri Tryz.lays169 Tryz.Builder_Extra_169 w.heap.size (e.β 0) v0 w dl).mono fun en w' ⟨h1,h2⟩=>?_
   exact ⟨h1,grown w' (ZBJ h2)⟩
  have jz:sz=1:=by
   have:(Tryz.prog.info? 5).map (·.size)=some sz:=g1
   rw [ZwX] at this;cases this;rfl
  subst jz;rw [XP] at g5 dl g9 hM hd
  by_cases hl:l=[]
  ·subst hl;refine (Zo1 Tryz.lays169 Tryz.Builder_Extra_169 w.heap.size (e.β 0) g cap v0 w oM dl).mono fun en w' ⟨h1,h2⟩=>?_
   exact ⟨h1,grown w' (ZBJ h2)⟩
  have ba:∀j x,l[j]?=some x->w.cell? ⟨g,j,none⟩=some (.int .u8 x.toNat):=by
   exact m41
  obtain ⟨fz',rn,hfa,hfb⟩:=ZlZ w g l.length g6 g9.1 (fun o ho=>g9.2 o oM);refine (ZlW Tryz.lays169 Tryz.Builder_Extra_169 (e.β 0) g cap v0 cs fz l w hl dl g6 oM oM oM ba).mono fun en w' ⟨h1,h2⟩=>?_
  rw [h2];refine ⟨h1,fin _ ?_ ?_ ?_ ?_ ?_ ?_ ?_ ?_⟩
  ·unfold World.freeze;split <;> first | exact Tr _ | (simp only [Array.size_modify];exact Tr _)
  ·exact m188
  ·exact m188
  ·exact m188
  ·exact m135
  ·intro b hb hq
   exact Uz w g l.length b fun h=>hq _ hM h.symm
  ·intro v hv
   exact hv.refreeze hM rn g6 hfa (by simpa [XP] using hfb)
  intro q hq
  rw [hM] at hq;cases hq;exact ⟨_,_,_,rn⟩
 exact h.elim
end Go.PM.Lex
end

section
namespace Go.PM.Lex
open Go.Proofs
variable {w0:World} {nG:Nat}
noncomputable def Zpd (n:Nat):Tbl:=[(104,Zf6),(131,Zf5 (Xh YE) Zh6 exT wE n)]
theorem Zvx {n:Nat} (ht:TO w0 nG (Zpd n)):PC w0 nG 130 (Zo2 131 YE Zh6 exT wE n):=by
 refine Zd Zb mixed (tbl:=Zpd n) ht Tryz.func130 rfl kR kR ?_;intro args σ K h
 unfold Zo2 at h
 split at h
 ·rename_i r bt g t e rows tp
  obtain ⟨l,pl,xs,rfl,rfl,⟨rfl,rfl,rfl⟩,⟨dy,hz,hn⟩,ab,h⟩:=h;have dx:(xs.map (YE pl)).length=xs.length:=Te ..;have hsz:=Zp wE xs;refine ⟨Za [(1,⟨[12],[0,1,2,3,10,11],fun vs σ=>∃i:Nat,vs=[.d (.int .i64 i)]/\σ=⟨[.cells 60 [.ptr 0 0,.sl 0 5 (Zj (l++Zh bt ((xs.take i).map exT)))],.cells tp [.ptr 0 0]],[0],1⟩/\i<=xs.length,mu1 xs.length⟩)],2,true,sM,Ta rfl,wN ?_⟩;refine ⟨⟨0,rfl,(by simp only [T2,TQ,Zh,TT];rfl),oM⟩,?_⟩;intro vs σ hI
  obtain ⟨i,rfl,rfl,hi⟩:=hI;(conv=>whnf);refine ZBC (fun aa=>wN ?_) (fun aa=>?_)
  ·have aa:i<xs.length:=lzI dx aa;have hg:=Zs wE xs i aa;have fq:Zh6 xs[i]=true:=Tm.1 dy _ (TD aa);have ao:=Xo bt exT aa;have ak:=WE bt exT xs (i+1);obtain ⟨eA,hA⟩:∃x,xs[i]=x:=⟨_,rfl⟩
   obtain ⟨a1,a2,a3,a4,a5⟩:=eA;rw [hA] at hg fq ao;have ae:(xs.map (YE pl))[((i:Nat):Int).toNat]?=some (YE pl (.mk a1 a2 a3 a4 a5)):=by simp [aa,hA]
   refine ⟨_,oM,ae,wN ?_⟩;refine ZBC (fun h0=>wN ?_) (fun h0=>?_)
   ·have h0:0<i:=by omega
    rw [Tc oM] at ao;rw [ao] at ak;simp only [Tb] at ak;refine wk _ bt ⟨rfl,rfl⟩ (wN ?_);refine ⟨l++Zh bt ((xs.take i).map exT)++bt,pl,(.mk a1 a2 a3 a4 a5),rfl,rfl,⟨rfl,rfl⟩,⟨fq,oM,oM⟩,by simp only [Tb];omega,wN ?_⟩;exact m77
   obtain rfl:i=0:=by omega
   rw [Tg rfl] at ao;rw [ao] at ak;(conv=>whnf);refine ⟨l++Zh bt ((xs.take 0).map exT),pl,(.mk a1 a2 a3 a4 a5),rfl,rfl,⟨rfl,rfl⟩,⟨fq,oM,oM⟩,by simp only [T2,TQ,Zh,Tb,Tf];omega,wN ?_⟩;exact m70
  exact m225
 exact h.elim
theorem Zte {n:Nat} (h:PC w0 nG 22 (Zqn n)):PC w0 nG 66 (Zrr n) :=
 ZzW ⟨JY,Zvx ⟨Zo3,ZxS ⟨h,trivial⟩,trivial⟩,trivial⟩
theorem cWE (hN:NumOK w0 nG) (hL:LexC w0 nG):∀n,PC w0 nG 22 (Zqn n)
 | 0=>ZxW ⟨Zrh,JY,ZK (Zn Tryz.func22 kR rfl),ZK (Zn Tryz.func66 kR rfl),Zo8 hN,Zpa hN,hL.quote,trivial⟩
 | n+1=>ZxW ⟨Zrh,JY,ZL (sp:=Zqn) (cWE hN hL n),ZL (sp:=Zrr) (Zte (cWE hN hL n)),Zo8 hN,Zpa hN,hL.quote,trivial⟩
noncomputable def ZkE:Zt:=fun args σ K=>match args,σ with
 | [.ptr 0 0,.d (.int .i64 c)],⟨[.cells t [p,.sl 0 e rows]],[0],1⟩=>∃l:Bs,(rows=Zj l/\t=60/\e=5/\(p=.d .nilp\/p=.ptr 0 0)/\l.length<70368744177664) /\
   ((c=3\/c=151->K (.ret (.tuple [.d (.str []),.d (.int .i64 3)])) ⟨[.cells t [p,.sl 0 e rows]],[0],1⟩)/\(c≠3/\c≠151->K (.ret (.tuple [.d (.str l),.d (.int .i64 0)])) ⟨[.cells t [p,.sl 0 e rows]],[0],1⟩))
 | _,_=>False
noncomputable def Zvy:Tbl:=[(17,U8)]
theorem Zpe:PC w0 nG 18 ZkE:=by
 refine Zd Zb mixed (tbl:=Zvy) ⟨ZbV,trivial⟩ Tryz.func18 rfl kR kR ?_;intro args σ K h
 unfold ZkE at h
 split at h
 ·rename_i c t p e rows
  obtain ⟨l,⟨rfl,rfl,rfl,hp,ab⟩,ha,hb⟩:=h;refine ⟨Za [],1,true,sM,Ta rfl,?_⟩;rcases hp with rfl | rfl
  all_goals
   conv=>whnf
   refine ZBC (fun c1=>wN ?_) (fun c1=>wN ?_)
   ·exact ha (.inl c1)
   refine ZBC (fun c2=>wN ?_) (fun c2=>wN ?_)
   ·exact ha (.inr c2)
   refine ⟨l,⟨rfl,rfl,rfl,iM,ab⟩,?_⟩;(conv=>whnf);exact hb ⟨c1,c2⟩
 exact h.elim
def Vn (txt:Bs) {α:Type}:Top α->Bs×Nat
 | .ok _ _=>(txt,0)
 | .err _ e=>if e=3\/e=151 then ([],3) else (txt,0)
noncomputable def Zy0 (n:Nat):Zt:=fun args σ K=>match args,σ with
 | [.agg c],⟨[],[],0⟩=>∃pl e,c=(YE pl e).map .d/\((ZV e=true->JV e=true/\(exT e).length<1073741824)/\wE e<=n/\n<=1073741824) /\
   ((ZV e=false->K (.ret (.tuple [.d (.str []),.d (.int .i64 160)])) ⟨[],[],0⟩)/\(ZV e=true->∀x,Yv 65536 16384 (Ya 64) (exT e)=x->K (.ret (.tuple [.d (.str (Vn (exT e) x).1),.d (.int .i64 (Vn (exT e) x).2)])) ⟨[],[],0⟩))
 | _,_=>False
noncomputable def ZxX (n:Nat):Tbl:=[(21,XA (Xh YE) ZV wE n),(22,Zqn n),(17,U8),(23,Zks),(18,ZkE)]
theorem ZzX {n:Nat} (ht:TO w0 nG (ZxX n)):PC w0 nG 9 (Zy0 n):=by
 refine Zd Zb mixed (tbl:=ZxX n) ht Tryz.func9 rfl kR kR ?_;intro args σ K h
 unfold Zy0 at h
 split at h
 ·obtain ⟨pl,⟨op,tx,nn,xs,at'⟩,rfl,⟨hab,hz,hn⟩,ha,hb⟩:=h;obtain ⟨E,hE⟩:∃E,Ex.mk op tx nn xs at'=E:=⟨_,rfl⟩
  refine ⟨Za [],0,true,sM,Ta rfl,wN ?_⟩;refine ⟨pl,.mk op tx nn xs at',rfl,⟨hz,hn⟩,fun b aj=>?_⟩
  cases b with
  | false =>
   conv=>whnf
   exact ha aj
  | true =>
  obtain ⟨h1,h2⟩:=hab aj;have hb:=hb aj;(conv=>whnf);refine ⟨[],exW 0 (.mk op tx nn xs at'),rfl,⟨.inl rfl,rfl,rfl⟩,⟨pl,.mk op tx nn xs at',0,rfl,⟨by rw [Zh6,aj,h1];rfl,hz,hn,oM,oM⟩,rfl⟩,by rw [Vr];simp only [Tf];omega,?_⟩;rw [Vr];obtain ⟨T,hT⟩:∃T,exT (.mk op tx nn xs at')=T:=⟨_,rfl⟩
  rw [hT] at hb h2 |-;(conv=>whnf);refine ⟨T,⟨rfl,rfl,rfl,.inr rfl,oM⟩,wN ?_⟩;refine ⟨oM,fun x hx=>?_⟩;have hb:=hb x hx
  cases x with
  | ok v L =>
   obtain ⟨v1,v2,v3,v4,v5⟩:=v;unfold ZyY
   dsimp only;(conv=>whnf);refine ⟨T,⟨rfl,rfl,rfl,.inr rfl,oM⟩,wN ?_⟩;refine ⟨fun g=>absurd g dM,fun _=>wN ?_⟩;exact hb
  | err p c =>
  conv=>whnf
  refine ⟨T,⟨rfl,rfl,rfl,.inr rfl,oM⟩,wN ?_⟩;exact m173
 exact h.elim
theorem cPE (hg:GlobOK w0 nG) (hN:NumOK w0 nG) (hL:LexC w0 nG) (n:Nat):PC w0 nG 9 (Zy0 n) :=
 ZzX ⟨cHE hL n,cWE hN hL n,ZbV,ZzH hg,Zpe,trivial⟩
def ZzY:Ex:=.mk 8 [] 0 [.mk 10 [] 0 [.mk 1 [97] 0 [] 0,.mk 3 [] 1 [] 0] 0] 0
theorem Zvz:ZV ZzY=true:=by decide +kernel
theorem Zpf:exT ZzY=[45,40,97,32,43,32,49,41]:=by decide +kernel
def ZzZ {α:Type}:Top α->Bool | .ok _ _=>true | .err _ _=>false
theorem Zrs:ZzZ (Yv 65536 16384 (Ya 64) [45,40,97,32,43,32,49,41])=true:=by decide +kernel
noncomputable def Zf7:Zt:=fun args σ K=>match args,σ with
 | [],⟨[],[],0⟩=>K (.ret (.d (.bool true))) ⟨[],[],0⟩
 | _,_=>False
noncomputable def Zfg:Tbl:=[(9,Zy0 1000)]
theorem Zl0 (ht:TO w0 nG Zfg):PC w0 nG 5 Zf7:=by
 refine Zd Zb mixed (tbl:=Zfg) ht Tryz.func5 rfl kR kR ?_;intro args σ K h
 unfold Zf7 at h
 split at h
 ·refine ⟨Za [],0,false,sM,Ta rfl,wN ?_⟩;refine ⟨fun _=>0,ZzY,rfl,⟨fun _=>⟨by decide +kernel,by rw [Zpf];decide⟩,by decide +kernel,dM⟩,?_⟩;refine ⟨fun g=>(by rw [Zvz] at g;cases g),fun _ x hx=>?_⟩;have hr:=Zrs;rw [Zpf] at hx |-;rw [hx] at hr
  cases x with
  | ok v L =>
   rw [Vn];exact m103
  | err p c=>cases hr
 exact h.elim
noncomputable def ZwE (k:Nat):Zt:=fun args σ K=>match args,σ with
 | [.d (.int .i64 n)],⟨[],[],0⟩=>∃u:Nat,n=(u:Int)/\(u<9223372036854775808/\u<10 ^ (k+1)/\k<=20)/\K (.ret (.d (.str (XY 10 u)))) ⟨[],[],0⟩
 | _,_=>False
theorem Zrt {n:Nat} (h:10<=n):XY 10 n=XY 10 (n / 10)++[Zbl (n % 10)]:=by
 have key:∀(f g m:Nat),m<f->m<g->VN 10 f m=VN 10 g m:=by
  intro f
  induction f with
  | zero=>intro g m h;omega
  | succ f ih =>
  intro g m h1 h2
  obtain ⟨g,rfl⟩:∃k,g=k+1:=⟨g - 1,oM⟩
  rw [VN,VN];split
  ·rfl
  rw [ih g (m / 10) oM oM]
 rw [XY,VN,Tc oM,XY,key n (n / 10+1) (n / 10) oM oM]
theorem Zru {n:Nat} (h:n<10):XY 10 n=[Zbl n]:=by rw [XY,VN,Tg h]
theorem ZvA {d:Nat} (h:d<10):(48:Int)+(d:Int)=((Zbl d).toNat:Int):=by
 rw [Zbl,Tg h,UInt8.toNat_ofNat'];omega
theorem ZkF {d:Nat} (h:d<10):([[D.int IntKind.u8 ((48:Int)+(d:Int))]]:List (List D))=[Zbl d].map fun b=>[D.int IntKind.u8 b.toNat]:=by
 rw [ZvA h];rfl
theorem Zrv {u:Nat} (h:u<9223372036854775808):(XY 10 u).length<=20:=by
 have:=Zkz (n:=(u:Int)) oM oM;rw [Zdt,Tc oM,Tu] at this;exact this
noncomputable def ZxY (k:Nat):Tbl:=[(241,spB ZwE k)]
theorem ZxZ {k:Nat} (ht:TO w0 nG (ZxY k)):PC w0 nG 241 (ZwE k):=by
 refine Zd Zb mixed (tbl:=ZxY k) ht Tryz.func241 rfl kR kR ?_;intro args σ K h
 unfold ZwE at h
 split at h
 ·obtain ⟨u,rfl,⟨hu,hk,cj⟩,h⟩:=h;refine ⟨Za [],0,true,sM,Ta rfl,wN ?_⟩;refine ZBC (fun hc=>wN ?_) (fun hc=>wN ?_)
  ·have hc:u<10:=by omega
   rw [Zru hc] at h;refine Or.inl ⟨InR.u8 oM oM,wN ?_⟩;refine Or.inl ⟨InR.u8 oM oM,wN ?_⟩;refine ⟨[Zbl u],ZkF hc,wN ?_⟩;exact h
  have e1:(u:Int).tdiv 10=((u / 10:Nat):Int):=rfl;have e2:(u:Int).tmod 10=((u % 10:Nat):Int):=rfl;rw [Zrt oM] at h;refine ⟨dM,?_⟩;rw [e1];refine Or.inl ⟨InR.i64 oM oM,wN ?_⟩;refine ⟨dM,?_⟩;rw [e2];(conv=>whnf);refine Or.inl ⟨InR.u8 oM oM,wN ?_⟩;refine Or.inl ⟨InR.u8 oM oM,wN ?_⟩;refine ⟨[Zbl (u % 10)],ZkF oM,wN ?_⟩;have hk0:0<k:=by
   cases k with
   | zero=>simp at hk;omega
   | succ k=>omega
  have ir:u / 10<10 ^ (k - 1+1):=by
   rw [show k - 1+1=k by omega];rw [Nat.pow_succ] at hk;exact Nat.div_lt_of_lt_mul (by rw [SD];exact hk)
  have hl:=Zrv (u:=u / 10) oM;refine ⟨hk0,u / 10,rfl,⟨oM,ir,oM⟩,wN ?_⟩;refine ⟨show (XY 10 (u / 10)).length+1<2 ^ 62 by omega,wN ?_⟩;exact h
 exact h.elim
theorem cNb:∀k,PC w0 nG 241 (ZwE k)
 | 0=>ZxZ ⟨ZK (Zn Tryz.func241 kR rfl),trivial⟩
 | k+1=>ZxZ ⟨ZL (sp:=ZwE) (cNb k),trivial⟩
def Zqo (m j U:Nat):Bs:=(List.range j).map fun k=>Zbl (U / 16 ^ (m - k) % 16)
theorem ZdY (m j U:Nat):Zqo m (j+1) U=Zqo m j U++[Zbl (U / 16 ^ (m - j) % 16)]:=by
 unfold Zqo;rw [List.range_succ,SG];rfl
theorem ZkG:∀(m U:Nat),(m≠0->16 ^ m<=U)->U<16 ^ (m+1)->XY 16 U=Zqo m (m+1) U
 | 0,U,_,h=>by
  have h:U<16:=by simpa using h
  rw [ZkC h,ZdY];simp only [Zqo,List.range_zero,TQ,T3,Nat.sub_self,Nat.pow_zero,Nat.div_one];rw [Nat.mod_eq_of_lt h]
 | m+1,U,h1,h2=>by
  have h1:=h1 oM;have h16:16<=U:=TW (by rw [Nat.pow_succ];have:=Nat.pow_pos (n:=m) (show 0<16 by decide);omega) h1;rw [Nat.pow_succ] at h1 h2;have ih:=ZkG m (U / 16) (fun _=>by rw [Nat.le_div_iff_mul_le dM];exact h1) (Nat.div_lt_of_lt_mul (by rw [SD];exact h2));rw [ZkB h16,ih,ZdY (m+1) (m+1) U,Nat.sub_self,Nat.pow_zero,Nat.div_one]
  congr 1
  unfold Zqo
  refine Su fun k hk=>?_
  have hk:=List.mem_range.1 hk;rw [Nat.div_div_eq_div_mul,show m+1 - k=(m - k)+1 by omega,Nat.pow_succ,SD]
theorem Zz0:∀d:Fin 16,([48,49,50,51,52,53,54,55,56,57,97,98,99,100,101,102]:Bs).getD d.val 0=Zbl d.val:=by decide +kernel
theorem ZvB (U j:Nat) (hj:j<=15):(U:Int).fdiv (2 ^ (min (Int.toNat (60 - 4 * (j:Int))) (IntKind.bits .u64)))=((U / 16 ^ (15 - j):Nat):Int):=by
 rw [show (Int.toNat (60 - 4 * (j:Int)))=4 * (15 - j) by omega,show IntKind.bits .u64=64 from rfl,Nat.min_eq_left oM,show (16:Nat) ^ (15 - j)=2 ^ (4 * (15 - j)) by rw [Nat.pow_mul]];generalize 4 * (15 - j)=m;rw [Sr _ (Int.le_of_lt (Int.pow_pos dM))]
 push_cast
 rfl
noncomputable def Zi4:Zt:=fun args σ K=>match args,σ with
 | [.d (.int .i64 n)],⟨[],[],0⟩=>(-9223372036854775808<=n/\n<9223372036854775808)/\K (.ret (.d (.str (Zdt n)))) ⟨[],[],0⟩
 | _,_=>False
noncomputable def Zrw:Tbl:=[(241,ZwE 20)]
theorem ZkH:PC w0 nG 201 Zi4:=by
 refine Zd Zb mixed (tbl:=Zrw) ⟨cNb 20,trivial⟩ Tryz.func201 rfl kR kR ?_;intro args σ K h
 unfold Zi4 at h
 split at h
 ·rename_i n
  obtain ⟨⟨h0,h1⟩,h⟩:=h
  by_cases hn:0<=n
  ·obtain ⟨u,rfl⟩:∃u:Nat,n=u:=⟨n.toNat,oM⟩
   rw [Zdt,Tc oM,Tu] at h;refine ⟨Za [],0,true,sM,Ta rfl,wN ?_⟩;refine ⟨u,rfl,⟨oM,TH (show u<9223372036854775808 by omega) dM,dM⟩,wN ?_⟩;exact h
  obtain ⟨U,hU⟩:∃U:Nat,IntKind.u64.wrap n=(U:Int):=⟨(IntKind.u64.wrap n).toNat,by have:=(ZcJ (n:=n) oM h0).1;omega⟩
  have hT:=ZcJ (n:=n) oM h0;rw [hU,Tu] at hT;obtain ⟨_,hU2,hT⟩:=hT;have hU3:9223372036854775808<=U:=by
   have e:IntKind.u64.wrap n=n+18446744073709551616:=by
    unfold IntKind.wrap
    simp [IntKind.signed,IntKind.bits];omega
   omega
  rw [hT,ZkG 15 U (fun _=>TW dM hU3) (TH (show U<18446744073709551616 by omega) dM)] at h;refine ⟨Za [(5,⟨[3,4],[0],fun vs σ=>∃j:Nat,vs=[.d (.str ([48,120]++Zqo 15 j U)),.d (.int .i64 (60 - 4 * (j:Int)))]/\σ=⟨[],[],0⟩/\j<=16,fun vs _=>match vs with | [_,.d (.int _ i)]=>(i+4).toNat | _=>0⟩)],0,true,sM,Ta rfl,wN ?_⟩;have o7:¬(n>=0):=hn;refine ZBC (fun g=>absurd g oM) (fun _=>wN ?_);refine ⟨⟨0,rfl,rfl,dM⟩,?_⟩;intro vs σ hI
  obtain ⟨j,rfl,rfl,hj⟩:=hI;(conv=>whnf);refine ZBC (fun hc=>wN ?_) (fun hc=>?_)
  ·have gh:j<16:=by omega
   refine Or.inr ?_;rw [hU];(conv=>whnf);refine ⟨oM,?_⟩;have e:(U:Int).fdiv (2 ^ (min (Int.toNat (60 - 4 * (j:Int))) (IntKind.bits .u64)))=((U / 16 ^ (15 - j):Nat):Int):=ZvB U j oM;rw [e];have hV:=ZkD (u:=U) oM (15 - j);obtain ⟨V,hVV⟩:∃V,U / 16 ^ (15 - j)=V:=⟨_,rfl⟩
   rw [hVV] at hV |-;have ha:=Zrl hV;(conv=>whnf);refine ⟨(show 0<=Zm .and .u64 (V:Int) 15 by rw [ha];omega),(show Zm .and .u64 (V:Int) 15<16 by rw [ha];omega),wN ?_⟩;have hd:([48,49,50,51,52,53,54,55,56,57,97,98,99,100,101,102]:Bs).getD (Zm .and .u64 (V:Int) 15).toNat 0=Zbl (V % 16):=by
    rw [ha,Tu];exact Zz0 ⟨V % 16,Nat.mod_lt _ dM⟩
   refine ⟨[Zbl (V % 16)],(show [[D.int IntKind.u8 ((([48,49,50,51,52,53,54,55,56,57,97,98,99,100,101,102]:Bs).getD (Zm .and .u64 (V:Int) 15).toNat 0).toNat:Int)]]=_ by rw [hd];rfl),wN ?_⟩;have hl:(Zqo 15 j U).length=j:=by unfold Zqo;rw [Te,List.length_range]
   refine ⟨show ([48,120]++Zqo 15 j U).length+1<2 ^ 62 by simp only [Tb,Td,Tf];omega,wN ?_⟩;refine Or.inl ⟨InR.i64 oM oM,wN ?_⟩;have e2:(60:Int) - 4 * (j:Int) - 4=60 - 4 * ((j+1:Nat):Int):=oM;refine ⟨⟨j+1,?_,rfl,oM⟩,?_⟩
   ·rw [ZdY,hVV,<- e2,<- Th]
   show (60 - 4 * (j:Int) - 4+4).toNat<(60 - 4 * (j:Int)+4).toNat;omega
  obtain rfl:j=16:=by omega
  exact m103
 exact h.elim
abbrev Fit {α:Type} (sz:α->Nat) (P:Ts->R α):Prop:=∀ts v ts',P ts=.ok v ts'->sz v+4 * ts'.length<=4 * ts.length
theorem JZ {ts:Ts} {ws:List Bs} (h:isW ts ws=true):ts.tail.length+1=ts.length:=by obtain ⟨t,l,rfl⟩:=ZtC h;rfl
theorem Zx0 {ts:Ts} (h:Zq ts=true):ts.tail.length+1=ts.length:=by
 cases ts with
 | nil=>exact absurd rfl (Za5 h)
 | cons t l=>rfl
theorem Zrx (ts:Ts):ts.tail.length<=ts.length:=by rw [List.length_tail];omega
theorem Xc {w:Bs} {ts ts':Ts} {u:Unit} (h:ZT w ts=.ok u ts'):ts'.length+1=ts.length:=by
 unfold ZT at h
 split at h
 ·rename_i hc;cases h;exact JZ hc
 cases h
theorem YI {ts ts':Ts} {v:Bs} (h:Z2 ts=.ok v ts'):ts'.length+1=ts.length:=by
 unfold Z2 at h
 split at h
 ·rename_i hc;cases h;exact Zx0 hc
 cases h
theorem XV {α:Type} {d:Nat} {fr tw:Bs} {read:Ts->R α} {ts ts':Ts} {v:α} (h:Zu d fr tw read ts=.ok v ts'):∃t1,read ts.tail=.ok v t1/\ts.tail.length+1=ts.length/\ts'.length<=t1.length:=by
 unfold Zu at h
 split at h
 ·rename_i hc
  split at h
  ·cases h
  obtain ⟨a,t1,h1,h2⟩:=ZBG h;split at h2
  ·cases h2;exact ⟨_,h1,JZ hc,Tr _⟩
  obtain ⟨u,t2,h3,h4⟩:=ZBG h2
  cases h4
  have:=Xc h3;exact ⟨_,h1,JZ hc,oM⟩
 cases h
theorem Wl {α:Type} (f:α->Nat) (x:α):∀l:List α,szS f (l++[x])=szS f l+(1+f x)
 | []=>by simp only [T3,szS];omega
 | y::l=>by simp only [SF,szS,Wl f x l];omega
theorem Zfh {α:Type} {sz:α->Nat} {sign:Bs} {most:Nat} {st:Ts->Bool} {one:Ts->R α} (h1:Fit (fun x=>1+sz x) one):∀f l ts v ts',Xl sign most st one f l ts=.ok v ts'->szS sz v+4 * ts'.length<=szS sz l+4 * ts.length
 | 0,_,_,_,_,h=>by cases h
 | f+1,l,ts,v,ts',h=>by
  rw [Xl] at h;split at h
  ·cases h
  obtain ⟨x,t1,h2,h3⟩:=ZBG h;have k:=h1 _ _ _ h2;dsimp only at k;split at h3
  ·rename_i hc
   have k2:=Zfh h1 f _ _ _ _ h3;have k3:=JZ hc;rw [Wl] at k2;omega
  cases h3
  rw [Wl];omega
theorem Jw {α:Type} {sz:α->Nat} {sign:Bs} {most:Nat} {st:Ts->Bool} {one:Ts->R α} (h1:Fit (fun x=>1+sz x) one):Fit (szS sz) (YM sign most st one):=fun ts v ts' h=>by
 have:=Zfh h1 _ _ _ _ _ h;simpa [szS] using this
theorem ZhL:Fit (fun x=>1+sz0 (α:=Fi) x) YP:=fun ts v ts' h=>by
 obtain ⟨a,t1,h1,h⟩:=ZBG h;obtain ⟨_,t2,h2,h⟩:=ZBG h;obtain ⟨b,t3,h3,h⟩:=ZBG h
 cases h
 have:=YI h1;have:=Xc h2;have:=YI h3;simp only [sz0];omega
theorem Zpg:Fit (fun x=>1+sz0 (α:=Bs) x) Z2:=fun ts v ts' h=>by
 have:=YI h;simp only [sz0];omega
theorem ZbW (fin:Bs):Fit (szS sz0) (Yu fin):=fun ts v ts' h=>by
 unfold Yu at h
 split at h
 ·cases h;simp [szS]
 exact Jw ZhL _ _ _ h
theorem ZdZ:Fit (szS sz0) Y6:=fun ts v ts' h=>by
 unfold Y6 at h
 split at h
 ·rename_i hc
  obtain ⟨a,t1,h1,h⟩:=ZBG h;obtain ⟨_,t2,h2,h⟩:=ZBG h
  cases h
  have:=Jw Zpg _ _ _ h1;have:=Xc h2;have:=JZ hc;omega
 cases h;simp [szS]
theorem ZkI:Fit (fun x=>1+Zkv x) Wo:=fun ts v ts' h=>by
 obtain ⟨a,t1,h1,h⟩:=ZBG h;obtain ⟨_,t2,h2,h⟩:=ZBG h;obtain ⟨b,t3,h3,h⟩:=ZBG h;obtain ⟨_,t4,h4,h⟩:=ZBG h
 cases h
 have:=YI h1;have:=Xc h2;have:=ZbW _ _ _ _ h3;have:=Xc h4;simp only [Zkv];omega
theorem Zd0:Fit (fun x=>1+Zkw x) UQ:=fun ts v ts' h=>by
 obtain ⟨a,t1,h1,h⟩:=ZBG h;have:=YI h1;split at h
 ·rename_i hc
  obtain ⟨b,t3,h3,h⟩:=ZBG h
  cases h
  have:=YI h3;have:=JZ hc;simp only [Zkw,szS];omega
 obtain ⟨_,t2,h2,h⟩:=ZBG h;have:=Xc h2;split at h
 ·rename_i hc
  obtain ⟨b,t3,h3,h⟩:=ZBG h;obtain ⟨_,t4,h4,h⟩:=ZBG h
  cases h
  have:=ZbW _ _ _ _ h3;have:=Xc h4;have:=JZ hc;simp only [Zkw,szS];omega
 obtain ⟨b,t3,h3,h⟩:=ZBG h
 cases h
 have:=Jw ZkI _ _ _ h3;simp only [Zkw,szS];omega
theorem Zbf:∀(f:Nat) (i o n:Bool) (ts:Ts),(YS f i o n ts).2.length<=ts.length
 | 0,i,o,n,ts=>Tr _
 | f+1,i,o,n,ts=>by
  rw [YS];have:=Zrx ts;split
  ·exact TW (Zbf f _ _ _ _) this
  split
  ·exact TW (Zbf f _ _ _ _) this
  split
  ·exact TW (Zbf f _ _ _ _) this
  exact Tr _
theorem Zf8:Fit (fun x=>1+Zkx x) ZcT:=fun ts v ts' h=>by
 obtain ⟨a,t1,h1,h⟩:=ZBG h;obtain ⟨_,t2,h2,h⟩:=ZBG h;obtain ⟨b,t3,h3,h⟩:=ZBG h;obtain ⟨_,t4,h4,h⟩:=ZBG h;have:=YI h1;have:=Xc h2;have:=ZbW _ _ _ _ h3;have:=Xc h4;have:=Zbf 4 false false false t4
 cases h
 simp only [Zkx];omega
abbrev ZhM (P:Ts->R Ex):Prop:=Fit (fun v=>szE v+2) P
theorem ZvC {P:Ts->R Ex} (h:ZhM P):Fit (fun v=>1+szE v) P:=fun ts v ts' e=>by have:=h _ _ _ e;dsimp only at this |-;omega
theorem ZcK {d:Nat} {ex:Ts->R Ex} (h:ZhM ex) (fr tw:Bs) {ts ts':Ts} {v:List Ex} (e:XX d ex fr tw ts=.ok v ts'):szS szE v+4+4 * ts'.length<=4 * ts.length:=by
 unfold XX at e
 obtain ⟨t1,h1,h2,h3⟩:=XV e;split at h1
 ·cases h1;simp only [szS];omega
 have:=Jw (ZvC h) _ _ _ h1;omega
theorem Zfi {ex:Ts->R Ex} (h:ZhM ex):∀k l ts v ts',XZ ex k l ts=.ok v ts'->szS szE v+4 * ts'.length<=szS szE l+4 * ts.length
 | 0,l,ts,v,ts',e=>by cases e;exact Tr _
 | k+1,l,ts,v,ts',e=>by
  obtain ⟨_,t1,h1,e⟩:=ZBG e;obtain ⟨x,t2,h2,e⟩:=ZBG e;have k2:=Zfi h k _ _ _ _ e;have k1:=h _ _ _ h2;dsimp only at k1;rw [Wl] at k2;have:t1.length<=ts.length:=by
   split at h1
   ·cases h1;exact Tr _
   have:=Xc h1;omega
  omega
theorem Zl1 {ts:Ts} (h:¬ZA ts=false):ts.tail.length+1=ts.length:=by
 cases ts with
 | nil=>exact absurd rfl h
 | cons t l=>rfl
theorem UJ (o:Nat) (t:Bs) (n:Int) (l:List Ex) (a:Nat):szE (.mk o t n l a)=1+szS szE l:=by rw [szE,Wf]
theorem Zi5 {d:Nat} {ex:Ts->R Ex} (h:ZhM ex):ZhM (YA d ex):=fun ts v ts' e=>by
 unfold YA at e
 split at e
 ·cases e
 rename_i hs
 have hl:=Zl1 hs;split at e
 ·exact m175
 split at e
 ·exact m175
 split at e
 ·obtain ⟨t1,h1,h2,h3⟩:=XV e;have:=h _ _ _ h1;dsimp only at this |-;omega
 split at e
 ·obtain ⟨l,t1,h1,e⟩:=ZBG e
  cases e
  have:=ZcK h _ _ h1;simp only [UJ];omega
 split at e
 ·obtain ⟨l,t1,h1,e⟩:=ZBG e;have:=YI h1;split at e
  ·obtain ⟨l,t2,h2,e⟩:=ZBG e
   cases e
   have:=ZcK h _ _ h2;simp only [UJ];omega
  exact m175
 split at e
 ·obtain ⟨l,t1,h1,e⟩:=ZBG e;obtain ⟨t2,h2,h3,h4⟩:=XV h1
  cases e
  have:=Zfi h _ _ _ _ _ h2;simp only [UJ,szS] at *;omega
 split at e
 ·exact m175
 split at e
 ·exact m175
 exact m175
theorem ZvD {ts:Ts} (h:¬(Wn ts).1=0):ts.tail.length+1=ts.length:=by
 obtain ⟨t,l,rfl⟩:=ZtD h;rfl
theorem Zfj {sub:Nat->Ts->R Ex} (h:∀n,ZhM (sub n)) (least:Nat):∀f e ts v ts',WQ sub least f e ts=.ok v ts'->szE v+4 * ts'.length<=szE e+4 * ts.length
 | 0,_,_,_,_,k=>by cases k
 | f+1,e,ts,v,ts',k=>by
  rw [WQ] at k;split at k
  ·cases k;exact Tr _
  rename_i hc
  obtain ⟨g,t1,h1,k⟩:=ZBG k;have k1:=h _ _ _ _ h1;have k2:=Zfj h least f _ _ _ _ k;have k3:=ZvD (fun e=>hc (.inr e));simp only [UJ,szS] at k2;dsimp only at k1;omega
theorem U9 {sg:Ts->R Ex} (h:ZhM sg):∀k least,ZhM (WU sg k least)
 | 0,least=>h
 | k+1,least=>fun ts v ts' e=>by
  obtain ⟨a,t1,h1,e⟩:=ZBG e;have k1:=h _ _ _ h1;have k2:=Zfj (fun n=>U9 h k n) _ _ _ _ _ _ e;dsimp only at k1 |-;omega
theorem Zd1 {d:Nat} {sg:Ts->R Ex} (h:ZhM sg):ZhM (VL d sg):=fun ts v ts' e=>by
 unfold VL at e
 split at e
 ·exact m155
 split at e
 ·exact m155
 exact Zi5 (U9 h 6 1) _ _ _ e
theorem Ud:∀d,ZhM (Zv d)
 | 0=>Zd1 fun _ _ _ e=>by cases e
 | d+1=>Zd1 (Ud d)
theorem ZcL (d:Nat):ZhM (Ya d):=U9 (Ud d) 6 1
theorem ZhN:∀d,ZhM (Yp d)
 | 0=>fun _ _ _ e=>by cases e
 | d+1=>ZcL d
theorem Zi6 {ts:Ts}:∀(ws:List Bs) (i j:Nat),Ui ts i ws=some j->ts.tail.length+1=ts.length
 | [],i,j,h=>by cases h
 | w::ws,i,j,h=>by
  rw [Ui] at h;split at h
  ·rename_i hc;exact JZ hc
  exact Zi6 ws _ _ h
theorem Zph {ts ts':Ts} {op:Nat} (h:ZaA ts=.ok op ts'):ts'.length+1<=ts.length:=by
 unfold ZaA at h
 split at h
 ·cases h
 ·rename_i h1
  have:=Zi6 _ _ _ h1;split at h
  ·cases h
   have:=Zrx ts.tail;omega
  cases h;omega
 rename_i h1
 have:=Zi6 _ _ _ h1
 cases h;omega
theorem Zpi (o:Nat) (t:Bs) (l:List Ex) (b:List Li) (a:Nat):szL (.mk o t l b a)=1+szS szE l+szS szL b:=by rw [szL,XR]
theorem Zd2 {d op a:Nat} {ts ts':Ts} {v:Li} (h:UR d op a ts=.ok v ts'):1+szL v+4 * ts'.length<=4 * ts.length:=by
 obtain ⟨nm,t1,h1,h⟩:=ZBG h;obtain ⟨l,t2,h2,h⟩:=ZBG h
 cases h
 have:=YI h1;have:=ZcK (ZhN d) _ _ h2;simp only [Zpi,szS];omega
theorem Zfk {d:Nat} {bd:Ts->R (List Li)} (hb:Fit (szS szL) bd) {a op:Nat} {l:List Ex} {ts ts':Ts} {v:Li} (h:XF d bd a op l ts=.ok v ts'):szL v+4 * ts'.length<=1+szS szE l+4 * ts.length:=by
 unfold XF at h
 split at h
 ·obtain ⟨_,t1,h1,h⟩:=ZBG h;obtain ⟨b,t2,h2,h⟩:=ZBG h;obtain ⟨t3,h3,h4,h5⟩:=XV h2
  cases h
  have:=Xc h1;have:=hb _ _ _ h3;simp only [Zpi];omega
 cases h;simp only [Zpi,szS];omega
theorem Zi7 {d:Nat} {bd:Ts->R (List Li)} (hb:Fit (szS szL) bd):Fit (fun v=>1+szL v) (ZaB d bd):=fun ts v ts' h=>by
 unfold ZaB at h
 split at h
 ·rename_i hc
  have:=JZ hc;have:=Zd2 h;dsimp only;omega
 split at h
 ·exact Zd2 h
 obtain ⟨e,t1,h1,h⟩:=ZBG h;obtain ⟨op,t2,h2,h⟩:=ZBG h;have k1:=ZcL _ _ _ _ h1;have k2:=Zph h2;split at h
 ·have k3:=Zfk hb h;simp only [szS] at k3 |-;dsimp only at k1;omega
 obtain ⟨g,t3,h3,h⟩:=ZBG h;have k3:=ZcL _ _ _ _ h3;have k4:=Zfk hb h;simp only [szS] at k4 |-;dsimp only at k1 k3;omega
theorem Zf9:∀d,Fit (szS szL) (VU d)
 | 0=>Jw (Zi7 fun _ _ _ e=>by cases e)
 | d+1=>Jw (Zi7 (Zf9 d))
theorem Zga (d:Nat) (b:Bool):Fit (fun v=>1+ZiY v) (ZcU d b):=fun ts v ts' h=>by
 obtain ⟨nm,t1,h1,h⟩:=ZBG h;obtain ⟨l,t2,h2,h⟩:=ZBG h;have:=YI h1;have:=ZcK (ZhN d) _ _ h2;split at h
 ·obtain ⟨b,t3,h3,h⟩:=ZBG h;obtain ⟨_,t4,h4,h⟩:=ZBG h
  cases h
  have:=Zf9 _ _ _ _ h3;have:=Xc h4;have:=Zrx t2;simp only [ZiY];omega
 obtain ⟨_,t4,h4,h⟩:=ZBG h
 cases h
 have:=Xc h4;simp only [ZiY,szS];omega
theorem Zpj (n:Bs) (p:List Bs) (b:Bs) (t:List Bs) (u:Un) (a:Nat):ZgC (.mk n p b t u a)=1+szS sz0 p+szS sz0 t+Zfe u:=by rw [ZgC]
theorem Zaq (a1 a2 a3 a4 a5 a6):Zfe (.mk a1 a2 a3 a4 a5 a6)=1+szS Zkw a1+szS Zkx a2+szS ZiY a3+szS ZgC a4+szS Zoi a5+szS sz0 a6:=by rw [Zfe,Xa]
abbrev Zy1 (P:Ts->R Un):Prop:=∀ts v ts',P ts=.ok v ts'->Zfe v+4 * ts'.length<=1+4 * ts.length
theorem Zgb {d:Nat} {un:Ts->R Un} (hu:Zy1 un):Fit (fun v=>1+ZgC v) (ZcV d un):=fun ts v ts' h=>by
 obtain ⟨nm,t1,h1,h⟩:=ZBG h;obtain ⟨ps,t2,h2,h⟩:=ZBG h;have:=YI h1;have:=ZdZ _ _ _ h2;split at h
 ·rename_i hc
  obtain ⟨b,t3,h3,h⟩:=ZBG h;obtain ⟨tys,t4,h4,h⟩:=ZBG h;obtain ⟨u,t5,h5,h⟩:=ZBG h;obtain ⟨t6,h6,h7,h8⟩:=XV h5
  cases h
  have:=YI h3;have:=ZdZ _ _ _ h4;have:=hu _ _ _ h6;have:=JZ hc;simp only [Zpj];omega
 obtain ⟨u,t5,h5,h⟩:=ZBG h;obtain ⟨t6,h6,h7,h8⟩:=XV h5
 cases h
 have:=hu _ _ _ h6;simp only [Zpj,szS];omega
theorem Zgc:Fit (fun v=>1+Zoi v) ZcW:=fun ts v ts' h=>by
 obtain ⟨nm,t1,h1,h⟩:=ZBG h;obtain ⟨_,t2,h2,h⟩:=ZBG h;obtain ⟨c,t3,h3,h⟩:=ZBG h;obtain ⟨tys,t4,h4,h⟩:=ZBG h
 cases h
 have:=YI h1;have:=Xc h2;have:=YI h3;have:=ZdZ _ _ _ h4;simp only [Zoi];omega
theorem Zgd:Fit (fun v=>1+sz0 (α:=Ov) v) Zee:=fun ts v ts' h=>by
 obtain ⟨nm,t1,h1,h⟩:=ZBG h
 cases h
 have:=YI h1;simp only [sz0];omega
theorem XW {b:Bool} {d:Nat} {un:Ts->R Un} (hu:Zy1 un):∀f u ts v ts',X0 b d un f u ts=.ok v ts'->Zfe v+4 * ts'.length<=Zfe u+4 * ts.length
 | 0,u,ts,v,ts',h=>by obtain ⟨a1,a2,a3,a4,a5,a6⟩:=u;cases h
 | f+1,.mk tys rels rules comps inits overs,ts,v,ts',h=>by
  rw [U6] at h;split at h
  ·cases h;exact Tr _
  have ht:=Zrx ts;split at h
  ·split at h
   ·cases h
   obtain ⟨x,t1,h1,h⟩:=ZBG h;have k1:=Zd0 _ _ _ h1;have k2:=XW hu f _ _ _ _ h;exact m100
  split at h
  ·split at h
   ·cases h
   obtain ⟨x,t1,h1,h⟩:=ZBG h;have k1:=Zf8 _ _ _ h1;have k2:=XW hu f _ _ _ _ h;exact m100
  split at h
  ·split at h
   ·cases h
   obtain ⟨x,t1,h1,h⟩:=ZBG h;have k1:=Zgb hu _ _ _ h1;have k2:=XW hu f _ _ _ _ h;exact m100
  split at h
  ·split at h
   ·cases h
   obtain ⟨x,t1,h1,h⟩:=ZBG h;have k1:=Zgc _ _ _ h1;have k2:=XW hu f _ _ _ _ h;exact m100
  split at h
  ·split at h
   ·cases h
   obtain ⟨x,t1,h1,h⟩:=ZBG h;have k1:=Zgd _ _ _ h1;have k2:=XW hu f _ _ _ _ h;exact m100
  split at h
  ·split at h
   ·cases h
   obtain ⟨x,t1,h1,h⟩:=ZBG h;have k1:=Zga _ _ _ _ _ h1;have k2:=XW hu f _ _ _ _ h;exact m100
  cases h
theorem ZkJ:Zfe .nil=1:=by rw [Un.nil,Zaq];rfl
theorem ZhO:∀d,Zy1 (Zld d)
 | 0=>fun ts v ts' h=>by have:=XW (b:=true) (d:=0) (un:=fun _=>.err 0 150) (fun _ _ _ e=>by cases e) _ _ _ _ _ h;rw [ZkJ] at this;exact this
 | d+1=>fun ts v ts' h=>by have:=XW (ZhO d) _ _ _ _ _ h;rw [ZkJ] at this;exact this
def kl (e:Ex):Nat:=(exK e).length
theorem ZkK (w:Nat) (e:Ex):(Zub w e).length=kl e+if ZI (opE e)<w then 2 else 0:=by
 unfold Zub Zw5 kl
 dsimp only;split <;> simp
theorem ZvE {w v:Nat} (h:w<=v) (e:Ex):(Zub w e).length<=(Zub v e).length:=by
 rw [ZkK,ZkK];split <;> split <;> omega
abbrev Mn (w:Nat) (P:Ts->R Ex):Prop:=∀ts v r,P ts=.ok v r->(Zub w v).length+r.length<=ts.length
theorem Mn.mono {w v:Nat} (h:w<=v) {P:Ts->R Ex} (hp:Mn v P):Mn w P:=fun ts x r e=>TW (Nat.add_le_add_right (ZvE h x) _) (hp ts x r e)
noncomputable def ZvF (n:Nat):Zt:=fun args σ K=>match args,σ with
 | [.agg c],⟨[],[],0⟩=>∃pl e,c=(YE pl e).map .d/\((ZV e=true/\JV e=true)/\wE e<=n/\n<=16777216)/\∀t,exT e=t->K (.ret (.d (.str t))) ⟨[],[],0⟩
 | _,_=>False
noncomputable def ZvG (n:Nat):Zt:=fun args σ K=>match args,σ with
 | [.d (.sl r)],⟨[],[],0⟩=>∃pl l,r=Z0 pl l/\((∀x∈l,ZV x=true/\JV x=true)/\szS wE l<=n/\n<=16777216)/\∀t,Zh cmm (l.map exT)=t->K (.ret (.d (.str t))) ⟨[],[],0⟩
 | _,_=>False
noncomputable def Zx1 (n:Nat):Zt:=fun args σ K=>match args,σ with
 | [.agg c,.d (.int .i64 w)],⟨[],[],0⟩=>∃pl e,∃want:Nat,c=(YE pl e).map .d/\w=(want:Int)/\((ZV e=true/\JV e=true)/\wE e<=n/\n<=16777216)/\∀t,exW want e=t->K (.ret (.d (.str t))) ⟨[],[],0⟩
 | _,_=>False
theorem Zge {α:Type} (f:α->Nat):∀(l:List α) (i:Nat),szS f (l.take i)<=szS f l
 | [],i=>by simp [szS]
 | x::l,0=>by simp [szS]
 | x::l,i+1=>by have:=Zge f l i;simp only [List.take_succ_cons,szS];omega
noncomputable def Zx2 (n:Nat):Tbl:=[(138,ZvF n)]
theorem Zpk {n:Nat} (ht:TO w0 nG (Zx2 n)):PC w0 nG 76 (ZvG n):=by
 refine Zd Zb mixed (tbl:=Zx2 n) ht Tryz.func76 rfl kR kR ?_;intro args σ K h
 unfold ZvG at h
 split at h
 ·obtain ⟨pl,l,rfl,⟨hm,hz,hn⟩,h⟩:=h;have ab:(Z0 pl l).length=l.length:=by rw [Ze,Te]
  have hsz:=Zp wE l;refine ⟨Za [(3,⟨[3,4],[0],fun vs σ=>∃i:Nat,vs=[.d (.str (Zh cmm ((l.take i).map exT))),.d (.int .i64 i)]/\σ=⟨[],[],0⟩/\i<=l.length,mu2 l.length⟩)],0,true,sM,Ta rfl,wN ?_⟩;refine ⟨⟨0,(by simp only [T2,TQ,Zh];rfl),rfl,oM⟩,?_⟩;intro vs σ hI
  obtain ⟨i,rfl,rfl,hi⟩:=hI;(conv=>whnf);refine ZBC (fun aa=>?_) (fun aa=>?_)
  ·have aa:i<l.length:=lzI ab aa;have hg:=Zs wE l i aa;have fq:=hm _ (TD aa);have ao:=Xo cmm exT aa;have ak:=ZC (T:=exT) (w:=wE) (l:=l.take i) fun x hx=>Yh x (hm x (List.mem_of_mem_take hx)).2
   have ma:=Yh _ fq.2;have sk:szS wE (l.take i)<=szS wE l:=Zge wE l i;obtain ⟨S,hS⟩:∃S,Zh cmm ((l.take i).map exT)=S:=⟨_,rfl⟩
   rw [hS] at ak ao |-;obtain ⟨eA,hA⟩:∃x,l[i]=x:=⟨_,rfl⟩
   obtain ⟨a1,a2,a3,a4,a5⟩:=eA;rw [hA] at hg fq ao ma;obtain ⟨X,hX⟩:∃X,exT (.mk a1 a2 a3 a4 a5)=X:=⟨_,rfl⟩
   rw [hX] at ao ma;have ae:(Z0 pl l)[((i:Nat):Int).toNat]?=some (YE pl (.mk a1 a2 a3 a4 a5)):=by rw [Ze];simp [aa,hA]
   exact m30
  have aa:i=l.length:=lzE ab oM aa;subst aa;rw [TJ];(conv=>whnf);exact h _ rfl
 exact h.elim
noncomputable def Zx3 (n:Nat):Tbl:=[(198,JT fun op=>.int .i64 (JU op:Nat)),(138,ZvF n)]
theorem ZvH {n:Nat} (ht:TO w0 nG (Zx3 n)):PC w0 nG 199 (Zx1 n):=by
 refine Zd Zb mixed (tbl:=Zx3 n) ht Tryz.func199 rfl kR kR ?_;intro args σ K h
 unfold Zx1 at h
 split at h
 ·obtain ⟨pl,⟨op,tx,nn,xs,at'⟩,want,rfl,rfl,⟨hm,hz,hn⟩,h⟩:=h;have im:JU op=ZI op:=Ze4 (Znx hm.1).1;have hl:=Yh _ hm.2;have h:=h _ rfl;obtain ⟨X,hX⟩:∃X,exT (.mk op tx nn xs at')=X:=⟨_,rfl⟩
  rw [hX] at hl;have ew:ZI op<want->exW want (.mk op tx nn xs at')=[40]++(X++[41]):=fun g=>by rw [exW,hX,Zmp];exact Tg g
  have ki:¬ZI op<want->exW want (.mk op tx nn xs at')=X:=fun g=>by rw [exW,hX,Zmp];exact Tc g
  refine ⟨Za [],0,true,sM,Ta rfl,wN ?_⟩;refine ⟨op,rfl,fun d hd=>?_⟩;have hd:D.int .i64 (JU op:Nat)=d:=hd;obtain ⟨lf,hlf⟩:∃lf,ZI op=lf:=⟨_,rfl⟩
  rw [im,hlf] at hd;rw [hlf] at ew ki;subst hd;(conv=>whnf);refine ZBC (fun hc=>wN ?_) (fun hc=>wN ?_)
  ·rw [ew oM] at h;refine ⟨pl,.mk op tx nn xs at',rfl,⟨hm,hz,hn⟩,fun t ht=>?_⟩;obtain rfl:t=X:=ht.symm.trans hX;(conv=>whnf);refine ⟨show 1+t.length<2 ^ 62 by omega,wN ?_⟩;refine ⟨show ([40]++t).length+1<2 ^ 62 by rw [Tb];simp only [Td,Tf];omega,wN ?_⟩;rw [<- Th] at h;exact h
  rw [ki oM] at h;refine ⟨pl,.mk op tx nn xs at',rfl,⟨hm,hz,hn⟩,fun t ht=>?_⟩;obtain rfl:t=X:=ht.symm.trans hX;exact m103
 exact h.elim
theorem Ztf (o:Nat) (t:Bs) (n:Int) (l:List Ex) (a:Nat):wE (.mk o t n l a)=1+t.length+szS wE l:=by rw [wE,Vk]
theorem ZvI (w:Nat) (e:Ex):(exW w e).length<=(exT e).length+2:=by
 unfold exW Zmp
 split <;> simp
theorem ZcM {w:Nat} (e:Ex) (h:JV e=true):(exW w e).length<=64 * wE e:=by
 have:=ZvI w e;have:=Yh e h;omega
noncomputable def Zx4 (n:Nat):Tbl:=[(198,JT fun op=>.int .i64 (JU op:Nat)),(200,JT fun op=>.str (Yc op)),(199,spB Zx1 n),(76,spB ZvG n),(201,Zi4),(197,Vh)]
theorem Zpl {n:Nat} (ht:TO w0 nG (Zx4 n)):PC w0 nG 138 (ZvF n):=by
 refine Zd Zb mixed (tbl:=Zx4 n) ht Tryz.func138 rfl kR kR ?_;intro args σ K h
 unfold ZvF at h
 split at h
 ·obtain ⟨pl,⟨op,tx,nn,xs,at'⟩,rfl,⟨⟨hm,hr⟩,hz,hn⟩,h⟩:=h;obtain ⟨m1,m2,m3,m4,m5⟩:=Znx hm;obtain ⟨ae,bi⟩:=ZbH hr;have hl:=Yh _ hr;rw [Ztf] at hz;refine ⟨Za [],0,true,sM,Ta rfl,?_⟩
  by_cases c1:ZI op<5
  ·obtain ⟨f1,f2,f3,f4,f5⟩:=Zq1 m1;obtain ⟨x,y,rfl⟩:=Zhp (l:=xs) (by have:=f1 c1;omega);have hwl:=Xb op;obtain ⟨fq,jh⟩:ZV x=true/\JV x=true:=⟨m5 x sM,bi x sM⟩
   obtain ⟨z7,tq⟩:ZV y=true/\JV y=true:=⟨m5 y sM,bi y sM⟩
   simp only [szS] at hz;have gx:=ZcM (w:=ZI op) x jh;have xq:=ZcM (w:=ZI op+1) y tq;have hT:exT (.mk op tx nn [x,y] at')=exW (ZI op) x++(([32]++(Yc op++[32]))++exW (ZI op+1) y):=by
    rw [exT,exN,Tg c1];rfl
   have h:=h _ hT;have im:=Ze4 m1;obtain ⟨lf,hlf⟩:∃lf,ZI op=lf:=⟨_,rfl⟩
   obtain ⟨W,hW⟩:∃W,Yc op=W:=⟨_,rfl⟩
   rw [hlf] at c1 gx xq h im;rw [hW] at h hwl;obtain ⟨x1,x2,x3,x4,x5⟩:=x;obtain ⟨y1,y2,y3,y4,y5⟩:=y;(conv=>whnf);refine ⟨op,rfl,fun d hd=>?_⟩;have hd:D.int .i64 (JU op:Nat)=d:=hd;rw [im] at hd;subst hd;(conv=>whnf);refine ZBC (fun _=>?_) (fun g=>absurd (show (lf:Int)<5 by omega) g);(conv=>whnf);refine ⟨_,dM,rfl,wN ?_⟩;refine ⟨_,dM,rfl,wN ?_⟩;refine Or.inl ⟨InR.i64 oM oM,wN ?_⟩;refine ⟨oM,pl,.mk x1 x2 x3 x4 x5,lf,rfl,rfl,⟨⟨fq,jh⟩,oM,oM⟩,fun t1 fi=>wN ?_⟩;rw [fi] at h gx
   (repeat (refine ⟨rfl,?_⟩;conv=>whnf))
   refine ⟨show t1.length+1<2 ^ 62 by omega,wN ?_⟩;refine ⟨op,rfl,fun d hd=>?_⟩;have hd:D.str (Yc op)=d:=hd;rw [hW] at hd;subst hd;(conv=>whnf)
   (repeat (refine ⟨rfl,?_⟩;conv=>whnf))
   refine ⟨show (t1++[32]).length+W.length<2 ^ 62 by rw [Tb];simp only [Td,Tf];omega,wN ?_⟩;refine ⟨show ((t1++[32])++W).length+1<2 ^ 62 by rw [Tb,Tb];simp only [Td,Tf];omega,wN ?_⟩;refine ⟨oM,pl,.mk y1 y2 y3 y4 y5,lf+1,rfl,rfl,⟨⟨z7,tq⟩,oM,oM⟩,fun t2 i5=>wN ?_⟩;rw [i5] at h xq;have key:t1++(([32]++(W++[32]))++t2)=(((t1++[32])++W)++[32])++t2:=by simp only [Th]
   rw [key] at h
   (repeat (refine ⟨rfl,?_⟩;conv=>whnf))
   refine ⟨show (((t1++[32])++W)++[32]).length+t2.length<2 ^ 62 by simp only [Tb,Td,Tf];omega,wN ?_⟩;exact h
  rcases ZcG op with rfl | rfl | rfl | rfl | rfl | rfl | rfl | rfl | rfl | rfl | rfl | rfl | rfl | rfl | rfl | rfl | rfl | rfl | rfl | rfl | rfl | rfl | rfl | rfl | rfl | rfl | ho
  ·exact absurd m1 dM
  ·exact m120
  ·exact m120
  ·conv=>whnf
   refine ⟨_,rfl,fun d hd=>?_⟩;subst hd;(conv=>whnf);refine ⟨ae,wN ?_⟩;exact h _ (by rw [exT];rfl)
  ·have hq:(WC tx).isSome=true:=by unfold Z7 at m4;rw [Tc dM,Tg rfl] at m4;exact m4
   obtain ⟨q,hq⟩:=Option.isSome_iff_exists.1 hq;have hT:exT (.mk 4 tx nn xs at')=q:=by
    rw [exT];show ZqZ tx=q;rw [ZqZ,hq];rfl
   conv=>whnf
   refine ⟨_,rfl,fun d hd=>?_⟩;subst hd;(conv=>whnf);refine ⟨oM,fun g=>absurd (hq.symm.trans g) sM,fun q' l8=>?_⟩;obtain rfl:q'=q:=Option.some.inj (l8.symm.trans hq);(conv=>whnf);exact h _ hT
  ·exact m120
  ·conv=>whnf
   refine ⟨_,rfl,fun d hd=>?_⟩;subst hd;(conv=>whnf);refine ⟨oM,pl,xs,rfl,⟨fun x hx=>⟨m5 x hx,bi x hx⟩,oM,oM⟩,fun t ht=>wN ?_⟩;have gw:t.length<=64 * szS wE xs:=by rw [<- ht];exact ZC fun x hx=>Yh x (bi x hx)
   refine ⟨show 1+t.length<2 ^ 62 by omega,wN ?_⟩;refine ⟨show ([91]++t).length+1<2 ^ 62 by rw [Tb];simp only [Td,Tf];omega,wN ?_⟩;exact h _ (by rw [exT];show [91]++(Zh cmm ((Zej xs).map Prod.snd)++[93])=_;rw [Y9,Zhl,ht,<- Th])
  ·conv=>whnf
   refine ⟨_,rfl,fun d hd=>?_⟩;subst hd;(conv=>whnf);have ma:(Z0 pl xs).length=xs.length:=by rw [Ze,Te]
   refine ZBC (fun hc=>wN ?_) (fun hc=>wN ?_)
   ·have hc:xs.length=0:=by have hc:((Z0 pl xs).length:Int)=0:=hc;rw [ma] at hc;omega
    refine ⟨show 1+tx.length<2 ^ 62 by omega,wN ?_⟩;exact h _ (by rw [exT];show [36]++(tx++(if (Zej xs).length=0 then [] else _))=_;rw [Js,Tg hc,TT])
   have hc:¬xs.length=0:=by have hc:¬((Z0 pl xs).length:Int)=0:=hc;rw [ma] at hc;omega
   refine ⟨show 1+tx.length<2 ^ 62 by omega,wN ?_⟩;refine ⟨show ([36]++tx).length+1<2 ^ 62 by rw [Tb];simp only [Td,Tf];omega,wN ?_⟩;refine ⟨oM,pl,xs,rfl,⟨fun x hx=>⟨m5 x hx,bi x hx⟩,oM,oM⟩,fun t ht=>wN ?_⟩;have gw:t.length<=64 * szS wE xs:=by rw [<- ht];exact ZC fun x hx=>Yh x (bi x hx)
   (repeat (refine ⟨rfl,?_⟩;conv=>whnf))
   refine ⟨show (([36]++tx)++[40]).length+t.length<2 ^ 62 by simp only [Tb,Td,Tf];omega,wN ?_⟩;refine ⟨show ((([36]++tx)++[40])++t).length+1<2 ^ 62 by simp only [Tb,Td,Tf];omega,wN ?_⟩;exact h _ (by rw [exT];show [36]++(tx++(if (Zej xs).length=0 then [] else ([40]++(Zh cmm ((Zej xs).map Prod.snd)++[41]))))=_;rw [Js,Tc hc,Y9,Zhl,ht];simp only [Th])
  ·obtain ⟨x,rfl⟩:=ZjO (l:=xs) (by have e:Yq 8=1:=dM;omega);exact m44
  ·obtain ⟨x,rfl⟩:=ZjO (l:=xs) (by have e:Yq 9=1:=dM;omega);exact m44
  ·exact absurd dM c1
  ·exact absurd dM c1
  ·exact absurd dM c1
  ·exact absurd dM c1
  ·exact absurd dM c1
  ·exact absurd dM c1
  ·exact absurd dM c1
  ·exact absurd dM c1
  ·exact absurd dM c1
  ·exact absurd dM c1
  ·conv=>whnf
   refine ⟨_,rfl,fun d hd=>?_⟩;subst hd;(conv=>whnf);refine ⟨_,rfl,fun d hd=>?_⟩;subst hd;(conv=>whnf)
   (repeat (refine ⟨rfl,?_⟩;conv=>whnf))
   refine ⟨dM,wN ?_⟩;refine ⟨oM,pl,xs,rfl,⟨fun x hx=>⟨m5 x hx,bi x hx⟩,oM,oM⟩,fun t ht=>wN ?_⟩;have gw:t.length<=64 * szS wE xs:=by rw [<- ht];exact ZC fun x hx=>Yh x (bi x hx)
   (repeat (refine ⟨rfl,?_⟩;conv=>whnf))
   refine ⟨show (Yc 20++[40]).length+t.length<2 ^ 62 by rw [Tb];have:=Xb 20;simp only [Td,Tf];omega,wN ?_⟩;refine ⟨show ((Yc 20++[40])++t).length+1<2 ^ 62 by rw [Tb,Tb];have:=Xb 20;simp only [Td,Tf];omega,wN ?_⟩;exact h _ (by rw [exT];show Yc 20++([40]++(Zh cmm ((Zej xs).map Prod.snd)++[41]))=_;rw [Y9,Zhl,ht];simp only [Th])
  ·conv=>whnf
   refine ⟨_,rfl,fun d hd=>?_⟩;subst hd;(conv=>whnf);refine ⟨_,rfl,fun d hd=>?_⟩;subst hd;(conv=>whnf)
   (repeat (refine ⟨rfl,?_⟩;conv=>whnf))
   refine ⟨dM,wN ?_⟩;refine ⟨oM,pl,xs,rfl,⟨fun x hx=>⟨m5 x hx,bi x hx⟩,oM,oM⟩,fun t ht=>wN ?_⟩;have gw:t.length<=64 * szS wE xs:=by rw [<- ht];exact ZC fun x hx=>Yh x (bi x hx)
   (repeat (refine ⟨rfl,?_⟩;conv=>whnf))
   refine ⟨show (Yc 21++[40]).length+t.length<2 ^ 62 by rw [Tb];have:=Xb 21;simp only [Td,Tf];omega,wN ?_⟩;refine ⟨show ((Yc 21++[40])++t).length+1<2 ^ 62 by rw [Tb,Tb];have:=Xb 21;simp only [Td,Tf];omega,wN ?_⟩;exact h _ (by rw [exT];show Yc 21++([40]++(Zh cmm ((Zej xs).map Prod.snd)++[41]))=_;rw [Y9,Zhl,ht];simp only [Th])
  ·conv=>whnf
   refine ⟨_,rfl,fun d hd=>?_⟩;subst hd;(conv=>whnf);refine ⟨_,rfl,fun d hd=>?_⟩;subst hd;(conv=>whnf)
   (repeat (refine ⟨rfl,?_⟩;conv=>whnf))
   refine ⟨dM,wN ?_⟩;refine ⟨oM,pl,xs,rfl,⟨fun x hx=>⟨m5 x hx,bi x hx⟩,oM,oM⟩,fun t ht=>wN ?_⟩;have gw:t.length<=64 * szS wE xs:=by rw [<- ht];exact ZC fun x hx=>Yh x (bi x hx)
   (repeat (refine ⟨rfl,?_⟩;conv=>whnf))
   refine ⟨show (Yc 22++[40]).length+t.length<2 ^ 62 by rw [Tb];have:=Xb 22;simp only [Td,Tf];omega,wN ?_⟩;refine ⟨show ((Yc 22++[40])++t).length+1<2 ^ 62 by rw [Tb,Tb];have:=Xb 22;simp only [Td,Tf];omega,wN ?_⟩;exact h _ (by rw [exT];show Yc 22++([40]++(Zh cmm ((Zej xs).map Prod.snd)++[41]))=_;rw [Y9,Zhl,ht];simp only [Th])
  ·conv=>whnf
   refine ⟨_,rfl,fun d hd=>?_⟩;subst hd;(conv=>whnf);refine ⟨_,rfl,fun d hd=>?_⟩;subst hd;(conv=>whnf)
   (repeat (refine ⟨rfl,?_⟩;conv=>whnf))
   refine ⟨dM,wN ?_⟩;refine ⟨oM,pl,xs,rfl,⟨fun x hx=>⟨m5 x hx,bi x hx⟩,oM,oM⟩,fun t ht=>wN ?_⟩;have gw:t.length<=64 * szS wE xs:=by rw [<- ht];exact ZC fun x hx=>Yh x (bi x hx)
   (repeat (refine ⟨rfl,?_⟩;conv=>whnf))
   refine ⟨show (Yc 23++[40]).length+t.length<2 ^ 62 by rw [Tb];have:=Xb 23;simp only [Td,Tf];omega,wN ?_⟩;refine ⟨show ((Yc 23++[40])++t).length+1<2 ^ 62 by rw [Tb,Tb];have:=Xb 23;simp only [Td,Tf];omega,wN ?_⟩;exact h _ (by rw [exT];show Yc 23++([40]++(Zh cmm ((Zej xs).map Prod.snd)++[41]))=_;rw [Y9,Zhl,ht];simp only [Th])
  ·conv=>whnf
   refine ⟨_,rfl,fun d hd=>?_⟩;subst hd;(conv=>whnf);refine ⟨_,rfl,fun d hd=>?_⟩;subst hd;(conv=>whnf)
   (repeat (refine ⟨rfl,?_⟩;conv=>whnf))
   refine ⟨dM,wN ?_⟩;refine ⟨oM,pl,xs,rfl,⟨fun x hx=>⟨m5 x hx,bi x hx⟩,oM,oM⟩,fun t ht=>wN ?_⟩;have gw:t.length<=64 * szS wE xs:=by rw [<- ht];exact ZC fun x hx=>Yh x (bi x hx)
   (repeat (refine ⟨rfl,?_⟩;conv=>whnf))
   refine ⟨show (Yc 24++[40]).length+t.length<2 ^ 62 by rw [Tb];have:=Xb 24;simp only [Td,Tf];omega,wN ?_⟩;refine ⟨show ((Yc 24++[40])++t).length+1<2 ^ 62 by rw [Tb,Tb];have:=Xb 24;simp only [Td,Tf];omega,wN ?_⟩;exact h _ (by rw [exT];show Yc 24++([40]++(Zh cmm ((Zej xs).map Prod.snd)++[41]))=_;rw [Y9,Zhl,ht];simp only [Th])
  ·conv=>whnf
   refine ⟨_,rfl,fun d hd=>?_⟩;subst hd;(conv=>whnf);refine ⟨_,rfl,fun d hd=>?_⟩;subst hd;(conv=>whnf)
   (repeat (refine ⟨rfl,?_⟩;conv=>whnf))
   refine ⟨dM,wN ?_⟩;refine ⟨oM,pl,xs,rfl,⟨fun x hx=>⟨m5 x hx,bi x hx⟩,oM,oM⟩,fun t ht=>wN ?_⟩;have gw:t.length<=64 * szS wE xs:=by rw [<- ht];exact ZC fun x hx=>Yh x (bi x hx)
   (repeat (refine ⟨rfl,?_⟩;conv=>whnf))
   refine ⟨show (Yc 25++[40]).length+t.length<2 ^ 62 by rw [Tb];have:=Xb 25;simp only [Td,Tf];omega,wN ?_⟩;refine ⟨show ((Yc 25++[40])++t).length+1<2 ^ 62 by rw [Tb,Tb];have:=Xb 25;simp only [Td,Tf];omega,wN ?_⟩;exact h _ (by rw [exT];show Yc 25++([40]++(Zh cmm ((Zej xs).map Prod.snd)++[41]))=_;rw [Y9,Zhl,ht];simp only [Th])
  exact absurd m1 (by rw [Zdv ho];decide)
 exact h.elim
theorem Zry {n:Nat} (h:PC w0 nG 138 (ZvF n)):PC w0 nG 199 (Zx1 n):=ZvH ⟨Zdw,h,trivial⟩
theorem cTx:∀n,PC w0 nG 138 (ZvF n)
 | 0=>Zpl ⟨Zdw,Zho,ZK (Zn Tryz.func199 kR rfl),ZK (Zn Tryz.func76 kR rfl),ZkH,ZfR,trivial⟩
 | n+1=>Zpl ⟨Zdw,Zho,ZL (sp:=Zx1) (Zry (cTx n)),ZL (sp:=ZvG) (Zpk ⟨cTx n,trivial⟩),ZkH,ZfR,trivial⟩
theorem ZvJ (n:Nat):PC w0 nG 76 (ZvG n):=Zpk ⟨cTx n,trivial⟩
noncomputable def ZgD {α:Type} (enc:Pl->α->List D) (p:α->Bool) (w:α->Nat) (n:Nat):Zt:=fun args σ K=>match args,σ with
 | [.agg c],⟨[],[],0⟩=>∃pl e,c=(enc pl e).map .d/\(w e<=n/\n<=16777216)/\∀b,p e=b->K (.ret (.d (.bool b))) ⟨[],[],0⟩
 | _,_=>False
noncomputable def Zfl {α:Type} (enc:Pl->α->List D) (p:α->Bool) (w:α->Nat) (n:Nat):Zt:=fun args σ K=>match args,σ with
 | [.d (.sl r)],⟨[],[],0⟩=>∃pl l,r=l.map (enc pl)/\(szS w l<=n/\n<=16777216)/\∀b,l.all p=b->K (.ret (.d (.bool b))) ⟨[],[],0⟩
 | _,_=>False
noncomputable def Zx5 (n:Nat):Tbl:=[(137,ZgD YE ZV wE n)]
theorem Zpm {n:Nat} (ht:TO w0 nG (Zx5 n)):PC w0 nG 73 (Zfl YE ZV wE n):=by
 refine Zd Zb mixed (tbl:=Zx5 n) ht Tryz.func73 rfl kR kR ?_;intro args σ K h
 unfold Zfl at h
 split at h
 ·obtain ⟨pl,l,rfl,⟨hz,hn⟩,h⟩:=h;have ab:(l.map (YE pl)).length=l.length:=Te ..;have hsz:=Zp wE l;refine ⟨Za [(2,⟨[3],[0],fun vs σ=>∃i:Nat,vs=[.d (.int .i64 i)]/\σ=⟨[],[],0⟩/\i<=l.length/\l.all ZV=(l.drop i).all ZV,mu1 l.length⟩)],0,false,sM,Ta rfl,wN ?_⟩;refine ⟨⟨0,rfl,rfl,oM,rfl⟩,?_⟩;intro vs σ hI
  obtain ⟨i,rfl,rfl,hi,ha⟩:=hI;(conv=>whnf);refine ZBC (fun aa=>wN ?_) (fun aa=>?_)
  ·have aa:i<l.length:=lzI ab aa;have hg:=Zs wE l i aa;rw [Z5 ZV aa] at ha;obtain ⟨eA,hA⟩:∃x,l[i]=x:=⟨_,rfl⟩
   obtain ⟨a1,a2,a3,a4,a5⟩:=eA;rw [hA] at hg ha;have ae:(l.map (YE pl))[((i:Nat):Int).toNat]?=some (YE pl (.mk a1 a2 a3 a4 a5)):=by simp [aa,hA]
   refine ⟨_,oM,ae,wN ?_⟩;refine ⟨pl,.mk a1 a2 a3 a4 a5,rfl,⟨oM,hn⟩,fun b hb=>?_⟩;rw [hb] at ha
   cases b with
   | false =>
    conv=>whnf
    exact h _ ha
   | true =>
   rw [Tt] at ha;exact m18
  have aa:i=l.length:=lzE ab oM aa;exact m127
 exact h.elim
noncomputable def Zx6 (n:Nat):Tbl:=[(196,JT fun op=>.int .i64 (Yq op)),(25,U4),(197,Vh),(73,spB (Zfl YE ZV wE) n)]
theorem Zpn {n:Nat} (ht:TO w0 nG (Zx6 n)):PC w0 nG 137 (ZgD YE ZV wE n):=by
 refine Zd Zb mixed (tbl:=Zx6 n) ht Tryz.func137 rfl kR kR ?_;intro args σ K h
 unfold ZgD at h
 split at h
 ·obtain ⟨pl,⟨op,tx,nn,xs,at'⟩,rfl,⟨hz,hn⟩,h⟩:=h;rw [Ztf] at hz;have ma:(Z0 pl xs).length=xs.length:=by rw [Ze,Te]
  simp only [ZV,Zo] at h;refine ⟨Za [],0,false,sM,Ta rfl,wN ?_⟩;refine ⟨op,rfl,fun d hd=>?_⟩;have hd:D.int .i64 (Yq op)=d:=hd;obtain ⟨A,hA⟩:∃A,Yq op=A:=⟨_,rfl⟩
  rw [hA] at hd h;subst hd;have lo:-2<=A:=by rw [<- hA];unfold Yq;(repeat' split) <;> omega
  conv=>whnf
  refine ZBC (fun h1=>wN ?_) (fun h1=>wN ?_)
  ·exact h _ (by rw [decide_eq_false (show ¬-2<A by omega)];rfl)
  have e1:decide (-2<A)=true:=TC oM;rw [e1,Tt] at h;have two:(A<0\/(xs.length:Int)=A)->∀b,((decide (nn=0) || decide (op=3)) && (Z7 op tx && xs.all ZV))=b->K (.ret (.d (.bool b))) ⟨[],[],0⟩:=fun g b hb=>h b (by
   have e2:(decide (A<0) || decide ((xs.length:Int)=A))=true:=by simpa using g
   rw [e2,Tt];exact hb)
  have no2:0<=A->¬(xs.length:Int)=A->K (.ret (.d (.bool false))) ⟨[],[],0⟩:=fun g1 g2=>h _ (by rw [decide_eq_false (show ¬A<0 by omega),decide_eq_false g2];rfl)
  clear h
  refine ZBC (fun h2=>wN ?_) (fun h2=>wN ?_)
  ·refine ZBE (fun h3=>wN ?_) (fun h3=>wN ?_)
   ·exact no2 h2 (fun g=>h3 (by show ((Z0 pl xs).length:Int)=A;rw [ma];exact g))
   have h:=two (.inr (by have h3:((Z0 pl xs).length:Int)=A:=h3;rw [ma] at h3;exact h3));exact m194
  have h:=two (.inl oM);exact m194
 exact h.elim
theorem Ztg (o:Nat) (t:Bs) (l:List Ex) (b:List Li) (a:Nat):wL (.mk o t l b a)=1+t.length+szS wE l+szS wL b:=by rw [wL,WS]
noncomputable def Zx7 (n:Nat):Tbl:=[(25,U4),(73,Zfl YE ZV wE n),(74,spB (Zfl XI ZY wL) n)]
theorem Zpo {n:Nat} (ht:TO w0 nG (Zx7 n)):PC w0 nG 74 (Zfl XI ZY wL n):=by
 refine Zd Zb mixed (tbl:=Zx7 n) ht Tryz.func74 rfl kR kR ?_;intro args σ K h
 unfold Zfl at h
 split at h
 ·obtain ⟨pl,l,rfl,⟨hz,hn⟩,h⟩:=h;have ab:(l.map (XI pl)).length=l.length:=Te ..;have hsz:=Zp wL l;refine ⟨Za [(2,⟨[3],[0],fun vs σ=>∃i:Nat,vs=[.d (.int .i64 i)]/\σ=⟨[],[],0⟩/\i<=l.length/\l.all ZY=(l.drop i).all ZY,mu1 l.length⟩)],0,false,sM,Ta rfl,wN ?_⟩;refine ⟨⟨0,rfl,rfl,oM,rfl⟩,?_⟩;intro vs σ hI
  obtain ⟨i,rfl,rfl,hi,ha⟩:=hI;(conv=>whnf);refine ZBC (fun aa=>wN ?_) (fun aa=>?_)
  ·have aa:i<l.length:=lzI ab aa;have hg:=Zs wL l i aa;rw [Z5 ZY aa] at ha;obtain ⟨eA,hA⟩:∃x,l[i]=x:=⟨_,rfl⟩
   obtain ⟨op,rel,ar,bo,at'⟩:=eA;rw [hA] at hg ha;rw [Ztg] at hg;have j5:(Z0 pl ar).length=ar.length:=by rw [Ze,Te]
   have lr:(XQ pl bo).length=bo.length:=by rw [Zr,Te]
   have ae:(l.map (XI pl))[((i:Nat):Int).toNat]?=some (XI pl (.mk op rel ar bo at')):=by simp [aa,hA]
   have no:ZY (.mk op rel ar bo at')=false->K (.ret (.d (.bool false))) ⟨[],[],0⟩:=fun g=>h _ (by rw [ha,g];rfl)
   have go:ZY (.mk op rel ar bo at')=true->l.all ZY=(l.drop (i+1)).all ZY:=fun g=>by rw [ha,g,Tt]
   clear ha
   refine ⟨_,oM,ae,wN ?_⟩;refine ZBC (fun g1=>wN ?_) (fun g1=>wN ?_)
   ·exact m192
   refine ZBC (fun g2=>wN ?_) (fun g2=>wN ?_)
   ·exact m192
   refine ZBC (fun g3=>wN ?_) (fun g3=>wN ?_)
   ·refine ZBC (fun g4=>wN ?_) (fun g4=>wN ?_)
    ·refine ZBC (fun q1=>wN ?_) (fun q1=>wN ?_)
     ·refine ZBC (fun q2=>wN ?_) (fun q2=>wN ?_)
      ·have q2:ar.length=2:=by have q2:((Z0 pl ar).length:Int)=2:=q2;rw [j5] at q2;omega
       refine ZBE (fun q3=>wN ?_) (fun q3=>wN ?_)
       ·have q3:¬bo.length=0:=by have q3:¬((XQ pl bo).length:Int)=0:=q3;rw [lr] at q3;omega
        have hL:ZX op rel ar.length bo.length=false:=by unfold ZX;rw [Tc oM,Tg oM];rw [TC (show 0<bo.length by omega)];simp
        exact m82
       have q3:bo.length=0:=by have q3:((XQ pl bo).length:Int)=0:=q3;rw [lr] at q3;omega
       have hL:ZX op rel ar.length bo.length=true:=by unfold ZX;rw [Tc oM,Tg oM];rw [decide_eq_false (show ¬0<bo.length by omega)];simp [q1,q2]
       exact m7
      have q2:¬ar.length=2:=by have q2:¬((Z0 pl ar).length:Int)=2:=q2;rw [j5] at q2;omega
      have hL:ZX op rel ar.length bo.length=false:=by unfold ZX;rw [Tc oM,Tg oM];simp [q2]
      exact m82
     have hL:ZX op rel ar.length bo.length=false:=by unfold ZX;rw [Tc oM,Tg oM];simp [show ¬rel=[] from q1]
     exact m82
    refine ZBC (fun g5=>wN ?_) (fun g5=>wN ?_)
    ·refine ZBC (fun q1=>wN ?_) (fun q1=>wN ?_)
     ·refine ZBC (fun q2=>wN ?_) (fun q2=>wN ?_)
      ·have q2:ar.length=1:=by have q2:((Z0 pl ar).length:Int)=1:=q2;rw [j5] at q2;omega
       refine ZBE (fun q3=>wN ?_) (fun q3=>wN ?_)
       ·have q3:¬0<bo.length:=by have q3:¬((XQ pl bo).length:Int)>0:=q3;rw [lr] at q3;omega
        have hL:ZX op rel ar.length bo.length=false:=by unfold ZX;rw [Tc oM,Tc oM,Tg oM];rw [decide_eq_false (show ¬0<bo.length by omega)];simp
        exact m82
       have q3:0<bo.length:=by have q3:((XQ pl bo).length:Int)>0:=q3;rw [lr] at q3;omega
       have hL:ZX op rel ar.length bo.length=true:=by unfold ZX;rw [Tc oM,Tc oM,Tg oM];rw [TC (show 0<bo.length by omega)];simp [q1,q2]
       exact m7
      have q2:¬ar.length=1:=by have q2:¬((Z0 pl ar).length:Int)=1:=q2;rw [j5] at q2;omega
      have hL:ZX op rel ar.length bo.length=false:=by unfold ZX;rw [Tc oM,Tc oM,Tg oM];simp [q2]
      exact m82
     have hL:ZX op rel ar.length bo.length=false:=by unfold ZX;rw [Tc oM,Tc oM,Tg oM];simp [show ¬rel=[] from q1]
     exact m82
    refine ZBC (fun g6=>wN ?_) (fun g6=>wN ?_)
    ·exact m6
    refine ZBC (fun g7=>wN ?_) (fun g7=>wN ?_)
    ·exact m6
    refine ZBC (fun g8=>wN ?_) (fun g8=>wN ?_)
    ·exact m6
    have hL:ZX op rel ar.length bo.length=false:=by unfold ZX;rw [Tc oM,Tc oM,Tc oM,Tc oM]
    exact m82
   (repeat (refine ZBC (fun g=>absurd g oM) (fun _=>?_);conv=>whnf))
   have hL:ZX op rel ar.length bo.length=false:=by unfold ZX;rw [Tc oM,Tc oM,Tc oM,Tc oM]
   exact m82
  have aa:i=l.length:=lzE ab oM aa;exact m127
 exact h.elim
theorem cMy:∀n,PC w0 nG 137 (ZgD YE ZV wE n)
 | 0=>Zpn ⟨Ze3,WY,ZfR,ZK (Zn Tryz.func73 kR rfl),trivial⟩
 | n+1=>Zpn ⟨Ze3,WY,ZfR,ZL (sp:=Zfl YE ZV wE) (Zpm ⟨cMy n,trivial⟩),trivial⟩
theorem cMs (n:Nat):PC w0 nG 73 (Zfl YE ZV wE n):=Zpm ⟨cMy n,trivial⟩
theorem cMl:∀n,PC w0 nG 74 (Zfl XI ZY wL n)
 | 0=>Zpo ⟨WY,cMs _,ZK (Zn Tryz.func74 kR rfl),trivial⟩
 | n+1=>Zpo ⟨WY,cMs _,ZL (sp:=Zfl XI ZY wL) (cMl n),trivial⟩
noncomputable def Zx8 (n:Nat):Tbl:=[(25,U4),(73,Zfl YE ZV wE n),(74,Zfl XI ZY wL n)]
theorem ZvK {n:Nat} (ht:TO w0 nG (Zx8 n)):PC w0 nG 27 (ZgD ZW Y0 wRu n):=by
 refine Zd Zb mixed (tbl:=Zx8 n) ht Tryz.func27 rfl kR kR ?_;intro args σ K h
 unfold ZgD at h
 split at h
 ·obtain ⟨pl,⟨dg,ar,bo,at'⟩,rfl,⟨hz,hn⟩,h⟩:=h;unfold wRu at hz
  unfold Y0 at h
  dsimp only at hz h;refine ⟨Za [],0,false,sM,Ta rfl,wN ?_⟩;refine ⟨show dg.length<4294967281 by omega,fun b0 au=>?_⟩;rw [au] at h
  cases b0 with
  | false =>
   conv=>whnf
   exact h _ rfl
  | true =>
  rw [Tt] at h;(conv=>whnf);refine ⟨pl,ar,Ze pl ar,⟨oM,hn⟩,fun b1 aj=>?_⟩;rw [aj] at h
  cases b1 with
  | false =>
   conv=>whnf
   exact h _ rfl
  | true =>
  rw [Tt] at h;(conv=>whnf);refine ⟨pl,bo,Zr pl bo,⟨oM,hn⟩,fun b2 bp=>wN ?_⟩;exact h _ bp
 exact h.elim
theorem cMr (n:Nat):PC w0 nG 27 (ZgD ZW Y0 wRu n):=ZvK ⟨WY,cMs n,cMl n,trivial⟩
noncomputable def Zy2 (n:Nat):Zt:=fun args σ K=>match args,σ with
 | [.agg c],⟨[],[],0⟩=>∃pl e,c=(XI pl e).map .d/\((ZY e=true/\Zh2 e=true)/\wL e<=n/\n<=16777216)/\∀t,liT e=t->K (.ret (.d (.str t))) ⟨[],[],0⟩
 | _,_=>False
noncomputable def Zl2 (n:Nat):Zt:=fun args σ K=>match args,σ with
 | [.d (.sl r)],⟨[],[],0⟩=>∃pl l,r=XQ pl l/\((∀x∈l,ZY x=true/\Zh2 x=true)/\szS wL l<=n/\n<=16777216)/\∀t,Zh cmm (l.map liT)=t->K (.ret (.d (.str t))) ⟨[],[],0⟩
 | _,_=>False
noncomputable def Zth (n:Nat):Tbl:=[(139,Zy2 n)]
theorem ZkL {n:Nat} (ht:TO w0 nG (Zth n)):PC w0 nG 77 (Zl2 n):=by
 refine Zd Zb mixed (tbl:=Zth n) ht Tryz.func77 rfl kR kR ?_;intro args σ K h
 unfold Zl2 at h
 split at h
 ·obtain ⟨pl,l,rfl,⟨hm,hz,hn⟩,h⟩:=h;have ab:(XQ pl l).length=l.length:=by rw [Zr,Te]
  have hsz:=Zp wL l;refine ⟨Za [(3,⟨[3,4],[0],fun vs σ=>∃i:Nat,vs=[.d (.str (Zh cmm ((l.take i).map liT))),.d (.int .i64 i)]/\σ=⟨[],[],0⟩/\i<=l.length,mu2 l.length⟩)],0,true,sM,Ta rfl,wN ?_⟩;refine ⟨⟨0,(by simp only [T2,TQ,Zh];rfl),rfl,oM⟩,?_⟩;intro vs σ hI
  obtain ⟨i,rfl,rfl,hi⟩:=hI;(conv=>whnf);refine ZBC (fun aa=>?_) (fun aa=>?_)
  ·have aa:i<l.length:=lzI ab aa;have hg:=Zs wL l i aa;have fq:=hm _ (TD aa);have ao:=Xo cmm liT aa;have ak:=ZC (T:=liT) (w:=wL) (l:=l.take i) fun x hx=>ZbT x (hm x (List.mem_of_mem_take hx)).2
   have ma:=ZbT _ fq.2;have sk:szS wL (l.take i)<=szS wL l:=Zge wL l i;obtain ⟨S,hS⟩:∃S,Zh cmm ((l.take i).map liT)=S:=⟨_,rfl⟩
   rw [hS] at ak ao |-;obtain ⟨eA,hA⟩:∃x,l[i]=x:=⟨_,rfl⟩
   obtain ⟨a1,a2,a3,a4,a5⟩:=eA;rw [hA] at hg fq ao ma;obtain ⟨X,hX⟩:∃X,liT (.mk a1 a2 a3 a4 a5)=X:=⟨_,rfl⟩
   rw [hX] at ao ma;have ae:(XQ pl l)[((i:Nat):Int).toNat]?=some (XI pl (.mk a1 a2 a3 a4 a5)):=by rw [Zr];simp [aa,hA]
   exact m30
  have aa:i=l.length:=lzE ab oM aa;subst aa;rw [TJ];(conv=>whnf);exact h _ rfl
 exact h.elim
noncomputable def Zx9 (n:Nat):Tbl:=[(138,ZvF n),(76,ZvG n),(77,spB Zl2 n)]
theorem Zpp {n:Nat} (ht:TO w0 nG (Zx9 n)):PC w0 nG 139 (Zy2 n):=by
 refine Zd Zb mixed (tbl:=Zx9 n) ht Tryz.func139 rfl kR kR ?_;intro args σ K h
 unfold Zy2 at h
 split at h
 ·obtain ⟨pl,⟨op,rel,ar,bo,at'⟩,rfl,⟨⟨hm,hr⟩,hz,hn⟩,h⟩:=h;obtain ⟨m1,m2,m3⟩:=Zny hm;obtain ⟨r1,r2⟩:=ZiK hr;rw [Ztg] at hz;have h:=h _ rfl;refine ⟨Za [],0,true,sM,Ta rfl,?_⟩;rcases Znz m1 with ⟨c,ik,hb⟩ | ⟨c1,c2,rfl,ha,hb⟩ | ⟨rfl,rfl,ha,hb⟩ | ⟨c1,c2,rfl,ha,hb⟩
  ·rcases c with rfl | rfl
   ·have hT:liT (.mk 1 rel ar bo at')=((rel++[40])++Zh cmm (ar.map exT))++[41]:=by rw [liT];simp [WG,Zhl]
    rw [hT] at h;(conv=>whnf);refine ⟨show rel.length+1<2 ^ 62 by omega,wN ?_⟩;refine ⟨pl,ar,rfl,⟨fun x hx=>⟨m2 x hx,r1 x hx⟩,oM,oM⟩,fun t ht=>wN ?_⟩;have gw:t.length<=64 * szS wE ar:=by rw [<- ht];exact ZC fun x hx=>Yh x (r1 x hx)
    (repeat (refine ⟨rfl,?_⟩;conv=>whnf))
    rw [ht] at h;refine ⟨show (rel++[40]).length+t.length<2 ^ 62 by simp only [Tb,Td,Tf];omega,wN ?_⟩;refine ⟨show ((rel++[40])++t).length+1<2 ^ 62 by simp only [Tb,Td,Tf];omega,wN ?_⟩;exact h
   have hT:liT (.mk 2 rel ar bo at')=((([33]++rel)++[40])++Zh cmm (ar.map exT))++[41]:=by rw [liT];simp [WG,Zhl]
   rw [hT] at h;(conv=>whnf);refine ⟨show 1+rel.length<2 ^ 62 by omega,wN ?_⟩;refine ⟨show ([33]++rel).length+1<2 ^ 62 by simp only [Tb,Td,Tf];omega,wN ?_⟩;refine ⟨pl,ar,rfl,⟨fun x hx=>⟨m2 x hx,r1 x hx⟩,oM,oM⟩,fun t ht=>wN ?_⟩;have gw:t.length<=64 * szS wE ar:=by rw [<- ht];exact ZC fun x hx=>Yh x (r1 x hx)
   (repeat (refine ⟨rfl,?_⟩;conv=>whnf))
   rw [ht] at h;refine ⟨show (([33]++rel)++[40]).length+t.length<2 ^ 62 by simp only [Tb,Td,Tf];omega,wN ?_⟩;refine ⟨show ((([33]++rel)++[40])++t).length+1<2 ^ 62 by simp only [Tb,Td,Tf];omega,wN ?_⟩;exact h
  ·obtain ⟨x,y,rfl⟩:=Zhp ha;obtain ⟨fq,jh⟩:ZV x=true/\JV x=true:=⟨m2 x sM,r1 x sM⟩
   obtain ⟨z7,tq⟩:ZV y=true/\JV y=true:=⟨m2 y sM,r1 y sM⟩
   simp only [szS] at hz;have hT:liT (.mk op [] [x,y] bo at')=(((exT x++[32])++Zzz op)++[32])++exT y:=by
    rw [liT,Tc oM,Tc oM,Tg c2];simp only [Zhn,List.tail_cons];have e:Znu op=[32]++(Zzz op++[32]):=by unfold Znu Zzz;(repeat' split) <;> rfl
    rw [e];simp only [Th]
   rw [hT] at h;obtain ⟨x1,x2,x3,x4,x5⟩:=x;obtain ⟨y1,y2,y3,y4,y5⟩:=y;obtain rfl | rfl | rfl | rfl | rfl | rfl:op=3\/op=4\/op=5\/op=6\/op=7\/op=8:=oM
   all_goals
    conv=>whnf
    (repeat (first | (refine ⟨_,dM,rfl,?_⟩;conv=>whnf) | (refine Or.inl ⟨InR.u8 dM dM,?_⟩;conv=>whnf) | (refine ⟨rfl,?_⟩;conv=>whnf)))
    refine ⟨pl,.mk x1 x2 x3 x4 x5,rfl,⟨⟨fq,jh⟩,oM,oM⟩,fun t1 fi=>wN ?_⟩;have gx:=Yh _ jh;rw [fi] at h gx
    (repeat (first | (refine ⟨_,dM,rfl,?_⟩;conv=>whnf) | (refine Or.inl ⟨InR.u8 dM dM,?_⟩;conv=>whnf) | (refine ⟨rfl,?_⟩;conv=>whnf)))
    refine ⟨show (t1).length+([32]:Bs).length<2 ^ 62 by simp only [Tb,Td,Tf];omega,wN ?_⟩
    (repeat (first | (refine ⟨_,dM,rfl,?_⟩;conv=>whnf) | (refine Or.inl ⟨InR.u8 dM dM,?_⟩;conv=>whnf) | (refine ⟨rfl,?_⟩;conv=>whnf)))
    refine ⟨sO,wN ?_⟩
    (repeat (first | (refine ⟨_,dM,rfl,?_⟩;conv=>whnf) | (refine Or.inl ⟨InR.u8 dM dM,?_⟩;conv=>whnf) | (refine ⟨rfl,?_⟩;conv=>whnf)))
    refine ⟨sO,wN ?_⟩
    (repeat (first | (refine ⟨_,dM,rfl,?_⟩;conv=>whnf) | (refine Or.inl ⟨InR.u8 dM dM,?_⟩;conv=>whnf) | (refine ⟨rfl,?_⟩;conv=>whnf)))
    refine ⟨pl,.mk y1 y2 y3 y4 y5,rfl,⟨⟨z7,tq⟩,oM,oM⟩,fun t2 i5=>wN ?_⟩;have xq:=Yh _ tq;rw [i5] at h xq
    (repeat (first | (refine ⟨_,dM,rfl,?_⟩;conv=>whnf) | (refine Or.inl ⟨InR.u8 dM dM,?_⟩;conv=>whnf) | (refine ⟨rfl,?_⟩;conv=>whnf)))
    refine ⟨sO,wN ?_⟩
    (repeat (first | (refine ⟨_,dM,rfl,?_⟩;conv=>whnf) | (refine Or.inl ⟨InR.u8 dM dM,?_⟩;conv=>whnf) | (refine ⟨rfl,?_⟩;conv=>whnf)))
    exact h
  ·obtain ⟨x,rfl⟩:=ZjO ha;obtain ⟨fq,jh⟩:ZV x=true/\JV x=true:=⟨m2 x sM,r1 x sM⟩
   simp only [szS] at hz;have hT:liT (.mk 9 [] [x] bo at')=((exT x++[32,61,32,99,111,117,110,116,32,58,32,123,32])++Zh cmm (bo.map liT))++[32,125]:=by
    rw [liT,Tc oM,Tc oM,Tc oM,U3];simp only [Zhn,List.tail_cons,Znv,TQ,List.flatten_nil,T3,Th];rfl
   rw [hT] at h;obtain ⟨x1,x2,x3,x4,x5⟩:=x;(conv=>whnf)
   (repeat (first | (refine ⟨_,dM,rfl,?_⟩;conv=>whnf) | (refine Or.inl ⟨InR.u8 dM dM,?_⟩;conv=>whnf) | (refine ⟨rfl,?_⟩;conv=>whnf)))
   refine ⟨pl,.mk x1 x2 x3 x4 x5,rfl,⟨⟨fq,jh⟩,oM,oM⟩,fun t1 fi=>wN ?_⟩;have gx:=Yh _ jh;rw [fi] at h gx
   (repeat (first | (refine ⟨_,dM,rfl,?_⟩;conv=>whnf) | (refine Or.inl ⟨InR.u8 dM dM,?_⟩;conv=>whnf) | (refine ⟨rfl,?_⟩;conv=>whnf)))
   refine ⟨show (t1).length+([32,61,32,99,111,117,110,116,32,58,32,123,32]:Bs).length<2 ^ 62 by simp only [Tb,Td,Tf];omega,wN ?_⟩
   (repeat (first | (refine ⟨_,dM,rfl,?_⟩;conv=>whnf) | (refine Or.inl ⟨InR.u8 dM dM,?_⟩;conv=>whnf) | (refine ⟨rfl,?_⟩;conv=>whnf)))
   refine ⟨oM,pl,bo,rfl,⟨fun x hx=>⟨m3 x hx,r2 x hx⟩,oM,oM⟩,fun t2 i5=>wN ?_⟩;have gw:t2.length<=64 * szS wL bo:=by rw [<- i5];exact ZC fun x hx=>ZbT x (r2 x hx)
   rw [i5] at h
   (repeat (first | (refine ⟨_,dM,rfl,?_⟩;conv=>whnf) | (refine Or.inl ⟨InR.u8 dM dM,?_⟩;conv=>whnf) | (refine ⟨rfl,?_⟩;conv=>whnf)))
   refine ⟨show (t1++[32,61,32,99,111,117,110,116,32,58,32,123,32]).length+(t2:Bs).length<2 ^ 62 by simp only [Tb,Td,Tf];omega,wN ?_⟩
   (repeat (first | (refine ⟨_,dM,rfl,?_⟩;conv=>whnf) | (refine Or.inl ⟨InR.u8 dM dM,?_⟩;conv=>whnf) | (refine ⟨rfl,?_⟩;conv=>whnf)))
   refine ⟨show ((t1++[32,61,32,99,111,117,110,116,32,58,32,123,32])++t2).length+([32,125]:Bs).length<2 ^ 62 by simp only [Tb,Td,Tf];omega,wN ?_⟩
   (repeat (first | (refine ⟨_,dM,rfl,?_⟩;conv=>whnf) | (refine Or.inl ⟨InR.u8 dM dM,?_⟩;conv=>whnf) | (refine ⟨rfl,?_⟩;conv=>whnf)))
   exact h
  obtain ⟨x,y,rfl⟩:=Zhp ha;obtain ⟨fq,jh⟩:ZV x=true/\JV x=true:=⟨m2 x sM,r1 x sM⟩
  obtain ⟨z7,tq⟩:ZV y=true/\JV y=true:=⟨m2 y sM,r1 y sM⟩
  simp only [szS] at hz;have hT:liT (.mk op [] [x,y] bo at')=((((((exT x++[32,61,32])++Zhm op)++[32])++exT y)++[32,58,32,123,32])++Zh cmm (bo.map liT))++[32,125]:=by
   rw [liT,Tc oM,Tc oM,Tc oM,U3];simp only [Zhn,List.tail_cons,Znv,TN,TQ,List.flatten_cons,List.flatten_nil,TT,Th]
  rw [hT] at h;obtain ⟨x1,x2,x3,x4,x5⟩:=x;obtain ⟨y1,y2,y3,y4,y5⟩:=y;obtain rfl | rfl | rfl:op=10\/op=11\/op=12:=oM
  all_goals
   conv=>whnf
   (repeat (first | (refine ⟨_,dM,rfl,?_⟩;conv=>whnf) | (refine Or.inl ⟨InR.u8 dM dM,?_⟩;conv=>whnf) | (refine ⟨rfl,?_⟩;conv=>whnf)))
   refine ⟨pl,.mk x1 x2 x3 x4 x5,rfl,⟨⟨fq,jh⟩,oM,oM⟩,fun t1 fi=>wN ?_⟩;have gx:=Yh _ jh;rw [fi] at h gx
   (repeat (first | (refine ⟨_,dM,rfl,?_⟩;conv=>whnf) | (refine Or.inl ⟨InR.u8 dM dM,?_⟩;conv=>whnf) | (refine ⟨rfl,?_⟩;conv=>whnf)))
   refine ⟨show (t1).length+([32,61,32]:Bs).length<2 ^ 62 by simp only [Tb,Td,Tf];omega,wN ?_⟩
   (repeat (first | (refine ⟨_,dM,rfl,?_⟩;conv=>whnf) | (refine Or.inl ⟨InR.u8 dM dM,?_⟩;conv=>whnf) | (refine ⟨rfl,?_⟩;conv=>whnf)))
   refine ⟨sO,wN ?_⟩
   (repeat (first | (refine ⟨_,dM,rfl,?_⟩;conv=>whnf) | (refine Or.inl ⟨InR.u8 dM dM,?_⟩;conv=>whnf) | (refine ⟨rfl,?_⟩;conv=>whnf)))
   refine ⟨sO,wN ?_⟩
   (repeat (first | (refine ⟨_,dM,rfl,?_⟩;conv=>whnf) | (refine Or.inl ⟨InR.u8 dM dM,?_⟩;conv=>whnf) | (refine ⟨rfl,?_⟩;conv=>whnf)))
   refine ⟨pl,.mk y1 y2 y3 y4 y5,rfl,⟨⟨z7,tq⟩,oM,oM⟩,fun t2 i5=>wN ?_⟩;have xq:=Yh _ tq;rw [i5] at h xq
   (repeat (first | (refine ⟨_,dM,rfl,?_⟩;conv=>whnf) | (refine Or.inl ⟨InR.u8 dM dM,?_⟩;conv=>whnf) | (refine ⟨rfl,?_⟩;conv=>whnf)))
   refine ⟨sO,wN ?_⟩
   (repeat (first | (refine ⟨_,dM,rfl,?_⟩;conv=>whnf) | (refine Or.inl ⟨InR.u8 dM dM,?_⟩;conv=>whnf) | (refine ⟨rfl,?_⟩;conv=>whnf)))
   refine ⟨sO,wN ?_⟩
   (repeat (first | (refine ⟨_,dM,rfl,?_⟩;conv=>whnf) | (refine Or.inl ⟨InR.u8 dM dM,?_⟩;conv=>whnf) | (refine ⟨rfl,?_⟩;conv=>whnf)))
   refine ⟨oM,pl,bo,rfl,⟨fun x hx=>⟨m3 x hx,r2 x hx⟩,oM,oM⟩,fun t3 sx=>wN ?_⟩;have gw:t3.length<=64 * szS wL bo:=by rw [<- sx];exact ZC fun x hx=>ZbT x (r2 x hx)
   rw [sx] at h
   (repeat (first | (refine ⟨_,dM,rfl,?_⟩;conv=>whnf) | (refine Or.inl ⟨InR.u8 dM dM,?_⟩;conv=>whnf) | (refine ⟨rfl,?_⟩;conv=>whnf)))
   refine ⟨sO,wN ?_⟩
   (repeat (first | (refine ⟨_,dM,rfl,?_⟩;conv=>whnf) | (refine Or.inl ⟨InR.u8 dM dM,?_⟩;conv=>whnf) | (refine ⟨rfl,?_⟩;conv=>whnf)))
   refine ⟨sO,wN ?_⟩
   (repeat (first | (refine ⟨_,dM,rfl,?_⟩;conv=>whnf) | (refine Or.inl ⟨InR.u8 dM dM,?_⟩;conv=>whnf) | (refine ⟨rfl,?_⟩;conv=>whnf)))
   exact h
 exact h.elim
theorem cLt:∀n,PC w0 nG 139 (Zy2 n)
 | 0=>Zpp ⟨cTx 0,ZvJ 0,ZK (Zn Tryz.func77 kR rfl),trivial⟩
 | n+1=>Zpp ⟨cTx (n+1),ZvJ (n+1),ZL (sp:=Zl2) (ZkL ⟨cLt n,trivial⟩),trivial⟩
theorem ZBc (n:Nat):PC w0 nG 77 (Zl2 n):=ZkL ⟨cLt n,trivial⟩
noncomputable def Zy3 (n:Nat):Zt:=fun args σ K=>match args,σ with
 | [.agg c],⟨[],[],0⟩=>∃pl x,c=(ZW pl x).map .d/\((Y0 x=true/\Zdx x=true)/\wRu x<=n/\n<=16777216)/\∀t,ruT x=t->K (.ret (.d (.str t))) ⟨[],[],0⟩
 | _,_=>False
noncomputable def Zya (n:Nat):Tbl:=[(76,ZvG n),(77,Zl2 n)]
theorem ZvL {n:Nat} (ht:TO w0 nG (Zya n)):PC w0 nG 32 (Zy3 n):=by
 refine Zd Zb mixed (tbl:=Zya n) ht Tryz.func32 rfl kR kR ?_;intro args σ K h
 unfold Zy3 at h
 split at h
 ·obtain ⟨pl,⟨dg,ar,bo,at'⟩,rfl,⟨⟨hm,hr⟩,hz,hn⟩,h⟩:=h;have hz:1+dg.length+szS wE ar+szS wL bo<=n:=hz;have hm:(YL dg && (ar.all ZV && bo.all ZY))=true:=hm;have hr:(ar.all JV && bo.all Zh2)=true:=hr;simp only [Tk,Tm] at hm hr;obtain ⟨m1,m2,m3⟩:=hm;obtain ⟨r1,r2⟩:=hr;have h:=h _ rfl;have lr:(XQ pl bo).length=bo.length:=by rw [Zr,Te]
  refine ⟨Za [],0,true,sM,Ta rfl,wN ?_⟩;refine ⟨sO,wN ?_⟩;refine ⟨pl,ar,rfl,⟨fun x hx=>⟨m2 x hx,r1 x hx⟩,oM,oM⟩,fun t ht=>wN ?_⟩;have gw:t.length<=64 * szS wE ar:=by rw [<- ht];exact ZC fun x hx=>Yh x (r1 x hx)
  (repeat (first | (refine ⟨_,dM,rfl,?_⟩;conv=>whnf) | (refine ⟨rfl,?_⟩;conv=>whnf)))
  refine ⟨sO,wN ?_⟩
  (repeat (first | (refine ⟨_,dM,rfl,?_⟩;conv=>whnf) | (refine ⟨rfl,?_⟩;conv=>whnf)))
  refine ⟨sO,wN ?_⟩
  (repeat (first | (refine ⟨_,dM,rfl,?_⟩;conv=>whnf) | (refine ⟨rfl,?_⟩;conv=>whnf)))
  refine ZBC (fun hc=>wN ?_) (fun hc=>wN ?_)
  ·have hc:0<bo.length:=by have hc:((XQ pl bo).length:Int)>0:=hc;rw [lr] at hc;omega
   have hT:ruT ⟨dg,ar,bo,at'⟩=(((((dg++[40])++Zh cmm (ar.map exT))++[41])++[32,58,45,32])++Zh cmm (bo.map liT))++[46]:=by
    unfold ruT
    rw [Tg hc,U3];simp only [WG,Zhl,Th]
   rw [hT,ht] at h;refine ⟨sO,wN ?_⟩
   (repeat (first | (refine ⟨_,dM,rfl,?_⟩;conv=>whnf) | (refine ⟨rfl,?_⟩;conv=>whnf)))
   refine ⟨pl,bo,rfl,⟨fun x hx=>⟨m3 x hx,r2 x hx⟩,oM,oM⟩,fun t2 i5=>wN ?_⟩;have ahm:t2.length<=64 * szS wL bo:=by rw [<- i5];exact ZC fun x hx=>ZbT x (r2 x hx)
   rw [i5] at h
   (repeat (first | (refine ⟨_,dM,rfl,?_⟩;conv=>whnf) | (refine ⟨rfl,?_⟩;conv=>whnf)))
   refine ⟨sO,wN ?_⟩
   (repeat (first | (refine ⟨_,dM,rfl,?_⟩;conv=>whnf) | (refine ⟨rfl,?_⟩;conv=>whnf)))
   exact m171
  have hc:¬0<bo.length:=by have hc:¬((XQ pl bo).length:Int)>0:=hc;rw [lr] at hc;omega
  have hT:ruT ⟨dg,ar,bo,at'⟩=(((dg++[40])++Zh cmm (ar.map exT))++[41])++[46]:=by
   unfold ruT
   rw [Tc hc];simp only [WG,Zhl,Th,T3]
  rw [hT,ht] at h;exact m171
 exact h.elim
theorem cRt (n:Nat):PC w0 nG 32 (Zy3 n):=ZvL ⟨ZvJ n,ZBc n,trivial⟩
structure RQ (L:List Tok) (a:Int) (ts:Ts):Prop extends ROK L a ts where
 kinds:∀x∈L,1<=x.kind/\x.kind<=4
 names:∀x∈L,x.kind=1->x.text≠[40]
 signs:∀x∈L,x.kind=4->x.text.length<=2
theorem RQ.tlq {L:List Tok} {a:Int} {ts:Ts} (h:RQ L a ts) (hn:ts≠[]):RQ L (a+1) ts.tail:=⟨h.toROK.tl hn,h.kinds,h.names,h.signs⟩
inductive SS where
 | ok (d:Nat) (ts:Ts) | bad (e:Nat)
def SOK (L:List Tok) (a dp w:Int):SS->Prop
 | .ok d ts=>w=0/\RQ L a ts/\dp=64 - (d:Int)/\d<=64
 | .bad e=>w=(e:Int)/\0<e/\0<=a/\a<=(L.length:Int)/\L.length<=1048576
theorem SOK.wz {L:List Tok} {a dp w:Int} {S:SS} (h:SOK L a dp w S) (hw:w=0):∃d ts,S=.ok d ts/\RQ L a ts/\dp=64 - (d:Int)/\d<=64:=by
 cases S with
 | ok d ts=>exact ⟨d,ts,rfl,h.2⟩
 | bad e=>have:=h.1;have:=h.2.1;omega
theorem SOK.w1 {L:List Tok} {a dp w:Int} {S:SS} (h:SOK L a dp w S) (hw:¬w=0):∃e,S=.bad e/\w=(e:Int)/\0<e:=by
 cases S with
 | ok d ts=>exact absurd h.1 hw
 | bad e=>exact ⟨e,rfl,h.1,h.2.1⟩
theorem SOK.rg {L:List Tok} {a dp w:Int} {S:SS} (h:SOK L a dp w S):0<=a/\a<=(L.length:Int)/\L.length<=1048576:=by
 cases S with
 | ok d ts=>exact ⟨h.2.1.lo,h.2.1.hi,h.2.1.big⟩
 | bad e=>exact h.2.2
theorem SOK.mk {L:List Tok} {a dp:Int} {d:Nat} {ts:Ts} (h1:RQ L a ts) (h2:dp=64 - (d:Int)) (h3:d<=64):SOK L a dp 0 (.ok d ts):=⟨rfl,h1,h2,h3⟩
theorem SOK.fail {L:List Tok} {a dp w dp':Int} {S:SS} (h:SOK L a dp w S) (e:Nat) (he:0<e):SOK L a dp' (e:Int) (.bad e):=⟨rfl,he,h.rg⟩
theorem SOK.stay {L:List Tok} {a dp w dp':Int} {e:Nat} (h:SOK L a dp w (.bad e)):SOK L a dp' w (.bad e):=h
abbrev Ue (t:TypeId) (L:List Tok) (a en dp w pl:Int):Box:=.cells t [.d (.sl (Zy L)),.d (.int .i64 a),.d (.int .i64 en),.d (.int .i64 dp),.d (.int .i64 w),.d (.int .i64 pl)]
abbrev KS:=PV->SS->Prop
def qSp (body:List PV->SS->KS->Prop):Zt:=fun args σ K=>match args,σ with
 | .ptr 0 0::rest,⟨[.cells t [.d (.sl rows),.d (.int .i64 a),.d (.int .i64 en),.d (.int .i64 dp),.d (.int .i64 w),.d (.int .i64 pl)]],[],0⟩=>∃L S,rows=Zy L/\SOK L a dp w S /\
   body rest S fun v S'=>∀a' dp' w' pl',SOK L a' dp' w' S'->K (.ret v) ⟨[.cells t [.d (.sl (Zy L)),.d (.int .i64 a'),.d (.int .i64 en),.d (.int .i64 dp'),.d (.int .i64 w'),.d (.int .i64 pl')]],[],0⟩
 | _,_=>False
def Zi8 (e:Nat):SS->SS
 | .ok _ _=>.bad e
 | .bad f=>.bad f
def YV (m:Nat) (w:Bs):SS->Bool
 | .ok _ ts=>isW (ts.drop m) [w]
 | .bad _=>false
def Zfm:SS->Bool
 | .ok _ ts=>Zq ts
 | .bad _=>false
def Zgf:SS->Bool
 | .ok _ ts=>ZA ts
 | .bad _=>false
def Xg:SS->SS
 | .ok d ts=>.ok d ts.tail
 | .bad e=>.bad e
def Yk (w:Bs):SS->SS
 | .ok d ts=>if isW ts [w]=true then .ok d ts.tail else .bad 150
 | .bad e=>.bad e
def Wh (w:Bs):SS->SS
 | .ok d ts=>if isW ts [w]=true then (if d=0 then .bad 151 else .ok (d - 1) ts.tail) else .bad 150
 | .bad e=>.bad e
def Zbg (w:Bs):SS->SS
 | .ok d ts=>if isW ts [w]=true then .ok (d+1) ts.tail else .bad 150
 | .bad e=>.bad e
def YW:SS->SS
 | .ok d ts=>if Zq ts=true then .ok d ts.tail else .bad 150
 | .bad e=>.bad e
def Wi (n m:Int) (S:SS):SS:=if n>=m then Zi8 3 S else S
def ZM {α:Type} (P:Nat->Ts->R α):SS->SS
 | .ok d ts=>match P d ts with
  | .ok _ ts'=>.ok d ts'
  | .err _ e=>.bad e
 | .bad e=>.bad e
def VO:Zt:=qSp fun rest S K=>match rest with
 | [.d (.int .i64 e)]=>∃n:Nat,e=n/\0<n/\K (.tuple []) (Zi8 n S)
 | _=>False
def VP:Zt:=qSp fun rest S K=>match rest with
 | []=>∀p:Int,K (.d (.int .i64 p)) S
 | _=>False
def XS:Zt:=qSp fun rest S K=>match rest with
 | [.d (.int .i64 m),.d (.str w)]=>∃n:Nat,m=n/\n<=1/\∀b,YV n w S=b->K (.d (.bool b)) S
 | _=>False
def Jx:Zt:=qSp fun rest S K=>match rest with
 | [.d (.int .i64 m)]=>m=0/\∀b,Zfm S=b->K (.d (.bool b)) S
 | _=>False
def Ja:Zt:=qSp fun rest S K=>match rest with
 | []=>∀b,Zgf S=b->K (.d (.bool b)) S
 | _=>False
def VQ:Zt:=qSp fun rest S K=>match rest with
 | [.d (.str w)]=>∀S',Yk w S=S'->K (.tuple []) S'
 | _=>False
def Jb:Zt:=qSp fun rest S K=>match rest with
 | [.d (.str w)]=>∀S',Wh w S=S'->K (.tuple []) S'
 | _=>False
def Zar:Zt:=qSp fun rest S K=>match rest with
 | [.d (.str w)]=>(∀d ts,S=.ok d ts->d<64)/\∀S',Zbg w S=S'->K (.tuple []) S'
 | _=>False
def VR:Zt:=qSp fun rest S K=>match rest with
 | []=>∀S' s,YW S=S'->K (.d (.str s)) S'
 | _=>False
def ZbX:Zt:=qSp fun rest S K=>match rest with
 | [.d (.int .i64 n),.d (.int .i64 m)]=>∀S',Wi n m S=S'->K (.tuple []) S'
 | _=>False
theorem RQ.at' {L:List Tok} {a:Int} {ts:Ts} (hr:RQ L a ts) (n:Nat) (h:a+n<L.length):∃x,(Zy L)[(a+n).toNat]?=some (ZqJ x)/\hd (ts.drop n)=x.t0/\ts.drop n≠[]/\1<=x.kind/\x.kind<=4:=by
 have h0:=hr.lo;have ab:=hr.len;have ah:(a+n).toNat<L.length:=oM;have hq:ts.drop n=L[(a+n).toNat].t0::ts.drop (n+1):=by
  exact m126
 exact ⟨L[(a+n).toNat],by simp [Zy,ah],by rw [hq];rfl,by rw [hq];simp,hr.kinds _ (TD ah)⟩
theorem RQ.nam {L:List Tok} {a:Int} {ts:Ts} (hr:RQ L a ts) (n:Nat):(hd (ts.drop n)).kind=1->(hd (ts.drop n)).text≠[40]:=by
 by_cases h:a+n<L.length
 ·have h0:=hr.lo;have ah:(a+n).toNat<L.length:=oM;have hq:ts.drop n=L[(a+n).toNat].t0::ts.drop (n+1):=by
   exact m126
  rw [hq];exact hr.names _ (TD ah)
 have ab:=hr.len;rw [Tz oM];intro h;exact absurd h dM
theorem RQ.at0 {L:List Tok} {a:Int} {ts:Ts} (hr:RQ L a ts) (h:a<L.length):∃x,(Zy L)[a.toNat]?=some (ZqJ x)/\hd ts=x.t0/\ts≠[]/\1<=x.kind/\x.kind<=4:=by
 have g:=hr.at' 0 (by simpa using h);simpa using g
theorem VD:PC w0 nG 81 VO:=by
 refine Zd Zb mixed (tbl:=[]) trivial Tryz.func81 rfl kR kR ?_;intro args σ K h
 unfold VO qSp at h
 split at h
 ·rename_i t rows a en dp w pl
  obtain ⟨L,S,rfl,ho,h⟩:=h;split at h
  ·rename_i e
   obtain ⟨n,rfl,hn,h⟩:=h;obtain ⟨r1,r2,r3⟩:=ho.rg;refine ⟨Za [],1,false,sM,Ta rfl,wN ?_⟩;refine ZBE (fun hw=>?_) (fun hw=>?_)
   ·obtain ⟨f,rfl,hf,hf0⟩:=ho.w1 hw;(conv=>whnf);exact h _ _ _ _ ho
   obtain ⟨d,ts,rfl,hr⟩:=ho.wz (by simpa using hw);(conv=>whnf);refine ZBC (fun hc=>wN ?_) (fun hc=>wN ?_)
   ·have hc:a<L.length:=by have hc:a<((Zy L).length:Int):=hc;rw [ZG] at hc;exact hc
    have hx:(Zy L)[a.toNat]?=some (ZqJ L[a.toNat]):=by simp [Zy,show a.toNat<L.length by omega]
    refine ⟨_,oM,hx,wN ?_⟩
    (repeat (refine ⟨rfl,?_⟩;conv=>whnf))
    exact h _ _ _ _ (ho.fail n hn)
   exact h _ _ _ _ (ho.fail n hn)
  exact h.elim
 exact h.elim
theorem VE:PC w0 nG 147 VP:=by
 refine Zd Zb mixed (tbl:=[]) trivial Tryz.func147 rfl kR kR ?_;intro args σ K h
 unfold VP qSp at h
 split at h
 ·rename_i rest t rows a en dp w pl
  obtain ⟨L,S,rfl,ho,h⟩:=h;split at h
  ·obtain ⟨r1,r2,r3⟩:=ho.rg;refine ⟨Za [],1,false,sM,Ta rfl,wN ?_⟩;refine ZBC (fun hc=>wN ?_) (fun hc=>wN ?_)
   ·have hc:a<L.length:=by have hc:a<((Zy L).length:Int):=hc;rw [ZG] at hc;exact hc
    have hx:(Zy L)[a.toNat]?=some (ZqJ L[a.toNat]):=by simp [Zy,show a.toNat<L.length by omega]
    refine ⟨_,oM,hx,wN ?_⟩;exact h _ _ _ _ _ ho
   exact h _ _ _ _ _ ho
  exact h.elim
 exact h.elim
theorem Xx:PC w0 nG 79 XS:=by
 refine Zd Zb mixed (tbl:=[]) trivial Tryz.func79 rfl kR kR ?_;intro args σ K h
 unfold XS qSp at h
 split at h
 ·rename_i t rows a en dp w pl
  obtain ⟨L,S,rfl,ho,h⟩:=h;split at h
  ·rename_i m wd
   obtain ⟨n,rfl,hn,h⟩:=h;obtain ⟨r1,r2,r3⟩:=ho.rg;refine ⟨Za [],1,false,sM,Ta rfl,wN ?_⟩;refine Or.inl ⟨InR.i64 oM oM,wN ?_⟩;refine ZBE (fun hw=>?_) (fun hw=>?_)
   ·exact m160
   obtain ⟨d,ts,rfl,hr,d7,bf⟩:=ho.wz (by simpa using hw);have ab:=hr.len;(conv=>whnf);refine ZBC (fun hc=>wN ?_) (fun hc=>wN ?_)
   ·have hc:(L.length:Int)<=a+n:=by have hc:a+n>=((Zy L).length:Int):=hc;rw [ZG] at hc;exact hc
    exact h _ (by rw [YV,Tz oM];rfl) _ _ _ _ ho
   have hc:¬(L.length:Int)<=a+n:=by have hc:¬a+n>=((Zy L).length:Int):=hc;rw [ZG] at hc;exact hc
   obtain ⟨x,hx,fy,an,j9⟩:=hr.at' n oM;have hv:YV n wd (.ok d ts)=((decide (x.kind=1) || decide (x.kind=4)) && (x.text == wd)):=by
    simp only [YV,isW,fy,Sm,Ss,T8];rfl
   refine ⟨_,oM,hx,wN ?_⟩;refine ZBC (fun h1=>wN ?_) (fun h1=>wN ?_)
   ·refine ZBC (fun h2=>wN ?_) (fun h2=>wN ?_)
    ·have h2:x.kind=1:=by have h2:(x.kind:Int)=1:=h2;omega
     exact h _ (by rw [hv,h1,h2];simp) _ _ _ _ ho
    have h2:¬x.kind=1:=by have h2:¬(x.kind:Int)=1:=h2;omega
    exact h _ (by rw [hv,h1];simp [h2];omega) _ _ _ _ ho
   have h1:(x.text == wd)=false:=by simpa using h1
   exact h _ (by rw [hv,h1,Bool.and_false]) _ _ _ _ ho
  exact h.elim
 exact h.elim
end Go.PM.Lex
end
