/- A part of the proof: plain logic, contracts and laws over the given program. -/
import Derived.Test.YtipdifmlclblhaaGreatDoorMore
import Derived.Lib.AppendIntMem
import Derived.WalkKit
import Derived.Test.YtipdifmlclblhaaGreatDoorG07
set_option linter.unusedVariables false
set_option linter.unusedSimpArgs false
set_option linter.all false
set_option maxRecDepth 100000
set_option maxHeartbeats 16000000
section
namespace Go.PM.Lex
open Go.Proofs
variable {w0:World} {nG:Nat}
theorem ZsK {n:Nat} (h:ZmJ n=none):Zda [10,9,34,92] n=-1:=by
 unfold ZmJ at h
 split at h;· cases h
 split at h;· cases h
 split at h;· cases h
 split at h;· cases h
 rename_i h1 h2 h3 h4
 unfold Zda
 split
 ·rename_i h5
  have hc:([10,9,34,92]:Bs).contains ((n:Int).toNat.toUInt8)=false:=by
   have b1:=Uj (n:=n) (k:=10) oM oM h1;have b2:=Uj (n:=n) (k:=9) oM oM h2;exact m100
  rw [Lib.contains_iff_indexByte,decide_eq_false_iff_not] at hc;have:=Lib.indexByte_ge [10,9,34,92] ((n:Int).toNat.toUInt8);omega
 rfl
theorem ZsL {n:Nat} {b:UInt8} (h:ZmJ n=some b):(Zda [10,9,34,92] n=0/\b=110)\/(Zda [10,9,34,92] n=1/\b=116)\/(Zda [10,9,34,92] n=2/\b=34)\/(Zda [10,9,34,92] n=3/\b=92):=by
 unfold ZmJ at h
 exact m61
noncomputable def JF:Zo:=fun args σ K=>match args,σ with
 | [.d (.str s)],⟨[],[],0⟩=>s.length<4294967281/\(Ja s=none->K (.ret (.tuple [.d (.str []),.d (.bool false)])) ⟨[],[],0⟩)/\(∀q,Ja s=some q->K (.ret (.tuple [.d (.str q),.d (.bool true)])) ⟨[],[],0⟩)
 | _,_=>False
theorem Zh6:ZK JF:=fun args σ K K' hK h=>by
 unfold JF at h |-
 split at h
 ·exact ⟨h.1,fun g=>hK _ _ (h.2.1 g),fun q g=>hK _ _ (h.2.2 q g)⟩
 exact h.elim
def ZCK (B:Nat):List PV->St->Nat:=fun _ σ=>match σ.bx with | [_,.iter _ p]=>B - p | _=>0
theorem ZsN (ht:TO w0 nG [(207,Zjv),(208,VD),(209,Ws),(210,VE),(40,Zcb)]):PC w0 nG 171 JF:=by
 refine Zd Zc mixed ht Tryz.func171 rfl kR kR ?_;intro args σ K h
 unfold JF at h
 split at h
 ·rename_i s
  obtain ⟨hs,dv,dx⟩:=h;refine ⟨Zb [(6,⟨[],[4,13],fun vs σ=>vs=[]/\∃(out:Bs) (i f:Nat),σ=⟨[.cells 113 [.ptr 0 0,.sl 0 5 (Zj out)],.iter s i],[0],1⟩/\(i<=s.length/\s.length<i+f/\out.length<=4 * i+1)/\VK f (s.drop i) out=VK (s.length+1) s [34],ZCK s.length⟩)],0,false,sM,Ta rfl,wN ?_⟩;refine ⟨oM,wN ?_⟩;refine ZDg (fun h1=>wN ?_) (fun h1=>wN ?_)
  ·have hv:Lib.validD s=false:=by simpa using h1
   exact dv (by unfold Ja;rw [Tg (by rw [hv];simp)])
  have hv:Lib.validD s=true:=by simpa using h1
  have hq:Ja s=(VK (s.length+1) s [34]).map (·++[34]):=by unfold Ja;rw [Tj hv]
  refine ⟨⟨.inl rfl,rfl,rfl,sM,sM⟩,wN ?_⟩;refine ⟨⟨rfl,[34],0,s.length+1,rfl,⟨oM,oM,sM⟩,by rw [SE]⟩,?_⟩;intro vs σ1 hI
  obtain ⟨rfl,out,i,f,rfl,⟨xp,af,hol⟩,f7⟩:=hI;obtain ⟨f,rfl⟩:∃g,f=g+1:=⟨f - 1,oM⟩
  have cj:=ZeZ out;have cq:=Ze0 out;have bp:=ZeX s i;have ju:=Zgb (s.drop i);have ja:=Lib.decodeL_le (s.drop i);rw [TA] at ja;(conv=>whnf);refine ZDc (fun h2=>wN ?_) (fun h2=>wN ?_)
  ·have ao:s.drop i≠[]:=fun g=>by have:=congrArg List.length g;rw [TA] at this;simp at this;omega
   have g3:i+(decodeL s i).2<=s.length:=by rw [bp];have:=ja ao;omega
   have pb:1<=(decodeL s i).2:=by rw [bp];omega
   refine ⟨⟨.inr rfl,oM,by rw [bp];omega⟩,wN ?_⟩;generalize hk:Zda _ _=k;have lc:Zda [10,9,34,92] ((Lib.decodeL (s.drop i)).1:Int)=k:=by rw [<- bp];exact hk
   cases hE:ZmJ (Lib.decodeL (s.drop i)).1 with
   | some b =>
    have g1:VK f (s.drop (i+(decodeL s i).2)) (out++[92,b])=VK (s.length+1) s [34]:=by rw [<- f7,bp];simp [VK,ao,hE,TF]
    rcases ZsL hE with ⟨e1,rfl⟩ | ⟨e1,rfl⟩ | ⟨e1,rfl⟩ | ⟨e1,rfl⟩
    all_goals (rw [e1] at lc;subst lc)
    all_goals (conv=>whnf)
    all_goals (refine ⟨⟨.inr rfl,rfl,rfl,cj,oM⟩,?_⟩)
    all_goals (conv=>whnf)
    all_goals (refine ⟨oM,by first | omega | (simp;done) | (simp;omega),?_⟩)
    all_goals (conv=>whnf)
    all_goals (refine ⟨⟨.inr rfl,rfl,rfl,fun r hr=>by (rcases TN.1 hr with hr | hr;exact cj r hr;simp at hr;subst hr;rfl),by rw [Tb];simp;omega⟩,?_⟩)
    all_goals (conv=>whnf)
    all_goals (refine ⟨⟨rfl,_,_,f,?_,⟨g3,oM,?_⟩,g1⟩,?_⟩)
    all_goals (first | (rw [Vi,Tk];rfl) | (rw [Tb];simp;omega) | exact (show s.length - (i+(decodeL s i).2)<s.length - i by omega))
   | none =>
   rw [ZsK hE] at lc;subst lc;(conv=>whnf);refine ZDc (fun h5=>wN ?_) (fun h5=>wN ?_)
   ·have fp:(Lib.decodeL (s.drop i)).1<32:=by rw [bp] at h5;omega
    refine dv ?_;rw [hq,<- f7];simp [VK,ao,hE,fp]
   have fp:¬(Lib.decodeL (s.drop i)).1<32:=by rw [bp] at h5;omega
   have g1:VK f (s.drop (i+(decodeL s i).2)) (out++Lib.encodeRune ((decodeL s i).1:Int))=VK (s.length+1) s [34]:=by rw [<- f7,bp];simp [VK,ao,hE,fp,TF]
   have hen:=Zjh ((decodeL s i).1:Int);refine ⟨⟨.inr rfl,rfl,rfl,cj,oM,oM,by rw [bp];omega⟩,wN ?_⟩;refine ⟨⟨rfl,_,_,f,?_,⟨g3,oM,?_⟩,g1⟩,?_⟩
   ·rw [Vi];rfl
   ·rw [Tb];omega
   exact (show s.length - (i+(decodeL s i).2)<s.length - i by omega)
  have eu:s.drop i=[]:=TJ oM;have g1:VK (s.length+1) s [34]=some out:=by rw [<- f7];simp [VK,eu]
  refine ⟨⟨.inr rfl,rfl,rfl,cj,oM⟩,wN ?_⟩;refine ⟨out++[34],⟨by rw [Jw];rfl,rfl,rfl,.inr rfl,by rw [Tb];simp;omega⟩,wN ?_⟩;exact dx _ (by rw [hq,g1];rfl)
 exact h.elim
def ZsO (s:Bs):Bool:=Zl (pk s).1 && decide (VC s=s.length)
noncomputable def Zgl:Zo:=fun args σ K=>match args,σ with
 | [.d (.str s)],⟨[],[],0⟩=>s.length<4294967281/\K (.ret (.d (.bool (ZsO s)))) ⟨[],[],0⟩
 | _,_=>False
theorem ZBg (ht:TO w0 nG [(163,Zbz),(164,UK),(165,Zhv)]):PC w0 nG 108 Zgl:=by
 refine Zd Zc mixed ht Tryz.func108 rfl kR kR ?_;intro args σ K h
 unfold Zgl at h
 split at h
 ·rename_i s
  obtain ⟨hs,h⟩:=h;refine ⟨Zb [],0,false,dM,Ta rfl,wN ?_⟩;have sq:=WP (s.drop (Int.toNat 0));have hd:s.drop (Int.toNat 0)=s:=SE;refine ⟨⟨oM,oM⟩,wN ?_⟩;refine ⟨⟨sq.1,oM⟩,wN ?_⟩;refine ZDg (fun h1=>wN ?_) (fun h1=>wN ?_)
  ·have mq:Zl (pk s).1=true:=by rw [<- hd];exact h1
   refine ⟨⟨oM,oM,hs⟩,wN ?_⟩;refine Zkz h ?_;rw [ZsO,mq,TP,decide_eq_decide,hd];omega
  have mq:Zl (pk s).1=false:=by rw [<- hd];exact h1
  rw [ZsO,mq] at h;exact h
 exact h.elim
def Xc (s:Bs):Bool:=ZsO s && (!decide (s=[95]) && !Zml s)
def ZO (op:Nat):Nat:=if op=16 then 0 else if op=17 then 0 else if op=15 then 1 else if op=18 then 2 else if op=19 then 2 else if op=10 then 3 else if op=11 then 3 else if op=12 then 4 else if op=13 then 4 else if op=14 then 4
 else if op=8 then 5 else if op=9 then 5 else if op=20 then 6 else if op=21 then 6 else if op=22 then 6 else if op=23 then 6 else if op=24 then 6 else if op=25 then 6 else if op=6\/op=7 then 6 else if op=1\/op=2\/op=3\/op=4\/op=5 then 6 else 0
def VL (op:Nat):Bs:=if op=16 then [98,111,114] else if op=17 then [98,120,111,114] else if op=15 then [98,97,110,100] else if op=18 then [115,104,108] else if op=19 then [115,104,114] else if op=10 then [43] else if op=11 then [45] else if op=12 then [42] else if op=13 then [47] else if op=14 then [37]
 else if op=8 then [45] else if op=9 then [126] else if op=20 then [99,97,116] else if op=21 then [115,116,114,108,101,110] else if op=22 then [115,117,98,115,116,114] else if op=23 then [99,111,100,101] else if op=24 then [115,116,114] else if op=25 then [110,117,109] else []
def VX (op:Nat):Int:=if op=16 then 2 else if op=17 then 2 else if op=15 then 2 else if op=18 then 2 else if op=19 then 2 else if op=10 then 2 else if op=11 then 2 else if op=12 then 2 else if op=13 then 2 else if op=14 then 2
 else if op=8 then 1 else if op=9 then 1 else if op=20 then 2 else if op=21 then 1 else if op=22 then 3 else if op=23 then 1 else if op=24 then 1 else if op=25 then 1 else if op=6\/op=7 then -1 else if op=1\/op=2\/op=3\/op=4\/op=5 then 0 else -2
def VY (op:Nat) (text:Bs):Bool:=if op=1\/op=7 then Xc text else if op=4 then (Ja text).isSome else decide (text=[])
mutual
def Z9:Ex->Bool
 | .mk op text n args _=>decide (-2<VX op) && ((decide (VX op<0) || decide ((args.length:Int)=VX op)) && ((decide (n=0) || decide (op=3)) && (VY op text && Zp0 args)))
def Zp0:List Ex->Bool
 | []=>true
 | e::l=>Z9 e && Zp0 l
end
theorem Zs (l:List Ex):Zp0 l=l.all Z9:=by induction l with | nil=>rfl | cons x l ih=>simp [Zp0,ih]
def Y5 (op:Nat) (rel:Bs) (args body:Nat):Bool :=
 if op=1\/op=2 then Xc rel && !decide (0<body)
 else if 3<=op/\op<=8 then decide (rel=[]) && (decide (args=2) && !decide (0<body))
 else if op=9 then decide (rel=[]) && (decide (args=1) && decide (0<body))
 else if 9<op/\op<=12 then decide (rel=[]) && (decide (args=2) && decide (0<body)) else false
mutual
def Y7:Li->Bool
 | .mk op rel args body _=>Y5 op rel args.length body.length && (Zp0 args && ZsP body)
def ZsP:List Li->Bool
 | []=>true
 | e::l=>Y7 e && ZsP l
end
theorem WR (l:List Li):ZsP l=l.all Y7:=by induction l with | nil=>rfl | cons x l ih=>simp [ZsP,ih]
def XX (r:Ru):Bool:=Xc r.head && (r.args.all Z9 && r.body.all Y7)
def YQ (f:Fi):Bool:=Xc f.name && Xc f.typ
def Xq (c:Ca):Bool:=Xc c.name && c.fields.all YQ
def Za6 (t:Ty):Bool:=if t.kind=1 then Xc t.base && (decide (t.fields.length=0) && decide (t.cases.length=0)) else if t.kind=2 then decide (t.base=[]) && decide (t.cases.length=0)
 else if t.kind=3 then decide (t.base=[]) && (decide (t.fields.length=0) && !decide (t.cases.length=0)) else false
def Ya (t:Ty):Bool:=Za6 t && (Xc t.name && (t.fields.all YQ && t.cases.all Xq))
def X9 (d:Re):Bool:=Xc d.name && d.fields.all YQ
def Ww (i:Ini):Bool:=Xc i.name && (Xc i.comp && i.types.all Xc)
def W2 (o:Ov):Bool:=Xc o.rel
mutual
def ZdA:Un->Bool
 | .mk tys rels rules comps inits overs=>tys.all Ya && (rels.all X9 && (rules.all XX && (Zle comps && (inits.all Ww && overs.all W2))))
def Z7:Co->Bool
 | .mk nm ps base tys u _=>Xc nm && (ps.all Xc && (tys.all Xc && (((decide (base=[]) && decide (tys.length=0)) || Xc base) && ZdA u)))
def Zle:List Co->Bool
 | []=>true
 | c::l=>Z7 c && Zle l
end
theorem Wx (l:List Co):Zle l=l.all Z7:=by induction l with | nil=>rfl | cons x l ih=>simp [Zle,ih]
def Zip (d:Nat):UInt8:=if d<10 then UInt8.ofNat (48+d) else UInt8.ofNat (87+d)
def JG (base:Nat):Nat->Nat->Bs
 | 0,_=>[]
 | f+1,n=>if n<base then [Zip n] else JG base f (n / base)++[Zip (n % base)]
def Vm (base n:Nat):Bs:=JG base (n+1) n
def Zfb (n:Int):Bs:=if n<0 then [48,120]++Vm 16 (n+18446744073709551616).toNat else Vm 10 n.toNat
def Zwb (s:Bs):Bs:=(Ja s).getD []
def Zg (sep:Bs):List Bs->Bs
 | []=>[]
 | [x]=>x
 | x::l=>x++(sep++Zg sep l)
def cmm:Bs:=[44,32]
def opE:Ex->Nat | .mk op _ _ _ _=>op
def ZsQ (want:Nat) (p:Nat×Bs):Bs:=if p.1<want then [40]++(p.2++[41]) else p.2
def exA (w1 w2:Nat) (sep:Bs):List (Nat×Bs)->Bs
 | []=>[]
 | [a]=>ZsQ w1 a
 | a::b::_=>ZsQ w1 a++(sep++ZsQ w2 b)
def exN (op:Nat) (text:Bs) (n:Int) (ps:List (Nat×Bs)):Bs :=
 if ZO op<5 then exA (ZO op) (ZO op+1) ([32]++(VL op++[32])) ps
 else if ZO op=5 then VL op++exA 5 5 [] ps
 else if VL op≠[] then VL op++([40]++(Zg cmm (ps.map Prod.snd)++[41]))
 else if op=6 then [91]++(Zg cmm (ps.map Prod.snd)++[93])
 else if op=7 then [36]++(text++(if ps.length=0 then [] else [40]++(Zg cmm (ps.map Prod.snd)++[41])))
 else if op=3 then Zfb n
 else if op=4 then Zwb text
 else if op=5 then [110,105,108]
 else if op=2 then [95]
 else text
mutual
def exT:Ex->Bs
 | .mk op text n args _=>exN op text n (Zp1 args)
def Zp1:List Ex->List (Nat×Bs)
 | []=>[]
 | e::l=>(ZO (opE e),exT e)::Zp1 l
end
theorem Zp2 (l:List Ex):Zp1 l=l.map fun e=>(ZO (opE e),exT e):=by induction l with | nil=>rfl | cons x l ih=>simp [Zp1,ih]
theorem Zcf (l:List Ex):(Zp1 l).length=l.length:=by rw [Zp2,Tf]
def exW (want:Nat) (e:Ex):Bs:=ZsQ want (ZO (opE e),exT e)
def ZyQ (l:List Ex):List Bs:=l.map exT
theorem UN (l:List Ex):(Zp1 l).map Prod.snd=ZyQ l:=by rw [Zp2,List.map_map];rfl
def argT (fr fin:Bs) (l:List Ex):Bs:=fr++(Zg cmm (ZyQ l)++fin)
def Zwc (op:Nat):Bs:=if op=3 then [32,61,32] else if op=4 then [32,33,61,32] else if op=5 then [32,60,32] else if op=6 then [32,60,61,32] else if op=7 then [32,62,32] else [32,62,61,32]
def Zjw (op:Nat):Bs:=if op=9 then [99,111,117,110,116] else if op=10 then [115,117,109] else if op=11 then [109,105,110] else [109,97,120]
def ZsR (l:List Ex):Bs:=(l.map fun e=>[32]++exT e).flatten
def Zlf:List Ex->Bs
 | []=>[]
 | e::_=>exT e
mutual
def liT:Li->Bs
 | .mk op rel args body _ =>
  if op=2 then [33]++(rel++argT [40] [41] args)
  else if op=1 then rel++argT [40] [41] args
  else if op<=8 then Zlf args++(Zwc op++Zlf args.tail)
  else Zlf args++([32,61,32]++(Zjw op++(ZsR args.tail++([32,58,32,123,32]++(Zg cmm (Zrx body)++[32,125])))))
def Zrx:List Li->List Bs
 | []=>[]
 | e::l=>liT e::Zrx l
end
theorem ZdB (l:List Li):Zrx l=l.map liT:=by induction l with | nil=>rfl | cons x l ih=>simp [Zrx,ih]
def ruT (r:Ru):Bs:=r.head++(argT [40] [41] r.args++((if 0<r.body.length then [32,58,45,32]++Zg cmm (Zrx r.body) else [])++[46]))
def fiT (f:Fi):Bs:=f.name++([58,32]++f.typ)
def Vn (fr:Bs) (l:List Fi) (fin:Bs):Bs:=fr++(Zg cmm (l.map fiT)++fin)
def JL (l:List Bs):Bs:=if l.length=0 then [] else [60]++(Zg cmm l++[62])
def caT (c:Ca):Bs:=Vn (c.name++[32,123]) c.fields [125]
def tyT (t:Ty):Bs:=[116,121,112,101,32]++(t.name++((if t.kind=1 then [32,60,58,32]++t.base else if t.kind=2 then Vn [32,61,32,91] t.fields [93] else [32,61,32]++Zg [32,124,32] (t.cases.map caT))++[10]))
def reT (d:Re):Bs:=Vn ([100,101,99,108,32]++(d.name++[40])) d.fields [41]++((if d.inn then [32,105,110,112,117,116] else [])++((if d.out then [32,111,117,116,112,117,116] else [])++((if d.inl then [32,105,110,108,105,110,101] else [])++[10])))
def inT (i:Ini):Bs:=[105,110,105,116,32]++(i.name++([32,61,32]++(i.comp++(JL i.types++[10]))))
def ovT (o:Ov):Bs:=[111,118,101,114,114,105,100,101,32]++(o.rel++[10])
mutual
def unT:Un->Bs
 | .mk tys rels rules comps inits overs=>(tys.map tyT).flatten++((rels.map reT).flatten++((Zwd comps).flatten++((inits.map inT).flatten++((overs.map ovT).flatten++(rules.map fun r=>ruT r++[10]).flatten))))
def coT:Co->Bs
 | .mk nm ps base tys u _=>[99,111,109,112,32]++(nm++(JL ps++((if base=[] then [] else [32,58,32]++(base++JL tys))++([32,123,10]++(unT u++[125,10])))))
def Zwd:List Co->List Bs
 | []=>[]
 | c::l=>coT c::Zwd l
end
theorem Zwe (l:List Co):Zwd l=l.map coT:=by induction l with | nil=>rfl | cons x l ih=>simp [Zwd,ih]
mutual
def wE:Ex->Nat
 | .mk _ t _ args _=>1+t.length+wEs args
def wEs:List Ex->Nat
 | []=>0
 | x::l=>1+wE x+wEs l
end
theorem Jb:∀(l:List Ex),wEs l=szS wE l
 | []=>by rw [wEs,szS]
 | x::l=>by rw [wEs,szS,Jb l]
mutual
def wL:Li->Nat
 | .mk _ r a b _=>1+r.length+szS wE a+wLs b
def wLs:List Li->Nat
 | []=>0
 | x::l=>1+wL x+wLs l
end
theorem Ur:∀(l:List Li),wLs l=szS wL l
 | []=>by rw [wLs,szS]
 | x::l=>by rw [wLs,szS,Ur l]
def wRu (r:Ru):Nat:=1+r.head.length+szS wE r.args+szS wL r.body
def wFi (f:Fi):Nat:=1+f.name.length+f.typ.length
def wCa (c:Ca):Nat:=1+c.name.length+szS wFi c.fields
def wTy (t:Ty):Nat:=1+t.name.length+t.base.length+szS wFi t.fields+szS wCa t.cases
def wRe (d:Re):Nat:=1+d.name.length+szS wFi d.fields
def wBs (s:Bs):Nat:=1+s.length
def wIn (i:Ini):Nat:=1+i.name.length+i.comp.length+szS wBs i.types
def wOv (o:Ov):Nat:=1+o.rel.length
mutual
def wUn:Un->Nat
 | .mk a1 a2 a3 a4 a5 a6=>1+szS wTy a1+szS wRe a2+szS wRu a3+ZsS a4+szS wIn a5+szS wOv a6
def wCo:Co->Nat
 | .mk n p b t u _=>1+n.length+szS wBs p+b.length+szS wBs t+wUn u
def ZsS:List Co->Nat
 | []=>0
 | x::l=>1+wCo x+ZsS l
end
theorem W3:∀(l:List Co),ZsS l=szS wCo l
 | []=>by rw [ZsS,szS]
 | x::l=>by rw [ZsS,szS,W3 l]
abbrev YJ {α:Type} (enc:Pl->α->List D):Pl->α->PV:=fun pl x=>.agg ((enc pl x).map .d)
abbrev Ziq:Pl->Bs->PV:=fun _ s=>.d (.str s)
noncomputable def YZ {α:Type} (val:Pl->α->PV) (p:α->Bool) (w:α->Nat) (n:Nat):Zo:=fun args σ K=>match args,σ with
 | [v],⟨[],[],0⟩=>∃pl x,v=val pl x/\(w x<=n/\n<=1073741824)/\∀b,p x=b->K (.ret (.d (.bool b))) ⟨[],[],0⟩
 | _,_=>False
noncomputable def US {α:Type} (h0:FuncId) (val:Pl->α->PV) (p:α->Bool) (w:α->Nat) (n:Nat):Zo:=fun args σ K=>match args,σ with
 | [v,.ptr 0 0],⟨[.cells t [.func h' [] []]],[],0⟩=>∃pl x,v=val pl x/\(h'=h0/\w x<=n/\n<=1073741824)/\∀b,(!p x)=b->K (.ret (.d (.bool b))) ⟨[.cells t [.func h' [] []]],[],0⟩
 | _,_=>False
noncomputable def UT {α:Type} (g0 h0:FuncId) (enc:Pl->α->List D) (p:α->Bool) (w:α->Nat) (n:Nat):Zo:=fun args σ K=>match args,σ with
 | [.d (.sl r),.func g' [] [.ptr 0 0]],⟨[.cells t [.func h' [] []]],[],0⟩=>∃pl l,r=l.map (enc pl)/\(g'=g0/\h'=h0/\szS w l<=n/\n<=1073741824)/\∀r:Int,(r<0↔l.all p=true)->K (.ret (.d (.int .i64 r))) ⟨[.cells t [.func h' [] []]],[],0⟩
 | _,_=>False
noncomputable def UU {α:Type} (g0 h0:FuncId) (enc:Pl->α->List D) (p:α->Bool) (w:α->Nat) (n:Nat):Zo:=fun args σ K=>match args,σ with
 | [.d (.sl r),.func g' [] [.ptr 0 0]],⟨[.cells t [.func h' [] []]],[],0⟩=>∃pl l,r=l.map (enc pl)/\(g'=g0/\h'=h0/\szS w l<=n/\n<=1073741824)/\∀b,(!l.all p)=b->K (.ret (.d (.bool b))) ⟨[.cells t [.func h' [] []]],[],0⟩
 | _,_=>False
noncomputable def Xy {α:Type} (h0:FuncId) (enc:Pl->α->List D) (p:α->Bool) (w:α->Nat) (n:Nat):Zo:=fun args σ K=>match args,σ with
 | [.d (.sl r),.func h' [] []],⟨[],[],0⟩=>∃pl l,r=l.map (enc pl)/\(h'=h0/\szS w l<=n/\n<=1073741824)/\∀b,l.all p=b->K (.ret (.d (.bool b))) ⟨[],[],0⟩
 | _,_=>False
theorem Xo {α:Type} (p:α->Bool) {l:List α} {i:Nat} (h:i<l.length):(l.drop i).all p=(p l[i] && (l.drop (i+1)).all p):=by rw [TH h,List.all_cons]
theorem Wy {α:Type} (p:α->Bool) {l:List α} {i:Nat} (h:l.length<=i):(l.drop i).all p=true:=by rw [TJ h];rfl
noncomputable def Zt6 (n:Nat):Tbl:=[(114,YZ (YJ YP) Z9 wE n)]
theorem ZyR {n:Nat} (ht:TO w0 nG (Zt6 n)):PC w0 nG 169 (US 114 (YJ YP) Z9 wE n):=by
 refine Zd Zc mixed (tbl:=Zt6 n) ht Tryz.func169 rfl kR kR ?_;exact m67
noncomputable def Zt7 (n:Nat):Tbl:=[(169,US 114 (YJ YP) Z9 wE n)]
theorem ZyS {n:Nat} (ht:TO w0 nG (Zt7 n)):PC w0 nG 206 (UT 169 114 YP Z9 wE n):=by
 refine Zd Zc mixed (tbl:=Zt7 n) ht Tryz.func206 rfl kR kR ?_;intro args σ K h
 unfold UT at h
 split at h
 ·obtain ⟨pl,l,rfl,⟨rfl,rfl,hz,hn⟩,h⟩:=h
  rename_i t
  have aa:(l.map (YP pl)).length=l.length:=Tf ..;have hsz:=Zv wE l;refine ⟨Zb [(2,⟨[8],[0,1,7],fun vs σ=>∃i:Nat,vs=[.d (.int .i64 i)]/\σ=⟨[.cells t [.func 114 [] []]],[],0⟩/\i<=l.length/\l.all Z9=(l.drop i).all Z9,mu1 l.length⟩)],1,false,sM,Ta rfl,wN ?_⟩;refine ⟨⟨0,rfl,rfl,oM,rfl⟩,?_⟩;intro vs σ hI
  obtain ⟨i,rfl,rfl,hi,hs⟩:=hI;(conv=>whnf);refine ZDc (fun af=>wN ?_) (fun af=>wN ?_)
  ·have af:i<l.length:=lzI aa af;have hg:=ZA wE l i af;rw [Xo _ af] at hs;obtain ⟨eA,hA⟩:∃e,l[i]=e:=⟨_,rfl⟩
   obtain ⟨a1,a2,a3,a4,a5⟩:=eA;have bi:(l.map (YP pl))[((i:Nat):Int).toNat]?=some (YP pl (.mk a1 a2 a3 a4 a5)):=by simp [af,hA]
   rw [hA] at hs hg;refine ⟨_,oM,bi,wN ?_⟩;refine ⟨pl,(.mk a1 a2 a3 a4 a5),rfl,⟨rfl,oM,oM⟩,fun b hb=>?_⟩
   cases b with
   | true =>
    have hp:Z9 (.mk a1 a2 a3 a4 a5)=false:=by simpa using hb
    exact m38
   | false =>
   have hp:Z9 (.mk a1 a2 a3 a4 a5)=true:=by simpa using hb
   exact m15
  exact m30
 exact h.elim
noncomputable def Zt8 (n:Nat):Tbl:=[(206,UT 169 114 YP Z9 wE n)]
theorem ZyT {n:Nat} (ht:TO w0 nG (Zt8 n)):PC w0 nG 168 (UU 169 114 YP Z9 wE n):=by
 refine Zd Zc mixed (tbl:=Zt8 n) ht Tryz.func168 rfl kR kR ?_;intro args σ K h
 unfold UU at h
 split at h
 ·obtain ⟨pl,l,rfl,⟨rfl,rfl,hz,hn⟩,h⟩:=h;refine ⟨Zb [],1,false,sM,Ta rfl,wN ?_⟩;refine ⟨pl,l,rfl,⟨rfl,rfl,hz,hn⟩,fun r hr=>wN ?_⟩;refine h _ ?_
  cases hb:l.all Z9 with
  | true=>rw [hb] at hr;have:=hr.2 rfl;simp;omega
  | false=>rw [hb] at hr;have:¬r<0:=fun g=>(by have:=hr.1 g;cases this);simp;omega
 exact h.elim
noncomputable def Zt9 (n:Nat):Tbl:=[(168,UU 169 114 YP Z9 wE n)]
theorem ZyU {n:Nat} (ht:TO w0 nG (Zt9 n)):PC w0 nG 113 (Xy 114 YP Z9 wE n):=by
 refine Zd Zc mixed (tbl:=Zt9 n) ht Tryz.func113 rfl kR kR ?_;exact m7
theorem ZAv {n:Nat} (h:PC w0 nG 114 (YZ (YJ YP) Z9 wE n)):PC w0 nG 113 (Xy 114 YP Z9 wE n) :=
 ZyU ⟨ZyT ⟨ZyS ⟨ZyR ⟨h,trivial⟩,trivial⟩,trivial⟩,trivial⟩
noncomputable def Zua (n:Nat):Tbl:=[(116,YZ (YJ XD) Y7 wL n)]
theorem ZyV {n:Nat} (ht:TO w0 nG (Zua n)):PC w0 nG 173 (US 116 (YJ XD) Y7 wL n):=by
 refine Zd Zc mixed (tbl:=Zua n) ht Tryz.func173 rfl kR kR ?_;exact m67
noncomputable def Zub (n:Nat):Tbl:=[(173,US 116 (YJ XD) Y7 wL n)]
theorem ZyW {n:Nat} (ht:TO w0 nG (Zub n)):PC w0 nG 211 (UT 173 116 XD Y7 wL n):=by
 refine Zd Zc mixed (tbl:=Zub n) ht Tryz.func211 rfl kR kR ?_;intro args σ K h
 unfold UT at h
 split at h
 ·obtain ⟨pl,l,rfl,⟨rfl,rfl,hz,hn⟩,h⟩:=h
  rename_i t
  have aa:(l.map (XD pl)).length=l.length:=Tf ..;have hsz:=Zv wL l;refine ⟨Zb [(2,⟨[8],[0,1,7],fun vs σ=>∃i:Nat,vs=[.d (.int .i64 i)]/\σ=⟨[.cells t [.func 116 [] []]],[],0⟩/\i<=l.length/\l.all Y7=(l.drop i).all Y7,mu1 l.length⟩)],1,false,sM,Ta rfl,wN ?_⟩;refine ⟨⟨0,rfl,rfl,oM,rfl⟩,?_⟩;intro vs σ hI
  obtain ⟨i,rfl,rfl,hi,hs⟩:=hI;(conv=>whnf);refine ZDc (fun af=>wN ?_) (fun af=>wN ?_)
  ·have af:i<l.length:=lzI aa af;have hg:=ZA wL l i af;rw [Xo _ af] at hs;obtain ⟨eA,hA⟩:∃e,l[i]=e:=⟨_,rfl⟩
   obtain ⟨a1,a2,a3,a4,a5⟩:=eA;have bi:(l.map (XD pl))[((i:Nat):Int).toNat]?=some (XD pl (.mk a1 a2 a3 a4 a5)):=by simp [af,hA]
   rw [hA] at hs hg;refine ⟨_,oM,bi,wN ?_⟩;refine ⟨pl,(.mk a1 a2 a3 a4 a5),rfl,⟨rfl,oM,oM⟩,fun b hb=>?_⟩
   cases b with
   | true =>
    have hp:Y7 (.mk a1 a2 a3 a4 a5)=false:=by simpa using hb
    exact m38
   | false =>
   have hp:Y7 (.mk a1 a2 a3 a4 a5)=true:=by simpa using hb
   exact m15
  exact m30
 exact h.elim
noncomputable def Zuc (n:Nat):Tbl:=[(211,UT 173 116 XD Y7 wL n)]
theorem ZyX {n:Nat} (ht:TO w0 nG (Zuc n)):PC w0 nG 172 (UU 173 116 XD Y7 wL n):=by
 refine Zd Zc mixed (tbl:=Zuc n) ht Tryz.func172 rfl kR kR ?_;intro args σ K h
 unfold UU at h
 split at h
 ·obtain ⟨pl,l,rfl,⟨rfl,rfl,hz,hn⟩,h⟩:=h;refine ⟨Zb [],1,false,sM,Ta rfl,wN ?_⟩;refine ⟨pl,l,rfl,⟨rfl,rfl,hz,hn⟩,fun r hr=>wN ?_⟩;refine h _ ?_
  cases hb:l.all Y7 with
  | true=>rw [hb] at hr;have:=hr.2 rfl;simp;omega
  | false=>rw [hb] at hr;have:¬r<0:=fun g=>(by have:=hr.1 g;cases this);simp;omega
 exact h.elim
noncomputable def Zud (n:Nat):Tbl:=[(172,UU 173 116 XD Y7 wL n)]
theorem ZyY {n:Nat} (ht:TO w0 nG (Zud n)):PC w0 nG 115 (Xy 116 XD Y7 wL n):=by
 refine Zd Zc mixed (tbl:=Zud n) ht Tryz.func115 rfl kR kR ?_;exact m7
theorem ZCd {n:Nat} (h:PC w0 nG 116 (YZ (YJ XD) Y7 wL n)):PC w0 nG 115 (Xy 116 XD Y7 wL n) :=
 ZyY ⟨ZyX ⟨ZyW ⟨ZyV ⟨h,trivial⟩,trivial⟩,trivial⟩,trivial⟩
noncomputable def Zp3 (n:Nat):Tbl:=[(64,YZ (YJ Z8) XX wRu n)]
theorem Zwf {n:Nat} (ht:TO w0 nG (Zp3 n)):PC w0 nG 112 (US 64 (YJ Z8) XX wRu n):=by
 refine Zd Zc mixed (tbl:=Zp3 n) ht Tryz.func112 rfl kR kR ?_;exact m71
noncomputable def Zp4 (n:Nat):Tbl:=[(112,US 64 (YJ Z8) XX wRu n)]
theorem Zwg {n:Nat} (ht:TO w0 nG (Zp4 n)):PC w0 nG 167 (UT 112 64 Z8 XX wRu n):=by
 refine Zd Zc mixed (tbl:=Zp4 n) ht Tryz.func167 rfl kR kR ?_;intro args σ K h
 unfold UT at h
 split at h
 ·obtain ⟨pl,l,rfl,⟨rfl,rfl,hz,hn⟩,h⟩:=h
  rename_i t
  have aa:(l.map (Z8 pl)).length=l.length:=Tf ..;have hsz:=Zv wRu l;refine ⟨Zb [(2,⟨[8],[0,1,7],fun vs σ=>∃i:Nat,vs=[.d (.int .i64 i)]/\σ=⟨[.cells t [.func 64 [] []]],[],0⟩/\i<=l.length/\l.all XX=(l.drop i).all XX,mu1 l.length⟩)],1,false,sM,Ta rfl,wN ?_⟩;refine ⟨⟨0,rfl,rfl,oM,rfl⟩,?_⟩;intro vs σ hI
  obtain ⟨i,rfl,rfl,hi,hs⟩:=hI;(conv=>whnf);refine ZDc (fun af=>wN ?_) (fun af=>wN ?_)
  ·have af:i<l.length:=lzI aa af;have hg:=ZA wRu l i af;rw [Xo _ af] at hs;obtain ⟨eA,hA⟩:∃e,l[i]=e:=⟨_,rfl⟩
   obtain ⟨a1,a2,a3,a4⟩:=eA;have bi:(l.map (Z8 pl))[((i:Nat):Int).toNat]?=some (Z8 pl ⟨a1,a2,a3,a4⟩):=by simp [af,hA]
   rw [hA] at hs hg;refine ⟨_,oM,bi,wN ?_⟩;refine ⟨pl,⟨a1,a2,a3,a4⟩,rfl,⟨rfl,oM,oM⟩,fun b hb=>?_⟩
   cases b with
   | true =>
    have hp:XX ⟨a1,a2,a3,a4⟩=false:=by simpa using hb
    exact m38
   | false =>
   have hp:XX ⟨a1,a2,a3,a4⟩=true:=by simpa using hb
   exact m15
  exact m30
 exact h.elim
noncomputable def Zp5 (n:Nat):Tbl:=[(167,UT 112 64 Z8 XX wRu n)]
theorem Zwh {n:Nat} (ht:TO w0 nG (Zp5 n)):PC w0 nG 111 (UU 112 64 Z8 XX wRu n):=by
 refine Zd Zc mixed (tbl:=Zp5 n) ht Tryz.func111 rfl kR kR ?_;intro args σ K h
 unfold UU at h
 split at h
 ·obtain ⟨pl,l,rfl,⟨rfl,rfl,hz,hn⟩,h⟩:=h;refine ⟨Zb [],1,false,sM,Ta rfl,wN ?_⟩;refine ⟨pl,l,rfl,⟨rfl,rfl,hz,hn⟩,fun r hr=>wN ?_⟩;refine h _ ?_
  cases hb:l.all XX with
  | true=>rw [hb] at hr;have:=hr.2 rfl;simp;omega
  | false=>rw [hb] at hr;have:¬r<0:=fun g=>(by have:=hr.1 g;cases this);simp;omega
 exact h.elim
noncomputable def Zp6 (n:Nat):Tbl:=[(111,UU 112 64 Z8 XX wRu n)]
theorem Zwi {n:Nat} (ht:TO w0 nG (Zp6 n)):PC w0 nG 63 (Xy 64 Z8 XX wRu n):=by
 refine Zd Zc mixed (tbl:=Zp6 n) ht Tryz.func63 rfl kR kR ?_;exact m7
theorem ZyZ {n:Nat} (h:PC w0 nG 64 (YZ (YJ Z8) XX wRu n)):PC w0 nG 63 (Xy 64 Z8 XX wRu n) :=
 Zwi ⟨Zwh ⟨Zwg ⟨Zwf ⟨h,trivial⟩,trivial⟩,trivial⟩,trivial⟩
noncomputable def Zp7 (n:Nat):Tbl:=[(62,YZ (YJ (fun _=>Zw)) YQ wFi n)]
theorem Zwj {n:Nat} (ht:TO w0 nG (Zp7 n)):PC w0 nG 110 (US 62 (YJ (fun _=>Zw)) YQ wFi n):=by
 refine Zd Zc mixed (tbl:=Zp7 n) ht Tryz.func110 rfl kR kR ?_;exact m43
noncomputable def Zp8 (n:Nat):Tbl:=[(110,US 62 (YJ (fun _=>Zw)) YQ wFi n)]
theorem Zwk {n:Nat} (ht:TO w0 nG (Zp8 n)):PC w0 nG 145 (UT 110 62 (fun _=>Zw) YQ wFi n):=by
 refine Zd Zc mixed (tbl:=Zp8 n) ht Tryz.func145 rfl kR kR ?_;intro args σ K h
 unfold UT at h
 split at h
 ·obtain ⟨pl,l,rfl,⟨rfl,rfl,hz,hn⟩,h⟩:=h
  rename_i t
  have aa:(l.map ((fun _=>Zw) pl)).length=l.length:=Tf ..;have hsz:=Zv wFi l;refine ⟨Zb [(2,⟨[8],[0,1,7],fun vs σ=>∃i:Nat,vs=[.d (.int .i64 i)]/\σ=⟨[.cells t [.func 62 [] []]],[],0⟩/\i<=l.length/\l.all YQ=(l.drop i).all YQ,mu1 l.length⟩)],1,false,sM,Ta rfl,wN ?_⟩;refine ⟨⟨0,rfl,rfl,oM,rfl⟩,?_⟩;intro vs σ hI
  obtain ⟨i,rfl,rfl,hi,hs⟩:=hI;(conv=>whnf);refine ZDc (fun af=>wN ?_) (fun af=>wN ?_)
  ·have af:i<l.length:=lzI aa af;have hg:=ZA wFi l i af;rw [Xo _ af] at hs;obtain ⟨eA,hA⟩:∃e,l[i]=e:=⟨_,rfl⟩
   obtain ⟨a1,a2⟩:=eA;have bi:(l.map ((fun _=>Zw) pl))[((i:Nat):Int).toNat]?=some ((fun _=>Zw) pl ⟨a1,a2⟩):=by simp [af,hA]
   rw [hA] at hs hg;refine ⟨_,oM,bi,wN ?_⟩;refine ⟨pl,⟨a1,a2⟩,rfl,⟨rfl,oM,oM⟩,fun b hb=>?_⟩
   cases b with
   | true =>
    have hp:YQ ⟨a1,a2⟩=false:=by simpa using hb
    exact m38
   | false =>
   have hp:YQ ⟨a1,a2⟩=true:=by simpa using hb
   exact m15
  exact m30
 exact h.elim
noncomputable def Zp9 (n:Nat):Tbl:=[(145,UT 110 62 (fun _=>Zw) YQ wFi n)]
theorem Zwl {n:Nat} (ht:TO w0 nG (Zp9 n)):PC w0 nG 82 (UU 110 62 (fun _=>Zw) YQ wFi n):=by
 refine Zd Zc mixed (tbl:=Zp9 n) ht Tryz.func82 rfl kR kR ?_;intro args σ K h
 unfold UU at h
 split at h
 ·obtain ⟨pl,l,rfl,⟨rfl,rfl,hz,hn⟩,h⟩:=h;refine ⟨Zb [],1,false,sM,Ta rfl,wN ?_⟩;refine ⟨pl,l,rfl,⟨rfl,rfl,hz,hn⟩,fun r hr=>wN ?_⟩;refine h _ ?_
  cases hb:l.all YQ with
  | true=>rw [hb] at hr;have:=hr.2 rfl;simp;omega
  | false=>rw [hb] at hr;have:¬r<0:=fun g=>(by have:=hr.1 g;cases this);simp;omega
 exact h.elim
noncomputable def Zqa (n:Nat):Tbl:=[(82,UU 110 62 (fun _=>Zw) YQ wFi n)]
theorem Zwm {n:Nat} (ht:TO w0 nG (Zqa n)):PC w0 nG 61 (Xy 62 (fun _=>Zw) YQ wFi n):=by
 refine Zd Zc mixed (tbl:=Zqa n) ht Tryz.func61 rfl kR kR ?_;exact m7
theorem ZBh {n:Nat} (h:PC w0 nG 62 (YZ (YJ (fun _=>Zw)) YQ wFi n)):PC w0 nG 61 (Xy 62 (fun _=>Zw) YQ wFi n) :=
 Zwm ⟨Zwl ⟨Zwk ⟨Zwj ⟨h,trivial⟩,trivial⟩,trivial⟩,trivial⟩
noncomputable def Zqb (n:Nat):Tbl:=[(105,YZ (YJ (fun _=>Zn)) Xq wCa n)]
theorem Zwn {n:Nat} (ht:TO w0 nG (Zqb n)):PC w0 nG 161 (US 105 (YJ (fun _=>Zn)) Xq wCa n):=by
 refine Zd Zc mixed (tbl:=Zqb n) ht Tryz.func161 rfl kR kR ?_;exact m43
noncomputable def Zqc (n:Nat):Tbl:=[(161,US 105 (YJ (fun _=>Zn)) Xq wCa n)]
theorem Zwo {n:Nat} (ht:TO w0 nG (Zqc n)):PC w0 nG 81 (UT 161 105 (fun _=>Zn) Xq wCa n):=by
 refine Zd Zc mixed (tbl:=Zqc n) ht Tryz.func81 rfl kR kR ?_;intro args σ K h
 unfold UT at h
 split at h
 ·obtain ⟨pl,l,rfl,⟨rfl,rfl,hz,hn⟩,h⟩:=h
  rename_i t
  have aa:(l.map ((fun _=>Zn) pl)).length=l.length:=Tf ..;have hsz:=Zv wCa l;refine ⟨Zb [(2,⟨[8],[0,1,7],fun vs σ=>∃i:Nat,vs=[.d (.int .i64 i)]/\σ=⟨[.cells t [.func 105 [] []]],[],0⟩/\i<=l.length/\l.all Xq=(l.drop i).all Xq,mu1 l.length⟩)],1,false,sM,Ta rfl,wN ?_⟩;refine ⟨⟨0,rfl,rfl,oM,rfl⟩,?_⟩;intro vs σ hI
  obtain ⟨i,rfl,rfl,hi,hs⟩:=hI;(conv=>whnf);refine ZDc (fun af=>wN ?_) (fun af=>wN ?_)
  ·have af:i<l.length:=lzI aa af;have hg:=ZA wCa l i af;rw [Xo _ af] at hs;obtain ⟨eA,hA⟩:∃e,l[i]=e:=⟨_,rfl⟩
   obtain ⟨a1,a2⟩:=eA;have bi:(l.map ((fun _=>Zn) pl))[((i:Nat):Int).toNat]?=some ((fun _=>Zn) pl ⟨a1,a2⟩):=by simp [af,hA]
   rw [hA] at hs hg;refine ⟨_,oM,bi,wN ?_⟩;refine ⟨pl,⟨a1,a2⟩,rfl,⟨rfl,oM,oM⟩,fun b hb=>?_⟩
   cases b with
   | true =>
    have hp:Xq ⟨a1,a2⟩=false:=by simpa using hb
    exact m38
   | false =>
   have hp:Xq ⟨a1,a2⟩=true:=by simpa using hb
   exact m15
  exact m30
 exact h.elim
noncomputable def Zqd (n:Nat):Tbl:=[(81,UT 161 105 (fun _=>Zn) Xq wCa n)]
theorem Zwp {n:Nat} (ht:TO w0 nG (Zqd n)):PC w0 nG 42 (UU 161 105 (fun _=>Zn) Xq wCa n):=by
 refine Zd Zc mixed (tbl:=Zqd n) ht Tryz.func42 rfl kR kR ?_;intro args σ K h
 unfold UU at h
 split at h
 ·obtain ⟨pl,l,rfl,⟨rfl,rfl,hz,hn⟩,h⟩:=h;refine ⟨Zb [],1,false,sM,Ta rfl,wN ?_⟩;refine ⟨pl,l,rfl,⟨rfl,rfl,hz,hn⟩,fun r hr=>wN ?_⟩;refine h _ ?_
  cases hb:l.all Xq with
  | true=>rw [hb] at hr;have:=hr.2 rfl;simp;omega
  | false=>rw [hb] at hr;have:¬r<0:=fun g=>(by have:=hr.1 g;cases this);simp;omega
 exact h.elim
noncomputable def Zqe (n:Nat):Tbl:=[(42,UU 161 105 (fun _=>Zn) Xq wCa n)]
theorem Zwq {n:Nat} (ht:TO w0 nG (Zqe n)):PC w0 nG 104 (Xy 105 (fun _=>Zn) Xq wCa n):=by
 refine Zd Zc mixed (tbl:=Zqe n) ht Tryz.func104 rfl kR kR ?_;exact m7
theorem ZBi {n:Nat} (h:PC w0 nG 105 (YZ (YJ (fun _=>Zn)) Xq wCa n)):PC w0 nG 104 (Xy 105 (fun _=>Zn) Xq wCa n) :=
 Zwq ⟨Zwp ⟨Zwo ⟨Zwn ⟨h,trivial⟩,trivial⟩,trivial⟩,trivial⟩
noncomputable def Zqf (n:Nat):Tbl:=[(57,YZ (YJ Zu) Ya wTy n)]
theorem Zwr {n:Nat} (ht:TO w0 nG (Zqf n)):PC w0 nG 103 (US 57 (YJ Zu) Ya wTy n):=by
 refine Zd Zc mixed (tbl:=Zqf n) ht Tryz.func103 rfl kR kR ?_;exact m66
noncomputable def Zqg (n:Nat):Tbl:=[(103,US 57 (YJ Zu) Ya wTy n)]
theorem Zws {n:Nat} (ht:TO w0 nG (Zqg n)):PC w0 nG 160 (UT 103 57 Zu Ya wTy n):=by
 refine Zd Zc mixed (tbl:=Zqg n) ht Tryz.func160 rfl kR kR ?_;intro args σ K h
 unfold UT at h
 split at h
 ·obtain ⟨pl,l,rfl,⟨rfl,rfl,hz,hn⟩,h⟩:=h
  rename_i t
  have aa:(l.map (Zu pl)).length=l.length:=Tf ..;have hsz:=Zv wTy l;refine ⟨Zb [(2,⟨[8],[0,1,7],fun vs σ=>∃i:Nat,vs=[.d (.int .i64 i)]/\σ=⟨[.cells t [.func 57 [] []]],[],0⟩/\i<=l.length/\l.all Ya=(l.drop i).all Ya,mu1 l.length⟩)],1,false,sM,Ta rfl,wN ?_⟩;refine ⟨⟨0,rfl,rfl,oM,rfl⟩,?_⟩;intro vs σ hI
  obtain ⟨i,rfl,rfl,hi,hs⟩:=hI;(conv=>whnf);refine ZDc (fun af=>wN ?_) (fun af=>wN ?_)
  ·have af:i<l.length:=lzI aa af;have hg:=ZA wTy l i af;rw [Xo _ af] at hs;obtain ⟨eA,hA⟩:∃e,l[i]=e:=⟨_,rfl⟩
   obtain ⟨a1,a2,a3,a4,a5,a6⟩:=eA;have bi:(l.map (Zu pl))[((i:Nat):Int).toNat]?=some (Zu pl ⟨a1,a2,a3,a4,a5,a6⟩):=by simp [af,hA]
   rw [hA] at hs hg;refine ⟨_,oM,bi,wN ?_⟩;refine ⟨pl,⟨a1,a2,a3,a4,a5,a6⟩,rfl,⟨rfl,oM,oM⟩,fun b hb=>?_⟩
   cases b with
   | true =>
    have hp:Ya ⟨a1,a2,a3,a4,a5,a6⟩=false:=by simpa using hb
    exact m38
   | false =>
   have hp:Ya ⟨a1,a2,a3,a4,a5,a6⟩=true:=by simpa using hb
   exact m15
  exact m30
 exact h.elim
noncomputable def Zqh (n:Nat):Tbl:=[(160,UT 103 57 Zu Ya wTy n)]
theorem Zwt {n:Nat} (ht:TO w0 nG (Zqh n)):PC w0 nG 102 (UU 103 57 Zu Ya wTy n):=by
 refine Zd Zc mixed (tbl:=Zqh n) ht Tryz.func102 rfl kR kR ?_;intro args σ K h
 unfold UU at h
 split at h
 ·obtain ⟨pl,l,rfl,⟨rfl,rfl,hz,hn⟩,h⟩:=h;refine ⟨Zb [],1,false,sM,Ta rfl,wN ?_⟩;refine ⟨pl,l,rfl,⟨rfl,rfl,hz,hn⟩,fun r hr=>wN ?_⟩;refine h _ ?_
  cases hb:l.all Ya with
  | true=>rw [hb] at hr;have:=hr.2 rfl;simp;omega
  | false=>rw [hb] at hr;have:¬r<0:=fun g=>(by have:=hr.1 g;cases this);simp;omega
 exact h.elim
noncomputable def Zqi (n:Nat):Tbl:=[(102,UU 103 57 Zu Ya wTy n)]
theorem Zwu {n:Nat} (ht:TO w0 nG (Zqi n)):PC w0 nG 56 (Xy 57 Zu Ya wTy n):=by
 refine Zd Zc mixed (tbl:=Zqi n) ht Tryz.func56 rfl kR kR ?_;exact m7
theorem Zy0 {n:Nat} (h:PC w0 nG 57 (YZ (YJ Zu) Ya wTy n)):PC w0 nG 56 (Xy 57 Zu Ya wTy n) :=
 Zwu ⟨Zwt ⟨Zws ⟨Zwr ⟨h,trivial⟩,trivial⟩,trivial⟩,trivial⟩
noncomputable def Zqj (n:Nat):Tbl:=[(59,YZ (YJ ZN) X9 wRe n)]
theorem Zwv {n:Nat} (ht:TO w0 nG (Zqj n)):PC w0 nG 107 (US 59 (YJ ZN) X9 wRe n):=by
 refine Zd Zc mixed (tbl:=Zqj n) ht Tryz.func107 rfl kR kR ?_;exact m66
noncomputable def Zqk (n:Nat):Tbl:=[(107,US 59 (YJ ZN) X9 wRe n)]
theorem Zww {n:Nat} (ht:TO w0 nG (Zqk n)):PC w0 nG 162 (UT 107 59 ZN X9 wRe n):=by
 refine Zd Zc mixed (tbl:=Zqk n) ht Tryz.func162 rfl kR kR ?_;intro args σ K h
 unfold UT at h
 split at h
 ·obtain ⟨pl,l,rfl,⟨rfl,rfl,hz,hn⟩,h⟩:=h
  rename_i t
  have aa:(l.map (ZN pl)).length=l.length:=Tf ..;have hsz:=Zv wRe l;refine ⟨Zb [(2,⟨[8],[0,1,7],fun vs σ=>∃i:Nat,vs=[.d (.int .i64 i)]/\σ=⟨[.cells t [.func 59 [] []]],[],0⟩/\i<=l.length/\l.all X9=(l.drop i).all X9,mu1 l.length⟩)],1,false,sM,Ta rfl,wN ?_⟩;refine ⟨⟨0,rfl,rfl,oM,rfl⟩,?_⟩;intro vs σ hI
  obtain ⟨i,rfl,rfl,hi,hs⟩:=hI;(conv=>whnf);refine ZDc (fun af=>wN ?_) (fun af=>wN ?_)
  ·have af:i<l.length:=lzI aa af;have hg:=ZA wRe l i af;rw [Xo _ af] at hs;obtain ⟨eA,hA⟩:∃e,l[i]=e:=⟨_,rfl⟩
   obtain ⟨a1,a2,a3,a4,a5,a6⟩:=eA;have bi:(l.map (ZN pl))[((i:Nat):Int).toNat]?=some (ZN pl ⟨a1,a2,a3,a4,a5,a6⟩):=by simp [af,hA]
   rw [hA] at hs hg;refine ⟨_,oM,bi,wN ?_⟩;refine ⟨pl,⟨a1,a2,a3,a4,a5,a6⟩,rfl,⟨rfl,oM,oM⟩,fun b hb=>?_⟩
   cases b with
   | true =>
    have hp:X9 ⟨a1,a2,a3,a4,a5,a6⟩=false:=by simpa using hb
    exact m38
   | false =>
   have hp:X9 ⟨a1,a2,a3,a4,a5,a6⟩=true:=by simpa using hb
   exact m15
  exact m30
 exact h.elim
noncomputable def Zql (n:Nat):Tbl:=[(162,UT 107 59 ZN X9 wRe n)]
theorem Zwx {n:Nat} (ht:TO w0 nG (Zql n)):PC w0 nG 106 (UU 107 59 ZN X9 wRe n):=by
 refine Zd Zc mixed (tbl:=Zql n) ht Tryz.func106 rfl kR kR ?_;intro args σ K h
 unfold UU at h
 split at h
 ·obtain ⟨pl,l,rfl,⟨rfl,rfl,hz,hn⟩,h⟩:=h;refine ⟨Zb [],1,false,sM,Ta rfl,wN ?_⟩;refine ⟨pl,l,rfl,⟨rfl,rfl,hz,hn⟩,fun r hr=>wN ?_⟩;refine h _ ?_
  cases hb:l.all X9 with
  | true=>rw [hb] at hr;have:=hr.2 rfl;simp;omega
  | false=>rw [hb] at hr;have:¬r<0:=fun g=>(by have:=hr.1 g;cases this);simp;omega
 exact h.elim
noncomputable def Zqm (n:Nat):Tbl:=[(106,UU 107 59 ZN X9 wRe n)]
theorem Zwy {n:Nat} (ht:TO w0 nG (Zqm n)):PC w0 nG 58 (Xy 59 ZN X9 wRe n):=by
 refine Zd Zc mixed (tbl:=Zqm n) ht Tryz.func58 rfl kR kR ?_;exact m7
theorem Zy1 {n:Nat} (h:PC w0 nG 59 (YZ (YJ ZN) X9 wRe n)):PC w0 nG 58 (Xy 59 ZN X9 wRe n) :=
 Zwy ⟨Zwx ⟨Zww ⟨Zwv ⟨h,trivial⟩,trivial⟩,trivial⟩,trivial⟩
noncomputable def Zqn (n:Nat):Tbl:=[(66,YZ (YJ YY) Z7 wCo n)]
theorem Zwz {n:Nat} (ht:TO w0 nG (Zqn n)):PC w0 nG 118 (US 66 (YJ YY) Z7 wCo n):=by
 refine Zd Zc mixed (tbl:=Zqn n) ht Tryz.func118 rfl kR kR ?_;intro args σ K h
 unfold US at h
 split at h
 ·obtain ⟨pl,⟨a1,a2,a3,a4,⟨u1,u2,u3,u4,u5,u6⟩,a6⟩,rfl,⟨rfl,hz,hn⟩,h⟩:=h;refine ⟨Zb [],1,false,sM,Ta rfl,wN ?_⟩;refine ⟨pl,(.mk a1 a2 a3 a4 (.mk u1 u2 u3 u4 u5 u6) a6),rfl,⟨hz,hn⟩,fun b hb=>wN ?_⟩;exact h _ (by rw [hb])
 exact h.elim
noncomputable def Zqo (n:Nat):Tbl:=[(118,US 66 (YJ YY) Z7 wCo n)]
theorem ZwA {n:Nat} (ht:TO w0 nG (Zqo n)):PC w0 nG 174 (UT 118 66 YY Z7 wCo n):=by
 refine Zd Zc mixed (tbl:=Zqo n) ht Tryz.func174 rfl kR kR ?_;intro args σ K h
 unfold UT at h
 split at h
 ·obtain ⟨pl,l,rfl,⟨rfl,rfl,hz,hn⟩,h⟩:=h
  rename_i t
  have aa:(l.map (YY pl)).length=l.length:=Tf ..;have hsz:=Zv wCo l;refine ⟨Zb [(2,⟨[8],[0,1,7],fun vs σ=>∃i:Nat,vs=[.d (.int .i64 i)]/\σ=⟨[.cells t [.func 66 [] []]],[],0⟩/\i<=l.length/\l.all Z7=(l.drop i).all Z7,mu1 l.length⟩)],1,false,sM,Ta rfl,wN ?_⟩;refine ⟨⟨0,rfl,rfl,oM,rfl⟩,?_⟩;intro vs σ hI
  obtain ⟨i,rfl,rfl,hi,hs⟩:=hI;(conv=>whnf);refine ZDc (fun af=>?_) (fun af=>wN ?_)
  ·have af:i<l.length:=lzI aa af;have hg:=ZA wCo l i af;rw [Xo _ af] at hs;obtain ⟨eA,hA⟩:∃e,l[i]=e:=⟨_,rfl⟩
   obtain ⟨a1,a2,a3,a4,⟨u1,u2,u3,u4,u5,u6⟩,a6⟩:=eA;have bi:(l.map (YY pl))[((i:Nat):Int).toNat]?=some (YY pl (.mk a1 a2 a3 a4 (.mk u1 u2 u3 u4 u5 u6) a6)):=by simp [af,hA]
   rw [hA] at hs hg;(conv=>whnf);refine ⟨_,oM,bi,wN ?_⟩;refine ⟨pl,(.mk a1 a2 a3 a4 (.mk u1 u2 u3 u4 u5 u6) a6),rfl,⟨rfl,oM,oM⟩,fun b hb=>?_⟩
   cases b with
   | true =>
    have hp:Z7 (.mk a1 a2 a3 a4 (.mk u1 u2 u3 u4 u5 u6) a6)=false:=by simpa using hb
    exact m38
   | false =>
   have hp:Z7 (.mk a1 a2 a3 a4 (.mk u1 u2 u3 u4 u5 u6) a6)=true:=by simpa using hb
   exact m15
  exact m30
 exact h.elim
noncomputable def Zqp (n:Nat):Tbl:=[(174,UT 118 66 YY Z7 wCo n)]
theorem ZwB {n:Nat} (ht:TO w0 nG (Zqp n)):PC w0 nG 117 (UU 118 66 YY Z7 wCo n):=by
 refine Zd Zc mixed (tbl:=Zqp n) ht Tryz.func117 rfl kR kR ?_;intro args σ K h
 unfold UU at h
 split at h
 ·obtain ⟨pl,l,rfl,⟨rfl,rfl,hz,hn⟩,h⟩:=h;refine ⟨Zb [],1,false,sM,Ta rfl,wN ?_⟩;refine ⟨pl,l,rfl,⟨rfl,rfl,hz,hn⟩,fun r hr=>wN ?_⟩;refine h _ ?_
  cases hb:l.all Z7 with
  | true=>rw [hb] at hr;have:=hr.2 rfl;simp;omega
  | false=>rw [hb] at hr;have:¬r<0:=fun g=>(by have:=hr.1 g;cases this);simp;omega
 exact h.elim
noncomputable def Zqq (n:Nat):Tbl:=[(117,UU 118 66 YY Z7 wCo n)]
theorem ZwC {n:Nat} (ht:TO w0 nG (Zqq n)):PC w0 nG 65 (Xy 66 YY Z7 wCo n):=by
 refine Zd Zc mixed (tbl:=Zqq n) ht Tryz.func65 rfl kR kR ?_;exact m7
theorem ZBj {n:Nat} (h:PC w0 nG 66 (YZ (YJ YY) Z7 wCo n)):PC w0 nG 65 (Xy 66 YY Z7 wCo n) :=
 ZwC ⟨ZwB ⟨ZwA ⟨Zwz ⟨h,trivial⟩,trivial⟩,trivial⟩,trivial⟩
noncomputable def Zqr (n:Nat):Tbl:=[(69,YZ (YJ Xm) Ww wIn n)]
theorem ZwD {n:Nat} (ht:TO w0 nG (Zqr n)):PC w0 nG 121 (US 69 (YJ Xm) Ww wIn n):=by
 refine Zd Zc mixed (tbl:=Zqr n) ht Tryz.func121 rfl kR kR ?_;exact m71
noncomputable def Zqs (n:Nat):Tbl:=[(121,US 69 (YJ Xm) Ww wIn n)]
theorem ZwE {n:Nat} (ht:TO w0 nG (Zqs n)):PC w0 nG 175 (UT 121 69 Xm Ww wIn n):=by
 refine Zd Zc mixed (tbl:=Zqs n) ht Tryz.func175 rfl kR kR ?_;intro args σ K h
 unfold UT at h
 split at h
 ·obtain ⟨pl,l,rfl,⟨rfl,rfl,hz,hn⟩,h⟩:=h
  rename_i t
  have aa:(l.map (Xm pl)).length=l.length:=Tf ..;have hsz:=Zv wIn l;refine ⟨Zb [(2,⟨[8],[0,1,7],fun vs σ=>∃i:Nat,vs=[.d (.int .i64 i)]/\σ=⟨[.cells t [.func 69 [] []]],[],0⟩/\i<=l.length/\l.all Ww=(l.drop i).all Ww,mu1 l.length⟩)],1,false,sM,Ta rfl,wN ?_⟩;refine ⟨⟨0,rfl,rfl,oM,rfl⟩,?_⟩;intro vs σ hI
  obtain ⟨i,rfl,rfl,hi,hs⟩:=hI;(conv=>whnf);refine ZDc (fun af=>wN ?_) (fun af=>wN ?_)
  ·have af:i<l.length:=lzI aa af;have hg:=ZA wIn l i af;rw [Xo _ af] at hs;obtain ⟨eA,hA⟩:∃e,l[i]=e:=⟨_,rfl⟩
   obtain ⟨a1,a2,a3,a4⟩:=eA;have bi:(l.map (Xm pl))[((i:Nat):Int).toNat]?=some (Xm pl ⟨a1,a2,a3,a4⟩):=by simp [af,hA]
   rw [hA] at hs hg;refine ⟨_,oM,bi,wN ?_⟩;refine ⟨pl,⟨a1,a2,a3,a4⟩,rfl,⟨rfl,oM,oM⟩,fun b hb=>?_⟩
   cases b with
   | true =>
    have hp:Ww ⟨a1,a2,a3,a4⟩=false:=by simpa using hb
    exact m38
   | false =>
   have hp:Ww ⟨a1,a2,a3,a4⟩=true:=by simpa using hb
   exact m15
  exact m30
 exact h.elim
noncomputable def Zqt (n:Nat):Tbl:=[(175,UT 121 69 Xm Ww wIn n)]
theorem ZwF {n:Nat} (ht:TO w0 nG (Zqt n)):PC w0 nG 120 (UU 121 69 Xm Ww wIn n):=by
 refine Zd Zc mixed (tbl:=Zqt n) ht Tryz.func120 rfl kR kR ?_;intro args σ K h
 unfold UU at h
 split at h
 ·obtain ⟨pl,l,rfl,⟨rfl,rfl,hz,hn⟩,h⟩:=h;refine ⟨Zb [],1,false,sM,Ta rfl,wN ?_⟩;refine ⟨pl,l,rfl,⟨rfl,rfl,hz,hn⟩,fun r hr=>wN ?_⟩;refine h _ ?_
  cases hb:l.all Ww with
  | true=>rw [hb] at hr;have:=hr.2 rfl;simp;omega
  | false=>rw [hb] at hr;have:¬r<0:=fun g=>(by have:=hr.1 g;cases this);simp;omega
 exact h.elim
noncomputable def Zqu (n:Nat):Tbl:=[(120,UU 121 69 Xm Ww wIn n)]
theorem ZwG {n:Nat} (ht:TO w0 nG (Zqu n)):PC w0 nG 68 (Xy 69 Xm Ww wIn n):=by
 refine Zd Zc mixed (tbl:=Zqu n) ht Tryz.func68 rfl kR kR ?_;exact m7
theorem Zy2 {n:Nat} (h:PC w0 nG 69 (YZ (YJ Xm) Ww wIn n)):PC w0 nG 68 (Xy 69 Xm Ww wIn n) :=
 ZwG ⟨ZwF ⟨ZwE ⟨ZwD ⟨h,trivial⟩,trivial⟩,trivial⟩,trivial⟩
noncomputable def Zqv (n:Nat):Tbl:=[(71,YZ (YJ Xn) W2 wOv n)]
theorem ZwH {n:Nat} (ht:TO w0 nG (Zqv n)):PC w0 nG 123 (US 71 (YJ Xn) W2 wOv n):=by
 refine Zd Zc mixed (tbl:=Zqv n) ht Tryz.func123 rfl kR kR ?_;exact m43
noncomputable def Zqw (n:Nat):Tbl:=[(123,US 71 (YJ Xn) W2 wOv n)]
theorem ZwI {n:Nat} (ht:TO w0 nG (Zqw n)):PC w0 nG 176 (UT 123 71 Xn W2 wOv n):=by
 refine Zd Zc mixed (tbl:=Zqw n) ht Tryz.func176 rfl kR kR ?_;intro args σ K h
 unfold UT at h
 split at h
 ·obtain ⟨pl,l,rfl,⟨rfl,rfl,hz,hn⟩,h⟩:=h
  rename_i t
  have aa:(l.map (Xn pl)).length=l.length:=Tf ..;have hsz:=Zv wOv l;refine ⟨Zb [(2,⟨[8],[0,1,7],fun vs σ=>∃i:Nat,vs=[.d (.int .i64 i)]/\σ=⟨[.cells t [.func 71 [] []]],[],0⟩/\i<=l.length/\l.all W2=(l.drop i).all W2,mu1 l.length⟩)],1,false,sM,Ta rfl,wN ?_⟩;refine ⟨⟨0,rfl,rfl,oM,rfl⟩,?_⟩;intro vs σ hI
  obtain ⟨i,rfl,rfl,hi,hs⟩:=hI;(conv=>whnf);refine ZDc (fun af=>wN ?_) (fun af=>wN ?_)
  ·have af:i<l.length:=lzI aa af;have hg:=ZA wOv l i af;rw [Xo _ af] at hs;obtain ⟨eA,hA⟩:∃e,l[i]=e:=⟨_,rfl⟩
   obtain ⟨a1,a2⟩:=eA;have bi:(l.map (Xn pl))[((i:Nat):Int).toNat]?=some (Xn pl ⟨a1,a2⟩):=by simp [af,hA]
   rw [hA] at hs hg;refine ⟨_,oM,bi,wN ?_⟩;refine ⟨pl,⟨a1,a2⟩,rfl,⟨rfl,oM,oM⟩,fun b hb=>?_⟩
   cases b with
   | true =>
    have hp:W2 ⟨a1,a2⟩=false:=by simpa using hb
    exact m38
   | false =>
   have hp:W2 ⟨a1,a2⟩=true:=by simpa using hb
   exact m15
  exact m30
 exact h.elim
noncomputable def Zqx (n:Nat):Tbl:=[(176,UT 123 71 Xn W2 wOv n)]
theorem ZwJ {n:Nat} (ht:TO w0 nG (Zqx n)):PC w0 nG 122 (UU 123 71 Xn W2 wOv n):=by
 refine Zd Zc mixed (tbl:=Zqx n) ht Tryz.func122 rfl kR kR ?_;intro args σ K h
 unfold UU at h
 split at h
 ·obtain ⟨pl,l,rfl,⟨rfl,rfl,hz,hn⟩,h⟩:=h;refine ⟨Zb [],1,false,sM,Ta rfl,wN ?_⟩;refine ⟨pl,l,rfl,⟨rfl,rfl,hz,hn⟩,fun r hr=>wN ?_⟩;refine h _ ?_
  cases hb:l.all W2 with
  | true=>rw [hb] at hr;have:=hr.2 rfl;simp;omega
  | false=>rw [hb] at hr;have:¬r<0:=fun g=>(by have:=hr.1 g;cases this);simp;omega
 exact h.elim
noncomputable def Zqy (n:Nat):Tbl:=[(122,UU 123 71 Xn W2 wOv n)]
theorem ZwK {n:Nat} (ht:TO w0 nG (Zqy n)):PC w0 nG 70 (Xy 71 Xn W2 wOv n):=by
 refine Zd Zc mixed (tbl:=Zqy n) ht Tryz.func70 rfl kR kR ?_;exact m7
theorem Zy3 {n:Nat} (h:PC w0 nG 71 (YZ (YJ Xn) W2 wOv n)):PC w0 nG 70 (Xy 71 Xn W2 wOv n) :=
 ZwK ⟨ZwJ ⟨ZwI ⟨ZwH ⟨h,trivial⟩,trivial⟩,trivial⟩,trivial⟩
noncomputable def Zqz (n:Nat):Tbl:=[(60,YZ Ziq Xc wBs n)]
theorem ZwL {n:Nat} (ht:TO w0 nG (Zqz n)):PC w0 nG 119 (US 60 Ziq Xc wBs n):=by
 refine Zd Zc mixed (tbl:=Zqz n) ht Tryz.func119 rfl kR kR ?_;intro args σ K h
 unfold US at h
 split at h
 ·obtain ⟨pl,x,rfl,⟨rfl,hz,hn⟩,h⟩:=h;refine ⟨Zb [],1,false,sM,Ta rfl,wN ?_⟩;refine ⟨pl,x,rfl,⟨hz,hn⟩,fun b hb=>wN ?_⟩;exact h _ (by rw [hb])
 exact h.elim
noncomputable def ZqA (n:Nat):Tbl:=[(119,US 60 Ziq Xc wBs n)]
theorem ZwM {n:Nat} (ht:TO w0 nG (ZqA n)):PC w0 nG 148 (UT 119 60 (fun _=>ZY) Xc wBs n):=by
 refine Zd Zc mixed (tbl:=ZqA n) ht Tryz.func148 rfl kR kR ?_;intro args σ K h
 unfold UT at h
 split at h
 ·obtain ⟨pl,l,rfl,⟨rfl,rfl,hz,hn⟩,h⟩:=h
  rename_i t
  have aa:(l.map ((fun _=>ZY) pl)).length=l.length:=Tf ..;have hsz:=Zv wBs l;refine ⟨Zb [(2,⟨[8],[0,1,7],fun vs σ=>∃i:Nat,vs=[.d (.int .i64 i)]/\σ=⟨[.cells t [.func 60 [] []]],[],0⟩/\i<=l.length/\l.all Xc=(l.drop i).all Xc,mu1 l.length⟩)],1,false,sM,Ta rfl,wN ?_⟩;refine ⟨⟨0,rfl,rfl,oM,rfl⟩,?_⟩;intro vs σ hI
  obtain ⟨i,rfl,rfl,hi,hs⟩:=hI;(conv=>whnf);refine ZDc (fun af=>wN ?_) (fun af=>wN ?_)
  ·have af:i<l.length:=lzI aa af;have hg:=ZA wBs l i af;rw [Xo _ af] at hs;obtain ⟨eA,hA⟩:∃e,l[i]=e:=⟨_,rfl⟩
   have bi:(l.map ((fun _=>ZY) pl))[((i:Nat):Int).toNat]?=some ((fun _=>ZY) pl eA):=by simp [af,hA]
   rw [hA] at hs hg;refine ⟨_,oM,bi,wN ?_⟩;refine ⟨pl,eA,rfl,⟨rfl,oM,oM⟩,fun b hb=>?_⟩
   cases b with
   | true =>
    have hp:Xc eA=false:=by simpa using hb
    exact m38
   | false =>
   have hp:Xc eA=true:=by simpa using hb
   exact m15
  exact m30
 exact h.elim
noncomputable def ZqB (n:Nat):Tbl:=[(148,UT 119 60 (fun _=>ZY) Xc wBs n)]
theorem ZwN {n:Nat} (ht:TO w0 nG (ZqB n)):PC w0 nG 90 (UU 119 60 (fun _=>ZY) Xc wBs n):=by
 refine Zd Zc mixed (tbl:=ZqB n) ht Tryz.func90 rfl kR kR ?_;intro args σ K h
 unfold UU at h
 split at h
 ·obtain ⟨pl,l,rfl,⟨rfl,rfl,hz,hn⟩,h⟩:=h;refine ⟨Zb [],1,false,sM,Ta rfl,wN ?_⟩;refine ⟨pl,l,rfl,⟨rfl,rfl,hz,hn⟩,fun r hr=>wN ?_⟩;refine h _ ?_
  cases hb:l.all Xc with
  | true=>rw [hb] at hr;have:=hr.2 rfl;simp;omega
  | false=>rw [hb] at hr;have:¬r<0:=fun g=>(by have:=hr.1 g;cases this);simp;omega
 exact h.elim
noncomputable def ZqC (n:Nat):Tbl:=[(90,UU 119 60 (fun _=>ZY) Xc wBs n)]
theorem ZwO {n:Nat} (ht:TO w0 nG (ZqC n)):PC w0 nG 67 (Xy 60 (fun _=>ZY) Xc wBs n):=by
 refine Zd Zc mixed (tbl:=ZqC n) ht Tryz.func67 rfl kR kR ?_;exact m7
theorem ZBk {n:Nat} (h:PC w0 nG 60 (YZ Ziq Xc wBs n)):PC w0 nG 67 (Xy 60 (fun _=>ZY) Xc wBs n) :=
 ZwO ⟨ZwN ⟨ZwM ⟨ZwL ⟨h,trivial⟩,trivial⟩,trivial⟩,trivial⟩
noncomputable def ZxO:Zo:=fun args σ K=>match args,σ with
 | [.d (.int .u8 op)],⟨[],[],0⟩=>∃o:Nat,op=o/\∀l w a,(ZO o:Int)=l->VL o=w->VX o=a->K (.ret (.agg [.d (.int .i64 l),.d (.str w),.d (.int .i64 a)])) ⟨[],[],0⟩
 | _,_=>False
theorem ZqD:ZK ZxO:=fun args σ K K' hK h=>by
 unfold ZxO at h |-
 split at h
 ·obtain ⟨o,h1,h2⟩:=h;exact ⟨o,h1,fun l w a e1 e2 e3=>hK _ _ (h2 l w a e1 e2 e3)⟩
 exact h.elim
theorem ZsT:PC w0 nG 170 ZxO:=by
 refine Zd Zc mixed (tbl:=[]) trivial Tryz.func170 rfl kR kR ?_;intro args σ K h
 unfold ZxO at h
 split at h
 ·obtain ⟨o,rfl,h⟩:=h;refine ⟨Zb [],0,false,sM,Ta rfl,?_⟩
  repeat' ((conv=>whnf);refine ZDc (fun hc=>?_) (fun hc=>?_))
  all_goals (conv=>whnf)
  all_goals first
  | (have e : o = 16 := by omega
     subst e;exact h _ _ _ rfl rfl rfl)
  | (have e : o = 17 := by omega
     subst e;exact h _ _ _ rfl rfl rfl)
  | (have e : o = 15 := by omega
     subst e;exact h _ _ _ rfl rfl rfl)
  | (have e : o = 18 := by omega
     subst e;exact h _ _ _ rfl rfl rfl)
  | (have e : o = 19 := by omega
     subst e;exact h _ _ _ rfl rfl rfl)
  | (have e : o = 10 := by omega
     subst e;exact h _ _ _ rfl rfl rfl)
  | (have e : o = 11 := by omega
     subst e;exact h _ _ _ rfl rfl rfl)
  | (have e : o = 12 := by omega
     subst e;exact h _ _ _ rfl rfl rfl)
  | (have e : o = 13 := by omega
     subst e;exact h _ _ _ rfl rfl rfl)
  | (have e : o = 14 := by omega
     subst e;exact h _ _ _ rfl rfl rfl)
  | (have e : o = 8 := by omega
     subst e;exact h _ _ _ rfl rfl rfl)
  | (have e : o = 9 := by omega
     subst e;exact h _ _ _ rfl rfl rfl)
  | (have e : o = 20 := by omega
     subst e;exact h _ _ _ rfl rfl rfl)
  | (have e : o = 21 := by omega
     subst e;exact h _ _ _ rfl rfl rfl)
  | (have e : o = 22 := by omega
     subst e;exact h _ _ _ rfl rfl rfl)
  | (have e : o = 23 := by omega
     subst e;exact h _ _ _ rfl rfl rfl)
  | (have e : o = 24 := by omega
     subst e;exact h _ _ _ rfl rfl rfl)
  | (have e : o = 25 := by omega
     subst e;exact h _ _ _ rfl rfl rfl)
  | (have e : o = 6 := by omega
     subst e;exact h _ _ _ rfl rfl rfl)
  | (have e : o = 7 := by omega
     subst e;exact h _ _ _ rfl rfl rfl)
  | (have e : o = 1 := by omega
     subst e;exact h _ _ _ rfl rfl rfl)
  | (have e : o = 2 := by omega
     subst e;exact h _ _ _ rfl rfl rfl)
  | (have e : o = 3 := by omega
     subst e;exact h _ _ _ rfl rfl rfl)
  | (have e : o = 4 := by omega
     subst e;exact h _ _ _ rfl rfl rfl)
  | (have e : o = 5 := by omega
     subst e;exact h _ _ _ rfl rfl rfl)
  | (refine h _ _ _ ?_ ?_ ?_
     ·unfold ZO;(repeat rw [Tg oM]);rfl
     ·unfold VL;(repeat rw [Tg oM])
     unfold VX;(repeat rw [Tg oM]))
 exact h.elim
noncomputable def Zue:Tbl:=[(108,Zgl),(109,ZhO)]
theorem Zy4 {n:Nat} (ht:TO w0 nG Zue):PC w0 nG 60 (YZ Ziq Xc wBs n):=by
 refine Zd Zc mixed (tbl:=Zue) ht Tryz.func60 rfl kR kR ?_;intro args σ K h
 unfold YZ at h
 split at h
 ·obtain ⟨pl,s,rfl,⟨hz,hn⟩,h⟩:=h;unfold wBs at hz
  refine ⟨Zb [],0,false,sM,Ta rfl,wN ?_⟩;refine ⟨oM,wN ?_⟩;refine ZDg (fun ii=>?_) (fun ii=>?_);rotate_left
  ·(conv=>whnf);exact h _ (by simp [Xc,ii])
  conv=>whnf
  refine ZDe (fun cy=>?_) (fun cy=>?_);rotate_left
  ·(conv=>whnf);exact h _ (by simp only [Xc,ii,cy];decide)
  conv=>whnf
  refine fun b hb=>wN ?_
  exact h _ (by rw [Xc,ii,hb,decide_eq_false cy];simp)
 exact h.elim
noncomputable def Zuf (n:Nat):Tbl:=[(60,YZ Ziq Xc wBs n)]
theorem Zy5 {n:Nat} (ht:TO w0 nG (Zuf n)):PC w0 nG 62 (YZ (YJ (fun _=>Zw)) YQ wFi n):=by
 refine Zd Zc mixed (tbl:=Zuf n) ht Tryz.func62 rfl kR kR ?_;intro args σ K h
 unfold YZ at h
 split at h
 ·obtain ⟨pl,⟨a1,a2⟩,rfl,⟨hz,hn⟩,h⟩:=h;simp only [wFi] at hz;refine ⟨Zb [],0,false,sM,Ta rfl,wN ?_⟩;refine ⟨fun _=>0,a1,rfl,⟨by simp only [wBs];omega,oM⟩,fun b du=>?_⟩
  cases b with
  | false =>
   conv=>whnf
   exact h _ (by simp [YQ,du])
  | true =>
  conv=>whnf
  refine ⟨fun _=>0,a2,rfl,⟨by simp only [wBs];omega,oM⟩,fun b eo=>wN ?_⟩;exact h _ (by simp [YQ,du,eo])
 exact h.elim
noncomputable def Zug (n:Nat):Tbl:=[(60,YZ Ziq Xc wBs n),(61,Xy 62 (fun _=>Zw) YQ wFi n)]
theorem Zy6 {n:Nat} (ht:TO w0 nG (Zug n)):PC w0 nG 105 (YZ (YJ (fun _=>Zn)) Xq wCa n):=by
 refine Zd Zc mixed (tbl:=Zug n) ht Tryz.func105 rfl kR kR ?_;intro args σ K h
 unfold YZ at h
 split at h
 ·obtain ⟨pl,⟨a1,a2⟩,rfl,⟨hz,hn⟩,h⟩:=h;simp only [wCa] at hz;refine ⟨Zb [],0,false,sM,Ta rfl,wN ?_⟩;refine ⟨fun _=>0,a1,rfl,⟨by simp only [wBs];omega,oM⟩,fun b du=>?_⟩
  cases b with
  | false =>
   conv=>whnf
   exact h _ (by simp [Xq,du])
  | true =>
  conv=>whnf
  refine ⟨pl,a2,rfl,⟨rfl,oM,oM⟩,fun b gi=>wN ?_⟩;exact h _ (by simp [Xq,du,gi])
 exact h.elim
noncomputable def Zuh (n:Nat):Tbl:=[(60,YZ Ziq Xc wBs n),(61,Xy 62 (fun _=>Zw) YQ wFi n)]
theorem Zy7 {n:Nat} (ht:TO w0 nG (Zuh n)):PC w0 nG 59 (YZ (YJ ZN) X9 wRe n):=by
 refine Zd Zc mixed (tbl:=Zuh n) ht Tryz.func59 rfl kR kR ?_;intro args σ K h
 unfold YZ at h
 split at h
 ·obtain ⟨pl,⟨a1,a2,a3,a4,a5,a6⟩,rfl,⟨hz,hn⟩,h⟩:=h;simp only [wRe] at hz;refine ⟨Zb [],0,false,sM,Ta rfl,wN ?_⟩;refine ⟨fun _=>0,a1,rfl,⟨by simp only [wBs];omega,oM⟩,fun b du=>?_⟩
  cases b with
  | false =>
   conv=>whnf
   exact h _ (by simp [X9,du])
  | true =>
  conv=>whnf
  refine ⟨pl,a2,rfl,⟨rfl,oM,oM⟩,fun b gi=>wN ?_⟩;exact h _ (by simp [X9,du,gi])
 exact h.elim
noncomputable def Zui (n:Nat):Tbl:=[(60,YZ Ziq Xc wBs n),(67,Xy 60 (fun _=>ZY) Xc wBs n)]
theorem Zy8 {n:Nat} (ht:TO w0 nG (Zui n)):PC w0 nG 69 (YZ (YJ Xm) Ww wIn n):=by
 refine Zd Zc mixed (tbl:=Zui n) ht Tryz.func69 rfl kR kR ?_;intro args σ K h
 unfold YZ at h
 split at h
 ·obtain ⟨pl,⟨a1,a2,a3,a4⟩,rfl,⟨hz,hn⟩,h⟩:=h;simp only [wIn] at hz;refine ⟨Zb [],0,false,sM,Ta rfl,wN ?_⟩;refine ⟨fun _=>0,a1,rfl,⟨by simp only [wBs];omega,oM⟩,fun b du=>?_⟩
  cases b with
  | false =>
   conv=>whnf
   exact h _ (by simp [Ww,du])
  | true =>
  conv=>whnf
  refine ⟨fun _=>0,a2,rfl,⟨by simp only [wBs];omega,oM⟩,fun b eo=>?_⟩
  cases b with
  | false =>
   conv=>whnf
   exact h _ (by simp [Ww,du,eo])
  | true =>
  conv=>whnf
  refine ⟨pl,a3,rfl,⟨rfl,oM,oM⟩,fun b kv=>wN ?_⟩;exact h _ (by simp [Ww,du,eo,kv])
 exact h.elim
noncomputable def Zuj (n:Nat):Tbl:=[(60,YZ Ziq Xc wBs n)]
theorem Zy9 {n:Nat} (ht:TO w0 nG (Zuj n)):PC w0 nG 71 (YZ (YJ Xn) W2 wOv n):=by
 refine Zd Zc mixed (tbl:=Zuj n) ht Tryz.func71 rfl kR kR ?_;intro args σ K h
 unfold YZ at h
 split at h
 ·obtain ⟨pl,⟨a1,a2⟩,rfl,⟨hz,hn⟩,h⟩:=h;simp only [wOv] at hz;refine ⟨Zb [],0,false,sM,Ta rfl,wN ?_⟩;refine ⟨fun _=>0,a1,rfl,⟨by simp only [wBs];omega,oM⟩,fun b du=>wN ?_⟩;exact h _ (by simp [W2,du])
 exact h.elim
noncomputable def Zuk (n:Nat):Tbl:=[(60,YZ Ziq Xc wBs n),(113,Xy 114 YP Z9 wE n),(115,Xy 116 XD Y7 wL n)]
theorem Zza {n:Nat} (ht:TO w0 nG (Zuk n)):PC w0 nG 64 (YZ (YJ Z8) XX wRu n):=by
 refine Zd Zc mixed (tbl:=Zuk n) ht Tryz.func64 rfl kR kR ?_;intro args σ K h
 unfold YZ at h
 split at h
 ·obtain ⟨pl,⟨a1,a2,a3,a4⟩,rfl,⟨hz,hn⟩,h⟩:=h;simp only [wRu] at hz;refine ⟨Zb [],0,false,sM,Ta rfl,wN ?_⟩;refine ⟨fun _=>0,a1,rfl,⟨by simp only [wBs];omega,oM⟩,fun b du=>?_⟩
  cases b with
  | false =>
   conv=>whnf
   exact h _ (by simp [XX,du])
  | true =>
  conv=>whnf
  refine ⟨pl,a2,Zh _ _,⟨rfl,oM,oM⟩,fun b gi=>?_⟩
  cases b with
  | false =>
   conv=>whnf
   exact h _ (by simp [XX,du,gi])
  | true =>
  conv=>whnf
  refine ⟨pl,a3,Zp _ _,⟨rfl,oM,oM⟩,fun b kv=>wN ?_⟩;exact h _ (by simp [XX,du,gi,kv])
 exact h.elim
noncomputable def Zzb (n:Nat):Tbl:=[(170,ZxO),(60,YZ Ziq Xc wBs n),(171,JF),(113,spB (Xy 114 YP Z9 wE) n)]
theorem mm157 {P:Prop} (h:P:=by
 refine ⟨fun _=>0,a2,rfl,⟨by simp only [wBs];omega,oM⟩,fun b fc=>?_⟩
 cases b with
 | false =>
  have kw:VY a1 a2=false:=by simp [VY,gh,fc]
  conv=>whnf
  exact _root_.m8
 | true =>
 have kw:VY a1 a2=true:=by simp [VY,gh,fc]
 conv=>whnf
 exact m5):P:=h
theorem Zzc {n:Nat} (ht:TO w0 nG (Zzb n)):PC w0 nG 114 (YZ (YJ YP) Z9 wE n):=by
 refine Zd Zc mixed (tbl:=Zzb n) ht Tryz.func114 rfl kR kR ?_;intro args σ K h
 unfold YZ at h
 split at h
 ·obtain ⟨pl,⟨a1,a2,a3,a4,a5⟩,rfl,⟨hz,hn⟩,h⟩:=h;simp only [wE,Jb] at hz;refine ⟨Zb [],0,false,sM,Ta rfl,wN ?_⟩;have je:(Yn pl a4).length=a4.length:=by rw [Zh,Tf]
  refine ⟨a1,rfl,fun l w a hl hw ha=>wN ?_⟩;refine ZDc (fun gh=>wN ?_) (fun gh=>wN ?_)
  ·have sx:=gh;have gh:a1=1:=oM;refine ZDc (fun _=>wN ?_) (fun hx=>absurd sx hx);exact mm157
  refine ZDc (fun sy=>wN ?_) (fun sy=>wN ?_)
  ·have gh:a1=7:=by omega
   exact mm157
  have gh:¬a1=1:=oM;have sy:¬a1=7:=oM;refine ZDc (fun l5=>wN ?_) (fun l5=>wN ?_)
  ·have l5:a1=4:=by omega
   refine ⟨oM,fun hq=>wN ?_,fun q hq=>wN ?_⟩
   ·have kw:VY a1 a2=false:=by simp [VY,l5,hq]
    exact _root_.m8
   have kw:VY a1 a2=true:=by simp [VY,l5,hq]
   exact m5
  have l5:¬a1=4:=oM;have kw:VY a1 a2=decide (a2=[]):=by simp [VY,gh,sy,l5]
  refine ZDc (fun h1=>?_) (fun h1=>?_);rotate_left
  ·exact m184
  conv=>whnf
  refine ZDc (fun h2=>wN ?_) (fun h2=>wN ?_)
  ·refine ZDc (fun h3=>wN ?_) (fun h3=>wN ?_)
   ·refine ZDc (fun h4=>?_) (fun h4=>?_);rotate_left
    ·exact m140
    rw [Ss h4] at kw;(conv=>whnf);exact m180
   refine ZDc (fun h5=>?_) (fun h5=>?_);rotate_left
   ·exact m154
   have h5:a1=3:=oM;have io:(decide (a3=0) || decide (a1=3))=true:=by simp [h5]
   conv=>whnf
   refine ZDc (fun h4=>?_) (fun h4=>?_);rotate_left
   ·exact m140
   rw [Ss h4] at kw;exact m175
  refine ZDc (fun h6=>?_) (fun h6=>?_);rotate_left
  ·exact m159
  have h6:(a4.length:Int)=a:=by rw [<- je];exact h6
  conv=>whnf
  refine ZDc (fun h3=>wN ?_) (fun h3=>wN ?_)
  ·refine ZDc (fun h4=>?_) (fun h4=>?_);rotate_left
   ·exact m140
   rw [Ss h4] at kw;(conv=>whnf);exact m179
  refine ZDc (fun h5=>?_) (fun h5=>?_);rotate_left
  ·exact m154
  have h5:a1=3:=oM;have io:(decide (a3=0) || decide (a1=3))=true:=by simp [h5]
  conv=>whnf
  refine ZDc (fun h4=>?_) (fun h4=>?_);rotate_left
  ·exact m140
  rw [Ss h4] at kw;exact m174
 exact h.elim
noncomputable def Zzd (n:Nat):Tbl:=[(60,YZ Ziq Xc wBs n),(113,Xy 114 YP Z9 wE n),(115,spB (Xy 116 XD Y7 wL) n)]
theorem Zze {n:Nat} (ht:TO w0 nG (Zzd n)):PC w0 nG 116 (YZ (YJ XD) Y7 wL n):=by
 refine Zd Zc mixed (tbl:=Zzd n) ht Tryz.func116 rfl kR kR ?_;intro args σ K h
 unfold YZ at h
 split at h
 ·obtain ⟨pl,⟨a1,a2,a3,a4,a5⟩,rfl,⟨hz,hn⟩,h⟩:=h;simp only [wL,Ur] at hz;refine ⟨Zb [],0,false,sM,Ta rfl,wN ?_⟩;have me:(Yn pl a3).length=a3.length:=by rw [Zh,Tf]
  have je:(Zd9 pl a4).length=a4.length:=by rw [Zp,Tf]
  have qu:((0:Int)<((Zd9 pl a4).length:Int))↔0<a4.length:=by rw [je];omega
  refine ZDc (fun gh=>wN ?_) (fun gh=>wN ?_)
  ·have sx:=gh;have gh:a1=1:=oM;refine ZDc (fun _=>wN ?_) (fun hx=>absurd sx hx);exact m147
  refine ZDc (fun sw=>wN ?_) (fun sw=>wN ?_)
  ·have gh:a1=2:=by omega
   exact m147
  have jh:¬(a1=1\/a1=2):=oM;refine ZDc (fun aa9=>wN ?_) (fun aa9=>wN ?_)
  ·refine ZDc (fun aba=>wN ?_) (fun aba=>wN ?_)
   ·have yg:3<=a1/\a1<=8:=by omega
    refine ZDc (fun hr=>?_) (fun hr=>?_);rotate_left
    ·have j7:Y5 a1 a2 a3.length a4.length=false:=by simp [Y5,jh,yg,hr]
     conv=>whnf
     exact m52
    conv=>whnf
    refine ZDc (fun hA=>?_) (fun hA=>?_);rotate_left
    ·have hA:¬a3.length=2:=fun g=>hA (by show ((Yn pl a3).length:Int)=2;rw [me,g];rfl)
     have j7:Y5 a1 a2 a3.length a4.length=false:=by simp [Y5,jh,yg,hA]
     conv=>whnf
     exact m52
    have hA:a3.length=2:=by have hA:((Yn pl a3).length:Int)=2:=hA;rw [me] at hA;omega
    conv=>whnf
    refine ZDe (fun hB=>wN ?_) (fun hB=>wN ?_)
    ·have hB:¬0<a4.length:=fun g=>hB (qu.2 g)
     have j7:Y5 a1 a2 a3.length a4.length=true:=by simp only [Y5,jh,yg,hr,hA,decide_eq_false hB];simp
     exact m10
    have hB:=qu.1 hB;have j7:Y5 a1 a2 a3.length a4.length=false:=by simp [Y5,jh,yg,hr,hA,hB]
    exact m52
   exact m4
  exact m4
 exact h.elim
end Go.PM.Lex
end

section
namespace Go.PM.Lex
open Go.Proofs
variable {w0:World} {nG:Nat}
noncomputable def Zul (n:Nat):Tbl:=[(60,YZ Ziq Xc wBs n),(61,Xy 62 (fun _=>Zw) YQ wFi n),(104,Xy 105 (fun _=>Zn) Xq wCa n)]
theorem Zzf {n:Nat} (ht:TO w0 nG (Zul n)):PC w0 nG 57 (YZ (YJ Zu) Ya wTy n):=by
 refine Zd Zc mixed (tbl:=Zul n) ht Tryz.func57 rfl kR kR ?_;intro args σ K h
 unfold YZ at h
 split at h
 ·obtain ⟨pl,⟨a1,a2,a3,a4,a5,a6⟩,rfl,⟨hz,hn⟩,h⟩:=h;simp only [wTy] at hz;refine ⟨Zb [],0,false,sM,Ta rfl,wN ?_⟩;have je:(a4.map Zw).length=a4.length:=Tf ..;have uk:(a5.map Zn).length=a5.length:=Tf ..;have lw:(((a4.map Zw).length:Int)=0)↔a4.length=0:=by rw [je];omega
  have ul:(((a5.map Zn).length:Int)=0)↔a5.length=0:=by rw [uk];omega
  refine ZDc (fun hk=>?_) (fun hk=>wN ?_)
  ·(try dsimp only at hk)
   have hk:a1=1:=oM;(conv=>whnf);refine ⟨fun _=>0,a3,rfl,⟨by simp only [wBs];omega,oM⟩,fun b fc=>?_⟩
   cases b with
   | false =>
    conv=>whnf
    have kx:Za6 (⟨a1,a2,a3,a4,a5,a6⟩:Ty)=false:=by simp [Za6,hk,fc]
    conv=>whnf
    exact m116
   | true =>
   conv=>whnf
   refine ZDc (fun h4=>wN ?_) (fun h4=>wN ?_)
   ·have h4:=lw.1 h4;refine ZDc (fun h5=>wN ?_) (fun h5=>wN ?_)
    ·have h5:=ul.1 h5;have kx:Za6 (⟨a1,a2,a3,a4,a5,a6⟩:Ty)=true:=by simp [Za6,hk,fc,h4,h5]
     exact m25
    have h5:¬a5.length=0:=fun g=>h5 (ul.2 g)
    have kx:Za6 (⟨a1,a2,a3,a4,a5,a6⟩:Ty)=false:=by simp [Za6,hk,fc,h4,h5]
    exact m116
   have h4:¬a4.length=0:=fun g=>h4 (lw.2 g)
   have kx:Za6 (⟨a1,a2,a3,a4,a5,a6⟩:Ty)=false:=by simp [Za6,hk,fc,h4]
   exact m116
  refine ZDc (fun bj=>?_) (fun bj=>wN ?_)
  ·(try dsimp only at bj)
   have bj:a1=2:=oM;(conv=>whnf);refine ZDc (fun fc=>?_) (fun fc=>?_);rotate_left
   ·have kx:Za6 (⟨a1,a2,a3,a4,a5,a6⟩:Ty)=false:=by simp [Za6,bj,fc]
    conv=>whnf
    exact m116
   (try dsimp only at fc)
   conv=>whnf
   refine ZDc (fun h5=>wN ?_) (fun h5=>wN ?_)
   ·have h5:=ul.1 h5;have kx:Za6 (⟨a1,a2,a3,a4,a5,a6⟩:Ty)=true:=by simp [Za6,bj,fc,h5]
    exact m25
   have h5:¬a5.length=0:=fun g=>h5 (ul.2 g)
   have kx:Za6 (⟨a1,a2,a3,a4,a5,a6⟩:Ty)=false:=by simp [Za6,bj,fc,h5]
   exact m116
  refine ZDc (fun eh=>?_) (fun eh=>?_)
  ·(try dsimp only at eh)
   have eh:a1=3:=oM;(conv=>whnf);refine ZDc (fun fc=>?_) (fun fc=>?_);rotate_left
   ·have kx:Za6 (⟨a1,a2,a3,a4,a5,a6⟩:Ty)=false:=by simp [Za6,eh,fc]
    conv=>whnf
    exact m116
   (try dsimp only at fc)
   conv=>whnf
   refine ZDc (fun h4=>wN ?_) (fun h4=>wN ?_)
   ·have h4:=lw.1 h4;refine ZDe (fun h5=>wN ?_) (fun h5=>wN ?_)
    ·have h5:¬a5.length=0:=fun g=>h5 (ul.2 g)
     have kx:Za6 (⟨a1,a2,a3,a4,a5,a6⟩:Ty)=true:=by simp [Za6,eh,fc,h4,h5]
     exact m25
    have h5:=ul.1 h5;have kx:Za6 (⟨a1,a2,a3,a4,a5,a6⟩:Ty)=false:=by simp [Za6,eh,fc,h4,h5]
    exact m116
   have h4:¬a4.length=0:=fun g=>h4 (lw.2 g)
   have kx:Za6 (⟨a1,a2,a3,a4,a5,a6⟩:Ty)=false:=by simp [Za6,eh,fc,h4]
   exact m116
  (try dsimp only at hk bj eh)
  have hk:¬a1=1:=oM;have bj:¬a1=2:=oM;have eh:¬a1=3:=oM;have kx:Za6 (⟨a1,a2,a3,a4,a5,a6⟩:Ty)=false:=by simp [Za6,hk,bj,eh]
  conv=>whnf
  exact m116
 exact h.elim
noncomputable def Zum (n:Nat):Tbl:=[(60,YZ Ziq Xc wBs n),(67,Xy 60 (fun _=>ZY) Xc wBs n),(37,YZ (YJ Xb) ZdA wUn n)]
theorem Zzg {n:Nat} (ht:TO w0 nG (Zum n)):PC w0 nG 66 (YZ (YJ YY) Z7 wCo n):=by
 refine Zd Zc mixed (tbl:=Zum n) ht Tryz.func66 rfl kR kR ?_;intro args σ K h
 unfold YZ at h
 split at h
 ·obtain ⟨pl,⟨a1,a2,a3,a4,⟨u1,u2,u3,u4,u5,u6⟩,a6⟩,rfl,⟨hz,hn⟩,h⟩:=h;simp only [wCo] at hz;refine ⟨Zb [],0,false,sM,Ta rfl,wN ?_⟩;have je:(a4.map ZY).length=a4.length:=Tf ..;have lw:(((a4.map ZY).length:Int)=0)↔a4.length=0:=by rw [je];omega
  refine ZDc (fun hb=>wN ?_) (fun hb=>wN ?_)
  ·refine ZDc (fun h4=>wN ?_) (fun h4=>wN ?_)
   ·have h4:=lw.1 h4;have kj:((decide (a3=[]) && decide (a4.length=0)) || Xc a3)=true:=by simp [hb,h4]
    exact m13
   have h4:¬a4.length=0:=fun g=>h4 (lw.2 g)
   refine ⟨fun _=>0,a3,rfl,⟨by simp only [wBs];omega,oM⟩,fun b fc=>?_⟩
   cases b with
   | false =>
    have kj:((decide (a3=[]) && decide (a4.length=0)) || Xc a3)=false:=by simp [h4,fc]
    exact m35
   | true =>
   have kj:((decide (a3=[]) && decide (a4.length=0)) || Xc a3)=true:=by simp [h4,fc]
   conv=>whnf
   exact m13
  refine ⟨fun _=>0,a3,rfl,⟨by simp only [wBs];omega,oM⟩,fun b fc=>?_⟩
  cases b with
  | false =>
   have kj:((decide (a3=[]) && decide (a4.length=0)) || Xc a3)=false:=by simp [hb,fc]
   exact m35
  | true =>
  have kj:((decide (a3=[]) && decide (a4.length=0)) || Xc a3)=true:=by simp [hb,fc]
  conv=>whnf
  exact m13
 exact h.elim
noncomputable def Zun (n:Nat):Tbl:=[(56,Xy 57 Zu Ya wTy n),(58,Xy 59 ZN X9 wRe n),(63,Xy 64 Z8 XX wRu n),(65,spB (Xy 66 YY Z7 wCo) n),(68,Xy 69 Xm Ww wIn n),(70,Xy 71 Xn W2 wOv n)]
theorem Zuo {n:Nat} (ht:TO w0 nG (Zun n)):PC w0 nG 37 (YZ (YJ Xb) ZdA wUn n):=by
 refine Zd Zc mixed (tbl:=Zun n) ht Tryz.func37 rfl kR kR ?_;intro args σ K h
 unfold YZ at h
 split at h
 ·obtain ⟨pl,⟨a1,a2,a3,a4,a5,a6⟩,rfl,⟨hz,hn⟩,h⟩:=h;simp only [wUn,W3] at hz;refine ⟨Zb [],0,false,sM,Ta rfl,wN ?_⟩;refine ⟨pl,a1,rfl,⟨rfl,oM,oM⟩,fun b kc=>?_⟩
  cases b with
  | false =>
   conv=>whnf
   exact h _ (by simp [ZdA,Wx,kc])
  | true =>
  conv=>whnf
  refine ⟨pl,a2,rfl,⟨rfl,oM,oM⟩,fun b gi=>?_⟩
  cases b with
  | false =>
   conv=>whnf
   exact h _ (by simp [ZdA,Wx,kc,gi])
  | true =>
  conv=>whnf
  refine ⟨pl,a3,rfl,⟨rfl,oM,oM⟩,fun b kv=>?_⟩
  cases b with
  | false =>
   conv=>whnf
   exact h _ (by simp [ZdA,Wx,kc,gi,kv])
  | true =>
  conv=>whnf
  refine ⟨oM,pl,a4,YH _ _,⟨rfl,oM,oM⟩,fun b ha3=>?_⟩
  cases b with
  | false =>
   conv=>whnf
   exact h _ (by simp [ZdA,Wx,kc,gi,kv,ha3])
  | true =>
  conv=>whnf
  refine ⟨pl,a5,rfl,⟨rfl,oM,oM⟩,fun b um=>?_⟩
  cases b with
  | false =>
   conv=>whnf
   exact h _ (by simp [ZdA,Wx,kc,gi,kv,ha3,um])
  | true =>
  conv=>whnf
  refine ⟨pl,a6,rfl,⟨rfl,oM,oM⟩,fun b ha5=>wN ?_⟩;exact h _ (by simp [ZdA,Wx,kc,gi,kv,ha3,um,ha5])
 exact h.elim
structure LexC (w0:World) (nG:Nat):Prop where
 name:PC w0 nG 108 Zgl
 quote:PC w0 nG 171 JF
variable (hL:LexC w0 nG)
include hL
theorem ZmK (n:Nat):PC w0 nG 60 (YZ Ziq Xc wBs n):=Zy4 ⟨hL.name,Zjk,trivial⟩
theorem cHE:∀n,PC w0 nG 114 (YZ (YJ YP) Z9 wE n)
 | 0=>Zzc ⟨ZsT,ZmK hL _,hL.quote,Yp (Zk Tryz.func113 kR rfl),trivial⟩
 | n+1=>Zzc ⟨ZsT,ZmK hL _,hL.quote,Yq (sp:=Xy 114 YP Z9 wE) (ZAv (cHE n)),trivial⟩
theorem cHL:∀n,PC w0 nG 116 (YZ (YJ XD) Y7 wL n)
 | 0=>Zze ⟨ZmK hL _,ZAv (cHE hL 0),Yp (Zk Tryz.func115 kR rfl),trivial⟩
 | n+1=>Zze ⟨ZmK hL _,ZAv (cHE hL _),Yq (sp:=Xy 116 XD Y7 wL) (ZCd (cHL n)),trivial⟩
theorem ZCe (n:Nat):PC w0 nG 64 (YZ (YJ Z8) XX wRu n):=Zza ⟨ZmK hL _,ZAv (cHE hL _),ZCd (cHL hL _),trivial⟩
theorem ZBl (n:Nat):PC w0 nG 61 (Xy 62 (fun _=>Zw) YQ wFi n):=ZBh (Zy5 ⟨ZmK hL _,trivial⟩)
theorem ZCf (n:Nat):PC w0 nG 57 (YZ (YJ Zu) Ya wTy n):=Zzf ⟨ZmK hL _,ZBl hL n,ZBi (Zy6 ⟨ZmK hL _,ZBl hL n,trivial⟩),trivial⟩
theorem ZCg (n:Nat):PC w0 nG 59 (YZ (YJ ZN) X9 wRe n):=Zy7 ⟨ZmK hL _,ZBl hL n,trivial⟩
theorem ZCh (n:Nat):PC w0 nG 67 (Xy 60 (fun _=>ZY) Xc wBs n):=ZBk (ZmK hL n)
theorem ZCi (n:Nat):PC w0 nG 69 (YZ (YJ Xm) Ww wIn n):=Zy8 ⟨ZmK hL _,ZCh hL n,trivial⟩
theorem ZCj (n:Nat):PC w0 nG 71 (YZ (YJ Xn) W2 wOv n):=Zy9 ⟨ZmK hL _,trivial⟩
theorem ZCk:∀n,PC w0 nG 37 (YZ (YJ Xb) ZdA wUn n)
 | 0=>Zuo ⟨Zy0 (ZCf hL _),Zy1 (ZCg hL _),ZyZ (ZCe hL _),Yp (Zk Tryz.func65 kR rfl),Zy2 (ZCi hL _),Zy3 (ZCj hL _),trivial⟩
 | n+1=>Zuo ⟨Zy0 (ZCf hL _),Zy1 (ZCg hL _),ZyZ (ZCe hL _),Yq (sp:=Xy 66 YY Z7 wCo) (ZBj (Zzg ⟨ZmK hL _,ZCh hL _,ZCk n,trivial⟩)),Zy2 (ZCi hL _),Zy3 (ZCj hL _),trivial⟩
end Go.PM.Lex
end

section
namespace Go.PM.Lex
open Go.Proofs Go.Shelf Go.RowKit
variable {w0:World} {nG:Nat}
theorem ZBm:liesAt Tryz.prog Tryz.prog.depth 115 (2 / Tryz.prog.cellsOf 115) 0 113 1=true:=kR
theorem Zjx (b:Nat) (w:World) (h0:w.cell? ⟨b,0,none⟩=some (.pointer none)) (ep:w.shape? b=some (115,2)) (ji:w.frozen? ⟨b,0,none⟩=false) :
  Calls Tryz.prog 177 #[.pointer (some ⟨b,0,none⟩)] w fun e w'=>e=.returned (.tuple #[])/\w'=w.setCell ⟨b,0,none⟩ (.pointer (some ⟨b,0,none⟩)):=by
 obtain ⟨j,hj,rf⟩:=i53
 go_enter Tryz.func177,Tryz.ntmps177
 go_wp2
 rw [Go.Lib.run_to_unsafe w ⟨b,0,none⟩ u50 u95 hj (by rw [rf];decide) ep (Nat.zero_lt_succ 1)];simp only [Result.andThen];rw [Oper.upon_value]
 go_wp2
 rw [run_callFunc_extern Tryz.func212 kR kR kR (e:=Extern.AbiNoEscape.same) kR];rw [Go.Lib.run_noEscape];simp only [Result.andThen];rw [Oper.upon_value]
 go_wp2
 rw [Go.Lib.run_from_unsafe w ⟨b,0,none⟩ u95 u50 hj ep ZBm];simp only [Result.andThen];rw [Oper.upon_value]
 go_wp2
 go_end0
 exact ⟨rfl,rfl⟩
noncomputable def Us:Zo:=fun args σ K=>match args,σ with
 | [.ptr 0 0],⟨[.cells t [p,q]],tk,nx⟩=>((p=.d .nilp\/p=.ptr 0 0)/\t=115)/\K (.ret (.tuple [])) ⟨[.cells t [.ptr 0 0,q]],tk,nx⟩
 | _,_=>False
theorem Zgm:PC w0 nG 177 Us:=VF (Zk Tryz.func177 kR rfl) fun args σ K h e w vs hS ha=>by
 unfold Us at h
 split at h
 ·rename_i t p q tk nx
  obtain ⟨⟨hp,rfl⟩,hK⟩:=h;obtain ⟨u,rfl,hu⟩:=Zhx ha;obtain ⟨cv,cy,cu,jc⟩:=hS.box 0 _ rfl;have dj:cv.size=2:=cu;obtain ⟨x0,il⟩:∃x,cv[0]?=some x:=⟨cv[0]'oM,by simp [dj]⟩
  have kl:=(jc 0 p x0 rfl il).1
  cases hu with
  | ptr b off hb =>
  refine ⟨_,_,.tuple #[],hK,?_⟩;rcases hp with rfl | rfl
  ·cases kl with
   | d _ _ hd =>
   cases hd
   refine Calls.mono (Zjx (e.β 0) w ?_ ?_ ?_) fun en w' ⟨h1,h2⟩=>?_
   ·simp [World.cell?,cy,il]
   ·simp only [World.shape?,cy,dj]
   ·simp [World.frozen?,cy]
   have hst:=Zdb (G:=GG w0 nG) (T:=Zbv) Zc hS (t:=110) (b:=0) (off:=0) (x:=.ptr 0 0) (v:=.pointer (some ⟨e.β 0,0,none⟩)) (l:=[.ptr 0 0]) (cs:=[.d .nilp,q]) (ty:=115) rfl (.ptr 0 0 hb) rfl rfl sM (by intro h;cases h);rw [h2];exact ⟨h1,.tuple [] #[] rfl (fun i x u hx=>by simp at hx),hst.2,hst.1.toLater⟩
  exact m81
 exact h.elim
theorem ZmL {ty:TypeId} {P:Program} {ρ:Ren} (L:Lays.n169 P ρ) (X:Builder.Extra P ρ) (b g cap:Nat) (p:Value) (cur:Array Value) (fz:Nat×Nat) (l:Bs) (w:World) (h0:l≠[])
  (oc:w.heap[b]?=some (.cells #[p,.slice (some ⟨g,0,none⟩) l.length cap] ty (0,0))) (hg:w.heap[g]?=some (.cells cur (ρ.t 5) fz)) (hn:l.length<=cur.size) (hcap:cap≠0) (dc:l.length<=9223372036854775807)
  (be:∀j x,l[j]?=some x->w.cell? ⟨g,j,none⟩=some (.int .u8 x.toNat)) :
  Calls P (ρ.f 169) #[.pointer (some ⟨b,0,none⟩)] w fun e w'=>e=.returned (.string ⟨l.toArray⟩)/\w'=w.drew.freeze ⟨g,0,none⟩ l.length:=by
 have c1:w.drew.cell? ⟨b,1,none⟩=some (.slice (some ⟨g,0,none⟩) l.length cap):=by
  have:w.drew.heap[b]?=some (.cells #[p,.slice (some ⟨g,0,none⟩) l.length cap] ty (0,0)):=oc;rw [Go.Lib.cell_of_heap this];rfl
 have hSD:(Builtin.unsafeSliceData_ #[(ρ.t 37)] (ρ.t 127) #[.slice (some ⟨g,0,none⟩) l.length cap]).run P w.drew=.ok (.pointer (some ⟨g,0,none⟩)) w.drew :=
  Go.Lib.run_unsafeSliceData_row _ _ _ _ _ _ hcap
 have hUS:(Builtin.unsafeString_ #[(ρ.t 127),(ρ.t 3)] (ρ.t 9) #[.pointer (some ⟨g,0,none⟩),.int .i64 l.length]).run P w.drew=.ok (.string ⟨l.toArray⟩) (w.drew.freeze ⟨g,0,none⟩ l.length):=by
  exact m70
 have mixed:=L.mixed;have t72:=L.t72;have a72:=L.a72;have z72:=L.z72;have v72:=L.v72;have u72:=run_underlying L.t72;have t70:=L.t70;have a70:=L.a70;have z70:=L.z70;have v70:=L.v70;have u70:=run_underlying L.t70;have t37:=L.t37;have a37:=L.a37;have z37:=L.z37;have v37:=L.v37;have u37:=run_underlying L.t37;have t127:=L.t127;have a127:=L.a127;have z127:=L.z127;have v127:=L.v127;have u127:=run_underlying L.t127;have t3:=L.t3;have a3:=L.a3;have z3:=L.z3;have v3:=L.v3;have u3:=run_underlying L.t3;have t9:=L.t9;have a9:=L.a9;have z9:=L.z9;have v9:=L.v9;have u9:=run_underlying L.t9;have t5:=X.t5;have a5:=X.a5;have z5:=X.z5;have v5:=X.v5;have u5:=run_underlying X.t5
 go_enter L.f169,Body.n169_ntmps ρ
 go_wp2
 go_region_o
 all_goals (go_wp2;go_ret;exact ⟨rfl,rfl⟩)
theorem ZsU {ty:TypeId} {P:Program} {ρ:Ren} (L:Lays.n169 P ρ) (X:Builder.Extra P ρ) (B b:Nat) (p:Value) (w:World) (oc:w.heap[b]?=some (.cells #[p,.slice none 0 0] ty (0,0))) :
  Calls P (ρ.f 169) #[.pointer (some ⟨b,0,none⟩)] w fun e w'=>e=.returned (.string ⟨#[]⟩)/\Below B w w':=by
 have hUS:=Any.unsafeString_none L X;have c1:w.drew.cell? ⟨b,1,none⟩=some (.slice none 0 0):=by
  have:w.drew.heap[b]?=some (.cells #[p,.slice none 0 0] ty (0,0)):=oc;rw [Lib.cell_of_heap this];rfl
 have hSD:(Builtin.unsafeSliceData_ #[(ρ.t 37)] (ρ.t 127) #[.slice none 0 0]).run P w.drew=.ok (.pointer none) w.drew:=rfl;have mixed:=L.mixed;have t72:=L.t72;have a72:=L.a72;have z72:=L.z72;have v72:=L.v72;have u72:=run_underlying L.t72;have t70:=L.t70;have a70:=L.a70;have z70:=L.z70;have v70:=L.v70;have u70:=run_underlying L.t70;have t37:=L.t37;have a37:=L.a37;have z37:=L.z37;have v37:=L.v37;have u37:=run_underlying L.t37;have t127:=L.t127;have a127:=L.a127;have z127:=L.z127;have v127:=L.v127;have u127:=run_underlying L.t127;have t3:=L.t3;have a3:=L.a3;have z3:=L.z3;have v3:=L.v3;have u3:=run_underlying L.t3;have t9:=L.t9;have a9:=L.a9;have z9:=L.z9;have v9:=L.v9;have u9:=run_underlying L.t9;have t5:=X.t5;have a5:=X.a5;have z5:=X.z5;have v5:=X.v5;have u5:=run_underlying X.t5
 go_enter L.f169,Body.n169_ntmps ρ
 go_wp2
 go_region_o
 all_goals (go_wp2;go_ret;exact ⟨rfl,Below.drew (Below.refl B w)⟩)
theorem ZqE {ty:TypeId} {P:Program} {ρ:Ren} (L:Lays.n169 P ρ) (X:Builder.Extra P ρ) (B b g cap:Nat) (p:Value) (w:World) (ii:cap≠0) (oc:w.heap[b]?=some (.cells #[p,.slice (some ⟨g,0,none⟩) 0 cap] ty (0,0))) :
  Calls P (ρ.f 169) #[.pointer (some ⟨b,0,none⟩)] w fun e w'=>e=.returned (.string ⟨#[]⟩)/\Below B w w':=by
 have hUS:=Any.unsafeString_none L X;have c1:w.drew.cell? ⟨b,1,none⟩=some (.slice (some ⟨g,0,none⟩) 0 cap):=by
  have:w.drew.heap[b]?=some (.cells #[p,.slice (some ⟨g,0,none⟩) 0 cap] ty (0,0)):=oc;rw [Lib.cell_of_heap this];rfl
 have hSD:(Builtin.unsafeSliceData_ #[(ρ.t 37)] (ρ.t 127) #[.slice (some ⟨g,0,none⟩) 0 cap]).run P w.drew=.ok (.pointer (some ⟨g,0,none⟩)) w.drew:=Go.Lib.run_unsafeSliceData_row _ _ _ _ _ _ ii
 clear ii
 have mixed:=L.mixed;have t72:=L.t72;have a72:=L.a72;have z72:=L.z72;have v72:=L.v72;have u72:=run_underlying L.t72;have t70:=L.t70;have a70:=L.a70;have z70:=L.z70;have v70:=L.v70;have u70:=run_underlying L.t70;have t37:=L.t37;have a37:=L.a37;have z37:=L.z37;have v37:=L.v37;have u37:=run_underlying L.t37;have t127:=L.t127;have a127:=L.a127;have z127:=L.z127;have v127:=L.v127;have u127:=run_underlying L.t127;have t3:=L.t3;have a3:=L.a3;have z3:=L.z3;have v3:=L.v3;have u3:=run_underlying L.t3;have t9:=L.t9;have a9:=L.a9;have z9:=L.z9;have v9:=L.v9;have u9:=run_underlying L.t9;have t5:=X.t5;have a5:=X.a5;have z5:=X.z5;have v5:=X.v5;have u5:=run_underlying X.t5
 go_enter L.f169,Body.n169_ntmps ρ
 go_wp2
 go_region_o
 all_goals (go_wp2;go_ret;exact ⟨rfl,Below.drew (Below.refl B w)⟩)
end Go.PM.Lex
end

section
namespace Go.PM.Lex
open Go.Proofs
variable {w0:World} {nG:Nat}
theorem wk {rows:List (List D)} {p:PV} {t t1 e e1:Nat} {B:Bs->Prop} {F:Bs->Bs->Prop} (l txt:Bs) (b:B txt) (k:F l txt) (h1:rows=Zj l:=by rfl) (h2:p=.d .nilp\/p=.ptr 0 0:=by first | exact .inl rfl | exact .inr rfl) (h3:t=t1:=by rfl) (h4:e=e1:=by rfl) (h5:l.length+txt.length<70368744177664:=by (try simp only [Tb,Tc,Td]);omega):∃l txt,rows=Zj l/\((p=.d .nilp\/p=.ptr 0 0)/\t=t1/\e=e1)/\B txt/\l.length+txt.length<70368744177664/\F l txt:=⟨l,txt,h1,⟨h2,h3,h4⟩,b,h5,k⟩
noncomputable def Zir (r:PV) (body:List PV->Bs->Prop):Zo:=fun args σ K=>match args,σ with
 | .ptr 0 0::rest,⟨[.cells t [p,.sl 0 e rows]],[0],1⟩=>∃l txt,rows=Zj l/\((p=.d .nilp\/p=.ptr 0 0)/\t=115/\e=5)/\body rest txt/\l.length+txt.length<70368744177664 /\
   K (.ret r) ⟨[.cells t [.ptr 0 0,.sl 0 e (Zj (l++txt))]],[0],1⟩
 | _,_=>False
theorem Zai (r:PV) (body:List PV->Bs->Prop):ZK (Zir r body):=fun args σ K K' hK h=>by
 unfold Zir at h |-
 split at h
 ·obtain ⟨l,txt,h1,h2,h3,h4,h5⟩:=h;exact ⟨l,txt,h1,h2,h3,h4,hK _ _ h5⟩
 exact h.elim
noncomputable def Zgn {α:Type} (val:Pl->α->PV) (may:α->Bool) (txt:α->Bs) (w:α->Nat) (n:Nat):Zo:=fun args σ K=>match args,σ with
 | [v,.ptr 0 0],⟨[.cells tp [.ptr 1 0],.cells t [.ptr 1 0,.sl 0 e rows]],[0],1⟩=>∃l pl x,rows=Zj l/\v=val pl x/\(t=115/\e=5)/\(may x=true/\w x<=n/\n<=1073741824)/\l.length+(txt x).length<70368744177664 /\
   K (.ret (.tuple [])) ⟨[.cells tp [.ptr 1 0],.cells t [.ptr 1 0,.sl 0 e (Zj (l++txt x))]],[0],1⟩
 | _,_=>False
noncomputable def ZqF {α:Type} (g0:FuncId) (enc:Pl->α->List D) (may:α->Bool) (txt:α->Bs) (w:α->Nat) (n:Nat):Zo:=fun args σ K=>match args,σ with
 | [.ptr 0 0,.d (.sl r),.d (.str bt),.func g [] [.ptr 1 0]],⟨[.cells t [.ptr 0 0,.sl 0 e rows],.cells tp [.ptr 0 0]],[0],1⟩=>∃l pl xs,rows=Zj l/\r=xs.map (enc pl)/\(t=115/\e=5/\g=g0)/\(xs.all may=true/\szS w xs<=n/\n<=1073741824)/\l.length+(Zg bt (xs.map txt)).length<70368744177664 /\
   K (.ret (.tuple [])) ⟨[.cells t [.ptr 0 0,.sl 0 e (Zj (l++Zg bt (xs.map txt)))],.cells tp [.ptr 0 0]],[0],1⟩
 | _,_=>False
noncomputable def ZCl (s:Bs):Zo:=Zir (.tuple [.d (.int .i64 s.length),.d .nili]) fun rest txt=>rest=[.d (.str s)]/\txt=s
noncomputable def Zgo:Zo:=fun args σ K=>match args with
 | [.ptr 0 0,.d (.str s)]=>ZCl s args σ K
 | _=>False
theorem ZmM:ZK Zgo:=fun args σ K K' hK h=>by
 unfold Zgo at h |-
 split at h
 ·exact Zai _ _ _ _ _ _ hK h
 exact h.elim
noncomputable def Zzh:Tbl:=[(177,Us)]
theorem ZqG:PC w0 nG 124 Zgo:=by
 refine Zd Zc mixed (tbl:=Zzh) ⟨Zgm,trivial⟩ Tryz.func124 rfl kR kR ?_;intro args σ K h
 unfold Zgo at h
 split at h
 ·rename_i s
  unfold ZCl Zir at h
  split at h
  ·rename_i rest t p e rows am
   obtain ⟨l,txt,rfl,⟨hp,rfl,rfl⟩,⟨an,rfl⟩,aa,h⟩:=h;simp only [List.cons.injEq,true_and] at am;have hb:∀x:Bs,(Zj x).length=x.length:=fun x=>by simp [Zj]
   rw [Vi] at h;refine ⟨Zb [],1,true,sM,Ta rfl,?_⟩;rcases hp with rfl | rfl
   all_goals
    conv=>whnf
    first | refine ⟨⟨.inl rfl,rfl⟩,?_⟩ | refine ⟨⟨.inr rfl,rfl⟩,?_⟩
    conv=>whnf
    refine ⟨fun r hr=>?_,?_,?_,?_⟩
    ·obtain ⟨b,_,rfl⟩:=SB.1 hr;rfl
    ·show ((Zj l).length+(Zj txt).length) * 1<=2 ^ 47;rw [hb,hb];omega
    ·show (Zj l).length+(Zj txt).length<=2 ^ 47;rw [hb,hb];omega
    exact m92
  exact h.elim
 exact h.elim
noncomputable def Zeb:Zo:=Zir (.tuple []) fun rest txt=>∃ps:List Bs,rest=[.d (.sl (ps.map ZY))]/\ps≠[]/\ps.length<=1073741824/\txt=ps.flatten
theorem ZmN:ZK Zeb:=Zai _ _
noncomputable def ZqH:Tbl:=[(124,Zgo)]
theorem Zh7:TO w0 nG ZqH:=⟨ZqG,trivial⟩
theorem Jc:PC w0 nG 72 Zeb:=by
 refine Zd Zc mixed (tbl:=ZqH) Zh7 Tryz.func72 rfl kR kR ?_;intro args σ K h
 unfold Zeb Zir at h
 split at h
 ·rename_i rest t p e rows
  obtain ⟨l,txt,rfl,⟨hp,rfl,rfl⟩,⟨ps,rfl,ao,iu,rfl⟩,aa,h⟩:=h;have cn:(ps.map ZY).length=ps.length:=Tf ..;refine ⟨Zb [(1,⟨[8],[0,6,7],fun vs σ=>∃(i:Nat) (P:PV),vs=[.d (.int .i64 i)]/\σ=⟨[.cells 115 [P,.sl 0 5 (Zj (l++(ps.take i).flatten))]],[0],1⟩/\(P=.d .nilp\/P=.ptr 0 0)/\(0<i->P=.ptr 0 0)/\i<=ps.length,mu1 ps.length⟩)],1,true,sM,Ta rfl,?_⟩;rcases hp with rfl | rfl
  all_goals
   conv=>whnf
   refine ⟨⟨0,_,rfl,(by simp only [Sf,List.flatten_nil,TU];rfl),iM,fun g=>absurd g oM,oM⟩,?_⟩;intro vs σ hI
   obtain ⟨i,P,rfl,rfl,hP,hP0,hi⟩:=hI;(conv=>whnf);refine ZDc (fun af=>?_) (fun af=>?_)
   ·have af:i<ps.length:=lzI cn af;obtain ⟨s,hs⟩:∃s,ps[i]=s:=⟨_,rfl⟩
    have bi:(ps.map ZY)[((i:Nat):Int).toNat]?=some (ZY s):=by simp [af,hs]
    have bw:(ps.take (i+1)).flatten=(ps.take i).flatten++s:=by rw [List.take_succ_eq_append_getElem af,List.flatten_append,hs];simp
    have aq:(ps.take (i+1)).flatten.length<=ps.flatten.length:=by
     have e:ps.flatten=(ps.take (i+1)).flatten++(ps.drop (i+1)).flatten:=by rw [<- List.flatten_append,List.take_append_drop]
     rw [e,Tb];omega
    rw [bw,Tb] at aq;rcases hP with rfl | rfl
    all_goals
     conv=>whnf
     refine ⟨_,oM,bi,wN ?_⟩;refine ⟨l++(ps.take i).flatten,s,rfl,⟨iM,rfl,rfl⟩,⟨rfl,rfl⟩,by rw [Tb];omega,?_⟩;(conv=>whnf);refine Or.inl ⟨InR.i64 oM oM,wN ?_⟩;refine ⟨⟨i+1,_,rfl,(by rw [bw,Tk];rfl),.inr rfl,fun _=>rfl,oM⟩,?_⟩;exact lzM oM
   have af:i=ps.length:=lzE cn oM af;subst af;obtain rfl:=hP0 (List.length_pos_iff.2 ao);rw [T3];exact m92
 exact h.elim
theorem ZdC (bt:Bs):∀(l:List Bs) (x:Bs),Zg bt (l++[x])=if l=[] then x else Zg bt l++(bt++x)
 | [],x=>rfl
 | [y],x=>by simp [Zg]
 | y::z::l,x=>by
  have ih:=ZdC bt (z::l) x;simp only [Sl] at ih |-;rw [Zg,ih] <;> simp [Zg]
theorem VM {α:Type} (bt:Bs) (f:α->Bs) {xs:List α} {i:Nat} (h:i<xs.length):Zg bt ((xs.take (i+1)).map f)=if i=0 then f xs[i] else Zg bt ((xs.take i).map f)++(bt++f xs[i]):=by
 rw [List.take_succ_eq_append_getElem h,Sp,TC,TL,ZdC];have e:((xs.take i).map f=[])↔i=0:=by
  rw [<- List.length_eq_zero_iff,Tf,List.length_take];omega
 by_cases h0:i=0
 ·rw [Tj (e.2 h0),Tj h0]
 rw [Tg (fun g=>h0 (e.1 g)),Tg h0]
theorem Zaj (bt:Bs):∀(l m:List Bs),(Zg bt l).length<=(Zg bt (l++m)).length
 | [],m=>T6 _
 | [x],[]=>Tq _
 | [x],y::m=>by simp only [Sl,Sg,Zg,Tb];omega
 | x::y::l,m=>by
  have ih:=Zaj bt (y::l) m;simp only [Sl,Zg,Tb] at ih |-;omega
theorem Zak {α:Type} (bt:Bs) (f:α->Bs) (xs:List α) (i:Nat):(Zg bt ((xs.take i).map f)).length<=(Zg bt (xs.map f)).length:=by
 have h:=Zaj bt ((xs.take i).map f) ((xs.drop i).map f)
 rwa [<- Sp,List.take_append_drop] at h
noncomputable def ZqI (n:Nat):Tbl:=[(124,Zgo),(126,Zgn (YJ (fun _=>Zw)) YQ fiT wFi n)]
theorem ZwP {n:Nat} (ht:TO w0 nG (ZqI n)):PC w0 nG 125 (ZqF 126 (fun _=>Zw) YQ fiT wFi n):=by
 refine Zd Zc mixed (tbl:=ZqI n) ht Tryz.func125 rfl kR kR ?_;intro args σ K h
 unfold ZqF at h
 split at h
 ·rename_i r bt g t e rows tp
  obtain ⟨l,pl,xs,rfl,rfl,⟨rfl,rfl,rfl⟩,⟨co,hz,hn⟩,aa,h⟩:=h;have cn:(xs.map ((fun _=>Zw) pl)).length=xs.length:=Tf ..;have hsz:=Zv wFi xs;refine ⟨Zb [(1,⟨[12],[0,1,2,3,10,11],fun vs σ=>∃i:Nat,vs=[.d (.int .i64 i)]/\σ=⟨[.cells 115 [.ptr 0 0,.sl 0 5 (Zj (l++Zg bt ((xs.take i).map fiT)))],.cells tp [.ptr 0 0]],[0],1⟩/\i<=xs.length,mu1 xs.length⟩)],2,true,sM,Ta rfl,wN ?_⟩;refine ⟨⟨0,rfl,(by simp only [Sf,TL,Zg,TU];rfl),oM⟩,?_⟩;intro vs σ hI
  obtain ⟨i,rfl,rfl,hi⟩:=hI;(conv=>whnf);refine ZDc (fun af=>wN ?_) (fun af=>?_)
  ·have af:i<xs.length:=lzI cn af;have hg:=ZA wFi xs i af;have ky:YQ xs[i]=true:=Tm.1 co _ (TB af);have bw:=VM bt fiT af;have aq:=Zak bt fiT xs (i+1);obtain ⟨eA,hA⟩:∃x,xs[i]=x:=⟨_,rfl⟩
   obtain ⟨a1,a2⟩:=eA;rw [hA] at hg ky bw;have bi:(xs.map ((fun _=>Zw) pl))[((i:Nat):Int).toNat]?=some ((fun _=>Zw) pl ⟨a1,a2⟩):=by simp [af,hA]
   refine ⟨_,oM,bi,wN ?_⟩;refine ZDc (fun h0=>wN ?_) (fun h0=>?_)
   ·have h0:0<i:=by omega
    rw [Tg oM] at bw;rw [bw] at aq;simp only [Tb] at aq;refine wk _ bt ⟨rfl,rfl⟩ (wN ?_);refine ⟨l++Zg bt ((xs.take i).map fiT)++bt,pl,⟨a1,a2⟩,rfl,rfl,⟨rfl,rfl⟩,⟨ky,oM,oM⟩,by simp only [Tb];omega,wN ?_⟩;exact m58
   obtain rfl:i=0:=by omega
   rw [Tj rfl] at bw;rw [bw] at aq;(conv=>whnf);refine ⟨l++Zg bt ((xs.take 0).map fiT),pl,⟨a1,a2⟩,rfl,rfl,⟨rfl,rfl⟩,⟨ky,oM,oM⟩,by simp only [Sf,TL,Zg,Tb,Td];omega,wN ?_⟩;exact m51
  exact m83
 exact h.elim
noncomputable def ZqJ (n:Nat):Tbl:=[(124,Zgo),(75,Zgn (YJ (fun _=>Zn)) Xq caT wCa n)]
theorem ZwQ {n:Nat} (ht:TO w0 nG (ZqJ n)):PC w0 nG 74 (ZqF 75 (fun _=>Zn) Xq caT wCa n):=by
 refine Zd Zc mixed (tbl:=ZqJ n) ht Tryz.func74 rfl kR kR ?_;intro args σ K h
 unfold ZqF at h
 split at h
 ·rename_i r bt g t e rows tp
  obtain ⟨l,pl,xs,rfl,rfl,⟨rfl,rfl,rfl⟩,⟨co,hz,hn⟩,aa,h⟩:=h;have cn:(xs.map ((fun _=>Zn) pl)).length=xs.length:=Tf ..;have hsz:=Zv wCa xs;refine ⟨Zb [(1,⟨[12],[0,1,2,3,10,11],fun vs σ=>∃i:Nat,vs=[.d (.int .i64 i)]/\σ=⟨[.cells 115 [.ptr 0 0,.sl 0 5 (Zj (l++Zg bt ((xs.take i).map caT)))],.cells tp [.ptr 0 0]],[0],1⟩/\i<=xs.length,mu1 xs.length⟩)],2,true,sM,Ta rfl,wN ?_⟩;refine ⟨⟨0,rfl,(by simp only [Sf,TL,Zg,TU];rfl),oM⟩,?_⟩;intro vs σ hI
  obtain ⟨i,rfl,rfl,hi⟩:=hI;(conv=>whnf);refine ZDc (fun af=>wN ?_) (fun af=>?_)
  ·have af:i<xs.length:=lzI cn af;have hg:=ZA wCa xs i af;have ky:Xq xs[i]=true:=Tm.1 co _ (TB af);have bw:=VM bt caT af;have aq:=Zak bt caT xs (i+1);obtain ⟨eA,hA⟩:∃x,xs[i]=x:=⟨_,rfl⟩
   obtain ⟨a1,a2⟩:=eA;rw [hA] at hg ky bw;have bi:(xs.map ((fun _=>Zn) pl))[((i:Nat):Int).toNat]?=some ((fun _=>Zn) pl ⟨a1,a2⟩):=by simp [af,hA]
   refine ⟨_,oM,bi,wN ?_⟩;refine ZDc (fun h0=>wN ?_) (fun h0=>?_)
   ·have h0:0<i:=by omega
    rw [Tg oM] at bw;rw [bw] at aq;simp only [Tb] at aq;refine wk _ bt ⟨rfl,rfl⟩ (wN ?_);refine ⟨l++Zg bt ((xs.take i).map caT)++bt,pl,⟨a1,a2⟩,rfl,rfl,⟨rfl,rfl⟩,⟨ky,oM,oM⟩,by simp only [Tb];omega,wN ?_⟩;exact m58
   obtain rfl:i=0:=by omega
   rw [Tj rfl] at bw;rw [bw] at aq;(conv=>whnf);refine ⟨l++Zg bt ((xs.take 0).map caT),pl,⟨a1,a2⟩,rfl,rfl,⟨rfl,rfl⟩,⟨ky,oM,oM⟩,by simp only [Sf,TL,Zg,Tb,Td];omega,wN ?_⟩;exact m51
  exact m83
 exact h.elim
def ZBn:Tab:=(.node (.node (.node (.node .leaf 3 ⟨1,8,.int .i64,[.d (.int .i64 (0))],true⟩ .leaf) 4 ⟨1,1,.bool,[.d (.bool false)],false⟩ .leaf) 5 ⟨1,1,.int .u8,[.d (.int .u8 (0))],true⟩ (.node .leaf 9 ⟨1,16,.string,[.d (.str [])],false⟩ .leaf)) 27 ⟨1,8,.int .u64,[.d (.int .u64 (0))],true⟩ (.node (.node .leaf 111 ⟨1,24,.slice 5,[.nils 5],false⟩ .leaf) 291 ⟨1,8,.int .u64,[.d (.int .u64 (0))],true⟩ (.node .leaf 331 ⟨65,65,.array 65 5,[.d (.int .u8 (0)),.d (.int .u8 (0)),.d (.int .u8 (0)),.d (.int .u8 (0)),.d (.int .u8 (0)),.d (.int .u8 (0)),.d (.int .u8 (0)),.d (.int .u8 (0)),.d (.int .u8 (0)),.d (.int .u8 (0)),.d (.int .u8 (0)),.d (.int .u8 (0)),.d (.int .u8 (0)),.d (.int .u8 (0)),.d (.int .u8 (0)),.d (.int .u8 (0)),.d (.int .u8 (0)),.d (.int .u8 (0)),.d (.int .u8 (0)),.d (.int .u8 (0)),.d (.int .u8 (0)),.d (.int .u8 (0)),.d (.int .u8 (0)),.d (.int .u8 (0)),.d (.int .u8 (0)),.d (.int .u8 (0)),.d (.int .u8 (0)),.d (.int .u8 (0)),.d (.int .u8 (0)),.d (.int .u8 (0)),.d (.int .u8 (0)),.d (.int .u8 (0)),.d (.int .u8 (0)),.d (.int .u8 (0)),.d (.int .u8 (0)),.d (.int .u8 (0)),.d (.int .u8 (0)),.d (.int .u8 (0)),.d (.int .u8 (0)),.d (.int .u8 (0)),.d (.int .u8 (0)),.d (.int .u8 (0)),.d (.int .u8 (0)),.d (.int .u8 (0)),.d (.int .u8 (0)),.d (.int .u8 (0)),.d (.int .u8 (0)),.d (.int .u8 (0)),.d (.int .u8 (0)),.d (.int .u8 (0)),.d (.int .u8 (0)),.d (.int .u8 (0)),.d (.int .u8 (0)),.d (.int .u8 (0)),.d (.int .u8 (0)),.d (.int .u8 (0)),.d (.int .u8 (0)),.d (.int .u8 (0)),.d (.int .u8 (0)),.d (.int .u8 (0)),.d (.int .u8 (0)),.d (.int .u8 (0)),.d (.int .u8 (0)),.d (.int .u8 (0)),.d (.int .u8 (0))],false⟩ .leaf)))
theorem ZsV:TabOK ZBn Tryz.prog:=by unfold TabOK;kernel_rfl
end Go.PM.Lex
end

section
namespace Go.PM.Lex
open Go.Proofs Go.Shelf Go.RowKit
variable {w0:World} {nG:Nat}
structure NumOK (w0:World) (nG:Nat):Prop where
 big:7<nG
 pow : Lib.TabIs Tryz.prog w0 "internal/strconv.uint64pow10" .u64 Lib.pow10Tab
 bru:w0.cell? ⟨5,15,none⟩=some (.int .u8 4)
theorem Zzi:IntKind.u64.wrap (bits BinOp.and IntKind.u64 (16:Int) (IntKind.u64.wrap (-(16:Int))) * 285870213051353865) / 288230376151711744=(15:Int):=by decide +kernel
theorem ZwR (w:World) (be:w.cell? ⟨5,15,none⟩=some (.int .u8 4)):Calls Tryz.prog 288 #[.int .u64 16] w fun e w'=>e=.returned (.int .i64 4)/\w'=w:=by
 go_enter Tryz.func288,Tryz.ntmps288
 go_wp2_with (simp only [Zzi])
 go_ret
 exact ⟨rfl,rfl⟩
theorem ZbL:∀(f n:Nat),n<f->Lib.decDigits n=JG 10 f n
 | 0,n,h=>oM
 | f+1,n,h=>by
  rw [Lib.decDigits,JG]
  by_cases c:n<10
  ·rw [dif_pos c,Tj c,Zip,Tj c]
  rw [dif_neg c,Tg c,ZbL f (n / 10) oM,Zip,Tj oM]
theorem ZqK {n:Int} (h:0<=n):Lib.itoa n=Zfb n:=by
 rw [Lib.itoa,Tg oM,Zfb,Tg oM,Vm];exact ZbL _ _ oM
theorem ZsW {e:Env} {σ:St} {w:World} {name:String} {k:IntKind} {zs:List Int} {g:Nat} (hS:SRel (GG w0 nG) e σ w) (h:Lib.TabIs Tryz.prog w0 name k zs) (hg:Tryz.prog.globalNamed name=some g) (ai:g<nG):Lib.TabIs Tryz.prog w name k zs:=by
 unfold Lib.TabIs World.var? at h |-
 rw [hg] at h |-;simp only [Option.bind_some] at h |-;rw [hS.glob g ai];exact h
theorem ZwS {e:Env} {σ:St} {w:World} {k i:Nat} {u:Value} (hS:SRel (GG w0 nG) e σ w) (hk:k<nG) (h:w0.cell? ⟨k,i,none⟩=some u):w.cell? ⟨k,i,none⟩=some u:=by
 have:=hS.glob k hk;simpa [World.cell?,this] using h
noncomputable def Zh8:Zo:=fun args σ K=>match args,σ with
 | [.d (.int .i64 n),.d (.int .i64 b)],⟨[],[],0⟩=>(b=10/\0<=n/\n<9223372036854775808)/\K (.ret (.d (.str (Zfb n)))) ⟨[],[],0⟩
 | _,_=>False
theorem Zjy:ZK Zh8:=fun args σ K K' hK h=>by
 unfold Zh8 at h |-;split at h <;> first | exact ⟨h.1,hK _ _ h.2⟩ | exact h.elim
theorem ZqL (hN:NumOK w0 nG):PC w0 nG 215 Zh8:=Yw (Zk Tryz.func215 kR rfl) fun args σ K h e w vs hS ha=>by
 unfold Zh8 at h
 split at h
 ·rename_i n b
  obtain ⟨⟨rfl,h0,h1⟩,h⟩:=h;obtain ⟨u,v,rfl,hu,hv⟩:=Zhy ha
  cases hu.dint;cases hv.dint
  have ht:=ZsW hS hN.pow (g:=3) kR (by have:=hN.big;omega);have hc:=Tryz.strconv_FormatInt_10 n oM oM w ht;rw [ZqK h0] at hc;exact ⟨_,h,_,fun _ _=>.mkstr,hc.mono fun en w' ⟨h1,k,os,h2⟩=>⟨h1,ZDi (by rw [h2];exact Lib.below_grow w.heap.size w (Tq _) k os)⟩⟩
 exact h.elim
noncomputable def ZxP:Zo:=fun args σ K=>match args,σ with
 | [.d (.int .u64 n)],⟨[],[],0⟩=>n=16/\K (.ret (.d (.int .i64 4))) ⟨[],[],0⟩
 | _,_=>False
theorem ZwT (hN:NumOK w0 nG):PC w0 nG 288 ZxP:=Yw (Zk Tryz.func288 kR rfl) fun args σ K h e w vs hS ha=>by
 unfold ZxP at h
 split at h
 ·rename_i n
  obtain ⟨rfl,h⟩:=h;obtain ⟨u,rfl,hu⟩:=Zhx ha
  cases hu.dint
  exact ⟨_,h,_,fun _ _=>.d _ _ (.int _ _),(ZwR w (ZwS hS (k:=5) (by have:=hN.big;omega) hN.bru)).mono fun en w' ⟨h1,h2⟩=>⟨h1,by rw [h2];exact Grows.refl _⟩⟩
 exact h.elim
noncomputable def ZBo:Tbl:=[(288,ZxP)]
theorem ZBp (hN:NumOK w0 nG):PC w0 nG 278 ZxP:=by
 refine Zd Zc mixed (tbl:=ZBo) ⟨ZwT hN,trivial⟩ Tryz.func278 rfl kR kR ?_;intro args σ K h
 unfold ZxP at h
 split at h
 ·obtain ⟨rfl,h⟩:=h;refine ⟨Zb [],0,false,sM,Ta rfl,wN ?_⟩;refine ⟨rfl,wN ?_⟩;exact h
 exact h.elim
noncomputable def ZwU:Zo:=fun args σ K=>match args,σ with
 | [.d (.int .i64 n)],⟨[],[],0⟩=>n=16/\K (.ret (.d (.bool true))) ⟨[],[],0⟩
 | _,_=>False
theorem ZwV:Zi .and .i64 16 15=0:=by rw [Z2];decide +kernel
theorem Zzj:PC w0 nG 277 ZwU:=by
 refine Zd Zc mixed (tbl:=[]) trivial Tryz.func277 rfl kR kR ?_;intro args σ K h
 unfold ZwU at h
 split at h
 ·obtain ⟨rfl,h⟩:=h;refine ⟨Zb [],0,false,sM,Ta rfl,wN ?_⟩;refine Or.inl ⟨InR.i64 oM oM,wN ?_⟩;have e:(Zi .and .i64 16 (16 - 1))=0:=ZwV;rw [e];exact h
 exact h.elim
theorem ZsX {n:Nat} (h:16<=n):Vm 16 n=Vm 16 (n / 16)++[Zip (n % 16)]:=by
 have key:∀(f g m:Nat),m<f->m<g->JG 16 f m=JG 16 g m:=by
  intro f
  induction f with
  | zero=>intro g m h;omega
  | succ f ih =>
  intro g m h1 h2
  obtain ⟨g,rfl⟩:∃k,g=k+1:=⟨g - 1,oM⟩
  rw [JG,JG];split
  ·rfl
  rw [ih g (m / 16) oM oM]
 rw [Vm,JG,Tg oM,Vm,key n (n / 16+1) (n / 16) oM oM]
theorem ZsY {n:Nat} (h:n<16):Vm 16 n=[Zip n]:=by rw [Vm,JG,Tj h]
def digs36:Bs:=[48,49,50,51,52,53,54,55,56,57,97,98,99,100,101,102,103,104,105,106,107,108,109,110,111,112,113,114,115,116,117,118,119,120,121,122]
theorem ZqM:∀d:Fin 16,digs36.getD d.val 0=Zip d.val:=by decide +kernel
theorem ZwW {u:Nat} (h:u<18446744073709551616):Zi .and .u64 (u:Int) 15=((u % 16:Nat):Int):=by
 have e:Zi .and .u64 (u:Int) 15=bits .and .u64 (u:Int) ((15:Nat):Int):=by rw [Z2];rfl
 rw [e,bits_and_u64_nat u 15 h dM];have:u &&& 15=u % 16:=Nat.and_two_pow_sub_one_eq_mod u 4;rw [this]
def sh4 (n:Int):Int:=n.fdiv (2 ^ (min (Int.toNat 4) (IntKind.bits .u64)))
theorem ZwX (u:Nat):sh4 (u:Int)=((u / 16:Nat):Int):=by
 show (u:Int).fdiv ((2:Int) ^ 4)=_;rw [show ((2:Int) ^ 4)=((16:Nat):Int) by decide,Int.fdiv_eq_ediv_of_nonneg _ dM];omega
theorem ZsZ {u:Nat} (h:u<18446744073709551616):digs36.getD (Zi .and .u64 (u:Int) 15).toNat 0=Zip (u % 16):=by
 rw [ZwW h,Tw];exact ZqM ⟨u % 16,Nat.mod_lt _ dM⟩
theorem Zs0 {u:Nat} (h:u<16):digs36.getD (u:Int).toNat 0=Zip u:=by
 rw [Tw];exact ZqM ⟨u,h⟩
theorem Zs1 {u:Nat} (h:u<18446744073709551616):0<=Zi .and .u64 (u:Int) 15:=by rw [ZwW h];omega
theorem Zs2 {u:Nat} (h:u<18446744073709551616):Zi .and .u64 (u:Int) 15<36:=by rw [ZwW h];omega
def shN:Nat->Int->Int
 | 0,n=>n
 | j+1,n=>sh4 (shN j n)
noncomputable def Zzk:Nat->Int->Bs
 | 0,_=>[]
 | j+1,n=>digs36.getD (Zi .and .u64 (shN j n) 15).toNat 0::Zzk j n
theorem Za7 (u:Nat):∀j,shN j (u:Int)=((u / 16 ^ j:Nat):Int)
 | 0=>by rw [shN,Nat.pow_zero,Nat.div_one]
 | j+1=>by rw [shN,Za7 u j,ZwX,Nat.div_div_eq_div_mul,Nat.pow_succ]
theorem ZqN {u:Nat} (hu:u<18446744073709551616) (j:Nat):u / 16 ^ j<18446744073709551616:=Nat.lt_of_le_of_lt (Nat.div_le_self _ _) hu
theorem ZCm {u:Nat} (hu:u<18446744073709551616):∀j,(∀k,k<j->16<=u / 16 ^ k)->Vm 16 u=Vm 16 (u / 16 ^ j)++Zzk j (u:Int)
 | 0,_=>by rw [Zzk,Nat.pow_zero,Nat.div_one,TU]
 | j+1,h=>by
  rw [ZCm hu j fun k hk=>h k oM,ZsX (h j oM),Zzk,Za7,ZsZ (ZqN hu j),Tk,Nat.div_div_eq_div_mul,Nat.pow_succ];rfl
theorem ZCn {u j:Nat} (G:∀k,k<j->16<=u / 16 ^ k) (g:(16:Int)<=shN j (u:Int)):∀k,k<j+1->16<=u / 16 ^ k:=fun k hk=>by
 rw [Za7] at g
 by_cases c:k=j
 ·subst c;omega
 exact G k oM
theorem ZCo {u j:Nat} (hu:u<18446744073709551616) (G:∀k,k<j->16<=u / 16 ^ k) (g:¬(16:Int)<=shN j (u:Int)):Vm 16 u=digs36.getD (shN j (u:Int)).toNat 0::Zzk j (u:Int):=by
 rw [Za7] at g |-;rw [ZCm hu j G,ZsY oM,Zs0 oM];rfl
theorem ZCL {u j:Nat} (hu:u<18446744073709551616) (G:∀k,k<j->16<=u / 16 ^ k):0<=Zi .and .u64 (shN j (u:Int)) 15/\Zi .and .u64 (shN j (u:Int)) 15<36:=by
 rw [Za7];exact ⟨Zs1 (ZqN hu j),Zs2 (ZqN hu j)⟩
theorem ZCp {u j:Nat} (G:∀k,k<j->16<=u / 16 ^ k) (g:¬(16:Int)<=shN j (u:Int)):0<=shN j (u:Int)/\shN j (u:Int)<36:=by
 rw [Za7] at g |-;generalize u / 16 ^ j=v at g |-;omega
noncomputable def ZBq:Zo:=fun args σ K=>match args,σ with
 | [.sl 0 e [],.d (.int .u64 n),.d (.int .i64 b),.d (.bool ng),.d (.bool ap)],⟨[],[0],1⟩=>(b=16/\ng=false/\ap=false/\0<=n/\n<18446744073709551616)/\K (.ret (.tuple [.d (.sl []),.d (.str (Vm 16 n.toNat))])) ⟨[],[],0⟩
 | _,_=>False
noncomputable def ZBr:Tbl:=[(277,ZwU),(278,ZxP)]
theorem ZBs (hN:NumOK w0 nG):PC w0 nG 263 ZBq:=by
 refine ZfN ZsV mixed (tbl:=ZBr) ⟨Zzj,ZBp hN,trivial⟩ Tryz.func263 rfl kR kR ?_;intro args σ K h
 unfold ZBq at h
 split at h
 all_goals first | exact h.elim | skip
 all_goals
  obtain ⟨⟨rfl,rfl,rfl,h0,h1⟩,h⟩:=h
  rename_i e n
  obtain ⟨u0,rfl⟩:∃u:Nat,n=u:=⟨n.toNat,oM⟩
  rw [Tw] at h;have hu0:u0<18446744073709551616:=oM;refine ⟨Zb [],VV [(11,17)],Xj [],Xj [101],Xj [],0,false,sM,Ta rfl,wN ?_⟩;refine ⟨rfl,wN ?_⟩;refine Or.inl ⟨InR.u64 oM oM,wN ?_⟩;refine ⟨rfl,wN ?_⟩;refine Or.inl ⟨InR.u64 oM oM,wN ?_⟩;refine Or.inl ⟨InR.u64 oM oM,wN ?_⟩;refine Or.inl ⟨InR.u64 oM oM,wN ?_⟩;refine Or.inl ⟨InR.u64 oM oM,wN ?_⟩;have G:∀k,k<0->16<=u0 / 16 ^ k:=fun k hk=>oM
  iterate 15
   refine ZDc (fun g=>?_) (fun g=>?_);rotate_left
   ·have hb:=ZCo hu0 G g;have B:=ZCp G g;rw [hb] at h;(conv=>whnf);exact m84
   have B:=ZCL hu0 G;have G:=ZCn G g;(conv=>whnf);refine Or.inl ⟨InR.i64 dM dM,wN ?_⟩;refine ⟨B.1,B.2,wN ?_⟩;refine ⟨dM,dM,wN ?_⟩;refine ⟨dM,wN ?_⟩
  refine ZDc (fun g=>?_) (fun g=>wN ?_)
  ·exact absurd (ZCn G g 15 dM) oM
  have hb:=ZCo hu0 G g;have B:=ZCp G g;rw [hb] at h;exact m84
noncomputable def ZbM:Zo:=fun args σ K=>match args,σ with
 | [.d (.int .u64 n),.d (.int .i64 b)],⟨[],[],0⟩=>(b=16/\0<=n/\n<18446744073709551616)/\K (.ret (.d (.str (Vm 16 n.toNat)))) ⟨[],[],0⟩
 | _,_=>False
theorem Zjz:ZK ZbM:=fun args σ K K' hK h=>by
 unfold ZbM at h |-;split at h <;> first | exact ⟨h.1,hK _ _ h.2⟩ | exact h.elim
noncomputable def ZBt:Tbl:=[(263,ZBq)]
theorem ZBu (hN:NumOK w0 nG):PC w0 nG 245 ZbM:=by
 refine Zd Zc mixed (tbl:=ZBt) ⟨ZBs hN,trivial⟩ Tryz.func245 rfl kR kR ?_;intro args σ K h
 unfold ZbM at h
 split at h
 ·obtain ⟨⟨rfl,h0,h1⟩,h⟩:=h;refine ⟨Zb [],0,false,sM,Ta rfl,wN ?_⟩;refine ⟨⟨rfl,rfl,rfl,h0,h1⟩,wN ?_⟩;exact h
 exact h.elim
noncomputable def ZwY:Tbl:=[(245,ZbM)]
theorem ZqO (hN:NumOK w0 nG):PC w0 nG 214 ZbM:=by
 refine Zd Zc mixed (tbl:=ZwY) ⟨ZBu hN,trivial⟩ Tryz.func214 rfl kR kR ?_;intro args σ K h
 unfold ZbM at h
 split at h
 ·rename_i n b
  obtain ⟨⟨rfl,h0,h1⟩,h⟩:=h;refine ⟨Zb [],0,false,sM,Ta rfl,wN ?_⟩;refine ⟨⟨rfl,h0,h1⟩,?_⟩;generalize Vm 16 n.toNat=T at h |-;exact m92
 exact h.elim
theorem Zlg {n:Int} (h:n<0) (h0:-9223372036854775808<=n):0<=IntKind.u64.wrap n/\IntKind.u64.wrap n<18446744073709551616/\Zfb n=[48,120]++Vm 16 (IntKind.u64.wrap n).toNat:=by
 have e:IntKind.u64.wrap n=n+18446744073709551616:=by
  unfold IntKind.wrap
  simp [IntKind.signed,IntKind.bits];omega
 refine ⟨oM,oM,?_⟩;rw [Zfb,Tj h,e]
end Go.PM.Lex
end

section
namespace Go.PM.Lex
def ZAw (n:Int):Bool:=decide (-9223372036854775808<=n) && decide (n<9223372036854775808)
mutual
def Zh9:Ex->Bool
 | .mk _ _ n l _=>ZAw n && ZjA l
def ZjA:List Ex->Bool
 | []=>true
 | x::l=>Zh9 x && ZjA l
end
theorem VN (l:List Ex):ZjA l=l.all Zh9:=by induction l with | nil=>rfl | cons x l ih=>simp [ZjA,ih]
theorem ZdD {op:Nat} {t:Bs} {n:Int} {l:List Ex} {a:Nat} (h:Zh9 (.mk op t n l a)=true):(-9223372036854775808<=n/\n<9223372036854775808)/\∀x∈l,Zh9 x=true:=by
 simp only [Zh9,VN,ZAw,Tl,TM] at h;exact ⟨h.1,Tm.1 h.2⟩
mutual
def ZmO:Li->Bool
 | .mk _ _ args body _=>ZjA args && ZmP body
def ZmP:List Li->Bool
 | []=>true
 | x::l=>ZmO x && ZmP l
end
theorem UO (l:List Li):ZmP l=l.all ZmO:=by induction l with | nil=>rfl | cons x l ih=>simp [ZmP,ih]
theorem ZqP {op:Nat} {rel:Bs} {args:List Ex} {body:List Li} {a:Nat} (h:ZmO (.mk op rel args body a)=true):(∀x∈args,Zh9 x=true)/\∀x∈body,ZmO x=true:=by
 simp only [ZmO,VN,UO,Tl] at h;exact ⟨Tm.1 h.1,Tm.1 h.2⟩
def Zgp (r:Ru):Bool:=r.args.all Zh9 && r.body.all ZmO
mutual
def ZmQ:Un->Bool
 | .mk _ _ rules comps _ _=>rules.all Zgp && ZbN comps
def ZmR:Co->Bool
 | .mk _ _ _ _ u _=>ZmQ u
def ZbN:List Co->Bool
 | []=>true
 | c::l=>ZmR c && ZbN l
end
theorem Zal (l:List Co):ZbN l=l.all ZmR:=by induction l with | nil=>rfl | cons x l ih=>simp [ZbN,ih]
open Go.Proofs
variable {w0:World} {nG:Nat}
def ZjB (e:Ex):Bool:=Z9 e && Zh9 e
theorem ZwZ {op:Nat} {t:Bs} {n:Int} {l:List Ex} {a:Nat} (h:ZjB (.mk op t n l a)=true):-2<VX op/\(VX op<0\/(l.length:Int)=VX op)/\VY op t=true/\(-9223372036854775808<=n/\n<9223372036854775808)/\l.all ZjB=true:=by
 simp only [ZjB,Tl] at h;obtain ⟨h1,h2⟩:=h;obtain ⟨r1,r2⟩:=ZdD h2;simp only [Z9,Zs,Tl,So,TM] at h1;obtain ⟨h1,h3,h4,h5,h6⟩:=h1;refine ⟨h1,h3,h5,r1,?_⟩;rw [Tm] at h6 |-;exact fun x hx=>by rw [ZjB,h6 x hx,r2 x hx];rfl
theorem Zs3 {op:Nat} (h:-2<VX op):op<26:=by
 by_cases hc:op<26
 ·exact hc
 unfold VX at h
 (repeat rw [Tg oM] at h)
 omega
theorem Zw0 {op:Nat} (h:-2<VX op):(ZO op<5->VX op=2)/\(ZO op=5->VX op=1)/\ZO op<=6/\(op=5->VX op=0):=by
 have hk:∀o:Fin 26,-2<VX o.val->(ZO o.val<5->VX o.val=2)/\(ZO o.val=5->VX o.val=1)/\ZO o.val<=6/\(o.val=5->VX o.val=0):=dM;exact hk ⟨op,Zs3 h⟩ h
noncomputable def Zs4 (n:Nat):Zo:=Zir (.tuple []) fun rest txt=>∃pl e want,rest=[YJ YP pl e,.d (.int .i64 want)]/\(ZjB e=true/\wE e<=n/\n<=1073741824/\0<=want/\want<=6)/\txt=exW want.toNat e
theorem ZqQ (n:Nat):ZK (Zs4 n):=Zai _ _
noncomputable def Zs5 (n:Nat):Zo:=Zir (.tuple []) fun rest txt=>∃fr fin pl xs,rest=[.d (.str fr),.d (.sl (Yn pl xs)),.d (.str fin)]/\(xs.all ZjB=true/\szS wE xs<=n/\n<=1073741824)/\txt=argT fr fin xs
theorem ZqR (n:Nat):ZK (Zs5 n):=Zai _ _
theorem Vo (e:Ex):exW 0 e=exT e:=by rw [exW,ZsQ,Tg sM]
noncomputable def Zup (n:Nat):Tbl:=[(181,Zs4 n)]
theorem Zzl {n:Nat} (ht:TO w0 nG (Zup n)):PC w0 nG 180 (Zgn (YJ YP) ZjB exT wE n):=by
 refine Zd Zc mixed (tbl:=Zup n) ht Tryz.func180 rfl kR kR ?_;intro args σ K h
 unfold Zgn at h
 split at h
 ·obtain ⟨l,pl,⟨op,tx,nn,xs,at'⟩,rfl,rfl,⟨rfl,rfl⟩,⟨co,hz,hn⟩,aa,h⟩:=h;refine ⟨Zb [],2,true,sM,Ta rfl,wN ?_⟩;refine ⟨l,exT (.mk op tx nn xs at'),rfl,⟨.inr rfl,rfl,rfl⟩,⟨pl,.mk op tx nn xs at',0,rfl,⟨co,hz,hn,oM,oM⟩,(Vo _).symm⟩,aa,wN ?_⟩;exact h
 exact h.elim
noncomputable def Zzm (n:Nat):Tbl:=[(72,Zeb),(179,ZqF 180 YP ZjB exT wE n)]
theorem ZBv {n:Nat} (ht:TO w0 nG (Zzm n)):PC w0 nG 128 (Zs5 n):=by
 refine Zd Zc mixed (tbl:=Zzm n) ht Tryz.func128 rfl kR kR ?_;intro args σ K h
 unfold Zs5 Zir at h
 split at h
 ·rename_i rest t p e rows
  obtain ⟨l,txt,rfl,⟨hp,rfl,rfl⟩,⟨fr,fin,pl,xs,rfl,⟨co,hz,hn⟩,rfl⟩,aa,h⟩:=h;have key:l++argT fr fin xs=l++fr++Zg cmm (xs.map exT)++fin:=by simp only [argT,ZyQ,Tk]
  rw [key] at h;have aa:l.length+(fr.length+((Zg cmm (xs.map exT)).length+fin.length))<70368744177664:=by have:=aa;simp only [argT,ZyQ,Tb] at this;exact this
  refine ⟨Zb [],1,true,sM,Ta rfl,?_⟩;rcases hp with rfl | rfl
  all_goals
   conv=>whnf
   refine wk _ fr ⟨[fr],rfl,sM,sM,sM⟩ ?_;(conv=>whnf);refine ⟨l++fr,pl,xs,rfl,Zh pl xs,⟨rfl,rfl,rfl⟩,⟨co,hz,hn⟩,by rw [Tb];show _+(Zg cmm (xs.map exT)).length<_;omega,wN ?_⟩;refine wk (l++fr++Zg cmm (xs.map exT)) fin ⟨[fin],rfl,sM,sM,sM⟩ (wN ?_);exact h
 exact h.elim
noncomputable def Zzn:List PV->St->(St->Prop)->Prop:=fun args σ K=>args.length<=Tryz.f72.ntmps/\W (ZxH Zbv ZqH (Zb []) (VV [(1,3)]) (fun _=>false)) (Ye Tryz.f72) (Zvm Zbv Tryz.f72 σ.bx.length K) (Zcq 0 args) σ
theorem ZCM:PDef (GG w0 nG) 72 Zzn (fun _ _ _ _=>False) :=
 ZeV Zc mixed Tryz.func72 rfl kR kR fun args σ K h=>⟨_,σ.bx.length,CxG.of Zc Zh7 ⟨ZmM,trivial⟩ _ _ _,Tq _,h.1,h.2⟩
noncomputable def Zzo (n:Nat):Tbl:=[(170,ZxO),(72,Zeb),(181,spB Zs4 n),(128,spB Zs5 n),(215,Zh8),(214,ZbM),(171,JF)]
theorem Zzp {n:Nat} (ht:TO w0 nG (Zzo n)):PC w0 nG 181 (Zs4 n):=by
 refine Zb9 Zc mixed Tryz.func181 rfl kR kR ZCM ?_;intro args σ K h
 unfold Zs4 Zir at h
 split at h
 ·rename_i rest t p e rows
  obtain ⟨l,txt,rfl,⟨hp,rfl,rfl⟩,⟨pl,⟨op,tx,nn,xs,at'⟩,want,rfl,⟨co,hz,hn,yc,hw6⟩,rfl⟩,aa,h⟩:=h;obtain ⟨m1,m2,m3,m4,m5⟩:=ZwZ co;obtain ⟨k1,k2,k3,k5⟩:=Zw0 m1;have pi:szS wE xs+tx.length+1<=n:=by rw [wE,Jb] at hz;omega
  rw [Tm] at m5;refine ⟨ZxH Zbv (Zzo n) (Zb []) (VV []) (Xj []),1,true,CxG.of Zc ht ⟨ZqD,ZmN,Zld ZqQ _,Zld ZqR _,Zjy,Zjz,Zh6,trivial⟩ _ _ _,sM,Ta rfl,?_⟩;rcases hp with rfl | rfl
  all_goals
   conv=>whnf
   refine ⟨op,rfl,fun l1 w1 a1 e1 e2 e3=>?_⟩;subst e1;(conv=>whnf);refine ZDc (fun ai=>wN ?_) (fun ai=>wN ?_)
   ·have hW:exW want.toNat (.mk op tx nn xs at')=[40]++(exT (.mk op tx nn xs at')++[41]):=by rw [exW,ZsQ,Tj (by show ZO op<_;omega)]
    rw [hW] at h aa;have acn:l.length+1<70368744177664:=by simp only [Tb,Tc,Td] at aa;omega
    refine wk _ [40] ⟨[[40]],rfl,sM,sM,sM⟩ ?_;(conv=>whnf);refine ZDc (fun c1=>?_) (fun c1=>wN ?_)
    ·have c1:ZO op<5:=by omega
     have gl:xs.length=2:=by have:=k1 c1;omega
     obtain ⟨x0,x1,rfl⟩:∃x0 x1,xs=[x0,x1]:=by match xs,gl with | [a,b],_=>exact ⟨a,b,rfl⟩
     simp only [szS] at pi;have g0:=m5 x0 sM;have g1:=m5 x1 sM;have z0:wE x0<=n - 1:=oM;have z1:wE x1<=n - 1:=oM;obtain ⟨o0,t0,n0,y0,q0⟩:=x0;obtain ⟨o1,t1,n1,y1,q1⟩:=x1;have hx:exT (.mk op tx nn [(.mk o0 t0 n0 y0 q0),(.mk o1 t1 n1 y1 q1)] at')=exW (ZO op) (.mk o0 t0 n0 y0 q0)++(([32]++(w1++[32]))++exW (ZO op+1) (.mk o1 t1 n1 y1 q1)):=by rw [exT,exN,Tj c1,e2];rfl
     rw [hx] at h aa
     (try simp only [Tb,Tc,Td] at aa)
     conv=>whnf
     refine ⟨_,dM,rfl,wN ?_⟩;refine ⟨oM,wk _ (exW (ZO op) (.mk o0 t0 n0 y0 q0)) ⟨pl,(.mk o0 t0 n0 y0 q0),(ZO op:Int),rfl,⟨g0,oM,oM,oM,oM⟩,rfl⟩ ?_⟩;(conv=>whnf);refine wk _ ([32]++(w1++[32])) ⟨[[32],w1,[32]],rfl,sM,sM,sM⟩ ?_;(conv=>whnf);refine ⟨_,dM,rfl,wN ?_⟩;refine Or.inl ⟨InR.i64 oM oM,wN ?_⟩;refine ⟨oM,wk _ (exW (ZO op+1) (.mk o1 t1 n1 y1 q1)) ⟨pl,(.mk o1 t1 n1 y1 q1),((ZO op:Int)+1),rfl,⟨g1,oM,oM,oM,oM⟩,rfl⟩ ?_⟩;(conv=>whnf);refine ⟨Ta rfl,wN ?_⟩;refine ⟨_,dM,rfl,wN ?_⟩;refine wk _ [41] ⟨rfl,rfl⟩ ?_;(conv=>whnf);refine Or.inl ⟨InR.i64 oM oM,wN ?_⟩;rw [show l++([40]++(exW (ZO op) (.mk o0 t0 n0 y0 q0)++(([32]++(w1++[32]))++exW (ZO op+1) (.mk o1 t1 n1 y1 q1))++[41]))=(l++[40])++exW (ZO op) (.mk o0 t0 n0 y0 q0)++([32]++(w1++[32]))++exW (ZO op+1) (.mk o1 t1 n1 y1 q1)++[41] by first | rfl | simp only [Tk]] at h;exact h
    have c1:¬ZO op<5:=oM;refine ZDc (fun c2=>?_) (fun c2=>wN ?_)
    ·have c2:ZO op=5:=by omega
     have gl:xs.length=1:=by have:=k2 c2;omega
     obtain ⟨x0,rfl⟩:∃x0,xs=[x0]:=by match xs,gl with | [a],_=>exact ⟨a,rfl⟩
     simp only [szS] at pi;have g0:=m5 x0 sM;have z0:wE x0<=n - 1:=oM;obtain ⟨o0,t0,n0,y0,q0⟩:=x0;have hx:exT (.mk op tx nn [(.mk o0 t0 n0 y0 q0)] at')=w1++exW 5 (.mk o0 t0 n0 y0 q0):=by rw [exT,exN,Tg c1,Tj c2,e2];rfl
     rw [hx] at h aa
     (try simp only [Tb,Tc,Td] at aa)
     conv=>whnf
     refine wk _ w1 ⟨[w1],rfl,sM,sM,sM⟩ ?_;(conv=>whnf);refine ⟨_,dM,rfl,wN ?_⟩;refine ⟨oM,wk _ (exW 5 (.mk o0 t0 n0 y0 q0)) ⟨pl,(.mk o0 t0 n0 y0 q0),5,rfl,⟨g0,oM,oM,oM,oM⟩,rfl⟩ ?_⟩;(conv=>whnf);refine ⟨Ta rfl,wN ?_⟩;refine ⟨_,dM,rfl,wN ?_⟩;refine wk _ [41] ⟨rfl,rfl⟩ ?_;(conv=>whnf);refine Or.inl ⟨InR.i64 oM oM,wN ?_⟩;rw [show l++([40]++(w1++exW 5 (.mk o0 t0 n0 y0 q0)++[41]))=(l++[40])++w1++exW 5 (.mk o0 t0 n0 y0 q0)++[41] by first | rfl | simp only [Tk]] at h;exact h
    have c2:¬ZO op=5:=oM;refine ZDe (fun c3=>?_) (fun c3=>wN ?_)
    ·have c3:VL op≠[]:=by rw [e2];exact c3
     have hx:exT (.mk op tx nn xs at')=w1++argT [40] [41] xs:=by rw [exT,exN,Tg c1,Tg c2,Tj c3,e2,UN];rfl
     rw [hx] at h aa
     (try simp only [Tb,Tc,Td] at aa)
     conv=>whnf
     refine wk _ w1 ⟨[w1],rfl,sM,sM,sM⟩ ?_;(conv=>whnf);refine ⟨oM,wk _ (argT [40] [41] xs) ⟨[40],[41],pl,xs,rfl,⟨Tm.2 m5,oM,oM⟩,rfl⟩ ?_⟩;(conv=>whnf);refine ⟨Ta rfl,wN ?_⟩;refine ⟨_,dM,rfl,wN ?_⟩;refine wk _ [41] ⟨rfl,rfl⟩ ?_;(conv=>whnf);refine Or.inl ⟨InR.i64 oM oM,wN ?_⟩;rw [show l++([40]++(w1++argT [40] [41] xs++[41]))=(l++[40])++w1++argT [40] [41] xs++[41] by first | rfl | simp only [Tk]] at h;exact h
    have c3:¬VL op≠[]:=by rw [e2];exact fun g=>g c3
    refine ZDc (fun c4=>?_) (fun c4=>wN ?_)
    ·have c4:op=6:=by omega
     have hx:exT (.mk op tx nn xs at')=argT [91] [93] xs:=by rw [exT,exN,Tg c1,Tg c2,Tg c3,Tj c4,UN];rfl
     rw [hx] at h aa
     (try simp only [Tb,Tc,Td] at aa)
     conv=>whnf
     refine ⟨oM,wk _ (argT [91] [93] xs) ⟨[91],[93],pl,xs,rfl,⟨Tm.2 m5,oM,oM⟩,rfl⟩ ?_⟩;(conv=>whnf);refine ⟨Ta rfl,wN ?_⟩;refine ⟨_,dM,rfl,wN ?_⟩;refine wk _ [41] ⟨rfl,rfl⟩ ?_;(conv=>whnf);refine Or.inl ⟨InR.i64 oM oM,wN ?_⟩;rw [show l++([40]++(argT [91] [93] xs++[41]))=(l++[40])++argT [91] [93] xs++[41] by first | rfl | simp only [Tk]] at h;exact h
    have c4:¬op=6:=oM;refine ZDc (fun c5=>?_) (fun c5=>wN ?_)
    ·have c5:op=7:=by omega
     have hxl:(Yn pl xs).length=xs.length:=by rw [Zh,Tf]
     by_cases il:xs.length=0
     ·have hx:exT (.mk op tx nn xs at')=[36]++tx:=by rw [exT,exN,Tg c1,Tg c2,Tg c3,Tg c4,Tj c5,Zcf,Tj il,TU]
      rw [hx] at h aa
      (try simp only [Tb,Tc,Td] at aa)
      conv=>whnf
      refine wk _ ([36]++tx) ⟨[[36],tx],rfl,sM,sM,sM⟩ ?_;(conv=>whnf);refine ZDc (fun g=>?_) (fun g=>?_)
      case refine_1=>exact absurd (show ((Yn pl xs).length:Int)>0 from g) oM
      conv=>whnf
      refine ⟨Ta rfl,wN ?_⟩;refine ⟨_,dM,rfl,wN ?_⟩;refine wk _ [41] ⟨rfl,rfl⟩ ?_;(conv=>whnf);refine Or.inl ⟨InR.i64 oM oM,wN ?_⟩;rw [show l++([40]++([36]++tx++[41]))=(l++[40])++([36]++tx)++[41] by first | rfl | simp only [Tk]] at h;exact h
     have hx:exT (.mk op tx nn xs at')=([36]++tx)++argT [40] [41] xs:=by rw [exT,exN,Tg c1,Tg c2,Tg c3,Tg c4,Tj c5,Zcf,Tg il,UN,Tk];rfl
     rw [hx] at h aa
     (try simp only [Tb,Tc,Td] at aa)
     conv=>whnf
     refine wk _ ([36]++tx) ⟨[[36],tx],rfl,sM,sM,sM⟩ ?_;(conv=>whnf);refine ZDc (fun g=>?_) (fun g=>?_)
     case refine_2=>exact absurd (show ((Yn pl xs).length:Int)>0 by omega) g
     conv=>whnf
     refine ⟨oM,wk _ (argT [40] [41] xs) ⟨[40],[41],pl,xs,rfl,⟨Tm.2 m5,oM,oM⟩,rfl⟩ ?_⟩;(conv=>whnf);refine ⟨Ta rfl,wN ?_⟩;refine ⟨_,dM,rfl,wN ?_⟩;refine wk _ [41] ⟨rfl,rfl⟩ ?_;(conv=>whnf);refine Or.inl ⟨InR.i64 oM oM,wN ?_⟩;rw [show l++([40]++(([36]++tx)++argT [40] [41] xs++[41]))=(l++[40])++([36]++tx)++argT [40] [41] xs++[41] by first | rfl | simp only [Tk]] at h;exact h
    have c5:¬op=7:=oM;refine ZDc (fun c6=>wN ?_) (fun c6=>wN ?_)
    ·have c6':op=3:=by omega
     obtain ⟨i0,i1⟩:=m4;refine ZDc (fun gn=>wN ?_) (fun gn=>wN ?_)
     ·obtain ⟨j0,j1,j2⟩:=Zlg gn i0;obtain ⟨wn,wx⟩:∃wn,IntKind.u64.wrap nn=wn:=⟨_,rfl⟩
      rw [wx] at j0 j1 j2;refine Or.inr ?_;rw [wx];have hx:exT (.mk op tx nn xs at')=Zfb nn:=by rw [exT,exN,Tg c1,Tg c2,Tg c3,Tg c4,Tg c5,Tj c6']
      rw [hx] at h aa
      (try simp only [Tb,Tc,Td] at aa)
      conv=>whnf
      refine ⟨⟨rfl,j0,j1⟩,?_⟩;obtain ⟨T,hT⟩:∃T,Vm 16 wn.toNat=T:=⟨_,rfl⟩
      rw [hT] at j2 |-;rw [j2] at h aa
      (try simp only [Tb,Tc,Td] at aa)
      conv=>whnf
      refine wk _ ([48,120]++T) ⟨[[48,120],T],rfl,sM,sM,sM⟩ ?_;(conv=>whnf);refine ⟨Ta rfl,wN ?_⟩;refine ⟨_,dM,rfl,wN ?_⟩;refine wk _ [41] ⟨rfl,rfl⟩ ?_;(conv=>whnf);refine Or.inl ⟨InR.i64 oM oM,wN ?_⟩;rw [show l++([40]++(([48,120]++T)++[41]))=(l++[40])++([48,120]++T)++[41] by first | rfl | simp only [Tk]] at h;exact h
     refine ZDc (fun _=>?_) (fun g=>absurd c6 g);have hx:exT (.mk op tx nn xs at')=Zfb nn:=by rw [exT,exN,Tg c1,Tg c2,Tg c3,Tg c4,Tg c5,Tj c6']
     rw [hx] at h aa
     (try simp only [Tb,Tc,Td] at aa)
     conv=>whnf
     refine ⟨⟨rfl,oM,i1⟩,wN ?_⟩;refine wk _ (Zfb nn) ⟨[Zfb nn],rfl,sM,sM,sM⟩ ?_;(conv=>whnf);refine ⟨Ta rfl,wN ?_⟩;refine ⟨_,dM,rfl,wN ?_⟩;refine wk _ [41] ⟨rfl,rfl⟩ ?_;(conv=>whnf);refine Or.inl ⟨InR.i64 oM oM,wN ?_⟩;rw [show l++([40]++(Zfb nn++[41]))=(l++[40])++Zfb nn++[41] by first | rfl | simp only [Tk]] at h;exact h
    have c6':¬op=3:=oM;refine ZDc (fun g=>absurd g c6) (fun _=>wN ?_);refine ZDc (fun c7=>?_) (fun c7=>wN ?_)
    ·have c7':op=4:=by omega
     have hq:(Ja tx).isSome=true:=by unfold VY at m3;rw [Tg oM,Tj c7'] at m3;exact m3
     obtain ⟨q,hq⟩:=T7.1 hq;have hqT:Zwb tx=q:=by rw [Zwb,hq];rfl
     have hx:exT (.mk op tx nn xs at')=q:=by rw [exT,exN,Tg c1,Tg c2,Tg c3,Tg c4,Tg c5,Tg c6',Tj c7',hqT]
     rw [hx] at h aa
     (try simp only [Tb,Tc,Td] at aa)
     conv=>whnf
     refine ⟨oM,wN ?_⟩;refine ⟨fun g=>?_,fun q' li=>?_⟩
     case refine_1=>exact absurd (hq.symm.trans g) sM
     obtain rfl:q=q':=by rw [hq] at li;exact Option.some.inj li
     conv=>whnf
     refine wk _ q ⟨[q],rfl,sM,sM,sM⟩ ?_;(conv=>whnf);refine ⟨Ta rfl,wN ?_⟩;refine ⟨_,dM,rfl,wN ?_⟩;refine wk _ [41] ⟨rfl,rfl⟩ ?_;(conv=>whnf);refine Or.inl ⟨InR.i64 oM oM,wN ?_⟩;rw [show l++([40]++(q++[41]))=(l++[40])++q++[41] by first | rfl | simp only [Tk]] at h;exact h
    have c7':¬op=4:=oM;refine ZDc (fun c8=>?_) (fun c8=>wN ?_)
    ·have c8':op=5:=by omega
     have hx:exT (.mk op tx nn xs at')=[110,105,108]:=by rw [exT,exN,Tg c1,Tg c2,Tg c3,Tg c4,Tg c5,Tg c6',Tg c7',Tj c8']
     rw [hx] at h aa
     (try simp only [Tb,Tc,Td] at aa)
     conv=>whnf
     refine wk _ [110,105,108] ⟨[[110,105,108]],rfl,sM,sM,sM⟩ ?_;(conv=>whnf);refine ⟨Ta rfl,wN ?_⟩;refine ⟨_,dM,rfl,wN ?_⟩;refine wk _ [41] ⟨rfl,rfl⟩ ?_;(conv=>whnf);refine Or.inl ⟨InR.i64 oM oM,wN ?_⟩;rw [show l++([40]++([110,105,108]++[41]))=(l++[40])++[110,105,108]++[41] by first | rfl | simp only [Tk]] at h;exact h
    have c8':¬op=5:=oM;refine ZDc (fun c9=>?_) (fun c9=>?_)
    ·have c9':op=2:=by omega
     have hx:exT (.mk op tx nn xs at')=[95]:=by rw [exT,exN,Tg c1,Tg c2,Tg c3,Tg c4,Tg c5,Tg c6',Tg c7',Tg c8',Tj c9']
     rw [hx] at h aa
     (try simp only [Tb,Tc,Td] at aa)
     conv=>whnf
     refine wk _ [95] ⟨[[95]],rfl,sM,sM,sM⟩ ?_;(conv=>whnf);refine ⟨Ta rfl,wN ?_⟩;refine ⟨_,dM,rfl,wN ?_⟩;refine wk _ [41] ⟨rfl,rfl⟩ ?_;(conv=>whnf);refine Or.inl ⟨InR.i64 oM oM,wN ?_⟩;rw [show l++([40]++([95]++[41]))=(l++[40])++[95]++[41] by first | rfl | simp only [Tk]] at h;exact h
    have c9':¬op=2:=oM;have hx:exT (.mk op tx nn xs at')=tx:=by rw [exT,exN,Tg c1,Tg c2,Tg c3,Tg c4,Tg c5,Tg c6',Tg c7',Tg c8',Tg c9']
    rw [hx] at h aa
    (try simp only [Tb,Tc,Td] at aa)
    conv=>whnf
    refine wk _ tx ⟨[tx],rfl,sM,sM,sM⟩ ?_;(conv=>whnf);refine ⟨Ta rfl,wN ?_⟩;refine ⟨_,dM,rfl,wN ?_⟩;refine wk _ [41] ⟨rfl,rfl⟩ ?_;(conv=>whnf);refine Or.inl ⟨InR.i64 oM oM,wN ?_⟩;rw [show l++([40]++(tx++[41]))=(l++[40])++tx++[41] by first | rfl | simp only [Tk]] at h;exact h
   have hW:exW want.toNat (.mk op tx nn xs at')=exT (.mk op tx nn xs at'):=by rw [exW,ZsQ,Tg (by show ¬ZO op<_;omega)]
   rw [hW] at h aa;refine ZDc (fun c1=>?_) (fun c1=>wN ?_)
   ·have c1:ZO op<5:=by omega
    have gl:xs.length=2:=by have:=k1 c1;omega
    obtain ⟨x0,x1,rfl⟩:∃x0 x1,xs=[x0,x1]:=by match xs,gl with | [a,b],_=>exact ⟨a,b,rfl⟩
    simp only [szS] at pi;have g0:=m5 x0 sM;have g1:=m5 x1 sM;have z0:wE x0<=n - 1:=oM;have z1:wE x1<=n - 1:=oM;obtain ⟨o0,t0,n0,y0,q0⟩:=x0;obtain ⟨o1,t1,n1,y1,q1⟩:=x1;have hx:exT (.mk op tx nn [(.mk o0 t0 n0 y0 q0),(.mk o1 t1 n1 y1 q1)] at')=exW (ZO op) (.mk o0 t0 n0 y0 q0)++(([32]++(w1++[32]))++exW (ZO op+1) (.mk o1 t1 n1 y1 q1)):=by rw [exT,exN,Tj c1,e2];rfl
    rw [hx] at h aa
    (try simp only [Tb,Tc,Td] at aa)
    conv=>whnf
    refine ⟨_,dM,rfl,wN ?_⟩;refine ⟨oM,wk _ (exW (ZO op) (.mk o0 t0 n0 y0 q0)) ⟨pl,(.mk o0 t0 n0 y0 q0),(ZO op:Int),rfl,⟨g0,oM,oM,oM,oM⟩,rfl⟩ ?_⟩;(conv=>whnf);refine wk _ ([32]++(w1++[32])) ⟨[[32],w1,[32]],rfl,sM,sM,sM⟩ ?_;(conv=>whnf);refine ⟨_,dM,rfl,wN ?_⟩;refine Or.inl ⟨InR.i64 oM oM,wN ?_⟩;refine ⟨oM,wk _ (exW (ZO op+1) (.mk o1 t1 n1 y1 q1)) ⟨pl,(.mk o1 t1 n1 y1 q1),((ZO op:Int)+1),rfl,⟨g1,oM,oM,oM,oM⟩,rfl⟩ ?_⟩;rw [show l++(exW (ZO op) (.mk o0 t0 n0 y0 q0)++(([32]++(w1++[32]))++exW (ZO op+1) (.mk o1 t1 n1 y1 q1)))=l++exW (ZO op) (.mk o0 t0 n0 y0 q0)++([32]++(w1++[32]))++exW (ZO op+1) (.mk o1 t1 n1 y1 q1) by first | rfl | simp only [Tk]] at h;exact m92
   have c1:¬ZO op<5:=oM;refine ZDc (fun c2=>?_) (fun c2=>wN ?_)
   ·have c2:ZO op=5:=by omega
    have gl:xs.length=1:=by have:=k2 c2;omega
    obtain ⟨x0,rfl⟩:∃x0,xs=[x0]:=by match xs,gl with | [a],_=>exact ⟨a,rfl⟩
    simp only [szS] at pi;have g0:=m5 x0 sM;have z0:wE x0<=n - 1:=oM;obtain ⟨o0,t0,n0,y0,q0⟩:=x0;have hx:exT (.mk op tx nn [(.mk o0 t0 n0 y0 q0)] at')=w1++exW 5 (.mk o0 t0 n0 y0 q0):=by rw [exT,exN,Tg c1,Tj c2,e2];rfl
    rw [hx] at h aa
    (try simp only [Tb,Tc,Td] at aa)
    conv=>whnf
    refine wk _ w1 ⟨[w1],rfl,sM,sM,sM⟩ ?_;(conv=>whnf);refine ⟨_,dM,rfl,wN ?_⟩;refine ⟨oM,wk _ (exW 5 (.mk o0 t0 n0 y0 q0)) ⟨pl,(.mk o0 t0 n0 y0 q0),5,rfl,⟨g0,oM,oM,oM,oM⟩,rfl⟩ ?_⟩;rw [show l++(w1++exW 5 (.mk o0 t0 n0 y0 q0))=l++w1++exW 5 (.mk o0 t0 n0 y0 q0) by first | rfl | simp only [Tk]] at h;exact m92
   have c2:¬ZO op=5:=oM;refine ZDe (fun c3=>?_) (fun c3=>wN ?_)
   ·have c3:VL op≠[]:=by rw [e2];exact c3
    have hx:exT (.mk op tx nn xs at')=w1++argT [40] [41] xs:=by rw [exT,exN,Tg c1,Tg c2,Tj c3,e2,UN];rfl
    rw [hx] at h aa
    (try simp only [Tb,Tc,Td] at aa)
    conv=>whnf
    refine wk _ w1 ⟨[w1],rfl,sM,sM,sM⟩ ?_;(conv=>whnf);refine ⟨oM,wk _ (argT [40] [41] xs) ⟨[40],[41],pl,xs,rfl,⟨Tm.2 m5,oM,oM⟩,rfl⟩ ?_⟩;rw [show l++(w1++argT [40] [41] xs)=l++w1++argT [40] [41] xs by first | rfl | simp only [Tk]] at h;exact m92
   have c3:¬VL op≠[]:=by rw [e2];exact fun g=>g c3
   refine ZDc (fun c4=>?_) (fun c4=>wN ?_)
   ·have c4:op=6:=by omega
    have hx:exT (.mk op tx nn xs at')=argT [91] [93] xs:=by rw [exT,exN,Tg c1,Tg c2,Tg c3,Tj c4,UN];rfl
    rw [hx] at h aa
    (try simp only [Tb,Tc,Td] at aa)
    conv=>whnf
    refine ⟨oM,wk _ (argT [91] [93] xs) ⟨[91],[93],pl,xs,rfl,⟨Tm.2 m5,oM,oM⟩,rfl⟩ ?_⟩;rw [show l++(argT [91] [93] xs)=l++argT [91] [93] xs by first | rfl | simp only [Tk]] at h;exact m92
   have c4:¬op=6:=oM;refine ZDc (fun c5=>?_) (fun c5=>wN ?_)
   ·have c5:op=7:=by omega
    have hxl:(Yn pl xs).length=xs.length:=by rw [Zh,Tf]
    by_cases il:xs.length=0
    ·have hx:exT (.mk op tx nn xs at')=[36]++tx:=by rw [exT,exN,Tg c1,Tg c2,Tg c3,Tg c4,Tj c5,Zcf,Tj il,TU]
     rw [hx] at h aa
     (try simp only [Tb,Tc,Td] at aa)
     conv=>whnf
     refine wk _ ([36]++tx) ⟨[[36],tx],rfl,sM,sM,sM⟩ ?_;(conv=>whnf);refine ZDc (fun g=>?_) (fun g=>?_)
     case refine_1=>exact absurd (show ((Yn pl xs).length:Int)>0 from g) oM
     rw [show l++([36]++tx)=l++([36]++tx) by first | rfl | simp only [Tk]] at h;exact m92
    have hx:exT (.mk op tx nn xs at')=([36]++tx)++argT [40] [41] xs:=by rw [exT,exN,Tg c1,Tg c2,Tg c3,Tg c4,Tj c5,Zcf,Tg il,UN,Tk];rfl
    rw [hx] at h aa
    (try simp only [Tb,Tc,Td] at aa)
    conv=>whnf
    refine wk _ ([36]++tx) ⟨[[36],tx],rfl,sM,sM,sM⟩ ?_;(conv=>whnf);refine ZDc (fun g=>?_) (fun g=>?_)
    case refine_2=>exact absurd (show ((Yn pl xs).length:Int)>0 by omega) g
    conv=>whnf
    refine ⟨oM,wk _ (argT [40] [41] xs) ⟨[40],[41],pl,xs,rfl,⟨Tm.2 m5,oM,oM⟩,rfl⟩ ?_⟩;rw [show l++(([36]++tx)++argT [40] [41] xs)=l++([36]++tx)++argT [40] [41] xs by first | rfl | simp only [Tk]] at h;exact m92
   have c5:¬op=7:=oM;refine ZDc (fun c6=>wN ?_) (fun c6=>wN ?_)
   ·have c6':op=3:=by omega
    obtain ⟨i0,i1⟩:=m4;refine ZDc (fun gn=>wN ?_) (fun gn=>wN ?_)
    ·obtain ⟨j0,j1,j2⟩:=Zlg gn i0;obtain ⟨wn,wx⟩:∃wn,IntKind.u64.wrap nn=wn:=⟨_,rfl⟩
     rw [wx] at j0 j1 j2;refine Or.inr ?_;rw [wx];have hx:exT (.mk op tx nn xs at')=Zfb nn:=by rw [exT,exN,Tg c1,Tg c2,Tg c3,Tg c4,Tg c5,Tj c6']
     rw [hx] at h aa
     (try simp only [Tb,Tc,Td] at aa)
     conv=>whnf
     refine ⟨⟨rfl,j0,j1⟩,?_⟩;obtain ⟨T,hT⟩:∃T,Vm 16 wn.toNat=T:=⟨_,rfl⟩
     rw [hT] at j2 |-;rw [j2] at h aa
     (try simp only [Tb,Tc,Td] at aa)
     conv=>whnf
     refine wk _ ([48,120]++T) ⟨[[48,120],T],rfl,sM,sM,sM⟩ ?_;rw [show l++(([48,120]++T))=l++([48,120]++T) by first | rfl | simp only [Tk]] at h;exact m92
    refine ZDc (fun _=>?_) (fun g=>absurd c6 g);have hx:exT (.mk op tx nn xs at')=Zfb nn:=by rw [exT,exN,Tg c1,Tg c2,Tg c3,Tg c4,Tg c5,Tj c6']
    rw [hx] at h aa
    (try simp only [Tb,Tc,Td] at aa)
    conv=>whnf
    refine ⟨⟨rfl,oM,i1⟩,wN ?_⟩;refine wk _ (Zfb nn) ⟨[Zfb nn],rfl,sM,sM,sM⟩ ?_;rw [show l++(Zfb nn)=l++Zfb nn by first | rfl | simp only [Tk]] at h;exact m92
   have c6':¬op=3:=oM;refine ZDc (fun g=>absurd g c6) (fun _=>wN ?_);refine ZDc (fun c7=>?_) (fun c7=>wN ?_)
   ·have c7':op=4:=by omega
    have hq:(Ja tx).isSome=true:=by unfold VY at m3;rw [Tg oM,Tj c7'] at m3;exact m3
    obtain ⟨q,hq⟩:=T7.1 hq;have hqT:Zwb tx=q:=by rw [Zwb,hq];rfl
    have hx:exT (.mk op tx nn xs at')=q:=by rw [exT,exN,Tg c1,Tg c2,Tg c3,Tg c4,Tg c5,Tg c6',Tj c7',hqT]
    rw [hx] at h aa
    (try simp only [Tb,Tc,Td] at aa)
    conv=>whnf
    refine ⟨oM,wN ?_⟩;refine ⟨fun g=>?_,fun q' li=>?_⟩
    case refine_1=>exact absurd (hq.symm.trans g) sM
    obtain rfl:q=q':=by rw [hq] at li;exact Option.some.inj li
    conv=>whnf
    refine wk _ q ⟨[q],rfl,sM,sM,sM⟩ ?_;rw [show l++(q)=l++q by first | rfl | simp only [Tk]] at h;exact m92
   have c7':¬op=4:=oM;refine ZDc (fun c8=>?_) (fun c8=>wN ?_)
   ·have c8':op=5:=by omega
    have hx:exT (.mk op tx nn xs at')=[110,105,108]:=by rw [exT,exN,Tg c1,Tg c2,Tg c3,Tg c4,Tg c5,Tg c6',Tg c7',Tj c8']
    rw [hx] at h aa
    (try simp only [Tb,Tc,Td] at aa)
    conv=>whnf
    refine wk _ [110,105,108] ⟨[[110,105,108]],rfl,sM,sM,sM⟩ ?_;rw [show l++([110,105,108])=l++[110,105,108] by first | rfl | simp only [Tk]] at h;exact m92
   have c8':¬op=5:=oM;refine ZDc (fun c9=>?_) (fun c9=>?_)
   ·have c9':op=2:=by omega
    have hx:exT (.mk op tx nn xs at')=[95]:=by rw [exT,exN,Tg c1,Tg c2,Tg c3,Tg c4,Tg c5,Tg c6',Tg c7',Tg c8',Tj c9']
    rw [hx] at h aa
    (try simp only [Tb,Tc,Td] at aa)
    conv=>whnf
    refine wk _ [95] ⟨[[95]],rfl,sM,sM,sM⟩ ?_;rw [show l++([95])=l++[95] by first | rfl | simp only [Tk]] at h;exact m92
   have c9':¬op=2:=oM;have hx:exT (.mk op tx nn xs at')=tx:=by rw [exT,exN,Tg c1,Tg c2,Tg c3,Tg c4,Tg c5,Tg c6',Tg c7',Tg c8',Tg c9']
   rw [hx] at h aa
   (try simp only [Tb,Tc,Td] at aa)
   conv=>whnf
   refine wk _ tx ⟨[tx],rfl,sM,sM,sM⟩ ?_;rw [show l++(tx)=l++tx by first | rfl | simp only [Tk]] at h;exact m92
 exact h.elim
end Go.PM.Lex
end

section
namespace Go.PM.Lex
open Go.Proofs Go.Shelf Go.RowKit
variable {w0:World} {nG:Nat}
theorem ZmS (w:World) (g n:Nat) {cs:Array Value} {ty:TypeId} {fz:Nat×Nat} (h:w.heap[g]?=some (.cells cs ty fz)) (h1:fz.1<=fz.2) (h2:∀o,n<=o->fz.1<=o->fz.2<=o) :
  ∃fz',(w.drew.freeze ⟨g,0,none⟩ n).heap[g]?=some (.cells cs ty fz')/\fz'.1<=fz'.2/\∀o,n<=o->fz'.1<=o->fz'.2<=o:=by
 have h':w.drew.heap[g]?=some (.cells cs ty fz):=h;obtain ⟨lo,hi⟩:=fz;unfold World.freeze
 split
 ·exact ⟨_,h',h1,h2⟩
 simp only [Array.getElem?_modify,if_true,h',Sk];refine ⟨_,rfl,?_,?_⟩
 ·split
  ·exact T6 _
  simp only at h1 |-;omega
 intro o ho aj
 split
 ·simp only;omega
 rename_i ao
 have ao:lo≠hi:=by simpa using ao
 simp only at h1 |-;have k:=h2 (max lo n) oM (by simp only;omega);simp only at k;omega
theorem _root_.Go.PM.Owned.grow {G:GE} {e:Env} {w w':World} {t el:Nat} {rows:List (List D)} {v:Value} (h:Owned G e w t el rows v) (g:Grows w w'):Owned G e w' t el rows v:=by
 rcases h with h | ⟨sz,a1,a2,a3,b,off,cap,cs,ty,fz,a4,a5,a6,a7,a8,a9,a10⟩
 ·exact .inl h
 exact .inr ⟨sz,a1,a2,a3,b,off,cap,cs,ty,fz,a4,a5,a6,(g.old _ (Tn.1 a7).1).trans a7,a8,a9,a10⟩
theorem _root_.Go.PM.Owned.refreeze {G:GE} {e:Env} {w w':World} {t:Nat} {rows:List (List D)} {v:Value} {g n:Nat} {cs:Array Value} {ty:TypeId} {fz fz':Nat×Nat} (h:Owned G e w t 5 rows v) (hM:e.M t=some (g,n))
  (h':w'.heap[g]?=some (.cells cs ty fz')) (h0:w.heap[g]?=some (.cells cs ty fz)) (h1:fz'.1<=fz'.2) (h2:∀o,n<=o->fz'.1<=o->fz'.2<=o):Owned G e w' t 5 rows v:=by
 rcases h with ⟨_,_,h⟩ | ⟨sz,a1,a2,a3,b,off,cap,cs2,ty2,fz2,a4,a5,a6,a7,a8,a9,a10⟩
 ·rw [hM] at h;cases h
 rw [hM] at a10;simp only [Option.some.injEq,Prod.mk.injEq] at a10;obtain ⟨rfl,rfl⟩:=a10;rw [h0] at a7
 cases a7
 exact .inr ⟨sz,a1,a2,a3,g,off,cap,cs,ty,fz',a4,a5,a6,h',a8,⟨h1,h2⟩,hM⟩
theorem Zw1 {G:GE} {e:Env} {w w':World} {t:TypeId} {p:PV} {rows:List (List D)} (hp:p=.d .nilp\/p=.ptr 0 0) (hS:SRel G e ⟨[.cells t [p,.sl 0 5 rows]],[0],1⟩ w)
  (hsz:w.heap.size<=w'.heap.size) (oy:w'.os=w.os) (htp:w'.tape=w.tape) (i5:w'.output=w.output)
  (be:∀b off u,w.cell? ⟨b,off,none⟩=some u->w'.cell? ⟨b,off,none⟩=some u)
  (f6:∀b,b<w.heap.size->(∀q,e.M 0=some q->q.1≠b)->w'.heap[b]?=w.heap[b]?)
  (lu:∀v,Owned G e w 0 5 rows v->Owned G e w' 0 5 rows v) (abe:∀q,e.M 0=some q->∃cs ty fz,w'.heap[q.1]?=some (.cells cs ty fz)) :
  SRel G e ⟨[.cells t [p,.sl 0 5 rows]],[0],1⟩ w'/\Later e ⟨[.cells t [p,.sl 0 5 rows]],[0],1⟩ w e ⟨[.cells t [p,.sl 0 5 rows]],[0],1⟩ w':=by
 have hL:Later e ⟨[.cells t [p,.sl 0 5 rows]],[0],1⟩ w e ⟨[.cells t [p,.sl 0 5 rows]],[0],1⟩ w':={
  len:=Tq _
  beta:=fun _ _=>rfl
  X:=rfl
  pres:=fun b off u hu ho=>⟨ho,be b off u hu⟩
  blocks:=fun b hb h1 h2=>f6 b hb fun q hq=>h2 0 sM q hq
  size:=hsz
  os:=oy
  tape:=htp
  output:=i5
  fresh:=fun i h1 h2=>by simp at h1 h2;omega
  ftok:=fun x hx q hq=>.inr ⟨x,hx,q,hq,rfl⟩ }
 have ai:=hS.lt (i:=0) sM;have nr:w'.heap[e.β 0]?=w.heap[e.β 0]?:=f6 _ ai fun q hq=>fun h=>(hS.own 0 sM q hq).2.1 0 sM h.symm
 refine ⟨?_,hL⟩;exact {
  inj:=hS.inj
  box:=fun i x hx=>by
   match i,hx with
   | 0,hx =>
    cases hx
    obtain ⟨cv,h1,h2,h3⟩:=hS.box 0 _ rfl;refine ⟨cv,nr.trans h1,h2,fun j y u hy hu=>?_⟩
    match j,hy with
    | 0,hy =>
     exact m85
    | 1,hy =>
     cases hy
     obtain ⟨q1,q2⟩:=h3 1 (.sl 0 5 rows) u rfl hu;refine ⟨?_,q2⟩
     cases q1 with
     | sl _ _ _ _ hn hd ht=>exact .sl _ _ _ _ hn (hd.later hL) (fun h=>lu _ (ht h))
    | j+2,hy=>simp at hy
   | i+1,hx=>simp at hx
  low:=hS.low
  tkn:=hS.tkn
  own:=fun x hx q hq=>by
   obtain ⟨a,b,_⟩:=hS.own x hx q hq;obtain rfl:x=0:=by simpa using hx
   exact ⟨a,b,abe q hq⟩
  dis:=hS.dis
  xlt:=fun b off hx=>TD (hS.xlt b off hx) hsz
  xown:=hS.xown
  glob:=fun b hb=>by
   rw [f6 b (TD hb hS.big) fun q hq=>fun h=>by have:=(hS.own 0 sM q hq).1;omega];exact hS.glob b hb
  big:=T1 hS.big hsz }
noncomputable def Zam:Zo:=fun args σ K=>match args,σ with
 | [.ptr 0 0],⟨[.cells t [p,.sl 0 e rows]],[0],1⟩=>∃l:Bs,(rows=Zj l/\t=115/\e=5/\(p=.d .nilp\/p=.ptr 0 0)/\l.length<70368744177664)/\K (.ret (.d (.str l))) ⟨[.cells t [p,.sl 0 e rows]],[0],1⟩
 | _,_=>False
theorem Zfc:PC w0 nG 40 Zam:=VF (Zk Tryz.func40 kR rfl) fun args σ K h e w vs hS ha=>by
 unfold Zam at h
 split at h
 ·rename_i t p el rows
  obtain ⟨l,⟨rfl,rfl,rfl,hp,dc⟩,hK⟩:=h;obtain ⟨u,rfl,hu⟩:=Zhx ha;obtain ⟨cv,cy,cu,jc⟩:=hS.box 0 _ rfl;have dj:cv.size=2:=cu;obtain ⟨v0,v1,rfl⟩:∃v0 v1,cv=#[v0,v1]:=by
   obtain ⟨lst⟩:=cv
   match lst,dj with
   | [a,b],_=>exact ⟨a,b,rfl⟩
  have bi:=(jc 1 (.sl 0 5 (Zj l)) v1 rfl rfl).1
  cases hu with
  | ptr b off hb =>
  refine ⟨_,_,.string ⟨l.toArray⟩,hK,?_⟩;have fin:∀w',w.heap.size<=w'.heap.size->w'.os=w.os->w'.tape=w.tape->w'.output=w.output ->
    (∀b off u,w.cell? ⟨b,off,none⟩=some u->w'.cell? ⟨b,off,none⟩=some u) ->
    (∀b,b<w.heap.size->(∀q,e.M 0=some q->q.1≠b)->w'.heap[b]?=w.heap[b]?)->(∀v,Owned (GG w0 nG) e w 0 5 (Zj l) v->Owned (GG w0 nG) e w' 0 5 (Zj l) v)->(∀q,e.M 0=some q->∃cs ty fz,w'.heap[q.1]?=some (.cells cs ty fz)) ->
    VRel (GG w0 nG) e ⟨[.cells 115 [p,.sl 0 5 (Zj l)]],[0],1⟩ w' (.d (.str l)) (.string ⟨l.toArray⟩)/\SRel (GG w0 nG) e ⟨[.cells 115 [p,.sl 0 5 (Zj l)]],[0],1⟩ w'/\Later e ⟨[.cells 115 [p,.sl 0 5 (Zj l)]],[0],1⟩ w e ⟨[.cells 115 [p,.sl 0 5 (Zj l)]],[0],1⟩ w':=fun w' h1 h2 h3 h4 h5 h6 h7 h8 =>
   ⟨.mkstr,Zw1 hp hS h1 h2 h3 h4 h5 h6 h7 h8⟩
  have grown:∀w',Grows w w'->_:=fun w' g=>fin w' g.size g.os g.tape g.output (fun b off u hu=>(g.cell (Vu hu)).trans hu) (fun b hb _=>g.old b hb) (fun v hv=>hv.grow g) (fun q hq=>by obtain ⟨_,_,cs,ty,fz,hh⟩:=hS.own 0 sM q hq;exact ⟨cs,ty,fz,(g.old _ (Tn.1 hh).1).trans hh⟩)
  cases bi with
  | sl _ _ _ _ hn hd ht =>
  rcases ht sM with ⟨rfl,bh,hM⟩ | ⟨sz,g1,g2,g3,g,off,cap,cs,ty,fz,rfl,g4,g5,g6,⟨g7,rfl,rfl,g8⟩,g9,hM⟩
  ·have hl:l=[]:=by simpa [Zj] using bh
   subst hl;refine (ZsU Tryz.lays169 Tryz.Builder_Extra_169 w.heap.size (e.β 0) v0 w cy).mono fun en w' ⟨h1,h2⟩=>?_
   exact ⟨h1,grown w' (ZDi h2)⟩
  have ib:sz=1:=by
   have:(Tryz.prog.info? 5).map (·.size)=some sz:=g1
   rw [Zyq] at this;cases this;rfl
  subst ib;rw [Y9] at g5 cy g9 hM hd
  by_cases hl:l=[]
  ·subst hl;refine (ZqE Tryz.lays169 Tryz.Builder_Extra_169 w.heap.size (e.β 0) g cap v0 w oM cy).mono fun en w' ⟨h1,h2⟩=>?_
   exact ⟨h1,grown w' (ZDi h2)⟩
  have be:∀j x,l[j]?=some x->w.cell? ⟨g,j,none⟩=some (.int .u8 x.toNat):=by
   exact m31
  obtain ⟨fz',pa,hfa,hfb⟩:=ZmS w g l.length g6 g9.1 (fun o ho=>g9.2 o oM);refine (ZmL Tryz.lays169 Tryz.Builder_Extra_169 (e.β 0) g cap v0 cs fz l w hl cy g6 oM oM oM be).mono fun en w' ⟨h1,h2⟩=>?_
  rw [h2];refine ⟨h1,fin _ ?_ ?_ ?_ ?_ ?_ ?_ ?_ ?_⟩
  ·unfold World.freeze;split <;> first | exact Tq _ | (simp only [Array.size_modify];exact Tq _)
  ·exact m141
  ·exact m141
  ·exact m141
  ·exact m106
  ·intro b hb hq
   exact VH w g l.length b fun h=>hq _ hM h.symm
  ·intro v hv
   exact hv.refreeze hM pa g6 hfa (by simpa [Y9] using hfb)
  intro q hq
  rw [hM] at hq;cases hq;exact ⟨_,_,_,pa⟩
 exact h.elim
end Go.PM.Lex
end
