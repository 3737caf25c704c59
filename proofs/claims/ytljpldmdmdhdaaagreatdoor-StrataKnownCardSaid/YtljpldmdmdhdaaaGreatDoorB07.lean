/- A part of the proof: plain logic, contracts and laws over the given program. -/
import Derived.Test.YtljpldmdmdhdaaaGreatDoorMore
import Derived.Lib.AppendIntMem
import Derived.WalkKit
import Derived.Test.YtljpldmdmdhdaaaGreatDoorB06
set_option linter.unusedVariables false
set_option linter.unusedSimpArgs false
set_option linter.all false
set_option maxRecDepth 100000
set_option maxHeartbeats 16000000
noncomputable section
section
namespace Go.PM.Lex
open Go.Proofs
variable {w0:World} {nG:Nat}
def ZtZ (s:Bs):Bool:=Zl (pk s).1 && decide (Vk s=s.length)
def Zhb:Zh:=fun args σ K=>match args,σ with
 | [.d (.str s)],⟨[],[],0⟩=>s.length<4294967281/\K (.ret (.d (.bool (ZtZ s)))) ⟨[],[],0⟩
 | _,_=>False
def ZEs:OKw w0 nG [(212,ZbL),(213,UG),(214,Zix)] 160 Zhb:=by
 refine pwo Tryz.func160 fun args σ K h=>?_
 unfold Zhb at h
 split at h
 ·rename_i s
  obtain ⟨hs,h⟩:=h;refine pwv [] 0 false ?_;have vj:=Wn (s.drop (Int.toNat 0));have hd:s.drop (Int.toNat 0)=s:=Sq;refine ⟨⟨oM,oM⟩,wN ?_⟩;refine ⟨⟨vj.1,oM⟩,wN ?_⟩;refine ZGt (fun h1=>wN ?_) (fun h1=>wN ?_)
  ·have oy:Zl (pk s).1=true:=by rw [<- hd];exact h1
   refine ⟨⟨oM,oM,hs⟩,wN ?_⟩;refine ZbN h ?_;rw [ZtZ,oy,Sf,decide_eq_decide,hd];omega
  have oy:Zl (pk s).1=false:=by rw [<- hd];exact h1
  rw [ZtZ,oy] at h;exact h
 exact h.elim
def Zar (s:Bs):Bool:=ZtZ s && (!decide (s=[95]) && !Za8 s)
def ZT (op:Nat):Nat:=if op=16 then 0 else if op=17 then 0 else if op=15 then 1 else if op=18 then 2 else if op=19 then 2 else if op=10 then 3 else if op=11 then 3 else if op=12 then 4 else if op=13 then 4 else if op=14 then 4
 else if op=8 then 5 else if op=9 then 5 else if op=20 then 6 else if op=21 then 6 else if op=22 then 6 else if op=23 then 6 else if op=24 then 6 else if op=25 then 6 else if op=6\/op=7 then 6 else if op=1\/op=2\/op=3\/op=4\/op=5 then 6 else 0
def Vv (op:Nat):Bs:=if op=16 then [98,111,114] else if op=17 then [98,120,111,114] else if op=15 then [98,97,110,100] else if op=18 then [115,104,108] else if op=19 then [115,104,114] else if op=10 then [43] else if op=11 then [45] else if op=12 then [42] else if op=13 then [47] else if op=14 then [37]
 else if op=8 then [45] else if op=9 then [126] else if op=20 then [99,97,116] else if op=21 then [115,116,114,108,101,110] else if op=22 then [115,117,98,115,116,114] else if op=23 then [99,111,100,101] else if op=24 then [115,116,114] else if op=25 then [110,117,109] else []
def VL (op:Nat):Int:=if op=16 then 2 else if op=17 then 2 else if op=15 then 2 else if op=18 then 2 else if op=19 then 2 else if op=10 then 2 else if op=11 then 2 else if op=12 then 2 else if op=13 then 2 else if op=14 then 2
 else if op=8 then 1 else if op=9 then 1 else if op=20 then 2 else if op=21 then 1 else if op=22 then 3 else if op=23 then 1 else if op=24 then 1 else if op=25 then 1 else if op=6\/op=7 then -1 else if op=1\/op=2\/op=3\/op=4\/op=5 then 0 else -2
def VM (op:Nat) (text:Bs):Bool:=if op=1\/op=7 then Zar text else if op=4 then (Jf text).isSome else decide (text=[])
mutual
def Yf:Ex->Bool
 | .mk op text n args _=>decide (-2<VL op) && ((decide (VL op<0) || decide ((args.length:Int)=VL op)) && ((decide (n=0) || decide (op=3)) && (VM op text && ZqM args)))
def ZqM:List Ex->Bool
 | []=>true
 | e::l=>Yf e && ZqM l
end
def Zw (l:List Ex):ZqM l=l.all Yf:=by induction l with | nil=>rfl | cons x l ih=>simp [ZqM,ih]
def YS (op:Nat) (rel:Bs) (args body:Nat):Bool :=
 if op=1\/op=2 then Zar rel && !decide (0<body)
 else if 3<=op/\op<=8 then decide (rel=[]) && (decide (args=2) && !decide (0<body))
 else if op=9 then decide (rel=[]) && (decide (args=1) && decide (0<body))
 else if 9<op/\op<=12 then decide (rel=[]) && (decide (args=2) && decide (0<body)) else false
mutual
def YH:Li->Bool
 | .mk op rel args body _=>YS op rel args.length body.length && (ZqM args && Zca body)
def Zca:List Li->Bool
 | []=>true
 | e::l=>YH e && Zca l
end
def Xe (l:List Li):Zca l=l.all YH:=by induction l with | nil=>rfl | cons x l ih=>simp [Zca,ih]
def XD (r:Ru):Bool:=Zar r.head && (r.args.all Yf && r.body.all YH)
def Y7 (f:Fi):Bool:=Zar f.name && Zar f.typ
def ZEt (c:Ca):Bool:=Zar c.name && c.fields.all Y7
def ZF1 (t:Ty):Bool:=if t.kind=1 then Zar t.base && (decide (t.fields.length=0) && decide (t.cases.length=0)) else if t.kind=2 then decide (t.base=[]) && decide (t.cases.length=0)
 else if t.kind=3 then decide (t.base=[]) && (decide (t.fields.length=0) && !decide (t.cases.length=0)) else false
def ZxV (t:Ty):Bool:=ZF1 t && (Zar t.name && (t.fields.all Y7 && t.cases.all ZEt))
def XS (d:Re):Bool:=Zar d.name && d.fields.all Y7
def ZBw (i:Ini):Bool:=Zar i.name && (Zar i.comp && i.types.all Zar)
def ZBx (o:Ov):Bool:=Zar o.rel
mutual
def ZkJ:Un->Bool
 | .mk tys rels rules comps inits overs=>tys.all ZxV && (rels.all XS && (rules.all XD && (Zms comps && (inits.all ZBw && overs.all ZBx))))
def Zt0:Co->Bool
 | .mk nm ps base tys u _=>Zar nm && (ps.all Zar && (tys.all Zar && (((decide (base=[]) && decide (tys.length=0)) || Zar base) && ZkJ u)))
def Zms:List Co->Bool
 | []=>true
 | c::l=>Zt0 c && Zms l
end
def Zas (l:List Co):Zms l=l.all Zt0:=by induction l with | nil=>rfl | cons x l ih=>simp [Zms,ih]
def ZjO (d:Nat):UInt8:=if d<10 then UInt8.ofNat (48+d) else UInt8.ofNat (87+d)
def JM (base:Nat):Nat->Nat->Bs
 | 0,_=>[]
 | f+1,n=>if n<base then [ZjO n] else JM base f (n / base)++[ZjO (n % base)]
def W4 (base n:Nat):Bs:=JM base (n+1) n
def ZfR (n:Int):Bs:=if n<0 then [48,120]++W4 16 (n+18446744073709551616).toNat else W4 10 n.toNat
def ZxW (s:Bs):Bs:=(Jf s).getD []
def Zj (sep:Bs):List Bs->Bs
 | []=>[]
 | [x]=>x
 | x::l=>x++(sep++Zj sep l)
def cmm:Bs:=[44,32]
def opE:Ex->Nat | .mk op _ _ _ _=>op
def Zt1 (want:Nat) (p:Nat×Bs):Bs:=if p.1<want then [40]++(p.2++[41]) else p.2
def exA (w1 w2:Nat) (sep:Bs):List (Nat×Bs)->Bs
 | []=>[]
 | [a]=>Zt1 w1 a
 | a::b::_=>Zt1 w1 a++(sep++Zt1 w2 b)
def exN (op:Nat) (text:Bs) (n:Int) (ps:List (Nat×Bs)):Bs :=
 if ZT op<5 then exA (ZT op) (ZT op+1) ([32]++(Vv op++[32])) ps
 else if ZT op=5 then Vv op++exA 5 5 [] ps
 else if Vv op≠[] then Vv op++([40]++(Zj cmm (ps.map Prod.snd)++[41]))
 else if op=6 then [91]++(Zj cmm (ps.map Prod.snd)++[93])
 else if op=7 then [36]++(text++(if ps.length=0 then [] else [40]++(Zj cmm (ps.map Prod.snd)++[41])))
 else if op=3 then ZfR n
 else if op=4 then ZxW text
 else if op=5 then [110,105,108]
 else if op=2 then [95]
 else text
mutual
def exT:Ex->Bs
 | .mk op text n args _=>exN op text n (ZqN args)
def ZqN:List Ex->List (Nat×Bs)
 | []=>[]
 | e::l=>(ZT (opE e),exT e)::ZqN l
end
def ZqO (l:List Ex):ZqN l=l.map fun e=>(ZT (opE e),exT e):=by induction l with | nil=>rfl | cons x l ih=>simp [ZqN,ih]
def Zcw (l:List Ex):(ZqN l).length=l.length:=by rw [ZqO,Td]
def exW (want:Nat) (e:Ex):Bs:=Zt1 want (ZT (opE e),exT e)
def ZBy (l:List Ex):List Bs:=l.map exT
def UJ (l:List Ex):(ZqN l).map Prod.snd=ZBy l:=by rw [ZqO,Sj];rfl
def XW (fr fin:Bs) (l:List Ex):Bs:=fr++(Zj cmm (ZBy l)++fin)
def ZxX (op:Nat):Bs:=if op=3 then [32,61,32] else if op=4 then [32,33,61,32] else if op=5 then [32,60,32] else if op=6 then [32,60,61,32] else if op=7 then [32,62,32] else [32,62,61,32]
def ZkK (op:Nat):Bs:=if op=9 then [99,111,117,110,116] else if op=10 then [115,117,109] else if op=11 then [109,105,110] else [109,97,120]
def Zt2 (l:List Ex):Bs:=(l.map fun e=>[32]++exT e).flatten
def Zmt:List Ex->Bs
 | []=>[]
 | e::_=>exT e
mutual
def liT:Li->Bs
 | .mk op rel args body _ =>
  if op=2 then [33]++(rel++XW [40] [41] args)
  else if op=1 then rel++XW [40] [41] args
  else if op<=8 then Zmt args++(ZxX op++Zmt args.tail)
  else Zmt args++([32,61,32]++(ZkK op++(Zt2 args.tail++([32,58,32,123,32]++(Zj cmm (Zs1 body)++[32,125])))))
def Zs1:List Li->List Bs
 | []=>[]
 | e::l=>liT e::Zs1 l
end
def ZdU (l:List Li):Zs1 l=l.map liT:=by induction l with | nil=>rfl | cons x l ih=>simp [Zs1,ih]
def ruT (r:Ru):Bs:=r.head++(XW [40] [41] r.args++((if 0<r.body.length then [32,58,45,32]++Zj cmm (Zs1 r.body) else [])++[46]))
def fiT (f:Fi):Bs:=f.name++([58,32]++f.typ)
def ZoZ (fr:Bs) (l:List Fi) (fin:Bs):Bs:=fr++(Zj cmm (l.map fiT)++fin)
def ZBz (l:List Bs):Bs:=if l.length=0 then [] else [60]++(Zj cmm l++[62])
def caT (c:Ca):Bs:=ZoZ (c.name++[32,123]) c.fields [125]
def tyT (t:Ty):Bs:=[116,121,112,101,32]++(t.name++((if t.kind=1 then [32,60,58,32]++t.base else if t.kind=2 then ZoZ [32,61,32,91] t.fields [93] else [32,61,32]++Zj [32,124,32] (t.cases.map caT))++[10]))
def reT (d:Re):Bs:=ZoZ ([100,101,99,108,32]++(d.name++[40])) d.fields [41]++((if d.inn then [32,105,110,112,117,116] else [])++((if d.out then [32,111,117,116,112,117,116] else [])++((if d.inl then [32,105,110,108,105,110,101] else [])++[10])))
def inT (i:Ini):Bs:=[105,110,105,116,32]++(i.name++([32,61,32]++(i.comp++(ZBz i.types++[10]))))
def ovT (o:Ov):Bs:=[111,118,101,114,114,105,100,101,32]++(o.rel++[10])
mutual
def unT:Un->Bs
 | .mk tys rels rules comps inits overs=>(tys.map tyT).flatten++((rels.map reT).flatten++((ZAN comps).flatten++((inits.map inT).flatten++((overs.map ovT).flatten++(rules.map fun r=>ruT r++[10]).flatten))))
def coT:Co->Bs
 | .mk nm ps base tys u _=>[99,111,109,112,32]++(nm++(ZBz ps++((if base=[] then [] else [32,58,32]++(base++ZBz tys))++([32,123,10]++(unT u++[125,10])))))
def ZAN:List Co->List Bs
 | []=>[]
 | c::l=>coT c::ZAN l
end
def noC:Un->Prop
 | .mk t d _ c i o=>c=[]/\i=[]/\o=[]/\t=[]/\∀x∈d,x.inn=false/\x.out=false/\x.inl=false
mutual
def wE:Ex->Nat
 | .mk _ t _ args _=>1+t.length+wEs args
def wEs:List Ex->Nat
 | []=>0
 | x::l=>1+wE x+wEs l
end
def ZqP:∀(l:List Ex),wEs l=szS wE l
 | []=>by rw [wEs,szS]
 | x::l=>by rw [wEs,szS,ZqP l]
mutual
def wL:Li->Nat
 | .mk _ r a b _=>1+r.length+szS wE a+wLs b
def wLs:List Li->Nat
 | []=>0
 | x::l=>1+wL x+wLs l
end
def Zmu:∀(l:List Li),wLs l=szS wL l
 | []=>by rw [wLs,szS]
 | x::l=>by rw [wLs,szS,Zmu l]
def wRu (r:Ru):Nat:=1+r.head.length+szS wE r.args+szS wL r.body
def wFi (f:Fi):Nat:=1+f.name.length+f.typ.length
def wCa (c:Ca):Nat:=1+c.name.length+szS wFi c.fields
def wTy (t:Ty):Nat:=1+t.name.length+t.base.length+szS wFi t.fields+szS wCa t.cases
def wRe (d:Re):Nat:=1+d.name.length+szS wFi d.fields
def wBs (s:Bs):Nat:=1+s.length
def wIn (i:Ini):Nat:=1+i.name.length+i.comp.length+szS wBs i.types
def wOv (o:Ov):Nat:=1+o.rel.length
mutual
def wUn:Un->Nat
 | .mk a1 a2 a3 a4 a5 a6=>1+szS wTy a1+szS wRe a2+szS wRu a3+ZxY a4+szS wIn a5+szS wOv a6
def wCo:Co->Nat
 | .mk n p b t u _=>1+n.length+szS wBs p+b.length+szS wBs t+wUn u
def ZxY:List Co->Nat
 | []=>0
 | x::l=>1+wCo x+ZxY l
end
def ZqQ:∀(l:List Co),ZxY l=szS wCo l
 | []=>by rw [ZxY,szS]
 | x::l=>by rw [ZxY,szS,ZqQ l]
abbrev VG {α:Type} (enc:Pl->α->List D):Pl->α->PV:=fun pl x=>.agg ((enc pl x).map .d)
abbrev ZxZ:Pl->Bs->PV:=fun _ s=>.d (.str s)
def Jg {α:Type} (val:Pl->α->PV) (p:α->Bool) (w:α->Nat) (n:Nat):Zh:=fun args σ K=>match args,σ with
 | [v],⟨[],[],0⟩=>∃pl x,v=val pl x/\(w x<=n/\n<=1073741824)/\∀b,p x=b->K (.ret (.d (.bool b))) ⟨[],[],0⟩
 | _,_=>False
def ZkL {α:Type} (h0:FuncId) (val:Pl->α->PV) (p:α->Bool) (w:α->Nat) (n:Nat):Zh:=fun args σ K=>match args,σ with
 | [v,.ptr 0 0],⟨[.cells t [.func h' [] []]],[],0⟩=>∃pl x,v=val pl x/\(h'=h0/\w x<=n/\n<=1073741824)/\∀b,(!p x)=b->K (.ret (.d (.bool b))) ⟨[.cells t [.func h' [] []]],[],0⟩
 | _,_=>False
def ZkM {α:Type} (g0 h0:FuncId) (enc:Pl->α->List D) (p:α->Bool) (w:α->Nat) (n:Nat):Zh:=fun args σ K=>match args,σ with
 | [.d (.sl r),.func g' [] [.ptr 0 0]],⟨[.cells t [.func h' [] []]],[],0⟩=>∃pl l,r=l.map (enc pl)/\(g'=g0/\h'=h0/\szS w l<=n/\n<=1073741824)/\∀r:Int,(r<0↔l.all p=true)->K (.ret (.d (.int .i64 r))) ⟨[.cells t [.func h' [] []]],[],0⟩
 | _,_=>False
def ZkN {α:Type} (g0 h0:FuncId) (enc:Pl->α->List D) (p:α->Bool) (w:α->Nat) (n:Nat):Zh:=fun args σ K=>match args,σ with
 | [.d (.sl r),.func g' [] [.ptr 0 0]],⟨[.cells t [.func h' [] []]],[],0⟩=>∃pl l,r=l.map (enc pl)/\(g'=g0/\h'=h0/\szS w l<=n/\n<=1073741824)/\∀b,(!l.all p)=b->K (.ret (.d (.bool b))) ⟨[.cells t [.func h' [] []]],[],0⟩
 | _,_=>False
def ZbY {α:Type} (h0:FuncId) (enc:Pl->α->List D) (p:α->Bool) (w:α->Nat) (n:Nat):Zh:=fun args σ K=>match args,σ with
 | [.d (.sl r),.func h' [] []],⟨[],[],0⟩=>∃pl l,r=l.map (enc pl)/\(h'=h0/\szS w l<=n/\n<=1073741824)/\∀b,l.all p=b->K (.ret (.d (.bool b))) ⟨[],[],0⟩
 | _,_=>False
def UK {α:Type} (p:α->Bool) {l:List α} {i:Nat} (h:i<l.length):(l.drop i).all p=(p l[i] && (l.drop (i+1)).all p):=by rw [Tk h,List.all_cons]
def ZdV {α:Type} (p:α->Bool) {l:List α} {i:Nat} (h:l.length<=i):(l.drop i).all p=true:=by rw [Tm h];rfl
def ZBB {n:Nat}:OKw w0 nG [(166,Jg (VG ZD) Yf wE n)] 217 (ZkL 166 (VG ZD) Yf wE n):=by
 refine pwo Tryz.func217 fun args σ K h=>?_
 exact mq79
def ZBD {n:Nat}:OKw w0 nG [(217,ZkL 166 (VG ZD) Yf wE n)] 29 (ZkM 217 166 ZD Yf wE n):=by
 refine pwo Tryz.func29 fun args σ K h=>?_
 unfold ZkM at h
 split at h
 ·obtain ⟨pl,l,rfl,⟨rfl,rfl,hz,hn⟩,h⟩:=h
  rename_i t
  have hlen:(l.map (ZD pl)).length=l.length:=Td ..;have hsz:=ZE wE l;refine pwv [(2,⟨[8],[0,1,7],fun vs σ=>∃i:Nat,vs=[.d (.int .i64 i)]/\σ=⟨[.cells t [.func 166 [] []]],[],0⟩/\i<=l.length/\l.all Yf=(l.drop i).all Yf,mu1 l.length⟩)] 1 false ?_;refine ⟨⟨0,rfl,rfl,oM,rfl⟩,?_⟩;intro vs σ hI
  obtain ⟨i,rfl,rfl,hi,hs⟩:=hI;(conv=>whnf);refine ZGr (fun af=>wN ?_) (fun af=>wN ?_)
  ·have af:i<l.length:=lzI hlen af;have hg:=ZQ wE l i af;rw [UK _ af] at hs;obtain ⟨eA,hA⟩:∃e,l[i]=e:=⟨_,rfl⟩
   obtain ⟨a1,a2,a3,a4,a5⟩:=eA;have cq:(l.map (ZD pl))[((i:Nat):Int).toNat]?=some (ZD pl (.mk a1 a2 a3 a4 a5)):=by simp [af,hA]
   rw [hA] at hs hg;refine ⟨_,oM,cq,wN ?_⟩;refine ⟨pl,(.mk a1 a2 a3 a4 a5),rfl,⟨rfl,oM,oM⟩,fun b hb=>?_⟩
   cases b with
   | true =>
    have hp:Yf (.mk a1 a2 a3 a4 a5)=false:=by simpa using hb
    exact mq82
   | false =>
   have hp:Yf (.mk a1 a2 a3 a4 a5)=true:=by simpa using hb
   exact mq50
  exact mq64
 exact h.elim
def ZBF {n:Nat}:OKw w0 nG [(29,ZkM 217 166 ZD Yf wE n)] 21 (ZkN 217 166 ZD Yf wE n):=by
 refine pwo Tryz.func21 fun args σ K h=>?_
 unfold ZkN at h
 split at h
 ·obtain ⟨pl,l,rfl,⟨rfl,rfl,hz,hn⟩,h⟩:=h;refine pwv [] 1 false ?_;refine ⟨pl,l,rfl,⟨rfl,rfl,hz,hn⟩,fun r hr=>wN ?_⟩;refine h _ ?_
  cases hb:l.all Yf with
  | true=>rw [hb] at hr;have:=hr.2 rfl;simp;omega
  | false=>rw [hb] at hr;have:¬r<0:=fun g=>(by have:=hr.1 g;cases this);simp;omega
 exact h.elim
def ZBH {n:Nat}:OKw w0 nG [(21,ZkN 217 166 ZD Yf wE n)] 165 (ZbY 166 ZD Yf wE n):=by
 refine pwo Tryz.func165 fun args σ K h=>?_
 exact mq22
def ZDF {n:Nat} (h:PC w0 nG 166 (Jg (VG ZD) Yf wE n)):PC w0 nG 165 (ZbY 166 ZD Yf wE n) :=
 ZBH ⟨ZBF ⟨ZBD ⟨ZBB ⟨h,trivial⟩,trivial⟩,trivial⟩,trivial⟩
def ZBJ {n:Nat}:OKw w0 nG [(168,Jg (VG YC) YH wL n)] 221 (ZkL 168 (VG YC) YH wL n):=by
 refine pwo Tryz.func221 fun args σ K h=>?_
 exact mq79
def ZBL {n:Nat}:OKw w0 nG [(221,ZkL 168 (VG YC) YH wL n)] 251 (ZkM 221 168 YC YH wL n):=by
 refine pwo Tryz.func251 fun args σ K h=>?_
 unfold ZkM at h
 split at h
 ·obtain ⟨pl,l,rfl,⟨rfl,rfl,hz,hn⟩,h⟩:=h
  rename_i t
  have hlen:(l.map (YC pl)).length=l.length:=Td ..;have hsz:=ZE wL l;refine pwv [(2,⟨[8],[0,1,7],fun vs σ=>∃i:Nat,vs=[.d (.int .i64 i)]/\σ=⟨[.cells t [.func 168 [] []]],[],0⟩/\i<=l.length/\l.all YH=(l.drop i).all YH,mu1 l.length⟩)] 1 false ?_;refine ⟨⟨0,rfl,rfl,oM,rfl⟩,?_⟩;intro vs σ hI
  obtain ⟨i,rfl,rfl,hi,hs⟩:=hI;(conv=>whnf);refine ZGr (fun af=>wN ?_) (fun af=>wN ?_)
  ·have af:i<l.length:=lzI hlen af;have hg:=ZQ wL l i af;rw [UK _ af] at hs;obtain ⟨eA,hA⟩:∃e,l[i]=e:=⟨_,rfl⟩
   obtain ⟨a1,a2,a3,a4,a5⟩:=eA;have cq:(l.map (YC pl))[((i:Nat):Int).toNat]?=some (YC pl (.mk a1 a2 a3 a4 a5)):=by simp [af,hA]
   rw [hA] at hs hg;refine ⟨_,oM,cq,wN ?_⟩;refine ⟨pl,(.mk a1 a2 a3 a4 a5),rfl,⟨rfl,oM,oM⟩,fun b hb=>?_⟩
   cases b with
   | true =>
    have hp:YH (.mk a1 a2 a3 a4 a5)=false:=by simpa using hb
    exact mq82
   | false =>
   have hp:YH (.mk a1 a2 a3 a4 a5)=true:=by simpa using hb
   exact mq50
  exact mq64
 exact h.elim
def ZBN {n:Nat}:OKw w0 nG [(251,ZkM 221 168 YC YH wL n)] 220 (ZkN 221 168 YC YH wL n):=by
 refine pwo Tryz.func220 fun args σ K h=>?_
 unfold ZkN at h
 split at h
 ·obtain ⟨pl,l,rfl,⟨rfl,rfl,hz,hn⟩,h⟩:=h;refine pwv [] 1 false ?_;refine ⟨pl,l,rfl,⟨rfl,rfl,hz,hn⟩,fun r hr=>wN ?_⟩;refine h _ ?_
  cases hb:l.all YH with
  | true=>rw [hb] at hr;have:=hr.2 rfl;simp;omega
  | false=>rw [hb] at hr;have:¬r<0:=fun g=>(by have:=hr.1 g;cases this);simp;omega
 exact h.elim
def ZBP {n:Nat}:OKw w0 nG [(220,ZkN 221 168 YC YH wL n)] 167 (ZbY 168 YC YH wL n):=by
 refine pwo Tryz.func167 fun args σ K h=>?_
 exact mq22
def ZFq {n:Nat} (h:PC w0 nG 168 (Jg (VG YC) YH wL n)):PC w0 nG 167 (ZbY 168 YC YH wL n) :=
 ZBP ⟨ZBN ⟨ZBL ⟨ZBJ ⟨h,trivial⟩,trivial⟩,trivial⟩,trivial⟩
def Zx1 {n:Nat}:OKw w0 nG [(114,Jg (VG Zs) XD wRu n)] 164 (ZkL 114 (VG Zs) XD wRu n):=by
 refine pwo Tryz.func164 fun args σ K h=>?_
 unfold ZkL at h
 split at h
 ·obtain ⟨pl,⟨a1,a2,a3,a4⟩,rfl,⟨rfl,hz,hn⟩,h⟩:=h;refine pwv [] 1 false ?_;refine ⟨pl,⟨a1,a2,a3,a4⟩,rfl,⟨hz,hn⟩,fun b hb=>wN ?_⟩;exact h _ (by rw [hb])
 exact h.elim
def Zx3 {n:Nat}:OKw w0 nG [(164,ZkL 114 (VG Zs) XD wRu n)] 216 (ZkM 164 114 Zs XD wRu n):=by
 refine pwo Tryz.func216 fun args σ K h=>?_
 unfold ZkM at h
 split at h
 ·obtain ⟨pl,l,rfl,⟨rfl,rfl,hz,hn⟩,h⟩:=h
  rename_i t
  have hlen:(l.map (Zs pl)).length=l.length:=Td ..;have hsz:=ZE wRu l;refine pwv [(2,⟨[8],[0,1,7],fun vs σ=>∃i:Nat,vs=[.d (.int .i64 i)]/\σ=⟨[.cells t [.func 114 [] []]],[],0⟩/\i<=l.length/\l.all XD=(l.drop i).all XD,mu1 l.length⟩)] 1 false ?_;refine ⟨⟨0,rfl,rfl,oM,rfl⟩,?_⟩;intro vs σ hI
  obtain ⟨i,rfl,rfl,hi,hs⟩:=hI;(conv=>whnf);refine ZGr (fun af=>wN ?_) (fun af=>wN ?_)
  ·have af:i<l.length:=lzI hlen af;have hg:=ZQ wRu l i af;rw [UK _ af] at hs;obtain ⟨eA,hA⟩:∃e,l[i]=e:=⟨_,rfl⟩
   obtain ⟨a1,a2,a3,a4⟩:=eA;have cq:(l.map (Zs pl))[((i:Nat):Int).toNat]?=some (Zs pl ⟨a1,a2,a3,a4⟩):=by simp [af,hA]
   rw [hA] at hs hg;refine ⟨_,oM,cq,wN ?_⟩;refine ⟨pl,⟨a1,a2,a3,a4⟩,rfl,⟨rfl,oM,oM⟩,fun b hb=>?_⟩
   cases b with
   | true =>
    have hp:XD ⟨a1,a2,a3,a4⟩=false:=by simpa using hb
    exact mq82
   | false =>
   have hp:XD ⟨a1,a2,a3,a4⟩=true:=by simpa using hb
   exact mq50
  exact mq64
 exact h.elim
def Zx5 {n:Nat}:OKw w0 nG [(216,ZkM 164 114 Zs XD wRu n)] 163 (ZkN 164 114 Zs XD wRu n):=by
 refine pwo Tryz.func163 fun args σ K h=>?_
 unfold ZkN at h
 split at h
 ·obtain ⟨pl,l,rfl,⟨rfl,rfl,hz,hn⟩,h⟩:=h;refine pwv [] 1 false ?_;refine ⟨pl,l,rfl,⟨rfl,rfl,hz,hn⟩,fun r hr=>wN ?_⟩;refine h _ ?_
  cases hb:l.all XD with
  | true=>rw [hb] at hr;have:=hr.2 rfl;simp;omega
  | false=>rw [hb] at hr;have:¬r<0:=fun g=>(by have:=hr.1 g;cases this);simp;omega
 exact h.elim
def Zx7 {n:Nat}:OKw w0 nG [(163,ZkN 164 114 Zs XD wRu n)] 113 (ZbY 114 Zs XD wRu n):=by
 refine pwo Tryz.func113 fun args σ K h=>?_
 exact mq22
def ZEu {n:Nat} (h:PC w0 nG 114 (Jg (VG Zs) XD wRu n)):PC w0 nG 113 (ZbY 114 Zs XD wRu n) :=
 Zx7 ⟨Zx5 ⟨Zx3 ⟨Zx1 ⟨h,trivial⟩,trivial⟩,trivial⟩,trivial⟩
def Zx9 {n:Nat}:OKw w0 nG [(112,Jg (VG (fun _=>Zp)) Y7 wFi n)] 162 (ZkL 112 (VG (fun _=>Zp)) Y7 wFi n):=by
 refine pwo Tryz.func162 fun args σ K h=>?_
 unfold ZkL at h
 split at h
 ·obtain ⟨pl,⟨a1,a2⟩,rfl,⟨rfl,hz,hn⟩,h⟩:=h;refine pwv [] 1 false ?_;refine ⟨pl,⟨a1,a2⟩,rfl,⟨hz,hn⟩,fun b hb=>wN ?_⟩;exact h _ (by rw [hb])
 exact h.elim
def Zyb {n:Nat}:OKw w0 nG [(162,ZkL 112 (VG (fun _=>Zp)) Y7 wFi n)] 197 (ZkM 162 112 (fun _=>Zp) Y7 wFi n):=by
 refine pwo Tryz.func197 fun args σ K h=>?_
 unfold ZkM at h
 split at h
 ·obtain ⟨pl,l,rfl,⟨rfl,rfl,hz,hn⟩,h⟩:=h
  rename_i t
  have hlen:(l.map ((fun _=>Zp) pl)).length=l.length:=Td ..;have hsz:=ZE wFi l;refine pwv [(2,⟨[8],[0,1,7],fun vs σ=>∃i:Nat,vs=[.d (.int .i64 i)]/\σ=⟨[.cells t [.func 112 [] []]],[],0⟩/\i<=l.length/\l.all Y7=(l.drop i).all Y7,mu1 l.length⟩)] 1 false ?_;refine ⟨⟨0,rfl,rfl,oM,rfl⟩,?_⟩;intro vs σ hI
  obtain ⟨i,rfl,rfl,hi,hs⟩:=hI;(conv=>whnf);refine ZGr (fun af=>wN ?_) (fun af=>wN ?_)
  ·have af:i<l.length:=lzI hlen af;have hg:=ZQ wFi l i af;rw [UK _ af] at hs;obtain ⟨eA,hA⟩:∃e,l[i]=e:=⟨_,rfl⟩
   obtain ⟨a1,a2⟩:=eA;have cq:(l.map ((fun _=>Zp) pl))[((i:Nat):Int).toNat]?=some ((fun _=>Zp) pl ⟨a1,a2⟩):=by simp [af,hA]
   rw [hA] at hs hg;refine ⟨_,oM,cq,wN ?_⟩;refine ⟨pl,⟨a1,a2⟩,rfl,⟨rfl,oM,oM⟩,fun b hb=>?_⟩
   cases b with
   | true =>
    have hp:Y7 ⟨a1,a2⟩=false:=by simpa using hb
    exact mq82
   | false =>
   have hp:Y7 ⟨a1,a2⟩=true:=by simpa using hb
   exact mq50
  exact mq64
 exact h.elim
def Zyd {n:Nat}:OKw w0 nG [(197,ZkM 162 112 (fun _=>Zp) Y7 wFi n)] 132 (ZkN 162 112 (fun _=>Zp) Y7 wFi n):=by
 refine pwo Tryz.func132 fun args σ K h=>?_
 unfold ZkN at h
 split at h
 ·obtain ⟨pl,l,rfl,⟨rfl,rfl,hz,hn⟩,h⟩:=h;refine pwv [] 1 false ?_;refine ⟨pl,l,rfl,⟨rfl,rfl,hz,hn⟩,fun r hr=>wN ?_⟩;refine h _ ?_
  cases hb:l.all Y7 with
  | true=>rw [hb] at hr;have:=hr.2 rfl;simp;omega
  | false=>rw [hb] at hr;have:¬r<0:=fun g=>(by have:=hr.1 g;cases this);simp;omega
 exact h.elim
def Zyf {n:Nat}:OKw w0 nG [(132,ZkN 162 112 (fun _=>Zp) Y7 wFi n)] 111 (ZbY 112 (fun _=>Zp) Y7 wFi n):=by
 refine pwo Tryz.func111 fun args σ K h=>?_
 exact mq22
def ZEv {n:Nat} (h:PC w0 nG 112 (Jg (VG (fun _=>Zp)) Y7 wFi n)):PC w0 nG 111 (ZbY 112 (fun _=>Zp) Y7 wFi n) :=
 Zyf ⟨Zyd ⟨Zyb ⟨Zx9 ⟨h,trivial⟩,trivial⟩,trivial⟩,trivial⟩
def Zyh {n:Nat}:OKw w0 nG [(109,Jg (VG Zu) XS wRe n)] 159 (ZkL 109 (VG Zu) XS wRe n):=by
 refine pwo Tryz.func159 fun args σ K h=>?_
 unfold ZkL at h
 split at h
 ·obtain ⟨pl,⟨a1,a2,a3,a4,a5,a6⟩,rfl,⟨rfl,hz,hn⟩,h⟩:=h;refine pwv [] 1 false ?_;refine ⟨pl,⟨a1,a2,a3,a4,a5,a6⟩,rfl,⟨hz,hn⟩,fun b hb=>wN ?_⟩;exact h _ (by rw [hb])
 exact h.elim
def Zyj {n:Nat}:OKw w0 nG [(159,ZkL 109 (VG Zu) XS wRe n)] 16 (ZkM 159 109 Zu XS wRe n):=by
 refine pwo Tryz.func16 fun args σ K h=>?_
 unfold ZkM at h
 split at h
 ·obtain ⟨pl,l,rfl,⟨rfl,rfl,hz,hn⟩,h⟩:=h
  rename_i t
  have hlen:(l.map (Zu pl)).length=l.length:=Td ..;have hsz:=ZE wRe l;refine pwv [(2,⟨[8],[0,1,7],fun vs σ=>∃i:Nat,vs=[.d (.int .i64 i)]/\σ=⟨[.cells t [.func 109 [] []]],[],0⟩/\i<=l.length/\l.all XS=(l.drop i).all XS,mu1 l.length⟩)] 1 false ?_;refine ⟨⟨0,rfl,rfl,oM,rfl⟩,?_⟩;intro vs σ hI
  obtain ⟨i,rfl,rfl,hi,hs⟩:=hI;(conv=>whnf);refine ZGr (fun af=>wN ?_) (fun af=>wN ?_)
  ·have af:i<l.length:=lzI hlen af;have hg:=ZQ wRe l i af;rw [UK _ af] at hs;obtain ⟨eA,hA⟩:∃e,l[i]=e:=⟨_,rfl⟩
   obtain ⟨a1,a2,a3,a4,a5,a6⟩:=eA;have cq:(l.map (Zu pl))[((i:Nat):Int).toNat]?=some (Zu pl ⟨a1,a2,a3,a4,a5,a6⟩):=by simp [af,hA]
   rw [hA] at hs hg;refine ⟨_,oM,cq,wN ?_⟩;refine ⟨pl,⟨a1,a2,a3,a4,a5,a6⟩,rfl,⟨rfl,oM,oM⟩,fun b hb=>?_⟩
   cases b with
   | true =>
    have hp:XS ⟨a1,a2,a3,a4,a5,a6⟩=false:=by simpa using hb
    exact mq82
   | false =>
   have hp:XS ⟨a1,a2,a3,a4,a5,a6⟩=true:=by simpa using hb
   exact mq50
  exact mq64
 exact h.elim
def Zyl {n:Nat}:OKw w0 nG [(16,ZkM 159 109 Zu XS wRe n)] 158 (ZkN 159 109 Zu XS wRe n):=by
 refine pwo Tryz.func158 fun args σ K h=>?_
 unfold ZkN at h
 split at h
 ·obtain ⟨pl,l,rfl,⟨rfl,rfl,hz,hn⟩,h⟩:=h;refine pwv [] 1 false ?_;refine ⟨pl,l,rfl,⟨rfl,rfl,hz,hn⟩,fun r hr=>wN ?_⟩;refine h _ ?_
  cases hb:l.all XS with
  | true=>rw [hb] at hr;have:=hr.2 rfl;simp;omega
  | false=>rw [hb] at hr;have:¬r<0:=fun g=>(by have:=hr.1 g;cases this);simp;omega
 exact h.elim
def Zyn {n:Nat}:OKw w0 nG [(158,ZkN 159 109 Zu XS wRe n)] 108 (ZbY 109 Zu XS wRe n):=by
 refine pwo Tryz.func108 fun args σ K h=>?_
 exact mq22
def ZEw {n:Nat} (h:PC w0 nG 109 (Jg (VG Zu) XS wRe n)):PC w0 nG 108 (ZbY 109 Zu XS wRe n) :=
 Zyn ⟨Zyl ⟨Zyj ⟨Zyh ⟨h,trivial⟩,trivial⟩,trivial⟩,trivial⟩
def ZAO:Zh:=fun args σ K=>match args,σ with
 | [.d (.int .u8 op)],⟨[],[],0⟩=>∃o:Nat,op=o/\∀l w a,(ZT o:Int)=l->Vv o=w->VL o=a->K (.ret (.agg [.d (.int .i64 l),.d (.str w),.d (.int .i64 a)])) ⟨[],[],0⟩
 | _,_=>False
def ZqR:Zy ZAO:=fun args σ K K' hK h=>by
 unfold ZAO at h |-
 split at h
 ·obtain ⟨o,h1,h2⟩:=h;exact ⟨o,h1,fun l w a e1 e2 e3=>hK _ _ (h2 l w a e1 e2 e3)⟩
 exact h.elim
def Zt3:PC w0 nG 218 ZAO:=by
 refine pwe Tryz.func218 fun args σ K h=>?_
 unfold ZAO at h
 split at h
 ·obtain ⟨o,rfl,h⟩:=h;refine pwu [] 0 false ?_
  repeat' ((conv=>whnf);refine ZGr (fun hc=>?_) (fun hc=>?_))
  all_goals (conv=>whnf)
  all_goals first
  | (have e : o = 16 := by omega
     subst e;exact h _ _ _ rfl rfl rfl)
  | (have e : o = 17 := by omega
     subst e;exact h _ _ _ rfl rfl rfl)
  | (have e : o = 15 := by omega
     subst e;exact h _ _ _ rfl rfl rfl)
  | (have e : o = 18 := by omega
     subst e;exact h _ _ _ rfl rfl rfl)
  | (have e : o = 19 := by omega
     subst e;exact h _ _ _ rfl rfl rfl)
  | (have e : o = 10 := by omega
     subst e;exact h _ _ _ rfl rfl rfl)
  | (have e : o = 11 := by omega
     subst e;exact h _ _ _ rfl rfl rfl)
  | (have e : o = 12 := by omega
     subst e;exact h _ _ _ rfl rfl rfl)
  | (have e : o = 13 := by omega
     subst e;exact h _ _ _ rfl rfl rfl)
  | (have e : o = 14 := by omega
     subst e;exact h _ _ _ rfl rfl rfl)
  | (have e : o = 8 := by omega
     subst e;exact h _ _ _ rfl rfl rfl)
  | (have e : o = 9 := by omega
     subst e;exact h _ _ _ rfl rfl rfl)
  | (have e : o = 20 := by omega
     subst e;exact h _ _ _ rfl rfl rfl)
  | (have e : o = 21 := by omega
     subst e;exact h _ _ _ rfl rfl rfl)
  | (have e : o = 22 := by omega
     subst e;exact h _ _ _ rfl rfl rfl)
  | (have e : o = 23 := by omega
     subst e;exact h _ _ _ rfl rfl rfl)
  | (have e : o = 24 := by omega
     subst e;exact h _ _ _ rfl rfl rfl)
  | (have e : o = 25 := by omega
     subst e;exact h _ _ _ rfl rfl rfl)
  | (have e : o = 6 := by omega
     subst e;exact h _ _ _ rfl rfl rfl)
  | (have e : o = 7 := by omega
     subst e;exact h _ _ _ rfl rfl rfl)
  | (have e : o = 1 := by omega
     subst e;exact h _ _ _ rfl rfl rfl)
  | (have e : o = 2 := by omega
     subst e;exact h _ _ _ rfl rfl rfl)
  | (have e : o = 3 := by omega
     subst e;exact h _ _ _ rfl rfl rfl)
  | (have e : o = 4 := by omega
     subst e;exact h _ _ _ rfl rfl rfl)
  | (have e : o = 5 := by omega
     subst e;exact h _ _ _ rfl rfl rfl)
  | (refine h _ _ _ ?_ ?_ ?_
     ·unfold ZT;(repeat rw [Te oM]);rfl
     ·unfold Vv;(repeat rw [Te oM])
     unfold VL;(repeat rw [Te oM]))
 exact h.elim
def ZBR {n:Nat}:OKw w0 nG [(160,Zhb),(161,ZiP)] 110 (Jg ZxZ Zar wBs n):=by
 refine pwo Tryz.func110 fun args σ K h=>?_
 unfold Jg at h
 split at h
 ·obtain ⟨pl,s,rfl,⟨hz,hn⟩,h⟩:=h;unfold wBs at hz
  refine pwv [] 0 false ?_;refine ⟨oM,wN ?_⟩;refine ZGt (fun ik=>?_) (fun ik=>?_);rotate_left
  ·(conv=>whnf);exact h _ (by simp [Zar,ik])
  conv=>whnf
  refine ZGu (fun dv=>?_) (fun dv=>?_);rotate_left
  ·(conv=>whnf);exact h _ (by simp only [Zar,ik,dv];decide)
  conv=>whnf
  refine fun b hb=>wN ?_
  exact h _ (by rw [Zar,ik,hb,decide_eq_false dv];simp)
 exact h.elim
def ZBT {n:Nat}:OKw w0 nG [(110,Jg ZxZ Zar wBs n)] 112 (Jg (VG (fun _=>Zp)) Y7 wFi n):=by
 refine pwo Tryz.func112 fun args σ K h=>?_
 unfold Jg at h
 split at h
 ·obtain ⟨pl,⟨a1,a2⟩,rfl,⟨hz,hn⟩,h⟩:=h;simp only [wFi] at hz;refine pwv [] 0 false ?_;refine ⟨fun _=>0,a1,rfl,⟨by simp only [wBs];omega,oM⟩,fun b kr=>?_⟩
  cases b with
  | false =>
   conv=>whnf
   exact h _ (by simp [Y7,kr])
  | true =>
  conv=>whnf
  refine ⟨fun _=>0,a2,rfl,⟨by simp only [wBs];omega,oM⟩,fun b lb=>wN ?_⟩;exact h _ (by simp [Y7,kr,lb])
 exact h.elim
def ZBV {n:Nat}:OKw w0 nG [(110,Jg ZxZ Zar wBs n),(111,ZbY 112 (fun _=>Zp) Y7 wFi n)] 109 (Jg (VG Zu) XS wRe n):=by
 refine pwo Tryz.func109 fun args σ K h=>?_
 unfold Jg at h
 split at h
 ·obtain ⟨pl,⟨a1,a2,a3,a4,a5,a6⟩,rfl,⟨hz,hn⟩,h⟩:=h;simp only [wRe] at hz;refine pwv [] 0 false ?_;refine ⟨fun _=>0,a1,rfl,⟨by simp only [wBs];omega,oM⟩,fun b kr=>?_⟩
  cases b with
  | false =>
   conv=>whnf
   exact h _ (by simp [XS,kr])
  | true =>
  conv=>whnf
  refine ⟨pl,a2,rfl,⟨rfl,oM,oM⟩,fun b oi=>wN ?_⟩;exact h _ (by simp [XS,kr,oi])
 exact h.elim
def ZBX {n:Nat}:OKw w0 nG [(110,Jg ZxZ Zar wBs n),(165,ZbY 166 ZD Yf wE n),(167,ZbY 168 YC YH wL n)] 114 (Jg (VG Zs) XD wRu n):=by
 refine pwo Tryz.func114 fun args σ K h=>?_
 unfold Jg at h
 split at h
 ·obtain ⟨pl,⟨a1,a2,a3,a4⟩,rfl,⟨hz,hn⟩,h⟩:=h;simp only [wRu] at hz;refine pwv [] 0 false ?_;refine ⟨fun _=>0,a1,rfl,⟨by simp only [wBs];omega,oM⟩,fun b kr=>?_⟩
  cases b with
  | false =>
   conv=>whnf
   exact h _ (by simp [XD,kr])
  | true =>
  conv=>whnf
  refine ⟨pl,a2,Zc _ _,⟨rfl,oM,oM⟩,fun b oi=>?_⟩
  cases b with
  | false =>
   conv=>whnf
   exact h _ (by simp [XD,kr,oi])
  | true =>
  conv=>whnf
  refine ⟨pl,a3,Zn _ _,⟨rfl,oM,oM⟩,fun b iv=>wN ?_⟩;exact h _ (by simp [XD,kr,oi,iv])
 exact h.elim
def ZBY {n:Nat}:OKw w0 nG [(218,ZAO),(110,Jg ZxZ Zar wBs n),(219,JL),(165,spB (ZbY 166 ZD Yf wE) n)] 166 (Jg (VG ZD) Yf wE n):=by
 refine pwo Tryz.func166 fun args σ K h=>?_
 unfold Jg at h
 split at h
 ·obtain ⟨pl,⟨a1,a2,a3,a4,a5⟩,rfl,⟨hz,hn⟩,h⟩:=h;simp only [wE,ZqP] at hz;refine pwv [] 0 false ?_;have fc:(Ze pl a4).length=a4.length:=by rw [Zc,Td]
  refine ⟨a1,rfl,fun l w a hl hw ha=>wN ?_⟩;refine ZGr (fun dx=>wN ?_) (fun dx=>wN ?_)
  ·have v7:=dx;have dx:a1=1:=oM;refine ZGr (fun _=>wN ?_) (fun hx=>absurd v7 hx);exact mq155
  refine ZGr (fun wa=>wN ?_) (fun wa=>wN ?_)
  ·have dx:a1=7:=by omega
   exact mq155
  have dx:¬a1=1:=oM;have wa:¬a1=7:=oM;refine ZGr (fun nv=>wN ?_) (fun nv=>wN ?_)
  ·have nv:a1=4:=by omega
   refine ⟨oM,fun hq=>wN ?_,fun q hq=>wN ?_⟩
   ·have mh:VM a1 a2=false:=by simp [VM,nv,hq]
    exact mq6
   have mh:VM a1 a2=true:=by simp [VM,nv,hq]
   exact mq4
  have nv:¬a1=4:=oM;have mh:VM a1 a2=decide (a2=[]):=by simp [VM,dx,wa,nv]
  refine ZGr (fun h1=>?_) (fun h1=>?_);rotate_left
  ·exact mq186
  conv=>whnf
  refine ZGr (fun h2=>wN ?_) (fun h2=>wN ?_)
  ·refine ZGr (fun h3=>wN ?_) (fun h3=>wN ?_)
   ·refine ZGr (fun h4=>?_) (fun h4=>?_);rotate_left
    ·exact mq143
    rw [TY h4] at mh;(conv=>whnf);exact mq183
   refine ZGr (fun h5=>?_) (fun h5=>?_);rotate_left
   ·exact mq153
   have h5:a1=3:=oM;have kc:(decide (a3=0) || decide (a1=3))=true:=by simp [h5]
   conv=>whnf
   refine ZGr (fun h4=>?_) (fun h4=>?_);rotate_left
   ·exact mq143
   rw [TY h4] at mh;exact mq178
  refine ZGr (fun h6=>?_) (fun h6=>?_);rotate_left
  ·exact mq157
  have h6:(a4.length:Int)=a:=by rw [<- fc];exact h6
  conv=>whnf
  refine ZGr (fun h3=>wN ?_) (fun h3=>wN ?_)
  ·refine ZGr (fun h4=>?_) (fun h4=>?_);rotate_left
   ·exact mq143
   rw [TY h4] at mh;(conv=>whnf);exact mq182
  refine ZGr (fun h5=>?_) (fun h5=>?_);rotate_left
  ·exact mq153
  have h5:a1=3:=oM;have kc:(decide (a3=0) || decide (a1=3))=true:=by simp [h5]
  conv=>whnf
  refine ZGr (fun h4=>?_) (fun h4=>?_);rotate_left
  ·exact mq143
  rw [TY h4] at mh;exact mq177
 exact h.elim
def ZBZ {n:Nat}:OKw w0 nG [(110,Jg ZxZ Zar wBs n),(165,ZbY 166 ZD Yf wE n),(167,spB (ZbY 168 YC YH wL) n)] 168 (Jg (VG YC) YH wL n):=by
 refine pwo Tryz.func168 fun args σ K h=>?_
 unfold Jg at h
 split at h
 ·obtain ⟨pl,⟨a1,a2,a3,a4,a5⟩,rfl,⟨hz,hn⟩,h⟩:=h;simp only [wL,Zmu] at hz;refine pwv [] 0 false ?_;have ct:(Ze pl a3).length=a3.length:=by rw [Zc,Td]
  have fc:(Zx pl a4).length=a4.length:=by rw [Zn,Td]
  have ql:((0:Int)<((Zx pl a4).length:Int))↔0<a4.length:=by rw [fc];omega
  refine ZGr (fun dx=>wN ?_) (fun dx=>wN ?_)
  ·have v7:=dx;have dx:a1=1:=oM;refine ZGr (fun _=>wN ?_) (fun hx=>absurd v7 hx);exact mq148
  refine ZGr (fun vz=>wN ?_) (fun vz=>wN ?_)
  ·have dx:a1=2:=by omega
   exact mq148
  have j7:¬(a1=1\/a1=2):=oM;refine ZGr (fun ad7=>wN ?_) (fun ad7=>wN ?_)
  ·refine ZGr (fun ad8=>wN ?_) (fun ad8=>wN ?_)
   ·have h38:3<=a1/\a1<=8:=by omega
    refine ZGr (fun hr=>?_) (fun hr=>?_);rotate_left
    ·have kg:YS a1 a2 a3.length a4.length=false:=by simp [YS,j7,h38,hr]
     conv=>whnf
     exact mq56
    conv=>whnf
    refine ZGr (fun hA=>?_) (fun hA=>?_);rotate_left
    ·have hA:¬a3.length=2:=fun g=>hA (by show ((Ze pl a3).length:Int)=2;rw [ct,g];rfl)
     have kg:YS a1 a2 a3.length a4.length=false:=by simp [YS,j7,h38,hA]
     conv=>whnf
     exact mq56
    have hA:a3.length=2:=by have hA:((Ze pl a3).length:Int)=2:=hA;rw [ct] at hA;omega
    conv=>whnf
    refine ZGu (fun hB=>wN ?_) (fun hB=>wN ?_)
    ·have hB:¬0<a4.length:=fun g=>hB (ql.2 g)
     have kg:YS a1 a2 a3.length a4.length=true:=by simp only [YS,j7,h38,hr,hA,decide_eq_false hB];simp
     exact mq7
    have hB:=ql.1 hB;have kg:YS a1 a2 a3.length a4.length=false:=by simp [YS,j7,h38,hr,hA,hB]
    exact mq56
   exact mq3
  exact mq3
 exact h.elim
end Go.PM.Lex
end

section
namespace Go.PM.Lex
open Go.Proofs
variable {w0:World} {nG:Nat}
def Zmv:Tbl:=[(210,Zn1 Tryz.f210 (ZV [(2,1)]) [])]
def Zhc:Tbl:=[(154,ZbT Tryz.f154 Zmv)]
def ZB0:PC w0 nG 106 (ZbT Tryz.f106 Zhc):=W0 (tb:=Zhc) ⟨W0 (tb:=Zmv) ⟨ZiU (unr:=ZV [(2,1)]) (tb:=[]) trivial Tryz.func210 rfl kR kR,trivial⟩ Tryz.func154 rfl kR kR,trivial⟩ Tryz.func106 rfl kR kR
def Zmw:Tbl:=[(222,Zn1 Tryz.f222 (ZV [(2,1)]) [])]
def Zhd:Tbl:=[(169,ZbT Tryz.f169 Zmw)]
def ZB1:PC w0 nG 115 (ZbT Tryz.f115 Zhd):=W0 (tb:=Zhd) ⟨W0 (tb:=Zmw) ⟨ZiU (unr:=ZV [(2,1)]) (tb:=[]) trivial Tryz.func222 rfl kR kR,trivial⟩ Tryz.func169 rfl kR kR,trivial⟩ Tryz.func115 rfl kR kR
def Zmx:Tbl:=[(223,Zn1 Tryz.f223 (ZV [(2,1)]) [])]
def Zhe:Tbl:=[(172,ZbT Tryz.f172 Zmx)]
def ZqS:PC w0 nG 118 (ZbT Tryz.f118 Zhe):=W0 (tb:=Zhe) ⟨W0 (tb:=Zmx) ⟨ZiU (unr:=ZV [(2,1)]) (tb:=[]) trivial Tryz.func223 rfl kR kR,trivial⟩ Tryz.func172 rfl kR kR,trivial⟩ Tryz.func118 rfl kR kR
def Zmy:Tbl:=[(224,Zn1 Tryz.f224 (ZV [(2,1)]) [])]
def Zhf:Tbl:=[(174,ZbT Tryz.f174 Zmy)]
def ZB2:PC w0 nG 120 (ZbT Tryz.f120 Zhf):=W0 (tb:=Zhf) ⟨W0 (tb:=Zmy) ⟨ZiU (unr:=ZV [(2,1)]) (tb:=[]) trivial Tryz.func224 rfl kR kR,trivial⟩ Tryz.func174 rfl kR kR,trivial⟩ Tryz.func120 rfl kR kR
def Zt4 (n:Nat):Zh:=fun args σ K=>match args,σ with
 | [v],⟨[],[],0⟩=>∃pl x,v=VG WZ pl x/\(wUn x<=n/\n<=1073741824/\noC x)/\∀b,ZkJ x=b->K (.ret (.d (.bool b))) ⟨[],[],0⟩
 | _,_=>False
def ZB4 {n:Nat}:OKw w0 nG [(106,ZbT Tryz.f106 Zhc),(108,ZbY 109 Zu XS wRe n),(113,ZbY 114 Zs XD wRu n),(115,ZbT Tryz.f115 Zhd),(118,ZbT Tryz.f118 Zhe),(120,ZbT Tryz.f120 Zhf)] 67 (Zt4 n):=by
 refine pwo Tryz.func67 fun args σ K h=>?_
 unfold Zt4 at h
 split at h
 ·obtain ⟨pl,⟨a1,a2,a3,a4,a5,a6⟩,rfl,⟨hz,hn,rfl,rfl,rfl,rfl,_⟩,h⟩:=h;simp only [wUn,ZqQ] at hz;refine pwv [] 0 false ?_;refine ⟨_,fun _ _ h=>h,Tb rfl,wN ?_⟩;refine ⟨_,fun _ _ h=>h,Tb rfl,wN ?_⟩;refine ⟨_,fun _ _ h=>h,Tb rfl,wN ?_⟩;refine ⟨pl,a2,rfl,⟨rfl,oM,oM⟩,fun b oi=>?_⟩
  cases b with
  | false =>
   conv=>whnf
   exact h _ (by simp [ZkJ,Zas,oi])
  | true =>
  conv=>whnf
  refine ⟨pl,a3,rfl,⟨rfl,oM,oM⟩,fun b iv=>?_⟩
  cases b with
  | false =>
   conv=>whnf
   exact h _ (by simp [ZkJ,Zas,oi,iv])
  | true =>
  have h:=h true (by simp [ZkJ,Zas,oi,iv]);(conv=>whnf);refine ⟨_,fun _ _ h=>h,Tb rfl,wN ?_⟩;refine ⟨_,fun _ _ h=>h,Tb rfl,wN ?_⟩;refine ⟨_,fun _ _ h=>h,Tb rfl,wN ?_⟩;refine ⟨_,fun _ _ h=>h,Tb rfl,wN ?_⟩;refine ⟨_,fun _ _ h=>h,Tb rfl,wN ?_⟩;refine ⟨_,fun _ _ h=>h,Tb rfl,wN ?_⟩;refine ⟨_,fun _ _ h=>h,Tb rfl,wN ?_⟩;refine ⟨_,fun _ _ h=>h,Tb rfl,wN ?_⟩;refine ⟨_,fun _ _ h=>h,Tb rfl,wN ?_⟩;exact h
 exact h.elim
structure LexC (w0:World) (nG:Nat):Prop where
 name:PC w0 nG 160 Zhb
 quote:PC w0 nG 219 JL
variable (hL:LexC w0 nG)
include hL
def Zyo (n:Nat):PC w0 nG 110 (Jg ZxZ Zar wBs n):=ZBR ⟨hL.name,Zkx,trivial⟩
def cHE:∀n,PC w0 nG 166 (Jg (VG ZD) Yf wE n)
 | 0=>ZBY ⟨Zt3,Zyo hL _,hL.quote,Zz (Zf Tryz.func165 kR rfl),trivial⟩
 | n+1=>ZBY ⟨Zt3,Zyo hL _,hL.quote,ZA (sp:=ZbY 166 ZD Yf wE) (ZDF (cHE n)),trivial⟩
def cHL:∀n,PC w0 nG 168 (Jg (VG YC) YH wL n)
 | 0=>ZBZ ⟨Zyo hL _,ZDF (cHE hL 0),Zz (Zf Tryz.func167 kR rfl),trivial⟩
 | n+1=>ZBZ ⟨Zyo hL _,ZDF (cHE hL _),ZA (sp:=ZbY 168 YC YH wL) (ZFq (cHL n)),trivial⟩
def ZF2 (n:Nat):PC w0 nG 114 (Jg (VG Zs) XD wRu n):=ZBX ⟨Zyo hL _,ZDF (cHE hL _),ZFq (cHL hL _),trivial⟩
def ZF3 (n:Nat):PC w0 nG 111 (ZbY 112 (fun _=>Zp) Y7 wFi n):=ZEv (ZBT ⟨Zyo hL _,trivial⟩)
def ZF4 (n:Nat):PC w0 nG 109 (Jg (VG Zu) XS wRe n):=ZBV ⟨Zyo hL _,ZF3 hL n,trivial⟩
def ZF5 (n:Nat):PC w0 nG 67 (Zt4 n):=ZB4 ⟨ZB0,ZEw (ZF4 hL _),ZEu (ZF2 hL _),ZB1,ZqS,ZB2,trivial⟩
end Go.PM.Lex
end

section
namespace Go.PM.Lex
open Go.Proofs Go.Shelf Go.RowKit
variable {w0:World} {nG:Nat}
def ZEz:liesAt Tryz.prog Tryz.prog.depth 143 (2 / Tryz.prog.cellsOf 143) 0 141 1=true:=kR
def ZkO (b:Nat) (w:World) (h0:w.cell? ⟨b,0,none⟩=some (.pointer none)) (jm:w.shape? b=some (143,2)) (ll:w.frozen? ⟨b,0,none⟩=false) :
  Calls Tryz.prog 225 #[.pointer (some ⟨b,0,none⟩)] w fun e w'=>e=.returned (.tuple #[])/\w'=w.setCell ⟨b,0,none⟩ (.pointer (some ⟨b,0,none⟩)):=by
 obtain ⟨j,hj,ub⟩:=i53
 go_enter Tryz.func225,Tryz.ntmps225
 go_wp2
 rw [Go.Lib.run_to_unsafe w ⟨b,0,none⟩ u50 u95 hj (by rw [ub];decide) jm (Nat.zero_lt_succ 1)];simp only [Result.andThen];rw [Oper.upon_value]
 go_wp2
 rw [run_callFunc_extern Tryz.func252 kR kR kR (e:=Extern.AbiNoEscape.same) kR];rw [Go.Lib.run_noEscape];simp only [Result.andThen];rw [Oper.upon_value]
 go_wp2
 rw [Go.Lib.run_from_unsafe w ⟨b,0,none⟩ u95 u50 hj jm ZEz];simp only [Result.andThen];rw [Oper.upon_value]
 go_wp2
 go_end0
 exact ⟨rfl,rfl⟩
def Uj:Zh:=fun args σ K=>match args,σ with
 | [.ptr 0 0],⟨[.cells t [p,q]],tk,nx⟩=>((p=.d .nilp\/p=.ptr 0 0)/\t=143)/\K (.ret (.tuple [])) ⟨[.cells t [.ptr 0 0,q]],tk,nx⟩
 | _,_=>False
def Zhg:PC w0 nG 225 Uj:=Vn (Zf Tryz.func225 kR rfl) fun args σ K h e w vs hS ha=>by
 unfold Uj at h
 split at h
 ·rename_i t p q tk nx
  obtain ⟨⟨hp,rfl⟩,hK⟩:=h;obtain ⟨u,rfl,hu⟩:=ZgR ha;obtain ⟨cv,dv,bw,d0⟩:=hS.box 0 _ rfl;have et:cv.size=2:=bw;obtain ⟨x0,jd⟩:∃x,cv[0]?=some x:=⟨cv[0]'oM,by simp [et]⟩
  have xw:=(d0 0 p x0 rfl jd).1
  cases hu with
  | ptr b off hb =>
  refine ⟨_,_,.tuple #[],hK,?_⟩;rcases hp with rfl | rfl
  ·cases xw with
   | d _ _ hd =>
   cases hd
   refine Calls.mono (ZkO (e.β 0) w ?_ ?_ ?_) fun en w' ⟨h1,h2⟩=>?_
   ·simp [World.cell?,dv,jd]
   ·simp only [World.shape?,dv,et]
   ·simp [World.frozen?,dv]
   have hst:=Zds (G:=GG w0 nG) (T:=VE) Zr hS (t:=138) (b:=0) (off:=0) (x:=.ptr 0 0) (v:=.pointer (some ⟨e.β 0,0,none⟩)) (l:=[.ptr 0 0]) (cs:=[.d .nilp,q]) (ty:=143) rfl (.ptr 0 0 hb) rfl rfl sM (by intro h;cases h);rw [h2];exact ⟨h1,.tuple [] #[] rfl (fun i x u hx=>by simp at hx),hst.2,hst.1.toLater⟩
  exact mq85
 exact h.elim
def Zoh {ty:TypeId} {P:Program} {ρ:Ren} (L:Lays.n169 P ρ) (X:Builder.Extra P ρ) (b g cap:Nat) (p:Value) (cur:Array Value) (fz:Nat×Nat) (l:Bs) (w:World) (h0:l≠[])
  (rl:w.heap[b]?=some (.cells #[p,.slice (some ⟨g,0,none⟩) l.length cap] ty (0,0))) (hg:w.heap[g]?=some (.cells cur (ρ.t 5) fz)) (hn:l.length<=cur.size) (hcap:cap≠0) (dm:l.length<=9223372036854775807)
  (az:∀j x,l[j]?=some x->w.cell? ⟨g,j,none⟩=some (.int .u8 x.toNat)) :
  Calls P (ρ.f 169) #[.pointer (some ⟨b,0,none⟩)] w fun e w'=>e=.returned (.string ⟨l.toArray⟩)/\w'=w.drew.freeze ⟨g,0,none⟩ l.length:=by
 have c1:w.drew.cell? ⟨b,1,none⟩=some (.slice (some ⟨g,0,none⟩) l.length cap):=by
  have:w.drew.heap[b]?=some (.cells #[p,.slice (some ⟨g,0,none⟩) l.length cap] ty (0,0)):=rl;rw [Go.Lib.cell_of_heap this];rfl
 have hSD:(Builtin.unsafeSliceData_ #[(ρ.t 37)] (ρ.t 127) #[.slice (some ⟨g,0,none⟩) l.length cap]).run P w.drew=.ok (.pointer (some ⟨g,0,none⟩)) w.drew :=
  Go.Lib.run_unsafeSliceData_row _ _ _ _ _ _ hcap
 have hUS:(Builtin.unsafeString_ #[(ρ.t 127),(ρ.t 3)] (ρ.t 9) #[.pointer (some ⟨g,0,none⟩),.int .i64 l.length]).run P w.drew=.ok (.string ⟨l.toArray⟩) (w.drew.freeze ⟨g,0,none⟩ l.length):=by
  exact mq69
 have mixed:=L.mixed;have t72:=L.t72;have a72:=L.a72;have z72:=L.z72;have v72:=L.v72;have u72:=run_underlying L.t72;have t70:=L.t70;have a70:=L.a70;have z70:=L.z70;have v70:=L.v70;have u70:=run_underlying L.t70;have t37:=L.t37;have a37:=L.a37;have z37:=L.z37;have v37:=L.v37;have u37:=run_underlying L.t37;have t127:=L.t127;have a127:=L.a127;have z127:=L.z127;have v127:=L.v127;have u127:=run_underlying L.t127;have t3:=L.t3;have a3:=L.a3;have z3:=L.z3;have v3:=L.v3;have u3:=run_underlying L.t3;have t9:=L.t9;have a9:=L.a9;have z9:=L.z9;have v9:=L.v9;have u9:=run_underlying L.t9;have t5:=X.t5;have a5:=X.a5;have z5:=X.z5;have v5:=X.v5;have u5:=run_underlying X.t5
 go_enter L.f169,Body.n169_ntmps ρ
 go_wp2
 go_region_o
 all_goals (go_wp2;go_ret;exact ⟨rfl,rfl⟩)
def Zt5 {ty:TypeId} {P:Program} {ρ:Ren} (L:Lays.n169 P ρ) (X:Builder.Extra P ρ) (B b:Nat) (p:Value) (w:World) (rl:w.heap[b]?=some (.cells #[p,.slice none 0 0] ty (0,0))) :
  Calls P (ρ.f 169) #[.pointer (some ⟨b,0,none⟩)] w fun e w'=>e=.returned (.string ⟨#[]⟩)/\Below B w w':=by
 have hUS:=Any.unsafeString_none L X;have c1:w.drew.cell? ⟨b,1,none⟩=some (.slice none 0 0):=by
  have:w.drew.heap[b]?=some (.cells #[p,.slice none 0 0] ty (0,0)):=rl;rw [Lib.cell_of_heap this];rfl
 have hSD:(Builtin.unsafeSliceData_ #[(ρ.t 37)] (ρ.t 127) #[.slice none 0 0]).run P w.drew=.ok (.pointer none) w.drew:=rfl;have mixed:=L.mixed;have t72:=L.t72;have a72:=L.a72;have z72:=L.z72;have v72:=L.v72;have u72:=run_underlying L.t72;have t70:=L.t70;have a70:=L.a70;have z70:=L.z70;have v70:=L.v70;have u70:=run_underlying L.t70;have t37:=L.t37;have a37:=L.a37;have z37:=L.z37;have v37:=L.v37;have u37:=run_underlying L.t37;have t127:=L.t127;have a127:=L.a127;have z127:=L.z127;have v127:=L.v127;have u127:=run_underlying L.t127;have t3:=L.t3;have a3:=L.a3;have z3:=L.z3;have v3:=L.v3;have u3:=run_underlying L.t3;have t9:=L.t9;have a9:=L.a9;have z9:=L.z9;have v9:=L.v9;have u9:=run_underlying L.t9;have t5:=X.t5;have a5:=X.a5;have z5:=X.z5;have v5:=X.v5;have u5:=run_underlying X.t5
 go_enter L.f169,Body.n169_ntmps ρ
 go_wp2
 go_region_o
 all_goals (go_wp2;go_ret;exact ⟨rfl,Below.drew (Below.refl B w)⟩)
def ZqT {ty:TypeId} {P:Program} {ρ:Ren} (L:Lays.n169 P ρ) (X:Builder.Extra P ρ) (B b g cap:Nat) (p:Value) (w:World) (ik:cap≠0) (rl:w.heap[b]?=some (.cells #[p,.slice (some ⟨g,0,none⟩) 0 cap] ty (0,0))) :
  Calls P (ρ.f 169) #[.pointer (some ⟨b,0,none⟩)] w fun e w'=>e=.returned (.string ⟨#[]⟩)/\Below B w w':=by
 have hUS:=Any.unsafeString_none L X;have c1:w.drew.cell? ⟨b,1,none⟩=some (.slice (some ⟨g,0,none⟩) 0 cap):=by
  have:w.drew.heap[b]?=some (.cells #[p,.slice (some ⟨g,0,none⟩) 0 cap] ty (0,0)):=rl;rw [Lib.cell_of_heap this];rfl
 have hSD:(Builtin.unsafeSliceData_ #[(ρ.t 37)] (ρ.t 127) #[.slice (some ⟨g,0,none⟩) 0 cap]).run P w.drew=.ok (.pointer (some ⟨g,0,none⟩)) w.drew:=Go.Lib.run_unsafeSliceData_row _ _ _ _ _ _ ik
 clear ik
 have mixed:=L.mixed;have t72:=L.t72;have a72:=L.a72;have z72:=L.z72;have v72:=L.v72;have u72:=run_underlying L.t72;have t70:=L.t70;have a70:=L.a70;have z70:=L.z70;have v70:=L.v70;have u70:=run_underlying L.t70;have t37:=L.t37;have a37:=L.a37;have z37:=L.z37;have v37:=L.v37;have u37:=run_underlying L.t37;have t127:=L.t127;have a127:=L.a127;have z127:=L.z127;have v127:=L.v127;have u127:=run_underlying L.t127;have t3:=L.t3;have a3:=L.a3;have z3:=L.z3;have v3:=L.v3;have u3:=run_underlying L.t3;have t9:=L.t9;have a9:=L.a9;have z9:=L.z9;have v9:=L.v9;have u9:=run_underlying L.t9;have t5:=X.t5;have a5:=X.a5;have z5:=X.z5;have v5:=X.v5;have u5:=run_underlying X.t5
 go_enter L.f169,Body.n169_ntmps ρ
 go_wp2
 go_region_o
 all_goals (go_wp2;go_ret;exact ⟨rfl,Below.drew (Below.refl B w)⟩)
end Go.PM.Lex
end

section
namespace Go.PM.Lex
open Go.Proofs
variable {w0:World} {nG:Nat}
def wk {rows:List (List D)} {p:PV} {t t1 e e1:Nat} {B:Bs->Prop} {F:Bs->Bs->Prop} (l txt:Bs) (b:B txt) (k:F l txt) (h1:rows=Zm l:=by rfl) (h2:p=.d .nilp\/p=.ptr 0 0:=by first | exact .inl rfl | exact .inr rfl) (h3:t=t1:=by rfl) (h4:e=e1:=by rfl) (h5:l.length+txt.length<70368744177664:=by (try simp only [Tc,Tf,Tj]);omega):∃l txt,rows=Zm l/\((p=.d .nilp\/p=.ptr 0 0)/\t=t1/\e=e1)/\B txt/\l.length+txt.length<70368744177664/\F l txt:=⟨l,txt,h1,⟨h2,h3,h4⟩,b,h5,k⟩
def ZjP (r:PV) (body:List PV->Bs->Prop):Zh:=fun args σ K=>match args,σ with
 | .ptr 0 0::rest,⟨[.cells t [p,.sl 0 e rows]],[0],1⟩=>∃l txt,rows=Zm l/\((p=.d .nilp\/p=.ptr 0 0)/\t=143/\e=5)/\body rest txt/\l.length+txt.length<70368744177664 /\
   K (.ret r) ⟨[.cells t [.ptr 0 0,.sl 0 e (Zm (l++txt))]],[0],1⟩
 | _,_=>False
def Zat (r:PV) (body:List PV->Bs->Prop):Zy (ZjP r body):=fun args σ K K' hK h=>by
 unfold ZjP at h |-
 split at h
 ·obtain ⟨l,txt,h1,h2,h3,h4,h5⟩:=h;exact ⟨l,txt,h1,h2,h3,h4,hK _ _ h5⟩
 exact h.elim
def Zoi {α:Type} (val:Pl->α->PV) (may:α->Bool) (txt:α->Bs) (w:α->Nat) (n:Nat):Zh:=fun args σ K=>match args,σ with
 | [v,.ptr 0 0],⟨[.cells tp [.ptr 1 0],.cells t [.ptr 1 0,.sl 0 e rows]],[0],1⟩=>∃l pl x,rows=Zm l/\v=val pl x/\(t=143/\e=5)/\(may x=true/\w x<=n/\n<=1073741824)/\l.length+(txt x).length<70368744177664 /\
   K (.ret (.tuple [])) ⟨[.cells tp [.ptr 1 0],.cells t [.ptr 1 0,.sl 0 e (Zm (l++txt x))]],[0],1⟩
 | _,_=>False
def Zyp {α:Type} (g0:FuncId) (enc:Pl->α->List D) (may:α->Bool) (txt:α->Bs) (w:α->Nat) (n:Nat):Zh:=fun args σ K=>match args,σ with
 | [.ptr 0 0,.d (.sl r),.d (.str bt),.func g [] [.ptr 1 0]],⟨[.cells t [.ptr 0 0,.sl 0 e rows],.cells tp [.ptr 0 0]],[0],1⟩=>∃l pl xs,rows=Zm l/\r=xs.map (enc pl)/\(t=143/\e=5/\g=g0)/\(xs.all may=true/\szS w xs<=n/\n<=1073741824)/\l.length+(Zj bt (xs.map txt)).length<70368744177664 /\
   K (.ret (.tuple [])) ⟨[.cells t [.ptr 0 0,.sl 0 e (Zm (l++Zj bt (xs.map txt)))],.cells tp [.ptr 0 0]],[0],1⟩
 | _,_=>False
def ZFr (s:Bs):Zh:=ZjP (.tuple [.d (.int .i64 s.length),.d .nili]) fun rest txt=>rest=[.d (.str s)]/\txt=s
def Zi5:Zh:=fun args σ K=>match args with
 | [.ptr 0 0,.d (.str s)]=>ZFr s args σ K
 | _=>False
def Zoj:Zy Zi5:=fun args σ K K' hK h=>by
 unfold Zi5 at h |-
 split at h
 ·exact Zat _ _ _ _ _ _ hK h
 exact h.elim
def ZB5:Tbl:=[(225,Uj)]
def Zt6:PC w0 nG 176 Zi5:=by
 refine pwt (tbl:=ZB5) ⟨Zhg,trivial⟩ Tryz.func176 fun args σ K h=>?_
 unfold Zi5 at h
 split at h
 ·rename_i s
  unfold ZFr ZjP at h
  split at h
  ·rename_i rest t p e rows ab
   obtain ⟨l,txt,rfl,⟨hp,rfl,rfl⟩,⟨au,rfl⟩,hlen,h⟩:=h;simp only [List.cons.injEq,true_and] at ab;have hb:∀x:Bs,(Zm x).length=x.length:=fun x=>by simp [Zm]
   rw [WX] at h;refine pwu [] 1 true ?_;rcases hp with rfl | rfl
   all_goals
    conv=>whnf
    first | refine ⟨⟨.inl rfl,rfl⟩,?_⟩ | refine ⟨⟨.inr rfl,rfl⟩,?_⟩
    conv=>whnf
    refine ⟨fun r hr=>?_,?_,?_,?_⟩
    ·obtain ⟨b,_,rfl⟩:=Sr.1 hr;rfl
    ·show ((Zm l).length+(Zm txt).length) * 1<=2 ^ 47;rw [hb,hb];omega
    ·show (Zm l).length+(Zm txt).length<=2 ^ 47;rw [hb,hb];omega
    exact mq35
  exact h.elim
 exact h.elim
def ZeY:Zh:=ZjP (.tuple []) fun rest txt=>∃ps:List Bs,rest=[.d (.sl (ps.map Xg))]/\ps≠[]/\ps.length<=1073741824/\txt=ps.flatten
def Zok:Zy ZeY:=Zat _ _
def ZqU:Tbl:=[(176,Zi5)]
def Zi6:TO w0 nG ZqU:=⟨Zt6,trivial⟩
def Zau:PC w0 nG 122 ZeY:=by
 refine pwt (tbl:=ZqU) Zi6 Tryz.func122 fun args σ K h=>?_
 unfold ZeY ZjP at h
 split at h
 ·rename_i rest t p e rows
  obtain ⟨l,txt,rfl,⟨hp,rfl,rfl⟩,⟨ps,rfl,ai,eg,rfl⟩,hlen,h⟩:=h;have cf:(ps.map Xg).length=ps.length:=Td ..;refine pwu [(1,⟨[8],[0,6,7],fun vs σ=>∃(i:Nat) (P:PV),vs=[.d (.int .i64 i)]/\σ=⟨[.cells 143 [P,.sl 0 5 (Zm (l++(ps.take i).flatten))]],[0],1⟩/\(P=.d .nilp\/P=.ptr 0 0)/\(0<i->P=.ptr 0 0)/\i<=ps.length,mu1 ps.length⟩)] 1 true ?_;rcases hp with rfl | rfl
  all_goals
   conv=>whnf
   refine ⟨⟨0,_,rfl,(by simp only [Sb,List.flatten_nil,TU];rfl),iM,fun g=>absurd g oM,oM⟩,?_⟩;intro vs σ hI
   obtain ⟨i,P,rfl,rfl,hP,hP0,hi⟩:=hI;(conv=>whnf);refine ZGr (fun af=>?_) (fun af=>?_)
   ·have af:i<ps.length:=lzI cf af;obtain ⟨s,hs⟩:∃s,ps[i]=s:=⟨_,rfl⟩
    have cq:(ps.map Xg)[((i:Nat):Int).toNat]?=some (Xg s):=by simp [af,hs]
    have cd:(ps.take (i+1)).flatten=(ps.take i).flatten++s:=by rw [List.take_succ_eq_append_getElem af,So,hs];simp
    have aw:(ps.take (i+1)).flatten.length<=ps.flatten.length:=by
     have e:ps.flatten=(ps.take (i+1)).flatten++(ps.drop (i+1)).flatten:=by rw [<- So,Sd]
     rw [e,Tc];omega
    rw [cd,Tc] at aw;rcases hP with rfl | rfl
    all_goals
     conv=>whnf
     refine ⟨_,oM,cq,wN ?_⟩;refine ⟨l++(ps.take i).flatten,s,rfl,⟨iM,rfl,rfl⟩,⟨rfl,rfl⟩,by rw [Tc];omega,?_⟩;(conv=>whnf);refine Zk ?_;refine ⟨⟨i+1,_,rfl,(by rw [cd,Tp];rfl),.inr rfl,fun _=>rfl,oM⟩,?_⟩;exact lzM oM
   have af:i=ps.length:=lzE cf oM af;subst af;obtain rfl:=hP0 (List.length_pos_iff.2 ai);rw [Sn];exact mq35
 exact h.elim
def ZdW (bt:Bs):∀(l:List Bs) (x:Bs),Zj bt (l++[x])=if l=[] then x else Zj bt l++(bt++x)
 | [],x=>rfl
 | [y],x=>by simp [Zj]
 | y::z::l,x=>by
  have ih:=ZdW bt (z::l) x;simp only [Sl] at ih |-;rw [Zj,ih] <;> simp [Zj]
def JN {α:Type} (bt:Bs) (f:α->Bs) {xs:List α} {i:Nat} (h:i<xs.length):Zj bt ((xs.take (i+1)).map f)=if i=0 then f xs[i] else Zj bt ((xs.take i).map f)++(bt++f xs[i]):=by
 rw [List.take_succ_eq_append_getElem h,TM,Tx,TN,ZdW];have e:((xs.take i).map f=[])↔i=0:=by
  rw [<- Sp,Td,List.length_take];omega
 by_cases h0:i=0
 ·rw [Ti (e.2 h0),Ti h0]
 rw [Te (fun g=>h0 (e.1 g)),Te h0]
def Zav (bt:Bs):∀(l m:List Bs),(Zj bt l).length<=(Zj bt (l++m)).length
 | [],m=>T6 _
 | [x],[]=>Tt _
 | [x],y::m=>by simp only [Sl,List.nil_append,Zj,Tc];omega
 | x::y::l,m=>by
  have ih:=Zav bt (y::l) m;simp only [Sl,Zj,Tc] at ih |-;omega
def ZdX {α:Type} (bt:Bs) (f:α->Bs) (xs:List α) (i:Nat):(Zj bt ((xs.take i).map f)).length<=(Zj bt (xs.map f)).length:=by
 have h:=Zav bt ((xs.take i).map f) ((xs.drop i).map f)
 rwa [<- TM,Sd] at h
def Zyr {n:Nat}:OKw w0 nG [(176,Zi5),(178,Zoi (VG (fun _=>Zp)) Y7 fiT wFi n)] 177 (Zyp 178 (fun _=>Zp) Y7 fiT wFi n):=by
 refine pwo Tryz.func177 fun args σ K h=>?_
 unfold Zyp at h
 split at h
 ·rename_i r bt g t e rows tp
  obtain ⟨l,pl,xs,rfl,rfl,⟨rfl,rfl,rfl⟩,⟨ca,hz,hn⟩,hlen,h⟩:=h;have cf:(xs.map ((fun _=>Zp) pl)).length=xs.length:=Td ..;have hsz:=ZE wFi xs;refine pwv [(1,⟨[12],[0,1,2,3,10,11],fun vs σ=>∃i:Nat,vs=[.d (.int .i64 i)]/\σ=⟨[.cells 143 [.ptr 0 0,.sl 0 5 (Zm (l++Zj bt ((xs.take i).map fiT)))],.cells tp [.ptr 0 0]],[0],1⟩/\i<=xs.length,mu1 xs.length⟩)] 2 true ?_;refine ⟨⟨0,rfl,(by simp only [Sb,TN,Zj,TU];rfl),oM⟩,?_⟩;intro vs σ hI
  obtain ⟨i,rfl,rfl,hi⟩:=hI;(conv=>whnf);refine ZGr (fun af=>wN ?_) (fun af=>?_)
  ·have af:i<xs.length:=lzI cf af;have hg:=ZQ wFi xs i af;have f9:Y7 xs[i]=true:=Tn.1 ca _ (TA af);have cd:=JN bt fiT af;have aw:=ZdX bt fiT xs (i+1);obtain ⟨eA,hA⟩:∃x,xs[i]=x:=⟨_,rfl⟩
   obtain ⟨a1,a2⟩:=eA;rw [hA] at hg f9 cd;have cq:(xs.map ((fun _=>Zp) pl))[((i:Nat):Int).toNat]?=some ((fun _=>Zp) pl ⟨a1,a2⟩):=by simp [af,hA]
   refine ⟨_,oM,cq,wN ?_⟩;refine ZGr (fun h0=>wN ?_) (fun h0=>?_)
   ·have h0:0<i:=by omega
    rw [Te oM] at cd;rw [cd] at aw;simp only [Tc] at aw;refine wk _ bt ⟨rfl,rfl⟩ (wN ?_);refine ⟨l++Zj bt ((xs.take i).map fiT)++bt,pl,⟨a1,a2⟩,rfl,rfl,⟨rfl,rfl⟩,⟨f9,oM,oM⟩,by simp only [Tc];omega,wN ?_⟩;exact mq103
   obtain rfl:i=0:=by omega
   rw [Ti rfl] at cd;rw [cd] at aw;(conv=>whnf);refine ⟨l++Zj bt ((xs.take 0).map fiT),pl,⟨a1,a2⟩,rfl,rfl,⟨rfl,rfl⟩,⟨f9,oM,oM⟩,by simp only [Sb,TN,Zj,Tc,Tj];omega,wN ?_⟩;exact mq91
  exact mq180
 exact h.elim
def ZEA:Tab:=(.node (.node (.node (.node .leaf 3 ⟨1,8,.int .i64,[.d (.int .i64 (0))],true⟩ .leaf) 4 ⟨1,1,.bool,[.d (.bool false)],false⟩ .leaf) 5 ⟨1,1,.int .u8,[.d (.int .u8 (0))],true⟩ (.node .leaf 9 ⟨1,16,.string,[.d (.str [])],false⟩ .leaf)) 139 ⟨1,24,.slice 5,[.nils 5],false⟩ (.node (.node .leaf 257 ⟨1,8,.int .u64,[.d (.int .u64 (0))],true⟩ .leaf) 259 ⟨1,8,.int .u64,[.d (.int .u64 (0))],true⟩ (.node .leaf 348 ⟨65,65,.array 65 5,[.d (.int .u8 (0)),.d (.int .u8 (0)),.d (.int .u8 (0)),.d (.int .u8 (0)),.d (.int .u8 (0)),.d (.int .u8 (0)),.d (.int .u8 (0)),.d (.int .u8 (0)),.d (.int .u8 (0)),.d (.int .u8 (0)),.d (.int .u8 (0)),.d (.int .u8 (0)),.d (.int .u8 (0)),.d (.int .u8 (0)),.d (.int .u8 (0)),.d (.int .u8 (0)),.d (.int .u8 (0)),.d (.int .u8 (0)),.d (.int .u8 (0)),.d (.int .u8 (0)),.d (.int .u8 (0)),.d (.int .u8 (0)),.d (.int .u8 (0)),.d (.int .u8 (0)),.d (.int .u8 (0)),.d (.int .u8 (0)),.d (.int .u8 (0)),.d (.int .u8 (0)),.d (.int .u8 (0)),.d (.int .u8 (0)),.d (.int .u8 (0)),.d (.int .u8 (0)),.d (.int .u8 (0)),.d (.int .u8 (0)),.d (.int .u8 (0)),.d (.int .u8 (0)),.d (.int .u8 (0)),.d (.int .u8 (0)),.d (.int .u8 (0)),.d (.int .u8 (0)),.d (.int .u8 (0)),.d (.int .u8 (0)),.d (.int .u8 (0)),.d (.int .u8 (0)),.d (.int .u8 (0)),.d (.int .u8 (0)),.d (.int .u8 (0)),.d (.int .u8 (0)),.d (.int .u8 (0)),.d (.int .u8 (0)),.d (.int .u8 (0)),.d (.int .u8 (0)),.d (.int .u8 (0)),.d (.int .u8 (0)),.d (.int .u8 (0)),.d (.int .u8 (0)),.d (.int .u8 (0)),.d (.int .u8 (0)),.d (.int .u8 (0)),.d (.int .u8 (0)),.d (.int .u8 (0)),.d (.int .u8 (0)),.d (.int .u8 (0)),.d (.int .u8 (0)),.d (.int .u8 (0))],false⟩ .leaf)))
def Zt7:TabOK ZEA Tryz.prog:=by unfold TabOK;kernel_rfl
end Go.PM.Lex
end

section
namespace Go.PM.Lex
open Go.Proofs Go.Shelf Go.RowKit
variable {w0:World} {nG:Nat}
structure NumOK (w0:World) (nG:Nat):Prop where
 big:7<nG
 pow : Lib.TabIs Tryz.prog w0 "internal/strconv.uint64pow10" .u64 Lib.pow10Tab
 bru:w0.cell? ⟨5,15,none⟩=some (.int .u8 4)
def ZB6:IntKind.u64.wrap (bits BinOp.and IntKind.u64 (16:Int) (IntKind.u64.wrap (-(16:Int))) * 285870213051353865) / 288230376151711744=(15:Int):=by decide +kernel
def Zys (w:World) (az:w.cell? ⟨5,15,none⟩=some (.int .u8 4)):Calls Tryz.prog 318 #[.int .u64 16] w fun e w'=>e=.returned (.int .i64 4)/\w'=w:=by
 go_enter Tryz.func318,Tryz.ntmps318
 go_wp2_with (simp only [ZB6])
 go_ret
 exact ⟨rfl,rfl⟩
def ZbZ:∀(f n:Nat),n<f->Lib.decDigits n=JM 10 f n
 | 0,n,h=>oM
 | f+1,n,h=>by
  rw [Lib.decDigits,JM]
  by_cases c:n<10
  ·rw [dif_pos c,Ti c,ZjO,Ti c]
  rw [dif_neg c,Te c,ZbZ f (n / 10) oM,ZjO,Ti oM]
def ZqV {n:Int} (h:0<=n):Lib.itoa n=ZfR n:=by
 rw [Lib.itoa,Te oM,ZfR,Te oM,W4];exact ZbZ _ _ oM
def Zt8 {e:Env} {σ:St} {w:World} {name:String} {k:IntKind} {zs:List Int} {g:Nat} (hS:SRel (GG w0 nG) e σ w) (h:Lib.TabIs Tryz.prog w0 name k zs) (hg:Tryz.prog.globalNamed name=some g) (aa:g<nG):Lib.TabIs Tryz.prog w name k zs:=by
 unfold Lib.TabIs World.var? at h |-
 rw [hg] at h |-;simp only [Option.bind_some] at h |-;rw [hS.glob g aa];exact h
def Zyt {e:Env} {σ:St} {w:World} {k i:Nat} {u:Value} (hS:SRel (GG w0 nG) e σ w) (hk:k<nG) (h:w0.cell? ⟨k,i,none⟩=some u):w.cell? ⟨k,i,none⟩=some u:=by
 have:=hS.glob k hk;simpa [World.cell?,this] using h
def Zi7:Zh:=fun args σ K=>match args,σ with
 | [.d (.int .i64 n),.d (.int .i64 b)],⟨[],[],0⟩=>(b=10/\0<=n/\n<9223372036854775808)/\K (.ret (.d (.str (ZfR n)))) ⟨[],[],0⟩
 | _,_=>False
def ZkP:Zy Zi7:=fun args σ K K' hK h=>by
 unfold Zi7 at h |-;split at h <;> first | exact ⟨h.1,hK _ _ h.2⟩ | exact h.elim
def ZqW (hN:NumOK w0 nG):PC w0 nG 255 Zi7:=YL (Zf Tryz.func255 kR rfl) fun args σ K h e w vs hS ha=>by
 unfold Zi7 at h
 split at h
 ·rename_i n b
  obtain ⟨⟨rfl,h0,h1⟩,h⟩:=h;obtain ⟨u,v,rfl,hu,hv⟩:=ZgS ha
  cases hu.dint;cases hv.dint
  have ht:=Zt8 hS hN.pow (g:=3) kR (by have:=hN.big;omega);have hc:=Tryz.strconv_FormatInt_10 n oM oM w ht;rw [ZqV h0] at hc;exact ⟨_,h,_,fun _ _=>.mkstr,hc.mono fun en w' ⟨h1,k,os,h2⟩=>⟨h1,ZGx (by rw [h2];exact Lib.below_grow w.heap.size w (Tt _) k os)⟩⟩
 exact h.elim
def ZAP:Zh:=fun args σ K=>match args,σ with
 | [.d (.int .u64 n)],⟨[],[],0⟩=>n=16/\K (.ret (.d (.int .i64 4))) ⟨[],[],0⟩
 | _,_=>False
def Zyu (hN:NumOK w0 nG):PC w0 nG 318 ZAP:=YL (Zf Tryz.func318 kR rfl) fun args σ K h e w vs hS ha=>by
 unfold ZAP at h
 split at h
 ·rename_i n
  obtain ⟨rfl,h⟩:=h;obtain ⟨u,rfl,hu⟩:=ZgR ha
  cases hu.dint
  exact ⟨_,h,_,fun _ _=>.d _ _ (.int _ _),(Zys w (Zyt hS (k:=5) (by have:=hN.big;omega) hN.bru)).mono fun en w' ⟨h1,h2⟩=>⟨h1,by rw [h2];exact Grows.refl _⟩⟩
 exact h.elim
def ZEB:Tbl:=[(318,ZAP)]
def ZEC (hN:NumOK w0 nG):PC w0 nG 308 ZAP:=by
 refine pwt (tbl:=ZEB) ⟨Zyu hN,trivial⟩ Tryz.func308 fun args σ K h=>?_
 unfold ZAP at h
 split at h
 ·obtain ⟨rfl,h⟩:=h;refine pwv [] 0 false ?_;refine ⟨rfl,wN ?_⟩;exact h
 exact h.elim
def Zyv:Zh:=fun args σ K=>match args,σ with
 | [.d (.int .i64 n)],⟨[],[],0⟩=>n=16/\K (.ret (.d (.bool true))) ⟨[],[],0⟩
 | _,_=>False
def Zyw:Zi .and .i64 16 15=0:=by rw [Yu];decide +kernel
def ZB7:PC w0 nG 307 Zyv:=by
 refine pwe Tryz.func307 fun args σ K h=>?_
 unfold Zyv at h
 split at h
 ·obtain ⟨rfl,h⟩:=h;refine pwv [] 0 false ?_;refine Zk ?_;have e:(Zi .and .i64 16 (16 - 1))=0:=Zyw;rw [e];exact h
 exact h.elim
def Zt9 {n:Nat} (h:16<=n):W4 16 n=W4 16 (n / 16)++[ZjO (n % 16)]:=by
 have key:∀(f g m:Nat),m<f->m<g->JM 16 f m=JM 16 g m:=by
  intro f
  induction f with
  | zero=>intro g m h;omega
  | succ f ih =>
  intro g m h1 h2
  obtain ⟨g,rfl⟩:∃k,g=k+1:=⟨g - 1,oM⟩
  rw [JM,JM];split
  ·rfl
  rw [ih g (m / 16) oM oM]
 rw [W4,JM,Te oM,W4,key n (n / 16+1) (n / 16) oM oM]
def Zua {n:Nat} (h:n<16):W4 16 n=[ZjO n]:=by rw [W4,JM,Ti h]
def digs36:Bs:=[48,49,50,51,52,53,54,55,56,57,97,98,99,100,101,102,103,104,105,106,107,108,109,110,111,112,113,114,115,116,117,118,119,120,121,122]
def ZqX:∀d:Fin 16,digs36.getD d.val 0=ZjO d.val:=by decide +kernel
def Zyx {u:Nat} (h:u<18446744073709551616):Zi .and .u64 (u:Int) 15=((u % 16:Nat):Int):=by
 have e:Zi .and .u64 (u:Int) 15=bits .and .u64 (u:Int) ((15:Nat):Int):=by rw [Yu];rfl
 rw [e,bits_and_u64_nat u 15 h dM];have:u &&& 15=u % 16:=Nat.and_two_pow_sub_one_eq_mod u 4;rw [this]
def sh4 (n:Int):Int:=n.fdiv (2 ^ (min (Int.toNat 4) (IntKind.bits .u64)))
def Zyy (u:Nat):sh4 (u:Int)=((u / 16:Nat):Int):=by
 show (u:Int).fdiv ((2:Int) ^ 4)=_;rw [show ((2:Int) ^ 4)=((16:Nat):Int) by decide,Int.fdiv_eq_ediv_of_nonneg _ dM];omega
def Zub {u:Nat} (h:u<18446744073709551616):digs36.getD (Zi .and .u64 (u:Int) 15).toNat 0=ZjO (u % 16):=by
 rw [Zyx h,Tg];exact ZqX ⟨u % 16,Nat.mod_lt _ dM⟩
def Zuc {u:Nat} (h:u<16):digs36.getD (u:Int).toNat 0=ZjO u:=by
 rw [Tg];exact ZqX ⟨u,h⟩
def Zud {u:Nat} (h:u<18446744073709551616):0<=Zi .and .u64 (u:Int) 15:=by rw [Zyx h];omega
def Zue {u:Nat} (h:u<18446744073709551616):Zi .and .u64 (u:Int) 15<36:=by rw [Zyx h];omega
def shN:Nat->Int->Int
 | 0,n=>n
 | j+1,n=>sh4 (shN j n)
def ZB8:Nat->Int->Bs
 | 0,_=>[]
 | j+1,n=>digs36.getD (Zi .and .u64 (shN j n) 15).toNat 0::ZB8 j n
def Zbk (u:Nat):∀j,shN j (u:Int)=((u / 16 ^ j:Nat):Int)
 | 0=>by rw [shN,Nat.pow_zero,Nat.div_one]
 | j+1=>by rw [shN,Zbk u j,Zyy,Nat.div_div_eq_div_mul,Nat.pow_succ]
def ZqY {u:Nat} (hu:u<18446744073709551616) (j:Nat):u / 16 ^ j<18446744073709551616:=Nat.lt_of_le_of_lt (Nat.div_le_self _ _) hu
def ZFs {u:Nat} (hu:u<18446744073709551616):∀j,(∀k,k<j->16<=u / 16 ^ k)->W4 16 u=W4 16 (u / 16 ^ j)++ZB8 j (u:Int)
 | 0,_=>by rw [ZB8,Nat.pow_zero,Nat.div_one,TU]
 | j+1,h=>by
  rw [ZFs hu j fun k hk=>h k oM,Zt9 (h j oM),ZB8,Zbk,Zub (ZqY hu j),Tp,Nat.div_div_eq_div_mul,Nat.pow_succ];rfl
def ZFt {u j:Nat} (G:∀k,k<j->16<=u / 16 ^ k) (g:(16:Int)<=shN j (u:Int)):∀k,k<j+1->16<=u / 16 ^ k:=fun k hk=>by
 rw [Zbk] at g
 by_cases c:k=j
 ·subst c;omega
 exact G k oM
def ZFu {u j:Nat} (hu:u<18446744073709551616) (G:∀k,k<j->16<=u / 16 ^ k) (g:¬(16:Int)<=shN j (u:Int)):W4 16 u=digs36.getD (shN j (u:Int)).toNat 0::ZB8 j (u:Int):=by
 rw [Zbk] at g |-;rw [ZFs hu j G,Zua oM,Zuc oM];rfl
def ZF6 {u j:Nat} (hu:u<18446744073709551616) (G:∀k,k<j->16<=u / 16 ^ k):0<=Zi .and .u64 (shN j (u:Int)) 15/\Zi .and .u64 (shN j (u:Int)) 15<36:=by
 rw [Zbk];exact ⟨Zud (ZqY hu j),Zue (ZqY hu j)⟩
def ZFv {u j:Nat} (G:∀k,k<j->16<=u / 16 ^ k) (g:¬(16:Int)<=shN j (u:Int)):0<=shN j (u:Int)/\shN j (u:Int)<36:=by
 rw [Zbk] at g |-;generalize u / 16 ^ j=v at g |-;omega
def ZED:Zh:=fun args σ K=>match args,σ with
 | [.sl 0 e [],.d (.int .u64 n),.d (.int .i64 b),.d (.bool ng),.d (.bool ap)],⟨[],[0],1⟩=>(b=16/\ng=false/\ap=false/\0<=n/\n<18446744073709551616)/\K (.ret (.tuple [.d (.sl []),.d (.str (W4 16 n.toNat))])) ⟨[],[],0⟩
 | _,_=>False
def ZEE:Tbl:=[(307,Zyv),(308,ZAP)]
def ZEF (hN:NumOK w0 nG):PC w0 nG 294 ZED:=by
 refine Zdo Zt7 mixed (tbl:=ZEE) ⟨ZB7,ZEC hN,trivial⟩ Tryz.func294 rfl kR kR ?_;intro args σ K h
 unfold ZED at h
 split at h
 all_goals first | exact h.elim | skip
 all_goals
  obtain ⟨⟨rfl,rfl,rfl,h0,h1⟩,h⟩:=h
  rename_i e n
  obtain ⟨u0,rfl⟩:∃u:Nat,n=u:=⟨n.toNat,oM⟩
  rw [Tg] at h;have qx:u0<18446744073709551616:=oM;refine ⟨Zg [],ZV [(11,17)],ZC [],ZC [101],ZC [],0,false,sM,Tb rfl,wN ?_⟩;refine ⟨rfl,wN ?_⟩;refine ZaN ?_;refine ⟨rfl,wN ?_⟩;refine ZaN ?_;refine ZaN ?_;refine ZaN ?_;refine ZaN ?_;have G:∀k,k<0->16<=u0 / 16 ^ k:=fun k hk=>oM
  iterate 15
   refine ZGr (fun g=>?_) (fun g=>?_);rotate_left
   ·have hb:=ZFu qx G g;have B:=ZFv G g;rw [hb] at h;(conv=>whnf);exact mq169
   have B:=ZF6 qx G;have G:=ZFt G g;(conv=>whnf);refine V4 ?_;refine ⟨B.1,B.2,wN ?_⟩;refine ⟨dM,dM,wN ?_⟩;refine ⟨dM,wN ?_⟩
  refine ZGr (fun g=>?_) (fun g=>wN ?_)
  ·exact absurd (ZFt G g 15 dM) oM
  have hb:=ZFu qx G g;have B:=ZFv G g;rw [hb] at h;exact mq169
def Zb0:Zh:=fun args σ K=>match args,σ with
 | [.d (.int .u64 n),.d (.int .i64 b)],⟨[],[],0⟩=>(b=16/\0<=n/\n<18446744073709551616)/\K (.ret (.d (.str (W4 16 n.toNat)))) ⟨[],[],0⟩
 | _,_=>False
def ZkQ:Zy Zb0:=fun args σ K K' hK h=>by
 unfold Zb0 at h |-;split at h <;> first | exact ⟨h.1,hK _ _ h.2⟩ | exact h.elim
def ZEG:Tbl:=[(294,ZED)]
def ZEH (hN:NumOK w0 nG):PC w0 nG 278 Zb0:=by
 refine pwt (tbl:=ZEG) ⟨ZEF hN,trivial⟩ Tryz.func278 fun args σ K h=>?_
 unfold Zb0 at h
 split at h
 ·obtain ⟨⟨rfl,h0,h1⟩,h⟩:=h;refine pwv [] 0 false ?_;refine ⟨⟨rfl,rfl,rfl,h0,h1⟩,wN ?_⟩;exact h
 exact h.elim
def Zyz:Tbl:=[(278,Zb0)]
def ZqZ (hN:NumOK w0 nG):PC w0 nG 254 Zb0:=by
 refine pwt (tbl:=Zyz) ⟨ZEH hN,trivial⟩ Tryz.func254 fun args σ K h=>?_
 unfold Zb0 at h
 split at h
 ·rename_i n b
  obtain ⟨⟨rfl,h0,h1⟩,h⟩:=h;refine pwv [] 0 false ?_;refine ⟨⟨rfl,h0,h1⟩,?_⟩;generalize W4 16 n.toNat=T at h |-;exact mq35
 exact h.elim
def Zmz {n:Int} (h:n<0) (h0:-9223372036854775808<=n):0<=IntKind.u64.wrap n/\IntKind.u64.wrap n<18446744073709551616/\ZfR n=[48,120]++W4 16 (IntKind.u64.wrap n).toNat:=by
 have e:IntKind.u64.wrap n=n+18446744073709551616:=by
  unfold IntKind.wrap
  simp [IntKind.signed,IntKind.bits];omega
 refine ⟨oM,oM,?_⟩;rw [ZfR,Ti h,e]
end Go.PM.Lex
end

section
namespace Go.PM.Lex
def ZFw (n:Int):Bool:=decide (-9223372036854775808<=n) && decide (n<9223372036854775808)
mutual
def Zq0:Ex->Bool
 | .mk _ _ n l _=>ZFw n && ZkR l
def ZkR:List Ex->Bool
 | []=>true
 | x::l=>Zq0 x && ZkR l
end
def Zcx (l:List Ex):ZkR l=l.all Zq0:=by induction l with | nil=>rfl | cons x l ih=>simp [ZkR,ih]
def ZdY {op:Nat} {t:Bs} {n:Int} {l:List Ex} {a:Nat} (h:Zq0 (.mk op t n l a)=true):(-9223372036854775808<=n/\n<9223372036854775808)/\∀x∈l,Zq0 x=true:=by
 simp only [Zq0,Zcx,ZFw,Tl,TH] at h;exact ⟨h.1,Tn.1 h.2⟩
mutual
def Zv5:Li->Bool
 | .mk _ _ args body _=>ZkR args && Zol body
def Zol:List Li->Bool
 | []=>true
 | x::l=>Zv5 x && Zol l
end
def Zhh (l:List Li):Zol l=l.all Zv5:=by induction l with | nil=>rfl | cons x l ih=>simp [Zol,ih]
def Zq1 {op:Nat} {rel:Bs} {args:List Ex} {body:List Li} {a:Nat} (h:Zv5 (.mk op rel args body a)=true):(∀x∈args,Zq0 x=true)/\∀x∈body,Zv5 x=true:=by
 simp only [Zv5,Zcx,Zhh,Tl] at h;exact ⟨Tn.1 h.1,Tn.1 h.2⟩
def Zq2 (r:Ru):Bool:=r.args.all Zq0 && r.body.all Zv5
mutual
def Zv6:Un->Bool
 | .mk _ _ rules comps _ _=>rules.all Zq2 && ZfS comps
def Zq3:Co->Bool
 | .mk _ _ _ _ u _=>Zv6 u
def ZfS:List Co->Bool
 | []=>true
 | c::l=>Zq3 c && ZfS l
end
def Zq4 (l:List Co):ZfS l=l.all Zq3:=by induction l with | nil=>rfl | cons x l ih=>simp [ZfS,ih]
open Go.Proofs
variable {w0:World} {nG:Nat}
def ZkS (e:Ex):Bool:=Yf e && Zq0 e
def ZyA {op:Nat} {t:Bs} {n:Int} {l:List Ex} {a:Nat} (h:ZkS (.mk op t n l a)=true):-2<VL op/\(VL op<0\/(l.length:Int)=VL op)/\VM op t=true/\(-9223372036854775808<=n/\n<9223372036854775808)/\l.all ZkS=true:=by
 simp only [ZkS,Tl] at h;obtain ⟨h1,h2⟩:=h;obtain ⟨r1,r2⟩:=ZdY h2;simp only [Yf,Zw,Tl,Sk,TH] at h1;obtain ⟨h1,h3,h4,h5,h6⟩:=h1;refine ⟨h1,h3,h5,r1,?_⟩;rw [Tn] at h6 |-;exact fun x hx=>by rw [ZkS,h6 x hx,r2 x hx];rfl
def Zuf {op:Nat} (h:-2<VL op):op<26:=by
 by_cases hc:op<26
 ·exact hc
 unfold VL at h
 (repeat rw [Te oM] at h)
 omega
def ZyB {op:Nat} (h:-2<VL op):(ZT op<5->VL op=2)/\(ZT op=5->VL op=1)/\ZT op<=6/\(op=5->VL op=0):=by
 have hk:∀o:Fin 26,-2<VL o.val->(ZT o.val<5->VL o.val=2)/\(ZT o.val=5->VL o.val=1)/\ZT o.val<=6/\(o.val=5->VL o.val=0):=dM;exact hk ⟨op,Zuf h⟩ h
def Zug (n:Nat):Zh:=ZjP (.tuple []) fun rest txt=>∃pl e want,rest=[VG ZD pl e,.d (.int .i64 want)]/\(ZkS e=true/\wE e<=n/\n<=1073741824/\0<=want/\want<=6)/\txt=exW want.toNat e
def Zq5 (n:Nat):Zy (Zug n):=Zat _ _
def Zuh (n:Nat):Zh:=ZjP (.tuple []) fun rest txt=>∃fr fin pl xs,rest=[.d (.str fr),.d (.sl (Ze pl xs)),.d (.str fin)]/\(xs.all ZkS=true/\szS wE xs<=n/\n<=1073741824)/\txt=XW fr fin xs
def Zq6 (n:Nat):Zy (Zuh n):=Zat _ _
def W5 (e:Ex):exW 0 e=exT e:=by rw [exW,Zt1,Te sM]
def ZCa {n:Nat}:OKw w0 nG [(229,Zug n)] 228 (Zoi (VG ZD) ZkS exT wE n):=by
 refine pwo Tryz.func228 fun args σ K h=>?_
 unfold Zoi at h
 split at h
 ·obtain ⟨l,pl,⟨op,tx,nn,xs,at'⟩,rfl,rfl,⟨rfl,rfl⟩,⟨ca,hz,hn⟩,hlen,h⟩:=h;refine pwv [] 2 true ?_;refine ⟨l,exT (.mk op tx nn xs at'),rfl,⟨.inr rfl,rfl,rfl⟩,⟨pl,.mk op tx nn xs at',0,rfl,⟨ca,hz,hn,oM,oM⟩,(W5 _).symm⟩,hlen,wN ?_⟩;exact h
 exact h.elim
def ZEJ {n:Nat}:OKw w0 nG [(122,ZeY),(227,Zyp 228 ZD ZkS exT wE n)] 180 (Zuh n):=by
 refine pwo Tryz.func180 fun args σ K h=>?_
 unfold Zuh ZjP at h
 split at h
 ·rename_i rest t p e rows
  obtain ⟨l,txt,rfl,⟨hp,rfl,rfl⟩,⟨fr,fin,pl,xs,rfl,⟨ca,hz,hn⟩,rfl⟩,hlen,h⟩:=h;have key:l++XW fr fin xs=l++fr++Zj cmm (xs.map exT)++fin:=by simp only [XW,ZBy,Tp]
  rw [key] at h;have hlen:l.length+(fr.length+((Zj cmm (xs.map exT)).length+fin.length))<70368744177664:=by have:=hlen;simp only [XW,ZBy,Tc] at this;exact this
  refine pwu [] 1 true ?_;rcases hp with rfl | rfl
  all_goals
   conv=>whnf
   refine wk _ fr ⟨[fr],rfl,sM,sM,sM⟩ ?_;(conv=>whnf);refine ⟨l++fr,pl,xs,rfl,Zc pl xs,⟨rfl,rfl,rfl⟩,⟨ca,hz,hn⟩,by rw [Tc];show _+(Zj cmm (xs.map exT)).length<_;omega,wN ?_⟩;refine wk (l++fr++Zj cmm (xs.map exT)) fin ⟨[fin],rfl,sM,sM,sM⟩ (wN ?_);exact h
 exact h.elim
def ZCb:List PV->St->(St->Prop)->Prop:=fun args σ K=>args.length<=Tryz.f122.ntmps/\W (ZoY VE ZqU (Zg []) (ZV [(1,3)]) (fun _=>false)) (Y8 Tryz.f122) (ZBi VE Tryz.f122 σ.bx.length K) (Zck 0 args) σ
def ZF7:PDef (GG w0 nG) 122 ZCb (fun _ _ _ _=>False) :=
 ZnW Zr mixed Tryz.func122 rfl kR kR fun args σ K h=>⟨_,σ.bx.length,CxG.of Zr Zi6 ⟨Zoj,trivial⟩ _ _ _,Tt _,h.1,h.2⟩
def ZCc (n:Nat):Tbl:=[(218,ZAO),(122,ZeY),(229,spB Zug n),(180,spB Zuh n),(255,Zi7),(254,Zb0),(219,JL)]
def ZCd {n:Nat} (ht:TO w0 nG (ZCc n)):PC w0 nG 229 (Zug n):=by
 refine Zcu Zr mixed Tryz.func229 rfl kR kR ZF7 ?_;intro args σ K h
 unfold Zug ZjP at h
 split at h
 ·rename_i rest t p e rows
  obtain ⟨l,txt,rfl,⟨hp,rfl,rfl⟩,⟨pl,⟨op,tx,nn,xs,at'⟩,want,rfl,⟨ca,hz,hn,hw0,hw6⟩,rfl⟩,hlen,h⟩:=h;obtain ⟨m1,m2,m3,m4,m5⟩:=ZyA ca;obtain ⟨k1,k2,k3,k5⟩:=ZyB m1;have dr:szS wE xs+tx.length+1<=n:=by rw [wE,ZqP] at hz;omega
  rw [Tn] at m5;refine ⟨ZoY VE (ZCc n) (Zg []) (ZV []) (ZC []),1,true,CxG.of Zr ht ⟨ZqR,Zok,Zmq Zq5 _,Zmq Zq6 _,ZkP,ZkQ,Zi4,trivial⟩ _ _ _,sM,Tb rfl,?_⟩;rcases hp with rfl | rfl
  all_goals
   conv=>whnf
   refine ⟨op,rfl,fun l1 w1 a1 e1 e2 e3=>?_⟩;subst e1;(conv=>whnf);refine ZGr (fun aa=>wN ?_) (fun aa=>wN ?_)
   ·have hW:exW want.toNat (.mk op tx nn xs at')=[40]++(exT (.mk op tx nn xs at')++[41]):=by rw [exW,Zt1,Ti (by show ZT op<_;omega)]
    rw [hW] at h hlen;have af3:l.length+1<70368744177664:=by simp only [Tc,Tf,Tj] at hlen;omega
    refine wk _ [40] ⟨[[40]],rfl,sM,sM,sM⟩ ?_;(conv=>whnf);refine ZGr (fun c1=>?_) (fun c1=>wN ?_)
    ·have c1:ZT op<5:=by omega
     have dg:xs.length=2:=by have:=k1 c1;omega
     obtain ⟨x0,x1,rfl⟩:∃x0 x1,xs=[x0,x1]:=by match xs,dg with | [a,b],_=>exact ⟨a,b,rfl⟩
     simp only [szS] at dr;have g0:=m5 x0 sM;have g1:=m5 x1 sM;have z0:wE x0<=n - 1:=oM;have z1:wE x1<=n - 1:=oM;obtain ⟨o0,t0,n0,y0,q0⟩:=x0;obtain ⟨o1,t1,n1,y1,q1⟩:=x1;have hx:exT (.mk op tx nn [(.mk o0 t0 n0 y0 q0),(.mk o1 t1 n1 y1 q1)] at')=exW (ZT op) (.mk o0 t0 n0 y0 q0)++(([32]++(w1++[32]))++exW (ZT op+1) (.mk o1 t1 n1 y1 q1)):=by rw [exT,exN,Ti c1,e2];rfl
     rw [hx] at h hlen
     (try simp only [Tc,Tf,Tj] at hlen)
     conv=>whnf
     refine ⟨_,dM,rfl,wN ?_⟩;refine ⟨oM,wk _ (exW (ZT op) (.mk o0 t0 n0 y0 q0)) ⟨pl,(.mk o0 t0 n0 y0 q0),(ZT op:Int),rfl,⟨g0,oM,oM,oM,oM⟩,rfl⟩ ?_⟩;(conv=>whnf);refine wk _ ([32]++(w1++[32])) ⟨[[32],w1,[32]],rfl,sM,sM,sM⟩ ?_;(conv=>whnf);refine ⟨_,dM,rfl,wN ?_⟩;refine Zk ?_;refine ⟨oM,wk _ (exW (ZT op+1) (.mk o1 t1 n1 y1 q1)) ⟨pl,(.mk o1 t1 n1 y1 q1),((ZT op:Int)+1),rfl,⟨g1,oM,oM,oM,oM⟩,rfl⟩ ?_⟩;(conv=>whnf);refine ⟨Tb rfl,wN ?_⟩;refine ⟨_,dM,rfl,wN ?_⟩;refine wk _ [41] ⟨rfl,rfl⟩ ?_;(conv=>whnf);refine Zk ?_;rw [show l++([40]++(exW (ZT op) (.mk o0 t0 n0 y0 q0)++(([32]++(w1++[32]))++exW (ZT op+1) (.mk o1 t1 n1 y1 q1))++[41]))=(l++[40])++exW (ZT op) (.mk o0 t0 n0 y0 q0)++([32]++(w1++[32]))++exW (ZT op+1) (.mk o1 t1 n1 y1 q1)++[41] by first | rfl | simp only [Tp]] at h;exact h
    have c1:¬ZT op<5:=oM;refine ZGr (fun c2=>?_) (fun c2=>wN ?_)
    ·have c2:ZT op=5:=by omega
     have dg:xs.length=1:=by have:=k2 c2;omega
     obtain ⟨x0,rfl⟩:∃x0,xs=[x0]:=by match xs,dg with | [a],_=>exact ⟨a,rfl⟩
     simp only [szS] at dr;have g0:=m5 x0 sM;have z0:wE x0<=n - 1:=oM;obtain ⟨o0,t0,n0,y0,q0⟩:=x0;have hx:exT (.mk op tx nn [(.mk o0 t0 n0 y0 q0)] at')=w1++exW 5 (.mk o0 t0 n0 y0 q0):=by rw [exT,exN,Te c1,Ti c2,e2];rfl
     rw [hx] at h hlen
     (try simp only [Tc,Tf,Tj] at hlen)
     conv=>whnf
     refine wk _ w1 ⟨[w1],rfl,sM,sM,sM⟩ ?_;(conv=>whnf);refine ⟨_,dM,rfl,wN ?_⟩;refine ⟨oM,wk _ (exW 5 (.mk o0 t0 n0 y0 q0)) ⟨pl,(.mk o0 t0 n0 y0 q0),5,rfl,⟨g0,oM,oM,oM,oM⟩,rfl⟩ ?_⟩;(conv=>whnf);refine ⟨Tb rfl,wN ?_⟩;refine ⟨_,dM,rfl,wN ?_⟩;refine wk _ [41] ⟨rfl,rfl⟩ ?_;(conv=>whnf);refine Zk ?_;rw [show l++([40]++(w1++exW 5 (.mk o0 t0 n0 y0 q0)++[41]))=(l++[40])++w1++exW 5 (.mk o0 t0 n0 y0 q0)++[41] by first | rfl | simp only [Tp]] at h;exact h
    have c2:¬ZT op=5:=oM;refine ZGu (fun c3=>?_) (fun c3=>wN ?_)
    ·have c3:Vv op≠[]:=by rw [e2];exact c3
     have hx:exT (.mk op tx nn xs at')=w1++XW [40] [41] xs:=by rw [exT,exN,Te c1,Te c2,Ti c3,e2,UJ];rfl
     rw [hx] at h hlen
     (try simp only [Tc,Tf,Tj] at hlen)
     conv=>whnf
     refine wk _ w1 ⟨[w1],rfl,sM,sM,sM⟩ ?_;(conv=>whnf);refine ⟨oM,wk _ (XW [40] [41] xs) ⟨[40],[41],pl,xs,rfl,⟨Tn.2 m5,oM,oM⟩,rfl⟩ ?_⟩;(conv=>whnf);refine ⟨Tb rfl,wN ?_⟩;refine ⟨_,dM,rfl,wN ?_⟩;refine wk _ [41] ⟨rfl,rfl⟩ ?_;(conv=>whnf);refine Zk ?_;rw [show l++([40]++(w1++XW [40] [41] xs++[41]))=(l++[40])++w1++XW [40] [41] xs++[41] by first | rfl | simp only [Tp]] at h;exact h
    have c3:¬Vv op≠[]:=by rw [e2];exact fun g=>g c3
    refine ZGr (fun c4=>?_) (fun c4=>wN ?_)
    ·have c4:op=6:=by omega
     have hx:exT (.mk op tx nn xs at')=XW [91] [93] xs:=by rw [exT,exN,Te c1,Te c2,Te c3,Ti c4,UJ];rfl
     rw [hx] at h hlen
     (try simp only [Tc,Tf,Tj] at hlen)
     conv=>whnf
     refine ⟨oM,wk _ (XW [91] [93] xs) ⟨[91],[93],pl,xs,rfl,⟨Tn.2 m5,oM,oM⟩,rfl⟩ ?_⟩;(conv=>whnf);refine ⟨Tb rfl,wN ?_⟩;refine ⟨_,dM,rfl,wN ?_⟩;refine wk _ [41] ⟨rfl,rfl⟩ ?_;(conv=>whnf);refine Zk ?_;rw [show l++([40]++(XW [91] [93] xs++[41]))=(l++[40])++XW [91] [93] xs++[41] by first | rfl | simp only [Tp]] at h;exact h
    have c4:¬op=6:=oM;refine ZGr (fun c5=>?_) (fun c5=>wN ?_)
    ·have c5:op=7:=by omega
     have hxl:(Ze pl xs).length=xs.length:=by rw [Zc,Td]
     by_cases jd:xs.length=0
     ·have hx:exT (.mk op tx nn xs at')=[36]++tx:=by rw [exT,exN,Te c1,Te c2,Te c3,Te c4,Ti c5,Zcw,Ti jd,TU]
      rw [hx] at h hlen
      (try simp only [Tc,Tf,Tj] at hlen)
      conv=>whnf
      refine wk _ ([36]++tx) ⟨[[36],tx],rfl,sM,sM,sM⟩ ?_;(conv=>whnf);refine ZGr (fun g=>?_) (fun g=>?_)
      case refine_1=>exact absurd (show ((Ze pl xs).length:Int)>0 from g) oM
      conv=>whnf
      refine ⟨Tb rfl,wN ?_⟩;refine ⟨_,dM,rfl,wN ?_⟩;refine wk _ [41] ⟨rfl,rfl⟩ ?_;(conv=>whnf);refine Zk ?_;rw [show l++([40]++([36]++tx++[41]))=(l++[40])++([36]++tx)++[41] by first | rfl | simp only [Tp]] at h;exact h
     have hx:exT (.mk op tx nn xs at')=([36]++tx)++XW [40] [41] xs:=by rw [exT,exN,Te c1,Te c2,Te c3,Te c4,Ti c5,Zcw,Te jd,UJ,Tp];rfl
     rw [hx] at h hlen
     (try simp only [Tc,Tf,Tj] at hlen)
     conv=>whnf
     refine wk _ ([36]++tx) ⟨[[36],tx],rfl,sM,sM,sM⟩ ?_;(conv=>whnf);refine ZGr (fun g=>?_) (fun g=>?_)
     case refine_2=>exact absurd (show ((Ze pl xs).length:Int)>0 by omega) g
     conv=>whnf
     refine ⟨oM,wk _ (XW [40] [41] xs) ⟨[40],[41],pl,xs,rfl,⟨Tn.2 m5,oM,oM⟩,rfl⟩ ?_⟩;(conv=>whnf);refine ⟨Tb rfl,wN ?_⟩;refine ⟨_,dM,rfl,wN ?_⟩;refine wk _ [41] ⟨rfl,rfl⟩ ?_;(conv=>whnf);refine Zk ?_;rw [show l++([40]++(([36]++tx)++XW [40] [41] xs++[41]))=(l++[40])++([36]++tx)++XW [40] [41] xs++[41] by first | rfl | simp only [Tp]] at h;exact h
    have c5:¬op=7:=oM;refine ZGr (fun c6=>wN ?_) (fun c6=>wN ?_)
    ·have c6':op=3:=by omega
     obtain ⟨i0,i1⟩:=m4;refine ZGr (fun gn=>wN ?_) (fun gn=>wN ?_)
     ·obtain ⟨j0,j1,j2⟩:=Zmz gn i0;obtain ⟨wn,hwn⟩:∃wn,IntKind.u64.wrap nn=wn:=⟨_,rfl⟩
      rw [hwn] at j0 j1 j2;refine Or.inr ?_;rw [hwn];have hx:exT (.mk op tx nn xs at')=ZfR nn:=by rw [exT,exN,Te c1,Te c2,Te c3,Te c4,Te c5,Ti c6']
      rw [hx] at h hlen
      (try simp only [Tc,Tf,Tj] at hlen)
      conv=>whnf
      refine ⟨⟨rfl,j0,j1⟩,?_⟩;obtain ⟨T,hT⟩:∃T,W4 16 wn.toNat=T:=⟨_,rfl⟩
      rw [hT] at j2 |-;rw [j2] at h hlen
      (try simp only [Tc,Tf,Tj] at hlen)
      conv=>whnf
      refine wk _ ([48,120]++T) ⟨[[48,120],T],rfl,sM,sM,sM⟩ ?_;(conv=>whnf);refine ⟨Tb rfl,wN ?_⟩;refine ⟨_,dM,rfl,wN ?_⟩;refine wk _ [41] ⟨rfl,rfl⟩ ?_;(conv=>whnf);refine Zk ?_;rw [show l++([40]++(([48,120]++T)++[41]))=(l++[40])++([48,120]++T)++[41] by first | rfl | simp only [Tp]] at h;exact h
     refine ZGr (fun _=>?_) (fun g=>absurd c6 g);have hx:exT (.mk op tx nn xs at')=ZfR nn:=by rw [exT,exN,Te c1,Te c2,Te c3,Te c4,Te c5,Ti c6']
     rw [hx] at h hlen
     (try simp only [Tc,Tf,Tj] at hlen)
     conv=>whnf
     refine ⟨⟨rfl,oM,i1⟩,wN ?_⟩;refine wk _ (ZfR nn) ⟨[ZfR nn],rfl,sM,sM,sM⟩ ?_;(conv=>whnf);refine ⟨Tb rfl,wN ?_⟩;refine ⟨_,dM,rfl,wN ?_⟩;refine wk _ [41] ⟨rfl,rfl⟩ ?_;(conv=>whnf);refine Zk ?_;rw [show l++([40]++(ZfR nn++[41]))=(l++[40])++ZfR nn++[41] by first | rfl | simp only [Tp]] at h;exact h
    have c6':¬op=3:=oM;refine ZGr (fun g=>absurd g c6) (fun _=>wN ?_);refine ZGr (fun c7=>?_) (fun c7=>wN ?_)
    ·have c7':op=4:=by omega
     have hq:(Jf tx).isSome=true:=by unfold VM at m3;rw [Te oM,Ti c7'] at m3;exact m3
     obtain ⟨q,hq⟩:=Sw.1 hq;have hqT:ZxW tx=q:=by rw [ZxW,hq];rfl
     have hx:exT (.mk op tx nn xs at')=q:=by rw [exT,exN,Te c1,Te c2,Te c3,Te c4,Te c5,Te c6',Ti c7',hqT]
     rw [hx] at h hlen
     (try simp only [Tc,Tf,Tj] at hlen)
     conv=>whnf
     refine ⟨oM,wN ?_⟩;refine ⟨fun g=>?_,fun q' jf=>?_⟩
     case refine_1=>exact absurd (hq.symm.trans g) sM
     obtain rfl:q=q':=by rw [hq] at jf;exact Option.some.inj jf
     conv=>whnf
     refine wk _ q ⟨[q],rfl,sM,sM,sM⟩ ?_;(conv=>whnf);refine ⟨Tb rfl,wN ?_⟩;refine ⟨_,dM,rfl,wN ?_⟩;refine wk _ [41] ⟨rfl,rfl⟩ ?_;(conv=>whnf);refine Zk ?_;rw [show l++([40]++(q++[41]))=(l++[40])++q++[41] by first | rfl | simp only [Tp]] at h;exact h
    have c7':¬op=4:=oM;refine ZGr (fun c8=>?_) (fun c8=>wN ?_)
    ·have c8':op=5:=by omega
     have hx:exT (.mk op tx nn xs at')=[110,105,108]:=by rw [exT,exN,Te c1,Te c2,Te c3,Te c4,Te c5,Te c6',Te c7',Ti c8']
     rw [hx] at h hlen
     (try simp only [Tc,Tf,Tj] at hlen)
     conv=>whnf
     refine wk _ [110,105,108] ⟨[[110,105,108]],rfl,sM,sM,sM⟩ ?_;(conv=>whnf);refine ⟨Tb rfl,wN ?_⟩;refine ⟨_,dM,rfl,wN ?_⟩;refine wk _ [41] ⟨rfl,rfl⟩ ?_;(conv=>whnf);refine Zk ?_;rw [show l++([40]++([110,105,108]++[41]))=(l++[40])++[110,105,108]++[41] by first | rfl | simp only [Tp]] at h;exact h
    have c8':¬op=5:=oM;refine ZGr (fun c9=>?_) (fun c9=>?_)
    ·have c9':op=2:=by omega
     have hx:exT (.mk op tx nn xs at')=[95]:=by rw [exT,exN,Te c1,Te c2,Te c3,Te c4,Te c5,Te c6',Te c7',Te c8',Ti c9']
     rw [hx] at h hlen
     (try simp only [Tc,Tf,Tj] at hlen)
     conv=>whnf
     refine wk _ [95] ⟨[[95]],rfl,sM,sM,sM⟩ ?_;(conv=>whnf);refine ⟨Tb rfl,wN ?_⟩;refine ⟨_,dM,rfl,wN ?_⟩;refine wk _ [41] ⟨rfl,rfl⟩ ?_;(conv=>whnf);refine Zk ?_;rw [show l++([40]++([95]++[41]))=(l++[40])++[95]++[41] by first | rfl | simp only [Tp]] at h;exact h
    have c9':¬op=2:=oM;have hx:exT (.mk op tx nn xs at')=tx:=by rw [exT,exN,Te c1,Te c2,Te c3,Te c4,Te c5,Te c6',Te c7',Te c8',Te c9']
    rw [hx] at h hlen
    (try simp only [Tc,Tf,Tj] at hlen)
    conv=>whnf
    refine wk _ tx ⟨[tx],rfl,sM,sM,sM⟩ ?_;(conv=>whnf);refine ⟨Tb rfl,wN ?_⟩;refine ⟨_,dM,rfl,wN ?_⟩;refine wk _ [41] ⟨rfl,rfl⟩ ?_;(conv=>whnf);refine Zk ?_;rw [show l++([40]++(tx++[41]))=(l++[40])++tx++[41] by first | rfl | simp only [Tp]] at h;exact h
   have hW:exW want.toNat (.mk op tx nn xs at')=exT (.mk op tx nn xs at'):=by rw [exW,Zt1,Te (by show ¬ZT op<_;omega)]
   rw [hW] at h hlen;refine ZGr (fun c1=>?_) (fun c1=>wN ?_)
   ·have c1:ZT op<5:=by omega
    have dg:xs.length=2:=by have:=k1 c1;omega
    obtain ⟨x0,x1,rfl⟩:∃x0 x1,xs=[x0,x1]:=by match xs,dg with | [a,b],_=>exact ⟨a,b,rfl⟩
    simp only [szS] at dr;have g0:=m5 x0 sM;have g1:=m5 x1 sM;have z0:wE x0<=n - 1:=oM;have z1:wE x1<=n - 1:=oM;obtain ⟨o0,t0,n0,y0,q0⟩:=x0;obtain ⟨o1,t1,n1,y1,q1⟩:=x1;have hx:exT (.mk op tx nn [(.mk o0 t0 n0 y0 q0),(.mk o1 t1 n1 y1 q1)] at')=exW (ZT op) (.mk o0 t0 n0 y0 q0)++(([32]++(w1++[32]))++exW (ZT op+1) (.mk o1 t1 n1 y1 q1)):=by rw [exT,exN,Ti c1,e2];rfl
    rw [hx] at h hlen
    (try simp only [Tc,Tf,Tj] at hlen)
    conv=>whnf
    refine ⟨_,dM,rfl,wN ?_⟩;refine ⟨oM,wk _ (exW (ZT op) (.mk o0 t0 n0 y0 q0)) ⟨pl,(.mk o0 t0 n0 y0 q0),(ZT op:Int),rfl,⟨g0,oM,oM,oM,oM⟩,rfl⟩ ?_⟩;(conv=>whnf);refine wk _ ([32]++(w1++[32])) ⟨[[32],w1,[32]],rfl,sM,sM,sM⟩ ?_;(conv=>whnf);refine ⟨_,dM,rfl,wN ?_⟩;refine Zk ?_;refine ⟨oM,wk _ (exW (ZT op+1) (.mk o1 t1 n1 y1 q1)) ⟨pl,(.mk o1 t1 n1 y1 q1),((ZT op:Int)+1),rfl,⟨g1,oM,oM,oM,oM⟩,rfl⟩ ?_⟩;rw [show l++(exW (ZT op) (.mk o0 t0 n0 y0 q0)++(([32]++(w1++[32]))++exW (ZT op+1) (.mk o1 t1 n1 y1 q1)))=l++exW (ZT op) (.mk o0 t0 n0 y0 q0)++([32]++(w1++[32]))++exW (ZT op+1) (.mk o1 t1 n1 y1 q1) by first | rfl | simp only [Tp]] at h;exact mq35
   have c1:¬ZT op<5:=oM;refine ZGr (fun c2=>?_) (fun c2=>wN ?_)
   ·have c2:ZT op=5:=by omega
    have dg:xs.length=1:=by have:=k2 c2;omega
    obtain ⟨x0,rfl⟩:∃x0,xs=[x0]:=by match xs,dg with | [a],_=>exact ⟨a,rfl⟩
    simp only [szS] at dr;have g0:=m5 x0 sM;have z0:wE x0<=n - 1:=oM;obtain ⟨o0,t0,n0,y0,q0⟩:=x0;have hx:exT (.mk op tx nn [(.mk o0 t0 n0 y0 q0)] at')=w1++exW 5 (.mk o0 t0 n0 y0 q0):=by rw [exT,exN,Te c1,Ti c2,e2];rfl
    rw [hx] at h hlen
    (try simp only [Tc,Tf,Tj] at hlen)
    conv=>whnf
    refine wk _ w1 ⟨[w1],rfl,sM,sM,sM⟩ ?_;(conv=>whnf);refine ⟨_,dM,rfl,wN ?_⟩;refine ⟨oM,wk _ (exW 5 (.mk o0 t0 n0 y0 q0)) ⟨pl,(.mk o0 t0 n0 y0 q0),5,rfl,⟨g0,oM,oM,oM,oM⟩,rfl⟩ ?_⟩;rw [show l++(w1++exW 5 (.mk o0 t0 n0 y0 q0))=l++w1++exW 5 (.mk o0 t0 n0 y0 q0) by first | rfl | simp only [Tp]] at h;exact mq35
   have c2:¬ZT op=5:=oM;refine ZGu (fun c3=>?_) (fun c3=>wN ?_)
   ·have c3:Vv op≠[]:=by rw [e2];exact c3
    have hx:exT (.mk op tx nn xs at')=w1++XW [40] [41] xs:=by rw [exT,exN,Te c1,Te c2,Ti c3,e2,UJ];rfl
    rw [hx] at h hlen
    (try simp only [Tc,Tf,Tj] at hlen)
    conv=>whnf
    refine wk _ w1 ⟨[w1],rfl,sM,sM,sM⟩ ?_;(conv=>whnf);refine ⟨oM,wk _ (XW [40] [41] xs) ⟨[40],[41],pl,xs,rfl,⟨Tn.2 m5,oM,oM⟩,rfl⟩ ?_⟩;rw [show l++(w1++XW [40] [41] xs)=l++w1++XW [40] [41] xs by first | rfl | simp only [Tp]] at h;exact mq35
   have c3:¬Vv op≠[]:=by rw [e2];exact fun g=>g c3
   refine ZGr (fun c4=>?_) (fun c4=>wN ?_)
   ·have c4:op=6:=by omega
    have hx:exT (.mk op tx nn xs at')=XW [91] [93] xs:=by rw [exT,exN,Te c1,Te c2,Te c3,Ti c4,UJ];rfl
    rw [hx] at h hlen
    (try simp only [Tc,Tf,Tj] at hlen)
    conv=>whnf
    refine ⟨oM,wk _ (XW [91] [93] xs) ⟨[91],[93],pl,xs,rfl,⟨Tn.2 m5,oM,oM⟩,rfl⟩ ?_⟩;rw [show l++(XW [91] [93] xs)=l++XW [91] [93] xs by first | rfl | simp only [Tp]] at h;exact mq35
   have c4:¬op=6:=oM;refine ZGr (fun c5=>?_) (fun c5=>wN ?_)
   ·have c5:op=7:=by omega
    have hxl:(Ze pl xs).length=xs.length:=by rw [Zc,Td]
    by_cases jd:xs.length=0
    ·have hx:exT (.mk op tx nn xs at')=[36]++tx:=by rw [exT,exN,Te c1,Te c2,Te c3,Te c4,Ti c5,Zcw,Ti jd,TU]
     rw [hx] at h hlen
     (try simp only [Tc,Tf,Tj] at hlen)
     conv=>whnf
     refine wk _ ([36]++tx) ⟨[[36],tx],rfl,sM,sM,sM⟩ ?_;(conv=>whnf);refine ZGr (fun g=>?_) (fun g=>?_)
     case refine_1=>exact absurd (show ((Ze pl xs).length:Int)>0 from g) oM
     rw [show l++([36]++tx)=l++([36]++tx) by first | rfl | simp only [Tp]] at h;exact mq35
    have hx:exT (.mk op tx nn xs at')=([36]++tx)++XW [40] [41] xs:=by rw [exT,exN,Te c1,Te c2,Te c3,Te c4,Ti c5,Zcw,Te jd,UJ,Tp];rfl
    rw [hx] at h hlen
    (try simp only [Tc,Tf,Tj] at hlen)
    conv=>whnf
    refine wk _ ([36]++tx) ⟨[[36],tx],rfl,sM,sM,sM⟩ ?_;(conv=>whnf);refine ZGr (fun g=>?_) (fun g=>?_)
    case refine_2=>exact absurd (show ((Ze pl xs).length:Int)>0 by omega) g
    conv=>whnf
    refine ⟨oM,wk _ (XW [40] [41] xs) ⟨[40],[41],pl,xs,rfl,⟨Tn.2 m5,oM,oM⟩,rfl⟩ ?_⟩;rw [show l++(([36]++tx)++XW [40] [41] xs)=l++([36]++tx)++XW [40] [41] xs by first | rfl | simp only [Tp]] at h;exact mq35
   have c5:¬op=7:=oM;refine ZGr (fun c6=>wN ?_) (fun c6=>wN ?_)
   ·have c6':op=3:=by omega
    obtain ⟨i0,i1⟩:=m4;refine ZGr (fun gn=>wN ?_) (fun gn=>wN ?_)
    ·obtain ⟨j0,j1,j2⟩:=Zmz gn i0;obtain ⟨wn,hwn⟩:∃wn,IntKind.u64.wrap nn=wn:=⟨_,rfl⟩
     rw [hwn] at j0 j1 j2;refine Or.inr ?_;rw [hwn];have hx:exT (.mk op tx nn xs at')=ZfR nn:=by rw [exT,exN,Te c1,Te c2,Te c3,Te c4,Te c5,Ti c6']
     rw [hx] at h hlen
     (try simp only [Tc,Tf,Tj] at hlen)
     conv=>whnf
     refine ⟨⟨rfl,j0,j1⟩,?_⟩;obtain ⟨T,hT⟩:∃T,W4 16 wn.toNat=T:=⟨_,rfl⟩
     rw [hT] at j2 |-;rw [j2] at h hlen
     (try simp only [Tc,Tf,Tj] at hlen)
     conv=>whnf
     refine wk _ ([48,120]++T) ⟨[[48,120],T],rfl,sM,sM,sM⟩ ?_;rw [show l++(([48,120]++T))=l++([48,120]++T) by first | rfl | simp only [Tp]] at h;exact mq35
    refine ZGr (fun _=>?_) (fun g=>absurd c6 g);have hx:exT (.mk op tx nn xs at')=ZfR nn:=by rw [exT,exN,Te c1,Te c2,Te c3,Te c4,Te c5,Ti c6']
    rw [hx] at h hlen
    (try simp only [Tc,Tf,Tj] at hlen)
    conv=>whnf
    refine ⟨⟨rfl,oM,i1⟩,wN ?_⟩;refine wk _ (ZfR nn) ⟨[ZfR nn],rfl,sM,sM,sM⟩ ?_;rw [show l++(ZfR nn)=l++ZfR nn by first | rfl | simp only [Tp]] at h;exact mq35
   have c6':¬op=3:=oM;refine ZGr (fun g=>absurd g c6) (fun _=>wN ?_);refine ZGr (fun c7=>?_) (fun c7=>wN ?_)
   ·have c7':op=4:=by omega
    have hq:(Jf tx).isSome=true:=by unfold VM at m3;rw [Te oM,Ti c7'] at m3;exact m3
    obtain ⟨q,hq⟩:=Sw.1 hq;have hqT:ZxW tx=q:=by rw [ZxW,hq];rfl
    have hx:exT (.mk op tx nn xs at')=q:=by rw [exT,exN,Te c1,Te c2,Te c3,Te c4,Te c5,Te c6',Ti c7',hqT]
    rw [hx] at h hlen
    (try simp only [Tc,Tf,Tj] at hlen)
    conv=>whnf
    refine ⟨oM,wN ?_⟩;refine ⟨fun g=>?_,fun q' jf=>?_⟩
    case refine_1=>exact absurd (hq.symm.trans g) sM
    obtain rfl:q=q':=by rw [hq] at jf;exact Option.some.inj jf
    conv=>whnf
    refine wk _ q ⟨[q],rfl,sM,sM,sM⟩ ?_;rw [show l++(q)=l++q by first | rfl | simp only [Tp]] at h;exact mq35
   have c7':¬op=4:=oM;refine ZGr (fun c8=>?_) (fun c8=>wN ?_)
   ·have c8':op=5:=by omega
    have hx:exT (.mk op tx nn xs at')=[110,105,108]:=by rw [exT,exN,Te c1,Te c2,Te c3,Te c4,Te c5,Te c6',Te c7',Ti c8']
    rw [hx] at h hlen
    (try simp only [Tc,Tf,Tj] at hlen)
    conv=>whnf
    refine wk _ [110,105,108] ⟨[[110,105,108]],rfl,sM,sM,sM⟩ ?_;rw [show l++([110,105,108])=l++[110,105,108] by first | rfl | simp only [Tp]] at h;exact mq35
   have c8':¬op=5:=oM;refine ZGr (fun c9=>?_) (fun c9=>?_)
   ·have c9':op=2:=by omega
    have hx:exT (.mk op tx nn xs at')=[95]:=by rw [exT,exN,Te c1,Te c2,Te c3,Te c4,Te c5,Te c6',Te c7',Te c8',Ti c9']
    rw [hx] at h hlen
    (try simp only [Tc,Tf,Tj] at hlen)
    conv=>whnf
    refine wk _ [95] ⟨[[95]],rfl,sM,sM,sM⟩ ?_;rw [show l++([95])=l++[95] by first | rfl | simp only [Tp]] at h;exact mq35
   have c9':¬op=2:=oM;have hx:exT (.mk op tx nn xs at')=tx:=by rw [exT,exN,Te c1,Te c2,Te c3,Te c4,Te c5,Te c6',Te c7',Te c8',Te c9']
   rw [hx] at h hlen
   (try simp only [Tc,Tf,Tj] at hlen)
   conv=>whnf
   refine wk _ tx ⟨[tx],rfl,sM,sM,sM⟩ ?_;rw [show l++(tx)=l++tx by first | rfl | simp only [Tp]] at h;exact mq35
 exact h.elim
end Go.PM.Lex
end

section
namespace Go.PM.Lex
open Go.Proofs Go.Shelf Go.RowKit
variable {w0:World} {nG:Nat}
def Zom (w:World) (g n:Nat) {cs:Array Value} {ty:TypeId} {fz:Nat×Nat} (h:w.heap[g]?=some (.cells cs ty fz)) (h1:fz.1<=fz.2) (h2:∀o,n<=o->fz.1<=o->fz.2<=o) :
  ∃fz',(w.drew.freeze ⟨g,0,none⟩ n).heap[g]?=some (.cells cs ty fz')/\fz'.1<=fz'.2/\∀o,n<=o->fz'.1<=o->fz'.2<=o:=by
 have h':w.drew.heap[g]?=some (.cells cs ty fz):=h;obtain ⟨lo,hi⟩:=fz;unfold World.freeze
 split
 ·exact ⟨_,h',h1,h2⟩
 simp only [Array.getElem?_modify,if_true,h',TX];refine ⟨_,rfl,?_,?_⟩
 ·split
  ·exact T6 _
  simp only at h1 |-;omega
 intro o ho ac
 split
 ·simp only;omega
 rename_i ai
 have ai:lo≠hi:=by simpa using ai
 simp only at h1 |-;have k:=h2 (max lo n) oM (by simp only;omega);simp only at k;omega
def _root_.Go.PM.Owned.grow {G:GE} {e:Env} {w w':World} {t el:Nat} {rows:List (List D)} {v:Value} (h:Owned G e w t el rows v) (g:Grows w w'):Owned G e w' t el rows v:=by
 rcases h with h | ⟨sz,a1,a2,a3,b,off,cap,cs,ty,fz,a4,a5,a6,a7,a8,a9,a10⟩
 ·exact .inl h
 exact .inr ⟨sz,a1,a2,a3,b,off,cap,cs,ty,fz,a4,a5,a6,(g.old _ (Tv.1 a7).1).trans a7,a8,a9,a10⟩
def _root_.Go.PM.Owned.refreeze {G:GE} {e:Env} {w w':World} {t:Nat} {rows:List (List D)} {v:Value} {g n:Nat} {cs:Array Value} {ty:TypeId} {fz fz':Nat×Nat} (h:Owned G e w t 5 rows v) (hM:e.M t=some (g,n))
  (h':w'.heap[g]?=some (.cells cs ty fz')) (h0:w.heap[g]?=some (.cells cs ty fz)) (h1:fz'.1<=fz'.2) (h2:∀o,n<=o->fz'.1<=o->fz'.2<=o):Owned G e w' t 5 rows v:=by
 rcases h with ⟨_,_,h⟩ | ⟨sz,a1,a2,a3,b,off,cap,cs2,ty2,fz2,a4,a5,a6,a7,a8,a9,a10⟩
 ·rw [hM] at h;cases h
 rw [hM] at a10;simp only [Option.some.injEq,Prod.mk.injEq] at a10;obtain ⟨rfl,rfl⟩:=a10;rw [h0] at a7
 cases a7
 exact .inr ⟨sz,a1,a2,a3,g,off,cap,cs,ty,fz',a4,a5,a6,h',a8,⟨h1,h2⟩,hM⟩
def ZyC {G:GE} {e:Env} {w w':World} {t:TypeId} {p:PV} {rows:List (List D)} (hp:p=.d .nilp\/p=.ptr 0 0) (hS:SRel G e ⟨[.cells t [p,.sl 0 5 rows]],[0],1⟩ w)
  (hsz:w.heap.size<=w'.heap.size) (o6:w'.os=w.os) (htp:w'.tape=w.tape) (jr:w'.output=w.output)
  (az:∀b off u,w.cell? ⟨b,off,none⟩=some u->w'.cell? ⟨b,off,none⟩=some u)
  (gl:∀b,b<w.heap.size->(∀q,e.M 0=some q->q.1≠b)->w'.heap[b]?=w.heap[b]?)
  (jt:∀v,Owned G e w 0 5 rows v->Owned G e w' 0 5 rows v) (aea:∀q,e.M 0=some q->∃cs ty fz,w'.heap[q.1]?=some (.cells cs ty fz)) :
  SRel G e ⟨[.cells t [p,.sl 0 5 rows]],[0],1⟩ w'/\Later e ⟨[.cells t [p,.sl 0 5 rows]],[0],1⟩ w e ⟨[.cells t [p,.sl 0 5 rows]],[0],1⟩ w':=by
 have hL:Later e ⟨[.cells t [p,.sl 0 5 rows]],[0],1⟩ w e ⟨[.cells t [p,.sl 0 5 rows]],[0],1⟩ w':={
  len:=Tt _
  beta:=fun _ _=>rfl
  X:=fun _ _ h=>h
  pres:=fun b off u hu ho=>⟨ho,az b off u hu⟩
  fhid:=fun b h=>.inr (.inr h)
  blocks:=fun b hb h1 h2 _=>gl b hb fun q hq=>h2 0 sM q hq
  size:=hsz
  os:=o6
  tape:=htp
  output:=jr
  fresh:=fun i h1 h2=>by simp at h1 h2;omega
  ftok:=fun x hx q hq=>.inr (.inl ⟨x,hx,q,hq,rfl⟩) }
 have aa:=hS.lt (i:=0) sM;have po:w'.heap[e.β 0]?=w.heap[e.β 0]?:=gl _ aa fun q hq=>fun h=>(hS.own 0 sM q hq).2.1 0 sM h.symm
 refine ⟨?_,hL⟩;exact {
  inj:=hS.inj
  box:=fun i x hx=>by
   match i,hx with
   | 0,hx =>
    cases hx
    obtain ⟨cv,h1,h2,h3⟩:=hS.box 0 _ rfl;refine ⟨cv,po.trans h1,h2,fun j y u hy hu=>?_⟩
    match j,hy with
    | 0,hy =>
     exact mq87
    | 1,hy =>
     cases hy
     obtain ⟨q1,q2⟩:=h3 1 (.sl 0 5 rows) u rfl hu;refine ⟨?_,q2⟩
     cases q1 with
     | sl _ _ _ _ hn hd ht=>exact .sl _ _ _ _ hn (hd.later hL) (fun h=>jt _ (ht h))
    | j+2,hy=>simp at hy
   | i+1,hx=>simp at hx
  low:=hS.low
  tkn:=hS.tkn
  own:=fun x hx q hq=>by
   obtain ⟨a,b,_⟩:=hS.own x hx q hq;obtain rfl:x=0:=by simpa using hx
   exact ⟨a,b,aea q hq⟩
  dis:=hS.dis
  xlt:=fun b off hx=>TC (hS.xlt b off hx) hsz
  xown:=hS.xown
  hid:=fun b q hq=>let ⟨k1,k2,k3,k4,k5⟩:=hS.hid b q hq;⟨k1,TC k2 hsz,k3,k4,k5⟩
  glob:=fun b hb=>by
   rw [gl b (TC hb hS.big) fun q hq=>fun h=>by have:=(hS.own 0 sM q hq).1;omega];exact hS.glob b hb
  big:=TP hS.big hsz }
def Zaw:Zh:=fun args σ K=>match args,σ with
 | [.ptr 0 0],⟨[.cells t [p,.sl 0 e rows]],[0],1⟩=>∃l:Bs,(rows=Zm l/\t=143/\e=5/\(p=.d .nilp\/p=.ptr 0 0)/\l.length<70368744177664)/\K (.ret (.d (.str l))) ⟨[.cells t [p,.sl 0 e rows]],[0],1⟩
 | _,_=>False
def ZfT:PC w0 nG 70 Zaw:=Vn (Zf Tryz.func70 kR rfl) fun args σ K h e w vs hS ha=>by
 unfold Zaw at h
 split at h
 ·rename_i t p el rows
  obtain ⟨l,⟨rfl,rfl,rfl,hp,dm⟩,hK⟩:=h;obtain ⟨u,rfl,hu⟩:=ZgR ha;obtain ⟨cv,dv,bw,d0⟩:=hS.box 0 _ rfl;have et:cv.size=2:=bw;obtain ⟨v0,v1,rfl⟩:∃v0 v1,cv=#[v0,v1]:=by
   obtain ⟨lst⟩:=cv
   match lst,et with
   | [a,b],_=>exact ⟨a,b,rfl⟩
  have cq:=(d0 1 (.sl 0 5 (Zm l)) v1 rfl rfl).1
  cases hu with
  | ptr b off hb =>
  refine ⟨_,_,.string ⟨l.toArray⟩,hK,?_⟩;have fin:∀w',w.heap.size<=w'.heap.size->w'.os=w.os->w'.tape=w.tape->w'.output=w.output ->
    (∀b off u,w.cell? ⟨b,off,none⟩=some u->w'.cell? ⟨b,off,none⟩=some u) ->
    (∀b,b<w.heap.size->(∀q,e.M 0=some q->q.1≠b)->w'.heap[b]?=w.heap[b]?)->(∀v,Owned (GG w0 nG) e w 0 5 (Zm l) v->Owned (GG w0 nG) e w' 0 5 (Zm l) v)->(∀q,e.M 0=some q->∃cs ty fz,w'.heap[q.1]?=some (.cells cs ty fz)) ->
    VRel (GG w0 nG) e ⟨[.cells 143 [p,.sl 0 5 (Zm l)]],[0],1⟩ w' (.d (.str l)) (.string ⟨l.toArray⟩)/\SRel (GG w0 nG) e ⟨[.cells 143 [p,.sl 0 5 (Zm l)]],[0],1⟩ w'/\Later e ⟨[.cells 143 [p,.sl 0 5 (Zm l)]],[0],1⟩ w e ⟨[.cells 143 [p,.sl 0 5 (Zm l)]],[0],1⟩ w':=fun w' h1 h2 h3 h4 h5 h6 h7 h8 =>
   ⟨.mkstr,ZyC hp hS h1 h2 h3 h4 h5 h6 h7 h8⟩
  have grown:∀w',Grows w w'->_:=fun w' g=>fin w' g.size g.os g.tape g.output (fun b off u hu=>(g.cell (Vf hu)).trans hu) (fun b hb _=>g.old b hb) (fun v hv=>hv.grow g) (fun q hq=>by obtain ⟨_,_,cs,ty,fz,hh⟩:=hS.own 0 sM q hq;exact ⟨cs,ty,fz,(g.old _ (Tv.1 hh).1).trans hh⟩)
  cases cq with
  | sl _ _ _ _ hn hd ht =>
  rcases ht sM with ⟨rfl,bu,hM⟩ | ⟨sz,g1,g2,g3,g,off,cap,cs,ty,fz,rfl,g4,g5,g6,⟨g7,rfl,rfl,g8⟩,g9,hM⟩
  ·have hl:l=[]:=by simpa [Zm] using bu
   subst hl;refine (Zt5 Tryz.lays169 Tryz.Builder_Extra_169 w.heap.size (e.β 0) v0 w dv).mono fun en w' ⟨h1,h2⟩=>?_
   exact ⟨h1,grown w' (ZGx h2)⟩
  have lx:sz=1:=by
   have:(Tryz.prog.info? 5).map (·.size)=some sz:=g1
   rw [ZA6] at this;cases this;rfl
  subst lx;rw [YZ] at g5 dv g9 hM hd
  by_cases hl:l=[]
  ·subst hl;refine (ZqT Tryz.lays169 Tryz.Builder_Extra_169 w.heap.size (e.β 0) g cap v0 w oM dv).mono fun en w' ⟨h1,h2⟩=>?_
   exact ⟨h1,grown w' (ZGx h2)⟩
  have az:∀j x,l[j]?=some x->w.cell? ⟨g,j,none⟩=some (.int .u8 x.toNat):=by
   exact mq26
  obtain ⟨fz',rn,hfa,hfb⟩:=Zom w g l.length g6 g9.1 (fun o ho=>g9.2 o oM);refine (Zoh Tryz.lays169 Tryz.Builder_Extra_169 (e.β 0) g cap v0 cs fz l w hl dv g6 oM oM oM az).mono fun en w' ⟨h1,h2⟩=>?_
  rw [h2];refine ⟨h1,fin _ ?_ ?_ ?_ ?_ ?_ ?_ ?_ ?_⟩
  ·unfold World.freeze;split <;> first | exact Tt _ | (simp only [Array.size_modify];exact Tt _)
  ·exact mq144
  ·exact mq144
  ·exact mq144
  ·exact mq110
  ·intro b hb hq
   exact Vp w g l.length b fun h=>hq _ hM h.symm
  ·intro v hv
   exact hv.refreeze hM rn g6 hfa (by simpa [YZ] using hfb)
  intro q hq
  rw [hM] at hq;cases hq;exact ⟨_,_,_,rn⟩
 exact h.elim
end Go.PM.Lex
end

section
namespace Go.PM.Lex
open Go.Proofs
variable {w0:World} {nG:Nat}
def ZyE {n:Nat}:OKw w0 nG [(176,Zi5),(228,Zoi (VG ZD) ZkS exT wE n)] 227 (Zyp 228 ZD ZkS exT wE n):=by
 refine pwo Tryz.func227 fun args σ K h=>?_
 unfold Zyp at h
 split at h
 ·rename_i r bt g t e rows tp
  obtain ⟨l,pl,xs,rfl,rfl,⟨rfl,rfl,rfl⟩,⟨ca,hz,hn⟩,hlen,h⟩:=h;have cf:(xs.map (ZD pl)).length=xs.length:=Td ..;have hsz:=ZE wE xs;refine pwv [(1,⟨[12],[0,1,2,3,10,11],fun vs σ=>∃i:Nat,vs=[.d (.int .i64 i)]/\σ=⟨[.cells 143 [.ptr 0 0,.sl 0 5 (Zm (l++Zj bt ((xs.take i).map exT)))],.cells tp [.ptr 0 0]],[0],1⟩/\i<=xs.length,mu1 xs.length⟩)] 2 true ?_;refine ⟨⟨0,rfl,(by simp only [Sb,TN,Zj,TU];rfl),oM⟩,?_⟩;intro vs σ hI
  obtain ⟨i,rfl,rfl,hi⟩:=hI;(conv=>whnf);refine ZGr (fun af=>wN ?_) (fun af=>?_)
  ·have af:i<xs.length:=lzI cf af;have hg:=ZQ wE xs i af;have f9:ZkS xs[i]=true:=Tn.1 ca _ (TA af);have cd:=JN bt exT af;have aw:=ZdX bt exT xs (i+1);obtain ⟨eA,hA⟩:∃x,xs[i]=x:=⟨_,rfl⟩
   obtain ⟨a1,a2,a3,a4,a5⟩:=eA;rw [hA] at hg f9 cd;have cq:(xs.map (ZD pl))[((i:Nat):Int).toNat]?=some (ZD pl (.mk a1 a2 a3 a4 a5)):=by simp [af,hA]
   refine ⟨_,oM,cq,wN ?_⟩;refine ZGr (fun h0=>wN ?_) (fun h0=>?_)
   ·have h0:0<i:=by omega
    rw [Te oM] at cd;rw [cd] at aw;simp only [Tc] at aw;refine wk _ bt ⟨rfl,rfl⟩ (wN ?_);refine ⟨l++Zj bt ((xs.take i).map exT)++bt,pl,(.mk a1 a2 a3 a4 a5),rfl,rfl,⟨rfl,rfl⟩,⟨f9,oM,oM⟩,by simp only [Tc];omega,wN ?_⟩;exact mq103
   obtain rfl:i=0:=by omega
   rw [Ti rfl] at cd;rw [cd] at aw;(conv=>whnf);refine ⟨l++Zj bt ((xs.take 0).map exT),pl,(.mk a1 a2 a3 a4 a5),rfl,rfl,⟨rfl,rfl⟩,⟨f9,oM,oM⟩,by simp only [Sb,TN,Zj,Tc,Tj];omega,wN ?_⟩;exact mq91
  exact mq180
 exact h.elim
def Zv7 {n:Nat} (h:PC w0 nG 229 (Zug n)):PC w0 nG 180 (Zuh n) :=
 ZEJ ⟨Zau,ZyE ⟨Zt6,ZCa ⟨h,trivial⟩,trivial⟩,trivial⟩
def cWE (hN:NumOK w0 nG) (hL:LexC w0 nG):∀n,PC w0 nG 229 (Zug n)
 | 0=>ZCd ⟨Zt3,Zau,Zz (Zf Tryz.func229 kR rfl),Zz (Zf Tryz.func180 kR rfl),ZqW hN,ZqZ hN,hL.quote,trivial⟩
 | n+1=>ZCd ⟨Zt3,Zau,ZA (sp:=Zug) (cWE hN hL n),ZA (sp:=Zuh) (Zv7 (cWE hN hL n)),ZqW hN,ZqZ hN,hL.quote,trivial⟩
def Zq7:Zh:=fun args σ K=>match args,σ with
 | [.ptr 0 0,.d (.int .i64 c)],⟨[.cells t [p,.sl 0 e rows]],[0],1⟩=>∃l:Bs,(rows=Zm l/\t=143/\e=5/\(p=.d .nilp\/p=.ptr 0 0)/\l.length<70368744177664) /\
   ((c=3\/c=151->K (.ret (.tuple [.d (.str []),.d (.int .i64 3)])) ⟨[.cells t [p,.sl 0 e rows]],[0],1⟩)/\(c≠3/\c≠151->K (.ret (.tuple [.d (.str l),.d (.int .i64 0)])) ⟨[.cells t [p,.sl 0 e rows]],[0],1⟩))
 | _,_=>False
def ZyF:Tbl:=[(70,Zaw)]
def ZyG:PC w0 nG 71 Zq7:=by
 refine pwt (tbl:=ZyF) ⟨ZfT,trivial⟩ Tryz.func71 fun args σ K h=>?_
 unfold Zq7 at h
 split at h
 ·rename_i c t p e rows
  obtain ⟨l,⟨rfl,rfl,rfl,hp,hlen⟩,ha,hb⟩:=h;refine pwu [] 1 true ?_;rcases hp with rfl | rfl
  all_goals
   conv=>whnf
   refine ZGr (fun c1=>wN ?_) (fun c1=>wN ?_)
   ·exact ha (.inl c1)
   refine ZGr (fun c2=>wN ?_) (fun c2=>wN ?_)
   ·exact ha (.inr c2)
   refine ⟨l,⟨rfl,rfl,rfl,iM,hlen⟩,?_⟩;(conv=>whnf);exact hb ⟨c1,c2⟩
 exact h.elim
def ZdZ (txt:Bs) {α:Type}:Top α->Bs×Nat
 | .ok _ _=>(txt,0)
 | .err _ e=>if e=3\/e=151 then ([],3) else (txt,0)
def nmT (s:Bs):T0:=⟨1,s,0⟩
def sgT (s:Bs):T0:=⟨4,s,0⟩
def Zv8 (sep:Bs):List Ts->Ts
 | []=>[]
 | x::l=>sgT sep::(x++Zv8 sep l)
def ZyH (sep:Bs):List Ts->Ts
 | []=>[]
 | x::l=>x++Zv8 sep l
def ZDG (want:Nat) (p:Nat×Ts):Ts:=if p.1<want then sgT [40]::(p.2++[sgT [41]]) else p.2
def opT (op:Nat):T0:=if 15<=op/\op<=19 then nmT (Vv op) else sgT (Vv op)
def ZFx (w1 w2:Nat) (mid:Ts):List (Nat×Ts)->Ts
 | []=>[]
 | [a]=>ZDG w1 a
 | a::b::_=>ZDG w1 a++(mid++ZDG w2 b)
def brK (fr fin:Bs) (ps:List Ts):Ts:=sgT fr::(ZyH [44] ps++[sgT fin])
def ZF8 (op:Nat) (text:Bs) (n:Int) (ps:List (Nat×Ts)):Ts :=
 if ZT op<5 then ZFx (ZT op) (ZT op+1) [opT op] ps
 else if ZT op=5 then sgT (Vv op)::ZFx 5 5 [] ps
 else if Vv op≠[] then nmT (Vv op)::brK [40] [41] (ps.map Prod.snd)
 else if op=6 then brK [91] [93] (ps.map Prod.snd)
 else if op=7 then sgT [36]::nmT text::(if ps.length=0 then [] else brK [40] [41] (ps.map Prod.snd))
 else if op=3 then [⟨2,[],n⟩]
 else if op=4 then [⟨3,text,0⟩]
 else if op=5 then [nmT [110,105,108]]
 else if op=2 then [nmT [95]]
 else [nmT text]
mutual
def exK:Ex->Ts
 | .mk op text n args _=>ZF8 op text n (ZFy args)
def ZFy:List Ex->List (Nat×Ts)
 | []=>[]
 | e::l=>(ZT (opE e),exK e)::ZFy l
end
def ZFz (want:Nat) (e:Ex):Ts:=ZDG want (ZT (opE e),exK e)
def Lim {α:Type} (x:R α):Prop:=∃p,x=.err p 3\/x=.err p 151
def Rd {α β:Type} (er:α->β) (v:α) (r:Ts) (x:R α):Prop:=(∃v',er v'=er v/\x=.ok v' r)\/Lim x
def Lim.bind {α β:Type} {x:R α} {f:α->Ts->R β} (h:Lim x):Lim (x.bind f):=by
 obtain ⟨p,rfl | rfl⟩:=h
 ·exact ⟨p,.inl rfl⟩
 exact ⟨p,.inr rfl⟩
def Rd.bind {α β γ δ:Type} {er:α->β} {er2:γ->δ} {v:α} {u:γ} {r s:Ts} {x:R α} {f:α->Ts->R γ} (h:Rd er v r x) (hf:∀v',er v'=er v->Rd er2 u s (f v' r)):Rd er2 u s (x.bind f):=by
 rcases h with ⟨v',e,rfl⟩ | h
 ·exact hf v' e
 exact .inr h.bind
def Rd.ok {α β:Type} {er:α->β} {v v':α} {r:Ts} (h:er v'=er v):Rd er v r (.ok v' r):=.inl ⟨v',h,rfl⟩
def Rd.id {α:Type} {v:α} {r:Ts}:Rd (fun x:α=>x) v r (.ok v r):=.inl ⟨v,rfl,rfl⟩
def Rd.binds {α γ δ:Type} {er2:γ->δ} {v:α} {u:γ} {r s:Ts} {x:R α} {f:α->Ts->R γ} (h:Rd (fun x:α=>x) v r x) (hf:Rd er2 u s (f v r)):Rd er2 u s (x.bind f):=h.bind fun v' e=>by cases (show v'=v from e);exact hf
structure Nx (r:Ts):Prop where
 par:isW r [[40]]=false
 bin:(Zb9 r).1=0
def Zv9 {l:List Ex} (h:l.length=2):∃a b,l=[a,b]:=by match l,h with | [a,b],_=>exact ⟨a,b,rfl⟩
def ZCe {l:List Ex} (h:l.length=1):∃a,l=[a]:=by match l,h with | [a],_=>exact ⟨a,rfl⟩
def Ln (e:Ex) (r:Ts) (sub:Nat->Ts->R Ex) (least:Nat) (x:R Ex):Prop:=(∃f e',r.length<f/\erE e'=erE e/\x=Zaj sub least f e' r)\/Lim x
structure ExR (e:Ex):Prop where
 sg:∀d r,isW r [[40]]=false->Rd erE e r (Xo d (ZFz 5 e++r))
 ln:∀d k w l r,w<=l->l<=5->6<=k+w->isW r [[40]]=false->(Zb9 r).1<l+2->Ln e r (JD (Xo d) (k - 1)) (w+1) (JD (Xo d) k (w+1) (ZFz l e++r))
def ZyI {op:Nat} {rel:Bs} {args:List Ex} {body:List Li} {a:Nat} (h:YH (.mk op rel args body a)=true):YS op rel args.length body.length=true/\(∀x∈args,Yf x=true)/\∀x∈body,YH x=true:=by
 simp only [YH,Zw,Xe,Tl] at h;exact ⟨h.1,Tn.1 h.2.1,Tn.1 h.2.2⟩
def ZyJ {op:Nat} {rel:Bs} {na nb:Nat} (h:YS op rel na nb=true):((op=1\/op=2)/\Zar rel=true/\nb=0)\/(3<=op/\op<=8/\rel=[]/\na=2/\nb=0)\/(op=9/\rel=[]/\na=1/\0<nb)\/(9<op/\op<=12/\rel=[]/\na=2/\0<nb):=by
 unfold YS at h
 split at h
 ·rename_i c
  simp only [Tl,TV,decide_eq_false_iff_not] at h;exact .inl ⟨c,h.1,oM⟩
 split at h
 ·rename_i c
  simp only [Tl,TV,decide_eq_false_iff_not,TH] at h;exact .inr (.inl ⟨c.1,c.2,h.1,h.2.1,oM⟩)
 split at h
 ·rename_i c
  simp only [Tl,TH] at h;exact .inr (.inr (.inl ⟨c,h.1,h.2.1,h.2.2⟩))
 split at h
 ·rename_i c
  simp only [Tl,TH] at h;exact .inr (.inr (.inr ⟨c.1,c.2,h.1,h.2.1,h.2.2⟩))
 cases h
def Zui (x:Li):Bool:=YH x && Zv5 x
def ZyK {op:Nat} {rel:Bs} {args:List Ex} {body:List Li} {a:Nat} (h:Zui (.mk op rel args body a)=true):YS op rel args.length body.length=true/\(∀x∈args,ZkS x=true)/\∀x∈body,Zui x=true:=by
 simp only [Zui,Tl] at h;obtain ⟨h1,h2⟩:=h;obtain ⟨m1,m2,m3⟩:=ZyI h1;obtain ⟨r1,r2⟩:=Zq1 h2;exact ⟨m1,fun x hx=>by rw [ZkS,m2 x hx,r1 x hx];rfl,fun x hx=>by rw [Zui,m3 x hx,r2 x hx];rfl⟩
def ZCf (n:Nat):Zh:=ZjP (.tuple []) fun rest txt=>∃pl x,rest=[VG YC pl x]/\(Zui x=true/\wL x<=n/\n<=1073741824)/\txt=liT x
def Zon (n:Nat):Zh:=fun args σ K=>match args,σ with
 | [.ptr 0 0,.d (.sl r),.d (.str bt),.func g [.ptr 0 0] []],⟨[.cells t [p,.sl 0 e rows]],[0],1⟩=>∃l pl xs,rows=Zm l/\r=xs.map (YC pl)/\(p=.ptr 0 0/\t=143/\e=5/\g=182)/\(xs.all Zui=true/\szS wL xs<=n/\n<=1073741824)/\l.length+(Zj bt (xs.map liT)).length<70368744177664 /\
   K (.ret (.tuple [])) ⟨[.cells t [.ptr 0 0,.sl 0 e (Zm (l++Zj bt (xs.map liT)))]],[0],1⟩
 | _,_=>False
def ZCh {n:Nat}:OKw w0 nG [(176,Zi5),(182,ZCf n)] 181 (Zon n):=by
 refine pwo Tryz.func181 fun args σ K h=>?_
 unfold Zon at h
 split at h
 ·rename_i r bt g t p e rows
  obtain ⟨l,pl,xs,rfl,rfl,⟨rfl,rfl,rfl,rfl⟩,⟨ca,hz,hn⟩,hlen,h⟩:=h;have cf:(xs.map (YC pl)).length=xs.length:=Td ..;have hsz:=ZE wL xs;refine pwv [(1,⟨[12],[0,1,2,3,10,11],fun vs σ=>∃i:Nat,vs=[.d (.int .i64 i)]/\σ=⟨[.cells 143 [.ptr 0 0,.sl 0 5 (Zm (l++Zj bt ((xs.take i).map liT)))]],[0],1⟩/\i<=xs.length,mu1 xs.length⟩)] 1 true ?_;refine ⟨⟨0,rfl,(by simp only [Sb,TN,Zj,TU];rfl),oM⟩,?_⟩;intro vs σ hI
  obtain ⟨i,rfl,rfl,hi⟩:=hI;(conv=>whnf);refine ZGr (fun af=>wN ?_) (fun af=>?_)
  ·have af:i<xs.length:=lzI cf af;have hg:=ZQ wL xs i af;have f9:Zui xs[i]=true:=Tn.1 ca _ (TA af);have cd:=JN bt liT af;have aw:=ZdX bt liT xs (i+1);obtain ⟨eA,hA⟩:∃x,xs[i]=x:=⟨_,rfl⟩
   obtain ⟨a1,a2,a3,a4,a5⟩:=eA;rw [hA] at hg f9 cd;have cq:(xs.map (YC pl))[((i:Nat):Int).toNat]?=some (YC pl (.mk a1 a2 a3 a4 a5)):=by simp [af,hA]
   refine ⟨_,oM,cq,wN ?_⟩;refine ZGr (fun h0=>wN ?_) (fun h0=>?_)
   ·have h0:0<i:=by omega
    rw [Te oM] at cd;rw [cd] at aw;simp only [Tc] at aw;refine wk _ bt ⟨rfl,rfl⟩ (wN ?_);refine wk _ (liT (.mk a1 a2 a3 a4 a5)) ⟨pl,(.mk a1 a2 a3 a4 a5),rfl,⟨f9,oM,oM⟩,rfl⟩ (wN ?_);exact mq103
   obtain rfl:i=0:=by omega
   rw [Ti rfl] at cd;rw [cd] at aw;(conv=>whnf);refine ⟨l++Zj bt ((xs.take 0).map liT),liT (.mk a1 a2 a3 a4 a5),rfl,⟨.inr rfl,rfl,rfl⟩,⟨pl,(.mk a1 a2 a3 a4 a5),rfl,⟨f9,oM,oM⟩,rfl⟩,by simp only [Sb,TN,Zj,Tc,Tj];omega,wN ?_⟩;exact mq91
  exact mq180
 exact h.elim
def ZCi (n:Nat):Tbl:=[(122,ZeY),(180,Zuh n),(229,Zug n),(181,spB Zon n)]
def ZCj {n:Nat} (ht:TO w0 nG (ZCi n)):PC w0 nG 182 (ZCf n):=by
 refine Yn Zr mixed (tbl:=ZCi n) ht Tryz.func182 rfl kR kR ?_;intro args σ K h
 unfold ZCf ZjP at h
 split at h
 ·rename_i rest t p e rows
  obtain ⟨l,txt,rfl,⟨hp,rfl,rfl⟩,⟨pl,⟨op,rel,xs,body,at'⟩,rfl,⟨ca,hz,hn⟩,rfl⟩,hlen,h⟩:=h;obtain ⟨m1,m2,m3⟩:=ZyK ca;have dr:szS wE xs+szS wL body+rel.length+1<=n:=by rw [wL,Zmu] at hz;omega
  refine ⟨Zg [],ZV [(13,2)],ZC [],1,true,sM,Tb rfl,?_⟩;have wb:((op=1\/op=2)/\Zar rel=true/\body.length=0)\/(3<=op/\op<=8/\rel=[]/\xs.length=2/\body.length=0)\/(op=9/\rel=[]/\xs.length=1/\0<body.length)\/(9<op/\op<=12/\rel=[]/\xs.length=2/\0<body.length):=ZyJ m1;rcases wb with ⟨dx,hnm,hb⟩ | ⟨c1,c2,rfl,bo,hb⟩ | ⟨rfl,rfl,du,hb⟩ | ⟨c1,c2,rfl,bo,hb⟩
  ·rcases dx with rfl | rfl
   ·rcases hp with rfl | rfl
    all_goals
     have hx:liT (.mk 1 rel xs body at')=rel++XW [40] [41] xs:=by rw [liT];rfl
     rw [hx] at h hlen
     (try simp only [Tc,Tf,Tj] at hlen)
     conv=>whnf
     refine wk _ rel ⟨[rel],rfl,sM,sM,sM⟩ ?_;(conv=>whnf);refine wk _ (XW [40] [41] xs) ⟨[40],[41],pl,xs,rfl,⟨Tn.2 m2,oM,oM⟩,rfl⟩ ?_;rw [show l++(rel++XW [40] [41] xs)=l++rel++XW [40] [41] xs by simp only [Tp]] at h;(conv=>whnf);exact h
   rcases hp with rfl | rfl
   all_goals
    have hx:liT (.mk 2 rel xs body at')=[33]++(rel++XW [40] [41] xs):=by rw [liT];rfl
    rw [hx] at h hlen
    (try simp only [Tc,Tf,Tj] at hlen)
    conv=>whnf
    refine wk _ [33] ⟨[[33]],rfl,sM,sM,sM⟩ ?_;(conv=>whnf);refine wk _ rel ⟨[rel],rfl,sM,sM,sM⟩ ?_;(conv=>whnf);refine wk _ (XW [40] [41] xs) ⟨[40],[41],pl,xs,rfl,⟨Tn.2 m2,oM,oM⟩,rfl⟩ ?_;rw [show l++([33]++(rel++XW [40] [41] xs))=l++[33]++rel++XW [40] [41] xs by simp only [Tp]] at h;(conv=>whnf);exact h
  ·obtain ⟨x0,x1,rfl⟩:=Zv9 bo;simp only [szS] at dr;have g0:=m2 x0 sM;have g1:=m2 x1 sM;have z0:wE x0<=n:=oM;have z1:wE x1<=n:=oM;obtain ⟨o0,t0,n0,y0,q0⟩:=x0;obtain ⟨o1,t1,n1,y1,q1⟩:=x1;obtain rfl | rfl | rfl | rfl | rfl | rfl:op=3\/op=4\/op=5\/op=6\/op=7\/op=8:=oM
   ·rcases hp with rfl | rfl
    all_goals
     have hx:liT (.mk 3 [] [(.mk o0 t0 n0 y0 q0),(.mk o1 t1 n1 y1 q1)] body at')=exW 0 (.mk o0 t0 n0 y0 q0)++([32,61,32]++exW 0 (.mk o1 t1 n1 y1 q1)):=by rw [liT,W5,W5];rfl
     rw [hx] at h hlen
     (try simp only [Tc,Tf,Tj] at hlen)
     conv=>whnf
     refine ⟨_,dM,rfl,wN ?_⟩;refine wk _ (exW 0 (.mk o0 t0 n0 y0 q0)) ⟨pl,(.mk o0 t0 n0 y0 q0),0,rfl,⟨g0,oM,oM,oM,oM⟩,rfl⟩ ?_;(conv=>whnf);refine Or.inl ⟨InR.u8 dM dM,wN ?_⟩;refine ⟨dM,dM,wN ?_⟩;refine wk _ [32,61,32] ⟨[[32,61,32]],rfl,sM,sM,sM⟩ ?_;(conv=>whnf);refine ⟨_,dM,rfl,wN ?_⟩;refine wk _ (exW 0 (.mk o1 t1 n1 y1 q1)) ⟨pl,(.mk o1 t1 n1 y1 q1),0,rfl,⟨g1,oM,oM,oM,oM⟩,rfl⟩ ?_;rw [show l++(exW 0 (.mk o0 t0 n0 y0 q0)++([32,61,32]++exW 0 (.mk o1 t1 n1 y1 q1)))=l++exW 0 (.mk o0 t0 n0 y0 q0)++[32,61,32]++exW 0 (.mk o1 t1 n1 y1 q1) by simp only [Tp]] at h;(conv=>whnf);exact h
   ·rcases hp with rfl | rfl
    all_goals
     have hx:liT (.mk 4 [] [(.mk o0 t0 n0 y0 q0),(.mk o1 t1 n1 y1 q1)] body at')=exW 0 (.mk o0 t0 n0 y0 q0)++([32,33,61,32]++exW 0 (.mk o1 t1 n1 y1 q1)):=by rw [liT,W5,W5];rfl
     rw [hx] at h hlen
     (try simp only [Tc,Tf,Tj] at hlen)
     conv=>whnf
     refine ⟨_,dM,rfl,wN ?_⟩;refine wk _ (exW 0 (.mk o0 t0 n0 y0 q0)) ⟨pl,(.mk o0 t0 n0 y0 q0),0,rfl,⟨g0,oM,oM,oM,oM⟩,rfl⟩ ?_;(conv=>whnf);refine Or.inl ⟨InR.u8 dM dM,wN ?_⟩;refine ⟨dM,dM,wN ?_⟩;refine wk _ [32,33,61,32] ⟨[[32,33,61,32]],rfl,sM,sM,sM⟩ ?_;(conv=>whnf);refine ⟨_,dM,rfl,wN ?_⟩;refine wk _ (exW 0 (.mk o1 t1 n1 y1 q1)) ⟨pl,(.mk o1 t1 n1 y1 q1),0,rfl,⟨g1,oM,oM,oM,oM⟩,rfl⟩ ?_;rw [show l++(exW 0 (.mk o0 t0 n0 y0 q0)++([32,33,61,32]++exW 0 (.mk o1 t1 n1 y1 q1)))=l++exW 0 (.mk o0 t0 n0 y0 q0)++[32,33,61,32]++exW 0 (.mk o1 t1 n1 y1 q1) by simp only [Tp]] at h;(conv=>whnf);exact h
   ·rcases hp with rfl | rfl
    all_goals
     have hx:liT (.mk 5 [] [(.mk o0 t0 n0 y0 q0),(.mk o1 t1 n1 y1 q1)] body at')=exW 0 (.mk o0 t0 n0 y0 q0)++([32,60,32]++exW 0 (.mk o1 t1 n1 y1 q1)):=by rw [liT,W5,W5];rfl
     rw [hx] at h hlen
     (try simp only [Tc,Tf,Tj] at hlen)
     conv=>whnf
     refine ⟨_,dM,rfl,wN ?_⟩;refine wk _ (exW 0 (.mk o0 t0 n0 y0 q0)) ⟨pl,(.mk o0 t0 n0 y0 q0),0,rfl,⟨g0,oM,oM,oM,oM⟩,rfl⟩ ?_;(conv=>whnf);refine Or.inl ⟨InR.u8 dM dM,wN ?_⟩;refine ⟨dM,dM,wN ?_⟩;refine wk _ [32,60,32] ⟨[[32,60,32]],rfl,sM,sM,sM⟩ ?_;(conv=>whnf);refine ⟨_,dM,rfl,wN ?_⟩;refine wk _ (exW 0 (.mk o1 t1 n1 y1 q1)) ⟨pl,(.mk o1 t1 n1 y1 q1),0,rfl,⟨g1,oM,oM,oM,oM⟩,rfl⟩ ?_;rw [show l++(exW 0 (.mk o0 t0 n0 y0 q0)++([32,60,32]++exW 0 (.mk o1 t1 n1 y1 q1)))=l++exW 0 (.mk o0 t0 n0 y0 q0)++[32,60,32]++exW 0 (.mk o1 t1 n1 y1 q1) by simp only [Tp]] at h;(conv=>whnf);exact h
   ·rcases hp with rfl | rfl
    all_goals
     have hx:liT (.mk 6 [] [(.mk o0 t0 n0 y0 q0),(.mk o1 t1 n1 y1 q1)] body at')=exW 0 (.mk o0 t0 n0 y0 q0)++([32,60,61,32]++exW 0 (.mk o1 t1 n1 y1 q1)):=by rw [liT,W5,W5];rfl
     rw [hx] at h hlen
     (try simp only [Tc,Tf,Tj] at hlen)
     conv=>whnf
     refine ⟨_,dM,rfl,wN ?_⟩;refine wk _ (exW 0 (.mk o0 t0 n0 y0 q0)) ⟨pl,(.mk o0 t0 n0 y0 q0),0,rfl,⟨g0,oM,oM,oM,oM⟩,rfl⟩ ?_;(conv=>whnf);refine Or.inl ⟨InR.u8 dM dM,wN ?_⟩;refine ⟨dM,dM,wN ?_⟩;refine wk _ [32,60,61,32] ⟨[[32,60,61,32]],rfl,sM,sM,sM⟩ ?_;(conv=>whnf);refine ⟨_,dM,rfl,wN ?_⟩;refine wk _ (exW 0 (.mk o1 t1 n1 y1 q1)) ⟨pl,(.mk o1 t1 n1 y1 q1),0,rfl,⟨g1,oM,oM,oM,oM⟩,rfl⟩ ?_;rw [show l++(exW 0 (.mk o0 t0 n0 y0 q0)++([32,60,61,32]++exW 0 (.mk o1 t1 n1 y1 q1)))=l++exW 0 (.mk o0 t0 n0 y0 q0)++[32,60,61,32]++exW 0 (.mk o1 t1 n1 y1 q1) by simp only [Tp]] at h;(conv=>whnf);exact h
   ·rcases hp with rfl | rfl
    all_goals
     have hx:liT (.mk 7 [] [(.mk o0 t0 n0 y0 q0),(.mk o1 t1 n1 y1 q1)] body at')=exW 0 (.mk o0 t0 n0 y0 q0)++([32,62,32]++exW 0 (.mk o1 t1 n1 y1 q1)):=by rw [liT,W5,W5];rfl
     rw [hx] at h hlen
     (try simp only [Tc,Tf,Tj] at hlen)
     conv=>whnf
     refine ⟨_,dM,rfl,wN ?_⟩;refine wk _ (exW 0 (.mk o0 t0 n0 y0 q0)) ⟨pl,(.mk o0 t0 n0 y0 q0),0,rfl,⟨g0,oM,oM,oM,oM⟩,rfl⟩ ?_;(conv=>whnf);refine Or.inl ⟨InR.u8 dM dM,wN ?_⟩;refine ⟨dM,dM,wN ?_⟩;refine wk _ [32,62,32] ⟨[[32,62,32]],rfl,sM,sM,sM⟩ ?_;(conv=>whnf);refine ⟨_,dM,rfl,wN ?_⟩;refine wk _ (exW 0 (.mk o1 t1 n1 y1 q1)) ⟨pl,(.mk o1 t1 n1 y1 q1),0,rfl,⟨g1,oM,oM,oM,oM⟩,rfl⟩ ?_;rw [show l++(exW 0 (.mk o0 t0 n0 y0 q0)++([32,62,32]++exW 0 (.mk o1 t1 n1 y1 q1)))=l++exW 0 (.mk o0 t0 n0 y0 q0)++[32,62,32]++exW 0 (.mk o1 t1 n1 y1 q1) by simp only [Tp]] at h;(conv=>whnf);exact h
   rcases hp with rfl | rfl
   all_goals
    have hx:liT (.mk 8 [] [(.mk o0 t0 n0 y0 q0),(.mk o1 t1 n1 y1 q1)] body at')=exW 0 (.mk o0 t0 n0 y0 q0)++([32,62,61,32]++exW 0 (.mk o1 t1 n1 y1 q1)):=by rw [liT,W5,W5];rfl
    rw [hx] at h hlen
    (try simp only [Tc,Tf,Tj] at hlen)
    conv=>whnf
    refine ⟨_,dM,rfl,wN ?_⟩;refine wk _ (exW 0 (.mk o0 t0 n0 y0 q0)) ⟨pl,(.mk o0 t0 n0 y0 q0),0,rfl,⟨g0,oM,oM,oM,oM⟩,rfl⟩ ?_;(conv=>whnf);refine Or.inl ⟨InR.u8 dM dM,wN ?_⟩;refine ⟨dM,dM,wN ?_⟩;refine wk _ [32,62,61,32] ⟨[[32,62,61,32]],rfl,sM,sM,sM⟩ ?_;(conv=>whnf);refine ⟨_,dM,rfl,wN ?_⟩;refine wk _ (exW 0 (.mk o1 t1 n1 y1 q1)) ⟨pl,(.mk o1 t1 n1 y1 q1),0,rfl,⟨g1,oM,oM,oM,oM⟩,rfl⟩ ?_;rw [show l++(exW 0 (.mk o0 t0 n0 y0 q0)++([32,62,61,32]++exW 0 (.mk o1 t1 n1 y1 q1)))=l++exW 0 (.mk o0 t0 n0 y0 q0)++[32,62,61,32]++exW 0 (.mk o1 t1 n1 y1 q1) by simp only [Tp]] at h;(conv=>whnf);exact h
  ·obtain ⟨x0,rfl⟩:=ZCe du;simp only [szS] at dr;have g0:=m2 x0 sM;have z0:wE x0<=n:=oM;obtain ⟨o0,t0,n0,y0,q0⟩:=x0;rcases hp with rfl | rfl
   all_goals
    have hx:liT (.mk 9 [] [(.mk o0 t0 n0 y0 q0)] body at')=exW 0 (.mk o0 t0 n0 y0 q0)++(([32,61,32]++[99,111,117,110,116])++([32,58,32,123,32]++(Zj cmm (body.map liT)++([32,125])))):=by rw [liT,ZdU,W5];simp [Zmt,Zt2,ZkK]
    rw [hx] at h hlen
    (try simp only [Tc,Tf,Tj] at hlen)
    conv=>whnf
    refine ⟨_,dM,rfl,wN ?_⟩;refine wk _ (exW 0 (.mk o0 t0 n0 y0 q0)) ⟨pl,(.mk o0 t0 n0 y0 q0),0,rfl,⟨g0,oM,oM,oM,oM⟩,rfl⟩ ?_;(conv=>whnf);refine Or.inl ⟨InR.u8 dM dM,wN ?_⟩;refine ⟨dM,dM,wN ?_⟩;refine wk _ ([32,61,32]++[99,111,117,110,116]) ⟨[[32,61,32],[99,111,117,110,116]],rfl,sM,sM,sM⟩ ?_;(conv=>whnf);refine ⟨fun r hr=>?_,dM,by rw [Zc];simp,wN ?_⟩
    ·rw [Zc] at hr;simp only [Tx,TN,Tr,TT,SC] at hr;rcases hr with rfl;rfl
    refine wk _ [32,58,32,123,32] ⟨[[32,58,32,123,32]],rfl,sM,sM,sM⟩ ?_;(conv=>whnf);refine ⟨oM,l++exW 0 (.mk o0 t0 n0 y0 q0)++([32,61,32]++[99,111,117,110,116])++[32,58,32,123,32],pl,body,rfl,Zn pl body,⟨rfl,rfl,rfl,rfl⟩,⟨Tn.2 m3,oM,oM⟩,(by (try simp only [Tc,Tf,Tj]);show _+(Zj cmm (body.map liT)).length<_;omega),?_⟩;(conv=>whnf);refine wk (l++exW 0 (.mk o0 t0 n0 y0 q0)++([32,61,32]++[99,111,117,110,116])++[32,58,32,123,32]++Zj cmm (body.map liT)) [32,125] ⟨[[32,125]],rfl,sM,sM,sM⟩ ?_;rw [show l++(exW 0 (.mk o0 t0 n0 y0 q0)++(([32,61,32]++[99,111,117,110,116])++([32,58,32,123,32]++(Zj cmm (body.map liT)++([32,125])))))=l++exW 0 (.mk o0 t0 n0 y0 q0)++([32,61,32]++[99,111,117,110,116])++[32,58,32,123,32]++Zj cmm (body.map liT)++[32,125] by simp only [Tp]] at h;(conv=>whnf);exact h
  obtain ⟨x0,x1,rfl⟩:=Zv9 bo;simp only [szS] at dr;have g0:=m2 x0 sM;have g1:=m2 x1 sM;have z0:wE x0<=n:=oM;have z1:wE x1<=n:=oM;obtain ⟨o0,t0,n0,y0,q0⟩:=x0;obtain ⟨o1,t1,n1,y1,q1⟩:=x1;obtain rfl | rfl | rfl:op=10\/op=11\/op=12:=oM
  ·rcases hp with rfl | rfl
   all_goals
    have hx:liT (.mk 10 [] [(.mk o0 t0 n0 y0 q0),(.mk o1 t1 n1 y1 q1)] body at')=exW 0 (.mk o0 t0 n0 y0 q0)++(([32,61,32]++[115,117,109])++([32]++(exW 0 (.mk o1 t1 n1 y1 q1)++([32,58,32,123,32]++(Zj cmm (body.map liT)++([32,125])))))):=by rw [liT,ZdU,W5,W5];simp [Zmt,Zt2,ZkK]
    rw [hx] at h hlen
    (try simp only [Tc,Tf,Tj] at hlen)
    conv=>whnf
    refine ⟨_,dM,rfl,wN ?_⟩;refine wk _ (exW 0 (.mk o0 t0 n0 y0 q0)) ⟨pl,(.mk o0 t0 n0 y0 q0),0,rfl,⟨g0,oM,oM,oM,oM⟩,rfl⟩ ?_;(conv=>whnf);refine Or.inl ⟨InR.u8 dM dM,wN ?_⟩;refine ⟨dM,dM,wN ?_⟩;refine wk _ ([32,61,32]++[115,117,109]) ⟨[[32,61,32],[115,117,109]],rfl,sM,sM,sM⟩ ?_;(conv=>whnf);refine ⟨fun r hr=>?_,dM,by rw [Zc];simp,wN ?_⟩
    ·exact mq114
    refine ⟨_,dM,rfl,wN ?_⟩;refine wk _ [32] ⟨[[32]],rfl,sM,sM,sM⟩ ?_;(conv=>whnf);refine wk _ (exW 0 (.mk o1 t1 n1 y1 q1)) ⟨pl,(.mk o1 t1 n1 y1 q1),0,rfl,⟨g1,oM,oM,oM,oM⟩,rfl⟩ ?_;(conv=>whnf);refine V4 ?_;refine wk _ [32,58,32,123,32] ⟨[[32,58,32,123,32]],rfl,sM,sM,sM⟩ ?_;(conv=>whnf);refine ⟨oM,l++exW 0 (.mk o0 t0 n0 y0 q0)++([32,61,32]++[115,117,109])++[32]++exW 0 (.mk o1 t1 n1 y1 q1)++[32,58,32,123,32],pl,body,rfl,Zn pl body,⟨rfl,rfl,rfl,rfl⟩,⟨Tn.2 m3,oM,oM⟩,(by (try simp only [Tc,Tf,Tj]);show _+(Zj cmm (body.map liT)).length<_;omega),?_⟩;(conv=>whnf);refine wk (l++exW 0 (.mk o0 t0 n0 y0 q0)++([32,61,32]++[115,117,109])++[32]++exW 0 (.mk o1 t1 n1 y1 q1)++[32,58,32,123,32]++Zj cmm (body.map liT)) [32,125] ⟨[[32,125]],rfl,sM,sM,sM⟩ ?_;rw [show l++(exW 0 (.mk o0 t0 n0 y0 q0)++(([32,61,32]++[115,117,109])++([32]++(exW 0 (.mk o1 t1 n1 y1 q1)++([32,58,32,123,32]++(Zj cmm (body.map liT)++([32,125])))))))=l++exW 0 (.mk o0 t0 n0 y0 q0)++([32,61,32]++[115,117,109])++[32]++exW 0 (.mk o1 t1 n1 y1 q1)++[32,58,32,123,32]++Zj cmm (body.map liT)++[32,125] by simp only [Tp]] at h;(conv=>whnf);exact h
  ·rcases hp with rfl | rfl
   all_goals
    have hx:liT (.mk 11 [] [(.mk o0 t0 n0 y0 q0),(.mk o1 t1 n1 y1 q1)] body at')=exW 0 (.mk o0 t0 n0 y0 q0)++(([32,61,32]++[109,105,110])++([32]++(exW 0 (.mk o1 t1 n1 y1 q1)++([32,58,32,123,32]++(Zj cmm (body.map liT)++([32,125])))))):=by rw [liT,ZdU,W5,W5];simp [Zmt,Zt2,ZkK]
    rw [hx] at h hlen
    (try simp only [Tc,Tf,Tj] at hlen)
    conv=>whnf
    refine ⟨_,dM,rfl,wN ?_⟩;refine wk _ (exW 0 (.mk o0 t0 n0 y0 q0)) ⟨pl,(.mk o0 t0 n0 y0 q0),0,rfl,⟨g0,oM,oM,oM,oM⟩,rfl⟩ ?_;(conv=>whnf);refine Or.inl ⟨InR.u8 dM dM,wN ?_⟩;refine ⟨dM,dM,wN ?_⟩;refine wk _ ([32,61,32]++[109,105,110]) ⟨[[32,61,32],[109,105,110]],rfl,sM,sM,sM⟩ ?_;(conv=>whnf);refine ⟨fun r hr=>?_,dM,by rw [Zc];simp,wN ?_⟩
    ·exact mq114
    refine ⟨_,dM,rfl,wN ?_⟩;refine wk _ [32] ⟨[[32]],rfl,sM,sM,sM⟩ ?_;(conv=>whnf);refine wk _ (exW 0 (.mk o1 t1 n1 y1 q1)) ⟨pl,(.mk o1 t1 n1 y1 q1),0,rfl,⟨g1,oM,oM,oM,oM⟩,rfl⟩ ?_;(conv=>whnf);refine V4 ?_;refine wk _ [32,58,32,123,32] ⟨[[32,58,32,123,32]],rfl,sM,sM,sM⟩ ?_;(conv=>whnf);refine ⟨oM,l++exW 0 (.mk o0 t0 n0 y0 q0)++([32,61,32]++[109,105,110])++[32]++exW 0 (.mk o1 t1 n1 y1 q1)++[32,58,32,123,32],pl,body,rfl,Zn pl body,⟨rfl,rfl,rfl,rfl⟩,⟨Tn.2 m3,oM,oM⟩,(by (try simp only [Tc,Tf,Tj]);show _+(Zj cmm (body.map liT)).length<_;omega),?_⟩;(conv=>whnf);refine wk (l++exW 0 (.mk o0 t0 n0 y0 q0)++([32,61,32]++[109,105,110])++[32]++exW 0 (.mk o1 t1 n1 y1 q1)++[32,58,32,123,32]++Zj cmm (body.map liT)) [32,125] ⟨[[32,125]],rfl,sM,sM,sM⟩ ?_;rw [show l++(exW 0 (.mk o0 t0 n0 y0 q0)++(([32,61,32]++[109,105,110])++([32]++(exW 0 (.mk o1 t1 n1 y1 q1)++([32,58,32,123,32]++(Zj cmm (body.map liT)++([32,125])))))))=l++exW 0 (.mk o0 t0 n0 y0 q0)++([32,61,32]++[109,105,110])++[32]++exW 0 (.mk o1 t1 n1 y1 q1)++[32,58,32,123,32]++Zj cmm (body.map liT)++[32,125] by simp only [Tp]] at h;(conv=>whnf);exact h
  rcases hp with rfl | rfl
  all_goals
   have hx:liT (.mk 12 [] [(.mk o0 t0 n0 y0 q0),(.mk o1 t1 n1 y1 q1)] body at')=exW 0 (.mk o0 t0 n0 y0 q0)++(([32,61,32]++[109,97,120])++([32]++(exW 0 (.mk o1 t1 n1 y1 q1)++([32,58,32,123,32]++(Zj cmm (body.map liT)++([32,125])))))):=by rw [liT,ZdU,W5,W5];simp [Zmt,Zt2,ZkK]
   rw [hx] at h hlen
   (try simp only [Tc,Tf,Tj] at hlen)
   conv=>whnf
   refine ⟨_,dM,rfl,wN ?_⟩;refine wk _ (exW 0 (.mk o0 t0 n0 y0 q0)) ⟨pl,(.mk o0 t0 n0 y0 q0),0,rfl,⟨g0,oM,oM,oM,oM⟩,rfl⟩ ?_;(conv=>whnf);refine Or.inl ⟨InR.u8 dM dM,wN ?_⟩;refine ⟨dM,dM,wN ?_⟩;refine wk _ ([32,61,32]++[109,97,120]) ⟨[[32,61,32],[109,97,120]],rfl,sM,sM,sM⟩ ?_;(conv=>whnf);refine ⟨fun r hr=>?_,dM,by rw [Zc];simp,wN ?_⟩
   ·exact mq114
   refine ⟨_,dM,rfl,wN ?_⟩;refine wk _ [32] ⟨[[32]],rfl,sM,sM,sM⟩ ?_;(conv=>whnf);refine wk _ (exW 0 (.mk o1 t1 n1 y1 q1)) ⟨pl,(.mk o1 t1 n1 y1 q1),0,rfl,⟨g1,oM,oM,oM,oM⟩,rfl⟩ ?_;(conv=>whnf);refine V4 ?_;refine wk _ [32,58,32,123,32] ⟨[[32,58,32,123,32]],rfl,sM,sM,sM⟩ ?_;(conv=>whnf);refine ⟨oM,l++exW 0 (.mk o0 t0 n0 y0 q0)++([32,61,32]++[109,97,120])++[32]++exW 0 (.mk o1 t1 n1 y1 q1)++[32,58,32,123,32],pl,body,rfl,Zn pl body,⟨rfl,rfl,rfl,rfl⟩,⟨Tn.2 m3,oM,oM⟩,(by (try simp only [Tc,Tf,Tj]);show _+(Zj cmm (body.map liT)).length<_;omega),?_⟩;(conv=>whnf);refine wk (l++exW 0 (.mk o0 t0 n0 y0 q0)++([32,61,32]++[109,97,120])++[32]++exW 0 (.mk o1 t1 n1 y1 q1)++[32,58,32,123,32]++Zj cmm (body.map liT)) [32,125] ⟨[[32,125]],rfl,sM,sM,sM⟩ ?_;rw [show l++(exW 0 (.mk o0 t0 n0 y0 q0)++(([32,61,32]++[109,97,120])++([32]++(exW 0 (.mk o1 t1 n1 y1 q1)++([32,58,32,123,32]++(Zj cmm (body.map liT)++([32,125])))))))=l++exW 0 (.mk o0 t0 n0 y0 q0)++([32,61,32]++[109,97,120])++[32]++exW 0 (.mk o1 t1 n1 y1 q1)++[32,58,32,123,32]++Zj cmm (body.map liT)++[32,125] by simp only [Tp]] at h;(conv=>whnf);exact h
 exact h.elim
def cWA (hN:NumOK w0 nG) (hL:LexC w0 nG) (n:Nat):PC w0 nG 180 (Zuh n):=Zv7 (cWE hN hL n)
def Zq8 {n:Nat} (h:PC w0 nG 182 (ZCf n)):PC w0 nG 181 (Zon n):=ZCh ⟨Zt6,h,trivial⟩
def cWL (hN:NumOK w0 nG) (hL:LexC w0 nG):∀n,PC w0 nG 182 (ZCf n)
 | 0=>ZCj ⟨Zau,cWA hN hL 0,cWE hN hL 0,Zz (Zf Tryz.func181 kR rfl),trivial⟩
 | n+1=>ZCj ⟨Zau,cWA hN hL (n+1),cWE hN hL (n+1),ZA (sp:=Zon) (Zq8 (cWL hN hL n)),trivial⟩
def ZCk (r:Ru):Bool:=XD r && Zq2 r
def ZyL {r:Ru} (h:ZCk r=true):(∀x∈r.args,ZkS x=true)/\∀x∈r.body,Zui x=true:=by
 simp only [ZCk,XD,Zq2,Tl] at h;obtain ⟨⟨_,h1,h2⟩,h3,h4⟩:=h;rw [Tn] at h1 h2 h3 h4;exact ⟨fun x hx=>by rw [ZkS,h1 x hx,h3 x hx];rfl,fun x hx=>by rw [Zui,h2 x hx,h4 x hx];rfl⟩
def ZDH (n:Nat):Zh:=ZjP (.tuple []) fun rest txt=>∃pl x,rest=[VG Zs pl x]/\(ZCk x=true/\wRu x<=n/\n<=1073741824)/\txt=ruT x
def ZEK {n:Nat}:OKw w0 nG [(122,ZeY),(180,Zuh n),(181,Zon n)] 127 (ZDH n):=by
 refine pwo Tryz.func127 fun args σ K h=>?_
 unfold ZDH ZjP at h
 split at h
 ·rename_i rest t p e rows
  obtain ⟨l,txt,rfl,⟨hp,rfl,rfl⟩,⟨pl,⟨head,xs,body,at'⟩,rfl,⟨ca,hz,hn⟩,rfl⟩,hlen,h⟩:=h;obtain ⟨m2,m3⟩:=ZyL ca;simp only at m2 m3;have dr:szS wE xs+szS wL body+head.length+1<=n:=by unfold wRu at hz;simp only at hz;omega
  have dc:(Zx pl body).length=body.length:=by rw [Zn,Td]
  refine pwu [] 1 true ?_;have l9:l.length+head.length+(XW [40] [41] xs).length+10<70368744177664+10:=by
   have e:(ruT ⟨head,xs,body,at'⟩).length>=head.length+(XW [40] [41] xs).length:=by rw [ruT];simp only [Tc];omega
   omega
  rcases hp with rfl | rfl
  all_goals
   conv=>whnf
   refine wk _ head ⟨[head],rfl,sM,sM,sM⟩ ?_;(conv=>whnf);refine wk _ (XW [40] [41] xs) ⟨[40],[41],pl,xs,rfl,⟨Tn.2 m2,oM,oM⟩,rfl⟩ ?_;(conv=>whnf);refine ZGr (fun c=>wN ?_) (fun c=>wN ?_)
   ·have c:0<body.length:=by have c:((Zx pl body).length:Int)>0:=c;omega
    have hx:ruT ⟨head,xs,body,at'⟩=head++(XW [40] [41] xs++([32,58,45,32]++(Zj cmm (body.map liT)++[46]))):=by rw [ruT,Ti c,ZdU];simp
    rw [hx] at h hlen;simp only [Tc,Tf,Tj] at hlen;refine wk _ [32,58,45,32] ⟨[[32,58,45,32]],rfl,sM,sM,sM⟩ ?_;(conv=>whnf);refine ⟨l++head++XW [40] [41] xs++[32,58,45,32],pl,body,rfl,Zn pl body,⟨rfl,rfl,rfl,rfl⟩,⟨Tn.2 m3,oM,oM⟩,(by (try simp only [Tc,Tf,Tj]);show _+(Zj cmm (body.map liT)).length<_;omega),?_⟩;(conv=>whnf);refine wk (l++head++XW [40] [41] xs++[32,58,45,32]++Zj cmm (body.map liT)) [46] ⟨[[46]],rfl,sM,sM,sM⟩ ?_;simp only [<- Tp] at h;exact mq35
   have c:¬0<body.length:=by have c:¬((Zx pl body).length:Int)>0:=c;omega
   have hx:ruT ⟨head,xs,body,at'⟩=head++(XW [40] [41] xs++[46]):=by rw [ruT,Te c,List.nil_append]
   rw [hx] at h hlen;simp only [Tc,Tf,Tj] at hlen;refine wk _ [46] ⟨[[46]],rfl,sM,sM,sM⟩ ?_;simp only [<- Tp] at h;exact mq35
 exact h.elim
def cWR (hN:NumOK w0 nG) (hL:LexC w0 nG) (n:Nat):PC w0 nG 127 (ZDH n):=ZEK ⟨Zau,cWA hN hL n,Zq8 (cWL hN hL n),trivial⟩
def ZyM {tys:List Ty} {rels:List Re} {rules:List Ru} {comps:List Co} {inits:List Ini} {overs:List Ov} (h:ZkJ (.mk tys rels rules comps inits overs)=true) :
  (∀x∈tys,ZxV x=true)/\(∀x∈rels,XS x=true)/\(∀x∈rules,XD x=true)/\(∀x∈comps,Zt0 x=true)/\(∀x∈inits,ZBw x=true)/\∀x∈overs,ZBx x=true:=by
 simp only [ZkJ,Zas,Tl] at h;obtain ⟨h1,h2,h3,h4,h5,h6⟩:=h;exact ⟨Tn.1 h1,Tn.1 h2,Tn.1 h3,Tn.1 h4,Tn.1 h5,Tn.1 h6⟩
end Go.PM.Lex
end

section
namespace Go.PM.Lex
open Go.Proofs Go.RowKit
variable {w0:World} {nG:Nat}
def ZCm:Tbl:=[(122,ZeY)]
def ZCn {n:Nat}:PC w0 nG 178 (Zoi (VG (fun _=>Zp)) Y7 fiT wFi n):=by
 refine pwt (tbl:=ZCm) ⟨Zau,trivial⟩ Tryz.func178 fun args σ K h=>?_
 unfold Zoi at h
 split at h
 ·obtain ⟨l,pl,⟨nm,ty⟩,rfl,rfl,⟨rfl,rfl⟩,⟨ca,hz,hn⟩,hlen,h⟩:=h;refine pwv [] 2 true ?_;refine ⟨l,fiT ⟨nm,ty⟩,rfl,⟨.inr rfl,rfl,rfl⟩,⟨[nm,[58,32],ty],rfl,sM,sM,by simp [fiT]⟩,hlen,wN ?_⟩;exact h
 exact h.elim
def ZF9 (n:Nat):PC w0 nG 177 (Zyp 178 (fun _=>Zp) Y7 fiT wFi n):=Zyr ⟨Zt6,ZCn,trivial⟩
def ZyN (n:Nat):Zh:=ZjP (.tuple []) fun rest txt=>∃(fr fin:Bs) (xs:List Fi),rest=[.d (.str fr),.d (.sl (xs.map Zp)),.d (.str fin)]/\(xs.all Y7=true/\szS wFi xs<=n/\n<=1073741824)/\txt=ZoZ fr xs fin
def ZCp {n:Nat}:PC w0 nG 123 (ZyN n):=by
 refine pwt (tbl:=[(122,ZeY),(177,Zyp 178 (fun _=>Zp) Y7 fiT wFi n)]) ⟨Zau,ZF9 n,trivial⟩ Tryz.func123 fun args σ K h=>?_
 unfold ZyN ZjP at h
 split at h
 ·rename_i rest t p e rows
  obtain ⟨l,txt,rfl,⟨hp,rfl,rfl⟩,⟨fr,fin,xs,rfl,⟨ca,hz,hn⟩,rfl⟩,hlen,h⟩:=h;have key:l++ZoZ fr xs fin=l++fr++Zj cmm (xs.map fiT)++fin:=by simp only [ZoZ,Tp]
  rw [key] at h;have hlen:l.length+(fr.length+((Zj cmm (xs.map fiT)).length+fin.length))<70368744177664:=by have:=hlen;simp only [ZoZ,Tc] at this;exact this
  refine pwu [] 1 true ?_;rcases hp with rfl | rfl
  all_goals
   conv=>whnf
   refine wk _ fr ⟨[fr],rfl,sM,sM,sM⟩ ?_;(conv=>whnf);refine ⟨l++fr,fun _=>0,xs,rfl,rfl,⟨rfl,rfl,rfl⟩,⟨ca,hz,hn⟩,by rw [Tc];show _+(Zj cmm (xs.map fiT)).length<_;omega,wN ?_⟩;refine wk (l++fr++Zj cmm (xs.map fiT)) fin ⟨[fin],rfl,sM,sM,sM⟩ (wN ?_);exact h
 exact h.elim
end Go.PM.Lex
end
