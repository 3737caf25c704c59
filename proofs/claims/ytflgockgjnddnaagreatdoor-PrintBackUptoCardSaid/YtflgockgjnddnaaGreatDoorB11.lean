/- A part of the proof: plain logic, contracts and laws over the given program. -/
import Derived.Lib.LaidTab
import Derived.Test.YtflgockgjnddnaaGreatDoorRows
import Derived.Test.YtflgockgjnddnaaGreatDoorTie
import Derived.Test.YtflgockgjnddnaaGreatDoorCards
import Derived.ProofKit
import Derived.OpenShut
import Derived.LaidMore
import Derived.Lay
import Derived.LaidSub
import Derived.SevenTiedAt
import Derived.Stop.Joined
import Derived.Stop.LaidErr
import Derived.Lib.LaidU8T
import Derived.JoinedOf
import Derived.Deep.Slices
import Derived.ChangeArms
import Derived.DataReads
import Derived.Test.YtflgockgjnddnaaGreatDoorB10
set_option linter.unusedVariables false
set_option linter.unusedSimpArgs false
set_option linter.all false
set_option maxRecDepth 100000
set_option maxHeartbeats 16000000
section
namespace Go.PM.Lex
def spP:Pc:=.blank 32
def nlP:Pc:=.blank 10
@[simp] theorem bs_sp:spP.bs=[32]:=rfl
@[simp] theorem bs_nl:nlP.bs=[10]:=rfl
@[simp] theorem ts_sp:spP.ts=[]:=rfl
@[simp] theorem ts_nl:nlP.ts=[]:=rfl
@[simp] theorem bs_nm (s:Bs):(nmP s).bs=s:=rfl
@[simp] theorem bs_sg (s:Bs):(sgP s).bs=s:=rfl
@[simp] theorem ts_nm (s:Bs):(nmP s).ts=[nmT s]:=rfl
@[simp] theorem ts_sg (s:Bs):(sgP s).ts=[sgT s]:=rfl
@[simp] theorem bs_tok (s:Bs) (t:T0):(Pc.tok s t).bs=s:=rfl
@[simp] theorem ts_tok (s:Bs) (t:T0):(Pc.tok s t).ts=[t]:=rfl
theorem Yj (k:Bs):Znl spP k:=by show ws.contains 32=true;decide
theorem Zkr (k:Bs):Znl nlP k:=by show ws.contains 10=true;decide
def ZbZ (sep:List Pc):List (List Pc)→List Pc
 | []=>[]
 | x::l=>sep++(x++ZbZ sep l)
def Wz (sep:List Pc):List (List Pc)→List Pc
 | []=>[]
 | x::l=>x++ZbZ sep l
def cmP:List Pc:=[sgP [44],spP]
def ZAO:List Pc:=[spP,sgP [124],spP]
theorem Zdf (sep:Bs):∀(x:Bs) (l:List Bs),Zg sep (x::l)=x++(l.map fun y=>sep++y).flatten
 | x,[]=>by simp [Zg]
 | x,y::l=>by rw [Zg,Zdf sep y l];simp;intro h;cases h
theorem ZiO (sep:List Pc):∀l:List (List Pc),bsP (ZbZ sep l)=((l.map bsP).map fun y=>bsP sep++y).flatten
 | []=>rfl
 | x::l=>by simp [ZbZ,ZiO sep l]
theorem ZiP {sep:List Pc} {w:Bs} (h:tsP sep=[sgT w]):∀l:List (List Pc),tsP (ZbZ sep l)=UB w (l.map tsP)
 | []=>rfl
 | x::l=>by simp [ZbZ,UB,ZiP h l,h]
theorem Vc (sep:List Pc) (l:List (List Pc)):bsP (Wz sep l)=Zg (bsP sep) (l.map bsP):=by
 cases l with
 | nil=>rfl
 | cons x l=>rw [Tz,Zdf,Wz,bsP_app,ZiO]
theorem Vd {sep:List Pc} {w:Bs} (h:tsP sep=[sgT w]) (l:List (List Pc)):tsP (Wz sep l)=Ya w (l.map tsP):=by
 cases l with
 | nil=>rfl
 | cons x l=>rw [Tz,Ya,Wz,tsP_app,ZiP h]
theorem ZiQ {sep:List Pc} {Ok:Bs→Prop} (hsep:∀x,VF sep x) (hOk:∀x,Ok (bsP sep++x)):∀(l:List (List Pc)) (k:Bs),Ok k→(∀x∈l,∀k,Ok k→VF x k)→VF (ZbZ sep l) k∧Ok (bsP (ZbZ sep l)++k)
 | [],k,hk,h=>⟨trivial,hk⟩
 | x::l,k,hk,h=>by
  obtain ⟨h1,h2⟩:=ZiQ hsep hOk l k hk fun y hy=>h y (Tp _ hy)
  rw [ZbZ]
  refine ⟨?_,?_⟩
  ·rw [Ym,Ym]
   exact ⟨hsep _,h x (by simp) _ h2,h1⟩
  ·rw [bsP_app,Tg];exact hOk _
theorem WC {sep:List Pc} {Ok:Bs→Prop} (hsep:∀x,VF sep x) (hOk:∀x,Ok (bsP sep++x)) {l:List (List Pc)} {k:Bs} (hk:Ok k) (h:∀x∈l,∀k,Ok k→VF x k):VF (Wz sep l) k:=by
 cases l with
 | nil=>exact trivial
 | cons x l =>
  obtain ⟨h1,h2⟩:=ZiQ hsep hOk l k hk fun y hy=>h y (Tp _ hy)
  rw [Wz,Ym]
  exact ⟨h x (by simp) _ h2,h1⟩
def Aft (k:Bs):Prop:=k=[]∨(∃c z,k=c::z∧c∈([32,41,44,93]:Bs))∨k=[46]∨∃z,k=46::10::z
theorem VW {c:UInt8} (hc:c∈([32,41,44,93]:Bs)) (z:Bs):Aft (c::z):=.inr (.inl ⟨c,z,rfl,hc⟩)
theorem ZzL {c:UInt8} (h:c.toNat<128∧Zi c.toNat=false∧Zo c.toNat=false∧c≠46) (z:Bs):Fol c z:=⟨h.1,h.2.1,h.2.2.1,fun e=>absurd e h.2.2.2⟩
def Zsf:Bs:=[32,41,44,93,58,40,10,60,62,125,123]
theorem ZJ {c:UInt8} (hc:c∈Zsf) (z:Bs):Znm (c::z):=by
 have h:∀c∈Zsf,c.toNat<128∧Zi c.toNat=false∧Zo c.toNat=false∧c≠46:=by decide
 exact .inr ⟨c,z,rfl,ZzL (h c hc) z⟩
theorem ZwB {k:Bs} (h:Aft k):Znm k:=by
 rcases h with rfl | ⟨c,z,rfl,hc⟩ | rfl | ⟨z,rfl⟩
 ·exact .inl rfl
 ·have h:∀c∈([32,41,44,93]:Bs),c∈Zsf:=by decide
  exact ZJ (h c hc) z
 ·exact .inr ⟨46,[],rfl,by decide,by decide,by decide,fun _=>by rw [Zau];decide⟩
 ·exact .inr ⟨46,10::z,rfl,by decide,by decide,by decide,fun _=>by rw [ZeM (by decide)];decide⟩
theorem Ys {s:Bs} (h:YF s=true):Vs s=true:=by
 simp only [YF,Tk] at h;exact h.1
def Zks:List Bs:=[[40],[41],[91],[93],[123],[125],[44],[46],[61],[43],[45],[42],[37],[124],[36],[126],[58,45],[33,61],[60,61],[62,61],[60,58]]
theorem Yb {w:Bs} (hw:w∈Zks) (k:Bs):Znl (sgP w) k:=by
 have h:∀w∈Zks,(w∈twos∨w∈ones.map fun b=>[b])∧(w≠[58]∧w≠[33]∧w≠[60]∧w≠[62]∧w≠[47]):=by decide
 obtain ⟨h1,h2⟩:=h w hw
 exact ZwA ⟨h1,.inl h2⟩
theorem Zbc {w:Bs} (hw:w∈twos∨w∈ones.map fun b=>[b]) {c:UInt8} (hc:c=32∨c=10) (z:Bs):Znl (sgP w) (c::z):=by
 refine ZwA ⟨hw,.inr (.inr ⟨c,z,rfl,?_⟩)⟩
 rcases hc with rfl | rfl <;> decide
theorem Zp7 {w:Bs} (hw:w∈ones.map fun b=>[b]) {s:Bs} (hs:Vs s=true) (k:Bs):Znl (sgP w) (s++k):=by
 obtain ⟨b,z,rfl,h1,h2,h3,h4,h5,h6,h7⟩:=ZlR hs
 exact ZwA ⟨.inr hw,.inr (.inr ⟨b,z++k,rfl,h4,h5,h6,h3,h7⟩)⟩
theorem Zno (k:Bs):VF cmP k:=⟨Yb (by decide) _,Yj _,trivial⟩
def opP (op:Nat):Pc:=if 15≤op∧op≤19 then nmP (ZM op) else sgP (ZM op)
def ZgX (want:Nat) (p:Nat×List Pc):List Pc:=if p.1<want then sgP [40]::(p.2++[sgP [41]]) else p.2
def ZqN (w1 w2:Nat) (mid:List Pc):List (Nat×List Pc)→List Pc
 | []=>[]
 | [a]=>ZgX w1 a
 | a::b::_=>ZgX w1 a++(mid++ZgX w2 b)
def brP (fr fin:Bs) (ps:List (List Pc)):List Pc:=sgP fr::(Wz cmP ps++[sgP fin])
def ZwC (op:Nat) (text:Bs) (n:Int) (ps:List (Nat×List Pc)):List Pc :=
 if Zm op<5 then ZqN (Zm op) (Zm op+1) [spP,opP op,spP] ps
 else if Zm op=5 then sgP (ZM op)::ZqN 5 5 [] ps
 else if ZM op≠[] then nmP (ZM op)::brP [40] [41] (ps.map Prod.snd)
 else if op=6 then brP [91] [93] (ps.map Prod.snd)
 else if op=7 then sgP [36]::nmP text::(if ps.length=0 then [] else brP [40] [41] (ps.map Prod.snd))
 else if op=3 then [.tok (Zdz n) ⟨2,[],n⟩]
 else if op=4 then [.tok (Zpf text) ⟨3,text,0⟩]
 else if op=5 then [nmP [110,105,108]]
 else if op=2 then [nmP [95]]
 else [nmP text]
mutual
def exP:Ex→List Pc
 | .mk op text n args _=>ZwC op text n (ZeY args)
def ZeY:List Ex→List (Nat×List Pc)
 | []=>[]
 | e::l=>(Zm (opE e),exP e)::ZeY l
end
theorem Zsg (l:List Ex):ZeY l=l.map fun e=>(Zm (opE e),exP e):=by induction l with | nil=>rfl | cons x l ih=>simp [ZeY,ih]
theorem ZzM (op:Nat) (t:Bs) (n:Int) (l:List Ex) (a:Nat):exP (.mk op t n l a)=ZwC op t n (ZeY l):=by rw [exP]
def bs2 (p:Nat×List Pc):Nat×Bs:=(p.1,bsP p.2)
def ts2 (p:Nat×List Pc):Nat×Ts:=(p.1,tsP p.2)
theorem ZlS (w:Nat) (p:Nat×List Pc):bsP (ZgX w p)=Zpg w (bs2 p):=by
 unfold ZgX Zpg bs2
 simp only
 split <;> simp
theorem ZlT (w:Nat) (p:Nat×List Pc):tsP (ZgX w p)=Zjb w (ts2 p):=by
 unfold ZgX Zjb ts2
 simp only
 split <;> simp
theorem Zp8 (w1 w2:Nat) (mid:List Pc) (l:List (Nat×List Pc)):bsP (ZqN w1 w2 mid l)=exA w1 w2 (bsP mid) (l.map bs2):=by
 match l with
 | []=>rfl
 | [a]=>simp [ZqN,exA,ZlS]
 | a::b::l=>simp [ZqN,exA,ZlS]
theorem Zp9 (w1 w2:Nat) (mid:List Pc) (l:List (Nat×List Pc)):tsP (ZqN w1 w2 mid l)=Zzk w1 w2 (tsP mid) (l.map ts2):=by
 match l with
 | []=>rfl
 | [a]=>simp [ZqN,Zzk,ZlT]
 | a::b::l=>simp [ZqN,Zzk,ZlT]
theorem Zqa:bsP cmP=cmm:=rfl
theorem Zqb:tsP cmP=[sgT [44]]:=rfl
theorem ZeZ (fr fin:Bs) (l:List (List Pc)):bsP (brP fr fin l)=fr++(Zg cmm (l.map bsP)++fin):=by simp [brP,Vc,Zqa]
theorem Ze0 (fr fin:Bs) (l:List (List Pc)):tsP (brP fr fin l)=brK fr fin (l.map tsP):=by simp [brP,brK,Vd Zqb]
theorem ZzN (op:Nat):(opP op).bs=ZM op:=by unfold opP;split <;> rfl
theorem ZzO (op:Nat):(opP op).ts=[opT op]:=by unfold opP opT;split <;> rfl
theorem Zkt (l:List (Nat×List Pc)):(l.map Prod.snd).map bsP=(l.map bs2).map Prod.snd:=by rw [TL,TL];rfl
theorem Zku (l:List (Nat×List Pc)):(l.map Prod.snd).map tsP=(l.map ts2).map Prod.snd:=by rw [TL,TL];rfl
theorem ZwD (op:Nat) (t:Bs) (n:Int) (l:List (Nat×List Pc)):bsP (ZwC op t n l)=exN op t n (l.map bs2):=by
 unfold ZwC exN
 split
 ·rw [Zp8];simp [ZzN]
 split
 ·rw [bsP_cons,Zp8];rfl
 split
 ·rw [bsP_cons,ZeZ,Zkt];rfl
 split
 ·rw [ZeZ,Zkt]
 split
 ·rw [bsP_cons,bsP_cons,Te]
  split
  ·rfl
  ·rw [ZeZ,Zkt];rfl
 split
 ·simp
 split
 ·simp
 split
 ·simp
 split
 ·simp
 ·simp
theorem ZwE (op:Nat) (t:Bs) (n:Int) (l:List (Nat×List Pc)):tsP (ZwC op t n l)=ZlE op t n (l.map ts2):=by
 unfold ZwC ZlE
 split
 ·rw [Zp9];simp [ZzO]
 split
 ·rw [tsP_cons,Zp9];rfl
 split
 ·rw [tsP_cons,Ze0,Zku];rfl
 split
 ·rw [Ze0,Zku]
 split
 ·rw [tsP_cons,tsP_cons,Te]
  split
  ·rfl
  ·rw [Ze0,Zku];rfl
 split
 ·simp
 split
 ·simp
 split
 ·simp
 split
 ·simp
 ·simp
mutual
theorem ZlU:∀e:Ex,bsP (exP e)=exT e
 | .mk op t n l a=>by rw [exP,exT,ZwD,ZlV l]
theorem ZlV:∀l:List Ex,(ZeY l).map bs2=Zhm l
 | []=>by rw [ZeY,Zhm];rfl
 | x::l=>by rw [ZeY,Zhm,Tz,ZlV l,bs2,ZlU x]
end
mutual
theorem ZlW:∀e:Ex,tsP (exP e)=exK e
 | .mk op t n l a=>by rw [exP,exK,ZwE,ZlX l]
theorem ZlX:∀l:List Ex,(ZeY l).map ts2=ZqK l
 | []=>by rw [ZeY,ZqK];rfl
 | x::l=>by rw [ZeY,ZqK,Tz,ZlX l,ts2,ZlW x]
end
theorem ZBN {op:Nat} (h:-2<Yq op):(Zm op<5→(15≤op∧op≤19→Vs (ZM op)=true)∧(¬(15≤op∧op≤19)→ZM op∈ones.map fun b=>[b]))∧(Zm op=5→ZM op∈Zks)∧(Zm op=6→ZM op≠[]→Vs (ZM op)=true):=by
 have h1:∀o:Fin 26,-2<Yq o.val→Zm o.val<5→15≤o.val∧o.val≤19→Vs (ZM o.val)=true:=by decide +kernel
 have h2:∀o:Fin 26,-2<Yq o.val→Zm o.val<5→¬(15≤o.val∧o.val≤19)→ZM o.val∈ones.map fun b=>[b]:=by decide +kernel
 have h3:∀o:Fin 26,-2<Yq o.val→Zm o.val=5→ZM o.val∈Zks:=by decide +kernel
 have h4:∀o:Fin 26,-2<Yq o.val→Zm o.val=6→ZM o.val≠[]→Vs (ZM o.val)=true:=by decide +kernel
 obtain ⟨o,ho⟩:∃o:Fin 26,o.val=op:=⟨⟨op,ZrX h⟩,rfl⟩
 subst ho
 exact ⟨fun c=>⟨h1 o h c,h2 o h c⟩,h3 o h,h4 o h⟩
theorem ZgY {w:Nat} {p:Nat×List Pc} {k:Bs} (hk:Aft k) (h:∀k,Aft k→VF p.2 k):VF (ZgX w p) k:=by
 unfold ZgX
 split
 ·refine ⟨Yb (by decide) _,(Ym _ _ _).2 ⟨h _ ?_,Yb (by decide) _,trivial⟩⟩
  simp only [bsP_cons,bs_sg,bsP_nil,TC,Tm,To]
  exact VW (by decide) _
 ·exact h k hk
theorem Zf0 {fr fin:Bs} (hfr:fr∈Zks) (hfin:fin∈[[41],[93]]) {l:List (List Pc)} (h:∀x∈l,∀k,Aft k→VF x k) (k:Bs):VF (brP fr fin l) k:=by
 have hk:∀w∈[[41],[93]],w∈Zks∧w=[w.getD 0 0]∧w.getD 0 0∈([32,41,44,93]:Bs):=by decide
 obtain ⟨h1,h3,h2⟩:=hk fin hfin
 generalize fin.getD 0 0=c at h2 h3
 subst h3
 refine ⟨Yb hfr _,(Ym _ _ _).2 ⟨WC Zno (fun x=>?_) ?_ h,Yb h1 _,trivial⟩⟩
 ·exact VW (by decide) _
 ·simp only [bsP_cons,bs_sg,bsP_nil,TC,Tm,To]
  exact VW h2 _
theorem ZzP:∀(n:Nat) (e:Ex),SizeOf.sizeOf e<n→Z7 e=true→ZdB e=true→∀k,Aft k→VF (exP e) k
 | 0,e,h,_,_=>by omega
 | q+1,.mk op t n l a,h,hm,hr=>fun k hk=>by
  obtain ⟨m1,m2,m3,m4,m5⟩:=ZgS hm
  obtain ⟨f1,f2,f3,f4,f5⟩:=ZdC m1
  obtain ⟨p1,p2,p3⟩:=ZBN m1
  obtain ⟨r1,r2⟩:=ZcA hr
  have ih:∀x∈l,∀k,Aft k→VF (exP x) k:=fun x hx=>ZzP q x (ZrY h hx) (m5 x hx) (r2 x hx)
  have ihm:∀x∈l.map exP,∀k,Aft k→VF x k:=fun x hx=>by obtain ⟨y,hy,rfl⟩:=Sd.1 hx;exact ih y hy
  rw [ZzM,Zsg]
  unfold ZwC
  by_cases c1:Zm op<5
  ·obtain ⟨x,y,rfl⟩:=ZaD (l:=l) (by have:=f1 c1;omega)
   rw [Th c1]
   simp only [Tz,TG,ZqN]
   refine (Ym _ _ _).2 ⟨ZgY ?_ (ih x (by simp)),(Ym _ _ _).2 ⟨⟨Yj _,?_,Yj _,trivial⟩,ZgY hk (ih y (by simp))⟩⟩
   ·simp only [Tm,bsP_cons,bs_sp,To]
    exact VW (by decide) _
   ·simp only [bsP_cons,bs_sp,Tm,To,bsP_nil]
    unfold opP
    split
    ·rename_i c;exact YW ((p1 c1).1 c) (ZJ (by decide) _)
    ·rename_i c;exact Zbc (.inr ((p1 c1).2 c)) (.inl rfl) _
  rw [Tf c1]
  by_cases c2:Zm op=5
  ·obtain ⟨x,rfl⟩:=ZeP (l:=l) (by have:=f2 c2;omega)
   rw [Th c2]
   simp only [Tz,TG,ZqN]
   exact ⟨Yb (p2 c2) _,ZgY hk (ih x (by simp))⟩
  have c3:Zm op=6:=by omega
  rw [Tf c2]
  have hsnd:(l.map fun e=>(Zm (opE e),exP e)).map Prod.snd=l.map exP:=by rw [TL];rfl
  rw [hsnd]
  by_cases c4:ZM op≠[]
  ·rw [Th c4]
   exact ⟨YW (p3 c3 c4) (ZJ (c:=40) (by decide) _),Zf0 (by decide) (by decide) ihm k⟩
  rw [Tf c4]
  have hf:=ZwB hk
  rcases f5 c3 (by simpa using c4) with rfl | rfl | rfl | rfl | rfl | rfl | rfl
  ·exact ⟨YW (Ys (ZbX m4 (.inl rfl))) hf,trivial⟩
  ·exact ⟨YW (by decide +kernel) hf,trivial⟩
  ·exact ⟨ZzK r1.1 r1.2 hf,trivial⟩
  ·have hq:(Uv t).isSome=true:=by unfold W6 at m4;rw [Tf (by decide),Th rfl] at m4;exact m4
   obtain ⟨v,hv⟩:=Option.isSome_iff_exists.1 hq
   have:Zpf t=v:=by rw [Zpf,hv];rfl
   show VF [.tok (Zpf t) ⟨3,t,0⟩] k
   rw [this]
   exact ⟨ZzJ hv hf,trivial⟩
  ·exact ⟨YW (by decide +kernel) hf,trivial⟩
  ·exact Zf0 (by decide) (by decide) ihm k
  ·have hn:=Ys (ZbX m4 (.inr rfl))
   show VF (sgP [36]::nmP t::(if (l.map fun e=>(Zm (opE e),exP e)).length=0 then [] else brP [40] [41] (l.map exP))) k
   rw [Te]
   by_cases hl:l.length=0
   ·rw [Th hl]
    exact ⟨Yb (by decide) _,YW hn hf,trivial⟩
   ·rw [Tf hl]
    exact ⟨Yb (by decide) _,YW hn (ZJ (c:=40) (by decide) _),Zf0 (by decide) (by decide) ihm k⟩
theorem Zs7 {e:Ex} (h:Z7 e=true) (hr:ZdB e=true) {k:Bs} (hk:Aft k):VF (exP e) k:=ZzP _ e (Sf _) h hr k hk
def ZwF (op:Nat):List Pc:=[spP,sgP (Zr2 op),spP]
def Zs8:List Ex→List Pc
 | []=>[]
 | e::_=>exP e
def ZwG (l:List Ex):List Pc:=(l.map fun e=>spP::exP e).flatten
mutual
def liP:Li→List Pc
 | .mk op rel args body _ =>
  if op=2 then sgP [33]::nmP rel::brP [40] [41] (args.map exP)
  else if op=1 then nmP rel::brP [40] [41] (args.map exP)
  else if op≤8 then Zs8 args++(ZwF op++Zs8 args.tail)
  else Zs8 args++(spP::sgP [61]::spP::nmP (JO op)::(ZwG args.tail++(spP::sgP [58]::spP::sgP [123]::spP::(Wz cmP (ZqO body)++[spP,sgP [125]]))))
def ZqO:List Li→List (List Pc)
 | []=>[]
 | e::l=>liP e::ZqO l
end
theorem Zkv (l:List Li):ZqO l=l.map liP:=by induction l with | nil=>rfl | cons x l ih=>simp [ZqO,ih]
theorem Zkw (l:List Ex):bsP (Zs8 l)=Ziy l:=by cases l with | nil=>rfl | cons x l=>exact ZlU x
theorem Zkx (l:List Ex):tsP (Zs8 l)=ZqL l:=by cases l with | nil=>rfl | cons x l=>exact ZlW x
theorem ZwH (l:List Ex):bsP (ZwG l)=Zlv l:=by
 unfold ZwG Zlv
 rw [ZlP,TL]
 congr 1
 refine TV fun x _=>?_
 simp [ZlU]
theorem ZwI (l:List Ex):tsP (ZwG l)=(l.map exK).flatten:=by
 unfold ZwG
 rw [ZlQ,TL]
 congr 1
 refine TV fun x _=>?_
 simp [ZlW]
theorem ZgZ (l:List Ex):(l.map exP).map bsP=ZsW l:=by rw [TL];exact TV fun x _=>ZlU x
theorem Zg0 (l:List Ex):(l.map exP).map tsP=l.map exK:=by rw [TL];exact TV fun x _=>ZlW x
theorem ZwJ {op:Nat}:bsP (ZwF op)=Zpi op:=by
 unfold ZwF Zr2 Zpi
 (repeat' split) <;> rfl
theorem ZwK {op:Nat}:tsP (ZwF op)=[sgT (Zr2 op)]:=by simp [ZwF]
mutual
theorem ZzQ:∀x:Li,bsP (liP x)=liT x
 | .mk op rel args body a=>by
  rw [liP,liT]
  split
  ·rw [bsP_cons,bsP_cons,ZeZ,ZgZ];rfl
  split
  ·rw [bsP_cons,ZeZ,ZgZ];rfl
  split
  ·rw [bsP_app,bsP_app,Zkw,Zkw,ZwJ]
  ·simp only [bsP_app,bsP_cons,bsP_nil,Zkw,ZwH,Vc,Zqa,Zky body,bs_sp,bs_sg,bs_nm,TC,Tm,To]
theorem Zky:∀l:List Li,(ZqO l).map bsP=Zhn l
 | []=>by rw [ZqO,Zhn];rfl
 | x::l=>by rw [ZqO,Zhn,Tz,ZzQ x,Zky l]
end
mutual
theorem ZzR:∀x:Li,tsP (liP x)=liK x
 | .mk op rel args body a=>by
  rw [liP,liK]
  split
  ·rw [tsP_cons,tsP_cons,Ze0,Zg0];rfl
  split
  ·rw [tsP_cons,Ze0,Zg0];rfl
  split
  ·rw [tsP_app,tsP_app,Zkx,Zkx,ZwK];rfl
  ·simp only [tsP_app,tsP_cons,tsP_nil,Zkx,ZwI,Vd Zqb,Zkz body,ts_sp,ts_sg,ts_nm,TC,Tm,To]
theorem Zkz:∀l:List Li,(ZqO l).map tsP=Zwr l
 | []=>by rw [ZqO,Zwr];rfl
 | x::l=>by rw [ZqO,Zwr,Tz,ZzR x,Zkz l]
end
theorem ZwL {op:Nat} (k:Bs):VF (ZwF op) k:=by
 refine ⟨Yj _,?_,Yj _,trivial⟩
 simp only [bsP_cons,bs_sp,bsP_nil,TC,Tm,To]
 refine Zbc ?_ (.inl rfl) _
 unfold Zr2
 (repeat' split) <;> decide
theorem ZzS:∀(n:Nat) (x:Li),SizeOf.sizeOf x<n→Xj x=true→ZgN x=true→∀k,Aft k→VF (liP x) k
 | 0,x,h,_,_=>by omega
 | q+1,.mk op rel args body a,h,hm,hr=>fun k hk=>by
  obtain ⟨m1,m2,m3⟩:=Zkl hm
  obtain ⟨r1,r2⟩:=Zkd hr
  have ih:∀x∈body,∀k,Aft k→VF (liP x) k:=fun x hx=>ZzS q x (Zs4 h hx) (m3 x hx) (r2 x hx)
  have he:∀x∈args,∀k,Aft k→VF (exP x) k:=fun x hx k hk=>Zs7 (m2 x hx) (r1 x hx) hk
  have hem:∀x∈args.map exP,∀k,Aft k→VF x k:=fun x hx=>by obtain ⟨y,hy,rfl⟩:=Sd.1 hx;exact he y hy
  have hbm:∀x∈body.map liP,∀k,Aft k→VF x k:=fun x hx=>by obtain ⟨y,hy,rfl⟩:=Sd.1 hx;exact ih y hy
  have hag:Vs (JO op)=true:=by unfold JO;(repeat' split) <;> decide +kernel
  have aftsp:∀z:Bs,Aft (32::z):=fun z=>VW (by decide) z
  rw [liP,Zkv]
  rcases Zkm m1 with ⟨c,hn,hb⟩ | ⟨c1,c2,rfl,ha,hb⟩ | ⟨rfl,rfl,ha,hb⟩ | ⟨c1,c2,rfl,ha,hb⟩
  ·rcases c with rfl | rfl
   ·rw [Tf (by decide),Th rfl]
    exact ⟨YW (Ys hn) (ZJ (c:=40) (by decide) _),Zf0 (by decide) (by decide) hem k⟩
   ·rw [Th rfl]
    refine ⟨?_,YW (Ys hn) (ZJ (c:=40) (by decide) _),Zf0 (by decide) (by decide) hem k⟩
    rw [bsP_cons,bs_nm,Tg]
    exact Zp7 (by decide) (Ys hn) _
  ·obtain ⟨x,y,rfl⟩:=ZaD ha
   rw [Tf (by omega),Tf (by omega),Th c2]
   simp only [Zs8,TJ]
   refine (Ym _ _ _).2 ⟨he x (by simp) _ ?_,(Ym _ _ _).2 ⟨ZwL _,he y (by simp) k hk⟩⟩
   rw [ZwF]
   simp only [Tm,bsP_cons,bs_sp,To]
   exact aftsp _
  ·obtain ⟨x,rfl⟩:=ZeP ha
   rw [Tf (by omega),Tf (by omega),Tf (by omega)]
   simp only [Zs8,TJ,ZwG,TG,Sl,To]
   refine (Ym _ _ _).2 ⟨he x (by simp) _ ?_,Yj _,Yb (by decide) _,Yj _,YW hag ?_,Yj _,?_,Yj _,Yb (by decide) _,Yj _,(Ym _ _ _).2 ⟨WC Zno (fun x=>VW (by decide) _) ?_ hbm,Yj _,Yb (by decide) _,trivial⟩⟩
   ·exact m126
   ·simp only [bsP_cons,bs_sp,Tm,To];exact ZJ (by decide) _
   ·simp only [bsP_cons,bs_sp,Tm,To];exact Zbc (by decide) (.inl rfl) _
   ·exact m126
  ·obtain ⟨x,y,rfl⟩:=ZaD ha
   rw [Tf (by omega),Tf (by omega),Tf (by omega)]
   simp only [Zs8,TJ,ZwG,Tz,TG,Sg,Sl,To,TC,Tm]
   refine (Ym _ _ _).2 ⟨he x (by simp) _ ?_,Yj _,Yb (by decide) _,Yj _,YW hag ?_,Yj _,(Ym _ _ _).2 ⟨he y (by simp) _ ?_,Yj _,?_,Yj _,Yb (by decide) _,Yj _,(Ym _ _ _).2 ⟨WC Zno (fun x=>VW (by decide) _) ?_ hbm,Yj _,Yb (by decide) _,trivial⟩⟩⟩
   ·exact m126
   ·simp only [bsP_cons,bs_sp,Tm,To];exact ZJ (by decide) _
   ·exact m126
   ·simp only [bsP_cons,bs_sp,Tm,To];exact Zbc (by decide) (.inl rfl) _
   ·exact m126
theorem ZzT {x:Li} (h:Xj x=true) (hr:ZgN x=true) {k:Bs} (hk:Aft k):VF (liP x) k:=ZzS _ x (Sf _) h hr k hk
end Go.PM.Lex
end

section
namespace Go.PM.Lex
def ifP:List Pc:=[spP,sgP [58,45],spP]
def ruP (r:Ru):List Pc:=nmP r.head::(brP [40] [41] (r.args.map exP)++((if 0<r.body.length then ifP++Wz cmP (r.body.map liP) else [])++[sgP [46]]))
theorem ZwM (l:List Li):(l.map liP).map bsP=Zhn l:=by rw [← Zkv,Zky]
theorem ZwN (l:List Li):(l.map liP).map tsP=l.map liK:=by rw [← Zkv,Zkz,ZpN]
theorem ZzU (r:Ru):bsP (ruP r)=ruT r:=by
 unfold ruP ruT Wl
 split
 ·simp [-List.map_map,ZeZ,ZgZ,Vc,Zqa,ZwM,ifP]
 ·simp [-List.map_map,ZeZ,ZgZ]
theorem ZzV (r:Ru):tsP (ruP r)=ruK r:=by
 unfold ruP ruK
 split
 ·simp [-List.map_map,Ze0,Zg0,Vd Zqb,ZwN,ifP]
 ·simp [-List.map_map,Ze0,Zg0]
theorem ZzW {r:Ru} (h:XF r=true) (hr:ZbR r=true) {k:Bs} (hk:k=[]∨∃z,k=10::z):VF (ruP r) k:=by
 obtain ⟨h1,h2,h3⟩:=ZdD h
 simp only [ZbR,Tk] at hr
 have r1:=Tl.1 hr.1
 have r2:=Tl.1 hr.2
 refine ⟨YW (Ys h1) (ZJ (c:=40) (by decide) _),(Ym _ _ _).2 ⟨Zf0 (by decide) (by decide) (fun x hx=>?_) _,(Ym _ _ _).2 ⟨?_,Yb (by decide) _,trivial⟩⟩⟩
 ·obtain ⟨y,hy,rfl⟩:=Sd.1 hx
  exact fun k hk=>Zs7 (h2 y hy) (r1 y hy) hk
 ·split
  ·refine (Ym _ _ _).2 ⟨⟨Yj _,Yb (by decide) _,Yj _,trivial⟩,WC (Ok:=Aft) Zno (fun x=>?_) ?_ fun x hx=>?_⟩
   ·exact VW (by decide) _
   ·simp only [bsP_cons,bs_sg,bsP_nil,TC,Tm,To]
    rcases hk with rfl | ⟨z,rfl⟩
    ·exact .inr (.inr (.inl rfl))
    ·exact .inr (.inr (.inr ⟨z,rfl⟩))
   ·obtain ⟨y,hy,rfl⟩:=Sd.1 hx
    exact fun k hk=>ZzT (h3 y hy) (r2 y hy) hk
  ·exact trivial
def fiP (f:Fi):List Pc:=[nmP f.name,sgP [58],spP,nmP f.typ]
def Zs9 (l:List Fi) (fin:Bs):List Pc:=Wz cmP (l.map fiP)++[sgP fin]
theorem ZzX (f:Fi):bsP (fiP f)=fiT f:=by simp [fiP,fiT]
theorem ZzY (f:Fi):tsP (fiP f)=fiK f:=by simp [fiP,fiK]
theorem ZwO (l:List Fi):(l.map fiP).map bsP=l.map fiT:=by rw [TL];exact TV fun x _=>ZzX x
theorem ZwP (l:List Fi):(l.map fiP).map tsP=l.map fiK:=by rw [TL];exact TV fun x _=>ZzY x
theorem ZkA (fr:Bs) (l:List Fi) (fin:Bs):fr++bsP (Zs9 l fin)=V3 fr l fin:=by simp [-List.map_map,Zs9,V3,Vc,Zqa,ZwO]
theorem ZkB (fr:Bs) (l:List Fi) (fin:Bs):sgT fr::tsP (Zs9 l fin)=Zs5 fr l fin:=by simp [-List.map_map,Zs9,Zs5,Vd Zqb,ZwP]
theorem ZkC {l:List Fi} (h:∀f∈l,YY f=true) {fin:Bs} (hfin:fin∈[[41],[93],[125]]) (k:Bs):VF (Zs9 l fin) k:=by
 have hk:∀w∈[[41],[93],[125]],w∈Zks∧w=[w.getD 0 0]∧w.getD 0 0∈Zsf:=by decide
 obtain ⟨h1,h3,h2⟩:=hk fin hfin
 generalize fin.getD 0 0=c at h2 h3
 subst h3
 refine (Ym _ _ _).2 ⟨WC (Ok:=Znm) Zno (fun x=>ZJ (c:=44) (by decide) _) ?_ fun x hx=>?_,Yb h1 _,trivial⟩
 ·simp only [bsP_cons,bs_sg,bsP_nil,TC,Tm,To]
  exact ZJ h2 _
 ·obtain ⟨f,hf,rfl⟩:=Sd.1 hx
  obtain ⟨f1,f2⟩:=ZgT (h f hf)
  exact fun k hk=>⟨YW (Ys f1) (ZJ (c:=58) (by decide) _),Zbc (by decide) (.inl rfl) _,Yj _,YW (Ys f2) hk,trivial⟩
def Zsh (l:List Bs):List Pc:=if l.length=0 then [] else sgP [60]::(Wz cmP (l.map fun s=>[nmP s])++[sgP [62]])
theorem ZwQ (l:List Bs):(l.map fun s=>[nmP s]).map bsP=l:=by rw [TL];simp [Function.comp_def]
theorem ZwR (l:List Bs):(l.map fun s=>[nmP s]).map tsP=l.map fun s=>[nmT s]:=by rw [TL];exact TV fun x _=>by simp
theorem Ze1 (l:List Bs):bsP (Zsh l)=Jl l:=by
 unfold Zsh Jl
 split
 ·rfl
 ·simp [-List.map_map,Vc,Zqa,ZwQ]
theorem Zqc (l:List Bs):tsP (Zsh l)=Zr6 l:=by
 unfold Zsh Zr6
 split
 ·rfl
 ·simp [-List.map_map,Vd Zqb,ZwR]
theorem Zg1 {l:List Bs} (h:∀s∈l,YF s=true) {c:UInt8} (hc:c=32∨c=10) (z:Bs):VF (Zsh l) (c::z):=by
 unfold Zsh
 split
 ·exact trivial
 ·rename_i hl
  refine ⟨?_,(Ym _ _ _).2 ⟨WC (Ok:=Znm) Zno (fun x=>ZJ (c:=44) (by decide) _) ?_ fun x hx=>?_,Zbc (by decide) hc _,trivial⟩⟩
  ·match l,hl,h with
   | s::l,_,h =>
    simp only [Tz,Wz,bsP_app,bsP_cons,bsP_nil,bs_nm,TC,Tg]
    exact Zp7 (by decide) (Ys (h s (by simp))) _
  ·exact ZJ (c:=62) (by decide) _
  ·obtain ⟨s,hs,rfl⟩:=Sd.1 hx
   exact fun k hk=>⟨YW (Ys (h s hs)) (by simpa using hk),trivial⟩
theorem ZkD (l:List Bs) (z:Bs):Znm (Jl l++32::z):=by
 unfold Jl
 split
 ·exact ZJ (c:=32) (by decide) _
 ·exact ZJ (c:=60) (by decide) _
theorem Zqd (l:List Bs) (z:Bs):Znm (Jl l++10::z):=by
 unfold Jl
 split
 ·exact ZJ (c:=10) (by decide) _
 ·exact ZJ (c:=60) (by decide) _
def caP (c:Ca):List Pc:=nmP c.name::spP::sgP [123]::Zs9 c.fields [125]
theorem ZzZ (c:Ca):bsP (caP c)=caT c:=by
 rw [caT,← ZkA];simp [caP]
theorem Zz0 (c:Ca):tsP (caP c)=caK c:=by
 rw [caK,← ZkB];simp [caP]
theorem Zz1 {c:Ca} (h:XN c=true) (k:Bs):VF (caP c) k:=by
 obtain ⟨h1,h2⟩:=ZgU h
 exact ⟨YW (Ys h1) (ZJ (c:=32) (by decide) _),Yj _,Yb (by decide) _,ZkC h2 (by decide) k⟩
theorem Zz2:bsP ZAO=[32,124,32]:=rfl
theorem Zz3:tsP ZAO=[sgT [124]]:=rfl
theorem Zz4 (k:Bs):VF ZAO k:=⟨Yj _,Yb (by decide) _,Yj _,trivial⟩
def tyP (t:Ty):List Pc:=nmP [116,121,112,101]::spP::nmP t.name::((if t.kind=1 then [spP,sgP [60,58],spP,nmP t.base] else if t.kind=2 then spP::sgP [61]::spP::sgP [91]::Zs9 t.fields [93] else spP::sgP [61]::spP::Wz ZAO (t.cases.map caP))++[nlP])
theorem ZwS (l:List Ca):(l.map caP).map bsP=l.map caT:=by rw [TL];exact TV fun x _=>ZzZ x
theorem ZwT (l:List Ca):(l.map caP).map tsP=l.map caK:=by rw [TL];exact TV fun x _=>Zz0 x
theorem Zz5 (t:Ty):bsP (tyP t)=tyT t:=by
 unfold tyP tyT
 split
 ·simp
 split
 ·rw [← ZkA];simp
 ·simp [-List.map_map,Vc,Zz2,ZwS]
theorem Zz6 (t:Ty):tsP (tyP t)=tyK t:=by
 unfold tyP tyK
 split
 ·simp
 split
 ·rw [← ZkB];simp
 ·simp [-List.map_map,Vd Zz3,ZwT]
theorem Ji (z:Bs):Znm (32::z):=ZJ (by decide) z
theorem Zz7 {t:Ty} (h:YH t=true) (k:Bs):VF (tyP t) k:=by
 obtain ⟨h1,h2,h3,h4⟩:=ZgV h
 have hw:Vs [116,121,112,101]=true:=by decide +kernel
 refine ⟨YW hw (Ji _),Yj _,YW (Ys h1) ?_,(Ym _ _ _).2 ⟨?_,Zkr _,trivial⟩⟩
 ·(repeat' split) <;> exact Ji _
 ·rcases h4 with ⟨e,hb,_,_⟩ | ⟨e,_,_⟩ | ⟨e,_,_,_⟩
  ·rw [Th e]
   exact ⟨Yj _,Yb (by decide) _,Yj _,YW (Ys hb) (ZJ (c:=10) (by decide) _),trivial⟩
  ·rw [Tf (by omega),Th e]
   exact ⟨Yj _,Yb (by decide) _,Yj _,Yb (by decide) _,ZkC h2 (by decide) _⟩
  ·rw [Tf (by omega),Tf (by omega)]
   refine ⟨Yj _,Yb (by decide) _,Yj _,WC (Ok:=fun _=>True) Zz4 (fun _=>trivial) trivial fun x hx=>?_⟩
   obtain ⟨y,hy,rfl⟩:=Sd.1 hx
   exact fun k _=>Zz1 (h3 y hy) k
def ZlY (i o n:Bool):List Pc:=(if i then [spP,nmP [105,110,112,117,116]] else [])++((if o then [spP,nmP [111,117,116,112,117,116]] else [])++(if n then [spP,nmP [105,110,108,105,110,101]] else []))
def reP (d:Re):List Pc:=nmP [100,101,99,108]::spP::nmP d.name::sgP [40]::(Zs9 d.fields [41]++(ZlY d.inn d.out d.inl++[nlP]))
theorem Zz8 (d:Re):bsP (reP d)=reT d:=by
 obtain ⟨nm,fs,i,o,n,a⟩:=d
 unfold reP reT
 rw [← ZkA]
 cases i <;> cases o <;> cases n <;> simp [ZlY]
theorem Zz9 (d:Re):tsP (reP d)=reK d:=by
 obtain ⟨nm,fs,i,o,n,a⟩:=d
 unfold reP reK
 rw [← ZkB]
 cases i <;> cases o <;> cases n <;> simp [ZlY,ZlJ]
theorem ZAa {d:Re} (h:X3 d=true) (k:Bs):VF (reP d) k:=by
 simp only [X3,Tk] at h
 obtain ⟨h1,h2⟩:=h
 have h2:=Tl.1 h2
 have w1:Vs [100,101,99,108]=true:=by decide +kernel
 have w2:Vs [105,110,112,117,116]=true:=by decide +kernel
 have w3:Vs [111,117,116,112,117,116]=true:=by decide +kernel
 have w4:Vs [105,110,108,105,110,101]=true:=by decide +kernel
 refine ⟨YW w1 (Ji _),Yj _,YW (Ys h1) (ZJ (c:=40) (by decide) _),Yb (by decide) _,(Ym _ _ _).2 ⟨ZkC h2 (by decide) _,(Ym _ _ _).2 ⟨?_,Zkr _,trivial⟩⟩⟩
 have f10:∀z:Bs,Znm (10::z):=fun z=>ZJ (by decide) z
 obtain ⟨nm,fs,i,o,n,a⟩:=d
 cases i <;> cases o <;> cases n <;> simp only [ZlY,if_true,Tr,if_false,To,TC,Tm]
 ·exact trivial
 ·exact ⟨Yj _,YW w4 (f10 _),trivial⟩
 ·exact ⟨Yj _,YW w3 (f10 _),trivial⟩
 ·exact ⟨Yj _,YW w3 (Ji _),Yj _,YW w4 (f10 _),trivial⟩
 ·exact ⟨Yj _,YW w2 (f10 _),trivial⟩
 ·exact ⟨Yj _,YW w2 (Ji _),Yj _,YW w4 (f10 _),trivial⟩
 ·exact ⟨Yj _,YW w2 (Ji _),Yj _,YW w3 (f10 _),trivial⟩
 ·exact ⟨Yj _,YW w2 (Ji _),Yj _,YW w3 (Ji _),Yj _,YW w4 (f10 _),trivial⟩
def inP (i:Ini):List Pc:=nmP [105,110,105,116]::spP::nmP i.name::spP::sgP [61]::spP::nmP i.comp::(Zsh i.types++[nlP])
theorem ZAb (i:Ini):bsP (inP i)=inT i:=by simp [inP,inT,Ze1]
theorem ZAc (i:Ini):tsP (inP i)=inK i:=by simp [inP,inK,Zqc]
theorem ZAd {i:Ini} (h:Wd i=true) (k:Bs):VF (inP i) k:=by
 simp only [Wd,Tk] at h
 obtain ⟨h1,h2,h3⟩:=h
 have h3:=Tl.1 h3
 have w1:Vs [105,110,105,116]=true:=by decide +kernel
 refine ⟨YW w1 (Ji _),Yj _,YW (Ys h1) (Ji _),Yj _,Yb (by decide) _,Yj _,YW (Ys h2) ?_,(Ym _ _ _).2 ⟨Zg1 h3 (.inr rfl) _,Zkr _,trivial⟩⟩
 simp only [bsP_app,bsP_cons,bs_nl,bsP_nil,Ze1,Tg,Tm,To]
 exact Zqd _ _
def ovP (o:Ov):List Pc:=[nmP [111,118,101,114,114,105,100,101],spP,nmP o.rel,nlP]
theorem ZAe (o:Ov):bsP (ovP o)=ovT o:=by simp [ovP,ovT]
theorem ZAf (o:Ov):tsP (ovP o)=ovK o:=by simp [ovP,ovK]
theorem ZAg {o:Ov} (h:WY o=true) (k:Bs):VF (ovP o) k:=by
 have h:YF o.rel=true:=h
 have w1:Vs [111,118,101,114,114,105,100,101]=true:=by decide +kernel
 exact ⟨YW w1 (Ji _),Yj _,YW (Ys h) (ZJ (c:=10) (by decide) _),Zkr _,trivial⟩
def Ze2 {α:Type} (P:α→List Pc) (l:List α):List Pc:=(l.map P).flatten
theorem Zb0 {α:Type} {P:α→List Pc} {T:α→Bs} (h:∀x,bsP (P x)=T x) (l:List α):bsP (Ze2 P l)=(l.map T).flatten:=by
 rw [Ze2,ZlP,TL];congr 1;exact TV fun x _=>h x
theorem Zb1 {α:Type} {P:α→List Pc} {T:α→Ts} (h:∀x,tsP (P x)=T x) (l:List α):tsP (Ze2 P l)=(l.map T).flatten:=by
 rw [Ze2,ZlQ,TL];congr 1;exact TV fun x _=>h x
theorem Zad {α:Type} {P:α→List Pc}:∀(l:List α),(∀x∈l,∀k,VF (P x) k)→∀k,VF (Ze2 P l) k
 | [],h,k=>trivial
 | x::l,h,k=>by
  rw [Ze2,Tz,Sg]
  exact (Ym _ _ _).2 ⟨h x (by simp) _,Zad l (fun y hy=>h y (Tp _ hy)) k⟩
mutual
def unP:Un→List Pc
 | .mk tys rels rules comps inits overs=>Ze2 tyP tys++(Ze2 reP rels++(Zqe comps++(Ze2 inP inits++(Ze2 ovP overs++Ze2 (fun r=>ruP r++[nlP]) rules))))
def coP:Co→List Pc
 | .mk nm ps base tys u _=>nmP [99,111,109,112]::spP::nmP nm::(Zsh ps++((if base=[] then [] else spP::sgP [58]::spP::nmP base::Zsh tys)++(spP::sgP [123]::nlP::(unP u++[sgP [125],nlP]))))
def Zqe:List Co→List Pc
 | []=>[]
 | c::l=>coP c++Zqe l
end
mutual
theorem Zta:∀u:Un,bsP (unP u)=unT u
 | .mk tys rels rules comps inits overs=>by
  rw [unP,unT]
  simp only [bsP_app,Zb0 Zz5,Zb0 Zz8,Zb0 ZAb,Zb0 ZAe,Zqf comps]
  rw [Zb0 (T:=fun r=>ruT r++[10]) fun r=>by simp [ZzU]]
theorem ZAh:∀c:Co,bsP (coP c)=coT c
 | .mk nm ps base tys u a=>by
  rw [coP,coT]
  have ih:=Zta u
  split <;> simp [Ze1,ih]
theorem Zqf:∀l:List Co,bsP (Zqe l)=(Zlw l).flatten
 | []=>by rw [Zqe,Zlw];rfl
 | c::l=>by rw [Zqe,Zlw,bsP_app,ZAh c,Zqf l];rfl
end
mutual
theorem Ztb:∀u:Un,tsP (unP u)=unK u
 | .mk tys rels rules comps inits overs=>by
  rw [unP,unK]
  simp only [tsP_app,Zb1 Zz6,Zb1 Zz9,Zb1 ZAc,Zb1 ZAf,Zqg comps]
  rw [Zb1 (T:=ruK) fun r=>by simp [ZzV]]
theorem ZAi:∀c:Co,tsP (coP c)=coK c
 | .mk nm ps base tys u a=>by
  rw [coP,coK]
  have ih:=Ztb u
  split <;> simp [Zqc,ih]
theorem Zqg:∀l:List Co,tsP (Zqe l)=(Zwv l).flatten
 | []=>by rw [Zqe,Zwv];rfl
 | c::l=>by rw [Zqe,Zwv,tsP_app,ZAi c,Zqg l];rfl
end
theorem Zqh:∀(l:List Co),(∀x∈l,∀k,VF (coP x) k)→∀k,VF (Zqe l) k
 | [],h,k=>by rw [Zqe];exact trivial
 | x::l,h,k=>by
  rw [Zqe]
  exact (Ym _ _ _).2 ⟨h x (by simp) _,Zqh l (fun y hy=>h y (Tp _ hy)) k⟩
theorem ZAj:∀(n:Nat) (u:Un),SizeOf.sizeOf u<n→Zbh u=true→Zfa u=true→∀k,VF (unP u) k
 | 0,u,h,_,_=>by omega
 | q+1,.mk tys rels rules comps inits overs,h,hm,hr=>fun k=>by
  obtain ⟨m1,m2,m3,m4,m5,m6⟩:=Zkn hm
  simp only [Zfa,Ux,Tk] at hr
  have r1:=Tl.1 hr.1
  have r2:=Tl.1 hr.2
  rw [unP]
  refine (Ym _ _ _).2 ⟨Zad tys (fun x hx=>Zz7 (m1 x hx)) _,(Ym _ _ _).2 ⟨Zad rels (fun x hx=>ZAa (m2 x hx)) _,(Ym _ _ _).2 ⟨Zqh comps (fun x hx=>?_) _,(Ym _ _ _).2 ⟨Zad inits (fun x hx=>ZAd (m5 x hx)) _,(Ym _ _ _).2 ⟨Zad overs (fun x hx=>ZAg (m6 x hx)) _,Zad rules (fun x hx k=>?_) k⟩⟩⟩⟩⟩
  ·obtain ⟨nm,ps,base,ty,u,a⟩:=x
   intro k
   obtain ⟨c1,c2,c3,c4,c5⟩:=ZdE (m4 _ hx)
   have hu:=ZAj q u (ZpZ h hx) c5 (by have:=r2 _ hx;rwa [ZbS] at this)
   have w1:Vs [99,111,109,112]=true:=by decide +kernel
   rw [coP]
   refine ⟨YW w1 (Ji _),Yj _,YW (Ys c1) ?_,(Ym _ _ _).2 ⟨?_,(Ym _ _ _).2 ⟨?_,Yj _,Yb (by decide) _,Zkr _,(Ym _ _ _).2 ⟨hu _,Yb (by decide) _,Zkr _,trivial⟩⟩⟩⟩
   ·simp only [bsP_app,Ze1,Tg]
    split
    ·simp only [bsP_nil,To,bsP_cons,bs_sp,Tm];exact ZkD _ _
    ·simp only [bsP_cons,bs_sp,Tm,To];exact ZkD _ _
   ·split
    ·simp only [To,bsP_cons,bs_sp,Tm];exact Zg1 c2 (.inl rfl) _
    ·simp only [bsP_cons,bs_sp,Tm,To];exact Zg1 c2 (.inl rfl) _
   ·split
    ·exact trivial
    ·rename_i hb
     have hn:=c4.resolve_left fun g=>hb g.1
     refine ⟨Yj _,Zbc (by decide) (.inl rfl) _,Yj _,YW (Ys hn) ?_,Zg1 c3 (.inl rfl) _⟩
     simp only [Ze1,bsP_cons,bs_sp,Tm,To]
     exact ZkD _ _
  ·exact (Ym _ _ _).2 ⟨ZzW (m3 x hx) (r1 x hx) (.inr ⟨_,rfl⟩),Zkr _,trivial⟩
theorem ZAk {u:Un} (h:Zbh u=true) (hr:Zfa u=true):VF (unP u) []:=ZAj _ u (Sf _) h hr []
def ZCp {α β:Type} (er:α→β) (v:α) (x:Top α):Prop:=(∃v' L,er v'=er v∧x=.ok v' L)∨∃p e,(e=3∨e=151)∧x=.err p e
theorem ZwU {α β:Type} {er:α→β} {v:α} {P:Ts→R α} {ps:List Pc} (h:Rd er v [] (P (tsP ps))) (hv:VF ps []):ZCp er v (Wb 65536 16384 P (bsP ps)):=by
 unfold Wb
 split
 ·exact .inr ⟨_,_,.inl rfl,rfl⟩
 ·obtain ⟨h1,h2⟩:=ZcH ps ((bsP ps).length+1) 16384 0 hv (by omega)
  by_cases hm:((tsP ps).length:Int)≤16384
  ·obtain ⟨l,p,e1,e2⟩:=h1 hm
   have e1:Zd3 (bsP ps) 16384=(l,(p,0)):=e1
   rw [show ((16384:Nat):Int)=16384 from rfl,e1]
   simp only [ne_eq,not_true_eq_false,if_false]
   rw [e2]
   rcases h with ⟨v',e,h⟩ | ⟨r,h | h⟩
   ·rw [h];exact .inl ⟨v',l,e,rfl⟩
   ·rw [h];exact .inr ⟨_,_,.inl rfl,rfl⟩
   ·rw [h];exact .inr ⟨_,_,.inr rfl,rfl⟩
  ·obtain ⟨l,p,e1⟩:=h2 (by omega) (by decide)
   have e1:Zd3 (bsP ps) 16384=(l,(p,3)):=e1
   rw [show ((16384:Nat):Int)=16384 from rfl,e1]
   simp only [ne_eq,show ¬(3:Nat)=0 by decide,not_false_eq_true,if_true]
   exact .inr ⟨_,_,.inl rfl,rfl⟩
theorem Zqi {u:Un} (h:Zbh u=true) (hr:Zfa u=true):ZCp UI u (Wb 65536 16384 ZaX (unT u)):=by
 rw [← Zta]
 refine ZwU ?_ (ZAk h hr)
 rw [Ztb]
 exact Zp0 h
end Go.PM.Lex
end

section
namespace Go.PM.Lex
theorem ZAl (e:Ex):opE (erE e)=opE e:=by cases e;rfl
theorem ZlZ (l:List Ex):(Zdx l).length=l.length:=by rw [U3,Te]
theorem Zsi (l:List Li):(Zit l).length=l.length:=by rw [ZgF,Te]
mutual
theorem Zl0:∀e:Ex,exT (erE e)=exT e
 | .mk op t n l a=>by rw [erE,exT,exT,Zqj l]
theorem Zqj:∀l:List Ex,Zhm (Zdx l)=Zhm l
 | []=>by rw [Zdx]
 | x::l=>by rw [Zdx,Zhm,Zhm,Zl0 x,Zqj l,ZAl]
end
mutual
theorem Zqk:∀e:Ex,Z7 (erE e)=Z7 e
 | .mk op t n l a=>by rw [erE,Z7,Z7,Zg2 l,ZlZ]
theorem Zg2:∀l:List Ex,ZgK (Zdx l)=ZgK l
 | []=>by rw [Zdx]
 | x::l=>by rw [Zdx,ZgK,ZgK,Zqk x,Zg2 l]
end
mutual
theorem Zql:∀e:Ex,ZdB (erE e)=ZdB e
 | .mk op t n l a=>by rw [erE,ZdB,ZdB,Zg3 l]
theorem Zg3:∀l:List Ex,ZeJ (Zdx l)=ZeJ l
 | []=>by rw [Zdx]
 | x::l=>by rw [Zdx,ZeJ,ZeJ,Zql x,Zg3 l]
end
mutual
theorem ZwV:∀e:Ex,wE (erE e)=wE e
 | .mk op t n l a=>by rw [erE,wE,wE,Ztc l]
theorem Ztc:∀l:List Ex,wEs (Zdx l)=wEs l
 | []=>by rw [Zdx]
 | x::l=>by rw [Zdx,wEs,wEs,ZwV x,Ztc l]
end
theorem Ze3 {α β:Type} {er:α→α} {f:α→β} (h:∀x,f (er x)=f x) (l:List α):(l.map er).map f=l.map f:=by rw [TL];exact TV fun x _=>h x
theorem ZaE {α:Type} {er:α→α} {p:α→Bool} (h:∀x,p (er x)=p x) (l:List α):(l.map er).all p=l.all p:=by rw [List.all_map];congr 1;funext x;exact h x
theorem Zdg {α:Type} {er:α→α} {w:α→Nat} (h:∀x,w (er x)=w x) (l:List α):szS w (l.map er)=szS w l:=by induction l with | nil=>rfl | cons x l ih=>simp only [Tz,szS,h,ih]
theorem ZwW (l:List Ex):Ziy (Zdx l)=Ziy l:=by cases l with | nil=>rfl | cons x l=>exact Zl0 x
theorem ZBO (l:List Ex):(Zdx l).tail=Zdx l.tail:=by cases l with | nil=>rfl | cons x l=>rfl
theorem ZwX (l:List Ex):ZsW (Zdx l)=ZsW l:=by rw [U3];exact Ze3 Zl0 l
theorem ZwY (l:List Ex):Zlv (Zdx l)=Zlv l:=by
 unfold Zlv;rw [U3,Ze3 (f:=fun e=>[32]++exT e) fun x=>by rw [Zl0]]
theorem Zqm (fr fin:Bs) (l:List Ex):Wl fr fin (Zdx l)=Wl fr fin l:=by unfold Wl;rw [ZwX]
mutual
theorem ZAm:∀x:Li,liT (erL x)=liT x
 | .mk op rel args body a=>by rw [erL,liT,liT,ZkE body];simp only [ZwW,ZBO,ZwY,Zqm]
theorem ZkE:∀l:List Li,Zhn (Zit l)=Zhn l
 | []=>by rw [Zit]
 | x::l=>by rw [Zit,Zhn,Zhn,ZAm x,ZkE l]
end
mutual
theorem Zqn:∀x:Li,Xj (erL x)=Xj x
 | .mk op rel args body a=>by rw [erL,Xj,Xj,Zl1 body,Zg2,ZlZ,Zsi]
theorem Zl1:∀l:List Li,Zix (Zit l)=Zix l
 | []=>by rw [Zit]
 | x::l=>by rw [Zit,Zix,Zix,Zqn x,Zl1 l]
end
mutual
theorem Zqo:∀x:Li,ZgN (erL x)=ZgN x
 | .mk op rel args body a=>by rw [erL,ZgN,ZgN,Zl2 body,Zg3]
theorem Zl2:∀l:List Li,Zfq (Zit l)=Zfq l
 | []=>by rw [Zit]
 | x::l=>by rw [Zit,Zfq,Zfq,Zqo x,Zl2 l]
end
mutual
theorem ZAn:∀x:Li,wL (erL x)=wL x
 | .mk op rel args body a=>by rw [erL,wL,wL,Ztd body,U3,Zdg ZwV]
theorem Ztd:∀l:List Li,wLs (Zit l)=wLs l
 | []=>by rw [Zit]
 | x::l=>by rw [Zit,wLs,wLs,ZAn x,Ztd l]
end
theorem ZAo (r:Ru):ruT (ZfT r)=ruT r:=by
 unfold ruT ZfT
 simp only [Te]
 rw [← U3,Zqm,← ZgF,ZkE]
theorem Zsj (r:Ru):XF (ZfT r)=XF r:=by
 unfold XF ZfT
 simp only [ZaE Zqk,ZaE Zqn]
theorem Zsk (r:Ru):ZbR (ZfT r)=ZbR r:=by
 unfold ZbR ZfT
 simp only [ZaE Zql,ZaE Zqo]
theorem ZAp (r:Ru):wRu (ZfT r)=wRu r:=by
 unfold wRu ZfT
 simp only [Zdg ZwV,Zdg ZAn]
mutual
theorem Zqp:∀u:Un,unT (UI u)=unT u
 | .mk a b c d e f=>by
  rw [UI,unT,unT,Zqq d,Ze3 (er:=ZmT) (f:=tyT) fun x=>rfl,Ze3 (er:=ZmU) (f:=reT) fun x=>rfl,Ze3 (er:=ZmV) (f:=inT) fun x=>rfl,Ze3 (er:=ZmW) (f:=ovT) fun x=>rfl,Ze3 (f:=fun r=>ruT r++[10]) fun x=>by rw [ZAo]]
theorem ZAq:∀c:Co,coT (Zfn c)=coT c
 | .mk nm ps base tys u a=>by rw [Zfn,coT,coT,Zqp u]
theorem Zqq:∀l:List Co,Zlw (Zah l)=Zlw l
 | []=>by rw [Zah]
 | x::l=>by rw [Zah,Zlw,Zlw,ZAq x,Zqq l]
end
mutual
theorem ZkF:∀u:Un,Zbh (UI u)=Zbh u
 | .mk a b c d e f=>by
  rw [UI,Zbh,Zbh,ZiR d,ZaE (er:=ZmT) (p:=YH) fun x=>rfl,ZaE (er:=ZmU) (p:=X3) fun x=>rfl,ZaE (er:=ZmV) (p:=Wd) fun x=>rfl,ZaE (er:=ZmW) (p:=WY) fun x=>rfl,ZaE Zsj]
theorem Zsl:∀c:Co,Yr (Zfn c)=Yr c
 | .mk nm ps base tys u a=>by rw [Zfn,Yr,Yr,ZkF u]
theorem ZiR:∀l:List Co,Zda (Zah l)=Zda l
 | []=>by rw [Zah]
 | x::l=>by rw [Zah,Zda,Zda,Zsl x,ZiR l]
end
mutual
theorem ZkG:∀u:Un,Zfa (UI u)=Zfa u
 | .mk a b c d e f=>by rw [UI,Zfa,Zfa,ZiS d,ZaE Zsk]
theorem Zsm:∀c:Co,ZbS (Zfn c)=ZbS c
 | .mk nm ps base tys u a=>by rw [Zfn,ZbS,ZbS,ZkG u]
theorem ZiS:∀l:List Co,ZaB (Zah l)=ZaB l
 | []=>by rw [Zah]
 | x::l=>by rw [Zah,ZaB,ZaB,Zsm x,ZiS l]
end
mutual
theorem Zqr:∀u:Un,wUn (UI u)=wUn u
 | .mk a b c d e f=>by
  rw [UI,wUn,wUn,Zqs d,Zdg (er:=ZmT) (w:=wTy) fun x=>rfl,Zdg (er:=ZmU) (w:=wRe) fun x=>rfl,Zdg (er:=ZmV) (w:=wIn) fun x=>rfl,Zdg (er:=ZmW) (w:=wOv) fun x=>rfl,Zdg ZAp]
theorem ZAr:∀c:Co,wCo (Zfn c)=wCo c
 | .mk nm ps base tys u a=>by rw [Zfn,wCo,wCo,Zqr u]
theorem Zqs:∀l:List Co,Zpj (Zah l)=Zpj l
 | []=>by rw [Zah]
 | x::l=>by rw [Zah,Zpj,Zpj,ZAr x,Zqs l]
end
theorem ZAs {u v:Un} (h:UI v=UI u):unT v=unT u:=by rw [← Zqp v,h,Zqp]
theorem Znp {u v:Un} (h:UI v=UI u):Zbh v=Zbh u:=by rw [← ZkF v,h,ZkF]
theorem Znq {u v:Un} (h:UI v=UI u):Zfa v=Zfa u:=by rw [← ZkG v,h,ZkG]
theorem Zqt {u v:Un} (h:UI v=UI u):wUn v=wUn u:=by rw [← Zqr v,h,Zqr]
theorem Ze4:∀(f:Nat) (r out q:Bs),Vr f r out=some q→q.length≤out.length+4 * r.length
 | 0,r,out,q,h=>by simp [Vr] at h
 | f+1,r,out,q,h=>by
  unfold Vr at h
  split at h
  ·cases h;omega
  ·rename_i hr
   have hd:=Lib.decodeL_le r hr
   have hg:=Zcl r
   split at h
   ·have:=Ze4 f _ _ _ h
    simp only [Ta,Tc,Td,Tv] at this;omega
   ·split at h
    ·cases h
    ·have:=Ze4 f _ _ _ h
     have h4:=ZA1 (Lib.decodeL r).1
     simp only [Ta,Tv] at this;omega
theorem Zsn (s:Bs):(Zpf s).length≤4 * s.length+2:=by
 unfold Zpf Uv
 split
 ·cases hq:Vr (s.length+1) s [34] with
  | none=>simp
  | some q =>
   have:=Ze4 _ _ _ _ hq
   simp only [Sz,Option.getD_some,Ta,Tc,Td] at this ⊢;omega
 ·simp
theorem Zso {n:Int} (h0:-9223372036854775808≤n) (h1:n<9223372036854775808):(Zdz n).length≤20:=by
 unfold Zdz
 split
 ·have h:=(UG (base:=16) (.inr rfl) ((n+18446744073709551616).toNat+1) (n+18446744073709551616).toNat (by omega)).2.2.2 15 (by
   have:(16:Nat) ^ (15+1)=18446744073709551616:=by decide
   omega)
  simp only [Ta,Tc,Td,YG];omega
 ·have h:=(UG (base:=10) (.inl rfl) (n.toNat+1) n.toNat (by omega)).2.2.2 18 (by
   have:(10:Nat) ^ (18+1)=10000000000000000000:=by decide
   omega)
  rw [YG];omega
theorem Zsp (op:Nat):(ZM op).length≤6:=by
 by_cases h:op<26
 ·have hk:∀o:Fin 26,(ZM o.val).length≤6:=by decide
  exact hk ⟨op,h⟩
 ·unfold ZM
  (repeat rw [Tf (by omega)])
  decide
def Zte (l:List (Nat×Bs)):Nat:=(l.map fun p=>p.2.length+4).sum
theorem UH (l:List Bs):(Zg cmm l).length≤(l.map fun s=>s.length+4).sum:=by
 match l with
 | []=>exact T7 _
 | [x]=>simp [Zg]
 | x::y::l =>
  have ih:=UH (y::l)
  rw [Zg]
  ·simp only [Ta,Tz,List.sum_cons] at ih ⊢
   have:cmm.length=2:=rfl
   omega
  ·intro h;cases h
theorem Zg4 (w:Nat) (p:Nat×Bs):(Zpg w p).length≤p.2.length+2:=by
 unfold Zpg;split
 ·exact m98
 ·omega
theorem Zqu (w1 w2:Nat) (sep:Bs) (l:List (Nat×Bs)):(exA w1 w2 sep l).length≤Zte l+sep.length:=by
 match l with
 | []=>simp [exA]
 | [a]=>have:=Zg4 w1 a;simp only [exA,Zte,Tz,TG,List.sum_cons,List.sum_nil];omega
 | a::b::l =>
  have h1:=Zg4 w1 a
  have h2:=Zg4 w2 b
  simp only [exA,Zte,Tz,List.sum_cons,Ta];omega
theorem Zqv (op:Nat) (t:Bs) (n:Int) (l:List (Nat×Bs)) (h0:-9223372036854775808≤n) (h1:n<9223372036854775808):(exN op t n l).length≤Zte l+5 * t.length+30:=by
 have hw:=Zsp op
 have hn:=Zso h0 h1
 have hq:=Zsn t
 have hc:(Zg cmm (l.map Prod.snd)).length≤Zte l:=by
  have:=UH (l.map Prod.snd)
  rw [TL] at this
  exact this
 unfold exN
 split
 ·have:=Zqu (Zm op) (Zm op+1) ([32]++(ZM op++[32])) l
  simp only [Ta,Tc,Td] at this;omega
 split
 ·have:=Zqu 5 5 [] l
  simp only [Ta,Td] at this ⊢;omega
 split
 ·exact m98
 split
 ·exact m98
 split
 ·simp only [Ta,Tc,Td]
  split
  ·simp only [Td];omega
  ·exact m98
 split
 ·omega
 split
 ·omega
 split
 ·simp only [Tc,Td];omega
 split
 ·simp only [Tc,Td];omega
 ·omega
mutual
theorem Ze5:∀e:Ex,ZdB e=true→(exT e).length+4≤64 * wE e
 | .mk op t n l a,h=>by
  obtain ⟨r1,r2⟩:=ZcA h
  have ih:=ZcI l (by rw [VV];exact Tl.2 r2)
  have:=Zqv op t n (Zhm l) r1.1 r1.2
  rw [exT,wE];omega
theorem ZcI:∀l:List Ex,ZeJ l=true→Zte (Zhm l)≤64 * wEs l
 | [],h=>by rw [Zhm];simp [Zte]
 | x::l,h=>by
  rw [ZeJ,Tk] at h
  have h1:=Ze5 x h.1
  have h2:=ZcI l h.2
  rw [Zhm,wEs]
  unfold Zte at h2 ⊢
  simp only [Tz,List.sum_cons];omega
end
theorem Zqw {α:Type} {T:α→Bs} {w:α→Nat}:∀l:List α,(∀x∈l,(T x).length+4≤64 * w x)→(l.map fun x=>(T x).length+4).sum≤64 * szS w l
 | [],h=>T7 _
 | x::l,h=>by
  have h1:=h x (by simp)
  have h2:=Zqw l fun y hy=>h y (Tp _ hy)
  simp only [Tz,List.sum_cons,szS];omega
theorem Zbd {α:Type} {T:α→Bs} {w:α→Nat} {l:List α} (h:∀x∈l,(T x).length+4≤64 * w x):(Zg cmm (l.map T)).length≤64 * szS w l:=by
 have h1:=UH (l.map T)
 rw [TL] at h1
 exact Sb h1 (Zqw l h)
theorem Vy {α:Type} {T:α→Bs} {w:α→Nat}:∀{l:List α},(∀x∈l,(T x).length+4≤64 * w x)→((l.map T).flatten).length≤64 * szS w l
 | [],h=>T7 _
 | x::l,h=>by
  have h1:=h x (by simp)
  have h2:=Vy (l:=l) fun y hy=>h y (Tp _ hy)
  simp only [Tz,Sg,Ta,szS];omega
theorem ZkH:∀{l:List Ex},(∀x∈l,ZdB x=true)→(Ziy l).length+(Zlv l.tail).length≤64 * szS wE l∧(Ziy l).length+(Ziy l.tail).length≤64 * szS wE l
 | [],h=>by simp [Ziy,Zlv]
 | x::l,h=>by
  have h1:=Ze5 x (h x (by simp))
  have h2:=Vy (T:=fun e=>[32]++exT e) (w:=fun e=>wE e) (l:=l) fun y hy=>by
   have:=Ze5 y (h y (Tp _ hy))
   cases y with
   | mk o t n a b =>
    have hw:1≤wE (.mk o t n a b):=by rw [wE];omega
    have h3:=Zqv o t n (Zhm a) (ZcA (h _ (Tp _ hy))).1.1 (ZcA (h _ (Tp _ hy))).1.2
    have h4:=ZcI a (by rw [VV];exact Tl.2 (ZcA (h _ (Tp _ hy))).2)
    simp only [Ta,Tc,Td]
    rw [exT,wE];omega
  refine ⟨?_,?_⟩
  ·show (exT x).length+(Zlv l).length≤64 * szS wE (x::l)
   rw [szS];unfold Zlv
   have:szS (fun e=>wE e) l=szS wE l:=rfl
   omega
  ·show (exT x).length+(Ziy l).length≤64 * szS wE (x::l)
   cases l with
   | nil=>rw [szS,szS];simp [Ziy];omega
   | cons y l =>
    have h5:=Ze5 y (h y (by simp))
    rw [szS,szS];simp only [Ziy];omega
theorem ZwZ (op:Nat):(Zpi op).length≤4:=by unfold Zpi;(repeat' split) <;> decide
theorem Zw0 (op:Nat):(JO op).length≤5:=by unfold JO;(repeat' split) <;> decide
theorem ZiT {fr fin:Bs} {l:List Ex} (h:∀x∈l,ZdB x=true):(Wl fr fin l).length≤fr.length+64 * szS wE l+fin.length:=by
 have:=Zbd (T:=exT) (w:=wE) fun x hx=>Ze5 x (h x hx)
 unfold Wl ZsW
 simp only [Ta];omega
mutual
theorem Zw1:∀x:Li,ZgN x=true→(liT x).length+4≤64 * wL x
 | .mk op rel args body a,h=>by
  obtain ⟨r1,r2⟩:=Zkd h
  have h1:=Zg5 body (by rw [U6];exact Tl.2 r2)
  have h2:=ZiT (fr:=[40]) (fin:=[41]) r1
  obtain ⟨h3,h4⟩:=ZkH r1
  have h5:=ZwZ op
  have h6:=Zw0 op
  have h7:=UH (Zhn body)
  rw [liT,wL]
  simp only [Tc,Td] at h2
  split
  ·exact m98
  split
  ·simp only [Ta];omega
  split
  ·simp only [Ta];omega
  ·exact m98
theorem Zg5:∀l:List Li,Zfq l=true→((Zhn l).map fun s=>s.length+4).sum≤64 * wLs l
 | [],h=>by rw [Zhn];simp
 | x::l,h=>by
  rw [Zfq,Tk] at h
  have h1:=Zw1 x h.1
  have h2:=Zg5 l h.2
  rw [Zhn,wLs]
  simp only [Tz,List.sum_cons];omega
end
theorem Zw2 {r:Ru} (h:ZbR r=true):(ruT r).length+10≤64 * wRu r:=by
 simp only [ZbR,Tk] at h
 have r1:=Tl.1 h.1
 have r2:=Tl.1 h.2
 have h1:=ZiT (fr:=[40]) (fin:=[41]) r1
 have h2:=Zg5 r.body (by rw [U6];exact h.2)
 have h3:=UH (Zhn r.body)
 rw [Vu] at h2
 unfold ruT wRu
 simp only [Tc,Td] at h1
 split
 ·exact m98
 ·exact m98
theorem Zw3 (f:Fi):(fiT f).length+4≤64 * wFi f:=by
 unfold fiT wFi;simp only [Ta,Tc,Td];omega
theorem ZkI (fr fin:Bs) (l:List Fi):(V3 fr l fin).length≤fr.length+64 * szS wFi l+fin.length:=by
 have:=Zbd (T:=fiT) (w:=wFi) (l:=l) fun x _=>Zw3 x
 unfold V3
 simp only [Ta];omega
theorem Zw4 (c:Ca):(caT c).length+4≤64 * wCa c:=by
 have:=ZkI (c.name++[32,123]) [125] c.fields
 unfold caT wCa
 simp only [Ta,Tc,Td] at this ⊢;omega
theorem Zf1 (l:List Bs):(Zg [32,124,32] l).length≤(l.map fun s=>s.length+4).sum:=by
 match l with
 | []=>exact T7 _
 | [x]=>simp [Zg]
 | x::y::l =>
  have ih:=Zf1 (y::l)
  rw [Zg]
  ·simp only [Ta,Tz,List.sum_cons,Tc,Td] at ih ⊢
   omega
  ·intro h;cases h
theorem Zw5 (t:Ty):(tyT t).length+4≤64 * wTy t:=by
 have h1:=ZkI [32,61,32,91] [93] t.fields
 have h2:=Zf1 (t.cases.map caT)
 rw [TL] at h2
 have h3:=Zqw (T:=caT) (w:=wCa) t.cases fun x _=>Zw4 x
 have h4:(t.cases.map fun x=>(caT x).length+4).sum=(t.cases.map ((fun s:Bs=>s.length+4)∘caT)).sum:=rfl
 rw [h4] at h3
 unfold tyT wTy
 simp only [Tc,Td] at h1
 simp only [Ta,Tc,Td]
 split
 ·exact m98
 split
 ·omega
 ·exact m98
theorem Zw6 (d:Re):(reT d).length+4≤64 * wRe d:=by
 have h1:=ZkI ([100,101,99,108,32]++(d.name++[40])) [41] d.fields
 have hi:∀(b:Bool) (s:Bs),(if b then s else []).length≤s.length:=fun b s=>by cases b <;> simp
 have i1:=hi d.inn [32,105,110,112,117,116]
 have i2:=hi d.out [32,111,117,116,112,117,116]
 have i3:=hi d.inl [32,105,110,108,105,110,101]
 unfold reT wRe
 simp only [Ta,Tc,Td] at h1 i1 i2 i3 ⊢;omega
theorem ZkJ (l:List Bs):(Jl l).length≤2+64 * szS wBs l:=by
 have h1:=Zbd (T:=fun s:Bs=>s) (w:=wBs) (l:=l) fun x _=>by unfold wBs;omega
 rw [List.map_id'] at h1
 unfold Jl
 split
 ·simp
 ·exact m98
theorem Zw7 (i:Ini):(inT i).length+4≤64 * wIn i:=by
 have:=ZkJ i.types
 unfold inT wIn
 exact m98
theorem Zw8 (o:Ov):(ovT o).length+4≤64 * wOv o:=by
 unfold ovT wOv
 exact m98
mutual
theorem ZkK:∀u:Un,Zfa u=true→(unT u).length+4≤64 * wUn u
 | .mk a b c d e f,h=>by
  simp only [Zfa,Tk] at h
  have r1:=Tl.1 h.1
  have h1:=Vy (T:=tyT) (w:=wTy) (l:=a) fun x _=>Zw5 x
  have h2:=Vy (T:=reT) (w:=wRe) (l:=b) fun x _=>Zw6 x
  have h3:=Vy (T:=fun r=>ruT r++[10]) (w:=wRu) (l:=c) fun x hx=>by
   have:=Zw2 (r1 x hx)
   exact m98
  have h4:=Zl3 d h.2
  have h5:=Vy (T:=inT) (w:=wIn) (l:=e) fun x _=>Zw7 x
  have h6:=Vy (T:=ovT) (w:=wOv) (l:=f) fun x _=>Zw8 x
  rw [unT,wUn]
  simp only [Ta];omega
theorem Zw9:∀c:Co,ZbS c=true→(coT c).length+4≤64 * wCo c+64
 | .mk nm ps base tys u a,h=>by
  rw [ZbS] at h
  have h1:=ZkK u h
  have h2:=ZkJ ps
  have h3:=ZkJ tys
  rw [coT,wCo]
  split
  ·exact m98
  ·exact m98
theorem Zl3:∀l:List Co,ZaB l=true→((Zlw l).flatten).length≤64 * Zpj l
 | [],h=>by rw [Zlw];simp
 | x::l,h=>by
  rw [ZaB,Tk] at h
  have h1:=Zw9 x h.1
  have h2:=Zl3 l h.2
  rw [Zlw,Zpj]
  simp only [Sg,Ta];omega
end
end Go.PM.Lex
end

section
namespace Go.PM.Lex
open Go.Proofs
variable {w0:World} {nG:Nat}
noncomputable def Znr (n:Nat):ZA:=fun args σ K=>match args,σ with
 | [.agg c],⟨[],[],0⟩=>∃pl x,c=(Yf pl x).map .d∧((Zbh x=true→Zfa x=true)∧wUn x≤n∧n≤16777216) ∧
   ((Zbh x=false→K (.ret (.tuple [.d (.str []),.d (.int .i64 160)])) ⟨[],[],0⟩)∧(Zbh x=true→∀r,Wb 65536 16384 ZaX (unT x)=r→K (.ret (.tuple [.d (.str (WZ (unT x) r).1),.d (.int .i64 (WZ (unT x) r).2)])) ⟨[],[],0⟩))
 | _,_=>False
theorem Zns (n:Nat):Zc (Znr n):=fun args σ K K' hK h=>by
 unfold Znr at h ⊢
 exact m128
noncomputable def ZAt (n:Nat):Tbl:=[(67,Xy (Xk Yf) Zbh wUn n),(68,Zwz n),(31,Vx),(28,Zez),(32,ZfW)]
theorem ZAu {n:Nat} (ht:TblOK (GG w0 nG) (ZAt n)):PCalls (GG w0 nG) 26 (Znr n):=by
 refine pc ht Tryz.func26 ?_
 intro args σ K h
 unfold Znr at h
 split at h
 ·obtain ⟨pl,⟨u1,u2,u3,u4,u5,u6⟩,rfl,⟨hab,hz,hn⟩,ha,hb⟩:=h
  refine ⟨Za [],0,true,by simp,Tb rfl,?_⟩
  conv=>whnf
  refine ⟨pl,(.mk u1 u2 u3 u4 u5 u6),rfl,⟨hz,by omega⟩,fun b hb1=>?_⟩
  cases b with
  | false =>
   conv=>whnf
   exact ha hb1
  | true =>
   have h1:=hab hb1
   have h2:=ZkK _ h1
   have hb:=hb hb1
   conv=>whnf
   refine ⟨[],unT (.mk u1 u2 u3 u4 u5 u6),rfl,⟨.inl rfl,rfl,rfl⟩,⟨pl,(.mk u1 u2 u3 u4 u5 u6),rfl,⟨by rw [Zxo,hb1,h1];rfl,hz,by omega⟩,rfl⟩,by simp only [Td];omega,fun p' hp'=>?_⟩
   obtain ⟨T,hT⟩:∃T,unT (.mk u1 u2 u3 u4 u5 u6)=T:=⟨_,rfl⟩
   rw [hT] at hb h2 ⊢
   rcases hp' with rfl | rfl
   all_goals
    conv=>whnf
    refine ⟨T,⟨rfl,rfl,rfl,(by first | exact .inl rfl | exact .inr rfl),by omega⟩,?_⟩
    conv=>whnf
    refine ⟨by omega,fun x hx=>?_⟩
    have hb:=hb x hx
    cases x with
    | ok v L =>
     obtain ⟨v1,v2,v3,v4,v5,v6⟩:=v
     unfold Zup
     dsimp only
     conv=>whnf
     refine ⟨T,⟨rfl,rfl,rfl,(by first | exact .inl rfl | exact .inr rfl),by omega⟩,?_⟩
     conv=>whnf
     refine ⟨fun g=>absurd g (by decide),fun _=>?_⟩
     conv=>whnf
     exact hb
    | err p c =>
     conv=>whnf
     refine ⟨T,⟨rfl,rfl,rfl,(by first | exact .inl rfl | exact .inr rfl),by omega⟩,?_⟩
     exact m111
 ·exact h.elim
theorem ZCF (hg:GlobOK w0 nG) (hN:NumOK w0 nG) (hL:LexC w0 nG) (n:Nat):PCalls (GG w0 nG) 26 (Znr n) :=
 ZAu ⟨⟨ZCg hL n,ZC _ _ _ _⟩,⟨cWU hN hL n,ZeX n⟩,⟨ZcB,V4⟩,⟨ZxX hg,ZeA⟩,⟨Zpv,ZeK⟩,trivial⟩
end Go.PM.Lex
end

section
namespace Go.PM.Lex
open Go.Proofs
variable {w0:World} {nG:Nat}
noncomputable def Zg6 (n:Nat):ZA:=fun args σ K=>match args,σ with
 | [.agg c],⟨[],[],0⟩=>(∃pl x,c=(Yf pl x).map .d∧(Zc8 x≤n∧wUn x≤n∧Zfa x=true)∧n≤16777216)∧K (.ret (.d (.bool true))) ⟨[],[],0⟩
 | _,_=>False
noncomputable def Zqx (n:Nat):Tbl:=[(18,ZgP Yf Zc8 bdU 6000),(26,Znr n),(28,Zez),(19,UJ Yf Yl Zc8 n),(20,ZsO n),(12,ZbT)]
theorem Zqy {n:Nat} (ht:TblOK (GG w0 nG) (Zqx n)):PCalls (GG w0 nG) 9 (Zg6 n):=by
 refine pc ht Tryz.func9 ?_
 intro args σ K h
 unfold Zg6 at h
 split at h
 ·obtain ⟨⟨pl,⟨a1,a2,a3,a4,a5,a6⟩,rfl,⟨hz,hw,hr⟩,hn⟩,h⟩:=h
  have hl:=ZkK _ hr
  refine ⟨Za [],0,false,by simp,Tb rfl,?_⟩
  conv=>whnf
  refine ⟨pl,.mk a1 a2 a3 a4 a5 a6,n,rfl,⟨⟨by decide,by decide⟩,by decide,hz,by omega⟩,fun r hr0 hr1=>?_⟩
  conv=>whnf
  refine ZCX (fun hc=>?_) (fun hc=>?_)
  ·exact m35
  conv=>whnf
  refine ⟨pl,.mk a1 a2 a3 a4 a5 a6,rfl,⟨fun _=>hr,hw,hn⟩,fun hm=>?_,fun hm x hx=>?_⟩
  ·exact m35
  ·have hb:=Zqi hm hr
   rw [hx] at hb
   rcases hb with ⟨v,L,he,rfl⟩ | ⟨p,e,hc,rfl⟩
   ·have hT:=ZAs he
    have hmv:=(Znp he).trans hm
    have hrv:=(Znq he).trans hr
    have hwv:=Zqt he
    have hsame:Yl (.mk a1 a2 a3 a4 a5 a6) v=true:=ZpG he.symm
    obtain ⟨b1,b2,b3,b4,b5,b6⟩:=v
    obtain ⟨T,hTT⟩:∃T,unT (.mk a1 a2 a3 a4 a5 a6)=T:=⟨_,rfl⟩
    rw [hTT] at hx hT hl ⊢
    rw [WZ]
    dsimp only
    conv=>whnf
    refine ⟨by omega,fun y hy=>?_⟩
    rw [hx] at hy
    subst hy
    unfold Zup
    dsimp only
    conv=>whnf
    refine ⟨Zd L T.length,.mk b1 b2 b3 b4 b5 b6,rfl,⟨fun _=>hrv,by omega,hn⟩,fun hm2=>absurd (hmv.symm.trans hm2) (by decide),fun _ y hy=>?_⟩
    rw [hT,hx] at hy
    subst hy
    rw [hT,WZ]
    dsimp only
    conv=>whnf
    refine ⟨pl,.mk a1 a2 a3 a4 a5 a6,Zd L T.length,.mk b1 b2 b3 b4 b5 b6,rfl,rfl,⟨hz,by omega⟩,fun b hb=>?_⟩
    obtain rfl:b=true:=hb.symm.trans hsame
    conv=>whnf
    (repeat (refine ⟨rfl,?_⟩;conv=>whnf))
    refine ⟨pl,.mk a1 a2 a3 a4 a5 a6,Zd L T.length,.mk b1 b2 b3 b4 b5 b6,rfl,rfl,⟨rfl,hz,by omega⟩,fun b hb=>?_⟩
    obtain rfl:b=true:=hb.symm.trans hsame
    conv=>whnf
    (repeat (refine ⟨rfl,?_⟩;conv=>whnf))
    refine ZCX (fun _=>?_) (fun g=>absurd rfl g)
    exact m35
   ·rw [WZ,Th hc]
    exact m35
 ·exact h.elim
end Go.PM.Lex
end

section
namespace Go
variable {H:Type} {enc:TypeId×Value→H}
end Go
namespace Go.PM.Lex
open Go.Proofs Go.Proofs.YtflgockgjnddnaaGreatDoor Go.ChangeShapes Go.WideShapes Go.ChangeAt Go.RowKit
theorem ZBP:ownKnob Tryz.prog.godebug=none:=by kernel_rfl
theorem Ztf : "*" ++ "errors.errorString" = "*errors.errorString" := by decide
theorem Zsq (u : TypeId) (h : Tryz.prog.typeName? 3 u = some "*errors.errorString") : u = 352 :=
 typeName_ptr_named (nm := "errors.errorString") (by rw [Ztf]; kernel_rfl) (by kernel_rfl) (by decide) u (by rw [Ztf]; exact h)
theorem Zqz {W:World} {n:String} {text:List UInt8} {g:Nat} (hg:Tryz.prog.globalNamed n=some g) (ht:(Tryz.prog.globals[g]?).map (·.type)=some 206)
  (h : laidMet Tryz.prog [(n, .iface "*errors.errorString" (.ptr (.agg [.lit (.string text)])))] W) : ∃ ev, W.cell? ⟨g, 0, none⟩ = some ev ∧ (ev = .nilIface ∨ ∃ te pe, ev = .iface te pe) := by
 obtain ⟨a1,s1,hv1,_⟩:=laid_sentinel h hg ht Tryz.underlying206 Zsq Tryz.underlying352 Tryz.underlying354 rfl rfl Tryz.underlying9 (by kernel_rfl) (by kernel_rfl)
 refine ⟨.iface 352 (.pointer (some a1)),?_,.inr ⟨_,_,rfl⟩⟩
 simpa using World.var?_cell hg hv1 0
theorem ZAv {W:World} (h:laidMetH Tryz.prog Rows.printUnlikeRow.laid W) (hsh:W.ShapedOpen Tryz.prog):GlobOK W 8:=by
 rw [MakeChecks.laidMetH_plain _ _ _ (by kernel_rfl)] at h
 have h1 := laidMet.filter (fun x => x.1 == "strconv.ErrSyntax") h
 have h2 := laidMet.filter (fun x => x.1 == "strconv.ErrRange") h
 exact ⟨by omega,Tryz.laysM143.s1_3 W hsh,Zqz (by kernel_rfl) (by kernel_rfl) h1,Zqz (by kernel_rfl) (by kernel_rfl) h2⟩
theorem ZAw {e e':Env} {W W':World} {σ':St} {may:MemPlace→Prop} (h:Later e ⟨[],[],0⟩ W e' σ' W'):W.keptBut W' may:=by
 refine ⟨h.os,h.output,fun i hi=>?_⟩
 have:=h.blocks i hi (fun j hj=>by simp at hj) (fun t ht=>by cases ht)
 rw [this]
 cases hh:W.heap[i]? with
 | none=>rfl
 | some o=>cases o <;> simp
def Znt:Env:=⟨fun _=>0,fun _=>none,fun _ _=>False⟩
theorem Zxa {W:World} (h:8≤W.heap.size):SRel (GG W 8) Znt ⟨[],[],0⟩ W where
 inj:=fun i j hi=>by simp at hi
 box:=fun i x hx=>by simp at hx
 low:=fun i hi=>by simp at hi
 tkn:=fun t ht=>by cases ht
 own:=fun t ht=>by cases ht
 dis:=fun t t' ht=>by cases ht
 xlt:=fun b off hx=>hx.elim
 xown:=fun t ht=>by cases ht
 glob:=fun b hb=>rfl
 big:=h
end Go.PM.Lex
end

section
namespace Go.PM.Lex
open Go.Proofs Go.Proofs.YtflgockgjnddnaaGreatDoor
theorem Zxb:Rows.laid_unicode_utf8_first=Lib.firstData:=by kernel_rfl
theorem Zsr:(Rows.laid_unicode_utf8_acceptRanges:DataW Unit)=Lib.acceptData:=by kernel_rfl
theorem ZAx {W:World} (h:laidMetH Tryz.prog Rows.printUnlikeRow.laid W):Lib.Utf8Tabs 0 1 W:=by
 rw [MakeChecks.laidMetH_plain _ _ _ (by kernel_rfl)] at h
 have h1:=Lib.laidMet.reads (d:=Rows.laid_unicode_utf8_first) h (.tail _ (.tail _ (.tail _ (.tail _ (.tail _ (.tail _ (.head _)))))))
 have h2:=Lib.laidMet.reads (d:=Rows.laid_unicode_utf8_acceptRanges) h (.tail _ (.tail _ (.tail _ (.head _))))
 rw [Zxb] at h1
 rw [Zsr] at h2
 exact utf8Tabs_of_readsT (U8Types.of196 Tryz.laysValid) ⟨by kernel_rfl,by kernel_rfl,by kernel_rfl,by kernel_rfl,by kernel_rfl,by kernel_rfl,by kernel_rfl⟩ h1 h2
variable {w0:World} {nG:Nat}
theorem ZBQ (hb:1<nG) (hT:Lib.Utf8Tabs 0 1 w0):LexC w0 nG where
 name:=ZBn ⟨⟨Zou,Vi⟩,⟨Zbv,W4⟩,⟨ZxI,Zd7⟩,trivial⟩
 quote:=ZrG ⟨⟨ZrC hb hT,Ziv⟩,⟨ZcW,Je⟩,⟨ZfK,Jg⟩,⟨ZcX,Jf⟩,⟨ZhP,Zbu⟩,trivial⟩
end Go.PM.Lex
end

section
namespace Go.PM.Lex
open Go.Proofs Go.Proofs.YtflgockgjnddnaaGreatDoor
def Zss:DataW Unit→List Int
 | .agg xs=>xs.map fun | .lit (.int _ z)=>z | _=>0
 | _=>[]
theorem Zxc:(Rows.laid_internal_strconv_uint64pow10:DataW Unit)=Lib.tabData .u64 Lib.pow10Tab:=by kernel_rfl
theorem ZBR:(Rows.laid_math_bits_deBruijn64tab:DataW Unit)=Lib.tabData .u8 (Zss Rows.laid_math_bits_deBruijn64tab):=by kernel_rfl
theorem Zxd:(Zss Rows.laid_math_bits_deBruijn64tab).getD 15 0=4:=by kernel_rfl
theorem ZAy:(Zss Rows.laid_math_bits_deBruijn64tab).length=64:=by kernel_rfl
theorem ZBS {W:World} (h:laidMetH Tryz.prog Rows.printUnlikeRow.laid W):NumOK W 8:=by
 rw [MakeChecks.laidMetH_plain _ _ _ (by kernel_rfl)] at h
 have h1 := laidMet.filter (fun x => x.1 == "internal/strconv.uint64pow10") h
 have h2 := laidMet.filter (fun x => x.1 == "math/bits.deBruijn64tab") h
 have k1 : laidMet Tryz.prog [("internal/strconv.uint64pow10", Lib.tabData .u64 Lib.pow10Tab)] W := by rw [← Zxc]; exact h1
 have k2 : laidMet Tryz.prog [("math/bits.deBruijn64tab", Lib.tabData .u8 (Zss Rows.laid_math_bits_deBruijn64tab))] W := by rw [← ZBR]; exact h2
 refine ⟨by decide,Lib.tabIs_of_head (g:=3) (t:=304) (by kernel_rfl) (by kernel_rfl) Tryz.underlying304 (by kernel_rfl) (by kernel_rfl) (by kernel_rfl) k1,?_⟩
 have k3:=Lib.tabIs_of_head (g:=5) (t:=334) (by kernel_rfl) (by kernel_rfl) Tryz.underlying334 (by kernel_rfl) (by kernel_rfl) (by kernel_rfl) k2
 have k4:=k3.cell (g:=5) (by kernel_rfl) 15 (by rw [ZAy];decide)
 rw [Zxd] at k4
 exact k4
end Go.PM.Lex
end

section
namespace Go.PM.Lex
open Go.Proofs Go.Proofs.YtflgockgjnddnaaGreatDoor
theorem YC {a b:Bool} (h1:a=true) (h2:b=true):(a && b)=true:=by rw [h1,h2];rfl
theorem ZqA {P:Program} {f:FuncId} {fn:Func} {s:ChangeSpec} {c:OpenClaim}
  (p1:laidOutB P=true) (p2:mapsRowed P=true) (p3:(P.stops == [])=true) (p4:(P.stopKnobs == [])=true) (p5:(c.plainKeys == P.plainKeys)=true) (p6:P.stopsHeard=true) (p7:P.mayEnter=true) (p8:(c.lifted == P.liftsFinal)=true) (p9:(P.make == some c.make)=true)
  (k1:c.wf (OpenSpec.ofChange s)=true) (k2:fn.params.all (P.readableRec ·)=true) (k3:namedTie P c.named s.vars=true) (k4:(c.stops == [])=true) (k5:(c.knobs == [])=true)
  (k6:(c.inPlace == P.inPlace f)=true) (k7:(c.unfollowed == P.unfollowed f)=true) (k8:(c.recurses == P.recurses f)=true) (k9:(c.named == P.varsNamed f)=true)
  (k10:(c.maps == (fn.params.toList++s.plain.varTypes P).any (P.mapsRec ·))=true) (k11:(c.ifaces == (fn.params.toList++s.plain.varTypes P).any (P.ifacesRec ·))=true) (k12:(c.mapsOut == P.mapsAmong fn.resultTypes.toList)=true)
  (k13:(c.loops == (fn.params.toList++s.plain.varTypes P).any (P.loopsFrom ·))=true) (k14:(c.wideKeys == (fn.params.toList++s.plain.varTypes P++fn.resultTypes.toList).any (P.wideKeysFrom ·))=true)
  (k15:s.vars.all (P.varReadable ·)=true) (k16:fn.resultTypes.all (fun t=>P.readableRec t && decide (t<P.types.size))=true) (k17:(c.ifacesOut == fn.resultTypes.toList.any (P.ifacesRec ·))=true) (k18:(c.loopsOut == fn.resultTypes.toList.any (P.loopsFrom ·))=true)
  (k19:c.shortTexts.isNone=true) (k20:(c.kinds == (if c.domain.isEmpty then [] else fn.params.toList.map fun t=>match P.underlying t with | some (.int k)=>some k | _=>none))=true) (k21:(c.pinned == c.pinnedBy)=true)
  (k22:(c.veiled == (fn.params.toList++s.plain.varTypes P++fn.resultTypes.toList).any (P.veiledRec ·))=true) (k23:c.veiledFits P fn.params.toList (fn.params.toList++s.plain.varTypes P++fn.resultTypes.toList)=true):joinedFacts P f fn s c=true:=by
 unfold joinedFacts
 exact (YC (YC (YC (YC (YC (YC (YC (YC (YC (YC (YC (YC (YC (YC (YC (YC (YC (YC (YC (YC (YC (YC (YC (YC (YC (YC (YC (YC (YC (YC (YC k1 p1) p2) k2) k3) k4) p3) k5) p4) k6) k7) k8) k9) k10) k11) k12) k13) k14) k15) k16) k17) k18) p5) k19) p6) p7) p8) p9) k20) k21) k22) k23)
theorem jp1:laidOutB Tryz.checked.prog=true:=by kernel_rfl
theorem jp2:mapsRowed Tryz.checked.prog=true:=by kernel_rfl
theorem jp3:(Tryz.checked.prog.stops == [])=true:=by kernel_rfl
theorem jp4:(Tryz.checked.prog.stopKnobs == [])=true:=by kernel_rfl
theorem jp5:(Rows.printUnlikeRow.plainKeys == Tryz.checked.prog.plainKeys)=true:=by kernel_rfl
theorem jp6:Tryz.checked.prog.stopsHeard=true:=by kernel_rfl
theorem jp7:Tryz.checked.prog.mayEnter=true:=by kernel_rfl
theorem jp8:(Rows.printUnlikeRow.lifted == Tryz.checked.prog.liftsFinal)=true:=by kernel_rfl
theorem jp9:(Tryz.checked.prog.make == some Rows.printUnlikeRow.make)=true:=by kernel_rfl
theorem jp10:Tryz.checked.prog.mainIs=some (Rows.printUnlikeCard.stood.harness.1,Rows.printUnlikeCard.stood.harness.2.toList):=by kernel_rfl
theorem jp11:Rows.printUnlikeCard.stood.looks=Tryz.checked.prog.looks []:=by kernel_rfl
end Go.PM.Lex
end

section
namespace Go.PM
mutual
inductive PlainD (P:Program):TypeId→List D→Nat→Prop
 | int {t:TypeId} {k:IntKind} {n:Int} (h:P.underlying t=some (.int k)) (hw:(Lit.int k n).wf=true):PlainD P t [.int k n] 1
 | str {t:TypeId} {s:List UInt8} (h:P.underlying t=some .string):PlainD P t [.str s] (s.length+1)
 | bool {t:TypeId} {b:Bool} (h:P.underlying t=some .bool):PlainD P t [.bool b] 1
 | st {t:TypeId} {fs:Array Field} {ds:List D} {b:Nat} (h:P.underlying t=some (.struct fs)) (hf:PlainFs P (fs.toList.map (·.type)) ds b):PlainD P t ds (b+1)
 | sl {t e:TypeId} {rows:List (List D)} {b:Nat} (h:P.underlying t=some (.slice e)) (hr:PlainRs P e rows b):PlainD P t [.sl rows] (b+1)
inductive PlainFs (P:Program):List TypeId→List D→Nat→Prop
 | nil:PlainFs P [] [] 0
 | cons {f:TypeId} {l:List TypeId} {r ds:List D} {b c:Nat} (h1:PlainD P f r b) (h2:PlainFs P l ds c):PlainFs P (f::l) (r++ds) (b+c)
inductive PlainRs (P:Program):TypeId→List (List D)→Nat→Prop
 | nil {e:TypeId}:PlainRs P e [] 0
 | cons {e:TypeId} {r:List D} {rows:List (List D)} {b c:Nat} (h1:PlainD P e r b) (h2:PlainRs P e rows c):PlainRs P e (r::rows) (b+c)
end
structure CR (ok:Nat→Nat→Prop) (w:World) (ds:List D) (cs:List Value):Prop where
 len:ds.length=cs.length
 rel:∀(i:Nat) (x:D) (u:Value),ds[i]?=some x→cs[i]?=some u→DRel ok w x u
 one:∀u∈cs,u.oneCell'=true
theorem CR.nil {ok:Nat→Nat→Prop} {w:World}:CR ok w [] []:=⟨rfl,fun i x u h=>by simp at h,fun u h=>by cases h⟩
theorem CR.one1 {ok:Nat→Nat→Prop} {w:World} {x:D} {u:Value} (h:DRel ok w x u) (h1:u.oneCell'=true):CR ok w [x] [u]:=⟨rfl,fun i y v hy hv=>by
 match i,hy,hv with
 | 0,hy,hv=>cases hy;cases hv;exact h
 | i+1,hy,hv=>simp at hy,fun v hv=>by rw [List.mem_singleton.1 hv];exact h1⟩
theorem CR.app {ok:Nat→Nat→Prop} {w:World} {d1 d2:List D} {c1 c2:List Value} (h1:CR ok w d1 c1) (h2:CR ok w d2 c2):CR ok w (d1++d2) (c1++c2):=by
 refine ⟨by rw [Ta,Ta,h1.len,h2.len],fun i x u hx hu=>?_,fun u hu=>?_⟩
 ·by_cases hi:i<d1.length
  ·rw [TH hi] at hx
   rw [TH (by rw [← h1.len];exact hi)] at hu
   exact h1.rel i x u hx hu
  ·rw [TW (by omega)] at hx
   rw [TW (by rw [← h1.len];omega),← h1.len] at hu
   exact h2.rel _ x u hx hu
 ·rcases TX.1 hu with h | h
  ·exact h1.one u h
  ·exact h2.one u h
def Zst (P:Program):List Field→Nat→Option Nat
 | [],a=>some a
 | f::l,a=>if f.offset=a then Zst P l (a+P.cellsOf f.type) else none
def ZqB (P:Program) (S:List TypeId) (t:TypeId):Bool:=match P.underlying t with
 | some (.int _) | some .string | some .bool=>true
 | some (.struct fs)=>fs.toList.all (fun f=>S.contains f.type) && decide (Zst P fs.toList 0=some (P.cellsOf t))
 | some (.slice e)=>S.contains e && decide (0<P.cellsOf e)
 | _=>false
section
variable {H:Type} {enc:TypeId×Value→H} {P:Program} {w:World} {ok:Nat→Nat→Prop}
theorem ZcJ {S:List TypeId} (hS:S.all (ZqB P S)=true) (hok:∀b off,ok b off) (bulk:DataW H→Nat) (bulks:List (DataW H)→Nat)
  (k1:∀k n,1≤bulk (.lit (.int k n))) (k2:∀s,s.length+1≤bulk (.lit (.string s))) (k3:∀b,1≤bulk (.lit (.bool b))) (k4:∀l,bulks l+1≤bulk (.agg l)) (k5:∀l m,bulks l+1≤bulk (.slice l m)) (k6:1≤bulk .nil) (k7:∀d l,bulk d+bulks l≤bulks (d::l)) :
  ∀(fuel:Nat) (t:TypeId) (cs:List Value) (x:DataW H×List MemPlace),t∈S→DataW.trod enc P w 0 (fun _=>true) true fuel t cs=some x→∃ds b,PlainD P t ds b∧CR ok w ds cs∧b≤bulk x.1
 | 0,t,cs,x,ht,h=>by simp [DataW.trod] at h
 | fuel+1,t,cs,x,ht,h=>by
  have hp:=Tl.1 hS t ht
  unfold ZqB at hp
  split at hp
  ·rename_i k hu
   obtain ⟨n,rfl,rfl,hw⟩:=DataW.trod_int hu h
   exact ⟨_,1,.int hu hw,.one1 (.int _ _) rfl,k1 _ _⟩
  ·rename_i hu
   obtain ⟨s,rfl,rfl,hw⟩:=DataW.trod_string hu h
   exact ⟨[.str s.data.toList],_,.str hu,.one1 (.str _) rfl,k2 _⟩
  ·rename_i hu
   obtain ⟨b,rfl,rfl⟩:=DataW.trod_bool hu h
   exact ⟨_,1,.bool hu,.one1 (.bool _) rfl,k3 _⟩
  ·rename_i fs hu
   rw [Tk,TT,Tl] at hp
   obtain ⟨hp1,hp2⟩:=hp
   obtain ⟨xs,n,hn,rfl,hlen,hxl,hf⟩:=DataW.trod_struct hu h
   obtain rfl:fuel=n:=by omega
   have key:∀(l:List Field) (k a:Nat),fs.toList.drop k=l→Zst P l a=some (P.cellsOf t)→∃ds b,PlainFs P (l.map (·.type)) ds b∧CR ok w ds (cs.drop a)∧b≤bulks ((xs.drop k).map (·.1)):=by
    intro l
    induction l with
    | nil =>
     intro k a hk ha
     cases ha
     exact ⟨[],0,.nil,by rw [TP (by omega)];exact .nil,T7 _⟩
    | cons f l ih =>
     intro k a hk ha
     rw [Zst] at ha
     split at ha
     ·rename_i hoff
      have hkl:k<fs.size:=by
       have:=congrArg List.length hk
       simp at this;omega
      have hfk:fs[k]?=some f:=by
       have:(fs.toList.drop k)[0]?=some f:=by rw [hk];rfl
       simpa using this
      have hd:fs.toList.drop (k+1)=l:=by rw [← TO,hk];rfl
      obtain ⟨ds,b,g1,g2,g3⟩:=ih (k+1) _ hd ha
      have hx:=hf k f hfk
      rw [Ti (by omega)] at hx
      have hfS:f.type∈S:=by
       have:=hp1 f (by have:=Sh (l:=fs.toList) (i:=k) (a:=f) (by simpa using hfk);exact this)
       simpa using this
      obtain ⟨dr,br,q1,q2,q3⟩:=ZcJ hS hok bulk bulks k1 k2 k3 k4 k5 k6 k7 fuel _ _ _ hfS hx
      rw [hoff] at q2
      refine ⟨dr++ds,br+b,.cons q1 g1,?_,?_⟩
      ·have e:cs.drop a=(cs.drop a).take (P.cellsOf f.type)++cs.drop (a+P.cellsOf f.type):=by rw [← TO,Sw]
       rw [e]
       exact q2.app g2
      ·have e:xs.drop k=xs[k]::xs.drop (k+1):=T1 (by omega)
       rw [e,Tz]
       exact Sb (Nat.add_le_add q3 g3) (k7 _ _)
     ·cases ha
   obtain ⟨ds,b,g1,g2,g3⟩:=key fs.toList 0 0 rfl hp2
   rw [Ss] at g2 g3
   exact ⟨ds,b+1,.st hu g1,g2,Sb (Nat.add_le_add_right g3 1) (k4 _)⟩
  ·rename_i e hu
   rw [Tk,TT] at hp
   obtain ⟨hp,hpos⟩:=hp
   have heS:e∈S:=by simpa using hp
   rcases DataW.trod_slice hu h with ⟨rfl,rfl⟩ | ⟨a,len,cap,elems,rest,n,hn,rfl,rfl,hb,hl,hm,hlen,hel,hsp,hns⟩
   ·exact ⟨[.sl []],1,.sl hu .nil,.one1 .slnil rfl,k6⟩
   obtain rfl:fuel=n:=by omega
   obtain ⟨hs1,hs2⟩:=hsp rfl
   by_cases hc0:cap=0
   ·subst hc0
    obtain rfl:len=0:=by omega
    exact ⟨[.sl []],1,.sl hu .nil,.one1 (.slz a) rfl,Sb (by omega) (k5 _ _)⟩
   have hspot:a.spot=none:=by
    have h0:∃cs',w.cells? 0 (a.add (0 * P.cellsOf e)) (P.cellsOf e)=some cs':=by
     by_cases hl0:0<len
     ·have:=hel 0 hl0
      rw [Ti (by omega)] at this
      obtain ⟨cs',h1,_⟩:=Option.bind_eq_some_iff.1 this
      exact ⟨cs',h1⟩
     ·have:=hs2 0 (by omega)
      rw [Ti (by omega)] at this
      obtain ⟨cs',h1,_⟩:=Option.bind_eq_some_iff.1 this
      exact ⟨cs',by rw [show len+0=0 by omega] at h1;exact h1⟩
    obtain ⟨cs',h1⟩:=h0
    obtain ⟨_,h2,h3⟩:=World.cells?_some h1
    have h4:=h3 0 hpos
    rw [Ti (by omega)] at h4
    have ea:(a.add (0 * P.cellsOf e)).add 0=a:=by simp [Addr.add]
    rw [ea] at h4
    cases hsp:a.spot with
    | none=>rfl
    | some q =>
     unfold World.cell? at h4
     split at h4
     ·rw [hsp] at h4;simp at h4
     ·cases h4
   obtain ⟨blk,off,sp⟩:=a
   obtain rfl:sp=none:=hspot
   have key:∀(m k:Nat),k+m=len→∃rows b,PlainRs P e rows b∧rows.length=m∧b≤bulks ((elems.drop k).map (·.1))∧∀(i:Nat) (r:List D),rows[i]?=some r→∃cs,cs.length=P.cellsOf e∧CR ok w r cs∧∀j,j<P.cellsOf e→w.cell? ⟨blk,off+(k+i) * P.cellsOf e+j,none⟩=cs[j]?:=by
    intro m
    induction m with
    | zero=>intro k hk;exact ⟨[],0,.nil,rfl,T7 _,fun i r h=>by simp at h⟩
    | succ m ih =>
     intro k hk
     obtain ⟨rows,b,g1,g2,g3,g4⟩:=ih (k+1) (by omega)
     have hx:=hel k (by omega)
     rw [Ti (by omega)] at hx
     obtain ⟨cs',h1,h2⟩:=Option.bind_eq_some_iff.1 hx
     obtain ⟨_,h3,h4⟩:=World.cells?_some h1
     obtain ⟨dr,br,q1,q2,q3⟩:=ZcJ hS hok bulk bulks k1 k2 k3 k4 k5 k6 k7 fuel _ _ _ heS h2
     refine ⟨dr::rows,br+b,.cons q1 g1,by rw [Tc,g2],?_,fun i r hr=>?_⟩
     ·rw [T1 (show k<elems.length by omega),Tz]
      exact Sb (Nat.add_le_add q3 g3) (k7 _ _)
     ·cases i with
      | zero =>
       cases hr
       refine ⟨cs',h3,q2,fun j hj=>?_⟩
       have:=h4 j hj
       rw [Yp,Yp] at this
       rw [Sx];exact this
      | succ i =>
       rw [T5] at hr
       obtain ⟨cs,e1,e2,e3⟩:=g4 i r hr
       exact ⟨cs,e1,e2,fun j hj=>by rw [show k+(i+1)=k+1+i by omega];exact e3 j hj⟩
   obtain ⟨rows,b,g1,g2,g3,g4⟩:=key len 0 (by omega)
   rw [Ss] at g3
   refine ⟨[.sl rows],b+1,.sl hu g1,.one1 ?_ rfl,Sb (Nat.add_le_add_right g3 1) (k5 _ _)⟩
   subst g2
   refine .sl rows blk off cap (P.cellsOf e) (fun i j=>(w.cell? ⟨blk,off+i * P.cellsOf e+j,none⟩).getD default) hl (fun r hr=>?_) (fun i j hi hj=>?_) (fun i j _ _=>hok _ _) (fun i j x hx=>?_)
   ·obtain ⟨i,hi,rfl⟩:=T3 hr
    obtain ⟨cs,e1,e2,_⟩:=g4 i _ (Ti hi)
    rw [e2.len,e1]
   ·obtain ⟨cs,e1,e2,e3⟩:=g4 i _ (Ti hi)
    have:=e3 j hj
    rw [So,Ti (by omega)] at this
    simp only [this,Option.getD_some]
   ·obtain ⟨r,hr,hx⟩:=Option.bind_eq_some_iff.1 hx
    obtain ⟨cs,e1,e2,e3⟩:=g4 i r hr
    have hjr:=(Tj.1 hx).1
    have hj:j<P.cellsOf e:=by rw [← e1,← e2.len];exact hjr
    have:=e3 j hj
    rw [So,Ti (by omega)] at this
    simp only [this,Option.getD_some]
    exact e2.rel j x _ hx (Ti (by omega))
  ·cases hp
end
end Go.PM
end

section
namespace Go.PM
def stB (P:Program) (t:TypeId) (tys:List TypeId):Bool:=match P.underlying t with | some (.struct fs)=>decide (fs.toList.map (·.type)=tys) | _=>false
def slB (P:Program) (t e:TypeId):Bool:=match P.underlying t with | some (.slice u)=>decide (u=e) | _=>false
def ZAz (P:Program) (t:TypeId) (k:IntKind):Bool:=match P.underlying t with | some (.int u)=>decide (u=k) | _=>false
def ZAP (P:Program) (t:TypeId):Bool:=match P.underlying t with | some .string=>true | _=>false
def Zxe (P:Program) (t:TypeId):Bool:=match P.underlying t with | some .bool=>true | _=>false
section
variable {P:Program} {t e:TypeId} {ds:List D} {b:Nat}
theorem PlainD.inv_st {tys:List TypeId} (h:PlainD P t ds b) (hu:stB P t tys=true):∃c,b=c+1∧PlainFs P tys ds c:=by
 unfold stB at hu
 cases h with
 | st h hf=>rw [h] at hu;simp only [TT] at hu;exact ⟨_,rfl,hu ▸ hf⟩
 | int h _=>rw [h] at hu;cases hu
 | str h=>rw [h] at hu;cases hu
 | bool h=>rw [h] at hu;cases hu
 | sl h _=>rw [h] at hu;cases hu
theorem PlainD.inv_sl (h:PlainD P t ds b) (hu:slB P t e=true):∃rows c,ds=[.sl rows]∧b=c+1∧PlainRs P e rows c:=by
 unfold slB at hu
 cases h with
 | sl h hr=>rw [h] at hu;simp only [TT] at hu;exact ⟨_,_,rfl,rfl,hu ▸ hr⟩
 | int h _=>rw [h] at hu;cases hu
 | str h=>rw [h] at hu;cases hu
 | bool h=>rw [h] at hu;cases hu
 | st h _=>rw [h] at hu;cases hu
theorem PlainD.inv_int {k:IntKind} (h:PlainD P t ds b) (hu:ZAz P t k=true):∃n,ds=[.int k n]∧b=1∧(Lit.int k n).wf=true:=by
 unfold ZAz at hu
 cases h with
 | int h hw=>rw [h] at hu;simp only [TT] at hu;subst hu;exact ⟨_,rfl,rfl,hw⟩
 | sl h _=>rw [h] at hu;cases hu
 | str h=>rw [h] at hu;cases hu
 | bool h=>rw [h] at hu;cases hu
 | st h _=>rw [h] at hu;cases hu
theorem PlainD.inv_str (h:PlainD P t ds b) (hu:ZAP P t=true):∃s,ds=[.str s]∧b=s.length+1:=by
 unfold ZAP at hu
 cases h with
 | str h=>exact ⟨_,rfl,rfl⟩
 | sl h _=>rw [h] at hu;cases hu
 | int h _=>rw [h] at hu;cases hu
 | bool h=>rw [h] at hu;cases hu
 | st h _=>rw [h] at hu;cases hu
theorem PlainD.inv_bool (h:PlainD P t ds b) (hu:Zxe P t=true):∃q,ds=[.bool q]∧b=1:=by
 unfold Zxe at hu
 cases h with
 | bool h=>exact ⟨_,rfl,rfl⟩
 | sl h _=>rw [h] at hu;cases hu
 | int h _=>rw [h] at hu;cases hu
 | str h=>rw [h] at hu;cases hu
 | st h _=>rw [h] at hu;cases hu
theorem PlainFs.inv {f:TypeId} {l:List TypeId} (h:PlainFs P (f::l) ds b):∃r ds' b1 c,ds=r++ds'∧b=b1+c∧PlainD P f r b1∧PlainFs P l ds' c:=by
 cases h with
 | cons h1 h2=>exact ⟨_,_,_,_,rfl,rfl,h1,h2⟩
theorem PlainFs.inv0 (h:PlainFs P [] ds b):ds=[]∧b=0:=by cases h;exact ⟨rfl,rfl⟩
end
end Go.PM
namespace Go.PM.Lex
open Go.Proofs
def plZ:Pl:=fun n=>if n % 2=0 then (n / 2:Nat) else -((n / 2:Nat):Int) - 1
def zc (z:Int):Nat:=if 0≤z then 2 * z.toNat else 2 * (-z - 1).toNat+1
theorem JW (z:Int):plZ (zc z)=z:=by
 unfold plZ zc
 by_cases h:0≤z
 ·rw [Th h,Th (by omega)];omega
 ·rw [Tf h,Tf (by omega)];omega
theorem U9 {α:Type} {P:Program} {e:TypeId} {enc:α→List D} {sz w:α→Nat} {p:α→Bool}:∀{rows:List (List D)} {b:Nat},PlainRs P e rows b→(∀r c,c≤b→PlainD P e r c→∃x,r=enc x∧sz x+1≤2 * c∧w x+1≤2 * c∧p x=true)→∃xs,rows=xs.map enc∧szS sz xs≤2 * b∧szS w xs≤2 * b∧xs.all p=true
 | [],b,h,hd=>⟨[],rfl,by simp [szS],by simp [szS],rfl⟩
 | r::rows,b,h,hd=>by
  cases h with
  | cons h1 h2 =>
   rename_i b1 c
   obtain ⟨x,rfl,g1,g2,g5⟩:=hd r b1 (by omega) h1
   obtain ⟨xs,rfl,g3,g4,g6⟩:=U9 h2 fun r c' hc=>hd r c' (by omega)
   exact ⟨x::xs,rfl,by simp only [szS];omega,by simp only [szS];omega,by rw [List.all_cons,g5,g6];rfl⟩
theorem Zxf {n:Int} (h:(Lit.int .u8 n).wf=true):∃k:Nat,n=k:=by
 have:0≤n∧n≤255:=by simpa [Lit.wf,IntKind.min,IntKind.max,IntKind.signed,IntKind.bits] using h
 exact ⟨n.toNat,by omega⟩
theorem ZAA {n:Int} (h:(Lit.int .i64 n).wf=true):ZAN n=true:=by
 have:-9223372036854775808≤n∧n≤9223372036854775807:=by simpa [Lit.wf,IntKind.min,IntKind.max,IntKind.signed,IntKind.bits] using h
 simp only [ZAN,Tk,TT]
 omega
theorem ZkL {P:Program} {t:TypeId} (hu:ZAP P t=true) (b:Nat):∀r c,c≤b→PlainD P t r c→∃x,r=Zr x∧sz0 x+1≤2 * c∧wBs x+1≤2 * c∧(fun _=>true) x=true:=fun r c _ h=>by
 obtain ⟨s,rfl,rfl⟩:=h.inv_str hu
 exact ⟨s,rfl,by simp only [sz0];omega,by simp only [wBs];omega,rfl⟩
theorem stE:stB Tryz.prog 24 [5,9,2,22,3]=true:=by kernel_rfl
theorem stL:stB Tryz.prog 60 [5,9,22,48,3]=true:=by kernel_rfl
theorem ZCG:stB Tryz.prog 50 [9,22,48,3]=true:=by kernel_rfl
theorem ZCH:stB Tryz.prog 66 [9,9]=true:=by kernel_rfl
theorem ZCI:stB Tryz.prog 148 [9,61]=true:=by kernel_rfl
theorem ZCJ:stB Tryz.prog 64 [5,9,9,61,62,3]=true:=by kernel_rfl
theorem ZCK:stB Tryz.prog 68 [9,61,4,4,4,3]=true:=by kernel_rfl
theorem ZCL:stB Tryz.prog 73 [9,9,69,3]=true:=by kernel_rfl
theorem ZCM:stB Tryz.prog 75 [9,3]=true:=by kernel_rfl
theorem ZCN:stB Tryz.prog 44 [37,38,39,40,41,42]=true:=by kernel_rfl
theorem ZCO:stB Tryz.prog 71 [9,69,9,69,44,3]=true:=by kernel_rfl
theorem slE:slB Tryz.prog 22 24=true:=by kernel_rfl
theorem slL:slB Tryz.prog 48 60=true:=by kernel_rfl
theorem ZBT:slB Tryz.prog 61 66=true:=by kernel_rfl
theorem ZCP:slB Tryz.prog 62 148=true:=by kernel_rfl
theorem ZCQ:slB Tryz.prog 37 64=true:=by kernel_rfl
theorem ZCR:slB Tryz.prog 38 68=true:=by kernel_rfl
theorem ZCS:slB Tryz.prog 39 50=true:=by kernel_rfl
theorem ZCT:slB Tryz.prog 40 71=true:=by kernel_rfl
theorem ZCU:slB Tryz.prog 41 73=true:=by kernel_rfl
theorem ZCV:slB Tryz.prog 42 75=true:=by kernel_rfl
theorem Zxg:slB Tryz.prog 69 9=true:=by kernel_rfl
theorem ZiU:ZAP Tryz.prog 9=true:=by kernel_rfl
theorem Ztg:ZAz Tryz.prog 3 .i64=true:=by kernel_rfl
theorem ZCW:ZAz Tryz.prog 2 .i64=true:=by kernel_rfl
theorem bU8:ZAz Tryz.prog 5 .u8=true:=by kernel_rfl
theorem Zxh:Zxe Tryz.prog 4=true:=by kernel_rfl
theorem ZCq:∀(n:Nat) (ds:List D) (b:Nat),b≤n→PlainD Tryz.prog 24 ds b→∃x,ds=Yh plZ x∧szE x+1≤2 * b∧wE x+1≤2 * b∧ZdB x=true
 | n,ds,b,hb,h=>by
  obtain ⟨c,rfl,hf⟩:=h.inv_st stE
  cases n with
  | zero=>omega
  | succ n =>
   obtain ⟨_,_,b1,c1,rfl,rfl,h1,hf⟩:=hf.inv
   obtain ⟨_,_,b2,c2,rfl,rfl,h2,hf⟩:=hf.inv
   obtain ⟨_,_,b3,c3,rfl,rfl,h3,hf⟩:=hf.inv
   obtain ⟨_,_,b4,c4,rfl,rfl,h4,hf⟩:=hf.inv
   obtain ⟨_,_,b5,c5,rfl,rfl,h5,hf⟩:=hf.inv
   obtain ⟨rfl,rfl⟩:=hf.inv0
   obtain ⟨q1,rfl,rfl,w1⟩:=h1.inv_int bU8
   obtain ⟨q1,rfl⟩:=Zxf w1
   obtain ⟨q2,rfl,rfl⟩:=h2.inv_str ZiU
   obtain ⟨q3,rfl,rfl,w3⟩:=h3.inv_int ZCW
   have p3:=ZAA w3
   obtain ⟨rows4,d4,rfl,rfl,hr4⟩:=h4.inv_sl slE
   obtain ⟨q4,rfl,g4,e4,p4⟩:=U9 (enc:=Yh plZ) (sz:=szE) (w:=wE) (p:=ZdB) hr4 fun r c hc hd=>ZCq n r c (by omega) hd
   obtain ⟨q5,rfl,rfl,-⟩:=h5.inv_int Ztg
   refine ⟨.mk q1 q2 q3 q4 (zc q5),?_,?_,?_,?_⟩
   ·simp only [Yh,Zf,Zp,ZH,JW];rfl
   ·simp only [szE,XX,Xu,YQ];omega
   ·simp only [wE,VU,Vu,We];omega
   ·simp only [ZdB,VV,U6,Ux,p3,p4];rfl
theorem ZAB {b:Nat} {ds:List D} (h:PlainD Tryz.prog 24 ds b):∃x,ds=Yh plZ x∧szE x+1≤2 * b∧wE x+1≤2 * b∧ZdB x=true:=ZCq b ds b (Tt _) h
theorem ZCr:∀(n:Nat) (ds:List D) (b:Nat),b≤n→PlainD Tryz.prog 60 ds b→∃x,ds=Yt plZ x∧szL x+1≤2 * b∧wL x+1≤2 * b∧ZgN x=true
 | n,ds,b,hb,h=>by
  obtain ⟨c,rfl,hf⟩:=h.inv_st stL
  cases n with
  | zero=>omega
  | succ n =>
   obtain ⟨_,_,b1,c1,rfl,rfl,h1,hf⟩:=hf.inv
   obtain ⟨_,_,b2,c2,rfl,rfl,h2,hf⟩:=hf.inv
   obtain ⟨_,_,b3,c3,rfl,rfl,h3,hf⟩:=hf.inv
   obtain ⟨_,_,b4,c4,rfl,rfl,h4,hf⟩:=hf.inv
   obtain ⟨_,_,b5,c5,rfl,rfl,h5,hf⟩:=hf.inv
   obtain ⟨rfl,rfl⟩:=hf.inv0
   obtain ⟨q1,rfl,rfl,w1⟩:=h1.inv_int bU8
   obtain ⟨q1,rfl⟩:=Zxf w1
   obtain ⟨q2,rfl,rfl⟩:=h2.inv_str ZiU
   obtain ⟨rows3,d3,rfl,rfl,hr3⟩:=h3.inv_sl slE
   obtain ⟨q3,rfl,g3,e3,p3⟩:=U9 (enc:=Yh plZ) (sz:=szE) (w:=wE) (p:=ZdB) hr3 fun r c hc hd=>ZAB hd
   obtain ⟨rows4,d4,rfl,rfl,hr4⟩:=h4.inv_sl slL
   obtain ⟨q4,rfl,g4,e4,p4⟩:=U9 (enc:=Yt plZ) (sz:=szL) (w:=wL) (p:=ZgN) hr4 fun r c hc hd=>ZCr n r c (by omega) hd
   obtain ⟨q5,rfl,rfl,-⟩:=h5.inv_int Ztg
   refine ⟨.mk q1 q2 q3 q4 (zc q5),?_,?_,?_,?_⟩
   ·simp only [Yt,Zf,Zp,ZH,JW];rfl
   ·simp only [szL,XX,Xu,YQ];omega
   ·simp only [wL,VU,Vu,We];omega
   ·simp only [ZgN,VV,U6,Ux,p3,p4];rfl
theorem ZBU {b:Nat} {ds:List D} (h:PlainD Tryz.prog 60 ds b):∃x,ds=Yt plZ x∧szL x+1≤2 * b∧wL x+1≤2 * b∧ZgN x=true:=ZCr b ds b (Tt _) h
theorem ZBV:∀(n:Nat) (ds:List D) (b:Nat),b≤n→PlainD Tryz.prog 50 ds b→∃x,ds=ZI plZ x∧Zdo x+1≤2 * b∧wRu x+1≤2 * b∧ZbR x=true
 | n,ds,b,hb,h=>by
  obtain ⟨c,rfl,hf⟩:=h.inv_st ZCG
  cases n with
  | zero=>omega
  | succ n =>
   obtain ⟨_,_,b1,c1,rfl,rfl,h1,hf⟩:=hf.inv
   obtain ⟨_,_,b2,c2,rfl,rfl,h2,hf⟩:=hf.inv
   obtain ⟨_,_,b3,c3,rfl,rfl,h3,hf⟩:=hf.inv
   obtain ⟨_,_,b4,c4,rfl,rfl,h4,hf⟩:=hf.inv
   obtain ⟨rfl,rfl⟩:=hf.inv0
   obtain ⟨q1,rfl,rfl⟩:=h1.inv_str ZiU
   obtain ⟨rows2,d2,rfl,rfl,hr2⟩:=h2.inv_sl slE
   obtain ⟨q2,rfl,g2,e2,p2⟩:=U9 (enc:=Yh plZ) (sz:=szE) (w:=wE) (p:=ZdB) hr2 fun r c hc hd=>ZAB hd
   obtain ⟨rows3,d3,rfl,rfl,hr3⟩:=h3.inv_sl slL
   obtain ⟨q3,rfl,g3,e3,p3⟩:=U9 (enc:=Yt plZ) (sz:=szL) (w:=wL) (p:=ZgN) hr3 fun r c hc hd=>ZBU hd
   obtain ⟨q4,rfl,rfl,-⟩:=h4.inv_int Ztg
   refine ⟨.mk q1 q2 q3 (zc q4),?_,?_,?_,?_⟩
   ·simp only [ZI,Zf,Zp,ZH,JW];rfl
   ·simp only [Zdo,XX,Xu,YQ];omega
   ·simp only [wRu,VU,Vu,We];omega
   ·simp only [ZbR,VV,U6,Ux,p2,p3];rfl
theorem ZAC {b:Nat} {ds:List D} (h:PlainD Tryz.prog 50 ds b):∃x,ds=ZI plZ x∧Zdo x+1≤2 * b∧wRu x+1≤2 * b∧ZbR x=true:=ZBV b ds b (Tt _) h
theorem ZBW:∀(n:Nat) (ds:List D) (b:Nat),b≤n→PlainD Tryz.prog 66 ds b→∃x,ds=Zt x∧sz0 x+1≤2 * b∧wFi x+1≤2 * b∧(fun _=>true) x=true
 | n,ds,b,hb,h=>by
  obtain ⟨c,rfl,hf⟩:=h.inv_st ZCH
  cases n with
  | zero=>omega
  | succ n =>
   obtain ⟨_,_,b1,c1,rfl,rfl,h1,hf⟩:=hf.inv
   obtain ⟨_,_,b2,c2,rfl,rfl,h2,hf⟩:=hf.inv
   obtain ⟨rfl,rfl⟩:=hf.inv0
   obtain ⟨q1,rfl,rfl⟩:=h1.inv_str ZiU
   obtain ⟨q2,rfl,rfl⟩:=h2.inv_str ZiU
   refine ⟨.mk q1 q2,?_,?_,?_,?_⟩
   ·simp only [Zt,Zf,Zp,ZH,JW];rfl
   ·simp only [sz0,XX,Xu,YQ];omega
   ·simp only [wFi,VU,Vu,We];omega
   ·rfl
theorem ZqC {b:Nat} {ds:List D} (h:PlainD Tryz.prog 66 ds b):∃x,ds=Zt x∧sz0 x+1≤2 * b∧wFi x+1≤2 * b∧(fun _=>true) x=true:=ZBW b ds b (Tt _) h
theorem ZBX:∀(n:Nat) (ds:List D) (b:Nat),b≤n→PlainD Tryz.prog 148 ds b→∃x,ds=Zs x∧Zbf x+1≤2 * b∧wCa x+1≤2 * b∧(fun _=>true) x=true
 | n,ds,b,hb,h=>by
  obtain ⟨c,rfl,hf⟩:=h.inv_st ZCI
  cases n with
  | zero=>omega
  | succ n =>
   obtain ⟨_,_,b1,c1,rfl,rfl,h1,hf⟩:=hf.inv
   obtain ⟨_,_,b2,c2,rfl,rfl,h2,hf⟩:=hf.inv
   obtain ⟨rfl,rfl⟩:=hf.inv0
   obtain ⟨q1,rfl,rfl⟩:=h1.inv_str ZiU
   obtain ⟨rows2,d2,rfl,rfl,hr2⟩:=h2.inv_sl ZBT
   obtain ⟨q2,rfl,g2,e2,p2⟩:=U9 (enc:=Zt) (sz:=sz0) (w:=wFi) (p:=fun _=>true) hr2 fun r c hc hd=>ZqC hd
   refine ⟨.mk q1 q2,?_,?_,?_,?_⟩
   ·simp only [Zs,Zf,Zp,ZH,JW];rfl
   ·simp only [Zbf,XX,Xu,YQ];omega
   ·simp only [wCa,VU,Vu,We];omega
   ·rfl
theorem ZAD {b:Nat} {ds:List D} (h:PlainD Tryz.prog 148 ds b):∃x,ds=Zs x∧Zbf x+1≤2 * b∧wCa x+1≤2 * b∧(fun _=>true) x=true:=ZBX b ds b (Tt _) h
theorem ZBY:∀(n:Nat) (ds:List D) (b:Nat),b≤n→PlainD Tryz.prog 64 ds b→∃x,ds=Zx plZ x∧ZeC x+1≤2 * b∧wTy x+1≤2 * b∧(fun _=>true) x=true
 | n,ds,b,hb,h=>by
  obtain ⟨c,rfl,hf⟩:=h.inv_st ZCJ
  cases n with
  | zero=>omega
  | succ n =>
   obtain ⟨_,_,b1,c1,rfl,rfl,h1,hf⟩:=hf.inv
   obtain ⟨_,_,b2,c2,rfl,rfl,h2,hf⟩:=hf.inv
   obtain ⟨_,_,b3,c3,rfl,rfl,h3,hf⟩:=hf.inv
   obtain ⟨_,_,b4,c4,rfl,rfl,h4,hf⟩:=hf.inv
   obtain ⟨_,_,b5,c5,rfl,rfl,h5,hf⟩:=hf.inv
   obtain ⟨_,_,b6,c6,rfl,rfl,h6,hf⟩:=hf.inv
   obtain ⟨rfl,rfl⟩:=hf.inv0
   obtain ⟨q1,rfl,rfl,w1⟩:=h1.inv_int bU8
   obtain ⟨q1,rfl⟩:=Zxf w1
   obtain ⟨q2,rfl,rfl⟩:=h2.inv_str ZiU
   obtain ⟨q3,rfl,rfl⟩:=h3.inv_str ZiU
   obtain ⟨rows4,d4,rfl,rfl,hr4⟩:=h4.inv_sl ZBT
   obtain ⟨q4,rfl,g4,e4,p4⟩:=U9 (enc:=Zt) (sz:=sz0) (w:=wFi) (p:=fun _=>true) hr4 fun r c hc hd=>ZqC hd
   obtain ⟨rows5,d5,rfl,rfl,hr5⟩:=h5.inv_sl ZCP
   obtain ⟨q5,rfl,g5,e5,p5⟩:=U9 (enc:=Zs) (sz:=Zbf) (w:=wCa) (p:=fun _=>true) hr5 fun r c hc hd=>ZAD hd
   obtain ⟨q6,rfl,rfl,-⟩:=h6.inv_int Ztg
   refine ⟨.mk q1 q2 q3 q4 q5 (zc q6),?_,?_,?_,?_⟩
   ·simp only [Zx,Zf,Zp,ZH,JW];rfl
   ·simp only [ZeC,XX,Xu,YQ];omega
   ·simp only [wTy,VU,Vu,We];omega
   ·rfl
theorem ZAE {b:Nat} {ds:List D} (h:PlainD Tryz.prog 64 ds b):∃x,ds=Zx plZ x∧ZeC x+1≤2 * b∧wTy x+1≤2 * b∧(fun _=>true) x=true:=ZBY b ds b (Tt _) h
theorem ZBZ:∀(n:Nat) (ds:List D) (b:Nat),b≤n→PlainD Tryz.prog 68 ds b→∃x,ds=ZG plZ x∧Zdp x+1≤2 * b∧wRe x+1≤2 * b∧(fun _=>true) x=true
 | n,ds,b,hb,h=>by
  obtain ⟨c,rfl,hf⟩:=h.inv_st ZCK
  cases n with
  | zero=>omega
  | succ n =>
   obtain ⟨_,_,b1,c1,rfl,rfl,h1,hf⟩:=hf.inv
   obtain ⟨_,_,b2,c2,rfl,rfl,h2,hf⟩:=hf.inv
   obtain ⟨_,_,b3,c3,rfl,rfl,h3,hf⟩:=hf.inv
   obtain ⟨_,_,b4,c4,rfl,rfl,h4,hf⟩:=hf.inv
   obtain ⟨_,_,b5,c5,rfl,rfl,h5,hf⟩:=hf.inv
   obtain ⟨_,_,b6,c6,rfl,rfl,h6,hf⟩:=hf.inv
   obtain ⟨rfl,rfl⟩:=hf.inv0
   obtain ⟨q1,rfl,rfl⟩:=h1.inv_str ZiU
   obtain ⟨rows2,d2,rfl,rfl,hr2⟩:=h2.inv_sl ZBT
   obtain ⟨q2,rfl,g2,e2,p2⟩:=U9 (enc:=Zt) (sz:=sz0) (w:=wFi) (p:=fun _=>true) hr2 fun r c hc hd=>ZqC hd
   obtain ⟨q3,rfl,rfl⟩:=h3.inv_bool Zxh
   obtain ⟨q4,rfl,rfl⟩:=h4.inv_bool Zxh
   obtain ⟨q5,rfl,rfl⟩:=h5.inv_bool Zxh
   obtain ⟨q6,rfl,rfl,-⟩:=h6.inv_int Ztg
   refine ⟨.mk q1 q2 q3 q4 q5 (zc q6),?_,?_,?_,?_⟩
   ·simp only [ZG,Zf,Zp,ZH,JW];rfl
   ·simp only [Zdp,XX,Xu,YQ];omega
   ·simp only [wRe,VU,Vu,We];omega
   ·rfl
theorem ZAF {b:Nat} {ds:List D} (h:PlainD Tryz.prog 68 ds b):∃x,ds=ZG plZ x∧Zdp x+1≤2 * b∧wRe x+1≤2 * b∧(fun _=>true) x=true:=ZBZ b ds b (Tt _) h
theorem ZB0:∀(n:Nat) (ds:List D) (b:Nat),b≤n→PlainD Tryz.prog 73 ds b→∃x,ds=ZQ plZ x∧ZgG x+1≤2 * b∧wIn x+1≤2 * b∧(fun _=>true) x=true
 | n,ds,b,hb,h=>by
  obtain ⟨c,rfl,hf⟩:=h.inv_st ZCL
  cases n with
  | zero=>omega
  | succ n =>
   obtain ⟨_,_,b1,c1,rfl,rfl,h1,hf⟩:=hf.inv
   obtain ⟨_,_,b2,c2,rfl,rfl,h2,hf⟩:=hf.inv
   obtain ⟨_,_,b3,c3,rfl,rfl,h3,hf⟩:=hf.inv
   obtain ⟨_,_,b4,c4,rfl,rfl,h4,hf⟩:=hf.inv
   obtain ⟨rfl,rfl⟩:=hf.inv0
   obtain ⟨q1,rfl,rfl⟩:=h1.inv_str ZiU
   obtain ⟨q2,rfl,rfl⟩:=h2.inv_str ZiU
   obtain ⟨rows3,d3,rfl,rfl,hr3⟩:=h3.inv_sl Zxg
   obtain ⟨q3,rfl,g3,e3,-⟩:=U9 (enc:=Zr) (sz:=sz0) (w:=wBs) (p:=fun _=>true) hr3 (ZkL ZiU _)
   obtain ⟨q4,rfl,rfl,-⟩:=h4.inv_int Ztg
   refine ⟨.mk q1 q2 q3 (zc q4),?_,?_,?_,?_⟩
   ·simp only [ZQ,Zf,Zp,ZH,JW];rfl
   ·simp only [ZgG,XX,Xu,YQ];omega
   ·simp only [wIn,VU,Vu,We];omega
   ·rfl
theorem ZAG {b:Nat} {ds:List D} (h:PlainD Tryz.prog 73 ds b):∃x,ds=ZQ plZ x∧ZgG x+1≤2 * b∧wIn x+1≤2 * b∧(fun _=>true) x=true:=ZB0 b ds b (Tt _) h
theorem ZB1:∀(n:Nat) (ds:List D) (b:Nat),b≤n→PlainD Tryz.prog 75 ds b→∃x,ds=ZN plZ x∧sz0 x+1≤2 * b∧wOv x+1≤2 * b∧(fun _=>true) x=true
 | n,ds,b,hb,h=>by
  obtain ⟨c,rfl,hf⟩:=h.inv_st ZCM
  cases n with
  | zero=>omega
  | succ n =>
   obtain ⟨_,_,b1,c1,rfl,rfl,h1,hf⟩:=hf.inv
   obtain ⟨_,_,b2,c2,rfl,rfl,h2,hf⟩:=hf.inv
   obtain ⟨rfl,rfl⟩:=hf.inv0
   obtain ⟨q1,rfl,rfl⟩:=h1.inv_str ZiU
   obtain ⟨q2,rfl,rfl,-⟩:=h2.inv_int Ztg
   refine ⟨.mk q1 (zc q2),?_,?_,?_,?_⟩
   ·simp only [ZN,Zf,Zp,ZH,JW];rfl
   ·simp only [sz0,XX,Xu,YQ];omega
   ·simp only [wOv,VU,Vu,We];omega
   ·rfl
theorem ZAH {b:Nat} {ds:List D} (h:PlainD Tryz.prog 75 ds b):∃x,ds=ZN plZ x∧sz0 x+1≤2 * b∧wOv x+1≤2 * b∧(fun _=>true) x=true:=ZB1 b ds b (Tt _) h
mutual
theorem ZAI:∀(n:Nat) (ds:List D) (b:Nat),b≤n→PlainD Tryz.prog 44 ds b→∃x,ds=Yf plZ x∧Zc8 x+1≤2 * b∧wUn x+1≤2 * b∧Zfa x=true
 | n,ds,b,hb,h=>by
  obtain ⟨c,rfl,hf⟩:=h.inv_st ZCN
  cases n with
  | zero=>omega
  | succ n =>
   obtain ⟨_,_,b1,c1,rfl,rfl,h1,hf⟩:=hf.inv
   obtain ⟨_,_,b2,c2,rfl,rfl,h2,hf⟩:=hf.inv
   obtain ⟨_,_,b3,c3,rfl,rfl,h3,hf⟩:=hf.inv
   obtain ⟨_,_,b4,c4,rfl,rfl,h4,hf⟩:=hf.inv
   obtain ⟨_,_,b5,c5,rfl,rfl,h5,hf⟩:=hf.inv
   obtain ⟨_,_,b6,c6,rfl,rfl,h6,hf⟩:=hf.inv
   obtain ⟨rfl,rfl⟩:=hf.inv0
   obtain ⟨rows1,d1,rfl,rfl,hr1⟩:=h1.inv_sl ZCQ
   obtain ⟨q1,rfl,g1,e1,p1⟩:=U9 (enc:=Zx plZ) (sz:=ZeC) (w:=wTy) (p:=fun _=>true) hr1 fun r c hc hd=>ZAE hd
   obtain ⟨rows2,d2,rfl,rfl,hr2⟩:=h2.inv_sl ZCR
   obtain ⟨q2,rfl,g2,e2,p2⟩:=U9 (enc:=ZG plZ) (sz:=Zdp) (w:=wRe) (p:=fun _=>true) hr2 fun r c hc hd=>ZAF hd
   obtain ⟨rows3,d3,rfl,rfl,hr3⟩:=h3.inv_sl ZCS
   obtain ⟨q3,rfl,g3,e3,p3⟩:=U9 (enc:=ZI plZ) (sz:=Zdo) (w:=wRu) (p:=ZbR) hr3 fun r c hc hd=>ZAC hd
   obtain ⟨rows4,d4,rfl,rfl,hr4⟩:=h4.inv_sl ZCT
   obtain ⟨q4,rfl,g4,e4,p4⟩:=U9 (enc:=ZW plZ) (sz:=Zbg) (w:=wCo) (p:=ZbS) hr4 fun r c hc hd=>ZB2 n r c (by omega) hd
   obtain ⟨rows5,d5,rfl,rfl,hr5⟩:=h5.inv_sl ZCU
   obtain ⟨q5,rfl,g5,e5,p5⟩:=U9 (enc:=ZQ plZ) (sz:=ZgG) (w:=wIn) (p:=fun _=>true) hr5 fun r c hc hd=>ZAG hd
   obtain ⟨rows6,d6,rfl,rfl,hr6⟩:=h6.inv_sl ZCV
   obtain ⟨q6,rfl,g6,e6,p6⟩:=U9 (enc:=ZN plZ) (sz:=sz0) (w:=wOv) (p:=fun _=>true) hr6 fun r c hc hd=>ZAH hd
   refine ⟨.mk q1 q2 q3 q4 q5 q6,?_,?_,?_,?_⟩
   ·simp only [Yf,Zf,Zp,ZH,JW];rfl
   ·simp only [Zc8,XX,Xu,YQ];omega
   ·simp only [wUn,VU,Vu,We];omega
   ·simp only [Zfa,VV,U6,Ux,p3,p4];rfl
theorem ZB2:∀(n:Nat) (ds:List D) (b:Nat),b≤n→PlainD Tryz.prog 71 ds b→∃x,ds=ZW plZ x∧Zbg x+1≤2 * b∧wCo x+1≤2 * b∧ZbS x=true
 | n,ds,b,hb,h=>by
  obtain ⟨c,rfl,hf⟩:=h.inv_st ZCO
  cases n with
  | zero=>omega
  | succ n =>
   obtain ⟨_,_,b1,c1,rfl,rfl,h1,hf⟩:=hf.inv
   obtain ⟨_,_,b2,c2,rfl,rfl,h2,hf⟩:=hf.inv
   obtain ⟨_,_,b3,c3,rfl,rfl,h3,hf⟩:=hf.inv
   obtain ⟨_,_,b4,c4,rfl,rfl,h4,hf⟩:=hf.inv
   obtain ⟨_,_,b5,c5,rfl,rfl,h5,hf⟩:=hf.inv
   obtain ⟨_,_,b6,c6,rfl,rfl,h6,hf⟩:=hf.inv
   obtain ⟨rfl,rfl⟩:=hf.inv0
   obtain ⟨q1,rfl,rfl⟩:=h1.inv_str ZiU
   obtain ⟨rows2,d2,rfl,rfl,hr2⟩:=h2.inv_sl Zxg
   obtain ⟨q2,rfl,g2,e2,-⟩:=U9 (enc:=Zr) (sz:=sz0) (w:=wBs) (p:=fun _=>true) hr2 (ZkL ZiU _)
   obtain ⟨q3,rfl,rfl⟩:=h3.inv_str ZiU
   obtain ⟨rows4,d4,rfl,rfl,hr4⟩:=h4.inv_sl Zxg
   obtain ⟨q4,rfl,g4,e4,-⟩:=U9 (enc:=Zr) (sz:=sz0) (w:=wBs) (p:=fun _=>true) hr4 (ZkL ZiU _)
   obtain ⟨q5,rfl,g5,e5,p5⟩:=ZAI n _ _ (by omega) h5
   obtain ⟨q6,rfl,rfl,-⟩:=h6.inv_int Ztg
   refine ⟨.mk q1 q2 q3 q4 q5 (zc q6),?_,?_,?_,?_⟩
   ·simp only [ZW,Zf,Zp,ZH,JW];rfl
   ·simp only [Zbg,XX,Xu,YQ];omega
   ·simp only [wCo,VU,Vu,We];omega
   ·simp only [ZbS,p5]
end
theorem ZAJ {b:Nat} {ds:List D} (h:PlainD Tryz.prog 44 ds b):∃x,ds=Yf plZ x∧Zc8 x+1≤2 * b∧wUn x+1≤2 * b∧Zfa x=true:=ZAI b ds b (Tt _) h
end Go.PM.Lex
end

section
namespace Go.PM.Lex
open Go.Proofs Go.Proofs.YtflgockgjnddnaaGreatDoor
def plainS:List TypeId:=[44,37,38,39,40,41,42,64,68,50,71,73,75,66,61,148,62,24,22,60,48,69,9,3,5,2,4]
theorem ZqD:plainS.all (ZqB Tryz.prog plainS)=true:=by kernel_rfl
theorem Zsu:∀b off,okc Znt ⟨[],[],0⟩ b off:=fun b off=>⟨fun h=>h,fun i hi=>by simp at hi,fun t ht=>by cases ht⟩
section
variable {H:Type} {enc:TypeId×Value→H} {W:World} {nG:Nat}
theorem ZqE {t:TypeId} {cs:Array Value} {d:DataW H} {ps:List MemPlace} (ht:t∈plainS) (h:DataW.Trod enc Tryz.prog W 0 (fun _=>true) true t (.agg cs) d ps) :
  ∃ds b,PlainD Tryz.prog t ds b∧VRel (GG W nG) Znt ⟨[],[],0⟩ W (.agg (ds.map .d)) (.agg cs)∧b≤Rows.uptoBulk d:=by
 obtain ⟨fuel,hf⟩:=h
 obtain ⟨ds,b,h1,h2,h3⟩:=ZcJ ZqD Zsu Rows.uptoBulk Rows.uptoBulkAll (fun _ _=>Tt _) (fun _=>Tt _) (fun _=>Tt _) (fun _=>Tt _) (fun l m=>by simp only [Rows.uptoBulk];omega) (Tt _) (fun _ _=>Tt _) fuel t _ _ ht hf
 have hc:(Value.agg cs).cells.toList=cs.toList:=rfl
 rw [hc] at h2
 refine ⟨ds,b,h1,.agg _ _ (by rw [Te,h2.len,Sm]) (fun i x u hx hu=>?_) (fun u hu=>h2.one u (by simpa using hu)),h3⟩
 rw [TN] at hx
 obtain ⟨y,hy,rfl⟩:=Option.map_eq_some_iff.1 hx
 exact .d _ _ (h2.rel i y u hy (by simpa using hu))
theorem Zsv {cs:Array Value} {d:DataW H} {ps:List MemPlace} (h:DataW.Trod enc Tryz.prog W 0 (fun _=>true) true 44 (.agg cs) d ps) :
  ∃x,VRel (GG W nG) Znt ⟨[],[],0⟩ W (.agg ((Yf plZ x).map .d)) (.agg cs)∧Zc8 x+1≤2 * Rows.uptoBulk d∧wUn x+1≤2 * Rows.uptoBulk d∧Zfa x=true:=by
 obtain ⟨ds,b,h1,h2,h3⟩:=ZqE (nG:=nG) (by decide) h
 obtain ⟨x,rfl,g1,g2,g3⟩:=ZAJ h1
 exact ⟨x,h2,by omega,by omega,g3⟩
end
end Go.PM.Lex
end
