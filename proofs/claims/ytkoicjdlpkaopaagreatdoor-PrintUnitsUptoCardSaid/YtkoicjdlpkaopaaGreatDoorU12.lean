/- A part of the proof: plain logic, contracts and laws over the given program. -/
import Derived.Test.YtkoicjdlpkaopaaGreatDoorU11
set_option linter.unusedVariables false
set_option linter.unusedSimpArgs false
set_option linter.all false
set_option maxRecDepth 100000
set_option maxHeartbeats 16000000
section
namespace Go.PM
def stB (P:Program) (t:TypeId) (tys:List TypeId):Bool:=match P.underlying t with | some (.struct fs)=>decide (fs.toList.map (·.type)=tys) | _=>false
def slB (P:Program) (t e:TypeId):Bool:=match P.underlying t with | some (.slice u)=>decide (u=e) | _=>false
def ZyL (P:Program) (t:TypeId) (k:IntKind):Bool:=match P.underlying t with | some (.int u)=>decide (u=k) | _=>false
def Zy8 (P:Program) (t:TypeId):Bool:=match P.underlying t with | some .string=>true | _=>false
def Zwr (P:Program) (t:TypeId):Bool:=match P.underlying t with | some .bool=>true | _=>false
section
variable {P:Program} {t e:TypeId} {ds:List D} {b:Nat}
theorem PlainD.inv_st {tys:List TypeId} (h:PlainD P t ds b) (hu:stB P t tys=true):∃c,b=c+1/\PlainFs P tys ds c:=by
 unfold stB at hu
 cases h with
 | st h hf=>rw [h] at hu;simp only [TG] at hu;exact ⟨_,rfl,hu ▸ hf⟩
 | int h _=>rw [h] at hu;cases hu
 | str h=>rw [h] at hu;cases hu
 | bool h=>rw [h] at hu;cases hu
 | sl h _=>rw [h] at hu;cases hu
theorem PlainD.inv_sl (h:PlainD P t ds b) (hu:slB P t e=true):∃rows c,ds=[.sl rows]/\b=c+1/\PlainRs P e rows c:=by
 unfold slB at hu
 cases h with
 | sl h hr=>rw [h] at hu;simp only [TG] at hu;exact ⟨_,_,rfl,rfl,hu ▸ hr⟩
 | int h _=>rw [h] at hu;cases hu
 | str h=>rw [h] at hu;cases hu
 | bool h=>rw [h] at hu;cases hu
 | st h _=>rw [h] at hu;cases hu
theorem PlainD.inv_int {k:IntKind} (h:PlainD P t ds b) (hu:ZyL P t k=true):∃n,ds=[.int k n]/\b=1/\(Lit.int k n).wf=true:=by
 unfold ZyL at hu
 cases h with
 | int h hw=>rw [h] at hu;simp only [TG] at hu;subst hu;exact ⟨_,rfl,rfl,hw⟩
 | sl h _=>rw [h] at hu;cases hu
 | str h=>rw [h] at hu;cases hu
 | bool h=>rw [h] at hu;cases hu
 | st h _=>rw [h] at hu;cases hu
theorem PlainD.inv_str (h:PlainD P t ds b) (hu:Zy8 P t=true):∃s,ds=[.str s]/\b=s.length+1:=by
 unfold Zy8 at hu
 cases h with
 | str h=>exact ⟨_,rfl,rfl⟩
 | sl h _=>rw [h] at hu;cases hu
 | int h _=>rw [h] at hu;cases hu
 | bool h=>rw [h] at hu;cases hu
 | st h _=>rw [h] at hu;cases hu
theorem PlainD.inv_bool (h:PlainD P t ds b) (hu:Zwr P t=true):∃q,ds=[.bool q]/\b=1:=by
 unfold Zwr at hu
 cases h with
 | bool h=>exact ⟨_,rfl,rfl⟩
 | sl h _=>rw [h] at hu;cases hu
 | int h _=>rw [h] at hu;cases hu
 | str h=>rw [h] at hu;cases hu
 | st h _=>rw [h] at hu;cases hu
theorem PlainFs.inv {f:TypeId} {l:List TypeId} (h:PlainFs P (f::l) ds b):∃r ds' b1 c,ds=r++ds'/\b=b1+c/\PlainD P f r b1/\PlainFs P l ds' c:=by
 cases h with
 | cons h1 h2=>exact ⟨_,_,_,_,rfl,rfl,h1,h2⟩
theorem PlainFs.inv0 (h:PlainFs P [] ds b):ds=[]/\b=0:=by cases h;exact ⟨rfl,rfl⟩
end
end Go.PM
namespace Go.PM.Lex
open Go.Proofs
def plZ:Pl:=fun n=>if n % 2=0 then (n / 2:Nat) else -((n / 2:Nat):Int) - 1
def zc (z:Int):Nat:=if 0<=z then 2 * z.toNat else 2 * (-z - 1).toNat+1
theorem Jf (z:Int):plZ (zc z)=z:=by
 unfold plZ zc
 by_cases h:0<=z
 ·rw [Tg h,Tg oM];omega
 rw [Tc h,Tc oM];omega
theorem UG {α:Type} {P:Program} {e:TypeId} {enc:α->List D} {sz w:α->Nat} {p:α->Bool}:∀{rows:List (List D)} {b:Nat},PlainRs P e rows b->(∀r c,c<=b->PlainD P e r c->∃x,r=enc x/\sz x+1<=2 * c/\w x+1<=2 * c/\p x=true)->∃xs,rows=xs.map enc/\szS sz xs<=2 * b/\szS w xs<=2 * b/\xs.all p=true
 | [],b,h,hd=>⟨[],rfl,by simp [szS],by simp [szS],rfl⟩
 | r::rows,b,h,hd=>by
  cases h with
  | cons h1 h2 =>
  rename_i b1 c
  obtain ⟨x,rfl,g1,g2,g5⟩:=hd r b1 oM h1;obtain ⟨xs,rfl,g3,g4,g6⟩:=UG h2 fun r c' hc=>hd r c' oM
  exact ⟨x::xs,rfl,by simp only [szS];omega,by simp only [szS];omega,by rw [List.all_cons,g5,g6];rfl⟩
theorem Zws {n:Int} (h:(Lit.int .u8 n).wf=true):∃k:Nat,n=k:=by
 have:0<=n/\n<=255:=by simpa [Lit.wf,IntKind.min,IntKind.max,IntKind.signed,IntKind.bits] using h
 exact ⟨n.toNat,oM⟩
theorem ZyM {n:Int} (h:(Lit.int .i64 n).wf=true):ZyW n=true:=by
 have:-9223372036854775808<=n/\n<=9223372036854775807:=by simpa [Lit.wf,IntKind.min,IntKind.max,IntKind.signed,IntKind.bits] using h
 simp only [ZyW,Tk,TG];omega
theorem Zjm {P:Program} {t:TypeId} (hu:Zy8 P t=true) (b:Nat):∀r c,c<=b->PlainD P t r c->∃x,r=ZB x/\sz0 x+1<=2 * c/\wBs x+1<=2 * c/\(fun _=>true) x=true:=fun r c _ h=>by
 obtain ⟨s,rfl,rfl⟩:=h.inv_str hu;exact ⟨s,rfl,by simp only [sz0];omega,by simp only [wBs];omega,rfl⟩
theorem stE:stB Tryz.prog 48 [5,9,2,46,3]=true:=kR
theorem stL:stB Tryz.prog 151 [5,9,46,82,3]=true:=kR
theorem ZBh:stB Tryz.prog 84 [9,46,82,3]=true:=kR
theorem ZBi:stB Tryz.prog 100 [9,9]=true:=kR
theorem ZBj:stB Tryz.prog 70 [9,64]=true:=kR
theorem ZBk:stB Tryz.prog 67 [5,9,9,64,65,3]=true:=kR
theorem ZBl:stB Tryz.prog 72 [9,64,4,4,4,3]=true:=kR
theorem ZBm:stB Tryz.prog 41 [9,9,39,3]=true:=kR
theorem ZBn:stB Tryz.prog 43 [9,3]=true:=kR
theorem ZBo:stB Tryz.prog 29 [22,23,24,25,26,27]=true:=kR
theorem ZBp:stB Tryz.prog 45 [9,39,9,39,29,3]=true:=kR
theorem slE:slB Tryz.prog 46 48=true:=kR
theorem slL:slB Tryz.prog 82 151=true:=kR
theorem ZAn:slB Tryz.prog 64 100=true:=kR
theorem ZBq:slB Tryz.prog 65 70=true:=kR
theorem ZBr:slB Tryz.prog 22 67=true:=kR
theorem ZBs:slB Tryz.prog 23 72=true:=kR
theorem ZBt:slB Tryz.prog 24 84=true:=kR
theorem ZBu:slB Tryz.prog 25 45=true:=kR
theorem ZBv:slB Tryz.prog 26 41=true:=kR
theorem ZBw:slB Tryz.prog 27 43=true:=kR
theorem Zwt:slB Tryz.prog 39 9=true:=kR
theorem ZhY:Zy8 Tryz.prog 9=true:=kR
theorem Ztw:ZyL Tryz.prog 3 .i64=true:=kR
theorem ZBx:ZyL Tryz.prog 2 .i64=true:=kR
theorem bU8:ZyL Tryz.prog 5 .u8=true:=kR
theorem Zwu:Zwr Tryz.prog 4=true:=kR
theorem ZAV:∀(n:Nat) (ds:List D) (b:Nat),b<=n->PlainD Tryz.prog 48 ds b->∃x,ds=YE plZ x/\szE x+1<=2 * b/\wE x+1<=2 * b/\JV x=true
 | n,ds,b,hb,h=>by
  obtain ⟨c,rfl,hf⟩:=h.inv_st stE
  cases n with
  | zero=>omega
  | succ n =>
  obtain ⟨_,_,b1,c1,rfl,rfl,h1,hf⟩:=hf.inv;obtain ⟨_,_,b2,c2,rfl,rfl,h2,hf⟩:=hf.inv;obtain ⟨_,_,b3,c3,rfl,rfl,h3,hf⟩:=hf.inv;obtain ⟨_,_,b4,c4,rfl,rfl,h4,hf⟩:=hf.inv;obtain ⟨_,_,b5,c5,rfl,rfl,h5,hf⟩:=hf.inv;obtain ⟨rfl,rfl⟩:=hf.inv0;obtain ⟨q1,rfl,rfl,w1⟩:=h1.inv_int bU8;obtain ⟨q1,rfl⟩:=Zws w1;obtain ⟨q2,rfl,rfl⟩:=h2.inv_str ZhY;obtain ⟨q3,rfl,rfl,w3⟩:=h3.inv_int ZBx;have p3:=ZyM w3;obtain ⟨rows4,d4,rfl,rfl,l4⟩:=h4.inv_sl slE;obtain ⟨q4,rfl,g4,e4,p4⟩:=UG (enc:=YE plZ) (sz:=szE) (w:=wE) (p:=JV) l4 fun r c hc hd=>ZAV n r c oM hd
  obtain ⟨q5,rfl,rfl,-⟩:=h5.inv_int Ztw;refine ⟨.mk q1 q2 q3 q4 (zc q5),?_,?_,?_,?_⟩
  ·simp only [YE,Ze,Zr,ZN,Jf];rfl
  ·simp only [szE,Wf,XR,Xa];omega
  ·simp only [wE,Vk,WS,XB];omega
  simp only [JV,VC,UB,V7,p3,p4];rfl
theorem ZyN {b:Nat} {ds:List D} (h:PlainD Tryz.prog 48 ds b):∃x,ds=YE plZ x/\szE x+1<=2 * b/\wE x+1<=2 * b/\JV x=true:=ZAV b ds b (Tr _) h
theorem ZAW:∀(n:Nat) (ds:List D) (b:Nat),b<=n->PlainD Tryz.prog 151 ds b->∃x,ds=XI plZ x/\szL x+1<=2 * b/\wL x+1<=2 * b/\Zh2 x=true
 | n,ds,b,hb,h=>by
  obtain ⟨c,rfl,hf⟩:=h.inv_st stL
  cases n with
  | zero=>omega
  | succ n =>
  obtain ⟨_,_,b1,c1,rfl,rfl,h1,hf⟩:=hf.inv;obtain ⟨_,_,b2,c2,rfl,rfl,h2,hf⟩:=hf.inv;obtain ⟨_,_,b3,c3,rfl,rfl,h3,hf⟩:=hf.inv;obtain ⟨_,_,b4,c4,rfl,rfl,h4,hf⟩:=hf.inv;obtain ⟨_,_,b5,c5,rfl,rfl,h5,hf⟩:=hf.inv;obtain ⟨rfl,rfl⟩:=hf.inv0;obtain ⟨q1,rfl,rfl,w1⟩:=h1.inv_int bU8;obtain ⟨q1,rfl⟩:=Zws w1;obtain ⟨q2,rfl,rfl⟩:=h2.inv_str ZhY;obtain ⟨rows3,d3,rfl,rfl,bm⟩:=h3.inv_sl slE;obtain ⟨q3,rfl,g3,e3,p3⟩:=UG (enc:=YE plZ) (sz:=szE) (w:=wE) (p:=JV) bm fun r c hc hd=>ZyN hd
  obtain ⟨rows4,d4,rfl,rfl,l4⟩:=h4.inv_sl slL;obtain ⟨q4,rfl,g4,e4,p4⟩:=UG (enc:=XI plZ) (sz:=szL) (w:=wL) (p:=Zh2) l4 fun r c hc hd=>ZAW n r c oM hd
  obtain ⟨q5,rfl,rfl,-⟩:=h5.inv_int Ztw;refine ⟨.mk q1 q2 q3 q4 (zc q5),?_,?_,?_,?_⟩
  ·simp only [XI,Ze,Zr,ZN,Jf];rfl
  ·simp only [szL,Wf,XR,Xa];omega
  ·simp only [wL,Vk,WS,XB];omega
  simp only [Zh2,VC,UB,V7,p3,p4];rfl
theorem ZAo {b:Nat} {ds:List D} (h:PlainD Tryz.prog 151 ds b):∃x,ds=XI plZ x/\szL x+1<=2 * b/\wL x+1<=2 * b/\Zh2 x=true:=ZAW b ds b (Tr _) h
theorem ZAp:∀(n:Nat) (ds:List D) (b:Nat),b<=n->PlainD Tryz.prog 84 ds b->∃x,ds=ZW plZ x/\ZiY x+1<=2 * b/\wRu x+1<=2 * b/\Zdx x=true
 | n,ds,b,hb,h=>by
  obtain ⟨c,rfl,hf⟩:=h.inv_st ZBh
  cases n with
  | zero=>omega
  | succ n =>
  obtain ⟨_,_,b1,c1,rfl,rfl,h1,hf⟩:=hf.inv;obtain ⟨_,_,b2,c2,rfl,rfl,h2,hf⟩:=hf.inv;obtain ⟨_,_,b3,c3,rfl,rfl,h3,hf⟩:=hf.inv;obtain ⟨_,_,b4,c4,rfl,rfl,h4,hf⟩:=hf.inv;obtain ⟨rfl,rfl⟩:=hf.inv0;obtain ⟨q1,rfl,rfl⟩:=h1.inv_str ZhY;obtain ⟨rows2,d2,rfl,rfl,bi⟩:=h2.inv_sl slE;obtain ⟨q2,rfl,g2,e2,p2⟩:=UG (enc:=YE plZ) (sz:=szE) (w:=wE) (p:=JV) bi fun r c hc hd=>ZyN hd
  obtain ⟨rows3,d3,rfl,rfl,bm⟩:=h3.inv_sl slL;obtain ⟨q3,rfl,g3,e3,p3⟩:=UG (enc:=XI plZ) (sz:=szL) (w:=wL) (p:=Zh2) bm fun r c hc hd=>ZAo hd
  obtain ⟨q4,rfl,rfl,-⟩:=h4.inv_int Ztw;refine ⟨.mk q1 q2 q3 (zc q4),?_,?_,?_,?_⟩
  ·simp only [ZW,Ze,Zr,ZN,Jf];rfl
  ·simp only [ZiY,Wf,XR,Xa];omega
  ·simp only [wRu,Vk,WS,XB];omega
  simp only [Zdx,VC,UB,V7,p2,p3];rfl
theorem ZyO {b:Nat} {ds:List D} (h:PlainD Tryz.prog 84 ds b):∃x,ds=ZW plZ x/\ZiY x+1<=2 * b/\wRu x+1<=2 * b/\Zdx x=true:=ZAp b ds b (Tr _) h
theorem ZAq:∀(n:Nat) (ds:List D) (b:Nat),b<=n->PlainD Tryz.prog 100 ds b->∃x,ds=ZJ x/\sz0 x+1<=2 * b/\wFi x+1<=2 * b/\(fun _=>true) x=true
 | n,ds,b,hb,h=>by
  obtain ⟨c,rfl,hf⟩:=h.inv_st ZBi
  cases n with
  | zero=>omega
  | succ n =>
  obtain ⟨_,_,b1,c1,rfl,rfl,h1,hf⟩:=hf.inv;obtain ⟨_,_,b2,c2,rfl,rfl,h2,hf⟩:=hf.inv;obtain ⟨rfl,rfl⟩:=hf.inv0;obtain ⟨q1,rfl,rfl⟩:=h1.inv_str ZhY;obtain ⟨q2,rfl,rfl⟩:=h2.inv_str ZhY;refine ⟨.mk q1 q2,?_,?_,?_,?_⟩
  ·simp only [ZJ,Ze,Zr,ZN,Jf];rfl
  ·simp only [sz0,Wf,XR,Xa];omega
  ·simp only [wFi,Vk,WS,XB];omega
  rfl
theorem Zqe {b:Nat} {ds:List D} (h:PlainD Tryz.prog 100 ds b):∃x,ds=ZJ x/\sz0 x+1<=2 * b/\wFi x+1<=2 * b/\(fun _=>true) x=true:=ZAq b ds b (Tr _) h
theorem ZAr:∀(n:Nat) (ds:List D) (b:Nat),b<=n->PlainD Tryz.prog 70 ds b->∃x,ds=ZZ x/\Zkv x+1<=2 * b/\wCa x+1<=2 * b/\(fun _=>true) x=true
 | n,ds,b,hb,h=>by
  obtain ⟨c,rfl,hf⟩:=h.inv_st ZBj
  cases n with
  | zero=>omega
  | succ n =>
  obtain ⟨_,_,b1,c1,rfl,rfl,h1,hf⟩:=hf.inv;obtain ⟨_,_,b2,c2,rfl,rfl,h2,hf⟩:=hf.inv;obtain ⟨rfl,rfl⟩:=hf.inv0;obtain ⟨q1,rfl,rfl⟩:=h1.inv_str ZhY;obtain ⟨rows2,d2,rfl,rfl,bi⟩:=h2.inv_sl ZAn;obtain ⟨q2,rfl,g2,e2,p2⟩:=UG (enc:=ZJ) (sz:=sz0) (w:=wFi) (p:=fun _=>true) bi fun r c hc hd=>Zqe hd
  refine ⟨.mk q1 q2,?_,?_,?_,?_⟩
  ·simp only [ZZ,Ze,Zr,ZN,Jf];rfl
  ·simp only [Zkv,Wf,XR,Xa];omega
  ·simp only [wCa,Vk,WS,XB];omega
  rfl
theorem ZyP {b:Nat} {ds:List D} (h:PlainD Tryz.prog 70 ds b):∃x,ds=ZZ x/\Zkv x+1<=2 * b/\wCa x+1<=2 * b/\(fun _=>true) x=true:=ZAr b ds b (Tr _) h
theorem ZAs:∀(n:Nat) (ds:List D) (b:Nat),b<=n->PlainD Tryz.prog 67 ds b->∃x,ds=Z1 plZ x/\Zkw x+1<=2 * b/\wTy x+1<=2 * b/\(fun _=>true) x=true
 | n,ds,b,hb,h=>by
  obtain ⟨c,rfl,hf⟩:=h.inv_st ZBk
  cases n with
  | zero=>omega
  | succ n =>
  obtain ⟨_,_,b1,c1,rfl,rfl,h1,hf⟩:=hf.inv;obtain ⟨_,_,b2,c2,rfl,rfl,h2,hf⟩:=hf.inv;obtain ⟨_,_,b3,c3,rfl,rfl,h3,hf⟩:=hf.inv;obtain ⟨_,_,b4,c4,rfl,rfl,h4,hf⟩:=hf.inv;obtain ⟨_,_,b5,c5,rfl,rfl,h5,hf⟩:=hf.inv;obtain ⟨_,_,b6,c6,rfl,rfl,h6,hf⟩:=hf.inv;obtain ⟨rfl,rfl⟩:=hf.inv0;obtain ⟨q1,rfl,rfl,w1⟩:=h1.inv_int bU8;obtain ⟨q1,rfl⟩:=Zws w1;obtain ⟨q2,rfl,rfl⟩:=h2.inv_str ZhY;obtain ⟨q3,rfl,rfl⟩:=h3.inv_str ZhY;obtain ⟨rows4,d4,rfl,rfl,l4⟩:=h4.inv_sl ZAn;obtain ⟨q4,rfl,g4,e4,p4⟩:=UG (enc:=ZJ) (sz:=sz0) (w:=wFi) (p:=fun _=>true) l4 fun r c hc hd=>Zqe hd
  obtain ⟨rows5,d5,rfl,rfl,hr5⟩:=h5.inv_sl ZBq;obtain ⟨q5,rfl,g5,e5,p5⟩:=UG (enc:=ZZ) (sz:=Zkv) (w:=wCa) (p:=fun _=>true) hr5 fun r c hc hd=>ZyP hd
  obtain ⟨q6,rfl,rfl,-⟩:=h6.inv_int Ztw;refine ⟨.mk q1 q2 q3 q4 q5 (zc q6),?_,?_,?_,?_⟩
  ·simp only [Z1,Ze,Zr,ZN,Jf];rfl
  ·simp only [Zkw,Wf,XR,Xa];omega
  ·simp only [wTy,Vk,WS,XB];omega
  rfl
theorem ZyQ {b:Nat} {ds:List D} (h:PlainD Tryz.prog 67 ds b):∃x,ds=Z1 plZ x/\Zkw x+1<=2 * b/\wTy x+1<=2 * b/\(fun _=>true) x=true:=ZAs b ds b (Tr _) h
theorem ZAt:∀(n:Nat) (ds:List D) (b:Nat),b<=n->PlainD Tryz.prog 72 ds b->∃x,ds=Z3 plZ x/\Zkx x+1<=2 * b/\wRe x+1<=2 * b/\(fun _=>true) x=true
 | n,ds,b,hb,h=>by
  obtain ⟨c,rfl,hf⟩:=h.inv_st ZBl
  cases n with
  | zero=>omega
  | succ n =>
  obtain ⟨_,_,b1,c1,rfl,rfl,h1,hf⟩:=hf.inv;obtain ⟨_,_,b2,c2,rfl,rfl,h2,hf⟩:=hf.inv;obtain ⟨_,_,b3,c3,rfl,rfl,h3,hf⟩:=hf.inv;obtain ⟨_,_,b4,c4,rfl,rfl,h4,hf⟩:=hf.inv;obtain ⟨_,_,b5,c5,rfl,rfl,h5,hf⟩:=hf.inv;obtain ⟨_,_,b6,c6,rfl,rfl,h6,hf⟩:=hf.inv;obtain ⟨rfl,rfl⟩:=hf.inv0;obtain ⟨q1,rfl,rfl⟩:=h1.inv_str ZhY;obtain ⟨rows2,d2,rfl,rfl,bi⟩:=h2.inv_sl ZAn;obtain ⟨q2,rfl,g2,e2,p2⟩:=UG (enc:=ZJ) (sz:=sz0) (w:=wFi) (p:=fun _=>true) bi fun r c hc hd=>Zqe hd
  obtain ⟨q3,rfl,rfl⟩:=h3.inv_bool Zwu;obtain ⟨q4,rfl,rfl⟩:=h4.inv_bool Zwu;obtain ⟨q5,rfl,rfl⟩:=h5.inv_bool Zwu;obtain ⟨q6,rfl,rfl,-⟩:=h6.inv_int Ztw;refine ⟨.mk q1 q2 q3 q4 q5 (zc q6),?_,?_,?_,?_⟩
  ·simp only [Z3,Ze,Zr,ZN,Jf];rfl
  ·simp only [Zkx,Wf,XR,Xa];omega
  ·simp only [wRe,Vk,WS,XB];omega
  rfl
theorem ZyR {b:Nat} {ds:List D} (h:PlainD Tryz.prog 72 ds b):∃x,ds=Z3 plZ x/\Zkx x+1<=2 * b/\wRe x+1<=2 * b/\(fun _=>true) x=true:=ZAt b ds b (Tr _) h
theorem ZAu:∀(n:Nat) (ds:List D) (b:Nat),b<=n->PlainD Tryz.prog 41 ds b->∃x,ds=Yi plZ x/\Zoi x+1<=2 * b/\wIn x+1<=2 * b/\(fun _=>true) x=true
 | n,ds,b,hb,h=>by
  obtain ⟨c,rfl,hf⟩:=h.inv_st ZBm
  cases n with
  | zero=>omega
  | succ n =>
  obtain ⟨_,_,b1,c1,rfl,rfl,h1,hf⟩:=hf.inv;obtain ⟨_,_,b2,c2,rfl,rfl,h2,hf⟩:=hf.inv;obtain ⟨_,_,b3,c3,rfl,rfl,h3,hf⟩:=hf.inv;obtain ⟨_,_,b4,c4,rfl,rfl,h4,hf⟩:=hf.inv;obtain ⟨rfl,rfl⟩:=hf.inv0;obtain ⟨q1,rfl,rfl⟩:=h1.inv_str ZhY;obtain ⟨q2,rfl,rfl⟩:=h2.inv_str ZhY;obtain ⟨rows3,d3,rfl,rfl,bm⟩:=h3.inv_sl Zwt;obtain ⟨q3,rfl,g3,e3,-⟩:=UG (enc:=ZB) (sz:=sz0) (w:=wBs) (p:=fun _=>true) bm (Zjm ZhY _);obtain ⟨q4,rfl,rfl,-⟩:=h4.inv_int Ztw;refine ⟨.mk q1 q2 q3 (zc q4),?_,?_,?_,?_⟩
  ·simp only [Yi,Ze,Zr,ZN,Jf];rfl
  ·simp only [Zoi,Wf,XR,Xa];omega
  ·simp only [wIn,Vk,WS,XB];omega
  rfl
theorem ZyS {b:Nat} {ds:List D} (h:PlainD Tryz.prog 41 ds b):∃x,ds=Yi plZ x/\Zoi x+1<=2 * b/\wIn x+1<=2 * b/\(fun _=>true) x=true:=ZAu b ds b (Tr _) h
theorem ZAv:∀(n:Nat) (ds:List D) (b:Nat),b<=n->PlainD Tryz.prog 43 ds b->∃x,ds=Ye plZ x/\sz0 x+1<=2 * b/\wOv x+1<=2 * b/\(fun _=>true) x=true
 | n,ds,b,hb,h=>by
  obtain ⟨c,rfl,hf⟩:=h.inv_st ZBn
  cases n with
  | zero=>omega
  | succ n =>
  obtain ⟨_,_,b1,c1,rfl,rfl,h1,hf⟩:=hf.inv;obtain ⟨_,_,b2,c2,rfl,rfl,h2,hf⟩:=hf.inv;obtain ⟨rfl,rfl⟩:=hf.inv0;obtain ⟨q1,rfl,rfl⟩:=h1.inv_str ZhY;obtain ⟨q2,rfl,rfl,-⟩:=h2.inv_int Ztw;refine ⟨.mk q1 (zc q2),?_,?_,?_,?_⟩
  ·simp only [Ye,Ze,Zr,ZN,Jf];rfl
  ·simp only [sz0,Wf,XR,Xa];omega
  ·simp only [wOv,Vk,WS,XB];omega
  rfl
theorem ZyT {b:Nat} {ds:List D} (h:PlainD Tryz.prog 43 ds b):∃x,ds=Ye plZ x/\sz0 x+1<=2 * b/\wOv x+1<=2 * b/\(fun _=>true) x=true:=ZAv b ds b (Tr _) h
mutual
theorem ZyU:∀(n:Nat) (ds:List D) (b:Nat),b<=n->PlainD Tryz.prog 29 ds b->∃x,ds=Yg plZ x/\Zfe x+1<=2 * b/\wUn x+1<=2 * b/\ZiL x=true
 | n,ds,b,hb,h=>by
  obtain ⟨c,rfl,hf⟩:=h.inv_st ZBo
  cases n with
  | zero=>omega
  | succ n =>
  obtain ⟨_,_,b1,c1,rfl,rfl,h1,hf⟩:=hf.inv;obtain ⟨_,_,b2,c2,rfl,rfl,h2,hf⟩:=hf.inv;obtain ⟨_,_,b3,c3,rfl,rfl,h3,hf⟩:=hf.inv;obtain ⟨_,_,b4,c4,rfl,rfl,h4,hf⟩:=hf.inv;obtain ⟨_,_,b5,c5,rfl,rfl,h5,hf⟩:=hf.inv;obtain ⟨_,_,b6,c6,rfl,rfl,h6,hf⟩:=hf.inv;obtain ⟨rfl,rfl⟩:=hf.inv0;obtain ⟨rows1,d1,rfl,rfl,ae⟩:=h1.inv_sl ZBr;obtain ⟨q1,rfl,g1,e1,p1⟩:=UG (enc:=Z1 plZ) (sz:=Zkw) (w:=wTy) (p:=fun _=>true) ae fun r c hc hd=>ZyQ hd
  obtain ⟨rows2,d2,rfl,rfl,bi⟩:=h2.inv_sl ZBs;obtain ⟨q2,rfl,g2,e2,p2⟩:=UG (enc:=Z3 plZ) (sz:=Zkx) (w:=wRe) (p:=fun _=>true) bi fun r c hc hd=>ZyR hd
  obtain ⟨rows3,d3,rfl,rfl,bm⟩:=h3.inv_sl ZBt;obtain ⟨q3,rfl,g3,e3,p3⟩:=UG (enc:=ZW plZ) (sz:=ZiY) (w:=wRu) (p:=Zdx) bm fun r c hc hd=>ZyO hd
  obtain ⟨rows4,d4,rfl,rfl,l4⟩:=h4.inv_sl ZBu;obtain ⟨q4,rfl,g4,e4,p4⟩:=UG (enc:=YG plZ) (sz:=ZgC) (w:=wCo) (p:=Zdy) l4 fun r c hc hd=>ZAw n r c oM hd
  obtain ⟨rows5,d5,rfl,rfl,hr5⟩:=h5.inv_sl ZBv;obtain ⟨q5,rfl,g5,e5,p5⟩:=UG (enc:=Yi plZ) (sz:=Zoi) (w:=wIn) (p:=fun _=>true) hr5 fun r c hc hd=>ZyS hd
  obtain ⟨rows6,d6,rfl,rfl,mb⟩:=h6.inv_sl ZBw;obtain ⟨q6,rfl,g6,e6,p6⟩:=UG (enc:=Ye plZ) (sz:=sz0) (w:=wOv) (p:=fun _=>true) mb fun r c hc hd=>ZyT hd
  refine ⟨.mk q1 q2 q3 q4 q5 q6,?_,?_,?_,?_⟩
  ·simp only [Yg,Ze,Zr,ZN,Jf];rfl
  ·simp only [Zfe,Wf,XR,Xa];omega
  ·simp only [wUn,Vk,WS,XB];omega
  simp only [ZiL,VC,UB,V7,p3,p4];rfl
theorem ZAw:∀(n:Nat) (ds:List D) (b:Nat),b<=n->PlainD Tryz.prog 45 ds b->∃x,ds=YG plZ x/\ZgC x+1<=2 * b/\wCo x+1<=2 * b/\Zdy x=true
 | n,ds,b,hb,h=>by
  obtain ⟨c,rfl,hf⟩:=h.inv_st ZBp
  cases n with
  | zero=>omega
  | succ n =>
  obtain ⟨_,_,b1,c1,rfl,rfl,h1,hf⟩:=hf.inv;obtain ⟨_,_,b2,c2,rfl,rfl,h2,hf⟩:=hf.inv;obtain ⟨_,_,b3,c3,rfl,rfl,h3,hf⟩:=hf.inv;obtain ⟨_,_,b4,c4,rfl,rfl,h4,hf⟩:=hf.inv;obtain ⟨_,_,b5,c5,rfl,rfl,h5,hf⟩:=hf.inv;obtain ⟨_,_,b6,c6,rfl,rfl,h6,hf⟩:=hf.inv;obtain ⟨rfl,rfl⟩:=hf.inv0;obtain ⟨q1,rfl,rfl⟩:=h1.inv_str ZhY;obtain ⟨rows2,d2,rfl,rfl,bi⟩:=h2.inv_sl Zwt;obtain ⟨q2,rfl,g2,e2,-⟩:=UG (enc:=ZB) (sz:=sz0) (w:=wBs) (p:=fun _=>true) bi (Zjm ZhY _);obtain ⟨q3,rfl,rfl⟩:=h3.inv_str ZhY;obtain ⟨rows4,d4,rfl,rfl,l4⟩:=h4.inv_sl Zwt;obtain ⟨q4,rfl,g4,e4,-⟩:=UG (enc:=ZB) (sz:=sz0) (w:=wBs) (p:=fun _=>true) l4 (Zjm ZhY _);obtain ⟨q5,rfl,g5,e5,p5⟩:=ZyU n _ _ oM h5;obtain ⟨q6,rfl,rfl,-⟩:=h6.inv_int Ztw;refine ⟨.mk q1 q2 q3 q4 q5 (zc q6),?_,?_,?_,?_⟩
  ·simp only [YG,Ze,Zr,ZN,Jf];rfl
  ·simp only [ZgC,Wf,XR,Xa];omega
  ·simp only [wCo,Vk,WS,XB];omega
  simp only [Zdy,p5]
end
theorem ZyV {b:Nat} {ds:List D} (h:PlainD Tryz.prog 29 ds b):∃x,ds=Yg plZ x/\Zfe x+1<=2 * b/\wUn x+1<=2 * b/\ZiL x=true:=ZyU b ds b (Tr _) h
end Go.PM.Lex
end

section
namespace Go.PM.Lex
open Go.Proofs Go.Proofs.YtkoicjdlpkaopaaGreatDoor
def plainS:List TypeId:=[29,22,23,24,25,26,27,67,72,84,45,41,43,100,64,70,65,48,46,151,82,39,9,3,5,2,4]
theorem Zqf:plainS.all (Zqd Tryz.prog plainS)=true:=kR
theorem Zsx:∀b off,okc Zmo ⟨[],[],0⟩ b off:=fun b off=>⟨fun h=>h,fun i hi=>by simp at hi,fun t ht=>by cases ht⟩
section
variable {H:Type} {enc:TypeId×Value->H} {W:World} {nG:Nat}
theorem Zqg {t:TypeId} {cs:Array Value} {d:DataW H} {ps:List MemPlace} (ht:t∈plainS) (h:DataW.Trod enc Tryz.prog W 0 (fun _=>true) true t (.agg cs) d ps) :
  ∃ds b,PlainD Tryz.prog t ds b/\VRel (GG W nG) Zmo ⟨[],[],0⟩ W (.agg (ds.map .d)) (.agg cs)/\b<=Rows.uptoBulk d:=by
 obtain ⟨fuel,hf⟩:=h;obtain ⟨ds,b,h1,h2,h3⟩:=Zb5 Zqf Zsx Rows.uptoBulk Rows.uptoBulkAll (fun _ _=>Tr _) (fun _=>Tr _) (fun _=>Tr _) (fun _=>Tr _) (fun l m=>by simp only [Rows.uptoBulk];omega) (Tr _) (fun _ _=>Tr _) fuel t _ _ ht hf;have hc:(Value.agg cs).cells.toList=cs.toList:=rfl;rw [hc] at h2;refine ⟨ds,b,h1,.agg _ _ (by rw [Te,h2.len,Sp]) (fun i x u hx hu=>?_) (fun u hu=>h2.one u (by simpa using hu)),h3⟩;rw [TL] at hx;obtain ⟨y,hy,rfl⟩:=Option.map_eq_some_iff.1 hx;exact .d _ _ (h2.rel i y u hy (by simpa using hu))
theorem Zsy {cs:Array Value} {d:DataW H} {ps:List MemPlace} (h:DataW.Trod enc Tryz.prog W 0 (fun _=>true) true 29 (.agg cs) d ps) :
  ∃x,VRel (GG W nG) Zmo ⟨[],[],0⟩ W (.agg ((Yg plZ x).map .d)) (.agg cs)/\Zfe x+1<=2 * Rows.uptoBulk d/\wUn x+1<=2 * Rows.uptoBulk d/\ZiL x=true:=by
 obtain ⟨ds,b,h1,h2,h3⟩:=Zqg (nG:=nG) dM h;obtain ⟨x,rfl,g1,g2,g3⟩:=ZyV h1;exact ⟨x,h2,oM,oM,g3⟩
end
end Go.PM.Lex
end
