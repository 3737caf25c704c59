/- A part of the proof: plain logic, contracts and laws over the given program. -/
import Derived.Lib.LaidU8T
import Derived.Test.YtflgockgjnddnaaGreatDoorG09
set_option linter.unusedVariables false
set_option linter.unusedSimpArgs false
set_option linter.all false
section
set_option maxRecDepth 100000
set_option maxHeartbeats 1000000
namespace Go.PM
def stB (P:Program) (t:TypeId) (tys:List TypeId):Bool:=match P.underlying t with | some (.struct fs)=>decide (fs.toList.map (·.type)=tys) | _=>false
def slB (P:Program) (t e:TypeId):Bool:=match P.underlying t with | some (.slice u)=>decide (u=e) | _=>false
def intB (P:Program) (t:TypeId) (k:IntKind):Bool:=match P.underlying t with | some (.int u)=>decide (u=k) | _=>false
def strB (P:Program) (t:TypeId):Bool:=match P.underlying t with | some .string=>true | _=>false
def boolB (P:Program) (t:TypeId):Bool:=match P.underlying t with | some .bool=>true | _=>false
section
variable {P:Program} {t e:TypeId} {ds:List D} {b:Nat}
theorem PlainD.inv_st {tys:List TypeId} (h:PlainD P t ds b) (hu:stB P t tys=true):∃c,b=c+1∧PlainFs P tys ds c:=by
 unfold stB at hu
 cases h with
 | st h hf=>rw [h] at hu;simp only [decide_eq_true_eq] at hu;exact ⟨_,rfl,hu ▸ hf⟩
 | int h _=>rw [h] at hu;cases hu
 | str h=>rw [h] at hu;cases hu
 | bool h=>rw [h] at hu;cases hu
 | sl h _=>rw [h] at hu;cases hu
theorem PlainD.inv_sl (h:PlainD P t ds b) (hu:slB P t e=true):∃rows c,ds=[.sl rows]∧b=c+1∧PlainRs P e rows c:=by
 unfold slB at hu
 cases h with
 | sl h hr=>rw [h] at hu;simp only [decide_eq_true_eq] at hu;exact ⟨_,_,rfl,rfl,hu ▸ hr⟩
 | int h _=>rw [h] at hu;cases hu
 | str h=>rw [h] at hu;cases hu
 | bool h=>rw [h] at hu;cases hu
 | st h _=>rw [h] at hu;cases hu
theorem PlainD.inv_int {k:IntKind} (h:PlainD P t ds b) (hu:intB P t k=true):∃n,ds=[.int k n]∧b=1∧(Lit.int k n).wf=true:=by
 unfold intB at hu
 cases h with
 | int h hw=>rw [h] at hu;simp only [decide_eq_true_eq] at hu;subst hu;exact ⟨_,rfl,rfl,hw⟩
 | sl h _=>rw [h] at hu;cases hu
 | str h=>rw [h] at hu;cases hu
 | bool h=>rw [h] at hu;cases hu
 | st h _=>rw [h] at hu;cases hu
theorem PlainD.inv_str (h:PlainD P t ds b) (hu:strB P t=true):∃s,ds=[.str s]∧b=s.length+1:=by
 unfold strB at hu
 cases h with
 | str h=>exact ⟨_,rfl,rfl⟩
 | sl h _=>rw [h] at hu;cases hu
 | int h _=>rw [h] at hu;cases hu
 | bool h=>rw [h] at hu;cases hu
 | st h _=>rw [h] at hu;cases hu
theorem PlainD.inv_bool (h:PlainD P t ds b) (hu:boolB P t=true):∃q,ds=[.bool q]∧b=1:=by
 unfold boolB at hu
 cases h with
 | bool h=>exact ⟨_,rfl,rfl⟩
 | sl h _=>rw [h] at hu;cases hu
 | int h _=>rw [h] at hu;cases hu
 | str h=>rw [h] at hu;cases hu
 | st h _=>rw [h] at hu;cases hu
theorem PlainFs.inv {f:TypeId} {l:List TypeId} (h:PlainFs P (f::l) ds b):∃r ds' b1 c,ds=r++ds'∧b=b1+c∧PlainD P f r b1∧PlainFs P l ds' c:=by
 cases h with
 | cons h1 h2=>exact ⟨_,_,_,_,rfl,rfl,h1,h2⟩
theorem PlainFs.inv0 (h:PlainFs P [] ds b):ds=[]∧b=0:=by cases h;exact ⟨rfl,rfl⟩
end
end Go.PM
namespace Go.PM.Lex
open Go.Proofs
def plZ:Pl:=fun n=>if n % 2=0 then (n / 2:Nat) else -((n / 2:Nat):Int) - 1
def zc (z:Int):Nat:=if 0≤z then 2 * z.toNat else 2 * (-z - 1).toNat+1
theorem plZ_zc (z:Int):plZ (zc z)=z:=by
 unfold plZ zc
 by_cases h:0≤z
 ·rw [if_pos h,if_pos (by omega)];omega
 ·rw [if_neg h,if_neg (by omega)];omega
theorem decRs {α:Type} {P:Program} {e:TypeId} {enc:α→List D} {sz w:α→Nat} {p:α→Bool}:∀{rows:List (List D)} {b:Nat},PlainRs P e rows b→(∀r c,c≤b→PlainD P e r c→∃x,r=enc x∧sz x+1≤2 * c∧w x+1≤2 * c∧p x=true)→∃xs,rows=xs.map enc∧szS sz xs≤2 * b∧szS w xs≤2 * b∧xs.all p=true
 | [],b,h,hd=>⟨[],rfl,by simp [szS],by simp [szS],rfl⟩
 | r::rows,b,h,hd=>by
  cases h with
  | cons h1 h2 =>
   rename_i b1 c
   obtain ⟨x,rfl,g1,g2,g5⟩:=hd r b1 (by omega) h1
   obtain ⟨xs,rfl,g3,g4,g6⟩:=decRs h2 fun r c' hc=>hd r c' (by omega)
   exact ⟨x::xs,rfl,by simp only [szS];omega,by simp only [szS];omega,by rw [List.all_cons,g5,g6];rfl⟩
theorem wf_u8 {n:Int} (h:(Lit.int .u8 n).wf=true):∃k:Nat,n=k:=by
 have:0≤n∧n≤255:=by simpa [Lit.wf,IntKind.min,IntKind.max,IntKind.signed,IntKind.bits] using h
 exact ⟨n.toNat,by omega⟩
theorem wf_i64 {n:Int} (h:(Lit.int .i64 n).wf=true):rngN n=true:=by
 have:-9223372036854775808≤n∧n≤9223372036854775807:=by simpa [Lit.wf,IntKind.min,IntKind.max,IntKind.signed,IntKind.bits] using h
 simp only [rngN,Bool.and_eq_true,decide_eq_true_eq]
 omega
theorem str_dec {P:Program} {t:TypeId} (hu:strB P t=true) (b:Nat):∀r c,c≤b→PlainD P t r c→∃x,r=encBs x∧sz0 x+1≤2 * c∧wBs x+1≤2 * c∧(fun _=>true) x=true:=fun r c _ h=>by
 obtain ⟨s,rfl,rfl⟩:=h.inv_str hu
 exact ⟨s,rfl,by simp only [sz0];omega,by simp only [wBs];omega,rfl⟩
theorem stE:stB Tryz.prog 24 [5,9,2,22,3]=true:=by kernel_rfl
theorem stL:stB Tryz.prog 60 [5,9,22,48,3]=true:=by kernel_rfl
theorem stRu:stB Tryz.prog 50 [9,22,48,3]=true:=by kernel_rfl
theorem stFi:stB Tryz.prog 66 [9,9]=true:=by kernel_rfl
theorem stCa:stB Tryz.prog 148 [9,61]=true:=by kernel_rfl
theorem stTy:stB Tryz.prog 64 [5,9,9,61,62,3]=true:=by kernel_rfl
theorem stRe:stB Tryz.prog 68 [9,61,4,4,4,3]=true:=by kernel_rfl
theorem stIn:stB Tryz.prog 73 [9,9,69,3]=true:=by kernel_rfl
theorem stOv:stB Tryz.prog 75 [9,3]=true:=by kernel_rfl
theorem stUn:stB Tryz.prog 44 [37,38,39,40,41,42]=true:=by kernel_rfl
theorem stCo:stB Tryz.prog 71 [9,69,9,69,44,3]=true:=by kernel_rfl
theorem slE:slB Tryz.prog 22 24=true:=by kernel_rfl
theorem slL:slB Tryz.prog 48 60=true:=by kernel_rfl
theorem slFi:slB Tryz.prog 61 66=true:=by kernel_rfl
theorem slCa:slB Tryz.prog 62 148=true:=by kernel_rfl
theorem slTy:slB Tryz.prog 37 64=true:=by kernel_rfl
theorem slRe:slB Tryz.prog 38 68=true:=by kernel_rfl
theorem slRu:slB Tryz.prog 39 50=true:=by kernel_rfl
theorem slCo:slB Tryz.prog 40 71=true:=by kernel_rfl
theorem slIn:slB Tryz.prog 41 73=true:=by kernel_rfl
theorem slOv:slB Tryz.prog 42 75=true:=by kernel_rfl
theorem slStr:slB Tryz.prog 69 9=true:=by kernel_rfl
theorem bStr:strB Tryz.prog 9=true:=by kernel_rfl
theorem bInt:intB Tryz.prog 3 .i64=true:=by kernel_rfl
theorem bI64:intB Tryz.prog 2 .i64=true:=by kernel_rfl
theorem bU8:intB Tryz.prog 5 .u8=true:=by kernel_rfl
theorem bBool:boolB Tryz.prog 4=true:=by kernel_rfl
theorem decE:∀(n:Nat) (ds:List D) (b:Nat),b≤n→PlainD Tryz.prog 24 ds b→∃x,ds=encE plZ x∧szE x+1≤2 * b∧wE x+1≤2 * b∧rngE x=true
 | n,ds,b,hb,h=>by
  obtain ⟨c,rfl,hf⟩:=h.inv_st stE
  cases n with
  | zero=>omega
  | succ n =>
   obtain ⟨_,_,b1,c1,rfl,rfl,h1,hf⟩:=hf.inv
   obtain ⟨_,_,b2,c2,rfl,rfl,h2,hf⟩:=hf.inv
   obtain ⟨_,_,b3,c3,rfl,rfl,h3,hf⟩:=hf.inv
   obtain ⟨_,_,b4,c4,rfl,rfl,h4,hf⟩:=hf.inv
   obtain ⟨_,_,b5,c5,rfl,rfl,h5,hf⟩:=hf.inv
   obtain ⟨rfl,rfl⟩:=hf.inv0
   obtain ⟨q1,rfl,rfl,w1⟩:=h1.inv_int bU8
   obtain ⟨q1,rfl⟩:=wf_u8 w1
   obtain ⟨q2,rfl,rfl⟩:=h2.inv_str bStr
   obtain ⟨q3,rfl,rfl,w3⟩:=h3.inv_int bI64
   have p3:=wf_i64 w3
   obtain ⟨rows4,d4,rfl,rfl,hr4⟩:=h4.inv_sl slE
   obtain ⟨q4,rfl,g4,e4,p4⟩:=decRs (enc:=encE plZ) (sz:=szE) (w:=wE) (p:=rngE) hr4 fun r c hc hd=>decE n r c (by omega) hd
   obtain ⟨q5,rfl,rfl,-⟩:=h5.inv_int bInt
   refine ⟨.mk q1 q2 q3 q4 (zc q5),?_,?_,?_,?_⟩
   ·simp only [encE,encEs_eq,encLs_eq,encCos_eq,plZ_zc];rfl
   ·simp only [szE,szEs_eq,szLs_eq,szCos_eq];omega
   ·simp only [wE,wEs_eq,wLs_eq,wCos_eq];omega
   ·simp only [rngE,rngEs_eq,rngLs_eq,rngCos_eq,p3,p4];rfl
theorem decE' {b:Nat} {ds:List D} (h:PlainD Tryz.prog 24 ds b):∃x,ds=encE plZ x∧szE x+1≤2 * b∧wE x+1≤2 * b∧rngE x=true:=decE b ds b (Nat.le_refl _) h
theorem decL:∀(n:Nat) (ds:List D) (b:Nat),b≤n→PlainD Tryz.prog 60 ds b→∃x,ds=encL plZ x∧szL x+1≤2 * b∧wL x+1≤2 * b∧rngL x=true
 | n,ds,b,hb,h=>by
  obtain ⟨c,rfl,hf⟩:=h.inv_st stL
  cases n with
  | zero=>omega
  | succ n =>
   obtain ⟨_,_,b1,c1,rfl,rfl,h1,hf⟩:=hf.inv
   obtain ⟨_,_,b2,c2,rfl,rfl,h2,hf⟩:=hf.inv
   obtain ⟨_,_,b3,c3,rfl,rfl,h3,hf⟩:=hf.inv
   obtain ⟨_,_,b4,c4,rfl,rfl,h4,hf⟩:=hf.inv
   obtain ⟨_,_,b5,c5,rfl,rfl,h5,hf⟩:=hf.inv
   obtain ⟨rfl,rfl⟩:=hf.inv0
   obtain ⟨q1,rfl,rfl,w1⟩:=h1.inv_int bU8
   obtain ⟨q1,rfl⟩:=wf_u8 w1
   obtain ⟨q2,rfl,rfl⟩:=h2.inv_str bStr
   obtain ⟨rows3,d3,rfl,rfl,hr3⟩:=h3.inv_sl slE
   obtain ⟨q3,rfl,g3,e3,p3⟩:=decRs (enc:=encE plZ) (sz:=szE) (w:=wE) (p:=rngE) hr3 fun r c hc hd=>decE' hd
   obtain ⟨rows4,d4,rfl,rfl,hr4⟩:=h4.inv_sl slL
   obtain ⟨q4,rfl,g4,e4,p4⟩:=decRs (enc:=encL plZ) (sz:=szL) (w:=wL) (p:=rngL) hr4 fun r c hc hd=>decL n r c (by omega) hd
   obtain ⟨q5,rfl,rfl,-⟩:=h5.inv_int bInt
   refine ⟨.mk q1 q2 q3 q4 (zc q5),?_,?_,?_,?_⟩
   ·simp only [encL,encEs_eq,encLs_eq,encCos_eq,plZ_zc];rfl
   ·simp only [szL,szEs_eq,szLs_eq,szCos_eq];omega
   ·simp only [wL,wEs_eq,wLs_eq,wCos_eq];omega
   ·simp only [rngL,rngEs_eq,rngLs_eq,rngCos_eq,p3,p4];rfl
theorem decL' {b:Nat} {ds:List D} (h:PlainD Tryz.prog 60 ds b):∃x,ds=encL plZ x∧szL x+1≤2 * b∧wL x+1≤2 * b∧rngL x=true:=decL b ds b (Nat.le_refl _) h
theorem decRu:∀(n:Nat) (ds:List D) (b:Nat),b≤n→PlainD Tryz.prog 50 ds b→∃x,ds=encRu plZ x∧szRu x+1≤2 * b∧wRu x+1≤2 * b∧rngRu x=true
 | n,ds,b,hb,h=>by
  obtain ⟨c,rfl,hf⟩:=h.inv_st stRu
  cases n with
  | zero=>omega
  | succ n =>
   obtain ⟨_,_,b1,c1,rfl,rfl,h1,hf⟩:=hf.inv
   obtain ⟨_,_,b2,c2,rfl,rfl,h2,hf⟩:=hf.inv
   obtain ⟨_,_,b3,c3,rfl,rfl,h3,hf⟩:=hf.inv
   obtain ⟨_,_,b4,c4,rfl,rfl,h4,hf⟩:=hf.inv
   obtain ⟨rfl,rfl⟩:=hf.inv0
   obtain ⟨q1,rfl,rfl⟩:=h1.inv_str bStr
   obtain ⟨rows2,d2,rfl,rfl,hr2⟩:=h2.inv_sl slE
   obtain ⟨q2,rfl,g2,e2,p2⟩:=decRs (enc:=encE plZ) (sz:=szE) (w:=wE) (p:=rngE) hr2 fun r c hc hd=>decE' hd
   obtain ⟨rows3,d3,rfl,rfl,hr3⟩:=h3.inv_sl slL
   obtain ⟨q3,rfl,g3,e3,p3⟩:=decRs (enc:=encL plZ) (sz:=szL) (w:=wL) (p:=rngL) hr3 fun r c hc hd=>decL' hd
   obtain ⟨q4,rfl,rfl,-⟩:=h4.inv_int bInt
   refine ⟨.mk q1 q2 q3 (zc q4),?_,?_,?_,?_⟩
   ·simp only [encRu,encEs_eq,encLs_eq,encCos_eq,plZ_zc];rfl
   ·simp only [szRu,szEs_eq,szLs_eq,szCos_eq];omega
   ·simp only [wRu,wEs_eq,wLs_eq,wCos_eq];omega
   ·simp only [rngRu,rngEs_eq,rngLs_eq,rngCos_eq,p2,p3];rfl
theorem decRu' {b:Nat} {ds:List D} (h:PlainD Tryz.prog 50 ds b):∃x,ds=encRu plZ x∧szRu x+1≤2 * b∧wRu x+1≤2 * b∧rngRu x=true:=decRu b ds b (Nat.le_refl _) h
theorem decFi:∀(n:Nat) (ds:List D) (b:Nat),b≤n→PlainD Tryz.prog 66 ds b→∃x,ds=encFi x∧sz0 x+1≤2 * b∧wFi x+1≤2 * b∧(fun _=>true) x=true
 | n,ds,b,hb,h=>by
  obtain ⟨c,rfl,hf⟩:=h.inv_st stFi
  cases n with
  | zero=>omega
  | succ n =>
   obtain ⟨_,_,b1,c1,rfl,rfl,h1,hf⟩:=hf.inv
   obtain ⟨_,_,b2,c2,rfl,rfl,h2,hf⟩:=hf.inv
   obtain ⟨rfl,rfl⟩:=hf.inv0
   obtain ⟨q1,rfl,rfl⟩:=h1.inv_str bStr
   obtain ⟨q2,rfl,rfl⟩:=h2.inv_str bStr
   refine ⟨.mk q1 q2,?_,?_,?_,?_⟩
   ·simp only [encFi,encEs_eq,encLs_eq,encCos_eq,plZ_zc];rfl
   ·simp only [sz0,szEs_eq,szLs_eq,szCos_eq];omega
   ·simp only [wFi,wEs_eq,wLs_eq,wCos_eq];omega
   ·rfl
theorem decFi' {b:Nat} {ds:List D} (h:PlainD Tryz.prog 66 ds b):∃x,ds=encFi x∧sz0 x+1≤2 * b∧wFi x+1≤2 * b∧(fun _=>true) x=true:=decFi b ds b (Nat.le_refl _) h
theorem decCa:∀(n:Nat) (ds:List D) (b:Nat),b≤n→PlainD Tryz.prog 148 ds b→∃x,ds=encCa x∧szCa x+1≤2 * b∧wCa x+1≤2 * b∧(fun _=>true) x=true
 | n,ds,b,hb,h=>by
  obtain ⟨c,rfl,hf⟩:=h.inv_st stCa
  cases n with
  | zero=>omega
  | succ n =>
   obtain ⟨_,_,b1,c1,rfl,rfl,h1,hf⟩:=hf.inv
   obtain ⟨_,_,b2,c2,rfl,rfl,h2,hf⟩:=hf.inv
   obtain ⟨rfl,rfl⟩:=hf.inv0
   obtain ⟨q1,rfl,rfl⟩:=h1.inv_str bStr
   obtain ⟨rows2,d2,rfl,rfl,hr2⟩:=h2.inv_sl slFi
   obtain ⟨q2,rfl,g2,e2,p2⟩:=decRs (enc:=encFi) (sz:=sz0) (w:=wFi) (p:=fun _=>true) hr2 fun r c hc hd=>decFi' hd
   refine ⟨.mk q1 q2,?_,?_,?_,?_⟩
   ·simp only [encCa,encEs_eq,encLs_eq,encCos_eq,plZ_zc];rfl
   ·simp only [szCa,szEs_eq,szLs_eq,szCos_eq];omega
   ·simp only [wCa,wEs_eq,wLs_eq,wCos_eq];omega
   ·rfl
theorem decCa' {b:Nat} {ds:List D} (h:PlainD Tryz.prog 148 ds b):∃x,ds=encCa x∧szCa x+1≤2 * b∧wCa x+1≤2 * b∧(fun _=>true) x=true:=decCa b ds b (Nat.le_refl _) h
theorem decTy:∀(n:Nat) (ds:List D) (b:Nat),b≤n→PlainD Tryz.prog 64 ds b→∃x,ds=encTy plZ x∧szTy x+1≤2 * b∧wTy x+1≤2 * b∧(fun _=>true) x=true
 | n,ds,b,hb,h=>by
  obtain ⟨c,rfl,hf⟩:=h.inv_st stTy
  cases n with
  | zero=>omega
  | succ n =>
   obtain ⟨_,_,b1,c1,rfl,rfl,h1,hf⟩:=hf.inv
   obtain ⟨_,_,b2,c2,rfl,rfl,h2,hf⟩:=hf.inv
   obtain ⟨_,_,b3,c3,rfl,rfl,h3,hf⟩:=hf.inv
   obtain ⟨_,_,b4,c4,rfl,rfl,h4,hf⟩:=hf.inv
   obtain ⟨_,_,b5,c5,rfl,rfl,h5,hf⟩:=hf.inv
   obtain ⟨_,_,b6,c6,rfl,rfl,h6,hf⟩:=hf.inv
   obtain ⟨rfl,rfl⟩:=hf.inv0
   obtain ⟨q1,rfl,rfl,w1⟩:=h1.inv_int bU8
   obtain ⟨q1,rfl⟩:=wf_u8 w1
   obtain ⟨q2,rfl,rfl⟩:=h2.inv_str bStr
   obtain ⟨q3,rfl,rfl⟩:=h3.inv_str bStr
   obtain ⟨rows4,d4,rfl,rfl,hr4⟩:=h4.inv_sl slFi
   obtain ⟨q4,rfl,g4,e4,p4⟩:=decRs (enc:=encFi) (sz:=sz0) (w:=wFi) (p:=fun _=>true) hr4 fun r c hc hd=>decFi' hd
   obtain ⟨rows5,d5,rfl,rfl,hr5⟩:=h5.inv_sl slCa
   obtain ⟨q5,rfl,g5,e5,p5⟩:=decRs (enc:=encCa) (sz:=szCa) (w:=wCa) (p:=fun _=>true) hr5 fun r c hc hd=>decCa' hd
   obtain ⟨q6,rfl,rfl,-⟩:=h6.inv_int bInt
   refine ⟨.mk q1 q2 q3 q4 q5 (zc q6),?_,?_,?_,?_⟩
   ·simp only [encTy,encEs_eq,encLs_eq,encCos_eq,plZ_zc];rfl
   ·simp only [szTy,szEs_eq,szLs_eq,szCos_eq];omega
   ·simp only [wTy,wEs_eq,wLs_eq,wCos_eq];omega
   ·rfl
theorem decTy' {b:Nat} {ds:List D} (h:PlainD Tryz.prog 64 ds b):∃x,ds=encTy plZ x∧szTy x+1≤2 * b∧wTy x+1≤2 * b∧(fun _=>true) x=true:=decTy b ds b (Nat.le_refl _) h
theorem decRe:∀(n:Nat) (ds:List D) (b:Nat),b≤n→PlainD Tryz.prog 68 ds b→∃x,ds=encRe plZ x∧szRe x+1≤2 * b∧wRe x+1≤2 * b∧(fun _=>true) x=true
 | n,ds,b,hb,h=>by
  obtain ⟨c,rfl,hf⟩:=h.inv_st stRe
  cases n with
  | zero=>omega
  | succ n =>
   obtain ⟨_,_,b1,c1,rfl,rfl,h1,hf⟩:=hf.inv
   obtain ⟨_,_,b2,c2,rfl,rfl,h2,hf⟩:=hf.inv
   obtain ⟨_,_,b3,c3,rfl,rfl,h3,hf⟩:=hf.inv
   obtain ⟨_,_,b4,c4,rfl,rfl,h4,hf⟩:=hf.inv
   obtain ⟨_,_,b5,c5,rfl,rfl,h5,hf⟩:=hf.inv
   obtain ⟨_,_,b6,c6,rfl,rfl,h6,hf⟩:=hf.inv
   obtain ⟨rfl,rfl⟩:=hf.inv0
   obtain ⟨q1,rfl,rfl⟩:=h1.inv_str bStr
   obtain ⟨rows2,d2,rfl,rfl,hr2⟩:=h2.inv_sl slFi
   obtain ⟨q2,rfl,g2,e2,p2⟩:=decRs (enc:=encFi) (sz:=sz0) (w:=wFi) (p:=fun _=>true) hr2 fun r c hc hd=>decFi' hd
   obtain ⟨q3,rfl,rfl⟩:=h3.inv_bool bBool
   obtain ⟨q4,rfl,rfl⟩:=h4.inv_bool bBool
   obtain ⟨q5,rfl,rfl⟩:=h5.inv_bool bBool
   obtain ⟨q6,rfl,rfl,-⟩:=h6.inv_int bInt
   refine ⟨.mk q1 q2 q3 q4 q5 (zc q6),?_,?_,?_,?_⟩
   ·simp only [encRe,encEs_eq,encLs_eq,encCos_eq,plZ_zc];rfl
   ·simp only [szRe,szEs_eq,szLs_eq,szCos_eq];omega
   ·simp only [wRe,wEs_eq,wLs_eq,wCos_eq];omega
   ·rfl
theorem decRe' {b:Nat} {ds:List D} (h:PlainD Tryz.prog 68 ds b):∃x,ds=encRe plZ x∧szRe x+1≤2 * b∧wRe x+1≤2 * b∧(fun _=>true) x=true:=decRe b ds b (Nat.le_refl _) h
theorem decIn:∀(n:Nat) (ds:List D) (b:Nat),b≤n→PlainD Tryz.prog 73 ds b→∃x,ds=encIn plZ x∧szIn x+1≤2 * b∧wIn x+1≤2 * b∧(fun _=>true) x=true
 | n,ds,b,hb,h=>by
  obtain ⟨c,rfl,hf⟩:=h.inv_st stIn
  cases n with
  | zero=>omega
  | succ n =>
   obtain ⟨_,_,b1,c1,rfl,rfl,h1,hf⟩:=hf.inv
   obtain ⟨_,_,b2,c2,rfl,rfl,h2,hf⟩:=hf.inv
   obtain ⟨_,_,b3,c3,rfl,rfl,h3,hf⟩:=hf.inv
   obtain ⟨_,_,b4,c4,rfl,rfl,h4,hf⟩:=hf.inv
   obtain ⟨rfl,rfl⟩:=hf.inv0
   obtain ⟨q1,rfl,rfl⟩:=h1.inv_str bStr
   obtain ⟨q2,rfl,rfl⟩:=h2.inv_str bStr
   obtain ⟨rows3,d3,rfl,rfl,hr3⟩:=h3.inv_sl slStr
   obtain ⟨q3,rfl,g3,e3,-⟩:=decRs (enc:=encBs) (sz:=sz0) (w:=wBs) (p:=fun _=>true) hr3 (str_dec bStr _)
   obtain ⟨q4,rfl,rfl,-⟩:=h4.inv_int bInt
   refine ⟨.mk q1 q2 q3 (zc q4),?_,?_,?_,?_⟩
   ·simp only [encIn,encEs_eq,encLs_eq,encCos_eq,plZ_zc];rfl
   ·simp only [szIn,szEs_eq,szLs_eq,szCos_eq];omega
   ·simp only [wIn,wEs_eq,wLs_eq,wCos_eq];omega
   ·rfl
theorem decIn' {b:Nat} {ds:List D} (h:PlainD Tryz.prog 73 ds b):∃x,ds=encIn plZ x∧szIn x+1≤2 * b∧wIn x+1≤2 * b∧(fun _=>true) x=true:=decIn b ds b (Nat.le_refl _) h
theorem decOv:∀(n:Nat) (ds:List D) (b:Nat),b≤n→PlainD Tryz.prog 75 ds b→∃x,ds=encOv plZ x∧sz0 x+1≤2 * b∧wOv x+1≤2 * b∧(fun _=>true) x=true
 | n,ds,b,hb,h=>by
  obtain ⟨c,rfl,hf⟩:=h.inv_st stOv
  cases n with
  | zero=>omega
  | succ n =>
   obtain ⟨_,_,b1,c1,rfl,rfl,h1,hf⟩:=hf.inv
   obtain ⟨_,_,b2,c2,rfl,rfl,h2,hf⟩:=hf.inv
   obtain ⟨rfl,rfl⟩:=hf.inv0
   obtain ⟨q1,rfl,rfl⟩:=h1.inv_str bStr
   obtain ⟨q2,rfl,rfl,-⟩:=h2.inv_int bInt
   refine ⟨.mk q1 (zc q2),?_,?_,?_,?_⟩
   ·simp only [encOv,encEs_eq,encLs_eq,encCos_eq,plZ_zc];rfl
   ·simp only [sz0,szEs_eq,szLs_eq,szCos_eq];omega
   ·simp only [wOv,wEs_eq,wLs_eq,wCos_eq];omega
   ·rfl
theorem decOv' {b:Nat} {ds:List D} (h:PlainD Tryz.prog 75 ds b):∃x,ds=encOv plZ x∧sz0 x+1≤2 * b∧wOv x+1≤2 * b∧(fun _=>true) x=true:=decOv b ds b (Nat.le_refl _) h
mutual
theorem decUn:∀(n:Nat) (ds:List D) (b:Nat),b≤n→PlainD Tryz.prog 44 ds b→∃x,ds=encUn plZ x∧szUn x+1≤2 * b∧wUn x+1≤2 * b∧rngU x=true
 | n,ds,b,hb,h=>by
  obtain ⟨c,rfl,hf⟩:=h.inv_st stUn
  cases n with
  | zero=>omega
  | succ n =>
   obtain ⟨_,_,b1,c1,rfl,rfl,h1,hf⟩:=hf.inv
   obtain ⟨_,_,b2,c2,rfl,rfl,h2,hf⟩:=hf.inv
   obtain ⟨_,_,b3,c3,rfl,rfl,h3,hf⟩:=hf.inv
   obtain ⟨_,_,b4,c4,rfl,rfl,h4,hf⟩:=hf.inv
   obtain ⟨_,_,b5,c5,rfl,rfl,h5,hf⟩:=hf.inv
   obtain ⟨_,_,b6,c6,rfl,rfl,h6,hf⟩:=hf.inv
   obtain ⟨rfl,rfl⟩:=hf.inv0
   obtain ⟨rows1,d1,rfl,rfl,hr1⟩:=h1.inv_sl slTy
   obtain ⟨q1,rfl,g1,e1,p1⟩:=decRs (enc:=encTy plZ) (sz:=szTy) (w:=wTy) (p:=fun _=>true) hr1 fun r c hc hd=>decTy' hd
   obtain ⟨rows2,d2,rfl,rfl,hr2⟩:=h2.inv_sl slRe
   obtain ⟨q2,rfl,g2,e2,p2⟩:=decRs (enc:=encRe plZ) (sz:=szRe) (w:=wRe) (p:=fun _=>true) hr2 fun r c hc hd=>decRe' hd
   obtain ⟨rows3,d3,rfl,rfl,hr3⟩:=h3.inv_sl slRu
   obtain ⟨q3,rfl,g3,e3,p3⟩:=decRs (enc:=encRu plZ) (sz:=szRu) (w:=wRu) (p:=rngRu) hr3 fun r c hc hd=>decRu' hd
   obtain ⟨rows4,d4,rfl,rfl,hr4⟩:=h4.inv_sl slCo
   obtain ⟨q4,rfl,g4,e4,p4⟩:=decRs (enc:=encCo plZ) (sz:=szCo) (w:=wCo) (p:=rngCo) hr4 fun r c hc hd=>decCo n r c (by omega) hd
   obtain ⟨rows5,d5,rfl,rfl,hr5⟩:=h5.inv_sl slIn
   obtain ⟨q5,rfl,g5,e5,p5⟩:=decRs (enc:=encIn plZ) (sz:=szIn) (w:=wIn) (p:=fun _=>true) hr5 fun r c hc hd=>decIn' hd
   obtain ⟨rows6,d6,rfl,rfl,hr6⟩:=h6.inv_sl slOv
   obtain ⟨q6,rfl,g6,e6,p6⟩:=decRs (enc:=encOv plZ) (sz:=sz0) (w:=wOv) (p:=fun _=>true) hr6 fun r c hc hd=>decOv' hd
   refine ⟨.mk q1 q2 q3 q4 q5 q6,?_,?_,?_,?_⟩
   ·simp only [encUn,encEs_eq,encLs_eq,encCos_eq,plZ_zc];rfl
   ·simp only [szUn,szEs_eq,szLs_eq,szCos_eq];omega
   ·simp only [wUn,wEs_eq,wLs_eq,wCos_eq];omega
   ·simp only [rngU,rngEs_eq,rngLs_eq,rngCos_eq,p3,p4];rfl
theorem decCo:∀(n:Nat) (ds:List D) (b:Nat),b≤n→PlainD Tryz.prog 71 ds b→∃x,ds=encCo plZ x∧szCo x+1≤2 * b∧wCo x+1≤2 * b∧rngCo x=true
 | n,ds,b,hb,h=>by
  obtain ⟨c,rfl,hf⟩:=h.inv_st stCo
  cases n with
  | zero=>omega
  | succ n =>
   obtain ⟨_,_,b1,c1,rfl,rfl,h1,hf⟩:=hf.inv
   obtain ⟨_,_,b2,c2,rfl,rfl,h2,hf⟩:=hf.inv
   obtain ⟨_,_,b3,c3,rfl,rfl,h3,hf⟩:=hf.inv
   obtain ⟨_,_,b4,c4,rfl,rfl,h4,hf⟩:=hf.inv
   obtain ⟨_,_,b5,c5,rfl,rfl,h5,hf⟩:=hf.inv
   obtain ⟨_,_,b6,c6,rfl,rfl,h6,hf⟩:=hf.inv
   obtain ⟨rfl,rfl⟩:=hf.inv0
   obtain ⟨q1,rfl,rfl⟩:=h1.inv_str bStr
   obtain ⟨rows2,d2,rfl,rfl,hr2⟩:=h2.inv_sl slStr
   obtain ⟨q2,rfl,g2,e2,-⟩:=decRs (enc:=encBs) (sz:=sz0) (w:=wBs) (p:=fun _=>true) hr2 (str_dec bStr _)
   obtain ⟨q3,rfl,rfl⟩:=h3.inv_str bStr
   obtain ⟨rows4,d4,rfl,rfl,hr4⟩:=h4.inv_sl slStr
   obtain ⟨q4,rfl,g4,e4,-⟩:=decRs (enc:=encBs) (sz:=sz0) (w:=wBs) (p:=fun _=>true) hr4 (str_dec bStr _)
   obtain ⟨q5,rfl,g5,e5,p5⟩:=decUn n _ _ (by omega) h5
   obtain ⟨q6,rfl,rfl,-⟩:=h6.inv_int bInt
   refine ⟨.mk q1 q2 q3 q4 q5 (zc q6),?_,?_,?_,?_⟩
   ·simp only [encCo,encEs_eq,encLs_eq,encCos_eq,plZ_zc];rfl
   ·simp only [szCo,szEs_eq,szLs_eq,szCos_eq];omega
   ·simp only [wCo,wEs_eq,wLs_eq,wCos_eq];omega
   ·simp only [rngCo,p5]
end
theorem decUn' {b:Nat} {ds:List D} (h:PlainD Tryz.prog 44 ds b):∃x,ds=encUn plZ x∧szUn x+1≤2 * b∧wUn x+1≤2 * b∧rngU x=true:=decUn b ds b (Nat.le_refl _) h
end Go.PM.Lex
end

section
set_option maxRecDepth 100000
set_option maxHeartbeats 1000000
namespace Go.PM.Lex
open Go.Proofs Go.Proofs.YtflgockgjnddnaaGreatDoor
def plainS:List TypeId:=[44,37,38,39,40,41,42,64,68,50,71,73,75,66,61,148,62,24,22,60,48,69,9,3,5,2,4]
theorem plainS_ok:plainS.all (plainB Tryz.prog plainS)=true:=by kernel_rfl
theorem okc_pure:∀b off,okc ePure ⟨[],[],0⟩ b off:=fun b off=>⟨fun h=>h,fun i hi=>by simp at hi,fun t ht=>by cases ht⟩
section
variable {H:Type} {enc:TypeId×Value→H} {W:World} {nG:Nat}
theorem arg_plain {t:TypeId} {cs:Array Value} {d:DataW H} {ps:List MemPlace} (ht:t∈plainS) (h:DataW.Trod enc Tryz.prog W 0 (fun _=>true) true t (.agg cs) d ps) :
  ∃ds b,PlainD Tryz.prog t ds b∧VRel (GG W nG) ePure ⟨[],[],0⟩ W (.agg (ds.map .d)) (.agg cs)∧b≤Rows.uptoBulk d:=by
 obtain ⟨fuel,hf⟩:=h
 obtain ⟨ds,b,h1,h2,h3⟩:=trod_plain plainS_ok okc_pure Rows.uptoBulk Rows.uptoBulkAll (fun _ _=>Nat.le_refl _) (fun _=>Nat.le_refl _) (fun _=>Nat.le_refl _) (fun _=>Nat.le_refl _) (fun l m=>by simp only [Rows.uptoBulk];omega) (Nat.le_refl _) (fun _ _=>Nat.le_refl _) fuel t _ _ ht hf
 have hc:(Value.agg cs).cells.toList=cs.toList:=rfl
 rw [hc] at h2
 refine ⟨ds,b,h1,.agg _ _ (by rw [List.length_map,h2.len,Array.length_toList]) (fun i x u hx hu=>?_) (fun u hu=>h2.one u (by simpa using hu)),h3⟩
 rw [List.getElem?_map] at hx
 obtain ⟨y,hy,rfl⟩:=Option.map_eq_some_iff.1 hx
 exact .d _ _ (h2.rel i y u hy (by simpa using hu))
theorem arg_unit {cs:Array Value} {d:DataW H} {ps:List MemPlace} (h:DataW.Trod enc Tryz.prog W 0 (fun _=>true) true 44 (.agg cs) d ps) :
  ∃x,VRel (GG W nG) ePure ⟨[],[],0⟩ W (.agg ((encUn plZ x).map .d)) (.agg cs)∧szUn x+1≤2 * Rows.uptoBulk d∧wUn x+1≤2 * Rows.uptoBulk d∧rngU x=true:=by
 obtain ⟨ds,b,h1,h2,h3⟩:=arg_plain (nG:=nG) (by decide) h
 obtain ⟨x,rfl,g1,g2,g3⟩:=decUn' h1
 exact ⟨x,h2,by omega,by omega,g3⟩
end
end Go.PM.Lex
end

section
set_option maxRecDepth 100000
set_option maxHeartbeats 8000000
namespace Go.PM.Lex
open Go.Proofs Go.Proofs.YtflgockgjnddnaaGreatDoor
theorem r_first:Rows.laid_unicode_utf8_first=Lib.firstData:=by kernel_rfl
theorem r_accept:(Rows.laid_unicode_utf8_acceptRanges:DataW Unit)=Lib.acceptData:=by kernel_rfl
theorem r_tabs {W:World} (h:laidMetH Tryz.prog Rows.printUnlikeRow.laid W):Lib.Utf8Tabs 0 1 W:=by
 rw [MakeChecks.laidMetH_plain _ _ _ (by kernel_rfl)] at h
 have h1:=Lib.laidMet.reads (d:=Rows.laid_unicode_utf8_first) h (.tail _ (.tail _ (.tail _ (.tail _ (.tail _ (.tail _ (.head _)))))))
 have h2:=Lib.laidMet.reads (d:=Rows.laid_unicode_utf8_acceptRanges) h (.tail _ (.tail _ (.tail _ (.head _))))
 rw [r_first] at h1
 rw [r_accept] at h2
 exact utf8Tabs_of_readsT (U8Types.of196 Tryz.laysValid) ⟨by kernel_rfl,by kernel_rfl,by kernel_rfl,by kernel_rfl,by kernel_rfl,by kernel_rfl,by kernel_rfl⟩ h1 h2
variable {w0:World} {nG:Nat}
theorem cLexC (hb:1<nG) (hT:Lib.Utf8Tabs 0 1 w0):LexC w0 nG where
 name:=nm_ok ⟨⟨cPeek,spPeek_mono⟩,⟨letter_ok,spLetter_mono⟩,⟨cName,spName_mono⟩,trivial⟩
 quote:=quote_ok ⟨⟨valid_ok hb hT,spValid_mono⟩,⟨writeByte_ok,spWriteByte_mono⟩,⟨cIndexRune,spIndexRune_mono⟩,⟨writeRune_ok,spWriteRune_mono⟩,⟨string_ok,spString_mono⟩,trivial⟩
end Go.PM.Lex
end
