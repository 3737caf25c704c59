/- A part of the proof: plain logic, contracts and laws over the given program. -/
import Derived.Test.YtflgockgjnddnaaGreatDoorMore
import Derived.Lib.AppendIntMem
import Derived.WalkKit
import Derived.Test.YtflgockgjnddnaaGreatDoorE07
set_option linter.unusedVariables false
set_option linter.unusedSimpArgs false
set_option linter.all false
set_option maxRecDepth 100000
set_option maxHeartbeats 16000000
section
namespace Go.PM.Lex
open Go.Proofs
variable {w0:World} {nG:Nat}
noncomputable def Zwg:Zr:=fun args σ K=>match args,σ with
 | [.d (.int .u8 op)],⟨[],[],0⟩=>∃o:Nat,op=o∧∀l w a,(Zy o:Int)=l→Ya o=w→Yj o=a→K (.ret (.agg [.d (.int .i64 l),.d (.str w),.d (.int .i64 a)])) ⟨[],[],0⟩
 | _,_=>False
theorem Zb6:Za Zwg:=fun args σ K K' hK h=>by
 unfold Zwg at h ⊢
 split at h
 ·obtain ⟨o,h1,h2⟩:=h;exact ⟨o,h1,fun l w a e1 e2 e3=>hK _ _ (h2 l w a e1 e2 e3)⟩
 ·exact h.elim
theorem Zr1:PCalls (GG w0 nG) 71 Zwg:=by
 refine pc (tbl:=[]) trivial Tryz.func71 ?_;intro args σ K h
 unfold Zwg at h
 split at h
 ·obtain ⟨o,rfl,h⟩:=h;refine ⟨Zb [],0,false,by simp,Ta rfl,?_⟩
  repeat' ((conv=>whnf);refine ZAf (fun hc=>?_) (fun hc=>?_))
  all_goals (conv=>whnf)
  all_goals first
  | (have e : o = 16 := by omega
     subst e;exact h _ _ _ rfl rfl rfl)
  | (have e : o = 17 := by omega
     subst e;exact h _ _ _ rfl rfl rfl)
  | (have e : o = 15 := by omega
     subst e;exact h _ _ _ rfl rfl rfl)
  | (have e : o = 18 := by omega
     subst e;exact h _ _ _ rfl rfl rfl)
  | (have e : o = 19 := by omega
     subst e;exact h _ _ _ rfl rfl rfl)
  | (have e : o = 10 := by omega
     subst e;exact h _ _ _ rfl rfl rfl)
  | (have e : o = 11 := by omega
     subst e;exact h _ _ _ rfl rfl rfl)
  | (have e : o = 12 := by omega
     subst e;exact h _ _ _ rfl rfl rfl)
  | (have e : o = 13 := by omega
     subst e;exact h _ _ _ rfl rfl rfl)
  | (have e : o = 14 := by omega
     subst e;exact h _ _ _ rfl rfl rfl)
  | (have e : o = 8 := by omega
     subst e;exact h _ _ _ rfl rfl rfl)
  | (have e : o = 9 := by omega
     subst e;exact h _ _ _ rfl rfl rfl)
  | (have e : o = 20 := by omega
     subst e;exact h _ _ _ rfl rfl rfl)
  | (have e : o = 21 := by omega
     subst e;exact h _ _ _ rfl rfl rfl)
  | (have e : o = 22 := by omega
     subst e;exact h _ _ _ rfl rfl rfl)
  | (have e : o = 23 := by omega
     subst e;exact h _ _ _ rfl rfl rfl)
  | (have e : o = 24 := by omega
     subst e;exact h _ _ _ rfl rfl rfl)
  | (have e : o = 25 := by omega
     subst e;exact h _ _ _ rfl rfl rfl)
  | (have e : o = 6 := by omega
     subst e;exact h _ _ _ rfl rfl rfl)
  | (have e : o = 7 := by omega
     subst e;exact h _ _ _ rfl rfl rfl)
  | (have e : o = 1 := by omega
     subst e;exact h _ _ _ rfl rfl rfl)
  | (have e : o = 2 := by omega
     subst e;exact h _ _ _ rfl rfl rfl)
  | (have e : o = 3 := by omega
     subst e;exact h _ _ _ rfl rfl rfl)
  | (have e : o = 4 := by omega
     subst e;exact h _ _ _ rfl rfl rfl)
  | (have e : o = 5 := by omega
     subst e;exact h _ _ _ rfl rfl rfl)
  | (refine h _ _ _ ?_ ?_ ?_
     ·unfold Zy;(repeat rw [Tc (by omega)]);rfl
     ·unfold Ya;(repeat rw [Tc (by omega)])
     ·unfold Yj;(repeat rw [Tc (by omega)]))
 ·exact h.elim
noncomputable def Zxe:Tbl:=[(147,U4),(148,ZeT)]
theorem Zxf {n:Nat} (ht:TblOK (GG w0 nG) Zxe):PCalls (GG w0 nG) 72 (Zfd ZwX Zj0 wBs n):=by
 refine pc ht Tryz.func72 ?_;intro args σ K h
 unfold Zfd at h
 split at h
 ·obtain ⟨pl,s,rfl,⟨hz,hn⟩,h⟩:=h;unfold wBs at hz
  refine ⟨Zb [],0,false,by simp,Ta rfl,?_⟩;(conv=>whnf);refine ⟨by omega,?_⟩;(conv=>whnf);refine ZAi (fun hc0=>?_) (fun hc0=>?_);rotate_left
  ·(conv=>whnf);exact h _ (by simp [Zj0,hc0])
  conv=>whnf
  refine ZAh (fun hc1=>?_) (fun hc1=>?_);rotate_left
  ·(conv=>whnf);exact h _ (by simp only [Zj0,hc0,hc1];decide)
  conv=>whnf
  refine fun b hb=>?_
  conv=>whnf
  exact h _ (by rw [Zj0,hc0,hb,decide_eq_false hc1];simp)
 ·exact h.elim
noncomputable def Zxg (n:Nat):Tbl:=[(72,Zfd ZwX Zj0 wBs n),(74,ZkW 29 Yc ZQ wE n),(108,ZkW 109 Xi ZZ wL n)]
theorem Zxh {n:Nat} (ht:TblOK (GG w0 nG) (Zxg n)):PCalls (GG w0 nG) 63 (Zfd (ZfT Xj) JP wRu n):=by
 refine pc ht Tryz.func63 ?_;intro args σ K h
 unfold Zfd at h
 split at h
 ·obtain ⟨pl,⟨a1,a2,a3,a4⟩,rfl,⟨hz,hn⟩,h⟩:=h;simp only [wRu] at hz;refine ⟨Zb [],0,false,by simp,Ta rfl,?_⟩;(conv=>whnf);refine ⟨fun _=>0,a1,rfl,⟨by simp only [wBs];omega,by omega⟩,fun b hn0=>?_⟩
  cases b with
  | false =>
   conv=>whnf
   exact h _ (by simp [JP,hn0])
  | true =>
   conv=>whnf
   refine ⟨pl,a2,Zg _ _,⟨rfl,by omega,by omega⟩,fun b ha1=>?_⟩
   cases b with
   | false =>
    conv=>whnf
    exact h _ (by simp [JP,hn0,ha1])
   | true =>
    conv=>whnf
    refine ⟨pl,a3,Zs _ _,⟨rfl,by omega,by omega⟩,fun b ha2=>?_⟩;(conv=>whnf);exact h _ (by simp [JP,hn0,ha1,ha2])
 ·exact h.elim
noncomputable def ZyK (n:Nat):Tbl:=[(71,Zwg),(72,Zfd ZwX Zj0 wBs n),(73,Vw),(74,spB (ZkW 29 Yc ZQ wE) n)]
theorem Zxi {n:Nat} (ht:TblOK (GG w0 nG) (ZyK n)):PCalls (GG w0 nG) 29 (Zfd (ZfT Yc) ZQ wE n):=by
 refine pc ht Tryz.func29 ?_;intro args σ K h
 unfold Zfd at h
 split at h
 ·obtain ⟨pl,⟨a1,a2,a3,a4,a5⟩,rfl,⟨hz,hn⟩,h⟩:=h;simp only [wE,Zfc] at hz;refine ⟨Zb [],0,false,by simp,Ta rfl,?_⟩;have hl4:(ZM pl a4).length=a4.length:=by rw [Zg,Ti]
  conv=>whnf
  refine ⟨a1,rfl,fun l w a hl hw ha=>?_⟩;(conv=>whnf);refine ZAf (fun hop=>?_) (fun hop=>?_)
  ·have hopI:=hop;have hop:a1=1:=by omega
   conv=>whnf
   refine ZAf (fun _=>?_) (fun hx=>absurd hopI hx);exact m208
  conv=>whnf
  refine ZAf (fun hop7=>?_) (fun hop7=>?_)
  ·have hop:a1=7:=by omega
   exact m208
  have hop:¬a1=1:=by omega
  have hop7:¬a1=7:=by omega
  conv=>whnf
  refine ZAf (fun hop4=>?_) (fun hop4=>?_)
  ·have hop4:a1=4:=by omega
   conv=>whnf
   refine ⟨by omega,fun hq=>?_,fun q hq=>?_⟩
   ·have htx:Z3 a1 a2=false:=by simp [Z3,hop4,hq]
    exact m13
   ·have htx:Z3 a1 a2=true:=by simp [Z3,hop4,hq]
    exact m8
  have hop4:¬a1=4:=by omega
  have htx:Z3 a1 a2=decide (a2=[]):=by simp [Z3,hop,hop7,hop4]
  conv=>whnf
  refine ZAf (fun h1=>?_) (fun h1=>?_);rotate_left
  ·exact m242
  conv=>whnf
  refine ZAf (fun h2=>?_) (fun h2=>?_)
  ·conv=>whnf
   refine ZAf (fun h3=>?_) (fun h3=>?_)
   ·conv=>whnf
    refine ZAf (fun h4=>?_) (fun h4=>?_);rotate_left
    ·exact m180
    rw [TC h4] at htx;exact m229
   conv=>whnf
   refine ZAf (fun h5=>?_) (fun h5=>?_);rotate_left
   ·exact m201
   have h5:a1=3:=by omega
   have hor:(decide (a3=0) || decide (a1=3))=true:=by simp [h5]
   conv=>whnf
   refine ZAf (fun h4=>?_) (fun h4=>?_);rotate_left
   ·exact m180
   rw [TC h4] at htx;exact m227
  conv=>whnf
  refine ZAf (fun h6=>?_) (fun h6=>?_);rotate_left
  ·exact m207
  have h6:(a4.length:Int)=a:=by rw [← hl4];exact h6
  conv=>whnf
  refine ZAf (fun h3=>?_) (fun h3=>?_)
  ·conv=>whnf
   refine ZAf (fun h4=>?_) (fun h4=>?_);rotate_left
   ·exact m180
   rw [TC h4] at htx;exact m228
  conv=>whnf
  refine ZAf (fun h5=>?_) (fun h5=>?_);rotate_left
  ·exact m201
  have h5:a1=3:=by omega
  have hor:(decide (a3=0) || decide (a1=3))=true:=by simp [h5]
  conv=>whnf
  refine ZAf (fun h4=>?_) (fun h4=>?_);rotate_left
  ·exact m180
  rw [TC h4] at htx;exact m226
 ·exact h.elim
noncomputable def ZyL (n:Nat):Tbl:=[(72,Zfd ZwX Zj0 wBs n),(74,ZkW 29 Yc ZQ wE n),(108,spB (ZkW 109 Xi ZZ wL) n)]
theorem Zxj {n:Nat} (ht:TblOK (GG w0 nG) (ZyL n)):PCalls (GG w0 nG) 109 (Zfd (ZfT Xi) ZZ wL n):=by
 refine pc ht Tryz.func109 ?_;intro args σ K h
 unfold Zfd at h
 split at h
 ·obtain ⟨pl,⟨a1,a2,a3,a4,a5⟩,rfl,⟨hz,hn⟩,h⟩:=h;simp only [wL,Zdx] at hz;refine ⟨Zb [],0,false,by simp,Ta rfl,?_⟩;have hl3:(ZM pl a3).length=a3.length:=by rw [Zg,Ti]
  have hl4:(Xy pl a4).length=a4.length:=by rw [Zs,Ti]
  have hbd:((0:Int)<((Xy pl a4).length:Int))↔0<a4.length:=by rw [hl4];omega
  conv=>whnf
  refine ZAf (fun hop=>?_) (fun hop=>?_)
  ·have hopI:=hop;have hop:a1=1:=by omega
   conv=>whnf
   refine ZAf (fun _=>?_) (fun hx=>absurd hopI hx);exact m190
  conv=>whnf
  refine ZAf (fun hop2=>?_) (fun hop2=>?_)
  ·have hop:a1=2:=by omega
   exact m190
  have hn12:¬(a1=1∨a1=2):=by omega
  conv=>whnf
  refine ZAf (fun hop3=>?_) (fun hop3=>?_)
  ·conv=>whnf
   refine ZAf (fun hop8=>?_) (fun hop8=>?_)
   ·have h38:3≤a1∧a1≤8:=by omega
    conv=>whnf
    refine ZAf (fun hr=>?_) (fun hr=>?_);rotate_left
    ·have hlb:ZY a1 a2 a3.length a4.length=false:=by simp [ZY,hn12,h38,hr]
     exact m39
    conv=>whnf
    refine ZAf (fun hA=>?_) (fun hA=>?_);rotate_left
    ·have hA:¬a3.length=2:=fun g=>hA (by show ((ZM pl a3).length:Int)=2;rw [hl3,g];rfl)
     have hlb:ZY a1 a2 a3.length a4.length=false:=by simp [ZY,hn12,h38,hA]
     exact m39
    have hA:a3.length=2:=by have hA:((ZM pl a3).length:Int)=2:=hA;rw [hl3] at hA;omega
    conv=>whnf
    refine ZAh (fun hB=>?_) (fun hB=>?_)
    ·have hB:¬0<a4.length:=fun g=>hB (hbd.2 g)
     have hlb:ZY a1 a2 a3.length a4.length=true:=by simp only [ZY,hn12,h38,hr,hA,decide_eq_false hB];simp
     exact m15
    ·have hB:=hbd.1 hB;have hlb:ZY a1 a2 a3.length a4.length=false:=by simp [ZY,hn12,h38,hr,hA,hB]
     exact m39
   exact m9
  exact m9
 ·exact h.elim
end Go.PM.Lex
end

section
namespace Go.PM.Lex
open Go.Proofs
variable {w0:World} {nG:Nat}
structure LexC (w0:World) (nG:Nat):Prop where
 name:PCalls (GG w0 nG) 147 U4
 quote:PCalls (GG w0 nG) 73 Vw
variable (hL:LexC w0 nG)
include hL
theorem Zxk (n:Nat):PCalls (GG w0 nG) 72 (Zfd ZwX Zj0 wBs n):=Zxf ⟨⟨hL.name,Zdo⟩,⟨ZkD,Za9⟩,trivial⟩
theorem cHE:∀n,PCalls (GG w0 nG) 29 (Zfd (ZfT Yc) ZQ wE n)
 | 0=>Zxi ⟨⟨Zr1,Zb6⟩,⟨Zxk hL _,Wc _ _ _ _⟩,⟨hL.quote,YI⟩,⟨Z5 (Zo Tryz.func74 (by kernel_rfl) rfl),ZK (WX _ _ _ _) _⟩,trivial⟩
 | n+1=>Zxi ⟨⟨Zr1,Zb6⟩,⟨Zxk hL _,Wc _ _ _ _⟩,⟨hL.quote,YI⟩,⟨Z6 (sp:=ZkW 29 Yc ZQ wE) (Zx8 (cHE n)),ZK (WX _ _ _ _) _⟩,trivial⟩
theorem cHL:∀n,PCalls (GG w0 nG) 109 (Zfd (ZfT Xi) ZZ wL n)
 | 0=>Zxj ⟨⟨Zxk hL _,Wc _ _ _ _⟩,⟨Zx8 (cHE hL 0),WX _ _ _ _ _⟩,⟨Z5 (Zo Tryz.func108 (by kernel_rfl) rfl),ZK (WX _ _ _ _) _⟩,trivial⟩
 | n+1=>Zxj ⟨⟨Zxk hL _,Wc _ _ _ _⟩,⟨Zx8 (cHE hL _),WX _ _ _ _ _⟩,⟨Z6 (sp:=ZkW 109 Xi ZZ wL) (ZzH (cHL n)),ZK (WX _ _ _ _) _⟩,trivial⟩
theorem Zz5 (n:Nat):PCalls (GG w0 nG) 63 (Zfd (ZfT Xj) JP wRu n):=Zxh ⟨⟨Zxk hL _,Wc _ _ _ _⟩,⟨Zx8 (cHE hL _),WX _ _ _ _ _⟩,⟨ZzH (cHL hL _),WX _ _ _ _ _⟩,trivial⟩
end Go.PM.Lex
end

section
namespace Go.PM.Lex
open Go.Proofs Go.Shelf Go.RowKit
variable {w0:World} {nG:Nat}
theorem ZyM:liesAt Tryz.prog Tryz.prog.depth 84 (2 / Tryz.prog.cellsOf 84) 0 82 1=true:=by kernel_rfl
theorem ZkY (b:Nat) (w:World) (h0:w.cell? ⟨b,0,none⟩=some (.pointer none)) (hsh:w.shape? b=some (84,2)) (hfz:w.frozen? ⟨b,0,none⟩=false) :
  Calls Tryz.prog 214 #[.pointer (some ⟨b,0,none⟩)] w fun e w'=>e=.returned (.tuple #[])∧w'=w.setCell ⟨b,0,none⟩ (.pointer (some ⟨b,0,none⟩)):=by
 obtain ⟨j,hj,hjs⟩:=i53
 go_enter Tryz.func214,Tryz.ntmps214
 go_wp2
 rw [Go.Lib.run_to_unsafe w ⟨b,0,none⟩ u50 u95 hj (by rw [hjs];decide) hsh (Nat.zero_lt_succ 1)];simp only [Result.andThen];rw [Oper.upon_value]
 go_wp2
 rw [run_callFunc_extern Tryz.func269 (by kernel_rfl) (by kernel_rfl) (by kernel_rfl) (e:=Extern.AbiNoEscape.same) (by kernel_rfl)];rw [Go.Lib.run_noEscape];simp only [Result.andThen];rw [Oper.upon_value]
 go_wp2
 rw [Go.Lib.run_from_unsafe w ⟨b,0,none⟩ u95 u50 hj hsh ZyM];simp only [Result.andThen];rw [Oper.upon_value]
 go_wp2
 go_end0
 exact ⟨rfl,rfl⟩
noncomputable def WY:Zr:=fun args σ K=>match args,σ with
 | [.ptr 0 0],⟨[.cells t [p,q]],tk,nx⟩=>((p=.d .nilp∨p=.ptr 0 0)∧t=84)∧K (.ret (.tuple [])) ⟨[.cells t [.ptr 0 0,q]],tk,nx⟩
 | _,_=>False
theorem ZcU:Za WY:=fun args σ K K' hK h=>by
 unfold WY at h ⊢;split at h <;> first | exact ⟨h.1,hK _ _ h.2⟩ | exact h.elim
theorem Zhz:PCalls (GG w0 nG) 214 WY:=U2 (Zo Tryz.func214 (by kernel_rfl) rfl) fun args σ K h e w vs hS ha=>by
 unfold WY at h
 split at h
 ·rename_i t p q tk nx
  obtain ⟨⟨hp,rfl⟩,hK⟩:=h;obtain ⟨u,rfl,hu⟩:=Ziz ha;obtain ⟨cv,hc1,hc2,hc3⟩:=hS.box 0 _ rfl;have hcs:cv.size=2:=hc2;obtain ⟨x0,hx0⟩:∃x,cv[0]?=some x:=⟨cv[0]'(by omega),by simp [hcs]⟩
  have hr0:=(hc3 0 p x0 rfl hx0).1
  cases hu with
  | ptr b off hb =>
  refine ⟨_,_,.tuple #[],hK,?_⟩;rcases hp with rfl | rfl
  ·cases hr0 with
   | d _ _ hd =>
   cases hd
   refine Calls.mono (ZkY (e.β 0) w ?_ ?_ ?_) fun en w' ⟨h1,h2⟩=>?_
   ·simp [World.cell?,hc1,hx0]
   ·simp only [World.shape?,hc1,hcs]
   ·simp [World.frozen?,hc1]
   ·have hst:=ZeL (G:=GG w0 nG) (T:=Zko) Z8 hS (t:=79) (b:=0) (off:=0) (x:=.ptr 0 0) (v:=.pointer (some ⟨e.β 0,0,none⟩)) (l:=[.ptr 0 0]) (cs:=[.d .nilp,q]) (ty:=84) rfl (.ptr 0 0 hb) rfl rfl (by simp) (by intro h;cases h);rw [h2];exact ⟨h1,.tuple [] #[] rfl (fun i x u hx=>by simp at hx),hst.2,hst.1.toLater⟩
  ·exact m96
 ·exact h.elim
theorem ZnF {ty:TypeId} {P:Program} {ρ:Ren} (L:Lays.n169 P ρ) (X:Builder.Extra P ρ) (b g cap:Nat) (p:Value) (cur:Array Value) (fz:Nat×Nat) (l:Bs) (w:World) (h0:l≠[])
  (hbk:w.heap[b]?=some (.cells #[p,.slice (some ⟨g,0,none⟩) l.length cap] ty (0,0))) (hg:w.heap[g]?=some (.cells cur (ρ.t 5) fz)) (hn:l.length≤cur.size) (hcap:cap≠0) (hbig:l.length≤9223372036854775807)
  (hcell:∀j x,l[j]?=some x→w.cell? ⟨g,j,none⟩=some (.int .u8 x.toNat)) :
  Calls P (ρ.f 169) #[.pointer (some ⟨b,0,none⟩)] w fun e w'=>e=.returned (.string ⟨l.toArray⟩)∧w'=w.drew.freeze ⟨g,0,none⟩ l.length:=by
 have c1:w.drew.cell? ⟨b,1,none⟩=some (.slice (some ⟨g,0,none⟩) l.length cap):=by
  have:w.drew.heap[b]?=some (.cells #[p,.slice (some ⟨g,0,none⟩) l.length cap] ty (0,0)):=hbk;rw [Go.Lib.cell_of_heap this];rfl
 have hSD:(Builtin.unsafeSliceData_ #[(ρ.t 37)] (ρ.t 127) #[.slice (some ⟨g,0,none⟩) l.length cap]).run P w.drew=.ok (.pointer (some ⟨g,0,none⟩)) w.drew :=
  Go.Lib.run_unsafeSliceData_row _ _ _ _ _ _ hcap
 have hUS:(Builtin.unsafeString_ #[(ρ.t 127),(ρ.t 3)] (ρ.t 9) #[.pointer (some ⟨g,0,none⟩),.int .i64 l.length]).run P w.drew=.ok (.string ⟨l.toArray⟩) (w.drew.freeze ⟨g,0,none⟩ l.length):=by
  exact m86
 have mixed:=L.mixed;have t72:=L.t72;have a72:=L.a72;have z72:=L.z72;have v72:=L.v72;have u72:=run_underlying L.t72;have t70:=L.t70;have a70:=L.a70;have z70:=L.z70;have v70:=L.v70;have u70:=run_underlying L.t70;have t37:=L.t37;have a37:=L.a37;have z37:=L.z37;have v37:=L.v37;have u37:=run_underlying L.t37;have t127:=L.t127;have a127:=L.a127;have z127:=L.z127;have v127:=L.v127;have u127:=run_underlying L.t127;have t3:=L.t3;have a3:=L.a3;have z3:=L.z3;have v3:=L.v3;have u3:=run_underlying L.t3;have t9:=L.t9;have a9:=L.a9;have z9:=L.z9;have v9:=L.v9;have u9:=run_underlying L.t9;have t5:=X.t5;have a5:=X.a5;have z5:=X.z5;have v5:=X.v5;have u5:=run_underlying X.t5
 go_enter L.f169,Body.n169_ntmps ρ
 go_wp2
 go_region_o
 all_goals (go_wp2;go_ret;exact ⟨rfl,rfl⟩)
theorem Zr3 {ty:TypeId} {P:Program} {ρ:Ren} (L:Lays.n169 P ρ) (X:Builder.Extra P ρ) (B b:Nat) (p:Value) (w:World) (hbk:w.heap[b]?=some (.cells #[p,.slice none 0 0] ty (0,0))) :
  Calls P (ρ.f 169) #[.pointer (some ⟨b,0,none⟩)] w fun e w'=>e=.returned (.string ⟨#[]⟩)∧Below B w w':=by
 have hUS:=Any.unsafeString_none L X;have c1:w.drew.cell? ⟨b,1,none⟩=some (.slice none 0 0):=by
  have:w.drew.heap[b]?=some (.cells #[p,.slice none 0 0] ty (0,0)):=hbk;rw [Lib.cell_of_heap this];rfl
 have hSD:(Builtin.unsafeSliceData_ #[(ρ.t 37)] (ρ.t 127) #[.slice none 0 0]).run P w.drew=.ok (.pointer none) w.drew:=rfl;have mixed:=L.mixed;have t72:=L.t72;have a72:=L.a72;have z72:=L.z72;have v72:=L.v72;have u72:=run_underlying L.t72;have t70:=L.t70;have a70:=L.a70;have z70:=L.z70;have v70:=L.v70;have u70:=run_underlying L.t70;have t37:=L.t37;have a37:=L.a37;have z37:=L.z37;have v37:=L.v37;have u37:=run_underlying L.t37;have t127:=L.t127;have a127:=L.a127;have z127:=L.z127;have v127:=L.v127;have u127:=run_underlying L.t127;have t3:=L.t3;have a3:=L.a3;have z3:=L.z3;have v3:=L.v3;have u3:=run_underlying L.t3;have t9:=L.t9;have a9:=L.a9;have z9:=L.z9;have v9:=L.v9;have u9:=run_underlying L.t9;have t5:=X.t5;have a5:=X.a5;have z5:=X.z5;have v5:=X.v5;have u5:=run_underlying X.t5
 go_enter L.f169,Body.n169_ntmps ρ
 go_wp2
 go_region_o
 all_goals (go_wp2;go_ret;exact ⟨rfl,Below.drew (Below.refl B w)⟩)
theorem ZpX {ty:TypeId} {P:Program} {ρ:Ren} (L:Lays.n169 P ρ) (X:Builder.Extra P ρ) (B b g cap:Nat) (p:Value) (w:World) (hc0:cap≠0) (hbk:w.heap[b]?=some (.cells #[p,.slice (some ⟨g,0,none⟩) 0 cap] ty (0,0))) :
  Calls P (ρ.f 169) #[.pointer (some ⟨b,0,none⟩)] w fun e w'=>e=.returned (.string ⟨#[]⟩)∧Below B w w':=by
 have hUS:=Any.unsafeString_none L X;have c1:w.drew.cell? ⟨b,1,none⟩=some (.slice (some ⟨g,0,none⟩) 0 cap):=by
  have:w.drew.heap[b]?=some (.cells #[p,.slice (some ⟨g,0,none⟩) 0 cap] ty (0,0)):=hbk;rw [Lib.cell_of_heap this];rfl
 have hSD:(Builtin.unsafeSliceData_ #[(ρ.t 37)] (ρ.t 127) #[.slice (some ⟨g,0,none⟩) 0 cap]).run P w.drew=.ok (.pointer (some ⟨g,0,none⟩)) w.drew:=Go.Lib.run_unsafeSliceData_row _ _ _ _ _ _ hc0
 clear hc0
 have mixed:=L.mixed;have t72:=L.t72;have a72:=L.a72;have z72:=L.z72;have v72:=L.v72;have u72:=run_underlying L.t72;have t70:=L.t70;have a70:=L.a70;have z70:=L.z70;have v70:=L.v70;have u70:=run_underlying L.t70;have t37:=L.t37;have a37:=L.a37;have z37:=L.z37;have v37:=L.v37;have u37:=run_underlying L.t37;have t127:=L.t127;have a127:=L.a127;have z127:=L.z127;have v127:=L.v127;have u127:=run_underlying L.t127;have t3:=L.t3;have a3:=L.a3;have z3:=L.z3;have v3:=L.v3;have u3:=run_underlying L.t3;have t9:=L.t9;have a9:=L.a9;have z9:=L.z9;have v9:=L.v9;have u9:=run_underlying L.t9;have t5:=X.t5;have a5:=X.a5;have z5:=X.z5;have v5:=X.v5;have u5:=run_underlying X.t5
 go_enter L.f169,Body.n169_ntmps ρ
 go_wp2
 go_region_o
 all_goals (go_wp2;go_ret;exact ⟨rfl,Below.drew (Below.refl B w)⟩)
end Go.PM.Lex
end

section
namespace Go.PM.Lex
open Go.Proofs
variable {w0:World} {nG:Nat}
noncomputable def Zmj (r:PV) (body:List PV→Bs→Prop):Zr:=fun args σ K=>match args,σ with
 | .ptr 0 0::rest,⟨[.cells t [p,.sl 0 e rows]],[0],1⟩=>∃l txt,rows=Zi l∧((p=.d .nilp∨p=.ptr 0 0)∧t=84∧e=5)∧body rest txt∧l.length+txt.length<70368744177664 ∧
   K (.ret r) ⟨[.cells t [.ptr 0 0,.sl 0 e (Zi (l++txt))]],[0],1⟩
 | _,_=>False
theorem UC (r:PV) (body:List PV→Bs→Prop):Za (Zmj r body):=fun args σ K K' hK h=>by
 unfold Zmj at h ⊢
 split at h
 ·obtain ⟨l,txt,h1,h2,h3,h4,h5⟩:=h;exact ⟨l,txt,h1,h2,h3,h4,hK _ _ h5⟩
 ·exact h.elim
noncomputable def ZpY {α:Type} (val:Pl→α→PV) (may:α→Bool) (txt:α→Bs) (w:α→Nat) (n:Nat):Zr:=fun args σ K=>match args,σ with
 | [v,.ptr 0 0],⟨[.cells tp [.ptr 1 0],.cells t [.ptr 1 0,.sl 0 e rows]],[0],1⟩=>∃l pl x,rows=Zi l∧v=val pl x∧(t=84∧e=5)∧(may x=true∧w x≤n∧n≤1073741824)∧l.length+(txt x).length<70368744177664 ∧
   K (.ret (.tuple [])) ⟨[.cells tp [.ptr 1 0],.cells t [.ptr 1 0,.sl 0 e (Zi (l++txt x))]],[0],1⟩
 | _,_=>False
theorem ZnG {α:Type} (val:Pl→α→PV) (may:α→Bool) (txt:α→Bs) (w:α→Nat) (n:Nat):Za (ZpY val may txt w n):=fun args σ K K' hK h=>by
 unfold ZpY at h ⊢
 exact m99
noncomputable def Zxn {α:Type} (g0:FuncId) (enc:Pl→α→List D) (may:α→Bool) (txt:α→Bs) (w:α→Nat) (n:Nat):Zr:=fun args σ K=>match args,σ with
 | [.ptr 0 0,.d (.sl r),.d (.str bt),.func g [] [.ptr 1 0]],⟨[.cells t [.ptr 0 0,.sl 0 e rows],.cells tp [.ptr 0 0]],[0],1⟩=>∃l pl xs,rows=Zi l∧r=xs.map (enc pl)∧(t=84∧e=5∧g=g0)∧(xs.all may=true∧szS w xs≤n∧n≤1073741824)∧l.length+(Zl bt (xs.map txt)).length<70368744177664 ∧
   K (.ret (.tuple [])) ⟨[.cells t [.ptr 0 0,.sl 0 e (Zi (l++Zl bt (xs.map txt)))],.cells tp [.ptr 0 0]],[0],1⟩
 | _,_=>False
theorem ZpZ {α:Type} (g0:FuncId) (enc:Pl→α→List D) (may:α→Bool) (txt:α→Bs) (w:α→Nat) (n:Nat):Za (Zxn g0 enc may txt w n):=fun args σ K K' hK h=>by
 unfold Zxn at h ⊢
 exact m99
noncomputable def ZzI (s:Bs):Zr:=Zmj (.tuple [.d (.int .i64 s.length),.d .nili]) fun rest txt=>rest=[.d (.str s)]∧txt=s
noncomputable def ZkZ:Zr:=fun args σ K=>match args with
 | [.ptr 0 0,.d (.str s)]=>ZzI s args σ K
 | _=>False
theorem ZcV:Za ZkZ:=fun args σ K K' hK h=>by
 unfold ZkZ at h ⊢
 split at h
 ·exact UC _ _ _ _ _ _ hK h
 ·exact h.elim
noncomputable def Zxo:Tbl:=[(214,WY)]
theorem Zvc:PCalls (GG w0 nG) 155 ZkZ:=by
 refine pc (tbl:=Zxo) ⟨⟨Zhz,ZcU⟩,trivial⟩ Tryz.func155 ?_;intro args σ K h
 unfold ZkZ at h
 split at h
 ·rename_i s
  unfold ZzI Zmj at h
  split at h
  ·rename_i rest t p e rows hargs
   obtain ⟨l,txt,rfl,⟨hp,rfl,rfl⟩,⟨hrest,rfl⟩,hlen,h⟩:=h;simp only [List.cons.injEq,true_and] at hargs;have hb:∀x:Bs,(Zi x).length=x.length:=fun x=>by simp [Zi]
   rw [Yp] at h;refine ⟨Zb [],1,true,by simp,Ta rfl,?_⟩;rcases hp with rfl | rfl
   all_goals
    conv=>whnf
    first | refine ⟨⟨.inl rfl,rfl⟩,?_⟩ | refine ⟨⟨.inr rfl,rfl⟩,?_⟩
    conv=>whnf
    refine ⟨fun r hr=>?_,?_,?_,?_⟩
    ·obtain ⟨b,_,rfl⟩:=Sy.1 hr;rfl
    ·show ((Zi l).length+(Zi txt).length) * 1≤2 ^ 47;rw [hb,hb];omega
    ·show (Zi l).length+(Zi txt).length≤2 ^ 47;rw [hb,hb];omega
    ·exact m54
  ·exact h.elim
 ·exact h.elim
noncomputable def Zk0:Zr:=Zmj (.tuple []) fun rest txt=>∃ps:List Bs,rest=[.d (.sl (ps.map X1))]∧ps≠[]∧ps.length≤1073741824∧txt=ps.flatten
theorem Vm:Za Zk0:=UC _ _
noncomputable def Zp0:Tbl:=[(155,ZkZ)]
theorem Zjf:TblOK (GG w0 nG) Zp0:=⟨⟨Zvc,ZcV⟩,trivial⟩
theorem ZgI:PCalls (GG w0 nG) 75 Zk0:=by
 refine ZbE Z8 mixed (tbl:=Zp0) Zjf Tryz.func75 rfl (by kernel_rfl) (by kernel_rfl) ?_;intro args σ K h
 unfold Zk0 Zmj at h
 split at h
 ·rename_i rest t p e rows
  obtain ⟨l,txt,rfl,⟨hp,rfl,rfl⟩,⟨ps,rfl,hne,hpl,rfl⟩,hlen,h⟩:=h;have hl1:(ps.map X1).length=ps.length:=Ti ..;refine ⟨Zb [(1,⟨[8],[0,6,7],fun vs σ=>∃(i:Nat) (P:PV),vs=[.d (.int .i64 i)]∧σ=⟨[.cells 84 [P,.sl 0 5 (Zi (l++(ps.take i).flatten))]],[0],1⟩∧(P=.d .nilp∨P=.ptr 0 0)∧(0<i→P=.ptr 0 0)∧i≤ps.length,fun vs _=>match vs with | [.d (.int _ i)]=>((ps.length:Int) - i).toNat | _=>0⟩)],1,true,by simp,Ta rfl,?_⟩;rcases hp with rfl | rfl
  all_goals
   conv=>whnf
   refine ⟨⟨0,_,rfl,(by simp only [Si,List.flatten_nil,T2];rfl),(by first | exact .inl rfl | exact .inr rfl),fun g=>absurd g (by omega),by omega⟩,?_⟩;intro vs σ hI
   obtain ⟨i,P,rfl,rfl,hP,hP0,hi⟩:=hI;(conv=>whnf);refine ZAf (fun hi2=>?_) (fun hi2=>?_)
   ·have hi2:i<ps.length:=by have hi2:(i:Int)<(ps.map X1).length:=hi2;rw [hl1] at hi2;omega
    obtain ⟨s,hs⟩:∃s,ps[i]=s:=⟨_,rfl⟩
    have hr1:(ps.map X1)[((i:Nat):Int).toNat]?=some (X1 s):=by simp [hi2,hs]
    have htk:(ps.take (i+1)).flatten=(ps.take i).flatten++s:=by rw [List.take_succ_eq_append_getElem hi2,List.flatten_append,hs];simp
    have hle:(ps.take (i+1)).flatten.length≤ps.flatten.length:=by
     have e:ps.flatten=(ps.take (i+1)).flatten++(ps.drop (i+1)).flatten:=by rw [← List.flatten_append,List.take_append_drop]
     rw [e,Tb];omega
    rw [htk,Tb] at hle;rcases hP with rfl | rfl
    all_goals
     conv=>whnf
     refine ⟨_,by omega,hr1,?_⟩;(conv=>whnf);refine ⟨l++(ps.take i).flatten,s,rfl,⟨(by first | exact .inl rfl | exact .inr rfl),rfl,rfl⟩,⟨rfl,rfl⟩,by rw [Tb];omega,?_⟩;(conv=>whnf);refine oiO ?_;(conv=>whnf);refine ⟨⟨i+1,_,rfl,(by rw [htk,To];rfl),.inr rfl,fun _=>rfl,by omega⟩,?_⟩;show ((ps.length:Int) - ((i:Int)+1)).toNat<((ps.length:Int) - (i:Int)).toNat;omega
   ·have hi2:i=ps.length:=by have hi2:¬(i:Int)<(ps.map X1).length:=hi2;rw [hl1] at hi2;omega
    subst hi2;obtain rfl:=hP0 (List.length_pos_iff.2 hne);rw [Sk];exact m54
 ·exact h.elim
theorem Zff (bt:Bs):∀(l:List Bs) (x:Bs),Zl bt (l++[x])=if l=[] then x else Zl bt l++(bt++x)
 | [],x=>rfl
 | [y],x=>by simp [Zl]
 | y::z::l,x=>by
  have ih:=Zff bt (z::l) x;simp only [SB] at ih ⊢;rw [Zl,ih] <;> simp [Zl]
theorem Jd {α:Type} (bt:Bs) (f:α→Bs) {xs:List α} {i:Nat} (h:i<xs.length):Zl bt ((xs.take (i+1)).map f)=if i=0 then f xs[i] else Zl bt ((xs.take i).map f)++(bt++f xs[i]):=by
 rw [List.take_succ_eq_append_getElem h,List.map_append,TJ,TX,Zff];have e:((xs.take i).map f=[])↔i=0:=by
  rw [← Sw,Ti,Sl];omega
 by_cases h0:i=0
 ·rw [Tf (e.2 h0),Tf h0]
 ·rw [Tc (fun g=>h0 (e.1 g)),Tc h0]
theorem Zb7 (bt:Bs):∀(l m:List Bs),(Zl bt l).length≤(Zl bt (l++m)).length
 | [],m=>T3 _
 | [x],[]=>Tq _
 | [x],y::m=>by simp only [SB,Sx,Zl,Tb];omega
 | x::y::l,m=>by
  have ih:=Zb7 bt (y::l) m;simp only [SB,Zl,Tb] at ih ⊢;omega
theorem Zjg {α:Type} (bt:Bs) (f:α→Bs) (xs:List α) (i:Nat):(Zl bt ((xs.take i).map f)).length≤(Zl bt (xs.map f)).length:=by
 have h:=Zb7 bt ((xs.take i).map f) ((xs.drop i).map f)
 rwa [← List.map_append,List.take_append_drop] at h
end Go.PM.Lex
end

section
namespace Go.PM.Lex
open Go.Proofs
def ZyN:Tab:=(.node (.node (.node (.node .leaf 3 ⟨1,8,.int .i64,[.d (.int .i64 (0))],true⟩ .leaf) 4 ⟨1,1,.bool,[.d (.bool false)],false⟩ .leaf) 5 ⟨1,1,.int .u8,[.d (.int .u8 (0))],true⟩ (.node .leaf 9 ⟨1,16,.string,[.d (.str [])],false⟩ .leaf)) 80 ⟨1,24,.slice 5,[.nils 5],false⟩ (.node (.node .leaf 131 ⟨1,8,.int .u64,[.d (.int .u64 (0))],true⟩ .leaf) 261 ⟨1,8,.int .u64,[.d (.int .u64 (0))],true⟩ (.node .leaf 305 ⟨65,65,.array 65 5,[.d (.int .u8 (0)),.d (.int .u8 (0)),.d (.int .u8 (0)),.d (.int .u8 (0)),.d (.int .u8 (0)),.d (.int .u8 (0)),.d (.int .u8 (0)),.d (.int .u8 (0)),.d (.int .u8 (0)),.d (.int .u8 (0)),.d (.int .u8 (0)),.d (.int .u8 (0)),.d (.int .u8 (0)),.d (.int .u8 (0)),.d (.int .u8 (0)),.d (.int .u8 (0)),.d (.int .u8 (0)),.d (.int .u8 (0)),.d (.int .u8 (0)),.d (.int .u8 (0)),.d (.int .u8 (0)),.d (.int .u8 (0)),.d (.int .u8 (0)),.d (.int .u8 (0)),.d (.int .u8 (0)),.d (.int .u8 (0)),.d (.int .u8 (0)),.d (.int .u8 (0)),.d (.int .u8 (0)),.d (.int .u8 (0)),.d (.int .u8 (0)),.d (.int .u8 (0)),.d (.int .u8 (0)),.d (.int .u8 (0)),.d (.int .u8 (0)),.d (.int .u8 (0)),.d (.int .u8 (0)),.d (.int .u8 (0)),.d (.int .u8 (0)),.d (.int .u8 (0)),.d (.int .u8 (0)),.d (.int .u8 (0)),.d (.int .u8 (0)),.d (.int .u8 (0)),.d (.int .u8 (0)),.d (.int .u8 (0)),.d (.int .u8 (0)),.d (.int .u8 (0)),.d (.int .u8 (0)),.d (.int .u8 (0)),.d (.int .u8 (0)),.d (.int .u8 (0)),.d (.int .u8 (0)),.d (.int .u8 (0)),.d (.int .u8 (0)),.d (.int .u8 (0)),.d (.int .u8 (0)),.d (.int .u8 (0)),.d (.int .u8 (0)),.d (.int .u8 (0)),.d (.int .u8 (0)),.d (.int .u8 (0)),.d (.int .u8 (0)),.d (.int .u8 (0)),.d (.int .u8 (0))],false⟩ .leaf)))
theorem Zr4:TabOK ZyN Tryz.prog:=by unfold TabOK;kernel_rfl
end Go.PM.Lex
end

section
namespace Go.PM.Lex
open Go.Proofs Go.Shelf Go.RowKit
variable {w0:World} {nG:Nat}
structure NumOK (w0:World) (nG:Nat):Prop where
 big:7<nG
 pow : Lib.TabIs Tryz.prog w0 "internal/strconv.uint64pow10" .u64 Lib.pow10Tab
 bru:w0.cell? ⟨5,15,none⟩=some (.int .u8 4)
theorem Zxp:IntKind.u64.wrap (bits BinOp.and IntKind.u64 (16:Int) (IntKind.u64.wrap (-(16:Int))) * 285870213051353865) / 288230376151711744=(15:Int):=by decide +kernel
theorem Zvd (w:World) (hcell:w.cell? ⟨5,15,none⟩=some (.int .u8 4)):Calls Tryz.prog 306 #[.int .u64 16] w fun e w'=>e=.returned (.int .i64 4)∧w'=w:=by
 go_enter Tryz.func306,Tryz.ntmps306
 go_wp2_with (simp only [Zxp])
 go_ret
 exact ⟨rfl,rfl⟩
theorem Zdy:∀(f n:Nat),n<f→Lib.decDigits n=V9 10 f n
 | 0,n,h=>by omega
 | f+1,n,h=>by
  rw [Lib.decDigits,V9]
  by_cases c:n<10
  ·rw [dif_pos c,Tf c,Zcl,Tf c]
  ·rw [dif_neg c,Tc c,Zdy f (n / 10) (by omega),Zcl,Tf (by omega)]
theorem Zp1 {n:Int} (h:0≤n):Lib.itoa n=ZdV n:=by
 rw [Lib.itoa,Tc (by omega),ZdV,Tc (by omega),X0];exact Zdy _ _ (by omega)
theorem Zr5 {e:Env} {σ:St} {w:World} {name:String} {k:IntKind} {zs:List Int} {g:Nat} (hS:SRel (GG w0 nG) e σ w) (h:Lib.TabIs Tryz.prog w0 name k zs) (hg:Tryz.prog.globalNamed name=some g) (hlt:g<nG):Lib.TabIs Tryz.prog w name k zs:=by
 unfold Lib.TabIs World.var? at h ⊢
 rw [hg] at h ⊢;simp only [Option.bind_some] at h ⊢;rw [hS.glob g hlt];exact h
theorem Zve {e:Env} {σ:St} {w:World} {k i:Nat} {u:Value} (hS:SRel (GG w0 nG) e σ w) (hk:k<nG) (h:w0.cell? ⟨k,i,none⟩=some u):w.cell? ⟨k,i,none⟩=some u:=by
 have:=hS.glob k hk;simpa [World.cell?,this] using h
noncomputable def Zjh:Zr:=fun args σ K=>match args,σ with
 | [.d (.int .i64 n),.d (.int .i64 b)],⟨[],[],0⟩=>(b=10∧0≤n∧n<9223372036854775808)∧K (.ret (.d (.str (ZdV n)))) ⟨[],[],0⟩
 | _,_=>False
theorem Zfg:Za Zjh:=fun args σ K K' hK h=>by
 unfold Zjh at h ⊢;split at h <;> first | exact ⟨h.1,hK _ _ h.2⟩ | exact h.elim
theorem Zp2 (hN:NumOK w0 nG):PCalls (GG w0 nG) 78 Zjh:=Xt (Zo Tryz.func78 (by kernel_rfl) rfl) fun args σ K h e w vs hS ha=>by
 unfold Zjh at h
 split at h
 ·rename_i n b
  obtain ⟨⟨rfl,h0,h1⟩,h⟩:=h;obtain ⟨u,v,rfl,hu,hv⟩:=Zkv ha
  cases hu.dint;cases hv.dint
  have ht:=Zr5 hS hN.pow (g:=3) (by kernel_rfl) (by have:=hN.big;omega);have hc:=Tryz.strconv_FormatInt_10 n (by omega) (by omega) w ht;rw [Zp1 h0] at hc;exact ⟨_,h,_,fun _ _=>.mkstr,hc.mono fun en w' ⟨h1,k,os,h2⟩=>⟨h1,ZAm (by rw [h2];exact Lib.below_grow w.heap.size w (Tq _) k os)⟩⟩
 ·exact h.elim
noncomputable def ZtH:Zr:=fun args σ K=>match args,σ with
 | [.d (.int .u64 n)],⟨[],[],0⟩=>n=16∧K (.ret (.d (.int .i64 4))) ⟨[],[],0⟩
 | _,_=>False
theorem Zji:Za ZtH:=fun args σ K K' hK h=>by
 unfold ZtH at h ⊢;split at h <;> first | exact ⟨h.1,hK _ _ h.2⟩ | exact h.elim
theorem Zvf (hN:NumOK w0 nG):PCalls (GG w0 nG) 306 ZtH:=Xt (Zo Tryz.func306 (by kernel_rfl) rfl) fun args σ K h e w vs hS ha=>by
 unfold ZtH at h
 split at h
 ·rename_i n
  obtain ⟨rfl,h⟩:=h;obtain ⟨u,rfl,hu⟩:=Ziz ha
  cases hu.dint
  exact ⟨_,h,_,fun _ _=>.d _ _ (.int _ _),(Zvd w (Zve hS (k:=5) (by have:=hN.big;omega) hN.bru)).mono fun en w' ⟨h1,h2⟩=>⟨h1,by rw [h2];exact Grows.refl _⟩⟩
 ·exact h.elim
noncomputable def ZyO:Tbl:=[(306,ZtH)]
theorem ZyP (hN:NumOK w0 nG):PCalls (GG w0 nG) 276 ZtH:=by
 refine pc (tbl:=ZyO) ⟨⟨Zvf hN,Zji⟩,trivial⟩ Tryz.func276 ?_;intro args σ K h
 unfold ZtH at h
 split at h
 ·obtain ⟨rfl,h⟩:=h;refine ⟨Zb [],0,false,by simp,Ta rfl,?_⟩;(conv=>whnf);refine ⟨rfl,?_⟩;exact m54
 ·exact h.elim
noncomputable def Zp3:Zr:=fun args σ K=>match args,σ with
 | [.d (.int .i64 n)],⟨[],[],0⟩=>n=16∧K (.ret (.d (.bool true))) ⟨[],[],0⟩
 | _,_=>False
theorem ZnH:Za Zp3:=fun args σ K K' hK h=>by
 unfold Zp3 at h ⊢;split at h <;> first | exact ⟨h.1,hK _ _ h.2⟩ | exact h.elim
theorem Zvg:Zk .and .i64 16 15=0:=by rw [Ys];decide +kernel
theorem Zxq:PCalls (GG w0 nG) 275 Zp3:=by
 refine pc (tbl:=[]) trivial Tryz.func275 ?_;intro args σ K h
 unfold Zp3 at h
 split at h
 ·obtain ⟨rfl,h⟩:=h;refine ⟨Zb [],0,false,by simp,Ta rfl,?_⟩;(conv=>whnf);refine oiO ?_;(conv=>whnf);have e:(Zk .and .i64 16 (16 - 1))=0:=Zvg;rw [e];exact h
 ·exact h.elim
theorem Zmk {n:Nat} (h:16≤n):X0 16 n=X0 16 (n / 16)++[Zcl (n % 16)]:=by
 have key:∀(f g m:Nat),m<f→m<g→V9 16 f m=V9 16 g m:=by
  intro f
  induction f with
  | zero=>intro g m h;omega
  | succ f ih =>
   intro g m h1 h2
   obtain ⟨g,rfl⟩:∃k,g=k+1:=⟨g - 1,by omega⟩
   rw [V9,V9];split
   ·rfl
   ·rw [ih g (m / 16) (by omega) (by omega)]
 rw [X0,V9,Tc (by omega),X0,key n (n / 16+1) (n / 16) (by omega) (by omega)]
theorem Zml {n:Nat} (h:n<16):X0 16 n=[Zcl n]:=by rw [X0,V9,Tf h]
def digs36:Bs:=[48,49,50,51,52,53,54,55,56,57,97,98,99,100,101,102,103,104,105,106,107,108,109,110,111,112,113,114,115,116,117,118,119,120,121,122]
theorem Zp4:∀d:Fin 16,digs36.getD d.val 0=Zcl d.val:=by decide +kernel
theorem Zr6 {u:Nat} (h:u<18446744073709551616):Zk .and .u64 (u:Int) 15=((u % 16:Nat):Int):=by
 have e:Zk .and .u64 (u:Int) 15=bits .and .u64 (u:Int) ((15:Nat):Int):=by rw [Ys];rfl
 rw [e,bits_and_u64_nat u 15 h (by decide)];have:u &&& 15=u % 16:=Nat.and_two_pow_sub_one_eq_mod u 4;rw [this]
def sh4 (n:Int):Int:=n.fdiv (2 ^ (min (Int.toNat 4) (IntKind.bits .u64)))
theorem Zvh (u:Nat):sh4 (u:Int)=((u / 16:Nat):Int):=by
 show (u:Int).fdiv ((2:Int) ^ 4)=_;rw [show ((2:Int) ^ 4)=((16:Nat):Int) by decide,So _ (by decide)];omega
theorem Zr7 {u:Nat} (h:u<18446744073709551616):digs36.getD (Zk .and .u64 (u:Int) 15).toNat 0=Zcl (u % 16):=by
 rw [Zr6 h,Tj];exact Zp4 ⟨u % 16,Nat.mod_lt _ (by decide)⟩
theorem Zr8 {u:Nat} (h:u<16):digs36.getD (u:Int).toNat 0=Zcl u:=by
 rw [Tj];exact Zp4 ⟨u,h⟩
theorem Zr9 {u:Nat} (h:u<18446744073709551616):0≤Zk .and .u64 (u:Int) 15:=by rw [Zr6 h];omega
theorem Zsa {u:Nat} (h:u<18446744073709551616):Zk .and .u64 (u:Int) 15<36:=by rw [Zr6 h];omega
def shN:Nat→Int→Int
 | 0,n=>n
 | j+1,n=>sh4 (shN j n)
noncomputable def Zxr:Nat→Int→Bs
 | 0,_=>[]
 | j+1,n=>digs36.getD (Zk .and .u64 (shN j n) 15).toNat 0::Zxr j n
theorem ZcW (u:Nat):∀j,shN j (u:Int)=((u / 16 ^ j:Nat):Int)
 | 0=>by rw [shN,Nat.pow_zero,Nat.div_one]
 | j+1=>by rw [shN,ZcW u j,Zvh,Nat.div_div_eq_div_mul,Nat.pow_succ]
theorem Zmm {u:Nat} (hu:u<18446744073709551616) (j:Nat):u / 16 ^ j<18446744073709551616:=Nat.lt_of_le_of_lt (Nat.div_le_self _ _) hu
theorem ZzJ {u:Nat} (hu:u<18446744073709551616):∀j,(∀k,k<j→16≤u / 16 ^ k)→X0 16 u=X0 16 (u / 16 ^ j)++Zxr j (u:Int)
 | 0,_=>by rw [Zxr,Nat.pow_zero,Nat.div_one,T2]
 | j+1,h=>by
  rw [ZzJ hu j fun k hk=>h k (by omega),Zmk (h j (by omega)),Zxr,ZcW,Zr7 (Zmm hu j),To,Nat.div_div_eq_div_mul,Nat.pow_succ];rfl
theorem ZzK {u j:Nat} (G:∀k,k<j→16≤u / 16 ^ k) (g:(16:Int)≤shN j (u:Int)):∀k,k<j+1→16≤u / 16 ^ k:=fun k hk=>by
 rw [ZcW] at g
 by_cases c:k=j
 ·subst c;omega
 ·exact G k (by omega)
theorem ZzL {u j:Nat} (hu:u<18446744073709551616) (G:∀k,k<j→16≤u / 16 ^ k) (g:¬(16:Int)≤shN j (u:Int)):X0 16 u=digs36.getD (shN j (u:Int)).toNat 0::Zxr j (u:Int):=by
 rw [ZcW] at g ⊢;rw [ZzJ hu j G,Zml (by omega),Zr8 (by omega)];rfl
theorem Zz6 {u j:Nat} (hu:u<18446744073709551616) (G:∀k,k<j→16≤u / 16 ^ k):0≤Zk .and .u64 (shN j (u:Int)) 15∧Zk .and .u64 (shN j (u:Int)) 15<36:=by
 rw [ZcW];exact ⟨Zr9 (Zmm hu j),Zsa (Zmm hu j)⟩
theorem ZzM {u j:Nat} (G:∀k,k<j→16≤u / 16 ^ k) (g:¬(16:Int)≤shN j (u:Int)):0≤shN j (u:Int)∧shN j (u:Int)<36:=by
 rw [ZcW] at g ⊢;generalize u / 16 ^ j=v at g ⊢;omega
noncomputable def Zxs:Zr:=fun args σ K=>match args,σ with
 | [.sl 0 e [],.d (.int .u64 n),.d (.int .i64 b),.d (.bool ng),.d (.bool ap)],⟨[],[0],1⟩=>(b=16∧ng=false∧ap=false∧0≤n∧n<18446744073709551616)∧K (.ret (.tuple [.d (.sl []),.d (.str (X0 16 n.toNat))])) ⟨[],[],0⟩
 | _,_=>False
theorem Zp5:Za Zxs:=fun args σ K K' hK h=>by
 unfold Zxs at h ⊢;split at h <;> first | exact ⟨h.1,hK _ _ h.2⟩ | exact h.elim
noncomputable def ZyQ:Tbl:=[(275,Zp3),(276,ZtH)]
theorem ZyR (hN:NumOK w0 nG):PCalls (GG w0 nG) 224 Zxs:=by
 refine Zez Zr4 mixed (tbl:=ZyQ) ⟨⟨Zxq,ZnH⟩,⟨ZyP hN,Zji⟩,trivial⟩ Tryz.func224 rfl (by kernel_rfl) (by kernel_rfl) ?_;intro args σ K h
 unfold Zxs at h
 split at h
 all_goals first | exact h.elim | skip
 all_goals
  obtain ⟨⟨rfl,rfl,rfl,h0,h1⟩,h⟩:=h
  rename_i e n
  obtain ⟨u0,rfl⟩:∃u:Nat,n=u:=⟨n.toNat,by omega⟩
  rw [Tj] at h;have hu0:u0<18446744073709551616:=by omega
  refine ⟨Zb [],W4 [(11,17)],Yu [],Yu [101],Yu [],0,false,by simp,Ta rfl,?_⟩;(conv=>whnf);refine ⟨rfl,?_⟩;(conv=>whnf);refine oiU ?_;(conv=>whnf);refine ⟨rfl,?_⟩;(conv=>whnf);refine oiU ?_;(conv=>whnf);refine oiU ?_;(conv=>whnf);refine oiU ?_;(conv=>whnf);refine oiU ?_;(conv=>whnf);have G:∀k,k<0→16≤u0 / 16 ^ k:=fun k hk=>by omega
  iterate 15
   refine ZAf (fun g=>?_) (fun g=>?_);rotate_left
   ·exact m200
   have B:=Zz6 hu0 G;have G:=ZzK G g;(conv=>whnf);refine oiD ?_;(conv=>whnf);refine ⟨B.1,B.2,?_⟩;(conv=>whnf);refine ⟨by decide,by decide,?_⟩;(conv=>whnf);refine ⟨by decide,?_⟩;(conv=>whnf)
  refine ZAf (fun g=>?_) (fun g=>?_)
  ·exact absurd (ZzK G g 15 (by decide)) (by omega)
  ·exact m200
noncomputable def Zdz:Zr:=fun args σ K=>match args,σ with
 | [.d (.int .u64 n),.d (.int .i64 b)],⟨[],[],0⟩=>(b=16∧0≤n∧n<18446744073709551616)∧K (.ret (.d (.str (X0 16 n.toNat)))) ⟨[],[],0⟩
 | _,_=>False
theorem Zbg:Za Zdz:=fun args σ K K' hK h=>by
 unfold Zdz at h ⊢;split at h <;> first | exact ⟨h.1,hK _ _ h.2⟩ | exact h.elim
noncomputable def ZyS:Tbl:=[(224,Zxs)]
theorem ZyT (hN:NumOK w0 nG):PCalls (GG w0 nG) 158 Zdz:=by
 refine pc (tbl:=ZyS) ⟨⟨ZyR hN,Zp5⟩,trivial⟩ Tryz.func158 ?_;intro args σ K h
 unfold Zdz at h
 split at h
 ·obtain ⟨⟨rfl,h0,h1⟩,h⟩:=h;refine ⟨Zb [],0,false,by simp,Ta rfl,?_⟩;(conv=>whnf);refine ⟨⟨rfl,rfl,rfl,h0,h1⟩,?_⟩;exact m54
 ·exact h.elim
noncomputable def Zvi:Tbl:=[(158,Zdz)]
theorem Zp6 (hN:NumOK w0 nG):PCalls (GG w0 nG) 77 Zdz:=by
 refine pc (tbl:=Zvi) ⟨⟨ZyT hN,Zbg⟩,trivial⟩ Tryz.func77 ?_;intro args σ K h
 unfold Zdz at h
 split at h
 ·rename_i n b
  obtain ⟨⟨rfl,h0,h1⟩,h⟩:=h;refine ⟨Zb [],0,false,by simp,Ta rfl,?_⟩;(conv=>whnf);refine ⟨⟨rfl,h0,h1⟩,?_⟩;generalize X0 16 n.toNat=T at h ⊢;exact m54
 ·exact h.elim
theorem ZdZ {n:Int} (h:n<0) (h0:-9223372036854775808≤n):0≤IntKind.u64.wrap n∧IntKind.u64.wrap n<18446744073709551616∧ZdV n=[48,120]++X0 16 (IntKind.u64.wrap n).toNat:=by
 have e:IntKind.u64.wrap n=n+18446744073709551616:=by
  unfold IntKind.wrap
  simp [IntKind.signed,IntKind.bits];omega
 refine ⟨by omega,by omega,?_⟩;rw [ZdV,Tf h,e]
end Go.PM.Lex
end

section
namespace Go.PM.Lex
open Go.Proofs
variable {w0:World} {nG:Nat}
def Zj3 (e:Ex):Bool:=ZQ e && Jv e
theorem Zvj {op:Nat} {t:Bs} {n:Int} {l:List Ex} {a:Nat} (h:Zj3 (.mk op t n l a)=true):-2<Yj op∧(Yj op<0∨(l.length:Int)=Yj op)∧Z3 op t=true∧(-9223372036854775808≤n∧n<9223372036854775808)∧l.all Zj3=true:=by
 simp only [Zj3,Tl] at h;obtain ⟨h1,h2⟩:=h;obtain ⟨r1,r2⟩:=ZcJ h2;simp only [ZQ,Zm,Tl,T9,TG] at h1;obtain ⟨h1,h3,h4,h5,h6⟩:=h1;refine ⟨h1,h3,h5,r1,?_⟩;rw [Tv] at h6 ⊢;exact fun x hx=>by rw [Zj3,h6 x hx,r2 x hx];rfl
theorem Zsb {op:Nat} (h:-2<Yj op):op<26:=by
 by_cases hc:op<26
 ·exact hc
 ·unfold Yj at h
  (repeat rw [Tc (by omega)] at h)
  omega
theorem Zvk {op:Nat} (h:-2<Yj op):(Zy op<5→Yj op=2)∧(Zy op=5→Yj op=1)∧Zy op≤6∧(op=5→Yj op=0):=by
 have hk:∀o:Fin 26,-2<Yj o.val→(Zy o.val<5→Yj o.val=2)∧(Zy o.val=5→Yj o.val=1)∧Zy o.val≤6∧(o.val=5→Yj o.val=0):=by decide
 exact hk ⟨op,Zsb h⟩ h
noncomputable def Zq2 (n:Nat):Zr:=Zmj (.tuple []) fun rest txt=>∃pl e want,rest=[ZfT Yc pl e,.d (.int .i64 want)]∧(Zj3 e=true∧wE e≤n∧n≤1073741824∧0≤want∧want≤6)∧txt=exW want.toNat e
theorem UD (n:Nat):Za (Zq2 n):=UC _ _
noncomputable def Zsc (n:Nat):Zr:=Zmj (.tuple []) fun rest txt=>∃fr fin pl xs,rest=[.d (.str fr),.d (.sl (ZM pl xs)),.d (.str fin)]∧(xs.all Zj3=true∧szS wE xs≤n∧n≤1073741824)∧txt=Wd fr fin xs
theorem JV (n:Nat):Za (Zsc n):=UC _ _
theorem VI (e:Ex):exW 0 e=exT e:=by rw [exW,Zn8,Tc (by simp)]
noncomputable def Zxt (n:Nat):Tbl:=[(30,Zq2 n)]
theorem Zxu {n:Nat} (ht:TblOK (GG w0 nG) (Zxt n)):PCalls (GG w0 nG) 157 (ZpY (ZfT Yc) Zj3 exT wE n):=by
 refine pc ht Tryz.func157 ?_;intro args σ K h
 unfold ZpY at h
 split at h
 ·obtain ⟨l,pl,⟨op,tx,nn,xs,at'⟩,rfl,rfl,⟨rfl,rfl⟩,⟨hmay,hz,hn⟩,hlen,h⟩:=h;refine ⟨Zb [],2,true,by simp,Ta rfl,?_⟩;(conv=>whnf);refine ⟨l,exT (.mk op tx nn xs at'),rfl,⟨.inr rfl,rfl,rfl⟩,⟨pl,.mk op tx nn xs at',0,rfl,⟨hmay,hz,hn,by omega,by omega⟩,(VI _).symm⟩,hlen,?_⟩;exact m54
 ·exact h.elim
noncomputable def ZyU (n:Nat):Tbl:=[(75,Zk0),(156,Zxn 157 Yc Zj3 exT wE n)]
theorem ZyV {n:Nat} (ht:TblOK (GG w0 nG) (ZyU n)):PCalls (GG w0 nG) 76 (Zsc n):=by
 refine pc ht Tryz.func76 ?_;intro args σ K h
 unfold Zsc Zmj at h
 split at h
 ·rename_i rest t p e rows
  obtain ⟨l,txt,rfl,⟨hp,rfl,rfl⟩,⟨fr,fin,pl,xs,rfl,⟨hmay,hz,hn⟩,rfl⟩,hlen,h⟩:=h;have key:l++Wd fr fin xs=l++fr++Zl cmm (xs.map exT)++fin:=by simp only [Wd,ZiK,To]
  rw [key] at h;have hlen:l.length+(fr.length+((Zl cmm (xs.map exT)).length+fin.length))<70368744177664:=by have:=hlen;simp only [Wd,ZiK,Tb] at this;exact this
  refine ⟨Zb [],1,true,by simp,Ta rfl,?_⟩;rcases hp with rfl | rfl
  all_goals
   conv=>whnf
   refine ⟨l,fr,rfl,⟨(by first | exact .inl rfl | exact .inr rfl),rfl,rfl⟩,⟨[fr],rfl,by simp,by simp,by simp⟩,by omega,?_⟩;(conv=>whnf);refine ⟨l++fr,pl,xs,rfl,Zg pl xs,⟨rfl,rfl,rfl⟩,⟨hmay,hz,hn⟩,by rw [Tb];show _+(Zl cmm (xs.map exT)).length<_;omega,?_⟩;(conv=>whnf);refine ⟨l++fr++Zl cmm (xs.map exT),fin,rfl,⟨.inr rfl,rfl,rfl⟩,⟨[fin],rfl,by simp,by simp,by simp⟩,by simp only [Tb];omega,?_⟩;(conv=>whnf);exact h
 ·exact h.elim
noncomputable def Zxv:List PV→St→(St→Prop)→Prop:=fun args σ K=>args.length≤Tryz.f75.ntmps∧W (Zna Zko Zp0 WJ (Zb []) (W4 [(1,3)]) (fun _=>false)) (Ww Tryz.f75) (Zxl Zko Tryz.f75 σ.bx.length K) (Zee 0 args) σ
theorem Zz7:PDef (GG w0 nG) 75 Zxv (fun _ _ _ _=>False) :=
 ZnE Z8 mixed Zjf Tryz.func75 rfl (by kernel_rfl) (by kernel_rfl) fun args σ K h=>⟨Zb [],W4 [(1,3)],σ.bx.length,Tq _,h.1,h.2⟩
noncomputable def Zxw (n:Nat):Tbl:=[(71,Zwg),(75,Zk0),(30,spB Zq2 n),(76,spB Zsc n),(78,Zjh),(77,Zdz),(73,Vw)]
end Go.PM.Lex
end

section
namespace Go.PM.Lex
open Go.Proofs
variable {w0:World} {nG:Nat}
theorem Zxx {n:Nat} (ht:TblOK (GG w0 nG) (Zxw n)):PCalls (GG w0 nG) 30 (Zq2 n):=by
 refine Zr2 Z8 mixed (tbl:=Zxw n) ht Tryz.func30 rfl (by kernel_rfl) (by kernel_rfl) Zz7 ?_;intro args σ K h
 unfold Zq2 Zmj at h
 split at h
 ·rename_i rest t p e rows
  obtain ⟨l,txt,rfl,⟨hp,rfl,rfl⟩,⟨pl,⟨op,tx,nn,xs,at'⟩,want,rfl,⟨hmay,hz,hn,hw0,hw6⟩,rfl⟩,hlen,h⟩:=h;obtain ⟨m1,m2,m3,m4,m5⟩:=Zvj hmay;obtain ⟨k1,k2,k3,k5⟩:=Zvk m1;have hzx:szS wE xs+tx.length+1≤n:=by rw [wE,Zfc] at hz;omega
  rw [Tv] at m5;refine ⟨Zb [],W4 [],Yu [],1,true,by simp,Ta rfl,?_⟩;rcases hp with rfl | rfl
  all_goals
   conv=>whnf
   refine ⟨op,rfl,fun l1 w1 a1 e1 e2 e3=>?_⟩;subst e1;(conv=>whnf);refine ZAf (fun hlt=>?_) (fun hlt=>?_)
   ·have hW:exW want.toNat (.mk op tx nn xs at')=[40]++(exT (.mk op tx nn xs at')++[41]):=by rw [exW,Zn8,Tf (by show Zy op<_;omega)]
    rw [hW] at h hlen;have hlen0:l.length+1<70368744177664:=by simp only [Tb,Td,Te] at hlen;omega
    conv=>whnf
    refine ⟨l,[40],rfl,⟨(by first | exact .inl rfl | exact .inr rfl),rfl,rfl⟩,⟨[[40]],rfl,by simp,by simp,by simp⟩,by simp only [Td,Te];omega,?_⟩;(conv=>whnf);refine ZAf (fun c1=>?_) (fun c1=>?_)
    ·have c1:Zy op<5:=by omega
     have hl2:xs.length=2:=by have:=k1 c1;omega
     obtain ⟨x0,x1,rfl⟩:∃x0 x1,xs=[x0,x1]:=by match xs,hl2 with | [a,b],_=>exact ⟨a,b,rfl⟩
     simp only [szS] at hzx;have g0:=m5 x0 (by simp);have g1:=m5 x1 (by simp);have z0:wE x0≤n - 1:=by omega
     have z1:wE x1≤n - 1:=by omega
     obtain ⟨o0,t0,n0,y0,q0⟩:=x0;obtain ⟨o1,t1,n1,y1,q1⟩:=x1;have hx:exT (.mk op tx nn [(.mk o0 t0 n0 y0 q0),(.mk o1 t1 n1 y1 q1)] at')=exW (Zy op) (.mk o0 t0 n0 y0 q0)++(([32]++(w1++[32]))++exW (Zy op+1) (.mk o1 t1 n1 y1 q1)):=by rw [exT,exN,Tf c1,e2];rfl
     rw [hx] at h hlen
     (try simp only [Tb,Td,Te] at hlen)
     conv=>whnf
     refine ⟨_,by decide,rfl,?_⟩;(conv=>whnf);refine ⟨by omega,(l++[40]),exW (Zy op) (.mk o0 t0 n0 y0 q0),rfl,⟨(by first | exact .inl rfl | exact .inr rfl),rfl,rfl⟩,⟨pl,(.mk o0 t0 n0 y0 q0),(Zy op:Int),rfl,⟨g0,by omega,by omega,by omega,by omega⟩,rfl⟩,by (try simp only [Tb,Td,Te]);omega,?_⟩;(conv=>whnf);refine ⟨(l++[40])++exW (Zy op) (.mk o0 t0 n0 y0 q0),[32]++(w1++[32]),rfl,⟨(by first | exact .inl rfl | exact .inr rfl),rfl,rfl⟩,⟨[[32],w1,[32]],rfl,by simp,by simp,by simp⟩,by (try simp only [Tb,Td,Te]);omega,?_⟩;(conv=>whnf);refine ⟨_,by decide,rfl,?_⟩;(conv=>whnf);refine oiO ?_;(conv=>whnf);refine ⟨by omega,(l++[40])++exW (Zy op) (.mk o0 t0 n0 y0 q0)++([32]++(w1++[32])),exW (Zy op+1) (.mk o1 t1 n1 y1 q1),rfl,⟨(by first | exact .inl rfl | exact .inr rfl),rfl,rfl⟩,⟨pl,(.mk o1 t1 n1 y1 q1),((Zy op:Int)+1),rfl,⟨g1,by omega,by omega,by omega,by omega⟩,rfl⟩,by (try simp only [Tb,Td,Te]);omega,?_⟩;(conv=>whnf);refine ⟨Ta rfl,?_⟩;(conv=>whnf);refine ⟨_,by decide,rfl,?_⟩;(conv=>whnf);refine ⟨(l++[40])++exW (Zy op) (.mk o0 t0 n0 y0 q0)++([32]++(w1++[32]))++exW (Zy op+1) (.mk o1 t1 n1 y1 q1),[41],rfl,⟨.inr rfl,rfl,rfl⟩,⟨rfl,rfl⟩,by (try simp only [Tb,Td,Te]);omega,?_⟩;(conv=>whnf);refine oiO ?_;rw [show l++([40]++(exW (Zy op) (.mk o0 t0 n0 y0 q0)++(([32]++(w1++[32]))++exW (Zy op+1) (.mk o1 t1 n1 y1 q1))++[41]))=(l++[40])++exW (Zy op) (.mk o0 t0 n0 y0 q0)++([32]++(w1++[32]))++exW (Zy op+1) (.mk o1 t1 n1 y1 q1)++[41] by first | rfl | simp only [To]] at h;exact m54
    have c1:¬Zy op<5:=by omega
    conv=>whnf
    refine ZAf (fun c2=>?_) (fun c2=>?_)
    ·have c2:Zy op=5:=by omega
     have hl2:xs.length=1:=by have:=k2 c2;omega
     obtain ⟨x0,rfl⟩:∃x0,xs=[x0]:=by match xs,hl2 with | [a],_=>exact ⟨a,rfl⟩
     simp only [szS] at hzx;have g0:=m5 x0 (by simp);have z0:wE x0≤n - 1:=by omega
     obtain ⟨o0,t0,n0,y0,q0⟩:=x0;have hx:exT (.mk op tx nn [(.mk o0 t0 n0 y0 q0)] at')=w1++exW 5 (.mk o0 t0 n0 y0 q0):=by rw [exT,exN,Tc c1,Tf c2,e2];rfl
     rw [hx] at h hlen
     (try simp only [Tb,Td,Te] at hlen)
     conv=>whnf
     refine ⟨(l++[40]),w1,rfl,⟨(by first | exact .inl rfl | exact .inr rfl),rfl,rfl⟩,⟨[w1],rfl,by simp,by simp,by simp⟩,by (try simp only [Tb,Td,Te]);omega,?_⟩;(conv=>whnf);refine ⟨_,by decide,rfl,?_⟩;(conv=>whnf);refine ⟨by omega,(l++[40])++w1,exW 5 (.mk o0 t0 n0 y0 q0),rfl,⟨(by first | exact .inl rfl | exact .inr rfl),rfl,rfl⟩,⟨pl,(.mk o0 t0 n0 y0 q0),5,rfl,⟨g0,by omega,by omega,by omega,by omega⟩,rfl⟩,by (try simp only [Tb,Td,Te]);omega,?_⟩;(conv=>whnf);refine ⟨Ta rfl,?_⟩;(conv=>whnf);refine ⟨_,by decide,rfl,?_⟩;(conv=>whnf);refine ⟨(l++[40])++w1++exW 5 (.mk o0 t0 n0 y0 q0),[41],rfl,⟨.inr rfl,rfl,rfl⟩,⟨rfl,rfl⟩,by (try simp only [Tb,Td,Te]);omega,?_⟩;(conv=>whnf);refine oiO ?_;rw [show l++([40]++(w1++exW 5 (.mk o0 t0 n0 y0 q0)++[41]))=(l++[40])++w1++exW 5 (.mk o0 t0 n0 y0 q0)++[41] by first | rfl | simp only [To]] at h;exact m54
    have c2:¬Zy op=5:=by omega
    conv=>whnf
    refine ZAh (fun c3=>?_) (fun c3=>?_)
    ·have c3:Ya op≠[]:=by rw [e2];exact c3
     have hx:exT (.mk op tx nn xs at')=w1++Wd [40] [41] xs:=by rw [exT,exN,Tc c1,Tc c2,Tf c3,e2,Y5];rfl
     rw [hx] at h hlen
     (try simp only [Tb,Td,Te] at hlen)
     conv=>whnf
     refine ⟨(l++[40]),w1,rfl,⟨(by first | exact .inl rfl | exact .inr rfl),rfl,rfl⟩,⟨[w1],rfl,by simp,by simp,by simp⟩,by (try simp only [Tb,Td,Te]);omega,?_⟩;(conv=>whnf);refine ⟨by omega,(l++[40])++w1,Wd [40] [41] xs,rfl,⟨(by first | exact .inl rfl | exact .inr rfl),rfl,rfl⟩,⟨[40],[41],pl,xs,rfl,⟨Tv.2 m5,by omega,by omega⟩,rfl⟩,by (try simp only [Tb,Td,Te]);omega,?_⟩;(conv=>whnf);refine ⟨Ta rfl,?_⟩;(conv=>whnf);refine ⟨_,by decide,rfl,?_⟩;(conv=>whnf);refine ⟨(l++[40])++w1++Wd [40] [41] xs,[41],rfl,⟨.inr rfl,rfl,rfl⟩,⟨rfl,rfl⟩,by (try simp only [Tb,Td,Te]);omega,?_⟩;(conv=>whnf);refine oiO ?_;rw [show l++([40]++(w1++Wd [40] [41] xs++[41]))=(l++[40])++w1++Wd [40] [41] xs++[41] by first | rfl | simp only [To]] at h;exact m54
    have c3:¬Ya op≠[]:=by rw [e2];exact fun g=>g c3
    conv=>whnf
    refine ZAf (fun c4=>?_) (fun c4=>?_)
    ·have c4:op=6:=by omega
     have hx:exT (.mk op tx nn xs at')=Wd [91] [93] xs:=by rw [exT,exN,Tc c1,Tc c2,Tc c3,Tf c4,Y5];rfl
     rw [hx] at h hlen
     (try simp only [Tb,Td,Te] at hlen)
     conv=>whnf
     refine ⟨by omega,(l++[40]),Wd [91] [93] xs,rfl,⟨(by first | exact .inl rfl | exact .inr rfl),rfl,rfl⟩,⟨[91],[93],pl,xs,rfl,⟨Tv.2 m5,by omega,by omega⟩,rfl⟩,by (try simp only [Tb,Td,Te]);omega,?_⟩;(conv=>whnf);refine ⟨Ta rfl,?_⟩;(conv=>whnf);refine ⟨_,by decide,rfl,?_⟩;(conv=>whnf);refine ⟨(l++[40])++Wd [91] [93] xs,[41],rfl,⟨.inr rfl,rfl,rfl⟩,⟨rfl,rfl⟩,by (try simp only [Tb,Td,Te]);omega,?_⟩;(conv=>whnf);refine oiO ?_;rw [show l++([40]++(Wd [91] [93] xs++[41]))=(l++[40])++Wd [91] [93] xs++[41] by first | rfl | simp only [To]] at h;exact m54
    have c4:¬op=6:=by omega
    conv=>whnf
    refine ZAf (fun c5=>?_) (fun c5=>?_)
    ·have c5:op=7:=by omega
     have hxl:(ZM pl xs).length=xs.length:=by rw [Zg,Ti]
     by_cases hx0:xs.length=0
     ·have hx:exT (.mk op tx nn xs at')=[36]++tx:=by rw [exT,exN,Tc c1,Tc c2,Tc c3,Tc c4,Tf c5,Zai,Tf hx0,T2]
      rw [hx] at h hlen
      (try simp only [Tb,Td,Te] at hlen)
      conv=>whnf
      refine ⟨(l++[40]),[36]++tx,rfl,⟨(by first | exact .inl rfl | exact .inr rfl),rfl,rfl⟩,⟨[[36],tx],rfl,by simp,by simp,by simp⟩,by (try simp only [Tb,Td,Te]);omega,?_⟩;(conv=>whnf);refine ZAf (fun g=>?_) (fun g=>?_)
      case refine_1=>exact absurd (show ((ZM pl xs).length:Int)>0 from g) (by omega)
      conv=>whnf
      refine ⟨Ta rfl,?_⟩;(conv=>whnf);refine ⟨_,by decide,rfl,?_⟩;(conv=>whnf);refine ⟨(l++[40])++([36]++tx),[41],rfl,⟨.inr rfl,rfl,rfl⟩,⟨rfl,rfl⟩,by (try simp only [Tb,Td,Te]);omega,?_⟩;(conv=>whnf);refine oiO ?_;rw [show l++([40]++([36]++tx++[41]))=(l++[40])++([36]++tx)++[41] by first | rfl | simp only [To]] at h;exact m54
     have hx:exT (.mk op tx nn xs at')=([36]++tx)++Wd [40] [41] xs:=by rw [exT,exN,Tc c1,Tc c2,Tc c3,Tc c4,Tf c5,Zai,Tc hx0,Y5,To];rfl
     rw [hx] at h hlen
     (try simp only [Tb,Td,Te] at hlen)
     conv=>whnf
     refine ⟨(l++[40]),[36]++tx,rfl,⟨(by first | exact .inl rfl | exact .inr rfl),rfl,rfl⟩,⟨[[36],tx],rfl,by simp,by simp,by simp⟩,by (try simp only [Tb,Td,Te]);omega,?_⟩;(conv=>whnf);refine ZAf (fun g=>?_) (fun g=>?_)
     case refine_2=>exact absurd (show ((ZM pl xs).length:Int)>0 by omega) g
     conv=>whnf
     refine ⟨by omega,(l++[40])++([36]++tx),Wd [40] [41] xs,rfl,⟨(by first | exact .inl rfl | exact .inr rfl),rfl,rfl⟩,⟨[40],[41],pl,xs,rfl,⟨Tv.2 m5,by omega,by omega⟩,rfl⟩,by (try simp only [Tb,Td,Te]);omega,?_⟩;(conv=>whnf);refine ⟨Ta rfl,?_⟩;(conv=>whnf);refine ⟨_,by decide,rfl,?_⟩;(conv=>whnf);refine ⟨(l++[40])++([36]++tx)++Wd [40] [41] xs,[41],rfl,⟨.inr rfl,rfl,rfl⟩,⟨rfl,rfl⟩,by (try simp only [Tb,Td,Te]);omega,?_⟩;(conv=>whnf);refine oiO ?_;rw [show l++([40]++(([36]++tx)++Wd [40] [41] xs++[41]))=(l++[40])++([36]++tx)++Wd [40] [41] xs++[41] by first | rfl | simp only [To]] at h;exact m54
    have c5:¬op=7:=by omega
    conv=>whnf
    refine ZAf (fun c6=>?_) (fun c6=>?_)
    ·have c6':op=3:=by omega
     obtain ⟨i0,i1⟩:=m4;(conv=>whnf);refine ZAf (fun gn=>?_) (fun gn=>?_)
     ·obtain ⟨j0,j1,j2⟩:=ZdZ gn i0;obtain ⟨wn,hwn⟩:∃wn,IntKind.u64.wrap nn=wn:=⟨_,rfl⟩
      rw [hwn] at j0 j1 j2;(conv=>whnf);refine Or.inr ?_;rw [hwn];have hx:exT (.mk op tx nn xs at')=ZdV nn:=by rw [exT,exN,Tc c1,Tc c2,Tc c3,Tc c4,Tc c5,Tf c6']
      rw [hx] at h hlen
      (try simp only [Tb,Td,Te] at hlen)
      conv=>whnf
      refine ⟨⟨rfl,j0,j1⟩,?_⟩;obtain ⟨T,hT⟩:∃T,X0 16 wn.toNat=T:=⟨_,rfl⟩
      rw [hT] at j2 ⊢;rw [j2] at h hlen
      (try simp only [Tb,Td,Te] at hlen)
      conv=>whnf
      refine ⟨(l++[40]),[48,120]++T,rfl,⟨(by first | exact .inl rfl | exact .inr rfl),rfl,rfl⟩,⟨[[48,120],T],rfl,by simp,by simp,by simp⟩,by (try simp only [Tb,Td,Te]);omega,?_⟩;(conv=>whnf);refine ⟨Ta rfl,?_⟩;(conv=>whnf);refine ⟨_,by decide,rfl,?_⟩;(conv=>whnf);refine ⟨(l++[40])++([48,120]++T),[41],rfl,⟨.inr rfl,rfl,rfl⟩,⟨rfl,rfl⟩,by (try simp only [Tb,Td,Te]);omega,?_⟩;(conv=>whnf);refine oiO ?_;rw [show l++([40]++(([48,120]++T)++[41]))=(l++[40])++([48,120]++T)++[41] by first | rfl | simp only [To]] at h;exact m54
     conv=>whnf
     refine ZAf (fun _=>?_) (fun g=>absurd c6 g);have hx:exT (.mk op tx nn xs at')=ZdV nn:=by rw [exT,exN,Tc c1,Tc c2,Tc c3,Tc c4,Tc c5,Tf c6']
     rw [hx] at h hlen
     (try simp only [Tb,Td,Te] at hlen)
     conv=>whnf
     refine ⟨⟨rfl,by omega,i1⟩,?_⟩;(conv=>whnf);refine ⟨(l++[40]),ZdV nn,rfl,⟨(by first | exact .inl rfl | exact .inr rfl),rfl,rfl⟩,⟨[ZdV nn],rfl,by simp,by simp,by simp⟩,by (try simp only [Tb,Td,Te]);omega,?_⟩;(conv=>whnf);refine ⟨Ta rfl,?_⟩;(conv=>whnf);refine ⟨_,by decide,rfl,?_⟩;(conv=>whnf);refine ⟨(l++[40])++ZdV nn,[41],rfl,⟨.inr rfl,rfl,rfl⟩,⟨rfl,rfl⟩,by (try simp only [Tb,Td,Te]);omega,?_⟩;(conv=>whnf);refine oiO ?_;rw [show l++([40]++(ZdV nn++[41]))=(l++[40])++ZdV nn++[41] by first | rfl | simp only [To]] at h;exact m54
    have c6':¬op=3:=by omega
    conv=>whnf
    refine ZAf (fun g=>absurd g c6) (fun _=>?_);(conv=>whnf);refine ZAf (fun c7=>?_) (fun c7=>?_)
    ·have c7':op=4:=by omega
     have hq:(WP tx).isSome=true:=by unfold Z3 at m3;rw [Tc (by omega),Tf c7'] at m3;exact m3
     obtain ⟨q,hq⟩:=Option.isSome_iff_exists.1 hq;have hqT:ZrE tx=q:=by rw [ZrE,hq];rfl
     have hx:exT (.mk op tx nn xs at')=q:=by rw [exT,exN,Tc c1,Tc c2,Tc c3,Tc c4,Tc c5,Tc c6',Tf c7',hqT]
     rw [hx] at h hlen
     (try simp only [Tb,Td,Te] at hlen)
     conv=>whnf
     refine ⟨by omega,?_⟩;(conv=>whnf);refine ⟨fun g=>?_,fun q' hq'=>?_⟩
     case refine_1=>exact absurd (hq.symm.trans g) (by simp)
     obtain rfl:q=q':=by rw [hq] at hq';exact Option.some.inj hq'
     conv=>whnf
     refine ⟨(l++[40]),q,rfl,⟨(by first | exact .inl rfl | exact .inr rfl),rfl,rfl⟩,⟨[q],rfl,by simp,by simp,by simp⟩,by (try simp only [Tb,Td,Te]);omega,?_⟩;(conv=>whnf);refine ⟨Ta rfl,?_⟩;(conv=>whnf);refine ⟨_,by decide,rfl,?_⟩;(conv=>whnf);refine ⟨(l++[40])++q,[41],rfl,⟨.inr rfl,rfl,rfl⟩,⟨rfl,rfl⟩,by (try simp only [Tb,Td,Te]);omega,?_⟩;(conv=>whnf);refine oiO ?_;rw [show l++([40]++(q++[41]))=(l++[40])++q++[41] by first | rfl | simp only [To]] at h;exact m54
    have c7':¬op=4:=by omega
    conv=>whnf
    refine ZAf (fun c8=>?_) (fun c8=>?_)
    ·have c8':op=5:=by omega
     have hx:exT (.mk op tx nn xs at')=[110,105,108]:=by rw [exT,exN,Tc c1,Tc c2,Tc c3,Tc c4,Tc c5,Tc c6',Tc c7',Tf c8']
     rw [hx] at h hlen
     (try simp only [Tb,Td,Te] at hlen)
     conv=>whnf
     refine ⟨(l++[40]),[110,105,108],rfl,⟨(by first | exact .inl rfl | exact .inr rfl),rfl,rfl⟩,⟨[[110,105,108]],rfl,by simp,by simp,by simp⟩,by (try simp only [Tb,Td,Te]);omega,?_⟩;(conv=>whnf);refine ⟨Ta rfl,?_⟩;(conv=>whnf);refine ⟨_,by decide,rfl,?_⟩;(conv=>whnf);refine ⟨(l++[40])++[110,105,108],[41],rfl,⟨.inr rfl,rfl,rfl⟩,⟨rfl,rfl⟩,by (try simp only [Tb,Td,Te]);omega,?_⟩;(conv=>whnf);refine oiO ?_;rw [show l++([40]++([110,105,108]++[41]))=(l++[40])++[110,105,108]++[41] by first | rfl | simp only [To]] at h;exact m54
    have c8':¬op=5:=by omega
    conv=>whnf
    refine ZAf (fun c9=>?_) (fun c9=>?_)
    ·have c9':op=2:=by omega
     have hx:exT (.mk op tx nn xs at')=[95]:=by rw [exT,exN,Tc c1,Tc c2,Tc c3,Tc c4,Tc c5,Tc c6',Tc c7',Tc c8',Tf c9']
     rw [hx] at h hlen
     (try simp only [Tb,Td,Te] at hlen)
     conv=>whnf
     refine ⟨(l++[40]),[95],rfl,⟨(by first | exact .inl rfl | exact .inr rfl),rfl,rfl⟩,⟨[[95]],rfl,by simp,by simp,by simp⟩,by (try simp only [Tb,Td,Te]);omega,?_⟩;(conv=>whnf);refine ⟨Ta rfl,?_⟩;(conv=>whnf);refine ⟨_,by decide,rfl,?_⟩;(conv=>whnf);refine ⟨(l++[40])++[95],[41],rfl,⟨.inr rfl,rfl,rfl⟩,⟨rfl,rfl⟩,by (try simp only [Tb,Td,Te]);omega,?_⟩;(conv=>whnf);refine oiO ?_;rw [show l++([40]++([95]++[41]))=(l++[40])++[95]++[41] by first | rfl | simp only [To]] at h;exact m54
    have c9':¬op=2:=by omega
    have hx:exT (.mk op tx nn xs at')=tx:=by rw [exT,exN,Tc c1,Tc c2,Tc c3,Tc c4,Tc c5,Tc c6',Tc c7',Tc c8',Tc c9']
    rw [hx] at h hlen
    (try simp only [Tb,Td,Te] at hlen)
    conv=>whnf
    refine ⟨(l++[40]),tx,rfl,⟨(by first | exact .inl rfl | exact .inr rfl),rfl,rfl⟩,⟨[tx],rfl,by simp,by simp,by simp⟩,by (try simp only [Tb,Td,Te]);omega,?_⟩;(conv=>whnf);refine ⟨Ta rfl,?_⟩;(conv=>whnf);refine ⟨_,by decide,rfl,?_⟩;(conv=>whnf);refine ⟨(l++[40])++tx,[41],rfl,⟨.inr rfl,rfl,rfl⟩,⟨rfl,rfl⟩,by (try simp only [Tb,Td,Te]);omega,?_⟩;(conv=>whnf);refine oiO ?_;rw [show l++([40]++(tx++[41]))=(l++[40])++tx++[41] by first | rfl | simp only [To]] at h;exact m54
   ·have hW:exW want.toNat (.mk op tx nn xs at')=exT (.mk op tx nn xs at'):=by rw [exW,Zn8,Tc (by show ¬Zy op<_;omega)]
    rw [hW] at h hlen;(conv=>whnf);refine ZAf (fun c1=>?_) (fun c1=>?_)
    ·have c1:Zy op<5:=by omega
     have hl2:xs.length=2:=by have:=k1 c1;omega
     obtain ⟨x0,x1,rfl⟩:∃x0 x1,xs=[x0,x1]:=by match xs,hl2 with | [a,b],_=>exact ⟨a,b,rfl⟩
     simp only [szS] at hzx;have g0:=m5 x0 (by simp);have g1:=m5 x1 (by simp);have z0:wE x0≤n - 1:=by omega
     have z1:wE x1≤n - 1:=by omega
     obtain ⟨o0,t0,n0,y0,q0⟩:=x0;obtain ⟨o1,t1,n1,y1,q1⟩:=x1;have hx:exT (.mk op tx nn [(.mk o0 t0 n0 y0 q0),(.mk o1 t1 n1 y1 q1)] at')=exW (Zy op) (.mk o0 t0 n0 y0 q0)++(([32]++(w1++[32]))++exW (Zy op+1) (.mk o1 t1 n1 y1 q1)):=by rw [exT,exN,Tf c1,e2];rfl
     rw [hx] at h hlen
     (try simp only [Tb,Td,Te] at hlen)
     conv=>whnf
     refine ⟨_,by decide,rfl,?_⟩;(conv=>whnf);refine ⟨by omega,l,exW (Zy op) (.mk o0 t0 n0 y0 q0),rfl,⟨(by first | exact .inl rfl | exact .inr rfl),rfl,rfl⟩,⟨pl,(.mk o0 t0 n0 y0 q0),(Zy op:Int),rfl,⟨g0,by omega,by omega,by omega,by omega⟩,rfl⟩,by (try simp only [Tb,Td,Te]);omega,?_⟩;(conv=>whnf);refine ⟨l++exW (Zy op) (.mk o0 t0 n0 y0 q0),[32]++(w1++[32]),rfl,⟨(by first | exact .inl rfl | exact .inr rfl),rfl,rfl⟩,⟨[[32],w1,[32]],rfl,by simp,by simp,by simp⟩,by (try simp only [Tb,Td,Te]);omega,?_⟩;(conv=>whnf);refine ⟨_,by decide,rfl,?_⟩;(conv=>whnf);refine oiO ?_;(conv=>whnf);refine ⟨by omega,l++exW (Zy op) (.mk o0 t0 n0 y0 q0)++([32]++(w1++[32])),exW (Zy op+1) (.mk o1 t1 n1 y1 q1),rfl,⟨(by first | exact .inl rfl | exact .inr rfl),rfl,rfl⟩,⟨pl,(.mk o1 t1 n1 y1 q1),((Zy op:Int)+1),rfl,⟨g1,by omega,by omega,by omega,by omega⟩,rfl⟩,by (try simp only [Tb,Td,Te]);omega,?_⟩;rw [show l++(exW (Zy op) (.mk o0 t0 n0 y0 q0)++(([32]++(w1++[32]))++exW (Zy op+1) (.mk o1 t1 n1 y1 q1)))=l++exW (Zy op) (.mk o0 t0 n0 y0 q0)++([32]++(w1++[32]))++exW (Zy op+1) (.mk o1 t1 n1 y1 q1) by first | rfl | simp only [To]] at h;exact m54
    have c1:¬Zy op<5:=by omega
    conv=>whnf
    refine ZAf (fun c2=>?_) (fun c2=>?_)
    ·have c2:Zy op=5:=by omega
     have hl2:xs.length=1:=by have:=k2 c2;omega
     obtain ⟨x0,rfl⟩:∃x0,xs=[x0]:=by match xs,hl2 with | [a],_=>exact ⟨a,rfl⟩
     simp only [szS] at hzx;have g0:=m5 x0 (by simp);have z0:wE x0≤n - 1:=by omega
     obtain ⟨o0,t0,n0,y0,q0⟩:=x0;have hx:exT (.mk op tx nn [(.mk o0 t0 n0 y0 q0)] at')=w1++exW 5 (.mk o0 t0 n0 y0 q0):=by rw [exT,exN,Tc c1,Tf c2,e2];rfl
     rw [hx] at h hlen
     (try simp only [Tb,Td,Te] at hlen)
     conv=>whnf
     refine ⟨l,w1,rfl,⟨(by first | exact .inl rfl | exact .inr rfl),rfl,rfl⟩,⟨[w1],rfl,by simp,by simp,by simp⟩,by (try simp only [Tb,Td,Te]);omega,?_⟩;(conv=>whnf);refine ⟨_,by decide,rfl,?_⟩;(conv=>whnf);refine ⟨by omega,l++w1,exW 5 (.mk o0 t0 n0 y0 q0),rfl,⟨(by first | exact .inl rfl | exact .inr rfl),rfl,rfl⟩,⟨pl,(.mk o0 t0 n0 y0 q0),5,rfl,⟨g0,by omega,by omega,by omega,by omega⟩,rfl⟩,by (try simp only [Tb,Td,Te]);omega,?_⟩;rw [show l++(w1++exW 5 (.mk o0 t0 n0 y0 q0))=l++w1++exW 5 (.mk o0 t0 n0 y0 q0) by first | rfl | simp only [To]] at h;exact m54
    have c2:¬Zy op=5:=by omega
    conv=>whnf
    refine ZAh (fun c3=>?_) (fun c3=>?_)
    ·have c3:Ya op≠[]:=by rw [e2];exact c3
     have hx:exT (.mk op tx nn xs at')=w1++Wd [40] [41] xs:=by rw [exT,exN,Tc c1,Tc c2,Tf c3,e2,Y5];rfl
     rw [hx] at h hlen
     (try simp only [Tb,Td,Te] at hlen)
     conv=>whnf
     refine ⟨l,w1,rfl,⟨(by first | exact .inl rfl | exact .inr rfl),rfl,rfl⟩,⟨[w1],rfl,by simp,by simp,by simp⟩,by (try simp only [Tb,Td,Te]);omega,?_⟩;(conv=>whnf);refine ⟨by omega,l++w1,Wd [40] [41] xs,rfl,⟨(by first | exact .inl rfl | exact .inr rfl),rfl,rfl⟩,⟨[40],[41],pl,xs,rfl,⟨Tv.2 m5,by omega,by omega⟩,rfl⟩,by (try simp only [Tb,Td,Te]);omega,?_⟩;rw [show l++(w1++Wd [40] [41] xs)=l++w1++Wd [40] [41] xs by first | rfl | simp only [To]] at h;exact m54
    have c3:¬Ya op≠[]:=by rw [e2];exact fun g=>g c3
    conv=>whnf
    refine ZAf (fun c4=>?_) (fun c4=>?_)
    ·have c4:op=6:=by omega
     have hx:exT (.mk op tx nn xs at')=Wd [91] [93] xs:=by rw [exT,exN,Tc c1,Tc c2,Tc c3,Tf c4,Y5];rfl
     rw [hx] at h hlen
     (try simp only [Tb,Td,Te] at hlen)
     conv=>whnf
     refine ⟨by omega,l,Wd [91] [93] xs,rfl,⟨(by first | exact .inl rfl | exact .inr rfl),rfl,rfl⟩,⟨[91],[93],pl,xs,rfl,⟨Tv.2 m5,by omega,by omega⟩,rfl⟩,by (try simp only [Tb,Td,Te]);omega,?_⟩;rw [show l++(Wd [91] [93] xs)=l++Wd [91] [93] xs by first | rfl | simp only [To]] at h;exact m54
    have c4:¬op=6:=by omega
    conv=>whnf
    refine ZAf (fun c5=>?_) (fun c5=>?_)
    ·have c5:op=7:=by omega
     have hxl:(ZM pl xs).length=xs.length:=by rw [Zg,Ti]
     by_cases hx0:xs.length=0
     ·have hx:exT (.mk op tx nn xs at')=[36]++tx:=by rw [exT,exN,Tc c1,Tc c2,Tc c3,Tc c4,Tf c5,Zai,Tf hx0,T2]
      rw [hx] at h hlen
      (try simp only [Tb,Td,Te] at hlen)
      conv=>whnf
      refine ⟨l,[36]++tx,rfl,⟨(by first | exact .inl rfl | exact .inr rfl),rfl,rfl⟩,⟨[[36],tx],rfl,by simp,by simp,by simp⟩,by (try simp only [Tb,Td,Te]);omega,?_⟩;(conv=>whnf);refine ZAf (fun g=>?_) (fun g=>?_)
      case refine_1=>exact absurd (show ((ZM pl xs).length:Int)>0 from g) (by omega)
      rw [show l++([36]++tx)=l++([36]++tx) by first | rfl | simp only [To]] at h;exact m54
     have hx:exT (.mk op tx nn xs at')=([36]++tx)++Wd [40] [41] xs:=by rw [exT,exN,Tc c1,Tc c2,Tc c3,Tc c4,Tf c5,Zai,Tc hx0,Y5,To];rfl
     rw [hx] at h hlen
     (try simp only [Tb,Td,Te] at hlen)
     conv=>whnf
     refine ⟨l,[36]++tx,rfl,⟨(by first | exact .inl rfl | exact .inr rfl),rfl,rfl⟩,⟨[[36],tx],rfl,by simp,by simp,by simp⟩,by (try simp only [Tb,Td,Te]);omega,?_⟩;(conv=>whnf);refine ZAf (fun g=>?_) (fun g=>?_)
     case refine_2=>exact absurd (show ((ZM pl xs).length:Int)>0 by omega) g
     conv=>whnf
     refine ⟨by omega,l++([36]++tx),Wd [40] [41] xs,rfl,⟨(by first | exact .inl rfl | exact .inr rfl),rfl,rfl⟩,⟨[40],[41],pl,xs,rfl,⟨Tv.2 m5,by omega,by omega⟩,rfl⟩,by (try simp only [Tb,Td,Te]);omega,?_⟩;rw [show l++(([36]++tx)++Wd [40] [41] xs)=l++([36]++tx)++Wd [40] [41] xs by first | rfl | simp only [To]] at h;exact m54
    have c5:¬op=7:=by omega
    conv=>whnf
    refine ZAf (fun c6=>?_) (fun c6=>?_)
    ·have c6':op=3:=by omega
     obtain ⟨i0,i1⟩:=m4;(conv=>whnf);refine ZAf (fun gn=>?_) (fun gn=>?_)
     ·obtain ⟨j0,j1,j2⟩:=ZdZ gn i0;obtain ⟨wn,hwn⟩:∃wn,IntKind.u64.wrap nn=wn:=⟨_,rfl⟩
      rw [hwn] at j0 j1 j2;(conv=>whnf);refine Or.inr ?_;rw [hwn];have hx:exT (.mk op tx nn xs at')=ZdV nn:=by rw [exT,exN,Tc c1,Tc c2,Tc c3,Tc c4,Tc c5,Tf c6']
      rw [hx] at h hlen
      (try simp only [Tb,Td,Te] at hlen)
      conv=>whnf
      refine ⟨⟨rfl,j0,j1⟩,?_⟩;obtain ⟨T,hT⟩:∃T,X0 16 wn.toNat=T:=⟨_,rfl⟩
      rw [hT] at j2 ⊢;rw [j2] at h hlen
      (try simp only [Tb,Td,Te] at hlen)
      conv=>whnf
      refine ⟨l,[48,120]++T,rfl,⟨(by first | exact .inl rfl | exact .inr rfl),rfl,rfl⟩,⟨[[48,120],T],rfl,by simp,by simp,by simp⟩,by (try simp only [Tb,Td,Te]);omega,?_⟩;rw [show l++(([48,120]++T))=l++([48,120]++T) by first | rfl | simp only [To]] at h;exact m54
     conv=>whnf
     refine ZAf (fun _=>?_) (fun g=>absurd c6 g);have hx:exT (.mk op tx nn xs at')=ZdV nn:=by rw [exT,exN,Tc c1,Tc c2,Tc c3,Tc c4,Tc c5,Tf c6']
     rw [hx] at h hlen
     (try simp only [Tb,Td,Te] at hlen)
     conv=>whnf
     refine ⟨⟨rfl,by omega,i1⟩,?_⟩;(conv=>whnf);refine ⟨l,ZdV nn,rfl,⟨(by first | exact .inl rfl | exact .inr rfl),rfl,rfl⟩,⟨[ZdV nn],rfl,by simp,by simp,by simp⟩,by (try simp only [Tb,Td,Te]);omega,?_⟩;rw [show l++(ZdV nn)=l++ZdV nn by first | rfl | simp only [To]] at h;exact m54
    have c6':¬op=3:=by omega
    conv=>whnf
    refine ZAf (fun g=>absurd g c6) (fun _=>?_);(conv=>whnf);refine ZAf (fun c7=>?_) (fun c7=>?_)
    ·have c7':op=4:=by omega
     have hq:(WP tx).isSome=true:=by unfold Z3 at m3;rw [Tc (by omega),Tf c7'] at m3;exact m3
     obtain ⟨q,hq⟩:=Option.isSome_iff_exists.1 hq;have hqT:ZrE tx=q:=by rw [ZrE,hq];rfl
     have hx:exT (.mk op tx nn xs at')=q:=by rw [exT,exN,Tc c1,Tc c2,Tc c3,Tc c4,Tc c5,Tc c6',Tf c7',hqT]
     rw [hx] at h hlen
     (try simp only [Tb,Td,Te] at hlen)
     conv=>whnf
     refine ⟨by omega,?_⟩;(conv=>whnf);refine ⟨fun g=>?_,fun q' hq'=>?_⟩
     case refine_1=>exact absurd (hq.symm.trans g) (by simp)
     obtain rfl:q=q':=by rw [hq] at hq';exact Option.some.inj hq'
     conv=>whnf
     refine ⟨l,q,rfl,⟨(by first | exact .inl rfl | exact .inr rfl),rfl,rfl⟩,⟨[q],rfl,by simp,by simp,by simp⟩,by (try simp only [Tb,Td,Te]);omega,?_⟩;rw [show l++(q)=l++q by first | rfl | simp only [To]] at h;exact m54
    have c7':¬op=4:=by omega
    conv=>whnf
    refine ZAf (fun c8=>?_) (fun c8=>?_)
    ·have c8':op=5:=by omega
     have hx:exT (.mk op tx nn xs at')=[110,105,108]:=by rw [exT,exN,Tc c1,Tc c2,Tc c3,Tc c4,Tc c5,Tc c6',Tc c7',Tf c8']
     rw [hx] at h hlen
     (try simp only [Tb,Td,Te] at hlen)
     conv=>whnf
     refine ⟨l,[110,105,108],rfl,⟨(by first | exact .inl rfl | exact .inr rfl),rfl,rfl⟩,⟨[[110,105,108]],rfl,by simp,by simp,by simp⟩,by (try simp only [Tb,Td,Te]);omega,?_⟩;rw [show l++([110,105,108])=l++[110,105,108] by first | rfl | simp only [To]] at h;exact m54
    have c8':¬op=5:=by omega
    conv=>whnf
    refine ZAf (fun c9=>?_) (fun c9=>?_)
    ·have c9':op=2:=by omega
     have hx:exT (.mk op tx nn xs at')=[95]:=by rw [exT,exN,Tc c1,Tc c2,Tc c3,Tc c4,Tc c5,Tc c6',Tc c7',Tc c8',Tf c9']
     rw [hx] at h hlen
     (try simp only [Tb,Td,Te] at hlen)
     conv=>whnf
     refine ⟨l,[95],rfl,⟨(by first | exact .inl rfl | exact .inr rfl),rfl,rfl⟩,⟨[[95]],rfl,by simp,by simp,by simp⟩,by (try simp only [Tb,Td,Te]);omega,?_⟩;rw [show l++([95])=l++[95] by first | rfl | simp only [To]] at h;exact m54
    have c9':¬op=2:=by omega
    have hx:exT (.mk op tx nn xs at')=tx:=by rw [exT,exN,Tc c1,Tc c2,Tc c3,Tc c4,Tc c5,Tc c6',Tc c7',Tc c8',Tc c9']
    rw [hx] at h hlen
    (try simp only [Tb,Td,Te] at hlen)
    conv=>whnf
    refine ⟨l,tx,rfl,⟨(by first | exact .inl rfl | exact .inr rfl),rfl,rfl⟩,⟨[tx],rfl,by simp,by simp,by simp⟩,by (try simp only [Tb,Td,Te]);omega,?_⟩;rw [show l++(tx)=l++tx by first | rfl | simp only [To]] at h;exact m54
 ·exact h.elim
end Go.PM.Lex
end

section
namespace Go.PM.Lex
open Go.Proofs Go.Shelf Go.RowKit
variable {w0:World} {nG:Nat}
theorem ZnI (w:World) (g n:Nat) {cs:Array Value} {ty:TypeId} {fz:Nat×Nat} (h:w.heap[g]?=some (.cells cs ty fz)) (h1:fz.1≤fz.2) (h2:∀o,n≤o→fz.1≤o→fz.2≤o) :
  ∃fz',(w.drew.freeze ⟨g,0,none⟩ n).heap[g]?=some (.cells cs ty fz')∧fz'.1≤fz'.2∧∀o,n≤o→fz'.1≤o→fz'.2≤o:=by
 have h':w.drew.heap[g]?=some (.cells cs ty fz):=h;obtain ⟨lo,hi⟩:=fz;unfold World.freeze
 split
 ·exact ⟨_,h',h1,h2⟩
 ·simp only [Array.getElem?_modify,if_true,h',Ss];refine ⟨_,rfl,?_,?_⟩
  ·split
   ·exact T3 _
   ·simp only at h1 ⊢;omega
  ·intro o ho ho2
   split
   ·simp only;omega
   ·rename_i hne
    have hne:lo≠hi:=by simpa using hne
    simp only at h1 ⊢;have k:=h2 (max lo n) (by omega) (by simp only;omega);simp only at k;omega
theorem _root_.Go.PM.Owned.grow {G:GE} {e:Env} {w w':World} {t el:Nat} {rows:List (List D)} {v:Value} (h:Owned G e w t el rows v) (g:Grows w w'):Owned G e w' t el rows v:=by
 rcases h with h | ⟨sz,a1,a2,a3,b,off,cap,cs,ty,fz,a4,a5,a6,a7,a8,a9,a10⟩
 ·exact .inl h
 ·exact .inr ⟨sz,a1,a2,a3,b,off,cap,cs,ty,fz,a4,a5,a6,(g.old _ (Tp.1 a7).1).trans a7,a8,a9,a10⟩
theorem _root_.Go.PM.Owned.refreeze {G:GE} {e:Env} {w w':World} {t:Nat} {rows:List (List D)} {v:Value} {g n:Nat} {cs:Array Value} {ty:TypeId} {fz fz':Nat×Nat} (h:Owned G e w t 5 rows v) (hM:e.M t=some (g,n))
  (h':w'.heap[g]?=some (.cells cs ty fz')) (h0:w.heap[g]?=some (.cells cs ty fz)) (h1:fz'.1≤fz'.2) (h2:∀o,n≤o→fz'.1≤o→fz'.2≤o):Owned G e w' t 5 rows v:=by
 rcases h with ⟨_,_,h⟩ | ⟨sz,a1,a2,a3,b,off,cap,cs2,ty2,fz2,a4,a5,a6,a7,a8,a9,a10⟩
 ·rw [hM] at h;cases h
 ·rw [hM] at a10;simp only [Option.some.injEq,Prod.mk.injEq] at a10;obtain ⟨rfl,rfl⟩:=a10;rw [h0] at a7
  cases a7
  exact .inr ⟨sz,a1,a2,a3,g,off,cap,cs,ty,fz',a4,a5,a6,h',a8,⟨h1,h2⟩,hM⟩
theorem Zvl {G:GE} {e:Env} {w w':World} {t:TypeId} {p:PV} {rows:List (List D)} (hp:p=.d .nilp∨p=.ptr 0 0) (hS:SRel G e ⟨[.cells t [p,.sl 0 5 rows]],[0],1⟩ w)
  (hsz:w.heap.size≤w'.heap.size) (hos:w'.os=w.os) (htp:w'.tape=w.tape) (hout:w'.output=w.output)
  (hcell:∀b off u,w.cell? ⟨b,off,none⟩=some u→w'.cell? ⟨b,off,none⟩=some u)
  (hblk:∀b,b<w.heap.size→(∀q,e.M 0=some q→q.1≠b)→w'.heap[b]?=w.heap[b]?)
  (hown:∀v,Owned G e w 0 5 rows v→Owned G e w' 0 5 rows v) (hobk:∀q,e.M 0=some q→∃cs ty fz,w'.heap[q.1]?=some (.cells cs ty fz)) :
  SRel G e ⟨[.cells t [p,.sl 0 5 rows]],[0],1⟩ w'∧Later e ⟨[.cells t [p,.sl 0 5 rows]],[0],1⟩ w e ⟨[.cells t [p,.sl 0 5 rows]],[0],1⟩ w':=by
 have hL:Later e ⟨[.cells t [p,.sl 0 5 rows]],[0],1⟩ w e ⟨[.cells t [p,.sl 0 5 rows]],[0],1⟩ w':={
  len:=Tq _
  beta:=fun _ _=>rfl
  X:=rfl
  pres:=fun b off u hu ho=>⟨ho,hcell b off u hu⟩
  blocks:=fun b hb h1 h2=>hblk b hb fun q hq=>h2 0 (by simp) q hq
  size:=hsz
  os:=hos
  tape:=htp
  output:=hout
  fresh:=fun i h1 h2=>by simp at h1 h2;omega
  ftok:=fun x hx q hq=>.inr ⟨x,hx,q,hq,rfl⟩ }
 have hlt:=hS.lt (i:=0) (by simp);have hblk0:w'.heap[e.β 0]?=w.heap[e.β 0]?:=hblk _ hlt fun q hq=>fun h=>(hS.own 0 (by simp) q hq).2.1 0 (by simp) h.symm
 refine ⟨?_,hL⟩;exact {
  inj:=hS.inj
  box:=fun i x hx=>by
   match i,hx with
   | 0,hx =>
    cases hx
    obtain ⟨cv,h1,h2,h3⟩:=hS.box 0 _ rfl;refine ⟨cv,hblk0.trans h1,h2,fun j y u hy hu=>?_⟩
    match j,hy with
    | 0,hy =>
     exact m101
    | 1,hy =>
     cases hy
     obtain ⟨q1,q2⟩:=h3 1 (.sl 0 5 rows) u rfl hu;refine ⟨?_,q2⟩
     cases q1 with
     | sl _ _ _ _ hn hd ht=>exact .sl _ _ _ _ hn (hd.later hL) (fun h=>hown _ (ht h))
    | j+2,hy=>simp at hy
   | i+1,hx=>simp at hx
  low:=hS.low
  tkn:=hS.tkn
  own:=fun x hx q hq=>by
   obtain ⟨a,b,_⟩:=hS.own x hx q hq;obtain rfl:x=0:=by simpa using hx
   exact ⟨a,b,hobk q hq⟩
  dis:=hS.dis
  xlt:=fun b off hx=>TD (hS.xlt b off hx) hsz
  xown:=hS.xown
  glob:=fun b hb=>by
   exact m183
  big:=TO hS.big hsz }
noncomputable def VA:Zr:=fun args σ K=>match args,σ with
 | [.ptr 0 0],⟨[.cells t [p,.sl 0 e rows]],[0],1⟩=>∃l:Bs,(rows=Zi l∧t=84∧e=5∧(p=.d .nilp∨p=.ptr 0 0)∧l.length<70368744177664)∧K (.ret (.d (.str l))) ⟨[.cells t [p,.sl 0 e rows]],[0],1⟩
 | _,_=>False
theorem Ub:Za VA:=fun args σ K K' hK h=>by
 unfold VA at h ⊢
 split at h
 ·obtain ⟨x,h1,h2⟩:=h;exact ⟨x,h1,hK _ _ h2⟩
 ·exact h.elim
theorem ZcX:PCalls (GG w0 nG) 31 VA:=U2 (Zo Tryz.func31 (by kernel_rfl) rfl) fun args σ K h e w vs hS ha=>by
 unfold VA at h
 split at h
 ·rename_i t p el rows
  obtain ⟨l,⟨rfl,rfl,rfl,hp,hbig⟩,hK⟩:=h;obtain ⟨u,rfl,hu⟩:=Ziz ha;obtain ⟨cv,hc1,hc2,hc3⟩:=hS.box 0 _ rfl;have hcs:cv.size=2:=hc2;obtain ⟨v0,v1,rfl⟩:∃v0 v1,cv=#[v0,v1]:=by
   obtain ⟨lst⟩:=cv
   match lst,hcs with
   | [a,b],_=>exact ⟨a,b,rfl⟩
  have hr1:=(hc3 1 (.sl 0 5 (Zi l)) v1 rfl rfl).1
  cases hu with
  | ptr b off hb =>
  refine ⟨_,_,.string ⟨l.toArray⟩,hK,?_⟩;have fin:∀w',w.heap.size≤w'.heap.size→w'.os=w.os→w'.tape=w.tape→w'.output=w.output →
    (∀b off u,w.cell? ⟨b,off,none⟩=some u→w'.cell? ⟨b,off,none⟩=some u) →
    (∀b,b<w.heap.size→(∀q,e.M 0=some q→q.1≠b)→w'.heap[b]?=w.heap[b]?)→(∀v,Owned (GG w0 nG) e w 0 5 (Zi l) v→Owned (GG w0 nG) e w' 0 5 (Zi l) v)→(∀q,e.M 0=some q→∃cs ty fz,w'.heap[q.1]?=some (.cells cs ty fz)) →
    VRel (GG w0 nG) e ⟨[.cells 84 [p,.sl 0 5 (Zi l)]],[0],1⟩ w' (.d (.str l)) (.string ⟨l.toArray⟩)∧SRel (GG w0 nG) e ⟨[.cells 84 [p,.sl 0 5 (Zi l)]],[0],1⟩ w'∧Later e ⟨[.cells 84 [p,.sl 0 5 (Zi l)]],[0],1⟩ w e ⟨[.cells 84 [p,.sl 0 5 (Zi l)]],[0],1⟩ w':=fun w' h1 h2 h3 h4 h5 h6 h7 h8 =>
   ⟨.mkstr,Zvl hp hS h1 h2 h3 h4 h5 h6 h7 h8⟩
  have grown:∀w',Grows w w'→_:=fun w' g=>fin w' g.size g.os g.tape g.output (fun b off u hu=>(g.cell (UQ hu)).trans hu) (fun b hb _=>g.old b hb) (fun v hv=>hv.grow g) (fun q hq=>by obtain ⟨_,_,cs,ty,fz,hh⟩:=hS.own 0 (by simp) q hq;exact ⟨cs,ty,fz,(g.old _ (Tp.1 hh).1).trans hh⟩)
  cases hr1 with
  | sl _ _ _ _ hn hd ht =>
  rcases ht (by simp) with ⟨rfl,hrows,hM⟩ | ⟨sz,g1,g2,g3,g,off,cap,cs,ty,fz,rfl,g4,g5,g6,⟨g7,rfl,rfl,g8⟩,g9,hM⟩
  ·have hl:l=[]:=by simpa [Zi] using hrows
   subst hl;refine (Zr3 Tryz.lays169 Tryz.Builder_Extra_169 w.heap.size (e.β 0) v0 w hc1).mono fun en w' ⟨h1,h2⟩=>?_
   exact ⟨h1,grown w' (ZAm h2)⟩
  ·have hsz1:sz=1:=by
    have:(Tryz.prog.info? 5).map (·.size)=some sz:=g1
    rw [Zwx] at this;cases this;rfl
   subst hsz1;rw [XN] at g5 hc1 g9 hM hd
   by_cases hl:l=[]
   ·subst hl;refine (ZpX Tryz.lays169 Tryz.Builder_Extra_169 w.heap.size (e.β 0) g cap v0 w (by omega) hc1).mono fun en w' ⟨h1,h2⟩=>?_
    exact ⟨h1,grown w' (ZAm h2)⟩
   ·have hcell:∀j x,l[j]?=some x→w.cell? ⟨g,j,none⟩=some (.int .u8 x.toNat):=by
     exact m35
    obtain ⟨fz',hfz',hfa,hfb⟩:=ZnI w g l.length g6 g9.1 (fun o ho=>g9.2 o (by omega));refine (ZnF Tryz.lays169 Tryz.Builder_Extra_169 (e.β 0) g cap v0 cs fz l w hl hc1 g6 (by omega) (by omega) (by omega) hcell).mono fun en w' ⟨h1,h2⟩=>?_
    rw [h2];refine ⟨h1,fin _ ?_ ?_ ?_ ?_ ?_ ?_ ?_ ?_⟩
    ·unfold World.freeze;split <;> first | exact Tq _ | (simp only [Array.size_modify];exact Tq _)
    ·exact m182
    ·exact m182
    ·exact m182
    ·exact m131
    ·intro b hb hq
     exact U3 w g l.length b fun h=>hq _ hM h.symm
    ·intro v hv
     exact hv.refreeze hM hfz' g6 hfa (by simpa [XN] using hfb)
    ·intro q hq
     rw [hM] at hq;cases hq;exact ⟨_,_,_,hfz'⟩
 ·exact h.elim
end Go.PM.Lex
end

section
namespace Go.PM.Lex
open Go.Proofs
variable {w0:World} {nG:Nat}
noncomputable def Zvm (n:Nat):Tbl:=[(155,ZkZ),(157,ZpY (ZfT Yc) Zj3 exT wE n)]
theorem Zvn {n:Nat} (ht:TblOK (GG w0 nG) (Zvm n)):PCalls (GG w0 nG) 156 (Zxn 157 Yc Zj3 exT wE n):=by
 refine pc ht Tryz.func156 ?_;intro args σ K h
 unfold Zxn at h
 split at h
 ·rename_i r bt g t e rows tp
  obtain ⟨l,pl,xs,rfl,rfl,⟨rfl,rfl,rfl⟩,⟨hmay,hz,hn⟩,hlen,h⟩:=h;have hl1:(xs.map (Yc pl)).length=xs.length:=Ti ..;have hsz:=Wn wE xs;refine ⟨Zb [(1,⟨[12],[0,1,2,3,10,11],fun vs σ=>∃i:Nat,vs=[.d (.int .i64 i)]∧σ=⟨[.cells 84 [.ptr 0 0,.sl 0 5 (Zi (l++Zl bt ((xs.take i).map exT)))],.cells tp [.ptr 0 0]],[0],1⟩∧i≤xs.length,fun vs _=>match vs with | [.d (.int _ i)]=>((xs.length:Int) - i).toNat | _=>0⟩)],2,true,by simp,Ta rfl,?_⟩;(conv=>whnf);refine ⟨⟨0,rfl,(by simp only [Si,TX,Zl,T2];rfl),by omega⟩,?_⟩;intro vs σ hI
  obtain ⟨i,rfl,rfl,hi⟩:=hI;(conv=>whnf);refine ZAf (fun hi2=>?_) (fun hi2=>?_)
  ·have hi2:i<xs.length:=by have hi2:(i:Int)<(xs.map (Yc pl)).length:=hi2;rw [hl1] at hi2;omega
   have hg:=Wo wE xs i hi2;have hmx:Zj3 xs[i]=true:=Tv.1 hmay _ (TP hi2);have htk:=Jd bt exT hi2;have hle:=Zjg bt exT xs (i+1);obtain ⟨eA,hA⟩:∃x,xs[i]=x:=⟨_,rfl⟩
   obtain ⟨a1,a2,a3,a4,a5⟩:=eA;rw [hA] at hg hmx htk;have hr1:(xs.map (Yc pl))[((i:Nat):Int).toNat]?=some (Yc pl (.mk a1 a2 a3 a4 a5)):=by simp [hi2,hA]
   conv=>whnf
   refine ⟨_,by omega,hr1,?_⟩;(conv=>whnf);refine ZAf (fun h0=>?_) (fun h0=>?_)
   ·have h0:0<i:=by omega
    rw [Tc (by omega)] at htk;rw [htk] at hle;simp only [Tb] at hle;(conv=>whnf);refine ⟨l++Zl bt ((xs.take i).map exT),bt,rfl,⟨.inr rfl,rfl,rfl⟩,⟨rfl,rfl⟩,by simp only [Tb];omega,?_⟩;(conv=>whnf);refine ⟨l++Zl bt ((xs.take i).map exT)++bt,pl,(.mk a1 a2 a3 a4 a5),rfl,rfl,⟨rfl,rfl⟩,⟨hmx,by omega,by omega⟩,by simp only [Tb];omega,?_⟩;exact m109
   ·obtain rfl:i=0:=by omega
    rw [Tf rfl] at htk;rw [htk] at hle;(conv=>whnf);refine ⟨l++Zl bt ((xs.take 0).map exT),pl,(.mk a1 a2 a3 a4 a5),rfl,rfl,⟨rfl,rfl⟩,⟨hmx,by omega,by omega⟩,by simp only [Si,TX,Zl,Tb,Te];omega,?_⟩;exact m103
  ·have hi2:i=xs.length:=by have hi2:¬(i:Int)<(xs.map (Yc pl)).length:=hi2;rw [hl1] at hi2;omega
   subst hi2;rw [Sk];exact m54
 ·exact h.elim
theorem ZtI {n:Nat} (h:PCalls (GG w0 nG) 30 (Zq2 n)):PCalls (GG w0 nG) 76 (Zsc n) :=
 ZyV ⟨⟨ZgI,Vm⟩,⟨Zvn ⟨⟨Zvc,ZcV⟩,⟨Zxu ⟨⟨h,UD n⟩,trivial⟩,ZnG _ _ _ _ _⟩,trivial⟩,ZpZ _ _ _ _ _ _⟩,trivial⟩
theorem cWE (hN:NumOK w0 nG) (hL:LexC w0 nG):∀n,PCalls (GG w0 nG) 30 (Zq2 n)
 | 0=>Zxx ⟨⟨Zr1,Zb6⟩,⟨ZgI,Vm⟩,⟨Z5 (Zo Tryz.func30 (by kernel_rfl) rfl),ZK UD _⟩,⟨Z5 (Zo Tryz.func76 (by kernel_rfl) rfl),ZK JV _⟩,⟨Zp2 hN,Zfg⟩,⟨Zp6 hN,Zbg⟩,⟨hL.quote,YI⟩,trivial⟩
 | n+1=>Zxx ⟨⟨Zr1,Zb6⟩,⟨ZgI,Vm⟩,⟨Z6 (sp:=Zq2) (cWE hN hL n),ZK UD _⟩,⟨Z6 (sp:=Zsc) (ZtI (cWE hN hL n)),ZK JV _⟩,⟨Zp2 hN,Zfg⟩,⟨Zp6 hN,Zbg⟩,⟨hL.quote,YI⟩,trivial⟩
noncomputable def ZgJ:Zr:=fun args σ K=>match args,σ with
 | [.ptr 0 0,.d (.int .i64 c)],⟨[.cells t [p,.sl 0 e rows]],[0],1⟩=>∃l:Bs,(rows=Zi l∧t=84∧e=5∧(p=.d .nilp∨p=.ptr 0 0)∧l.length<70368744177664) ∧
   ((c=3∨c=151→K (.ret (.tuple [.d (.str []),.d (.int .i64 3)])) ⟨[.cells t [p,.sl 0 e rows]],[0],1⟩)∧(c≠3∧c≠151→K (.ret (.tuple [.d (.str l),.d (.int .i64 0)])) ⟨[.cells t [p,.sl 0 e rows]],[0],1⟩))
 | _,_=>False
theorem Zfh:Za ZgJ:=fun args σ K K' hK h=>by
 unfold ZgJ at h ⊢
 split at h
 ·obtain ⟨l,h1,h2,h3⟩:=h;exact ⟨l,h1,fun g=>hK _ _ (h2 g),fun g=>hK _ _ (h3 g)⟩
 ·exact h.elim
noncomputable def Zvo:Tbl:=[(31,VA)]
theorem Zp7:PCalls (GG w0 nG) 32 ZgJ:=by
 refine pc (tbl:=Zvo) ⟨⟨ZcX,Ub⟩,trivial⟩ Tryz.func32 ?_;intro args σ K h
 unfold ZgJ at h
 split at h
 ·rename_i c t p e rows
  obtain ⟨l,⟨rfl,rfl,rfl,hp,hlen⟩,ha,hb⟩:=h;refine ⟨Zb [],1,true,by simp,Ta rfl,?_⟩;rcases hp with rfl | rfl
  all_goals
   conv=>whnf
   refine ZAf (fun c1=>?_) (fun c1=>?_)
   ·conv=>whnf
    exact ha (.inl c1)
   conv=>whnf
   refine ZAf (fun c2=>?_) (fun c2=>?_)
   ·conv=>whnf
    exact ha (.inr c2)
   conv=>whnf
   refine ⟨l,⟨rfl,rfl,rfl,(by first | exact .inl rfl | exact .inr rfl),hlen⟩,?_⟩;(conv=>whnf);exact hb ⟨c1,c2⟩
 ·exact h.elim
def W9 (txt:Bs) {α:Type}:Top α→Bs×Nat
 | .ok _ _=>(txt,0)
 | .err _ e=>if e=3∨e=151 then ([],3) else (txt,0)
noncomputable def Zvp (n:Nat):Zr:=fun args σ K=>match args,σ with
 | [.agg c],⟨[],[],0⟩=>∃pl e,c=(Yc pl e).map .d∧((ZQ e=true→Jv e=true∧(exT e).length<1073741824)∧wE e≤n∧n≤1073741824) ∧
   ((ZQ e=false→K (.ret (.tuple [.d (.str []),.d (.int .i64 160)])) ⟨[],[],0⟩)∧(ZQ e=true→∀x,ZX 65536 16384 (ZW 64) (exT e)=x→K (.ret (.tuple [.d (.str (W9 (exT e) x).1),.d (.int .i64 (W9 (exT e) x).2)])) ⟨[],[],0⟩))
 | _,_=>False
theorem Zp8 (n:Nat):Za (Zvp n):=fun args σ K K' hK h=>by
 unfold Zvp at h ⊢
 split at h
 ·obtain ⟨pl,e,h1,h2,h3,h4⟩:=h;exact ⟨pl,e,h1,h2,fun g=>hK _ _ (h3 g),fun g x hx=>hK _ _ (h4 g x hx)⟩
 ·exact h.elim
noncomputable def ZyW (n:Nat):Tbl:=[(29,Zfd (ZfT Yc) ZQ wE n),(30,Zq2 n),(31,VA),(14,ZgG),(32,ZgJ)]
theorem ZyX {n:Nat} (ht:TblOK (GG w0 nG) (ZyW n)):PCalls (GG w0 nG) 13 (Zvp n):=by
 refine pc ht Tryz.func13 ?_;intro args σ K h
 unfold Zvp at h
 split at h
 ·obtain ⟨pl,⟨op,tx,nn,xs,at'⟩,rfl,⟨hab,hz,hn⟩,ha,hb⟩:=h;obtain ⟨E,hE⟩:∃E,Ex.mk op tx nn xs at'=E:=⟨_,rfl⟩
  refine ⟨Zb [],0,true,by simp,Ta rfl,?_⟩;(conv=>whnf);refine ⟨pl,.mk op tx nn xs at',rfl,⟨hz,hn⟩,fun b hb1=>?_⟩
  cases b with
  | false =>
   conv=>whnf
   exact ha hb1
  | true =>
   obtain ⟨h1,h2⟩:=hab hb1;have hb:=hb hb1;(conv=>whnf);refine ⟨[],exW 0 (.mk op tx nn xs at'),rfl,⟨.inl rfl,rfl,rfl⟩,⟨pl,.mk op tx nn xs at',0,rfl,⟨by rw [Zj3,hb1,h1];rfl,hz,hn,by omega,by omega⟩,rfl⟩,by rw [VI];simp only [Te];omega,?_⟩;rw [VI];obtain ⟨T,hT⟩:∃T,exT (.mk op tx nn xs at')=T:=⟨_,rfl⟩
   rw [hT] at hb h2 ⊢;(conv=>whnf);refine ⟨T,⟨rfl,rfl,rfl,.inr rfl,by omega⟩,?_⟩;(conv=>whnf);refine ⟨by omega,fun x hx=>?_⟩;have hb:=hb x hx
   cases x with
   | ok v L =>
    obtain ⟨v1,v2,v3,v4,v5⟩:=v;unfold Zwd
    dsimp only;(conv=>whnf);refine ⟨T,⟨rfl,rfl,rfl,.inr rfl,by omega⟩,?_⟩;(conv=>whnf);refine ⟨fun g=>absurd g (by decide),fun _=>?_⟩;(conv=>whnf);exact hb
   | err p c =>
    conv=>whnf
    refine ⟨T,⟨rfl,rfl,rfl,.inr rfl,by omega⟩,?_⟩;exact m129
 ·exact h.elim
theorem cPE (hg:GlobOK w0 nG) (hN:NumOK w0 nG) (hL:LexC w0 nG) (n:Nat):PCalls (GG w0 nG) 13 (Zvp n) :=
 ZyX ⟨⟨cHE hL n,Wc _ _ _ _⟩,⟨cWE hN hL n,UD n⟩,⟨ZcX,Ub⟩,⟨ZyI hg,ZkV⟩,⟨Zp7,Zfh⟩,trivial⟩
def ZyY:Ex:=.mk 8 [] 0 [.mk 10 [] 0 [.mk 1 [97] 0 [] 0,.mk 3 [] 1 [] 0] 0] 0
theorem Zvq:ZQ ZyY=true:=by decide +kernel
theorem Zp9:exT ZyY=[45,40,97,32,43,32,49,41]:=by decide +kernel
def ZyZ {α:Type}:Top α→Bool | .ok _ _=>true | .err _ _=>false
theorem Zsd:ZyZ (ZX 65536 16384 (ZW 64) [45,40,97,32,43,32,49,41])=true:=by decide +kernel
noncomputable def Zb8:Zr:=fun args σ K=>match args,σ with
 | [],⟨[],[],0⟩=>K (.ret (.d (.bool true))) ⟨[],[],0⟩
 | _,_=>False
theorem ZhA:Za Zb8:=fun args σ K K' hK h=>by
 unfold Zb8 at h ⊢
 split at h
 ·exact hK _ _ h
 ·exact h.elim
noncomputable def ZnJ:Tbl:=[(13,Zvp 1000)]
theorem ZnK (ht:TblOK (GG w0 nG) ZnJ):PCalls (GG w0 nG) 12 Zb8:=by
 refine pc ht Tryz.func12 ?_;intro args σ K h
 unfold Zb8 at h
 split at h
 ·refine ⟨Zb [],0,false,by simp,Ta rfl,?_⟩;(conv=>whnf);refine ⟨fun _=>0,ZyY,rfl,⟨fun _=>⟨by decide +kernel,by rw [Zp9];decide⟩,by decide +kernel,by decide⟩,?_⟩;refine ⟨fun g=>(by rw [Zvq] at g;cases g),fun _ x hx=>?_⟩;have hr:=Zsd;rw [Zp9] at hx ⊢;rw [hx] at hr
  cases x with
  | ok v L =>
   rw [W9];exact m54
  | err p c=>cases hr
 ·exact h.elim
end Go.PM.Lex
end

section
namespace Go.PM.Lex
open Go.Proofs
variable {w0:World} {nG:Nat}
noncomputable def ZtJ (k:Nat):Zr:=fun args σ K=>match args,σ with
 | [.d (.int .i64 n)],⟨[],[],0⟩=>∃u:Nat,n=(u:Int)∧(u<9223372036854775808∧u<10 ^ (k+1)∧k≤20)∧K (.ret (.d (.str (X0 10 u)))) ⟨[],[],0⟩
 | _,_=>False
theorem Zfi (k:Nat):Za (ZtJ k):=fun args σ K K' hK h=>by
 unfold ZtJ at h ⊢
 split at h
 ·obtain ⟨u,h1,h2,h3⟩:=h;exact ⟨u,h1,h2,hK _ _ h3⟩
 ·exact h.elim
theorem Zse {n:Nat} (h:10≤n):X0 10 n=X0 10 (n / 10)++[Zcl (n % 10)]:=by
 have key:∀(f g m:Nat),m<f→m<g→V9 10 f m=V9 10 g m:=by
  intro f
  induction f with
  | zero=>intro g m h;omega
  | succ f ih =>
   intro g m h1 h2
   obtain ⟨g,rfl⟩:∃k,g=k+1:=⟨g - 1,by omega⟩
   rw [V9,V9];split
   ·rfl
   ·rw [ih g (m / 10) (by omega) (by omega)]
 rw [X0,V9,Tc (by omega),X0,key n (n / 10+1) (n / 10) (by omega) (by omega)]
theorem Zsf {n:Nat} (h:n<10):X0 10 n=[Zcl n]:=by rw [X0,V9,Tf h]
theorem Zvr {d:Nat} (h:d<10):(48:Int)+(d:Int)=((Zcl d).toNat:Int):=by
 rw [Zcl,Tf h,UInt8.toNat_ofNat'];omega
theorem Zmn {d:Nat} (h:d<10):([[D.int IntKind.u8 ((48:Int)+(d:Int))]]:List (List D))=[Zcl d].map fun b=>[D.int IntKind.u8 b.toNat]:=by
 rw [Zvr h];rfl
theorem Zsg {u:Nat} (h:u<9223372036854775808):(X0 10 u).length≤20:=by
 have:=Zmg (n:=(u:Int)) (by omega) (by omega);rw [ZdV,Tc (by omega),Tj] at this;exact this
noncomputable def Zy0 (k:Nat):Tbl:=[(166,spB ZtJ k)]
theorem Zxy {k:Nat} (ht:TblOK (GG w0 nG) (Zy0 k)):PCalls (GG w0 nG) 166 (ZtJ k):=by
 refine pc ht Tryz.func166 ?_;intro args σ K h
 unfold ZtJ at h
 split at h
 ·obtain ⟨u,rfl,⟨hu,hk,hk2⟩,h⟩:=h;refine ⟨Zb [],0,true,by simp,Ta rfl,?_⟩;(conv=>whnf);refine ZAf (fun hc=>?_) (fun hc=>?_)
  ·have hc:u<10:=by omega
   rw [Zsf hc] at h;(conv=>whnf);refine oiB ?_;(conv=>whnf);refine oiB ?_;(conv=>whnf);refine ⟨[Zcl u],Zmn hc,?_⟩;exact m54
  ·have e1:(u:Int).tdiv 10=((u / 10:Nat):Int):=rfl;have e2:(u:Int).tmod 10=((u % 10:Nat):Int):=rfl;rw [Zse (by omega)] at h;(conv=>whnf);refine ⟨by decide,?_⟩;rw [e1];refine oiO ?_;(conv=>whnf);refine ⟨by decide,?_⟩;rw [e2];(conv=>whnf);refine oiB ?_;(conv=>whnf);refine oiB ?_;(conv=>whnf);refine ⟨[Zcl (u % 10)],Zmn (by omega),?_⟩;(conv=>whnf);have hk0:0<k:=by
    cases k with
    | zero=>simp at hk;omega
    | succ k=>omega
   have hk1:u / 10<10 ^ (k - 1+1):=by
    rw [show k - 1+1=k by omega];rw [Nat.pow_succ] at hk;exact Nat.div_lt_of_lt_mul (by rw [Sz];exact hk)
   have hl:=Zsg (u:=u / 10) (by omega);refine ⟨hk0,u / 10,rfl,⟨by omega,hk1,by omega⟩,?_⟩;(conv=>whnf);refine ⟨show (X0 10 (u / 10)).length+1<2 ^ 62 by omega,?_⟩;exact m54
 ·exact h.elim
theorem cNb:∀k,PCalls (GG w0 nG) 166 (ZtJ k)
 | 0=>Zxy ⟨⟨Z5 (Zo Tryz.func166 (by kernel_rfl) rfl),ZK Zfi _⟩,trivial⟩
 | k+1=>Zxy ⟨⟨Z6 (sp:=ZtJ) (cNb k),ZK Zfi _⟩,trivial⟩
def Zq3 (m j U:Nat):Bs:=(List.range j).map fun k=>Zcl (U / 16 ^ (m - k) % 16)
theorem Zfj (m j U:Nat):Zq3 m (j+1) U=Zq3 m j U++[Zcl (U / 16 ^ (m - j) % 16)]:=by
 unfold Zq3;rw [List.range_succ,List.map_append];rfl
theorem Zmo:∀(m U:Nat),(m≠0→16 ^ m≤U)→U<16 ^ (m+1)→X0 16 U=Zq3 m (m+1) U
 | 0,U,_,h=>by
  have h:U<16:=by simpa using h
  rw [Zml h,Zfj];simp only [Zq3,List.range_zero,TX,Sx,Nat.sub_self,Nat.pow_zero,Nat.div_one];rw [Nat.mod_eq_of_lt h]
 | m+1,U,h1,h2=>by
  have h1:=h1 (by omega);have h16:16≤U:=TO (by rw [Nat.pow_succ];have:=Nat.pow_pos (n:=m) (show 0<16 by decide);omega) h1;rw [Nat.pow_succ] at h1 h2;have ih:=Zmo m (U / 16) (fun _=>by rw [Nat.le_div_iff_mul_le (by decide)];exact h1) (Nat.div_lt_of_lt_mul (by rw [Sz];exact h2));rw [Zmk h16,ih,Zfj (m+1) (m+1) U,Nat.sub_self,Nat.pow_zero,Nat.div_one]
  congr 1
  unfold Zq3
  refine Sq fun k hk=>?_
  have hk:=List.mem_range.1 hk;rw [Nat.div_div_eq_div_mul,show m+1 - k=(m - k)+1 by omega,Nat.pow_succ,Sz]
theorem Zy1:∀d:Fin 16,([48,49,50,51,52,53,54,55,56,57,97,98,99,100,101,102]:Bs).getD d.val 0=Zcl d.val:=by decide +kernel
theorem Zvs (U j:Nat) (hj:j≤15):(U:Int).fdiv (2 ^ (min (Int.toNat (60 - 4 * (j:Int))) (IntKind.bits .u64)))=((U / 16 ^ (15 - j):Nat):Int):=by
 rw [show (Int.toNat (60 - 4 * (j:Int)))=4 * (15 - j) by omega,show IntKind.bits .u64=64 from rfl,Nat.min_eq_left (by omega),show (16:Nat) ^ (15 - j)=2 ^ (4 * (15 - j)) by rw [Nat.pow_mul]];generalize 4 * (15 - j)=m;rw [So _ (Int.le_of_lt (Int.pow_pos (by decide)))]
 push_cast
 rfl
noncomputable def Zfk:Zr:=fun args σ K=>match args,σ with
 | [.d (.int .i64 n)],⟨[],[],0⟩=>(-9223372036854775808≤n∧n<9223372036854775808)∧K (.ret (.d (.str (ZdV n)))) ⟨[],[],0⟩
 | _,_=>False
theorem ZdA:Za Zfk:=fun args σ K K' hK h=>by
 unfold Zfk at h ⊢
 split at h
 ·exact ⟨h.1,hK _ _ h.2⟩
 ·exact h.elim
noncomputable def Zsh:Tbl:=[(166,ZtJ 20)]
theorem Zmp:PCalls (GG w0 nG) 100 Zfk:=by
 refine pc (tbl:=Zsh) ⟨⟨cNb 20,Zfi _⟩,trivial⟩ Tryz.func100 ?_;intro args σ K h
 unfold Zfk at h
 split at h
 ·rename_i n
  obtain ⟨⟨h0,h1⟩,h⟩:=h
  by_cases hn:0≤n
  ·obtain ⟨u,rfl⟩:∃u:Nat,n=u:=⟨n.toNat,by omega⟩
   rw [ZdV,Tc (by omega),Tj] at h;refine ⟨Zb [],0,true,by simp,Ta rfl,?_⟩;(conv=>whnf);refine ⟨u,rfl,⟨by omega,TD (show u<9223372036854775808 by omega) (by decide),by decide⟩,?_⟩;exact m54
  ·obtain ⟨U,hU⟩:∃U:Nat,IntKind.u64.wrap n=(U:Int):=⟨(IntKind.u64.wrap n).toNat,by have:=(ZdZ (n:=n) (by omega) h0).1;omega⟩
   have hT:=ZdZ (n:=n) (by omega) h0;rw [hU,Tj] at hT;obtain ⟨_,hU2,hT⟩:=hT;have hU3:9223372036854775808≤U:=by
    have e:IntKind.u64.wrap n=n+18446744073709551616:=by
     unfold IntKind.wrap
     simp [IntKind.signed,IntKind.bits];omega
    omega
   rw [hT,Zmo 15 U (fun _=>TO (by decide) hU3) (TD (show U<18446744073709551616 by omega) (by decide))] at h;refine ⟨Zb [(5,⟨[3,4],[0],fun vs σ=>∃j:Nat,vs=[.d (.str ([48,120]++Zq3 15 j U)),.d (.int .i64 (60 - 4 * (j:Int)))]∧σ=⟨[],[],0⟩∧j≤16,fun vs _=>match vs with | [_,.d (.int _ i)]=>(i+4).toNat | _=>0⟩)],0,true,by simp,Ta rfl,?_⟩;have hn2:¬(n≥0):=hn;(conv=>whnf);refine ZAf (fun g=>absurd g (by omega)) (fun _=>?_);(conv=>whnf);refine ⟨⟨0,rfl,rfl,by decide⟩,?_⟩;intro vs σ hI
   obtain ⟨j,rfl,rfl,hj⟩:=hI;(conv=>whnf);refine ZAf (fun hc=>?_) (fun hc=>?_)
   ·have hj2:j<16:=by omega
    conv=>whnf
    refine Or.inr ?_;rw [hU];(conv=>whnf);refine ⟨by omega,?_⟩;have e:(U:Int).fdiv (2 ^ (min (Int.toNat (60 - 4 * (j:Int))) (IntKind.bits .u64)))=((U / 16 ^ (15 - j):Nat):Int):=Zvs U j (by omega);rw [e];have hV:=Zmm (u:=U) (by omega) (15 - j);obtain ⟨V,hVV⟩:∃V,U / 16 ^ (15 - j)=V:=⟨_,rfl⟩
    rw [hVV] at hV ⊢;have ha:=Zr6 hV;(conv=>whnf);refine ⟨(show 0≤Zk .and .u64 (V:Int) 15 by rw [ha];omega),(show Zk .and .u64 (V:Int) 15<16 by rw [ha];omega),?_⟩;have hd:([48,49,50,51,52,53,54,55,56,57,97,98,99,100,101,102]:Bs).getD (Zk .and .u64 (V:Int) 15).toNat 0=Zcl (V % 16):=by
     rw [ha,Tj];exact Zy1 ⟨V % 16,Nat.mod_lt _ (by decide)⟩
    conv=>whnf
    refine ⟨[Zcl (V % 16)],(show [[D.int IntKind.u8 ((([48,49,50,51,52,53,54,55,56,57,97,98,99,100,101,102]:Bs).getD (Zk .and .u64 (V:Int) 15).toNat 0).toNat:Int)]]=_ by rw [hd];rfl),?_⟩;(conv=>whnf);have hl:(Zq3 15 j U).length=j:=by unfold Zq3;rw [Ti,List.length_range]
    refine ⟨show ([48,120]++Zq3 15 j U).length+1<2 ^ 62 by simp only [Tb,Td,Te];omega,?_⟩;(conv=>whnf);refine oiO ?_;(conv=>whnf);have e2:(60:Int) - 4 * (j:Int) - 4=60 - 4 * ((j+1:Nat):Int):=by omega
    refine ⟨⟨j+1,?_,rfl,by omega⟩,?_⟩
    ·rw [Zfj,hVV,← e2,← To]
    ·show (60 - 4 * (j:Int) - 4+4).toNat<(60 - 4 * (j:Int)+4).toNat;omega
   ·obtain rfl:j=16:=by omega
    exact m54
 ·exact h.elim
end Go.PM.Lex
end

section
namespace Go.PM.Lex
end Go.PM.Lex
end

section
namespace Go.PM.Lex
open Go.Proofs
abbrev Fit {α:Type} (sz:α→Nat) (P:Ts→R α):Prop:=∀ts v ts',P ts=.ok v ts'→sz v+4 * ts'.length≤4 * ts.length
theorem ZaN {ts:Ts} {ws:List Bs} (h:isW ts ws=true):ts.tail.length+1=ts.length:=by obtain ⟨t,l,rfl⟩:=ZtU h;rfl
theorem Zxz {ts:Ts} (h:Zn ts=true):ts.tail.length+1=ts.length:=by
 cases ts with
 | nil=>exact absurd rfl (ZbV h)
 | cons t l=>rfl
theorem Zsi (ts:Ts):ts.tail.length≤ts.length:=by rw [List.length_tail];omega
theorem Y8 {w:Bs} {ts ts':Ts} {u:Unit} (h:ZO w ts=.ok u ts'):ts'.length+1=ts.length:=by
 unfold ZO at h
 split at h
 ·rename_i hc;cases h;exact ZaN hc
 ·cases h
theorem YA {ts ts':Ts} {v:Bs} (h:Z1 ts=.ok v ts'):ts'.length+1=ts.length:=by
 unfold Z1 at h
 split at h
 ·rename_i hc;cases h;exact Zxz hc
 ·cases h
theorem XU {α:Type} {d:Nat} {fr tw:Bs} {read:Ts→R α} {ts ts':Ts} {v:α} (h:Zq d fr tw read ts=.ok v ts'):∃t1,read ts.tail=.ok v t1∧ts.tail.length+1=ts.length∧ts'.length≤t1.length:=by
 unfold Zq at h
 split at h
 ·rename_i hc
  split at h
  ·cases h
  ·obtain ⟨a,t1,h1,h2⟩:=ZAj h;split at h2
   ·cases h2;exact ⟨_,h1,ZaN hc,Tq _⟩
   ·obtain ⟨u,t2,h3,h4⟩:=ZAj h2
    cases h4
    have:=Y8 h3;exact ⟨_,h1,ZaN hc,by omega⟩
 ·cases h
theorem Wt {α:Type} (f:α→Nat) (x:α):∀l:List α,szS f (l++[x])=szS f l+(1+f x)
 | []=>by simp only [Sx,szS];omega
 | y::l=>by simp only [SB,szS,Wt f x l];omega
theorem ZgK {α:Type} {sz:α→Nat} {sign:Bs} {most:Nat} {st:Ts→Bool} {one:Ts→R α} (h1:Fit (fun x=>1+sz x) one):∀f l ts v ts',Xe sign most st one f l ts=.ok v ts'→szS sz v+4 * ts'.length≤szS sz l+4 * ts.length
 | 0,_,_,_,_,h=>by cases h
 | f+1,l,ts,v,ts',h=>by
  rw [Xe] at h;split at h
  ·cases h
  ·obtain ⟨x,t1,h2,h3⟩:=ZAj h;have k:=h1 _ _ _ h2;dsimp only at k;split at h3
   ·rename_i hc
    have k2:=ZgK h1 f _ _ _ _ h3;have k3:=ZaN hc;rw [Wt] at k2;omega
   ·cases h3
    rw [Wt];omega
theorem Zam {α:Type} {sz:α→Nat} {sign:Bs} {most:Nat} {st:Ts→Bool} {one:Ts→R α} (h1:Fit (fun x=>1+sz x) one):Fit (szS sz) (YE sign most st one):=fun ts v ts' h=>by
 have:=ZgK h1 _ _ _ _ _ h;simpa [szS] using this
theorem Zjj:Fit (fun x=>1+sz0 (α:=Fi) x) YG:=fun ts v ts' h=>by
 obtain ⟨a,t1,h1,h⟩:=ZAj h;obtain ⟨_,t2,h2,h⟩:=ZAj h;obtain ⟨b,t3,h3,h⟩:=ZAj h
 cases h
 have:=YA h1;have:=Y8 h2;have:=YA h3;simp only [sz0];omega
theorem Zqa:Fit (fun x=>1+sz0 (α:=Bs) x) Z1:=fun ts v ts' h=>by
 have:=YA h;simp only [sz0];omega
theorem ZcY (fin:Bs):Fit (szS sz0) (Yn fin):=fun ts v ts' h=>by
 unfold Yn at h
 split at h
 ·cases h;simp [szS]
 ·exact Zam Zjj _ _ _ h
theorem Zfl:Fit (szS sz0) Y2:=fun ts v ts' h=>by
 unfold Y2 at h
 split at h
 ·rename_i hc
  obtain ⟨a,t1,h1,h⟩:=ZAj h;obtain ⟨_,t2,h2,h⟩:=ZAj h
  cases h
  have:=Zam Zqa _ _ _ h1;have:=Y8 h2;have:=ZaN hc;omega
 ·cases h;simp [szS]
theorem Zmq:Fit (fun x=>1+ZyJ x) Wv:=fun ts v ts' h=>by
 obtain ⟨a,t1,h1,h⟩:=ZAj h;obtain ⟨_,t2,h2,h⟩:=ZAj h;obtain ⟨b,t3,h3,h⟩:=ZAj h;obtain ⟨_,t4,h4,h⟩:=ZAj h
 cases h
 have:=YA h1;have:=Y8 h2;have:=ZcY _ _ _ _ h3;have:=Y8 h4;simp only [ZyJ];omega
theorem Zfm:Fit (fun x=>1+Zwe x) Jw:=fun ts v ts' h=>by
 obtain ⟨a,t1,h1,h⟩:=ZAj h;have:=YA h1;split at h
 ·rename_i hc
  obtain ⟨b,t3,h3,h⟩:=ZAj h
  cases h
  have:=YA h3;have:=ZaN hc;simp only [Zwe,szS];omega
 ·obtain ⟨_,t2,h2,h⟩:=ZAj h;have:=Y8 h2;split at h
  ·rename_i hc
   obtain ⟨b,t3,h3,h⟩:=ZAj h;obtain ⟨_,t4,h4,h⟩:=ZAj h
   cases h
   have:=ZcY _ _ _ _ h3;have:=Y8 h4;have:=ZaN hc;simp only [Zwe,szS];omega
  ·obtain ⟨b,t3,h3,h⟩:=ZAj h
   cases h
   have:=Zam Zmq _ _ _ h3;simp only [Zwe,szS];omega
theorem Zb9:∀(f:Nat) (i o n:Bool) (ts:Ts),(YO f i o n ts).2.length≤ts.length
 | 0,i,o,n,ts=>Tq _
 | f+1,i,o,n,ts=>by
  rw [YO];have:=Zsi ts;split
  ·exact TO (Zb9 f _ _ _ _) this
  ·split
   ·exact TO (Zb9 f _ _ _ _) this
   ·split
    ·exact TO (Zb9 f _ _ _ _) this
    ·exact Tq _
theorem ZhB:Fit (fun x=>1+Zx6 x) Zd6:=fun ts v ts' h=>by
 obtain ⟨a,t1,h1,h⟩:=ZAj h;obtain ⟨_,t2,h2,h⟩:=ZAj h;obtain ⟨b,t3,h3,h⟩:=ZAj h;obtain ⟨_,t4,h4,h⟩:=ZAj h;have:=YA h1;have:=Y8 h2;have:=ZcY _ _ _ _ h3;have:=Y8 h4;have:=Zb9 4 false false false t4
 cases h
 simp only [Zx6];omega
abbrev Zjk (P:Ts→R Ex):Prop:=Fit (fun v=>szE v+2) P
theorem Zvt {P:Ts→R Ex} (h:Zjk P):Fit (fun v=>1+szE v) P:=fun ts v ts' e=>by have:=h _ _ _ e;dsimp only at this ⊢;omega
theorem Zd0 {d:Nat} {ex:Ts→R Ex} (h:Zjk ex) (fr tw:Bs) {ts ts':Ts} {v:List Ex} (e:XY d ex fr tw ts=.ok v ts'):szS szE v+4+4 * ts'.length≤4 * ts.length:=by
 unfold XY at e
 obtain ⟨t1,h1,h2,h3⟩:=XU e;split at h1
 ·cases h1;simp only [szS];omega
 ·have:=Zam (Zvt h) _ _ _ h1;omega
theorem ZgL {ex:Ts→R Ex} (h:Zjk ex):∀k l ts v ts',X2 ex k l ts=.ok v ts'→szS szE v+4 * ts'.length≤szS szE l+4 * ts.length
 | 0,l,ts,v,ts',e=>by cases e;exact Tq _
 | k+1,l,ts,v,ts',e=>by
  obtain ⟨_,t1,h1,e⟩:=ZAj e;obtain ⟨x,t2,h2,e⟩:=ZAj e;have k2:=ZgL h k _ _ _ _ e;have k1:=h _ _ _ h2;dsimp only at k1;rw [Wt] at k2;have:t1.length≤ts.length:=by
   split at h1
   ·cases h1;exact Tq _
   ·have:=Y8 h1;omega
  omega
theorem ZnL {ts:Ts} (h:¬Zx ts=false):ts.tail.length+1=ts.length:=by
 cases ts with
 | nil=>exact absurd rfl h
 | cons t l=>rfl
theorem Js (o:Nat) (t:Bs) (n:Int) (l:List Ex) (a:Nat):szE (.mk o t n l a)=1+szS szE l:=by rw [szE,Zfb]
theorem Zk1 {d:Nat} {ex:Ts→R Ex} (h:Zjk ex):Zjk (Yr d ex):=fun ts v ts' e=>by
 unfold Yr at e
 split at e
 ·cases e
 rename_i hs
 have hl:=ZnL hs;split at e
 ·exact m169
 split at e
 ·exact m169
 split at e
 ·obtain ⟨t1,h1,h2,h3⟩:=XU e;have:=h _ _ _ h1;dsimp only at this ⊢;omega
 split at e
 ·obtain ⟨l,t1,h1,e⟩:=ZAj e
  cases e
  have:=Zd0 h _ _ h1;simp only [Js];omega
 split at e
 ·obtain ⟨l,t1,h1,e⟩:=ZAj e;have:=YA h1;split at e
  ·obtain ⟨l,t2,h2,e⟩:=ZAj e
   cases e
   have:=Zd0 h _ _ h2;simp only [Js];omega
  ·exact m169
 split at e
 ·obtain ⟨l,t1,h1,e⟩:=ZAj e;obtain ⟨t2,h2,h3,h4⟩:=XU h1
  cases e
  have:=ZgL h _ _ _ _ _ h2;simp only [Js,szS] at *;omega
 split at e
 ·exact m169
 split at e
 ·exact m169
 ·exact m169
theorem Zvu {ts:Ts} (h:¬(Wu ts).1=0):ts.tail.length+1=ts.length:=by
 obtain ⟨t,l,rfl⟩:=ZtV h;rfl
theorem ZgM {sub:Nat→Ts→R Ex} (h:∀n,Zjk (sub n)) (least:Nat):∀f e ts v ts',Vb sub least f e ts=.ok v ts'→szE v+4 * ts'.length≤szE e+4 * ts.length
 | 0,_,_,_,_,k=>by cases k
 | f+1,e,ts,v,ts',k=>by
  rw [Vb] at k;split at k
  ·cases k;exact Tq _
  ·rename_i hc
   obtain ⟨g,t1,h1,k⟩:=ZAj k;have k1:=h _ _ _ _ h1;have k2:=ZgM h least f _ _ _ _ k;have k3:=Zvu (fun e=>hc (.inr e));simp only [Js,szS] at k2;dsimp only at k1;omega
theorem JW {sg:Ts→R Ex} (h:Zjk sg):∀k least,Zjk (Vc sg k least)
 | 0,least=>h
 | k+1,least=>fun ts v ts' e=>by
  obtain ⟨a,t1,h1,e⟩:=ZAj e;have k1:=h _ _ _ h1;have k2:=ZgM (fun n=>JW h k n) _ _ _ _ _ _ e;dsimp only at k1 ⊢;omega
theorem Zfn {d:Nat} {sg:Ts→R Ex} (h:Zjk sg):Zjk (V4 d sg):=fun ts v ts' e=>by
 unfold V4 at e
 split at e
 ·exact m150
 split at e
 ·exact m150
 ·exact Zk1 (JW h 6 1) _ _ _ e
theorem UE:∀d,Zjk (Zp d)
 | 0=>Zfn fun _ _ _ e=>by cases e
 | d+1=>Zfn (UE d)
theorem Zd1 (d:Nat):Zjk (ZW d):=JW (UE d) 6 1
theorem Zjl:∀d,Zjk (Yi d)
 | 0=>fun _ _ _ e=>by cases e
 | d+1=>Zd1 d
theorem Zk2 {ts:Ts}:∀(ws:List Bs) (i j:Nat),UL ts i ws=some j→ts.tail.length+1=ts.length
 | [],i,j,h=>by cases h
 | w::ws,i,j,h=>by
  rw [UL] at h;split at h
  ·rename_i hc;exact ZaN hc
  ·exact Zk2 ws _ _ h
theorem Zqb {ts ts':Ts} {op:Nat} (h:Zbq ts=.ok op ts'):ts'.length+1≤ts.length:=by
 unfold Zbq at h
 split at h
 ·cases h
 ·rename_i h1
  have:=Zk2 _ _ _ h1;split at h
  ·cases h
   have:=Zsi ts.tail;omega
  ·cases h;omega
 ·rename_i h1
  have:=Zk2 _ _ _ h1
  cases h;omega
theorem Zqc (o:Nat) (t:Bs) (l:List Ex) (b:List Li) (a:Nat):szL (.mk o t l b a)=1+szS szE l+szS szL b:=by rw [szL,Zbf]
theorem Zfo {d op a:Nat} {ts ts':Ts} {v:Li} (h:Jx d op a ts=.ok v ts'):1+szL v+4 * ts'.length≤4 * ts.length:=by
 obtain ⟨nm,t1,h1,h⟩:=ZAj h;obtain ⟨l,t2,h2,h⟩:=ZAj h
 cases h
 have:=YA h1;have:=Zd0 (Zjl d) _ _ h2;simp only [Zqc,szS];omega
theorem ZgN {d:Nat} {bd:Ts→R (List Li)} (hb:Fit (szS szL) bd) {a op:Nat} {l:List Ex} {ts ts':Ts} {v:Li} (h:XC d bd a op l ts=.ok v ts'):szL v+4 * ts'.length≤1+szS szE l+4 * ts.length:=by
 unfold XC at h
 split at h
 ·obtain ⟨_,t1,h1,h⟩:=ZAj h;obtain ⟨b,t2,h2,h⟩:=ZAj h;obtain ⟨t3,h3,h4,h5⟩:=XU h2
  cases h
  have:=Y8 h1;have:=hb _ _ _ h3;simp only [Zqc];omega
 ·cases h;simp only [Zqc,szS];omega
theorem Zk3 {d:Nat} {bd:Ts→R (List Li)} (hb:Fit (szS szL) bd):Fit (fun v=>1+szL v) (Zbr d bd):=fun ts v ts' h=>by
 unfold Zbr at h
 split at h
 ·rename_i hc
  have:=ZaN hc;have:=Zfo h;dsimp only;omega
 split at h
 ·exact Zfo h
 ·obtain ⟨e,t1,h1,h⟩:=ZAj h;obtain ⟨op,t2,h2,h⟩:=ZAj h;have k1:=Zd1 _ _ _ _ h1;have k2:=Zqb h2;split at h
  ·have k3:=ZgN hb h;simp only [szS] at k3 ⊢;dsimp only at k1;omega
  ·obtain ⟨g,t3,h3,h⟩:=ZAj h;have k3:=Zd1 _ _ _ _ h3;have k4:=ZgN hb h;simp only [szS] at k4 ⊢;dsimp only at k1 k3;omega
theorem ZhC:∀d,Fit (szS szL) (Ue d)
 | 0=>Zam (Zk3 fun _ _ _ e=>by cases e)
 | d+1=>Zam (Zk3 (ZhC d))
theorem ZhD (d:Nat) (b:Bool):Fit (fun v=>1+Zj2 v) (Zd7 d b):=fun ts v ts' h=>by
 obtain ⟨nm,t1,h1,h⟩:=ZAj h;obtain ⟨l,t2,h2,h⟩:=ZAj h;have:=YA h1;have:=Zd0 (Zjl d) _ _ h2;split at h
 ·obtain ⟨b,t3,h3,h⟩:=ZAj h;obtain ⟨_,t4,h4,h⟩:=ZAj h
  cases h
  have:=ZhC _ _ _ _ h3;have:=Y8 h4;have:=Zsi t2;simp only [Zj2];omega
 ·obtain ⟨_,t4,h4,h⟩:=ZAj h
  cases h
  have:=Y8 h4;simp only [Zj2,szS];omega
theorem Zqd (n:Bs) (p:List Bs) (b:Bs) (t:List Bs) (u:Un) (a:Nat):Zwf (.mk n p b t u a)=1+szS sz0 p+szS sz0 t+ZtB u:=by rw [Zwf]
theorem Zbh (a1 a2 a3 a4 a5 a6):ZtB (.mk a1 a2 a3 a4 a5 a6)=1+szS Zwe a1+szS Zx6 a2+szS Zj2 a3+szS Zwf a4+szS Zx7 a5+szS sz0 a6:=by rw [ZtB,Zb5]
abbrev Zx9 (P:Ts→R Un):Prop:=∀ts v ts',P ts=.ok v ts'→ZtB v+4 * ts'.length≤1+4 * ts.length
theorem ZhE {d:Nat} {un:Ts→R Un} (hu:Zx9 un):Fit (fun v=>1+Zwf v) (Zd8 d un):=fun ts v ts' h=>by
 obtain ⟨nm,t1,h1,h⟩:=ZAj h;obtain ⟨ps,t2,h2,h⟩:=ZAj h;have:=YA h1;have:=Zfl _ _ _ h2;split at h
 ·rename_i hc
  obtain ⟨b,t3,h3,h⟩:=ZAj h;obtain ⟨tys,t4,h4,h⟩:=ZAj h;obtain ⟨u,t5,h5,h⟩:=ZAj h;obtain ⟨t6,h6,h7,h8⟩:=XU h5
  cases h
  have:=YA h3;have:=Zfl _ _ _ h4;have:=hu _ _ _ h6;have:=ZaN hc;simp only [Zqd];omega
 ·obtain ⟨u,t5,h5,h⟩:=ZAj h;obtain ⟨t6,h6,h7,h8⟩:=XU h5
  cases h
  have:=hu _ _ _ h6;simp only [Zqd,szS];omega
theorem ZhF:Fit (fun v=>1+Zx7 v) Zd9:=fun ts v ts' h=>by
 obtain ⟨nm,t1,h1,h⟩:=ZAj h;obtain ⟨_,t2,h2,h⟩:=ZAj h;obtain ⟨c,t3,h3,h⟩:=ZAj h;obtain ⟨tys,t4,h4,h⟩:=ZAj h
 cases h
 have:=YA h1;have:=Y8 h2;have:=YA h3;have:=Zfl _ _ _ h4;simp only [Zx7];omega
theorem ZhG:Fit (fun v=>1+sz0 (α:=Ov) v) ZfF:=fun ts v ts' h=>by
 obtain ⟨nm,t1,h1,h⟩:=ZAj h
 cases h
 have:=YA h1;simp only [sz0];omega
theorem XV {b:Bool} {d:Nat} {un:Ts→R Un} (hu:Zx9 un):∀f u ts v ts',X3 b d un f u ts=.ok v ts'→ZtB v+4 * ts'.length≤ZtB u+4 * ts.length
 | 0,u,ts,v,ts',h=>by obtain ⟨a1,a2,a3,a4,a5,a6⟩:=u;cases h
 | f+1,.mk tys rels rules comps inits overs,ts,v,ts',h=>by
  rw [JU] at h;split at h
  ·cases h;exact Tq _
  have ht:=Zsi ts;split at h
  ·split at h
   ·cases h
   ·obtain ⟨x,t1,h1,h⟩:=ZAj h;have k1:=Zfm _ _ _ h1;have k2:=XV hu f _ _ _ _ h;exact m92
  split at h
  ·split at h
   ·cases h
   ·obtain ⟨x,t1,h1,h⟩:=ZAj h;have k1:=ZhB _ _ _ h1;have k2:=XV hu f _ _ _ _ h;exact m92
  split at h
  ·split at h
   ·cases h
   ·obtain ⟨x,t1,h1,h⟩:=ZAj h;have k1:=ZhE hu _ _ _ h1;have k2:=XV hu f _ _ _ _ h;exact m92
  split at h
  ·split at h
   ·cases h
   ·obtain ⟨x,t1,h1,h⟩:=ZAj h;have k1:=ZhF _ _ _ h1;have k2:=XV hu f _ _ _ _ h;exact m92
  split at h
  ·split at h
   ·cases h
   ·obtain ⟨x,t1,h1,h⟩:=ZAj h;have k1:=ZhG _ _ _ h1;have k2:=XV hu f _ _ _ _ h;exact m92
  split at h
  ·split at h
   ·cases h
   ·obtain ⟨x,t1,h1,h⟩:=ZAj h;have k1:=ZhD _ _ _ _ _ h1;have k2:=XV hu f _ _ _ _ h;exact m92
  ·cases h
theorem Zmr:ZtB .nil=1:=by rw [Un.nil,Zbh];rfl
theorem Zjm:∀d,Zx9 (ZmN d)
 | 0=>fun ts v ts' h=>by have:=XV (b:=true) (d:=0) (un:=fun _=>.err 0 150) (fun _ _ _ e=>by cases e) _ _ _ _ _ h;rw [Zmr] at this;exact this
 | d+1=>fun ts v ts' h=>by have:=XV (Zjm d) _ _ _ _ _ h;rw [Zmr] at this;exact this
end Go.PM.Lex
end

section
namespace Go.PM.Lex
def kl (e:Ex):Nat:=(exK e).length
theorem Zms (w:Nat) (e:Ex):(Zuv w e).length=kl e+if Zy (opE e)<w then 2 else 0:=by
 unfold Zuv ZwG kl
 dsimp only;split <;> simp
theorem Zvv {w v:Nat} (h:w≤v) (e:Ex):(Zuv w e).length≤(Zuv v e).length:=by
 rw [Zms,Zms];split <;> split <;> omega
abbrev Mn (w:Nat) (P:Ts→R Ex):Prop:=∀ts v r,P ts=.ok v r→(Zuv w v).length+r.length≤ts.length
theorem Mn.mono {w v:Nat} (h:w≤v) {P:Ts→R Ex} (hp:Mn v P):Mn w P:=fun ts x r e=>TO (Nat.add_le_add_right (Zvv h x) _) (hp ts x r e)
end Go.PM.Lex
end

section
namespace Go.PM.Lex
open Go.Proofs
variable {w0:World} {nG:Nat}
noncomputable def Zq4 (n:Nat):Zr:=fun args σ K=>match args,σ with
 | [.agg c],⟨[],[],0⟩=>∃pl e,c=(Yc pl e).map .d∧((ZQ e=true∧Jv e=true)∧wE e≤n∧n≤16777216)∧∀t,exT e=t→K (.ret (.d (.str t))) ⟨[],[],0⟩
 | _,_=>False
theorem UF (n:Nat):Za (Zq4 n):=fun args σ K K' hK h=>by
 unfold Zq4 at h ⊢
 exact m46
noncomputable def Zsj (n:Nat):Zr:=fun args σ K=>match args,σ with
 | [.d (.sl r)],⟨[],[],0⟩=>∃pl l,r=ZM pl l∧((∀x∈l,ZQ x=true∧Jv x=true)∧szS wE l≤n∧n≤16777216)∧∀t,Zl cmm (l.map exT)=t→K (.ret (.d (.str t))) ⟨[],[],0⟩
 | _,_=>False
theorem JX (n:Nat):Za (Zsj n):=fun args σ K K' hK h=>by
 unfold Zsj at h ⊢
 exact m46
noncomputable def Zvw (n:Nat):Zr:=fun args σ K=>match args,σ with
 | [.agg c,.d (.int .i64 w)],⟨[],[],0⟩=>∃pl e,∃want:Nat,c=(Yc pl e).map .d∧w=(want:Int)∧((ZQ e=true∧Jv e=true)∧wE e≤n∧n≤16777216)∧∀t,exW want e=t→K (.ret (.d (.str t))) ⟨[],[],0⟩
 | _,_=>False
theorem Zjn (n:Nat):Za (Zvw n):=fun args σ K K' hK h=>by
 unfold Zvw at h ⊢
 split at h
 ·obtain ⟨pl,e,w,h1,h2,h3,h4⟩:=h;exact ⟨pl,e,w,h1,h2,h3,fun t g=>hK _ _ (h4 t g)⟩
 ·exact h.elim
theorem ZhH {α:Type} (f:α→Nat):∀(l:List α) (i:Nat),szS f (l.take i)≤szS f l
 | [],i=>by simp [szS]
 | x::l,0=>by simp [szS]
 | x::l,i+1=>by have:=ZhH f l i;simp only [List.take_succ_cons,szS];omega
noncomputable def Zy2 (n:Nat):Tbl:=[(57,Zq4 n)]
theorem Zqe {n:Nat} (ht:TblOK (GG w0 nG) (Zy2 n)):PCalls (GG w0 nG) 101 (Zsj n):=by
 refine pc ht Tryz.func101 ?_;intro args σ K h
 unfold Zsj at h
 split at h
 ·obtain ⟨pl,l,rfl,⟨hm,hz,hn⟩,h⟩:=h;have hlen:(ZM pl l).length=l.length:=by rw [Zg,Ti]
  have hsz:=Wn wE l;refine ⟨Zb [(3,⟨[3,4],[0],fun vs σ=>∃i:Nat,vs=[.d (.str (Zl cmm ((l.take i).map exT))),.d (.int .i64 i)]∧σ=⟨[],[],0⟩∧i≤l.length,fun vs _=>match vs with | [_,.d (.int _ i)]=>((l.length:Int) - i).toNat | _=>0⟩)],0,true,by simp,Ta rfl,?_⟩;(conv=>whnf);refine ⟨⟨0,(by simp only [Si,TX,Zl];rfl),rfl,by omega⟩,?_⟩;intro vs σ hI
  obtain ⟨i,rfl,rfl,hi⟩:=hI;(conv=>whnf);refine ZAf (fun hi2=>?_) (fun hi2=>?_)
  ·have hi2:i<l.length:=by have hi2:(i:Int)<(ZM pl l).length:=hi2;rw [hlen] at hi2;omega
   have hg:=Wo wE l i hi2;have hmx:=hm _ (TP hi2);have htk:=Jd cmm exT hi2;have hle:=ZH (T:=exT) (w:=wE) (l:=l.take i) fun x hx=>Z7 x (hm x (List.mem_of_mem_take hx)).2
   have hxl:=Z7 _ hmx.2;have hsi:szS wE (l.take i)≤szS wE l:=ZhH wE l i;obtain ⟨S,hS⟩:∃S,Zl cmm ((l.take i).map exT)=S:=⟨_,rfl⟩
   rw [hS] at hle htk ⊢;obtain ⟨eA,hA⟩:∃x,l[i]=x:=⟨_,rfl⟩
   obtain ⟨a1,a2,a3,a4,a5⟩:=eA;rw [hA] at hg hmx htk hxl;obtain ⟨X,hX⟩:∃X,exT (.mk a1 a2 a3 a4 a5)=X:=⟨_,rfl⟩
   rw [hX] at htk hxl;have hr1:(ZM pl l)[((i:Nat):Int).toNat]?=some (Yc pl (.mk a1 a2 a3 a4 a5)):=by rw [Zg];simp [hi2,hA]
   exact m24
  ·have hi2:i=l.length:=by have hi2:¬(i:Int)<(ZM pl l).length:=hi2;rw [hlen] at hi2;omega
   subst hi2;rw [Sk];exact m238
 ·exact h.elim
noncomputable def Zy3 (n:Nat):Tbl:=[(97,Jr fun op=>.int .i64 (ZaJ op:Nat)),(57,Zq4 n)]
theorem Zvx {n:Nat} (ht:TblOK (GG w0 nG) (Zy3 n)):PCalls (GG w0 nG) 98 (Zvw n):=by
 refine pc ht Tryz.func98 ?_;intro args σ K h
 unfold Zvw at h
 split at h
 ·obtain ⟨pl,⟨op,tx,nn,xs,at'⟩,want,rfl,rfl,⟨hm,hz,hn⟩,h⟩:=h;have hop:ZaJ op=Zy op:=Zgx (Zpf hm.1).1;have hl:=Z7 _ hm.2;have h:=h _ rfl;obtain ⟨X,hX⟩:∃X,exT (.mk op tx nn xs at')=X:=⟨_,rfl⟩
  rw [hX] at hl;have hw1:Zy op<want→exW want (.mk op tx nn xs at')=[40]++(X++[41]):=fun g=>by rw [exW,hX,Zn8];exact Tf g
  have hw2:¬Zy op<want→exW want (.mk op tx nn xs at')=X:=fun g=>by rw [exW,hX,Zn8];exact Tc g
  refine ⟨Zb [],0,true,by simp,Ta rfl,?_⟩;(conv=>whnf);refine ⟨op,rfl,fun d hd=>?_⟩;have hd:D.int .i64 (ZaJ op:Nat)=d:=hd;obtain ⟨lf,hlf⟩:∃lf,Zy op=lf:=⟨_,rfl⟩
  rw [hop,hlf] at hd;rw [hlf] at hw1 hw2;subst hd;(conv=>whnf);refine ZAf (fun hc=>?_) (fun hc=>?_)
  ·rw [hw1 (by omega)] at h;(conv=>whnf);refine ⟨pl,.mk op tx nn xs at',rfl,⟨hm,hz,hn⟩,fun t ht=>?_⟩;obtain rfl:t=X:=ht.symm.trans hX;(conv=>whnf);refine ⟨show 1+t.length<2 ^ 62 by omega,?_⟩;(conv=>whnf);refine ⟨show ([40]++t).length+1<2 ^ 62 by rw [Tb];simp only [Td,Te];omega,?_⟩;rw [← To] at h;exact m54
  ·rw [hw2 (by omega)] at h;(conv=>whnf);refine ⟨pl,.mk op tx nn xs at',rfl,⟨hm,hz,hn⟩,fun t ht=>?_⟩;obtain rfl:t=X:=ht.symm.trans hX;exact m54
 ·exact h.elim
theorem ZtK (o:Nat) (t:Bs) (n:Int) (l:List Ex) (a:Nat):wE (.mk o t n l a)=1+t.length+szS wE l:=by rw [wE,Zfc]
theorem Zvy (w:Nat) (e:Ex):(exW w e).length≤(exT e).length+2:=by
 unfold exW Zn8
 split <;> simp
theorem Zd2 {w:Nat} (e:Ex) (h:Jv e=true):(exW w e).length≤64 * wE e:=by
 have:=Zvy w e;have:=Z7 e h;omega
noncomputable def Zy4 (n:Nat):Tbl:=[(97,Jr fun op=>.int .i64 (ZaJ op:Nat)),(99,Jr fun op=>.str (Ya op)),(98,spB Zvw n),(101,spB Zsj n),(100,Zfk),(95,Vw)]
theorem Zqf {n:Nat} (ht:TblOK (GG w0 nG) (Zy4 n)):PCalls (GG w0 nG) 57 (Zq4 n):=by
 refine pc ht Tryz.func57 ?_;intro args σ K h
 unfold Zq4 at h
 split at h
 ·obtain ⟨pl,⟨op,tx,nn,xs,at'⟩,rfl,⟨⟨hm,hr⟩,hz,hn⟩,h⟩:=h;obtain ⟨m1,m2,m3,m4,m5⟩:=Zpf hm;obtain ⟨hr1,hr2⟩:=ZcJ hr;have hl:=Z7 _ hr;rw [ZtK] at hz;refine ⟨Zb [],0,true,by simp,Ta rfl,?_⟩
  by_cases c1:Zy op<5
  ·obtain ⟨f1,f2,f3,f4,f5⟩:=ZrG m1;obtain ⟨x,y,rfl⟩:=ZiO (l:=xs) (by have:=f1 c1;omega);have hwl:=Y7 op;obtain ⟨hmx,hrx⟩:ZQ x=true∧Jv x=true:=⟨m5 x (by simp),hr2 x (by simp)⟩
   obtain ⟨hmy,hry⟩:ZQ y=true∧Jv y=true:=⟨m5 y (by simp),hr2 y (by simp)⟩
   simp only [szS] at hz;have hlx:=Zd2 (w:=Zy op) x hrx;have hly:=Zd2 (w:=Zy op+1) y hry;have hT:exT (.mk op tx nn [x,y] at')=exW (Zy op) x++(([32]++(Ya op++[32]))++exW (Zy op+1) y):=by
    rw [exT,exN,Tf c1];rfl
   have h:=h _ hT;have hop:=Zgx m1;obtain ⟨lf,hlf⟩:∃lf,Zy op=lf:=⟨_,rfl⟩
   obtain ⟨W,hW⟩:∃W,Ya op=W:=⟨_,rfl⟩
   rw [hlf] at c1 hlx hly h hop;rw [hW] at h hwl;obtain ⟨x1,x2,x3,x4,x5⟩:=x;obtain ⟨y1,y2,y3,y4,y5⟩:=y;(conv=>whnf);refine ⟨op,rfl,fun d hd=>?_⟩;have hd:D.int .i64 (ZaJ op:Nat)=d:=hd;rw [hop] at hd;subst hd;(conv=>whnf);refine ZAf (fun _=>?_) (fun g=>absurd (show (lf:Int)<5 by omega) g);(conv=>whnf);refine ⟨_,by decide,rfl,?_⟩;(conv=>whnf);refine ⟨_,by decide,rfl,?_⟩;(conv=>whnf);refine oiO ?_;(conv=>whnf);refine ⟨by omega,pl,.mk x1 x2 x3 x4 x5,lf,rfl,rfl,⟨⟨hmx,hrx⟩,by omega,by omega⟩,fun t1 ht1=>?_⟩;rw [ht1] at h hlx;(conv=>whnf)
   (repeat (refine ⟨rfl,?_⟩;conv=>whnf))
   refine ⟨show t1.length+1<2 ^ 62 by omega,?_⟩;(conv=>whnf);refine ⟨op,rfl,fun d hd=>?_⟩;have hd:D.str (Ya op)=d:=hd;rw [hW] at hd;subst hd;(conv=>whnf)
   (repeat (refine ⟨rfl,?_⟩;conv=>whnf))
   refine ⟨show (t1++[32]).length+W.length<2 ^ 62 by rw [Tb];simp only [Td,Te];omega,?_⟩;(conv=>whnf);refine ⟨show ((t1++[32])++W).length+1<2 ^ 62 by rw [Tb,Tb];simp only [Td,Te];omega,?_⟩;(conv=>whnf);refine ⟨by omega,pl,.mk y1 y2 y3 y4 y5,lf+1,rfl,rfl,⟨⟨hmy,hry⟩,by omega,by omega⟩,fun t2 ht2=>?_⟩;rw [ht2] at h hly;have key:t1++(([32]++(W++[32]))++t2)=(((t1++[32])++W)++[32])++t2:=by simp only [To]
   rw [key] at h;(conv=>whnf)
   (repeat (refine ⟨rfl,?_⟩;conv=>whnf))
   refine ⟨show (((t1++[32])++W)++[32]).length+t2.length<2 ^ 62 by simp only [Tb,Td,Te];omega,?_⟩;exact m54
  rcases ZdW op with rfl | rfl | rfl | rfl | rfl | rfl | rfl | rfl | rfl | rfl | rfl | rfl | rfl | rfl | rfl | rfl | rfl | rfl | rfl | rfl | rfl | rfl | rfl | rfl | rfl | rfl | ho
  ·exact absurd m1 (by decide)
  ·exact m118
  ·exact m118
  ·conv=>whnf
   refine ⟨_,rfl,fun d hd=>?_⟩;subst hd;(conv=>whnf);refine ⟨hr1,?_⟩;(conv=>whnf);exact h _ (by rw [exT];rfl)
  ·have hq:(WP tx).isSome=true:=by unfold Z3 at m4;rw [Tc (by decide),Tf rfl] at m4;exact m4
   obtain ⟨q,hq⟩:=Option.isSome_iff_exists.1 hq;have hT:exT (.mk 4 tx nn xs at')=q:=by
    rw [exT];show ZrE tx=q;rw [ZrE,hq];rfl
   conv=>whnf
   refine ⟨_,rfl,fun d hd=>?_⟩;subst hd;(conv=>whnf);refine ⟨by omega,fun g=>absurd (hq.symm.trans g) (by simp),fun q' hq'=>?_⟩;obtain rfl:q'=q:=Option.some.inj (hq'.symm.trans hq);(conv=>whnf);exact h _ hT
  ·exact m118
  ·conv=>whnf
   refine ⟨_,rfl,fun d hd=>?_⟩;subst hd;(conv=>whnf);refine ⟨by omega,pl,xs,rfl,⟨fun x hx=>⟨m5 x hx,hr2 x hx⟩,by omega,by omega⟩,fun t ht=>?_⟩;have hcl:t.length≤64 * szS wE xs:=by rw [← ht];exact ZH fun x hx=>Z7 x (hr2 x hx)
   conv=>whnf
   refine ⟨show 1+t.length<2 ^ 62 by omega,?_⟩;(conv=>whnf);refine ⟨show ([91]++t).length+1<2 ^ 62 by rw [Tb];simp only [Td,Te];omega,?_⟩;(conv=>whnf);exact h _ (by rw [exT];show [91]++(Zl cmm ((ZfM xs).map Prod.snd)++[93])=_;rw [Y5,ZiK,ht,← To])
  ·conv=>whnf
   refine ⟨_,rfl,fun d hd=>?_⟩;subst hd;(conv=>whnf);have hxl:(ZM pl xs).length=xs.length:=by rw [Zg,Ti]
   refine ZAf (fun hc=>?_) (fun hc=>?_)
   ·have hc:xs.length=0:=by have hc:((ZM pl xs).length:Int)=0:=hc;rw [hxl] at hc;omega
    conv=>whnf
    refine ⟨show 1+tx.length<2 ^ 62 by omega,?_⟩;(conv=>whnf);exact h _ (by rw [exT];show [36]++(tx++(if (ZfM xs).length=0 then [] else _))=_;rw [Zai,Tf hc,T2])
   ·have hc:¬xs.length=0:=by have hc:¬((ZM pl xs).length:Int)=0:=hc;rw [hxl] at hc;omega
    conv=>whnf
    refine ⟨show 1+tx.length<2 ^ 62 by omega,?_⟩;(conv=>whnf);refine ⟨show ([36]++tx).length+1<2 ^ 62 by rw [Tb];simp only [Td,Te];omega,?_⟩;(conv=>whnf);refine ⟨by omega,pl,xs,rfl,⟨fun x hx=>⟨m5 x hx,hr2 x hx⟩,by omega,by omega⟩,fun t ht=>?_⟩;have hcl:t.length≤64 * szS wE xs:=by rw [← ht];exact ZH fun x hx=>Z7 x (hr2 x hx)
    conv=>whnf
    (repeat (refine ⟨rfl,?_⟩;conv=>whnf))
    refine ⟨show (([36]++tx)++[40]).length+t.length<2 ^ 62 by simp only [Tb,Td,Te];omega,?_⟩;(conv=>whnf);refine ⟨show ((([36]++tx)++[40])++t).length+1<2 ^ 62 by simp only [Tb,Td,Te];omega,?_⟩;(conv=>whnf);exact h _ (by rw [exT];show [36]++(tx++(if (ZfM xs).length=0 then [] else ([40]++(Zl cmm ((ZfM xs).map Prod.snd)++[41]))))=_;rw [Zai,Tc hc,Y5,ZiK,ht];simp only [To])
  ·obtain ⟨x,rfl⟩:=ZlL (l:=xs) (by have e:Yj 8=1:=(by decide);omega);exact m36
  ·obtain ⟨x,rfl⟩:=ZlL (l:=xs) (by have e:Yj 9=1:=(by decide);omega);exact m36
  ·exact m162
  ·exact m162
  ·exact m162
  ·exact m162
  ·exact m162
  ·exact m162
  ·exact m162
  ·exact m162
  ·exact m162
  ·exact m162
  ·conv=>whnf
   refine ⟨_,rfl,fun d hd=>?_⟩;subst hd;(conv=>whnf);refine ⟨_,rfl,fun d hd=>?_⟩;subst hd;(conv=>whnf)
   (repeat (refine ⟨rfl,?_⟩;conv=>whnf))
   refine ⟨by decide,?_⟩;(conv=>whnf);refine ⟨by omega,pl,xs,rfl,⟨fun x hx=>⟨m5 x hx,hr2 x hx⟩,by omega,by omega⟩,fun t ht=>?_⟩;have hcl:t.length≤64 * szS wE xs:=by rw [← ht];exact ZH fun x hx=>Z7 x (hr2 x hx)
   conv=>whnf
   (repeat (refine ⟨rfl,?_⟩;conv=>whnf))
   refine ⟨show (Ya 20++[40]).length+t.length<2 ^ 62 by rw [Tb];have:=Y7 20;simp only [Td,Te];omega,?_⟩;(conv=>whnf);refine ⟨show ((Ya 20++[40])++t).length+1<2 ^ 62 by rw [Tb,Tb];have:=Y7 20;simp only [Td,Te];omega,?_⟩;(conv=>whnf);exact h _ (by rw [exT];show Ya 20++([40]++(Zl cmm ((ZfM xs).map Prod.snd)++[41]))=_;rw [Y5,ZiK,ht];simp only [To])
  ·conv=>whnf
   refine ⟨_,rfl,fun d hd=>?_⟩;subst hd;(conv=>whnf);refine ⟨_,rfl,fun d hd=>?_⟩;subst hd;(conv=>whnf)
   (repeat (refine ⟨rfl,?_⟩;conv=>whnf))
   refine ⟨by decide,?_⟩;(conv=>whnf);refine ⟨by omega,pl,xs,rfl,⟨fun x hx=>⟨m5 x hx,hr2 x hx⟩,by omega,by omega⟩,fun t ht=>?_⟩;have hcl:t.length≤64 * szS wE xs:=by rw [← ht];exact ZH fun x hx=>Z7 x (hr2 x hx)
   conv=>whnf
   (repeat (refine ⟨rfl,?_⟩;conv=>whnf))
   refine ⟨show (Ya 21++[40]).length+t.length<2 ^ 62 by rw [Tb];have:=Y7 21;simp only [Td,Te];omega,?_⟩;(conv=>whnf);refine ⟨show ((Ya 21++[40])++t).length+1<2 ^ 62 by rw [Tb,Tb];have:=Y7 21;simp only [Td,Te];omega,?_⟩;(conv=>whnf);exact h _ (by rw [exT];show Ya 21++([40]++(Zl cmm ((ZfM xs).map Prod.snd)++[41]))=_;rw [Y5,ZiK,ht];simp only [To])
  ·conv=>whnf
   refine ⟨_,rfl,fun d hd=>?_⟩;subst hd;(conv=>whnf);refine ⟨_,rfl,fun d hd=>?_⟩;subst hd;(conv=>whnf)
   (repeat (refine ⟨rfl,?_⟩;conv=>whnf))
   refine ⟨by decide,?_⟩;(conv=>whnf);refine ⟨by omega,pl,xs,rfl,⟨fun x hx=>⟨m5 x hx,hr2 x hx⟩,by omega,by omega⟩,fun t ht=>?_⟩;have hcl:t.length≤64 * szS wE xs:=by rw [← ht];exact ZH fun x hx=>Z7 x (hr2 x hx)
   conv=>whnf
   (repeat (refine ⟨rfl,?_⟩;conv=>whnf))
   refine ⟨show (Ya 22++[40]).length+t.length<2 ^ 62 by rw [Tb];have:=Y7 22;simp only [Td,Te];omega,?_⟩;(conv=>whnf);refine ⟨show ((Ya 22++[40])++t).length+1<2 ^ 62 by rw [Tb,Tb];have:=Y7 22;simp only [Td,Te];omega,?_⟩;(conv=>whnf);exact h _ (by rw [exT];show Ya 22++([40]++(Zl cmm ((ZfM xs).map Prod.snd)++[41]))=_;rw [Y5,ZiK,ht];simp only [To])
  ·conv=>whnf
   refine ⟨_,rfl,fun d hd=>?_⟩;subst hd;(conv=>whnf);refine ⟨_,rfl,fun d hd=>?_⟩;subst hd;(conv=>whnf)
   (repeat (refine ⟨rfl,?_⟩;conv=>whnf))
   refine ⟨by decide,?_⟩;(conv=>whnf);refine ⟨by omega,pl,xs,rfl,⟨fun x hx=>⟨m5 x hx,hr2 x hx⟩,by omega,by omega⟩,fun t ht=>?_⟩;have hcl:t.length≤64 * szS wE xs:=by rw [← ht];exact ZH fun x hx=>Z7 x (hr2 x hx)
   conv=>whnf
   (repeat (refine ⟨rfl,?_⟩;conv=>whnf))
   refine ⟨show (Ya 23++[40]).length+t.length<2 ^ 62 by rw [Tb];have:=Y7 23;simp only [Td,Te];omega,?_⟩;(conv=>whnf);refine ⟨show ((Ya 23++[40])++t).length+1<2 ^ 62 by rw [Tb,Tb];have:=Y7 23;simp only [Td,Te];omega,?_⟩;(conv=>whnf);exact h _ (by rw [exT];show Ya 23++([40]++(Zl cmm ((ZfM xs).map Prod.snd)++[41]))=_;rw [Y5,ZiK,ht];simp only [To])
  ·conv=>whnf
   refine ⟨_,rfl,fun d hd=>?_⟩;subst hd;(conv=>whnf);refine ⟨_,rfl,fun d hd=>?_⟩;subst hd;(conv=>whnf)
   (repeat (refine ⟨rfl,?_⟩;conv=>whnf))
   refine ⟨by decide,?_⟩;(conv=>whnf);refine ⟨by omega,pl,xs,rfl,⟨fun x hx=>⟨m5 x hx,hr2 x hx⟩,by omega,by omega⟩,fun t ht=>?_⟩;have hcl:t.length≤64 * szS wE xs:=by rw [← ht];exact ZH fun x hx=>Z7 x (hr2 x hx)
   conv=>whnf
   (repeat (refine ⟨rfl,?_⟩;conv=>whnf))
   refine ⟨show (Ya 24++[40]).length+t.length<2 ^ 62 by rw [Tb];have:=Y7 24;simp only [Td,Te];omega,?_⟩;(conv=>whnf);refine ⟨show ((Ya 24++[40])++t).length+1<2 ^ 62 by rw [Tb,Tb];have:=Y7 24;simp only [Td,Te];omega,?_⟩;(conv=>whnf);exact h _ (by rw [exT];show Ya 24++([40]++(Zl cmm ((ZfM xs).map Prod.snd)++[41]))=_;rw [Y5,ZiK,ht];simp only [To])
  ·conv=>whnf
   refine ⟨_,rfl,fun d hd=>?_⟩;subst hd;(conv=>whnf);refine ⟨_,rfl,fun d hd=>?_⟩;subst hd;(conv=>whnf)
   (repeat (refine ⟨rfl,?_⟩;conv=>whnf))
   refine ⟨by decide,?_⟩;(conv=>whnf);refine ⟨by omega,pl,xs,rfl,⟨fun x hx=>⟨m5 x hx,hr2 x hx⟩,by omega,by omega⟩,fun t ht=>?_⟩;have hcl:t.length≤64 * szS wE xs:=by rw [← ht];exact ZH fun x hx=>Z7 x (hr2 x hx)
   conv=>whnf
   (repeat (refine ⟨rfl,?_⟩;conv=>whnf))
   refine ⟨show (Ya 25++[40]).length+t.length<2 ^ 62 by rw [Tb];have:=Y7 25;simp only [Td,Te];omega,?_⟩;(conv=>whnf);refine ⟨show ((Ya 25++[40])++t).length+1<2 ^ 62 by rw [Tb,Tb];have:=Y7 25;simp only [Td,Te];omega,?_⟩;(conv=>whnf);exact h _ (by rw [exT];show Ya 25++([40]++(Zl cmm ((ZfM xs).map Prod.snd)++[41]))=_;rw [Y5,ZiK,ht];simp only [To])
  ·exact absurd m1 (by rw [ZeO ho];decide)
 ·exact h.elim
theorem Zsk {n:Nat} (h:PCalls (GG w0 nG) 57 (Zq4 n)):PCalls (GG w0 nG) 98 (Zvw n):=Zvx ⟨⟨ZeP,XO _⟩,⟨h,UF n⟩,trivial⟩
theorem cTx:∀n,PCalls (GG w0 nG) 57 (Zq4 n)
 | 0=>Zqf ⟨⟨ZeP,XO _⟩,⟨ZiN,XO _⟩,⟨Z5 (Zo Tryz.func98 (by kernel_rfl) rfl),ZK Zjn _⟩,⟨Z5 (Zo Tryz.func101 (by kernel_rfl) rfl),ZK JX _⟩,⟨Zmp,ZdA⟩,⟨Zhj,YI⟩,trivial⟩
 | n+1=>Zqf ⟨⟨ZeP,XO _⟩,⟨ZiN,XO _⟩,⟨Z6 (sp:=Zvw) (Zsk (cTx n)),ZK Zjn _⟩,⟨Z6 (sp:=Zsj) (Zqe ⟨⟨cTx n,UF n⟩,trivial⟩),ZK JX _⟩,⟨Zmp,ZdA⟩,⟨Zhj,YI⟩,trivial⟩
theorem Zvz (n:Nat):PCalls (GG w0 nG) 101 (Zsj n):=Zqe ⟨⟨cTx n,UF n⟩,trivial⟩
end Go.PM.Lex
end

section
namespace Go.PM.Lex
open Go.Proofs
variable {w0:World} {nG:Nat}
noncomputable def Zqg {α:Type} (enc:Pl→α→List D) (p:α→Bool) (w:α→Nat) (n:Nat):Zr:=fun args σ K=>match args,σ with
 | [.agg c],⟨[],[],0⟩=>∃pl e,c=(enc pl e).map .d∧(w e≤n∧n≤16777216)∧∀b,p e=b→K (.ret (.d (.bool b))) ⟨[],[],0⟩
 | _,_=>False
theorem Zca {α:Type} (enc:Pl→α→List D) (p:α→Bool) (w:α→Nat) (n:Nat):Za (Zqg enc p w n):=fun args σ K K' hK h=>by
 unfold Zqg at h ⊢
 exact m46
noncomputable def Zk4 {α:Type} (enc:Pl→α→List D) (p:α→Bool) (w:α→Nat) (n:Nat):Zr:=fun args σ K=>match args,σ with
 | [.d (.sl r)],⟨[],[],0⟩=>∃pl l,r=l.map (enc pl)∧(szS w l≤n∧n≤16777216)∧∀b,l.all p=b→K (.ret (.d (.bool b))) ⟨[],[],0⟩
 | _,_=>False
theorem WZ {α:Type} (enc:Pl→α→List D) (p:α→Bool) (w:α→Nat) (n:Nat):Za (Zk4 enc p w n):=fun args σ K K' hK h=>by
 unfold Zk4 at h ⊢
 exact m46
noncomputable def Zy5 (n:Nat):Tbl:=[(56,Zqg Yc ZQ wE n)]
theorem Zqh {n:Nat} (ht:TblOK (GG w0 nG) (Zy5 n)):PCalls (GG w0 nG) 96 (Zk4 Yc ZQ wE n):=by
 refine pc ht Tryz.func96 ?_;intro args σ K h
 unfold Zk4 at h
 split at h
 ·obtain ⟨pl,l,rfl,⟨hz,hn⟩,h⟩:=h;have hlen:(l.map (Yc pl)).length=l.length:=Ti ..;have hsz:=Wn wE l;refine ⟨Zb [(2,⟨[3],[0],fun vs σ=>∃i:Nat,vs=[.d (.int .i64 i)]∧σ=⟨[],[],0⟩∧i≤l.length∧l.all ZQ=(l.drop i).all ZQ,fun vs _=>match vs with | [.d (.int _ i)]=>((l.length:Int) - i).toNat | _=>0⟩)],0,false,by simp,Ta rfl,?_⟩;(conv=>whnf);refine ⟨⟨0,rfl,rfl,by omega,rfl⟩,?_⟩;intro vs σ hI
  obtain ⟨i,rfl,rfl,hi,ha⟩:=hI;(conv=>whnf);refine ZAf (fun hi2=>?_) (fun hi2=>?_)
  ·have hi2:i<l.length:=by have hi2:(i:Int)<(l.map (Yc pl)).length:=hi2;rw [hlen] at hi2;omega
   have hg:=Wo wE l i hi2;rw [ZdY ZQ hi2] at ha;obtain ⟨eA,hA⟩:∃x,l[i]=x:=⟨_,rfl⟩
   obtain ⟨a1,a2,a3,a4,a5⟩:=eA;rw [hA] at hg ha;have hr1:(l.map (Yc pl))[((i:Nat):Int).toNat]?=some (Yc pl (.mk a1 a2 a3 a4 a5)):=by simp [hi2,hA]
   conv=>whnf
   refine ⟨_,by omega,hr1,?_⟩;(conv=>whnf);refine ⟨pl,.mk a1 a2 a3 a4 a5,rfl,⟨by omega,hn⟩,fun b hb=>?_⟩;rw [hb] at ha
   cases b with
   | false =>
    conv=>whnf
    exact h _ ha
   | true =>
    rw [TE] at ha;(conv=>whnf);refine oiO ?_;(conv=>whnf);refine ⟨⟨i+1,rfl,rfl,by omega,ha⟩,?_⟩;exact m43
  ·have hi2:i=l.length:=by have hi2:¬(i:Int)<(l.map (Yc pl)).length:=hi2;rw [hlen] at hi2;omega
   subst hi2;rw [List.drop_length] at ha;(conv=>whnf);exact h _ ha
 ·exact h.elim
noncomputable def Zy6 (n:Nat):Tbl:=[(93,Jr fun op=>.int .i64 (Yj op)),(94,Za6),(95,Vw),(96,spB (Zk4 Yc ZQ wE) n)]
theorem Zqi {n:Nat} (ht:TblOK (GG w0 nG) (Zy6 n)):PCalls (GG w0 nG) 56 (Zqg Yc ZQ wE n):=by
 refine pc ht Tryz.func56 ?_;intro args σ K h
 unfold Zqg at h
 split at h
 ·obtain ⟨pl,⟨op,tx,nn,xs,at'⟩,rfl,⟨hz,hn⟩,h⟩:=h;rw [ZtK] at hz;have hxl:(ZM pl xs).length=xs.length:=by rw [Zg,Ti]
  simp only [ZQ,Zm] at h;refine ⟨Zb [],0,false,by simp,Ta rfl,?_⟩;(conv=>whnf);refine ⟨op,rfl,fun d hd=>?_⟩;have hd:D.int .i64 (Yj op)=d:=hd;obtain ⟨A,hA⟩:∃A,Yj op=A:=⟨_,rfl⟩
  rw [hA] at hd h;subst hd;have lo:-2≤A:=by rw [← hA];unfold Yj;(repeat' split) <;> omega
  conv=>whnf
  refine ZAf (fun h1=>?_) (fun h1=>?_)
  ·conv=>whnf
   exact h _ (by rw [decide_eq_false (show ¬-2<A by omega)];rfl)
  have e1:decide (-2<A)=true:=TC (by omega);rw [e1,TE] at h;have two:(A<0∨(xs.length:Int)=A)→∀b,((decide (nn=0) || decide (op=3)) && (Z3 op tx && xs.all ZQ))=b→K (.ret (.d (.bool b))) ⟨[],[],0⟩:=fun g b hb=>h b (by
   have e2:(decide (A<0) || decide ((xs.length:Int)=A))=true:=by simpa using g
   rw [e2,TE];exact hb)
  have no2:0≤A→¬(xs.length:Int)=A→K (.ret (.d (.bool false))) ⟨[],[],0⟩:=fun g1 g2=>h _ (by rw [decide_eq_false (show ¬A<0 by omega),decide_eq_false g2];rfl)
  clear h
  conv=>whnf
  refine ZAf (fun h2=>?_) (fun h2=>?_)
  ·conv=>whnf
   refine ZAh (fun h3=>?_) (fun h3=>?_)
   ·conv=>whnf
    exact no2 h2 (fun g=>h3 (by show ((ZM pl xs).length:Int)=A;rw [hxl];exact g))
   have h:=two (.inr (by have h3:((ZM pl xs).length:Int)=A:=h3;rw [hxl] at h3;exact h3));exact m189
  ·have h:=two (.inl (by omega));exact m189
 ·exact h.elim
end Go.PM.Lex
end
