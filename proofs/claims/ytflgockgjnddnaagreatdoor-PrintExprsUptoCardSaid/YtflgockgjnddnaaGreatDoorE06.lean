/- A part of the proof: plain logic, contracts and laws over the given program. -/
import Derived.Test.YtflgockgjnddnaaGreatDoorShelf
import Derived.Shelf.Strings.SlTrimAscii
import Derived.Test.YtflgockgjnddnaaGreatDoorValid
import Derived.Shelf.Unicode.ValidAny
import Derived.Lib.MapLaws
import Derived.Shelf.Strings.Builder1
import Derived.Shelf.RegionOpenPlain
import Derived.Lib.Walk
import Derived.Lib.UnsafeStr
import Derived.Lib.Builder
import Derived.WalkKit
import Derived.Laws.Externs
import Derived.KernelRfl
import Derived.Test.YtflgockgjnddnaaGreatDoorE05
set_option linter.unusedVariables false
set_option linter.unusedSimpArgs false
set_option linter.all false
set_option maxRecDepth 100000
set_option maxHeartbeats 16000000
section
namespace Go.PM.Lex
open Go.Proofs
variable {w0:World} {nG:Nat}
noncomputable def ZcG:Zr:=fun args σ K=>match args,σ with
 | [.d (.str s),.d (.int .i64 a)],⟨[],[],0⟩=>(0≤a∧a≤s.length∧s.length<4294967281∧Zf (pk (s.drop a.toNat)).1=true) ∧
   K (.ret (VH 1 (cut s a.toNat (a.toNat+XA (s.drop a.toNat))) 0 a (a+XA (s.drop a.toNat)))) ⟨[],[],0⟩
 | _,_=>False
theorem Zdk:Za ZcG:=fun args σ K K' hK h=>by
 unfold ZcG at h ⊢;split at h <;> first | exact ⟨h.1,hK _ _ h.2⟩ | exact h.elim
noncomputable def Zrs:Tbl:=[(165,Zdj),(284,Zgs),(285,Wi),(230,U1)]
theorem ZlJ:PCalls (GG w0 nG) 231 ZcG:=by
 refine pc (tbl:=Zrs) ⟨⟨Zhi,U0⟩,⟨Zgt,ZeI⟩,⟨ZbN,Xh⟩,⟨ZbO,WQ⟩,trivial⟩ Tryz.func231 ?_;intro args σ K h
 unfold ZcG at h
 split at h
 ·rename_i s a
  obtain ⟨⟨h0,h1,hs,hlet⟩,h⟩:=h;obtain ⟨a,rfl⟩:∃n:Nat,a=n:=⟨a.toNat,by omega⟩
  simp only [Tj] at h hlet;refine ⟨Zb [(2,⟨[5],[0,1,4],fun vs σ=>σ=⟨[.cells 218 [.d (.int .u8 0),.d (.str []),.d (.int .i64 0),.d (.int .i64 0),.d (.int .i64 0)]],[],0⟩ ∧
   ∃e f:Nat,a≤e∧e≤s.length∧vs=[.d (.int .i64 e)]∧s.length<e+f∧e+Yy f (s.drop e)=a+XA (s.drop a),muI s.length⟩)],0,false,by simp,Ta rfl,?_⟩
  conv=>whnf
  refine ⟨⟨rfl,a,s.length - a+1,by omega,by omega,rfl,by omega,by simp [XA]⟩,?_⟩;intro vs σ1 hI
  obtain ⟨rfl,e,f,he1,he2,rfl,hf,hn⟩:=hI;obtain ⟨f,rfl⟩:∃g,f=g+1:=⟨f - 1,by omega⟩
  have hpr:=WK (s.drop e);have hple:=ZoR (s.drop e);have hend:Yy (f+1) (s.drop e)=0→K (.ret (VH 1 (cut s a e) 0 a e)) ⟨[],[],0⟩:=fun h3=>by
   have e2:a+XA (s.drop a)=e:=by rw [h3] at hn;omega
   have e3:(a:Int)+(XA (s.drop a):Int)=(e:Int):=by omega
   rw [e2,e3] at h;exact h
  have hgo:∀n:Nat,1≤n→e+n≤s.length→Yy (f+1) (s.drop e)=n+Yy f ((s.drop e).drop n)→a≤e+n∧e+n≤s.length∧s.length<(e+n)+f∧(e+n)+Yy f (s.drop (e+n))=a+XA (s.drop a):=fun n h1 h2 h3=>by
   rw [Tu] at h3;exact ⟨by omega,h2,by omega,by rw [← hn,h3];omega⟩
  have hfst:e=a→Zf (pk (s.drop e)).1=true:=fun g=>by rw [g];exact hlet
  conv=>whnf
  refine ZAf (fun h2=>?_) (fun h2=>?_)
  ·conv=>whnf
   refine ⟨⟨by omega,by omega,hs⟩,?_⟩;(conv=>whnf);generalize hc0:(pk (s.drop ((e:Int)).toNat)).1=c;have hc:(pk (s.drop e)).1=c:=hc0;have fin:∀(h4:Zf (pk (s.drop e)).1=true∨Zj (pk (s.drop e)).1=true),a≤e+(pk (s.drop e)).2∧e+(pk (s.drop e)).2≤s.length∧s.length<(e+(pk (s.drop e)).2)+f∧(e+(pk (s.drop e)).2)+Yy f (s.drop (e+(pk (s.drop e)).2))=a+XA (s.drop a)∧1≤(pk (s.drop e)).2:=fun h4=>by
    obtain ⟨g1,g2,g3⟩:=hple (ZoY h4);have g2':e+(pk (s.drop e)).2≤s.length:=by rw [Tk] at g2;omega
    have h46:¬(pk (s.drop e)).1=46:=fun g=>by rw [g] at h4;revert h4;decide
    obtain ⟨k1,k2,k3,k4⟩:=hgo _ g1 g2' (ZeG h46 h4);exact ⟨k1,k2,k3,k4,g1⟩
   conv=>whnf
   refine ZAi (fun h3=>?_) (fun h3=>?_)
   ·obtain ⟨k1,k2,k3,k4,k5⟩:=fin (.inl (by rw [hc];exact h3));(conv=>whnf);exact m34
   ·have h3':Zf (pk (s.drop e)).1=false:=by rw [hc];exact h3
    have hea:a<e:=by
     rcases Nat.lt_or_ge a e with g | g
     ·exact g
     ·have:=hfst (by omega);rw [h3'] at this;cases this
    conv=>whnf
    refine ZAi (fun h4=>?_) (fun h4=>?_)
    ·obtain ⟨k1,k2,k3,k4,k5⟩:=fin (.inr (by rw [hc];exact h4));(conv=>whnf);refine ZAf (fun h5=>?_) (fun h5=>?_)
     ·conv=>whnf
      exact m34
     ·omega
    ·have h4':Zj (pk (s.drop e)).1=false:=by rw [hc];exact h4
     conv=>whnf
     refine ZAf (fun h5=>?_) (fun h5=>?_)
     ·have h46:(pk (s.drop e)).1=46:=by rw [hc];exact h5
      have hlow:=Ziu (s.drop e) (by omega) (by omega);(conv=>whnf);refine ZAf (fun h6=>?_) (fun h6=>?_)
      ·conv=>whnf
       refine oiO ?_;(conv=>whnf);refine ⟨⟨by omega,hs⟩,?_⟩;(conv=>whnf);have ed:s.drop ((e:Int)+1).toNat=(s.drop e).drop 1:=by rw [Tu];congr 1
       conv=>whnf
       refine ZAi (fun h7=>?_) (fun h7=>?_)
       ·have h7':Zf (pk ((s.drop e).drop 1)).1=true:=by rw [← ed];exact h7
        obtain ⟨k1,k2,k3,k4⟩:=hgo 1 (by omega) (by omega) (by have:=Zgq (f:=f) h46 h7';rw [hlow.2.2] at this;exact this);(conv=>whnf);refine oiO ?_;(conv=>whnf);refine ⟨⟨rfl,e+1,f,k1,k2,rfl,k3,k4⟩,?_⟩;exact m224
       ·have h7':Zf (pk ((s.drop e).drop 1)).1=false:=by rw [← ed];exact h7
        conv=>whnf
        refine ⟨by omega,by omega,by omega,?_⟩;(conv=>whnf);exact hend (ZbI h46 h7')
      ·omega
     ·have h46:¬(pk (s.drop e)).1=46:=by rw [hc];exact h5
      conv=>whnf
      refine ⟨by omega,by omega,by omega,?_⟩;(conv=>whnf);exact hend (ZcE h46 h3' h4')
  ·have hnil:s.drop e=[]:=Tz (by omega);(conv=>whnf);refine ⟨by omega,by omega,by omega,?_⟩;(conv=>whnf);exact hend (by rw [hnil];exact Znc _)
 ·exact h.elim
end Go.PM.Lex
end

section
noncomputable section
namespace Go.PM
theorem Xt {G:GE} {g:FuncId} {sp:Zr} (hent:Vp G.P g)
  (h:∀args σ K,sp args σ K→∀(e:Env) (w:World) (vs:Array Value),SRel G e σ w→ArgsRel G e σ w args vs→∃pv,K (.ret pv) σ∧∃v,(∀w',Grows w w'→VRel G e σ w' pv v)∧Calls G.P g vs w fun en w'=>en=.returned v∧Grows w w'):PCalls G g sp where
 enters:=hent
 calls:=fun args σ K hs n e w vs hS ha=>by
  obtain ⟨pv,hK,v,hv,hc⟩:=h args σ K hs e w vs hS ha;refine CallsIn.mono (callsIn_wide.2 hc) fun en w' ⟨he,hg⟩=>?_
  subst he;exact ⟨.ret pv,σ,e,hK,⟨v,rfl,hv w' hg⟩,hS.grow hg,(hg.stepped e σ).toLater⟩
theorem ZAm {w w':World} (h:RowKit.Below w.heap.size w w'):Grows w w':=⟨h.os,h.tape,h.output,h.size,h.block⟩
section
variable {G:GE} {e:Env} {σ:St} {w:World} {vs:Array Value}
theorem Ziz {x:PV} (h:ArgsRel G e σ w [x] vs):∃u,vs=#[u]∧VRel G e σ w x u:=by
 obtain ⟨hs,hr⟩:=h;obtain ⟨l⟩:=vs
 match l,hs with
 | [u],_=>exact ⟨u,rfl,hr 0 x u rfl rfl⟩
theorem Zkv {x y:PV} (h:ArgsRel G e σ w [x,y] vs):∃u v,vs=#[u,v]∧VRel G e σ w x u∧VRel G e σ w y v:=by
 obtain ⟨hs,hr⟩:=h;obtain ⟨l⟩:=vs
 match l,hs with
 | [u,v],_=>exact ⟨u,v,rfl,hr 0 x u rfl rfl,hr 1 y v rfl rfl⟩
end
end Go.PM
namespace Go.PM.Lex
open Go.Proofs
variable {w0:World} {nG:Nat}
theorem VU:PCalls (GG w0 nG) 267 Xg:=Xt (Zo Tryz.func267 (by kernel_rfl) rfl) fun args σ K h e w vs hS ha=>by
 unfold Xg at h
 split at h
 ·obtain ⟨u,v,rfl,hu,hv⟩:=Zkv ha
  cases hu.dstr;cases hv.dstr
  exact ⟨_,h,_,fun _ _=>.mkbool,(Tryz.strings_HasPrefix _ _ w).mono fun en w' ⟨h1,h2⟩=>⟨h1,by rw [h2];exact Grows.refl _⟩⟩
 ·exact h.elim
theorem JM:PCalls (GG w0 nG) 215 XL:=Xt (Zo Tryz.func215 (by kernel_rfl) rfl) fun args σ K h e w vs hS ha=>by
 unfold XL at h
 split at h
 ·obtain ⟨u,v,rfl,hu,hv⟩:=Zkv ha
  cases hu.dstr;cases hv.dint
  exact ⟨_,h,_,fun _ _=>.mkint,(Tryz.strings_IndexByte _ _ w).mono fun en w' ⟨h1,h2⟩=>⟨h1,by rw [h2];exact Grows.refl _⟩⟩
 ·exact h.elim
theorem Znf:PCalls (GG w0 nG) 266 JJ:=Xt (Zo Tryz.func266 (by kernel_rfl) rfl) fun args σ K h e w vs hS ha=>by
 unfold JJ at h
 split at h
 ·obtain ⟨u,rfl,hu⟩:=Ziz ha
  cases hu.dint
  exact ⟨_,h,_,fun _ _=>.mkint,(Tryz.utf8_RuneLen _ w).mono fun en w' ⟨h1,h2⟩=>⟨h1,by rw [h2];exact Grows.refl _⟩⟩
 ·exact h.elim
theorem Zrt (h2:2<nG) (hm:∃m,w0.cell? ⟨2,0,none⟩=some (.int .i64 m)):PCalls (GG w0 nG) 278 ZeB:=Xt (Zo Tryz.func278 (by kernel_rfl) rfl) fun args σ K h e w vs hS ha=>by
 unfold ZeB at h
 split at h
 ·rename_i s p
  obtain ⟨u,v,rfl,hu,hv⟩:=Zkv ha
  cases hu.dstr;cases hv.dstr
  obtain ⟨m,hm⟩:=hm;have hm':w.cell? ⟨2,0,none⟩=some (.int .i64 m):=by
   have:=hS.glob 2 h2;simpa [World.cell?,this] using hm
  exact ⟨_,h.2,_,fun _ _=>.mkint,(Tryz.strings_Index ⟨s.toArray⟩ ⟨p.toArray⟩ m w (show s.toArray.size<_ by simpa using h.1) hm').mono fun en w' ⟨h1,h2⟩=>⟨h1,by rw [h2];exact Grows.refl _⟩⟩
 ·exact h.elim
theorem Zkw:PCalls (GG w0 nG) 277 Uv:=Xt (Zo Tryz.func277 (by kernel_rfl) rfl) fun args σ K h e w vs hS ha=>by
 unfold Uv at h
 split at h
 ·rename_i s p
  obtain ⟨u,v,rfl,hu,hv⟩:=Zkv ha
  cases hu.dstr;cases hv.dstr
  refine ⟨_,h.2,_,fun _ _=>.mkstr,(Any.strings_TrimLeft_laid Tryz.lays161 (by kernel_rfl) ⟨s.toArray⟩ ⟨p.toArray⟩ w (show p.toArray.size<_ by simpa using h.1.1) h.1.2).mono fun en w' ⟨h1,h2⟩=>⟨h1,ZAm h2⟩⟩
 ·exact h.elim
end Go.PM.Lex
end
end

section
namespace Go.PM.Lex
open Go.Proofs
variable {w0:World} {nG:Nat}
noncomputable def ZeK:Zr:=fun args σ K=>match args with
 | [.d (.str s)]=>s.length≤9223372036854775807∧K (.ret (.d (.bool (Lib.validD s)))) σ
 | _=>False
theorem ZiA:Za ZeK:=fun args σ K K' hK h=>by
 unfold ZeK at h ⊢;split at h <;> first | exact ⟨h.1,hK _ _ h.2⟩ | exact h.elim
theorem Zru (h1:1<nG) (hT:Lib.Utf8Tabs 0 1 w0):PCalls (GG w0 nG) 149 ZeK:=Xt (Zo Tryz.func149 (by kernel_rfl) rfl) fun args σ K h e w vs hS ha=>by
 unfold ZeK at h
 split at h
 ·rename_i s
  obtain ⟨u,rfl,hu⟩:=Ziz ha
  cases hu.dstr
  have hT':Lib.Utf8Tabs 0 1 w:=by
   have g0:=hS.glob 0 (show 0<nG by omega);have g1:=hS.glob 1 h1;obtain ⟨a,b⟩:=hT;refine ⟨fun c hc=>?_,fun i hi=>?_⟩
   ·have:=a c hc;simpa [World.cell?,g0] using this
   ·have:=b i hi;simpa [World.cell?,g1] using this
  exact ⟨_,h.2,_,fun _ _=>.mkbool,(Any.utf8_ValidString Tryz.laysValid ⟨s.toArray⟩ w (show s.toArray.size≤_ by simpa using h.1) hT').mono fun en w' ⟨h1,h2⟩=>⟨h1,ZAm h2⟩⟩
 ·exact h.elim
end Go.PM.Lex
end

section
namespace Go.PM.Lex
open Go.Proofs
variable {w0:World} {nG:Nat}
theorem Zrv {n:Nat} (h:ZcF n=none):ZeF [10,9,34,92] n=-1:=by
 unfold ZcF at h
 split at h;· cases h
 split at h;· cases h
 split at h;· cases h
 split at h;· cases h
 rename_i h1 h2 h3 h4
 unfold ZeF
 split
 ·rename_i h5
  have hc:([10,9,34,92]:Bs).contains ((n:Int).toNat.toUInt8)=false:=by
   have b1:=JL (n:=n) (k:=10) (by omega) (by omega) h1;have b2:=JL (n:=n) (k:=9) (by omega) (by omega) h2;exact m117
  rw [Lib.contains_iff_indexByte,decide_eq_false_iff_not] at hc;have:=Lib.indexByte_ge [10,9,34,92] ((n:Int).toNat.toUInt8);omega
 ·rfl
theorem Zrw {n:Nat} {b:UInt8} (h:ZcF n=some b):(ZeF [10,9,34,92] n=0∧b=110)∨(ZeF [10,9,34,92] n=1∧b=116)∨(ZeF [10,9,34,92] n=2∧b=34)∨(ZeF [10,9,34,92] n=3∧b=92):=by
 unfold ZcF at h
 exact m73
noncomputable def Vw:Zr:=fun args σ K=>match args,σ with
 | [.d (.str s)],⟨[],[],0⟩=>s.length<4294967281∧(WP s=none→K (.ret (.tuple [.d (.str []),.d (.bool false)])) ⟨[],[],0⟩)∧(∀q,WP s=some q→K (.ret (.tuple [.d (.str q),.d (.bool true)])) ⟨[],[],0⟩)
 | _,_=>False
theorem YI:Za Vw:=fun args σ K K' hK h=>by
 unfold Vw at h ⊢
 split at h
 ·exact ⟨h.1,fun g=>hK _ _ (h.2.1 g),fun q g=>hK _ _ (h.2.2 q g)⟩
 ·exact h.elim
def ZzW (B:Nat):List PV→St→Nat:=fun _ σ=>match σ.bx with | [_,.iter _ p]=>B - p | _=>0
noncomputable def Zrx:Tbl:=[(149,ZeK),(150,Wj),(151,XM),(152,Wk),(31,Zad)]
theorem Zry (ht:TblOK (GG w0 nG) Zrx):PCalls (GG w0 nG) 73 Vw:=by
 refine pc ht Tryz.func73 ?_;intro args σ K h
 unfold Vw at h
 split at h
 ·rename_i s
  obtain ⟨hs,hbad,hgood⟩:=h;refine ⟨Zb [(6,⟨[],[4,13],fun vs σ=>vs=[]∧∃(out:Bs) (i f:Nat),σ=⟨[.cells 82 [.ptr 0 0,.sl 0 5 (Zi out)],.iter s i],[0],1⟩∧(i≤s.length∧s.length<i+f∧out.length≤4 * i+1)∧W6 f (s.drop i) out=W6 (s.length+1) s [34],ZzW s.length⟩)],0,false,by simp,Ta rfl,?_⟩;(conv=>whnf);refine ⟨by omega,?_⟩;(conv=>whnf);refine ZAi (fun h1=>?_) (fun h1=>?_)
  ·have hv:Lib.validD s=false:=by simpa using h1
   conv=>whnf
   exact hbad (by unfold WP;rw [Tc (by rw [hv];simp)])
  ·have hv:Lib.validD s=true:=by simpa using h1
   have hq:WP s=(W6 (s.length+1) s [34]).map (·++[34]):=by unfold WP;rw [Tf hv]
   conv=>whnf
   refine ⟨⟨.inl rfl,rfl,rfl,by simp,by simp⟩,?_⟩;(conv=>whnf);refine ⟨⟨rfl,[34],0,s.length+1,rfl,⟨by omega,by omega,by simp⟩,by rw [Sh]⟩,?_⟩;intro vs σ1 hI
   obtain ⟨rfl,out,i,f,rfl,⟨hi1,hi2,hol⟩,hgo⟩:=hI;obtain ⟨f,rfl⟩:∃g,f=g+1:=⟨f - 1,by omega⟩
   have hb1:=Zaf out;have hbl:=Yq out;have hdec:=ZeA s i;have hdr:=Za5 (s.drop i);have hdl:=Lib.decodeL_le (s.drop i);rw [Tk] at hdl;(conv=>whnf);refine ZAf (fun h2=>?_) (fun h2=>?_)
   ·have hne:s.drop i≠[]:=fun g=>by have:=congrArg List.length g;rw [Tk] at this;simp at this;omega
    have g3:i+(decodeL s i).2≤s.length:=by rw [hdec];have:=hdl hne;omega
    have hdr':1≤(decodeL s i).2:=by rw [hdec];omega
    conv=>whnf
    refine ⟨⟨.inr rfl,by omega,by rw [hdec];omega⟩,?_⟩;(conv=>whnf);generalize hk:ZeF _ _=k;have hk':ZeF [10,9,34,92] ((Lib.decodeL (s.drop i)).1:Int)=k:=by rw [← hdec];exact hk
    cases hE:ZcF (Lib.decodeL (s.drop i)).1 with
    | some b =>
     have g1:W6 f (s.drop (i+(decodeL s i).2)) (out++[92,b])=W6 (s.length+1) s [34]:=by rw [← hgo,hdec];simp [W6,hne,hE,Tu]
     rcases Zrw hE with ⟨e1,rfl⟩ | ⟨e1,rfl⟩ | ⟨e1,rfl⟩ | ⟨e1,rfl⟩
     all_goals (rw [e1] at hk';subst hk')
     all_goals (conv=>whnf)
     all_goals (refine ⟨⟨.inr rfl,rfl,rfl,hb1,by omega⟩,?_⟩)
     all_goals (conv=>whnf)
     all_goals (refine ⟨by omega,by first | omega | (simp;done) | (simp;omega),?_⟩)
     all_goals (conv=>whnf)
     all_goals (refine ⟨⟨.inr rfl,rfl,rfl,fun r hr=>by (rcases TT.1 hr with hr | hr;exact hb1 r hr;simp at hr;subst hr;rfl),by rw [Tb];simp;omega⟩,?_⟩)
     all_goals (conv=>whnf)
     all_goals (refine ⟨⟨rfl,_,_,f,?_,⟨g3,by omega,?_⟩,g1⟩,?_⟩)
     all_goals (first | (rw [Yp,To];rfl) | (rw [Tb];simp;omega) | exact (show s.length - (i+(decodeL s i).2)<s.length - i by omega))
    | none =>
     rw [Zrv hE] at hk';subst hk';(conv=>whnf);refine ZAf (fun h5=>?_) (fun h5=>?_)
     ·have h5':(Lib.decodeL (s.drop i)).1<32:=by rw [hdec] at h5;omega
      conv=>whnf
      refine hbad ?_;rw [hq,← hgo];simp [W6,hne,hE,h5']
     ·have h5':¬(Lib.decodeL (s.drop i)).1<32:=by rw [hdec] at h5;omega
      have g1:W6 f (s.drop (i+(decodeL s i).2)) (out++Lib.encodeRune ((decodeL s i).1:Int))=W6 (s.length+1) s [34]:=by rw [← hgo,hdec];simp [W6,hne,hE,h5',Tu]
      have hen:=Zks ((decodeL s i).1:Int);(conv=>whnf);refine ⟨⟨.inr rfl,rfl,rfl,hb1,by omega,by omega,by rw [hdec];omega⟩,?_⟩;(conv=>whnf);refine ⟨⟨rfl,_,_,f,?_,⟨g3,by omega,?_⟩,g1⟩,?_⟩
      ·rw [Yp];rfl
      ·rw [Tb];omega
      ·exact (show s.length - (i+(decodeL s i).2)<s.length - i by omega)
   ·have hnil:s.drop i=[]:=Tz (by omega);have g1:W6 (s.length+1) s [34]=some out:=by rw [← hgo];simp [W6,hnil]
    conv=>whnf
    refine ⟨⟨.inr rfl,rfl,rfl,hb1,by omega⟩,?_⟩;(conv=>whnf);refine ⟨out++[34],⟨by rw [UZ];rfl,rfl,rfl,.inr rfl,by rw [Tb];simp;omega⟩,?_⟩;(conv=>whnf);exact hgood _ (by rw [hq,g1];rfl)
 ·exact h.elim
end Go.PM.Lex
end

section
namespace Go.PM.Lex
open Go.Proofs
variable {w0:World} {nG:Nat}
def W7:Nat→Bs→Bs→Option Bs
 | 0,_,_=>none
 | f+1,r,out=>if r=[] then some out
  else if (pk r).1=10 then W7 f (r.drop (pk r).2) (out++[92,110])
  else if (pk r).1=9 then W7 f (r.drop (pk r).2) (out++[92,116])
  else if (pk r).1=34∨(pk r).1=92 then W7 f (r.drop (pk r).2) (out++[92,r.getD 0 0])
  else if (pk r).1<32 then none
  else W7 f (r.drop (pk r).2) (out++r.take (pk r).2)
theorem Zah (f:Nat) (r out:Bs):W7 (f+1) r out=if r=[] then some out
  else if (pk r).1=10 then W7 f (r.drop (pk r).2) (out++[92,110])
  else if (pk r).1=9 then W7 f (r.drop (pk r).2) (out++[92,116])
  else if (pk r).1=34∨(pk r).1=92 then W7 f (r.drop (pk r).2) (out++[92,r.getD 0 0])
  else if (pk r).1<32 then none
  else W7 f (r.drop (pk r).2) (out++r.take (pk r).2):=rfl
theorem Ztp:∀(f:Nat) (r out:Bs),r.length<f→W7 f r out=if Lib.validGoD (f - 1) r=true then W6 f r out else none
 | 0,r,out,hf=>by omega
 | f+1,r,out,hf=>by
  simp only [Nat.add_sub_cancel]
  by_cases hr:r=[]
  ·subst hr;have:Lib.validGoD f []=true:=by cases f <;> simp [Lib.validGoD]
   simp [W7,W6,this]
  ·have hpos:=List.length_pos_iff.2 hr;have hdl:=Lib.decodeL_le r hr;have hrg:=Za5 r;obtain ⟨g,rfl⟩:∃g,f=g+1:=⟨f - 1,by omega⟩
   unfold W7
   rw [Tc hr]
   by_cases hv:(Lib.decodeL r).1=65533∧(Lib.decodeL r).2=1
   ·have hpk:pk r=(-1,1):=by unfold pk;rw [Tf (.inr (Prod.ext hv.1 hv.2))]
    have hvf:Lib.validGoD (g+1) r=false:=by unfold Lib.validGoD;rw [Tc hr,Tf hv]
    rw [hpk,hvf];simp
   ·have hpk:pk r=(((Lib.decodeL r).1:Int),(Lib.decodeL r).2):=by
     unfold pk;rw [Tc];simp only [not_or];exact ⟨hr,fun g=>hv ⟨by rw [g],by rw [g]⟩⟩
    have hvf:Lib.validGoD (g+1) r=Lib.validGoD g (r.drop (Lib.decodeL r).2):=by conv=>lhs;unfold Lib.validGoD;rw [Tc hr,Tc hv]
    have ih:=fun out=>Ztp (g+1) (r.drop (Lib.decodeL r).2) out (by rw [Tk];omega)
    simp only [Nat.add_sub_cancel] at ih;have henc:=Lib.encode_decode r hr hv;rw [hvf,hpk];simp only;have hq:W6 (g+1+1) r out=match ZcF (Lib.decodeL r).1 with
      | some b=>W6 (g+1) (r.drop (Lib.decodeL r).2) (out++[92,b])
      | none=>if (Lib.decodeL r).1<32 then none else W6 (g+1) (r.drop (Lib.decodeL r).2) (out++Lib.encodeRune (Lib.decodeL r).1):=by
     conv=>lhs;unfold W6
     rw [Tc hr];rfl
    have lowb:(Lib.decodeL r).1<128→r.getD 0 0=UInt8.ofNat (Lib.decodeL r).1:=fun h=>by
     have e:=(Ziu r (by rw [hpk];simp only;omega) (by rw [hpk];simp only;omega)).2.1;rw [hpk] at e;simp only at e;have e':(Lib.decodeL r).1=(r.getD 0 0).toNat:=by omega
     rw [e',UInt8.ofNat_toNat]
    rw [hq]
    by_cases h1:(Lib.decodeL r).1=10
    ·rw [Tf (by omega),ih,show ZcF (Lib.decodeL r).1=some 110 by rw [h1];rfl]
    ·rw [Tc (by omega)]
     by_cases h2:(Lib.decodeL r).1=9
     ·rw [Tf (by omega),ih,show ZcF (Lib.decodeL r).1=some 116 by rw [h2];rfl]
     ·rw [Tc (by omega)]
      by_cases h3:(Lib.decodeL r).1=34
      ·rw [Tf (by omega),ih,show ZcF (Lib.decodeL r).1=some 34 by rw [h3];rfl,lowb (by omega),h3];rfl
      ·by_cases h4:(Lib.decodeL r).1=92
       ·rw [Tf (by omega),ih,show ZcF (Lib.decodeL r).1=some 92 by rw [h4];rfl,lowb (by omega),h4];rfl
       ·rw [Tc (by omega),show ZcF (Lib.decodeL r).1=none by unfold ZcF;rw [Tc h1,Tc h2,Tc h3,Tc h4]];simp only
        by_cases h5:(Lib.decodeL r).1<32
        ·rw [Tf (by omega),Tf h5];simp
        ·rw [Tc (by omega),Tc h5,ih,henc]
theorem Zo5 (s:Bs):WP s=(W7 (s.length+1) s [34]).map (·++[34]):=by
 rw [Ztp _ _ _ (by omega),Nat.add_sub_cancel];unfold WP Lib.validD
 split <;> rfl
noncomputable def Zum:Tbl:=[(165,Zdj)]
theorem Zhj:PCalls (GG w0 nG) 95 Vw:=by
 refine pc (tbl:=Zum) ⟨⟨Zhi,U0⟩,trivial⟩ Tryz.func95 ?_;intro args σ K h
 unfold Vw at h
 split at h
 ·rename_i s
  obtain ⟨hs,hbad,hgood⟩:=h;refine ⟨Zb [(4,⟨[4,5],[0],fun vs σ=>∃(out:Bs) (i f:Nat),vs=[.sl 0 5 (Zi out),.d (.int .i64 i)]∧σ=⟨[],[0],1⟩∧(i≤s.length∧s.length<i+f∧out.length≤4 * i+1)∧W7 f (s.drop i) out=W7 (s.length+1) s [34],fun vs _=>match vs with | [_,.d (.int _ n)]=>((s.length:Int) - n).toNat | _=>0⟩)],0,false,by simp,Ta rfl,?_⟩;(conv=>whnf);refine ⟨fun r hr=>by (simp at hr;rcases hr with rfl <;> rfl),(show (0+1) * 1≤2 ^ 47 by omega),by simp,?_⟩;(conv=>whnf);refine ⟨⟨[34],0,s.length+1,rfl,rfl,⟨by omega,by omega,by simp⟩,by rw [Sh]⟩,?_⟩;intro vs σ1 hI
  obtain ⟨out,i,f,rfl,rfl,⟨hi1,hi2,hol⟩,hgo⟩:=hI;obtain ⟨f,rfl⟩:∃g,f=g+1:=⟨f - 1,by omega⟩
  have hbl:=Yq out;have hq:=Zo5 s;have hpl:=Zit (s.drop i);have hpr:=WK (s.drop i);have hple:=ZoR (s.drop i);(conv=>whnf);refine ZAf (fun h2=>?_) (fun h2=>?_)
  ·have h2':i<s.length:=by omega
   have hne:¬s.drop i=[]:=fun g=>by have:=congrArg List.length g;rw [Tk] at this;simp at this;omega
   conv=>whnf
   refine ⟨⟨by omega,by omega,hs⟩,?_⟩;(conv=>whnf);generalize hc0:(pk (s.drop ((i:Int)).toNat)).1=c;have hc:(pk (s.drop i)).1=c:=hc0;have hp2:c≠-1→i+(pk (s.drop i)).2≤s.length:=fun g=>by
    have:=(hple (by rw [hc];exact g)).2.1;rw [Tk] at this;omega
   refine ZAf (fun h3=>?_) (fun h3=>?_)
   ·have g1:W7 (f+1) (s.drop i) out=W7 f ((s.drop i).drop (pk (s.drop i)).2) (out++[92,110]):=by rw [Zah,Tc hne,Tf (by rw [hc];exact h3)]
    have g3:=hp2 (by omega);(conv=>whnf);refine ⟨fun r hr=>by (simp at hr;rcases hr with rfl | rfl <;> rfl),(show ((Zi out).length+2) * 1≤2 ^ 47 by omega),(show (Zi out).length+2≤2 ^ 47 by omega),?_⟩;(conv=>whnf);refine Or.inl ⟨InR.i64 (by simp only [Tj];omega) (by simp only [Tj];omega),?_⟩;(conv=>whnf);refine ⟨⟨out++[92,110],i+(pk (s.drop i)).2,f,?_,rfl,⟨g3,by omega,by rw [Tb];simp;omega⟩,by rw [← Tu];exact g1.symm.trans hgo⟩,?_⟩
    ·rw [Yp];rfl
    ·exact m56
   ·conv=>whnf
    refine ZAf (fun h4=>?_) (fun h4=>?_)
    ·have g1:W7 (f+1) (s.drop i) out=W7 f ((s.drop i).drop (pk (s.drop i)).2) (out++[92,116]):=by rw [Zah,Tc hne,Tc (by rw [hc];exact h3),Tf (by rw [hc];exact h4)]
     have g3:=hp2 (by omega);(conv=>whnf);refine ⟨fun r hr=>by (simp at hr;rcases hr with rfl | rfl <;> rfl),(show ((Zi out).length+2) * 1≤2 ^ 47 by omega),(show (Zi out).length+2≤2 ^ 47 by omega),?_⟩;(conv=>whnf);refine Or.inl ⟨InR.i64 (by simp only [Tj];omega) (by simp only [Tj];omega),?_⟩;(conv=>whnf);refine ⟨⟨out++[92,116],i+(pk (s.drop i)).2,f,?_,rfl,⟨g3,by omega,by rw [Tb];simp;omega⟩,by rw [← Tu];exact g1.symm.trans hgo⟩,?_⟩
     ·rw [Yp];rfl
     ·exact m56
    ·have esc:(c=34∨c=92)→W7 (f+1) (s.drop i) out=W7 f ((s.drop i).drop (pk (s.drop i)).2) (out++[92,s.getD i 0]):=fun g=>by
      rw [Zah,Tc hne,Tc (by rw [hc];exact h3),Tc (by rw [hc];exact h4),Tf (by rw [hc];exact g),Lib.getD_dropU,Sa]
     conv=>whnf
     refine ZAf (fun h5=>?_) (fun h5=>?_)
     ·have g1:=esc (.inl h5);exact m38
     ·conv=>whnf
      refine ZAf (fun h6=>?_) (fun h6=>?_)
      ·have g1:=esc (.inr h6);exact m38
      ·have tail:W7 (f+1) (s.drop i) out=if c<32 then none else W7 f ((s.drop i).drop (pk (s.drop i)).2) (out++(s.drop i).take (pk (s.drop i)).2):=by
        rw [Zah,Tc hne,Tc (by rw [hc];exact h3),Tc (by rw [hc];exact h4),Tc (by rw [hc];simp only [not_or];exact ⟨h5,h6⟩),hc]
       conv=>whnf
       refine ZAf (fun h7=>?_) (fun h7=>?_)
       ·conv=>whnf
        exact hbad (by rw [hq,← hgo,tail,Tf h7];rfl)
       ·have g3:=hp2 (by omega);rw [Tc h7] at tail;have ec:cut s ((i:Int)).toNat ((i:Int)+((pk (s.drop ((i:Int)).toNat)).2:Int)).toNat=(s.drop i).take (pk (s.drop i)).2:=by
         rw [X8];congr 1;simp only [Tj];omega
        have htl:((s.drop i).take (pk (s.drop i)).2).length=(pk (s.drop i)).2:=by rw [Sl,Tk];omega
        conv=>whnf
        refine Or.inl ⟨InR.i64 (by simp only [Tj];omega) (by simp only [Tj];omega),?_⟩;(conv=>whnf);refine ⟨by omega,by simp only [Tj];omega,by simp only [Tj];omega,?_⟩;(conv=>whnf);rw [ec];refine ⟨fun r hr=>Zaf _ r hr,(show ((Zi out).length+(Zi ((s.drop i).take (pk (s.drop i)).2)).length) * 1≤2 ^ 47 by rw [Yq,Yq];omega),(show (Zi out).length+(Zi ((s.drop i).take (pk (s.drop i)).2)).length≤2 ^ 47 by rw [Yq,Yq];omega),?_⟩;(conv=>whnf);refine Or.inl ⟨InR.i64 (by simp only [Tj];omega) (by simp only [Tj];omega),?_⟩;(conv=>whnf);refine ⟨⟨out++(s.drop i).take (pk (s.drop i)).2,i+(pk (s.drop i)).2,f,?_,rfl,⟨g3,by omega,by rw [Tb];omega⟩,by rw [← Tu];exact tail.symm.trans hgo⟩,?_⟩
        ·rw [Yp];rfl
        ·exact m56
  ·have hnil:s.drop i=[]:=Tz (by omega);have g1:W7 (s.length+1) s [34]=some out:=by rw [← hgo];simp [W7,hnil]
   conv=>whnf
   refine ⟨fun r hr=>by (simp at hr;rcases hr with rfl <;> rfl),(show ((Zi out).length+1) * 1≤2 ^ 47 by omega),(show (Zi out).length+1≤2 ^ 47 by omega),?_⟩;(conv=>whnf);refine ⟨out++[34],by rw [← Zi,Yp];rfl,?_⟩;(conv=>whnf);exact hgood _ (by rw [hq,g1];rfl)
 ·exact h.elim
end Go.PM.Lex
end

section
namespace Go.PM
theorem U2 {G:GE} {g:FuncId} {sp:Zr} (hent:Vp G.P g)
  (h:∀args σ K,sp args σ K→∀(e:Env) (w:World) (vs:Array Value),SRel G e σ w→ArgsRel G e σ w args vs→∃pv σ' v,K (.ret pv) σ'∧Calls G.P g vs w fun en w'=>en=.returned v∧VRel G e σ' w' pv v∧SRel G e σ' w'∧Later e σ w e σ' w'):PCalls G g sp where
 enters:=hent
 calls:=fun args σ K hs n e w vs hS ha=>by
  obtain ⟨pv,σ',v,hK,hc⟩:=h args σ K hs e w vs hS ha;refine CallsIn.mono (callsIn_wide.2 hc) fun en w' ⟨he,hv,hS',hL⟩=>?_
  subst he;exact ⟨.ret pv,σ',e,hK,⟨v,rfl,hv⟩,hS',hL⟩
section
variable {G:GE} {T:Tab} {e:Env} {σ:St} {w:World}
theorem ZeL (hT:TabOK T G.P) (hS:SRel G e σ w) {t:TypeId} {b off:Nat} {x:PV} {v:Value} {l cs:List PV} {ty:TypeId} (hb:σ.bx[b]?=some (.cells ty cs)) (hx:VRel G e σ w x v) (hl:x.cells=some l)
  (hlen:l.length=(T.get t).size) (hfit:off+l.length≤cs.length) (hk:(T.get t).kind≠.other) :
  Stepped e σ w e (σ.set b (.cells ty (Z9 cs off l))) (w.setCells (e.β b) off v.cells.toList)∧SRel G e (σ.set b (.cells ty (Z9 cs off l))) (w.setCells (e.β b) off v.cells.toList):=by
 obtain ⟨w1,hr,h1,h2⟩:=ZaV hT hS hb hx hl hlen hfit hk;obtain ⟨i,d,z,hi,hd,hs,hby,hkd,hz,hz2,_⟩:=(hT.get hk).ex;obtain ⟨vs,hv1,hv2,hv3⟩:=hS.box b _ hb;obtain ⟨hc1,hc2⟩:=Um hx hl;have hvc:v.cells.toList.length=l.length:=by simpa using hc1
 have hone:∀u∈v.cells.toList,u.oneCell'=true:=fun u hu=>by
  exact m175
 have hrun:=run_storeCells_cells (P:=G.P) (e.β b) off v.cells.toList 0 w (fun j hj=>by
   have:off+j<vs.size:=by omega
   simp [World.cell?,hv1,this]) (fun j hj=>by simp [World.frozen?,hv1]) hone
 simp only [Sa] at hrun;have hr2:(Instr.storeAt t (.pointer (some ⟨e.β b,off,none⟩)) v).run G.P w=.ok () (w.setCells (e.β b) off v.cells.toList):=by
  have h1':v.cells.size=i.size:=by rw [hc1,hlen,hs]
  exact m85
 rw [hr2] at hr
 cases hr
 exact ⟨h1,h2⟩
end
end Go.PM
namespace Go.PM.Lex
open Go.Proofs Go.Shelf
variable {w0:World} {nG:Nat}
theorem u50:Tryz.prog.underlying 79=some (.pointer 82):=by kernel_rfl
theorem u95:Tryz.prog.underlying 300=some .unsafePointer:=by kernel_rfl
theorem i53:∃j,Tryz.prog.info? 82=some j∧j.size=2:=by
 have h:(Tryz.prog.info? 82).map (·.size)=some 2:=by kernel_rfl
 obtain ⟨j,h1,h2⟩:=Option.map_eq_some_iff.1 h;exact ⟨j,h1,h2⟩
theorem Zwv:liesAt Tryz.prog Tryz.prog.depth 82 (2 / Tryz.prog.cellsOf 82) 0 82 1=true:=by kernel_rfl
theorem ZiB (b:Nat) (w:World) (h0:w.cell? ⟨b,0,none⟩=some (.pointer (some ⟨b,0,none⟩))) :
  Calls Tryz.prog 214 #[.pointer (some ⟨b,0,none⟩)] w fun e w'=>e=.returned (.tuple #[])∧w'=w:=by
 obtain ⟨j,hj,hjs⟩:=i53
 go_enter Tryz.func214,Tryz.ntmps214
 go_wp2
 rw [Go.Lib.run_neq_ptr_same w _ u50 hj]
 go_wp2
 go_end0
 exact ⟨rfl,rfl⟩
theorem Zng (b:Nat) (w:World) (h0:w.cell? ⟨b,0,none⟩=some (.pointer none)) (hsh:w.shape? b=some (82,2)) (hfz:w.frozen? ⟨b,0,none⟩=false) :
  Calls Tryz.prog 214 #[.pointer (some ⟨b,0,none⟩)] w fun e w'=>e=.returned (.tuple #[])∧w'=w.setCell ⟨b,0,none⟩ (.pointer (some ⟨b,0,none⟩)):=by
 obtain ⟨j,hj,hjs⟩:=i53
 go_enter Tryz.func214,Tryz.ntmps214
 go_wp2
 rw [Go.Lib.run_to_unsafe w ⟨b,0,none⟩ u50 u95 hj (by rw [hjs];decide) hsh (Nat.zero_lt_succ 1)];simp only [Result.andThen];rw [Oper.upon_value]
 go_wp2
 rw [run_callFunc_extern Tryz.func269 (by kernel_rfl) (by kernel_rfl) (by kernel_rfl) (e:=Extern.AbiNoEscape.same) (by kernel_rfl)];rw [Go.Lib.run_noEscape];simp only [Result.andThen];rw [Oper.upon_value]
 go_wp2
 rw [Go.Lib.run_from_unsafe w ⟨b,0,none⟩ u95 u50 hj hsh Zwv];simp only [Result.andThen];rw [Oper.upon_value]
 go_wp2
 go_end0
 exact ⟨rfl,rfl⟩
noncomputable def Wl:Zr:=fun args σ K=>match args,σ with
 | [.ptr 0 0],⟨[.cells t [p,q]],tk,nx⟩=>((p=.d .nilp∨p=.ptr 0 0)∧t=82)∧K (.ret (.tuple [])) ⟨[.cells t [.ptr 0 0,q]],tk,nx⟩
 | _,_=>False
theorem Jq:Za Wl:=fun args σ K K' hK h=>by
 unfold Wl at h ⊢;split at h <;> first | exact ⟨h.1,hK _ _ h.2⟩ | exact h.elim
theorem Zdl:PCalls (GG w0 nG) 214 Wl:=U2 (Zo Tryz.func214 (by kernel_rfl) rfl) fun args σ K h e w vs hS ha=>by
 unfold Wl at h
 split at h
 ·rename_i t p q tk nx
  obtain ⟨⟨hp,rfl⟩,hK⟩:=h;obtain ⟨u,rfl,hu⟩:=Ziz ha;obtain ⟨cv,hc1,hc2,hc3⟩:=hS.box 0 _ rfl;have hcs:cv.size=2:=hc2;obtain ⟨x0,hx0⟩:∃x,cv[0]?=some x:=⟨cv[0]'(by omega),by simp [hcs]⟩
  have hr0:=(hc3 0 p x0 rfl hx0).1
  cases hu with
  | ptr b off hb =>
  refine ⟨_,_,.tuple #[],hK,?_⟩;rcases hp with rfl | rfl
  ·cases hr0 with
   | d _ _ hd =>
   cases hd
   refine Calls.mono (Zng (e.β 0) w ?_ ?_ ?_) fun en w' ⟨h1,h2⟩=>?_
   ·simp [World.cell?,hc1,hx0]
   ·simp only [World.shape?,hc1,hcs]
   ·simp [World.frozen?,hc1]
   ·have hst:=ZeL (G:=GG w0 nG) (T:=Zko) Z8 hS (t:=79) (b:=0) (off:=0) (x:=.ptr 0 0) (v:=.pointer (some ⟨e.β 0,0,none⟩)) (l:=[.ptr 0 0]) (cs:=[.d .nilp,q]) (ty:=82) rfl (.ptr 0 0 hb) rfl rfl (by simp) (by intro h;cases h);rw [h2];exact ⟨h1,.tuple [] #[] rfl (fun i x u hx=>by simp at hx),hst.2,hst.1.toLater⟩
  ·exact m96
 ·exact h.elim
theorem Zo6 {P:Program} {ρ:Ren} (L:Lays.n169 P ρ) (X:Builder.Extra P ρ) (b g cap:Nat) (p:Value) (cur:Array Value) (fz:Nat×Nat) (l:Bs) (w:World) (h0:l≠[])
  (hbk:w.heap[b]?=some (.cells #[p,.slice (some ⟨g,0,none⟩) l.length cap] (ρ.t 72) (0,0))) (hg:w.heap[g]?=some (.cells cur (ρ.t 5) fz)) (hn:l.length≤cur.size) (hcap:cap≠0) (hbig:l.length≤9223372036854775807)
  (hcell:∀j x,l[j]?=some x→w.cell? ⟨g,j,none⟩=some (.int .u8 x.toNat)) :
  Calls P (ρ.f 169) #[.pointer (some ⟨b,0,none⟩)] w fun e w'=>e=.returned (.string ⟨l.toArray⟩)∧w'=w.drew.freeze ⟨g,0,none⟩ l.length:=by
 have c1:w.drew.cell? ⟨b,1,none⟩=some (.slice (some ⟨g,0,none⟩) l.length cap):=by
  have:w.drew.heap[b]?=some (.cells #[p,.slice (some ⟨g,0,none⟩) l.length cap] (ρ.t 72) (0,0)):=hbk;rw [Go.Lib.cell_of_heap this];rfl
 have hSD:(Builtin.unsafeSliceData_ #[(ρ.t 37)] (ρ.t 127) #[.slice (some ⟨g,0,none⟩) l.length cap]).run P w.drew=.ok (.pointer (some ⟨g,0,none⟩)) w.drew :=
  Go.Lib.run_unsafeSliceData_row _ _ _ _ _ _ hcap
 have hUS:(Builtin.unsafeString_ #[(ρ.t 127),(ρ.t 3)] (ρ.t 9) #[.pointer (some ⟨g,0,none⟩),.int .i64 l.length]).run P w.drew=.ok (.string ⟨l.toArray⟩) (w.drew.freeze ⟨g,0,none⟩ l.length):=by
  exact m86
 have mixed:=L.mixed;have t72:=L.t72;have a72:=L.a72;have z72:=L.z72;have v72:=L.v72;have u72:=run_underlying L.t72;have t70:=L.t70;have a70:=L.a70;have z70:=L.z70;have v70:=L.v70;have u70:=run_underlying L.t70;have t37:=L.t37;have a37:=L.a37;have z37:=L.z37;have v37:=L.v37;have u37:=run_underlying L.t37;have t127:=L.t127;have a127:=L.a127;have z127:=L.z127;have v127:=L.v127;have u127:=run_underlying L.t127;have t3:=L.t3;have a3:=L.a3;have z3:=L.z3;have v3:=L.v3;have u3:=run_underlying L.t3;have t9:=L.t9;have a9:=L.a9;have z9:=L.z9;have v9:=L.v9;have u9:=run_underlying L.t9;have t5:=X.t5;have a5:=X.a5;have z5:=X.z5;have v5:=X.v5;have u5:=run_underlying X.t5
 go_enter L.f169,Body.n169_ntmps ρ
 go_wp2
 go_region_o
 all_goals (go_wp2;go_ret;exact ⟨rfl,rfl⟩)
theorem U3 (w:World) (g n k:Nat) (hk:k≠g):(w.drew.freeze ⟨g,0,none⟩ n).heap[k]?=w.heap[k]?:=by
 unfold World.freeze
 split
 ·rfl
 ·simp only [Array.getElem?_modify];rw [Tc (fun h=>hk h.symm)];rfl
theorem Zkx (w:World) (g n:Nat) {cs:Array Value} {ty:TypeId} {fz:Nat×Nat} (h:w.heap[g]?=some (.cells cs ty fz)):∃fz',(w.drew.freeze ⟨g,0,none⟩ n).heap[g]?=some (.cells cs ty fz'):=by
 have h':w.drew.heap[g]?=some (.cells cs ty fz):=h;unfold World.freeze
 split
 ·exact ⟨fz,h'⟩
 ·simp only [Array.getElem?_modify,if_true,h',Ss];exact ⟨_,rfl⟩
theorem Zww {G:GE} {e:Env} {w w':World} {t:TypeId} {p:PV} {rows:List (List D)} (hp:p=.d .nilp∨p=.ptr 0 0) (hS:SRel G e ⟨[.cells t [p,.sl 0 5 rows]],[0],1⟩ w)
  (hsz:w.heap.size≤w'.heap.size) (hos:w'.os=w.os) (htp:w'.tape=w.tape) (hout:w'.output=w.output)
  (hcell:∀b off u,w.cell? ⟨b,off,none⟩=some u→w'.cell? ⟨b,off,none⟩=some u)
  (hblk:∀b,b<w.heap.size→(∀q,e.M 0=some q→q.1≠b)→w'.heap[b]?=w.heap[b]?) :
  SRel G e ⟨[.cells t [p,.d (.sl rows)]],[],0⟩ w'∧Later e ⟨[.cells t [p,.sl 0 5 rows]],[0],1⟩ w e ⟨[.cells t [p,.d (.sl rows)]],[],0⟩ w':=by
 have hL:Later e ⟨[.cells t [p,.sl 0 5 rows]],[0],1⟩ w e ⟨[.cells t [p,.d (.sl rows)]],[],0⟩ w':={
  len:=Tq _
  beta:=fun _ _=>rfl
  X:=rfl
  pres:=fun b off u hu ho=>⟨⟨ho.1,ho.2.1,fun x hx=>by cases hx⟩,hcell b off u hu⟩
  blocks:=fun b hb h1 h2=>hblk b hb fun q hq=>h2 0 (by simp) q hq
  size:=hsz
  os:=hos
  tape:=htp
  output:=hout
  fresh:=fun i h1 h2=>by simp at h1 h2;omega
  ftok:=fun x hx=>by cases hx }
 have hlt:=hS.lt (i:=0) (by simp);have hblk0:w'.heap[e.β 0]?=w.heap[e.β 0]?:=hblk _ hlt fun q hq=>fun h=>(hS.own 0 (by simp) q hq).2.1 0 (by simp) h.symm
 refine ⟨?_,hL⟩;exact {
  inj:=hS.inj
  box:=fun i x hx=>by
   match i,hx with
   | 0,hx =>
    cases hx
    obtain ⟨cv,h1,h2,h3⟩:=hS.box 0 _ rfl;refine ⟨cv,hblk0.trans h1,h2,fun j y u hy hu=>?_⟩
    match j,hy with
    | 0,hy =>
     exact m101
    | 1,hy =>
     cases hy
     obtain ⟨q1,q2⟩:=h3 1 (.sl 0 5 rows) u rfl hu;refine ⟨?_,q2⟩
     cases q1 with
     | sl _ _ _ _ hn hd ht=>exact .d _ _ (hd.later hL)
    | j+2,hy=>simp at hy
   | i+1,hx=>simp at hx
  low:=hS.low
  tkn:=fun x hx=>by cases hx
  own:=fun x hx=>by cases hx
  dis:=fun x y hx=>by cases hx
  xlt:=fun b off hx=>TD (hS.xlt b off hx) hsz
  xown:=fun x hx=>by cases hx
  glob:=fun b hb=>by
   exact m183
  big:=TO hS.big hsz }
theorem XN (l:Bs):(Zi l).length=l.length:=by simp [Zi]
theorem Zwx:(Tryz.prog.info? 5).map (·.size)=some 1:=by kernel_rfl
theorem ZiC:PCalls (GG w0 nG) 31 Zad:=U2 (Zo Tryz.func31 (by kernel_rfl) rfl) fun args σ K h e w vs hS ha=>by
 unfold Zad at h
 split at h
 ·rename_i t p el rows
  obtain ⟨l,⟨rfl,rfl,rfl,hp,hbig⟩,hK⟩:=h;obtain ⟨u,rfl,hu⟩:=Ziz ha;obtain ⟨cv,hc1,hc2,hc3⟩:=hS.box 0 _ rfl;have hcs:cv.size=2:=hc2;obtain ⟨v0,v1,rfl⟩:∃v0 v1,cv=#[v0,v1]:=by
   obtain ⟨lst⟩:=cv
   match lst,hcs with
   | [a,b],_=>exact ⟨a,b,rfl⟩
  have hr1:=(hc3 1 (.sl 0 5 (Zi l)) v1 rfl rfl).1
  cases hu with
  | ptr b off hb =>
  refine ⟨_,_,.string ⟨l.toArray⟩,hK,?_⟩;have fin:∀w',w.heap.size≤w'.heap.size→w'.os=w.os→w'.tape=w.tape→w'.output=w.output →
    (∀b off u,w.cell? ⟨b,off,none⟩=some u→w'.cell? ⟨b,off,none⟩=some u) →
    (∀b,b<w.heap.size→(∀q,e.M 0=some q→q.1≠b)→w'.heap[b]?=w.heap[b]?) →
    VRel (GG w0 nG) e ⟨[.cells 82 [p,.d (.sl (Zi l))]],[],0⟩ w' (.d (.str l)) (.string ⟨l.toArray⟩)∧SRel (GG w0 nG) e ⟨[.cells 82 [p,.d (.sl (Zi l))]],[],0⟩ w'∧Later e ⟨[.cells 82 [p,.sl 0 5 (Zi l)]],[0],1⟩ w e ⟨[.cells 82 [p,.d (.sl (Zi l))]],[],0⟩ w':=fun w' h1 h2 h3 h4 h5 h6 =>
   ⟨.mkstr,Zww hp hS h1 h2 h3 h4 h5 h6⟩
  have grown:∀w',Grows w w'→_:=fun w' g=>fin w' g.size g.os g.tape g.output (fun b off u hu=>(g.cell (UQ hu)).trans hu) (fun b hb _=>g.old b hb)
  cases hr1 with
  | sl _ _ _ _ hn hd ht =>
  rcases ht (by simp) with ⟨rfl,hrows,hM⟩ | ⟨sz,g1,g2,g3,g,off,cap,cs,ty,fz,rfl,g4,g5,g6,⟨g7,rfl,rfl,g8⟩,g9,hM⟩
  ·have hl:l=[]:=by simpa [Zi] using hrows
   subst hl;refine (Any.Builder_String_nil Tryz.lays169 Tryz.Builder_Extra_169 w.heap.size (e.β 0) v0 w hc1).mono fun en w' ⟨h1,h2⟩=>?_
   exact ⟨h1,grown w' (ZAm h2)⟩
  ·have hsz1:sz=1:=by
    have:(Tryz.prog.info? 5).map (·.size)=some sz:=g1
    rw [Zwx] at this;cases this;rfl
   subst hsz1;rw [XN] at g5 hc1 g9 hM hd
   by_cases hl:l=[]
   ·subst hl;refine (Any.Builder_String_room Tryz.lays169 Tryz.Builder_Extra_169 w.heap.size (e.β 0) g cap v0 w (by omega) hc1).mono fun en w' ⟨h1,h2⟩=>?_
    exact ⟨h1,grown w' (ZAm h2)⟩
   ·have hcell:∀j x,l[j]?=some x→w.cell? ⟨g,j,none⟩=some (.int .u8 x.toNat):=by
     exact m35
    obtain ⟨fz',hfz'⟩:=Zkx w g l.length g6;refine (Zo6 Tryz.lays169 Tryz.Builder_Extra_169 (e.β 0) g cap v0 cs fz l w hl hc1 g6 (by omega) (by omega) (by omega) hcell).mono fun en w' ⟨h1,h2⟩=>?_
    rw [h2];refine ⟨h1,fin _ ?_ ?_ ?_ ?_ ?_ ?_⟩
    ·unfold World.freeze;split <;> first | exact Tq _ | (simp only [Array.size_modify];exact Tq _)
    ·exact m182
    ·exact m182
    ·exact m182
    ·exact m131
    ·intro b hb hq
     exact U3 w g l.length b fun h=>hq _ hM h.symm
 ·exact h.elim
end Go.PM.Lex
end

section
namespace Go.PM.Lex
open Go.Proofs
variable {w0:World} {nG:Nat}
structure GlobOK (w0:World) (nG:Nat):Prop where
 big:7<nG
 maxLen:∃m,w0.cell? ⟨2,0,none⟩=some (.int .i64 m)
 errSyntax:∃ev,w0.cell? ⟨6,0,none⟩=some ev∧(ev=.nilIface∨∃te pe,ev=.iface te pe)
 errRange:∃ev,w0.cell? ⟨7,0,none⟩=some ev∧(ev=.nilIface∨∃te pe,ev=.iface te pe)
noncomputable def ZiD:Zr:=fun args σ K=>match args with
 | [.d (.str _),.d (.str s)]=>s.length<4294967281∧K (.ret .undef) σ
 | _=>False
theorem Zgu:Za ZiD:=fun args σ K K' hK h=>by
 unfold ZiD at h ⊢;split at h <;> first | exact ⟨h.1,hK _ _ h.2⟩ | exact h.elim
theorem ZiE {e:Env} {σ:St} {w:World} {k:Nat} {u:Value} (hS:SRel (GG w0 nG) e σ w) (hk:k<nG) (h:w0.cell? ⟨k,0,none⟩=some u):w.cell? ⟨k,0,none⟩=some u:=by
 have:=hS.glob k hk;simpa [World.cell?,this] using h
theorem ZfJ (hg:GlobOK w0 nG):PCalls (GG w0 nG) 332 ZiD where
 enters:=Zo Tryz.func332 (by kernel_rfl) rfl
 calls:=fun args σ K hs n e w vs hS ha=>by
  unfold ZiD at hs
  split at hs
  ·rename_i fn s
   obtain ⟨hl,hK⟩:=hs;obtain ⟨u,v,rfl,hu,hv⟩:=Zkv ha
   cases hu.dstr;cases hv.dstr
   obtain ⟨ev,h1,h2⟩:=hg.errSyntax;refine CallsIn.mono (callsIn_wide.2 (Tryz.strconv_syntaxError _ _ ev w (show s.toArray.size≤_ by simp;omega) (ZiE hS (by have:=hg.big;omega) h1) h2)) fun en w' ⟨N,h3,_,_,h4⟩=>?_
   exact m158
  ·exact hs.elim
theorem Zhk (hg:GlobOK w0 nG):PCalls (GG w0 nG) 333 ZiD where
 enters:=Zo Tryz.func333 (by kernel_rfl) rfl
 calls:=fun args σ K hs n e w vs hS ha=>by
  unfold ZiD at hs
  split at hs
  ·rename_i fn s
   obtain ⟨hl,hK⟩:=hs;obtain ⟨u,v,rfl,hu,hv⟩:=Zkv ha
   cases hu.dstr;cases hv.dstr
   obtain ⟨ev,h1,h2⟩:=hg.errRange;refine CallsIn.mono (callsIn_wide.2 (Tryz.strconv_rangeError _ _ ev w (show s.toArray.size≤_ by simp;omega) (ZiE hS (by have:=hg.big;omega) h1) h2)) fun en w' ⟨N,h3,_,_,h4⟩=>?_
   exact m158
  ·exact hs.elim
noncomputable def JN:Zr:=fun args σ K=>match args,σ with
 | [.d (.str _),.d (.str s),.d (.int .i64 _),.d (.int .i64 _),.iface 343 (.d (.int .i64 c))],⟨[],[],0⟩=>((c=1∨c=2)∧s.length<4294967281)∧K (.ret (.iface 345 .undef)) ⟨[],[],0⟩
 | _,_=>False
theorem ZfK:Za JN:=fun args σ K K' hK h=>by
 unfold JN at h ⊢;split at h <;> first | exact ⟨h.1,hK _ _ h.2⟩ | exact h.elim
noncomputable def Zyj:Tbl:=[(332,ZiD),(333,ZiD)]
theorem Znh (hg:GlobOK w0 nG):PCalls (GG w0 nG) 324 JN:=by
 refine pc (tbl:=Zyj) ⟨⟨ZfJ hg,Zgu⟩,⟨Zhk hg,Zgu⟩,trivial⟩ Tryz.func324 ?_;intro args σ K h
 unfold JN at h
 split at h
 ·rename_i fn s b0 b1 c
  obtain ⟨⟨hc,hl⟩,h⟩:=h;refine ⟨Zb [],0,false,by simp,Ta rfl,?_⟩;rcases hc with rfl | rfl
  ·conv=>whnf
   refine ⟨hl,?_⟩;exact m54
  ·conv=>whnf
   refine ⟨hl,?_⟩;exact m54
 ·exact h.elim
noncomputable def ZeM:Zr:=fun args σ K=>match args,σ with
 | [.d (.int .u8 c)],⟨[],[],0⟩=>K (.ret (.d (.int .u8 (Zk .or .u8 c 32)))) ⟨[],[],0⟩
 | _,_=>False
theorem ZiF:Za ZeM:=fun args σ K K' hK h=>by
 unfold ZeM at h ⊢;split at h <;> first | exact hK _ _ h | exact h.elim
theorem Zrz:PCalls (GG w0 nG) 330 ZeM:=by
 refine pc (tbl:=[]) trivial Tryz.func330 ?_;intro args σ K h
 unfold ZeM at h
 split at h
 ·refine ⟨Zb [],0,false,by simp,Ta rfl,?_⟩;exact m54
 ·exact h.elim
theorem ZzX:∀n:Fin 256,Xx true (UInt8.ofNat n.val)=true→¬(48≤n.val∧n.val≤57)→Zk .or .u8 (n.val:Int) 32=Zbo (UInt8.ofNat n.val)+87∧10≤Zbo (UInt8.ofNat n.val)∧Zbo (UInt8.ofNat n.val)≤15:=by rw [Ys];decide +kernel
theorem ZiG {b:UInt8} (h:Xx true b=true) (hn:¬(48≤b.toNat∧b.toNat≤57)):Zk .or .u8 (b.toNat:Int) 32=Zbo b+87∧10≤Zbo b∧Zbo b≤15:=by
 have:=ZzX ⟨b.toNat,b.toNat_lt⟩;simp only [UInt8.ofNat_toNat] at this;exact this h hn
theorem ZbP (B:Nat) (l:Bs) (b:UInt8):XB B (l++[b])=XB B l * B+Zbo b:=by simp [XB,List.foldl_append]
theorem ZbQ {l:Bs} {i:Nat} (h:i<l.length):l.take (i+1)=l.take i++[l.getD i 0]:=by
 rw [List.take_succ,Tg h];simp [List.getD,h]
theorem ZlK (B:Nat) (hB:1≤B):∀(l:Bs) (n:Nat),n≤l.foldl (fun n b=>n * B+Zbo b) n
 | [],n=>Tq _
 | b::l,n=>by
  have:=ZlK B hB l (n * B+Zbo b);have h2:n≤n * B:=Nat.le_mul_of_pos_right n hB;simp only [List.foldl_cons];omega
theorem JO (B:Nat) (hB:1≤B) (l:Bs) (i:Nat):XB B (l.take i)≤XB B l:=by
 conv=>rhs;rw [← List.take_append_drop i l]
 unfold XB
 rw [List.foldl_append];exact ZlK B hB _ _
noncomputable def Zwy:Zr:=fun args σ K=>match args,σ with
 | [.d (.str l),.d (.int .i64 base),.d (.int .i64 bits)],⟨[],[],0⟩=>∃hex:Bool,((l.all (Xx hex)=true∧l.length<4294967281)∧base=(if hex then 16 else 10)∧bits=(if hex then 64 else 63)) ∧
   (l=[]→K (.ret (.tuple [.d (.int .u64 0),.iface 343 (.d (.int .i64 2))])) ⟨[],[],0⟩) ∧
   (l≠[]→(if hex then 18446744073709551616 else 9223372036854775808)≤XB (if hex then 16 else 10) l→K (.ret (.tuple [.d (.int .u64 (if hex then 18446744073709551615 else 9223372036854775807)),.iface 343 (.d (.int .i64 1))])) ⟨[],[],0⟩) ∧
   (l≠[]→¬(if hex then 18446744073709551616 else 9223372036854775808)≤XB (if hex then 16 else 10) l→K (.ret (.tuple [.d (.int .u64 (XB (if hex then 16 else 10) l)),.d .nili])) ⟨[],[],0⟩)
 | _,_=>False
theorem Zo7:Za Zwy:=fun args σ K K' hK h=>by
 unfold Zwy at h ⊢
 split at h
 ·obtain ⟨x,h1,h2,h3,h4⟩:=h;exact ⟨x,h1,fun g=>hK _ _ (h2 g),fun g g'=>hK _ _ (h3 g g'),fun g g'=>hK _ _ (h4 g g')⟩
 ·exact h.elim
noncomputable def Zyk:Tbl:=[(330,ZeM)]
theorem Zyl:PCalls (GG w0 nG) 323 Zwy:=by
 refine pc (tbl:=Zyk) ⟨⟨Zrz,ZiF⟩,trivial⟩ Tryz.func323 ?_;intro args σ K h
 unfold Zwy at h
 split at h
 ·rename_i l base bits
  obtain ⟨hex,⟨⟨hall,hl⟩,rfl,rfl⟩,hnil,hover,hgood⟩:=h;have hml:((l.map fun b=>[D.int .u8 (b.toNat:Int)]:List (List D))).length=l.length:=by simp
  cases hex with
  | true =>
   simp only [if_true,Tr,if_false] at hover hgood ⊢;refine ⟨Zb [(36,⟨[101,13,12],[0,1,8,10,11,99,100],fun vs σ=>σ=⟨[],[],0⟩∧∃i:Nat,vs=[.d (.int .i64 i),.d (.int .u64 (XB 16 (l.take i))),.d (.bool false)]∧i≤l.length∧XB 16 (l.take i)<18446744073709551616,muI l.length⟩)],0,false,by simp,Ta rfl,?_⟩;(conv=>whnf);refine ZAf (fun h0=>?_) (fun h0=>?_)
   ·conv=>whnf
    exact hnil h0
   ·have hne:l≠[]:=h0;have hov:=hover hne;have hgd:=hgood hne;(conv=>whnf);refine oiU ?_;(conv=>whnf);refine ⟨by decide,Or.inr ?_⟩;rw [show IntKind.u64.wrap (1 * 2 ^ min (Int.toNat 64) IntKind.u64.bits)=0 from by decide];(conv=>whnf);refine Or.inr ?_;rw [show IntKind.u64.wrap (0 - 1)=18446744073709551615 from by decide];(conv=>whnf);refine ⟨⟨rfl,0,rfl,by omega,by simp [XB]⟩,?_⟩;intro vs σ1 hI
    obtain ⟨rfl,i,rfl,hi,hN⟩:=hI;have hle:=JO 16 (by omega) l;have hstep:=fun h:i<l.length=>ZbP 16 (l.take i) (l.getD i 0)
    generalize hNN:XB 16 (l.take i)=N at hN hstep ⊢;(conv=>whnf);refine ZAf (fun h2=>?_) (fun h2=>?_)
    ·have h2':i<l.length:=by simpa using h2
     have hrow:(l.map fun b=>[D.int .u8 (b.toNat:Int)])[((i:Int)).toNat]?=some [D.int .u8 ((l.getD i 0).toNat:Int)]:=by
      rw [Tj,TL,Tg h2'];simp [List.getD,h2']
     have hd:Xx true (l.getD i 0)=true:=Tv.1 hall _ (by rw [TS,Tg h2'];exact TP h2');have hs:=hstep h2';rw [← ZbQ h2'] at hs;have hl1:=hle (i+1);have hb:=(l.getD i 0).toNat_lt;generalize hbb:l.getD i 0=b at hrow hd hs hb;(conv=>whnf);refine ⟨_,by omega,hrow,?_⟩;(conv=>whnf);refine ZAf (fun h3=>?_) (fun h3=>?_)
     ·have h3':b.toNat=95:=by omega
      simp [Xx,Zj,h3'] at hd
     ·conv=>whnf
      refine ZAf (fun h4=>?_) (fun h4=>?_)
      ·conv=>whnf
       refine ZAf (fun h5=>?_) (fun h5=>?_)
       ·conv=>whnf
        refine oiB ?_;have hD:(Zbo b:Int)=(b.toNat:Int) - 48:=by unfold Zbo;rw [Tf (by omega)];omega
        conv=>whnf
        refine oiB ?_;(conv=>whnf);refine ZAf (fun h6=>?_) (fun h6=>?_)
        ·omega
        ·conv=>whnf
         refine ZAf (fun h7=>?_) (fun h7=>?_)
         ·exact m236
         ·conv=>whnf
          refine oiU ?_;(conv=>whnf);refine oiU ?_;(conv=>whnf);refine oiU ?_;(conv=>whnf)
          by_cases hbig:(N:Int) * 16+((b.toNat:Int) - 48)≤18446744073709551615
          ·refine oiU ?_;(conv=>whnf);refine ZAf (fun h8=>?_) (fun h8=>?_)
           ·omega
           ·conv=>whnf
            refine ZAf (fun h9=>?_) (fun h9=>?_)
            ·exact m236
            ·conv=>whnf
             refine oiO ?_;(conv=>whnf);refine ⟨⟨rfl,i+1,?_,by omega,by omega⟩,?_⟩
             ·have e:((XB 16 (l.take (i+1)):Nat):Int)=(N:Int) * 16+((b.toNat:Int) - 48):=by omega
              rw [e];rfl
             ·exact m225
          ·have hw:IntKind.u64.wrap ((N:Int) * 16+((b.toNat:Int) - 48))=(N:Int) * 16+((b.toNat:Int) - 48) - 18446744073709551616:=by
            exact m75
           exact m62
       ·skip
        exact m16
      ·skip
       exact m16
    ·exact m141
  | false =>
   simp only [if_true,Tr,if_false] at hover hgood ⊢;refine ⟨Zb [(36,⟨[101,13,12],[0,1,8,10,11,99,100],fun vs σ=>σ=⟨[],[],0⟩∧∃i:Nat,vs=[.d (.int .i64 i),.d (.int .u64 (XB 10 (l.take i))),.d (.bool false)]∧i≤l.length∧XB 10 (l.take i)<9223372036854775808,muI l.length⟩)],0,false,by simp,Ta rfl,?_⟩;(conv=>whnf);refine ZAf (fun h0=>?_) (fun h0=>?_)
   ·conv=>whnf
    exact hnil h0
   ·have hne:l≠[]:=h0;have hov:=hover hne;have hgd:=hgood hne;(conv=>whnf);refine oiU ?_;(conv=>whnf);refine ⟨by decide,Or.inr ?_⟩;rw [show IntKind.u64.wrap (1 * 2 ^ min (Int.toNat 63) IntKind.u64.bits)=9223372036854775808 from by decide];(conv=>whnf);refine Or.inr ?_;rw [show IntKind.u64.wrap (9223372036854775808 - 1)=9223372036854775807 from by decide];(conv=>whnf);refine ⟨⟨rfl,0,rfl,by omega,by simp [XB]⟩,?_⟩;intro vs σ1 hI
    obtain ⟨rfl,i,rfl,hi,hN⟩:=hI;have hle:=JO 10 (by omega) l;have hstep:=fun h:i<l.length=>ZbP 10 (l.take i) (l.getD i 0)
    generalize hNN:XB 10 (l.take i)=N at hN hstep ⊢;(conv=>whnf);refine ZAf (fun h2=>?_) (fun h2=>?_)
    ·have h2':i<l.length:=by simpa using h2
     have hrow:(l.map fun b=>[D.int .u8 (b.toNat:Int)])[((i:Int)).toNat]?=some [D.int .u8 ((l.getD i 0).toNat:Int)]:=by
      rw [Tj,TL,Tg h2'];simp [List.getD,h2']
     have hd:Xx false (l.getD i 0)=true:=Tv.1 hall _ (by rw [TS,Tg h2'];exact TP h2');have hs:=hstep h2';rw [← ZbQ h2'] at hs;have hl1:=hle (i+1);have hb:=(l.getD i 0).toNat_lt;generalize hbb:l.getD i 0=b at hrow hd hs hb;(conv=>whnf);refine ⟨_,by omega,hrow,?_⟩;(conv=>whnf);refine ZAf (fun h3=>?_) (fun h3=>?_)
     ·have h3':b.toNat=95:=by omega
      simp [Xx,Zj,h3'] at hd
     ·conv=>whnf
      have hd':48≤b.toNat∧b.toNat≤57:=by
       simp only [Xx,Sc,T4,Zj,TG] at hd;omega
      refine ZAf (fun h4=>?_) (fun h4=>?_)
      ·conv=>whnf
       refine ZAf (fun h5=>?_) (fun h5=>?_)
       ·conv=>whnf
        refine oiB ?_;have hD:(Zbo b:Int)=(b.toNat:Int) - 48:=by unfold Zbo;rw [Tf (by omega)];omega
        conv=>whnf
        refine oiB ?_;(conv=>whnf);refine ZAf (fun h6=>?_) (fun h6=>?_)
        ·omega
        ·conv=>whnf
         refine ZAf (fun h7=>?_) (fun h7=>?_)
         ·exact m236
         ·conv=>whnf
          refine oiU ?_;(conv=>whnf);refine oiU ?_;(conv=>whnf);refine oiU ?_;(conv=>whnf)
          by_cases hbig:(N:Int) * 10+((b.toNat:Int) - 48)≤18446744073709551615
          ·refine oiU ?_;(conv=>whnf);refine ZAf (fun h8=>?_) (fun h8=>?_)
           ·omega
           ·conv=>whnf
            refine ZAf (fun h9=>?_) (fun h9=>?_)
            ·exact m236
            ·conv=>whnf
             refine oiO ?_;(conv=>whnf);refine ⟨⟨rfl,i+1,?_,by omega,by omega⟩,?_⟩
             ·have e:((XB 10 (l.take (i+1)):Nat):Int)=(N:Int) * 10+((b.toNat:Int) - 48):=by omega
              rw [e];rfl
             ·exact m225
          ·have hw:IntKind.u64.wrap ((N:Int) * 10+((b.toNat:Int) - 48))=(N:Int) * 10+((b.toNat:Int) - 48) - 18446744073709551616:=by
            exact m75
           exact m62
       ·omega
      ·omega
    ·exact m141
 ·exact h.elim
end Go.PM.Lex
end

section
namespace Go.PM.Lex
open Go.Proofs
variable {w0:World} {nG:Nat}
theorem Zun:∀n:Fin 64,Zk .or .u8 128 (n.val:Int)=128+n.val:=by rw [Ys];decide +kernel
theorem Zuo:∀n:Fin 32,Zk .or .u8 192 (n.val:Int)=192+n.val:=by rw [Ys];decide +kernel
theorem Zup:∀n:Fin 16,Zk .or .u8 224 (n.val:Int)=224+n.val:=by rw [Ys];decide +kernel
theorem Zuq:∀n:Fin 8,Zk .or .u8 240 (n.val:Int)=240+n.val:=by rw [Ys];decide +kernel
theorem Zur:∀n:Fin 256,Zk .and .u8 (n.val:Int) 63=n.val % 64:=by rw [Ys];decide +kernel
theorem Ztq {x:Int} (h0:0≤x) (h1:x<64):Zk .or .u8 128 x=128+x:=by obtain ⟨n,rfl⟩:∃n:Nat,x=n:=⟨x.toNat,by omega⟩;exact Zun ⟨n,by omega⟩
theorem ZzY {x:Int} (h0:0≤x) (h1:x<32):Zk .or .u8 192 x=192+x:=by obtain ⟨n,rfl⟩:∃n:Nat,x=n:=⟨x.toNat,by omega⟩;exact Zuo ⟨n,by omega⟩
theorem ZzE {x:Int} (h0:0≤x) (h1:x<16):Zk .or .u8 224 x=224+x:=by obtain ⟨n,rfl⟩:∃n:Nat,x=n:=⟨x.toNat,by omega⟩;exact Zup ⟨n,by omega⟩
theorem ZzZ {x:Int} (h0:0≤x) (h1:x<8):Zk .or .u8 240 x=240+x:=by obtain ⟨n,rfl⟩:∃n:Nat,x=n:=⟨x.toNat,by omega⟩;exact Zuq ⟨n,by omega⟩
theorem a63 {x:Int} (h0:0≤x) (h1:x<256):Zk .and .u8 x 63=x % 64:=by obtain ⟨n,rfl⟩:∃n:Nat,x=n:=⟨x.toNat,by omega⟩;rw [Zur ⟨n,by omega⟩]
theorem wu8 (n:Int):IntKind.u8.wrap n=n % 256:=by simp [IntKind.wrap,IntKind.bits,IntKind.signed]
theorem Vl (c:Int):Zi (Lib.encodeRune c)=(Lib.encodeRuneZ c).map fun x=>[D.int .u8 x]:=by
 have h:=Lib.encodeRuneZ_byte c;unfold Lib.encodeRune Zi
 rw [List.map_map];refine Sq fun x hx=>?_
 have:=h x hx;simp [UInt8.toNat_ofNat'];omega
noncomputable def WR:Zr:=fun args σ K=>match args,σ with
 | [.sl 0 e rows,.d (.int .i32 c)],⟨[],[0],1⟩=>(e=5∧(∀r∈rows,r.length=1)∧rows.length<70368744177664∧0≤c∧c≤1114111)∧K (.ret (.sl 0 5 (rows++Zi (Lib.encodeRune c)))) ⟨[],[0],1⟩
 | _,_=>False
theorem ZcH:Za WR:=fun args σ K K' hK h=>by
 unfold WR at h ⊢;split at h <;> first | exact ⟨h.1,hK _ _ h.2⟩ | exact h.elim
noncomputable def X9:Zr:=fun args σ K=>match args,σ with
 | [.sl 0 e rows,.d (.int .i32 c)],⟨[],[0],1⟩=>(e=5∧(∀r∈rows,r.length=1)∧rows.length<70368744177664∧128≤c∧c≤1114111)∧K (.ret (.sl 0 5 (rows++Zi (Lib.encodeRune c)))) ⟨[],[0],1⟩
 | _,_=>False
theorem ZbR:Za X9:=fun args σ K K' hK h=>by
 unfold X9 at h ⊢;split at h <;> first | exact ⟨h.1,hK _ _ h.2⟩ | exact h.elim
theorem ZfL:PCalls (GG w0 nG) 271 X9:=by
 refine pc (tbl:=[]) trivial Tryz.func271 ?_;intro args σ K h
 unfold X9 at h
 split at h
 ·rename_i e rows c
  obtain ⟨⟨rfl,hr1,hrl,hc0,hc1⟩,h⟩:=h;refine ⟨Zb [],0,true,by simp,Ta rfl,?_⟩;have e6:c.fdiv (2 ^ min (Int.toNat 6) IntKind.i32.bits)=c / 64:=by rw [show (2:Int) ^ min (Int.toNat 6) IntKind.i32.bits=64 by decide];exact So _ (by omega)
  have e12:c.fdiv (2 ^ min (Int.toNat 12) IntKind.i32.bits)=c / 4096:=by rw [show (2:Int) ^ min (Int.toNat 12) IntKind.i32.bits=4096 by decide];exact So _ (by omega)
  have e18:c.fdiv (2 ^ min (Int.toNat 18) IntKind.i32.bits)=c / 262144:=by rw [show (2:Int) ^ min (Int.toNat 18) IntKind.i32.bits=262144 by decide];exact So _ (by omega)
  conv=>whnf
  refine Or.inl ⟨InR.u32 (by omega) (by omega),?_⟩;(conv=>whnf);refine ZAf (fun h1=>?_) (fun h1=>?_)
  ·skip
   have g:K (.ret (.sl 0 5 (rows++[[D.int .u8 (Zk .or .u8 192 (IntKind.u8.wrap (c.fdiv (2 ^ min (Int.toNat 6) IntKind.i32.bits))))],[D.int .u8 (Zk .or .u8 128 (Zk .and .u8 (IntKind.u8.wrap (c)) 63))]]))) ⟨[],[0],1⟩:=by
    have e:Zi (Lib.encodeRune c)=[[D.int .u8 (Zk .or .u8 192 (IntKind.u8.wrap (c.fdiv (2 ^ min (Int.toNat 6) IntKind.i32.bits))))],[D.int .u8 (Zk .or .u8 128 (Zk .and .u8 (IntKind.u8.wrap (c)) 63))]]:=by
     rw [Vl,Lib.encodeRuneZ_two hc0 (by omega)];simp only [e6,e12,e18,wu8,TJ,TX];rw [ZzY (by omega) (by omega),a63 (by omega) (by omega),Ztq (by omega) (by omega),show c / 64 % 256=c / 64 by omega,show c % 256 % 64=c % 64 by omega]
     all_goals (try omega)
     (try (congr 1 <;> omega))
    rw [e] at h;exact h
   conv=>whnf
   refine ⟨by decide,?_⟩;(conv=>whnf);refine Or.inr ?_;(conv=>whnf);refine Or.inr ?_;(conv=>whnf);refine ⟨fun r hr=>by (simp at hr;rcases hr with rfl | rfl <;> rfl),(show (rows.length+2) * 1≤2 ^ 47 by omega),(show rows.length+2≤2 ^ 47 by omega),?_⟩;(conv=>whnf);exact g
  ·conv=>whnf
   refine ZAf (fun h2=>?_) (fun h2=>?_)
   ·conv=>whnf
    refine ZAf (fun h2'=>?_) (fun h2'=>absurd h2 h2');exact m17
   ·conv=>whnf
    refine ZAf (fun h3=>?_) (fun h3=>?_)
    ·conv=>whnf
     refine ZAf (fun h4=>?_) (fun h4=>?_)
     ·skip
      exact m17
     ·conv=>whnf
      refine ZAf (fun h5=>?_) (fun h5=>?_)
      ·conv=>whnf
       refine ZAf (fun h6=>?_) (fun h6=>?_)
       ·skip
        have g:K (.ret (.sl 0 5 (rows++[[D.int .u8 (Zk .or .u8 240 (IntKind.u8.wrap (c.fdiv (2 ^ min (Int.toNat 18) IntKind.i32.bits))))],[D.int .u8 (Zk .or .u8 128 (Zk .and .u8 (IntKind.u8.wrap (c.fdiv (2 ^ min (Int.toNat 12) IntKind.i32.bits))) 63))],[D.int .u8 (Zk .or .u8 128 (Zk .and .u8 (IntKind.u8.wrap (c.fdiv (2 ^ min (Int.toNat 6) IntKind.i32.bits))) 63))],[D.int .u8 (Zk .or .u8 128 (Zk .and .u8 (IntKind.u8.wrap (c)) 63))]]))) ⟨[],[0],1⟩:=by
         have e:Zi (Lib.encodeRune c)=[[D.int .u8 (Zk .or .u8 240 (IntKind.u8.wrap (c.fdiv (2 ^ min (Int.toNat 18) IntKind.i32.bits))))],[D.int .u8 (Zk .or .u8 128 (Zk .and .u8 (IntKind.u8.wrap (c.fdiv (2 ^ min (Int.toNat 12) IntKind.i32.bits))) 63))],[D.int .u8 (Zk .or .u8 128 (Zk .and .u8 (IntKind.u8.wrap (c.fdiv (2 ^ min (Int.toNat 6) IntKind.i32.bits))) 63))],[D.int .u8 (Zk .or .u8 128 (Zk .and .u8 (IntKind.u8.wrap (c)) 63))]]:=by
          rw [Vl,Lib.encodeRuneZ_four (by omega) (by omega)];simp only [e6,e12,e18,wu8,TJ,TX];rw [ZzZ (by omega) (by omega),a63 (by omega) (by omega),a63 (by omega) (by omega),a63 (by omega) (by omega),Ztq (by omega) (by omega),Ztq (by omega) (by omega),Ztq (by omega) (by omega),show c / 262144 % 256=c / 262144 by omega,show c / 4096 % 256 % 64=c / 4096 % 64 by omega,show c / 64 % 256 % 64=c / 64 % 64 by omega,show c % 256 % 64=c % 64 by omega]
          all_goals (try omega)
          (try (congr 1 <;> omega))
         rw [e] at h;exact h
        conv=>whnf
        refine ⟨by decide,?_⟩;(conv=>whnf);refine Or.inr ?_;(conv=>whnf);refine ⟨by decide,?_⟩;(conv=>whnf);refine Or.inr ?_;(conv=>whnf);refine ⟨by decide,?_⟩;(conv=>whnf);refine Or.inr ?_;(conv=>whnf);refine Or.inr ?_;(conv=>whnf);refine ⟨fun r hr=>by (simp at hr;rcases hr with rfl | rfl | rfl | rfl <;> rfl),(show (rows.length+4) * 1≤2 ^ 47 by omega),(show rows.length+4≤2 ^ 47 by omega),?_⟩;(conv=>whnf);exact g
       ·omega
      ·omega
    ·conv=>whnf
     refine ZAf (fun h5=>?_) (fun h5=>?_)
     ·omega
     ·skip
      have g:K (.ret (.sl 0 5 (rows++[[D.int .u8 (239)],[D.int .u8 (191)],[D.int .u8 (189)]]))) ⟨[],[0],1⟩:=by
       have e:Zi (Lib.encodeRune c)=[[D.int .u8 (239)],[D.int .u8 (191)],[D.int .u8 (189)]]:=by
        rw [Vl,Lib.encodeRuneZ_bad (by omega)];rfl
       rw [e] at h;exact h
      exact m220
 ·exact h.elim
noncomputable def Zym:Tbl:=[(271,X9)]
theorem Zhl:PCalls (GG w0 nG) 219 WR:=by
 refine pc (tbl:=Zym) ⟨⟨ZfL,ZbR⟩,trivial⟩ Tryz.func219 ?_;intro args σ K h
 unfold WR at h
 split at h
 ·rename_i e rows c
  obtain ⟨⟨rfl,hr1,hrl,hc0,hc1⟩,h⟩:=h;refine ⟨Zb [],0,true,by simp,Ta rfl,?_⟩;(conv=>whnf);refine Or.inl ⟨InR.u32 (by omega) (by omega),?_⟩;(conv=>whnf);refine ZAf (fun h1=>?_) (fun h1=>?_)
  ·have e:Zi (Lib.encodeRune c)=[[D.int .u8 c]]:=by rw [Vl,Lib.encodeRuneZ_one hc0 h1];rfl
   rw [e] at h;(conv=>whnf);refine oiB ?_;exact m199
  ·conv=>whnf
   refine ⟨⟨rfl,hr1,by omega,by omega,by omega⟩,?_⟩;exact m54
 ·exact h.elim
noncomputable def Zyn:Tbl:=[(214,Wl)]
theorem ZrA:TblOK (GG w0 nG) Zyn:=⟨⟨Zdl,Jq⟩,trivial⟩
theorem Zdm:PCalls (GG w0 nG) 150 Wj:=by
 refine ZbE Z8 mixed ZrA Tryz.func150 rfl (by kernel_rfl) (by kernel_rfl) ?_;intro args σ K h
 unfold Wj at h
 split at h
 ·rename_i c t p e rows
  obtain ⟨⟨hp,rfl,rfl,hr1,hrl⟩,h⟩:=h;refine ⟨Zb [],1,true,by simp,Ta rfl,?_⟩;rcases hp with rfl | rfl
  ·conv=>whnf
   refine ⟨⟨.inl rfl,rfl⟩,?_⟩;exact m199
  ·conv=>whnf
   refine ⟨⟨.inr rfl,rfl⟩,?_⟩;exact m199
 ·exact h.elim
theorem Zyo (c:Int):(Lib.encodeRune c).length≤4:=by unfold Lib.encodeRune;rw [Ti];exact (Lib.encodeRuneZ_length c).2
noncomputable def Zyp:Tbl:=[(214,Wl),(219,WR)]
theorem ZrB:TblOK (GG w0 nG) Zyp:=⟨⟨Zdl,Jq⟩,⟨Zhl,ZcH⟩,trivial⟩
theorem Zdn:PCalls (GG w0 nG) 152 Wk:=by
 refine ZbE Z8 mixed ZrB Tryz.func152 rfl (by kernel_rfl) (by kernel_rfl) ?_;intro args σ K h
 unfold Wk at h
 split at h
 ·rename_i c t p e rows
  obtain ⟨⟨hp,rfl,rfl,hr1,hrl,hc0,hc1⟩,h⟩:=h;refine ⟨Zb [],1,true,by simp,Ta rfl,?_⟩;rcases hp with rfl | rfl
  ·conv=>whnf
   refine ⟨⟨.inl rfl,rfl⟩,?_⟩;(conv=>whnf);refine ⟨⟨rfl,hr1,hrl,hc0,hc1⟩,?_⟩;(conv=>whnf);refine Or.inl ⟨InR.i64 (by rw [Tb,XN];have:=Lib.encodeRuneZ_length c;omega) (by rw [Tb,XN];have:=Zyo c;omega),?_⟩;exact m54
  ·conv=>whnf
   refine ⟨⟨.inr rfl,rfl⟩,?_⟩;(conv=>whnf);refine ⟨⟨rfl,hr1,hrl,hc0,hc1⟩,?_⟩;(conv=>whnf);refine Or.inl ⟨InR.i64 (by rw [Tb,XN];omega) (by rw [Tb,XN];have:=Zyo c;omega),?_⟩;exact m54
 ·exact h.elim
end Go.PM.Lex
end

section
namespace Go.PM.Lex
open Go.Proofs
variable {w0:World} {nG:Nat}
noncomputable def Vx:Zr:=fun args σ K=>match args with
 | [.d (.int .i32 c)]=>K (.ret (.d (.bool (Lib.validRune c)))) σ
 | _=>False
theorem ZdM:Za Vx:=fun args σ K K' hK h=>by
 unfold Vx at h ⊢;split at h <;> first | exact hK _ _ h | exact h.elim
theorem Zwz (c:Int) (h:128≤c) (h2:c≤1114111):2≤(Utf8.encode c).data.toList.length∧(Utf8.encode c).data.toList.length≤4∧∀b∈(Utf8.encode c).data.toList,128≤b.toNat:=by
 unfold Utf8.encode
 simp only;generalize hn:(if Utf8.valid c then c.toNat else Utf8.runeError)=n;have hn1:128≤n∧n≤1114111:=by
  rw [← hn];split
  ·omega
  ·simp [Utf8.runeError]
 rw [Tc (by omega)];split
 ·simp [UInt8.toNat_ofNat'];omega
 ·split
  ·simp [UInt8.toNat_ofNat'];omega
  ·simp [UInt8.toNat_ofNat'];omega
theorem Zo8 {l:Bs} {c:UInt8} (h:∀b∈l,b.toNat<128) (hc:128≤c.toNat):Lib.indexByte l c=-1:=by
 induction l with
 | nil=>rfl
 | cons b l ih =>
  have h1:=ih (fun x hx=>h x (Tw _ hx));have h2:(b == c)=false:=by
   simp only [beq_eq_false_iff_ne];intro e;subst e;have:=h b (by simp);omega
  simp [Lib.indexByte,h1,h2]
theorem ZrC {s:Bs} (h:∀b∈s,b.toNat<128) (i:Nat):(s.getD i 0).toNat<128:=by
 rw [TS]
 by_cases hi:i<s.length
 ·rw [Tg hi];exact h _ (TP hi)
 ·rw [Sg (by omega)];decide
theorem Zo9 {s:Bs} (h:∀b∈s,128≤b.toNat) {i:Nat} (hi:i<s.length):128≤(s.getD i 0).toNat:=by
 rw [TS,Tg hi];exact h _ (TP hi)
theorem Zyq {n:Int} {k:Nat} (h:n=k) (hk:k<256):(n.toNat.toUInt8).toNat=k:=by
 subst h;simp [UInt8.toNat_ofNat'];omega
noncomputable def Zyr:Tbl:=[(215,XL),(216,Vx)]
theorem ZiH (ht:TblOK (GG w0 nG) Zyr):PCalls (GG w0 nG) 151 XM:=by
 refine pc ht Tryz.func151 ?_;intro args σ K h
 unfold XM at h
 split at h
 ·rename_i s c
  obtain ⟨⟨hs,hc0,hc1⟩,h⟩:=h;have hsl:s.length=4:=by rcases hs with rfl | rfl <;> rfl
  have hsa:∀b∈s,b.toNat<128:=by rcases hs with rfl | rfl <;> decide
  have hsd:∀p,p<4→(decodeL s p).1<128∧(decodeL s p).2=1:=by
   intro p hp
   rcases hs with rfl | rfl
   all_goals (match p,hp with | 0,_=>exact ⟨by decide,by decide⟩ | 1,_=>exact ⟨by decide,by decide⟩ | 2,_=>exact ⟨by decide,by decide⟩ | 3,_=>exact ⟨by decide,by decide⟩)
  refine ⟨Zb [(38,⟨[],[0,175],fun vs σ=>vs=[]∧∃p:Nat,p≤4∧σ=⟨[.iter s p],[],0⟩,fun _ σ=>match σ.bx with | [.iter _ p]=>4 - p | _=>0⟩),
    (5,⟨[9],[0,1,7,8],fun vs σ=>σ=⟨[],[],0⟩∧vs=[.d (.int .i64 (((Utf8.encode c).data.toList.length:Int) - 1))],fun _ _=>0⟩)],0,false,by simp,Ta rfl,?_⟩
  have hneg:128≤c→K (.ret (.d (.int .i64 (-1)))) ⟨[],[],0⟩:=fun g=>by
   have:ZeF s c=-1:=by unfold ZeF;rw [Tc (by omega)]
   rw [this] at h;exact h
  conv=>whnf
  refine ZAf (fun h1=>?_) (fun h1=>?_)
  ·conv=>whnf
   refine ZAf (fun h2=>?_) (fun h2=>?_)
   ·have e:ZeF s c=Lib.indexByte s c.toNat.toUInt8:=by unfold ZeF;rw [Tf h2]
    rw [e] at h;(conv=>whnf);refine oiB ?_;exact m54
   ·conv=>whnf
    refine ZAf (fun h3=>?_) (fun h3=>?_)
    ·conv=>whnf
     refine ⟨⟨rfl,0,by omega,rfl⟩,?_⟩;intro vs σ1 hI
     obtain ⟨rfl,p,hp,rfl⟩:=hI;(conv=>whnf);refine ZAf (fun h4=>?_) (fun h4=>?_)
     ·have hd:=hsd p (by omega);(conv=>whnf);refine ZAf (fun h5=>?_) (fun h5=>?_)
      ·omega
      ·conv=>whnf
       refine ⟨⟨rfl,p+1,by omega,by rw [hd.2];rfl⟩,?_⟩;exact (show 4 - (p+(decodeL s p).2)<4 - p by omega)
     ·conv=>whnf
      exact hneg (by omega)
    ·conv=>whnf
     refine ZAi (fun h4=>?_) (fun h4=>?_)
     ·conv=>whnf
      exact hneg (by omega)
     ·obtain ⟨e1,e2,e3⟩:=Zwz c (by omega) hc1;have hl:=Zo9 e3 (i:=(Utf8.encode c).data.toList.length - 1) (by omega);(conv=>whnf);refine oiO ?_;(conv=>whnf);refine ⟨⟨rfl,rfl⟩,?_⟩;intro vs σ1 hI
      obtain ⟨rfl,rfl⟩:=hI;(conv=>whnf);refine ZAf (fun h5=>?_) (fun h5=>?_)
      ·conv=>whnf
       refine ⟨by omega,by omega,?_⟩;(conv=>whnf);refine ⟨by omega,by omega,?_⟩;(conv=>whnf);have hlo:=ZrC hsa (((Utf8.encode c).data.toList.length:Int) - 1).toNat;have hhi:128≤((Utf8.encode c).data.toList.getD (((Utf8.encode c).data.toList.length:Int) - 1).toNat 0).toNat:=Zo9 e3 (by omega);refine ZAh (fun h6=>?_) (fun h6=>?_)
       ·conv=>whnf
        refine oiO ?_;(conv=>whnf);refine ⟨by omega,by omega,?_⟩;(conv=>whnf);refine ⟨by omega,by omega,?_⟩;(conv=>whnf);generalize hx:Lib.indexByte _ _=x;have:x=-1:=by
         rw [← hx];refine Zo8 (fun b hb=>hsa b (List.mem_of_mem_take (List.mem_of_mem_drop hb))) ?_;rw [Zyq rfl (UInt8.toNat_lt _)];exact hhi
        subst this;(conv=>whnf);exact hneg (by omega)
       ·omega
      ·omega
  ·omega
 ·exact h.elim
end Go.PM.Lex
end

section
namespace Go.PM.Lex
open Go.Proofs
variable {w0:World} {nG:Nat}
noncomputable def ZwA:Tbl:=[(323,Zwy),(324,JN)]
theorem ZiI (hg:GlobOK w0 nG):PCalls (GG w0 nG) 312 Vt:=by
 refine pc (tbl:=ZwA) ⟨⟨Zyl,Zo7⟩,⟨Znh hg,ZfK⟩,trivial⟩ Tryz.func312 ?_;intro args σ K h
 unfold Vt at h
 split at h
 ·rename_i l base bits
  obtain ⟨hex,⟨hl,rfl,rfl⟩,hbad,hgood⟩:=h;refine ⟨Zb [],0,false,by simp,Ta rfl,?_⟩;(conv=>whnf);refine ⟨hex,⟨hl,rfl,rfl⟩,fun h0=>?_,fun h0 h1=>?_,fun h0 h1=>?_⟩
  ·conv=>whnf
   refine ⟨⟨.inr rfl,hl.2⟩,?_⟩;(conv=>whnf);exact hbad (.inl h0) _
  ·conv=>whnf
   refine ⟨⟨.inl rfl,hl.2⟩,?_⟩;(conv=>whnf);exact hbad (.inr h1) _
  ·conv=>whnf
   exact hgood (by simp only [not_or];exact ⟨h0,h1⟩)
 ·exact h.elim
end Go.PM.Lex
end

section
namespace Go.PM.Lex
open Go.Proofs
variable {w0:World} {nG:Nat}
theorem Zpa:PCalls (GG w0 nG) 209 ZaI:=Zua ⟨⟨Znf,ZfI⟩,⟨VU,XG⟩,trivial⟩
theorem Zys:PCalls (GG w0 nG) 279 Zgm:=Zuc ⟨⟨VU,XG⟩,⟨JM,W5⟩,trivial⟩
theorem ZwB:PCalls (GG w0 nG) 211 ZeD:=Zue ⟨⟨Zpa,Vs⟩,⟨ZbH,Vf⟩,⟨Zhf,Xh⟩,trivial⟩
theorem ZwC (hg:GlobOK w0 nG):PCalls (GG w0 nG) 226 ZcD:=Zrm ⟨⟨Zkw,ZeC⟩,⟨VU,XG⟩,⟨JM,W5⟩,⟨Zrt (by have:=hg.big;omega) hg.maxLen,Ziq⟩,trivial⟩
theorem Zus (hg:GlobOK w0 nG):PCalls (GG w0 nG) 281 Zae:=ZoU ⟨⟨VU,XG⟩,⟨Zhf,Xh⟩,⟨ZiI hg,ZdL⟩,⟨Zpa,Vs⟩,⟨ZbH,Vf⟩,trivial⟩
theorem ZiJ:PCalls (GG w0 nG) 216 Vx:=Xt (Zo Tryz.func216 (by kernel_rfl) rfl) fun args σ K h e w vs hS ha=>by
 unfold Vx at h
 split at h
 ·obtain ⟨u,rfl,hu⟩:=Ziz ha
  cases hu.dint
  exact ⟨_,h,_,fun _ _=>.mkbool,(Tryz.utf8_ValidRune _ w).mono fun en w' ⟨h1,h2⟩=>⟨h1,by rw [h2];exact Grows.refl _⟩⟩
 ·exact h.elim
theorem Zgv:PCalls (GG w0 nG) 151 XM:=ZiH ⟨⟨JM,W5⟩,⟨ZiJ,ZdM⟩,trivial⟩
theorem Zyt:PCalls (GG w0 nG) 280 Zgn:=Zug ⟨⟨Zgv,Jp⟩,⟨Zdm,Jn⟩,⟨Zpa,Vs⟩,⟨Zdn,Jo⟩,⟨ZiC,ZbF⟩,trivial⟩
theorem Zyu (hg:GlobOK w0 nG):PCalls (GG w0 nG) 227 Zgo:=Zui ⟨⟨Zpa,Vs⟩,⟨Zys,Zkp⟩,⟨ZbH,Vf⟩,⟨Zhf,Xh⟩,⟨Zyt,Zkq⟩,⟨Zus hg,Zhe⟩,⟨ZwB,ZeE⟩,trivial⟩
theorem Zyv (hg:GlobOK w0 nG):TblOK (GG w0 nG) Zhh:=⟨⟨ZwC hg,Zis⟩,⟨Zyu hg,Zkr⟩,trivial⟩
theorem Zut (hg:GlobOK w0 nG):PCalls (GG w0 nG) 79 ZbM:=Zo3 (Zyv hg) ⟨⟨Zwu,Znd⟩,trivial⟩
end Go.PM.Lex
end

section
namespace Go.PM.Lex
open Go.Proofs
variable {w0:World} {nG:Nat}
def Zky (s:Bs):Bool:=Zf (pk s).1 && decide (XA s=s.length)
noncomputable def U4:Zr:=fun args σ K=>match args,σ with
 | [.d (.str s)],⟨[],[],0⟩=>s.length<4294967281∧K (.ret (.d (.bool (Zky s)))) ⟨[],[],0⟩
 | _,_=>False
theorem Zdo:Za U4:=fun args σ K K' hK h=>by
 unfold U4 at h ⊢;split at h <;> first | exact ⟨h.1,hK _ _ h.2⟩ | exact h.elim
noncomputable def ZwD:Tbl:=[(230,U1),(231,ZcG)]
theorem ZwE:PCalls (GG w0 nG) 163 U4:=by
 refine pc (tbl:=ZwD) ⟨⟨ZbO,WQ⟩,⟨ZlJ,Zdk⟩,trivial⟩ Tryz.func163 ?_;intro args σ K h
 unfold U4 at h
 split at h
 ·rename_i s
  obtain ⟨hs,h⟩:=h;refine ⟨Zb [],0,false,by decide,Ta rfl,?_⟩;(conv=>whnf);refine ⟨⟨by omega,hs⟩,?_⟩;(conv=>whnf);refine ZAi (fun h1=>?_) (fun h1=>?_)
  ·have h1':Zf (pk s).1=false:=by simpa using h1
   conv=>whnf
   rw [Zky,h1'] at h;exact h
  ·have h1':Zf (pk s).1=true:=by simpa using h1
   conv=>whnf
   refine ⟨⟨by omega,by omega,hs,by simpa using h1'⟩,?_⟩;(conv=>whnf);refine ZbG h ?_;rw [Zky,h1',TE,decide_eq_decide];have:s.drop (Int.toNat 0)=s:=Sh;rw [this];omega
 ·exact h.elim
noncomputable def Zyw:Tbl:=[(209,ZaI),(210,VQ),(211,ZeD)]
theorem Zyx (ht:TblOK (GG w0 nG) Zyw):PCalls (GG w0 nG) 147 U4:=by
 refine pc ht Tryz.func147 ?_;intro args σ K h
 unfold U4 at h
 split at h
 ·rename_i s
  obtain ⟨hs,h⟩:=h;refine ⟨Zb [],0,false,by decide,Ta rfl,?_⟩;have hpr:=WK (s.drop (Int.toNat 0));have hd:s.drop (Int.toNat 0)=s:=Sh;(conv=>whnf);refine ⟨⟨by omega,by omega⟩,?_⟩;(conv=>whnf);refine ⟨⟨hpr.1,by omega⟩,?_⟩;(conv=>whnf);refine ZAi (fun h1=>?_) (fun h1=>?_)
  ·have h1':Zf (pk s).1=true:=by rw [← hd];exact h1
   conv=>whnf
   refine ⟨⟨by omega,by omega,hs⟩,?_⟩;(conv=>whnf);refine ZbG h ?_;rw [Zky,h1',TE,decide_eq_decide,hd];omega
  ·have h1':Zf (pk s).1=false:=by rw [← hd];exact h1
   conv=>whnf
   rw [Zky,h1'] at h;exact h
 ·exact h.elim
end Go.PM.Lex
end

section
namespace Go.PM.Lex
def Zj0 (s:Bs):Bool:=Zky s && (!decide (s=[95]) && !Zcm s)
def Zy (op:Nat):Nat:=if op=16 then 0 else if op=17 then 0 else if op=15 then 1 else if op=18 then 2 else if op=19 then 2 else if op=10 then 3 else if op=11 then 3 else if op=12 then 4 else if op=13 then 4 else if op=14 then 4
 else if op=8 then 5 else if op=9 then 5 else if op=20 then 6 else if op=21 then 6 else if op=22 then 6 else if op=23 then 6 else if op=24 then 6 else if op=25 then 6 else if op=6∨op=7 then 6 else if op=1∨op=2∨op=3∨op=4∨op=5 then 6 else 0
def Ya (op:Nat):Bs:=if op=16 then [98,111,114] else if op=17 then [98,120,111,114] else if op=15 then [98,97,110,100] else if op=18 then [115,104,108] else if op=19 then [115,104,114] else if op=10 then [43] else if op=11 then [45] else if op=12 then [42] else if op=13 then [47] else if op=14 then [37]
 else if op=8 then [45] else if op=9 then [126] else if op=20 then [99,97,116] else if op=21 then [115,116,114,108,101,110] else if op=22 then [115,117,98,115,116,114] else if op=23 then [99,111,100,101] else if op=24 then [115,116,114] else if op=25 then [110,117,109] else []
def Yj (op:Nat):Int:=if op=16 then 2 else if op=17 then 2 else if op=15 then 2 else if op=18 then 2 else if op=19 then 2 else if op=10 then 2 else if op=11 then 2 else if op=12 then 2 else if op=13 then 2 else if op=14 then 2
 else if op=8 then 1 else if op=9 then 1 else if op=20 then 2 else if op=21 then 1 else if op=22 then 3 else if op=23 then 1 else if op=24 then 1 else if op=25 then 1 else if op=6∨op=7 then -1 else if op=1∨op=2∨op=3∨op=4∨op=5 then 0 else -2
def Z3 (op:Nat) (text:Bs):Bool:=if op=1∨op=7 then Zj0 text else if op=4 then (WP text).isSome else decide (text=[])
mutual
def ZQ:Ex→Bool
 | .mk op text n args _=>decide (-2<Yj op) && ((decide (Yj op<0) || decide ((args.length:Int)=Yj op)) && ((decide (n=0) || decide (op=3)) && (Z3 op text && Zpb args)))
def Zpb:List Ex→Bool
 | []=>true
 | e::l=>ZQ e && Zpb l
end
theorem Zm (l:List Ex):Zpb l=l.all ZQ:=by induction l with | nil=>rfl | cons x l ih=>simp [Zpb,ih]
def ZY (op:Nat) (rel:Bs) (args body:Nat):Bool :=
 if op=1∨op=2 then Zj0 rel && !decide (0<body)
 else if 3≤op∧op≤8 then decide (rel=[]) && (decide (args=2) && !decide (0<body))
 else if op=9 then decide (rel=[]) && (decide (args=1) && decide (0<body))
 else if 9<op∧op≤12 then decide (rel=[]) && (decide (args=2) && decide (0<body)) else false
mutual
def ZZ:Li→Bool
 | .mk op rel args body _=>ZY op rel args.length body.length && (Zpb args && ZrD body)
def ZrD:List Li→Bool
 | []=>true
 | e::l=>ZZ e && ZrD l
end
theorem Z2 (l:List Li):ZrD l=l.all ZZ:=by induction l with | nil=>rfl | cons x l ih=>simp [ZrD,ih]
def JP (r:Ru):Bool:=Zj0 r.head && (r.args.all ZQ && r.body.all ZZ)
def Zcl (d:Nat):UInt8:=if d<10 then UInt8.ofNat (48+d) else UInt8.ofNat (87+d)
def V9 (base:Nat):Nat→Nat→Bs
 | 0,_=>[]
 | f+1,n=>if n<base then [Zcl n] else V9 base f (n / base)++[Zcl (n % base)]
def X0 (base n:Nat):Bs:=V9 base (n+1) n
def ZdV (n:Int):Bs:=if n<0 then [48,120]++X0 16 (n+18446744073709551616).toNat else X0 10 n.toNat
def ZrE (s:Bs):Bs:=(WP s).getD []
def Zl (sep:Bs):List Bs→Bs
 | []=>[]
 | [x]=>x
 | x::l=>x++(sep++Zl sep l)
def cmm:Bs:=[44,32]
def opE:Ex→Nat | .mk op _ _ _ _=>op
def Zn8 (want:Nat) (p:Nat×Bs):Bs:=if p.1<want then [40]++(p.2++[41]) else p.2
def exA (w1 w2:Nat) (sep:Bs):List (Nat×Bs)→Bs
 | []=>[]
 | [a]=>Zn8 w1 a
 | a::b::_=>Zn8 w1 a++(sep++Zn8 w2 b)
def exN (op:Nat) (text:Bs) (n:Int) (ps:List (Nat×Bs)):Bs :=
 if Zy op<5 then exA (Zy op) (Zy op+1) ([32]++(Ya op++[32])) ps
 else if Zy op=5 then Ya op++exA 5 5 [] ps
 else if Ya op≠[] then Ya op++([40]++(Zl cmm (ps.map Prod.snd)++[41]))
 else if op=6 then [91]++(Zl cmm (ps.map Prod.snd)++[93])
 else if op=7 then [36]++(text++(if ps.length=0 then [] else [40]++(Zl cmm (ps.map Prod.snd)++[41])))
 else if op=3 then ZdV n
 else if op=4 then ZrE text
 else if op=5 then [110,105,108]
 else if op=2 then [95]
 else text
mutual
def exT:Ex→Bs
 | .mk op text n args _=>exN op text n (ZfM args)
def ZfM:List Ex→List (Nat×Bs)
 | []=>[]
 | e::l=>(Zy (opE e),exT e)::ZfM l
end
theorem Zpc (l:List Ex):ZfM l=l.map fun e=>(Zy (opE e),exT e):=by induction l with | nil=>rfl | cons x l ih=>simp [ZfM,ih]
theorem Zai (l:List Ex):(ZfM l).length=l.length:=by rw [Zpc,Ti]
def exW (want:Nat) (e:Ex):Bs:=Zn8 want (Zy (opE e),exT e)
def ZiK (l:List Ex):List Bs:=l.map exT
theorem Y5 (l:List Ex):(ZfM l).map Prod.snd=ZiK l:=by rw [Zpc,List.map_map];rfl
def Wd (fr fin:Bs) (l:List Ex):Bs:=fr++(Zl cmm (ZiK l)++fin)
def Zpd (op:Nat):Bs:=if op=3 then [32,61,32] else if op=4 then [32,33,61,32] else if op=5 then [32,60,32] else if op=6 then [32,60,61,32] else if op=7 then [32,62,32] else [32,62,61,32]
def ZiL (op:Nat):Bs:=if op=9 then [99,111,117,110,116] else if op=10 then [115,117,109] else if op=11 then [109,105,110] else [109,97,120]
def Zpe (l:List Ex):Bs:=(l.map fun e=>[32]++exT e).flatten
def ZiM:List Ex→Bs
 | []=>[]
 | e::_=>exT e
mutual
def liT:Li→Bs
 | .mk op rel args body _ =>
  if op=2 then [33]++(rel++Wd [40] [41] args)
  else if op=1 then rel++Wd [40] [41] args
  else if op≤8 then ZiM args++(Zpd op++ZiM args.tail)
  else ZiM args++([32,61,32]++(ZiL op++(Zpe args.tail++([32,58,32,123,32]++(Zl cmm (Zq1 body)++[32,125])))))
def Zq1:List Li→List Bs
 | []=>[]
 | e::l=>liT e::Zq1 l
end
theorem JQ (l:List Li):Zq1 l=l.map liT:=by induction l with | nil=>rfl | cons x l ih=>simp [Zq1,ih]
def ruT (r:Ru):Bs:=r.head++(Wd [40] [41] r.args++((if 0<r.body.length then [32,58,45,32]++Zl cmm (Zq1 r.body) else [])++[46]))
end Go.PM.Lex
end

section
namespace Go.PM.Lex
open Go.Proofs
variable {w0:World} {nG:Nat}
def words24:List Bs:=[[116,121,112,101],[100,101,99,108],[105,110,112,117,116],[111,117,116,112,117,116],[105,110,108,105,110,101],[99,111,109,112],[105,110,105,116],[111,118,101,114,114,105,100,101],[110,105,108],[99,111,117,110,116],[115,117,109],[109,105,110],[109,97,120],[98,111,114],[98,120,111,114],[98,97,110,100],[115,104,108],[115,104,114],[99,97,116],[115,116,114,108,101,110],[115,117,98,115,116,114],[99,111,100,101],[115,116,114],[110,117,109]]
theorem ZwF (s:Bs):Zcm s=words24.contains s:=by
 unfold Zcm ZU words24 keptWords
 simp only [Sj,Sp,T4]
 by_cases h1:s=[99,97,116]
 ·subst h1;decide
 by_cases h2:s=[115,116,114,108,101,110]
 ·subst h2;decide
 by_cases h3:s=[115,117,98,115,116,114]
 ·subst h3;decide
 by_cases h4:s=[99,111,100,101]
 ·subst h4;decide
 by_cases h5:s=[115,116,114]
 ·subst h5;decide
 by_cases h6:s=[110,117,109]
 ·subst h6;decide
 have q1:(s == [99,97,116])=false:=by simpa using h1
 have q2:(s == [115,116,114,108,101,110])=false:=by simpa using h2
 have q3:(s == [115,117,98,115,116,114])=false:=by simpa using h3
 have q4:(s == [99,111,100,101])=false:=by simpa using h4
 have q5:(s == [115,116,114])=false:=by simpa using h5
 have q6:(s == [110,117,109])=false:=by simpa using h6
 simp only [Tc h1,Tc h2,Tc h3,Tc h4,Tc h5,Tc h6,q1,q2,q3,q4,q5,q6,T4,ne_eq,not_true_eq_false,decide_false]
noncomputable def U5:Zr:=fun args σ K=>match args,σ with
 | [.d (.str s)],⟨[],[],0⟩=>∀b,Zcm s=b→K (.ret (.d (.bool b))) ⟨[],[],0⟩
 | _,_=>False
theorem U6:Za U5:=fun args σ K K' hK h=>by
 unfold U5 at h ⊢
 exact m102
theorem ZeN:PCalls (GG w0 nG) 164 U5:=by
 refine pc (tbl:=[]) trivial Tryz.func164 ?_;intro args σ K h
 unfold U5 at h
 split at h
 ·rename_i s
  rw [ZwF] at h;refine ⟨Zb [(3,⟨[4],[0,3],fun vs σ=>∃i:Nat,vs=[.d (.int .i64 i)]∧σ=⟨[],[],0⟩∧i≤words24.length∧words24.contains s=(words24.drop i).contains s,fun vs _=>match vs with | [.d (.int _ i)]=>((words24.length:Int) - i).toNat | _=>0⟩)],0,false,by simp,Ta rfl,?_⟩;(conv=>whnf);refine ⟨⟨0,rfl,rfl,by decide,rfl⟩,?_⟩;intro vs σ hI
  obtain ⟨i,rfl,rfl,hi,hc⟩:=hI;have hn:words24.length=24:=rfl;(conv=>whnf);refine ZAf (fun hi2=>?_) (fun hi2=>?_)
  ·have hi2:i<words24.length:=by have hi2:(i:Int)<24:=hi2;omega
   have hr1:(words24.map fun w=>[D.str w])[((i:Nat):Int).toNat]?=some [D.str words24[i]]:=by simp [hi2]
   obtain ⟨wd,hwd⟩:∃x,words24[i]=x:=⟨_,rfl⟩
   rw [TM hi2,Sj] at hc;rw [hwd] at hr1 hc;(conv=>whnf);refine ⟨_,by omega,hr1,?_⟩;(conv=>whnf);refine ZAf (fun he=>?_) (fun he=>?_)
   ·conv=>whnf
    exact h _ (by rw [hc,he];simp)
   ·conv=>whnf
    refine oiO ?_;(conv=>whnf);have hne:(s == wd)=false:=by simpa using fun g:s=wd=>he g.symm
    refine ⟨⟨i+1,rfl,rfl,by omega,by rw [hc,hne,SA]⟩,?_⟩;show ((words24.length:Int) - ((i:Int)+1)).toNat<((words24.length:Int) - (i:Int)).toNat;omega
  ·have hi2:i=words24.length:=by have hi2:¬(i:Int)<24:=hi2;omega
   subst hi2;rw [List.drop_length] at hc;(conv=>whnf);exact h _ hc
 ·exact h.elim
noncomputable def Za6:Zr:=fun args σ K=>match args,σ with
 | [.d (.str s)],⟨[],[],0⟩=>s.length<4294967281∧∀b,Zj0 s=b→K (.ret (.d (.bool b))) ⟨[],[],0⟩
 | _,_=>False
theorem WS:Za Za6:=fun args σ K K' hK h=>by
 unfold Za6 at h ⊢
 exact m152
noncomputable def ZrF:Tbl:=[(163,U4),(164,U5)]
theorem ZbS:PCalls (GG w0 nG) 94 Za6:=by
 refine pc (tbl:=ZrF) ⟨⟨ZwE,Zdo⟩,⟨ZeN,U6⟩,trivial⟩ Tryz.func94 ?_;intro args σ K h
 unfold Za6 at h
 split at h
 ·rename_i s
  obtain ⟨hs,h⟩:=h;refine ⟨Zb [],0,false,by simp,Ta rfl,?_⟩;unfold Zj0 at h
  conv=>whnf
  refine ⟨hs,?_⟩
  cases hb:Zky s with
  | false =>
   rw [hb] at h;exact m238
  | true =>
   rw [hb] at h;(conv=>whnf);refine ZAh (fun hc=>?_) (fun hc=>?_)
   ·have hu:(!decide (s=[95]))=true:=by simpa using hc
    rw [hu] at h;(conv=>whnf);intro b hk
    conv=>whnf
    cases b
    all_goals
     conv=>whnf
     exact h _ (by rw [hk];rfl)
   ·have hu:(!decide (s=[95]))=false:=by simpa using hc
    rw [hu] at h;exact m238
 ·exact h.elim
noncomputable def Jr (v:Nat→D):Zr:=fun args σ K=>match args,σ with
 | [.d (.int .u8 o)],⟨[],[],0⟩=>∃op:Nat,o=(op:Int)∧∀d,v op=d→K (.ret (.d d)) ⟨[],[],0⟩
 | _,_=>False
theorem XO (v:Nat→D):Za (Jr v):=fun args σ K K' hK h=>by
 unfold Jr at h ⊢
 split at h
 ·obtain ⟨op,h1,h2⟩:=h;exact ⟨op,h1,fun d hd=>hK _ _ (h2 d hd)⟩
 ·exact h.elim
theorem ZdW (op:Nat):op=0∨op=1∨op=2∨op=3∨op=4∨op=5∨op=6∨op=7∨op=8∨op=9∨op=10∨op=11∨op=12∨op=13∨op=14∨op=15∨op=16∨op=17∨op=18∨op=19∨op=20∨op=21∨op=22∨op=23∨op=24∨op=25∨26≤op:=by omega
theorem ZeO {op:Nat} (h:26≤op):Yj op=-2:=by
 unfold Yj
 repeat rw [Tc (by omega)]
theorem Zgw:PCalls (GG w0 nG) 93 (Jr fun op=>.int .i64 (Yj op)):=by
 refine pc (tbl:=[]) trivial Tryz.func93 ?_;intro args σ K h
 unfold Jr at h
 split at h
 ·obtain ⟨op,rfl,h⟩:=h;refine ⟨Zb [],0,false,by simp,Ta rfl,?_⟩;rcases ZdW op with rfl | rfl | rfl | rfl | rfl | rfl | rfl | rfl | rfl | rfl | rfl | rfl | rfl | rfl | rfl | rfl | rfl | rfl | rfl | rfl | rfl | rfl | rfl | rfl | rfl | rfl | ho
  rotate_right
  ·have h:K (.ret (.d (.int .i64 (Yj op)))) ⟨[],[],0⟩:=h _ rfl;rw [ZeO ho] at h;exact m120
  all_goals
   conv=>whnf
   exact h _ rfl
 ·exact h.elim
def ZaJ (op:Nat):Nat:=if -2<Yj op then Zy op else 6
theorem Zgx {op:Nat} (h:-2<Yj op):ZaJ op=Zy op:=Tf h
theorem Zni {op:Nat} (h:26≤op):ZaJ op=6:=by unfold ZaJ;rw [ZeO h,Tc (by decide)]
theorem ZeP:PCalls (GG w0 nG) 97 (Jr fun op=>.int .i64 (ZaJ op:Nat)):=by
 refine pc (tbl:=[]) trivial Tryz.func97 ?_;intro args σ K h
 unfold Jr at h
 split at h
 ·obtain ⟨op,rfl,h⟩:=h;refine ⟨Zb [],0,false,by simp,Ta rfl,?_⟩;rcases ZdW op with rfl | rfl | rfl | rfl | rfl | rfl | rfl | rfl | rfl | rfl | rfl | rfl | rfl | rfl | rfl | rfl | rfl | rfl | rfl | rfl | rfl | rfl | rfl | rfl | rfl | rfl | ho
  rotate_right
  ·have h:K (.ret (.d (.int .i64 (ZaJ op:Nat)))) ⟨[],[],0⟩:=h _ rfl;rw [Zni ho] at h;exact m120
  all_goals
   conv=>whnf
   exact h _ rfl
 ·exact h.elim
theorem Znj {op:Nat} (h:26≤op):Ya op=[]:=by
 unfold Ya
 repeat rw [Tc (by omega)]
theorem ZiN:PCalls (GG w0 nG) 99 (Jr fun op=>.str (Ya op)):=by
 refine V7 Z8 mixed (tbl:=[]) trivial Tryz.func99 rfl (by kernel_rfl) (by kernel_rfl) ?_;intro args σ K h
 unfold Jr at h
 split at h
 ·obtain ⟨op,rfl,h⟩:=h;refine ⟨Zb [],W4 [(4,19)],Yu [],0,false,by simp,Ta rfl,?_⟩;rcases ZdW op with rfl | rfl | rfl | rfl | rfl | rfl | rfl | rfl | rfl | rfl | rfl | rfl | rfl | rfl | rfl | rfl | rfl | rfl | rfl | rfl | rfl | rfl | rfl | rfl | rfl | rfl | ho
  rotate_right
  ·have h:K (.ret (.d (.str (Ya op)))) ⟨[],[],0⟩:=h _ rfl;rw [Znj ho] at h;(conv=>whnf)
   (repeat (first | (refine ⟨_,by decide,rfl,?_⟩;conv=>whnf) | (refine oiD ?_;conv=>whnf) | (refine ZAf (fun g=>absurd g (by omega)) (fun _=>?_);conv=>whnf)))
   exact h
  all_goals
   conv=>whnf
   (repeat (first | (refine ⟨_,by decide,rfl,?_⟩;conv=>whnf) | (refine oiD ?_;conv=>whnf)))
   exact h _ rfl
 ·exact h.elim
end Go.PM.Lex
end

section
namespace Go.PM.Lex
def nmT (s:Bs):T0:=⟨1,s,0⟩
def sgT (s:Bs):T0:=⟨4,s,0⟩
def Ztr (sep:Bs):List Ts→Ts
 | []=>[]
 | x::l=>sgT sep::(x++Ztr sep l)
def Zuu (sep:Bs):List Ts→Ts
 | []=>[]
 | x::l=>x++Ztr sep l
def ZwG (want:Nat) (p:Nat×Ts):Ts:=if p.1<want then sgT [40]::(p.2++[sgT [41]]) else p.2
def opT (op:Nat):T0:=if 15≤op∧op≤19 then nmT (Ya op) else sgT (Ya op)
def ZzF (w1 w2:Nat) (mid:Ts):List (Nat×Ts)→Ts
 | []=>[]
 | [a]=>ZwG w1 a
 | a::b::_=>ZwG w1 a++(mid++ZwG w2 b)
def brK (fr fin:Bs) (ps:List Ts):Ts:=sgT fr::(Zuu [44] ps++[sgT fin])
def Zz0 (op:Nat) (text:Bs) (n:Int) (ps:List (Nat×Ts)):Ts :=
 if Zy op<5 then ZzF (Zy op) (Zy op+1) [opT op] ps
 else if Zy op=5 then sgT (Ya op)::ZzF 5 5 [] ps
 else if Ya op≠[] then nmT (Ya op)::brK [40] [41] (ps.map Prod.snd)
 else if op=6 then brK [91] [93] (ps.map Prod.snd)
 else if op=7 then sgT [36]::nmT text::(if ps.length=0 then [] else brK [40] [41] (ps.map Prod.snd))
 else if op=3 then [⟨2,[],n⟩]
 else if op=4 then [⟨3,text,0⟩]
 else if op=5 then [nmT [110,105,108]]
 else if op=2 then [nmT [95]]
 else [nmT text]
mutual
def exK:Ex→Ts
 | .mk op text n args _=>Zz0 op text n (ZzG args)
def ZzG:List Ex→List (Nat×Ts)
 | []=>[]
 | e::l=>(Zy (opE e),exK e)::ZzG l
end
def Zuv (want:Nat) (e:Ex):Ts:=ZwG want (Zy (opE e),exK e)
def Lim {α:Type} (x:R α):Prop:=∃p,x=.err p 3∨x=.err p 151
def Rd {α β:Type} (er:α→β) (v:α) (r:Ts) (x:R α):Prop:=(∃v',er v'=er v∧x=.ok v' r)∨Lim x
theorem Lim.bind {α β:Type} {x:R α} {f:α→Ts→R β} (h:Lim x):Lim (x.bind f):=by
 obtain ⟨p,rfl | rfl⟩:=h
 ·exact ⟨p,.inl rfl⟩
 ·exact ⟨p,.inr rfl⟩
theorem Rd.bind {α β γ δ:Type} {er:α→β} {er2:γ→δ} {v:α} {u:γ} {r s:Ts} {x:R α} {f:α→Ts→R γ} (h:Rd er v r x) (hf:∀v',er v'=er v→Rd er2 u s (f v' r)):Rd er2 u s (x.bind f):=by
 rcases h with ⟨v',e,rfl⟩ | h
 ·exact hf v' e
 ·exact .inr h.bind
theorem Rd.ok {α β:Type} {er:α→β} {v v':α} {r:Ts} (h:er v'=er v):Rd er v r (.ok v' r):=.inl ⟨v',h,rfl⟩
theorem Rd.id {α:Type} {v:α} {r:Ts}:Rd (fun x:α=>x) v r (.ok v r):=.inl ⟨v,rfl,rfl⟩
theorem Rd.binds {α γ δ:Type} {er2:γ→δ} {v:α} {u:γ} {r s:Ts} {x:R α} {f:α→Ts→R γ} (h:Rd (fun x:α=>x) v r x) (hf:Rd er2 u s (f v r)):Rd er2 u s (x.bind f):=h.bind fun v' e=>by cases (show v'=v from e);exact hf
structure Nx (r:Ts):Prop where
 par:isW r [[40]]=false
 bin:(Wu r).1=0
theorem Zpf {op:Nat} {t:Bs} {n:Int} {l:List Ex} {a:Nat} (h:ZQ (.mk op t n l a)=true):-2<Yj op∧(Yj op<0∨(l.length:Int)=Yj op)∧(n=0∨op=3)∧Z3 op t=true∧∀x∈l,ZQ x=true:=by
 simp only [ZQ,Zm,Tl,T9,TG] at h;obtain ⟨h1,h2,h3,h4,h5⟩:=h;exact ⟨h1,h2,h3,h4,Tv.1 h5⟩
theorem Zyy {op:Nat} (h:-2<Yj op):op<26:=by
 by_cases hc:op<26
 ·exact hc
 ·unfold Yj at h
  (repeat rw [Tc (by omega)] at h)
  omega
theorem ZrG {op:Nat} (h:-2<Yj op):(Zy op<5→Yj op=2∧Wu [opT op]=(Zy op+1,op)∧isW [opT op] [[40]]=false∧op≠1∧op≠7∧op≠4∧op≠3)∧(Zy op=5→Yj op=1∧(op=8∨op=9))∧Zy op≤6 ∧
  (Zy op=6→Ya op≠[]→ZU (Ya op)=op∧(YF op:Int)=Yj op∧op≠0∧Zcm (Ya op)=true∧op≠1∧op≠7∧op≠4∧op≠3) ∧
  (Zy op=6→Ya op=[]→op=1∨op=2∨op=3∨op=4∨op=5∨op=6∨op=7):=by
 have h1:∀o:Fin 26,-2<Yj o.val→Zy o.val<5→Yj o.val=2∧Wu [opT o.val]=(Zy o.val+1,o.val)∧isW [opT o.val] [[40]]=false∧o.val≠1∧o.val≠7∧o.val≠4∧o.val≠3:=by decide +kernel
 have h2:∀o:Fin 26,-2<Yj o.val→Zy o.val=5→Yj o.val=1∧(o.val=8∨o.val=9):=by decide +kernel
 have h3:∀o:Fin 26,-2<Yj o.val→Zy o.val≤6:=by decide +kernel
 have h4:∀o:Fin 26,-2<Yj o.val→Zy o.val=6→Ya o.val≠[]→ZU (Ya o.val)=o.val∧(YF o.val:Int)=Yj o.val∧o.val≠0∧Zcm (Ya o.val)=true:=by decide +kernel
 have h6:∀o:Fin 26,-2<Yj o.val→Zy o.val=6→Ya o.val≠[]→o.val≠1∧o.val≠7∧o.val≠4∧o.val≠3:=by decide +kernel
 have h5:∀o:Fin 26,-2<Yj o.val→Zy o.val=6→Ya o.val=[]→o.val=1∨o.val=2∨o.val=3∨o.val=4∨o.val=5∨o.val=6∨o.val=7:=by decide +kernel
 obtain ⟨o,ho⟩:∃o:Fin 26,o.val=op:=⟨⟨op,Zyy h⟩,rfl⟩
 subst ho;exact ⟨h1 o h,h2 o h,h3 o h,fun a b=>by obtain ⟨p,q,r,s⟩:=h4 o h a b;exact ⟨p,q,r,s,h6 o h a b⟩,h5 o h⟩
theorem ZiO {l:List Ex} (h:l.length=2):∃a b,l=[a,b]:=by match l,h with | [a,b],_=>exact ⟨a,b,rfl⟩
theorem ZlL {l:List Ex} (h:l.length=1):∃a,l=[a]:=by match l,h with | [a],_=>exact ⟨a,rfl⟩
end Go.PM.Lex
end

section
namespace Go.PM.Lex
def Ln (e:Ex) (r:Ts) (sub:Nat→Ts→R Ex) (least:Nat) (x:R Ex):Prop:=(∃f e',r.length<f∧erE e'=erE e∧x=Vb sub least f e' r)∨Lim x
structure ExR (e:Ex):Prop where
 sg:∀d r,isW r [[40]]=false→Rd erE e r (Zp d (Zuv 5 e++r))
 ln:∀d k w l r,w≤l→l≤5→6≤k+w→isW r [[40]]=false→(Wu r).1<l+2→Ln e r (Vc (Zp d) (k - 1)) (w+1) (Vc (Zp d) k (w+1) (Zuv l e++r))
def Zyz (op:Nat):Bs:=if op=3 then [61] else if op=4 then [33,61] else if op=5 then [60] else if op=6 then [60,61] else if op=7 then [62] else [62,61]
theorem Zpg {op:Nat} {rel:Bs} {args:List Ex} {body:List Li} {a:Nat} (h:ZZ (.mk op rel args body a)=true):ZY op rel args.length body.length=true∧(∀x∈args,ZQ x=true)∧∀x∈body,ZZ x=true:=by
 simp only [ZZ,Zm,Z2,Tl] at h;exact ⟨h.1,Tv.1 h.2.1,Tv.1 h.2.2⟩
theorem Zph {op:Nat} {rel:Bs} {na nb:Nat} (h:ZY op rel na nb=true):((op=1∨op=2)∧Zj0 rel=true∧nb=0)∨(3≤op∧op≤8∧rel=[]∧na=2∧nb=0)∨(op=9∧rel=[]∧na=1∧0<nb)∨(9<op∧op≤12∧rel=[]∧na=2∧0<nb):=by
 unfold ZY at h
 split at h
 ·rename_i c
  simp only [Tl,TV,decide_eq_false_iff_not] at h;exact .inl ⟨c,h.1,by omega⟩
 ·split at h
  ·rename_i c
   simp only [Tl,TV,decide_eq_false_iff_not,TG] at h;exact .inr (.inl ⟨c.1,c.2,h.1,h.2.1,by omega⟩)
  ·split at h
   ·rename_i c
    simp only [Tl,TG] at h;exact .inr (.inr (.inl ⟨c,h.1,h.2.1,h.2.2⟩))
   ·split at h
    ·rename_i c
     simp only [Tl,TG] at h;exact .inr (.inr (.inr ⟨c.1,c.2,h.1,h.2.1,h.2.2⟩))
    ·cases h
end Go.PM.Lex
end

section
namespace Go.PM.Lex
end Go.PM.Lex
end

section
namespace Go.PM.Lex
theorem Zkz {a:Nat} {r:Bs} {room:Bool} {t:Tok} (h:Xn a r room=.tok t):room=true:=by
 cases room with
 | true=>rfl
 | false =>
  rw [YR] at h;split at h
  ·cases h
  ·rw [Tf rfl] at h;cases h
end Go.PM.Lex
end

section
namespace Go.PM.Lex
theorem Zuw {z:Bs} {c:UInt8} (hc:c.toNat<128):pk (c::z)=((c.toNat:Int),1):=by
 have e:Lib.decodeL (c::z)=(c.toNat,1):=by
  rw [Lib.decodeL_N];unfold Lib.decodeN;rw [Tf (by simpa using hc)];simp
 unfold pk
 rw [e,Tc (by simp;omega)]
structure Fol (c:UInt8) (z:Bs):Prop where
 low:c.toNat<128
 let':Zf c.toNat=false
 dig:Zj c.toNat=false
 dot:c=46→Zf (pk z).1=false
theorem Fol.pk {c:UInt8} {z:Bs} (h:Fol c z):Lex.pk (c::z)=((c.toNat:Int),1):=Zuw h.low
end Go.PM.Lex
end

section
namespace Go.PM.Lex
inductive Pc where
 | blank (b:UInt8) | tok (s:Bs) (t:T0)
def Pc.bs:Pc→Bs | .blank b=>[b] | .tok s _=>s
def Pc.ts:Pc→Ts | .blank _=>[] | .tok _ t=>[t]
def bsP (l:List Pc):Bs:=(l.map Pc.bs).flatten
def tsP (l:List Pc):Ts:=(l.map Pc.ts).flatten
@[simp] theorem bsP_nil:bsP []=[]:=rfl
@[simp] theorem tsP_nil:tsP []=[]:=rfl
@[simp] theorem bsP_cons (p:Pc) (l:List Pc):bsP (p::l)=p.bs++bsP l:=by simp [bsP]
@[simp] theorem tsP_cons (p:Pc) (l:List Pc):tsP (p::l)=p.ts++tsP l:=by simp [tsP]
@[simp] theorem bsP_app (l m:List Pc):bsP (l++m)=bsP l++bsP m:=by simp [bsP]
@[simp] theorem tsP_app (l m:List Pc):tsP (l++m)=tsP l++tsP m:=by simp [tsP]
def nmP (s:Bs):Pc:=.tok s (nmT s)
def sgP (s:Bs):Pc:=.tok s (sgT s)
theorem Znk:∀d:Fin 16,Zbo (Zcl d.val)=d.val∧Xx true (Zcl d.val)=true∧(d.val<10→Xx false (Zcl d.val)=true)∧Zcl d.val≠120:=by decide +kernel
theorem ZrH (base:Nat) (l:Bs) (b:UInt8):XB base (l++[b])=XB base l * base+Zbo b:=by simp [XB]
theorem ZcI {base:Nat} (hb:base=10∨base=16):∀(f n:Nat),n<f→XB base (V9 base f n)=n∧(∀b∈V9 base f n,Xx (decide (base=16)) b=true∧b≠120)∧V9 base f n≠[]∧∀k,n<base ^ (k+1)→(V9 base f n).length≤k+1
 | 0,n,h=>by omega
 | f+1,n,h=>by
  have hd:∀d,d<base→Zbo (Zcl d)=d∧Xx (decide (base=16)) (Zcl d)=true∧Zcl d≠120:=fun d hd=>by
   obtain ⟨h1,h2,h3,h4⟩:=Znk ⟨d,by omega⟩;refine ⟨h1,?_,h4⟩;rcases hb with rfl | rfl
   ·exact h3 hd
   ·exact h2
  rw [V9]
  by_cases c:n<base
  ·rw [Tf c];obtain ⟨h1,h2,h3⟩:=hd n c;refine ⟨by simpa [XB] using h1,fun b hb=>?_,by simp,fun k _=>by simp⟩;rw [List.mem_singleton.1 hb];exact ⟨h2,h3⟩
  ·rw [Tc c];have hlt:n / base<n:=Nat.div_lt_self (by omega) (by omega);obtain ⟨i1,i2,i3,i4⟩:=ZcI hb f (n / base) (by omega);obtain ⟨h1,h2,h3⟩:=hd (n % base) (Nat.mod_lt _ (by omega));refine ⟨?_,fun b hb=>?_,by simp,fun k hk=>?_⟩
   ·rw [ZrH,i1,h1,Sz];exact Nat.div_add_mod n base
   ·rcases TT.1 hb with hb | hb
    ·exact i2 b hb
    ·rw [List.mem_singleton.1 hb];exact ⟨h2,h3⟩
   ·cases k with
    | zero=>simp at hk;omega
    | succ k =>
     have:n / base<base ^ (k+1):=by
      rw [Nat.div_lt_iff_lt_mul (by omega)];rw [Nat.pow_succ] at hk;exact hk
     have:=i4 k this;exact m178
end Go.PM.Lex
end

section
namespace Go.PM.Lex
def Zx4 (n:Int):Bool:=decide (-9223372036854775808≤n) && decide (n<9223372036854775808)
mutual
def Jv:Ex→Bool
 | .mk _ _ n l _=>Zx4 n && ZkA l
def ZkA:List Ex→Bool
 | []=>true
 | x::l=>Jv x && ZkA l
end
theorem U7 (l:List Ex):ZkA l=l.all Jv:=by induction l with | nil=>rfl | cons x l ih=>simp [ZkA,ih]
theorem ZcJ {op:Nat} {t:Bs} {n:Int} {l:List Ex} {a:Nat} (h:Jv (.mk op t n l a)=true):(-9223372036854775808≤n∧n<9223372036854775808)∧∀x∈l,Jv x=true:=by
 simp only [Jv,U7,Zx4,Tl,TG] at h;exact ⟨h.1,Tv.1 h.2⟩
mutual
def Zj1:Li→Bool
 | .mk _ _ args body _=>ZkA args && Znl body
def Znl:List Li→Bool
 | []=>true
 | x::l=>Zj1 x && Znl l
end
theorem Zaj (l:List Li):Znl l=l.all Zj1:=by induction l with | nil=>rfl | cons x l ih=>simp [Znl,ih]
theorem ZkB {op:Nat} {rel:Bs} {args:List Ex} {body:List Li} {a:Nat} (h:Zj1 (.mk op rel args body a)=true):(∀x∈args,Jv x=true)∧∀x∈body,Zj1 x=true:=by
 simp only [Zj1,U7,Zaj,Tl] at h;exact ⟨Tv.1 h.1,Tv.1 h.2⟩
def ZbT (r:Ru):Bool:=r.args.all Jv && r.body.all Zj1
mutual
def Zz1:Un→Bool
 | .mk _ _ rules comps _ _=>rules.all ZbT && ZlM comps
def ZwH:Co→Bool
 | .mk _ _ _ _ u _=>Zz1 u
def ZlM:List Co→Bool
 | []=>true
 | c::l=>ZwH c && ZlM l
end
theorem ZeQ (l:List Co):ZlM l=l.all ZwH:=by induction l with | nil=>rfl | cons x l ih=>simp [ZlM,ih]
end Go.PM.Lex
end

section
namespace Go.PM.Lex
def spP:Pc:=.blank 32
def nlP:Pc:=.blank 10
@[simp] theorem bs_sp:spP.bs=[32]:=rfl
@[simp] theorem bs_nl:nlP.bs=[10]:=rfl
@[simp] theorem ts_sp:spP.ts=[]:=rfl
@[simp] theorem ts_nl:nlP.ts=[]:=rfl
@[simp] theorem bs_nm (s:Bs):(nmP s).bs=s:=rfl
@[simp] theorem bs_sg (s:Bs):(sgP s).bs=s:=rfl
@[simp] theorem ts_nm (s:Bs):(nmP s).ts=[nmT s]:=rfl
@[simp] theorem ts_sg (s:Bs):(sgP s).ts=[sgT s]:=rfl
@[simp] theorem bs_tok (s:Bs) (t:T0):(Pc.tok s t).bs=s:=rfl
@[simp] theorem ts_tok (s:Bs) (t:T0):(Pc.tok s t).ts=[t]:=rfl
def ts2 (p:Nat×List Pc):Nat×Ts:=(p.1,tsP p.2)
end Go.PM.Lex
end

section
noncomputable section
namespace Go.PM.Lex
open Go.Proofs
def tz (L:List Tok) (a:Int):Ts:=(L.drop a.toNat).map Tok.t0
def Ze (L:List Tok) (en:Int) (r:Nat):Int:=match L.drop (L.length - r) with
 | []=>en
 | t::_=>t.at'
structure ROK (L:List Tok) (a:Int) (ts:Ts):Prop where
 lo:0≤a
 hi:a≤L.length
 big:L.length≤1048576
 eq:tz L a=ts
theorem ROK.len {L:List Tok} {a:Int} {ts:Ts} (h:ROK L a ts):(ts.length:Int)=L.length - a:=by
 rw [← h.eq];simp only [tz,Ti,Tk];have:=h.lo;have:=h.hi;omega
theorem ROK.next {L:List Tok} {a:Int} {t:T0} {ts:Ts} (h:ROK L a (t::ts)):ROK L (a+1) ts:=by
 have hl:=h.len;have h0:=h.lo;refine ⟨by omega,by simp at hl;omega,h.big,?_⟩;have:=h.eq;simp only [tz] at this ⊢;rw [show (a+1).toNat=a.toNat+1 by omega,← Tu,List.map_drop,this];rfl
theorem ZN {ts:Ts} {ws:List Bs} (h:isW ts ws=true):ts≠[]:=by rintro rfl;simp [isW,hd] at h
theorem ZbV {ts:Ts} (h:Zn ts=true):ts≠[]:=by rintro rfl;simp [Zn,hd] at h
theorem ROK.tl {L:List Tok} {a:Int} {ts:Ts} (h:ROK L a ts) (hn:ts≠[]):ROK L (a+1) ts.tail:=by
 cases ts with
 | nil=>exact absurd rfl hn
 | cons t ts=>exact h.next
theorem ROK.get {L:List Tok} {a:Int} {t:T0} {ts:Ts} (h:ROK L a (t::ts)):∃x,L[a.toNat]?=some x∧x.t0=t∧∀en,Ze L en (ts.length+1)=x.at':=by
 have hl:=h.len;have h0:=h.lo;have h1:=h.eq;simp only [Td] at hl;have hlt:a.toNat<L.length:=by omega
 refine ⟨L[a.toNat],Tg hlt,?_,fun en=>?_⟩
 ·simp only [tz] at h1;rw [TM hlt] at h1;simp only [TJ,List.cons.injEq] at h1;exact h1.1
 ·unfold Ze
  rw [show L.length - (ts.length+1)=a.toNat by omega,TM hlt]
theorem ROK.none {L:List Tok} {a:Int} (h:ROK L a []):a=L.length:=by have:=h.len;simp at this;omega
theorem Zdp (L:List Tok) (en:Int):Ze L en 0=en:=by simp [Ze]
abbrev Pl:=Nat→Int
mutual
def Yc (pl:Pl):Ex→List D
 | .mk op text n args a=>[.int .u8 op,.str text,.int .i64 n,.sl (ZM pl args),.int .i64 (pl a)]
def ZM (pl:Pl):List Ex→List (List D)
 | []=>[]
 | e::l=>Yc pl e::ZM pl l
end
mutual
def Xi (pl:Pl):Li→List D
 | .mk op rel args body a=>[.int .u8 op,.str rel,.sl (ZM pl args),.sl (Xy pl body),.int .i64 (pl a)]
def Xy (pl:Pl):List Li→List (List D)
 | []=>[]
 | e::l=>Xi pl e::Xy pl l
end
def Xj (pl:Pl) (r:Ru):List D:=[.str r.head,.sl (ZM pl r.args),.sl (Xy pl r.body),.int .i64 (pl r.at')]
def U8 (f:Fi):List D:=[.str f.name,.str f.typ]
def Za8 (c:Ca):List D:=[.str c.name,.sl (c.fields.map U8)]
def Zhm (pl:Pl) (t:Ty):List D:=[.int .u8 t.kind,.str t.name,.str t.base,.sl (t.fields.map U8),.sl (t.cases.map Za8),.int .i64 (pl t.at')]
def ZfN (pl:Pl) (r:Re):List D:=[.str r.name,.sl (r.fields.map U8),.bool r.inn,.bool r.out,.bool r.inl,.int .i64 (pl r.at')]
def X1 (s:Bs):List D:=[.str s]
def ZiP (pl:Pl) (i:Ini):List D:=[.str i.name,.str i.comp,.sl (i.types.map X1),.int .i64 (pl i.at')]
def ZiQ (pl:Pl) (o:Ov):List D:=[.str o.rel,.int .i64 (pl o.at')]
mutual
def Zhn (pl:Pl):Un→List D
 | .mk tys rels rules comps inits overs=>[.sl (tys.map (Zhm pl)),.sl (rels.map (ZfN pl)),.sl (rules.map (Xj pl)),.sl (ZlN pl comps),.sl (inits.map (ZiP pl)),.sl (overs.map (ZiQ pl))]
def ZfO (pl:Pl):Co→List D
 | .mk name params base types u a=>[.str name,.sl (params.map X1),.str base,.sl (types.map X1)]++Zhn pl u++[.int .i64 (pl a)]
def ZlN (pl:Pl):List Co→List (List D)
 | []=>[]
 | e::l=>ZfO pl e::ZlN pl l
end
theorem Zg (pl:Pl) (l:List Ex):ZM pl l=l.map (Yc pl):=by induction l with | nil=>rfl | cons x l ih=>simp [ZM,ih]
theorem Zs (pl:Pl) (l:List Li):Xy pl l=l.map (Xi pl):=by induction l with | nil=>rfl | cons x l ih=>simp [Xy,ih]
theorem JR (pl:Pl) (l:List Co):ZlN pl l=l.map (ZfO pl):=by induction l with | nil=>rfl | cons x l ih=>simp [ZlN,ih]
abbrev ZbW (l:List D):PV:=.agg (l.map .d)
abbrev flt (L:List Tok) (en:Int) (r e:Nat):PV:=.iface 138 (.agg [.d (.int .i64 (Ze L en r)),.d (.int .i64 e)])
abbrev RK:=PEnd→Int→Int→Prop
def RKk {α:Type} (enc:α→PV) (L:List Tok) (en dp lo:Int) (x:R α) (K:RK):Prop:=match x with
 | .ok v ts'=>∀a',lo≤a'→ROK L a' ts'→K (.ret (enc v)) a' dp
 | .err r e=>∀a' dp',K (.panic (flt L en r e)) a' dp'
theorem Ym {α:Type} {enc:α→PV} {L:List Tok} {en dp lo:Int} {x:R α} {K K':RK} (hK:∀pe a d,K pe a d→K' pe a d) (h:RKk enc L en dp lo x K):RKk enc L en dp lo x K':=by
 cases x with
 | ok v ts=>exact fun a' h1 h2=>hK _ _ _ (h a' h1 h2)
 | err r e=>exact fun a' d=>hK _ _ _ (h a' d)
def We (body:List PV→List Tok→Int→Int→Int→Ts→RK→Prop):Zr:=fun args σ K=>match args,σ with
 | .ptr 0 0::rest,⟨[.cells t [.d (.sl rows),.d (.int .i64 a),.d (.int .i64 en),.d (.int .i64 dp)]],[],0⟩=>∃L ts,rows=Zv L∧ROK L a ts ∧
   body rest L en dp a ts fun pe a' dp'=>K pe ⟨[.cells t [.d (.sl (Zv L)),.d (.int .i64 a'),.d (.int .i64 en),.d (.int .i64 dp')]],[],0⟩
 | _,_=>False
theorem ZS {body:List PV→List Tok→Int→Int→Int→Ts→RK→Prop} (hb:∀rest L en dp a ts (K K':RK),(∀pe a d,K pe a d→K' pe a d)→body rest L en dp a ts K→body rest L en dp a ts K'):Za (We body):=fun args σ K K' hK h=>by
 unfold We at h ⊢
 exact m155
def Xk:Zr:=fun args σ K=>match args,σ with
 | [.d (.str s)],⟨[],[],0⟩=>∀n:Int,(ZU s:Int)=n→K (.ret (.d (.int .u8 n))) ⟨[],[],0⟩
 | _,_=>False
theorem XE:Za Xk:=fun args σ K K' hK h=>by
 unfold Xk at h ⊢;split at h <;> first | exact fun n hn=>hK _ _ (h n hn) | exact h.elim
def ZeT:Zr:=fun args σ K=>match args,σ with
 | [.d (.str s)],⟨[],[],0⟩=>∀b,Zcm s=b→K (.ret (.d (.bool b))) ⟨[],[],0⟩
 | _,_=>False
theorem Za9:Za ZeT:=fun args σ K K' hK h=>by
 unfold ZeT at h ⊢;split at h <;> first | exact fun n hn=>hK _ _ (h n hn) | exact h.elim
def ZfP (s:Bs):Nat→List Bs→Int
 | _,[]=>-1
 | i,w::ws=>if s=w then i else ZfP s (i+1) ws
def ZbX:Zr:=fun args σ K=>match args,σ with
 | [.d (.sl rows),.d (.str s)],⟨[],[],0⟩=>∃ws:List Bs,rows=ws.map X1∧ws.length≤1048576∧K (.ret (.d (.int .i64 (ZfP s 0 ws)))) ⟨[],[],0⟩
 | _,_=>False
theorem Zho:Za ZbX:=fun args σ K K' hK h=>by
 unfold ZbX at h ⊢;split at h
 ·obtain ⟨ws,h1,h2,h3⟩:=h;exact ⟨ws,h1,h2,hK _ _ h3⟩
 ·exact h.elim
def Uw:Zr:=fun args σ K=>match args,σ with
 | [.d (.sl rows),.d (.str s)],⟨[],[],0⟩=>∃ws:List Bs,rows=ws.map X1∧ws.length≤1048576∧∀b,ws.contains s=b→K (.ret (.d (.bool b))) ⟨[],[],0⟩
 | _,_=>False
theorem ZeU:Za Uw:=fun args σ K K' hK h=>by
 unfold Uw at h ⊢;split at h
 ·obtain ⟨ws,h1,h2,h3⟩:=h;exact ⟨ws,h1,h2,fun b hb=>hK _ _ (h3 b hb)⟩
 ·exact h.elim
def ZaL:Zr:=We fun rest L en dp a ts K=>match rest with
 | [.d (.int .i64 n)]=>∀fin,(n=0∧K (.ret (.agg [.d (.int .u8 (hd ts).kind),.d (.str (hd ts).text),.d (.int .i64 (hd ts).n),.d (.int .i64 (Ze L en ts.length)),.d (.int .i64 fin)])) a dp) ∨
   (n=1∧K (.ret (.agg [.d (.int .u8 (hd ts.tail).kind),.d (.str (hd ts.tail).text),.d (.int .i64 (hd ts.tail).n),.d (.int .i64 (Ze L en ts.tail.length)),.d (.int .i64 fin)])) a dp)
 | _=>False
theorem XP:Za ZaL:=ZS fun rest L en dp a ts K K' hK h=>by
 split at h
 ·exact fun fin=>Or.imp (fun g=>⟨g.1,hK _ _ _ g.2⟩) (fun g=>⟨g.1,hK _ _ _ g.2⟩) (h fin)
 ·exact h.elim
def W8:Zr:=We fun rest L en dp a ts K=>match rest with
 | []=>K (.ret (.d (.int .i64 (Ze L en ts.length)))) a dp
 | _=>False
theorem YJ:Za W8:=ZS fun rest L en dp a ts K K' hK h=>by
 split at h
 ·exact hK _ _ _ h
 ·exact h.elim
def Zh4:Zr:=We fun rest L en dp a ts K=>match rest with
 | [.d (.sl rows)]=>∃ws:List Bs,rows=ws.map X1∧ws.length≤1048576∧∀b,isW ts ws=b→K (.ret (.d (.bool b))) a dp
 | _=>False
theorem Yv:Za Zh4:=ZS fun rest L en dp a ts K K' hK h=>by
 split at h
 ·obtain ⟨ws,h1,h2,h3⟩:=h;exact ⟨ws,h1,h2,fun b hb=>hK _ _ _ (h3 b hb)⟩
 ·exact h.elim
def Zaw (p:Ts→Bool):Zr:=We fun rest L en dp a ts K=>match rest with
 | []=>∀b,p ts=b→K (.ret (.d (.bool b))) a dp
 | _=>False
theorem Xu (p:Ts→Bool):Za (Zaw p):=ZS fun rest L en dp a ts K K' hK h=>by
 split at h
 ·exact fun b hb=>hK _ _ _ (h b hb)
 ·exact h.elim
def Xl:Zr:=We fun rest L en dp a ts K=>match rest with
 | [.d (.int .i64 e)]=>K (.panic (.iface 138 (.agg [.d (.int .i64 (Ze L en ts.length)),.d (.int .i64 e)]))) a dp
 | _=>False
theorem ZE:Za Xl:=ZS fun rest L en dp a ts K K' hK h=>by
 split at h
 ·exact hK _ _ _ h
 ·exact h.elim
def WT:Zr:=We fun rest L en dp a ts K=>match rest with
 | [.d (.sl rows)]=>∃ws:List Bs,rows=ws.map X1∧ws.length≤1048576∧(isW ts ws=true→ROK L (a+1) ts.tail→K (.ret (.d (.bool true))) (a+1) dp)∧(isW ts ws=false→K (.ret (.d (.bool false))) a dp)
 | _=>False
theorem Z0:Za WT:=ZS fun rest L en dp a ts K K' hK h=>by
 split at h
 ·obtain ⟨ws,h1,h2,h3,h4⟩:=h;exact ⟨ws,h1,h2,fun b hb=>hK _ _ _ (h3 b hb),fun b=>hK _ _ _ (h4 b)⟩
 ·exact h.elim
def ZiR:Zr:=We fun rest L en dp a ts K=>match rest with
 | [.d (.int .i64 n),.d (.int .i64 m)]=>(n=m→K (.panic (flt L en ts.length 3)) a dp)∧(n≠m→K (.ret (.tuple [])) (a+1) dp)
 | _=>False
theorem ZkC:Za ZiR:=ZS fun rest L en dp a ts K K' hK h=>by
 split at h
 ·exact ⟨fun g=>hK _ _ _ (h.1 g),fun g=>hK _ _ _ (h.2 g)⟩
 ·exact h.elim
def spR {α:Type} (enc:List Tok→Int→α→PV) (P:Ts→R α) (lo:Int):Zr:=We fun rest L en dp a ts K=>match rest with
 | []=>∀x,P ts=x→RKk (enc L en) L en dp (a+lo) x K
 | _=>False
theorem Y6 {α:Type} (enc:List Tok→Int→α→PV) (P:Ts→R α) (lo:Int):Za (spR enc P lo):=ZS fun rest L en dp a ts K K' hK h=>by
 exact m124
def Wa:Zr:=We fun rest L en dp a ts K=>match rest with
 | [.d (.str w)]=>∀x,ZO w ts=x→RKk (fun _=>.tuple []) L en dp (a+1) x K
 | _=>False
theorem ZP:Za Wa:=ZS fun rest L en dp a ts K K' hK h=>by
 exact m124
abbrev Wm:Zr:=spR (fun _ _ (v:Bs)=>.d (.str v)) Z1 1
end Go.PM.Lex
end
end

section
namespace Go.PM.Lex
open Go.Proofs
variable {w0:World} {nG:Nat}
theorem ZcK:PCalls (GG w0 nG) 212 Xk:=by
 refine pc (tbl:=[]) trivial Tryz.func212 ?_;exact m83
noncomputable def Zuz:Tbl:=[(212,Xk)]
theorem ZkD:PCalls (GG w0 nG) 148 ZeT:=by
 refine pc (tbl:=Zuz) ⟨⟨ZcK,XE⟩,trivial⟩ Tryz.func148 ?_;intro args σ K h
 unfold ZeT at h
 split at h
 ·rename_i s
  refine ⟨Zb [],0,false,by simp,Ta rfl,?_⟩
  repeat' ((conv=>whnf);refine ZAf (fun hc=>?_) (fun hc=>?_))
  all_goals (conv=>whnf)
  all_goals first
   | contradiction
   | exact h _ (by subst_vars;decide)
   | skip
  intro n hn
  conv=>whnf
  refine h _ ?_;have hk:keptWords.contains s=false:=by
   have:¬s∈keptWords:=by
    simp only [keptWords,Tt,Sn,or_false,not_or]
    repeat' (first | assumption | refine ⟨by assumption,?_⟩)
   rw [Bool.eq_false_iff];intro g
   exact this (List.contains_iff_mem.1 g)
  rw [Zcm,hk,← hn]
  by_cases h0:ZU s=0 <;> simp [h0]
 ·exact h.elim
end Go.PM.Lex
end

section
namespace Go.PM.Lex
open Go.Proofs
variable {w0:World} {nG:Nat}
theorem Zgy (s w:Bs) (i:Nat) (ws:List Bs):ZfP s i (w::ws)=if s=w then (i:Int) else ZfP s (i+1) ws:=rfl
theorem ZiS (s:Bs):∀(ws:List Bs) (i:Nat),(0≤ZfP s i ws)↔ws.contains s=true
 | [],i=>by simp [ZfP]
 | w::ws,i=>by
  rw [Zgy];split
  ·rename_i h;subst h;simp
  ·rename_i h;rw [ZiS s ws];simp [h]
theorem Znn (s:Bs) (ws:List Bs) (i:Nat) (h:i<ws.length):ZfP s i (ws.drop i)=if s=ws[i] then (i:Int) else ZfP s (i+1) (ws.drop (i+1)):=by
 rw [TM h,Zgy]
theorem Zpk:PCalls (GG w0 nG) 257 ZbX:=by
 refine pc (tbl:=[]) trivial Tryz.func257 ?_;intro args σ K h
 unfold ZbX at h
 split at h
 ·rename_i rows s
  obtain ⟨ws,rfl,hw,h⟩:=h;refine ⟨Zb [(2,⟨[8],[0,1,7],fun vs σ=>∃i:Nat,vs=[.d (.int .i64 i)]∧σ=⟨[],[],0⟩∧i≤ws.length∧ZfP s 0 ws=ZfP s i (ws.drop i),fun vs _=>match vs with | [.d (.int _ i)]=>((ws.length:Int) - i).toNat | _=>0⟩)],0,false,by simp,Ta rfl,?_⟩;(conv=>whnf);refine ⟨⟨0,rfl,rfl,by omega,rfl⟩,?_⟩;intro vs σ hI
  obtain ⟨i,rfl,rfl,hi,hx⟩:=hI;(conv=>whnf);refine ZAf (fun hc=>?_) (fun hc=>?_)
  ·have hc:i<ws.length:=by have hc:(i:Int)<((ws.map X1).length:Int):=hc;rw [Ti] at hc;omega
   conv=>whnf
   refine ⟨X1 ws[i],by omega,by simp [hc],?_⟩;rw [Znn s ws i hc] at hx;(conv=>whnf);refine ZAf (fun h1=>?_) (fun h1=>?_)
   ·conv=>whnf
    rw [hx,Tf h1] at h;exact h
   ·conv=>whnf
    rw [Tc h1] at hx;refine oiO ?_;(conv=>whnf);refine ⟨⟨i+1,rfl,rfl,by omega,hx⟩,?_⟩;show ((ws.length:Int) - ((i:Int)+1)).toNat<((ws.length:Int) - (i:Int)).toNat;omega
  ·have hc:ws.length≤i:=by have hc:¬(i:Int)<((ws.map X1).length:Int):=hc;rw [Ti] at hc;omega
   rw [Tz hc] at hx;(conv=>whnf);rw [hx] at h;exact h
 ·exact h.elim
noncomputable def ZuA:Tbl:=[(257,ZbX)]
theorem ZkE:PCalls (GG w0 nG) 199 Uw:=by
 refine pc (tbl:=ZuA) ⟨⟨Zpk,Zho⟩,trivial⟩ Tryz.func199 ?_;intro args σ K h
 unfold Uw at h
 split at h
 ·rename_i rows s
  obtain ⟨ws,rfl,hw,h⟩:=h;refine ⟨Zb [],0,false,by simp,Ta rfl,?_⟩;(conv=>whnf);refine ⟨ws,rfl,hw,?_⟩;(conv=>whnf);exact h _ (by rw [Bool.eq_iff_iff,TG,← ZiS s ws 0])
 ·exact h.elim
end Go.PM.Lex
end

section
namespace Go.PM.Lex
open Go.Proofs
variable {w0:World} {nG:Nat}
theorem Zba:PCalls (GG w0 nG) 198 ZaL:=by
 refine pc (tbl:=[]) trivial Tryz.func198 ?_;intro args σ K h
 unfold ZaL We at h
 split at h
 ·rename_i t rows a en dp
  obtain ⟨L,ts,rfl,ho,h⟩:=h;split at h
  ·rename_i n
   have hl:=ho.len;have h0:=ho.lo;have h1:=ho.hi;have h2:=ho.big;have hn:n=0∨n=1:=by rcases h 0 with g | g <;> simp [g.1]
   refine ⟨Zb [],1,false,by simp,Ta rfl,?_⟩;(conv=>whnf);refine oiO ?_;(conv=>whnf);refine ZAf (fun hc=>?_) (fun hc=>?_)
   ·have hc:a+n<L.length:=by have hc:a+n<((Zv L).length:Int):=hc;rw [ZC] at hc;exact hc
    rcases hn with rfl | rfl
    ·cases ts with
     | nil=>simp at hl;omega
     | cons t0 ts =>
      obtain ⟨x,hx,rfl,hp⟩:=ho.get;(conv=>whnf);refine ⟨Zro x,by omega,by simp [Zv,hx],?_⟩;(conv=>whnf);have h:=h x.fin;rw [Td,hp] at h;rcases h with h | h
      ·exact h.2
      ·exact absurd h.1 (by omega)
    ·cases ts with
     | nil=>simp at hl;omega
     | cons t1 ts =>
     cases ts with
     | nil=>simp at hl;omega
     | cons t0 ts =>
      obtain ⟨x,hx,rfl,hp⟩:=ho.next.get;(conv=>whnf);refine ⟨Zro x,by omega,by simp [Zv,hx],?_⟩;(conv=>whnf);have h:=h x.fin;simp only [List.tail_cons,Td,hp] at h;rcases h with h | h
      ·exact absurd h.1 (by omega)
      ·exact h.2
   ·have hc:¬a+n<L.length:=by have hc:¬a+n<((Zv L).length:Int):=hc;rw [ZC] at hc;exact hc
    conv=>whnf
    have h:=h 0;rcases hn with rfl | rfl
    ·cases ts with
     | nil => rcases h with h | h
              ·have h:=h.2;simp only [Te,Zdp] at h;exact h
              ·exact absurd h.1 (by omega)
     | cons t0 ts=>simp at hl;omega
    ·have:ts.tail=[]:=by
      cases ts with
      | nil=>rfl
      | cons t1 ts=>cases ts with
       | nil=>rfl
       | cons t0 ts=>simp at hl;omega
     rw [this] at h;rcases h with h | h
     ·exact absurd h.1 (by omega)
     ·have h:=h.2;simp only [Te,Zdp] at h;exact h
  ·exact h.elim
 ·exact h.elim
end Go.PM.Lex
end

section
namespace Go.PM.Lex
open Go.Proofs
variable {w0:World} {nG:Nat}
noncomputable def ZrJ:Tbl:=[(198,ZaL)]
theorem ZrK (ht:TblOK (GG w0 nG) ZrJ):PCalls (GG w0 nG) 141 W8:=by
 refine pc ht Tryz.func141 ?_;intro args σ K h
 unfold W8 We at h
 split at h
 ·rename_i rest t rows a en dp
  obtain ⟨L,ts,rfl,ho,h⟩:=h;split at h
  ·skip
   refine ⟨Zb [],1,false,by simp,Ta rfl,?_⟩;(conv=>whnf);refine ⟨L,ts,rfl,ho,fun fin=>Or.inl ⟨rfl,?_⟩⟩;exact m54
  ·exact h.elim
 ·exact h.elim
noncomputable def ZyA:Tbl:=[(198,ZaL),(199,Uw)]
theorem ZyB (ht:TblOK (GG w0 nG) ZyA):PCalls (GG w0 nG) 136 Zh4:=by
 refine pc ht Tryz.func136 ?_;intro args σ K h
 unfold Zh4 We at h
 split at h
 ·rename_i rest t rows a en dp
  obtain ⟨L,ts,rfl,ho,h⟩:=h;split at h
  ·rename_i rows
   obtain ⟨ws,rfl,hw,h⟩:=h;refine ⟨Zb [],1,false,by simp,Ta rfl,?_⟩;(conv=>whnf);refine ⟨L,ts,rfl,ho,fun fin=>Or.inl ⟨rfl,?_⟩⟩;(conv=>whnf);refine ZAf (fun h1=>?_) (fun h1=>?_)
   ·conv=>whnf
    refine ⟨ws,rfl,hw,fun b hb=>?_⟩;(conv=>whnf);exact h _ (by simp only [isW,hb];simp [show (hd ts).kind=1 by omega])
   ·conv=>whnf
    refine ZAf (fun h2=>?_) (fun h2=>?_)
    ·conv=>whnf
     refine ⟨ws,rfl,hw,fun b hb=>?_⟩;(conv=>whnf);exact h _ (by simp only [isW,hb];simp [show (hd ts).kind=4 by omega])
    ·conv=>whnf
     exact h _ (by simp [isW,show ¬(hd ts).kind=1 by omega,show ¬(hd ts).kind=4 by omega])
  ·exact h.elim
 ·exact h.elim
noncomputable def ZrL:Tbl:=[(198,ZaL),(148,ZeT)]
theorem ZrM (ht:TblOK (GG w0 nG) ZrL):PCalls (GG w0 nG) 145 (Zaw Zn):=by
 refine pc ht Tryz.func145 ?_;intro args σ K h
 unfold Zaw We at h
 split at h
 ·rename_i rest t rows a en dp
  obtain ⟨L,ts,rfl,ho,h⟩:=h;split at h
  ·skip
   refine ⟨Zb [],1,false,by simp,Ta rfl,?_⟩;(conv=>whnf);refine ⟨L,ts,rfl,ho,fun fin=>Or.inl ⟨rfl,?_⟩⟩;(conv=>whnf);refine ZAf (fun h1=>?_) (fun h1=>?_)
   ·conv=>whnf
    refine ZAh (fun h2=>?_) (fun h2=>?_)
    ·conv=>whnf
     intro b hb
     conv=>whnf
     exact h _ (by simp only [Zn,hb];rw [TC (show (hd ts).kind=1 by omega),decide_eq_false h2];simp)
    ·conv=>whnf
     exact h _ (by simp only [Zn];rw [TC (p:=(hd ts).text=[95]) h2];simp)
   ·conv=>whnf
    exact h _ (by simp [Zn,show ¬(hd ts).kind=1 by omega])
  ·exact h.elim
 ·exact h.elim
noncomputable def ZuB:Tbl:=[(141,W8)]
theorem ZuC (ht:TblOK (GG w0 nG) ZuB):PCalls (GG w0 nG) 81 Xl:=by
 refine pc ht Tryz.func81 ?_;intro args σ K h
 unfold Xl We at h
 split at h
 ·rename_i rest t rows a en dp
  obtain ⟨L,ts,rfl,ho,h⟩:=h;split at h
  ·skip
   refine ⟨Zb [],1,false,by simp,Ta rfl,?_⟩;(conv=>whnf);refine ⟨L,ts,rfl,ho,?_⟩;exact m54
  ·exact h.elim
 ·exact h.elim
noncomputable def ZuD:Tbl:=[(136,Zh4)]
theorem ZuE (ht:TblOK (GG w0 nG) ZuD):PCalls (GG w0 nG) 200 WT:=by
 refine pc ht Tryz.func200 ?_;intro args σ K h
 unfold WT We at h
 split at h
 ·rename_i rest t rows a en dp
  obtain ⟨L,ts,rfl,ho,h⟩:=h;split at h
  ·rename_i rows
   obtain ⟨ws,rfl,hw,h1,h2⟩:=h;refine ⟨Zb [],1,false,by simp,Ta rfl,?_⟩;(conv=>whnf);refine ⟨L,ts,rfl,ho,ws,rfl,hw,fun b hb=>?_⟩
   cases b with
   | true =>
    have ho2:=ho.tl (ZN hb);have g1:=ho.lo;have g2:=ho2.hi;have g3:=ho2.big;(conv=>whnf);refine oiO ?_;(conv=>whnf);exact h1 hb ho2
   | false =>
    conv=>whnf
    exact h2 hb
  ·exact h.elim
 ·exact h.elim
noncomputable def ZuF:Tbl:=[(200,WT),(81,Xl)]
theorem ZuG (ht:TblOK (GG w0 nG) ZuF):PCalls (GG w0 nG) 143 Wa:=by
 refine pc ht Tryz.func143 ?_;intro args σ K h
 unfold Wa We at h
 split at h
 ·rename_i rest t rows a en dp
  obtain ⟨L,ts,rfl,ho,h⟩:=h;split at h
  ·rename_i w
   refine ⟨Zb [],1,false,by simp,Ta rfl,?_⟩;(conv=>whnf);refine ⟨L,ts,rfl,ho,[w],rfl,by simp,fun hb ho2=>?_,fun hb=>?_⟩
   ·conv=>whnf
    have h:=h _ rfl;rw [ZO,Tf hb] at h;exact h _ (by omega) ho2
   ·conv=>whnf
    refine ⟨L,ts,rfl,ho,?_⟩;(conv=>whnf);have h:=h _ rfl;rw [ZO,Tc (by rw [hb];simp)] at h;exact h _ _
  ·exact h.elim
 ·exact h.elim
noncomputable def ZuH:Tbl:=[(81,Xl)]
theorem ZuI (ht:TblOK (GG w0 nG) ZuH):PCalls (GG w0 nG) 137 ZiR:=by
 refine pc ht Tryz.func137 ?_;intro args σ K h
 unfold ZiR We at h
 split at h
 ·rename_i rest t rows a en dp
  obtain ⟨L,ts,rfl,ho,h⟩:=h;split at h
  ·rename_i n m
   refine ⟨Zb [],1,false,by simp,Ta rfl,?_⟩;have g1:=ho.lo;have g2:=ho.hi;have g3:=ho.big;(conv=>whnf);refine ZAf (fun hc=>?_) (fun hc=>?_)
   ·conv=>whnf
    refine ⟨L,ts,rfl,ho,?_⟩;(conv=>whnf);exact h.1 hc
   ·conv=>whnf
    refine oiO ?_;(conv=>whnf);exact h.2 hc
  ·exact h.elim
 ·exact h.elim
noncomputable def ZrN:Tbl:=[(145,(Zaw Zn)),(81,Xl)]
theorem ZrO (ht:TblOK (GG w0 nG) ZrN):PCalls (GG w0 nG) 142 Wm:=by
 refine pc ht Tryz.func142 ?_;intro args σ K h
 unfold Wm spR We at h
 split at h
 ·rename_i rest t rows a en dp
  obtain ⟨L,ts,rfl,ho,h⟩:=h;split at h
  ·skip
   refine ⟨Zb [],1,false,by simp,Ta rfl,?_⟩;have h:=h _ rfl;(conv=>whnf);refine ⟨L,ts,rfl,ho,fun b hb=>?_⟩
   cases b with
   | true =>
    have ho2:=ho.tl (ZbV hb);have g1:=ho.lo;have g2:=ho2.hi;have g3:=ho2.big;rw [Z1,Tf hb] at h;(conv=>whnf);refine oiO ?_;(conv=>whnf);refine oiO ?_;(conv=>whnf)
    cases ts with
    | nil=>exact absurd rfl (ZbV hb)
    | cons t0 ts =>
     obtain ⟨x,hx,rfl,hp⟩:=ho.get;refine ⟨Zro x,by omega,by rw [show a+1 - 1=a by omega];simp [Zv,hx],?_⟩;(conv=>whnf);exact h _ (by omega) ho2
   | false =>
    rw [Z1,Tc (by rw [hb];simp)] at h;(conv=>whnf);refine ⟨L,ts,rfl,ho,?_⟩;exact m53
  ·exact h.elim
 ·exact h.elim
noncomputable def Zpl:Tbl:=[(198,ZaL),(136,Zh4),(148,ZeT),(212,Xk)]
theorem Zpm (ht:TblOK (GG w0 nG) Zpl):PCalls (GG w0 nG) 262 (Zaw Zx):=by
 refine pc ht Tryz.func262 ?_;intro args σ K h
 unfold Zaw We at h
 split at h
 ·rename_i rest t rows a en dp
  obtain ⟨L,ts,rfl,ho,h⟩:=h;split at h
  ·skip
   refine ⟨Zb [],1,false,by simp,Ta rfl,?_⟩;(conv=>whnf);refine ⟨L,ts,rfl,ho,fun fin=>Or.inl ⟨rfl,?_⟩⟩;(conv=>whnf);refine ZAf (fun h1=>?_) (fun h1=>?_)
   ·conv=>whnf
    refine ZAf (fun _=>?_) (fun g=>absurd h1 g);(conv=>whnf);exact h _ (by rw [Zx,Tf (by omega)])
   conv=>whnf
   refine ZAf (fun h2=>?_) (fun h2=>?_)
   ·conv=>whnf
    exact h _ (by rw [Zx,Tf (by omega)])
   conv=>whnf
   refine ZAf (fun h3=>?_) (fun h3=>?_)
   ·conv=>whnf
    refine ⟨L,ts,rfl,ho,[[45],[126],[40],[91],[36]],rfl,by simp,fun b hb=>?_⟩;(conv=>whnf);exact h _ (by rw [Zx,Tc (by omega),Tf (by omega)];exact hb)
   conv=>whnf
   refine ZAf (fun h4=>?_) (fun h4=>?_)
   ·have e0:Zx ts=(!Zcm (hd ts).text || (decide ((hd ts).text=[110,105,108]) || decide (ZU (hd ts).text≠0))):=by rw [Zx,Tc (by omega),Tc (by omega),Tf (by omega)]
    rw [e0] at h;(conv=>whnf);intro b hb
    rw [hb] at h
    cases b with
    | false => conv => whnf
               exact h _ rfl
    | true =>
     conv=>whnf
     refine ZAf (fun h5=>?_) (fun h5=>?_)
     ·conv=>whnf
      exact h _ (by rw [TC (p:=(hd ts).text=[110,105,108]) h5];rfl)
     ·conv=>whnf
      intro n hn
      conv=>whnf
      exact h _ (by rw [decide_eq_false (p:=(hd ts).text=[110,105,108]) h5,← hn];by_cases g:ZU (hd ts).text=0 <;> simp [g])
   ·conv=>whnf
    exact h _ (by rw [Zx,Tc (by omega),Tc (by omega),Tc (by omega)])
  ·exact h.elim
 ·exact h.elim
noncomputable def Zpn:Zr:=We fun rest L en dp a ts K=>match rest with
 | []=>∀n k:Int,((Wu ts).1:Int)=n→((Wu ts).2:Int)=k→K (.ret (.tuple [.d (.int .i64 n),.d (.int .u8 k)])) a dp
 | _=>False
theorem Zgz:Za Zpn:=ZS fun rest L en dp a ts K K' hK h=>by
 split at h
 ·exact fun n k h1 h2=>hK _ _ _ (h n k h1 h2)
 ·exact h.elim
noncomputable def ZwJ:Tbl:=[(198,ZaL)]
theorem Zpo (ht:TblOK (GG w0 nG) ZwJ):PCalls (GG w0 nG) 162 Zpn:=by
 refine pc ht Tryz.func162 ?_;intro args σ K h
 unfold Zpn We at h
 split at h
 ·rename_i rest t rows a en dp
  obtain ⟨L,ts,rfl,ho,h⟩:=h;split at h
  ·skip
   refine ⟨Zb [],1,false,by simp,Ta rfl,?_⟩;(conv=>whnf);refine ⟨L,ts,rfl,ho,fun fin=>Or.inl ⟨rfl,?_⟩⟩;(conv=>whnf);refine ZAh (fun h1=>?_) (fun h1=>?_)
   ·conv=>whnf
    refine ZAh (fun h2=>?_) (fun h2=>?_)
    ·conv=>whnf
     have e0:Wu ts=(0,0):=by rw [Wu,Tf (by omega)]
     exact h _ _ (by rw [e0];rfl) (by rw [e0];rfl)
    ·have hn:¬((hd ts).kind≠1∧(hd ts).kind≠4):=by omega
     clear h1 h2
     exact m130
   ·have hn:¬((hd ts).kind≠1∧(hd ts).kind≠4):=by omega
    clear h1
    exact m130
  ·exact h.elim
 ·exact h.elim
end Go.PM.Lex
end
