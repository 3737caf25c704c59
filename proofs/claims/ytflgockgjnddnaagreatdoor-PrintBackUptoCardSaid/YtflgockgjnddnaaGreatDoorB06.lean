/- A part of the proof: plain logic, contracts and laws over the given program. -/
import Derived.KernelRfl
import Derived.Test.YtflgockgjnddnaaGreatDoorB05
set_option linter.unusedVariables false
set_option linter.unusedSimpArgs false
set_option linter.all false
set_option maxRecDepth 100000
set_option maxHeartbeats 16000000
section
namespace Go.PM.Lex
open Go.Proofs
variable {w0:World} {nG:Nat}
theorem ZjI (r:Bs) (h:0<r.length):Xi r≤r.length∧Xi r≤2:=by
 unfold Xi
 split
 ·rename_i h1
  simp only [twos,SE,List.any_nil,Su,Sr] at h1
  rcases h1 with h1 | h1 | h1 | h1 | h1
  all_goals (have:=(Ye h1).1;omega)
 ·split <;> omega
theorem YJ (a:Nat) (r:Bs) (room:Bool):VA a r room=if Xi r=0∧(pk r).1≠34∧Zi (pk r).1=false∧Zo (pk r).1=false then .bad a 140
 else if room=false then .bad a 3
 else if 0<Xi r then .tok ⟨4,r.take (Xi r),0,a,a+Xi r⟩
 else if (pk r).1=34 then Zdj a r
 else if Zo (pk r).1=true then WT a r
 else .tok ⟨1,r.take (Vz r),0,a,a+Vz r⟩:=rfl
noncomputable def ZtK:Tbl:=[(209,Zat),(279,ZfE),(210,VL),(268,ZaT),(280,ZfF),(281,J7),(211,Zd6)]
theorem ZtL (ht:TblOK (GG w0 nG) ZtK):PCalls (GG w0 nG) 227 ZfG:=by
 refine pc ht Tryz.func227 ?_
 intro args σ K h
 unfold ZfG at h
 split at h
 ·rename_i room t s a
  obtain ⟨⟨h0,h1,hs⟩,h⟩:=h
  obtain ⟨a,rfl⟩:∃n:Nat,a=n:=⟨a.toNat,by omega⟩
  simp only [TS] at h
  have hpr:-1≤(pk (s.drop ((a:Int)).toNat)).1∧(pk (s.drop ((a:Int)).toNat)).1≤1114111:=VN (s.drop a)
  have hsl:=ZjI (s.drop a) (by rw [Tv];omega)
  rw [Tv] at hsl
  have hbad:∀e:Nat,VA a (s.drop a) room=.bad a e→K (.ret (.tuple [Zff 0 [] 0 0 0,ZhK a e])) ⟨[.cells t [.d (.str s),.d (.int .i64 a)]],[],0⟩:=fun e g=>by
   rw [g] at h;exact h
  have hsign:∀n:Nat,Xi (s.drop a)=n→VA a (s.drop a) room=.tok ⟨4,(s.drop a).take n,0,a,a+n⟩→K (.ret (.tuple [Zff 4 (cut s ((a:Int)).toNat ((a:Int)+(n:Int)).toNat) 0 a ((a:Int)+(n:Int)),ZhK 0 0])) ⟨[.cells t [.d (.str s),.d (.int .i64 a)]],[],0⟩:=fun n g1 g2=>by
   rw [g2] at h
   rw [Zgp,show ((a:Int)+(n:Int)).toNat - ((a:Int)).toNat=n by omega]
   exact h
  have hn2:VA a (s.drop a) room=.tok ⟨1,(s.drop a).take (Vz (s.drop a)),0,a,a+Vz (s.drop a)⟩→K (.ret (.tuple [Zff 1 ((s.drop a).take (Vz (s.drop a))) 0 a ((a:Int)+(Vz (s.drop a):Int)),ZhK 0 0])) ⟨[.cells t [.d (.str s),.d (.int .i64 a)]],[],0⟩:=fun g=>by
   rw [g] at h;exact h
  refine ⟨Za [],1,false,by simp,Tb rfl,?_⟩
  conv=>whnf
  refine ⟨⟨by omega,by omega⟩,?_⟩
  conv=>whnf
  refine ⟨⟨by omega,by omega,by omega⟩,?_⟩
  conv=>whnf
  generalize hc0:(pk (s.drop ((a:Int)).toNat)).1=c at hpr ⊢
  have hc:(pk (s.drop a)).1=c:=hc0
  generalize hn0:Xi (s.drop ((a:Int)).toNat)=n
  have hn:Xi (s.drop a)=n:=hn0
  rw [hn] at hsl
  refine ZCX (fun h2=>?_) (fun h2=>?_)
  ·obtain rfl:n=0:=by omega
   conv=>whnf
   refine ZCY (fun h3=>?_) (fun h3=>?_)
   ·conv=>whnf
    refine ⟨⟨by omega,by omega⟩,?_⟩
    conv=>whnf
    refine ZC1 (fun h4=>?_) (fun h4=>?_)
    ·have h4':Zi c=false:=by simpa using h4
     conv=>whnf
     refine ZC1 (fun h5=>?_) (fun h5=>?_)
     ·have h5':Zo c=false:=by simpa using h5
      conv=>whnf
      (try (refine ⟨rfl,?_⟩;conv=>whnf))
      (try (refine ⟨rfl,?_⟩;conv=>whnf))
      exact hbad 140 (by rw [YJ,hn,hc,Th ⟨rfl,h3,h4',h5'⟩])
     ·have h5':Zo c=true:=by simpa using h5
      have hno:¬(0=0∧c≠34∧Zi c=false∧Zo c=false):=fun g=>by rw [h5'] at g;simp at g
      cases room with
      | false =>
       exact m60
      | true =>
       conv=>whnf
       refine ZCX (fun h6=>?_) (fun h6=>?_)
       ·exact absurd h6 (by simpa using h3)
       ·conv=>whnf
        refine ZC1 (fun h7=>?_) (fun h7=>?_)
        ·conv=>whnf
         refine ⟨⟨by omega,by omega,by omega⟩,?_⟩
         conv=>whnf
         have g:VA a (s.drop a) true=WT a (s.drop a):=by
          rw [YJ,hn,hc,Tf hno,Tf (by simp),Tf (by omega),Tf h3,Th h5']
         rw [g] at h
         exact h
        ·rw [h5'] at h7;cases h7
    ·have h4':Zi c=true:=by simpa using h4
     have h5':Zo c=false:=by
      have h4'':(c=95∨128≤c∨(97≤c∧c≤122)∨(65≤c∧c≤90)):=by simpa [Zi] using h4'
      simp only [Zo,decide_eq_false_iff_not];omega
     have hno:¬(0=0∧c≠34∧Zi c=false∧Zo c=false):=fun g=>by rw [h4'] at g;simp at g
     cases room with
     | false =>
      exact m60
     | true =>
      conv=>whnf
      refine ZCX (fun h6=>?_) (fun h6=>?_)
      ·exact absurd h6 (by simpa using h3)
      ·conv=>whnf
       refine ZC1 (fun h7=>?_) (fun h7=>?_)
       ·rw [h5'] at h7;cases h7
       ·conv=>whnf
        refine ⟨⟨by omega,by omega,by omega⟩,?_⟩
        conv=>whnf
        exact hn2 (by rw [YJ,hn,hc,Tf hno,Tf (by simp),Tf (by omega),Tf h3,Tf (by rw [h5'];simp)])
   ·obtain rfl:c=34:=h3
    have hno:¬(0=0∧(34:Int)≠34∧Zi 34=false∧Zo 34=false):=fun g=>g.2.1 rfl
    cases room with
    | false =>
     exact m60
    | true =>
     conv=>whnf
     refine ⟨⟨by omega,by omega,by omega⟩,?_⟩
     conv=>whnf
     have g:VA a (s.drop a) true=Zdj a (s.drop a):=by
      rw [YJ,hn,hc,Tf hno,Tf (by simp),Tf (by omega),Th rfl]
     rw [g] at h
     exact h
  ·have hno:¬(n=0∧c≠34∧Zi c=false∧Zo c=false):=fun g=>by omega
   cases room with
   | false =>
    exact m60
   | true =>
    conv=>whnf
    refine ZCX (fun h6=>?_) (fun h6=>?_)
    ·conv=>whnf
     refine oiO ?_
     conv=>whnf
     refine ⟨by omega,by omega,by omega,?_⟩
     conv=>whnf
     refine oiO ?_
     conv=>whnf
     (try (refine ⟨rfl,?_⟩;conv=>whnf))
     (try (refine ⟨rfl,?_⟩;conv=>whnf))
     exact hsign n hn (by rw [YJ,hn,hc,Tf hno,Tf (by simp),Th (by omega)])
    ·omega
 ·exact h.elim
end Go.PM.Lex
end

section
namespace Go.PM.Lex
theorem ZxE (r:Bs) (h0:0≤(pk r).1) (h:(pk r).1<128):0<r.length∧(pk r).1=((r.getD 0 0).toNat:Int)∧(pk r).2=1:=by
 unfold pk at h h0 ⊢
 split at h
 ·rename_i g;rw [Th g] at h0;simp at h0
 ·rename_i g
  simp only [not_or] at g
  rw [Tf (by simp only [not_or];exact g)] at h0 ⊢
  have hl:0<r.length:=T8.2 g.1
  refine ⟨hl,?_⟩
  rw [Lib.decodeL_N] at h ⊢
  rcases Lib.decodeN_shape r.length (r.getD 0 0).toNat (r.getD 1 0).toNat (r.getD 2 0).toNat (r.getD 3 0).toNat with ⟨c,e⟩ | ⟨c1,c2,c3,cv,e⟩ | ⟨c1,c2,c3,c4,cv,cs,e⟩ | ⟨c1,c2,c3,c4,c5,cv,cw,e⟩ | e
  ·rw [e];exact ⟨rfl,rfl⟩
  all_goals (rw [e] at h;dsimp only at h;omega)
theorem isLetter_iff {c:Int}:Zi c=true↔(c=95∨128≤c∨(97≤c∧c≤122)∨(65≤c∧c≤90)):=by simp [Zi]
theorem isDigit_iff {c:Int}:Zo c=true↔(48≤c∧c≤57):=by simp [Zo]
theorem Zeb:∀(f:Nat) (r:Bs),YT f r≤r.length
 | 0,r=>T7 _
 | f+1,r=>by
  have ih:=Zeb f (r.drop (pk r).2)
  rw [Tv] at ih
  have hl:(pk r).1≠-1→(pk r).2≤r.length:=fun h=>(Zq4 r h).2.1
  unfold YT
  split
  ·rename_i h;have:=hl (by omega);split <;> omega
  ·split
   ·rename_i h
    have:=hl (fun h1=>by rw [h1,JB,ZaU] at h;simp at h)
    omega
   ·omega
theorem Zom (r:Bs) (h:Zi (pk r).1=true):1≤Vz r∧Vz r≤r.length:=by
 refine ⟨?_,Zeb _ _⟩
 have:=Zof r
 have h46:¬(pk r).1=46:=fun g=>by rw [g] at h;revert h;decide
 rw [Vz,Zbw h46 (.inl h)];omega
theorem J8:∀(f:Nat) (r:Bs) (esc:Bool) (acc:Bs) (p:Nat) (t:Bs) (l:Nat),ZO f r esc acc p=.ok t l→p<l∧l≤p+r.length
 | 0,r,esc,acc,p,t,l,h=>by simp [ZO] at h
 | f+1,r,esc,acc,p,t,l,h=>by
  unfold ZO at h
  split at h
  ·cases h
  ·rename_i hne
   have hd:=Lib.decodeL_le r hne
   have hr:=Zcl r
   split at h
   ·split at h
    ·cases h
    ·have:=J8 f _ _ _ _ _ _ h;rw [Tv] at this;omega
   ·split at h
    ·cases h;have:=T8.2 hne;omega
    ·split at h
     ·have:=J8 f _ _ _ _ _ _ h;rw [Tv] at this;omega
     ·split at h
      ·cases h
      ·have:=J8 f _ _ _ _ _ _ h;rw [Tv] at this;omega
theorem ZhX (r:Bs):Zv r≤r.length:=by
 unfold Zv Ze
 have:=JD (Wi (Ws r)) (r.drop (if Ws r then 2 else 0))
 rw [Tv] at this
 by_cases h:Ws r=true
 ·have:=(Ye h).1
  simp only [h,if_true] at *;omega
 ·simp only [h,Tr,if_false] at *;omega
theorem Zon {a:Nat} {r:Bs} {room:Bool} {t:Tok} (h0:0<r.length) (h:VA a r room=.tok t):t.at'=a∧a<t.fin∧t.fin≤a+r.length:=by
 rw [YJ] at h
 split at h
 ·cases h
 ·rename_i g0
  split at h
  ·cases h
  ·split at h
   ·cases h;rename_i g1;have:=ZjI r h0;exact ⟨rfl,by simp only;omega,by simp only;omega⟩
   ·rename_i g1
    split at h
    ·unfold Zdj at h
     split at h
     ·cases h
     ·rename_i t' l hx
      cases h
      have:=J8 _ _ _ _ _ _ _ hx
      rw [Tv] at this
      exact ⟨rfl,by simp only;omega,by simp only;omega⟩
    ·rename_i g2
     split at h
     ·rename_i g3
      unfold WT at h
      split at h
      ·cases h
      ·rename_i n hx
       cases h
       have hle:=ZhX r
       refine ⟨rfl,?_,by simp only;omega⟩
       simp only
       have hne:Ze r≠[]:=fun g=>by rw [Z0,Th g] at hx;cases hx
       have:=T8.2 hne
       unfold Zv;omega
     ·rename_i g3
      cases h
      have h4:Zi (pk r).1=true:=by
       cases hb:Zi (pk r).1 with
       | true=>rfl
       | false=>exact absurd ⟨by omega,g2,hb,by simpa using g3⟩ g0
      have:=Zom r h4
      exact ⟨rfl,by simp only;omega,by simp only;omega⟩
theorem Zoo {a:Nat} {r:Bs} {room:Bool} {p e:Nat} (h:VA a r room=.bad p e):e≠0∧e≤142:=by
 rw [YJ] at h
 repeat' split at h
 all_goals first | (cases h;done) | (cases h;omega) | (cases h;decide) | skip
 ·unfold Zdj at h;split at h <;> cases h;decide
 ·unfold WT at h;split at h <;> cases h;decide
theorem Zec:∀(f:Nat) (r:Bs),(Zw f r).2≤r.length
 | 0,r=>T7 _
 | f+1,r=>by
  have hdw:=VO (([32,9,13,10]:Bs).contains ·) r
  obtain ⟨rest,hrest⟩:∃x,x=Lib.trimLeftS r [32,9,13,10]:=⟨_,rfl⟩
  have hr2:rest.length≤r.length:=by rw [hrest];exact hdw.2
  simp only [Zw,← hrest]
  split
  ·rename_i h1
   have ih:=fun n=>Zec f (rest.drop n)
   have hlt:=JC 10 rest
   have hge:=Lib.indexByte_ge rest 10
   have ih2:=ih (if Lib.indexByte rest 10<0 then rest.length else (Lib.indexByte rest 10).toNat)
   rw [Tv] at ih2
   simp only
   have:(if Lib.indexByte rest 10<0 then rest.length else (Lib.indexByte rest 10).toNat)≤rest.length:=by split <;> omega
   omega
  ·split
   ·rename_i h1 h2
    have hl:=(Ye h2).1
    split
    ·simp only;omega
    ·rename_i h3
     have hle:=Zgq [42,47] (rest.drop 2) (by omega)
     simp only [Tv,Tc,Td] at hle
     have ih2:=Zec f (rest.drop ((Lib.index (rest.drop 2) [42,47]).toNat+4))
     rw [Tv] at ih2
     simp only
     omega
   ·simp only;omega
end Go.PM.Lex
end

section
namespace Go.PM
def Zop (T:Tab) (tbl:Tbl) (it:Zmo) (gid:FuncId) (fn:Func):Zmo:=fun g args raw σ K=>∃loops,Zoa T tbl it gid fn loops g args raw σ K
theorem ZjJ {G : GE} {T : Tab} {tbl : Tbl} (hT : TabOK T G.P) (hmix : G.P.follows .mixedOrders = true) (ht : TblOK G tbl) {it : Zmo} (hit : UP G it) {gid : FuncId} {fn : Func} {c : Code} (hf : G.P.funcs[gid]? = some fn) (hb : fn.body = some c) (hname : (fn.name == "runtime.NumGoroutine") = false)
  (hok:ZS fn.ntmps c=true):UP G (Zop T tbl it gid fn):=fun g args raw σ K h=>by
 obtain ⟨loops,h⟩:=h
 exact Zmq hT hmix ht hit hf hb hname hok loops g args raw σ K h
end Go.PM
namespace Go.PM.Lex
open Go.Proofs
variable {w0:World} {nG:Nat}
noncomputable def Zoq:ZA:=fun args σ K=>match args,σ with
 | [.d (.str s),.d (.int .i64 m)],⟨[],[],0⟩=>K (.ret (.func 225 [] [.ptr 0 0,.ptr 1 0])) ⟨[.cells 9 [.d (.str s)],.cells 3 [.d (.int .i64 m)]],[],0⟩
 | _,_=>False
theorem Zmu:Zc Zoq:=fun args σ K K' hK h=>by
 unfold Zoq at h ⊢;split at h <;> first | exact hK _ _ h | exact h.elim
theorem ZxF:PCalls (GG w0 nG) 160 Zoq:=by
 refine pc (tbl:=[]) trivial Tryz.func160 ?_
 intro args σ K h
 unfold Zoq at h
 split at h
 ·rename_i s m
  refine ⟨Za [],2,false,by simp,Tb rfl,?_⟩
  exact m35
 ·exact h.elim
def ZxG (t:Tok):List D:=[.int .u8 t.kind,.str t.text,.int .i64 t.n,.int .i64 t.at',.int .i64 t.fin]
def Z8 (l:List Tok):List (List D):=l.map ZxG
theorem XK (l:List Tok):(Z8 l).length=l.length:=by simp [Z8]
theorem Zmv (l:List Tok) (t:Tok):Z8 (l++[t])=Z8 l++[ZxG t]:=by simp [Z8]
noncomputable def Zbz:ZA:=fun args σ K=>match args,σ with
 | [.d (.str s),.d (.int .i64 m)],⟨[],[],0⟩=>s.length<4294967281 ∧
   K (.ret (.tuple [.d (.sl (if (Zd3 s m).2.2=0 then Z8 (Zd3 s m).1 else [])),.d (.int .i64 (Zd3 s m).2.1),.d (.int .i64 (Zd3 s m).2.2)])) ⟨[],[],0⟩
 | _,_=>False
noncomputable def Zgt:Tbl:=[(226,Zci),(227,ZfG)]
noncomputable def Zor:Tbl:=[(160,Zoq)]
noncomputable def ZA5:Zmo:=Zop ZjB Zgt WN 225 Tryz.f225
theorem Zos (ht:TblOK (GG w0 nG) Zgt):UP (GG w0 nG) ZA5:=ZjJ XG mixed ht Y9 Tryz.func225 rfl (by kernel_rfl) (by kernel_rfl)
def muX (B:Int) (k:Nat):List PV→St→Nat:=fun _ σ=>match σ.bx[k]? with | some (.cells _ (_::.d (.int _ n)::_))=>(B - n).toNat | _=>0
theorem Zot (ht1:TblOK (GG w0 nG) Zgt) (ht:TblOK (GG w0 nG) Zor):PCalls (GG w0 nG) 79 Zbz:=by
 refine Zob XG mixed ht (Zos ht1) Tryz.func79 rfl (by kernel_rfl) (by kernel_rfl) ?_
 intro args σ K h
 unfold Zbz at h
 split at h
 ·rename_i s m
  obtain ⟨hs,h⟩:=h
  refine ⟨Za [],0,false,by simp,Tb rfl,?_⟩
  conv=>whnf
  intro y r
  refine ⟨Za [(3,⟨[5],[0,1,2,4],fun vs σ=>∃(l:List Tok) (e f:Nat),vs=[.d (.int .i64 (l.length:Int))] ∧
   σ=⟨[.cells 134 [.sl 0 218 []],.cells 3 [.d (.int .i64 0)],.cells 27 [.d (.int .i64 0)],.cells 134 [.sl 1 218 (Z8 l)],.cells 9 [.d (.str s)],.cells 3 [.d (.int .i64 m)],.loop .ready none r,.cells 251 [.d (.str s),.d (.int .i64 e)]],[1,0],2⟩ ∧
   (e≤s.length∧s.length<e+f∧l.length≤e)∧Zd3 s m=(l++(WU f (m - l.length) e (s.drop e)).1,(WU f (m - l.length) e (s.drop e)).2),muX s.length 7⟩)],rfl,?_⟩
  conv=>whnf
  refine ⟨⟨[],0,s.length+1,rfl,rfl,⟨by omega,by omega,by simp⟩,by simp [Zd3]⟩,?_⟩
  intro vs σ1 hI
  obtain ⟨l,e,f,rfl,rfl,⟨he1,he2,hle⟩,hall⟩:=hI
  obtain ⟨f,rfl⟩:∃g,f=g+1:=⟨f - 1,by omega⟩
  have hbl:(Z3 (s.drop e)).2≤s.length - e:=by have:(Z3 (s.drop e)).2≤(s.drop e).length:=Zec _ _;rw [Tv] at this;exact this
  have hbad:∀p c:Nat,(WU (f+1) (m - l.length) e (s.drop e)).2=(p,c)→c≠0→K (.ret (.tuple [.d (.sl []),.d (.int .i64 p),.d (.int .i64 c)])) ⟨[],[],0⟩:=fun p c g1 g2=>by
   have e1:(Zd3 s m).2=(p,c):=by rw [hall];exact g1
   rw [e1] at h
   simp only at h
   rw [Tf g2] at h
   exact h
  have hend:WU (f+1) (m - l.length) e (s.drop e)=([],(0,0))→K (.ret (.tuple [.d (.sl (Z8 l)),.d (.int .i64 0),.d (.int .i64 0)])) ⟨[],[],0⟩:=fun g=>by
   rw [hall,g] at h
   simp only [TC,if_true] at h
   exact h
  conv=>whnf
  refine ⟨⟨by omega,by omega,by omega⟩,?_⟩
  conv=>whnf
  generalize hk0:(Z3 (s.drop ((e:Int)).toNat)).2=k
  have hk:(Z3 (s.drop e)).2=k:=hk0
  rw [hk] at hbl
  refine ZC1 (fun h2=>?_) (fun h2=>?_)
  ·have h2':(Z3 (s.drop e)).1=false:=by simpa using h2
   have g1:WU (f+1) (m - l.length) e (s.drop e)=([],(e+k,140)):=by rw [WU,Th h2',hk]
   have g2:=hbad _ _ (by rw [g1]) (by decide)
   rw [show ((e+k:Nat):Int)=(e:Int)+(k:Int) by omega] at g2
   conv=>whnf
   refine ⟨rfl,rfl,rfl,?_⟩
   conv=>whnf
   refine ⟨rfl,?_⟩
   conv=>whnf
   iterate 6 (try (refine ⟨rfl,?_⟩;conv=>whnf))
   exact g2
  ·have h2':(Z3 (s.drop e)).1=true:=by simpa using h2
   have hb1:¬(Z3 (s.drop e)).1=false:=by rw [h2'];simp
   conv=>whnf
   refine ZCX (fun h3=>?_) (fun h3=>?_)
   ·have hnil:(s.drop e).drop k=[]:=by rw [TO];exact TP (by omega)
    have g1:WU (f+1) (m - l.length) e (s.drop e)=([],(0,0)):=by rw [WU,Tf hb1,hk,Th hnil]
    conv=>whnf
    exact hend g1
   ·have hlt:e+k<s.length:=by omega
    have hne:¬(s.drop e).drop k=[]:=fun g=>by have:=congrArg List.length g;rw [TO,Tv] at this;simp at this;omega
    have g1:WU (f+1) (m - l.length) e (s.drop e)=(match VA (e+k) (s.drop (e+k)) (decide ((l.length:Int)<m)) with
      | .bad p e=>([],(p,e))
      | .tok t=>(t::(WU f (m - l.length - 1) t.fin ((s.drop (e+k)).drop (t.fin - (e+k)))).1,(WU f (m - l.length - 1) t.fin ((s.drop (e+k)).drop (t.fin - (e+k)))).2)):=by
     rw [WU,Tf hb1,hk,Tf hne,TO,show (decide (0<m - (l.length:Int)))=decide ((l.length:Int)<m) from by rw [decide_eq_decide];omega]
     rfl
    conv=>whnf
    refine ⟨⟨by omega,by omega,by omega⟩,?_⟩
    conv=>whnf
    generalize hx0:VA ((e:Int)+(k:Int)).toNat (s.drop ((e:Int)+(k:Int)).toNat) _=x
    have hx:VA (e+k) (s.drop (e+k)) (decide ((l.length:Int)<m))=x:=by
     rw [show ((e:Int)+(k:Int)).toNat=e+k by omega] at hx0;exact hx0
    rw [hx] at g1
    cases x with
    | bad p c =>
     have hc:=Zoo hx
     have g2:=hbad p c (by rw [g1]) hc.1
     conv=>whnf
     refine ⟨rfl,rfl,rfl,?_⟩
     conv=>whnf
     refine ⟨rfl,?_⟩
     conv=>whnf
     refine ZCY (fun h4=>?_) (fun h4=>?_)
     ·conv=>whnf
      iterate 6 (try (refine ⟨rfl,?_⟩;conv=>whnf))
      exact g2
     ·exact absurd h4 (by have:((c:Nat):Int)≠0:=(by omega);exact this)
    | tok t =>
     obtain ⟨ht1,ht2,ht3⟩:=Zon (by rw [Tv];omega) hx
     rw [Tv] at ht3
     conv=>whnf
     refine ⟨rfl,rfl,rfl,?_⟩
     conv=>whnf
     refine ⟨rfl,?_⟩
     conv=>whnf
     refine ⟨fun r hr=>by (simp at hr;subst hr;rfl),(show ((Z8 l).length+1) * 48≤2 ^ 47 by rw [XK];omega),(show (Z8 l).length+1≤2 ^ 47 by rw [XK];omega),?_⟩
     conv=>whnf
     iterate 3 (try (refine ⟨rfl,?_⟩;conv=>whnf))
     refine oiO ?_
     conv=>whnf
     refine ⟨⟨l++[t],t.fin,f,?_,?_,⟨by omega,by omega,by rw [Ta];simp;omega⟩,?_⟩,?_⟩
     ·rw [Ta];rfl
     ·rw [Zmv];rfl
     ·have hd:(s.drop (e+k)).drop (t.fin - (e+k))=s.drop t.fin:=by rw [TO,show e+k+(t.fin - (e+k))=t.fin by omega]
      rw [hall,g1,Ta]
      simp only [hd,Tc,Td,Int.natCast_add,Int.sub_sub,Tg,Tm,To]
      rfl
     ·exact (show ((s.length:Int) - (t.fin:Int)).toNat<((s.length:Int) - (e:Int)).toNat by omega)
 ·exact h.elim
end Go.PM.Lex
end

section
namespace Go.PM.Lex
open Go.Proofs
variable {w0:World} {nG:Nat}
noncomputable def ZxH:Tbl:=[(323,ZxC),(324,JE)]
theorem ZhY (hg:GlobOK w0 nG):PCalls (GG w0 nG) 312 Vj:=by
 refine pc (tbl:=ZxH) ⟨⟨ZAY,Zoj⟩,⟨Zmt hg,Zfh⟩,trivial⟩ Tryz.func312 ?_
 intro args σ K h
 unfold Vj at h
 split at h
 ·rename_i l base bits
  obtain ⟨hex,⟨hl,rfl,rfl⟩,hbad,hgood⟩:=h
  refine ⟨Za [],0,false,by simp,Tb rfl,?_⟩
  conv=>whnf
  refine ⟨hex,⟨hl,rfl,rfl⟩,fun h0=>?_,fun h0 h1=>?_,fun h0 h1=>?_⟩
  ·conv=>whnf
   refine ⟨⟨.inr rfl,hl.2⟩,?_⟩
   conv=>whnf
   exact hbad (.inl h0) _
  ·conv=>whnf
   refine ⟨⟨.inl rfl,hl.2⟩,?_⟩
   conv=>whnf
   exact hbad (.inr h1) _
  ·conv=>whnf
   exact hgood (by simp only [not_or];exact ⟨h0,h1⟩)
 ·exact h.elim
end Go.PM.Lex
end

section
namespace Go.PM.Lex
open Go.Proofs
variable {w0:World} {nG:Nat}
theorem Zou:PCalls (GG w0 nG) 209 Zat:=Zty ⟨⟨Zmr,Zfe⟩,⟨VM,XQ⟩,trivial⟩
theorem ZA6:PCalls (GG w0 nG) 279 ZfE:=ZtA ⟨⟨VM,XQ⟩,⟨Jz,WV⟩,trivial⟩
theorem ZxI:PCalls (GG w0 nG) 211 Zd6:=ZtC ⟨⟨Zou,Vi⟩,⟨Zbv,W4⟩,⟨Zgo,Jy⟩,trivial⟩
theorem ZxJ (hg:GlobOK w0 nG):PCalls (GG w0 nG) 226 Zci:=Zq6 ⟨⟨ZjD,Zd5⟩,⟨VM,XQ⟩,⟨Jz,WV⟩,⟨Zq2 (by have:=hg.big;omega) hg.maxLen,ZhJ⟩,trivial⟩
theorem ZtM (hg:GlobOK w0 nG):PCalls (GG w0 nG) 281 J7:=Zoi ⟨⟨VM,XQ⟩,⟨Zgo,Jy⟩,⟨ZhY hg,Zdk⟩,⟨Zou,Vi⟩,⟨Zbv,W4⟩,trivial⟩
theorem ZhZ:PCalls (GG w0 nG) 216 Vk:=Xa (Zh Tryz.func216 (by kernel_rfl) rfl) fun args σ K h e w vs hS ha=>by
 unfold Vk at h
 split at h
 ·obtain ⟨u,rfl,hu⟩:=ZhM ha
  cases hu.dint
  exact ⟨_,h,_,fun _ _=>.mkbool,(Tryz.utf8_ValidRune _ w).mono fun en w' ⟨h1,h2⟩=>⟨h1,by rw [h2];exact Grows.refl _⟩⟩
 ·exact h.elim
theorem ZfK:PCalls (GG w0 nG) 151 XU:=ZhW ⟨⟨Jz,WV⟩,⟨ZhZ,Zdl⟩,trivial⟩
theorem ZA7:PCalls (GG w0 nG) 280 ZfF:=ZtJ ⟨⟨ZfK,Jg⟩,⟨ZcW,Je⟩,⟨Zou,Vi⟩,⟨ZcX,Jf⟩,⟨ZhP,Zbu⟩,trivial⟩
theorem ZA8 (hg:GlobOK w0 nG):PCalls (GG w0 nG) 227 ZfG:=ZtL ⟨⟨Zou,Vi⟩,⟨ZA6,ZjC⟩,⟨Zbv,W4⟩,⟨Zgo,Jy⟩,⟨ZA7,ZjE⟩,⟨ZtM hg,Zgn⟩,⟨ZxI,Zd7⟩,trivial⟩
theorem ZA9 (hg:GlobOK w0 nG):TblOK (GG w0 nG) Zgt:=⟨⟨ZxJ hg,ZhL⟩,⟨ZA8 hg,ZjF⟩,trivial⟩
theorem ZtN (hg:GlobOK w0 nG):PCalls (GG w0 nG) 79 Zbz:=Zot (ZA9 hg) ⟨⟨ZxF,Zmu⟩,trivial⟩
end Go.PM.Lex
end

section
namespace Go.PM.Lex
structure T0 where
 kind:Nat
 text:Bs
 n:Int
 deriving DecidableEq
def Tok.t0 (t:Tok):T0:=⟨t.kind,t.text,t.n⟩
abbrev Ts:=List T0
inductive R (α:Type) where
 | ok (a:α) (ts:Ts) | err (r e:Nat)
def R.bind {α β:Type} (x:R α) (f:α→Ts→R β):R β:=match x with
 | .ok a ts=>f a ts
 | .err r e=>.err r e
@[simp] theorem R.bind_ok {α β:Type} (a:α) (ts:Ts) (f:α→Ts→R β):(R.ok a ts).bind f=f a ts:=rfl
@[simp] theorem R.bind_err {α β:Type} (r e:Nat) (f:α→Ts→R β):(R.err r e:R α).bind f=.err r e:=rfl
inductive Ex where
 | mk (op:Nat) (text:Bs) (n:Int) (args:List Ex) (at':Nat)
inductive Li where
 | mk (op:Nat) (rel:Bs) (args:List Ex) (body:List Li) (at':Nat)
structure Ru where
 head:Bs
 args:List Ex
 body:List Li
 at':Nat
structure Fi where
 name:Bs
 typ:Bs
structure Ca where
 name:Bs
 fields:List Fi
structure Ty where
 kind:Nat
 name:Bs
 base:Bs
 fields:List Fi
 cases:List Ca
 at':Nat
structure Re where
 name:Bs
 fields:List Fi
 inn:Bool
 out:Bool
 inl:Bool
 at':Nat
structure Ini where
 name:Bs
 comp:Bs
 types:List Bs
 at':Nat
structure Ov where
 rel:Bs
 at':Nat
mutual
inductive Un where
 | mk (types:List Ty) (rels:List Re) (rules:List Ru) (comps:List Co) (inits:List Ini) (overs:List Ov)
inductive Co where
 | mk (name:Bs) (params:List Bs) (base:Bs) (types:List Bs) (unit:Un) (at':Nat)
end
def hd (ts:Ts):T0:=match ts with
 | []=>⟨0,[],0⟩
 | t::_=>t
def Yk (s:Bs):Nat :=
 if s=[99,97,116] then 20 else if s=[115,116,114,108,101,110] then 21 else if s=[115,117,98,115,116,114] then 22 else if s=[99,111,100,101] then 23 else if s=[115,116,114] then 24 else if s=[110,117,109] then 25 else 0
def keptWords:List Bs:=[[116,121,112,101],[100,101,99,108],[105,110,112,117,116],[111,117,116,112,117,116],[105,110,108,105,110,101],[99,111,109,112],[105,110,105,116],[111,118,101,114,114,105,100,101],[110,105,108],[99,111,117,110,116],[115,117,109],[109,105,110],[109,97,120],[98,111,114],[98,120,111,114],[98,97,110,100],[115,104,108],[115,104,114]]
def Zed (s:Bs):Bool:=keptWords.contains s || decide (Yk s≠0)
def isW (ts:Ts) (ws:List Bs):Bool:=(decide ((hd ts).kind=1) || decide ((hd ts).kind=4)) && ws.contains (hd ts).text
def ZR (ts:Ts):Bool:=decide ((hd ts).kind=1) && (!decide ((hd ts).text=[95]) && !Zed (hd ts).text)
def Z1 (ts:Ts):Bool :=
 if (hd ts).kind=2∨(hd ts).kind=3 then true
 else if (hd ts).kind=4 then isW ts [[45],[126],[40],[91],[36]]
 else if (hd ts).kind=1 then !Zed (hd ts).text || (decide ((hd ts).text=[110,105,108]) || decide (Yk (hd ts).text≠0))
 else false
def Zaf (ts:Ts):Nat×Nat :=
 if (hd ts).kind≠1∧(hd ts).kind≠4 then (0,0)
 else if (hd ts).text=[98,111,114] then (1,16) else if (hd ts).text=[98,120,111,114] then (1,17) else if (hd ts).text=[98,97,110,100] then (2,15) else if (hd ts).text=[115,104,108] then (3,18) else if (hd ts).text=[115,104,114] then (3,19)
 else if (hd ts).text=[43] then (4,10) else if (hd ts).text=[45] then (4,11) else if (hd ts).text=[42] then (5,12) else if (hd ts).text=[47] then (5,13) else if (hd ts).text=[37] then (5,14) else (0,0)
def Yo (w:Bs) (ts:Ts):R Unit:=if isW ts [w]=true then .ok () ts.tail else .err ts.length 150
def Wj (ts:Ts):R Bs:=if ZR ts=true then .ok (hd ts).text ts.tail else .err ts.length 150
def Zq {α:Type} (d:Nat) (fr tw:Bs) (read:Ts→R α) (ts:Ts):R α :=
 if isW ts [fr]=true then
  (if d=0 then .err ts.length 151 else (read ts.tail).bind fun x ts=>if tw=[] then .ok x ts else (Yo tw ts).bind fun _ ts=>.ok x ts)
 else .err ts.length 150
def Wn {α:Type} (sign:Bs) (most:Nat) (starts:Ts→Bool) (one:Ts→R α):Nat→List α→Ts→R (List α)
 | 0,_,_=>.err 0 150
 | f+1,l,ts=>if starts ts=true∧l.length=most then .err ts.length 3
   else (one ts).bind fun x ts=>if isW ts [sign]=true then Wn sign most starts one f (l++[x]) ts.tail else .ok (l++[x]) ts
def Ww {α:Type} (sign:Bs) (most:Nat) (starts:Ts→Bool) (one:Ts→R α) (ts:Ts):R (List α):=Wn sign most starts one (ts.length+1) [] ts
def Uq (ts:Ts):R Fi:=(Wj ts).bind fun a ts=>(Yo [58] ts).bind fun _ ts=>(Wj ts).bind fun b ts=>.ok ⟨a,b⟩ ts
def JG (fin:Bs) (ts:Ts):R (List Fi):=if isW ts [fin]=true then .ok [] ts else Ww [44] 12 ZR Uq ts
def ZcY (ts:Ts):R (List Bs):=if isW ts [[60]]=true then (Ww [44] 12 ZR Wj ts.tail).bind fun l ts=>(Yo [62] ts).bind fun _ ts=>.ok l ts else .ok [] ts
def Zcm (ts:Ts):R Ca:=(Wj ts).bind fun a ts=>(Yo [123] ts).bind fun _ ts=>(JG [125] ts).bind fun l ts=>(Yo [125] ts).bind fun _ ts=>.ok ⟨a,l⟩ ts
def Zee (t0:Ts):R Ty:=(Wj t0).bind fun nm ts =>
 if isW ts [[60,58]]=true then (Wj ts.tail).bind fun b ts=>.ok ⟨1,nm,b,[],[],t0.length⟩ ts
 else (Yo [61] ts).bind fun _ ts =>
  if isW ts [[91]]=true then (JG [93] ts.tail).bind fun l ts=>(Yo [93] ts).bind fun _ ts=>.ok ⟨2,nm,[],l,[],t0.length⟩ ts
  else (Ww [124] 64 ZR Zcm ts).bind fun l ts=>.ok ⟨3,nm,[],[],l,t0.length⟩ ts
def Xo:Nat→Bool→Bool→Bool→Ts→(Bool×Bool×Bool)×Ts
 | 0,i,o,n,ts=>((i,o,n),ts)
 | f+1,i,o,n,ts=>if i=false∧isW ts [[105,110,112,117,116]]=true then Xo f true o n ts.tail
   else if o=false∧isW ts [[111,117,116,112,117,116]]=true then Xo f i true n ts.tail
   else if n=false∧isW ts [[105,110,108,105,110,101]]=true then Xo f i o true ts.tail
   else ((i,o,n),ts)
def ZjK (t0:Ts):R Re:=(Wj t0).bind fun nm ts=>(Yo [40] ts).bind fun _ ts=>(JG [41] ts).bind fun l ts=>(Yo [41] ts).bind fun _ ts =>
 .ok ⟨nm,l,(Xo 4 false false false ts).1.1,(Xo 4 false false false ts).1.2.1,(Xo 4 false false false ts).1.2.2,t0.length⟩ (Xo 4 false false false ts).2
def Zdm (d:Nat) (ex:Ts→R Ex) (fr tw:Bs) (ts:Ts):R (List Ex):=Zq d fr tw (fun ts=>if isW ts [tw]=true then .ok [] ts else Ww [44] 12 Z1 ex ts) ts
def Vl (ex:Ts→R Ex):Nat→List Ex→Ts→R (List Ex)
 | 0,l,ts=>.ok l ts
 | k+1,l,ts=>(if l=[] then .ok () ts else Yo [44] ts).bind fun _ ts=>(ex ts).bind fun e ts=>Vl ex k (l++[e]) ts
def ZbA (op:Nat):Nat:=if op=22 then 3 else if op=20 then 2 else 1
def UW (d:Nat) (ex:Ts→R Ex) (ts:Ts):R Ex :=
 if Z1 ts=false then .err ts.length 150
 else if (hd ts).kind=2 then .ok (.mk 3 [] (hd ts).n [] ts.length) ts.tail
 else if (hd ts).kind=3 then .ok (.mk 4 (hd ts).text 0 [] ts.length) ts.tail
 else if (hd ts).text=[40] then Zq d [40] [41] ex ts
 else if (hd ts).text=[91] then (Zdm d ex [91] [93] ts).bind fun l ts'=>.ok (.mk 6 [] 0 l ts.length) ts'
 else if (hd ts).text=[36] then (Wj ts.tail).bind fun nm ts'=>if isW ts' [[40]]=true then (Zdm d ex [40] [41] ts').bind fun l ts'=>.ok (.mk 7 nm 0 l ts.length) ts' else .ok (.mk 7 nm 0 [] ts.length) ts'
 else if Yk (hd ts).text≠0 then (Zq d [40] [41] (Vl ex (ZbA (Yk (hd ts).text)) []) ts.tail).bind fun l ts'=>.ok (.mk (Yk (hd ts).text) [] 0 l ts.length) ts'
 else if (hd ts).text=[110,105,108] then .ok (.mk 5 [] 0 [] ts.length) ts.tail
 else if (hd ts).text=[95] then .ok (.mk 2 [] 0 [] ts.length) ts.tail
 else .ok (.mk 1 (hd ts).text 0 [] ts.length) ts.tail
def Ex.at':Ex→Nat | .mk _ _ _ _ a=>a
def JH (sub:Nat→Ts→R Ex) (least:Nat):Nat→Ex→Ts→R Ex
 | 0,_,_=>.err 0 150
 | f+1,e,ts=>if (Zaf ts).1<least∨(Zaf ts).1=0 then .ok e ts
   else (sub ((Zaf ts).1+1) ts.tail).bind fun g ts'=>JH sub least f (.mk (Zaf ts).2 [] 0 [e,g] e.at') ts'
def Vm (sg:Ts→R Ex):Nat→Nat→Ts→R Ex
 | 0,_,ts=>sg ts
 | k+1,least,ts=>(sg ts).bind fun e ts=>JH (Vm sg k) least (ts.length+1) e ts
def JI (d:Nat) (sg:Ts→R Ex) (ts:Ts):R Ex :=
 if isW ts [[45]]=true then (Zq d [45] [] sg ts).bind fun e ts'=>.ok (.mk 8 [] 0 [e] ts.length) ts'
 else if isW ts [[126]]=true then (Zq d [126] [] sg ts).bind fun e ts'=>.ok (.mk 9 [] 0 [e] ts.length) ts'
 else UW d (Vm sg 6 1) ts
def YN:Nat→Ts→R Ex
 | 0=>JI 0 fun _=>.err 0 150
 | d+1=>JI (d+1) (YN d)
def VB (d:Nat) (ts:Ts):R Ex:=Vm (YN d) 6 1 ts
def Zcn:Nat→Ts→R Ex
 | 0=>fun _=>.err 0 150
 | d+1=>VB d
def Zav (ts:Ts):Nat→List Bs→Option Nat
 | _,[]=>none
 | i,w::ws=>if isW ts [w]=true then some i else Zav ts (i+1) ws
def Z5:List Bs:=[[61],[33,61],[60],[60,61],[62],[62,61]]
def YD:List Bs:=[[99,111,117,110,116],[115,117,109],[109,105,110],[109,97,120]]
def JJ (ts:Ts):R Nat:=match Zav ts 0 Z5 with
 | none=>.err ts.length 150
 | some 0=>match Zav ts.tail 0 YD with
  | some j=>.ok (9+j) ts.tail.tail
  | none=>.ok 3 ts.tail
 | some k=>.ok (3+k) ts.tail
def ZaW (d op a:Nat) (ts:Ts):R Li:=(Wj ts).bind fun nm ts=>(Zdm d (Zcn d) [40] [41] ts).bind fun l ts=>.ok (.mk op nm l [] a) ts
def Wo (d:Nat) (bd:Ts→R (List Li)) (a op:Nat) (l:List Ex) (ts:Ts):R Li :=
 if 9≤op then (Yo [58] ts).bind fun _ ts=>(Zq d [123] [125] bd ts).bind fun b ts=>.ok (.mk op [] l b a) ts
 else .ok (.mk op [] l [] a) ts
def ZcZ (d:Nat) (bd:Ts→R (List Li)) (t0:Ts):R Li:=(VB d t0).bind fun e ts=>(JJ ts).bind fun op ts =>
 if op=9 then Wo d bd t0.length op [e] ts else (VB d ts).bind fun g ts=>Wo d bd t0.length op [e,g] ts
def Ze8 (d:Nat) (bd:Ts→R (List Li)) (t0:Ts):R Li :=
 if isW t0 [[33]]=true then ZaW d 2 t0.length t0.tail
 else if ZR t0=true∧(hd t0.tail).kind=4∧(hd t0.tail).text=[40] then ZaW d 1 t0.length t0
 else ZcZ d bd t0
def Yu (ts:Ts):Bool:=Z1 ts || isW ts [[33]]
def Zh0:Nat→Ts→R (List Li)
 | 0=>Ww [44] 32 Yu (Ze8 0 fun _=>.err 0 150)
 | d+1=>Ww [44] 32 Yu (Ze8 (d+1) (Zh0 d))
def UX:Nat→Ts→R (List Li)
 | 0=>fun _=>.err 0 150
 | d+1=>Zh0 d
def ZjL (d:Nat) (bodies:Bool) (t0:Ts):R Ru:=(Wj t0).bind fun nm ts=>(Zdm d (Zcn d) [40] [41] ts).bind fun l ts =>
 if bodies=true∧isW ts [[58,45]]=true then (Zh0 d ts.tail).bind fun b ts=>(Yo [46] ts).bind fun _ ts=>.ok ⟨nm,l,b,t0.length⟩ ts
 else (Yo [46] ts).bind fun _ ts=>.ok ⟨nm,l,[],t0.length⟩ ts
def Zh1 (d:Nat) (un:Ts→R Un) (t0:Ts):R Co:=(Wj t0).bind fun nm ts=>(ZcY ts).bind fun ps ts =>
 if isW ts [[58]]=true then (Wj ts.tail).bind fun b ts=>(ZcY ts).bind fun tys ts=>(Zq d [123] [125] un ts).bind fun u ts=>.ok (.mk nm ps b tys u t0.length) ts
 else (Zq d [123] [125] un ts).bind fun u ts=>.ok (.mk nm ps [] [] u t0.length) ts
def ZjM (t0:Ts):R Ini:=(Wj t0).bind fun nm ts=>(Yo [61] ts).bind fun _ ts=>(Wj ts).bind fun c ts=>(ZcY ts).bind fun tys ts=>.ok ⟨nm,c,tys,t0.length⟩ ts
def ZjN (t0:Ts):R Ov:=(Wj t0).bind fun nm ts=>.ok ⟨nm,t0.length⟩ ts
def Yc (inside:Bool) (d:Nat) (un:Ts→R Un):Nat→Un→Ts→R Un
 | 0,_,_=>.err 0 150
 | f+1,.mk tys rels rules comps inits overs,ts =>
  if ts=[]∨(inside=true∧isW ts [[125]]=true) then .ok (.mk tys rels rules comps inits overs) ts
  else if isW ts [[116,121,112,101]]=true then (if tys.length=256 then .err ts.length 3 else (Zee ts.tail).bind fun x ts=>Yc inside d un f (.mk (tys++[x]) rels rules comps inits overs) ts)
  else if isW ts [[100,101,99,108]]=true then (if rels.length=256 then .err ts.length 3 else (ZjK ts.tail).bind fun x ts=>Yc inside d un f (.mk tys (rels++[x]) rules comps inits overs) ts)
  else if isW ts [[99,111,109,112]]=true then (if comps.length=64 then .err ts.length 3 else (Zh1 d un ts.tail).bind fun x ts=>Yc inside d un f (.mk tys rels rules (comps++[x]) inits overs) ts)
  else if isW ts [[105,110,105,116]]=true then (if inits.length=256 then .err ts.length 3 else (ZjM ts.tail).bind fun x ts=>Yc inside d un f (.mk tys rels rules comps (inits++[x]) overs) ts)
  else if isW ts [[111,118,101,114,114,105,100,101]]=true then (if overs.length=256 then .err ts.length 3 else (ZjN ts.tail).bind fun x ts=>Yc inside d un f (.mk tys rels rules comps inits (overs++[x])) ts)
  else if ZR ts=true then (if rules.length=1024 then .err ts.length 3 else (ZjL d true ts).bind fun x ts=>Yc inside d un f (.mk tys rels (rules++[x]) comps inits overs) ts)
  else .err ts.length 150
def Un.nil:Un:=.mk [] [] [] [] [] []
def Zh2 (inside:Bool) (d:Nat) (un:Ts→R Un) (ts:Ts):R Un:=Yc inside d un (ts.length+1) .nil ts
def ZjO:Nat→Ts→R Un
 | 0=>Zh2 true 0 fun _=>.err 0 150
 | d+1=>Zh2 true (d+1) (ZjO d)
def ZaX (ts:Ts):R Un:=Zh2 false 64 (ZjO 63) ts
end Go.PM.Lex
end

section
noncomputable section
namespace Go.PM.Lex
open Go.Proofs
def tz (L:List Tok) (a:Int):Ts:=(L.drop a.toNat).map Tok.t0
def Zd (L:List Tok) (en:Int) (r:Nat):Int:=match L.drop (L.length - r) with
 | []=>en
 | t::_=>t.at'
structure ROK (L:List Tok) (a:Int) (ts:Ts):Prop where
 lo:0≤a
 hi:a≤L.length
 big:L.length≤1048576
 eq:tz L a=ts
theorem ROK.len {L:List Tok} {a:Int} {ts:Ts} (h:ROK L a ts):(ts.length:Int)=L.length - a:=by
 rw [← h.eq];simp only [tz,Te,Tv];have:=h.lo;have:=h.hi;omega
theorem ROK.next {L:List Tok} {a:Int} {t:T0} {ts:Ts} (h:ROK L a (t::ts)):ROK L (a+1) ts:=by
 have hl:=h.len
 have h0:=h.lo
 refine ⟨by omega,by simp at hl;omega,h.big,?_⟩
 have:=h.eq
 simp only [tz] at this ⊢
 rw [show (a+1).toNat=a.toNat+1 by omega,← TO,List.map_drop,this];rfl
theorem JK {ts:Ts} {ws:List Bs} (h:isW ts ws=true):ts≠[]:=by rintro rfl;simp [isW,hd] at h
theorem Zh3 {ts:Ts} (h:ZR ts=true):ts≠[]:=by rintro rfl;simp [ZR,hd] at h
theorem ROK.tl {L:List Tok} {a:Int} {ts:Ts} (h:ROK L a ts) (hn:ts≠[]):ROK L (a+1) ts.tail:=by
 cases ts with
 | nil=>exact absurd rfl hn
 | cons t ts=>exact h.next
theorem ROK.get {L:List Tok} {a:Int} {t:T0} {ts:Ts} (h:ROK L a (t::ts)):∃x,L[a.toNat]?=some x∧x.t0=t∧∀en,Zd L en (ts.length+1)=x.at':=by
 have hl:=h.len
 have h0:=h.lo
 have h1:=h.eq
 simp only [Tc] at hl
 have hlt:a.toNat<L.length:=by omega
 refine ⟨L[a.toNat],Ti hlt,?_,fun en=>?_⟩
 ·simp only [tz] at h1
  rw [T1 hlt] at h1
  simp only [Tz,List.cons.injEq] at h1
  exact h1.1
 ·unfold Zd
  rw [show L.length - (ts.length+1)=a.toNat by omega,T1 hlt]
theorem ROK.none {L:List Tok} {a:Int} (h:ROK L a []):a=L.length:=by have:=h.len;simp at this;omega
theorem Zc0 (L:List Tok) (en:Int):Zd L en 0=en:=by simp [Zd]
abbrev Pl:=Nat→Int
mutual
def Yh (pl:Pl):Ex→List D
 | .mk op text n args a=>[.int .u8 op,.str text,.int .i64 n,.sl (Yi pl args),.int .i64 (pl a)]
def Yi (pl:Pl):List Ex→List (List D)
 | []=>[]
 | e::l=>Yh pl e::Yi pl l
end
mutual
def Yt (pl:Pl):Li→List D
 | .mk op rel args body a=>[.int .u8 op,.str rel,.sl (Yi pl args),.sl (Zfj pl body),.int .i64 (pl a)]
def Zfj (pl:Pl):List Li→List (List D)
 | []=>[]
 | e::l=>Yt pl e::Zfj pl l
end
def ZI (pl:Pl) (r:Ru):List D:=[.str r.head,.sl (Yi pl r.args),.sl (Zfj pl r.body),.int .i64 (pl r.at')]
def Zt (f:Fi):List D:=[.str f.name,.str f.typ]
def Zs (c:Ca):List D:=[.str c.name,.sl (c.fields.map Zt)]
def Zx (pl:Pl) (t:Ty):List D:=[.int .u8 t.kind,.str t.name,.str t.base,.sl (t.fields.map Zt),.sl (t.cases.map Zs),.int .i64 (pl t.at')]
def ZG (pl:Pl) (r:Re):List D:=[.str r.name,.sl (r.fields.map Zt),.bool r.inn,.bool r.out,.bool r.inl,.int .i64 (pl r.at')]
def Zr (s:Bs):List D:=[.str s]
def ZQ (pl:Pl) (i:Ini):List D:=[.str i.name,.str i.comp,.sl (i.types.map Zr),.int .i64 (pl i.at')]
def ZN (pl:Pl) (o:Ov):List D:=[.str o.rel,.int .i64 (pl o.at')]
mutual
def Yf (pl:Pl):Un→List D
 | .mk tys rels rules comps inits overs=>[.sl (tys.map (Zx pl)),.sl (rels.map (ZG pl)),.sl (rules.map (ZI pl)),.sl (Xp pl comps),.sl (inits.map (ZQ pl)),.sl (overs.map (ZN pl))]
def ZW (pl:Pl):Co→List D
 | .mk name params base types u a=>[.str name,.sl (params.map Zr),.str base,.sl (types.map Zr)]++Yf pl u++[.int .i64 (pl a)]
def Xp (pl:Pl):List Co→List (List D)
 | []=>[]
 | e::l=>ZW pl e::Xp pl l
end
theorem Zf (pl:Pl) (l:List Ex):Yi pl l=l.map (Yh pl):=by induction l with | nil=>rfl | cons x l ih=>simp [Yi,ih]
theorem Zp (pl:Pl) (l:List Li):Zfj pl l=l.map (Yt pl):=by induction l with | nil=>rfl | cons x l ih=>simp [Zfj,ih]
theorem ZH (pl:Pl) (l:List Co):Xp pl l=l.map (ZW pl):=by induction l with | nil=>rfl | cons x l ih=>simp [Xp,ih]
abbrev ZbC (l:List D):PV:=.agg (l.map .d)
abbrev flt (L:List Tok) (en:Int) (r e:Nat):PV:=.iface 138 (.agg [.d (.int .i64 (Zd L en r)),.d (.int .i64 e)])
abbrev RK:=PEnd→Int→Int→Prop
def RKk {α:Type} (enc:α→PV) (L:List Tok) (en dp lo:Int) (x:R α) (K:RK):Prop:=match x with
 | .ok v ts'=>∀a',lo≤a'→ROK L a' ts'→K (.ret (enc v)) a' dp
 | .err r e=>∀a' dp',K (.panic (flt L en r e)) a' dp'
theorem YE {α:Type} {enc:α→PV} {L:List Tok} {en dp lo:Int} {x:R α} {K K':RK} (hK:∀pe a d,K pe a d→K' pe a d) (h:RKk enc L en dp lo x K):RKk enc L en dp lo x K':=by
 cases x with
 | ok v ts=>exact fun a' h1 h2=>hK _ _ _ (h a' h1 h2)
 | err r e=>exact fun a' d=>hK _ _ _ (h a' d)
def Wk (body:List PV→List Tok→Int→Int→Int→Ts→RK→Prop):ZA:=fun args σ K=>match args,σ with
 | .ptr 0 0::rest,⟨[.cells t [.d (.sl rows),.d (.int .i64 a),.d (.int .i64 en),.d (.int .i64 dp)]],[],0⟩=>∃L ts,rows=Z8 L∧ROK L a ts ∧
   body rest L en dp a ts fun pe a' dp'=>K pe ⟨[.cells t [.d (.sl (Z8 L)),.d (.int .i64 a'),.d (.int .i64 en),.d (.int .i64 dp')]],[],0⟩
 | _,_=>False
theorem ZX {body:List PV→List Tok→Int→Int→Int→Ts→RK→Prop} (hb:∀rest L en dp a ts (K K':RK),(∀pe a d,K pe a d→K' pe a d)→body rest L en dp a ts K→body rest L en dp a ts K'):Zc (Wk body):=fun args σ K K' hK h=>by
 unfold Wk at h ⊢
 exact m130
def Vn:ZA:=fun args σ K=>match args,σ with
 | [.d (.str s)],⟨[],[],0⟩=>∀n:Int,(Yk s:Int)=n→K (.ret (.d (.int .u8 n))) ⟨[],[],0⟩
 | _,_=>False
theorem V0:Zc Vn:=fun args σ K K' hK h=>by
 unfold Vn at h ⊢;split at h <;> first | exact fun n hn=>hK _ _ (h n hn) | exact h.elim
def Zeh:ZA:=fun args σ K=>match args,σ with
 | [.d (.str s)],⟨[],[],0⟩=>∀b,Zed s=b→K (.ret (.d (.bool b))) ⟨[],[],0⟩
 | _,_=>False
theorem ZaZ:Zc Zeh:=fun args σ K K' hK h=>by
 unfold Zeh at h ⊢;split at h <;> first | exact fun n hn=>hK _ _ (h n hn) | exact h.elim
def Zfk (s:Bs):Nat→List Bs→Int
 | _,[]=>-1
 | i,w::ws=>if s=w then i else Zfk s (i+1) ws
def ZbD:ZA:=fun args σ K=>match args,σ with
 | [.d (.sl rows),.d (.str s)],⟨[],[],0⟩=>∃ws:List Bs,rows=ws.map Zr∧ws.length≤1048576∧K (.ret (.d (.int .i64 (Zfk s 0 ws)))) ⟨[],[],0⟩
 | _,_=>False
theorem Zgu:Zc ZbD:=fun args σ K K' hK h=>by
 unfold ZbD at h ⊢;split at h
 ·obtain ⟨ws,h1,h2,h3⟩:=h;exact ⟨ws,h1,h2,hK _ _ h3⟩
 ·exact h.elim
def Ur:ZA:=fun args σ K=>match args,σ with
 | [.d (.sl rows),.d (.str s)],⟨[],[],0⟩=>∃ws:List Bs,rows=ws.map Zr∧ws.length≤1048576∧∀b,ws.contains s=b→K (.ret (.d (.bool b))) ⟨[],[],0⟩
 | _,_=>False
theorem Zei:Zc Ur:=fun args σ K K' hK h=>by
 unfold Ur at h ⊢;split at h
 ·obtain ⟨ws,h1,h2,h3⟩:=h;exact ⟨ws,h1,h2,fun b hb=>hK _ _ (h3 b hb)⟩
 ·exact h.elim
def Zax:ZA:=Wk fun rest L en dp a ts K=>match rest with
 | [.d (.int .i64 n)]=>∀fin,(n=0∧K (.ret (.agg [.d (.int .u8 (hd ts).kind),.d (.str (hd ts).text),.d (.int .i64 (hd ts).n),.d (.int .i64 (Zd L en ts.length)),.d (.int .i64 fin)])) a dp) ∨
   (n=1∧K (.ret (.agg [.d (.int .u8 (hd ts.tail).kind),.d (.str (hd ts.tail).text),.d (.int .i64 (hd ts.tail).n),.d (.int .i64 (Zd L en ts.tail.length)),.d (.int .i64 fin)])) a dp)
 | _=>False
theorem XW:Zc Zax:=ZX fun rest L en dp a ts K K' hK h=>by
 split at h
 ·exact fun fin=>Or.imp (fun g=>⟨g.1,hK _ _ _ g.2⟩) (fun g=>⟨g.1,hK _ _ _ g.2⟩) (h fin)
 ·exact h.elim
def WX:ZA:=Wk fun rest L en dp a ts K=>match rest with
 | []=>K (.ret (.d (.int .i64 (Zd L en ts.length)))) a dp
 | _=>False
theorem YZ:Zc WX:=ZX fun rest L en dp a ts K K' hK h=>by
 split at h
 ·exact hK _ _ _ h
 ·exact h.elim
def Zhl:ZA:=Wk fun rest L en dp a ts K=>match rest with
 | [.d (.sl rows)]=>∃ws:List Bs,rows=ws.map Zr∧ws.length≤1048576∧∀b,isW ts ws=b→K (.ret (.d (.bool b))) a dp
 | _=>False
theorem YK:Zc Zhl:=ZX fun rest L en dp a ts K K' hK h=>by
 split at h
 ·obtain ⟨ws,h1,h2,h3⟩:=h;exact ⟨ws,h1,h2,fun b hb=>hK _ _ _ (h3 b hb)⟩
 ·exact h.elim
def Zag (p:Ts→Bool):ZA:=Wk fun rest L en dp a ts K=>match rest with
 | []=>∀b,p ts=b→K (.ret (.d (.bool b))) a dp
 | _=>False
theorem XE (p:Ts→Bool):Zc (Zag p):=ZX fun rest L en dp a ts K K' hK h=>by
 split at h
 ·exact fun b hb=>hK _ _ _ (h b hb)
 ·exact h.elim
def Xq:ZA:=Wk fun rest L en dp a ts K=>match rest with
 | [.d (.int .i64 e)]=>K (.panic (.iface 138 (.agg [.d (.int .i64 (Zd L en ts.length)),.d (.int .i64 e)]))) a dp
 | _=>False
theorem ZF:Zc Xq:=ZX fun rest L en dp a ts K K' hK h=>by
 split at h
 ·exact hK _ _ _ h
 ·exact h.elim
def WP:ZA:=Wk fun rest L en dp a ts K=>match rest with
 | [.d (.sl rows)]=>∃ws:List Bs,rows=ws.map Zr∧ws.length≤1048576∧(isW ts ws=true→ROK L (a+1) ts.tail→K (.ret (.d (.bool true))) (a+1) dp)∧(isW ts ws=false→K (.ret (.d (.bool false))) a dp)
 | _=>False
theorem Z4:Zc WP:=ZX fun rest L en dp a ts K K' hK h=>by
 split at h
 ·obtain ⟨ws,h1,h2,h3,h4⟩:=h;exact ⟨ws,h1,h2,fun b hb=>hK _ _ _ (h3 b hb),fun b=>hK _ _ _ (h4 b)⟩
 ·exact h.elim
def Zh4:ZA:=Wk fun rest L en dp a ts K=>match rest with
 | [.d (.int .i64 n),.d (.int .i64 m)]=>(n=m→K (.panic (flt L en ts.length 3)) a dp)∧(n≠m→K (.ret (.tuple [])) (a+1) dp)
 | _=>False
theorem ZjP:Zc Zh4:=ZX fun rest L en dp a ts K K' hK h=>by
 split at h
 ·exact ⟨fun g=>hK _ _ _ (h.1 g),fun g=>hK _ _ _ (h.2 g)⟩
 ·exact h.elim
def spR {α:Type} (enc:List Tok→Int→α→PV) (P:Ts→R α) (lo:Int):ZA:=Wk fun rest L en dp a ts K=>match rest with
 | []=>∀x,P ts=x→RKk (enc L en) L en dp (a+lo) x K
 | _=>False
theorem Xh {α:Type} (enc:List Tok→Int→α→PV) (P:Ts→R α) (lo:Int):Zc (spR enc P lo):=ZX fun rest L en dp a ts K K' hK h=>by
 exact m109
def X9:ZA:=Wk fun rest L en dp a ts K=>match rest with
 | [.d (.str w)]=>∀x,Yo w ts=x→RKk (fun _=>.tuple []) L en dp (a+1) x K
 | _=>False
theorem ZU:Zc X9:=ZX fun rest L en dp a ts K K' hK h=>by
 exact m109
abbrev Wx:ZA:=spR (fun _ _ (v:Bs)=>.d (.str v)) Wj 1
end Go.PM.Lex
end
end

section
namespace Go.PM.Lex
open Go.Proofs
variable {w0:World} {nG:Nat}
theorem Zco:PCalls (GG w0 nG) 212 Vn:=by
 refine pc (tbl:=[]) trivial Tryz.func212 ?_
 intro args σ K h
 unfold Vn at h
 split at h
 ·rename_i s
  refine ⟨Za [],0,false,by simp,Tb rfl,?_⟩
  repeat' ((conv=>whnf);refine ZCX (fun hc=>?_) (fun hc=>?_))
  all_goals (conv=>whnf)
  all_goals exact h _ (by simp [Yk, *])
 ·exact h.elim
noncomputable def ZtQ:Tbl:=[(212,Vn)]
theorem ZjQ:PCalls (GG w0 nG) 148 Zeh:=by
 refine pc (tbl:=ZtQ) ⟨⟨Zco,V0⟩,trivial⟩ Tryz.func148 ?_
 intro args σ K h
 unfold Zeh at h
 split at h
 ·rename_i s
  refine ⟨Za [],0,false,by simp,Tb rfl,?_⟩
  repeat' ((conv=>whnf);refine ZCX (fun hc=>?_) (fun hc=>?_))
  all_goals (conv=>whnf)
  all_goals first
   | contradiction
   | exact h _ (by subst_vars;decide)
   | skip
  intro n hn
  conv=>whnf
  refine h _ ?_
  have hk:keptWords.contains s=false:=by
   have:¬s∈keptWords:=by
    simp only [keptWords,Tw,List.not_mem_nil,or_false,not_or]
    repeat' (first | assumption | refine ⟨by assumption,?_⟩)
   rw [Bool.eq_false_iff];intro g
   exact this (List.contains_iff_mem.1 g)
  rw [Zed,hk,← hn]
  by_cases h0:Yk s=0 <;> simp [h0]
 ·exact h.elim
end Go.PM.Lex
end

section
namespace Go.PM.Lex
open Go.Proofs
variable {w0:World} {nG:Nat}
theorem ZfL (s w:Bs) (i:Nat) (ws:List Bs):Zfk s i (w::ws)=if s=w then (i:Int) else Zfk s (i+1) ws:=rfl
theorem Zh5 (s:Bs):∀(ws:List Bs) (i:Nat),(0≤Zfk s i ws)↔ws.contains s=true
 | [],i=>by simp [Zfk]
 | w::ws,i=>by
  rw [ZfL]
  split
  ·rename_i h;subst h;simp
  ·rename_i h;rw [Zh5 s ws];simp [h]
theorem Zmx (s:Bs) (ws:List Bs) (i:Nat) (h:i<ws.length):Zfk s i (ws.drop i)=if s=ws[i] then (i:Int) else Zfk s (i+1) (ws.drop (i+1)):=by
 rw [T1 h,ZfL]
theorem Zox:PCalls (GG w0 nG) 257 ZbD:=by
 refine pc (tbl:=[]) trivial Tryz.func257 ?_
 intro args σ K h
 unfold ZbD at h
 split at h
 ·rename_i rows s
  obtain ⟨ws,rfl,hw,h⟩:=h
  refine ⟨Za [(2,⟨[8],[0,1,7],fun vs σ=>∃i:Nat,vs=[.d (.int .i64 i)]∧σ=⟨[],[],0⟩∧i≤ws.length∧Zfk s 0 ws=Zfk s i (ws.drop i),fun vs _=>match vs with | [.d (.int _ i)]=>((ws.length:Int) - i).toNat | _=>0⟩)],0,false,by simp,Tb rfl,?_⟩
  conv=>whnf
  refine ⟨⟨0,rfl,rfl,by omega,rfl⟩,?_⟩
  intro vs σ hI
  obtain ⟨i,rfl,rfl,hi,hx⟩:=hI
  conv=>whnf
  refine ZCX (fun hc=>?_) (fun hc=>?_)
  ·have hc:i<ws.length:=by have hc:(i:Int)<((ws.map Zr).length:Int):=hc;rw [Te] at hc;omega
   conv=>whnf
   refine ⟨Zr ws[i],by omega,by simp [hc],?_⟩
   rw [Zmx s ws i hc] at hx
   conv=>whnf
   refine ZCX (fun h1=>?_) (fun h1=>?_)
   ·conv=>whnf
    rw [hx,Th h1] at h
    exact h
   ·conv=>whnf
    rw [Tf h1] at hx
    refine oiO ?_
    conv=>whnf
    refine ⟨⟨i+1,rfl,rfl,by omega,hx⟩,?_⟩
    show ((ws.length:Int) - ((i:Int)+1)).toNat<((ws.length:Int) - (i:Int)).toNat
    omega
  ·have hc:ws.length≤i:=by have hc:¬(i:Int)<((ws.map Zr).length:Int):=hc;rw [Te] at hc;omega
   rw [TP hc] at hx
   conv=>whnf
   rw [hx] at h
   exact h
 ·exact h.elim
noncomputable def ZtR:Tbl:=[(257,ZbD)]
theorem ZjR:PCalls (GG w0 nG) 199 Ur:=by
 refine pc (tbl:=ZtR) ⟨⟨Zox,Zgu⟩,trivial⟩ Tryz.func199 ?_
 intro args σ K h
 unfold Ur at h
 split at h
 ·rename_i rows s
  obtain ⟨ws,rfl,hw,h⟩:=h
  refine ⟨Za [],0,false,by simp,Tb rfl,?_⟩
  conv=>whnf
  refine ⟨ws,rfl,hw,?_⟩
  conv=>whnf
  exact h _ (by rw [Bool.eq_iff_iff,TT,← Zh5 s ws 0])
 ·exact h.elim
end Go.PM.Lex
end

section
namespace Go.PM.Lex
open Go.Proofs
variable {w0:World} {nG:Nat}
theorem Za0:PCalls (GG w0 nG) 198 Zax:=by
 refine pc (tbl:=[]) trivial Tryz.func198 ?_
 intro args σ K h
 unfold Zax Wk at h
 split at h
 ·rename_i t rows a en dp
  obtain ⟨L,ts,rfl,ho,h⟩:=h
  split at h
  ·rename_i n
   have hl:=ho.len
   have h0:=ho.lo
   have h1:=ho.hi
   have h2:=ho.big
   have hn:n=0∨n=1:=by rcases h 0 with g | g <;> simp [g.1]
   refine ⟨Za [],1,false,by simp,Tb rfl,?_⟩
   conv=>whnf
   refine oiO ?_
   conv=>whnf
   refine ZCX (fun hc=>?_) (fun hc=>?_)
   ·have hc:a+n<L.length:=by have hc:a+n<((Z8 L).length:Int):=hc;rw [XK] at hc;exact hc
    rcases hn with rfl | rfl
    ·cases ts with
     | nil=>simp at hl;omega
     | cons t0 ts =>
      obtain ⟨x,hx,rfl,hp⟩:=ho.get
      conv=>whnf
      refine ⟨ZxG x,by omega,by simp [Z8,hx],?_⟩
      conv=>whnf
      have h:=h x.fin
      rw [Tc,hp] at h
      rcases h with h | h
      ·exact h.2
      ·exact absurd h.1 (by omega)
    ·cases ts with
     | nil=>simp at hl;omega
     | cons t1 ts =>
     cases ts with
     | nil=>simp at hl;omega
     | cons t0 ts =>
      obtain ⟨x,hx,rfl,hp⟩:=ho.next.get
      conv=>whnf
      refine ⟨ZxG x,by omega,by simp [Z8,hx],?_⟩
      conv=>whnf
      have h:=h x.fin
      simp only [TJ,Tc,hp] at h
      rcases h with h | h
      ·exact absurd h.1 (by omega)
      ·exact h.2
   ·have hc:¬a+n<L.length:=by have hc:¬a+n<((Z8 L).length:Int):=hc;rw [XK] at hc;exact hc
    conv=>whnf
    have h:=h 0
    rcases hn with rfl | rfl
    ·cases ts with
     | nil => rcases h with h | h
              ·have h:=h.2;simp only [Td,Zc0] at h;exact h
              ·exact absurd h.1 (by omega)
     | cons t0 ts=>simp at hl;omega
    ·have:ts.tail=[]:=by
      cases ts with
      | nil=>rfl
      | cons t1 ts=>cases ts with
       | nil=>rfl
       | cons t0 ts=>simp at hl;omega
     rw [this] at h
     rcases h with h | h
     ·exact absurd h.1 (by omega)
     ·have h:=h.2;simp only [Td,Zc0] at h;exact h
  ·exact h.elim
 ·exact h.elim
end Go.PM.Lex
end

section
namespace Go.PM.Lex
open Go.Proofs
variable {w0:World} {nG:Nat}
noncomputable def Zrc:Tbl:=[(198,Zax)]
theorem Zrd (ht:TblOK (GG w0 nG) Zrc):PCalls (GG w0 nG) 141 WX:=by
 refine pc ht Tryz.func141 ?_
 intro args σ K h
 unfold WX Wk at h
 split at h
 ·rename_i rest t rows a en dp
  obtain ⟨L,ts,rfl,ho,h⟩:=h
  split at h
  ·skip
   refine ⟨Za [],1,false,by simp,Tb rfl,?_⟩
   conv=>whnf
   refine ⟨L,ts,rfl,ho,fun fin=>Or.inl ⟨rfl,?_⟩⟩
   exact m35
  ·exact h.elim
 ·exact h.elim
noncomputable def ZBa:Tbl:=[(198,Zax),(199,Ur)]
theorem ZBb (ht:TblOK (GG w0 nG) ZBa):PCalls (GG w0 nG) 136 Zhl:=by
 refine pc ht Tryz.func136 ?_
 intro args σ K h
 unfold Zhl Wk at h
 split at h
 ·rename_i rest t rows a en dp
  obtain ⟨L,ts,rfl,ho,h⟩:=h
  split at h
  ·rename_i rows
   obtain ⟨ws,rfl,hw,h⟩:=h
   refine ⟨Za [],1,false,by simp,Tb rfl,?_⟩
   conv=>whnf
   refine ⟨L,ts,rfl,ho,fun fin=>Or.inl ⟨rfl,?_⟩⟩
   conv=>whnf
   refine ZCX (fun h1=>?_) (fun h1=>?_)
   ·conv=>whnf
    refine ⟨ws,rfl,hw,fun b hb=>?_⟩
    conv=>whnf
    exact h _ (by simp only [isW,hb];simp [show (hd ts).kind=1 by omega])
   ·conv=>whnf
    refine ZCX (fun h2=>?_) (fun h2=>?_)
    ·conv=>whnf
     refine ⟨ws,rfl,hw,fun b hb=>?_⟩
     conv=>whnf
     exact h _ (by simp only [isW,hb];simp [show (hd ts).kind=4 by omega])
    ·conv=>whnf
     exact h _ (by simp [isW,show ¬(hd ts).kind=1 by omega,show ¬(hd ts).kind=4 by omega])
  ·exact h.elim
 ·exact h.elim
noncomputable def Zre:Tbl:=[(198,Zax),(148,Zeh)]
theorem Zrf (ht:TblOK (GG w0 nG) Zre):PCalls (GG w0 nG) 145 (Zag ZR):=by
 refine pc ht Tryz.func145 ?_
 intro args σ K h
 unfold Zag Wk at h
 split at h
 ·rename_i rest t rows a en dp
  obtain ⟨L,ts,rfl,ho,h⟩:=h
  split at h
  ·skip
   refine ⟨Za [],1,false,by simp,Tb rfl,?_⟩
   conv=>whnf
   refine ⟨L,ts,rfl,ho,fun fin=>Or.inl ⟨rfl,?_⟩⟩
   conv=>whnf
   refine ZCX (fun h1=>?_) (fun h1=>?_)
   ·conv=>whnf
    refine ZCY (fun h2=>?_) (fun h2=>?_)
    ·conv=>whnf
     intro b hb
     conv=>whnf
     exact h _ (by simp only [ZR,hb];rw [Sq (show (hd ts).kind=1 by omega),decide_eq_false h2];simp)
    ·conv=>whnf
     exact h _ (by simp only [ZR];rw [Sq (p:=(hd ts).text=[95]) h2];simp)
   ·conv=>whnf
    exact h _ (by simp [ZR,show ¬(hd ts).kind=1 by omega])
  ·exact h.elim
 ·exact h.elim
noncomputable def ZtS:Tbl:=[(141,WX)]
theorem ZtT (ht:TblOK (GG w0 nG) ZtS):PCalls (GG w0 nG) 81 Xq:=by
 refine pc ht Tryz.func81 ?_
 intro args σ K h
 unfold Xq Wk at h
 split at h
 ·rename_i rest t rows a en dp
  obtain ⟨L,ts,rfl,ho,h⟩:=h
  split at h
  ·skip
   refine ⟨Za [],1,false,by simp,Tb rfl,?_⟩
   conv=>whnf
   refine ⟨L,ts,rfl,ho,?_⟩
   exact m35
  ·exact h.elim
 ·exact h.elim
noncomputable def ZtU:Tbl:=[(136,Zhl)]
theorem ZtV (ht:TblOK (GG w0 nG) ZtU):PCalls (GG w0 nG) 200 WP:=by
 refine pc ht Tryz.func200 ?_
 intro args σ K h
 unfold WP Wk at h
 split at h
 ·rename_i rest t rows a en dp
  obtain ⟨L,ts,rfl,ho,h⟩:=h
  split at h
  ·rename_i rows
   obtain ⟨ws,rfl,hw,h1,h2⟩:=h
   refine ⟨Za [],1,false,by simp,Tb rfl,?_⟩
   conv=>whnf
   refine ⟨L,ts,rfl,ho,ws,rfl,hw,fun b hb=>?_⟩
   cases b with
   | true =>
    have ho2:=ho.tl (JK hb)
    have g1:=ho.lo
    have g2:=ho2.hi
    have g3:=ho2.big
    conv=>whnf
    refine oiO ?_
    conv=>whnf
    exact h1 hb ho2
   | false =>
    conv=>whnf
    exact h2 hb
  ·exact h.elim
 ·exact h.elim
noncomputable def ZtW:Tbl:=[(200,WP),(81,Xq)]
theorem ZtX (ht:TblOK (GG w0 nG) ZtW):PCalls (GG w0 nG) 143 X9:=by
 refine pc ht Tryz.func143 ?_
 intro args σ K h
 unfold X9 Wk at h
 split at h
 ·rename_i rest t rows a en dp
  obtain ⟨L,ts,rfl,ho,h⟩:=h
  split at h
  ·rename_i w
   refine ⟨Za [],1,false,by simp,Tb rfl,?_⟩
   conv=>whnf
   refine ⟨L,ts,rfl,ho,[w],rfl,by simp,fun hb ho2=>?_,fun hb=>?_⟩
   ·conv=>whnf
    have h:=h _ rfl
    rw [Yo,Th hb] at h
    exact h _ (by omega) ho2
   ·conv=>whnf
    refine ⟨L,ts,rfl,ho,?_⟩
    conv=>whnf
    have h:=h _ rfl
    rw [Yo,Tf (by rw [hb];simp)] at h
    exact h _ _
  ·exact h.elim
 ·exact h.elim
noncomputable def ZtY:Tbl:=[(81,Xq)]
theorem ZtZ (ht:TblOK (GG w0 nG) ZtY):PCalls (GG w0 nG) 137 Zh4:=by
 refine pc ht Tryz.func137 ?_
 intro args σ K h
 unfold Zh4 Wk at h
 split at h
 ·rename_i rest t rows a en dp
  obtain ⟨L,ts,rfl,ho,h⟩:=h
  split at h
  ·rename_i n m
   refine ⟨Za [],1,false,by simp,Tb rfl,?_⟩
   have g1:=ho.lo
   have g2:=ho.hi
   have g3:=ho.big
   conv=>whnf
   refine ZCX (fun hc=>?_) (fun hc=>?_)
   ·conv=>whnf
    refine ⟨L,ts,rfl,ho,?_⟩
    conv=>whnf
    exact h.1 hc
   ·conv=>whnf
    refine oiO ?_
    conv=>whnf
    exact h.2 hc
  ·exact h.elim
 ·exact h.elim
noncomputable def Zrg:Tbl:=[(145,(Zag ZR)),(81,Xq)]
theorem Zrh (ht:TblOK (GG w0 nG) Zrg):PCalls (GG w0 nG) 142 Wx:=by
 refine pc ht Tryz.func142 ?_
 intro args σ K h
 unfold Wx spR Wk at h
 split at h
 ·rename_i rest t rows a en dp
  obtain ⟨L,ts,rfl,ho,h⟩:=h
  split at h
  ·skip
   refine ⟨Za [],1,false,by simp,Tb rfl,?_⟩
   have h:=h _ rfl
   conv=>whnf
   refine ⟨L,ts,rfl,ho,fun b hb=>?_⟩
   cases b with
   | true =>
    have ho2:=ho.tl (Zh3 hb)
    have g1:=ho.lo
    have g2:=ho2.hi
    have g3:=ho2.big
    rw [Wj,Th hb] at h
    conv=>whnf
    refine oiO ?_
    conv=>whnf
    refine oiO ?_
    conv=>whnf
    cases ts with
    | nil=>exact absurd rfl (Zh3 hb)
    | cons t0 ts =>
     obtain ⟨x,hx,rfl,hp⟩:=ho.get
     refine ⟨ZxG x,by omega,by rw [show a+1 - 1=a by omega];simp [Z8,hx],?_⟩
     conv=>whnf
     exact h _ (by omega) ho2
   | false =>
    rw [Wj,Tf (by rw [hb];simp)] at h
    conv=>whnf
    refine ⟨L,ts,rfl,ho,?_⟩
    exact m55
  ·exact h.elim
 ·exact h.elim
noncomputable def Zoy:Tbl:=[(198,Zax),(136,Zhl),(148,Zeh),(212,Vn)]
theorem Zoz (ht:TblOK (GG w0 nG) Zoy):PCalls (GG w0 nG) 262 (Zag Z1):=by
 refine pc ht Tryz.func262 ?_
 intro args σ K h
 unfold Zag Wk at h
 split at h
 ·rename_i rest t rows a en dp
  obtain ⟨L,ts,rfl,ho,h⟩:=h
  split at h
  ·skip
   refine ⟨Za [],1,false,by simp,Tb rfl,?_⟩
   conv=>whnf
   refine ⟨L,ts,rfl,ho,fun fin=>Or.inl ⟨rfl,?_⟩⟩
   conv=>whnf
   refine ZCX (fun h1=>?_) (fun h1=>?_)
   ·conv=>whnf
    refine ZCX (fun _=>?_) (fun g=>absurd h1 g)
    conv=>whnf
    exact h _ (by rw [Z1,Th (by omega)])
   conv=>whnf
   refine ZCX (fun h2=>?_) (fun h2=>?_)
   ·conv=>whnf
    exact h _ (by rw [Z1,Th (by omega)])
   conv=>whnf
   refine ZCX (fun h3=>?_) (fun h3=>?_)
   ·conv=>whnf
    refine ⟨L,ts,rfl,ho,[[45],[126],[40],[91],[36]],rfl,by simp,fun b hb=>?_⟩
    conv=>whnf
    exact h _ (by rw [Z1,Tf (by omega),Th (by omega)];exact hb)
   conv=>whnf
   refine ZCX (fun h4=>?_) (fun h4=>?_)
   ·have e0:Z1 ts=(!Zed (hd ts).text || (decide ((hd ts).text=[110,105,108]) || decide (Yk (hd ts).text≠0))):=by rw [Z1,Tf (by omega),Tf (by omega),Th (by omega)]
    rw [e0] at h
    conv=>whnf
    intro b hb
    rw [hb] at h
    cases b with
    | false => conv => whnf
               exact h _ rfl
    | true =>
     conv=>whnf
     refine ZCX (fun h5=>?_) (fun h5=>?_)
     ·conv=>whnf
      exact h _ (by rw [Sq (p:=(hd ts).text=[110,105,108]) h5];rfl)
     ·conv=>whnf
      intro n hn
      conv=>whnf
      exact h _ (by rw [decide_eq_false (p:=(hd ts).text=[110,105,108]) h5,← hn];by_cases g:Yk (hd ts).text=0 <;> simp [g])
   ·conv=>whnf
    exact h _ (by rw [Z1,Tf (by omega),Tf (by omega),Tf (by omega)])
  ·exact h.elim
 ·exact h.elim
noncomputable def ZoA:ZA:=Wk fun rest L en dp a ts K=>match rest with
 | []=>∀n k:Int,((Zaf ts).1:Int)=n→((Zaf ts).2:Int)=k→K (.ret (.tuple [.d (.int .i64 n),.d (.int .u8 k)])) a dp
 | _=>False
theorem ZfM:Zc ZoA:=ZX fun rest L en dp a ts K K' hK h=>by
 split at h
 ·exact fun n k h1 h2=>hK _ _ _ (h n k h1 h2)
 ·exact h.elim
noncomputable def ZxL:Tbl:=[(198,Zax)]
theorem ZoB (ht:TblOK (GG w0 nG) ZxL):PCalls (GG w0 nG) 162 ZoA:=by
 refine pc ht Tryz.func162 ?_
 intro args σ K h
 unfold ZoA Wk at h
 split at h
 ·rename_i rest t rows a en dp
  obtain ⟨L,ts,rfl,ho,h⟩:=h
  split at h
  ·skip
   refine ⟨Za [],1,false,by simp,Tb rfl,?_⟩
   conv=>whnf
   refine ⟨L,ts,rfl,ho,fun fin=>Or.inl ⟨rfl,?_⟩⟩
   conv=>whnf
   refine ZCY (fun h1=>?_) (fun h1=>?_)
   ·conv=>whnf
    refine ZCY (fun h2=>?_) (fun h2=>?_)
    ·conv=>whnf
     have e0:Zaf ts=(0,0):=by rw [Zaf,Th (by omega)]
     exact h _ _ (by rw [e0];rfl) (by rw [e0];rfl)
    ·have hn:¬((hd ts).kind≠1∧(hd ts).kind≠4):=by omega
     clear h1 h2
     exact m112
   ·have hn:¬((hd ts).kind≠1∧(hd ts).kind≠4):=by omega
    clear h1
    exact m112
  ·exact h.elim
 ·exact h.elim
end Go.PM.Lex
end

section
namespace Go.PM.Lex
open Go.Proofs
variable {w0:World} {nG:Nat}
noncomputable def ZjS (body:List PV→List Tok→Int→Int→Int→Ts→RK→Prop):ZA:=fun args σ K=>match args,σ with
 | .ptr 0 0::rest,⟨[.cells t0 [.ptr 1 0],.cells t [.d (.sl rows),.d (.int .i64 a),.d (.int .i64 en),.d (.int .i64 dp)]],[],0⟩=>∃L ts,rows=Z8 L∧ROK L a ts ∧
   body rest L en dp a ts fun pe a' dp'=>K pe ⟨[.cells t0 [.ptr 1 0],.cells t [.d (.sl (Z8 L)),.d (.int .i64 a'),.d (.int .i64 en),.d (.int .i64 dp')]],[],0⟩
 | _,_=>False
theorem ZfN {body:List PV→List Tok→Int→Int→Int→Ts→RK→Prop} (hb:∀rest L en dp a ts (K K':RK),(∀pe a d,K pe a d→K' pe a d)→body rest L en dp a ts K→body rest L en dp a ts K'):Zc (ZjS body):=fun args σ K K' hK h=>by
 unfold ZjS at h ⊢
 exact m130
noncomputable def Zt0 {α:Type} (enc:List Tok→Int→α→PV) (P:Ts→R α) (lo:Int):ZA:=ZjS fun rest L en dp a ts K=>match rest with
 | []=>∀x,P ts=x→RKk (enc L en) L en dp (a+lo) x K
 | _=>False
theorem Zh6 {α:Type} (enc:List Tok→Int→α→PV) (P:Ts→R α) (lo:Int):Zc (Zt0 enc P lo):=ZfN fun rest L en dp a ts K K' hK h=>by
 exact m109
noncomputable def Zh7 (p:Ts→Bool):ZA:=ZjS fun rest L en dp a ts K=>match rest with
 | []=>∀b,p ts=b→K (.ret (.d (.bool b))) a dp
 | _=>False
theorem ZjT (p:Ts→Bool):Zc (Zh7 p):=ZfN fun rest L en dp a ts K K' hK h=>by
 split at h
 ·exact fun b hb=>hK _ _ _ (h b hb)
 ·exact h.elim
noncomputable def Zh8 {α:Type} (enc:List Tok→Int→α→PV) (P:Ts→R α) (lo:Int) (d:Nat):ZA:=Wk fun rest L en dp a ts K=>match rest with
 | []=>(dp=64 - (d:Int)∧0≤dp)∧∀x,P ts=x→RKk (enc L en) L en dp (a+lo) x K
 | _=>False
theorem Wa {α:Type} (enc:List Tok→Int→α→PV) (P:Ts→R α) (lo:Int) (d:Nat):Zc (Zh8 enc P lo d):=ZX fun rest L en dp a ts K K' hK h=>by
 exact m56
theorem ZB {α β:Type} (f:α→β) (l:List α) (x:α):l.map f++[f x]=(l++[x]).map f:=by simp
theorem JL {α : Type} (sign : Bs) (most : Nat) (st : Ts → Bool) (one : Ts → R α) (f : Nat) (l : List α) (ts : Ts) : Wn sign most st one (f + 1) l ts = if st ts = true ∧ l.length = most then .err ts.length 3
      else (one ts).bind fun x ts=>if isW ts [sign]=true then Wn sign most st one f (l++[x]) ts.tail else .ok (l++[x]) ts:=rfl
noncomputable def Vo:ZA:=fun args σ K=>match args,σ with
 | [.ptr 0 0,.d (.str sg),.d (.int .i64 m),.func g1 [.ptr 0 0] [],.func g2 [] [.ptr 1 0]],⟨[.cells t [.d (.sl rows),.d (.int .i64 a),.d (.int .i64 en),.d (.int .i64 dp)],.cells t0 [.ptr 0 0]],[],0⟩ =>
   (sg=[44]∧m=12∧g1=145∧g2=259)∧∃L ts,rows=Z8 L∧ROK L a ts∧∀x,Ww [44] 12 ZR Uq ts=x →
    RKk (fun (l:List Fi)=>.d (.sl (l.map (Zt)))) L en dp a x fun pe a' dp'=>K pe ⟨[.cells t [.d (.sl (Z8 L)),.d (.int .i64 a'),.d (.int .i64 en),.d (.int .i64 dp')],.cells t0 [.ptr 0 0]],[],0⟩
 | _,_=>False
theorem Zdn:Zc (Vo):=fun args σ K K' hK h=>by
 unfold Vo at h ⊢
 exact m53
noncomputable def Zh9:Tbl:=[(145,(Zag ZR)),(81,Xq),(259,(Zt0 (fun _ _ (v:Fi)=>ZbC (Zt v)) Uq 1)),(200,WP)]
theorem Zia (ht:TblOK (GG w0 nG) (Zh9)):PCalls (GG w0 nG) 258 (Vo):=by
 refine pc ht Tryz.func258 ?_
 intro args σ K h
 unfold Vo at h
 split at h
 ·rename_i sg m g1 g2 t rows a en dp t0
  obtain ⟨⟨rfl,rfl,rfl,rfl⟩,L,ts,rfl,ho,h⟩:=h
  have h:=h _ rfl
  have hl:=ho.len
  have hbig:=ho.big
  have ha0:=ho.lo
  refine ⟨Za [(2,⟨[11],[0,1,2,3,4],fun vs σ=>∃(l:List Fi) (a':Int) (ts':Ts) (f:Nat),vs=[.sl 0 66 (l.map (Zt))] ∧
   σ=⟨[.cells t [.d (.sl (Z8 L)),.d (.int .i64 a'),.d (.int .i64 en),.d (.int .i64 dp)],.cells t0 [.ptr 0 0]],[0],1⟩∧ROK L a' ts'∧a+l.length≤a'∧ts'.length<f ∧
   Ww [44] 12 ZR Uq ts=Wn [44] 12 ZR Uq f l ts',
   fun _ σ=>match σ with | ⟨.cells _ [_,.d (.int _ i),_,_]::_,_,_⟩=>((L.length:Int) - i).toNat | _=>0⟩)],2,false,by simp,Tb rfl,?_⟩
  conv=>whnf
  refine ⟨⟨[],a,ts,ts.length+1,rfl,rfl,ho,by simp,by omega,rfl⟩,?_⟩
  intro vs σ hI
  obtain ⟨l,a1,ts1,f,rfl,rfl,ho1,hla,hf,hm⟩:=hI
  obtain ⟨f,rfl⟩:∃g,f=g+1:=⟨f - 1,by omega⟩
  rw [JL] at hm
  have hl1:=ho1.len
  have hhi1:=ho1.hi
  conv=>whnf
  refine ⟨L,ts1,rfl,ho1,fun b hb=>?_⟩
  have step:(¬(ZR ts1=true∧l.length=12))→Ww [44] 12 ZR Uq ts=((Uq) ts1).bind fun x ts=>if isW ts [[44]]=true then Wn [44] 12 ZR Uq f (l++[x]) ts.tail else .ok (l++[x]) ts:=fun g=>by rw [hm,Tf g]
  cases b with
  | false =>
   have step:=step (by rw [hb];simp)
   exact m30
  | true =>
   conv=>whnf
   refine ZCX (fun hc=>?_) (fun hc=>?_)
   ·have hc:l.length=12:=by
     have hc:((l.map (Zt)).length:Int)=12:=hc
     rw [Te] at hc;omega
    exact m169
   ·have step:=step (fun g=>hc (by show ((l.map (Zt)).length:Int)=12;rw [Te,g.2];rfl))
    exact m30
 ·exact h.elim
noncomputable def JM:ZA:=fun args σ K=>match args,σ with
 | [.ptr 0 0,.d (.str sg),.d (.int .i64 m),.func g1 [.ptr 0 0] [],.func g2 [.ptr 0 0] []],⟨[.cells t [.d (.sl rows),.d (.int .i64 a),.d (.int .i64 en),.d (.int .i64 dp)]],[],0⟩ =>
   (sg=[44]∧m=12∧g1=145∧g2=142)∧∃L ts,rows=Z8 L∧ROK L a ts∧∀x,Ww [44] 12 ZR Wj ts=x →
    RKk (fun (l:List Bs)=>.d (.sl (l.map (Zr)))) L en dp a x fun pe a' dp'=>K pe ⟨[.cells t [.d (.sl (Z8 L)),.d (.int .i64 a'),.d (.int .i64 en),.d (.int .i64 dp')]],[],0⟩
 | _,_=>False
theorem Zfl:Zc (JM):=fun args σ K K' hK h=>by
 unfold JM at h ⊢
 exact m53
noncomputable def Zmy:Tbl:=[(145,(Zag ZR)),(81,Xq),(142,Wx),(200,WP)]
theorem Zmz (ht:TblOK (GG w0 nG) (Zmy)):PCalls (GG w0 nG) 206 (JM):=by
 refine pc ht Tryz.func206 ?_
 intro args σ K h
 unfold JM at h
 split at h
 ·rename_i sg m g1 g2 t rows a en dp
  obtain ⟨⟨rfl,rfl,rfl,rfl⟩,L,ts,rfl,ho,h⟩:=h
  have h:=h _ rfl
  have hl:=ho.len
  have hbig:=ho.big
  have ha0:=ho.lo
  refine ⟨Za [(2,⟨[11],[0,1,2,3,4],fun vs σ=>∃(l:List Bs) (a':Int) (ts':Ts) (f:Nat),vs=[.sl 0 9 (l.map (Zr))] ∧
   σ=⟨[.cells t [.d (.sl (Z8 L)),.d (.int .i64 a'),.d (.int .i64 en),.d (.int .i64 dp)]],[0],1⟩∧ROK L a' ts'∧a+l.length≤a'∧ts'.length<f ∧
   Ww [44] 12 ZR Wj ts=Wn [44] 12 ZR Wj f l ts',
   fun _ σ=>match σ with | ⟨.cells _ [_,.d (.int _ i),_,_]::_,_,_⟩=>((L.length:Int) - i).toNat | _=>0⟩)],1,false,by simp,Tb rfl,?_⟩
  conv=>whnf
  refine ⟨⟨[],a,ts,ts.length+1,rfl,rfl,ho,by simp,by omega,rfl⟩,?_⟩
  intro vs σ hI
  obtain ⟨l,a1,ts1,f,rfl,rfl,ho1,hla,hf,hm⟩:=hI
  obtain ⟨f,rfl⟩:∃g,f=g+1:=⟨f - 1,by omega⟩
  rw [JL] at hm
  have hl1:=ho1.len
  have hhi1:=ho1.hi
  conv=>whnf
  refine ⟨L,ts1,rfl,ho1,fun b hb=>?_⟩
  have step:(¬(ZR ts1=true∧l.length=12))→Ww [44] 12 ZR Wj ts=((Wj) ts1).bind fun x ts=>if isW ts [[44]]=true then Wn [44] 12 ZR Wj f (l++[x]) ts.tail else .ok (l++[x]) ts:=fun g=>by rw [hm,Tf g]
  cases b with
  | false =>
   have step:=step (by rw [hb];simp)
   exact m32
  | true =>
   conv=>whnf
   refine ZCX (fun hc=>?_) (fun hc=>?_)
   ·have hc:l.length=12:=by
     have hc:((l.map (Zr)).length:Int)=12:=hc
     rw [Te] at hc;omega
    exact m169
   ·have step:=step (fun g=>hc (by show ((l.map (Zr)).length:Int)=12;rw [Te,g.2];rfl))
    exact m32
 ·exact h.elim
noncomputable def Us:ZA:=fun args σ K=>match args,σ with
 | [.ptr 0 0,.d (.str sg),.d (.int .i64 m),.func g1 [.ptr 0 0] [],.func g2 [] [.ptr 1 0]],⟨[.cells t [.d (.sl rows),.d (.int .i64 a),.d (.int .i64 en),.d (.int .i64 dp)],.cells t0 [.ptr 0 0]],[],0⟩ =>
   (sg=[124]∧m=64∧g1=145∧g2=203)∧∃L ts,rows=Z8 L∧ROK L a ts∧∀x,Ww [124] 64 ZR Zcm ts=x →
    RKk (fun (l:List Ca)=>.d (.sl (l.map (Zs)))) L en dp a x fun pe a' dp'=>K pe ⟨[.cells t [.d (.sl (Z8 L)),.d (.int .i64 a'),.d (.int .i64 en),.d (.int .i64 dp')],.cells t0 [.ptr 0 0]],[],0⟩
 | _,_=>False
theorem Zej:Zc (Us):=fun args σ K K' hK h=>by
 unfold Us at h ⊢
 exact m53
noncomputable def ZjU:Tbl:=[(145,(Zag ZR)),(81,Xq),(203,(Zt0 (fun _ _ (v:Ca)=>ZbC (Zs v)) Zcm 1)),(200,WP)]
theorem ZjV (ht:TblOK (GG w0 nG) (ZjU)):PCalls (GG w0 nG) 202 (Us):=by
 refine pc ht Tryz.func202 ?_
 intro args σ K h
 unfold Us at h
 split at h
 ·rename_i sg m g1 g2 t rows a en dp t0
  obtain ⟨⟨rfl,rfl,rfl,rfl⟩,L,ts,rfl,ho,h⟩:=h
  have h:=h _ rfl
  have hl:=ho.len
  have hbig:=ho.big
  have ha0:=ho.lo
  refine ⟨Za [(2,⟨[11],[0,1,2,3,4],fun vs σ=>∃(l:List Ca) (a':Int) (ts':Ts) (f:Nat),vs=[.sl 0 148 (l.map (Zs))] ∧
   σ=⟨[.cells t [.d (.sl (Z8 L)),.d (.int .i64 a'),.d (.int .i64 en),.d (.int .i64 dp)],.cells t0 [.ptr 0 0]],[0],1⟩∧ROK L a' ts'∧a+l.length≤a'∧ts'.length<f ∧
   Ww [124] 64 ZR Zcm ts=Wn [124] 64 ZR Zcm f l ts',
   fun _ σ=>match σ with | ⟨.cells _ [_,.d (.int _ i),_,_]::_,_,_⟩=>((L.length:Int) - i).toNat | _=>0⟩)],2,false,by simp,Tb rfl,?_⟩
  conv=>whnf
  refine ⟨⟨[],a,ts,ts.length+1,rfl,rfl,ho,by simp,by omega,rfl⟩,?_⟩
  intro vs σ hI
  obtain ⟨l,a1,ts1,f,rfl,rfl,ho1,hla,hf,hm⟩:=hI
  obtain ⟨f,rfl⟩:∃g,f=g+1:=⟨f - 1,by omega⟩
  rw [JL] at hm
  have hl1:=ho1.len
  have hhi1:=ho1.hi
  conv=>whnf
  refine ⟨L,ts1,rfl,ho1,fun b hb=>?_⟩
  have step:(¬(ZR ts1=true∧l.length=64))→Ww [124] 64 ZR Zcm ts=((Zcm) ts1).bind fun x ts=>if isW ts [[124]]=true then Wn [124] 64 ZR Zcm f (l++[x]) ts.tail else .ok (l++[x]) ts:=fun g=>by rw [hm,Tf g]
  cases b with
  | false =>
   have step:=step (by rw [hb];simp)
   exact m29
  | true =>
   conv=>whnf
   refine ZCX (fun hc=>?_) (fun hc=>?_)
   ·have hc:l.length=64:=by
     have hc:((l.map (Zs)).length:Int)=64:=hc
     rw [Te] at hc;omega
    exact m169
   ·have step:=step (fun g=>hc (by show ((l.map (Zs)).length:Int)=64;rw [Te,g.2];rfl))
    exact m29
 ·exact h.elim
noncomputable def ZbE (d:Nat):ZA:=fun args σ K=>match args,σ with
 | [.ptr 0 0,.d (.str sg),.d (.int .i64 m),.func g1 [.ptr 0 0] [],.func g2 [.ptr 0 0] []],⟨[.cells t [.d (.sl rows),.d (.int .i64 a),.d (.int .i64 en),.d (.int .i64 dp)]],[],0⟩ =>
   (sg=[44]∧m=12∧g1=262∧g2=35∧(dp=64 - (d:Int)∧0≤dp))∧∃L ts,rows=Z8 L∧ROK L a ts∧∀x,Ww [44] 12 Z1 (VB d) ts=x →
    RKk (fun (l:List Ex)=>.d (.sl (l.map (Yh (Zd L en))))) L en dp a x fun pe a' dp'=>K pe ⟨[.cells t [.d (.sl (Z8 L)),.d (.int .i64 a'),.d (.int .i64 en),.d (.int .i64 dp')]],[],0⟩
 | _,_=>False
noncomputable def ZoC (d:Nat):Tbl:=[(262,(Zag Z1)),(81,Xq),(35,(Zh8 (fun L en (v:Ex)=>ZbC (Yh (Zd L en) v)) (VB d) 0 d)),(200,WP)]
theorem ZoD (d:Nat) (ht:TblOK (GG w0 nG) (ZoC d)):PCalls (GG w0 nG) 261 (ZbE d):=by
 refine pc ht Tryz.func261 ?_
 intro args σ K h
 unfold ZbE at h
 split at h
 ·rename_i sg m g1 g2 t rows a en dp
  obtain ⟨⟨rfl,rfl,rfl,rfl,hdp⟩,L,ts,rfl,ho,h⟩:=h
  have h:=h _ rfl
  have hl:=ho.len
  have hbig:=ho.big
  have ha0:=ho.lo
  refine ⟨Za [(2,⟨[11],[0,1,2,3,4],fun vs σ=>∃(l:List Ex) (a':Int) (ts':Ts) (f:Nat),vs=[.sl 0 24 (l.map (Yh (Zd L en)))] ∧
   σ=⟨[.cells t [.d (.sl (Z8 L)),.d (.int .i64 a'),.d (.int .i64 en),.d (.int .i64 dp)]],[0],1⟩∧ROK L a' ts'∧a+l.length≤a'∧ts'.length<f ∧
   Ww [44] 12 Z1 (VB d) ts=Wn [44] 12 Z1 (VB d) f l ts',
   fun _ σ=>match σ with | ⟨.cells _ [_,.d (.int _ i),_,_]::_,_,_⟩=>((L.length:Int) - i).toNat | _=>0⟩)],1,false,by simp,Tb rfl,?_⟩
  conv=>whnf
  refine ⟨⟨[],a,ts,ts.length+1,rfl,rfl,ho,by simp,by omega,rfl⟩,?_⟩
  intro vs σ hI
  obtain ⟨l,a1,ts1,f,rfl,rfl,ho1,hla,hf,hm⟩:=hI
  obtain ⟨f,rfl⟩:∃g,f=g+1:=⟨f - 1,by omega⟩
  rw [JL] at hm
  have hl1:=ho1.len
  have hhi1:=ho1.hi
  conv=>whnf
  refine ⟨L,ts1,rfl,ho1,fun b hb=>?_⟩
  have step:(¬(Z1 ts1=true∧l.length=12))→Ww [44] 12 Z1 (VB d) ts=(((VB d)) ts1).bind fun x ts=>if isW ts [[44]]=true then Wn [44] 12 Z1 (VB d) f (l++[x]) ts.tail else .ok (l++[x]) ts:=fun g=>by rw [hm,Tf g]
  cases b with
  | false =>
   have step:=step (by rw [hb];simp)
   exact m26
  | true =>
   conv=>whnf
   refine ZCX (fun hc=>?_) (fun hc=>?_)
   ·have hc:l.length=12:=by
     have hc:((l.map (Yh (Zd L en))).length:Int)=12:=hc
     rw [Te] at hc;omega
    exact m169
   ·have step:=step (fun g=>hc (by show ((l.map (Yh (Zd L en))).length:Int)=12;rw [Te,g.2];rfl))
    exact m26
 ·exact h.elim
noncomputable def ZbF (d:Nat):ZA:=fun args σ K=>match args,σ with
 | [.ptr 0 0,.d (.str sg),.d (.int .i64 m),.func g1 [] [.ptr 1 0],.func g2 [.ptr 0 0] []],⟨[.cells t [.d (.sl rows),.d (.int .i64 a),.d (.int .i64 en),.d (.int .i64 dp)],.cells t0 [.ptr 0 0]],[],0⟩ =>
   (sg=[44]∧m=32∧g1=264∧g2=265∧(dp=64 - (d:Int)∧0≤dp))∧∃L ts,rows=Z8 L∧ROK L a ts∧∀x,Ww [44] 32 Yu (Ze8 d (UX d)) ts=x →
    RKk (fun (l:List Li)=>.d (.sl (l.map (Yt (Zd L en))))) L en dp a x fun pe a' dp'=>K pe ⟨[.cells t [.d (.sl (Z8 L)),.d (.int .i64 a'),.d (.int .i64 en),.d (.int .i64 dp')],.cells t0 [.ptr 0 0]],[],0⟩
 | _,_=>False
theorem Zgv (d:Nat):Zc (ZbF d):=fun args σ K K' hK h=>by
 unfold ZbF at h ⊢
 exact m53
noncomputable def ZoE (d:Nat):Tbl:=[(264,(Zh7 Yu)),(81,Xq),(265,(Zh8 (fun L en (v:Li)=>ZbC (Yt (Zd L en) v)) (Ze8 d (UX d)) 0 d)),(200,WP)]
theorem ZoF (d:Nat) (ht:TblOK (GG w0 nG) (ZoE d)):PCalls (GG w0 nG) 263 (ZbF d):=by
 refine pc ht Tryz.func263 ?_
 intro args σ K h
 unfold ZbF at h
 split at h
 ·rename_i sg m g1 g2 t rows a en dp t0
  obtain ⟨⟨rfl,rfl,rfl,rfl,hdp⟩,L,ts,rfl,ho,h⟩:=h
  have h:=h _ rfl
  have hl:=ho.len
  have hbig:=ho.big
  have ha0:=ho.lo
  refine ⟨Za [(2,⟨[11],[0,1,2,3,4],fun vs σ=>∃(l:List Li) (a':Int) (ts':Ts) (f:Nat),vs=[.sl 0 60 (l.map (Yt (Zd L en)))] ∧
   σ=⟨[.cells t [.d (.sl (Z8 L)),.d (.int .i64 a'),.d (.int .i64 en),.d (.int .i64 dp)],.cells t0 [.ptr 0 0]],[0],1⟩∧ROK L a' ts'∧a+l.length≤a'∧ts'.length<f ∧
   Ww [44] 32 Yu (Ze8 d (UX d)) ts=Wn [44] 32 Yu (Ze8 d (UX d)) f l ts',
   fun _ σ=>match σ with | ⟨.cells _ [_,.d (.int _ i),_,_]::_,_,_⟩=>((L.length:Int) - i).toNat | _=>0⟩)],2,false,by simp,Tb rfl,?_⟩
  conv=>whnf
  refine ⟨⟨[],a,ts,ts.length+1,rfl,rfl,ho,by simp,by omega,rfl⟩,?_⟩
  intro vs σ hI
  obtain ⟨l,a1,ts1,f,rfl,rfl,ho1,hla,hf,hm⟩:=hI
  obtain ⟨f,rfl⟩:∃g,f=g+1:=⟨f - 1,by omega⟩
  rw [JL] at hm
  have hl1:=ho1.len
  have hhi1:=ho1.hi
  conv=>whnf
  refine ⟨L,ts1,rfl,ho1,fun b hb=>?_⟩
  have step:(¬(Yu ts1=true∧l.length=32))→Ww [44] 32 Yu (Ze8 d (UX d)) ts=(((Ze8 d (UX d))) ts1).bind fun x ts=>if isW ts [[44]]=true then Wn [44] 32 Yu (Ze8 d (UX d)) f (l++[x]) ts.tail else .ok (l++[x]) ts:=fun g=>by rw [hm,Tf g]
  cases b with
  | false =>
   have step:=step (by rw [hb];simp)
   exact m25
  | true =>
   conv=>whnf
   refine ZCX (fun hc=>?_) (fun hc=>?_)
   ·have hc:l.length=32:=by
     have hc:((l.map (Yt (Zd L en))).length:Int)=32:=hc
     rw [Te] at hc;omega
    exact m169
   ·have step:=step (fun g=>hc (by show ((l.map (Yt (Zd L en))).length:Int)=32;rw [Te,g.2];rfl))
    exact m25
 ·exact h.elim
end Go.PM.Lex
end

section
namespace Go.PM.Lex
open Go.Proofs
variable {w0:World} {nG:Nat}
noncomputable abbrev Zgw:ZA:=Zt0 (fun _ _ (v:Fi)=>ZbC (Zt v)) Uq 1
noncomputable abbrev ZjW:ZA:=Zt0 (fun _ _ (v:Ca)=>ZbC (Zs v)) Zcm 1
noncomputable def UY:ZA:=Wk fun rest L en dp a ts K=>match rest with
 | [.d (.str w)]=>∀x,JG w ts=x→RKk (fun (v:List Fi)=>.d (.sl (v.map Zt))) L en dp a x K
 | _=>False
theorem UZ:Zc UY:=ZX fun rest L en dp a ts K K' hK h=>by
 exact m109
noncomputable abbrev Zek:ZA:=spR (fun _ _ (v:List Bs)=>.d (.sl (v.map Zr))) ZcY 0
noncomputable abbrev Zgx:ZA:=spR (fun L en (v:Ty)=>ZbC (Zx (Zd L en) v)) Zee 0
noncomputable abbrev Zk2:ZA:=spR (fun L en (v:Re)=>ZbC (ZG (Zd L en) v)) ZjK 0
noncomputable def ZoG:Tbl:=[(142,Wx),(143,X9)]
theorem ZoH (ht:TblOK (GG w0 nG) ZoG):PCalls (GG w0 nG) 259 Zgw:=by
 refine pc ht Tryz.func259 ?_
 intro args σ K h
 unfold Zgw Zt0 ZjS at h
 split at h
 ·rename_i rest t0 t rows a en dp
  obtain ⟨L,ts,rfl,ho,h⟩:=h
  split at h
  ·skip
   have h0:=ho.lo
   have h1:=ho.hi
   have h2:=ho.big
   refine ⟨Za [],2,false,by simp,Tb rfl,?_⟩
   have h:=h _ rfl
   unfold Uq at h
   conv=>whnf
   refine ⟨L,ts,rfl,ho,fun x hx1=>?_⟩
   rcases x with ⟨v1,ts1⟩ | ⟨r1,e1⟩
   rotate_left
   ·exact m58
   rw [hx1,R.bind_ok] at h
   intro a1 hle1 ho1
   have hb1:=ho1.hi
   conv=>whnf
   refine ⟨L,ts1,rfl,ho1,fun x hx2=>?_⟩
   exact m171
  ·exact h.elim
 ·exact h.elim
noncomputable def ZoI:Tbl:=[(136,Zhl),(258,Vo)]
theorem ZoJ (ht:TblOK (GG w0 nG) ZoI):PCalls (GG w0 nG) 201 UY:=by
 refine pc ht Tryz.func201 ?_
 intro args σ K h
 unfold UY Wk at h
 split at h
 ·rename_i rest t rows a en dp
  obtain ⟨L,ts,rfl,ho,h⟩:=h
  split at h
  ·rename_i w
   have h0:=ho.lo
   have h1:=ho.hi
   have h2:=ho.big
   refine ⟨Za [],1,false,by simp,Tb rfl,?_⟩
   have h:=h _ rfl
   unfold JG at h
   conv=>whnf
   refine ⟨L,ts,rfl,ho,[w],rfl,by simp,fun b1 hw1=>?_⟩
   cases b1 with
   | true =>
    rw [Th hw1] at h
    conv=>whnf
    exact h _ (by omega) ho
   | false =>
    rw [Tf (by rw [hw1];simp)] at h
    conv=>whnf
    refine ⟨⟨rfl,rfl,rfl,rfl⟩,L,ts,rfl,ho,fun x hx2=>?_⟩
    rcases x with ⟨v2,ts2⟩ | ⟨r2,e2⟩
    rotate_left
    ·rw [hx2] at h;intro a9 d9;(conv=>whnf);exact h _ _
    rw [hx2] at h
    intro a2 hle2 ho2
    have hb2:=ho2.hi
    conv=>whnf
    exact h _ (by omega) ho2
  ·exact h.elim
 ·exact h.elim
noncomputable def Zri:Tbl:=[(200,WP),(206,JM),(143,X9)]
theorem Zrj (ht:TblOK (GG w0 nG) Zri):PCalls (GG w0 nG) 144 Zek:=by
 refine pc ht Tryz.func144 ?_
 intro args σ K h
 unfold Zek spR Wk at h
 split at h
 ·rename_i rest t rows a en dp
  obtain ⟨L,ts,rfl,ho,h⟩:=h
  split at h
  ·skip
   have h0:=ho.lo
   have h1:=ho.hi
   have h2:=ho.big
   refine ⟨Za [],1,false,by simp,Tb rfl,?_⟩
   have h:=h _ rfl
   unfold ZcY at h
   conv=>whnf
   refine ⟨L,ts,rfl,ho,[[60]],rfl,by simp,fun hw1 ho1=>?_,fun hw1=>?_⟩
   ·rw [Th hw1] at h
    have hb1:=ho1.hi
    conv=>whnf
    refine ⟨⟨rfl,rfl,rfl,rfl⟩,L,ts.tail,rfl,ho1,fun x hx2=>?_⟩
    exact m171
   ·rw [Tf (by rw [hw1];simp)] at h
    conv=>whnf
    exact h _ (by omega) ho
  ·exact h.elim
 ·exact h.elim
noncomputable def Zrk:Tbl:=[(142,Wx),(143,X9),(201,UY)]
theorem Zrl (ht:TblOK (GG w0 nG) Zrk):PCalls (GG w0 nG) 203 ZjW:=by
 refine pc ht Tryz.func203 ?_
 intro args σ K h
 unfold ZjW Zt0 ZjS at h
 split at h
 ·rename_i rest t0 t rows a en dp
  obtain ⟨L,ts,rfl,ho,h⟩:=h
  split at h
  ·skip
   have h0:=ho.lo
   have h1:=ho.hi
   have h2:=ho.big
   refine ⟨Za [],2,false,by simp,Tb rfl,?_⟩
   have h:=h _ rfl
   unfold Zcm at h
   conv=>whnf
   refine ⟨L,ts,rfl,ho,fun x hx1=>?_⟩
   rcases x with ⟨v1,ts1⟩ | ⟨r1,e1⟩
   rotate_left
   ·exact m58
   rw [hx1,R.bind_ok] at h
   intro a1 hle1 ho1
   have hb1:=ho1.hi
   conv=>whnf
   refine ⟨L,ts1,rfl,ho1,fun x hx2=>?_⟩
   rcases x with ⟨v2,ts2⟩ | ⟨r2,e2⟩
   rotate_left
   ·exact m51
   rw [hx2,R.bind_ok] at h
   intro a2 hle2 ho2
   have hb2:=ho2.hi
   conv=>whnf
   refine ⟨L,ts2,rfl,ho2,fun x hx3=>?_⟩
   rcases x with ⟨v3,ts3⟩ | ⟨r3,e3⟩
   rotate_left
   ·exact m31
   rw [hx3,R.bind_ok] at h
   intro a3 hle3 ho3
   have hb3:=ho3.hi
   conv=>whnf
   refine ⟨L,ts3,rfl,ho3,fun x hx4=>?_⟩
   rcases x with ⟨v4,ts4⟩ | ⟨r4,e4⟩
   rotate_left
   ·exact m99
   rw [hx4,R.bind_ok] at h
   intro a4 hle4 ho4
   have hb4:=ho4.hi
   conv=>whnf
   exact h _ (by omega) ho4
  ·exact h.elim
 ·exact h.elim
noncomputable def Zrm:Tbl:=[(141,WX),(142,Wx),(200,WP),(143,X9),(201,UY),(202,Us)]
theorem Zrn (ht:TblOK (GG w0 nG) Zrm):PCalls (GG w0 nG) 138 Zgx:=by
 refine pc ht Tryz.func138 ?_
 intro args σ K h
 unfold Zgx spR Wk at h
 split at h
 ·rename_i rest t rows a en dp
  obtain ⟨L,ts,rfl,ho,h⟩:=h
  split at h
  ·skip
   have h0:=ho.lo
   have h1:=ho.hi
   have h2:=ho.big
   refine ⟨Za [],1,false,by simp,Tb rfl,?_⟩
   have h:=h _ rfl
   unfold Zee at h
   conv=>whnf
   refine ⟨L,ts,rfl,ho,?_⟩
   conv=>whnf
   refine ⟨L,ts,rfl,ho,fun x hx1=>?_⟩
   rcases x with ⟨v1,ts1⟩ | ⟨r1,e1⟩
   rotate_left
   ·exact m58
   rw [hx1,R.bind_ok] at h
   intro a1 hle1 ho1
   have hb1:=ho1.hi
   conv=>whnf
   refine ⟨L,ts1,rfl,ho1,[[60,58]],rfl,by simp,fun hw2 ho2=>?_,fun hw2=>?_⟩
   ·rw [Th hw2] at h
    have hb2:=ho2.hi
    conv=>whnf
    refine ⟨L,ts1.tail,rfl,ho2,fun x hx3=>?_⟩
    rcases x with ⟨v3,ts3⟩ | ⟨r3,e3⟩
    rotate_left
    ·exact m31
    exact m102
   ·rw [Tf (by rw [hw2];simp)] at h
    conv=>whnf
    refine ⟨L,ts1,rfl,ho1,fun x hx3=>?_⟩
    rcases x with ⟨v3,ts3⟩ | ⟨r3,e3⟩
    rotate_left
    ·exact m31
    rw [hx3,R.bind_ok] at h
    intro a3 hle3 ho3
    have hb3:=ho3.hi
    conv=>whnf
    refine ⟨L,ts3,rfl,ho3,[[91]],rfl,by simp,fun hw4 ho4=>?_,fun hw4=>?_⟩
    ·rw [Th hw4] at h
     have hb4:=ho4.hi
     conv=>whnf
     refine ⟨L,ts3.tail,rfl,ho4,fun x hx5=>?_⟩
     rcases x with ⟨v5,ts5⟩ | ⟨r5,e5⟩
     rotate_left
     ·exact m50
     rw [hx5,R.bind_ok] at h
     intro a5 hle5 ho5
     have hb5:=ho5.hi
     conv=>whnf
     refine ⟨L,ts5,rfl,ho5,fun x hx6=>?_⟩
     rcases x with ⟨v6,ts6⟩ | ⟨r6,e6⟩
     rotate_left
     ·rw [hx6,R.bind_err] at h;intro a9 d9;(conv=>whnf);exact h _ _
     rw [hx6,R.bind_ok] at h
     intro a6 hle6 ho6
     have hb6:=ho6.hi
     conv=>whnf
     exact h _ (by omega) ho6
    ·rw [Tf (by rw [hw4];simp)] at h
     conv=>whnf
     refine ⟨⟨rfl,rfl,rfl,rfl⟩,L,ts3,rfl,ho3,fun x hx5=>?_⟩
     rcases x with ⟨v5,ts5⟩ | ⟨r5,e5⟩
     rotate_left
     ·exact m50
     rw [hx5,R.bind_ok] at h
     intro a5 hle5 ho5
     have hb5:=ho5.hi
     conv=>whnf
     exact h _ (by omega) ho5
  ·exact h.elim
 ·exact h.elim
end Go.PM.Lex
end

section
namespace Go.PM.Lex
open Go.Proofs
variable {w0:World} {nG:Nat}
def Zbe (i o n:Bool):Nat:=(match i with | true=>0 | false=>1)+(match o with | true=>0 | false=>1)+(match n with | true=>0 | false=>1)
theorem ZmA (f : Nat) (i o n : Bool) (ts : Ts) : Xo (f + 1) i o n ts = if i = false ∧ isW ts [[105, 110, 112, 117, 116]] = true then Xo f true o n ts.tail
      else if o=false∧isW ts [[111,117,116,112,117,116]]=true then Xo f i true n ts.tail
      else if n=false∧isW ts [[105,110,108,105,110,101]]=true then Xo f i o true ts.tail
      else ((i,o,n),ts):=rfl
noncomputable def Zt1:Tbl:=[(141,WX),(142,Wx),(200,WP),(143,X9),(201,UY)]
theorem Zt2 (ht:TblOK (GG w0 nG) Zt1):PCalls (GG w0 nG) 139 Zk2:=by
 refine pc ht Tryz.func139 ?_
 intro args σ K h
 unfold Zk2 spR Wk at h
 split at h
 ·rename_i rest t rows a en dp
  obtain ⟨L,ts,rfl,ho,h⟩:=h
  split at h
  ·skip
   have h0:=ho.lo
   have h1:=ho.hi
   have h2:=ho.big
   refine ⟨Za [(7,⟨[],[0,2,3],fun vs σ=>∃(nm:Bs) (l:List Fi) (a5:Int) (ts5:Ts) (i o n:Bool) (a':Int) (ts':Ts) (f:Nat),vs=[]∧σ=⟨[.cells t [.d (.sl (Z8 L)),.d (.int .i64 a'),.d (.int .i64 en),.d (.int .i64 dp)],.cells 68 [.d (.str []),.sl 0 66 [],.d (.bool false),.d (.bool false),.d (.bool false),.d (.int .i64 0)],.cells 68 [.d (.str nm),.d (.sl (l.map Zt)),.d (.bool i),.d (.bool o),.d (.bool n),.d (.int .i64 (Zd L en ts.length))]],[0],1⟩∧ROK L a' ts'∧a≤a'∧Zbe i o n<f∧RKk (fun (v:Re)=>ZbC (ZG (Zd L en) v)) L en dp (a+0) (R.ok ⟨nm,l,(Xo f i o n ts').1.1,(Xo f i o n ts').1.2.1,(Xo f i o n ts').1.2.2,ts.length⟩ (Xo f i o n ts').2) (fun pe a' dp'=>K pe ⟨[.cells t [.d (.sl (Z8 L)),.d (.int .i64 a'),.d (.int .i64 en),.d (.int .i64 dp')]],[],0⟩),fun _ σ=>match σ with | ⟨[_,_,.cells _ [_,_,.d (.bool i),.d (.bool o),.d (.bool n),_]],_,_⟩=>Zbe i o n | _=>0⟩)],1,false,by simp,Tb rfl,?_⟩
   have h:=h _ rfl
   unfold ZjK at h
   conv=>whnf
   refine ⟨L,ts,rfl,ho,?_⟩
   conv=>whnf
   refine ⟨L,ts,rfl,ho,fun x hx1=>?_⟩
   rcases x with ⟨v1,ts1⟩ | ⟨r1,e1⟩
   rotate_left
   ·exact m58
   rw [hx1,R.bind_ok] at h
   intro a1 hle1 ho1
   have hb1:=ho1.hi
   conv=>whnf
   refine ⟨L,ts1,rfl,ho1,fun x hx2=>?_⟩
   rcases x with ⟨v2,ts2⟩ | ⟨r2,e2⟩
   rotate_left
   ·exact m51
   rw [hx2,R.bind_ok] at h
   intro a2 hle2 ho2
   have hb2:=ho2.hi
   conv=>whnf
   refine ⟨L,ts2,rfl,ho2,fun x hx3=>?_⟩
   rcases x with ⟨v3,ts3⟩ | ⟨r3,e3⟩
   rotate_left
   ·exact m31
   rw [hx3,R.bind_ok] at h
   intro a3 hle3 ho3
   have hb3:=ho3.hi
   conv=>whnf
   refine ⟨L,ts3,rfl,ho3,fun x hx4=>?_⟩
   rcases x with ⟨v4,ts4⟩ | ⟨r4,e4⟩
   rotate_left
   ·exact m99
   rw [hx4,R.bind_ok] at h
   intro a4 hle4 ho4
   have hb4:=ho4.hi
   conv=>whnf
   refine ⟨⟨v1,v3,a4,ts4,false,false,false,a4,ts4,4,rfl,rfl,ho4,by omega,by decide,h⟩,?_⟩
   clear h hx1 hx2 hx3 hx4 ho1 ho2 ho3 ho4 hb1 hb2 hb3 hb4 hle1 hle2 hle3 hle4
   intro vs σ hI
   obtain ⟨nm,l,a5,ts5,i,o,n,a',ts',f,rfl,rfl,ho',hle,hf,h⟩:=hI
   obtain ⟨f,rfl⟩:∃g,f=g+1:=⟨f - 1,by omega⟩
   rw [ZmA] at h
   have hhi:=ho'.hi
   conv=>whnf
   cases i with
   | true =>
    rw [Tf (by simp)] at h
    conv=>whnf
    cases o with
    | true =>
     rw [Tf (by simp)] at h
     conv=>whnf
     cases n with
     | true =>
      rw [Tf (by simp)] at h
      exact m89
     | false =>
      conv=>whnf
      refine ⟨L,ts',rfl,ho',[[105,110,108,105,110,101]],rfl,by simp,fun hw9 ho9=>?_,fun hw9=>?_⟩
      ·rw [Th ⟨rfl,hw9⟩] at h
       have hb9:=ho9.hi
       conv=>whnf
       refine ⟨⟨nm,l,a5,ts5,true,true,true,a'+1,ts'.tail,f,rfl,rfl,ho9,by omega,?_,h⟩,?_⟩
       ·(simp only [Zbe] at hf ⊢;omega)
       ·show Zbe true true true<Zbe true true false
        (simp only [Zbe];omega)
      ·rw [Tf (by rw [hw9];simp)] at h
       exact m89
    | false =>
     conv=>whnf
     refine ⟨L,ts',rfl,ho',[[111,117,116,112,117,116]],rfl,by simp,fun hw9 ho9=>?_,fun hw9=>?_⟩
     ·rw [Th ⟨rfl,hw9⟩] at h
      have hb9:=ho9.hi
      conv=>whnf
      refine ⟨⟨nm,l,a5,ts5,true,true,n,a'+1,ts'.tail,f,rfl,rfl,ho9,by omega,?_,h⟩,?_⟩
      ·cases n <;> (simp only [Zbe] at hf ⊢;omega)
      ·show Zbe true true n<Zbe true false n
       cases n <;> (simp only [Zbe];omega)
     ·rw [Tf (by rw [hw9];simp)] at h
      conv=>whnf
      cases n with
      | true =>
       rw [Tf (by simp)] at h
       exact m89
      | false =>
       conv=>whnf
       refine ⟨L,ts',rfl,ho',[[105,110,108,105,110,101]],rfl,by simp,fun hw9 ho9=>?_,fun hw9=>?_⟩
       ·rw [Th ⟨rfl,hw9⟩] at h
        have hb9:=ho9.hi
        conv=>whnf
        refine ⟨⟨nm,l,a5,ts5,true,false,true,a'+1,ts'.tail,f,rfl,rfl,ho9,by omega,?_,h⟩,?_⟩
        ·(simp only [Zbe] at hf ⊢;omega)
        ·show Zbe true false true<Zbe true false false
         (simp only [Zbe];omega)
       ·rw [Tf (by rw [hw9];simp)] at h
        exact m89
   | false =>
    conv=>whnf
    refine ⟨L,ts',rfl,ho',[[105,110,112,117,116]],rfl,by simp,fun hw9 ho9=>?_,fun hw9=>?_⟩
    ·rw [Th ⟨rfl,hw9⟩] at h
     have hb9:=ho9.hi
     conv=>whnf
     refine ⟨⟨nm,l,a5,ts5,true,o,n,a'+1,ts'.tail,f,rfl,rfl,ho9,by omega,?_,h⟩,?_⟩
     ·cases o <;> cases n <;> (simp only [Zbe] at hf ⊢;omega)
     ·show Zbe true o n<Zbe false o n
      cases o <;> cases n <;> (simp only [Zbe];omega)
    ·rw [Tf (by rw [hw9];simp)] at h
     conv=>whnf
     cases o with
     | true =>
      rw [Tf (by simp)] at h
      conv=>whnf
      cases n with
      | true =>
       rw [Tf (by simp)] at h
       exact m89
      | false =>
       conv=>whnf
       refine ⟨L,ts',rfl,ho',[[105,110,108,105,110,101]],rfl,by simp,fun hw9 ho9=>?_,fun hw9=>?_⟩
       ·rw [Th ⟨rfl,hw9⟩] at h
        have hb9:=ho9.hi
        conv=>whnf
        refine ⟨⟨nm,l,a5,ts5,false,true,true,a'+1,ts'.tail,f,rfl,rfl,ho9,by omega,?_,h⟩,?_⟩
        ·(simp only [Zbe] at hf ⊢;omega)
        ·show Zbe false true true<Zbe false true false
         (simp only [Zbe];omega)
       ·rw [Tf (by rw [hw9];simp)] at h
        exact m89
     | false =>
      conv=>whnf
      refine ⟨L,ts',rfl,ho',[[111,117,116,112,117,116]],rfl,by simp,fun hw9 ho9=>?_,fun hw9=>?_⟩
      ·rw [Th ⟨rfl,hw9⟩] at h
       have hb9:=ho9.hi
       conv=>whnf
       refine ⟨⟨nm,l,a5,ts5,false,true,n,a'+1,ts'.tail,f,rfl,rfl,ho9,by omega,?_,h⟩,?_⟩
       ·cases n <;> (simp only [Zbe] at hf ⊢;omega)
       ·show Zbe false true n<Zbe false false n
        cases n <;> (simp only [Zbe];omega)
      ·rw [Tf (by rw [hw9];simp)] at h
       conv=>whnf
       cases n with
       | true =>
        rw [Tf (by simp)] at h
        exact m89
       | false =>
        conv=>whnf
        refine ⟨L,ts',rfl,ho',[[105,110,108,105,110,101]],rfl,by simp,fun hw9 ho9=>?_,fun hw9=>?_⟩
        ·rw [Th ⟨rfl,hw9⟩] at h
         have hb9:=ho9.hi
         conv=>whnf
         refine ⟨⟨nm,l,a5,ts5,false,false,true,a'+1,ts'.tail,f,rfl,rfl,ho9,by omega,?_,h⟩,?_⟩
         ·(simp only [Zbe] at hf ⊢;omega)
         ·show Zbe false false true<Zbe false false false
          (simp only [Zbe];omega)
        ·rw [Tf (by rw [hw9];simp)] at h
         exact m89
  ·exact h.elim
 ·exact h.elim
end Go.PM.Lex
end

section
namespace Go.PM.Lex
open Go.Proofs
variable {w0:World} {nG:Nat}
noncomputable def ZjX (fn:Func) (tb:Tbl):ZA:=fun args σ K=>∃K0:PEnd→St→Prop,(∀e σ,K0 e σ→K e σ)∧args.length≤fn.ntmps∧WF (ctx ZjB tb (Za [])) fn σ.bx.length false args σ K0
theorem YU (fn:Func) (tb:Tbl):Zc (ZjX fn tb):=fun args σ K K' hK ⟨K0,h1,h2⟩=>⟨K0,fun e σ h=>hK _ _ (h1 e σ h),h2⟩
noncomputable def Zt3 (fn:Func) (unr:Nat→Nat) (tb:Tbl):ZA:=fun args σ K=>∃K0:PEnd→St→Prop,(∀e σ,K0 e σ→K e σ)∧args.length≤fn.ntmps∧WF (Zmp ZjB tb WN (Za []) unr (Vh [])) fn σ.bx.length false args σ K0
theorem ZmB (fn:Func) (unr:Nat→Nat) (tb:Tbl):Zc (Zt3 fn unr tb):=fun args σ K K' hK ⟨K0,h1,h2⟩=>⟨K0,fun e σ h=>hK _ _ (h1 e σ h),h2⟩
theorem _root_.Go.PM.PCalls.closed {G:GE} {g:FuncId} {sp:ZA} (h:PCalls G g sp):PCalls G g (fun args σ K=>∃K0:PEnd→St→Prop,(∀e σ,K0 e σ→K e σ)∧sp args σ K0):=⟨h.enters,fun args σ K ⟨K0,hK,hs⟩ n e w vs hS ha =>
 (h.calls args σ K0 hs n e w vs hS ha).mono fun en w' ⟨pe,σ',e',hk,hr⟩=>⟨pe,σ',e',hK _ _ hk,hr⟩⟩
theorem Zcp {g : FuncId} {fn : Func} {c : Code} {tb : Tbl} (ht : TblOK (GG w0 nG) tb) (hf : (GG w0 nG).P.funcs[g]? = some fn) (hb : fn.body = some c) (hname : (fn.name == "runtime.NumGoroutine") = false) (hok : ZS fn.ntmps c = true) : PCalls (GG w0 nG) g (ZjX fn tb) := by
 have h:PCalls (GG w0 nG) g (fun args σ K=>args.length≤fn.ntmps∧WF (ctx ZjB tb (Za [])) fn σ.bx.length false args σ K):=by
  refine ZhI XG mixed ht hf hb hname hok ?_
  intro args σ K h
  exact ⟨Za [],σ.bx.length,false,Tt _,h.1,h.2⟩
 exact h.closed
theorem ZxM {g : FuncId} {fn : Func} {c : Code} {unr : Nat → Nat} {tb : Tbl} (ht : TblOK (GG w0 nG) tb) (hf : (GG w0 nG).P.funcs[g]? = some fn) (hb : fn.body = some c) (hname : (fn.name == "runtime.NumGoroutine") = false) (hok : ZS fn.ntmps c = true) : PCalls (GG w0 nG) g (Zt3 fn unr tb) := by
 have h:PCalls (GG w0 nG) g (fun args σ K=>args.length≤fn.ntmps∧WF (Zmp ZjB tb WN (Za []) unr (Vh [])) fn σ.bx.length false args σ K):=by
  refine Zgl XG mixed ht hf hb hname hok ?_
  intro args σ K h
  exact ⟨Za [],unr,Vh [],σ.bx.length,false,Tt _,h.1,h.2⟩
 exact h.closed
noncomputable def ZsF {α:Type} (enc:List Tok→Int→α→PV) (P:Ts→R α) (lo:Int) (d:Nat):ZA:=Wk fun rest L en dp a ts K=>match rest with
 | []=>(0<d∧dp=65 - (d:Int)∧0≤dp)∧∀x,P ts=x→RKk (enc L en) L en dp (a+lo) x K
 | _=>False
theorem ZbG {α:Type} (enc:List Tok→Int→α→PV) (P:Ts→R α) (lo:Int) (d:Nat):Zc (ZsF enc P lo d):=ZX fun rest L en dp a ts K K' hK h=>by
 exact m56
theorem Zel {α:Type} {enc:List Tok→Int→α→PV} {P:Ts→R α} {lo:Int} {g:FuncId} (h:Ve (GG w0 nG).P g):PCalls (GG w0 nG) g (ZsF enc P lo 0):=⟨h,fun args σ K hs=>by
 exfalso
 unfold ZsF Wk at hs
 split at hs
 ·obtain ⟨L,ts,_,_,hs⟩:=hs
  split at hs
  ·have:=hs.1.1;omega
  ·exact hs
 ·exact hs⟩
theorem _root_.Go.PM.PCalls.weaken1 {G:GE} {g:FuncId} {sp sp':ZA} (h:PCalls G g sp) (hw:∀args σ K,sp' args σ K→sp args σ K):PCalls G g sp':=⟨h.enters,fun args σ K hs=>h.calls args σ K (hw _ _ _ hs)⟩
theorem Zem {α:Type} {enc:List Tok→Int→α→PV} {P:Ts→R α} {lo:Int} {d:Nat} {g:FuncId} (h:PCalls (GG w0 nG) g (Zh8 enc P lo d)):PCalls (GG w0 nG) g (ZsF enc P lo (d+1)):=h.weaken1 fun args σ K hs=>by
 unfold ZsF Wk at hs
 unfold Zh8 Wk
 split at hs
 ·obtain ⟨L,ts,h1,h2,hs⟩:=hs
  refine ⟨L,ts,h1,h2,?_⟩
  split at hs
  ·exact ⟨by have:=hs.1.2;omega,hs.2⟩
  ·exact hs.elim
 ·exact hs
noncomputable def JN:ZA:=fun args σ K=>match args,σ with
 | [.d (.str w),.ptr 0 0],⟨[.cells t0 [.ptr 1 0],.cells t [.d (.sl rows),.d (.int .i64 a),.d (.int .i64 en),.d (.int .i64 dp)]],[],0⟩=>∃L ts,rows=Z8 L∧ROK L a ts ∧
   (isW ts [w]=true→ROK L (a+1) ts.tail→K (.ret (.d (.bool true))) ⟨[.cells t0 [.ptr 1 0],.cells t [.d (.sl (Z8 L)),.d (.int .i64 (a+1)),.d (.int .i64 en),.d (.int .i64 dp)]],[],0⟩) ∧
   (isW ts [w]=false→K (.ret (.d (.bool false))) ⟨[.cells t0 [.ptr 1 0],.cells t [.d (.sl (Z8 L)),.d (.int .i64 a),.d (.int .i64 en),.d (.int .i64 dp)]],[],0⟩)
 | _,_=>False
theorem Zc1:Zc JN:=fun args σ K K' hK h=>by
 unfold JN at h ⊢
 split at h
 ·obtain ⟨L,ts,h1,h2,h3,h4⟩:=h
  exact ⟨L,ts,h1,h2,fun g1 g2=>hK _ _ (h3 g1 g2),fun g=>hK _ _ (h4 g)⟩
 ·exact h.elim
noncomputable def Zk3:Tbl:=[(200,WP)]
theorem ZoK (ht:TblOK (GG w0 nG) Zk3):PCalls (GG w0 nG) 300 JN:=by
 refine pc ht Tryz.func300 ?_
 exact m64
theorem ZoL (ht:TblOK (GG w0 nG) Zk3):PCalls (GG w0 nG) 301 JN:=by
 refine pc ht Tryz.func301 ?_
 exact m64
noncomputable def ZmC:ZA:=fun args σ K=>match args,σ with
 | [.asl 0 0 n,.func g [] [.ptr 1 0]],⟨[.cells tA cs,.cells t0 [.ptr 2 0],.cells t [.d (.sl rows),.d (.int .i64 a),.d (.int .i64 en),.d (.int .i64 dp)]],[],0⟩=>∃L ts ws,rows=Z8 L∧ROK L a ts ∧
   ((ws=Z5∧g=300)∨(ws=YD∧g=301))∧n=ws.length∧cs=ws.map (fun w=>PV.d (.str w)) ∧
   (∀k:Nat,Zav ts 0 ws=some k→ROK L (a+1) ts.tail→K (.ret (.d (.int .i64 k))) ⟨[.cells tA cs,.cells t0 [.ptr 2 0],.cells t [.d (.sl (Z8 L)),.d (.int .i64 (a+1)),.d (.int .i64 en),.d (.int .i64 dp)]],[],0⟩) ∧
   (Zav ts 0 ws=none→K (.ret (.d (.int .i64 (-1)))) ⟨[.cells tA cs,.cells t0 [.ptr 2 0],.cells t [.d (.sl (Z8 L)),.d (.int .i64 a),.d (.int .i64 en),.d (.int .i64 dp)]],[],0⟩)
 | _,_=>False
theorem ZmD:Zc ZmC:=fun args σ K K' hK h=>by
 unfold ZmC at h ⊢
 split at h
 ·obtain ⟨L,ts,ws,h1,h2,h3,h4,h5,h6,h7⟩:=h
  exact ⟨L,ts,ws,h1,h2,h3,h4,h5,fun k g1 g2=>hK _ _ (h6 k g1 g2),fun g=>hK _ _ (h7 g)⟩
 ·exact h.elim
noncomputable def ZsG:Tbl:=[(300,JN),(301,JN)]
theorem ZxN (ht:TblOK (GG w0 nG) ZsG):PCalls (GG w0 nG) 253 ZmC:=by
 refine Zgl XG mixed (tbl:=ZsG) ht Tryz.func253 rfl (by kernel_rfl) (by kernel_rfl) ?_
 intro args σ K h
 unfold ZmC at h
 split at h
 ·rename_i n g tA cs t0 t rows a en dp
  obtain ⟨L,ts,ws,rfl,ho,hws,rfl,rfl,h1,h2⟩:=h
  refine ⟨Za [],ZaS [(2,8)],Vh [],3,false,by simp,Tb rfl,?_⟩
  rcases hws with ⟨rfl,rfl⟩ | ⟨rfl,rfl⟩
  ·conv=>whnf
   refine ⟨by decide,by decide,?_⟩
   conv=>whnf
   refine ⟨L,ts,rfl,ho,fun hw0 ho2=>?_,fun hw0=>?_⟩
   ·conv=>whnf
    exact h1 0 (by simp [Zav,Z5, *]) ho2
   conv=>whnf
   refine oiO ?_
   conv=>whnf
   refine ⟨by decide,by decide,?_⟩
   conv=>whnf
   refine ⟨L,ts,rfl,ho,fun hw1 ho2=>?_,fun hw1=>?_⟩
   ·conv=>whnf
    exact h1 1 (by simp [Zav,Z5, *]) ho2
   conv=>whnf
   refine oiO ?_
   conv=>whnf
   refine ⟨by decide,by decide,?_⟩
   conv=>whnf
   refine ⟨L,ts,rfl,ho,fun hw2 ho2=>?_,fun hw2=>?_⟩
   ·conv=>whnf
    exact h1 2 (by simp [Zav,Z5, *]) ho2
   conv=>whnf
   refine oiO ?_
   conv=>whnf
   refine ⟨by decide,by decide,?_⟩
   conv=>whnf
   refine ⟨L,ts,rfl,ho,fun hw3 ho2=>?_,fun hw3=>?_⟩
   ·conv=>whnf
    exact h1 3 (by simp [Zav,Z5, *]) ho2
   conv=>whnf
   refine oiO ?_
   conv=>whnf
   refine ⟨by decide,by decide,?_⟩
   conv=>whnf
   refine ⟨L,ts,rfl,ho,fun hw4 ho2=>?_,fun hw4=>?_⟩
   ·conv=>whnf
    exact h1 4 (by simp [Zav,Z5, *]) ho2
   conv=>whnf
   refine oiO ?_
   conv=>whnf
   refine ⟨by decide,by decide,?_⟩
   conv=>whnf
   refine ⟨L,ts,rfl,ho,fun hw5 ho2=>?_,fun hw5=>?_⟩
   ·conv=>whnf
    exact h1 5 (by simp [Zav,Z5, *]) ho2
   conv=>whnf
   refine oiO ?_
   conv=>whnf
   exact h2 (by simp [Zav,Z5, *])
  ·conv=>whnf
   refine ⟨by decide,by decide,?_⟩
   conv=>whnf
   refine ⟨L,ts,rfl,ho,fun hw0 ho2=>?_,fun hw0=>?_⟩
   ·conv=>whnf
    exact h1 0 (by simp [Zav,YD, *]) ho2
   conv=>whnf
   refine oiO ?_
   conv=>whnf
   refine ⟨by decide,by decide,?_⟩
   conv=>whnf
   refine ⟨L,ts,rfl,ho,fun hw1 ho2=>?_,fun hw1=>?_⟩
   ·conv=>whnf
    exact h1 1 (by simp [Zav,YD, *]) ho2
   conv=>whnf
   refine oiO ?_
   conv=>whnf
   refine ⟨by decide,by decide,?_⟩
   conv=>whnf
   refine ⟨L,ts,rfl,ho,fun hw2 ho2=>?_,fun hw2=>?_⟩
   ·conv=>whnf
    exact h1 2 (by simp [Zav,YD, *]) ho2
   conv=>whnf
   refine oiO ?_
   conv=>whnf
   refine ⟨by decide,by decide,?_⟩
   conv=>whnf
   refine ⟨L,ts,rfl,ho,fun hw3 ho2=>?_,fun hw3=>?_⟩
   ·conv=>whnf
    exact h1 3 (by simp [Zav,YD, *]) ho2
   conv=>whnf
   refine oiO ?_
   conv=>whnf
   exact h2 (by simp [Zav,YD, *])
 ·exact h.elim
end Go.PM.Lex
end

section
namespace Go.PM.Lex
open Go.Proofs
variable {w0:World} {nG:Nat}
def Zgy:Nat→Ts→R Ex
 | 0=>fun _=>.err 0 150
 | d+1=>YN d
theorem Zro (d:Nat):Zcn d=fun ts=>Vm (Zgy d) 6 1 ts:=by cases d <;> rfl
theorem ZmE (d:Nat) (ts:Ts):YN d ts=JI d (Zgy d) ts:=by cases d <;> rfl
theorem ZmF {ts:Ts} (h:Z1 ts=true):ts≠[]:=by rintro rfl;simp [Z1,hd] at h
noncomputable abbrev ZjY (d:Nat):ZA:=ZsF (fun L en (v:Ex)=>ZbC (Yh (Zd L en) v)) (Zcn d) 0 d
noncomputable abbrev Zib (d:Nat):ZA:=ZsF (fun L en (v:Ex)=>ZbC (Yh (Zd L en) v)) (Zgy d) 0 d
noncomputable abbrev Zen (d:Nat):ZA:=Zh8 (fun L en (v:Ex)=>ZbC (Yh (Zd L en) v)) (VB d) 0 d
noncomputable abbrev Zdw (d:Nat):ZA:=Zh8 (fun L en (v:Ex)=>ZbC (Yh (Zd L en) v)) (YN d) 0 d
noncomputable abbrev ZbH (d:Nat):ZA:=Zh8 (fun L en (v:Ex)=>ZbC (Yh (Zd L en) v)) (UW d (Zcn d)) 0 d
noncomputable def Zc2 (d:Nat):ZA:=Wk fun rest L en dp a ts K=>match rest with
 | [.d (.str fr),.d (.str tw)]=>((dp=64 - (d:Int)∧0≤dp)∧tw≠[])∧∀x,Zdm d (Zcn d) fr tw ts=x→RKk (fun (l:List Ex)=>.d (.sl (l.map (Yh (Zd L en))))) L en dp a x K
 | _=>False
theorem Za1 (d:Nat):Zc (Zc2 d):=ZX fun rest L en dp a ts K K' hK h=>by
 exact m56
noncomputable def Zic (d:Nat):ZA:=Wk fun rest L en dp a ts K=>match rest with
 | [.agg [.d (.int .u8 op),.d (.str []),.d (.int .i64 n),.nils e,.d (.int .i64 at')]]=>((dp=64 - (d:Int)∧0≤dp)∧n=0∧e=24)∧∃o:Nat,op=(o:Int)∧∀x,Zq d [40] [41] (Vl (Zcn d) (ZbA o) []) ts=x →
   RKk (fun (l:List Ex)=>.agg [.d (.int .u8 op),.d (.str []),.d (.int .i64 0),.d (.sl (l.map (Yh (Zd L en)))),.d (.int .i64 at')]) L en dp a x K
 | _=>False
theorem ZjZ (d:Nat):Zc (Zic d):=ZX fun rest L en dp a ts K K' hK h=>by
 split at h
 ·obtain ⟨h0,o,h1,h2⟩:=h
  exact ⟨h0,o,h1,fun x hx=>YE hK (h2 x hx)⟩
 ·exact h.elim
noncomputable def WQ (d:Nat):ZA:=fun args σ K=>match args,σ with
 | [.ptr 0 0,.d (.str sg),.d (.int .i64 m),.func g1 [.ptr 0 0] [],.func g2 [.ptr 0 0] []],⟨[.cells t [.d (.sl rows),.d (.int .i64 a),.d (.int .i64 en),.d (.int .i64 dp)]],[],0⟩ =>
   (sg=[44]∧m=12∧g1=262∧g2=35∧0<d∧dp=65 - (d:Int)∧0≤dp)∧∃L ts,rows=Z8 L∧ROK L a ts∧∀x,Ww [44] 12 Z1 (Zcn d) ts=x →
    RKk (fun (l:List Ex)=>.d (.sl (l.map (Yh (Zd L en))))) L en dp a x fun pe a' dp'=>K pe ⟨[.cells t [.d (.sl (Z8 L)),.d (.int .i64 a'),.d (.int .i64 en),.d (.int .i64 dp')]],[],0⟩
 | _,_=>False
theorem Zfm (d:Nat):Zc (WQ d):=fun args σ K K' hK h=>by
 unfold WQ at h ⊢
 exact m53
noncomputable def Zk4 (d:Nat):Tbl:=[(136,Zhl),(261,WQ d)]
noncomputable def Zk5 (d:Nat):Tbl:=[(136,Zhl),(143,X9),(81,Xq),(260,ZjX Tryz.f260 (Zk4 d))]
noncomputable def Zt4 (d:Nat):Tbl:=[(204,ZjX Tryz.f204 (Zk5 d))]
theorem Zt5 {d:Nat} (ht:TblOK (GG w0 nG) (Zt4 d)):PCalls (GG w0 nG) 207 (Zc2 d):=by
 refine pc ht Tryz.func207 ?_
 intro args σ K h
 unfold Zc2 Wk at h
 split at h
 ·rename_i rest t rows a en dp
  obtain ⟨L,ts,rfl,ho,h⟩:=h
  split at h
  ·rename_i fr tw
   obtain ⟨⟨hdp,hto⟩,h⟩:=h
   have h0:=ho.lo
   have h1:=ho.hi
   have h2:=ho.big
   refine ⟨Za [],1,false,by simp,Tb rfl,?_⟩
   have h:=h _ rfl
   unfold Zdm at h
   conv=>whnf
   refine ⟨_,fun _ _ h=>h,Tb rfl,?_⟩
   conv=>whnf
   refine ⟨L,ts,rfl,ho,[fr],rfl,by simp,fun b hw1=>?_⟩
   cases b with
   | false =>
    exact m192
   | true =>
    rw [Zq,Th hw1] at h
    conv=>whnf
    refine ZCX (fun hc=>?_) (fun hc=>?_)
    ·exact m172
    ·rw [Tf (by omega)] at h
     conv=>whnf
     refine ⟨L,ts,rfl,ho,fun x hx=>?_⟩
     rw [Yo,Th hw1] at hx
     subst hx
     intro a1 hle1 ho1
     have hb1:=ho1.hi
     conv=>whnf
     refine oiO ?_
     conv=>whnf
     refine ⟨_,fun _ _ h=>h,Tb rfl,?_⟩
     conv=>whnf
     refine ⟨L,ts.tail,rfl,ho1,[tw],rfl,by simp,fun b hw4=>?_⟩
     have hgo:∀(x:R (List Ex)),(if isW ts.tail [tw]=true then R.ok [] ts.tail else Ww [44] 12 Z1 (Zcn d) ts.tail)=x→True:=fun _ _=>trivial
     cases b with
     | true =>
      rw [Th hw4,R.bind_ok] at h
      conv=>whnf
      have ho2:=ho1
      refine ZCY (fun _=>?_) (fun g=>absurd g hto)
      conv=>whnf
      rw [Tf hto] at h
      refine ⟨L,ts.tail,rfl,ho1,fun x hx3=>?_⟩
      exact m22
     | false =>
      rw [Tf (by rw [hw4];simp)] at h
      conv=>whnf
      refine ⟨⟨rfl,rfl,rfl,rfl,by omega,by omega,by omega⟩,L,ts.tail,rfl,ho1,fun x hx2=>?_⟩
      rcases x with ⟨v2,ts2⟩ | ⟨r2,e2⟩
      rotate_left
      ·exact m51
      rw [hx2,R.bind_ok] at h
      intro a2 hle2 ho2
      have hb2:=ho2.hi
      conv=>whnf
      refine ZCY (fun _=>?_) (fun g=>absurd g hto)
      conv=>whnf
      rw [Tf hto] at h
      refine ⟨L,ts2,rfl,ho2,fun x hx3=>?_⟩
      exact m22
  ·exact h.elim
 ·exact h.elim
end Go.PM.Lex
end

section
namespace Go.PM.Lex
open Go.Proofs
variable {w0:World} {nG:Nat}
theorem Ut (ex:Ts→R Ex) (k:Nat) (l:List Ex) (ts:Ts):Vl ex (k+1) l ts=(if l=[] then .ok () ts else Yo [44] ts).bind fun _ ts=>(ex ts).bind fun e ts=>Vl ex k (l++[e]) ts:=rfl
noncomputable def Zk6 (d:Nat):Tbl:=[(143,X9),(35,ZjY d)]
noncomputable def Zk7 (d:Nat):Tbl:=[(136,Zhl),(143,X9),(81,Xq),(313,Zt3 Tryz.f313 (ZaS [(1,5)]) (Zk6 d))]
noncomputable def Zt6 (d:Nat):Tbl:=[(204,ZjX Tryz.f204 (Zk7 d))]
theorem Zt7 {d:Nat} (ht:TblOK (GG w0 nG) (Zt6 d)):PCalls (GG w0 nG) 283 (Zic d):=by
 refine pc ht Tryz.func283 ?_
 intro args σ K h
 unfold Zic Wk at h
 split at h
 ·rename_i rest t rows a en dp
  obtain ⟨L,ts,rfl,ho,h⟩:=h
  split at h
  ·rename_i op n e at'
   obtain ⟨⟨hdp,rfl,rfl⟩,o,rfl,h⟩:=h
   have h:=h _ rfl
   have h0:=ho.lo
   have h1:=ho.hi
   have h2:=ho.big
   refine ⟨Za [],1,false,by simp,Tb rfl,?_⟩
   conv=>whnf
   refine ZCX (fun hop=>?_) (fun hop=>?_)
   ·obtain rfl:o=22:=by omega
    have har:ZbA 22=3:=rfl
    conv=>whnf
    refine oiD ?_
    conv=>whnf
    refine oiD ?_
    conv=>whnf
    rw [har] at h
    refine ⟨_,fun _ _ h=>h,Tb rfl,?_⟩
    conv=>whnf
    refine ⟨L,ts,rfl,ho,[[40]],rfl,by simp,fun b hw1=>?_⟩
    cases b with
    | false =>
     exact m192
    | true =>
     rw [Zq,Th hw1] at h
     conv=>whnf
     refine ZCX (fun hc=>?_) (fun hc=>?_)
     ·exact m172
     ·rw [Tf (by omega)] at h
      conv=>whnf
      refine ⟨L,ts,rfl,ho,fun x hx=>?_⟩
      rw [Yo,Th hw1] at hx
      subst hx
      intro a1 hle1 ho1
      have hb1:=ho1.hi
      conv=>whnf
      refine oiO ?_
      conv=>whnf
      refine ⟨_,fun _ _ h=>h,Tb rfl,?_⟩
      conv=>whnf
      rw [Ut] at h
      rw [Th rfl,R.bind_ok] at h
      refine ⟨L,ts.tail,rfl,ho1,⟨by omega,by omega,by omega⟩,fun x hx10=>?_⟩
      rcases x with ⟨v10,ts10⟩ | ⟨r10,e10⟩
      rotate_left
      ·exact m135
      rw [hx10,R.bind_ok] at h
      intro a10 hle10 ho10
      have hb10:=ho10.hi
      obtain ⟨v10a,v10b,v10c,v10d,v10e⟩:=v10
      conv=>whnf
      refine ⟨rfl,rfl,Tb rfl,Tb rfl,?_⟩
      conv=>whnf
      repeat (refine ⟨rfl,?_⟩;conv=>whnf)
      refine oiD ?_
      conv=>whnf
      rw [Ut] at h
      rw [Tf (by simp)] at h
      refine ⟨L,ts10,rfl,ho10,fun x hx11=>?_⟩
      rcases x with ⟨v11,ts11⟩ | ⟨r11,e11⟩
      rotate_left
      ·rw [hx11,R.bind_err,R.bind_err] at h;intro a9 d9;(conv=>whnf);exact h _ _
      rw [hx11,R.bind_ok] at h
      intro a11 hle11 ho11
      have hb11:=ho11.hi
      conv=>whnf
      refine ⟨L,ts11,rfl,ho11,⟨by omega,by omega,by omega⟩,fun x hx12=>?_⟩
      rcases x with ⟨v12,ts12⟩ | ⟨r12,e12⟩
      rotate_left
      ·rw [hx12,R.bind_err,R.bind_err] at h;intro a9 d9;(conv=>whnf);exact h _ _
      rw [hx12,R.bind_ok] at h
      intro a12 hle12 ho12
      have hb12:=ho12.hi
      obtain ⟨v12a,v12b,v12c,v12d,v12e⟩:=v12
      conv=>whnf
      refine ⟨rfl,rfl,Tb rfl,Tb rfl,?_⟩
      conv=>whnf
      repeat (refine ⟨rfl,?_⟩;conv=>whnf)
      refine oiD ?_
      conv=>whnf
      rw [Ut] at h
      rw [Tf (by simp)] at h
      refine ⟨L,ts12,rfl,ho12,fun x hx13=>?_⟩
      rcases x with ⟨v13,ts13⟩ | ⟨r13,e13⟩
      rotate_left
      ·rw [hx13,R.bind_err,R.bind_err] at h;intro a9 d9;(conv=>whnf);exact h _ _
      rw [hx13,R.bind_ok] at h
      intro a13 hle13 ho13
      have hb13:=ho13.hi
      conv=>whnf
      refine ⟨L,ts13,rfl,ho13,⟨by omega,by omega,by omega⟩,fun x hx14=>?_⟩
      rcases x with ⟨v14,ts14⟩ | ⟨r14,e14⟩
      rotate_left
      ·rw [hx14,R.bind_err,R.bind_err] at h;intro a9 d9;(conv=>whnf);exact h _ _
      rw [hx14,R.bind_ok] at h
      intro a14 hle14 ho14
      have hb14:=ho14.hi
      obtain ⟨v14a,v14b,v14c,v14d,v14e⟩:=v14
      conv=>whnf
      refine ⟨rfl,rfl,Tb rfl,Tb rfl,?_⟩
      conv=>whnf
      repeat (refine ⟨rfl,?_⟩;conv=>whnf)
      refine oiD ?_
      conv=>whnf
      rw [Vl] at h
      rw [R.bind_ok] at h
      have hx99:ts14=ts14:=rfl
      have ho2:=ho14
      obtain ⟨ts2,hts2⟩:∃t,t=ts14:=⟨_,rfl⟩
      rw [← hts2] at h ho2
      exact m181
   conv=>whnf
   refine ZCX (fun hop2=>?_) (fun hop2=>?_)
   ·obtain rfl:o=20:=by omega
    have har:ZbA 20=2:=rfl
    conv=>whnf
    refine oiD ?_
    conv=>whnf
    rw [har] at h
    refine ⟨_,fun _ _ h=>h,Tb rfl,?_⟩
    conv=>whnf
    refine ⟨L,ts,rfl,ho,[[40]],rfl,by simp,fun b hw1=>?_⟩
    cases b with
    | false =>
     exact m192
    | true =>
     rw [Zq,Th hw1] at h
     conv=>whnf
     refine ZCX (fun hc=>?_) (fun hc=>?_)
     ·exact m172
     ·rw [Tf (by omega)] at h
      conv=>whnf
      refine ⟨L,ts,rfl,ho,fun x hx=>?_⟩
      rw [Yo,Th hw1] at hx
      subst hx
      intro a1 hle1 ho1
      have hb1:=ho1.hi
      conv=>whnf
      refine oiO ?_
      conv=>whnf
      refine ⟨_,fun _ _ h=>h,Tb rfl,?_⟩
      conv=>whnf
      rw [Ut] at h
      rw [Th rfl,R.bind_ok] at h
      refine ⟨L,ts.tail,rfl,ho1,⟨by omega,by omega,by omega⟩,fun x hx10=>?_⟩
      rcases x with ⟨v10,ts10⟩ | ⟨r10,e10⟩
      rotate_left
      ·exact m135
      rw [hx10,R.bind_ok] at h
      intro a10 hle10 ho10
      have hb10:=ho10.hi
      obtain ⟨v10a,v10b,v10c,v10d,v10e⟩:=v10
      conv=>whnf
      refine ⟨rfl,rfl,Tb rfl,Tb rfl,?_⟩
      conv=>whnf
      repeat (refine ⟨rfl,?_⟩;conv=>whnf)
      refine oiD ?_
      conv=>whnf
      rw [Ut] at h
      rw [Tf (by simp)] at h
      refine ⟨L,ts10,rfl,ho10,fun x hx11=>?_⟩
      rcases x with ⟨v11,ts11⟩ | ⟨r11,e11⟩
      rotate_left
      ·rw [hx11,R.bind_err,R.bind_err] at h;intro a9 d9;(conv=>whnf);exact h _ _
      rw [hx11,R.bind_ok] at h
      intro a11 hle11 ho11
      have hb11:=ho11.hi
      conv=>whnf
      refine ⟨L,ts11,rfl,ho11,⟨by omega,by omega,by omega⟩,fun x hx12=>?_⟩
      rcases x with ⟨v12,ts12⟩ | ⟨r12,e12⟩
      rotate_left
      ·rw [hx12,R.bind_err,R.bind_err] at h;intro a9 d9;(conv=>whnf);exact h _ _
      rw [hx12,R.bind_ok] at h
      intro a12 hle12 ho12
      have hb12:=ho12.hi
      obtain ⟨v12a,v12b,v12c,v12d,v12e⟩:=v12
      conv=>whnf
      refine ⟨rfl,rfl,Tb rfl,Tb rfl,?_⟩
      conv=>whnf
      repeat (refine ⟨rfl,?_⟩;conv=>whnf)
      refine oiD ?_
      conv=>whnf
      rw [Vl] at h
      rw [R.bind_ok] at h
      have hx99:ts12=ts12:=rfl
      have ho2:=ho12
      obtain ⟨ts2,hts2⟩:∃t,t=ts12:=⟨_,rfl⟩
      rw [← hts2] at h ho2
      exact m181
   have har:ZbA o=1:=by rw [ZbA,Tf (by omega),Tf (by omega)]
   conv=>whnf
   rw [har] at h
   refine ⟨_,fun _ _ h=>h,Tb rfl,?_⟩
   conv=>whnf
   refine ⟨L,ts,rfl,ho,[[40]],rfl,by simp,fun b hw1=>?_⟩
   cases b with
   | false =>
    exact m192
   | true =>
    rw [Zq,Th hw1] at h
    conv=>whnf
    refine ZCX (fun hc=>?_) (fun hc=>?_)
    ·exact m172
    ·rw [Tf (by omega)] at h
     conv=>whnf
     refine ⟨L,ts,rfl,ho,fun x hx=>?_⟩
     rw [Yo,Th hw1] at hx
     subst hx
     intro a1 hle1 ho1
     have hb1:=ho1.hi
     conv=>whnf
     refine oiO ?_
     conv=>whnf
     refine ⟨_,fun _ _ h=>h,Tb rfl,?_⟩
     conv=>whnf
     rw [Ut] at h
     rw [Th rfl,R.bind_ok] at h
     refine ⟨L,ts.tail,rfl,ho1,⟨by omega,by omega,by omega⟩,fun x hx10=>?_⟩
     rcases x with ⟨v10,ts10⟩ | ⟨r10,e10⟩
     rotate_left
     ·exact m135
     rw [hx10,R.bind_ok] at h
     intro a10 hle10 ho10
     have hb10:=ho10.hi
     obtain ⟨v10a,v10b,v10c,v10d,v10e⟩:=v10
     conv=>whnf
     refine ⟨rfl,rfl,Tb rfl,Tb rfl,?_⟩
     conv=>whnf
     repeat (refine ⟨rfl,?_⟩;conv=>whnf)
     refine oiD ?_
     conv=>whnf
     rw [Vl] at h
     rw [R.bind_ok] at h
     have hx99:ts10=ts10:=rfl
     have ho2:=ho10
     obtain ⟨ts2,hts2⟩:∃t,t=ts10:=⟨_,rfl⟩
     rw [← hts2] at h ho2
     exact m181
  ·exact h.elim
 ·exact h.elim
end Go.PM.Lex
end

section
namespace Go.PM.Lex
open Go.Proofs
variable {w0:World} {nG:Nat}
noncomputable def Zk8 (d:Nat):Tbl:=[(35,ZjY d)]
noncomputable def Zk9 (d:Nat):Tbl:=[(136,Zhl),(143,X9),(81,Xq),(282,ZjX Tryz.f282 (Zk8 d))]
noncomputable def ZoM (d:Nat):Tbl:=[(262,Zag Z1),(81,Xq),(198,Zax),(204,ZjX Tryz.f204 (Zk9 d)),(207,Zc2 d),(142,Wx),(136,Zhl),(212,Vn),(283,Zic d)]
theorem ZmG {d:Nat} (ht:TblOK (GG w0 nG) (ZoM d)):PCalls (GG w0 nG) 229 (ZbH d):=by
 refine ZjA XG mixed (tbl:=ZoM d) ht Tryz.func229 rfl (by kernel_rfl) (by kernel_rfl) ?_
 intro args σ K h
 unfold ZbH Zh8 Wk at h
 split at h
 ·rename_i rest t rows a en dp
  obtain ⟨L,ts,rfl,ho,h⟩:=h
  split at h
  ·obtain ⟨hdp,h⟩:=h
   have h0:=ho.lo
   have h1:=ho.hi
   have h2:=ho.big
   refine ⟨Za [],ZaS [],Vh [],Vh [],Vh [283],1,false,by simp,Tb rfl,?_⟩
   have h:=h _ rfl
   conv=>whnf
   refine ⟨L,ts,rfl,ho,fun b hst=>?_⟩
   cases b with
   | false =>
    rw [UW,Th hst] at h
    conv=>whnf
    refine ⟨L,ts,rfl,ho,?_⟩
    exact m55
   | true =>
    rw [UW,Tf (by rw [hst];simp)] at h
    have hot:=ho.tl (ZmF hst)
    have hbt:=hot.hi
    conv=>whnf
    refine ⟨L,ts,rfl,ho,fun fin=>Or.inl ⟨rfl,?_⟩⟩
    conv=>whnf
    refine ZCX (fun hc=>?_) (fun hc=>?_)
    ·rw [Th (show (hd ts).kind=2 by omega)] at h
     exact m95
    rw [Tf (show ¬(hd ts).kind=2 by omega)] at h
    conv=>whnf
    refine ZCX (fun hc=>?_) (fun hc=>?_)
    ·rw [Th (show (hd ts).kind=3 by omega)] at h
     exact m95
    rw [Tf (show ¬(hd ts).kind=3 by omega)] at h
    conv=>whnf
    refine ZCX (fun hc=>?_) (fun hc=>?_)
    ·rw [Th (show (hd ts).text=[40] from hc)] at h
     conv=>whnf
     refine ⟨_,fun _ _ h=>h,Tb rfl,?_⟩
     conv=>whnf
     refine ⟨L,ts,rfl,ho,[[40]],rfl,by simp,fun b hw1=>?_⟩
     cases b with
     | false =>
      exact m192
     | true =>
      rw [Zq,Th hw1] at h
      conv=>whnf
      refine ZCX (fun hc=>?_) (fun hc=>?_)
      ·exact m172
      ·rw [Tf (by omega)] at h
       conv=>whnf
       refine ⟨L,ts,rfl,ho,fun x hx=>?_⟩
       rw [Yo,Th hw1] at hx
       subst hx
       intro a1 hle1 ho1
       have hb1:=ho1.hi
       conv=>whnf
       refine oiO ?_
       conv=>whnf
       refine ⟨_,fun _ _ h=>h,Tb rfl,?_⟩
       conv=>whnf
       refine ⟨L,ts.tail,rfl,ho1,⟨by omega,by omega,by omega⟩,fun x hx2=>?_⟩
       rcases x with ⟨v2,ts2⟩ | ⟨r2,e2⟩
       rotate_left
       ·exact m51
       rw [hx2,R.bind_ok] at h
       intro a2 hle2 ho2
       have hb2:=ho2.hi
       obtain ⟨v2a,v2b,v2c,v2d,v2e⟩:=v2
       conv=>whnf
       exact m181
    rw [Tf (show ¬(hd ts).text=[40] from hc)] at h
    conv=>whnf
    refine ZCX (fun hc=>?_) (fun hc=>?_)
    ·rw [Th (show (hd ts).text=[91] from hc)] at h
     conv=>whnf
     refine ⟨L,ts,rfl,ho,⟨hdp,by simp⟩,fun x hx1=>?_⟩
     rcases x with ⟨v1,ts1⟩ | ⟨r1,e1⟩
     rotate_left
     ·exact m58
     rw [hx1,R.bind_ok] at h
     intro a1 hle1 ho1
     have hb1:=ho1.hi
     conv=>whnf
     rw [← Zf]
     exact h _ (by omega) ho1
    rw [Tf (show ¬(hd ts).text=[91] from hc)] at h
    conv=>whnf
    refine ZCX (fun hc=>?_) (fun hc=>?_)
    ·rw [Th (show (hd ts).text=[36] from hc)] at h
     conv=>whnf
     refine oiO ?_
     conv=>whnf
     refine ⟨L,ts.tail,rfl,hot,fun x hx1=>?_⟩
     rcases x with ⟨v1,ts1⟩ | ⟨r1,e1⟩
     rotate_left
     ·exact m58
     rw [hx1,R.bind_ok] at h
     intro a1 hle1 ho1
     have hb1:=ho1.hi
     conv=>whnf
     refine ⟨L,ts1,rfl,ho1,[[40]],rfl,by simp,fun b hw2=>?_⟩
     cases b with
     | false =>
      rw [Tf (by rw [hw2];simp)] at h
      conv=>whnf
      exact h _ (by omega) ho1
     | true =>
      rw [Th hw2] at h
      conv=>whnf
      refine ⟨L,ts1,rfl,ho1,⟨hdp,by simp⟩,fun x hx3=>?_⟩
      rcases x with ⟨v3,ts3⟩ | ⟨r3,e3⟩
      rotate_left
      ·exact m31
      exact m139
    rw [Tf (show ¬(hd ts).text=[36] from hc)] at h
    conv=>whnf
    intro n hn
    conv=>whnf
    refine ZCY (fun hc=>?_) (fun hc=>?_)
    ·rw [Th (show Yk (hd ts).text≠0 by omega)] at h
     conv=>whnf
     refine oiO ?_
     conv=>whnf
     intro n2 hn2
     conv=>whnf
     refine ⟨L,ts.tail,rfl,hot,⟨hdp,rfl,rfl⟩,Yk (hd ts).text,hn2.symm,fun x hx1=>?_⟩
     rcases x with ⟨v1,ts1⟩ | ⟨r1,e1⟩
     rotate_left
     ·exact m58
     rw [hx1,R.bind_ok] at h
     intro a1 hle1 ho1
     have hb1:=ho1.hi
     conv=>whnf
     rw [← hn2,← Zf]
     exact h _ (by omega) ho1
    rw [Tf (show ¬Yk (hd ts).text≠0 by omega)] at h
    conv=>whnf
    refine ZCX (fun hc=>?_) (fun hc=>?_)
    ·rw [Th (show (hd ts).text=[110,105,108] from hc)] at h
     conv=>whnf
     refine oiO ?_
     conv=>whnf
     exact h _ (by omega) hot
    rw [Tf (show ¬(hd ts).text=[110,105,108] from hc)] at h
    conv=>whnf
    refine ZCX (fun hc=>?_) (fun hc=>?_)
    ·rw [Th (show (hd ts).text=[95] from hc)] at h
     conv=>whnf
     refine oiO ?_
     conv=>whnf
     exact h _ (by omega) hot
    rw [Tf (show ¬(hd ts).text=[95] from hc)] at h
    exact m95
  ·exact h.elim
 ·exact h.elim
noncomputable def Zla (d:Nat):Tbl:=[(161,Zib d)]
noncomputable def Zlb (d:Nat):Tbl:=[(136,Zhl),(143,X9),(81,Xq),(228,ZjX Tryz.f228 (Zla d))]
noncomputable def Zlc (d:Nat):Tbl:=[(141,WX),(136,Zhl),(204,ZjX Tryz.f204 (Zlb d)),(229,ZbH d)]
theorem ZoN {d:Nat} (ht:TblOK (GG w0 nG) (Zlc d)):PCalls (GG w0 nG) 161 (Zdw d):=by
 refine Zgl XG mixed (tbl:=Zlc d) ht Tryz.func161 rfl (by kernel_rfl) (by kernel_rfl) ?_
 intro args σ K h
 unfold Zdw Zh8 Wk at h
 split at h
 ·rename_i rest t rows a en dp
  obtain ⟨L,ts,rfl,ho,h⟩:=h
  split at h
  ·obtain ⟨hdp,h⟩:=h
   have h0:=ho.lo
   have h1:=ho.hi
   have h2:=ho.big
   refine ⟨Za [],ZaS [(3,4)],Vh [],1,false,by simp,Tb rfl,?_⟩
   have h:=h _ rfl
   rw [ZmE,JI] at h
   conv=>whnf
   refine ⟨L,ts,rfl,ho,?_⟩
   conv=>whnf
   refine ⟨by decide,by decide,?_⟩
   conv=>whnf
   refine ⟨L,ts,rfl,ho,[[45]],rfl,by simp,fun b hw8=>?_⟩
   cases b with
   | true =>
    rw [Th hw8] at h
    conv=>whnf
    refine ⟨_,fun _ _ h=>h,Tb rfl,?_⟩
    conv=>whnf
    refine ⟨L,ts,rfl,ho,[[45]],rfl,by simp,fun b hw1=>?_⟩
    exact m24
   | false =>
    rw [Tf (by rw [hw8];simp)] at h
    conv=>whnf
    refine oiD ?_
    conv=>whnf
    refine ⟨by decide,by decide,?_⟩
    conv=>whnf
    refine ⟨L,ts,rfl,ho,[[126]],rfl,by simp,fun b hw9=>?_⟩
    cases b with
    | true =>
     rw [Th hw9] at h
     conv=>whnf
     refine ⟨_,fun _ _ h=>h,Tb rfl,?_⟩
     conv=>whnf
     refine ⟨L,ts,rfl,ho,[[126]],rfl,by simp,fun b hw1=>?_⟩
     exact m24
    | false =>
     rw [Tf (by rw [hw9];simp)] at h
     conv=>whnf
     refine oiD ?_
     conv=>whnf
     rw [show Vm (Zgy d) 6 1=Zcn d from (Zro d).symm] at h
     refine ⟨L,ts,rfl,ho,hdp,fun x hx1=>?_⟩
     exact m82
  ·exact h.elim
 ·exact h.elim
noncomputable def Zeo (d j:Nat):ZA:=Wk fun rest L en dp a ts K=>match rest with
 | [.d (.int .i64 least)]=>((dp=64 - (d:Int)∧0≤dp)∧1≤least∧least≤6∧6≤least+(j:Int))∧∀x,Vm (YN d) j least.toNat ts=x→RKk (fun (v:Ex)=>ZbC (Yh (Zd L en) v)) L en dp a x K
 | _=>False
theorem Zj0 (d j:Nat):Zc (Zeo d j):=ZX fun rest L en dp a ts K K' hK h=>by
 exact m56
noncomputable def Zcq (d j:Nat):ZA:=Wk fun rest L en dp a ts K=>match rest with
 | [.d (.int .i64 least)]=>((dp=64 - (d:Int)∧0≤dp)∧0<j∧1≤least∧least≤6∧7≤least+(j:Int))∧∀x,Vm (YN d) (j - 1) least.toNat ts=x→RKk (fun (v:Ex)=>ZbC (Yh (Zd L en) v)) L en dp a x K
 | _=>False
theorem Zc3 (d j:Nat):Zc (Zcq d j):=ZX fun rest L en dp a ts K K' hK h=>by
 exact m56
theorem ZoO (ts:Ts):(Zaf ts).1≤5∧(Zaf ts).2≤255:=by
 unfold Zaf
 repeat' (first | (split;decide) | split)
 all_goals decide
theorem Zid (sub : Nat → Ts → R Ex) (least f : Nat) (e : Ex) (ts : Ts) : JH sub least (f + 1) e ts = if (Zaf ts).1 < least ∨ (Zaf ts).1 = 0 then .ok e ts
      else (sub ((Zaf ts).1+1) ts.tail).bind fun g ts'=>JH sub least f (.mk (Zaf ts).2 [] 0 [e,g] e.at') ts':=rfl
theorem ZmH {sub:Nat→Ts→R Ex} {least f:Nat} {e:Ex} {ts:Ts} (h:6≤least):JH sub least (f+1) e ts=.ok e ts:=by
 rw [Zid,Th];have:=(ZoO ts).1;omega
theorem Zt8 {ts:Ts} (h:(Zaf ts).1≠0):ts≠[]:=by rintro rfl;exact h rfl
theorem Zrp (sg:Ts→R Ex) (j least:Nat) (ts:Ts) (h:6≤least+j):Vm sg j least ts=(sg ts).bind fun e ts=>JH (Vm sg (j - 1)) least (ts.length+1) e ts:=by
 cases j with
 | zero =>
  rw [Vm]
  cases sg ts with
  | ok e ts=>rw [R.bind_ok,ZmH (by omega)]
  | err r e=>rfl
 | succ j=>rfl
noncomputable def Zt9 (d j:Nat):Tbl:=[(161,Zdw d),(162,ZoA),(82,Zcq d j)]
theorem ZoP {d j:Nat} (ht:TblOK (GG w0 nG) (Zt9 d j)):PCalls (GG w0 nG) 82 (Zeo d j):=by
 refine pc ht Tryz.func82 ?_
 intro args σ K h
 unfold Zeo Wk at h
 split at h
 ·rename_i rest t rows a en dp
  obtain ⟨L,ts,rfl,ho,h⟩:=h
  split at h
  ·rename_i least
   obtain ⟨⟨hdp,hl1,hl2,hl3⟩,h⟩:=h
   have h0:=ho.lo
   have h1:=ho.hi
   have h2:=ho.big
   refine ⟨Za [(2,⟨[],[0,1,4,5],fun vs σ=>∃(u1:Nat) (u2:Bs) (u3:Int) (u4:List Ex) (u5:Nat) (a':Int) (ts':Ts) (f:Nat),vs=[]∧σ=⟨[.cells t [.d (.sl (Z8 L)),.d (.int .i64 a'),.d (.int .i64 en),.d (.int .i64 dp)],.cells 24 [.d (.int .u8 0),.d (.str []),.d (.int .i64 0),.sl 0 24 [],.d (.int .i64 0)],.cells 24 [.d (.int .u8 u1),.d (.str u2),.d (.int .i64 u3),.d (.sl (Yi (Zd L en) u4)),.d (.int .i64 (Zd L en u5))]],[0],1⟩∧ROK L a' ts'∧a≤a'∧ts'.length<f∧RKk (fun (v:Ex)=>ZbC (Yh (Zd L en) v)) L en dp a (JH (Vm (YN d) (j - 1)) least.toNat f (.mk u1 u2 u3 u4 u5) ts') (fun pe a' dp'=>K pe ⟨[.cells t [.d (.sl (Z8 L)),.d (.int .i64 a'),.d (.int .i64 en),.d (.int .i64 dp')]],[],0⟩),fun _ σ=>match σ with | ⟨.cells _ [_,.d (.int _ i),_,_]::_,_,_⟩=>((L.length:Int) - i).toNat | _=>0⟩)],1,false,by simp,Tb rfl,?_⟩
   have h:=h _ rfl
   rw [Zrp _ _ _ _ (by omega)] at h
   conv=>whnf
   refine ⟨L,ts,rfl,ho,hdp,fun x hx1=>?_⟩
   rcases x with ⟨v1,ts1⟩ | ⟨r1,e1⟩
   rotate_left
   ·exact m58
   rw [hx1,R.bind_ok] at h
   intro a1 hle1 ho1
   have hb1:=ho1.hi
   obtain ⟨v1a,v1b,v1c,v1d,v1e⟩:=v1
   conv=>whnf
   refine ⟨⟨v1a,v1b,v1c,v1d,v1e,a1,ts1,ts1.length+1,rfl,rfl,ho1,by omega,by omega,h⟩,?_⟩
   clear h hx1 ho1 hb1 hle1
   intro vs σ hI
   obtain ⟨u1,u2,u3,u4,u5,a',ts',f,rfl,rfl,ho',hle',hf,h⟩:=hI
   obtain ⟨f,rfl⟩:∃g,f=g+1:=⟨f - 1,by omega⟩
   rw [Zid] at h
   have hhi':=ho'.hi
   have hlen':=ho'.len
   conv=>whnf
   refine ⟨L,ts',rfl,ho',fun n op hn hop=>?_⟩
   conv=>whnf
   have hbin:=ZoO ts'
   refine ZCX (fun hc=>?_) (fun hc=>?_)
   ·rw [Th (by omega)] at h
    exact m89
   conv=>whnf
   refine ZCX (fun hc2=>?_) (fun hc2=>?_)
   ·rw [Th (by omega)] at h
    exact m89
   rw [Tf (by omega)] at h
   have ho2:=ho'.tl (Zt8 (by omega))
   have hb2:=ho2.hi
   have hlen2:=ho2.len
   conv=>whnf
   refine oiO ?_
   conv=>whnf
   refine oiO ?_
   conv=>whnf
   refine ⟨L,ts'.tail,rfl,ho2,⟨hdp,by omega,by omega,by omega,by omega⟩,fun x hx3=>?_⟩
   rw [show (n+1).toNat=(Zaf ts').1+1 by omega] at hx3
   rcases x with ⟨v3,ts3⟩ | ⟨r3,e3⟩
   rotate_left
   ·exact m31
   rw [hx3,R.bind_ok] at h
   intro a3 hle3 ho3
   have hb3:=ho3.hi
   obtain ⟨v3a,v3b,v3c,v3d,v3e⟩:=v3
   conv=>whnf
   have hlen3:=ho3.len
   obtain rfl:op=((Zaf ts').2:Int):=hop.symm
   refine ⟨⟨(Zaf ts').2,[],0,[.mk u1 u2 u3 u4 u5,.mk v3a v3b v3c v3d v3e],u5,a3,ts3,f,rfl,rfl,ho3,by omega,by omega,h⟩,?_⟩
   exact m170
  ·exact h.elim
 ·exact h.elim
noncomputable def Zua (d:Nat):Tbl:=[(82,Zeo d 6)]
theorem Zub {d:Nat} (ht:TblOK (GG w0 nG) (Zua d)):PCalls (GG w0 nG) 35 (Zen d):=by
 refine pc ht Tryz.func35 ?_
 intro args σ K h
 unfold Zen Zh8 Wk at h
 split at h
 ·rename_i rest t rows a en dp
  obtain ⟨L,ts,rfl,ho,h⟩:=h
  split at h
  ·obtain ⟨hdp,h⟩:=h
   have h0:=ho.lo
   have h1:=ho.hi
   have h2:=ho.big
   refine ⟨Za [],1,false,by simp,Tb rfl,?_⟩
   have h:=h _ rfl
   conv=>whnf
   refine ⟨L,ts,rfl,ho,⟨hdp,by omega,by omega,by omega⟩,fun x hx1=>?_⟩
   rw [VB] at h
   change Vm (YN d) 6 1 ts=x at hx1
   exact m82
  ·exact h.elim
 ·exact h.elim
end Go.PM.Lex
end

section
namespace Go.PM.Lex
open Go.Proofs
variable {w0:World} {nG:Nat}
noncomputable abbrev Zuc (d:Nat):ZA:=Zh8 (fun L en (v:Li)=>ZbC (Yt (Zd L en) v)) (Ze8 d (UX d)) 0 d
noncomputable abbrev Zie (d:Nat):ZA:=Zh8 (fun L en (v:List Li)=>.d (.sl (v.map (Yt (Zd L en))))) (Zh0 d) 0 d
noncomputable abbrev Zgz (d:Nat):ZA:=ZsF (fun L en (v:List Li)=>.d (.sl (v.map (Yt (Zd L en))))) (UX d) 0 d
theorem Zrq (d:Nat):Zh0 d=Ww [44] 32 Yu (Ze8 d (UX d)):=by cases d <;> rfl
noncomputable def Zif (d:Nat):ZA:=Wk fun rest L en dp a ts K=>match rest with
 | [.d (.bool b)]=>(dp=64 - (d:Int)∧0≤dp)∧∀x,ZjL d b ts=x→RKk (fun (v:Ru)=>ZbC (ZI (Zd L en) v)) L en dp (a+1) x K
 | _=>False
theorem Zj1 (d:Nat):Zc (Zif d):=ZX fun rest L en dp a ts K K' hK h=>by
 exact m56
theorem Za2 {ts:Ts}:∀{ws:List Bs} {i k:Nat},Zav ts i ws=some k→i≤k∧k<i+ws.length
 | [],i,k,h=>by simp [Zav] at h
 | w::ws,i,k,h=>by
  rw [Zav] at h
  split at h
  ·cases h;simp
  ·have:=Za2 h;simp only [Tc];omega
theorem Zcr {ts:Ts} (h:Zav ts 0 Z5=none):JJ ts=.err ts.length 150:=by rw [JJ,h]
theorem Zep {ts:Ts} {j:Nat} (h:Zav ts 0 Z5=some 0) (h2:Zav ts.tail 0 YD=some j):JJ ts=.ok (9+j) ts.tail.tail:=by rw [JJ,h];simp only [h2]
theorem ZgA {ts:Ts} (h:Zav ts 0 Z5=some 0) (h2:Zav ts.tail 0 YD=none):JJ ts=.ok 3 ts.tail:=by rw [JJ,h];simp only [h2]
theorem Zeq {ts:Ts} {k:Nat} (h:Zav ts 0 Z5=some (k+1)):JJ ts=.ok (3+(k+1)) ts.tail:=by rw [JJ,h];rfl
noncomputable def Zrr:Tbl:=[(262,(Zag Z1)),(136,Zhl)]
theorem Zrs (ht:TblOK (GG w0 nG) Zrr):PCalls (GG w0 nG) 264 (Zh7 Yu):=by
 refine pc ht Tryz.func264 ?_
 intro args σ K h
 unfold Zh7 ZjS at h
 split at h
 ·rename_i rest t0 t rows a en dp
  obtain ⟨L,ts,rfl,ho,h⟩:=h
  split at h
  ·skip
   refine ⟨Za [],2,false,by simp,Tb rfl,?_⟩
   conv=>whnf
   refine ⟨L,ts,rfl,ho,fun b hb=>?_⟩
   cases b with
   | true =>
    conv=>whnf
    exact h _ (by rw [Yu,hb];rfl)
   | false =>
    conv=>whnf
    refine ⟨L,ts,rfl,ho,[[33]],rfl,by simp,fun b hw=>?_⟩
    conv=>whnf
    exact h _ (by rw [Yu,hb,hw];rfl)
  ·exact h.elim
 ·exact h.elim
noncomputable def Zud (d:Nat):Tbl:=[(263,ZbF d)]
theorem Zue {d:Nat} (ht:TblOK (GG w0 nG) (Zud d)):PCalls (GG w0 nG) 208 (Zie d):=by
 refine pc ht Tryz.func208 ?_
 intro args σ K h
 unfold Zie Zh8 Wk at h
 split at h
 ·rename_i rest t rows a en dp
  obtain ⟨L,ts,rfl,ho,h⟩:=h
  split at h
  ·obtain ⟨hdp,h⟩:=h
   have h0:=ho.lo
   have h1:=ho.hi
   have h2:=ho.big
   refine ⟨Za [],1,false,by simp,Tb rfl,?_⟩
   have h:=h _ rfl
   rw [Zrq] at h
   conv=>whnf
   refine ⟨⟨rfl,rfl,rfl,rfl,hdp⟩,L,ts,rfl,ho,fun x hx1=>?_⟩
   rcases x with ⟨v1,ts1⟩ | ⟨r1,e1⟩
   rotate_left
   ·rw [hx1] at h;intro a9 d9;(conv=>whnf);exact h _ _
   rw [hx1] at h
   intro a1 hle1 ho1
   have hb1:=ho1.hi
   conv=>whnf
   exact h _ (by omega) ho1
  ·exact h.elim
 ·exact h.elim
noncomputable def ZoQ (d:Nat):Tbl:=[(208,Zgz d)]
noncomputable def ZoR (d:Nat):Tbl:=[(136,Zhl),(143,X9),(81,Xq),(302,ZjX Tryz.f302 (ZoQ d))]
noncomputable def ZsH (d:Nat):Tbl:=[(141,WX),(200,WP),(198,Zax),(145,Zag ZR),(142,Wx),(207,Zc2 d),(35,Zen d),(253,ZmC),(81,Xq),(143,X9),(204,ZjX Tryz.f204 (ZoR d))]
theorem ZxO {d:Nat} (ht:TblOK (GG w0 nG) (ZsH d)):PCalls (GG w0 nG) 265 (Zuc d):=by
 refine ZjA XG mixed (tbl:=ZsH d) ht Tryz.func265 rfl (by kernel_rfl) (by kernel_rfl) ?_
 intro args σ K h
 unfold Zuc Zh8 Wk at h
 split at h
 ·rename_i rest t rows a en dp
  obtain ⟨L,ts,rfl,ho,h⟩:=h
  split at h
  ·obtain ⟨hdp,h⟩:=h
   have h0:=ho.lo
   have h1:=ho.hi
   have h2:=ho.big
   refine ⟨Za [],ZaS [],Vh [],Vh [50],Vh [],1,false,by simp,Tb rfl,?_⟩
   have h:=h _ rfl
   rw [Ze8] at h
   conv=>whnf
   refine ⟨L,ts,rfl,ho,?_⟩
   conv=>whnf
   refine ⟨L,ts,rfl,ho,[[33]],rfl,by simp,fun hw1 ho1=>?_,fun hw1=>?_⟩
   ·rw [Th hw1] at h
    have hb1:=ho1.hi
    conv=>whnf
    refine ⟨L,ts.tail,rfl,ho1,fun fin=>Or.inr ⟨rfl,?_⟩⟩
    conv=>whnf
    rw [ZaW] at h
    refine ⟨L,ts.tail,rfl,ho1,fun x hx11=>?_⟩
    exact m54
   ·rw [Tf (by rw [hw1];simp)] at h
    conv=>whnf
    refine ⟨L,ts,rfl,ho,fun fin=>Or.inr ⟨rfl,?_⟩⟩
    conv=>whnf
    refine ⟨L,ts,rfl,ho,fun b hn=>?_⟩
    cases b with
    | false =>
     rw [Tf (by rw [hn];simp)] at h
     exact m0
    | true =>
     conv=>whnf
     refine ZCX (fun hc=>?_) (fun hc=>?_)
     ·conv=>whnf
      refine ZCX (fun hc2=>?_) (fun hc2=>?_)
      ·rw [Th ⟨hn,by omega,hc2⟩] at h
       conv=>whnf
       rw [ZaW] at h
       refine ⟨L,ts,rfl,ho,fun x hx11=>?_⟩
       exact m54
      ·rw [Tf (fun g=>hc2 g.2.2)] at h
       exact m0
     ·rw [Tf (fun g=>hc (by have:=g.2.1;omega))] at h
      exact m0
  ·exact h.elim
 ·exact h.elim
noncomputable def Zuf (d:Nat):Tbl:=[(141,WX),(142,Wx),(207,Zc2 d),(200,WP),(208,Zie d),(143,X9)]
theorem Zug {d:Nat} (ht:TblOK (GG w0 nG) (Zuf d)):PCalls (GG w0 nG) 146 (Zif d):=by
 refine pc ht Tryz.func146 ?_
 intro args σ K h
 unfold Zif Wk at h
 split at h
 ·rename_i rest t rows a en dp
  obtain ⟨L,ts,rfl,ho,h⟩:=h
  split at h
  ·rename_i bodies
   obtain ⟨hdp,h⟩:=h
   have h0:=ho.lo
   have h1:=ho.hi
   have h2:=ho.big
   refine ⟨Za [],1,false,by simp,Tb rfl,?_⟩
   have h:=h _ rfl
   rw [ZjL] at h
   conv=>whnf
   refine ⟨L,ts,rfl,ho,?_⟩
   conv=>whnf
   refine ⟨L,ts,rfl,ho,fun x hx1=>?_⟩
   rcases x with ⟨v1,ts1⟩ | ⟨r1,e1⟩
   rotate_left
   ·exact m58
   rw [hx1,R.bind_ok] at h
   intro a1 hle1 ho1
   have hb1:=ho1.hi
   conv=>whnf
   refine ⟨L,ts1,rfl,ho1,⟨hdp,by simp⟩,fun x hx2=>?_⟩
   have hdp2:=hdp
   rcases x with ⟨v2,ts2⟩ | ⟨r2,e2⟩
   rotate_left
   ·exact m51
   rw [hx2,R.bind_ok] at h
   intro a2 hle2 ho2
   have hb2:=ho2.hi
   conv=>whnf
   cases bodies with
   | false =>
    rw [Tf (by simp)] at h
    conv=>whnf
    refine ⟨L,ts2,rfl,ho2,fun x hx3=>?_⟩
    rcases x with ⟨v3,ts3⟩ | ⟨r3,e3⟩
    rotate_left
    ·exact m31
    exact m139
   | true =>
    conv=>whnf
    refine ⟨L,ts2,rfl,ho2,[[58,45]],rfl,by simp,fun hw3 ho3=>?_,fun hw3=>?_⟩
    ·rw [Th ⟨rfl,hw3⟩] at h
     have hb3:=ho3.hi
     conv=>whnf
     refine ⟨L,ts2.tail,rfl,ho3,hdp,fun x hx4=>?_⟩
     rcases x with ⟨v4,ts4⟩ | ⟨r4,e4⟩
     rotate_left
     ·exact m99
     rw [hx4,R.bind_ok] at h
     intro a4 hle4 ho4
     have hb4:=ho4.hi
     conv=>whnf
     refine ⟨L,ts4,rfl,ho4,fun x hx5=>?_⟩
     rcases x with ⟨v5,ts5⟩ | ⟨r5,e5⟩
     rotate_left
     ·exact m50
     rw [hx5,R.bind_ok] at h
     intro a5 hle5 ho5
     have hb5:=ho5.hi
     conv=>whnf
     rw [← Zf,← Zp]
     exact h _ (by omega) ho5
    ·rw [Tf (by rw [hw3];simp)] at h
     conv=>whnf
     refine ⟨L,ts2,rfl,ho2,fun x hx4=>?_⟩
     rcases x with ⟨v4,ts4⟩ | ⟨r4,e4⟩
     rotate_left
     ·exact m99
     rw [hx4,R.bind_ok] at h
     intro a4 hle4 ho4
     have hb4:=ho4.hi
     conv=>whnf
     rw [← Zf]
     exact h _ (by omega) ho4
  ·exact h.elim
 ·exact h.elim
end Go.PM.Lex
end
