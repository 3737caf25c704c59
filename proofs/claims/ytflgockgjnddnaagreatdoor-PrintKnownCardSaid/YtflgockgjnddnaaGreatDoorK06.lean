/- A part of the proof: plain logic, contracts and laws over the given program. -/
import Derived.KernelRfl
import Derived.Test.YtflgockgjnddnaaGreatDoorK05
set_option linter.unusedVariables false
set_option linter.unusedSimpArgs false
set_option linter.all false
set_option maxRecDepth 100000
set_option maxHeartbeats 16000000
section
namespace Go.PM.Lex
open Go.Proofs
variable {w0:World} {nG:Nat}
theorem ZhR (r:Bs) (h:0<r.length):YF r≤r.length∧YF r≤2:=by
 unfold YF
 split
 ·rename_i h1
  simp only [twos,List.any_cons,List.any_nil,Sl,Sj] at h1
  rcases h1 with h1 | h1 | h1 | h1 | h1
  all_goals (have:=(Yj h1).1;omega)
 ·split <;> omega
theorem ZU (a:Nat) (r:Bs) (room:Bool):VS a r room=if YF r=0∧(pk r).1≠34∧Zg (pk r).1=false∧Zl (pk r).1=false then .bad a 140
 else if room=false then .bad a 3
 else if 0<YF r then .tok ⟨4,r.take (YF r),0,a,a+YF r⟩
 else if (pk r).1=34 then Zae a r
 else if Zl (pk r).1=true then Xw a r
 else .tok ⟨1,r.take (Y7 r),0,a,a+Y7 r⟩:=rfl
noncomputable def Zp7:Tbl:=[(209,Jg),(279,Zej),(210,W3),(268,JD),(280,Zek),(281,UY),(211,ZcG)]
theorem Zp8 (ht:TblOK (GG w0 nG) Zp7):PCalls (GG w0 nG) 227 Zel:=by
 refine pc ht Tryz.func227 ?_
 intro args σ K h
 unfold Zel at h
 split at h
 ·rename_i room t s a
  obtain ⟨⟨h0,h1,hs⟩,h⟩:=h
  obtain ⟨a,rfl⟩:∃n:Nat,a=n:=⟨a.toNat,by omega⟩
  simp only [TF] at h
  have hpr:-1≤(pk (s.drop ((a:Int)).toNat)).1∧(pk (s.drop ((a:Int)).toNat)).1≤1114111:=W5 (s.drop a)
  have hsl:=ZhR (s.drop a) (by rw [Tt];omega)
  rw [Tt] at hsl
  have hbad:∀e:Nat,VS a (s.drop a) room=.bad a e→K (.ret (.tuple [ZdF 0 [] 0 0 0,Zgb a e])) ⟨[.cells t [.d (.str s),.d (.int .i64 a)]],[],0⟩:=fun e g=>by
   rw [g] at h;exact h
  have hsign:∀n:Nat,YF (s.drop a)=n→VS a (s.drop a) room=.tok ⟨4,(s.drop a).take n,0,a,a+n⟩→K (.ret (.tuple [ZdF 4 (cut s ((a:Int)).toNat ((a:Int)+(n:Int)).toNat) 0 a ((a:Int)+(n:Int)),Zgb 0 0])) ⟨[.cells t [.d (.str s),.d (.int .i64 a)]],[],0⟩:=fun n g1 g2=>by
   rw [g2] at h
   rw [Ze3,show ((a:Int)+(n:Int)).toNat - ((a:Int)).toNat=n by omega]
   exact h
  have hn2:VS a (s.drop a) room=.tok ⟨1,(s.drop a).take (Y7 (s.drop a)),0,a,a+Y7 (s.drop a)⟩→K (.ret (.tuple [ZdF 1 ((s.drop a).take (Y7 (s.drop a))) 0 a ((a:Int)+(Y7 (s.drop a):Int)),Zgb 0 0])) ⟨[.cells t [.d (.str s),.d (.int .i64 a)]],[],0⟩:=fun g=>by
   rw [g] at h;exact h
  refine ⟨Zb [],1,false,by simp,Tb rfl,?_⟩
  conv=>whnf
  refine ⟨⟨by omega,by omega⟩,?_⟩
  conv=>whnf
  refine ⟨⟨by omega,by omega,by omega⟩,?_⟩
  conv=>whnf
  generalize hc0:(pk (s.drop ((a:Int)).toNat)).1=c at hpr ⊢
  have hc:(pk (s.drop a)).1=c:=hc0
  generalize hn0:YF (s.drop ((a:Int)).toNat)=n
  have hn:YF (s.drop a)=n:=hn0
  rw [hn] at hsl
  refine Zyq (fun h2=>?_) (fun h2=>?_)
  ·obtain rfl:n=0:=by omega
   conv=>whnf
   refine Zyv (fun h3=>?_) (fun h3=>?_)
   ·conv=>whnf
    refine ⟨⟨by omega,by omega⟩,?_⟩
    conv=>whnf
    refine Zyu (fun h4=>?_) (fun h4=>?_)
    ·have h4':Zg c=false:=by simpa using h4
     conv=>whnf
     refine Zyu (fun h5=>?_) (fun h5=>?_)
     ·have h5':Zl c=false:=by simpa using h5
      conv=>whnf
      (try (refine ⟨rfl,?_⟩;conv=>whnf))
      (try (refine ⟨rfl,?_⟩;conv=>whnf))
      exact hbad 140 (by rw [ZU,hn,hc,Ti ⟨rfl,h3,h4',h5'⟩])
     ·have h5':Zl c=true:=by simpa using h5
      have hno:¬(0=0∧c≠34∧Zg c=false∧Zl c=false):=fun g=>by rw [h5'] at g;simp at g
      cases room with
      | false =>
       exact m49
      | true =>
       conv=>whnf
       refine Zyq (fun h6=>?_) (fun h6=>?_)
       ·exact absurd h6 (by simpa using h3)
       ·conv=>whnf
        refine Zyu (fun h7=>?_) (fun h7=>?_)
        ·conv=>whnf
         refine ⟨⟨by omega,by omega,by omega⟩,?_⟩
         conv=>whnf
         have g:VS a (s.drop a) true=Xw a (s.drop a):=by
          rw [ZU,hn,hc,Te hno,Te (by simp),Te (by omega),Te h3,Ti h5']
         rw [g] at h
         exact h
        ·rw [h5'] at h7;cases h7
    ·have h4':Zg c=true:=by simpa using h4
     have h5':Zl c=false:=by
      have h4'':(c=95∨128≤c∨(97≤c∧c≤122)∨(65≤c∧c≤90)):=by simpa [Zg] using h4'
      simp only [Zl,decide_eq_false_iff_not];omega
     have hno:¬(0=0∧c≠34∧Zg c=false∧Zl c=false):=fun g=>by rw [h4'] at g;simp at g
     cases room with
     | false =>
      exact m49
     | true =>
      conv=>whnf
      refine Zyq (fun h6=>?_) (fun h6=>?_)
      ·exact absurd h6 (by simpa using h3)
      ·conv=>whnf
       refine Zyu (fun h7=>?_) (fun h7=>?_)
       ·rw [h5'] at h7;cases h7
       ·conv=>whnf
        refine ⟨⟨by omega,by omega,by omega⟩,?_⟩
        conv=>whnf
        exact hn2 (by rw [ZU,hn,hc,Te hno,Te (by simp),Te (by omega),Te h3,Te (by rw [h5'];simp)])
   ·obtain rfl:c=34:=h3
    have hno:¬(0=0∧(34:Int)≠34∧Zg 34=false∧Zl 34=false):=fun g=>g.2.1 rfl
    cases room with
    | false =>
     exact m49
    | true =>
     conv=>whnf
     refine ⟨⟨by omega,by omega,by omega⟩,?_⟩
     conv=>whnf
     have g:VS a (s.drop a) true=Zae a (s.drop a):=by
      rw [ZU,hn,hc,Te hno,Te (by simp),Te (by omega),Ti rfl]
     rw [g] at h
     exact h
  ·have hno:¬(n=0∧c≠34∧Zg c=false∧Zl c=false):=fun g=>by omega
   cases room with
   | false =>
    exact m49
   | true =>
    conv=>whnf
    refine Zyq (fun h6=>?_) (fun h6=>?_)
    ·conv=>whnf
     refine oiO ?_
     conv=>whnf
     refine ⟨by omega,by omega,by omega,?_⟩
     conv=>whnf
     refine oiO ?_
     conv=>whnf
     (try (refine ⟨rfl,?_⟩;conv=>whnf))
     (try (refine ⟨rfl,?_⟩;conv=>whnf))
     exact hsign n hn (by rw [ZU,hn,hc,Te hno,Te (by simp),Ti (by omega)])
    ·omega
 ·exact h.elim
end Go.PM.Lex
end

section
namespace Go.PM.Lex
theorem ZlJ (r:Bs) (h0:0≤(pk r).1) (h:(pk r).1<128):0<r.length∧(pk r).1=((r.getD 0 0).toNat:Int)∧(pk r).2=1:=by
 unfold pk at h h0 ⊢
 split at h
 ·rename_i g;rw [Ti g] at h0;simp at h0
 ·rename_i g
  simp only [not_or] at g
  rw [Te (by simp only [not_or];exact g)] at h0 ⊢
  have hl:0<r.length:=T5.2 g.1
  refine ⟨hl,?_⟩
  rw [Lib.decodeL_N] at h ⊢
  rcases Lib.decodeN_shape r.length (r.getD 0 0).toNat (r.getD 1 0).toNat (r.getD 2 0).toNat (r.getD 3 0).toNat with ⟨c,e⟩ | ⟨c1,c2,c3,cv,e⟩ | ⟨c1,c2,c3,c4,cv,cs,e⟩ | ⟨c1,c2,c3,c4,c5,cv,cw,e⟩ | e
  ·rw [e];exact ⟨rfl,rfl⟩
  all_goals (rw [e] at h;dsimp only at h;omega)
theorem ZcL {c:Int}:Zl c=true↔(48≤c∧c≤57):=by simp [Zl]
theorem ZcM:∀(f:Nat) (r:Bs),ZI f r≤r.length
 | 0,r=>T4 _
 | f+1,r=>by
  have ih:=ZcM f (r.drop (pk r).2)
  rw [Tt] at ih
  have hl:(pk r).1≠-1→(pk r).2≤r.length:=fun h=>(ZnK r h).2.1
  unfold ZI
  split
  ·rename_i h;have:=hl (by omega);split <;> omega
  ·split
   ·rename_i h
    have:=hl (fun h1=>by rw [h1,Uv,JE] at h;simp at h)
    omega
   ·omega
theorem ZlK (r:Bs) (h:Zg (pk r).1=true):1≤Y7 r∧Y7 r≤r.length:=by
 refine ⟨?_,ZcM _ _⟩
 have:=ZlC r
 have h46:¬(pk r).1=46:=fun g=>by rw [g] at h;revert h;decide
 rw [Y7,Vv h46 (.inl h)];omega
theorem YZ:∀(f:Nat) (r:Bs) (esc:Bool) (acc:Bs) (p:Nat) (t:Bs) (l:Nat),ZD f r esc acc p=.ok t l→p<l∧l≤p+r.length
 | 0,r,esc,acc,p,t,l,h=>by simp [ZD] at h
 | f+1,r,esc,acc,p,t,l,h=>by
  unfold ZD at h
  split at h
  ·cases h
  ·rename_i hne
   have hd:=Lib.decodeL_le r hne
   have hr:=JF r
   split at h
   ·split at h
    ·cases h
    ·have:=YZ f _ _ _ _ _ _ h;rw [Tt] at this;omega
   ·split at h
    ·cases h;have:=T5.2 hne;omega
    ·split at h
     ·have:=YZ f _ _ _ _ _ _ h;rw [Tt] at this;omega
     ·split at h
      ·cases h
      ·have:=YZ f _ _ _ _ _ _ h;rw [Tt] at this;omega
theorem Zgo (r:Bs):Zm r≤r.length:=by
 unfold Zm Ze
 have:=Uy (Wl (Xq r)) (r.drop (if Xq r then 2 else 0))
 rw [Tt] at this
 by_cases h:Xq r=true
 ·have:=(Yj h).1
  simp only [h,if_true] at *;omega
 ·simp only [h,To,if_false] at *;omega
theorem ZcN {a:Nat} {r:Bs} {room:Bool} {t:Tok} (h0:0<r.length) (h:VS a r room=.tok t):t.at'=a∧a<t.fin∧t.fin≤a+r.length:=by
 rw [ZU] at h
 split at h
 ·cases h
 ·rename_i g0
  split at h
  ·cases h
  ·split at h
   ·cases h;rename_i g1;have:=ZhR r h0;exact ⟨rfl,by simp only;omega,by simp only;omega⟩
   ·rename_i g1
    split at h
    ·unfold Zae at h
     split at h
     ·cases h
     ·rename_i t' l hx
      cases h
      have:=YZ _ _ _ _ _ _ _ hx
      rw [Tt] at this
      exact ⟨rfl,by simp only;omega,by simp only;omega⟩
    ·rename_i g2
     split at h
     ·rename_i g3
      unfold Xw at h
      split at h
      ·cases h
      ·rename_i n hx
       cases h
       have hle:=Zgo r
       refine ⟨rfl,?_,by simp only;omega⟩
       simp only
       have hne:Ze r≠[]:=fun g=>by rw [ZE,Ti g] at hx;cases hx
       have:=T5.2 hne
       unfold Zm;omega
     ·rename_i g3
      cases h
      have h4:Zg (pk r).1=true:=by
       cases hb:Zg (pk r).1 with
       | true=>rfl
       | false=>exact absurd ⟨by omega,g2,hb,by simpa using g3⟩ g0
      have:=ZlK r h4
      exact ⟨rfl,by simp only;omega,by simp only;omega⟩
theorem ZlL {a:Nat} {r:Bs} {room:Bool} {p e:Nat} (h:VS a r room=.bad p e):e≠0∧e≤142:=by
 rw [ZU] at h
 repeat' split at h
 all_goals first | (cases h;done) | (cases h;omega) | (cases h;decide) | skip
 ·unfold Zae at h;split at h <;> cases h;decide
 ·unfold Xw at h;split at h <;> cases h;decide
theorem ZcO:∀(f:Nat) (r:Bs),(ZS f r).2≤r.length
 | 0,r=>T4 _
 | f+1,r=>by
  have hdw:=Uw (([32,9,13,10]:Bs).contains ·) r
  obtain ⟨rest,hrest⟩:∃x,x=Lib.trimLeftS r [32,9,13,10]:=⟨_,rfl⟩
  have hr2:rest.length≤r.length:=by rw [hrest];exact hdw.2
  simp only [ZS,← hrest]
  split
  ·rename_i h1
   have ih:=fun n=>ZcO f (rest.drop n)
   have hlt:=Ux 10 rest
   have hge:=Lib.indexByte_ge rest 10
   have ih2:=ih (if Lib.indexByte rest 10<0 then rest.length else (Lib.indexByte rest 10).toNat)
   rw [Tt] at ih2
   simp only
   have:(if Lib.indexByte rest 10<0 then rest.length else (Lib.indexByte rest 10).toNat)≤rest.length:=by split <;> omega
   omega
  ·split
   ·rename_i h1 h2
    have hl:=(Yj h2).1
    split
    ·simp only;omega
    ·rename_i h3
     have hle:=Ze4 [42,47] (rest.drop 2) (by omega)
     simp only [Tt,Tc,Td] at hle
     have ih2:=ZcO f (rest.drop ((Lib.index (rest.drop 2) [42,47]).toNat+4))
     rw [Tt] at ih2
     simp only
     omega
   ·simp only;omega
end Go.PM.Lex
end

section
namespace Go.PM
def ZlM (T:Tab) (tbl:Tbl) (it:ZjV) (gid:FuncId) (fn:Func):ZjV:=fun g args raw σ K=>∃loops,Zlx T tbl it gid fn loops g args raw σ K
theorem ZhS {G : GE} {T : Tab} {tbl : Tbl} (hT : TabOK T G.P) (hmix : G.P.follows .mixedOrders = true) (ht : TblOK G tbl) {it : ZjV} (hit : VO G it) {gid : FuncId} {fn : Func} {c : Code} (hf : G.P.funcs[gid]? = some fn) (hb : fn.body = some c) (hname : (fn.name == "runtime.NumGoroutine") = false)
  (hok:Zw fn.ntmps c=true):VO G (ZlM T tbl it gid fn):=fun g args raw σ K h=>by
 obtain ⟨loops,h⟩:=h
 exact ZjX hT hmix ht hit hf hb hname hok loops g args raw σ K h
end Go.PM
namespace Go.PM.Lex
open Go.Proofs
variable {w0:World} {nG:Nat}
noncomputable def ZlN:Zu:=fun args σ K=>match args,σ with
 | [.d (.str s),.d (.int .i64 m)],⟨[],[],0⟩=>K (.ret (.func 225 [] [.ptr 0 0,.ptr 1 0])) ⟨[.cells 9 [.d (.str s)],.cells 3 [.d (.int .i64 m)]],[],0⟩
 | _,_=>False
theorem Zj1:Zc ZlN:=fun args σ K K' hK h=>by
 unfold ZlN at h ⊢;split at h <;> first | exact hK _ _ h | exact h.elim
theorem ZtT:PCalls (GG w0 nG) 160 ZlN:=by
 refine pc (tbl:=[]) trivial Tryz.func160 ?_
 intro args σ K h
 unfold ZlN at h
 split at h
 ·rename_i s m
  refine ⟨Zb [],2,false,by simp,Tb rfl,?_⟩
  exact m46
 ·exact h.elim
def ZtU (t:Tok):List D:=[.int .u8 t.kind,.str t.text,.int .i64 t.n,.int .i64 t.at',.int .i64 t.fin]
def ZG (l:List Tok):List (List D):=l.map ZtU
theorem Y8 (l:List Tok):(ZG l).length=l.length:=by simp [ZG]
theorem Zj2 (l:List Tok) (t:Tok):ZG (l++[t])=ZG l++[ZtU t]:=by simp [ZG]
noncomputable def Zaj:Zu:=fun args σ K=>match args,σ with
 | [.d (.str s),.d (.int .i64 m)],⟨[],[],0⟩=>s.length<4294967281 ∧
   K (.ret (.tuple [.d (.sl (if (ZdD s m).2.2=0 then ZG (ZdD s m).1 else [])),.d (.int .i64 (ZdD s m).2.1),.d (.int .i64 (ZdD s m).2.2)])) ⟨[],[],0⟩
 | _,_=>False
noncomputable def Ze8:Tbl:=[(226,ZaX),(227,Zel)]
noncomputable def ZlO:Tbl:=[(160,ZlN)]
noncomputable def ZwQ:ZjV:=ZlM ZhK Ze8 X1 225 Tryz.f225
theorem ZlP (ht:TblOK (GG w0 nG) Ze8):VO (GG w0 nG) ZwQ:=ZhS Y6 mixed ht Yt Tryz.func225 rfl (by kernel_rfl) (by kernel_rfl)
def muX (B:Int) (k:Nat):List PV→St→Nat:=fun _ σ=>match σ.bx[k]? with | some (.cells _ (_::.d (.int _ n)::_))=>(B - n).toNat | _=>0
theorem ZlQ (ht1:TblOK (GG w0 nG) Ze8) (ht:TblOK (GG w0 nG) ZlO):PCalls (GG w0 nG) 79 Zaj:=by
 refine Zly Y6 mixed ht (ZlP ht1) Tryz.func79 rfl (by kernel_rfl) (by kernel_rfl) ?_
 intro args σ K h
 unfold Zaj at h
 split at h
 ·rename_i s m
  obtain ⟨hs,h⟩:=h
  refine ⟨Zb [],0,false,by simp,Tb rfl,?_⟩
  conv=>whnf
  intro y r
  refine ⟨Zb [(3,⟨[5],[0,1,2,4],fun vs σ=>∃(l:List Tok) (e f:Nat),vs=[.d (.int .i64 (l.length:Int))] ∧
   σ=⟨[.cells 134 [.sl 0 218 []],.cells 3 [.d (.int .i64 0)],.cells 27 [.d (.int .i64 0)],.cells 134 [.sl 1 218 (ZG l)],.cells 9 [.d (.str s)],.cells 3 [.d (.int .i64 m)],.loop .ready none r,.cells 251 [.d (.str s),.d (.int .i64 e)]],[1,0],2⟩ ∧
   (e≤s.length∧s.length<e+f∧l.length≤e)∧ZdD s m=(l++(Wm f (m - l.length) e (s.drop e)).1,(Wm f (m - l.length) e (s.drop e)).2),muX s.length 7⟩)],rfl,?_⟩
  conv=>whnf
  refine ⟨⟨[],0,s.length+1,rfl,rfl,⟨by omega,by omega,by simp⟩,by simp [ZdD]⟩,?_⟩
  intro vs σ1 hI
  obtain ⟨l,e,f,rfl,rfl,⟨he1,he2,hle⟩,hall⟩:=hI
  obtain ⟨f,rfl⟩:∃g,f=g+1:=⟨f - 1,by omega⟩
  have hbl:(YC (s.drop e)).2≤s.length - e:=by have:(YC (s.drop e)).2≤(s.drop e).length:=ZcO _ _;rw [Tt] at this;exact this
  have hbad:∀p c:Nat,(Wm (f+1) (m - l.length) e (s.drop e)).2=(p,c)→c≠0→K (.ret (.tuple [.d (.sl []),.d (.int .i64 p),.d (.int .i64 c)])) ⟨[],[],0⟩:=fun p c g1 g2=>by
   have e1:(ZdD s m).2=(p,c):=by rw [hall];exact g1
   rw [e1] at h
   simp only at h
   rw [Te g2] at h
   exact h
  have hend:Wm (f+1) (m - l.length) e (s.drop e)=([],(0,0))→K (.ret (.tuple [.d (.sl (ZG l)),.d (.int .i64 0),.d (.int .i64 0)])) ⟨[],[],0⟩:=fun g=>by
   rw [hall,g] at h
   simp only [TM,if_true] at h
   exact h
  conv=>whnf
  refine ⟨⟨by omega,by omega,by omega⟩,?_⟩
  conv=>whnf
  generalize hk0:(YC (s.drop ((e:Int)).toNat)).2=k
  have hk:(YC (s.drop e)).2=k:=hk0
  rw [hk] at hbl
  refine Zyu (fun h2=>?_) (fun h2=>?_)
  ·have h2':(YC (s.drop e)).1=false:=by simpa using h2
   have g1:Wm (f+1) (m - l.length) e (s.drop e)=([],(e+k,140)):=by rw [Wm,Ti h2',hk]
   have g2:=hbad _ _ (by rw [g1]) (by decide)
   rw [show ((e+k:Nat):Int)=(e:Int)+(k:Int) by omega] at g2
   conv=>whnf
   refine ⟨rfl,rfl,rfl,?_⟩
   conv=>whnf
   refine ⟨rfl,?_⟩
   conv=>whnf
   iterate 6 (try (refine ⟨rfl,?_⟩;conv=>whnf))
   exact g2
  ·have h2':(YC (s.drop e)).1=true:=by simpa using h2
   have hb1:¬(YC (s.drop e)).1=false:=by rw [h2'];simp
   conv=>whnf
   refine Zyq (fun h3=>?_) (fun h3=>?_)
   ·have hnil:(s.drop e).drop k=[]:=by rw [TL];exact TP (by omega)
    have g1:Wm (f+1) (m - l.length) e (s.drop e)=([],(0,0)):=by rw [Wm,Te hb1,hk,Ti hnil]
    conv=>whnf
    exact hend g1
   ·have hlt:e+k<s.length:=by omega
    have hne:¬(s.drop e).drop k=[]:=fun g=>by have:=congrArg List.length g;rw [TL,Tt] at this;simp at this;omega
    have g1:Wm (f+1) (m - l.length) e (s.drop e)=(match VS (e+k) (s.drop (e+k)) (decide ((l.length:Int)<m)) with
      | .bad p e=>([],(p,e))
      | .tok t=>(t::(Wm f (m - l.length - 1) t.fin ((s.drop (e+k)).drop (t.fin - (e+k)))).1,(Wm f (m - l.length - 1) t.fin ((s.drop (e+k)).drop (t.fin - (e+k)))).2)):=by
     rw [Wm,Te hb1,hk,Te hne,TL,show (decide (0<m - (l.length:Int)))=decide ((l.length:Int)<m) from by rw [decide_eq_decide];omega]
     rfl
    conv=>whnf
    refine ⟨⟨by omega,by omega,by omega⟩,?_⟩
    conv=>whnf
    generalize hx0:VS ((e:Int)+(k:Int)).toNat (s.drop ((e:Int)+(k:Int)).toNat) _=x
    have hx:VS (e+k) (s.drop (e+k)) (decide ((l.length:Int)<m))=x:=by
     rw [show ((e:Int)+(k:Int)).toNat=e+k by omega] at hx0;exact hx0
    rw [hx] at g1
    cases x with
    | bad p c =>
     have hc:=ZlL hx
     have g2:=hbad p c (by rw [g1]) hc.1
     conv=>whnf
     refine ⟨rfl,rfl,rfl,?_⟩
     conv=>whnf
     refine ⟨rfl,?_⟩
     conv=>whnf
     refine Zyv (fun h4=>?_) (fun h4=>?_)
     ·conv=>whnf
      iterate 6 (try (refine ⟨rfl,?_⟩;conv=>whnf))
      exact g2
     ·exact absurd h4 (by have:((c:Nat):Int)≠0:=(by omega);exact this)
    | tok t =>
     obtain ⟨ht1,ht2,ht3⟩:=ZcN (by rw [Tt];omega) hx
     rw [Tt] at ht3
     conv=>whnf
     refine ⟨rfl,rfl,rfl,?_⟩
     conv=>whnf
     refine ⟨rfl,?_⟩
     conv=>whnf
     refine ⟨fun r hr=>by (simp at hr;subst hr;rfl),(show ((ZG l).length+1) * 48≤2 ^ 47 by rw [Y8];omega),(show (ZG l).length+1≤2 ^ 47 by rw [Y8];omega),?_⟩
     conv=>whnf
     iterate 3 (try (refine ⟨rfl,?_⟩;conv=>whnf))
     refine oiO ?_
     conv=>whnf
     refine ⟨⟨l++[t],t.fin,f,?_,?_,⟨by omega,by omega,by rw [Ta];simp;omega⟩,?_⟩,?_⟩
     ·rw [Ta];rfl
     ·rw [Zj2];rfl
     ·have hd:(s.drop (e+k)).drop (t.fin - (e+k))=s.drop t.fin:=by rw [TL,show e+k+(t.fin - (e+k))=t.fin by omega]
      rw [hall,g1,Ta]
      simp only [hd,Tc,Td,Int.natCast_add,Int.sub_sub,Tk,Sr,T6]
      rfl
     ·exact (show ((s.length:Int) - (t.fin:Int)).toNat<((s.length:Int) - (e:Int)).toNat by omega)
 ·exact h.elim
end Go.PM.Lex
end

section
namespace Go.PM.Lex
open Go.Proofs
variable {w0:World} {nG:Nat}
noncomputable def ZtV:Tbl:=[(323,ZtR),(324,Uz)]
theorem Zgp (hg:GlobOK w0 nG):PCalls (GG w0 nG) 312 WE:=by
 refine pc (tbl:=ZtV) ⟨⟨ZwJ,ZlG⟩,⟨Zj0 hg,ZdH⟩,trivial⟩ Tryz.func312 ?_
 intro args σ K h
 unfold WE at h
 split at h
 ·rename_i l base bits
  obtain ⟨hex,⟨hl,rfl,rfl⟩,hbad,hgood⟩:=h
  refine ⟨Zb [],0,false,by simp,Tb rfl,?_⟩
  conv=>whnf
  refine ⟨hex,⟨hl,rfl,rfl⟩,fun h0=>?_,fun h0 h1=>?_,fun h0 h1=>?_⟩
  ·conv=>whnf
   refine ⟨⟨.inr rfl,hl.2⟩,?_⟩
   conv=>whnf
   exact hbad (.inl h0) _
  ·conv=>whnf
   refine ⟨⟨.inl rfl,hl.2⟩,?_⟩
   conv=>whnf
   exact hbad (.inr h1) _
  ·conv=>whnf
   exact hgood (by simp only [not_or];exact ⟨h0,h1⟩)
 ·exact h.elim
end Go.PM.Lex
end

section
namespace Go.PM.Lex
open Go.Proofs
variable {w0:World} {nG:Nat}
theorem ZlR:PCalls (GG w0 nG) 209 Jg:=ZpV ⟨⟨ZjY,ZdE⟩,⟨W4,Xc⟩,trivial⟩
theorem ZwR:PCalls (GG w0 nG) 279 Zej:=ZpX ⟨⟨W4,Xc⟩,⟨Ut,Wg⟩,trivial⟩
theorem ZtW:PCalls (GG w0 nG) 211 ZcG:=ZpZ ⟨⟨ZlR,WC⟩,⟨Zag,Wn⟩,⟨Ze2,Us⟩,trivial⟩
theorem ZtX (hg:GlobOK w0 nG):PCalls (GG w0 nG) 226 ZaX:=ZnM ⟨⟨ZhM,ZcF⟩,⟨W4,Xc⟩,⟨Ut,Wg⟩,⟨ZnI (by have:=hg.big;omega) hg.maxLen,Zga⟩,trivial⟩
theorem Zp9 (hg:GlobOK w0 nG):PCalls (GG w0 nG) 281 UY:=ZlF ⟨⟨W4,Xc⟩,⟨Ze2,Us⟩,⟨Zgp hg,ZbU⟩,⟨ZlR,WC⟩,⟨Zag,Wn⟩,trivial⟩
theorem Zgq:PCalls (GG w0 nG) 216 WG:=Yu (Zj Tryz.func216 (by kernel_rfl) rfl) fun args σ K h e w vs hS ha=>by
 unfold WG at h
 split at h
 ·obtain ⟨u,rfl,hu⟩:=Zgd ha
  cases hu.dint
  exact ⟨_,h,_,fun _ _=>.mkbool,(Tryz.utf8_ValidRune _ w).mono fun en w' ⟨h1,h2⟩=>⟨h1,by rw [h2];exact Grows.refl _⟩⟩
 ·exact h.elim
theorem Zeq:PCalls (GG w0 nG) 151 Xg:=Zgn ⟨⟨Ut,Wg⟩,⟨Zgq,ZbV⟩,trivial⟩
theorem ZwS:PCalls (GG w0 nG) 280 Zek:=Zp6 ⟨⟨Zeq,Ub⟩,⟨Zbz,V9⟩,⟨ZlR,WC⟩,⟨ZbA,Ua⟩,⟨Zgg,Zaf⟩,trivial⟩
theorem ZwT (hg:GlobOK w0 nG):PCalls (GG w0 nG) 227 Zel:=Zp8 ⟨⟨ZlR,WC⟩,⟨ZwR,ZhL⟩,⟨Zag,Wn⟩,⟨Ze2,Us⟩,⟨ZwS,ZhN⟩,⟨Zp9 hg,Ze1⟩,⟨ZtW,ZcH⟩,trivial⟩
theorem ZwU (hg:GlobOK w0 nG):TblOK (GG w0 nG) Ze8:=⟨⟨ZtX hg,Zgc⟩,⟨ZwT hg,ZhO⟩,trivial⟩
theorem Zqa (hg:GlobOK w0 nG):PCalls (GG w0 nG) 79 Zaj:=ZlQ (ZwU hg) ⟨⟨ZtT,Zj1⟩,trivial⟩
end Go.PM.Lex
end

section
namespace Go.PM.Lex
structure T0 where
 kind:Nat
 text:Bs
 n:Int
 deriving DecidableEq
def Tok.t0 (t:Tok):T0:=⟨t.kind,t.text,t.n⟩
abbrev Ts:=List T0
inductive R (α:Type) where
 | ok (a:α) (ts:Ts) | err (r e:Nat)
def R.bind {α β:Type} (x:R α) (f:α→Ts→R β):R β:=match x with
 | .ok a ts=>f a ts
 | .err r e=>.err r e
@[simp] theorem R.bind_ok {α β:Type} (a:α) (ts:Ts) (f:α→Ts→R β):(R.ok a ts).bind f=f a ts:=rfl
@[simp] theorem R.bind_err {α β:Type} (r e:Nat) (f:α→Ts→R β):(R.err r e:R α).bind f=.err r e:=rfl
inductive Ex where
 | mk (op:Nat) (text:Bs) (n:Int) (args:List Ex) (at':Nat)
inductive Li where
 | mk (op:Nat) (rel:Bs) (args:List Ex) (body:List Li) (at':Nat)
structure Ru where
 head:Bs
 args:List Ex
 body:List Li
 at':Nat
structure Fi where
 name:Bs
 typ:Bs
structure Ca where
 name:Bs
 fields:List Fi
structure Ty where
 kind:Nat
 name:Bs
 base:Bs
 fields:List Fi
 cases:List Ca
 at':Nat
structure Re where
 name:Bs
 fields:List Fi
 inn:Bool
 out:Bool
 inl:Bool
 at':Nat
structure Ini where
 name:Bs
 comp:Bs
 types:List Bs
 at':Nat
structure Ov where
 rel:Bs
 at':Nat
mutual
inductive Un where
 | mk (types:List Ty) (rels:List Re) (rules:List Ru) (comps:List Co) (inits:List Ini) (overs:List Ov)
inductive Co where
 | mk (name:Bs) (params:List Bs) (base:Bs) (types:List Bs) (unit:Un) (at':Nat)
end
def hd (ts:Ts):T0:=match ts with
 | []=>⟨0,[],0⟩
 | t::_=>t
def ZY (s:Bs):Nat :=
 if s=[99,97,116] then 20 else if s=[115,116,114,108,101,110] then 21 else if s=[115,117,98,115,116,114] then 22 else if s=[99,111,100,101] then 23 else if s=[115,116,114] then 24 else if s=[110,117,109] then 25 else 0
def keptWords:List Bs:=[[116,121,112,101],[100,101,99,108],[105,110,112,117,116],[111,117,116,112,117,116],[105,110,108,105,110,101],[99,111,109,112],[105,110,105,116],[111,118,101,114,114,105,100,101],[110,105,108],[99,111,117,110,116],[115,117,109],[109,105,110],[109,97,120],[98,111,114],[98,120,111,114],[98,97,110,100],[115,104,108],[115,104,114]]
def Zgr (s:Bs):Bool:=keptWords.contains s || decide (ZY s≠0)
def isW (ts:Ts) (ws:List Bs):Bool:=(decide ((hd ts).kind=1) || decide ((hd ts).kind=4)) && ws.contains (hd ts).text
def ZB (ts:Ts):Bool:=decide ((hd ts).kind=1) && (!decide ((hd ts).text=[95]) && !Zgr (hd ts).text)
def ZL (ts:Ts):Bool :=
 if (hd ts).kind=2∨(hd ts).kind=3 then true
 else if (hd ts).kind=4 then isW ts [[45],[126],[40],[91],[36]]
 else if (hd ts).kind=1 then !Zgr (hd ts).text || (decide ((hd ts).text=[110,105,108]) || decide (ZY (hd ts).text≠0))
 else false
def U3 (ts:Ts):Nat×Nat :=
 if (hd ts).kind≠1∧(hd ts).kind≠4 then (0,0)
 else if (hd ts).text=[98,111,114] then (1,16) else if (hd ts).text=[98,120,111,114] then (1,17) else if (hd ts).text=[98,97,110,100] then (2,15) else if (hd ts).text=[115,104,108] then (3,18) else if (hd ts).text=[115,104,114] then (3,19)
 else if (hd ts).text=[43] then (4,10) else if (hd ts).text=[45] then (4,11) else if (hd ts).text=[42] then (5,12) else if (hd ts).text=[47] then (5,13) else if (hd ts).text=[37] then (5,14) else (0,0)
def ZT (w:Bs) (ts:Ts):R Unit:=if isW ts [w]=true then .ok () ts.tail else .err ts.length 150
def XE (ts:Ts):R Bs:=if ZB ts=true then .ok (hd ts).text ts.tail else .err ts.length 150
def Zo {α:Type} (d:Nat) (fr tw:Bs) (read:Ts→R α) (ts:Ts):R α :=
 if isW ts [fr]=true then
  (if d=0 then .err ts.length 151 else (read ts.tail).bind fun x ts=>if tw=[] then .ok x ts else (ZT tw ts).bind fun _ ts=>.ok x ts)
 else .err ts.length 150
def X3 {α:Type} (sign:Bs) (most:Nat) (starts:Ts→Bool) (one:Ts→R α):Nat→List α→Ts→R (List α)
 | 0,_,_=>.err 0 150
 | f+1,l,ts=>if starts ts=true∧l.length=most then .err ts.length 3
   else (one ts).bind fun x ts=>if isW ts [sign]=true then X3 sign most starts one f (l++[x]) ts.tail else .ok (l++[x]) ts
def X4 {α:Type} (sign:Bs) (most:Nat) (starts:Ts→Bool) (one:Ts→R α) (ts:Ts):R (List α):=X3 sign most starts one (ts.length+1) [] ts
def Ud (ts:Ts):R Fi:=(XE ts).bind fun a ts=>(ZT [58] ts).bind fun _ ts=>(XE ts).bind fun b ts=>.ok ⟨a,b⟩ ts
def UB (fin:Bs) (ts:Ts):R (List Fi):=if isW ts [fin]=true then .ok [] ts else X4 [44] 12 ZB Ud ts
def ZbB (ts:Ts):R (List Bs):=if isW ts [[60]]=true then (X4 [44] 12 ZB XE ts.tail).bind fun l ts=>(ZT [62] ts).bind fun _ ts=>.ok l ts else .ok [] ts
def ZbW (ts:Ts):R Ca:=(XE ts).bind fun a ts=>(ZT [123] ts).bind fun _ ts=>(UB [125] ts).bind fun l ts=>(ZT [125] ts).bind fun _ ts=>.ok ⟨a,l⟩ ts
def Zer (t0:Ts):R Ty:=(XE t0).bind fun nm ts =>
 if isW ts [[60,58]]=true then (XE ts.tail).bind fun b ts=>.ok ⟨1,nm,b,[],[],t0.length⟩ ts
 else (ZT [61] ts).bind fun _ ts =>
  if isW ts [[91]]=true then (UB [93] ts.tail).bind fun l ts=>(ZT [93] ts).bind fun _ ts=>.ok ⟨2,nm,[],l,[],t0.length⟩ ts
  else (X4 [124] 64 ZB ZbW ts).bind fun l ts=>.ok ⟨3,nm,[],[],l,t0.length⟩ ts
def Yx:Nat→Bool→Bool→Bool→Ts→(Bool×Bool×Bool)×Ts
 | 0,i,o,n,ts=>((i,o,n),ts)
 | f+1,i,o,n,ts=>if i=false∧isW ts [[105,110,112,117,116]]=true then Yx f true o n ts.tail
   else if o=false∧isW ts [[111,117,116,112,117,116]]=true then Yx f i true n ts.tail
   else if n=false∧isW ts [[105,110,108,105,110,101]]=true then Yx f i o true ts.tail
   else ((i,o,n),ts)
def Zj3 (t0:Ts):R Re:=(XE t0).bind fun nm ts=>(ZT [40] ts).bind fun _ ts=>(UB [41] ts).bind fun l ts=>(ZT [41] ts).bind fun _ ts =>
 .ok ⟨nm,l,(Yx 4 false false false ts).1.1,(Yx 4 false false false ts).1.2.1,(Yx 4 false false false ts).1.2.2,t0.length⟩ (Yx 4 false false false ts).2
def ZdJ (d:Nat) (ex:Ts→R Ex) (fr tw:Bs) (ts:Ts):R (List Ex):=Zo d fr tw (fun ts=>if isW ts [tw]=true then .ok [] ts else X4 [44] 12 ZL ex ts) ts
def Jh (ex:Ts→R Ex):Nat→List Ex→Ts→R (List Ex)
 | 0,l,ts=>.ok l ts
 | k+1,l,ts=>(if l=[] then .ok () ts else ZT [44] ts).bind fun _ ts=>(ex ts).bind fun e ts=>Jh ex k (l++[e]) ts
def ZhT (op:Nat):Nat:=if op=22 then 3 else if op=20 then 2 else 1
def VW (d:Nat) (ex:Ts→R Ex) (ts:Ts):R Ex :=
 if ZL ts=false then .err ts.length 150
 else if (hd ts).kind=2 then .ok (.mk 3 [] (hd ts).n [] ts.length) ts.tail
 else if (hd ts).kind=3 then .ok (.mk 4 (hd ts).text 0 [] ts.length) ts.tail
 else if (hd ts).text=[40] then Zo d [40] [41] ex ts
 else if (hd ts).text=[91] then (ZdJ d ex [91] [93] ts).bind fun l ts'=>.ok (.mk 6 [] 0 l ts.length) ts'
 else if (hd ts).text=[36] then (XE ts.tail).bind fun nm ts'=>if isW ts' [[40]]=true then (ZdJ d ex [40] [41] ts').bind fun l ts'=>.ok (.mk 7 nm 0 l ts.length) ts' else .ok (.mk 7 nm 0 [] ts.length) ts'
 else if ZY (hd ts).text≠0 then (Zo d [40] [41] (Jh ex (ZhT (ZY (hd ts).text)) []) ts.tail).bind fun l ts'=>.ok (.mk (ZY (hd ts).text) [] 0 l ts.length) ts'
 else if (hd ts).text=[110,105,108] then .ok (.mk 5 [] 0 [] ts.length) ts.tail
 else if (hd ts).text=[95] then .ok (.mk 2 [] 0 [] ts.length) ts.tail
 else .ok (.mk 1 (hd ts).text 0 [] ts.length) ts.tail
def Ex.at':Ex→Nat | .mk _ _ _ _ a=>a
def UC (sub:Nat→Ts→R Ex) (least:Nat):Nat→Ex→Ts→R Ex
 | 0,_,_=>.err 0 150
 | f+1,e,ts=>if (U3 ts).1<least∨(U3 ts).1=0 then .ok e ts
   else (sub ((U3 ts).1+1) ts.tail).bind fun g ts'=>UC sub least f (.mk (U3 ts).2 [] 0 [e,g] e.at') ts'
def U4 (sg:Ts→R Ex):Nat→Nat→Ts→R Ex
 | 0,_,ts=>sg ts
 | k+1,least,ts=>(sg ts).bind fun e ts=>UC (U4 sg k) least (ts.length+1) e ts
def JH (d:Nat) (sg:Ts→R Ex) (ts:Ts):R Ex :=
 if isW ts [[45]]=true then (Zo d [45] [] sg ts).bind fun e ts'=>.ok (.mk 8 [] 0 [e] ts.length) ts'
 else if isW ts [[126]]=true then (Zo d [126] [] sg ts).bind fun e ts'=>.ok (.mk 9 [] 0 [e] ts.length) ts'
 else VW d (U4 sg 6 1) ts
def Xy:Nat→Ts→R Ex
 | 0=>JH 0 fun _=>.err 0 150
 | d+1=>JH (d+1) (Xy d)
def WH (d:Nat) (ts:Ts):R Ex:=U4 (Xy d) 6 1 ts
def ZbX:Nat→Ts→R Ex
 | 0=>fun _=>.err 0 150
 | d+1=>WH d
def ZaG (ts:Ts):Nat→List Bs→Option Nat
 | _,[]=>none
 | i,w::ws=>if isW ts [w]=true then some i else ZaG ts (i+1) ws
def ZQ:List Bs:=[[61],[33,61],[60],[60,61],[62],[62,61]]
def Yc:List Bs:=[[99,111,117,110,116],[115,117,109],[109,105,110],[109,97,120]]
def Za1 (ts:Ts):R Nat:=match ZaG ts 0 ZQ with
 | none=>.err ts.length 150
 | some 0=>match ZaG ts.tail 0 Yc with
  | some j=>.ok (9+j) ts.tail.tail
  | none=>.ok 3 ts.tail
 | some k=>.ok (3+k) ts.tail
def Za2 (d op a:Nat) (ts:Ts):R Li:=(XE ts).bind fun nm ts=>(ZdJ d (ZbX d) [40] [41] ts).bind fun l ts=>.ok (.mk op nm l [] a) ts
def X5 (d:Nat) (bd:Ts→R (List Li)) (a op:Nat) (l:List Ex) (ts:Ts):R Li :=
 if 9≤op then (ZT [58] ts).bind fun _ ts=>(Zo d [123] [125] bd ts).bind fun b ts=>.ok (.mk op [] l b a) ts
 else .ok (.mk op [] l [] a) ts
def ZiQ (d:Nat) (bd:Ts→R (List Li)) (t0:Ts):R Li:=(WH d t0).bind fun e ts=>(Za1 ts).bind fun op ts =>
 if op=9 then X5 d bd t0.length op [e] ts else (WH d ts).bind fun g ts=>X5 d bd t0.length op [e,g] ts
def ZhU (d:Nat) (bd:Ts→R (List Li)) (t0:Ts):R Li :=
 if isW t0 [[33]]=true then Za2 d 2 t0.length t0.tail
 else if ZB t0=true∧(hd t0.tail).kind=4∧(hd t0.tail).text=[40] then Za2 d 1 t0.length t0
 else ZiQ d bd t0
def Z5 (ts:Ts):Bool:=ZL ts || isW ts [[33]]
def ZhV:Nat→Ts→R (List Li)
 | 0=>X4 [44] 32 Z5 (ZhU 0 fun _=>.err 0 150)
 | d+1=>X4 [44] 32 Z5 (ZhU (d+1) (ZhV d))
def ZdK:Nat→Ts→R (List Li)
 | 0=>fun _=>.err 0 150
 | d+1=>ZhV d
def Zj4 (d:Nat) (bodies:Bool) (t0:Ts):R Ru:=(XE t0).bind fun nm ts=>(ZdJ d (ZbX d) [40] [41] ts).bind fun l ts =>
 if bodies=true∧isW ts [[58,45]]=true then (ZhV d ts.tail).bind fun b ts=>(ZT [46] ts).bind fun _ ts=>.ok ⟨nm,l,b,t0.length⟩ ts
 else (ZT [46] ts).bind fun _ ts=>.ok ⟨nm,l,[],t0.length⟩ ts
def Zj5 (d:Nat) (un:Ts→R Un) (t0:Ts):R Co:=(XE t0).bind fun nm ts=>(ZbB ts).bind fun ps ts =>
 if isW ts [[58]]=true then (XE ts.tail).bind fun b ts=>(ZbB ts).bind fun tys ts=>(Zo d [123] [125] un ts).bind fun u ts=>.ok (.mk nm ps b tys u t0.length) ts
 else (Zo d [123] [125] un ts).bind fun u ts=>.ok (.mk nm ps [] [] u t0.length) ts
def Zj6 (t0:Ts):R Ini:=(XE t0).bind fun nm ts=>(ZT [61] ts).bind fun _ ts=>(XE ts).bind fun c ts=>(ZbB ts).bind fun tys ts=>.ok ⟨nm,c,tys,t0.length⟩ ts
def Zj7 (t0:Ts):R Ov:=(XE t0).bind fun nm ts=>.ok ⟨nm,t0.length⟩ ts
def X6 (inside:Bool) (d:Nat) (un:Ts→R Un):Nat→Un→Ts→R Un
 | 0,_,_=>.err 0 150
 | f+1,.mk tys rels rules comps inits overs,ts =>
  if ts=[]∨(inside=true∧isW ts [[125]]=true) then .ok (.mk tys rels rules comps inits overs) ts
  else if isW ts [[116,121,112,101]]=true then (if tys.length=256 then .err ts.length 3 else (Zer ts.tail).bind fun x ts=>X6 inside d un f (.mk (tys++[x]) rels rules comps inits overs) ts)
  else if isW ts [[100,101,99,108]]=true then (if rels.length=256 then .err ts.length 3 else (Zj3 ts.tail).bind fun x ts=>X6 inside d un f (.mk tys (rels++[x]) rules comps inits overs) ts)
  else if isW ts [[99,111,109,112]]=true then (if comps.length=64 then .err ts.length 3 else (Zj5 d un ts.tail).bind fun x ts=>X6 inside d un f (.mk tys rels rules (comps++[x]) inits overs) ts)
  else if isW ts [[105,110,105,116]]=true then (if inits.length=256 then .err ts.length 3 else (Zj6 ts.tail).bind fun x ts=>X6 inside d un f (.mk tys rels rules comps (inits++[x]) overs) ts)
  else if isW ts [[111,118,101,114,114,105,100,101]]=true then (if overs.length=256 then .err ts.length 3 else (Zj7 ts.tail).bind fun x ts=>X6 inside d un f (.mk tys rels rules comps inits (overs++[x])) ts)
  else if ZB ts=true then (if rules.length=1024 then .err ts.length 3 else (Zj4 d true ts).bind fun x ts=>X6 inside d un f (.mk tys rels (rules++[x]) comps inits overs) ts)
  else .err ts.length 150
def Un.nil:Un:=.mk [] [] [] [] [] []
def ZhW (inside:Bool) (d:Nat) (un:Ts→R Un) (ts:Ts):R Un:=X6 inside d un (ts.length+1) .nil ts
def Zj8:Nat→Ts→R Un
 | 0=>ZhW true 0 fun _=>.err 0 150
 | d+1=>ZhW true (d+1) (Zj8 d)
def Wh (ts:Ts):R Un:=ZhW false 64 (Zj8 63) ts
end Go.PM.Lex
end

section
noncomputable section
namespace Go.PM.Lex
open Go.Proofs
def tz (L:List Tok) (a:Int):Ts:=(L.drop a.toNat).map Tok.t0
def Zd (L:List Tok) (en:Int) (r:Nat):Int:=match L.drop (L.length - r) with
 | []=>en
 | t::_=>t.at'
structure ROK (L:List Tok) (a:Int) (ts:Ts):Prop where
 lo:0≤a
 hi:a≤L.length
 big:L.length≤1048576
 eq:tz L a=ts
theorem ROK.len {L:List Tok} {a:Int} {ts:Ts} (h:ROK L a ts):(ts.length:Int)=L.length - a:=by
 rw [← h.eq];simp only [tz,Tf,Tt];have:=h.lo;have:=h.hi;omega
theorem ROK.next {L:List Tok} {a:Int} {t:T0} {ts:Ts} (h:ROK L a (t::ts)):ROK L (a+1) ts:=by
 have hl:=h.len
 have h0:=h.lo
 refine ⟨by omega,by simp at hl;omega,h.big,?_⟩
 have:=h.eq
 simp only [tz] at this ⊢
 rw [show (a+1).toNat=a.toNat+1 by omega,← TL,List.map_drop,this];rfl
theorem UD {ts:Ts} {ws:List Bs} (h:isW ts ws=true):ts≠[]:=by rintro rfl;simp [isW,hd] at h
theorem ZcR {ts:Ts} (h:ZB ts=true):ts≠[]:=by rintro rfl;simp [ZB,hd] at h
theorem ROK.tl {L:List Tok} {a:Int} {ts:Ts} (h:ROK L a ts) (hn:ts≠[]):ROK L (a+1) ts.tail:=by
 cases ts with
 | nil=>exact absurd rfl hn
 | cons t ts=>exact h.next
theorem ROK.get {L:List Tok} {a:Int} {t:T0} {ts:Ts} (h:ROK L a (t::ts)):∃x,L[a.toNat]?=some x∧x.t0=t∧∀en,Zd L en (ts.length+1)=x.at':=by
 have hl:=h.len
 have h0:=h.lo
 have h1:=h.eq
 simp only [Tc] at hl
 have hlt:a.toNat<L.length:=by omega
 refine ⟨L[a.toNat],Th hlt,?_,fun en=>?_⟩
 ·simp only [tz] at h1
  rw [Sq hlt] at h1
  simp only [TA,List.cons.injEq] at h1
  exact h1.1
 ·unfold Zd
  rw [show L.length - (ts.length+1)=a.toNat by omega,Sq hlt]
theorem ROK.none {L:List Tok} {a:Int} (h:ROK L a []):a=L.length:=by have:=h.len;simp at this;omega
theorem ZbC (L:List Tok) (en:Int):Zd L en 0=en:=by simp [Zd]
abbrev Pl:=Nat→Int
mutual
def YU (pl:Pl):Ex→List D
 | .mk op text n args a=>[.int .u8 op,.str text,.int .i64 n,.sl (Y0 pl args),.int .i64 (pl a)]
def Y0 (pl:Pl):List Ex→List (List D)
 | []=>[]
 | e::l=>YU pl e::Y0 pl l
end
mutual
def WR (pl:Pl):Li→List D
 | .mk op rel args body a=>[.int .u8 op,.str rel,.sl (Y0 pl args),.sl (ZdL pl body),.int .i64 (pl a)]
def ZdL (pl:Pl):List Li→List (List D)
 | []=>[]
 | e::l=>WR pl e::ZdL pl l
end
def Yp (pl:Pl) (r:Ru):List D:=[.str r.head,.sl (Y0 pl r.args),.sl (ZdL pl r.body),.int .i64 (pl r.at')]
def ZN (f:Fi):List D:=[.str f.name,.str f.typ]
def Z6 (c:Ca):List D:=[.str c.name,.sl (c.fields.map ZN)]
def Y4 (pl:Pl) (t:Ty):List D:=[.int .u8 t.kind,.str t.name,.str t.base,.sl (t.fields.map ZN),.sl (t.cases.map Z6),.int .i64 (pl t.at')]
def Y1 (pl:Pl) (r:Re):List D:=[.str r.name,.sl (r.fields.map ZN),.bool r.inn,.bool r.out,.bool r.inl,.int .i64 (pl r.at')]
def ZM (s:Bs):List D:=[.str s]
def Y9 (pl:Pl) (i:Ini):List D:=[.str i.name,.str i.comp,.sl (i.types.map ZM),.int .i64 (pl i.at')]
def Xa (pl:Pl) (o:Ov):List D:=[.str o.rel,.int .i64 (pl o.at')]
mutual
def XF (pl:Pl):Un→List D
 | .mk tys rels rules comps inits overs=>[.sl (tys.map (Y4 pl)),.sl (rels.map (Y1 pl)),.sl (rules.map (Yp pl)),.sl (Zgs pl comps),.sl (inits.map (Y9 pl)),.sl (overs.map (Xa pl))]
def YM (pl:Pl):Co→List D
 | .mk name params base types u a=>[.str name,.sl (params.map ZM),.str base,.sl (types.map ZM)]++XF pl u++[.int .i64 (pl a)]
def Zgs (pl:Pl):List Co→List (List D)
 | []=>[]
 | e::l=>YM pl e::Zgs pl l
end
theorem Zk (pl:Pl) (l:List Ex):Y0 pl l=l.map (YU pl):=by induction l with | nil=>rfl | cons x l ih=>simp [Y0,ih]
theorem ZF (pl:Pl) (l:List Li):ZdL pl l=l.map (WR pl):=by induction l with | nil=>rfl | cons x l ih=>simp [ZdL,ih]
theorem Zal (pl:Pl) (l:List Co):Zgs pl l=l.map (YM pl):=by induction l with | nil=>rfl | cons x l ih=>simp [Zgs,ih]
abbrev Zam (l:List D):PV:=.agg (l.map .d)
abbrev flt (L:List Tok) (en:Int) (r e:Nat):PV:=.iface 138 (.agg [.d (.int .i64 (Zd L en r)),.d (.int .i64 e)])
abbrev RK:=PEnd→Int→Int→Prop
def RKk {α:Type} (enc:α→PV) (L:List Tok) (en dp lo:Int) (x:R α) (K:RK):Prop:=match x with
 | .ok v ts'=>∀a',lo≤a'→ROK L a' ts'→K (.ret (enc v)) a' dp
 | .err r e=>∀a' dp',K (.panic (flt L en r e)) a' dp'
theorem ZZ {α:Type} {enc:α→PV} {L:List Tok} {en dp lo:Int} {x:R α} {K K':RK} (hK:∀pe a d,K pe a d→K' pe a d) (h:RKk enc L en dp lo x K):RKk enc L en dp lo x K':=by
 cases x with
 | ok v ts=>exact fun a' h1 h2=>hK _ _ _ (h a' h1 h2)
 | err r e=>exact fun a' d=>hK _ _ _ (h a' d)
def XG (body:List PV→List Tok→Int→Int→Int→Ts→RK→Prop):Zu:=fun args σ K=>match args,σ with
 | .ptr 0 0::rest,⟨[.cells t [.d (.sl rows),.d (.int .i64 a),.d (.int .i64 en),.d (.int .i64 dp)]],[],0⟩=>∃L ts,rows=ZG L∧ROK L a ts ∧
   body rest L en dp a ts fun pe a' dp'=>K pe ⟨[.cells t [.d (.sl (ZG L)),.d (.int .i64 a'),.d (.int .i64 en),.d (.int .i64 dp')]],[],0⟩
 | _,_=>False
theorem Zz {body:List PV→List Tok→Int→Int→Int→Ts→RK→Prop} (hb:∀rest L en dp a ts (K K':RK),(∀pe a d,K pe a d→K' pe a d)→body rest L en dp a ts K→body rest L en dp a ts K'):Zc (XG body):=fun args σ K K' hK h=>by
 unfold XG at h ⊢
 exact m116
def WI:Zu:=fun args σ K=>match args,σ with
 | [.d (.str s)],⟨[],[],0⟩=>∀n:Int,(ZY s:Int)=n→K (.ret (.d (.int .u8 n))) ⟨[],[],0⟩
 | _,_=>False
theorem Va:Zc WI:=fun args σ K K' hK h=>by
 unfold WI at h ⊢;split at h <;> first | exact fun n hn=>hK _ _ (h n hn) | exact h.elim
def ZcS:Zu:=fun args σ K=>match args,σ with
 | [.d (.str s)],⟨[],[],0⟩=>∀b,Zgr s=b→K (.ret (.d (.bool b))) ⟨[],[],0⟩
 | _,_=>False
theorem JJ:Zc ZcS:=fun args σ K K' hK h=>by
 unfold ZcS at h ⊢;split at h <;> first | exact fun n hn=>hK _ _ (h n hn) | exact h.elim
def ZdM (s:Bs):Nat→List Bs→Int
 | _,[]=>-1
 | i,w::ws=>if s=w then i else ZdM s (i+1) ws
def Zan:Zu:=fun args σ K=>match args,σ with
 | [.d (.sl rows),.d (.str s)],⟨[],[],0⟩=>∃ws:List Bs,rows=ws.map ZM∧ws.length≤1048576∧K (.ret (.d (.int .i64 (ZdM s 0 ws)))) ⟨[],[],0⟩
 | _,_=>False
theorem Ze9:Zc Zan:=fun args σ K K' hK h=>by
 unfold Zan at h ⊢;split at h
 ·obtain ⟨ws,h1,h2,h3⟩:=h;exact ⟨ws,h1,h2,hK _ _ h3⟩
 ·exact h.elim
def Vx:Zu:=fun args σ K=>match args,σ with
 | [.d (.sl rows),.d (.str s)],⟨[],[],0⟩=>∃ws:List Bs,rows=ws.map ZM∧ws.length≤1048576∧∀b,ws.contains s=b→K (.ret (.d (.bool b))) ⟨[],[],0⟩
 | _,_=>False
theorem ZcT:Zc Vx:=fun args σ K K' hK h=>by
 unfold Vx at h ⊢;split at h
 ·obtain ⟨ws,h1,h2,h3⟩:=h;exact ⟨ws,h1,h2,fun b hb=>hK _ _ (h3 b hb)⟩
 ·exact h.elim
def Jj:Zu:=XG fun rest L en dp a ts K=>match rest with
 | [.d (.int .i64 n)]=>∀fin,(n=0∧K (.ret (.agg [.d (.int .u8 (hd ts).kind),.d (.str (hd ts).text),.d (.int .i64 (hd ts).n),.d (.int .i64 (Zd L en ts.length)),.d (.int .i64 fin)])) a dp) ∨
   (n=1∧K (.ret (.agg [.d (.int .u8 (hd ts.tail).kind),.d (.str (hd ts.tail).text),.d (.int .i64 (hd ts.tail).n),.d (.int .i64 (Zd L en ts.tail.length)),.d (.int .i64 fin)])) a dp)
 | _=>False
theorem Xi:Zc Jj:=Zz fun rest L en dp a ts K K' hK h=>by
 split at h
 ·exact fun fin=>Or.imp (fun g=>⟨g.1,hK _ _ _ g.2⟩) (fun g=>⟨g.1,hK _ _ _ g.2⟩) (h fin)
 ·exact h.elim
def Wi:Zu:=XG fun rest L en dp a ts K=>match rest with
 | []=>K (.ret (.d (.int .i64 (Zd L en ts.length)))) a dp
 | _=>False
theorem Yh:Zc Wi:=Zz fun rest L en dp a ts K K' hK h=>by
 split at h
 ·exact hK _ _ _ h
 ·exact h.elim
def ZfL:Zu:=XG fun rest L en dp a ts K=>match rest with
 | [.d (.sl rows)]=>∃ws:List Bs,rows=ws.map ZM∧ws.length≤1048576∧∀b,isW ts ws=b→K (.ret (.d (.bool b))) a dp
 | _=>False
theorem Z7:Zc ZfL:=Zz fun rest L en dp a ts K K' hK h=>by
 split at h
 ·obtain ⟨ws,h1,h2,h3⟩:=h;exact ⟨ws,h1,h2,fun b hb=>hK _ _ _ (h3 b hb)⟩
 ·exact h.elim
def U5 (p:Ts→Bool):Zu:=XG fun rest L en dp a ts K=>match rest with
 | []=>∀b,p ts=b→K (.ret (.d (.bool b))) a dp
 | _=>False
theorem Y2 (p:Ts→Bool):Zc (U5 p):=Zz fun rest L en dp a ts K K' hK h=>by
 split at h
 ·exact fun b hb=>hK _ _ _ (h b hb)
 ·exact h.elim
def YN:Zu:=XG fun rest L en dp a ts K=>match rest with
 | [.d (.int .i64 e)]=>K (.panic (.iface 138 (.agg [.d (.int .i64 (Zd L en ts.length)),.d (.int .i64 e)]))) a dp
 | _=>False
theorem Zt:Zc YN:=Zz fun rest L en dp a ts K K' hK h=>by
 split at h
 ·exact hK _ _ _ h
 ·exact h.elim
def X7:Zu:=XG fun rest L en dp a ts K=>match rest with
 | [.d (.sl rows)]=>∃ws:List Bs,rows=ws.map ZM∧ws.length≤1048576∧(isW ts ws=true→ROK L (a+1) ts.tail→K (.ret (.d (.bool true))) (a+1) dp)∧(isW ts ws=false→K (.ret (.d (.bool false))) a dp)
 | _=>False
theorem ZC:Zc X7:=Zz fun rest L en dp a ts K K' hK h=>by
 split at h
 ·obtain ⟨ws,h1,h2,h3,h4⟩:=h;exact ⟨ws,h1,h2,fun b hb=>hK _ _ _ (h3 b hb),fun b=>hK _ _ _ (h4 b)⟩
 ·exact h.elim
def Zgt:Zu:=XG fun rest L en dp a ts K=>match rest with
 | [.d (.int .i64 n),.d (.int .i64 m)]=>(n=m→K (.panic (flt L en ts.length 3)) a dp)∧(n≠m→K (.ret (.tuple [])) (a+1) dp)
 | _=>False
theorem ZhX:Zc Zgt:=Zz fun rest L en dp a ts K K' hK h=>by
 split at h
 ·exact ⟨fun g=>hK _ _ _ (h.1 g),fun g=>hK _ _ _ (h.2 g)⟩
 ·exact h.elim
def spR {α:Type} (enc:List Tok→Int→α→PV) (P:Ts→R α) (lo:Int):Zu:=XG fun rest L en dp a ts K=>match rest with
 | []=>∀x,P ts=x→RKk (enc L en) L en dp (a+lo) x K
 | _=>False
theorem YD {α:Type} (enc:List Tok→Int→α→PV) (P:Ts→R α) (lo:Int):Zc (spR enc P lo):=Zz fun rest L en dp a ts K K' hK h=>by
 exact m99
def Xz:Zu:=XG fun rest L en dp a ts K=>match rest with
 | [.d (.str w)]=>∀x,ZT w ts=x→RKk (fun _=>.tuple []) L en dp (a+1) x K
 | _=>False
theorem Zx:Zc Xz:=Zz fun rest L en dp a ts K K' hK h=>by
 exact m99
abbrev XP:Zu:=spR (fun _ _ (v:Bs)=>.d (.str v)) XE 1
end Go.PM.Lex
end
end

section
namespace Go.PM.Lex
open Go.Proofs
variable {w0:World} {nG:Nat}
theorem Za3:PCalls (GG w0 nG) 212 WI:=by
 refine pc (tbl:=[]) trivial Tryz.func212 ?_
 intro args σ K h
 unfold WI at h
 split at h
 ·rename_i s
  refine ⟨Zb [],0,false,by simp,Tb rfl,?_⟩
  repeat' ((conv=>whnf);refine Zyq (fun hc=>?_) (fun hc=>?_))
  all_goals (conv=>whnf)
  all_goals exact h _ (by simp [ZY, *])
 ·exact h.elim
noncomputable def Zqd:Tbl:=[(212,WI)]
theorem ZhY:PCalls (GG w0 nG) 148 ZcS:=by
 refine pc (tbl:=Zqd) ⟨⟨Za3,Va⟩,trivial⟩ Tryz.func148 ?_
 intro args σ K h
 unfold ZcS at h
 split at h
 ·rename_i s
  refine ⟨Zb [],0,false,by simp,Tb rfl,?_⟩
  repeat' ((conv=>whnf);refine Zyq (fun hc=>?_) (fun hc=>?_))
  all_goals (conv=>whnf)
  all_goals first
   | contradiction
   | exact h _ (by subst_vars;decide)
   | skip
  intro n hn
  conv=>whnf
  refine h _ ?_
  have hk:keptWords.contains s=false:=by
   have:¬s∈keptWords:=by
    simp only [keptWords,Tq,List.not_mem_nil,or_false,not_or]
    repeat' (first | assumption | refine ⟨by assumption,?_⟩)
   rw [Bool.eq_false_iff];intro g
   exact this (List.contains_iff_mem.1 g)
  rw [Zgr,hk,← hn]
  by_cases h0:ZY s=0 <;> simp [h0]
 ·exact h.elim
end Go.PM.Lex
end

section
namespace Go.PM.Lex
open Go.Proofs
variable {w0:World} {nG:Nat}
theorem Zes (s w:Bs) (i:Nat) (ws:List Bs):ZdM s i (w::ws)=if s=w then (i:Int) else ZdM s (i+1) ws:=rfl
theorem Zgu (s:Bs):∀(ws:List Bs) (i:Nat),(0≤ZdM s i ws)↔ws.contains s=true
 | [],i=>by simp [ZdM]
 | w::ws,i=>by
  rw [Zes]
  split
  ·rename_i h;subst h;simp
  ·rename_i h;rw [Zgu s ws];simp [h]
theorem Zka (s:Bs) (ws:List Bs) (i:Nat) (h:i<ws.length):ZdM s i (ws.drop i)=if s=ws[i] then (i:Int) else ZdM s (i+1) (ws.drop (i+1)):=by
 rw [Sq h,Zes]
theorem ZlU:PCalls (GG w0 nG) 257 Zan:=by
 refine pc (tbl:=[]) trivial Tryz.func257 ?_
 intro args σ K h
 unfold Zan at h
 split at h
 ·rename_i rows s
  obtain ⟨ws,rfl,hw,h⟩:=h
  refine ⟨Zb [(2,⟨[8],[0,1,7],fun vs σ=>∃i:Nat,vs=[.d (.int .i64 i)]∧σ=⟨[],[],0⟩∧i≤ws.length∧ZdM s 0 ws=ZdM s i (ws.drop i),fun vs _=>match vs with | [.d (.int _ i)]=>((ws.length:Int) - i).toNat | _=>0⟩)],0,false,by simp,Tb rfl,?_⟩
  conv=>whnf
  refine ⟨⟨0,rfl,rfl,by omega,rfl⟩,?_⟩
  intro vs σ hI
  obtain ⟨i,rfl,rfl,hi,hx⟩:=hI
  conv=>whnf
  refine Zyq (fun hc=>?_) (fun hc=>?_)
  ·have hc:i<ws.length:=by have hc:(i:Int)<((ws.map ZM).length:Int):=hc;rw [Tf] at hc;omega
   conv=>whnf
   refine ⟨ZM ws[i],by omega,by simp [hc],?_⟩
   rw [Zka s ws i hc] at hx
   conv=>whnf
   refine Zyq (fun h1=>?_) (fun h1=>?_)
   ·conv=>whnf
    rw [hx,Ti h1] at h
    exact h
   ·conv=>whnf
    rw [Te h1] at hx
    refine oiO ?_
    conv=>whnf
    refine ⟨⟨i+1,rfl,rfl,by omega,hx⟩,?_⟩
    show ((ws.length:Int) - ((i:Int)+1)).toNat<((ws.length:Int) - (i:Int)).toNat
    omega
  ·have hc:ws.length≤i:=by have hc:¬(i:Int)<((ws.map ZM).length:Int):=hc;rw [Tf] at hc;omega
   rw [TP hc] at hx
   conv=>whnf
   rw [hx] at h
   exact h
 ·exact h.elim
noncomputable def Zqe:Tbl:=[(257,Zan)]
theorem ZhZ:PCalls (GG w0 nG) 199 Vx:=by
 refine pc (tbl:=Zqe) ⟨⟨ZlU,Ze9⟩,trivial⟩ Tryz.func199 ?_
 intro args σ K h
 unfold Vx at h
 split at h
 ·rename_i rows s
  obtain ⟨ws,rfl,hw,h⟩:=h
  refine ⟨Zb [],0,false,by simp,Tb rfl,?_⟩
  conv=>whnf
  refine ⟨ws,rfl,hw,?_⟩
  conv=>whnf
  exact h _ (by rw [Bool.eq_iff_iff,Tz,← Zgu s ws 0])
 ·exact h.elim
end Go.PM.Lex
end

section
namespace Go.PM.Lex
open Go.Proofs
variable {w0:World} {nG:Nat}
theorem JK:PCalls (GG w0 nG) 198 Jj:=by
 refine pc (tbl:=[]) trivial Tryz.func198 ?_
 intro args σ K h
 unfold Jj XG at h
 split at h
 ·rename_i t rows a en dp
  obtain ⟨L,ts,rfl,ho,h⟩:=h
  split at h
  ·rename_i n
   have hl:=ho.len
   have h0:=ho.lo
   have h1:=ho.hi
   have h2:=ho.big
   have hn:n=0∨n=1:=by rcases h 0 with g | g <;> simp [g.1]
   refine ⟨Zb [],1,false,by simp,Tb rfl,?_⟩
   conv=>whnf
   refine oiO ?_
   conv=>whnf
   refine Zyq (fun hc=>?_) (fun hc=>?_)
   ·have hc:a+n<L.length:=by have hc:a+n<((ZG L).length:Int):=hc;rw [Y8] at hc;exact hc
    rcases hn with rfl | rfl
    ·cases ts with
     | nil=>simp at hl;omega
     | cons t0 ts =>
      obtain ⟨x,hx,rfl,hp⟩:=ho.get
      conv=>whnf
      refine ⟨ZtU x,by omega,by simp [ZG,hx],?_⟩
      conv=>whnf
      have h:=h x.fin
      rw [Tc,hp] at h
      rcases h with h | h
      ·exact h.2
      ·exact absurd h.1 (by omega)
    ·cases ts with
     | nil=>simp at hl;omega
     | cons t1 ts =>
     cases ts with
     | nil=>simp at hl;omega
     | cons t0 ts =>
      obtain ⟨x,hx,rfl,hp⟩:=ho.next.get
      conv=>whnf
      refine ⟨ZtU x,by omega,by simp [ZG,hx],?_⟩
      conv=>whnf
      have h:=h x.fin
      simp only [List.tail_cons,Tc,hp] at h
      rcases h with h | h
      ·exact absurd h.1 (by omega)
      ·exact h.2
   ·have hc:¬a+n<L.length:=by have hc:¬a+n<((ZG L).length:Int):=hc;rw [Y8] at hc;exact hc
    conv=>whnf
    have h:=h 0
    rcases hn with rfl | rfl
    ·cases ts with
     | nil => rcases h with h | h
              ·have h:=h.2;simp only [Td,ZbC] at h;exact h
              ·exact absurd h.1 (by omega)
     | cons t0 ts=>simp at hl;omega
    ·have:ts.tail=[]:=by
      cases ts with
      | nil=>rfl
      | cons t1 ts=>cases ts with
       | nil=>rfl
       | cons t0 ts=>simp at hl;omega
     rw [this] at h
     rcases h with h | h
     ·exact absurd h.1 (by omega)
     ·have h:=h.2;simp only [Td,ZbC] at h;exact h
  ·exact h.elim
 ·exact h.elim
end Go.PM.Lex
end

section
namespace Go.PM.Lex
open Go.Proofs
variable {w0:World} {nG:Nat}
noncomputable def ZnS:Tbl:=[(198,Jj)]
theorem ZnT (ht:TblOK (GG w0 nG) ZnS):PCalls (GG w0 nG) 141 Wi:=by
 refine pc ht Tryz.func141 ?_
 intro args σ K h
 unfold Wi XG at h
 split at h
 ·rename_i rest t rows a en dp
  obtain ⟨L,ts,rfl,ho,h⟩:=h
  split at h
  ·skip
   refine ⟨Zb [],1,false,by simp,Tb rfl,?_⟩
   conv=>whnf
   refine ⟨L,ts,rfl,ho,fun fin=>Or.inl ⟨rfl,?_⟩⟩
   exact m46
  ·exact h.elim
 ·exact h.elim
noncomputable def ZwV:Tbl:=[(198,Jj),(199,Vx)]
theorem ZwW (ht:TblOK (GG w0 nG) ZwV):PCalls (GG w0 nG) 136 ZfL:=by
 refine pc ht Tryz.func136 ?_
 intro args σ K h
 unfold ZfL XG at h
 split at h
 ·rename_i rest t rows a en dp
  obtain ⟨L,ts,rfl,ho,h⟩:=h
  split at h
  ·rename_i rows
   obtain ⟨ws,rfl,hw,h⟩:=h
   refine ⟨Zb [],1,false,by simp,Tb rfl,?_⟩
   conv=>whnf
   refine ⟨L,ts,rfl,ho,fun fin=>Or.inl ⟨rfl,?_⟩⟩
   conv=>whnf
   refine Zyq (fun h1=>?_) (fun h1=>?_)
   ·conv=>whnf
    refine ⟨ws,rfl,hw,fun b hb=>?_⟩
    conv=>whnf
    exact h _ (by simp only [isW,hb];simp [show (hd ts).kind=1 by omega])
   ·conv=>whnf
    refine Zyq (fun h2=>?_) (fun h2=>?_)
    ·conv=>whnf
     refine ⟨ws,rfl,hw,fun b hb=>?_⟩
     conv=>whnf
     exact h _ (by simp only [isW,hb];simp [show (hd ts).kind=4 by omega])
    ·conv=>whnf
     exact h _ (by simp [isW,show ¬(hd ts).kind=1 by omega,show ¬(hd ts).kind=4 by omega])
  ·exact h.elim
 ·exact h.elim
noncomputable def ZnU:Tbl:=[(198,Jj),(148,ZcS)]
theorem ZnV (ht:TblOK (GG w0 nG) ZnU):PCalls (GG w0 nG) 145 (U5 ZB):=by
 refine pc ht Tryz.func145 ?_
 intro args σ K h
 unfold U5 XG at h
 split at h
 ·rename_i rest t rows a en dp
  obtain ⟨L,ts,rfl,ho,h⟩:=h
  split at h
  ·skip
   refine ⟨Zb [],1,false,by simp,Tb rfl,?_⟩
   conv=>whnf
   refine ⟨L,ts,rfl,ho,fun fin=>Or.inl ⟨rfl,?_⟩⟩
   conv=>whnf
   refine Zyq (fun h1=>?_) (fun h1=>?_)
   ·conv=>whnf
    refine Zyv (fun h2=>?_) (fun h2=>?_)
    ·conv=>whnf
     intro b hb
     conv=>whnf
     exact h _ (by simp only [ZB,hb];rw [SB (show (hd ts).kind=1 by omega),decide_eq_false h2];simp)
    ·conv=>whnf
     exact h _ (by simp only [ZB];rw [SB (p:=(hd ts).text=[95]) h2];simp)
   ·conv=>whnf
    exact h _ (by simp [ZB,show ¬(hd ts).kind=1 by omega])
  ·exact h.elim
 ·exact h.elim
noncomputable def Zqf:Tbl:=[(141,Wi)]
theorem Zqg (ht:TblOK (GG w0 nG) Zqf):PCalls (GG w0 nG) 81 YN:=by
 refine pc ht Tryz.func81 ?_
 intro args σ K h
 unfold YN XG at h
 split at h
 ·rename_i rest t rows a en dp
  obtain ⟨L,ts,rfl,ho,h⟩:=h
  split at h
  ·skip
   refine ⟨Zb [],1,false,by simp,Tb rfl,?_⟩
   conv=>whnf
   refine ⟨L,ts,rfl,ho,?_⟩
   exact m46
  ·exact h.elim
 ·exact h.elim
noncomputable def Zqh:Tbl:=[(136,ZfL)]
theorem Zqi (ht:TblOK (GG w0 nG) Zqh):PCalls (GG w0 nG) 200 X7:=by
 refine pc ht Tryz.func200 ?_
 intro args σ K h
 unfold X7 XG at h
 split at h
 ·rename_i rest t rows a en dp
  obtain ⟨L,ts,rfl,ho,h⟩:=h
  split at h
  ·rename_i rows
   obtain ⟨ws,rfl,hw,h1,h2⟩:=h
   refine ⟨Zb [],1,false,by simp,Tb rfl,?_⟩
   conv=>whnf
   refine ⟨L,ts,rfl,ho,ws,rfl,hw,fun b hb=>?_⟩
   cases b with
   | true =>
    have ho2:=ho.tl (UD hb)
    have g1:=ho.lo
    have g2:=ho2.hi
    have g3:=ho2.big
    conv=>whnf
    refine oiO ?_
    conv=>whnf
    exact h1 hb ho2
   | false =>
    conv=>whnf
    exact h2 hb
  ·exact h.elim
 ·exact h.elim
noncomputable def Zqj:Tbl:=[(200,X7),(81,YN)]
theorem Zqk (ht:TblOK (GG w0 nG) Zqj):PCalls (GG w0 nG) 143 Xz:=by
 refine pc ht Tryz.func143 ?_
 intro args σ K h
 unfold Xz XG at h
 split at h
 ·rename_i rest t rows a en dp
  obtain ⟨L,ts,rfl,ho,h⟩:=h
  split at h
  ·rename_i w
   refine ⟨Zb [],1,false,by simp,Tb rfl,?_⟩
   conv=>whnf
   refine ⟨L,ts,rfl,ho,[w],rfl,by simp,fun hb ho2=>?_,fun hb=>?_⟩
   ·conv=>whnf
    have h:=h _ rfl
    rw [ZT,Ti hb] at h
    exact h _ (by omega) ho2
   ·conv=>whnf
    refine ⟨L,ts,rfl,ho,?_⟩
    conv=>whnf
    have h:=h _ rfl
    rw [ZT,Te (by rw [hb];simp)] at h
    exact h _ _
  ·exact h.elim
 ·exact h.elim
noncomputable def Zql:Tbl:=[(81,YN)]
theorem Zqm (ht:TblOK (GG w0 nG) Zql):PCalls (GG w0 nG) 137 Zgt:=by
 refine pc ht Tryz.func137 ?_
 intro args σ K h
 unfold Zgt XG at h
 split at h
 ·rename_i rest t rows a en dp
  obtain ⟨L,ts,rfl,ho,h⟩:=h
  split at h
  ·rename_i n m
   refine ⟨Zb [],1,false,by simp,Tb rfl,?_⟩
   have g1:=ho.lo
   have g2:=ho.hi
   have g3:=ho.big
   conv=>whnf
   refine Zyq (fun hc=>?_) (fun hc=>?_)
   ·conv=>whnf
    refine ⟨L,ts,rfl,ho,?_⟩
    conv=>whnf
    exact h.1 hc
   ·conv=>whnf
    refine oiO ?_
    conv=>whnf
    exact h.2 hc
  ·exact h.elim
 ·exact h.elim
noncomputable def ZnW:Tbl:=[(145,(U5 ZB)),(81,YN)]
theorem ZnX (ht:TblOK (GG w0 nG) ZnW):PCalls (GG w0 nG) 142 XP:=by
 refine pc ht Tryz.func142 ?_
 intro args σ K h
 unfold XP spR XG at h
 split at h
 ·rename_i rest t rows a en dp
  obtain ⟨L,ts,rfl,ho,h⟩:=h
  split at h
  ·skip
   refine ⟨Zb [],1,false,by simp,Tb rfl,?_⟩
   have h:=h _ rfl
   conv=>whnf
   refine ⟨L,ts,rfl,ho,fun b hb=>?_⟩
   cases b with
   | true =>
    have ho2:=ho.tl (ZcR hb)
    have g1:=ho.lo
    have g2:=ho2.hi
    have g3:=ho2.big
    rw [XE,Ti hb] at h
    conv=>whnf
    refine oiO ?_
    conv=>whnf
    refine oiO ?_
    conv=>whnf
    cases ts with
    | nil=>exact absurd rfl (ZcR hb)
    | cons t0 ts =>
     obtain ⟨x,hx,rfl,hp⟩:=ho.get
     refine ⟨ZtU x,by omega,by rw [show a+1 - 1=a by omega];simp [ZG,hx],?_⟩
     conv=>whnf
     exact h _ (by omega) ho2
   | false =>
    rw [XE,Te (by rw [hb];simp)] at h
    conv=>whnf
    refine ⟨L,ts,rfl,ho,?_⟩
    exact m44
  ·exact h.elim
 ·exact h.elim
noncomputable def ZlV:Tbl:=[(198,Jj),(136,ZfL),(148,ZcS),(212,WI)]
theorem ZlW (ht:TblOK (GG w0 nG) ZlV):PCalls (GG w0 nG) 262 (U5 ZL):=by
 refine pc ht Tryz.func262 ?_
 intro args σ K h
 unfold U5 XG at h
 split at h
 ·rename_i rest t rows a en dp
  obtain ⟨L,ts,rfl,ho,h⟩:=h
  split at h
  ·skip
   refine ⟨Zb [],1,false,by simp,Tb rfl,?_⟩
   conv=>whnf
   refine ⟨L,ts,rfl,ho,fun fin=>Or.inl ⟨rfl,?_⟩⟩
   conv=>whnf
   refine Zyq (fun h1=>?_) (fun h1=>?_)
   ·conv=>whnf
    refine Zyq (fun _=>?_) (fun g=>absurd h1 g)
    conv=>whnf
    exact h _ (by rw [ZL,Ti (by omega)])
   conv=>whnf
   refine Zyq (fun h2=>?_) (fun h2=>?_)
   ·conv=>whnf
    exact h _ (by rw [ZL,Ti (by omega)])
   conv=>whnf
   refine Zyq (fun h3=>?_) (fun h3=>?_)
   ·conv=>whnf
    refine ⟨L,ts,rfl,ho,[[45],[126],[40],[91],[36]],rfl,by simp,fun b hb=>?_⟩
    conv=>whnf
    exact h _ (by rw [ZL,Te (by omega),Ti (by omega)];exact hb)
   conv=>whnf
   refine Zyq (fun h4=>?_) (fun h4=>?_)
   ·have e0:ZL ts=(!Zgr (hd ts).text || (decide ((hd ts).text=[110,105,108]) || decide (ZY (hd ts).text≠0))):=by rw [ZL,Te (by omega),Te (by omega),Ti (by omega)]
    rw [e0] at h
    conv=>whnf
    intro b hb
    rw [hb] at h
    cases b with
    | false => conv => whnf
               exact h _ rfl
    | true =>
     conv=>whnf
     refine Zyq (fun h5=>?_) (fun h5=>?_)
     ·conv=>whnf
      exact h _ (by rw [SB (p:=(hd ts).text=[110,105,108]) h5];rfl)
     ·conv=>whnf
      intro n hn
      conv=>whnf
      exact h _ (by rw [decide_eq_false (p:=(hd ts).text=[110,105,108]) h5,← hn];by_cases g:ZY (hd ts).text=0 <;> simp [g])
   ·conv=>whnf
    exact h _ (by rw [ZL,Te (by omega),Te (by omega),Te (by omega)])
  ·exact h.elim
 ·exact h.elim
noncomputable def ZlX:Zu:=XG fun rest L en dp a ts K=>match rest with
 | []=>∀n k:Int,((U3 ts).1:Int)=n→((U3 ts).2:Int)=k→K (.ret (.tuple [.d (.int .i64 n),.d (.int .u8 k)])) a dp
 | _=>False
theorem Zet:Zc ZlX:=Zz fun rest L en dp a ts K K' hK h=>by
 split at h
 ·exact fun n k h1 h2=>hK _ _ _ (h n k h1 h2)
 ·exact h.elim
noncomputable def ZtZ:Tbl:=[(198,Jj)]
theorem ZlY (ht:TblOK (GG w0 nG) ZtZ):PCalls (GG w0 nG) 162 ZlX:=by
 refine pc ht Tryz.func162 ?_
 intro args σ K h
 unfold ZlX XG at h
 split at h
 ·rename_i rest t rows a en dp
  obtain ⟨L,ts,rfl,ho,h⟩:=h
  split at h
  ·skip
   refine ⟨Zb [],1,false,by simp,Tb rfl,?_⟩
   conv=>whnf
   refine ⟨L,ts,rfl,ho,fun fin=>Or.inl ⟨rfl,?_⟩⟩
   conv=>whnf
   refine Zyv (fun h1=>?_) (fun h1=>?_)
   ·conv=>whnf
    refine Zyv (fun h2=>?_) (fun h2=>?_)
    ·conv=>whnf
     have e0:U3 ts=(0,0):=by rw [U3,Ti (by omega)]
     exact h _ _ (by rw [e0];rfl) (by rw [e0];rfl)
    ·have hn:¬((hd ts).kind≠1∧(hd ts).kind≠4):=by omega
     clear h1 h2
     exact m101
   ·have hn:¬((hd ts).kind≠1∧(hd ts).kind≠4):=by omega
    clear h1
    exact m101
  ·exact h.elim
 ·exact h.elim
end Go.PM.Lex
end

section
namespace Go.PM.Lex
open Go.Proofs
variable {w0:World} {nG:Nat}
noncomputable def Zh0 (body:List PV→List Tok→Int→Int→Int→Ts→RK→Prop):Zu:=fun args σ K=>match args,σ with
 | .ptr 0 0::rest,⟨[.cells t0 [.ptr 1 0],.cells t [.d (.sl rows),.d (.int .i64 a),.d (.int .i64 en),.d (.int .i64 dp)]],[],0⟩=>∃L ts,rows=ZG L∧ROK L a ts ∧
   body rest L en dp a ts fun pe a' dp'=>K pe ⟨[.cells t0 [.ptr 1 0],.cells t [.d (.sl (ZG L)),.d (.int .i64 a'),.d (.int .i64 en),.d (.int .i64 dp')]],[],0⟩
 | _,_=>False
theorem Zeu {body:List PV→List Tok→Int→Int→Int→Ts→RK→Prop} (hb:∀rest L en dp a ts (K K':RK),(∀pe a d,K pe a d→K' pe a d)→body rest L en dp a ts K→body rest L en dp a ts K'):Zc (Zh0 body):=fun args σ K K' hK h=>by
 unfold Zh0 at h ⊢
 exact m116
noncomputable def Zqn {α:Type} (enc:List Tok→Int→α→PV) (P:Ts→R α) (lo:Int):Zu:=Zh0 fun rest L en dp a ts K=>match rest with
 | []=>∀x,P ts=x→RKk (enc L en) L en dp (a+lo) x K
 | _=>False
theorem Zgv {α:Type} (enc:List Tok→Int→α→PV) (P:Ts→R α) (lo:Int):Zc (Zqn enc P lo):=Zeu fun rest L en dp a ts K K' hK h=>by
 exact m99
noncomputable def Zgw (p:Ts→Bool):Zu:=Zh0 fun rest L en dp a ts K=>match rest with
 | []=>∀b,p ts=b→K (.ret (.d (.bool b))) a dp
 | _=>False
theorem Zh1 (p:Ts→Bool):Zc (Zgw p):=Zeu fun rest L en dp a ts K K' hK h=>by
 split at h
 ·exact fun b hb=>hK _ _ _ (h b hb)
 ·exact h.elim
noncomputable def Zgx {α:Type} (enc:List Tok→Int→α→PV) (P:Ts→R α) (lo:Int) (d:Nat):Zu:=XG fun rest L en dp a ts K=>match rest with
 | []=>(dp=64 - (d:Int)∧0≤dp)∧∀x,P ts=x→RKk (enc L en) L en dp (a+lo) x K
 | _=>False
theorem XA {α:Type} (enc:List Tok→Int→α→PV) (P:Ts→R α) (lo:Int) (d:Nat):Zc (Zgx enc P lo d):=Zz fun rest L en dp a ts K K' hK h=>by
 exact m45
theorem Zr {α β:Type} (f:α→β) (l:List α) (x:α):l.map f++[f x]=(l++[x]).map f:=by simp
theorem UE {α : Type} (sign : Bs) (most : Nat) (st : Ts → Bool) (one : Ts → R α) (f : Nat) (l : List α) (ts : Ts) : X3 sign most st one (f + 1) l ts = if st ts = true ∧ l.length = most then .err ts.length 3
      else (one ts).bind fun x ts=>if isW ts [sign]=true then X3 sign most st one f (l++[x]) ts.tail else .ok (l++[x]) ts:=rfl
noncomputable def WJ:Zu:=fun args σ K=>match args,σ with
 | [.ptr 0 0,.d (.str sg),.d (.int .i64 m),.func g1 [.ptr 0 0] [],.func g2 [] [.ptr 1 0]],⟨[.cells t [.d (.sl rows),.d (.int .i64 a),.d (.int .i64 en),.d (.int .i64 dp)],.cells t0 [.ptr 0 0]],[],0⟩ =>
   (sg=[44]∧m=12∧g1=145∧g2=259)∧∃L ts,rows=ZG L∧ROK L a ts∧∀x,X4 [44] 12 ZB Ud ts=x →
    RKk (fun (l:List Fi)=>.d (.sl (l.map (ZN)))) L en dp a x fun pe a' dp'=>K pe ⟨[.cells t [.d (.sl (ZG L)),.d (.int .i64 a'),.d (.int .i64 en),.d (.int .i64 dp')],.cells t0 [.ptr 0 0]],[],0⟩
 | _,_=>False
theorem ZbY:Zc (WJ):=fun args σ K K' hK h=>by
 unfold WJ at h ⊢
 exact m42
noncomputable def Zgy:Tbl:=[(145,(U5 ZB)),(81,YN),(259,(Zqn (fun _ _ (v:Fi)=>Zam (ZN v)) Ud 1)),(200,X7)]
theorem Zgz (ht:TblOK (GG w0 nG) (Zgy)):PCalls (GG w0 nG) 258 (WJ):=by
 refine pc ht Tryz.func258 ?_
 intro args σ K h
 unfold WJ at h
 split at h
 ·rename_i sg m g1 g2 t rows a en dp t0
  obtain ⟨⟨rfl,rfl,rfl,rfl⟩,L,ts,rfl,ho,h⟩:=h
  have h:=h _ rfl
  have hl:=ho.len
  have hbig:=ho.big
  have ha0:=ho.lo
  refine ⟨Zb [(2,⟨[11],[0,1,2,3,4],fun vs σ=>∃(l:List Fi) (a':Int) (ts':Ts) (f:Nat),vs=[.sl 0 66 (l.map (ZN))] ∧
   σ=⟨[.cells t [.d (.sl (ZG L)),.d (.int .i64 a'),.d (.int .i64 en),.d (.int .i64 dp)],.cells t0 [.ptr 0 0]],[0],1⟩∧ROK L a' ts'∧a+l.length≤a'∧ts'.length<f ∧
   X4 [44] 12 ZB Ud ts=X3 [44] 12 ZB Ud f l ts',
   fun _ σ=>match σ with | ⟨.cells _ [_,.d (.int _ i),_,_]::_,_,_⟩=>((L.length:Int) - i).toNat | _=>0⟩)],2,false,by simp,Tb rfl,?_⟩
  conv=>whnf
  refine ⟨⟨[],a,ts,ts.length+1,rfl,rfl,ho,by simp,by omega,rfl⟩,?_⟩
  intro vs σ hI
  obtain ⟨l,a1,ts1,f,rfl,rfl,ho1,hla,hf,hm⟩:=hI
  obtain ⟨f,rfl⟩:∃g,f=g+1:=⟨f - 1,by omega⟩
  rw [UE] at hm
  have hl1:=ho1.len
  have hhi1:=ho1.hi
  conv=>whnf
  refine ⟨L,ts1,rfl,ho1,fun b hb=>?_⟩
  have step:(¬(ZB ts1=true∧l.length=12))→X4 [44] 12 ZB Ud ts=((Ud) ts1).bind fun x ts=>if isW ts [[44]]=true then X3 [44] 12 ZB Ud f (l++[x]) ts.tail else .ok (l++[x]) ts:=fun g=>by rw [hm,Te g]
  cases b with
  | false =>
   have step:=step (by rw [hb];simp)
   exact m22
  | true =>
   conv=>whnf
   refine Zyq (fun hc=>?_) (fun hc=>?_)
   ·have hc:l.length=12:=by
     have hc:((l.map (ZN)).length:Int)=12:=hc
     rw [Tf] at hc;omega
    exact m146
   ·have step:=step (fun g=>hc (by show ((l.map (ZN)).length:Int)=12;rw [Tf,g.2];rfl))
    exact m22
 ·exact h.elim
noncomputable def UF:Zu:=fun args σ K=>match args,σ with
 | [.ptr 0 0,.d (.str sg),.d (.int .i64 m),.func g1 [.ptr 0 0] [],.func g2 [.ptr 0 0] []],⟨[.cells t [.d (.sl rows),.d (.int .i64 a),.d (.int .i64 en),.d (.int .i64 dp)]],[],0⟩ =>
   (sg=[44]∧m=12∧g1=145∧g2=142)∧∃L ts,rows=ZG L∧ROK L a ts∧∀x,X4 [44] 12 ZB XE ts=x →
    RKk (fun (l:List Bs)=>.d (.sl (l.map (ZM)))) L en dp a x fun pe a' dp'=>K pe ⟨[.cells t [.d (.sl (ZG L)),.d (.int .i64 a'),.d (.int .i64 en),.d (.int .i64 dp')]],[],0⟩
 | _,_=>False
theorem ZdN:Zc (UF):=fun args σ K K' hK h=>by
 unfold UF at h ⊢
 exact m42
noncomputable def Zkb:Tbl:=[(145,(U5 ZB)),(81,YN),(142,XP),(200,X7)]
theorem Zkc (ht:TblOK (GG w0 nG) (Zkb)):PCalls (GG w0 nG) 206 (UF):=by
 refine pc ht Tryz.func206 ?_
 intro args σ K h
 unfold UF at h
 split at h
 ·rename_i sg m g1 g2 t rows a en dp
  obtain ⟨⟨rfl,rfl,rfl,rfl⟩,L,ts,rfl,ho,h⟩:=h
  have h:=h _ rfl
  have hl:=ho.len
  have hbig:=ho.big
  have ha0:=ho.lo
  refine ⟨Zb [(2,⟨[11],[0,1,2,3,4],fun vs σ=>∃(l:List Bs) (a':Int) (ts':Ts) (f:Nat),vs=[.sl 0 9 (l.map (ZM))] ∧
   σ=⟨[.cells t [.d (.sl (ZG L)),.d (.int .i64 a'),.d (.int .i64 en),.d (.int .i64 dp)]],[0],1⟩∧ROK L a' ts'∧a+l.length≤a'∧ts'.length<f ∧
   X4 [44] 12 ZB XE ts=X3 [44] 12 ZB XE f l ts',
   fun _ σ=>match σ with | ⟨.cells _ [_,.d (.int _ i),_,_]::_,_,_⟩=>((L.length:Int) - i).toNat | _=>0⟩)],1,false,by simp,Tb rfl,?_⟩
  conv=>whnf
  refine ⟨⟨[],a,ts,ts.length+1,rfl,rfl,ho,by simp,by omega,rfl⟩,?_⟩
  intro vs σ hI
  obtain ⟨l,a1,ts1,f,rfl,rfl,ho1,hla,hf,hm⟩:=hI
  obtain ⟨f,rfl⟩:∃g,f=g+1:=⟨f - 1,by omega⟩
  rw [UE] at hm
  have hl1:=ho1.len
  have hhi1:=ho1.hi
  conv=>whnf
  refine ⟨L,ts1,rfl,ho1,fun b hb=>?_⟩
  have step:(¬(ZB ts1=true∧l.length=12))→X4 [44] 12 ZB XE ts=((XE) ts1).bind fun x ts=>if isW ts [[44]]=true then X3 [44] 12 ZB XE f (l++[x]) ts.tail else .ok (l++[x]) ts:=fun g=>by rw [hm,Te g]
  cases b with
  | false =>
   have step:=step (by rw [hb];simp)
   exact m24
  | true =>
   conv=>whnf
   refine Zyq (fun hc=>?_) (fun hc=>?_)
   ·have hc:l.length=12:=by
     have hc:((l.map (ZM)).length:Int)=12:=hc
     rw [Tf] at hc;omega
    exact m146
   ·have step:=step (fun g=>hc (by show ((l.map (ZM)).length:Int)=12;rw [Tf,g.2];rfl))
    exact m24
 ·exact h.elim
noncomputable def Vy:Zu:=fun args σ K=>match args,σ with
 | [.ptr 0 0,.d (.str sg),.d (.int .i64 m),.func g1 [.ptr 0 0] [],.func g2 [] [.ptr 1 0]],⟨[.cells t [.d (.sl rows),.d (.int .i64 a),.d (.int .i64 en),.d (.int .i64 dp)],.cells t0 [.ptr 0 0]],[],0⟩ =>
   (sg=[124]∧m=64∧g1=145∧g2=203)∧∃L ts,rows=ZG L∧ROK L a ts∧∀x,X4 [124] 64 ZB ZbW ts=x →
    RKk (fun (l:List Ca)=>.d (.sl (l.map (Z6)))) L en dp a x fun pe a' dp'=>K pe ⟨[.cells t [.d (.sl (ZG L)),.d (.int .i64 a'),.d (.int .i64 en),.d (.int .i64 dp')],.cells t0 [.ptr 0 0]],[],0⟩
 | _,_=>False
theorem ZcU:Zc (Vy):=fun args σ K K' hK h=>by
 unfold Vy at h ⊢
 exact m42
noncomputable def Zh2:Tbl:=[(145,(U5 ZB)),(81,YN),(203,(Zqn (fun _ _ (v:Ca)=>Zam (Z6 v)) ZbW 1)),(200,X7)]
theorem Zh3 (ht:TblOK (GG w0 nG) (Zh2)):PCalls (GG w0 nG) 202 (Vy):=by
 refine pc ht Tryz.func202 ?_
 intro args σ K h
 unfold Vy at h
 split at h
 ·rename_i sg m g1 g2 t rows a en dp t0
  obtain ⟨⟨rfl,rfl,rfl,rfl⟩,L,ts,rfl,ho,h⟩:=h
  have h:=h _ rfl
  have hl:=ho.len
  have hbig:=ho.big
  have ha0:=ho.lo
  refine ⟨Zb [(2,⟨[11],[0,1,2,3,4],fun vs σ=>∃(l:List Ca) (a':Int) (ts':Ts) (f:Nat),vs=[.sl 0 148 (l.map (Z6))] ∧
   σ=⟨[.cells t [.d (.sl (ZG L)),.d (.int .i64 a'),.d (.int .i64 en),.d (.int .i64 dp)],.cells t0 [.ptr 0 0]],[0],1⟩∧ROK L a' ts'∧a+l.length≤a'∧ts'.length<f ∧
   X4 [124] 64 ZB ZbW ts=X3 [124] 64 ZB ZbW f l ts',
   fun _ σ=>match σ with | ⟨.cells _ [_,.d (.int _ i),_,_]::_,_,_⟩=>((L.length:Int) - i).toNat | _=>0⟩)],2,false,by simp,Tb rfl,?_⟩
  conv=>whnf
  refine ⟨⟨[],a,ts,ts.length+1,rfl,rfl,ho,by simp,by omega,rfl⟩,?_⟩
  intro vs σ hI
  obtain ⟨l,a1,ts1,f,rfl,rfl,ho1,hla,hf,hm⟩:=hI
  obtain ⟨f,rfl⟩:∃g,f=g+1:=⟨f - 1,by omega⟩
  rw [UE] at hm
  have hl1:=ho1.len
  have hhi1:=ho1.hi
  conv=>whnf
  refine ⟨L,ts1,rfl,ho1,fun b hb=>?_⟩
  have step:(¬(ZB ts1=true∧l.length=64))→X4 [124] 64 ZB ZbW ts=((ZbW) ts1).bind fun x ts=>if isW ts [[124]]=true then X3 [124] 64 ZB ZbW f (l++[x]) ts.tail else .ok (l++[x]) ts:=fun g=>by rw [hm,Te g]
  cases b with
  | false =>
   have step:=step (by rw [hb];simp)
   exact m21
  | true =>
   conv=>whnf
   refine Zyq (fun hc=>?_) (fun hc=>?_)
   ·have hc:l.length=64:=by
     have hc:((l.map (Z6)).length:Int)=64:=hc
     rw [Tf] at hc;omega
    exact m146
   ·have step:=step (fun g=>hc (by show ((l.map (Z6)).length:Int)=64;rw [Tf,g.2];rfl))
    exact m21
 ·exact h.elim
noncomputable def Zao (d:Nat):Zu:=fun args σ K=>match args,σ with
 | [.ptr 0 0,.d (.str sg),.d (.int .i64 m),.func g1 [.ptr 0 0] [],.func g2 [.ptr 0 0] []],⟨[.cells t [.d (.sl rows),.d (.int .i64 a),.d (.int .i64 en),.d (.int .i64 dp)]],[],0⟩ =>
   (sg=[44]∧m=12∧g1=262∧g2=35∧(dp=64 - (d:Int)∧0≤dp))∧∃L ts,rows=ZG L∧ROK L a ts∧∀x,X4 [44] 12 ZL (WH d) ts=x →
    RKk (fun (l:List Ex)=>.d (.sl (l.map (YU (Zd L en))))) L en dp a x fun pe a' dp'=>K pe ⟨[.cells t [.d (.sl (ZG L)),.d (.int .i64 a'),.d (.int .i64 en),.d (.int .i64 dp')]],[],0⟩
 | _,_=>False
noncomputable def ZlZ (d:Nat):Tbl:=[(262,(U5 ZL)),(81,YN),(35,(Zgx (fun L en (v:Ex)=>Zam (YU (Zd L en) v)) (WH d) 0 d)),(200,X7)]
theorem Zl0 (d:Nat) (ht:TblOK (GG w0 nG) (ZlZ d)):PCalls (GG w0 nG) 261 (Zao d):=by
 refine pc ht Tryz.func261 ?_
 intro args σ K h
 unfold Zao at h
 split at h
 ·rename_i sg m g1 g2 t rows a en dp
  obtain ⟨⟨rfl,rfl,rfl,rfl,hdp⟩,L,ts,rfl,ho,h⟩:=h
  have h:=h _ rfl
  have hl:=ho.len
  have hbig:=ho.big
  have ha0:=ho.lo
  refine ⟨Zb [(2,⟨[11],[0,1,2,3,4],fun vs σ=>∃(l:List Ex) (a':Int) (ts':Ts) (f:Nat),vs=[.sl 0 24 (l.map (YU (Zd L en)))] ∧
   σ=⟨[.cells t [.d (.sl (ZG L)),.d (.int .i64 a'),.d (.int .i64 en),.d (.int .i64 dp)]],[0],1⟩∧ROK L a' ts'∧a+l.length≤a'∧ts'.length<f ∧
   X4 [44] 12 ZL (WH d) ts=X3 [44] 12 ZL (WH d) f l ts',
   fun _ σ=>match σ with | ⟨.cells _ [_,.d (.int _ i),_,_]::_,_,_⟩=>((L.length:Int) - i).toNat | _=>0⟩)],1,false,by simp,Tb rfl,?_⟩
  conv=>whnf
  refine ⟨⟨[],a,ts,ts.length+1,rfl,rfl,ho,by simp,by omega,rfl⟩,?_⟩
  intro vs σ hI
  obtain ⟨l,a1,ts1,f,rfl,rfl,ho1,hla,hf,hm⟩:=hI
  obtain ⟨f,rfl⟩:∃g,f=g+1:=⟨f - 1,by omega⟩
  rw [UE] at hm
  have hl1:=ho1.len
  have hhi1:=ho1.hi
  conv=>whnf
  refine ⟨L,ts1,rfl,ho1,fun b hb=>?_⟩
  have step:(¬(ZL ts1=true∧l.length=12))→X4 [44] 12 ZL (WH d) ts=(((WH d)) ts1).bind fun x ts=>if isW ts [[44]]=true then X3 [44] 12 ZL (WH d) f (l++[x]) ts.tail else .ok (l++[x]) ts:=fun g=>by rw [hm,Te g]
  cases b with
  | false =>
   have step:=step (by rw [hb];simp)
   exact m19
  | true =>
   conv=>whnf
   refine Zyq (fun hc=>?_) (fun hc=>?_)
   ·have hc:l.length=12:=by
     have hc:((l.map (YU (Zd L en))).length:Int)=12:=hc
     rw [Tf] at hc;omega
    exact m146
   ·have step:=step (fun g=>hc (by show ((l.map (YU (Zd L en))).length:Int)=12;rw [Tf,g.2];rfl))
    exact m19
 ·exact h.elim
noncomputable def Zap (d:Nat):Zu:=fun args σ K=>match args,σ with
 | [.ptr 0 0,.d (.str sg),.d (.int .i64 m),.func g1 [] [.ptr 1 0],.func g2 [.ptr 0 0] []],⟨[.cells t [.d (.sl rows),.d (.int .i64 a),.d (.int .i64 en),.d (.int .i64 dp)],.cells t0 [.ptr 0 0]],[],0⟩ =>
   (sg=[44]∧m=32∧g1=264∧g2=265∧(dp=64 - (d:Int)∧0≤dp))∧∃L ts,rows=ZG L∧ROK L a ts∧∀x,X4 [44] 32 Z5 (ZhU d (ZdK d)) ts=x →
    RKk (fun (l:List Li)=>.d (.sl (l.map (WR (Zd L en))))) L en dp a x fun pe a' dp'=>K pe ⟨[.cells t [.d (.sl (ZG L)),.d (.int .i64 a'),.d (.int .i64 en),.d (.int .i64 dp')],.cells t0 [.ptr 0 0]],[],0⟩
 | _,_=>False
theorem Zfa (d:Nat):Zc (Zap d):=fun args σ K K' hK h=>by
 unfold Zap at h ⊢
 exact m42
noncomputable def Zl1 (d:Nat):Tbl:=[(264,(Zgw Z5)),(81,YN),(265,(Zgx (fun L en (v:Li)=>Zam (WR (Zd L en) v)) (ZhU d (ZdK d)) 0 d)),(200,X7)]
theorem Zl2 (d:Nat) (ht:TblOK (GG w0 nG) (Zl1 d)):PCalls (GG w0 nG) 263 (Zap d):=by
 refine pc ht Tryz.func263 ?_
 intro args σ K h
 unfold Zap at h
 split at h
 ·rename_i sg m g1 g2 t rows a en dp t0
  obtain ⟨⟨rfl,rfl,rfl,rfl,hdp⟩,L,ts,rfl,ho,h⟩:=h
  have h:=h _ rfl
  have hl:=ho.len
  have hbig:=ho.big
  have ha0:=ho.lo
  refine ⟨Zb [(2,⟨[11],[0,1,2,3,4],fun vs σ=>∃(l:List Li) (a':Int) (ts':Ts) (f:Nat),vs=[.sl 0 60 (l.map (WR (Zd L en)))] ∧
   σ=⟨[.cells t [.d (.sl (ZG L)),.d (.int .i64 a'),.d (.int .i64 en),.d (.int .i64 dp)],.cells t0 [.ptr 0 0]],[0],1⟩∧ROK L a' ts'∧a+l.length≤a'∧ts'.length<f ∧
   X4 [44] 32 Z5 (ZhU d (ZdK d)) ts=X3 [44] 32 Z5 (ZhU d (ZdK d)) f l ts',
   fun _ σ=>match σ with | ⟨.cells _ [_,.d (.int _ i),_,_]::_,_,_⟩=>((L.length:Int) - i).toNat | _=>0⟩)],2,false,by simp,Tb rfl,?_⟩
  conv=>whnf
  refine ⟨⟨[],a,ts,ts.length+1,rfl,rfl,ho,by simp,by omega,rfl⟩,?_⟩
  intro vs σ hI
  obtain ⟨l,a1,ts1,f,rfl,rfl,ho1,hla,hf,hm⟩:=hI
  obtain ⟨f,rfl⟩:∃g,f=g+1:=⟨f - 1,by omega⟩
  rw [UE] at hm
  have hl1:=ho1.len
  have hhi1:=ho1.hi
  conv=>whnf
  refine ⟨L,ts1,rfl,ho1,fun b hb=>?_⟩
  have step:(¬(Z5 ts1=true∧l.length=32))→X4 [44] 32 Z5 (ZhU d (ZdK d)) ts=(((ZhU d (ZdK d))) ts1).bind fun x ts=>if isW ts [[44]]=true then X3 [44] 32 Z5 (ZhU d (ZdK d)) f (l++[x]) ts.tail else .ok (l++[x]) ts:=fun g=>by rw [hm,Te g]
  cases b with
  | false =>
   have step:=step (by rw [hb];simp)
   exact m18
  | true =>
   conv=>whnf
   refine Zyq (fun hc=>?_) (fun hc=>?_)
   ·have hc:l.length=32:=by
     have hc:((l.map (WR (Zd L en))).length:Int)=32:=hc
     rw [Tf] at hc;omega
    exact m146
   ·have step:=step (fun g=>hc (by show ((l.map (WR (Zd L en))).length:Int)=32;rw [Tf,g.2];rfl))
    exact m18
 ·exact h.elim
end Go.PM.Lex
end

section
namespace Go.PM.Lex
open Go.Proofs
variable {w0:World} {nG:Nat}
noncomputable abbrev Zfb:Zu:=Zqn (fun _ _ (v:Fi)=>Zam (ZN v)) Ud 1
noncomputable abbrev Zh4:Zu:=Zqn (fun _ _ (v:Ca)=>Zam (Z6 v)) ZbW 1
noncomputable def VX:Zu:=XG fun rest L en dp a ts K=>match rest with
 | [.d (.str w)]=>∀x,UB w ts=x→RKk (fun (v:List Fi)=>.d (.sl (v.map ZN))) L en dp a x K
 | _=>False
theorem VY:Zc VX:=Zz fun rest L en dp a ts K K' hK h=>by
 exact m99
noncomputable abbrev ZcV:Zu:=spR (fun _ _ (v:List Bs)=>.d (.sl (v.map ZM))) ZbB 0
noncomputable abbrev Zfc:Zu:=spR (fun L en (v:Ty)=>Zam (Y4 (Zd L en) v)) Zer 0
noncomputable abbrev ZiR:Zu:=spR (fun L en (v:Re)=>Zam (Y1 (Zd L en) v)) Zj3 0
noncomputable def Zl3:Tbl:=[(142,XP),(143,Xz)]
theorem Zl4 (ht:TblOK (GG w0 nG) Zl3):PCalls (GG w0 nG) 259 Zfb:=by
 refine pc ht Tryz.func259 ?_
 intro args σ K h
 unfold Zfb Zqn Zh0 at h
 split at h
 ·rename_i rest t0 t rows a en dp
  obtain ⟨L,ts,rfl,ho,h⟩:=h
  split at h
  ·skip
   have h0:=ho.lo
   have h1:=ho.hi
   have h2:=ho.big
   refine ⟨Zb [],2,false,by simp,Tb rfl,?_⟩
   have h:=h _ rfl
   unfold Ud at h
   conv=>whnf
   refine ⟨L,ts,rfl,ho,fun x hx1=>?_⟩
   rcases x with ⟨v1,ts1⟩ | ⟨r1,e1⟩
   rotate_left
   ·exact m48
   rw [hx1,R.bind_ok] at h
   intro a1 hle1 ho1
   have hb1:=ho1.hi
   conv=>whnf
   refine ⟨L,ts1,rfl,ho1,fun x hx2=>?_⟩
   exact m148
  ·exact h.elim
 ·exact h.elim
noncomputable def Zl5:Tbl:=[(136,ZfL),(258,WJ)]
theorem Zl6 (ht:TblOK (GG w0 nG) Zl5):PCalls (GG w0 nG) 201 VX:=by
 refine pc ht Tryz.func201 ?_
 intro args σ K h
 unfold VX XG at h
 split at h
 ·rename_i rest t rows a en dp
  obtain ⟨L,ts,rfl,ho,h⟩:=h
  split at h
  ·rename_i w
   have h0:=ho.lo
   have h1:=ho.hi
   have h2:=ho.big
   refine ⟨Zb [],1,false,by simp,Tb rfl,?_⟩
   have h:=h _ rfl
   unfold UB at h
   conv=>whnf
   refine ⟨L,ts,rfl,ho,[w],rfl,by simp,fun b1 hw1=>?_⟩
   cases b1 with
   | true =>
    rw [Ti hw1] at h
    conv=>whnf
    exact h _ (by omega) ho
   | false =>
    rw [Te (by rw [hw1];simp)] at h
    conv=>whnf
    refine ⟨⟨rfl,rfl,rfl,rfl⟩,L,ts,rfl,ho,fun x hx2=>?_⟩
    rcases x with ⟨v2,ts2⟩ | ⟨r2,e2⟩
    rotate_left
    ·rw [hx2] at h;intro a9 d9;(conv=>whnf);exact h _ _
    rw [hx2] at h
    intro a2 hle2 ho2
    have hb2:=ho2.hi
    conv=>whnf
    exact h _ (by omega) ho2
  ·exact h.elim
 ·exact h.elim
noncomputable def ZnY:Tbl:=[(200,X7),(206,UF),(143,Xz)]
theorem ZnZ (ht:TblOK (GG w0 nG) ZnY):PCalls (GG w0 nG) 144 ZcV:=by
 refine pc ht Tryz.func144 ?_
 intro args σ K h
 unfold ZcV spR XG at h
 split at h
 ·rename_i rest t rows a en dp
  obtain ⟨L,ts,rfl,ho,h⟩:=h
  split at h
  ·skip
   have h0:=ho.lo
   have h1:=ho.hi
   have h2:=ho.big
   refine ⟨Zb [],1,false,by simp,Tb rfl,?_⟩
   have h:=h _ rfl
   unfold ZbB at h
   conv=>whnf
   refine ⟨L,ts,rfl,ho,[[60]],rfl,by simp,fun hw1 ho1=>?_,fun hw1=>?_⟩
   ·rw [Ti hw1] at h
    have hb1:=ho1.hi
    conv=>whnf
    refine ⟨⟨rfl,rfl,rfl,rfl⟩,L,ts.tail,rfl,ho1,fun x hx2=>?_⟩
    exact m148
   ·rw [Te (by rw [hw1];simp)] at h
    conv=>whnf
    exact h _ (by omega) ho
  ·exact h.elim
 ·exact h.elim
noncomputable def Zn0:Tbl:=[(142,XP),(143,Xz),(201,VX)]
theorem Zn1 (ht:TblOK (GG w0 nG) Zn0):PCalls (GG w0 nG) 203 Zh4:=by
 refine pc ht Tryz.func203 ?_
 intro args σ K h
 unfold Zh4 Zqn Zh0 at h
 split at h
 ·rename_i rest t0 t rows a en dp
  obtain ⟨L,ts,rfl,ho,h⟩:=h
  split at h
  ·skip
   have h0:=ho.lo
   have h1:=ho.hi
   have h2:=ho.big
   refine ⟨Zb [],2,false,by simp,Tb rfl,?_⟩
   have h:=h _ rfl
   unfold ZbW at h
   conv=>whnf
   refine ⟨L,ts,rfl,ho,fun x hx1=>?_⟩
   rcases x with ⟨v1,ts1⟩ | ⟨r1,e1⟩
   rotate_left
   ·exact m48
   rw [hx1,R.bind_ok] at h
   intro a1 hle1 ho1
   have hb1:=ho1.hi
   conv=>whnf
   refine ⟨L,ts1,rfl,ho1,fun x hx2=>?_⟩
   rcases x with ⟨v2,ts2⟩ | ⟨r2,e2⟩
   rotate_left
   ·exact m40
   rw [hx2,R.bind_ok] at h
   intro a2 hle2 ho2
   have hb2:=ho2.hi
   conv=>whnf
   refine ⟨L,ts2,rfl,ho2,fun x hx3=>?_⟩
   rcases x with ⟨v3,ts3⟩ | ⟨r3,e3⟩
   rotate_left
   ·exact m23
   rw [hx3,R.bind_ok] at h
   intro a3 hle3 ho3
   have hb3:=ho3.hi
   conv=>whnf
   refine ⟨L,ts3,rfl,ho3,fun x hx4=>?_⟩
   rcases x with ⟨v4,ts4⟩ | ⟨r4,e4⟩
   rotate_left
   ·exact m92
   rw [hx4,R.bind_ok] at h
   intro a4 hle4 ho4
   have hb4:=ho4.hi
   conv=>whnf
   exact h _ (by omega) ho4
  ·exact h.elim
 ·exact h.elim
noncomputable def Zn2:Tbl:=[(141,Wi),(142,XP),(200,X7),(143,Xz),(201,VX),(202,Vy)]
theorem Zn3 (ht:TblOK (GG w0 nG) Zn2):PCalls (GG w0 nG) 138 Zfc:=by
 refine pc ht Tryz.func138 ?_
 intro args σ K h
 unfold Zfc spR XG at h
 split at h
 ·rename_i rest t rows a en dp
  obtain ⟨L,ts,rfl,ho,h⟩:=h
  split at h
  ·skip
   have h0:=ho.lo
   have h1:=ho.hi
   have h2:=ho.big
   refine ⟨Zb [],1,false,by simp,Tb rfl,?_⟩
   have h:=h _ rfl
   unfold Zer at h
   conv=>whnf
   refine ⟨L,ts,rfl,ho,?_⟩
   conv=>whnf
   refine ⟨L,ts,rfl,ho,fun x hx1=>?_⟩
   rcases x with ⟨v1,ts1⟩ | ⟨r1,e1⟩
   rotate_left
   ·exact m48
   rw [hx1,R.bind_ok] at h
   intro a1 hle1 ho1
   have hb1:=ho1.hi
   conv=>whnf
   refine ⟨L,ts1,rfl,ho1,[[60,58]],rfl,by simp,fun hw2 ho2=>?_,fun hw2=>?_⟩
   ·rw [Ti hw2] at h
    have hb2:=ho2.hi
    conv=>whnf
    refine ⟨L,ts1.tail,rfl,ho2,fun x hx3=>?_⟩
    rcases x with ⟨v3,ts3⟩ | ⟨r3,e3⟩
    rotate_left
    ·exact m23
    exact m95
   ·rw [Te (by rw [hw2];simp)] at h
    conv=>whnf
    refine ⟨L,ts1,rfl,ho1,fun x hx3=>?_⟩
    rcases x with ⟨v3,ts3⟩ | ⟨r3,e3⟩
    rotate_left
    ·exact m23
    rw [hx3,R.bind_ok] at h
    intro a3 hle3 ho3
    have hb3:=ho3.hi
    conv=>whnf
    refine ⟨L,ts3,rfl,ho3,[[91]],rfl,by simp,fun hw4 ho4=>?_,fun hw4=>?_⟩
    ·rw [Ti hw4] at h
     have hb4:=ho4.hi
     conv=>whnf
     refine ⟨L,ts3.tail,rfl,ho4,fun x hx5=>?_⟩
     rcases x with ⟨v5,ts5⟩ | ⟨r5,e5⟩
     rotate_left
     ·exact m39
     rw [hx5,R.bind_ok] at h
     intro a5 hle5 ho5
     have hb5:=ho5.hi
     conv=>whnf
     refine ⟨L,ts5,rfl,ho5,fun x hx6=>?_⟩
     rcases x with ⟨v6,ts6⟩ | ⟨r6,e6⟩
     rotate_left
     ·rw [hx6,R.bind_err] at h;intro a9 d9;(conv=>whnf);exact h _ _
     rw [hx6,R.bind_ok] at h
     intro a6 hle6 ho6
     have hb6:=ho6.hi
     conv=>whnf
     exact h _ (by omega) ho6
    ·rw [Te (by rw [hw4];simp)] at h
     conv=>whnf
     refine ⟨⟨rfl,rfl,rfl,rfl⟩,L,ts3,rfl,ho3,fun x hx5=>?_⟩
     rcases x with ⟨v5,ts5⟩ | ⟨r5,e5⟩
     rotate_left
     ·exact m39
     rw [hx5,R.bind_ok] at h
     intro a5 hle5 ho5
     have hb5:=ho5.hi
     conv=>whnf
     exact h _ (by omega) ho5
  ·exact h.elim
 ·exact h.elim
end Go.PM.Lex
end

section
namespace Go.PM.Lex
open Go.Proofs
variable {w0:World} {nG:Nat}
def JZ (i o n:Bool):Nat:=(match i with | true=>0 | false=>1)+(match o with | true=>0 | false=>1)+(match n with | true=>0 | false=>1)
theorem Zkd (f : Nat) (i o n : Bool) (ts : Ts) : Yx (f + 1) i o n ts = if i = false ∧ isW ts [[105, 110, 112, 117, 116]] = true then Yx f true o n ts.tail
      else if o=false∧isW ts [[111,117,116,112,117,116]]=true then Yx f i true n ts.tail
      else if n=false∧isW ts [[105,110,108,105,110,101]]=true then Yx f i o true ts.tail
      else ((i,o,n),ts):=rfl
noncomputable def Zqo:Tbl:=[(141,Wi),(142,XP),(200,X7),(143,Xz),(201,VX)]
theorem Zqp (ht:TblOK (GG w0 nG) Zqo):PCalls (GG w0 nG) 139 ZiR:=by
 refine pc ht Tryz.func139 ?_
 intro args σ K h
 unfold ZiR spR XG at h
 split at h
 ·rename_i rest t rows a en dp
  obtain ⟨L,ts,rfl,ho,h⟩:=h
  split at h
  ·skip
   have h0:=ho.lo
   have h1:=ho.hi
   have h2:=ho.big
   refine ⟨Zb [(7,⟨[],[0,2,3],fun vs σ=>∃(nm:Bs) (l:List Fi) (a5:Int) (ts5:Ts) (i o n:Bool) (a':Int) (ts':Ts) (f:Nat),vs=[]∧σ=⟨[.cells t [.d (.sl (ZG L)),.d (.int .i64 a'),.d (.int .i64 en),.d (.int .i64 dp)],.cells 68 [.d (.str []),.sl 0 66 [],.d (.bool false),.d (.bool false),.d (.bool false),.d (.int .i64 0)],.cells 68 [.d (.str nm),.d (.sl (l.map ZN)),.d (.bool i),.d (.bool o),.d (.bool n),.d (.int .i64 (Zd L en ts.length))]],[0],1⟩∧ROK L a' ts'∧a≤a'∧JZ i o n<f∧RKk (fun (v:Re)=>Zam (Y1 (Zd L en) v)) L en dp (a+0) (R.ok ⟨nm,l,(Yx f i o n ts').1.1,(Yx f i o n ts').1.2.1,(Yx f i o n ts').1.2.2,ts.length⟩ (Yx f i o n ts').2) (fun pe a' dp'=>K pe ⟨[.cells t [.d (.sl (ZG L)),.d (.int .i64 a'),.d (.int .i64 en),.d (.int .i64 dp')]],[],0⟩),fun _ σ=>match σ with | ⟨[_,_,.cells _ [_,_,.d (.bool i),.d (.bool o),.d (.bool n),_]],_,_⟩=>JZ i o n | _=>0⟩)],1,false,by simp,Tb rfl,?_⟩
   have h:=h _ rfl
   unfold Zj3 at h
   conv=>whnf
   refine ⟨L,ts,rfl,ho,?_⟩
   conv=>whnf
   refine ⟨L,ts,rfl,ho,fun x hx1=>?_⟩
   rcases x with ⟨v1,ts1⟩ | ⟨r1,e1⟩
   rotate_left
   ·exact m48
   rw [hx1,R.bind_ok] at h
   intro a1 hle1 ho1
   have hb1:=ho1.hi
   conv=>whnf
   refine ⟨L,ts1,rfl,ho1,fun x hx2=>?_⟩
   rcases x with ⟨v2,ts2⟩ | ⟨r2,e2⟩
   rotate_left
   ·exact m40
   rw [hx2,R.bind_ok] at h
   intro a2 hle2 ho2
   have hb2:=ho2.hi
   conv=>whnf
   refine ⟨L,ts2,rfl,ho2,fun x hx3=>?_⟩
   rcases x with ⟨v3,ts3⟩ | ⟨r3,e3⟩
   rotate_left
   ·exact m23
   rw [hx3,R.bind_ok] at h
   intro a3 hle3 ho3
   have hb3:=ho3.hi
   conv=>whnf
   refine ⟨L,ts3,rfl,ho3,fun x hx4=>?_⟩
   rcases x with ⟨v4,ts4⟩ | ⟨r4,e4⟩
   rotate_left
   ·exact m92
   rw [hx4,R.bind_ok] at h
   intro a4 hle4 ho4
   have hb4:=ho4.hi
   conv=>whnf
   refine ⟨⟨v1,v3,a4,ts4,false,false,false,a4,ts4,4,rfl,rfl,ho4,by omega,by decide,h⟩,?_⟩
   clear h hx1 hx2 hx3 hx4 ho1 ho2 ho3 ho4 hb1 hb2 hb3 hb4 hle1 hle2 hle3 hle4
   intro vs σ hI
   obtain ⟨nm,l,a5,ts5,i,o,n,a',ts',f,rfl,rfl,ho',hle,hf,h⟩:=hI
   obtain ⟨f,rfl⟩:∃g,f=g+1:=⟨f - 1,by omega⟩
   rw [Zkd] at h
   have hhi:=ho'.hi
   conv=>whnf
   cases i with
   | true =>
    rw [Te (by simp)] at h
    conv=>whnf
    cases o with
    | true =>
     rw [Te (by simp)] at h
     conv=>whnf
     cases n with
     | true =>
      rw [Te (by simp)] at h
      exact m81
     | false =>
      conv=>whnf
      refine ⟨L,ts',rfl,ho',[[105,110,108,105,110,101]],rfl,by simp,fun hw9 ho9=>?_,fun hw9=>?_⟩
      ·rw [Ti ⟨rfl,hw9⟩] at h
       have hb9:=ho9.hi
       conv=>whnf
       refine ⟨⟨nm,l,a5,ts5,true,true,true,a'+1,ts'.tail,f,rfl,rfl,ho9,by omega,?_,h⟩,?_⟩
       ·(simp only [JZ] at hf ⊢;omega)
       ·show JZ true true true<JZ true true false
        (simp only [JZ];omega)
      ·rw [Te (by rw [hw9];simp)] at h
       exact m81
    | false =>
     conv=>whnf
     refine ⟨L,ts',rfl,ho',[[111,117,116,112,117,116]],rfl,by simp,fun hw9 ho9=>?_,fun hw9=>?_⟩
     ·rw [Ti ⟨rfl,hw9⟩] at h
      have hb9:=ho9.hi
      conv=>whnf
      refine ⟨⟨nm,l,a5,ts5,true,true,n,a'+1,ts'.tail,f,rfl,rfl,ho9,by omega,?_,h⟩,?_⟩
      ·cases n <;> (simp only [JZ] at hf ⊢;omega)
      ·show JZ true true n<JZ true false n
       cases n <;> (simp only [JZ];omega)
     ·rw [Te (by rw [hw9];simp)] at h
      conv=>whnf
      cases n with
      | true =>
       rw [Te (by simp)] at h
       exact m81
      | false =>
       conv=>whnf
       refine ⟨L,ts',rfl,ho',[[105,110,108,105,110,101]],rfl,by simp,fun hw9 ho9=>?_,fun hw9=>?_⟩
       ·rw [Ti ⟨rfl,hw9⟩] at h
        have hb9:=ho9.hi
        conv=>whnf
        refine ⟨⟨nm,l,a5,ts5,true,false,true,a'+1,ts'.tail,f,rfl,rfl,ho9,by omega,?_,h⟩,?_⟩
        ·(simp only [JZ] at hf ⊢;omega)
        ·show JZ true false true<JZ true false false
         (simp only [JZ];omega)
       ·rw [Te (by rw [hw9];simp)] at h
        exact m81
   | false =>
    conv=>whnf
    refine ⟨L,ts',rfl,ho',[[105,110,112,117,116]],rfl,by simp,fun hw9 ho9=>?_,fun hw9=>?_⟩
    ·rw [Ti ⟨rfl,hw9⟩] at h
     have hb9:=ho9.hi
     conv=>whnf
     refine ⟨⟨nm,l,a5,ts5,true,o,n,a'+1,ts'.tail,f,rfl,rfl,ho9,by omega,?_,h⟩,?_⟩
     ·cases o <;> cases n <;> (simp only [JZ] at hf ⊢;omega)
     ·show JZ true o n<JZ false o n
      cases o <;> cases n <;> (simp only [JZ];omega)
    ·rw [Te (by rw [hw9];simp)] at h
     conv=>whnf
     cases o with
     | true =>
      rw [Te (by simp)] at h
      conv=>whnf
      cases n with
      | true =>
       rw [Te (by simp)] at h
       exact m81
      | false =>
       conv=>whnf
       refine ⟨L,ts',rfl,ho',[[105,110,108,105,110,101]],rfl,by simp,fun hw9 ho9=>?_,fun hw9=>?_⟩
       ·rw [Ti ⟨rfl,hw9⟩] at h
        have hb9:=ho9.hi
        conv=>whnf
        refine ⟨⟨nm,l,a5,ts5,false,true,true,a'+1,ts'.tail,f,rfl,rfl,ho9,by omega,?_,h⟩,?_⟩
        ·(simp only [JZ] at hf ⊢;omega)
        ·show JZ false true true<JZ false true false
         (simp only [JZ];omega)
       ·rw [Te (by rw [hw9];simp)] at h
        exact m81
     | false =>
      conv=>whnf
      refine ⟨L,ts',rfl,ho',[[111,117,116,112,117,116]],rfl,by simp,fun hw9 ho9=>?_,fun hw9=>?_⟩
      ·rw [Ti ⟨rfl,hw9⟩] at h
       have hb9:=ho9.hi
       conv=>whnf
       refine ⟨⟨nm,l,a5,ts5,false,true,n,a'+1,ts'.tail,f,rfl,rfl,ho9,by omega,?_,h⟩,?_⟩
       ·cases n <;> (simp only [JZ] at hf ⊢;omega)
       ·show JZ false true n<JZ false false n
        cases n <;> (simp only [JZ];omega)
      ·rw [Te (by rw [hw9];simp)] at h
       conv=>whnf
       cases n with
       | true =>
        rw [Te (by simp)] at h
        exact m81
       | false =>
        conv=>whnf
        refine ⟨L,ts',rfl,ho',[[105,110,108,105,110,101]],rfl,by simp,fun hw9 ho9=>?_,fun hw9=>?_⟩
        ·rw [Ti ⟨rfl,hw9⟩] at h
         have hb9:=ho9.hi
         conv=>whnf
         refine ⟨⟨nm,l,a5,ts5,false,false,true,a'+1,ts'.tail,f,rfl,rfl,ho9,by omega,?_,h⟩,?_⟩
         ·(simp only [JZ] at hf ⊢;omega)
         ·show JZ false false true<JZ false false false
          (simp only [JZ];omega)
        ·rw [Te (by rw [hw9];simp)] at h
         exact m81
  ·exact h.elim
 ·exact h.elim
end Go.PM.Lex
end

section
namespace Go.PM.Lex
open Go.Proofs
variable {w0:World} {nG:Nat}
noncomputable def Zh5 (fn:Func) (tb:Tbl):Zu:=fun args σ K=>∃K0:PEnd→St→Prop,(∀e σ,K0 e σ→K e σ)∧args.length≤fn.ntmps∧WF (ctx ZhK tb (Zb [])) fn σ.bx.length false args σ K0
theorem Yf (fn:Func) (tb:Tbl):Zc (Zh5 fn tb):=fun args σ K K' hK ⟨K0,h1,h2⟩=>⟨K0,fun e σ h=>hK _ _ (h1 e σ h),h2⟩
noncomputable def Zqq (fn:Func) (unr:Nat→Nat) (tb:Tbl):Zu:=fun args σ K=>∃K0:PEnd→St→Prop,(∀e σ,K0 e σ→K e σ)∧args.length≤fn.ntmps∧WF (ZjW ZhK tb X1 (Zb []) unr (WQ [])) fn σ.bx.length false args σ K0
theorem Zke (fn:Func) (unr:Nat→Nat) (tb:Tbl):Zc (Zqq fn unr tb):=fun args σ K K' hK ⟨K0,h1,h2⟩=>⟨K0,fun e σ h=>hK _ _ (h1 e σ h),h2⟩
theorem _root_.Go.PM.PCalls.closed {G:GE} {g:FuncId} {sp:Zu} (h:PCalls G g sp):PCalls G g (fun args σ K=>∃K0:PEnd→St→Prop,(∀e σ,K0 e σ→K e σ)∧sp args σ K0):=⟨h.enters,fun args σ K ⟨K0,hK,hs⟩ n e w vs hS ha =>
 (h.calls args σ K0 hs n e w vs hS ha).mono fun en w' ⟨pe,σ',e',hk,hr⟩=>⟨pe,σ',e',hK _ _ hk,hr⟩⟩
theorem Za4 {g : FuncId} {fn : Func} {c : Code} {tb : Tbl} (ht : TblOK (GG w0 nG) tb) (hf : (GG w0 nG).P.funcs[g]? = some fn) (hb : fn.body = some c) (hname : (fn.name == "runtime.NumGoroutine") = false) (hok : Zw fn.ntmps c = true) : PCalls (GG w0 nG) g (Zh5 fn tb) := by
 have h:PCalls (GG w0 nG) g (fun args σ K=>args.length≤fn.ntmps∧WF (ctx ZhK tb (Zb [])) fn σ.bx.length false args σ K):=by
  refine Zf9 Y6 mixed ht hf hb hname hok ?_
  intro args σ K h
  exact ⟨Zb [],σ.bx.length,false,Tp _,h.1,h.2⟩
 exact h.closed
theorem Zt0 {g : FuncId} {fn : Func} {c : Code} {unr : Nat → Nat} {tb : Tbl} (ht : TblOK (GG w0 nG) tb) (hf : (GG w0 nG).P.funcs[g]? = some fn) (hb : fn.body = some c) (hname : (fn.name == "runtime.NumGoroutine") = false) (hok : Zw fn.ntmps c = true) : PCalls (GG w0 nG) g (Zqq fn unr tb) := by
 have h:PCalls (GG w0 nG) g (fun args σ K=>args.length≤fn.ntmps∧WF (ZjW ZhK tb X1 (Zb []) unr (WQ [])) fn σ.bx.length false args σ K):=by
  refine ZhJ Y6 mixed ht hf hb hname hok ?_
  intro args σ K h
  exact ⟨Zb [],unr,WQ [],σ.bx.length,false,Tp _,h.1,h.2⟩
 exact h.closed
noncomputable def Zpb {α:Type} (enc:List Tok→Int→α→PV) (P:Ts→R α) (lo:Int) (d:Nat):Zu:=XG fun rest L en dp a ts K=>match rest with
 | []=>(0<d∧dp=65 - (d:Int)∧0≤dp)∧∀x,P ts=x→RKk (enc L en) L en dp (a+lo) x K
 | _=>False
theorem Zaq {α:Type} (enc:List Tok→Int→α→PV) (P:Ts→R α) (lo:Int) (d:Nat):Zc (Zpb enc P lo d):=Zz fun rest L en dp a ts K K' hK h=>by
 exact m45
theorem ZcW {α:Type} {enc:List Tok→Int→α→PV} {P:Ts→R α} {lo:Int} {g:FuncId} (h:WZ (GG w0 nG).P g):PCalls (GG w0 nG) g (Zpb enc P lo 0):=⟨h,fun args σ K hs=>by
 exfalso
 unfold Zpb XG at hs
 split at hs
 ·obtain ⟨L,ts,_,_,hs⟩:=hs
  split at hs
  ·have:=hs.1.1;omega
  ·exact hs
 ·exact hs⟩
theorem _root_.Go.PM.PCalls.weaken1 {G:GE} {g:FuncId} {sp sp':Zu} (h:PCalls G g sp) (hw:∀args σ K,sp' args σ K→sp args σ K):PCalls G g sp':=⟨h.enters,fun args σ K hs=>h.calls args σ K (hw _ _ _ hs)⟩
theorem ZcX {α:Type} {enc:List Tok→Int→α→PV} {P:Ts→R α} {lo:Int} {d:Nat} {g:FuncId} (h:PCalls (GG w0 nG) g (Zgx enc P lo d)):PCalls (GG w0 nG) g (Zpb enc P lo (d+1)):=h.weaken1 fun args σ K hs=>by
 unfold Zpb XG at hs
 unfold Zgx XG
 split at hs
 ·obtain ⟨L,ts,h1,h2,hs⟩:=hs
  refine ⟨L,ts,h1,h2,?_⟩
  split at hs
  ·exact ⟨by have:=hs.1.2;omega,hs.2⟩
  ·exact hs.elim
 ·exact hs
noncomputable def UG:Zu:=fun args σ K=>match args,σ with
 | [.d (.str w),.ptr 0 0],⟨[.cells t0 [.ptr 1 0],.cells t [.d (.sl rows),.d (.int .i64 a),.d (.int .i64 en),.d (.int .i64 dp)]],[],0⟩=>∃L ts,rows=ZG L∧ROK L a ts ∧
   (isW ts [w]=true→ROK L (a+1) ts.tail→K (.ret (.d (.bool true))) ⟨[.cells t0 [.ptr 1 0],.cells t [.d (.sl (ZG L)),.d (.int .i64 (a+1)),.d (.int .i64 en),.d (.int .i64 dp)]],[],0⟩) ∧
   (isW ts [w]=false→K (.ret (.d (.bool false))) ⟨[.cells t0 [.ptr 1 0],.cells t [.d (.sl (ZG L)),.d (.int .i64 a),.d (.int .i64 en),.d (.int .i64 dp)]],[],0⟩)
 | _,_=>False
theorem ZbD:Zc UG:=fun args σ K K' hK h=>by
 unfold UG at h ⊢
 split at h
 ·obtain ⟨L,ts,h1,h2,h3,h4⟩:=h
  exact ⟨L,ts,h1,h2,fun g1 g2=>hK _ _ (h3 g1 g2),fun g=>hK _ _ (h4 g)⟩
 ·exact h.elim
noncomputable def ZiS:Tbl:=[(200,X7)]
theorem Zl7 (ht:TblOK (GG w0 nG) ZiS):PCalls (GG w0 nG) 300 UG:=by
 refine pc ht Tryz.func300 ?_
 exact m53
theorem Zl8 (ht:TblOK (GG w0 nG) ZiS):PCalls (GG w0 nG) 301 UG:=by
 refine pc ht Tryz.func301 ?_
 exact m53
noncomputable def Zkf:Zu:=fun args σ K=>match args,σ with
 | [.asl 0 0 n,.func g [] [.ptr 1 0]],⟨[.cells tA cs,.cells t0 [.ptr 2 0],.cells t [.d (.sl rows),.d (.int .i64 a),.d (.int .i64 en),.d (.int .i64 dp)]],[],0⟩=>∃L ts ws,rows=ZG L∧ROK L a ts ∧
   ((ws=ZQ∧g=300)∨(ws=Yc∧g=301))∧n=ws.length∧cs=ws.map (fun w=>PV.d (.str w)) ∧
   (∀k:Nat,ZaG ts 0 ws=some k→ROK L (a+1) ts.tail→K (.ret (.d (.int .i64 k))) ⟨[.cells tA cs,.cells t0 [.ptr 2 0],.cells t [.d (.sl (ZG L)),.d (.int .i64 (a+1)),.d (.int .i64 en),.d (.int .i64 dp)]],[],0⟩) ∧
   (ZaG ts 0 ws=none→K (.ret (.d (.int .i64 (-1)))) ⟨[.cells tA cs,.cells t0 [.ptr 2 0],.cells t [.d (.sl (ZG L)),.d (.int .i64 a),.d (.int .i64 en),.d (.int .i64 dp)]],[],0⟩)
 | _,_=>False
theorem Zkg:Zc Zkf:=fun args σ K K' hK h=>by
 unfold Zkf at h ⊢
 split at h
 ·obtain ⟨L,ts,ws,h1,h2,h3,h4,h5,h6,h7⟩:=h
  exact ⟨L,ts,ws,h1,h2,h3,h4,h5,fun k g1 g2=>hK _ _ (h6 k g1 g2),fun g=>hK _ _ (h7 g)⟩
 ·exact h.elim
noncomputable def Zpc:Tbl:=[(300,UG),(301,UG)]
theorem Zt1 (ht:TblOK (GG w0 nG) Zpc):PCalls (GG w0 nG) 253 Zkf:=by
 refine ZhJ Y6 mixed (tbl:=Zpc) ht Tryz.func253 rfl (by kernel_rfl) (by kernel_rfl) ?_
 intro args σ K h
 unfold Zkf at h
 split at h
 ·rename_i n g tA cs t0 t rows a en dp
  obtain ⟨L,ts,ws,rfl,ho,hws,rfl,rfl,h1,h2⟩:=h
  refine ⟨Zb [],Zad [(2,8)],WQ [],3,false,by simp,Tb rfl,?_⟩
  rcases hws with ⟨rfl,rfl⟩ | ⟨rfl,rfl⟩
  ·conv=>whnf
   refine ⟨by decide,by decide,?_⟩
   conv=>whnf
   refine ⟨L,ts,rfl,ho,fun hw0 ho2=>?_,fun hw0=>?_⟩
   ·conv=>whnf
    exact h1 0 (by simp [ZaG,ZQ, *]) ho2
   conv=>whnf
   refine oiO ?_
   conv=>whnf
   refine ⟨by decide,by decide,?_⟩
   conv=>whnf
   refine ⟨L,ts,rfl,ho,fun hw1 ho2=>?_,fun hw1=>?_⟩
   ·conv=>whnf
    exact h1 1 (by simp [ZaG,ZQ, *]) ho2
   conv=>whnf
   refine oiO ?_
   conv=>whnf
   refine ⟨by decide,by decide,?_⟩
   conv=>whnf
   refine ⟨L,ts,rfl,ho,fun hw2 ho2=>?_,fun hw2=>?_⟩
   ·conv=>whnf
    exact h1 2 (by simp [ZaG,ZQ, *]) ho2
   conv=>whnf
   refine oiO ?_
   conv=>whnf
   refine ⟨by decide,by decide,?_⟩
   conv=>whnf
   refine ⟨L,ts,rfl,ho,fun hw3 ho2=>?_,fun hw3=>?_⟩
   ·conv=>whnf
    exact h1 3 (by simp [ZaG,ZQ, *]) ho2
   conv=>whnf
   refine oiO ?_
   conv=>whnf
   refine ⟨by decide,by decide,?_⟩
   conv=>whnf
   refine ⟨L,ts,rfl,ho,fun hw4 ho2=>?_,fun hw4=>?_⟩
   ·conv=>whnf
    exact h1 4 (by simp [ZaG,ZQ, *]) ho2
   conv=>whnf
   refine oiO ?_
   conv=>whnf
   refine ⟨by decide,by decide,?_⟩
   conv=>whnf
   refine ⟨L,ts,rfl,ho,fun hw5 ho2=>?_,fun hw5=>?_⟩
   ·conv=>whnf
    exact h1 5 (by simp [ZaG,ZQ, *]) ho2
   conv=>whnf
   refine oiO ?_
   conv=>whnf
   exact h2 (by simp [ZaG,ZQ, *])
  ·conv=>whnf
   refine ⟨by decide,by decide,?_⟩
   conv=>whnf
   refine ⟨L,ts,rfl,ho,fun hw0 ho2=>?_,fun hw0=>?_⟩
   ·conv=>whnf
    exact h1 0 (by simp [ZaG,Yc, *]) ho2
   conv=>whnf
   refine oiO ?_
   conv=>whnf
   refine ⟨by decide,by decide,?_⟩
   conv=>whnf
   refine ⟨L,ts,rfl,ho,fun hw1 ho2=>?_,fun hw1=>?_⟩
   ·conv=>whnf
    exact h1 1 (by simp [ZaG,Yc, *]) ho2
   conv=>whnf
   refine oiO ?_
   conv=>whnf
   refine ⟨by decide,by decide,?_⟩
   conv=>whnf
   refine ⟨L,ts,rfl,ho,fun hw2 ho2=>?_,fun hw2=>?_⟩
   ·conv=>whnf
    exact h1 2 (by simp [ZaG,Yc, *]) ho2
   conv=>whnf
   refine oiO ?_
   conv=>whnf
   refine ⟨by decide,by decide,?_⟩
   conv=>whnf
   refine ⟨L,ts,rfl,ho,fun hw3 ho2=>?_,fun hw3=>?_⟩
   ·conv=>whnf
    exact h1 3 (by simp [ZaG,Yc, *]) ho2
   conv=>whnf
   refine oiO ?_
   conv=>whnf
   exact h2 (by simp [ZaG,Yc, *])
 ·exact h.elim
end Go.PM.Lex
end

section
namespace Go.PM.Lex
open Go.Proofs
variable {w0:World} {nG:Nat}
def Zfd:Nat→Ts→R Ex
 | 0=>fun _=>.err 0 150
 | d+1=>Xy d
theorem Zn4 (d:Nat):ZbX d=fun ts=>U4 (Zfd d) 6 1 ts:=by cases d <;> rfl
theorem Zkh (d:Nat) (ts:Ts):Xy d ts=JH d (Zfd d) ts:=by cases d <;> rfl
theorem Zki {ts:Ts} (h:ZL ts=true):ts≠[]:=by rintro rfl;simp [ZL,hd] at h
noncomputable abbrev Zh6 (d:Nat):Zu:=Zpb (fun L en (v:Ex)=>Zam (YU (Zd L en) v)) (ZbX d) 0 d
noncomputable abbrev ZgA (d:Nat):Zu:=Zpb (fun L en (v:Ex)=>Zam (YU (Zd L en) v)) (Zfd d) 0 d
noncomputable abbrev ZcY (d:Nat):Zu:=Zgx (fun L en (v:Ex)=>Zam (YU (Zd L en) v)) (WH d) 0 d
noncomputable abbrev Zb7 (d:Nat):Zu:=Zgx (fun L en (v:Ex)=>Zam (YU (Zd L en) v)) (Xy d) 0 d
noncomputable abbrev Zar (d:Nat):Zu:=Zgx (fun L en (v:Ex)=>Zam (YU (Zd L en) v)) (VW d (ZbX d)) 0 d
noncomputable def ZbE (d:Nat):Zu:=XG fun rest L en dp a ts K=>match rest with
 | [.d (.str fr),.d (.str tw)]=>((dp=64 - (d:Int)∧0≤dp)∧tw≠[])∧∀x,ZdJ d (ZbX d) fr tw ts=x→RKk (fun (l:List Ex)=>.d (.sl (l.map (YU (Zd L en))))) L en dp a x K
 | _=>False
theorem JL (d:Nat):Zc (ZbE d):=Zz fun rest L en dp a ts K K' hK h=>by
 exact m45
noncomputable def ZgB (d:Nat):Zu:=XG fun rest L en dp a ts K=>match rest with
 | [.agg [.d (.int .u8 op),.d (.str []),.d (.int .i64 n),.nils e,.d (.int .i64 at')]]=>((dp=64 - (d:Int)∧0≤dp)∧n=0∧e=24)∧∃o:Nat,op=(o:Int)∧∀x,Zo d [40] [41] (Jh (ZbX d) (ZhT o) []) ts=x →
   RKk (fun (l:List Ex)=>.agg [.d (.int .u8 op),.d (.str []),.d (.int .i64 0),.d (.sl (l.map (YU (Zd L en)))),.d (.int .i64 at')]) L en dp a x K
 | _=>False
theorem Zh7 (d:Nat):Zc (ZgB d):=Zz fun rest L en dp a ts K K' hK h=>by
 split at h
 ·obtain ⟨h0,o,h1,h2⟩:=h
  exact ⟨h0,o,h1,fun x hx=>ZZ hK (h2 x hx)⟩
 ·exact h.elim
noncomputable def X8 (d:Nat):Zu:=fun args σ K=>match args,σ with
 | [.ptr 0 0,.d (.str sg),.d (.int .i64 m),.func g1 [.ptr 0 0] [],.func g2 [.ptr 0 0] []],⟨[.cells t [.d (.sl rows),.d (.int .i64 a),.d (.int .i64 en),.d (.int .i64 dp)]],[],0⟩ =>
   (sg=[44]∧m=12∧g1=262∧g2=35∧0<d∧dp=65 - (d:Int)∧0≤dp)∧∃L ts,rows=ZG L∧ROK L a ts∧∀x,X4 [44] 12 ZL (ZbX d) ts=x →
    RKk (fun (l:List Ex)=>.d (.sl (l.map (YU (Zd L en))))) L en dp a x fun pe a' dp'=>K pe ⟨[.cells t [.d (.sl (ZG L)),.d (.int .i64 a'),.d (.int .i64 en),.d (.int .i64 dp')]],[],0⟩
 | _,_=>False
theorem ZdO (d:Nat):Zc (X8 d):=fun args σ K K' hK h=>by
 unfold X8 at h ⊢
 exact m42
noncomputable def ZiT (d:Nat):Tbl:=[(136,ZfL),(261,X8 d)]
noncomputable def ZiU (d:Nat):Tbl:=[(136,ZfL),(143,Xz),(81,YN),(260,Zh5 Tryz.f260 (ZiT d))]
noncomputable def Zqr (d:Nat):Tbl:=[(204,Zh5 Tryz.f204 (ZiU d))]
theorem Zqs {d:Nat} (ht:TblOK (GG w0 nG) (Zqr d)):PCalls (GG w0 nG) 207 (ZbE d):=by
 refine pc ht Tryz.func207 ?_
 intro args σ K h
 unfold ZbE XG at h
 split at h
 ·rename_i rest t rows a en dp
  obtain ⟨L,ts,rfl,ho,h⟩:=h
  split at h
  ·rename_i fr tw
   obtain ⟨⟨hdp,hto⟩,h⟩:=h
   have h0:=ho.lo
   have h1:=ho.hi
   have h2:=ho.big
   refine ⟨Zb [],1,false,by simp,Tb rfl,?_⟩
   have h:=h _ rfl
   unfold ZdJ at h
   conv=>whnf
   refine ⟨_,fun _ _ h=>h,Tb rfl,?_⟩
   conv=>whnf
   refine ⟨L,ts,rfl,ho,[fr],rfl,by simp,fun b hw1=>?_⟩
   cases b with
   | false =>
    exact m167
   | true =>
    rw [Zo,Ti hw1] at h
    conv=>whnf
    refine Zyq (fun hc=>?_) (fun hc=>?_)
    ·exact m149
    ·rw [Te (by omega)] at h
     conv=>whnf
     refine ⟨L,ts,rfl,ho,fun x hx=>?_⟩
     rw [ZT,Ti hw1] at hx
     subst hx
     intro a1 hle1 ho1
     have hb1:=ho1.hi
     conv=>whnf
     refine oiO ?_
     conv=>whnf
     refine ⟨_,fun _ _ h=>h,Tb rfl,?_⟩
     conv=>whnf
     refine ⟨L,ts.tail,rfl,ho1,[tw],rfl,by simp,fun b hw4=>?_⟩
     have hgo:∀(x:R (List Ex)),(if isW ts.tail [tw]=true then R.ok [] ts.tail else X4 [44] 12 ZL (ZbX d) ts.tail)=x→True:=fun _ _=>trivial
     cases b with
     | true =>
      rw [Ti hw4,R.bind_ok] at h
      conv=>whnf
      have ho2:=ho1
      refine Zyv (fun _=>?_) (fun g=>absurd g hto)
      conv=>whnf
      rw [Te hto] at h
      refine ⟨L,ts.tail,rfl,ho1,fun x hx3=>?_⟩
      exact m16
     | false =>
      rw [Te (by rw [hw4];simp)] at h
      conv=>whnf
      refine ⟨⟨rfl,rfl,rfl,rfl,by omega,by omega,by omega⟩,L,ts.tail,rfl,ho1,fun x hx2=>?_⟩
      rcases x with ⟨v2,ts2⟩ | ⟨r2,e2⟩
      rotate_left
      ·exact m40
      rw [hx2,R.bind_ok] at h
      intro a2 hle2 ho2
      have hb2:=ho2.hi
      conv=>whnf
      refine Zyv (fun _=>?_) (fun g=>absurd g hto)
      conv=>whnf
      rw [Te hto] at h
      refine ⟨L,ts2,rfl,ho2,fun x hx3=>?_⟩
      exact m16
  ·exact h.elim
 ·exact h.elim
end Go.PM.Lex
end

section
namespace Go.PM.Lex
open Go.Proofs
variable {w0:World} {nG:Nat}
theorem Vz (ex:Ts→R Ex) (k:Nat) (l:List Ex) (ts:Ts):Jh ex (k+1) l ts=(if l=[] then .ok () ts else ZT [44] ts).bind fun _ ts=>(ex ts).bind fun e ts=>Jh ex k (l++[e]) ts:=rfl
noncomputable def ZiV (d:Nat):Tbl:=[(143,Xz),(35,Zh6 d)]
noncomputable def ZiW (d:Nat):Tbl:=[(136,ZfL),(143,Xz),(81,YN),(313,Zqq Tryz.f313 (Zad [(1,5)]) (ZiV d))]
noncomputable def Zqt (d:Nat):Tbl:=[(204,Zh5 Tryz.f204 (ZiW d))]
theorem Zqu {d:Nat} (ht:TblOK (GG w0 nG) (Zqt d)):PCalls (GG w0 nG) 283 (ZgB d):=by
 refine pc ht Tryz.func283 ?_
 intro args σ K h
 unfold ZgB XG at h
 split at h
 ·rename_i rest t rows a en dp
  obtain ⟨L,ts,rfl,ho,h⟩:=h
  split at h
  ·rename_i op n e at'
   obtain ⟨⟨hdp,rfl,rfl⟩,o,rfl,h⟩:=h
   have h:=h _ rfl
   have h0:=ho.lo
   have h1:=ho.hi
   have h2:=ho.big
   refine ⟨Zb [],1,false,by simp,Tb rfl,?_⟩
   conv=>whnf
   refine Zyq (fun hop=>?_) (fun hop=>?_)
   ·obtain rfl:o=22:=by omega
    have har:ZhT 22=3:=rfl
    conv=>whnf
    refine oiD ?_
    conv=>whnf
    refine oiD ?_
    conv=>whnf
    rw [har] at h
    refine ⟨_,fun _ _ h=>h,Tb rfl,?_⟩
    conv=>whnf
    refine ⟨L,ts,rfl,ho,[[40]],rfl,by simp,fun b hw1=>?_⟩
    cases b with
    | false =>
     exact m167
    | true =>
     rw [Zo,Ti hw1] at h
     conv=>whnf
     refine Zyq (fun hc=>?_) (fun hc=>?_)
     ·exact m149
     ·rw [Te (by omega)] at h
      conv=>whnf
      refine ⟨L,ts,rfl,ho,fun x hx=>?_⟩
      rw [ZT,Ti hw1] at hx
      subst hx
      intro a1 hle1 ho1
      have hb1:=ho1.hi
      conv=>whnf
      refine oiO ?_
      conv=>whnf
      refine ⟨_,fun _ _ h=>h,Tb rfl,?_⟩
      conv=>whnf
      rw [Vz] at h
      rw [Ti rfl,R.bind_ok] at h
      refine ⟨L,ts.tail,rfl,ho1,⟨by omega,by omega,by omega⟩,fun x hx10=>?_⟩
      rcases x with ⟨v10,ts10⟩ | ⟨r10,e10⟩
      rotate_left
      ·exact m120
      rw [hx10,R.bind_ok] at h
      intro a10 hle10 ho10
      have hb10:=ho10.hi
      obtain ⟨v10a,v10b,v10c,v10d,v10e⟩:=v10
      conv=>whnf
      refine ⟨rfl,rfl,Tb rfl,Tb rfl,?_⟩
      conv=>whnf
      repeat (refine ⟨rfl,?_⟩;conv=>whnf)
      refine oiD ?_
      conv=>whnf
      rw [Vz] at h
      rw [Te (by simp)] at h
      refine ⟨L,ts10,rfl,ho10,fun x hx11=>?_⟩
      rcases x with ⟨v11,ts11⟩ | ⟨r11,e11⟩
      rotate_left
      ·rw [hx11,R.bind_err,R.bind_err] at h;intro a9 d9;(conv=>whnf);exact h _ _
      rw [hx11,R.bind_ok] at h
      intro a11 hle11 ho11
      have hb11:=ho11.hi
      conv=>whnf
      refine ⟨L,ts11,rfl,ho11,⟨by omega,by omega,by omega⟩,fun x hx12=>?_⟩
      rcases x with ⟨v12,ts12⟩ | ⟨r12,e12⟩
      rotate_left
      ·rw [hx12,R.bind_err,R.bind_err] at h;intro a9 d9;(conv=>whnf);exact h _ _
      rw [hx12,R.bind_ok] at h
      intro a12 hle12 ho12
      have hb12:=ho12.hi
      obtain ⟨v12a,v12b,v12c,v12d,v12e⟩:=v12
      conv=>whnf
      refine ⟨rfl,rfl,Tb rfl,Tb rfl,?_⟩
      conv=>whnf
      repeat (refine ⟨rfl,?_⟩;conv=>whnf)
      refine oiD ?_
      conv=>whnf
      rw [Vz] at h
      rw [Te (by simp)] at h
      refine ⟨L,ts12,rfl,ho12,fun x hx13=>?_⟩
      rcases x with ⟨v13,ts13⟩ | ⟨r13,e13⟩
      rotate_left
      ·rw [hx13,R.bind_err,R.bind_err] at h;intro a9 d9;(conv=>whnf);exact h _ _
      rw [hx13,R.bind_ok] at h
      intro a13 hle13 ho13
      have hb13:=ho13.hi
      conv=>whnf
      refine ⟨L,ts13,rfl,ho13,⟨by omega,by omega,by omega⟩,fun x hx14=>?_⟩
      rcases x with ⟨v14,ts14⟩ | ⟨r14,e14⟩
      rotate_left
      ·rw [hx14,R.bind_err,R.bind_err] at h;intro a9 d9;(conv=>whnf);exact h _ _
      rw [hx14,R.bind_ok] at h
      intro a14 hle14 ho14
      have hb14:=ho14.hi
      obtain ⟨v14a,v14b,v14c,v14d,v14e⟩:=v14
      conv=>whnf
      refine ⟨rfl,rfl,Tb rfl,Tb rfl,?_⟩
      conv=>whnf
      repeat (refine ⟨rfl,?_⟩;conv=>whnf)
      refine oiD ?_
      conv=>whnf
      rw [Jh] at h
      rw [R.bind_ok] at h
      have hx99:ts14=ts14:=rfl
      have ho2:=ho14
      obtain ⟨ts2,hts2⟩:∃t,t=ts14:=⟨_,rfl⟩
      rw [← hts2] at h ho2
      exact m158
   conv=>whnf
   refine Zyq (fun hop2=>?_) (fun hop2=>?_)
   ·obtain rfl:o=20:=by omega
    have har:ZhT 20=2:=rfl
    conv=>whnf
    refine oiD ?_
    conv=>whnf
    rw [har] at h
    refine ⟨_,fun _ _ h=>h,Tb rfl,?_⟩
    conv=>whnf
    refine ⟨L,ts,rfl,ho,[[40]],rfl,by simp,fun b hw1=>?_⟩
    cases b with
    | false =>
     exact m167
    | true =>
     rw [Zo,Ti hw1] at h
     conv=>whnf
     refine Zyq (fun hc=>?_) (fun hc=>?_)
     ·exact m149
     ·rw [Te (by omega)] at h
      conv=>whnf
      refine ⟨L,ts,rfl,ho,fun x hx=>?_⟩
      rw [ZT,Ti hw1] at hx
      subst hx
      intro a1 hle1 ho1
      have hb1:=ho1.hi
      conv=>whnf
      refine oiO ?_
      conv=>whnf
      refine ⟨_,fun _ _ h=>h,Tb rfl,?_⟩
      conv=>whnf
      rw [Vz] at h
      rw [Ti rfl,R.bind_ok] at h
      refine ⟨L,ts.tail,rfl,ho1,⟨by omega,by omega,by omega⟩,fun x hx10=>?_⟩
      rcases x with ⟨v10,ts10⟩ | ⟨r10,e10⟩
      rotate_left
      ·exact m120
      rw [hx10,R.bind_ok] at h
      intro a10 hle10 ho10
      have hb10:=ho10.hi
      obtain ⟨v10a,v10b,v10c,v10d,v10e⟩:=v10
      conv=>whnf
      refine ⟨rfl,rfl,Tb rfl,Tb rfl,?_⟩
      conv=>whnf
      repeat (refine ⟨rfl,?_⟩;conv=>whnf)
      refine oiD ?_
      conv=>whnf
      rw [Vz] at h
      rw [Te (by simp)] at h
      refine ⟨L,ts10,rfl,ho10,fun x hx11=>?_⟩
      rcases x with ⟨v11,ts11⟩ | ⟨r11,e11⟩
      rotate_left
      ·rw [hx11,R.bind_err,R.bind_err] at h;intro a9 d9;(conv=>whnf);exact h _ _
      rw [hx11,R.bind_ok] at h
      intro a11 hle11 ho11
      have hb11:=ho11.hi
      conv=>whnf
      refine ⟨L,ts11,rfl,ho11,⟨by omega,by omega,by omega⟩,fun x hx12=>?_⟩
      rcases x with ⟨v12,ts12⟩ | ⟨r12,e12⟩
      rotate_left
      ·rw [hx12,R.bind_err,R.bind_err] at h;intro a9 d9;(conv=>whnf);exact h _ _
      rw [hx12,R.bind_ok] at h
      intro a12 hle12 ho12
      have hb12:=ho12.hi
      obtain ⟨v12a,v12b,v12c,v12d,v12e⟩:=v12
      conv=>whnf
      refine ⟨rfl,rfl,Tb rfl,Tb rfl,?_⟩
      conv=>whnf
      repeat (refine ⟨rfl,?_⟩;conv=>whnf)
      refine oiD ?_
      conv=>whnf
      rw [Jh] at h
      rw [R.bind_ok] at h
      have hx99:ts12=ts12:=rfl
      have ho2:=ho12
      obtain ⟨ts2,hts2⟩:∃t,t=ts12:=⟨_,rfl⟩
      rw [← hts2] at h ho2
      exact m158
   have har:ZhT o=1:=by rw [ZhT,Te (by omega),Te (by omega)]
   conv=>whnf
   rw [har] at h
   refine ⟨_,fun _ _ h=>h,Tb rfl,?_⟩
   conv=>whnf
   refine ⟨L,ts,rfl,ho,[[40]],rfl,by simp,fun b hw1=>?_⟩
   cases b with
   | false =>
    exact m167
   | true =>
    rw [Zo,Ti hw1] at h
    conv=>whnf
    refine Zyq (fun hc=>?_) (fun hc=>?_)
    ·exact m149
    ·rw [Te (by omega)] at h
     conv=>whnf
     refine ⟨L,ts,rfl,ho,fun x hx=>?_⟩
     rw [ZT,Ti hw1] at hx
     subst hx
     intro a1 hle1 ho1
     have hb1:=ho1.hi
     conv=>whnf
     refine oiO ?_
     conv=>whnf
     refine ⟨_,fun _ _ h=>h,Tb rfl,?_⟩
     conv=>whnf
     rw [Vz] at h
     rw [Ti rfl,R.bind_ok] at h
     refine ⟨L,ts.tail,rfl,ho1,⟨by omega,by omega,by omega⟩,fun x hx10=>?_⟩
     rcases x with ⟨v10,ts10⟩ | ⟨r10,e10⟩
     rotate_left
     ·exact m120
     rw [hx10,R.bind_ok] at h
     intro a10 hle10 ho10
     have hb10:=ho10.hi
     obtain ⟨v10a,v10b,v10c,v10d,v10e⟩:=v10
     conv=>whnf
     refine ⟨rfl,rfl,Tb rfl,Tb rfl,?_⟩
     conv=>whnf
     repeat (refine ⟨rfl,?_⟩;conv=>whnf)
     refine oiD ?_
     conv=>whnf
     rw [Jh] at h
     rw [R.bind_ok] at h
     have hx99:ts10=ts10:=rfl
     have ho2:=ho10
     obtain ⟨ts2,hts2⟩:∃t,t=ts10:=⟨_,rfl⟩
     rw [← hts2] at h ho2
     exact m158
  ·exact h.elim
 ·exact h.elim
end Go.PM.Lex
end

section
namespace Go.PM.Lex
open Go.Proofs
variable {w0:World} {nG:Nat}
noncomputable def ZiX (d:Nat):Tbl:=[(35,Zh6 d)]
noncomputable def ZiY (d:Nat):Tbl:=[(136,ZfL),(143,Xz),(81,YN),(282,Zh5 Tryz.f282 (ZiX d))]
noncomputable def Zl9 (d:Nat):Tbl:=[(262,U5 ZL),(81,YN),(198,Jj),(204,Zh5 Tryz.f204 (ZiY d)),(207,ZbE d),(142,XP),(136,ZfL),(212,WI),(283,ZgB d)]
theorem Zkj {d:Nat} (ht:TblOK (GG w0 nG) (Zl9 d)):PCalls (GG w0 nG) 229 (Zar d):=by
 refine ZhI Y6 mixed (tbl:=Zl9 d) ht Tryz.func229 rfl (by kernel_rfl) (by kernel_rfl) ?_
 intro args σ K h
 unfold Zar Zgx XG at h
 split at h
 ·rename_i rest t rows a en dp
  obtain ⟨L,ts,rfl,ho,h⟩:=h
  split at h
  ·obtain ⟨hdp,h⟩:=h
   have h0:=ho.lo
   have h1:=ho.hi
   have h2:=ho.big
   refine ⟨Zb [],Zad [],WQ [],WQ [],WQ [283],1,false,by simp,Tb rfl,?_⟩
   have h:=h _ rfl
   conv=>whnf
   refine ⟨L,ts,rfl,ho,fun b hst=>?_⟩
   cases b with
   | false =>
    rw [VW,Ti hst] at h
    conv=>whnf
    refine ⟨L,ts,rfl,ho,?_⟩
    exact m44
   | true =>
    rw [VW,Te (by rw [hst];simp)] at h
    have hot:=ho.tl (Zki hst)
    have hbt:=hot.hi
    conv=>whnf
    refine ⟨L,ts,rfl,ho,fun fin=>Or.inl ⟨rfl,?_⟩⟩
    conv=>whnf
    refine Zyq (fun hc=>?_) (fun hc=>?_)
    ·rw [Ti (show (hd ts).kind=2 by omega)] at h
     exact m87
    rw [Te (show ¬(hd ts).kind=2 by omega)] at h
    conv=>whnf
    refine Zyq (fun hc=>?_) (fun hc=>?_)
    ·rw [Ti (show (hd ts).kind=3 by omega)] at h
     exact m87
    rw [Te (show ¬(hd ts).kind=3 by omega)] at h
    conv=>whnf
    refine Zyq (fun hc=>?_) (fun hc=>?_)
    ·rw [Ti (show (hd ts).text=[40] from hc)] at h
     conv=>whnf
     refine ⟨_,fun _ _ h=>h,Tb rfl,?_⟩
     conv=>whnf
     refine ⟨L,ts,rfl,ho,[[40]],rfl,by simp,fun b hw1=>?_⟩
     cases b with
     | false =>
      exact m167
     | true =>
      rw [Zo,Ti hw1] at h
      conv=>whnf
      refine Zyq (fun hc=>?_) (fun hc=>?_)
      ·exact m149
      ·rw [Te (by omega)] at h
       conv=>whnf
       refine ⟨L,ts,rfl,ho,fun x hx=>?_⟩
       rw [ZT,Ti hw1] at hx
       subst hx
       intro a1 hle1 ho1
       have hb1:=ho1.hi
       conv=>whnf
       refine oiO ?_
       conv=>whnf
       refine ⟨_,fun _ _ h=>h,Tb rfl,?_⟩
       conv=>whnf
       refine ⟨L,ts.tail,rfl,ho1,⟨by omega,by omega,by omega⟩,fun x hx2=>?_⟩
       rcases x with ⟨v2,ts2⟩ | ⟨r2,e2⟩
       rotate_left
       ·exact m40
       rw [hx2,R.bind_ok] at h
       intro a2 hle2 ho2
       have hb2:=ho2.hi
       obtain ⟨v2a,v2b,v2c,v2d,v2e⟩:=v2
       conv=>whnf
       exact m158
    rw [Te (show ¬(hd ts).text=[40] from hc)] at h
    conv=>whnf
    refine Zyq (fun hc=>?_) (fun hc=>?_)
    ·rw [Ti (show (hd ts).text=[91] from hc)] at h
     conv=>whnf
     refine ⟨L,ts,rfl,ho,⟨hdp,by simp⟩,fun x hx1=>?_⟩
     rcases x with ⟨v1,ts1⟩ | ⟨r1,e1⟩
     rotate_left
     ·exact m48
     rw [hx1,R.bind_ok] at h
     intro a1 hle1 ho1
     have hb1:=ho1.hi
     conv=>whnf
     rw [← Zk]
     exact h _ (by omega) ho1
    rw [Te (show ¬(hd ts).text=[91] from hc)] at h
    conv=>whnf
    refine Zyq (fun hc=>?_) (fun hc=>?_)
    ·rw [Ti (show (hd ts).text=[36] from hc)] at h
     conv=>whnf
     refine oiO ?_
     conv=>whnf
     refine ⟨L,ts.tail,rfl,hot,fun x hx1=>?_⟩
     rcases x with ⟨v1,ts1⟩ | ⟨r1,e1⟩
     rotate_left
     ·exact m48
     rw [hx1,R.bind_ok] at h
     intro a1 hle1 ho1
     have hb1:=ho1.hi
     conv=>whnf
     refine ⟨L,ts1,rfl,ho1,[[40]],rfl,by simp,fun b hw2=>?_⟩
     cases b with
     | false =>
      rw [Te (by rw [hw2];simp)] at h
      conv=>whnf
      exact h _ (by omega) ho1
     | true =>
      rw [Ti hw2] at h
      conv=>whnf
      refine ⟨L,ts1,rfl,ho1,⟨hdp,by simp⟩,fun x hx3=>?_⟩
      rcases x with ⟨v3,ts3⟩ | ⟨r3,e3⟩
      rotate_left
      ·exact m23
      exact m123
    rw [Te (show ¬(hd ts).text=[36] from hc)] at h
    conv=>whnf
    intro n hn
    conv=>whnf
    refine Zyv (fun hc=>?_) (fun hc=>?_)
    ·rw [Ti (show ZY (hd ts).text≠0 by omega)] at h
     conv=>whnf
     refine oiO ?_
     conv=>whnf
     intro n2 hn2
     conv=>whnf
     refine ⟨L,ts.tail,rfl,hot,⟨hdp,rfl,rfl⟩,ZY (hd ts).text,hn2.symm,fun x hx1=>?_⟩
     rcases x with ⟨v1,ts1⟩ | ⟨r1,e1⟩
     rotate_left
     ·exact m48
     rw [hx1,R.bind_ok] at h
     intro a1 hle1 ho1
     have hb1:=ho1.hi
     conv=>whnf
     rw [← hn2,← Zk]
     exact h _ (by omega) ho1
    rw [Te (show ¬ZY (hd ts).text≠0 by omega)] at h
    conv=>whnf
    refine Zyq (fun hc=>?_) (fun hc=>?_)
    ·rw [Ti (show (hd ts).text=[110,105,108] from hc)] at h
     conv=>whnf
     refine oiO ?_
     conv=>whnf
     exact h _ (by omega) hot
    rw [Te (show ¬(hd ts).text=[110,105,108] from hc)] at h
    conv=>whnf
    refine Zyq (fun hc=>?_) (fun hc=>?_)
    ·rw [Ti (show (hd ts).text=[95] from hc)] at h
     conv=>whnf
     refine oiO ?_
     conv=>whnf
     exact h _ (by omega) hot
    rw [Te (show ¬(hd ts).text=[95] from hc)] at h
    exact m87
  ·exact h.elim
 ·exact h.elim
noncomputable def ZiZ (d:Nat):Tbl:=[(161,ZgA d)]
noncomputable def Zi0 (d:Nat):Tbl:=[(136,ZfL),(143,Xz),(81,YN),(228,Zh5 Tryz.f228 (ZiZ d))]
noncomputable def Zi1 (d:Nat):Tbl:=[(141,Wi),(136,ZfL),(204,Zh5 Tryz.f204 (Zi0 d)),(229,Zar d)]
theorem Zma {d:Nat} (ht:TblOK (GG w0 nG) (Zi1 d)):PCalls (GG w0 nG) 161 (Zb7 d):=by
 refine ZhJ Y6 mixed (tbl:=Zi1 d) ht Tryz.func161 rfl (by kernel_rfl) (by kernel_rfl) ?_
 intro args σ K h
 unfold Zb7 Zgx XG at h
 split at h
 ·rename_i rest t rows a en dp
  obtain ⟨L,ts,rfl,ho,h⟩:=h
  split at h
  ·obtain ⟨hdp,h⟩:=h
   have h0:=ho.lo
   have h1:=ho.hi
   have h2:=ho.big
   refine ⟨Zb [],Zad [(3,4)],WQ [],1,false,by simp,Tb rfl,?_⟩
   have h:=h _ rfl
   rw [Zkh,JH] at h
   conv=>whnf
   refine ⟨L,ts,rfl,ho,?_⟩
   conv=>whnf
   refine ⟨by decide,by decide,?_⟩
   conv=>whnf
   refine ⟨L,ts,rfl,ho,[[45]],rfl,by simp,fun b hw8=>?_⟩
   cases b with
   | true =>
    rw [Ti hw8] at h
    conv=>whnf
    refine ⟨_,fun _ _ h=>h,Tb rfl,?_⟩
    conv=>whnf
    refine ⟨L,ts,rfl,ho,[[45]],rfl,by simp,fun b hw1=>?_⟩
    exact m17
   | false =>
    rw [Te (by rw [hw8];simp)] at h
    conv=>whnf
    refine oiD ?_
    conv=>whnf
    refine ⟨by decide,by decide,?_⟩
    conv=>whnf
    refine ⟨L,ts,rfl,ho,[[126]],rfl,by simp,fun b hw9=>?_⟩
    cases b with
    | true =>
     rw [Ti hw9] at h
     conv=>whnf
     refine ⟨_,fun _ _ h=>h,Tb rfl,?_⟩
     conv=>whnf
     refine ⟨L,ts,rfl,ho,[[126]],rfl,by simp,fun b hw1=>?_⟩
     exact m17
    | false =>
     rw [Te (by rw [hw9];simp)] at h
     conv=>whnf
     refine oiD ?_
     conv=>whnf
     rw [show U4 (Zfd d) 6 1=ZbX d from (Zn4 d).symm] at h
     refine ⟨L,ts,rfl,ho,hdp,fun x hx1=>?_⟩
     exact m75
  ·exact h.elim
 ·exact h.elim
noncomputable def ZcZ (d j:Nat):Zu:=XG fun rest L en dp a ts K=>match rest with
 | [.d (.int .i64 least)]=>((dp=64 - (d:Int)∧0≤dp)∧1≤least∧least≤6∧6≤least+(j:Int))∧∀x,U4 (Xy d) j least.toNat ts=x→RKk (fun (v:Ex)=>Zam (YU (Zd L en) v)) L en dp a x K
 | _=>False
theorem Zh8 (d j:Nat):Zc (ZcZ d j):=Zz fun rest L en dp a ts K K' hK h=>by
 exact m45
noncomputable def Za5 (d j:Nat):Zu:=XG fun rest L en dp a ts K=>match rest with
 | [.d (.int .i64 least)]=>((dp=64 - (d:Int)∧0≤dp)∧0<j∧1≤least∧least≤6∧7≤least+(j:Int))∧∀x,U4 (Xy d) (j - 1) least.toNat ts=x→RKk (fun (v:Ex)=>Zam (YU (Zd L en) v)) L en dp a x K
 | _=>False
theorem ZbF (d j:Nat):Zc (Za5 d j):=Zz fun rest L en dp a ts K K' hK h=>by
 exact m45
theorem Zmb (ts:Ts):(U3 ts).1≤5∧(U3 ts).2≤255:=by
 unfold U3
 repeat' (first | (split;decide) | split)
 all_goals decide
theorem ZgC (sub : Nat → Ts → R Ex) (least f : Nat) (e : Ex) (ts : Ts) : UC sub least (f + 1) e ts = if (U3 ts).1 < least ∨ (U3 ts).1 = 0 then .ok e ts
      else (sub ((U3 ts).1+1) ts.tail).bind fun g ts'=>UC sub least f (.mk (U3 ts).2 [] 0 [e,g] e.at') ts':=rfl
theorem Zkk {sub:Nat→Ts→R Ex} {least f:Nat} {e:Ex} {ts:Ts} (h:6≤least):UC sub least (f+1) e ts=.ok e ts:=by
 rw [ZgC,Ti];have:=(Zmb ts).1;omega
theorem Zqv {ts:Ts} (h:(U3 ts).1≠0):ts≠[]:=by rintro rfl;exact h rfl
theorem Zn5 (sg:Ts→R Ex) (j least:Nat) (ts:Ts) (h:6≤least+j):U4 sg j least ts=(sg ts).bind fun e ts=>UC (U4 sg (j - 1)) least (ts.length+1) e ts:=by
 cases j with
 | zero =>
  rw [U4]
  cases sg ts with
  | ok e ts=>rw [R.bind_ok,Zkk (by omega)]
  | err r e=>rfl
 | succ j=>rfl
noncomputable def Zqw (d j:Nat):Tbl:=[(161,Zb7 d),(162,ZlX),(82,Za5 d j)]
theorem Zmc {d j:Nat} (ht:TblOK (GG w0 nG) (Zqw d j)):PCalls (GG w0 nG) 82 (ZcZ d j):=by
 refine pc ht Tryz.func82 ?_
 intro args σ K h
 unfold ZcZ XG at h
 split at h
 ·rename_i rest t rows a en dp
  obtain ⟨L,ts,rfl,ho,h⟩:=h
  split at h
  ·rename_i least
   obtain ⟨⟨hdp,hl1,hl2,hl3⟩,h⟩:=h
   have h0:=ho.lo
   have h1:=ho.hi
   have h2:=ho.big
   refine ⟨Zb [(2,⟨[],[0,1,4,5],fun vs σ=>∃(u1:Nat) (u2:Bs) (u3:Int) (u4:List Ex) (u5:Nat) (a':Int) (ts':Ts) (f:Nat),vs=[]∧σ=⟨[.cells t [.d (.sl (ZG L)),.d (.int .i64 a'),.d (.int .i64 en),.d (.int .i64 dp)],.cells 24 [.d (.int .u8 0),.d (.str []),.d (.int .i64 0),.sl 0 24 [],.d (.int .i64 0)],.cells 24 [.d (.int .u8 u1),.d (.str u2),.d (.int .i64 u3),.d (.sl (Y0 (Zd L en) u4)),.d (.int .i64 (Zd L en u5))]],[0],1⟩∧ROK L a' ts'∧a≤a'∧ts'.length<f∧RKk (fun (v:Ex)=>Zam (YU (Zd L en) v)) L en dp a (UC (U4 (Xy d) (j - 1)) least.toNat f (.mk u1 u2 u3 u4 u5) ts') (fun pe a' dp'=>K pe ⟨[.cells t [.d (.sl (ZG L)),.d (.int .i64 a'),.d (.int .i64 en),.d (.int .i64 dp')]],[],0⟩),fun _ σ=>match σ with | ⟨.cells _ [_,.d (.int _ i),_,_]::_,_,_⟩=>((L.length:Int) - i).toNat | _=>0⟩)],1,false,by simp,Tb rfl,?_⟩
   have h:=h _ rfl
   rw [Zn5 _ _ _ _ (by omega)] at h
   conv=>whnf
   refine ⟨L,ts,rfl,ho,hdp,fun x hx1=>?_⟩
   rcases x with ⟨v1,ts1⟩ | ⟨r1,e1⟩
   rotate_left
   ·exact m48
   rw [hx1,R.bind_ok] at h
   intro a1 hle1 ho1
   have hb1:=ho1.hi
   obtain ⟨v1a,v1b,v1c,v1d,v1e⟩:=v1
   conv=>whnf
   refine ⟨⟨v1a,v1b,v1c,v1d,v1e,a1,ts1,ts1.length+1,rfl,rfl,ho1,by omega,by omega,h⟩,?_⟩
   clear h hx1 ho1 hb1 hle1
   intro vs σ hI
   obtain ⟨u1,u2,u3,u4,u5,a',ts',f,rfl,rfl,ho',hle',hf,h⟩:=hI
   obtain ⟨f,rfl⟩:∃g,f=g+1:=⟨f - 1,by omega⟩
   rw [ZgC] at h
   have hhi':=ho'.hi
   have hlen':=ho'.len
   conv=>whnf
   refine ⟨L,ts',rfl,ho',fun n op hn hop=>?_⟩
   conv=>whnf
   have hbin:=Zmb ts'
   refine Zyq (fun hc=>?_) (fun hc=>?_)
   ·rw [Ti (by omega)] at h
    exact m81
   conv=>whnf
   refine Zyq (fun hc2=>?_) (fun hc2=>?_)
   ·rw [Ti (by omega)] at h
    exact m81
   rw [Te (by omega)] at h
   have ho2:=ho'.tl (Zqv (by omega))
   have hb2:=ho2.hi
   have hlen2:=ho2.len
   conv=>whnf
   refine oiO ?_
   conv=>whnf
   refine oiO ?_
   conv=>whnf
   refine ⟨L,ts'.tail,rfl,ho2,⟨hdp,by omega,by omega,by omega,by omega⟩,fun x hx3=>?_⟩
   rw [show (n+1).toNat=(U3 ts').1+1 by omega] at hx3
   rcases x with ⟨v3,ts3⟩ | ⟨r3,e3⟩
   rotate_left
   ·exact m23
   rw [hx3,R.bind_ok] at h
   intro a3 hle3 ho3
   have hb3:=ho3.hi
   obtain ⟨v3a,v3b,v3c,v3d,v3e⟩:=v3
   conv=>whnf
   have hlen3:=ho3.len
   obtain rfl:op=((U3 ts').2:Int):=hop.symm
   refine ⟨⟨(U3 ts').2,[],0,[.mk u1 u2 u3 u4 u5,.mk v3a v3b v3c v3d v3e],u5,a3,ts3,f,rfl,rfl,ho3,by omega,by omega,h⟩,?_⟩
   exact m147
  ·exact h.elim
 ·exact h.elim
noncomputable def Zqx (d:Nat):Tbl:=[(82,ZcZ d 6)]
theorem Zqy {d:Nat} (ht:TblOK (GG w0 nG) (Zqx d)):PCalls (GG w0 nG) 35 (ZcY d):=by
 refine pc ht Tryz.func35 ?_
 intro args σ K h
 unfold ZcY Zgx XG at h
 split at h
 ·rename_i rest t rows a en dp
  obtain ⟨L,ts,rfl,ho,h⟩:=h
  split at h
  ·obtain ⟨hdp,h⟩:=h
   have h0:=ho.lo
   have h1:=ho.hi
   have h2:=ho.big
   refine ⟨Zb [],1,false,by simp,Tb rfl,?_⟩
   have h:=h _ rfl
   conv=>whnf
   refine ⟨L,ts,rfl,ho,⟨hdp,by omega,by omega,by omega⟩,fun x hx1=>?_⟩
   rw [WH] at h
   change U4 (Xy d) 6 1 ts=x at hx1
   exact m75
  ·exact h.elim
 ·exact h.elim
end Go.PM.Lex
end

section
namespace Go.PM.Lex
open Go.Proofs
variable {w0:World} {nG:Nat}
noncomputable abbrev Zqz (d:Nat):Zu:=Zgx (fun L en (v:Li)=>Zam (WR (Zd L en) v)) (ZhU d (ZdK d)) 0 d
noncomputable abbrev ZgD (d:Nat):Zu:=Zgx (fun L en (v:List Li)=>.d (.sl (v.map (WR (Zd L en))))) (ZhV d) 0 d
noncomputable abbrev Zfe (d:Nat):Zu:=Zpb (fun L en (v:List Li)=>.d (.sl (v.map (WR (Zd L en))))) (ZdK d) 0 d
theorem Zn6 (d:Nat):ZhV d=X4 [44] 32 Z5 (ZhU d (ZdK d)):=by cases d <;> rfl
noncomputable def ZgE (d:Nat):Zu:=XG fun rest L en dp a ts K=>match rest with
 | [.d (.bool b)]=>(dp=64 - (d:Int)∧0≤dp)∧∀x,Zj4 d b ts=x→RKk (fun (v:Ru)=>Zam (Yp (Zd L en) v)) L en dp (a+1) x K
 | _=>False
theorem Zh9 (d:Nat):Zc (ZgE d):=Zz fun rest L en dp a ts K K' hK h=>by
 exact m45
theorem JM {ts:Ts}:∀{ws:List Bs} {i k:Nat},ZaG ts i ws=some k→i≤k∧k<i+ws.length
 | [],i,k,h=>by simp [ZaG] at h
 | w::ws,i,k,h=>by
  rw [ZaG] at h
  split at h
  ·cases h;simp
  ·have:=JM h;simp only [Tc];omega
theorem Za6 {ts:Ts} (h:ZaG ts 0 ZQ=none):Za1 ts=.err ts.length 150:=by rw [Za1,h]
theorem Zc0 {ts:Ts} {j:Nat} (h:ZaG ts 0 ZQ=some 0) (h2:ZaG ts.tail 0 Yc=some j):Za1 ts=.ok (9+j) ts.tail.tail:=by rw [Za1,h];simp only [h2]
theorem Zff {ts:Ts} (h:ZaG ts 0 ZQ=some 0) (h2:ZaG ts.tail 0 Yc=none):Za1 ts=.ok 3 ts.tail:=by rw [Za1,h];simp only [h2]
theorem Zc1 {ts:Ts} {k:Nat} (h:ZaG ts 0 ZQ=some (k+1)):Za1 ts=.ok (3+(k+1)) ts.tail:=by rw [Za1,h];rfl
noncomputable def Zn7:Tbl:=[(262,(U5 ZL)),(136,ZfL)]
theorem Zn8 (ht:TblOK (GG w0 nG) Zn7):PCalls (GG w0 nG) 264 (Zgw Z5):=by
 refine pc ht Tryz.func264 ?_
 intro args σ K h
 unfold Zgw Zh0 at h
 split at h
 ·rename_i rest t0 t rows a en dp
  obtain ⟨L,ts,rfl,ho,h⟩:=h
  split at h
  ·skip
   refine ⟨Zb [],2,false,by simp,Tb rfl,?_⟩
   conv=>whnf
   refine ⟨L,ts,rfl,ho,fun b hb=>?_⟩
   cases b with
   | true =>
    conv=>whnf
    exact h _ (by rw [Z5,hb];rfl)
   | false =>
    conv=>whnf
    refine ⟨L,ts,rfl,ho,[[33]],rfl,by simp,fun b hw=>?_⟩
    conv=>whnf
    exact h _ (by rw [Z5,hb,hw];rfl)
  ·exact h.elim
 ·exact h.elim
noncomputable def ZqA (d:Nat):Tbl:=[(263,Zap d)]
theorem ZqB {d:Nat} (ht:TblOK (GG w0 nG) (ZqA d)):PCalls (GG w0 nG) 208 (ZgD d):=by
 refine pc ht Tryz.func208 ?_
 intro args σ K h
 unfold ZgD Zgx XG at h
 split at h
 ·rename_i rest t rows a en dp
  obtain ⟨L,ts,rfl,ho,h⟩:=h
  split at h
  ·obtain ⟨hdp,h⟩:=h
   have h0:=ho.lo
   have h1:=ho.hi
   have h2:=ho.big
   refine ⟨Zb [],1,false,by simp,Tb rfl,?_⟩
   have h:=h _ rfl
   rw [Zn6] at h
   conv=>whnf
   refine ⟨⟨rfl,rfl,rfl,rfl,hdp⟩,L,ts,rfl,ho,fun x hx1=>?_⟩
   rcases x with ⟨v1,ts1⟩ | ⟨r1,e1⟩
   rotate_left
   ·rw [hx1] at h;intro a9 d9;(conv=>whnf);exact h _ _
   rw [hx1] at h
   intro a1 hle1 ho1
   have hb1:=ho1.hi
   conv=>whnf
   exact h _ (by omega) ho1
  ·exact h.elim
 ·exact h.elim
noncomputable def Zmd (d:Nat):Tbl:=[(208,Zfe d)]
noncomputable def Zme (d:Nat):Tbl:=[(136,ZfL),(143,Xz),(81,YN),(302,Zh5 Tryz.f302 (Zmd d))]
noncomputable def Zpd (d:Nat):Tbl:=[(141,Wi),(200,X7),(198,Jj),(145,U5 ZB),(142,XP),(207,ZbE d),(35,ZcY d),(253,Zkf),(81,YN),(143,Xz),(204,Zh5 Tryz.f204 (Zme d))]
theorem Zt2 {d:Nat} (ht:TblOK (GG w0 nG) (Zpd d)):PCalls (GG w0 nG) 265 (Zqz d):=by
 refine ZhI Y6 mixed (tbl:=Zpd d) ht Tryz.func265 rfl (by kernel_rfl) (by kernel_rfl) ?_
 intro args σ K h
 unfold Zqz Zgx XG at h
 split at h
 ·rename_i rest t rows a en dp
  obtain ⟨L,ts,rfl,ho,h⟩:=h
  split at h
  ·obtain ⟨hdp,h⟩:=h
   have h0:=ho.lo
   have h1:=ho.hi
   have h2:=ho.big
   refine ⟨Zb [],Zad [],WQ [],WQ [50],WQ [],1,false,by simp,Tb rfl,?_⟩
   have h:=h _ rfl
   rw [ZhU] at h
   conv=>whnf
   refine ⟨L,ts,rfl,ho,?_⟩
   conv=>whnf
   refine ⟨L,ts,rfl,ho,[[33]],rfl,by simp,fun hw1 ho1=>?_,fun hw1=>?_⟩
   ·rw [Ti hw1] at h
    have hb1:=ho1.hi
    conv=>whnf
    refine ⟨L,ts.tail,rfl,ho1,fun fin=>Or.inr ⟨rfl,?_⟩⟩
    conv=>whnf
    rw [Za2] at h
    refine ⟨L,ts.tail,rfl,ho1,fun x hx11=>?_⟩
    exact m43
   ·rw [Te (by rw [hw1];simp)] at h
    conv=>whnf
    refine ⟨L,ts,rfl,ho,fun fin=>Or.inr ⟨rfl,?_⟩⟩
    conv=>whnf
    refine ⟨L,ts,rfl,ho,fun b hn=>?_⟩
    cases b with
    | false =>
     rw [Te (by rw [hn];simp)] at h
     exact m0
    | true =>
     conv=>whnf
     refine Zyq (fun hc=>?_) (fun hc=>?_)
     ·conv=>whnf
      refine Zyq (fun hc2=>?_) (fun hc2=>?_)
      ·rw [Ti ⟨hn,by omega,hc2⟩] at h
       conv=>whnf
       rw [Za2] at h
       refine ⟨L,ts,rfl,ho,fun x hx11=>?_⟩
       exact m43
      ·rw [Te (fun g=>hc2 g.2.2)] at h
       exact m0
     ·rw [Te (fun g=>hc (by have:=g.2.1;omega))] at h
      exact m0
  ·exact h.elim
 ·exact h.elim
noncomputable def ZqC (d:Nat):Tbl:=[(141,Wi),(142,XP),(207,ZbE d),(200,X7),(208,ZgD d),(143,Xz)]
theorem ZqD {d:Nat} (ht:TblOK (GG w0 nG) (ZqC d)):PCalls (GG w0 nG) 146 (ZgE d):=by
 refine pc ht Tryz.func146 ?_
 intro args σ K h
 unfold ZgE XG at h
 split at h
 ·rename_i rest t rows a en dp
  obtain ⟨L,ts,rfl,ho,h⟩:=h
  split at h
  ·rename_i bodies
   obtain ⟨hdp,h⟩:=h
   have h0:=ho.lo
   have h1:=ho.hi
   have h2:=ho.big
   refine ⟨Zb [],1,false,by simp,Tb rfl,?_⟩
   have h:=h _ rfl
   rw [Zj4] at h
   conv=>whnf
   refine ⟨L,ts,rfl,ho,?_⟩
   conv=>whnf
   refine ⟨L,ts,rfl,ho,fun x hx1=>?_⟩
   rcases x with ⟨v1,ts1⟩ | ⟨r1,e1⟩
   rotate_left
   ·exact m48
   rw [hx1,R.bind_ok] at h
   intro a1 hle1 ho1
   have hb1:=ho1.hi
   conv=>whnf
   refine ⟨L,ts1,rfl,ho1,⟨hdp,by simp⟩,fun x hx2=>?_⟩
   have hdp2:=hdp
   rcases x with ⟨v2,ts2⟩ | ⟨r2,e2⟩
   rotate_left
   ·exact m40
   rw [hx2,R.bind_ok] at h
   intro a2 hle2 ho2
   have hb2:=ho2.hi
   conv=>whnf
   cases bodies with
   | false =>
    rw [Te (by simp)] at h
    conv=>whnf
    refine ⟨L,ts2,rfl,ho2,fun x hx3=>?_⟩
    rcases x with ⟨v3,ts3⟩ | ⟨r3,e3⟩
    rotate_left
    ·exact m23
    exact m123
   | true =>
    conv=>whnf
    refine ⟨L,ts2,rfl,ho2,[[58,45]],rfl,by simp,fun hw3 ho3=>?_,fun hw3=>?_⟩
    ·rw [Ti ⟨rfl,hw3⟩] at h
     have hb3:=ho3.hi
     conv=>whnf
     refine ⟨L,ts2.tail,rfl,ho3,hdp,fun x hx4=>?_⟩
     rcases x with ⟨v4,ts4⟩ | ⟨r4,e4⟩
     rotate_left
     ·exact m92
     rw [hx4,R.bind_ok] at h
     intro a4 hle4 ho4
     have hb4:=ho4.hi
     conv=>whnf
     refine ⟨L,ts4,rfl,ho4,fun x hx5=>?_⟩
     rcases x with ⟨v5,ts5⟩ | ⟨r5,e5⟩
     rotate_left
     ·exact m39
     rw [hx5,R.bind_ok] at h
     intro a5 hle5 ho5
     have hb5:=ho5.hi
     conv=>whnf
     rw [← Zk,← ZF]
     exact h _ (by omega) ho5
    ·rw [Te (by rw [hw3];simp)] at h
     conv=>whnf
     refine ⟨L,ts2,rfl,ho2,fun x hx4=>?_⟩
     rcases x with ⟨v4,ts4⟩ | ⟨r4,e4⟩
     rotate_left
     ·exact m92
     rw [hx4,R.bind_ok] at h
     intro a4 hle4 ho4
     have hb4:=ho4.hi
     conv=>whnf
     rw [← Zk]
     exact h _ (by omega) ho4
  ·exact h.elim
 ·exact h.elim
end Go.PM.Lex
end
