/- A part of the proof: plain logic, contracts and laws over the given program. -/
import Derived.KernelRfl
import Derived.Test.YtflgockgjnddnaaGreatDoorV05
set_option linter.unusedVariables false
set_option linter.unusedSimpArgs false
set_option linter.all false
set_option maxRecDepth 100000
set_option maxHeartbeats 16000000
section
namespace Go.PM.Lex
open Go.Proofs
variable {w0:World} {nG:Nat}
theorem Zhq (r:Bs) (h:0<r.length):Yw r≤r.length∧Yw r≤2:=by
 unfold Yw
 split
 ·rename_i h1
  simp only [twos,SJ,List.any_nil,Su,Sn] at h1
  rcases h1 with h1 | h1 | h1 | h1 | h1
  all_goals (have:=(Z6 h1).1;omega)
 ·split <;> omega
theorem ZK (a:Nat) (r:Bs) (room:Bool):WU a r room=if Yw r=0∧(pk r).1≠34∧Zg (pk r).1=false∧Zm (pk r).1=false then .bad a 140
 else if room=false then .bad a 3
 else if 0<Yw r then .tok ⟨4,r.take (Yw r),0,a,a+Yw r⟩
 else if (pk r).1=34 then ZaG a r
 else if Zm (pk r).1=true then XE a r
 else .tok ⟨1,r.take (Xg r),0,a,a+Xg r⟩:=rfl
noncomputable def ZuQ:Tbl:=[(209,ZaW),(279,Zgr),(210,V7),(268,Zbk),(280,Zgs),(281,Zax),(211,ZeB)]
theorem ZuR (ht:TblOK (GG w0 nG) ZuQ):PCalls (GG w0 nG) 227 Zgt:=by
 refine pc ht Tryz.func227 ?_
 intro args σ K h
 unfold Zgt at h
 split at h
 ·rename_i room t s a
  obtain ⟨⟨h0,h1,hs⟩,h⟩:=h
  obtain ⟨a,rfl⟩:∃n:Nat,a=n:=⟨a.toNat,by omega⟩
  simp only [TN] at h
  have hpr:-1≤(pk (s.drop ((a:Int)).toNat)).1∧(pk (s.drop ((a:Int)).toNat)).1≤1114111:=V9 (s.drop a)
  have hsl:=Zhq (s.drop a) (by rw [Tu];omega)
  rw [Tu] at hsl
  have hbad:∀e:Nat,WU a (s.drop a) room=.bad a e→K (.ret (.tuple [ZfM 0 [] 0 0 0,ZiM a e])) ⟨[.cells t [.d (.str s),.d (.int .i64 a)]],[],0⟩:=fun e g=>by
   rw [g] at h;exact h
  have hsign:∀n:Nat,Yw (s.drop a)=n→WU a (s.drop a) room=.tok ⟨4,(s.drop a).take n,0,a,a+n⟩→K (.ret (.tuple [ZfM 4 (cut s ((a:Int)).toNat ((a:Int)+(n:Int)).toNat) 0 a ((a:Int)+(n:Int)),ZiM 0 0])) ⟨[.cells t [.d (.str s),.d (.int .i64 a)]],[],0⟩:=fun n g1 g2=>by
   rw [g2] at h
   rw [Zhm,show ((a:Int)+(n:Int)).toNat - ((a:Int)).toNat=n by omega]
   exact h
  have hn2:WU a (s.drop a) room=.tok ⟨1,(s.drop a).take (Xg (s.drop a)),0,a,a+Xg (s.drop a)⟩→K (.ret (.tuple [ZfM 1 ((s.drop a).take (Xg (s.drop a))) 0 a ((a:Int)+(Xg (s.drop a):Int)),ZiM 0 0])) ⟨[.cells t [.d (.str s),.d (.int .i64 a)]],[],0⟩:=fun g=>by
   rw [g] at h;exact h
  refine ⟨Za [],1,false,by simp,Tb rfl,?_⟩
  conv=>whnf
  refine ⟨⟨by omega,by omega⟩,?_⟩
  conv=>whnf
  refine ⟨⟨by omega,by omega,by omega⟩,?_⟩
  conv=>whnf
  generalize hc0:(pk (s.drop ((a:Int)).toNat)).1=c at hpr ⊢
  have hc:(pk (s.drop a)).1=c:=hc0
  generalize hn0:Yw (s.drop ((a:Int)).toNat)=n
  have hn:Yw (s.drop a)=n:=hn0
  rw [hn] at hsl
  refine ZEb (fun h2=>?_) (fun h2=>?_)
  ·obtain rfl:n=0:=by omega
   conv=>whnf
   refine ZEf (fun h3=>?_) (fun h3=>?_)
   ·conv=>whnf
    refine ⟨⟨by omega,by omega⟩,?_⟩
    conv=>whnf
    refine ZEg (fun h4=>?_) (fun h4=>?_)
    ·have h4':Zg c=false:=by simpa using h4
     conv=>whnf
     refine ZEg (fun h5=>?_) (fun h5=>?_)
     ·have h5':Zm c=false:=by simpa using h5
      conv=>whnf
      (try (refine ⟨rfl,?_⟩;conv=>whnf))
      (try (refine ⟨rfl,?_⟩;conv=>whnf))
      exact hbad 140 (by rw [ZK,hn,hc,Th ⟨rfl,h3,h4',h5'⟩])
     ·have h5':Zm c=true:=by simpa using h5
      have hno:¬(0=0∧c≠34∧Zg c=false∧Zm c=false):=fun g=>by rw [h5'] at g;simp at g
      cases room with
      | false =>
       exact m51
      | true =>
       conv=>whnf
       refine ZEb (fun h6=>?_) (fun h6=>?_)
       ·exact absurd h6 (by simpa using h3)
       ·conv=>whnf
        refine ZEg (fun h7=>?_) (fun h7=>?_)
        ·conv=>whnf
         refine ⟨⟨by omega,by omega,by omega⟩,?_⟩
         conv=>whnf
         have g:WU a (s.drop a) true=XE a (s.drop a):=by
          rw [ZK,hn,hc,Te hno,Te (by simp),Te (by omega),Te h3,Th h5']
         rw [g] at h
         exact h
        ·rw [h5'] at h7;cases h7
    ·have h4':Zg c=true:=by simpa using h4
     have h5':Zm c=false:=by
      have h4'':(c=95∨128≤c∨(97≤c∧c≤122)∨(65≤c∧c≤90)):=by simpa [Zg] using h4'
      simp only [Zm,decide_eq_false_iff_not];omega
     have hno:¬(0=0∧c≠34∧Zg c=false∧Zm c=false):=fun g=>by rw [h4'] at g;simp at g
     cases room with
     | false =>
      exact m51
     | true =>
      conv=>whnf
      refine ZEb (fun h6=>?_) (fun h6=>?_)
      ·exact absurd h6 (by simpa using h3)
      ·conv=>whnf
       refine ZEg (fun h7=>?_) (fun h7=>?_)
       ·rw [h5'] at h7;cases h7
       ·conv=>whnf
        refine ⟨⟨by omega,by omega,by omega⟩,?_⟩
        conv=>whnf
        exact hn2 (by rw [ZK,hn,hc,Te hno,Te (by simp),Te (by omega),Te h3,Te (by rw [h5'];simp)])
   ·obtain rfl:c=34:=h3
    have hno:¬(0=0∧(34:Int)≠34∧Zg 34=false∧Zm 34=false):=fun g=>g.2.1 rfl
    cases room with
    | false =>
     exact m51
    | true =>
     conv=>whnf
     refine ⟨⟨by omega,by omega,by omega⟩,?_⟩
     conv=>whnf
     have g:WU a (s.drop a) true=ZaG a (s.drop a):=by
      rw [ZK,hn,hc,Te hno,Te (by simp),Te (by omega),Th rfl]
     rw [g] at h
     exact h
  ·have hno:¬(n=0∧c≠34∧Zg c=false∧Zm c=false):=fun g=>by omega
   cases room with
   | false =>
    exact m51
   | true =>
    conv=>whnf
    refine ZEb (fun h6=>?_) (fun h6=>?_)
    ·conv=>whnf
     refine oiO ?_
     conv=>whnf
     refine ⟨by omega,by omega,by omega,?_⟩
     conv=>whnf
     refine oiO ?_
     conv=>whnf
     (try (refine ⟨rfl,?_⟩;conv=>whnf))
     (try (refine ⟨rfl,?_⟩;conv=>whnf))
     exact hsign n hn (by rw [ZK,hn,hc,Te hno,Te (by simp),Th (by omega)])
    ·omega
 ·exact h.elim
end Go.PM.Lex
end

section
namespace Go.PM.Lex
theorem ZlY (r:Bs) (h0:0≤(pk r).1) (h:(pk r).1<128):0<r.length∧(pk r).1=((r.getD 0 0).toNat:Int)∧(pk r).2=1:=by
 unfold pk at h h0 ⊢
 split at h
 ·rename_i g;rw [Th g] at h0;simp at h0
 ·rename_i g
  simp only [not_or] at g
  rw [Te (by simp only [not_or];exact g)] at h0 ⊢
  have hl:0<r.length:=TT.2 g.1
  refine ⟨hl,?_⟩
  rw [Lib.decodeL_N] at h ⊢
  rcases Lib.decodeN_shape r.length (r.getD 0 0).toNat (r.getD 1 0).toNat (r.getD 2 0).toNat (r.getD 3 0).toNat with ⟨c,e⟩ | ⟨c1,c2,c3,cv,e⟩ | ⟨c1,c2,c3,c4,cv,cs,e⟩ | ⟨c1,c2,c3,c4,c5,cv,cw,e⟩ | e
  ·rw [e];exact ⟨rfl,rfl⟩
  all_goals (rw [e] at h;dsimp only at h;omega)
theorem isLetter_iff {c:Int}:Zg c=true↔(c=95∨128≤c∨(97≤c∧c≤122)∨(65≤c∧c≤90)):=by simp [Zg]
theorem isDigit_iff {c:Int}:Zm c=true↔(48≤c∧c≤57):=by simp [Zm]
theorem Zb2:∀(f:Nat) (r:Bs),ZO f r≤r.length
 | 0,r=>Sa _
 | f+1,r=>by
  have ih:=Zb2 f (r.drop (pk r).2)
  rw [Tu] at ih
  have hl:(pk r).1≠-1→(pk r).2≤r.length:=fun h=>(Zns r h).2.1
  unfold ZO
  split
  ·rename_i h;have:=hl (by omega);split <;> omega
  ·split
   ·rename_i h
    have:=hl (fun h1=>by rw [h1,JZ,Zbl] at h;simp at h)
    omega
   ·omega
theorem Zpr (r:Bs) (h:Zg (pk r).1=true):1≤Xg r∧Xg r≤r.length:=by
 refine ⟨?_,Zb2 _ _⟩
 have:=Zpk r
 have h46:¬(pk r).1=46:=fun g=>by rw [g] at h;revert h;decide
 rw [Xg,WV h46 (.inl h)];omega
theorem Xv:∀(f:Nat) (r:Bs) (esc:Bool) (acc:Bs) (p:Nat) (t:Bs) (l:Nat),Zu f r esc acc p=.ok t l→p<l∧l≤p+r.length
 | 0,r,esc,acc,p,t,l,h=>by simp [Zu] at h
 | f+1,r,esc,acc,p,t,l,h=>by
  unfold Zu at h
  split at h
  ·cases h
  ·rename_i hne
   have hd:=Lib.decodeL_le r hne
   have hr:=Jh r
   split at h
   ·split at h
    ·cases h
    ·have:=Xv f _ _ _ _ _ _ h;rw [Tu] at this;omega
   ·split at h
    ·cases h;have:=TT.2 hne;omega
    ·split at h
     ·have:=Xv f _ _ _ _ _ _ h;rw [Tu] at this;omega
     ·split at h
      ·cases h
      ·have:=Xv f _ _ _ _ _ _ h;rw [Tu] at this;omega
theorem ZeG (r:Bs):Zn r≤r.length:=by
 unfold Zn Zd
 have:=J1 (Wr (Y4 r)) (r.drop (if Y4 r then 2 else 0))
 rw [Tu] at this
 by_cases h:Y4 r=true
 ·have:=(Z6 h).1
  simp only [h,if_true] at *;omega
 ·simp only [h,Tt,if_false] at *;omega
theorem ZeH {a:Nat} {r:Bs} {room:Bool} {t:Tok} (h0:0<r.length) (h:WU a r room=.tok t):t.at'=a∧a<t.fin∧t.fin≤a+r.length:=by
 rw [ZK] at h
 split at h
 ·cases h
 ·rename_i g0
  split at h
  ·cases h
  ·split at h
   ·cases h;rename_i g1;have:=Zhq r h0;exact ⟨rfl,by simp only;omega,by simp only;omega⟩
   ·rename_i g1
    split at h
    ·unfold ZaG at h
     split at h
     ·cases h
     ·rename_i t' l hx
      cases h
      have:=Xv _ _ _ _ _ _ _ hx
      rw [Tu] at this
      exact ⟨rfl,by simp only;omega,by simp only;omega⟩
    ·rename_i g2
     split at h
     ·rename_i g3
      unfold XE at h
      split at h
      ·cases h
      ·rename_i n hx
       cases h
       have hle:=ZeG r
       refine ⟨rfl,?_,by simp only;omega⟩
       simp only
       have hne:Zd r≠[]:=fun g=>by rw [ZG,Th g] at hx;cases hx
       have:=TT.2 hne
       unfold Zn;omega
     ·rename_i g3
      cases h
      have h4:Zg (pk r).1=true:=by
       cases hb:Zg (pk r).1 with
       | true=>rfl
       | false=>exact absurd ⟨by omega,g2,hb,by simpa using g3⟩ g0
      have:=Zpr r h4
      exact ⟨rfl,by simp only;omega,by simp only;omega⟩
theorem Zps {a:Nat} {r:Bs} {room:Bool} {p e:Nat} (h:WU a r room=.bad p e):e≠0∧e≤142:=by
 rw [ZK] at h
 repeat' split at h
 all_goals first | (cases h;done) | (cases h;omega) | (cases h;decide) | skip
 ·unfold ZaG at h;split at h <;> cases h;decide
 ·unfold XE at h;split at h <;> cases h;decide
theorem ZeI:∀(f:Nat) (r:Bs),(Zs f r).2≤r.length
 | 0,r=>Sa _
 | f+1,r=>by
  have hdw:=Ua (([32,9,13,10]:Bs).contains ·) r
  obtain ⟨rest,hrest⟩:∃x,x=Lib.trimLeftS r [32,9,13,10]:=⟨_,rfl⟩
  have hr2:rest.length≤r.length:=by rw [hrest];exact hdw.2
  simp only [Zs,← hrest]
  split
  ·rename_i h1
   have ih:=fun n=>ZeI f (rest.drop n)
   have hlt:=J0 10 rest
   have hge:=Lib.indexByte_ge rest 10
   have ih2:=ih (if Lib.indexByte rest 10<0 then rest.length else (Lib.indexByte rest 10).toNat)
   rw [Tu] at ih2
   simp only
   have:(if Lib.indexByte rest 10<0 then rest.length else (Lib.indexByte rest 10).toNat)≤rest.length:=by split <;> omega
   omega
  ·split
   ·rename_i h1 h2
    have hl:=(Z6 h2).1
    split
    ·simp only;omega
    ·rename_i h3
     have hle:=Zhn [42,47] (rest.drop 2) (by omega)
     simp only [Tu,Tc,Td] at hle
     have ih2:=ZeI f (rest.drop ((Lib.index (rest.drop 2) [42,47]).toNat+4))
     rw [Tu] at ih2
     simp only
     omega
   ·simp only;omega
end Go.PM.Lex
end

section
namespace Go.PM
def Zpt (T:Tab) (tbl:Tbl) (it:Znn) (gid:FuncId) (fn:Func):Znn:=fun g args raw σ K=>∃loops,Zpf T tbl it gid fn loops g args raw σ K
theorem ZkC {G : GE} {T : Tab} {tbl : Tbl} (hT : TabOK T G.P) (hmix : G.P.follows .mixedOrders = true) (ht : TblOK G tbl) {it : Znn} (hit : Ja G it) {gid : FuncId} {fn : Func} {c : Code} (hf : G.P.funcs[gid]? = some fn) (hb : fn.body = some c) (hname : (fn.name == "runtime.NumGoroutine") = false)
  (hok:ZM fn.ntmps c=true):Ja G (Zpt T tbl it gid fn):=fun g args raw σ K h=>by
 obtain ⟨loops,h⟩:=h
 exact Znp hT hmix ht hit hf hb hname hok loops g args raw σ K h
end Go.PM
namespace Go.PM.Lex
open Go.Proofs
variable {w0:World} {nG:Nat}
noncomputable def Zpu:Zz:=fun args σ K=>match args,σ with
 | [.d (.str s),.d (.int .i64 m)],⟨[],[],0⟩=>K (.ret (.func 225 [] [.ptr 0 0,.ptr 1 0])) ⟨[.cells 9 [.d (.str s)],.cells 3 [.d (.int .i64 m)]],[],0⟩
 | _,_=>False
theorem Znu:Zc Zpu:=fun args σ K K' hK h=>by
 unfold Zpu at h ⊢;split at h <;> first | exact hK _ _ h | exact h.elim
theorem ZyW:PCalls (GG w0 nG) 160 Zpu:=by
 refine pc (tbl:=[]) trivial Tryz.func160 ?_
 intro args σ K h
 unfold Zpu at h
 split at h
 ·rename_i s m
  refine ⟨Za [],2,false,by simp,Tb rfl,?_⟩
  exact m31
 ·exact h.elim
def ZyX (t:Tok):List D:=[.int .u8 t.kind,.str t.text,.int .i64 t.n,.int .i64 t.at',.int .i64 t.fin]
def ZZ (l:List Tok):List (List D):=l.map ZyX
theorem XJ (l:List Tok):(ZZ l).length=l.length:=by simp [ZZ]
theorem Znv (l:List Tok) (t:Tok):ZZ (l++[t])=ZZ l++[ZyX t]:=by simp [ZZ]
noncomputable def Zb3:Zz:=fun args σ K=>match args,σ with
 | [.d (.str s),.d (.int .i64 m)],⟨[],[],0⟩=>s.length<4294967281 ∧
   K (.ret (.tuple [.d (.sl (if (ZdO s m).2.2=0 then ZZ (ZdO s m).1 else [])),.d (.int .i64 (ZdO s m).2.1),.d (.int .i64 (ZdO s m).2.2)])) ⟨[],[],0⟩
 | _,_=>False
noncomputable def Zhr:Tbl:=[(226,ZcM),(227,Zgt)]
noncomputable def Zpv:Tbl:=[(160,Zpu)]
noncomputable def ZCh:Znn:=Zpt Zkv Zhr WT 225 Tryz.f225
theorem Zpw (ht:TblOK (GG w0 nG) Zhr):Ja (GG w0 nG) ZCh:=ZkC XI mixed ht Y0 Tryz.func225 rfl (by kernel_rfl) (by kernel_rfl)
def muX (B:Int) (k:Nat):List PV→St→Nat:=fun _ σ=>match σ.bx[k]? with | some (.cells _ (_::.d (.int _ n)::_))=>(B - n).toNat | _=>0
theorem Zpx (ht1:TblOK (GG w0 nG) Zhr) (ht:TblOK (GG w0 nG) Zpv):PCalls (GG w0 nG) 79 Zb3:=by
 refine Zpg XI mixed ht (Zpw ht1) Tryz.func79 rfl (by kernel_rfl) (by kernel_rfl) ?_
 intro args σ K h
 unfold Zb3 at h
 split at h
 ·rename_i s m
  obtain ⟨hs,h⟩:=h
  refine ⟨Za [],0,false,by simp,Tb rfl,?_⟩
  conv=>whnf
  intro y r
  refine ⟨Za [(3,⟨[5],[0,1,2,4],fun vs σ=>∃(l:List Tok) (e f:Nat),vs=[.d (.int .i64 (l.length:Int))] ∧
   σ=⟨[.cells 134 [.sl 0 218 []],.cells 3 [.d (.int .i64 0)],.cells 27 [.d (.int .i64 0)],.cells 134 [.sl 1 218 (ZZ l)],.cells 9 [.d (.str s)],.cells 3 [.d (.int .i64 m)],.loop .ready none r,.cells 251 [.d (.str s),.d (.int .i64 e)]],[1,0],2⟩ ∧
   (e≤s.length∧s.length<e+f∧l.length≤e)∧ZdO s m=(l++(XS f (m - l.length) e (s.drop e)).1,(XS f (m - l.length) e (s.drop e)).2),muX s.length 7⟩)],rfl,?_⟩
  conv=>whnf
  refine ⟨⟨[],0,s.length+1,rfl,rfl,⟨by omega,by omega,by simp⟩,by simp [ZdO]⟩,?_⟩
  intro vs σ1 hI
  obtain ⟨l,e,f,rfl,rfl,⟨he1,he2,hle⟩,hall⟩:=hI
  obtain ⟨f,rfl⟩:∃g,f=g+1:=⟨f - 1,by omega⟩
  have hbl:(ZP (s.drop e)).2≤s.length - e:=by have:(ZP (s.drop e)).2≤(s.drop e).length:=ZeI _ _;rw [Tu] at this;exact this
  have hbad:∀p c:Nat,(XS (f+1) (m - l.length) e (s.drop e)).2=(p,c)→c≠0→K (.ret (.tuple [.d (.sl []),.d (.int .i64 p),.d (.int .i64 c)])) ⟨[],[],0⟩:=fun p c g1 g2=>by
   have e1:(ZdO s m).2=(p,c):=by rw [hall];exact g1
   rw [e1] at h
   simp only at h
   rw [Te g2] at h
   exact h
  have hend:XS (f+1) (m - l.length) e (s.drop e)=([],(0,0))→K (.ret (.tuple [.d (.sl (ZZ l)),.d (.int .i64 0),.d (.int .i64 0)])) ⟨[],[],0⟩:=fun g=>by
   rw [hall,g] at h
   simp only [TA,if_true] at h
   exact h
  conv=>whnf
  refine ⟨⟨by omega,by omega,by omega⟩,?_⟩
  conv=>whnf
  generalize hk0:(ZP (s.drop ((e:Int)).toNat)).2=k
  have hk:(ZP (s.drop e)).2=k:=hk0
  rw [hk] at hbl
  refine ZEg (fun h2=>?_) (fun h2=>?_)
  ·have h2':(ZP (s.drop e)).1=false:=by simpa using h2
   have g1:XS (f+1) (m - l.length) e (s.drop e)=([],(e+k,140)):=by rw [XS,Th h2',hk]
   have g2:=hbad _ _ (by rw [g1]) (by decide)
   rw [show ((e+k:Nat):Int)=(e:Int)+(k:Int) by omega] at g2
   conv=>whnf
   refine ⟨rfl,rfl,rfl,?_⟩
   conv=>whnf
   refine ⟨rfl,?_⟩
   conv=>whnf
   iterate 6 (try (refine ⟨rfl,?_⟩;conv=>whnf))
   exact g2
  ·have h2':(ZP (s.drop e)).1=true:=by simpa using h2
   have hb1:¬(ZP (s.drop e)).1=false:=by rw [h2'];simp
   conv=>whnf
   refine ZEb (fun h3=>?_) (fun h3=>?_)
   ·have hnil:(s.drop e).drop k=[]:=by rw [TS];exact TU (by omega)
    have g1:XS (f+1) (m - l.length) e (s.drop e)=([],(0,0)):=by rw [XS,Te hb1,hk,Th hnil]
    conv=>whnf
    exact hend g1
   ·have hlt:e+k<s.length:=by omega
    have hne:¬(s.drop e).drop k=[]:=fun g=>by have:=congrArg List.length g;rw [TS,Tu] at this;simp at this;omega
    have g1:XS (f+1) (m - l.length) e (s.drop e)=(match WU (e+k) (s.drop (e+k)) (decide ((l.length:Int)<m)) with
      | .bad p e=>([],(p,e))
      | .tok t=>(t::(XS f (m - l.length - 1) t.fin ((s.drop (e+k)).drop (t.fin - (e+k)))).1,(XS f (m - l.length - 1) t.fin ((s.drop (e+k)).drop (t.fin - (e+k)))).2)):=by
     rw [XS,Te hb1,hk,Te hne,TS,show (decide (0<m - (l.length:Int)))=decide ((l.length:Int)<m) from by rw [decide_eq_decide];omega]
     rfl
    conv=>whnf
    refine ⟨⟨by omega,by omega,by omega⟩,?_⟩
    conv=>whnf
    generalize hx0:WU ((e:Int)+(k:Int)).toNat (s.drop ((e:Int)+(k:Int)).toNat) _=x
    have hx:WU (e+k) (s.drop (e+k)) (decide ((l.length:Int)<m))=x:=by
     rw [show ((e:Int)+(k:Int)).toNat=e+k by omega] at hx0;exact hx0
    rw [hx] at g1
    cases x with
    | bad p c =>
     have hc:=Zps hx
     have g2:=hbad p c (by rw [g1]) hc.1
     conv=>whnf
     refine ⟨rfl,rfl,rfl,?_⟩
     conv=>whnf
     refine ⟨rfl,?_⟩
     conv=>whnf
     refine ZEf (fun h4=>?_) (fun h4=>?_)
     ·conv=>whnf
      iterate 6 (try (refine ⟨rfl,?_⟩;conv=>whnf))
      exact g2
     ·exact absurd h4 (by have:((c:Nat):Int)≠0:=(by omega);exact this)
    | tok t =>
     obtain ⟨ht1,ht2,ht3⟩:=ZeH (by rw [Tu];omega) hx
     rw [Tu] at ht3
     conv=>whnf
     refine ⟨rfl,rfl,rfl,?_⟩
     conv=>whnf
     refine ⟨rfl,?_⟩
     conv=>whnf
     refine ⟨fun r hr=>by (simp at hr;subst hr;rfl),(show ((ZZ l).length+1) * 48≤2 ^ 47 by rw [XJ];omega),(show (ZZ l).length+1≤2 ^ 47 by rw [XJ];omega),?_⟩
     conv=>whnf
     iterate 3 (try (refine ⟨rfl,?_⟩;conv=>whnf))
     refine oiO ?_
     conv=>whnf
     refine ⟨⟨l++[t],t.fin,f,?_,?_,⟨by omega,by omega,by rw [Ta];simp;omega⟩,?_⟩,?_⟩
     ·rw [Ta];rfl
     ·rw [Znv];rfl
     ·have hd:(s.drop (e+k)).drop (t.fin - (e+k))=s.drop t.fin:=by rw [TS,show e+k+(t.fin - (e+k))=t.fin by omega]
      rw [hall,g1,Ta]
      simp only [hd,Tc,Td,Int.natCast_add,Int.sub_sub,Tg,Tm,To]
      rfl
     ·exact (show ((s.length:Int) - (t.fin:Int)).toNat<((s.length:Int) - (e:Int)).toNat by omega)
 ·exact h.elim
end Go.PM.Lex
end

section
namespace Go.PM.Lex
open Go.Proofs
variable {w0:World} {nG:Nat}
noncomputable def ZyY:Tbl:=[(323,ZyU),(324,J2)]
theorem ZiZ (hg:GlobOK w0 nG):PCalls (GG w0 nG) 312 VE:=by
 refine pc (tbl:=ZyY) ⟨⟨ZCa,Zpo⟩,⟨Znt hg,ZfO⟩,trivial⟩ Tryz.func312 ?_
 intro args σ K h
 unfold VE at h
 split at h
 ·rename_i l base bits
  obtain ⟨hex,⟨hl,rfl,rfl⟩,hbad,hgood⟩:=h
  refine ⟨Za [],0,false,by simp,Tb rfl,?_⟩
  conv=>whnf
  refine ⟨hex,⟨hl,rfl,rfl⟩,fun h0=>?_,fun h0 h1=>?_,fun h0 h1=>?_⟩
  ·conv=>whnf
   refine ⟨⟨.inr rfl,hl.2⟩,?_⟩
   conv=>whnf
   exact hbad (.inl h0) _
  ·conv=>whnf
   refine ⟨⟨.inl rfl,hl.2⟩,?_⟩
   conv=>whnf
   exact hbad (.inr h1) _
  ·conv=>whnf
   exact hgood (by simp only [not_or];exact ⟨h0,h1⟩)
 ·exact h.elim
end Go.PM.Lex
end

section
namespace Go.PM.Lex
open Go.Proofs
variable {w0:World} {nG:Nat}
theorem Zpy:PCalls (GG w0 nG) 209 ZaW:=ZuE ⟨⟨Znq,ZfL⟩,⟨V8,XP⟩,trivial⟩
theorem ZCi:PCalls (GG w0 nG) 279 Zgr:=ZuG ⟨⟨V8,XP⟩,⟨JX,W8⟩,trivial⟩
theorem ZyZ:PCalls (GG w0 nG) 211 ZeB:=ZuI ⟨⟨Zpy,VD⟩,⟨ZbZ,Vo⟩,⟨Zhl,JW⟩,trivial⟩
theorem Zy0 (hg:GlobOK w0 nG):PCalls (GG w0 nG) 226 ZcM:=Zr8 ⟨⟨Zkx,ZeA⟩,⟨V8,XP⟩,⟨JX,W8⟩,⟨Zr5 (by have:=hg.big;omega) hg.maxLen,ZiL⟩,trivial⟩
theorem ZuS (hg:GlobOK w0 nG):PCalls (GG w0 nG) 281 Zax:=Zpn ⟨⟨V8,XP⟩,⟨Zhl,JW⟩,⟨ZiZ hg,ZdP⟩,⟨Zpy,VD⟩,⟨ZbZ,Vo⟩,trivial⟩
theorem Zi0:PCalls (GG w0 nG) 216 VG:=Y1 (Zi Tryz.func216 (by kernel_rfl) rfl) fun args σ K h e w vs hS ha=>by
 unfold VG at h
 split at h
 ·obtain ⟨u,rfl,hu⟩:=ZiO ha
  cases hu.dint
  exact ⟨_,h,_,fun _ _=>.mkbool,(Tryz.utf8_ValidRune _ w).mono fun en w' ⟨h1,h2⟩=>⟨h1,by rw [h2];exact Grows.refl _⟩⟩
 ·exact h.elim
theorem Zgx:PCalls (GG w0 nG) 151 XU:=ZiY ⟨⟨JX,W8⟩,⟨Zi0,ZdQ⟩,trivial⟩
theorem ZCj:PCalls (GG w0 nG) 280 Zgs:=ZuP ⟨⟨Zgx,JB⟩,⟨Zdr,Jz⟩,⟨Zpy,VD⟩,⟨Zds,JA⟩,⟨ZiR,ZbY⟩,trivial⟩
theorem ZCk (hg:GlobOK w0 nG):PCalls (GG w0 nG) 227 Zgt:=ZuR ⟨⟨Zpy,VD⟩,⟨ZCi,Zkw⟩,⟨ZbZ,Vo⟩,⟨Zhl,JW⟩,⟨ZCj,Zky⟩,⟨ZuS hg,Zhk⟩,⟨ZyZ,ZeC⟩,trivial⟩
theorem ZCl (hg:GlobOK w0 nG):TblOK (GG w0 nG) Zhr:=⟨⟨Zy0 hg,ZiN⟩,⟨ZCk hg,Zkz⟩,trivial⟩
theorem ZuT (hg:GlobOK w0 nG):PCalls (GG w0 nG) 79 Zb3:=Zpx (ZCl hg) ⟨⟨ZyW,Znu⟩,trivial⟩
end Go.PM.Lex
end

section
namespace Go.PM.Lex
structure T0 where
 kind:Nat
 text:Bs
 n:Int
 deriving DecidableEq
def Tok.t0 (t:Tok):T0:=⟨t.kind,t.text,t.n⟩
abbrev Ts:=List T0
inductive R (α:Type) where
 | ok (a:α) (ts:Ts) | err (r e:Nat)
def R.bind {α β:Type} (x:R α) (f:α→Ts→R β):R β:=match x with
 | .ok a ts=>f a ts
 | .err r e=>.err r e
@[simp] theorem R.bind_ok {α β:Type} (a:α) (ts:Ts) (f:α→Ts→R β):(R.ok a ts).bind f=f a ts:=rfl
@[simp] theorem R.bind_err {α β:Type} (r e:Nat) (f:α→Ts→R β):(R.err r e:R α).bind f=.err r e:=rfl
inductive Ex where
 | mk (op:Nat) (text:Bs) (n:Int) (args:List Ex) (at':Nat)
inductive Li where
 | mk (op:Nat) (rel:Bs) (args:List Ex) (body:List Li) (at':Nat)
structure Ru where
 head:Bs
 args:List Ex
 body:List Li
 at':Nat
structure Fi where
 name:Bs
 typ:Bs
structure Ca where
 name:Bs
 fields:List Fi
structure Ty where
 kind:Nat
 name:Bs
 base:Bs
 fields:List Fi
 cases:List Ca
 at':Nat
structure Re where
 name:Bs
 fields:List Fi
 inn:Bool
 out:Bool
 inl:Bool
 at':Nat
structure Ini where
 name:Bs
 comp:Bs
 types:List Bs
 at':Nat
structure Ov where
 rel:Bs
 at':Nat
mutual
inductive Un where
 | mk (types:List Ty) (rels:List Re) (rules:List Ru) (comps:List Co) (inits:List Ini) (overs:List Ov)
inductive Co where
 | mk (name:Bs) (params:List Bs) (base:Bs) (types:List Bs) (unit:Un) (at':Nat)
end
def hd (ts:Ts):T0:=match ts with
 | []=>⟨0,[],0⟩
 | t::_=>t
def ZL (s:Bs):Nat :=
 if s=[99,97,116] then 20 else if s=[115,116,114,108,101,110] then 21 else if s=[115,117,98,115,116,114] then 22 else if s=[99,111,100,101] then 23 else if s=[115,116,114] then 24 else if s=[110,117,109] then 25 else 0
def keptWords:List Bs:=[[116,121,112,101],[100,101,99,108],[105,110,112,117,116],[111,117,116,112,117,116],[105,110,108,105,110,101],[99,111,109,112],[105,110,105,116],[111,118,101,114,114,105,100,101],[110,105,108],[99,111,117,110,116],[115,117,109],[109,105,110],[109,97,120],[98,111,114],[98,120,111,114],[98,97,110,100],[115,104,108],[115,104,114]]
def ZcO (s:Bs):Bool:=keptWords.contains s || decide (ZL s≠0)
def isW (ts:Ts) (ws:List Bs):Bool:=(decide ((hd ts).kind=1) || decide ((hd ts).kind=4)) && ws.contains (hd ts).text
def ZF (ts:Ts):Bool:=decide ((hd ts).kind=1) && (!decide ((hd ts).text=[95]) && !ZcO (hd ts).text)
def ZJ (ts:Ts):Bool :=
 if (hd ts).kind=2∨(hd ts).kind=3 then true
 else if (hd ts).kind=4 then isW ts [[45],[126],[40],[91],[36]]
 else if (hd ts).kind=1 then !ZcO (hd ts).text || (decide ((hd ts).text=[110,105,108]) || decide (ZL (hd ts).text≠0))
 else false
def UI (ts:Ts):Nat×Nat :=
 if (hd ts).kind≠1∧(hd ts).kind≠4 then (0,0)
 else if (hd ts).text=[98,111,114] then (1,16) else if (hd ts).text=[98,120,111,114] then (1,17) else if (hd ts).text=[98,97,110,100] then (2,15) else if (hd ts).text=[115,104,108] then (3,18) else if (hd ts).text=[115,104,114] then (3,19)
 else if (hd ts).text=[43] then (4,10) else if (hd ts).text=[45] then (4,11) else if (hd ts).text=[42] then (5,12) else if (hd ts).text=[47] then (5,13) else if (hd ts).text=[37] then (5,14) else (0,0)
def Z0 (w:Bs) (ts:Ts):R Unit:=if isW ts [w]=true then .ok () ts.tail else .err ts.length 150
def Xw (ts:Ts):R Bs:=if ZF ts=true then .ok (hd ts).text ts.tail else .err ts.length 150
def Zo {α:Type} (d:Nat) (fr tw:Bs) (read:Ts→R α) (ts:Ts):R α :=
 if isW ts [fr]=true then
  (if d=0 then .err ts.length 151 else (read ts.tail).bind fun x ts=>if tw=[] then .ok x ts else (Z0 tw ts).bind fun _ ts=>.ok x ts)
 else .err ts.length 150
def XB {α:Type} (sign:Bs) (most:Nat) (starts:Ts→Bool) (one:Ts→R α):Nat→List α→Ts→R (List α)
 | 0,_,_=>.err 0 150
 | f+1,l,ts=>if starts ts=true∧l.length=most then .err ts.length 3
   else (one ts).bind fun x ts=>if isW ts [sign]=true then XB sign most starts one f (l++[x]) ts.tail else .ok (l++[x]) ts
def Wf {α:Type} (sign:Bs) (most:Nat) (starts:Ts→Bool) (one:Ts→R α) (ts:Ts):R (List α):=XB sign most starts one (ts.length+1) [] ts
def VH (ts:Ts):R Fi:=(Xw ts).bind fun a ts=>(Z0 [58] ts).bind fun _ ts=>(Xw ts).bind fun b ts=>.ok ⟨a,b⟩ ts
def W9 (fin:Bs) (ts:Ts):R (List Fi):=if isW ts [fin]=true then .ok [] ts else Wf [44] 12 ZF VH ts
def JE (ts:Ts):R (List Bs):=if isW ts [[60]]=true then (Wf [44] 12 ZF Xw ts.tail).bind fun l ts=>(Z0 [62] ts).bind fun _ ts=>.ok l ts else .ok [] ts
def Zbn (ts:Ts):R Ca:=(Xw ts).bind fun a ts=>(Z0 [123] ts).bind fun _ ts=>(W9 [125] ts).bind fun l ts=>(Z0 [125] ts).bind fun _ ts=>.ok ⟨a,l⟩ ts
def Zb4 (t0:Ts):R Ty:=(Xw t0).bind fun nm ts =>
 if isW ts [[60,58]]=true then (Xw ts.tail).bind fun b ts=>.ok ⟨1,nm,b,[],[],t0.length⟩ ts
 else (Z0 [61] ts).bind fun _ ts =>
  if isW ts [[91]]=true then (W9 [93] ts.tail).bind fun l ts=>(Z0 [93] ts).bind fun _ ts=>.ok ⟨2,nm,[],l,[],t0.length⟩ ts
  else (Wf [124] 64 ZF Zbn ts).bind fun l ts=>.ok ⟨3,nm,[],[],l,t0.length⟩ ts
def Yy:Nat→Bool→Bool→Bool→Ts→(Bool×Bool×Bool)×Ts
 | 0,i,o,n,ts=>((i,o,n),ts)
 | f+1,i,o,n,ts=>if i=false∧isW ts [[105,110,112,117,116]]=true then Yy f true o n ts.tail
   else if o=false∧isW ts [[111,117,116,112,117,116]]=true then Yy f i true n ts.tail
   else if n=false∧isW ts [[105,110,108,105,110,101]]=true then Yy f i o true ts.tail
   else ((i,o,n),ts)
def Zhs (t0:Ts):R Re:=(Xw t0).bind fun nm ts=>(Z0 [40] ts).bind fun _ ts=>(W9 [41] ts).bind fun l ts=>(Z0 [41] ts).bind fun _ ts =>
 .ok ⟨nm,l,(Yy 4 false false false ts).1.1,(Yy 4 false false false ts).1.2.1,(Yy 4 false false false ts).1.2.2,t0.length⟩ (Yy 4 false false false ts).2
def ZaH (d:Nat) (ex:Ts→R Ex) (fr tw:Bs) (ts:Ts):R (List Ex):=Zo d fr tw (fun ts=>if isW ts [tw]=true then .ok [] ts else Wf [44] 12 ZJ ex ts) ts
def WY (ex:Ts→R Ex):Nat→List Ex→Ts→R (List Ex)
 | 0,l,ts=>.ok l ts
 | k+1,l,ts=>(if l=[] then .ok () ts else Z0 [44] ts).bind fun _ ts=>(ex ts).bind fun e ts=>WY ex k (l++[e]) ts
def Zbo (op:Nat):Nat:=if op=22 then 3 else if op=20 then 2 else 1
def Wg (d:Nat) (ex:Ts→R Ex) (ts:Ts):R Ex :=
 if ZJ ts=false then .err ts.length 150
 else if (hd ts).kind=2 then .ok (.mk 3 [] (hd ts).n [] ts.length) ts.tail
 else if (hd ts).kind=3 then .ok (.mk 4 (hd ts).text 0 [] ts.length) ts.tail
 else if (hd ts).text=[40] then Zo d [40] [41] ex ts
 else if (hd ts).text=[91] then (ZaH d ex [91] [93] ts).bind fun l ts'=>.ok (.mk 6 [] 0 l ts.length) ts'
 else if (hd ts).text=[36] then (Xw ts.tail).bind fun nm ts'=>if isW ts' [[40]]=true then (ZaH d ex [40] [41] ts').bind fun l ts'=>.ok (.mk 7 nm 0 l ts.length) ts' else .ok (.mk 7 nm 0 [] ts.length) ts'
 else if ZL (hd ts).text≠0 then (Zo d [40] [41] (WY ex (Zbo (ZL (hd ts).text)) []) ts.tail).bind fun l ts'=>.ok (.mk (ZL (hd ts).text) [] 0 l ts.length) ts'
 else if (hd ts).text=[110,105,108] then .ok (.mk 5 [] 0 [] ts.length) ts.tail
 else if (hd ts).text=[95] then .ok (.mk 2 [] 0 [] ts.length) ts.tail
 else .ok (.mk 1 (hd ts).text 0 [] ts.length) ts.tail
def Ex.at':Ex→Nat | .mk _ _ _ _ a=>a
def VI (sub:Nat→Ts→R Ex) (least:Nat):Nat→Ex→Ts→R Ex
 | 0,_,_=>.err 0 150
 | f+1,e,ts=>if (UI ts).1<least∨(UI ts).1=0 then .ok e ts
   else (sub ((UI ts).1+1) ts.tail).bind fun g ts'=>VI sub least f (.mk (UI ts).2 [] 0 [e,g] e.at') ts'
def Va (sg:Ts→R Ex):Nat→Nat→Ts→R Ex
 | 0,_,ts=>sg ts
 | k+1,least,ts=>(sg ts).bind fun e ts=>VI (Va sg k) least (ts.length+1) e ts
def Vb (d:Nat) (sg:Ts→R Ex) (ts:Ts):R Ex :=
 if isW ts [[45]]=true then (Zo d [45] [] sg ts).bind fun e ts'=>.ok (.mk 8 [] 0 [e] ts.length) ts'
 else if isW ts [[126]]=true then (Zo d [126] [] sg ts).bind fun e ts'=>.ok (.mk 9 [] 0 [e] ts.length) ts'
 else Wg d (Va sg 6 1) ts
def Yp:Nat→Ts→R Ex
 | 0=>Vb 0 fun _=>.err 0 150
 | d+1=>Vb (d+1) (Yp d)
def Vp (d:Nat) (ts:Ts):R Ex:=Va (Yp d) 6 1 ts
def Zbp:Nat→Ts→R Ex
 | 0=>fun _=>.err 0 150
 | d+1=>Vp d
def JI (ts:Ts):Nat→List Bs→Option Nat
 | _,[]=>none
 | i,w::ws=>if isW ts [w]=true then some i else JI ts (i+1) ws
def ZT:List Bs:=[[61],[33,61],[60],[60,61],[62],[62,61]]
def Yl:List Bs:=[[99,111,117,110,116],[115,117,109],[109,105,110],[109,97,120]]
def Ui (ts:Ts):R Nat:=match JI ts 0 ZT with
 | none=>.err ts.length 150
 | some 0=>match JI ts.tail 0 Yl with
  | some j=>.ok (9+j) ts.tail.tail
  | none=>.ok 3 ts.tail
 | some k=>.ok (3+k) ts.tail
def Ji (d op a:Nat) (ts:Ts):R Li:=(Xw ts).bind fun nm ts=>(ZaH d (Zbp d) [40] [41] ts).bind fun l ts=>.ok (.mk op nm l [] a) ts
def XC (d:Nat) (bd:Ts→R (List Li)) (a op:Nat) (l:List Ex) (ts:Ts):R Li :=
 if 9≤op then (Z0 [58] ts).bind fun _ ts=>(Zo d [123] [125] bd ts).bind fun b ts=>.ok (.mk op [] l b a) ts
 else .ok (.mk op [] l [] a) ts
def Zdt (d:Nat) (bd:Ts→R (List Li)) (t0:Ts):R Li:=(Vp d t0).bind fun e ts=>(Ui ts).bind fun op ts =>
 if op=9 then XC d bd t0.length op [e] ts else (Vp d ts).bind fun g ts=>XC d bd t0.length op [e,g] ts
def Zdu (d:Nat) (bd:Ts→R (List Li)) (t0:Ts):R Li :=
 if isW t0 [[33]]=true then Ji d 2 t0.length t0.tail
 else if ZF t0=true∧(hd t0.tail).kind=4∧(hd t0.tail).text=[40] then Ji d 1 t0.length t0
 else Zdt d bd t0
def Yq (ts:Ts):Bool:=ZJ ts || isW ts [[33]]
def ZfQ:Nat→Ts→R (List Li)
 | 0=>Wf [44] 32 Yq (Zdu 0 fun _=>.err 0 150)
 | d+1=>Wf [44] 32 Yq (Zdu (d+1) (ZfQ d))
def Jj:Nat→Ts→R (List Li)
 | 0=>fun _=>.err 0 150
 | d+1=>ZfQ d
def Zht (d:Nat) (bodies:Bool) (t0:Ts):R Ru:=(Xw t0).bind fun nm ts=>(ZaH d (Zbp d) [40] [41] ts).bind fun l ts =>
 if bodies=true∧isW ts [[58,45]]=true then (ZfQ d ts.tail).bind fun b ts=>(Z0 [46] ts).bind fun _ ts=>.ok ⟨nm,l,b,t0.length⟩ ts
 else (Z0 [46] ts).bind fun _ ts=>.ok ⟨nm,l,[],t0.length⟩ ts
def ZfR (d:Nat) (un:Ts→R Un) (t0:Ts):R Co:=(Xw t0).bind fun nm ts=>(JE ts).bind fun ps ts =>
 if isW ts [[58]]=true then (Xw ts.tail).bind fun b ts=>(JE ts).bind fun tys ts=>(Zo d [123] [125] un ts).bind fun u ts=>.ok (.mk nm ps b tys u t0.length) ts
 else (Zo d [123] [125] un ts).bind fun u ts=>.ok (.mk nm ps [] [] u t0.length) ts
def Zhu (t0:Ts):R Ini:=(Xw t0).bind fun nm ts=>(Z0 [61] ts).bind fun _ ts=>(Xw ts).bind fun c ts=>(JE ts).bind fun tys ts=>.ok ⟨nm,c,tys,t0.length⟩ ts
def Zhv (t0:Ts):R Ov:=(Xw t0).bind fun nm ts=>.ok ⟨nm,t0.length⟩ ts
def ZX (inside:Bool) (d:Nat) (un:Ts→R Un):Nat→Un→Ts→R Un
 | 0,_,_=>.err 0 150
 | f+1,.mk tys rels rules comps inits overs,ts =>
  if ts=[]∨(inside=true∧isW ts [[125]]=true) then .ok (.mk tys rels rules comps inits overs) ts
  else if isW ts [[116,121,112,101]]=true then (if tys.length=256 then .err ts.length 3 else (Zb4 ts.tail).bind fun x ts=>ZX inside d un f (.mk (tys++[x]) rels rules comps inits overs) ts)
  else if isW ts [[100,101,99,108]]=true then (if rels.length=256 then .err ts.length 3 else (Zhs ts.tail).bind fun x ts=>ZX inside d un f (.mk tys (rels++[x]) rules comps inits overs) ts)
  else if isW ts [[99,111,109,112]]=true then (if comps.length=64 then .err ts.length 3 else (ZfR d un ts.tail).bind fun x ts=>ZX inside d un f (.mk tys rels rules (comps++[x]) inits overs) ts)
  else if isW ts [[105,110,105,116]]=true then (if inits.length=256 then .err ts.length 3 else (Zhu ts.tail).bind fun x ts=>ZX inside d un f (.mk tys rels rules comps (inits++[x]) overs) ts)
  else if isW ts [[111,118,101,114,114,105,100,101]]=true then (if overs.length=256 then .err ts.length 3 else (Zhv ts.tail).bind fun x ts=>ZX inside d un f (.mk tys rels rules comps inits (overs++[x])) ts)
  else if ZF ts=true then (if rules.length=1024 then .err ts.length 3 else (Zht d true ts).bind fun x ts=>ZX inside d un f (.mk tys rels (rules++[x]) comps inits overs) ts)
  else .err ts.length 150
def Un.nil:Un:=.mk [] [] [] [] [] []
def Zhw (inside:Bool) (d:Nat) (un:Ts→R Un) (ts:Ts):R Un:=ZX inside d un (ts.length+1) .nil ts
def Zhx:Nat→Ts→R Un
 | 0=>Zhw true 0 fun _=>.err 0 150
 | d+1=>Zhw true (d+1) (Zhx d)
def VJ (ts:Ts):R Un:=Zhw false 64 (Zhx 63) ts
end Go.PM.Lex
end

section
noncomputable section
namespace Go.PM.Lex
open Go.Proofs
def tz (L:List Tok) (a:Int):Ts:=(L.drop a.toNat).map Tok.t0
def Ze (L:List Tok) (en:Int) (r:Nat):Int:=match L.drop (L.length - r) with
 | []=>en
 | t::_=>t.at'
structure ROK (L:List Tok) (a:Int) (ts:Ts):Prop where
 lo:0≤a
 hi:a≤L.length
 big:L.length≤1048576
 eq:tz L a=ts
theorem ROK.len {L:List Tok} {a:Int} {ts:Ts} (h:ROK L a ts):(ts.length:Int)=L.length - a:=by
 rw [← h.eq];simp only [tz,Tf,Tu];have:=h.lo;have:=h.hi;omega
theorem ROK.next {L:List Tok} {a:Int} {t:T0} {ts:Ts} (h:ROK L a (t::ts)):ROK L (a+1) ts:=by
 have hl:=h.len
 have h0:=h.lo
 refine ⟨by omega,by simp at hl;omega,h.big,?_⟩
 have:=h.eq
 simp only [tz] at this ⊢
 rw [show (a+1).toNat=a.toNat+1 by omega,← TS,List.map_drop,this];rfl
theorem J4 {ts:Ts} {ws:List Bs} (h:isW ts ws=true):ts≠[]:=by rintro rfl;simp [isW,hd] at h
theorem ZeL {ts:Ts} (h:ZF ts=true):ts≠[]:=by rintro rfl;simp [ZF,hd] at h
theorem ROK.tl {L:List Tok} {a:Int} {ts:Ts} (h:ROK L a ts) (hn:ts≠[]):ROK L (a+1) ts.tail:=by
 cases ts with
 | nil=>exact absurd rfl hn
 | cons t ts=>exact h.next
theorem ROK.get {L:List Tok} {a:Int} {t:T0} {ts:Ts} (h:ROK L a (t::ts)):∃x,L[a.toNat]?=some x∧x.t0=t∧∀en,Ze L en (ts.length+1)=x.at':=by
 have hl:=h.len
 have h0:=h.lo
 have h1:=h.eq
 simp only [Tc] at hl
 have hlt:a.toNat<L.length:=by omega
 refine ⟨L[a.toNat],Tk hlt,?_,fun en=>?_⟩
 ·simp only [tz] at h1
  rw [Sl hlt] at h1
  simp only [Tw,List.cons.injEq] at h1
  exact h1.1
 ·unfold Ze
  rw [show L.length - (ts.length+1)=a.toNat by omega,Sl hlt]
theorem ROK.none {L:List Tok} {a:Int} (h:ROK L a []):a=L.length:=by have:=h.len;simp at this;omega
theorem Zdv (L:List Tok) (en:Int):Ze L en 0=en:=by simp [Ze]
abbrev Pl:=Nat→Int
mutual
def YE (pl:Pl):Ex→List D
 | .mk op text n args a=>[.int .u8 op,.str text,.int .i64 n,.sl (XF pl args),.int .i64 (pl a)]
def XF (pl:Pl):List Ex→List (List D)
 | []=>[]
 | e::l=>YE pl e::XF pl l
end
mutual
def Xp (pl:Pl):Li→List D
 | .mk op rel args body a=>[.int .u8 op,.str rel,.sl (XF pl args),.sl (ZfS pl body),.int .i64 (pl a)]
def ZfS (pl:Pl):List Li→List (List D)
 | []=>[]
 | e::l=>Xp pl e::ZfS pl l
end
def Z7 (pl:Pl) (r:Ru):List D:=[.str r.head,.sl (XF pl r.args),.sl (ZfS pl r.body),.int .i64 (pl r.at')]
def ZA (f:Fi):List D:=[.str f.name,.str f.typ]
def ZI (c:Ca):List D:=[.str c.name,.sl (c.fields.map ZA)]
def Ya (pl:Pl) (t:Ty):List D:=[.int .u8 t.kind,.str t.name,.str t.base,.sl (t.fields.map ZA),.sl (t.cases.map ZI),.int .i64 (pl t.at')]
def Z8 (pl:Pl) (r:Re):List D:=[.str r.name,.sl (r.fields.map ZA),.bool r.inn,.bool r.out,.bool r.inl,.int .i64 (pl r.at')]
def ZC (s:Bs):List D:=[.str s]
def Yd (pl:Pl) (i:Ini):List D:=[.str i.name,.str i.comp,.sl (i.types.map ZC),.int .i64 (pl i.at')]
def Ye (pl:Pl) (o:Ov):List D:=[.str o.rel,.int .i64 (pl o.at')]
mutual
def XK (pl:Pl):Un→List D
 | .mk tys rels rules comps inits overs=>[.sl (tys.map (Ya pl)),.sl (rels.map (Z8 pl)),.sl (rules.map (Z7 pl)),.sl (Zi1 pl comps),.sl (inits.map (Yd pl)),.sl (overs.map (Ye pl))]
def ZY (pl:Pl):Co→List D
 | .mk name params base types u a=>[.str name,.sl (params.map ZC),.str base,.sl (types.map ZC)]++XK pl u++[.int .i64 (pl a)]
def Zi1 (pl:Pl):List Co→List (List D)
 | []=>[]
 | e::l=>ZY pl e::Zi1 pl l
end
theorem Zh (pl:Pl) (l:List Ex):XF pl l=l.map (YE pl):=by induction l with | nil=>rfl | cons x l ih=>simp [XF,ih]
theorem Zp (pl:Pl) (l:List Li):ZfS pl l=l.map (Xp pl):=by induction l with | nil=>rfl | cons x l ih=>simp [ZfS,ih]
theorem Yb (pl:Pl) (l:List Co):Zi1 pl l=l.map (ZY pl):=by induction l with | nil=>rfl | cons x l ih=>simp [Zi1,ih]
abbrev Zb6 (l:List D):PV:=.agg (l.map .d)
abbrev flt (L:List Tok) (en:Int) (r e:Nat):PV:=.iface 138 (.agg [.d (.int .i64 (Ze L en r)),.d (.int .i64 e)])
abbrev RK:=PEnd→Int→Int→Prop
def RKk {α:Type} (enc:α→PV) (L:List Tok) (en dp lo:Int) (x:R α) (K:RK):Prop:=match x with
 | .ok v ts'=>∀a',lo≤a'→ROK L a' ts'→K (.ret (enc v)) a' dp
 | .err r e=>∀a' dp',K (.panic (flt L en r e)) a' dp'
theorem Yv {α:Type} {enc:α→PV} {L:List Tok} {en dp lo:Int} {x:R α} {K K':RK} (hK:∀pe a d,K pe a d→K' pe a d) (h:RKk enc L en dp lo x K):RKk enc L en dp lo x K':=by
 cases x with
 | ok v ts=>exact fun a' h1 h2=>hK _ _ _ (h a' h1 h2)
 | err r e=>exact fun a' d=>hK _ _ _ (h a' d)
def Ws (body:List PV→List Tok→Int→Int→Int→Ts→RK→Prop):Zz:=fun args σ K=>match args,σ with
 | .ptr 0 0::rest,⟨[.cells t [.d (.sl rows),.d (.int .i64 a),.d (.int .i64 en),.d (.int .i64 dp)]],[],0⟩=>∃L ts,rows=ZZ L∧ROK L a ts ∧
   body rest L en dp a ts fun pe a' dp'=>K pe ⟨[.cells t [.d (.sl (ZZ L)),.d (.int .i64 a'),.d (.int .i64 en),.d (.int .i64 dp')]],[],0⟩
 | _,_=>False
theorem ZR {body:List PV→List Tok→Int→Int→Int→Ts→RK→Prop} (hb:∀rest L en dp a ts (K K':RK),(∀pe a d,K pe a d→K' pe a d)→body rest L en dp a ts K→body rest L en dp a ts K'):Zc (Ws body):=fun args σ K K' hK h=>by
 unfold Ws at h ⊢
 exact m122
def VK:Zz:=fun args σ K=>match args,σ with
 | [.d (.str s)],⟨[],[],0⟩=>∀n:Int,(ZL s:Int)=n→K (.ret (.d (.int .u8 n))) ⟨[],[],0⟩
 | _,_=>False
theorem Uk:Zc VK:=fun args σ K K' hK h=>by
 unfold VK at h ⊢;split at h <;> first | exact fun n hn=>hK _ _ (h n hn) | exact h.elim
def ZeM:Zz:=fun args σ K=>match args,σ with
 | [.d (.str s)],⟨[],[],0⟩=>∀b,ZcO s=b→K (.ret (.d (.bool b))) ⟨[],[],0⟩
 | _,_=>False
theorem Zbr:Zc ZeM:=fun args σ K K' hK h=>by
 unfold ZeM at h ⊢;split at h <;> first | exact fun n hn=>hK _ _ (h n hn) | exact h.elim
def ZfT (s:Bs):Nat→List Bs→Int
 | _,[]=>-1
 | i,w::ws=>if s=w then i else ZfT s (i+1) ws
def Zb7:Zz:=fun args σ K=>match args,σ with
 | [.d (.sl rows),.d (.str s)],⟨[],[],0⟩=>∃ws:List Bs,rows=ws.map ZC∧ws.length≤1048576∧K (.ret (.d (.int .i64 (ZfT s 0 ws)))) ⟨[],[],0⟩
 | _,_=>False
theorem Zhy:Zc Zb7:=fun args σ K K' hK h=>by
 unfold Zb7 at h ⊢;split at h
 ·obtain ⟨ws,h1,h2,h3⟩:=h;exact ⟨ws,h1,h2,hK _ _ h3⟩
 ·exact h.elim
def UJ:Zz:=fun args σ K=>match args,σ with
 | [.d (.sl rows),.d (.str s)],⟨[],[],0⟩=>∃ws:List Bs,rows=ws.map ZC∧ws.length≤1048576∧∀b,ws.contains s=b→K (.ret (.d (.bool b))) ⟨[],[],0⟩
 | _,_=>False
theorem ZeN:Zc UJ:=fun args σ K K' hK h=>by
 unfold UJ at h ⊢;split at h
 ·obtain ⟨ws,h1,h2,h3⟩:=h;exact ⟨ws,h1,h2,fun b hb=>hK _ _ (h3 b hb)⟩
 ·exact h.elim
def ZaY:Zz:=Ws fun rest L en dp a ts K=>match rest with
 | [.d (.int .i64 n)]=>∀fin,(n=0∧K (.ret (.agg [.d (.int .u8 (hd ts).kind),.d (.str (hd ts).text),.d (.int .i64 (hd ts).n),.d (.int .i64 (Ze L en ts.length)),.d (.int .i64 fin)])) a dp) ∨
   (n=1∧K (.ret (.agg [.d (.int .u8 (hd ts.tail).kind),.d (.str (hd ts.tail).text),.d (.int .i64 (hd ts.tail).n),.d (.int .i64 (Ze L en ts.tail.length)),.d (.int .i64 fin)])) a dp)
 | _=>False
theorem XW:Zc ZaY:=ZR fun rest L en dp a ts K K' hK h=>by
 split at h
 ·exact fun fin=>Or.imp (fun g=>⟨g.1,hK _ _ _ g.2⟩) (fun g=>⟨g.1,hK _ _ _ g.2⟩) (h fin)
 ·exact h.elim
def Vc:Zz:=Ws fun rest L en dp a ts K=>match rest with
 | []=>K (.ret (.d (.int .i64 (Ze L en ts.length)))) a dp
 | _=>False
theorem YO:Zc Vc:=ZR fun rest L en dp a ts K K' hK h=>by
 split at h
 ·exact hK _ _ _ h
 ·exact h.elim
def Zim:Zz:=Ws fun rest L en dp a ts K=>match rest with
 | [.d (.sl rows)]=>∃ws:List Bs,rows=ws.map ZC∧ws.length≤1048576∧∀b,isW ts ws=b→K (.ret (.d (.bool b))) a dp
 | _=>False
theorem YC:Zc Zim:=ZR fun rest L en dp a ts K K' hK h=>by
 split at h
 ·obtain ⟨ws,h1,h2,h3⟩:=h;exact ⟨ws,h1,h2,fun b hb=>hK _ _ _ (h3 b hb)⟩
 ·exact h.elim
def ZaI (p:Ts→Bool):Zz:=Ws fun rest L en dp a ts K=>match rest with
 | []=>∀b,p ts=b→K (.ret (.d (.bool b))) a dp
 | _=>False
theorem Xx (p:Ts→Bool):Zc (ZaI p):=ZR fun rest L en dp a ts K K' hK h=>by
 split at h
 ·exact fun b hb=>hK _ _ _ (h b hb)
 ·exact h.elim
def Xi:Zz:=Ws fun rest L en dp a ts K=>match rest with
 | [.d (.int .i64 e)]=>K (.panic (.iface 138 (.agg [.d (.int .i64 (Ze L en ts.length)),.d (.int .i64 e)]))) a dp
 | _=>False
theorem Zy:Zc Xi:=ZR fun rest L en dp a ts K K' hK h=>by
 split at h
 ·exact hK _ _ _ h
 ·exact h.elim
def WZ:Zz:=Ws fun rest L en dp a ts K=>match rest with
 | [.d (.sl rows)]=>∃ws:List Bs,rows=ws.map ZC∧ws.length≤1048576∧(isW ts ws=true→ROK L (a+1) ts.tail→K (.ret (.d (.bool true))) (a+1) dp)∧(isW ts ws=false→K (.ret (.d (.bool false))) a dp)
 | _=>False
theorem ZU:Zc WZ:=ZR fun rest L en dp a ts K K' hK h=>by
 split at h
 ·obtain ⟨ws,h1,h2,h3,h4⟩:=h;exact ⟨ws,h1,h2,fun b hb=>hK _ _ _ (h3 b hb),fun b=>hK _ _ _ (h4 b)⟩
 ·exact h.elim
def Zi2:Zz:=Ws fun rest L en dp a ts K=>match rest with
 | [.d (.int .i64 n),.d (.int .i64 m)]=>(n=m→K (.panic (flt L en ts.length 3)) a dp)∧(n≠m→K (.ret (.tuple [])) (a+1) dp)
 | _=>False
theorem ZkD:Zc Zi2:=ZR fun rest L en dp a ts K K' hK h=>by
 split at h
 ·exact ⟨fun g=>hK _ _ _ (h.1 g),fun g=>hK _ _ _ (h.2 g)⟩
 ·exact h.elim
def spR {α:Type} (enc:List Tok→Int→α→PV) (P:Ts→R α) (lo:Int):Zz:=Ws fun rest L en dp a ts K=>match rest with
 | []=>∀x,P ts=x→RKk (enc L en) L en dp (a+lo) x K
 | _=>False
theorem Xa {α:Type} (enc:List Tok→Int→α→PV) (P:Ts→R α) (lo:Int):Zc (spR enc P lo):=ZR fun rest L en dp a ts K K' hK h=>by
 exact m100
def Wh:Zz:=Ws fun rest L en dp a ts K=>match rest with
 | [.d (.str w)]=>∀x,Z0 w ts=x→RKk (fun _=>.tuple []) L en dp (a+1) x K
 | _=>False
theorem ZN:Zc Wh:=ZR fun rest L en dp a ts K K' hK h=>by
 exact m100
abbrev WE:Zz:=spR (fun _ _ (v:Bs)=>.d (.str v)) Xw 1
end Go.PM.Lex
end
end

section
namespace Go.PM.Lex
open Go.Proofs
variable {w0:World} {nG:Nat}
theorem ZcP:PCalls (GG w0 nG) 212 VK:=by
 refine pc (tbl:=[]) trivial Tryz.func212 ?_
 intro args σ K h
 unfold VK at h
 split at h
 ·rename_i s
  refine ⟨Za [],0,false,by simp,Tb rfl,?_⟩
  repeat' ((conv=>whnf);refine ZEb (fun hc=>?_) (fun hc=>?_))
  all_goals (conv=>whnf)
  all_goals exact h _ (by simp [ZL, *])
 ·exact h.elim
noncomputable def ZuW:Tbl:=[(212,VK)]
theorem ZkE:PCalls (GG w0 nG) 148 ZeM:=by
 refine pc (tbl:=ZuW) ⟨⟨ZcP,Uk⟩,trivial⟩ Tryz.func148 ?_
 intro args σ K h
 unfold ZeM at h
 split at h
 ·rename_i s
  refine ⟨Za [],0,false,by simp,Tb rfl,?_⟩
  repeat' ((conv=>whnf);refine ZEb (fun hc=>?_) (fun hc=>?_))
  all_goals (conv=>whnf)
  all_goals first
   | contradiction
   | exact h _ (by subst_vars;decide)
   | skip
  intro n hn
  conv=>whnf
  refine h _ ?_
  have hk:keptWords.contains s=false:=by
   have:¬s∈keptWords:=by
    simp only [keptWords,Tv,List.not_mem_nil,or_false,not_or]
    repeat' (first | assumption | refine ⟨by assumption,?_⟩)
   rw [Bool.eq_false_iff];intro g
   exact this (List.contains_iff_mem.1 g)
  rw [ZcO,hk,← hn]
  by_cases h0:ZL s=0 <;> simp [h0]
 ·exact h.elim
end Go.PM.Lex
end

section
namespace Go.PM.Lex
open Go.Proofs
variable {w0:World} {nG:Nat}
theorem Zgy (s w:Bs) (i:Nat) (ws:List Bs):ZfT s i (w::ws)=if s=w then (i:Int) else ZfT s (i+1) ws:=rfl
theorem Zi3 (s:Bs):∀(ws:List Bs) (i:Nat),(0≤ZfT s i ws)↔ws.contains s=true
 | [],i=>by simp [ZfT]
 | w::ws,i=>by
  rw [Zgy]
  split
  ·rename_i h;subst h;simp
  ·rename_i h;rw [Zi3 s ws];simp [h]
theorem Znx (s:Bs) (ws:List Bs) (i:Nat) (h:i<ws.length):ZfT s i (ws.drop i)=if s=ws[i] then (i:Int) else ZfT s (i+1) (ws.drop (i+1)):=by
 rw [Sl h,Zgy]
theorem ZpB:PCalls (GG w0 nG) 257 Zb7:=by
 refine pc (tbl:=[]) trivial Tryz.func257 ?_
 intro args σ K h
 unfold Zb7 at h
 split at h
 ·rename_i rows s
  obtain ⟨ws,rfl,hw,h⟩:=h
  refine ⟨Za [(2,⟨[8],[0,1,7],fun vs σ=>∃i:Nat,vs=[.d (.int .i64 i)]∧σ=⟨[],[],0⟩∧i≤ws.length∧ZfT s 0 ws=ZfT s i (ws.drop i),fun vs _=>match vs with | [.d (.int _ i)]=>((ws.length:Int) - i).toNat | _=>0⟩)],0,false,by simp,Tb rfl,?_⟩
  conv=>whnf
  refine ⟨⟨0,rfl,rfl,by omega,rfl⟩,?_⟩
  intro vs σ hI
  obtain ⟨i,rfl,rfl,hi,hx⟩:=hI
  conv=>whnf
  refine ZEb (fun hc=>?_) (fun hc=>?_)
  ·have hc:i<ws.length:=by have hc:(i:Int)<((ws.map ZC).length:Int):=hc;rw [Tf] at hc;omega
   conv=>whnf
   refine ⟨ZC ws[i],by omega,by simp [hc],?_⟩
   rw [Znx s ws i hc] at hx
   conv=>whnf
   refine ZEb (fun h1=>?_) (fun h1=>?_)
   ·conv=>whnf
    rw [hx,Th h1] at h
    exact h
   ·conv=>whnf
    rw [Te h1] at hx
    refine oiO ?_
    conv=>whnf
    refine ⟨⟨i+1,rfl,rfl,by omega,hx⟩,?_⟩
    show ((ws.length:Int) - ((i:Int)+1)).toNat<((ws.length:Int) - (i:Int)).toNat
    omega
  ·have hc:ws.length≤i:=by have hc:¬(i:Int)<((ws.map ZC).length:Int):=hc;rw [Tf] at hc;omega
   rw [TU hc] at hx
   conv=>whnf
   rw [hx] at h
   exact h
 ·exact h.elim
noncomputable def ZuX:Tbl:=[(257,Zb7)]
theorem ZkF:PCalls (GG w0 nG) 199 UJ:=by
 refine pc (tbl:=ZuX) ⟨⟨ZpB,Zhy⟩,trivial⟩ Tryz.func199 ?_
 intro args σ K h
 unfold UJ at h
 split at h
 ·rename_i rows s
  obtain ⟨ws,rfl,hw,h⟩:=h
  refine ⟨Za [],0,false,by simp,Tb rfl,?_⟩
  conv=>whnf
  refine ⟨ws,rfl,hw,?_⟩
  conv=>whnf
  exact h _ (by rw [Bool.eq_iff_iff,TJ,← Zi3 s ws 0])
 ·exact h.elim
end Go.PM.Lex
end

section
namespace Go.PM.Lex
open Go.Proofs
variable {w0:World} {nG:Nat}
theorem Zbs:PCalls (GG w0 nG) 198 ZaY:=by
 refine pc (tbl:=[]) trivial Tryz.func198 ?_
 intro args σ K h
 unfold ZaY Ws at h
 split at h
 ·rename_i t rows a en dp
  obtain ⟨L,ts,rfl,ho,h⟩:=h
  split at h
  ·rename_i n
   have hl:=ho.len
   have h0:=ho.lo
   have h1:=ho.hi
   have h2:=ho.big
   have hn:n=0∨n=1:=by rcases h 0 with g | g <;> simp [g.1]
   refine ⟨Za [],1,false,by simp,Tb rfl,?_⟩
   conv=>whnf
   refine oiO ?_
   conv=>whnf
   refine ZEb (fun hc=>?_) (fun hc=>?_)
   ·have hc:a+n<L.length:=by have hc:a+n<((ZZ L).length:Int):=hc;rw [XJ] at hc;exact hc
    rcases hn with rfl | rfl
    ·cases ts with
     | nil=>simp at hl;omega
     | cons t0 ts =>
      obtain ⟨x,hx,rfl,hp⟩:=ho.get
      conv=>whnf
      refine ⟨ZyX x,by omega,by simp [ZZ,hx],?_⟩
      conv=>whnf
      have h:=h x.fin
      rw [Tc,hp] at h
      rcases h with h | h
      ·exact h.2
      ·exact absurd h.1 (by omega)
    ·cases ts with
     | nil=>simp at hl;omega
     | cons t1 ts =>
     cases ts with
     | nil=>simp at hl;omega
     | cons t0 ts =>
      obtain ⟨x,hx,rfl,hp⟩:=ho.next.get
      conv=>whnf
      refine ⟨ZyX x,by omega,by simp [ZZ,hx],?_⟩
      conv=>whnf
      have h:=h x.fin
      simp only [TH,Tc,hp] at h
      rcases h with h | h
      ·exact absurd h.1 (by omega)
      ·exact h.2
   ·have hc:¬a+n<L.length:=by have hc:¬a+n<((ZZ L).length:Int):=hc;rw [XJ] at hc;exact hc
    conv=>whnf
    have h:=h 0
    rcases hn with rfl | rfl
    ·cases ts with
     | nil => rcases h with h | h
              ·have h:=h.2;simp only [Td,Zdv] at h;exact h
              ·exact absurd h.1 (by omega)
     | cons t0 ts=>simp at hl;omega
    ·have:ts.tail=[]:=by
      cases ts with
      | nil=>rfl
      | cons t1 ts=>cases ts with
       | nil=>rfl
       | cons t0 ts=>simp at hl;omega
     rw [this] at h
     rcases h with h | h
     ·exact absurd h.1 (by omega)
     ·have h:=h.2;simp only [Td,Zdv] at h;exact h
  ·exact h.elim
 ·exact h.elim
end Go.PM.Lex
end

section
namespace Go.PM.Lex
open Go.Proofs
variable {w0:World} {nG:Nat}
noncomputable def Zse:Tbl:=[(198,ZaY)]
theorem Zsf (ht:TblOK (GG w0 nG) Zse):PCalls (GG w0 nG) 141 Vc:=by
 refine pc ht Tryz.func141 ?_
 intro args σ K h
 unfold Vc Ws at h
 split at h
 ·rename_i rest t rows a en dp
  obtain ⟨L,ts,rfl,ho,h⟩:=h
  split at h
  ·skip
   refine ⟨Za [],1,false,by simp,Tb rfl,?_⟩
   conv=>whnf
   refine ⟨L,ts,rfl,ho,fun fin=>Or.inl ⟨rfl,?_⟩⟩
   exact m31
  ·exact h.elim
 ·exact h.elim
noncomputable def ZCm:Tbl:=[(198,ZaY),(199,UJ)]
theorem ZCn (ht:TblOK (GG w0 nG) ZCm):PCalls (GG w0 nG) 136 Zim:=by
 refine pc ht Tryz.func136 ?_
 intro args σ K h
 unfold Zim Ws at h
 split at h
 ·rename_i rest t rows a en dp
  obtain ⟨L,ts,rfl,ho,h⟩:=h
  split at h
  ·rename_i rows
   obtain ⟨ws,rfl,hw,h⟩:=h
   refine ⟨Za [],1,false,by simp,Tb rfl,?_⟩
   conv=>whnf
   refine ⟨L,ts,rfl,ho,fun fin=>Or.inl ⟨rfl,?_⟩⟩
   conv=>whnf
   refine ZEb (fun h1=>?_) (fun h1=>?_)
   ·conv=>whnf
    refine ⟨ws,rfl,hw,fun b hb=>?_⟩
    conv=>whnf
    exact h _ (by simp only [isW,hb];simp [show (hd ts).kind=1 by omega])
   ·conv=>whnf
    refine ZEb (fun h2=>?_) (fun h2=>?_)
    ·conv=>whnf
     refine ⟨ws,rfl,hw,fun b hb=>?_⟩
     conv=>whnf
     exact h _ (by simp only [isW,hb];simp [show (hd ts).kind=4 by omega])
    ·conv=>whnf
     exact h _ (by simp [isW,show ¬(hd ts).kind=1 by omega,show ¬(hd ts).kind=4 by omega])
  ·exact h.elim
 ·exact h.elim
noncomputable def Zsg:Tbl:=[(198,ZaY),(148,ZeM)]
theorem Zsh (ht:TblOK (GG w0 nG) Zsg):PCalls (GG w0 nG) 145 (ZaI ZF):=by
 refine pc ht Tryz.func145 ?_
 intro args σ K h
 unfold ZaI Ws at h
 split at h
 ·rename_i rest t rows a en dp
  obtain ⟨L,ts,rfl,ho,h⟩:=h
  split at h
  ·skip
   refine ⟨Za [],1,false,by simp,Tb rfl,?_⟩
   conv=>whnf
   refine ⟨L,ts,rfl,ho,fun fin=>Or.inl ⟨rfl,?_⟩⟩
   conv=>whnf
   refine ZEb (fun h1=>?_) (fun h1=>?_)
   ·conv=>whnf
    refine ZEf (fun h2=>?_) (fun h2=>?_)
    ·conv=>whnf
     intro b hb
     conv=>whnf
     exact h _ (by simp only [ZF,hb];rw [SC (show (hd ts).kind=1 by omega),decide_eq_false h2];simp)
    ·conv=>whnf
     exact h _ (by simp only [ZF];rw [SC (p:=(hd ts).text=[95]) h2];simp)
   ·conv=>whnf
    exact h _ (by simp [ZF,show ¬(hd ts).kind=1 by omega])
  ·exact h.elim
 ·exact h.elim
noncomputable def ZuY:Tbl:=[(141,Vc)]
theorem ZuZ (ht:TblOK (GG w0 nG) ZuY):PCalls (GG w0 nG) 81 Xi:=by
 refine pc ht Tryz.func81 ?_
 intro args σ K h
 unfold Xi Ws at h
 split at h
 ·rename_i rest t rows a en dp
  obtain ⟨L,ts,rfl,ho,h⟩:=h
  split at h
  ·skip
   refine ⟨Za [],1,false,by simp,Tb rfl,?_⟩
   conv=>whnf
   refine ⟨L,ts,rfl,ho,?_⟩
   exact m31
  ·exact h.elim
 ·exact h.elim
noncomputable def Zu0:Tbl:=[(136,Zim)]
theorem Zu1 (ht:TblOK (GG w0 nG) Zu0):PCalls (GG w0 nG) 200 WZ:=by
 refine pc ht Tryz.func200 ?_
 intro args σ K h
 unfold WZ Ws at h
 split at h
 ·rename_i rest t rows a en dp
  obtain ⟨L,ts,rfl,ho,h⟩:=h
  split at h
  ·rename_i rows
   obtain ⟨ws,rfl,hw,h1,h2⟩:=h
   refine ⟨Za [],1,false,by simp,Tb rfl,?_⟩
   conv=>whnf
   refine ⟨L,ts,rfl,ho,ws,rfl,hw,fun b hb=>?_⟩
   cases b with
   | true =>
    have ho2:=ho.tl (J4 hb)
    have g1:=ho.lo
    have g2:=ho2.hi
    have g3:=ho2.big
    conv=>whnf
    refine oiO ?_
    conv=>whnf
    exact h1 hb ho2
   | false =>
    conv=>whnf
    exact h2 hb
  ·exact h.elim
 ·exact h.elim
noncomputable def Zu2:Tbl:=[(200,WZ),(81,Xi)]
theorem Zu3 (ht:TblOK (GG w0 nG) Zu2):PCalls (GG w0 nG) 143 Wh:=by
 refine pc ht Tryz.func143 ?_
 intro args σ K h
 unfold Wh Ws at h
 split at h
 ·rename_i rest t rows a en dp
  obtain ⟨L,ts,rfl,ho,h⟩:=h
  split at h
  ·rename_i w
   refine ⟨Za [],1,false,by simp,Tb rfl,?_⟩
   conv=>whnf
   refine ⟨L,ts,rfl,ho,[w],rfl,by simp,fun hb ho2=>?_,fun hb=>?_⟩
   ·conv=>whnf
    have h:=h _ rfl
    rw [Z0,Th hb] at h
    exact h _ (by omega) ho2
   ·conv=>whnf
    refine ⟨L,ts,rfl,ho,?_⟩
    conv=>whnf
    have h:=h _ rfl
    rw [Z0,Te (by rw [hb];simp)] at h
    exact h _ _
  ·exact h.elim
 ·exact h.elim
noncomputable def Zu4:Tbl:=[(81,Xi)]
theorem Zu5 (ht:TblOK (GG w0 nG) Zu4):PCalls (GG w0 nG) 137 Zi2:=by
 refine pc ht Tryz.func137 ?_
 intro args σ K h
 unfold Zi2 Ws at h
 split at h
 ·rename_i rest t rows a en dp
  obtain ⟨L,ts,rfl,ho,h⟩:=h
  split at h
  ·rename_i n m
   refine ⟨Za [],1,false,by simp,Tb rfl,?_⟩
   have g1:=ho.lo
   have g2:=ho.hi
   have g3:=ho.big
   conv=>whnf
   refine ZEb (fun hc=>?_) (fun hc=>?_)
   ·conv=>whnf
    refine ⟨L,ts,rfl,ho,?_⟩
    conv=>whnf
    exact h.1 hc
   ·conv=>whnf
    refine oiO ?_
    conv=>whnf
    exact h.2 hc
  ·exact h.elim
 ·exact h.elim
noncomputable def Zsi:Tbl:=[(145,(ZaI ZF)),(81,Xi)]
theorem Zsj (ht:TblOK (GG w0 nG) Zsi):PCalls (GG w0 nG) 142 WE:=by
 refine pc ht Tryz.func142 ?_
 intro args σ K h
 unfold WE spR Ws at h
 split at h
 ·rename_i rest t rows a en dp
  obtain ⟨L,ts,rfl,ho,h⟩:=h
  split at h
  ·skip
   refine ⟨Za [],1,false,by simp,Tb rfl,?_⟩
   have h:=h _ rfl
   conv=>whnf
   refine ⟨L,ts,rfl,ho,fun b hb=>?_⟩
   cases b with
   | true =>
    have ho2:=ho.tl (ZeL hb)
    have g1:=ho.lo
    have g2:=ho2.hi
    have g3:=ho2.big
    rw [Xw,Th hb] at h
    conv=>whnf
    refine oiO ?_
    conv=>whnf
    refine oiO ?_
    conv=>whnf
    cases ts with
    | nil=>exact absurd rfl (ZeL hb)
    | cons t0 ts =>
     obtain ⟨x,hx,rfl,hp⟩:=ho.get
     refine ⟨ZyX x,by omega,by rw [show a+1 - 1=a by omega];simp [ZZ,hx],?_⟩
     conv=>whnf
     exact h _ (by omega) ho2
   | false =>
    rw [Xw,Te (by rw [hb];simp)] at h
    conv=>whnf
    refine ⟨L,ts,rfl,ho,?_⟩
    exact m47
  ·exact h.elim
 ·exact h.elim
noncomputable def ZpC:Tbl:=[(198,ZaY),(136,Zim),(148,ZeM),(212,VK)]
theorem ZpD (ht:TblOK (GG w0 nG) ZpC):PCalls (GG w0 nG) 262 (ZaI ZJ):=by
 refine pc ht Tryz.func262 ?_
 intro args σ K h
 unfold ZaI Ws at h
 split at h
 ·rename_i rest t rows a en dp
  obtain ⟨L,ts,rfl,ho,h⟩:=h
  split at h
  ·skip
   refine ⟨Za [],1,false,by simp,Tb rfl,?_⟩
   conv=>whnf
   refine ⟨L,ts,rfl,ho,fun fin=>Or.inl ⟨rfl,?_⟩⟩
   conv=>whnf
   refine ZEb (fun h1=>?_) (fun h1=>?_)
   ·conv=>whnf
    refine ZEb (fun _=>?_) (fun g=>absurd h1 g)
    conv=>whnf
    exact h _ (by rw [ZJ,Th (by omega)])
   conv=>whnf
   refine ZEb (fun h2=>?_) (fun h2=>?_)
   ·conv=>whnf
    exact h _ (by rw [ZJ,Th (by omega)])
   conv=>whnf
   refine ZEb (fun h3=>?_) (fun h3=>?_)
   ·conv=>whnf
    refine ⟨L,ts,rfl,ho,[[45],[126],[40],[91],[36]],rfl,by simp,fun b hb=>?_⟩
    conv=>whnf
    exact h _ (by rw [ZJ,Te (by omega),Th (by omega)];exact hb)
   conv=>whnf
   refine ZEb (fun h4=>?_) (fun h4=>?_)
   ·have e0:ZJ ts=(!ZcO (hd ts).text || (decide ((hd ts).text=[110,105,108]) || decide (ZL (hd ts).text≠0))):=by rw [ZJ,Te (by omega),Te (by omega),Th (by omega)]
    rw [e0] at h
    conv=>whnf
    intro b hb
    rw [hb] at h
    cases b with
    | false => conv => whnf
               exact h _ rfl
    | true =>
     conv=>whnf
     refine ZEb (fun h5=>?_) (fun h5=>?_)
     ·conv=>whnf
      exact h _ (by rw [SC (p:=(hd ts).text=[110,105,108]) h5];rfl)
     ·conv=>whnf
      intro n hn
      conv=>whnf
      exact h _ (by rw [decide_eq_false (p:=(hd ts).text=[110,105,108]) h5,← hn];by_cases g:ZL (hd ts).text=0 <;> simp [g])
   ·conv=>whnf
    exact h _ (by rw [ZJ,Te (by omega),Te (by omega),Te (by omega)])
  ·exact h.elim
 ·exact h.elim
noncomputable def ZpE:Zz:=Ws fun rest L en dp a ts K=>match rest with
 | []=>∀n k:Int,((UI ts).1:Int)=n→((UI ts).2:Int)=k→K (.ret (.tuple [.d (.int .i64 n),.d (.int .u8 k)])) a dp
 | _=>False
theorem Zgz:Zc ZpE:=ZR fun rest L en dp a ts K K' hK h=>by
 split at h
 ·exact fun n k h1 h2=>hK _ _ _ (h n k h1 h2)
 ·exact h.elim
noncomputable def Zy2:Tbl:=[(198,ZaY)]
theorem ZpF (ht:TblOK (GG w0 nG) Zy2):PCalls (GG w0 nG) 162 ZpE:=by
 refine pc ht Tryz.func162 ?_
 intro args σ K h
 unfold ZpE Ws at h
 split at h
 ·rename_i rest t rows a en dp
  obtain ⟨L,ts,rfl,ho,h⟩:=h
  split at h
  ·skip
   refine ⟨Za [],1,false,by simp,Tb rfl,?_⟩
   conv=>whnf
   refine ⟨L,ts,rfl,ho,fun fin=>Or.inl ⟨rfl,?_⟩⟩
   conv=>whnf
   refine ZEf (fun h1=>?_) (fun h1=>?_)
   ·conv=>whnf
    refine ZEf (fun h2=>?_) (fun h2=>?_)
    ·conv=>whnf
     have e0:UI ts=(0,0):=by rw [UI,Th (by omega)]
     exact h _ _ (by rw [e0];rfl) (by rw [e0];rfl)
    ·have hn:¬((hd ts).kind≠1∧(hd ts).kind≠4):=by omega
     clear h1 h2
     exact m103
   ·have hn:¬((hd ts).kind≠1∧(hd ts).kind≠4):=by omega
    clear h1
    exact m103
  ·exact h.elim
 ·exact h.elim
end Go.PM.Lex
end

section
namespace Go.PM.Lex
open Go.Proofs
variable {w0:World} {nG:Nat}
noncomputable def ZkG (body:List PV→List Tok→Int→Int→Int→Ts→RK→Prop):Zz:=fun args σ K=>match args,σ with
 | .ptr 0 0::rest,⟨[.cells t0 [.ptr 1 0],.cells t [.d (.sl rows),.d (.int .i64 a),.d (.int .i64 en),.d (.int .i64 dp)]],[],0⟩=>∃L ts,rows=ZZ L∧ROK L a ts ∧
   body rest L en dp a ts fun pe a' dp'=>K pe ⟨[.cells t0 [.ptr 1 0],.cells t [.d (.sl (ZZ L)),.d (.int .i64 a'),.d (.int .i64 en),.d (.int .i64 dp')]],[],0⟩
 | _,_=>False
theorem ZgA {body:List PV→List Tok→Int→Int→Int→Ts→RK→Prop} (hb:∀rest L en dp a ts (K K':RK),(∀pe a d,K pe a d→K' pe a d)→body rest L en dp a ts K→body rest L en dp a ts K'):Zc (ZkG body):=fun args σ K K' hK h=>by
 unfold ZkG at h ⊢
 exact m122
noncomputable def Zu6 {α:Type} (enc:List Tok→Int→α→PV) (P:Ts→R α) (lo:Int):Zz:=ZkG fun rest L en dp a ts K=>match rest with
 | []=>∀x,P ts=x→RKk (enc L en) L en dp (a+lo) x K
 | _=>False
theorem Zi4 {α:Type} (enc:List Tok→Int→α→PV) (P:Ts→R α) (lo:Int):Zc (Zu6 enc P lo):=ZgA fun rest L en dp a ts K K' hK h=>by
 exact m100
noncomputable def Zi5 (p:Ts→Bool):Zz:=ZkG fun rest L en dp a ts K=>match rest with
 | []=>∀b,p ts=b→K (.ret (.d (.bool b))) a dp
 | _=>False
theorem ZkH (p:Ts→Bool):Zc (Zi5 p):=ZgA fun rest L en dp a ts K K' hK h=>by
 split at h
 ·exact fun b hb=>hK _ _ _ (h b hb)
 ·exact h.elim
noncomputable def Zi6 {α:Type} (enc:List Tok→Int→α→PV) (P:Ts→R α) (lo:Int) (d:Nat):Zz:=Ws fun rest L en dp a ts K=>match rest with
 | []=>(dp=64 - (d:Int)∧0≤dp)∧∀x,P ts=x→RKk (enc L en) L en dp (a+lo) x K
 | _=>False
theorem Wi {α:Type} (enc:List Tok→Int→α→PV) (P:Ts→R α) (lo:Int) (d:Nat):Zc (Zi6 enc P lo d):=ZR fun rest L en dp a ts K K' hK h=>by
 exact m48
theorem Zv {α β:Type} (f:α→β) (l:List α) (x:α):l.map f++[f x]=(l++[x]).map f:=by simp
theorem J5 {α : Type} (sign : Bs) (most : Nat) (st : Ts → Bool) (one : Ts → R α) (f : Nat) (l : List α) (ts : Ts) : XB sign most st one (f + 1) l ts = if st ts = true ∧ l.length = most then .err ts.length 3
      else (one ts).bind fun x ts=>if isW ts [sign]=true then XB sign most st one f (l++[x]) ts.tail else .ok (l++[x]) ts:=rfl
noncomputable def VL:Zz:=fun args σ K=>match args,σ with
 | [.ptr 0 0,.d (.str sg),.d (.int .i64 m),.func g1 [.ptr 0 0] [],.func g2 [] [.ptr 1 0]],⟨[.cells t [.d (.sl rows),.d (.int .i64 a),.d (.int .i64 en),.d (.int .i64 dp)],.cells t0 [.ptr 0 0]],[],0⟩ =>
   (sg=[44]∧m=12∧g1=145∧g2=259)∧∃L ts,rows=ZZ L∧ROK L a ts∧∀x,Wf [44] 12 ZF VH ts=x →
    RKk (fun (l:List Fi)=>.d (.sl (l.map (ZA)))) L en dp a x fun pe a' dp'=>K pe ⟨[.cells t [.d (.sl (ZZ L)),.d (.int .i64 a'),.d (.int .i64 en),.d (.int .i64 dp')],.cells t0 [.ptr 0 0]],[],0⟩
 | _,_=>False
theorem ZdR:Zc (VL):=fun args σ K K' hK h=>by
 unfold VL at h ⊢
 exact m45
noncomputable def Zi7:Tbl:=[(145,(ZaI ZF)),(81,Xi),(259,(Zu6 (fun _ _ (v:Fi)=>Zb6 (ZA v)) VH 1)),(200,WZ)]
theorem Zi8 (ht:TblOK (GG w0 nG) (Zi7)):PCalls (GG w0 nG) 258 (VL):=by
 refine pc ht Tryz.func258 ?_
 intro args σ K h
 unfold VL at h
 split at h
 ·rename_i sg m g1 g2 t rows a en dp t0
  obtain ⟨⟨rfl,rfl,rfl,rfl⟩,L,ts,rfl,ho,h⟩:=h
  have h:=h _ rfl
  have hl:=ho.len
  have hbig:=ho.big
  have ha0:=ho.lo
  refine ⟨Za [(2,⟨[11],[0,1,2,3,4],fun vs σ=>∃(l:List Fi) (a':Int) (ts':Ts) (f:Nat),vs=[.sl 0 66 (l.map (ZA))] ∧
   σ=⟨[.cells t [.d (.sl (ZZ L)),.d (.int .i64 a'),.d (.int .i64 en),.d (.int .i64 dp)],.cells t0 [.ptr 0 0]],[0],1⟩∧ROK L a' ts'∧a+l.length≤a'∧ts'.length<f ∧
   Wf [44] 12 ZF VH ts=XB [44] 12 ZF VH f l ts',
   fun _ σ=>match σ with | ⟨.cells _ [_,.d (.int _ i),_,_]::_,_,_⟩=>((L.length:Int) - i).toNat | _=>0⟩)],2,false,by simp,Tb rfl,?_⟩
  conv=>whnf
  refine ⟨⟨[],a,ts,ts.length+1,rfl,rfl,ho,by simp,by omega,rfl⟩,?_⟩
  intro vs σ hI
  obtain ⟨l,a1,ts1,f,rfl,rfl,ho1,hla,hf,hm⟩:=hI
  obtain ⟨f,rfl⟩:∃g,f=g+1:=⟨f - 1,by omega⟩
  rw [J5] at hm
  have hl1:=ho1.len
  have hhi1:=ho1.hi
  conv=>whnf
  refine ⟨L,ts1,rfl,ho1,fun b hb=>?_⟩
  have step:(¬(ZF ts1=true∧l.length=12))→Wf [44] 12 ZF VH ts=((VH) ts1).bind fun x ts=>if isW ts [[44]]=true then XB [44] 12 ZF VH f (l++[x]) ts.tail else .ok (l++[x]) ts:=fun g=>by rw [hm,Te g]
  cases b with
  | false =>
   have step:=step (by rw [hb];simp)
   exact m24
  | true =>
   conv=>whnf
   refine ZEb (fun hc=>?_) (fun hc=>?_)
   ·have hc:l.length=12:=by
     have hc:((l.map (ZA)).length:Int)=12:=hc
     rw [Tf] at hc;omega
    exact m156
   ·have step:=step (fun g=>hc (by show ((l.map (ZA)).length:Int)=12;rw [Tf,g.2];rfl))
    exact m24
 ·exact h.elim
noncomputable def J6:Zz:=fun args σ K=>match args,σ with
 | [.ptr 0 0,.d (.str sg),.d (.int .i64 m),.func g1 [.ptr 0 0] [],.func g2 [.ptr 0 0] []],⟨[.cells t [.d (.sl rows),.d (.int .i64 a),.d (.int .i64 en),.d (.int .i64 dp)]],[],0⟩ =>
   (sg=[44]∧m=12∧g1=145∧g2=142)∧∃L ts,rows=ZZ L∧ROK L a ts∧∀x,Wf [44] 12 ZF Xw ts=x →
    RKk (fun (l:List Bs)=>.d (.sl (l.map (ZC)))) L en dp a x fun pe a' dp'=>K pe ⟨[.cells t [.d (.sl (ZZ L)),.d (.int .i64 a'),.d (.int .i64 en),.d (.int .i64 dp')]],[],0⟩
 | _,_=>False
theorem ZfU:Zc (J6):=fun args σ K K' hK h=>by
 unfold J6 at h ⊢
 exact m45
noncomputable def Zny:Tbl:=[(145,(ZaI ZF)),(81,Xi),(142,WE),(200,WZ)]
theorem Znz (ht:TblOK (GG w0 nG) (Zny)):PCalls (GG w0 nG) 206 (J6):=by
 refine pc ht Tryz.func206 ?_
 intro args σ K h
 unfold J6 at h
 split at h
 ·rename_i sg m g1 g2 t rows a en dp
  obtain ⟨⟨rfl,rfl,rfl,rfl⟩,L,ts,rfl,ho,h⟩:=h
  have h:=h _ rfl
  have hl:=ho.len
  have hbig:=ho.big
  have ha0:=ho.lo
  refine ⟨Za [(2,⟨[11],[0,1,2,3,4],fun vs σ=>∃(l:List Bs) (a':Int) (ts':Ts) (f:Nat),vs=[.sl 0 9 (l.map (ZC))] ∧
   σ=⟨[.cells t [.d (.sl (ZZ L)),.d (.int .i64 a'),.d (.int .i64 en),.d (.int .i64 dp)]],[0],1⟩∧ROK L a' ts'∧a+l.length≤a'∧ts'.length<f ∧
   Wf [44] 12 ZF Xw ts=XB [44] 12 ZF Xw f l ts',
   fun _ σ=>match σ with | ⟨.cells _ [_,.d (.int _ i),_,_]::_,_,_⟩=>((L.length:Int) - i).toNat | _=>0⟩)],1,false,by simp,Tb rfl,?_⟩
  conv=>whnf
  refine ⟨⟨[],a,ts,ts.length+1,rfl,rfl,ho,by simp,by omega,rfl⟩,?_⟩
  intro vs σ hI
  obtain ⟨l,a1,ts1,f,rfl,rfl,ho1,hla,hf,hm⟩:=hI
  obtain ⟨f,rfl⟩:∃g,f=g+1:=⟨f - 1,by omega⟩
  rw [J5] at hm
  have hl1:=ho1.len
  have hhi1:=ho1.hi
  conv=>whnf
  refine ⟨L,ts1,rfl,ho1,fun b hb=>?_⟩
  have step:(¬(ZF ts1=true∧l.length=12))→Wf [44] 12 ZF Xw ts=((Xw) ts1).bind fun x ts=>if isW ts [[44]]=true then XB [44] 12 ZF Xw f (l++[x]) ts.tail else .ok (l++[x]) ts:=fun g=>by rw [hm,Te g]
  cases b with
  | false =>
   have step:=step (by rw [hb];simp)
   exact m26
  | true =>
   conv=>whnf
   refine ZEb (fun hc=>?_) (fun hc=>?_)
   ·have hc:l.length=12:=by
     have hc:((l.map (ZC)).length:Int)=12:=hc
     rw [Tf] at hc;omega
    exact m156
   ·have step:=step (fun g=>hc (by show ((l.map (ZC)).length:Int)=12;rw [Tf,g.2];rfl))
    exact m26
 ·exact h.elim
noncomputable def UK:Zz:=fun args σ K=>match args,σ with
 | [.ptr 0 0,.d (.str sg),.d (.int .i64 m),.func g1 [.ptr 0 0] [],.func g2 [] [.ptr 1 0]],⟨[.cells t [.d (.sl rows),.d (.int .i64 a),.d (.int .i64 en),.d (.int .i64 dp)],.cells t0 [.ptr 0 0]],[],0⟩ =>
   (sg=[124]∧m=64∧g1=145∧g2=203)∧∃L ts,rows=ZZ L∧ROK L a ts∧∀x,Wf [124] 64 ZF Zbn ts=x →
    RKk (fun (l:List Ca)=>.d (.sl (l.map (ZI)))) L en dp a x fun pe a' dp'=>K pe ⟨[.cells t [.d (.sl (ZZ L)),.d (.int .i64 a'),.d (.int .i64 en),.d (.int .i64 dp')],.cells t0 [.ptr 0 0]],[],0⟩
 | _,_=>False
theorem ZeO:Zc (UK):=fun args σ K K' hK h=>by
 unfold UK at h ⊢
 exact m45
noncomputable def ZkI:Tbl:=[(145,(ZaI ZF)),(81,Xi),(203,(Zu6 (fun _ _ (v:Ca)=>Zb6 (ZI v)) Zbn 1)),(200,WZ)]
theorem ZkJ (ht:TblOK (GG w0 nG) (ZkI)):PCalls (GG w0 nG) 202 (UK):=by
 refine pc ht Tryz.func202 ?_
 intro args σ K h
 unfold UK at h
 split at h
 ·rename_i sg m g1 g2 t rows a en dp t0
  obtain ⟨⟨rfl,rfl,rfl,rfl⟩,L,ts,rfl,ho,h⟩:=h
  have h:=h _ rfl
  have hl:=ho.len
  have hbig:=ho.big
  have ha0:=ho.lo
  refine ⟨Za [(2,⟨[11],[0,1,2,3,4],fun vs σ=>∃(l:List Ca) (a':Int) (ts':Ts) (f:Nat),vs=[.sl 0 148 (l.map (ZI))] ∧
   σ=⟨[.cells t [.d (.sl (ZZ L)),.d (.int .i64 a'),.d (.int .i64 en),.d (.int .i64 dp)],.cells t0 [.ptr 0 0]],[0],1⟩∧ROK L a' ts'∧a+l.length≤a'∧ts'.length<f ∧
   Wf [124] 64 ZF Zbn ts=XB [124] 64 ZF Zbn f l ts',
   fun _ σ=>match σ with | ⟨.cells _ [_,.d (.int _ i),_,_]::_,_,_⟩=>((L.length:Int) - i).toNat | _=>0⟩)],2,false,by simp,Tb rfl,?_⟩
  conv=>whnf
  refine ⟨⟨[],a,ts,ts.length+1,rfl,rfl,ho,by simp,by omega,rfl⟩,?_⟩
  intro vs σ hI
  obtain ⟨l,a1,ts1,f,rfl,rfl,ho1,hla,hf,hm⟩:=hI
  obtain ⟨f,rfl⟩:∃g,f=g+1:=⟨f - 1,by omega⟩
  rw [J5] at hm
  have hl1:=ho1.len
  have hhi1:=ho1.hi
  conv=>whnf
  refine ⟨L,ts1,rfl,ho1,fun b hb=>?_⟩
  have step:(¬(ZF ts1=true∧l.length=64))→Wf [124] 64 ZF Zbn ts=((Zbn) ts1).bind fun x ts=>if isW ts [[124]]=true then XB [124] 64 ZF Zbn f (l++[x]) ts.tail else .ok (l++[x]) ts:=fun g=>by rw [hm,Te g]
  cases b with
  | false =>
   have step:=step (by rw [hb];simp)
   exact m23
  | true =>
   conv=>whnf
   refine ZEb (fun hc=>?_) (fun hc=>?_)
   ·have hc:l.length=64:=by
     have hc:((l.map (ZI)).length:Int)=64:=hc
     rw [Tf] at hc;omega
    exact m156
   ·have step:=step (fun g=>hc (by show ((l.map (ZI)).length:Int)=64;rw [Tf,g.2];rfl))
    exact m23
 ·exact h.elim
noncomputable def Zb8 (d:Nat):Zz:=fun args σ K=>match args,σ with
 | [.ptr 0 0,.d (.str sg),.d (.int .i64 m),.func g1 [.ptr 0 0] [],.func g2 [.ptr 0 0] []],⟨[.cells t [.d (.sl rows),.d (.int .i64 a),.d (.int .i64 en),.d (.int .i64 dp)]],[],0⟩ =>
   (sg=[44]∧m=12∧g1=262∧g2=35∧(dp=64 - (d:Int)∧0≤dp))∧∃L ts,rows=ZZ L∧ROK L a ts∧∀x,Wf [44] 12 ZJ (Vp d) ts=x →
    RKk (fun (l:List Ex)=>.d (.sl (l.map (YE (Ze L en))))) L en dp a x fun pe a' dp'=>K pe ⟨[.cells t [.d (.sl (ZZ L)),.d (.int .i64 a'),.d (.int .i64 en),.d (.int .i64 dp')]],[],0⟩
 | _,_=>False
noncomputable def ZpG (d:Nat):Tbl:=[(262,(ZaI ZJ)),(81,Xi),(35,(Zi6 (fun L en (v:Ex)=>Zb6 (YE (Ze L en) v)) (Vp d) 0 d)),(200,WZ)]
theorem ZpH (d:Nat) (ht:TblOK (GG w0 nG) (ZpG d)):PCalls (GG w0 nG) 261 (Zb8 d):=by
 refine pc ht Tryz.func261 ?_
 intro args σ K h
 unfold Zb8 at h
 split at h
 ·rename_i sg m g1 g2 t rows a en dp
  obtain ⟨⟨rfl,rfl,rfl,rfl,hdp⟩,L,ts,rfl,ho,h⟩:=h
  have h:=h _ rfl
  have hl:=ho.len
  have hbig:=ho.big
  have ha0:=ho.lo
  refine ⟨Za [(2,⟨[11],[0,1,2,3,4],fun vs σ=>∃(l:List Ex) (a':Int) (ts':Ts) (f:Nat),vs=[.sl 0 24 (l.map (YE (Ze L en)))] ∧
   σ=⟨[.cells t [.d (.sl (ZZ L)),.d (.int .i64 a'),.d (.int .i64 en),.d (.int .i64 dp)]],[0],1⟩∧ROK L a' ts'∧a+l.length≤a'∧ts'.length<f ∧
   Wf [44] 12 ZJ (Vp d) ts=XB [44] 12 ZJ (Vp d) f l ts',
   fun _ σ=>match σ with | ⟨.cells _ [_,.d (.int _ i),_,_]::_,_,_⟩=>((L.length:Int) - i).toNat | _=>0⟩)],1,false,by simp,Tb rfl,?_⟩
  conv=>whnf
  refine ⟨⟨[],a,ts,ts.length+1,rfl,rfl,ho,by simp,by omega,rfl⟩,?_⟩
  intro vs σ hI
  obtain ⟨l,a1,ts1,f,rfl,rfl,ho1,hla,hf,hm⟩:=hI
  obtain ⟨f,rfl⟩:∃g,f=g+1:=⟨f - 1,by omega⟩
  rw [J5] at hm
  have hl1:=ho1.len
  have hhi1:=ho1.hi
  conv=>whnf
  refine ⟨L,ts1,rfl,ho1,fun b hb=>?_⟩
  have step:(¬(ZJ ts1=true∧l.length=12))→Wf [44] 12 ZJ (Vp d) ts=(((Vp d)) ts1).bind fun x ts=>if isW ts [[44]]=true then XB [44] 12 ZJ (Vp d) f (l++[x]) ts.tail else .ok (l++[x]) ts:=fun g=>by rw [hm,Te g]
  cases b with
  | false =>
   have step:=step (by rw [hb];simp)
   exact m21
  | true =>
   conv=>whnf
   refine ZEb (fun hc=>?_) (fun hc=>?_)
   ·have hc:l.length=12:=by
     have hc:((l.map (YE (Ze L en))).length:Int)=12:=hc
     rw [Tf] at hc;omega
    exact m156
   ·have step:=step (fun g=>hc (by show ((l.map (YE (Ze L en))).length:Int)=12;rw [Tf,g.2];rfl))
    exact m21
 ·exact h.elim
noncomputable def Zb9 (d:Nat):Zz:=fun args σ K=>match args,σ with
 | [.ptr 0 0,.d (.str sg),.d (.int .i64 m),.func g1 [] [.ptr 1 0],.func g2 [.ptr 0 0] []],⟨[.cells t [.d (.sl rows),.d (.int .i64 a),.d (.int .i64 en),.d (.int .i64 dp)],.cells t0 [.ptr 0 0]],[],0⟩ =>
   (sg=[44]∧m=32∧g1=264∧g2=265∧(dp=64 - (d:Int)∧0≤dp))∧∃L ts,rows=ZZ L∧ROK L a ts∧∀x,Wf [44] 32 Yq (Zdu d (Jj d)) ts=x →
    RKk (fun (l:List Li)=>.d (.sl (l.map (Xp (Ze L en))))) L en dp a x fun pe a' dp'=>K pe ⟨[.cells t [.d (.sl (ZZ L)),.d (.int .i64 a'),.d (.int .i64 en),.d (.int .i64 dp')],.cells t0 [.ptr 0 0]],[],0⟩
 | _,_=>False
theorem Zhz (d:Nat):Zc (Zb9 d):=fun args σ K K' hK h=>by
 unfold Zb9 at h ⊢
 exact m45
noncomputable def ZpI (d:Nat):Tbl:=[(264,(Zi5 Yq)),(81,Xi),(265,(Zi6 (fun L en (v:Li)=>Zb6 (Xp (Ze L en) v)) (Zdu d (Jj d)) 0 d)),(200,WZ)]
theorem ZpJ (d:Nat) (ht:TblOK (GG w0 nG) (ZpI d)):PCalls (GG w0 nG) 263 (Zb9 d):=by
 refine pc ht Tryz.func263 ?_
 intro args σ K h
 unfold Zb9 at h
 split at h
 ·rename_i sg m g1 g2 t rows a en dp t0
  obtain ⟨⟨rfl,rfl,rfl,rfl,hdp⟩,L,ts,rfl,ho,h⟩:=h
  have h:=h _ rfl
  have hl:=ho.len
  have hbig:=ho.big
  have ha0:=ho.lo
  refine ⟨Za [(2,⟨[11],[0,1,2,3,4],fun vs σ=>∃(l:List Li) (a':Int) (ts':Ts) (f:Nat),vs=[.sl 0 60 (l.map (Xp (Ze L en)))] ∧
   σ=⟨[.cells t [.d (.sl (ZZ L)),.d (.int .i64 a'),.d (.int .i64 en),.d (.int .i64 dp)],.cells t0 [.ptr 0 0]],[0],1⟩∧ROK L a' ts'∧a+l.length≤a'∧ts'.length<f ∧
   Wf [44] 32 Yq (Zdu d (Jj d)) ts=XB [44] 32 Yq (Zdu d (Jj d)) f l ts',
   fun _ σ=>match σ with | ⟨.cells _ [_,.d (.int _ i),_,_]::_,_,_⟩=>((L.length:Int) - i).toNat | _=>0⟩)],2,false,by simp,Tb rfl,?_⟩
  conv=>whnf
  refine ⟨⟨[],a,ts,ts.length+1,rfl,rfl,ho,by simp,by omega,rfl⟩,?_⟩
  intro vs σ hI
  obtain ⟨l,a1,ts1,f,rfl,rfl,ho1,hla,hf,hm⟩:=hI
  obtain ⟨f,rfl⟩:∃g,f=g+1:=⟨f - 1,by omega⟩
  rw [J5] at hm
  have hl1:=ho1.len
  have hhi1:=ho1.hi
  conv=>whnf
  refine ⟨L,ts1,rfl,ho1,fun b hb=>?_⟩
  have step:(¬(Yq ts1=true∧l.length=32))→Wf [44] 32 Yq (Zdu d (Jj d)) ts=(((Zdu d (Jj d))) ts1).bind fun x ts=>if isW ts [[44]]=true then XB [44] 32 Yq (Zdu d (Jj d)) f (l++[x]) ts.tail else .ok (l++[x]) ts:=fun g=>by rw [hm,Te g]
  cases b with
  | false =>
   have step:=step (by rw [hb];simp)
   exact m20
  | true =>
   conv=>whnf
   refine ZEb (fun hc=>?_) (fun hc=>?_)
   ·have hc:l.length=32:=by
     have hc:((l.map (Xp (Ze L en))).length:Int)=32:=hc
     rw [Tf] at hc;omega
    exact m156
   ·have step:=step (fun g=>hc (by show ((l.map (Xp (Ze L en))).length:Int)=32;rw [Tf,g.2];rfl))
    exact m20
 ·exact h.elim
end Go.PM.Lex
end

section
namespace Go.PM.Lex
open Go.Proofs
variable {w0:World} {nG:Nat}
noncomputable abbrev ZhA:Zz:=Zu6 (fun _ _ (v:Fi)=>Zb6 (ZA v)) VH 1
noncomputable abbrev ZkK:Zz:=Zu6 (fun _ _ (v:Ca)=>Zb6 (ZI v)) Zbn 1
noncomputable def Jk:Zz:=Ws fun rest L en dp a ts K=>match rest with
 | [.d (.str w)]=>∀x,W9 w ts=x→RKk (fun (v:List Fi)=>.d (.sl (v.map ZA))) L en dp a x K
 | _=>False
theorem Jl:Zc Jk:=ZR fun rest L en dp a ts K K' hK h=>by
 exact m100
noncomputable abbrev ZeP:Zz:=spR (fun _ _ (v:List Bs)=>.d (.sl (v.map ZC))) JE 0
noncomputable abbrev ZhB:Zz:=spR (fun L en (v:Ty)=>Zb6 (Ya (Ze L en) v)) Zb4 0
noncomputable abbrev ZlZ:Zz:=spR (fun L en (v:Re)=>Zb6 (Z8 (Ze L en) v)) Zhs 0
noncomputable def ZpK:Tbl:=[(142,WE),(143,Wh)]
theorem ZpL (ht:TblOK (GG w0 nG) ZpK):PCalls (GG w0 nG) 259 ZhA:=by
 refine pc ht Tryz.func259 ?_
 intro args σ K h
 unfold ZhA Zu6 ZkG at h
 split at h
 ·rename_i rest t0 t rows a en dp
  obtain ⟨L,ts,rfl,ho,h⟩:=h
  split at h
  ·skip
   have h0:=ho.lo
   have h1:=ho.hi
   have h2:=ho.big
   refine ⟨Za [],2,false,by simp,Tb rfl,?_⟩
   have h:=h _ rfl
   unfold VH at h
   conv=>whnf
   refine ⟨L,ts,rfl,ho,fun x hx1=>?_⟩
   rcases x with ⟨v1,ts1⟩ | ⟨r1,e1⟩
   rotate_left
   ·exact m50
   rw [hx1,R.bind_ok] at h
   intro a1 hle1 ho1
   have hb1:=ho1.hi
   conv=>whnf
   refine ⟨L,ts1,rfl,ho1,fun x hx2=>?_⟩
   exact m158
  ·exact h.elim
 ·exact h.elim
noncomputable def ZpM:Tbl:=[(136,Zim),(258,VL)]
theorem ZpN (ht:TblOK (GG w0 nG) ZpM):PCalls (GG w0 nG) 201 Jk:=by
 refine pc ht Tryz.func201 ?_
 intro args σ K h
 unfold Jk Ws at h
 split at h
 ·rename_i rest t rows a en dp
  obtain ⟨L,ts,rfl,ho,h⟩:=h
  split at h
  ·rename_i w
   have h0:=ho.lo
   have h1:=ho.hi
   have h2:=ho.big
   refine ⟨Za [],1,false,by simp,Tb rfl,?_⟩
   have h:=h _ rfl
   unfold W9 at h
   conv=>whnf
   refine ⟨L,ts,rfl,ho,[w],rfl,by simp,fun b1 hw1=>?_⟩
   cases b1 with
   | true =>
    rw [Th hw1] at h
    conv=>whnf
    exact h _ (by omega) ho
   | false =>
    rw [Te (by rw [hw1];simp)] at h
    conv=>whnf
    refine ⟨⟨rfl,rfl,rfl,rfl⟩,L,ts,rfl,ho,fun x hx2=>?_⟩
    rcases x with ⟨v2,ts2⟩ | ⟨r2,e2⟩
    rotate_left
    ·rw [hx2] at h;intro a9 d9;(conv=>whnf);exact h _ _
    rw [hx2] at h
    intro a2 hle2 ho2
    have hb2:=ho2.hi
    conv=>whnf
    exact h _ (by omega) ho2
  ·exact h.elim
 ·exact h.elim
noncomputable def Zsk:Tbl:=[(200,WZ),(206,J6),(143,Wh)]
theorem Zsl (ht:TblOK (GG w0 nG) Zsk):PCalls (GG w0 nG) 144 ZeP:=by
 refine pc ht Tryz.func144 ?_
 intro args σ K h
 unfold ZeP spR Ws at h
 split at h
 ·rename_i rest t rows a en dp
  obtain ⟨L,ts,rfl,ho,h⟩:=h
  split at h
  ·skip
   have h0:=ho.lo
   have h1:=ho.hi
   have h2:=ho.big
   refine ⟨Za [],1,false,by simp,Tb rfl,?_⟩
   have h:=h _ rfl
   unfold JE at h
   conv=>whnf
   refine ⟨L,ts,rfl,ho,[[60]],rfl,by simp,fun hw1 ho1=>?_,fun hw1=>?_⟩
   ·rw [Th hw1] at h
    have hb1:=ho1.hi
    conv=>whnf
    refine ⟨⟨rfl,rfl,rfl,rfl⟩,L,ts.tail,rfl,ho1,fun x hx2=>?_⟩
    exact m158
   ·rw [Te (by rw [hw1];simp)] at h
    conv=>whnf
    exact h _ (by omega) ho
  ·exact h.elim
 ·exact h.elim
noncomputable def Zsm:Tbl:=[(142,WE),(143,Wh),(201,Jk)]
theorem Zsn (ht:TblOK (GG w0 nG) Zsm):PCalls (GG w0 nG) 203 ZkK:=by
 refine pc ht Tryz.func203 ?_
 intro args σ K h
 unfold ZkK Zu6 ZkG at h
 split at h
 ·rename_i rest t0 t rows a en dp
  obtain ⟨L,ts,rfl,ho,h⟩:=h
  split at h
  ·skip
   have h0:=ho.lo
   have h1:=ho.hi
   have h2:=ho.big
   refine ⟨Za [],2,false,by simp,Tb rfl,?_⟩
   have h:=h _ rfl
   unfold Zbn at h
   conv=>whnf
   refine ⟨L,ts,rfl,ho,fun x hx1=>?_⟩
   rcases x with ⟨v1,ts1⟩ | ⟨r1,e1⟩
   rotate_left
   ·exact m50
   rw [hx1,R.bind_ok] at h
   intro a1 hle1 ho1
   have hb1:=ho1.hi
   conv=>whnf
   refine ⟨L,ts1,rfl,ho1,fun x hx2=>?_⟩
   rcases x with ⟨v2,ts2⟩ | ⟨r2,e2⟩
   rotate_left
   ·exact m43
   rw [hx2,R.bind_ok] at h
   intro a2 hle2 ho2
   have hb2:=ho2.hi
   conv=>whnf
   refine ⟨L,ts2,rfl,ho2,fun x hx3=>?_⟩
   rcases x with ⟨v3,ts3⟩ | ⟨r3,e3⟩
   rotate_left
   ·exact m25
   rw [hx3,R.bind_ok] at h
   intro a3 hle3 ho3
   have hb3:=ho3.hi
   conv=>whnf
   refine ⟨L,ts3,rfl,ho3,fun x hx4=>?_⟩
   rcases x with ⟨v4,ts4⟩ | ⟨r4,e4⟩
   rotate_left
   ·exact m93
   rw [hx4,R.bind_ok] at h
   intro a4 hle4 ho4
   have hb4:=ho4.hi
   conv=>whnf
   exact h _ (by omega) ho4
  ·exact h.elim
 ·exact h.elim
noncomputable def Zso:Tbl:=[(141,Vc),(142,WE),(200,WZ),(143,Wh),(201,Jk),(202,UK)]
theorem Zsp (ht:TblOK (GG w0 nG) Zso):PCalls (GG w0 nG) 138 ZhB:=by
 refine pc ht Tryz.func138 ?_
 intro args σ K h
 unfold ZhB spR Ws at h
 split at h
 ·rename_i rest t rows a en dp
  obtain ⟨L,ts,rfl,ho,h⟩:=h
  split at h
  ·skip
   have h0:=ho.lo
   have h1:=ho.hi
   have h2:=ho.big
   refine ⟨Za [],1,false,by simp,Tb rfl,?_⟩
   have h:=h _ rfl
   unfold Zb4 at h
   conv=>whnf
   refine ⟨L,ts,rfl,ho,?_⟩
   conv=>whnf
   refine ⟨L,ts,rfl,ho,fun x hx1=>?_⟩
   rcases x with ⟨v1,ts1⟩ | ⟨r1,e1⟩
   rotate_left
   ·exact m50
   rw [hx1,R.bind_ok] at h
   intro a1 hle1 ho1
   have hb1:=ho1.hi
   conv=>whnf
   refine ⟨L,ts1,rfl,ho1,[[60,58]],rfl,by simp,fun hw2 ho2=>?_,fun hw2=>?_⟩
   ·rw [Th hw2] at h
    have hb2:=ho2.hi
    conv=>whnf
    refine ⟨L,ts1.tail,rfl,ho2,fun x hx3=>?_⟩
    rcases x with ⟨v3,ts3⟩ | ⟨r3,e3⟩
    rotate_left
    ·exact m25
    exact m96
   ·rw [Te (by rw [hw2];simp)] at h
    conv=>whnf
    refine ⟨L,ts1,rfl,ho1,fun x hx3=>?_⟩
    rcases x with ⟨v3,ts3⟩ | ⟨r3,e3⟩
    rotate_left
    ·exact m25
    rw [hx3,R.bind_ok] at h
    intro a3 hle3 ho3
    have hb3:=ho3.hi
    conv=>whnf
    refine ⟨L,ts3,rfl,ho3,[[91]],rfl,by simp,fun hw4 ho4=>?_,fun hw4=>?_⟩
    ·rw [Th hw4] at h
     have hb4:=ho4.hi
     conv=>whnf
     refine ⟨L,ts3.tail,rfl,ho4,fun x hx5=>?_⟩
     rcases x with ⟨v5,ts5⟩ | ⟨r5,e5⟩
     rotate_left
     ·exact m42
     rw [hx5,R.bind_ok] at h
     intro a5 hle5 ho5
     have hb5:=ho5.hi
     conv=>whnf
     refine ⟨L,ts5,rfl,ho5,fun x hx6=>?_⟩
     rcases x with ⟨v6,ts6⟩ | ⟨r6,e6⟩
     rotate_left
     ·rw [hx6,R.bind_err] at h;intro a9 d9;(conv=>whnf);exact h _ _
     rw [hx6,R.bind_ok] at h
     intro a6 hle6 ho6
     have hb6:=ho6.hi
     conv=>whnf
     exact h _ (by omega) ho6
    ·rw [Te (by rw [hw4];simp)] at h
     conv=>whnf
     refine ⟨⟨rfl,rfl,rfl,rfl⟩,L,ts3,rfl,ho3,fun x hx5=>?_⟩
     rcases x with ⟨v5,ts5⟩ | ⟨r5,e5⟩
     rotate_left
     ·exact m42
     rw [hx5,R.bind_ok] at h
     intro a5 hle5 ho5
     have hb5:=ho5.hi
     conv=>whnf
     exact h _ (by omega) ho5
  ·exact h.elim
 ·exact h.elim
end Go.PM.Lex
end

section
namespace Go.PM.Lex
open Go.Proofs
variable {w0:World} {nG:Nat}
def ZbJ (i o n:Bool):Nat:=(match i with | true=>0 | false=>1)+(match o with | true=>0 | false=>1)+(match n with | true=>0 | false=>1)
theorem ZnA (f : Nat) (i o n : Bool) (ts : Ts) : Yy (f + 1) i o n ts = if i = false ∧ isW ts [[105, 110, 112, 117, 116]] = true then Yy f true o n ts.tail
      else if o=false∧isW ts [[111,117,116,112,117,116]]=true then Yy f i true n ts.tail
      else if n=false∧isW ts [[105,110,108,105,110,101]]=true then Yy f i o true ts.tail
      else ((i,o,n),ts):=rfl
noncomputable def Zu7:Tbl:=[(141,Vc),(142,WE),(200,WZ),(143,Wh),(201,Jk)]
theorem Zu8 (ht:TblOK (GG w0 nG) Zu7):PCalls (GG w0 nG) 139 ZlZ:=by
 refine pc ht Tryz.func139 ?_
 intro args σ K h
 unfold ZlZ spR Ws at h
 split at h
 ·rename_i rest t rows a en dp
  obtain ⟨L,ts,rfl,ho,h⟩:=h
  split at h
  ·skip
   have h0:=ho.lo
   have h1:=ho.hi
   have h2:=ho.big
   refine ⟨Za [(7,⟨[],[0,2,3],fun vs σ=>∃(nm:Bs) (l:List Fi) (a5:Int) (ts5:Ts) (i o n:Bool) (a':Int) (ts':Ts) (f:Nat),vs=[]∧σ=⟨[.cells t [.d (.sl (ZZ L)),.d (.int .i64 a'),.d (.int .i64 en),.d (.int .i64 dp)],.cells 68 [.d (.str []),.sl 0 66 [],.d (.bool false),.d (.bool false),.d (.bool false),.d (.int .i64 0)],.cells 68 [.d (.str nm),.d (.sl (l.map ZA)),.d (.bool i),.d (.bool o),.d (.bool n),.d (.int .i64 (Ze L en ts.length))]],[0],1⟩∧ROK L a' ts'∧a≤a'∧ZbJ i o n<f∧RKk (fun (v:Re)=>Zb6 (Z8 (Ze L en) v)) L en dp (a+0) (R.ok ⟨nm,l,(Yy f i o n ts').1.1,(Yy f i o n ts').1.2.1,(Yy f i o n ts').1.2.2,ts.length⟩ (Yy f i o n ts').2) (fun pe a' dp'=>K pe ⟨[.cells t [.d (.sl (ZZ L)),.d (.int .i64 a'),.d (.int .i64 en),.d (.int .i64 dp')]],[],0⟩),fun _ σ=>match σ with | ⟨[_,_,.cells _ [_,_,.d (.bool i),.d (.bool o),.d (.bool n),_]],_,_⟩=>ZbJ i o n | _=>0⟩)],1,false,by simp,Tb rfl,?_⟩
   have h:=h _ rfl
   unfold Zhs at h
   conv=>whnf
   refine ⟨L,ts,rfl,ho,?_⟩
   conv=>whnf
   refine ⟨L,ts,rfl,ho,fun x hx1=>?_⟩
   rcases x with ⟨v1,ts1⟩ | ⟨r1,e1⟩
   rotate_left
   ·exact m50
   rw [hx1,R.bind_ok] at h
   intro a1 hle1 ho1
   have hb1:=ho1.hi
   conv=>whnf
   refine ⟨L,ts1,rfl,ho1,fun x hx2=>?_⟩
   rcases x with ⟨v2,ts2⟩ | ⟨r2,e2⟩
   rotate_left
   ·exact m43
   rw [hx2,R.bind_ok] at h
   intro a2 hle2 ho2
   have hb2:=ho2.hi
   conv=>whnf
   refine ⟨L,ts2,rfl,ho2,fun x hx3=>?_⟩
   rcases x with ⟨v3,ts3⟩ | ⟨r3,e3⟩
   rotate_left
   ·exact m25
   rw [hx3,R.bind_ok] at h
   intro a3 hle3 ho3
   have hb3:=ho3.hi
   conv=>whnf
   refine ⟨L,ts3,rfl,ho3,fun x hx4=>?_⟩
   rcases x with ⟨v4,ts4⟩ | ⟨r4,e4⟩
   rotate_left
   ·exact m93
   rw [hx4,R.bind_ok] at h
   intro a4 hle4 ho4
   have hb4:=ho4.hi
   conv=>whnf
   refine ⟨⟨v1,v3,a4,ts4,false,false,false,a4,ts4,4,rfl,rfl,ho4,by omega,by decide,h⟩,?_⟩
   clear h hx1 hx2 hx3 hx4 ho1 ho2 ho3 ho4 hb1 hb2 hb3 hb4 hle1 hle2 hle3 hle4
   intro vs σ hI
   obtain ⟨nm,l,a5,ts5,i,o,n,a',ts',f,rfl,rfl,ho',hle,hf,h⟩:=hI
   obtain ⟨f,rfl⟩:∃g,f=g+1:=⟨f - 1,by omega⟩
   rw [ZnA] at h
   have hhi:=ho'.hi
   conv=>whnf
   cases i with
   | true =>
    rw [Te (by simp)] at h
    conv=>whnf
    cases o with
    | true =>
     rw [Te (by simp)] at h
     conv=>whnf
     cases n with
     | true =>
      rw [Te (by simp)] at h
      exact m82
     | false =>
      conv=>whnf
      refine ⟨L,ts',rfl,ho',[[105,110,108,105,110,101]],rfl,by simp,fun hw9 ho9=>?_,fun hw9=>?_⟩
      ·rw [Th ⟨rfl,hw9⟩] at h
       have hb9:=ho9.hi
       conv=>whnf
       refine ⟨⟨nm,l,a5,ts5,true,true,true,a'+1,ts'.tail,f,rfl,rfl,ho9,by omega,?_,h⟩,?_⟩
       ·(simp only [ZbJ] at hf ⊢;omega)
       ·show ZbJ true true true<ZbJ true true false
        (simp only [ZbJ];omega)
      ·rw [Te (by rw [hw9];simp)] at h
       exact m82
    | false =>
     conv=>whnf
     refine ⟨L,ts',rfl,ho',[[111,117,116,112,117,116]],rfl,by simp,fun hw9 ho9=>?_,fun hw9=>?_⟩
     ·rw [Th ⟨rfl,hw9⟩] at h
      have hb9:=ho9.hi
      conv=>whnf
      refine ⟨⟨nm,l,a5,ts5,true,true,n,a'+1,ts'.tail,f,rfl,rfl,ho9,by omega,?_,h⟩,?_⟩
      ·cases n <;> (simp only [ZbJ] at hf ⊢;omega)
      ·show ZbJ true true n<ZbJ true false n
       cases n <;> (simp only [ZbJ];omega)
     ·rw [Te (by rw [hw9];simp)] at h
      conv=>whnf
      cases n with
      | true =>
       rw [Te (by simp)] at h
       exact m82
      | false =>
       conv=>whnf
       refine ⟨L,ts',rfl,ho',[[105,110,108,105,110,101]],rfl,by simp,fun hw9 ho9=>?_,fun hw9=>?_⟩
       ·rw [Th ⟨rfl,hw9⟩] at h
        have hb9:=ho9.hi
        conv=>whnf
        refine ⟨⟨nm,l,a5,ts5,true,false,true,a'+1,ts'.tail,f,rfl,rfl,ho9,by omega,?_,h⟩,?_⟩
        ·(simp only [ZbJ] at hf ⊢;omega)
        ·show ZbJ true false true<ZbJ true false false
         (simp only [ZbJ];omega)
       ·rw [Te (by rw [hw9];simp)] at h
        exact m82
   | false =>
    conv=>whnf
    refine ⟨L,ts',rfl,ho',[[105,110,112,117,116]],rfl,by simp,fun hw9 ho9=>?_,fun hw9=>?_⟩
    ·rw [Th ⟨rfl,hw9⟩] at h
     have hb9:=ho9.hi
     conv=>whnf
     refine ⟨⟨nm,l,a5,ts5,true,o,n,a'+1,ts'.tail,f,rfl,rfl,ho9,by omega,?_,h⟩,?_⟩
     ·cases o <;> cases n <;> (simp only [ZbJ] at hf ⊢;omega)
     ·show ZbJ true o n<ZbJ false o n
      cases o <;> cases n <;> (simp only [ZbJ];omega)
    ·rw [Te (by rw [hw9];simp)] at h
     conv=>whnf
     cases o with
     | true =>
      rw [Te (by simp)] at h
      conv=>whnf
      cases n with
      | true =>
       rw [Te (by simp)] at h
       exact m82
      | false =>
       conv=>whnf
       refine ⟨L,ts',rfl,ho',[[105,110,108,105,110,101]],rfl,by simp,fun hw9 ho9=>?_,fun hw9=>?_⟩
       ·rw [Th ⟨rfl,hw9⟩] at h
        have hb9:=ho9.hi
        conv=>whnf
        refine ⟨⟨nm,l,a5,ts5,false,true,true,a'+1,ts'.tail,f,rfl,rfl,ho9,by omega,?_,h⟩,?_⟩
        ·(simp only [ZbJ] at hf ⊢;omega)
        ·show ZbJ false true true<ZbJ false true false
         (simp only [ZbJ];omega)
       ·rw [Te (by rw [hw9];simp)] at h
        exact m82
     | false =>
      conv=>whnf
      refine ⟨L,ts',rfl,ho',[[111,117,116,112,117,116]],rfl,by simp,fun hw9 ho9=>?_,fun hw9=>?_⟩
      ·rw [Th ⟨rfl,hw9⟩] at h
       have hb9:=ho9.hi
       conv=>whnf
       refine ⟨⟨nm,l,a5,ts5,false,true,n,a'+1,ts'.tail,f,rfl,rfl,ho9,by omega,?_,h⟩,?_⟩
       ·cases n <;> (simp only [ZbJ] at hf ⊢;omega)
       ·show ZbJ false true n<ZbJ false false n
        cases n <;> (simp only [ZbJ];omega)
      ·rw [Te (by rw [hw9];simp)] at h
       conv=>whnf
       cases n with
       | true =>
        rw [Te (by simp)] at h
        exact m82
       | false =>
        conv=>whnf
        refine ⟨L,ts',rfl,ho',[[105,110,108,105,110,101]],rfl,by simp,fun hw9 ho9=>?_,fun hw9=>?_⟩
        ·rw [Th ⟨rfl,hw9⟩] at h
         have hb9:=ho9.hi
         conv=>whnf
         refine ⟨⟨nm,l,a5,ts5,false,false,true,a'+1,ts'.tail,f,rfl,rfl,ho9,by omega,?_,h⟩,?_⟩
         ·(simp only [ZbJ] at hf ⊢;omega)
         ·show ZbJ false false true<ZbJ false false false
          (simp only [ZbJ];omega)
        ·rw [Te (by rw [hw9];simp)] at h
         exact m82
  ·exact h.elim
 ·exact h.elim
end Go.PM.Lex
end

section
namespace Go.PM.Lex
open Go.Proofs
variable {w0:World} {nG:Nat}
noncomputable def ZkL (fn:Func) (tb:Tbl):Zz:=fun args σ K=>∃K0:PEnd→St→Prop,(∀e σ,K0 e σ→K e σ)∧args.length≤fn.ntmps∧WF (ctx Zkv tb (Za [])) fn σ.bx.length false args σ K0
theorem YL (fn:Func) (tb:Tbl):Zc (ZkL fn tb):=fun args σ K K' hK ⟨K0,h1,h2⟩=>⟨K0,fun e σ h=>hK _ _ (h1 e σ h),h2⟩
noncomputable def Zu9 (fn:Func) (unr:Nat→Nat) (tb:Tbl):Zz:=fun args σ K=>∃K0:PEnd→St→Prop,(∀e σ,K0 e σ→K e σ)∧args.length≤fn.ntmps∧WF (Zno Zkv tb WT (Za []) unr (VW [])) fn σ.bx.length false args σ K0
theorem ZnB (fn:Func) (unr:Nat→Nat) (tb:Tbl):Zc (Zu9 fn unr tb):=fun args σ K K' hK ⟨K0,h1,h2⟩=>⟨K0,fun e σ h=>hK _ _ (h1 e σ h),h2⟩
theorem _root_.Go.PM.PCalls.closed {G:GE} {g:FuncId} {sp:Zz} (h:PCalls G g sp):PCalls G g (fun args σ K=>∃K0:PEnd→St→Prop,(∀e σ,K0 e σ→K e σ)∧sp args σ K0):=⟨h.enters,fun args σ K ⟨K0,hK,hs⟩ n e w vs hS ha =>
 (h.calls args σ K0 hs n e w vs hS ha).mono fun en w' ⟨pe,σ',e',hk,hr⟩=>⟨pe,σ',e',hK _ _ hk,hr⟩⟩
theorem ZcQ {g : FuncId} {fn : Func} {c : Code} {tb : Tbl} (ht : TblOK (GG w0 nG) tb) (hf : (GG w0 nG).P.funcs[g]? = some fn) (hb : fn.body = some c) (hname : (fn.name == "runtime.NumGoroutine") = false) (hok : ZM fn.ntmps c = true) : PCalls (GG w0 nG) g (ZkL fn tb) := by
 have h:PCalls (GG w0 nG) g (fun args σ K=>args.length≤fn.ntmps∧WF (ctx Zkv tb (Za [])) fn σ.bx.length false args σ K):=by
  refine ZiK XI mixed ht hf hb hname hok ?_
  intro args σ K h
  exact ⟨Za [],σ.bx.length,false,Tr _,h.1,h.2⟩
 exact h.closed
theorem Zy3 {g : FuncId} {fn : Func} {c : Code} {unr : Nat → Nat} {tb : Tbl} (ht : TblOK (GG w0 nG) tb) (hf : (GG w0 nG).P.funcs[g]? = some fn) (hb : fn.body = some c) (hname : (fn.name == "runtime.NumGoroutine") = false) (hok : ZM fn.ntmps c = true) : PCalls (GG w0 nG) g (Zu9 fn unr tb) := by
 have h:PCalls (GG w0 nG) g (fun args σ K=>args.length≤fn.ntmps∧WF (Zno Zkv tb WT (Za []) unr (VW [])) fn σ.bx.length false args σ K):=by
  refine Zku XI mixed ht hf hb hname hok ?_
  intro args σ K h
  exact ⟨Za [],unr,VW [],σ.bx.length,false,Tr _,h.1,h.2⟩
 exact h.closed
noncomputable def ZtL {α:Type} (enc:List Tok→Int→α→PV) (P:Ts→R α) (lo:Int) (d:Nat):Zz:=Ws fun rest L en dp a ts K=>match rest with
 | []=>(0<d∧dp=65 - (d:Int)∧0≤dp)∧∀x,P ts=x→RKk (enc L en) L en dp (a+lo) x K
 | _=>False
theorem Zca {α:Type} (enc:List Tok→Int→α→PV) (P:Ts→R α) (lo:Int) (d:Nat):Zc (ZtL enc P lo d):=ZR fun rest L en dp a ts K K' hK h=>by
 exact m48
theorem ZeQ {α:Type} {enc:List Tok→Int→α→PV} {P:Ts→R α} {lo:Int} {g:FuncId} (h:VA (GG w0 nG).P g):PCalls (GG w0 nG) g (ZtL enc P lo 0):=⟨h,fun args σ K hs=>by
 exfalso
 unfold ZtL Ws at hs
 split at hs
 ·obtain ⟨L,ts,_,_,hs⟩:=hs
  split at hs
  ·have:=hs.1.1;omega
  ·exact hs
 ·exact hs⟩
theorem _root_.Go.PM.PCalls.weaken1 {G:GE} {g:FuncId} {sp sp':Zz} (h:PCalls G g sp) (hw:∀args σ K,sp' args σ K→sp args σ K):PCalls G g sp':=⟨h.enters,fun args σ K hs=>h.calls args σ K (hw _ _ _ hs)⟩
theorem ZeR {α:Type} {enc:List Tok→Int→α→PV} {P:Ts→R α} {lo:Int} {d:Nat} {g:FuncId} (h:PCalls (GG w0 nG) g (Zi6 enc P lo d)):PCalls (GG w0 nG) g (ZtL enc P lo (d+1)):=h.weaken1 fun args σ K hs=>by
 unfold ZtL Ws at hs
 unfold Zi6 Ws
 split at hs
 ·obtain ⟨L,ts,h1,h2,hs⟩:=hs
  refine ⟨L,ts,h1,h2,?_⟩
  split at hs
  ·exact ⟨by have:=hs.1.2;omega,hs.2⟩
  ·exact hs.elim
 ·exact hs
noncomputable def J7:Zz:=fun args σ K=>match args,σ with
 | [.d (.str w),.ptr 0 0],⟨[.cells t0 [.ptr 1 0],.cells t [.d (.sl rows),.d (.int .i64 a),.d (.int .i64 en),.d (.int .i64 dp)]],[],0⟩=>∃L ts,rows=ZZ L∧ROK L a ts ∧
   (isW ts [w]=true→ROK L (a+1) ts.tail→K (.ret (.d (.bool true))) ⟨[.cells t0 [.ptr 1 0],.cells t [.d (.sl (ZZ L)),.d (.int .i64 (a+1)),.d (.int .i64 en),.d (.int .i64 dp)]],[],0⟩) ∧
   (isW ts [w]=false→K (.ret (.d (.bool false))) ⟨[.cells t0 [.ptr 1 0],.cells t [.d (.sl (ZZ L)),.d (.int .i64 a),.d (.int .i64 en),.d (.int .i64 dp)]],[],0⟩)
 | _,_=>False
theorem Zdw:Zc J7:=fun args σ K K' hK h=>by
 unfold J7 at h ⊢
 split at h
 ·obtain ⟨L,ts,h1,h2,h3,h4⟩:=h
  exact ⟨L,ts,h1,h2,fun g1 g2=>hK _ _ (h3 g1 g2),fun g=>hK _ _ (h4 g)⟩
 ·exact h.elim
noncomputable def Zl0:Tbl:=[(200,WZ)]
theorem ZpO (ht:TblOK (GG w0 nG) Zl0):PCalls (GG w0 nG) 300 J7:=by
 refine pc ht Tryz.func300 ?_
 exact m54
theorem ZpP (ht:TblOK (GG w0 nG) Zl0):PCalls (GG w0 nG) 301 J7:=by
 refine pc ht Tryz.func301 ?_
 exact m54
noncomputable def ZnC:Zz:=fun args σ K=>match args,σ with
 | [.asl 0 0 n,.func g [] [.ptr 1 0]],⟨[.cells tA cs,.cells t0 [.ptr 2 0],.cells t [.d (.sl rows),.d (.int .i64 a),.d (.int .i64 en),.d (.int .i64 dp)]],[],0⟩=>∃L ts ws,rows=ZZ L∧ROK L a ts ∧
   ((ws=ZT∧g=300)∨(ws=Yl∧g=301))∧n=ws.length∧cs=ws.map (fun w=>PV.d (.str w)) ∧
   (∀k:Nat,JI ts 0 ws=some k→ROK L (a+1) ts.tail→K (.ret (.d (.int .i64 k))) ⟨[.cells tA cs,.cells t0 [.ptr 2 0],.cells t [.d (.sl (ZZ L)),.d (.int .i64 (a+1)),.d (.int .i64 en),.d (.int .i64 dp)]],[],0⟩) ∧
   (JI ts 0 ws=none→K (.ret (.d (.int .i64 (-1)))) ⟨[.cells tA cs,.cells t0 [.ptr 2 0],.cells t [.d (.sl (ZZ L)),.d (.int .i64 a),.d (.int .i64 en),.d (.int .i64 dp)]],[],0⟩)
 | _,_=>False
theorem ZnD:Zc ZnC:=fun args σ K K' hK h=>by
 unfold ZnC at h ⊢
 split at h
 ·obtain ⟨L,ts,ws,h1,h2,h3,h4,h5,h6,h7⟩:=h
  exact ⟨L,ts,ws,h1,h2,h3,h4,h5,fun k g1 g2=>hK _ _ (h6 k g1 g2),fun g=>hK _ _ (h7 g)⟩
 ·exact h.elim
noncomputable def ZtM:Tbl:=[(300,J7),(301,J7)]
theorem Zy4 (ht:TblOK (GG w0 nG) ZtM):PCalls (GG w0 nG) 253 ZnC:=by
 refine Zku XI mixed (tbl:=ZtM) ht Tryz.func253 rfl (by kernel_rfl) (by kernel_rfl) ?_
 intro args σ K h
 unfold ZnC at h
 split at h
 ·rename_i n g tA cs t0 t rows a en dp
  obtain ⟨L,ts,ws,rfl,ho,hws,rfl,rfl,h1,h2⟩:=h
  refine ⟨Za [],ZbX [(2,8)],VW [],3,false,by simp,Tb rfl,?_⟩
  rcases hws with ⟨rfl,rfl⟩ | ⟨rfl,rfl⟩
  ·conv=>whnf
   refine ⟨by decide,by decide,?_⟩
   conv=>whnf
   refine ⟨L,ts,rfl,ho,fun hw0 ho2=>?_,fun hw0=>?_⟩
   ·conv=>whnf
    exact h1 0 (by simp [JI,ZT, *]) ho2
   conv=>whnf
   refine oiO ?_
   conv=>whnf
   refine ⟨by decide,by decide,?_⟩
   conv=>whnf
   refine ⟨L,ts,rfl,ho,fun hw1 ho2=>?_,fun hw1=>?_⟩
   ·conv=>whnf
    exact h1 1 (by simp [JI,ZT, *]) ho2
   conv=>whnf
   refine oiO ?_
   conv=>whnf
   refine ⟨by decide,by decide,?_⟩
   conv=>whnf
   refine ⟨L,ts,rfl,ho,fun hw2 ho2=>?_,fun hw2=>?_⟩
   ·conv=>whnf
    exact h1 2 (by simp [JI,ZT, *]) ho2
   conv=>whnf
   refine oiO ?_
   conv=>whnf
   refine ⟨by decide,by decide,?_⟩
   conv=>whnf
   refine ⟨L,ts,rfl,ho,fun hw3 ho2=>?_,fun hw3=>?_⟩
   ·conv=>whnf
    exact h1 3 (by simp [JI,ZT, *]) ho2
   conv=>whnf
   refine oiO ?_
   conv=>whnf
   refine ⟨by decide,by decide,?_⟩
   conv=>whnf
   refine ⟨L,ts,rfl,ho,fun hw4 ho2=>?_,fun hw4=>?_⟩
   ·conv=>whnf
    exact h1 4 (by simp [JI,ZT, *]) ho2
   conv=>whnf
   refine oiO ?_
   conv=>whnf
   refine ⟨by decide,by decide,?_⟩
   conv=>whnf
   refine ⟨L,ts,rfl,ho,fun hw5 ho2=>?_,fun hw5=>?_⟩
   ·conv=>whnf
    exact h1 5 (by simp [JI,ZT, *]) ho2
   conv=>whnf
   refine oiO ?_
   conv=>whnf
   exact h2 (by simp [JI,ZT, *])
  ·conv=>whnf
   refine ⟨by decide,by decide,?_⟩
   conv=>whnf
   refine ⟨L,ts,rfl,ho,fun hw0 ho2=>?_,fun hw0=>?_⟩
   ·conv=>whnf
    exact h1 0 (by simp [JI,Yl, *]) ho2
   conv=>whnf
   refine oiO ?_
   conv=>whnf
   refine ⟨by decide,by decide,?_⟩
   conv=>whnf
   refine ⟨L,ts,rfl,ho,fun hw1 ho2=>?_,fun hw1=>?_⟩
   ·conv=>whnf
    exact h1 1 (by simp [JI,Yl, *]) ho2
   conv=>whnf
   refine oiO ?_
   conv=>whnf
   refine ⟨by decide,by decide,?_⟩
   conv=>whnf
   refine ⟨L,ts,rfl,ho,fun hw2 ho2=>?_,fun hw2=>?_⟩
   ·conv=>whnf
    exact h1 2 (by simp [JI,Yl, *]) ho2
   conv=>whnf
   refine oiO ?_
   conv=>whnf
   refine ⟨by decide,by decide,?_⟩
   conv=>whnf
   refine ⟨L,ts,rfl,ho,fun hw3 ho2=>?_,fun hw3=>?_⟩
   ·conv=>whnf
    exact h1 3 (by simp [JI,Yl, *]) ho2
   conv=>whnf
   refine oiO ?_
   conv=>whnf
   exact h2 (by simp [JI,Yl, *])
 ·exact h.elim
end Go.PM.Lex
end

section
namespace Go.PM.Lex
open Go.Proofs
variable {w0:World} {nG:Nat}
def ZhC:Nat→Ts→R Ex
 | 0=>fun _=>.err 0 150
 | d+1=>Yp d
theorem Zsq (d:Nat):Zbp d=fun ts=>Va (ZhC d) 6 1 ts:=by cases d <;> rfl
theorem ZnE (d:Nat) (ts:Ts):Yp d ts=Vb d (ZhC d) ts:=by cases d <;> rfl
theorem ZnF {ts:Ts} (h:ZJ ts=true):ts≠[]:=by rintro rfl;simp [ZJ,hd] at h
noncomputable abbrev ZkM (d:Nat):Zz:=ZtL (fun L en (v:Ex)=>Zb6 (YE (Ze L en) v)) (Zbp d) 0 d
noncomputable abbrev Zi9 (d:Nat):Zz:=ZtL (fun L en (v:Ex)=>Zb6 (YE (Ze L en) v)) (ZhC d) 0 d
noncomputable abbrev ZeS (d:Nat):Zz:=Zi6 (fun L en (v:Ex)=>Zb6 (YE (Ze L en) v)) (Vp d) 0 d
noncomputable abbrev ZdZ (d:Nat):Zz:=Zi6 (fun L en (v:Ex)=>Zb6 (YE (Ze L en) v)) (Yp d) 0 d
noncomputable abbrev Zcb (d:Nat):Zz:=Zi6 (fun L en (v:Ex)=>Zb6 (YE (Ze L en) v)) (Wg d (Zbp d)) 0 d
noncomputable def Zdx (d:Nat):Zz:=Ws fun rest L en dp a ts K=>match rest with
 | [.d (.str fr),.d (.str tw)]=>((dp=64 - (d:Int)∧0≤dp)∧tw≠[])∧∀x,ZaH d (Zbp d) fr tw ts=x→RKk (fun (l:List Ex)=>.d (.sl (l.map (YE (Ze L en))))) L en dp a x K
 | _=>False
theorem Zbt (d:Nat):Zc (Zdx d):=ZR fun rest L en dp a ts K K' hK h=>by
 exact m48
noncomputable def Zja (d:Nat):Zz:=Ws fun rest L en dp a ts K=>match rest with
 | [.agg [.d (.int .u8 op),.d (.str []),.d (.int .i64 n),.nils e,.d (.int .i64 at')]]=>((dp=64 - (d:Int)∧0≤dp)∧n=0∧e=24)∧∃o:Nat,op=(o:Int)∧∀x,Zo d [40] [41] (WY (Zbp d) (Zbo o) []) ts=x →
   RKk (fun (l:List Ex)=>.agg [.d (.int .u8 op),.d (.str []),.d (.int .i64 0),.d (.sl (l.map (YE (Ze L en)))),.d (.int .i64 at')]) L en dp a x K
 | _=>False
theorem ZkN (d:Nat):Zc (Zja d):=ZR fun rest L en dp a ts K K' hK h=>by
 split at h
 ·obtain ⟨h0,o,h1,h2⟩:=h
  exact ⟨h0,o,h1,fun x hx=>Yv hK (h2 x hx)⟩
 ·exact h.elim
noncomputable def W0 (d:Nat):Zz:=fun args σ K=>match args,σ with
 | [.ptr 0 0,.d (.str sg),.d (.int .i64 m),.func g1 [.ptr 0 0] [],.func g2 [.ptr 0 0] []],⟨[.cells t [.d (.sl rows),.d (.int .i64 a),.d (.int .i64 en),.d (.int .i64 dp)]],[],0⟩ =>
   (sg=[44]∧m=12∧g1=262∧g2=35∧0<d∧dp=65 - (d:Int)∧0≤dp)∧∃L ts,rows=ZZ L∧ROK L a ts∧∀x,Wf [44] 12 ZJ (Zbp d) ts=x →
    RKk (fun (l:List Ex)=>.d (.sl (l.map (YE (Ze L en))))) L en dp a x fun pe a' dp'=>K pe ⟨[.cells t [.d (.sl (ZZ L)),.d (.int .i64 a'),.d (.int .i64 en),.d (.int .i64 dp')]],[],0⟩
 | _,_=>False
theorem ZfV (d:Nat):Zc (W0 d):=fun args σ K K' hK h=>by
 unfold W0 at h ⊢
 exact m45
noncomputable def Zl1 (d:Nat):Tbl:=[(136,Zim),(261,W0 d)]
noncomputable def Zl2 (d:Nat):Tbl:=[(136,Zim),(143,Wh),(81,Xi),(260,ZkL Tryz.f260 (Zl1 d))]
noncomputable def Zva (d:Nat):Tbl:=[(204,ZkL Tryz.f204 (Zl2 d))]
theorem Zvb {d:Nat} (ht:TblOK (GG w0 nG) (Zva d)):PCalls (GG w0 nG) 207 (Zdx d):=by
 refine pc ht Tryz.func207 ?_
 intro args σ K h
 unfold Zdx Ws at h
 split at h
 ·rename_i rest t rows a en dp
  obtain ⟨L,ts,rfl,ho,h⟩:=h
  split at h
  ·rename_i fr tw
   obtain ⟨⟨hdp,hto⟩,h⟩:=h
   have h0:=ho.lo
   have h1:=ho.hi
   have h2:=ho.big
   refine ⟨Za [],1,false,by simp,Tb rfl,?_⟩
   have h:=h _ rfl
   unfold ZaH at h
   conv=>whnf
   refine ⟨_,fun _ _ h=>h,Tb rfl,?_⟩
   conv=>whnf
   refine ⟨L,ts,rfl,ho,[fr],rfl,by simp,fun b hw1=>?_⟩
   cases b with
   | false =>
    exact m179
   | true =>
    rw [Zo,Th hw1] at h
    conv=>whnf
    refine ZEb (fun hc=>?_) (fun hc=>?_)
    ·exact m159
    ·rw [Te (by omega)] at h
     conv=>whnf
     refine ⟨L,ts,rfl,ho,fun x hx=>?_⟩
     rw [Z0,Th hw1] at hx
     subst hx
     intro a1 hle1 ho1
     have hb1:=ho1.hi
     conv=>whnf
     refine oiO ?_
     conv=>whnf
     refine ⟨_,fun _ _ h=>h,Tb rfl,?_⟩
     conv=>whnf
     refine ⟨L,ts.tail,rfl,ho1,[tw],rfl,by simp,fun b hw4=>?_⟩
     have hgo:∀(x:R (List Ex)),(if isW ts.tail [tw]=true then R.ok [] ts.tail else Wf [44] 12 ZJ (Zbp d) ts.tail)=x→True:=fun _ _=>trivial
     cases b with
     | true =>
      rw [Th hw4,R.bind_ok] at h
      conv=>whnf
      have ho2:=ho1
      refine ZEf (fun _=>?_) (fun g=>absurd g hto)
      conv=>whnf
      rw [Te hto] at h
      refine ⟨L,ts.tail,rfl,ho1,fun x hx3=>?_⟩
      exact m18
     | false =>
      rw [Te (by rw [hw4];simp)] at h
      conv=>whnf
      refine ⟨⟨rfl,rfl,rfl,rfl,by omega,by omega,by omega⟩,L,ts.tail,rfl,ho1,fun x hx2=>?_⟩
      rcases x with ⟨v2,ts2⟩ | ⟨r2,e2⟩
      rotate_left
      ·exact m43
      rw [hx2,R.bind_ok] at h
      intro a2 hle2 ho2
      have hb2:=ho2.hi
      conv=>whnf
      refine ZEf (fun _=>?_) (fun g=>absurd g hto)
      conv=>whnf
      rw [Te hto] at h
      refine ⟨L,ts2,rfl,ho2,fun x hx3=>?_⟩
      exact m18
  ·exact h.elim
 ·exact h.elim
end Go.PM.Lex
end

section
namespace Go.PM.Lex
open Go.Proofs
variable {w0:World} {nG:Nat}
theorem UL (ex:Ts→R Ex) (k:Nat) (l:List Ex) (ts:Ts):WY ex (k+1) l ts=(if l=[] then .ok () ts else Z0 [44] ts).bind fun _ ts=>(ex ts).bind fun e ts=>WY ex k (l++[e]) ts:=rfl
noncomputable def Zl3 (d:Nat):Tbl:=[(143,Wh),(35,ZkM d)]
noncomputable def Zl4 (d:Nat):Tbl:=[(136,Zim),(143,Wh),(81,Xi),(313,Zu9 Tryz.f313 (ZbX [(1,5)]) (Zl3 d))]
noncomputable def Zvc (d:Nat):Tbl:=[(204,ZkL Tryz.f204 (Zl4 d))]
theorem Zvd {d:Nat} (ht:TblOK (GG w0 nG) (Zvc d)):PCalls (GG w0 nG) 283 (Zja d):=by
 refine pc ht Tryz.func283 ?_
 intro args σ K h
 unfold Zja Ws at h
 split at h
 ·rename_i rest t rows a en dp
  obtain ⟨L,ts,rfl,ho,h⟩:=h
  split at h
  ·rename_i op n e at'
   obtain ⟨⟨hdp,rfl,rfl⟩,o,rfl,h⟩:=h
   have h:=h _ rfl
   have h0:=ho.lo
   have h1:=ho.hi
   have h2:=ho.big
   refine ⟨Za [],1,false,by simp,Tb rfl,?_⟩
   conv=>whnf
   refine ZEb (fun hop=>?_) (fun hop=>?_)
   ·obtain rfl:o=22:=by omega
    have har:Zbo 22=3:=rfl
    conv=>whnf
    refine oiD ?_
    conv=>whnf
    refine oiD ?_
    conv=>whnf
    rw [har] at h
    refine ⟨_,fun _ _ h=>h,Tb rfl,?_⟩
    conv=>whnf
    refine ⟨L,ts,rfl,ho,[[40]],rfl,by simp,fun b hw1=>?_⟩
    cases b with
    | false =>
     exact m179
    | true =>
     rw [Zo,Th hw1] at h
     conv=>whnf
     refine ZEb (fun hc=>?_) (fun hc=>?_)
     ·exact m159
     ·rw [Te (by omega)] at h
      conv=>whnf
      refine ⟨L,ts,rfl,ho,fun x hx=>?_⟩
      rw [Z0,Th hw1] at hx
      subst hx
      intro a1 hle1 ho1
      have hb1:=ho1.hi
      conv=>whnf
      refine oiO ?_
      conv=>whnf
      refine ⟨_,fun _ _ h=>h,Tb rfl,?_⟩
      conv=>whnf
      rw [UL] at h
      rw [Th rfl,R.bind_ok] at h
      refine ⟨L,ts.tail,rfl,ho1,⟨by omega,by omega,by omega⟩,fun x hx10=>?_⟩
      rcases x with ⟨v10,ts10⟩ | ⟨r10,e10⟩
      rotate_left
      ·exact m127
      rw [hx10,R.bind_ok] at h
      intro a10 hle10 ho10
      have hb10:=ho10.hi
      obtain ⟨v10a,v10b,v10c,v10d,v10e⟩:=v10
      conv=>whnf
      refine ⟨rfl,rfl,Tb rfl,Tb rfl,?_⟩
      conv=>whnf
      repeat (refine ⟨rfl,?_⟩;conv=>whnf)
      refine oiD ?_
      conv=>whnf
      rw [UL] at h
      rw [Te (by simp)] at h
      refine ⟨L,ts10,rfl,ho10,fun x hx11=>?_⟩
      rcases x with ⟨v11,ts11⟩ | ⟨r11,e11⟩
      rotate_left
      ·rw [hx11,R.bind_err,R.bind_err] at h;intro a9 d9;(conv=>whnf);exact h _ _
      rw [hx11,R.bind_ok] at h
      intro a11 hle11 ho11
      have hb11:=ho11.hi
      conv=>whnf
      refine ⟨L,ts11,rfl,ho11,⟨by omega,by omega,by omega⟩,fun x hx12=>?_⟩
      rcases x with ⟨v12,ts12⟩ | ⟨r12,e12⟩
      rotate_left
      ·rw [hx12,R.bind_err,R.bind_err] at h;intro a9 d9;(conv=>whnf);exact h _ _
      rw [hx12,R.bind_ok] at h
      intro a12 hle12 ho12
      have hb12:=ho12.hi
      obtain ⟨v12a,v12b,v12c,v12d,v12e⟩:=v12
      conv=>whnf
      refine ⟨rfl,rfl,Tb rfl,Tb rfl,?_⟩
      conv=>whnf
      repeat (refine ⟨rfl,?_⟩;conv=>whnf)
      refine oiD ?_
      conv=>whnf
      rw [UL] at h
      rw [Te (by simp)] at h
      refine ⟨L,ts12,rfl,ho12,fun x hx13=>?_⟩
      rcases x with ⟨v13,ts13⟩ | ⟨r13,e13⟩
      rotate_left
      ·rw [hx13,R.bind_err,R.bind_err] at h;intro a9 d9;(conv=>whnf);exact h _ _
      rw [hx13,R.bind_ok] at h
      intro a13 hle13 ho13
      have hb13:=ho13.hi
      conv=>whnf
      refine ⟨L,ts13,rfl,ho13,⟨by omega,by omega,by omega⟩,fun x hx14=>?_⟩
      rcases x with ⟨v14,ts14⟩ | ⟨r14,e14⟩
      rotate_left
      ·rw [hx14,R.bind_err,R.bind_err] at h;intro a9 d9;(conv=>whnf);exact h _ _
      rw [hx14,R.bind_ok] at h
      intro a14 hle14 ho14
      have hb14:=ho14.hi
      obtain ⟨v14a,v14b,v14c,v14d,v14e⟩:=v14
      conv=>whnf
      refine ⟨rfl,rfl,Tb rfl,Tb rfl,?_⟩
      conv=>whnf
      repeat (refine ⟨rfl,?_⟩;conv=>whnf)
      refine oiD ?_
      conv=>whnf
      rw [WY] at h
      rw [R.bind_ok] at h
      have hx99:ts14=ts14:=rfl
      have ho2:=ho14
      obtain ⟨ts2,hts2⟩:∃t,t=ts14:=⟨_,rfl⟩
      rw [← hts2] at h ho2
      exact m170
   conv=>whnf
   refine ZEb (fun hop2=>?_) (fun hop2=>?_)
   ·obtain rfl:o=20:=by omega
    have har:Zbo 20=2:=rfl
    conv=>whnf
    refine oiD ?_
    conv=>whnf
    rw [har] at h
    refine ⟨_,fun _ _ h=>h,Tb rfl,?_⟩
    conv=>whnf
    refine ⟨L,ts,rfl,ho,[[40]],rfl,by simp,fun b hw1=>?_⟩
    cases b with
    | false =>
     exact m179
    | true =>
     rw [Zo,Th hw1] at h
     conv=>whnf
     refine ZEb (fun hc=>?_) (fun hc=>?_)
     ·exact m159
     ·rw [Te (by omega)] at h
      conv=>whnf
      refine ⟨L,ts,rfl,ho,fun x hx=>?_⟩
      rw [Z0,Th hw1] at hx
      subst hx
      intro a1 hle1 ho1
      have hb1:=ho1.hi
      conv=>whnf
      refine oiO ?_
      conv=>whnf
      refine ⟨_,fun _ _ h=>h,Tb rfl,?_⟩
      conv=>whnf
      rw [UL] at h
      rw [Th rfl,R.bind_ok] at h
      refine ⟨L,ts.tail,rfl,ho1,⟨by omega,by omega,by omega⟩,fun x hx10=>?_⟩
      rcases x with ⟨v10,ts10⟩ | ⟨r10,e10⟩
      rotate_left
      ·exact m127
      rw [hx10,R.bind_ok] at h
      intro a10 hle10 ho10
      have hb10:=ho10.hi
      obtain ⟨v10a,v10b,v10c,v10d,v10e⟩:=v10
      conv=>whnf
      refine ⟨rfl,rfl,Tb rfl,Tb rfl,?_⟩
      conv=>whnf
      repeat (refine ⟨rfl,?_⟩;conv=>whnf)
      refine oiD ?_
      conv=>whnf
      rw [UL] at h
      rw [Te (by simp)] at h
      refine ⟨L,ts10,rfl,ho10,fun x hx11=>?_⟩
      rcases x with ⟨v11,ts11⟩ | ⟨r11,e11⟩
      rotate_left
      ·rw [hx11,R.bind_err,R.bind_err] at h;intro a9 d9;(conv=>whnf);exact h _ _
      rw [hx11,R.bind_ok] at h
      intro a11 hle11 ho11
      have hb11:=ho11.hi
      conv=>whnf
      refine ⟨L,ts11,rfl,ho11,⟨by omega,by omega,by omega⟩,fun x hx12=>?_⟩
      rcases x with ⟨v12,ts12⟩ | ⟨r12,e12⟩
      rotate_left
      ·rw [hx12,R.bind_err,R.bind_err] at h;intro a9 d9;(conv=>whnf);exact h _ _
      rw [hx12,R.bind_ok] at h
      intro a12 hle12 ho12
      have hb12:=ho12.hi
      obtain ⟨v12a,v12b,v12c,v12d,v12e⟩:=v12
      conv=>whnf
      refine ⟨rfl,rfl,Tb rfl,Tb rfl,?_⟩
      conv=>whnf
      repeat (refine ⟨rfl,?_⟩;conv=>whnf)
      refine oiD ?_
      conv=>whnf
      rw [WY] at h
      rw [R.bind_ok] at h
      have hx99:ts12=ts12:=rfl
      have ho2:=ho12
      obtain ⟨ts2,hts2⟩:∃t,t=ts12:=⟨_,rfl⟩
      rw [← hts2] at h ho2
      exact m170
   have har:Zbo o=1:=by rw [Zbo,Te (by omega),Te (by omega)]
   conv=>whnf
   rw [har] at h
   refine ⟨_,fun _ _ h=>h,Tb rfl,?_⟩
   conv=>whnf
   refine ⟨L,ts,rfl,ho,[[40]],rfl,by simp,fun b hw1=>?_⟩
   cases b with
   | false =>
    exact m179
   | true =>
    rw [Zo,Th hw1] at h
    conv=>whnf
    refine ZEb (fun hc=>?_) (fun hc=>?_)
    ·exact m159
    ·rw [Te (by omega)] at h
     conv=>whnf
     refine ⟨L,ts,rfl,ho,fun x hx=>?_⟩
     rw [Z0,Th hw1] at hx
     subst hx
     intro a1 hle1 ho1
     have hb1:=ho1.hi
     conv=>whnf
     refine oiO ?_
     conv=>whnf
     refine ⟨_,fun _ _ h=>h,Tb rfl,?_⟩
     conv=>whnf
     rw [UL] at h
     rw [Th rfl,R.bind_ok] at h
     refine ⟨L,ts.tail,rfl,ho1,⟨by omega,by omega,by omega⟩,fun x hx10=>?_⟩
     rcases x with ⟨v10,ts10⟩ | ⟨r10,e10⟩
     rotate_left
     ·exact m127
     rw [hx10,R.bind_ok] at h
     intro a10 hle10 ho10
     have hb10:=ho10.hi
     obtain ⟨v10a,v10b,v10c,v10d,v10e⟩:=v10
     conv=>whnf
     refine ⟨rfl,rfl,Tb rfl,Tb rfl,?_⟩
     conv=>whnf
     repeat (refine ⟨rfl,?_⟩;conv=>whnf)
     refine oiD ?_
     conv=>whnf
     rw [WY] at h
     rw [R.bind_ok] at h
     have hx99:ts10=ts10:=rfl
     have ho2:=ho10
     obtain ⟨ts2,hts2⟩:∃t,t=ts10:=⟨_,rfl⟩
     rw [← hts2] at h ho2
     exact m170
  ·exact h.elim
 ·exact h.elim
end Go.PM.Lex
end

section
namespace Go.PM.Lex
open Go.Proofs
variable {w0:World} {nG:Nat}
noncomputable def Zl5 (d:Nat):Tbl:=[(35,ZkM d)]
noncomputable def Zl6 (d:Nat):Tbl:=[(136,Zim),(143,Wh),(81,Xi),(282,ZkL Tryz.f282 (Zl5 d))]
noncomputable def ZpQ (d:Nat):Tbl:=[(262,ZaI ZJ),(81,Xi),(198,ZaY),(204,ZkL Tryz.f204 (Zl6 d)),(207,Zdx d),(142,WE),(136,Zim),(212,VK),(283,Zja d)]
theorem ZnG {d:Nat} (ht:TblOK (GG w0 nG) (ZpQ d)):PCalls (GG w0 nG) 229 (Zcb d):=by
 refine Zkt XI mixed (tbl:=ZpQ d) ht Tryz.func229 rfl (by kernel_rfl) (by kernel_rfl) ?_
 intro args σ K h
 unfold Zcb Zi6 Ws at h
 split at h
 ·rename_i rest t rows a en dp
  obtain ⟨L,ts,rfl,ho,h⟩:=h
  split at h
  ·obtain ⟨hdp,h⟩:=h
   have h0:=ho.lo
   have h1:=ho.hi
   have h2:=ho.big
   refine ⟨Za [],ZbX [],VW [],VW [],VW [283],1,false,by simp,Tb rfl,?_⟩
   have h:=h _ rfl
   conv=>whnf
   refine ⟨L,ts,rfl,ho,fun b hst=>?_⟩
   cases b with
   | false =>
    rw [Wg,Th hst] at h
    conv=>whnf
    refine ⟨L,ts,rfl,ho,?_⟩
    exact m47
   | true =>
    rw [Wg,Te (by rw [hst];simp)] at h
    have hot:=ho.tl (ZnF hst)
    have hbt:=hot.hi
    conv=>whnf
    refine ⟨L,ts,rfl,ho,fun fin=>Or.inl ⟨rfl,?_⟩⟩
    conv=>whnf
    refine ZEb (fun hc=>?_) (fun hc=>?_)
    ·rw [Th (show (hd ts).kind=2 by omega)] at h
     exact m88
    rw [Te (show ¬(hd ts).kind=2 by omega)] at h
    conv=>whnf
    refine ZEb (fun hc=>?_) (fun hc=>?_)
    ·rw [Th (show (hd ts).kind=3 by omega)] at h
     exact m88
    rw [Te (show ¬(hd ts).kind=3 by omega)] at h
    conv=>whnf
    refine ZEb (fun hc=>?_) (fun hc=>?_)
    ·rw [Th (show (hd ts).text=[40] from hc)] at h
     conv=>whnf
     refine ⟨_,fun _ _ h=>h,Tb rfl,?_⟩
     conv=>whnf
     refine ⟨L,ts,rfl,ho,[[40]],rfl,by simp,fun b hw1=>?_⟩
     cases b with
     | false =>
      exact m179
     | true =>
      rw [Zo,Th hw1] at h
      conv=>whnf
      refine ZEb (fun hc=>?_) (fun hc=>?_)
      ·exact m159
      ·rw [Te (by omega)] at h
       conv=>whnf
       refine ⟨L,ts,rfl,ho,fun x hx=>?_⟩
       rw [Z0,Th hw1] at hx
       subst hx
       intro a1 hle1 ho1
       have hb1:=ho1.hi
       conv=>whnf
       refine oiO ?_
       conv=>whnf
       refine ⟨_,fun _ _ h=>h,Tb rfl,?_⟩
       conv=>whnf
       refine ⟨L,ts.tail,rfl,ho1,⟨by omega,by omega,by omega⟩,fun x hx2=>?_⟩
       rcases x with ⟨v2,ts2⟩ | ⟨r2,e2⟩
       rotate_left
       ·exact m43
       rw [hx2,R.bind_ok] at h
       intro a2 hle2 ho2
       have hb2:=ho2.hi
       obtain ⟨v2a,v2b,v2c,v2d,v2e⟩:=v2
       conv=>whnf
       exact m170
    rw [Te (show ¬(hd ts).text=[40] from hc)] at h
    conv=>whnf
    refine ZEb (fun hc=>?_) (fun hc=>?_)
    ·rw [Th (show (hd ts).text=[91] from hc)] at h
     conv=>whnf
     refine ⟨L,ts,rfl,ho,⟨hdp,by simp⟩,fun x hx1=>?_⟩
     rcases x with ⟨v1,ts1⟩ | ⟨r1,e1⟩
     rotate_left
     ·exact m50
     rw [hx1,R.bind_ok] at h
     intro a1 hle1 ho1
     have hb1:=ho1.hi
     conv=>whnf
     rw [← Zh]
     exact h _ (by omega) ho1
    rw [Te (show ¬(hd ts).text=[91] from hc)] at h
    conv=>whnf
    refine ZEb (fun hc=>?_) (fun hc=>?_)
    ·rw [Th (show (hd ts).text=[36] from hc)] at h
     conv=>whnf
     refine oiO ?_
     conv=>whnf
     refine ⟨L,ts.tail,rfl,hot,fun x hx1=>?_⟩
     rcases x with ⟨v1,ts1⟩ | ⟨r1,e1⟩
     rotate_left
     ·exact m50
     rw [hx1,R.bind_ok] at h
     intro a1 hle1 ho1
     have hb1:=ho1.hi
     conv=>whnf
     refine ⟨L,ts1,rfl,ho1,[[40]],rfl,by simp,fun b hw2=>?_⟩
     cases b with
     | false =>
      rw [Te (by rw [hw2];simp)] at h
      conv=>whnf
      exact h _ (by omega) ho1
     | true =>
      rw [Th hw2] at h
      conv=>whnf
      refine ⟨L,ts1,rfl,ho1,⟨hdp,by simp⟩,fun x hx3=>?_⟩
      rcases x with ⟨v3,ts3⟩ | ⟨r3,e3⟩
      rotate_left
      ·exact m25
      exact m130
    rw [Te (show ¬(hd ts).text=[36] from hc)] at h
    conv=>whnf
    intro n hn
    conv=>whnf
    refine ZEf (fun hc=>?_) (fun hc=>?_)
    ·rw [Th (show ZL (hd ts).text≠0 by omega)] at h
     conv=>whnf
     refine oiO ?_
     conv=>whnf
     intro n2 hn2
     conv=>whnf
     refine ⟨L,ts.tail,rfl,hot,⟨hdp,rfl,rfl⟩,ZL (hd ts).text,hn2.symm,fun x hx1=>?_⟩
     rcases x with ⟨v1,ts1⟩ | ⟨r1,e1⟩
     rotate_left
     ·exact m50
     rw [hx1,R.bind_ok] at h
     intro a1 hle1 ho1
     have hb1:=ho1.hi
     conv=>whnf
     rw [← hn2,← Zh]
     exact h _ (by omega) ho1
    rw [Te (show ¬ZL (hd ts).text≠0 by omega)] at h
    conv=>whnf
    refine ZEb (fun hc=>?_) (fun hc=>?_)
    ·rw [Th (show (hd ts).text=[110,105,108] from hc)] at h
     conv=>whnf
     refine oiO ?_
     conv=>whnf
     exact h _ (by omega) hot
    rw [Te (show ¬(hd ts).text=[110,105,108] from hc)] at h
    conv=>whnf
    refine ZEb (fun hc=>?_) (fun hc=>?_)
    ·rw [Th (show (hd ts).text=[95] from hc)] at h
     conv=>whnf
     refine oiO ?_
     conv=>whnf
     exact h _ (by omega) hot
    rw [Te (show ¬(hd ts).text=[95] from hc)] at h
    exact m88
  ·exact h.elim
 ·exact h.elim
noncomputable def Zl7 (d:Nat):Tbl:=[(161,Zi9 d)]
noncomputable def Zl8 (d:Nat):Tbl:=[(136,Zim),(143,Wh),(81,Xi),(228,ZkL Tryz.f228 (Zl7 d))]
noncomputable def Zl9 (d:Nat):Tbl:=[(141,Vc),(136,Zim),(204,ZkL Tryz.f204 (Zl8 d)),(229,Zcb d)]
theorem ZpR {d:Nat} (ht:TblOK (GG w0 nG) (Zl9 d)):PCalls (GG w0 nG) 161 (ZdZ d):=by
 refine Zku XI mixed (tbl:=Zl9 d) ht Tryz.func161 rfl (by kernel_rfl) (by kernel_rfl) ?_
 intro args σ K h
 unfold ZdZ Zi6 Ws at h
 split at h
 ·rename_i rest t rows a en dp
  obtain ⟨L,ts,rfl,ho,h⟩:=h
  split at h
  ·obtain ⟨hdp,h⟩:=h
   have h0:=ho.lo
   have h1:=ho.hi
   have h2:=ho.big
   refine ⟨Za [],ZbX [(3,4)],VW [],1,false,by simp,Tb rfl,?_⟩
   have h:=h _ rfl
   rw [ZnE,Vb] at h
   conv=>whnf
   refine ⟨L,ts,rfl,ho,?_⟩
   conv=>whnf
   refine ⟨by decide,by decide,?_⟩
   conv=>whnf
   refine ⟨L,ts,rfl,ho,[[45]],rfl,by simp,fun b hw8=>?_⟩
   cases b with
   | true =>
    rw [Th hw8] at h
    conv=>whnf
    refine ⟨_,fun _ _ h=>h,Tb rfl,?_⟩
    conv=>whnf
    refine ⟨L,ts,rfl,ho,[[45]],rfl,by simp,fun b hw1=>?_⟩
    exact m19
   | false =>
    rw [Te (by rw [hw8];simp)] at h
    conv=>whnf
    refine oiD ?_
    conv=>whnf
    refine ⟨by decide,by decide,?_⟩
    conv=>whnf
    refine ⟨L,ts,rfl,ho,[[126]],rfl,by simp,fun b hw9=>?_⟩
    cases b with
    | true =>
     rw [Th hw9] at h
     conv=>whnf
     refine ⟨_,fun _ _ h=>h,Tb rfl,?_⟩
     conv=>whnf
     refine ⟨L,ts,rfl,ho,[[126]],rfl,by simp,fun b hw1=>?_⟩
     exact m19
    | false =>
     rw [Te (by rw [hw9];simp)] at h
     conv=>whnf
     refine oiD ?_
     conv=>whnf
     rw [show Va (ZhC d) 6 1=Zbp d from (Zsq d).symm] at h
     refine ⟨L,ts,rfl,ho,hdp,fun x hx1=>?_⟩
     exact m74
  ·exact h.elim
 ·exact h.elim
noncomputable def ZeT (d j:Nat):Zz:=Ws fun rest L en dp a ts K=>match rest with
 | [.d (.int .i64 least)]=>((dp=64 - (d:Int)∧0≤dp)∧1≤least∧least≤6∧6≤least+(j:Int))∧∀x,Va (Yp d) j least.toNat ts=x→RKk (fun (v:Ex)=>Zb6 (YE (Ze L en) v)) L en dp a x K
 | _=>False
theorem ZkO (d j:Nat):Zc (ZeT d j):=ZR fun rest L en dp a ts K K' hK h=>by
 exact m48
noncomputable def ZcR (d j:Nat):Zz:=Ws fun rest L en dp a ts K=>match rest with
 | [.d (.int .i64 least)]=>((dp=64 - (d:Int)∧0≤dp)∧0<j∧1≤least∧least≤6∧7≤least+(j:Int))∧∀x,Va (Yp d) (j - 1) least.toNat ts=x→RKk (fun (v:Ex)=>Zb6 (YE (Ze L en) v)) L en dp a x K
 | _=>False
theorem Zdy (d j:Nat):Zc (ZcR d j):=ZR fun rest L en dp a ts K K' hK h=>by
 exact m48
theorem ZpS (ts:Ts):(UI ts).1≤5∧(UI ts).2≤255:=by
 unfold UI
 repeat' (first | (split;decide) | split)
 all_goals decide
theorem Zjb (sub : Nat → Ts → R Ex) (least f : Nat) (e : Ex) (ts : Ts) : VI sub least (f + 1) e ts = if (UI ts).1 < least ∨ (UI ts).1 = 0 then .ok e ts
      else (sub ((UI ts).1+1) ts.tail).bind fun g ts'=>VI sub least f (.mk (UI ts).2 [] 0 [e,g] e.at') ts':=rfl
theorem ZnH {sub:Nat→Ts→R Ex} {least f:Nat} {e:Ex} {ts:Ts} (h:6≤least):VI sub least (f+1) e ts=.ok e ts:=by
 rw [Zjb,Th];have:=(ZpS ts).1;omega
theorem Zve {ts:Ts} (h:(UI ts).1≠0):ts≠[]:=by rintro rfl;exact h rfl
theorem Zsr (sg:Ts→R Ex) (j least:Nat) (ts:Ts) (h:6≤least+j):Va sg j least ts=(sg ts).bind fun e ts=>VI (Va sg (j - 1)) least (ts.length+1) e ts:=by
 cases j with
 | zero =>
  rw [Va]
  cases sg ts with
  | ok e ts=>rw [R.bind_ok,ZnH (by omega)]
  | err r e=>rfl
 | succ j=>rfl
noncomputable def Zvf (d j:Nat):Tbl:=[(161,ZdZ d),(162,ZpE),(82,ZcR d j)]
theorem ZpT {d j:Nat} (ht:TblOK (GG w0 nG) (Zvf d j)):PCalls (GG w0 nG) 82 (ZeT d j):=by
 refine pc ht Tryz.func82 ?_
 intro args σ K h
 unfold ZeT Ws at h
 split at h
 ·rename_i rest t rows a en dp
  obtain ⟨L,ts,rfl,ho,h⟩:=h
  split at h
  ·rename_i least
   obtain ⟨⟨hdp,hl1,hl2,hl3⟩,h⟩:=h
   have h0:=ho.lo
   have h1:=ho.hi
   have h2:=ho.big
   refine ⟨Za [(2,⟨[],[0,1,4,5],fun vs σ=>∃(u1:Nat) (u2:Bs) (u3:Int) (u4:List Ex) (u5:Nat) (a':Int) (ts':Ts) (f:Nat),vs=[]∧σ=⟨[.cells t [.d (.sl (ZZ L)),.d (.int .i64 a'),.d (.int .i64 en),.d (.int .i64 dp)],.cells 24 [.d (.int .u8 0),.d (.str []),.d (.int .i64 0),.sl 0 24 [],.d (.int .i64 0)],.cells 24 [.d (.int .u8 u1),.d (.str u2),.d (.int .i64 u3),.d (.sl (XF (Ze L en) u4)),.d (.int .i64 (Ze L en u5))]],[0],1⟩∧ROK L a' ts'∧a≤a'∧ts'.length<f∧RKk (fun (v:Ex)=>Zb6 (YE (Ze L en) v)) L en dp a (VI (Va (Yp d) (j - 1)) least.toNat f (.mk u1 u2 u3 u4 u5) ts') (fun pe a' dp'=>K pe ⟨[.cells t [.d (.sl (ZZ L)),.d (.int .i64 a'),.d (.int .i64 en),.d (.int .i64 dp')]],[],0⟩),fun _ σ=>match σ with | ⟨.cells _ [_,.d (.int _ i),_,_]::_,_,_⟩=>((L.length:Int) - i).toNat | _=>0⟩)],1,false,by simp,Tb rfl,?_⟩
   have h:=h _ rfl
   rw [Zsr _ _ _ _ (by omega)] at h
   conv=>whnf
   refine ⟨L,ts,rfl,ho,hdp,fun x hx1=>?_⟩
   rcases x with ⟨v1,ts1⟩ | ⟨r1,e1⟩
   rotate_left
   ·exact m50
   rw [hx1,R.bind_ok] at h
   intro a1 hle1 ho1
   have hb1:=ho1.hi
   obtain ⟨v1a,v1b,v1c,v1d,v1e⟩:=v1
   conv=>whnf
   refine ⟨⟨v1a,v1b,v1c,v1d,v1e,a1,ts1,ts1.length+1,rfl,rfl,ho1,by omega,by omega,h⟩,?_⟩
   clear h hx1 ho1 hb1 hle1
   intro vs σ hI
   obtain ⟨u1,u2,u3,u4,u5,a',ts',f,rfl,rfl,ho',hle',hf,h⟩:=hI
   obtain ⟨f,rfl⟩:∃g,f=g+1:=⟨f - 1,by omega⟩
   rw [Zjb] at h
   have hhi':=ho'.hi
   have hlen':=ho'.len
   conv=>whnf
   refine ⟨L,ts',rfl,ho',fun n op hn hop=>?_⟩
   conv=>whnf
   have hbin:=ZpS ts'
   refine ZEb (fun hc=>?_) (fun hc=>?_)
   ·rw [Th (by omega)] at h
    exact m82
   conv=>whnf
   refine ZEb (fun hc2=>?_) (fun hc2=>?_)
   ·rw [Th (by omega)] at h
    exact m82
   rw [Te (by omega)] at h
   have ho2:=ho'.tl (Zve (by omega))
   have hb2:=ho2.hi
   have hlen2:=ho2.len
   conv=>whnf
   refine oiO ?_
   conv=>whnf
   refine oiO ?_
   conv=>whnf
   refine ⟨L,ts'.tail,rfl,ho2,⟨hdp,by omega,by omega,by omega,by omega⟩,fun x hx3=>?_⟩
   rw [show (n+1).toNat=(UI ts').1+1 by omega] at hx3
   rcases x with ⟨v3,ts3⟩ | ⟨r3,e3⟩
   rotate_left
   ·exact m25
   rw [hx3,R.bind_ok] at h
   intro a3 hle3 ho3
   have hb3:=ho3.hi
   obtain ⟨v3a,v3b,v3c,v3d,v3e⟩:=v3
   conv=>whnf
   have hlen3:=ho3.len
   obtain rfl:op=((UI ts').2:Int):=hop.symm
   refine ⟨⟨(UI ts').2,[],0,[.mk u1 u2 u3 u4 u5,.mk v3a v3b v3c v3d v3e],u5,a3,ts3,f,rfl,rfl,ho3,by omega,by omega,h⟩,?_⟩
   exact m157
  ·exact h.elim
 ·exact h.elim
noncomputable def Zvg (d:Nat):Tbl:=[(82,ZeT d 6)]
theorem Zvh {d:Nat} (ht:TblOK (GG w0 nG) (Zvg d)):PCalls (GG w0 nG) 35 (ZeS d):=by
 refine pc ht Tryz.func35 ?_
 intro args σ K h
 unfold ZeS Zi6 Ws at h
 split at h
 ·rename_i rest t rows a en dp
  obtain ⟨L,ts,rfl,ho,h⟩:=h
  split at h
  ·obtain ⟨hdp,h⟩:=h
   have h0:=ho.lo
   have h1:=ho.hi
   have h2:=ho.big
   refine ⟨Za [],1,false,by simp,Tb rfl,?_⟩
   have h:=h _ rfl
   conv=>whnf
   refine ⟨L,ts,rfl,ho,⟨hdp,by omega,by omega,by omega⟩,fun x hx1=>?_⟩
   rw [Vp] at h
   change Va (Yp d) 6 1 ts=x at hx1
   exact m74
  ·exact h.elim
 ·exact h.elim
end Go.PM.Lex
end

section
namespace Go.PM.Lex
open Go.Proofs
variable {w0:World} {nG:Nat}
noncomputable abbrev Zvi (d:Nat):Zz:=Zi6 (fun L en (v:Li)=>Zb6 (Xp (Ze L en) v)) (Zdu d (Jj d)) 0 d
noncomputable abbrev Zjc (d:Nat):Zz:=Zi6 (fun L en (v:List Li)=>.d (.sl (v.map (Xp (Ze L en))))) (ZfQ d) 0 d
noncomputable abbrev ZhD (d:Nat):Zz:=ZtL (fun L en (v:List Li)=>.d (.sl (v.map (Xp (Ze L en))))) (Jj d) 0 d
theorem Zss (d:Nat):ZfQ d=Wf [44] 32 Yq (Zdu d (Jj d)):=by cases d <;> rfl
noncomputable def Zjd (d:Nat):Zz:=Ws fun rest L en dp a ts K=>match rest with
 | [.d (.bool b)]=>(dp=64 - (d:Int)∧0≤dp)∧∀x,Zht d b ts=x→RKk (fun (v:Ru)=>Zb6 (Z7 (Ze L en) v)) L en dp (a+1) x K
 | _=>False
theorem ZkP (d:Nat):Zc (Zjd d):=ZR fun rest L en dp a ts K K' hK h=>by
 exact m48
theorem Zbu {ts:Ts}:∀{ws:List Bs} {i k:Nat},JI ts i ws=some k→i≤k∧k<i+ws.length
 | [],i,k,h=>by simp [JI] at h
 | w::ws,i,k,h=>by
  rw [JI] at h
  split at h
  ·cases h;simp
  ·have:=Zbu h;simp only [Tc];omega
theorem ZcS {ts:Ts} (h:JI ts 0 ZT=none):Ui ts=.err ts.length 150:=by rw [Ui,h]
theorem ZeU {ts:Ts} {j:Nat} (h:JI ts 0 ZT=some 0) (h2:JI ts.tail 0 Yl=some j):Ui ts=.ok (9+j) ts.tail.tail:=by rw [Ui,h];simp only [h2]
theorem ZhE {ts:Ts} (h:JI ts 0 ZT=some 0) (h2:JI ts.tail 0 Yl=none):Ui ts=.ok 3 ts.tail:=by rw [Ui,h];simp only [h2]
theorem ZeV {ts:Ts} {k:Nat} (h:JI ts 0 ZT=some (k+1)):Ui ts=.ok (3+(k+1)) ts.tail:=by rw [Ui,h];rfl
noncomputable def Zst:Tbl:=[(262,(ZaI ZJ)),(136,Zim)]
theorem Zsu (ht:TblOK (GG w0 nG) Zst):PCalls (GG w0 nG) 264 (Zi5 Yq):=by
 refine pc ht Tryz.func264 ?_
 intro args σ K h
 unfold Zi5 ZkG at h
 split at h
 ·rename_i rest t0 t rows a en dp
  obtain ⟨L,ts,rfl,ho,h⟩:=h
  split at h
  ·skip
   refine ⟨Za [],2,false,by simp,Tb rfl,?_⟩
   conv=>whnf
   refine ⟨L,ts,rfl,ho,fun b hb=>?_⟩
   cases b with
   | true =>
    conv=>whnf
    exact h _ (by rw [Yq,hb];rfl)
   | false =>
    conv=>whnf
    refine ⟨L,ts,rfl,ho,[[33]],rfl,by simp,fun b hw=>?_⟩
    conv=>whnf
    exact h _ (by rw [Yq,hb,hw];rfl)
  ·exact h.elim
 ·exact h.elim
noncomputable def Zvj (d:Nat):Tbl:=[(263,Zb9 d)]
theorem Zvk {d:Nat} (ht:TblOK (GG w0 nG) (Zvj d)):PCalls (GG w0 nG) 208 (Zjc d):=by
 refine pc ht Tryz.func208 ?_
 intro args σ K h
 unfold Zjc Zi6 Ws at h
 split at h
 ·rename_i rest t rows a en dp
  obtain ⟨L,ts,rfl,ho,h⟩:=h
  split at h
  ·obtain ⟨hdp,h⟩:=h
   have h0:=ho.lo
   have h1:=ho.hi
   have h2:=ho.big
   refine ⟨Za [],1,false,by simp,Tb rfl,?_⟩
   have h:=h _ rfl
   rw [Zss] at h
   conv=>whnf
   refine ⟨⟨rfl,rfl,rfl,rfl,hdp⟩,L,ts,rfl,ho,fun x hx1=>?_⟩
   rcases x with ⟨v1,ts1⟩ | ⟨r1,e1⟩
   rotate_left
   ·rw [hx1] at h;intro a9 d9;(conv=>whnf);exact h _ _
   rw [hx1] at h
   intro a1 hle1 ho1
   have hb1:=ho1.hi
   conv=>whnf
   exact h _ (by omega) ho1
  ·exact h.elim
 ·exact h.elim
noncomputable def ZpU (d:Nat):Tbl:=[(208,ZhD d)]
noncomputable def ZpV (d:Nat):Tbl:=[(136,Zim),(143,Wh),(81,Xi),(302,ZkL Tryz.f302 (ZpU d))]
noncomputable def ZtN (d:Nat):Tbl:=[(141,Vc),(200,WZ),(198,ZaY),(145,ZaI ZF),(142,WE),(207,Zdx d),(35,ZeS d),(253,ZnC),(81,Xi),(143,Wh),(204,ZkL Tryz.f204 (ZpV d))]
theorem Zy5 {d:Nat} (ht:TblOK (GG w0 nG) (ZtN d)):PCalls (GG w0 nG) 265 (Zvi d):=by
 refine Zkt XI mixed (tbl:=ZtN d) ht Tryz.func265 rfl (by kernel_rfl) (by kernel_rfl) ?_
 intro args σ K h
 unfold Zvi Zi6 Ws at h
 split at h
 ·rename_i rest t rows a en dp
  obtain ⟨L,ts,rfl,ho,h⟩:=h
  split at h
  ·obtain ⟨hdp,h⟩:=h
   have h0:=ho.lo
   have h1:=ho.hi
   have h2:=ho.big
   refine ⟨Za [],ZbX [],VW [],VW [50],VW [],1,false,by simp,Tb rfl,?_⟩
   have h:=h _ rfl
   rw [Zdu] at h
   conv=>whnf
   refine ⟨L,ts,rfl,ho,?_⟩
   conv=>whnf
   refine ⟨L,ts,rfl,ho,[[33]],rfl,by simp,fun hw1 ho1=>?_,fun hw1=>?_⟩
   ·rw [Th hw1] at h
    have hb1:=ho1.hi
    conv=>whnf
    refine ⟨L,ts.tail,rfl,ho1,fun fin=>Or.inr ⟨rfl,?_⟩⟩
    conv=>whnf
    rw [Ji] at h
    refine ⟨L,ts.tail,rfl,ho1,fun x hx11=>?_⟩
    exact m46
   ·rw [Te (by rw [hw1];simp)] at h
    conv=>whnf
    refine ⟨L,ts,rfl,ho,fun fin=>Or.inr ⟨rfl,?_⟩⟩
    conv=>whnf
    refine ⟨L,ts,rfl,ho,fun b hn=>?_⟩
    cases b with
    | false =>
     rw [Te (by rw [hn];simp)] at h
     exact m0
    | true =>
     conv=>whnf
     refine ZEb (fun hc=>?_) (fun hc=>?_)
     ·conv=>whnf
      refine ZEb (fun hc2=>?_) (fun hc2=>?_)
      ·rw [Th ⟨hn,by omega,hc2⟩] at h
       conv=>whnf
       rw [Ji] at h
       refine ⟨L,ts,rfl,ho,fun x hx11=>?_⟩
       exact m46
      ·rw [Te (fun g=>hc2 g.2.2)] at h
       exact m0
     ·rw [Te (fun g=>hc (by have:=g.2.1;omega))] at h
      exact m0
  ·exact h.elim
 ·exact h.elim
noncomputable def Zvl (d:Nat):Tbl:=[(141,Vc),(142,WE),(207,Zdx d),(200,WZ),(208,Zjc d),(143,Wh)]
theorem Zvm {d:Nat} (ht:TblOK (GG w0 nG) (Zvl d)):PCalls (GG w0 nG) 146 (Zjd d):=by
 refine pc ht Tryz.func146 ?_
 intro args σ K h
 unfold Zjd Ws at h
 split at h
 ·rename_i rest t rows a en dp
  obtain ⟨L,ts,rfl,ho,h⟩:=h
  split at h
  ·rename_i bodies
   obtain ⟨hdp,h⟩:=h
   have h0:=ho.lo
   have h1:=ho.hi
   have h2:=ho.big
   refine ⟨Za [],1,false,by simp,Tb rfl,?_⟩
   have h:=h _ rfl
   rw [Zht] at h
   conv=>whnf
   refine ⟨L,ts,rfl,ho,?_⟩
   conv=>whnf
   refine ⟨L,ts,rfl,ho,fun x hx1=>?_⟩
   rcases x with ⟨v1,ts1⟩ | ⟨r1,e1⟩
   rotate_left
   ·exact m50
   rw [hx1,R.bind_ok] at h
   intro a1 hle1 ho1
   have hb1:=ho1.hi
   conv=>whnf
   refine ⟨L,ts1,rfl,ho1,⟨hdp,by simp⟩,fun x hx2=>?_⟩
   have hdp2:=hdp
   rcases x with ⟨v2,ts2⟩ | ⟨r2,e2⟩
   rotate_left
   ·exact m43
   rw [hx2,R.bind_ok] at h
   intro a2 hle2 ho2
   have hb2:=ho2.hi
   conv=>whnf
   cases bodies with
   | false =>
    rw [Te (by simp)] at h
    conv=>whnf
    refine ⟨L,ts2,rfl,ho2,fun x hx3=>?_⟩
    rcases x with ⟨v3,ts3⟩ | ⟨r3,e3⟩
    rotate_left
    ·exact m25
    exact m130
   | true =>
    conv=>whnf
    refine ⟨L,ts2,rfl,ho2,[[58,45]],rfl,by simp,fun hw3 ho3=>?_,fun hw3=>?_⟩
    ·rw [Th ⟨rfl,hw3⟩] at h
     have hb3:=ho3.hi
     conv=>whnf
     refine ⟨L,ts2.tail,rfl,ho3,hdp,fun x hx4=>?_⟩
     rcases x with ⟨v4,ts4⟩ | ⟨r4,e4⟩
     rotate_left
     ·exact m93
     rw [hx4,R.bind_ok] at h
     intro a4 hle4 ho4
     have hb4:=ho4.hi
     conv=>whnf
     refine ⟨L,ts4,rfl,ho4,fun x hx5=>?_⟩
     rcases x with ⟨v5,ts5⟩ | ⟨r5,e5⟩
     rotate_left
     ·exact m42
     rw [hx5,R.bind_ok] at h
     intro a5 hle5 ho5
     have hb5:=ho5.hi
     conv=>whnf
     rw [← Zh,← Zp]
     exact h _ (by omega) ho5
    ·rw [Te (by rw [hw3];simp)] at h
     conv=>whnf
     refine ⟨L,ts2,rfl,ho2,fun x hx4=>?_⟩
     rcases x with ⟨v4,ts4⟩ | ⟨r4,e4⟩
     rotate_left
     ·exact m93
     rw [hx4,R.bind_ok] at h
     intro a4 hle4 ho4
     have hb4:=ho4.hi
     conv=>whnf
     rw [← Zh]
     exact h _ (by omega) ho4
  ·exact h.elim
 ·exact h.elim
end Go.PM.Lex
end
