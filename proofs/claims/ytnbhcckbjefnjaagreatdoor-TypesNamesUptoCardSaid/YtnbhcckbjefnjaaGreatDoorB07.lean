/- A part of the proof: plain logic, contracts and laws over the given program. -/
import Derived.Lib.ValidU
import Derived.Test.YtnbhcckbjefnjaaGreatDoorValid
import Derived.Shelf.Unicode.ValidAny
import Derived.Lib.MapLaws
import Derived.Test.YtnbhcckbjefnjaaGreatDoorB06
set_option linter.unusedVariables false
set_option linter.unusedSimpArgs false
set_option linter.all false
set_option maxRecDepth 100000
set_option maxHeartbeats 16000000
noncomputable section
section
noncomputable section
namespace Go.PM.Lex
open Go.Proofs
def tz (L:List Tok) (a:Int):Ts:=(L.drop a.toNat).map Tok.t0
def Zc (L:List Tok) (en:Int) (r:Nat):Int:=match L.drop (L.length - r) with
 | []=>en
 | t::_=>t.at'
structure ROK (L:List Tok) (a:Int) (ts:Ts):Prop where
 lo:0<=a
 hi:a<=L.length
 big:L.length<=1048576
 eq:tz L a=ts
def ROK.len {L:List Tok} {a:Int} {ts:Ts} (h:ROK L a ts):(ts.length:Int)=L.length - a:=by
 rw [<- h.eq];simp only [tz,Td,TG];have:=h.lo;have:=h.hi;omega
def ROK.next {L:List Tok} {a:Int} {t:T0} {ts:Ts} (h:ROK L a (t::ts)):ROK L (a+1) ts:=by
 have hl:=h.len;have h0:=h.lo;refine ⟨oM,by simp at hl;omega,h.big,?_⟩;have:=h.eq;simp only [tz] at this |-;rw [show (a+1).toNat=a.toNat+1 by omega,<- TL,List.map_drop,this];rfl
def Uw {ts:Ts} {ws:List Bs} (h:isW ts ws=true):ts≠[]:=by rintro rfl;simp [isW,hd] at h
def Zh5 {ts:Ts} (h:ZM ts=true):ts≠[]:=by rintro rfl;simp [ZM,hd] at h
def ROK.tl {L:List Tok} {a:Int} {ts:Ts} (h:ROK L a ts) (hn:ts≠[]):ROK L (a+1) ts.tail:=by
 cases ts with
 | nil=>exact absurd rfl hn
 | cons t ts=>exact h.next
def ROK.get {L:List Tok} {a:Int} {t:T0} {ts:Ts} (h:ROK L a (t::ts)):∃x,L[a.toNat]?=some x/\x.t0=t/\∀en,Zc L en (ts.length+1)=x.at':=by
 have hl:=h.len;have h0:=h.lo;have h1:=h.eq;simp only [Te] at hl;have ab:a.toNat<L.length:=oM;refine ⟨L[a.toNat],Tb ab,?_,fun en=>?_⟩
 ·simp only [tz] at h1;rw [Tn ab] at h1;simp only [Tx,List.cons.injEq] at h1;exact h1.1
 unfold Zc
 rw [show L.length - (ts.length+1)=a.toNat by omega,Tn ab]
def ROK.none {L:List Tok} {a:Int} (h:ROK L a []):a=L.length:=by have:=h.len;simp at this;omega
def ZbP (L:List Tok) (en:Int):Zc L en 0=en:=by simp [Zc]
abbrev Pl:=Nat->Int
mutual
def ZQ (pl:Pl):Ex->List D
 | .mk op text n args a=>[.int .u8 op,.str text,.int .i64 n,.sl (Zm pl args),.int .i64 (pl a)]
def Zm (pl:Pl):List Ex->List (List D)
 | []=>[]
 | e::l=>ZQ pl e::Zm pl l
end
mutual
def Y5 (pl:Pl):Li->List D
 | .mk op rel args body a=>[.int .u8 op,.str rel,.sl (Zm pl args),.sl (Yf pl body),.int .i64 (pl a)]
def Yf (pl:Pl):List Li->List (List D)
 | []=>[]
 | e::l=>Y5 pl e::Yf pl l
end
def Zy (pl:Pl) (r:Ru):List D:=[.str r.head,.sl (Zm pl r.args),.sl (Yf pl r.body),.int .i64 (pl r.at')]
def Zk (f:Fi):List D:=[.str f.name,.str f.typ]
def Zt (c:Ca):List D:=[.str c.name,.sl (c.fields.map Zk)]
def Zs (pl:Pl) (t:Ty):List D:=[.int .u8 t.kind,.str t.name,.str t.base,.sl (t.fields.map Zk),.sl (t.cases.map Zt),.int .i64 (pl t.at')]
def ZF (pl:Pl) (r:Re):List D:=[.str r.name,.sl (r.fields.map Zk),.bool r.inn,.bool r.out,.bool r.inl,.int .i64 (pl r.at')]
def Yl (s:Bs):List D:=[.str s]
def Wb (pl:Pl) (i:Ini):List D:=[.str i.name,.str i.comp,.sl (i.types.map Yl),.int .i64 (pl i.at')]
def Wc (pl:Pl) (o:Ov):List D:=[.str o.rel,.int .i64 (pl o.at')]
mutual
def XV (pl:Pl):Un->List D
 | .mk tys rels rules comps inits overs=>[.sl (tys.map (Zs pl)),.sl (rels.map (ZF pl)),.sl (rules.map (Zy pl)),.sl (ZkW pl comps),.sl (inits.map (Wb pl)),.sl (overs.map (Wc pl))]
def XP (pl:Pl):Co->List D
 | .mk name params base types u a=>[.str name,.sl (params.map Yl),.str base,.sl (types.map Yl)]++XV pl u++[.int .i64 (pl a)]
def ZkW (pl:Pl):List Co->List (List D)
 | []=>[]
 | e::l=>XP pl e::ZkW pl l
end
def Zb (pl:Pl) (l:List Ex):Zm pl l=l.map (ZQ pl):=by induction l with | nil=>rfl | cons x l ih=>simp [Zm,ih]
def Zl (pl:Pl) (l:List Li):Yf pl l=l.map (Y5 pl):=by induction l with | nil=>rfl | cons x l ih=>simp [Yf,ih]
def YZ (pl:Pl) (l:List Co):ZkW pl l=l.map (XP pl):=by induction l with | nil=>rfl | cons x l ih=>simp [ZkW,ih]
abbrev Za8 (l:List D):PV:=.agg (l.map .d)
abbrev flt (L:List Tok) (en:Int) (r e:Nat):PV:=.iface 220 (.agg [.d (.int .i64 (Zc L en r)),.d (.int .i64 e)])
abbrev RK:=PEnd->Int->Int->Prop
def RKk {α:Type} (enc:α->PV) (L:List Tok) (en dp lo:Int) (x:R α) (K:RK):Prop:=match x with
 | .ok v ts'=>∀a',lo<=a'->ROK L a' ts'->K (.ret (enc v)) a' dp
 | .err r e=>∀a' dp',K (.panic (flt L en r e)) a' dp'
def Xo (body:List PV->List Tok->Int->Int->Int->Ts->RK->Prop):Zp:=fun args σ K=>match args,σ with
 | .ptr 0 0::rest,⟨[.cells t [.d (.sl rows),.d (.int .i64 a),.d (.int .i64 en),.d (.int .i64 dp)]],[],0⟩=>∃L ts,rows=ZR L/\ROK L a ts /\
   body rest L en dp a ts fun pe a' dp'=>K pe ⟨[.cells t [.d (.sl (ZR L)),.d (.int .i64 a'),.d (.int .i64 en),.d (.int .i64 dp')]],[],0⟩
 | _,_=>False
def Zpa {body:List PV->List Tok->Int->Int->Int->Ts->RK->Prop} (hb:∀rest L en dp a ts (K K':RK),(∀pe a d,K pe a d->K' pe a d)->body rest L en dp a ts K->body rest L en dp a ts K'):ZG (Xo body):=fun args σ K K' hK h=>by
 unfold Xo at h |-
 split at h
 ·obtain ⟨L,ts,h1,h2,h3⟩:=h;exact ⟨L,ts,h1,h2,hb _ _ _ _ _ _ _ _ (fun pe a d hk=>hK _ _ hk) h3⟩
 exact h.elim
def Ux:Zp:=fun args σ K=>match args,σ with
 | [.d (.str s)],⟨[],[],0⟩=>∀n:Int,(YJ s:Int)=n->K (.ret (.d (.int .u8 n))) ⟨[],[],0⟩
 | _,_=>False
def Zh6:Zp:=fun args σ K=>match args,σ with
 | [.d (.str s)],⟨[],[],0⟩=>∀b,ZmL s=b->K (.ret (.d (.bool b))) ⟨[],[],0⟩
 | _,_=>False
def Zet (s:Bs):Nat->List Bs->Int
 | _,[]=>-1
 | i,w::ws=>if s=w then i else Zet s (i+1) ws
def Zgz:Zp:=fun args σ K=>match args,σ with
 | [.d (.sl rows),.d (.str s)],⟨[],[],0⟩=>∃ws:List Bs,rows=ws.map Yl/\ws.length<=1048576/\K (.ret (.d (.int .i64 (Zet s 0 ws)))) ⟨[],[],0⟩
 | _,_=>False
def Za9:Zp:=fun args σ K=>match args,σ with
 | [.d (.sl rows),.d (.str s)],⟨[],[],0⟩=>∃ws:List Bs,rows=ws.map Yl/\ws.length<=1048576/\∀b,ws.contains s=b->K (.ret (.d (.bool b))) ⟨[],[],0⟩
 | _,_=>False
def Zal:Zp:=Xo fun rest L en dp a ts K=>match rest with
 | [.d (.int .i64 n)]=>∀fin,(n=0/\K (.ret (.agg [.d (.int .u8 (hd ts).kind),.d (.str (hd ts).text),.d (.int .i64 (hd ts).n),.d (.int .i64 (Zc L en ts.length)),.d (.int .i64 fin)])) a dp) \/
   (n=1/\K (.ret (.agg [.d (.int .u8 (hd ts.tail).kind),.d (.str (hd ts.tail).text),.d (.int .i64 (hd ts.tail).n),.d (.int .i64 (Zc L en ts.tail.length)),.d (.int .i64 fin)])) a dp)
 | _=>False
def Wz:Zp:=Xo fun rest L en dp a ts K=>match rest with
 | []=>K (.ret (.d (.int .i64 (Zc L en ts.length)))) a dp
 | _=>False
def Zh7:Zp:=Xo fun rest L en dp a ts K=>match rest with
 | [.d (.sl rows)]=>∃ws:List Bs,rows=ws.map Yl/\ws.length<=1048576/\∀b,isW ts ws=b->K (.ret (.d (.bool b))) a dp
 | _=>False
def JF (p:Ts->Bool):Zp:=Xo fun rest L en dp a ts K=>match rest with
 | []=>∀b,p ts=b->K (.ret (.d (.bool b))) a dp
 | _=>False
def YO:Zp:=Xo fun rest L en dp a ts K=>match rest with
 | [.d (.int .i64 e)]=>K (.panic (.iface 220 (.agg [.d (.int .i64 (Zc L en ts.length)),.d (.int .i64 e)]))) a dp
 | _=>False
def ZjG:ZG YO:=Zpa fun rest L en dp a ts K K' hK h=>by
 split at h
 ·exact hK _ _ _ h
 exact h.elim
def XZ:Zp:=Xo fun rest L en dp a ts K=>match rest with
 | [.d (.sl rows)]=>∃ws:List Bs,rows=ws.map Yl/\ws.length<=1048576/\(isW ts ws=true->ROK L (a+1) ts.tail->K (.ret (.d (.bool true))) (a+1) dp)/\(isW ts ws=false->K (.ret (.d (.bool false))) a dp)
 | _=>False
def ZkX:Zp:=Xo fun rest L en dp a ts K=>match rest with
 | [.d (.int .i64 n),.d (.int .i64 m)]=>(n=m->K (.panic (flt L en ts.length 3)) a dp)/\(n≠m->K (.ret (.tuple [])) (a+1) dp)
 | _=>False
def spR {α:Type} (enc:List Tok->Int->α->PV) (P:Ts->R α) (lo:Int):Zp:=Xo fun rest L en dp a ts K=>match rest with
 | []=>∀x,P ts=x->RKk (enc L en) L en dp (a+lo) x K
 | _=>False
def Xr:Zp:=Xo fun rest L en dp a ts K=>match rest with
 | [.d (.str w)]=>∀x,Z1 w ts=x->RKk (fun _=>.tuple []) L en dp (a+1) x K
 | _=>False
abbrev Xz:Zp:=spR (fun _ _ (v:Bs)=>.d (.str v)) XT 1
end Go.PM.Lex
end
end

section
namespace Go.PM.Lex
open Go.Proofs
variable {w0:World} {nG:Nat}
def Zba:PC w0 nG 189 Ux:=by
 refine pwe Tryz.func189 fun args σ K h=>?_
 unfold Ux at h
 split at h
 ·rename_i s
  refine pwu [] 0 false ?_
  repeat' ((conv=>whnf);refine ZEH (fun hc=>?_) (fun hc=>?_))
  all_goals (conv=>whnf)
  all_goals exact h _ (by simp [YJ, *])
 exact h.elim
def Zve:Tbl:=[(189,Ux)]
def ZjH:PC w0 nG 128 Zh6:=by
 refine pwt (tbl:=Zve) ⟨Zba,trivial⟩ Tryz.func128 fun args σ K h=>?_
 unfold Zh6 at h
 split at h
 ·rename_i s
  refine pwu [] 0 false ?_
  repeat' ((conv=>whnf);refine ZEH (fun hc=>?_) (fun hc=>?_))
  all_goals (conv=>whnf)
  all_goals first
   | contradiction
   | exact h _ (by subst_vars;decide)
   | skip
  intro n hn
  conv=>whnf
  refine h _ ?_;have hk:keptWords.contains s=false:=by
   have:¬s∈keptWords:=by
    simp only [keptWords,Tt,List.not_mem_nil,or_false,not_or]
    repeat' (first | assumption | refine ⟨by assumption,?_⟩)
   rw [Bool.eq_false_iff];intro g
   exact this (List.contains_iff_mem.1 g)
  rw [ZmL,hk,<- hn]
  by_cases h0:YJ s=0 <;> simp [h0]
 exact h.elim
def Zfh (s w:Bs) (i:Nat) (ws:List Bs):Zet s i (w::ws)=if s=w then (i:Int) else Zet s (i+1) ws:=rfl
def Zh8 (s:Bs):∀(ws:List Bs) (i:Nat),(0<=Zet s i ws)↔ws.contains s=true
 | [],i=>by simp [Zet]
 | w::ws,i=>by
  rw [Zfh];split
  ·rename_i h;subst h;simp
  rename_i h;rw [Zh8 s ws];simp [h]
def ZmR (s:Bs) (ws:List Bs) (i:Nat) (h:i<ws.length):Zet s i (ws.drop i)=if s=ws[i] then (i:Int) else Zet s (i+1) (ws.drop (i+1)):=by
 rw [Tn h,Zfh]
def Zpb:PC w0 nG 243 Zgz:=by
 refine pwe Tryz.func243 fun args σ K h=>?_
 unfold Zgz at h
 split at h
 ·rename_i rows s
  obtain ⟨ws,rfl,hw,h⟩:=h;refine pwv [(2,⟨[8],[0,1,7],fun vs σ=>∃i:Nat,vs=[.d (.int .i64 i)]/\σ=⟨[],[],0⟩/\i<=ws.length/\Zet s 0 ws=Zet s i (ws.drop i),mu1 ws.length⟩)] 0 false ?_;refine ⟨⟨0,rfl,rfl,oM,rfl⟩,?_⟩;intro vs σ hI
  obtain ⟨i,rfl,rfl,hi,hx⟩:=hI;(conv=>whnf);refine ZEH (fun hc=>wN ?_) (fun hc=>wN ?_)
  ·have hc:i<ws.length:=by have hc:(i:Int)<((ws.map Yl).length:Int):=hc;rw [Td] at hc;omega
   refine ⟨Yl ws[i],oM,by simp [hc],wN ?_⟩;rw [ZmR s ws i hc] at hx;refine ZEH (fun h1=>wN ?_) (fun h1=>wN ?_)
   ·rw [hx,Tj h1] at h;exact h
   rw [Tf h1] at hx;refine Zi ?_;refine ⟨⟨i+1,rfl,rfl,oM,hx⟩,?_⟩;exact lzM oM
  have hc:ws.length<=i:=by have hc:¬(i:Int)<((ws.map Yl).length:Int):=hc;rw [Td] at hc;omega
  rw [Tv hc] at hx;rw [hx] at h;exact h
 exact h.elim
def Zvf:Tbl:=[(243,Zgz)]
def ZjI:PC w0 nG 207 Za9:=by
 refine pwt (tbl:=Zvf) ⟨Zpb,trivial⟩ Tryz.func207 fun args σ K h=>?_
 unfold Za9 at h
 split at h
 ·rename_i rows s
  obtain ⟨ws,rfl,hw,h⟩:=h;refine pwv [] 0 false ?_;refine ⟨ws,rfl,hw,wN ?_⟩;exact h _ (by rw [Bool.eq_iff_iff,TQ,<- Zh8 s ws 0])
 exact h.elim
def JG:PC w0 nG 206 Zal:=by
 refine pwe Tryz.func206 fun args σ K h=>?_
 unfold Zal Xo at h
 split at h
 ·rename_i t rows a en dp
  obtain ⟨L,ts,rfl,ho,h⟩:=h;split at h
  ·rename_i n
   have hl:=ho.len;have h0:=ho.lo;have h1:=ho.hi;have h2:=ho.big;have hn:n=0\/n=1:=by rcases h 0 with g | g <;> simp [g.1]
   refine pwv [] 1 false ?_;refine Zi ?_;refine ZEH (fun hc=>?_) (fun hc=>wN ?_)
   ·have hc:a+n<L.length:=by have hc:a+n<((ZR L).length:Int):=hc;rw [XO] at hc;exact hc
    rcases hn with rfl | rfl
    ·cases ts with
     | nil=>simp at hl;omega
     | cons t0 ts =>
     obtain ⟨x,hx,rfl,hp⟩:=ho.get;(conv=>whnf);refine ⟨ZyY x,oM,by simp [ZR,hx],wN ?_⟩;have h:=h x.fin;rw [Te,hp] at h;rcases h with h | h
     ·exact h.2
     exact absurd h.1 oM
    cases ts with
    | nil=>simp at hl;omega
    | cons t1 ts =>
    cases ts with
    | nil=>simp at hl;omega
    | cons t0 ts =>
    obtain ⟨x,hx,rfl,hp⟩:=ho.next.get;(conv=>whnf);refine ⟨ZyY x,oM,by simp [ZR,hx],wN ?_⟩;have h:=h x.fin;simp only [List.tail_cons,Te,hp] at h;rcases h with h | h
    ·exact absurd h.1 oM
    exact h.2
   have hc:¬a+n<L.length:=by have hc:¬a+n<((ZR L).length:Int):=hc;rw [XO] at hc;exact hc
   have h:=h 0;rcases hn with rfl | rfl
   ·cases ts with
    | nil => rcases h with h | h
             ·have h:=h.2;simp only [Tg,ZbP] at h;exact h
             exact absurd h.1 oM
    | cons t0 ts=>simp at hl;omega
   have:ts.tail=[]:=by
    cases ts with
    | nil=>rfl
    | cons t1 ts=>cases ts with
     | nil=>rfl
     | cons t0 ts=>simp at hl;omega
   rw [this] at h;rcases h with h | h
   ·exact absurd h.1 oM
   have h:=h.2;simp only [Tg,ZbP] at h;exact h
  exact h.elim
 exact h.elim
def ZrV:OKw w0 nG [(206,Zal)] 158 Wz:=by
 refine pwo Tryz.func158 fun args σ K h=>?_
 unfold Wz Xo at h
 split at h
 ·rename_i rest t rows a en dp
  obtain ⟨L,ts,rfl,ho,h⟩:=h;split at h
  ·skip
   refine pwv [] 1 false ?_;refine ⟨L,ts,rfl,ho,fun fin=>Or.inl ⟨rfl,wN ?_⟩⟩;exact h
  exact h.elim
 exact h.elim
def ZCc:OKw w0 nG [(206,Zal),(207,Za9)] 153 Zh7:=by
 refine pwo Tryz.func153 fun args σ K h=>?_
 unfold Zh7 Xo at h
 split at h
 ·rename_i rest t rows a en dp
  obtain ⟨L,ts,rfl,ho,h⟩:=h;split at h
  ·rename_i rows
   obtain ⟨ws,rfl,hw,h⟩:=h;refine pwv [] 1 false ?_;refine ⟨L,ts,rfl,ho,fun fin=>Or.inl ⟨rfl,wN ?_⟩⟩;refine ZEH (fun h1=>wN ?_) (fun h1=>wN ?_)
   ·refine ⟨ws,rfl,hw,fun b hb=>wN ?_⟩;exact h _ (by simp only [isW,hb];simp [show (hd ts).kind=1 by omega])
   refine ZEH (fun h2=>wN ?_) (fun h2=>wN ?_)
   ·refine ⟨ws,rfl,hw,fun b hb=>wN ?_⟩;exact h _ (by simp only [isW,hb];simp [show (hd ts).kind=4 by omega])
   exact h _ (by simp [isW,show ¬(hd ts).kind=1 by omega,show ¬(hd ts).kind=4 by omega])
  exact h.elim
 exact h.elim
def ZrX:OKw w0 nG [(206,Zal),(128,Zh6)] 162 (JF ZM):=by
 refine pwo Tryz.func162 fun args σ K h=>?_
 unfold JF Xo at h
 split at h
 ·rename_i rest t rows a en dp
  obtain ⟨L,ts,rfl,ho,h⟩:=h;split at h
  ·skip
   refine pwv [] 1 false ?_;refine ⟨L,ts,rfl,ho,fun fin=>Or.inl ⟨rfl,wN ?_⟩⟩;refine ZEH (fun h1=>wN ?_) (fun h1=>wN ?_)
   ·refine ZEJ (fun h2=>wN ?_) (fun h2=>wN ?_)
    ·intro b hb
     conv=>whnf
     exact h _ (by simp only [ZM,hb];rw [Sg (show (hd ts).kind=1 by omega),decide_eq_false h2];simp)
    exact h _ (by simp only [ZM];rw [Sg (p:=(hd ts).text=[95]) h2];simp)
   exact h _ (by simp [ZM,show ¬(hd ts).kind=1 by omega])
  exact h.elim
 exact h.elim
def Zvh:OKw w0 nG [(158,Wz)] 152 YO:=by
 refine pwo Tryz.func152 fun args σ K h=>?_
 unfold YO Xo at h
 split at h
 ·rename_i rest t rows a en dp
  obtain ⟨L,ts,rfl,ho,h⟩:=h;split at h
  ·skip
   refine pwv [] 1 false ?_;refine ⟨L,ts,rfl,ho,wN ?_⟩;exact h
  exact h.elim
 exact h.elim
def Zvj:OKw w0 nG [(153,Zh7)] 208 XZ:=by
 refine pwo Tryz.func208 fun args σ K h=>?_
 unfold XZ Xo at h
 split at h
 ·rename_i rest t rows a en dp
  obtain ⟨L,ts,rfl,ho,h⟩:=h;split at h
  ·rename_i rows
   obtain ⟨ws,rfl,hw,h1,h2⟩:=h;refine pwv [] 1 false ?_;refine ⟨L,ts,rfl,ho,ws,rfl,hw,fun b hb=>?_⟩
   cases b with
   | true =>
    have aj:=ho.tl (Uw hb);have g1:=ho.lo;have g2:=aj.hi;have g3:=aj.big;(conv=>whnf);refine Zi ?_;exact h1 hb aj
   | false =>
   conv=>whnf
   exact h2 hb
  exact h.elim
 exact h.elim
def Zvl:OKw w0 nG [(208,XZ),(152,YO)] 160 Xr:=by
 refine pwo Tryz.func160 fun args σ K h=>?_
 unfold Xr Xo at h
 split at h
 ·rename_i rest t rows a en dp
  obtain ⟨L,ts,rfl,ho,h⟩:=h;split at h
  ·rename_i w
   refine pwv [] 1 false ?_;refine ⟨L,ts,rfl,ho,[w],rfl,sM,fun hb aj=>wN ?_,fun hb=>wN ?_⟩
   ·have h:=h _ rfl;rw [Z1,Tj hb] at h;exact h _ oM aj
   refine ⟨L,ts,rfl,ho,wN ?_⟩;have h:=h _ rfl;rw [Z1,Tf (by rw [hb];simp)] at h;exact h _ _
  exact h.elim
 exact h.elim
def Zvn:OKw w0 nG [(152,YO)] 154 ZkX:=by
 refine pwo Tryz.func154 fun args σ K h=>?_
 unfold ZkX Xo at h
 split at h
 ·rename_i rest t rows a en dp
  obtain ⟨L,ts,rfl,ho,h⟩:=h;split at h
  ·rename_i n m
   refine pwv [] 1 false ?_;have g1:=ho.lo;have g2:=ho.hi;have g3:=ho.big;refine ZEH (fun hc=>wN ?_) (fun hc=>wN ?_)
   ·refine ⟨L,ts,rfl,ho,wN ?_⟩;exact h.1 hc
   refine Zi ?_;exact h.2 hc
  exact h.elim
 exact h.elim
def ZrZ:OKw w0 nG [(162,(JF ZM)),(152,YO)] 159 Xz:=by
 refine pwo Tryz.func159 fun args σ K h=>?_
 unfold Xz spR Xo at h
 split at h
 ·rename_i rest t rows a en dp
  obtain ⟨L,ts,rfl,ho,h⟩:=h;split at h
  ·skip
   refine pwv [] 1 false ?_;have h:=h _ rfl;refine ⟨L,ts,rfl,ho,fun b hb=>?_⟩
   cases b with
   | true =>
    have aj:=ho.tl (Zh5 hb);have g1:=ho.lo;have g2:=aj.hi;have g3:=aj.big;rw [XT,Tj hb] at h;(conv=>whnf);refine Zi ?_;refine Zi ?_
    cases ts with
    | nil=>exact absurd rfl (Zh5 hb)
    | cons t0 ts =>
    obtain ⟨x,hx,rfl,hp⟩:=ho.get;refine ⟨ZyY x,oM,by rw [show a+1 - 1=a by omega];simp [ZR,hx],wN ?_⟩;exact h _ oM aj
   | false =>
   rw [XT,Tf (by rw [hb];simp)] at h;(conv=>whnf);exact mq73
  exact h.elim
 exact h.elim
def Zpd:OKw w0 nG [(206,Zal),(153,Zh7),(128,Zh6),(189,Ux)] 248 (JF Z0):=by
 refine pwo Tryz.func248 fun args σ K h=>?_
 unfold JF Xo at h
 split at h
 ·rename_i rest t rows a en dp
  obtain ⟨L,ts,rfl,ho,h⟩:=h;split at h
  ·skip
   refine pwv [] 1 false ?_;refine ⟨L,ts,rfl,ho,fun fin=>Or.inl ⟨rfl,wN ?_⟩⟩;refine ZEH (fun h1=>wN ?_) (fun h1=>wN ?_)
   ·refine ZEH (fun _=>wN ?_) (fun g=>absurd h1 g);exact h _ (by rw [Z0,Tj oM])
   refine ZEH (fun h2=>wN ?_) (fun h2=>wN ?_)
   ·exact h _ (by rw [Z0,Tj oM])
   refine ZEH (fun h3=>wN ?_) (fun h3=>wN ?_)
   ·refine ⟨L,ts,rfl,ho,[[45],[126],[40],[91],[36]],rfl,sM,fun b hb=>wN ?_⟩;exact h _ (by rw [Z0,Tf oM,Tj oM];exact hb)
   refine ZEH (fun h4=>wN ?_) (fun h4=>wN ?_)
   ·have e0:Z0 ts=(!ZmL (hd ts).text || (decide ((hd ts).text=[110,105,108]) || decide (YJ (hd ts).text≠0))):=by rw [Z0,Tf oM,Tf oM,Tj oM]
    rw [e0] at h;intro b hb
    rw [hb] at h
    cases b with
    | false => conv => whnf
               exact h _ rfl
    | true =>
    conv=>whnf
    refine ZEH (fun h5=>wN ?_) (fun h5=>wN ?_)
    ·exact h _ (by rw [Sg (p:=(hd ts).text=[110,105,108]) h5];rfl)
    intro n hn
    conv=>whnf
    exact h _ (by rw [decide_eq_false (p:=(hd ts).text=[110,105,108]) h5,<- hn];by_cases g:YJ (hd ts).text=0 <;> simp [g])
   exact h _ (by rw [Z0,Tf oM,Tf oM,Tf oM])
  exact h.elim
 exact h.elim
def Zr0:Zp:=Xo fun rest L en dp a ts K=>match rest with
 | []=>∀n k:Int,((Za6 ts).1:Int)=n->((Za6 ts).2:Int)=k->K (.ret (.tuple [.d (.int .i64 n),.d (.int .u8 k)])) a dp
 | _=>False
def Zpe:OKw w0 nG [(206,Zal)] 295 Zr0:=by
 refine pwo Tryz.func295 fun args σ K h=>?_
 unfold Zr0 Xo at h
 split at h
 ·rename_i rest t rows a en dp
  obtain ⟨L,ts,rfl,ho,h⟩:=h;split at h
  ·skip
   refine pwv [] 1 false ?_;refine ⟨L,ts,rfl,ho,fun fin=>Or.inl ⟨rfl,wN ?_⟩⟩;refine ZEJ (fun h1=>wN ?_) (fun h1=>?_)
   ·refine ZEJ (fun h2=>wN ?_) (fun h2=>?_)
    ·have e0:Za6 ts=(0,0):=by rw [Za6,Tj oM]
     exact h _ _ (by rw [e0];rfl) (by rw [e0];rfl)
    have hn:¬((hd ts).kind≠1/\(hd ts).kind≠4):=by omega
    clear h1 h2
    exact mq111
   have hn:¬((hd ts).kind≠1/\(hd ts).kind≠4):=by omega
   clear h1
   exact mq111
  exact h.elim
 exact h.elim
def Zpf (body:List PV->List Tok->Int->Int->Int->Ts->RK->Prop):Zp:=fun args σ K=>match args,σ with
 | .ptr 0 0::rest,⟨[.cells t0 [.ptr 1 0],.cells t [.d (.sl rows),.d (.int .i64 a),.d (.int .i64 en),.d (.int .i64 dp)]],[],0⟩=>∃L ts,rows=ZR L/\ROK L a ts /\
   body rest L en dp a ts fun pe a' dp'=>K pe ⟨[.cells t0 [.ptr 1 0],.cells t [.d (.sl (ZR L)),.d (.int .i64 a'),.d (.int .i64 en),.d (.int .i64 dp')]],[],0⟩
 | _,_=>False
def Zyy {α:Type} (enc:List Tok->Int->α->PV) (P:Ts->R α) (lo:Int):Zp:=Zpf fun rest L en dp a ts K=>match rest with
 | []=>∀x,P ts=x->RKk (enc L en) L en dp (a+lo) x K
 | _=>False
def ZkY (p:Ts->Bool):Zp:=Zpf fun rest L en dp a ts K=>match rest with
 | []=>∀b,p ts=b->K (.ret (.d (.bool b))) a dp
 | _=>False
def ZiV {α:Type} (enc:List Tok->Int->α->PV) (P:Ts->R α) (lo:Int) (d:Nat):Zp:=Xo fun rest L en dp a ts K=>match rest with
 | []=>(dp=64 - (d:Int)/\0<=dp)/\∀x,P ts=x->RKk (enc L en) L en dp (a+lo) x K
 | _=>False
def Zv {α β:Type} (f:α->β) (l:List α) (x:α):l.map f++[f x]=(l++[x]).map f:=sM
def Uy {α : Type} (sign : Bs) (ao : Nat) (st : Ts -> Bool) (one : Ts -> R α) (f : Nat) (l : List α) (ts : Ts) : Wx sign ao st one (f + 1) l ts = if st ts = true /\ l.length = ao then .err ts.length 3
      else (one ts).bind fun x ts=>if isW ts [sign]=true then Wx sign ao st one f (l++[x]) ts.tail else .ok (l++[x]) ts:=rfl
def JH:Zp:=fun args σ K=>match args,σ with
 | [.ptr 0 0,.d (.str sg),.d (.int .i64 m),.func g1 [.ptr 0 0] [],.func g2 [] [.ptr 1 0]],⟨[.cells t [.d (.sl rows),.d (.int .i64 a),.d (.int .i64 en),.d (.int .i64 dp)],.cells t0 [.ptr 0 0]],[],0⟩ =>
   (sg=[44]/\m=12/\g1=162/\g2=245)/\∃L ts,rows=ZR L/\ROK L a ts/\∀x,XU [44] 12 ZM Uv ts=x ->
    RKk (fun (l:List Fi)=>.d (.sl (l.map (Zk)))) L en dp a x fun pe a' dp'=>K pe ⟨[.cells t [.d (.sl (ZR L)),.d (.int .i64 a'),.d (.int .i64 en),.d (.int .i64 dp')],.cells t0 [.ptr 0 0]],[],0⟩
 | _,_=>False
def Zia:OKw w0 nG ([(162,(JF ZM)),(152,YO),(245,(Zyy (fun _ _ (v:Fi)=>Za8 (Zk v)) Uv 1)),(208,XZ)]) 244 (JH):=by
 refine pwo Tryz.func244 fun args σ K h=>?_
 unfold JH at h
 split at h
 ·rename_i sg m g1 g2 t rows a en dp t0
  obtain ⟨⟨rfl,rfl,rfl,rfl⟩,L,ts,rfl,ho,h⟩:=h;have h:=h _ rfl;have hl:=ho.len;have cx:=ho.big;have ld:=ho.lo;refine pwu [(2,⟨[11],[0,1,2,3,4],fun vs σ=>∃(l:List Fi) (a':Int) (ts':Ts) (f:Nat),vs=[.sl 0 73 (l.map (Zk))] /\
   σ=⟨[.cells t [.d (.sl (ZR L)),.d (.int .i64 a'),.d (.int .i64 en),.d (.int .i64 dp)],.cells t0 [.ptr 0 0]],[0],1⟩/\ROK L a' ts'/\a+l.length<=a'/\ts'.length<f /\
   XU [44] 12 ZM Uv ts=Wx [44] 12 ZM Uv f l ts',
   fun _ σ=>match σ with | ⟨.cells _ [_,.d (.int _ i),_,_]::_,_,_⟩=>((L.length:Int) - i).toNat | _=>0⟩)] 2 false ?_
  conv=>whnf
  refine ⟨⟨[],a,ts,ts.length+1,rfl,rfl,ho,sM,oM,rfl⟩,?_⟩;intro vs σ hI
  obtain ⟨l,a1,ts1,f,rfl,rfl,au,zy,hf,hm⟩:=hI;obtain ⟨f,rfl⟩:∃g,f=g+1:=⟨f - 1,oM⟩
  rw [Uy] at hm;have du:=au.len;have qh:=au.hi;(conv=>whnf);refine ⟨L,ts1,rfl,au,fun b hb=>?_⟩;have step:(¬(ZM ts1=true/\l.length=12))->XU [44] 12 ZM Uv ts=((Uv) ts1).bind fun x ts=>if isW ts [[44]]=true then Wx [44] 12 ZM Uv f (l++[x]) ts.tail else .ok (l++[x]) ts:=fun g=>by rw [hm,Tf g]
  cases b with
  | false =>
   have step:=step (by rw [hb];simp);(conv=>whnf);exact mq21
  | true =>
  conv=>whnf
  refine ZEH (fun hc=>wN ?_) (fun hc=>wN ?_)
  ·have hc:l.length=12:=by
    have hc:((l.map (Zk)).length:Int)=12:=hc;rw [Td] at hc;omega
   exact mq69
  have step:=step (fun g=>hc (by show ((l.map (Zk)).length:Int)=12;rw [Td,g.2];rfl));exact mq21
 exact h.elim
def Zdp:Zp:=fun args σ K=>match args,σ with
 | [.ptr 0 0,.d (.str sg),.d (.int .i64 m),.func g1 [.ptr 0 0] [],.func g2 [.ptr 0 0] []],⟨[.cells t [.d (.sl rows),.d (.int .i64 a),.d (.int .i64 en),.d (.int .i64 dp)]],[],0⟩ =>
   (sg=[44]/\m=12/\g1=162/\g2=159)/\∃L ts,rows=ZR L/\ROK L a ts/\∀x,XU [44] 12 ZM XT ts=x ->
    RKk (fun (l:List Bs)=>.d (.sl (l.map (Yl)))) L en dp a x fun pe a' dp'=>K pe ⟨[.cells t [.d (.sl (ZR L)),.d (.int .i64 a'),.d (.int .i64 en),.d (.int .i64 dp')]],[],0⟩
 | _,_=>False
def ZmT:OKw w0 nG ([(162,(JF ZM)),(152,YO),(159,Xz),(208,XZ)]) 214 (Zdp):=by
 refine pwo Tryz.func214 fun args σ K h=>?_
 unfold Zdp at h
 split at h
 ·rename_i sg m g1 g2 t rows a en dp
  obtain ⟨⟨rfl,rfl,rfl,rfl⟩,L,ts,rfl,ho,h⟩:=h;have h:=h _ rfl;have hl:=ho.len;have cx:=ho.big;have ld:=ho.lo;refine pwu [(2,⟨[11],[0,1,2,3,4],fun vs σ=>∃(l:List Bs) (a':Int) (ts':Ts) (f:Nat),vs=[.sl 0 9 (l.map (Yl))] /\
   σ=⟨[.cells t [.d (.sl (ZR L)),.d (.int .i64 a'),.d (.int .i64 en),.d (.int .i64 dp)]],[0],1⟩/\ROK L a' ts'/\a+l.length<=a'/\ts'.length<f /\
   XU [44] 12 ZM XT ts=Wx [44] 12 ZM XT f l ts',
   fun _ σ=>match σ with | ⟨.cells _ [_,.d (.int _ i),_,_]::_,_,_⟩=>((L.length:Int) - i).toNat | _=>0⟩)] 1 false ?_
  conv=>whnf
  refine ⟨⟨[],a,ts,ts.length+1,rfl,rfl,ho,sM,oM,rfl⟩,?_⟩;intro vs σ hI
  obtain ⟨l,a1,ts1,f,rfl,rfl,au,zy,hf,hm⟩:=hI;obtain ⟨f,rfl⟩:∃g,f=g+1:=⟨f - 1,oM⟩
  rw [Uy] at hm;have du:=au.len;have qh:=au.hi;(conv=>whnf);refine ⟨L,ts1,rfl,au,fun b hb=>?_⟩;have step:(¬(ZM ts1=true/\l.length=12))->XU [44] 12 ZM XT ts=((XT) ts1).bind fun x ts=>if isW ts [[44]]=true then Wx [44] 12 ZM XT f (l++[x]) ts.tail else .ok (l++[x]) ts:=fun g=>by rw [hm,Tf g]
  cases b with
  | false =>
   have step:=step (by rw [hb];simp);(conv=>whnf);exact mq22
  | true =>
  conv=>whnf
  refine ZEH (fun hc=>wN ?_) (fun hc=>wN ?_)
  ·have hc:l.length=12:=by
    have hc:((l.map (Yl)).length:Int)=12:=hc;rw [Td] at hc;omega
   exact mq69
  have step:=step (fun g=>hc (by show ((l.map (Yl)).length:Int)=12;rw [Td,g.2];rfl));exact mq22
 exact h.elim
def Zbb:Zp:=fun args σ K=>match args,σ with
 | [.ptr 0 0,.d (.str sg),.d (.int .i64 m),.func g1 [.ptr 0 0] [],.func g2 [] [.ptr 1 0]],⟨[.cells t [.d (.sl rows),.d (.int .i64 a),.d (.int .i64 en),.d (.int .i64 dp)],.cells t0 [.ptr 0 0]],[],0⟩ =>
   (sg=[124]/\m=64/\g1=162/\g2=211)/\∃L ts,rows=ZR L/\ROK L a ts/\∀x,XU [124] 64 ZM Zdi ts=x ->
    RKk (fun (l:List Ca)=>.d (.sl (l.map (Zt)))) L en dp a x fun pe a' dp'=>K pe ⟨[.cells t [.d (.sl (ZR L)),.d (.int .i64 a'),.d (.int .i64 en),.d (.int .i64 dp')],.cells t0 [.ptr 0 0]],[],0⟩
 | _,_=>False
def ZjK:OKw w0 nG ([(162,(JF ZM)),(152,YO),(211,(Zyy (fun _ _ (v:Ca)=>Za8 (Zt v)) Zdi 1)),(208,XZ)]) 210 (Zbb):=by
 refine pwo Tryz.func210 fun args σ K h=>?_
 unfold Zbb at h
 split at h
 ·rename_i sg m g1 g2 t rows a en dp t0
  obtain ⟨⟨rfl,rfl,rfl,rfl⟩,L,ts,rfl,ho,h⟩:=h;have h:=h _ rfl;have hl:=ho.len;have cx:=ho.big;have ld:=ho.lo;refine pwu [(2,⟨[11],[0,1,2,3,4],fun vs σ=>∃(l:List Ca) (a':Int) (ts':Ts) (f:Nat),vs=[.sl 0 49 (l.map (Zt))] /\
   σ=⟨[.cells t [.d (.sl (ZR L)),.d (.int .i64 a'),.d (.int .i64 en),.d (.int .i64 dp)],.cells t0 [.ptr 0 0]],[0],1⟩/\ROK L a' ts'/\a+l.length<=a'/\ts'.length<f /\
   XU [124] 64 ZM Zdi ts=Wx [124] 64 ZM Zdi f l ts',
   fun _ σ=>match σ with | ⟨.cells _ [_,.d (.int _ i),_,_]::_,_,_⟩=>((L.length:Int) - i).toNat | _=>0⟩)] 2 false ?_
  conv=>whnf
  refine ⟨⟨[],a,ts,ts.length+1,rfl,rfl,ho,sM,oM,rfl⟩,?_⟩;intro vs σ hI
  obtain ⟨l,a1,ts1,f,rfl,rfl,au,zy,hf,hm⟩:=hI;obtain ⟨f,rfl⟩:∃g,f=g+1:=⟨f - 1,oM⟩
  rw [Uy] at hm;have du:=au.len;have qh:=au.hi;(conv=>whnf);refine ⟨L,ts1,rfl,au,fun b hb=>?_⟩;have step:(¬(ZM ts1=true/\l.length=64))->XU [124] 64 ZM Zdi ts=((Zdi) ts1).bind fun x ts=>if isW ts [[124]]=true then Wx [124] 64 ZM Zdi f (l++[x]) ts.tail else .ok (l++[x]) ts:=fun g=>by rw [hm,Tf g]
  cases b with
  | false =>
   have step:=step (by rw [hb];simp);(conv=>whnf);exact mq20
  | true =>
  conv=>whnf
  refine ZEH (fun hc=>wN ?_) (fun hc=>wN ?_)
  ·have hc:l.length=64:=by
    have hc:((l.map (Zt)).length:Int)=64:=hc;rw [Td] at hc;omega
   exact mq69
  have step:=step (fun g=>hc (by show ((l.map (Zt)).length:Int)=64;rw [Td,g.2];rfl));exact mq20
 exact h.elim
def Zam (d:Nat):Zp:=fun args σ K=>match args,σ with
 | [.ptr 0 0,.d (.str sg),.d (.int .i64 m),.func g1 [.ptr 0 0] [],.func g2 [.ptr 0 0] []],⟨[.cells t [.d (.sl rows),.d (.int .i64 a),.d (.int .i64 en),.d (.int .i64 dp)]],[],0⟩ =>
   (sg=[44]/\m=12/\g1=248/\g2=249/\(dp=64 - (d:Int)/\0<=dp))/\∃L ts,rows=ZR L/\ROK L a ts/\∀x,XU [44] 12 Z0 (Zaj d) ts=x ->
    RKk (fun (l:List Ex)=>.d (.sl (l.map (ZQ (Zc L en))))) L en dp a x fun pe a' dp'=>K pe ⟨[.cells t [.d (.sl (ZR L)),.d (.int .i64 a'),.d (.int .i64 en),.d (.int .i64 dp')]],[],0⟩
 | _,_=>False
def Zph (d:Nat):OKw w0 nG [(248,(JF Z0)),(152,YO),(249,(ZiV (fun L en (v:Ex)=>Za8 (ZQ (Zc L en) v)) (Zaj d) 0 d)),(208,XZ)] 247 (Zam d):=by
 refine pwo Tryz.func247 fun args σ K h=>?_
 unfold Zam at h
 split at h
 ·rename_i sg m g1 g2 t rows a en dp
  obtain ⟨⟨rfl,rfl,rfl,rfl,ey⟩,L,ts,rfl,ho,h⟩:=h;have h:=h _ rfl;have hl:=ho.len;have cx:=ho.big;have ld:=ho.lo;refine pwu [(2,⟨[11],[0,1,2,3,4],fun vs σ=>∃(l:List Ex) (a':Int) (ts':Ts) (f:Nat),vs=[.sl 0 55 (l.map (ZQ (Zc L en)))] /\
   σ=⟨[.cells t [.d (.sl (ZR L)),.d (.int .i64 a'),.d (.int .i64 en),.d (.int .i64 dp)]],[0],1⟩/\ROK L a' ts'/\a+l.length<=a'/\ts'.length<f /\
   XU [44] 12 Z0 (Zaj d) ts=Wx [44] 12 Z0 (Zaj d) f l ts',
   fun _ σ=>match σ with | ⟨.cells _ [_,.d (.int _ i),_,_]::_,_,_⟩=>((L.length:Int) - i).toNat | _=>0⟩)] 1 false ?_
  conv=>whnf
  refine ⟨⟨[],a,ts,ts.length+1,rfl,rfl,ho,sM,oM,rfl⟩,?_⟩;intro vs σ hI
  obtain ⟨l,a1,ts1,f,rfl,rfl,au,zy,hf,hm⟩:=hI;obtain ⟨f,rfl⟩:∃g,f=g+1:=⟨f - 1,oM⟩
  rw [Uy] at hm;have du:=au.len;have qh:=au.hi;(conv=>whnf);refine ⟨L,ts1,rfl,au,fun b hb=>?_⟩;have step:(¬(Z0 ts1=true/\l.length=12))->XU [44] 12 Z0 (Zaj d) ts=(((Zaj d)) ts1).bind fun x ts=>if isW ts [[44]]=true then Wx [44] 12 Z0 (Zaj d) f (l++[x]) ts.tail else .ok (l++[x]) ts:=fun g=>by rw [hm,Tf g]
  cases b with
  | false =>
   have step:=step (by rw [hb];simp);(conv=>whnf);exact mq18
  | true =>
  conv=>whnf
  refine ZEH (fun hc=>wN ?_) (fun hc=>wN ?_)
  ·have hc:l.length=12:=by
    have hc:((l.map (ZQ (Zc L en))).length:Int)=12:=hc;rw [Td] at hc;omega
   exact mq69
  have step:=step (fun g=>hc (by show ((l.map (ZQ (Zc L en))).length:Int)=12;rw [Td,g.2];rfl));exact mq18
 exact h.elim
def ZgA (d:Nat):Zp:=fun args σ K=>match args,σ with
 | [.ptr 0 0,.d (.str sg),.d (.int .i64 m),.func g1 [] [.ptr 1 0],.func g2 [.ptr 0 0] []],⟨[.cells t [.d (.sl rows),.d (.int .i64 a),.d (.int .i64 en),.d (.int .i64 dp)],.cells t0 [.ptr 0 0]],[],0⟩ =>
   (sg=[44]/\m=32/\g1=251/\g2=252/\(dp=64 - (d:Int)/\0<=dp))/\∃L ts,rows=ZR L/\ROK L a ts/\∀x,XU [44] 32 Ya (ZmN d (Zer d)) ts=x ->
    RKk (fun (l:List Li)=>.d (.sl (l.map (Y5 (Zc L en))))) L en dp a x fun pe a' dp'=>K pe ⟨[.cells t [.d (.sl (ZR L)),.d (.int .i64 a'),.d (.int .i64 en),.d (.int .i64 dp')],.cells t0 [.ptr 0 0]],[],0⟩
 | _,_=>False
def Zpj (d:Nat):OKw w0 nG [(251,(ZkY Ya)),(152,YO),(252,(ZiV (fun L en (v:Li)=>Za8 (Y5 (Zc L en) v)) (ZmN d (Zer d)) 0 d)),(208,XZ)] 250 (ZgA d):=by
 refine pwo Tryz.func250 fun args σ K h=>?_
 unfold ZgA at h
 split at h
 ·rename_i sg m g1 g2 t rows a en dp t0
  obtain ⟨⟨rfl,rfl,rfl,rfl,ey⟩,L,ts,rfl,ho,h⟩:=h;have h:=h _ rfl;have hl:=ho.len;have cx:=ho.big;have ld:=ho.lo;refine pwu [(2,⟨[11],[0,1,2,3,4],fun vs σ=>∃(l:List Li) (a':Int) (ts':Ts) (f:Nat),vs=[.sl 0 57 (l.map (Y5 (Zc L en)))] /\
   σ=⟨[.cells t [.d (.sl (ZR L)),.d (.int .i64 a'),.d (.int .i64 en),.d (.int .i64 dp)],.cells t0 [.ptr 0 0]],[0],1⟩/\ROK L a' ts'/\a+l.length<=a'/\ts'.length<f /\
   XU [44] 32 Ya (ZmN d (Zer d)) ts=Wx [44] 32 Ya (ZmN d (Zer d)) f l ts',
   fun _ σ=>match σ with | ⟨.cells _ [_,.d (.int _ i),_,_]::_,_,_⟩=>((L.length:Int) - i).toNat | _=>0⟩)] 2 false ?_
  conv=>whnf
  refine ⟨⟨[],a,ts,ts.length+1,rfl,rfl,ho,sM,oM,rfl⟩,?_⟩;intro vs σ hI
  obtain ⟨l,a1,ts1,f,rfl,rfl,au,zy,hf,hm⟩:=hI;obtain ⟨f,rfl⟩:∃g,f=g+1:=⟨f - 1,oM⟩
  rw [Uy] at hm;have du:=au.len;have qh:=au.hi;(conv=>whnf);refine ⟨L,ts1,rfl,au,fun b hb=>?_⟩;have step:(¬(Ya ts1=true/\l.length=32))->XU [44] 32 Ya (ZmN d (Zer d)) ts=(((ZmN d (Zer d))) ts1).bind fun x ts=>if isW ts [[44]]=true then Wx [44] 32 Ya (ZmN d (Zer d)) f (l++[x]) ts.tail else .ok (l++[x]) ts:=fun g=>by rw [hm,Tf g]
  cases b with
  | false =>
   have step:=step (by rw [hb];simp);(conv=>whnf);exact mq17
  | true =>
  conv=>whnf
  refine ZEH (fun hc=>wN ?_) (fun hc=>wN ?_)
  ·have hc:l.length=32:=by
    have hc:((l.map (Y5 (Zc L en))).length:Int)=32:=hc;rw [Td] at hc;omega
   exact mq69
  have step:=step (fun g=>hc (by show ((l.map (Y5 (Zc L en))).length:Int)=32;rw [Td,g.2];rfl));exact mq17
 exact h.elim
abbrev ZgB:Zp:=Zyy (fun _ _ (v:Fi)=>Za8 (Zk v)) Uv 1
abbrev ZjL:Zp:=Zyy (fun _ _ (v:Ca)=>Za8 (Zt v)) Zdi 1
def UV:Zp:=Xo fun rest L en dp a ts K=>match rest with
 | [.d (.str w)]=>∀x,Za7 w ts=x->RKk (fun (v:List Fi)=>.d (.sl (v.map Zk))) L en dp a x K
 | _=>False
abbrev Zdq:Zp:=spR (fun _ _ (v:List Bs)=>.d (.sl (v.map Yl))) Zfg 0
abbrev ZgC:Zp:=spR (fun L en (v:Ty)=>Za8 (Zs (Zc L en) v)) Zh3 0
abbrev ZkZ:Zp:=spR (fun L en (v:Re)=>Za8 (ZF (Zc L en) v)) Zo1 0
def Zpl:OKw w0 nG [(159,Xz),(160,Xr)] 245 ZgB:=by
 refine pwo Tryz.func245 fun args σ K h=>?_
 unfold ZgB Zyy Zpf at h
 split at h
 ·rename_i rest t0 t rows a en dp
  obtain ⟨L,ts,rfl,ho,h⟩:=h;split at h
  ·skip
   have h0:=ho.lo;have h1:=ho.hi;have h2:=ho.big;refine pwv [] 2 false ?_;have h:=h _ rfl;unfold Uv at h
   refine ⟨L,ts,rfl,ho,fun x dm=>?_⟩;rcases x with ⟨v1,ts1⟩ | ⟨r1,e1⟩
   rotate_left
   ·exact mq50
   rw [dm,R.bind_ok] at h;intro a1 eb au
   have co:=au.hi;(conv=>whnf);refine ⟨L,ts1,rfl,au,fun x ca=>?_⟩;exact mq166
  exact h.elim
 exact h.elim
def Zpn:OKw w0 nG [(153,Zh7),(244,JH)] 209 UV:=by
 refine pwo Tryz.func209 fun args σ K h=>?_
 unfold UV Xo at h
 split at h
 ·rename_i rest t rows a en dp
  obtain ⟨L,ts,rfl,ho,h⟩:=h;split at h
  ·rename_i w
   have h0:=ho.lo;have h1:=ho.hi;have h2:=ho.big;refine pwv [] 1 false ?_;have h:=h _ rfl;unfold Za7 at h
   refine ⟨L,ts,rfl,ho,[w],rfl,sM,fun b1 eg=>?_⟩
   cases b1 with
   | true =>
    rw [Tj eg] at h;(conv=>whnf);exact h _ oM ho
   | false =>
   rw [Tf (by rw [eg];simp)] at h;(conv=>whnf);refine ⟨⟨rfl,rfl,rfl,rfl⟩,L,ts,rfl,ho,fun x ca=>?_⟩;rcases x with ⟨v2,ts2⟩ | ⟨r2,e2⟩
   rotate_left
   ·rw [ca] at h;intro a9 d9;(conv=>whnf);exact h _ _
   rw [ca] at h;intro a2 fu aj
   have f6:=aj.hi;(conv=>whnf);exact h _ oM aj
  exact h.elim
 exact h.elim
def Zr2:OKw w0 nG [(208,XZ),(214,Zdp),(160,Xr)] 161 Zdq:=by
 refine pwo Tryz.func161 fun args σ K h=>?_
 unfold Zdq spR Xo at h
 split at h
 ·rename_i rest t rows a en dp
  obtain ⟨L,ts,rfl,ho,h⟩:=h;split at h
  ·skip
   have h0:=ho.lo;have h1:=ho.hi;have h2:=ho.big;refine pwv [] 1 false ?_;have h:=h _ rfl;unfold Zfg at h
   refine ⟨L,ts,rfl,ho,[[60]],rfl,sM,fun eg au=>wN ?_,fun eg=>wN ?_⟩
   ·rw [Tj eg] at h;have co:=au.hi;refine ⟨⟨rfl,rfl,rfl,rfl⟩,L,ts.tail,rfl,au,fun x ca=>?_⟩;exact mq166
   rw [Tf (by rw [eg];simp)] at h;exact h _ oM ho
  exact h.elim
 exact h.elim
def Zr4:OKw w0 nG [(159,Xz),(160,Xr),(209,UV)] 211 ZjL:=by
 refine pwo Tryz.func211 fun args σ K h=>?_
 unfold ZjL Zyy Zpf at h
 split at h
 ·rename_i rest t0 t rows a en dp
  obtain ⟨L,ts,rfl,ho,h⟩:=h;split at h
  ·skip
   have h0:=ho.lo;have h1:=ho.hi;have h2:=ho.big;refine pwv [] 2 false ?_;have h:=h _ rfl;unfold Zdi at h
   refine ⟨L,ts,rfl,ho,fun x dm=>?_⟩;rcases x with ⟨v1,ts1⟩ | ⟨r1,e1⟩
   rotate_left
   ·exact mq50
   rw [dm,R.bind_ok] at h;intro a1 eb au
   have co:=au.hi;(conv=>whnf);refine ⟨L,ts1,rfl,au,fun x ca=>?_⟩;rcases x with ⟨v2,ts2⟩ | ⟨r2,e2⟩
   rotate_left
   ·exact mq44
   rw [ca,R.bind_ok] at h;intro a2 fu aj
   have f6:=aj.hi;(conv=>whnf);refine ⟨L,ts2,rfl,aj,fun x ek=>?_⟩;rcases x with ⟨v3,ts3⟩ | ⟨r3,e3⟩
   rotate_left
   ·exact mq19
   rw [ek,R.bind_ok] at h;intro a3 f9 bq
   have ju:=bq.hi;(conv=>whnf);refine ⟨L,ts3,rfl,bq,fun x mc=>?_⟩;rcases x with ⟨v4,ts4⟩ | ⟨r4,e4⟩
   rotate_left
   ·exact mq100
   rw [mc,R.bind_ok] at h;intro a4 mt f5
   have rm:=f5.hi;(conv=>whnf);exact h _ oM f5
  exact h.elim
 exact h.elim
def Zr6:OKw w0 nG [(158,Wz),(159,Xz),(208,XZ),(160,Xr),(209,UV),(210,Zbb)] 155 ZgC:=by
 refine pwo Tryz.func155 fun args σ K h=>?_
 unfold ZgC spR Xo at h
 split at h
 ·rename_i rest t rows a en dp
  obtain ⟨L,ts,rfl,ho,h⟩:=h;split at h
  ·skip
   have h0:=ho.lo;have h1:=ho.hi;have h2:=ho.big;refine pwv [] 1 false ?_;have h:=h _ rfl;unfold Zh3 at h
   refine ⟨L,ts,rfl,ho,wN ?_⟩;refine ⟨L,ts,rfl,ho,fun x dm=>?_⟩;rcases x with ⟨v1,ts1⟩ | ⟨r1,e1⟩
   rotate_left
   ·exact mq50
   rw [dm,R.bind_ok] at h;intro a1 eb au
   have co:=au.hi;(conv=>whnf);refine ⟨L,ts1,rfl,au,[[60,58]],rfl,sM,fun pa aj=>wN ?_,fun pa=>wN ?_⟩
   ·rw [Tj pa] at h;have f6:=aj.hi;refine ⟨L,ts1.tail,rfl,aj,fun x ek=>?_⟩;rcases x with ⟨v3,ts3⟩ | ⟨r3,e3⟩
    rotate_left
    ·exact mq19
    exact mq107
   rw [Tf (by rw [pa];simp)] at h;refine ⟨L,ts1,rfl,au,fun x ek=>?_⟩;rcases x with ⟨v3,ts3⟩ | ⟨r3,e3⟩
   rotate_left
   ·exact mq19
   rw [ek,R.bind_ok] at h;intro a3 f9 bq
   have ju:=bq.hi;(conv=>whnf);refine ⟨L,ts3,rfl,bq,[[91]],rfl,sM,fun o5 f5=>wN ?_,fun o5=>wN ?_⟩
   ·rw [Tj o5] at h;have rm:=f5.hi;refine ⟨L,ts3.tail,rfl,f5,fun x kp=>?_⟩;rcases x with ⟨v5,ts5⟩ | ⟨r5,e5⟩
    rotate_left
    ·exact mq43
    rw [kp,R.bind_ok] at h;intro a5 lw gg
    have uf:=gg.hi;(conv=>whnf);refine ⟨L,ts5,rfl,gg,fun x qi=>?_⟩;rcases x with ⟨v6,ts6⟩ | ⟨r6,e6⟩
    rotate_left
    ·rw [qi,R.bind_err] at h;intro a9 d9;(conv=>whnf);exact h _ _
    rw [qi,R.bind_ok] at h;intro a6 xm nh
    have hb6:=nh.hi;(conv=>whnf);exact h _ oM nh
   rw [Tf (by rw [o5];simp)] at h;refine ⟨⟨rfl,rfl,rfl,rfl⟩,L,ts3,rfl,bq,fun x kp=>?_⟩;rcases x with ⟨v5,ts5⟩ | ⟨r5,e5⟩
   rotate_left
   ·exact mq43
   rw [kp,R.bind_ok] at h;intro a5 lw gg
   have uf:=gg.hi;(conv=>whnf);exact h _ oM gg
  exact h.elim
 exact h.elim
def J0 (i o n:Bool):Nat:=(match i with | true=>0 | false=>1)+(match o with | true=>0 | false=>1)+(match n with | true=>0 | false=>1)
def ZmU (f : Nat) (i o n : Bool) (ts : Ts) : Y4 (f + 1) i o n ts = if i = false /\ isW ts [[105, 110, 112, 117, 116]] = true then Y4 f true o n ts.tail
      else if o=false/\isW ts [[111,117,116,112,117,116]]=true then Y4 f i true n ts.tail
      else if n=false/\isW ts [[105,110,108,105,110,101]]=true then Y4 f i o true ts.tail
      else ((i,o,n),ts):=rfl
def Zvp:OKw w0 nG [(158,Wz),(159,Xz),(208,XZ),(160,Xr),(209,UV)] 156 ZkZ:=by
 refine pwo Tryz.func156 fun args σ K h=>?_
 unfold ZkZ spR Xo at h
 split at h
 ·rename_i rest t rows a en dp
  obtain ⟨L,ts,rfl,ho,h⟩:=h;split at h
  ·skip
   have h0:=ho.lo;have h1:=ho.hi;have h2:=ho.big;refine pwv [(7,⟨[],[0,2,3],fun vs σ=>∃(nm:Bs) (l:List Fi) (a5:Int) (ts5:Ts) (i o n:Bool) (a':Int) (ts':Ts) (f:Nat),vs=[]/\σ=⟨[.cells t [.d (.sl (ZR L)),.d (.int .i64 a'),.d (.int .i64 en),.d (.int .i64 dp)],.cells 51 [.d (.str []),.sl 0 73 [],.d (.bool false),.d (.bool false),.d (.bool false),.d (.int .i64 0)],.cells 51 [.d (.str nm),.d (.sl (l.map Zk)),.d (.bool i),.d (.bool o),.d (.bool n),.d (.int .i64 (Zc L en ts.length))]],[0],1⟩/\ROK L a' ts'/\a<=a'/\J0 i o n<f/\RKk (fun (v:Re)=>Za8 (ZF (Zc L en) v)) L en dp (a+0) (R.ok ⟨nm,l,(Y4 f i o n ts').1.1,(Y4 f i o n ts').1.2.1,(Y4 f i o n ts').1.2.2,ts.length⟩ (Y4 f i o n ts').2) (fun pe a' dp'=>K pe ⟨[.cells t [.d (.sl (ZR L)),.d (.int .i64 a'),.d (.int .i64 en),.d (.int .i64 dp')]],[],0⟩),fun _ σ=>match σ with | ⟨[_,_,.cells _ [_,_,.d (.bool i),.d (.bool o),.d (.bool n),_]],_,_⟩=>J0 i o n | _=>0⟩)] 1 false ?_;have h:=h _ rfl;unfold Zo1 at h
   refine ⟨L,ts,rfl,ho,wN ?_⟩;refine ⟨L,ts,rfl,ho,fun x dm=>?_⟩;rcases x with ⟨v1,ts1⟩ | ⟨r1,e1⟩
   rotate_left
   ·exact mq50
   rw [dm,R.bind_ok] at h;intro a1 eb au
   have co:=au.hi;(conv=>whnf);refine ⟨L,ts1,rfl,au,fun x ca=>?_⟩;rcases x with ⟨v2,ts2⟩ | ⟨r2,e2⟩
   rotate_left
   ·exact mq44
   rw [ca,R.bind_ok] at h;intro a2 fu aj
   have f6:=aj.hi;(conv=>whnf);refine ⟨L,ts2,rfl,aj,fun x ek=>?_⟩;rcases x with ⟨v3,ts3⟩ | ⟨r3,e3⟩
   rotate_left
   ·exact mq19
   rw [ek,R.bind_ok] at h;intro a3 f9 bq
   have ju:=bq.hi;(conv=>whnf);refine ⟨L,ts3,rfl,bq,fun x mc=>?_⟩;rcases x with ⟨v4,ts4⟩ | ⟨r4,e4⟩
   rotate_left
   ·exact mq100
   rw [mc,R.bind_ok] at h;intro a4 mt f5
   have rm:=f5.hi;(conv=>whnf);refine ⟨⟨v1,v3,a4,ts4,false,false,false,a4,ts4,4,rfl,rfl,f5,oM,dM,h⟩,?_⟩
   clear h dm ca ek mc au aj bq f5 co f6 ju rm eb fu f9 mt
   intro vs σ hI
   obtain ⟨nm,l,a5,ts5,i,o,n,a',ts',f,rfl,rfl,ct,ak,hf,h⟩:=hI;obtain ⟨f,rfl⟩:∃g,f=g+1:=⟨f - 1,oM⟩
   rw [ZmU] at h;have qn:=ct.hi;(conv=>whnf)
   cases i with
   | true =>
    rw [Tf sM] at h;(conv=>whnf)
    cases o with
    | true =>
     rw [Tf sM] at h;(conv=>whnf)
     cases n with
     | true =>
      exact mq142
     | false =>
     conv=>whnf
     refine ⟨L,ts',rfl,ct,[[105,110,108,105,110,101]],rfl,sM,fun ga gh=>wN ?_,fun ga=>wN ?_⟩
     ·rw [Tj ⟨rfl,ga⟩] at h;have rn:=gh.hi;refine ⟨⟨nm,l,a5,ts5,true,true,true,a'+1,ts'.tail,f,rfl,rfl,gh,oM,?_,h⟩,?_⟩
      ·(simp only [J0] at hf |-;omega)
      show J0 true true true<J0 true true false
      (simp only [J0];omega)
     exact mq137
    | false =>
    conv=>whnf
    refine ⟨L,ts',rfl,ct,[[111,117,116,112,117,116]],rfl,sM,fun ga gh=>wN ?_,fun ga=>wN ?_⟩
    ·rw [Tj ⟨rfl,ga⟩] at h;have rn:=gh.hi;refine ⟨⟨nm,l,a5,ts5,true,true,n,a'+1,ts'.tail,f,rfl,rfl,gh,oM,?_,h⟩,?_⟩
     ·cases n <;> (simp only [J0] at hf |-;omega)
     show J0 true true n<J0 true false n
     cases n <;> (simp only [J0];omega)
    rw [Tf (by rw [ga];simp)] at h
    cases n with
    | true =>
     exact mq142
    | false =>
    conv=>whnf
    refine ⟨L,ts',rfl,ct,[[105,110,108,105,110,101]],rfl,sM,fun ga gh=>wN ?_,fun ga=>wN ?_⟩
    ·rw [Tj ⟨rfl,ga⟩] at h;have rn:=gh.hi;refine ⟨⟨nm,l,a5,ts5,true,false,true,a'+1,ts'.tail,f,rfl,rfl,gh,oM,?_,h⟩,?_⟩
     ·(simp only [J0] at hf |-;omega)
     show J0 true false true<J0 true false false
     (simp only [J0];omega)
    exact mq137
   | false =>
   conv=>whnf
   refine ⟨L,ts',rfl,ct,[[105,110,112,117,116]],rfl,sM,fun ga gh=>wN ?_,fun ga=>wN ?_⟩
   ·rw [Tj ⟨rfl,ga⟩] at h;have rn:=gh.hi;refine ⟨⟨nm,l,a5,ts5,true,o,n,a'+1,ts'.tail,f,rfl,rfl,gh,oM,?_,h⟩,?_⟩
    ·cases o <;> cases n <;> (simp only [J0] at hf |-;omega)
    show J0 true o n<J0 false o n
    cases o <;> cases n <;> (simp only [J0];omega)
   rw [Tf (by rw [ga];simp)] at h
   cases o with
   | true =>
    rw [Tf sM] at h;(conv=>whnf)
    cases n with
    | true =>
     exact mq142
    | false =>
    conv=>whnf
    refine ⟨L,ts',rfl,ct,[[105,110,108,105,110,101]],rfl,sM,fun ga gh=>wN ?_,fun ga=>wN ?_⟩
    ·rw [Tj ⟨rfl,ga⟩] at h;have rn:=gh.hi;refine ⟨⟨nm,l,a5,ts5,false,true,true,a'+1,ts'.tail,f,rfl,rfl,gh,oM,?_,h⟩,?_⟩
     ·(simp only [J0] at hf |-;omega)
     show J0 false true true<J0 false true false
     (simp only [J0];omega)
    exact mq137
   | false =>
   conv=>whnf
   refine ⟨L,ts',rfl,ct,[[111,117,116,112,117,116]],rfl,sM,fun ga gh=>wN ?_,fun ga=>wN ?_⟩
   ·rw [Tj ⟨rfl,ga⟩] at h;have rn:=gh.hi;refine ⟨⟨nm,l,a5,ts5,false,true,n,a'+1,ts'.tail,f,rfl,rfl,gh,oM,?_,h⟩,?_⟩
    ·cases n <;> (simp only [J0] at hf |-;omega)
    show J0 false true n<J0 false false n
    cases n <;> (simp only [J0];omega)
   rw [Tf (by rw [ga];simp)] at h
   cases n with
   | true =>
    exact mq142
   | false =>
   conv=>whnf
   refine ⟨L,ts',rfl,ct,[[105,110,108,105,110,101]],rfl,sM,fun ga gh=>wN ?_,fun ga=>wN ?_⟩
   ·rw [Tj ⟨rfl,ga⟩] at h;have rn:=gh.hi;refine ⟨⟨nm,l,a5,ts5,false,false,true,a'+1,ts'.tail,f,rfl,rfl,gh,oM,?_,h⟩,?_⟩
    ·(simp only [J0] at hf |-;omega)
    show J0 false false true<J0 false false false
    (simp only [J0];omega)
   exact mq137
  exact h.elim
 exact h.elim
def Zk0 (fn:Func) (tb:Tbl):Zp:=fun args σ K=>∃K0:PEnd->St->Prop,(∀e σ,K0 e σ->K e σ)/\args.length<=fn.ntmps/\WF (ctx Jy tb (Zo [])) fn σ.bx.length false args σ K0
def Zpo (fn:Func) (tb:Tbl):ZG (Zk0 fn tb):=fun args σ K K' hK ⟨K0,h1,h2⟩=>⟨K0,fun e σ h=>hK _ _ (h1 e σ h),h2⟩
def Zy7 (fn:Func) (unr:Nat->Nat) (tb:Tbl):Zp:=fun args σ K=>∃K0:PEnd->St->Prop,(∀e σ,K0 e σ->K e σ)/\args.length<=fn.ntmps/\WF (ZBU Jy tb (Zo []) unr (Yd [])) fn σ.bx.length false args σ K0
def _root_.Go.PM.PCalls.closed {G:GE} {g:FuncId} {sp:Zp} (h:PCalls G g sp):PCalls G g (fun args σ K=>∃K0:PEnd->St->Prop,(∀e σ,K0 e σ->K e σ)/\sp args σ K0):=⟨h.enters,fun args σ K ⟨K0,hK,hs⟩ n e w vs hS ha =>
 (h.calls args σ K0 hs n e w vs hS ha).mono fun en w' ⟨pe,σ',e',hk,hr⟩=>⟨pe,σ',e',hK _ _ hk,hr⟩⟩
def Zb6 {g : FuncId} {fn : Func} {c : Code} {tb : Tbl} (ht : TO w0 nG tb) (hf : (GG w0 nG).P.funcs[g]? = some fn) (hb : fn.body = some c) (av : (fn.name == "runtime.NumGoroutine") = false) (ax : ZA fn.ntmps c = true) : PC w0 nG g (Zk0 fn tb) := by
 have h:PC w0 nG g (fun args σ K=>args.length<=fn.ntmps/\WF (ctx Jy tb (Zo [])) fn σ.bx.length false args σ K):=by
  refine ZhO ZI mixed ht hf hb av ax ?_;intro args σ K h
  exact ⟨Zo [],σ.bx.length,false,Tr _,h.1,h.2⟩
 exact h.closed
def Zy8 {g : FuncId} {fn : Func} {c : Code} {unr : Nat -> Nat} {tb : Tbl} (ht : TO w0 nG tb) (hf : (GG w0 nG).P.funcs[g]? = some fn) (hb : fn.body = some c) (av : (fn.name == "runtime.NumGoroutine") = false) (ax : ZA fn.ntmps c = true) : PC w0 nG g (Zy7 fn unr tb) := by
 have h:PC w0 nG g (fun args σ K=>args.length<=fn.ntmps/\WF (ZBU Jy tb (Zo []) unr (Yd [])) fn σ.bx.length false args σ K):=by
  refine Wu ZI mixed ht hf hb av ax ?_;intro args σ K h
  exact ⟨Zo [],unr,Yd [],σ.bx.length,false,Tr _,h.1,h.2⟩
 exact h.closed
def Zvq {α:Type} (enc:List Tok->Int->α->PV) (P:Ts->R α) (lo:Int) (d:Nat):Zp:=Xo fun rest L en dp a ts K=>match rest with
 | []=>(0<d/\dp=65 - (d:Int)/\0<=dp)/\∀x,P ts=x->RKk (enc L en) L en dp (a+lo) x K
 | _=>False
def Zdr {α:Type} {enc:List Tok->Int->α->PV} {P:Ts->R α} {lo:Int} {g:FuncId} (h:WO (GG w0 nG).P g):PC w0 nG g (Zvq enc P lo 0):=⟨h,fun args σ K hs=>by
 exfalso;unfold Zvq Xo at hs
 split at hs
 ·obtain ⟨L,ts,_,_,hs⟩:=hs;split at hs
  ·have:=hs.1.1;omega
  exact hs
 exact hs⟩
def _root_.Go.PM.PCalls.weaken1 {G:GE} {g:FuncId} {sp sp':Zp} (h:PCalls G g sp) (hw:∀args σ K,sp' args σ K->sp args σ K):PCalls G g sp':=⟨h.enters,fun args σ K hs=>h.calls args σ K (hw _ _ _ hs)⟩
def Zds {α:Type} {enc:List Tok->Int->α->PV} {P:Ts->R α} {lo:Int} {d:Nat} {g:FuncId} (h:PC w0 nG g (ZiV enc P lo d)):PC w0 nG g (Zvq enc P lo (d+1)):=h.weaken1 fun args σ K hs=>by
 unfold Zvq Xo at hs
 unfold ZiV Xo
 split at hs
 ·obtain ⟨L,ts,h1,h2,hs⟩:=hs;refine ⟨L,ts,h1,h2,?_⟩;split at hs
  ·exact ⟨by have:=hs.1.2;omega,hs.2⟩
  exact hs.elim
 exact hs
def Zbc:Zp:=fun args σ K=>match args,σ with
 | [.d (.str w),.ptr 0 0],⟨[.cells t0 [.ptr 1 0],.cells t [.d (.sl rows),.d (.int .i64 a),.d (.int .i64 en),.d (.int .i64 dp)]],[],0⟩=>∃L ts,rows=ZR L/\ROK L a ts /\
   (isW ts [w]=true->ROK L (a+1) ts.tail->K (.ret (.d (.bool true))) ⟨[.cells t0 [.ptr 1 0],.cells t [.d (.sl (ZR L)),.d (.int .i64 (a+1)),.d (.int .i64 en),.d (.int .i64 dp)]],[],0⟩) /\
   (isW ts [w]=false->K (.ret (.d (.bool false))) ⟨[.cells t0 [.ptr 1 0],.cells t [.d (.sl (ZR L)),.d (.int .i64 a),.d (.int .i64 en),.d (.int .i64 dp)]],[],0⟩)
 | _,_=>False
def Zk1:Tbl:=[(208,XZ)]
def Zpp:OKw w0 nG Zk1 277 Zbc:=by
 refine pwo Tryz.func277 fun args σ K h=>?_
 exact mq71
def Zpq:OKw w0 nG Zk1 278 Zbc:=by
 refine pwo Tryz.func278 fun args σ K h=>?_
 exact mq71
def Zr7:Zp:=fun args σ K=>match args,σ with
 | [.asl 0 0 n,.func g [] [.ptr 1 0]],⟨[.cells tA cs,.cells t0 [.ptr 2 0],.cells t [.d (.sl rows),.d (.int .i64 a),.d (.int .i64 en),.d (.int .i64 dp)]],[],0⟩=>∃L ts ws,rows=ZR L/\ROK L a ts /\
   ((ws=Z2/\g=277)\/(ws=Yq/\g=278))/\n=ws.length/\cs=ws.map (fun w=>PV.d (.str w)) /\
   (∀k:Nat,ZbO ts 0 ws=some k->ROK L (a+1) ts.tail->K (.ret (.d (.int .i64 k))) ⟨[.cells tA cs,.cells t0 [.ptr 2 0],.cells t [.d (.sl (ZR L)),.d (.int .i64 (a+1)),.d (.int .i64 en),.d (.int .i64 dp)]],[],0⟩) /\
   (ZbO ts 0 ws=none->K (.ret (.d (.int .i64 (-1)))) ⟨[.cells tA cs,.cells t0 [.ptr 2 0],.cells t [.d (.sl (ZR L)),.d (.int .i64 a),.d (.int .i64 en),.d (.int .i64 dp)]],[],0⟩)
 | _,_=>False
def Zt0:Tbl:=[(277,Zbc),(278,Zbc)]
def Zy9 (ht:TO w0 nG Zt0):PC w0 nG 165 Zr7:=by
 refine Wu ZI mixed (tbl:=Zt0) ht Tryz.func165 rfl kR kR ?_;intro args σ K h
 unfold Zr7 at h
 split at h
 ·rename_i n g tA cs t0 t rows a en dp
  obtain ⟨L,ts,ws,rfl,ho,hws,rfl,rfl,h1,h2⟩:=h;refine ⟨Zo [],Xn [(2,8)],Yd [],3,false,sM,Tc rfl,?_⟩;rcases hws with ⟨rfl,rfl⟩ | ⟨rfl,rfl⟩
  ·conv=>whnf
   refine ⟨dM,dM,wN ?_⟩;refine ⟨L,ts,rfl,ho,fun zz aj=>wN ?_,fun zz=>wN ?_⟩
   ·exact h1 0 (by simp [ZbO,Z2, *]) aj
   refine Zi ?_;refine ⟨dM,dM,wN ?_⟩;refine ⟨L,ts,rfl,ho,fun eg aj=>wN ?_,fun eg=>wN ?_⟩
   ·exact h1 1 (by simp [ZbO,Z2, *]) aj
   refine Zi ?_;refine ⟨dM,dM,wN ?_⟩;refine ⟨L,ts,rfl,ho,fun pa aj=>wN ?_,fun pa=>wN ?_⟩
   ·exact h1 2 (by simp [ZbO,Z2, *]) aj
   refine Zi ?_;refine ⟨dM,dM,wN ?_⟩;refine ⟨L,ts,rfl,ho,fun oq aj=>wN ?_,fun oq=>wN ?_⟩
   ·exact h1 3 (by simp [ZbO,Z2, *]) aj
   refine Zi ?_;refine ⟨dM,dM,wN ?_⟩;refine ⟨L,ts,rfl,ho,fun o5 aj=>wN ?_,fun o5=>wN ?_⟩
   ·exact h1 4 (by simp [ZbO,Z2, *]) aj
   refine Zi ?_;refine ⟨dM,dM,wN ?_⟩;refine ⟨L,ts,rfl,ho,fun hw5 aj=>wN ?_,fun hw5=>wN ?_⟩
   ·exact h1 5 (by simp [ZbO,Z2, *]) aj
   refine Zi ?_;exact h2 (by simp [ZbO,Z2, *])
  conv=>whnf
  refine ⟨dM,dM,wN ?_⟩;refine ⟨L,ts,rfl,ho,fun zz aj=>wN ?_,fun zz=>wN ?_⟩
  ·exact h1 0 (by simp [ZbO,Yq, *]) aj
  refine Zi ?_;refine ⟨dM,dM,wN ?_⟩;refine ⟨L,ts,rfl,ho,fun eg aj=>wN ?_,fun eg=>wN ?_⟩
  ·exact h1 1 (by simp [ZbO,Yq, *]) aj
  refine Zi ?_;refine ⟨dM,dM,wN ?_⟩;refine ⟨L,ts,rfl,ho,fun pa aj=>wN ?_,fun pa=>wN ?_⟩
  ·exact h1 2 (by simp [ZbO,Yq, *]) aj
  refine Zi ?_;refine ⟨dM,dM,wN ?_⟩;refine ⟨L,ts,rfl,ho,fun oq aj=>wN ?_,fun oq=>wN ?_⟩
  ·exact h1 3 (by simp [ZbO,Yq, *]) aj
  refine Zi ?_;exact h2 (by simp [ZbO,Yq, *])
 exact h.elim
def ZgD:Nat->Ts->R Ex
 | 0=>fun _=>.err 0 150
 | d+1=>Xy d
def Zr8 (d:Nat):Zdk d=fun ts=>JD (ZgD d) 6 1 ts:=by cases d <;> rfl
def ZmV (d:Nat) (ts:Ts):Xy d ts=Zdj d (ZgD d) ts:=by cases d <;> rfl
def ZmW {ts:Ts} (h:Z0 ts=true):ts≠[]:=by rintro rfl;simp [Z0,hd] at h
abbrev ZjM (d:Nat):Zp:=Zvq (fun L en (v:Ex)=>Za8 (ZQ (Zc L en) v)) (Zdk d) 0 d
abbrev Zib (d:Nat):Zp:=Zvq (fun L en (v:Ex)=>Za8 (ZQ (Zc L en) v)) (ZgD d) 0 d
abbrev Zfi (d:Nat):Zp:=ZiV (fun L en (v:Ex)=>Za8 (ZQ (Zc L en) v)) (Zaj d) 0 d
abbrev Zcq (d:Nat):Zp:=ZiV (fun L en (v:Ex)=>Za8 (ZQ (Zc L en) v)) (Xy d) 0 d
abbrev Zan (d:Nat):Zp:=ZiV (fun L en (v:Ex)=>Za8 (ZQ (Zc L en) v)) (Zai d (Zdk d)) 0 d
def Zdt (d:Nat):Zp:=Xo fun rest L en dp a ts K=>match rest with
 | [.d (.str fr),.d (.str tw)]=>((dp=64 - (d:Int)/\0<=dp)/\tw≠[])/\∀x,Zh4 d (Zdk d) fr tw ts=x->RKk (fun (l:List Ex)=>.d (.sl (l.map (ZQ (Zc L en))))) L en dp a x K
 | _=>False
def Zk2 (d:Nat):Zp:=Xo fun rest L en dp a ts K=>match rest with
 | [.agg [.d (.int .u8 op),.d (.str []),.d (.int .i64 n),.nils e,.d (.int .i64 at')]]=>((dp=64 - (d:Int)/\0<=dp)/\n=0/\e=55)/\∃o:Nat,op=(o:Int)/\∀x,Zx d [40] [41] (Zah (Zdk d) (ZmM o) []) ts=x ->
   RKk (fun (l:List Ex)=>.agg [.d (.int .u8 op),.d (.str []),.d (.int .i64 0),.d (.sl (l.map (ZQ (Zc L en)))),.d (.int .i64 at')]) L en dp a x K
 | _=>False
def Vk (d:Nat):Zp:=fun args σ K=>match args,σ with
 | [.ptr 0 0,.d (.str sg),.d (.int .i64 m),.func g1 [.ptr 0 0] [],.func g2 [.ptr 0 0] []],⟨[.cells t [.d (.sl rows),.d (.int .i64 a),.d (.int .i64 en),.d (.int .i64 dp)]],[],0⟩ =>
   (sg=[44]/\m=12/\g1=248/\g2=249/\0<d/\dp=65 - (d:Int)/\0<=dp)/\∃L ts,rows=ZR L/\ROK L a ts/\∀x,XU [44] 12 Z0 (Zdk d) ts=x ->
    RKk (fun (l:List Ex)=>.d (.sl (l.map (ZQ (Zc L en))))) L en dp a x fun pe a' dp'=>K pe ⟨[.cells t [.d (.sl (ZR L)),.d (.int .i64 a'),.d (.int .i64 en),.d (.int .i64 dp')]],[],0⟩
 | _,_=>False
def Zk3 (d:Nat):Tbl:=[(153,Zh7),(247,Vk d)]
def Zk4 (d:Nat):Tbl:=[(153,Zh7),(160,Xr),(152,YO),(246,Zk0 Tryz.f246 (Zk3 d))]
def Zvs {d:Nat}:OKw w0 nG [(212,Zk0 Tryz.f212 (Zk4 d))] 215 (Zdt d):=by
 refine pwo Tryz.func215 fun args σ K h=>?_
 unfold Zdt Xo at h
 split at h
 ·rename_i rest t rows a en dp
  obtain ⟨L,ts,rfl,ho,h⟩:=h;split at h
  ·rename_i fr tw
   obtain ⟨⟨ey,vg⟩,h⟩:=h;have h0:=ho.lo;have h1:=ho.hi;have h2:=ho.big;refine pwv [] 1 false ?_;have h:=h _ rfl;unfold Zh4 at h
   refine ⟨_,fun _ _ h=>h,Tc rfl,wN ?_⟩;refine ⟨L,ts,rfl,ho,[fr],rfl,sM,fun b eg=>?_⟩
   cases b with
   | false =>
    exact mq179
   | true =>
   rw [Zx,Tj eg] at h;(conv=>whnf);refine ZEH (fun hc=>wN ?_) (fun hc=>wN ?_)
   ·rw [Tj oM] at h;exact mq73
   rw [Tf oM] at h;refine ⟨L,ts,rfl,ho,fun x hx=>?_⟩;rw [Z1,Tj eg] at hx;subst hx;intro a1 eb au
   have co:=au.hi;(conv=>whnf);refine Zi ?_;refine ⟨_,fun _ _ h=>h,Tc rfl,wN ?_⟩;refine ⟨L,ts.tail,rfl,au,[tw],rfl,sM,fun b o5=>?_⟩;have gq:∀(x:R (List Ex)),(if isW ts.tail [tw]=true then R.ok [] ts.tail else XU [44] 12 Z0 (Zdk d) ts.tail)=x->True:=fun _ _=>trivial
   cases b with
   | true =>
    rw [Tj o5,R.bind_ok] at h;(conv=>whnf);have aj:=au;refine ZEJ (fun _=>wN ?_) (fun g=>absurd g vg);rw [Tf vg] at h;refine ⟨L,ts.tail,rfl,au,fun x ek=>?_⟩;exact mq15
   | false =>
   rw [Tf (by rw [o5];simp)] at h;(conv=>whnf);refine ⟨⟨rfl,rfl,rfl,rfl,oM,oM,oM⟩,L,ts.tail,rfl,au,fun x ca=>?_⟩;rcases x with ⟨v2,ts2⟩ | ⟨r2,e2⟩
   rotate_left
   ·exact mq44
   rw [ca,R.bind_ok] at h;intro a2 fu aj
   have f6:=aj.hi;(conv=>whnf);refine ZEJ (fun _=>wN ?_) (fun g=>absurd g vg);rw [Tf vg] at h;refine ⟨L,ts2,rfl,aj,fun x ek=>?_⟩;exact mq15
  exact h.elim
 exact h.elim
def Vl (ex:Ts->R Ex) (k:Nat) (l:List Ex) (ts:Ts):Zah ex (k+1) l ts=(if l=[] then .ok () ts else Z1 [44] ts).bind fun _ ts=>(ex ts).bind fun e ts=>Zah ex k (l++[e]) ts:=rfl
def Zk5 (d:Nat):Tbl:=[(160,Xr),(249,ZjM d)]
def Zk6 (d:Nat):Tbl:=[(153,Zh7),(160,Xr),(152,YO),(325,Zy7 Tryz.f325 (Xn [(1,5)]) (Zk5 d))]
def Zvu {d:Nat}:OKw w0 nG [(212,Zk0 Tryz.f212 (Zk6 d))] 321 (Zk2 d):=by
 refine pwo Tryz.func321 fun args σ K h=>?_
 unfold Zk2 Xo at h
 split at h
 ·rename_i rest t rows a en dp
  obtain ⟨L,ts,rfl,ho,h⟩:=h;split at h
  ·rename_i op n e at'
   obtain ⟨⟨ey,rfl,rfl⟩,o,rfl,h⟩:=h;have h:=h _ rfl;have h0:=ho.lo;have h1:=ho.hi;have h2:=ho.big;refine pwv [] 1 false ?_;refine ZEH (fun gt=>?_) (fun gt=>wN ?_)
   ·obtain rfl:o=22:=by omega
    have xn:ZmM 22=3:=rfl;(conv=>whnf);refine Vh ?_;refine Vh ?_;rw [xn] at h;refine ⟨_,fun _ _ h=>h,Tc rfl,wN ?_⟩;refine ⟨L,ts,rfl,ho,[[40]],rfl,sM,fun b eg=>?_⟩
    cases b with
    | false =>
     exact mq179
    | true =>
    rw [Zx,Tj eg] at h;(conv=>whnf);refine ZEH (fun hc=>wN ?_) (fun hc=>wN ?_)
    ·rw [Tj oM] at h;exact mq73
    rw [Tf oM] at h;refine ⟨L,ts,rfl,ho,fun x hx=>?_⟩;rw [Z1,Tj eg] at hx;subst hx;intro a1 eb au
    have co:=au.hi;(conv=>whnf);refine Zi ?_;refine ⟨_,fun _ _ h=>h,Tc rfl,wN ?_⟩;rw [Vl] at h;rw [Tj rfl,R.bind_ok] at h;refine ⟨L,ts.tail,rfl,au,⟨oM,oM,oM⟩,fun x mw=>?_⟩;rcases x with ⟨v10,ts10⟩ | ⟨r10,e10⟩
    rotate_left
    ·exact mq133
    rw [mw,R.bind_ok] at h;intro a10 rp kq
    have xo:=kq.hi;obtain ⟨v10a,v10b,v10c,v10d,v10e⟩:=v10;(conv=>whnf);refine ⟨rfl,rfl,Tc rfl,Tc rfl,wN ?_⟩
    repeat (refine ⟨rfl,?_⟩;conv=>whnf)
    refine Vh ?_;rw [Vl] at h;rw [Tf sM] at h;refine ⟨L,ts10,rfl,kq,fun x jv=>?_⟩;rcases x with ⟨v11,ts11⟩ | ⟨r11,e11⟩
    rotate_left
    ·rw [jv,R.bind_err,R.bind_err] at h;intro a9 d9;(conv=>whnf);exact h _ _
    rw [jv,R.bind_ok] at h;intro a11 rq kr
    have xp:=kr.hi;(conv=>whnf);refine ⟨L,ts11,rfl,kr,⟨oM,oM,oM⟩,fun x ku=>?_⟩;rcases x with ⟨v12,ts12⟩ | ⟨r12,e12⟩
    rotate_left
    ·rw [ku,R.bind_err,R.bind_err] at h;intro a9 d9;(conv=>whnf);exact h _ _
    rw [ku,R.bind_ok] at h;intro a12 rt kw
    have xq:=kw.hi;obtain ⟨v12a,v12b,v12c,v12d,v12e⟩:=v12;(conv=>whnf);refine ⟨rfl,rfl,Tc rfl,Tc rfl,wN ?_⟩
    repeat (refine ⟨rfl,?_⟩;conv=>whnf)
    refine Vh ?_;rw [Vl] at h;rw [Tf sM] at h;refine ⟨L,ts12,rfl,kw,fun x xr=>?_⟩;rcases x with ⟨v13,ts13⟩ | ⟨r13,e13⟩
    rotate_left
    ·rw [xr,R.bind_err,R.bind_err] at h;intro a9 d9;(conv=>whnf);exact h _ _
    rw [xr,R.bind_ok] at h;intro a13 adv xu
    have afr:=xu.hi;(conv=>whnf);refine ⟨L,ts13,rfl,xu,⟨oM,oM,oM⟩,fun x xv=>?_⟩;rcases x with ⟨v14,ts14⟩ | ⟨r14,e14⟩
    rotate_left
    ·rw [xv,R.bind_err,R.bind_err] at h;intro a9 d9;(conv=>whnf);exact h _ _
    rw [xv,R.bind_ok] at h;intro a14 adw xw
    have afs:=xw.hi;obtain ⟨v14a,v14b,v14c,v14d,v14e⟩:=v14;(conv=>whnf);refine ⟨rfl,rfl,Tc rfl,Tc rfl,wN ?_⟩
    repeat (refine ⟨rfl,?_⟩;conv=>whnf)
    refine Vh ?_;rw [Zah] at h;rw [R.bind_ok] at h;have xy:ts14=ts14:=rfl;have aj:=xw;obtain ⟨ts2,ot⟩:∃t,t=ts14:=⟨_,rfl⟩
    rw [<- ot] at h aj;exact mq175
   refine ZEH (fun ug=>?_) (fun ug=>wN ?_)
   ·obtain rfl:o=20:=by omega
    have xn:ZmM 20=2:=rfl;(conv=>whnf);refine Vh ?_;rw [xn] at h;refine ⟨_,fun _ _ h=>h,Tc rfl,wN ?_⟩;refine ⟨L,ts,rfl,ho,[[40]],rfl,sM,fun b eg=>?_⟩
    cases b with
    | false =>
     exact mq179
    | true =>
    rw [Zx,Tj eg] at h;(conv=>whnf);refine ZEH (fun hc=>wN ?_) (fun hc=>wN ?_)
    ·rw [Tj oM] at h;exact mq73
    rw [Tf oM] at h;refine ⟨L,ts,rfl,ho,fun x hx=>?_⟩;rw [Z1,Tj eg] at hx;subst hx;intro a1 eb au
    have co:=au.hi;(conv=>whnf);refine Zi ?_;refine ⟨_,fun _ _ h=>h,Tc rfl,wN ?_⟩;rw [Vl] at h;rw [Tj rfl,R.bind_ok] at h;refine ⟨L,ts.tail,rfl,au,⟨oM,oM,oM⟩,fun x mw=>?_⟩;rcases x with ⟨v10,ts10⟩ | ⟨r10,e10⟩
    rotate_left
    ·exact mq133
    rw [mw,R.bind_ok] at h;intro a10 rp kq
    have xo:=kq.hi;obtain ⟨v10a,v10b,v10c,v10d,v10e⟩:=v10;(conv=>whnf);refine ⟨rfl,rfl,Tc rfl,Tc rfl,wN ?_⟩
    repeat (refine ⟨rfl,?_⟩;conv=>whnf)
    refine Vh ?_;rw [Vl] at h;rw [Tf sM] at h;refine ⟨L,ts10,rfl,kq,fun x jv=>?_⟩;rcases x with ⟨v11,ts11⟩ | ⟨r11,e11⟩
    rotate_left
    ·rw [jv,R.bind_err,R.bind_err] at h;intro a9 d9;(conv=>whnf);exact h _ _
    rw [jv,R.bind_ok] at h;intro a11 rq kr
    have xp:=kr.hi;(conv=>whnf);refine ⟨L,ts11,rfl,kr,⟨oM,oM,oM⟩,fun x ku=>?_⟩;rcases x with ⟨v12,ts12⟩ | ⟨r12,e12⟩
    rotate_left
    ·rw [ku,R.bind_err,R.bind_err] at h;intro a9 d9;(conv=>whnf);exact h _ _
    rw [ku,R.bind_ok] at h;intro a12 rt kw
    have xq:=kw.hi;obtain ⟨v12a,v12b,v12c,v12d,v12e⟩:=v12;(conv=>whnf);refine ⟨rfl,rfl,Tc rfl,Tc rfl,wN ?_⟩
    repeat (refine ⟨rfl,?_⟩;conv=>whnf)
    refine Vh ?_;rw [Zah] at h;rw [R.bind_ok] at h;have xy:ts12=ts12:=rfl;have aj:=kw;obtain ⟨ts2,ot⟩:∃t,t=ts12:=⟨_,rfl⟩
    rw [<- ot] at h aj;exact mq175
   have xn:ZmM o=1:=by rw [ZmM,Tf oM,Tf oM]
   rw [xn] at h;refine ⟨_,fun _ _ h=>h,Tc rfl,wN ?_⟩;refine ⟨L,ts,rfl,ho,[[40]],rfl,sM,fun b eg=>?_⟩
   cases b with
   | false =>
    exact mq179
   | true =>
   rw [Zx,Tj eg] at h;(conv=>whnf);refine ZEH (fun hc=>wN ?_) (fun hc=>wN ?_)
   ·rw [Tj oM] at h;exact mq73
   rw [Tf oM] at h;refine ⟨L,ts,rfl,ho,fun x hx=>?_⟩;rw [Z1,Tj eg] at hx;subst hx;intro a1 eb au
   have co:=au.hi;(conv=>whnf);refine Zi ?_;refine ⟨_,fun _ _ h=>h,Tc rfl,wN ?_⟩;rw [Vl] at h;rw [Tj rfl,R.bind_ok] at h;refine ⟨L,ts.tail,rfl,au,⟨oM,oM,oM⟩,fun x mw=>?_⟩;rcases x with ⟨v10,ts10⟩ | ⟨r10,e10⟩
   rotate_left
   ·exact mq133
   rw [mw,R.bind_ok] at h;intro a10 rp kq
   have xo:=kq.hi;obtain ⟨v10a,v10b,v10c,v10d,v10e⟩:=v10;(conv=>whnf);refine ⟨rfl,rfl,Tc rfl,Tc rfl,wN ?_⟩
   repeat (refine ⟨rfl,?_⟩;conv=>whnf)
   refine Vh ?_;rw [Zah] at h;rw [R.bind_ok] at h;have xy:ts10=ts10:=rfl;have aj:=kq;obtain ⟨ts2,ot⟩:∃t,t=ts10:=⟨_,rfl⟩
   rw [<- ot] at h aj;exact mq175
  exact h.elim
 exact h.elim
def Zk7 (d:Nat):Tbl:=[(249,ZjM d)]
def Zk8 (d:Nat):Tbl:=[(153,Zh7),(160,Xr),(152,YO),(320,Zk0 Tryz.f320 (Zk7 d))]
def Zpr (d:Nat):Tbl:=[(248,JF Z0),(152,YO),(206,Zal),(212,Zk0 Tryz.f212 (Zk8 d)),(215,Zdt d),(159,Xz),(153,Zh7),(189,Ux),(321,Zk2 d)]
def ZmX {d:Nat} (ht:TO w0 nG (Zpr d)):PC w0 nG 309 (Zan d):=by
 refine Zjw ZI mixed (tbl:=Zpr d) ht Tryz.func309 rfl kR kR ?_;intro args σ K h
 unfold Zan ZiV Xo at h
 split at h
 ·rename_i rest t rows a en dp
  obtain ⟨L,ts,rfl,ho,h⟩:=h;split at h
  ·obtain ⟨ey,h⟩:=h;have h0:=ho.lo;have h1:=ho.hi;have h2:=ho.big;refine ⟨Zo [],Xn [],Yd [],Yd [],Yd [321],1,false,sM,Tc rfl,wN ?_⟩;have h:=h _ rfl;refine ⟨L,ts,rfl,ho,fun b hst=>?_⟩
   cases b with
   | false =>
    rw [Zai,Tj hst] at h;(conv=>whnf);exact mq73
   | true =>
   rw [Zai,Tf (by rw [hst];simp)] at h;have vr:=ho.tl (ZmW hst);have hbt:=vr.hi;(conv=>whnf);refine ⟨L,ts,rfl,ho,fun fin=>Or.inl ⟨rfl,wN ?_⟩⟩;refine ZEH (fun hc=>wN ?_) (fun hc=>wN ?_)
   ·rw [Tj (show (hd ts).kind=2 by omega)] at h;exact mq126
   rw [Tf (show ¬(hd ts).kind=2 by omega)] at h;refine ZEH (fun hc=>wN ?_) (fun hc=>wN ?_)
   ·rw [Tj (show (hd ts).kind=3 by omega)] at h;exact mq126
   rw [Tf (show ¬(hd ts).kind=3 by omega)] at h;refine ZEH (fun hc=>wN ?_) (fun hc=>wN ?_)
   ·rw [Tj (show (hd ts).text=[40] from hc)] at h;refine ⟨_,fun _ _ h=>h,Tc rfl,wN ?_⟩;refine ⟨L,ts,rfl,ho,[[40]],rfl,sM,fun b eg=>?_⟩
    cases b with
    | false =>
     exact mq179
    | true =>
    rw [Zx,Tj eg] at h;(conv=>whnf);refine ZEH (fun hc=>wN ?_) (fun hc=>wN ?_)
    ·rw [Tj oM] at h;exact mq73
    rw [Tf oM] at h;refine ⟨L,ts,rfl,ho,fun x hx=>?_⟩;rw [Z1,Tj eg] at hx;subst hx;intro a1 eb au
    have co:=au.hi;(conv=>whnf);refine Zi ?_;refine ⟨_,fun _ _ h=>h,Tc rfl,wN ?_⟩;refine ⟨L,ts.tail,rfl,au,⟨oM,oM,oM⟩,fun x ca=>?_⟩;rcases x with ⟨v2,ts2⟩ | ⟨r2,e2⟩
    rotate_left
    ·exact mq44
    rw [ca,R.bind_ok] at h;intro a2 fu aj
    have f6:=aj.hi;obtain ⟨v2a,v2b,v2c,v2d,v2e⟩:=v2;(conv=>whnf);exact mq175
   rw [Tf (show ¬(hd ts).text=[40] from hc)] at h;refine ZEH (fun hc=>wN ?_) (fun hc=>wN ?_)
   ·rw [Tj (show (hd ts).text=[91] from hc)] at h;refine ⟨L,ts,rfl,ho,⟨ey,sM⟩,fun x dm=>?_⟩;rcases x with ⟨v1,ts1⟩ | ⟨r1,e1⟩
    rotate_left
    ·exact mq50
    rw [dm,R.bind_ok] at h;intro a1 eb au
    have co:=au.hi;(conv=>whnf);rw [<- Zb];exact h _ oM au
   rw [Tf (show ¬(hd ts).text=[91] from hc)] at h;refine ZEH (fun hc=>wN ?_) (fun hc=>wN ?_)
   ·rw [Tj (show (hd ts).text=[36] from hc)] at h;refine Zi ?_;refine ⟨L,ts.tail,rfl,vr,fun x dm=>?_⟩;rcases x with ⟨v1,ts1⟩ | ⟨r1,e1⟩
    rotate_left
    ·exact mq50
    rw [dm,R.bind_ok] at h;intro a1 eb au
    have co:=au.hi;(conv=>whnf);refine ⟨L,ts1,rfl,au,[[40]],rfl,sM,fun b pa=>?_⟩
    cases b with
    | false =>
     rw [Tf (by rw [pa];simp)] at h;(conv=>whnf);exact h _ oM au
    | true =>
    rw [Tj pa] at h;(conv=>whnf);refine ⟨L,ts1,rfl,au,⟨ey,sM⟩,fun x ek=>?_⟩;rcases x with ⟨v3,ts3⟩ | ⟨r3,e3⟩
    rotate_left
    ·exact mq19
    exact mq141
   rw [Tf (show ¬(hd ts).text=[36] from hc)] at h;intro n hn
   conv=>whnf
   refine ZEJ (fun hc=>wN ?_) (fun hc=>wN ?_)
   ·rw [Tj (show YJ (hd ts).text≠0 by omega)] at h;refine Zi ?_;intro n2 ia
    conv=>whnf
    refine ⟨L,ts.tail,rfl,vr,⟨ey,rfl,rfl⟩,YJ (hd ts).text,ia.symm,fun x dm=>?_⟩;rcases x with ⟨v1,ts1⟩ | ⟨r1,e1⟩
    rotate_left
    ·exact mq50
    rw [dm,R.bind_ok] at h;intro a1 eb au
    have co:=au.hi;(conv=>whnf);rw [<- ia,<- Zb];exact h _ oM au
   rw [Tf (show ¬YJ (hd ts).text≠0 by omega)] at h;refine ZEH (fun hc=>wN ?_) (fun hc=>wN ?_)
   ·rw [Tj (show (hd ts).text=[110,105,108] from hc)] at h;refine Zi ?_;exact h _ oM vr
   rw [Tf (show ¬(hd ts).text=[110,105,108] from hc)] at h;refine ZEH (fun hc=>wN ?_) (fun hc=>wN ?_)
   ·rw [Tj (show (hd ts).text=[95] from hc)] at h;refine Zi ?_;exact h _ oM vr
   rw [Tf (show ¬(hd ts).text=[95] from hc)] at h;exact mq126
  exact h.elim
 exact h.elim
def Zk9 (d:Nat):Tbl:=[(294,Zib d)]
def Zla (d:Nat):Tbl:=[(153,Zh7),(160,Xr),(152,YO),(308,Zk0 Tryz.f308 (Zk9 d))]
def Zlb (d:Nat):Tbl:=[(158,Wz),(153,Zh7),(212,Zk0 Tryz.f212 (Zla d)),(309,Zan d)]
def Zps {d:Nat} (ht:TO w0 nG (Zlb d)):PC w0 nG 294 (Zcq d):=by
 refine Wu ZI mixed (tbl:=Zlb d) ht Tryz.func294 rfl kR kR ?_;intro args σ K h
 unfold Zcq ZiV Xo at h
 split at h
 ·rename_i rest t rows a en dp
  obtain ⟨L,ts,rfl,ho,h⟩:=h;split at h
  ·obtain ⟨ey,h⟩:=h;have h0:=ho.lo;have h1:=ho.hi;have h2:=ho.big;refine ⟨Zo [],Xn [(3,4)],Yd [],1,false,sM,Tc rfl,wN ?_⟩;have h:=h _ rfl;rw [ZmV,Zdj] at h;refine ⟨L,ts,rfl,ho,wN ?_⟩;refine ⟨dM,dM,wN ?_⟩;refine ⟨L,ts,rfl,ho,[[45]],rfl,sM,fun b hw8=>?_⟩
   cases b with
   | true =>
    rw [Tj hw8] at h;(conv=>whnf);refine ⟨_,fun _ _ h=>h,Tc rfl,wN ?_⟩;refine ⟨L,ts,rfl,ho,[[45]],rfl,sM,fun b eg=>?_⟩;exact mq16
   | false =>
   rw [Tf (by rw [hw8];simp)] at h;(conv=>whnf);refine Vh ?_;refine ⟨dM,dM,wN ?_⟩;refine ⟨L,ts,rfl,ho,[[126]],rfl,sM,fun b ga=>?_⟩
   cases b with
   | true =>
    rw [Tj ga] at h;(conv=>whnf);refine ⟨_,fun _ _ h=>h,Tc rfl,wN ?_⟩;refine ⟨L,ts,rfl,ho,[[126]],rfl,sM,fun b eg=>?_⟩;exact mq16
   | false =>
   rw [Tf (by rw [ga];simp)] at h;(conv=>whnf);refine Vh ?_;rw [show JD (ZgD d) 6 1=Zdk d from (Zr8 d).symm] at h;refine ⟨L,ts,rfl,ho,ey,fun x dm=>?_⟩;exact mq81
  exact h.elim
 exact h.elim
def Zfj (d j:Nat):Zp:=Xo fun rest L en dp a ts K=>match rest with
 | [.d (.int .i64 least)]=>((dp=64 - (d:Int)/\0<=dp)/\1<=least/\least<=6/\6<=least+(j:Int))/\∀x,JD (Xy d) j least.toNat ts=x->RKk (fun (v:Ex)=>Za8 (ZQ (Zc L en) v)) L en dp a x K
 | _=>False
def Zdu (d j:Nat):Zp:=Xo fun rest L en dp a ts K=>match rest with
 | [.d (.int .i64 least)]=>((dp=64 - (d:Int)/\0<=dp)/\0<j/\1<=least/\least<=6/\7<=least+(j:Int))/\∀x,JD (Xy d) (j - 1) least.toNat ts=x->RKk (fun (v:Ex)=>Za8 (ZQ (Zc L en) v)) L en dp a x K
 | _=>False
def Zpt (ts:Ts):(Za6 ts).1<=5/\(Za6 ts).2<=255:=by
 unfold Za6
 repeat' (first | (split;decide) | split)
 all_goals decide
def Zic (sub : Nat -> Ts -> R Ex) (least f : Nat) (e : Ex) (ts : Ts) : Jg sub least (f + 1) e ts = if (Za6 ts).1 < least \/ (Za6 ts).1 = 0 then .ok e ts
      else (sub ((Za6 ts).1+1) ts.tail).bind fun g ts'=>Jg sub least f (.mk (Za6 ts).2 [] 0 [e,g] e.at') ts':=rfl
def ZmY {sub:Nat->Ts->R Ex} {least f:Nat} {e:Ex} {ts:Ts} (h:6<=least):Jg sub least (f+1) e ts=.ok e ts:=by
 rw [Zic,Tj];have:=(Zpt ts).1;omega
def Zvv {ts:Ts} (h:(Za6 ts).1≠0):ts≠[]:=by rintro rfl;exact h rfl
def Zr9 (sg:Ts->R Ex) (j least:Nat) (ts:Ts) (h:6<=least+j):JD sg j least ts=(sg ts).bind fun e ts=>Jg (JD sg (j - 1)) least (ts.length+1) e ts:=by
 cases j with
 | zero =>
  rw [JD]
  cases sg ts with
  | ok e ts=>rw [R.bind_ok,ZmY oM]
  | err r e=>rfl
 | succ j=>rfl
def Zpu {d j:Nat}:OKw w0 nG [(294,Zcq d),(295,Zr0),(276,Zdu d j)] 276 (Zfj d j):=by
 refine pwo Tryz.func276 fun args σ K h=>?_
 unfold Zfj Xo at h
 split at h
 ·rename_i rest t rows a en dp
  obtain ⟨L,ts,rfl,ho,h⟩:=h;split at h
  ·rename_i least
   obtain ⟨⟨ey,du,gl,kx⟩,h⟩:=h;have h0:=ho.lo;have h1:=ho.hi;have h2:=ho.big;refine pwv [(2,⟨[],[0,1,4,5],fun vs σ=>∃(u1:Nat) (u2:Bs) (u3:Int) (u4:List Ex) (u5:Nat) (a':Int) (ts':Ts) (f:Nat),vs=[]/\σ=⟨[.cells t [.d (.sl (ZR L)),.d (.int .i64 a'),.d (.int .i64 en),.d (.int .i64 dp)],.cells 55 [.d (.int .u8 0),.d (.str []),.d (.int .i64 0),.sl 0 55 [],.d (.int .i64 0)],.cells 55 [.d (.int .u8 u1),.d (.str u2),.d (.int .i64 u3),.d (.sl (Zm (Zc L en) u4)),.d (.int .i64 (Zc L en u5))]],[0],1⟩/\ROK L a' ts'/\a<=a'/\ts'.length<f/\RKk (fun (v:Ex)=>Za8 (ZQ (Zc L en) v)) L en dp a (Jg (JD (Xy d) (j - 1)) least.toNat f (.mk u1 u2 u3 u4 u5) ts') (fun pe a' dp'=>K pe ⟨[.cells t [.d (.sl (ZR L)),.d (.int .i64 a'),.d (.int .i64 en),.d (.int .i64 dp')]],[],0⟩),fun _ σ=>match σ with | ⟨.cells _ [_,.d (.int _ i),_,_]::_,_,_⟩=>((L.length:Int) - i).toNat | _=>0⟩)] 1 false ?_;have h:=h _ rfl;rw [Zr9 _ _ _ _ oM] at h;refine ⟨L,ts,rfl,ho,ey,fun x dm=>?_⟩;rcases x with ⟨v1,ts1⟩ | ⟨r1,e1⟩
   rotate_left
   ·exact mq50
   rw [dm,R.bind_ok] at h;intro a1 eb au
   have co:=au.hi;obtain ⟨v1a,v1b,v1c,v1d,v1e⟩:=v1;(conv=>whnf);refine ⟨⟨v1a,v1b,v1c,v1d,v1e,a1,ts1,ts1.length+1,rfl,rfl,au,oM,oM,h⟩,?_⟩
   clear h dm au co eb
   intro vs σ hI
   obtain ⟨u1,u2,u3,u4,u5,a',ts',f,rfl,rfl,ct,ace,hf,h⟩:=hI;obtain ⟨f,rfl⟩:∃g,f=g+1:=⟨f - 1,oM⟩
   rw [Zic] at h;have pg:=ct.hi;have rv:=ct.len;(conv=>whnf);refine ⟨L,ts',rfl,ct,fun n op hn gt=>wN ?_⟩;have aft:=Zpt ts';refine ZEH (fun hc=>wN ?_) (fun hc=>wN ?_)
   ·rw [Tj oM] at h;exact h _ oM ct
   refine ZEH (fun bw=>wN ?_) (fun bw=>wN ?_)
   ·rw [Tj oM] at h;exact h _ oM ct
   rw [Tf oM] at h;have aj:=ct.tl (Zvv oM);have f6:=aj.hi;have fm:=aj.len;refine Zi ?_;refine Zi ?_;refine ⟨L,ts'.tail,rfl,aj,⟨ey,oM,oM,oM,oM⟩,fun x ek=>?_⟩;rw [show (n+1).toNat=(Za6 ts').1+1 by omega] at ek;rcases x with ⟨v3,ts3⟩ | ⟨r3,e3⟩
   rotate_left
   ·exact mq19
   rw [ek,R.bind_ok] at h;intro a3 f9 bq
   have ju:=bq.hi;obtain ⟨v3a,v3b,v3c,v3d,v3e⟩:=v3;(conv=>whnf);have jd:=bq.len;obtain rfl:op=((Za6 ts').2:Int):=gt.symm;refine ⟨⟨(Za6 ts').2,[],0,[.mk u1 u2 u3 u4 u5,.mk v3a v3b v3c v3d v3e],u5,a3,ts3,f,rfl,rfl,bq,oM,oM,h⟩,?_⟩;exact mq164
  exact h.elim
 exact h.elim
def Zvy {d:Nat}:OKw w0 nG [(276,Zfj d 6)] 249 (Zfi d):=by
 refine pwo Tryz.func249 fun args σ K h=>?_
 unfold Zfi ZiV Xo at h
 split at h
 ·rename_i rest t rows a en dp
  obtain ⟨L,ts,rfl,ho,h⟩:=h;split at h
  ·obtain ⟨ey,h⟩:=h;have h0:=ho.lo;have h1:=ho.hi;have h2:=ho.big;refine pwv [] 1 false ?_;have h:=h _ rfl;refine ⟨L,ts,rfl,ho,⟨ey,oM,oM,oM⟩,fun x dm=>?_⟩;rw [Zaj] at h
   change JD (Xy d) 6 1 ts=x at dm
   exact mq81
  exact h.elim
 exact h.elim
abbrev Zvz (d:Nat):Zp:=ZiV (fun L en (v:Li)=>Za8 (Y5 (Zc L en) v)) (ZmN d (Zer d)) 0 d
abbrev Zid (d:Nat):Zp:=ZiV (fun L en (v:List Li)=>.d (.sl (v.map (Y5 (Zc L en))))) (ZmO d) 0 d
abbrev ZgE (d:Nat):Zp:=Zvq (fun L en (v:List Li)=>.d (.sl (v.map (Y5 (Zc L en))))) (Zer d) 0 d
def Zsa (d:Nat):ZmO d=XU [44] 32 Ya (ZmN d (Zer d)):=by cases d <;> rfl
def Zlc (d:Nat):Zp:=Xo fun rest L en dp a ts K=>match rest with
 | [.d (.bool b)]=>(dp=64 - (d:Int)/\0<=dp)/\∀x,Zo2 d b ts=x->RKk (fun (v:Ru)=>Za8 (Zy (Zc L en) v)) L en dp (a+1) x K
 | _=>False
def JI {ts:Ts}:∀{ws:List Bs} {i k:Nat},ZbO ts i ws=some k->i<=k/\k<i+ws.length
 | [],i,k,h=>by simp [ZbO] at h
 | w::ws,i,k,h=>by
  rw [ZbO] at h;split at h
  ·cases h;simp
  have:=JI h;simp only [Te];omega
def Zbd {ts:Ts} (h:ZbO ts 0 Z2=none):Zdl ts=.err ts.length 150:=by rw [Zdl,h]
def Zdv {ts:Ts} {j:Nat} (h:ZbO ts 0 Z2=some 0) (h2:ZbO ts.tail 0 Yq=some j):Zdl ts=.ok (9+j) ts.tail.tail:=by rw [Zdl,h];simp only [h2]
def ZgF {ts:Ts} (h:ZbO ts 0 Z2=some 0) (h2:ZbO ts.tail 0 Yq=none):Zdl ts=.ok 3 ts.tail:=by rw [Zdl,h];simp only [h2]
def Zdw {ts:Ts} {k:Nat} (h:ZbO ts 0 Z2=some (k+1)):Zdl ts=.ok (3+(k+1)) ts.tail:=by rw [Zdl,h];rfl
def Zsc:OKw w0 nG [(248,(JF Z0)),(153,Zh7)] 251 (ZkY Ya):=by
 refine pwo Tryz.func251 fun args σ K h=>?_
 unfold ZkY Zpf at h
 split at h
 ·rename_i rest t0 t rows a en dp
  obtain ⟨L,ts,rfl,ho,h⟩:=h;split at h
  ·skip
   refine pwv [] 2 false ?_;refine ⟨L,ts,rfl,ho,fun b hb=>?_⟩
   cases b with
   | true =>
    conv=>whnf
    exact h _ (by rw [Ya,hb];rfl)
   | false =>
   conv=>whnf
   refine ⟨L,ts,rfl,ho,[[33]],rfl,sM,fun b hw=>wN ?_⟩;exact h _ (by rw [Ya,hb,hw];rfl)
  exact h.elim
 exact h.elim
def ZvB {d:Nat}:OKw w0 nG [(250,ZgA d)] 216 (Zid d):=by
 refine pwo Tryz.func216 fun args σ K h=>?_
 unfold Zid ZiV Xo at h
 split at h
 ·rename_i rest t rows a en dp
  obtain ⟨L,ts,rfl,ho,h⟩:=h;split at h
  ·obtain ⟨ey,h⟩:=h;have h0:=ho.lo;have h1:=ho.hi;have h2:=ho.big;refine pwv [] 1 false ?_;have h:=h _ rfl;rw [Zsa] at h;refine ⟨⟨rfl,rfl,rfl,rfl,ey⟩,L,ts,rfl,ho,fun x dm=>?_⟩;rcases x with ⟨v1,ts1⟩ | ⟨r1,e1⟩
   rotate_left
   ·rw [dm] at h;intro a9 d9;(conv=>whnf);exact h _ _
   rw [dm] at h;intro a1 eb au
   have co:=au.hi;(conv=>whnf);exact h _ oM au
  exact h.elim
 exact h.elim
def Zpv (d:Nat):Tbl:=[(216,ZgE d)]
def Zpw (d:Nat):Tbl:=[(153,Zh7),(160,Xr),(152,YO),(279,Zk0 Tryz.f279 (Zpv d))]
def Zt1 (d:Nat):Tbl:=[(158,Wz),(208,XZ),(206,Zal),(162,JF ZM),(159,Xz),(215,Zdt d),(249,Zfi d),(165,Zr7),(152,YO),(160,Xr),(212,Zk0 Tryz.f212 (Zpw d))]
def Zza {d:Nat} (ht:TO w0 nG (Zt1 d)):PC w0 nG 252 (Zvz d):=by
 refine Zjw ZI mixed (tbl:=Zt1 d) ht Tryz.func252 rfl kR kR ?_;intro args σ K h
 unfold Zvz ZiV Xo at h
 split at h
 ·rename_i rest t rows a en dp
  obtain ⟨L,ts,rfl,ho,h⟩:=h;split at h
  ·obtain ⟨ey,h⟩:=h;have h0:=ho.lo;have h1:=ho.hi;have h2:=ho.big;refine ⟨Zo [],Xn [],Yd [],Yd [50],Yd [],1,false,sM,Tc rfl,wN ?_⟩;have h:=h _ rfl;rw [ZmN] at h;refine ⟨L,ts,rfl,ho,wN ?_⟩;refine ⟨L,ts,rfl,ho,[[33]],rfl,sM,fun eg au=>wN ?_,fun eg=>wN ?_⟩
   ·rw [Tj eg] at h;have co:=au.hi;refine ⟨L,ts.tail,rfl,au,fun fin=>Or.inr ⟨rfl,wN ?_⟩⟩;rw [Zdm] at h;refine ⟨L,ts.tail,rfl,au,fun x jv=>?_⟩;exact mq46
   rw [Tf (by rw [eg];simp)] at h;refine ⟨L,ts,rfl,ho,fun fin=>Or.inr ⟨rfl,wN ?_⟩⟩;refine ⟨L,ts,rfl,ho,fun b hn=>?_⟩
   cases b with
   | false =>
    rw [Tf (by rw [hn];simp)] at h;(conv=>whnf);exact mq0
   | true =>
   conv=>whnf
   refine ZEH (fun hc=>wN ?_) (fun hc=>wN ?_)
   ·refine ZEH (fun bw=>wN ?_) (fun bw=>wN ?_)
    ·rw [Tj ⟨hn,oM,bw⟩] at h;rw [Zdm] at h;refine ⟨L,ts,rfl,ho,fun x jv=>?_⟩;exact mq46
    rw [Tf (fun g=>bw g.2.2)] at h;exact mq0
   rw [Tf (fun g=>hc (by have:=g.2.1;omega))] at h;exact mq0
  exact h.elim
 exact h.elim
def ZvD {d:Nat}:OKw w0 nG [(158,Wz),(159,Xz),(215,Zdt d),(208,XZ),(216,Zid d),(160,Xr)] 163 (Zlc d):=by
 refine pwo Tryz.func163 fun args σ K h=>?_
 unfold Zlc Xo at h
 split at h
 ·rename_i rest t rows a en dp
  obtain ⟨L,ts,rfl,ho,h⟩:=h;split at h
  ·rename_i bodies
   obtain ⟨ey,h⟩:=h;have h0:=ho.lo;have h1:=ho.hi;have h2:=ho.big;refine pwv [] 1 false ?_;have h:=h _ rfl;rw [Zo2] at h;refine ⟨L,ts,rfl,ho,wN ?_⟩;refine ⟨L,ts,rfl,ho,fun x dm=>?_⟩;rcases x with ⟨v1,ts1⟩ | ⟨r1,e1⟩
   rotate_left
   ·exact mq50
   rw [dm,R.bind_ok] at h;intro a1 eb au
   have co:=au.hi;(conv=>whnf);refine ⟨L,ts1,rfl,au,⟨ey,sM⟩,fun x ca=>?_⟩;have afu:=ey;rcases x with ⟨v2,ts2⟩ | ⟨r2,e2⟩
   rotate_left
   ·exact mq44
   rw [ca,R.bind_ok] at h;intro a2 fu aj
   have f6:=aj.hi;(conv=>whnf)
   cases bodies with
   | false =>
    rw [Tf sM] at h;(conv=>whnf);refine ⟨L,ts2,rfl,aj,fun x ek=>?_⟩;rcases x with ⟨v3,ts3⟩ | ⟨r3,e3⟩
    rotate_left
    ·exact mq19
    exact mq141
   | true =>
   conv=>whnf
   refine ⟨L,ts2,rfl,aj,[[58,45]],rfl,sM,fun oq bq=>wN ?_,fun oq=>wN ?_⟩
   ·rw [Tj ⟨rfl,oq⟩] at h;have ju:=bq.hi;refine ⟨L,ts2.tail,rfl,bq,ey,fun x mc=>?_⟩;rcases x with ⟨v4,ts4⟩ | ⟨r4,e4⟩
    rotate_left
    ·exact mq100
    rw [mc,R.bind_ok] at h;intro a4 mt f5
    have rm:=f5.hi;(conv=>whnf);refine ⟨L,ts4,rfl,f5,fun x kp=>?_⟩;rcases x with ⟨v5,ts5⟩ | ⟨r5,e5⟩
    rotate_left
    ·exact mq43
    rw [kp,R.bind_ok] at h;intro a5 lw gg
    have uf:=gg.hi;(conv=>whnf);rw [<- Zb,<- Zl];exact h _ oM gg
   rw [Tf (by rw [oq];simp)] at h;refine ⟨L,ts2,rfl,aj,fun x mc=>?_⟩;rcases x with ⟨v4,ts4⟩ | ⟨r4,e4⟩
   rotate_left
   ·exact mq100
   rw [mc,R.bind_ok] at h;intro a4 mt f5
   have rm:=f5.hi;(conv=>whnf);rw [<- Zb];exact h _ oM f5
  exact h.elim
 exact h.elim
def ZmZ:Nat->Ts->R Un
 | 0=>fun _=>.err 0 150
 | d+1=>Zo6 d
def Zsd (d:Nat):Zo6 d=ZmP true d (ZmZ d):=by cases d <;> rfl
def ZvE (b:Bool) (d:Nat) (ts:Ts):R Un:=ZmP b d (ZmZ d) ts
def Zdx (d:Nat):Zp:=Xo fun rest L en dp a ts K=>match rest with
 | [.d (.bool b)]=>(dp=64 - (d:Int)/\0<=dp)/\∀x,ZvE b d ts=x->RKk (fun (v:Un)=>Za8 (XV (Zc L en) v)) L en dp a x K
 | _=>False
def Uz (d:Nat):Zp:=Xo fun rest L en dp a ts K=>match rest with
 | [.d (.bool b)]=>(0<d/\dp=65 - (d:Int)/\0<=dp/\b=true)/\∀x,ZmZ d ts=x->RKk (fun (v:Un)=>Za8 (XV (Zc L en) v)) L en dp a x K
 | _=>False
abbrev Zld (d:Nat):Zp:=ZiV (fun L en (v:Co)=>Za8 (XP (Zc L en) v)) (Zo3 d (ZmZ d)) 0 d
def Zle (d:Nat):Tbl:=[(85,Uz d)]
def Zlf (d:Nat):Tbl:=[(153,Zh7),(160,Xr),(152,YO),(213,Zk0 Tryz.f213 (Zle d))]
def ZvG {d:Nat}:OKw w0 nG [(158,Wz),(159,Xz),(161,Zdq),(208,XZ),(212,Zk0 Tryz.f212 (Zlf d))] 157 (Zld d):=by
 refine pwo Tryz.func157 fun args σ K h=>?_
 unfold Zld ZiV Xo at h
 split at h
 ·rename_i rest t rows a en dp
  obtain ⟨L,ts,rfl,ho,h⟩:=h;split at h
  ·obtain ⟨ey,h⟩:=h;have h0:=ho.lo;have h1:=ho.hi;have h2:=ho.big;refine pwv [] 1 false ?_;have h:=h _ rfl;rw [Zo3] at h;refine ⟨L,ts,rfl,ho,wN ?_⟩;refine ⟨L,ts,rfl,ho,fun x dm=>?_⟩;rcases x with ⟨v1,ts1⟩ | ⟨r1,e1⟩
   rotate_left
   ·exact mq50
   rw [dm,R.bind_ok] at h;intro a1 eb au
   have co:=au.hi;(conv=>whnf);refine ⟨L,ts1,rfl,au,fun x ca=>?_⟩;rcases x with ⟨v2,ts2⟩ | ⟨r2,e2⟩
   rotate_left
   ·exact mq44
   rw [ca,R.bind_ok] at h;intro a2 fu aj
   have f6:=aj.hi;(conv=>whnf);refine ⟨L,ts2,rfl,aj,[[58]],rfl,sM,fun oq bq=>wN ?_,fun oq=>wN ?_⟩
   ·rw [Tj oq] at h;have ju:=bq.hi;refine ⟨L,ts2.tail,rfl,bq,fun x mc=>?_⟩;rcases x with ⟨v4,ts4⟩ | ⟨r4,e4⟩
    rotate_left
    ·exact mq100
    rw [mc,R.bind_ok] at h;intro a4 mt f5
    have rm:=f5.hi;(conv=>whnf);refine ⟨L,ts4,rfl,f5,fun x kp=>?_⟩;rcases x with ⟨v5,ts5⟩ | ⟨r5,e5⟩
    rotate_left
    ·exact mq43
    rw [kp,R.bind_ok] at h;intro a5 lw gg
    have uf:=gg.hi;(conv=>whnf);refine ⟨_,fun _ _ h=>h,Tc rfl,wN ?_⟩;refine ⟨L,ts5,rfl,gg,[[123]],rfl,sM,fun b me=>?_⟩
    cases b with
    | false =>
     rw [Zx,Tf (by rw [me];simp),R.bind_err] at h;(conv=>whnf);refine ⟨L,ts5,rfl,gg,fun x hx=>?_⟩;rw [Z1,Tf (by rw [me];simp)] at hx;exact mq172
    | true =>
    rw [Zx,Tj me] at h;(conv=>whnf);refine ZEH (fun hc=>wN ?_) (fun hc=>wN ?_)
    ·rw [Tj oM,R.bind_err] at h;refine ⟨L,ts5,rfl,gg,wN ?_⟩;exact h _ _
    rw [Tf oM] at h;refine ⟨L,ts5,rfl,gg,fun x hx=>?_⟩;rw [Z1,Tj me] at hx;subst hx;intro a7 xz rx
    have hb7:=rx.hi;(conv=>whnf);refine Zi ?_;refine ⟨_,fun _ _ h=>h,Tc rfl,wN ?_⟩;refine ⟨L,ts5.tail,rfl,rx,⟨oM,oM,oM,rfl⟩,fun x vt=>?_⟩;exact mq41
   rw [Tf (by rw [oq];simp)] at h;refine ⟨_,fun _ _ h=>h,Tc rfl,wN ?_⟩;refine ⟨L,ts2,rfl,aj,[[123]],rfl,sM,fun b me=>?_⟩
   cases b with
   | false =>
    rw [Zx,Tf (by rw [me];simp),R.bind_err] at h;(conv=>whnf);refine ⟨L,ts2,rfl,aj,fun x hx=>?_⟩;rw [Z1,Tf (by rw [me];simp)] at hx;exact mq172
   | true =>
   rw [Zx,Tj me] at h;(conv=>whnf);refine ZEH (fun hc=>wN ?_) (fun hc=>wN ?_)
   ·rw [Tj oM,R.bind_err] at h;refine ⟨L,ts2,rfl,aj,wN ?_⟩;exact h _ _
   rw [Tf oM] at h;refine ⟨L,ts2,rfl,aj,fun x hx=>?_⟩;rw [Z1,Tj me] at hx;subst hx;intro a7 xz rx
   have hb7:=rx.hi;(conv=>whnf);refine Zi ?_;refine ⟨_,fun _ _ h=>h,Tc rfl,wN ?_⟩;refine ⟨L,ts2.tail,rfl,rx,⟨oM,oM,oM,rfl⟩,fun x vt=>?_⟩;exact mq41
  exact h.elim
 exact h.elim
def Zie (inside:Bool) (d:Nat) (un:Ts->R Un) (f:Nat) (tys:List Ty) (rels:List Re) (rules:List Ru) (comps:List Co) (inits:List Ini) (overs:List Ov) (ts:Ts):XY inside d un (f+1) (.mk tys rels rules comps inits overs) ts =
  if ts=[]\/(inside=true/\isW ts [[125]]=true) then .ok (.mk tys rels rules comps inits overs) ts
  else if isW ts [[116,121,112,101]]=true then (if tys.length=256 then .err ts.length 3 else (Zh3 ts.tail).bind fun x ts=>XY inside d un f (.mk (tys++[x]) rels rules comps inits overs) ts)
  else if isW ts [[100,101,99,108]]=true then (if rels.length=256 then .err ts.length 3 else (Zo1 ts.tail).bind fun x ts=>XY inside d un f (.mk tys (rels++[x]) rules comps inits overs) ts)
  else if isW ts [[99,111,109,112]]=true then (if comps.length=64 then .err ts.length 3 else (Zo3 d un ts.tail).bind fun x ts=>XY inside d un f (.mk tys rels rules (comps++[x]) inits overs) ts)
  else if isW ts [[105,110,105,116]]=true then (if inits.length=256 then .err ts.length 3 else (Zo4 ts.tail).bind fun x ts=>XY inside d un f (.mk tys rels rules comps (inits++[x]) overs) ts)
  else if isW ts [[111,118,101,114,114,105,100,101]]=true then (if overs.length=256 then .err ts.length 3 else (Zo5 ts.tail).bind fun x ts=>XY inside d un f (.mk tys rels rules comps inits (overs++[x])) ts)
  else if ZM ts=true then (if rules.length=1024 then .err ts.length 3 else (Zo2 d true ts).bind fun x ts=>XY inside d un f (.mk tys rels (rules++[x]) comps inits overs) ts)
  else .err ts.length 150:=rfl
def ZvI {d:Nat}:OKw w0 nG [(153,Zh7),(154,ZkX),(155,ZgC),(156,ZkZ),(157,Zld d),(158,Wz),(159,Xz),(160,Xr),(161,Zdq),(162,JF ZM),(163,Zlc d),(152,YO)] 85 (Zdx d):=by
 refine pwo Tryz.func85 fun args σ K h=>?_
 unfold Zdx Xo at h
 split at h
 ·rename_i rest t rows a en dp
  obtain ⟨L,ts,rfl,ho,h⟩:=h;split at h
  ·rename_i inside
   obtain ⟨ey,h⟩:=h;have h0:=ho.lo;have h1:=ho.hi;have h2:=ho.big;refine pwv [(1,⟨[],[0,1,4],fun vs σ=>∃(tys:List Ty) (rels:List Re) (rules:List Ru) (comps:List Co) (inits:List Ini) (overs:List Ov) (a':Int) (ts':Ts) (f:Nat),vs=[]/\σ=⟨[.cells t [.d (.sl (ZR L)),.d (.int .i64 a'),.d (.int .i64 en),.d (.int .i64 dp)],.cells 80 [.sl 0 46 (tys.map (Zs (Zc L en))),.sl 1 51 (rels.map (ZF (Zc L en))),.sl 2 32 (rules.map (Zy (Zc L en))),.sl 3 152 (comps.map (XP (Zc L en))),.sl 4 157 (inits.map (Wb (Zc L en))),.sl 5 161 (overs.map (Wc (Zc L en)))]],[5,4,3,2,1,0],6⟩/\ROK L a' ts'/\a<=a'/\ts'.length<f/\(tys.length<=256/\rels.length<=256/\rules.length<=1024/\comps.length<=64/\inits.length<=256/\overs.length<=256)/\RKk (fun (v:Un)=>Za8 (XV (Zc L en) v)) L en dp a (XY inside d (ZmZ d) f (.mk tys rels rules comps inits overs) ts') (fun pe a' dp'=>K pe ⟨[.cells t [.d (.sl (ZR L)),.d (.int .i64 a'),.d (.int .i64 en),.d (.int .i64 dp')]],[],0⟩),fun _ σ=>match σ with | ⟨.cells _ [_,.d (.int _ i),_,_]::_,_,_⟩=>((L.length:Int) - i).toNat | _=>0⟩)] 1 false ?_;have h:=h _ rfl;rw [ZvE,ZmP] at h;refine ⟨⟨[],[],[],[],[],[],a,ts,ts.length+1,rfl,rfl,ho,oM,oM,sM,h⟩,?_⟩
   clear h
   intro vs σ hI
   obtain ⟨tys,rels,rules,comps,inits,overs,a',ts',f,rfl,rfl,ct,ace,hf,afv,h⟩:=hI;obtain ⟨f,rfl⟩:∃g,f=g+1:=⟨f - 1,oM⟩
   rw [Zie] at h;have pg:=ct.hi;have rv:=ct.len;have wd:=ct.lo;(conv=>whnf);refine ZEH (fun hc=>wN ?_) (fun hc=>wN ?_)
   ·have ai:ts'≠[]:=by rintro rfl;have hc:a'<((ZR L).length:Int):=hc;rw [XO] at hc;simp at rv;omega
    cases inside with
    | false =>
     rw [Tf (by simp [ai])] at h;exact mq1
    | true =>
    conv=>whnf
    refine ⟨L,ts',rfl,ct,[[125]],rfl,sM,fun b hw=>?_⟩
    cases b with
    | true =>
     rw [Tj (.inr ⟨rfl,hw⟩)] at h;(conv=>whnf)
     repeat (refine ⟨rfl,?_⟩;conv=>whnf)
     have h:=h _ oM ct;simp only [Za8,XV,YZ,Tx,TM] at h;exact h
    | false =>
    rw [Tf (by simp [ai,hw])] at h;exact mq1
   have eo:ts'=[]:=by have hc:¬a'<((ZR L).length:Int):=hc;rw [XO] at hc;exact T4 oM
   rw [Tj (.inl eo)] at h;have h:=h _ oM ct;simp only [Za8,XV,YZ,Tx,TM] at h;exact h
  exact h.elim
 exact h.elim
def ZbQ:PC w0 nG 158 Wz:=ZrV ⟨JG,trivial⟩
def cIs:PC w0 nG 153 Zh7:=ZCc ⟨JG,ZjI,trivial⟩
def Zfk:PC w0 nG 162 (JF ZM):=ZrX ⟨JG,ZjH,trivial⟩
def V6:PC w0 nG 152 YO:=Zvh ⟨ZbQ,trivial⟩
def Zao:PC w0 nG 208 XZ:=Zvj ⟨cIs,trivial⟩
def JJ:PC w0 nG 160 Xr:=Zvl ⟨Zao,V6,trivial⟩
def ZCd:PC w0 nG 154 ZkX:=Zvn ⟨V6,trivial⟩
def Ji:PC w0 nG 159 Xz:=ZrZ ⟨Zfk,V6,trivial⟩
def ZjN:PC w0 nG 248 (JF Z0):=Zpd ⟨JG,cIs,ZjH,Zba,trivial⟩
def Zpx:PC w0 nG 295 Zr0:=Zpe ⟨JG,trivial⟩
def ZvJ:PC w0 nG 245 ZgB:=Zpl ⟨Ji,JJ,trivial⟩
def ZjO:PC w0 nG 209 UV:=Zpn ⟨cIs,Zia ⟨Zfk,V6,ZvJ,Zao,trivial⟩,trivial⟩
def Zt2:PC w0 nG 161 Zdq:=Zr2 ⟨Zao,ZmT ⟨Zfk,V6,Ji,Zao,trivial⟩,JJ,trivial⟩
def Zzb:PC w0 nG 211 ZjL:=Zr4 ⟨Ji,JJ,ZjO,trivial⟩
def Zzc:PC w0 nG 155 ZgC:=Zr6 ⟨ZbQ,Ji,Zao,JJ,ZjO,ZjK ⟨Zfk,V6,Zzb,Zao,trivial⟩,trivial⟩
def ZCe:PC w0 nG 156 ZkZ:=Zvp ⟨ZbQ,Ji,Zao,JJ,ZjO,trivial⟩
def ZEa:PC w0 nG 165 Zr7:=Zy9 ⟨Zpp ⟨Zao,trivial⟩,Zpq ⟨Zao,trivial⟩,trivial⟩
def Zif (h:WO (GG w0 nG).P 247):PC w0 nG 247 (Vk 0):=⟨h,fun args σ K hs=>by
 exfalso;unfold Vk at hs
 split at hs
 ·exact absurd hs.1.2.2.2.2.1 oM
 exact hs⟩
def Zig {d:Nat} (h:PC w0 nG 247 (Zam d)):PC w0 nG 247 (Vk (d+1)):=h.weaken1 fun args σ K hs=>by
 unfold Vk at hs
 unfold Zam
 split at hs
 ·obtain ⟨⟨h1,h2,h3,h4,h5,h6,h7⟩,hs⟩:=hs;exact ⟨⟨h1,h2,h3,h4,oM,h7⟩,hs⟩
 exact hs.elim
def Zm0 (d:Nat) (h:WO (GG w0 nG).P 276):PC w0 nG 276 (Zdu d 0):=⟨h,fun args σ K hs=>by
 exfalso;unfold Zdu Xo at hs
 split at hs
 ·obtain ⟨L,ts,_,_,hs⟩:=hs;split at hs
  ·exact absurd hs.1.2.1 oM
  exact hs
 exact hs⟩
def Zm1 {d j:Nat} (h:PC w0 nG 276 (Zfj d j)):PC w0 nG 276 (Zdu d (j+1)):=h.weaken1 fun args σ K hs=>by
 unfold Zdu Xo at hs
 unfold Zfj Xo
 split at hs
 ·obtain ⟨L,ts,h1,h2,hs⟩:=hs;refine ⟨L,ts,h1,h2,?_⟩;split at hs
  ·exact ⟨⟨hs.1.1,hs.1.2.2.1,hs.1.2.2.2.1,by have:=hs.1.2.2.2.2;omega⟩,hs.2⟩
  exact hs.elim
 exact hs
structure Deep (w0:World) (nG d:Nat):Prop where
 sg:PC w0 nG 294 (Zib d)
 ex:PC w0 nG 249 (ZjM d)
 many:PC w0 nG 247 (Vk d)
def Zlg {d:Nat} (D:Deep w0 nG d):PC w0 nG 215 (Zdt d):=Zvs ⟨(Zb6 (tb:=Zk4 d) ⟨cIs,JJ,V6,(Zb6 (tb:=Zk3 d) ⟨cIs,D.many,trivial⟩ Tryz.func246 rfl kR kR),trivial⟩ Tryz.func212 rfl kR kR),trivial⟩
def Zse {d:Nat} (D:Deep w0 nG d):PC w0 nG 321 (Zk2 d):=Zvu ⟨(Zb6 (tb:=Zk6 d) ⟨cIs,JJ,V6,(Zy8 (tb:=Zk5 d) ⟨JJ,D.ex,trivial⟩ Tryz.func325 rfl kR kR),trivial⟩ Tryz.func212 rfl kR kR),trivial⟩
def ZjP {d:Nat} (D:Deep w0 nG d):PC w0 nG 309 (Zan d):=ZmX ⟨ZjN,V6,JG,(Zb6 (tb:=Zk8 d) ⟨cIs,JJ,V6,(Zb6 (tb:=Zk7 d) ⟨D.ex,trivial⟩ Tryz.func320 rfl kR kR),trivial⟩ Tryz.func212 rfl kR kR),Zlg D,Ji,cIs,Zba,Zse D,trivial⟩
def Zbe {d:Nat} (D:Deep w0 nG d):PC w0 nG 294 (Zcq d):=Zps ⟨ZbQ,cIs,(Zb6 (tb:=Zla d) ⟨cIs,JJ,V6,(Zb6 (tb:=Zk9 d) ⟨D.sg,trivial⟩ Tryz.func308 rfl kR kR),trivial⟩ Tryz.func212 rfl kR kR),ZjP D,trivial⟩
def Zlh {d:Nat} (D:Deep w0 nG d):∀j,PC w0 nG 276 (Zfj d j)
 | 0=>Zpu ⟨Zbe D,Zpx,Zm0 d (Ze Tryz.func276 kR rfl),trivial⟩
 | j+1=>Zpu ⟨Zbe D,Zpx,Zm1 (Zlh D j),trivial⟩
def ZgG {d:Nat} (D:Deep w0 nG d):PC w0 nG 249 (Zfi d):=Zvy ⟨Zlh D 6,trivial⟩
def Zpy {d:Nat} (h:PC w0 nG 249 (Zfi d)):PC w0 nG 247 (Zam d):=Zph d ⟨ZjN,V6,h,Zao,trivial⟩
def Zzd:∀d,Deep w0 nG d
 | 0=>⟨Zdr (Ze Tryz.func294 kR rfl),Zdr (Ze Tryz.func249 kR rfl),Zif (Ze Tryz.func247 kR rfl)⟩
 | d+1=>⟨Zds (Zbe (Zzd d)),Zds (ZgG (Zzd d)),Zig (Zpy (ZgG (Zzd d)))⟩
def Zze (d:Nat):PC w0 nG 215 (Zdt d):=Zlg (Zzd d)
def ZCf (d:Nat):PC w0 nG 249 (Zfi d):=ZgG (Zzd d)
def Zzf:PC w0 nG 251 (ZkY Ya):=Zsc ⟨ZjN,cIs,trivial⟩
def ZvK {d:Nat} (h:PC w0 nG 216 (ZgE d)):PC w0 nG 252 (Zvz d):=Zza ⟨ZbQ,Zao,JG,Zfk,Ji,Zze d,ZCf d,ZEa,V6,JJ,(Zb6 (tb:=Zpw d) ⟨cIs,JJ,V6,(Zb6 (tb:=Zpv d) ⟨h,trivial⟩ Tryz.func279 rfl kR kR),trivial⟩ Tryz.func212 rfl kR kR),trivial⟩
def Zli {d:Nat} (h:PC w0 nG 216 (ZgE d)):PC w0 nG 216 (Zid d):=ZvB ⟨Zpj d ⟨Zzf,V6,ZvK h,Zao,trivial⟩,trivial⟩
def Zt3:∀d,PC w0 nG 216 (ZgE d)
 | 0=>Zdr (Ze Tryz.func216 kR rfl)
 | d+1=>Zds (Zli (Zt3 d))
def ZCg (d:Nat):PC w0 nG 216 (Zid d):=Zli (Zt3 d)
def ZCh (d:Nat):PC w0 nG 163 (Zlc d):=ZvD ⟨ZbQ,Ji,Zze d,Zao,ZCg d,JJ,trivial⟩
def Zm2 (h:WO (GG w0 nG).P 85):PC w0 nG 85 (Uz 0):=⟨h,fun args σ K hs=>by
 exfalso;unfold Uz Xo at hs
 split at hs
 ·obtain ⟨L,ts,_,_,hs⟩:=hs;split at hs
  ·exact absurd hs.1.1 oM
  exact hs
 exact hs⟩
def Zm3 {d:Nat} (h:PC w0 nG 85 (Zdx d)):PC w0 nG 85 (Uz (d+1)):=h.weaken1 fun args σ K hs=>by
 unfold Uz Xo at hs
 unfold Zdx Xo
 split at hs
 ·obtain ⟨L,ts,h1,h2,hs⟩:=hs;refine ⟨L,ts,h1,h2,?_⟩;split at hs
  ·obtain ⟨⟨g1,g2,g3,rfl⟩,hs⟩:=hs;refine ⟨oM,?_⟩;rw [ZmZ,Zsd] at hs;exact hs
  exact hs.elim
 exact hs
def Zsf {d:Nat} (h:PC w0 nG 85 (Uz d)):PC w0 nG 157 (Zld d):=ZvG ⟨ZbQ,Ji,Zt2,Zao,(Zb6 (tb:=Zlf d) ⟨cIs,JJ,V6,(Zb6 (tb:=Zle d) ⟨h,trivial⟩ Tryz.func213 rfl kR kR),trivial⟩ Tryz.func212 rfl kR kR),trivial⟩
def Zlj {d:Nat} (h:PC w0 nG 85 (Uz d)):PC w0 nG 85 (Zdx d):=ZvI ⟨cIs,ZCd,Zzc,ZCe,Zsf h,ZbQ,Ji,JJ,Zt2,Zfk,ZCh d,V6,trivial⟩
def Zt4:∀d,PC w0 nG 85 (Uz d)
 | 0=>Zm2 (Ze Tryz.func85 kR rfl)
 | d+1=>Zm3 (Zlj (Zt4 d))
def ZCi (d:Nat):PC w0 nG 85 (Zdx d):=Zlj (Zt4 d)
def R.good {α:Type} (x:R α):Prop:=match x with | .ok _ _=>True | .err _ e=>e≠0
def ZEI {α β:Type} {x:R α} {f:α->Ts->R β} (h:x.good) (hf:∀a ts,(f a ts).good):(x.bind f).good:=by
 cases x with
 | ok a ts=>exact hf a ts
 | err r e=>exact h
def ZE3 {α:Type} (a:α) (ts:Ts):(R.ok a ts:R α).good:=trivial
def ZEK {α:Type} {c:Prop} [Decidable c] {x y:R α} (h1:x.good) (h2:y.good):(if c then x else y).good:=by split;exact h1;exact h2
def ZEM {α:Type} {r e:Nat} (h:e≠0):(R.err r e:R α).good:=h
def Yb (w:Bs) (ts:Ts):(Z1 w ts).good:=ZEK trivial (ZEM dM)
def ZP (ts:Ts):(XT ts).good:=ZEK trivial (ZEM dM)
def YB {α:Type} {d:Nat} {fr tw:Bs} {read:Ts->R α} (h:∀ts,(read ts).good) (ts:Ts):(Zx d fr tw read ts).good :=
 ZEK (ZEK (ZEM dM) (ZEI (h _) fun _ _=>ZEK trivial (ZEI (Yb _ _) fun _ _=>trivial))) (ZEM dM)
def Zdy {α:Type} {sign:Bs} {ao:Nat} {st:Ts->Bool} {one:Ts->R α} (h:∀ts,(one ts).good):∀f l ts,(Wx sign ao st one f l ts).good
 | 0,_,_=>ZEM dM
 | f+1,l,ts=>ZEK (ZEM dM) (ZEI (h _) fun _ _=>ZEK (Zdy h f _ _) trivial)
def Vm {α:Type} {sign:Bs} {ao:Nat} {st:Ts->Bool} {one:Ts->R α} (h:∀ts,(one ts).good) (ts:Ts):(XU sign ao st one ts).good:=Zdy h _ _ _
def Zm4 (ts:Ts):(Uv ts).good:=ZEI (ZP _) fun _ _=>ZEI (Yb _ _) fun _ _=>ZEI (ZP _) fun _ _=>trivial
def JK (w:Bs) (ts:Ts):(Za7 w ts).good:=ZEK trivial (Vm Zm4 _)
def Zbf (ts:Ts):(Zfg ts).good:=ZEK (ZEI (Vm ZP _) fun _ _=>ZEI (Yb _ _) fun _ _=>trivial) trivial
def Zpz (ts:Ts):(Zdi ts).good:=ZEI (ZP _) fun _ _=>ZEI (Yb _ _) fun _ _=>ZEI (JK _ _) fun _ _=>ZEI (Yb _ _) fun _ _=>trivial
def Zm5 (ts:Ts):(Zh3 ts).good:=ZEI (ZP _) fun _ _=>ZEK (ZEI (ZP _) fun _ _=>trivial) (ZEI (Yb _ _) fun _ _ =>
 ZEK (ZEI (JK _ _) fun _ _=>ZEI (Yb _ _) fun _ _=>trivial) (ZEI (Vm Zpz _) fun _ _=>trivial))
def ZpA (ts:Ts):(Zo1 ts).good:=ZEI (ZP _) fun _ _=>ZEI (Yb _ _) fun _ _=>ZEI (JK _ _) fun _ _=>ZEI (Yb _ _) fun _ _=>trivial
def Zap {d:Nat} {ex:Ts->R Ex} (h:∀ts,(ex ts).good) (fr tw:Bs) (ts:Ts):(Zh4 d ex fr tw ts).good:=by
 unfold Zh4
 exact YB (fun ts=>ZEK (ZE3 _ _) (Vm h _)) ts
def Zdz {ex:Ts->R Ex} (h:∀ts,(ex ts).good):∀k l ts,(Zah ex k l ts).good
 | 0,_,_=>trivial
 | k+1,l,ts=>ZEI (ZEK trivial (Yb _ _)) fun _ _=>ZEI (h _) fun _ _=>Zdz h k _ _
def Zih {d:Nat} {ex:Ts->R Ex} (h:∀ts,(ex ts).good) (ts:Ts):(Zai d ex ts).good :=
 ZEK (ZEM dM) <| ZEK trivial <| ZEK trivial <| ZEK (YB h _) <| ZEK (ZEI (Zap h _ _ _) fun _ _=>trivial) <|
 ZEK (ZEI (ZP _) fun _ _=>ZEK (ZEI (Zap h _ _ _) fun _ _=>trivial) trivial) <|
 ZEK (ZEI (YB (Zdz h _ _) _) fun _ _=>trivial) <| ZEK trivial <| ZEK trivial trivial
def ZdA {sub:Nat->Ts->R Ex} (h:∀n ts,(sub n ts).good) (least:Nat):∀f e ts,(Jg sub least f e ts).good
 | 0,_,_=>ZEM dM
 | f+1,e,ts=>ZEK trivial (ZEI (h _ _) fun _ _=>ZdA h least f _ _)
def Zbg {sg:Ts->R Ex} (h:∀ts,(sg ts).good):∀k least ts,(JD sg k least ts).good
 | 0,_,_=>h _
 | k+1,least,ts=>ZEI (h _) fun _ _=>ZdA (fun n ts=>Zbg h k n ts) _ _ _ _
def ZbR {d:Nat} {sg:Ts->R Ex} (h:∀ts,(sg ts).good) (ts:Ts):(Zdj d sg ts).good :=
 ZEK (ZEI (YB h _) fun _ _=>trivial) <| ZEK (ZEI (YB h _) fun _ _=>trivial) (Zih (fun ts=>Zbg h _ _ _) _)
def ZdB:∀d ts,(Xy d ts).good
 | 0,ts=>ZbR (fun _=>(ZEM dM)) ts
 | d+1,ts=>ZbR (ZdB d) ts
def ZdC (d:Nat) (ts:Ts):(Zaj d ts).good:=Zbg (ZdB d) _ _ _
def Zfl:∀d ts,(Zdk d ts).good
 | 0,_=>(ZEM dM)
 | d+1,ts=>ZdC d ts
def Zm6 (ts:Ts):(Zdl ts).good:=by
 unfold Zdl
 split
 ·exact ZEM dM
 ·split <;> trivial
 trivial
def ZbS (d op a:Nat) (ts:Ts):(Zdm d op a ts).good:=ZEI (ZP _) fun _ _=>ZEI (Zap (Zfl d) _ _ _) fun _ _=>trivial
def ZdD {d:Nat} {bd:Ts->R (List Li)} (h:∀ts,(bd ts).good) (a op:Nat) (l:List Ex) (ts:Ts):(Wy d bd a op l ts).good :=
 ZEK (ZEI (Yb _ _) fun _ _=>ZEI (YB h _) fun _ _=>trivial) trivial
def Zlk {d:Nat} {bd:Ts->R (List Li)} (h:∀ts,(bd ts).good) (ts:Ts):(ZmN d bd ts).good :=
 ZEK (ZbS _ _ _ _) <| ZEK (ZbS _ _ _ _) <| ZEI (ZdC _ _) fun _ _=>ZEI (Zm6 _) fun _ _=>ZEK (ZdD h _ _ _ _) (ZEI (ZdC _ _) fun _ _=>ZdD h _ _ _ _)
def Zii:∀d ts,(ZmO d ts).good
 | 0,ts=>Vm (Zlk fun _=>(ZEM dM)) ts
 | d+1,ts=>Vm (Zlk (Zii d)) ts
def ZpB (d:Nat) (b:Bool) (ts:Ts):(Zo2 d b ts).good:=ZEI (ZP _) fun _ _=>ZEI (Zap (Zfl d) _ _ _) fun _ _ =>
 ZEK (ZEI (Zii _ _) fun _ _=>ZEI (Yb _ _) fun _ _=>trivial) (ZEI (Yb _ _) fun _ _=>trivial)
def ZpC {d:Nat} {un:Ts->R Un} (h:∀ts,(un ts).good) (ts:Ts):(Zo3 d un ts).good:=ZEI (ZP _) fun _ _=>ZEI (Zbf _) fun _ _ =>
 ZEK (ZEI (ZP _) fun _ _=>ZEI (Zbf _) fun _ _=>ZEI (YB h _) fun _ _=>trivial) (ZEI (YB h _) fun _ _=>trivial)
def ZpD (ts:Ts):(Zo4 ts).good:=ZEI (ZP _) fun _ _=>ZEI (Yb _ _) fun _ _=>ZEI (ZP _) fun _ _=>ZEI (Zbf _) fun _ _=>trivial
def ZpE (ts:Ts):(Zo5 ts).good:=ZEI (ZP _) fun _ _=>trivial
def Yr {b:Bool} {d:Nat} {un:Ts->R Un} (h:∀ts,(un ts).good):∀f u ts,(XY b d un f u ts).good
 | 0,_,_=>ZEM dM
 | f+1,.mk tys rels rules comps inits overs,ts=>by
  rw [Zie];exact ZEK trivial <| ZEK (ZEK (ZEM dM) (ZEI (Zm5 _) fun _ _=>Yr h f _ _)) <| ZEK (ZEK (ZEM dM) (ZEI (ZpA _) fun _ _=>Yr h f _ _)) <|
   ZEK (ZEK (ZEM dM) (ZEI (ZpC h _) fun _ _=>Yr h f _ _)) <| ZEK (ZEK (ZEM dM) (ZEI (ZpD _) fun _ _=>Yr h f _ _)) <|
   ZEK (ZEK (ZEM dM) (ZEI (ZpE _) fun _ _=>Yr h f _ _)) <| ZEK (ZEK (ZEM dM) (ZEI (ZpB _ _ _) fun _ _=>Yr h f _ _)) (ZEM dM)
def Zfm:∀d ts,(Zo6 d ts).good
 | 0,ts=>Yr (fun _=>(ZEM dM)) _ _ _
 | d+1,ts=>Yr (Zfm d) _ _ _
def Zij (ts:Ts):(JE ts).good:=Yr (Zfm 63) _ _ _
def Zm7 {a:Nat} {r:Bs} {room:Bool} {t:Tok} (h:Jz a r room=.tok t):room=true:=by
 cases room with
 | true=>rfl
 | false =>
 unfold Jz at h
 simp only at h;split at h
 ·cases h
 simp at h
def Zll:∀(f:Nat) (m:Int) (a:Nat) (r:Bs),(Um f m a r).1.length<=m.toNat
 | 0,m,a,r=>by simp [Um]
 | f+1,m,a,r=>by
  unfold Um
  split
  ·simp
  simp only;split
  ·simp
  split
  ·simp
  rename_i t ht
  have hr:=Zm7 ht;rw [TQ] at hr;have:=Zll f (m - 1) t.fin ((r.drop (YN r).2).drop (t.fin - (a+(YN r).2)));simp only [Te];omega
def ZvL (s:Bs) (m:Int):(Zen s m).1.length<=m.toNat:=Zll _ _ _ _
inductive Top (α:Type) where
 | ok (v:α) (L:List Tok) | err (p:Int) (e:Nat)
def UA {α:Type} (bytes ao:Nat) (P:Ts->R α) (s:Bs):Top α :=
 if bytes<s.length then .err 0 3
 else if (Zen s ao).2.2≠0 then .err (Zen s ao).2.1 (Zen s ao).2.2
 else match P ((Zen s ao).1.map Tok.t0) with
  | .ok v []=>.ok v (Zen s ao).1
  | .ok v (_::ts)=>.err (Zc (Zen s ao).1 s.length (ts.length+1)) 150
  | .err r e=>.err (Zc (Zen s ao).1 s.length r) e
def ZjQ {α:Type} {bytes ao:Nat} {P:Ts->R α} (hP:∀ts,(P ts).good) {s:Bs} {p:Int} {e:Nat} (h:UA bytes ao P s=.err p e):e≠0:=by
 unfold UA at h
 split at h
 ·cases h;decide
 split at h
 ·rename_i hn;cases h;exact hn
 split at h
 ·cases h
 ·cases h;decide
 rename_i r e' he
 cases h
 have:=hP ((Zen s ao).1.map Tok.t0);rw [he] at this;exact this
def Zfn:Zp:=fun args σ K=>match args,σ with
 | [.d (.str s),.d (.int .i64 m)],⟨[],[],0⟩=>s.length<4294967281 /\
   ∀l p c,Zen s m=(l,(p,c))->(c=0->K (.ret (.tuple [.d (.sl (ZR l)),.d (.int .i64 p),.d (.int .i64 0)])) ⟨[],[],0⟩) /\
    (c≠0->K (.ret (.tuple [.d (.sl []),.d (.int .i64 p),.d (.int .i64 c)])) ⟨[],[],0⟩)
 | _,_=>False
def ZjR:ZG Zfn:=fun args σ K K' hK h=>by
 unfold Zfn at h |-
 split at h
 ·exact ⟨h.1,fun l p c hx=>⟨fun g=>hK _ _ ((h.2 l p c hx).1 g),fun g=>hK _ _ ((h.2 l p c hx).2 g)⟩⟩
 exact h.elim
def ZvM (h:PC w0 nG 150 Zag):PC w0 nG 150 Zfn:=h.weaken1 fun args σ K hs=>by
 unfold Zfn at hs
 unfold Zag
 split at hs
 ·rename_i s m
  obtain ⟨h1,hs⟩:=hs;refine ⟨h1,?_⟩;have hs:=hs (Zen s m).1 (Zen s m).2.1 (Zen s m).2.2 rfl
  by_cases hc:(Zen s m).2.2=0
  ·rw [Tj hc,hc];exact hs.1 hc
  rw [Tf hc];exact hs.2 hc
 exact hs.elim
def recOf:Nat×Nat×Code:=match Zy2 (YW Tryz.f151) with | some x=>x | none=>(0,0,.skip)
def Zzg:List PV->St->(St->Prop)->Prop:=fun args σ K=>args.length<=Tryz.f151.ntmps/\W (ctx Jy [] (Zo [])) recOf.2.2 (Zvc Jy Tryz.f151 σ.bx.length K) (V4 (V4 (ZcH 0 args) recOf.1 (.d .nili)) recOf.2.1 (.d .nili)) σ
def Zzh:PV->List PV->St->(St->Prop)->Prop:=fun pv args σ K=>args.length<=Tryz.f151.ntmps/\W (ctx Jy [] (Zo [])) recOf.2.2 (Zvc Jy Tryz.f151 σ.bx.length K) (V4 (V4 (ZcH 0 args) recOf.1 pv) recOf.2.1 pv) σ
def Zzi:PDef (GG w0 nG) 151 Zzg Zzh :=
 Zo8 (a:=recOf.1) (b:=recOf.2.1) (rest:=recOf.2.2) ZI mixed Tryz.func151 rfl kR rfl kR (fun args σ K h=>⟨ZrL Jy [] (Zo []) (fun _=>0) (fun _=>false),σ.bx.length,CxG.of (tbl:=[]) ZI trivial trivial _ _ _,Tr _,h.1,h.2⟩) (fun pv args σ K h=>⟨ZrL Jy [] (Zo []) (fun _=>0) (fun _=>false),σ.bx.length,CxG.of (tbl:=[]) ZI trivial trivial _ _ _,Tr _,h.1,h.2⟩)
def WhK {α:Type} (tU:TypeId) (enc:List Tok->Int->α->List PV) (bad:List PV->Prop) (n:Int) (x:Top α) (K:PEnd->St->Prop):Prop:=match x with
 | .ok v L=>K (.ret (.tuple [.d (.int .i64 0),.d (.int .i64 0)])) ⟨[.cells tU (enc L n v)],[],0⟩
 | .err p e=>∀cs,bad cs->K (.ret (.tuple [.d (.int .i64 p),.d (.int .i64 e)])) ⟨[.cells tU cs],[],0⟩
def ZpF {l:List Tok} (h:l.length<=1048576):ROK l 0 (l.map Tok.t0):=⟨oM,oM,h,by simp [tz]⟩
def ZEb (cs:List PV):Prop:=∃a b c d e f:List (List D),cs=[.d (.sl a),.d (.sl b),.d (.sl c),.d (.sl d),.d (.sl e),.d (.sl f)]
def Zlm:Tbl:=[(85,Zdx 64)]
def ZvN:Zp:=fun args σ K=>match args,σ with
 | [.d (.str s),.d (.int .i64 by'),.d (.int .i64 ao),.func g [] [.ptr 0 0]],⟨[.cells tU c0],tk,n⟩=>(g=84/\by'=65536/\ao=16384/\c0=[.sl 0 46 [],.sl 1 51 [],.sl 2 32 [],.sl 3 152 [],.sl 4 157 [],.sl 5 161 []]/\tk=[5,4,3,2,1,0]/\n=6)/\s.length<4294967281 /\
   ∀x,UA 65536 16384 JE s=x->WhK tU (fun L n (v:Un)=>(XV (Zc L n) v).map .d) ZEb s.length x K
 | _,_=>False
def Zt5:Tbl:=[(150,Zfn),(84,Zk0 Tryz.f84 Zlm),(152,YO)]
def ZpG (ht:TO w0 nG Zt5):PC w0 nG 83 ZvN:=by
 refine Zgy ZI mixed Tryz.func83 rfl kR kR Zzi ?_;intro args σ K h
 unfold ZvN at h
 split at h
 ·obtain ⟨⟨rfl,rfl,rfl,rfl,rfl,rfl⟩,hs,h⟩:=h
  rename_i s tU
  have h:=h _ rfl;refine ⟨ZrL Jy Zt5 (Zo []) (Xn []) (Yd []),1,false,CxG.of ZI ht ⟨ZjR,Zpo _ _,ZjG,trivial⟩ _ _ _,sM,Tc rfl,wN ?_⟩;unfold UA at h
  refine ZEH (fun hc=>wN ?_) (fun hc=>wN ?_)
  ·rw [Tj oM] at h;exact h _ ⟨_,_,_,_,_,_,rfl⟩
  rw [Tf oM] at h;refine ⟨hs,fun l p c hx=>?_⟩;have aa:=ZvL s 16384;rw [show ((16384:Nat):Int)=16384 from rfl,hx] at h;rw [hx] at aa;refine ⟨fun h0=>?_,fun h0=>wN ?_⟩
  ·subst h0;rw [Tf sM] at h;simp only at h aa;have ho:=ZpF (l:=l) (by simp at aa;omega)
   clear hx aa
   generalize wi:l.map Tok.t0=ts at h ho;(conv=>whnf);refine ⟨_,fun _ _ h=>h,Tc rfl,wN ?_⟩;refine ⟨l,ts,rfl,ho,oM,fun x hx=>?_⟩;rw [show JE ts=ZvE false 64 ts from rfl,hx] at h;rcases x with ⟨⟨v1,v2,v3,v4,v5,v6⟩,ts2⟩ | ⟨r,e⟩
   rotate_left
   ·intro a9 d9;(conv=>whnf);refine ⟨Tc rfl,?_⟩;(conv=>whnf);(repeat (refine ⟨rfl,?_⟩;conv=>whnf));exact h _ ⟨_,_,_,_,_,_,rfl⟩
   intro a2 fu aj
   conv=>whnf
   have gl:=aj.len
   (repeat (refine ⟨rfl,?_⟩;conv=>whnf))
   refine ZEH (fun js=>?_) (fun js=>?_)
   ·have js:a2<l.length:=by have js:a2<((ZR l).length:Int):=js;rw [XO] at js;exact js
    cases ts2 with
    | nil=>simp at gl;omega
    | cons t0 ts3 =>
    conv=>whnf
    refine ⟨l,_,rfl,aj,wN ?_⟩;refine ⟨Tc rfl,wN ?_⟩
    (repeat (refine ⟨rfl,?_⟩;conv=>whnf))
    exact h _ ⟨_,_,_,_,_,_,rfl⟩
   have js:¬a2<l.length:=by have js:¬a2<((ZR l).length:Int):=js;rw [XO] at js;exact js
   obtain rfl:ts2=[]:=T4 oM;(conv=>whnf);refine ⟨Tc rfl,wN ?_⟩;exact h
  rw [Tj h0] at h;refine ZEJ (fun bw=>?_) (fun bw=>absurd (show c=0 by omega) h0);(conv=>whnf)
  (repeat (refine ⟨rfl,?_⟩;conv=>whnf))
  exact h _ ⟨_,_,_,_,_,_,rfl⟩
 exact h.elim
def ZDr {α:Type} (enc:List Tok->α->PV) (zero:PV) (x:Top α) (K:PEnd->St->Prop):Prop:=match x with
 | .ok v L=>K (.ret (.tuple [enc L v,.d (.int .i64 0),.d (.int .i64 0)])) ⟨[],[],0⟩
 | .err p e=>K (.ret (.tuple [zero,.d (.int .i64 p),.d (.int .i64 e)])) ⟨[],[],0⟩
def Zln:Zp:=fun args σ K=>match args,σ with
 | [.d (.str s)],⟨[],[],0⟩=>s.length<4294967281/\∀x,UA 65536 16384 JE s=x->ZDr (fun L (v:Un)=>Za8 (XV (Zc L s.length) v)) (Za8 (XV (fun _=>0) .nil)) x K
 | _,_=>False
def ZvP:OKw w0 nG [(83,ZvN)] 35 Zln:=by
 refine pwo Tryz.func35 fun args σ K h=>?_
 unfold Zln at h
 split at h
 ·rename_i s
  obtain ⟨hs,h⟩:=h;refine pwv [] 0 false ?_;refine ⟨⟨rfl,rfl,rfl,rfl,rfl,rfl⟩,hs,fun x hx=>?_⟩;have h:=h x hx
  cases x with
  | ok v L =>
   obtain ⟨v1,v2,v3,v4,v5,v6⟩:=v;exact mq52
  | err p e =>
  have he:=ZjQ Zij hx;intro cs dj
  obtain ⟨b1,b2,b3,b4,b5,b6,rfl⟩:=dj;(conv=>whnf);refine ZEJ (fun hc=>?_) (fun hc=>absurd (show e=0 by omega) he);exact mq52
 exact h.elim
def Zm8 (hg:GlobOK w0 nG):PC w0 nG 150 Zfn:=ZvM (Zvb hg)
def ZCj (hg:GlobOK w0 nG):PC w0 nG 35 Zln:=ZvP ⟨ZpG ⟨Zm8 hg,Zb6 (tb:=Zlm) ⟨ZCi 64,trivial⟩ Tryz.func84 rfl kR kR,V6,trivial⟩,trivial⟩
mutual
def szE:Ex->Nat
 | .mk _ _ _ l _=>1+Zlo l
def Zlo:List Ex->Nat
 | []=>0
 | x::l=>1+szE x+Zlo l
end
def Zlp:∀(l:List Ex),l.length<=Zlo l
 | []=>Tr _
 | x::l=>by have:=Zlp l;simp only [Te,Zlo];omega
def Zlq:∀(l:List Ex) (i:Nat) (h:i<l.length),szE l[i]<Zlo l
 | x::l,0,h=>by simp only [List.getElem_cons_zero,Zlo];omega
 | x::l,i+1,h=>by have:=Zlq l i (by simpa using h);simp only [List.getElem_cons_succ,Zlo];omega
def Li.op:Li->Nat | .mk o _ _ _ _=>o
end Go.PM.Lex
end

section
namespace Go.PM.Lex
mutual
def erE:Ex->Ex
 | .mk op t n args _=>.mk op t n (ZDs args) 0
def ZDs:List Ex->List Ex
 | []=>[]
 | e::l=>erE e::ZDs l
end
def Stb {α:Type} (er:α->α) (m:Ts) (x y:R α):Prop:=∀v ts,x=.ok v ts->∃v',er v'=er v/\y=.ok v' (ts++m)
section
variable {α β:Type} {er:α->α} {er2:β->β} {m:Ts}
def Stb.ok {v v':α} {ts:Ts} (h:er v'=er v):Stb er m (.ok v ts) (.ok v' (ts++m)):=fun w rest e=>by cases e;exact ⟨v',h,rfl⟩
def Stb.ok' {v v':α} {ts ts':Ts} (h:er v'=er v) (e:ts'=ts++m):Stb er m (.ok v ts) (.ok v' ts'):=e ▸ Stb.ok h
def Stb.err {r e:Nat} {y:R α}:Stb er m (.err r e) y:=fun w rest e=>by cases e
def Stb.bind {x y:R α} {f g:α->Ts->R β} (h:Stb er m x y) (hf:∀v v' ts,er v'=er v->Stb er2 m (f v ts) (g v' (ts++m))):Stb er2 m (x.bind f) (y.bind g):=fun w rest e=>by
 cases x with
 | ok v ts =>
  obtain ⟨v',h1,rfl⟩:=h v ts rfl;exact hf v v' ts h1 w rest e
 | err r e'=>cases e
def Stb.binds {x y:R α} {f g:α->Ts->R β} (h:Stb id m x y) (hf:∀v ts,Stb er2 m (f v ts) (g v (ts++m))):Stb er2 m (x.bind f) (y.bind g):=Stb.bind h fun v v' ts e=>by cases (show v'=v from e);exact hf v ts
end
variable {m:Ts}
def map_id' {α:Type} (l:List α):l.map id=l:=sM
def Un.app:Un->Un->Un
 | .mk a1 a2 a3 a4 a5 a6,.mk b1 b2 b3 b4 b5 b6=>.mk (a1++b1) (a2++b2) (a3++b3) (a4++b4) (a5++b5) (a6++b6)
def Un.le:Un->Un->Prop
 | .mk a1 a2 a3 a4 a5 a6,.mk b1 b2 b3 b4 b5 b6=>a1.length<=b1.length/\a2.length<=b2.length/\a3.length<=b3.length/\a4.length<=b4.length/\a5.length<=b5.length/\a6.length<=b6.length
def Un.le_refl:∀u:Un,Un.le u u | .mk ..=>⟨Tr _,Tr _,Tr _,Tr _,Tr _,Tr _⟩
def Un.le_trans:∀{u v w:Un},Un.le u v->Un.le v w->Un.le u w
 | .mk ..,.mk ..,.mk ..,⟨h1,h2,h3,h4,h5,h6⟩,⟨k1,k2,k3,k4,k5,k6⟩=>⟨oM,oM,oM,oM,oM,oM⟩
def Un.room:Un->Un->Prop
 | .mk a1 a2 a3 a4 a5 a6,.mk b1 b2 b3 b4 b5 b6=>a1.length+b1.length<=256/\a2.length+b2.length<=256/\a3.length+b3.length<=1024/\a4.length+b4.length<=64/\a5.length+b5.length<=256/\a6.length+b6.length<=256
end Go.PM.Lex
end

section
namespace Go.PM.Lex
open Go.Proofs
variable {w0:World} {nG:Nat}
def szS {α:Type} (f:α->Nat):List α->Nat
 | []=>0
 | x::l=>1+f x+szS f l
def Zn {α:Type} (f:α->Nat):∀(l:List α),l.length<=szS f l
 | []=>Tr _
 | x::l=>by have:=Zn f l;simp only [Te,szS];omega
def Zr {α:Type} (f:α->Nat):∀(l:List α) (i:Nat) (h:i<l.length),f l[i]<szS f l
 | x::l,0,h=>by simp only [List.getElem_cons_zero,szS];omega
 | x::l,i+1,h=>by have:=Zr f l i (by simpa using h);simp only [List.getElem_cons_succ,szS];omega
def Y6:∀(l:List Ex),Zlo l=szS szE l
 | []=>rfl
 | x::l=>by rw [Zlo,szS,Y6 l]
def eqB (a b:Bs):Bool:=decide (a=b)
mutual
def szL:Li->Nat
 | .mk _ _ a b _=>1+szS szE a+Zt6 b
def Zt6:List Li->Nat
 | []=>0
 | x::l=>1+szL x+Zt6 l
end
def Xi:∀(l:List Li),Zt6 l=szS szL l
 | []=>by rw [Zt6,szS]
 | x::l=>by rw [Zt6,szS,Xi l]
def JL (r:Ru):Nat:=1+szS szE r.args+szS szL r.body
def sz0 {α:Type} (_:α):Nat:=0
def ZiW (c:Ca):Nat:=1+szS sz0 c.fields
def Zm9 (a:Ty):Nat:=1+szS sz0 a.fields+szS ZiW a.cases
def ZjS (a:Re):Nat:=1+szS sz0 a.fields
def ZEc (a:Ini):Nat:=1+szS sz0 a.types
mutual
def ZEd:Un->Nat
 | .mk a1 a2 a3 a4 a5 a6=>1+szS Zm9 a1+szS ZjS a2+szS JL a3+ZpH a4+szS ZEc a5+szS sz0 a6
def ZDt:Co->Nat
 | .mk _ p _ t u _=>1+szS sz0 p+szS sz0 t+ZEd u
def ZpH:List Co->Nat
 | []=>0
 | x::l=>1+ZDt x+ZpH l
end
def WU:∀(l:List Co),ZpH l=szS ZDt l
 | []=>by rw [ZpH,szS]
 | x::l=>by rw [ZpH,szS,WU l]
def spB (sp:Nat->Zp) (n:Nat):Zp:=fun args σ K=>0<n/\sp (n - 1) args σ K
def Zlr {sp:Nat->Zp} (h:∀n,ZG (sp n)) (n:Nat):ZG (spB sp n):=fun args σ K K' hK g=>⟨g.1,h _ _ _ _ _ hK g.2⟩
def ZB {g:FuncId} {sp:Nat->Zp} (h:WO (GG w0 nG).P g):PC w0 nG g (spB sp 0):=⟨h,fun args σ K hs=>absurd hs.1 oM⟩
def ZC {g:FuncId} {sp:Nat->Zp} {n:Nat} (h:PC w0 nG g (sp n)):PC w0 nG g (spB sp (n+1)):=h.weaken1 fun args σ K hs=>hs.2
abbrev ws:Bs:=[32,9,13,10]
def Zna (c:Nat):Option UInt8:=if c=10 then some 110 else if c=9 then some 116 else if c=34 then some 34 else if c=92 then some 92 else none
def VO:Nat->Bs->Bs->Option Bs
 | 0,_,_=>none
 | f+1,r,out=>if r=[] then some out else match Zna (Lib.decodeL r).1 with
  | some b=>VO f (r.drop (Lib.decodeL r).2) (out++[92,b])
  | none=>if (Lib.decodeL r).1<32 then none else VO f (r.drop (Lib.decodeL r).2) (out++Lib.encodeRune (Lib.decodeL r).1)
def Jj (s:Bs):Option Bs:=if Lib.validD s=true then (VO (s.length+1) s [34]).map (·++[34]) else none
def ZjT:Zp:=fun args σ K=>match args with
 | [.d (.str s)]=>s.length<=9223372036854775807/\K (.ret (.d (.bool (Lib.validD s)))) σ
 | _=>False
def Zsg (h1:1<nG) (hT:Lib.Utf8Tabs 0 1 w0):PC w0 nG 231 ZjT:=YI (Ze Tryz.func231 kR rfl) fun args σ K h e w vs hS ha=>by
 unfold ZjT at h
 split at h
 ·rename_i s
  obtain ⟨u,rfl,hu⟩:=Zgo ha
  cases hu.dstr
  have hT':Lib.Utf8Tabs 0 1 w:=by
   have g0:=hS.glob 0 (show 0<nG by omega);have g1:=hS.glob 1 h1;obtain ⟨a,b⟩:=hT;refine ⟨fun c hc=>?_,fun i hi=>?_⟩
   ·have:=a c hc;simpa [World.cell?,g0] using this
   have:=b i hi;simpa [World.cell?,g1] using this
  exact ⟨_,h.2,_,fun _ _=>.mkbool,(Any.utf8_ValidString Tryz.laysValid ⟨s.toArray⟩ w (show s.toArray.size<=_ by simpa using h.1) hT').mono fun en w' ⟨h1,h2⟩=>⟨h1,ZEN h2⟩⟩
 exact h.elim
def Zsh {n:Nat} (h:Zna n=none):Zdd [10,9,34,92] n=-1:=by
 unfold Zna at h
 split at h;· cases h
 split at h;· cases h
 split at h;· cases h
 split at h;· cases h
 rename_i h1 h2 h3 h4
 unfold Zdd
 split
 ·rename_i h5
  have hc:([10,9,34,92]:Bs).contains ((n:Int).toNat.toUInt8)=false:=by
   have b1:=Uu (n:=n) (k:=10) oM oM h1;have b2:=Uu (n:=n) (k:=9) oM oM h2;exact mq104
  rw [Lib.contains_iff_indexByte,decide_eq_false_iff_not] at hc;have:=Lib.indexByte_ge [10,9,34,92] ((n:Int).toNat.toUInt8);omega
 rfl
def Zsi {n:Nat} {b:UInt8} (h:Zna n=some b):(Zdd [10,9,34,92] n=0/\b=110)\/(Zdd [10,9,34,92] n=1/\b=116)\/(Zdd [10,9,34,92] n=2/\b=34)\/(Zdd [10,9,34,92] n=3/\b=92):=by
 unfold Zna at h
 exact mq62
def JM:Zp:=fun args σ K=>match args,σ with
 | [.d (.str s)],⟨[],[],0⟩=>s.length<4294967281/\(Jj s=none->K (.ret (.tuple [.d (.str []),.d (.bool false)])) ⟨[],[],0⟩)/\(∀q,Jj s=some q->K (.ret (.tuple [.d (.str q),.d (.bool true)])) ⟨[],[],0⟩)
 | _,_=>False
def Zik:ZG JM:=fun args σ K K' hK h=>by
 unfold JM at h |-
 split at h
 ·exact ⟨h.1,fun g=>hK _ _ (h.2.1 g),fun q g=>hK _ _ (h.2.2 q g)⟩
 exact h.elim
def ZEe (B:Nat):List PV->St->Nat:=fun _ σ=>match σ.bx with | [_,.iter _ p]=>B - p | _=>0
def Zsk:OKw w0 nG [(231,ZjT),(232,VH),(233,Ww),(234,VI),(36,Zco)] 194 JM:=by
 refine pwo Tryz.func194 fun args σ K h=>?_
 unfold JM at h
 split at h
 ·rename_i s
  obtain ⟨hs,cy,dv⟩:=h;refine pwv [(6,⟨[],[4,13],fun vs σ=>vs=[]/\∃(out:Bs) (i f:Nat),σ=⟨[.cells 102 [.ptr 0 0,.sl 0 5 (Zh out)],.iter s i],[0],1⟩/\(i<=s.length/\s.length<i+f/\out.length<=4 * i+1)/\VO f (s.drop i) out=VO (s.length+1) s [34],ZEe s.length⟩)] 0 false ?_;refine ⟨oM,wN ?_⟩;refine ZEL (fun h1=>wN ?_) (fun h1=>wN ?_)
  ·have hv:Lib.validD s=false:=by simpa using h1
   exact cy (by unfold Jj;rw [Tf (by rw [hv];simp)])
  have hv:Lib.validD s=true:=by simpa using h1
  have hq:Jj s=(VO (s.length+1) s [34]).map (·++[34]):=by unfold Jj;rw [Tj hv]
  refine ⟨⟨.inl rfl,rfl,rfl,sM,sM⟩,wN ?_⟩;refine ⟨⟨rfl,[34],0,s.length+1,rfl,⟨oM,oM,sM⟩,by rw [So]⟩,?_⟩;intro vs σ1 hI
  obtain ⟨rfl,out,i,f,rfl,⟨zi,ac,hol⟩,gq⟩:=hI;obtain ⟨f,rfl⟩:∃g,f=g+1:=⟨f - 1,oM⟩
  have co:=Zfd out;have cm:=Zfe out;have bm:=Zfb s i;have il:=Zgw (s.drop i);have jo:=Lib.decodeL_le (s.drop i);rw [TG] at jo;(conv=>whnf);refine ZEH (fun h2=>wN ?_) (fun h2=>wN ?_)
  ·have ai:s.drop i≠[]:=fun g=>by have:=congrArg List.length g;rw [TG] at this;simp at this;omega
   have g3:i+(decodeL s i).2<=s.length:=by rw [bm];have:=jo ai;omega
   have qg:1<=(decodeL s i).2:=by rw [bm];omega
   refine ⟨⟨.inr rfl,oM,by rw [bm];omega⟩,wN ?_⟩;generalize hk:Zdd _ _=k;have l7:Zdd [10,9,34,92] ((Lib.decodeL (s.drop i)).1:Int)=k:=by rw [<- bm];exact hk
   cases hE:Zna (Lib.decodeL (s.drop i)).1 with
   | some b =>
    have g1:VO f (s.drop (i+(decodeL s i).2)) (out++[92,b])=VO (s.length+1) s [34]:=by rw [<- gq,bm];simp [VO,ai,hE,TL]
    rcases Zsi hE with ⟨e1,rfl⟩ | ⟨e1,rfl⟩ | ⟨e1,rfl⟩ | ⟨e1,rfl⟩
    all_goals (rw [e1] at l7;subst l7)
    all_goals (conv=>whnf)
    all_goals (refine ⟨⟨.inr rfl,rfl,rfl,co,oM⟩,?_⟩)
    all_goals (conv=>whnf)
    all_goals (refine ⟨oM,by first | omega | (simp;done) | (simp;omega),?_⟩)
    all_goals (conv=>whnf)
    all_goals (refine ⟨⟨.inr rfl,rfl,rfl,fun r hr=>by (rcases TH.1 hr with hr | hr;exact co r hr;simp at hr;subst hr;rfl),by rw [Ta];simp;omega⟩,?_⟩)
    all_goals (conv=>whnf)
    all_goals (refine ⟨⟨rfl,_,_,f,?_,⟨g3,oM,?_⟩,g1⟩,?_⟩)
    all_goals (first | (rw [Vj,To];rfl) | (rw [Ta];simp;omega) | exact (show s.length - (i+(decodeL s i).2)<s.length - i by omega))
   | none =>
   rw [Zsh hE] at l7;subst l7;(conv=>whnf);refine ZEH (fun h5=>wN ?_) (fun h5=>wN ?_)
   ·have fq:(Lib.decodeL (s.drop i)).1<32:=by rw [bm] at h5;omega
    refine cy ?_;rw [hq,<- gq];simp [VO,ai,hE,fq]
   have fq:¬(Lib.decodeL (s.drop i)).1<32:=by rw [bm] at h5;omega
   have g1:VO f (s.drop (i+(decodeL s i).2)) (out++Lib.encodeRune ((decodeL s i).1:Int))=VO (s.length+1) s [34]:=by rw [<- gq,bm];simp [VO,ai,hE,fq,TL]
   have hen:=ZjD ((decodeL s i).1:Int);refine ⟨⟨.inr rfl,rfl,rfl,co,oM,oM,by rw [bm];omega⟩,wN ?_⟩;refine ⟨⟨rfl,_,_,f,?_,⟨g3,oM,?_⟩,g1⟩,?_⟩
   ·rw [Vj];rfl
   ·rw [Ta];omega
   exact (show s.length - (i+(decodeL s i).2)<s.length - i by omega)
  have eo:s.drop i=[]:=Tv oM;have g1:VO (s.length+1) s [34]=some out:=by rw [<- gq];simp [VO,eo]
  refine ⟨⟨.inr rfl,rfl,rfl,co,oM⟩,wN ?_⟩;refine ⟨out++[34],⟨by rw [JC];rfl,rfl,rfl,.inr rfl,by rw [Ta];simp;omega⟩,wN ?_⟩;exact dv _ (by rw [hq,g1];rfl)
 exact h.elim
def Zsl (s:Bs):Bool:=Zj (pk s).1 && decide (VG s=s.length)
def ZgH:Zp:=fun args σ K=>match args,σ with
 | [.d (.str s)],⟨[],[],0⟩=>s.length<4294967281/\K (.ret (.d (.bool (Zsl s)))) ⟨[],[],0⟩
 | _,_=>False
def ZCl:OKw w0 nG [(186,ZbI),(187,UT),(188,ZhQ)] 127 ZgH:=by
 refine pwo Tryz.func127 fun args σ K h=>?_
 unfold ZgH at h
 split at h
 ·rename_i s
  obtain ⟨hs,h⟩:=h;refine pwv [] 0 false ?_;have uc:=WT (s.drop (Int.toNat 0));have hd:s.drop (Int.toNat 0)=s:=So;refine ⟨⟨oM,oM⟩,wN ?_⟩;refine ⟨⟨uc.1,oM⟩,wN ?_⟩;refine ZEL (fun h1=>wN ?_) (fun h1=>wN ?_)
  ·have nv:Zj (pk s).1=true:=by rw [<- hd];exact h1
   refine ⟨⟨oM,oM,hs⟩,wN ?_⟩;refine ZkP h ?_;rw [Zsl,nv,TV,decide_eq_decide,hd];omega
  have nv:Zj (pk s).1=false:=by rw [<- hd];exact h1
  rw [Zsl,nv] at h;exact h
 exact h.elim
def Xj (s:Bs):Bool:=Zsl s && (!decide (s=[95]) && !ZmL s)
def ZS (op:Nat):Nat:=if op=16 then 0 else if op=17 then 0 else if op=15 then 1 else if op=18 then 2 else if op=19 then 2 else if op=10 then 3 else if op=11 then 3 else if op=12 then 4 else if op=13 then 4 else if op=14 then 4
 else if op=8 then 5 else if op=9 then 5 else if op=20 then 6 else if op=21 then 6 else if op=22 then 6 else if op=23 then 6 else if op=24 then 6 else if op=25 then 6 else if op=6\/op=7 then 6 else if op=1\/op=2\/op=3\/op=4\/op=5 then 6 else 0
def VP (op:Nat):Bs:=if op=16 then [98,111,114] else if op=17 then [98,120,111,114] else if op=15 then [98,97,110,100] else if op=18 then [115,104,108] else if op=19 then [115,104,114] else if op=10 then [43] else if op=11 then [45] else if op=12 then [42] else if op=13 then [47] else if op=14 then [37]
 else if op=8 then [45] else if op=9 then [126] else if op=20 then [99,97,116] else if op=21 then [115,116,114,108,101,110] else if op=22 then [115,117,98,115,116,114] else if op=23 then [99,111,100,101] else if op=24 then [115,116,114] else if op=25 then [110,117,109] else []
def V7 (op:Nat):Int:=if op=16 then 2 else if op=17 then 2 else if op=15 then 2 else if op=18 then 2 else if op=19 then 2 else if op=10 then 2 else if op=11 then 2 else if op=12 then 2 else if op=13 then 2 else if op=14 then 2
 else if op=8 then 1 else if op=9 then 1 else if op=20 then 2 else if op=21 then 1 else if op=22 then 3 else if op=23 then 1 else if op=24 then 1 else if op=25 then 1 else if op=6\/op=7 then -1 else if op=1\/op=2\/op=3\/op=4\/op=5 then 0 else -2
def V8 (op:Nat) (text:Bs):Bool:=if op=1\/op=7 then Xj text else if op=4 then (Jj text).isSome else decide (text=[])
mutual
def Ye:Ex->Bool
 | .mk op text n args _=>decide (-2<V7 op) && ((decide (V7 op<0) || decide ((args.length:Int)=V7 op)) && ((decide (n=0) || decide (op=3)) && (V8 op text && ZpI args)))
def ZpI:List Ex->Bool
 | []=>true
 | e::l=>Ye e && ZpI l
end
def Zw (l:List Ex):ZpI l=l.all Ye:=by induction l with | nil=>rfl | cons x l ih=>simp [ZpI,ih]
def YU (op:Nat) (rel:Bs) (args body:Nat):Bool :=
 if op=1\/op=2 then Xj rel && !decide (0<body)
 else if 3<=op/\op<=8 then decide (rel=[]) && (decide (args=2) && !decide (0<body))
 else if op=9 then decide (rel=[]) && (decide (args=1) && decide (0<body))
 else if 9<op/\op<=12 then decide (rel=[]) && (decide (args=2) && decide (0<body)) else false
mutual
def YE:Li->Bool
 | .mk op rel args body _=>YU op rel args.length body.length && (ZpI args && Zb7 body)
def Zb7:List Li->Bool
 | []=>true
 | e::l=>YE e && Zb7 l
end
def Xk (l:List Li):Zb7 l=l.all YE:=by induction l with | nil=>rfl | cons x l ih=>simp [Zb7,ih]
def XQ (r:Ru):Bool:=Xj r.head && (r.args.all Ye && r.body.all YE)
def YL (f:Fi):Bool:=Xj f.name && Xj f.typ
def Xp (c:Ca):Bool:=Xj c.name && c.fields.all YL
def ZbT (t:Ty):Bool:=if t.kind=1 then Xj t.base && (decide (t.fields.length=0) && decide (t.cases.length=0)) else if t.kind=2 then decide (t.base=[]) && decide (t.cases.length=0)
 else if t.kind=3 then decide (t.base=[]) && (decide (t.fields.length=0) && !decide (t.cases.length=0)) else false
def Ym (t:Ty):Bool:=ZbT t && (Xj t.name && (t.fields.all YL && t.cases.all Xp))
def Wd (d:Re):Bool:=Xj d.name && d.fields.all YL
def WC (i:Ini):Bool:=Xj i.name && (Xj i.comp && i.types.all Xj)
def W5 (o:Ov):Bool:=Xj o.rel
mutual
def Zeu:Un->Bool
 | .mk tys rels rules comps inits overs=>tys.all Ym && (rels.all Wd && (rules.all XQ && (Zls comps && (inits.all WC && overs.all W5))))
def Yg:Co->Bool
 | .mk nm ps base tys u _=>Xj nm && (ps.all Xj && (tys.all Xj && (((decide (base=[]) && decide (tys.length=0)) || Xj base) && Zeu u)))
def Zls:List Co->Bool
 | []=>true
 | c::l=>Yg c && Zls l
end
def WD (l:List Co):Zls l=l.all Yg:=by induction l with | nil=>rfl | cons x l ih=>simp [Zls,ih]
def ZiX (d:Nat):UInt8:=if d<10 then UInt8.ofNat (48+d) else UInt8.ofNat (87+d)
def JN (base:Nat):Nat->Nat->Bs
 | 0,_=>[]
 | f+1,n=>if n<base then [ZiX n] else JN base f (n / base)++[ZiX (n % base)]
def Vn (base n:Nat):Bs:=JN base (n+1) n
def Zfo (n:Int):Bs:=if n<0 then [48,120]++Vn 16 (n+18446744073709551616).toNat else Vn 10 n.toNat
def ZvQ (s:Bs):Bs:=(Jj s).getD []
def Zf (sep:Bs):List Bs->Bs
 | []=>[]
 | [x]=>x
 | x::l=>x++(sep++Zf sep l)
def cmm:Bs:=[44,32]
def opE:Ex->Nat | .mk op _ _ _ _=>op
def Zsm (want:Nat) (p:Nat×Bs):Bs:=if p.1<want then [40]++(p.2++[41]) else p.2
def exA (w1 w2:Nat) (sep:Bs):List (Nat×Bs)->Bs
 | []=>[]
 | [a]=>Zsm w1 a
 | a::b::_=>Zsm w1 a++(sep++Zsm w2 b)
def exN (op:Nat) (text:Bs) (n:Int) (ps:List (Nat×Bs)):Bs :=
 if ZS op<5 then exA (ZS op) (ZS op+1) ([32]++(VP op++[32])) ps
 else if ZS op=5 then VP op++exA 5 5 [] ps
 else if VP op≠[] then VP op++([40]++(Zf cmm (ps.map Prod.snd)++[41]))
 else if op=6 then [91]++(Zf cmm (ps.map Prod.snd)++[93])
 else if op=7 then [36]++(text++(if ps.length=0 then [] else [40]++(Zf cmm (ps.map Prod.snd)++[41])))
 else if op=3 then Zfo n
 else if op=4 then ZvQ text
 else if op=5 then [110,105,108]
 else if op=2 then [95]
 else text
mutual
def exT:Ex->Bs
 | .mk op text n args _=>exN op text n (ZpJ args)
def ZpJ:List Ex->List (Nat×Bs)
 | []=>[]
 | e::l=>(ZS (opE e),exT e)::ZpJ l
end
def ZpK (l:List Ex):ZpJ l=l.map fun e=>(ZS (opE e),exT e):=by induction l with | nil=>rfl | cons x l ih=>simp [ZpJ,ih]
def Zcr (l:List Ex):(ZpJ l).length=l.length:=by rw [ZpK,Td]
def exW (want:Nat) (e:Ex):Bs:=Zsm want (ZS (opE e),exT e)
def Zzj (l:List Ex):List Bs:=l.map exT
def UW (l:List Ex):(ZpJ l).map Prod.snd=Zzj l:=by rw [ZpK,SE];rfl
def argT (fr fin:Bs) (l:List Ex):Bs:=fr++(Zf cmm (Zzj l)++fin)
def ZvR (op:Nat):Bs:=if op=3 then [32,61,32] else if op=4 then [32,33,61,32] else if op=5 then [32,60,32] else if op=6 then [32,60,61,32] else if op=7 then [32,62,32] else [32,62,61,32]
def ZjU (op:Nat):Bs:=if op=9 then [99,111,117,110,116] else if op=10 then [115,117,109] else if op=11 then [109,105,110] else [109,97,120]
def Zsn (l:List Ex):Bs:=(l.map fun e=>[32]++exT e).flatten
def Zlt:List Ex->Bs
 | []=>[]
 | e::_=>exT e
mutual
def liT:Li->Bs
 | .mk op rel args body _ =>
  if op=2 then [33]++(rel++argT [40] [41] args)
  else if op=1 then rel++argT [40] [41] args
  else if op<=8 then Zlt args++(ZvR op++Zlt args.tail)
  else Zlt args++([32,61,32]++(ZjU op++(Zsn args.tail++([32,58,32,123,32]++(Zf cmm (Zrm body)++[32,125])))))
def Zrm:List Li->List Bs
 | []=>[]
 | e::l=>liT e::Zrm l
end
def ZdE (l:List Li):Zrm l=l.map liT:=by induction l with | nil=>rfl | cons x l ih=>simp [Zrm,ih]
def ruT (r:Ru):Bs:=r.head++(argT [40] [41] r.args++((if 0<r.body.length then [32,58,45,32]++Zf cmm (Zrm r.body) else [])++[46]))
def fiT (f:Fi):Bs:=f.name++([58,32]++f.typ)
def Vo (fr:Bs) (l:List Fi) (fin:Bs):Bs:=fr++(Zf cmm (l.map fiT)++fin)
def Zzk (l:List Bs):Bs:=if l.length=0 then [] else [60]++(Zf cmm l++[62])
def caT (c:Ca):Bs:=Vo (c.name++[32,123]) c.fields [125]
def tyT (t:Ty):Bs:=[116,121,112,101,32]++(t.name++((if t.kind=1 then [32,60,58,32]++t.base else if t.kind=2 then Vo [32,61,32,91] t.fields [93] else [32,61,32]++Zf [32,124,32] (t.cases.map caT))++[10]))
def reT (d:Re):Bs:=Vo ([100,101,99,108,32]++(d.name++[40])) d.fields [41]++((if d.inn then [32,105,110,112,117,116] else [])++((if d.out then [32,111,117,116,112,117,116] else [])++((if d.inl then [32,105,110,108,105,110,101] else [])++[10])))
def inT (i:Ini):Bs:=[105,110,105,116,32]++(i.name++([32,61,32]++(i.comp++(Zzk i.types++[10]))))
def ovT (o:Ov):Bs:=[111,118,101,114,114,105,100,101,32]++(o.rel++[10])
mutual
def unT:Un->Bs
 | .mk tys rels rules comps inits overs=>(tys.map tyT).flatten++((rels.map reT).flatten++((Zyz comps).flatten++((inits.map inT).flatten++((overs.map ovT).flatten++(rules.map fun r=>ruT r++[10]).flatten))))
def coT:Co->Bs
 | .mk nm ps base tys u _=>[99,111,109,112,32]++(nm++(Zzk ps++((if base=[] then [] else [32,58,32]++(base++Zzk tys))++([32,123,10]++(unT u++[125,10])))))
def Zyz:List Co->List Bs
 | []=>[]
 | c::l=>coT c::Zyz l
end
def noC:Un->Prop
 | .mk _ _ _ c i o=>c=[]/\i=[]/\o=[]
end Go.PM.Lex
end
