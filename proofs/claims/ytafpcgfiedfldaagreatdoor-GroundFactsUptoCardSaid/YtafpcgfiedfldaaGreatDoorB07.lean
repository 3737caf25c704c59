/- A part of the proof: plain logic, contracts and laws over the given program. -/
import Derived.Lib.ValidU
import Derived.Test.YtafpcgfiedfldaaGreatDoorValid
import Derived.Shelf.Unicode.ValidAny
import Derived.Lib.MapLaws
import Derived.Test.YtafpcgfiedfldaaGreatDoorB06
set_option linter.unusedVariables false
set_option linter.unusedSimpArgs false
set_option linter.all false
set_option maxRecDepth 100000
set_option maxHeartbeats 16000000
noncomputable section
section
noncomputable section
namespace Go.PM.Lex
open Go.Proofs
def tz (L:List Tok) (a:Int):Ts:=(L.drop a.toNat).map Tok.t0
def Zc (L:List Tok) (en:Int) (r:Nat):Int:=match L.drop (L.length - r) with
 | []=>en
 | t::_=>t.at'
structure ROK (L:List Tok) (a:Int) (ts:Ts):Prop where
 lo:0<=a
 hi:a<=L.length
 big:L.length<=1048576
 eq:tz L a=ts
def ROK.len {L:List Tok} {a:Int} {ts:Ts} (h:ROK L a ts):(ts.length:Int)=L.length - a:=by
 rw [<- h.eq];simp only [tz,Td,TG];have:=h.lo;have:=h.hi;omega
def ROK.next {L:List Tok} {a:Int} {t:T0} {ts:Ts} (h:ROK L a (t::ts)):ROK L (a+1) ts:=by
 have hl:=h.len;have h0:=h.lo;refine ⟨oM,by simp at hl;omega,h.big,?_⟩;have:=h.eq;simp only [tz] at this |-;rw [show (a+1).toNat=a.toNat+1 by omega,<- TL,List.map_drop,this];rfl
def Ut {ts:Ts} {ws:List Bs} (h:isW ts ws=true):ts≠[]:=by rintro rfl;simp [isW,hd] at h
def Zii {ts:Ts} (h:ZO ts=true):ts≠[]:=by rintro rfl;simp [ZO,hd] at h
def ROK.tl {L:List Tok} {a:Int} {ts:Ts} (h:ROK L a ts) (hn:ts≠[]):ROK L (a+1) ts.tail:=by
 cases ts with
 | nil=>exact absurd rfl hn
 | cons t ts=>exact h.next
def ROK.get {L:List Tok} {a:Int} {t:T0} {ts:Ts} (h:ROK L a (t::ts)):∃x,L[a.toNat]?=some x/\x.t0=t/\∀en,Zc L en (ts.length+1)=x.at':=by
 have hl:=h.len;have h0:=h.lo;have h1:=h.eq;simp only [Te] at hl;have aa:a.toNat<L.length:=oM;refine ⟨L[a.toNat],Ta aa,?_,fun en=>?_⟩
 ·simp only [tz] at h1;rw [Tm aa] at h1;simp only [TE,List.cons.injEq] at h1;exact h1.1
 unfold Zc
 rw [show L.length - (ts.length+1)=a.toNat by omega,Tm aa]
def ROK.none {L:List Tok} {a:Int} (h:ROK L a []):a=L.length:=by have:=h.len;simp at this;omega
def ZbS (L:List Tok) (en:Int):Zc L en 0=en:=by simp [Zc]
abbrev Pl:=Nat->Int
mutual
def ZE (pl:Pl):Ex->List D
 | .mk op text n args a=>[.int .u8 op,.str text,.int .i64 n,.sl (Ze pl args),.int .i64 (pl a)]
def Ze (pl:Pl):List Ex->List (List D)
 | []=>[]
 | e::l=>ZE pl e::Ze pl l
end
mutual
def YT (pl:Pl):Li->List D
 | .mk op rel args body a=>[.int .u8 op,.str rel,.sl (Ze pl args),.sl (ZQ pl body),.int .i64 (pl a)]
def ZQ (pl:Pl):List Li->List (List D)
 | []=>[]
 | e::l=>YT pl e::ZQ pl l
end
def ZC (pl:Pl) (r:Ru):List D:=[.str r.head,.sl (Ze pl r.args),.sl (ZQ pl r.body),.int .i64 (pl r.at')]
def Zn (f:Fi):List D:=[.str f.name,.str f.typ]
def Zt (c:Ca):List D:=[.str c.name,.sl (c.fields.map Zn)]
def Zr (pl:Pl) (t:Ty):List D:=[.int .u8 t.kind,.str t.name,.str t.base,.sl (t.fields.map Zn),.sl (t.cases.map Zt),.int .i64 (pl t.at')]
def ZH (pl:Pl) (r:Re):List D:=[.str r.name,.sl (r.fields.map Zn),.bool r.inn,.bool r.out,.bool r.inl,.int .i64 (pl r.at')]
def Ym (s:Bs):List D:=[.str s]
def X8 (pl:Pl) (i:Ini):List D:=[.str i.name,.str i.comp,.sl (i.types.map Ym),.int .i64 (pl i.at')]
def X9 (pl:Pl) (o:Ov):List D:=[.str o.rel,.int .i64 (pl o.at')]
mutual
def XT (pl:Pl):Un->List D
 | .mk tys rels rules comps inits overs=>[.sl (tys.map (Zr pl)),.sl (rels.map (ZH pl)),.sl (rules.map (ZC pl)),.sl (Zln pl comps),.sl (inits.map (X8 pl)),.sl (overs.map (X9 pl))]
def XN (pl:Pl):Co->List D
 | .mk name params base types u a=>[.str name,.sl (params.map Ym),.str base,.sl (types.map Ym)]++XT pl u++[.int .i64 (pl a)]
def Zln (pl:Pl):List Co->List (List D)
 | []=>[]
 | e::l=>XN pl e::Zln pl l
end
def Zb (pl:Pl) (l:List Ex):Ze pl l=l.map (ZE pl):=by induction l with | nil=>rfl | cons x l ih=>simp [Ze,ih]
def Zm (pl:Pl) (l:List Li):ZQ pl l=l.map (YT pl):=by induction l with | nil=>rfl | cons x l ih=>simp [ZQ,ih]
def Y2 (pl:Pl) (l:List Co):Zln pl l=l.map (XN pl):=by induction l with | nil=>rfl | cons x l ih=>simp [Zln,ih]
abbrev Za5 (l:List D):PV:=.agg (l.map .d)
abbrev flt (L:List Tok) (en:Int) (r e:Nat):PV:=.iface 215 (.agg [.d (.int .i64 (Zc L en r)),.d (.int .i64 e)])
abbrev RK:=PEnd->Int->Int->Prop
def RKk {α:Type} (enc:α->PV) (L:List Tok) (en dp lo:Int) (x:R α) (K:RK):Prop:=match x with
 | .ok v ts'=>∀a',lo<=a'->ROK L a' ts'->K (.ret (enc v)) a' dp
 | .err r e=>∀a' dp',K (.panic (flt L en r e)) a' dp'
def Xp (body:List PV->List Tok->Int->Int->Int->Ts->RK->Prop):Zo:=fun args σ K=>match args,σ with
 | .ptr 0 0::rest,⟨[.cells t [.d (.sl rows),.d (.int .i64 a),.d (.int .i64 en),.d (.int .i64 dp)]],[],0⟩=>∃L ts,rows=ZS L/\ROK L a ts /\
   body rest L en dp a ts fun pe a' dp'=>K pe ⟨[.cells t [.d (.sl (ZS L)),.d (.int .i64 a'),.d (.int .i64 en),.d (.int .i64 dp')]],[],0⟩
 | _,_=>False
def Zpt {body:List PV->List Tok->Int->Int->Int->Ts->RK->Prop} (hb:∀rest L en dp a ts (K K':RK),(∀pe a d,K pe a d->K' pe a d)->body rest L en dp a ts K->body rest L en dp a ts K'):Zz (Xp body):=fun args σ K K' hK h=>by
 unfold Xp at h |-
 split at h
 ·obtain ⟨L,ts,h1,h2,h3⟩:=h;exact ⟨L,ts,h1,h2,hb _ _ _ _ _ _ _ _ (fun pe a d hk=>hK _ _ hk) h3⟩
 exact h.elim
def Uu:Zo:=fun args σ K=>match args,σ with
 | [.d (.str s)],⟨[],[],0⟩=>∀n:Int,(YN s:Int)=n->K (.ret (.d (.int .u8 n))) ⟨[],[],0⟩
 | _,_=>False
def Zij:Zo:=fun args σ K=>match args,σ with
 | [.d (.str s)],⟨[],[],0⟩=>∀b,Zm9 s=b->K (.ret (.d (.bool b))) ⟨[],[],0⟩
 | _,_=>False
def ZeN (s:Bs):Nat->List Bs->Int
 | _,[]=>-1
 | i,w::ws=>if s=w then i else ZeN s (i+1) ws
def ZgN:Zo:=fun args σ K=>match args,σ with
 | [.d (.sl rows),.d (.str s)],⟨[],[],0⟩=>∃ws:List Bs,rows=ws.map Ym/\ws.length<=1048576/\K (.ret (.d (.int .i64 (ZeN s 0 ws)))) ⟨[],[],0⟩
 | _,_=>False
def Za6:Zo:=fun args σ K=>match args,σ with
 | [.d (.sl rows),.d (.str s)],⟨[],[],0⟩=>∃ws:List Bs,rows=ws.map Ym/\ws.length<=1048576/\∀b,ws.contains s=b->K (.ret (.d (.bool b))) ⟨[],[],0⟩
 | _,_=>False
def Zaf:Zo:=Xp fun rest L en dp a ts K=>match rest with
 | [.d (.int .i64 n)]=>∀fin,(n=0/\K (.ret (.agg [.d (.int .u8 (hd ts).kind),.d (.str (hd ts).text),.d (.int .i64 (hd ts).n),.d (.int .i64 (Zc L en ts.length)),.d (.int .i64 fin)])) a dp) \/
   (n=1/\K (.ret (.agg [.d (.int .u8 (hd ts.tail).kind),.d (.str (hd ts.tail).text),.d (.int .i64 (hd ts.tail).n),.d (.int .i64 (Zc L en ts.tail.length)),.d (.int .i64 fin)])) a dp)
 | _=>False
def Wt:Zo:=Xp fun rest L en dp a ts K=>match rest with
 | []=>K (.ret (.d (.int .i64 (Zc L en ts.length)))) a dp
 | _=>False
def Zik:Zo:=Xp fun rest L en dp a ts K=>match rest with
 | [.d (.sl rows)]=>∃ws:List Bs,rows=ws.map Ym/\ws.length<=1048576/\∀b,isW ts ws=b->K (.ret (.d (.bool b))) a dp
 | _=>False
def JA (p:Ts->Bool):Zo:=Xp fun rest L en dp a ts K=>match rest with
 | []=>∀b,p ts=b->K (.ret (.d (.bool b))) a dp
 | _=>False
def YU:Zo:=Xp fun rest L en dp a ts K=>match rest with
 | [.d (.int .i64 e)]=>K (.panic (.iface 215 (.agg [.d (.int .i64 (Zc L en ts.length)),.d (.int .i64 e)]))) a dp
 | _=>False
def Zj3:Zz YU:=Zpt fun rest L en dp a ts K K' hK h=>by
 split at h
 ·exact hK _ _ _ h
 exact h.elim
def XX:Zo:=Xp fun rest L en dp a ts K=>match rest with
 | [.d (.sl rows)]=>∃ws:List Bs,rows=ws.map Ym/\ws.length<=1048576/\(isW ts ws=true->ROK L (a+1) ts.tail->K (.ret (.d (.bool true))) (a+1) dp)/\(isW ts ws=false->K (.ret (.d (.bool false))) a dp)
 | _=>False
def Zlo:Zo:=Xp fun rest L en dp a ts K=>match rest with
 | [.d (.int .i64 n),.d (.int .i64 m)]=>(n=m->K (.panic (flt L en ts.length 3)) a dp)/\(n≠m->K (.ret (.tuple [])) (a+1) dp)
 | _=>False
def spR {α:Type} (enc:List Tok->Int->α->PV) (P:Ts->R α) (lo:Int):Zo:=Xp fun rest L en dp a ts K=>match rest with
 | []=>∀x,P ts=x->RKk (enc L en) L en dp (a+lo) x K
 | _=>False
def Xr:Zo:=Xp fun rest L en dp a ts K=>match rest with
 | [.d (.str w)]=>∀x,Z3 w ts=x->RKk (fun _=>.tuple []) L en dp (a+1) x K
 | _=>False
abbrev Xx:Zo:=spR (fun _ _ (v:Bs)=>.d (.str v)) XR 1
end Go.PM.Lex
end
end

section
namespace Go.PM.Lex
open Go.Proofs
variable {w0:World} {nG:Nat}
def Za7:PC w0 nG 190 Uu:=by
 refine pwe Tryz.func190 fun args σ K h=>?_
 unfold Uu at h
 split at h
 ·rename_i s
  refine pwu [] 0 false ?_
  repeat' ((conv=>whnf);refine ZFs (fun hc=>?_) (fun hc=>?_))
  all_goals (conv=>whnf)
  all_goals exact h _ (by simp [YN, *])
 exact h.elim
def Zvy:Tbl:=[(190,Uu)]
def Zj4:PC w0 nG 132 Zij:=by
 refine pwt (tbl:=Zvy) ⟨Za7,trivial⟩ Tryz.func132 fun args σ K h=>?_
 unfold Zij at h
 split at h
 ·rename_i s
  refine pwu [] 0 false ?_
  repeat' ((conv=>whnf);refine ZFs (fun hc=>?_) (fun hc=>?_))
  all_goals (conv=>whnf)
  all_goals first
   | contradiction
   | exact h _ (by subst_vars;decide)
   | skip
  intro n hn
  conv=>whnf
  refine h _ ?_;have hk:keptWords.contains s=false:=by
   have:¬s∈keptWords:=by
    simp only [keptWords,Tu,List.not_mem_nil,or_false,not_or]
    repeat' (first | assumption | refine ⟨by assumption,?_⟩)
   rw [Bool.eq_false_iff];intro g
   exact this (List.contains_iff_mem.1 g)
  rw [Zm9,hk,<- hn]
  by_cases h0:YN s=0 <;> simp [h0]
 exact h.elim
def Zfw (s w:Bs) (i:Nat) (ws:List Bs):ZeN s i (w::ws)=if s=w then (i:Int) else ZeN s (i+1) ws:=rfl
def Zil (s:Bs):∀(ws:List Bs) (i:Nat),(0<=ZeN s i ws)↔ws.contains s=true
 | [],i=>by simp [ZeN]
 | w::ws,i=>by
  rw [Zfw];split
  ·rename_i h;subst h;simp
  rename_i h;rw [Zil s ws];simp [h]
def Znf (s:Bs) (ws:List Bs) (i:Nat) (h:i<ws.length):ZeN s i (ws.drop i)=if s=ws[i] then (i:Int) else ZeN s (i+1) (ws.drop (i+1)):=by
 rw [Tm h,Zfw]
def Zpu:PC w0 nG 241 ZgN:=by
 refine pwe Tryz.func241 fun args σ K h=>?_
 unfold ZgN at h
 split at h
 ·rename_i rows s
  obtain ⟨ws,rfl,hw,h⟩:=h;refine pwv [(2,⟨[8],[0,1,7],fun vs σ=>∃i:Nat,vs=[.d (.int .i64 i)]/\σ=⟨[],[],0⟩/\i<=ws.length/\ZeN s 0 ws=ZeN s i (ws.drop i),mu1 ws.length⟩)] 0 false ?_;refine ⟨⟨0,rfl,rfl,oM,rfl⟩,?_⟩;intro vs σ hI
  obtain ⟨i,rfl,rfl,hi,hx⟩:=hI;(conv=>whnf);refine ZFs (fun hc=>wN ?_) (fun hc=>wN ?_)
  ·have hc:i<ws.length:=by have hc:(i:Int)<((ws.map Ym).length:Int):=hc;rw [Td] at hc;omega
   refine ⟨Ym ws[i],oM,by simp [hc],wN ?_⟩;rw [Znf s ws i hc] at hx;refine ZFs (fun h1=>wN ?_) (fun h1=>wN ?_)
   ·rw [hx,Tk h1] at h;exact h
   rw [Tf h1] at hx;refine Zi ?_;refine ⟨⟨i+1,rfl,rfl,oM,hx⟩,?_⟩;exact lzM oM
  have hc:ws.length<=i:=by have hc:¬(i:Int)<((ws.map Ym).length:Int):=hc;rw [Td] at hc;omega
  rw [Tr hc] at hx;rw [hx] at h;exact h
 exact h.elim
def Zvz:Tbl:=[(241,ZgN)]
def Zj5:PC w0 nG 207 Za6:=by
 refine pwt (tbl:=Zvz) ⟨Zpu,trivial⟩ Tryz.func207 fun args σ K h=>?_
 unfold Za6 at h
 split at h
 ·rename_i rows s
  obtain ⟨ws,rfl,hw,h⟩:=h;refine pwv [] 0 false ?_;refine ⟨ws,rfl,hw,wN ?_⟩;exact h _ (by rw [Bool.eq_iff_iff,TQ,<- Zil s ws 0])
 exact h.elim
def JB:PC w0 nG 206 Zaf:=by
 refine pwe Tryz.func206 fun args σ K h=>?_
 unfold Zaf Xp at h
 split at h
 ·rename_i t rows a en dp
  obtain ⟨L,ts,rfl,ho,h⟩:=h;split at h
  ·rename_i n
   have hl:=ho.len;have h0:=ho.lo;have h1:=ho.hi;have h2:=ho.big;have hn:n=0\/n=1:=by rcases h 0 with g | g <;> simp [g.1]
   refine pwv [] 1 false ?_;refine Zi ?_;refine ZFs (fun hc=>?_) (fun hc=>wN ?_)
   ·have hc:a+n<L.length:=by have hc:a+n<((ZS L).length:Int):=hc;rw [XM] at hc;exact hc
    rcases hn with rfl | rfl
    ·cases ts with
     | nil=>simp at hl;omega
     | cons t0 ts =>
     obtain ⟨x,hx,rfl,hp⟩:=ho.get;(conv=>whnf);refine ⟨ZzB x,oM,by simp [ZS,hx],wN ?_⟩;have h:=h x.fin;rw [Te,hp] at h;rcases h with h | h
     ·exact h.2
     exact absurd h.1 oM
    cases ts with
    | nil=>simp at hl;omega
    | cons t1 ts =>
    cases ts with
    | nil=>simp at hl;omega
    | cons t0 ts =>
    obtain ⟨x,hx,rfl,hp⟩:=ho.next.get;(conv=>whnf);refine ⟨ZzB x,oM,by simp [ZS,hx],wN ?_⟩;have h:=h x.fin;simp only [List.tail_cons,Te,hp] at h;rcases h with h | h
    ·exact absurd h.1 oM
    exact h.2
   have hc:¬a+n<L.length:=by have hc:¬a+n<((ZS L).length:Int):=hc;rw [XM] at hc;exact hc
   have h:=h 0;rcases hn with rfl | rfl
   ·cases ts with
    | nil => rcases h with h | h
             ·have h:=h.2;simp only [Tg,ZbS] at h;exact h
             exact absurd h.1 oM
    | cons t0 ts=>simp at hl;omega
   have:ts.tail=[]:=by
    cases ts with
    | nil=>rfl
    | cons t1 ts=>cases ts with
     | nil=>rfl
     | cons t0 ts=>simp at hl;omega
   rw [this] at h;rcases h with h | h
   ·exact absurd h.1 oM
   have h:=h.2;simp only [Tg,ZbS] at h;exact h
  exact h.elim
 exact h.elim
def Zsj:OKw w0 nG [(206,Zaf)] 162 Wt:=by
 refine pwo Tryz.func162 fun args σ K h=>?_
 unfold Wt Xp at h
 split at h
 ·rename_i rest t rows a en dp
  obtain ⟨L,ts,rfl,ho,h⟩:=h;split at h
  ·skip
   refine pwv [] 1 false ?_;refine ⟨L,ts,rfl,ho,fun fin=>Or.inl ⟨rfl,wN ?_⟩⟩;exact h
  exact h.elim
 exact h.elim
def ZCS:OKw w0 nG [(206,Zaf),(207,Za6)] 157 Zik:=by
 refine pwo Tryz.func157 fun args σ K h=>?_
 unfold Zik Xp at h
 split at h
 ·rename_i rest t rows a en dp
  obtain ⟨L,ts,rfl,ho,h⟩:=h;split at h
  ·rename_i rows
   obtain ⟨ws,rfl,hw,h⟩:=h;refine pwv [] 1 false ?_;refine ⟨L,ts,rfl,ho,fun fin=>Or.inl ⟨rfl,wN ?_⟩⟩;refine ZFs (fun h1=>wN ?_) (fun h1=>wN ?_)
   ·refine ⟨ws,rfl,hw,fun b hb=>wN ?_⟩;exact h _ (by simp only [isW,hb];simp [show (hd ts).kind=1 by omega])
   refine ZFs (fun h2=>wN ?_) (fun h2=>wN ?_)
   ·refine ⟨ws,rfl,hw,fun b hb=>wN ?_⟩;exact h _ (by simp only [isW,hb];simp [show (hd ts).kind=4 by omega])
   exact h _ (by simp [isW,show ¬(hd ts).kind=1 by omega,show ¬(hd ts).kind=4 by omega])
  exact h.elim
 exact h.elim
def Zsl:OKw w0 nG [(206,Zaf),(132,Zij)] 166 (JA ZO):=by
 refine pwo Tryz.func166 fun args σ K h=>?_
 unfold JA Xp at h
 split at h
 ·rename_i rest t rows a en dp
  obtain ⟨L,ts,rfl,ho,h⟩:=h;split at h
  ·skip
   refine pwv [] 1 false ?_;refine ⟨L,ts,rfl,ho,fun fin=>Or.inl ⟨rfl,wN ?_⟩⟩;refine ZFs (fun h1=>wN ?_) (fun h1=>wN ?_)
   ·refine ZFv (fun h2=>wN ?_) (fun h2=>wN ?_)
    ·intro b hb
     conv=>whnf
     exact h _ (by simp only [ZO,hb];rw [Sa (show (hd ts).kind=1 by omega),decide_eq_false h2];simp)
    exact h _ (by simp only [ZO];rw [Sa (p:=(hd ts).text=[95]) h2];simp)
   exact h _ (by simp [ZO,show ¬(hd ts).kind=1 by omega])
  exact h.elim
 exact h.elim
def ZvB:OKw w0 nG [(162,Wt)] 156 YU:=by
 refine pwo Tryz.func156 fun args σ K h=>?_
 unfold YU Xp at h
 split at h
 ·rename_i rest t rows a en dp
  obtain ⟨L,ts,rfl,ho,h⟩:=h;split at h
  ·skip
   refine pwv [] 1 false ?_;refine ⟨L,ts,rfl,ho,wN ?_⟩;exact h
  exact h.elim
 exact h.elim
def ZvD:OKw w0 nG [(157,Zik)] 208 XX:=by
 refine pwo Tryz.func208 fun args σ K h=>?_
 unfold XX Xp at h
 split at h
 ·rename_i rest t rows a en dp
  obtain ⟨L,ts,rfl,ho,h⟩:=h;split at h
  ·rename_i rows
   obtain ⟨ws,rfl,hw,h1,h2⟩:=h;refine pwv [] 1 false ?_;refine ⟨L,ts,rfl,ho,ws,rfl,hw,fun b hb=>?_⟩
   cases b with
   | true =>
    have ai:=ho.tl (Ut hb);have g1:=ho.lo;have g2:=ai.hi;have g3:=ai.big;(conv=>whnf);refine Zi ?_;exact h1 hb ai
   | false =>
   conv=>whnf
   exact h2 hb
  exact h.elim
 exact h.elim
def ZvF:OKw w0 nG [(208,XX),(156,YU)] 164 Xr:=by
 refine pwo Tryz.func164 fun args σ K h=>?_
 unfold Xr Xp at h
 split at h
 ·rename_i rest t rows a en dp
  obtain ⟨L,ts,rfl,ho,h⟩:=h;split at h
  ·rename_i w
   refine pwv [] 1 false ?_;refine ⟨L,ts,rfl,ho,[w],rfl,sM,fun hb ai=>wN ?_,fun hb=>wN ?_⟩
   ·have h:=h _ rfl;rw [Z3,Tk hb] at h;exact h _ oM ai
   refine ⟨L,ts,rfl,ho,wN ?_⟩;have h:=h _ rfl;rw [Z3,Tf (by rw [hb];simp)] at h;exact h _ _
  exact h.elim
 exact h.elim
def ZvH:OKw w0 nG [(156,YU)] 158 Zlo:=by
 refine pwo Tryz.func158 fun args σ K h=>?_
 unfold Zlo Xp at h
 split at h
 ·rename_i rest t rows a en dp
  obtain ⟨L,ts,rfl,ho,h⟩:=h;split at h
  ·rename_i n m
   refine pwv [] 1 false ?_;have g1:=ho.lo;have g2:=ho.hi;have g3:=ho.big;refine ZFs (fun hc=>wN ?_) (fun hc=>wN ?_)
   ·refine ⟨L,ts,rfl,ho,wN ?_⟩;exact h.1 hc
   refine Zi ?_;exact h.2 hc
  exact h.elim
 exact h.elim
def Zsn:OKw w0 nG [(166,(JA ZO)),(156,YU)] 163 Xx:=by
 refine pwo Tryz.func163 fun args σ K h=>?_
 unfold Xx spR Xp at h
 split at h
 ·rename_i rest t rows a en dp
  obtain ⟨L,ts,rfl,ho,h⟩:=h;split at h
  ·skip
   refine pwv [] 1 false ?_;have h:=h _ rfl;refine ⟨L,ts,rfl,ho,fun b hb=>?_⟩
   cases b with
   | true =>
    have ai:=ho.tl (Zii hb);have g1:=ho.lo;have g2:=ai.hi;have g3:=ai.big;rw [XR,Tk hb] at h;(conv=>whnf);refine Zi ?_;refine Zi ?_
    cases ts with
    | nil=>exact absurd rfl (Zii hb)
    | cons t0 ts =>
    obtain ⟨x,hx,rfl,hp⟩:=ho.get;refine ⟨ZzB x,oM,by rw [show a+1 - 1=a by omega];simp [ZS,hx],wN ?_⟩;exact h _ oM ai
   | false =>
   rw [XR,Tf (by rw [hb];simp)] at h;(conv=>whnf);exact mq81
  exact h.elim
 exact h.elim
def Zpw:OKw w0 nG [(206,Zaf),(157,Zik),(132,Zij),(190,Uu)] 246 (JA Z2):=by
 refine pwo Tryz.func246 fun args σ K h=>?_
 unfold JA Xp at h
 split at h
 ·rename_i rest t rows a en dp
  obtain ⟨L,ts,rfl,ho,h⟩:=h;split at h
  ·skip
   refine pwv [] 1 false ?_;refine ⟨L,ts,rfl,ho,fun fin=>Or.inl ⟨rfl,wN ?_⟩⟩;refine ZFs (fun h1=>wN ?_) (fun h1=>wN ?_)
   ·refine ZFs (fun _=>wN ?_) (fun g=>absurd h1 g);exact h _ (by rw [Z2,Tk oM])
   refine ZFs (fun h2=>wN ?_) (fun h2=>wN ?_)
   ·exact h _ (by rw [Z2,Tk oM])
   refine ZFs (fun h3=>wN ?_) (fun h3=>wN ?_)
   ·refine ⟨L,ts,rfl,ho,[[45],[126],[40],[91],[36]],rfl,sM,fun b hb=>wN ?_⟩;exact h _ (by rw [Z2,Tf oM,Tk oM];exact hb)
   refine ZFs (fun h4=>wN ?_) (fun h4=>wN ?_)
   ·have e0:Z2 ts=(!Zm9 (hd ts).text || (decide ((hd ts).text=[110,105,108]) || decide (YN (hd ts).text≠0))):=by rw [Z2,Tf oM,Tf oM,Tk oM]
    rw [e0] at h;intro b hb
    rw [hb] at h
    cases b with
    | false => conv => whnf
               exact h _ rfl
    | true =>
    conv=>whnf
    refine ZFs (fun h5=>wN ?_) (fun h5=>wN ?_)
    ·exact h _ (by rw [Sa (p:=(hd ts).text=[110,105,108]) h5];rfl)
    intro n hn
    conv=>whnf
    exact h _ (by rw [decide_eq_false (p:=(hd ts).text=[110,105,108]) h5,<- hn];by_cases g:YN (hd ts).text=0 <;> simp [g])
   exact h _ (by rw [Z2,Tf oM,Tf oM,Tf oM])
  exact h.elim
 exact h.elim
def Zso:Zo:=Xp fun rest L en dp a ts K=>match rest with
 | []=>∀n k:Int,((Za2 ts).1:Int)=n->((Za2 ts).2:Int)=k->K (.ret (.tuple [.d (.int .i64 n),.d (.int .u8 k)])) a dp
 | _=>False
def Zpx:OKw w0 nG [(206,Zaf)] 293 Zso:=by
 refine pwo Tryz.func293 fun args σ K h=>?_
 unfold Zso Xp at h
 split at h
 ·rename_i rest t rows a en dp
  obtain ⟨L,ts,rfl,ho,h⟩:=h;split at h
  ·skip
   refine pwv [] 1 false ?_;refine ⟨L,ts,rfl,ho,fun fin=>Or.inl ⟨rfl,wN ?_⟩⟩;refine ZFv (fun h1=>wN ?_) (fun h1=>?_)
   ·refine ZFv (fun h2=>wN ?_) (fun h2=>?_)
    ·have e0:Za2 ts=(0,0):=by rw [Za2,Tk oM]
     exact h _ _ (by rw [e0];rfl) (by rw [e0];rfl)
    have hn:¬((hd ts).kind≠1/\(hd ts).kind≠4):=by omega
    clear h1 h2
    exact mq119
   have hn:¬((hd ts).kind≠1/\(hd ts).kind≠4):=by omega
   clear h1
   exact mq119
  exact h.elim
 exact h.elim
def Zpy (body:List PV->List Tok->Int->Int->Int->Ts->RK->Prop):Zo:=fun args σ K=>match args,σ with
 | .ptr 0 0::rest,⟨[.cells t0 [.ptr 1 0],.cells t [.d (.sl rows),.d (.int .i64 a),.d (.int .i64 en),.d (.int .i64 dp)]],[],0⟩=>∃L ts,rows=ZS L/\ROK L a ts /\
   body rest L en dp a ts fun pe a' dp'=>K pe ⟨[.cells t0 [.ptr 1 0],.cells t [.d (.sl (ZS L)),.d (.int .i64 a'),.d (.int .i64 en),.d (.int .i64 dp')]],[],0⟩
 | _,_=>False
def Zy6 {α:Type} (enc:List Tok->Int->α->PV) (P:Ts->R α) (lo:Int):Zo:=Zpy fun rest L en dp a ts K=>match rest with
 | []=>∀x,P ts=x->RKk (enc L en) L en dp (a+lo) x K
 | _=>False
def Zlp (p:Ts->Bool):Zo:=Zpy fun rest L en dp a ts K=>match rest with
 | []=>∀b,p ts=b->K (.ret (.d (.bool b))) a dp
 | _=>False
def Zjh {α:Type} (enc:List Tok->Int->α->PV) (P:Ts->R α) (lo:Int) (d:Nat):Zo:=Xp fun rest L en dp a ts K=>match rest with
 | []=>(dp=64 - (d:Int)/\0<=dp)/\∀x,P ts=x->RKk (enc L en) L en dp (a+lo) x K
 | _=>False
def Zv {α β:Type} (f:α->β) (l:List α) (x:α):l.map f++[f x]=(l++[x]).map f:=sM
def Uv {α : Type} (sign : Bs) (ao : Nat) (st : Ts -> Bool) (one : Ts -> R α) (f : Nat) (l : List α) (ts : Ts) : Wr sign ao st one (f + 1) l ts = if st ts = true /\ l.length = ao then .err ts.length 3
      else (one ts).bind fun x ts=>if isW ts [sign]=true then Wr sign ao st one f (l++[x]) ts.tail else .ok (l++[x]) ts:=rfl
def JC:Zo:=fun args σ K=>match args,σ with
 | [.ptr 0 0,.d (.str sg),.d (.int .i64 m),.func g1 [.ptr 0 0] [],.func g2 [] [.ptr 1 0]],⟨[.cells t [.d (.sl rows),.d (.int .i64 a),.d (.int .i64 en),.d (.int .i64 dp)],.cells t0 [.ptr 0 0]],[],0⟩ =>
   (sg=[44]/\m=12/\g1=166/\g2=243)/\∃L ts,rows=ZS L/\ROK L a ts/\∀x,XS [44] 12 ZO Us ts=x ->
    RKk (fun (l:List Fi)=>.d (.sl (l.map (Zn)))) L en dp a x fun pe a' dp'=>K pe ⟨[.cells t [.d (.sl (ZS L)),.d (.int .i64 a'),.d (.int .i64 en),.d (.int .i64 dp')],.cells t0 [.ptr 0 0]],[],0⟩
 | _,_=>False
def Zin:OKw w0 nG ([(166,(JA ZO)),(156,YU),(243,(Zy6 (fun _ _ (v:Fi)=>Za5 (Zn v)) Us 1)),(208,XX)]) 242 (JC):=by
 refine pwo Tryz.func242 fun args σ K h=>?_
 unfold JC at h
 split at h
 ·rename_i sg m g1 g2 t rows a en dp t0
  obtain ⟨⟨rfl,rfl,rfl,rfl⟩,L,ts,rfl,ho,h⟩:=h;have h:=h _ rfl;have hl:=ho.len;have cu:=ho.big;have lj:=ho.lo;refine pwu [(2,⟨[11],[0,1,2,3,4],fun vs σ=>∃(l:List Fi) (a':Int) (ts':Ts) (f:Nat),vs=[.sl 0 58 (l.map (Zn))] /\
   σ=⟨[.cells t [.d (.sl (ZS L)),.d (.int .i64 a'),.d (.int .i64 en),.d (.int .i64 dp)],.cells t0 [.ptr 0 0]],[0],1⟩/\ROK L a' ts'/\a+l.length<=a'/\ts'.length<f /\
   XS [44] 12 ZO Us ts=Wr [44] 12 ZO Us f l ts',
   fun _ σ=>match σ with | ⟨.cells _ [_,.d (.int _ i),_,_]::_,_,_⟩=>((L.length:Int) - i).toNat | _=>0⟩)] 2 false ?_
  conv=>whnf
  refine ⟨⟨[],a,ts,ts.length+1,rfl,rfl,ho,sM,oM,rfl⟩,?_⟩;intro vs σ hI
  obtain ⟨l,a1,ts1,f,rfl,rfl,au,zu,hf,hm⟩:=hI;obtain ⟨f,rfl⟩:∃g,f=g+1:=⟨f - 1,oM⟩
  rw [Uv] at hm;have dt:=au.len;have qs:=au.hi;(conv=>whnf);refine ⟨L,ts1,rfl,au,fun b hb=>?_⟩;have step:(¬(ZO ts1=true/\l.length=12))->XS [44] 12 ZO Us ts=((Us) ts1).bind fun x ts=>if isW ts [[44]]=true then Wr [44] 12 ZO Us f (l++[x]) ts.tail else .ok (l++[x]) ts:=fun g=>by rw [hm,Tf g]
  cases b with
  | false =>
   have step:=step (by rw [hb];simp);(conv=>whnf);exact mq22
  | true =>
  conv=>whnf
  refine ZFs (fun hc=>wN ?_) (fun hc=>wN ?_)
  ·have hc:l.length=12:=by
    have hc:((l.map (Zn)).length:Int)=12:=hc;rw [Td] at hc;omega
   exact mq77
  have step:=step (fun g=>hc (by show ((l.map (Zn)).length:Int)=12;rw [Td,g.2];rfl));exact mq22
 exact h.elim
def Zdt:Zo:=fun args σ K=>match args,σ with
 | [.ptr 0 0,.d (.str sg),.d (.int .i64 m),.func g1 [.ptr 0 0] [],.func g2 [.ptr 0 0] []],⟨[.cells t [.d (.sl rows),.d (.int .i64 a),.d (.int .i64 en),.d (.int .i64 dp)]],[],0⟩ =>
   (sg=[44]/\m=12/\g1=166/\g2=163)/\∃L ts,rows=ZS L/\ROK L a ts/\∀x,XS [44] 12 ZO XR ts=x ->
    RKk (fun (l:List Bs)=>.d (.sl (l.map (Ym)))) L en dp a x fun pe a' dp'=>K pe ⟨[.cells t [.d (.sl (ZS L)),.d (.int .i64 a'),.d (.int .i64 en),.d (.int .i64 dp')]],[],0⟩
 | _,_=>False
def Znh:OKw w0 nG ([(166,(JA ZO)),(156,YU),(163,Xx),(208,XX)]) 214 (Zdt):=by
 refine pwo Tryz.func214 fun args σ K h=>?_
 unfold Zdt at h
 split at h
 ·rename_i sg m g1 g2 t rows a en dp
  obtain ⟨⟨rfl,rfl,rfl,rfl⟩,L,ts,rfl,ho,h⟩:=h;have h:=h _ rfl;have hl:=ho.len;have cu:=ho.big;have lj:=ho.lo;refine pwu [(2,⟨[11],[0,1,2,3,4],fun vs σ=>∃(l:List Bs) (a':Int) (ts':Ts) (f:Nat),vs=[.sl 0 9 (l.map (Ym))] /\
   σ=⟨[.cells t [.d (.sl (ZS L)),.d (.int .i64 a'),.d (.int .i64 en),.d (.int .i64 dp)]],[0],1⟩/\ROK L a' ts'/\a+l.length<=a'/\ts'.length<f /\
   XS [44] 12 ZO XR ts=Wr [44] 12 ZO XR f l ts',
   fun _ σ=>match σ with | ⟨.cells _ [_,.d (.int _ i),_,_]::_,_,_⟩=>((L.length:Int) - i).toNat | _=>0⟩)] 1 false ?_
  conv=>whnf
  refine ⟨⟨[],a,ts,ts.length+1,rfl,rfl,ho,sM,oM,rfl⟩,?_⟩;intro vs σ hI
  obtain ⟨l,a1,ts1,f,rfl,rfl,au,zu,hf,hm⟩:=hI;obtain ⟨f,rfl⟩:∃g,f=g+1:=⟨f - 1,oM⟩
  rw [Uv] at hm;have dt:=au.len;have qs:=au.hi;(conv=>whnf);refine ⟨L,ts1,rfl,au,fun b hb=>?_⟩;have step:(¬(ZO ts1=true/\l.length=12))->XS [44] 12 ZO XR ts=((XR) ts1).bind fun x ts=>if isW ts [[44]]=true then Wr [44] 12 ZO XR f (l++[x]) ts.tail else .ok (l++[x]) ts:=fun g=>by rw [hm,Tf g]
  cases b with
  | false =>
   have step:=step (by rw [hb];simp);(conv=>whnf);exact mq23
  | true =>
  conv=>whnf
  refine ZFs (fun hc=>wN ?_) (fun hc=>wN ?_)
  ·have hc:l.length=12:=by
    have hc:((l.map (Ym)).length:Int)=12:=hc;rw [Td] at hc;omega
   exact mq77
  have step:=step (fun g=>hc (by show ((l.map (Ym)).length:Int)=12;rw [Td,g.2];rfl));exact mq23
 exact h.elim
def Za8:Zo:=fun args σ K=>match args,σ with
 | [.ptr 0 0,.d (.str sg),.d (.int .i64 m),.func g1 [.ptr 0 0] [],.func g2 [] [.ptr 1 0]],⟨[.cells t [.d (.sl rows),.d (.int .i64 a),.d (.int .i64 en),.d (.int .i64 dp)],.cells t0 [.ptr 0 0]],[],0⟩ =>
   (sg=[124]/\m=64/\g1=166/\g2=211)/\∃L ts,rows=ZS L/\ROK L a ts/\∀x,XS [124] 64 ZO Zdm ts=x ->
    RKk (fun (l:List Ca)=>.d (.sl (l.map (Zt)))) L en dp a x fun pe a' dp'=>K pe ⟨[.cells t [.d (.sl (ZS L)),.d (.int .i64 a'),.d (.int .i64 en),.d (.int .i64 dp')],.cells t0 [.ptr 0 0]],[],0⟩
 | _,_=>False
def Zj7:OKw w0 nG ([(166,(JA ZO)),(156,YU),(211,(Zy6 (fun _ _ (v:Ca)=>Za5 (Zt v)) Zdm 1)),(208,XX)]) 210 (Za8):=by
 refine pwo Tryz.func210 fun args σ K h=>?_
 unfold Za8 at h
 split at h
 ·rename_i sg m g1 g2 t rows a en dp t0
  obtain ⟨⟨rfl,rfl,rfl,rfl⟩,L,ts,rfl,ho,h⟩:=h;have h:=h _ rfl;have hl:=ho.len;have cu:=ho.big;have lj:=ho.lo;refine pwu [(2,⟨[11],[0,1,2,3,4],fun vs σ=>∃(l:List Ca) (a':Int) (ts':Ts) (f:Nat),vs=[.sl 0 44 (l.map (Zt))] /\
   σ=⟨[.cells t [.d (.sl (ZS L)),.d (.int .i64 a'),.d (.int .i64 en),.d (.int .i64 dp)],.cells t0 [.ptr 0 0]],[0],1⟩/\ROK L a' ts'/\a+l.length<=a'/\ts'.length<f /\
   XS [124] 64 ZO Zdm ts=Wr [124] 64 ZO Zdm f l ts',
   fun _ σ=>match σ with | ⟨.cells _ [_,.d (.int _ i),_,_]::_,_,_⟩=>((L.length:Int) - i).toNat | _=>0⟩)] 2 false ?_
  conv=>whnf
  refine ⟨⟨[],a,ts,ts.length+1,rfl,rfl,ho,sM,oM,rfl⟩,?_⟩;intro vs σ hI
  obtain ⟨l,a1,ts1,f,rfl,rfl,au,zu,hf,hm⟩:=hI;obtain ⟨f,rfl⟩:∃g,f=g+1:=⟨f - 1,oM⟩
  rw [Uv] at hm;have dt:=au.len;have qs:=au.hi;(conv=>whnf);refine ⟨L,ts1,rfl,au,fun b hb=>?_⟩;have step:(¬(ZO ts1=true/\l.length=64))->XS [124] 64 ZO Zdm ts=((Zdm) ts1).bind fun x ts=>if isW ts [[124]]=true then Wr [124] 64 ZO Zdm f (l++[x]) ts.tail else .ok (l++[x]) ts:=fun g=>by rw [hm,Tf g]
  cases b with
  | false =>
   have step:=step (by rw [hb];simp);(conv=>whnf);exact mq21
  | true =>
  conv=>whnf
  refine ZFs (fun hc=>wN ?_) (fun hc=>wN ?_)
  ·have hc:l.length=64:=by
    have hc:((l.map (Zt)).length:Int)=64:=hc;rw [Td] at hc;omega
   exact mq77
  have step:=step (fun g=>hc (by show ((l.map (Zt)).length:Int)=64;rw [Td,g.2];rfl));exact mq21
 exact h.elim
def Zag (d:Nat):Zo:=fun args σ K=>match args,σ with
 | [.ptr 0 0,.d (.str sg),.d (.int .i64 m),.func g1 [.ptr 0 0] [],.func g2 [.ptr 0 0] []],⟨[.cells t [.d (.sl rows),.d (.int .i64 a),.d (.int .i64 en),.d (.int .i64 dp)]],[],0⟩ =>
   (sg=[44]/\m=12/\g1=246/\g2=247/\(dp=64 - (d:Int)/\0<=dp))/\∃L ts,rows=ZS L/\ROK L a ts/\∀x,XS [44] 12 Z2 (Zad d) ts=x ->
    RKk (fun (l:List Ex)=>.d (.sl (l.map (ZE (Zc L en))))) L en dp a x fun pe a' dp'=>K pe ⟨[.cells t [.d (.sl (ZS L)),.d (.int .i64 a'),.d (.int .i64 en),.d (.int .i64 dp')]],[],0⟩
 | _,_=>False
def ZpA (d:Nat):OKw w0 nG [(246,(JA Z2)),(156,YU),(247,(Zjh (fun L en (v:Ex)=>Za5 (ZE (Zc L en) v)) (Zad d) 0 d)),(208,XX)] 245 (Zag d):=by
 refine pwo Tryz.func245 fun args σ K h=>?_
 unfold Zag at h
 split at h
 ·rename_i sg m g1 g2 t rows a en dp
  obtain ⟨⟨rfl,rfl,rfl,rfl,fe⟩,L,ts,rfl,ho,h⟩:=h;have h:=h _ rfl;have hl:=ho.len;have cu:=ho.big;have lj:=ho.lo;refine pwu [(2,⟨[11],[0,1,2,3,4],fun vs σ=>∃(l:List Ex) (a':Int) (ts':Ts) (f:Nat),vs=[.sl 0 50 (l.map (ZE (Zc L en)))] /\
   σ=⟨[.cells t [.d (.sl (ZS L)),.d (.int .i64 a'),.d (.int .i64 en),.d (.int .i64 dp)]],[0],1⟩/\ROK L a' ts'/\a+l.length<=a'/\ts'.length<f /\
   XS [44] 12 Z2 (Zad d) ts=Wr [44] 12 Z2 (Zad d) f l ts',
   fun _ σ=>match σ with | ⟨.cells _ [_,.d (.int _ i),_,_]::_,_,_⟩=>((L.length:Int) - i).toNat | _=>0⟩)] 1 false ?_
  conv=>whnf
  refine ⟨⟨[],a,ts,ts.length+1,rfl,rfl,ho,sM,oM,rfl⟩,?_⟩;intro vs σ hI
  obtain ⟨l,a1,ts1,f,rfl,rfl,au,zu,hf,hm⟩:=hI;obtain ⟨f,rfl⟩:∃g,f=g+1:=⟨f - 1,oM⟩
  rw [Uv] at hm;have dt:=au.len;have qs:=au.hi;(conv=>whnf);refine ⟨L,ts1,rfl,au,fun b hb=>?_⟩;have step:(¬(Z2 ts1=true/\l.length=12))->XS [44] 12 Z2 (Zad d) ts=(((Zad d)) ts1).bind fun x ts=>if isW ts [[44]]=true then Wr [44] 12 Z2 (Zad d) f (l++[x]) ts.tail else .ok (l++[x]) ts:=fun g=>by rw [hm,Tf g]
  cases b with
  | false =>
   have step:=step (by rw [hb];simp);(conv=>whnf);exact mq19
  | true =>
  conv=>whnf
  refine ZFs (fun hc=>wN ?_) (fun hc=>wN ?_)
  ·have hc:l.length=12:=by
    have hc:((l.map (ZE (Zc L en))).length:Int)=12:=hc;rw [Td] at hc;omega
   exact mq77
  have step:=step (fun g=>hc (by show ((l.map (ZE (Zc L en))).length:Int)=12;rw [Td,g.2];rfl));exact mq19
 exact h.elim
def ZgO (d:Nat):Zo:=fun args σ K=>match args,σ with
 | [.ptr 0 0,.d (.str sg),.d (.int .i64 m),.func g1 [] [.ptr 1 0],.func g2 [.ptr 0 0] []],⟨[.cells t [.d (.sl rows),.d (.int .i64 a),.d (.int .i64 en),.d (.int .i64 dp)],.cells t0 [.ptr 0 0]],[],0⟩ =>
   (sg=[44]/\m=32/\g1=249/\g2=250/\(dp=64 - (d:Int)/\0<=dp))/\∃L ts,rows=ZS L/\ROK L a ts/\∀x,XS [44] 32 Yb (Znb d (ZeL d)) ts=x ->
    RKk (fun (l:List Li)=>.d (.sl (l.map (YT (Zc L en))))) L en dp a x fun pe a' dp'=>K pe ⟨[.cells t [.d (.sl (ZS L)),.d (.int .i64 a'),.d (.int .i64 en),.d (.int .i64 dp')],.cells t0 [.ptr 0 0]],[],0⟩
 | _,_=>False
def ZpC (d:Nat):OKw w0 nG [(249,(Zlp Yb)),(156,YU),(250,(Zjh (fun L en (v:Li)=>Za5 (YT (Zc L en) v)) (Znb d (ZeL d)) 0 d)),(208,XX)] 248 (ZgO d):=by
 refine pwo Tryz.func248 fun args σ K h=>?_
 unfold ZgO at h
 split at h
 ·rename_i sg m g1 g2 t rows a en dp t0
  obtain ⟨⟨rfl,rfl,rfl,rfl,fe⟩,L,ts,rfl,ho,h⟩:=h;have h:=h _ rfl;have hl:=ho.len;have cu:=ho.big;have lj:=ho.lo;refine pwu [(2,⟨[11],[0,1,2,3,4],fun vs σ=>∃(l:List Li) (a':Int) (ts':Ts) (f:Nat),vs=[.sl 0 84 (l.map (YT (Zc L en)))] /\
   σ=⟨[.cells t [.d (.sl (ZS L)),.d (.int .i64 a'),.d (.int .i64 en),.d (.int .i64 dp)],.cells t0 [.ptr 0 0]],[0],1⟩/\ROK L a' ts'/\a+l.length<=a'/\ts'.length<f /\
   XS [44] 32 Yb (Znb d (ZeL d)) ts=Wr [44] 32 Yb (Znb d (ZeL d)) f l ts',
   fun _ σ=>match σ with | ⟨.cells _ [_,.d (.int _ i),_,_]::_,_,_⟩=>((L.length:Int) - i).toNat | _=>0⟩)] 2 false ?_
  conv=>whnf
  refine ⟨⟨[],a,ts,ts.length+1,rfl,rfl,ho,sM,oM,rfl⟩,?_⟩;intro vs σ hI
  obtain ⟨l,a1,ts1,f,rfl,rfl,au,zu,hf,hm⟩:=hI;obtain ⟨f,rfl⟩:∃g,f=g+1:=⟨f - 1,oM⟩
  rw [Uv] at hm;have dt:=au.len;have qs:=au.hi;(conv=>whnf);refine ⟨L,ts1,rfl,au,fun b hb=>?_⟩;have step:(¬(Yb ts1=true/\l.length=32))->XS [44] 32 Yb (Znb d (ZeL d)) ts=(((Znb d (ZeL d))) ts1).bind fun x ts=>if isW ts [[44]]=true then Wr [44] 32 Yb (Znb d (ZeL d)) f (l++[x]) ts.tail else .ok (l++[x]) ts:=fun g=>by rw [hm,Tf g]
  cases b with
  | false =>
   have step:=step (by rw [hb];simp);(conv=>whnf);exact mq18
  | true =>
  conv=>whnf
  refine ZFs (fun hc=>wN ?_) (fun hc=>wN ?_)
  ·have hc:l.length=32:=by
    have hc:((l.map (YT (Zc L en))).length:Int)=32:=hc;rw [Td] at hc;omega
   exact mq77
  have step:=step (fun g=>hc (by show ((l.map (YT (Zc L en))).length:Int)=32;rw [Td,g.2];rfl));exact mq18
 exact h.elim
abbrev ZgP:Zo:=Zy6 (fun _ _ (v:Fi)=>Za5 (Zn v)) Us 1
abbrev Zj8:Zo:=Zy6 (fun _ _ (v:Ca)=>Za5 (Zt v)) Zdm 1
def UP:Zo:=Xp fun rest L en dp a ts K=>match rest with
 | [.d (.str w)]=>∀x,Za3 w ts=x->RKk (fun (v:List Fi)=>.d (.sl (v.map Zn))) L en dp a x K
 | _=>False
abbrev Zdu:Zo:=spR (fun _ _ (v:List Bs)=>.d (.sl (v.map Ym))) Zfv 0
abbrev ZgQ:Zo:=spR (fun L en (v:Ty)=>Za5 (Zr (Zc L en) v)) Zig 0
abbrev Zlq:Zo:=spR (fun L en (v:Re)=>Za5 (ZH (Zc L en) v)) Zpl 0
def ZpE:OKw w0 nG [(163,Xx),(164,Xr)] 243 ZgP:=by
 refine pwo Tryz.func243 fun args σ K h=>?_
 unfold ZgP Zy6 Zpy at h
 split at h
 ·rename_i rest t0 t rows a en dp
  obtain ⟨L,ts,rfl,ho,h⟩:=h;split at h
  ·skip
   have h0:=ho.lo;have h1:=ho.hi;have h2:=ho.big;refine pwv [] 2 false ?_;have h:=h _ rfl;unfold Us at h
   refine ⟨L,ts,rfl,ho,fun x dl=>?_⟩;rcases x with ⟨v1,ts1⟩ | ⟨r1,e1⟩
   rotate_left
   ·exact mq56
   rw [dl,R.bind_ok] at h;intro a1 d7 au
   have co:=au.hi;(conv=>whnf);refine ⟨L,ts1,rfl,au,fun x bo=>?_⟩;exact mq177
  exact h.elim
 exact h.elim
def ZpG:OKw w0 nG [(157,Zik),(242,JC)] 209 UP:=by
 refine pwo Tryz.func209 fun args σ K h=>?_
 unfold UP Xp at h
 split at h
 ·rename_i rest t rows a en dp
  obtain ⟨L,ts,rfl,ho,h⟩:=h;split at h
  ·rename_i w
   have h0:=ho.lo;have h1:=ho.hi;have h2:=ho.big;refine pwv [] 1 false ?_;have h:=h _ rfl;unfold Za3 at h
   refine ⟨L,ts,rfl,ho,[w],rfl,sM,fun b1 eh=>?_⟩
   cases b1 with
   | true =>
    rw [Tk eh] at h;(conv=>whnf);exact h _ oM ho
   | false =>
   rw [Tf (by rw [eh];simp)] at h;(conv=>whnf);refine ⟨⟨rfl,rfl,rfl,rfl⟩,L,ts,rfl,ho,fun x bo=>?_⟩;rcases x with ⟨v2,ts2⟩ | ⟨r2,e2⟩
   rotate_left
   ·rw [bo] at h;intro a9 d9;(conv=>whnf);exact h _ _
   rw [bo] at h;intro a2 f7 ai
   have ga:=ai.hi;(conv=>whnf);exact h _ oM ai
  exact h.elim
 exact h.elim
def Zsq:OKw w0 nG [(208,XX),(214,Zdt),(164,Xr)] 165 Zdu:=by
 refine pwo Tryz.func165 fun args σ K h=>?_
 unfold Zdu spR Xp at h
 split at h
 ·rename_i rest t rows a en dp
  obtain ⟨L,ts,rfl,ho,h⟩:=h;split at h
  ·skip
   have h0:=ho.lo;have h1:=ho.hi;have h2:=ho.big;refine pwv [] 1 false ?_;have h:=h _ rfl;unfold Zfv at h
   refine ⟨L,ts,rfl,ho,[[60]],rfl,sM,fun eh au=>wN ?_,fun eh=>wN ?_⟩
   ·rw [Tk eh] at h;have co:=au.hi;refine ⟨⟨rfl,rfl,rfl,rfl⟩,L,ts.tail,rfl,au,fun x bo=>?_⟩;exact mq177
   rw [Tf (by rw [eh];simp)] at h;exact h _ oM ho
  exact h.elim
 exact h.elim
def Zss:OKw w0 nG [(163,Xx),(164,Xr),(209,UP)] 211 Zj8:=by
 refine pwo Tryz.func211 fun args σ K h=>?_
 unfold Zj8 Zy6 Zpy at h
 split at h
 ·rename_i rest t0 t rows a en dp
  obtain ⟨L,ts,rfl,ho,h⟩:=h;split at h
  ·skip
   have h0:=ho.lo;have h1:=ho.hi;have h2:=ho.big;refine pwv [] 2 false ?_;have h:=h _ rfl;unfold Zdm at h
   refine ⟨L,ts,rfl,ho,fun x dl=>?_⟩;rcases x with ⟨v1,ts1⟩ | ⟨r1,e1⟩
   rotate_left
   ·exact mq56
   rw [dl,R.bind_ok] at h;intro a1 d7 au
   have co:=au.hi;(conv=>whnf);refine ⟨L,ts1,rfl,au,fun x bo=>?_⟩;rcases x with ⟨v2,ts2⟩ | ⟨r2,e2⟩
   rotate_left
   ·exact mq47
   rw [bo,R.bind_ok] at h;intro a2 f7 ai
   have ga:=ai.hi;(conv=>whnf);refine ⟨L,ts2,rfl,ai,fun x ep=>?_⟩;rcases x with ⟨v3,ts3⟩ | ⟨r3,e3⟩
   rotate_left
   ·exact mq20
   rw [ep,R.bind_ok] at h;intro a3 gg bu
   have jy:=bu.hi;(conv=>whnf);refine ⟨L,ts3,rfl,bu,fun x mg=>?_⟩;rcases x with ⟨v4,ts4⟩ | ⟨r4,e4⟩
   rotate_left
   ·exact mq108
   rw [mg,R.bind_ok] at h;intro a4 mz f9
   have ry:=f9.hi;(conv=>whnf);exact h _ oM f9
  exact h.elim
 exact h.elim
def Zsu:OKw w0 nG [(162,Wt),(163,Xx),(208,XX),(164,Xr),(209,UP),(210,Za8)] 159 ZgQ:=by
 refine pwo Tryz.func159 fun args σ K h=>?_
 unfold ZgQ spR Xp at h
 split at h
 ·rename_i rest t rows a en dp
  obtain ⟨L,ts,rfl,ho,h⟩:=h;split at h
  ·skip
   have h0:=ho.lo;have h1:=ho.hi;have h2:=ho.big;refine pwv [] 1 false ?_;have h:=h _ rfl;unfold Zig at h
   refine ⟨L,ts,rfl,ho,wN ?_⟩;refine ⟨L,ts,rfl,ho,fun x dl=>?_⟩;rcases x with ⟨v1,ts1⟩ | ⟨r1,e1⟩
   rotate_left
   ·exact mq56
   rw [dl,R.bind_ok] at h;intro a1 d7 au
   have co:=au.hi;(conv=>whnf);refine ⟨L,ts1,rfl,au,[[60,58]],rfl,sM,fun pq ai=>wN ?_,fun pq=>wN ?_⟩
   ·rw [Tk pq] at h;have ga:=ai.hi;refine ⟨L,ts1.tail,rfl,ai,fun x ep=>?_⟩;rcases x with ⟨v3,ts3⟩ | ⟨r3,e3⟩
    rotate_left
    ·exact mq20
    exact mq115
   rw [Tf (by rw [pq];simp)] at h;refine ⟨L,ts1,rfl,au,fun x ep=>?_⟩;rcases x with ⟨v3,ts3⟩ | ⟨r3,e3⟩
   rotate_left
   ·exact mq20
   rw [ep,R.bind_ok] at h;intro a3 gg bu
   have jy:=bu.hi;(conv=>whnf);refine ⟨L,ts3,rfl,bu,[[91]],rfl,sM,fun pj f9=>wN ?_,fun pj=>wN ?_⟩
   ·rw [Tk pj] at h;have ry:=f9.hi;refine ⟨L,ts3.tail,rfl,f9,fun x ky=>?_⟩;rcases x with ⟨v5,ts5⟩ | ⟨r5,e5⟩
    rotate_left
    ·exact mq46
    rw [ky,R.bind_ok] at h;intro a5 l4 gq
    have uk:=gq.hi;(conv=>whnf);refine ⟨L,ts5,rfl,gq,fun x qt=>?_⟩;rcases x with ⟨v6,ts6⟩ | ⟨r6,e6⟩
    rotate_left
    ·rw [qt,R.bind_err] at h;intro a9 d9;(conv=>whnf);exact h _ _
    rw [qt,R.bind_ok] at h;intro a6 xq nq
    have hb6:=nq.hi;(conv=>whnf);exact h _ oM nq
   rw [Tf (by rw [pj];simp)] at h;refine ⟨⟨rfl,rfl,rfl,rfl⟩,L,ts3,rfl,bu,fun x ky=>?_⟩;rcases x with ⟨v5,ts5⟩ | ⟨r5,e5⟩
   rotate_left
   ·exact mq46
   rw [ky,R.bind_ok] at h;intro a5 l4 gq
   have uk:=gq.hi;(conv=>whnf);exact h _ oM gq
  exact h.elim
 exact h.elim
def JU (i o n:Bool):Nat:=(match i with | true=>0 | false=>1)+(match o with | true=>0 | false=>1)+(match n with | true=>0 | false=>1)
def Zni (f : Nat) (i o n : Bool) (ts : Ts) : Y6 (f + 1) i o n ts = if i = false /\ isW ts [[105, 110, 112, 117, 116]] = true then Y6 f true o n ts.tail
      else if o=false/\isW ts [[111,117,116,112,117,116]]=true then Y6 f i true n ts.tail
      else if n=false/\isW ts [[105,110,108,105,110,101]]=true then Y6 f i o true ts.tail
      else ((i,o,n),ts):=rfl
def ZvJ:OKw w0 nG [(162,Wt),(163,Xx),(208,XX),(164,Xr),(209,UP)] 160 Zlq:=by
 refine pwo Tryz.func160 fun args σ K h=>?_
 unfold Zlq spR Xp at h
 split at h
 ·rename_i rest t rows a en dp
  obtain ⟨L,ts,rfl,ho,h⟩:=h;split at h
  ·skip
   have h0:=ho.lo;have h1:=ho.hi;have h2:=ho.big;refine pwv [(7,⟨[],[0,2,3],fun vs σ=>∃(nm:Bs) (l:List Fi) (a5:Int) (ts5:Ts) (i o n:Bool) (a':Int) (ts':Ts) (f:Nat),vs=[]/\σ=⟨[.cells t [.d (.sl (ZS L)),.d (.int .i64 a'),.d (.int .i64 en),.d (.int .i64 dp)],.cells 46 [.d (.str []),.sl 0 58 [],.d (.bool false),.d (.bool false),.d (.bool false),.d (.int .i64 0)],.cells 46 [.d (.str nm),.d (.sl (l.map Zn)),.d (.bool i),.d (.bool o),.d (.bool n),.d (.int .i64 (Zc L en ts.length))]],[0],1⟩/\ROK L a' ts'/\a<=a'/\JU i o n<f/\RKk (fun (v:Re)=>Za5 (ZH (Zc L en) v)) L en dp (a+0) (R.ok ⟨nm,l,(Y6 f i o n ts').1.1,(Y6 f i o n ts').1.2.1,(Y6 f i o n ts').1.2.2,ts.length⟩ (Y6 f i o n ts').2) (fun pe a' dp'=>K pe ⟨[.cells t [.d (.sl (ZS L)),.d (.int .i64 a'),.d (.int .i64 en),.d (.int .i64 dp')]],[],0⟩),fun _ σ=>match σ with | ⟨[_,_,.cells _ [_,_,.d (.bool i),.d (.bool o),.d (.bool n),_]],_,_⟩=>JU i o n | _=>0⟩)] 1 false ?_;have h:=h _ rfl;unfold Zpl at h
   refine ⟨L,ts,rfl,ho,wN ?_⟩;refine ⟨L,ts,rfl,ho,fun x dl=>?_⟩;rcases x with ⟨v1,ts1⟩ | ⟨r1,e1⟩
   rotate_left
   ·exact mq56
   rw [dl,R.bind_ok] at h;intro a1 d7 au
   have co:=au.hi;(conv=>whnf);refine ⟨L,ts1,rfl,au,fun x bo=>?_⟩;rcases x with ⟨v2,ts2⟩ | ⟨r2,e2⟩
   rotate_left
   ·exact mq47
   rw [bo,R.bind_ok] at h;intro a2 f7 ai
   have ga:=ai.hi;(conv=>whnf);refine ⟨L,ts2,rfl,ai,fun x ep=>?_⟩;rcases x with ⟨v3,ts3⟩ | ⟨r3,e3⟩
   rotate_left
   ·exact mq20
   rw [ep,R.bind_ok] at h;intro a3 gg bu
   have jy:=bu.hi;(conv=>whnf);refine ⟨L,ts3,rfl,bu,fun x mg=>?_⟩;rcases x with ⟨v4,ts4⟩ | ⟨r4,e4⟩
   rotate_left
   ·exact mq108
   rw [mg,R.bind_ok] at h;intro a4 mz f9
   have ry:=f9.hi;(conv=>whnf);refine ⟨⟨v1,v3,a4,ts4,false,false,false,a4,ts4,4,rfl,rfl,f9,oM,dM,h⟩,?_⟩
   clear h dl bo ep mg au ai bu f9 co ga jy ry d7 f7 gg mz
   intro vs σ hI
   obtain ⟨nm,l,a5,ts5,i,o,n,a',ts',f,rfl,rfl,cp,aj,hf,h⟩:=hI;obtain ⟨f,rfl⟩:∃g,f=g+1:=⟨f - 1,oM⟩
   rw [Zni] at h;have qz:=cp.hi;(conv=>whnf)
   cases i with
   | true =>
    rw [Tf sM] at h;(conv=>whnf)
    cases o with
    | true =>
     rw [Tf sM] at h;(conv=>whnf)
     cases n with
     | true =>
      exact mq152
     | false =>
     conv=>whnf
     refine ⟨L,ts',rfl,cp,[[105,110,108,105,110,101]],rfl,sM,fun gh gr=>wN ?_,fun gh=>wN ?_⟩
     ·rw [Tk ⟨rfl,gh⟩] at h;have rz:=gr.hi;refine ⟨⟨nm,l,a5,ts5,true,true,true,a'+1,ts'.tail,f,rfl,rfl,gr,oM,?_,h⟩,?_⟩
      ·(simp only [JU] at hf |-;omega)
      show JU true true true<JU true true false
      (simp only [JU];omega)
     exact mq146
    | false =>
    conv=>whnf
    refine ⟨L,ts',rfl,cp,[[111,117,116,112,117,116]],rfl,sM,fun gh gr=>wN ?_,fun gh=>wN ?_⟩
    ·rw [Tk ⟨rfl,gh⟩] at h;have rz:=gr.hi;refine ⟨⟨nm,l,a5,ts5,true,true,n,a'+1,ts'.tail,f,rfl,rfl,gr,oM,?_,h⟩,?_⟩
     ·cases n <;> (simp only [JU] at hf |-;omega)
     show JU true true n<JU true false n
     cases n <;> (simp only [JU];omega)
    rw [Tf (by rw [gh];simp)] at h
    cases n with
    | true =>
     exact mq152
    | false =>
    conv=>whnf
    refine ⟨L,ts',rfl,cp,[[105,110,108,105,110,101]],rfl,sM,fun gh gr=>wN ?_,fun gh=>wN ?_⟩
    ·rw [Tk ⟨rfl,gh⟩] at h;have rz:=gr.hi;refine ⟨⟨nm,l,a5,ts5,true,false,true,a'+1,ts'.tail,f,rfl,rfl,gr,oM,?_,h⟩,?_⟩
     ·(simp only [JU] at hf |-;omega)
     show JU true false true<JU true false false
     (simp only [JU];omega)
    exact mq146
   | false =>
   conv=>whnf
   refine ⟨L,ts',rfl,cp,[[105,110,112,117,116]],rfl,sM,fun gh gr=>wN ?_,fun gh=>wN ?_⟩
   ·rw [Tk ⟨rfl,gh⟩] at h;have rz:=gr.hi;refine ⟨⟨nm,l,a5,ts5,true,o,n,a'+1,ts'.tail,f,rfl,rfl,gr,oM,?_,h⟩,?_⟩
    ·cases o <;> cases n <;> (simp only [JU] at hf |-;omega)
    show JU true o n<JU false o n
    cases o <;> cases n <;> (simp only [JU];omega)
   rw [Tf (by rw [gh];simp)] at h
   cases o with
   | true =>
    rw [Tf sM] at h;(conv=>whnf)
    cases n with
    | true =>
     exact mq152
    | false =>
    conv=>whnf
    refine ⟨L,ts',rfl,cp,[[105,110,108,105,110,101]],rfl,sM,fun gh gr=>wN ?_,fun gh=>wN ?_⟩
    ·rw [Tk ⟨rfl,gh⟩] at h;have rz:=gr.hi;refine ⟨⟨nm,l,a5,ts5,false,true,true,a'+1,ts'.tail,f,rfl,rfl,gr,oM,?_,h⟩,?_⟩
     ·(simp only [JU] at hf |-;omega)
     show JU false true true<JU false true false
     (simp only [JU];omega)
    exact mq146
   | false =>
   conv=>whnf
   refine ⟨L,ts',rfl,cp,[[111,117,116,112,117,116]],rfl,sM,fun gh gr=>wN ?_,fun gh=>wN ?_⟩
   ·rw [Tk ⟨rfl,gh⟩] at h;have rz:=gr.hi;refine ⟨⟨nm,l,a5,ts5,false,true,n,a'+1,ts'.tail,f,rfl,rfl,gr,oM,?_,h⟩,?_⟩
    ·cases n <;> (simp only [JU] at hf |-;omega)
    show JU false true n<JU false false n
    cases n <;> (simp only [JU];omega)
   rw [Tf (by rw [gh];simp)] at h
   cases n with
   | true =>
    exact mq152
   | false =>
   conv=>whnf
   refine ⟨L,ts',rfl,cp,[[105,110,108,105,110,101]],rfl,sM,fun gh gr=>wN ?_,fun gh=>wN ?_⟩
   ·rw [Tk ⟨rfl,gh⟩] at h;have rz:=gr.hi;refine ⟨⟨nm,l,a5,ts5,false,false,true,a'+1,ts'.tail,f,rfl,rfl,gr,oM,?_,h⟩,?_⟩
    ·(simp only [JU] at hf |-;omega)
    show JU false false true<JU false false false
    (simp only [JU];omega)
   exact mq146
  exact h.elim
 exact h.elim
def Zlr (fn:Func) (tb:Tbl):Zo:=fun args σ K=>∃K0:PEnd->St->Prop,(∀e σ,K0 e σ->K e σ)/\args.length<=fn.ntmps/\WF (ctx Vr tb (Zj [])) fn σ.bx.length false args σ K0
def ZpH (fn:Func) (tb:Tbl):Zz (Zlr fn tb):=fun args σ K K' hK ⟨K0,h1,h2⟩=>⟨K0,fun e σ h=>hK _ _ (h1 e σ h),h2⟩
def ZzJ (fn:Func) (unr:Nat->Nat) (tb:Tbl):Zo:=fun args σ K=>∃K0:PEnd->St->Prop,(∀e σ,K0 e σ->K e σ)/\args.length<=fn.ntmps/\WF (ZCA Vr tb (Zj []) unr (Ye [])) fn σ.bx.length false args σ K0
def _root_.Go.PM.PCalls.closed {G:GE} {g:FuncId} {sp:Zo} (h:PCalls G g sp):PCalls G g (fun args σ K=>∃K0:PEnd->St->Prop,(∀e σ,K0 e σ->K e σ)/\sp args σ K0):=⟨h.enters,fun args σ K ⟨K0,hK,hs⟩ n e w vs hS ha =>
 (h.calls args σ K0 hs n e w vs hS ha).mono fun en w' ⟨pe,σ',e',hk,hr⟩=>⟨pe,σ',e',hK _ _ hk,hr⟩⟩
def Zca {g : FuncId} {fn : Func} {c : Code} {tb : Tbl} (ht : TO w0 nG tb) (hf : (GG w0 nG).P.funcs[g]? = some fn) (hb : fn.body = some c) (ak : (fn.name == "runtime.NumGoroutine") = false) (av : ZD fn.ntmps c = true) : PC w0 nG g (Zlr fn tb) := by
 have h:PC w0 nG g (fun args σ K=>args.length<=fn.ntmps/\WF (ctx Vr tb (Zj [])) fn σ.bx.length false args σ K):=by
  refine Zh1 Zy mixed ht hf hb ak av ?_;intro args σ K h
  exact ⟨Zj [],σ.bx.length,false,Tt _,h.1,h.2⟩
 exact h.closed
def ZzK {g : FuncId} {fn : Func} {c : Code} {unr : Nat -> Nat} {tb : Tbl} (ht : TO w0 nG tb) (hf : (GG w0 nG).P.funcs[g]? = some fn) (hb : fn.body = some c) (ak : (fn.name == "runtime.NumGoroutine") = false) (av : ZD fn.ntmps c = true) : PC w0 nG g (ZzJ fn unr tb) := by
 have h:PC w0 nG g (fun args σ K=>args.length<=fn.ntmps/\WF (ZCA Vr tb (Zj []) unr (Ye [])) fn σ.bx.length false args σ K):=by
  refine XQ Zy mixed ht hf hb ak av ?_;intro args σ K h
  exact ⟨Zj [],unr,Ye [],σ.bx.length,false,Tt _,h.1,h.2⟩
 exact h.closed
def ZvK {α:Type} (enc:List Tok->Int->α->PV) (P:Ts->R α) (lo:Int) (d:Nat):Zo:=Xp fun rest L en dp a ts K=>match rest with
 | []=>(0<d/\dp=65 - (d:Int)/\0<=dp)/\∀x,P ts=x->RKk (enc L en) L en dp (a+lo) x K
 | _=>False
def Zdv {α:Type} {enc:List Tok->Int->α->PV} {P:Ts->R α} {lo:Int} {g:FuncId} (h:WH (GG w0 nG).P g):PC w0 nG g (ZvK enc P lo 0):=⟨h,fun args σ K hs=>by
 exfalso;unfold ZvK Xp at hs
 split at hs
 ·obtain ⟨L,ts,_,_,hs⟩:=hs;split at hs
  ·have:=hs.1.1;omega
  exact hs
 exact hs⟩
def _root_.Go.PM.PCalls.weaken1 {G:GE} {g:FuncId} {sp sp':Zo} (h:PCalls G g sp) (hw:∀args σ K,sp' args σ K->sp args σ K):PCalls G g sp':=⟨h.enters,fun args σ K hs=>h.calls args σ K (hw _ _ _ hs)⟩
def Zdw {α:Type} {enc:List Tok->Int->α->PV} {P:Ts->R α} {lo:Int} {d:Nat} {g:FuncId} (h:PC w0 nG g (Zjh enc P lo d)):PC w0 nG g (ZvK enc P lo (d+1)):=h.weaken1 fun args σ K hs=>by
 unfold ZvK Xp at hs
 unfold Zjh Xp
 split at hs
 ·obtain ⟨L,ts,h1,h2,hs⟩:=hs;refine ⟨L,ts,h1,h2,?_⟩;split at hs
  ·exact ⟨by have:=hs.1.2;omega,hs.2⟩
  exact hs.elim
 exact hs
def Za9:Zo:=fun args σ K=>match args,σ with
 | [.d (.str w),.ptr 0 0],⟨[.cells t0 [.ptr 1 0],.cells t [.d (.sl rows),.d (.int .i64 a),.d (.int .i64 en),.d (.int .i64 dp)]],[],0⟩=>∃L ts,rows=ZS L/\ROK L a ts /\
   (isW ts [w]=true->ROK L (a+1) ts.tail->K (.ret (.d (.bool true))) ⟨[.cells t0 [.ptr 1 0],.cells t [.d (.sl (ZS L)),.d (.int .i64 (a+1)),.d (.int .i64 en),.d (.int .i64 dp)]],[],0⟩) /\
   (isW ts [w]=false->K (.ret (.d (.bool false))) ⟨[.cells t0 [.ptr 1 0],.cells t [.d (.sl (ZS L)),.d (.int .i64 a),.d (.int .i64 en),.d (.int .i64 dp)]],[],0⟩)
 | _,_=>False
def Zls:Tbl:=[(208,XX)]
def ZpI:OKw w0 nG Zls 275 Za9:=by
 refine pwo Tryz.func275 fun args σ K h=>?_
 exact mq79
def ZpJ:OKw w0 nG Zls 276 Za9:=by
 refine pwo Tryz.func276 fun args σ K h=>?_
 exact mq79
def Zsv:Zo:=fun args σ K=>match args,σ with
 | [.asl 0 0 n,.func g [] [.ptr 1 0]],⟨[.cells tA cs,.cells t0 [.ptr 2 0],.cells t [.d (.sl rows),.d (.int .i64 a),.d (.int .i64 en),.d (.int .i64 dp)]],[],0⟩=>∃L ts ws,rows=ZS L/\ROK L a ts /\
   ((ws=Z4/\g=275)\/(ws=Yt/\g=276))/\n=ws.length/\cs=ws.map (fun w=>PV.d (.str w)) /\
   (∀k:Nat,ZbR ts 0 ws=some k->ROK L (a+1) ts.tail->K (.ret (.d (.int .i64 k))) ⟨[.cells tA cs,.cells t0 [.ptr 2 0],.cells t [.d (.sl (ZS L)),.d (.int .i64 (a+1)),.d (.int .i64 en),.d (.int .i64 dp)]],[],0⟩) /\
   (ZbR ts 0 ws=none->K (.ret (.d (.int .i64 (-1)))) ⟨[.cells tA cs,.cells t0 [.ptr 2 0],.cells t [.d (.sl (ZS L)),.d (.int .i64 a),.d (.int .i64 en),.d (.int .i64 dp)]],[],0⟩)
 | _,_=>False
def Zun:Tbl:=[(275,Za9),(276,Za9)]
def ZzL (ht:TO w0 nG Zun):PC w0 nG 172 Zsv:=by
 refine XQ Zy mixed (tbl:=Zun) ht Tryz.func172 rfl kR kR ?_;intro args σ K h
 unfold Zsv at h
 split at h
 ·rename_i n g tA cs t0 t rows a en dp
  obtain ⟨L,ts,ws,rfl,ho,hws,rfl,rfl,h1,h2⟩:=h;refine ⟨Zj [],Xo [(2,8)],Ye [],3,false,sM,Tc rfl,?_⟩;rcases hws with ⟨rfl,rfl⟩ | ⟨rfl,rfl⟩
  ·conv=>whnf
   refine ⟨dM,dM,wN ?_⟩;refine ⟨L,ts,rfl,ho,fun zw ai=>wN ?_,fun zw=>wN ?_⟩
   ·exact h1 0 (by simp [ZbR,Z4, *]) ai
   refine Zi ?_;refine ⟨dM,dM,wN ?_⟩;refine ⟨L,ts,rfl,ho,fun eh ai=>wN ?_,fun eh=>wN ?_⟩
   ·exact h1 1 (by simp [ZbR,Z4, *]) ai
   refine Zi ?_;refine ⟨dM,dM,wN ?_⟩;refine ⟨L,ts,rfl,ho,fun pq ai=>wN ?_,fun pq=>wN ?_⟩
   ·exact h1 2 (by simp [ZbR,Z4, *]) ai
   refine Zi ?_;refine ⟨dM,dM,wN ?_⟩;refine ⟨L,ts,rfl,ho,fun oz ai=>wN ?_,fun oz=>wN ?_⟩
   ·exact h1 3 (by simp [ZbR,Z4, *]) ai
   refine Zi ?_;refine ⟨dM,dM,wN ?_⟩;refine ⟨L,ts,rfl,ho,fun pj ai=>wN ?_,fun pj=>wN ?_⟩
   ·exact h1 4 (by simp [ZbR,Z4, *]) ai
   refine Zi ?_;refine ⟨dM,dM,wN ?_⟩;refine ⟨L,ts,rfl,ho,fun hw5 ai=>wN ?_,fun hw5=>wN ?_⟩
   ·exact h1 5 (by simp [ZbR,Z4, *]) ai
   refine Zi ?_;exact h2 (by simp [ZbR,Z4, *])
  conv=>whnf
  refine ⟨dM,dM,wN ?_⟩;refine ⟨L,ts,rfl,ho,fun zw ai=>wN ?_,fun zw=>wN ?_⟩
  ·exact h1 0 (by simp [ZbR,Yt, *]) ai
  refine Zi ?_;refine ⟨dM,dM,wN ?_⟩;refine ⟨L,ts,rfl,ho,fun eh ai=>wN ?_,fun eh=>wN ?_⟩
  ·exact h1 1 (by simp [ZbR,Yt, *]) ai
  refine Zi ?_;refine ⟨dM,dM,wN ?_⟩;refine ⟨L,ts,rfl,ho,fun pq ai=>wN ?_,fun pq=>wN ?_⟩
  ·exact h1 2 (by simp [ZbR,Yt, *]) ai
  refine Zi ?_;refine ⟨dM,dM,wN ?_⟩;refine ⟨L,ts,rfl,ho,fun oz ai=>wN ?_,fun oz=>wN ?_⟩
  ·exact h1 3 (by simp [ZbR,Yt, *]) ai
  refine Zi ?_;exact h2 (by simp [ZbR,Yt, *])
 exact h.elim
def ZgR:Nat->Ts->R Ex
 | 0=>fun _=>.err 0 150
 | d+1=>Xw d
def Zsw (d:Nat):Zdo d=fun ts=>Jz (ZgR d) 6 1 ts:=by cases d <;> rfl
def Znj (d:Nat) (ts:Ts):Xw d ts=Zdn d (ZgR d) ts:=by cases d <;> rfl
def Znk {ts:Ts} (h:Z2 ts=true):ts≠[]:=by rintro rfl;simp [Z2,hd] at h
abbrev Zj9 (d:Nat):Zo:=ZvK (fun L en (v:Ex)=>Za5 (ZE (Zc L en) v)) (Zdo d) 0 d
abbrev Zio (d:Nat):Zo:=ZvK (fun L en (v:Ex)=>Za5 (ZE (Zc L en) v)) (ZgR d) 0 d
abbrev Zfx (d:Nat):Zo:=Zjh (fun L en (v:Ex)=>Za5 (ZE (Zc L en) v)) (Zad d) 0 d
abbrev Zcs (d:Nat):Zo:=Zjh (fun L en (v:Ex)=>Za5 (ZE (Zc L en) v)) (Xw d) 0 d
abbrev Zah (d:Nat):Zo:=Zjh (fun L en (v:Ex)=>Za5 (ZE (Zc L en) v)) (Zac d (Zdo d)) 0 d
def Zdx (d:Nat):Zo:=Xp fun rest L en dp a ts K=>match rest with
 | [.d (.str fr),.d (.str tw)]=>((dp=64 - (d:Int)/\0<=dp)/\tw≠[])/\∀x,Zih d (Zdo d) fr tw ts=x->RKk (fun (l:List Ex)=>.d (.sl (l.map (ZE (Zc L en))))) L en dp a x K
 | _=>False
def Zlt (d:Nat):Zo:=Xp fun rest L en dp a ts K=>match rest with
 | [.agg [.d (.int .u8 op),.d (.str []),.d (.int .i64 n),.nils e,.d (.int .i64 at')]]=>((dp=64 - (d:Int)/\0<=dp)/\n=0/\e=50)/\∃o:Nat,op=(o:Int)/\∀x,Zx d [40] [41] (Zab (Zdo d) (Zna o) []) ts=x ->
   RKk (fun (l:List Ex)=>.agg [.d (.int .u8 op),.d (.str []),.d (.int .i64 0),.d (.sl (l.map (ZE (Zc L en)))),.d (.int .i64 at')]) L en dp a x K
 | _=>False
def Ve (d:Nat):Zo:=fun args σ K=>match args,σ with
 | [.ptr 0 0,.d (.str sg),.d (.int .i64 m),.func g1 [.ptr 0 0] [],.func g2 [.ptr 0 0] []],⟨[.cells t [.d (.sl rows),.d (.int .i64 a),.d (.int .i64 en),.d (.int .i64 dp)]],[],0⟩ =>
   (sg=[44]/\m=12/\g1=246/\g2=247/\0<d/\dp=65 - (d:Int)/\0<=dp)/\∃L ts,rows=ZS L/\ROK L a ts/\∀x,XS [44] 12 Z2 (Zdo d) ts=x ->
    RKk (fun (l:List Ex)=>.d (.sl (l.map (ZE (Zc L en))))) L en dp a x fun pe a' dp'=>K pe ⟨[.cells t [.d (.sl (ZS L)),.d (.int .i64 a'),.d (.int .i64 en),.d (.int .i64 dp')]],[],0⟩
 | _,_=>False
def Zlu (d:Nat):Tbl:=[(157,Zik),(245,Ve d)]
def Zlv (d:Nat):Tbl:=[(157,Zik),(164,Xr),(156,YU),(244,Zlr Tryz.f244 (Zlu d))]
def ZvM {d:Nat}:OKw w0 nG [(212,Zlr Tryz.f212 (Zlv d))] 215 (Zdx d):=by
 refine pwo Tryz.func215 fun args σ K h=>?_
 unfold Zdx Xp at h
 split at h
 ·rename_i rest t rows a en dp
  obtain ⟨L,ts,rfl,ho,h⟩:=h;split at h
  ·rename_i fr tw
   obtain ⟨⟨fe,vo⟩,h⟩:=h;have h0:=ho.lo;have h1:=ho.hi;have h2:=ho.big;refine pwv [] 1 false ?_;have h:=h _ rfl;unfold Zih at h
   refine ⟨_,fun _ _ h=>h,Tc rfl,wN ?_⟩;refine ⟨L,ts,rfl,ho,[fr],rfl,sM,fun b eh=>?_⟩
   cases b with
   | false =>
    exact mq190
   | true =>
   rw [Zx,Tk eh] at h;(conv=>whnf);refine ZFs (fun hc=>wN ?_) (fun hc=>wN ?_)
   ·rw [Tk oM] at h;exact mq81
   rw [Tf oM] at h;refine ⟨L,ts,rfl,ho,fun x hx=>?_⟩;rw [Z3,Tk eh] at hx;subst hx;intro a1 d7 au
   have co:=au.hi;(conv=>whnf);refine Zi ?_;refine ⟨_,fun _ _ h=>h,Tc rfl,wN ?_⟩;refine ⟨L,ts.tail,rfl,au,[tw],rfl,sM,fun b pj=>?_⟩;have gy:∀(x:R (List Ex)),(if isW ts.tail [tw]=true then R.ok [] ts.tail else XS [44] 12 Z2 (Zdo d) ts.tail)=x->True:=fun _ _=>trivial
   cases b with
   | true =>
    rw [Tk pj,R.bind_ok] at h;(conv=>whnf);have ai:=au;refine ZFv (fun _=>wN ?_) (fun g=>absurd g vo);rw [Tf vo] at h;refine ⟨L,ts.tail,rfl,au,fun x ep=>?_⟩;exact mq15
   | false =>
   rw [Tf (by rw [pj];simp)] at h;(conv=>whnf);refine ⟨⟨rfl,rfl,rfl,rfl,oM,oM,oM⟩,L,ts.tail,rfl,au,fun x bo=>?_⟩;rcases x with ⟨v2,ts2⟩ | ⟨r2,e2⟩
   rotate_left
   ·exact mq47
   rw [bo,R.bind_ok] at h;intro a2 f7 ai
   have ga:=ai.hi;(conv=>whnf);refine ZFv (fun _=>wN ?_) (fun g=>absurd g vo);rw [Tf vo] at h;refine ⟨L,ts2,rfl,ai,fun x ep=>?_⟩;exact mq15
  exact h.elim
 exact h.elim
def Vf (ex:Ts->R Ex) (k:Nat) (l:List Ex) (ts:Ts):Zab ex (k+1) l ts=(if l=[] then .ok () ts else Z3 [44] ts).bind fun _ ts=>(ex ts).bind fun e ts=>Zab ex k (l++[e]) ts:=rfl
def Zlw (d:Nat):Tbl:=[(164,Xr),(247,Zj9 d)]
def Zlx (d:Nat):Tbl:=[(157,Zik),(164,Xr),(156,YU),(324,ZzJ Tryz.f324 (Xo [(1,5)]) (Zlw d))]
def ZvO {d:Nat}:OKw w0 nG [(212,Zlr Tryz.f212 (Zlx d))] 320 (Zlt d):=by
 refine pwo Tryz.func320 fun args σ K h=>?_
 unfold Zlt Xp at h
 split at h
 ·rename_i rest t rows a en dp
  obtain ⟨L,ts,rfl,ho,h⟩:=h;split at h
  ·rename_i op n e at'
   obtain ⟨⟨fe,rfl,rfl⟩,o,rfl,h⟩:=h;have h:=h _ rfl;have h0:=ho.lo;have h1:=ho.hi;have h2:=ho.big;refine pwv [] 1 false ?_;refine ZFs (fun eg=>?_) (fun eg=>wN ?_)
   ·obtain rfl:o=22:=by omega
    have xr:Zna 22=3:=rfl;(conv=>whnf);refine X6 ?_;refine X6 ?_;rw [xr] at h;refine ⟨_,fun _ _ h=>h,Tc rfl,wN ?_⟩;refine ⟨L,ts,rfl,ho,[[40]],rfl,sM,fun b eh=>?_⟩
    cases b with
    | false =>
     exact mq190
    | true =>
    rw [Zx,Tk eh] at h;(conv=>whnf);refine ZFs (fun hc=>wN ?_) (fun hc=>wN ?_)
    ·rw [Tk oM] at h;exact mq81
    rw [Tf oM] at h;refine ⟨L,ts,rfl,ho,fun x hx=>?_⟩;rw [Z3,Tk eh] at hx;subst hx;intro a1 d7 au
    have co:=au.hi;(conv=>whnf);refine Zi ?_;refine ⟨_,fun _ _ h=>h,Tc rfl,wN ?_⟩;rw [Vf] at h;rw [Tk rfl,R.bind_ok] at h;refine ⟨L,ts.tail,rfl,au,⟨oM,oM,oM⟩,fun x m7=>?_⟩;rcases x with ⟨v10,ts10⟩ | ⟨r10,e10⟩
    rotate_left
    ·exact mq141
    rw [m7,R.bind_ok] at h;intro a10 sa kz
    have xu:=kz.hi;obtain ⟨v10a,v10b,v10c,v10d,v10e⟩:=v10;(conv=>whnf);refine ⟨rfl,rfl,Tc rfl,Tc rfl,wN ?_⟩
    repeat (refine ⟨rfl,?_⟩;conv=>whnf)
    refine X6 ?_;rw [Vf] at h;rw [Tf sM] at h;refine ⟨L,ts10,rfl,kz,fun x jz=>?_⟩;rcases x with ⟨v11,ts11⟩ | ⟨r11,e11⟩
    rotate_left
    ·rw [jz,R.bind_err,R.bind_err] at h;intro a9 d9;(conv=>whnf);exact h _ _
    rw [jz,R.bind_ok] at h;intro a11 sb la
    have xv:=la.hi;(conv=>whnf);refine ⟨L,ts11,rfl,la,⟨oM,oM,oM⟩,fun x lb=>?_⟩;rcases x with ⟨v12,ts12⟩ | ⟨r12,e12⟩
    rotate_left
    ·rw [lb,R.bind_err,R.bind_err] at h;intro a9 d9;(conv=>whnf);exact h _ _
    rw [lb,R.bind_ok] at h;intro a12 sc lc
    have xw:=lc.hi;obtain ⟨v12a,v12b,v12c,v12d,v12e⟩:=v12;(conv=>whnf);refine ⟨rfl,rfl,Tc rfl,Tc rfl,wN ?_⟩
    repeat (refine ⟨rfl,?_⟩;conv=>whnf)
    refine X6 ?_;rw [Vf] at h;rw [Tf sM] at h;refine ⟨L,ts12,rfl,lc,fun x xy=>?_⟩;rcases x with ⟨v13,ts13⟩ | ⟨r13,e13⟩
    rotate_left
    ·rw [xy,R.bind_err,R.bind_err] at h;intro a9 d9;(conv=>whnf);exact h _ _
    rw [xy,R.bind_ok] at h;intro a13 adq xz
    have afn:=xz.hi;(conv=>whnf);refine ⟨L,ts13,rfl,xz,⟨oM,oM,oM⟩,fun x x7=>?_⟩;rcases x with ⟨v14,ts14⟩ | ⟨r14,e14⟩
    rotate_left
    ·rw [x7,R.bind_err,R.bind_err] at h;intro a9 d9;(conv=>whnf);exact h _ _
    rw [x7,R.bind_ok] at h;intro a14 adr x8
    have afo:=x8.hi;obtain ⟨v14a,v14b,v14c,v14d,v14e⟩:=v14;(conv=>whnf);refine ⟨rfl,rfl,Tc rfl,Tc rfl,wN ?_⟩
    repeat (refine ⟨rfl,?_⟩;conv=>whnf)
    refine X6 ?_;rw [Zab] at h;rw [R.bind_ok] at h;have x9:ts14=ts14:=rfl;have ai:=x8;obtain ⟨ts2,o3⟩:∃t,t=ts14:=⟨_,rfl⟩
    rw [<- o3] at h ai;exact mq186
   refine ZFs (fun ul=>?_) (fun ul=>wN ?_)
   ·obtain rfl:o=20:=by omega
    have xr:Zna 20=2:=rfl;(conv=>whnf);refine X6 ?_;rw [xr] at h;refine ⟨_,fun _ _ h=>h,Tc rfl,wN ?_⟩;refine ⟨L,ts,rfl,ho,[[40]],rfl,sM,fun b eh=>?_⟩
    cases b with
    | false =>
     exact mq190
    | true =>
    rw [Zx,Tk eh] at h;(conv=>whnf);refine ZFs (fun hc=>wN ?_) (fun hc=>wN ?_)
    ·rw [Tk oM] at h;exact mq81
    rw [Tf oM] at h;refine ⟨L,ts,rfl,ho,fun x hx=>?_⟩;rw [Z3,Tk eh] at hx;subst hx;intro a1 d7 au
    have co:=au.hi;(conv=>whnf);refine Zi ?_;refine ⟨_,fun _ _ h=>h,Tc rfl,wN ?_⟩;rw [Vf] at h;rw [Tk rfl,R.bind_ok] at h;refine ⟨L,ts.tail,rfl,au,⟨oM,oM,oM⟩,fun x m7=>?_⟩;rcases x with ⟨v10,ts10⟩ | ⟨r10,e10⟩
    rotate_left
    ·exact mq141
    rw [m7,R.bind_ok] at h;intro a10 sa kz
    have xu:=kz.hi;obtain ⟨v10a,v10b,v10c,v10d,v10e⟩:=v10;(conv=>whnf);refine ⟨rfl,rfl,Tc rfl,Tc rfl,wN ?_⟩
    repeat (refine ⟨rfl,?_⟩;conv=>whnf)
    refine X6 ?_;rw [Vf] at h;rw [Tf sM] at h;refine ⟨L,ts10,rfl,kz,fun x jz=>?_⟩;rcases x with ⟨v11,ts11⟩ | ⟨r11,e11⟩
    rotate_left
    ·rw [jz,R.bind_err,R.bind_err] at h;intro a9 d9;(conv=>whnf);exact h _ _
    rw [jz,R.bind_ok] at h;intro a11 sb la
    have xv:=la.hi;(conv=>whnf);refine ⟨L,ts11,rfl,la,⟨oM,oM,oM⟩,fun x lb=>?_⟩;rcases x with ⟨v12,ts12⟩ | ⟨r12,e12⟩
    rotate_left
    ·rw [lb,R.bind_err,R.bind_err] at h;intro a9 d9;(conv=>whnf);exact h _ _
    rw [lb,R.bind_ok] at h;intro a12 sc lc
    have xw:=lc.hi;obtain ⟨v12a,v12b,v12c,v12d,v12e⟩:=v12;(conv=>whnf);refine ⟨rfl,rfl,Tc rfl,Tc rfl,wN ?_⟩
    repeat (refine ⟨rfl,?_⟩;conv=>whnf)
    refine X6 ?_;rw [Zab] at h;rw [R.bind_ok] at h;have x9:ts12=ts12:=rfl;have ai:=lc;obtain ⟨ts2,o3⟩:∃t,t=ts12:=⟨_,rfl⟩
    rw [<- o3] at h ai;exact mq186
   have xr:Zna o=1:=by rw [Zna,Tf oM,Tf oM]
   rw [xr] at h;refine ⟨_,fun _ _ h=>h,Tc rfl,wN ?_⟩;refine ⟨L,ts,rfl,ho,[[40]],rfl,sM,fun b eh=>?_⟩
   cases b with
   | false =>
    exact mq190
   | true =>
   rw [Zx,Tk eh] at h;(conv=>whnf);refine ZFs (fun hc=>wN ?_) (fun hc=>wN ?_)
   ·rw [Tk oM] at h;exact mq81
   rw [Tf oM] at h;refine ⟨L,ts,rfl,ho,fun x hx=>?_⟩;rw [Z3,Tk eh] at hx;subst hx;intro a1 d7 au
   have co:=au.hi;(conv=>whnf);refine Zi ?_;refine ⟨_,fun _ _ h=>h,Tc rfl,wN ?_⟩;rw [Vf] at h;rw [Tk rfl,R.bind_ok] at h;refine ⟨L,ts.tail,rfl,au,⟨oM,oM,oM⟩,fun x m7=>?_⟩;rcases x with ⟨v10,ts10⟩ | ⟨r10,e10⟩
   rotate_left
   ·exact mq141
   rw [m7,R.bind_ok] at h;intro a10 sa kz
   have xu:=kz.hi;obtain ⟨v10a,v10b,v10c,v10d,v10e⟩:=v10;(conv=>whnf);refine ⟨rfl,rfl,Tc rfl,Tc rfl,wN ?_⟩
   repeat (refine ⟨rfl,?_⟩;conv=>whnf)
   refine X6 ?_;rw [Zab] at h;rw [R.bind_ok] at h;have x9:ts10=ts10:=rfl;have ai:=kz;obtain ⟨ts2,o3⟩:∃t,t=ts10:=⟨_,rfl⟩
   rw [<- o3] at h ai;exact mq186
  exact h.elim
 exact h.elim
def Zly (d:Nat):Tbl:=[(247,Zj9 d)]
def Zlz (d:Nat):Tbl:=[(157,Zik),(164,Xr),(156,YU),(319,Zlr Tryz.f319 (Zly d))]
def ZpK (d:Nat):Tbl:=[(246,JA Z2),(156,YU),(206,Zaf),(212,Zlr Tryz.f212 (Zlz d)),(215,Zdx d),(163,Xx),(157,Zik),(190,Uu),(320,Zlt d)]
def Znl {d:Nat} (ht:TO w0 nG (ZpK d)):PC w0 nG 308 (Zah d):=by
 refine ZjT Zy mixed (tbl:=ZpK d) ht Tryz.func308 rfl kR kR ?_;intro args σ K h
 unfold Zah Zjh Xp at h
 split at h
 ·rename_i rest t rows a en dp
  obtain ⟨L,ts,rfl,ho,h⟩:=h;split at h
  ·obtain ⟨fe,h⟩:=h;have h0:=ho.lo;have h1:=ho.hi;have h2:=ho.big;refine ⟨Zj [],Xo [],Ye [],Ye [],Ye [320],1,false,sM,Tc rfl,wN ?_⟩;have h:=h _ rfl;refine ⟨L,ts,rfl,ho,fun b hst=>?_⟩
   cases b with
   | false =>
    rw [Zac,Tk hst] at h;(conv=>whnf);exact mq81
   | true =>
   rw [Zac,Tf (by rw [hst];simp)] at h;have wa:=ho.tl (Znk hst);have hbt:=wa.hi;(conv=>whnf);refine ⟨L,ts,rfl,ho,fun fin=>Or.inl ⟨rfl,wN ?_⟩⟩;refine ZFs (fun hc=>wN ?_) (fun hc=>wN ?_)
   ·rw [Tk (show (hd ts).kind=2 by omega)] at h;exact mq135
   rw [Tf (show ¬(hd ts).kind=2 by omega)] at h;refine ZFs (fun hc=>wN ?_) (fun hc=>wN ?_)
   ·rw [Tk (show (hd ts).kind=3 by omega)] at h;exact mq135
   rw [Tf (show ¬(hd ts).kind=3 by omega)] at h;refine ZFs (fun hc=>wN ?_) (fun hc=>wN ?_)
   ·rw [Tk (show (hd ts).text=[40] from hc)] at h;refine ⟨_,fun _ _ h=>h,Tc rfl,wN ?_⟩;refine ⟨L,ts,rfl,ho,[[40]],rfl,sM,fun b eh=>?_⟩
    cases b with
    | false =>
     exact mq190
    | true =>
    rw [Zx,Tk eh] at h;(conv=>whnf);refine ZFs (fun hc=>wN ?_) (fun hc=>wN ?_)
    ·rw [Tk oM] at h;exact mq81
    rw [Tf oM] at h;refine ⟨L,ts,rfl,ho,fun x hx=>?_⟩;rw [Z3,Tk eh] at hx;subst hx;intro a1 d7 au
    have co:=au.hi;(conv=>whnf);refine Zi ?_;refine ⟨_,fun _ _ h=>h,Tc rfl,wN ?_⟩;refine ⟨L,ts.tail,rfl,au,⟨oM,oM,oM⟩,fun x bo=>?_⟩;rcases x with ⟨v2,ts2⟩ | ⟨r2,e2⟩
    rotate_left
    ·exact mq47
    rw [bo,R.bind_ok] at h;intro a2 f7 ai
    have ga:=ai.hi;obtain ⟨v2a,v2b,v2c,v2d,v2e⟩:=v2;(conv=>whnf);exact mq186
   rw [Tf (show ¬(hd ts).text=[40] from hc)] at h;refine ZFs (fun hc=>wN ?_) (fun hc=>wN ?_)
   ·rw [Tk (show (hd ts).text=[91] from hc)] at h;refine ⟨L,ts,rfl,ho,⟨fe,sM⟩,fun x dl=>?_⟩;rcases x with ⟨v1,ts1⟩ | ⟨r1,e1⟩
    rotate_left
    ·exact mq56
    rw [dl,R.bind_ok] at h;intro a1 d7 au
    have co:=au.hi;(conv=>whnf);rw [<- Zb];exact h _ oM au
   rw [Tf (show ¬(hd ts).text=[91] from hc)] at h;refine ZFs (fun hc=>wN ?_) (fun hc=>wN ?_)
   ·rw [Tk (show (hd ts).text=[36] from hc)] at h;refine Zi ?_;refine ⟨L,ts.tail,rfl,wa,fun x dl=>?_⟩;rcases x with ⟨v1,ts1⟩ | ⟨r1,e1⟩
    rotate_left
    ·exact mq56
    rw [dl,R.bind_ok] at h;intro a1 d7 au
    have co:=au.hi;(conv=>whnf);refine ⟨L,ts1,rfl,au,[[40]],rfl,sM,fun b pq=>?_⟩
    cases b with
    | false =>
     rw [Tf (by rw [pq];simp)] at h;(conv=>whnf);exact h _ oM au
    | true =>
    rw [Tk pq] at h;(conv=>whnf);refine ⟨L,ts1,rfl,au,⟨fe,sM⟩,fun x ep=>?_⟩;rcases x with ⟨v3,ts3⟩ | ⟨r3,e3⟩
    rotate_left
    ·exact mq20
    exact mq151
   rw [Tf (show ¬(hd ts).text=[36] from hc)] at h;intro n hn
   conv=>whnf
   refine ZFv (fun hc=>wN ?_) (fun hc=>wN ?_)
   ·rw [Tk (show YN (hd ts).text≠0 by omega)] at h;refine Zi ?_;intro n2 ip
    conv=>whnf
    refine ⟨L,ts.tail,rfl,wa,⟨fe,rfl,rfl⟩,YN (hd ts).text,ip.symm,fun x dl=>?_⟩;rcases x with ⟨v1,ts1⟩ | ⟨r1,e1⟩
    rotate_left
    ·exact mq56
    rw [dl,R.bind_ok] at h;intro a1 d7 au
    have co:=au.hi;(conv=>whnf);rw [<- ip,<- Zb];exact h _ oM au
   rw [Tf (show ¬YN (hd ts).text≠0 by omega)] at h;refine ZFs (fun hc=>wN ?_) (fun hc=>wN ?_)
   ·rw [Tk (show (hd ts).text=[110,105,108] from hc)] at h;refine Zi ?_;exact h _ oM wa
   rw [Tf (show ¬(hd ts).text=[110,105,108] from hc)] at h;refine ZFs (fun hc=>wN ?_) (fun hc=>wN ?_)
   ·rw [Tk (show (hd ts).text=[95] from hc)] at h;refine Zi ?_;exact h _ oM wa
   rw [Tf (show ¬(hd ts).text=[95] from hc)] at h;exact mq135
  exact h.elim
 exact h.elim
def ZlA (d:Nat):Tbl:=[(292,Zio d)]
def ZlB (d:Nat):Tbl:=[(157,Zik),(164,Xr),(156,YU),(307,Zlr Tryz.f307 (ZlA d))]
def ZlC (d:Nat):Tbl:=[(162,Wt),(157,Zik),(212,Zlr Tryz.f212 (ZlB d)),(308,Zah d)]
def ZpL {d:Nat} (ht:TO w0 nG (ZlC d)):PC w0 nG 292 (Zcs d):=by
 refine XQ Zy mixed (tbl:=ZlC d) ht Tryz.func292 rfl kR kR ?_;intro args σ K h
 unfold Zcs Zjh Xp at h
 split at h
 ·rename_i rest t rows a en dp
  obtain ⟨L,ts,rfl,ho,h⟩:=h;split at h
  ·obtain ⟨fe,h⟩:=h;have h0:=ho.lo;have h1:=ho.hi;have h2:=ho.big;refine ⟨Zj [],Xo [(3,4)],Ye [],1,false,sM,Tc rfl,wN ?_⟩;have h:=h _ rfl;rw [Znj,Zdn] at h;refine ⟨L,ts,rfl,ho,wN ?_⟩;refine ⟨dM,dM,wN ?_⟩;refine ⟨L,ts,rfl,ho,[[45]],rfl,sM,fun b hw8=>?_⟩
   cases b with
   | true =>
    rw [Tk hw8] at h;(conv=>whnf);refine ⟨_,fun _ _ h=>h,Tc rfl,wN ?_⟩;refine ⟨L,ts,rfl,ho,[[45]],rfl,sM,fun b eh=>?_⟩;exact mq17
   | false =>
   rw [Tf (by rw [hw8];simp)] at h;(conv=>whnf);refine X6 ?_;refine ⟨dM,dM,wN ?_⟩;refine ⟨L,ts,rfl,ho,[[126]],rfl,sM,fun b gh=>?_⟩
   cases b with
   | true =>
    rw [Tk gh] at h;(conv=>whnf);refine ⟨_,fun _ _ h=>h,Tc rfl,wN ?_⟩;refine ⟨L,ts,rfl,ho,[[126]],rfl,sM,fun b eh=>?_⟩;exact mq17
   | false =>
   rw [Tf (by rw [gh];simp)] at h;(conv=>whnf);refine X6 ?_;rw [show Jz (ZgR d) 6 1=Zdo d from (Zsw d).symm] at h;refine ⟨L,ts,rfl,ho,fe,fun x dl=>?_⟩;exact mq89
  exact h.elim
 exact h.elim
def Zfy (d j:Nat):Zo:=Xp fun rest L en dp a ts K=>match rest with
 | [.d (.int .i64 least)]=>((dp=64 - (d:Int)/\0<=dp)/\1<=least/\least<=6/\6<=least+(j:Int))/\∀x,Jz (Xw d) j least.toNat ts=x->RKk (fun (v:Ex)=>Za5 (ZE (Zc L en) v)) L en dp a x K
 | _=>False
def Zdy (d j:Nat):Zo:=Xp fun rest L en dp a ts K=>match rest with
 | [.d (.int .i64 least)]=>((dp=64 - (d:Int)/\0<=dp)/\0<j/\1<=least/\least<=6/\7<=least+(j:Int))/\∀x,Jz (Xw d) (j - 1) least.toNat ts=x->RKk (fun (v:Ex)=>Za5 (ZE (Zc L en) v)) L en dp a x K
 | _=>False
def ZpM (ts:Ts):(Za2 ts).1<=5/\(Za2 ts).2<=255:=by
 unfold Za2
 repeat' (first | (split;decide) | split)
 all_goals decide
def Zip (sub : Nat -> Ts -> R Ex) (least f : Nat) (e : Ex) (ts : Ts) : U8 sub least (f + 1) e ts = if (Za2 ts).1 < least \/ (Za2 ts).1 = 0 then .ok e ts
      else (sub ((Za2 ts).1+1) ts.tail).bind fun g ts'=>U8 sub least f (.mk (Za2 ts).2 [] 0 [e,g] e.at') ts':=rfl
def Znm {sub:Nat->Ts->R Ex} {least f:Nat} {e:Ex} {ts:Ts} (h:6<=least):U8 sub least (f+1) e ts=.ok e ts:=by
 rw [Zip,Tk];have:=(ZpM ts).1;omega
def ZvP {ts:Ts} (h:(Za2 ts).1≠0):ts≠[]:=by rintro rfl;exact h rfl
def Zsx (sg:Ts->R Ex) (j least:Nat) (ts:Ts) (h:6<=least+j):Jz sg j least ts=(sg ts).bind fun e ts=>U8 (Jz sg (j - 1)) least (ts.length+1) e ts:=by
 cases j with
 | zero =>
  rw [Jz]
  cases sg ts with
  | ok e ts=>rw [R.bind_ok,Znm oM]
  | err r e=>rfl
 | succ j=>rfl
def ZpN {d j:Nat}:OKw w0 nG [(292,Zcs d),(293,Zso),(274,Zdy d j)] 274 (Zfy d j):=by
 refine pwo Tryz.func274 fun args σ K h=>?_
 unfold Zfy Xp at h
 split at h
 ·rename_i rest t rows a en dp
  obtain ⟨L,ts,rfl,ho,h⟩:=h;split at h
  ·rename_i least
   obtain ⟨⟨fe,dt,gu,ia⟩,h⟩:=h;have h0:=ho.lo;have h1:=ho.hi;have h2:=ho.big;refine pwv [(2,⟨[],[0,1,4,5],fun vs σ=>∃(u1:Nat) (u2:Bs) (u3:Int) (u4:List Ex) (u5:Nat) (a':Int) (ts':Ts) (f:Nat),vs=[]/\σ=⟨[.cells t [.d (.sl (ZS L)),.d (.int .i64 a'),.d (.int .i64 en),.d (.int .i64 dp)],.cells 50 [.d (.int .u8 0),.d (.str []),.d (.int .i64 0),.sl 0 50 [],.d (.int .i64 0)],.cells 50 [.d (.int .u8 u1),.d (.str u2),.d (.int .i64 u3),.d (.sl (Ze (Zc L en) u4)),.d (.int .i64 (Zc L en u5))]],[0],1⟩/\ROK L a' ts'/\a<=a'/\ts'.length<f/\RKk (fun (v:Ex)=>Za5 (ZE (Zc L en) v)) L en dp a (U8 (Jz (Xw d) (j - 1)) least.toNat f (.mk u1 u2 u3 u4 u5) ts') (fun pe a' dp'=>K pe ⟨[.cells t [.d (.sl (ZS L)),.d (.int .i64 a'),.d (.int .i64 en),.d (.int .i64 dp')]],[],0⟩),fun _ σ=>match σ with | ⟨.cells _ [_,.d (.int _ i),_,_]::_,_,_⟩=>((L.length:Int) - i).toNat | _=>0⟩)] 1 false ?_;have h:=h _ rfl;rw [Zsx _ _ _ _ oM] at h;refine ⟨L,ts,rfl,ho,fe,fun x dl=>?_⟩;rcases x with ⟨v1,ts1⟩ | ⟨r1,e1⟩
   rotate_left
   ·exact mq56
   rw [dl,R.bind_ok] at h;intro a1 d7 au
   have co:=au.hi;obtain ⟨v1a,v1b,v1c,v1d,v1e⟩:=v1;(conv=>whnf);refine ⟨⟨v1a,v1b,v1c,v1d,v1e,a1,ts1,ts1.length+1,rfl,rfl,au,oM,oM,h⟩,?_⟩
   clear h dl au co d7
   intro vs σ hI
   obtain ⟨u1,u2,u3,u4,u5,a',ts',f,rfl,rfl,cp,ab7,hf,h⟩:=hI;obtain ⟨f,rfl⟩:∃g,f=g+1:=⟨f - 1,oM⟩
   rw [Zip] at h;have pr:=cp.hi;have sd:=cp.len;(conv=>whnf);refine ⟨L,ts',rfl,cp,fun n op hn eg=>wN ?_⟩;have afp:=ZpM ts';refine ZFs (fun hc=>wN ?_) (fun hc=>wN ?_)
   ·rw [Tk oM] at h;exact h _ oM cp
   refine ZFs (fun bm=>wN ?_) (fun bm=>wN ?_)
   ·rw [Tk oM] at h;exact h _ oM cp
   rw [Tf oM] at h;have ai:=cp.tl (ZvP oM);have ga:=ai.hi;have fy:=ai.len;refine Zi ?_;refine Zi ?_;refine ⟨L,ts'.tail,rfl,ai,⟨fe,oM,oM,oM,oM⟩,fun x ep=>?_⟩;rw [show (n+1).toNat=(Za2 ts').1+1 by omega] at ep;rcases x with ⟨v3,ts3⟩ | ⟨r3,e3⟩
   rotate_left
   ·exact mq20
   rw [ep,R.bind_ok] at h;intro a3 gg bu
   have jy:=bu.hi;obtain ⟨v3a,v3b,v3c,v3d,v3e⟩:=v3;(conv=>whnf);have jk:=bu.len;obtain rfl:op=((Za2 ts').2:Int):=eg.symm;refine ⟨⟨(Za2 ts').2,[],0,[.mk u1 u2 u3 u4 u5,.mk v3a v3b v3c v3d v3e],u5,a3,ts3,f,rfl,rfl,bu,oM,oM,h⟩,?_⟩;exact mq175
  exact h.elim
 exact h.elim
def ZvS {d:Nat}:OKw w0 nG [(274,Zfy d 6)] 247 (Zfx d):=by
 refine pwo Tryz.func247 fun args σ K h=>?_
 unfold Zfx Zjh Xp at h
 split at h
 ·rename_i rest t rows a en dp
  obtain ⟨L,ts,rfl,ho,h⟩:=h;split at h
  ·obtain ⟨fe,h⟩:=h;have h0:=ho.lo;have h1:=ho.hi;have h2:=ho.big;refine pwv [] 1 false ?_;have h:=h _ rfl;refine ⟨L,ts,rfl,ho,⟨fe,oM,oM,oM⟩,fun x dl=>?_⟩;rw [Zad] at h
   change Jz (Xw d) 6 1 ts=x at dl
   exact mq89
  exact h.elim
 exact h.elim
abbrev ZvT (d:Nat):Zo:=Zjh (fun L en (v:Li)=>Za5 (YT (Zc L en) v)) (Znb d (ZeL d)) 0 d
abbrev Ziq (d:Nat):Zo:=Zjh (fun L en (v:List Li)=>.d (.sl (v.map (YT (Zc L en))))) (Znc d) 0 d
abbrev ZgS (d:Nat):Zo:=ZvK (fun L en (v:List Li)=>.d (.sl (v.map (YT (Zc L en))))) (ZeL d) 0 d
def Zsy (d:Nat):Znc d=XS [44] 32 Yb (Znb d (ZeL d)):=by cases d <;> rfl
def ZlD (d:Nat):Zo:=Xp fun rest L en dp a ts K=>match rest with
 | [.d (.bool b)]=>(dp=64 - (d:Int)/\0<=dp)/\∀x,Zpm d b ts=x->RKk (fun (v:Ru)=>Za5 (ZC (Zc L en) v)) L en dp (a+1) x K
 | _=>False
def JD {ts:Ts}:∀{ws:List Bs} {i k:Nat},ZbR ts i ws=some k->i<=k/\k<i+ws.length
 | [],i,k,h=>by simp [ZbR] at h
 | w::ws,i,k,h=>by
  rw [ZbR] at h;split at h
  ·cases h;simp
  have:=JD h;simp only [Te];omega
def Zba {ts:Ts} (h:ZbR ts 0 Z4=none):Zdp ts=.err ts.length 150:=by rw [Zdp,h]
def Zdz {ts:Ts} {j:Nat} (h:ZbR ts 0 Z4=some 0) (h2:ZbR ts.tail 0 Yt=some j):Zdp ts=.ok (9+j) ts.tail.tail:=by rw [Zdp,h];simp only [h2]
def ZgT {ts:Ts} (h:ZbR ts 0 Z4=some 0) (h2:ZbR ts.tail 0 Yt=none):Zdp ts=.ok 3 ts.tail:=by rw [Zdp,h];simp only [h2]
def ZdA {ts:Ts} {k:Nat} (h:ZbR ts 0 Z4=some (k+1)):Zdp ts=.ok (3+(k+1)) ts.tail:=by rw [Zdp,h];rfl
def ZsA:OKw w0 nG [(246,(JA Z2)),(157,Zik)] 249 (Zlp Yb):=by
 refine pwo Tryz.func249 fun args σ K h=>?_
 unfold Zlp Zpy at h
 split at h
 ·rename_i rest t0 t rows a en dp
  obtain ⟨L,ts,rfl,ho,h⟩:=h;split at h
  ·skip
   refine pwv [] 2 false ?_;refine ⟨L,ts,rfl,ho,fun b hb=>?_⟩
   cases b with
   | true =>
    conv=>whnf
    exact h _ (by rw [Yb,hb];rfl)
   | false =>
   conv=>whnf
   refine ⟨L,ts,rfl,ho,[[33]],rfl,sM,fun b hw=>wN ?_⟩;exact h _ (by rw [Yb,hb,hw];rfl)
  exact h.elim
 exact h.elim
def ZvV {d:Nat}:OKw w0 nG [(248,ZgO d)] 216 (Ziq d):=by
 refine pwo Tryz.func216 fun args σ K h=>?_
 unfold Ziq Zjh Xp at h
 split at h
 ·rename_i rest t rows a en dp
  obtain ⟨L,ts,rfl,ho,h⟩:=h;split at h
  ·obtain ⟨fe,h⟩:=h;have h0:=ho.lo;have h1:=ho.hi;have h2:=ho.big;refine pwv [] 1 false ?_;have h:=h _ rfl;rw [Zsy] at h;refine ⟨⟨rfl,rfl,rfl,rfl,fe⟩,L,ts,rfl,ho,fun x dl=>?_⟩;rcases x with ⟨v1,ts1⟩ | ⟨r1,e1⟩
   rotate_left
   ·rw [dl] at h;intro a9 d9;(conv=>whnf);exact h _ _
   rw [dl] at h;intro a1 d7 au
   have co:=au.hi;(conv=>whnf);exact h _ oM au
  exact h.elim
 exact h.elim
def ZpO (d:Nat):Tbl:=[(216,ZgS d)]
def ZpP (d:Nat):Tbl:=[(157,Zik),(164,Xr),(156,YU),(277,Zlr Tryz.f277 (ZpO d))]
def Zuo (d:Nat):Tbl:=[(162,Wt),(208,XX),(206,Zaf),(166,JA ZO),(163,Xx),(215,Zdx d),(247,Zfx d),(172,Zsv),(156,YU),(164,Xr),(212,Zlr Tryz.f212 (ZpP d))]
def ZzM {d:Nat} (ht:TO w0 nG (Zuo d)):PC w0 nG 250 (ZvT d):=by
 refine ZjT Zy mixed (tbl:=Zuo d) ht Tryz.func250 rfl kR kR ?_;intro args σ K h
 unfold ZvT Zjh Xp at h
 split at h
 ·rename_i rest t rows a en dp
  obtain ⟨L,ts,rfl,ho,h⟩:=h;split at h
  ·obtain ⟨fe,h⟩:=h;have h0:=ho.lo;have h1:=ho.hi;have h2:=ho.big;refine ⟨Zj [],Xo [],Ye [],Ye [50],Ye [],1,false,sM,Tc rfl,wN ?_⟩;have h:=h _ rfl;rw [Znb] at h;refine ⟨L,ts,rfl,ho,wN ?_⟩;refine ⟨L,ts,rfl,ho,[[33]],rfl,sM,fun eh au=>wN ?_,fun eh=>wN ?_⟩
   ·rw [Tk eh] at h;have co:=au.hi;refine ⟨L,ts.tail,rfl,au,fun fin=>Or.inr ⟨rfl,wN ?_⟩⟩;rw [Zdq] at h;refine ⟨L,ts.tail,rfl,au,fun x jz=>?_⟩;exact mq49
   rw [Tf (by rw [eh];simp)] at h;refine ⟨L,ts,rfl,ho,fun fin=>Or.inr ⟨rfl,wN ?_⟩⟩;refine ⟨L,ts,rfl,ho,fun b hn=>?_⟩
   cases b with
   | false =>
    rw [Tf (by rw [hn];simp)] at h;(conv=>whnf);exact mq0
   | true =>
   conv=>whnf
   refine ZFs (fun hc=>wN ?_) (fun hc=>wN ?_)
   ·refine ZFs (fun bm=>wN ?_) (fun bm=>wN ?_)
    ·rw [Tk ⟨hn,oM,bm⟩] at h;rw [Zdq] at h;refine ⟨L,ts,rfl,ho,fun x jz=>?_⟩;exact mq49
    rw [Tf (fun g=>bm g.2.2)] at h;exact mq0
   rw [Tf (fun g=>hc (by have:=g.2.1;omega))] at h;exact mq0
  exact h.elim
 exact h.elim
def ZvX {d:Nat}:OKw w0 nG [(162,Wt),(163,Xx),(215,Zdx d),(208,XX),(216,Ziq d),(164,Xr)] 167 (ZlD d):=by
 refine pwo Tryz.func167 fun args σ K h=>?_
 unfold ZlD Xp at h
 split at h
 ·rename_i rest t rows a en dp
  obtain ⟨L,ts,rfl,ho,h⟩:=h;split at h
  ·rename_i bodies
   obtain ⟨fe,h⟩:=h;have h0:=ho.lo;have h1:=ho.hi;have h2:=ho.big;refine pwv [] 1 false ?_;have h:=h _ rfl;rw [Zpm] at h;refine ⟨L,ts,rfl,ho,wN ?_⟩;refine ⟨L,ts,rfl,ho,fun x dl=>?_⟩;rcases x with ⟨v1,ts1⟩ | ⟨r1,e1⟩
   rotate_left
   ·exact mq56
   rw [dl,R.bind_ok] at h;intro a1 d7 au
   have co:=au.hi;(conv=>whnf);refine ⟨L,ts1,rfl,au,⟨fe,sM⟩,fun x bo=>?_⟩;have afq:=fe;rcases x with ⟨v2,ts2⟩ | ⟨r2,e2⟩
   rotate_left
   ·exact mq47
   rw [bo,R.bind_ok] at h;intro a2 f7 ai
   have ga:=ai.hi;(conv=>whnf)
   cases bodies with
   | false =>
    rw [Tf sM] at h;(conv=>whnf);refine ⟨L,ts2,rfl,ai,fun x ep=>?_⟩;rcases x with ⟨v3,ts3⟩ | ⟨r3,e3⟩
    rotate_left
    ·exact mq20
    exact mq151
   | true =>
   conv=>whnf
   refine ⟨L,ts2,rfl,ai,[[58,45]],rfl,sM,fun oz bu=>wN ?_,fun oz=>wN ?_⟩
   ·rw [Tk ⟨rfl,oz⟩] at h;have jy:=bu.hi;refine ⟨L,ts2.tail,rfl,bu,fe,fun x mg=>?_⟩;rcases x with ⟨v4,ts4⟩ | ⟨r4,e4⟩
    rotate_left
    ·exact mq108
    rw [mg,R.bind_ok] at h;intro a4 mz f9
    have ry:=f9.hi;(conv=>whnf);refine ⟨L,ts4,rfl,f9,fun x ky=>?_⟩;rcases x with ⟨v5,ts5⟩ | ⟨r5,e5⟩
    rotate_left
    ·exact mq46
    rw [ky,R.bind_ok] at h;intro a5 l4 gq
    have uk:=gq.hi;(conv=>whnf);rw [<- Zb,<- Zm];exact h _ oM gq
   rw [Tf (by rw [oz];simp)] at h;refine ⟨L,ts2,rfl,ai,fun x mg=>?_⟩;rcases x with ⟨v4,ts4⟩ | ⟨r4,e4⟩
   rotate_left
   ·exact mq108
   rw [mg,R.bind_ok] at h;intro a4 mz f9
   have ry:=f9.hi;(conv=>whnf);rw [<- Zb];exact h _ oM f9
  exact h.elim
 exact h.elim
def Znn:Nat->Ts->R Un
 | 0=>fun _=>.err 0 150
 | d+1=>Zpq d
def ZsB (d:Nat):Zpq d=Znd true d (Znn d):=by cases d <;> rfl
def ZvY (b:Bool) (d:Nat) (ts:Ts):R Un:=Znd b d (Znn d) ts
def ZdB (d:Nat):Zo:=Xp fun rest L en dp a ts K=>match rest with
 | [.d (.bool b)]=>(dp=64 - (d:Int)/\0<=dp)/\∀x,ZvY b d ts=x->RKk (fun (v:Un)=>Za5 (XT (Zc L en) v)) L en dp a x K
 | _=>False
def Uw (d:Nat):Zo:=Xp fun rest L en dp a ts K=>match rest with
 | [.d (.bool b)]=>(0<d/\dp=65 - (d:Int)/\0<=dp/\b=true)/\∀x,Znn d ts=x->RKk (fun (v:Un)=>Za5 (XT (Zc L en) v)) L en dp a x K
 | _=>False
abbrev ZlE (d:Nat):Zo:=Zjh (fun L en (v:Co)=>Za5 (XN (Zc L en) v)) (Zpn d (Znn d)) 0 d
def ZlF (d:Nat):Tbl:=[(92,Uw d)]
def ZlG (d:Nat):Tbl:=[(157,Zik),(164,Xr),(156,YU),(213,Zlr Tryz.f213 (ZlF d))]
def Zv0 {d:Nat}:OKw w0 nG [(162,Wt),(163,Xx),(165,Zdu),(208,XX),(212,Zlr Tryz.f212 (ZlG d))] 161 (ZlE d):=by
 refine pwo Tryz.func161 fun args σ K h=>?_
 unfold ZlE Zjh Xp at h
 split at h
 ·rename_i rest t rows a en dp
  obtain ⟨L,ts,rfl,ho,h⟩:=h;split at h
  ·obtain ⟨fe,h⟩:=h;have h0:=ho.lo;have h1:=ho.hi;have h2:=ho.big;refine pwv [] 1 false ?_;have h:=h _ rfl;rw [Zpn] at h;refine ⟨L,ts,rfl,ho,wN ?_⟩;refine ⟨L,ts,rfl,ho,fun x dl=>?_⟩;rcases x with ⟨v1,ts1⟩ | ⟨r1,e1⟩
   rotate_left
   ·exact mq56
   rw [dl,R.bind_ok] at h;intro a1 d7 au
   have co:=au.hi;(conv=>whnf);refine ⟨L,ts1,rfl,au,fun x bo=>?_⟩;rcases x with ⟨v2,ts2⟩ | ⟨r2,e2⟩
   rotate_left
   ·exact mq47
   rw [bo,R.bind_ok] at h;intro a2 f7 ai
   have ga:=ai.hi;(conv=>whnf);refine ⟨L,ts2,rfl,ai,[[58]],rfl,sM,fun oz bu=>wN ?_,fun oz=>wN ?_⟩
   ·rw [Tk oz] at h;have jy:=bu.hi;refine ⟨L,ts2.tail,rfl,bu,fun x mg=>?_⟩;rcases x with ⟨v4,ts4⟩ | ⟨r4,e4⟩
    rotate_left
    ·exact mq108
    rw [mg,R.bind_ok] at h;intro a4 mz f9
    have ry:=f9.hi;(conv=>whnf);refine ⟨L,ts4,rfl,f9,fun x ky=>?_⟩;rcases x with ⟨v5,ts5⟩ | ⟨r5,e5⟩
    rotate_left
    ·exact mq46
    rw [ky,R.bind_ok] at h;intro a5 l4 gq
    have uk:=gq.hi;(conv=>whnf);refine ⟨_,fun _ _ h=>h,Tc rfl,wN ?_⟩;refine ⟨L,ts5,rfl,gq,[[123]],rfl,sM,fun b mh=>?_⟩
    cases b with
    | false =>
     rw [Zx,Tf (by rw [mh];simp),R.bind_err] at h;(conv=>whnf);refine ⟨L,ts5,rfl,gq,fun x hx=>?_⟩;rw [Z3,Tf (by rw [mh];simp)] at hx;exact mq183
    | true =>
    rw [Zx,Tk mh] at h;(conv=>whnf);refine ZFs (fun hc=>wN ?_) (fun hc=>wN ?_)
    ·rw [Tk oM,R.bind_err] at h;refine ⟨L,ts5,rfl,gq,wN ?_⟩;exact h _ _
    rw [Tf oM] at h;refine ⟨L,ts5,rfl,gq,fun x hx=>?_⟩;rw [Z3,Tk mh] at hx;subst hx;intro a7 yc se
    have hb7:=se.hi;(conv=>whnf);refine Zi ?_;refine ⟨_,fun _ _ h=>h,Tc rfl,wN ?_⟩;refine ⟨L,ts5.tail,rfl,se,⟨oM,oM,oM,rfl⟩,fun x wb=>?_⟩;exact mq44
   rw [Tf (by rw [oz];simp)] at h;refine ⟨_,fun _ _ h=>h,Tc rfl,wN ?_⟩;refine ⟨L,ts2,rfl,ai,[[123]],rfl,sM,fun b mh=>?_⟩
   cases b with
   | false =>
    rw [Zx,Tf (by rw [mh];simp),R.bind_err] at h;(conv=>whnf);refine ⟨L,ts2,rfl,ai,fun x hx=>?_⟩;rw [Z3,Tf (by rw [mh];simp)] at hx;exact mq183
   | true =>
   rw [Zx,Tk mh] at h;(conv=>whnf);refine ZFs (fun hc=>wN ?_) (fun hc=>wN ?_)
   ·rw [Tk oM,R.bind_err] at h;refine ⟨L,ts2,rfl,ai,wN ?_⟩;exact h _ _
   rw [Tf oM] at h;refine ⟨L,ts2,rfl,ai,fun x hx=>?_⟩;rw [Z3,Tk mh] at hx;subst hx;intro a7 yc se
   have hb7:=se.hi;(conv=>whnf);refine Zi ?_;refine ⟨_,fun _ _ h=>h,Tc rfl,wN ?_⟩;refine ⟨L,ts2.tail,rfl,se,⟨oM,oM,oM,rfl⟩,fun x wb=>?_⟩;exact mq44
  exact h.elim
 exact h.elim
def Zir (inside:Bool) (d:Nat) (un:Ts->R Un) (f:Nat) (tys:List Ty) (rels:List Re) (rules:List Ru) (comps:List Co) (inits:List Ini) (overs:List Ov) (ts:Ts):XW inside d un (f+1) (.mk tys rels rules comps inits overs) ts =
  if ts=[]\/(inside=true/\isW ts [[125]]=true) then .ok (.mk tys rels rules comps inits overs) ts
  else if isW ts [[116,121,112,101]]=true then (if tys.length=256 then .err ts.length 3 else (Zig ts.tail).bind fun x ts=>XW inside d un f (.mk (tys++[x]) rels rules comps inits overs) ts)
  else if isW ts [[100,101,99,108]]=true then (if rels.length=256 then .err ts.length 3 else (Zpl ts.tail).bind fun x ts=>XW inside d un f (.mk tys (rels++[x]) rules comps inits overs) ts)
  else if isW ts [[99,111,109,112]]=true then (if comps.length=64 then .err ts.length 3 else (Zpn d un ts.tail).bind fun x ts=>XW inside d un f (.mk tys rels rules (comps++[x]) inits overs) ts)
  else if isW ts [[105,110,105,116]]=true then (if inits.length=256 then .err ts.length 3 else (Zpo ts.tail).bind fun x ts=>XW inside d un f (.mk tys rels rules comps (inits++[x]) overs) ts)
  else if isW ts [[111,118,101,114,114,105,100,101]]=true then (if overs.length=256 then .err ts.length 3 else (Zpp ts.tail).bind fun x ts=>XW inside d un f (.mk tys rels rules comps inits (overs++[x])) ts)
  else if ZO ts=true then (if rules.length=1024 then .err ts.length 3 else (Zpm d true ts).bind fun x ts=>XW inside d un f (.mk tys rels (rules++[x]) comps inits overs) ts)
  else .err ts.length 150:=rfl
def Zv2 {d:Nat}:OKw w0 nG [(157,Zik),(158,Zlo),(159,ZgQ),(160,Zlq),(161,ZlE d),(162,Wt),(163,Xx),(164,Xr),(165,Zdu),(166,JA ZO),(167,ZlD d),(156,YU)] 92 (ZdB d):=by
 refine pwo Tryz.func92 fun args σ K h=>?_
 unfold ZdB Xp at h
 split at h
 ·rename_i rest t rows a en dp
  obtain ⟨L,ts,rfl,ho,h⟩:=h;split at h
  ·rename_i inside
   obtain ⟨fe,h⟩:=h;have h0:=ho.lo;have h1:=ho.hi;have h2:=ho.big;refine pwv [(1,⟨[],[0,1,4],fun vs σ=>∃(tys:List Ty) (rels:List Re) (rules:List Ru) (comps:List Co) (inits:List Ini) (overs:List Ov) (a':Int) (ts':Ts) (f:Nat),vs=[]/\σ=⟨[.cells t [.d (.sl (ZS L)),.d (.int .i64 a'),.d (.int .i64 en),.d (.int .i64 dp)],.cells 65 [.sl 0 41 (tys.map (Zr (Zc L en))),.sl 1 46 (rels.map (ZH (Zc L en))),.sl 2 32 (rules.map (ZC (Zc L en))),.sl 3 154 (comps.map (XN (Zc L en))),.sl 4 159 (inits.map (X8 (Zc L en))),.sl 5 163 (overs.map (X9 (Zc L en)))]],[5,4,3,2,1,0],6⟩/\ROK L a' ts'/\a<=a'/\ts'.length<f/\(tys.length<=256/\rels.length<=256/\rules.length<=1024/\comps.length<=64/\inits.length<=256/\overs.length<=256)/\RKk (fun (v:Un)=>Za5 (XT (Zc L en) v)) L en dp a (XW inside d (Znn d) f (.mk tys rels rules comps inits overs) ts') (fun pe a' dp'=>K pe ⟨[.cells t [.d (.sl (ZS L)),.d (.int .i64 a'),.d (.int .i64 en),.d (.int .i64 dp')]],[],0⟩),fun _ σ=>match σ with | ⟨.cells _ [_,.d (.int _ i),_,_]::_,_,_⟩=>((L.length:Int) - i).toNat | _=>0⟩)] 1 false ?_;have h:=h _ rfl;rw [ZvY,Znd] at h;refine ⟨⟨[],[],[],[],[],[],a,ts,ts.length+1,rfl,rfl,ho,oM,oM,sM,h⟩,?_⟩
   clear h
   intro vs σ hI
   obtain ⟨tys,rels,rules,comps,inits,overs,a',ts',f,rfl,rfl,cp,ab7,hf,afr,h⟩:=hI;obtain ⟨f,rfl⟩:∃g,f=g+1:=⟨f - 1,oM⟩
   rw [Zir] at h;have pr:=cp.hi;have sd:=cp.len;have wo:=cp.lo;(conv=>whnf);refine ZFs (fun hc=>wN ?_) (fun hc=>wN ?_)
   ·have ah:ts'≠[]:=by rintro rfl;have hc:a'<((ZS L).length:Int):=hc;rw [XM] at hc;simp at sd;omega
    cases inside with
    | false =>
     rw [Tf (by simp [ah])] at h;exact mq1
    | true =>
    conv=>whnf
    refine ⟨L,ts',rfl,cp,[[125]],rfl,sM,fun b hw=>?_⟩
    cases b with
    | true =>
     rw [Tk (.inr ⟨rfl,hw⟩)] at h;(conv=>whnf)
     repeat (refine ⟨rfl,?_⟩;conv=>whnf)
     have h:=h _ oM cp;simp only [Za5,XT,Y2,TE,TN] at h;exact h
    | false =>
    rw [Tf (by simp [ah,hw])] at h;exact mq1
   have ez:ts'=[]:=by have hc:¬a'<((ZS L).length:Int):=hc;rw [XM] at hc;exact T3 oM
   rw [Tk (.inl ez)] at h;have h:=h _ oM cp;simp only [Za5,XT,Y2,TE,TN] at h;exact h
  exact h.elim
 exact h.elim
def ZbT:PC w0 nG 162 Wt:=Zsj ⟨JB,trivial⟩
def cIs:PC w0 nG 157 Zik:=ZCS ⟨JB,Zj5,trivial⟩
def Zfz:PC w0 nG 166 (JA ZO):=Zsl ⟨JB,Zj4,trivial⟩
def V0:PC w0 nG 156 YU:=ZvB ⟨ZbT,trivial⟩
def Zai:PC w0 nG 208 XX:=ZvD ⟨cIs,trivial⟩
def JE:PC w0 nG 164 Xr:=ZvF ⟨Zai,V0,trivial⟩
def ZCT:PC w0 nG 158 Zlo:=ZvH ⟨V0,trivial⟩
def Ja:PC w0 nG 163 Xx:=Zsn ⟨Zfz,V0,trivial⟩
def Zka:PC w0 nG 246 (JA Z2):=Zpw ⟨JB,cIs,Zj4,Za7,trivial⟩
def ZpQ:PC w0 nG 293 Zso:=Zpx ⟨JB,trivial⟩
def Zv3:PC w0 nG 243 ZgP:=ZpE ⟨Ja,JE,trivial⟩
def Zkb:PC w0 nG 209 UP:=ZpG ⟨cIs,Zin ⟨Zfz,V0,Zv3,Zai,trivial⟩,trivial⟩
def Zup:PC w0 nG 165 Zdu:=Zsq ⟨Zai,Znh ⟨Zfz,V0,Ja,Zai,trivial⟩,JE,trivial⟩
def ZzN:PC w0 nG 211 Zj8:=Zss ⟨Ja,JE,Zkb,trivial⟩
def ZzO:PC w0 nG 159 ZgQ:=Zsu ⟨ZbT,Ja,Zai,JE,Zkb,Zj7 ⟨Zfz,V0,ZzN,Zai,trivial⟩,trivial⟩
def ZCU:PC w0 nG 160 Zlq:=ZvJ ⟨ZbT,Ja,Zai,JE,Zkb,trivial⟩
def ZEZ:PC w0 nG 172 Zsv:=ZzL ⟨ZpI ⟨Zai,trivial⟩,ZpJ ⟨Zai,trivial⟩,trivial⟩
def Zis (h:WH (GG w0 nG).P 245):PC w0 nG 245 (Ve 0):=⟨h,fun args σ K hs=>by
 exfalso;unfold Ve at hs
 split at hs
 ·exact absurd hs.1.2.2.2.2.1 oM
 exact hs⟩
def Zit {d:Nat} (h:PC w0 nG 245 (Zag d)):PC w0 nG 245 (Ve (d+1)):=h.weaken1 fun args σ K hs=>by
 unfold Ve at hs
 unfold Zag
 split at hs
 ·obtain ⟨⟨h1,h2,h3,h4,h5,h6,h7⟩,hs⟩:=hs;exact ⟨⟨h1,h2,h3,h4,oM,h7⟩,hs⟩
 exact hs.elim
def Zno (d:Nat) (h:WH (GG w0 nG).P 274):PC w0 nG 274 (Zdy d 0):=⟨h,fun args σ K hs=>by
 exfalso;unfold Zdy Xp at hs
 split at hs
 ·obtain ⟨L,ts,_,_,hs⟩:=hs;split at hs
  ·exact absurd hs.1.2.1 oM
  exact hs
 exact hs⟩
def Znp {d j:Nat} (h:PC w0 nG 274 (Zfy d j)):PC w0 nG 274 (Zdy d (j+1)):=h.weaken1 fun args σ K hs=>by
 unfold Zdy Xp at hs
 unfold Zfy Xp
 split at hs
 ·obtain ⟨L,ts,h1,h2,hs⟩:=hs;refine ⟨L,ts,h1,h2,?_⟩;split at hs
  ·exact ⟨⟨hs.1.1,hs.1.2.2.1,hs.1.2.2.2.1,by have:=hs.1.2.2.2.2;omega⟩,hs.2⟩
  exact hs.elim
 exact hs
structure Deep (w0:World) (nG d:Nat):Prop where
 sg:PC w0 nG 292 (Zio d)
 ex:PC w0 nG 247 (Zj9 d)
 many:PC w0 nG 245 (Ve d)
def ZlH {d:Nat} (D:Deep w0 nG d):PC w0 nG 215 (Zdx d):=ZvM ⟨(Zca (tb:=Zlv d) ⟨cIs,JE,V0,(Zca (tb:=Zlu d) ⟨cIs,D.many,trivial⟩ Tryz.func244 rfl kR kR),trivial⟩ Tryz.func212 rfl kR kR),trivial⟩
def ZsC {d:Nat} (D:Deep w0 nG d):PC w0 nG 320 (Zlt d):=ZvO ⟨(Zca (tb:=Zlx d) ⟨cIs,JE,V0,(ZzK (tb:=Zlw d) ⟨JE,D.ex,trivial⟩ Tryz.func324 rfl kR kR),trivial⟩ Tryz.func212 rfl kR kR),trivial⟩
def Zkc {d:Nat} (D:Deep w0 nG d):PC w0 nG 308 (Zah d):=Znl ⟨Zka,V0,JB,(Zca (tb:=Zlz d) ⟨cIs,JE,V0,(Zca (tb:=Zly d) ⟨D.ex,trivial⟩ Tryz.func319 rfl kR kR),trivial⟩ Tryz.func212 rfl kR kR),ZlH D,Ja,cIs,Za7,ZsC D,trivial⟩
def Zbb {d:Nat} (D:Deep w0 nG d):PC w0 nG 292 (Zcs d):=ZpL ⟨ZbT,cIs,(Zca (tb:=ZlB d) ⟨cIs,JE,V0,(Zca (tb:=ZlA d) ⟨D.sg,trivial⟩ Tryz.func307 rfl kR kR),trivial⟩ Tryz.func212 rfl kR kR),Zkc D,trivial⟩
def ZlI {d:Nat} (D:Deep w0 nG d):∀j,PC w0 nG 274 (Zfy d j)
 | 0=>ZpN ⟨Zbb D,ZpQ,Zno d (Zf Tryz.func274 kR rfl),trivial⟩
 | j+1=>ZpN ⟨Zbb D,ZpQ,Znp (ZlI D j),trivial⟩
def ZgU {d:Nat} (D:Deep w0 nG d):PC w0 nG 247 (Zfx d):=ZvS ⟨ZlI D 6,trivial⟩
def ZpR {d:Nat} (h:PC w0 nG 247 (Zfx d)):PC w0 nG 245 (Zag d):=ZpA d ⟨Zka,V0,h,Zai,trivial⟩
def ZzP:∀d,Deep w0 nG d
 | 0=>⟨Zdv (Zf Tryz.func292 kR rfl),Zdv (Zf Tryz.func247 kR rfl),Zis (Zf Tryz.func245 kR rfl)⟩
 | d+1=>⟨Zdw (Zbb (ZzP d)),Zdw (ZgU (ZzP d)),Zit (ZpR (ZgU (ZzP d)))⟩
def ZzQ (d:Nat):PC w0 nG 215 (Zdx d):=ZlH (ZzP d)
def ZCV (d:Nat):PC w0 nG 247 (Zfx d):=ZgU (ZzP d)
def ZzR:PC w0 nG 249 (Zlp Yb):=ZsA ⟨Zka,cIs,trivial⟩
def Zv4 {d:Nat} (h:PC w0 nG 216 (ZgS d)):PC w0 nG 250 (ZvT d):=ZzM ⟨ZbT,Zai,JB,Zfz,Ja,ZzQ d,ZCV d,ZEZ,V0,JE,(Zca (tb:=ZpP d) ⟨cIs,JE,V0,(Zca (tb:=ZpO d) ⟨h,trivial⟩ Tryz.func277 rfl kR kR),trivial⟩ Tryz.func212 rfl kR kR),trivial⟩
def ZlJ {d:Nat} (h:PC w0 nG 216 (ZgS d)):PC w0 nG 216 (Ziq d):=ZvV ⟨ZpC d ⟨ZzR,V0,Zv4 h,Zai,trivial⟩,trivial⟩
def Zuq:∀d,PC w0 nG 216 (ZgS d)
 | 0=>Zdv (Zf Tryz.func216 kR rfl)
 | d+1=>Zdw (ZlJ (Zuq d))
def ZCW (d:Nat):PC w0 nG 216 (Ziq d):=ZlJ (Zuq d)
def ZCX (d:Nat):PC w0 nG 167 (ZlD d):=ZvX ⟨ZbT,Ja,ZzQ d,Zai,ZCW d,JE,trivial⟩
def Znq (h:WH (GG w0 nG).P 92):PC w0 nG 92 (Uw 0):=⟨h,fun args σ K hs=>by
 exfalso;unfold Uw Xp at hs
 split at hs
 ·obtain ⟨L,ts,_,_,hs⟩:=hs;split at hs
  ·exact absurd hs.1.1 oM
  exact hs
 exact hs⟩
def Znr {d:Nat} (h:PC w0 nG 92 (ZdB d)):PC w0 nG 92 (Uw (d+1)):=h.weaken1 fun args σ K hs=>by
 unfold Uw Xp at hs
 unfold ZdB Xp
 split at hs
 ·obtain ⟨L,ts,h1,h2,hs⟩:=hs;refine ⟨L,ts,h1,h2,?_⟩;split at hs
  ·obtain ⟨⟨g1,g2,g3,rfl⟩,hs⟩:=hs;refine ⟨oM,?_⟩;rw [Znn,ZsB] at hs;exact hs
  exact hs.elim
 exact hs
def ZsD {d:Nat} (h:PC w0 nG 92 (Uw d)):PC w0 nG 161 (ZlE d):=Zv0 ⟨ZbT,Ja,Zup,Zai,(Zca (tb:=ZlG d) ⟨cIs,JE,V0,(Zca (tb:=ZlF d) ⟨h,trivial⟩ Tryz.func213 rfl kR kR),trivial⟩ Tryz.func212 rfl kR kR),trivial⟩
def ZlK {d:Nat} (h:PC w0 nG 92 (Uw d)):PC w0 nG 92 (ZdB d):=Zv2 ⟨cIs,ZCT,ZzO,ZCU,ZsD h,ZbT,Ja,JE,Zup,Zfz,ZCX d,V0,trivial⟩
def Zur:∀d,PC w0 nG 92 (Uw d)
 | 0=>Znq (Zf Tryz.func92 kR rfl)
 | d+1=>Znr (ZlK (Zur d))
def ZCY (d:Nat):PC w0 nG 92 (ZdB d):=ZlK (Zur d)
def R.good {α:Type} (x:R α):Prop:=match x with | .ok _ _=>True | .err _ e=>e≠0
def ZFt {α β:Type} {x:R α} {f:α->Ts->R β} (h:x.good) (hf:∀a ts,(f a ts).good):(x.bind f).good:=by
 cases x with
 | ok a ts=>exact hf a ts
 | err r e=>exact h
def ZFP {α:Type} (a:α) (ts:Ts):(R.ok a ts:R α).good:=trivial
def ZFu {α:Type} {c:Prop} [Decidable c] {x y:R α} (h1:x.good) (h2:y.good):(if c then x else y).good:=by split;exact h1;exact h2
def ZFx {α:Type} {r e:Nat} (h:e≠0):(R.err r e:R α).good:=h
def Yc (w:Bs) (ts:Ts):(Z3 w ts).good:=ZFu trivial (ZFx dM)
def ZR (ts:Ts):(XR ts).good:=ZFu trivial (ZFx dM)
def YG {α:Type} {d:Nat} {fr tw:Bs} {read:Ts->R α} (h:∀ts,(read ts).good) (ts:Ts):(Zx d fr tw read ts).good :=
 ZFu (ZFu (ZFx dM) (ZFt (h _) fun _ _=>ZFu trivial (ZFt (Yc _ _) fun _ _=>trivial))) (ZFx dM)
def ZdC {α:Type} {sign:Bs} {ao:Nat} {st:Ts->Bool} {one:Ts->R α} (h:∀ts,(one ts).good):∀f l ts,(Wr sign ao st one f l ts).good
 | 0,_,_=>ZFx dM
 | f+1,l,ts=>ZFu (ZFx dM) (ZFt (h _) fun _ _=>ZFu (ZdC h f _ _) trivial)
def Vg {α:Type} {sign:Bs} {ao:Nat} {st:Ts->Bool} {one:Ts->R α} (h:∀ts,(one ts).good) (ts:Ts):(XS sign ao st one ts).good:=ZdC h _ _ _
def Zns (ts:Ts):(Us ts).good:=ZFt (ZR _) fun _ _=>ZFt (Yc _ _) fun _ _=>ZFt (ZR _) fun _ _=>trivial
def JF (w:Bs) (ts:Ts):(Za3 w ts).good:=ZFu trivial (Vg Zns _)
def Zbc (ts:Ts):(Zfv ts).good:=ZFu (ZFt (Vg ZR _) fun _ _=>ZFt (Yc _ _) fun _ _=>trivial) trivial
def ZpS (ts:Ts):(Zdm ts).good:=ZFt (ZR _) fun _ _=>ZFt (Yc _ _) fun _ _=>ZFt (JF _ _) fun _ _=>ZFt (Yc _ _) fun _ _=>trivial
def Znt (ts:Ts):(Zig ts).good:=ZFt (ZR _) fun _ _=>ZFu (ZFt (ZR _) fun _ _=>trivial) (ZFt (Yc _ _) fun _ _ =>
 ZFu (ZFt (JF _ _) fun _ _=>ZFt (Yc _ _) fun _ _=>trivial) (ZFt (Vg ZpS _) fun _ _=>trivial))
def ZpT (ts:Ts):(Zpl ts).good:=ZFt (ZR _) fun _ _=>ZFt (Yc _ _) fun _ _=>ZFt (JF _ _) fun _ _=>ZFt (Yc _ _) fun _ _=>trivial
def Zaj {d:Nat} {ex:Ts->R Ex} (h:∀ts,(ex ts).good) (fr tw:Bs) (ts:Ts):(Zih d ex fr tw ts).good:=by
 unfold Zih
 exact YG (fun ts=>ZFu (ZFP _ _) (Vg h _)) ts
def ZdD {ex:Ts->R Ex} (h:∀ts,(ex ts).good):∀k l ts,(Zab ex k l ts).good
 | 0,_,_=>trivial
 | k+1,l,ts=>ZFt (ZFu trivial (Yc _ _)) fun _ _=>ZFt (h _) fun _ _=>ZdD h k _ _
def Ziu {d:Nat} {ex:Ts->R Ex} (h:∀ts,(ex ts).good) (ts:Ts):(Zac d ex ts).good :=
 ZFu (ZFx dM) <| ZFu trivial <| ZFu trivial <| ZFu (YG h _) <| ZFu (ZFt (Zaj h _ _ _) fun _ _=>trivial) <|
 ZFu (ZFt (ZR _) fun _ _=>ZFu (ZFt (Zaj h _ _ _) fun _ _=>trivial) trivial) <|
 ZFu (ZFt (YG (ZdD h _ _) _) fun _ _=>trivial) <| ZFu trivial <| ZFu trivial trivial
def ZdE {sub:Nat->Ts->R Ex} (h:∀n ts,(sub n ts).good) (least:Nat):∀f e ts,(U8 sub least f e ts).good
 | 0,_,_=>ZFx dM
 | f+1,e,ts=>ZFu trivial (ZFt (h _ _) fun _ _=>ZdE h least f _ _)
def Zbd {sg:Ts->R Ex} (h:∀ts,(sg ts).good):∀k least ts,(Jz sg k least ts).good
 | 0,_,_=>h _
 | k+1,least,ts=>ZFt (h _) fun _ _=>ZdE (fun n ts=>Zbd h k n ts) _ _ _ _
def ZbU {d:Nat} {sg:Ts->R Ex} (h:∀ts,(sg ts).good) (ts:Ts):(Zdn d sg ts).good :=
 ZFu (ZFt (YG h _) fun _ _=>trivial) <| ZFu (ZFt (YG h _) fun _ _=>trivial) (Ziu (fun ts=>Zbd h _ _ _) _)
def ZdF:∀d ts,(Xw d ts).good
 | 0,ts=>ZbU (fun _=>(ZFx dM)) ts
 | d+1,ts=>ZbU (ZdF d) ts
def ZdG (d:Nat) (ts:Ts):(Zad d ts).good:=Zbd (ZdF d) _ _ _
def ZfA:∀d ts,(Zdo d ts).good
 | 0,_=>(ZFx dM)
 | d+1,ts=>ZdG d ts
def Znu (ts:Ts):(Zdp ts).good:=by
 unfold Zdp
 split
 ·exact ZFx dM
 ·split <;> trivial
 trivial
def ZbV (d op a:Nat) (ts:Ts):(Zdq d op a ts).good:=ZFt (ZR _) fun _ _=>ZFt (Zaj (ZfA d) _ _ _) fun _ _=>trivial
def ZdH {d:Nat} {bd:Ts->R (List Li)} (h:∀ts,(bd ts).good) (a op:Nat) (l:List Ex) (ts:Ts):(Ws d bd a op l ts).good :=
 ZFu (ZFt (Yc _ _) fun _ _=>ZFt (YG h _) fun _ _=>trivial) trivial
def ZlL {d:Nat} {bd:Ts->R (List Li)} (h:∀ts,(bd ts).good) (ts:Ts):(Znb d bd ts).good :=
 ZFu (ZbV _ _ _ _) <| ZFu (ZbV _ _ _ _) <| ZFt (ZdG _ _) fun _ _=>ZFt (Znu _) fun _ _=>ZFu (ZdH h _ _ _ _) (ZFt (ZdG _ _) fun _ _=>ZdH h _ _ _ _)
def Ziv:∀d ts,(Znc d ts).good
 | 0,ts=>Vg (ZlL fun _=>(ZFx dM)) ts
 | d+1,ts=>Vg (ZlL (Ziv d)) ts
def ZpU (d:Nat) (b:Bool) (ts:Ts):(Zpm d b ts).good:=ZFt (ZR _) fun _ _=>ZFt (Zaj (ZfA d) _ _ _) fun _ _ =>
 ZFu (ZFt (Ziv _ _) fun _ _=>ZFt (Yc _ _) fun _ _=>trivial) (ZFt (Yc _ _) fun _ _=>trivial)
def ZpV {d:Nat} {un:Ts->R Un} (h:∀ts,(un ts).good) (ts:Ts):(Zpn d un ts).good:=ZFt (ZR _) fun _ _=>ZFt (Zbc _) fun _ _ =>
 ZFu (ZFt (ZR _) fun _ _=>ZFt (Zbc _) fun _ _=>ZFt (YG h _) fun _ _=>trivial) (ZFt (YG h _) fun _ _=>trivial)
def ZpW (ts:Ts):(Zpo ts).good:=ZFt (ZR _) fun _ _=>ZFt (Yc _ _) fun _ _=>ZFt (ZR _) fun _ _=>ZFt (Zbc _) fun _ _=>trivial
def ZpX (ts:Ts):(Zpp ts).good:=ZFt (ZR _) fun _ _=>trivial
def Yu {b:Bool} {d:Nat} {un:Ts->R Un} (h:∀ts,(un ts).good):∀f u ts,(XW b d un f u ts).good
 | 0,_,_=>ZFx dM
 | f+1,.mk tys rels rules comps inits overs,ts=>by
  rw [Zir];exact ZFu trivial <| ZFu (ZFu (ZFx dM) (ZFt (Znt _) fun _ _=>Yu h f _ _)) <| ZFu (ZFu (ZFx dM) (ZFt (ZpT _) fun _ _=>Yu h f _ _)) <|
   ZFu (ZFu (ZFx dM) (ZFt (ZpV h _) fun _ _=>Yu h f _ _)) <| ZFu (ZFu (ZFx dM) (ZFt (ZpW _) fun _ _=>Yu h f _ _)) <|
   ZFu (ZFu (ZFx dM) (ZFt (ZpX _) fun _ _=>Yu h f _ _)) <| ZFu (ZFu (ZFx dM) (ZFt (ZpU _ _ _) fun _ _=>Yu h f _ _)) (ZFx dM)
def ZfB:∀d ts,(Zpq d ts).good
 | 0,ts=>Yu (fun _=>(ZFx dM)) _ _ _
 | d+1,ts=>Yu (ZfB d) _ _ _
def Ziw (ts:Ts):(Za4 ts).good:=Yu (ZfB 63) _ _ _
def Znv {a:Nat} {r:Bs} {room:Bool} {t:Tok} (h:Ju a r room=.tok t):room=true:=by
 cases room with
 | true=>rfl
 | false =>
 unfold Ju at h
 simp only at h;split at h
 ·cases h
 simp at h
def ZlM:∀(f:Nat) (m:Int) (a:Nat) (r:Bs),(Uj f m a r).1.length<=m.toNat
 | 0,m,a,r=>by simp [Uj]
 | f+1,m,a,r=>by
  unfold Uj
  split
  ·simp
  simp only;split
  ·simp
  split
  ·simp
  rename_i t ht
  have hr:=Znv ht;rw [TQ] at hr;have:=ZlM f (m - 1) t.fin ((r.drop (YS r).2).drop (t.fin - (a+(YS r).2)));simp only [Te];omega
def Zv5 (s:Bs) (m:Int):(ZeH s m).1.length<=m.toNat:=ZlM _ _ _ _
inductive Top (α:Type) where
 | ok (v:α) (L:List Tok) | err (p:Int) (e:Nat)
def JG {α:Type} (bytes ao:Nat) (P:Ts->R α) (s:Bs):Top α :=
 if bytes<s.length then .err 0 3
 else if (ZeH s ao).2.2≠0 then .err (ZeH s ao).2.1 (ZeH s ao).2.2
 else match P ((ZeH s ao).1.map Tok.t0) with
  | .ok v []=>.ok v (ZeH s ao).1
  | .ok v (_::ts)=>.err (Zc (ZeH s ao).1 s.length (ts.length+1)) 150
  | .err r e=>.err (Zc (ZeH s ao).1 s.length r) e
def Zkd {α:Type} {bytes ao:Nat} {P:Ts->R α} (hP:∀ts,(P ts).good) {s:Bs} {p:Int} {e:Nat} (h:JG bytes ao P s=.err p e):e≠0:=by
 unfold JG at h
 split at h
 ·cases h;decide
 split at h
 ·rename_i hn;cases h;exact hn
 split at h
 ·cases h
 ·cases h;decide
 rename_i r e' he
 cases h
 have:=hP ((ZeH s ao).1.map Tok.t0);rw [he] at this;exact this
def ZfC:Zo:=fun args σ K=>match args,σ with
 | [.d (.str s),.d (.int .i64 m)],⟨[],[],0⟩=>s.length<4294967281 /\
   ∀l p c,ZeH s m=(l,(p,c))->(c=0->K (.ret (.tuple [.d (.sl (ZS l)),.d (.int .i64 p),.d (.int .i64 0)])) ⟨[],[],0⟩) /\
    (c≠0->K (.ret (.tuple [.d (.sl []),.d (.int .i64 p),.d (.int .i64 c)])) ⟨[],[],0⟩)
 | _,_=>False
def Zke:Zz ZfC:=fun args σ K K' hK h=>by
 unfold ZfC at h |-
 split at h
 ·exact ⟨h.1,fun l p c hx=>⟨fun g=>hK _ _ ((h.2 l p c hx).1 g),fun g=>hK _ _ ((h.2 l p c hx).2 g)⟩⟩
 exact h.elim
def Zv6 (h:PC w0 nG 154 Zaa):PC w0 nG 154 ZfC:=h.weaken1 fun args σ K hs=>by
 unfold ZfC at hs
 unfold Zaa
 split at hs
 ·rename_i s m
  obtain ⟨h1,hs⟩:=hs;refine ⟨h1,?_⟩;have hs:=hs (ZeH s m).1 (ZeH s m).2.1 (ZeH s m).2.2 rfl
  by_cases hc:(ZeH s m).2.2=0
  ·rw [Tk hc,hc];exact hs.1 hc
  rw [Tf hc];exact hs.2 hc
 exact hs.elim
def recOf:Nat×Nat×Code:=match Zy5 (YR Tryz.f155) with | some x=>x | none=>(0,0,.skip)
def ZzS:List PV->St->(St->Prop)->Prop:=fun args σ K=>args.length<=Tryz.f155.ntmps/\W (ctx Vr [] (Zj [])) recOf.2.2 (Zsh Vr Tryz.f155 σ.bx.length K) (W1 (W1 (Zb7 0 args) recOf.1 (.d .nili)) recOf.2.1 (.d .nili)) σ
def ZzT:PV->List PV->St->(St->Prop)->Prop:=fun pv args σ K=>args.length<=Tryz.f155.ntmps/\W (ctx Vr [] (Zj [])) recOf.2.2 (Zsh Vr Tryz.f155 σ.bx.length K) (W1 (W1 (Zb7 0 args) recOf.1 pv) recOf.2.1 pv) σ
def ZzU:PDef (GG w0 nG) 155 ZzS ZzT :=
 Zj1 (a:=recOf.1) (b:=recOf.2.1) (rest:=recOf.2.2) Zy mixed Tryz.func155 rfl kR rfl kR (fun args σ K h=>⟨Zn6 Vr [] (Zj []) (fun _=>0) (fun _=>false),σ.bx.length,CxG.of (tbl:=[]) Zy trivial trivial _ _ _,Tt _,h.1,h.2⟩) (fun pv args σ K h=>⟨Zn6 Vr [] (Zj []) (fun _=>0) (fun _=>false),σ.bx.length,CxG.of (tbl:=[]) Zy trivial trivial _ _ _,Tt _,h.1,h.2⟩)
def WhK {α:Type} (tU:TypeId) (enc:List Tok->Int->α->List PV) (bad:List PV->Prop) (n:Int) (x:Top α) (K:PEnd->St->Prop):Prop:=match x with
 | .ok v L=>K (.ret (.tuple [.d (.int .i64 0),.d (.int .i64 0)])) ⟨[.cells tU (enc L n v)],[],0⟩
 | .err p e=>∀cs,bad cs->K (.ret (.tuple [.d (.int .i64 p),.d (.int .i64 e)])) ⟨[.cells tU cs],[],0⟩
def ZpY {l:List Tok} (h:l.length<=1048576):ROK l 0 (l.map Tok.t0):=⟨oM,oM,h,by simp [tz]⟩
def ZE0 (cs:List PV):Prop:=∃a b c d e f:List (List D),cs=[.d (.sl a),.d (.sl b),.d (.sl c),.d (.sl d),.d (.sl e),.d (.sl f)]
def ZlN:Tbl:=[(92,ZdB 64)]
def Zv7:Zo:=fun args σ K=>match args,σ with
 | [.d (.str s),.d (.int .i64 by'),.d (.int .i64 ao),.func g [] [.ptr 0 0]],⟨[.cells tU c0],tk,n⟩=>(g=91/\by'=65536/\ao=16384/\c0=[.sl 0 41 [],.sl 1 46 [],.sl 2 32 [],.sl 3 154 [],.sl 4 159 [],.sl 5 163 []]/\tk=[5,4,3,2,1,0]/\n=6)/\s.length<4294967281 /\
   ∀x,JG 65536 16384 Za4 s=x->WhK tU (fun L n (v:Un)=>(XT (Zc L n) v).map .d) ZE0 s.length x K
 | _,_=>False
def Zus:Tbl:=[(154,ZfC),(91,Zlr Tryz.f91 ZlN),(156,YU)]
def ZpZ (ht:TO w0 nG Zus):PC w0 nG 90 Zv7:=by
 refine Zcr Zy mixed Tryz.func90 rfl kR kR ZzU ?_;intro args σ K h
 unfold Zv7 at h
 split at h
 ·obtain ⟨⟨rfl,rfl,rfl,rfl,rfl,rfl⟩,hs,h⟩:=h
  rename_i s tU
  have h:=h _ rfl;refine ⟨Zn6 Vr Zus (Zj []) (Xo []) (Ye []),1,false,CxG.of Zy ht ⟨Zke,ZpH _ _,Zj3,trivial⟩ _ _ _,sM,Tc rfl,wN ?_⟩;unfold JG at h
  refine ZFs (fun hc=>wN ?_) (fun hc=>wN ?_)
  ·rw [Tk oM] at h;exact h _ ⟨_,_,_,_,_,_,rfl⟩
  rw [Tf oM] at h;refine ⟨hs,fun l p c hx=>?_⟩;have hlen:=Zv5 s 16384;rw [show ((16384:Nat):Int)=16384 from rfl,hx] at h;rw [hx] at hlen;refine ⟨fun h0=>?_,fun h0=>wN ?_⟩
  ·subst h0;rw [Tf sM] at h;simp only at h hlen;have ho:=ZpY (l:=l) (by simp at hlen;omega)
   clear hx hlen
   generalize wq:l.map Tok.t0=ts at h ho;(conv=>whnf);refine ⟨_,fun _ _ h=>h,Tc rfl,wN ?_⟩;refine ⟨l,ts,rfl,ho,oM,fun x hx=>?_⟩;rw [show Za4 ts=ZvY false 64 ts from rfl,hx] at h;rcases x with ⟨⟨v1,v2,v3,v4,v5,v6⟩,ts2⟩ | ⟨r,e⟩
   rotate_left
   ·intro a9 d9;(conv=>whnf);refine ⟨Tc rfl,?_⟩;(conv=>whnf);(repeat (refine ⟨rfl,?_⟩;conv=>whnf));exact h _ ⟨_,_,_,_,_,_,rfl⟩
   intro a2 f7 ai
   conv=>whnf
   have gu:=ai.len
   (repeat (refine ⟨rfl,?_⟩;conv=>whnf))
   refine ZFs (fun ek=>?_) (fun ek=>?_)
   ·have ek:a2<l.length:=by have ek:a2<((ZS l).length:Int):=ek;rw [XM] at ek;exact ek
    cases ts2 with
    | nil=>simp at gu;omega
    | cons t0 ts3 =>
    conv=>whnf
    refine ⟨l,_,rfl,ai,wN ?_⟩;refine ⟨Tc rfl,wN ?_⟩
    (repeat (refine ⟨rfl,?_⟩;conv=>whnf))
    exact h _ ⟨_,_,_,_,_,_,rfl⟩
   have ek:¬a2<l.length:=by have ek:¬a2<((ZS l).length:Int):=ek;rw [XM] at ek;exact ek
   obtain rfl:ts2=[]:=T3 oM;(conv=>whnf);refine ⟨Tc rfl,wN ?_⟩;exact h
  rw [Tk h0] at h;refine ZFv (fun bm=>?_) (fun bm=>absurd (show c=0 by omega) h0);(conv=>whnf)
  (repeat (refine ⟨rfl,?_⟩;conv=>whnf))
  exact h _ ⟨_,_,_,_,_,_,rfl⟩
 exact h.elim
def ZEc {α:Type} (enc:List Tok->α->PV) (zero:PV) (x:Top α) (K:PEnd->St->Prop):Prop:=match x with
 | .ok v L=>K (.ret (.tuple [enc L v,.d (.int .i64 0),.d (.int .i64 0)])) ⟨[],[],0⟩
 | .err p e=>K (.ret (.tuple [zero,.d (.int .i64 p),.d (.int .i64 e)])) ⟨[],[],0⟩
def ZlO:Zo:=fun args σ K=>match args,σ with
 | [.d (.str s)],⟨[],[],0⟩=>s.length<4294967281/\∀x,JG 65536 16384 Za4 s=x->ZEc (fun L (v:Un)=>Za5 (XT (Zc L s.length) v)) (Za5 (XT (fun _=>0) .nil)) x K
 | _,_=>False
def Zv9:OKw w0 nG [(90,Zv7)] 33 ZlO:=by
 refine pwo Tryz.func33 fun args σ K h=>?_
 unfold ZlO at h
 split at h
 ·rename_i s
  obtain ⟨hs,h⟩:=h;refine pwv [] 0 false ?_;refine ⟨⟨rfl,rfl,rfl,rfl,rfl,rfl⟩,hs,fun x hx=>?_⟩;have h:=h x hx
  cases x with
  | ok v L =>
   obtain ⟨v1,v2,v3,v4,v5,v6⟩:=v;exact mq51
  | err p e =>
  have he:=Zkd Ziw hx;intro cs dh
  obtain ⟨b1,b2,b3,b4,b5,b6,rfl⟩:=dh;(conv=>whnf);refine ZFv (fun hc=>?_) (fun hc=>absurd (show e=0 by omega) he);exact mq51
 exact h.elim
def Znw (hg:GlobOK w0 nG):PC w0 nG 154 ZfC:=Zv6 (Zvw hg)
def ZCZ (hg:GlobOK w0 nG):PC w0 nG 33 ZlO:=Zv9 ⟨ZpZ ⟨Znw hg,Zca (tb:=ZlN) ⟨ZCY 64,trivial⟩ Tryz.func91 rfl kR kR,V0,trivial⟩,trivial⟩
mutual
def szE:Ex->Nat
 | .mk _ _ _ l _=>1+Zct l
def Zct:List Ex->Nat
 | []=>0
 | x::l=>1+szE x+Zct l
end
def YP:∀(l:List Ex),l.length<=Zct l
 | []=>Tt _
 | x::l=>by have:=YP l;simp only [Te,Zct];omega
def Yh:∀(l:List Ex) (i:Nat) (h:i<l.length),szE l[i]<Zct l
 | x::l,0,h=>by simp only [List.getElem_cons_zero,Zct];omega
 | x::l,i+1,h=>by have:=Yh l i (by simpa using h);simp only [List.getElem_cons_succ,Zct];omega
def Li.op:Li->Nat | .mk o _ _ _ _=>o
end Go.PM.Lex
end

section
namespace Go.PM.Lex
mutual
def erE:Ex->Ex
 | .mk op t n args _=>.mk op t n (ZEd args) 0
def ZEd:List Ex->List Ex
 | []=>[]
 | e::l=>erE e::ZEd l
end
def Stb {α:Type} (er:α->α) (m:Ts) (x y:R α):Prop:=∀v ts,x=.ok v ts->∃v',er v'=er v/\y=.ok v' (ts++m)
section
variable {α β:Type} {er:α->α} {er2:β->β} {m:Ts}
def Stb.ok {v v':α} {ts:Ts} (h:er v'=er v):Stb er m (.ok v ts) (.ok v' (ts++m)):=fun w rest e=>by cases e;exact ⟨v',h,rfl⟩
def Stb.ok' {v v':α} {ts ts':Ts} (h:er v'=er v) (e:ts'=ts++m):Stb er m (.ok v ts) (.ok v' ts'):=e ▸ Stb.ok h
def Stb.err {r e:Nat} {y:R α}:Stb er m (.err r e) y:=fun w rest e=>by cases e
def Stb.bind {x y:R α} {f g:α->Ts->R β} (h:Stb er m x y) (hf:∀v v' ts,er v'=er v->Stb er2 m (f v ts) (g v' (ts++m))):Stb er2 m (x.bind f) (y.bind g):=fun w rest e=>by
 cases x with
 | ok v ts =>
  obtain ⟨v',h1,rfl⟩:=h v ts rfl;exact hf v v' ts h1 w rest e
 | err r e'=>cases e
def Stb.binds {x y:R α} {f g:α->Ts->R β} (h:Stb id m x y) (hf:∀v ts,Stb er2 m (f v ts) (g v (ts++m))):Stb er2 m (x.bind f) (y.bind g):=Stb.bind h fun v v' ts e=>by cases (show v'=v from e);exact hf v ts
end
variable {m:Ts}
def map_id' {α:Type} (l:List α):l.map id=l:=sM
def Un.app:Un->Un->Un
 | .mk a1 a2 a3 a4 a5 a6,.mk b1 b2 b3 b4 b5 b6=>.mk (a1++b1) (a2++b2) (a3++b3) (a4++b4) (a5++b5) (a6++b6)
def Un.le:Un->Un->Prop
 | .mk a1 a2 a3 a4 a5 a6,.mk b1 b2 b3 b4 b5 b6=>a1.length<=b1.length/\a2.length<=b2.length/\a3.length<=b3.length/\a4.length<=b4.length/\a5.length<=b5.length/\a6.length<=b6.length
def Un.le_refl:∀u:Un,Un.le u u | .mk ..=>⟨Tt _,Tt _,Tt _,Tt _,Tt _,Tt _⟩
def Un.le_trans:∀{u v w:Un},Un.le u v->Un.le v w->Un.le u w
 | .mk ..,.mk ..,.mk ..,⟨h1,h2,h3,h4,h5,h6⟩,⟨k1,k2,k3,k4,k5,k6⟩=>⟨oM,oM,oM,oM,oM,oM⟩
def Un.room:Un->Un->Prop
 | .mk a1 a2 a3 a4 a5 a6,.mk b1 b2 b3 b4 b5 b6=>a1.length+b1.length<=256/\a2.length+b2.length<=256/\a3.length+b3.length<=1024/\a4.length+b4.length<=64/\a5.length+b5.length<=256/\a6.length+b6.length<=256
end Go.PM.Lex
end

section
namespace Go.PM.Lex
open Go.Proofs
variable {w0:World} {nG:Nat}
def szS {α:Type} (f:α->Nat):List α->Nat
 | []=>0
 | x::l=>1+f x+szS f l
def Zp {α:Type} (f:α->Nat):∀(l:List α),l.length<=szS f l
 | []=>Tt _
 | x::l=>by have:=Zp f l;simp only [Te,szS];omega
def Zs {α:Type} (f:α->Nat):∀(l:List α) (i:Nat) (h:i<l.length),f l[i]<szS f l
 | x::l,0,h=>by simp only [List.getElem_cons_zero,szS];omega
 | x::l,i+1,h=>by have:=Zs f l i (by simpa using h);simp only [List.getElem_cons_succ,szS];omega
def Yv:∀(l:List Ex),Zct l=szS szE l
 | []=>rfl
 | x::l=>by rw [Zct,szS,Yv l]
def eqB (a b:Bs):Bool:=decide (a=b)
mutual
def szL:Li->Nat
 | .mk _ _ a b _=>1+szS szE a+Zji b
def Zji:List Li->Nat
 | []=>0
 | x::l=>1+szL x+Zji l
end
def Xj:∀(l:List Li),Zji l=szS szL l
 | []=>by rw [Zji,szS]
 | x::l=>by rw [Zji,szS,Xj l]
def V8 (r:Ru):Nat:=1+szS szE r.args+szS szL r.body
def sz0 {α:Type} (_:α):Nat:=0
def Zjj (c:Ca):Nat:=1+szS sz0 c.fields
def Znx (a:Ty):Nat:=1+szS sz0 a.fields+szS Zjj a.cases
def Zkf (a:Re):Nat:=1+szS sz0 a.fields
def ZE1 (a:Ini):Nat:=1+szS sz0 a.types
mutual
def ZE2:Un->Nat
 | .mk a1 a2 a3 a4 a5 a6=>1+szS Znx a1+szS Zkf a2+szS V8 a3+Zp0 a4+szS ZE1 a5+szS sz0 a6
def ZEe:Co->Nat
 | .mk _ p _ t u _=>1+szS sz0 p+szS sz0 t+ZE2 u
def Zp0:List Co->Nat
 | []=>0
 | x::l=>1+ZEe x+Zp0 l
end
def WN:∀(l:List Co),Zp0 l=szS ZEe l
 | []=>by rw [Zp0,szS]
 | x::l=>by rw [Zp0,szS,WN l]
def spB (sp:Nat->Zo) (n:Nat):Zo:=fun args σ K=>0<n/\sp (n - 1) args σ K
def ZlP {sp:Nat->Zo} (h:∀n,Zz (sp n)) (n:Nat):Zz (spB sp n):=fun args σ K K' hK g=>⟨g.1,h _ _ _ _ _ hK g.2⟩
def ZA {g:FuncId} {sp:Nat->Zo} (h:WH (GG w0 nG).P g):PC w0 nG g (spB sp 0):=⟨h,fun args σ K hs=>absurd hs.1 oM⟩
def ZB {g:FuncId} {sp:Nat->Zo} {n:Nat} (h:PC w0 nG g (sp n)):PC w0 nG g (spB sp (n+1)):=h.weaken1 fun args σ K hs=>hs.2
abbrev ws:Bs:=[32,9,13,10]
def Zny (c:Nat):Option UInt8:=if c=10 then some 110 else if c=9 then some 116 else if c=34 then some 34 else if c=92 then some 92 else none
def VJ:Nat->Bs->Bs->Option Bs
 | 0,_,_=>none
 | f+1,r,out=>if r=[] then some out else match Zny (Lib.decodeL r).1 with
  | some b=>VJ f (r.drop (Lib.decodeL r).2) (out++[92,b])
  | none=>if (Lib.decodeL r).1<32 then none else VJ f (r.drop (Lib.decodeL r).2) (out++Lib.encodeRune (Lib.decodeL r).1)
def Jb (s:Bs):Option Bs:=if Lib.validD s=true then (VJ (s.length+1) s [34]).map (·++[34]) else none
def Zkg:Zo:=fun args σ K=>match args with
 | [.d (.str s)]=>s.length<=9223372036854775807/\K (.ret (.d (.bool (Lib.validD s)))) σ
 | _=>False
def ZsE (h1:1<nG) (hT:Lib.Utf8Tabs 0 1 w0):PC w0 nG 229 Zkg:=YM (Zf Tryz.func229 kR rfl) fun args σ K h e w vs hS ha=>by
 unfold Zkg at h
 split at h
 ·rename_i s
  obtain ⟨u,rfl,hu⟩:=ZgC ha
  cases hu.dstr
  have hT':Lib.Utf8Tabs 0 1 w:=by
   have g0:=hS.glob 0 (show 0<nG by omega);have g1:=hS.glob 1 h1;obtain ⟨a,b⟩:=hT;refine ⟨fun c hc=>?_,fun i hi=>?_⟩
   ·have:=a c hc;simpa [World.cell?,g0] using this
   have:=b i hi;simpa [World.cell?,g1] using this
  exact ⟨_,h.2,_,fun _ _=>.mkbool,(Any.utf8_ValidString Tryz.laysValid ⟨s.toArray⟩ w (show s.toArray.size<=_ by simpa using h.1) hT').mono fun en w' ⟨h1,h2⟩=>⟨h1,ZFy h2⟩⟩
 exact h.elim
def ZsF {n:Nat} (h:Zny n=none):Zdh [10,9,34,92] n=-1:=by
 unfold Zny at h
 split at h;· cases h
 split at h;· cases h
 split at h;· cases h
 split at h;· cases h
 rename_i h1 h2 h3 h4
 unfold Zdh
 split
 ·rename_i h5
  have hc:([10,9,34,92]:Bs).contains ((n:Int).toNat.toUInt8)=false:=by
   have b1:=Ur (n:=n) (k:=10) oM oM h1;have b2:=Ur (n:=n) (k:=9) oM oM h2;exact mq112
  rw [Lib.contains_iff_indexByte,decide_eq_false_iff_not] at hc;have:=Lib.indexByte_ge [10,9,34,92] ((n:Int).toNat.toUInt8);omega
 rfl
def ZsG {n:Nat} {b:UInt8} (h:Zny n=some b):(Zdh [10,9,34,92] n=0/\b=110)\/(Zdh [10,9,34,92] n=1/\b=116)\/(Zdh [10,9,34,92] n=2/\b=34)\/(Zdh [10,9,34,92] n=3/\b=92):=by
 unfold Zny at h
 exact mq69
def JH:Zo:=fun args σ K=>match args,σ with
 | [.d (.str s)],⟨[],[],0⟩=>s.length<4294967281/\(Jb s=none->K (.ret (.tuple [.d (.str []),.d (.bool false)])) ⟨[],[],0⟩)/\(∀q,Jb s=some q->K (.ret (.tuple [.d (.str q),.d (.bool true)])) ⟨[],[],0⟩)
 | _,_=>False
def Zix:Zz JH:=fun args σ K K' hK h=>by
 unfold JH at h |-
 split at h
 ·exact ⟨h.1,fun g=>hK _ _ (h.2.1 g),fun q g=>hK _ _ (h.2.2 q g)⟩
 exact h.elim
def ZE3 (B:Nat):List PV->St->Nat:=fun _ σ=>match σ.bx with | [_,.iter _ p]=>B - p | _=>0
def ZsI:OKw w0 nG [(229,Zkg),(230,VC),(231,Wq),(232,VD),(34,Zcp)] 194 JH:=by
 refine pwo Tryz.func194 fun args σ K h=>?_
 unfold JH at h
 split at h
 ·rename_i s
  obtain ⟨hs,cy,du⟩:=h;refine pwv [(6,⟨[],[4,13],fun vs σ=>vs=[]/\∃(out:Bs) (i f:Nat),σ=⟨[.cells 95 [.ptr 0 0,.sl 0 5 (Zk out)],.iter s i],[0],1⟩/\(i<=s.length/\s.length<i+f/\out.length<=4 * i+1)/\VJ f (s.drop i) out=VJ (s.length+1) s [34],ZE3 s.length⟩)] 0 false ?_;refine ⟨oM,wN ?_⟩;refine ZFw (fun h1=>wN ?_) (fun h1=>wN ?_)
  ·have hv:Lib.validD s=false:=by simpa using h1
   exact cy (by unfold Jb;rw [Tf (by rw [hv];simp)])
  have hv:Lib.validD s=true:=by simpa using h1
  have hq:Jb s=(VJ (s.length+1) s [34]).map (·++[34]):=by unfold Jb;rw [Tk hv]
  refine ⟨⟨.inl rfl,rfl,rfl,sM,sM⟩,wN ?_⟩;refine ⟨⟨rfl,[34],0,s.length+1,rfl,⟨oM,oM,sM⟩,by rw [Sj]⟩,?_⟩;intro vs σ1 hI
  obtain ⟨rfl,out,i,f,rfl,⟨zh,ab,hol⟩,gy⟩:=hI;obtain ⟨f,rfl⟩:∃g,f=g+1:=⟨f - 1,oM⟩
  have co:=Zfs out;have cj:=Zft out;have bq:=Zfq s i;have i6:=ZgK (s.drop i);have jt:=Lib.decodeL_le (s.drop i);rw [TG] at jt;(conv=>whnf);refine ZFs (fun h2=>wN ?_) (fun h2=>wN ?_)
  ·have ah:s.drop i≠[]:=fun g=>by have:=congrArg List.length g;rw [TG] at this;simp at this;omega
   have g3:i+(decodeL s i).2<=s.length:=by rw [bq];have:=jt ah;omega
   have qr:1<=(decodeL s i).2:=by rw [bq];omega
   refine ⟨⟨.inr rfl,oM,by rw [bq];omega⟩,wN ?_⟩;generalize hk:Zdh _ _=k;have gk:Zdh [10,9,34,92] ((Lib.decodeL (s.drop i)).1:Int)=k:=by rw [<- bq];exact hk
   cases hE:Zny (Lib.decodeL (s.drop i)).1 with
   | some b =>
    have g1:VJ f (s.drop (i+(decodeL s i).2)) (out++[92,b])=VJ (s.length+1) s [34]:=by rw [<- gy,bq];simp [VJ,ah,hE,TL]
    rcases ZsG hE with ⟨e1,rfl⟩ | ⟨e1,rfl⟩ | ⟨e1,rfl⟩ | ⟨e1,rfl⟩
    all_goals (rw [e1] at gk;subst gk)
    all_goals (conv=>whnf)
    all_goals (refine ⟨⟨.inr rfl,rfl,rfl,co,oM⟩,?_⟩)
    all_goals (conv=>whnf)
    all_goals (refine ⟨oM,by first | omega | (simp;done) | (simp;omega),?_⟩)
    all_goals (conv=>whnf)
    all_goals (refine ⟨⟨.inr rfl,rfl,rfl,fun r hr=>by (rcases TM.1 hr with hr | hr;exact co r hr;simp at hr;subst hr;rfl),by rw [Tb];simp;omega⟩,?_⟩)
    all_goals (conv=>whnf)
    all_goals (refine ⟨⟨rfl,_,_,f,?_,⟨g3,oM,?_⟩,g1⟩,?_⟩)
    all_goals (first | (rw [Vd,To];rfl) | (rw [Tb];simp;omega) | exact (show s.length - (i+(decodeL s i).2)<s.length - i by omega))
   | none =>
   rw [ZsF hE] at gk;subst gk;(conv=>whnf);refine ZFs (fun h5=>wN ?_) (fun h5=>wN ?_)
   ·have f6:(Lib.decodeL (s.drop i)).1<32:=by rw [bq] at h5;omega
    refine cy ?_;rw [hq,<- gy];simp [VJ,ah,hE,f6]
   have f6:¬(Lib.decodeL (s.drop i)).1<32:=by rw [bq] at h5;omega
   have g1:VJ f (s.drop (i+(decodeL s i).2)) (out++Lib.encodeRune ((decodeL s i).1:Int))=VJ (s.length+1) s [34]:=by rw [<- gy,bq];simp [VJ,ah,hE,f6,TL]
   have hen:=Zj0 ((decodeL s i).1:Int);refine ⟨⟨.inr rfl,rfl,rfl,co,oM,oM,by rw [bq];omega⟩,wN ?_⟩;refine ⟨⟨rfl,_,_,f,?_,⟨g3,oM,?_⟩,g1⟩,?_⟩
   ·rw [Vd];rfl
   ·rw [Tb];omega
   exact (show s.length - (i+(decodeL s i).2)<s.length - i by omega)
  have ez:s.drop i=[]:=Tr oM;have g1:VJ (s.length+1) s [34]=some out:=by rw [<- gy];simp [VJ,ez]
  refine ⟨⟨.inr rfl,rfl,rfl,co,oM⟩,wN ?_⟩;refine ⟨out++[34],⟨by rw [Jx];rfl,rfl,rfl,.inr rfl,by rw [Tb];simp;omega⟩,wN ?_⟩;exact du _ (by rw [hq,g1];rfl)
 exact h.elim
def ZsJ (s:Bs):Bool:=Zl (pk s).1 && decide (VB s=s.length)
def ZgV:Zo:=fun args σ K=>match args,σ with
 | [.d (.str s)],⟨[],[],0⟩=>s.length<4294967281/\K (.ret (.d (.bool (ZsJ s)))) ⟨[],[],0⟩
 | _,_=>False
def ZC1:OKw w0 nG [(187,ZbL),(188,UN),(189,Zh3)] 131 ZgV:=by
 refine pwo Tryz.func131 fun args σ K h=>?_
 unfold ZgV at h
 split at h
 ·rename_i s
  obtain ⟨hs,h⟩:=h;refine pwv [] 0 false ?_;have uh:=WM (s.drop (Int.toNat 0));have hd:s.drop (Int.toNat 0)=s:=Sj;refine ⟨⟨oM,oM⟩,wN ?_⟩;refine ⟨⟨uh.1,oM⟩,wN ?_⟩;refine ZFw (fun h1=>wN ?_) (fun h1=>wN ?_)
  ·have n8:Zl (pk s).1=true:=by rw [<- hd];exact h1
   refine ⟨⟨oM,oM,hs⟩,wN ?_⟩;refine Zlg h ?_;rw [ZsJ,n8,TV,decide_eq_decide,hd];omega
  have n8:Zl (pk s).1=false:=by rw [<- hd];exact h1
  rw [ZsJ,n8] at h;exact h
 exact h.elim
def Xk (s:Bs):Bool:=ZsJ s && (!decide (s=[95]) && !Zm9 s)
def ZT (op:Nat):Nat:=if op=16 then 0 else if op=17 then 0 else if op=15 then 1 else if op=18 then 2 else if op=19 then 2 else if op=10 then 3 else if op=11 then 3 else if op=12 then 4 else if op=13 then 4 else if op=14 then 4
 else if op=8 then 5 else if op=9 then 5 else if op=20 then 6 else if op=21 then 6 else if op=22 then 6 else if op=23 then 6 else if op=24 then 6 else if op=25 then 6 else if op=6\/op=7 then 6 else if op=1\/op=2\/op=3\/op=4\/op=5 then 6 else 0
def VK (op:Nat):Bs:=if op=16 then [98,111,114] else if op=17 then [98,120,111,114] else if op=15 then [98,97,110,100] else if op=18 then [115,104,108] else if op=19 then [115,104,114] else if op=10 then [43] else if op=11 then [45] else if op=12 then [42] else if op=13 then [47] else if op=14 then [37]
 else if op=8 then [45] else if op=9 then [126] else if op=20 then [99,97,116] else if op=21 then [115,116,114,108,101,110] else if op=22 then [115,117,98,115,116,114] else if op=23 then [99,111,100,101] else if op=24 then [115,116,114] else if op=25 then [110,117,109] else []
def V3 (op:Nat):Int:=if op=16 then 2 else if op=17 then 2 else if op=15 then 2 else if op=18 then 2 else if op=19 then 2 else if op=10 then 2 else if op=11 then 2 else if op=12 then 2 else if op=13 then 2 else if op=14 then 2
 else if op=8 then 1 else if op=9 then 1 else if op=20 then 2 else if op=21 then 1 else if op=22 then 3 else if op=23 then 1 else if op=24 then 1 else if op=25 then 1 else if op=6\/op=7 then -1 else if op=1\/op=2\/op=3\/op=4\/op=5 then 0 else -2
def V4 (op:Nat) (text:Bs):Bool:=if op=1\/op=7 then Xk text else if op=4 then (Jb text).isSome else decide (text=[])
mutual
def Yf:Ex->Bool
 | .mk op text n args _=>decide (-2<V3 op) && ((decide (V3 op<0) || decide ((args.length:Int)=V3 op)) && ((decide (n=0) || decide (op=3)) && (V4 op text && Zp1 args)))
def Zp1:List Ex->Bool
 | []=>true
 | e::l=>Yf e && Zp1 l
end
def Zw (l:List Ex):Zp1 l=l.all Yf:=by induction l with | nil=>rfl | cons x l ih=>simp [Zp1,ih]
def YY (op:Nat) (rel:Bs) (args body:Nat):Bool :=
 if op=1\/op=2 then Xk rel && !decide (0<body)
 else if 3<=op/\op<=8 then decide (rel=[]) && (decide (args=2) && !decide (0<body))
 else if op=9 then decide (rel=[]) && (decide (args=1) && decide (0<body))
 else if 9<op/\op<=12 then decide (rel=[]) && (decide (args=2) && decide (0<body)) else false
mutual
def YI:Li->Bool
 | .mk op rel args body _=>YY op rel args.length body.length && (Zp1 args && Zcb body)
def Zcb:List Li->Bool
 | []=>true
 | e::l=>YI e && Zcb l
end
def Xl (l:List Li):Zcb l=l.all YI:=by induction l with | nil=>rfl | cons x l ih=>simp [Zcb,ih]
def XO (r:Ru):Bool:=Xk r.head && (r.args.all Yf && r.body.all YI)
def YQ (f:Fi):Bool:=Xk f.name && Xk f.typ
def Xq (c:Ca):Bool:=Xk c.name && c.fields.all YQ
def ZbW (t:Ty):Bool:=if t.kind=1 then Xk t.base && (decide (t.fields.length=0) && decide (t.cases.length=0)) else if t.kind=2 then decide (t.base=[]) && decide (t.cases.length=0)
 else if t.kind=3 then decide (t.base=[]) && (decide (t.fields.length=0) && !decide (t.cases.length=0)) else false
def Yn (t:Ty):Bool:=ZbW t && (Xk t.name && (t.fields.all YQ && t.cases.all Xq))
def Wa (d:Re):Bool:=Xk d.name && d.fields.all YQ
def Wu (i:Ini):Bool:=Xk i.name && (Xk i.comp && i.types.all Xk)
def WX (o:Ov):Bool:=Xk o.rel
mutual
def ZeO:Un->Bool
 | .mk tys rels rules comps inits overs=>tys.all Yn && (rels.all Wa && (rules.all XO && (ZlQ comps && (inits.all Wu && overs.all WX))))
def Yg:Co->Bool
 | .mk nm ps base tys u _=>Xk nm && (ps.all Xk && (tys.all Xk && (((decide (base=[]) && decide (tys.length=0)) || Xk base) && ZeO u)))
def ZlQ:List Co->Bool
 | []=>true
 | c::l=>Yg c && ZlQ l
end
def Wv (l:List Co):ZlQ l=l.all Yg:=by induction l with | nil=>rfl | cons x l ih=>simp [ZlQ,ih]
def Zjk (d:Nat):UInt8:=if d<10 then UInt8.ofNat (48+d) else UInt8.ofNat (87+d)
def JI (base:Nat):Nat->Nat->Bs
 | 0,_=>[]
 | f+1,n=>if n<base then [Zjk n] else JI base f (n / base)++[Zjk (n % base)]
def Vh (base n:Nat):Bs:=JI base (n+1) n
def ZfD (n:Int):Bs:=if n<0 then [48,120]++Vh 16 (n+18446744073709551616).toNat else Vh 10 n.toNat
def Zwa (s:Bs):Bs:=(Jb s).getD []
def Zg (sep:Bs):List Bs->Bs
 | []=>[]
 | [x]=>x
 | x::l=>x++(sep++Zg sep l)
def cmm:Bs:=[44,32]
def opE:Ex->Nat | .mk op _ _ _ _=>op
def ZsK (want:Nat) (p:Nat×Bs):Bs:=if p.1<want then [40]++(p.2++[41]) else p.2
def exA (w1 w2:Nat) (sep:Bs):List (Nat×Bs)->Bs
 | []=>[]
 | [a]=>ZsK w1 a
 | a::b::_=>ZsK w1 a++(sep++ZsK w2 b)
def exN (op:Nat) (text:Bs) (n:Int) (ps:List (Nat×Bs)):Bs :=
 if ZT op<5 then exA (ZT op) (ZT op+1) ([32]++(VK op++[32])) ps
 else if ZT op=5 then VK op++exA 5 5 [] ps
 else if VK op≠[] then VK op++([40]++(Zg cmm (ps.map Prod.snd)++[41]))
 else if op=6 then [91]++(Zg cmm (ps.map Prod.snd)++[93])
 else if op=7 then [36]++(text++(if ps.length=0 then [] else [40]++(Zg cmm (ps.map Prod.snd)++[41])))
 else if op=3 then ZfD n
 else if op=4 then Zwa text
 else if op=5 then [110,105,108]
 else if op=2 then [95]
 else text
mutual
def exT:Ex->Bs
 | .mk op text n args _=>exN op text n (Zp2 args)
def Zp2:List Ex->List (Nat×Bs)
 | []=>[]
 | e::l=>(ZT (opE e),exT e)::Zp2 l
end
def Zp3 (l:List Ex):Zp2 l=l.map fun e=>(ZT (opE e),exT e):=by induction l with | nil=>rfl | cons x l ih=>simp [Zp2,ih]
def Zcu (l:List Ex):(Zp2 l).length=l.length:=by rw [Zp3,Td]
def exW (want:Nat) (e:Ex):Bs:=ZsK want (ZT (opE e),exT e)
def ZzV (l:List Ex):List Bs:=l.map exT
def UQ (l:List Ex):(Zp2 l).map Prod.snd=ZzV l:=by rw [Zp3,List.map_map];rfl
def argT (fr fin:Bs) (l:List Ex):Bs:=fr++(Zg cmm (ZzV l)++fin)
def Zwb (op:Nat):Bs:=if op=3 then [32,61,32] else if op=4 then [32,33,61,32] else if op=5 then [32,60,32] else if op=6 then [32,60,61,32] else if op=7 then [32,62,32] else [32,62,61,32]
def Zkh (op:Nat):Bs:=if op=9 then [99,111,117,110,116] else if op=10 then [115,117,109] else if op=11 then [109,105,110] else [109,97,120]
def ZsL (l:List Ex):Bs:=(l.map fun e=>[32]++exT e).flatten
def ZlR:List Ex->Bs
 | []=>[]
 | e::_=>exT e
mutual
def liT:Li->Bs
 | .mk op rel args body _ =>
  if op=2 then [33]++(rel++argT [40] [41] args)
  else if op=1 then rel++argT [40] [41] args
  else if op<=8 then ZlR args++(Zwb op++ZlR args.tail)
  else ZlR args++([32,61,32]++(Zkh op++(ZsL args.tail++([32,58,32,123,32]++(Zg cmm (ZrJ body)++[32,125])))))
def ZrJ:List Li->List Bs
 | []=>[]
 | e::l=>liT e::ZrJ l
end
def ZdI (l:List Li):ZrJ l=l.map liT:=by induction l with | nil=>rfl | cons x l ih=>simp [ZrJ,ih]
def ruT (r:Ru):Bs:=r.head++(argT [40] [41] r.args++((if 0<r.body.length then [32,58,45,32]++Zg cmm (ZrJ r.body) else [])++[46]))
def fiT (f:Fi):Bs:=f.name++([58,32]++f.typ)
def Vi (fr:Bs) (l:List Fi) (fin:Bs):Bs:=fr++(Zg cmm (l.map fiT)++fin)
def ZzW (l:List Bs):Bs:=if l.length=0 then [] else [60]++(Zg cmm l++[62])
def caT (c:Ca):Bs:=Vi (c.name++[32,123]) c.fields [125]
def tyT (t:Ty):Bs:=[116,121,112,101,32]++(t.name++((if t.kind=1 then [32,60,58,32]++t.base else if t.kind=2 then Vi [32,61,32,91] t.fields [93] else [32,61,32]++Zg [32,124,32] (t.cases.map caT))++[10]))
def reT (d:Re):Bs:=Vi ([100,101,99,108,32]++(d.name++[40])) d.fields [41]++((if d.inn then [32,105,110,112,117,116] else [])++((if d.out then [32,111,117,116,112,117,116] else [])++((if d.inl then [32,105,110,108,105,110,101] else [])++[10])))
def inT (i:Ini):Bs:=[105,110,105,116,32]++(i.name++([32,61,32]++(i.comp++(ZzW i.types++[10]))))
def ovT (o:Ov):Bs:=[111,118,101,114,114,105,100,101,32]++(o.rel++[10])
mutual
def unT:Un->Bs
 | .mk tys rels rules comps inits overs=>(tys.map tyT).flatten++((rels.map reT).flatten++((Zy7 comps).flatten++((inits.map inT).flatten++((overs.map ovT).flatten++(rules.map fun r=>ruT r++[10]).flatten))))
def coT:Co->Bs
 | .mk nm ps base tys u _=>[99,111,109,112,32]++(nm++(ZzW ps++((if base=[] then [] else [32,58,32]++(base++ZzW tys))++([32,123,10]++(unT u++[125,10])))))
def Zy7:List Co->List Bs
 | []=>[]
 | c::l=>coT c::Zy7 l
end
def noC:Un->Prop
 | .mk _ _ _ c i o=>c=[]/\i=[]/\o=[]
end Go.PM.Lex
end
