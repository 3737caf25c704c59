/- A part of the proof: plain logic, contracts and laws over the given program. -/
import Derived.Lib.ValidU
import Derived.Test.YtlelokbefhefcaaGreatDoorValid
import Derived.Shelf.Unicode.ValidAny
import Derived.Lib.MapLaws
import Derived.Test.YtlelokbefhefcaaGreatDoorB05
set_option linter.unusedVariables false
set_option linter.unusedSimpArgs false
set_option linter.all false
set_option maxRecDepth 100000
set_option maxHeartbeats 16000000
noncomputable section
section
noncomputable section
namespace Go.PM.Lex
open Go.Proofs
def tz (L:List Tok) (a:Int):Ts:=(L.drop a.toNat).map Tok.t0
def Zb (L:List Tok) (en:Int) (r:Nat):Int:=match L.drop (L.length - r) with
 | []=>en
 | t::_=>t.at'
structure ROK (L:List Tok) (a:Int) (ts:Ts):Prop where
 lo:0<=a
 hi:a<=L.length
 big:L.length<=1048576
 eq:tz L a=ts
def ROK.len {L:List Tok} {a:Int} {ts:Ts} (h:ROK L a ts):(ts.length:Int)=L.length - a:=by
 rw [<- h.eq];simp only [tz,Td,Tx];have:=h.lo;have:=h.hi;omega
def ROK.next {L:List Tok} {a:Int} {t:T0} {ts:Ts} (h:ROK L a (t::ts)):ROK L (a+1) ts:=by
 have hl:=h.len;have h0:=h.lo;refine ⟨oM,by simp at hl;omega,h.big,?_⟩;have:=h.eq;simp only [tz] at this |-;rw [show (a+1).toNat=a.toNat+1 by omega,<- TL,List.map_drop,this];rfl
def YA {ts:Ts} {ws:List Bs} (h:isW ts ws=true):ts≠[]:=by rintro rfl;simp [isW,hd] at h
def ZdE {ts:Ts} (h:ZE ts=true):ts≠[]:=by rintro rfl;simp [ZE,hd] at h
def ROK.tl {L:List Tok} {a:Int} {ts:Ts} (h:ROK L a ts) (hn:ts≠[]):ROK L (a+1) ts.tail:=by
 cases ts with
 | nil=>exact absurd rfl hn
 | cons t ts=>exact h.next
def ROK.get {L:List Tok} {a:Int} {t:T0} {ts:Ts} (h:ROK L a (t::ts)):∃x,L[a.toNat]?=some x/\x.t0=t/\∀en,Zb L en (ts.length+1)=x.at':=by
 have hl:=h.len;have h0:=h.lo;have h1:=h.eq;simp only [Te] at hl;have aa:a.toNat<L.length:=oM;refine ⟨L[a.toNat],Tb aa,?_,fun en=>?_⟩
 ·simp only [tz] at h1;rw [Tk aa] at h1;simp only [Tz,List.cons.injEq] at h1;exact h1.1
 unfold Zb
 rw [show L.length - (ts.length+1)=a.toNat by omega,Tk aa]
def ROK.none {L:List Tok} {a:Int} (h:ROK L a []):a=L.length:=by have:=h.len;simp at this;omega
def Us (L:List Tok) (en:Int):Zb L en 0=en:=by simp [Zb]
abbrev Pl:=Nat->Int
mutual
def ZF (pl:Pl):Ex->List D
 | .mk op text n args a=>[.int .u8 op,.str text,.int .i64 n,.sl (Ze pl args),.int .i64 (pl a)]
def Ze (pl:Pl):List Ex->List (List D)
 | []=>[]
 | e::l=>ZF pl e::Ze pl l
end
mutual
def YQ (pl:Pl):Li->List D
 | .mk op rel args body a=>[.int .u8 op,.str rel,.sl (Ze pl args),.sl (ZL pl body),.int .i64 (pl a)]
def ZL (pl:Pl):List Li->List (List D)
 | []=>[]
 | e::l=>YQ pl e::ZL pl l
end
def ZQ (pl:Pl) (r:Ru):List D:=[.str r.head,.sl (Ze pl r.args),.sl (ZL pl r.body),.int .i64 (pl r.at')]
def Zn (f:Fi):List D:=[.str f.name,.str f.typ]
def Zy (c:Ca):List D:=[.str c.name,.sl (c.fields.map Zn)]
def Zs (pl:Pl) (t:Ty):List D:=[.int .u8 t.kind,.str t.name,.str t.base,.sl (t.fields.map Zn),.sl (t.cases.map Zy),.int .i64 (pl t.at')]
def ZM (pl:Pl) (r:Re):List D:=[.str r.name,.sl (r.fields.map Zn),.bool r.inn,.bool r.out,.bool r.inl,.int .i64 (pl r.at')]
def Yh (s:Bs):List D:=[.str s]
def X0 (pl:Pl) (i:Ini):List D:=[.str i.name,.str i.comp,.sl (i.types.map Yh),.int .i64 (pl i.at')]
def X1 (pl:Pl) (o:Ov):List D:=[.str o.rel,.int .i64 (pl o.at')]
mutual
def X2 (pl:Pl):Un->List D
 | .mk tys rels rules comps inits overs=>[.sl (tys.map (Zs pl)),.sl (rels.map (ZM pl)),.sl (rules.map (ZQ pl)),.sl (ZlG pl comps),.sl (inits.map (X0 pl)),.sl (overs.map (X1 pl))]
def XK (pl:Pl):Co->List D
 | .mk name params base types u a=>[.str name,.sl (params.map Yh),.str base,.sl (types.map Yh)]++X2 pl u++[.int .i64 (pl a)]
def ZlG (pl:Pl):List Co->List (List D)
 | []=>[]
 | e::l=>XK pl e::ZlG pl l
end
def Zc (pl:Pl) (l:List Ex):Ze pl l=l.map (ZF pl):=by induction l with | nil=>rfl | cons x l ih=>simp [Ze,ih]
def Zq (pl:Pl) (l:List Li):ZL pl l=l.map (YQ pl):=by induction l with | nil=>rfl | cons x l ih=>simp [ZL,ih]
def ZdF (pl:Pl) (l:List Co):ZlG pl l=l.map (XK pl):=by induction l with | nil=>rfl | cons x l ih=>simp [ZlG,ih]
abbrev Ut (l:List D):PV:=.agg (l.map .d)
abbrev flt (L:List Tok) (en:Int) (r e:Nat):PV:=.iface 248 (.agg [.d (.int .i64 (Zb L en r)),.d (.int .i64 e)])
abbrev RK:=PEnd->Int->Int->Prop
def RKk {α:Type} (enc:α->PV) (L:List Tok) (en dp lo:Int) (x:R α) (K:RK):Prop:=match x with
 | .ok v ts'=>∀a',lo<=a'->ROK L a' ts'->K (.ret (enc v)) a' dp
 | .err r e=>∀a' dp',K (.panic (flt L en r e)) a' dp'
def Xn (body:List PV->List Tok->Int->Int->Int->Ts->RK->Prop):Zk:=fun args σ K=>match args,σ with
 | .ptr 0 0::rest,⟨[.cells t [.d (.sl rows),.d (.int .i64 a),.d (.int .i64 en),.d (.int .i64 dp)]],[],0⟩=>∃L ts,rows=Zz L/\ROK L a ts /\
   body rest L en dp a ts fun pe a' dp'=>K pe ⟨[.cells t [.d (.sl (Zz L)),.d (.int .i64 a'),.d (.int .i64 en),.d (.int .i64 dp')]],[],0⟩
 | _,_=>False
def ZpN {body:List PV->List Tok->Int->Int->Int->Ts->RK->Prop} (hb:∀rest L en dp a ts (K K':RK),(∀pe a d,K pe a d->K' pe a d)->body rest L en dp a ts K->body rest L en dp a ts K'):Zx (Xn body):=fun args σ K K' hK h=>by
 unfold Xn at h |-
 split at h
 ·obtain ⟨L,ts,h1,h2,h3⟩:=h;exact ⟨L,ts,h1,h2,hb _ _ _ _ _ _ _ _ (fun pe a d hk=>hK _ _ hk) h3⟩
 exact h.elim
def Xi:Zk:=fun args σ K=>match args,σ with
 | [.d (.str s)],⟨[],[],0⟩=>∀n:Int,(ZR s:Int)=n->K (.ret (.d (.int .u8 n))) ⟨[],[],0⟩
 | _,_=>False
def ZiM:Zk:=fun args σ K=>match args,σ with
 | [.d (.str s)],⟨[],[],0⟩=>∀b,Zbg s=b->K (.ret (.d (.bool b))) ⟨[],[],0⟩
 | _,_=>False
def ZeZ (s:Bs):Nat->List Bs->Int
 | _,[]=>-1
 | i,w::ws=>if s=w then i else ZeZ s (i+1) ws
def Zha:Zk:=fun args σ K=>match args,σ with
 | [.d (.sl rows),.d (.str s)],⟨[],[],0⟩=>∃ws:List Bs,rows=ws.map Yh/\ws.length<=1048576/\K (.ret (.d (.int .i64 (ZeZ s 0 ws)))) ⟨[],[],0⟩
 | _,_=>False
def Zbk:Zk:=fun args σ K=>match args,σ with
 | [.d (.sl rows),.d (.str s)],⟨[],[],0⟩=>∃ws:List Bs,rows=ws.map Yh/\ws.length<=1048576/\∀b,ws.contains s=b->K (.ret (.d (.bool b))) ⟨[],[],0⟩
 | _,_=>False
def Zaq:Zk:=Xn fun rest L en dp a ts K=>match rest with
 | [.d (.int .i64 n)]=>∀fin,(n=0/\K (.ret (.agg [.d (.int .u8 (hd ts).kind),.d (.str (hd ts).text),.d (.int .i64 (hd ts).n),.d (.int .i64 (Zb L en ts.length)),.d (.int .i64 fin)])) a dp) \/
   (n=1/\K (.ret (.agg [.d (.int .u8 (hd ts.tail).kind),.d (.str (hd ts.tail).text),.d (.int .i64 (hd ts.tail).n),.d (.int .i64 (Zb L en ts.tail.length)),.d (.int .i64 fin)])) a dp)
 | _=>False
def Wp:Zk:=Xn fun rest L en dp a ts K=>match rest with
 | []=>K (.ret (.d (.int .i64 (Zb L en ts.length)))) a dp
 | _=>False
def ZiN:Zk:=Xn fun rest L en dp a ts K=>match rest with
 | [.d (.sl rows)]=>∃ws:List Bs,rows=ws.map Yh/\ws.length<=1048576/\∀b,isW ts ws=b->K (.ret (.d (.bool b))) a dp
 | _=>False
def JL (p:Ts->Bool):Zk:=Xn fun rest L en dp a ts K=>match rest with
 | []=>∀b,p ts=b->K (.ret (.d (.bool b))) a dp
 | _=>False
def YU:Zk:=Xn fun rest L en dp a ts K=>match rest with
 | [.d (.int .i64 e)]=>K (.panic (.iface 248 (.agg [.d (.int .i64 (Zb L en ts.length)),.d (.int .i64 e)]))) a dp
 | _=>False
def Zkm:Zx YU:=ZpN fun rest L en dp a ts K K' hK h=>by
 split at h
 ·exact hK _ _ _ h
 exact h.elim
def XU:Zk:=Xn fun rest L en dp a ts K=>match rest with
 | [.d (.sl rows)]=>∃ws:List Bs,rows=ws.map Yh/\ws.length<=1048576/\(isW ts ws=true->ROK L (a+1) ts.tail->K (.ret (.d (.bool true))) (a+1) dp)/\(isW ts ws=false->K (.ret (.d (.bool false))) a dp)
 | _=>False
def ZlH:Zk:=Xn fun rest L en dp a ts K=>match rest with
 | [.d (.int .i64 n),.d (.int .i64 m)]=>(n=m->K (.panic (flt L en ts.length 3)) a dp)/\(n≠m->K (.ret (.tuple [])) (a+1) dp)
 | _=>False
def spR {α:Type} (enc:List Tok->Int->α->PV) (P:Ts->R α) (lo:Int):Zk:=Xn fun rest L en dp a ts K=>match rest with
 | []=>∀x,P ts=x->RKk (enc L en) L en dp (a+lo) x K
 | _=>False
def Xq:Zk:=Xn fun rest L en dp a ts K=>match rest with
 | [.d (.str w)]=>∀x,ZP w ts=x->RKk (fun _=>.tuple []) L en dp (a+1) x K
 | _=>False
abbrev Xw:Zk:=spR (fun _ _ (v:Bs)=>.d (.str v)) YO 1
end Go.PM.Lex
end
end

section
namespace Go.PM.Lex
open Go.Proofs
variable {w0:World} {nG:Nat}
def Zbl:PC w0 nG 222 Xi:=by
 refine pwe Tryz.func222 fun args σ K h=>?_
 exact mq87
def Zwy:Tbl:=[(222,Xi)]
def Zkn:PC w0 nG 166 ZiM:=by
 refine pwt (tbl:=Zwy) ⟨Zbl,trivial⟩ Tryz.func166 fun args σ K h=>?_
 unfold ZiM at h
 split at h
 ·rename_i s
  refine pwu [] 0 false ?_
  repeat' ((conv=>whnf);refine ZGg (fun hc=>?_) (fun hc=>?_))
  all_goals (conv=>whnf)
  all_goals first
   | contradiction
   | exact h _ (by subst_vars;decide)
   | skip
  intro n hn
  conv=>whnf
  refine h _ ?_;have hk:keptWords.contains s=false:=by
   have:¬s∈keptWords:=by
    simp only [keptWords,Tu,Sr,or_false,not_or]
    repeat' (first | assumption | refine ⟨by assumption,?_⟩)
   rw [Bool.eq_false_iff];intro g
   exact this (List.contains_iff_mem.1 g)
  rw [Zbg,hk,<- hn]
  by_cases h0:ZR s=0 <;> simp [h0]
 exact h.elim
def ZfN (s w:Bs) (i:Nat) (ws:List Bs):ZeZ s i (w::ws)=if s=w then (i:Int) else ZeZ s (i+1) ws:=rfl
def ZiO (s:Bs):∀(ws:List Bs) (i:Nat),(0<=ZeZ s i ws)↔ws.contains s=true
 | [],i=>by simp [ZeZ]
 | w::ws,i=>by
  rw [ZfN];split
  ·rename_i h;subst h;simp
  rename_i h;rw [ZiO s ws];simp [h]
def Znz (s:Bs) (ws:List Bs) (i:Nat) (h:i<ws.length):ZeZ s i (ws.drop i)=if s=ws[i] then (i:Int) else ZeZ s (i+1) (ws.drop (i+1)):=by
 rw [Tk h,ZfN]
def ZpO:PC w0 nG 272 Zha:=by
 refine pwe Tryz.func272 fun args σ K h=>?_
 unfold Zha at h
 split at h
 ·rename_i rows s
  obtain ⟨ws,rfl,hw,h⟩:=h;refine pwv [(2,⟨[8],[0,1,7],fun vs σ=>∃i:Nat,vs=[.d (.int .i64 i)]/\σ=⟨[],[],0⟩/\i<=ws.length/\ZeZ s 0 ws=ZeZ s i (ws.drop i),mu1 ws.length⟩)] 0 false ?_;refine ⟨⟨0,rfl,rfl,oM,rfl⟩,?_⟩;intro vs σ hI
  obtain ⟨i,rfl,rfl,hi,hx⟩:=hI;(conv=>whnf);refine ZGg (fun hc=>wN ?_) (fun hc=>wN ?_)
  ·have hc:i<ws.length:=by have hc:(i:Int)<((ws.map Yh).length:Int):=hc;rw [Td] at hc;omega
   refine ⟨Yh ws[i],oM,by simp [hc],wN ?_⟩;rw [Znz s ws i hc] at hx;refine ZGg (fun h1=>wN ?_) (fun h1=>wN ?_)
   ·rw [hx,Tj h1] at h;exact h
   rw [Tf h1] at hx;refine Zi ?_;refine ⟨⟨i+1,rfl,rfl,oM,hx⟩,?_⟩;exact lzM oM
  have hc:ws.length<=i:=by have hc:¬(i:Int)<((ws.map Yh).length:Int):=hc;rw [Td] at hc;omega
  rw [Tp hc] at hx;rw [hx] at h;exact h
 exact h.elim
def Zwz:Tbl:=[(272,Zha)]
def Zko:PC w0 nG 239 Zbk:=by
 refine pwt (tbl:=Zwz) ⟨ZpO,trivial⟩ Tryz.func239 fun args σ K h=>?_
 unfold Zbk at h
 split at h
 ·rename_i rows s
  obtain ⟨ws,rfl,hw,h⟩:=h;refine pwv [] 0 false ?_;refine ⟨ws,rfl,hw,wN ?_⟩;exact h _ (by rw [Bool.eq_iff_iff,TH,<- ZiO s ws 0])
 exact h.elim
def JM:PC w0 nG 238 Zaq:=by
 refine pwe Tryz.func238 fun args σ K h=>?_
 unfold Zaq Xn at h
 split at h
 ·rename_i t rows a en dp
  obtain ⟨L,ts,rfl,ho,h⟩:=h;split at h
  ·rename_i n
   have hl:=ho.len;have h0:=ho.lo;have h1:=ho.hi;have h2:=ho.big;have hn:n=0\/n=1:=by rcases h 0 with g | g <;> simp [g.1]
   refine pwv [] 1 false ?_;refine Zi ?_;refine ZGg (fun hc=>?_) (fun hc=>wN ?_)
   ·have hc:a+n<L.length:=by have hc:a+n<((Zz L).length:Int):=hc;rw [ZU] at hc;exact hc
    rcases hn with rfl | rfl
    ·cases ts with
     | nil=>simp at hl;omega
     | cons t0 ts =>
     obtain ⟨x,hx,rfl,hp⟩:=ho.get;(conv=>whnf);refine ⟨Zwu x,oM,by simp [Zz,hx],wN ?_⟩;have h:=h x.fin;rw [Te,hp] at h;rcases h with h | h
     ·exact h.2
     exact absurd h.1 oM
    cases ts with
    | nil=>simp at hl;omega
    | cons t1 ts =>
    cases ts with
    | nil=>simp at hl;omega
    | cons t0 ts =>
    obtain ⟨x,hx,rfl,hp⟩:=ho.next.get;(conv=>whnf);refine ⟨Zwu x,oM,by simp [Zz,hx],wN ?_⟩;have h:=h x.fin;simp only [List.tail_cons,Te,hp] at h;rcases h with h | h
    ·exact absurd h.1 oM
    exact h.2
   have hc:¬a+n<L.length:=by have hc:¬a+n<((Zz L).length:Int):=hc;rw [ZU] at hc;exact hc
   have h:=h 0;rcases hn with rfl | rfl
   ·cases ts with
    | nil => rcases h with h | h
             ·have h:=h.2;simp only [Tg,Us] at h;exact h
             exact absurd h.1 oM
    | cons t0 ts=>simp at hl;omega
   have:ts.tail=[]:=by
    cases ts with
    | nil=>rfl
    | cons t1 ts=>cases ts with
     | nil=>rfl
     | cons t0 ts=>simp at hl;omega
   rw [this] at h;rcases h with h | h
   ·exact absurd h.1 oM
   have h:=h.2;simp only [Tg,Us] at h;exact h
  exact h.elim
 exact h.elim
def ZsT:OKw w0 nG [(238,Zaq)] 196 Wp:=by
 refine pwo Tryz.func196 fun args σ K h=>?_
 unfold Wp Xn at h
 split at h
 ·rename_i rest t rows a en dp
  obtain ⟨L,ts,rfl,ho,h⟩:=h;split at h
  ·skip
   refine pwv [] 1 false ?_;refine ⟨L,ts,rfl,ho,fun fin=>Or.inl ⟨rfl,wN ?_⟩⟩;exact h
  exact h.elim
 exact h.elim
def ZDW:OKw w0 nG [(238,Zaq),(239,Zbk)] 191 ZiN:=by
 refine pwo Tryz.func191 fun args σ K h=>?_
 unfold ZiN Xn at h
 split at h
 ·rename_i rest t rows a en dp
  obtain ⟨L,ts,rfl,ho,h⟩:=h;split at h
  ·rename_i rows
   obtain ⟨ws,rfl,hw,h⟩:=h;refine pwv [] 1 false ?_;refine ⟨L,ts,rfl,ho,fun fin=>Or.inl ⟨rfl,wN ?_⟩⟩;refine ZGg (fun h1=>wN ?_) (fun h1=>wN ?_)
   ·refine ⟨ws,rfl,hw,fun b hb=>wN ?_⟩;exact h _ (by simp only [isW,hb];simp [show (hd ts).kind=1 by omega])
   refine ZGg (fun h2=>wN ?_) (fun h2=>wN ?_)
   ·refine ⟨ws,rfl,hw,fun b hb=>wN ?_⟩;exact h _ (by simp only [isW,hb];simp [show (hd ts).kind=4 by omega])
   exact h _ (by simp [isW,show ¬(hd ts).kind=1 by omega,show ¬(hd ts).kind=4 by omega])
  exact h.elim
 exact h.elim
def ZsV:OKw w0 nG [(238,Zaq),(166,ZiM)] 200 (JL ZE):=by
 refine pwo Tryz.func200 fun args σ K h=>?_
 unfold JL Xn at h
 split at h
 ·rename_i rest t rows a en dp
  obtain ⟨L,ts,rfl,ho,h⟩:=h;split at h
  ·skip
   refine pwv [] 1 false ?_;refine ⟨L,ts,rfl,ho,fun fin=>Or.inl ⟨rfl,wN ?_⟩⟩;refine ZGg (fun h1=>wN ?_) (fun h1=>wN ?_)
   ·refine ZGi (fun h2=>wN ?_) (fun h2=>wN ?_)
    ·intro b hb
     conv=>whnf
     exact h _ (by simp only [ZE,hb];rw [TX (show (hd ts).kind=1 by omega),decide_eq_false h2];simp)
    exact h _ (by simp only [ZE];rw [TX (p:=(hd ts).text=[95]) h2];simp)
   exact h _ (by simp [ZE,show ¬(hd ts).kind=1 by omega])
  exact h.elim
 exact h.elim
def ZwB:OKw w0 nG [(196,Wp)] 190 YU:=by
 refine pwo Tryz.func190 fun args σ K h=>?_
 unfold YU Xn at h
 split at h
 ·rename_i rest t rows a en dp
  obtain ⟨L,ts,rfl,ho,h⟩:=h;split at h
  ·skip
   refine pwv [] 1 false ?_;refine ⟨L,ts,rfl,ho,wN ?_⟩;exact h
  exact h.elim
 exact h.elim
def ZwD:OKw w0 nG [(191,ZiN)] 240 XU:=by
 refine pwo Tryz.func240 fun args σ K h=>?_
 unfold XU Xn at h
 split at h
 ·rename_i rest t rows a en dp
  obtain ⟨L,ts,rfl,ho,h⟩:=h;split at h
  ·rename_i rows
   obtain ⟨ws,rfl,hw,h1,h2⟩:=h;refine pwv [] 1 false ?_;refine ⟨L,ts,rfl,ho,ws,rfl,hw,fun b hb=>?_⟩
   cases b with
   | true =>
    have af:=ho.tl (YA hb);have g1:=ho.lo;have g2:=af.hi;have g3:=af.big;(conv=>whnf);refine Zi ?_;exact h1 hb af
   | false =>
   conv=>whnf
   exact h2 hb
  exact h.elim
 exact h.elim
def ZwF:OKw w0 nG [(240,XU),(190,YU)] 198 Xq:=by
 refine pwo Tryz.func198 fun args σ K h=>?_
 unfold Xq Xn at h
 split at h
 ·rename_i rest t rows a en dp
  obtain ⟨L,ts,rfl,ho,h⟩:=h;split at h
  ·rename_i w
   refine pwv [] 1 false ?_;refine ⟨L,ts,rfl,ho,[w],rfl,sM,fun hb af=>wN ?_,fun hb=>wN ?_⟩
   ·have h:=h _ rfl;rw [ZP,Tj hb] at h;exact h _ oM af
   refine ⟨L,ts,rfl,ho,wN ?_⟩;have h:=h _ rfl;rw [ZP,Tf (by rw [hb];simp)] at h;exact h _ _
  exact h.elim
 exact h.elim
def ZwH:OKw w0 nG [(190,YU)] 192 ZlH:=by
 refine pwo Tryz.func192 fun args σ K h=>?_
 unfold ZlH Xn at h
 split at h
 ·rename_i rest t rows a en dp
  obtain ⟨L,ts,rfl,ho,h⟩:=h;split at h
  ·rename_i n m
   refine pwv [] 1 false ?_;have g1:=ho.lo;have g2:=ho.hi;have g3:=ho.big;refine ZGg (fun hc=>wN ?_) (fun hc=>wN ?_)
   ·refine ⟨L,ts,rfl,ho,wN ?_⟩;exact h.1 hc
   refine Zi ?_;exact h.2 hc
  exact h.elim
 exact h.elim
def ZsX:OKw w0 nG [(200,(JL ZE)),(190,YU)] 197 Xw:=by
 refine pwo Tryz.func197 fun args σ K h=>?_
 unfold Xw spR Xn at h
 split at h
 ·rename_i rest t rows a en dp
  obtain ⟨L,ts,rfl,ho,h⟩:=h;split at h
  ·skip
   refine pwv [] 1 false ?_;have h:=h _ rfl;refine ⟨L,ts,rfl,ho,fun b hb=>?_⟩
   cases b with
   | true =>
    have af:=ho.tl (ZdE hb);have g1:=ho.lo;have g2:=af.hi;have g3:=af.big;rw [YO,Tj hb] at h;(conv=>whnf);refine Zi ?_;refine Zi ?_
    cases ts with
    | nil=>exact absurd rfl (ZdE hb)
    | cons t0 ts =>
    obtain ⟨x,hx,rfl,hp⟩:=ho.get;refine ⟨Zwu x,oM,by rw [show a+1 - 1=a by omega];simp [Zz,hx],wN ?_⟩;exact h _ oM af
   | false =>
   rw [YO,Tf (by rw [hb];simp)] at h;(conv=>whnf);exact mq79
  exact h.elim
 exact h.elim
def ZpQ:OKw w0 nG [(238,Zaq),(191,ZiN),(166,ZiM),(222,Xi)] 277 (JL ZS):=by
 refine pwo Tryz.func277 fun args σ K h=>?_
 unfold JL Xn at h
 split at h
 ·rename_i rest t rows a en dp
  obtain ⟨L,ts,rfl,ho,h⟩:=h;split at h
  ·skip
   refine pwv [] 1 false ?_;refine ⟨L,ts,rfl,ho,fun fin=>Or.inl ⟨rfl,wN ?_⟩⟩;refine ZGg (fun h1=>wN ?_) (fun h1=>wN ?_)
   ·refine ZGg (fun _=>wN ?_) (fun g=>absurd h1 g);exact h _ (by rw [ZS,Tj oM])
   refine ZGg (fun h2=>wN ?_) (fun h2=>wN ?_)
   ·exact h _ (by rw [ZS,Tj oM])
   refine ZGg (fun h3=>wN ?_) (fun h3=>wN ?_)
   ·refine ⟨L,ts,rfl,ho,[[45],[126],[40],[91],[36]],rfl,sM,fun b hb=>wN ?_⟩;exact h _ (by rw [ZS,Tf oM,Tj oM];exact hb)
   refine ZGg (fun h4=>wN ?_) (fun h4=>wN ?_)
   ·have e0:ZS ts=(!Zbg (hd ts).text || (decide ((hd ts).text=[110,105,108]) || decide (ZR (hd ts).text≠0))):=by rw [ZS,Tf oM,Tf oM,Tj oM]
    rw [e0] at h;intro b hb
    rw [hb] at h
    cases b with
    | false => conv => whnf
               exact h _ rfl
    | true =>
    conv=>whnf
    refine ZGg (fun h5=>wN ?_) (fun h5=>wN ?_)
    ·exact h _ (by rw [TX (p:=(hd ts).text=[110,105,108]) h5];rfl)
    intro n hn
    conv=>whnf
    exact h _ (by rw [decide_eq_false (p:=(hd ts).text=[110,105,108]) h5,<- hn];by_cases g:ZR (hd ts).text=0 <;> simp [g])
   exact h _ (by rw [ZS,Tf oM,Tf oM,Tf oM])
  exact h.elim
 exact h.elim
def ZsY:Zk:=Xn fun rest L en dp a ts K=>match rest with
 | []=>∀n k:Int,((Zci ts).1:Int)=n->((Zci ts).2:Int)=k->K (.ret (.tuple [.d (.int .i64 n),.d (.int .u8 k)])) a dp
 | _=>False
def ZpR:OKw w0 nG [(238,Zaq)] 317 ZsY:=by
 refine pwo Tryz.func317 fun args σ K h=>?_
 unfold ZsY Xn at h
 split at h
 ·rename_i rest t rows a en dp
  obtain ⟨L,ts,rfl,ho,h⟩:=h;split at h
  ·skip
   refine pwv [] 1 false ?_;refine ⟨L,ts,rfl,ho,fun fin=>Or.inl ⟨rfl,wN ?_⟩⟩;refine ZGi (fun h1=>wN ?_) (fun h1=>?_)
   ·refine ZGi (fun h2=>wN ?_) (fun h2=>?_)
    ·have e0:Zci ts=(0,0):=by rw [Zci,Tj oM]
     exact h _ _ (by rw [e0];rfl) (by rw [e0];rfl)
    have hn:¬((hd ts).kind≠1/\(hd ts).kind≠4):=by omega
    clear h1 h2
    exact mq115
   have hn:¬((hd ts).kind≠1/\(hd ts).kind≠4):=by omega
   clear h1
   exact mq115
  exact h.elim
 exact h.elim
def ZpS (body:List PV->List Tok->Int->Int->Int->Ts->RK->Prop):Zk:=fun args σ K=>match args,σ with
 | .ptr 0 0::rest,⟨[.cells t0 [.ptr 1 0],.cells t [.d (.sl rows),.d (.int .i64 a),.d (.int .i64 en),.d (.int .i64 dp)]],[],0⟩=>∃L ts,rows=Zz L/\ROK L a ts /\
   body rest L en dp a ts fun pe a' dp'=>K pe ⟨[.cells t0 [.ptr 1 0],.cells t [.d (.sl (Zz L)),.d (.int .i64 a'),.d (.int .i64 en),.d (.int .i64 dp')]],[],0⟩
 | _,_=>False
def ZAx {α:Type} (enc:List Tok->Int->α->PV) (P:Ts->R α) (lo:Int):Zk:=ZpS fun rest L en dp a ts K=>match rest with
 | []=>∀x,P ts=x->RKk (enc L en) L en dp (a+lo) x K
 | _=>False
def ZlI (p:Ts->Bool):Zk:=ZpS fun rest L en dp a ts K=>match rest with
 | []=>∀b,p ts=b->K (.ret (.d (.bool b))) a dp
 | _=>False
def ZjE {α:Type} (enc:List Tok->Int->α->PV) (P:Ts->R α) (lo:Int) (d:Nat):Zk:=Xn fun rest L en dp a ts K=>match rest with
 | []=>(dp=64 - (d:Int)/\0<=dp)/\∀x,P ts=x->RKk (enc L en) L en dp (a+lo) x K
 | _=>False
def Zv {α β:Type} (f:α->β) (l:List α) (x:α):l.map f++[f x]=(l++[x]).map f:=sM
def Uu {α : Type} (sign : Bs) (ce : Nat) (st : Ts -> Bool) (one : Ts -> R α) (f : Nat) (l : List α) (ts : Ts) : Wm sign ce st one (f + 1) l ts = if st ts = true /\ l.length = ce then .err ts.length 3
      else (one ts).bind fun x ts=>if isW ts [sign]=true then Wm sign ce st one f (l++[x]) ts.tail else .ok (l++[x]) ts:=rfl
def JN:Zk:=fun args σ K=>match args,σ with
 | [.ptr 0 0,.d (.str sg),.d (.int .i64 m),.func g1 [.ptr 0 0] [],.func g2 [] [.ptr 1 0]],⟨[.cells t [.d (.sl rows),.d (.int .i64 a),.d (.int .i64 en),.d (.int .i64 dp)],.cells t0 [.ptr 0 0]],[],0⟩ =>
   (sg=[44]/\m=12/\g1=200/\g2=274)/\∃L ts,rows=Zz L/\ROK L a ts/\∀x,XM [44] 12 ZE Va ts=x ->
    RKk (fun (l:List Fi)=>.d (.sl (l.map (Zn)))) L en dp a x fun pe a' dp'=>K pe ⟨[.cells t [.d (.sl (Zz L)),.d (.int .i64 a'),.d (.int .i64 en),.d (.int .i64 dp')],.cells t0 [.ptr 0 0]],[],0⟩
 | _,_=>False
def ZiQ:OKw w0 nG ([(200,(JL ZE)),(190,YU),(274,(ZAx (fun _ _ (v:Fi)=>Ut (Zn v)) Va 1)),(240,XU)]) 273 (JN):=by
 refine pwo Tryz.func273 fun args σ K h=>?_
 unfold JN at h
 split at h
 ·rename_i sg m g1 g2 t rows a en dp t0
  obtain ⟨⟨rfl,rfl,rfl,rfl⟩,L,ts,rfl,ho,h⟩:=h;have h:=h _ rfl;have hl:=ho.len;have dj:=ho.big;have ld:=ho.lo;refine pwu [(2,⟨[11],[0,1,2,3,4],fun vs σ=>∃(l:List Fi) (a':Int) (ts':Ts) (f:Nat),vs=[.sl 0 192 (l.map (Zn))] /\
   σ=⟨[.cells t [.d (.sl (Zz L)),.d (.int .i64 a'),.d (.int .i64 en),.d (.int .i64 dp)],.cells t0 [.ptr 0 0]],[0],1⟩/\ROK L a' ts'/\a+l.length<=a'/\ts'.length<f /\
   XM [44] 12 ZE Va ts=Wm [44] 12 ZE Va f l ts',
   fun _ σ=>match σ with | ⟨.cells _ [_,.d (.int _ i),_,_]::_,_,_⟩=>((L.length:Int) - i).toNat | _=>0⟩)] 2 false ?_
  conv=>whnf
  refine ⟨⟨[],a,ts,ts.length+1,rfl,rfl,ho,sM,oM,rfl⟩,?_⟩;intro vs σ hI
  obtain ⟨l,a1,ts1,f,rfl,rfl,ah,tu,hf,hm⟩:=hI;obtain ⟨f,rfl⟩:∃g,f=g+1:=⟨f - 1,oM⟩
  rw [Uu] at hm;have ca:=ah.len;have qh:=ah.hi;(conv=>whnf);refine ⟨L,ts1,rfl,ah,fun b hb=>?_⟩;have step:(¬(ZE ts1=true/\l.length=12))->XM [44] 12 ZE Va ts=((Va) ts1).bind fun x ts=>if isW ts [[44]]=true then Wm [44] 12 ZE Va f (l++[x]) ts.tail else .ok (l++[x]) ts:=fun g=>by rw [hm,Tf g]
  cases b with
  | false =>
   have step:=step (by rw [hb];simp);(conv=>whnf);exact mq20
  | true =>
  conv=>whnf
  refine ZGg (fun hc=>wN ?_) (fun hc=>wN ?_)
  ·have hc:l.length=12:=by
    have hc:((l.map (Zn)).length:Int)=12:=hc;rw [Td] at hc;omega
   exact mq75
  have step:=step (fun g=>hc (by show ((l.map (Zn)).length:Int)=12;rw [Td,g.2];rfl));exact mq20
 exact h.elim
def ZdG:Zk:=fun args σ K=>match args,σ with
 | [.ptr 0 0,.d (.str sg),.d (.int .i64 m),.func g1 [.ptr 0 0] [],.func g2 [.ptr 0 0] []],⟨[.cells t [.d (.sl rows),.d (.int .i64 a),.d (.int .i64 en),.d (.int .i64 dp)]],[],0⟩ =>
   (sg=[44]/\m=12/\g1=200/\g2=197)/\∃L ts,rows=Zz L/\ROK L a ts/\∀x,XM [44] 12 ZE YO ts=x ->
    RKk (fun (l:List Bs)=>.d (.sl (l.map (Yh)))) L en dp a x fun pe a' dp'=>K pe ⟨[.cells t [.d (.sl (Zz L)),.d (.int .i64 a'),.d (.int .i64 en),.d (.int .i64 dp')]],[],0⟩
 | _,_=>False
def ZnB:OKw w0 nG ([(200,(JL ZE)),(190,YU),(197,Xw),(240,XU)]) 246 (ZdG):=by
 refine pwo Tryz.func246 fun args σ K h=>?_
 unfold ZdG at h
 split at h
 ·rename_i sg m g1 g2 t rows a en dp
  obtain ⟨⟨rfl,rfl,rfl,rfl⟩,L,ts,rfl,ho,h⟩:=h;have h:=h _ rfl;have hl:=ho.len;have dj:=ho.big;have ld:=ho.lo;refine pwu [(2,⟨[11],[0,1,2,3,4],fun vs σ=>∃(l:List Bs) (a':Int) (ts':Ts) (f:Nat),vs=[.sl 0 9 (l.map (Yh))] /\
   σ=⟨[.cells t [.d (.sl (Zz L)),.d (.int .i64 a'),.d (.int .i64 en),.d (.int .i64 dp)]],[0],1⟩/\ROK L a' ts'/\a+l.length<=a'/\ts'.length<f /\
   XM [44] 12 ZE YO ts=Wm [44] 12 ZE YO f l ts',
   fun _ σ=>match σ with | ⟨.cells _ [_,.d (.int _ i),_,_]::_,_,_⟩=>((L.length:Int) - i).toNat | _=>0⟩)] 1 false ?_
  conv=>whnf
  refine ⟨⟨[],a,ts,ts.length+1,rfl,rfl,ho,sM,oM,rfl⟩,?_⟩;intro vs σ hI
  obtain ⟨l,a1,ts1,f,rfl,rfl,ah,tu,hf,hm⟩:=hI;obtain ⟨f,rfl⟩:∃g,f=g+1:=⟨f - 1,oM⟩
  rw [Uu] at hm;have ca:=ah.len;have qh:=ah.hi;(conv=>whnf);refine ⟨L,ts1,rfl,ah,fun b hb=>?_⟩;have step:(¬(ZE ts1=true/\l.length=12))->XM [44] 12 ZE YO ts=((YO) ts1).bind fun x ts=>if isW ts [[44]]=true then Wm [44] 12 ZE YO f (l++[x]) ts.tail else .ok (l++[x]) ts:=fun g=>by rw [hm,Tf g]
  cases b with
  | false =>
   have step:=step (by rw [hb];simp);(conv=>whnf);exact mq21
  | true =>
  conv=>whnf
  refine ZGg (fun hc=>wN ?_) (fun hc=>wN ?_)
  ·have hc:l.length=12:=by
    have hc:((l.map (Yh)).length:Int)=12:=hc;rw [Td] at hc;omega
   exact mq75
  have step:=step (fun g=>hc (by show ((l.map (Yh)).length:Int)=12;rw [Td,g.2];rfl));exact mq21
 exact h.elim
def Zbm:Zk:=fun args σ K=>match args,σ with
 | [.ptr 0 0,.d (.str sg),.d (.int .i64 m),.func g1 [.ptr 0 0] [],.func g2 [] [.ptr 1 0]],⟨[.cells t [.d (.sl rows),.d (.int .i64 a),.d (.int .i64 en),.d (.int .i64 dp)],.cells t0 [.ptr 0 0]],[],0⟩ =>
   (sg=[124]/\m=64/\g1=200/\g2=243)/\∃L ts,rows=Zz L/\ROK L a ts/\∀x,XM [124] 64 ZE Zdx ts=x ->
    RKk (fun (l:List Ca)=>.d (.sl (l.map (Zy)))) L en dp a x fun pe a' dp'=>K pe ⟨[.cells t [.d (.sl (Zz L)),.d (.int .i64 a'),.d (.int .i64 en),.d (.int .i64 dp')],.cells t0 [.ptr 0 0]],[],0⟩
 | _,_=>False
def Zkq:OKw w0 nG ([(200,(JL ZE)),(190,YU),(243,(ZAx (fun _ _ (v:Ca)=>Ut (Zy v)) Zdx 1)),(240,XU)]) 242 (Zbm):=by
 refine pwo Tryz.func242 fun args σ K h=>?_
 unfold Zbm at h
 split at h
 ·rename_i sg m g1 g2 t rows a en dp t0
  obtain ⟨⟨rfl,rfl,rfl,rfl⟩,L,ts,rfl,ho,h⟩:=h;have h:=h _ rfl;have hl:=ho.len;have dj:=ho.big;have ld:=ho.lo;refine pwu [(2,⟨[11],[0,1,2,3,4],fun vs σ=>∃(l:List Ca) (a':Int) (ts':Ts) (f:Nat),vs=[.sl 0 151 (l.map (Zy))] /\
   σ=⟨[.cells t [.d (.sl (Zz L)),.d (.int .i64 a'),.d (.int .i64 en),.d (.int .i64 dp)],.cells t0 [.ptr 0 0]],[0],1⟩/\ROK L a' ts'/\a+l.length<=a'/\ts'.length<f /\
   XM [124] 64 ZE Zdx ts=Wm [124] 64 ZE Zdx f l ts',
   fun _ σ=>match σ with | ⟨.cells _ [_,.d (.int _ i),_,_]::_,_,_⟩=>((L.length:Int) - i).toNat | _=>0⟩)] 2 false ?_
  conv=>whnf
  refine ⟨⟨[],a,ts,ts.length+1,rfl,rfl,ho,sM,oM,rfl⟩,?_⟩;intro vs σ hI
  obtain ⟨l,a1,ts1,f,rfl,rfl,ah,tu,hf,hm⟩:=hI;obtain ⟨f,rfl⟩:∃g,f=g+1:=⟨f - 1,oM⟩
  rw [Uu] at hm;have ca:=ah.len;have qh:=ah.hi;(conv=>whnf);refine ⟨L,ts1,rfl,ah,fun b hb=>?_⟩;have step:(¬(ZE ts1=true/\l.length=64))->XM [124] 64 ZE Zdx ts=((Zdx) ts1).bind fun x ts=>if isW ts [[124]]=true then Wm [124] 64 ZE Zdx f (l++[x]) ts.tail else .ok (l++[x]) ts:=fun g=>by rw [hm,Tf g]
  cases b with
  | false =>
   have step:=step (by rw [hb];simp);(conv=>whnf);exact mq19
  | true =>
  conv=>whnf
  refine ZGg (fun hc=>wN ?_) (fun hc=>wN ?_)
  ·have hc:l.length=64:=by
    have hc:((l.map (Zy)).length:Int)=64:=hc;rw [Td] at hc;omega
   exact mq75
  have step:=step (fun g=>hc (by show ((l.map (Zy)).length:Int)=64;rw [Td,g.2];rfl));exact mq19
 exact h.elim
def Zar (d:Nat):Zk:=fun args σ K=>match args,σ with
 | [.ptr 0 0,.d (.str sg),.d (.int .i64 m),.func g1 [.ptr 0 0] [],.func g2 [.ptr 0 0] []],⟨[.cells t [.d (.sl rows),.d (.int .i64 a),.d (.int .i64 en),.d (.int .i64 dp)]],[],0⟩ =>
   (sg=[44]/\m=12/\g1=277/\g2=278/\(dp=64 - (d:Int)/\0<=dp))/\∃L ts,rows=Zz L/\ROK L a ts/\∀x,XM [44] 12 ZS (Zbi d) ts=x ->
    RKk (fun (l:List Ex)=>.d (.sl (l.map (ZF (Zb L en))))) L en dp a x fun pe a' dp'=>K pe ⟨[.cells t [.d (.sl (Zz L)),.d (.int .i64 a'),.d (.int .i64 en),.d (.int .i64 dp')]],[],0⟩
 | _,_=>False
def ZpU (d:Nat):OKw w0 nG [(277,(JL ZS)),(190,YU),(278,(ZjE (fun L en (v:Ex)=>Ut (ZF (Zb L en) v)) (Zbi d) 0 d)),(240,XU)] 276 (Zar d):=by
 refine pwo Tryz.func276 fun args σ K h=>?_
 unfold Zar at h
 split at h
 ·rename_i sg m g1 g2 t rows a en dp
  obtain ⟨⟨rfl,rfl,rfl,rfl,fp⟩,L,ts,rfl,ho,h⟩:=h;have h:=h _ rfl;have hl:=ho.len;have dj:=ho.big;have ld:=ho.lo;refine pwu [(2,⟨[11],[0,1,2,3,4],fun vs σ=>∃(l:List Ex) (a':Int) (ts':Ts) (f:Nat),vs=[.sl 0 25 (l.map (ZF (Zb L en)))] /\
   σ=⟨[.cells t [.d (.sl (Zz L)),.d (.int .i64 a'),.d (.int .i64 en),.d (.int .i64 dp)]],[0],1⟩/\ROK L a' ts'/\a+l.length<=a'/\ts'.length<f /\
   XM [44] 12 ZS (Zbi d) ts=Wm [44] 12 ZS (Zbi d) f l ts',
   fun _ σ=>match σ with | ⟨.cells _ [_,.d (.int _ i),_,_]::_,_,_⟩=>((L.length:Int) - i).toNat | _=>0⟩)] 1 false ?_
  conv=>whnf
  refine ⟨⟨[],a,ts,ts.length+1,rfl,rfl,ho,sM,oM,rfl⟩,?_⟩;intro vs σ hI
  obtain ⟨l,a1,ts1,f,rfl,rfl,ah,tu,hf,hm⟩:=hI;obtain ⟨f,rfl⟩:∃g,f=g+1:=⟨f - 1,oM⟩
  rw [Uu] at hm;have ca:=ah.len;have qh:=ah.hi;(conv=>whnf);refine ⟨L,ts1,rfl,ah,fun b hb=>?_⟩;have step:(¬(ZS ts1=true/\l.length=12))->XM [44] 12 ZS (Zbi d) ts=(((Zbi d)) ts1).bind fun x ts=>if isW ts [[44]]=true then Wm [44] 12 ZS (Zbi d) f (l++[x]) ts.tail else .ok (l++[x]) ts:=fun g=>by rw [hm,Tf g]
  cases b with
  | false =>
   have step:=step (by rw [hb];simp);(conv=>whnf);exact mq17
  | true =>
  conv=>whnf
  refine ZGg (fun hc=>wN ?_) (fun hc=>wN ?_)
  ·have hc:l.length=12:=by
    have hc:((l.map (ZF (Zb L en))).length:Int)=12:=hc;rw [Td] at hc;omega
   exact mq75
  have step:=step (fun g=>hc (by show ((l.map (ZF (Zb L en))).length:Int)=12;rw [Td,g.2];rfl));exact mq17
 exact h.elim
def Zhb (d:Nat):Zk:=fun args σ K=>match args,σ with
 | [.ptr 0 0,.d (.str sg),.d (.int .i64 m),.func g1 [] [.ptr 1 0],.func g2 [.ptr 0 0] []],⟨[.cells t [.d (.sl rows),.d (.int .i64 a),.d (.int .i64 en),.d (.int .i64 dp)],.cells t0 [.ptr 0 0]],[],0⟩ =>
   (sg=[44]/\m=32/\g1=280/\g2=281/\(dp=64 - (d:Int)/\0<=dp))/\∃L ts,rows=Zz L/\ROK L a ts/\∀x,XM [44] 32 Yc (Znv d (ZeX d)) ts=x ->
    RKk (fun (l:List Li)=>.d (.sl (l.map (YQ (Zb L en))))) L en dp a x fun pe a' dp'=>K pe ⟨[.cells t [.d (.sl (Zz L)),.d (.int .i64 a'),.d (.int .i64 en),.d (.int .i64 dp')],.cells t0 [.ptr 0 0]],[],0⟩
 | _,_=>False
def ZpW (d:Nat):OKw w0 nG [(280,(ZlI Yc)),(190,YU),(281,(ZjE (fun L en (v:Li)=>Ut (YQ (Zb L en) v)) (Znv d (ZeX d)) 0 d)),(240,XU)] 279 (Zhb d):=by
 refine pwo Tryz.func279 fun args σ K h=>?_
 unfold Zhb at h
 split at h
 ·rename_i sg m g1 g2 t rows a en dp t0
  obtain ⟨⟨rfl,rfl,rfl,rfl,fp⟩,L,ts,rfl,ho,h⟩:=h;have h:=h _ rfl;have hl:=ho.len;have dj:=ho.big;have ld:=ho.lo;refine pwu [(2,⟨[11],[0,1,2,3,4],fun vs σ=>∃(l:List Li) (a':Int) (ts':Ts) (f:Nat),vs=[.sl 0 30 (l.map (YQ (Zb L en)))] /\
   σ=⟨[.cells t [.d (.sl (Zz L)),.d (.int .i64 a'),.d (.int .i64 en),.d (.int .i64 dp)],.cells t0 [.ptr 0 0]],[0],1⟩/\ROK L a' ts'/\a+l.length<=a'/\ts'.length<f /\
   XM [44] 32 Yc (Znv d (ZeX d)) ts=Wm [44] 32 Yc (Znv d (ZeX d)) f l ts',
   fun _ σ=>match σ with | ⟨.cells _ [_,.d (.int _ i),_,_]::_,_,_⟩=>((L.length:Int) - i).toNat | _=>0⟩)] 2 false ?_
  conv=>whnf
  refine ⟨⟨[],a,ts,ts.length+1,rfl,rfl,ho,sM,oM,rfl⟩,?_⟩;intro vs σ hI
  obtain ⟨l,a1,ts1,f,rfl,rfl,ah,tu,hf,hm⟩:=hI;obtain ⟨f,rfl⟩:∃g,f=g+1:=⟨f - 1,oM⟩
  rw [Uu] at hm;have ca:=ah.len;have qh:=ah.hi;(conv=>whnf);refine ⟨L,ts1,rfl,ah,fun b hb=>?_⟩;have step:(¬(Yc ts1=true/\l.length=32))->XM [44] 32 Yc (Znv d (ZeX d)) ts=(((Znv d (ZeX d))) ts1).bind fun x ts=>if isW ts [[44]]=true then Wm [44] 32 Yc (Znv d (ZeX d)) f (l++[x]) ts.tail else .ok (l++[x]) ts:=fun g=>by rw [hm,Tf g]
  cases b with
  | false =>
   have step:=step (by rw [hb];simp);(conv=>whnf);exact mq16
  | true =>
  conv=>whnf
  refine ZGg (fun hc=>wN ?_) (fun hc=>wN ?_)
  ·have hc:l.length=32:=by
    have hc:((l.map (YQ (Zb L en))).length:Int)=32:=hc;rw [Td] at hc;omega
   exact mq75
  have step:=step (fun g=>hc (by show ((l.map (YQ (Zb L en))).length:Int)=32;rw [Td,g.2];rfl));exact mq16
 exact h.elim
abbrev Zhc:Zk:=ZAx (fun _ _ (v:Fi)=>Ut (Zn v)) Va 1
abbrev Zkr:Zk:=ZAx (fun _ _ (v:Ca)=>Ut (Zy v)) Zdx 1
def UR:Zk:=Xn fun rest L en dp a ts K=>match rest with
 | [.d (.str w)]=>∀x,Zbh w ts=x->RKk (fun (v:List Fi)=>.d (.sl (v.map Zn))) L en dp a x K
 | _=>False
abbrev ZdH:Zk:=spR (fun _ _ (v:List Bs)=>.d (.sl (v.map Yh))) ZfM 0
abbrev Zhd:Zk:=spR (fun L en (v:Ty)=>Ut (Zs (Zb L en) v)) ZiK 0
abbrev ZlJ:Zk:=spR (fun L en (v:Re)=>Ut (ZM (Zb L en) v)) ZpF 0
def ZpY:OKw w0 nG [(197,Xw),(198,Xq)] 274 Zhc:=by
 refine pwo Tryz.func274 fun args σ K h=>?_
 unfold Zhc ZAx ZpS at h
 split at h
 ·rename_i rest t0 t rows a en dp
  obtain ⟨L,ts,rfl,ho,h⟩:=h;split at h
  ·skip
   have h0:=ho.lo;have h1:=ho.hi;have h2:=ho.big;refine pwv [] 2 false ?_;have h:=h _ rfl;unfold Va at h
   refine ⟨L,ts,rfl,ho,fun x dm=>?_⟩;rcases x with ⟨v1,ts1⟩ | ⟨r1,e1⟩
   rotate_left
   ·exact mq52
   rw [dm,R.bind_ok] at h;intro a1 ek ah
   have bv:=ah.hi;(conv=>whnf);refine ⟨L,ts1,rfl,ah,fun x bo=>?_⟩;exact mq161
  exact h.elim
 exact h.elim
def Zp0:OKw w0 nG [(191,ZiN),(273,JN)] 241 UR:=by
 refine pwo Tryz.func241 fun args σ K h=>?_
 unfold UR Xn at h
 split at h
 ·rename_i rest t rows a en dp
  obtain ⟨L,ts,rfl,ho,h⟩:=h;split at h
  ·rename_i w
   have h0:=ho.lo;have h1:=ho.hi;have h2:=ho.big;refine pwv [] 1 false ?_;have h:=h _ rfl;unfold Zbh at h
   refine ⟨L,ts,rfl,ho,[w],rfl,sM,fun b1 cz=>?_⟩
   cases b1 with
   | true =>
    rw [Tj cz] at h;(conv=>whnf);exact h _ oM ho
   | false =>
   rw [Tf (by rw [cz];simp)] at h;(conv=>whnf);refine ⟨⟨rfl,rfl,rfl,rfl⟩,L,ts,rfl,ho,fun x bo=>?_⟩;rcases x with ⟨v2,ts2⟩ | ⟨r2,e2⟩
   rotate_left
   ·rw [bo] at h;intro a9 d9;(conv=>whnf);exact h _ _
   rw [bo] at h;intro a2 gd af
   have dq:=af.hi;(conv=>whnf);exact h _ oM af
  exact h.elim
 exact h.elim
def Zs0:OKw w0 nG [(240,XU),(246,ZdG),(198,Xq)] 199 ZdH:=by
 refine pwo Tryz.func199 fun args σ K h=>?_
 unfold ZdH spR Xn at h
 split at h
 ·rename_i rest t rows a en dp
  obtain ⟨L,ts,rfl,ho,h⟩:=h;split at h
  ·skip
   have h0:=ho.lo;have h1:=ho.hi;have h2:=ho.big;refine pwv [] 1 false ?_;have h:=h _ rfl;unfold ZfM at h
   refine ⟨L,ts,rfl,ho,[[60]],rfl,sM,fun cz ah=>wN ?_,fun cz=>wN ?_⟩
   ·rw [Tj cz] at h;have bv:=ah.hi;refine ⟨⟨rfl,rfl,rfl,rfl⟩,L,ts.tail,rfl,ah,fun x bo=>?_⟩;exact mq161
   rw [Tf (by rw [cz];simp)] at h;exact h _ oM ho
  exact h.elim
 exact h.elim
def Zs2:OKw w0 nG [(197,Xw),(198,Xq),(241,UR)] 243 Zkr:=by
 refine pwo Tryz.func243 fun args σ K h=>?_
 unfold Zkr ZAx ZpS at h
 split at h
 ·rename_i rest t0 t rows a en dp
  obtain ⟨L,ts,rfl,ho,h⟩:=h;split at h
  ·skip
   have h0:=ho.lo;have h1:=ho.hi;have h2:=ho.big;refine pwv [] 2 false ?_;have h:=h _ rfl;unfold Zdx at h
   refine ⟨L,ts,rfl,ho,fun x dm=>?_⟩;rcases x with ⟨v1,ts1⟩ | ⟨r1,e1⟩
   rotate_left
   ·exact mq52
   rw [dm,R.bind_ok] at h;intro a1 ek ah
   have bv:=ah.hi;(conv=>whnf);refine ⟨L,ts1,rfl,ah,fun x bo=>?_⟩;rcases x with ⟨v2,ts2⟩ | ⟨r2,e2⟩
   rotate_left
   ·exact mq44
   rw [bo,R.bind_ok] at h;intro a2 gd af
   have dq:=af.hi;(conv=>whnf);refine ⟨L,ts2,rfl,af,fun x fd=>?_⟩;rcases x with ⟨v3,ts3⟩ | ⟨r3,e3⟩
   rotate_left
   ·exact mq18
   rw [fd,R.bind_ok] at h;intro a3 gg ak
   have ge:=ak.hi;(conv=>whnf);refine ⟨L,ts3,rfl,ak,fun x me=>?_⟩;rcases x with ⟨v4,ts4⟩ | ⟨r4,e4⟩
   rotate_left
   ·exact mq103
   rw [me,R.bind_ok] at h;intro a4 my bz
   have rl:=bz.hi;(conv=>whnf);exact h _ oM bz
  exact h.elim
 exact h.elim
def Zs4:OKw w0 nG [(196,Wp),(197,Xw),(240,XU),(198,Xq),(241,UR),(242,Zbm)] 193 Zhd:=by
 refine pwo Tryz.func193 fun args σ K h=>?_
 unfold Zhd spR Xn at h
 split at h
 ·rename_i rest t rows a en dp
  obtain ⟨L,ts,rfl,ho,h⟩:=h;split at h
  ·skip
   have h0:=ho.lo;have h1:=ho.hi;have h2:=ho.big;refine pwv [] 1 false ?_;have h:=h _ rfl;unfold ZiK at h
   refine ⟨L,ts,rfl,ho,wN ?_⟩;refine ⟨L,ts,rfl,ho,fun x dm=>?_⟩;rcases x with ⟨v1,ts1⟩ | ⟨r1,e1⟩
   rotate_left
   ·exact mq52
   rw [dm,R.bind_ok] at h;intro a1 ek ah
   have bv:=ah.hi;(conv=>whnf);refine ⟨L,ts1,rfl,ah,[[60,58]],rfl,sM,fun ii af=>wN ?_,fun ii=>wN ?_⟩
   ·rw [Tj ii] at h;have dq:=af.hi;refine ⟨L,ts1.tail,rfl,af,fun x fd=>?_⟩;rcases x with ⟨v3,ts3⟩ | ⟨r3,e3⟩
    rotate_left
    ·exact mq18
    exact mq110
   rw [Tf (by rw [ii];simp)] at h;refine ⟨L,ts1,rfl,ah,fun x fd=>?_⟩;rcases x with ⟨v3,ts3⟩ | ⟨r3,e3⟩
   rotate_left
   ·exact mq18
   rw [fd,R.bind_ok] at h;intro a3 gg ak
   have ge:=ak.hi;(conv=>whnf);refine ⟨L,ts3,rfl,ak,[[91]],rfl,sM,fun jr bz=>wN ?_,fun jr=>wN ?_⟩
   ·rw [Tj jr] at h;have rl:=bz.hi;refine ⟨L,ts3.tail,rfl,bz,fun x jv=>?_⟩;rcases x with ⟨v5,ts5⟩ | ⟨r5,e5⟩
    rotate_left
    ·exact mq43
    rw [jv,R.bind_ok] at h;intro a5 lz cj
    have tv:=cj.hi;(conv=>whnf);refine ⟨L,ts5,rfl,cj,fun x qi=>?_⟩;rcases x with ⟨v6,ts6⟩ | ⟨r6,e6⟩
    rotate_left
    ·rw [qi,R.bind_err] at h;intro a9 d9;(conv=>whnf);exact h _ _
    rw [qi,R.bind_ok] at h;intro a6 yq et
    have hb6:=et.hi;(conv=>whnf);exact h _ oM et
   rw [Tf (by rw [jr];simp)] at h;refine ⟨⟨rfl,rfl,rfl,rfl⟩,L,ts3,rfl,ak,fun x jv=>?_⟩;rcases x with ⟨v5,ts5⟩ | ⟨r5,e5⟩
   rotate_left
   ·exact mq43
   rw [jv,R.bind_ok] at h;intro a5 lz cj
   have tv:=cj.hi;(conv=>whnf);exact h _ oM cj
  exact h.elim
 exact h.elim
def J5 (i o n:Bool):Nat:=(match i with | true=>0 | false=>1)+(match o with | true=>0 | false=>1)+(match n with | true=>0 | false=>1)
def ZnC (f : Nat) (i o n : Bool) (ts : Ts) : Y7 (f + 1) i o n ts = if i = false /\ isW ts [[105, 110, 112, 117, 116]] = true then Y7 f true o n ts.tail
      else if o=false/\isW ts [[111,117,116,112,117,116]]=true then Y7 f i true n ts.tail
      else if n=false/\isW ts [[105,110,108,105,110,101]]=true then Y7 f i o true ts.tail
      else ((i,o,n),ts):=rfl
def ZwJ:OKw w0 nG [(196,Wp),(197,Xw),(240,XU),(198,Xq),(241,UR)] 194 ZlJ:=by
 refine pwo Tryz.func194 fun args σ K h=>?_
 unfold ZlJ spR Xn at h
 split at h
 ·rename_i rest t rows a en dp
  obtain ⟨L,ts,rfl,ho,h⟩:=h;split at h
  ·skip
   have h0:=ho.lo;have h1:=ho.hi;have h2:=ho.big;refine pwv [(7,⟨[],[0,2,3],fun vs σ=>∃(nm:Bs) (l:List Fi) (a5:Int) (ts5:Ts) (i o n:Bool) (a':Int) (ts':Ts) (f:Nat),vs=[]/\σ=⟨[.cells t [.d (.sl (Zz L)),.d (.int .i64 a'),.d (.int .i64 en),.d (.int .i64 dp)],.cells 148 [.d (.str []),.sl 0 192 [],.d (.bool false),.d (.bool false),.d (.bool false),.d (.int .i64 0)],.cells 148 [.d (.str nm),.d (.sl (l.map Zn)),.d (.bool i),.d (.bool o),.d (.bool n),.d (.int .i64 (Zb L en ts.length))]],[0],1⟩/\ROK L a' ts'/\a<=a'/\J5 i o n<f/\RKk (fun (v:Re)=>Ut (ZM (Zb L en) v)) L en dp (a+0) (R.ok ⟨nm,l,(Y7 f i o n ts').1.1,(Y7 f i o n ts').1.2.1,(Y7 f i o n ts').1.2.2,ts.length⟩ (Y7 f i o n ts').2) (fun pe a' dp'=>K pe ⟨[.cells t [.d (.sl (Zz L)),.d (.int .i64 a'),.d (.int .i64 en),.d (.int .i64 dp')]],[],0⟩),fun _ σ=>match σ with | ⟨[_,_,.cells _ [_,_,.d (.bool i),.d (.bool o),.d (.bool n),_]],_,_⟩=>J5 i o n | _=>0⟩)] 1 false ?_;have h:=h _ rfl;unfold ZpF at h
   refine ⟨L,ts,rfl,ho,wN ?_⟩;refine ⟨L,ts,rfl,ho,fun x dm=>?_⟩;rcases x with ⟨v1,ts1⟩ | ⟨r1,e1⟩
   rotate_left
   ·exact mq52
   rw [dm,R.bind_ok] at h;intro a1 ek ah
   have bv:=ah.hi;(conv=>whnf);refine ⟨L,ts1,rfl,ah,fun x bo=>?_⟩;rcases x with ⟨v2,ts2⟩ | ⟨r2,e2⟩
   rotate_left
   ·exact mq44
   rw [bo,R.bind_ok] at h;intro a2 gd af
   have dq:=af.hi;(conv=>whnf);refine ⟨L,ts2,rfl,af,fun x fd=>?_⟩;rcases x with ⟨v3,ts3⟩ | ⟨r3,e3⟩
   rotate_left
   ·exact mq18
   rw [fd,R.bind_ok] at h;intro a3 gg ak
   have ge:=ak.hi;(conv=>whnf);refine ⟨L,ts3,rfl,ak,fun x me=>?_⟩;rcases x with ⟨v4,ts4⟩ | ⟨r4,e4⟩
   rotate_left
   ·exact mq103
   rw [me,R.bind_ok] at h;intro a4 my bz
   have rl:=bz.hi;(conv=>whnf);refine ⟨⟨v1,v3,a4,ts4,false,false,false,a4,ts4,4,rfl,rfl,bz,oM,dM,h⟩,?_⟩
   clear h dm bo fd me ah af ak bz bv dq ge rl ek gd gg my
   intro vs σ hI
   obtain ⟨nm,l,a5,ts5,i,o,n,a',ts',f,rfl,rfl,cx,am,hf,h⟩:=hI;obtain ⟨f,rfl⟩:∃g,f=g+1:=⟨f - 1,oM⟩
   rw [ZnC] at h;have qn:=cx.hi;(conv=>whnf)
   cases i with
   | true =>
    rw [Tf sM] at h;(conv=>whnf)
    cases o with
    | true =>
     rw [Tf sM] at h;(conv=>whnf)
     cases n with
     | true =>
      exact mq140
     | false =>
     conv=>whnf
     refine ⟨L,ts',rfl,cx,[[105,110,108,105,110,101]],rfl,sM,fun gh fe=>wN ?_,fun gh=>wN ?_⟩
     ·rw [Tj ⟨rfl,gh⟩] at h;have rm:=fe.hi;refine ⟨⟨nm,l,a5,ts5,true,true,true,a'+1,ts'.tail,f,rfl,rfl,fe,oM,?_,h⟩,?_⟩
      ·(simp only [J5] at hf |-;omega)
      show J5 true true true<J5 true true false
      (simp only [J5];omega)
     exact mq132
    | false =>
    conv=>whnf
    refine ⟨L,ts',rfl,cx,[[111,117,116,112,117,116]],rfl,sM,fun gh fe=>wN ?_,fun gh=>wN ?_⟩
    ·rw [Tj ⟨rfl,gh⟩] at h;have rm:=fe.hi;refine ⟨⟨nm,l,a5,ts5,true,true,n,a'+1,ts'.tail,f,rfl,rfl,fe,oM,?_,h⟩,?_⟩
     ·cases n <;> (simp only [J5] at hf |-;omega)
     show J5 true true n<J5 true false n
     cases n <;> (simp only [J5];omega)
    rw [Tf (by rw [gh];simp)] at h
    cases n with
    | true =>
     exact mq140
    | false =>
    conv=>whnf
    refine ⟨L,ts',rfl,cx,[[105,110,108,105,110,101]],rfl,sM,fun gh fe=>wN ?_,fun gh=>wN ?_⟩
    ·rw [Tj ⟨rfl,gh⟩] at h;have rm:=fe.hi;refine ⟨⟨nm,l,a5,ts5,true,false,true,a'+1,ts'.tail,f,rfl,rfl,fe,oM,?_,h⟩,?_⟩
     ·(simp only [J5] at hf |-;omega)
     show J5 true false true<J5 true false false
     (simp only [J5];omega)
    exact mq132
   | false =>
   conv=>whnf
   refine ⟨L,ts',rfl,cx,[[105,110,112,117,116]],rfl,sM,fun gh fe=>wN ?_,fun gh=>wN ?_⟩
   ·rw [Tj ⟨rfl,gh⟩] at h;have rm:=fe.hi;refine ⟨⟨nm,l,a5,ts5,true,o,n,a'+1,ts'.tail,f,rfl,rfl,fe,oM,?_,h⟩,?_⟩
    ·cases o <;> cases n <;> (simp only [J5] at hf |-;omega)
    show J5 true o n<J5 false o n
    cases o <;> cases n <;> (simp only [J5];omega)
   rw [Tf (by rw [gh];simp)] at h
   cases o with
   | true =>
    rw [Tf sM] at h;(conv=>whnf)
    cases n with
    | true =>
     exact mq140
    | false =>
    conv=>whnf
    refine ⟨L,ts',rfl,cx,[[105,110,108,105,110,101]],rfl,sM,fun gh fe=>wN ?_,fun gh=>wN ?_⟩
    ·rw [Tj ⟨rfl,gh⟩] at h;have rm:=fe.hi;refine ⟨⟨nm,l,a5,ts5,false,true,true,a'+1,ts'.tail,f,rfl,rfl,fe,oM,?_,h⟩,?_⟩
     ·(simp only [J5] at hf |-;omega)
     show J5 false true true<J5 false true false
     (simp only [J5];omega)
    exact mq132
   | false =>
   conv=>whnf
   refine ⟨L,ts',rfl,cx,[[111,117,116,112,117,116]],rfl,sM,fun gh fe=>wN ?_,fun gh=>wN ?_⟩
   ·rw [Tj ⟨rfl,gh⟩] at h;have rm:=fe.hi;refine ⟨⟨nm,l,a5,ts5,false,true,n,a'+1,ts'.tail,f,rfl,rfl,fe,oM,?_,h⟩,?_⟩
    ·cases n <;> (simp only [J5] at hf |-;omega)
    show J5 false true n<J5 false false n
    cases n <;> (simp only [J5];omega)
   rw [Tf (by rw [gh];simp)] at h
   cases n with
   | true =>
    exact mq140
   | false =>
   conv=>whnf
   refine ⟨L,ts',rfl,cx,[[105,110,108,105,110,101]],rfl,sM,fun gh fe=>wN ?_,fun gh=>wN ?_⟩
   ·rw [Tj ⟨rfl,gh⟩] at h;have rm:=fe.hi;refine ⟨⟨nm,l,a5,ts5,false,false,true,a'+1,ts'.tail,f,rfl,rfl,fe,oM,?_,h⟩,?_⟩
    ·(simp only [J5] at hf |-;omega)
    show J5 false false true<J5 false false false
    (simp only [J5];omega)
   exact mq132
  exact h.elim
 exact h.elim
def ZlK (fn:Func) (tb:Tbl):Zk:=fun args σ K=>∃K0:PEnd->St->Prop,(∀e σ,K0 e σ->K e σ)/\args.length<=fn.ntmps/\WF (ctx VU tb (Zg [])) fn σ.bx.length false args σ K0
def Zp1 (fn:Func) (tb:Tbl):Zx (ZlK fn tb):=fun args σ K K' hK ⟨K0,h1,h2⟩=>⟨K0,fun e σ h=>hK _ _ (h1 e σ h),h2⟩
def ZA5 (fn:Func) (unr:Nat->Nat) (tb:Tbl):Zk:=fun args σ K=>∃K0:PEnd->St->Prop,(∀e σ,K0 e σ->K e σ)/\args.length<=fn.ntmps/\WF (ZDE VU tb (Zg []) unr (ZC [])) fn σ.bx.length false args σ K0
def _root_.Go.PM.PCalls.closed {G:GE} {g:FuncId} {sp:Zk} (h:PCalls G g sp):PCalls G g (fun args σ K=>∃K0:PEnd->St->Prop,(∀e σ,K0 e σ->K e σ)/\sp args σ K0):=⟨h.enters,fun args σ K ⟨K0,hK,hs⟩ n e w vs hS ha =>
 (h.calls args σ K0 hs n e w vs hS ha).mono fun en w' ⟨pe,σ',e',hk,hr⟩=>⟨pe,σ',e',hK _ _ hk,hr⟩⟩
def Zcj {g : FuncId} {fn : Func} {c : Code} {tb : Tbl} (ht : TO w0 nG tb) (hf : (GG w0 nG).P.funcs[g]? = some fn) (hb : fn.body = some c) (ao : (fn.name == "runtime.NumGoroutine") = false) (au : ZG fn.ntmps c = true) : PC w0 nG g (ZlK fn tb) := by
 have h:PC w0 nG g (fun args σ K=>args.length<=fn.ntmps/\WF (ctx VU tb (Zg [])) fn σ.bx.length false args σ K):=by
  refine Ziv Zr mixed ht hf hb ao au ?_;intro args σ K h
  exact ⟨Zg [],σ.bx.length,false,Tr _,h.1,h.2⟩
 exact h.closed
def ZA6 {g : FuncId} {fn : Func} {c : Code} {unr : Nat -> Nat} {tb : Tbl} (ht : TO w0 nG tb) (hf : (GG w0 nG).P.funcs[g]? = some fn) (hb : fn.body = some c) (ao : (fn.name == "runtime.NumGoroutine") = false) (au : ZG fn.ntmps c = true) : PC w0 nG g (ZA5 fn unr tb) := by
 have h:PC w0 nG g (fun args σ K=>args.length<=fn.ntmps/\WF (ZDE VU tb (Zg []) unr (ZC [])) fn σ.bx.length false args σ K):=by
  refine YV Zr mixed ht hf hb ao au ?_;intro args σ K h
  exact ⟨Zg [],unr,ZC [],σ.bx.length,false,Tr _,h.1,h.2⟩
 exact h.closed
def ZwK {α:Type} (enc:List Tok->Int->α->PV) (P:Ts->R α) (lo:Int) (d:Nat):Zk:=Xn fun rest L en dp a ts K=>match rest with
 | []=>(0<d/\dp=65 - (d:Int)/\0<=dp)/\∀x,P ts=x->RKk (enc L en) L en dp (a+lo) x K
 | _=>False
def ZdI {α:Type} {enc:List Tok->Int->α->PV} {P:Ts->R α} {lo:Int} {g:FuncId} (h:XR (GG w0 nG).P g):PC w0 nG g (ZwK enc P lo 0):=⟨h,fun args σ K hs=>by
 exfalso;unfold ZwK Xn at hs
 split at hs
 ·obtain ⟨L,ts,_,_,hs⟩:=hs;split at hs
  ·have:=hs.1.1;omega
  exact hs
 exact hs⟩
def _root_.Go.PM.PCalls.weaken1 {G:GE} {g:FuncId} {sp sp':Zk} (h:PCalls G g sp) (hw:∀args σ K,sp' args σ K->sp args σ K):PCalls G g sp':=⟨h.enters,fun args σ K hs=>h.calls args σ K (hw _ _ _ hs)⟩
def ZdJ {α:Type} {enc:List Tok->Int->α->PV} {P:Ts->R α} {lo:Int} {d:Nat} {g:FuncId} (h:PC w0 nG g (ZjE enc P lo d)):PC w0 nG g (ZwK enc P lo (d+1)):=h.weaken1 fun args σ K hs=>by
 unfold ZwK Xn at hs
 unfold ZjE Xn
 split at hs
 ·obtain ⟨L,ts,h1,h2,hs⟩:=hs;refine ⟨L,ts,h1,h2,?_⟩;split at hs
  ·exact ⟨by have:=hs.1.2;omega,hs.2⟩
  exact hs.elim
 exact hs
def Zbn:Zk:=fun args σ K=>match args,σ with
 | [.d (.str w),.ptr 0 0],⟨[.cells t0 [.ptr 1 0],.cells t [.d (.sl rows),.d (.int .i64 a),.d (.int .i64 en),.d (.int .i64 dp)]],[],0⟩=>∃L ts,rows=Zz L/\ROK L a ts /\
   (isW ts [w]=true->ROK L (a+1) ts.tail->K (.ret (.d (.bool true))) ⟨[.cells t0 [.ptr 1 0],.cells t [.d (.sl (Zz L)),.d (.int .i64 (a+1)),.d (.int .i64 en),.d (.int .i64 dp)]],[],0⟩) /\
   (isW ts [w]=false->K (.ret (.d (.bool false))) ⟨[.cells t0 [.ptr 1 0],.cells t [.d (.sl (Zz L)),.d (.int .i64 a),.d (.int .i64 en),.d (.int .i64 dp)]],[],0⟩)
 | _,_=>False
def ZlL:Tbl:=[(240,XU)]
def Zp2:OKw w0 nG ZlL 300 Zbn:=by
 refine pwo Tryz.func300 fun args σ K h=>?_
 exact mq77
def Zp3:OKw w0 nG ZlL 301 Zbn:=by
 refine pwo Tryz.func301 fun args σ K h=>?_
 exact mq77
def Zs5:Zk:=fun args σ K=>match args,σ with
 | [.asl 0 0 n,.func g [] [.ptr 1 0]],⟨[.cells tA cs,.cells t0 [.ptr 2 0],.cells t [.d (.sl rows),.d (.int .i64 a),.d (.int .i64 en),.d (.int .i64 dp)]],[],0⟩=>∃L ts ws,rows=Zz L/\ROK L a ts /\
   ((ws=relWords/\g=300)\/(ws=aggWords/\g=301))/\n=ws.length/\cs=ws.map (fun w=>PV.d (.str w)) /\
   (∀k:Nat,Zb1 ts 0 ws=some k->ROK L (a+1) ts.tail->K (.ret (.d (.int .i64 k))) ⟨[.cells tA cs,.cells t0 [.ptr 2 0],.cells t [.d (.sl (Zz L)),.d (.int .i64 (a+1)),.d (.int .i64 en),.d (.int .i64 dp)]],[],0⟩) /\
   (Zb1 ts 0 ws=none->K (.ret (.d (.int .i64 (-1)))) ⟨[.cells tA cs,.cells t0 [.ptr 2 0],.cells t [.d (.sl (Zz L)),.d (.int .i64 a),.d (.int .i64 en),.d (.int .i64 dp)]],[],0⟩)
 | _,_=>False
def Zvl:Tbl:=[(300,Zbn),(301,Zbn)]
def ZA7 (ht:TO w0 nG Zvl):PC w0 nG 206 Zs5:=by
 refine YV Zr mixed (tbl:=Zvl) ht Tryz.func206 rfl kR kR ?_;intro args σ K h
 unfold Zs5 at h
 split at h
 ·rename_i n g tA cs t0 t rows a en dp
  obtain ⟨L,ts,ws,rfl,ho,hws,rfl,rfl,h1,h2⟩:=h;refine ⟨Zg [],Ys [(2,8)],ZC [],3,false,sM,Tc rfl,?_⟩;rcases hws with ⟨rfl,rfl⟩ | ⟨rfl,rfl⟩
  ·conv=>whnf
   refine ⟨dM,dM,wN ?_⟩;refine ⟨L,ts,rfl,ho,fun hw0 af=>wN ?_,fun hw0=>wN ?_⟩
   ·exact h1 0 (by simp [Zb1,relWords, *]) af
   refine Zi ?_;refine ⟨dM,dM,wN ?_⟩;refine ⟨L,ts,rfl,ho,fun cz af=>wN ?_,fun cz=>wN ?_⟩
   ·exact h1 1 (by simp [Zb1,relWords, *]) af
   refine Zi ?_;refine ⟨dM,dM,wN ?_⟩;refine ⟨L,ts,rfl,ho,fun ii af=>wN ?_,fun ii=>wN ?_⟩
   ·exact h1 2 (by simp [Zb1,relWords, *]) af
   refine Zi ?_;refine ⟨dM,dM,wN ?_⟩;refine ⟨L,ts,rfl,ho,fun mz af=>wN ?_,fun mz=>wN ?_⟩
   ·exact h1 3 (by simp [Zb1,relWords, *]) af
   refine Zi ?_;refine ⟨dM,dM,wN ?_⟩;refine ⟨L,ts,rfl,ho,fun jr af=>wN ?_,fun jr=>wN ?_⟩
   ·exact h1 4 (by simp [Zb1,relWords, *]) af
   refine Zi ?_;refine ⟨dM,dM,wN ?_⟩;refine ⟨L,ts,rfl,ho,fun hw5 af=>wN ?_,fun hw5=>wN ?_⟩
   ·exact h1 5 (by simp [Zb1,relWords, *]) af
   refine Zi ?_;exact h2 (by simp [Zb1,relWords, *])
  conv=>whnf
  refine ⟨dM,dM,wN ?_⟩;refine ⟨L,ts,rfl,ho,fun hw0 af=>wN ?_,fun hw0=>wN ?_⟩
  ·exact h1 0 (by simp [Zb1,aggWords, *]) af
  refine Zi ?_;refine ⟨dM,dM,wN ?_⟩;refine ⟨L,ts,rfl,ho,fun cz af=>wN ?_,fun cz=>wN ?_⟩
  ·exact h1 1 (by simp [Zb1,aggWords, *]) af
  refine Zi ?_;refine ⟨dM,dM,wN ?_⟩;refine ⟨L,ts,rfl,ho,fun ii af=>wN ?_,fun ii=>wN ?_⟩
  ·exact h1 2 (by simp [Zb1,aggWords, *]) af
  refine Zi ?_;refine ⟨dM,dM,wN ?_⟩;refine ⟨L,ts,rfl,ho,fun mz af=>wN ?_,fun mz=>wN ?_⟩
  ·exact h1 3 (by simp [Zb1,aggWords, *]) af
  refine Zi ?_;exact h2 (by simp [Zb1,aggWords, *])
 exact h.elim
def Zhe:Nat->Ts->R Ex
 | 0=>fun _=>.err 0 150
 | d+1=>Xv d
def Zs6 (d:Nat):Zdz d=fun ts=>JK (Zhe d) 6 1 ts:=by cases d <;> rfl
def ZnD (d:Nat) (ts:Ts):Xv d ts=Zdy d (Zhe d) ts:=by cases d <;> rfl
def ZnE {ts:Ts} (h:ZS ts=true):ts≠[]:=by rintro rfl;simp [ZS,hd] at h
abbrev Zks (d:Nat):Zk:=ZwK (fun L en (v:Ex)=>Ut (ZF (Zb L en) v)) (Zdz d) 0 d
abbrev ZiR (d:Nat):Zk:=ZwK (fun L en (v:Ex)=>Ut (ZF (Zb L en) v)) (Zhe d) 0 d
abbrev ZfO (d:Nat):Zk:=ZjE (fun L en (v:Ex)=>Ut (ZF (Zb L en) v)) (Zbi d) 0 d
abbrev ZcE (d:Nat):Zk:=ZjE (fun L en (v:Ex)=>Ut (ZF (Zb L en) v)) (Xv d) 0 d
abbrev Zas (d:Nat):Zk:=ZjE (fun L en (v:Ex)=>Ut (ZF (Zb L en) v)) (Zan d (Zdz d)) 0 d
def ZdK (d:Nat):Zk:=Xn fun rest L en dp a ts K=>match rest with
 | [.d (.str fr),.d (.str tw)]=>((dp=64 - (d:Int)/\0<=dp)/\tw≠[])/\∀x,ZiL d (Zdz d) fr tw ts=x->RKk (fun (l:List Ex)=>.d (.sl (l.map (ZF (Zb L en))))) L en dp a x K
 | _=>False
def ZlM (d:Nat):Zk:=Xn fun rest L en dp a ts K=>match rest with
 | [.agg [.d (.int .u8 op),.d (.str []),.d (.int .i64 n),.nils e,.d (.int .i64 at')]]=>((dp=64 - (d:Int)/\0<=dp)/\n=0/\e=25)/\∃o:Nat,op=(o:Int)/\∀x,Zp d [40] [41] (Zam (Zdz d) (Wn o) []) ts=x ->
   RKk (fun (l:List Ex)=>.agg [.d (.int .u8 op),.d (.str []),.d (.int .i64 0),.d (.sl (l.map (ZF (Zb L en)))),.d (.int .i64 at')]) L en dp a x K
 | _=>False
def Vb (d:Nat):Zk:=fun args σ K=>match args,σ with
 | [.ptr 0 0,.d (.str sg),.d (.int .i64 m),.func g1 [.ptr 0 0] [],.func g2 [.ptr 0 0] []],⟨[.cells t [.d (.sl rows),.d (.int .i64 a),.d (.int .i64 en),.d (.int .i64 dp)]],[],0⟩ =>
   (sg=[44]/\m=12/\g1=277/\g2=278/\0<d/\dp=65 - (d:Int)/\0<=dp)/\∃L ts,rows=Zz L/\ROK L a ts/\∀x,XM [44] 12 ZS (Zdz d) ts=x ->
    RKk (fun (l:List Ex)=>.d (.sl (l.map (ZF (Zb L en))))) L en dp a x fun pe a' dp'=>K pe ⟨[.cells t [.d (.sl (Zz L)),.d (.int .i64 a'),.d (.int .i64 en),.d (.int .i64 dp')]],[],0⟩
 | _,_=>False
def ZlN (d:Nat):Tbl:=[(191,ZiN),(276,Vb d)]
def ZlO (d:Nat):Tbl:=[(191,ZiN),(198,Xq),(190,YU),(275,ZlK Tryz.f275 (ZlN d))]
def ZwM {d:Nat}:OKw w0 nG [(244,ZlK Tryz.f244 (ZlO d))] 247 (ZdK d):=by
 refine pwo Tryz.func247 fun args σ K h=>?_
 unfold ZdK Xn at h
 split at h
 ·rename_i rest t rows a en dp
  obtain ⟨L,ts,rfl,ho,h⟩:=h;split at h
  ·rename_i fr tw
   obtain ⟨⟨fp,vr⟩,h⟩:=h;have h0:=ho.lo;have h1:=ho.hi;have h2:=ho.big;refine pwv [] 1 false ?_;have h:=h _ rfl;unfold ZiL at h
   refine ⟨_,fun _ _ h=>h,Tc rfl,wN ?_⟩;refine ⟨L,ts,rfl,ho,[fr],rfl,sM,fun b cz=>?_⟩
   cases b with
   | false =>
    exact mq175
   | true =>
   rw [Zp,Tj cz] at h;(conv=>whnf);refine ZGg (fun hc=>wN ?_) (fun hc=>wN ?_)
   ·rw [Tj oM] at h;exact mq79
   rw [Tf oM] at h;refine ⟨L,ts,rfl,ho,fun x hx=>?_⟩;rw [ZP,Tj cz] at hx;subst hx;intro a1 ek ah
   have bv:=ah.hi;(conv=>whnf);refine Zi ?_;refine ⟨_,fun _ _ h=>h,Tc rfl,wN ?_⟩;refine ⟨L,ts.tail,rfl,ah,[tw],rfl,sM,fun b jr=>?_⟩;have fu:∀(x:R (List Ex)),(if isW ts.tail [tw]=true then R.ok [] ts.tail else XM [44] 12 ZS (Zdz d) ts.tail)=x->True:=fun _ _=>trivial
   cases b with
   | true =>
    rw [Tj jr,R.bind_ok] at h;(conv=>whnf);have af:=ah;refine ZGi (fun _=>wN ?_) (fun g=>absurd g vr);rw [Tf vr] at h;refine ⟨L,ts.tail,rfl,ah,fun x fd=>?_⟩;exact mq13
   | false =>
   rw [Tf (by rw [jr];simp)] at h;(conv=>whnf);refine ⟨⟨rfl,rfl,rfl,rfl,oM,oM,oM⟩,L,ts.tail,rfl,ah,fun x bo=>?_⟩;rcases x with ⟨v2,ts2⟩ | ⟨r2,e2⟩
   rotate_left
   ·exact mq44
   rw [bo,R.bind_ok] at h;intro a2 gd af
   have dq:=af.hi;(conv=>whnf);refine ZGi (fun _=>wN ?_) (fun g=>absurd g vr);rw [Tf vr] at h;refine ⟨L,ts2,rfl,af,fun x fd=>?_⟩;exact mq13
  exact h.elim
 exact h.elim
def Vc (ex:Ts->R Ex) (k:Nat) (l:List Ex) (ts:Ts):Zam ex (k+1) l ts=(if l=[] then .ok () ts else ZP [44] ts).bind fun _ ts=>(ex ts).bind fun e ts=>Zam ex k (l++[e]) ts:=rfl
def ZlP (d:Nat):Tbl:=[(198,Xq),(278,Zks d)]
def ZlQ (d:Nat):Tbl:=[(191,ZiN),(198,Xq),(190,YU),(346,ZA5 Tryz.f346 (Ys [(1,5)]) (ZlP d))]
def ZwO {d:Nat}:OKw w0 nG [(244,ZlK Tryz.f244 (ZlQ d))] 342 (ZlM d):=by
 refine pwo Tryz.func342 fun args σ K h=>?_
 unfold ZlM Xn at h
 split at h
 ·rename_i rest t rows a en dp
  obtain ⟨L,ts,rfl,ho,h⟩:=h;split at h
  ·rename_i op n e at'
   obtain ⟨⟨fp,rfl,rfl⟩,o,rfl,h⟩:=h;have h:=h _ rfl;have h0:=ho.lo;have h1:=ho.hi;have h2:=ho.big;refine pwv [] 1 false ?_;refine ZGg (fun dx=>?_) (fun dx=>wN ?_)
   ·obtain rfl:o=22:=by omega
    have kr:Wn 22=3:=rfl;(conv=>whnf);refine XS ?_;refine XS ?_;rw [kr] at h;refine ⟨_,fun _ _ h=>h,Tc rfl,wN ?_⟩;refine ⟨L,ts,rfl,ho,[[40]],rfl,sM,fun b cz=>?_⟩
    cases b with
    | false =>
     exact mq175
    | true =>
    rw [Zp,Tj cz] at h;(conv=>whnf);refine ZGg (fun hc=>wN ?_) (fun hc=>wN ?_)
    ·rw [Tj oM] at h;exact mq79
    rw [Tf oM] at h;refine ⟨L,ts,rfl,ho,fun x hx=>?_⟩;rw [ZP,Tj cz] at hx;subst hx;intro a1 ek ah
    have bv:=ah.hi;(conv=>whnf);refine Zi ?_;refine ⟨_,fun _ _ h=>h,Tc rfl,wN ?_⟩;rw [Vc] at h;rw [Tj rfl,R.bind_ok] at h;refine ⟨L,ts.tail,rfl,ah,⟨oM,oM,oM⟩,fun x m7=>?_⟩;rcases x with ⟨v10,ts10⟩ | ⟨r10,e10⟩
    rotate_left
    ·exact mq129
    rw [m7,R.bind_ok] at h;intro a10 rn ku
    have yu:=ku.hi;obtain ⟨v10a,v10b,v10c,v10d,v10e⟩:=v10;(conv=>whnf);refine ⟨rfl,rfl,Tc rfl,Tc rfl,wN ?_⟩
    repeat (refine ⟨rfl,?_⟩;conv=>whnf)
    refine XS ?_;rw [Vc] at h;rw [Tf sM] at h;refine ⟨L,ts10,rfl,ku,fun x jw=>?_⟩;rcases x with ⟨v11,ts11⟩ | ⟨r11,e11⟩
    rotate_left
    ·rw [jw,R.bind_err,R.bind_err] at h;intro a9 d9;(conv=>whnf);exact h _ _
    rw [jw,R.bind_ok] at h;intro a11 rp kw
    have yv:=kw.hi;(conv=>whnf);refine ⟨L,ts11,rfl,kw,⟨oM,oM,oM⟩,fun x kx=>?_⟩;rcases x with ⟨v12,ts12⟩ | ⟨r12,e12⟩
    rotate_left
    ·rw [kx,R.bind_err,R.bind_err] at h;intro a9 d9;(conv=>whnf);exact h _ _
    rw [kx,R.bind_ok] at h;intro a12 rq ky
    have yw:=ky.hi;obtain ⟨v12a,v12b,v12c,v12d,v12e⟩:=v12;(conv=>whnf);refine ⟨rfl,rfl,Tc rfl,Tc rfl,wN ?_⟩
    repeat (refine ⟨rfl,?_⟩;conv=>whnf)
    refine XS ?_;rw [Vc] at h;rw [Tf sM] at h;refine ⟨L,ts12,rfl,ky,fun x yx=>?_⟩;rcases x with ⟨v13,ts13⟩ | ⟨r13,e13⟩
    rotate_left
    ·rw [yx,R.bind_err,R.bind_err] at h;intro a9 d9;(conv=>whnf);exact h _ _
    rw [yx,R.bind_ok] at h;intro a13 aeu yy
    have ag7:=yy.hi;(conv=>whnf);refine ⟨L,ts13,rfl,yy,⟨oM,oM,oM⟩,fun x yz=>?_⟩;rcases x with ⟨v14,ts14⟩ | ⟨r14,e14⟩
    rotate_left
    ·rw [yz,R.bind_err,R.bind_err] at h;intro a9 d9;(conv=>whnf);exact h _ _
    rw [yz,R.bind_ok] at h;intro a14 aev y3
    have ag8:=y3.hi;obtain ⟨v14a,v14b,v14c,v14d,v14e⟩:=v14;(conv=>whnf);refine ⟨rfl,rfl,Tc rfl,Tc rfl,wN ?_⟩
    repeat (refine ⟨rfl,?_⟩;conv=>whnf)
    refine XS ?_;rw [Zam] at h;rw [R.bind_ok] at h;have y4:ts14=ts14:=rfl;have af:=y3;obtain ⟨ts2,oy⟩:∃t,t=ts14:=⟨_,rfl⟩
    rw [<- oy] at h af;exact mq171
   refine ZGg (fun t7=>?_) (fun t7=>wN ?_)
   ·obtain rfl:o=20:=by omega
    have kr:Wn 20=2:=rfl;(conv=>whnf);refine XS ?_;rw [kr] at h;refine ⟨_,fun _ _ h=>h,Tc rfl,wN ?_⟩;refine ⟨L,ts,rfl,ho,[[40]],rfl,sM,fun b cz=>?_⟩
    cases b with
    | false =>
     exact mq175
    | true =>
    rw [Zp,Tj cz] at h;(conv=>whnf);refine ZGg (fun hc=>wN ?_) (fun hc=>wN ?_)
    ·rw [Tj oM] at h;exact mq79
    rw [Tf oM] at h;refine ⟨L,ts,rfl,ho,fun x hx=>?_⟩;rw [ZP,Tj cz] at hx;subst hx;intro a1 ek ah
    have bv:=ah.hi;(conv=>whnf);refine Zi ?_;refine ⟨_,fun _ _ h=>h,Tc rfl,wN ?_⟩;rw [Vc] at h;rw [Tj rfl,R.bind_ok] at h;refine ⟨L,ts.tail,rfl,ah,⟨oM,oM,oM⟩,fun x m7=>?_⟩;rcases x with ⟨v10,ts10⟩ | ⟨r10,e10⟩
    rotate_left
    ·exact mq129
    rw [m7,R.bind_ok] at h;intro a10 rn ku
    have yu:=ku.hi;obtain ⟨v10a,v10b,v10c,v10d,v10e⟩:=v10;(conv=>whnf);refine ⟨rfl,rfl,Tc rfl,Tc rfl,wN ?_⟩
    repeat (refine ⟨rfl,?_⟩;conv=>whnf)
    refine XS ?_;rw [Vc] at h;rw [Tf sM] at h;refine ⟨L,ts10,rfl,ku,fun x jw=>?_⟩;rcases x with ⟨v11,ts11⟩ | ⟨r11,e11⟩
    rotate_left
    ·rw [jw,R.bind_err,R.bind_err] at h;intro a9 d9;(conv=>whnf);exact h _ _
    rw [jw,R.bind_ok] at h;intro a11 rp kw
    have yv:=kw.hi;(conv=>whnf);refine ⟨L,ts11,rfl,kw,⟨oM,oM,oM⟩,fun x kx=>?_⟩;rcases x with ⟨v12,ts12⟩ | ⟨r12,e12⟩
    rotate_left
    ·rw [kx,R.bind_err,R.bind_err] at h;intro a9 d9;(conv=>whnf);exact h _ _
    rw [kx,R.bind_ok] at h;intro a12 rq ky
    have yw:=ky.hi;obtain ⟨v12a,v12b,v12c,v12d,v12e⟩:=v12;(conv=>whnf);refine ⟨rfl,rfl,Tc rfl,Tc rfl,wN ?_⟩
    repeat (refine ⟨rfl,?_⟩;conv=>whnf)
    refine XS ?_;rw [Zam] at h;rw [R.bind_ok] at h;have y4:ts12=ts12:=rfl;have af:=ky;obtain ⟨ts2,oy⟩:∃t,t=ts12:=⟨_,rfl⟩
    rw [<- oy] at h af;exact mq171
   have kr:Wn o=1:=by rw [Wn,Tf oM,Tf oM]
   rw [kr] at h;refine ⟨_,fun _ _ h=>h,Tc rfl,wN ?_⟩;refine ⟨L,ts,rfl,ho,[[40]],rfl,sM,fun b cz=>?_⟩
   cases b with
   | false =>
    exact mq175
   | true =>
   rw [Zp,Tj cz] at h;(conv=>whnf);refine ZGg (fun hc=>wN ?_) (fun hc=>wN ?_)
   ·rw [Tj oM] at h;exact mq79
   rw [Tf oM] at h;refine ⟨L,ts,rfl,ho,fun x hx=>?_⟩;rw [ZP,Tj cz] at hx;subst hx;intro a1 ek ah
   have bv:=ah.hi;(conv=>whnf);refine Zi ?_;refine ⟨_,fun _ _ h=>h,Tc rfl,wN ?_⟩;rw [Vc] at h;rw [Tj rfl,R.bind_ok] at h;refine ⟨L,ts.tail,rfl,ah,⟨oM,oM,oM⟩,fun x m7=>?_⟩;rcases x with ⟨v10,ts10⟩ | ⟨r10,e10⟩
   rotate_left
   ·exact mq129
   rw [m7,R.bind_ok] at h;intro a10 rn ku
   have yu:=ku.hi;obtain ⟨v10a,v10b,v10c,v10d,v10e⟩:=v10;(conv=>whnf);refine ⟨rfl,rfl,Tc rfl,Tc rfl,wN ?_⟩
   repeat (refine ⟨rfl,?_⟩;conv=>whnf)
   refine XS ?_;rw [Zam] at h;rw [R.bind_ok] at h;have y4:ts10=ts10:=rfl;have af:=ku;obtain ⟨ts2,oy⟩:∃t,t=ts10:=⟨_,rfl⟩
   rw [<- oy] at h af;exact mq171
  exact h.elim
 exact h.elim
def ZlR (d:Nat):Tbl:=[(278,Zks d)]
def ZlS (d:Nat):Tbl:=[(191,ZiN),(198,Xq),(190,YU),(341,ZlK Tryz.f341 (ZlR d))]
def Zp4 (d:Nat):Tbl:=[(277,JL ZS),(190,YU),(238,Zaq),(244,ZlK Tryz.f244 (ZlS d)),(247,ZdK d),(197,Xw),(191,ZiN),(222,Xi),(342,ZlM d)]
def ZnF {d:Nat} (ht:TO w0 nG (Zp4 d)):PC w0 nG 330 (Zas d):=by
 refine Zdp Zr mixed (tbl:=Zp4 d) ht Tryz.func330 rfl kR kR ?_;intro args σ K h
 unfold Zas ZjE Xn at h
 split at h
 ·rename_i rest t rows a en dp
  obtain ⟨L,ts,rfl,ho,h⟩:=h;split at h
  ·obtain ⟨fp,h⟩:=h;have h0:=ho.lo;have h1:=ho.hi;have h2:=ho.big;refine ⟨Zg [],Ys [],ZC [],ZC [],ZC [342],1,false,sM,Tc rfl,wN ?_⟩;have h:=h _ rfl;refine ⟨L,ts,rfl,ho,fun b hst=>?_⟩
   cases b with
   | false =>
    rw [Zan,Tj hst] at h;(conv=>whnf);exact mq79
   | true =>
   rw [Zan,Tf (by rw [hst];simp)] at h;have we:=ho.tl (ZnE hst);have hbt:=we.hi;(conv=>whnf);refine ⟨L,ts,rfl,ho,fun fin=>Or.inl ⟨rfl,wN ?_⟩⟩;refine ZGg (fun hc=>wN ?_) (fun hc=>wN ?_)
   ·rw [Tj (show (hd ts).kind=2 by omega)] at h;exact mq123
   rw [Tf (show ¬(hd ts).kind=2 by omega)] at h;refine ZGg (fun hc=>wN ?_) (fun hc=>wN ?_)
   ·rw [Tj (show (hd ts).kind=3 by omega)] at h;exact mq123
   rw [Tf (show ¬(hd ts).kind=3 by omega)] at h;refine ZGg (fun hc=>wN ?_) (fun hc=>wN ?_)
   ·rw [Tj (show (hd ts).text=[40] from hc)] at h;refine ⟨_,fun _ _ h=>h,Tc rfl,wN ?_⟩;refine ⟨L,ts,rfl,ho,[[40]],rfl,sM,fun b cz=>?_⟩
    cases b with
    | false =>
     exact mq175
    | true =>
    rw [Zp,Tj cz] at h;(conv=>whnf);refine ZGg (fun hc=>wN ?_) (fun hc=>wN ?_)
    ·rw [Tj oM] at h;exact mq79
    rw [Tf oM] at h;refine ⟨L,ts,rfl,ho,fun x hx=>?_⟩;rw [ZP,Tj cz] at hx;subst hx;intro a1 ek ah
    have bv:=ah.hi;(conv=>whnf);refine Zi ?_;refine ⟨_,fun _ _ h=>h,Tc rfl,wN ?_⟩;refine ⟨L,ts.tail,rfl,ah,⟨oM,oM,oM⟩,fun x bo=>?_⟩;rcases x with ⟨v2,ts2⟩ | ⟨r2,e2⟩
    rotate_left
    ·exact mq44
    rw [bo,R.bind_ok] at h;intro a2 gd af
    have dq:=af.hi;obtain ⟨v2a,v2b,v2c,v2d,v2e⟩:=v2;(conv=>whnf);exact mq171
   rw [Tf (show ¬(hd ts).text=[40] from hc)] at h;refine ZGg (fun hc=>wN ?_) (fun hc=>wN ?_)
   ·rw [Tj (show (hd ts).text=[91] from hc)] at h;refine ⟨L,ts,rfl,ho,⟨fp,sM⟩,fun x dm=>?_⟩;rcases x with ⟨v1,ts1⟩ | ⟨r1,e1⟩
    rotate_left
    ·exact mq52
    rw [dm,R.bind_ok] at h;intro a1 ek ah
    have bv:=ah.hi;(conv=>whnf);rw [<- Zc];exact h _ oM ah
   rw [Tf (show ¬(hd ts).text=[91] from hc)] at h;refine ZGg (fun hc=>wN ?_) (fun hc=>wN ?_)
   ·rw [Tj (show (hd ts).text=[36] from hc)] at h;refine Zi ?_;refine ⟨L,ts.tail,rfl,we,fun x dm=>?_⟩;rcases x with ⟨v1,ts1⟩ | ⟨r1,e1⟩
    rotate_left
    ·exact mq52
    rw [dm,R.bind_ok] at h;intro a1 ek ah
    have bv:=ah.hi;(conv=>whnf);refine ⟨L,ts1,rfl,ah,[[40]],rfl,sM,fun b ii=>?_⟩
    cases b with
    | false =>
     rw [Tf (by rw [ii];simp)] at h;(conv=>whnf);exact h _ oM ah
    | true =>
    rw [Tj ii] at h;(conv=>whnf);refine ⟨L,ts1,rfl,ah,⟨fp,sM⟩,fun x fd=>?_⟩;rcases x with ⟨v3,ts3⟩ | ⟨r3,e3⟩
    rotate_left
    ·exact mq18
    exact mq139
   rw [Tf (show ¬(hd ts).text=[36] from hc)] at h;intro n hn
   conv=>whnf
   refine ZGi (fun hc=>wN ?_) (fun hc=>wN ?_)
   ·rw [Tj (show ZR (hd ts).text≠0 by omega)] at h;refine Zi ?_;intro n2 kj
    conv=>whnf
    refine ⟨L,ts.tail,rfl,we,⟨fp,rfl,rfl⟩,ZR (hd ts).text,kj.symm,fun x dm=>?_⟩;rcases x with ⟨v1,ts1⟩ | ⟨r1,e1⟩
    rotate_left
    ·exact mq52
    rw [dm,R.bind_ok] at h;intro a1 ek ah
    have bv:=ah.hi;(conv=>whnf);rw [<- kj,<- Zc];exact h _ oM ah
   rw [Tf (show ¬ZR (hd ts).text≠0 by omega)] at h;refine ZGg (fun hc=>wN ?_) (fun hc=>wN ?_)
   ·rw [Tj (show (hd ts).text=[110,105,108] from hc)] at h;refine Zi ?_;exact h _ oM we
   rw [Tf (show ¬(hd ts).text=[110,105,108] from hc)] at h;refine ZGg (fun hc=>wN ?_) (fun hc=>wN ?_)
   ·rw [Tj (show (hd ts).text=[95] from hc)] at h;refine Zi ?_;exact h _ oM we
   rw [Tf (show ¬(hd ts).text=[95] from hc)] at h;exact mq123
  exact h.elim
 exact h.elim
def ZlT (d:Nat):Tbl:=[(316,ZiR d)]
def ZlU (d:Nat):Tbl:=[(191,ZiN),(198,Xq),(190,YU),(329,ZlK Tryz.f329 (ZlT d))]
def ZlV (d:Nat):Tbl:=[(196,Wp),(191,ZiN),(244,ZlK Tryz.f244 (ZlU d)),(330,Zas d)]
def Zp5 {d:Nat} (ht:TO w0 nG (ZlV d)):PC w0 nG 316 (ZcE d):=by
 refine YV Zr mixed (tbl:=ZlV d) ht Tryz.func316 rfl kR kR ?_;intro args σ K h
 unfold ZcE ZjE Xn at h
 split at h
 ·rename_i rest t rows a en dp
  obtain ⟨L,ts,rfl,ho,h⟩:=h;split at h
  ·obtain ⟨fp,h⟩:=h;have h0:=ho.lo;have h1:=ho.hi;have h2:=ho.big;refine ⟨Zg [],Ys [(3,4)],ZC [],1,false,sM,Tc rfl,wN ?_⟩;have h:=h _ rfl;rw [ZnD,Zdy] at h;refine ⟨L,ts,rfl,ho,wN ?_⟩;refine ⟨dM,dM,wN ?_⟩;refine ⟨L,ts,rfl,ho,[[45]],rfl,sM,fun b hw8=>?_⟩
   cases b with
   | true =>
    rw [Tj hw8] at h;(conv=>whnf);refine ⟨_,fun _ _ h=>h,Tc rfl,wN ?_⟩;refine ⟨L,ts,rfl,ho,[[45]],rfl,sM,fun b cz=>?_⟩;exact mq15
   | false =>
   rw [Tf (by rw [hw8];simp)] at h;(conv=>whnf);refine XS ?_;refine ⟨dM,dM,wN ?_⟩;refine ⟨L,ts,rfl,ho,[[126]],rfl,sM,fun b gh=>?_⟩
   cases b with
   | true =>
    rw [Tj gh] at h;(conv=>whnf);refine ⟨_,fun _ _ h=>h,Tc rfl,wN ?_⟩;refine ⟨L,ts,rfl,ho,[[126]],rfl,sM,fun b cz=>?_⟩;exact mq15
   | false =>
   rw [Tf (by rw [gh];simp)] at h;(conv=>whnf);refine XS ?_;rw [show JK (Zhe d) 6 1=Zdz d from (Zs6 d).symm] at h;refine ⟨L,ts,rfl,ho,fp,fun x dm=>?_⟩;exact mq88
  exact h.elim
 exact h.elim
def ZfP (d j:Nat):Zk:=Xn fun rest L en dp a ts K=>match rest with
 | [.d (.int .i64 least)]=>((dp=64 - (d:Int)/\0<=dp)/\1<=least/\least<=6/\6<=least+(j:Int))/\∀x,JK (Xv d) j least.toNat ts=x->RKk (fun (v:Ex)=>Ut (ZF (Zb L en) v)) L en dp a x K
 | _=>False
def ZdL (d j:Nat):Zk:=Xn fun rest L en dp a ts K=>match rest with
 | [.d (.int .i64 least)]=>((dp=64 - (d:Int)/\0<=dp)/\0<j/\1<=least/\least<=6/\7<=least+(j:Int))/\∀x,JK (Xv d) (j - 1) least.toNat ts=x->RKk (fun (v:Ex)=>Ut (ZF (Zb L en) v)) L en dp a x K
 | _=>False
def Zp6 (ts:Ts):(Zci ts).1<=5/\(Zci ts).2<=255:=by
 unfold Zci
 repeat' (first | (split;decide) | split)
 all_goals decide
def ZiS (sub : Nat -> Ts -> R Ex) (least f : Nat) (e : Ex) (ts : Ts) : Zao sub least (f + 1) e ts = if (Zci ts).1 < least \/ (Zci ts).1 = 0 then .ok e ts
      else (sub ((Zci ts).1+1) ts.tail).bind fun g ts'=>Zao sub least f (.mk (Zci ts).2 [] 0 [e,g] e.at') ts':=rfl
def ZnG {sub:Nat->Ts->R Ex} {least f:Nat} {e:Ex} {ts:Ts} (h:6<=least):Zao sub least (f+1) e ts=.ok e ts:=by
 rw [ZiS,Tj];have:=(Zp6 ts).1;omega
def ZwP {ts:Ts} (h:(Zci ts).1≠0):ts≠[]:=by rintro rfl;exact h rfl
def Zs7 (sg:Ts->R Ex) (j least:Nat) (ts:Ts) (h:6<=least+j):JK sg j least ts=(sg ts).bind fun e ts=>Zao (JK sg (j - 1)) least (ts.length+1) e ts:=by
 cases j with
 | zero =>
  rw [JK]
  cases sg ts with
  | ok e ts=>rw [R.bind_ok,ZnG oM]
  | err r e=>rfl
 | succ j=>rfl
def Zp7 {d j:Nat}:OKw w0 nG [(316,ZcE d),(317,ZsY),(299,ZdL d j)] 299 (ZfP d j):=by
 refine pwo Tryz.func299 fun args σ K h=>?_
 unfold ZfP Xn at h
 split at h
 ·rename_i rest t rows a en dp
  obtain ⟨L,ts,rfl,ho,h⟩:=h;split at h
  ·rename_i least
   obtain ⟨⟨fp,ca,cy,dc⟩,h⟩:=h;have h0:=ho.lo;have h1:=ho.hi;have h2:=ho.big;refine pwv [(2,⟨[],[0,1,4,5],fun vs σ=>∃(u1:Nat) (u2:Bs) (u3:Int) (u4:List Ex) (u5:Nat) (a':Int) (ts':Ts) (f:Nat),vs=[]/\σ=⟨[.cells t [.d (.sl (Zz L)),.d (.int .i64 a'),.d (.int .i64 en),.d (.int .i64 dp)],.cells 25 [.d (.int .u8 0),.d (.str []),.d (.int .i64 0),.sl 0 25 [],.d (.int .i64 0)],.cells 25 [.d (.int .u8 u1),.d (.str u2),.d (.int .i64 u3),.d (.sl (Ze (Zb L en) u4)),.d (.int .i64 (Zb L en u5))]],[0],1⟩/\ROK L a' ts'/\a<=a'/\ts'.length<f/\RKk (fun (v:Ex)=>Ut (ZF (Zb L en) v)) L en dp a (Zao (JK (Xv d) (j - 1)) least.toNat f (.mk u1 u2 u3 u4 u5) ts') (fun pe a' dp'=>K pe ⟨[.cells t [.d (.sl (Zz L)),.d (.int .i64 a'),.d (.int .i64 en),.d (.int .i64 dp')]],[],0⟩),fun _ σ=>match σ with | ⟨.cells _ [_,.d (.int _ i),_,_]::_,_,_⟩=>((L.length:Int) - i).toNat | _=>0⟩)] 1 false ?_;have h:=h _ rfl;rw [Zs7 _ _ _ _ oM] at h;refine ⟨L,ts,rfl,ho,fp,fun x dm=>?_⟩;rcases x with ⟨v1,ts1⟩ | ⟨r1,e1⟩
   rotate_left
   ·exact mq52
   rw [dm,R.bind_ok] at h;intro a1 ek ah
   have bv:=ah.hi;obtain ⟨v1a,v1b,v1c,v1d,v1e⟩:=v1;(conv=>whnf);refine ⟨⟨v1a,v1b,v1c,v1d,v1e,a1,ts1,ts1.length+1,rfl,rfl,ah,oM,oM,h⟩,?_⟩
   clear h dm ah bv ek
   intro vs σ hI
   obtain ⟨u1,u2,u3,u4,u5,a',ts',f,rfl,rfl,cx,ac2,hf,h⟩:=hI;obtain ⟨f,rfl⟩:∃g,f=g+1:=⟨f - 1,oM⟩
   rw [ZiS] at h;have ph:=cx.hi;have rt:=cx.len;(conv=>whnf);refine ⟨L,ts',rfl,cx,fun n op hn dx=>wN ?_⟩;have ag9:=Zp6 ts';refine ZGg (fun hc=>wN ?_) (fun hc=>wN ?_)
   ·rw [Tj oM] at h;exact h _ oM cx
   refine ZGg (fun bj=>wN ?_) (fun bj=>wN ?_)
   ·rw [Tj oM] at h;exact h _ oM cx
   rw [Tf oM] at h;have af:=cx.tl (ZwP oM);have dq:=af.hi;have f9:=af.len;refine Zi ?_;refine Zi ?_;refine ⟨L,ts'.tail,rfl,af,⟨fp,oM,oM,oM,oM⟩,fun x fd=>?_⟩;rw [show (n+1).toNat=(Zci ts').1+1 by omega] at fd;rcases x with ⟨v3,ts3⟩ | ⟨r3,e3⟩
   rotate_left
   ·exact mq18
   rw [fd,R.bind_ok] at h;intro a3 gg ak
   have ge:=ak.hi;obtain ⟨v3a,v3b,v3c,v3d,v3e⟩:=v3;(conv=>whnf);have je:=ak.len;obtain rfl:op=((Zci ts').2:Int):=dx.symm;refine ⟨⟨(Zci ts').2,[],0,[.mk u1 u2 u3 u4 u5,.mk v3a v3b v3c v3d v3e],u5,a3,ts3,f,rfl,rfl,ak,oM,oM,h⟩,?_⟩;exact mq159
  exact h.elim
 exact h.elim
def ZwS {d:Nat}:OKw w0 nG [(299,ZfP d 6)] 278 (ZfO d):=by
 refine pwo Tryz.func278 fun args σ K h=>?_
 unfold ZfO ZjE Xn at h
 split at h
 ·rename_i rest t rows a en dp
  obtain ⟨L,ts,rfl,ho,h⟩:=h;split at h
  ·obtain ⟨fp,h⟩:=h;have h0:=ho.lo;have h1:=ho.hi;have h2:=ho.big;refine pwv [] 1 false ?_;have h:=h _ rfl;refine ⟨L,ts,rfl,ho,⟨fp,oM,oM,oM⟩,fun x dm=>?_⟩;rw [Zbi] at h
   change JK (Xv d) 6 1 ts=x at dm
   exact mq88
  exact h.elim
 exact h.elim
abbrev ZwT (d:Nat):Zk:=ZjE (fun L en (v:Li)=>Ut (YQ (Zb L en) v)) (Znv d (ZeX d)) 0 d
abbrev ZiT (d:Nat):Zk:=ZjE (fun L en (v:List Li)=>.d (.sl (v.map (YQ (Zb L en))))) (Znw d) 0 d
abbrev Zhf (d:Nat):Zk:=ZwK (fun L en (v:List Li)=>.d (.sl (v.map (YQ (Zb L en))))) (ZeX d) 0 d
def Zs8 (d:Nat):Znw d=XM [44] 32 Yc (Znv d (ZeX d)):=by cases d <;> rfl
def ZlW (d:Nat):Zk:=Xn fun rest L en dp a ts K=>match rest with
 | [.d (.bool b)]=>(dp=64 - (d:Int)/\0<=dp)/\∀x,ZpG d b ts=x->RKk (fun (v:Ru)=>Ut (ZQ (Zb L en) v)) L en dp (a+1) x K
 | _=>False
def JO {ts:Ts}:∀{ws:List Bs} {i k:Nat},Zb1 ts i ws=some k->i<=k/\k<i+ws.length
 | [],i,k,h=>by simp [Zb1] at h
 | w::ws,i,k,h=>by
  rw [Zb1] at h;split at h
  ·cases h;simp
  have:=JO h;simp only [Te];omega
def Zbo {ts:Ts} (h:Zb1 ts 0 relWords=none):ZdA ts=.err ts.length 150:=by rw [ZdA,h]
def ZdM {ts:Ts} {j:Nat} (h:Zb1 ts 0 relWords=some 0) (h2:Zb1 ts.tail 0 aggWords=some j):ZdA ts=.ok (9+j) ts.tail.tail:=by rw [ZdA,h];simp only [h2]
def Zhg {ts:Ts} (h:Zb1 ts 0 relWords=some 0) (h2:Zb1 ts.tail 0 aggWords=none):ZdA ts=.ok 3 ts.tail:=by rw [ZdA,h];simp only [h2]
def ZdN {ts:Ts} {k:Nat} (h:Zb1 ts 0 relWords=some (k+1)):ZdA ts=.ok (3+(k+1)) ts.tail:=by rw [ZdA,h];rfl
def Zta:OKw w0 nG [(277,(JL ZS)),(191,ZiN)] 280 (ZlI Yc):=by
 refine pwo Tryz.func280 fun args σ K h=>?_
 unfold ZlI ZpS at h
 split at h
 ·rename_i rest t0 t rows a en dp
  obtain ⟨L,ts,rfl,ho,h⟩:=h;split at h
  ·skip
   refine pwv [] 2 false ?_;refine ⟨L,ts,rfl,ho,fun b hb=>?_⟩
   cases b with
   | true =>
    conv=>whnf
    exact h _ (by rw [Yc,hb];rfl)
   | false =>
   conv=>whnf
   refine ⟨L,ts,rfl,ho,[[33]],rfl,sM,fun b hw=>wN ?_⟩;exact h _ (by rw [Yc,hb,hw];rfl)
  exact h.elim
 exact h.elim
def ZwV {d:Nat}:OKw w0 nG [(279,Zhb d)] 248 (ZiT d):=by
 refine pwo Tryz.func248 fun args σ K h=>?_
 unfold ZiT ZjE Xn at h
 split at h
 ·rename_i rest t rows a en dp
  obtain ⟨L,ts,rfl,ho,h⟩:=h;split at h
  ·obtain ⟨fp,h⟩:=h;have h0:=ho.lo;have h1:=ho.hi;have h2:=ho.big;refine pwv [] 1 false ?_;have h:=h _ rfl;rw [Zs8] at h;refine ⟨⟨rfl,rfl,rfl,rfl,fp⟩,L,ts,rfl,ho,fun x dm=>?_⟩;rcases x with ⟨v1,ts1⟩ | ⟨r1,e1⟩
   rotate_left
   ·rw [dm] at h;intro a9 d9;(conv=>whnf);exact h _ _
   rw [dm] at h;intro a1 ek ah
   have bv:=ah.hi;(conv=>whnf);exact h _ oM ah
  exact h.elim
 exact h.elim
def Zp8 (d:Nat):Tbl:=[(248,Zhf d)]
def Zp9 (d:Nat):Tbl:=[(191,ZiN),(198,Xq),(190,YU),(302,ZlK Tryz.f302 (Zp8 d))]
def Zvm (d:Nat):Tbl:=[(196,Wp),(240,XU),(238,Zaq),(200,JL ZE),(197,Xw),(247,ZdK d),(278,ZfO d),(206,Zs5),(190,YU),(198,Xq),(244,ZlK Tryz.f244 (Zp9 d))]
def ZA8 {d:Nat} (ht:TO w0 nG (Zvm d)):PC w0 nG 281 (ZwT d):=by
 refine Zdp Zr mixed (tbl:=Zvm d) ht Tryz.func281 rfl kR kR ?_;intro args σ K h
 unfold ZwT ZjE Xn at h
 split at h
 ·rename_i rest t rows a en dp
  obtain ⟨L,ts,rfl,ho,h⟩:=h;split at h
  ·obtain ⟨fp,h⟩:=h;have h0:=ho.lo;have h1:=ho.hi;have h2:=ho.big;refine ⟨Zg [],Ys [],ZC [],ZC [50],ZC [],1,false,sM,Tc rfl,wN ?_⟩;have h:=h _ rfl;rw [Znv] at h;refine ⟨L,ts,rfl,ho,wN ?_⟩;refine ⟨L,ts,rfl,ho,[[33]],rfl,sM,fun cz ah=>wN ?_,fun cz=>wN ?_⟩
   ·rw [Tj cz] at h;have bv:=ah.hi;refine ⟨L,ts.tail,rfl,ah,fun fin=>Or.inr ⟨rfl,wN ?_⟩⟩;rw [ZdB] at h;refine ⟨L,ts.tail,rfl,ah,fun x jw=>?_⟩;exact mq46
   rw [Tf (by rw [cz];simp)] at h;refine ⟨L,ts,rfl,ho,fun fin=>Or.inr ⟨rfl,wN ?_⟩⟩;refine ⟨L,ts,rfl,ho,fun b hn=>?_⟩
   cases b with
   | false =>
    rw [Tf (by rw [hn];simp)] at h;(conv=>whnf);exact mq0
   | true =>
   conv=>whnf
   refine ZGg (fun hc=>wN ?_) (fun hc=>wN ?_)
   ·refine ZGg (fun bj=>wN ?_) (fun bj=>wN ?_)
    ·rw [Tj ⟨hn,oM,bj⟩] at h;rw [ZdB] at h;refine ⟨L,ts,rfl,ho,fun x jw=>?_⟩;exact mq46
    rw [Tf (fun g=>bj g.2.2)] at h;exact mq0
   rw [Tf (fun g=>hc (by have:=g.2.1;omega))] at h;exact mq0
  exact h.elim
 exact h.elim
def ZwX {d:Nat}:OKw w0 nG [(196,Wp),(197,Xw),(247,ZdK d),(240,XU),(248,ZiT d),(198,Xq)] 201 (ZlW d):=by
 refine pwo Tryz.func201 fun args σ K h=>?_
 unfold ZlW Xn at h
 split at h
 ·rename_i rest t rows a en dp
  obtain ⟨L,ts,rfl,ho,h⟩:=h;split at h
  ·rename_i bodies
   obtain ⟨fp,h⟩:=h;have h0:=ho.lo;have h1:=ho.hi;have h2:=ho.big;refine pwv [] 1 false ?_;have h:=h _ rfl;rw [ZpG] at h;refine ⟨L,ts,rfl,ho,wN ?_⟩;refine ⟨L,ts,rfl,ho,fun x dm=>?_⟩;rcases x with ⟨v1,ts1⟩ | ⟨r1,e1⟩
   rotate_left
   ·exact mq52
   rw [dm,R.bind_ok] at h;intro a1 ek ah
   have bv:=ah.hi;(conv=>whnf);refine ⟨L,ts1,rfl,ah,⟨fp,sM⟩,fun x bo=>?_⟩;have aha:=fp;rcases x with ⟨v2,ts2⟩ | ⟨r2,e2⟩
   rotate_left
   ·exact mq44
   rw [bo,R.bind_ok] at h;intro a2 gd af
   have dq:=af.hi;(conv=>whnf)
   cases bodies with
   | false =>
    rw [Tf sM] at h;(conv=>whnf);refine ⟨L,ts2,rfl,af,fun x fd=>?_⟩;rcases x with ⟨v3,ts3⟩ | ⟨r3,e3⟩
    rotate_left
    ·exact mq18
    exact mq139
   | true =>
   conv=>whnf
   refine ⟨L,ts2,rfl,af,[[58,45]],rfl,sM,fun mz ak=>wN ?_,fun mz=>wN ?_⟩
   ·rw [Tj ⟨rfl,mz⟩] at h;have ge:=ak.hi;refine ⟨L,ts2.tail,rfl,ak,fp,fun x me=>?_⟩;rcases x with ⟨v4,ts4⟩ | ⟨r4,e4⟩
    rotate_left
    ·exact mq103
    rw [me,R.bind_ok] at h;intro a4 my bz
    have rl:=bz.hi;(conv=>whnf);refine ⟨L,ts4,rfl,bz,fun x jv=>?_⟩;rcases x with ⟨v5,ts5⟩ | ⟨r5,e5⟩
    rotate_left
    ·exact mq43
    rw [jv,R.bind_ok] at h;intro a5 lz cj
    have tv:=cj.hi;(conv=>whnf);rw [<- Zc,<- Zq];exact h _ oM cj
   rw [Tf (by rw [mz];simp)] at h;refine ⟨L,ts2,rfl,af,fun x me=>?_⟩;rcases x with ⟨v4,ts4⟩ | ⟨r4,e4⟩
   rotate_left
   ·exact mq103
   rw [me,R.bind_ok] at h;intro a4 my bz
   have rl:=bz.hi;(conv=>whnf);rw [<- Zc];exact h _ oM bz
  exact h.elim
 exact h.elim
def ZnH:Nat->Ts->R Un
 | 0=>fun _=>.err 0 150
 | d+1=>ZpK d
def Ztb (d:Nat):ZpK d=Znx true d (ZnH d):=by cases d <;> rfl
def ZwY (b:Bool) (d:Nat) (ts:Ts):R Un:=Znx b d (ZnH d) ts
def ZdO (d:Nat):Zk:=Xn fun rest L en dp a ts K=>match rest with
 | [.d (.bool b)]=>(dp=64 - (d:Int)/\0<=dp)/\∀x,ZwY b d ts=x->RKk (fun (v:Un)=>Ut (X2 (Zb L en) v)) L en dp a x K
 | _=>False
def Uv (d:Nat):Zk:=Xn fun rest L en dp a ts K=>match rest with
 | [.d (.bool b)]=>(0<d/\dp=65 - (d:Int)/\0<=dp/\b=true)/\∀x,ZnH d ts=x->RKk (fun (v:Un)=>Ut (X2 (Zb L en) v)) L en dp a x K
 | _=>False
abbrev ZlX (d:Nat):Zk:=ZjE (fun L en (v:Co)=>Ut (XK (Zb L en) v)) (ZpH d (ZnH d)) 0 d
def ZlY (d:Nat):Tbl:=[(132,Uv d)]
def ZlZ (d:Nat):Tbl:=[(191,ZiN),(198,Xq),(190,YU),(245,ZlK Tryz.f245 (ZlY d))]
def Zw0 {d:Nat}:OKw w0 nG [(196,Wp),(197,Xw),(199,ZdH),(240,XU),(244,ZlK Tryz.f244 (ZlZ d))] 195 (ZlX d):=by
 refine pwo Tryz.func195 fun args σ K h=>?_
 unfold ZlX ZjE Xn at h
 split at h
 ·rename_i rest t rows a en dp
  obtain ⟨L,ts,rfl,ho,h⟩:=h;split at h
  ·obtain ⟨fp,h⟩:=h;have h0:=ho.lo;have h1:=ho.hi;have h2:=ho.big;refine pwv [] 1 false ?_;have h:=h _ rfl;rw [ZpH] at h;refine ⟨L,ts,rfl,ho,wN ?_⟩;refine ⟨L,ts,rfl,ho,fun x dm=>?_⟩;rcases x with ⟨v1,ts1⟩ | ⟨r1,e1⟩
   rotate_left
   ·exact mq52
   rw [dm,R.bind_ok] at h;intro a1 ek ah
   have bv:=ah.hi;(conv=>whnf);refine ⟨L,ts1,rfl,ah,fun x bo=>?_⟩;rcases x with ⟨v2,ts2⟩ | ⟨r2,e2⟩
   rotate_left
   ·exact mq44
   rw [bo,R.bind_ok] at h;intro a2 gd af
   have dq:=af.hi;(conv=>whnf);refine ⟨L,ts2,rfl,af,[[58]],rfl,sM,fun mz ak=>wN ?_,fun mz=>wN ?_⟩
   ·rw [Tj mz] at h;have ge:=ak.hi;refine ⟨L,ts2.tail,rfl,ak,fun x me=>?_⟩;rcases x with ⟨v4,ts4⟩ | ⟨r4,e4⟩
    rotate_left
    ·exact mq103
    rw [me,R.bind_ok] at h;intro a4 my bz
    have rl:=bz.hi;(conv=>whnf);refine ⟨L,ts4,rfl,bz,fun x jv=>?_⟩;rcases x with ⟨v5,ts5⟩ | ⟨r5,e5⟩
    rotate_left
    ·exact mq43
    rw [jv,R.bind_ok] at h;intro a5 lz cj
    have tv:=cj.hi;(conv=>whnf);refine ⟨_,fun _ _ h=>h,Tc rfl,wN ?_⟩;refine ⟨L,ts5,rfl,cj,[[123]],rfl,sM,fun b mf=>?_⟩
    cases b with
    | false =>
     rw [Zp,Tf (by rw [mf];simp),R.bind_err] at h;(conv=>whnf);refine ⟨L,ts5,rfl,cj,fun x hx=>?_⟩;rw [ZP,Tf (by rw [mf];simp)] at hx;exact mq168
    | true =>
    rw [Zp,Tj mf] at h;(conv=>whnf);refine ZGg (fun hc=>wN ?_) (fun hc=>wN ?_)
    ·rw [Tj oM,R.bind_err] at h;refine ⟨L,ts5,rfl,cj,wN ?_⟩;exact h _ _
    rw [Tf oM] at h;refine ⟨L,ts5,rfl,cj,fun x hx=>?_⟩;rw [ZP,Tj mf] at hx;subst hx;intro a7 y5 ik
    have hb7:=ik.hi;(conv=>whnf);refine Zi ?_;refine ⟨_,fun _ _ h=>h,Tc rfl,wN ?_⟩;refine ⟨L,ts5.tail,rfl,ik,⟨oM,oM,oM,rfl⟩,fun x wg=>?_⟩;exact mq41
   rw [Tf (by rw [mz];simp)] at h;refine ⟨_,fun _ _ h=>h,Tc rfl,wN ?_⟩;refine ⟨L,ts2,rfl,af,[[123]],rfl,sM,fun b mf=>?_⟩
   cases b with
   | false =>
    rw [Zp,Tf (by rw [mf];simp),R.bind_err] at h;(conv=>whnf);refine ⟨L,ts2,rfl,af,fun x hx=>?_⟩;rw [ZP,Tf (by rw [mf];simp)] at hx;exact mq168
   | true =>
   rw [Zp,Tj mf] at h;(conv=>whnf);refine ZGg (fun hc=>wN ?_) (fun hc=>wN ?_)
   ·rw [Tj oM,R.bind_err] at h;refine ⟨L,ts2,rfl,af,wN ?_⟩;exact h _ _
   rw [Tf oM] at h;refine ⟨L,ts2,rfl,af,fun x hx=>?_⟩;rw [ZP,Tj mf] at hx;subst hx;intro a7 y5 ik
   have hb7:=ik.hi;(conv=>whnf);refine Zi ?_;refine ⟨_,fun _ _ h=>h,Tc rfl,wN ?_⟩;refine ⟨L,ts2.tail,rfl,ik,⟨oM,oM,oM,rfl⟩,fun x wg=>?_⟩;exact mq41
  exact h.elim
 exact h.elim
def ZiU (inside:Bool) (d:Nat) (un:Ts->R Un) (f:Nat) (tys:List Ty) (rels:List Re) (rules:List Ru) (comps:List Co) (inits:List Ini) (overs:List Ov) (ts:Ts):XT inside d un (f+1) (.mk tys rels rules comps inits overs) ts =
  if ts=[]\/(inside=true/\isW ts [[125]]=true) then .ok (.mk tys rels rules comps inits overs) ts
  else if isW ts [[116,121,112,101]]=true then (if tys.length=256 then .err ts.length 3 else (ZiK ts.tail).bind fun x ts=>XT inside d un f (.mk (tys++[x]) rels rules comps inits overs) ts)
  else if isW ts [[100,101,99,108]]=true then (if rels.length=256 then .err ts.length 3 else (ZpF ts.tail).bind fun x ts=>XT inside d un f (.mk tys (rels++[x]) rules comps inits overs) ts)
  else if isW ts [[99,111,109,112]]=true then (if comps.length=64 then .err ts.length 3 else (ZpH d un ts.tail).bind fun x ts=>XT inside d un f (.mk tys rels rules (comps++[x]) inits overs) ts)
  else if isW ts [[105,110,105,116]]=true then (if inits.length=256 then .err ts.length 3 else (ZpI ts.tail).bind fun x ts=>XT inside d un f (.mk tys rels rules comps (inits++[x]) overs) ts)
  else if isW ts [[111,118,101,114,114,105,100,101]]=true then (if overs.length=256 then .err ts.length 3 else (ZpJ ts.tail).bind fun x ts=>XT inside d un f (.mk tys rels rules comps inits (overs++[x])) ts)
  else if ZE ts=true then (if rules.length=1024 then .err ts.length 3 else (ZpG d true ts).bind fun x ts=>XT inside d un f (.mk tys rels (rules++[x]) comps inits overs) ts)
  else .err ts.length 150:=rfl
def Zw2 {d:Nat}:OKw w0 nG [(191,ZiN),(192,ZlH),(193,Zhd),(194,ZlJ),(195,ZlX d),(196,Wp),(197,Xw),(198,Xq),(199,ZdH),(200,JL ZE),(201,ZlW d),(190,YU)] 132 (ZdO d):=by
 refine pwo Tryz.func132 fun args σ K h=>?_
 unfold ZdO Xn at h
 split at h
 ·rename_i rest t rows a en dp
  obtain ⟨L,ts,rfl,ho,h⟩:=h;split at h
  ·rename_i inside
   obtain ⟨fp,h⟩:=h;have h0:=ho.lo;have h1:=ho.hi;have h2:=ho.big;refine pwv [(1,⟨[],[0,1,4],fun vs σ=>∃(tys:List Ty) (rels:List Re) (rules:List Ru) (comps:List Co) (inits:List Ini) (overs:List Ov) (a':Int) (ts':Ts) (f:Nat),vs=[]/\σ=⟨[.cells t [.d (.sl (Zz L)),.d (.int .i64 a'),.d (.int .i64 en),.d (.int .i64 dp)],.cells 57 [.sl 0 144 (tys.map (Zs (Zb L en))),.sl 1 148 (rels.map (ZM (Zb L en))),.sl 2 51 (rules.map (ZQ (Zb L en))),.sl 3 172 (comps.map (XK (Zb L en))),.sl 4 175 (inits.map (X0 (Zb L en))),.sl 5 179 (overs.map (X1 (Zb L en)))]],[5,4,3,2,1,0],6⟩/\ROK L a' ts'/\a<=a'/\ts'.length<f/\(tys.length<=256/\rels.length<=256/\rules.length<=1024/\comps.length<=64/\inits.length<=256/\overs.length<=256)/\RKk (fun (v:Un)=>Ut (X2 (Zb L en) v)) L en dp a (XT inside d (ZnH d) f (.mk tys rels rules comps inits overs) ts') (fun pe a' dp'=>K pe ⟨[.cells t [.d (.sl (Zz L)),.d (.int .i64 a'),.d (.int .i64 en),.d (.int .i64 dp')]],[],0⟩),fun _ σ=>match σ with | ⟨.cells _ [_,.d (.int _ i),_,_]::_,_,_⟩=>((L.length:Int) - i).toNat | _=>0⟩)] 1 false ?_;have h:=h _ rfl;rw [ZwY,Znx] at h;refine ⟨⟨[],[],[],[],[],[],a,ts,ts.length+1,rfl,rfl,ho,oM,oM,sM,h⟩,?_⟩
   clear h
   intro vs σ hI
   obtain ⟨tys,rels,rules,comps,inits,overs,a',ts',f,rfl,rfl,cx,ac2,hf,ahb,h⟩:=hI;obtain ⟨f,rfl⟩:∃g,f=g+1:=⟨f - 1,oM⟩
   rw [ZiU] at h;have ph:=cx.hi;have rt:=cx.len;have wu:=cx.lo;(conv=>whnf);refine ZGg (fun hc=>wN ?_) (fun hc=>wN ?_)
   ·have ai:ts'≠[]:=by rintro rfl;have hc:a'<((Zz L).length:Int):=hc;rw [ZU] at hc;simp at rt;omega
    cases inside with
    | false =>
     rw [Tf (by simp [ai])] at h;exact mq1
    | true =>
    conv=>whnf
    refine ⟨L,ts',rfl,cx,[[125]],rfl,sM,fun b hw=>?_⟩
    cases b with
    | true =>
     rw [Tj (.inr ⟨rfl,hw⟩)] at h;(conv=>whnf)
     repeat (refine ⟨rfl,?_⟩;conv=>whnf)
     have h:=h _ oM cx;simp only [Ut,X2,ZdF,Tz,TJ] at h;exact h
    | false =>
    rw [Tf (by simp [ai,hw])] at h;exact mq1
   have fj:ts'=[]:=by have hc:¬a'<((Zz L).length:Int):=hc;rw [ZU] at hc;exact TU oM
   rw [Tj (.inl fj)] at h;have h:=h _ oM cx;simp only [Ut,X2,ZdF,Tz,TJ] at h;exact h
  exact h.elim
 exact h.elim
def Zb2:PC w0 nG 196 Wp:=ZsT ⟨JM,trivial⟩
def cIs:PC w0 nG 191 ZiN:=ZDW ⟨JM,Zko,trivial⟩
def ZfQ:PC w0 nG 200 (JL ZE):=ZsV ⟨JM,Zkn,trivial⟩
def VY:PC w0 nG 190 YU:=ZwB ⟨Zb2,trivial⟩
def Zat:PC w0 nG 240 XU:=ZwD ⟨cIs,trivial⟩
def JP:PC w0 nG 198 Xq:=ZwF ⟨Zat,VY,trivial⟩
def ZDX:PC w0 nG 192 ZlH:=ZwH ⟨VY,trivial⟩
def Jm:PC w0 nG 197 Xw:=ZsX ⟨ZfQ,VY,trivial⟩
def Zkt:PC w0 nG 277 (JL ZS):=ZpQ ⟨JM,cIs,Zkn,Zbl,trivial⟩
def Zqa:PC w0 nG 317 ZsY:=ZpR ⟨JM,trivial⟩
def Zw3:PC w0 nG 274 Zhc:=ZpY ⟨Jm,JP,trivial⟩
def Zku:PC w0 nG 241 UR:=Zp0 ⟨cIs,ZiQ ⟨ZfQ,VY,Zw3,Zat,trivial⟩,trivial⟩
def Zvn:PC w0 nG 199 ZdH:=Zs0 ⟨Zat,ZnB ⟨ZfQ,VY,Jm,Zat,trivial⟩,JP,trivial⟩
def ZA9:PC w0 nG 243 Zkr:=Zs2 ⟨Jm,JP,Zku,trivial⟩
def ZBa:PC w0 nG 193 Zhd:=Zs4 ⟨Zb2,Jm,Zat,JP,Zku,Zkq ⟨ZfQ,VY,ZA9,Zat,trivial⟩,trivial⟩
def ZDY:PC w0 nG 194 ZlJ:=ZwJ ⟨Zb2,Jm,Zat,JP,Zku,trivial⟩
def ZFz:PC w0 nG 206 Zs5:=ZA7 ⟨Zp2 ⟨Zat,trivial⟩,Zp3 ⟨Zat,trivial⟩,trivial⟩
def ZiV (h:XR (GG w0 nG).P 276):PC w0 nG 276 (Vb 0):=⟨h,fun args σ K hs=>by
 exfalso;unfold Vb at hs
 split at hs
 ·exact absurd hs.1.2.2.2.2.1 oM
 exact hs⟩
def ZiW {d:Nat} (h:PC w0 nG 276 (Zar d)):PC w0 nG 276 (Vb (d+1)):=h.weaken1 fun args σ K hs=>by
 unfold Vb at hs
 unfold Zar
 split at hs
 ·obtain ⟨⟨h1,h2,h3,h4,h5,h6,h7⟩,hs⟩:=hs;exact ⟨⟨h1,h2,h3,h4,oM,h7⟩,hs⟩
 exact hs.elim
def ZnI (d:Nat) (h:XR (GG w0 nG).P 299):PC w0 nG 299 (ZdL d 0):=⟨h,fun args σ K hs=>by
 exfalso;unfold ZdL Xn at hs
 split at hs
 ·obtain ⟨L,ts,_,_,hs⟩:=hs;split at hs
  ·exact absurd hs.1.2.1 oM
  exact hs
 exact hs⟩
def ZnJ {d j:Nat} (h:PC w0 nG 299 (ZfP d j)):PC w0 nG 299 (ZdL d (j+1)):=h.weaken1 fun args σ K hs=>by
 unfold ZdL Xn at hs
 unfold ZfP Xn
 split at hs
 ·obtain ⟨L,ts,h1,h2,hs⟩:=hs;refine ⟨L,ts,h1,h2,?_⟩;split at hs
  ·exact ⟨⟨hs.1.1,hs.1.2.2.1,hs.1.2.2.2.1,by have:=hs.1.2.2.2.2;omega⟩,hs.2⟩
  exact hs.elim
 exact hs
structure Deep (w0:World) (nG d:Nat):Prop where
 sg:PC w0 nG 316 (ZiR d)
 ex:PC w0 nG 278 (Zks d)
 many:PC w0 nG 276 (Vb d)
def Zl0 {d:Nat} (D:Deep w0 nG d):PC w0 nG 247 (ZdK d):=ZwM ⟨(Zcj (tb:=ZlO d) ⟨cIs,JP,VY,(Zcj (tb:=ZlN d) ⟨cIs,D.many,trivial⟩ Tryz.func275 rfl kR kR),trivial⟩ Tryz.func244 rfl kR kR),trivial⟩
def Ztc {d:Nat} (D:Deep w0 nG d):PC w0 nG 342 (ZlM d):=ZwO ⟨(Zcj (tb:=ZlQ d) ⟨cIs,JP,VY,(ZA6 (tb:=ZlP d) ⟨JP,D.ex,trivial⟩ Tryz.func346 rfl kR kR),trivial⟩ Tryz.func244 rfl kR kR),trivial⟩
def Zkv {d:Nat} (D:Deep w0 nG d):PC w0 nG 330 (Zas d):=ZnF ⟨Zkt,VY,JM,(Zcj (tb:=ZlS d) ⟨cIs,JP,VY,(Zcj (tb:=ZlR d) ⟨D.ex,trivial⟩ Tryz.func341 rfl kR kR),trivial⟩ Tryz.func244 rfl kR kR),Zl0 D,Jm,cIs,Zbl,Ztc D,trivial⟩
def Zbp {d:Nat} (D:Deep w0 nG d):PC w0 nG 316 (ZcE d):=Zp5 ⟨Zb2,cIs,(Zcj (tb:=ZlU d) ⟨cIs,JP,VY,(Zcj (tb:=ZlT d) ⟨D.sg,trivial⟩ Tryz.func329 rfl kR kR),trivial⟩ Tryz.func244 rfl kR kR),Zkv D,trivial⟩
def Zl1 {d:Nat} (D:Deep w0 nG d):∀j,PC w0 nG 299 (ZfP d j)
 | 0=>Zp7 ⟨Zbp D,Zqa,ZnI d (Zf Tryz.func299 kR rfl),trivial⟩
 | j+1=>Zp7 ⟨Zbp D,Zqa,ZnJ (Zl1 D j),trivial⟩
def Zhh {d:Nat} (D:Deep w0 nG d):PC w0 nG 278 (ZfO d):=ZwS ⟨Zl1 D 6,trivial⟩
def Zqb {d:Nat} (h:PC w0 nG 278 (ZfO d)):PC w0 nG 276 (Zar d):=ZpU d ⟨Zkt,VY,h,Zat,trivial⟩
def ZBb:∀d,Deep w0 nG d
 | 0=>⟨ZdI (Zf Tryz.func316 kR rfl),ZdI (Zf Tryz.func278 kR rfl),ZiV (Zf Tryz.func276 kR rfl)⟩
 | d+1=>⟨ZdJ (Zbp (ZBb d)),ZdJ (Zhh (ZBb d)),ZiW (Zqb (Zhh (ZBb d)))⟩
def ZBc (d:Nat):PC w0 nG 247 (ZdK d):=Zl0 (ZBb d)
def ZDZ (d:Nat):PC w0 nG 278 (ZfO d):=Zhh (ZBb d)
def ZBd:PC w0 nG 280 (ZlI Yc):=Zta ⟨Zkt,cIs,trivial⟩
def Zw4 {d:Nat} (h:PC w0 nG 248 (Zhf d)):PC w0 nG 281 (ZwT d):=ZA8 ⟨Zb2,Zat,JM,ZfQ,Jm,ZBc d,ZDZ d,ZFz,VY,JP,(Zcj (tb:=Zp9 d) ⟨cIs,JP,VY,(Zcj (tb:=Zp8 d) ⟨h,trivial⟩ Tryz.func302 rfl kR kR),trivial⟩ Tryz.func244 rfl kR kR),trivial⟩
def Zl2 {d:Nat} (h:PC w0 nG 248 (Zhf d)):PC w0 nG 248 (ZiT d):=ZwV ⟨ZpW d ⟨ZBd,VY,Zw4 h,Zat,trivial⟩,trivial⟩
def Zvo:∀d,PC w0 nG 248 (Zhf d)
 | 0=>ZdI (Zf Tryz.func248 kR rfl)
 | d+1=>ZdJ (Zl2 (Zvo d))
def ZD0 (d:Nat):PC w0 nG 248 (ZiT d):=Zl2 (Zvo d)
def ZD1 (d:Nat):PC w0 nG 201 (ZlW d):=ZwX ⟨Zb2,Jm,ZBc d,Zat,ZD0 d,JP,trivial⟩
def ZnK (h:XR (GG w0 nG).P 132):PC w0 nG 132 (Uv 0):=⟨h,fun args σ K hs=>by
 exfalso;unfold Uv Xn at hs
 split at hs
 ·obtain ⟨L,ts,_,_,hs⟩:=hs;split at hs
  ·exact absurd hs.1.1 oM
  exact hs
 exact hs⟩
def ZnL {d:Nat} (h:PC w0 nG 132 (ZdO d)):PC w0 nG 132 (Uv (d+1)):=h.weaken1 fun args σ K hs=>by
 unfold Uv Xn at hs
 unfold ZdO Xn
 split at hs
 ·obtain ⟨L,ts,h1,h2,hs⟩:=hs;refine ⟨L,ts,h1,h2,?_⟩;split at hs
  ·obtain ⟨⟨g1,g2,g3,rfl⟩,hs⟩:=hs;refine ⟨oM,?_⟩;rw [ZnH,Ztb] at hs;exact hs
  exact hs.elim
 exact hs
def Ztd {d:Nat} (h:PC w0 nG 132 (Uv d)):PC w0 nG 195 (ZlX d):=Zw0 ⟨Zb2,Jm,Zvn,Zat,(Zcj (tb:=ZlZ d) ⟨cIs,JP,VY,(Zcj (tb:=ZlY d) ⟨h,trivial⟩ Tryz.func245 rfl kR kR),trivial⟩ Tryz.func244 rfl kR kR),trivial⟩
def Zl3 {d:Nat} (h:PC w0 nG 132 (Uv d)):PC w0 nG 132 (ZdO d):=Zw2 ⟨cIs,ZDX,ZBa,ZDY,Ztd h,Zb2,Jm,JP,Zvn,ZfQ,ZD1 d,VY,trivial⟩
def Zvp:∀d,PC w0 nG 132 (Uv d)
 | 0=>ZnK (Zf Tryz.func132 kR rfl)
 | d+1=>ZnL (Zl3 (Zvp d))
def ZD2 (d:Nat):PC w0 nG 132 (ZdO d):=Zl3 (Zvp d)
def R.good {α:Type} (x:R α):Prop:=match x with | .ok _ _=>True | .err _ e=>e≠0
def ZGh {α β:Type} {x:R α} {f:α->Ts->R β} (h:x.good) (hf:∀a ts,(f a ts).good):(x.bind f).good:=by
 cases x with
 | ok a ts=>exact hf a ts
 | err r e=>exact h
def ZGA {α:Type} (a:α) (ts:Ts):(R.ok a ts:R α).good:=trivial
def ZGk {α:Type} {c:Prop} [Decidable c] {x y:R α} (h1:x.good) (h2:y.good):(if c then x else y).good:=by split;exact h1;exact h2
def ZGl {α:Type} {r e:Nat} (h:e≠0):(R.err r e:R α).good:=h
def Yd (w:Bs) (ts:Ts):(ZP w ts).good:=ZGk trivial (ZGl dM)
def ZT (ts:Ts):(YO ts).good:=ZGk trivial (ZGl dM)
def YG {α:Type} {d:Nat} {fr tw:Bs} {read:Ts->R α} (h:∀ts,(read ts).good) (ts:Ts):(Zp d fr tw read ts).good :=
 ZGk (ZGk (ZGl dM) (ZGh (h _) fun _ _=>ZGk trivial (ZGh (Yd _ _) fun _ _=>trivial))) (ZGl dM)
def ZdP {α:Type} {sign:Bs} {ce:Nat} {st:Ts->Bool} {one:Ts->R α} (h:∀ts,(one ts).good):∀f l ts,(Wm sign ce st one f l ts).good
 | 0,_,_=>ZGl dM
 | f+1,l,ts=>ZGk (ZGl dM) (ZGh (h _) fun _ _=>ZGk (ZdP h f _ _) trivial)
def Vd {α:Type} {sign:Bs} {ce:Nat} {st:Ts->Bool} {one:Ts->R α} (h:∀ts,(one ts).good) (ts:Ts):(XM sign ce st one ts).good:=ZdP h _ _ _
def ZnM (ts:Ts):(Va ts).good:=ZGh (ZT _) fun _ _=>ZGh (Yd _ _) fun _ _=>ZGh (ZT _) fun _ _=>trivial
def JQ (w:Bs) (ts:Ts):(Zbh w ts).good:=ZGk trivial (Vd ZnM _)
def Zbq (ts:Ts):(ZfM ts).good:=ZGk (ZGh (Vd ZT _) fun _ _=>ZGh (Yd _ _) fun _ _=>trivial) trivial
def Zqc (ts:Ts):(Zdx ts).good:=ZGh (ZT _) fun _ _=>ZGh (Yd _ _) fun _ _=>ZGh (JQ _ _) fun _ _=>ZGh (Yd _ _) fun _ _=>trivial
def ZnN (ts:Ts):(ZiK ts).good:=ZGh (ZT _) fun _ _=>ZGk (ZGh (ZT _) fun _ _=>trivial) (ZGh (Yd _ _) fun _ _ =>
 ZGk (ZGh (JQ _ _) fun _ _=>ZGh (Yd _ _) fun _ _=>trivial) (ZGh (Vd Zqc _) fun _ _=>trivial))
def Zqd (ts:Ts):(ZpF ts).good:=ZGh (ZT _) fun _ _=>ZGh (Yd _ _) fun _ _=>ZGh (JQ _ _) fun _ _=>ZGh (Yd _ _) fun _ _=>trivial
def Zau {d:Nat} {ex:Ts->R Ex} (h:∀ts,(ex ts).good) (fr tw:Bs) (ts:Ts):(ZiL d ex fr tw ts).good:=by
 unfold ZiL
 exact YG (fun ts=>ZGk (ZGA _ _) (Vd h _)) ts
def ZdQ {ex:Ts->R Ex} (h:∀ts,(ex ts).good):∀k l ts,(Zam ex k l ts).good
 | 0,_,_=>trivial
 | k+1,l,ts=>ZGh (ZGk trivial (Yd _ _)) fun _ _=>ZGh (h _) fun _ _=>ZdQ h k _ _
def ZiX {d:Nat} {ex:Ts->R Ex} (h:∀ts,(ex ts).good) (ts:Ts):(Zan d ex ts).good :=
 ZGk (ZGl dM) <| ZGk trivial <| ZGk trivial <| ZGk (YG h _) <| ZGk (ZGh (Zau h _ _ _) fun _ _=>trivial) <|
 ZGk (ZGh (ZT _) fun _ _=>ZGk (ZGh (Zau h _ _ _) fun _ _=>trivial) trivial) <|
 ZGk (ZGh (YG (ZdQ h _ _) _) fun _ _=>trivial) <| ZGk trivial <| ZGk trivial trivial
def ZdR {sub:Nat->Ts->R Ex} (h:∀n ts,(sub n ts).good) (least:Nat):∀f e ts,(Zao sub least f e ts).good
 | 0,_,_=>ZGl dM
 | f+1,e,ts=>ZGk trivial (ZGh (h _ _) fun _ _=>ZdR h least f _ _)
def Zbr {sg:Ts->R Ex} (h:∀ts,(sg ts).good):∀k least ts,(JK sg k least ts).good
 | 0,_,_=>h _
 | k+1,least,ts=>ZGh (h _) fun _ _=>ZdR (fun n ts=>Zbr h k n ts) _ _ _ _
def Zb3 {d:Nat} {sg:Ts->R Ex} (h:∀ts,(sg ts).good) (ts:Ts):(Zdy d sg ts).good :=
 ZGk (ZGh (YG h _) fun _ _=>trivial) <| ZGk (ZGh (YG h _) fun _ _=>trivial) (ZiX (fun ts=>Zbr h _ _ _) _)
def ZdS:∀d ts,(Xv d ts).good
 | 0,ts=>Zb3 (fun _=>(ZGl dM)) ts
 | d+1,ts=>Zb3 (ZdS d) ts
def ZdT (d:Nat) (ts:Ts):(Zbi d ts).good:=Zbr (ZdS d) _ _ _
def ZfR:∀d ts,(Zdz d ts).good
 | 0,_=>(ZGl dM)
 | d+1,ts=>ZdT d ts
def ZnO (ts:Ts):(ZdA ts).good:=by
 unfold ZdA
 split
 ·exact ZGl dM
 ·split <;> trivial
 trivial
def Zb4 (d op a:Nat) (ts:Ts):(ZdB d op a ts).good:=ZGh (ZT _) fun _ _=>ZGh (Zau (ZfR d) _ _ _) fun _ _=>trivial
def ZdU {d:Nat} {bd:Ts->R (List Li)} (h:∀ts,(bd ts).good) (a op:Nat) (l:List Ex) (ts:Ts):(Wo d bd a op l ts).good :=
 ZGk (ZGh (Yd _ _) fun _ _=>ZGh (YG h _) fun _ _=>trivial) trivial
def Zl4 {d:Nat} {bd:Ts->R (List Li)} (h:∀ts,(bd ts).good) (ts:Ts):(Znv d bd ts).good :=
 ZGk (Zb4 _ _ _ _) <| ZGk (Zb4 _ _ _ _) <| ZGh (ZdT _ _) fun _ _=>ZGh (ZnO _) fun _ _=>ZGk (ZdU h _ _ _ _) (ZGh (ZdT _ _) fun _ _=>ZdU h _ _ _ _)
def ZiY:∀d ts,(Znw d ts).good
 | 0,ts=>Vd (Zl4 fun _=>(ZGl dM)) ts
 | d+1,ts=>Vd (Zl4 (ZiY d)) ts
def Zqe (d:Nat) (b:Bool) (ts:Ts):(ZpG d b ts).good:=ZGh (ZT _) fun _ _=>ZGh (Zau (ZfR d) _ _ _) fun _ _ =>
 ZGk (ZGh (ZiY _ _) fun _ _=>ZGh (Yd _ _) fun _ _=>trivial) (ZGh (Yd _ _) fun _ _=>trivial)
def Zqf {d:Nat} {un:Ts->R Un} (h:∀ts,(un ts).good) (ts:Ts):(ZpH d un ts).good:=ZGh (ZT _) fun _ _=>ZGh (Zbq _) fun _ _ =>
 ZGk (ZGh (ZT _) fun _ _=>ZGh (Zbq _) fun _ _=>ZGh (YG h _) fun _ _=>trivial) (ZGh (YG h _) fun _ _=>trivial)
def Zqg (ts:Ts):(ZpI ts).good:=ZGh (ZT _) fun _ _=>ZGh (Yd _ _) fun _ _=>ZGh (ZT _) fun _ _=>ZGh (Zbq _) fun _ _=>trivial
def Zqh (ts:Ts):(ZpJ ts).good:=ZGh (ZT _) fun _ _=>trivial
def Yu {b:Bool} {d:Nat} {un:Ts->R Un} (h:∀ts,(un ts).good):∀f u ts,(XT b d un f u ts).good
 | 0,_,_=>ZGl dM
 | f+1,.mk tys rels rules comps inits overs,ts=>by
  rw [ZiU];exact ZGk trivial <| ZGk (ZGk (ZGl dM) (ZGh (ZnN _) fun _ _=>Yu h f _ _)) <| ZGk (ZGk (ZGl dM) (ZGh (Zqd _) fun _ _=>Yu h f _ _)) <|
   ZGk (ZGk (ZGl dM) (ZGh (Zqf h _) fun _ _=>Yu h f _ _)) <| ZGk (ZGk (ZGl dM) (ZGh (Zqg _) fun _ _=>Yu h f _ _)) <|
   ZGk (ZGk (ZGl dM) (ZGh (Zqh _) fun _ _=>Yu h f _ _)) <| ZGk (ZGk (ZGl dM) (ZGh (Zqe _ _ _) fun _ _=>Yu h f _ _)) (ZGl dM)
def ZfS:∀d ts,(ZpK d ts).good
 | 0,ts=>Yu (fun _=>(ZGl dM)) _ _ _
 | d+1,ts=>Yu (ZfS d) _ _ _
def ZiZ (ts:Ts):(Zbj ts).good:=Yu (ZfS 63) _ _ _
def ZnP {a:Nat} {r:Bs} {room:Bool} {t:Tok} (h:JF a r room=.tok t):room=true:=by
 cases room with
 | true=>rfl
 | false =>
 unfold JF at h
 simp only at h;split at h
 ·cases h
 simp at h
def Zl5:∀(f:Nat) (m:Int) (a:Nat) (r:Bs),(Ug f m a r).1.length<=m.toNat
 | 0,m,a,r=>by simp [Ug]
 | f+1,m,a,r=>by
  unfold Ug
  split
  ·simp
  simp only;split
  ·simp
  split
  ·simp
  rename_i t ht
  have hr:=ZnP ht;rw [TH] at hr;have:=Zl5 f (m - 1) t.fin ((r.drop (YT r).2).drop (t.fin - (a+(YT r).2)));simp only [Te];omega
def Zw5 (s:Bs) (m:Int):(ZeT s m).1.length<=m.toNat:=Zl5 _ _ _ _
inductive Top (α:Type) where
 | ok (v:α) (L:List Tok) | err (p:Int) (e:Nat)
def JR {α:Type} (bytes ce:Nat) (P:Ts->R α) (s:Bs):Top α :=
 if bytes<s.length then .err 0 3
 else if (ZeT s ce).2.2≠0 then .err (ZeT s ce).2.1 (ZeT s ce).2.2
 else match P ((ZeT s ce).1.map Tok.t0) with
  | .ok v []=>.ok v (ZeT s ce).1
  | .ok v (_::ts)=>.err (Zb (ZeT s ce).1 s.length (ts.length+1)) 150
  | .err r e=>.err (Zb (ZeT s ce).1 s.length r) e
def Zkw {α:Type} {bytes ce:Nat} {P:Ts->R α} (hP:∀ts,(P ts).good) {s:Bs} {p:Int} {e:Nat} (h:JR bytes ce P s=.err p e):e≠0:=by
 unfold JR at h
 split at h
 ·cases h;decide
 split at h
 ·rename_i hn;cases h;exact hn
 split at h
 ·cases h
 ·cases h;decide
 rename_i r e' he
 cases h
 have:=hP ((ZeT s ce).1.map Tok.t0);rw [he] at this;exact this
def ZfT:Zk:=fun args σ K=>match args,σ with
 | [.d (.str s),.d (.int .i64 m)],⟨[],[],0⟩=>s.length<4294967281 /\
   ∀l p c,ZeT s m=(l,(p,c))->(c=0->K (.ret (.tuple [.d (.sl (Zz l)),.d (.int .i64 p),.d (.int .i64 0)])) ⟨[],[],0⟩) /\
    (c≠0->K (.ret (.tuple [.d (.sl []),.d (.int .i64 p),.d (.int .i64 c)])) ⟨[],[],0⟩)
 | _,_=>False
def Zkx:Zx ZfT:=fun args σ K K' hK h=>by
 unfold ZfT at h |-
 split at h
 ·exact ⟨h.1,fun l p c hx=>⟨fun g=>hK _ _ ((h.2 l p c hx).1 g),fun g=>hK _ _ ((h.2 l p c hx).2 g)⟩⟩
 exact h.elim
def Zw6 (h:PC w0 nG 188 Zal):PC w0 nG 188 ZfT:=h.weaken1 fun args σ K hs=>by
 unfold ZfT at hs
 unfold Zal
 split at hs
 ·rename_i s m
  obtain ⟨h1,hs⟩:=hs;refine ⟨h1,?_⟩;have hs:=hs (ZeT s m).1 (ZeT s m).2.1 (ZeT s m).2.2 rfl
  by_cases hc:(ZeT s m).2.2=0
  ·rw [Tj hc,hc];exact hs.1 hc
  rw [Tf hc];exact hs.2 hc
 exact hs.elim
def recOf:Nat×Nat×Code:=match ZAw (Xd Tryz.f189) with | some x=>x | none=>(0,0,.skip)
def ZBe:List PV->St->(St->Prop)->Prop:=fun args σ K=>args.length<=Tryz.f189.ntmps/\W (ctx VU [] (Zg [])) recOf.2.2 (ZsR VU Tryz.f189 σ.bx.length K) (Vn (Vn (Zct 0 args) recOf.1 (.d .nili)) recOf.2.1 (.d .nili)) σ
def ZBf:PV->List PV->St->(St->Prop)->Prop:=fun pv args σ K=>args.length<=Tryz.f189.ntmps/\W (ctx VU [] (Zg [])) recOf.2.2 (ZsR VU Tryz.f189 σ.bx.length K) (Vn (Vn (Zct 0 args) recOf.1 pv) recOf.2.1 pv) σ
def ZBg:PDef (GG w0 nG) 189 ZBe ZBf :=
 Zkk (a:=recOf.1) (b:=recOf.2.1) (rest:=recOf.2.2) Zr mixed Tryz.func189 rfl kR rfl kR (fun args σ K h=>⟨Zov VU [] (Zg []) (fun _=>0) (fun _=>false),σ.bx.length,CxG.of (tbl:=[]) Zr trivial trivial _ _ _,Tr _,h.1,h.2⟩) (fun pv args σ K h=>⟨Zov VU [] (Zg []) (fun _=>0) (fun _=>false),σ.bx.length,CxG.of (tbl:=[]) Zr trivial trivial _ _ _,Tr _,h.1,h.2⟩)
def WhK {α:Type} (tU:TypeId) (enc:List Tok->Int->α->List PV) (bad:List PV->Prop) (n:Int) (x:Top α) (K:PEnd->St->Prop):Prop:=match x with
 | .ok v L=>K (.ret (.tuple [.d (.int .i64 0),.d (.int .i64 0)])) ⟨[.cells tU (enc L n v)],[],0⟩
 | .err p e=>∀cs,bad cs->K (.ret (.tuple [.d (.int .i64 p),.d (.int .i64 e)])) ⟨[.cells tU cs],[],0⟩
def Zqi {l:List Tok} (h:l.length<=1048576):ROK l 0 (l.map Tok.t0):=⟨oM,oM,h,by simp [tz]⟩
def ZFA (cs:List PV):Prop:=∃a b c d e f:List (List D),cs=[.d (.sl a),.d (.sl b),.d (.sl c),.d (.sl d),.d (.sl e),.d (.sl f)]
def Zl6:Tbl:=[(132,ZdO 64)]
def Zw7:Zk:=fun args σ K=>match args,σ with
 | [.d (.str s),.d (.int .i64 by'),.d (.int .i64 ce),.func g [] [.ptr 0 0]],⟨[.cells tU c0],tk,n⟩=>(g=131/\by'=65536/\ce=16384/\c0=[.sl 0 144 [],.sl 1 148 [],.sl 2 51 [],.sl 3 172 [],.sl 4 175 [],.sl 5 179 []]/\tk=[5,4,3,2,1,0]/\n=6)/\s.length<4294967281 /\
   ∀x,JR 65536 16384 Zbj s=x->WhK tU (fun L n (v:Un)=>(X2 (Zb L n) v).map .d) ZFA s.length x K
 | _,_=>False
def Zvq:Tbl:=[(188,ZfT),(131,ZlK Tryz.f131 Zl6),(190,YU)]
def Zqj (ht:TO w0 nG Zvq):PC w0 nG 130 Zw7:=by
 refine ZcD Zr mixed Tryz.func130 rfl kR kR ZBg ?_;intro args σ K h
 unfold Zw7 at h
 split at h
 ·obtain ⟨⟨rfl,rfl,rfl,rfl,rfl,rfl⟩,hs,h⟩:=h
  rename_i s tU
  have h:=h _ rfl;refine ⟨Zov VU Zvq (Zg []) (Ys []) (ZC []),1,false,CxG.of Zr ht ⟨Zkx,Zp1 _ _,Zkm,trivial⟩ _ _ _,sM,Tc rfl,wN ?_⟩;unfold JR at h
  refine ZGg (fun hc=>wN ?_) (fun hc=>wN ?_)
  ·rw [Tj oM] at h;exact h _ ⟨_,_,_,_,_,_,rfl⟩
  rw [Tf oM] at h;refine ⟨hs,fun l p c hx=>?_⟩;have hlen:=Zw5 s 16384;rw [show ((16384:Nat):Int)=16384 from rfl,hx] at h;rw [hx] at hlen;refine ⟨fun h0=>?_,fun h0=>wN ?_⟩
  ·subst h0;rw [Tf sM] at h;simp only at h hlen;have ho:=Zqi (l:=l) (by simp at hlen;omega)
   clear hx hlen
   generalize hts:l.map Tok.t0=ts at h ho;(conv=>whnf);refine ⟨_,fun _ _ h=>h,Tc rfl,wN ?_⟩;refine ⟨l,ts,rfl,ho,oM,fun x hx=>?_⟩;rw [show Zbj ts=ZwY false 64 ts from rfl,hx] at h;rcases x with ⟨⟨v1,v2,v3,v4,v5,v6⟩,ts2⟩ | ⟨r,e⟩
   rotate_left
   ·intro a9 d9;(conv=>whnf);refine ⟨Tc rfl,?_⟩;(conv=>whnf);(repeat (refine ⟨rfl,?_⟩;conv=>whnf));exact h _ ⟨_,_,_,_,_,_,rfl⟩
   intro a2 gd af
   conv=>whnf
   have cy:=af.len
   (repeat (refine ⟨rfl,?_⟩;conv=>whnf))
   refine ZGg (fun d0=>?_) (fun d0=>?_)
   ·have d0:a2<l.length:=by have d0:a2<((Zz l).length:Int):=d0;rw [ZU] at d0;exact d0
    cases ts2 with
    | nil=>simp at cy;omega
    | cons t0 ts3 =>
    conv=>whnf
    refine ⟨l,_,rfl,af,wN ?_⟩;refine ⟨Tc rfl,wN ?_⟩
    (repeat (refine ⟨rfl,?_⟩;conv=>whnf))
    exact h _ ⟨_,_,_,_,_,_,rfl⟩
   have d0:¬a2<l.length:=by have d0:¬a2<((Zz l).length:Int):=d0;rw [ZU] at d0;exact d0
   obtain rfl:ts2=[]:=TU oM;(conv=>whnf);refine ⟨Tc rfl,wN ?_⟩;exact h
  rw [Tj h0] at h;refine ZGi (fun bj=>?_) (fun bj=>absurd (show c=0 by omega) h0);(conv=>whnf)
  (repeat (refine ⟨rfl,?_⟩;conv=>whnf))
  exact h _ ⟨_,_,_,_,_,_,rfl⟩
 exact h.elim
def ZEW {α:Type} (enc:List Tok->α->PV) (zero:PV) (x:Top α) (K:PEnd->St->Prop):Prop:=match x with
 | .ok v L=>K (.ret (.tuple [enc L v,.d (.int .i64 0),.d (.int .i64 0)])) ⟨[],[],0⟩
 | .err p e=>K (.ret (.tuple [zero,.d (.int .i64 p),.d (.int .i64 e)])) ⟨[],[],0⟩
def Zl7:Zk:=fun args σ K=>match args,σ with
 | [.d (.str s)],⟨[],[],0⟩=>s.length<4294967281/\∀x,JR 65536 16384 Zbj s=x->ZEW (fun L (v:Un)=>Ut (X2 (Zb L s.length) v)) (Ut (X2 (fun _=>0) .nil)) x K
 | _,_=>False
def Zw9:OKw w0 nG [(130,Zw7)] 72 Zl7:=by
 refine pwo Tryz.func72 fun args σ K h=>?_
 unfold Zl7 at h
 split at h
 ·rename_i s
  obtain ⟨hs,h⟩:=h;refine pwv [] 0 false ?_;refine ⟨⟨rfl,rfl,rfl,rfl,rfl,rfl⟩,hs,fun x hx=>?_⟩;have h:=h x hx
  cases x with
  | ok v L =>
   obtain ⟨v1,v2,v3,v4,v5,v6⟩:=v;exact mq47
  | err p e =>
  have he:=Zkw ZiZ hx;intro cs dw
  obtain ⟨b1,b2,b3,b4,b5,b6,rfl⟩:=dw;(conv=>whnf);refine ZGi (fun hc=>?_) (fun hc=>absurd (show e=0 by omega) he);exact mq47
 exact h.elim
def ZnQ (hg:GlobOK w0 nG):PC w0 nG 188 ZfT:=Zw6 (Zww hg)
def ZD3 (hg:GlobOK w0 nG):PC w0 nG 72 Zl7:=Zw9 ⟨Zqj ⟨ZnQ hg,Zcj (tb:=Zl6) ⟨ZD2 64,trivial⟩ Tryz.func131 rfl kR kR,VY,trivial⟩,trivial⟩
mutual
def szE:Ex->Nat
 | .mk _ _ _ l _=>1+Jn l
def Jn:List Ex->Nat
 | []=>0
 | x::l=>1+szE x+Jn l
end
def Y3:∀(l:List Ex),l.length<=Jn l
 | []=>Tr _
 | x::l=>by have:=Y3 l;simp only [Te,Jn];omega
def YC:∀(l:List Ex) (i:Nat) (h:i<l.length),szE l[i]<Jn l
 | x::l,0,h=>by simp only [List.getElem_cons_zero,Jn];omega
 | x::l,i+1,h=>by have:=YC l i (by simpa using h);simp only [List.getElem_cons_succ,Jn];omega
def Li.op:Li->Nat | .mk o _ _ _ _=>o
end Go.PM.Lex
end

section
namespace Go.PM.Lex
mutual
def erE:Ex->Ex
 | .mk op t n args _=>.mk op t n (ZEX args) 0
def ZEX:List Ex->List Ex
 | []=>[]
 | e::l=>erE e::ZEX l
end
def Stb {α:Type} (er:α->α) (m:Ts) (x y:R α):Prop:=∀v ts,x=.ok v ts->∃v',er v'=er v/\y=.ok v' (ts++m)
section
variable {α β:Type} {er:α->α} {er2:β->β} {m:Ts}
def Stb.ok {v v':α} {ts:Ts} (h:er v'=er v):Stb er m (.ok v ts) (.ok v' (ts++m)):=fun w rest e=>by cases e;exact ⟨v',h,rfl⟩
def Stb.ok' {v v':α} {ts ts':Ts} (h:er v'=er v) (e:ts'=ts++m):Stb er m (.ok v ts) (.ok v' ts'):=e ▸ Stb.ok h
def Stb.err {r e:Nat} {y:R α}:Stb er m (.err r e) y:=fun w rest e=>by cases e
def Stb.bind {x y:R α} {f g:α->Ts->R β} (h:Stb er m x y) (hf:∀v v' ts,er v'=er v->Stb er2 m (f v ts) (g v' (ts++m))):Stb er2 m (x.bind f) (y.bind g):=fun w rest e=>by
 cases x with
 | ok v ts =>
  obtain ⟨v',h1,rfl⟩:=h v ts rfl;exact hf v v' ts h1 w rest e
 | err r e'=>cases e
def Stb.binds {x y:R α} {f g:α->Ts->R β} (h:Stb id m x y) (hf:∀v ts,Stb er2 m (f v ts) (g v (ts++m))):Stb er2 m (x.bind f) (y.bind g):=Stb.bind h fun v v' ts e=>by cases (show v'=v from e);exact hf v ts
end
variable {m:Ts}
def map_id' {α:Type} (l:List α):l.map id=l:=sM
def Un.le:Un->Un->Prop
 | .mk a1 a2 a3 a4 a5 a6,.mk b1 b2 b3 b4 b5 b6=>a1.length<=b1.length/\a2.length<=b2.length/\a3.length<=b3.length/\a4.length<=b4.length/\a5.length<=b5.length/\a6.length<=b6.length
def Un.le_refl:∀u:Un,Un.le u u | .mk ..=>⟨Tr _,Tr _,Tr _,Tr _,Tr _,Tr _⟩
def Un.le_trans:∀{u v w:Un},Un.le u v->Un.le v w->Un.le u w
 | .mk ..,.mk ..,.mk ..,⟨h1,h2,h3,h4,h5,h6⟩,⟨k1,k2,k3,k4,k5,k6⟩=>⟨oM,oM,oM,oM,oM,oM⟩
def Un.room:Un->Un->Prop
 | .mk a1 a2 a3 a4 a5 a6,.mk b1 b2 b3 b4 b5 b6=>a1.length+b1.length<=256/\a2.length+b2.length<=256/\a3.length+b3.length<=1024/\a4.length+b4.length<=64/\a5.length+b5.length<=256/\a6.length+b6.length<=256
end Go.PM.Lex
end

section
namespace Go.PM.Lex
open Go.Proofs
variable {w0:World} {nG:Nat}
def szS {α:Type} (f:α->Nat):List α->Nat
 | []=>0
 | x::l=>1+f x+szS f l
def Zu {α:Type} (f:α->Nat):∀(l:List α),l.length<=szS f l
 | []=>Tr _
 | x::l=>by have:=Zu f l;simp only [Te,szS];omega
def ZD {α:Type} (f:α->Nat):∀(l:List α) (i:Nat) (h:i<l.length),f l[i]<szS f l
 | x::l,0,h=>by simp only [List.getElem_cons_zero,szS];omega
 | x::l,i+1,h=>by have:=ZD f l i (by simpa using h);simp only [List.getElem_cons_succ,szS];omega
def Wq:∀(l:List Ex),Jn l=szS szE l
 | []=>rfl
 | x::l=>by rw [Jn,szS,Wq l]
def eqB (a b:Bs):Bool:=decide (a=b)
mutual
def szL:Li->Nat
 | .mk _ _ a b _=>1+szS szE a+ZfU b
def ZfU:List Li->Nat
 | []=>0
 | x::l=>1+szL x+ZfU l
end
def Zbs:∀(l:List Li),ZfU l=szS szL l
 | []=>by rw [ZfU,szS]
 | x::l=>by rw [ZfU,szS,Zbs l]
def Zi0 (r:Ru):Nat:=1+szS szE r.args+szS szL r.body
def sz0 {α:Type} (_:α):Nat:=0
def ZBh (c:Ca):Nat:=1+szS sz0 c.fields
def ZDf (a:Ty):Nat:=1+szS sz0 a.fields+szS ZBh a.cases
def ZDg (a:Re):Nat:=1+szS sz0 a.fields
def spB (sp:Nat->Zk) (n:Nat):Zk:=fun args σ K=>0<n/\sp (n - 1) args σ K
def Zl8 {sp:Nat->Zk} (h:∀n,Zx (sp n)) (n:Nat):Zx (spB sp n):=fun args σ K K' hK g=>⟨g.1,h _ _ _ _ _ hK g.2⟩
def ZA {g:FuncId} {sp:Nat->Zk} (h:XR (GG w0 nG).P g):PC w0 nG g (spB sp 0):=⟨h,fun args σ K hs=>absurd hs.1 oM⟩
def ZB {g:FuncId} {sp:Nat->Zk} {n:Nat} (h:PC w0 nG g (sp n)):PC w0 nG g (spB sp (n+1)):=h.weaken1 fun args σ K hs=>hs.2
abbrev ws:Bs:=[32,9,13,10]
def ZnR (c:Nat):Option UInt8:=if c=10 then some 110 else if c=9 then some 116 else if c=34 then some 34 else if c=92 then some 92 else none
def VG:Nat->Bs->Bs->Option Bs
 | 0,_,_=>none
 | f+1,r,out=>if r=[] then some out else match ZnR (Lib.decodeL r).1 with
  | some b=>VG f (r.drop (Lib.decodeL r).2) (out++[92,b])
  | none=>if (Lib.decodeL r).1<32 then none else VG f (r.drop (Lib.decodeL r).2) (out++Lib.encodeRune (Lib.decodeL r).1)
def Jo (s:Bs):Option Bs:=if Lib.validD s=true then (VG (s.length+1) s [34]).map (·++[34]) else none
def Zl9:Zk:=fun args σ K=>match args,σ with
 | [.d (.int .i32 c)],⟨[],[],0⟩=>K (.ret (.d (.bool (Zm c)))) ⟨[],[],0⟩
 | _,_=>False
def Zav:PC w0 nG 208 Wk:=by
 refine pwe Tryz.func208 fun args σ K h=>?_
 unfold Wk at h
 split at h
 ·rename_i c
  refine pwu [] 0 false ?_;exact mq105
 exact h.elim
def ZfV:PC w0 nG 250 Zl9:=by
 refine pwe Tryz.func250 fun args σ K h=>?_
 unfold Zl9 at h
 split at h
 ·rename_i c
  refine pwu [] 0 false ?_
  repeat' ((conv=>whnf);refine ZGg (fun h1=>?_) (fun h1=>?_))
  all_goals (conv=>whnf)
  all_goals (refine ZbW h ?_;simp only [Zm,TH,decide_eq_false_iff_not,decide_eq_decide];omega)
 exact h.elim
def Zky:Zk:=fun args σ K=>match args with
 | [.d (.str s)]=>s.length<=9223372036854775807/\K (.ret (.d (.bool (Lib.validD s)))) σ
 | _=>False
def Zte (h1:1<nG) (hT:Lib.Utf8Tabs 0 1 w0):PC w0 nG 260 Zky:=YN (Zf Tryz.func260 kR rfl) fun args σ K h e w vs hS ha=>by
 unfold Zky at h
 split at h
 ·rename_i s
  obtain ⟨u,rfl,hu⟩:=ZeU ha
  cases hu.dstr
  have hT':Lib.Utf8Tabs 0 1 w:=by
   have g0:=hS.glob 0 (show 0<nG by omega);have g1:=hS.glob 1 h1;obtain ⟨a,b⟩:=hT;refine ⟨fun c hc=>?_,fun i hi=>?_⟩
   ·have:=a c hc;simpa [World.cell?,g0] using this
   have:=b i hi;simpa [World.cell?,g1] using this
  exact ⟨_,h.2,_,fun _ _=>.mkbool,(Any.utf8_ValidString Tryz.laysValid ⟨s.toArray⟩ w (show s.toArray.size<=_ by simpa using h.1) hT').mono fun en w' ⟨h1,h2⟩=>⟨h1,ZGm h2⟩⟩
 exact h.elim
def Ztf {n:Nat} (h:ZnR n=none):Zds [10,9,34,92] n=-1:=by
 unfold ZnR at h
 split at h;· cases h
 split at h;· cases h
 split at h;· cases h
 split at h;· cases h
 rename_i h1 h2 h3 h4
 unfold Zds
 split
 ·rename_i h5
  have hc:([10,9,34,92]:Bs).contains ((n:Int).toNat.toUInt8)=false:=by
   have b1:=Ur (n:=n) (k:=10) oM oM h1;have b2:=Ur (n:=n) (k:=9) oM oM h2;exact mq107
  rw [Lib.contains_iff_indexByte,decide_eq_false_iff_not] at hc;have:=Lib.indexByte_ge [10,9,34,92] ((n:Int).toNat.toUInt8);omega
 rfl
def Ztg {n:Nat} {b:UInt8} (h:ZnR n=some b):(Zds [10,9,34,92] n=0/\b=110)\/(Zds [10,9,34,92] n=1/\b=116)\/(Zds [10,9,34,92] n=2/\b=34)\/(Zds [10,9,34,92] n=3/\b=92):=by
 unfold ZnR at h
 exact mq69
def JS:Zk:=fun args σ K=>match args,σ with
 | [.d (.str s)],⟨[],[],0⟩=>s.length<4294967281/\(Jo s=none->K (.ret (.tuple [.d (.str []),.d (.bool false)])) ⟨[],[],0⟩)/\(∀q,Jo s=some q->K (.ret (.tuple [.d (.str q),.d (.bool true)])) ⟨[],[],0⟩)
 | _,_=>False
def Zi1:Zx JS:=fun args σ K K' hK h=>by
 unfold JS at h |-
 split at h
 ·exact ⟨h.1,fun g=>hK _ _ (h.2.1 g),fun q g=>hK _ _ (h.2.2 q g)⟩
 exact h.elim
def ZFB (B:Nat):List PV->St->Nat:=fun _ σ=>match σ.bx with | [_,.iter _ p]=>B - p | _=>0
def Zti:OKw w0 nG [(260,Zky),(261,Vz),(262,Wl),(263,VA),(73,ZcB)] 226 JS:=by
 refine pwo Tryz.func226 fun args σ K h=>?_
 unfold JS at h
 split at h
 ·rename_i s
  obtain ⟨hs,dl,d7⟩:=h;refine pwv [(6,⟨[],[4,13],fun vs σ=>vs=[]/\∃(out:Bs) (i f:Nat),σ=⟨[.cells 130 [.ptr 0 0,.sl 0 5 (Zl out)],.iter s i],[0],1⟩/\(i<=s.length/\s.length<i+f/\out.length<=4 * i+1)/\VG f (s.drop i) out=VG (s.length+1) s [34],ZFB s.length⟩)] 0 false ?_;refine ⟨oM,wN ?_⟩;refine ZGj (fun h1=>wN ?_) (fun h1=>wN ?_)
  ·have hv:Lib.validD s=false:=by simpa using h1
   exact dl (by unfold Jo;rw [Tf (by rw [hv];simp)])
  have hv:Lib.validD s=true:=by simpa using h1
  have hq:Jo s=(VG (s.length+1) s [34]).map (·++[34]):=by unfold Jo;rw [Tj hv]
  refine ⟨⟨.inl rfl,rfl,rfl,sM,sM⟩,wN ?_⟩;refine ⟨⟨rfl,[34],0,s.length+1,rfl,⟨oM,oM,sM⟩,by rw [Sm]⟩,?_⟩;intro vs σ1 hI
  obtain ⟨rfl,out,i,f,rfl,⟨hi1,ab,y6⟩,fu⟩:=hI;obtain ⟨f,rfl⟩:∃g,f=g+1:=⟨f - 1,oM⟩
  have bv:=ZfI out;have ct:=ZfJ out;have bi:=Zdq s i;have iw:=Zg6 (s.drop i);have jq:=Lib.decodeL_le (s.drop i);rw [Tx] at jq;(conv=>whnf);refine ZGg (fun h2=>wN ?_) (fun h2=>wN ?_)
  ·have ai:s.drop i≠[]:=fun g=>by have:=congrArg List.length g;rw [Tx] at this;simp at this;omega
   have g3:i+(decodeL s i).2<=s.length:=by rw [bi];have:=jq ai;omega
   have qg:1<=(decodeL s i).2:=by rw [bi];omega
   refine ⟨⟨.inr rfl,oM,by rw [bi];omega⟩,wN ?_⟩;generalize hk:Zds _ _=k;have gl:Zds [10,9,34,92] ((Lib.decodeL (s.drop i)).1:Int)=k:=by rw [<- bi];exact hk
   cases hE:ZnR (Lib.decodeL (s.drop i)).1 with
   | some b =>
    have g1:VG f (s.drop (i+(decodeL s i).2)) (out++[92,b])=VG (s.length+1) s [34]:=by rw [<- fu,bi];simp [VG,ai,hE,TL]
    rcases Ztg hE with ⟨e1,rfl⟩ | ⟨e1,rfl⟩ | ⟨e1,rfl⟩ | ⟨e1,rfl⟩
    all_goals (rw [e1] at gl;subst gl)
    all_goals (conv=>whnf)
    all_goals (refine ⟨⟨.inr rfl,rfl,rfl,bv,oM⟩,?_⟩)
    all_goals (conv=>whnf)
    all_goals (refine ⟨oM,by first | omega | (simp;done) | (simp;omega),?_⟩)
    all_goals (conv=>whnf)
    all_goals (refine ⟨⟨.inr rfl,rfl,rfl,fun r hr=>by (rcases TE.1 hr with hr | hr;exact bv r hr;simp at hr;subst hr;rfl),by rw [Ta];simp;omega⟩,?_⟩)
    all_goals (conv=>whnf)
    all_goals (refine ⟨⟨rfl,_,_,f,?_,⟨g3,oM,?_⟩,g1⟩,?_⟩)
    all_goals (first | (rw [W9,Tn];rfl) | (rw [Ta];simp;omega) | exact (show s.length - (i+(decodeL s i).2)<s.length - i by omega))
   | none =>
   rw [Ztf hE] at gl;subst gl;(conv=>whnf);refine ZGg (fun h5=>wN ?_) (fun h5=>wN ?_)
   ·have gc:(Lib.decodeL (s.drop i)).1<32:=by rw [bi] at h5;omega
    refine dl ?_;rw [hq,<- fu];simp [VG,ai,hE,gc]
   have gc:¬(Lib.decodeL (s.drop i)).1<32:=by rw [bi] at h5;omega
   have g1:VG f (s.drop (i+(decodeL s i).2)) (out++Lib.encodeRune ((decodeL s i).1:Int))=VG (s.length+1) s [34]:=by rw [<- fu,bi];simp [VG,ai,hE,gc,TL]
   have hen:=Zkj ((decodeL s i).1:Int);refine ⟨⟨.inr rfl,rfl,rfl,bv,oM,oM,by rw [bi];omega⟩,wN ?_⟩;refine ⟨⟨rfl,_,_,f,?_,⟨g3,oM,?_⟩,g1⟩,?_⟩
   ·rw [W9];rfl
   ·rw [Ta];omega
   exact (show s.length - (i+(decodeL s i).2)<s.length - i by omega)
  have fj:s.drop i=[]:=Tp oM;have g1:VG (s.length+1) s [34]=some out:=by rw [<- fu];simp [VG,fj]
  refine ⟨⟨.inr rfl,rfl,rfl,bv,oM⟩,wN ?_⟩;refine ⟨out++[34],⟨by rw [JI];rfl,rfl,rfl,.inr rfl,by rw [Ta];simp;omega⟩,wN ?_⟩;exact d7 _ (by rw [hq,g1];rfl)
 exact h.elim
def Ztj (s:Bs):Bool:=Zm (pk s).1 && decide (Vy s=s.length)
def Zhi:Zk:=fun args σ K=>match args,σ with
 | [.d (.str s)],⟨[],[],0⟩=>s.length<4294967281/\K (.ret (.d (.bool (Ztj s)))) ⟨[],[],0⟩
 | _,_=>False
def ZD5:OKw w0 nG [(219,ZbU),(220,UP),(221,Zix)] 165 Zhi:=by
 refine pwo Tryz.func165 fun args σ K h=>?_
 unfold Zhi at h
 split at h
 ·rename_i s
  obtain ⟨hs,h⟩:=h;refine pwv [] 0 false ?_;have tn:=WH (s.drop (Int.toNat 0));have hd:s.drop (Int.toNat 0)=s:=Sm;refine ⟨⟨oM,oM⟩,wN ?_⟩;refine ⟨⟨tn.1,oM⟩,wN ?_⟩;refine ZGj (fun h1=>wN ?_) (fun h1=>wN ?_)
  ·have n8:Zm (pk s).1=true:=by rw [<- hd];exact h1
   refine ⟨⟨oM,oM,hs⟩,wN ?_⟩;refine ZbW h ?_;rw [Ztj,n8,TT,decide_eq_decide,hd];omega
  have n8:Zm (pk s).1=false:=by rw [<- hd];exact h1
  rw [Ztj,n8] at h;exact h
 exact h.elim
def Xj (s:Bs):Bool:=Ztj s && (!decide (s=[95]) && !Zbg s)
def ZV (op:Nat):Nat:=if op=16 then 0 else if op=17 then 0 else if op=15 then 1 else if op=18 then 2 else if op=19 then 2 else if op=10 then 3 else if op=11 then 3 else if op=12 then 4 else if op=13 then 4 else if op=14 then 4
 else if op=8 then 5 else if op=9 then 5 else if op=20 then 6 else if op=21 then 6 else if op=22 then 6 else if op=23 then 6 else if op=24 then 6 else if op=25 then 6 else if op=6\/op=7 then 6 else if op=1\/op=2\/op=3\/op=4\/op=5 then 6 else 0
def VH (op:Nat):Bs:=if op=16 then [98,111,114] else if op=17 then [98,120,111,114] else if op=15 then [98,97,110,100] else if op=18 then [115,104,108] else if op=19 then [115,104,114] else if op=10 then [43] else if op=11 then [45] else if op=12 then [42] else if op=13 then [47] else if op=14 then [37]
 else if op=8 then [45] else if op=9 then [126] else if op=20 then [99,97,116] else if op=21 then [115,116,114,108,101,110] else if op=22 then [115,117,98,115,116,114] else if op=23 then [99,111,100,101] else if op=24 then [115,116,114] else if op=25 then [110,117,109] else []
def VZ (op:Nat):Int:=if op=16 then 2 else if op=17 then 2 else if op=15 then 2 else if op=18 then 2 else if op=19 then 2 else if op=10 then 2 else if op=11 then 2 else if op=12 then 2 else if op=13 then 2 else if op=14 then 2
 else if op=8 then 1 else if op=9 then 1 else if op=20 then 2 else if op=21 then 1 else if op=22 then 3 else if op=23 then 1 else if op=24 then 1 else if op=25 then 1 else if op=6\/op=7 then -1 else if op=1\/op=2\/op=3\/op=4\/op=5 then 0 else -2
def V0 (op:Nat) (text:Bs):Bool:=if op=1\/op=7 then Xj text else if op=4 then (Jo text).isSome else decide (text=[])
mutual
def Yf:Ex->Bool
 | .mk op text n args _=>decide (-2<VZ op) && ((decide (VZ op<0) || decide ((args.length:Int)=VZ op)) && ((decide (n=0) || decide (op=3)) && (V0 op text && Zqk args)))
def Zqk:List Ex->Bool
 | []=>true
 | e::l=>Yf e && Zqk l
end
def Zw (l:List Ex):Zqk l=l.all Yf:=by induction l with | nil=>rfl | cons x l ih=>simp [Zqk,ih]
def YY (op:Nat) (rel:Bs) (args body:Nat):Bool :=
 if op=1\/op=2 then Xj rel && !decide (0<body)
 else if 3<=op/\op<=8 then decide (rel=[]) && (decide (args=2) && !decide (0<body))
 else if op=9 then decide (rel=[]) && (decide (args=1) && decide (0<body))
 else if 9<op/\op<=12 then decide (rel=[]) && (decide (args=2) && decide (0<body)) else false
mutual
def YI:Li->Bool
 | .mk op rel args body _=>YY op rel args.length body.length && (Zqk args && Zck body)
def Zck:List Li->Bool
 | []=>true
 | e::l=>YI e && Zck l
end
def Xk (l:List Li):Zck l=l.all YI:=by induction l with | nil=>rfl | cons x l ih=>simp [Zck,ih]
def XL (r:Ru):Bool:=Xj r.head && (r.args.all Yf && r.body.all YI)
def YR (f:Fi):Bool:=Xj f.name && Xj f.typ
def Xo (c:Ca):Bool:=Xj c.name && c.fields.all YR
def Zb5 (t:Ty):Bool:=if t.kind=1 then Xj t.base && (decide (t.fields.length=0) && decide (t.cases.length=0)) else if t.kind=2 then decide (t.base=[]) && decide (t.cases.length=0)
 else if t.kind=3 then decide (t.base=[]) && (decide (t.fields.length=0) && !decide (t.cases.length=0)) else false
def Yo (t:Ty):Bool:=Zb5 t && (Xj t.name && (t.fields.all YR && t.cases.all Xo))
def X3 (d:Re):Bool:=Xj d.name && d.fields.all YR
def Wr (i:Ini):Bool:=Xj i.name && (Xj i.comp && i.types.all Xj)
def WS (o:Ov):Bool:=Xj o.rel
mutual
def Ze0:Un->Bool
 | .mk tys rels rules comps inits overs=>tys.all Yo && (rels.all X3 && (rules.all XL && (Zma comps && (inits.all Wr && overs.all WS))))
def Yi:Co->Bool
 | .mk nm ps base tys u _=>Xj nm && (ps.all Xj && (tys.all Xj && (((decide (base=[]) && decide (tys.length=0)) || Xj base) && Ze0 u)))
def Zma:List Co->Bool
 | []=>true
 | c::l=>Yi c && Zma l
end
def Ws (l:List Co):Zma l=l.all Yi:=by induction l with | nil=>rfl | cons x l ih=>simp [Zma,ih]
def ZjF (d:Nat):UInt8:=if d<10 then UInt8.ofNat (48+d) else UInt8.ofNat (87+d)
def JT (base:Nat):Nat->Nat->Bs
 | 0,_=>[]
 | f+1,n=>if n<base then [ZjF n] else JT base f (n / base)++[ZjF (n % base)]
def Ve (base n:Nat):Bs:=JT base (n+1) n
def ZfW (n:Int):Bs:=if n<0 then [48,120]++Ve 16 (n+18446744073709551616).toNat else Ve 10 n.toNat
def Zxa (s:Bs):Bs:=(Jo s).getD []
def Zh (sep:Bs):List Bs->Bs
 | []=>[]
 | [x]=>x
 | x::l=>x++(sep++Zh sep l)
def cmm:Bs:=[44,32]
def opE:Ex->Nat | .mk op _ _ _ _=>op
def Ztk (want:Nat) (p:Nat×Bs):Bs:=if p.1<want then [40]++(p.2++[41]) else p.2
def exA (w1 w2:Nat) (sep:Bs):List (Nat×Bs)->Bs
 | []=>[]
 | [a]=>Ztk w1 a
 | a::b::_=>Ztk w1 a++(sep++Ztk w2 b)
def exN (op:Nat) (text:Bs) (n:Int) (ps:List (Nat×Bs)):Bs :=
 if ZV op<5 then exA (ZV op) (ZV op+1) ([32]++(VH op++[32])) ps
 else if ZV op=5 then VH op++exA 5 5 [] ps
 else if VH op≠[] then VH op++([40]++(Zh cmm (ps.map Prod.snd)++[41]))
 else if op=6 then [91]++(Zh cmm (ps.map Prod.snd)++[93])
 else if op=7 then [36]++(text++(if ps.length=0 then [] else [40]++(Zh cmm (ps.map Prod.snd)++[41])))
 else if op=3 then ZfW n
 else if op=4 then Zxa text
 else if op=5 then [110,105,108]
 else if op=2 then [95]
 else text
mutual
def exT:Ex->Bs
 | .mk op text n args _=>exN op text n (Zql args)
def Zql:List Ex->List (Nat×Bs)
 | []=>[]
 | e::l=>(ZV (opE e),exT e)::Zql l
end
def Zqm (l:List Ex):Zql l=l.map fun e=>(ZV (opE e),exT e):=by induction l with | nil=>rfl | cons x l ih=>simp [Zql,ih]
def ZcF (l:List Ex):(Zql l).length=l.length:=by rw [Zqm,Td]
def exW (want:Nat) (e:Ex):Bs:=Ztk want (ZV (opE e),exT e)
def ZBi (l:List Ex):List Bs:=l.map exT
def US (l:List Ex):(Zql l).map Prod.snd=ZBi l:=by rw [Zqm,Sj];rfl
def X9 (fr fin:Bs) (l:List Ex):Bs:=fr++(Zh cmm (ZBi l)++fin)
def Zxb (op:Nat):Bs:=if op=3 then [32,61,32] else if op=4 then [32,33,61,32] else if op=5 then [32,60,32] else if op=6 then [32,60,61,32] else if op=7 then [32,62,32] else [32,62,61,32]
def Zkz (op:Nat):Bs:=if op=9 then [99,111,117,110,116] else if op=10 then [115,117,109] else if op=11 then [109,105,110] else [109,97,120]
def Ztl (l:List Ex):Bs:=(l.map fun e=>[32]++exT e).flatten
def Zmb:List Ex->Bs
 | []=>[]
 | e::_=>exT e
mutual
def liT:Li->Bs
 | .mk op rel args body _ =>
  if op=2 then [33]++(rel++X9 [40] [41] args)
  else if op=1 then rel++X9 [40] [41] args
  else if op<=8 then Zmb args++(Zxb op++Zmb args.tail)
  else Zmb args++([32,61,32]++(Zkz op++(Ztl args.tail++([32,58,32,123,32]++(Zh cmm (Zsm body)++[32,125])))))
def Zsm:List Li->List Bs
 | []=>[]
 | e::l=>liT e::Zsm l
end
def ZdV (l:List Li):Zsm l=l.map liT:=by induction l with | nil=>rfl | cons x l ih=>simp [Zsm,ih]
def ruT (r:Ru):Bs:=r.head++(X9 [40] [41] r.args++((if 0<r.body.length then [32,58,45,32]++Zh cmm (Zsm r.body) else [])++[46]))
def fiT (f:Fi):Bs:=f.name++([58,32]++f.typ)
def Vf (fr:Bs) (l:List Fi) (fin:Bs):Bs:=fr++(Zh cmm (l.map fiT)++fin)
def ZBj (l:List Bs):Bs:=if l.length=0 then [] else [60]++(Zh cmm l++[62])
def caT (c:Ca):Bs:=Vf (c.name++[32,123]) c.fields [125]
def tyT (t:Ty):Bs:=[116,121,112,101,32]++(t.name++((if t.kind=1 then [32,60,58,32]++t.base else if t.kind=2 then Vf [32,61,32,91] t.fields [93] else [32,61,32]++Zh [32,124,32] (t.cases.map caT))++[10]))
def reT (d:Re):Bs:=Vf ([100,101,99,108,32]++(d.name++[40])) d.fields [41]++((if d.inn then [32,105,110,112,117,116] else [])++((if d.out then [32,111,117,116,112,117,116] else [])++((if d.inl then [32,105,110,108,105,110,101] else [])++[10])))
def inT (i:Ini):Bs:=[105,110,105,116,32]++(i.name++([32,61,32]++(i.comp++(ZBj i.types++[10]))))
def ovT (o:Ov):Bs:=[111,118,101,114,114,105,100,101,32]++(o.rel++[10])
mutual
def unT:Un->Bs
 | .mk tys rels rules comps inits overs=>(tys.map tyT).flatten++((rels.map reT).flatten++((ZAy comps).flatten++((inits.map inT).flatten++((overs.map ovT).flatten++(rules.map fun r=>ruT r++[10]).flatten))))
def coT:Co->Bs
 | .mk nm ps base tys u _=>[99,111,109,112,32]++(nm++(ZBj ps++((if base=[] then [] else [32,58,32]++(base++ZBj tys))++([32,123,10]++(unT u++[125,10])))))
def ZAy:List Co->List Bs
 | []=>[]
 | c::l=>coT c::ZAy l
end
def noC:Un->Prop
 | .mk _ _ _ c i o=>c=[]/\i=[]/\o=[]
end Go.PM.Lex
end
