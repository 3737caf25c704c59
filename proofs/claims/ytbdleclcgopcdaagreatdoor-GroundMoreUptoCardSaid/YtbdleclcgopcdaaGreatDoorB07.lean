/- A part of the proof: plain logic, contracts and laws over the given program. -/
import Derived.Lib.ValidU
import Derived.Test.YtbdleclcgopcdaaGreatDoorValid
import Derived.Shelf.Unicode.ValidAny
import Derived.Lib.MapLaws
import Derived.Test.YtbdleclcgopcdaaGreatDoorB06
set_option linter.unusedVariables false
set_option linter.unusedSimpArgs false
set_option linter.all false
set_option maxRecDepth 100000
set_option maxHeartbeats 16000000
noncomputable section
section
noncomputable section
namespace Go.PM.Lex
open Go.Proofs
def tz (L:List Tok) (a:Int):Ts:=(L.drop a.toNat).map Tok.t0
def Zc (L:List Tok) (en:Int) (r:Nat):Int:=match L.drop (L.length - r) with
 | []=>en
 | t::_=>t.at'
structure ROK (L:List Tok) (a:Int) (ts:Ts):Prop where
 lo:0<=a
 hi:a<=L.length
 big:L.length<=1048576
 eq:tz L a=ts
def ROK.len {L:List Tok} {a:Int} {ts:Ts} (h:ROK L a ts):(ts.length:Int)=L.length - a:=by
 rw [<- h.eq];simp only [tz,Td,TH];have:=h.lo;have:=h.hi;omega
def ROK.next {L:List Tok} {a:Int} {t:T0} {ts:Ts} (h:ROK L a (t::ts)):ROK L (a+1) ts:=by
 have hl:=h.len;have h0:=h.lo;refine ⟨oM,by simp at hl;omega,h.big,?_⟩;have:=h.eq;simp only [tz] at this |-;rw [show (a+1).toNat=a.toNat+1 by omega,<- TM,List.map_drop,this];rfl
def Ur {ts:Ts} {ws:List Bs} (h:isW ts ws=true):ts≠[]:=by rintro rfl;simp [isW,hd] at h
def Ziq {ts:Ts} (h:ZN ts=true):ts≠[]:=by rintro rfl;simp [ZN,hd] at h
def ROK.tl {L:List Tok} {a:Int} {ts:Ts} (h:ROK L a ts) (hn:ts≠[]):ROK L (a+1) ts.tail:=by
 cases ts with
 | nil=>exact absurd rfl hn
 | cons t ts=>exact h.next
def ROK.get {L:List Tok} {a:Int} {t:T0} {ts:Ts} (h:ROK L a (t::ts)):∃x,L[a.toNat]?=some x/\x.t0=t/\∀en,Zc L en (ts.length+1)=x.at':=by
 have hl:=h.len;have h0:=h.lo;have h1:=h.eq;simp only [Te] at hl;have aa:a.toNat<L.length:=oM;refine ⟨L[a.toNat],Ta aa,?_,fun en=>?_⟩
 ·simp only [tz] at h1;rw [Tm aa] at h1;simp only [TF,List.cons.injEq] at h1;exact h1.1
 unfold Zc
 rw [show L.length - (ts.length+1)=a.toNat by omega,Tm aa]
def ROK.none {L:List Tok} {a:Int} (h:ROK L a []):a=L.length:=by have:=h.len;simp at this;omega
def ZbO (L:List Tok) (en:Int):Zc L en 0=en:=by simp [Zc]
abbrev Pl:=Nat->Int
mutual
def ZF (pl:Pl):Ex->List D
 | .mk op text n args a=>[.int .u8 op,.str text,.int .i64 n,.sl (Zf pl args),.int .i64 (pl a)]
def Zf (pl:Pl):List Ex->List (List D)
 | []=>[]
 | e::l=>ZF pl e::Zf pl l
end
mutual
def YN (pl:Pl):Li->List D
 | .mk op rel args body a=>[.int .u8 op,.str rel,.sl (Zf pl args),.sl (Zv pl body),.int .i64 (pl a)]
def Zv (pl:Pl):List Li->List (List D)
 | []=>[]
 | e::l=>YN pl e::Zv pl l
end
def ZW (pl:Pl) (r:Ru):List D:=[.str r.head,.sl (Zf pl r.args),.sl (Zv pl r.body),.int .i64 (pl r.at')]
def Zo (f:Fi):List D:=[.str f.name,.str f.typ]
def ZB (c:Ca):List D:=[.str c.name,.sl (c.fields.map Zo)]
def Zw (pl:Pl) (t:Ty):List D:=[.int .u8 t.kind,.str t.name,.str t.base,.sl (t.fields.map Zo),.sl (t.cases.map ZB),.int .i64 (pl t.at')]
def ZQ (pl:Pl) (r:Re):List D:=[.str r.name,.sl (r.fields.map Zo),.bool r.inn,.bool r.out,.bool r.inl,.int .i64 (pl r.at')]
def Ye (s:Bs):List D:=[.str s]
def X7 (pl:Pl) (i:Ini):List D:=[.str i.name,.str i.comp,.sl (i.types.map Ye),.int .i64 (pl i.at')]
def X8 (pl:Pl) (o:Ov):List D:=[.str o.rel,.int .i64 (pl o.at')]
mutual
def XQ (pl:Pl):Un->List D
 | .mk tys rels rules comps inits overs=>[.sl (tys.map (Zw pl)),.sl (rels.map (ZQ pl)),.sl (rules.map (ZW pl)),.sl (ZlA pl comps),.sl (inits.map (X7 pl)),.sl (overs.map (X8 pl))]
def XK (pl:Pl):Co->List D
 | .mk name params base types u a=>[.str name,.sl (params.map Ye),.str base,.sl (types.map Ye)]++XQ pl u++[.int .i64 (pl a)]
def ZlA (pl:Pl):List Co->List (List D)
 | []=>[]
 | e::l=>XK pl e::ZlA pl l
end
def Zb (pl:Pl) (l:List Ex):Zf pl l=l.map (ZF pl):=by induction l with | nil=>rfl | cons x l ih=>simp [Zf,ih]
def Zi (pl:Pl) (l:List Li):Zv pl l=l.map (YN pl):=by induction l with | nil=>rfl | cons x l ih=>simp [Zv,ih]
def Us (pl:Pl) (l:List Co):ZlA pl l=l.map (XK pl):=by induction l with | nil=>rfl | cons x l ih=>simp [ZlA,ih]
abbrev Za3 (l:List D):PV:=.agg (l.map .d)
abbrev flt (L:List Tok) (en:Int) (r e:Nat):PV:=.iface 253 (.agg [.d (.int .i64 (Zc L en r)),.d (.int .i64 e)])
abbrev RK:=PEnd->Int->Int->Prop
def RKk {α:Type} (enc:α->PV) (L:List Tok) (en dp lo:Int) (x:R α) (K:RK):Prop:=match x with
 | .ok v ts'=>∀a',lo<=a'->ROK L a' ts'->K (.ret (enc v)) a' dp
 | .err r e=>∀a' dp',K (.panic (flt L en r e)) a' dp'
def Xl (body:List PV->List Tok->Int->Int->Int->Ts->RK->Prop):Zn:=fun args σ K=>match args,σ with
 | .ptr 0 0::rest,⟨[.cells t [.d (.sl rows),.d (.int .i64 a),.d (.int .i64 en),.d (.int .i64 dp)]],[],0⟩=>∃L ts,rows=ZR L/\ROK L a ts /\
   body rest L en dp a ts fun pe a' dp'=>K pe ⟨[.cells t [.d (.sl (ZR L)),.d (.int .i64 a'),.d (.int .i64 en),.d (.int .i64 dp')]],[],0⟩
 | _,_=>False
def ZpV {body:List PV->List Tok->Int->Int->Int->Ts->RK->Prop} (hb:∀rest L en dp a ts (K K':RK),(∀pe a d,K pe a d->K' pe a d)->body rest L en dp a ts K->body rest L en dp a ts K'):Zy (Xl body):=fun args σ K K' hK h=>by
 unfold Xl at h |-
 split at h
 ·obtain ⟨L,ts,h1,h2,h3⟩:=h;exact ⟨L,ts,h1,h2,hb _ _ _ _ _ _ _ _ (fun pe a d hk=>hK _ _ hk) h3⟩
 exact h.elim
def Ut:Zn:=fun args σ K=>match args,σ with
 | [.d (.str s)],⟨[],[],0⟩=>∀n:Int,(YL s:Int)=n->K (.ret (.d (.int .u8 n))) ⟨[],[],0⟩
 | _,_=>False
def Zir:Zn:=fun args σ K=>match args,σ with
 | [.d (.str s)],⟨[],[],0⟩=>∀b,Znu s=b->K (.ret (.d (.bool b))) ⟨[],[],0⟩
 | _,_=>False
def Zew (s:Bs):Nat->List Bs->Int
 | _,[]=>-1
 | i,w::ws=>if s=w then i else Zew s (i+1) ws
def ZgF:Zn:=fun args σ K=>match args,σ with
 | [.d (.sl rows),.d (.str s)],⟨[],[],0⟩=>∃ws:List Bs,rows=ws.map Ye/\ws.length<=1048576/\K (.ret (.d (.int .i64 (Zew s 0 ws)))) ⟨[],[],0⟩
 | _,_=>False
def Za4:Zn:=fun args σ K=>match args,σ with
 | [.d (.sl rows),.d (.str s)],⟨[],[],0⟩=>∃ws:List Bs,rows=ws.map Ye/\ws.length<=1048576/\∀b,ws.contains s=b->K (.ret (.d (.bool b))) ⟨[],[],0⟩
 | _,_=>False
def Zad:Zn:=Xl fun rest L en dp a ts K=>match rest with
 | [.d (.int .i64 n)]=>∀fin,(n=0/\K (.ret (.agg [.d (.int .u8 (hd ts).kind),.d (.str (hd ts).text),.d (.int .i64 (hd ts).n),.d (.int .i64 (Zc L en ts.length)),.d (.int .i64 fin)])) a dp) \/
   (n=1/\K (.ret (.agg [.d (.int .u8 (hd ts.tail).kind),.d (.str (hd ts.tail).text),.d (.int .i64 (hd ts.tail).n),.d (.int .i64 (Zc L en ts.tail.length)),.d (.int .i64 fin)])) a dp)
 | _=>False
def Wt:Zn:=Xl fun rest L en dp a ts K=>match rest with
 | []=>K (.ret (.d (.int .i64 (Zc L en ts.length)))) a dp
 | _=>False
def Zis:Zn:=Xl fun rest L en dp a ts K=>match rest with
 | [.d (.sl rows)]=>∃ws:List Bs,rows=ws.map Ye/\ws.length<=1048576/\∀b,isW ts ws=b->K (.ret (.d (.bool b))) a dp
 | _=>False
def Jz (p:Ts->Bool):Zn:=Xl fun rest L en dp a ts K=>match rest with
 | []=>∀b,p ts=b->K (.ret (.d (.bool b))) a dp
 | _=>False
def YR:Zn:=Xl fun rest L en dp a ts K=>match rest with
 | [.d (.int .i64 e)]=>K (.panic (.iface 253 (.agg [.d (.int .i64 (Zc L en ts.length)),.d (.int .i64 e)]))) a dp
 | _=>False
def Zke:Zy YR:=ZpV fun rest L en dp a ts K K' hK h=>by
 split at h
 ·exact hK _ _ _ h
 exact h.elim
def XW:Zn:=Xl fun rest L en dp a ts K=>match rest with
 | [.d (.sl rows)]=>∃ws:List Bs,rows=ws.map Ye/\ws.length<=1048576/\(isW ts ws=true->ROK L (a+1) ts.tail->K (.ret (.d (.bool true))) (a+1) dp)/\(isW ts ws=false->K (.ret (.d (.bool false))) a dp)
 | _=>False
def ZlB:Zn:=Xl fun rest L en dp a ts K=>match rest with
 | [.d (.int .i64 n),.d (.int .i64 m)]=>(n=m->K (.panic (flt L en ts.length 3)) a dp)/\(n≠m->K (.ret (.tuple [])) (a+1) dp)
 | _=>False
def spR {α:Type} (enc:List Tok->Int->α->PV) (P:Ts->R α) (lo:Int):Zn:=Xl fun rest L en dp a ts K=>match rest with
 | []=>∀x,P ts=x->RKk (enc L en) L en dp (a+lo) x K
 | _=>False
def Xn:Zn:=Xl fun rest L en dp a ts K=>match rest with
 | [.d (.str w)]=>∀x,Z3 w ts=x->RKk (fun _=>.tuple []) L en dp (a+1) x K
 | _=>False
abbrev Xt:Zn:=spR (fun _ _ (v:Bs)=>.d (.str v)) XO 1
end Go.PM.Lex
end
end

section
namespace Go.PM.Lex
open Go.Proofs
variable {w0:World} {nG:Nat}
def Za5:PC w0 nG 225 Ut:=by
 refine pwe Tryz.func225 fun args σ K h=>?_
 unfold Ut at h
 split at h
 ·rename_i s
  refine pwu [] 0 false ?_
  repeat' ((conv=>whnf);refine ZFU (fun hc=>?_) (fun hc=>?_))
  all_goals (conv=>whnf)
  all_goals exact h _ (by simp [YL, *])
 exact h.elim
def Zwe:Tbl:=[(225,Ut)]
def Zkf:PC w0 nG 169 Zir:=by
 refine pwt (tbl:=Zwe) ⟨Za5,trivial⟩ Tryz.func169 fun args σ K h=>?_
 unfold Zir at h
 split at h
 ·rename_i s
  refine pwu [] 0 false ?_
  repeat' ((conv=>whnf);refine ZFU (fun hc=>?_) (fun hc=>?_))
  all_goals (conv=>whnf)
  all_goals first
   | contradiction
   | exact h _ (by subst_vars;decide)
   | skip
  intro n hn
  conv=>whnf
  refine h _ ?_;have hk:keptWords.contains s=false:=by
   have:¬s∈keptWords:=by
    simp only [keptWords,Tt,List.not_mem_nil,or_false,not_or]
    repeat' (first | assumption | refine ⟨by assumption,?_⟩)
   rw [Bool.eq_false_iff];intro g
   exact this (List.contains_iff_mem.1 g)
  rw [Znu,hk,<- hn]
  by_cases h0:YL s=0 <;> simp [h0]
 exact h.elim
def Zfl (s w:Bs) (i:Nat) (ws:List Bs):Zew s i (w::ws)=if s=w then (i:Int) else Zew s (i+1) ws:=rfl
def Zit (s:Bs):∀(ws:List Bs) (i:Nat),(0<=Zew s i ws)↔ws.contains s=true
 | [],i=>by simp [Zew]
 | w::ws,i=>by
  rw [Zfl];split
  ·rename_i h;subst h;simp
  rename_i h;rw [Zit s ws];simp [h]
def ZnA (s:Bs) (ws:List Bs) (i:Nat) (h:i<ws.length):Zew s i (ws.drop i)=if s=ws[i] then (i:Int) else Zew s (i+1) (ws.drop (i+1)):=by
 rw [Tm h,Zfl]
def ZpW:PC w0 nG 275 ZgF:=by
 refine pwe Tryz.func275 fun args σ K h=>?_
 unfold ZgF at h
 split at h
 ·rename_i rows s
  obtain ⟨ws,rfl,hw,h⟩:=h;refine pwv [(2,⟨[8],[0,1,7],fun vs σ=>∃i:Nat,vs=[.d (.int .i64 i)]/\σ=⟨[],[],0⟩/\i<=ws.length/\Zew s 0 ws=Zew s i (ws.drop i),mu1 ws.length⟩)] 0 false ?_;refine ⟨⟨0,rfl,rfl,oM,rfl⟩,?_⟩;intro vs σ hI
  obtain ⟨i,rfl,rfl,hi,hx⟩:=hI;(conv=>whnf);refine ZFU (fun hc=>wN ?_) (fun hc=>wN ?_)
  ·have hc:i<ws.length:=by have hc:(i:Int)<((ws.map Ye).length:Int):=hc;rw [Td] at hc;omega
   refine ⟨Ye ws[i],oM,by simp [hc],wN ?_⟩;rw [ZnA s ws i hc] at hx;refine ZFU (fun h1=>wN ?_) (fun h1=>wN ?_)
   ·rw [hx,Tk h1] at h;exact h
   rw [Tf h1] at hx;refine Zl ?_;refine ⟨⟨i+1,rfl,rfl,oM,hx⟩,?_⟩;exact lzM oM
  have hc:ws.length<=i:=by have hc:¬(i:Int)<((ws.map Ye).length:Int):=hc;rw [Td] at hc;omega
  rw [Tq hc] at hx;rw [hx] at h;exact h
 exact h.elim
def Zwf:Tbl:=[(275,ZgF)]
def Zkg:PC w0 nG 242 Za4:=by
 refine pwt (tbl:=Zwf) ⟨ZpW,trivial⟩ Tryz.func242 fun args σ K h=>?_
 unfold Za4 at h
 split at h
 ·rename_i rows s
  obtain ⟨ws,rfl,hw,h⟩:=h;refine pwv [] 0 false ?_;refine ⟨ws,rfl,hw,wN ?_⟩;exact h _ (by rw [Bool.eq_iff_iff,TP,<- Zit s ws 0])
 exact h.elim
def JA:PC w0 nG 241 Zad:=by
 refine pwe Tryz.func241 fun args σ K h=>?_
 unfold Zad Xl at h
 split at h
 ·rename_i t rows a en dp
  obtain ⟨L,ts,rfl,ho,h⟩:=h;split at h
  ·rename_i n
   have hl:=ho.len;have h0:=ho.lo;have h1:=ho.hi;have h2:=ho.big;have hn:n=0\/n=1:=by rcases h 0 with g | g <;> simp [g.1]
   refine pwv [] 1 false ?_;refine Zl ?_;refine ZFU (fun hc=>?_) (fun hc=>wN ?_)
   ·have hc:a+n<L.length:=by have hc:a+n<((ZR L).length:Int):=hc;rw [XJ] at hc;exact hc
    rcases hn with rfl | rfl
    ·cases ts with
     | nil=>simp at hl;omega
     | cons t0 ts =>
     obtain ⟨x,hx,rfl,hp⟩:=ho.get;(conv=>whnf);refine ⟨ZAi x,oM,by simp [ZR,hx],wN ?_⟩;have h:=h x.fin;rw [Te,hp] at h;rcases h with h | h
     ·exact h.2
     exact absurd h.1 oM
    cases ts with
    | nil=>simp at hl;omega
    | cons t1 ts =>
    cases ts with
    | nil=>simp at hl;omega
    | cons t0 ts =>
    obtain ⟨x,hx,rfl,hp⟩:=ho.next.get;(conv=>whnf);refine ⟨ZAi x,oM,by simp [ZR,hx],wN ?_⟩;have h:=h x.fin;simp only [List.tail_cons,Te,hp] at h;rcases h with h | h
    ·exact absurd h.1 oM
    exact h.2
   have hc:¬a+n<L.length:=by have hc:¬a+n<((ZR L).length:Int):=hc;rw [XJ] at hc;exact hc
   have h:=h 0;rcases hn with rfl | rfl
   ·cases ts with
    | nil => rcases h with h | h
             ·have h:=h.2;simp only [Tg,ZbO] at h;exact h
             exact absurd h.1 oM
    | cons t0 ts=>simp at hl;omega
   have:ts.tail=[]:=by
    cases ts with
    | nil=>rfl
    | cons t1 ts=>cases ts with
     | nil=>rfl
     | cons t0 ts=>simp at hl;omega
   rw [this] at h;rcases h with h | h
   ·exact absurd h.1 oM
   have h:=h.2;simp only [Tg,ZbO] at h;exact h
  exact h.elim
 exact h.elim
def ZsU:OKw w0 nG [(241,Zad)] 199 Wt:=by
 refine pwo Tryz.func199 fun args σ K h=>?_
 unfold Wt Xl at h
 split at h
 ·rename_i rest t rows a en dp
  obtain ⟨L,ts,rfl,ho,h⟩:=h;split at h
  ·skip
   refine pwv [] 1 false ?_;refine ⟨L,ts,rfl,ho,fun fin=>Or.inl ⟨rfl,wN ?_⟩⟩;exact h
  exact h.elim
 exact h.elim
def ZDy:OKw w0 nG [(241,Zad),(242,Za4)] 194 Zis:=by
 refine pwo Tryz.func194 fun args σ K h=>?_
 unfold Zis Xl at h
 split at h
 ·rename_i rest t rows a en dp
  obtain ⟨L,ts,rfl,ho,h⟩:=h;split at h
  ·rename_i rows
   obtain ⟨ws,rfl,hw,h⟩:=h;refine pwv [] 1 false ?_;refine ⟨L,ts,rfl,ho,fun fin=>Or.inl ⟨rfl,wN ?_⟩⟩;refine ZFU (fun h1=>wN ?_) (fun h1=>wN ?_)
   ·refine ⟨ws,rfl,hw,fun b hb=>wN ?_⟩;exact h _ (by simp only [isW,hb];simp [show (hd ts).kind=1 by omega])
   refine ZFU (fun h2=>wN ?_) (fun h2=>wN ?_)
   ·refine ⟨ws,rfl,hw,fun b hb=>wN ?_⟩;exact h _ (by simp only [isW,hb];simp [show (hd ts).kind=4 by omega])
   exact h _ (by simp [isW,show ¬(hd ts).kind=1 by omega,show ¬(hd ts).kind=4 by omega])
  exact h.elim
 exact h.elim
def ZsW:OKw w0 nG [(241,Zad),(169,Zir)] 203 (Jz ZN):=by
 refine pwo Tryz.func203 fun args σ K h=>?_
 unfold Jz Xl at h
 split at h
 ·rename_i rest t rows a en dp
  obtain ⟨L,ts,rfl,ho,h⟩:=h;split at h
  ·skip
   refine pwv [] 1 false ?_;refine ⟨L,ts,rfl,ho,fun fin=>Or.inl ⟨rfl,wN ?_⟩⟩;refine ZFU (fun h1=>wN ?_) (fun h1=>wN ?_)
   ·refine ZFX (fun h2=>wN ?_) (fun h2=>wN ?_)
    ·intro b hb
     conv=>whnf
     exact h _ (by simp only [ZN,hb];rw [T3 (show (hd ts).kind=1 by omega),decide_eq_false h2];simp)
    exact h _ (by simp only [ZN];rw [T3 (p:=(hd ts).text=[95]) h2];simp)
   exact h _ (by simp [ZN,show ¬(hd ts).kind=1 by omega])
  exact h.elim
 exact h.elim
def Zwh:OKw w0 nG [(199,Wt)] 193 YR:=by
 refine pwo Tryz.func193 fun args σ K h=>?_
 unfold YR Xl at h
 split at h
 ·rename_i rest t rows a en dp
  obtain ⟨L,ts,rfl,ho,h⟩:=h;split at h
  ·skip
   refine pwv [] 1 false ?_;refine ⟨L,ts,rfl,ho,wN ?_⟩;exact h
  exact h.elim
 exact h.elim
def Zwj:OKw w0 nG [(194,Zis)] 243 XW:=by
 refine pwo Tryz.func243 fun args σ K h=>?_
 unfold XW Xl at h
 split at h
 ·rename_i rest t rows a en dp
  obtain ⟨L,ts,rfl,ho,h⟩:=h;split at h
  ·rename_i rows
   obtain ⟨ws,rfl,hw,h1,h2⟩:=h;refine pwv [] 1 false ?_;refine ⟨L,ts,rfl,ho,ws,rfl,hw,fun b hb=>?_⟩
   cases b with
   | true =>
    have ai:=ho.tl (Ur hb);have g1:=ho.lo;have g2:=ai.hi;have g3:=ai.big;(conv=>whnf);refine Zl ?_;exact h1 hb ai
   | false =>
   conv=>whnf
   exact h2 hb
  exact h.elim
 exact h.elim
def Zwl:OKw w0 nG [(243,XW),(193,YR)] 201 Xn:=by
 refine pwo Tryz.func201 fun args σ K h=>?_
 unfold Xn Xl at h
 split at h
 ·rename_i rest t rows a en dp
  obtain ⟨L,ts,rfl,ho,h⟩:=h;split at h
  ·rename_i w
   refine pwv [] 1 false ?_;refine ⟨L,ts,rfl,ho,[w],rfl,sM,fun hb ai=>wN ?_,fun hb=>wN ?_⟩
   ·have h:=h _ rfl;rw [Z3,Tk hb] at h;exact h _ oM ai
   refine ⟨L,ts,rfl,ho,wN ?_⟩;have h:=h _ rfl;rw [Z3,Tf (by rw [hb];simp)] at h;exact h _ _
  exact h.elim
 exact h.elim
def Zwn:OKw w0 nG [(193,YR)] 195 ZlB:=by
 refine pwo Tryz.func195 fun args σ K h=>?_
 unfold ZlB Xl at h
 split at h
 ·rename_i rest t rows a en dp
  obtain ⟨L,ts,rfl,ho,h⟩:=h;split at h
  ·rename_i n m
   refine pwv [] 1 false ?_;have g1:=ho.lo;have g2:=ho.hi;have g3:=ho.big;refine ZFU (fun hc=>wN ?_) (fun hc=>wN ?_)
   ·refine ⟨L,ts,rfl,ho,wN ?_⟩;exact h.1 hc
   refine Zl ?_;exact h.2 hc
  exact h.elim
 exact h.elim
def ZsY:OKw w0 nG [(203,(Jz ZN)),(193,YR)] 200 Xt:=by
 refine pwo Tryz.func200 fun args σ K h=>?_
 unfold Xt spR Xl at h
 split at h
 ·rename_i rest t rows a en dp
  obtain ⟨L,ts,rfl,ho,h⟩:=h;split at h
  ·skip
   refine pwv [] 1 false ?_;have h:=h _ rfl;refine ⟨L,ts,rfl,ho,fun b hb=>?_⟩
   cases b with
   | true =>
    have ai:=ho.tl (Ziq hb);have g1:=ho.lo;have g2:=ai.hi;have g3:=ai.big;rw [XO,Tk hb] at h;(conv=>whnf);refine Zl ?_;refine Zl ?_
    cases ts with
    | nil=>exact absurd rfl (Ziq hb)
    | cons t0 ts =>
    obtain ⟨x,hx,rfl,hp⟩:=ho.get;refine ⟨ZAi x,oM,by rw [show a+1 - 1=a by omega];simp [ZR,hx],wN ?_⟩;exact h _ oM ai
   | false =>
   rw [XO,Tf (by rw [hb];simp)] at h;(conv=>whnf);exact mq79
  exact h.elim
 exact h.elim
def ZpY:OKw w0 nG [(241,Zad),(194,Zis),(169,Zir),(225,Ut)] 280 (Jz Z2):=by
 refine pwo Tryz.func280 fun args σ K h=>?_
 unfold Jz Xl at h
 split at h
 ·rename_i rest t rows a en dp
  obtain ⟨L,ts,rfl,ho,h⟩:=h;split at h
  ·skip
   refine pwv [] 1 false ?_;refine ⟨L,ts,rfl,ho,fun fin=>Or.inl ⟨rfl,wN ?_⟩⟩;refine ZFU (fun h1=>wN ?_) (fun h1=>wN ?_)
   ·refine ZFU (fun _=>wN ?_) (fun g=>absurd h1 g);exact h _ (by rw [Z2,Tk oM])
   refine ZFU (fun h2=>wN ?_) (fun h2=>wN ?_)
   ·exact h _ (by rw [Z2,Tk oM])
   refine ZFU (fun h3=>wN ?_) (fun h3=>wN ?_)
   ·refine ⟨L,ts,rfl,ho,[[45],[126],[40],[91],[36]],rfl,sM,fun b hb=>wN ?_⟩;exact h _ (by rw [Z2,Tf oM,Tk oM];exact hb)
   refine ZFU (fun h4=>wN ?_) (fun h4=>wN ?_)
   ·have e0:Z2 ts=(!Znu (hd ts).text || (decide ((hd ts).text=[110,105,108]) || decide (YL (hd ts).text≠0))):=by rw [Z2,Tf oM,Tf oM,Tk oM]
    rw [e0] at h;intro b hb
    rw [hb] at h
    cases b with
    | false => conv => whnf
               exact h _ rfl
    | true =>
    conv=>whnf
    refine ZFU (fun h5=>wN ?_) (fun h5=>wN ?_)
    ·exact h _ (by rw [T3 (p:=(hd ts).text=[110,105,108]) h5];rfl)
    intro n hn
    conv=>whnf
    exact h _ (by rw [decide_eq_false (p:=(hd ts).text=[110,105,108]) h5,<- hn];by_cases g:YL (hd ts).text=0 <;> simp [g])
   exact h _ (by rw [Z2,Tf oM,Tf oM,Tf oM])
  exact h.elim
 exact h.elim
def ZsZ:Zn:=Xl fun rest L en dp a ts K=>match rest with
 | []=>∀n k:Int,((Za0 ts).1:Int)=n->((Za0 ts).2:Int)=k->K (.ret (.tuple [.d (.int .i64 n),.d (.int .u8 k)])) a dp
 | _=>False
def ZpZ:OKw w0 nG [(241,Zad)] 320 ZsZ:=by
 refine pwo Tryz.func320 fun args σ K h=>?_
 unfold ZsZ Xl at h
 split at h
 ·rename_i rest t rows a en dp
  obtain ⟨L,ts,rfl,ho,h⟩:=h;split at h
  ·skip
   refine pwv [] 1 false ?_;refine ⟨L,ts,rfl,ho,fun fin=>Or.inl ⟨rfl,wN ?_⟩⟩;refine ZFX (fun h1=>wN ?_) (fun h1=>?_)
   ·refine ZFX (fun h2=>wN ?_) (fun h2=>?_)
    ·have e0:Za0 ts=(0,0):=by rw [Za0,Tk oM]
     exact h _ _ (by rw [e0];rfl) (by rw [e0];rfl)
    have hn:¬((hd ts).kind≠1/\(hd ts).kind≠4):=by omega
    clear h1 h2
    exact mq117
   have hn:¬((hd ts).kind≠1/\(hd ts).kind≠4):=by omega
   clear h1
   exact mq117
  exact h.elim
 exact h.elim
def Zp0 (body:List PV->List Tok->Int->Int->Int->Ts->RK->Prop):Zn:=fun args σ K=>match args,σ with
 | .ptr 0 0::rest,⟨[.cells t0 [.ptr 1 0],.cells t [.d (.sl rows),.d (.int .i64 a),.d (.int .i64 en),.d (.int .i64 dp)]],[],0⟩=>∃L ts,rows=ZR L/\ROK L a ts /\
   body rest L en dp a ts fun pe a' dp'=>K pe ⟨[.cells t0 [.ptr 1 0],.cells t [.d (.sl (ZR L)),.d (.int .i64 a'),.d (.int .i64 en),.d (.int .i64 dp')]],[],0⟩
 | _,_=>False
def ZzN {α:Type} (enc:List Tok->Int->α->PV) (P:Ts->R α) (lo:Int):Zn:=Zp0 fun rest L en dp a ts K=>match rest with
 | []=>∀x,P ts=x->RKk (enc L en) L en dp (a+lo) x K
 | _=>False
def ZlC (p:Ts->Bool):Zn:=Zp0 fun rest L en dp a ts K=>match rest with
 | []=>∀b,p ts=b->K (.ret (.d (.bool b))) a dp
 | _=>False
def Zjr {α:Type} (enc:List Tok->Int->α->PV) (P:Ts->R α) (lo:Int) (d:Nat):Zn:=Xl fun rest L en dp a ts K=>match rest with
 | []=>(dp=64 - (d:Int)/\0<=dp)/\∀x,P ts=x->RKk (enc L en) L en dp (a+lo) x K
 | _=>False
def Zs {α β:Type} (f:α->β) (l:List α) (x:α):l.map f++[f x]=(l++[x]).map f:=sM
def Uu {α : Type} (sign : Bs) (bc : Nat) (st : Ts -> Bool) (one : Ts -> R α) (f : Nat) (l : List α) (ts : Ts) : Wr sign bc st one (f + 1) l ts = if st ts = true /\ l.length = bc then .err ts.length 3
      else (one ts).bind fun x ts=>if isW ts [sign]=true then Wr sign bc st one f (l++[x]) ts.tail else .ok (l++[x]) ts:=rfl
def JB:Zn:=fun args σ K=>match args,σ with
 | [.ptr 0 0,.d (.str sg),.d (.int .i64 m),.func g1 [.ptr 0 0] [],.func g2 [] [.ptr 1 0]],⟨[.cells t [.d (.sl rows),.d (.int .i64 a),.d (.int .i64 en),.d (.int .i64 dp)],.cells t0 [.ptr 0 0]],[],0⟩ =>
   (sg=[44]/\m=12/\g1=203/\g2=277)/\∃L ts,rows=ZR L/\ROK L a ts/\∀x,XP [44] 12 ZN Uq ts=x ->
    RKk (fun (l:List Fi)=>.d (.sl (l.map (Zo)))) L en dp a x fun pe a' dp'=>K pe ⟨[.cells t [.d (.sl (ZR L)),.d (.int .i64 a'),.d (.int .i64 en),.d (.int .i64 dp')],.cells t0 [.ptr 0 0]],[],0⟩
 | _,_=>False
def Ziv:OKw w0 nG ([(203,(Jz ZN)),(193,YR),(277,(ZzN (fun _ _ (v:Fi)=>Za3 (Zo v)) Uq 1)),(243,XW)]) 276 (JB):=by
 refine pwo Tryz.func276 fun args σ K h=>?_
 unfold JB at h
 split at h
 ·rename_i sg m g1 g2 t rows a en dp t0
  obtain ⟨⟨rfl,rfl,rfl,rfl⟩,L,ts,rfl,ho,h⟩:=h;have h:=h _ rfl;have hl:=ho.len;have cx:=ho.big;have lh:=ho.lo;refine pwu [(2,⟨[11],[0,1,2,3,4],fun vs σ=>∃(l:List Fi) (a':Int) (ts':Ts) (f:Nat),vs=[.sl 0 196 (l.map (Zo))] /\
   σ=⟨[.cells t [.d (.sl (ZR L)),.d (.int .i64 a'),.d (.int .i64 en),.d (.int .i64 dp)],.cells t0 [.ptr 0 0]],[0],1⟩/\ROK L a' ts'/\a+l.length<=a'/\ts'.length<f /\
   XP [44] 12 ZN Uq ts=Wr [44] 12 ZN Uq f l ts',
   fun _ σ=>match σ with | ⟨.cells _ [_,.d (.int _ i),_,_]::_,_,_⟩=>((L.length:Int) - i).toNat | _=>0⟩)] 2 false ?_
  conv=>whnf
  refine ⟨⟨[],a,ts,ts.length+1,rfl,rfl,ho,sM,oM,rfl⟩,?_⟩;intro vs σ hI
  obtain ⟨l,a1,ts1,f,rfl,rfl,au,zz,hf,hm⟩:=hI;obtain ⟨f,rfl⟩:∃g,f=g+1:=⟨f - 1,oM⟩
  rw [Uu] at hm;have dv:=au.len;have qp:=au.hi;(conv=>whnf);refine ⟨L,ts1,rfl,au,fun b hb=>?_⟩;have step:(¬(ZN ts1=true/\l.length=12))->XP [44] 12 ZN Uq ts=((Uq) ts1).bind fun x ts=>if isW ts [[44]]=true then Wr [44] 12 ZN Uq f (l++[x]) ts.tail else .ok (l++[x]) ts:=fun g=>by rw [hm,Tf g]
  cases b with
  | false =>
   have step:=step (by rw [hb];simp);(conv=>whnf);exact mq20
  | true =>
  conv=>whnf
  refine ZFU (fun hc=>wN ?_) (fun hc=>wN ?_)
  ·have hc:l.length=12:=by
    have hc:((l.map (Zo)).length:Int)=12:=hc;rw [Td] at hc;omega
   exact mq75
  have step:=step (fun g=>hc (by show ((l.map (Zo)).length:Int)=12;rw [Td,g.2];rfl));exact mq20
 exact h.elim
def Zdo:Zn:=fun args σ K=>match args,σ with
 | [.ptr 0 0,.d (.str sg),.d (.int .i64 m),.func g1 [.ptr 0 0] [],.func g2 [.ptr 0 0] []],⟨[.cells t [.d (.sl rows),.d (.int .i64 a),.d (.int .i64 en),.d (.int .i64 dp)]],[],0⟩ =>
   (sg=[44]/\m=12/\g1=203/\g2=200)/\∃L ts,rows=ZR L/\ROK L a ts/\∀x,XP [44] 12 ZN XO ts=x ->
    RKk (fun (l:List Bs)=>.d (.sl (l.map (Ye)))) L en dp a x fun pe a' dp'=>K pe ⟨[.cells t [.d (.sl (ZR L)),.d (.int .i64 a'),.d (.int .i64 en),.d (.int .i64 dp')]],[],0⟩
 | _,_=>False
def ZnC:OKw w0 nG ([(203,(Jz ZN)),(193,YR),(200,Xt),(243,XW)]) 249 (Zdo):=by
 refine pwo Tryz.func249 fun args σ K h=>?_
 unfold Zdo at h
 split at h
 ·rename_i sg m g1 g2 t rows a en dp
  obtain ⟨⟨rfl,rfl,rfl,rfl⟩,L,ts,rfl,ho,h⟩:=h;have h:=h _ rfl;have hl:=ho.len;have cx:=ho.big;have lh:=ho.lo;refine pwu [(2,⟨[11],[0,1,2,3,4],fun vs σ=>∃(l:List Bs) (a':Int) (ts':Ts) (f:Nat),vs=[.sl 0 9 (l.map (Ye))] /\
   σ=⟨[.cells t [.d (.sl (ZR L)),.d (.int .i64 a'),.d (.int .i64 en),.d (.int .i64 dp)]],[0],1⟩/\ROK L a' ts'/\a+l.length<=a'/\ts'.length<f /\
   XP [44] 12 ZN XO ts=Wr [44] 12 ZN XO f l ts',
   fun _ σ=>match σ with | ⟨.cells _ [_,.d (.int _ i),_,_]::_,_,_⟩=>((L.length:Int) - i).toNat | _=>0⟩)] 1 false ?_
  conv=>whnf
  refine ⟨⟨[],a,ts,ts.length+1,rfl,rfl,ho,sM,oM,rfl⟩,?_⟩;intro vs σ hI
  obtain ⟨l,a1,ts1,f,rfl,rfl,au,zz,hf,hm⟩:=hI;obtain ⟨f,rfl⟩:∃g,f=g+1:=⟨f - 1,oM⟩
  rw [Uu] at hm;have dv:=au.len;have qp:=au.hi;(conv=>whnf);refine ⟨L,ts1,rfl,au,fun b hb=>?_⟩;have step:(¬(ZN ts1=true/\l.length=12))->XP [44] 12 ZN XO ts=((XO) ts1).bind fun x ts=>if isW ts [[44]]=true then Wr [44] 12 ZN XO f (l++[x]) ts.tail else .ok (l++[x]) ts:=fun g=>by rw [hm,Tf g]
  cases b with
  | false =>
   have step:=step (by rw [hb];simp);(conv=>whnf);exact mq21
  | true =>
  conv=>whnf
  refine ZFU (fun hc=>wN ?_) (fun hc=>wN ?_)
  ·have hc:l.length=12:=by
    have hc:((l.map (Ye)).length:Int)=12:=hc;rw [Td] at hc;omega
   exact mq75
  have step:=step (fun g=>hc (by show ((l.map (Ye)).length:Int)=12;rw [Td,g.2];rfl));exact mq21
 exact h.elim
def Za6:Zn:=fun args σ K=>match args,σ with
 | [.ptr 0 0,.d (.str sg),.d (.int .i64 m),.func g1 [.ptr 0 0] [],.func g2 [] [.ptr 1 0]],⟨[.cells t [.d (.sl rows),.d (.int .i64 a),.d (.int .i64 en),.d (.int .i64 dp)],.cells t0 [.ptr 0 0]],[],0⟩ =>
   (sg=[124]/\m=64/\g1=203/\g2=246)/\∃L ts,rows=ZR L/\ROK L a ts/\∀x,XP [124] 64 ZN Zdh ts=x ->
    RKk (fun (l:List Ca)=>.d (.sl (l.map (ZB)))) L en dp a x fun pe a' dp'=>K pe ⟨[.cells t [.d (.sl (ZR L)),.d (.int .i64 a'),.d (.int .i64 en),.d (.int .i64 dp')],.cells t0 [.ptr 0 0]],[],0⟩
 | _,_=>False
def Zki:OKw w0 nG ([(203,(Jz ZN)),(193,YR),(246,(ZzN (fun _ _ (v:Ca)=>Za3 (ZB v)) Zdh 1)),(243,XW)]) 245 (Za6):=by
 refine pwo Tryz.func245 fun args σ K h=>?_
 unfold Za6 at h
 split at h
 ·rename_i sg m g1 g2 t rows a en dp t0
  obtain ⟨⟨rfl,rfl,rfl,rfl⟩,L,ts,rfl,ho,h⟩:=h;have h:=h _ rfl;have hl:=ho.len;have cx:=ho.big;have lh:=ho.lo;refine pwu [(2,⟨[11],[0,1,2,3,4],fun vs σ=>∃(l:List Ca) (a':Int) (ts':Ts) (f:Nat),vs=[.sl 0 155 (l.map (ZB))] /\
   σ=⟨[.cells t [.d (.sl (ZR L)),.d (.int .i64 a'),.d (.int .i64 en),.d (.int .i64 dp)],.cells t0 [.ptr 0 0]],[0],1⟩/\ROK L a' ts'/\a+l.length<=a'/\ts'.length<f /\
   XP [124] 64 ZN Zdh ts=Wr [124] 64 ZN Zdh f l ts',
   fun _ σ=>match σ with | ⟨.cells _ [_,.d (.int _ i),_,_]::_,_,_⟩=>((L.length:Int) - i).toNat | _=>0⟩)] 2 false ?_
  conv=>whnf
  refine ⟨⟨[],a,ts,ts.length+1,rfl,rfl,ho,sM,oM,rfl⟩,?_⟩;intro vs σ hI
  obtain ⟨l,a1,ts1,f,rfl,rfl,au,zz,hf,hm⟩:=hI;obtain ⟨f,rfl⟩:∃g,f=g+1:=⟨f - 1,oM⟩
  rw [Uu] at hm;have dv:=au.len;have qp:=au.hi;(conv=>whnf);refine ⟨L,ts1,rfl,au,fun b hb=>?_⟩;have step:(¬(ZN ts1=true/\l.length=64))->XP [124] 64 ZN Zdh ts=((Zdh) ts1).bind fun x ts=>if isW ts [[124]]=true then Wr [124] 64 ZN Zdh f (l++[x]) ts.tail else .ok (l++[x]) ts:=fun g=>by rw [hm,Tf g]
  cases b with
  | false =>
   have step:=step (by rw [hb];simp);(conv=>whnf);exact mq19
  | true =>
  conv=>whnf
  refine ZFU (fun hc=>wN ?_) (fun hc=>wN ?_)
  ·have hc:l.length=64:=by
    have hc:((l.map (ZB)).length:Int)=64:=hc;rw [Td] at hc;omega
   exact mq75
  have step:=step (fun g=>hc (by show ((l.map (ZB)).length:Int)=64;rw [Td,g.2];rfl));exact mq19
 exact h.elim
def Zae (d:Nat):Zn:=fun args σ K=>match args,σ with
 | [.ptr 0 0,.d (.str sg),.d (.int .i64 m),.func g1 [.ptr 0 0] [],.func g2 [.ptr 0 0] []],⟨[.cells t [.d (.sl rows),.d (.int .i64 a),.d (.int .i64 en),.d (.int .i64 dp)]],[],0⟩ =>
   (sg=[44]/\m=12/\g1=280/\g2=281/\(dp=64 - (d:Int)/\0<=dp))/\∃L ts,rows=ZR L/\ROK L a ts/\∀x,XP [44] 12 Z2 (Zab d) ts=x ->
    RKk (fun (l:List Ex)=>.d (.sl (l.map (ZF (Zc L en))))) L en dp a x fun pe a' dp'=>K pe ⟨[.cells t [.d (.sl (ZR L)),.d (.int .i64 a'),.d (.int .i64 en),.d (.int .i64 dp')]],[],0⟩
 | _,_=>False
def Zp2 (d:Nat):OKw w0 nG [(280,(Jz Z2)),(193,YR),(281,(Zjr (fun L en (v:Ex)=>Za3 (ZF (Zc L en) v)) (Zab d) 0 d)),(243,XW)] 279 (Zae d):=by
 refine pwo Tryz.func279 fun args σ K h=>?_
 unfold Zae at h
 split at h
 ·rename_i sg m g1 g2 t rows a en dp
  obtain ⟨⟨rfl,rfl,rfl,rfl,fe⟩,L,ts,rfl,ho,h⟩:=h;have h:=h _ rfl;have hl:=ho.len;have cx:=ho.big;have lh:=ho.lo;refine pwu [(2,⟨[11],[0,1,2,3,4],fun vs σ=>∃(l:List Ex) (a':Int) (ts':Ts) (f:Nat),vs=[.sl 0 36 (l.map (ZF (Zc L en)))] /\
   σ=⟨[.cells t [.d (.sl (ZR L)),.d (.int .i64 a'),.d (.int .i64 en),.d (.int .i64 dp)]],[0],1⟩/\ROK L a' ts'/\a+l.length<=a'/\ts'.length<f /\
   XP [44] 12 Z2 (Zab d) ts=Wr [44] 12 Z2 (Zab d) f l ts',
   fun _ σ=>match σ with | ⟨.cells _ [_,.d (.int _ i),_,_]::_,_,_⟩=>((L.length:Int) - i).toNat | _=>0⟩)] 1 false ?_
  conv=>whnf
  refine ⟨⟨[],a,ts,ts.length+1,rfl,rfl,ho,sM,oM,rfl⟩,?_⟩;intro vs σ hI
  obtain ⟨l,a1,ts1,f,rfl,rfl,au,zz,hf,hm⟩:=hI;obtain ⟨f,rfl⟩:∃g,f=g+1:=⟨f - 1,oM⟩
  rw [Uu] at hm;have dv:=au.len;have qp:=au.hi;(conv=>whnf);refine ⟨L,ts1,rfl,au,fun b hb=>?_⟩;have step:(¬(Z2 ts1=true/\l.length=12))->XP [44] 12 Z2 (Zab d) ts=(((Zab d)) ts1).bind fun x ts=>if isW ts [[44]]=true then Wr [44] 12 Z2 (Zab d) f (l++[x]) ts.tail else .ok (l++[x]) ts:=fun g=>by rw [hm,Tf g]
  cases b with
  | false =>
   have step:=step (by rw [hb];simp);(conv=>whnf);exact mq17
  | true =>
  conv=>whnf
  refine ZFU (fun hc=>wN ?_) (fun hc=>wN ?_)
  ·have hc:l.length=12:=by
    have hc:((l.map (ZF (Zc L en))).length:Int)=12:=hc;rw [Td] at hc;omega
   exact mq75
  have step:=step (fun g=>hc (by show ((l.map (ZF (Zc L en))).length:Int)=12;rw [Td,g.2];rfl));exact mq17
 exact h.elim
def ZgG (d:Nat):Zn:=fun args σ K=>match args,σ with
 | [.ptr 0 0,.d (.str sg),.d (.int .i64 m),.func g1 [] [.ptr 1 0],.func g2 [.ptr 0 0] []],⟨[.cells t [.d (.sl rows),.d (.int .i64 a),.d (.int .i64 en),.d (.int .i64 dp)],.cells t0 [.ptr 0 0]],[],0⟩ =>
   (sg=[44]/\m=32/\g1=283/\g2=284/\(dp=64 - (d:Int)/\0<=dp))/\∃L ts,rows=ZR L/\ROK L a ts/\∀x,XP [44] 32 Yd (Znw d (Zeu d)) ts=x ->
    RKk (fun (l:List Li)=>.d (.sl (l.map (YN (Zc L en))))) L en dp a x fun pe a' dp'=>K pe ⟨[.cells t [.d (.sl (ZR L)),.d (.int .i64 a'),.d (.int .i64 en),.d (.int .i64 dp')],.cells t0 [.ptr 0 0]],[],0⟩
 | _,_=>False
def Zp4 (d:Nat):OKw w0 nG [(283,(ZlC Yd)),(193,YR),(284,(Zjr (fun L en (v:Li)=>Za3 (YN (Zc L en) v)) (Znw d (Zeu d)) 0 d)),(243,XW)] 282 (ZgG d):=by
 refine pwo Tryz.func282 fun args σ K h=>?_
 unfold ZgG at h
 split at h
 ·rename_i sg m g1 g2 t rows a en dp t0
  obtain ⟨⟨rfl,rfl,rfl,rfl,fe⟩,L,ts,rfl,ho,h⟩:=h;have h:=h _ rfl;have hl:=ho.len;have cx:=ho.big;have lh:=ho.lo;refine pwu [(2,⟨[11],[0,1,2,3,4],fun vs σ=>∃(l:List Li) (a':Int) (ts':Ts) (f:Nat),vs=[.sl 0 33 (l.map (YN (Zc L en)))] /\
   σ=⟨[.cells t [.d (.sl (ZR L)),.d (.int .i64 a'),.d (.int .i64 en),.d (.int .i64 dp)],.cells t0 [.ptr 0 0]],[0],1⟩/\ROK L a' ts'/\a+l.length<=a'/\ts'.length<f /\
   XP [44] 32 Yd (Znw d (Zeu d)) ts=Wr [44] 32 Yd (Znw d (Zeu d)) f l ts',
   fun _ σ=>match σ with | ⟨.cells _ [_,.d (.int _ i),_,_]::_,_,_⟩=>((L.length:Int) - i).toNat | _=>0⟩)] 2 false ?_
  conv=>whnf
  refine ⟨⟨[],a,ts,ts.length+1,rfl,rfl,ho,sM,oM,rfl⟩,?_⟩;intro vs σ hI
  obtain ⟨l,a1,ts1,f,rfl,rfl,au,zz,hf,hm⟩:=hI;obtain ⟨f,rfl⟩:∃g,f=g+1:=⟨f - 1,oM⟩
  rw [Uu] at hm;have dv:=au.len;have qp:=au.hi;(conv=>whnf);refine ⟨L,ts1,rfl,au,fun b hb=>?_⟩;have step:(¬(Yd ts1=true/\l.length=32))->XP [44] 32 Yd (Znw d (Zeu d)) ts=(((Znw d (Zeu d))) ts1).bind fun x ts=>if isW ts [[44]]=true then Wr [44] 32 Yd (Znw d (Zeu d)) f (l++[x]) ts.tail else .ok (l++[x]) ts:=fun g=>by rw [hm,Tf g]
  cases b with
  | false =>
   have step:=step (by rw [hb];simp);(conv=>whnf);exact mq16
  | true =>
  conv=>whnf
  refine ZFU (fun hc=>wN ?_) (fun hc=>wN ?_)
  ·have hc:l.length=32:=by
    have hc:((l.map (YN (Zc L en))).length:Int)=32:=hc;rw [Td] at hc;omega
   exact mq75
  have step:=step (fun g=>hc (by show ((l.map (YN (Zc L en))).length:Int)=32;rw [Td,g.2];rfl));exact mq16
 exact h.elim
abbrev ZgH:Zn:=ZzN (fun _ _ (v:Fi)=>Za3 (Zo v)) Uq 1
abbrev Zkj:Zn:=ZzN (fun _ _ (v:Ca)=>Za3 (ZB v)) Zdh 1
def UP:Zn:=Xl fun rest L en dp a ts K=>match rest with
 | [.d (.str w)]=>∀x,Za1 w ts=x->RKk (fun (v:List Fi)=>.d (.sl (v.map Zo))) L en dp a x K
 | _=>False
abbrev Zdp:Zn:=spR (fun _ _ (v:List Bs)=>.d (.sl (v.map Ye))) Zfk 0
abbrev ZgI:Zn:=spR (fun L en (v:Ty)=>Za3 (Zw (Zc L en) v)) Zio 0
abbrev ZlD:Zn:=spR (fun L en (v:Re)=>Za3 (ZQ (Zc L en) v)) ZpN 0
def Zp6:OKw w0 nG [(200,Xt),(201,Xn)] 277 ZgH:=by
 refine pwo Tryz.func277 fun args σ K h=>?_
 unfold ZgH ZzN Zp0 at h
 split at h
 ·rename_i rest t0 t rows a en dp
  obtain ⟨L,ts,rfl,ho,h⟩:=h;split at h
  ·skip
   have h0:=ho.lo;have h1:=ho.hi;have h2:=ho.big;refine pwv [] 2 false ?_;have h:=h _ rfl;unfold Uq at h
   refine ⟨L,ts,rfl,ho,fun x dh=>?_⟩;rcases x with ⟨v1,ts1⟩ | ⟨r1,e1⟩
   rotate_left
   ·exact mq53
   rw [dh,R.bind_ok] at h;intro a1 ee au
   have cm:=au.hi;(conv=>whnf);refine ⟨L,ts1,rfl,au,fun x bm=>?_⟩;exact mq171
  exact h.elim
 exact h.elim
def Zp8:OKw w0 nG [(194,Zis),(276,JB)] 244 UP:=by
 refine pwo Tryz.func244 fun args σ K h=>?_
 unfold UP Xl at h
 split at h
 ·rename_i rest t rows a en dp
  obtain ⟨L,ts,rfl,ho,h⟩:=h;split at h
  ·rename_i w
   have h0:=ho.lo;have h1:=ho.hi;have h2:=ho.big;refine pwv [] 1 false ?_;have h:=h _ rfl;unfold Za1 at h
   refine ⟨L,ts,rfl,ho,[w],rfl,sM,fun b1 ef=>?_⟩
   cases b1 with
   | true =>
    rw [Tk ef] at h;(conv=>whnf);exact h _ oM ho
   | false =>
   rw [Tf (by rw [ef];simp)] at h;(conv=>whnf);refine ⟨⟨rfl,rfl,rfl,rfl⟩,L,ts,rfl,ho,fun x bm=>?_⟩;rcases x with ⟨v2,ts2⟩ | ⟨r2,e2⟩
   rotate_left
   ·rw [bm] at h;intro a9 d9;(conv=>whnf);exact h _ _
   rw [bm] at h;intro a2 f7 ai
   have ga:=ai.hi;(conv=>whnf);exact h _ oM ai
  exact h.elim
 exact h.elim
def Zs1:OKw w0 nG [(243,XW),(249,Zdo),(201,Xn)] 202 Zdp:=by
 refine pwo Tryz.func202 fun args σ K h=>?_
 unfold Zdp spR Xl at h
 split at h
 ·rename_i rest t rows a en dp
  obtain ⟨L,ts,rfl,ho,h⟩:=h;split at h
  ·skip
   have h0:=ho.lo;have h1:=ho.hi;have h2:=ho.big;refine pwv [] 1 false ?_;have h:=h _ rfl;unfold Zfk at h
   refine ⟨L,ts,rfl,ho,[[60]],rfl,sM,fun ef au=>wN ?_,fun ef=>wN ?_⟩
   ·rw [Tk ef] at h;have cm:=au.hi;refine ⟨⟨rfl,rfl,rfl,rfl⟩,L,ts.tail,rfl,au,fun x bm=>?_⟩;exact mq171
   rw [Tf (by rw [ef];simp)] at h;exact h _ oM ho
  exact h.elim
 exact h.elim
def Zs3:OKw w0 nG [(200,Xt),(201,Xn),(244,UP)] 246 Zkj:=by
 refine pwo Tryz.func246 fun args σ K h=>?_
 unfold Zkj ZzN Zp0 at h
 split at h
 ·rename_i rest t0 t rows a en dp
  obtain ⟨L,ts,rfl,ho,h⟩:=h;split at h
  ·skip
   have h0:=ho.lo;have h1:=ho.hi;have h2:=ho.big;refine pwv [] 2 false ?_;have h:=h _ rfl;unfold Zdh at h
   refine ⟨L,ts,rfl,ho,fun x dh=>?_⟩;rcases x with ⟨v1,ts1⟩ | ⟨r1,e1⟩
   rotate_left
   ·exact mq53
   rw [dh,R.bind_ok] at h;intro a1 ee au
   have cm:=au.hi;(conv=>whnf);refine ⟨L,ts1,rfl,au,fun x bm=>?_⟩;rcases x with ⟨v2,ts2⟩ | ⟨r2,e2⟩
   rotate_left
   ·exact mq44
   rw [bm,R.bind_ok] at h;intro a2 f7 ai
   have ga:=ai.hi;(conv=>whnf);refine ⟨L,ts2,rfl,ai,fun x et=>?_⟩;rcases x with ⟨v3,ts3⟩ | ⟨r3,e3⟩
   rotate_left
   ·exact mq18
   rw [et,R.bind_ok] at h;intro a3 gg bq
   have jw:=bq.hi;(conv=>whnf);refine ⟨L,ts3,rfl,bq,fun x me=>?_⟩;rcases x with ⟨v4,ts4⟩ | ⟨r4,e4⟩
   rotate_left
   ·exact mq106
   rw [me,R.bind_ok] at h;intro a4 mt f9
   have rv:=f9.hi;(conv=>whnf);exact h _ oM f9
  exact h.elim
 exact h.elim
def Zs5:OKw w0 nG [(199,Wt),(200,Xt),(243,XW),(201,Xn),(244,UP),(245,Za6)] 196 ZgI:=by
 refine pwo Tryz.func196 fun args σ K h=>?_
 unfold ZgI spR Xl at h
 split at h
 ·rename_i rest t rows a en dp
  obtain ⟨L,ts,rfl,ho,h⟩:=h;split at h
  ·skip
   have h0:=ho.lo;have h1:=ho.hi;have h2:=ho.big;refine pwv [] 1 false ?_;have h:=h _ rfl;unfold Zio at h
   refine ⟨L,ts,rfl,ho,wN ?_⟩;refine ⟨L,ts,rfl,ho,fun x dh=>?_⟩;rcases x with ⟨v1,ts1⟩ | ⟨r1,e1⟩
   rotate_left
   ·exact mq53
   rw [dh,R.bind_ok] at h;intro a1 ee au
   have cm:=au.hi;(conv=>whnf);refine ⟨L,ts1,rfl,au,[[60,58]],rfl,sM,fun ox ai=>wN ?_,fun ox=>wN ?_⟩
   ·rw [Tk ox] at h;have ga:=ai.hi;refine ⟨L,ts1.tail,rfl,ai,fun x et=>?_⟩;rcases x with ⟨v3,ts3⟩ | ⟨r3,e3⟩
    rotate_left
    ·exact mq18
    exact mq113
   rw [Tf (by rw [ox];simp)] at h;refine ⟨L,ts1,rfl,au,fun x et=>?_⟩;rcases x with ⟨v3,ts3⟩ | ⟨r3,e3⟩
   rotate_left
   ·exact mq18
   rw [et,R.bind_ok] at h;intro a3 gg bq
   have jw:=bq.hi;(conv=>whnf);refine ⟨L,ts3,rfl,bq,[[91]],rfl,sM,fun pb f9=>wN ?_,fun pb=>wN ?_⟩
   ·rw [Tk pb] at h;have rv:=f9.hi;refine ⟨L,ts3.tail,rfl,f9,fun x kw=>?_⟩;rcases x with ⟨v5,ts5⟩ | ⟨r5,e5⟩
    rotate_left
    ·exact mq43
    rw [kw,R.bind_ok] at h;intro a5 ly gq
    have ui:=gq.hi;(conv=>whnf);refine ⟨L,ts5,rfl,gq,fun x qq=>?_⟩;rcases x with ⟨v6,ts6⟩ | ⟨r6,e6⟩
    rotate_left
    ·rw [qq,R.bind_err] at h;intro a9 d9;(conv=>whnf);exact h _ _
    rw [qq,R.bind_ok] at h;intro a6 xp nk
    have hb6:=nk.hi;(conv=>whnf);exact h _ oM nk
   rw [Tf (by rw [pb];simp)] at h;refine ⟨⟨rfl,rfl,rfl,rfl⟩,L,ts3,rfl,bq,fun x kw=>?_⟩;rcases x with ⟨v5,ts5⟩ | ⟨r5,e5⟩
   rotate_left
   ·exact mq43
   rw [kw,R.bind_ok] at h;intro a5 ly gq
   have ui:=gq.hi;(conv=>whnf);exact h _ oM gq
  exact h.elim
 exact h.elim
def JS (i o n:Bool):Nat:=(match i with | true=>0 | false=>1)+(match o with | true=>0 | false=>1)+(match n with | true=>0 | false=>1)
def ZnD (f : Nat) (i o n : Bool) (ts : Ts) : Y4 (f + 1) i o n ts = if i = false /\ isW ts [[105, 110, 112, 117, 116]] = true then Y4 f true o n ts.tail
      else if o=false/\isW ts [[111,117,116,112,117,116]]=true then Y4 f i true n ts.tail
      else if n=false/\isW ts [[105,110,108,105,110,101]]=true then Y4 f i o true ts.tail
      else ((i,o,n),ts):=rfl
def Zwp:OKw w0 nG [(199,Wt),(200,Xt),(243,XW),(201,Xn),(244,UP)] 197 ZlD:=by
 refine pwo Tryz.func197 fun args σ K h=>?_
 unfold ZlD spR Xl at h
 split at h
 ·rename_i rest t rows a en dp
  obtain ⟨L,ts,rfl,ho,h⟩:=h;split at h
  ·skip
   have h0:=ho.lo;have h1:=ho.hi;have h2:=ho.big;refine pwv [(7,⟨[],[0,2,3],fun vs σ=>∃(nm:Bs) (l:List Fi) (a5:Int) (ts5:Ts) (i o n:Bool) (a':Int) (ts':Ts) (f:Nat),vs=[]/\σ=⟨[.cells t [.d (.sl (ZR L)),.d (.int .i64 a'),.d (.int .i64 en),.d (.int .i64 dp)],.cells 152 [.d (.str []),.sl 0 196 [],.d (.bool false),.d (.bool false),.d (.bool false),.d (.int .i64 0)],.cells 152 [.d (.str nm),.d (.sl (l.map Zo)),.d (.bool i),.d (.bool o),.d (.bool n),.d (.int .i64 (Zc L en ts.length))]],[0],1⟩/\ROK L a' ts'/\a<=a'/\JS i o n<f/\RKk (fun (v:Re)=>Za3 (ZQ (Zc L en) v)) L en dp (a+0) (R.ok ⟨nm,l,(Y4 f i o n ts').1.1,(Y4 f i o n ts').1.2.1,(Y4 f i o n ts').1.2.2,ts.length⟩ (Y4 f i o n ts').2) (fun pe a' dp'=>K pe ⟨[.cells t [.d (.sl (ZR L)),.d (.int .i64 a'),.d (.int .i64 en),.d (.int .i64 dp')]],[],0⟩),fun _ σ=>match σ with | ⟨[_,_,.cells _ [_,_,.d (.bool i),.d (.bool o),.d (.bool n),_]],_,_⟩=>JS i o n | _=>0⟩)] 1 false ?_;have h:=h _ rfl;unfold ZpN at h
   refine ⟨L,ts,rfl,ho,wN ?_⟩;refine ⟨L,ts,rfl,ho,fun x dh=>?_⟩;rcases x with ⟨v1,ts1⟩ | ⟨r1,e1⟩
   rotate_left
   ·exact mq53
   rw [dh,R.bind_ok] at h;intro a1 ee au
   have cm:=au.hi;(conv=>whnf);refine ⟨L,ts1,rfl,au,fun x bm=>?_⟩;rcases x with ⟨v2,ts2⟩ | ⟨r2,e2⟩
   rotate_left
   ·exact mq44
   rw [bm,R.bind_ok] at h;intro a2 f7 ai
   have ga:=ai.hi;(conv=>whnf);refine ⟨L,ts2,rfl,ai,fun x et=>?_⟩;rcases x with ⟨v3,ts3⟩ | ⟨r3,e3⟩
   rotate_left
   ·exact mq18
   rw [et,R.bind_ok] at h;intro a3 gg bq
   have jw:=bq.hi;(conv=>whnf);refine ⟨L,ts3,rfl,bq,fun x me=>?_⟩;rcases x with ⟨v4,ts4⟩ | ⟨r4,e4⟩
   rotate_left
   ·exact mq106
   rw [me,R.bind_ok] at h;intro a4 mt f9
   have rv:=f9.hi;(conv=>whnf);refine ⟨⟨v1,v3,a4,ts4,false,false,false,a4,ts4,4,rfl,rfl,f9,oM,dM,h⟩,?_⟩
   clear h dh bm et me au ai bq f9 cm ga jw rv ee f7 gg mt
   intro vs σ hI
   obtain ⟨nm,l,a5,ts5,i,o,n,a',ts',f,rfl,rfl,cq,aj,hf,h⟩:=hI;obtain ⟨f,rfl⟩:∃g,f=g+1:=⟨f - 1,oM⟩
   rw [ZnD] at h;have qw:=cq.hi;(conv=>whnf)
   cases i with
   | true =>
    rw [Tf sM] at h;(conv=>whnf)
    cases o with
    | true =>
     rw [Tf sM] at h;(conv=>whnf)
     cases n with
     | true =>
      exact mq150
     | false =>
     conv=>whnf
     refine ⟨L,ts',rfl,cq,[[105,110,108,105,110,101]],rfl,sM,fun gh gr=>wN ?_,fun gh=>wN ?_⟩
     ·rw [Tk ⟨rfl,gh⟩] at h;have rx:=gr.hi;refine ⟨⟨nm,l,a5,ts5,true,true,true,a'+1,ts'.tail,f,rfl,rfl,gr,oM,?_,h⟩,?_⟩
      ·(simp only [JS] at hf |-;omega)
      show JS true true true<JS true true false
      (simp only [JS];omega)
     exact mq144
    | false =>
    conv=>whnf
    refine ⟨L,ts',rfl,cq,[[111,117,116,112,117,116]],rfl,sM,fun gh gr=>wN ?_,fun gh=>wN ?_⟩
    ·rw [Tk ⟨rfl,gh⟩] at h;have rx:=gr.hi;refine ⟨⟨nm,l,a5,ts5,true,true,n,a'+1,ts'.tail,f,rfl,rfl,gr,oM,?_,h⟩,?_⟩
     ·cases n <;> (simp only [JS] at hf |-;omega)
     show JS true true n<JS true false n
     cases n <;> (simp only [JS];omega)
    rw [Tf (by rw [gh];simp)] at h
    cases n with
    | true =>
     exact mq150
    | false =>
    conv=>whnf
    refine ⟨L,ts',rfl,cq,[[105,110,108,105,110,101]],rfl,sM,fun gh gr=>wN ?_,fun gh=>wN ?_⟩
    ·rw [Tk ⟨rfl,gh⟩] at h;have rx:=gr.hi;refine ⟨⟨nm,l,a5,ts5,true,false,true,a'+1,ts'.tail,f,rfl,rfl,gr,oM,?_,h⟩,?_⟩
     ·(simp only [JS] at hf |-;omega)
     show JS true false true<JS true false false
     (simp only [JS];omega)
    exact mq144
   | false =>
   conv=>whnf
   refine ⟨L,ts',rfl,cq,[[105,110,112,117,116]],rfl,sM,fun gh gr=>wN ?_,fun gh=>wN ?_⟩
   ·rw [Tk ⟨rfl,gh⟩] at h;have rx:=gr.hi;refine ⟨⟨nm,l,a5,ts5,true,o,n,a'+1,ts'.tail,f,rfl,rfl,gr,oM,?_,h⟩,?_⟩
    ·cases o <;> cases n <;> (simp only [JS] at hf |-;omega)
    show JS true o n<JS false o n
    cases o <;> cases n <;> (simp only [JS];omega)
   rw [Tf (by rw [gh];simp)] at h
   cases o with
   | true =>
    rw [Tf sM] at h;(conv=>whnf)
    cases n with
    | true =>
     exact mq150
    | false =>
    conv=>whnf
    refine ⟨L,ts',rfl,cq,[[105,110,108,105,110,101]],rfl,sM,fun gh gr=>wN ?_,fun gh=>wN ?_⟩
    ·rw [Tk ⟨rfl,gh⟩] at h;have rx:=gr.hi;refine ⟨⟨nm,l,a5,ts5,false,true,true,a'+1,ts'.tail,f,rfl,rfl,gr,oM,?_,h⟩,?_⟩
     ·(simp only [JS] at hf |-;omega)
     show JS false true true<JS false true false
     (simp only [JS];omega)
    exact mq144
   | false =>
   conv=>whnf
   refine ⟨L,ts',rfl,cq,[[111,117,116,112,117,116]],rfl,sM,fun gh gr=>wN ?_,fun gh=>wN ?_⟩
   ·rw [Tk ⟨rfl,gh⟩] at h;have rx:=gr.hi;refine ⟨⟨nm,l,a5,ts5,false,true,n,a'+1,ts'.tail,f,rfl,rfl,gr,oM,?_,h⟩,?_⟩
    ·cases n <;> (simp only [JS] at hf |-;omega)
    show JS false true n<JS false false n
    cases n <;> (simp only [JS];omega)
   rw [Tf (by rw [gh];simp)] at h
   cases n with
   | true =>
    exact mq150
   | false =>
   conv=>whnf
   refine ⟨L,ts',rfl,cq,[[105,110,108,105,110,101]],rfl,sM,fun gh gr=>wN ?_,fun gh=>wN ?_⟩
   ·rw [Tk ⟨rfl,gh⟩] at h;have rx:=gr.hi;refine ⟨⟨nm,l,a5,ts5,false,false,true,a'+1,ts'.tail,f,rfl,rfl,gr,oM,?_,h⟩,?_⟩
    ·(simp only [JS] at hf |-;omega)
    show JS false false true<JS false false false
    (simp only [JS];omega)
   exact mq144
  exact h.elim
 exact h.elim
def ZlE (fn:Func) (tb:Tbl):Zn:=fun args σ K=>∃K0:PEnd->St->Prop,(∀e σ,K0 e σ->K e σ)/\args.length<=fn.ntmps/\WF (ctx Vq tb (Zj [])) fn σ.bx.length false args σ K0
def Zp9 (fn:Func) (tb:Tbl):Zy (ZlE fn tb):=fun args σ K K' hK ⟨K0,h1,h2⟩=>⟨K0,fun e σ h=>hK _ _ (h1 e σ h),h2⟩
def ZAq (fn:Func) (unr:Nat->Nat) (tb:Tbl):Zn:=fun args σ K=>∃K0:PEnd->St->Prop,(∀e σ,K0 e σ->K e σ)/\args.length<=fn.ntmps/\WF (ZDg Vq tb (Zj []) unr (Yh [])) fn σ.bx.length false args σ K0
def _root_.Go.PM.PCalls.closed {G:GE} {g:FuncId} {sp:Zn} (h:PCalls G g sp):PCalls G g (fun args σ K=>∃K0:PEnd->St->Prop,(∀e σ,K0 e σ->K e σ)/\sp args σ K0):=⟨h.enters,fun args σ K ⟨K0,hK,hs⟩ n e w vs hS ha =>
 (h.calls args σ K0 hs n e w vs hS ha).mono fun en w' ⟨pe,σ',e',hk,hr⟩=>⟨pe,σ',e',hK _ _ hk,hr⟩⟩
def Zb6 {g : FuncId} {fn : Func} {c : Code} {tb : Tbl} (ht : TO w0 nG tb) (hf : (GG w0 nG).P.funcs[g]? = some fn) (hb : fn.body = some c) (ak : (fn.name == "runtime.NumGoroutine") = false) (ao : ZE fn.ntmps c = true) : PC w0 nG g (ZlE fn tb) := by
 have h:PC w0 nG g (fun args σ K=>args.length<=fn.ntmps/\WF (ctx Vq tb (Zj [])) fn σ.bx.length false args σ K):=by
  refine Zh9 Zx mixed ht hf hb ak ao ?_;intro args σ K h
  exact ⟨Zj [],σ.bx.length,false,Tu _,h.1,h.2⟩
 exact h.closed
def ZAr {g : FuncId} {fn : Func} {c : Code} {unr : Nat -> Nat} {tb : Tbl} (ht : TO w0 nG tb) (hf : (GG w0 nG).P.funcs[g]? = some fn) (hb : fn.body = some c) (ak : (fn.name == "runtime.NumGoroutine") = false) (ao : ZE fn.ntmps c = true) : PC w0 nG g (ZAq fn unr tb) := by
 have h:PC w0 nG g (fun args σ K=>args.length<=fn.ntmps/\WF (ZDg Vq tb (Zj []) unr (Yh [])) fn σ.bx.length false args σ K):=by
  refine XN Zx mixed ht hf hb ak ao ?_;intro args σ K h
  exact ⟨Zj [],unr,Yh [],σ.bx.length,false,Tu _,h.1,h.2⟩
 exact h.closed
def Zwq {α:Type} (enc:List Tok->Int->α->PV) (P:Ts->R α) (lo:Int) (d:Nat):Zn:=Xl fun rest L en dp a ts K=>match rest with
 | []=>(0<d/\dp=65 - (d:Int)/\0<=dp)/\∀x,P ts=x->RKk (enc L en) L en dp (a+lo) x K
 | _=>False
def Zdq {α:Type} {enc:List Tok->Int->α->PV} {P:Ts->R α} {lo:Int} {g:FuncId} (h:Wi (GG w0 nG).P g):PC w0 nG g (Zwq enc P lo 0):=⟨h,fun args σ K hs=>by
 exfalso;unfold Zwq Xl at hs
 split at hs
 ·obtain ⟨L,ts,_,_,hs⟩:=hs;split at hs
  ·have:=hs.1.1;omega
  exact hs
 exact hs⟩
def _root_.Go.PM.PCalls.weaken1 {G:GE} {g:FuncId} {sp sp':Zn} (h:PCalls G g sp) (hw:∀args σ K,sp' args σ K->sp args σ K):PCalls G g sp':=⟨h.enters,fun args σ K hs=>h.calls args σ K (hw _ _ _ hs)⟩
def Zdr {α:Type} {enc:List Tok->Int->α->PV} {P:Ts->R α} {lo:Int} {d:Nat} {g:FuncId} (h:PC w0 nG g (Zjr enc P lo d)):PC w0 nG g (Zwq enc P lo (d+1)):=h.weaken1 fun args σ K hs=>by
 unfold Zwq Xl at hs
 unfold Zjr Xl
 split at hs
 ·obtain ⟨L,ts,h1,h2,hs⟩:=hs;refine ⟨L,ts,h1,h2,?_⟩;split at hs
  ·exact ⟨by have:=hs.1.2;omega,hs.2⟩
  exact hs.elim
 exact hs
def Za7:Zn:=fun args σ K=>match args,σ with
 | [.d (.str w),.ptr 0 0],⟨[.cells t0 [.ptr 1 0],.cells t [.d (.sl rows),.d (.int .i64 a),.d (.int .i64 en),.d (.int .i64 dp)]],[],0⟩=>∃L ts,rows=ZR L/\ROK L a ts /\
   (isW ts [w]=true->ROK L (a+1) ts.tail->K (.ret (.d (.bool true))) ⟨[.cells t0 [.ptr 1 0],.cells t [.d (.sl (ZR L)),.d (.int .i64 (a+1)),.d (.int .i64 en),.d (.int .i64 dp)]],[],0⟩) /\
   (isW ts [w]=false->K (.ret (.d (.bool false))) ⟨[.cells t0 [.ptr 1 0],.cells t [.d (.sl (ZR L)),.d (.int .i64 a),.d (.int .i64 en),.d (.int .i64 dp)]],[],0⟩)
 | _,_=>False
def ZlF:Tbl:=[(243,XW)]
def Zqa:OKw w0 nG ZlF 303 Za7:=by
 refine pwo Tryz.func303 fun args σ K h=>?_
 exact mq77
def Zqb:OKw w0 nG ZlF 304 Za7:=by
 refine pwo Tryz.func304 fun args σ K h=>?_
 exact mq77
def Zs6:Zn:=fun args σ K=>match args,σ with
 | [.asl 0 0 n,.func g [] [.ptr 1 0]],⟨[.cells tA cs,.cells t0 [.ptr 2 0],.cells t [.d (.sl rows),.d (.int .i64 a),.d (.int .i64 en),.d (.int .i64 dp)]],[],0⟩=>∃L ts ws,rows=ZR L/\ROK L a ts /\
   ((ws=Z4/\g=303)\/(ws=Yt/\g=304))/\n=ws.length/\cs=ws.map (fun w=>PV.d (.str w)) /\
   (∀k:Nat,ZbN ts 0 ws=some k->ROK L (a+1) ts.tail->K (.ret (.d (.int .i64 k))) ⟨[.cells tA cs,.cells t0 [.ptr 2 0],.cells t [.d (.sl (ZR L)),.d (.int .i64 (a+1)),.d (.int .i64 en),.d (.int .i64 dp)]],[],0⟩) /\
   (ZbN ts 0 ws=none->K (.ret (.d (.int .i64 (-1)))) ⟨[.cells tA cs,.cells t0 [.ptr 2 0],.cells t [.d (.sl (ZR L)),.d (.int .i64 a),.d (.int .i64 en),.d (.int .i64 dp)]],[],0⟩)
 | _,_=>False
def Zu0:Tbl:=[(303,Za7),(304,Za7)]
def ZAs (ht:TO w0 nG Zu0):PC w0 nG 209 Zs6:=by
 refine XN Zx mixed (tbl:=Zu0) ht Tryz.func209 rfl kR kR ?_;intro args σ K h
 unfold Zs6 at h
 split at h
 ·rename_i n g tA cs t0 t rows a en dp
  obtain ⟨L,ts,ws,rfl,ho,hws,rfl,rfl,h1,h2⟩:=h;refine ⟨Zj [],Xk [(2,8)],Yh [],3,false,sM,Tc rfl,?_⟩;rcases hws with ⟨rfl,rfl⟩ | ⟨rfl,rfl⟩
  ·conv=>whnf
   refine ⟨dM,dM,wN ?_⟩;refine ⟨L,ts,rfl,ho,fun z4 ai=>wN ?_,fun z4=>wN ?_⟩
   ·exact h1 0 (by simp [ZbN,Z4, *]) ai
   refine Zl ?_;refine ⟨dM,dM,wN ?_⟩;refine ⟨L,ts,rfl,ho,fun ef ai=>wN ?_,fun ef=>wN ?_⟩
   ·exact h1 1 (by simp [ZbN,Z4, *]) ai
   refine Zl ?_;refine ⟨dM,dM,wN ?_⟩;refine ⟨L,ts,rfl,ho,fun ox ai=>wN ?_,fun ox=>wN ?_⟩
   ·exact h1 2 (by simp [ZbN,Z4, *]) ai
   refine Zl ?_;refine ⟨dM,dM,wN ?_⟩;refine ⟨L,ts,rfl,ho,fun oy ai=>wN ?_,fun oy=>wN ?_⟩
   ·exact h1 3 (by simp [ZbN,Z4, *]) ai
   refine Zl ?_;refine ⟨dM,dM,wN ?_⟩;refine ⟨L,ts,rfl,ho,fun pb ai=>wN ?_,fun pb=>wN ?_⟩
   ·exact h1 4 (by simp [ZbN,Z4, *]) ai
   refine Zl ?_;refine ⟨dM,dM,wN ?_⟩;refine ⟨L,ts,rfl,ho,fun hw5 ai=>wN ?_,fun hw5=>wN ?_⟩
   ·exact h1 5 (by simp [ZbN,Z4, *]) ai
   refine Zl ?_;exact h2 (by simp [ZbN,Z4, *])
  conv=>whnf
  refine ⟨dM,dM,wN ?_⟩;refine ⟨L,ts,rfl,ho,fun z4 ai=>wN ?_,fun z4=>wN ?_⟩
  ·exact h1 0 (by simp [ZbN,Yt, *]) ai
  refine Zl ?_;refine ⟨dM,dM,wN ?_⟩;refine ⟨L,ts,rfl,ho,fun ef ai=>wN ?_,fun ef=>wN ?_⟩
  ·exact h1 1 (by simp [ZbN,Yt, *]) ai
  refine Zl ?_;refine ⟨dM,dM,wN ?_⟩;refine ⟨L,ts,rfl,ho,fun ox ai=>wN ?_,fun ox=>wN ?_⟩
  ·exact h1 2 (by simp [ZbN,Yt, *]) ai
  refine Zl ?_;refine ⟨dM,dM,wN ?_⟩;refine ⟨L,ts,rfl,ho,fun oy ai=>wN ?_,fun oy=>wN ?_⟩
  ·exact h1 3 (by simp [ZbN,Yt, *]) ai
  refine Zl ?_;exact h2 (by simp [ZbN,Yt, *])
 exact h.elim
def ZgJ:Nat->Ts->R Ex
 | 0=>fun _=>.err 0 150
 | d+1=>Xs d
def Zs7 (d:Nat):Zdj d=fun ts=>Jy (ZgJ d) 6 1 ts:=by cases d <;> rfl
def ZnE (d:Nat) (ts:Ts):Xs d ts=Zdi d (ZgJ d) ts:=by cases d <;> rfl
def ZnF {ts:Ts} (h:Z2 ts=true):ts≠[]:=by rintro rfl;simp [Z2,hd] at h
abbrev Zkk (d:Nat):Zn:=Zwq (fun L en (v:Ex)=>Za3 (ZF (Zc L en) v)) (Zdj d) 0 d
abbrev Ziw (d:Nat):Zn:=Zwq (fun L en (v:Ex)=>Za3 (ZF (Zc L en) v)) (ZgJ d) 0 d
abbrev Zfm (d:Nat):Zn:=Zjr (fun L en (v:Ex)=>Za3 (ZF (Zc L en) v)) (Zab d) 0 d
abbrev Zcp (d:Nat):Zn:=Zjr (fun L en (v:Ex)=>Za3 (ZF (Zc L en) v)) (Xs d) 0 d
abbrev Zaf (d:Nat):Zn:=Zjr (fun L en (v:Ex)=>Za3 (ZF (Zc L en) v)) (Zaa d (Zdj d)) 0 d
def Zds (d:Nat):Zn:=Xl fun rest L en dp a ts K=>match rest with
 | [.d (.str fr),.d (.str tw)]=>((dp=64 - (d:Int)/\0<=dp)/\tw≠[])/\∀x,Zip d (Zdj d) fr tw ts=x->RKk (fun (l:List Ex)=>.d (.sl (l.map (ZF (Zc L en))))) L en dp a x K
 | _=>False
def ZlG (d:Nat):Zn:=Xl fun rest L en dp a ts K=>match rest with
 | [.agg [.d (.int .u8 op),.d (.str []),.d (.int .i64 n),.nils e,.d (.int .i64 at')]]=>((dp=64 - (d:Int)/\0<=dp)/\n=0/\e=36)/\∃o:Nat,op=(o:Int)/\∀x,Zu d [40] [41] (J9 (Zdj d) (Znv o) []) ts=x ->
   RKk (fun (l:List Ex)=>.agg [.d (.int .u8 op),.d (.str []),.d (.int .i64 0),.d (.sl (l.map (ZF (Zc L en)))),.d (.int .i64 at')]) L en dp a x K
 | _=>False
def Vb (d:Nat):Zn:=fun args σ K=>match args,σ with
 | [.ptr 0 0,.d (.str sg),.d (.int .i64 m),.func g1 [.ptr 0 0] [],.func g2 [.ptr 0 0] []],⟨[.cells t [.d (.sl rows),.d (.int .i64 a),.d (.int .i64 en),.d (.int .i64 dp)]],[],0⟩ =>
   (sg=[44]/\m=12/\g1=280/\g2=281/\0<d/\dp=65 - (d:Int)/\0<=dp)/\∃L ts,rows=ZR L/\ROK L a ts/\∀x,XP [44] 12 Z2 (Zdj d) ts=x ->
    RKk (fun (l:List Ex)=>.d (.sl (l.map (ZF (Zc L en))))) L en dp a x fun pe a' dp'=>K pe ⟨[.cells t [.d (.sl (ZR L)),.d (.int .i64 a'),.d (.int .i64 en),.d (.int .i64 dp')]],[],0⟩
 | _,_=>False
def ZlH (d:Nat):Tbl:=[(194,Zis),(279,Vb d)]
def ZlI (d:Nat):Tbl:=[(194,Zis),(201,Xn),(193,YR),(278,ZlE Tryz.f278 (ZlH d))]
def Zws {d:Nat}:OKw w0 nG [(247,ZlE Tryz.f247 (ZlI d))] 250 (Zds d):=by
 refine pwo Tryz.func250 fun args σ K h=>?_
 unfold Zds Xl at h
 split at h
 ·rename_i rest t rows a en dp
  obtain ⟨L,ts,rfl,ho,h⟩:=h;split at h
  ·rename_i fr tw
   obtain ⟨⟨fe,vn⟩,h⟩:=h;have h0:=ho.lo;have h1:=ho.hi;have h2:=ho.big;refine pwv [] 1 false ?_;have h:=h _ rfl;unfold Zip at h
   refine ⟨_,fun _ _ h=>h,Tc rfl,wN ?_⟩;refine ⟨L,ts,rfl,ho,[fr],rfl,sM,fun b ef=>?_⟩
   cases b with
   | false =>
    exact mq184
   | true =>
   rw [Zu,Tk ef] at h;(conv=>whnf);refine ZFU (fun hc=>wN ?_) (fun hc=>wN ?_)
   ·rw [Tk oM] at h;exact mq79
   rw [Tf oM] at h;refine ⟨L,ts,rfl,ho,fun x hx=>?_⟩;rw [Z3,Tk ef] at hx;subst hx;intro a1 ee au
   have cm:=au.hi;(conv=>whnf);refine Zl ?_;refine ⟨_,fun _ _ h=>h,Tc rfl,wN ?_⟩;refine ⟨L,ts.tail,rfl,au,[tw],rfl,sM,fun b pb=>?_⟩;have gz:∀(x:R (List Ex)),(if isW ts.tail [tw]=true then R.ok [] ts.tail else XP [44] 12 Z2 (Zdj d) ts.tail)=x->True:=fun _ _=>trivial
   cases b with
   | true =>
    rw [Tk pb,R.bind_ok] at h;(conv=>whnf);have ai:=au;refine ZFX (fun _=>wN ?_) (fun g=>absurd g vn);rw [Tf vn] at h;refine ⟨L,ts.tail,rfl,au,fun x et=>?_⟩;exact mq13
   | false =>
   rw [Tf (by rw [pb];simp)] at h;(conv=>whnf);refine ⟨⟨rfl,rfl,rfl,rfl,oM,oM,oM⟩,L,ts.tail,rfl,au,fun x bm=>?_⟩;rcases x with ⟨v2,ts2⟩ | ⟨r2,e2⟩
   rotate_left
   ·exact mq44
   rw [bm,R.bind_ok] at h;intro a2 f7 ai
   have ga:=ai.hi;(conv=>whnf);refine ZFX (fun _=>wN ?_) (fun g=>absurd g vn);rw [Tf vn] at h;refine ⟨L,ts2,rfl,ai,fun x et=>?_⟩;exact mq13
  exact h.elim
 exact h.elim
def Vc (ex:Ts->R Ex) (k:Nat) (l:List Ex) (ts:Ts):J9 ex (k+1) l ts=(if l=[] then .ok () ts else Z3 [44] ts).bind fun _ ts=>(ex ts).bind fun e ts=>J9 ex k (l++[e]) ts:=rfl
def ZlJ (d:Nat):Tbl:=[(201,Xn),(281,Zkk d)]
def ZlK (d:Nat):Tbl:=[(194,Zis),(201,Xn),(193,YR),(349,ZAq Tryz.f349 (Xk [(1,5)]) (ZlJ d))]
def Zwu {d:Nat}:OKw w0 nG [(247,ZlE Tryz.f247 (ZlK d))] 345 (ZlG d):=by
 refine pwo Tryz.func345 fun args σ K h=>?_
 unfold ZlG Xl at h
 split at h
 ·rename_i rest t rows a en dp
  obtain ⟨L,ts,rfl,ho,h⟩:=h;split at h
  ·rename_i op n e at'
   obtain ⟨⟨fe,rfl,rfl⟩,o,rfl,h⟩:=h;have h:=h _ rfl;have h0:=ho.lo;have h1:=ho.hi;have h2:=ho.big;refine pwv [] 1 false ?_;refine ZFU (fun em=>?_) (fun em=>wN ?_)
   ·obtain rfl:o=22:=by omega
    have xq:Znv 22=3:=rfl;(conv=>whnf);refine X5 ?_;refine X5 ?_;rw [xq] at h;refine ⟨_,fun _ _ h=>h,Tc rfl,wN ?_⟩;refine ⟨L,ts,rfl,ho,[[40]],rfl,sM,fun b ef=>?_⟩
    cases b with
    | false =>
     exact mq184
    | true =>
    rw [Zu,Tk ef] at h;(conv=>whnf);refine ZFU (fun hc=>wN ?_) (fun hc=>wN ?_)
    ·rw [Tk oM] at h;exact mq79
    rw [Tf oM] at h;refine ⟨L,ts,rfl,ho,fun x hx=>?_⟩;rw [Z3,Tk ef] at hx;subst hx;intro a1 ee au
    have cm:=au.hi;(conv=>whnf);refine Zl ?_;refine ⟨_,fun _ _ h=>h,Tc rfl,wN ?_⟩;rw [Vc] at h;rw [Tk rfl,R.bind_ok] at h;refine ⟨L,ts.tail,rfl,au,⟨oM,oM,oM⟩,fun x mw=>?_⟩;rcases x with ⟨v10,ts10⟩ | ⟨r10,e10⟩
    rotate_left
    ·exact mq139
    rw [mw,R.bind_ok] at h;intro a10 ry kx
    have xr:=kx.hi;obtain ⟨v10a,v10b,v10c,v10d,v10e⟩:=v10;(conv=>whnf);refine ⟨rfl,rfl,Tc rfl,Tc rfl,wN ?_⟩
    repeat (refine ⟨rfl,?_⟩;conv=>whnf)
    refine X5 ?_;rw [Vc] at h;rw [Tf sM] at h;refine ⟨L,ts10,rfl,kx,fun x jx=>?_⟩;rcases x with ⟨v11,ts11⟩ | ⟨r11,e11⟩
    rotate_left
    ·rw [jx,R.bind_err,R.bind_err] at h;intro a9 d9;(conv=>whnf);exact h _ _
    rw [jx,R.bind_ok] at h;intro a11 rz ky
    have xu:=ky.hi;(conv=>whnf);refine ⟨L,ts11,rfl,ky,⟨oM,oM,oM⟩,fun x kz=>?_⟩;rcases x with ⟨v12,ts12⟩ | ⟨r12,e12⟩
    rotate_left
    ·rw [kz,R.bind_err,R.bind_err] at h;intro a9 d9;(conv=>whnf);exact h _ _
    rw [kz,R.bind_ok] at h;intro a12 sa la
    have xv:=la.hi;obtain ⟨v12a,v12b,v12c,v12d,v12e⟩:=v12;(conv=>whnf);refine ⟨rfl,rfl,Tc rfl,Tc rfl,wN ?_⟩
    repeat (refine ⟨rfl,?_⟩;conv=>whnf)
    refine X5 ?_;rw [Vc] at h;rw [Tf sM] at h;refine ⟨L,ts12,rfl,la,fun x xw=>?_⟩;rcases x with ⟨v13,ts13⟩ | ⟨r13,e13⟩
    rotate_left
    ·rw [xw,R.bind_err,R.bind_err] at h;intro a9 d9;(conv=>whnf);exact h _ _
    rw [xw,R.bind_ok] at h;intro a13 adt xy
    have afo:=xy.hi;(conv=>whnf);refine ⟨L,ts13,rfl,xy,⟨oM,oM,oM⟩,fun x xz=>?_⟩;rcases x with ⟨v14,ts14⟩ | ⟨r14,e14⟩
    rotate_left
    ·rw [xz,R.bind_err,R.bind_err] at h;intro a9 d9;(conv=>whnf);exact h _ _
    rw [xz,R.bind_ok] at h;intro a14 adu x7
    have afp:=x7.hi;obtain ⟨v14a,v14b,v14c,v14d,v14e⟩:=v14;(conv=>whnf);refine ⟨rfl,rfl,Tc rfl,Tc rfl,wN ?_⟩
    repeat (refine ⟨rfl,?_⟩;conv=>whnf)
    refine X5 ?_;rw [J9] at h;rw [R.bind_ok] at h;have x8:ts14=ts14:=rfl;have ai:=x7;obtain ⟨ts2,oz⟩:∃t,t=ts14:=⟨_,rfl⟩
    rw [<- oz] at h ai;exact mq180
   refine ZFU (fun uj=>?_) (fun uj=>wN ?_)
   ·obtain rfl:o=20:=by omega
    have xq:Znv 20=2:=rfl;(conv=>whnf);refine X5 ?_;rw [xq] at h;refine ⟨_,fun _ _ h=>h,Tc rfl,wN ?_⟩;refine ⟨L,ts,rfl,ho,[[40]],rfl,sM,fun b ef=>?_⟩
    cases b with
    | false =>
     exact mq184
    | true =>
    rw [Zu,Tk ef] at h;(conv=>whnf);refine ZFU (fun hc=>wN ?_) (fun hc=>wN ?_)
    ·rw [Tk oM] at h;exact mq79
    rw [Tf oM] at h;refine ⟨L,ts,rfl,ho,fun x hx=>?_⟩;rw [Z3,Tk ef] at hx;subst hx;intro a1 ee au
    have cm:=au.hi;(conv=>whnf);refine Zl ?_;refine ⟨_,fun _ _ h=>h,Tc rfl,wN ?_⟩;rw [Vc] at h;rw [Tk rfl,R.bind_ok] at h;refine ⟨L,ts.tail,rfl,au,⟨oM,oM,oM⟩,fun x mw=>?_⟩;rcases x with ⟨v10,ts10⟩ | ⟨r10,e10⟩
    rotate_left
    ·exact mq139
    rw [mw,R.bind_ok] at h;intro a10 ry kx
    have xr:=kx.hi;obtain ⟨v10a,v10b,v10c,v10d,v10e⟩:=v10;(conv=>whnf);refine ⟨rfl,rfl,Tc rfl,Tc rfl,wN ?_⟩
    repeat (refine ⟨rfl,?_⟩;conv=>whnf)
    refine X5 ?_;rw [Vc] at h;rw [Tf sM] at h;refine ⟨L,ts10,rfl,kx,fun x jx=>?_⟩;rcases x with ⟨v11,ts11⟩ | ⟨r11,e11⟩
    rotate_left
    ·rw [jx,R.bind_err,R.bind_err] at h;intro a9 d9;(conv=>whnf);exact h _ _
    rw [jx,R.bind_ok] at h;intro a11 rz ky
    have xu:=ky.hi;(conv=>whnf);refine ⟨L,ts11,rfl,ky,⟨oM,oM,oM⟩,fun x kz=>?_⟩;rcases x with ⟨v12,ts12⟩ | ⟨r12,e12⟩
    rotate_left
    ·rw [kz,R.bind_err,R.bind_err] at h;intro a9 d9;(conv=>whnf);exact h _ _
    rw [kz,R.bind_ok] at h;intro a12 sa la
    have xv:=la.hi;obtain ⟨v12a,v12b,v12c,v12d,v12e⟩:=v12;(conv=>whnf);refine ⟨rfl,rfl,Tc rfl,Tc rfl,wN ?_⟩
    repeat (refine ⟨rfl,?_⟩;conv=>whnf)
    refine X5 ?_;rw [J9] at h;rw [R.bind_ok] at h;have x8:ts12=ts12:=rfl;have ai:=la;obtain ⟨ts2,oz⟩:∃t,t=ts12:=⟨_,rfl⟩
    rw [<- oz] at h ai;exact mq180
   have xq:Znv o=1:=by rw [Znv,Tf oM,Tf oM]
   rw [xq] at h;refine ⟨_,fun _ _ h=>h,Tc rfl,wN ?_⟩;refine ⟨L,ts,rfl,ho,[[40]],rfl,sM,fun b ef=>?_⟩
   cases b with
   | false =>
    exact mq184
   | true =>
   rw [Zu,Tk ef] at h;(conv=>whnf);refine ZFU (fun hc=>wN ?_) (fun hc=>wN ?_)
   ·rw [Tk oM] at h;exact mq79
   rw [Tf oM] at h;refine ⟨L,ts,rfl,ho,fun x hx=>?_⟩;rw [Z3,Tk ef] at hx;subst hx;intro a1 ee au
   have cm:=au.hi;(conv=>whnf);refine Zl ?_;refine ⟨_,fun _ _ h=>h,Tc rfl,wN ?_⟩;rw [Vc] at h;rw [Tk rfl,R.bind_ok] at h;refine ⟨L,ts.tail,rfl,au,⟨oM,oM,oM⟩,fun x mw=>?_⟩;rcases x with ⟨v10,ts10⟩ | ⟨r10,e10⟩
   rotate_left
   ·exact mq139
   rw [mw,R.bind_ok] at h;intro a10 ry kx
   have xr:=kx.hi;obtain ⟨v10a,v10b,v10c,v10d,v10e⟩:=v10;(conv=>whnf);refine ⟨rfl,rfl,Tc rfl,Tc rfl,wN ?_⟩
   repeat (refine ⟨rfl,?_⟩;conv=>whnf)
   refine X5 ?_;rw [J9] at h;rw [R.bind_ok] at h;have x8:ts10=ts10:=rfl;have ai:=kx;obtain ⟨ts2,oz⟩:∃t,t=ts10:=⟨_,rfl⟩
   rw [<- oz] at h ai;exact mq180
  exact h.elim
 exact h.elim
def ZlL (d:Nat):Tbl:=[(281,Zkk d)]
def ZlM (d:Nat):Tbl:=[(194,Zis),(201,Xn),(193,YR),(344,ZlE Tryz.f344 (ZlL d))]
def Zqc (d:Nat):Tbl:=[(280,Jz Z2),(193,YR),(241,Zad),(247,ZlE Tryz.f247 (ZlM d)),(250,Zds d),(200,Xt),(194,Zis),(225,Ut),(345,ZlG d)]
def ZnG {d:Nat} (ht:TO w0 nG (Zqc d)):PC w0 nG 333 (Zaf d):=by
 refine Zj4 Zx mixed (tbl:=Zqc d) ht Tryz.func333 rfl kR kR ?_;intro args σ K h
 unfold Zaf Zjr Xl at h
 split at h
 ·rename_i rest t rows a en dp
  obtain ⟨L,ts,rfl,ho,h⟩:=h;split at h
  ·obtain ⟨fe,h⟩:=h;have h0:=ho.lo;have h1:=ho.hi;have h2:=ho.big;refine ⟨Zj [],Xk [],Yh [],Yh [],Yh [345],1,false,sM,Tc rfl,wN ?_⟩;have h:=h _ rfl;refine ⟨L,ts,rfl,ho,fun b hst=>?_⟩
   cases b with
   | false =>
    rw [Zaa,Tk hst] at h;(conv=>whnf);exact mq79
   | true =>
   rw [Zaa,Tf (by rw [hst];simp)] at h;have v7:=ho.tl (ZnF hst);have hbt:=v7.hi;(conv=>whnf);refine ⟨L,ts,rfl,ho,fun fin=>Or.inl ⟨rfl,wN ?_⟩⟩;refine ZFU (fun hc=>wN ?_) (fun hc=>wN ?_)
   ·rw [Tk (show (hd ts).kind=2 by omega)] at h;exact mq133
   rw [Tf (show ¬(hd ts).kind=2 by omega)] at h;refine ZFU (fun hc=>wN ?_) (fun hc=>wN ?_)
   ·rw [Tk (show (hd ts).kind=3 by omega)] at h;exact mq133
   rw [Tf (show ¬(hd ts).kind=3 by omega)] at h;refine ZFU (fun hc=>wN ?_) (fun hc=>wN ?_)
   ·rw [Tk (show (hd ts).text=[40] from hc)] at h;refine ⟨_,fun _ _ h=>h,Tc rfl,wN ?_⟩;refine ⟨L,ts,rfl,ho,[[40]],rfl,sM,fun b ef=>?_⟩
    cases b with
    | false =>
     exact mq184
    | true =>
    rw [Zu,Tk ef] at h;(conv=>whnf);refine ZFU (fun hc=>wN ?_) (fun hc=>wN ?_)
    ·rw [Tk oM] at h;exact mq79
    rw [Tf oM] at h;refine ⟨L,ts,rfl,ho,fun x hx=>?_⟩;rw [Z3,Tk ef] at hx;subst hx;intro a1 ee au
    have cm:=au.hi;(conv=>whnf);refine Zl ?_;refine ⟨_,fun _ _ h=>h,Tc rfl,wN ?_⟩;refine ⟨L,ts.tail,rfl,au,⟨oM,oM,oM⟩,fun x bm=>?_⟩;rcases x with ⟨v2,ts2⟩ | ⟨r2,e2⟩
    rotate_left
    ·exact mq44
    rw [bm,R.bind_ok] at h;intro a2 f7 ai
    have ga:=ai.hi;obtain ⟨v2a,v2b,v2c,v2d,v2e⟩:=v2;(conv=>whnf);exact mq180
   rw [Tf (show ¬(hd ts).text=[40] from hc)] at h;refine ZFU (fun hc=>wN ?_) (fun hc=>wN ?_)
   ·rw [Tk (show (hd ts).text=[91] from hc)] at h;refine ⟨L,ts,rfl,ho,⟨fe,sM⟩,fun x dh=>?_⟩;rcases x with ⟨v1,ts1⟩ | ⟨r1,e1⟩
    rotate_left
    ·exact mq53
    rw [dh,R.bind_ok] at h;intro a1 ee au
    have cm:=au.hi;(conv=>whnf);rw [<- Zb];exact h _ oM au
   rw [Tf (show ¬(hd ts).text=[91] from hc)] at h;refine ZFU (fun hc=>wN ?_) (fun hc=>wN ?_)
   ·rw [Tk (show (hd ts).text=[36] from hc)] at h;refine Zl ?_;refine ⟨L,ts.tail,rfl,v7,fun x dh=>?_⟩;rcases x with ⟨v1,ts1⟩ | ⟨r1,e1⟩
    rotate_left
    ·exact mq53
    rw [dh,R.bind_ok] at h;intro a1 ee au
    have cm:=au.hi;(conv=>whnf);refine ⟨L,ts1,rfl,au,[[40]],rfl,sM,fun b ox=>?_⟩
    cases b with
    | false =>
     rw [Tf (by rw [ox];simp)] at h;(conv=>whnf);exact h _ oM au
    | true =>
    rw [Tk ox] at h;(conv=>whnf);refine ⟨L,ts1,rfl,au,⟨fe,sM⟩,fun x et=>?_⟩;rcases x with ⟨v3,ts3⟩ | ⟨r3,e3⟩
    rotate_left
    ·exact mq18
    exact mq149
   rw [Tf (show ¬(hd ts).text=[36] from hc)] at h;intro n hn
   conv=>whnf
   refine ZFX (fun hc=>wN ?_) (fun hc=>wN ?_)
   ·rw [Tk (show YL (hd ts).text≠0 by omega)] at h;refine Zl ?_;intro n2 ip
    conv=>whnf
    refine ⟨L,ts.tail,rfl,v7,⟨fe,rfl,rfl⟩,YL (hd ts).text,ip.symm,fun x dh=>?_⟩;rcases x with ⟨v1,ts1⟩ | ⟨r1,e1⟩
    rotate_left
    ·exact mq53
    rw [dh,R.bind_ok] at h;intro a1 ee au
    have cm:=au.hi;(conv=>whnf);rw [<- ip,<- Zb];exact h _ oM au
   rw [Tf (show ¬YL (hd ts).text≠0 by omega)] at h;refine ZFU (fun hc=>wN ?_) (fun hc=>wN ?_)
   ·rw [Tk (show (hd ts).text=[110,105,108] from hc)] at h;refine Zl ?_;exact h _ oM v7
   rw [Tf (show ¬(hd ts).text=[110,105,108] from hc)] at h;refine ZFU (fun hc=>wN ?_) (fun hc=>wN ?_)
   ·rw [Tk (show (hd ts).text=[95] from hc)] at h;refine Zl ?_;exact h _ oM v7
   rw [Tf (show ¬(hd ts).text=[95] from hc)] at h;exact mq133
  exact h.elim
 exact h.elim
def ZlN (d:Nat):Tbl:=[(319,Ziw d)]
def ZlO (d:Nat):Tbl:=[(194,Zis),(201,Xn),(193,YR),(332,ZlE Tryz.f332 (ZlN d))]
def ZlP (d:Nat):Tbl:=[(199,Wt),(194,Zis),(247,ZlE Tryz.f247 (ZlO d)),(333,Zaf d)]
def Zqd {d:Nat} (ht:TO w0 nG (ZlP d)):PC w0 nG 319 (Zcp d):=by
 refine XN Zx mixed (tbl:=ZlP d) ht Tryz.func319 rfl kR kR ?_;intro args σ K h
 unfold Zcp Zjr Xl at h
 split at h
 ·rename_i rest t rows a en dp
  obtain ⟨L,ts,rfl,ho,h⟩:=h;split at h
  ·obtain ⟨fe,h⟩:=h;have h0:=ho.lo;have h1:=ho.hi;have h2:=ho.big;refine ⟨Zj [],Xk [(3,4)],Yh [],1,false,sM,Tc rfl,wN ?_⟩;have h:=h _ rfl;rw [ZnE,Zdi] at h;refine ⟨L,ts,rfl,ho,wN ?_⟩;refine ⟨dM,dM,wN ?_⟩;refine ⟨L,ts,rfl,ho,[[45]],rfl,sM,fun b hw8=>?_⟩
   cases b with
   | true =>
    rw [Tk hw8] at h;(conv=>whnf);refine ⟨_,fun _ _ h=>h,Tc rfl,wN ?_⟩;refine ⟨L,ts,rfl,ho,[[45]],rfl,sM,fun b ef=>?_⟩;exact mq15
   | false =>
   rw [Tf (by rw [hw8];simp)] at h;(conv=>whnf);refine X5 ?_;refine ⟨dM,dM,wN ?_⟩;refine ⟨L,ts,rfl,ho,[[126]],rfl,sM,fun b gh=>?_⟩
   cases b with
   | true =>
    rw [Tk gh] at h;(conv=>whnf);refine ⟨_,fun _ _ h=>h,Tc rfl,wN ?_⟩;refine ⟨L,ts,rfl,ho,[[126]],rfl,sM,fun b ef=>?_⟩;exact mq15
   | false =>
   rw [Tf (by rw [gh];simp)] at h;(conv=>whnf);refine X5 ?_;rw [show Jy (ZgJ d) 6 1=Zdj d from (Zs7 d).symm] at h;refine ⟨L,ts,rfl,ho,fe,fun x dh=>?_⟩;exact mq87
  exact h.elim
 exact h.elim
def Zfn (d j:Nat):Zn:=Xl fun rest L en dp a ts K=>match rest with
 | [.d (.int .i64 least)]=>((dp=64 - (d:Int)/\0<=dp)/\1<=least/\least<=6/\6<=least+(j:Int))/\∀x,Jy (Xs d) j least.toNat ts=x->RKk (fun (v:Ex)=>Za3 (ZF (Zc L en) v)) L en dp a x K
 | _=>False
def Zdt (d j:Nat):Zn:=Xl fun rest L en dp a ts K=>match rest with
 | [.d (.int .i64 least)]=>((dp=64 - (d:Int)/\0<=dp)/\0<j/\1<=least/\least<=6/\7<=least+(j:Int))/\∀x,Jy (Xs d) (j - 1) least.toNat ts=x->RKk (fun (v:Ex)=>Za3 (ZF (Zc L en) v)) L en dp a x K
 | _=>False
def Zqe (ts:Ts):(Za0 ts).1<=5/\(Za0 ts).2<=255:=by
 unfold Za0
 repeat' (first | (split;decide) | split)
 all_goals decide
def Zix (sub : Nat -> Ts -> R Ex) (least f : Nat) (e : Ex) (ts : Ts) : U9 sub least (f + 1) e ts = if (Za0 ts).1 < least \/ (Za0 ts).1 = 0 then .ok e ts
      else (sub ((Za0 ts).1+1) ts.tail).bind fun g ts'=>U9 sub least f (.mk (Za0 ts).2 [] 0 [e,g] e.at') ts':=rfl
def ZnH {sub:Nat->Ts->R Ex} {least f:Nat} {e:Ex} {ts:Ts} (h:6<=least):U9 sub least (f+1) e ts=.ok e ts:=by
 rw [Zix,Tk];have:=(Zqe ts).1;omega
def Zwv {ts:Ts} (h:(Za0 ts).1≠0):ts≠[]:=by rintro rfl;exact h rfl
def Zs8 (sg:Ts->R Ex) (j least:Nat) (ts:Ts) (h:6<=least+j):Jy sg j least ts=(sg ts).bind fun e ts=>U9 (Jy sg (j - 1)) least (ts.length+1) e ts:=by
 cases j with
 | zero =>
  rw [Jy]
  cases sg ts with
  | ok e ts=>rw [R.bind_ok,ZnH oM]
  | err r e=>rfl
 | succ j=>rfl
def Zqf {d j:Nat}:OKw w0 nG [(319,Zcp d),(320,ZsZ),(302,Zdt d j)] 302 (Zfn d j):=by
 refine pwo Tryz.func302 fun args σ K h=>?_
 unfold Zfn Xl at h
 split at h
 ·rename_i rest t rows a en dp
  obtain ⟨L,ts,rfl,ho,h⟩:=h;split at h
  ·rename_i least
   obtain ⟨⟨fe,dv,gy,ib⟩,h⟩:=h;have h0:=ho.lo;have h1:=ho.hi;have h2:=ho.big;refine pwv [(2,⟨[],[0,1,4,5],fun vs σ=>∃(u1:Nat) (u2:Bs) (u3:Int) (u4:List Ex) (u5:Nat) (a':Int) (ts':Ts) (f:Nat),vs=[]/\σ=⟨[.cells t [.d (.sl (ZR L)),.d (.int .i64 a'),.d (.int .i64 en),.d (.int .i64 dp)],.cells 36 [.d (.int .u8 0),.d (.str []),.d (.int .i64 0),.sl 0 36 [],.d (.int .i64 0)],.cells 36 [.d (.int .u8 u1),.d (.str u2),.d (.int .i64 u3),.d (.sl (Zf (Zc L en) u4)),.d (.int .i64 (Zc L en u5))]],[0],1⟩/\ROK L a' ts'/\a<=a'/\ts'.length<f/\RKk (fun (v:Ex)=>Za3 (ZF (Zc L en) v)) L en dp a (U9 (Jy (Xs d) (j - 1)) least.toNat f (.mk u1 u2 u3 u4 u5) ts') (fun pe a' dp'=>K pe ⟨[.cells t [.d (.sl (ZR L)),.d (.int .i64 a'),.d (.int .i64 en),.d (.int .i64 dp')]],[],0⟩),fun _ σ=>match σ with | ⟨.cells _ [_,.d (.int _ i),_,_]::_,_,_⟩=>((L.length:Int) - i).toNat | _=>0⟩)] 1 false ?_;have h:=h _ rfl;rw [Zs8 _ _ _ _ oM] at h;refine ⟨L,ts,rfl,ho,fe,fun x dh=>?_⟩;rcases x with ⟨v1,ts1⟩ | ⟨r1,e1⟩
   rotate_left
   ·exact mq53
   rw [dh,R.bind_ok] at h;intro a1 ee au
   have cm:=au.hi;obtain ⟨v1a,v1b,v1c,v1d,v1e⟩:=v1;(conv=>whnf);refine ⟨⟨v1a,v1b,v1c,v1d,v1e,a1,ts1,ts1.length+1,rfl,rfl,au,oM,oM,h⟩,?_⟩
   clear h dh au cm ee
   intro vs σ hI
   obtain ⟨u1,u2,u3,u4,u5,a',ts',f,rfl,rfl,cq,ab8,hf,h⟩:=hI;obtain ⟨f,rfl⟩:∃g,f=g+1:=⟨f - 1,oM⟩
   rw [Zix] at h;have po:=cq.hi;have sb:=cq.len;(conv=>whnf);refine ⟨L,ts',rfl,cq,fun n op hn em=>wN ?_⟩;have afq:=Zqe ts';refine ZFU (fun hc=>wN ?_) (fun hc=>wN ?_)
   ·rw [Tk oM] at h;exact h _ oM cq
   refine ZFU (fun bl=>wN ?_) (fun bl=>wN ?_)
   ·rw [Tk oM] at h;exact h _ oM cq
   rw [Tf oM] at h;have ai:=cq.tl (Zwv oM);have ga:=ai.hi;have fy:=ai.len;refine Zl ?_;refine Zl ?_;refine ⟨L,ts'.tail,rfl,ai,⟨fe,oM,oM,oM,oM⟩,fun x et=>?_⟩;rw [show (n+1).toNat=(Za0 ts').1+1 by omega] at et;rcases x with ⟨v3,ts3⟩ | ⟨r3,e3⟩
   rotate_left
   ·exact mq18
   rw [et,R.bind_ok] at h;intro a3 gg bq
   have jw:=bq.hi;obtain ⟨v3a,v3b,v3c,v3d,v3e⟩:=v3;(conv=>whnf);have jg:=bq.len;obtain rfl:op=((Za0 ts').2:Int):=em.symm;refine ⟨⟨(Za0 ts').2,[],0,[.mk u1 u2 u3 u4 u5,.mk v3a v3b v3c v3d v3e],u5,a3,ts3,f,rfl,rfl,bq,oM,oM,h⟩,?_⟩;exact mq169
  exact h.elim
 exact h.elim
def Zwy {d:Nat}:OKw w0 nG [(302,Zfn d 6)] 281 (Zfm d):=by
 refine pwo Tryz.func281 fun args σ K h=>?_
 unfold Zfm Zjr Xl at h
 split at h
 ·rename_i rest t rows a en dp
  obtain ⟨L,ts,rfl,ho,h⟩:=h;split at h
  ·obtain ⟨fe,h⟩:=h;have h0:=ho.lo;have h1:=ho.hi;have h2:=ho.big;refine pwv [] 1 false ?_;have h:=h _ rfl;refine ⟨L,ts,rfl,ho,⟨fe,oM,oM,oM⟩,fun x dh=>?_⟩;rw [Zab] at h
   change Jy (Xs d) 6 1 ts=x at dh
   exact mq87
  exact h.elim
 exact h.elim
abbrev Zwz (d:Nat):Zn:=Zjr (fun L en (v:Li)=>Za3 (YN (Zc L en) v)) (Znw d (Zeu d)) 0 d
abbrev Ziy (d:Nat):Zn:=Zjr (fun L en (v:List Li)=>.d (.sl (v.map (YN (Zc L en))))) (Znx d) 0 d
abbrev ZgK (d:Nat):Zn:=Zwq (fun L en (v:List Li)=>.d (.sl (v.map (YN (Zc L en))))) (Zeu d) 0 d
def Zs9 (d:Nat):Znx d=XP [44] 32 Yd (Znw d (Zeu d)):=by cases d <;> rfl
def ZlQ (d:Nat):Zn:=Xl fun rest L en dp a ts K=>match rest with
 | [.d (.bool b)]=>(dp=64 - (d:Int)/\0<=dp)/\∀x,ZpO d b ts=x->RKk (fun (v:Ru)=>Za3 (ZW (Zc L en) v)) L en dp (a+1) x K
 | _=>False
def JC {ts:Ts}:∀{ws:List Bs} {i k:Nat},ZbN ts i ws=some k->i<=k/\k<i+ws.length
 | [],i,k,h=>by simp [ZbN] at h
 | w::ws,i,k,h=>by
  rw [ZbN] at h;split at h
  ·cases h;simp
  have:=JC h;simp only [Te];omega
def Za8 {ts:Ts} (h:ZbN ts 0 Z4=none):Zdk ts=.err ts.length 150:=by rw [Zdk,h]
def Zdu {ts:Ts} {j:Nat} (h:ZbN ts 0 Z4=some 0) (h2:ZbN ts.tail 0 Yt=some j):Zdk ts=.ok (9+j) ts.tail.tail:=by rw [Zdk,h];simp only [h2]
def ZgL {ts:Ts} (h:ZbN ts 0 Z4=some 0) (h2:ZbN ts.tail 0 Yt=none):Zdk ts=.ok 3 ts.tail:=by rw [Zdk,h];simp only [h2]
def Zdv {ts:Ts} {k:Nat} (h:ZbN ts 0 Z4=some (k+1)):Zdk ts=.ok (3+(k+1)) ts.tail:=by rw [Zdk,h];rfl
def Ztb:OKw w0 nG [(280,(Jz Z2)),(194,Zis)] 283 (ZlC Yd):=by
 refine pwo Tryz.func283 fun args σ K h=>?_
 unfold ZlC Zp0 at h
 split at h
 ·rename_i rest t0 t rows a en dp
  obtain ⟨L,ts,rfl,ho,h⟩:=h;split at h
  ·skip
   refine pwv [] 2 false ?_;refine ⟨L,ts,rfl,ho,fun b hb=>?_⟩
   cases b with
   | true =>
    conv=>whnf
    exact h _ (by rw [Yd,hb];rfl)
   | false =>
   conv=>whnf
   refine ⟨L,ts,rfl,ho,[[33]],rfl,sM,fun b hw=>wN ?_⟩;exact h _ (by rw [Yd,hb,hw];rfl)
  exact h.elim
 exact h.elim
def ZwB {d:Nat}:OKw w0 nG [(282,ZgG d)] 251 (Ziy d):=by
 refine pwo Tryz.func251 fun args σ K h=>?_
 unfold Ziy Zjr Xl at h
 split at h
 ·rename_i rest t rows a en dp
  obtain ⟨L,ts,rfl,ho,h⟩:=h;split at h
  ·obtain ⟨fe,h⟩:=h;have h0:=ho.lo;have h1:=ho.hi;have h2:=ho.big;refine pwv [] 1 false ?_;have h:=h _ rfl;rw [Zs9] at h;refine ⟨⟨rfl,rfl,rfl,rfl,fe⟩,L,ts,rfl,ho,fun x dh=>?_⟩;rcases x with ⟨v1,ts1⟩ | ⟨r1,e1⟩
   rotate_left
   ·rw [dh] at h;intro a9 d9;(conv=>whnf);exact h _ _
   rw [dh] at h;intro a1 ee au
   have cm:=au.hi;(conv=>whnf);exact h _ oM au
  exact h.elim
 exact h.elim
def Zqg (d:Nat):Tbl:=[(251,ZgK d)]
def Zqh (d:Nat):Tbl:=[(194,Zis),(201,Xn),(193,YR),(305,ZlE Tryz.f305 (Zqg d))]
def Zu1 (d:Nat):Tbl:=[(199,Wt),(243,XW),(241,Zad),(203,Jz ZN),(200,Xt),(250,Zds d),(281,Zfm d),(209,Zs6),(193,YR),(201,Xn),(247,ZlE Tryz.f247 (Zqh d))]
def ZAt {d:Nat} (ht:TO w0 nG (Zu1 d)):PC w0 nG 284 (Zwz d):=by
 refine Zj4 Zx mixed (tbl:=Zu1 d) ht Tryz.func284 rfl kR kR ?_;intro args σ K h
 unfold Zwz Zjr Xl at h
 split at h
 ·rename_i rest t rows a en dp
  obtain ⟨L,ts,rfl,ho,h⟩:=h;split at h
  ·obtain ⟨fe,h⟩:=h;have h0:=ho.lo;have h1:=ho.hi;have h2:=ho.big;refine ⟨Zj [],Xk [],Yh [],Yh [50],Yh [],1,false,sM,Tc rfl,wN ?_⟩;have h:=h _ rfl;rw [Znw] at h;refine ⟨L,ts,rfl,ho,wN ?_⟩;refine ⟨L,ts,rfl,ho,[[33]],rfl,sM,fun ef au=>wN ?_,fun ef=>wN ?_⟩
   ·rw [Tk ef] at h;have cm:=au.hi;refine ⟨L,ts.tail,rfl,au,fun fin=>Or.inr ⟨rfl,wN ?_⟩⟩;rw [Zdl] at h;refine ⟨L,ts.tail,rfl,au,fun x jx=>?_⟩;exact mq46
   rw [Tf (by rw [ef];simp)] at h;refine ⟨L,ts,rfl,ho,fun fin=>Or.inr ⟨rfl,wN ?_⟩⟩;refine ⟨L,ts,rfl,ho,fun b hn=>?_⟩
   cases b with
   | false =>
    rw [Tf (by rw [hn];simp)] at h;(conv=>whnf);exact mq0
   | true =>
   conv=>whnf
   refine ZFU (fun hc=>wN ?_) (fun hc=>wN ?_)
   ·refine ZFU (fun bl=>wN ?_) (fun bl=>wN ?_)
    ·rw [Tk ⟨hn,oM,bl⟩] at h;rw [Zdl] at h;refine ⟨L,ts,rfl,ho,fun x jx=>?_⟩;exact mq46
    rw [Tf (fun g=>bl g.2.2)] at h;exact mq0
   rw [Tf (fun g=>hc (by have:=g.2.1;omega))] at h;exact mq0
  exact h.elim
 exact h.elim
def ZwD {d:Nat}:OKw w0 nG [(199,Wt),(200,Xt),(250,Zds d),(243,XW),(251,Ziy d),(201,Xn)] 204 (ZlQ d):=by
 refine pwo Tryz.func204 fun args σ K h=>?_
 unfold ZlQ Xl at h
 split at h
 ·rename_i rest t rows a en dp
  obtain ⟨L,ts,rfl,ho,h⟩:=h;split at h
  ·rename_i bodies
   obtain ⟨fe,h⟩:=h;have h0:=ho.lo;have h1:=ho.hi;have h2:=ho.big;refine pwv [] 1 false ?_;have h:=h _ rfl;rw [ZpO] at h;refine ⟨L,ts,rfl,ho,wN ?_⟩;refine ⟨L,ts,rfl,ho,fun x dh=>?_⟩;rcases x with ⟨v1,ts1⟩ | ⟨r1,e1⟩
   rotate_left
   ·exact mq53
   rw [dh,R.bind_ok] at h;intro a1 ee au
   have cm:=au.hi;(conv=>whnf);refine ⟨L,ts1,rfl,au,⟨fe,sM⟩,fun x bm=>?_⟩;have afr:=fe;rcases x with ⟨v2,ts2⟩ | ⟨r2,e2⟩
   rotate_left
   ·exact mq44
   rw [bm,R.bind_ok] at h;intro a2 f7 ai
   have ga:=ai.hi;(conv=>whnf)
   cases bodies with
   | false =>
    rw [Tf sM] at h;(conv=>whnf);refine ⟨L,ts2,rfl,ai,fun x et=>?_⟩;rcases x with ⟨v3,ts3⟩ | ⟨r3,e3⟩
    rotate_left
    ·exact mq18
    exact mq149
   | true =>
   conv=>whnf
   refine ⟨L,ts2,rfl,ai,[[58,45]],rfl,sM,fun oy bq=>wN ?_,fun oy=>wN ?_⟩
   ·rw [Tk ⟨rfl,oy⟩] at h;have jw:=bq.hi;refine ⟨L,ts2.tail,rfl,bq,fe,fun x me=>?_⟩;rcases x with ⟨v4,ts4⟩ | ⟨r4,e4⟩
    rotate_left
    ·exact mq106
    rw [me,R.bind_ok] at h;intro a4 mt f9
    have rv:=f9.hi;(conv=>whnf);refine ⟨L,ts4,rfl,f9,fun x kw=>?_⟩;rcases x with ⟨v5,ts5⟩ | ⟨r5,e5⟩
    rotate_left
    ·exact mq43
    rw [kw,R.bind_ok] at h;intro a5 ly gq
    have ui:=gq.hi;(conv=>whnf);rw [<- Zb,<- Zi];exact h _ oM gq
   rw [Tf (by rw [oy];simp)] at h;refine ⟨L,ts2,rfl,ai,fun x me=>?_⟩;rcases x with ⟨v4,ts4⟩ | ⟨r4,e4⟩
   rotate_left
   ·exact mq106
   rw [me,R.bind_ok] at h;intro a4 mt f9
   have rv:=f9.hi;(conv=>whnf);rw [<- Zb];exact h _ oM f9
  exact h.elim
 exact h.elim
def ZnI:Nat->Ts->R Un
 | 0=>fun _=>.err 0 150
 | d+1=>ZpS d
def Ztc (d:Nat):ZpS d=Zny true d (ZnI d):=by cases d <;> rfl
def ZwE (b:Bool) (d:Nat) (ts:Ts):R Un:=Zny b d (ZnI d) ts
def Zdw (d:Nat):Zn:=Xl fun rest L en dp a ts K=>match rest with
 | [.d (.bool b)]=>(dp=64 - (d:Int)/\0<=dp)/\∀x,ZwE b d ts=x->RKk (fun (v:Un)=>Za3 (XQ (Zc L en) v)) L en dp a x K
 | _=>False
def Uv (d:Nat):Zn:=Xl fun rest L en dp a ts K=>match rest with
 | [.d (.bool b)]=>(0<d/\dp=65 - (d:Int)/\0<=dp/\b=true)/\∀x,ZnI d ts=x->RKk (fun (v:Un)=>Za3 (XQ (Zc L en) v)) L en dp a x K
 | _=>False
abbrev ZlR (d:Nat):Zn:=Zjr (fun L en (v:Co)=>Za3 (XK (Zc L en) v)) (ZpP d (ZnI d)) 0 d
def ZlS (d:Nat):Tbl:=[(135,Uv d)]
def ZlT (d:Nat):Tbl:=[(194,Zis),(201,Xn),(193,YR),(248,ZlE Tryz.f248 (ZlS d))]
def ZwG {d:Nat}:OKw w0 nG [(199,Wt),(200,Xt),(202,Zdp),(243,XW),(247,ZlE Tryz.f247 (ZlT d))] 198 (ZlR d):=by
 refine pwo Tryz.func198 fun args σ K h=>?_
 unfold ZlR Zjr Xl at h
 split at h
 ·rename_i rest t rows a en dp
  obtain ⟨L,ts,rfl,ho,h⟩:=h;split at h
  ·obtain ⟨fe,h⟩:=h;have h0:=ho.lo;have h1:=ho.hi;have h2:=ho.big;refine pwv [] 1 false ?_;have h:=h _ rfl;rw [ZpP] at h;refine ⟨L,ts,rfl,ho,wN ?_⟩;refine ⟨L,ts,rfl,ho,fun x dh=>?_⟩;rcases x with ⟨v1,ts1⟩ | ⟨r1,e1⟩
   rotate_left
   ·exact mq53
   rw [dh,R.bind_ok] at h;intro a1 ee au
   have cm:=au.hi;(conv=>whnf);refine ⟨L,ts1,rfl,au,fun x bm=>?_⟩;rcases x with ⟨v2,ts2⟩ | ⟨r2,e2⟩
   rotate_left
   ·exact mq44
   rw [bm,R.bind_ok] at h;intro a2 f7 ai
   have ga:=ai.hi;(conv=>whnf);refine ⟨L,ts2,rfl,ai,[[58]],rfl,sM,fun oy bq=>wN ?_,fun oy=>wN ?_⟩
   ·rw [Tk oy] at h;have jw:=bq.hi;refine ⟨L,ts2.tail,rfl,bq,fun x me=>?_⟩;rcases x with ⟨v4,ts4⟩ | ⟨r4,e4⟩
    rotate_left
    ·exact mq106
    rw [me,R.bind_ok] at h;intro a4 mt f9
    have rv:=f9.hi;(conv=>whnf);refine ⟨L,ts4,rfl,f9,fun x kw=>?_⟩;rcases x with ⟨v5,ts5⟩ | ⟨r5,e5⟩
    rotate_left
    ·exact mq43
    rw [kw,R.bind_ok] at h;intro a5 ly gq
    have ui:=gq.hi;(conv=>whnf);refine ⟨_,fun _ _ h=>h,Tc rfl,wN ?_⟩;refine ⟨L,ts5,rfl,gq,[[123]],rfl,sM,fun b mf=>?_⟩
    cases b with
    | false =>
     rw [Zu,Tf (by rw [mf];simp),R.bind_err] at h;(conv=>whnf);refine ⟨L,ts5,rfl,gq,fun x hx=>?_⟩;rw [Z3,Tf (by rw [mf];simp)] at hx;exact mq177
    | true =>
    rw [Zu,Tk mf] at h;(conv=>whnf);refine ZFU (fun hc=>wN ?_) (fun hc=>wN ?_)
    ·rw [Tk oM,R.bind_err] at h;refine ⟨L,ts5,rfl,gq,wN ?_⟩;exact h _ _
    rw [Tf oM] at h;refine ⟨L,ts5,rfl,gq,fun x hx=>?_⟩;rw [Z3,Tk mf] at hx;subst hx;intro a7 x9 sc
    have hb7:=sc.hi;(conv=>whnf);refine Zl ?_;refine ⟨_,fun _ _ h=>h,Tc rfl,wN ?_⟩;refine ⟨L,ts5.tail,rfl,sc,⟨oM,oM,oM,rfl⟩,fun x wa=>?_⟩;exact mq41
   rw [Tf (by rw [oy];simp)] at h;refine ⟨_,fun _ _ h=>h,Tc rfl,wN ?_⟩;refine ⟨L,ts2,rfl,ai,[[123]],rfl,sM,fun b mf=>?_⟩
   cases b with
   | false =>
    rw [Zu,Tf (by rw [mf];simp),R.bind_err] at h;(conv=>whnf);refine ⟨L,ts2,rfl,ai,fun x hx=>?_⟩;rw [Z3,Tf (by rw [mf];simp)] at hx;exact mq177
   | true =>
   rw [Zu,Tk mf] at h;(conv=>whnf);refine ZFU (fun hc=>wN ?_) (fun hc=>wN ?_)
   ·rw [Tk oM,R.bind_err] at h;refine ⟨L,ts2,rfl,ai,wN ?_⟩;exact h _ _
   rw [Tf oM] at h;refine ⟨L,ts2,rfl,ai,fun x hx=>?_⟩;rw [Z3,Tk mf] at hx;subst hx;intro a7 x9 sc
   have hb7:=sc.hi;(conv=>whnf);refine Zl ?_;refine ⟨_,fun _ _ h=>h,Tc rfl,wN ?_⟩;refine ⟨L,ts2.tail,rfl,sc,⟨oM,oM,oM,rfl⟩,fun x wa=>?_⟩;exact mq41
  exact h.elim
 exact h.elim
def Ziz (inside:Bool) (d:Nat) (un:Ts->R Un) (f:Nat) (tys:List Ty) (rels:List Re) (rules:List Ru) (comps:List Co) (inits:List Ini) (overs:List Ov) (ts:Ts):XV inside d un (f+1) (.mk tys rels rules comps inits overs) ts =
  if ts=[]\/(inside=true/\isW ts [[125]]=true) then .ok (.mk tys rels rules comps inits overs) ts
  else if isW ts [[116,121,112,101]]=true then (if tys.length=256 then .err ts.length 3 else (Zio ts.tail).bind fun x ts=>XV inside d un f (.mk (tys++[x]) rels rules comps inits overs) ts)
  else if isW ts [[100,101,99,108]]=true then (if rels.length=256 then .err ts.length 3 else (ZpN ts.tail).bind fun x ts=>XV inside d un f (.mk tys (rels++[x]) rules comps inits overs) ts)
  else if isW ts [[99,111,109,112]]=true then (if comps.length=64 then .err ts.length 3 else (ZpP d un ts.tail).bind fun x ts=>XV inside d un f (.mk tys rels rules (comps++[x]) inits overs) ts)
  else if isW ts [[105,110,105,116]]=true then (if inits.length=256 then .err ts.length 3 else (ZpQ ts.tail).bind fun x ts=>XV inside d un f (.mk tys rels rules comps (inits++[x]) overs) ts)
  else if isW ts [[111,118,101,114,114,105,100,101]]=true then (if overs.length=256 then .err ts.length 3 else (ZpR ts.tail).bind fun x ts=>XV inside d un f (.mk tys rels rules comps inits (overs++[x])) ts)
  else if ZN ts=true then (if rules.length=1024 then .err ts.length 3 else (ZpO d true ts).bind fun x ts=>XV inside d un f (.mk tys rels (rules++[x]) comps inits overs) ts)
  else .err ts.length 150:=rfl
def ZwI {d:Nat}:OKw w0 nG [(194,Zis),(195,ZlB),(196,ZgI),(197,ZlD),(198,ZlR d),(199,Wt),(200,Xt),(201,Xn),(202,Zdp),(203,Jz ZN),(204,ZlQ d),(193,YR)] 135 (Zdw d):=by
 refine pwo Tryz.func135 fun args σ K h=>?_
 unfold Zdw Xl at h
 split at h
 ·rename_i rest t rows a en dp
  obtain ⟨L,ts,rfl,ho,h⟩:=h;split at h
  ·rename_i inside
   obtain ⟨fe,h⟩:=h;have h0:=ho.lo;have h1:=ho.hi;have h2:=ho.big;refine pwv [(1,⟨[],[0,1,4],fun vs σ=>∃(tys:List Ty) (rels:List Re) (rules:List Ru) (comps:List Co) (inits:List Ini) (overs:List Ov) (a':Int) (ts':Ts) (f:Nat),vs=[]/\σ=⟨[.cells t [.d (.sl (ZR L)),.d (.int .i64 a'),.d (.int .i64 en),.d (.int .i64 dp)],.cells 61 [.sl 0 148 (tys.map (Zw (Zc L en))),.sl 1 152 (rels.map (ZQ (Zc L en))),.sl 2 55 (rules.map (ZW (Zc L en))),.sl 3 176 (comps.map (XK (Zc L en))),.sl 4 179 (inits.map (X7 (Zc L en))),.sl 5 183 (overs.map (X8 (Zc L en)))]],[5,4,3,2,1,0],6⟩/\ROK L a' ts'/\a<=a'/\ts'.length<f/\(tys.length<=256/\rels.length<=256/\rules.length<=1024/\comps.length<=64/\inits.length<=256/\overs.length<=256)/\RKk (fun (v:Un)=>Za3 (XQ (Zc L en) v)) L en dp a (XV inside d (ZnI d) f (.mk tys rels rules comps inits overs) ts') (fun pe a' dp'=>K pe ⟨[.cells t [.d (.sl (ZR L)),.d (.int .i64 a'),.d (.int .i64 en),.d (.int .i64 dp')]],[],0⟩),fun _ σ=>match σ with | ⟨.cells _ [_,.d (.int _ i),_,_]::_,_,_⟩=>((L.length:Int) - i).toNat | _=>0⟩)] 1 false ?_;have h:=h _ rfl;rw [ZwE,Zny] at h;refine ⟨⟨[],[],[],[],[],[],a,ts,ts.length+1,rfl,rfl,ho,oM,oM,sM,h⟩,?_⟩
   clear h
   intro vs σ hI
   obtain ⟨tys,rels,rules,comps,inits,overs,a',ts',f,rfl,rfl,cq,ab8,hf,afs,h⟩:=hI;obtain ⟨f,rfl⟩:∃g,f=g+1:=⟨f - 1,oM⟩
   rw [Ziz] at h;have po:=cq.hi;have sb:=cq.len;have wi:=cq.lo;(conv=>whnf);refine ZFU (fun hc=>wN ?_) (fun hc=>wN ?_)
   ·have ah:ts'≠[]:=by rintro rfl;have hc:a'<((ZR L).length:Int):=hc;rw [XJ] at hc;simp at sb;omega
    cases inside with
    | false =>
     rw [Tf (by simp [ah])] at h;exact mq1
    | true =>
    conv=>whnf
    refine ⟨L,ts',rfl,cq,[[125]],rfl,sM,fun b hw=>?_⟩
    cases b with
    | true =>
     rw [Tk (.inr ⟨rfl,hw⟩)] at h;(conv=>whnf)
     repeat (refine ⟨rfl,?_⟩;conv=>whnf)
     have h:=h _ oM cq;simp only [Za3,XQ,Us,TF,TQ] at h;exact h
    | false =>
    rw [Tf (by simp [ah,hw])] at h;exact mq1
   have ez:ts'=[]:=by have hc:¬a'<((ZR L).length:Int):=hc;rw [XJ] at hc;exact T6 oM
   rw [Tk (.inl ez)] at h;have h:=h _ oM cq;simp only [Za3,XQ,Us,TF,TQ] at h;exact h
  exact h.elim
 exact h.elim
def ZbP:PC w0 nG 199 Wt:=ZsU ⟨JA,trivial⟩
def cIs:PC w0 nG 194 Zis:=ZDy ⟨JA,Zkg,trivial⟩
def Zfo:PC w0 nG 203 (Jz ZN):=ZsW ⟨JA,Zkf,trivial⟩
def VZ:PC w0 nG 193 YR:=Zwh ⟨ZbP,trivial⟩
def Zag:PC w0 nG 243 XW:=Zwj ⟨cIs,trivial⟩
def JD:PC w0 nG 201 Xn:=Zwl ⟨Zag,VZ,trivial⟩
def ZDz:PC w0 nG 195 ZlB:=Zwn ⟨VZ,trivial⟩
def Jb:PC w0 nG 200 Xt:=ZsY ⟨Zfo,VZ,trivial⟩
def Zkl:PC w0 nG 280 (Jz Z2):=ZpY ⟨JA,cIs,Zkf,Za5,trivial⟩
def Zqi:PC w0 nG 320 ZsZ:=ZpZ ⟨JA,trivial⟩
def ZwJ:PC w0 nG 277 ZgH:=Zp6 ⟨Jb,JD,trivial⟩
def Zkm:PC w0 nG 244 UP:=Zp8 ⟨cIs,Ziv ⟨Zfo,VZ,ZwJ,Zag,trivial⟩,trivial⟩
def Zu2:PC w0 nG 202 Zdp:=Zs1 ⟨Zag,ZnC ⟨Zfo,VZ,Jb,Zag,trivial⟩,JD,trivial⟩
def ZAu:PC w0 nG 246 Zkj:=Zs3 ⟨Jb,JD,Zkm,trivial⟩
def ZAv:PC w0 nG 196 ZgI:=Zs5 ⟨ZbP,Jb,Zag,JD,Zkm,Zki ⟨Zfo,VZ,ZAu,Zag,trivial⟩,trivial⟩
def ZDA:PC w0 nG 197 ZlD:=Zwp ⟨ZbP,Jb,Zag,JD,Zkm,trivial⟩
def ZFC:PC w0 nG 209 Zs6:=ZAs ⟨Zqa ⟨Zag,trivial⟩,Zqb ⟨Zag,trivial⟩,trivial⟩
def ZiA (h:Wi (GG w0 nG).P 279):PC w0 nG 279 (Vb 0):=⟨h,fun args σ K hs=>by
 exfalso;unfold Vb at hs
 split at hs
 ·exact absurd hs.1.2.2.2.2.1 oM
 exact hs⟩
def ZiB {d:Nat} (h:PC w0 nG 279 (Zae d)):PC w0 nG 279 (Vb (d+1)):=h.weaken1 fun args σ K hs=>by
 unfold Vb at hs
 unfold Zae
 split at hs
 ·obtain ⟨⟨h1,h2,h3,h4,h5,h6,h7⟩,hs⟩:=hs;exact ⟨⟨h1,h2,h3,h4,oM,h7⟩,hs⟩
 exact hs.elim
def ZnJ (d:Nat) (h:Wi (GG w0 nG).P 302):PC w0 nG 302 (Zdt d 0):=⟨h,fun args σ K hs=>by
 exfalso;unfold Zdt Xl at hs
 split at hs
 ·obtain ⟨L,ts,_,_,hs⟩:=hs;split at hs
  ·exact absurd hs.1.2.1 oM
  exact hs
 exact hs⟩
def ZnK {d j:Nat} (h:PC w0 nG 302 (Zfn d j)):PC w0 nG 302 (Zdt d (j+1)):=h.weaken1 fun args σ K hs=>by
 unfold Zdt Xl at hs
 unfold Zfn Xl
 split at hs
 ·obtain ⟨L,ts,h1,h2,hs⟩:=hs;refine ⟨L,ts,h1,h2,?_⟩;split at hs
  ·exact ⟨⟨hs.1.1,hs.1.2.2.1,hs.1.2.2.2.1,by have:=hs.1.2.2.2.2;omega⟩,hs.2⟩
  exact hs.elim
 exact hs
structure Deep (w0:World) (nG d:Nat):Prop where
 sg:PC w0 nG 319 (Ziw d)
 ex:PC w0 nG 281 (Zkk d)
 many:PC w0 nG 279 (Vb d)
def ZlU {d:Nat} (D:Deep w0 nG d):PC w0 nG 250 (Zds d):=Zws ⟨(Zb6 (tb:=ZlI d) ⟨cIs,JD,VZ,(Zb6 (tb:=ZlH d) ⟨cIs,D.many,trivial⟩ Tryz.func278 rfl kR kR),trivial⟩ Tryz.func247 rfl kR kR),trivial⟩
def Ztd {d:Nat} (D:Deep w0 nG d):PC w0 nG 345 (ZlG d):=Zwu ⟨(Zb6 (tb:=ZlK d) ⟨cIs,JD,VZ,(ZAr (tb:=ZlJ d) ⟨JD,D.ex,trivial⟩ Tryz.func349 rfl kR kR),trivial⟩ Tryz.func247 rfl kR kR),trivial⟩
def Zkn {d:Nat} (D:Deep w0 nG d):PC w0 nG 333 (Zaf d):=ZnG ⟨Zkl,VZ,JA,(Zb6 (tb:=ZlM d) ⟨cIs,JD,VZ,(Zb6 (tb:=ZlL d) ⟨D.ex,trivial⟩ Tryz.func344 rfl kR kR),trivial⟩ Tryz.func247 rfl kR kR),ZlU D,Jb,cIs,Za5,Ztd D,trivial⟩
def Za9 {d:Nat} (D:Deep w0 nG d):PC w0 nG 319 (Zcp d):=Zqd ⟨ZbP,cIs,(Zb6 (tb:=ZlO d) ⟨cIs,JD,VZ,(Zb6 (tb:=ZlN d) ⟨D.sg,trivial⟩ Tryz.func332 rfl kR kR),trivial⟩ Tryz.func247 rfl kR kR),Zkn D,trivial⟩
def ZlV {d:Nat} (D:Deep w0 nG d):∀j,PC w0 nG 302 (Zfn d j)
 | 0=>Zqf ⟨Za9 D,Zqi,ZnJ d (Ze Tryz.func302 kR rfl),trivial⟩
 | j+1=>Zqf ⟨Za9 D,Zqi,ZnK (ZlV D j),trivial⟩
def ZgM {d:Nat} (D:Deep w0 nG d):PC w0 nG 281 (Zfm d):=Zwy ⟨ZlV D 6,trivial⟩
def Zqj {d:Nat} (h:PC w0 nG 281 (Zfm d)):PC w0 nG 279 (Zae d):=Zp2 d ⟨Zkl,VZ,h,Zag,trivial⟩
def ZAw:∀d,Deep w0 nG d
 | 0=>⟨Zdq (Ze Tryz.func319 kR rfl),Zdq (Ze Tryz.func281 kR rfl),ZiA (Ze Tryz.func279 kR rfl)⟩
 | d+1=>⟨Zdr (Za9 (ZAw d)),Zdr (ZgM (ZAw d)),ZiB (Zqj (ZgM (ZAw d)))⟩
def ZAx (d:Nat):PC w0 nG 250 (Zds d):=ZlU (ZAw d)
def ZDB (d:Nat):PC w0 nG 281 (Zfm d):=ZgM (ZAw d)
def ZAy:PC w0 nG 283 (ZlC Yd):=Ztb ⟨Zkl,cIs,trivial⟩
def ZwK {d:Nat} (h:PC w0 nG 251 (ZgK d)):PC w0 nG 284 (Zwz d):=ZAt ⟨ZbP,Zag,JA,Zfo,Jb,ZAx d,ZDB d,ZFC,VZ,JD,(Zb6 (tb:=Zqh d) ⟨cIs,JD,VZ,(Zb6 (tb:=Zqg d) ⟨h,trivial⟩ Tryz.func305 rfl kR kR),trivial⟩ Tryz.func247 rfl kR kR),trivial⟩
def ZlW {d:Nat} (h:PC w0 nG 251 (ZgK d)):PC w0 nG 251 (Ziy d):=ZwB ⟨Zp4 d ⟨ZAy,VZ,ZwK h,Zag,trivial⟩,trivial⟩
def Zu3:∀d,PC w0 nG 251 (ZgK d)
 | 0=>Zdq (Ze Tryz.func251 kR rfl)
 | d+1=>Zdr (ZlW (Zu3 d))
def ZDC (d:Nat):PC w0 nG 251 (Ziy d):=ZlW (Zu3 d)
def ZDD (d:Nat):PC w0 nG 204 (ZlQ d):=ZwD ⟨ZbP,Jb,ZAx d,Zag,ZDC d,JD,trivial⟩
def ZnL (h:Wi (GG w0 nG).P 135):PC w0 nG 135 (Uv 0):=⟨h,fun args σ K hs=>by
 exfalso;unfold Uv Xl at hs
 split at hs
 ·obtain ⟨L,ts,_,_,hs⟩:=hs;split at hs
  ·exact absurd hs.1.1 oM
  exact hs
 exact hs⟩
def ZnM {d:Nat} (h:PC w0 nG 135 (Zdw d)):PC w0 nG 135 (Uv (d+1)):=h.weaken1 fun args σ K hs=>by
 unfold Uv Xl at hs
 unfold Zdw Xl
 split at hs
 ·obtain ⟨L,ts,h1,h2,hs⟩:=hs;refine ⟨L,ts,h1,h2,?_⟩;split at hs
  ·obtain ⟨⟨g1,g2,g3,rfl⟩,hs⟩:=hs;refine ⟨oM,?_⟩;rw [ZnI,Ztc] at hs;exact hs
  exact hs.elim
 exact hs
def Zte {d:Nat} (h:PC w0 nG 135 (Uv d)):PC w0 nG 198 (ZlR d):=ZwG ⟨ZbP,Jb,Zu2,Zag,(Zb6 (tb:=ZlT d) ⟨cIs,JD,VZ,(Zb6 (tb:=ZlS d) ⟨h,trivial⟩ Tryz.func248 rfl kR kR),trivial⟩ Tryz.func247 rfl kR kR),trivial⟩
def ZlX {d:Nat} (h:PC w0 nG 135 (Uv d)):PC w0 nG 135 (Zdw d):=ZwI ⟨cIs,ZDz,ZAv,ZDA,Zte h,ZbP,Jb,JD,Zu2,Zfo,ZDD d,VZ,trivial⟩
def Zu4:∀d,PC w0 nG 135 (Uv d)
 | 0=>ZnL (Ze Tryz.func135 kR rfl)
 | d+1=>ZnM (ZlX (Zu4 d))
def ZDE (d:Nat):PC w0 nG 135 (Zdw d):=ZlX (Zu4 d)
def R.good {α:Type} (x:R α):Prop:=match x with | .ok _ _=>True | .err _ e=>e≠0
def ZFV {α β:Type} {x:R α} {f:α->Ts->R β} (h:x.good) (hf:∀a ts,(f a ts).good):(x.bind f).good:=by
 cases x with
 | ok a ts=>exact hf a ts
 | err r e=>exact h
def ZGj {α:Type} (a:α) (ts:Ts):(R.ok a ts:R α).good:=trivial
def ZFW {α:Type} {c:Prop} [Decidable c] {x y:R α} (h1:x.good) (h2:y.good):(if c then x else y).good:=by split;exact h1;exact h2
def ZFZ {α:Type} {r e:Nat} (h:e≠0):(R.err r e:R α).good:=h
def Yf (w:Bs) (ts:Ts):(Z3 w ts).good:=ZFW trivial (ZFZ dM)
def ZP (ts:Ts):(XO ts).good:=ZFW trivial (ZFZ dM)
def YE {α:Type} {d:Nat} {fr tw:Bs} {read:Ts->R α} (h:∀ts,(read ts).good) (ts:Ts):(Zu d fr tw read ts).good :=
 ZFW (ZFW (ZFZ dM) (ZFV (h _) fun _ _=>ZFW trivial (ZFV (Yf _ _) fun _ _=>trivial))) (ZFZ dM)
def Zdx {α:Type} {sign:Bs} {bc:Nat} {st:Ts->Bool} {one:Ts->R α} (h:∀ts,(one ts).good):∀f l ts,(Wr sign bc st one f l ts).good
 | 0,_,_=>ZFZ dM
 | f+1,l,ts=>ZFW (ZFZ dM) (ZFV (h _) fun _ _=>ZFW (Zdx h f _ _) trivial)
def Vd {α:Type} {sign:Bs} {bc:Nat} {st:Ts->Bool} {one:Ts->R α} (h:∀ts,(one ts).good) (ts:Ts):(XP sign bc st one ts).good:=Zdx h _ _ _
def ZnN (ts:Ts):(Uq ts).good:=ZFV (ZP _) fun _ _=>ZFV (Yf _ _) fun _ _=>ZFV (ZP _) fun _ _=>trivial
def JE (w:Bs) (ts:Ts):(Za1 w ts).good:=ZFW trivial (Vd ZnN _)
def Zba (ts:Ts):(Zfk ts).good:=ZFW (ZFV (Vd ZP _) fun _ _=>ZFV (Yf _ _) fun _ _=>trivial) trivial
def Zqk (ts:Ts):(Zdh ts).good:=ZFV (ZP _) fun _ _=>ZFV (Yf _ _) fun _ _=>ZFV (JE _ _) fun _ _=>ZFV (Yf _ _) fun _ _=>trivial
def ZnO (ts:Ts):(Zio ts).good:=ZFV (ZP _) fun _ _=>ZFW (ZFV (ZP _) fun _ _=>trivial) (ZFV (Yf _ _) fun _ _ =>
 ZFW (ZFV (JE _ _) fun _ _=>ZFV (Yf _ _) fun _ _=>trivial) (ZFV (Vd Zqk _) fun _ _=>trivial))
def Zql (ts:Ts):(ZpN ts).good:=ZFV (ZP _) fun _ _=>ZFV (Yf _ _) fun _ _=>ZFV (JE _ _) fun _ _=>ZFV (Yf _ _) fun _ _=>trivial
def Zah {d:Nat} {ex:Ts->R Ex} (h:∀ts,(ex ts).good) (fr tw:Bs) (ts:Ts):(Zip d ex fr tw ts).good:=by
 unfold Zip
 exact YE (fun ts=>ZFW (ZGj _ _) (Vd h _)) ts
def Zdy {ex:Ts->R Ex} (h:∀ts,(ex ts).good):∀k l ts,(J9 ex k l ts).good
 | 0,_,_=>trivial
 | k+1,l,ts=>ZFV (ZFW trivial (Yf _ _)) fun _ _=>ZFV (h _) fun _ _=>Zdy h k _ _
def ZiC {d:Nat} {ex:Ts->R Ex} (h:∀ts,(ex ts).good) (ts:Ts):(Zaa d ex ts).good :=
 ZFW (ZFZ dM) <| ZFW trivial <| ZFW trivial <| ZFW (YE h _) <| ZFW (ZFV (Zah h _ _ _) fun _ _=>trivial) <|
 ZFW (ZFV (ZP _) fun _ _=>ZFW (ZFV (Zah h _ _ _) fun _ _=>trivial) trivial) <|
 ZFW (ZFV (YE (Zdy h _ _) _) fun _ _=>trivial) <| ZFW trivial <| ZFW trivial trivial
def Zdz {sub:Nat->Ts->R Ex} (h:∀n ts,(sub n ts).good) (least:Nat):∀f e ts,(U9 sub least f e ts).good
 | 0,_,_=>ZFZ dM
 | f+1,e,ts=>ZFW trivial (ZFV (h _ _) fun _ _=>Zdz h least f _ _)
def Zbb {sg:Ts->R Ex} (h:∀ts,(sg ts).good):∀k least ts,(Jy sg k least ts).good
 | 0,_,_=>h _
 | k+1,least,ts=>ZFV (h _) fun _ _=>Zdz (fun n ts=>Zbb h k n ts) _ _ _ _
def ZbQ {d:Nat} {sg:Ts->R Ex} (h:∀ts,(sg ts).good) (ts:Ts):(Zdi d sg ts).good :=
 ZFW (ZFV (YE h _) fun _ _=>trivial) <| ZFW (ZFV (YE h _) fun _ _=>trivial) (ZiC (fun ts=>Zbb h _ _ _) _)
def ZdA:∀d ts,(Xs d ts).good
 | 0,ts=>ZbQ (fun _=>(ZFZ dM)) ts
 | d+1,ts=>ZbQ (ZdA d) ts
def ZdB (d:Nat) (ts:Ts):(Zab d ts).good:=Zbb (ZdA d) _ _ _
def Zfp:∀d ts,(Zdj d ts).good
 | 0,_=>(ZFZ dM)
 | d+1,ts=>ZdB d ts
def ZnP (ts:Ts):(Zdk ts).good:=by
 unfold Zdk
 split
 ·exact ZFZ dM
 ·split <;> trivial
 trivial
def ZbR (d op a:Nat) (ts:Ts):(Zdl d op a ts).good:=ZFV (ZP _) fun _ _=>ZFV (Zah (Zfp d) _ _ _) fun _ _=>trivial
def ZdC {d:Nat} {bd:Ts->R (List Li)} (h:∀ts,(bd ts).good) (a op:Nat) (l:List Ex) (ts:Ts):(Ws d bd a op l ts).good :=
 ZFW (ZFV (Yf _ _) fun _ _=>ZFV (YE h _) fun _ _=>trivial) trivial
def ZlY {d:Nat} {bd:Ts->R (List Li)} (h:∀ts,(bd ts).good) (ts:Ts):(Znw d bd ts).good :=
 ZFW (ZbR _ _ _ _) <| ZFW (ZbR _ _ _ _) <| ZFV (ZdB _ _) fun _ _=>ZFV (ZnP _) fun _ _=>ZFW (ZdC h _ _ _ _) (ZFV (ZdB _ _) fun _ _=>ZdC h _ _ _ _)
def ZiD:∀d ts,(Znx d ts).good
 | 0,ts=>Vd (ZlY fun _=>(ZFZ dM)) ts
 | d+1,ts=>Vd (ZlY (ZiD d)) ts
def Zqm (d:Nat) (b:Bool) (ts:Ts):(ZpO d b ts).good:=ZFV (ZP _) fun _ _=>ZFV (Zah (Zfp d) _ _ _) fun _ _ =>
 ZFW (ZFV (ZiD _ _) fun _ _=>ZFV (Yf _ _) fun _ _=>trivial) (ZFV (Yf _ _) fun _ _=>trivial)
def Zqn {d:Nat} {un:Ts->R Un} (h:∀ts,(un ts).good) (ts:Ts):(ZpP d un ts).good:=ZFV (ZP _) fun _ _=>ZFV (Zba _) fun _ _ =>
 ZFW (ZFV (ZP _) fun _ _=>ZFV (Zba _) fun _ _=>ZFV (YE h _) fun _ _=>trivial) (ZFV (YE h _) fun _ _=>trivial)
def Zqo (ts:Ts):(ZpQ ts).good:=ZFV (ZP _) fun _ _=>ZFV (Yf _ _) fun _ _=>ZFV (ZP _) fun _ _=>ZFV (Zba _) fun _ _=>trivial
def Zqp (ts:Ts):(ZpR ts).good:=ZFV (ZP _) fun _ _=>trivial
def Yu {b:Bool} {d:Nat} {un:Ts->R Un} (h:∀ts,(un ts).good):∀f u ts,(XV b d un f u ts).good
 | 0,_,_=>ZFZ dM
 | f+1,.mk tys rels rules comps inits overs,ts=>by
  rw [Ziz];exact ZFW trivial <| ZFW (ZFW (ZFZ dM) (ZFV (ZnO _) fun _ _=>Yu h f _ _)) <| ZFW (ZFW (ZFZ dM) (ZFV (Zql _) fun _ _=>Yu h f _ _)) <|
   ZFW (ZFW (ZFZ dM) (ZFV (Zqn h _) fun _ _=>Yu h f _ _)) <| ZFW (ZFW (ZFZ dM) (ZFV (Zqo _) fun _ _=>Yu h f _ _)) <|
   ZFW (ZFW (ZFZ dM) (ZFV (Zqp _) fun _ _=>Yu h f _ _)) <| ZFW (ZFW (ZFZ dM) (ZFV (Zqm _ _ _) fun _ _=>Yu h f _ _)) (ZFZ dM)
def Zfq:∀d ts,(ZpS d ts).good
 | 0,ts=>Yu (fun _=>(ZFZ dM)) _ _ _
 | d+1,ts=>Yu (Zfq d) _ _ _
def ZiE (ts:Ts):(Za2 ts).good:=Yu (Zfq 63) _ _ _
def ZnQ {a:Nat} {r:Bs} {room:Bool} {t:Tok} (h:Jt a r room=.tok t):room=true:=by
 cases room with
 | true=>rfl
 | false =>
 unfold Jt at h
 simp only at h;split at h
 ·cases h
 simp at h
def ZlZ:∀(f:Nat) (m:Int) (a:Nat) (r:Bs),(Ug f m a r).1.length<=m.toNat
 | 0,m,a,r=>by simp [Ug]
 | f+1,m,a,r=>by
  unfold Ug
  split
  ·simp
  simp only;split
  ·simp
  split
  ·simp
  rename_i t ht
  have hr:=ZnQ ht;rw [TP] at hr;have:=ZlZ f (m - 1) t.fin ((r.drop (YQ r).2).drop (t.fin - (a+(YQ r).2)));simp only [Te];omega
def ZwL (s:Bs) (m:Int):(Zep s m).1.length<=m.toNat:=ZlZ _ _ _ _
inductive Top (α:Type) where
 | ok (v:α) (L:List Tok) | err (p:Int) (e:Nat)
def JF {α:Type} (bytes bc:Nat) (P:Ts->R α) (s:Bs):Top α :=
 if bytes<s.length then .err 0 3
 else if (Zep s bc).2.2≠0 then .err (Zep s bc).2.1 (Zep s bc).2.2
 else match P ((Zep s bc).1.map Tok.t0) with
  | .ok v []=>.ok v (Zep s bc).1
  | .ok v (_::ts)=>.err (Zc (Zep s bc).1 s.length (ts.length+1)) 150
  | .err r e=>.err (Zc (Zep s bc).1 s.length r) e
def Zko {α:Type} {bytes bc:Nat} {P:Ts->R α} (hP:∀ts,(P ts).good) {s:Bs} {p:Int} {e:Nat} (h:JF bytes bc P s=.err p e):e≠0:=by
 unfold JF at h
 split at h
 ·cases h;decide
 split at h
 ·rename_i hn;cases h;exact hn
 split at h
 ·cases h
 ·cases h;decide
 rename_i r e' he
 cases h
 have:=hP ((Zep s bc).1.map Tok.t0);rw [he] at this;exact this
def Zfr:Zn:=fun args σ K=>match args,σ with
 | [.d (.str s),.d (.int .i64 m)],⟨[],[],0⟩=>s.length<4294967281 /\
   ∀l p c,Zep s m=(l,(p,c))->(c=0->K (.ret (.tuple [.d (.sl (ZR l)),.d (.int .i64 p),.d (.int .i64 0)])) ⟨[],[],0⟩) /\
    (c≠0->K (.ret (.tuple [.d (.sl []),.d (.int .i64 p),.d (.int .i64 c)])) ⟨[],[],0⟩)
 | _,_=>False
def Zkp:Zy Zfr:=fun args σ K K' hK h=>by
 unfold Zfr at h |-
 split at h
 ·exact ⟨h.1,fun l p c hx=>⟨fun g=>hK _ _ ((h.2 l p c hx).1 g),fun g=>hK _ _ ((h.2 l p c hx).2 g)⟩⟩
 exact h.elim
def ZwM (h:PC w0 nG 191 J8):PC w0 nG 191 Zfr:=h.weaken1 fun args σ K hs=>by
 unfold Zfr at hs
 unfold J8
 split at hs
 ·rename_i s m
  obtain ⟨h1,hs⟩:=hs;refine ⟨h1,?_⟩;have hs:=hs (Zep s m).1 (Zep s m).2.1 (Zep s m).2.2 rfl
  by_cases hc:(Zep s m).2.2=0
  ·rw [Tk hc,hc];exact hs.1 hc
  rw [Tf hc];exact hs.2 hc
 exact hs.elim
def recOf:Nat×Nat×Code:=match ZzM (YP Tryz.f192) with | some x=>x | none=>(0,0,.skip)
def ZAz:List PV->St->(St->Prop)->Prop:=fun args σ K=>args.length<=Tryz.f192.ntmps/\W (ctx Vq [] (Zj [])) recOf.2.2 (ZsS Vq Tryz.f192 σ.bx.length K) (WY (WY (Zb3 0 args) recOf.1 (.d .nili)) recOf.2.1 (.d .nili)) σ
def ZAA:PV->List PV->St->(St->Prop)->Prop:=fun pv args σ K=>args.length<=Tryz.f192.ntmps/\W (ctx Vq [] (Zj [])) recOf.2.2 (ZsS Vq Tryz.f192 σ.bx.length K) (WY (WY (Zb3 0 args) recOf.1 pv) recOf.2.1 pv) σ
def ZAB:PDef (GG w0 nG) 192 ZAz ZAA :=
 Zkc (a:=recOf.1) (b:=recOf.2.1) (rest:=recOf.2.2) Zx mixed Tryz.func192 rfl kR rfl kR (fun args σ K h=>⟨Zoy Vq [] (Zj []) (fun _=>0) (fun _=>false),σ.bx.length,CxG.of (tbl:=[]) Zx trivial trivial _ _ _,Tu _,h.1,h.2⟩) (fun pv args σ K h=>⟨Zoy Vq [] (Zj []) (fun _=>0) (fun _=>false),σ.bx.length,CxG.of (tbl:=[]) Zx trivial trivial _ _ _,Tu _,h.1,h.2⟩)
def WhK {α:Type} (tU:TypeId) (enc:List Tok->Int->α->List PV) (bad:List PV->Prop) (n:Int) (x:Top α) (K:PEnd->St->Prop):Prop:=match x with
 | .ok v L=>K (.ret (.tuple [.d (.int .i64 0),.d (.int .i64 0)])) ⟨[.cells tU (enc L n v)],[],0⟩
 | .err p e=>∀cs,bad cs->K (.ret (.tuple [.d (.int .i64 p),.d (.int .i64 e)])) ⟨[.cells tU cs],[],0⟩
def Zqq {l:List Tok} (h:l.length<=1048576):ROK l 0 (l.map Tok.t0):=⟨oM,oM,h,by simp [tz]⟩
def ZFD (cs:List PV):Prop:=∃a b c d e f:List (List D),cs=[.d (.sl a),.d (.sl b),.d (.sl c),.d (.sl d),.d (.sl e),.d (.sl f)]
def Zl0:Tbl:=[(135,Zdw 64)]
def ZwN:Zn:=fun args σ K=>match args,σ with
 | [.d (.str s),.d (.int .i64 by'),.d (.int .i64 bc),.func g [] [.ptr 0 0]],⟨[.cells tU c0],tk,n⟩=>(g=134/\by'=65536/\bc=16384/\c0=[.sl 0 148 [],.sl 1 152 [],.sl 2 55 [],.sl 3 176 [],.sl 4 179 [],.sl 5 183 []]/\tk=[5,4,3,2,1,0]/\n=6)/\s.length<4294967281 /\
   ∀x,JF 65536 16384 Za2 s=x->WhK tU (fun L n (v:Un)=>(XQ (Zc L n) v).map .d) ZFD s.length x K
 | _,_=>False
def Zu5:Tbl:=[(191,Zfr),(134,ZlE Tryz.f134 Zl0),(193,YR)]
def Zqr (ht:TO w0 nG Zu5):PC w0 nG 133 ZwN:=by
 refine Zco Zx mixed Tryz.func133 rfl kR kR ZAB ?_;intro args σ K h
 unfold ZwN at h
 split at h
 ·obtain ⟨⟨rfl,rfl,rfl,rfl,rfl,rfl⟩,hs,h⟩:=h
  rename_i s tU
  have h:=h _ rfl;refine ⟨Zoy Vq Zu5 (Zj []) (Xk []) (Yh []),1,false,CxG.of Zx ht ⟨Zkp,Zp9 _ _,Zke,trivial⟩ _ _ _,sM,Tc rfl,wN ?_⟩;unfold JF at h
  refine ZFU (fun hc=>wN ?_) (fun hc=>wN ?_)
  ·rw [Tk oM] at h;exact h _ ⟨_,_,_,_,_,_,rfl⟩
  rw [Tf oM] at h;refine ⟨hs,fun l p c hx=>?_⟩;have hlen:=ZwL s 16384;rw [show ((16384:Nat):Int)=16384 from rfl,hx] at h;rw [hx] at hlen;refine ⟨fun h0=>?_,fun h0=>wN ?_⟩
  ·subst h0;rw [Tf sM] at h;simp only at h hlen;have ho:=Zqq (l:=l) (by simp at hlen;omega)
   clear hx hlen
   generalize wm:l.map Tok.t0=ts at h ho;(conv=>whnf);refine ⟨_,fun _ _ h=>h,Tc rfl,wN ?_⟩;refine ⟨l,ts,rfl,ho,oM,fun x hx=>?_⟩;rw [show Za2 ts=ZwE false 64 ts from rfl,hx] at h;rcases x with ⟨⟨v1,v2,v3,v4,v5,v6⟩,ts2⟩ | ⟨r,e⟩
   rotate_left
   ·intro a9 d9;(conv=>whnf);refine ⟨Tc rfl,?_⟩;(conv=>whnf);(repeat (refine ⟨rfl,?_⟩;conv=>whnf));exact h _ ⟨_,_,_,_,_,_,rfl⟩
   intro a2 f7 ai
   conv=>whnf
   have gy:=ai.len
   (repeat (refine ⟨rfl,?_⟩;conv=>whnf))
   refine ZFU (fun ec=>?_) (fun ec=>?_)
   ·have ec:a2<l.length:=by have ec:a2<((ZR l).length:Int):=ec;rw [XJ] at ec;exact ec
    cases ts2 with
    | nil=>simp at gy;omega
    | cons t0 ts3 =>
    conv=>whnf
    refine ⟨l,_,rfl,ai,wN ?_⟩;refine ⟨Tc rfl,wN ?_⟩
    (repeat (refine ⟨rfl,?_⟩;conv=>whnf))
    exact h _ ⟨_,_,_,_,_,_,rfl⟩
   have ec:¬a2<l.length:=by have ec:¬a2<((ZR l).length:Int):=ec;rw [XJ] at ec;exact ec
   obtain rfl:ts2=[]:=T6 oM;(conv=>whnf);refine ⟨Tc rfl,wN ?_⟩;exact h
  rw [Tk h0] at h;refine ZFX (fun bl=>?_) (fun bl=>absurd (show c=0 by omega) h0);(conv=>whnf)
  (repeat (refine ⟨rfl,?_⟩;conv=>whnf))
  exact h _ ⟨_,_,_,_,_,_,rfl⟩
 exact h.elim
def ZEM {α:Type} (enc:List Tok->α->PV) (zero:PV) (x:Top α) (K:PEnd->St->Prop):Prop:=match x with
 | .ok v L=>K (.ret (.tuple [enc L v,.d (.int .i64 0),.d (.int .i64 0)])) ⟨[],[],0⟩
 | .err p e=>K (.ret (.tuple [zero,.d (.int .i64 p),.d (.int .i64 e)])) ⟨[],[],0⟩
def Zl1:Zn:=fun args σ K=>match args,σ with
 | [.d (.str s)],⟨[],[],0⟩=>s.length<4294967281/\∀x,JF 65536 16384 Za2 s=x->ZEM (fun L (v:Un)=>Za3 (XQ (Zc L s.length) v)) (Za3 (XQ (fun _=>0) .nil)) x K
 | _,_=>False
def ZwP:OKw w0 nG [(133,ZwN)] 75 Zl1:=by
 refine pwo Tryz.func75 fun args σ K h=>?_
 unfold Zl1 at h
 split at h
 ·rename_i s
  obtain ⟨hs,h⟩:=h;refine pwv [] 0 false ?_;refine ⟨⟨rfl,rfl,rfl,rfl,rfl,rfl⟩,hs,fun x hx=>?_⟩;have h:=h x hx
  cases x with
  | ok v L =>
   obtain ⟨v1,v2,v3,v4,v5,v6⟩:=v;exact mq48
  | err p e =>
  have he:=Zko ZiE hx;intro cs dg
  obtain ⟨b1,b2,b3,b4,b5,b6,rfl⟩:=dg;(conv=>whnf);refine ZFX (fun hc=>?_) (fun hc=>absurd (show e=0 by omega) he);exact mq48
 exact h.elim
def ZnR (hg:GlobOK w0 nG):PC w0 nG 191 Zfr:=ZwM (Zwc hg)
def ZDF (hg:GlobOK w0 nG):PC w0 nG 75 Zl1:=ZwP ⟨Zqr ⟨ZnR hg,Zb6 (tb:=Zl0) ⟨ZDE 64,trivial⟩ Tryz.func134 rfl kR kR,VZ,trivial⟩,trivial⟩
mutual
def szE:Ex->Nat
 | .mk _ _ _ l _=>1+Zei l
def Zei:List Ex->Nat
 | []=>0
 | x::l=>1+szE x+Zei l
end
def Y1:∀(l:List Ex),l.length<=Zei l
 | []=>Tu _
 | x::l=>by have:=Y1 l;simp only [Te,Zei];omega
def Yv:∀(l:List Ex) (i:Nat) (h:i<l.length),szE l[i]<Zei l
 | x::l,0,h=>by simp only [List.getElem_cons_zero,Zei];omega
 | x::l,i+1,h=>by have:=Yv l i (by simpa using h);simp only [List.getElem_cons_succ,Zei];omega
def Li.op:Li->Nat | .mk o _ _ _ _=>o
end Go.PM.Lex
end

section
namespace Go.PM.Lex
mutual
def erE:Ex->Ex
 | .mk op t n args _=>.mk op t n (ZEN args) 0
def ZEN:List Ex->List Ex
 | []=>[]
 | e::l=>erE e::ZEN l
end
def Stb {α:Type} (er:α->α) (m:Ts) (x y:R α):Prop:=∀v ts,x=.ok v ts->∃v',er v'=er v/\y=.ok v' (ts++m)
section
variable {α β:Type} {er:α->α} {er2:β->β} {m:Ts}
def Stb.ok {v v':α} {ts:Ts} (h:er v'=er v):Stb er m (.ok v ts) (.ok v' (ts++m)):=fun w rest e=>by cases e;exact ⟨v',h,rfl⟩
def Stb.ok' {v v':α} {ts ts':Ts} (h:er v'=er v) (e:ts'=ts++m):Stb er m (.ok v ts) (.ok v' ts'):=e ▸ Stb.ok h
def Stb.err {r e:Nat} {y:R α}:Stb er m (.err r e) y:=fun w rest e=>by cases e
def Stb.bind {x y:R α} {f g:α->Ts->R β} (h:Stb er m x y) (hf:∀v v' ts,er v'=er v->Stb er2 m (f v ts) (g v' (ts++m))):Stb er2 m (x.bind f) (y.bind g):=fun w rest e=>by
 cases x with
 | ok v ts =>
  obtain ⟨v',h1,rfl⟩:=h v ts rfl;exact hf v v' ts h1 w rest e
 | err r e'=>cases e
def Stb.binds {x y:R α} {f g:α->Ts->R β} (h:Stb id m x y) (hf:∀v ts,Stb er2 m (f v ts) (g v (ts++m))):Stb er2 m (x.bind f) (y.bind g):=Stb.bind h fun v v' ts e=>by cases (show v'=v from e);exact hf v ts
end
variable {m:Ts}
def map_id' {α:Type} (l:List α):l.map id=l:=sM
def Un.app:Un->Un->Un
 | .mk a1 a2 a3 a4 a5 a6,.mk b1 b2 b3 b4 b5 b6=>.mk (a1++b1) (a2++b2) (a3++b3) (a4++b4) (a5++b5) (a6++b6)
def Un.le:Un->Un->Prop
 | .mk a1 a2 a3 a4 a5 a6,.mk b1 b2 b3 b4 b5 b6=>a1.length<=b1.length/\a2.length<=b2.length/\a3.length<=b3.length/\a4.length<=b4.length/\a5.length<=b5.length/\a6.length<=b6.length
def Un.le_refl:∀u:Un,Un.le u u | .mk ..=>⟨Tu _,Tu _,Tu _,Tu _,Tu _,Tu _⟩
def Un.le_trans:∀{u v w:Un},Un.le u v->Un.le v w->Un.le u w
 | .mk ..,.mk ..,.mk ..,⟨h1,h2,h3,h4,h5,h6⟩,⟨k1,k2,k3,k4,k5,k6⟩=>⟨oM,oM,oM,oM,oM,oM⟩
def Un.room:Un->Un->Prop
 | .mk a1 a2 a3 a4 a5 a6,.mk b1 b2 b3 b4 b5 b6=>a1.length+b1.length<=256/\a2.length+b2.length<=256/\a3.length+b3.length<=1024/\a4.length+b4.length<=64/\a5.length+b5.length<=256/\a6.length+b6.length<=256
end Go.PM.Lex
end

section
namespace Go.PM.Lex
open Go.Proofs
variable {w0:World} {nG:Nat}
def szS {α:Type} (f:α->Nat):List α->Nat
 | []=>0
 | x::l=>1+f x+szS f l
def Zq {α:Type} (f:α->Nat):∀(l:List α),l.length<=szS f l
 | []=>Tu _
 | x::l=>by have:=Zq f l;simp only [Te,szS];omega
def Zz {α:Type} (f:α->Nat):∀(l:List α) (i:Nat) (h:i<l.length),f l[i]<szS f l
 | x::l,0,h=>by simp only [List.getElem_cons_zero,szS];omega
 | x::l,i+1,h=>by have:=Zz f l i (by simpa using h);simp only [List.getElem_cons_succ,szS];omega
def Xu:∀(l:List Ex),Zei l=szS szE l
 | []=>rfl
 | x::l=>by rw [Zei,szS,Xu l]
def eqB (a b:Bs):Bool:=decide (a=b)
mutual
def szL:Li->Nat
 | .mk _ _ a b _=>1+szS szE a+Zai b
def Zai:List Li->Nat
 | []=>0
 | x::l=>1+szL x+Zai l
end
def Wu:∀(l:List Li),Zai l=szS szL l
 | []=>by rw [Zai,szS]
 | x::l=>by rw [Zai,szS,Wu l]
def ZhE (r:Ru):Nat:=1+szS szE r.args+szS szL r.body
def sz0 {α:Type} (_:α):Nat:=0
def ZAC (c:Ca):Nat:=1+szS sz0 c.fields
def ZAD (a:Ty):Nat:=1+szS sz0 a.fields+szS ZAC a.cases
def ZAE (a:Re):Nat:=1+szS sz0 a.fields
def ZFE (a:Ini):Nat:=1+szS sz0 a.types
mutual
def ZFF:Un->Nat
 | .mk a1 a2 a3 a4 a5 a6=>1+szS ZAD a1+szS ZAE a2+szS ZhE a3+Zqs a4+szS ZFE a5+szS sz0 a6
def ZEO:Co->Nat
 | .mk _ p _ t u _=>1+szS sz0 p+szS sz0 t+ZFF u
def Zqs:List Co->Nat
 | []=>0
 | x::l=>1+ZEO x+Zqs l
end
def ZgN:∀(l:List Co),Zqs l=szS ZEO l
 | []=>by rw [Zqs,szS]
 | x::l=>by rw [Zqs,szS,ZgN l]
def spB (sp:Nat->Zn) (n:Nat):Zn:=fun args σ K=>0<n/\sp (n - 1) args σ K
def Zl2 {sp:Nat->Zn} (h:∀n,Zy (sp n)) (n:Nat):Zy (spB sp n):=fun args σ K K' hK g=>⟨g.1,h _ _ _ _ _ hK g.2⟩
def ZC {g:FuncId} {sp:Nat->Zn} (h:Wi (GG w0 nG).P g):PC w0 nG g (spB sp 0):=⟨h,fun args σ K hs=>absurd hs.1 oM⟩
def ZD {g:FuncId} {sp:Nat->Zn} {n:Nat} (h:PC w0 nG g (sp n)):PC w0 nG g (spB sp (n+1)):=h.weaken1 fun args σ K hs=>hs.2
abbrev ws:Bs:=[32,9,13,10]
def ZnS (c:Nat):Option UInt8:=if c=10 then some 110 else if c=9 then some 116 else if c=34 then some 34 else if c=92 then some 92 else none
def VJ:Nat->Bs->Bs->Option Bs
 | 0,_,_=>none
 | f+1,r,out=>if r=[] then some out else match ZnS (Lib.decodeL r).1 with
  | some b=>VJ f (r.drop (Lib.decodeL r).2) (out++[92,b])
  | none=>if (Lib.decodeL r).1<32 then none else VJ f (r.drop (Lib.decodeL r).2) (out++Lib.encodeRune (Lib.decodeL r).1)
def Jc (s:Bs):Option Bs:=if Lib.validD s=true then (VJ (s.length+1) s [34]).map (·++[34]) else none
def Zkq:Zn:=fun args σ K=>match args with
 | [.d (.str s)]=>s.length<=9223372036854775807/\K (.ret (.d (.bool (Lib.validD s)))) σ
 | _=>False
def Ztf (h1:1<nG) (hT:Lib.Utf8Tabs 0 1 w0):PC w0 nG 263 Zkq:=YK (Ze Tryz.func263 kR rfl) fun args σ K h e w vs hS ha=>by
 unfold Zkq at h
 split at h
 ·rename_i s
  obtain ⟨u,rfl,hu⟩:=Zer ha
  cases hu.dstr
  have hT':Lib.Utf8Tabs 0 1 w:=by
   have g0:=hS.glob 0 (show 0<nG by omega);have g1:=hS.glob 1 h1;obtain ⟨a,b⟩:=hT;refine ⟨fun c hc=>?_,fun i hi=>?_⟩
   ·have:=a c hc;simpa [World.cell?,g0] using this
   have:=b i hi;simpa [World.cell?,g1] using this
  exact ⟨_,h.2,_,fun _ _=>.mkbool,(Any.utf8_ValidString Tryz.laysValid ⟨s.toArray⟩ w (show s.toArray.size<=_ by simpa using h.1) hT').mono fun en w' ⟨h1,h2⟩=>⟨h1,ZF0 h2⟩⟩
 exact h.elim
def Ztg {n:Nat} (h:ZnS n=none):Zdc [10,9,34,92] n=-1:=by
 unfold ZnS at h
 split at h;· cases h
 split at h;· cases h
 split at h;· cases h
 split at h;· cases h
 rename_i h1 h2 h3 h4
 unfold Zdc
 split
 ·rename_i h5
  have hc:([10,9,34,92]:Bs).contains ((n:Int).toNat.toUInt8)=false:=by
   have b1:=Uo (n:=n) (k:=10) oM oM h1;have b2:=Uo (n:=n) (k:=9) oM oM h2;exact mq110
  rw [Lib.contains_iff_indexByte,decide_eq_false_iff_not] at hc;have:=Lib.indexByte_ge [10,9,34,92] ((n:Int).toNat.toUInt8);omega
 rfl
def Zth {n:Nat} {b:UInt8} (h:ZnS n=some b):(Zdc [10,9,34,92] n=0/\b=110)\/(Zdc [10,9,34,92] n=1/\b=116)\/(Zdc [10,9,34,92] n=2/\b=34)\/(Zdc [10,9,34,92] n=3/\b=92):=by
 unfold ZnS at h
 exact mq67
def JG:Zn:=fun args σ K=>match args,σ with
 | [.d (.str s)],⟨[],[],0⟩=>s.length<4294967281/\(Jc s=none->K (.ret (.tuple [.d (.str []),.d (.bool false)])) ⟨[],[],0⟩)/\(∀q,Jc s=some q->K (.ret (.tuple [.d (.str q),.d (.bool true)])) ⟨[],[],0⟩)
 | _,_=>False
def ZiF:Zy JG:=fun args σ K K' hK h=>by
 unfold JG at h |-
 split at h
 ·exact ⟨h.1,fun g=>hK _ _ (h.2.1 g),fun q g=>hK _ _ (h.2.2 q g)⟩
 exact h.elim
def ZFG (B:Nat):List PV->St->Nat:=fun _ σ=>match σ.bx with | [_,.iter _ p]=>B - p | _=>0
def Ztj:OKw w0 nG [(263,Zkq),(264,VC),(265,Wq),(266,VD),(76,Zcm)] 229 JG:=by
 refine pwo Tryz.func229 fun args σ K h=>?_
 unfold JG at h
 split at h
 ·rename_i s
  obtain ⟨hs,cy,dt⟩:=h;refine pwv [(6,⟨[],[4,13],fun vs σ=>vs=[]/\∃(out:Bs) (i f:Nat),σ=⟨[.cells 134 [.ptr 0 0,.sl 0 5 (Zk out)],.iter s i],[0],1⟩/\(i<=s.length/\s.length<i+f/\out.length<=4 * i+1)/\VJ f (s.drop i) out=VJ (s.length+1) s [34],ZFG s.length⟩)] 0 false ?_;refine ⟨oM,wN ?_⟩;refine ZFY (fun h1=>wN ?_) (fun h1=>wN ?_)
  ·have hv:Lib.validD s=false:=by simpa using h1
   exact cy (by unfold Jc;rw [Tf (by rw [hv];simp)])
  have hv:Lib.validD s=true:=by simpa using h1
  have hq:Jc s=(VJ (s.length+1) s [34]).map (·++[34]):=by unfold Jc;rw [Tk hv]
  refine ⟨⟨.inl rfl,rfl,rfl,sM,sM⟩,wN ?_⟩;refine ⟨⟨rfl,[34],0,s.length+1,rfl,⟨oM,oM,sM⟩,by rw [Sn]⟩,?_⟩;intro vs σ1 hI
  obtain ⟨rfl,out,i,f,rfl,⟨zi,ab,hol⟩,gz⟩:=hI;obtain ⟨f,rfl⟩:∃g,f=g+1:=⟨f - 1,oM⟩
  have cm:=Zfh out;have cf:=Zfi out;have bo:=Zff s i;have iw:=ZgC (s.drop i);have jq:=Lib.decodeL_le (s.drop i);rw [TH] at jq;(conv=>whnf);refine ZFU (fun h2=>wN ?_) (fun h2=>wN ?_)
  ·have ah:s.drop i≠[]:=fun g=>by have:=congrArg List.length g;rw [TH] at this;simp at this;omega
   have g3:i+(decodeL s i).2<=s.length:=by rw [bo];have:=jq ah;omega
   have qo:1<=(decodeL s i).2:=by rw [bo];omega
   refine ⟨⟨.inr rfl,oM,by rw [bo];omega⟩,wN ?_⟩;generalize hk:Zdc _ _=k;have gk:Zdc [10,9,34,92] ((Lib.decodeL (s.drop i)).1:Int)=k:=by rw [<- bo];exact hk
   cases hE:ZnS (Lib.decodeL (s.drop i)).1 with
   | some b =>
    have g1:VJ f (s.drop (i+(decodeL s i).2)) (out++[92,b])=VJ (s.length+1) s [34]:=by rw [<- gz,bo];simp [VJ,ah,hE,TM]
    rcases Zth hE with ⟨e1,rfl⟩ | ⟨e1,rfl⟩ | ⟨e1,rfl⟩ | ⟨e1,rfl⟩
    all_goals (rw [e1] at gk;subst gk)
    all_goals (conv=>whnf)
    all_goals (refine ⟨⟨.inr rfl,rfl,rfl,cm,oM⟩,?_⟩)
    all_goals (conv=>whnf)
    all_goals (refine ⟨oM,by first | omega | (simp;done) | (simp;omega),?_⟩)
    all_goals (conv=>whnf)
    all_goals (refine ⟨⟨.inr rfl,rfl,rfl,fun r hr=>by (rcases TD.1 hr with hr | hr;exact cm r hr;simp at hr;subst hr;rfl),by rw [Tb];simp;omega⟩,?_⟩)
    all_goals (conv=>whnf)
    all_goals (refine ⟨⟨rfl,_,_,f,?_,⟨g3,oM,?_⟩,g1⟩,?_⟩)
    all_goals (first | (rw [Va,To];rfl) | (rw [Tb];simp;omega) | exact (show s.length - (i+(decodeL s i).2)<s.length - i by omega))
   | none =>
   rw [Ztg hE] at gk;subst gk;(conv=>whnf);refine ZFU (fun h5=>wN ?_) (fun h5=>wN ?_)
   ·have f6:(Lib.decodeL (s.drop i)).1<32:=by rw [bo] at h5;omega
    refine cy ?_;rw [hq,<- gz];simp [VJ,ah,hE,f6]
   have f6:¬(Lib.decodeL (s.drop i)).1<32:=by rw [bo] at h5;omega
   have g1:VJ f (s.drop (i+(decodeL s i).2)) (out++Lib.encodeRune ((decodeL s i).1:Int))=VJ (s.length+1) s [34]:=by rw [<- gz,bo];simp [VJ,ah,hE,f6,TM]
   have hen:=Zkb ((decodeL s i).1:Int);refine ⟨⟨.inr rfl,rfl,rfl,cm,oM,oM,by rw [bo];omega⟩,wN ?_⟩;refine ⟨⟨rfl,_,_,f,?_,⟨g3,oM,?_⟩,g1⟩,?_⟩
   ·rw [Va];rfl
   ·rw [Tb];omega
   exact (show s.length - (i+(decodeL s i).2)<s.length - i by omega)
  have ez:s.drop i=[]:=Tq oM;have g1:VJ (s.length+1) s [34]=some out:=by rw [<- gz];simp [VJ,ez]
  refine ⟨⟨.inr rfl,rfl,rfl,cm,oM⟩,wN ?_⟩;refine ⟨out++[34],⟨by rw [Jw];rfl,rfl,rfl,.inr rfl,by rw [Tb];simp;omega⟩,wN ?_⟩;exact dt _ (by rw [hq,g1];rfl)
 exact h.elim
def Ztk (s:Bs):Bool:=Zm (pk s).1 && decide (VB s=s.length)
def ZgO:Zn:=fun args σ K=>match args,σ with
 | [.d (.str s)],⟨[],[],0⟩=>s.length<4294967281/\K (.ret (.d (.bool (Ztk s)))) ⟨[],[],0⟩
 | _,_=>False
def ZDH:OKw w0 nG [(222,ZbH),(223,UN),(224,Zib)] 168 ZgO:=by
 refine pwo Tryz.func168 fun args σ K h=>?_
 unfold ZgO at h
 split at h
 ·rename_i s
  obtain ⟨hs,h⟩:=h;refine pwv [] 0 false ?_;have uf:=WK (s.drop (Int.toNat 0));have hd:s.drop (Int.toNat 0)=s:=Sn;refine ⟨⟨oM,oM⟩,wN ?_⟩;refine ⟨⟨uf.1,oM⟩,wN ?_⟩;refine ZFY (fun h1=>wN ?_) (fun h1=>wN ?_)
  ·have n7:Zm (pk s).1=true:=by rw [<- hd];exact h1
   refine ⟨⟨oM,oM,hs⟩,wN ?_⟩;refine Zlt h ?_;rw [Ztk,n7,TW,decide_eq_decide,hd];omega
  have n7:Zm (pk s).1=false:=by rw [<- hd];exact h1
  rw [Ztk,n7] at h;exact h
 exact h.elim
def Xg (s:Bs):Bool:=Ztk s && (!decide (s=[95]) && !Znu s)
def ZS (op:Nat):Nat:=if op=16 then 0 else if op=17 then 0 else if op=15 then 1 else if op=18 then 2 else if op=19 then 2 else if op=10 then 3 else if op=11 then 3 else if op=12 then 4 else if op=13 then 4 else if op=14 then 4
 else if op=8 then 5 else if op=9 then 5 else if op=20 then 6 else if op=21 then 6 else if op=22 then 6 else if op=23 then 6 else if op=24 then 6 else if op=25 then 6 else if op=6\/op=7 then 6 else if op=1\/op=2\/op=3\/op=4\/op=5 then 6 else 0
def VK (op:Nat):Bs:=if op=16 then [98,111,114] else if op=17 then [98,120,111,114] else if op=15 then [98,97,110,100] else if op=18 then [115,104,108] else if op=19 then [115,104,114] else if op=10 then [43] else if op=11 then [45] else if op=12 then [42] else if op=13 then [47] else if op=14 then [37]
 else if op=8 then [45] else if op=9 then [126] else if op=20 then [99,97,116] else if op=21 then [115,116,114,108,101,110] else if op=22 then [115,117,98,115,116,114] else if op=23 then [99,111,100,101] else if op=24 then [115,116,114] else if op=25 then [110,117,109] else []
def V0 (op:Nat):Int:=if op=16 then 2 else if op=17 then 2 else if op=15 then 2 else if op=18 then 2 else if op=19 then 2 else if op=10 then 2 else if op=11 then 2 else if op=12 then 2 else if op=13 then 2 else if op=14 then 2
 else if op=8 then 1 else if op=9 then 1 else if op=20 then 2 else if op=21 then 1 else if op=22 then 3 else if op=23 then 1 else if op=24 then 1 else if op=25 then 1 else if op=6\/op=7 then -1 else if op=1\/op=2\/op=3\/op=4\/op=5 then 0 else -2
def V3 (op:Nat) (text:Bs):Bool:=if op=1\/op=7 then Xg text else if op=4 then (Jc text).isSome else decide (text=[])
mutual
def Yi:Ex->Bool
 | .mk op text n args _=>decide (-2<V0 op) && ((decide (V0 op<0) || decide ((args.length:Int)=V0 op)) && ((decide (n=0) || decide (op=3)) && (V3 op text && Zqt args)))
def Zqt:List Ex->Bool
 | []=>true
 | e::l=>Yi e && Zqt l
end
def Zt (l:List Ex):Zqt l=l.all Yi:=by induction l with | nil=>rfl | cons x l ih=>simp [Zqt,ih]
def YW (op:Nat) (rel:Bs) (args body:Nat):Bool :=
 if op=1\/op=2 then Xg rel && !decide (0<body)
 else if 3<=op/\op<=8 then decide (rel=[]) && (decide (args=2) && !decide (0<body))
 else if op=9 then decide (rel=[]) && (decide (args=1) && decide (0<body))
 else if 9<op/\op<=12 then decide (rel=[]) && (decide (args=2) && decide (0<body)) else false
mutual
def YG:Li->Bool
 | .mk op rel args body _=>YW op rel args.length body.length && (Zqt args && Zb7 body)
def Zb7:List Li->Bool
 | []=>true
 | e::l=>YG e && Zb7 l
end
def Xh (l:List Li):Zb7 l=l.all YG:=by induction l with | nil=>rfl | cons x l ih=>simp [Zb7,ih]
def XL (r:Ru):Bool:=Xg r.head && (r.args.all Yi && r.body.all YG)
def YO (f:Fi):Bool:=Xg f.name && Xg f.typ
def Xm (c:Ca):Bool:=Xg c.name && c.fields.all YO
def ZbS (t:Ty):Bool:=if t.kind=1 then Xg t.base && (decide (t.fields.length=0) && decide (t.cases.length=0)) else if t.kind=2 then decide (t.base=[]) && decide (t.cases.length=0)
 else if t.kind=3 then decide (t.base=[]) && (decide (t.fields.length=0) && !decide (t.cases.length=0)) else false
def Yo (t:Ty):Bool:=ZbS t && (Xg t.name && (t.fields.all YO && t.cases.all Xm))
def X9 (d:Re):Bool:=Xg d.name && d.fields.all YO
def Wv (i:Ini):Bool:=Xg i.name && (Xg i.comp && i.types.all Xg)
def WU (o:Ov):Bool:=Xg o.rel
mutual
def Zex:Un->Bool
 | .mk tys rels rules comps inits overs=>tys.all Yo && (rels.all X9 && (rules.all XL && (Zl3 comps && (inits.all Wv && overs.all WU))))
def Yj:Co->Bool
 | .mk nm ps base tys u _=>Xg nm && (ps.all Xg && (tys.all Xg && (((decide (base=[]) && decide (tys.length=0)) || Xg base) && Zex u)))
def Zl3:List Co->Bool
 | []=>true
 | c::l=>Yj c && Zl3 l
end
def Ww (l:List Co):Zl3 l=l.all Yj:=by induction l with | nil=>rfl | cons x l ih=>simp [Zl3,ih]
def Zjs (d:Nat):UInt8:=if d<10 then UInt8.ofNat (48+d) else UInt8.ofNat (87+d)
def JH (base:Nat):Nat->Nat->Bs
 | 0,_=>[]
 | f+1,n=>if n<base then [Zjs n] else JH base f (n / base)++[Zjs (n % base)]
def Ve (base n:Nat):Bs:=JH base (n+1) n
def Zfs (n:Int):Bs:=if n<0 then [48,120]++Ve 16 (n+18446744073709551616).toNat else Ve 10 n.toNat
def ZwQ (s:Bs):Bs:=(Jc s).getD []
def Zg (sep:Bs):List Bs->Bs
 | []=>[]
 | [x]=>x
 | x::l=>x++(sep++Zg sep l)
def cmm:Bs:=[44,32]
def opE:Ex->Nat | .mk op _ _ _ _=>op
def Ztl (want:Nat) (p:Nat×Bs):Bs:=if p.1<want then [40]++(p.2++[41]) else p.2
def exA (w1 w2:Nat) (sep:Bs):List (Nat×Bs)->Bs
 | []=>[]
 | [a]=>Ztl w1 a
 | a::b::_=>Ztl w1 a++(sep++Ztl w2 b)
def exN (op:Nat) (text:Bs) (n:Int) (ps:List (Nat×Bs)):Bs :=
 if ZS op<5 then exA (ZS op) (ZS op+1) ([32]++(VK op++[32])) ps
 else if ZS op=5 then VK op++exA 5 5 [] ps
 else if VK op≠[] then VK op++([40]++(Zg cmm (ps.map Prod.snd)++[41]))
 else if op=6 then [91]++(Zg cmm (ps.map Prod.snd)++[93])
 else if op=7 then [36]++(text++(if ps.length=0 then [] else [40]++(Zg cmm (ps.map Prod.snd)++[41])))
 else if op=3 then Zfs n
 else if op=4 then ZwQ text
 else if op=5 then [110,105,108]
 else if op=2 then [95]
 else text
mutual
def exT:Ex->Bs
 | .mk op text n args _=>exN op text n (Zqu args)
def Zqu:List Ex->List (Nat×Bs)
 | []=>[]
 | e::l=>(ZS (opE e),exT e)::Zqu l
end
def Zqv (l:List Ex):Zqu l=l.map fun e=>(ZS (opE e),exT e):=by induction l with | nil=>rfl | cons x l ih=>simp [Zqu,ih]
def Zcq (l:List Ex):(Zqu l).length=l.length:=by rw [Zqv,Td]
def exW (want:Nat) (e:Ex):Bs:=Ztl want (ZS (opE e),exT e)
def ZAF (l:List Ex):List Bs:=l.map exT
def UQ (l:List Ex):(Zqu l).map Prod.snd=ZAF l:=by rw [Zqv,SN];rfl
def argT (fr fin:Bs) (l:List Ex):Bs:=fr++(Zg cmm (ZAF l)++fin)
def ZwR (op:Nat):Bs:=if op=3 then [32,61,32] else if op=4 then [32,33,61,32] else if op=5 then [32,60,32] else if op=6 then [32,60,61,32] else if op=7 then [32,62,32] else [32,62,61,32]
def Zkr (op:Nat):Bs:=if op=9 then [99,111,117,110,116] else if op=10 then [115,117,109] else if op=11 then [109,105,110] else [109,97,120]
def Ztm (l:List Ex):Bs:=(l.map fun e=>[32]++exT e).flatten
def Zl4:List Ex->Bs
 | []=>[]
 | e::_=>exT e
mutual
def liT:Li->Bs
 | .mk op rel args body _ =>
  if op=2 then [33]++(rel++argT [40] [41] args)
  else if op=1 then rel++argT [40] [41] args
  else if op<=8 then Zl4 args++(ZwR op++Zl4 args.tail)
  else Zl4 args++([32,61,32]++(Zkr op++(Ztm args.tail++([32,58,32,123,32]++(Zg cmm (Zsl body)++[32,125])))))
def Zsl:List Li->List Bs
 | []=>[]
 | e::l=>liT e::Zsl l
end
def ZdD (l:List Li):Zsl l=l.map liT:=by induction l with | nil=>rfl | cons x l ih=>simp [Zsl,ih]
def ruT (r:Ru):Bs:=r.head++(argT [40] [41] r.args++((if 0<r.body.length then [32,58,45,32]++Zg cmm (Zsl r.body) else [])++[46]))
def fiT (f:Fi):Bs:=f.name++([58,32]++f.typ)
def Vf (fr:Bs) (l:List Fi) (fin:Bs):Bs:=fr++(Zg cmm (l.map fiT)++fin)
def ZAG (l:List Bs):Bs:=if l.length=0 then [] else [60]++(Zg cmm l++[62])
def caT (c:Ca):Bs:=Vf (c.name++[32,123]) c.fields [125]
def tyT (t:Ty):Bs:=[116,121,112,101,32]++(t.name++((if t.kind=1 then [32,60,58,32]++t.base else if t.kind=2 then Vf [32,61,32,91] t.fields [93] else [32,61,32]++Zg [32,124,32] (t.cases.map caT))++[10]))
def reT (d:Re):Bs:=Vf ([100,101,99,108,32]++(d.name++[40])) d.fields [41]++((if d.inn then [32,105,110,112,117,116] else [])++((if d.out then [32,111,117,116,112,117,116] else [])++((if d.inl then [32,105,110,108,105,110,101] else [])++[10])))
def inT (i:Ini):Bs:=[105,110,105,116,32]++(i.name++([32,61,32]++(i.comp++(ZAG i.types++[10]))))
def ovT (o:Ov):Bs:=[111,118,101,114,114,105,100,101,32]++(o.rel++[10])
mutual
def unT:Un->Bs
 | .mk tys rels rules comps inits overs=>(tys.map tyT).flatten++((rels.map reT).flatten++((ZzO comps).flatten++((inits.map inT).flatten++((overs.map ovT).flatten++(rules.map fun r=>ruT r++[10]).flatten))))
def coT:Co->Bs
 | .mk nm ps base tys u _=>[99,111,109,112,32]++(nm++(ZAG ps++((if base=[] then [] else [32,58,32]++(base++ZAG tys))++([32,123,10]++(unT u++[125,10])))))
def ZzO:List Co->List Bs
 | []=>[]
 | c::l=>coT c::ZzO l
end
def noC:Un->Prop
 | .mk _ _ _ c i o=>c=[]/\i=[]/\o=[]
end Go.PM.Lex
end
