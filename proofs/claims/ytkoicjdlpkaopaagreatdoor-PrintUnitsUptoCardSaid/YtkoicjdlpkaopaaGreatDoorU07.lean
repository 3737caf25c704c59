/- A part of the proof: plain logic, contracts and laws over the given program. -/
import Derived.Test.YtkoicjdlpkaopaaGreatDoorU06
set_option linter.unusedVariables false
set_option linter.unusedSimpArgs false
set_option linter.all false
set_option maxRecDepth 100000
set_option maxHeartbeats 16000000
section
namespace Go.PM.Lex
open Go.Proofs
variable {w0:World} {nG:Nat}
theorem Ua (ex:Ts->R Ex) (k:Nat) (l:List Ex) (ts:Ts):XZ ex (k+1) l ts=(if l=[] then .ok () ts else ZT [44] ts).bind fun _ ts=>(ex ts).bind fun e ts=>XZ ex k (l++[e]) ts:=rfl
noncomputable def Zj5 (d:Nat):Tbl:=[(120,Wa),(70,ZiS d)]
noncomputable def Zj6 (d:Nat):Tbl:=[(113,Zhr),(120,Wa),(112,Xm),(275,Zxb Tryz.f275 (Wv [(1,5)]) (Zj5 d))]
noncomputable def ZnT (d:Nat):Tbl:=[(175,ZiR Tryz.f175 (Zj6 d))]
theorem Zup {d:Nat} (ht:TO w0 nG (ZnT d)):PC w0 nG 262 (Zj2 d):=by
 refine Zd Zb mixed (tbl:=ZnT d) ht Tryz.func262 rfl kR kR ?_;intro args σ K h
 unfold Zj2 X8 at h
 split at h
 ·rename_i rest t rows a en dp
  obtain ⟨L,ts,rfl,ho,h⟩:=h;split at h
  ·rename_i op n e at'
   obtain ⟨⟨d7,rfl,rfl⟩,o,rfl,h⟩:=h;have h:=h _ rfl;have h0:=ho.lo;have h1:=ho.hi;have h2:=ho.big;refine ⟨Za [],1,false,sM,Ta rfl,wN ?_⟩;refine ZBC (fun im=>?_) (fun im=>wN ?_)
   ·obtain rfl:o=22:=by omega
    have j5:YN 22=3:=rfl;(conv=>whnf);refine Or.inl ⟨InR.i64 dM dM,wN ?_⟩;refine Or.inl ⟨InR.i64 dM dM,wN ?_⟩;rw [j5] at h;refine ⟨_,fun _ _ h=>h,Ta rfl,wN ?_⟩;refine ⟨L,ts,rfl,ho,[[40]],rfl,sM,fun b ew=>?_⟩
    cases b with
    | false =>
     exact m232
    | true =>
    rw [Zu,Tg ew] at h;(conv=>whnf);refine ZBC (fun hc=>wN ?_) (fun hc=>wN ?_)
    ·rw [Tg oM] at h;exact m98
    rw [Tc oM] at h;refine ⟨L,ts,rfl,ho,fun x hx=>?_⟩;rw [ZT,Tg ew] at hx;subst hx;intro a1 fj af
    have aj:=af.hi;(conv=>whnf);refine Or.inl ⟨InR.i64 oM oM,wN ?_⟩;refine ⟨_,fun _ _ h=>h,Ta rfl,wN ?_⟩;rw [Ua] at h;rw [Tg rfl,R.bind_ok] at h;refine ⟨L,ts.tail,rfl,af,⟨oM,oM,oM⟩,fun x n8=>?_⟩;rcases x with ⟨v10,ts10⟩ | ⟨r10,e10⟩
    rotate_left
    ·exact m165
    rw [n8,R.bind_ok] at h;intro a10 tc lx
    have zq:=lx.hi;obtain ⟨v10a,v10b,v10c,v10d,v10e⟩:=v10;(conv=>whnf);refine ⟨rfl,rfl,Ta rfl,Ta rfl,wN ?_⟩
    repeat (refine ⟨rfl,?_⟩;conv=>whnf)
    refine Or.inl ⟨InR.i64 dM dM,wN ?_⟩;rw [Ua] at h;rw [Tc sM] at h;refine ⟨L,ts10,rfl,lx,fun x ku=>?_⟩;rcases x with ⟨v11,ts11⟩ | ⟨r11,e11⟩
    rotate_left
    ·rw [ku,R.bind_err,R.bind_err] at h;intro a9 d9;(conv=>whnf);exact h _ _
    rw [ku,R.bind_ok] at h;intro a11 tf ly
    have zt:=ly.hi;(conv=>whnf);refine ⟨L,ts11,rfl,ly,⟨oM,oM,oM⟩,fun x lz=>?_⟩;rcases x with ⟨v12,ts12⟩ | ⟨r12,e12⟩
    rotate_left
    ·rw [lz,R.bind_err,R.bind_err] at h;intro a9 d9;(conv=>whnf);exact h _ _
    rw [lz,R.bind_ok] at h;intro a12 tg l0
    have zu:=l0.hi;obtain ⟨v12a,v12b,v12c,v12d,v12e⟩:=v12;(conv=>whnf);refine ⟨rfl,rfl,Ta rfl,Ta rfl,wN ?_⟩
    repeat (refine ⟨rfl,?_⟩;conv=>whnf)
    refine Or.inl ⟨InR.i64 dM dM,wN ?_⟩;rw [Ua] at h;rw [Tc sM] at h;refine ⟨L,ts12,rfl,l0,fun x zv=>?_⟩;rcases x with ⟨v13,ts13⟩ | ⟨r13,e13⟩
    rotate_left
    ·rw [zv,R.bind_err,R.bind_err] at h;intro a9 d9;(conv=>whnf);exact h _ _
    rw [zv,R.bind_ok] at h;intro a13 afi zw
    have ahc:=zw.hi;(conv=>whnf);refine ⟨L,ts13,rfl,zw,⟨oM,oM,oM⟩,fun x zx=>?_⟩;rcases x with ⟨v14,ts14⟩ | ⟨r14,e14⟩
    rotate_left
    ·rw [zx,R.bind_err,R.bind_err] at h;intro a9 d9;(conv=>whnf);exact h _ _
    rw [zx,R.bind_ok] at h;intro a14 afj zy
    have ahd:=zy.hi;obtain ⟨v14a,v14b,v14c,v14d,v14e⟩:=v14;(conv=>whnf);refine ⟨rfl,rfl,Ta rfl,Ta rfl,wN ?_⟩
    repeat (refine ⟨rfl,?_⟩;conv=>whnf)
    refine Or.inl ⟨InR.i64 dM dM,wN ?_⟩;rw [XZ] at h;rw [R.bind_ok] at h;have zz:ts14=ts14:=rfl;have ac:=zy;obtain ⟨ts2,pr⟩:∃t,t=ts14:=⟨_,rfl⟩
    rw [<- pr] at h ac;exact m227
   refine ZBC (fun vt=>?_) (fun vt=>wN ?_)
   ·obtain rfl:o=20:=by omega
    have j5:YN 20=2:=rfl;(conv=>whnf);refine Or.inl ⟨InR.i64 dM dM,wN ?_⟩;rw [j5] at h;refine ⟨_,fun _ _ h=>h,Ta rfl,wN ?_⟩;refine ⟨L,ts,rfl,ho,[[40]],rfl,sM,fun b ew=>?_⟩
    cases b with
    | false =>
     exact m232
    | true =>
    rw [Zu,Tg ew] at h;(conv=>whnf);refine ZBC (fun hc=>wN ?_) (fun hc=>wN ?_)
    ·rw [Tg oM] at h;exact m98
    rw [Tc oM] at h;refine ⟨L,ts,rfl,ho,fun x hx=>?_⟩;rw [ZT,Tg ew] at hx;subst hx;intro a1 fj af
    have aj:=af.hi;(conv=>whnf);refine Or.inl ⟨InR.i64 oM oM,wN ?_⟩;refine ⟨_,fun _ _ h=>h,Ta rfl,wN ?_⟩;rw [Ua] at h;rw [Tg rfl,R.bind_ok] at h;refine ⟨L,ts.tail,rfl,af,⟨oM,oM,oM⟩,fun x n8=>?_⟩;rcases x with ⟨v10,ts10⟩ | ⟨r10,e10⟩
    rotate_left
    ·exact m165
    rw [n8,R.bind_ok] at h;intro a10 tc lx
    have zq:=lx.hi;obtain ⟨v10a,v10b,v10c,v10d,v10e⟩:=v10;(conv=>whnf);refine ⟨rfl,rfl,Ta rfl,Ta rfl,wN ?_⟩
    repeat (refine ⟨rfl,?_⟩;conv=>whnf)
    refine Or.inl ⟨InR.i64 dM dM,wN ?_⟩;rw [Ua] at h;rw [Tc sM] at h;refine ⟨L,ts10,rfl,lx,fun x ku=>?_⟩;rcases x with ⟨v11,ts11⟩ | ⟨r11,e11⟩
    rotate_left
    ·rw [ku,R.bind_err,R.bind_err] at h;intro a9 d9;(conv=>whnf);exact h _ _
    rw [ku,R.bind_ok] at h;intro a11 tf ly
    have zt:=ly.hi;(conv=>whnf);refine ⟨L,ts11,rfl,ly,⟨oM,oM,oM⟩,fun x lz=>?_⟩;rcases x with ⟨v12,ts12⟩ | ⟨r12,e12⟩
    rotate_left
    ·rw [lz,R.bind_err,R.bind_err] at h;intro a9 d9;(conv=>whnf);exact h _ _
    rw [lz,R.bind_ok] at h;intro a12 tg l0
    have zu:=l0.hi;obtain ⟨v12a,v12b,v12c,v12d,v12e⟩:=v12;(conv=>whnf);refine ⟨rfl,rfl,Ta rfl,Ta rfl,wN ?_⟩
    repeat (refine ⟨rfl,?_⟩;conv=>whnf)
    refine Or.inl ⟨InR.i64 dM dM,wN ?_⟩;rw [XZ] at h;rw [R.bind_ok] at h;have zz:ts12=ts12:=rfl;have ac:=l0;obtain ⟨ts2,pr⟩:∃t,t=ts12:=⟨_,rfl⟩
    rw [<- pr] at h ac;exact m227
   have j5:YN o=1:=by rw [YN,Tc oM,Tc oM]
   rw [j5] at h;refine ⟨_,fun _ _ h=>h,Ta rfl,wN ?_⟩;refine ⟨L,ts,rfl,ho,[[40]],rfl,sM,fun b ew=>?_⟩
   cases b with
   | false =>
    exact m232
   | true =>
   rw [Zu,Tg ew] at h;(conv=>whnf);refine ZBC (fun hc=>wN ?_) (fun hc=>wN ?_)
   ·rw [Tg oM] at h;exact m98
   rw [Tc oM] at h;refine ⟨L,ts,rfl,ho,fun x hx=>?_⟩;rw [ZT,Tg ew] at hx;subst hx;intro a1 fj af
   have aj:=af.hi;(conv=>whnf);refine Or.inl ⟨InR.i64 oM oM,wN ?_⟩;refine ⟨_,fun _ _ h=>h,Ta rfl,wN ?_⟩;rw [Ua] at h;rw [Tg rfl,R.bind_ok] at h;refine ⟨L,ts.tail,rfl,af,⟨oM,oM,oM⟩,fun x n8=>?_⟩;rcases x with ⟨v10,ts10⟩ | ⟨r10,e10⟩
   rotate_left
   ·exact m165
   rw [n8,R.bind_ok] at h;intro a10 tc lx
   have zq:=lx.hi;obtain ⟨v10a,v10b,v10c,v10d,v10e⟩:=v10;(conv=>whnf);refine ⟨rfl,rfl,Ta rfl,Ta rfl,wN ?_⟩
   repeat (refine ⟨rfl,?_⟩;conv=>whnf)
   refine Or.inl ⟨InR.i64 dM dM,wN ?_⟩;rw [XZ] at h;rw [R.bind_ok] at h;have zz:ts10=ts10:=rfl;have ac:=lx;obtain ⟨ts2,pr⟩:∃t,t=ts10:=⟨_,rfl⟩
   rw [<- pr] at h ac;exact m227
  exact h.elim
 exact h.elim
noncomputable def Zj7 (d:Nat):Tbl:=[(70,ZiS d)]
noncomputable def Zj8 (d:Nat):Tbl:=[(113,Zhr),(120,Wa),(112,Xm),(261,ZiR Tryz.f261 (Zj7 d))]
noncomputable def ZnU (d:Nat):Tbl:=[(227,Zaj ZA),(112,Xm),(169,Za7),(175,ZiR Tryz.f175 (Zj8 d)),(178,ZdI d),(119,We),(113,Zhr),(157,X6),(262,Zj2 d)]
theorem ZlM {d:Nat} (ht:TO w0 nG (ZnU d)):PC w0 nG 239 (Za9 d):=by
 refine Zdl Zb mixed (tbl:=ZnU d) ht Tryz.func239 rfl kR kR ?_;intro args σ K h
 unfold Za9 Zh3 X8 at h
 split at h
 ·rename_i rest t rows a en dp
  obtain ⟨L,ts,rfl,ho,h⟩:=h;split at h
  ·obtain ⟨d7,h⟩:=h;have h0:=ho.lo;have h1:=ho.hi;have h2:=ho.big;refine ⟨Za [],Wv [],Ys [],Ys [],Ys [262],1,false,sM,Ta rfl,wN ?_⟩;have h:=h _ rfl;refine ⟨L,ts,rfl,ho,fun b hst=>?_⟩
   cases b with
   | false =>
    rw [YA,Tg hst] at h;(conv=>whnf);exact m98
   | true =>
   rw [YA,Tc (by rw [hst];simp)] at h;have hot:=ho.tl (Ze8 hst);have xl:=hot.hi;(conv=>whnf);refine ⟨L,ts,rfl,ho,fun fin=>Or.inl ⟨rfl,wN ?_⟩⟩;refine ZBC (fun hc=>wN ?_) (fun hc=>wN ?_)
   ·rw [Tg (show (hd ts).kind=2 by omega)] at h
    repeat (refine ⟨rfl,?_⟩;conv=>whnf)
    exact m119
   rw [Tc (show ¬(hd ts).kind=2 by omega)] at h;refine ZBC (fun hc=>wN ?_) (fun hc=>wN ?_)
   ·rw [Tg (show (hd ts).kind=3 by omega)] at h
    repeat (refine ⟨rfl,?_⟩;conv=>whnf)
    exact m119
   rw [Tc (show ¬(hd ts).kind=3 by omega)] at h;refine ZBC (fun hc=>wN ?_) (fun hc=>wN ?_)
   ·rw [Tg (show (hd ts).text=[40] from hc)] at h;refine ⟨_,fun _ _ h=>h,Ta rfl,wN ?_⟩;refine ⟨L,ts,rfl,ho,[[40]],rfl,sM,fun b ew=>?_⟩
    cases b with
    | false =>
     exact m232
    | true =>
    rw [Zu,Tg ew] at h;(conv=>whnf);refine ZBC (fun hc=>wN ?_) (fun hc=>wN ?_)
    ·rw [Tg oM] at h;exact m98
    rw [Tc oM] at h;refine ⟨L,ts,rfl,ho,fun x hx=>?_⟩;rw [ZT,Tg ew] at hx;subst hx;intro a1 fj af
    have aj:=af.hi;(conv=>whnf);refine Or.inl ⟨InR.i64 oM oM,wN ?_⟩;refine ⟨_,fun _ _ h=>h,Ta rfl,wN ?_⟩;refine ⟨L,ts.tail,rfl,af,⟨oM,oM,oM⟩,fun x dt=>?_⟩;rcases x with ⟨v2,ts2⟩ | ⟨r2,e2⟩
    rotate_left
    ·exact m54
    rw [dt,R.bind_ok] at h;intro a2 fx ac
    have bp:=ac.hi;obtain ⟨v2a,v2b,v2c,v2d,v2e⟩:=v2;(conv=>whnf);exact m227
   rw [Tc (show ¬(hd ts).text=[40] from hc)] at h;refine ZBC (fun hc=>wN ?_) (fun hc=>wN ?_)
   ·rw [Tg (show (hd ts).text=[91] from hc)] at h;refine ⟨L,ts,rfl,ho,⟨d7,sM⟩,fun x fd=>?_⟩;rcases x with ⟨v1,ts1⟩ | ⟨r1,e1⟩
    rotate_left
    ·exact m65
    rw [fd,R.bind_ok] at h;intro a1 fj af
    have aj:=af.hi;(conv=>whnf);rw [<- Ze];exact h _ oM af
   rw [Tc (show ¬(hd ts).text=[91] from hc)] at h;refine ZBC (fun hc=>wN ?_) (fun hc=>wN ?_)
   ·rw [Tg (show (hd ts).text=[36] from hc)] at h;refine Or.inl ⟨InR.i64 oM oM,wN ?_⟩;refine ⟨L,ts.tail,rfl,hot,fun x fd=>?_⟩;rcases x with ⟨v1,ts1⟩ | ⟨r1,e1⟩
    rotate_left
    ·exact m65
    rw [fd,R.bind_ok] at h;intro a1 fj af
    have aj:=af.hi;(conv=>whnf);refine ⟨L,ts1,rfl,af,[[40]],rfl,sM,fun b ki=>?_⟩
    cases b with
    | false =>
     rw [Tc (by rw [ki];simp)] at h;(conv=>whnf);exact h _ oM af
    | true =>
    rw [Tg ki] at h;(conv=>whnf);refine ⟨L,ts1,rfl,af,⟨d7,sM⟩,fun x gf=>?_⟩;rcases x with ⟨v3,ts3⟩ | ⟨r3,e3⟩
    rotate_left
    ·exact m29
    exact m179
   rw [Tc (show ¬(hd ts).text=[36] from hc)] at h;intro n hn
   conv=>whnf
   refine ZBE (fun hc=>wN ?_) (fun hc=>wN ?_)
   ·rw [Tg (show ZU (hd ts).text≠0 by omega)] at h;refine Or.inl ⟨InR.i64 oM oM,wN ?_⟩;intro n2 o7
    conv=>whnf
    refine ⟨L,ts.tail,rfl,hot,⟨d7,rfl,rfl⟩,ZU (hd ts).text,o7.symm,fun x fd=>?_⟩;rcases x with ⟨v1,ts1⟩ | ⟨r1,e1⟩
    rotate_left
    ·exact m65
    rw [fd,R.bind_ok] at h;intro a1 fj af
    have aj:=af.hi;(conv=>whnf);rw [<- o7,<- Ze];exact h _ oM af
   rw [Tc (show ¬ZU (hd ts).text≠0 by omega)] at h;refine ZBC (fun hc=>wN ?_) (fun hc=>wN ?_)
   ·rw [Tg (show (hd ts).text=[110,105,108] from hc)] at h;exact m119
   rw [Tc (show ¬(hd ts).text=[110,105,108] from hc)] at h;refine ZBC (fun hc=>wN ?_) (fun hc=>wN ?_)
   ·rw [Tg (show (hd ts).text=[95] from hc)] at h;exact m119
   rw [Tc (show ¬(hd ts).text=[95] from hc)] at h
   repeat (refine ⟨rfl,?_⟩;conv=>whnf)
   exact m119
  exact h.elim
 exact h.elim
noncomputable def Zj9 (d:Nat):Tbl:=[(191,ZhA d)]
noncomputable def Zka (d:Nat):Tbl:=[(113,Zhr),(120,Wa),(112,Xm),(238,ZiR Tryz.f238 (Zj9 d))]
noncomputable def Zkb (d:Nat):Tbl:=[(118,Vi),(113,Zhr),(175,ZiR Tryz.f175 (Zka d)),(239,Za9 d)]
theorem ZnV {d:Nat} (ht:TO w0 nG (Zkb d)):PC w0 nG 191 (ZcI d):=by
 refine Vb Zb mixed (tbl:=Zkb d) ht Tryz.func191 rfl kR kR ?_;intro args σ K h
 unfold ZcI Zh3 X8 at h
 split at h
 ·rename_i rest t rows a en dp
  obtain ⟨L,ts,rfl,ho,h⟩:=h;split at h
  ·obtain ⟨d7,h⟩:=h;have h0:=ho.lo;have h1:=ho.hi;have h2:=ho.big;refine ⟨Za [],Wv [(3,4)],Ys [],1,false,sM,Ta rfl,wN ?_⟩;have h:=h _ rfl;rw [Ju,VL] at h;refine ⟨L,ts,rfl,ho,wN ?_⟩;refine ⟨dM,dM,wN ?_⟩;refine ⟨L,ts,rfl,ho,[[45]],rfl,sM,fun b hw8=>?_⟩
   cases b with
   | true =>
    rw [Tg hw8] at h;(conv=>whnf);refine ⟨_,fun _ _ h=>h,Ta rfl,wN ?_⟩;refine ⟨L,ts,rfl,ho,[[45]],rfl,sM,fun b ew=>?_⟩;exact m24
   | false =>
   rw [Tc (by rw [hw8];simp)] at h;(conv=>whnf);refine Or.inl ⟨InR.i64 dM dM,wN ?_⟩;refine ⟨dM,dM,wN ?_⟩;refine ⟨L,ts,rfl,ho,[[126]],rfl,sM,fun b ja=>?_⟩
   cases b with
   | true =>
    rw [Tg ja] at h;(conv=>whnf);refine ⟨_,fun _ _ h=>h,Ta rfl,wN ?_⟩;refine ⟨L,ts,rfl,ho,[[126]],rfl,sM,fun b ew=>?_⟩;exact m24
   | false =>
   rw [Tc (by rw [ja];simp)] at h;(conv=>whnf);refine Or.inl ⟨InR.i64 dM dM,wN ?_⟩;rw [show WU (ZbN d) 6 1=Yp d from (Zj1 d).symm] at h;refine ⟨L,ts,rfl,ho,d7,fun x fd=>?_⟩;exact m104
  exact h.elim
 exact h.elim
noncomputable def Ze9 (d j:Nat):Zt:=X8 fun rest L en dp a ts K=>match rest with
 | [.d (.int .i64 least)]=>((dp=64 - (d:Int)/\0<=dp)/\1<=least/\least<=6/\6<=least+(j:Int))/\∀x,WU (Zv d) j least.toNat ts=x->RKk (fun (v:Ex)=>Za6 (YE (Zg L en) v)) L en dp a x K
 | _=>False
noncomputable def ZdJ (d j:Nat):Zt:=X8 fun rest L en dp a ts K=>match rest with
 | [.d (.int .i64 least)]=>((dp=64 - (d:Int)/\0<=dp)/\0<j/\1<=least/\least<=6/\7<=least+(j:Int))/\∀x,WU (Zv d) (j - 1) least.toNat ts=x->RKk (fun (v:Ex)=>Za6 (YE (Zg L en) v)) L en dp a x K
 | _=>False
theorem ZiT (ts:Ts):(Wn ts).1<=5/\(Wn ts).2<=255:=by
 unfold Wn
 repeat' (first | (split;decide) | split)
 all_goals decide
theorem WD (sub : Nat -> Ts -> R Ex) (least f : Nat) (e : Ex) (ts : Ts) : WQ sub least (f + 1) e ts = if (Wn ts).1 < least \/ (Wn ts).1 = 0 then .ok e ts
      else (sub ((Wn ts).1+1) ts.tail).bind fun g ts'=>WQ sub least f (.mk (Wn ts).2 [] 0 [e,g] e.at') ts':=rfl
theorem Jv {sub:Nat->Ts->R Ex} {least f:Nat} {e:Ex} {ts:Ts} (h:6<=least):WQ sub least (f+1) e ts=.ok e ts:=by
 rw [WD,Tg];have:=(ZiT ts).1;omega
theorem ZnW {ts:Ts} (h:(Wn ts).1≠0):ts≠[]:=by rintro rfl;exact h rfl
theorem Wk (sg:Ts->R Ex) (j least:Nat) (ts:Ts) (h:6<=least+j):WU sg j least ts=(sg ts).bind fun e ts=>WQ (WU sg (j - 1)) least (ts.length+1) e ts:=by
 cases j with
 | zero =>
  rw [WU]
  cases sg ts with
  | ok e ts=>rw [R.bind_ok,Jv oM]
  | err r e=>rfl
 | succ j=>rfl
noncomputable def ZnX (d j:Nat):Tbl:=[(191,ZcI d),(192,Zq7),(134,ZdJ d j)]
theorem ZnY {d j:Nat} (ht:TO w0 nG (ZnX d j)):PC w0 nG 134 (Ze9 d j):=by
 refine Zd Zb mixed (tbl:=ZnX d j) ht Tryz.func134 rfl kR kR ?_;intro args σ K h
 unfold Ze9 X8 at h
 split at h
 ·rename_i rest t rows a en dp
  obtain ⟨L,ts,rfl,ho,h⟩:=h;split at h
  ·rename_i least
   obtain ⟨⟨d7,dx,iu,l9⟩,h⟩:=h;have h0:=ho.lo;have h1:=ho.hi;have h2:=ho.big;refine ⟨Za [(2,⟨[],[0,1,4,5],fun vs σ=>∃(u1:Nat) (u2:Bs) (u3:Int) (u4:List Ex) (u5:Nat) (a':Int) (ts':Ts) (f:Nat),vs=[]/\σ=⟨[.cells t [.d (.sl (Zy L)),.d (.int .i64 a'),.d (.int .i64 en),.d (.int .i64 dp)],.cells 48 [.d (.int .u8 0),.d (.str []),.d (.int .i64 0),.sl 0 48 [],.d (.int .i64 0)],.cells 48 [.d (.int .u8 u1),.d (.str u2),.d (.int .i64 u3),.d (.sl (Z0 (Zg L en) u4)),.d (.int .i64 (Zg L en u5))]],[0],1⟩/\ROK L a' ts'/\a<=a'/\ts'.length<f/\RKk (fun (v:Ex)=>Za6 (YE (Zg L en) v)) L en dp a (WQ (WU (Zv d) (j - 1)) least.toNat f (.mk u1 u2 u3 u4 u5) ts') (fun pe a' dp'=>K pe ⟨[.cells t [.d (.sl (Zy L)),.d (.int .i64 a'),.d (.int .i64 en),.d (.int .i64 dp')]],[],0⟩),fun _ σ=>match σ with | ⟨.cells _ [_,.d (.int _ i),_,_]::_,_,_⟩=>((L.length:Int) - i).toNat | _=>0⟩)],1,false,sM,Ta rfl,wN ?_⟩;have h:=h _ rfl;rw [Wk _ _ _ _ oM] at h;refine ⟨L,ts,rfl,ho,d7,fun x fd=>?_⟩;rcases x with ⟨v1,ts1⟩ | ⟨r1,e1⟩
   rotate_left
   ·exact m65
   rw [fd,R.bind_ok] at h;intro a1 fj af
   have aj:=af.hi;obtain ⟨v1a,v1b,v1c,v1d,v1e⟩:=v1;(conv=>whnf);refine ⟨⟨v1a,v1b,v1c,v1d,v1e,a1,ts1,ts1.length+1,rfl,rfl,af,oM,oM,h⟩,?_⟩
   clear h fd af aj fj
   intro vs σ hI
   obtain ⟨u1,u2,u3,u4,u5,a',ts',f,rfl,rfl,dw,adq,hf,h⟩:=hI;obtain ⟨f,rfl⟩:∃g,f=g+1:=⟨f - 1,oM⟩
   rw [WD] at h;have qw:=dw.hi;have tj:=dw.len;(conv=>whnf);refine ⟨L,ts',rfl,dw,fun n op hn im=>wN ?_⟩;have ahe:=ZiT ts';refine ZBC (fun hc=>wN ?_) (fun hc=>wN ?_)
   ·rw [Tg oM] at h;exact h _ oM dw
   refine ZBC (fun fu=>wN ?_) (fun fu=>wN ?_)
   ·rw [Tg oM] at h;exact h _ oM dw
   rw [Tc oM] at h;have ac:=dw.tl (ZnW oM);have bp:=ac.hi;have ig:=ac.len;refine Or.inl ⟨InR.i64 oM oM,wN ?_⟩;refine Or.inl ⟨InR.i64 oM oM,wN ?_⟩;refine ⟨L,ts'.tail,rfl,ac,⟨d7,oM,oM,oM,oM⟩,fun x gf=>?_⟩;rw [show (n+1).toNat=(Wn ts').1+1 by omega] at gf;rcases x with ⟨v3,ts3⟩ | ⟨r3,e3⟩
   rotate_left
   ·exact m29
   rw [gf,R.bind_ok] at h;intro a3 i9 ai
   have f6:=ai.hi;obtain ⟨v3a,v3b,v3c,v3d,v3e⟩:=v3;(conv=>whnf);have fe:=ai.len;obtain rfl:op=((Wn ts').2:Int):=im.symm;refine ⟨⟨(Wn ts').2,[],0,[.mk u1 u2 u3 u4 u5,.mk v3a v3b v3c v3d v3e],u5,a3,ts3,f,rfl,rfl,ai,oM,oM,h⟩,?_⟩;exact m209
  exact h.elim
 exact h.elim
noncomputable def ZnZ (d:Nat):Tbl:=[(134,Ze9 d 6)]
theorem Zuq {d:Nat} (ht:TO w0 nG (ZnZ d)):PC w0 nG 70 (ZdH d):=by
 refine Zd Zb mixed (tbl:=ZnZ d) ht Tryz.func70 rfl kR kR ?_;intro args σ K h
 unfold ZdH Zh3 X8 at h
 split at h
 ·rename_i rest t rows a en dp
  obtain ⟨L,ts,rfl,ho,h⟩:=h;split at h
  ·obtain ⟨d7,h⟩:=h;have h0:=ho.lo;have h1:=ho.hi;have h2:=ho.big;refine ⟨Za [],1,false,sM,Ta rfl,wN ?_⟩;have h:=h _ rfl;refine ⟨L,ts,rfl,ho,⟨d7,oM,oM,oM⟩,fun x fd=>?_⟩;rw [Ya] at h
   change WU (Zv d) 6 1 ts=x at fd
   exact m104
  exact h.elim
 exact h.elim
noncomputable abbrev Zur (d:Nat):Zt:=Zh3 (fun L en (v:Li)=>Za6 (XI (Zg L en) v)) (ZaB d (WJ d)) 0 d
noncomputable abbrev ZhB (d:Nat):Zt:=Zh3 (fun L en (v:List Li)=>.d (.sl (v.map (XI (Zg L en))))) (VU d) 0 d
noncomputable abbrev ZfZ (d:Nat):Zt:=Zun (fun L en (v:List Li)=>.d (.sl (v.map (XI (Zg L en))))) (WJ d) 0 d
theorem Zkc (d:Nat):VU d=YM [44] 32 ZE (ZaB d (WJ d)):=by cases d <;> rfl
noncomputable def Zkd (d:Nat):Zt:=X8 fun rest L en dp a ts K=>match rest with
 | [.d (.bool b)]=>(dp=64 - (d:Int)/\0<=dp)/\∀x,ZcU d b ts=x->RKk (fun (v:Ru)=>Za6 (ZW (Zg L en) v)) L en dp (a+1) x K
 | _=>False
theorem Zam {ts:Ts}:∀{ws:List Bs} {i k:Nat},Ui ts i ws=some k->i<=k/\k<i+ws.length
 | [],i,k,h=>by simp [Ui] at h
 | w::ws,i,k,h=>by
  rw [Ui] at h;split at h
  ·cases h;simp
  have:=Zam h;simp only [Td];omega
theorem ZbO {ts:Ts} (h:Ui ts 0 relWords=none):ZaA ts=.err ts.length 150:=by rw [ZaA,h]
theorem ZdK {ts:Ts} {j:Nat} (h:Ui ts 0 relWords=some 0) (h2:Ui ts.tail 0 aggWords=some j):ZaA ts=.ok (9+j) ts.tail.tail:=by rw [ZaA,h];simp only [h2]
theorem Zf0 {ts:Ts} (h:Ui ts 0 relWords=some 0) (h2:Ui ts.tail 0 aggWords=none):ZaA ts=.ok 3 ts.tail:=by rw [ZaA,h];simp only [h2]
theorem ZdL {ts:Ts} {k:Nat} (h:Ui ts 0 relWords=some (k+1)):ZaA ts=.ok (3+(k+1)) ts.tail:=by rw [ZaA,h];rfl
noncomputable def Zke:Tbl:=[(227,(Zaj ZA)),(113,Zhr)]
theorem Zrc (ht:TO w0 nG Zke):PC w0 nG 229 (ZjW ZE):=by
 refine Zd Zb mixed (tbl:=Zke) ht Tryz.func229 rfl kR kR ?_;intro args σ K h
 unfold ZjW ZnK at h
 split at h
 ·rename_i rest t0 t rows a en dp
  obtain ⟨L,ts,rfl,ho,h⟩:=h;split at h
  ·skip
   refine ⟨Za [],2,false,sM,Ta rfl,wN ?_⟩;refine ⟨L,ts,rfl,ho,fun b hb=>?_⟩
   cases b with
   | true =>
    conv=>whnf
    exact h _ (by rw [ZE,hb];rfl)
   | false =>
   conv=>whnf
   refine ⟨L,ts,rfl,ho,[[33]],rfl,sM,fun b hw=>wN ?_⟩;exact h _ (by rw [ZE,hb,hw];rfl)
  exact h.elim
 exact h.elim
noncomputable def Zn0 (d:Nat):Tbl:=[(228,ZfW d)]
theorem Zus {d:Nat} (ht:TO w0 nG (Zn0 d)):PC w0 nG 179 (ZhB d):=by
 refine Zd Zb mixed (tbl:=Zn0 d) ht Tryz.func179 rfl kR kR ?_;intro args σ K h
 unfold ZhB Zh3 X8 at h
 split at h
 ·rename_i rest t rows a en dp
  obtain ⟨L,ts,rfl,ho,h⟩:=h;split at h
  ·obtain ⟨d7,h⟩:=h;have h0:=ho.lo;have h1:=ho.hi;have h2:=ho.big;refine ⟨Za [],1,false,sM,Ta rfl,wN ?_⟩;have h:=h _ rfl;rw [Zkc] at h;refine ⟨⟨rfl,rfl,rfl,rfl,d7⟩,L,ts,rfl,ho,fun x fd=>?_⟩;rcases x with ⟨v1,ts1⟩ | ⟨r1,e1⟩
   rotate_left
   ·rw [fd] at h;intro a9 d9;(conv=>whnf);exact h _ _
   rw [fd] at h;intro a1 fj af
   have aj:=af.hi;(conv=>whnf);exact h _ oM af
  exact h.elim
 exact h.elim
noncomputable def Zn1 (d:Nat):Tbl:=[(179,ZfZ d)]
noncomputable def Zn2 (d:Nat):Tbl:=[(113,Zhr),(120,Wa),(112,Xm),(257,ZiR Tryz.f257 (Zn1 d))]
noncomputable def ZsM (d:Nat):Tbl:=[(118,Vi),(171,WR),(169,Za7),(122,Zaj Zq),(119,We),(178,ZdI d),(70,ZdH d),(163,Zrb),(112,Xm),(120,Wa),(175,ZiR Tryz.f175 (Zn2 d))]
theorem Zxe {d:Nat} (ht:TO w0 nG (ZsM d)):PC w0 nG 230 (Zur d):=by
 refine Zdl Zb mixed (tbl:=ZsM d) ht Tryz.func230 rfl kR kR ?_;intro args σ K h
 unfold Zur Zh3 X8 at h
 split at h
 ·rename_i rest t rows a en dp
  obtain ⟨L,ts,rfl,ho,h⟩:=h;split at h
  ·obtain ⟨d7,h⟩:=h;have h0:=ho.lo;have h1:=ho.hi;have h2:=ho.big;refine ⟨Za [],Wv [],Ys [],Ys [50],Ys [],1,false,sM,Ta rfl,wN ?_⟩;have h:=h _ rfl;rw [ZaB] at h;refine ⟨L,ts,rfl,ho,wN ?_⟩;refine ⟨L,ts,rfl,ho,[[33]],rfl,sM,fun ew af=>wN ?_,fun ew=>wN ?_⟩
   ·rw [Tg ew] at h;have aj:=af.hi;refine ⟨L,ts.tail,rfl,af,fun fin=>Or.inr ⟨rfl,wN ?_⟩⟩;rw [UR] at h;refine ⟨L,ts.tail,rfl,af,fun x ku=>?_⟩;exact m58
   rw [Tc (by rw [ew];simp)] at h;refine ⟨L,ts,rfl,ho,fun fin=>Or.inr ⟨rfl,wN ?_⟩⟩;refine ⟨L,ts,rfl,ho,fun b hn=>?_⟩
   cases b with
   | false =>
    rw [Tc (by rw [hn];simp)] at h;(conv=>whnf);exact m0
   | true =>
   conv=>whnf
   refine ZBC (fun hc=>wN ?_) (fun hc=>wN ?_)
   ·refine ZBC (fun fu=>wN ?_) (fun fu=>wN ?_)
    ·rw [Tg ⟨hn,oM,fu⟩] at h;rw [UR] at h;refine ⟨L,ts,rfl,ho,fun x ku=>?_⟩;exact m58
    rw [Tc (fun g=>fu g.2.2)] at h;exact m0
   rw [Tc (fun g=>hc (by have:=g.2.1;omega))] at h;exact m0
  exact h.elim
 exact h.elim
noncomputable def Zn3 (d:Nat):Tbl:=[(118,Vi),(119,We),(178,ZdI d),(171,WR),(179,ZhB d),(120,Wa)]
theorem Zut {d:Nat} (ht:TO w0 nG (Zn3 d)):PC w0 nG 123 (Zkd d):=by
 refine Zd Zb mixed (tbl:=Zn3 d) ht Tryz.func123 rfl kR kR ?_;intro args σ K h
 unfold Zkd X8 at h
 split at h
 ·rename_i rest t rows a en dp
  obtain ⟨L,ts,rfl,ho,h⟩:=h;split at h
  ·rename_i bodies
   obtain ⟨d7,h⟩:=h;have h0:=ho.lo;have h1:=ho.hi;have h2:=ho.big;refine ⟨Za [],1,false,sM,Ta rfl,wN ?_⟩;have h:=h _ rfl;rw [ZcU] at h;refine ⟨L,ts,rfl,ho,wN ?_⟩;refine ⟨L,ts,rfl,ho,fun x fd=>?_⟩;rcases x with ⟨v1,ts1⟩ | ⟨r1,e1⟩
   rotate_left
   ·exact m65
   rw [fd,R.bind_ok] at h;intro a1 fj af
   have aj:=af.hi;(conv=>whnf);refine ⟨L,ts1,rfl,af,⟨d7,sM⟩,fun x dt=>?_⟩;have vu:=d7;rcases x with ⟨v2,ts2⟩ | ⟨r2,e2⟩
   rotate_left
   ·exact m54
   rw [dt,R.bind_ok] at h;intro a2 fx ac
   have bp:=ac.hi;(conv=>whnf)
   cases bodies with
   | false =>
    rw [Tc sM] at h;(conv=>whnf);refine ⟨L,ts2,rfl,ac,fun x gf=>?_⟩;rcases x with ⟨v3,ts3⟩ | ⟨r3,e3⟩
    rotate_left
    ·exact m29
    exact m179
   | true =>
   conv=>whnf
   refine ⟨L,ts2,rfl,ac,[[58,45]],rfl,sM,fun lc ai=>wN ?_,fun lc=>wN ?_⟩
   ·rw [Tg ⟨rfl,lc⟩] at h;have f6:=ai.hi;refine ⟨L,ts2.tail,rfl,ai,d7,fun x np=>?_⟩;rcases x with ⟨v4,ts4⟩ | ⟨r4,e4⟩
    rotate_left
    ·exact m116
    rw [np,R.bind_ok] at h;intro a4 n7 av
    have qq:=av.hi;(conv=>whnf);refine ⟨L,ts4,rfl,av,fun x lw=>?_⟩;rcases x with ⟨v5,ts5⟩ | ⟨r5,e5⟩
    rotate_left
    ·exact m53
    rw [lw,R.bind_ok] at h;intro a5 mo cy
    have vr:=cy.hi;(conv=>whnf);rw [<- Ze,<- Zr];exact h _ oM cy
   rw [Tc (by rw [lc];simp)] at h;refine ⟨L,ts2,rfl,ac,fun x np=>?_⟩;rcases x with ⟨v4,ts4⟩ | ⟨r4,e4⟩
   rotate_left
   ·exact m116
   rw [np,R.bind_ok] at h;intro a4 n7 av
   have qq:=av.hi;(conv=>whnf);rw [<- Ze];exact h _ oM av
  exact h.elim
 exact h.elim
def JD:Nat->Ts->R Un
 | 0=>fun _=>.err 0 150
 | d+1=>Zld d
theorem Zkf (d:Nat):Zld d=Zlc true d (JD d):=by cases d <;> rfl
def Zem (b:Bool) (d:Nat) (ts:Ts):R Un:=Zlc b d (JD d) ts
noncomputable def ZdM (d:Nat):Zt:=X8 fun rest L en dp a ts K=>match rest with
 | [.d (.bool b)]=>(dp=64 - (d:Int)/\0<=dp)/\∀x,Zem b d ts=x->RKk (fun (v:Un)=>Za6 (Yg (Zg L en) v)) L en dp a x K
 | _=>False
noncomputable def U5 (d:Nat):Zt:=X8 fun rest L en dp a ts K=>match rest with
 | [.d (.bool b)]=>(0<d/\dp=65 - (d:Int)/\0<=dp/\b=true)/\∀x,JD d ts=x->RKk (fun (v:Un)=>Za6 (Yg (Zg L en) v)) L en dp a x K
 | _=>False
noncomputable abbrev Zkg (d:Nat):Zt:=Zh3 (fun L en (v:Co)=>Za6 (YG (Zg L en) v)) (ZcV d (JD d)) 0 d
noncomputable def Zkh (d:Nat):Tbl:=[(60,U5 d)]
noncomputable def Zki (d:Nat):Tbl:=[(113,Zhr),(120,Wa),(112,Xm),(176,ZiR Tryz.f176 (Zkh d))]
noncomputable def Zn4 (d:Nat):Tbl:=[(118,Vi),(119,We),(121,ZdE),(171,WR),(175,ZiR Tryz.f175 (Zki d))]
theorem Zuu {d:Nat} (ht:TO w0 nG (Zn4 d)):PC w0 nG 117 (Zkg d):=by
 refine Zd Zb mixed (tbl:=Zn4 d) ht Tryz.func117 rfl kR kR ?_;intro args σ K h
 unfold Zkg Zh3 X8 at h
 split at h
 ·rename_i rest t rows a en dp
  obtain ⟨L,ts,rfl,ho,h⟩:=h;split at h
  ·obtain ⟨d7,h⟩:=h;have h0:=ho.lo;have h1:=ho.hi;have h2:=ho.big;refine ⟨Za [],1,false,sM,Ta rfl,wN ?_⟩;have h:=h _ rfl;rw [ZcV] at h;refine ⟨L,ts,rfl,ho,wN ?_⟩;refine ⟨L,ts,rfl,ho,fun x fd=>?_⟩;rcases x with ⟨v1,ts1⟩ | ⟨r1,e1⟩
   rotate_left
   ·exact m65
   rw [fd,R.bind_ok] at h;intro a1 fj af
   have aj:=af.hi;(conv=>whnf);refine ⟨L,ts1,rfl,af,fun x dt=>?_⟩;rcases x with ⟨v2,ts2⟩ | ⟨r2,e2⟩
   rotate_left
   ·exact m54
   rw [dt,R.bind_ok] at h;intro a2 fx ac
   have bp:=ac.hi;(conv=>whnf);refine ⟨L,ts2,rfl,ac,[[58]],rfl,sM,fun lc ai=>wN ?_,fun lc=>wN ?_⟩
   ·rw [Tg lc] at h;have f6:=ai.hi;refine ⟨L,ts2.tail,rfl,ai,fun x np=>?_⟩;rcases x with ⟨v4,ts4⟩ | ⟨r4,e4⟩
    rotate_left
    ·exact m116
    rw [np,R.bind_ok] at h;intro a4 n7 av
    have qq:=av.hi;(conv=>whnf);refine ⟨L,ts4,rfl,av,fun x lw=>?_⟩;rcases x with ⟨v5,ts5⟩ | ⟨r5,e5⟩
    rotate_left
    ·exact m53
    rw [lw,R.bind_ok] at h;intro a5 mo cy
    have vr:=cy.hi;(conv=>whnf);refine ⟨_,fun _ _ h=>h,Ta rfl,wN ?_⟩;refine ⟨L,ts5,rfl,cy,[[123]],rfl,sM,fun b nq=>?_⟩
    cases b with
    | false =>
     rw [Zu,Tc (by rw [nq];simp),R.bind_err] at h;(conv=>whnf);refine ⟨L,ts5,rfl,cy,fun x hx=>?_⟩;rw [ZT,Tc (by rw [nq];simp)] at hx;exact m222
    | true =>
    rw [Zu,Tg nq] at h;(conv=>whnf);refine ZBC (fun hc=>wN ?_) (fun hc=>wN ?_)
    ·rw [Tg oM,R.bind_err] at h;refine ⟨L,ts5,rfl,cy,wN ?_⟩;exact h _ _
    rw [Tc oM] at h;refine ⟨L,ts5,rfl,cy,fun x hx=>?_⟩;rw [ZT,Tg nq] at hx;subst hx;intro a7 z4 fk
    have hb7:=fk.hi;(conv=>whnf);refine Or.inl ⟨InR.i64 oM oM,wN ?_⟩;refine ⟨_,fun _ _ h=>h,Ta rfl,wN ?_⟩;refine ⟨L,ts5.tail,rfl,fk,⟨oM,oM,oM,rfl⟩,fun x xm=>?_⟩;exact m50
   rw [Tc (by rw [lc];simp)] at h;refine ⟨_,fun _ _ h=>h,Ta rfl,wN ?_⟩;refine ⟨L,ts2,rfl,ac,[[123]],rfl,sM,fun b nq=>?_⟩
   cases b with
   | false =>
    rw [Zu,Tc (by rw [nq];simp),R.bind_err] at h;(conv=>whnf);refine ⟨L,ts2,rfl,ac,fun x hx=>?_⟩;rw [ZT,Tc (by rw [nq];simp)] at hx;exact m222
   | true =>
   rw [Zu,Tg nq] at h;(conv=>whnf);refine ZBC (fun hc=>wN ?_) (fun hc=>wN ?_)
   ·rw [Tg oM,R.bind_err] at h;refine ⟨L,ts2,rfl,ac,wN ?_⟩;exact h _ _
   rw [Tc oM] at h;refine ⟨L,ts2,rfl,ac,fun x hx=>?_⟩;rw [ZT,Tg nq] at hx;subst hx;intro a7 z4 fk
   have hb7:=fk.hi;(conv=>whnf);refine Or.inl ⟨InR.i64 oM oM,wN ?_⟩;refine ⟨_,fun _ _ h=>h,Ta rfl,wN ?_⟩;refine ⟨L,ts2.tail,rfl,fk,⟨oM,oM,oM,rfl⟩,fun x xm=>?_⟩;exact m50
  exact h.elim
 exact h.elim
noncomputable def Zn5 (d:Nat):Tbl:=[(113,Zhr),(114,ZjS),(115,ZfY),(116,ZjX),(117,Zkg d),(118,Vi),(119,We),(120,Wa),(121,ZdE),(122,Zaj Zq),(123,Zkd d),(112,Xm)]
theorem U6 (inside:Bool) (d:Nat) (un:Ts->R Un) (f:Nat) (tys:List Ty) (rels:List Re) (rules:List Ru) (comps:List Co) (inits:List Ini) (overs:List Ov) (ts:Ts):X0 inside d un (f+1) (.mk tys rels rules comps inits overs) ts =
  if ts=[]\/(inside=true/\isW ts [[125]]=true) then .ok (.mk tys rels rules comps inits overs) ts
  else if isW ts [[116,121,112,101]]=true then (if tys.length=256 then .err ts.length 3 else (UQ ts.tail).bind fun x ts=>X0 inside d un f (.mk (tys++[x]) rels rules comps inits overs) ts)
  else if isW ts [[100,101,99,108]]=true then (if rels.length=256 then .err ts.length 3 else (ZcT ts.tail).bind fun x ts=>X0 inside d un f (.mk tys (rels++[x]) rules comps inits overs) ts)
  else if isW ts [[99,111,109,112]]=true then (if comps.length=64 then .err ts.length 3 else (ZcV d un ts.tail).bind fun x ts=>X0 inside d un f (.mk tys rels rules (comps++[x]) inits overs) ts)
  else if isW ts [[105,110,105,116]]=true then (if inits.length=256 then .err ts.length 3 else (ZcW ts.tail).bind fun x ts=>X0 inside d un f (.mk tys rels rules comps (inits++[x]) overs) ts)
  else if isW ts [[111,118,101,114,114,105,100,101]]=true then (if overs.length=256 then .err ts.length 3 else (Zee ts.tail).bind fun x ts=>X0 inside d un f (.mk tys rels rules comps inits (overs++[x])) ts)
  else if Zq ts=true then (if rules.length=1024 then .err ts.length 3 else (ZcU d true ts).bind fun x ts=>X0 inside d un f (.mk tys rels (rules++[x]) comps inits overs) ts)
  else .err ts.length 150:=rfl
theorem Zuv {d:Nat} (ht:TO w0 nG (Zn5 d)):PC w0 nG 60 (ZdM d):=by
 refine Zd Zb mixed (tbl:=Zn5 d) ht Tryz.func60 rfl kR kR ?_;intro args σ K h
 unfold ZdM X8 at h
 split at h
 ·rename_i rest t rows a en dp
  obtain ⟨L,ts,rfl,ho,h⟩:=h;split at h
  ·rename_i inside
   obtain ⟨d7,h⟩:=h;have h0:=ho.lo;have h1:=ho.hi;have h2:=ho.big;refine ⟨Za [(1,⟨[],[0,1,4],fun vs σ=>∃(tys:List Ty) (rels:List Re) (rules:List Ru) (comps:List Co) (inits:List Ini) (overs:List Ov) (a':Int) (ts':Ts) (f:Nat),vs=[]/\σ=⟨[.cells t [.d (.sl (Zy L)),.d (.int .i64 a'),.d (.int .i64 en),.d (.int .i64 dp)],.cells 29 [.sl 0 67 (tys.map (Z1 (Zg L en))),.sl 1 72 (rels.map (Z3 (Zg L en))),.sl 2 84 (rules.map (ZW (Zg L en))),.sl 3 45 (comps.map (YG (Zg L en))),.sl 4 41 (inits.map (Yi (Zg L en))),.sl 5 43 (overs.map (Ye (Zg L en)))]],[5,4,3,2,1,0],6⟩/\ROK L a' ts'/\a<=a'/\ts'.length<f/\(tys.length<=256/\rels.length<=256/\rules.length<=1024/\comps.length<=64/\inits.length<=256/\overs.length<=256)/\RKk (fun (v:Un)=>Za6 (Yg (Zg L en) v)) L en dp a (X0 inside d (JD d) f (.mk tys rels rules comps inits overs) ts') (fun pe a' dp'=>K pe ⟨[.cells t [.d (.sl (Zy L)),.d (.int .i64 a'),.d (.int .i64 en),.d (.int .i64 dp')]],[],0⟩),fun _ σ=>match σ with | ⟨.cells _ [_,.d (.int _ i),_,_]::_,_,_⟩=>((L.length:Int) - i).toNat | _=>0⟩)],1,false,sM,Ta rfl,wN ?_⟩;have h:=h _ rfl;rw [Zem,Zlc] at h;refine ⟨⟨[],[],[],[],[],[],a,ts,ts.length+1,rfl,rfl,ho,oM,oM,sM,h⟩,?_⟩
   clear h
   intro vs σ hI
   obtain ⟨tys,rels,rules,comps,inits,overs,a',ts',f,rfl,rfl,dw,adq,hf,ahf,h⟩:=hI;obtain ⟨f,rfl⟩:∃g,f=g+1:=⟨f - 1,oM⟩
   rw [U6] at h;have qw:=dw.hi;have tj:=dw.len;have xz:=dw.lo;(conv=>whnf);refine ZBC (fun hc=>wN ?_) (fun hc=>wN ?_)
   ·have an:ts'≠[]:=by rintro rfl;have hc:a'<((Zy L).length:Int):=hc;rw [ZG] at hc;simp at tj;omega
    cases inside with
    | false =>
     rw [Tc (by simp [an])] at h;exact m1
    | true =>
    conv=>whnf
    refine ⟨L,ts',rfl,dw,[[125]],rfl,sM,fun b hw=>?_⟩
    cases b with
    | true =>
     rw [Tg (.inr ⟨rfl,hw⟩)] at h;(conv=>whnf)
     repeat (refine ⟨rfl,?_⟩;conv=>whnf)
     have h:=h _ oM dw;simp only [Za6,Yg,ZN,TN,TQ] at h;exact h
    | false =>
    rw [Tc (by simp [an,hw])] at h;exact m1
   have d8:ts'=[]:=by have hc:¬a'<((Zy L).length:Int):=hc;rw [ZG] at hc;exact TB oM
   rw [Tg (.inl d8)] at h;have h:=h _ oM dw;simp only [Za6,Yg,ZN,TN,TQ] at h;exact h
  exact h.elim
 exact h.elim
theorem Zco:PC w0 nG 118 Vi:=Zq4 ⟨Zak,trivial⟩
theorem cIs:PC w0 nG 113 Zhr:=ZzA ⟨Zak,ZiO,trivial⟩
theorem Zfa:PC w0 nG 122 (Zaj Zq):=Zq5 ⟨Zak,ZiN,trivial⟩
theorem UC:PC w0 nG 112 Xm:=Zui ⟨Zco,trivial⟩
theorem Zba:PC w0 nG 171 WR:=Zuj ⟨cIs,trivial⟩
theorem Zan:PC w0 nG 120 Wa:=Zuk ⟨Zba,UC,trivial⟩
theorem ZzB:PC w0 nG 114 ZjS:=Zul ⟨UC,trivial⟩
theorem JX:PC w0 nG 119 We:=Zq6 ⟨Zfa,UC,trivial⟩
theorem ZiU:PC w0 nG 227 (Zaj ZA):=ZnI ⟨Zak,cIs,ZiN,ZbJ,trivial⟩
theorem Zn6:PC w0 nG 192 Zq7:=ZnJ ⟨Zak,trivial⟩
theorem Zuw:PC w0 nG 224 ZfX:=ZnN ⟨JX,Zan,trivial⟩
theorem ZiV:PC w0 nG 172 Jt:=ZnO ⟨cIs,Zhu ⟨Zfa,UC,Zuw,Zba,trivial⟩,trivial⟩
theorem ZsN:PC w0 nG 121 ZdE:=Zq8 ⟨Zba,ZlL ⟨Zfa,UC,JX,Zba,trivial⟩,Zan,trivial⟩
theorem Zxf:PC w0 nG 174 ZiQ:=Zq9 ⟨JX,Zan,ZiV,trivial⟩
theorem Zxg:PC w0 nG 115 ZfY:=Zra ⟨Zco,JX,Zba,Zan,ZiV,ZiP ⟨Zfa,UC,Zxf,Zba,trivial⟩,trivial⟩
theorem ZzC:PC w0 nG 116 ZjX:=Zum ⟨Zco,JX,Zba,Zan,ZiV,trivial⟩
theorem ZA7:PC w0 nG 163 Zrb:=Zxd ⟨ZnQ ⟨Zba,trivial⟩,ZnR ⟨Zba,trivial⟩,trivial⟩
theorem ZhC (h:VX (GG w0 nG).P 226):PC w0 nG 226 (V9 0):=⟨h,fun args σ K hs=>by
 exfalso;unfold V9 at hs
 split at hs
 ·exact absurd hs.1.2.2.2.2.1 oM
 exact hs⟩
theorem ZhD {d:Nat} (h:PC w0 nG 226 (Za8 d)):PC w0 nG 226 (V9 (d+1)):=h.weaken1 fun args σ K hs=>by
 unfold V9 at hs
 unfold Za8
 split at hs
 ·obtain ⟨⟨h1,h2,h3,h4,h5,h6,h7⟩,hs⟩:=hs;exact ⟨⟨h1,h2,h3,h4,oM,h7⟩,hs⟩
 exact hs.elim
theorem ZlN (d:Nat) (h:VX (GG w0 nG).P 134):PC w0 nG 134 (ZdJ d 0):=⟨h,fun args σ K hs=>by
 exfalso;unfold ZdJ X8 at hs
 split at hs
 ·obtain ⟨L,ts,_,_,hs⟩:=hs;split at hs
  ·exact absurd hs.1.2.1 oM
  exact hs
 exact hs⟩
theorem ZlO {d j:Nat} (h:PC w0 nG 134 (Ze9 d j)):PC w0 nG 134 (ZdJ d (j+1)):=h.weaken1 fun args σ K hs=>by
 unfold ZdJ X8 at hs
 unfold Ze9 X8
 split at hs
 ·obtain ⟨L,ts,h1,h2,hs⟩:=hs;refine ⟨L,ts,h1,h2,?_⟩;split at hs
  ·exact ⟨⟨hs.1.1,hs.1.2.2.1,hs.1.2.2.2.1,by have:=hs.1.2.2.2.2;omega⟩,hs.2⟩
  exact hs.elim
 exact hs
structure Deep (w0:World) (nG d:Nat):Prop where
 sg:PC w0 nG 191 (ZhA d)
 ex:PC w0 nG 70 (ZiS d)
 many:PC w0 nG 226 (V9 d)
theorem Zkj {d:Nat} (D:Deep w0 nG d):PC w0 nG 178 (ZdI d):=Zuo ⟨(ZbL (tb:=Zj4 d) ⟨cIs,Zan,UC,(ZbL (tb:=Zj3 d) ⟨cIs,D.many,trivial⟩ Tryz.func225 rfl kR kR),trivial⟩ Tryz.func175 rfl kR kR),trivial⟩
theorem Zrd {d:Nat} (D:Deep w0 nG d):PC w0 nG 262 (Zj2 d):=Zup ⟨(ZbL (tb:=Zj6 d) ⟨cIs,Zan,UC,(Zxc (tb:=Zj5 d) ⟨Zan,D.ex,trivial⟩ Tryz.func275 rfl kR kR),trivial⟩ Tryz.func175 rfl kR kR),trivial⟩
theorem ZiW {d:Nat} (D:Deep w0 nG d):PC w0 nG 239 (Za9 d):=ZlM ⟨ZiU,UC,Zak,(ZbL (tb:=Zj8 d) ⟨cIs,Zan,UC,(ZbL (tb:=Zj7 d) ⟨D.ex,trivial⟩ Tryz.func261 rfl kR kR),trivial⟩ Tryz.func175 rfl kR kR),Zkj D,JX,cIs,ZbJ,Zrd D,trivial⟩
theorem ZbP {d:Nat} (D:Deep w0 nG d):PC w0 nG 191 (ZcI d):=ZnV ⟨Zco,cIs,(ZbL (tb:=Zka d) ⟨cIs,Zan,UC,(ZbL (tb:=Zj9 d) ⟨D.sg,trivial⟩ Tryz.func238 rfl kR kR),trivial⟩ Tryz.func175 rfl kR kR),ZiW D,trivial⟩
theorem Zkk {d:Nat} (D:Deep w0 nG d):∀j,PC w0 nG 134 (Ze9 d j)
 | 0=>ZnY ⟨ZbP D,Zn6,ZlN d (Zn Tryz.func134 kR rfl),trivial⟩
 | j+1=>ZnY ⟨ZbP D,Zn6,ZlO (Zkk D j),trivial⟩
theorem Zf1 {d:Nat} (D:Deep w0 nG d):PC w0 nG 70 (ZdH d):=Zuq ⟨Zkk D 6,trivial⟩
theorem Zn7 {d:Nat} (h:PC w0 nG 70 (ZdH d)):PC w0 nG 226 (Za8 d):=ZnL d ⟨ZiU,UC,h,Zba,trivial⟩
theorem Zxh:∀d,Deep w0 nG d
 | 0=>⟨ZdF (Zn Tryz.func191 kR rfl),ZdF (Zn Tryz.func70 kR rfl),ZhC (Zn Tryz.func226 kR rfl)⟩
 | d+1=>⟨ZdG (ZbP (Zxh d)),ZdG (Zf1 (Zxh d)),ZhD (Zn7 (Zf1 (Zxh d)))⟩
theorem Zxi (d:Nat):PC w0 nG 178 (ZdI d):=Zkj (Zxh d)
theorem Zxj (d:Nat):PC w0 nG 70 (ZdH d):=Zf1 (Zxh d)
theorem Zxk:PC w0 nG 229 (ZjW ZE):=Zrc ⟨ZiU,cIs,trivial⟩
theorem Zux {d:Nat} (h:PC w0 nG 179 (ZfZ d)):PC w0 nG 230 (Zur d):=Zxe ⟨Zco,Zba,Zak,Zfa,JX,Zxi d,Zxj d,ZA7,UC,Zan,(ZbL (tb:=Zn2 d) ⟨cIs,Zan,UC,(ZbL (tb:=Zn1 d) ⟨h,trivial⟩ Tryz.func257 rfl kR kR),trivial⟩ Tryz.func175 rfl kR kR),trivial⟩
theorem Zkl {d:Nat} (h:PC w0 nG 179 (ZfZ d)):PC w0 nG 179 (ZhB d):=Zus ⟨ZnM d ⟨Zxk,UC,Zux h,Zba,trivial⟩,trivial⟩
theorem ZsO:∀d,PC w0 nG 179 (ZfZ d)
 | 0=>ZdF (Zn Tryz.func179 kR rfl)
 | d+1=>ZdG (Zkl (ZsO d))
theorem ZzD (d:Nat):PC w0 nG 179 (ZhB d):=Zkl (ZsO d)
theorem ZzE (d:Nat):PC w0 nG 123 (Zkd d):=Zut ⟨Zco,JX,Zxi d,Zba,ZzD d,Zan,trivial⟩
theorem ZlP (h:VX (GG w0 nG).P 60):PC w0 nG 60 (U5 0):=⟨h,fun args σ K hs=>by
 exfalso;unfold U5 X8 at hs
 split at hs
 ·obtain ⟨L,ts,_,_,hs⟩:=hs;split at hs
  ·exact absurd hs.1.1 oM
  exact hs
 exact hs⟩
theorem ZlQ {d:Nat} (h:PC w0 nG 60 (ZdM d)):PC w0 nG 60 (U5 (d+1)):=h.weaken1 fun args σ K hs=>by
 unfold U5 X8 at hs
 unfold ZdM X8
 split at hs
 ·obtain ⟨L,ts,h1,h2,hs⟩:=hs;refine ⟨L,ts,h1,h2,?_⟩;split at hs
  ·obtain ⟨⟨g1,g2,g3,rfl⟩,hs⟩:=hs;refine ⟨oM,?_⟩;rw [JD,Zkf] at hs;exact hs
  exact hs.elim
 exact hs
theorem Zre {d:Nat} (h:PC w0 nG 60 (U5 d)):PC w0 nG 117 (Zkg d):=Zuu ⟨Zco,JX,ZsN,Zba,(ZbL (tb:=Zki d) ⟨cIs,Zan,UC,(ZbL (tb:=Zkh d) ⟨h,trivial⟩ Tryz.func176 rfl kR kR),trivial⟩ Tryz.func175 rfl kR kR),trivial⟩
theorem Zkm {d:Nat} (h:PC w0 nG 60 (U5 d)):PC w0 nG 60 (ZdM d):=Zuv ⟨cIs,ZzB,Zxg,ZzC,Zre h,Zco,JX,Zan,ZsN,Zfa,ZzE d,UC,trivial⟩
theorem ZsP:∀d,PC w0 nG 60 (U5 d)
 | 0=>ZlP (Zn Tryz.func60 kR rfl)
 | d+1=>ZlQ (Zkm (ZsP d))
theorem ZzF (d:Nat):PC w0 nG 60 (ZdM d):=Zkm (ZsP d)
def R.good {α:Type} (x:R α):Prop:=match x with | .ok _ _=>True | .err _ e=>e≠0
theorem ZBD {α β:Type} {x:R α} {f:α->Ts->R β} (h:x.good) (hf:∀a ts,(f a ts).good):(x.bind f).good:=by
 cases x with
 | ok a ts=>exact hf a ts
 | err r e=>exact h
theorem ZBS {α:Type} (a:α) (ts:Ts):(R.ok a ts:R α).good:=trivial
theorem ZBH {α:Type} {c:Prop} [Decidable c] {x y:R α} (h1:x.good) (h2:y.good):(if c then x else y).good:=by split;exact h1;exact h2
theorem ZBI {α:Type} {r e:Nat} (h:e≠0):(R.err r e:R α).good:=h
theorem YD (w:Bs) (ts:Ts):(ZT w ts).good:=ZBH trivial (ZBI dM)
theorem Z8 (ts:Ts):(Z2 ts).good:=ZBH trivial (ZBI dM)
theorem Xn {α:Type} {d:Nat} {fr tw:Bs} {read:Ts->R α} (h:∀ts,(read ts).good) (ts:Ts):(Zu d fr tw read ts).good :=
 ZBH (ZBH (ZBI dM) (ZBD (h _) fun _ _=>ZBH trivial (ZBD (YD _ _) fun _ _=>trivial))) (ZBI dM)
theorem ZdN {α:Type} {sign:Bs} {most:Nat} {st:Ts->Bool} {one:Ts->R α} (h:∀ts,(one ts).good):∀f l ts,(Xl sign most st one f l ts).good
 | 0,_,_=>ZBI dM
 | f+1,l,ts=>ZBH (ZBI dM) (ZBD (h _) fun _ _=>ZBH (ZdN h f _ _) trivial)
theorem Ub {α:Type} {sign:Bs} {most:Nat} {st:Ts->Bool} {one:Ts->R α} (h:∀ts,(one ts).good) (ts:Ts):(YM sign most st one ts).good:=ZdN h _ _ _
theorem ZlR (ts:Ts):(YP ts).good:=ZBD (Z8 _) fun _ _=>ZBD (YD _ _) fun _ _=>ZBD (Z8 _) fun _ _=>trivial
theorem Zao (w:Bs) (ts:Ts):(Yu w ts).good:=ZBH trivial (Ub ZlR _)
theorem ZbQ (ts:Ts):(Y6 ts).good:=ZBH (ZBD (Ub Z8 _) fun _ _=>ZBD (YD _ _) fun _ _=>trivial) trivial
theorem Zn8 (ts:Ts):(Wo ts).good:=ZBD (Z8 _) fun _ _=>ZBD (YD _ _) fun _ _=>ZBD (Zao _ _) fun _ _=>ZBD (YD _ _) fun _ _=>trivial
theorem ZlS (ts:Ts):(UQ ts).good:=ZBD (Z8 _) fun _ _=>ZBH (ZBD (Z8 _) fun _ _=>trivial) (ZBD (YD _ _) fun _ _ =>
 ZBH (ZBD (Zao _ _) fun _ _=>ZBD (YD _ _) fun _ _=>trivial) (ZBD (Ub Zn8 _) fun _ _=>trivial))
theorem Zn9 (ts:Ts):(ZcT ts).good:=ZBD (Z8 _) fun _ _=>ZBD (YD _ _) fun _ _=>ZBD (Zao _ _) fun _ _=>ZBD (YD _ _) fun _ _=>trivial
theorem Zbb {d:Nat} {ex:Ts->R Ex} (h:∀ts,(ex ts).good) (fr tw:Bs) (ts:Ts):(XX d ex fr tw ts).good:=by
 unfold XX
 exact Xn (fun ts=>ZBH (ZBS _ _) (Ub h _)) ts
theorem ZdO {ex:Ts->R Ex} (h:∀ts,(ex ts).good):∀k l ts,(XZ ex k l ts).good
 | 0,_,_=>trivial
 | k+1,l,ts=>ZBD (ZBH trivial (YD _ _)) fun _ _=>ZBD (h _) fun _ _=>ZdO h k _ _
theorem ZhE {d:Nat} {ex:Ts->R Ex} (h:∀ts,(ex ts).good) (ts:Ts):(YA d ex ts).good :=
 ZBH (ZBI dM) <| ZBH trivial <| ZBH trivial <| ZBH (Xn h _) <| ZBH (ZBD (Zbb h _ _ _) fun _ _=>trivial) <|
 ZBH (ZBD (Z8 _) fun _ _=>ZBH (ZBD (Zbb h _ _ _) fun _ _=>trivial) trivial) <|
 ZBH (ZBD (Xn (ZdO h _ _) _) fun _ _=>trivial) <| ZBH trivial <| ZBH trivial trivial
theorem ZdP {sub:Nat->Ts->R Ex} (h:∀n ts,(sub n ts).good) (least:Nat):∀f e ts,(WQ sub least f e ts).good
 | 0,_,_=>ZBI dM
 | f+1,e,ts=>ZBH trivial (ZBD (h _ _) fun _ _=>ZdP h least f _ _)
theorem ZbR {sg:Ts->R Ex} (h:∀ts,(sg ts).good):∀k least ts,(WU sg k least ts).good
 | 0,_,_=>h _
 | k+1,least,ts=>ZBD (h _) fun _ _=>ZdP (fun n ts=>ZbR h k n ts) _ _ _ _
theorem Zcp {d:Nat} {sg:Ts->R Ex} (h:∀ts,(sg ts).good) (ts:Ts):(VL d sg ts).good :=
 ZBH (ZBD (Xn h _) fun _ _=>trivial) <| ZBH (ZBD (Xn h _) fun _ _=>trivial) (ZhE (fun ts=>ZbR h _ _ _) _)
theorem ZdQ:∀d ts,(Zv d ts).good
 | 0,ts=>Zcp (fun _=>(ZBI dM)) ts
 | d+1,ts=>Zcp (ZdQ d) ts
theorem Zbc (d:Nat) (ts:Ts):(Ya d ts).good:=ZbR (ZdQ d) _ _ _
theorem Zfb:∀d ts,(Yp d ts).good
 | 0,_=>(ZBI dM)
 | d+1,ts=>Zbc d ts
theorem ZlT (ts:Ts):(ZaA ts).good:=by
 unfold ZaA
 split
 ·exact ZBI dM
 ·split <;> trivial
 trivial
theorem Zcq (d op a:Nat) (ts:Ts):(UR d op a ts).good:=ZBD (Z8 _) fun _ _=>ZBD (Zbb (Zfb d) _ _ _) fun _ _=>trivial
theorem ZdR {d:Nat} {bd:Ts->R (List Li)} (h:∀ts,(bd ts).good) (a op:Nat) (l:List Ex) (ts:Ts):(XF d bd a op l ts).good :=
 ZBH (ZBD (YD _ _) fun _ _=>ZBD (Xn h _) fun _ _=>trivial) trivial
theorem Zkn {d:Nat} {bd:Ts->R (List Li)} (h:∀ts,(bd ts).good) (ts:Ts):(ZaB d bd ts).good :=
 ZBH (Zcq _ _ _ _) <| ZBH (Zcq _ _ _ _) <| ZBD (Zbc _ _) fun _ _=>ZBD (ZlT _) fun _ _=>ZBH (ZdR h _ _ _ _) (ZBD (Zbc _ _) fun _ _=>ZdR h _ _ _ _)
theorem ZhF:∀d ts,(VU d ts).good
 | 0,ts=>Ub (Zkn fun _=>(ZBI dM)) ts
 | d+1,ts=>Ub (Zkn (ZhF d)) ts
theorem Zoa (d:Nat) (b:Bool) (ts:Ts):(ZcU d b ts).good:=ZBD (Z8 _) fun _ _=>ZBD (Zbb (Zfb d) _ _ _) fun _ _ =>
 ZBH (ZBD (ZhF _ _) fun _ _=>ZBD (YD _ _) fun _ _=>trivial) (ZBD (YD _ _) fun _ _=>trivial)
theorem Zob {d:Nat} {un:Ts->R Un} (h:∀ts,(un ts).good) (ts:Ts):(ZcV d un ts).good:=ZBD (Z8 _) fun _ _=>ZBD (ZbQ _) fun _ _ =>
 ZBH (ZBD (Z8 _) fun _ _=>ZBD (ZbQ _) fun _ _=>ZBD (Xn h _) fun _ _=>trivial) (ZBD (Xn h _) fun _ _=>trivial)
theorem Zoc (ts:Ts):(ZcW ts).good:=ZBD (Z8 _) fun _ _=>ZBD (YD _ _) fun _ _=>ZBD (Z8 _) fun _ _=>ZBD (ZbQ _) fun _ _=>trivial
theorem Zod (ts:Ts):(Zee ts).good:=ZBD (Z8 _) fun _ _=>trivial
theorem YU {b:Bool} {d:Nat} {un:Ts->R Un} (h:∀ts,(un ts).good):∀f u ts,(X0 b d un f u ts).good
 | 0,_,_=>ZBI dM
 | f+1,.mk tys rels rules comps inits overs,ts=>by
  rw [U6];exact ZBH trivial <| ZBH (ZBH (ZBI dM) (ZBD (ZlS _) fun _ _=>YU h f _ _)) <| ZBH (ZBH (ZBI dM) (ZBD (Zn9 _) fun _ _=>YU h f _ _)) <|
   ZBH (ZBH (ZBI dM) (ZBD (Zob h _) fun _ _=>YU h f _ _)) <| ZBH (ZBH (ZBI dM) (ZBD (Zoc _) fun _ _=>YU h f _ _)) <|
   ZBH (ZBH (ZBI dM) (ZBD (Zod _) fun _ _=>YU h f _ _)) <| ZBH (ZBH (ZBI dM) (ZBD (Zoa _ _ _) fun _ _=>YU h f _ _)) (ZBI dM)
theorem Zfc:∀d ts,(Zld d ts).good
 | 0,ts=>YU (fun _=>(ZBI dM)) _ _ _
 | d+1,ts=>YU (Zfc d) _ _ _
theorem ZhG (ts:Ts):(WK ts).good:=YU (Zfc 63) _ _ _
theorem ZlU {a:Nat} {r:Bs} {room:Bool} {t:Tok} (h:Xq a r room=.tok t):room=true:=by
 cases room with
 | true=>rfl
 | false =>
 unfold Xq at h
 simp only at h;split at h
 ·cases h
 simp at h
theorem Zko:∀(f:Nat) (m:Int) (a:Nat) (r:Bs),(Xk f m a r).1.length<=m.toNat
 | 0,m,a,r=>by simp [Xk]
 | f+1,m,a,r=>by
  unfold Xk
  split
  ·simp
  simp only;split
  ·simp
  split
  ·simp
  rename_i t ht
  have hr:=ZlU ht;rw [TG] at hr;have:=Zko f (m - 1) t.fin ((r.drop (Zw r).2).drop (t.fin - (a+(Zw r).2)));simp only [Td];omega
theorem ZiX (s:Bs) (m:Int):(Uh s m).1.length<=m.toNat:=Zko _ _ _ _
inductive Top (α:Type) where
 | ok (v:α) (L:List Tok) | err (p:Int) (e:Nat)
def Yv {α:Type} (bytes most:Nat) (P:Ts->R α) (s:Bs):Top α :=
 if bytes<s.length then .err 0 3
 else if (Uh s most).2.2≠0 then .err (Uh s most).2.1 (Uh s most).2.2
 else match P ((Uh s most).1.map Tok.t0) with
  | .ok v []=>.ok v (Uh s most).1
  | .ok v (_::ts)=>.err (Zg (Uh s most).1 s.length (ts.length+1)) 150
  | .err r e=>.err (Zg (Uh s most).1 s.length r) e
theorem ZdS {α:Type} {bytes most:Nat} {P:Ts->R α} (hP:∀ts,(P ts).good) {s:Bs} {p:Int} {e:Nat} (h:Yv bytes most P s=.err p e):e≠0:=by
 unfold Yv at h
 split at h
 ·cases h;decide
 split at h
 ·rename_i hn;cases h;exact hn
 split at h
 ·cases h
 ·cases h;decide
 rename_i r e' he
 cases h
 have:=hP ((Uh s most).1.map Tok.t0);rw [he] at this;exact this
noncomputable def ZdT:Zt:=fun args σ K=>match args,σ with
 | [.d (.str s),.d (.int .i64 m)],⟨[],[],0⟩=>s.length<4294967281 /\
   ∀l p c,Uh s m=(l,(p,c))->(c=0->K (.ret (.tuple [.d (.sl (Zy l)),.d (.int .i64 p),.d (.int .i64 0)])) ⟨[],[],0⟩) /\
    (c≠0->K (.ret (.tuple [.d (.sl []),.d (.int .i64 p),.d (.int .i64 c)])) ⟨[],[],0⟩)
 | _,_=>False
theorem ZdU:Yb ZdT:=fun args σ K K' hK h=>by
 unfold ZdT at h |-
 split at h
 ·exact ⟨h.1,fun l p c hx=>⟨fun g=>hK _ _ ((h.2 l p c hx).1 g),fun g=>hK _ _ ((h.2 l p c hx).2 g)⟩⟩
 exact h.elim
theorem Zuy (h:PC w0 nG 110 ZaX):PC w0 nG 110 ZdT:=h.weaken1 fun args σ K hs=>by
 unfold ZdT at hs
 unfold ZaX
 split at hs
 ·rename_i s m
  obtain ⟨h1,hs⟩:=hs;refine ⟨h1,?_⟩;have hs:=hs (Uh s m).1 (Uh s m).2.1 (Uh s m).2.2 rfl
  by_cases hc:(Uh s m).2.2=0
  ·rw [Tg hc,hc];exact hs.1 hc
  rw [Tc hc];exact hs.2 hc
 exact hs.elim
noncomputable def recOf:Nat×Nat×Code:=match ZyX (Wm Tryz.f111) with | some x=>x | none=>(0,0,.skip)
noncomputable def Zxl:List PV->St->(St->Prop)->Prop:=fun args σ K=>args.length<=Tryz.f111.ntmps/\W (ctx ZgB [] (Za [])) recOf.2.2 (Zw6 ZgB Tryz.f111 σ.bx.length K) (JH (JH (ZeH 0 args) recOf.1 (.d .nili)) recOf.2.1 (.d .nili)) σ
noncomputable def Zxm:PV->List PV->St->(St->Prop)->Prop:=fun pv args σ K=>args.length<=Tryz.f111.ntmps/\W (ctx ZgB [] (Za [])) recOf.2.2 (Zw6 ZgB Tryz.f111 σ.bx.length K) (JH (JH (ZeH 0 args) recOf.1 pv) recOf.2.1 pv) σ
theorem ZsQ:PDef (GG w0 nG) 111 Zxl Zxm :=
 Zue (a:=recOf.1) (b:=recOf.2.1) (rest:=recOf.2.2) Zb mixed (tbl:=[]) trivial trivial Tryz.func111 rfl kR rfl kR (fun args σ K h=>⟨Za [],σ.bx.length,Tr _,h.1,h.2⟩) (fun pv args σ K h=>⟨Za [],σ.bx.length,Tr _,h.1,h.2⟩)
def WhK {α:Type} (tU:TypeId) (enc:List Tok->Int->α->List PV) (bad:List PV->Prop) (n:Int) (x:Top α) (K:PEnd->St->Prop):Prop:=match x with
 | .ok v L=>K (.ret (.tuple [.d (.int .i64 0),.d (.int .i64 0)])) ⟨[.cells tU (enc L n v)],[],0⟩
 | .err p e=>∀cs,bad cs->K (.ret (.tuple [.d (.int .i64 p),.d (.int .i64 e)])) ⟨[.cells tU cs],[],0⟩
theorem ZhH {l:List Tok} (h:l.length<=1048576):ROK l 0 (l.map Tok.t0):=⟨oM,oM,h,by simp [tz]⟩
def ZA8 (cs:List PV):Prop:=∃a b c d e f:List (List D),cs=[.d (.sl a),.d (.sl b),.d (.sl c),.d (.sl d),.d (.sl e),.d (.sl f)]
def ZA9 (cs:List PV):Prop:=∃(a:Int) (b:Bs) (c:Int) (d:List (List D)) (e:Int),cs=[.d (.int .u8 a),.d (.str b),.d (.int .i64 c),.d (.sl d),.d (.int .i64 e)]
noncomputable def Zkp:Tbl:=[(60,ZdM 64)]
noncomputable def Zkq:Tbl:=[(70,ZdH 64)]
noncomputable def Zuz:Zt:=fun args σ K=>match args,σ with
 | [.d (.str s),.d (.int .i64 by'),.d (.int .i64 most),.func g [] [.ptr 0 0]],⟨[.cells tU c0],tk,n⟩=>(g=59/\by'=65536/\most=16384/\c0=[.sl 0 67 [],.sl 1 72 [],.sl 2 84 [],.sl 3 45 [],.sl 4 41 [],.sl 5 43 []]/\tk=[5,4,3,2,1,0]/\n=6)/\s.length<4294967281 /\
   ∀x,Yv 65536 16384 WK s=x->WhK tU (fun L n (v:Un)=>(Yg (Zg L n) v).map .d) ZA8 s.length x K
 | _,_=>False
noncomputable def ZsR:Tbl:=[(110,ZdT),(59,ZiR Tryz.f59 Zkp),(112,Xm)]
theorem Zoe (ht:TO w0 nG ZsR):PC w0 nG 58 Zuz:=by
 refine ZfU Zb mixed (tbl:=ZsR) ht ⟨ZdU,Zhz _ _,ZdB,trivial⟩ Tryz.func58 rfl kR kR ZsQ ?_;intro args σ K h
 unfold Zuz at h
 split at h
 ·obtain ⟨⟨rfl,rfl,rfl,rfl,rfl,rfl⟩,hs,h⟩:=h
  rename_i s tU
  have h:=h _ rfl;refine ⟨Za [],Wv [],Ys [],1,false,sM,Ta rfl,wN ?_⟩;unfold Yv at h
  refine ZBC (fun hc=>wN ?_) (fun hc=>wN ?_)
  ·rw [Tg oM] at h;exact h _ ⟨_,_,_,_,_,_,rfl⟩
  rw [Tc oM] at h;refine ⟨hs,fun l p c hx=>?_⟩;have ab:=ZiX s 16384;rw [show ((16384:Nat):Int)=16384 from rfl,hx] at h;rw [hx] at ab;refine ⟨fun h0=>?_,fun h0=>wN ?_⟩
  ·subst h0;rw [Tc sM] at h;simp only at h ab;have ho:=ZhH (l:=l) (by simp at ab;omega)
   clear hx ab
   generalize x9:l.map Tok.t0=ts at h ho;(conv=>whnf);refine ⟨_,fun _ _ h=>h,Ta rfl,wN ?_⟩;refine ⟨l,ts,rfl,ho,oM,fun x hx=>?_⟩;rw [show WK ts=Zem false 64 ts from rfl,hx] at h;rcases x with ⟨⟨v1,v2,v3,v4,v5,v6⟩,ts2⟩ | ⟨r,e⟩
   rotate_left
   ·intro a9 d9;(conv=>whnf);refine ⟨Ta rfl,?_⟩;(conv=>whnf);(repeat (refine ⟨rfl,?_⟩;conv=>whnf));exact h _ ⟨_,_,_,_,_,_,rfl⟩
   intro a2 fx ac
   conv=>whnf
   have iu:=ac.len
   (repeat (refine ⟨rfl,?_⟩;conv=>whnf))
   refine ZBC (fun jd=>?_) (fun jd=>?_)
   ·have jd:a2<l.length:=by have jd:a2<((Zy l).length:Int):=jd;rw [ZG] at jd;exact jd
    cases ts2 with
    | nil=>simp at iu;omega
    | cons t0 ts3 =>
    conv=>whnf
    refine ⟨l,_,rfl,ac,wN ?_⟩;refine ⟨Ta rfl,wN ?_⟩
    (repeat (refine ⟨rfl,?_⟩;conv=>whnf))
    exact h _ ⟨_,_,_,_,_,_,rfl⟩
   exact m131
  rw [Tg h0] at h;refine ZBE (fun fu=>?_) (fun fu=>absurd (show c=0 by omega) h0);(conv=>whnf)
  (repeat (refine ⟨rfl,?_⟩;conv=>whnf))
  exact h _ ⟨_,_,_,_,_,_,rfl⟩
 exact h.elim
noncomputable def ZuA:Zt:=fun args σ K=>match args,σ with
 | [.d (.str s),.d (.int .i64 by'),.d (.int .i64 most),.func g [] [.ptr 0 0]],⟨[.cells tU c0],tk,n⟩=>(g=69/\by'=65536/\most=16384/\c0=[.d (.int .u8 0),.d (.str []),.d (.int .i64 0),.sl 0 48 [],.d (.int .i64 0)]/\tk=[0]/\n=1)/\s.length<4294967281 /\
   ∀x,Yv 65536 16384 (Ya 64) s=x->WhK tU (fun L n (v:Ex)=>(YE (Zg L n) v).map .d) ZA9 s.length x K
 | _,_=>False
noncomputable def ZsS:Tbl:=[(110,ZdT),(69,ZiR Tryz.f69 Zkq),(112,Xm)]
theorem Zof (ht:TO w0 nG ZsS):PC w0 nG 58 ZuA:=by
 refine ZfU Zb mixed (tbl:=ZsS) ht ⟨ZdU,Zhz _ _,ZdB,trivial⟩ Tryz.func58 rfl kR kR ZsQ ?_;intro args σ K h
 unfold ZuA at h
 split at h
 ·obtain ⟨⟨rfl,rfl,rfl,rfl,rfl,rfl⟩,hs,h⟩:=h
  rename_i s tU
  have h:=h _ rfl;refine ⟨Za [],Wv [],Ys [],1,false,sM,Ta rfl,wN ?_⟩;unfold Yv at h
  refine ZBC (fun hc=>wN ?_) (fun hc=>wN ?_)
  ·rw [Tg oM] at h;exact h _ ⟨_,_,_,_,_,rfl⟩
  rw [Tc oM] at h;refine ⟨hs,fun l p c hx=>?_⟩;have ab:=ZiX s 16384;rw [show ((16384:Nat):Int)=16384 from rfl,hx] at h;rw [hx] at ab;refine ⟨fun h0=>?_,fun h0=>wN ?_⟩
  ·subst h0;rw [Tc sM] at h;simp only at h ab;have ho:=ZhH (l:=l) (by simp at ab;omega)
   clear hx ab
   generalize x9:l.map Tok.t0=ts at h ho;(conv=>whnf);refine ⟨_,fun _ _ h=>h,Ta rfl,wN ?_⟩;refine ⟨l,ts,rfl,ho,oM,fun x hx=>?_⟩;rw [hx] at h;rcases x with ⟨⟨v1,v2,v3,v4,v5⟩,ts2⟩ | ⟨r,e⟩
   rotate_left
   ·intro a9 d9;(conv=>whnf);refine ⟨Ta rfl,?_⟩;(conv=>whnf);(repeat (refine ⟨rfl,?_⟩;conv=>whnf));exact h _ ⟨_,_,_,_,_,rfl⟩
   intro a2 fx ac
   conv=>whnf
   have iu:=ac.len
   (repeat (refine ⟨rfl,?_⟩;conv=>whnf))
   refine ZBC (fun jd=>?_) (fun jd=>?_)
   ·have jd:a2<l.length:=by have jd:a2<((Zy l).length:Int):=jd;rw [ZG] at jd;exact jd
    cases ts2 with
    | nil=>simp at iu;omega
    | cons t0 ts3 =>
    conv=>whnf
    refine ⟨l,_,rfl,ac,wN ?_⟩;refine ⟨Ta rfl,wN ?_⟩
    (repeat (refine ⟨rfl,?_⟩;conv=>whnf))
    exact h _ ⟨_,_,_,_,_,rfl⟩
   exact m131
  rw [Tg h0] at h;refine ZBE (fun fu=>?_) (fun fu=>absurd (show c=0 by omega) h0);(conv=>whnf)
  (repeat (refine ⟨rfl,?_⟩;conv=>whnf))
  exact h _ ⟨_,_,_,_,_,rfl⟩
 exact h.elim
def ZyY {α:Type} (enc:List Tok->α->PV) (zero:PV) (x:Top α) (K:PEnd->St->Prop):Prop:=match x with
 | .ok v L=>K (.ret (.tuple [enc L v,.d (.int .i64 0),.d (.int .i64 0)])) ⟨[],[],0⟩
 | .err p e=>K (.ret (.tuple [zero,.d (.int .i64 p),.d (.int .i64 e)])) ⟨[],[],0⟩
noncomputable def Zkr:Zt:=fun args σ K=>match args,σ with
 | [.d (.str s)],⟨[],[],0⟩=>s.length<4294967281/\∀x,Yv 65536 16384 WK s=x->ZyY (fun L (v:Un)=>Za6 (Yg (Zg L s.length) v)) (Za6 (Yg (fun _=>0) .nil)) x K
 | _,_=>False
noncomputable def Zog:Tbl:=[(58,Zuz)]
theorem ZuB (ht:TO w0 nG Zog):PC w0 nG 16 Zkr:=by
 refine Zd Zb mixed (tbl:=Zog) ht Tryz.func16 rfl kR kR ?_;intro args σ K h
 unfold Zkr at h
 split at h
 ·rename_i s
  obtain ⟨hs,h⟩:=h;refine ⟨Za [],0,false,sM,Ta rfl,wN ?_⟩;refine ⟨⟨rfl,rfl,rfl,rfl,rfl,rfl⟩,hs,fun x hx=>?_⟩;have h:=h x hx
  cases x with
  | ok v L =>
   obtain ⟨v1,v2,v3,v4,v5,v6⟩:=v;exact m103
  | err p e =>
  have he:=ZdS ZhG hx;intro cs dm
  obtain ⟨b1,b2,b3,b4,b5,b6,rfl⟩:=dm;(conv=>whnf);refine ZBE (fun hc=>?_) (fun hc=>absurd (show e=0 by omega) he);exact m103
 exact h.elim
noncomputable def Zks:Zt:=fun args σ K=>match args,σ with
 | [.d (.str s)],⟨[],[],0⟩=>s.length<4294967281/\∀x,Yv 65536 16384 (Ya 64) s=x->ZyY (fun L (v:Ex)=>Za6 (YE (Zg L s.length) v)) (Za6 [.int .u8 0,.str [],.int .i64 0,.sl [],.int .i64 0]) x K
 | _,_=>False
noncomputable def Zoh:Tbl:=[(58,ZuA)]
theorem ZuC (ht:TO w0 nG Zoh):PC w0 nG 23 Zks:=by
 refine Zd Zb mixed (tbl:=Zoh) ht Tryz.func23 rfl kR kR ?_;intro args σ K h
 unfold Zks at h
 split at h
 ·rename_i s
  obtain ⟨hs,h⟩:=h;refine ⟨Za [],0,false,sM,Ta rfl,wN ?_⟩;refine ⟨⟨rfl,rfl,rfl,rfl,rfl,rfl⟩,hs,fun x hx=>?_⟩;have h:=h x hx
  cases x with
  | ok v L =>
   obtain ⟨v1,v2,v3,v4,v5⟩:=v;exact m103
  | err p e =>
  have he:=ZdS (Zbc 64) hx;intro cs dm
  obtain ⟨b1,b2,b3,b4,b5,rfl⟩:=dm;(conv=>whnf);refine ZBE (fun hc=>?_) (fun hc=>absurd (show e=0 by omega) he);exact m103
 exact h.elim
theorem Zfd (hg:GlobOK w0 nG):PC w0 nG 110 ZdT:=Zuy (Zt8 hg)
theorem ZzG (hg:GlobOK w0 nG):PC w0 nG 16 Zkr:=ZuB ⟨Zoe ⟨Zfd hg,ZbL (tb:=Zkp) ⟨ZzF 64,trivial⟩ Tryz.func59 rfl kR kR,UC,trivial⟩,trivial⟩
theorem ZzH (hg:GlobOK w0 nG):PC w0 nG 23 Zks:=ZuC ⟨Zof ⟨Zfd hg,ZbL (tb:=Zkq) ⟨Zxj 64,trivial⟩ Tryz.func69 rfl kR kR,UC,trivial⟩,trivial⟩
mutual
def szE:Ex->Nat
 | .mk _ _ _ l _=>1+Zrf l
def Zrf:List Ex->Nat
 | []=>0
 | x::l=>1+szE x+Zrf l
end
theorem Zkt:∀(l:List Ex),l.length<=Zrf l
 | []=>Tr _
 | x::l=>by have:=Zkt l;simp only [Td,Zrf];omega
theorem Zku:∀(l:List Ex) (i:Nat) (h:i<l.length),szE l[i]<Zrf l
 | x::l,0,h=>by simp only [List.getElem_cons_zero,Zrf];omega
 | x::l,i+1,h=>by have:=Zku l i (by simpa using h);simp only [List.getElem_cons_succ,Zrf];omega
def Li.op:Li->Nat | .mk o _ _ _ _=>o
def szS {α:Type} (f:α->Nat):List α->Nat
 | []=>0
 | x::l=>1+f x+szS f l
theorem Zp {α:Type} (f:α->Nat):∀(l:List α),l.length<=szS f l
 | []=>Tr _
 | x::l=>by have:=Zp f l;simp only [Td,szS];omega
theorem Zs {α:Type} (f:α->Nat):∀(l:List α) (i:Nat) (h:i<l.length),f l[i]<szS f l
 | x::l,0,h=>by simp only [List.getElem_cons_zero,szS];omega
 | x::l,i+1,h=>by have:=Zs f l i (by simpa using h);simp only [List.getElem_cons_succ,szS];omega
theorem Wf:∀(l:List Ex),Zrf l=szS szE l
 | []=>rfl
 | x::l=>by rw [Zrf,szS,Wf l]
def eqB (a b:Bs):Bool:=decide (a=b)
mutual
def szL:Li->Nat
 | .mk _ _ a b _=>1+szS szE a+Zxn b
def Zxn:List Li->Nat
 | []=>0
 | x::l=>1+szL x+Zxn l
end
theorem XR:∀(l:List Li),Zxn l=szS szL l
 | []=>by rw [Zxn,szS]
 | x::l=>by rw [Zxn,szS,XR l]
def ZiY (r:Ru):Nat:=1+szS szE r.args+szS szL r.body
def sz0 {α:Type} (_:α):Nat:=0
def Zkv (c:Ca):Nat:=1+szS sz0 c.fields
def Zkw (a:Ty):Nat:=1+szS sz0 a.fields+szS Zkv a.cases
def Zkx (a:Re):Nat:=1+szS sz0 a.fields
def Zoi (a:Ini):Nat:=1+szS sz0 a.types
mutual
def Zfe:Un->Nat
 | .mk a1 a2 a3 a4 a5 a6=>1+szS Zkw a1+szS Zkx a2+szS ZiY a3+Zoj a4+szS Zoi a5+szS sz0 a6
def ZgC:Co->Nat
 | .mk _ p _ t u _=>1+szS sz0 p+szS sz0 t+Zfe u
def Zoj:List Co->Nat
 | []=>0
 | x::l=>1+ZgC x+Zoj l
end
theorem Xa:∀(l:List Co),Zoj l=szS ZgC l
 | []=>by rw [Zoj,szS]
 | x::l=>by rw [Zoj,szS,Xa l]
def spB (sp:Nat->Zt) (n:Nat):Zt:=fun args σ K=>0<n/\sp (n - 1) args σ K
theorem Zky {sp:Nat->Zt} (h:∀n,Yb (sp n)) (n:Nat):Yb (spB sp n):=fun args σ K K' hK g=>⟨g.1,h _ _ _ _ _ hK g.2⟩
theorem ZK {g:FuncId} {sp:Nat->Zt} (h:VX (GG w0 nG).P g):PC w0 nG g (spB sp 0):=⟨h,fun args σ K hs=>absurd hs.1 oM⟩
theorem ZL {g:FuncId} {sp:Nat->Zt} {n:Nat} (h:PC w0 nG g (sp n)):PC w0 nG g (spB sp (n+1)):=h.weaken1 fun args σ K hs=>hs.2
mutual
def wE:Ex->Nat
 | .mk _ t _ args _=>1+t.length+wEs args
def wEs:List Ex->Nat
 | []=>0
 | x::l=>1+wE x+wEs l
end
theorem Vk:∀(l:List Ex),wEs l=szS wE l
 | []=>by rw [wEs,szS]
 | x::l=>by rw [wEs,szS,Vk l]
mutual
def wL:Li->Nat
 | .mk _ r a b _=>1+r.length+szS wE a+wLs b
def wLs:List Li->Nat
 | []=>0
 | x::l=>1+wL x+wLs l
end
theorem WS:∀(l:List Li),wLs l=szS wL l
 | []=>by rw [wLs,szS]
 | x::l=>by rw [wLs,szS,WS l]
def wRu (r:Ru):Nat:=1+r.head.length+szS wE r.args+szS wL r.body
def wFi (f:Fi):Nat:=1+f.name.length+f.typ.length
def wCa (c:Ca):Nat:=1+c.name.length+szS wFi c.fields
def wTy (t:Ty):Nat:=1+t.name.length+t.base.length+szS wFi t.fields+szS wCa t.cases
def wRe (d:Re):Nat:=1+d.name.length+szS wFi d.fields
def wBs (s:Bs):Nat:=1+s.length
def wIn (i:Ini):Nat:=1+i.name.length+i.comp.length+szS wBs i.types
def wOv (o:Ov):Nat:=1+o.rel.length
mutual
def wUn:Un->Nat
 | .mk a1 a2 a3 a4 a5 a6=>1+szS wTy a1+szS wRe a2+szS wRu a3+ZuD a4+szS wIn a5+szS wOv a6
def wCo:Co->Nat
 | .mk n p b t u _=>1+n.length+szS wBs p+b.length+szS wBs t+wUn u
def ZuD:List Co->Nat
 | []=>0
 | x::l=>1+wCo x+ZuD l
end
theorem XB:∀(l:List Co),ZuD l=szS wCo l
 | []=>by rw [ZuD,szS]
 | x::l=>by rw [ZuD,szS,XB l]
abbrev Xh {α:Type} (enc:Pl->α->List D):Pl->α->PV:=fun pl x=>.agg ((enc pl x).map .d)
abbrev Zh4:Pl->Bs->PV:=fun _ s=>.d (.str s)
noncomputable def XA {α:Type} (val:Pl->α->PV) (p:α->Bool) (w:α->Nat) (n:Nat):Zt:=fun args σ K=>match args,σ with
 | [v],⟨[],[],0⟩=>∃pl x,v=val pl x/\(w x<=n/\n<=1073741824)/\∀b,p x=b->K (.ret (.d (.bool b))) ⟨[],[],0⟩
 | _,_=>False
noncomputable def JE {α:Type} (h0:FuncId) (val:Pl->α->PV) (p:α->Bool) (w:α->Nat) (n:Nat):Zt:=fun args σ K=>match args,σ with
 | [v,.ptr 0 0],⟨[.cells t [.func h' [] []]],[],0⟩=>∃pl x,v=val pl x/\(h'=h0/\w x<=n/\n<=1073741824)/\∀b,(!p x)=b->K (.ret (.d (.bool b))) ⟨[.cells t [.func h' [] []]],[],0⟩
 | _,_=>False
noncomputable def JF {α:Type} (g0 h0:FuncId) (enc:Pl->α->List D) (p:α->Bool) (w:α->Nat) (n:Nat):Zt:=fun args σ K=>match args,σ with
 | [.d (.sl r),.func g' [] [.ptr 0 0]],⟨[.cells t [.func h' [] []]],[],0⟩=>∃pl l,r=l.map (enc pl)/\(g'=g0/\h'=h0/\szS w l<=n/\n<=1073741824)/\∀r:Int,(r<0↔l.all p=true)->K (.ret (.d (.int .i64 r))) ⟨[.cells t [.func h' [] []]],[],0⟩
 | _,_=>False
noncomputable def JG {α:Type} (g0 h0:FuncId) (enc:Pl->α->List D) (p:α->Bool) (w:α->Nat) (n:Nat):Zt:=fun args σ K=>match args,σ with
 | [.d (.sl r),.func g' [] [.ptr 0 0]],⟨[.cells t [.func h' [] []]],[],0⟩=>∃pl l,r=l.map (enc pl)/\(g'=g0/\h'=h0/\szS w l<=n/\n<=1073741824)/\∀b,(!l.all p)=b->K (.ret (.d (.bool b))) ⟨[.cells t [.func h' [] []]],[],0⟩
 | _,_=>False
noncomputable def Wg {α:Type} (h0:FuncId) (enc:Pl->α->List D) (p:α->Bool) (w:α->Nat) (n:Nat):Zt:=fun args σ K=>match args,σ with
 | [.d (.sl r),.func h' [] []],⟨[],[],0⟩=>∃pl l,r=l.map (enc pl)/\(h'=h0/\szS w l<=n/\n<=1073741824)/\∀b,l.all p=b->K (.ret (.d (.bool b))) ⟨[],[],0⟩
 | _,_=>False
theorem Z5 {α:Type} (p:α->Bool) {l:List α} {i:Nat} (h:i<l.length):(l.drop i).all p=(p l[i] && (l.drop (i+1)).all p):=by rw [TS h,List.all_cons]
theorem Vl {α:Type} (p:α->Bool) {l:List α} {i:Nat} (h:l.length<=i):(l.drop i).all p=true:=by rw [Tz h];rfl
noncomputable def ZsT (n:Nat):Tbl:=[(21,XA (Xh YE) ZV wE n)]
theorem Zxo {n:Nat} (ht:TO w0 nG (ZsT n)):PC w0 nG 129 (JE 21 (Xh YE) ZV wE n):=by
 refine Zd Zb mixed (tbl:=ZsT n) ht Tryz.func129 rfl kR kR ?_;exact m89
noncomputable def ZsU (n:Nat):Tbl:=[(129,JE 21 (Xh YE) ZV wE n)]
theorem Zxp {n:Nat} (ht:TO w0 nG (ZsU n)):PC w0 nG 186 (JF 129 21 YE ZV wE n):=by
 refine Zd Zb mixed (tbl:=ZsU n) ht Tryz.func186 rfl kR kR ?_;intro args σ K h
 unfold JF at h
 split at h
 ·obtain ⟨pl,l,rfl,⟨rfl,rfl,hz,hn⟩,h⟩:=h
  rename_i t
  have ab:(l.map (YE pl)).length=l.length:=Te ..;have hsz:=Zp wE l;refine ⟨Za [(2,⟨[8],[0,1,7],fun vs σ=>∃i:Nat,vs=[.d (.int .i64 i)]/\σ=⟨[.cells t [.func 21 [] []]],[],0⟩/\i<=l.length/\l.all ZV=(l.drop i).all ZV,mu1 l.length⟩)],1,false,sM,Ta rfl,wN ?_⟩;refine ⟨⟨0,rfl,rfl,oM,rfl⟩,?_⟩;intro vs σ hI
  obtain ⟨i,rfl,rfl,hi,hs⟩:=hI;(conv=>whnf);refine ZBC (fun aa=>wN ?_) (fun aa=>wN ?_)
  ·have aa:i<l.length:=lzI ab aa;have hg:=Zs wE l i aa;rw [Z5 _ aa] at hs;obtain ⟨eA,hA⟩:∃e,l[i]=e:=⟨_,rfl⟩
   obtain ⟨a1,a2,a3,a4,a5⟩:=eA;have ae:(l.map (YE pl))[((i:Nat):Int).toNat]?=some (YE pl (.mk a1 a2 a3 a4 a5)):=by simp [aa,hA]
   rw [hA] at hs hg;refine ⟨_,oM,ae,wN ?_⟩;refine ⟨pl,(.mk a1 a2 a3 a4 a5),rfl,⟨rfl,oM,oM⟩,fun b hb=>?_⟩
   cases b with
   | true =>
    have hp:ZV (.mk a1 a2 a3 a4 a5)=false:=by simpa using hb
    exact m52
   | false =>
   have hp:ZV (.mk a1 a2 a3 a4 a5)=true:=by simpa using hb
   exact m23
  exact m40
 exact h.elim
noncomputable def ZsV (n:Nat):Tbl:=[(186,JF 129 21 YE ZV wE n)]
theorem Zxq {n:Nat} (ht:TO w0 nG (ZsV n)):PC w0 nG 128 (JG 129 21 YE ZV wE n):=by
 refine Zd Zb mixed (tbl:=ZsV n) ht Tryz.func128 rfl kR kR ?_;intro args σ K h
 unfold JG at h
 split at h
 ·obtain ⟨pl,l,rfl,⟨rfl,rfl,hz,hn⟩,h⟩:=h;refine ⟨Za [],1,false,sM,Ta rfl,wN ?_⟩;refine ⟨pl,l,rfl,⟨rfl,rfl,hz,hn⟩,fun r hr=>wN ?_⟩;refine h _ ?_
  cases hb:l.all ZV with
  | true=>rw [hb] at hr;have:=hr.2 rfl;simp;omega
  | false=>rw [hb] at hr;have:¬r<0:=fun g=>(by have:=hr.1 g;cases this);simp;omega
 exact h.elim
noncomputable def ZsW (n:Nat):Tbl:=[(128,JG 129 21 YE ZV wE n)]
theorem Zxr {n:Nat} (ht:TO w0 nG (ZsW n)):PC w0 nG 65 (Wg 21 YE ZV wE n):=by
 refine Zd Zb mixed (tbl:=ZsW n) ht Tryz.func65 rfl kR kR ?_;exact m12
theorem ZyZ {n:Nat} (h:PC w0 nG 21 (XA (Xh YE) ZV wE n)):PC w0 nG 65 (Wg 21 YE ZV wE n) :=
 Zxr ⟨Zxq ⟨Zxp ⟨Zxo ⟨h,trivial⟩,trivial⟩,trivial⟩,trivial⟩
noncomputable def ZsX (n:Nat):Tbl:=[(95,XA (Xh XI) ZY wL n)]
theorem Zxs {n:Nat} (ht:TO w0 nG (ZsX n)):PC w0 nG 161 (JE 95 (Xh XI) ZY wL n):=by
 refine Zd Zb mixed (tbl:=ZsX n) ht Tryz.func161 rfl kR kR ?_;exact m89
noncomputable def ZsY (n:Nat):Tbl:=[(161,JE 95 (Xh XI) ZY wL n)]
theorem Zxt {n:Nat} (ht:TO w0 nG (ZsY n)):PC w0 nG 216 (JF 161 95 XI ZY wL n):=by
 refine Zd Zb mixed (tbl:=ZsY n) ht Tryz.func216 rfl kR kR ?_;intro args σ K h
 unfold JF at h
 split at h
 ·obtain ⟨pl,l,rfl,⟨rfl,rfl,hz,hn⟩,h⟩:=h
  rename_i t
  have ab:(l.map (XI pl)).length=l.length:=Te ..;have hsz:=Zp wL l;refine ⟨Za [(2,⟨[8],[0,1,7],fun vs σ=>∃i:Nat,vs=[.d (.int .i64 i)]/\σ=⟨[.cells t [.func 95 [] []]],[],0⟩/\i<=l.length/\l.all ZY=(l.drop i).all ZY,mu1 l.length⟩)],1,false,sM,Ta rfl,wN ?_⟩;refine ⟨⟨0,rfl,rfl,oM,rfl⟩,?_⟩;intro vs σ hI
  obtain ⟨i,rfl,rfl,hi,hs⟩:=hI;(conv=>whnf);refine ZBC (fun aa=>wN ?_) (fun aa=>wN ?_)
  ·have aa:i<l.length:=lzI ab aa;have hg:=Zs wL l i aa;rw [Z5 _ aa] at hs;obtain ⟨eA,hA⟩:∃e,l[i]=e:=⟨_,rfl⟩
   obtain ⟨a1,a2,a3,a4,a5⟩:=eA;have ae:(l.map (XI pl))[((i:Nat):Int).toNat]?=some (XI pl (.mk a1 a2 a3 a4 a5)):=by simp [aa,hA]
   rw [hA] at hs hg;refine ⟨_,oM,ae,wN ?_⟩;refine ⟨pl,(.mk a1 a2 a3 a4 a5),rfl,⟨rfl,oM,oM⟩,fun b hb=>?_⟩
   cases b with
   | true =>
    have hp:ZY (.mk a1 a2 a3 a4 a5)=false:=by simpa using hb
    exact m52
   | false =>
   have hp:ZY (.mk a1 a2 a3 a4 a5)=true:=by simpa using hb
   exact m23
  exact m40
 exact h.elim
noncomputable def ZsZ (n:Nat):Tbl:=[(216,JF 161 95 XI ZY wL n)]
theorem Zxu {n:Nat} (ht:TO w0 nG (ZsZ n)):PC w0 nG 160 (JG 161 95 XI ZY wL n):=by
 refine Zd Zb mixed (tbl:=ZsZ n) ht Tryz.func160 rfl kR kR ?_;intro args σ K h
 unfold JG at h
 split at h
 ·obtain ⟨pl,l,rfl,⟨rfl,rfl,hz,hn⟩,h⟩:=h;refine ⟨Za [],1,false,sM,Ta rfl,wN ?_⟩;refine ⟨pl,l,rfl,⟨rfl,rfl,hz,hn⟩,fun r hr=>wN ?_⟩;refine h _ ?_
  cases hb:l.all ZY with
  | true=>rw [hb] at hr;have:=hr.2 rfl;simp;omega
  | false=>rw [hb] at hr;have:¬r<0:=fun g=>(by have:=hr.1 g;cases this);simp;omega
 exact h.elim
noncomputable def Zs0 (n:Nat):Tbl:=[(160,JG 161 95 XI ZY wL n)]
theorem Zxv {n:Nat} (ht:TO w0 nG (Zs0 n)):PC w0 nG 94 (Wg 95 XI ZY wL n):=by
 refine Zd Zb mixed (tbl:=Zs0 n) ht Tryz.func94 rfl kR kR ?_;exact m12
theorem ZAD {n:Nat} (h:PC w0 nG 95 (XA (Xh XI) ZY wL n)):PC w0 nG 94 (Wg 95 XI ZY wL n) :=
 Zxv ⟨Zxu ⟨Zxt ⟨Zxs ⟨h,trivial⟩,trivial⟩,trivial⟩,trivial⟩
noncomputable def Zok (n:Nat):Tbl:=[(44,XA (Xh ZW) Y0 wRu n)]
theorem ZuE {n:Nat} (ht:TO w0 nG (Zok n)):PC w0 nG 93 (JE 44 (Xh ZW) Y0 wRu n):=by
 refine Zd Zb mixed (tbl:=Zok n) ht Tryz.func93 rfl kR kR ?_;exact m94
noncomputable def Zol (n:Nat):Tbl:=[(93,JE 44 (Xh ZW) Y0 wRu n)]
theorem ZuF {n:Nat} (ht:TO w0 nG (Zol n)):PC w0 nG 159 (JF 93 44 ZW Y0 wRu n):=by
 refine Zd Zb mixed (tbl:=Zol n) ht Tryz.func159 rfl kR kR ?_;intro args σ K h
 unfold JF at h
 split at h
 ·obtain ⟨pl,l,rfl,⟨rfl,rfl,hz,hn⟩,h⟩:=h
  rename_i t
  have ab:(l.map (ZW pl)).length=l.length:=Te ..;have hsz:=Zp wRu l;refine ⟨Za [(2,⟨[8],[0,1,7],fun vs σ=>∃i:Nat,vs=[.d (.int .i64 i)]/\σ=⟨[.cells t [.func 44 [] []]],[],0⟩/\i<=l.length/\l.all Y0=(l.drop i).all Y0,mu1 l.length⟩)],1,false,sM,Ta rfl,wN ?_⟩;refine ⟨⟨0,rfl,rfl,oM,rfl⟩,?_⟩;intro vs σ hI
  obtain ⟨i,rfl,rfl,hi,hs⟩:=hI;(conv=>whnf);refine ZBC (fun aa=>wN ?_) (fun aa=>wN ?_)
  ·have aa:i<l.length:=lzI ab aa;have hg:=Zs wRu l i aa;rw [Z5 _ aa] at hs;obtain ⟨eA,hA⟩:∃e,l[i]=e:=⟨_,rfl⟩
   obtain ⟨a1,a2,a3,a4⟩:=eA;have ae:(l.map (ZW pl))[((i:Nat):Int).toNat]?=some (ZW pl ⟨a1,a2,a3,a4⟩):=by simp [aa,hA]
   rw [hA] at hs hg;refine ⟨_,oM,ae,wN ?_⟩;refine ⟨pl,⟨a1,a2,a3,a4⟩,rfl,⟨rfl,oM,oM⟩,fun b hb=>?_⟩
   cases b with
   | true =>
    have hp:Y0 ⟨a1,a2,a3,a4⟩=false:=by simpa using hb
    exact m52
   | false =>
   have hp:Y0 ⟨a1,a2,a3,a4⟩=true:=by simpa using hb
   exact m23
  exact m40
 exact h.elim
noncomputable def Zom (n:Nat):Tbl:=[(159,JF 93 44 ZW Y0 wRu n)]
theorem ZuG {n:Nat} (ht:TO w0 nG (Zom n)):PC w0 nG 92 (JG 93 44 ZW Y0 wRu n):=by
 refine Zd Zb mixed (tbl:=Zom n) ht Tryz.func92 rfl kR kR ?_;intro args σ K h
 unfold JG at h
 split at h
 ·obtain ⟨pl,l,rfl,⟨rfl,rfl,hz,hn⟩,h⟩:=h;refine ⟨Za [],1,false,sM,Ta rfl,wN ?_⟩;refine ⟨pl,l,rfl,⟨rfl,rfl,hz,hn⟩,fun r hr=>wN ?_⟩;refine h _ ?_
  cases hb:l.all Y0 with
  | true=>rw [hb] at hr;have:=hr.2 rfl;simp;omega
  | false=>rw [hb] at hr;have:¬r<0:=fun g=>(by have:=hr.1 g;cases this);simp;omega
 exact h.elim
noncomputable def Zon (n:Nat):Tbl:=[(92,JG 93 44 ZW Y0 wRu n)]
theorem ZuH {n:Nat} (ht:TO w0 nG (Zon n)):PC w0 nG 43 (Wg 44 ZW Y0 wRu n):=by
 refine Zd Zb mixed (tbl:=Zon n) ht Tryz.func43 rfl kR kR ?_;exact m12
theorem Zxw {n:Nat} (h:PC w0 nG 44 (XA (Xh ZW) Y0 wRu n)):PC w0 nG 43 (Wg 44 ZW Y0 wRu n) :=
 ZuH ⟨ZuG ⟨ZuF ⟨ZuE ⟨h,trivial⟩,trivial⟩,trivial⟩,trivial⟩
noncomputable def Zoo (n:Nat):Tbl:=[(42,XA (Xh (fun _=>ZJ)) Yl wFi n)]
theorem ZuI {n:Nat} (ht:TO w0 nG (Zoo n)):PC w0 nG 91 (JE 42 (Xh (fun _=>ZJ)) Yl wFi n):=by
 refine Zd Zb mixed (tbl:=Zoo n) ht Tryz.func91 rfl kR kR ?_;exact m59
noncomputable def Zop (n:Nat):Tbl:=[(91,JE 42 (Xh (fun _=>ZJ)) Yl wFi n)]
theorem ZuJ {n:Nat} (ht:TO w0 nG (Zop n)):PC w0 nG 158 (JF 91 42 (fun _=>ZJ) Yl wFi n):=by
 refine Zd Zb mixed (tbl:=Zop n) ht Tryz.func158 rfl kR kR ?_;intro args σ K h
 unfold JF at h
 split at h
 ·obtain ⟨pl,l,rfl,⟨rfl,rfl,hz,hn⟩,h⟩:=h
  rename_i t
  have ab:(l.map ((fun _=>ZJ) pl)).length=l.length:=Te ..;have hsz:=Zp wFi l;refine ⟨Za [(2,⟨[8],[0,1,7],fun vs σ=>∃i:Nat,vs=[.d (.int .i64 i)]/\σ=⟨[.cells t [.func 42 [] []]],[],0⟩/\i<=l.length/\l.all Yl=(l.drop i).all Yl,mu1 l.length⟩)],1,false,sM,Ta rfl,wN ?_⟩;refine ⟨⟨0,rfl,rfl,oM,rfl⟩,?_⟩;intro vs σ hI
  obtain ⟨i,rfl,rfl,hi,hs⟩:=hI;(conv=>whnf);refine ZBC (fun aa=>wN ?_) (fun aa=>wN ?_)
  ·have aa:i<l.length:=lzI ab aa;have hg:=Zs wFi l i aa;rw [Z5 _ aa] at hs;obtain ⟨eA,hA⟩:∃e,l[i]=e:=⟨_,rfl⟩
   obtain ⟨a1,a2⟩:=eA;have ae:(l.map ((fun _=>ZJ) pl))[((i:Nat):Int).toNat]?=some ((fun _=>ZJ) pl ⟨a1,a2⟩):=by simp [aa,hA]
   rw [hA] at hs hg;refine ⟨_,oM,ae,wN ?_⟩;refine ⟨pl,⟨a1,a2⟩,rfl,⟨rfl,oM,oM⟩,fun b hb=>?_⟩
   cases b with
   | true =>
    have hp:Yl ⟨a1,a2⟩=false:=by simpa using hb
    exact m52
   | false =>
   have hp:Yl ⟨a1,a2⟩=true:=by simpa using hb
   exact m23
  exact m40
 exact h.elim
noncomputable def Zoq (n:Nat):Tbl:=[(158,JF 91 42 (fun _=>ZJ) Yl wFi n)]
theorem ZuK {n:Nat} (ht:TO w0 nG (Zoq n)):PC w0 nG 90 (JG 91 42 (fun _=>ZJ) Yl wFi n):=by
 refine Zd Zb mixed (tbl:=Zoq n) ht Tryz.func90 rfl kR kR ?_;intro args σ K h
 unfold JG at h
 split at h
 ·obtain ⟨pl,l,rfl,⟨rfl,rfl,hz,hn⟩,h⟩:=h;refine ⟨Za [],1,false,sM,Ta rfl,wN ?_⟩;refine ⟨pl,l,rfl,⟨rfl,rfl,hz,hn⟩,fun r hr=>wN ?_⟩;refine h _ ?_
  cases hb:l.all Yl with
  | true=>rw [hb] at hr;have:=hr.2 rfl;simp;omega
  | false=>rw [hb] at hr;have:¬r<0:=fun g=>(by have:=hr.1 g;cases this);simp;omega
 exact h.elim
noncomputable def Zor (n:Nat):Tbl:=[(90,JG 91 42 (fun _=>ZJ) Yl wFi n)]
theorem ZuL {n:Nat} (ht:TO w0 nG (Zor n)):PC w0 nG 41 (Wg 42 (fun _=>ZJ) Yl wFi n):=by
 refine Zd Zb mixed (tbl:=Zor n) ht Tryz.func41 rfl kR kR ?_;exact m12
theorem ZzI {n:Nat} (h:PC w0 nG 42 (XA (Xh (fun _=>ZJ)) Yl wFi n)):PC w0 nG 41 (Wg 42 (fun _=>ZJ) Yl wFi n) :=
 ZuL ⟨ZuK ⟨ZuJ ⟨ZuI ⟨h,trivial⟩,trivial⟩,trivial⟩,trivial⟩
noncomputable def Zos (n:Nat):Tbl:=[(85,XA (Xh (fun _=>ZZ)) YO wCa n)]
theorem ZuM {n:Nat} (ht:TO w0 nG (Zos n)):PC w0 nG 152 (JE 85 (Xh (fun _=>ZZ)) YO wCa n):=by
 refine Zd Zb mixed (tbl:=Zos n) ht Tryz.func152 rfl kR kR ?_;exact m59
noncomputable def Zot (n:Nat):Tbl:=[(152,JE 85 (Xh (fun _=>ZZ)) YO wCa n)]
theorem ZuN {n:Nat} (ht:TO w0 nG (Zot n)):PC w0 nG 212 (JF 152 85 (fun _=>ZZ) YO wCa n):=by
 refine Zd Zb mixed (tbl:=Zot n) ht Tryz.func212 rfl kR kR ?_;intro args σ K h
 unfold JF at h
 split at h
 ·obtain ⟨pl,l,rfl,⟨rfl,rfl,hz,hn⟩,h⟩:=h
  rename_i t
  have ab:(l.map ((fun _=>ZZ) pl)).length=l.length:=Te ..;have hsz:=Zp wCa l;refine ⟨Za [(2,⟨[8],[0,1,7],fun vs σ=>∃i:Nat,vs=[.d (.int .i64 i)]/\σ=⟨[.cells t [.func 85 [] []]],[],0⟩/\i<=l.length/\l.all YO=(l.drop i).all YO,mu1 l.length⟩)],1,false,sM,Ta rfl,wN ?_⟩;refine ⟨⟨0,rfl,rfl,oM,rfl⟩,?_⟩;intro vs σ hI
  obtain ⟨i,rfl,rfl,hi,hs⟩:=hI;(conv=>whnf);refine ZBC (fun aa=>wN ?_) (fun aa=>wN ?_)
  ·have aa:i<l.length:=lzI ab aa;have hg:=Zs wCa l i aa;rw [Z5 _ aa] at hs;obtain ⟨eA,hA⟩:∃e,l[i]=e:=⟨_,rfl⟩
   obtain ⟨a1,a2⟩:=eA;have ae:(l.map ((fun _=>ZZ) pl))[((i:Nat):Int).toNat]?=some ((fun _=>ZZ) pl ⟨a1,a2⟩):=by simp [aa,hA]
   rw [hA] at hs hg;refine ⟨_,oM,ae,wN ?_⟩;refine ⟨pl,⟨a1,a2⟩,rfl,⟨rfl,oM,oM⟩,fun b hb=>?_⟩
   cases b with
   | true =>
    have hp:YO ⟨a1,a2⟩=false:=by simpa using hb
    exact m52
   | false =>
   have hp:YO ⟨a1,a2⟩=true:=by simpa using hb
   exact m23
  exact m40
 exact h.elim
noncomputable def Zou (n:Nat):Tbl:=[(212,JF 152 85 (fun _=>ZZ) YO wCa n)]
theorem ZuO {n:Nat} (ht:TO w0 nG (Zou n)):PC w0 nG 151 (JG 152 85 (fun _=>ZZ) YO wCa n):=by
 refine Zd Zb mixed (tbl:=Zou n) ht Tryz.func151 rfl kR kR ?_;intro args σ K h
 unfold JG at h
 split at h
 ·obtain ⟨pl,l,rfl,⟨rfl,rfl,hz,hn⟩,h⟩:=h;refine ⟨Za [],1,false,sM,Ta rfl,wN ?_⟩;refine ⟨pl,l,rfl,⟨rfl,rfl,hz,hn⟩,fun r hr=>wN ?_⟩;refine h _ ?_
  cases hb:l.all YO with
  | true=>rw [hb] at hr;have:=hr.2 rfl;simp;omega
  | false=>rw [hb] at hr;have:¬r<0:=fun g=>(by have:=hr.1 g;cases this);simp;omega
 exact h.elim
noncomputable def Zov (n:Nat):Tbl:=[(151,JG 152 85 (fun _=>ZZ) YO wCa n)]
theorem ZuP {n:Nat} (ht:TO w0 nG (Zov n)):PC w0 nG 84 (Wg 85 (fun _=>ZZ) YO wCa n):=by
 refine Zd Zb mixed (tbl:=Zov n) ht Tryz.func84 rfl kR kR ?_;exact m12
theorem ZzJ {n:Nat} (h:PC w0 nG 85 (XA (Xh (fun _=>ZZ)) YO wCa n)):PC w0 nG 84 (Wg 85 (fun _=>ZZ) YO wCa n) :=
 ZuP ⟨ZuO ⟨ZuN ⟨ZuM ⟨h,trivial⟩,trivial⟩,trivial⟩,trivial⟩
noncomputable def Zow (n:Nat):Tbl:=[(37,XA (Xh Z1) Z6 wTy n)]
theorem ZuQ {n:Nat} (ht:TO w0 nG (Zow n)):PC w0 nG 83 (JE 37 (Xh Z1) Z6 wTy n):=by
 refine Zd Zb mixed (tbl:=Zow n) ht Tryz.func83 rfl kR kR ?_;exact m88
noncomputable def Zox (n:Nat):Tbl:=[(83,JE 37 (Xh Z1) Z6 wTy n)]
theorem ZuR {n:Nat} (ht:TO w0 nG (Zox n)):PC w0 nG 150 (JF 83 37 Z1 Z6 wTy n):=by
 refine Zd Zb mixed (tbl:=Zox n) ht Tryz.func150 rfl kR kR ?_;intro args σ K h
 unfold JF at h
 split at h
 ·obtain ⟨pl,l,rfl,⟨rfl,rfl,hz,hn⟩,h⟩:=h
  rename_i t
  have ab:(l.map (Z1 pl)).length=l.length:=Te ..;have hsz:=Zp wTy l;refine ⟨Za [(2,⟨[8],[0,1,7],fun vs σ=>∃i:Nat,vs=[.d (.int .i64 i)]/\σ=⟨[.cells t [.func 37 [] []]],[],0⟩/\i<=l.length/\l.all Z6=(l.drop i).all Z6,mu1 l.length⟩)],1,false,sM,Ta rfl,wN ?_⟩;refine ⟨⟨0,rfl,rfl,oM,rfl⟩,?_⟩;intro vs σ hI
  obtain ⟨i,rfl,rfl,hi,hs⟩:=hI;(conv=>whnf);refine ZBC (fun aa=>wN ?_) (fun aa=>wN ?_)
  ·have aa:i<l.length:=lzI ab aa;have hg:=Zs wTy l i aa;rw [Z5 _ aa] at hs;obtain ⟨eA,hA⟩:∃e,l[i]=e:=⟨_,rfl⟩
   obtain ⟨a1,a2,a3,a4,a5,a6⟩:=eA;have ae:(l.map (Z1 pl))[((i:Nat):Int).toNat]?=some (Z1 pl ⟨a1,a2,a3,a4,a5,a6⟩):=by simp [aa,hA]
   rw [hA] at hs hg;refine ⟨_,oM,ae,wN ?_⟩;refine ⟨pl,⟨a1,a2,a3,a4,a5,a6⟩,rfl,⟨rfl,oM,oM⟩,fun b hb=>?_⟩
   cases b with
   | true =>
    have hp:Z6 ⟨a1,a2,a3,a4,a5,a6⟩=false:=by simpa using hb
    exact m52
   | false =>
   have hp:Z6 ⟨a1,a2,a3,a4,a5,a6⟩=true:=by simpa using hb
   exact m23
  exact m40
 exact h.elim
noncomputable def Zoy (n:Nat):Tbl:=[(150,JF 83 37 Z1 Z6 wTy n)]
theorem ZuS {n:Nat} (ht:TO w0 nG (Zoy n)):PC w0 nG 82 (JG 83 37 Z1 Z6 wTy n):=by
 refine Zd Zb mixed (tbl:=Zoy n) ht Tryz.func82 rfl kR kR ?_;intro args σ K h
 unfold JG at h
 split at h
 ·obtain ⟨pl,l,rfl,⟨rfl,rfl,hz,hn⟩,h⟩:=h;refine ⟨Za [],1,false,sM,Ta rfl,wN ?_⟩;refine ⟨pl,l,rfl,⟨rfl,rfl,hz,hn⟩,fun r hr=>wN ?_⟩;refine h _ ?_
  cases hb:l.all Z6 with
  | true=>rw [hb] at hr;have:=hr.2 rfl;simp;omega
  | false=>rw [hb] at hr;have:¬r<0:=fun g=>(by have:=hr.1 g;cases this);simp;omega
 exact h.elim
noncomputable def Zoz (n:Nat):Tbl:=[(82,JG 83 37 Z1 Z6 wTy n)]
theorem ZuT {n:Nat} (ht:TO w0 nG (Zoz n)):PC w0 nG 36 (Wg 37 Z1 Z6 wTy n):=by
 refine Zd Zb mixed (tbl:=Zoz n) ht Tryz.func36 rfl kR kR ?_;exact m12
theorem Zxx {n:Nat} (h:PC w0 nG 37 (XA (Xh Z1) Z6 wTy n)):PC w0 nG 36 (Wg 37 Z1 Z6 wTy n) :=
 ZuT ⟨ZuS ⟨ZuR ⟨ZuQ ⟨h,trivial⟩,trivial⟩,trivial⟩,trivial⟩
noncomputable def ZoA (n:Nat):Tbl:=[(39,XA (Xh Z3) Xu wRe n)]
theorem ZuU {n:Nat} (ht:TO w0 nG (ZoA n)):PC w0 nG 87 (JE 39 (Xh Z3) Xu wRe n):=by
 refine Zd Zb mixed (tbl:=ZoA n) ht Tryz.func87 rfl kR kR ?_;exact m88
noncomputable def ZoB (n:Nat):Tbl:=[(87,JE 39 (Xh Z3) Xu wRe n)]
theorem ZuV {n:Nat} (ht:TO w0 nG (ZoB n)):PC w0 nG 153 (JF 87 39 Z3 Xu wRe n):=by
 refine Zd Zb mixed (tbl:=ZoB n) ht Tryz.func153 rfl kR kR ?_;intro args σ K h
 unfold JF at h
 split at h
 ·obtain ⟨pl,l,rfl,⟨rfl,rfl,hz,hn⟩,h⟩:=h
  rename_i t
  have ab:(l.map (Z3 pl)).length=l.length:=Te ..;have hsz:=Zp wRe l;refine ⟨Za [(2,⟨[8],[0,1,7],fun vs σ=>∃i:Nat,vs=[.d (.int .i64 i)]/\σ=⟨[.cells t [.func 39 [] []]],[],0⟩/\i<=l.length/\l.all Xu=(l.drop i).all Xu,mu1 l.length⟩)],1,false,sM,Ta rfl,wN ?_⟩;refine ⟨⟨0,rfl,rfl,oM,rfl⟩,?_⟩;intro vs σ hI
  obtain ⟨i,rfl,rfl,hi,hs⟩:=hI;(conv=>whnf);refine ZBC (fun aa=>wN ?_) (fun aa=>wN ?_)
  ·have aa:i<l.length:=lzI ab aa;have hg:=Zs wRe l i aa;rw [Z5 _ aa] at hs;obtain ⟨eA,hA⟩:∃e,l[i]=e:=⟨_,rfl⟩
   obtain ⟨a1,a2,a3,a4,a5,a6⟩:=eA;have ae:(l.map (Z3 pl))[((i:Nat):Int).toNat]?=some (Z3 pl ⟨a1,a2,a3,a4,a5,a6⟩):=by simp [aa,hA]
   rw [hA] at hs hg;refine ⟨_,oM,ae,wN ?_⟩;refine ⟨pl,⟨a1,a2,a3,a4,a5,a6⟩,rfl,⟨rfl,oM,oM⟩,fun b hb=>?_⟩
   cases b with
   | true =>
    have hp:Xu ⟨a1,a2,a3,a4,a5,a6⟩=false:=by simpa using hb
    exact m52
   | false =>
   have hp:Xu ⟨a1,a2,a3,a4,a5,a6⟩=true:=by simpa using hb
   exact m23
  exact m40
 exact h.elim
noncomputable def ZoC (n:Nat):Tbl:=[(153,JF 87 39 Z3 Xu wRe n)]
theorem ZuW {n:Nat} (ht:TO w0 nG (ZoC n)):PC w0 nG 86 (JG 87 39 Z3 Xu wRe n):=by
 refine Zd Zb mixed (tbl:=ZoC n) ht Tryz.func86 rfl kR kR ?_;intro args σ K h
 unfold JG at h
 split at h
 ·obtain ⟨pl,l,rfl,⟨rfl,rfl,hz,hn⟩,h⟩:=h;refine ⟨Za [],1,false,sM,Ta rfl,wN ?_⟩;refine ⟨pl,l,rfl,⟨rfl,rfl,hz,hn⟩,fun r hr=>wN ?_⟩;refine h _ ?_
  cases hb:l.all Xu with
  | true=>rw [hb] at hr;have:=hr.2 rfl;simp;omega
  | false=>rw [hb] at hr;have:¬r<0:=fun g=>(by have:=hr.1 g;cases this);simp;omega
 exact h.elim
noncomputable def ZoD (n:Nat):Tbl:=[(86,JG 87 39 Z3 Xu wRe n)]
theorem ZuX {n:Nat} (ht:TO w0 nG (ZoD n)):PC w0 nG 38 (Wg 39 Z3 Xu wRe n):=by
 refine Zd Zb mixed (tbl:=ZoD n) ht Tryz.func38 rfl kR kR ?_;exact m12
theorem Zxy {n:Nat} (h:PC w0 nG 39 (XA (Xh Z3) Xu wRe n)):PC w0 nG 38 (Wg 39 Z3 Xu wRe n) :=
 ZuX ⟨ZuW ⟨ZuV ⟨ZuU ⟨h,trivial⟩,trivial⟩,trivial⟩,trivial⟩
noncomputable def ZoE (n:Nat):Tbl:=[(46,XA (Xh YG) Yd wCo n)]
theorem ZuY {n:Nat} (ht:TO w0 nG (ZoE n)):PC w0 nG 97 (JE 46 (Xh YG) Yd wCo n):=by
 refine Zd Zb mixed (tbl:=ZoE n) ht Tryz.func97 rfl kR kR ?_;intro args σ K h
 unfold JE at h
 split at h
 ·obtain ⟨pl,⟨a1,a2,a3,a4,⟨u1,u2,u3,u4,u5,u6⟩,a6⟩,rfl,⟨rfl,hz,hn⟩,h⟩:=h;refine ⟨Za [],1,false,sM,Ta rfl,wN ?_⟩;refine ⟨pl,(.mk a1 a2 a3 a4 (.mk u1 u2 u3 u4 u5 u6) a6),rfl,⟨hz,hn⟩,fun b hb=>wN ?_⟩;exact h _ (by rw [hb])
 exact h.elim
noncomputable def ZoF (n:Nat):Tbl:=[(97,JE 46 (Xh YG) Yd wCo n)]
theorem ZuZ {n:Nat} (ht:TO w0 nG (ZoF n)):PC w0 nG 162 (JF 97 46 YG Yd wCo n):=by
 refine Zd Zb mixed (tbl:=ZoF n) ht Tryz.func162 rfl kR kR ?_;intro args σ K h
 unfold JF at h
 split at h
 ·obtain ⟨pl,l,rfl,⟨rfl,rfl,hz,hn⟩,h⟩:=h
  rename_i t
  have ab:(l.map (YG pl)).length=l.length:=Te ..;have hsz:=Zp wCo l;refine ⟨Za [(2,⟨[8],[0,1,7],fun vs σ=>∃i:Nat,vs=[.d (.int .i64 i)]/\σ=⟨[.cells t [.func 46 [] []]],[],0⟩/\i<=l.length/\l.all Yd=(l.drop i).all Yd,mu1 l.length⟩)],1,false,sM,Ta rfl,wN ?_⟩;refine ⟨⟨0,rfl,rfl,oM,rfl⟩,?_⟩;intro vs σ hI
  obtain ⟨i,rfl,rfl,hi,hs⟩:=hI;(conv=>whnf);refine ZBC (fun aa=>?_) (fun aa=>wN ?_)
  ·have aa:i<l.length:=lzI ab aa;have hg:=Zs wCo l i aa;rw [Z5 _ aa] at hs;obtain ⟨eA,hA⟩:∃e,l[i]=e:=⟨_,rfl⟩
   obtain ⟨a1,a2,a3,a4,⟨u1,u2,u3,u4,u5,u6⟩,a6⟩:=eA;have ae:(l.map (YG pl))[((i:Nat):Int).toNat]?=some (YG pl (.mk a1 a2 a3 a4 (.mk u1 u2 u3 u4 u5 u6) a6)):=by simp [aa,hA]
   rw [hA] at hs hg;(conv=>whnf);refine ⟨_,oM,ae,wN ?_⟩;refine ⟨pl,(.mk a1 a2 a3 a4 (.mk u1 u2 u3 u4 u5 u6) a6),rfl,⟨rfl,oM,oM⟩,fun b hb=>?_⟩
   cases b with
   | true =>
    have hp:Yd (.mk a1 a2 a3 a4 (.mk u1 u2 u3 u4 u5 u6) a6)=false:=by simpa using hb
    exact m52
   | false =>
   have hp:Yd (.mk a1 a2 a3 a4 (.mk u1 u2 u3 u4 u5 u6) a6)=true:=by simpa using hb
   exact m23
  exact m40
 exact h.elim
noncomputable def ZoG (n:Nat):Tbl:=[(162,JF 97 46 YG Yd wCo n)]
theorem Zu0 {n:Nat} (ht:TO w0 nG (ZoG n)):PC w0 nG 96 (JG 97 46 YG Yd wCo n):=by
 refine Zd Zb mixed (tbl:=ZoG n) ht Tryz.func96 rfl kR kR ?_;intro args σ K h
 unfold JG at h
 split at h
 ·obtain ⟨pl,l,rfl,⟨rfl,rfl,hz,hn⟩,h⟩:=h;refine ⟨Za [],1,false,sM,Ta rfl,wN ?_⟩;refine ⟨pl,l,rfl,⟨rfl,rfl,hz,hn⟩,fun r hr=>wN ?_⟩;refine h _ ?_
  cases hb:l.all Yd with
  | true=>rw [hb] at hr;have:=hr.2 rfl;simp;omega
  | false=>rw [hb] at hr;have:¬r<0:=fun g=>(by have:=hr.1 g;cases this);simp;omega
 exact h.elim
noncomputable def ZoH (n:Nat):Tbl:=[(96,JG 97 46 YG Yd wCo n)]
theorem Zu1 {n:Nat} (ht:TO w0 nG (ZoH n)):PC w0 nG 45 (Wg 46 YG Yd wCo n):=by
 refine Zd Zb mixed (tbl:=ZoH n) ht Tryz.func45 rfl kR kR ?_;exact m12
theorem ZzK {n:Nat} (h:PC w0 nG 46 (XA (Xh YG) Yd wCo n)):PC w0 nG 45 (Wg 46 YG Yd wCo n) :=
 Zu1 ⟨Zu0 ⟨ZuZ ⟨ZuY ⟨h,trivial⟩,trivial⟩,trivial⟩,trivial⟩
noncomputable def ZoI (n:Nat):Tbl:=[(49,XA (Xh Yi) Xv wIn n)]
theorem Zu2 {n:Nat} (ht:TO w0 nG (ZoI n)):PC w0 nG 101 (JE 49 (Xh Yi) Xv wIn n):=by
 refine Zd Zb mixed (tbl:=ZoI n) ht Tryz.func101 rfl kR kR ?_;exact m94
noncomputable def ZoJ (n:Nat):Tbl:=[(101,JE 49 (Xh Yi) Xv wIn n)]
theorem Zu3 {n:Nat} (ht:TO w0 nG (ZoJ n)):PC w0 nG 164 (JF 101 49 Yi Xv wIn n):=by
 refine Zd Zb mixed (tbl:=ZoJ n) ht Tryz.func164 rfl kR kR ?_;intro args σ K h
 unfold JF at h
 split at h
 ·obtain ⟨pl,l,rfl,⟨rfl,rfl,hz,hn⟩,h⟩:=h
  rename_i t
  have ab:(l.map (Yi pl)).length=l.length:=Te ..;have hsz:=Zp wIn l;refine ⟨Za [(2,⟨[8],[0,1,7],fun vs σ=>∃i:Nat,vs=[.d (.int .i64 i)]/\σ=⟨[.cells t [.func 49 [] []]],[],0⟩/\i<=l.length/\l.all Xv=(l.drop i).all Xv,mu1 l.length⟩)],1,false,sM,Ta rfl,wN ?_⟩;refine ⟨⟨0,rfl,rfl,oM,rfl⟩,?_⟩;intro vs σ hI
  obtain ⟨i,rfl,rfl,hi,hs⟩:=hI;(conv=>whnf);refine ZBC (fun aa=>wN ?_) (fun aa=>wN ?_)
  ·have aa:i<l.length:=lzI ab aa;have hg:=Zs wIn l i aa;rw [Z5 _ aa] at hs;obtain ⟨eA,hA⟩:∃e,l[i]=e:=⟨_,rfl⟩
   obtain ⟨a1,a2,a3,a4⟩:=eA;have ae:(l.map (Yi pl))[((i:Nat):Int).toNat]?=some (Yi pl ⟨a1,a2,a3,a4⟩):=by simp [aa,hA]
   rw [hA] at hs hg;refine ⟨_,oM,ae,wN ?_⟩;refine ⟨pl,⟨a1,a2,a3,a4⟩,rfl,⟨rfl,oM,oM⟩,fun b hb=>?_⟩
   cases b with
   | true =>
    have hp:Xv ⟨a1,a2,a3,a4⟩=false:=by simpa using hb
    exact m52
   | false =>
   have hp:Xv ⟨a1,a2,a3,a4⟩=true:=by simpa using hb
   exact m23
  exact m40
 exact h.elim
noncomputable def ZoK (n:Nat):Tbl:=[(164,JF 101 49 Yi Xv wIn n)]
theorem Zu4 {n:Nat} (ht:TO w0 nG (ZoK n)):PC w0 nG 100 (JG 101 49 Yi Xv wIn n):=by
 refine Zd Zb mixed (tbl:=ZoK n) ht Tryz.func100 rfl kR kR ?_;intro args σ K h
 unfold JG at h
 split at h
 ·obtain ⟨pl,l,rfl,⟨rfl,rfl,hz,hn⟩,h⟩:=h;refine ⟨Za [],1,false,sM,Ta rfl,wN ?_⟩;refine ⟨pl,l,rfl,⟨rfl,rfl,hz,hn⟩,fun r hr=>wN ?_⟩;refine h _ ?_
  cases hb:l.all Xv with
  | true=>rw [hb] at hr;have:=hr.2 rfl;simp;omega
  | false=>rw [hb] at hr;have:¬r<0:=fun g=>(by have:=hr.1 g;cases this);simp;omega
 exact h.elim
noncomputable def ZoL (n:Nat):Tbl:=[(100,JG 101 49 Yi Xv wIn n)]
theorem Zu5 {n:Nat} (ht:TO w0 nG (ZoL n)):PC w0 nG 48 (Wg 49 Yi Xv wIn n):=by
 refine Zd Zb mixed (tbl:=ZoL n) ht Tryz.func48 rfl kR kR ?_;exact m12
theorem Zxz {n:Nat} (h:PC w0 nG 49 (XA (Xh Yi) Xv wIn n)):PC w0 nG 48 (Wg 49 Yi Xv wIn n) :=
 Zu5 ⟨Zu4 ⟨Zu3 ⟨Zu2 ⟨h,trivial⟩,trivial⟩,trivial⟩,trivial⟩
noncomputable def ZoM (n:Nat):Tbl:=[(51,XA (Xh Ye) X7 wOv n)]
theorem Zu6 {n:Nat} (ht:TO w0 nG (ZoM n)):PC w0 nG 103 (JE 51 (Xh Ye) X7 wOv n):=by
 refine Zd Zb mixed (tbl:=ZoM n) ht Tryz.func103 rfl kR kR ?_;exact m59
noncomputable def ZoN (n:Nat):Tbl:=[(103,JE 51 (Xh Ye) X7 wOv n)]
theorem Zu7 {n:Nat} (ht:TO w0 nG (ZoN n)):PC w0 nG 165 (JF 103 51 Ye X7 wOv n):=by
 refine Zd Zb mixed (tbl:=ZoN n) ht Tryz.func165 rfl kR kR ?_;intro args σ K h
 unfold JF at h
 split at h
 ·obtain ⟨pl,l,rfl,⟨rfl,rfl,hz,hn⟩,h⟩:=h
  rename_i t
  have ab:(l.map (Ye pl)).length=l.length:=Te ..;have hsz:=Zp wOv l;refine ⟨Za [(2,⟨[8],[0,1,7],fun vs σ=>∃i:Nat,vs=[.d (.int .i64 i)]/\σ=⟨[.cells t [.func 51 [] []]],[],0⟩/\i<=l.length/\l.all X7=(l.drop i).all X7,mu1 l.length⟩)],1,false,sM,Ta rfl,wN ?_⟩;refine ⟨⟨0,rfl,rfl,oM,rfl⟩,?_⟩;intro vs σ hI
  obtain ⟨i,rfl,rfl,hi,hs⟩:=hI;(conv=>whnf);refine ZBC (fun aa=>wN ?_) (fun aa=>wN ?_)
  ·have aa:i<l.length:=lzI ab aa;have hg:=Zs wOv l i aa;rw [Z5 _ aa] at hs;obtain ⟨eA,hA⟩:∃e,l[i]=e:=⟨_,rfl⟩
   obtain ⟨a1,a2⟩:=eA;have ae:(l.map (Ye pl))[((i:Nat):Int).toNat]?=some (Ye pl ⟨a1,a2⟩):=by simp [aa,hA]
   rw [hA] at hs hg;refine ⟨_,oM,ae,wN ?_⟩;refine ⟨pl,⟨a1,a2⟩,rfl,⟨rfl,oM,oM⟩,fun b hb=>?_⟩
   cases b with
   | true =>
    have hp:X7 ⟨a1,a2⟩=false:=by simpa using hb
    exact m52
   | false =>
   have hp:X7 ⟨a1,a2⟩=true:=by simpa using hb
   exact m23
  exact m40
 exact h.elim
noncomputable def ZoO (n:Nat):Tbl:=[(165,JF 103 51 Ye X7 wOv n)]
theorem Zu8 {n:Nat} (ht:TO w0 nG (ZoO n)):PC w0 nG 102 (JG 103 51 Ye X7 wOv n):=by
 refine Zd Zb mixed (tbl:=ZoO n) ht Tryz.func102 rfl kR kR ?_;intro args σ K h
 unfold JG at h
 split at h
 ·obtain ⟨pl,l,rfl,⟨rfl,rfl,hz,hn⟩,h⟩:=h;refine ⟨Za [],1,false,sM,Ta rfl,wN ?_⟩;refine ⟨pl,l,rfl,⟨rfl,rfl,hz,hn⟩,fun r hr=>wN ?_⟩;refine h _ ?_
  cases hb:l.all X7 with
  | true=>rw [hb] at hr;have:=hr.2 rfl;simp;omega
  | false=>rw [hb] at hr;have:¬r<0:=fun g=>(by have:=hr.1 g;cases this);simp;omega
 exact h.elim
noncomputable def ZoP (n:Nat):Tbl:=[(102,JG 103 51 Ye X7 wOv n)]
theorem Zu9 {n:Nat} (ht:TO w0 nG (ZoP n)):PC w0 nG 50 (Wg 51 Ye X7 wOv n):=by
 refine Zd Zb mixed (tbl:=ZoP n) ht Tryz.func50 rfl kR kR ?_;exact m12
theorem ZxA {n:Nat} (h:PC w0 nG 51 (XA (Xh Ye) X7 wOv n)):PC w0 nG 50 (Wg 51 Ye X7 wOv n) :=
 Zu9 ⟨Zu8 ⟨Zu7 ⟨Zu6 ⟨h,trivial⟩,trivial⟩,trivial⟩,trivial⟩
noncomputable def ZoQ (n:Nat):Tbl:=[(40,XA Zh4 YL wBs n)]
theorem Zva {n:Nat} (ht:TO w0 nG (ZoQ n)):PC w0 nG 99 (JE 40 Zh4 YL wBs n):=by
 refine Zd Zb mixed (tbl:=ZoQ n) ht Tryz.func99 rfl kR kR ?_;intro args σ K h
 unfold JE at h
 split at h
 ·obtain ⟨pl,x,rfl,⟨rfl,hz,hn⟩,h⟩:=h;refine ⟨Za [],1,false,sM,Ta rfl,wN ?_⟩;refine ⟨pl,x,rfl,⟨hz,hn⟩,fun b hb=>wN ?_⟩;exact h _ (by rw [hb])
 exact h.elim
noncomputable def ZoR (n:Nat):Tbl:=[(99,JE 40 Zh4 YL wBs n)]
theorem Zvb {n:Nat} (ht:TO w0 nG (ZoR n)):PC w0 nG 163 (JF 99 40 (fun _=>ZB) YL wBs n):=by
 refine Zd Zb mixed (tbl:=ZoR n) ht Tryz.func163 rfl kR kR ?_;intro args σ K h
 unfold JF at h
 split at h
 ·obtain ⟨pl,l,rfl,⟨rfl,rfl,hz,hn⟩,h⟩:=h
  rename_i t
  have ab:(l.map ((fun _=>ZB) pl)).length=l.length:=Te ..;have hsz:=Zp wBs l;refine ⟨Za [(2,⟨[8],[0,1,7],fun vs σ=>∃i:Nat,vs=[.d (.int .i64 i)]/\σ=⟨[.cells t [.func 40 [] []]],[],0⟩/\i<=l.length/\l.all YL=(l.drop i).all YL,mu1 l.length⟩)],1,false,sM,Ta rfl,wN ?_⟩;refine ⟨⟨0,rfl,rfl,oM,rfl⟩,?_⟩;intro vs σ hI
  obtain ⟨i,rfl,rfl,hi,hs⟩:=hI;(conv=>whnf);refine ZBC (fun aa=>wN ?_) (fun aa=>wN ?_)
  ·have aa:i<l.length:=lzI ab aa;have hg:=Zs wBs l i aa;rw [Z5 _ aa] at hs;obtain ⟨eA,hA⟩:∃e,l[i]=e:=⟨_,rfl⟩
   have ae:(l.map ((fun _=>ZB) pl))[((i:Nat):Int).toNat]?=some ((fun _=>ZB) pl eA):=by simp [aa,hA]
   rw [hA] at hs hg;refine ⟨_,oM,ae,wN ?_⟩;refine ⟨pl,eA,rfl,⟨rfl,oM,oM⟩,fun b hb=>?_⟩
   cases b with
   | true =>
    have hp:YL eA=false:=by simpa using hb
    exact m52
   | false =>
   have hp:YL eA=true:=by simpa using hb
   exact m23
  exact m40
 exact h.elim
noncomputable def ZoS (n:Nat):Tbl:=[(163,JF 99 40 (fun _=>ZB) YL wBs n)]
theorem Zvc {n:Nat} (ht:TO w0 nG (ZoS n)):PC w0 nG 98 (JG 99 40 (fun _=>ZB) YL wBs n):=by
 refine Zd Zb mixed (tbl:=ZoS n) ht Tryz.func98 rfl kR kR ?_;intro args σ K h
 unfold JG at h
 split at h
 ·obtain ⟨pl,l,rfl,⟨rfl,rfl,hz,hn⟩,h⟩:=h;refine ⟨Za [],1,false,sM,Ta rfl,wN ?_⟩;refine ⟨pl,l,rfl,⟨rfl,rfl,hz,hn⟩,fun r hr=>wN ?_⟩;refine h _ ?_
  cases hb:l.all YL with
  | true=>rw [hb] at hr;have:=hr.2 rfl;simp;omega
  | false=>rw [hb] at hr;have:¬r<0:=fun g=>(by have:=hr.1 g;cases this);simp;omega
 exact h.elim
noncomputable def ZoT (n:Nat):Tbl:=[(98,JG 99 40 (fun _=>ZB) YL wBs n)]
theorem Zvd {n:Nat} (ht:TO w0 nG (ZoT n)):PC w0 nG 47 (Wg 40 (fun _=>ZB) YL wBs n):=by
 refine Zd Zb mixed (tbl:=ZoT n) ht Tryz.func47 rfl kR kR ?_;exact m12
theorem ZzL {n:Nat} (h:PC w0 nG 40 (XA Zh4 YL wBs n)):PC w0 nG 47 (Wg 40 (fun _=>ZB) YL wBs n) :=
 Zvd ⟨Zvc ⟨Zvb ⟨Zva ⟨h,trivial⟩,trivial⟩,trivial⟩,trivial⟩
theorem ZdV:∀(f:Nat) (r out q:Bs),WM f r out=some q->q.length<=out.length+4 * r.length
 | 0,r,out,q,h=>by simp [WM] at h
 | f+1,r,out,q,h=>by
  unfold WM at h
  split at h
  ·cases h;omega
  rename_i hr
  have hd:=Lib.decodeL_le r hr;have hg:=Zaf r;split at h
  ·have:=ZdV f _ _ _ h;simp only [Tb,Td,Tf,Tp] at this;omega
  split at h
  ·cases h
  have:=ZdV f _ _ _ h;have h4:=Zzo (Lib.decodeL r).1;simp only [Tb,Tp] at this;omega
theorem Zrg (s:Bs):(ZqZ s).length<=4 * s.length+2:=by
 unfold ZqZ WC
 split
 ·cases hq:WM (s.length+1) s [34] with
  | none=>simp
  | some q =>
  have:=ZdV _ _ _ _ hq;simp only [Sw,Option.getD_some,Tb,Td,Tf] at this |-;omega
 simp
theorem Zkz {n:Int} (h0:-9223372036854775808<=n) (h1:n<9223372036854775808):(Zdt n).length<=20:=by
 unfold Zdt
 split
 ·have h:=(ZbG (base:=16) (.inr rfl) ((n+18446744073709551616).toNat+1) (n+18446744073709551616).toNat oM).2.2.2 15 (by
   have:(16:Nat) ^ (15+1)=18446744073709551616:=dM;omega)
  simp only [Tb,Td,Tf,XY];omega
 have h:=(ZbG (base:=10) (.inl rfl) (n.toNat+1) n.toNat oM).2.2.2 18 (by
  have:(10:Nat) ^ (18+1)=10000000000000000000:=dM;omega)
 rw [XY];omega
theorem Xb (op:Nat):(Yc op).length<=6:=by
 by_cases h:op<26
 ·have hk:∀o:Fin 26,(Yc o.val).length<=6:=by decide
  exact hk ⟨op,h⟩
 unfold Yc
 (repeat rw [Tc oM])
 decide
def Zs1 (l:List (Nat×Bs)):Nat:=(l.map fun p=>p.2.length+4).sum
theorem Uc (l:List Bs):(Zh cmm l).length<=(l.map fun s=>s.length+4).sum:=by
 match l with
 | []=>exact T7 _
 | [x]=>simp [Zh]
 | x::y::l =>
  have ih:=Uc (y::l);rw [Zh]
  ·simp only [Tb,TN,List.sum_cons] at ih |-;have:cmm.length=2:=rfl;omega
  intro h;cases h
theorem Zf2 (w:Nat) (p:Nat×Bs):(Zmp w p).length<=p.2.length+2:=by
 unfold Zmp;split
 ·exact m113
 omega
theorem ZoU (w1 w2:Nat) (sep:Bs) (l:List (Nat×Bs)):(exA w1 w2 sep l).length<=Zs1 l+sep.length:=by
 match l with
 | []=>simp [exA]
 | [a]=>have:=Zf2 w1 a;simp only [exA,Zs1,TN,TQ,List.sum_cons,List.sum_nil];omega
 | a::b::l =>
  have h1:=Zf2 w1 a;have h2:=Zf2 w2 b;simp only [exA,Zs1,TN,List.sum_cons,Tb];omega
theorem ZoV (op:Nat) (t:Bs) (n:Int) (l:List (Nat×Bs)) (h0:-9223372036854775808<=n) (h1:n<9223372036854775808):(exN op t n l).length<=Zs1 l+5 * t.length+30:=by
 have hw:=Xb op;have hn:=Zkz h0 h1;have hq:=Zrg t;have hc:(Zh cmm (l.map Prod.snd)).length<=Zs1 l:=by
  have:=Uc (l.map Prod.snd);rw [List.map_map] at this;exact this
 unfold exN
 split
 ·have:=ZoU (ZI op) (ZI op+1) ([32]++(Yc op++[32])) l;simp only [Tb,Td,Tf] at this;omega
 split
 ·have:=ZoU 5 5 [] l;simp only [Tb,Tf] at this |-;omega
 split
 ·exact m113
 split
 ·exact m113
 split
 ·simp only [Tb,Td,Tf];split
  ·simp only [Tf];omega
  exact m113
 split
 ·omega
 split
 ·omega
 split
 ·simp only [Td,Tf];omega
 split
 ·simp only [Td,Tf];omega
 omega
mutual
theorem Yh:∀e:Ex,JV e=true->(exT e).length+4<=64 * wE e
 | .mk op t n l a,h=>by
  obtain ⟨r1,r2⟩:=ZbH h;have ih:=ZbS l (by rw [VC];exact Tm.2 r2);have:=ZoV op t n (Zej l) r1.1 r1.2;rw [exT,wE];omega
theorem ZbS:∀l:List Ex,ZiJ l=true->Zs1 (Zej l)<=64 * wEs l
 | [],h=>by rw [Zej];simp [Zs1]
 | x::l,h=>by
  rw [ZiJ,Tk] at h;have h1:=Yh x h.1;have h2:=ZbS l h.2;rw [Zej,wEs];unfold Zs1 at h2 |-
  simp only [TN,List.sum_cons];omega
end
theorem ZoW {α:Type} {T:α->Bs} {w:α->Nat}:∀l:List α,(∀x∈l,(T x).length+4<=64 * w x)->(l.map fun x=>(T x).length+4).sum<=64 * szS w l
 | [],h=>T7 _
 | x::l,h=>by
  have h1:=h x sM;have h2:=ZoW l fun y hy=>h y (Tx _ hy)
  simp only [TN,List.sum_cons,szS];omega
theorem ZC {α:Type} {T:α->Bs} {w:α->Nat} {l:List α} (h:∀x∈l,(T x).length+4<=64 * w x):(Zh cmm (l.map T)).length<=64 * szS w l:=by
 have h1:=Uc (l.map T);rw [List.map_map] at h1;exact TW h1 (ZoW l h)
theorem Vm {α:Type} {T:α->Bs} {w:α->Nat}:∀{l:List α},(∀x∈l,(T x).length+4<=64 * w x)->((l.map T).flatten).length<=64 * szS w l
 | [],h=>T7 _
 | x::l,h=>by
  have h1:=h x sM;have h2:=Vm (l:=l) fun y hy=>h y (Tx _ hy)
  simp only [TN,List.flatten_cons,Tb,szS];omega
theorem ZiZ:∀{l:List Ex},(∀x∈l,JV x=true)->(Zhn l).length+(Znv l.tail).length<=64 * szS wE l/\(Zhn l).length+(Zhn l.tail).length<=64 * szS wE l
 | [],h=>by simp [Zhn,Znv]
 | x::l,h=>by
  have h1:=Yh x (h x sM);have h2:=Vm (T:=fun e=>[32]++exT e) (w:=fun e=>wE e) (l:=l) fun y hy=>by
   have:=Yh y (h y (Tx _ hy))
   cases y with
   | mk o t n a b =>
   have hw:1<=wE (.mk o t n a b):=by rw [wE];omega
   have h3:=ZoV o t n (Zej a) (ZbH (h _ (Tx _ hy))).1.1 (ZbH (h _ (Tx _ hy))).1.2;have h4:=ZbS a (by rw [VC];exact Tm.2 (ZbH (h _ (Tx _ hy))).2);simp only [Tb,Td,Tf];rw [exT,wE];omega
  refine ⟨?_,?_⟩
  ·show (exT x).length+(Znv l).length<=64 * szS wE (x::l);rw [szS];unfold Znv
   have:szS (fun e=>wE e) l=szS wE l:=rfl;omega
  show (exT x).length+(Zhn l).length<=64 * szS wE (x::l)
  cases l with
  | nil=>rw [szS,szS];simp [Zhn];omega
  | cons y l =>
  have h5:=Yh y (h y sM);rw [szS,szS];simp only [Zhn];omega
theorem Zve (op:Nat):(Znu op).length<=4:=by unfold Znu;(repeat' split) <;> decide
theorem Zvf (op:Nat):(Zhm op).length<=5:=by unfold Zhm;(repeat' split) <;> decide
theorem ZhI {fr fin:Bs} {l:List Ex} (h:∀x∈l,JV x=true):(WG fr fin l).length<=fr.length+64 * szS wE l+fin.length:=by
 have:=ZC (T:=exT) (w:=wE) fun x hx=>Yh x (h x hx)
 unfold WG Zhl
 simp only [Tb];omega
mutual
theorem ZbT:∀x:Li,Zh2 x=true->(liT x).length+4<=64 * wL x
 | .mk op rel args body a,h=>by
  obtain ⟨r1,r2⟩:=ZiK h;have h1:=Zf3 body (by rw [UB];exact Tm.2 r2);have h2:=ZhI (fr:=[40]) (fin:=[41]) r1;obtain ⟨h3,h4⟩:=ZiZ r1;have h5:=Zve op;have h6:=Zvf op;have h7:=Uc (Zqm body);rw [liT,wL];simp only [Td,Tf] at h2;split
  ·exact m113
  split
  ·simp only [Tb];omega
  split
  ·simp only [Tb];omega
  exact m113
theorem Zf3:∀l:List Li,ZlI l=true->((Zqm l).map fun s=>s.length+4).sum<=64 * wLs l
 | [],h=>by rw [Zqm];simp
 | x::l,h=>by
  rw [ZlI,Tk] at h;have h1:=ZbT x h.1;have h2:=Zf3 l h.2;rw [Zqm,wLs];simp only [TN,List.sum_cons];omega
end
theorem ZoX {r:Ru} (h:Zdx r=true):(ruT r).length+10<=64 * wRu r:=by
 simp only [Zdx,Tk] at h;have r1:=Tm.1 h.1;have r2:=Tm.1 h.2;have h1:=ZhI (fr:=[40]) (fin:=[41]) r1;have h2:=Zf3 r.body (by rw [UB];exact h.2);have h3:=Uc (Zqm r.body);rw [WS] at h2;unfold ruT wRu
 simp only [Td,Tf] at h1;split
 ·exact m113
 exact m113
theorem ZoY (f:Fi):(fiT f).length+4<=64 * wFi f:=by
 unfold fiT wFi;simp only [Tb,Td,Tf];omega
theorem Zi0 (fr fin:Bs) (l:List Fi):(VB fr l fin).length<=fr.length+64 * szS wFi l+fin.length:=by
 have:=ZC (T:=fiT) (w:=wFi) (l:=l) fun x _=>ZoY x
 unfold VB
 simp only [Tb];omega
theorem Zvg (c:Ca):(caT c).length+4<=64 * wCa c:=by
 have:=Zi0 (c.name++[32,123]) [125] c.fields;unfold caT wCa
 simp only [Tb,Td,Tf] at this |-;omega
theorem Zff (l:List Bs):(Zh [32,124,32] l).length<=(l.map fun s=>s.length+4).sum:=by
 match l with
 | []=>exact T7 _
 | [x]=>simp [Zh]
 | x::y::l =>
  have ih:=Zff (y::l);rw [Zh]
  ·simp only [Tb,TN,List.sum_cons,Td,Tf] at ih |-;omega
  intro h;cases h
theorem ZoZ (t:Ty):(tyT t).length+4<=64 * wTy t:=by
 have h1:=Zi0 [32,61,32,91] [93] t.fields;have h2:=Zff (t.cases.map caT);rw [List.map_map] at h2;have h3:=ZoW (T:=caT) (w:=wCa) t.cases fun x _=>Zvg x
 have h4:(t.cases.map fun x=>(caT x).length+4).sum=(t.cases.map ((fun s:Bs=>s.length+4)∘caT)).sum:=rfl;rw [h4] at h3;unfold tyT wTy
 simp only [Td,Tf] at h1;simp only [Tb,Td,Tf];split
 ·exact m113
 split
 ·omega
 exact m113
theorem Zvh (d:Re):(reT d).length+4<=64 * wRe d:=by
 have h1:=Zi0 ([100,101,99,108,32]++(d.name++[40])) [41] d.fields;have hi:∀(b:Bool) (s:Bs),(if b then s else []).length<=s.length:=fun b s=>by cases b <;> simp
 have i1:=hi d.inn [32,105,110,112,117,116];have i2:=hi d.out [32,111,117,116,112,117,116];have i3:=hi d.inl [32,105,110,108,105,110,101];unfold reT wRe
 simp only [Tb,Td,Tf] at h1 i1 i2 i3 |-;omega
theorem Zap (l:List Bs):(UN l).length<=2+64 * szS wBs l:=by
 have h1:=ZC (T:=fun s:Bs=>s) (w:=wBs) (l:=l) fun x _=>by unfold wBs;omega
 rw [List.map_id'] at h1;unfold UN
 split
 ·simp
 exact m113
theorem Zvi (i:Ini):(inT i).length+4<=64 * wIn i:=by
 have:=Zap i.types;unfold inT wIn
 exact m113
theorem Zvj (o:Ov):(ovT o).length+4<=64 * wOv o:=by
 unfold ovT wOv
 exact m113
mutual
theorem ZdW:∀u:Un,ZiL u=true->(unT u).length+4<=64 * wUn u
 | .mk a b c d e f,h=>by
  simp only [ZiL,Tk] at h;have r1:=Tm.1 h.1;have h1:=Vm (T:=tyT) (w:=wTy) (l:=a) fun x _=>ZoZ x
  have h2:=Vm (T:=reT) (w:=wRe) (l:=b) fun x _=>Zvh x
  have h3:=Vm (T:=fun r=>ruT r++[10]) (w:=wRu) (l:=c) fun x hx=>by
   have:=ZoX (r1 x hx);exact m113
  have h4:=ZkA d h.2;have h5:=Vm (T:=inT) (w:=wIn) (l:=e) fun x _=>Zvi x
  have h6:=Vm (T:=ovT) (w:=wOv) (l:=f) fun x _=>Zvj x
  rw [unT,wUn];simp only [Tb];omega
theorem Zvk:∀c:Co,Zdy c=true->(coT c).length+4<=64 * wCo c+64
 | .mk nm ps base tys u a,h=>by
  rw [Zdy] at h;have h1:=ZdW u h;have h2:=Zap ps;have h3:=Zap tys;rw [coT,wCo];split
  ·exact m113
  exact m113
theorem ZkA:∀l:List Co,Ze5 l=true->((Zt9 l).flatten).length<=64 * ZuD l
 | [],h=>by rw [Zt9];simp
 | x::l,h=>by
  rw [Ze5,Tk] at h;have h1:=Zvk x h.1;have h2:=ZkA l h.2;rw [Zt9,ZuD];simp only [List.flatten_cons,Tb];omega
end
noncomputable def ZwC:Zt:=fun args σ K=>match args,σ with
 | [.d (.int .u8 op)],⟨[],[],0⟩=>∃o:Nat,op=o/\∀l w a,(ZI o:Int)=l->Yc o=w->Yq o=a->K (.ret (.agg [.d (.int .i64 l),.d (.str w),.d (.int .i64 a)])) ⟨[],[],0⟩
 | _,_=>False
theorem Zo0:Yb ZwC:=fun args σ K K' hK h=>by
 unfold ZwC at h |-
 split at h
 ·obtain ⟨o,h1,h2⟩:=h;exact ⟨o,h1,fun l w a e1 e2 e3=>hK _ _ (h2 l w a e1 e2 e3)⟩
 exact h.elim
theorem Zrh:PC w0 nG 63 ZwC:=by
 refine Zd Zb mixed (tbl:=[]) trivial Tryz.func63 rfl kR kR ?_;intro args σ K h
 unfold ZwC at h
 split at h
 ·obtain ⟨o,rfl,h⟩:=h;refine ⟨Za [],0,false,sM,Ta rfl,?_⟩
  repeat' ((conv=>whnf);refine ZBC (fun hc=>?_) (fun hc=>?_))
  all_goals (conv=>whnf)
  all_goals first
  | (have e : o = 16 := by omega
     subst e;exact h _ _ _ rfl rfl rfl)
  | (have e : o = 17 := by omega
     subst e;exact h _ _ _ rfl rfl rfl)
  | (have e : o = 15 := by omega
     subst e;exact h _ _ _ rfl rfl rfl)
  | (have e : o = 18 := by omega
     subst e;exact h _ _ _ rfl rfl rfl)
  | (have e : o = 19 := by omega
     subst e;exact h _ _ _ rfl rfl rfl)
  | (have e : o = 10 := by omega
     subst e;exact h _ _ _ rfl rfl rfl)
  | (have e : o = 11 := by omega
     subst e;exact h _ _ _ rfl rfl rfl)
  | (have e : o = 12 := by omega
     subst e;exact h _ _ _ rfl rfl rfl)
  | (have e : o = 13 := by omega
     subst e;exact h _ _ _ rfl rfl rfl)
  | (have e : o = 14 := by omega
     subst e;exact h _ _ _ rfl rfl rfl)
  | (have e : o = 8 := by omega
     subst e;exact h _ _ _ rfl rfl rfl)
  | (have e : o = 9 := by omega
     subst e;exact h _ _ _ rfl rfl rfl)
  | (have e : o = 20 := by omega
     subst e;exact h _ _ _ rfl rfl rfl)
  | (have e : o = 21 := by omega
     subst e;exact h _ _ _ rfl rfl rfl)
  | (have e : o = 22 := by omega
     subst e;exact h _ _ _ rfl rfl rfl)
  | (have e : o = 23 := by omega
     subst e;exact h _ _ _ rfl rfl rfl)
  | (have e : o = 24 := by omega
     subst e;exact h _ _ _ rfl rfl rfl)
  | (have e : o = 25 := by omega
     subst e;exact h _ _ _ rfl rfl rfl)
  | (have e : o = 6 := by omega
     subst e;exact h _ _ _ rfl rfl rfl)
  | (have e : o = 7 := by omega
     subst e;exact h _ _ _ rfl rfl rfl)
  | (have e : o = 1 := by omega
     subst e;exact h _ _ _ rfl rfl rfl)
  | (have e : o = 2 := by omega
     subst e;exact h _ _ _ rfl rfl rfl)
  | (have e : o = 3 := by omega
     subst e;exact h _ _ _ rfl rfl rfl)
  | (have e : o = 4 := by omega
     subst e;exact h _ _ _ rfl rfl rfl)
  | (have e : o = 5 := by omega
     subst e;exact h _ _ _ rfl rfl rfl)
  | (refine h _ _ _ ?_ ?_ ?_
     ·unfold ZI;(repeat rw [Tc oM]);rfl
     ·unfold Yc;(repeat rw [Tc oM])
     unfold Yq;(repeat rw [Tc oM]))
 exact h.elim
noncomputable def Zs2:Tbl:=[(88,Zai),(89,Zhq)]
theorem ZxB {n:Nat} (ht:TO w0 nG Zs2):PC w0 nG 40 (XA Zh4 YL wBs n):=by
 refine Zd Zb mixed (tbl:=Zs2) ht Tryz.func40 rfl kR kR ?_;intro args σ K h
 unfold XA at h
 split at h
 ·obtain ⟨pl,s,rfl,⟨hz,hn⟩,h⟩:=h;unfold wBs at hz
  refine ⟨Za [],0,false,sM,Ta rfl,wN ?_⟩;refine ⟨oM,wN ?_⟩;refine ZBF (fun gi=>?_) (fun gi=>?_);rotate_left
  ·(conv=>whnf);exact h _ (by simp [YL,gi])
  conv=>whnf
  refine ZBE (fun dl=>?_) (fun dl=>?_);rotate_left
  ·(conv=>whnf);exact h _ (by simp only [YL,gi,dl];decide)
  conv=>whnf
  refine fun b hb=>wN ?_
  exact h _ (by rw [YL,gi,hb,decide_eq_false dl];simp)
 exact h.elim
noncomputable def Zs3 (n:Nat):Tbl:=[(40,XA Zh4 YL wBs n)]
theorem ZxC {n:Nat} (ht:TO w0 nG (Zs3 n)):PC w0 nG 42 (XA (Xh (fun _=>ZJ)) Yl wFi n):=by
 refine Zd Zb mixed (tbl:=Zs3 n) ht Tryz.func42 rfl kR kR ?_;intro args σ K h
 unfold XA at h
 split at h
 ·obtain ⟨pl,⟨a1,a2⟩,rfl,⟨hz,hn⟩,h⟩:=h;simp only [wFi] at hz;refine ⟨Za [],0,false,sM,Ta rfl,wN ?_⟩;refine ⟨fun _=>0,a1,rfl,⟨by simp only [wBs];omega,oM⟩,fun b ek=>?_⟩
  cases b with
  | false =>
   conv=>whnf
   exact h _ (by simp [Yl,ek])
  | true =>
  conv=>whnf
  refine ⟨fun _=>0,a2,rfl,⟨by simp only [wBs];omega,oM⟩,fun b ik=>wN ?_⟩;exact h _ (by simp [Yl,ek,ik])
 exact h.elim
noncomputable def Zs4 (n:Nat):Tbl:=[(40,XA Zh4 YL wBs n),(41,Wg 42 (fun _=>ZJ) Yl wFi n)]
theorem ZxD {n:Nat} (ht:TO w0 nG (Zs4 n)):PC w0 nG 85 (XA (Xh (fun _=>ZZ)) YO wCa n):=by
 refine Zd Zb mixed (tbl:=Zs4 n) ht Tryz.func85 rfl kR kR ?_;intro args σ K h
 unfold XA at h
 split at h
 ·obtain ⟨pl,⟨a1,a2⟩,rfl,⟨hz,hn⟩,h⟩:=h;simp only [wCa] at hz;refine ⟨Za [],0,false,sM,Ta rfl,wN ?_⟩;refine ⟨fun _=>0,a1,rfl,⟨by simp only [wBs];omega,oM⟩,fun b ek=>?_⟩
  cases b with
  | false =>
   conv=>whnf
   exact h _ (by simp [YO,ek])
  | true =>
  conv=>whnf
  refine ⟨pl,a2,rfl,⟨rfl,oM,oM⟩,fun b jl=>wN ?_⟩;exact h _ (by simp [YO,ek,jl])
 exact h.elim
noncomputable def Zs5 (n:Nat):Tbl:=[(40,XA Zh4 YL wBs n),(41,Wg 42 (fun _=>ZJ) Yl wFi n)]
theorem ZxE {n:Nat} (ht:TO w0 nG (Zs5 n)):PC w0 nG 39 (XA (Xh Z3) Xu wRe n):=by
 refine Zd Zb mixed (tbl:=Zs5 n) ht Tryz.func39 rfl kR kR ?_;intro args σ K h
 unfold XA at h
 split at h
 ·obtain ⟨pl,⟨a1,a2,a3,a4,a5,a6⟩,rfl,⟨hz,hn⟩,h⟩:=h;simp only [wRe] at hz;refine ⟨Za [],0,false,sM,Ta rfl,wN ?_⟩;refine ⟨fun _=>0,a1,rfl,⟨by simp only [wBs];omega,oM⟩,fun b ek=>?_⟩
  cases b with
  | false =>
   conv=>whnf
   exact h _ (by simp [Xu,ek])
  | true =>
  conv=>whnf
  refine ⟨pl,a2,rfl,⟨rfl,oM,oM⟩,fun b jl=>wN ?_⟩;exact h _ (by simp [Xu,ek,jl])
 exact h.elim
noncomputable def Zs6 (n:Nat):Tbl:=[(40,XA Zh4 YL wBs n),(47,Wg 40 (fun _=>ZB) YL wBs n)]
theorem ZxF {n:Nat} (ht:TO w0 nG (Zs6 n)):PC w0 nG 49 (XA (Xh Yi) Xv wIn n):=by
 refine Zd Zb mixed (tbl:=Zs6 n) ht Tryz.func49 rfl kR kR ?_;intro args σ K h
 unfold XA at h
 split at h
 ·obtain ⟨pl,⟨a1,a2,a3,a4⟩,rfl,⟨hz,hn⟩,h⟩:=h;simp only [wIn] at hz;refine ⟨Za [],0,false,sM,Ta rfl,wN ?_⟩;refine ⟨fun _=>0,a1,rfl,⟨by simp only [wBs];omega,oM⟩,fun b ek=>?_⟩
  cases b with
  | false =>
   conv=>whnf
   exact h _ (by simp [Xv,ek])
  | true =>
  conv=>whnf
  refine ⟨fun _=>0,a2,rfl,⟨by simp only [wBs];omega,oM⟩,fun b ik=>?_⟩
  cases b with
  | false =>
   conv=>whnf
   exact h _ (by simp [Xv,ek,ik])
  | true =>
  conv=>whnf
  refine ⟨pl,a3,rfl,⟨rfl,oM,oM⟩,fun b mp=>wN ?_⟩;exact h _ (by simp [Xv,ek,ik,mp])
 exact h.elim
noncomputable def Zs7 (n:Nat):Tbl:=[(40,XA Zh4 YL wBs n)]
theorem ZxG {n:Nat} (ht:TO w0 nG (Zs7 n)):PC w0 nG 51 (XA (Xh Ye) X7 wOv n):=by
 refine Zd Zb mixed (tbl:=Zs7 n) ht Tryz.func51 rfl kR kR ?_;intro args σ K h
 unfold XA at h
 split at h
 ·obtain ⟨pl,⟨a1,a2⟩,rfl,⟨hz,hn⟩,h⟩:=h;simp only [wOv] at hz;refine ⟨Za [],0,false,sM,Ta rfl,wN ?_⟩;refine ⟨fun _=>0,a1,rfl,⟨by simp only [wBs];omega,oM⟩,fun b ek=>wN ?_⟩;exact h _ (by simp [X7,ek])
 exact h.elim
noncomputable def Zs8 (n:Nat):Tbl:=[(40,XA Zh4 YL wBs n),(65,Wg 21 YE ZV wE n),(94,Wg 95 XI ZY wL n)]
theorem ZxH {n:Nat} (ht:TO w0 nG (Zs8 n)):PC w0 nG 44 (XA (Xh ZW) Y0 wRu n):=by
 refine Zd Zb mixed (tbl:=Zs8 n) ht Tryz.func44 rfl kR kR ?_;intro args σ K h
 unfold XA at h
 split at h
 ·obtain ⟨pl,⟨a1,a2,a3,a4⟩,rfl,⟨hz,hn⟩,h⟩:=h;simp only [wRu] at hz;refine ⟨Za [],0,false,sM,Ta rfl,wN ?_⟩;refine ⟨fun _=>0,a1,rfl,⟨by simp only [wBs];omega,oM⟩,fun b ek=>?_⟩
  cases b with
  | false =>
   conv=>whnf
   exact h _ (by simp [Y0,ek])
  | true =>
  conv=>whnf
  refine ⟨pl,a2,Ze _ _,⟨rfl,oM,oM⟩,fun b jl=>?_⟩
  cases b with
  | false =>
   conv=>whnf
   exact h _ (by simp [Y0,ek,jl])
  | true =>
  conv=>whnf
  refine ⟨pl,a3,Zr _ _,⟨rfl,oM,oM⟩,fun b mp=>wN ?_⟩;exact h _ (by simp [Y0,ek,jl,mp])
 exact h.elim
noncomputable def ZxI (n:Nat):Tbl:=[(63,ZwC),(40,XA Zh4 YL wBs n),(64,Vh),(65,spB (Wg 21 YE ZV wE) n)]
theorem ZxJ {n:Nat} (ht:TO w0 nG (ZxI n)):PC w0 nG 21 (XA (Xh YE) ZV wE n):=by
 refine Zd Zb mixed (tbl:=ZxI n) ht Tryz.func21 rfl kR kR ?_;intro args σ K h
 unfold XA at h
 split at h
 ·obtain ⟨pl,⟨a1,a2,a3,a4,a5⟩,rfl,⟨hz,hn⟩,h⟩:=h;simp only [wE,Vk] at hz;refine ⟨Za [],0,false,sM,Ta rfl,wN ?_⟩;have jv:(Z0 pl a4).length=a4.length:=by rw [Ze,Te]
  refine ⟨a1,rfl,fun l w a hl hw ha=>wN ?_⟩;refine ZBC (fun im=>wN ?_) (fun im=>wN ?_)
  ·have vw:=im;have im:a1=1:=oM;refine ZBC (fun _=>wN ?_) (fun hx=>absurd vw hx);exact m210
  refine ZBC (fun vz=>wN ?_) (fun vz=>wN ?_)
  ·have im:a1=7:=by omega
   exact m210
  have im:¬a1=1:=oM;have vz:¬a1=7:=oM;refine ZBC (fun n9=>wN ?_) (fun n9=>wN ?_)
  ·have n9:a1=4:=by omega
   refine ⟨oM,fun hq=>wN ?_,fun q hq=>wN ?_⟩
   ·have mq:Z7 a1 a2=false:=by simp [Z7,n9,hq]
    exact m14
   have mq:Z7 a1 a2=true:=by simp [Z7,n9,hq]
   exact m9
  have n9:¬a1=4:=oM;have mq:Z7 a1 a2=decide (a2=[]):=by simp [Z7,im,vz,n9]
  refine ZBC (fun h1=>?_) (fun h1=>?_);rotate_left
  ·exact m248
  conv=>whnf
  refine ZBC (fun h2=>wN ?_) (fun h2=>wN ?_)
  ·refine ZBC (fun h3=>wN ?_) (fun h3=>wN ?_)
   ·refine ZBC (fun h4=>?_) (fun h4=>?_);rotate_left
    ·exact m187
    rw [TC h4] at mq;(conv=>whnf);exact m245
   refine ZBC (fun h5=>?_) (fun h5=>?_);rotate_left
   ·exact m207
   have h5:a1=3:=oM;have ke:(decide (a3=0) || decide (a1=3))=true:=by simp [h5]
   conv=>whnf
   refine ZBC (fun h4=>?_) (fun h4=>?_);rotate_left
   ·exact m187
   rw [TC h4] at mq;exact m238
  refine ZBC (fun h6=>?_) (fun h6=>?_);rotate_left
  ·exact m213
  have h6:(a4.length:Int)=a:=by rw [<- jv];exact h6
  conv=>whnf
  refine ZBC (fun h3=>wN ?_) (fun h3=>wN ?_)
  ·refine ZBC (fun h4=>?_) (fun h4=>?_);rotate_left
   ·exact m187
   rw [TC h4] at mq;(conv=>whnf);exact m244
  refine ZBC (fun h5=>?_) (fun h5=>?_);rotate_left
  ·exact m207
  have h5:a1=3:=oM;have ke:(decide (a3=0) || decide (a1=3))=true:=by simp [h5]
  conv=>whnf
  refine ZBC (fun h4=>?_) (fun h4=>?_);rotate_left
  ·exact m187
  rw [TC h4] at mq;exact m237
 exact h.elim
noncomputable def ZxK (n:Nat):Tbl:=[(40,XA Zh4 YL wBs n),(65,Wg 21 YE ZV wE n),(94,spB (Wg 95 XI ZY wL) n)]
theorem ZxL {n:Nat} (ht:TO w0 nG (ZxK n)):PC w0 nG 95 (XA (Xh XI) ZY wL n):=by
 refine Zd Zb mixed (tbl:=ZxK n) ht Tryz.func95 rfl kR kR ?_;intro args σ K h
 unfold XA at h
 split at h
 ·obtain ⟨pl,⟨a1,a2,a3,a4,a5⟩,rfl,⟨hz,hn⟩,h⟩:=h;simp only [wL,WS] at hz;refine ⟨Za [],0,false,sM,Ta rfl,wN ?_⟩;have l9:(Z0 pl a3).length=a3.length:=by rw [Ze,Te]
  have jv:(XQ pl a4).length=a4.length:=by rw [Zr,Te]
  have tn:((0:Int)<((XQ pl a4).length:Int))↔0<a4.length:=by rw [jv];omega
  refine ZBC (fun im=>wN ?_) (fun im=>wN ?_)
  ·have vw:=im;have im:a1=1:=oM;refine ZBC (fun _=>wN ?_) (fun hx=>absurd vw hx);exact m195
  refine ZBC (fun vt=>wN ?_) (fun vt=>wN ?_)
  ·have im:a1=2:=by omega
   exact m195
  have kv:¬(a1=1\/a1=2):=oM;refine ZBC (fun adr=>wN ?_) (fun adr=>wN ?_)
  ·refine ZBC (fun ads=>wN ?_) (fun ads=>wN ?_)
   ·have h38:3<=a1/\a1<=8:=by omega
    refine ZBC (fun hr=>?_) (fun hr=>?_);rotate_left
    ·have kj:ZX a1 a2 a3.length a4.length=false:=by simp [ZX,kv,h38,hr]
     conv=>whnf
     exact m71
    conv=>whnf
    refine ZBC (fun hA=>?_) (fun hA=>?_);rotate_left
    ·have hA:¬a3.length=2:=fun g=>hA (by show ((Z0 pl a3).length:Int)=2;rw [l9,g];rfl)
     have kj:ZX a1 a2 a3.length a4.length=false:=by simp [ZX,kv,h38,hA]
     conv=>whnf
     exact m71
    have hA:a3.length=2:=by have hA:((Z0 pl a3).length:Int)=2:=hA;rw [l9] at hA;omega
    conv=>whnf
    refine ZBE (fun hB=>wN ?_) (fun hB=>wN ?_)
    ·have hB:¬0<a4.length:=fun g=>hB (tn.2 g)
     have kj:ZX a1 a2 a3.length a4.length=true:=by simp only [ZX,kv,h38,hr,hA,decide_eq_false hB];simp
     exact m16
    have hB:=tn.1 hB;have kj:ZX a1 a2 a3.length a4.length=false:=by simp [ZX,kv,h38,hr,hA,hB]
    exact m71
   exact m8
  exact m8
 exact h.elim
end Go.PM.Lex
end

section
namespace Go.PM.Lex
open Go.Proofs
variable {w0:World} {nG:Nat}
noncomputable def Zs9 (n:Nat):Tbl:=[(40,XA Zh4 YL wBs n),(41,Wg 42 (fun _=>ZJ) Yl wFi n),(84,Wg 85 (fun _=>ZZ) YO wCa n)]
theorem ZxM {n:Nat} (ht:TO w0 nG (Zs9 n)):PC w0 nG 37 (XA (Xh Z1) Z6 wTy n):=by
 refine Zd Zb mixed (tbl:=Zs9 n) ht Tryz.func37 rfl kR kR ?_;intro args σ K h
 unfold XA at h
 split at h
 ·obtain ⟨pl,⟨a1,a2,a3,a4,a5,a6⟩,rfl,⟨hz,hn⟩,h⟩:=h;simp only [wTy] at hz;refine ⟨Za [],0,false,sM,Ta rfl,wN ?_⟩;have jv:(a4.map ZJ).length=a4.length:=Te ..;have xn:(a5.map ZZ).length=a5.length:=Te ..;have nv:(((a4.map ZJ).length:Int)=0)↔a4.length=0:=by rw [jv];omega
  have xo:(((a5.map ZZ).length:Int)=0)↔a5.length=0:=by rw [xn];omega
  refine ZBC (fun hk=>?_) (fun hk=>wN ?_)
  ·(try dsimp only at hk)
   have hk:a1=1:=oM;(conv=>whnf);refine ⟨fun _=>0,a3,rfl,⟨by simp only [wBs];omega,oM⟩,fun b au=>?_⟩
   cases b with
   | false =>
    conv=>whnf
    have mr:UM (⟨a1,a2,a3,a4,a5,a6⟩:Ty)=false:=by simp [UM,hk,au]
    conv=>whnf
    exact m152
   | true =>
   conv=>whnf
   refine ZBC (fun h4=>wN ?_) (fun h4=>wN ?_)
   ·have h4:=nv.1 h4;refine ZBC (fun h5=>wN ?_) (fun h5=>wN ?_)
    ·have h5:=xo.1 h5;have mr:UM (⟨a1,a2,a3,a4,a5,a6⟩:Ty)=true:=by simp [UM,hk,au,h4,h5]
     exact m36
    have h5:¬a5.length=0:=fun g=>h5 (xo.2 g)
    have mr:UM (⟨a1,a2,a3,a4,a5,a6⟩:Ty)=false:=by simp [UM,hk,au,h4,h5]
    exact m152
   have h4:¬a4.length=0:=fun g=>h4 (nv.2 g)
   have mr:UM (⟨a1,a2,a3,a4,a5,a6⟩:Ty)=false:=by simp [UM,hk,au,h4]
   exact m152
  refine ZBC (fun cj=>?_) (fun cj=>wN ?_)
  ·(try dsimp only at cj)
   have cj:a1=2:=oM;(conv=>whnf);refine ZBC (fun au=>?_) (fun au=>?_);rotate_left
   ·have mr:UM (⟨a1,a2,a3,a4,a5,a6⟩:Ty)=false:=by simp [UM,cj,au]
    conv=>whnf
    exact m152
   (try dsimp only at au)
   conv=>whnf
   refine ZBC (fun h5=>wN ?_) (fun h5=>wN ?_)
   ·have h5:=xo.1 h5;have mr:UM (⟨a1,a2,a3,a4,a5,a6⟩:Ty)=true:=by simp [UM,cj,au,h5]
    exact m36
   have h5:¬a5.length=0:=fun g=>h5 (xo.2 g)
   have mr:UM (⟨a1,a2,a3,a4,a5,a6⟩:Ty)=false:=by simp [UM,cj,au,h5]
   exact m152
  refine ZBC (fun iq=>?_) (fun iq=>?_)
  ·(try dsimp only at iq)
   have iq:a1=3:=oM;(conv=>whnf);refine ZBC (fun au=>?_) (fun au=>?_);rotate_left
   ·have mr:UM (⟨a1,a2,a3,a4,a5,a6⟩:Ty)=false:=by simp [UM,iq,au]
    conv=>whnf
    exact m152
   (try dsimp only at au)
   conv=>whnf
   refine ZBC (fun h4=>wN ?_) (fun h4=>wN ?_)
   ·have h4:=nv.1 h4;refine ZBE (fun h5=>wN ?_) (fun h5=>wN ?_)
    ·have h5:¬a5.length=0:=fun g=>h5 (xo.2 g)
     have mr:UM (⟨a1,a2,a3,a4,a5,a6⟩:Ty)=true:=by simp [UM,iq,au,h4,h5]
     exact m36
    have h5:=xo.1 h5;have mr:UM (⟨a1,a2,a3,a4,a5,a6⟩:Ty)=false:=by simp [UM,iq,au,h4,h5]
    exact m152
   have h4:¬a4.length=0:=fun g=>h4 (nv.2 g)
   have mr:UM (⟨a1,a2,a3,a4,a5,a6⟩:Ty)=false:=by simp [UM,iq,au,h4]
   exact m152
  (try dsimp only at hk cj iq)
  have hk:¬a1=1:=oM;have cj:¬a1=2:=oM;have iq:¬a1=3:=oM;have mr:UM (⟨a1,a2,a3,a4,a5,a6⟩:Ty)=false:=by simp [UM,hk,cj,iq]
  conv=>whnf
  exact m152
 exact h.elim
noncomputable def Zta (n:Nat):Tbl:=[(40,XA Zh4 YL wBs n),(47,Wg 40 (fun _=>ZB) YL wBs n),(14,XA (Xh Yg) Za2 wUn n)]
theorem ZxN {n:Nat} (ht:TO w0 nG (Zta n)):PC w0 nG 46 (XA (Xh YG) Yd wCo n):=by
 refine Zd Zb mixed (tbl:=Zta n) ht Tryz.func46 rfl kR kR ?_;intro args σ K h
 unfold XA at h
 split at h
 ·obtain ⟨pl,⟨a1,a2,a3,a4,⟨u1,u2,u3,u4,u5,u6⟩,a6⟩,rfl,⟨hz,hn⟩,h⟩:=h;simp only [wCo] at hz;refine ⟨Za [],0,false,sM,Ta rfl,wN ?_⟩;have jv:(a4.map ZB).length=a4.length:=Te ..;have nv:(((a4.map ZB).length:Int)=0)↔a4.length=0:=by rw [jv];omega
  refine ZBC (fun hb=>wN ?_) (fun hb=>wN ?_)
  ·refine ZBC (fun h4=>wN ?_) (fun h4=>wN ?_)
   ·have h4:=nv.1 h4;have l7:((decide (a3=[]) && decide (a4.length=0)) || YL a3)=true:=by simp [hb,h4]
    exact m21
   have h4:¬a4.length=0:=fun g=>h4 (nv.2 g)
   refine ⟨fun _=>0,a3,rfl,⟨by simp only [wBs];omega,oM⟩,fun b au=>?_⟩
   cases b with
   | false =>
    have l7:((decide (a3=[]) && decide (a4.length=0)) || YL a3)=false:=by simp [h4,au]
    exact m48
   | true =>
   have l7:((decide (a3=[]) && decide (a4.length=0)) || YL a3)=true:=by simp [h4,au]
   conv=>whnf
   exact m21
  refine ⟨fun _=>0,a3,rfl,⟨by simp only [wBs];omega,oM⟩,fun b au=>?_⟩
  cases b with
  | false =>
   have l7:((decide (a3=[]) && decide (a4.length=0)) || YL a3)=false:=by simp [hb,au]
   exact m48
  | true =>
  have l7:((decide (a3=[]) && decide (a4.length=0)) || YL a3)=true:=by simp [hb,au]
  conv=>whnf
  exact m21
 exact h.elim
noncomputable def Ztb (n:Nat):Tbl:=[(36,Wg 37 Z1 Z6 wTy n),(38,Wg 39 Z3 Xu wRe n),(43,Wg 44 ZW Y0 wRu n),(45,spB (Wg 46 YG Yd wCo) n),(48,Wg 49 Yi Xv wIn n),(50,Wg 51 Ye X7 wOv n)]
theorem Ztc {n:Nat} (ht:TO w0 nG (Ztb n)):PC w0 nG 14 (XA (Xh Yg) Za2 wUn n):=by
 refine Zd Zb mixed (tbl:=Ztb n) ht Tryz.func14 rfl kR kR ?_;intro args σ K h
 unfold XA at h
 split at h
 ·obtain ⟨pl,⟨a1,a2,a3,a4,a5,a6⟩,rfl,⟨hz,hn⟩,h⟩:=h;simp only [wUn,XB] at hz;refine ⟨Za [],0,false,sM,Ta rfl,wN ?_⟩;refine ⟨pl,a1,rfl,⟨rfl,oM,oM⟩,fun b mf=>?_⟩
  cases b with
  | false =>
   conv=>whnf
   exact h _ (by simp [Za2,X5,mf])
  | true =>
  conv=>whnf
  refine ⟨pl,a2,rfl,⟨rfl,oM,oM⟩,fun b jl=>?_⟩
  cases b with
  | false =>
   conv=>whnf
   exact h _ (by simp [Za2,X5,mf,jl])
  | true =>
  conv=>whnf
  refine ⟨pl,a3,rfl,⟨rfl,oM,oM⟩,fun b mp=>?_⟩
  cases b with
  | false =>
   conv=>whnf
   exact h _ (by simp [Za2,X5,mf,jl,mp])
  | true =>
  conv=>whnf
  refine ⟨oM,pl,a4,ZN _ _,⟨rfl,oM,oM⟩,fun b ha3=>?_⟩
  cases b with
  | false =>
   conv=>whnf
   exact h _ (by simp [Za2,X5,mf,jl,mp,ha3])
  | true =>
  conv=>whnf
  refine ⟨pl,a5,rfl,⟨rfl,oM,oM⟩,fun b xp=>?_⟩
  cases b with
  | false =>
   conv=>whnf
   exact h _ (by simp [Za2,X5,mf,jl,mp,ha3,xp])
  | true =>
  conv=>whnf
  refine ⟨pl,a6,rfl,⟨rfl,oM,oM⟩,fun b ha5=>wN ?_⟩;exact h _ (by simp [Za2,X5,mf,jl,mp,ha3,xp,ha5])
 exact h.elim
structure LexC (w0:World) (nG:Nat):Prop where
 name:PC w0 nG 88 Zai
 quote:PC w0 nG 64 Vh
variable (hL:LexC w0 nG)
include hL
theorem ZlV (n:Nat):PC w0 nG 40 (XA Zh4 YL wBs n):=ZxB ⟨hL.name,ZiN,trivial⟩
theorem cHE:∀n,PC w0 nG 21 (XA (Xh YE) ZV wE n)
 | 0=>ZxJ ⟨Zrh,ZlV hL _,hL.quote,ZK (Zn Tryz.func65 kR rfl),trivial⟩
 | n+1=>ZxJ ⟨Zrh,ZlV hL _,hL.quote,ZL (sp:=Wg 21 YE ZV wE) (ZyZ (cHE n)),trivial⟩
theorem cHL:∀n,PC w0 nG 95 (XA (Xh XI) ZY wL n)
 | 0=>ZxL ⟨ZlV hL _,ZyZ (cHE hL 0),ZK (Zn Tryz.func94 kR rfl),trivial⟩
 | n+1=>ZxL ⟨ZlV hL _,ZyZ (cHE hL _),ZL (sp:=Wg 95 XI ZY wL) (ZAD (cHL n)),trivial⟩
theorem ZAE (n:Nat):PC w0 nG 44 (XA (Xh ZW) Y0 wRu n):=ZxH ⟨ZlV hL _,ZyZ (cHE hL _),ZAD (cHL hL _),trivial⟩
theorem ZzM (n:Nat):PC w0 nG 41 (Wg 42 (fun _=>ZJ) Yl wFi n):=ZzI (ZxC ⟨ZlV hL _,trivial⟩)
theorem ZAF (n:Nat):PC w0 nG 37 (XA (Xh Z1) Z6 wTy n):=ZxM ⟨ZlV hL _,ZzM hL n,ZzJ (ZxD ⟨ZlV hL _,ZzM hL n,trivial⟩),trivial⟩
theorem ZAG (n:Nat):PC w0 nG 39 (XA (Xh Z3) Xu wRe n):=ZxE ⟨ZlV hL _,ZzM hL n,trivial⟩
theorem ZAH (n:Nat):PC w0 nG 47 (Wg 40 (fun _=>ZB) YL wBs n):=ZzL (ZlV hL n)
theorem ZAI (n:Nat):PC w0 nG 49 (XA (Xh Yi) Xv wIn n):=ZxF ⟨ZlV hL _,ZAH hL n,trivial⟩
theorem ZAJ (n:Nat):PC w0 nG 51 (XA (Xh Ye) X7 wOv n):=ZxG ⟨ZlV hL _,trivial⟩
theorem ZAK:∀n,PC w0 nG 14 (XA (Xh Yg) Za2 wUn n)
 | 0=>Ztc ⟨Zxx (ZAF hL _),Zxy (ZAG hL _),Zxw (ZAE hL _),ZK (Zn Tryz.func45 kR rfl),Zxz (ZAI hL _),ZxA (ZAJ hL _),trivial⟩
 | n+1=>Ztc ⟨Zxx (ZAF hL _),Zxy (ZAG hL _),Zxw (ZAE hL _),ZL (sp:=Wg 46 YG Yd wCo) (ZzK (ZxN ⟨ZlV hL _,ZAH hL _,ZAK n,trivial⟩)),Zxz (ZAI hL _),ZxA (ZAJ hL _),trivial⟩
end Go.PM.Lex
end

section
namespace Go.PM.Lex
open Go.Proofs Go.Shelf Go.RowKit
variable {w0:World} {nG:Nat}
theorem ZzN:liesAt Tryz.prog Tryz.prog.depth 60 (2 / Tryz.prog.cellsOf 60) 0 58 1=true:=kR
theorem Zi1 (b:Nat) (w:World) (h0:w.cell? ⟨b,0,none⟩=some (.pointer none)) (pj:w.shape? b=some (60,2)) (ky:w.frozen? ⟨b,0,none⟩=false) :
  Calls Tryz.prog 166 #[.pointer (some ⟨b,0,none⟩)] w fun e w'=>e=.returned (.tuple #[])/\w'=w.setCell ⟨b,0,none⟩ (.pointer (some ⟨b,0,none⟩)):=by
 obtain ⟨j,hj,ui⟩:=i53
 go_enter Tryz.func166,Tryz.ntmps166
 go_wp2
 rw [Go.Lib.run_to_unsafe w ⟨b,0,none⟩ u50 u95 hj (by rw [ui];decide) pj (Nat.zero_lt_succ 1)];simp only [Result.andThen];rw [Oper.upon_value]
 go_wp2
 rw [run_callFunc_extern Tryz.func217 kR kR kR (e:=Extern.AbiNoEscape.same) kR];rw [Go.Lib.run_noEscape];simp only [Result.andThen];rw [Oper.upon_value]
 go_wp2
 rw [Go.Lib.run_from_unsafe w ⟨b,0,none⟩ u95 u50 hj pj ZzN];simp only [Result.andThen];rw [Oper.upon_value]
 go_wp2
 go_end0
 exact ⟨rfl,rfl⟩
noncomputable def U7:Zt:=fun args σ K=>match args,σ with
 | [.ptr 0 0],⟨[.cells t [p,q]],tk,nx⟩=>((p=.d .nilp\/p=.ptr 0 0)/\t=60)/\K (.ret (.tuple [])) ⟨[.cells t [.ptr 0 0,q]],tk,nx⟩
 | _,_=>False
theorem Zf4:PC w0 nG 166 U7:=Ux (Zn Tryz.func166 kR rfl) fun args σ K h e w vs hS ha=>by
 unfold U7 at h
 split at h
 ·rename_i t p q tk nx
  obtain ⟨⟨hp,rfl⟩,hK⟩:=h;obtain ⟨u,rfl,hu⟩:=Zhb ha;obtain ⟨cv,dl,fu,jd⟩:=hS.box 0 _ rfl;have dm:cv.size=2:=fu;obtain ⟨x0,ka⟩:∃x,cv[0]?=some x:=⟨cv[0]'oM,by simp [dm]⟩
  have ge:=(jd 0 p x0 rfl ka).1
  cases hu with
  | ptr b off hb =>
  refine ⟨_,_,.tuple #[],hK,?_⟩;rcases hp with rfl | rfl
  ·cases ge with
   | d _ _ hd =>
   cases hd
   refine Calls.mono (Zi1 (e.β 0) w ?_ ?_ ?_) fun en w' ⟨h1,h2⟩=>?_
   ·simp [World.cell?,dl,ka]
   ·simp only [World.shape?,dl,dm]
   ·simp [World.frozen?,dl]
   have hst:=Zdr (G:=GG w0 nG) (T:=ZgB) Zb hS (t:=55) (b:=0) (off:=0) (x:=.ptr 0 0) (v:=.pointer (some ⟨e.β 0,0,none⟩)) (l:=[.ptr 0 0]) (cs:=[.d .nilp,q]) (ty:=60) rfl (.ptr 0 0 hb) rfl rfl sM (by intro h;cases h);rw [h2];exact ⟨h1,.tuple [] #[] rfl (fun i x u hx=>by simp at hx),hst.2,hst.1.toLater⟩
  exact m108
 exact h.elim
theorem ZlW {ty:TypeId} {P:Program} {ρ:Ren} (L:Lays.n169 P ρ) (X:Builder.Extra P ρ) (b g cap:Nat) (p:Value) (cur:Array Value) (fz:Nat×Nat) (l:Bs) (w:World) (h0:l≠[])
  (qn:w.heap[b]?=some (.cells #[p,.slice (some ⟨g,0,none⟩) l.length cap] ty (0,0))) (hg:w.heap[g]?=some (.cells cur (ρ.t 5) fz)) (hn:l.length<=cur.size) (hcap:cap≠0) (et:l.length<=9223372036854775807)
  (ba:∀j x,l[j]?=some x->w.cell? ⟨g,j,none⟩=some (.int .u8 x.toNat)) :
  Calls P (ρ.f 169) #[.pointer (some ⟨b,0,none⟩)] w fun e w'=>e=.returned (.string ⟨l.toArray⟩)/\w'=w.drew.freeze ⟨g,0,none⟩ l.length:=by
 have c1:w.drew.cell? ⟨b,1,none⟩=some (.slice (some ⟨g,0,none⟩) l.length cap):=by
  have:w.drew.heap[b]?=some (.cells #[p,.slice (some ⟨g,0,none⟩) l.length cap] ty (0,0)):=qn;rw [Go.Lib.cell_of_heap this];rfl
 have hSD:(Builtin.unsafeSliceData_ #[(ρ.t 37)] (ρ.t 127) #[.slice (some ⟨g,0,none⟩) l.length cap]).run P w.drew=.ok (.pointer (some ⟨g,0,none⟩)) w.drew :=
  Go.Lib.run_unsafeSliceData_row _ _ _ _ _ _ hcap
 have hUS:(Builtin.unsafeString_ #[(ρ.t 127),(ρ.t 3)] (ρ.t 9) #[.pointer (some ⟨g,0,none⟩),.int .i64 l.length]).run P w.drew=.ok (.string ⟨l.toArray⟩) (w.drew.freeze ⟨g,0,none⟩ l.length):=by
  exact m93
 have mixed:=L.mixed;have t72:=L.t72;have a72:=L.a72;have z72:=L.z72;have v72:=L.v72;have u72:=run_underlying L.t72;have t70:=L.t70;have a70:=L.a70;have z70:=L.z70;have v70:=L.v70;have u70:=run_underlying L.t70;have t37:=L.t37;have a37:=L.a37;have z37:=L.z37;have v37:=L.v37;have u37:=run_underlying L.t37;have t127:=L.t127;have a127:=L.a127;have z127:=L.z127;have v127:=L.v127;have u127:=run_underlying L.t127;have t3:=L.t3;have a3:=L.a3;have z3:=L.z3;have v3:=L.v3;have u3:=run_underlying L.t3;have t9:=L.t9;have a9:=L.a9;have z9:=L.z9;have v9:=L.v9;have u9:=run_underlying L.t9;have t5:=X.t5;have a5:=X.a5;have z5:=X.z5;have v5:=X.v5;have u5:=run_underlying X.t5
 go_enter L.f169,Body.n169_ntmps ρ
 go_wp2
 go_region_o
 all_goals (go_wp2;go_ret;exact ⟨rfl,rfl⟩)
theorem Zri {ty:TypeId} {P:Program} {ρ:Ren} (L:Lays.n169 P ρ) (X:Builder.Extra P ρ) (B b:Nat) (p:Value) (w:World) (qn:w.heap[b]?=some (.cells #[p,.slice none 0 0] ty (0,0))) :
  Calls P (ρ.f 169) #[.pointer (some ⟨b,0,none⟩)] w fun e w'=>e=.returned (.string ⟨#[]⟩)/\Below B w w':=by
 have hUS:=Any.unsafeString_none L X;have c1:w.drew.cell? ⟨b,1,none⟩=some (.slice none 0 0):=by
  have:w.drew.heap[b]?=some (.cells #[p,.slice none 0 0] ty (0,0)):=qn;rw [Lib.cell_of_heap this];rfl
 have hSD:(Builtin.unsafeSliceData_ #[(ρ.t 37)] (ρ.t 127) #[.slice none 0 0]).run P w.drew=.ok (.pointer none) w.drew:=rfl;have mixed:=L.mixed;have t72:=L.t72;have a72:=L.a72;have z72:=L.z72;have v72:=L.v72;have u72:=run_underlying L.t72;have t70:=L.t70;have a70:=L.a70;have z70:=L.z70;have v70:=L.v70;have u70:=run_underlying L.t70;have t37:=L.t37;have a37:=L.a37;have z37:=L.z37;have v37:=L.v37;have u37:=run_underlying L.t37;have t127:=L.t127;have a127:=L.a127;have z127:=L.z127;have v127:=L.v127;have u127:=run_underlying L.t127;have t3:=L.t3;have a3:=L.a3;have z3:=L.z3;have v3:=L.v3;have u3:=run_underlying L.t3;have t9:=L.t9;have a9:=L.a9;have z9:=L.z9;have v9:=L.v9;have u9:=run_underlying L.t9;have t5:=X.t5;have a5:=X.a5;have z5:=X.z5;have v5:=X.v5;have u5:=run_underlying X.t5
 go_enter L.f169,Body.n169_ntmps ρ
 go_wp2
 go_region_o
 all_goals (go_wp2;go_ret;exact ⟨rfl,Below.drew (Below.refl B w)⟩)
theorem Zo1 {ty:TypeId} {P:Program} {ρ:Ren} (L:Lays.n169 P ρ) (X:Builder.Extra P ρ) (B b g cap:Nat) (p:Value) (w:World) (gi:cap≠0) (qn:w.heap[b]?=some (.cells #[p,.slice (some ⟨g,0,none⟩) 0 cap] ty (0,0))) :
  Calls P (ρ.f 169) #[.pointer (some ⟨b,0,none⟩)] w fun e w'=>e=.returned (.string ⟨#[]⟩)/\Below B w w':=by
 have hUS:=Any.unsafeString_none L X;have c1:w.drew.cell? ⟨b,1,none⟩=some (.slice (some ⟨g,0,none⟩) 0 cap):=by
  have:w.drew.heap[b]?=some (.cells #[p,.slice (some ⟨g,0,none⟩) 0 cap] ty (0,0)):=qn;rw [Lib.cell_of_heap this];rfl
 have hSD:(Builtin.unsafeSliceData_ #[(ρ.t 37)] (ρ.t 127) #[.slice (some ⟨g,0,none⟩) 0 cap]).run P w.drew=.ok (.pointer (some ⟨g,0,none⟩)) w.drew:=Go.Lib.run_unsafeSliceData_row _ _ _ _ _ _ gi
 clear gi
 have mixed:=L.mixed;have t72:=L.t72;have a72:=L.a72;have z72:=L.z72;have v72:=L.v72;have u72:=run_underlying L.t72;have t70:=L.t70;have a70:=L.a70;have z70:=L.z70;have v70:=L.v70;have u70:=run_underlying L.t70;have t37:=L.t37;have a37:=L.a37;have z37:=L.z37;have v37:=L.v37;have u37:=run_underlying L.t37;have t127:=L.t127;have a127:=L.a127;have z127:=L.z127;have v127:=L.v127;have u127:=run_underlying L.t127;have t3:=L.t3;have a3:=L.a3;have z3:=L.z3;have v3:=L.v3;have u3:=run_underlying L.t3;have t9:=L.t9;have a9:=L.a9;have z9:=L.z9;have v9:=L.v9;have u9:=run_underlying L.t9;have t5:=X.t5;have a5:=X.a5;have z5:=X.z5;have v5:=X.v5;have u5:=run_underlying X.t5
 go_enter L.f169,Body.n169_ntmps ρ
 go_wp2
 go_region_o
 all_goals (go_wp2;go_ret;exact ⟨rfl,Below.drew (Below.refl B w)⟩)
end Go.PM.Lex
end
