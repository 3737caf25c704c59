/- A part of the proof: plain logic, contracts and laws over the given program. -/
import Derived.Lib.MapLaws
import Derived.Test.YtljpldmdmdhdaaaGreatDoorB10
set_option linter.unusedVariables false
set_option linter.unusedSimpArgs false
set_option linter.all false
set_option maxRecDepth 100000
set_option maxHeartbeats 16000000
noncomputable section
section
namespace Go.PM.Lex
open Go.Proofs Go.RowKit Go.Maps
variable {w0:World} {nG:Nat}
def Zlo {D:Tri} {T:Trn} (hd:okD D=true) (hT:GT D T) {S:List Bs} {x:Bs} (jb:x∈abcN) {w:World} {u1 u2 u3 u4 u5:Value} {c0 c1 bs bg:Nat} {bx:Bs->Nat}
  (h0:w.cell? ⟨c0,0,none⟩=some (.map (some bs))) (h1:w.cell? ⟨c1,0,none⟩=some (.map (some bg))) (ik:c0<w.heap.size) (dv:c1<w.heap.size) (nk:bs<w.heap.size) (sw:bg<w.heap.size)
  (hx:∀y∈abcN,bx y<w.heap.size/\∃(n:Nat) (D0:DataW Unit),w.ownsMap Tryz.prog 9 (fun _=>some (.nil,[])) (bx y) n D0/\(strKeys D0).Perm (ZjR T y))
  (hs:∀W:World,W.heap[bs]?=w.heap[bs]?->∀y,(Instr.lookup 50 (.map (some bs)) (.string ⟨y.toArray⟩) false).run Tryz.prog W=.ok (.bool (S.contains y)) W)
  (hm:∀y∈abcN,∀W:World,W.heap[bx y]?=w.heap[bx y]?->∀z,(Instr.lookup 50 (.map (some (bx y))) (.string ⟨z.toArray⟩) false).run Tryz.prog W=.ok (.bool ((ZjR T y).contains z)) W)
  (hl:∀W:World,W.heap[bg]?=w.heap[bg]?->∀y∈abcN,(Instr.lookup 41 (.map (some bg)) (.string ⟨y.toArray⟩) false).run Tryz.prog W=.ok (.map (some (bx y))) W) :
  Calls Tryz.prog 15 #[.agg #[encStr x,u1,u2,u3,u4,u5],.pointer (some ⟨c0,0,none⟩),.pointer (some ⟨c1,0,none⟩)] w fun en W'=>en=.returned (.bool (Wr D S x))/\w.grownBy W' none:=by
 generalize cy:w.alloc (.cells #[encStr x,u1,u2,u3,u4,u5] 53)=w1;have ja:w.grownBy w1 none:=by rw [<- cy];exact World.grownBy_alloc w _ none
 have k0:=ja.cell h0 sM;have k1:=ja.cell h1 sM;have kn:w1.cell? ⟨w.heap.size,0,none⟩=some (encStr x):=by rw [<- cy,World.cell?_alloc_at _ _ _ _ sM];rfl
 have ke:=hs w1 (ja.block bs nk sM) x;have cf:=hl w1 (ja.block bg sw sM) x jb;obtain ⟨bq,n,D0,ye,fq⟩:=hx x jb;have ho:=Zsf ye (ja.block _ bq sM);have Kd:=string_keyed Tryz.underlying9
 by_cases sb:x∈S
 ·rw [List.contains_iff_mem.2 sb] at ke;have hr:Wr D S x=false:=by unfold Wr;rw [List.contains_iff_mem.2 sb];rfl
  clear hs hm hl hx
  unfold encStr at *
  go_enter Tryz.func15,Tryz.ntmps15
  go_wp2
  go_ret
  exact ⟨by rw [hr];rfl,ja⟩
 have hns:S.contains x=false:=by simpa using sb
 rw [hns] at ke;unfold encStr at *
 go_enter Tryz.func15,Tryz.ntmps15
 go_wp2_with (first
  | (at_range;refine wpList_range_own _ rfl _ 50 rfl 9 4 Kd Tryz.underlying50 _ _ _ _ rfl ho ?_;intro w2 pz pt fj)
  | go_in)
 go_frame
 go_loopw [5] (fun _ wr=>∃(left:Lit->Bool) (cnt:Nat) (ss:List Bs),wr.ranges Tryz.prog 9 (fun _=>some (.nil,[])) (bx x) w1.heap.size n D0 left cnt/\w1.grownBy wr none/\Collected D0 left ss/\∀s∈ss,(S.contains s || tog D s x)=true)
  (fun _ wr=>wr.rangeLeft (bx x) w1.heap.size)
 case atStart=>exact ⟨_,_,[],pz,pt,Collected.start D0,fun s hs=>by cases hs⟩
 case round =>
  obtain ⟨left,cnt,ss,rv,rx,hC,co⟩:=hrel
  go_wp2_with (first
   | (at_next;refine wpList_next_ranges _ rfl _ rfl 9 Kd _ encStr id (fun key kl hk=>by obtain ⟨x,hx,_⟩:=Maps.keyOf_str Tryz.underlying9 hk;exact ⟨x,hx⟩) (fun v _ _=>⟨v,rfl⟩) (bx x) w1.heap.size _ _ _ _ rfl rv ?_ ?_)
   | go_in)
  ·intro ik l9
   have hp:=(hC.perm ho Kd Tryz.underlying9 l9).trans fq;have hr:Wr D S x=true:=by
    unfold Wr
    rw [hns];exact Tn.2 fun y hy=>co y (hp.mem_iff.2 (((hT x jb).2 y).2 hy))
   go_wp2
   go_ret
   exact ⟨by rw [hr];rfl,ja.andThen rx (fun j hj=>by cases hj)⟩
  intro z c kl yd yp w3 cnt2 j8 qa ou t8 ly jh lk tq mn vt
  obtain ⟨z',ez,rfl,_⟩:=Maps.keyOf_str Tryz.underlying9 j8;obtain rfl:z=z':=encStr_inj ez;have hst:=hC.step qa ly;have hz:z∈ZjR T x:=fq.mem_iff.1 (ZhG ho ((hst.2 z).1 sM).1);have i5:=((hT x jb).2 z).1 hz;have wj:=Zwn hd jb i5;have hbw:=ja.size;have mj:w1.grownBy w3 none:=rx.andThen tq (fun j hj=>by cases hj;exact .inl (Tt _));have iw:=ja.andThen mj (fun j hj=>by cases hj);have k0:=iw.cell h0 sM;have k1:=iw.cell h1 sM;have kn:=mj.cell kn sM;have ke:=hs w3 (iw.block bs nk sM) z
  by_cases y8:z∈S
  ·rw [List.contains_iff_mem.2 y8] at ke;have ak:(S.contains z || tog D z x)=true:=by rw [List.contains_iff_mem.2 y8];rfl
   unfold encStr at *
   go_wp2
   go_roundw
   case rel=>exact ⟨_,cnt2,ss++[z],jh,mj,hst,fun s hs=>by rcases Tw.1 hs with hs | hs;exact co s hs;simp at hs;subst hs;exact ak⟩
   case measure=>rw [jh.left_eq,rv.left_eq];exact lk
  have tn:S.contains z=false:=by simpa using y8
  rw [tn] at ke;have e1:=hl w3 (iw.block bg sw sM) z wj;have e2:=hl w3 (iw.block bg sw sM) x jb;have e3:=hm z wj w3 (iw.block _ (hx z wj).1 sM) x;have e4:=hm x jb w3 (iw.block _ (hx x jb).1 sM) z;rw [List.contains_iff_mem.2 hz] at e4;have ht:=Zwz hT wj jb;rw [TY hz,Bool.and_true] at ht
  by_cases dr:x∈ZjR T z
  ·rw [List.contains_iff_mem.2 dr] at e3;have ak:(S.contains z || tog D z x)=true:=by rw [tn,ht,TY dr];rfl
   unfold encStr at *
   go_wp2
   go_roundw
   case rel=>exact ⟨_,cnt2,ss++[z],jh,mj,hst,fun s hs=>by rcases Tw.1 hs with hs | hs;exact co s hs;simp at hs;subst hs;exact ak⟩
   case measure=>rw [jh.left_eq,rv.left_eq];exact lk
  rw [show (ZjR T z).contains x=false by simpa using dr] at e3;have hr:Wr D S x=false:=by
   unfold Wr
   rw [hns];refine List.all_eq_false.2 ⟨z,i5,?_⟩;rw [tn,ht,decide_eq_false dr];simp
  unfold encStr at *
  go_wp2
  go_ret
  exact ⟨by rw [hr];rfl,iw⟩
def Zlp:Zh:=fun args σ K=>match args,σ with
 | [.agg c,.ptr 0 0,.ptr 1 0],⟨[.cells t0 [.mp 2],.cells t1 [.mp 3],.dmap s,.map [.d (.str k1),.mp 4,.d (.str k2),.mp 5,.d (.str k3),.mp 6] bn ck,.dmap a1,.dmap a2,.dmap a3],[],0⟩ =>
  (k1=[97]/\k2=[98]/\k3=[99]/\bn=[0,1,2]/\ck=3)/\∃pl d D S,∃T:Trn,c=(Zu pl d).map .d/\s=mvM mvB (Y2 S)/\a1=mvM mvB (Y2 T.1)/\a2=mvM mvB (Y2 T.2.1)/\a3=mvM mvB (Y2 T.2.2)/\(GT D T/\okD D=true/\d.name∈abcN)/\∀b,Wr D S d.name=b ->
   K (.ret (.d (.bool b))) ⟨[.cells t0 [.mp 2],.cells t1 [.mp 3],.dmap s,.map [.d (.str k1),.mp 4,.d (.str k2),.mp 5,.d (.str k3),.mp 6] bn ck,.dmap a1,.dmap a2,.dmap a3],[],0⟩
 | _,_=>False
def Zvb:PC w0 nG 15 Zlp:=Zgf (Zf Tryz.func15 kR rfl) fun args σ K hs e w vs hS ha=>by
 unfold Zlp at hs
 split at hs
 ·rename_i c t0 t1 s k1 k2 k3 bn ck a1 a2 a3
  obtain ⟨⟨rfl,rfl,rfl,rfl,rfl⟩,pl,⟨d1,d2,d3,d4,d5,d6⟩,D,S,⟨T1,T2,T3⟩,rfl,rfl,rfl,rfl,rfl,⟨hT,hd,jb⟩,h⟩:=hs;obtain ⟨u0,u1,u2,rfl,qx,yu,n9⟩:=ZD2 ha;have aa:∀i,i<7->e.β i<w.heap.size:=fun i hi=>hS.lt hi
  cases yu
  cases n9
  cases qx with
  | agg _ va hva hvv _ =>
  obtain ⟨va⟩:=va
  match va,hva with
  | [q0,q1,q2,q3,q4,q5],_ =>
  obtain rfl:=(hvv 0 _ q0 rfl rfl).dstr;have hx:∀y∈abcN,Zs4 y (e.β 4) (e.β 5) (e.β 6)<w.heap.size/\∃(n:Nat) (D0:DataW Unit),w.ownsMap Tryz.prog 9 (fun _=>some (.nil,[])) (Zs4 y (e.β 4) (e.β 5) (e.β 6)) n D0/\(strKeys D0).Perm (ZjR (T1,T2,T3) y):=fun y hy=>by
   have hTy:=hT y hy;have own:∀{σ:St} {M:List Bs} {b:Nat},BRel (GG w0 nG) e σ w (.dmap (mvM mvB (Y2 M))) b->ZjR (T1,T2,T3) y=M->∃(n:Nat) (D0:DataW Unit),w.ownsMap Tryz.prog 9 (fun _=>some (.nil,[])) b n D0/\(strKeys D0).Perm (ZjR (T1,T2,T3) y):=fun {σ M b} hB hM=>by
    rw [hM] at hTy |-;have lr:∀z∈M,z∈abcN:=fun z hz=>Zwn hd hy ((hTy.2 z).1 hz)
    obtain ⟨D0,h1,h2,_⟩:=Zem (P:=Tryz.prog) (k:=9) Tryz.underlying9 hB (by rw [Xs,Zeh];exact hTy.1) (by
     rw [JV,Y2,Td];exact TP (Zzs hTy.1 lr) dM) (fun z hz=>by
     rw [Xs,Zeh] at hz;exact ZrX (lr z hz))
    exact ⟨_,D0,h1,by rw [Xs,Zeh] at h2;exact h2⟩
   simp only [Tr,TT,SC] at hy;rcases hy with rfl | rfl | rfl
   ·exact ⟨aa 4 dM,own (hS.box 4 _ rfl) rfl⟩
   ·exact ⟨aa 5 dM,own (hS.box 5 _ rfl) rfl⟩
   exact ⟨aa 6 dM,own (hS.box 6 _ rfl) rfl⟩
  have hm:∀y∈abcN,∀W:World,W.heap[Zs4 y (e.β 4) (e.β 5) (e.β 6)]?=w.heap[Zs4 y (e.β 4) (e.β 5) (e.β 6)]?->∀z,(Instr.lookup 50 (.map (some (Zs4 y (e.β 4) (e.β 5) (e.β 6)))) (.string ⟨z.toArray⟩) false).run Tryz.prog W=.ok (.bool ((ZjR (T1,T2,T3) y).contains z)) W:=fun y hy W hW z=>by
   simp only [Tr,TT,SC] at hy;rcases hy with rfl | rfl | rfl
   ·exact (Zen (hS.box 4 _ rfl) hW z).trans (by rw [ZaF];rfl)
   ·exact (Zen (hS.box 5 _ rfl) hW z).trans (by rw [ZaF];rfl)
   exact (Zen (hS.box 6 _ rfl) hW z).trans (by rw [ZaF];rfl)
  have hl:∀W:World,W.heap[e.β 3]?=w.heap[e.β 3]?->∀y∈abcN,(Instr.lookup 41 (.map (some (e.β 3))) (.string ⟨y.toArray⟩) false).run Tryz.prog W=.ok (.map (some (Zs4 y (e.β 4) (e.β 5) (e.β 6)))) W:=fun W hW y hy=>by
   simp only [Tr,TT,SC] at hy;rcases hy with rfl | rfl | rfl
   ·exact ZoM (hS.box 3 _ rfl) rfl hW
   ·exact ZoM (hS.box 3 _ rfl) rfl hW
   exact ZoM (hS.box 3 _ rfl) rfl hW
  have hc:=Zlo (S:=S) (u1:=q1) (u2:=q2) (u3:=q3) (u4:=q4) (u5:=q5) hd hT jb (ZhI (hS.box 0 _ rfl)) (ZhI (hS.box 1 _ rfl)) (aa 0 dM) (aa 1 dM) (aa 2 dM) (aa 3 dM) hx (fun W hW y=>(Zen (hS.box 2 _ rfl) hW y).trans (by rw [ZaF])) hm hl;exact mq116
 exact hs.elim
def ZGj (l:List Re) (q:Bs->Bool) (r:Int):Prop:=(∃(i:Nat) (d:Re),l[i]?=some d/\(l.map (·.name)).find? q=some d.name/\r=i)\/((l.map (·.name)).find? q=none/\r=-1)
def Zsn:Zh:=fun args σ K=>match args,σ with
 | [.d (.sl rows),.func f [] [.ptr 0 0,.ptr 1 0]],⟨[.cells t0 [.mp 2],.cells t1 [.mp 3],.dmap s,.map [.d (.str k1),.mp 4,.d (.str k2),.mp 5,.d (.str k3),.mp 6] bn ck,.dmap a1,.dmap a2,.dmap a3],[],0⟩ =>
  (f=15/\k1=[97]/\k2=[98]/\k3=[99]/\bn=[0,1,2]/\ck=3)/\∃pl l D S,∃T:Trn,rows=l.map (Zu pl)/\s=mvM mvB (Y2 S)/\a1=mvM mvB (Y2 T.1)/\a2=mvM mvB (Y2 T.2.1)/\a3=mvM mvB (Y2 T.2.2)/\(GT D T/\okD D=true/\l.map (·.name)=abcN)/\∀r,ZGj l (Wr D S) r ->
   K (.ret (.d (.int .i64 r))) ⟨[.cells t0 [.mp 2],.cells t1 [.mp 3],.dmap s,.map [.d (.str k1),.mp 4,.d (.str k2),.mp 5,.d (.str k3),.mp 6] bn ck,.dmap a1,.dmap a2,.dmap a3],[],0⟩
 | _,_=>False
def Zz3:Tbl:=[(15,Zlp)]
def Zz4:PC w0 nG 16 Zsn:=by
 refine pwt (tbl:=Zz3) ⟨Zvb,trivial⟩ Tryz.func16 fun args σ K h=>?_
 unfold Zsn at h
 split at h
 ·rename_i rows f t0 t1 s k1 k2 k3 bn ck a1 a2 a3
  obtain ⟨⟨rfl,rfl,rfl,rfl,rfl,rfl⟩,pl,l,D,S,⟨T1,T2,T3⟩,rfl,rfl,rfl,rfl,rfl,⟨hT,hd,hl⟩,h⟩:=h;have ct:(l.map (Zu pl)).length=l.length:=Td ..;have qp:l.length=3:=by have:=congrArg List.length hl;simpa using this
  refine pwu [(2,⟨[8],[0,1,7],fun vs σ=>∃j:Nat,vs=[.d (.int .i64 j)]/\σ=⟨[.cells t0 [.mp 2],.cells t1 [.mp 3],.dmap (mvM mvB (Y2 S)),.map [.d (.str [97]),.mp 4,.d (.str [98]),.mp 5,.d (.str [99]),.mp 6] [0,1,2] 3,.dmap (mvM mvB (Y2 T1)),.dmap (mvM mvB (Y2 T2)),.dmap (mvM mvB (Y2 T3))],[],0⟩/\j<=l.length/\(l.map (·.name)).find? (Wr D S)=((l.drop j).map (·.name)).find? (Wr D S),
   mu1 l.length⟩)] 7 false ?_
  conv=>whnf
  refine ⟨⟨0,rfl,rfl,oM,rfl⟩,?_⟩
  rintro vs σ1 ⟨j,rfl,rfl,hj,hE⟩
  conv=>whnf
  refine ZGr (fun hc=>?_) (fun hc=>?_);rotate_left
  ·have hc:¬(j:Int)<((l.map (Zu pl)).length:Nat):=hc;rw [Tm oM] at hE;have h:=h _ (.inr ⟨hE,rfl⟩);exact mq35
  have aa:j<l.length:=by have hc:(j:Int)<((l.map (Zu pl)).length:Nat):=hc;omega
  have hr:(l.map (Zu pl))[(j:Int).toNat]?=some (Zu pl l[j]):=by rw [Tg,Th,Ta aa];rfl
  have be:l[j]?=some l[j]:=Ta aa;have lr:l[j].name∈abcN:=hl ▸ List.mem_map_of_mem (TA aa);rw [Tk aa,Tx,List.find?_cons] at hE;have hμ:((l.length:Int) - ((j:Int)+1)).toNat<((l.length:Int) - (j:Int)).toNat:=oM;generalize l[j]=x at hr be lr hE;obtain ⟨d1,d2,d3,d4,d5,d6⟩:=x;(conv=>whnf);refine ⟨_,oM,hr,wN ?_⟩;refine ⟨⟨rfl,rfl,rfl,rfl,rfl⟩,pl,⟨d1,d2,d3,d4,d5,d6⟩,D,S,(T1,T2,T3),rfl,rfl,rfl,rfl,rfl,⟨hT,hd,lr⟩,fun b hb=>wN ?_⟩;rw [hb] at hE;refine ZGt (fun e=>?_) (fun e=>?_)
  ·subst e;have h:=h _ (.inl ⟨j,_,be,hE,rfl⟩);exact mq35
  subst e;(conv=>whnf);refine Zk ?_;exact ⟨⟨j+1,rfl,rfl,oM,hE⟩,hμ⟩
 exact h.elim
end Go.PM.Lex
end

section
namespace Go.PM.Lex
open Go.Proofs
variable {w0:World} {nG:Nat}
def WE (l:List (List Bs)):List (List D):=l.map fun s=>[.sl (VQ s)]
def Zso {a b:List (List Bs)} (h:WE a=WE b):a=b:=by
 have:=congrArg (List.map fun r:List D=>match r with | [.sl rows]=>rows.map (fun x:List D=>match x with | [.str s]=>s | _=>[]) | _=>[]) h;simpa [WE,VQ,Sj,Function.comp_def] using this
def Zsp (L:List (List Bs)) (l:List Bs):WE (L++[l])=WE L++[[.sl (VQ l)]]:=TM ..
def ofT (pl:Pl) (p:Pr):Option (List (List Bs)×Int×Int):=match Zzr pl p with
 | (a,e)=>if e≠0 then some ([],a,e) else match p.rules.find? (ZDO (ZoE p.rules)) with
  | some r=>some ([],pl r.at',200)
  | none=>(Zbu (ZoE p.rules) 4 [] []).map fun l=>(l,0,0)
def ZoQ:Zh:=fun args σ K=>match args,σ with
 | [.agg c],⟨[],[],0⟩=>∃pl p,∃D:Tri,c=(Zax pl p).map .d/\(Zd2 100000 (prU p)/\Zd3 p<=2097152)/\(∀r∈p.rules,Zbt r.body=true)/\(ZrV p.rules=true/\p.rels.map (·.name)=abcN)/\ZoE p.rules=D/\okD D=true /\
   ∃l a e,ofT pl p=some (l,a,e)/\K (.ret (.tuple [.d (.sl (WE l)),.d (.int .i64 a),.d (.int .i64 e)])) ⟨[],[],0⟩
 | _,_=>False
def Zvc {S l:List Bs} {d:Bs} (hd:d∈abcN) (hS:d∉S) (hl:d∈l):unS (l.foldl ZaR S)+1<=unS S:=by
 have h1:=Zwt hd hS;have h2:unS (l.foldl ZaR S)<=unS (ZaR S d):=Zsg fun y hy=>mem_adds.2 ((mem_addN.1 hy).imp id fun (g:y=d)=>by rw [g];exact hl)
 omega
def ZwB:Tbl:=[(10,ZhL 100000),(11,Zsi),(12,Zln 1099511627776),(16,Zsn),(14,Zsl)]
def ZDf (ht:TO w0 nG ZwB):PC w0 nG 6 ZoQ:=by
 refine Yn Zr mixed (tbl:=ZwB) ht Tryz.func6 rfl kR kR ?_;intro args σ K h
 unfold ZoQ at h
 split at h
 ·obtain ⟨pl,⟨p1,p2,p3⟩,D,rfl,⟨hc,hz⟩,io,⟨ak,hrel⟩,hD,hd,R,ra,re,hR,h⟩:=h;have dg:(p2.map (Zu pl)).length=p2.length:=Td ..;have ct:(p3.map (Zs pl)).length=p3.length:=Td ..;have kd:p2.length=3:=by have:=congrArg List.length hrel;simpa using this
  have j9:p3.length<=2097152:=by have:=ZE ZbX p3;simp only [Zd3] at hz;omega
  have hru:∀r∈p3,ZdT r.body<1099511627776/\r.head∈abcN/\ZoP (VI r.body false):=fun r hr=>by
   have h1:=Uk (f:=ZbX) hr;have h2:=Tn.1 ak r hr;simp only [Tl,List.contains_iff_mem,Tn] at h2;simp only [Zd3,ZbX] at hz h1;rw [<- Vt] at h1;exact ⟨oM,h2.1,h2.2⟩
  unfold ofT at hR
  simp only at hR io ak hrel hD hru;refine ⟨Zg [
   (6,⟨[32],[1,7,30,31],fun vs σ=>∃(j:Nat) (T:Trn),vs=[.d (.int .i64 j)]/\σ=⟨[.cells 32 ((Zax pl ⟨p1,p2,p3⟩).map .d),.map [.d (.str [97]),.mp 2,.d (.str [98]),.mp 3,.d (.str [99]),.mp 4] [0,1,2] 3,.dmap (mvM mvB (Y2 T.1)),.dmap (mvM mvB (Y2 T.2.1)),.dmap (mvM mvB (Y2 T.2.2)),.cells 41 [.mp 1]],[],0⟩/\j<=p3.length/\GT D T/\p3.find? (ZDO D)=(p3.drop j).find? (ZDO D),
    mu1 p3.length⟩),
   (16,⟨[13],[1,7,11,12],fun vs σ=>∃(k:Nat) (S:List Bs) (L:List (List Bs)) (T:Trn),vs=[.sl 0 37 (WE L)]/\σ=⟨[.cells 32 ((Zax pl ⟨p1,p2,p3⟩).map .d),.map [.d (.str [97]),.mp 2,.d (.str [98]),.mp 3,.d (.str [99]),.mp 4] [0,1,2] 3,.dmap (mvM mvB (Y2 T.1)),.dmap (mvM mvB (Y2 T.2.1)),.dmap (mvM mvB (Y2 T.2.2)),.cells 41 [.mp 1],.dmap (mvM mvB (Y2 S)),.cells 50 [.mp 6]],[0],1⟩/\GT D T/\Zbu D k S L=some R/\L.length+unS S<=3,
    fun vs _=>match vs with | [.sl _ _ rows]=>3 - rows.length | _=>0⟩),
   (21,⟨[13,15,56],[1,7,11,12,13,14,54,55],fun vs σ=>∃(j i:Nat) (k:Nat) (S:List Bs) (L:List (List Bs)) (T:Trn) (d:Re),vs=[.ptr 0 0,.ptr 5 0,.ptr 7 0,.func 15 [] [.ptr 7 0,.ptr 5 0],.d (.sl (WE L)),.d (.int .i64 i),.d (.sl (p2.map (Zu pl))),.d (.int .i64 (p2.map (Zu pl)).length),.sl 0 37 (WE L),.sl 1 9 (VQ ((abcN.take j).filter (tog D · d.name))),.d (.int .i64 j)]/\σ=⟨[.cells 32 ((Zax pl ⟨p1,p2,p3⟩).map .d),.map [.d (.str [97]),.mp 2,.d (.str [98]),.mp 3,.d (.str [99]),.mp 4] [0,1,2] 3,.dmap (mvM mvB (Y2 T.1)),.dmap (mvM mvB (Y2 T.2.1)),.dmap (mvM mvB (Y2 T.2.2)),.cells 41 [.mp 1],.dmap (mvM mvB (Y2 (((abcN.take j).filter (tog D · d.name)).foldl ZaR S))),.cells 50 [.mp 6]],[1,0],2⟩/\j<=3/\p2[i]?=some d/\GT D T/\Zbu D (k+1) S L=some R/\L.length+unS S<=3/\abcN.find? (Wr D S)=some d.name,
    fun vs _=>match vs with | [_,_,_,_,_,_,_,_,_,_,.d (.int _ j)]=>(3 - j).toNat | _=>0⟩)],ZV [],ZC [21],0,false,sM,Tb rfl,?_⟩
  conv=>whnf
  refine ⟨pl,⟨p1,p2,p3⟩,rfl,⟨hc,dM,hz⟩,io,fun a e hae=>?_⟩;rw [hae] at hR;simp only at hR;(conv=>whnf);refine ZGu (fun he=>?_) (fun he=>?_)
  ·rw [Ti he] at hR
   cases hR
   exact mq35
  have he:e=0:=he;rw [Te (fun g=>g he)] at hR;subst he;(conv=>whnf);refine ⟨pl,⟨p1,p2,p3⟩,D,rfl,⟨hz,ak,hrel⟩,hD,hd,fun T hT=>wN ?_⟩;refine ⟨⟨0,T,rfl,rfl,oM,hT,rfl⟩,?_⟩;rw [hD] at hR
  clear hT
  rintro vs σ1 ⟨j,T,rfl,rfl,hj,hT,hE⟩
  conv=>whnf
  refine ZGr (fun hc=>?_) (fun hc=>?_)
  ·have aa:j<p3.length:=by have hc:(j:Int)<((p3.map (Zs pl)).length:Nat):=hc;omega
   have hr:(p3.map (Zs pl))[(j:Int).toNat]?=some (Zs pl p3[j]):=by rw [Tg,Th,Ta aa];rfl
   have cq:=hru _ (TA aa);rw [Tk aa,List.find?_cons] at hE;have hμ:((p3.length:Int) - ((j:Int)+1)).toNat<((p3.length:Int) - (j:Int)).toNat:=oM;generalize p3[j]=r at hr cq hE;obtain ⟨r1,r2,r3,r4⟩:=r;(conv=>whnf);refine ⟨_,oM,hr,wN ?_⟩;refine ⟨⟨rfl,rfl,rfl,rfl,rfl,rfl⟩,pl,pl,r3,⟨r1,r2,r3,r4⟩,D,T,rfl,rfl,rfl,rfl,rfl,hT,⟨cq.1,oM⟩,cq.2,fun c qz=>wN ?_⟩;have hb:ZDO D ⟨r1,r2,r3,r4⟩=c:=qz;rw [hb] at hE;refine ZGt (fun e=>?_) (fun e=>?_)
   ·subst e;rw [hE] at hR
    cases hR
    exact mq35
   subst e;(conv=>whnf);refine Zk ?_;exact ⟨⟨j+1,T,rfl,rfl,oM,hT,hE⟩,hμ⟩
  have hc:¬(j:Int)<((p3.map (Zs pl)).length:Nat):=hc;rw [Tm oM] at hE;rw [hE] at hR;simp only [List.find?_nil] at hR;obtain ⟨R',wm,g⟩:=TD.1 hR
  cases g
  replace hR:=wm
  clear wm
  conv=>whnf
  refine ⟨⟨4,[],[],T,rfl,rfl,hT,hR,dM⟩,?_⟩
  clear hT hR
  rintro vs σ1 ⟨k,S,L,T,rfl,rfl,hT,hR,hL⟩
  conv=>whnf
  refine ⟨⟨rfl,rfl,rfl,rfl,rfl,rfl⟩,pl,p2,D,S,T,rfl,rfl,rfl,rfl,rfl,⟨hT,hd,hrel⟩,fun r hr=>?_⟩;rcases hr with ⟨i,d,be,hf,rfl⟩ | ⟨hf,rfl⟩
  rotate_left
  ·rw [hrel] at hf;obtain rfl:L=R:=by
    cases k with
    | zero=>cases hR
    | succ k=>simp only [Zbu,hf] at hR;exact Option.some.inj hR
   exact mq35
  rw [hrel] at hf;(conv=>whnf);obtain ⟨k,rfl⟩:∃k',k=k'+1:=by
   cases k with
   | zero=>cases hR
   | succ k=>exact ⟨k,rfl⟩
  refine ⟨⟨0,i,k,S,L,T,d,rfl,rfl,oM,be,hT,hR,hL,hf⟩,?_⟩
  rintro vs2 σ2 ⟨j,i',k2,S2,L2,T2,d2,bh,rfl,hj,fu,qc,wm,lv,ry⟩
  have ei:i=i':=by
   have e:=Option.some.inj (congrArg (fun t:List PV=>t[5]?) bh);exact mq52
  have eL:L=L2:=by
   have e:=Option.some.inj (congrArg (fun t:List PV=>t[4]?) bh)
   injection e with e
   injection e with e
   exact Zso e
  have bh:vs2=_:=congrArg (List.drop 8) bh;subst bh;subst ei;subst eL;(conv=>whnf);refine ZGr (fun hc=>?_) (fun hc=>?_)
  ·have aa:j<p2.length:=by have hc:(j:Int)<((p2.map (Zu pl)).length:Nat):=hc;omega
   have hr:(p2.map (Zu pl))[(j:Int).toNat]?=some (Zu pl p2[j]):=by rw [Tg,Th,Ta aa];rfl
   have hri:(p2.map (Zu pl))[(i:Int).toNat]?=some (Zu pl d2):=by rw [Tg,Th,fu];rfl
   have mr:abcN[j]?=some p2[j].name:=by rw [<- hrel,Th,Ta aa];rfl
   have lr:p2[j].name∈abcN:=TW mr;have qk:d2.name∈abcN:=List.mem_of_find?_eq_some ry;have cd:(abcN.take (j+1)).filter (tog D · d2.name)=(abcN.take j).filter (tog D · d2.name)++(if tog D p2[j].name d2.name=true then [p2[j].name] else []):=by
    rw [List.take_add_one,mr,List.filter_append]
    congr 1
    simp only [Option.toList_some,List.filter_cons,List.filter_nil]
   have qp:((abcN.take j).filter (tog D · d2.name)).length<=3:=TP (List.length_filter_le _ _) (by rw [List.length_take];exact Nat.min_le_right _ _)
   generalize (abcN.take j).filter (tog D · d2.name)=l at cd qp
   have cf:(VQ l).length=l.length:=Td ..;have hμ:((3:Int) - ((j:Int)+1)).toNat<((3:Int) - (j:Int)).toNat:=oM;have hwd:∀r∈VQ l,r.length=1:=fun r hr=>by obtain ⟨s,_,rfl⟩:=Sr.1 hr;rfl
   generalize p2[j]=x at hr lr cd;obtain ⟨x1,x2,x3,x4,x5,x6⟩:=x;obtain ⟨d1,f2,f3,f4,f5,f6⟩:=d2;(conv=>whnf);refine ⟨_,oM,hr,wN ?_⟩;refine ⟨_,oM,hri,wN ?_⟩;refine ⟨⟨rfl,rfl,rfl,rfl,rfl⟩,D,T2,rfl,rfl,rfl,qc,⟨lr,qk⟩,fun b hb=>?_⟩;simp only at hb cd;rw [hb] at cd;(conv=>whnf)
   cases b with
   | true =>
    rw [Ti rfl] at cd;have hst:mvM mvB (Y2 ((l++[x1]).foldl ZaR S2))=Z2 x1 (.one (.bool true)) (mvM mvB (Y2 (l.foldl ZaR S2))):=by
     rw [T7];show mvM mvB (Y2 (ZaR _ x1))=_;rw [<- ZmT,<- WC];rfl
    conv=>whnf
    refine ⟨fun r hr=>by simp at hr;subst hr;rfl,by show ((VQ l).length+1) * 16<=2 ^ 47;omega,by show (VQ l).length+1<=2 ^ 47;omega,wN ?_⟩;refine Zk ?_;exact ⟨⟨j+1,i,k2,S2,L,T2,⟨d1,f2,f3,f4,f5,f6⟩,by rw [cd];simp only [TM];rfl,by rw [cd,hst];rfl,oM,fu,qc,wm,lv,ry⟩,hμ⟩
   | false =>
   rw [Te Bool.false_ne_true,TU] at cd;(conv=>whnf);refine Zk ?_;exact ⟨⟨j+1,i,k2,S2,L,T2,⟨d1,f2,f3,f4,f5,f6⟩,by rw [cd];rfl,by rw [cd];rfl,oM,fu,qc,wm,lv,ry⟩,hμ⟩
  have hc:¬(j:Int)<((p2.map (Zu pl)).length:Nat):=hc;obtain rfl:j=3:=oM;have qk:d2.name∈abcN:=List.mem_of_find?_eq_some ry;have gj:d2.name∉S2:=fun g=>by
   have:=List.find?_some ry;unfold Wr at this
   rw [List.contains_iff_mem.2 g] at this
   cases this
  have hu:=Zvc (l:=abcN.filter (tog D · d2.name)) qk gj (List.mem_filter.2 ⟨qk,by unfold tog;rw [List.contains_iff_mem.2 (ZrW D _)];rfl⟩)
  simp only [Zbu,ry] at wm;have e1:(WE L).length=L.length:=Td ..;(conv=>whnf);refine ⟨fun r hr=>by simp at hr;subst hr;rfl,by show ((WE L).length+1) * 24<=2 ^ 47;omega,by show (WE L).length+1<=2 ^ 47;omega,wN ?_⟩;refine ⟨⟨k2,(abcN.filter (tog D · d2.name)).foldl ZaR S2,_,T2,by rw [Zsp];rfl,rfl,qc,wm,by rw [Tc,TE];omega⟩,?_⟩
  show 3 - (WE L++_).length<3 - (WE L).length;rw [Tc];show 3 - ((WE L).length+1)<_;omega
 exact h.elim
def ZDg (e:Ex):Bool:=!decide (opE e=6) && !decide (opE e=7)
def Zsq:Zh:=fun args σ K=>match args,σ with
 | [.agg c,.mp 0],⟨[.dmap mv],[],0⟩=>∃pl e M N,c=(ZD pl e).map .d/\mv=mvM mvB M/\ZDg e=true/\ovE M e=N/\K (.ret (.tuple [])) ⟨[.dmap (mvM mvB N)],[],0⟩
 | _,_=>False
def Zz5:PC w0 nG 19 Zsq:=by
 refine pwe Tryz.func19 fun args σ K h=>?_
 unfold Zsq at h
 split at h
 ·obtain ⟨pl,⟨b1,b2,b3,b4,b5⟩,M,N,rfl,rfl,hf,rfl,h⟩:=h;have h6:b1≠6:=fun g=>by subst g;cases hf
  have h7:b1≠7:=fun g=>by subst g;cases hf
  refine pwv [] 1 false ?_;refine ZGr (fun g=>wN ?_) (fun g=>wN ?_)
  ·have g:(b1:Int)=1:=g;rw [show ovE M (.mk b1 b2 b3 b4 b5)=Z2 b2 true M from Ti (by show b1=1;omega),<- WC] at h;exact h
  have g:¬(b1:Int)=1:=g;rw [show ovE M (.mk b1 b2 b3 b4 b5)=M from Te (by show ¬b1=1;omega)] at h;refine ZGr (fun g=>absurd g (by show ¬(b1:Int)=6;omega)) (fun g=>wN ?_);refine ZGr (fun g=>absurd g (by show ¬(b1:Int)=7;omega)) (fun g=>wN ?_);exact h
 exact h.elim
def Zsr:Zh:=fun args σ K=>match args,σ with
 | [.agg c,.ptr 0 0],⟨[.cells t [.mp 1],.dmap mv],[],0⟩=>∃pl e M,c=(ZD pl e).map .d/\mv=mvM mvB M/\∀b,Zhz M e=b->K (.ret (.d (.bool b))) ⟨[.cells t [.mp 1],.dmap mv],[],0⟩
 | _,_=>False
def Zz6:PC w0 nG 20 Zsr:=by
 refine pwe Tryz.func20 fun args σ K h=>?_
 unfold Zsr at h
 split at h
 ·obtain ⟨pl,⟨b1,b2,b3,b4,b5⟩,M,rfl,rfl,h⟩:=h;refine pwu [] 2 false ?_;rcases (show b1=3\/b1=4\/b1=5\/b1=1\/(b1≠3/\b1≠4/\b1≠5/\b1≠1) by omega) with rfl | rfl | rfl | rfl | ⟨o1,o2,o3,o4⟩
  ·have h:=h false rfl;exact mq35
  ·have h:=h false rfl;exact mq35
  ·have h:=h false rfl;exact mq35
  ·conv=>whnf
   have e:=ZJ (f:=mvB) (k:=b2) M;refine ZGz (fun v hv=>?_) (fun hv=>?_)
   ·rw [hv] at e
    cases hl:lkM b2 M with
    | none=>rw [hl] at e;cases e
    | some c =>
    rw [hl] at e
    cases e
    have h:=h (!c) (by show (!decide (1=1) || !Zcg M b2)=_;unfold Zcg;rw [hl];rfl);exact mq35
   rw [hv] at e
   cases hl:lkM b2 M with
   | some c=>rw [hl] at e;cases e
   | none =>
   have h:=h true (by show (!decide (1=1) || !Zcg M b2)=_;unfold Zcg;rw [hl];rfl);exact mq35
  have h:=h true (by
   unfold Zhz
   rw [Te (by show ¬(b1=3\/b1=4\/b1=5);omega)];rw [decide_eq_false (show ¬opE (.mk b1 b2 b3 b4 b5)=1 from o4)];rfl)
  conv=>whnf
  refine ZGr (fun g=>absurd g (by show ¬(b1:Int)=3;omega)) (fun g=>wN ?_);refine ZGr (fun g=>absurd g (by show ¬(b1:Int)=4;omega)) (fun g=>wN ?_);refine ZGr (fun g=>absurd g (by show ¬(b1:Int)=5;omega)) (fun g=>wN ?_);refine ZGu (fun g=>wN ?_) (fun g=>absurd g (by show ¬(b1:Int)=1;omega));exact h
 exact h.elim
def ZhN (F:Bv->List Ex->D):Zh:=fun args σ K=>match args,σ with
 | [.d (.sl rows),.func f [] [.ptr 0 0]],⟨[.cells t [.mp 1],.dmap mv],[],0⟩=>∃pl l M,rows=Ze pl l/\mv=mvM mvB M/\(f=20/\VF l<=1099511627776)/\∀d,F M l=d->K (.ret (.d d)) ⟨[.cells t [.mp 1],.dmap mv],[],0⟩
 | _,_=>False
abbrev Zss:Zh:=ZhN fun M l=>.int .i64 (ZfX (Zhz M) 0 l)
abbrev Zst:Zh:=ZhN fun M l=>.bool (l.any (Zhz M))
def Zz7:Tbl:=[(20,Zsr)]
def Zz8:PC w0 nG 29 Zss:=by
 refine pwt (tbl:=Zz7) ⟨Zz6,trivial⟩ Tryz.func29 fun args σ K h=>?_
 unfold Zss ZhN at h
 split at h
 ·rename_i rows f t mv
  obtain ⟨pl,l,M,rfl,rfl,⟨rfl,hm⟩,h⟩:=h;simp only at h;have hl:(Ze pl l).length=l.length:=by rw [Zc,Td]
  have hsz:=YA l;refine pwu [(2,⟨[8],[0,1,7],fun vs σ=>∃j:Nat,vs=[.d (.int .i64 j)]/\σ=⟨[.cells t [.mp 1],.dmap (mvM mvB M)],[],0⟩/\j<=l.length/\ZfX (Zhz M) j (l.drop j)=ZfX (Zhz M) 0 l,
   mu1 l.length⟩)] 2 false ?_
  conv=>whnf
  refine ⟨⟨0,rfl,rfl,oM,rfl⟩,?_⟩
  rintro vs σ1 ⟨j,rfl,rfl,hj,ha⟩
  conv=>whnf
  refine ZGr (fun hc=>?_) (fun hc=>?_);rotate_left
  ·exact mq115
  have aa:j<l.length:=by have hc:(j:Int)<((Ze pl l).length:Nat):=hc;omega
  rw [Tk aa] at ha;have hr:(Ze pl l)[(j:Int).toNat]?=some (ZD pl l[j]):=by rw [Tg,Zc,Th,Ta aa];rfl
  generalize l[j]=x at ha hr;obtain ⟨b1,b2,b3,b4,b5⟩:=x;(conv=>whnf);refine ⟨_,oM,hr,wN ?_⟩;refine ⟨pl,.mk b1 b2 b3 b4 b5,M,rfl,rfl,fun b hb=>?_⟩;exact mq163
 exact h.elim
def Zz9:Tbl:=[(29,Zss)]
def ZAa:PC w0 nG 21 Zst:=by
 refine pwt (tbl:=Zz9) ⟨Zz8,trivial⟩ Tryz.func21 fun args σ K h=>?_
 unfold Zst ZhN at h
 split at h
 ·obtain ⟨pl,l,M,rfl,rfl,hc,h⟩:=h;simp only at h;refine pwv [] 2 false ?_;refine ⟨pl,l,M,rfl,rfl,hc,fun d hd=>?_⟩;subst hd;(conv=>whnf);exact h _ (by congr 1;rw [Bool.eq_iff_iff,decide_eq_true_iff];exact (Zd5 l 0).symm)
 exact h.elim
def enT (pl:Pl) (p:Pr):Option (Bool×Int):=match ofT pl p with
 | some (_,_,e)=>if e≠0 then some (false,e) else some (p.rules.all (endR (ZoE p.rules)),0)
 | none=>none
def Zvd:Zh:=fun args σ K=>match args,σ with
 | [.agg c],⟨[],[],0⟩=>∃pl p,∃D:Tri,c=(Zax pl p).map .d/\(Zd2 100000 (prU p)/\Zd3 p<=2097152)/\(∀r∈p.rules,Zbt r.body=true)/\(ZrV p.rules=true/\p.rels.map (·.name)=abcN)/\ZoE p.rules=D/\okD D=true/\(∀r∈p.rules,Zzt r=true) /\
   ∃b e,enT pl p=some (b,e)/\K (.ret (.tuple [.d (.bool b),.d (.int .i64 e)])) ⟨[],[],0⟩
 | _,_=>False
def Zsu {D:Tri} {hd:Bs} {l:List Li} {j:Nat} (h:j<l.length) (s:Bv×Bool):(l.take (j+1)).foldl (Zs3 D hd) s=Zs3 D hd ((l.take j).foldl (Zs3 D hd) s) l[j]:=by
 rw [List.take_add_one,Ta h,T7];rfl
abbrev ZFb (pl:Pl) (p:Pr) (T:Trn):List Box:=[.cells 32 ((Zax pl p).map .d),.map [.d (.str [97]),.mp 2,.d (.str [98]),.mp 3,.d (.str [99]),.mp 4] [0,1,2] 3,.dmap (mvM mvB (Y2 T.1)),.dmap (mvM mvB (Y2 T.2.1)),.dmap (mvM mvB (Y2 T.2.2))]
def ZwC:Tbl:=[(6,ZoQ),(11,Zsi),(14,Zsl),(19,Zsq),(21,Zst)]
def ZDh (ht:TO w0 nG ZwC):PC w0 nG 9 Zvd:=by
 refine Yn Zr mixed (tbl:=ZwC) ht Tryz.func9 rfl kR kR ?_;intro args σ K h
 unfold Zvd at h
 split at h
 ·obtain ⟨pl,⟨p1,p2,p3⟩,D,rfl,⟨hc,hz⟩,io,⟨ak,hrel⟩,hD,hd,dz,rb,re,hR,h⟩:=h;have ct:(p3.map (Zs pl)).length=p3.length:=Td ..;have j9:p3.length<=2097152:=by have:=ZE ZbX p3;simp only [Zd3] at hz;omega
  have hru:∀r∈p3,(ZdT r.body<=2097152/\VF r.args<=2097152)/\r.head∈abcN/\ZoP (VI r.body false):=fun r hr=>by
   have h1:=Uk (f:=ZbX) hr;have h2:=Tn.1 ak r hr;simp only [Tl,List.contains_iff_mem,Tn] at h2;simp only [Zd3,ZbX] at hz h1;rw [<- Vt,<- XG] at h1;exact ⟨⟨oM,oM⟩,h2.1,h2.2⟩
  unfold enT at hR
  cases hO:ofT pl ⟨p1,p2,p3⟩ with
  | none=>rw [hO] at hR;cases hR
  | some x =>
  obtain ⟨ol,oa,oe⟩:=x;rw [hO] at hR;simp only at hR io ak hrel hD hru dz;refine ⟨Zg [
   (6,⟨[31],[1,7,29,30],fun vs σ=>∃(j:Nat) (T:Trn),vs=[.d (.int .i64 j)]/\σ=⟨ZFb pl ⟨p1,p2,p3⟩ T,[],0⟩/\j<=p3.length/\GT D T/\p3.all (endR D)=(p3.drop j).all (endR D),
    mu1 p3.length⟩),
   (10,⟨[11,39],[1,7,9,10,29,30,31,37,38],fun vs σ=>∃(j i:Nat) (T:Trn) (r:Ru) (M:Bv) (b:Bool),vs=[.ptr 0 0,.mp 1,.ptr 5 0,.ptr 7 0,.d (.sl (p3.map (Zs pl))),.d (.int .i64 (p3.map (Zs pl)).length),.d (.int .i64 j),.d (.sl (Zx pl r.body)),.d (.int .i64 (Zx pl r.body).length),.d (.bool b),.d (.int .i64 i)]/\σ=⟨ZFb pl ⟨p1,p2,p3⟩ T++[.cells 46 ((Zs pl r).map .d),.dmap (mvM mvB M),.cells 50 [.mp 6]],[],0⟩/\i<=r.body.length/\GT D T/\p3[j]?=some r/\(r.body.take i).foldl (Zs3 D r.head) ([],false)=(M,b),
    fun vs _=>match vs with | [_,_,_,_,_,_,_,_,.d (.int _ n),_,.d (.int _ i)]=>(n - i).toNat | _=>0⟩),
   (15,⟨[58],[1,7,9,10,11,29,30,31,37,38,39,56,57],fun vs σ=>∃(j i n:Nat) (T:Trn) (r:Ru) (x:Li) (M:Bv) (b:Bool),vs=[.ptr 0 0,.mp 1,.ptr 5 0,.ptr 7 0,.d (.bool b),.d (.sl (p3.map (Zs pl))),.d (.int .i64 (p3.map (Zs pl)).length),.d (.int .i64 j),.d (.sl (Zx pl r.body)),.d (.int .i64 (Zx pl r.body).length),.d (.int .i64 i),.d (.sl (Ze pl (Zci x))),.d (.int .i64 (Ze pl (Zci x)).length),.d (.int .i64 n)]/\σ=⟨ZFb pl ⟨p1,p2,p3⟩ T++[.cells 46 ((Zs pl r).map .d),.dmap (mvM mvB M),.cells 50 [.mp 6],.cells 65 ((YC pl x).map .d)],[],0⟩/\n<=(Zci x).length/\i<r.body.length/\GT D T/\p3[j]?=some r/\r.body[i]?=some x/\(r.body.take (i+1)).foldl (Zs3 D r.head) ([],false)=(((Zci x).drop n).foldl ovE M,b),
    fun vs _=>match vs with | [_,_,_,_,_,_,_,_,_,_,_,_,.d (.int _ m),.d (.int _ n)]=>(m - n).toNat | _=>0⟩)],ZV [],ZC [10,15],0,false,sM,Tb rfl,?_⟩
  conv=>whnf
  refine ⟨pl,⟨p1,p2,p3⟩,D,rfl,⟨hc,hz⟩,io,⟨ak,hrel⟩,hD,hd,ol,oa,oe,hO,wN ?_⟩;refine ZGu (fun he=>?_) (fun he=>?_)
  ·rw [Ti he] at hR
   cases hR
   exact mq35
  have he:oe=0:=he;rw [Te (fun g=>g he),hD] at hR;simp only [Option.some.injEq,Prod.mk.injEq] at hR;obtain ⟨rfl,rfl⟩:=hR;(conv=>whnf);refine ⟨pl,⟨p1,p2,p3⟩,D,rfl,⟨hz,ak,hrel⟩,hD,hd,fun T hT=>wN ?_⟩;refine ⟨⟨0,T,rfl,rfl,oM,hT,rfl⟩,?_⟩
  clear hT
  rintro vs σ1 ⟨j,T,rfl,rfl,hj,hT,hE⟩
  conv=>whnf
  refine ZGr (fun hc=>?_) (fun hc=>?_);rotate_left
  ·have hc:¬(j:Int)<((p3.map (Zs pl)).length:Nat):=hc;rw [Tm oM] at hE;rw [hE] at h;exact mq35
  have aa:j<p3.length:=by have hc:(j:Int)<((p3.map (Zs pl)).length:Nat):=hc;omega
  have hr:(p3.map (Zs pl))[(j:Int).toNat]?=some (Zs pl p3[j]):=by rw [Tg,Th,Ta aa];rfl
  have cq:=hru _ (TA aa);have hf1:=dz _ (TA aa);have be:p3[j]?=some p3[j]:=Ta aa;rw [UK (endR D) aa] at hE;have hμ:((p3.length:Int) - ((j:Int)+1)).toNat<((p3.length:Int) - (j:Int)).toNat:=oM;generalize p3[j]=r at hr cq hE hf1 be;obtain ⟨r1,r2,r3,r4⟩:=r;have hl:(Zx pl r3).length=r3.length:=by rw [Zn,Td]
  have hsz:=Wt r3;have wj:VF r2<=2097152:=cq.1.2;have hzb:ZdT r3<=2097152:=cq.1.1;(conv=>whnf);refine ⟨_,oM,hr,wN ?_⟩;refine ⟨⟨j,0,T,⟨r1,r2,r3,r4⟩,[],false,rfl,rfl,oM,hT,be,rfl⟩,?_⟩
  rintro vs2 σ2 ⟨j',i,T2,r',M,b,bh,rfl,hi,qc,fu,hE2⟩
  have ej:j=j':=by
   have e:=Option.some.inj (congrArg (fun t:List PV=>t[6]?) bh);exact mq52
  subst ej;obtain rfl:_=r':=Option.some.inj (be.symm.trans fu);have bh:vs2=_:=congrArg (List.drop 9) bh;subst bh
  clear fu
  conv=>whnf
  refine ZGr (fun hc=>?_) (fun hc=>?_);rotate_left
  ·have hc:¬(i:Int)<((Zx pl r3).length:Nat):=hc;rw [List.take_of_length_le (by show r3.length<=i;omega)] at hE2;have vt:endR D ⟨r1,r2,r3,r4⟩=!(b && r2.any (Zhz M)):=by unfold endR;rw [hE2]
   rw [vt] at hE
   cases b with
   | false =>
    rw [show (!(false && r2.any (Zhz M)))=true from rfl,Sf] at hE;(conv=>whnf);refine Zk ?_;exact ⟨⟨j+1,T2,rfl,rfl,oM,qc,hE⟩,hμ⟩
   | true =>
   conv=>whnf
   refine ⟨pl,r2,M,rfl,rfl,⟨rfl,oM⟩,fun d cg=>?_⟩;subst cg;(conv=>whnf);refine ZGt (fun e=>wN ?_) (fun e=>wN ?_)
   ·rw [e] at hE;rw [hE] at h;exact h
   rw [e] at hE;rw [show (!(true && false))=true from rfl,Sf] at hE;refine Zk ?_;exact ⟨⟨j+1,T2,rfl,rfl,oM,qc,hE⟩,hμ⟩
  have eu:i<r3.length:=by have hc:(i:Int)<((Zx pl r3).length:Nat):=hc;omega
  have xg:(Zx pl r3)[(i:Int).toNat]?=some (YC pl r3[i]):=by rw [Tg,Zn,Th,Ta eu];rfl
  have oj:r3[i]?=some r3[i]:=Ta eu;have cd:=Zsu (D:=D) (hd:=r1) eu ([],false);have hE2:(r3.take i).foldl (Zs3 D r1) ([],false)=(M,b):=hE2;rw [hE2] at cd;have jb:ZoP (atL r3[i] false):=fun y hy=>cq.2.2 y (by
   show y∈VI r3 false;rw [<- Sd (i+1) r3,ZcF,ZaE eu];exact Tw.2 (.inl (Tw.2 (.inr hy))))
  have xn:∀e∈Zci r3[i],ZDg e=true:=fun e he=>Tn.1 (Tn.1 hf1 _ (TA eu)) e he
  have hxz:VF (Zci r3[i])<=2097152:=by
   have h1:=Ws r3 i eu;generalize r3[i]=x at h1;obtain ⟨b1,b2,b3,b4,b5⟩:=x;have h3:=UO (op:=b1) (rel:=b2) (args:=b3) (body:=b4) (a:=b5);show VF b3<=_;omega
  have hμi:((r3.length:Int) - ((i:Int)+1)).toNat<((r3.length:Int) - (i:Int)).toNat:=oM;generalize r3[i]=x at xg oj cd jb xn hxz;obtain ⟨b1,b2,b3,b4,b5⟩:=x;(conv=>whnf);refine ⟨_,oM,xg,wN ?_⟩;refine ZGr (fun g=>?_) (fun g=>?_);rotate_left
  ·have g:¬(b1:Int)=1:=g;rw [Zs3,Te (show ¬opL (.mk b1 b2 b3 b4 b5)=1 by show ¬b1=1;omega)] at cd;(conv=>whnf);refine Zk ?_;exact ⟨⟨j,i+1,T2,⟨r1,r2,r3,r4⟩,M,b,rfl,rfl,by show i+1<=r3.length;omega,qc,be,cd⟩,by rw [hl];exact hμi⟩
  obtain rfl:b1=1:=by have g:(b1:Int)=1:=g;omega
  rw [Zs3,Ti (show opL (.mk 1 b2 b3 b4 b5)=1 from rfl)] at cd;have dj:b2∈abcN:=jb _ (Tw.2 (.inl (Sy.2 rfl)));have jn:(Ze pl b3).length=b3.length:=by rw [Zc,Td]
  have hs5:=YA b3;have hxz:VF b3<=2097152:=hxz;rcases b with _ | _
  rotate_left
  ·conv=>whnf
   refine ⟨⟨j,i,0,T2,⟨r1,r2,r3,r4⟩,.mk 1 b2 b3 b4 b5,M,true,rfl,rfl,oM,eu,qc,be,oj,cd⟩,?_⟩
   rintro vs3 σ3 ⟨j2,i2,n,T3,r',x',M3,b',bh,rfl,hn,_,hT3,fu,wo,yg⟩
   exact mq8
  conv=>whnf
  refine ⟨⟨rfl,rfl,rfl,rfl,rfl⟩,D,T2,rfl,rfl,rfl,qc,⟨dj,cq.2.1⟩,fun c qz=>wN ?_⟩;refine ⟨⟨j,i,0,T2,⟨r1,r2,r3,r4⟩,.mk 1 b2 b3 b4 b5,M,c,rfl,rfl,oM,eu,qc,be,oj,by rw [<- qz];exact cd⟩,?_⟩
  rintro vs3 σ3 ⟨j2,i2,n,T3,r',x',M3,b',bh,rfl,hn,_,hT3,fu,wo,yg⟩
  exact mq8
 exact h.elim
def ZhO:Zh:=fun args σ K=>match args,σ with
 | [.d (.str s),.d (.int .i64 a)],⟨[],[],0⟩=>(0<=a/\a<s.length/\s.length<4294967281)/\K (.ret (.d (.str ((s.drop a.toNat).take (Yg (s.drop a.toNat)))))) ⟨[],[],0⟩
 | _,_=>False
def ZcL {l:Bs} {i:Nat} (h:i<l.length):l.getD i 0=l[i]:=by rw [T8,Ta h];rfl
def ZGk (r:Bs) (x y:UInt8):Lib.hasPrefix r [x,y]=true↔r.take 2=[x,y]:=by
 unfold Lib.hasPrefix
 rw [List.isPrefixOf_iff_prefix,List.prefix_iff_eq_take];exact ⟨fun g=>g.symm,fun g=>g.symm⟩
def Zve (r:Bs):twos.any (Lib.hasPrefix r)=true↔r.take 2∈twos:=by
 simp only [twos,SJ,List.any_nil,Sk,ZGk,Tr,TB,SC,TT]
def Znb:PC w0 nG 147 ZhO:=by
 refine pwe Tryz.func147 fun args σ K h=>?_
 unfold ZhO at h
 split at h
 ·rename_i s a
  obtain ⟨⟨h0,h1,hs⟩,h⟩:=h;obtain ⟨a,rfl⟩:∃n:Nat,a=n:=⟨a.toNat,oM⟩
  simp only [Tg] at h;have hcu:cut s ((a:Int)).toNat (min ((a:Int)+2) (s.length:Int)).toNat=(s.drop a).take 2:=by
   rw [V8]
   by_cases h4:(a:Int)+2<=s.length
   ·rw [Int.min_eq_left h4];congr 1;omega
   rw [Int.min_eq_right oM,List.take_of_length_le hD,List.take_of_length_le hD];rfl
  have h2:=Zve (s.drop a);generalize hu:(s.drop a).take 2=u at hcu h2;have lr:u∈twos->K (.ret (.d (.str u))) ⟨[],[],0⟩:=fun g=>by
   rw [Yg,Ti (h2.2 g),hu] at h;exact h
  refine pwv [(6,⟨[7],[0,1,6],fun vs σ=>σ=⟨[],[],0⟩/\∃i:Nat,vs=[.d (.int .i64 i)]/\i<=21/\∀j<i,ones.getD j 0≠s.getD a 0,fun vs _=>match vs with | [.d (.int _ n)]=>(21 - n).toNat | _=>0⟩)] 0 false ?_;refine Zk ?_;refine ⟨oM,oM,oM,wN ?_⟩;rw [hcu];have mem:∀x,x∈twos->u=x->K (.ret (.d (.str u))) ⟨[],[],0⟩:=fun x hx g=>lr (g ▸ hx)
  conv=>whnf
  refine ZGr (fun h3=>wN ?_) (fun h3=>wN ?_)
  ·exact mem _ dM h3
  refine ZGr (fun h4=>wN ?_) (fun h4=>wN ?_)
  ·exact mem _ dM h4
  refine ZGr (fun h5=>wN ?_) (fun h5=>wN ?_)
  ·exact mem _ dM h5
  refine ZGr (fun h6=>wN ?_) (fun h6=>wN ?_)
  ·exact mem _ dM h6
  refine ZGr (fun h7=>wN ?_) (fun h7=>wN ?_)
  ·exact mem _ dM h7
  have je:¬u∈twos:=fun g=>by
   simp only [twos,Tr,TT,SC] at g;rcases g with g | g | g | g | g
   ·exact h3 g
   ·exact h4 g
   ·exact h5 g
   ·exact h6 g
   exact h7 g
  have lw:Yg (s.drop a)=if ones.contains (s.getD a 0) then 1 else 0:=by
   rw [Yg,Te (fun g=>je (h2.1 g)),Lib.getD_dropU,Nat.add_zero]
  refine ⟨⟨rfl,0,rfl,oM,oM⟩,?_⟩;intro vs σ1 hI
  obtain ⟨rfl,i,rfl,hi,hj⟩:=hI;(conv=>whnf);have hol:ones.length=21:=rfl;(conv=>whnf);refine ZGr (fun h8=>wN ?_) (fun h8=>wN ?_)
  ·have h8':i<21:=by have:(i:Int)<(21:Int):=h8;omega
   have be:∀x:UInt8,ones.getD i 0=x->ones.contains x=true:=fun x g=>by
    rw [ZcL (by rw [hol];exact h8')] at g;rw [<- g];simp
   refine ⟨oM,h8,wN ?_⟩;refine ⟨h0,h1,wN ?_⟩;refine ZGr (fun h9=>wN ?_) (fun h9=>wN ?_)
   ·have h9':ones.getD i 0=s.getD a 0:=by
     have:((ones.getD i 0).toNat:Int)=((s.getD a 0).toNat:Int):=h9;exact UInt8.toNat_inj.1 oM
    refine Zk ?_;refine ⟨oM,oM,show (i:Int)+1<=21 by omega,wN ?_⟩;have e:cut ones ((i:Int)).toNat ((i:Int)+1).toNat=(s.drop a).take 1:=by
     rw [V8,show ((i:Int)+1).toNat - ((i:Int)).toNat=1 by omega,show ((i:Int)).toNat=i from rfl];rw [Tk (by rw [hol];exact h8':i<ones.length),Tk (by omega:a<s.length)];rw [ZcL (by rw [hol];exact h8'),ZcL oM] at h9';rw [List.take_succ_cons,List.take_succ_cons,Sb,Sb,h9']
    rw [lw,be _ h9',Ti rfl,<- e] at h;exact h
   refine Zk ?_;refine ⟨⟨rfl,i+1,rfl,oM,fun j hj1 g=>?_⟩,?_⟩
   ·rcases Nat.lt_or_ge j i with g1 | g1
    ·exact hj j g1 g
    obtain rfl:j=i:=by omega
    exact h9 (show ((ones.getD j 0).toNat:Int)=((s.getD a 0).toNat:Int) by rw [g])
   exact (show ((21:Int) - ((i:Int)+1)).toNat<((21:Int) - (i:Int)).toNat by omega)
  have h8':21<=i:=by have:¬(i:Int)<(21:Int):=h8;omega
  have hc:ones.contains (s.getD a 0)=false:=by
   rw [Bool.eq_false_iff];intro g
   rw [List.contains_iff_mem] at g;obtain ⟨j,hj1,uc⟩:=T5 g;exact hj j (by rw [hol] at hj1;omega) (by rw [ZcL hj1];exact uc)
  rw [lw,hc,Te sM,Sb] at h;exact h
 exact h.elim
def Zsv (b:UInt8):Bool:=Zl (b.toNat:Int)
def UY (b:UInt8):Bool:=Zo (b.toNat:Int)
def Zbv (b:UInt8):Bool:=Zsv b || UY b
def Ze1 (b:UInt8):Bool:=decide (b=9) || (decide (b=10) || (decide (b=13) || decide (b=32)))
def okP (b c:UInt8):Bool:=decide (b.toNat<128) && (decide (b≠34) && (!(decide (b=47) && (decide (c=47) || decide (c=42))) && (!(decide (b=46) && Zsv c) && !(decide (b=48) && decide (c=120)))))
def okT:Bs->Bool
 | []=>true
 | b::s=>okP b (s.getD 0 0) && okT s
def ZwD:∀{s:Bs} {a:Nat},okT s=true->a<s.length->okP (s.getD a 0) (s.getD (a+1) 0)=true
 | b::s,0,h,_=>by simp only [okT,Tl] at h;exact h.1
 | b::s,a+1,h,ha=>by
  simp only [okT,Tl] at h;exact ZwD (s:=s) h.2 (by simpa using ha)
structure OkA (b c:UInt8):Prop where
 lo:b.toNat<128
 qu:b.toNat≠34
 cm:b.toNat=47->¬(c.toNat=47\/c.toNat=42)
 dt:b.toNat=46->Zsv c=false
 hx:b.toNat=48->c.toNat≠120
def ZjI {b:UInt8} {n:Nat} (hn:n<256):b=UInt8.ofNat n↔b.toNat=n:=⟨fun h=>by rw [h];exact UInt8.toNat_ofNat_of_lt hn,fun h=>UInt8.toNat_inj.1 (h.trans (UInt8.toNat_ofNat_of_lt hn).symm)⟩
def okA {s:Bs} {a:Nat} (h:okT s=true) (ha:a<s.length):OkA (s.getD a 0) (s.getD (a+1) 0):=by
 have h:=ZwD h ha;generalize s.getD a 0=b at h;generalize s.getD (a+1) 0=c at h;simp only [okP,Tl,TH,TV,Bool.and_eq_false_iff,Sh,decide_eq_false_iff_not] at h;obtain ⟨h1,h2,h3,h4,h5⟩:=h;have e:=fun (x:UInt8) (n:Nat) (hn:n<256)=>@ZjI x n hn
 exact ⟨h1,fun g=>h2 ((e b 34 dM).2 g),fun g q=>h3.elim (fun k=>k ((e b 47 dM).2 g)) fun k=>q.elim (fun q=>k.1 ((e c 47 dM).2 q)) fun q=>k.2 ((e c 42 dM).2 q),
  fun g=>h4.resolve_left fun k=>k ((e b 46 dM).2 g),fun g q=>h5.elim (fun k=>k ((e b 48 dM).2 g)) fun k=>k ((e c 120 dM).2 q)⟩
def Wh (p:UInt8->Bool) (s:Bs) (a:Nat):Nat:=((s.drop a).takeWhile p).length
def Zeo {p:UInt8->Bool} {s:Bs} {a:Nat} (h:a<s.length) (hp:p (s.getD a 0)=true):Wh p s a=Wh p s (a+1)+1:=by
 unfold Wh
 rw [Uc h,T9,Ti hp];rfl
def Zep {p:UInt8->Bool} {s:Bs} {a:Nat} (h:a<s.length->p (s.getD a 0)=false):Wh p s a=0:=by
 unfold Wh
 by_cases ha:a<s.length
 ·rw [Uc ha,T9,Te (by rw [h ha];simp)];rfl
 rw [Tm oM];rfl
def ZhP (p:UInt8->Bool) (s:Bs) (a:Nat):Wh p s a<=s.length - a:=by
 unfold Wh
 rw [<- Tz];exact (List.takeWhile_sublist p).length_le
def ZAU:Bs->Nat->Nat
 | [],v=>v
 | b::l,v=>ZAU l (v * 10+(b.toNat - 48))
def Znc:Zh:=fun args σ K=>match args,σ with
 | [.d (.str s),.d (.int .i64 i)],⟨[],[],0⟩=>∃a:Nat,i=a/\(a<s.length/\s.length<65537/\(s.getD a 0).toNat<128)/\K (.ret (.tuple [.d (.int .i32 (s.getD a 0).toNat),.d (.int .i64 1)])) ⟨[],[],0⟩
 | _,_=>False
def Znd:PC w0 nG 202 Znc:=by
 refine pwe Tryz.func202 fun args σ K h=>?_
 unfold Znc at h
 split at h
 ·rename_i s i
  obtain ⟨a,rfl,⟨h1,hs,hb⟩,h⟩:=h;obtain ⟨u,hu⟩:∃u,cut s ((a:Int)).toNat (min ((a:Int)+4) (s.length:Int)).toNat=s.getD a 0::u:=by
   rw [V8,Tg,Uc h1];obtain ⟨k,hk⟩:∃k,(min ((a:Int)+4) (s.length:Int)).toNat - a=k+1:=⟨(min ((a:Int)+4) (s.length:Int)).toNat - a - 1,oM⟩
   rw [hk];exact ⟨_,rfl⟩
  have hd:decodeL (s.getD a 0::u) 0=((s.getD a 0).toNat,1):=by
   rw [Zdp,Sq,Lib.decodeL_N];simp only [SA];unfold Lib.decodeN
   rw [Ti oM]
  generalize s.getD a 0=b at hu hd hb h;refine pwv [(2,⟨[],[0,1,16],fun vs σ=>vs=[]/\σ=⟨[.iter (b::u) 0],[],0⟩,fun _ _=>0⟩)] 0 false ?_;refine Zk ?_;refine ⟨oM,oM,oM,wN ?_⟩;rw [hu];refine ⟨⟨rfl,rfl⟩,?_⟩;intro vs σ1 hI
  obtain ⟨rfl,rfl⟩:=hI;(conv=>whnf);rw [hd];(conv=>whnf);refine ZGu (fun _=>wN ?_) (fun g=>absurd g (by show ¬(b.toNat:Int)=65533;omega));refine ZGr (fun _=>?_) (fun g=>absurd (show (b.toNat:Int)<128 by omega) g);exact mq35
 exact h.elim
def Zgg:Zh:=fun args σ K=>match args,σ with
 | [.d (.str s),.d (.int .i64 i)],⟨[],[],0⟩=>∃a:Nat,i=a/\(okT s=true/\s.length<65537)/\K (.ret (.d (.bool (Zsv (s.getD a 0))))) ⟨[],[],0⟩
 | _,_=>False
def ZAb:Tbl:=[(202,Znc),(203,Zmr)]
def ZhQ:PC w0 nG 145 Zgg:=by
 refine pwt (tbl:=ZAb) ⟨Znd,ZfQ,trivial⟩ Tryz.func145 fun args σ K h=>?_
 unfold Zgg at h
 split at h
 ·rename_i s i
  obtain ⟨a,rfl,⟨ho,hs⟩,h⟩:=h;refine pwv [] 0 false ?_;refine ZGr (fun h1=>wN ?_) (fun h1=>wN ?_)
  ·have h1:(a:Int)>=(s.length:Nat):=h1;rw [show s.getD a 0=0 by rw [T8,Sv oM];rfl] at h;exact h
  have h1:¬(a:Int)>=(s.length:Nat):=h1;refine ⟨a,rfl,⟨oM,hs,(okA ho oM).lo⟩,wN ?_⟩;exact h
 exact h.elim
def Zsw:Zh:=fun args σ K=>match args,σ with
 | [.d (.str s),.d (.int .i64 i)],⟨[],[],0⟩=>∃a:Nat,i=a/\(a<s.length/\okT s=true/\s.length<65537/\Zsv (s.getD a 0)=true)/\K (.ret (Zae 1 (cut s a (a+Wh Zbv s a)) 0 a (a+Wh Zbv s a:Nat))) ⟨[],[],0⟩
 | _,_=>False
def ZAc:Tbl:=[(202,Znc),(203,Zmr),(146,X7),(145,Zgg)]
def ZAd:PC w0 nG 148 Zsw:=by
 refine pwt (tbl:=ZAc) ⟨Znd,ZfQ,Zaq,ZhQ,trivial⟩ Tryz.func148 fun args σ K h=>?_
 unfold Zsw at h
 split at h
 ·rename_i s i
  obtain ⟨a,rfl,⟨h1,ho,hs,hl⟩,h⟩:=h;refine pwu [(2,⟨[5],[0,1,4],fun vs σ=>σ=⟨[.cells 117 [.d (.int .u8 0),.d (.str []),.d (.int .i64 0),.d (.int .i64 0),.d (.int .i64 0)]],[],0⟩ /\
   ∃e:Nat,vs=[.d (.int .i64 e)]/\a<=e/\e<=s.length/\e+Wh Zbv s e=a+Wh Zbv s a,muI s.length⟩)] 0 false ?_
  conv=>whnf
  refine ⟨⟨rfl,a,rfl,oM,oM,rfl⟩,?_⟩;intro vs σ1 hI
  obtain ⟨rfl,e,rfl,ha,he,hE⟩:=hI;have fin:Wh Zbv s e=0->K (.ret (Zae 1 (cut s a e) 0 a e)) ⟨[],[],0⟩:=fun g=>by
   have q:a+Wh Zbv s a=e:=oM;rw [q] at h;exact h
  conv=>whnf
  refine ZGr (fun h2=>?_) (fun h2=>?_);rotate_left
  ·have h2:¬(e:Int)<(s.length:Nat):=h2;have h:=fin (Zep fun g=>oM);(conv=>whnf);refine ⟨oM,oM,oM,wN ?_⟩;exact h
  have h2:e<s.length:=by have h2:(e:Int)<(s.length:Nat):=h2;omega
  have hk:=okA ho h2;have fy:Zbv (s.getD e 0)=true->e+1+Wh Zbv s (e+1)=a+Wh Zbv s a:=fun g=>by have:=Zeo h2 g;omega
  have qd:Zsv (s.getD e 0)=false->a<e:=fun g=>by
   rcases Nat.lt_or_eq_of_le ha with q | rfl
   ·exact q
   rw [hl] at g;cases g
  have je:Zbv (s.getD e 0)=false->Wh Zbv s e=0:=fun g=>Zep fun _=>g
  have hdt:=hk.dt;have hμ:((s.length:Int) - ((e:Int)+1)).toNat<((s.length:Int) - (e:Int)).toNat:=oM;obtain ⟨c,hc⟩:∃c,s.getD (e+1) 0=c:=⟨_,rfl⟩
  conv=>whnf
  refine ⟨e,rfl,⟨h2,hs,hk.lo⟩,?_⟩;generalize s.getD e 0=b at fy qd je hdt;(conv=>whnf);refine ZGt (fun h3=>wN ?_) (fun h3=>wN ?_)
  ·have h3:Zsv b=true:=h3;refine Zk ?_;exact ⟨⟨rfl,e+1,rfl,oM,oM,fy (by rw [Zbv,h3];rfl)⟩,hμ⟩
  have h3:Zsv b=false:=h3;have h4:=qd h3;refine ZGt (fun h5=>wN ?_) (fun h5=>wN ?_)
  ·have h5:UY b=true:=h5;refine ZGr (fun _=>?_) (fun g=>absurd (show (e:Int)>a by omega) g);(conv=>whnf);refine Zk ?_;exact ⟨⟨rfl,e+1,rfl,oM,oM,fy (by rw [Zbv,h5];simp)⟩,hμ⟩
  have h5:UY b=false:=h5;have h:=fin (je (by rw [Zbv,h3,h5];rfl));refine ZGr (fun h6=>wN ?_) (fun h6=>wN ?_)
  ·have h6:b.toNat=46:=by have h6:(b.toNat:Int)=46:=h6;omega
   refine ZGr (fun _=>?_) (fun g=>absurd (show (e:Int)>a by omega) g);(conv=>whnf);refine Zk ?_;refine ⟨e+1,rfl,⟨ho,hs⟩,?_⟩;rw [hdt h6];(conv=>whnf);refine ⟨oM,oM,oM,wN ?_⟩;exact h
  refine ⟨oM,oM,oM,wN ?_⟩;exact h
 exact h.elim
def Zsx:Zh:=fun args σ K=>match args,σ with
 | [.d (.str s),.d (.int .i64 i)],⟨[],[],0⟩=>∃a:Nat,i=a/\(a<=s.length/\okT s=true/\s.length<65537)/\K (.ret (.tuple [.d (.int .i64 (a+Wh Ze1 s a:Nat)),.d (.int .i64 (-1))])) ⟨[],[],0⟩
 | _,_=>False
def ZFO {s:Bs} {e:Nat} (h:e<s.length):∃u,cut s ((e:Int)).toNat (min ((e:Int)+2) (s.length:Int)).toNat=s.getD e 0::u/\(∀x,u=[x]->s.getD (e+1) 0=x):=by
 rw [V8,Tg,Uc h]
 by_cases h2:e+1<s.length
 ·rw [show (min ((e:Int)+2) (s.length:Int)).toNat - e=2 by omega,Uc h2];exact ⟨[s.getD (e+1) 0],rfl,fun x hx=>by injection hx⟩
 rw [show (min ((e:Int)+2) (s.length:Int)).toNat - e=1 by omega];exact ⟨[],rfl,fun x hx=>by cases hx⟩
def ZAe:PC w0 nG 95 Zsx:=by
 refine Yn Zr mixed (tbl:=[]) trivial Tryz.func95 rfl kR kR ?_;intro args σ K h
 unfold Zsx at h
 split at h
 ·rename_i s i
  obtain ⟨a,rfl,⟨h1,ho,hs⟩,h⟩:=h;refine ⟨Zg [(1,⟨[1],[0],fun vs σ=>σ=⟨[],[],0⟩/\∃e:Nat,vs=[.d (.int .i64 e)]/\e<=s.length/\e+Wh Ze1 s e=a+Wh Ze1 s a,muI s.length⟩)],ZV [],ZC [],0,false,sM,Tb rfl,wN ?_⟩;refine ⟨⟨rfl,a,rfl,h1,rfl⟩,?_⟩;intro vs σ1 hI
  obtain ⟨rfl,e,rfl,he,hE⟩:=hI;have fin:Wh Ze1 s e=0->K (.ret (.tuple [.d (.int .i64 e),.d (.int .i64 (-1))])) ⟨[],[],0⟩:=fun g=>by
   have q:a+Wh Ze1 s a=e:=oM;rw [q] at h;exact h
  conv=>whnf
  refine ZGr (fun h2=>?_) (fun h2=>?_);rotate_left
  ·have h2:¬(e:Int)<(s.length:Nat):=h2;have h:=fin (Zep fun g=>oM);exact mq35
  have h2:e<s.length:=by have h2:(e:Int)<(s.length:Nat):=h2;omega
  have hk:=okA ho h2;have hcm:=hk.cm;have fy:Ze1 (s.getD e 0)=true->e+1+Wh Ze1 s (e+1)=a+Wh Ze1 s a:=fun g=>by have:=Zeo h2 g;omega
  have je:Ze1 (s.getD e 0)=false->Wh Ze1 s e=0:=fun g=>Zep fun _=>g
  have hμ:((s.length:Int) - ((e:Int)+1)).toNat<((s.length:Int) - (e:Int)).toNat:=oM;obtain ⟨u,hu,n9⟩:=ZFO h2;have iu:s.getD ((e:Int)).toNat 0=s.getD e 0:=by rw [Tg]
  conv=>whnf
  refine ⟨oM,oM,wN ?_⟩;refine Zk ?_;refine ⟨oM,oM,oM,wN ?_⟩;rw [hu,iu];generalize s.getD e 0=b at fy je hcm;generalize s.getD (e+1) 0=c at n9 hcm;have bc:Ze1 b=true->(e+1<=s.length/\e+1+Wh Ze1 s (e+1)=a+Wh Ze1 s a):=fun g=>⟨oM,fy g⟩
  have e9:=@ZjI b 9 dM;have e10:=@ZjI b 10 dM;have e13:=@ZjI b 13 dM;have e32:=@ZjI b 32 dM
  by_cases hb:Ze1 b=true
  ·obtain ⟨q1,q2⟩:=bc hb;have hn:b.toNat=9\/b.toNat=10\/b.toNat=13\/b.toNat=32:=by
    simp only [Ze1,Sk,TH] at hb;rcases hb with g | g | g | g
    ·exact .inl (e9.1 g)
    ·exact .inr (.inl (e10.1 g))
    ·exact .inr (.inr (.inl (e13.1 g)))
    exact .inr (.inr (.inr (e32.1 g)))
   conv=>whnf
   refine ZGr (fun _=>?_) (fun g1=>?_);rotate_left
   ·conv=>whnf
    refine ZGr (fun _=>?_) (fun g2=>?_);rotate_left
    ·conv=>whnf
     refine ZGr (fun _=>?_) (fun g3=>?_);rotate_left
     ·conv=>whnf
      refine ZGr (fun _=>?_) (fun g4=>?_);rotate_left
      ·have g1:¬(b.toNat:Int)=9:=g1;have g2:¬(b.toNat:Int)=10:=g2;have g3:¬(b.toNat:Int)=13:=g3;have g4:¬(b.toNat:Int)=32:=g4;omega
      all_goals
       conv=>whnf
       refine Zk ?_;exact ⟨⟨rfl,e+1,rfl,q1,q2⟩,hμ⟩
     exact mq127
    exact mq127
   exact mq127
  have hb:Ze1 b=false:=by simpa using hb
  have h:=fin (je hb);simp only [Ze1,Sh,decide_eq_false_iff_not] at hb;(conv=>whnf);refine ZGr (fun g=>absurd (e9.2 (by have g:(b.toNat:Int)=9:=g;omega)) hb.1) (fun _=>wN ?_);refine ZGr (fun g=>absurd (e10.2 (by have g:(b.toNat:Int)=10:=g;omega)) hb.2.1) (fun _=>wN ?_);refine ZGr (fun g=>absurd (e13.2 (by have g:(b.toNat:Int)=13:=g;omega)) hb.2.2.1) (fun _=>wN ?_);refine ZGr (fun g=>absurd (e32.2 (by have g:(b.toNat:Int)=32:=g;omega)) hb.2.2.2) (fun _=>wN ?_);refine ZGr (fun g=>?_) (fun _=>wN ?_)
  ·have g:b::u=[47,47]:=g
   injection g with g1 g2
   subst g1;exact absurd (.inl (by rw [n9 _ g2];rfl)) (hcm rfl)
  refine ZGr (fun g=>?_) (fun _=>wN ?_)
  ·have g:b::u=[47,42]:=g
   injection g with g1 g2
   subst g1;exact absurd (.inr (by rw [n9 _ g2];rfl)) (hcm rfl)
  exact h
 exact h.elim
def Zsy:Zh:=fun args σ K=>match args,σ with
 | [.d (.str s),.d (.int .i64 i)],⟨[],[],0⟩=>∃a:Nat,i=a/\(a<s.length/\okT s=true/\s.length<65537/\UY (s.getD a 0)=true/\Wh UY s a<=18/\Zsv (s.getD (a+Wh UY s a) 0)=false) /\
   K (.ret (.tuple [Zae 2 [] (ZAU ((s.drop a).takeWhile UY) 0) a (a+Wh UY s a:Nat),.d (.bool true)])) ⟨[],[],0⟩
 | _,_=>False
def ZAf:Tbl:=[(146,X7),(145,Zgg)]
def ZAg:PC w0 nG 149 Zsy:=by
 refine Yn Zr mixed (tbl:=ZAf) ⟨Zaq,ZhQ,trivial⟩ Tryz.func149 rfl kR kR ?_;intro args σ K h
 unfold Zsy at h
 split at h
 ·rename_i s i
  obtain ⟨a,rfl,⟨h1,ho,hs,fe,h18,aa⟩,h⟩:=h;obtain ⟨u,hu,n9⟩:=ZFO h1;have x7:=(okA ho h1).hx;have aw:=ZhP UY s a;generalize hE:a+Wh UY s a=E at h aa;generalize hV:ZAU ((s.drop a).takeWhile UY) 0=V at h;refine ⟨Zg [(10,⟨[7,8],[0,1,4,6],fun vs σ=>∃e n:Nat,vs=[.d (.int .u64 n),.d (.bool true)]/\σ=⟨[.cells 117 [.d (.int .u8 0),.d (.str []),.d (.int .i64 0),.d (.int .i64 0),.d (.int .i64 0)],.cells 117 [.d (.int .u8 2),.d (.str []),.d (.int .i64 0),.d (.int .i64 a),.d (.int .i64 e)]],[],0⟩ /\
   (a<=e/\e<=s.length/\e+Wh UY s e=E/\n<10 ^ (e - a)/\ZAU ((s.drop e).takeWhile UY) n=V),fun _ σ=>match σ.bx with | [_,.cells _ [_,_,_,_,.d (.int _ n)]]=>((s.length:Int) - n).toNat | _=>0⟩)],ZV [],ZC [],0,false,sM,Tb rfl,?_⟩
  conv=>whnf
  refine Zk ?_;refine ⟨oM,oM,oM,wN ?_⟩;rw [hu];(conv=>whnf);refine ZGr (fun g=>?_) (fun _=>wN ?_)
  ·have g:s.getD a 0::u=[48,120]:=g
   injection g with g1 g2
   exact absurd (by rw [n9 _ g2];rfl) (x7 (by rw [g1];rfl))
  refine ⟨⟨a,0,rfl,rfl,Tt _,oM,hE,sM,hV⟩,?_⟩;intro vs σ1 hI
  obtain ⟨e,n,rfl,rfl,ha,he,hEe,hn,hVe⟩:=hI;have aiw:10 ^ (e - a)<=10 ^ 18:=Nat.pow_le_pow_right dM oM;have fin:Wh UY s e=0->e=E/\n=V:=fun g=>⟨oM,by
   have:(s.drop e).takeWhile UY=[]:=Sg g;rw [this] at hVe;exact hVe⟩
  have hwr:IntKind.i64.wrap (n:Int)=n:=by
   have h18:n<10 ^ 18:=oM;simp only [IntKind.wrap,show IntKind.i64.bits=64 from rfl,show IntKind.i64.signed=true from rfl,Sf];rw [Int.emod_eq_of_lt oM oM,Te sO]
  have tail:e=E/\n=V->K (.ret (.tuple [.agg [.d (.int .u8 2),.d (.str []),.d (.int .i64 (n:Int)),.d (.int .i64 a),.d (.int .i64 e)],.d (.bool true)])) ⟨[],[],0⟩:=by
   rintro ⟨rfl,rfl⟩
   exact h
  by_cases h2:e<s.length/\UY (s.getD e 0)=true
  ·obtain ⟨h2,h3⟩:=h2;have hrn:=Zeo h2 h3;have iu:s.getD ((e:Int)).toNat 0=s.getD e 0:=by rw [Tg]
   have hV2:ZAU ((s.drop (e+1)).takeWhile UY) (n * 10+((s.getD e 0).toNat - 48))=V:=by
    rw [<- hVe,Uc h2,T9,Ti h3];rfl
   have oh:=isDigit_iff.1 h3;have pa:10 ^ (e+1 - a)=10 ^ (e - a) * 10:=by rw [show e+1 - a=e - a+1 by omega,Nat.pow_succ]
   have aix:10 ^ (e - a)<=10 ^ 17:=Nat.pow_le_pow_right dM oM;obtain ⟨d,hd⟩:∃d:Nat,d=(s.getD e 0).toNat - 48:=⟨_,rfl⟩
   have hdv:((s.getD e 0).toNat:Int) - 48=(d:Int):=oM;rw [<- hd] at hV2;(conv=>whnf);refine ZGr (fun _=>?_) (fun g=>absurd (show (e:Int)<(s.length:Nat) by omega) g);(conv=>whnf);refine ⟨oM,oM,wN ?_⟩;rw [iu];refine Or.inl ⟨InR.i32 oM oM,wN ?_⟩;refine ZGt (fun _=>wN ?_) (fun g=>absurd (h3.symm.trans g) dM);refine ⟨oM,oM,wN ?_⟩;rw [iu];refine WU ?_;rw [hdv];refine ZaN ?_;refine ZaN ?_;refine ⟨oM,wN ?_⟩;have qt:((9223372036854775807:Int) - (d:Int)).tdiv 10=(9223372036854775807 - (d:Int)) / 10:=Int.tdiv_eq_ediv_of_nonneg oM;rw [qt];refine ZaN ?_;refine ZGr (fun g=>absurd g (show ¬(n:Int)>(9223372036854775807 - (d:Int)) / 10 by omega)) (fun _=>wN ?_);refine ZaN ?_;refine ZaN ?_;refine Zk ?_;exact ⟨⟨e+1,n * 10+d,rfl,rfl,oM,oM,oM,oM,hV2⟩,(show ((s.length:Int) - ((e:Int)+1)).toNat<((s.length:Int) - (e:Int)).toNat by omega)⟩
  have hz:Wh UY s e=0:=Zep fun g=>by
   cases q:UY (s.getD e 0) with
   | false=>rfl
   | true=>exact absurd ⟨g,q⟩ h2
  obtain ⟨rfl,rfl⟩:=fin hz;have h:=tail ⟨rfl,rfl⟩
  by_cases h3:e<s.length
  ·have h4:UY (s.getD e 0)=false:=by
    cases q:UY (s.getD e 0) with
    | false=>rfl
    | true=>exact absurd ⟨h3,q⟩ h2
   have hbt:=(s.getD e 0).toNat_lt;have iu:s.getD ((e:Int)).toNat 0=s.getD e 0:=by rw [Tg]
   conv=>whnf
   refine ZGr (fun _=>?_) (fun g=>absurd (show (e:Int)<(s.length:Nat) by omega) g);(conv=>whnf);refine ⟨oM,oM,wN ?_⟩;rw [iu];refine Or.inl ⟨InR.i32 oM oM,wN ?_⟩;refine ZGt (fun g=>absurd (h4.symm.trans g) dM) (fun _=>wN ?_);refine Or.inr ?_;rw [hwr];(conv=>whnf);refine ⟨e,rfl,⟨ho,hs⟩,?_⟩;rw [aa];(conv=>whnf)
   repeat (refine ⟨rfl,?_⟩;conv=>whnf)
   refine ZGr (fun g=>absurd g (show ¬(e:Int)>=(s.length:Nat) by omega)) (fun _=>wN ?_);refine ⟨oM,oM,wN ?_⟩;rw [iu];refine Or.inl ⟨InR.i32 oM oM,wN ?_⟩;have h4:Zo ((s.getD e 0).toNat:Int)=false:=h4
   repeat (refine ⟨rfl,?_⟩;conv=>whnf)
   rw [h4];exact h
  conv=>whnf
  refine ZGr (fun g=>absurd (show e<s.length by have g:(e:Int)<(s.length:Nat):=g;omega) h3) (fun _=>wN ?_);refine Or.inr ?_;rw [hwr];(conv=>whnf);refine ⟨e,rfl,⟨ho,hs⟩,?_⟩;rw [aa];(conv=>whnf)
  repeat (refine ⟨rfl,?_⟩;conv=>whnf)
  refine ZGr (fun _=>?_) (fun g=>absurd (show (e:Int)>=(s.length:Nat) by omega) g);(conv=>whnf)
  repeat (refine ⟨rfl,?_⟩;conv=>whnf)
  exact h
 exact h.elim
def Zsz:Zh:=fun args σ K=>match args,σ with
 | [.d (.str s),.d (.int .i64 i)],⟨[],[],0⟩=>∃a:Nat,i=a/\(a<s.length/\okT s=true/\s.length<65537)/\K (.ret (.d (.bool (Zbv (s.getD a 0) || decide (0<Yg (s.drop a)))))) ⟨[],[],0⟩
 | _,_=>False
def ZAh:Tbl:=[(145,Zgg),(146,X7),(147,ZhO)]
def ZAi:PC w0 nG 96 Zsz:=by
 refine pwt (tbl:=ZAh) ⟨ZhQ,Zaq,Znb,trivial⟩ Tryz.func96 fun args σ K h=>?_
 unfold Zsz at h
 split at h
 ·rename_i s i
  obtain ⟨a,rfl,⟨h1,ho,hs⟩,h⟩:=h;have hq:=(okA ho h1).qu;have hbt:=(s.getD a 0).toNat_lt;have iu:s.getD ((a:Int)).toNat 0=s.getD a 0:=by rw [Tg]
  refine pwv [] 0 false ?_;refine ⟨a,rfl,⟨ho,hs⟩,wN ?_⟩;unfold Zbv UY at h
  refine ZGt (fun h2=>wN ?_) (fun h2=>wN ?_)
  ·rw [h2] at h;exact h
  rw [h2] at h;refine ⟨oM,oM,wN ?_⟩;rw [iu];refine Or.inl ⟨InR.i32 oM oM,wN ?_⟩;refine ZGt (fun h3=>wN ?_) (fun h3=>wN ?_)
  ·rw [h3] at h;exact h
  rw [h3] at h;refine ⟨oM,oM,wN ?_⟩;rw [iu];refine ZGr (fun g=>absurd (show (s.getD a 0).toNat=34 by have g:((s.getD a 0).toNat:Int)=34:=g;omega) hq) (fun _=>wN ?_);refine ⟨⟨oM,oM,oM⟩,wN ?_⟩;have hl:((s.drop a).take (Yg (s.drop a))).length=0↔Yg (s.drop a)=0:=by rw [List.length_take,Tz];omega
  refine ZbN h ?_;have e:∀n,(decide (0<n))=!(decide (n=0)):=fun n=>by cases n <;> simp
  simp only [Bool.false_or];rw [e]
  congr 1
  rw [decide_eq_decide,<- hl];exact Sp
 exact h.elim
def ZDi (s:Bs) (a:Nat):Option Tok :=
 if Zsv (s.getD a 0)=true then some ⟨1,cut s a (a+Wh Zbv s a),0,a,a+Wh Zbv s a⟩
 else if UY (s.getD a 0)=true then (if Wh UY s a<=18/\Zsv (s.getD (a+Wh UY s a) 0)=false then some ⟨2,[],ZAU ((s.drop a).takeWhile UY) 0,a,a+Wh UY s a⟩ else none)
 else if 0<Yg (s.drop a) then some ⟨4,(s.drop a).take (Yg (s.drop a)),0,a,a+Yg (s.drop a)⟩ else none
def Zvf {s:Bs} {a:Nat} {t:Tok} (ha:a<s.length) (h:ZDi s a=some t):a<t.fin/\t.fin<=s.length/\Zbv (s.getD a 0)=true\/(0<Yg (s.drop a)/\t.fin=a+Yg (s.drop a)/\t.fin<=s.length):=by
 unfold ZDi at h
 split at h
 ·rename_i g
  cases h
  have h1:=ZhP Zbv s a;have h2:=Zeo (p:=Zbv) ha (by rw [Zbv,g];rfl);exact .inl ⟨by show a<a+Wh Zbv s a;omega,by show a+Wh Zbv s a<=_;omega,by rw [Zbv,g];rfl⟩
 split at h
 ·rename_i g
  split at h
  ·cases h
   have h1:=ZhP UY s a;have h2:=Zeo (p:=UY) ha g;exact .inl ⟨by show a<a+Wh UY s a;omega,by show a+Wh UY s a<=_;omega,by rw [Zbv,g];simp⟩
  cases h
 split at h
 ·rename_i g
  cases h
  have h1:=Zg0 (s.drop a) hD;rw [Tz] at h1;exact .inr ⟨g,rfl,by show a+Yg (s.drop a)<=_;omega⟩
 cases h
def ZsA:Zh:=fun args σ K=>match args,σ with
 | [.d (.str s),.d (.int .i64 i)],⟨[],[],0⟩=>∃(a:Nat) (t:Tok),i=a/\(a<s.length/\okT s=true/\s.length<65537/\ZDi s a=some t)/\K (.ret (.tuple [Zae t.kind t.text t.n t.at' t.fin,.d (.int .i64 0),.d (.int .i64 0)])) ⟨[],[],0⟩
 | _,_=>False
def ZAj:Tbl:=[(145,Zgg),(148,Zsw),(146,X7),(149,Zsy),(147,ZhO)]
def ZAk:PC w0 nG 97 ZsA:=by
 refine Yn Zr mixed (tbl:=ZAj) ⟨ZhQ,ZAd,Zaq,ZAg,Znb,trivial⟩ Tryz.func97 rfl kR kR ?_;intro args σ K h
 unfold ZsA at h
 split at h
 ·rename_i s i
  obtain ⟨a,t,rfl,⟨h1,ho,hs,ht⟩,h⟩:=h;have hq:=(okA ho h1).qu;have hbt:=(s.getD a 0).toNat_lt;have iu:s.getD ((a:Int)).toNat 0=s.getD a 0:=by rw [Tg]
  refine ⟨Zg [],ZV [],ZC [],0,false,dM,Tb rfl,wN ?_⟩;unfold ZDi at ht
  refine ⟨a,rfl,⟨ho,hs⟩,wN ?_⟩;refine ZGt (fun h2=>?_) (fun h2=>wN ?_)
  ·rw [Ti h2] at ht
   cases ht
   conv=>whnf
   refine ⟨a,rfl,⟨h1,ho,hs,h2⟩,wN ?_⟩;exact h
  rw [Te (by rw [h2];simp)] at ht;refine ⟨oM,oM,wN ?_⟩;rw [iu];refine Or.inl ⟨InR.i32 oM oM,wN ?_⟩;refine ZGt (fun h3=>?_) (fun h3=>?_)
  ·have h3:UY (s.getD a 0)=true:=h3;rw [Ti h3] at ht;split at ht
   case isFalse=>cases ht
   rename_i g
   cases ht
   conv=>whnf
   refine ⟨a,rfl,⟨h1,ho,hs,h3,g.1,g.2⟩,wN ?_⟩;exact h
  have h3:UY (s.getD a 0)=false:=h3;rw [Te (by rw [h3];simp)] at ht;split at ht
  case isFalse=>cases ht
  rename_i g
  cases ht
  conv=>whnf
  refine ⟨oM,oM,wN ?_⟩;rw [iu];refine ZGr (fun q=>absurd (show (s.getD a 0).toNat=34 by have q:((s.getD a 0).toNat:Int)=34:=q;omega) hq) (fun _=>wN ?_);have qj:=Zg0 (s.drop a) hD;have htl:((s.drop a).take (Yg (s.drop a))).length=Yg (s.drop a):=by rw [List.length_take];omega
  rw [Tz] at qj;refine ⟨⟨oM,oM,oM⟩,wN ?_⟩;refine Or.inl ⟨InR.i64 (by simp only [Tg,htl];omega) (by simp only [Tg,htl];omega),wN ?_⟩;simp only [Tg,htl];simp only [Int.natCast_add] at h;exact h
 exact h.elim
def ZDR (s:Bs):Nat->Nat->Option (List Tok)
 | 0,_=>none
 | f+1,a=>if s.length<=a+Wh Ze1 s a then some [] else match ZDi s (a+Wh Ze1 s a) with
  | none=>none
  | some t=>match ZDR s f t.fin with | none=>none | some l=>some (t::l)
def ZDS (s:Bs):Option (List Tok):=if okT s=true/\s.length<=16000 then ZDR s (s.length+1) 0 else none
def Zgh:Zh:=fun args σ K=>match args,σ with
 | [.d (.str s),.d (.int .i64 m)],⟨[],[],0⟩=>∃L,ZDS s=some L/\m=16384/\K (.ret (.tuple [.d (.sl (ZB L)),.d (.int .i64 0),.d (.int .i64 0)])) ⟨[],[],0⟩
 | _,_=>False
def ZAl:Tbl:=[(95,Zsx),(96,Zsz),(97,ZsA)]
def ZAm:PC w0 nG 57 Zgh:=by
 refine Yn Zr mixed (tbl:=ZAl) ⟨ZAe,ZAi,ZAk,trivial⟩ Tryz.func57 rfl kR kR ?_;intro args σ K h
 unfold Zgh at h
 split at h
 ·rename_i s m
  obtain ⟨L,hL,rfl,h⟩:=h;unfold ZDS at hL
  split at hL
  case isFalse=>cases hL
  rename_i o6
  obtain ⟨ho,hs⟩:=o6;refine ⟨Zg [(3,⟨[7,8],[0,1],fun vs σ=>∃(l r:List Tok) (e f:Nat),vs=[.sl 0 117 (ZB l),.d (.int .i64 e)]/\σ=⟨[],[0],1⟩ /\
   (e<=s.length/\l.length<=e/\ZDR s f e=some r/\L=l++r),fun vs _=>match vs with | [_,.d (.int _ n)]=>((s.length:Int) - n).toNat | _=>0⟩)],ZV [],ZC [],0,false,sM,Tb rfl,?_⟩
  conv=>whnf
  refine ⟨⟨[],L,0,_,rfl,rfl,oM,sM,hL,rfl⟩,?_⟩;intro vs σ1 hI
  obtain ⟨l,r,e,f,rfl,rfl,he,aw,hr,hLr⟩:=hI
  cases f with
  | zero=>cases hr
  | succ f =>
  rw [ZDR] at hr;have zp:=ZhP Ze1 s e;(conv=>whnf);refine ⟨e,rfl,⟨he,ho,oM⟩,?_⟩;generalize hk:e+Wh Ze1 s e=k at hr;have hke:e<=k/\k<=s.length:=oM;(conv=>whnf);refine ZGr (fun h3=>?_) (fun h3=>?_)
  ·have h3:(k:Int)>=(s.length:Nat):=h3;rw [Ti oM] at hr
   cases hr
   rw [TU] at hLr;subst hLr;exact mq35
  have h3:¬(k:Int)>=(s.length:Nat):=h3;have aa:k<s.length:=oM;rw [Te oM] at hr;split at hr
  ·cases hr
  rename_i t ht
  split at hr
  ·cases hr
  rename_i r2 fd
  cases hr
  have me:=Zvf aa ht;have hb:(Zbv (s.getD k 0) || decide (0<Yg (s.drop k)))=true:=by
   rcases me with g | g
   ·rw [g.2.2];rfl
   rw [TY g.1];simp
  have ry:k<t.fin/\t.fin<=s.length:=oM;(conv=>whnf);refine ⟨k,rfl,⟨aa,ho,oM⟩,?_⟩;rw [hb];(conv=>whnf);refine ZGr (fun h5=>?_) (fun h5=>wN ?_)
  ·have h5:(16384:Int)<=((ZB l).length:Nat):=h5;rw [ZS] at h5;omega
  refine ⟨k,t,rfl,⟨aa,ho,oM,ht⟩,wN ?_⟩;refine ⟨fun r hr=>by (simp at hr;subst hr;rfl),(show ((ZB l).length+1) * 48<=2 ^ 47 by rw [ZS];omega),(show (ZB l).length+1<=2 ^ 47 by rw [ZS];omega),wN ?_⟩;refine ⟨⟨l++[t],r2,t.fin,f,by rw [ZfG];rfl,rfl,oM,by rw [Tc];simp;omega,fd,by rw [hLr];simp⟩,?_⟩;exact (show ((s.length:Int) - (t.fin:Int)).toNat<((s.length:Int) - (e:Int)).toNat by omega)
 exact h.elim
def ZAn:Tbl:=[(57,Zgh)]
def ZAo:PC w0 nG 37 Zgh:=by
 refine pwt (tbl:=ZAn) ⟨ZAm,trivial⟩ Tryz.func37 fun args σ K h=>?_
 unfold Zgh at h
 split at h
 ·rename_i s m
  obtain ⟨L,hL,rfl,h⟩:=h;refine pwv [] 0 false ?_;refine ⟨L,hL,rfl,wN ?_⟩;exact h
 exact h.elim
def words24:List Bs:=[[116,121,112,101],[100,101,99,108],[105,110,112,117,116],[111,117,116,112,117,116],[105,110,108,105,110,101],[99,111,109,112],[105,110,105,116],[111,118,101,114,114,105,100,101],[110,105,108],[99,111,117,110,116],[115,117,109],[109,105,110],[109,97,120],[98,111,114],[98,120,111,114],[98,97,110,100],[115,104,108],[115,104,114],[99,97,116],[115,116,114,108,101,110],[115,117,98,115,116,114],[99,111,100,101],[115,116,114],[110,117,109]]
def ZDj (s:Bs):Za8 s=words24.contains s:=by
 unfold Za8 ZO words24 keptWords
 simp only [SH,List.contains_nil,Sm]
 by_cases h1:s=[99,97,116]
 ·subst h1;decide
 by_cases h2:s=[115,116,114,108,101,110]
 ·subst h2;decide
 by_cases h3:s=[115,117,98,115,116,114]
 ·subst h3;decide
 by_cases h4:s=[99,111,100,101]
 ·subst h4;decide
 by_cases h5:s=[115,116,114]
 ·subst h5;decide
 by_cases h6:s=[110,117,109]
 ·subst h6;decide
 have q1:(s == [99,97,116])=false:=by simpa using h1
 have q2:(s == [115,116,114,108,101,110])=false:=by simpa using h2
 have q3:(s == [115,117,98,115,116,114])=false:=by simpa using h3
 have q4:(s == [99,111,100,101])=false:=by simpa using h4
 have q5:(s == [115,116,114])=false:=by simpa using h5
 have q6:(s == [110,117,109])=false:=by simpa using h6
 simp only [Te h1,Te h2,Te h3,Te h4,Te h5,Te h6,q1,q2,q3,q4,q5,q6,Sm,ne_eq,not_true_eq_false,decide_false]
def ZcM:Zh:=fun args σ K=>match args,σ with
 | [.d (.str s)],⟨[],[],0⟩=>∀b,Za8 s=b->K (.ret (.d (.bool b))) ⟨[],[],0⟩
 | _,_=>False
def ZjJ:PC w0 nG 98 ZcM:=by
 refine pwe Tryz.func98 fun args σ K h=>?_
 unfold ZcM at h
 split at h
 ·rename_i s
  rw [ZDj] at h;refine pwv [(3,⟨[4],[0,3],fun vs σ=>∃i:Nat,vs=[.d (.int .i64 i)]/\σ=⟨[],[],0⟩/\i<=words24.length/\words24.contains s=(words24.drop i).contains s,mu1 words24.length⟩)] 0 false ?_;refine ⟨⟨0,rfl,rfl,dM,rfl⟩,?_⟩;intro vs σ hI
  obtain ⟨i,rfl,rfl,hi,hc⟩:=hI;have hn:words24.length=24:=rfl;(conv=>whnf);refine ZGr (fun af=>wN ?_) (fun af=>?_)
  ·have af:i<words24.length:=by have af:(i:Int)<24:=af;omega
   have cq:(words24.map fun w=>[D.str w])[((i:Nat):Int).toNat]?=some [D.str words24[i]]:=by simp [af]
   obtain ⟨wd,hwd⟩:∃x,words24[i]=x:=⟨_,rfl⟩
   rw [Tk af,SH] at hc;rw [hwd] at cq hc;refine ⟨_,oM,cq,wN ?_⟩;refine ZGr (fun he=>wN ?_) (fun he=>wN ?_)
   ·exact h _ (by rw [hc,he];simp)
   refine Zk ?_;have ai:(s == wd)=false:=by simpa using fun g:s=wd=>he g.symm
   refine ⟨⟨i+1,rfl,rfl,oM,by rw [hc,ai,Bool.false_or]⟩,?_⟩;exact lzM oM
  have af:i=words24.length:=by have af:¬(i:Int)<24:=af;omega
  subst af;rw [SG] at hc;(conv=>whnf);exact h _ hc
 exact h.elim
end Go.PM.Lex
end

section
namespace Go.PM.Lex
open Go.Proofs
variable {w0:World} {nG:Nat}
def ZGC {α β:Type} {x:R α} {f:α->Ts->R β} {v:β} {t:Ts} (h:x.bind f=.ok v t):∃a t1,x=.ok a t1/\f a t1=.ok v t:=by
 cases x with
 | ok a t1=>exact ⟨a,t1,rfl,h⟩
 | err r e=>cases h
def Zeq {w:Bs} {ts t1:Ts} {u:Unit} (h:ZN w ts=.ok u t1):isW ts [w]=true/\t1=ts.tail:=by
 unfold ZN at h;split at h
 ·cases h;exact ⟨by assumption,rfl⟩
 cases h
def ZhR {ts t1:Ts} {s:Bs} (h:YM ts=.ok s t1):ZF ts=true/\s=(hd ts).text/\t1=ts.tail:=by
 unfold YM at h;split at h
 ·cases h;exact ⟨by assumption,rfl,rfl⟩
 cases h
def Zer {α:Type} {d:Nat} {fr tt:Bs} {rd:Ts->R α} {ts t1:Ts} {x:α} (h:Zq d fr tt rd ts=.ok x t1):isW ts [fr]=true/\(∃e,d=e+1)/\∃t2,rd ts.tail=.ok x t2/\(tt=[]/\t1=t2\/tt≠[]/\isW t2 [tt]=true/\t1=t2.tail):=by
 unfold Zq at h
 split at h
 ·split at h
  ·cases h
  obtain ⟨y,t2,h1,h⟩:=ZGC h;refine ⟨by assumption,⟨d - 1,oM⟩,?_⟩;split at h
  ·cases h;exact ⟨_,h1,.inl ⟨by assumption,rfl⟩⟩
  obtain ⟨u,t3,h2,h⟩:=ZGC h
  cases h
  exact ⟨_,h1,.inr ⟨by assumption,Zeq h2⟩⟩
 cases h
structure IK (L:List Tok) (a dp:Int) (d:Nat) (ts:Ts):Prop extends ROK L a ts where
 dpe:dp=64 - (d:Int)
 d64:d<=64
 kinds:∀x∈L,1<=x.kind/\x.kind<=4
section
variable {L:List Tok} {a dp:Int} {d:Nat} {ts:Ts}
def IK.tl (h:IK L a dp d ts) (hn:ts≠[]):IK L (a+1) dp d ts.tail:=⟨h.toROK.tl hn,h.dpe,h.d64,h.kinds⟩
def IK.inr (h:IK L a dp d ts):InR .i64 a:=by have:=h.lo;have:=h.hi;have:=h.big;exact InR.i64 oM oM
def IK.nil (h:IK L a dp d ts) (hc:¬a<((ZB L).length:Int)):ts=[]:=by
 rw [ZS] at hc;have:=h.len;exact Sg oM
def IK.lt (h:IK L a dp d ts) (hn:ts≠[]):a<((ZB L).length:Int):=by
 rw [ZS];have:=h.len;cases ts with | nil=>exact absurd rfl hn | cons t ts=>simp only [Tf] at this;omega
def IK.at' (h:IK L a dp d ts) (n:Nat) (hc:a+n<((ZB L).length:Int)):0<=a+n/\∃x,(ZB L)[(a+n).toNat]?=some (Zxf x)/\hd (ts.drop n)=x.t0/\ts.drop n≠[]/\(1<=x.kind/\x.kind<=4)/\∀en,Zb L en (ts.drop n).length=x.at':=by
 rw [ZS] at hc;have h0:=h.lo;have hlen:=h.len;have aa:(a+n).toNat<L.length:=oM;have hq:ts.drop n=L[(a+n).toNat].t0::ts.drop (n+1):=by
  have he:=h.eq;simp only [tz] at he;rw [<- he,<- List.map_drop,TJ,show a.toNat+n=(a+n).toNat by omega,Tk aa,Tx,<- List.map_drop,TJ,show (a+n).toNat+1=a.toNat+(n+1) by omega]
 refine ⟨oM,L[(a+n).toNat],by simp [ZB,aa],by rw [hq];rfl,by rw [hq];simp,h.kinds _ (TA aa),fun en=>?_⟩;unfold Zb
 rw [Tz,show L.length - (ts.length - n)=(a+n).toNat by omega,Tk aa]
def IK.at0 (h:IK L a dp d ts) (hc:a<((ZB L).length:Int)):0<=a/\∃x,(ZB L)[a.toNat]?=some (Zxf x)/\hd ts=x.t0/\ts≠[]/\(1<=x.kind/\x.kind<=4)/\∀en,Zb L en ts.length=x.at':=by
 have g:=h.at' 0 (by simpa using hc);simpa using g
end
abbrev UZ (t:TypeId) (L:List Tok) (a en dp:Int):Box:=.cells t [.d (.sl (ZB L)),.d (.int .i64 a),.d (.int .i64 en),.d (.int .i64 dp),.d (.int .i64 0),.d (.int .i64 0)]
abbrev KI:=PV->Nat->Ts->Prop
def iSp (body:List PV->Pl->Nat->Ts->KI->Prop):Zh:=fun args σ K=>match args,σ with
 | .ptr 0 0::rest,⟨[.cells t [.d (.sl rows),.d (.int .i64 a),.d (.int .i64 en),.d (.int .i64 dp),.d (.int .i64 w),.d (.int .i64 q)]],[],0⟩=>∃L d ts,(rows=ZB L/\w=0/\q=0)/\IK L a dp d ts /\
   body rest (Zb L en) d ts fun v d' ts'=>∀a' dp',a<=a'->IK L a' dp' d' ts'->K (.ret v) ⟨[UZ t L a' en dp'],[],0⟩
 | _,_=>False
def XI:Zh:=iSp fun rest pl d ts K=>match rest with
 | [.d (.int .i64 m),.d (.str w)]=>∃n:Nat,(m=n/\n<=1)/\∀b,isW (ts.drop n) [w]=b->K (.d (.bool b)) d ts
 | _=>False
def UQ:Zh:=iSp fun rest pl d ts K=>match rest with
 | [.d (.int .i64 m)]=>m=0/\∀b,ZF ts=b->K (.d (.bool b)) d ts
 | _=>False
def Us:Zh:=iSp fun rest pl d ts K=>match rest with
 | []=>∀b,ZP ts=b->K (.d (.bool b)) d ts
 | _=>False
def JY:Zh:=iSp fun rest pl d ts K=>match rest with
 | []=>K (.d (.int .i64 (pl ts.length))) d ts
 | _=>False
def Ut:Zh:=iSp fun rest pl d ts K=>match rest with
 | [.d (.str w)]=>isW ts [w]=true/\K (.tuple []) d ts.tail
 | _=>False
def JZ:Zh:=iSp fun rest pl d ts K=>match rest with
 | [.d (.str w)]=>isW ts [w]=true/\∃e,d=e+1/\K (.tuple []) e ts.tail
 | _=>False
def Zbw:Zh:=iSp fun rest pl d ts K=>match rest with
 | [.d (.str w)]=>(isW ts [w]=true/\d<64)/\K (.tuple []) (d+1) ts.tail
 | _=>False
def Zbx:Zh:=iSp fun rest pl d ts K=>match rest with
 | []=>ZF ts=true/\K (.d (.str (hd ts).text)) d ts.tail
 | _=>False
def Zby:Zh:=iSp fun rest pl d ts K=>match rest with
 | [.d (.int .i64 n),.d (.int .i64 m)]=>n<m/\K (.tuple []) d ts
 | _=>False
def iR {α:Type} (enc:Pl->α->PV) (P:Nat->Ts->R α) (ok:Nat->Prop):Zh:=iSp fun rest pl d ts K=>match rest with
 | []=>ok d/\∃x t1,P d ts=.ok x t1/\K (enc pl x) d t1
 | _=>False
def Zes:PC w0 nG 205 Xd:=by
 refine pwe Tryz.func205 fun args σ K h=>?_
 exact mq80
def ZaJ:PC w0 nG 64 JY:=by
 refine pwe Tryz.func64 fun args σ K h=>?_
 unfold JY iSp at h
 split at h
 ·rename_i rest t rows a en dp w q
  obtain ⟨L,d,ts,⟨rfl,rfl,rfl⟩,ho,h⟩:=h;split at h
  ·refine pwv [] 1 false ?_;refine ZGr (fun hc=>wN ?_) (fun hc=>?_)
   ·obtain ⟨h0,x,hx,fe,ai,kb,eg⟩:=ho.at0 hc;rw [eg] at h;refine ⟨_,h0,hx,wN ?_⟩;exact h _ _ oM ho
   obtain rfl:=ho.nil hc;rw [Tj,Uf] at h;(conv=>whnf);exact h _ _ oM ho
  exact h.elim
 exact h.elim
def Xt:PC w0 nG 38 XI:=by
 refine pwe Tryz.func38 fun args σ K h=>?_
 unfold XI iSp at h
 split at h
 ·rename_i rest t rows a en dp w q
  obtain ⟨L,d,ts,⟨rfl,rfl,rfl⟩,ho,h⟩:=h;split at h
  ·rename_i m wd
   obtain ⟨n,⟨rfl,hn⟩,h⟩:=h;have r1:=ho.lo;have r2:=ho.hi;have r3:=ho.big;refine pwv [] 1 false ?_;refine Zk ?_;refine ZGr (fun hc=>wN ?_) (fun hc=>wN ?_)
   ·have hc:((ZB L).length:Int)<=a+n:=hc;rw [ZS] at hc;have hlen:=ho.len;exact h _ (by rw [Tm oM];rfl) _ _ oM ho
   have hc:a+n<((ZB L).length:Int):=by have hc:¬((ZB L).length:Int)<=a+n:=hc;omega
   obtain ⟨h0,x,hx,fe,ai,kb,eg⟩:=ho.at' n hc;have hv:isW (ts.drop n) [wd]=((decide (x.kind=1) || decide (x.kind=4)) && (x.text == wd)):=by
    simp only [isW,fe,SH,List.contains_nil,Sm];rfl
   rw [hv] at h;refine ⟨_,h0,hx,wN ?_⟩;refine ZGr (fun h1=>wN ?_) (fun h1=>wN ?_)
   ·refine ZGr (fun h2=>wN ?_) (fun h2=>wN ?_)
    ·have h2:x.kind=1:=by have h2:(x.kind:Int)=1:=h2;omega
     exact h _ (by rw [h1,h2];simp) _ _ oM ho
    have h2:¬x.kind=1:=by have h2:¬(x.kind:Int)=1:=h2;omega
    exact h _ (by rw [h1];simp [h2];omega) _ _ oM ho
   have h1:(x.text == wd)=false:=by simpa using h1
   exact h _ (by rw [h1,Bool.and_false]) _ _ oM ho
  exact h.elim
 exact h.elim
def ZsB:Tbl:=[(98,ZcM)]
def ZaK:PC w0 nG 58 UQ:=by
 refine pwt (tbl:=ZsB) ⟨ZjJ,trivial⟩ Tryz.func58 fun args σ K h=>?_
 unfold UQ iSp at h
 split at h
 ·rename_i rest t rows a en dp w q
  obtain ⟨L,d,ts,⟨rfl,rfl,rfl⟩,ho,h⟩:=h;split at h
  ·obtain ⟨rfl,h⟩:=h;refine pwv [] 1 false ?_;refine Or.inl ⟨by rw [Int.add_zero];exact ho.inr,?_⟩;rw [Int.add_zero];(conv=>whnf);refine ZGr (fun hc=>wN ?_) (fun hc=>?_)
   ·obtain ⟨h0,x,hx,fe,ai,kb,eg⟩:=ho.at0 hc;rw [ZF,fe] at h;have hv:∀b,(decide (x.kind=1) && (!decide (x.text=[95]) && !Za8 x.text))=b->∀a' dp',a<=a'->IK L a' dp' d ts->K (.ret (.d (.bool b))) ⟨[UZ t L a' en dp'],[],0⟩:=h;refine ⟨_,h0,hx,wN ?_⟩;refine ZGr (fun h1=>wN ?_) (fun h1=>wN ?_)
    ·have h1:x.kind=1:=by have h1:(x.kind:Int)=1:=h1;omega
     refine ⟨_,h0,hx,wN ?_⟩;refine ZGu (fun h2=>wN ?_) (fun h2=>wN ?_)
     ·refine ⟨_,h0,hx,wN ?_⟩;intro b hb
      cases b
      all_goals
       conv=>whnf
       exact hv _ (by rw [h1,hb];simpa using h2) _ _ oM ho
     have h2:x.text=[95]:=by simpa using h2
     exact hv _ (by rw [h2];simp) _ _ oM ho
    have h1:¬x.kind=1:=by have h1:¬(x.kind:Int)=1:=h1;omega
    exact hv _ (by rw [decide_eq_false h1,Sa]) _ _ oM ho
   obtain rfl:=ho.nil hc;(conv=>whnf);exact h _ rfl _ _ oM ho
  exact h.elim
 exact h.elim
def Zvg:Tbl:=[(38,XI)]
def UR:PC w0 nG 99 Ut:=by
 refine pwt (tbl:=Zvg) ⟨Xt,trivial⟩ Tryz.func99 fun args σ K h=>?_
 unfold Ut iSp at h
 split at h
 ·rename_i rest t rows a en dp w q
  obtain ⟨L,d,ts,⟨rfl,rfl,rfl⟩,ho,h⟩:=h;split at h
  ·obtain ⟨hw,h⟩:=h;refine pwv [] 1 false ?_;refine ⟨L,d,ts,⟨rfl,rfl,rfl⟩,ho,0,⟨rfl,oM⟩,fun b hb=>?_⟩;obtain rfl:b=true:=hb.symm.trans hw;intro a1 dp1 cf ah
   have hn:=ah.tl (Yy hw);(conv=>whnf);refine Or.inl ⟨hn.inr,wN ?_⟩;exact h _ _ oM hn
  exact h.elim
 exact h.elim
def Zvh:Tbl:=[(38,XI),(99,Ut)]
def ZaL:PC w0 nG 102 JZ:=by
 refine pwt (tbl:=Zvh) ⟨Xt,UR,trivial⟩ Tryz.func102 fun args σ K h=>?_
 unfold JZ iSp at h
 split at h
 ·rename_i rest t rows a en dp w q
  obtain ⟨L,d,ts,⟨rfl,rfl,rfl⟩,ho,h⟩:=h;split at h
  ·obtain ⟨hw,e,rfl,h⟩:=h;refine pwv [] 1 false ?_;refine ⟨L,_,ts,⟨rfl,rfl,rfl⟩,ho,0,⟨rfl,oM⟩,fun b hb=>?_⟩;obtain rfl:b=true:=hb.symm.trans hw;intro a1 dp1 cf ah
   have z1:=ah.dpe;(conv=>whnf);refine ZGr (fun hc=>absurd (show dp1=64 from hc) oM) (fun hc=>wN ?_);refine ⟨L,_,ts,⟨rfl,rfl,rfl⟩,ah,hw,?_⟩;intro a2 dp2 dg ac
   have z2:=ac.dpe;have z3:=ac.d64;(conv=>whnf);refine Zk ?_;exact h _ _ oM ⟨ac.toROK,oM,oM,ac.kinds⟩
  exact h.elim
 exact h.elim
def Zvi:Tbl:=[(99,Ut)]
def ZcN:PC w0 nG 103 Zbw:=by
 refine pwt (tbl:=Zvi) ⟨UR,trivial⟩ Tryz.func103 fun args σ K h=>?_
 unfold Zbw iSp at h
 split at h
 ·rename_i rest t rows a en dp w q
  obtain ⟨L,d,ts,⟨rfl,rfl,rfl⟩,ho,h⟩:=h;split at h
  ·obtain ⟨⟨hw,aiz⟩,h⟩:=h;refine pwv [] 1 false ?_;refine ⟨L,_,ts,⟨rfl,rfl,rfl⟩,ho,hw,?_⟩;intro a2 dp2 dg ac
   have z2:=ac.dpe;(conv=>whnf);refine Zk ?_;exact h _ _ oM ⟨ac.toROK,oM,oM,ac.kinds⟩
  exact h.elim
 exact h.elim
def Zvj:Tbl:=[(58,UQ)]
def ZcO:PC w0 nG 65 Zbx:=by
 refine pwt (tbl:=Zvj) ⟨ZaK,trivial⟩ Tryz.func65 fun args σ K h=>?_
 unfold Zbx iSp at h
 split at h
 ·rename_i rest t rows a en dp w q
  obtain ⟨L,d,ts,⟨rfl,rfl,rfl⟩,ho,h⟩:=h;split at h
  ·obtain ⟨hw,h⟩:=h;refine pwv [] 1 false ?_;refine ⟨L,_,ts,⟨rfl,rfl,rfl⟩,ho,rfl,fun b hb=>?_⟩;obtain rfl:b=true:=hb.symm.trans hw;intro a1 dp1 cf ah
   have ai:=ZdD hw;have hn:=ah.tl ai;obtain ⟨h0,x,hx,fe,_⟩:=ah.at0 (ah.lt ai);rw [fe] at h;(conv=>whnf);refine Or.inl ⟨hn.inr,wN ?_⟩;refine Or.inl ⟨by rw [TQ];exact ah.inr,?_⟩;rw [TQ];(conv=>whnf);refine ⟨_,h0,hx,wN ?_⟩;exact h _ _ oM hn
  exact h.elim
 exact h.elim
def ZcP:PC w0 nG 59 Zby:=by
 refine pwe Tryz.func59 fun args σ K h=>?_
 unfold Zby iSp at h
 split at h
 ·rename_i rest t rows a en dp w q
  obtain ⟨L,d,ts,⟨rfl,rfl,rfl⟩,ho,h⟩:=h;split at h
  ·rename_i n m
   obtain ⟨aa,h⟩:=h;refine pwv [] 1 false ?_;refine ZGr (fun hc=>absurd (show n>=m from hc) oM) (fun hc=>wN ?_);exact h _ _ oM ho
  exact h.elim
 exact h.elim
end Go.PM.Lex
end

section
namespace Go.PM.Lex
open Go.Proofs
variable {w0:World} {nG:Nat}
def Zet {α:Type} (sign:Bs) (one:Ts->R α):Nat->List α->Ts->R (List α)
 | 0,_,_=>.err 0 150
 | f+1,l,ts=>(one ts).bind fun x ts=>if isW ts [sign]=true then Zet sign one f (l++[x]) ts.tail else .ok (l++[x]) ts
def US {α:Type} {sign:Bs} {one:Ts->R α} {f:Nat} {l x:List α} {ts t1:Ts} (h:Zet sign one f l ts=.ok x t1):∃g v t2,f=g+1/\one ts=.ok v t2/\(isW t2 [sign]=true->Zet sign one g (l++[v]) t2.tail=.ok x t1)/\(isW t2 [sign]=false->x=l++[v]/\t1=t2):=by
 cases f with
 | zero=>cases h
 | succ g =>
 obtain ⟨v,t2,h1,h⟩:=ZGC h;refine ⟨g,v,t2,rfl,h1,fun hb=>?_,fun hb=>?_⟩
 ·rwa [Ti hb] at h
 rw [Te (by rw [hb];simp)] at h;cases h;exact ⟨rfl,rfl⟩
def Zeu (fin:Bs) (ts:Ts):R (List Fi):=if isW ts [fin]=true then .ok [] ts else Zet [44] WY 12 [] ts
def ZDk (ts:Ts):R Ca:=(YM ts).bind fun a ts=>(ZN [123] ts).bind fun _ ts=>(Zeu [125] ts).bind fun l ts=>(ZN [125] ts).bind fun _ ts=>.ok ⟨a,l⟩ ts
def ZsC (t0:Ts):R Ty:=(YM t0).bind fun nm ts =>
 if isW ts [[60,58]]=true then (YM ts.tail).bind fun b ts=>.ok ⟨1,nm,b,[],[],t0.length⟩ ts
 else (ZN [61] ts).bind fun _ ts =>
  if isW ts [[91]]=true then (Zeu [93] ts.tail).bind fun l ts=>(ZN [93] ts).bind fun _ ts=>.ok ⟨2,nm,[],l,[],t0.length⟩ ts
  else (Zet [124] ZDk 64 [] ts).bind fun l ts=>.ok ⟨3,nm,[],[],l,t0.length⟩ ts
def Zgi:Nat->Bool->Bool->Bool->Ts->R (Bool×Bool×Bool)
 | 0,_,_,_,_=>.err 0 150
 | f+1,i,o,n,ts=>if isW ts [[105,110,112,117,116]]=true/\i=false then Zgi f true o n ts.tail
   else if isW ts [[111,117,116,112,117,116]]=true/\o=false then Zgi f i true n ts.tail
   else if isW ts [[105,110,108,105,110,101]]=true/\n=false then Zgi f i o true ts.tail
   else .ok (i,o,n) ts
def ZAp (t0:Ts):R Re:=(YM t0).bind fun nm ts=>(ZN [40] ts).bind fun _ ts=>(Zeu [41] ts).bind fun l ts=>(ZN [41] ts).bind fun _ ts =>
 (Zgi 4 false false false ts).bind fun r ts=>.ok ⟨nm,l,r.1,r.2.1,r.2.2,t0.length⟩ ts
def ZAV (L:List Tok):List PV->St->Nat:=fun _ σ=>match σ with | ⟨.cells _ [_,.d (.int _ i),_,_,_,_]::_,_,_⟩=>((L.length:Int) - i).toNat | _=>0
def ZaM:Zh:=iSp fun rest pl d ts K=>match rest with
 | [.d (.str w)]=>∃x t1,Zeu w ts=.ok x t1/\K (.d (.sl (x.map Zp))) d t1
 | _=>False
def UT:Tbl:=[(38,XI),(58,UQ),(59,Zby),(65,Zbx),(99,Ut)]
def Vy:TO w0 nG UT:=⟨Xt,ZaK,ZcP,ZcO,UR,trivial⟩
def Zgj:PC w0 nG 100 ZaM:=by
 refine pwt (tbl:=UT) Vy Tryz.func100 fun args σ K h=>?_
 unfold ZaM iSp at h
 split at h
 ·rename_i rest t rows a en dp w q
  obtain ⟨L,d,ts,⟨rfl,rfl,rfl⟩,ho,h⟩:=h;split at h
  ·rename_i wd
   obtain ⟨x,t1,hx,h⟩:=h;unfold Zeu at hx
   refine pwv [(4,⟨[5],[0],fun vs σ=>∃(l:List Fi) (f:Nat) (a' dp':Int) (ts':Ts),vs=[.sl 0 188 (l.map Zp)]/\σ=⟨[UZ t L a' en dp'],[0],1⟩/\a<=a'/\IK L a' dp' d ts'/\l.length+f=12/\Zet [44] WY f l ts'=.ok x t1,ZAV L⟩)] 1 false ?_;refine ⟨L,d,ts,⟨rfl,rfl,rfl⟩,ho,0,⟨rfl,oM⟩,fun b0 jp=>?_⟩;have jp:isW ts [wd]=b0:=jp;rw [jp] at hx;intro a1 dp1 cf ah
   cases b0 with
   | true =>
    rw [Ti rfl] at hx
    cases hx
    conv=>whnf
    exact h _ _ oM ah
   | false =>
   rw [Te sM] at hx;(conv=>whnf);refine ⟨⟨[],12,a1,dp1,ts,rfl,rfl,oM,ah,rfl,hx⟩,?_⟩;intro vs σ hI
   obtain ⟨l,f,a2,dp2,ts2,rfl,rfl,dg,ac,hf,hx⟩:=hI;obtain ⟨g,v,t2,rfl,hv,hm,he⟩:=US hx;obtain ⟨s1,u1,g1,hv⟩:=ZGC hv;obtain ⟨cy,rfl,rfl⟩:=ZhR g1;obtain ⟨_,u2,g2,hv⟩:=ZGC hv;obtain ⟨il,rfl⟩:=Zeq g2;obtain ⟨s3,u3,g3,hv⟩:=ZGC hv;obtain ⟨nt,rfl,rfl⟩:=ZhR g3
   cases hv
   conv=>whnf
   refine ⟨L,_,_,⟨rfl,rfl,rfl⟩,ac,rfl,fun b hb=>?_⟩;obtain rfl:b=true:=hb.symm.trans cy;intro a3 dp3 ct am
   have oq:(l.map Zp).length<=12:=by rw [Td];omega
   conv=>whnf
   refine ⟨L,_,_,⟨rfl,rfl,rfl⟩,am,(by rw [Td];omega),?_⟩;intro a4 dp4 fc bz
   conv=>whnf
   refine ⟨L,_,_,⟨rfl,rfl,rfl⟩,bz,cy,?_⟩;intro a5 dp5 jn cn
   conv=>whnf
   refine ⟨L,_,_,⟨rfl,rfl,rfl⟩,cn,il,?_⟩;intro a6 dp6 n7 eh
   conv=>whnf
   refine ⟨L,_,_,⟨rfl,rfl,rfl⟩,eh,nt,?_⟩;intro a7 dp7 yj im
   conv=>whnf
   refine ⟨Tq.2 rfl,(show ((l.map Zp).length+1) * 32<=2 ^ 47 by omega),(show (l.map Zp).length+1<=2 ^ 47 by omega),wN ?_⟩;refine ⟨L,_,_,⟨rfl,rfl,rfl⟩,im,0,⟨rfl,oM⟩,fun b hb=>?_⟩;intro a8 dp8 yk iz
   cases b with
   | true =>
    have hn:=iz.tl (Yy hb);have hh:=hn.hi;(conv=>whnf);refine Or.inl ⟨hn.inr,wN ?_⟩;refine ⟨⟨l++[_],g,_,_,_,by rw [TM];rfl,rfl,oM,hn,by rw [Tc];simp only [Tf,Tj];omega,hm hb⟩,?_⟩;show ((L.length:Int) - (a8+1)).toNat<((L.length:Int) - a2).toNat;omega
   | false =>
   obtain ⟨rfl,rfl⟩:=he hb;rw [TM] at h;(conv=>whnf);exact h _ _ oM iz
  exact h.elim
 exact h.elim
def ZhS:Zh:=iR (fun pl v=>Ug (Z6 pl v)) (fun _=>ZsC) (fun _=>True)
def ZsD:Tbl:=(64,JY)::(100,ZaM)::UT
def ZsE:PC w0 nG 60 ZhS:=by
 refine pwt (tbl:=ZsD) ⟨ZaJ,Zgj,Vy⟩ Tryz.func60 fun args σ K h=>?_
 unfold ZhS iR iSp at h
 split at h
 ·rename_i rest t rows a en dp w q
  obtain ⟨L,d,ts,⟨rfl,rfl,rfl⟩,ho,h⟩:=h;split at h
  ·obtain ⟨_,x,t1,hx,h⟩:=h;unfold ZsC at hx
   obtain ⟨s1,u1,g1,hx⟩:=ZGC hx;obtain ⟨cy,rfl,rfl⟩:=ZhR g1;obtain ⟨xl,hxl⟩:∃xl:List Ca,x.cases=xl:=⟨_,rfl⟩
   refine pwu [(16,⟨[],[0,2,3],fun vs σ=>∃(l:List Ca) (f:Nat) (a' dp':Int) (ts':Ts),vs=[] /\
     σ=⟨[UZ t L a' en dp',.cells 122 [.d (.int .u8 0),.d (.str []),.d (.str []),.sl 0 188 [],.sl 1 155 [],.d (.int .i64 0)],
      .cells 122 [.d (.int .u8 3),.d (.str (hd ts).text),.d (.str []),.sl 2 188 [],.sl 3 155 (l.map XF),.d (.int .i64 (Zb L en ts.length))]],[3,2,1,0],4⟩/\a<=a'/\IK L a' dp' d ts'/\l.length+f=64/\Zet [124] ZDk f l ts'=.ok xl t1,ZAV L⟩)] 1 false ?_
   conv=>whnf
   refine ⟨L,_,_,⟨rfl,rfl,rfl⟩,ho,?_⟩;intro a1 dp1 cf ah
   conv=>whnf
   refine ⟨L,_,_,⟨rfl,rfl,rfl⟩,ah,cy,?_⟩;intro a2 dp2 dg ac
   conv=>whnf
   refine ⟨L,_,_,⟨rfl,rfl,rfl⟩,ac,0,⟨rfl,oM⟩,fun b1 bq=>?_⟩;have bq:isW ts.tail [[60,58]]=b1:=bq;rw [bq] at hx;intro a3 dp3 ct am
   cases b1 with
   | true =>
    rw [Ti rfl] at hx;obtain ⟨s2,u2,g2,hx⟩:=ZGC hx;obtain ⟨il,rfl,rfl⟩:=ZhR g2
    cases hx
    have hn:=am.tl (Yy bq);(conv=>whnf);refine Or.inl ⟨hn.inr,wN ?_⟩;refine ⟨L,_,_,⟨rfl,rfl,rfl⟩,hn,il,?_⟩;exact mq121
   | false =>
   rw [Te sM] at hx;obtain ⟨_,u2,g2,hx⟩:=ZGC hx;obtain ⟨il,rfl⟩:=Zeq g2;(conv=>whnf);refine ⟨L,_,_,⟨rfl,rfl,rfl⟩,am,il,?_⟩;intro a4 dp4 fc bz
   conv=>whnf
   refine ⟨L,_,_,⟨rfl,rfl,rfl⟩,bz,0,⟨rfl,oM⟩,fun b2 dj=>?_⟩;have dj:isW ts.tail.tail [[91]]=b2:=dj;rw [dj] at hx;intro a5 dp5 jn cn
   cases b2 with
   | true =>
    rw [Ti rfl] at hx;obtain ⟨l3,u3,g3,hx⟩:=ZGC hx;obtain ⟨_,u4,g4,hx⟩:=ZGC hx;obtain ⟨jx,rfl⟩:=Zeq g4
    cases hx
    have hn:=cn.tl (Yy dj);(conv=>whnf);refine Or.inl ⟨hn.inr,wN ?_⟩;refine ⟨L,_,_,⟨rfl,rfl,rfl⟩,hn,_,_,g3,?_⟩;intro a6 dp6 n7 eh
    conv=>whnf
    refine ⟨L,_,_,⟨rfl,rfl,rfl⟩,eh,jx,?_⟩;intro a7 dp7 yj im
    conv=>whnf
    exact h _ _ oM im
   | false =>
   rw [Te sM] at hx;obtain ⟨l3,u3,g3,hx⟩:=ZGC hx
   cases hx
   obtain rfl:l3=xl:=hxl;(conv=>whnf);refine ⟨⟨[],64,_,_,_,rfl,rfl,oM,cn,rfl,g3⟩,?_⟩;intro vs σ hI
   obtain ⟨l,f,a2,dp2,ts2,rfl,rfl,dg,ac,hf,hx⟩:=hI;obtain ⟨g,v,t2,rfl,hv,hm,he⟩:=US hx;obtain ⟨s1,u1,g1,hv⟩:=ZGC hv;obtain ⟨cy,rfl,rfl⟩:=ZhR g1;obtain ⟨_,u2,g2,hv⟩:=ZGC hv;obtain ⟨il,rfl⟩:=Zeq g2;obtain ⟨l5,u3,g3,hv⟩:=ZGC hv;obtain ⟨_,u4,g4,hv⟩:=ZGC hv;obtain ⟨jx,rfl⟩:=Zeq g4
   cases hv
   conv=>whnf
   refine ⟨L,_,_,⟨rfl,rfl,rfl⟩,ac,rfl,fun b hb=>?_⟩;obtain rfl:b=true:=hb.symm.trans cy;intro a3 dp3 ct am
   have oq:(l.map XF).length<=64:=by rw [Td];omega
   conv=>whnf
   refine ⟨L,_,_,⟨rfl,rfl,rfl⟩,am,(by rw [Td];omega),?_⟩;intro a4 dp4 fc bz
   conv=>whnf
   refine ⟨L,_,_,⟨rfl,rfl,rfl⟩,bz,cy,?_⟩;intro a5 dp5 jn cn
   conv=>whnf
   refine ⟨L,_,_,⟨rfl,rfl,rfl⟩,cn,il,?_⟩;intro a6 dp6 n7 eh
   conv=>whnf
   refine ⟨L,_,_,⟨rfl,rfl,rfl⟩,eh,_,_,g3,?_⟩;intro a7 dp7 yj im
   conv=>whnf
   refine ⟨L,_,_,⟨rfl,rfl,rfl⟩,im,jx,?_⟩;intro a8 dp8 yk iz
   conv=>whnf
   refine ⟨Tq.2 rfl,(show ((l.map XF).length+1) * 40<=2 ^ 47 by omega),(show (l.map XF).length+1<=2 ^ 47 by omega),wN ?_⟩;refine ⟨L,_,_,⟨rfl,rfl,rfl⟩,iz,0,⟨rfl,oM⟩,fun b hb=>?_⟩;intro a9 dp9 hl9 fg
   cases b with
   | true =>
    have hn:=fg.tl (Yy hb);have hh:=hn.hi;(conv=>whnf);refine Or.inl ⟨hn.inr,wN ?_⟩;refine ⟨⟨l++[_],g,_,_,_,rfl,by rw [TM];rfl,oM,hn,by rw [Tc];simp only [Tf,Tj];omega,hm hb⟩,?_⟩;show ((L.length:Int) - (a9+1)).toNat<((L.length:Int) - a2).toNat;omega
   | false =>
   obtain ⟨rfl,rfl⟩:=he hb;simp only [Z6,TM,Tx,TN] at h;(conv=>whnf);exact h _ _ oM fg
  exact h.elim
 exact h.elim
def Zh2 (i o n:Bool):Nat:=(if i then 0 else 1)+(if o then 0 else 1)+(if n then 0 else 1)
def Zlq:Zh:=iR (fun pl v=>Ug (Zu pl v)) (fun _=>ZAp) (fun _=>True)
def Zvk:Tbl:=(64,JY)::(100,ZaM)::UT
def Zvl:PC w0 nG 61 Zlq:=by
 refine pwt (tbl:=Zvk) ⟨ZaJ,Zgj,Vy⟩ Tryz.func61 fun args σ K h=>?_
 unfold Zlq iR iSp at h
 split at h
 ·rename_i rest t rows a en dp w q
  obtain ⟨L,d,ts,⟨rfl,rfl,rfl⟩,ho,h⟩:=h;split at h
  ·obtain ⟨_,x,t1,hx,h⟩:=h;unfold ZAp at hx
   obtain ⟨s1,u1,g1,hx⟩:=ZGC hx;obtain ⟨cy,rfl,rfl⟩:=ZhR g1;obtain ⟨_,u2,g2,hx⟩:=ZGC hx;obtain ⟨il,rfl⟩:=Zeq g2;obtain ⟨fl,u3,g3,hx⟩:=ZGC hx;obtain ⟨_,u4,g4,hx⟩:=ZGC hx;obtain ⟨jx,rfl⟩:=Zeq g4;obtain ⟨r,u5,g5,hx⟩:=ZGC hx
   cases hx
   refine pwu [(6,⟨[],[0,2,3],fun vs σ=>∃(f:Nat) (i o n:Bool) (a' dp':Int) (ts':Ts),vs=[] /\
     σ=⟨[UZ t L a' en dp',.cells 53 [.d (.str []),.sl 0 188 [],.d (.bool false),.d (.bool false),.d (.bool false),.d (.int .i64 0)],
      .cells 53 [.d (.str (hd ts).text),.d (.sl (fl.map Zp)),.d (.bool i),.d (.bool o),.d (.bool n),.d (.int .i64 (Zb L en ts.length))]],[0],1⟩/\a<=a'/\IK L a' dp' d ts'/\Zgi f i o n ts'=.ok r t1,
    fun _ σ=>match σ with | ⟨[_,_,.cells _ [_,_,.d (.bool i),.d (.bool o),.d (.bool n),_]],_,_⟩=>Zh2 i o n | _=>0⟩)] 1 false ?_
   conv=>whnf
   refine ⟨L,_,_,⟨rfl,rfl,rfl⟩,ho,?_⟩;intro a1 dp1 cf ah
   conv=>whnf
   refine ⟨L,_,_,⟨rfl,rfl,rfl⟩,ah,cy,?_⟩;intro a2 dp2 dg ac
   conv=>whnf
   refine ⟨L,_,_,⟨rfl,rfl,rfl⟩,ac,il,?_⟩;intro a3 dp3 ct am
   conv=>whnf
   refine ⟨L,_,_,⟨rfl,rfl,rfl⟩,am,_,_,g3,?_⟩;intro a4 dp4 fc bz
   conv=>whnf
   refine ⟨L,_,_,⟨rfl,rfl,rfl⟩,bz,jx,?_⟩;intro a5 dp5 jn cn
   conv=>whnf
   refine ⟨⟨4,false,false,false,_,_,_,rfl,rfl,oM,cn,g5⟩,?_⟩;intro vs σ hI
   obtain ⟨f,i,o,n,a6,dp6,ts6,rfl,rfl,n7,eh,hx⟩:=hI
   cases f with
   | zero=>cases hx
   | succ f =>
   rw [Zgi] at hx;(conv=>whnf);refine ⟨L,_,_,⟨rfl,rfl,rfl⟩,eh,0,⟨rfl,oM⟩,fun b1 bq=>?_⟩;have bq:isW ts6 [[105,110,112,117,116]]=b1:=bq;rw [bq] at hx;intro a7 dp7 yj im
   by_cases h1:b1=true/\i=false
   ·rw [Ti h1] at hx;obtain ⟨rfl,rfl⟩:=h1;have hn:=im.tl (Yy bq);(conv=>whnf);refine Or.inl ⟨hn.inr,wN ?_⟩;refine ⟨⟨f,true,o,n,_,_,_,rfl,rfl,oM,hn,hx⟩,?_⟩;show Zh2 true o n<Zh2 false o n;simp only [Zh2];cases o <;> cases n <;> decide
   rw [Te h1] at hx
   cases b1
   case' true=>obtain rfl:i=true:=by cases i with | true=>rfl | false=>exact absurd ⟨rfl,rfl⟩ h1
   all_goals
    conv=>whnf
    refine ⟨L,_,_,⟨rfl,rfl,rfl⟩,im,0,⟨rfl,oM⟩,fun b2 dj=>?_⟩;have dj:isW ts6 [[111,117,116,112,117,116]]=b2:=dj;rw [dj] at hx;intro a8 dp8 yk iz
    by_cases h2:b2=true/\o=false
    ·rw [Ti h2] at hx;obtain ⟨rfl,rfl⟩:=h2;have hn:=iz.tl (Yy dj);(conv=>whnf);refine Or.inl ⟨hn.inr,wN ?_⟩;refine ⟨⟨f,_,true,n,_,_,_,rfl,rfl,oM,hn,hx⟩,?_⟩
     first | show Zh2 i true n<Zh2 i false n | show Zh2 true true n<Zh2 true false n
     simp only [Zh2];simp
    rw [Te h2] at hx
    cases b2
    case' true=>obtain rfl:o=true:=by cases o with | true=>rfl | false=>exact absurd ⟨rfl,rfl⟩ h2
    all_goals
     conv=>whnf
     refine ⟨L,_,_,⟨rfl,rfl,rfl⟩,iz,0,⟨rfl,oM⟩,fun b3 ib=>?_⟩;have ib:isW ts6 [[105,110,108,105,110,101]]=b3:=ib;rw [ib] at hx;intro a9 dp9 hl9 fg
     by_cases h3:b3=true/\n=false
     ·rw [Ti h3] at hx;obtain ⟨rfl,rfl⟩:=h3;have hn:=fg.tl (Yy ib);(conv=>whnf);refine Or.inl ⟨hn.inr,wN ?_⟩;refine ⟨⟨f,_,_,true,_,_,_,rfl,rfl,oM,hn,hx⟩,?_⟩
      first | show Zh2 i o true<Zh2 i o false | show Zh2 true o true<Zh2 true o false | show Zh2 i true true<Zh2 i true false | show Zh2 true true true<Zh2 true true false
      simp only [Zh2];simp
     rw [Te h3] at hx
     cases hx
     cases b3
     case' true=>obtain rfl:n=true:=by cases n with | true=>rfl | false=>exact absurd ⟨rfl,rfl⟩ h3
     all_goals
      conv=>whnf
      exact h _ _ oM fg
  exact h.elim
 exact h.elim
def ZDl (l:Nat):List Bs:=if l=0 then [[98,111,114],[98,120,111,114]] else if l=1 then [[98,97,110,100]] else if l=2 then [[115,104,108],[115,104,114]] else if l=3 then [[43],[45]] else [[42],[47],[37]]
def ZDm (l:Nat):List Nat:=if l=0 then [16,17] else if l=1 then [15] else if l=2 then [18,19] else if l=3 then [10,11] else [12,13,14]
def opJ (ts:Ts):List Bs->List Nat->Nat->Nat
 | w::ws,o::os,r=>opJ ts ws os (if isW ts [w]=true then o else r)
 | _,_,r=>r
def Zvm (sub:Ts->R Ex) (ln:Nat):Nat->Ex->Ts->R Ex
 | 0,_,_=>.err 0 150
 | f+1,e,ts=>if opJ ts (ZDl ln) (ZDm ln) 0=0 then .ok e ts else (sub ts.tail).bind fun g ts'=>Zvm sub ln f (.mk (opJ ts (ZDl ln) (ZDm ln) 0) [] 0 [e,g] e.at') ts'
def ZAq (sg:Ts->R Ex):Nat->Ts->R Ex
 | 0,ts=>sg ts
 | k+1,ts=>(ZAq sg k ts).bind fun e ts'=>Zvm (ZAq sg k) (4 - k) (ts'.length+1) e ts'
def ZsF (d:Nat) (ex:Ts->R Ex) (fr tt:Bs) (ts:Ts):R (List Ex):=Zq d fr tt (fun ts=>if isW ts [tt]=true then .ok [] ts else Zet [44] ex 12 [] ts) ts
def Zlr (ex:Ts->R Ex):Nat->Nat->List Ex->Ts->R (List Ex)
 | 0,_,l,ts=>.ok l ts
 | k+1,i,l,ts=>(if i=0 then .ok () ts else ZN [44] ts).bind fun _ ts=>(ex ts).bind fun e ts=>Zlr ex k (i+1) (l++[e]) ts
def ZoR (d:Nat) (ex:Ts->R Ex) (ts:Ts):R Ex :=
 if ZP ts=false then .err ts.length 150
 else if (hd ts).kind=2 then .ok (.mk 3 [] (hd ts).n [] ts.length) ts.tail
 else if (hd ts).kind=3 then .ok (.mk 4 (hd ts).text 0 [] ts.length) ts.tail
 else if (hd ts).text=[40] then Zq d [40] [41] ex ts
 else if (hd ts).text=[91] then (ZsF d ex [91] [93] ts).bind fun l ts'=>.ok (.mk 6 [] 0 l ts.length) ts'
 else if (hd ts).text=[36] then (YM ts.tail).bind fun nm ts'=>if isW ts' [[40]]=true then (ZsF d ex [40] [41] ts').bind fun l ts'=>.ok (.mk 7 nm 0 l ts.length) ts' else .ok (.mk 7 nm 0 [] ts.length) ts'
 else if (hd ts).text=[110,105,108] then .ok (.mk 5 [] 0 [] ts.length) ts.tail
 else if (hd ts).text=[95] then .ok (.mk 2 [] 0 [] ts.length) ts.tail
 else if ZO (hd ts).text≠0 then (Zq d [40] [41] (Zlr ex (Wa (ZO (hd ts).text)) 0 []) ts.tail).bind fun l ts'=>.ok (.mk (ZO (hd ts).text) [] 0 l ts.length) ts'
 else .ok (.mk 1 (hd ts).text 0 [] ts.length) ts.tail
def ZDT (d:Nat) (sub:Ts->R Ex) (ts:Ts):R Ex :=
 if isW ts [[126]]=true then (Zq d [126] [] sub ts).bind fun e ts'=>.ok (.mk 9 [] 0 [e] ts.length) ts'
 else if isW ts [[45]]=true then (Zq d [45] [] sub ts).bind fun e ts'=>.ok (.mk 8 [] 0 [e] ts.length) ts'
 else ZoR d (ZAq sub 5) ts
def ZwE:Nat->Ts->R Ex
 | 0=>ZDT 0 fun _=>.err 0 150
 | d+1=>ZDT (d+1) (ZwE d)
def ZFP:Nat->Ts->R Ex
 | 0=>fun _=>.err 0 150
 | d+1=>ZwE d
def ZAr (d:Nat):ZwE d=ZDT d (ZFP d):=by cases d <;> rfl
def exJ (d:Nat):Ts->R Ex:=ZAq (ZwE d) 5
def exU (d:Nat):Ts->R Ex:=ZAq (ZFP d) 5
def Vz (n l:Nat):Zh:=iSp fun rest pl d ts K=>match rest with
 | [.d (.int .i64 i)]=>∃j:Nat,(i=j/\j<=5/\(d<n\/(d=n/\l<=j)))/\∃x t1,ZAq (ZwE d) (5 - j) ts=.ok x t1/\K (Ug (ZD pl x)) d t1
 | _=>False
abbrev Zev (P:Nat->Ts->R Ex) (n:Nat):Zh:=iR (fun pl v=>Ug (ZD pl v)) P (fun d=>d<n+1)
def Zew (n:Nat):Zh:=iSp fun rest pl d ts K=>match rest with
 | [.d (.str fr),.d (.str tt),.d (.bool b)]=>(b=true/\tt≠[]/\d<n+1)/\∃x t1,ZsF d (exU d) fr tt ts=.ok x t1/\K (.d (.sl (Ze pl x))) d t1
 | _=>False
def Zls (n:Nat):Zh:=iSp fun rest pl d ts K=>match rest with
 | [.agg [.d (.int .u8 op),.d (.str []),.d (.int .i64 m),.nils e,.d (.int .i64 p)]]=>(m=0/\e=67/\d<n+1)/\∃o:Nat,op=(o:Int)/\∃x t1,Zq d [40] [41] (Zlr (exU d) (Wa o) 0 []) ts=.ok x t1/\K (.agg [.d (.int .u8 op),.d (.str []),.d (.int .i64 0),.d (.sl (Ze pl x)),.d (.int .i64 p)]) d t1
 | _=>False
def ZoS:Tbl:=[(98,ZcM),(205,Xd)]
def Zbz:PC w0 nG 151 Us:=by
 refine pwt (tbl:=ZoS) ⟨ZjJ,Zes,trivial⟩ Tryz.func151 fun args σ K h=>?_
 unfold Us iSp at h
 split at h
 ·rename_i rest t rows a en dp w q
  obtain ⟨L,d,ts,⟨rfl,rfl,rfl⟩,ho,h⟩:=h;split at h
  ·refine pwv [] 1 false ?_;refine ZGr (fun hc=>?_) (fun hc=>wN ?_)
   ·obtain rfl:=ho.nil (show ¬a<((ZB L).length:Int) by have hc:a>=((ZB L).length:Int):=hc;omega);(conv=>whnf);exact h _ rfl _ _ oM ho
   have hc:a<((ZB L).length:Int):=by have hc:¬a>=((ZB L).length:Int):=hc;omega
   obtain ⟨h0,x,hx,fe,ai,kb,eg⟩:=ho.at0 hc;rw [ZP,fe] at h;have h:∀b,(if x.kind=2\/x.kind=3 then true else if x.kind=4 then isW ts [[45],[126],[40],[91],[36]] else if x.kind=1 then !Za8 x.text || (decide (x.text=[110,105,108]) || decide (ZO x.text≠0)) else false)=b->∀a' dp',a<=a'->IK L a' dp' d ts->K (.ret (.d (.bool b))) ⟨[UZ t L a' en dp'],[],0⟩:=h;refine ⟨_,h0,hx,wN ?_⟩
   (repeat (refine ⟨rfl,?_⟩;conv=>whnf))
   refine ZGr (fun h1=>wN ?_) (fun h1=>wN ?_)
   ·have h1:x.kind=2:=by have h1:(x.kind:Int)=2:=h1;omega
    refine ZGr (fun _=>wN ?_) (fun g=>absurd (by rw [h1];rfl) g);exact h _ (by rw [Ti (Or.inl h1)]) _ _ oM ho
   have h1:¬x.kind=2:=by have h1:¬(x.kind:Int)=2:=h1;omega
   refine ZGr (fun h2=>wN ?_) (fun h2=>wN ?_)
   ·have h2:x.kind=3:=by have h2:(x.kind:Int)=3:=h2;omega
    exact h _ (by rw [Ti (Or.inr h2)]) _ _ oM ho
   have h2:¬x.kind=3:=by have h2:¬(x.kind:Int)=3:=h2;omega
   rw [Te oM] at h;refine ZGr (fun h3=>wN ?_) (fun h3=>wN ?_)
   ·have h3:x.kind=4:=by have h3:(x.kind:Int)=4:=h3;omega
    have hw5:isW ts [[45],[126],[40],[91],[36]]=[[45],[126],[40],[91],[36]].contains x.text:=by
     rw [isW,fe];simp [Tok.t0,h3]
    rw [Ti h3,hw5] at h;refine ZGr (fun hq=>wN ?_) (fun hq=>wN ?_)
    ·exact mq51
    have hq0:¬x.text=[45]:=hq;refine ZGr (fun hq=>wN ?_) (fun hq=>wN ?_)
    ·exact mq51
    have ui:¬x.text=[126]:=hq;refine ZGr (fun hq=>wN ?_) (fun hq=>wN ?_)
    ·exact mq51
    have nh:¬x.text=[40]:=hq;refine ZGr (fun hq=>wN ?_) (fun hq=>wN ?_)
    ·exact mq51
    have hq3:¬x.text=[91]:=hq;exact h _ (by rw [Bool.eq_iff_iff,TH,List.contains_iff_mem];simp only [Tr,TT,SC,hq0,ui,nh,hq3,false_or]) _ _ oM ho
   have h3:¬x.kind=4:=by have h3:¬(x.kind:Int)=4:=h3;omega
   rw [Te h3,Ti oM] at h;intro b hb
   rw [hb] at h
   cases b with
   | false =>
    conv=>whnf
    exact h _ rfl _ _ oM ho
   | true =>
   conv=>whnf
   refine ZGr (fun h5=>wN ?_) (fun h5=>wN ?_)
   ·exact h _ (by rw [TY (p:=x.text=[110,105,108]) h5];rfl) _ _ oM ho
   intro n hn
   conv=>whnf
   exact h _ (by rw [decide_eq_false (p:=x.text=[110,105,108]) h5,<- hn];by_cases g:ZO x.text=0 <;> simp [g]) _ _ oM ho
  exact h.elim
 exact h.elim
def ZFc (o:Nat):List D:=[.int .u8 o]
def ZsG:Zh:=fun args σ K=>match args,σ with
 | [.d (.int .i64 i)],⟨[],[],0⟩=>∃n:Nat,i=n/\n<=4/\K (.ret (.tuple [.d (.sl ((ZDl n).map Xg)),.d (.sl ((ZDm n).map ZFc))])) ⟨[],[],0⟩
 | _,_=>False
def ZAs:PC w0 nG 207 ZsG:=by
 refine Zdo Zr mixed (tbl:=[]) trivial Tryz.func207 rfl kR kR ?_;intro args σ K h
 unfold ZsG at h
 split at h
 ·rename_i i
  obtain ⟨n,rfl,hn,h⟩:=h;refine ⟨Zg [],ZV [],ZC [],ZC [],ZC [],0,true,sM,Tb rfl,?_⟩;have et:n=0\/n=1\/n=2\/n=3\/n=4:=oM;rcases et with rfl | rfl | rfl | rfl | rfl
  all_goals
   conv=>whnf
   exact h
 exact h.elim
def ZhT {n:Nat} (he:PC w0 nG 152 (Vz n 6)):PC w0 nG 104 (Zew n):=by
 refine pwt (tbl:=[(102,JZ),(38,XI),(103,Zbw),(151,Us),(59,Zby),(152,Vz n 6)]) ⟨ZaL,Xt,ZcN,Zbz,ZcP,he,trivial⟩ Tryz.func104 fun args σ K h=>?_
 unfold Zew iSp at h
 split at h
 ·rename_i rest t rows a en dp w q
  obtain ⟨L,d,ts,⟨rfl,rfl,rfl⟩,ho,h⟩:=h;split at h
  ·rename_i fr tt bb
   obtain ⟨⟨rfl,htt,gj⟩,x,t1,hx,h⟩:=h;obtain ⟨hw,⟨e,rfl⟩,t2,hy,h2⟩:=Zer hx
   clear hx
   have hx:=hy
   clear hy
   obtain ⟨jm,rfl⟩:isW t2 [tt]=true/\t1=t2.tail:=by rcases h2 with ⟨g,_⟩ | g;exact absurd g htt;exact g.2
   have h64:=ho.d64;refine pwv [(6,⟨[9],[0,2],fun vs σ=>∃(l:List Ex) (f:Nat) (a' dp':Int) (ts':Ts),vs=[.sl 0 67 (l.map (ZD (Zb L en)))]/\σ=⟨[UZ t L a' en dp'],[0],1⟩/\a<=a'/\IK L a' dp' e ts'/\l.length+f=12/\Zet [44] (exJ e) f l ts'=.ok x t2,ZAV L⟩)] 1 false ?_;refine ⟨L,_,_,⟨rfl,rfl,rfl⟩,ho,hw,e,rfl,?_⟩;intro a1 dp1 cf ah
   conv=>whnf
   refine ⟨L,_,_,⟨rfl,rfl,rfl⟩,ah,0,⟨rfl,oM⟩,fun b hb=>?_⟩;have hb:isW ts.tail [tt]=b:=hb;rw [hb] at hx;intro a2 dp2 dg ac
   cases b with
   | true =>
    rw [Ti rfl] at hx
    cases hx
    conv=>whnf
    refine ⟨L,_,_,⟨rfl,rfl,rfl⟩,ac,⟨hb,oM⟩,?_⟩;intro a3 dp3 ct am
    conv=>whnf
    exact h _ _ oM am
   | false =>
   rw [Te sM] at hx;(conv=>whnf);refine ⟨⟨[],12,a2,dp2,_,rfl,rfl,oM,ac,rfl,hx⟩,?_⟩;intro vs σ hI
   obtain ⟨l,f,a3,dp3,ts3,rfl,rfl,ct,am,hf,hx⟩:=hI;obtain ⟨g,⟨eo,es,em,er,ep⟩,t4,rfl,hv,hm,hq⟩:=US hx;have oq:(l.map (ZD (Zb L en))).length<12:=by rw [Td];omega
   conv=>whnf
   refine ⟨L,_,_,⟨rfl,rfl,rfl⟩,am,fun b hb=>?_⟩;intro a4 dp4 fc bz
   have fc:a<=a4/\a3<=a4:=⟨oM,fc⟩
   cases b
   case' true =>
    conv=>whnf
    refine ⟨L,_,_,⟨rfl,rfl,rfl⟩,bz,(by rw [Td];omega),?_⟩;intro a5 dp5 jn cn
    have fc:a<=a5/\a3<=a5:=⟨oM,oM⟩
    clear bz jn
   all_goals
    conv=>whnf
    refine ⟨L,_,_,⟨rfl,rfl,rfl⟩,by assumption,0,⟨rfl,oM,.inl oM⟩,_,_,hv,?_⟩;intro a6 dp6 n7 eh
    conv=>whnf
    refine ⟨Tq.2 rfl,(show ((l.map (ZD (Zb L en))).length+1) * 64<=2 ^ 47 by omega),(show (l.map (ZD (Zb L en))).length+1<=2 ^ 47 by omega),wN ?_⟩;refine ⟨L,_,_,⟨rfl,rfl,rfl⟩,eh,0,⟨rfl,oM⟩,fun b hb=>?_⟩;intro a8 dp8 yk iz
    cases b with
    | true =>
     have hn:=iz.tl (Yy hb);have hh:=hn.hi;(conv=>whnf);refine Or.inl ⟨hn.inr,wN ?_⟩;refine ⟨⟨l++[.mk eo es em er ep],g,_,_,_,by rw [TM];rfl,rfl,oM,hn,by rw [Tc];simp only [Tf,Tj];omega,hm hb⟩,?_⟩;show ((L.length:Int) - (a8+1)).toNat<((L.length:Int) - a3).toNat;omega
    | false =>
    obtain ⟨rfl,rfl⟩:=hq hb;rw [Zc,TM] at h;(conv=>whnf);refine ⟨L,_,_,⟨rfl,rfl,rfl⟩,iz,⟨jm,oM⟩,?_⟩;intro a9 dp9 hl9 fg
    conv=>whnf
    exact h _ _ oM fg
  exact h.elim
 exact h.elim
def ZoT {ex:Ts->R Ex} {k i:Nat} {l x:List Ex} {ts t1:Ts} (h:Zlr ex (k+1) i l ts=.ok x t1):∃ts2 v t2,(if i=0 then ts2=ts else isW ts [[44]]=true/\ts2=ts.tail)/\ex ts2=.ok v t2/\Zlr ex k (i+1) (l++[v]) t2=.ok x t1:=by
 rw [Zlr] at h;obtain ⟨_,ts2,h1,h⟩:=ZGC h;obtain ⟨v,t2,h2,h⟩:=ZGC h;refine ⟨ts2,v,t2,?_,h2,h⟩;split at h1
 ·cases h1;rw [Ti (by assumption)]
 rw [Te (by assumption)];exact Zeq h1
def Zvp {n:Nat} (he:PC w0 nG 152 (Vz n 6)):PC w0 nG 269 (Zls n):=by
 refine pwt (tbl:=[(102,JZ),(99,Ut),(152,Vz n 6),(103,Zbw)]) ⟨ZaL,UR,he,ZcN,trivial⟩ Tryz.func269 fun args σ K h=>?_
 unfold Zls iSp at h
 split at h
 ·rename_i rest t rows a en dp w q
  obtain ⟨L,d,ts,⟨rfl,rfl,rfl⟩,ho,h⟩:=h;split at h
  ·rename_i op mm ee pp
   obtain ⟨⟨rfl,rfl,gj⟩,o,rfl,x,t1,hx,h⟩:=h;obtain ⟨hw,⟨e,rfl⟩,t2,hy,h2⟩:=Zer hx
   clear hx
   have hx:=hy
   clear hy
   obtain ⟨jm,rfl⟩:isW t2 [[41]]=true/\t1=t2.tail:=by rcases h2 with ⟨g,_⟩ | g;exact absurd g dM;exact g.2
   have h64:=ho.d64;refine pwu [(8,⟨[6],[0,3,4,5],fun vs σ=>∃(i:Nat) (l:List Ex) (a' dp':Int) (ts':Ts),vs=[.d (.int .i64 i)]/\(l.length=i/\i<=Wa o) /\
     σ=⟨[UZ t L a' en dp',.cells 67 [.d (.int .u8 o),.d (.str []),.d (.int .i64 0),.sl 0 67 (l.map (ZD (Zb L en))),.d (.int .i64 pp)],.cells 67 [.d (.int .u8 0),.d (.str []),.d (.int .i64 0),.sl 1 67 [],.d (.int .i64 0)]],[1,0],2⟩/\a<=a'/\IK L a' dp' e ts'/\Zlr (exJ e) (Wa o - i) i l ts'=.ok x t2,
    fun vs _=>match vs with | [.d (.int _ i)]=>((Wa o:Int) - i).toNat | _=>0⟩)] 1 false ?_
   conv=>whnf
   refine ZGr (fun wc=>?_) (fun wc=>?_)
   all_goals
    conv=>whnf
    refine ZGr (fun h22=>?_) (fun h22=>?_)
    all_goals conv=>whnf
   ·omega
   case' refine_1.refine_2=>have lc:Wa o=2:=by unfold Wa;rw [Te oM,Ti oM]
   case' refine_2.refine_1=>have lc:Wa o=3:=by unfold Wa;rw [Ti oM]
   case' refine_2.refine_2=>have lc:Wa o=1:=by unfold Wa;rw [Te oM,Te oM]
   all_goals
    rw [lc] at hx;refine ⟨L,_,_,⟨rfl,rfl,rfl⟩,ho,hw,e,rfl,?_⟩;intro a1 dp1 cf ah
    conv=>whnf
    refine ⟨⟨0,[],a1,dp1,_,rfl,⟨rfl,oM⟩,rfl,oM,ah,by rw [lc];exact hx⟩,?_⟩;intro vs σ hI
    obtain ⟨i,l,a2,dp2,ts2,rfl,⟨mc,nc⟩,rfl,dg,ac,hx⟩:=hI;rw [lc] at nc hx;have oq:(l.map (ZD (Zb L en))).length<=3:=by rw [Td];omega
    conv=>whnf
    refine ZGr (fun hc=>?_) (fun hc=>?_)
    ·have hi:(i:Int)<_:=hc;obtain ⟨k,hk⟩:∃k,Wa o - i=k+1:=⟨Wa o - i - 1,by rw [lc];omega⟩
     rw [lc] at hk;rw [hk] at hx;obtain ⟨ts3,⟨eo,es,em,er,ep⟩,t4,h3,hv,j5⟩:=ZoT hx;have cu:Wa o - (i+1)=k:=by rw [lc];omega
     conv=>whnf
     refine ZGr (fun h0=>?_) (fun h0=>?_)
     case' refine_1.refine_1 =>
      rw [Te oM] at h3;obtain ⟨h3,rfl⟩:=h3;(conv=>whnf);refine ⟨L,_,_,⟨rfl,rfl,rfl⟩,ac,h3,?_⟩;intro a5 dp5 jn cn
     case' refine_1.refine_2 =>
      rw [Ti oM] at h3;subst h3;have jn:=Int.le_refl a2;have cn:=ac
     all_goals
      conv=>whnf
      refine ⟨L,_,_,⟨rfl,rfl,rfl⟩,cn,0,⟨rfl,oM,.inl oM⟩,_,_,hv,?_⟩;intro a6 dp6 n7 eh
      conv=>whnf
      refine ⟨Tq.2 rfl,(show ((l.map (ZD (Zb L en))).length+1) * 64<=2 ^ 47 by omega),(show (l.map (ZD (Zb L en))).length+1<=2 ^ 47 by omega),wN ?_⟩
      (repeat (refine ⟨rfl,?_⟩;conv=>whnf))
      refine Zk ?_;refine ⟨⟨i+1,l++[.mk eo es em er ep],_,_,_,rfl,⟨by rw [Tc,mc];rfl,by rw [lc];omega⟩,by rw [TM];rfl,oM,eh,by rw [cu];exact j5⟩,?_⟩;show ((Wa o:Int) - ((i:Int)+1)).toNat<((Wa o:Int) - (i:Int)).toNat;omega
    have hi:¬(i:Int)<_:=hc;have hk:Wa o - i=0:=by rw [lc];omega
    rw [lc] at hk;rw [hk] at hx
    cases hx
    rw [Zc] at h;(conv=>whnf);refine ⟨L,_,_,⟨rfl,rfl,rfl⟩,ac,⟨jm,oM⟩,?_⟩;intro a5 dp5 jn cn
    conv=>whnf
    (repeat (refine ⟨rfl,?_⟩;conv=>whnf))
    exact h _ _ oM cn
  exact h.elim
 exact h.elim
def Zvr {n:Nat} (hp:PC w0 nG 243 (Zev (fun d=>ZoR d (exU d)) n)) (he:PC w0 nG 152 (Vz n 6)):PC w0 nG 206 (Zev ZwE n):=by
 refine pwt (tbl:=[(64,JY),(38,XI),(102,JZ),(243,Zev (fun d=>ZoR d (exU d)) n),(152,Vz n 6)]) ⟨ZaJ,Xt,ZaL,hp,he,trivial⟩ Tryz.func206 fun args σ K h=>?_
 unfold Zev iR iSp at h
 split at h
 ·rename_i rest t rows a en dp w q
  obtain ⟨L,d,ts,⟨rfl,rfl,rfl⟩,ho,h⟩:=h;split at h
  ·obtain ⟨gj,x,t1,hx,h⟩:=h;rw [ZAr] at hx;have h64:=ho.d64;refine pwv [] 1 false ?_;refine ⟨L,_,_,⟨rfl,rfl,rfl⟩,ho,?_⟩;intro a1 dp1 cf ah
   conv=>whnf
   refine ⟨L,_,_,⟨rfl,rfl,rfl⟩,ah,0,⟨rfl,oM⟩,fun b1 bq=>?_⟩;have bq:isW ts [[45]]=b1:=bq;intro a2 dp2 dg ac
   cases b1
   all_goals
    conv=>whnf
    refine ⟨L,_,_,⟨rfl,rfl,rfl⟩,ac,0,⟨rfl,oM⟩,fun b2 dj=>?_⟩;have dj:isW ts [[126]]=b2:=dj;intro a3 dp3 ct am
    rw [ZDT,bq,dj] at hx
    cases b2
    all_goals
     first | rw [Ti rfl] at hx | rw [Te sM,Ti rfl] at hx | rw [Te sM,Te sM] at hx
   case' false.false =>
    obtain ⟨eo,es,em,er,ep⟩:=x;(conv=>whnf);refine ⟨L,_,_,⟨rfl,rfl,rfl⟩,am,gj,_,_,hx,?_⟩;intro a4 dp4 fc bz
    conv=>whnf
    exact h _ _ oM bz
   all_goals
    obtain ⟨⟨eo,es,em,er,ep⟩,t2,hx,hq⟩:=ZGC hx
    cases hq
    obtain ⟨hw,⟨e,rfl⟩,t3,hy,h2⟩:=Zer hx
    clear hx
    have hx:=hy
    clear hy
    obtain rfl:t1=t3:=by rcases h2 with ⟨_,g⟩ | ⟨g,_⟩;exact g;exact absurd rfl g
    conv=>whnf
    refine ⟨L,_,_,⟨rfl,rfl,rfl⟩,am,hw,e,rfl,?_⟩;intro a4 dp4 fc bz
    conv=>whnf
    refine ⟨L,_,_,⟨rfl,rfl,rfl⟩,bz,5,⟨rfl,oM,.inl oM⟩,_,_,hx,?_⟩;intro a5 dp5 jn cn
    have z5:=cn.dpe;(conv=>whnf);refine Zk ?_;exact h _ _ oM ⟨cn.toROK,oM,oM,cn.kinds⟩
  exact h.elim
 exact h.elim
def Zvt {n:Nat} (he:PC w0 nG 152 (Vz n 6)):PC w0 nG 243 (Zev (fun d=>ZoR d (exU d)) n):=by
 refine Zdo Zr mixed (tbl:=[(151,Us),(102,JZ),(152,Vz n 6),(103,Zbw),(104,Zew n),(65,Zbx),(38,XI),(205,Xd),(269,Zls n)]) ⟨Zbz,ZaL,he,ZcN,ZhT he,ZcO,Xt,Zes,Zvp he,trivial⟩ Tryz.func243 rfl kR kR ?_;intro args σ K h
 unfold Zev iR iSp at h
 split at h
 ·rename_i rest t rows a en dp w q
  obtain ⟨L,d,ts,⟨rfl,rfl,rfl⟩,ho,h⟩:=h;split at h
  ·obtain ⟨gj,x,t1,hx,h⟩:=h;have h64:=ho.d64
   change ZoR d (exU d) ts=.ok x t1 at hx
   rw [ZoR] at hx;split at hx
   ·cases hx
   rename_i hst
   have hst:ZP ts=true:=by simpa using hst
   refine ⟨Zg [],ZV [],ZC [],ZC [],ZC [269],1,false,sM,Tb rfl,wN ?_⟩;refine ⟨L,_,_,⟨rfl,rfl,rfl⟩,ho,fun b hb=>?_⟩;obtain rfl:b=true:=hb.symm.trans hst;intro a1 dp1 cf ah
   have ai:ts≠[]:=by rintro rfl;simp [ZP,hd] at hst
   have hn:=ah.tl ai;obtain ⟨h0,y,hy,fe,_,kb,eg⟩:=ah.at0 (ah.lt ai);rw [fe] at hx;have eg:=eg en;have jk:y.t0.kind=y.kind:=rfl;have yc:y.t0.text=y.text:=rfl;have hxn:y.t0.n=y.n:=rfl;rw [jk,yc,hxn] at hx;(conv=>whnf);refine ⟨_,h0,hy,wN ?_⟩
   (repeat (refine ⟨rfl,?_⟩;conv=>whnf))
   refine ZGr (fun hc=>?_) (fun hc=>wN ?_)
   ·rw [Ti (show y.kind=2 by have hc:(y.kind:Int)=2:=hc;omega)] at hx;exact mq49
   rw [Te (show ¬y.kind=2 by have hc:¬(y.kind:Int)=2:=hc;omega)] at hx;refine ZGr (fun hc=>?_) (fun hc=>wN ?_)
   ·rw [Ti (show y.kind=3 by have hc:(y.kind:Int)=3:=hc;omega)] at hx;exact mq49
   rw [Te (show ¬y.kind=3 by have hc:¬(y.kind:Int)=3:=hc;omega)] at hx;refine ZGr (fun hc=>?_) (fun hc=>wN ?_)
   ·rw [Ti (show y.text=[40] from hc)] at hx;obtain ⟨hw,⟨e,rfl⟩,t2,hy,h2⟩:=Zer hx
    clear hx
    have hx:=hy
    clear hy
    obtain ⟨jm,rfl⟩:isW t2 [[41]]=true/\t1=t2.tail:=by rcases h2 with ⟨g,_⟩ | g;exact absurd g dM;exact g.2
    obtain ⟨eo,es,em,er,ep⟩:=x;(conv=>whnf);refine ⟨L,_,_,⟨rfl,rfl,rfl⟩,ah,hw,e,rfl,?_⟩;intro a2 dp2 dg ac
    conv=>whnf
    refine ⟨L,_,_,⟨rfl,rfl,rfl⟩,ac,0,⟨rfl,oM,.inl oM⟩,_,_,hx,?_⟩;intro a3 dp3 ct am
    conv=>whnf
    refine ⟨L,_,_,⟨rfl,rfl,rfl⟩,am,⟨jm,oM⟩,?_⟩;exact mq121
   rw [Te (show ¬y.text=[40] from hc)] at hx;refine ZGr (fun hc=>?_) (fun hc=>wN ?_)
   ·rw [Ti (show y.text=[91] from hc)] at hx;obtain ⟨l,t2,hx,hq⟩:=ZGC hx
    cases hq
    simp only [ZD,eg] at h;(conv=>whnf);refine ⟨L,_,_,⟨rfl,rfl,rfl⟩,ah,⟨rfl,sM,gj⟩,_,_,hx,?_⟩;intro a2 dp2 dg ac
    conv=>whnf
    exact h _ _ oM ac
   rw [Te (show ¬y.text=[91] from hc)] at hx;refine ZGr (fun hc=>?_) (fun hc=>wN ?_)
   ·rw [Ti (show y.text=[36] from hc)] at hx;obtain ⟨s,t2,g2,hx⟩:=ZGC hx;obtain ⟨il,rfl,rfl⟩:=ZhR g2;(conv=>whnf);refine Or.inl ⟨hn.inr,wN ?_⟩;refine ⟨L,_,_,⟨rfl,rfl,rfl⟩,hn,il,?_⟩;intro a2 dp2 dg ac
    conv=>whnf
    refine ⟨L,_,_,⟨rfl,rfl,rfl⟩,ac,0,⟨rfl,oM⟩,fun b3 ib=>?_⟩;have ib:isW ts.tail.tail [[40]]=b3:=ib;rw [ib] at hx;intro a3 dp3 ct am
    cases b3 with
    | false =>
     rw [Te sM] at hx
     cases hx
     simp only [ZD,eg] at h;(conv=>whnf);exact h _ _ oM am
    | true =>
    rw [Ti rfl] at hx;obtain ⟨l,t4,hx,hq⟩:=ZGC hx
    cases hq
    simp only [ZD,eg] at h;(conv=>whnf);refine ⟨L,_,_,⟨rfl,rfl,rfl⟩,am,⟨rfl,sM,gj⟩,_,_,hx,?_⟩;exact mq121
   rw [Te (show ¬y.text=[36] from hc)] at hx;refine ZGr (fun hc=>?_) (fun hc=>wN ?_)
   ·rw [Ti (show y.text=[110,105,108] from hc)] at hx;exact mq49
   rw [Te (show ¬y.text=[110,105,108] from hc)] at hx;refine ZGr (fun hc=>?_) (fun hc=>wN ?_)
   ·rw [Ti (show y.text=[95] from hc)] at hx;exact mq49
   rw [Te (show ¬y.text=[95] from hc)] at hx;intro f hf
   conv=>whnf
   refine ZGu (fun hc=>?_) (fun hc=>?_)
   ·rw [Ti (show ZO y.text≠0 by omega)] at hx;obtain ⟨l,t2,hx,hq⟩:=ZGC hx
    cases hq
    simp only [ZD,eg] at h;(conv=>whnf);refine Or.inl ⟨hn.inr,wN ?_⟩;intro f2 ry
    subst ry;(conv=>whnf);refine ⟨L,_,_,⟨rfl,rfl,rfl⟩,hn,⟨rfl,rfl,gj⟩,ZO y.text,rfl,_,_,hx,?_⟩;intro a2 dp2 dg ac
    conv=>whnf
    exact h _ _ oM ac
   rw [Te (show ¬ZO y.text≠0 by omega)] at hx;exact mq49
  exact h.elim
 exact h.elim
def ZwF {ts:Ts}:∀(ws:List Bs) (os:List Nat),opJ ts ws os 0≠0->ts≠[]
 | [],_,h=>absurd rfl h
 | _::_,[],h=>absurd rfl h
 | w::ws,o::os,h=>by
  rintro rfl
  exact ZwF (ts:=[]) ws os h rfl
def ZwG (n l:Nat):Tbl:=[(206,Zev ZwE n),(207,ZsG),(152,Vz n (l+1)),(38,XI)]
def ZDn {n l:Nat} (ht:TO w0 nG (ZwG n l)):PC w0 nG 152 (Vz n l):=by
 refine Yn Zr mixed (tbl:=ZwG n l) ht Tryz.func152 rfl kR kR ?_;intro args σ K h
 unfold Vz iSp at h
 split at h
 ·rename_i rest t rows a en dp w q
  obtain ⟨L,d,ts,⟨rfl,rfl,rfl⟩,ho,h⟩:=h;split at h
  ·obtain ⟨j,⟨rfl,hj5,gj⟩,x,t1,hx,h⟩:=h;refine ⟨Zg [(7,⟨[],[0,1,4,5,6,7],fun vs σ=>∃(f eo:Nat) (es:Bs) (em:Int) (er:List Ex) (ep:Nat) (a' dp':Int) (ts':Ts),vs=[] /\
     σ=⟨[UZ t L a' en dp',.cells 67 [.d (.int .u8 0),.d (.str []),.d (.int .i64 0),.sl 0 67 [],.d (.int .i64 0)],.cells 67 [.d (.int .u8 eo),.d (.str es),.d (.int .i64 em),.d (.sl (Ze (Zb L en) er)),.d (.int .i64 (Zb L en ep))]],[0],1⟩/\a<=a'/\IK L a' dp' d ts'/\Zvm (ZAq (ZwE d) (4 - j)) j f (.mk eo es em er ep) ts'=.ok x t1,ZAV L⟩)],ZV [(10,5)],ZC [],1,false,sM,Tb rfl,?_⟩
   conv=>whnf
   refine ZGr (fun h5=>?_) (fun h5=>?_)
   ·have h5:j=5:=by have h5:(j:Int)=5:=h5;omega
    subst h5;obtain ⟨eo,es,em,er,ep⟩:=x;(conv=>whnf);refine ⟨L,_,_,⟨rfl,rfl,rfl⟩,ho,(show d<n+1 by omega),_,_,hx,?_⟩;intro a1 dp1 cf ah
    conv=>whnf
    exact h _ _ oM ah
   have h5:j<=4:=by have h5:¬(j:Int)=5:=h5;omega
   rw [show 5 - j=(4 - j)+1 by omega] at hx;obtain ⟨⟨eo,es,em,er,ep⟩,t2,g1,hx⟩:=ZGC hx;rw [show 4 - (4 - j)=j by omega] at hx;(conv=>whnf);refine ⟨j,rfl,h5,wN ?_⟩;refine Zk ?_;refine ⟨L,_,_,⟨rfl,rfl,rfl⟩,ho,j+1,⟨oM,oM,oM⟩,_,_,by rw [show 5 - (j+1)=4 - j by omega];exact g1,?_⟩;intro a1 dp1 cf ah
   conv=>whnf
   refine ⟨⟨_,eo,es,em,er,ep,a1,dp1,_,rfl,rfl,oM,ah,hx⟩,?_⟩
   clear hx g1
   intro vs σ hI
   obtain ⟨f,eo,es,em,er,ep,a2,dp2,ts2,rfl,rfl,dg,ac,hx⟩:=hI
   cases f with
   | zero=>cases hx
   | succ f =>
   rw [Zvm] at hx;obtain ⟨o,dx⟩:∃o,opJ ts2 (ZDl j) (ZDm j) 0=o:=⟨_,rfl⟩
   have ai:o≠0->ts2≠[]:=fun g=>ZwF _ _ (by rw [dx];exact g)
   rw [dx] at hx;obtain ⟨k,hk⟩:∃k:Nat,k=j+1:=⟨_,rfl⟩
   have hk5:5 - k=4 - j:=oM;have et:j=0\/j=1\/j=2\/j=3\/j=4:=oM;rcases et with rfl | rfl | rfl | rfl | rfl
   all_goals
    simp [ZDl,ZDm,opJ] at dx
    (repeat'
     conv=>whnf
     refine ⟨_,dM,rfl,wN ?_⟩;refine ⟨L,_,_,⟨rfl,rfl,rfl⟩,ac,0,⟨rfl,oM⟩,fun b hb=>?_⟩;rw [show isW ts2 [_]=b from hb] at dx
     clear hb
     intro a3 dp3 ct am
     have dg:=Int.le_trans dg ct;have ac:=am
     cases b
     case' true =>
      conv=>whnf
      refine ⟨_,dM,rfl,?_⟩
     all_goals
      conv=>whnf
      refine oiD ?_)
   all_goals
    simp at dx;subst dx;(conv=>whnf)
   all_goals first
    | (rw [Ti rfl] at hx;cases hx;exact h _ _ oM (by assumption))
    | (rw [Te dM] at hx
       obtain ⟨⟨go,gs,gm,gr,gp⟩,t3,g3,hx⟩:=ZGC hx;have hn:=ac.tl (ai dM);have hh:=hn.hi;refine Or.inl ⟨hn.inr,wN ?_⟩;refine V4 ?_;refine ⟨L,_,_,⟨rfl,rfl,rfl⟩,hn,k,⟨oM,oM,oM⟩,_,_,by rw [hk5];exact g3,?_⟩;intro a6 dp6 n7 eh
       conv=>whnf
       refine ⟨⟨f,_,_,_,_,_,a6,dp6,_,rfl,by rfl,oM,eh,hx⟩,?_⟩;show ((L.length:Int) - a6).toNat<((L.length:Int) - a2).toNat;omega)
  exact h.elim
 exact h.elim
def Zvu:PC w0 nG 152 (Vz 0 6):=by
 refine pwe Tryz.func152 fun args σ K h=>?_
 unfold Vz iSp at h
 split at h
 ·obtain ⟨L,d,ts,_,ho,h⟩:=h;split at h
  ·obtain ⟨j,⟨_,hj,gj⟩,_⟩:=h;omega
  exact h.elim
 exact h.elim
def Zne {n:Nat} (he:PC w0 nG 152 (Vz n 6)):∀k,k<=6->PC w0 nG 152 (Vz n (6 - k))
 | 0,_=>he
 | k+1,hk=>by
  have ih:=Zne he k oM;rw [show 6 - k=(6 - (k+1))+1 by omega] at ih;exact ZDn ⟨Zvr (Zvt he) he,ZAs,ih,Xt,trivial⟩
def ZDo:∀n,PC w0 nG 152 (Vz n 6)
 | 0=>Zvu
 | n+1=>(Zne (ZDo n) 6 oM).weaken1 fun args σ K h=>by
  unfold Vz iSp at h |-
  split at h
  ·obtain ⟨L,d,ts,h1,h2,h⟩:=h;refine ⟨L,d,ts,h1,h2,?_⟩;split at h
   ·obtain ⟨j,⟨h3,h4,h5⟩,h6⟩:=h;exact ⟨j,⟨h3,h4,oM⟩,h6⟩
   exact h.elim
  exact h
def Ze2 (ts:Ts):Nat->Nat
 | 0=>0
 | i+1=>if isW ts [relWords[i]?.getD []]=true then 3+i else Ze2 ts i
def ZsH (ts:Ts):Nat->Nat
 | 0=>0
 | i+1=>if ZsH ts i≠0 then ZsH ts i else if isW ts [aggWords[i]?.getD []]=true then 9+i else 0
def ZsI (ts:Ts):∀i,Ze2 ts i<=2+i
 | 0=>by simp [Ze2]
 | i+1=>by have:=ZsI ts i;rw [Ze2];split <;> omega
def ZsJ {ts:Ts}:∀i,Ze2 ts i≠0->ts≠[]
 | 0,h=>absurd rfl h
 | i+1,h=>by
  rw [Ze2] at h;split at h
  ·exact Yy (by assumption)
  exact ZsJ i h
def Zgk {ts:Ts} {i:Nat} (h:ZsH ts (i+1)=9+i) (h0:ZsH ts i=0):∀k,ZsH ts (i+1+k)=9+i
 | 0=>h
 | k+1=>by
  have:=Zgk h h0 k;rw [show i+1+(k+1)=(i+1+k)+1 by omega,ZsH,this,Ti oM]
def ZAt (d op a:Nat) (ts:Ts):R Li:=(YM ts).bind fun nm ts=>(ZsF d (exU d) [40] [41] ts).bind fun l ts=>.ok (.mk op nm l [] a) ts
def ZFQ (d:Nat) (bd:Ts->R (List Li)) (op a:Nat) (l:List Ex) (ts:Ts):R Li :=
 (if op=9 then .ok l ts.tail else (exJ d ts.tail).bind fun g t=>.ok (l++[g]) t).bind fun l ts=>(ZN [58] ts).bind fun _ ts=>(Zq d [123] [125] bd ts).bind fun b ts=>.ok (.mk op [] l b a) ts
def ZDp (d:Nat) (bd:Ts->R (List Li)) (t0:Ts):R Li :=
 if isW t0 [[33]]=true then ZAt d 2 t0.length t0.tail
 else if ZF t0=true/\isW t0.tail [[40]]=true then ZAt d 1 t0.length t0
 else (exJ d t0).bind fun e ts=>if Ze2 ts 6=0 then .err ts.length 150 else
  if Ze2 ts 6=3/\ZsH ts.tail 4≠0 then ZFQ d bd (ZsH ts.tail 4) t0.length [e] ts.tail
  else (exJ d ts.tail).bind fun g t=>.ok (.mk (Ze2 ts 6) [] [e,g] [] t0.length) t
def ZsK (d:Nat) (bd:Ts->R (List Li)) (ts:Ts):R (List Li):=Zet [44] (ZDp d bd) 32 [] ts
def ZsL:Nat->Ts->R (List Li)
 | 0=>ZsK 0 fun _=>.err 0 150
 | d+1=>ZsK (d+1) (ZsL d)
def ZsM:Nat->Ts->R (List Li)
 | 0=>fun _=>.err 0 150
 | d+1=>ZsL d
def Zvv (d:Nat):ZsL d=ZsK d (ZsM d):=by cases d <;> rfl
def ZDq (d:Nat) (t0:Ts):R Ru:=(YM t0).bind fun nm ts=>(ZsF d (exU d) [40] [41] ts).bind fun l ts=>(if isW ts [[58,45]]=true then ZsL d ts.tail else .ok [] ts).bind fun b ts=>(ZN [46] ts).bind fun _ ts=>.ok ⟨nm,l,b,t0.length⟩ ts
def Zlt (n:Nat):Zh:=iSp fun rest pl d ts K=>match rest with
 | [.d (.int .u8 op),.d (.int .i64 p)]=>∃o r:Nat,(op=o/\p=pl r/\d<n+1)/\∃x t1,ZAt d o r ts=.ok x t1/\K (Ug (YC pl x)) d t1
 | _=>False
abbrev Znf (n:Nat):Zh:=iR (fun pl v=>Ug (YC pl v)) (fun d=>ZDp d (ZsM d)) (fun d=>d<n+1)
abbrev VA (n:Nat):Zh:=iR (fun pl v=>.d (.sl (Zx pl v))) ZsL (fun d=>d<n)
abbrev ZhU (n:Nat):Zh:=iR (fun pl v=>Ug (Zs pl v)) ZDq (fun d=>d<n+1)
def Zng (n:Nat):Zh:=fun args σ K=>match args,σ with
 | [.ptr 0 0,.agg [.d (.int .u8 o),.d (.str s),.sl 0 e1 rows1,.sl 1 e2 rows2,.d (.int .i64 p)],.d (.int .u8 op)],⟨[.cells t [.d (.sl rows),.d (.int .i64 a),.d (.int .i64 en),.d (.int .i64 dp),.d (.int .i64 w),.d (.int .i64 q)]],[1,0],2⟩ =>
   ∃(L:List Tok) (d:Nat) (ts:Ts) (l:List Ex) (r k:Nat),((rows=ZB L/\w=0/\q=0)/\(s=[]/\e1=67/\e2=65/\rows2=[])/\rows1=Ze (Zb L en) l/\p=Zb L en r/\op=k)/\IK L a dp d ts/\(ts≠[]/\d<n+1/\l.length<=1) /\
    ∃x t1,ZFQ d (ZsM d) k r l ts=.ok x t1/\∀a' dp',a<=a'->IK L a' dp' d t1->K (.ret (Ug (YC (Zb L en) x))) ⟨[UZ t L a' en dp'],[],0⟩
 | _,_=>False
def Zvx (n:Nat):PC w0 nG 208 (Zlt n):=by
 refine pwt (tbl:=[(65,Zbx),(104,Zew n)]) ⟨ZcO,ZhT (ZDo n),trivial⟩ Tryz.func208 fun args σ K h=>?_
 unfold Zlt iSp at h
 split at h
 ·rename_i rest t rows a en dp w q
  obtain ⟨L,d,ts,⟨rfl,rfl,rfl⟩,ho,h⟩:=h;split at h
  ·obtain ⟨o,r,⟨rfl,rfl,gj⟩,x,t1,hx,h⟩:=h;obtain ⟨s1,u1,g1,hx⟩:=ZGC hx;obtain ⟨cy,rfl,rfl⟩:=ZhR g1;obtain ⟨l,u2,g2,hx⟩:=ZGC hx
   cases hx
   refine pwv [] 1 false ?_;refine ⟨L,_,_,⟨rfl,rfl,rfl⟩,ho,cy,?_⟩;intro a1 dp1 cf ah
   conv=>whnf
   refine ⟨L,_,_,⟨rfl,rfl,rfl⟩,ah,⟨rfl,sM,gj⟩,_,_,g2,?_⟩;intro a2 dp2 dg ac
   conv=>whnf
   exact h _ _ oM ac
  exact h.elim
 exact h.elim
def Zvz {n:Nat} (hb:PC w0 nG 105 (VA (n+1))):PC w0 nG 66 (ZhU n):=by
 refine pwt (tbl:=[(64,JY),(65,Zbx),(104,Zew n),(38,XI),(105,VA (n+1)),(99,Ut)]) ⟨ZaJ,ZcO,ZhT (ZDo n),Xt,hb,UR,trivial⟩ Tryz.func66 fun args σ K h=>?_
 unfold ZhU iR iSp at h
 split at h
 ·rename_i rest t rows a en dp w q
  obtain ⟨L,d,ts,⟨rfl,rfl,rfl⟩,ho,h⟩:=h;split at h
  ·obtain ⟨gj,x,t1,hx,h⟩:=h;obtain ⟨s1,u1,g1,hx⟩:=ZGC hx;obtain ⟨cy,rfl,rfl⟩:=ZhR g1;obtain ⟨l,u2,g2,hx⟩:=ZGC hx;obtain ⟨bd,u3,g3,hx⟩:=ZGC hx;obtain ⟨_,u4,g4,hx⟩:=ZGC hx;obtain ⟨jx,rfl⟩:=Zeq g4
   cases hx
   refine pwv [] 1 false ?_;refine ⟨L,_,_,⟨rfl,rfl,rfl⟩,ho,?_⟩;intro a0 dp0 l9 ye
   conv=>whnf
   refine ⟨L,_,_,⟨rfl,rfl,rfl⟩,ye,cy,?_⟩;intro a1 dp1 cf ah
   conv=>whnf
   refine ⟨L,_,_,⟨rfl,rfl,rfl⟩,ah,⟨rfl,sM,gj⟩,_,_,g2,?_⟩;intro a2 dp2 dg ac
   conv=>whnf
   refine ⟨L,_,_,⟨rfl,rfl,rfl⟩,ac,0,⟨rfl,oM⟩,fun b hb=>?_⟩;have hb:isW u2 [[58,45]]=b:=hb;rw [hb] at g3;intro a3 dp3 ct am
   cases b with
   | false =>
    rw [Te sM] at g3
    cases g3
    conv=>whnf
    refine ⟨L,_,_,⟨rfl,rfl,rfl⟩,am,jx,?_⟩;exact mq121
   | true =>
   rw [Ti rfl] at g3;have hn:=am.tl (Yy hb);(conv=>whnf);refine Or.inl ⟨hn.inr,wN ?_⟩;refine ⟨L,_,_,⟨rfl,rfl,rfl⟩,hn,gj,_,_,g3,?_⟩;intro a4 dp4 fc bz
   conv=>whnf
   refine ⟨L,_,_,⟨rfl,rfl,rfl⟩,bz,jx,?_⟩;intro a5 dp5 jn cn
   conv=>whnf
   exact h _ _ oM cn
  exact h.elim
 exact h.elim
def ZAv {n:Nat} (hb:PC w0 nG 105 (VA n)):PC w0 nG 209 (Zng n):=by
 refine pwt (tbl:=[(152,Vz (n+1) 6),(99,Ut),(102,JZ),(105,VA n),(103,Zbw)]) ⟨ZDo _,UR,ZaL,hb,ZcN,trivial⟩ Tryz.func209 fun args σ K h=>?_
 unfold Zng at h
 split at h
 ·rename_i o s e1 rows1 e2 rows2 p op t rows a en dp w q
  obtain ⟨L,d,ts,l,r,k,⟨⟨rfl,rfl,rfl⟩,⟨rfl,rfl,rfl,rfl⟩,rfl,rfl,rfl⟩,ho,⟨ai,gj,cf⟩,x,t1,hx,h⟩:=h;obtain ⟨l2,u1,g1,hx⟩:=ZGC hx;obtain ⟨_,u2,g2,hx⟩:=ZGC hx;obtain ⟨il,rfl⟩:=Zeq g2;obtain ⟨bd,u3,g3,hx⟩:=ZGC hx
  cases hx
  obtain ⟨hw,⟨e,rfl⟩,t2,g6,h2⟩:=Zer g3;obtain ⟨jm,rfl⟩:isW t2 [[125]]=true/\t1=t2.tail:=by rcases h2 with ⟨g,_⟩ | g;exact absurd g dM;exact g.2
  have h64:=ho.d64;have hn:=ho.tl ai;have s4:(Ze (Zb L en) l).length<=1:=by rw [Zc,Td];exact cf
  refine pwv [] 1 false ?_;refine Or.inl ⟨hn.inr,wN ?_⟩;refine ZGu (fun hc=>?_) (fun hc=>?_)
  case' refine_1 =>
   rw [Te (show ¬k=9 by have hc:¬(k:Int)=9:=hc;omega)] at g1;obtain ⟨⟨eo,es,em,er,ep⟩,u5,g5,g1⟩:=ZGC g1
   cases g1
   simp only [YC,Zc,TM,Tx,TN] at h;rw [<- Zc] at h;(conv=>whnf);refine ⟨L,_,_,⟨rfl,rfl,rfl⟩,hn,0,⟨rfl,oM,.inl oM⟩,_,_,g5,?_⟩;intro a1 dp1 vu ah
   conv=>whnf
   refine ⟨Tq.2 rfl,(show ((Ze (Zb L en) l).length+1) * 64<=2 ^ 47 by omega),(show (Ze (Zb L en) l).length+1<=2 ^ 47 by omega),wN ?_⟩
   (repeat (refine ⟨rfl,?_⟩;conv=>whnf))
  case' refine_2 =>
   rw [Ti (show k=9 by have hc:(k:Int)=9:=hc;omega)] at g1
   cases g1
   have ah:=hn;have vu:=Int.le_refl (a+1);(conv=>whnf)
  all_goals
   refine ⟨L,_,_,⟨rfl,rfl,rfl⟩,ah,il,?_⟩;intro a2 dp2 dg ac
   conv=>whnf
   refine ⟨L,_,_,⟨rfl,rfl,rfl⟩,ac,hw,e,rfl,?_⟩;intro a3 dp3 ct am
   conv=>whnf
   refine ⟨L,_,_,⟨rfl,rfl,rfl⟩,am,(show e<n by omega),_,_,g6,?_⟩;intro a4 dp4 fc bz
   conv=>whnf
   refine ⟨L,_,_,⟨rfl,rfl,rfl⟩,bz,⟨jm,oM⟩,?_⟩;intro a5 dp5 jn cn
   conv=>whnf
   exact h _ _ oM cn
 exact h.elim
def ZvB {n:Nat} (hl:PC w0 nG 153 (Znf n)):PC w0 nG 105 (VA (n+1)):=by
 refine pwt (tbl:=[(151,Us),(38,XI),(59,Zby),(153,Znf n)]) ⟨Zbz,Xt,ZcP,hl,trivial⟩ Tryz.func105 fun args σ K h=>?_
 unfold VA iR iSp at h
 split at h
 ·rename_i rest t rows a en dp w q
  obtain ⟨L,d,ts,⟨rfl,rfl,rfl⟩,ho,h⟩:=h;split at h
  ·obtain ⟨gj,x,t1,hx,h⟩:=h;rw [Zvv] at hx;refine pwv [(2,⟨[3],[0],fun vs σ=>∃(l:List Li) (f:Nat) (a' dp':Int) (ts':Ts),vs=[.sl 0 65 (l.map (YC (Zb L en)))]/\σ=⟨[UZ t L a' en dp'],[0],1⟩/\a<=a'/\IK L a' dp' d ts'/\l.length+f=32/\Zet [44] (ZDp d (ZsM d)) f l ts'=.ok x t1,ZAV L⟩)] 1 false ?_;refine ⟨⟨[],32,a,dp,_,rfl,rfl,oM,ho,rfl,hx⟩,?_⟩;intro vs σ hI
   obtain ⟨l,f,a3,dp3,ts3,rfl,rfl,ct,am,hf,hx⟩:=hI;obtain ⟨g,⟨eo,es,ea,eb,ep⟩,t4,rfl,hv,hm,hq⟩:=US hx;have oq:(l.map (YC (Zb L en))).length<32:=by rw [Td];omega
   have aa1:((l.map (YC (Zb L en))).length:Int)<32:=oM;(conv=>whnf);refine ⟨L,_,_,⟨rfl,rfl,rfl⟩,am,fun b hb=>?_⟩;intro a4 dp4 fc bz
   cases b
   case' true =>
    conv=>whnf
    refine ⟨L,_,_,⟨rfl,rfl,rfl⟩,bz,aa1,?_⟩;intro a6 dp6 n7 eh
    have fc:=Int.le_trans fc n7;have bz:=eh
   case' false =>
    conv=>whnf
    refine ⟨L,_,_,⟨rfl,rfl,rfl⟩,bz,0,⟨rfl,oM⟩,fun b hb=>?_⟩;intro a5 dp5 jn cn
    have fc:=Int.le_trans fc jn;have bz:=cn
    cases b
    case' true =>
     conv=>whnf
     refine ⟨L,_,_,⟨rfl,rfl,rfl⟩,bz,aa1,?_⟩;intro a6 dp6 n7 eh
     have fc:=Int.le_trans fc n7;have bz:=eh
   all_goals
    conv=>whnf
    refine ⟨L,_,_,⟨rfl,rfl,rfl⟩,bz,gj,_,_,hv,?_⟩;intro a7 dp7 yj im
    conv=>whnf
    refine ⟨Tq.2 rfl,(show ((l.map (YC (Zb L en))).length+1) * 80<=2 ^ 47 by omega),(show (l.map (YC (Zb L en))).length+1<=2 ^ 47 by omega),wN ?_⟩;refine ⟨L,_,_,⟨rfl,rfl,rfl⟩,im,0,⟨rfl,oM⟩,fun b hb=>?_⟩;intro a8 dp8 yk iz
    cases b with
    | true =>
     have hn:=iz.tl (Yy hb);have hh:=hn.hi;(conv=>whnf);refine Or.inl ⟨hn.inr,wN ?_⟩;refine ⟨⟨l++[.mk eo es ea eb ep],g,_,_,_,by rw [TM];rfl,rfl,oM,hn,by rw [Tc];simp only [Tf,Tj];omega,hm hb⟩,?_⟩;show ((L.length:Int) - (a8+1)).toNat<((L.length:Int) - a3).toNat;omega
    | false =>
    obtain ⟨rfl,rfl⟩:=hq hb;dsimp only at h;rw [Zn,TM] at h;(conv=>whnf);exact h _ _ oM iz
  exact h.elim
 exact h.elim
end Go.PM.Lex
end
