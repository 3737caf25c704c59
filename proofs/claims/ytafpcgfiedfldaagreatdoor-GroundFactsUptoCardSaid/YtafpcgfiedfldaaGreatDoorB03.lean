/- A part of the proof: plain logic, contracts and laws over the given program. -/
import Derived.Test.YtafpcgfiedfldaaGreatDoorB02
set_option linter.unusedVariables false
set_option linter.unusedSimpArgs false
set_option linter.all false
set_option maxRecDepth 100000
set_option maxHeartbeats 16000000
section
namespace Go.PM
def Xa (all:List Oper) (o:Oper) (f:Frame):Option Bool:=match o.guard with
 | none=>some true
 | some (j,want)=>match Wf all j with
  | some s=>match f s with
   | .d (.bool t)=>some (t == want)
   | .raw (.tuple _)=>some false
   | _=>none
  | none=>none
def Y0 (C:Cx) (all:List Oper) (Q:PQ) (o:Oper) (f:Frame) (σ:St) (K:Frame->St->Prop) :
  W3 C all Q o f σ K↔match Xa all o f with
   | some true=>XP C o f σ Q K
   | some false=>K (Yk f o.dst (.raw Go.undef)) σ
   | none=>False:=by
 unfold W3 Xa
 cases hg:o.guard with
 | none=>exact Iff.rfl
 | some p =>
 obtain ⟨j,want⟩:=p;simp only
 cases hs:Wf all j with
 | none=>exact Iff.rfl
 | some s =>
 simp only
 cases hf:f s with
 | d x =>
  cases x with
  | bool t=>cases t <;> cases want <;> simp only [CondP,Xg hf,ZV] <;> exact Iff.rfl
  | _=>exact Iff.rfl
 | raw v=>cases v <;> simp only [ZV] <;> exact Iff.rfl
 | _=>exact Iff.rfl
structure CxMono (C:Cx):Prop where
 one:∀t,(C.T.get t).kind≠.other->(C.T.get t).kind.isAgg=false->(C.T.get t).size=1
 call:∀g args σ (K K':PEnd->St->Prop),(∀e σ,K e σ->K' e σ)->C.call g args σ K->C.call g args σ K'
 raw:∀v args σ (K:PEnd->St->Prop),¬C.raw v args σ K
 iter:∀g args r σ (K:PEnd->St->Prop),¬C.iter g args r σ K
 quiet:C.pk=false
def JZ {T:Tab} {o:Op} {ty:TypeId} {ρ:Operand->PV} {bx:List Box} {K K':PV->Prop} (hK:∀v,K v->K' v) (h:Zf9 T o ty ρ bx K):Zf9 T o ty ρ bx K' :=
 let ⟨v,h1,h2⟩:=ZoA h;h2 K' (hK v h1)
def ZmJ {t:Bool} {X Y X' Y':Prop} (h1:X->X') (h2:Y->Y') (h:CondP t X Y):CondP t X' Y':=by cases t;exact h2 h;exact h1 h
def ZjA {T:Tab} {t:TypeId} {m k x:PV} {σ:St} {K K':PV->St->Prop} (hK:∀v σ,K v σ->K' v σ) (h:ZcG T t m k x σ K):ZcG T t m k x σ K':=by
 unfold ZcG at h |-
 (repeat' split at h) <;> first
  | exact h.elim
  | exact hK _ _ h
  | exact ⟨h.1,hK _ _ h.2⟩
def Zck {T:Tab} {o:Op} {ρ:Operand->PV} {σ:St} {K K':PV->St->Prop} (hK:∀v σ,K v σ->K' v σ) (h:eop T o ρ σ K):eop T o ρ σ K':=by
 unfold eop at h |-
 (repeat' split at h) <;> first
  | exact h.elim
  | exact hK _ _ h
  | exact ZjA hK h
  | exact ZmJ (hK _ _) (hK _ _) h
  | exact ⟨h.1,h.2.1,h.2.2.1,hK _ _ h.2.2.2⟩
  | (rename_i hk;exfalso;simp_all;done)
section
variable {C:Cx} {all:List Oper} {Q:PQ} {f:Frame} {σ:St} {K K':Frame->St->Prop}
def ZmK (hM:CxMono C) {o:Oper} (hK:∀f σ,K f σ->K' f σ) (h:XP C o f σ Q K):XP C o f σ Q K':=by
 unfold XP at h |-
 simp only [ZN,ZP] at h |-;split at h
 ·exact JZ (fun v hv=>by rw [ZV] at hv |-;exact hK _ _ hv) h
 split at h
 ·unfold ZcI at h |-
  split at h
  ·split at h
   ·refine hM.call _ _ _ _ _ (fun e σ he=>?_) h
    cases e with
    | ret v=>simp only at he |-;rw [ZV] at he |-;exact hK _ _ he
    | panic v=>exact he
   exact (hM.iter _ _ _ _ _ h).elim
  ·exact (hM.raw _ _ _ _ h).elim
  exact h
 ·exact h
 exact Zck (fun v σ hv=>by rw [ZV] at hv |-;exact hK _ _ hv) h
def ZaN (hM:CxMono C) {o:Oper} (hK:∀f σ,K f σ->K' f σ) (h:W3 C all Q o f σ K):W3 C all Q o f σ K':=by
 rw [Y0] at h |-;split at h
 ·exact ZmK hM hK h
 ·exact hK _ _ h
 exact h
def looks (all:List Oper) (o:Oper):List Nat :=
 (o.op.operands.toList.filterMap fun | .tmp t=>some t | _=>none)++(match o.guard with | some (j,_)=>(Wf all j).toList | none=>[])
def ZjB {f f':Frame} {o:Oper} (h:∀d,d∈looks all o->f d=f' d) {x:Operand} (hx:x∈o.op.operands):ev f x=ev f' x:=by
 cases x with
 | tmp t =>
  refine h t ?_;unfold looks
  refine TM.2 (.inl (List.mem_filterMap.2 ⟨.tmp t,TJ.1 hx,rfl⟩))
 | _=>rfl
def ZaO {f f':Frame} {o:Oper} (h:∀d,d∈looks all o->f d=f' d):Xa all o f=Xa all o f':=by
 unfold Xa
 cases hg:o.guard with
 | none=>rfl
 | some p =>
 obtain ⟨j,want⟩:=p;simp only
 cases hs:Wf all j with
 | none=>rfl
 | some s =>
 simp only;rw [h s (by unfold looks;rw [hg];simp only [hs];simp)]
def Zfh {d d':Option Nat} (h:∀i,d=some i->d'≠some i) (f:Frame) (v u:PV):Yk (Yk f d v) d' u=Yk (Yk f d' u) d v:=by
 cases d with
 | none=>rfl
 | some i =>
 cases d' with
 | none=>rfl
 | some j =>
 have i7:i≠j:=fun e=>h i rfl (by rw [e])
 funext k
 simp only [Yk]
 by_cases h1:j=k
 ·subst h1;rw [Yx,Xe _ _ i7,Yx]
 rw [Xe _ _ h1]
 by_cases h2:i=k
 ·subst h2;rw [Yx,Yx]
 rw [Xe _ _ h2,Xe _ _ h2,Xe _ _ h1]
def J0 {d:Option Nat} {v:PV} {k:Nat} (h:∀i,d=some i->i≠k):Yk f d v k=f k:=by
 cases d with
 | none=>rfl
 | some i=>exact Xe f v (h i rfl)
def calls_operands {x:Operand} {args:Array Operand} {at':Array TypeId} {y:Operand}:y∈(Op.call { callee:=.value x,args,argTypes:=at' }).operands↔y=x\/y∈args:=by
 simp [Op.operands,Call.operands]
def ZoD (hM:CxMono C) {o:Oper} {d:Option Nat} {v:PV} (h1:∀i,d=some i->i∉looks all o) (h2:∀i,d=some i->o.dst≠some i) (h:XP C o (Yk f d v) σ Q K) :
  XP C o f σ Q (fun f' σ'=>K (Yk f' d v) σ'):=by
 have fc:∀k,k∈looks all o->Yk f d v k=f k:=fun k hk=>J0 fun i hi e=>h1 i hi (e ▸ hk)
 have wy:∀x,x∈o.op.operands->ev (Yk f d v) x=ev f x:=fun x hx=>ZjB fc hx
 have oe:∀u,Yk (Yk f d v) o.dst u=Yk (Yk f o.dst u) d v:=fun u=>Zfh h2 f v u
 unfold XP at h |-
 simp only [ZN,ZP,Cx.pf,hM.quiet] at h |-;split at h
 ·refine JZ (fun u hu=>?_) (Zfg wy hM.one (fun _ _ _ _=>rfl) h);rw [ZV] at hu |-;rw [oe] at hu;exact hu
 split at h
 ·rename_i x args at' ho
  have hx:ev (Yk f d v) x=ev f x:=wy x (by rw [ho];exact calls_operands.2 (.inl rfl));have ac:args.toList.map (ev (Yk f d v))=args.toList.map (ev f):=SA fun y hy=>wy y (by rw [ho];exact calls_operands.2 (.inr (TJ.2 hy)))
  rw [hx,ac] at h;have hk:∀(e:PEnd) (σ':St),(match e with | .ret u=>Zhy (Yk f d v) o.dst u fun f=>K f σ' | .panic v=>Q (.panic v) (fun _=>.undef) σ':Prop)->(match e with | .ret u=>Zhy f o.dst u fun f=>K (Yk f d v) σ' | .panic v=>Q (.panic v) (fun _=>.undef) σ':Prop):=fun e σ' he=>by
   cases e with
   | ret u=>simp only at he |-;rw [ZV] at he |-;rw [oe] at he;exact he
   | panic v=>exact he
  unfold ZcI at h |-
  split at h
  ·split at h
   ·exact hM.call _ _ _ _ _ hk h
   exact (hM.iter _ _ _ _ _ h).elim
  ·exact (hM.raw _ _ _ _ h).elim
  exact h
 ·rename_i x ho
  rw [wy x (by rw [ho];simp [Op.operands])] at h;exact h
 refine Zck (fun u σ' hu=>?_) (ZoC (fun x hx=>wy x hx) h);rw [ZV] at hu |-;rw [oe] at hu;exact hu
def ZjC (hM:CxMono C) {o:Oper} (hK:∀u σ',(YV o.op=false->σ'=σ)->K (Yk f o.dst u) σ'->K' (Yk f o.dst u) σ') (h:XP C o f σ Q K):XP C o f σ Q K':=by
 unfold XP at h |-
 simp only [ZN,ZP] at h |-;split at h
 ·rename_i hE
  exact JZ (fun v hv=>by rw [ZV] at hv |-;exact hK _ _ (fun _=>rfl) hv) h
 rename_i hE
 have rf:∀σ',YV o.op=false->σ'=σ:=fun σ' h=>by rw [hE] at h;cases h
 split at h
 ·unfold ZcI at h |-
  split at h
  ·split at h
   ·refine hM.call _ _ _ _ _ (fun e σ he=>?_) h
    cases e with
    | ret v=>simp only at he |-;rw [ZV] at he |-;exact hK _ _ (rf _) he
    | panic v=>exact he
   exact (hM.iter _ _ _ _ _ h).elim
  ·exact (hM.raw _ _ _ _ h).elim
  exact h
 ·exact h
 exact Zck (fun v σ hv=>by rw [ZV] at hv |-;exact hK _ _ (rf _) hv) h
def ZjD (hM:CxMono C) {o:Oper} (hK:∀u σ',(YV o.op=false->σ'=σ)->K (Yk f o.dst u) σ'->K' (Yk f o.dst u) σ') (h:W3 C all Q o f σ K):W3 C all Q o f σ K':=by
 rw [Y0] at h |-;split at h
 ·exact ZjC hM hK h
 ·exact hK _ _ (fun _=>rfl) h
 exact h
def ZoE (hM:CxMono C) {o:Oper} {d:Option Nat} {v:PV} (h1:∀i,d=some i->i∉looks all o) (h2:∀i,d=some i->o.dst≠some i) (h:W3 C all Q o (Yk f d v) σ K) :
  W3 C all Q o f σ (fun f' σ'=>K (Yk f' d v) σ'):=by
 rw [Y0] at h |-;rw [ZaO (f':=f) (fun k hk=>J0 fun i hi e=>h1 i hi (e ▸ hk))] at h;split at h
 ·exact ZoD hM h1 h2 h
 ·rw [Zfh h2] at h;exact h
 exact h
def ZjE (hM:CxMono C) {o:Oper} (hE:YV o.op=false) (h:W3 C all Q o f σ K):∃v,K (Yk f o.dst v) σ/\∀f' σ',(∀d,d∈looks all o->f d=f' d) ->
  (∀b off n,ZrH C.T o.op (ev f)=some (b,off,n)->ZY σ.bx b off n=ZY σ'.bx b off n)->∀K':Frame->St->Prop,K' (Yk f' o.dst v) σ'->W3 C all Q o f' σ' K':=by
 rw [Y0] at h;split at h
 ·rename_i hg
  unfold XP at h
  simp only [hE] at h;obtain ⟨v,hv,ca⟩:=ZoA h;rw [ZV] at hv;refine ⟨v,hv,fun f' σ' hf hl K' hK'=>?_⟩;rw [Y0,<- ZaO hf,hg];simp only [XP,hE];refine Zfg (fun x hx=>ZjB hf hx) hM.one hl (ca _ ?_);rw [ZV];exact hK'
 ·rename_i hg
  refine ⟨_,h,fun f' σ' hf hl K' hK'=>?_⟩;rw [Y0,<- ZaO hf,hg];exact hK'
 exact h.elim
def chkL_iff {ms:List Nat} {j:Nat} {pre post:List Box} {X:Prop}:∀{l:List Ld},Zoc ms j pre post l X↔(∀d,d∈l->anc ms d.i j=false->ZY pre d.b d.off d.n=ZY post d.b d.off d.n)/\X
 | []=>by simp [Zoc]
 | d::l=>by
  obtain ⟨di,db,doff,dn⟩:=d;simp only [Zoc]
  cases hd:anc ms di j with
  | true=>simp only [chkL_iff,Tu,forall_eq_or_imp,hd,Bool.true_eq_false,false_implies,true_and]
  | false=>simp only [chkL_iff,Tu,forall_eq_or_imp,hd,true_implies,and_assoc]
def ZoF {T:Tab} {o:Op} {ρ ρ':Operand->PV} (h:∀x,x∈o.operands->ρ x=ρ' x):ZrH T o ρ=ZrH T o ρ':=by
 unfold ZrH
 split
 ·rename_i t a;rw [h a oP]
 ·rename_i t a k ok;rw [h a oP]
 ·rename_i args at'
  rw [SA fun x hx=>h x (by simp only [Op.operands,Call.operands,Array.empty_append];exact TJ.2 hx)]
 rfl
def ZaP {o:Oper} {f':Frame} (h:∀d,d∈looks all o->f d=f' d) (T:Tab) (i:Nat) (ctx:List Ld):VZ T o i f ctx=VZ T o i f' ctx:=by
 unfold VZ
 rw [ZoF fun x hx=>ZjB h hx]
def Zcl (T:Tab) (o:Oper) (i:Nat) (f:Frame):∃l,∀c,VZ T o i f c=l++c:=by
 unfold VZ
 split
 ·exact ⟨[_],fun c=>rfl⟩
 exact ⟨[],fun c=>rfl⟩
def ZoG {o:Oper} {ctx ctx':List Ld} (h:∀d,d∈ctx'->d∈ctx) (T:Tab) (i:Nat):∀d,d∈VZ T o i f ctx'->d∈VZ T o i f ctx:=by
 obtain ⟨l,hl⟩:=Zcl T o i f;intro d hd
 rw [hl,TM] at hd |-;exact hd.imp id (h d)
def ZoH {o:Oper} {ctx:List Ld} (T:Tab) (i:Nat):∀d,d∈ctx->d∈VZ T o i f ctx:=by
 obtain ⟨l,hl⟩:=Zcl T o i f;intro d hd
 rw [hl,TM];exact .inr hd
def ZoI {o o':Oper} {f':Frame} {ctx:List Ld} (T:Tab) (i i':Nat):∀d,d∈VZ T o i f (VZ T o' i' f' ctx)->d∈VZ T o' i' f' (VZ T o i f ctx):=by
 obtain ⟨l,hl⟩:=Zcl T o i f;obtain ⟨l',hl'⟩:=Zcl T o' i' f';intro d hd
 rw [hl,hl'] at hd;rw [hl',hl];simp only [TM] at hd |-;rcases hd with h | h | h
 ·exact .inr (.inl h)
 ·exact .inl h
 exact .inr (.inr h)
def ZcW (hM:CxMono C) {ms:List Nat} {i:Nat} {o:Oper} {ctx ctx':List Ld} {K:List Ld->Frame->St->Prop} (hs:∀d,d∈ctx'->d∈ctx) (hK:∀c c' f σ,(∀d,d∈c'->d∈c)->K c f σ->K c' f σ)
  (h:X0 C all ms Q i o ctx f σ K):X0 C all ms Q i o ctx' f σ K:=by
 unfold X0 at h |-
 refine ZaN hM (fun f' σ' hk=>?_) h
 cases hE:YV o.op with
 | true=>simp only [hE] at hk |-;rw [chkL_iff] at hk |-;exact ⟨fun d hd=>hk.1 d (hs d hd),hK _ _ _ _ hs hk.2⟩
 | false=>simp only [hE] at hk |-;exact hK _ _ _ _ (ZoG hs _ _) hk
def ZhN (hM:CxMono C) {ms:List Nat}:∀(l:List (Nat×Oper)) (c c':List Ld) (f:Frame) (σ:St),(∀d,d∈c'->d∈c)->X1 C all ms Q l c f σ->X1 C all ms Q l c' f σ
 | [],_,_,_,_,_,h=>h
 | (i,o)::l,c,c',f,σ,hs,h=>ZcW hM hs (fun c c' f σ=>ZhN hM l c c' f σ) h
def ZbF (all:List Oper) (x y:Oper):Bool :=
 (match x.dst with | some d=>!(ZeB d (looks all y)) && (match y.dst with | some d'=>!(Nat.beq d d') | none=>true) | none=>true) &&
 (match y.dst with | some d=>!(ZeB d (looks all x)) | none=>true)
def ZjF {x y:Oper} (h:ZbF all x y=true):(∀i,x.dst=some i->i∉looks all y)/\(∀i,x.dst=some i->y.dst≠some i)/\(∀i,y.dst=some i->i∉looks all x):=by
 unfold ZbF at h
 rw [Tn] at h;refine ⟨fun i hi=>?_,fun i hi=>?_,fun i hi=>?_⟩
 ·have:=h.1;rw [hi] at this;simp only [Tn,T4] at this;intro hm;rw [(Yq _ _).2 hm] at this;cases this.1
 ·have:=h.1;rw [hi] at this;simp only [Tn,T4] at this;intro hm;rw [hm] at this;simp at this
 have:=h.2;rw [hi] at this;simp only [T4] at this;intro hm;rw [(Yq _ _).2 hm] at this;cases this
def ZCx (hM:CxMono C) {ms:List Nat} {ix iy:Nat} {x y:Oper} {ctx:List Ld} {K0:List Ld->Frame->St->Prop} (hK:∀c c' f σ,(∀d,d∈c'->d∈c)->K0 c f σ->K0 c' f σ)
  (hE:YV x.op=false) (hap:ZbF all x y=true) (aat:anc ms ix iy=false) (h:X0 C all ms Q ix x ctx f σ (fun c f σ=>X0 C all ms Q iy y c f σ K0)) :
  X0 C all ms Q iy y ctx f σ (fun c f σ=>X0 C all ms Q ix x c f σ K0):=by
 obtain ⟨ha,hb,hc⟩:=ZjF hap;unfold X0 at h
 simp only [hE] at h;obtain ⟨v,hv,ca⟩:=ZjE hM hE h;have fc:∀u d,d∈looks all x->f d=Yk f y.dst u d:=fun u d hd=>(J0 fun i hi e=>hc i hi (e ▸ hd)).symm
 have hv:=ZoE hM ha hb hv;unfold X0
 refine ZjD hM (fun u σ' hq hk=>?_) hv
 cases hEy:YV y.op with
 | true =>
  simp only [hEy] at hk |-;rw [chkL_iff] at hk |-;refine ⟨fun d hd hda=>hk.1 d (ZoH _ _ d hd) hda,?_⟩;simp only [hE];refine ca _ _ (fc u) (fun b off n ho=>?_) _ ?_
  ·exact hk.1 ⟨ix,b,off,n⟩ (by simp [VZ,ho]) aat
  rw [<- ZaP (fc u)];exact hk.2
 | false =>
 simp only [hEy] at hk |-;simp only [hE];obtain rfl:=hq hEy;refine ca _ _ (fc u) (fun b off n ho=>rfl) _ ?_;rw [<- ZaP (fc u)];refine hK _ _ _ _ ?_ hk;rw [<- ZaP (f:=f) (f':=Yk f x.dst v) (o:=y) (fun d hd=>(J0 fun i hi e=>ha i hi (e ▸ hd)).symm)];exact ZoI _ _ _
def ZjG (hM:CxMono C) {ms:List Nat} {i:Nat} {o:Oper} {post:List (Nat×Oper)}:∀(pre:List (Nat×Oper)),(∀p,p∈pre->YV p.2.op=false/\ZbF all p.2 o=true/\anc ms p.1 i=false)->∀(ctx:List Ld) (f:Frame) (σ:St),
  X1 C all ms Q (pre++(i,o)::post) ctx f σ->X0 C all ms Q i o ctx f σ (X1 C all ms Q (pre++post))
 | [],_,_,_,_,h=>h
 | (ix,x)::pre,hp,ctx,f,σ,h=>by
  obtain ⟨h1,h2,h3⟩:=hp (ix,x) sM;refine ZCx hM (ZhN hM _) h1 h2 h3 ?_;have h':X0 C all ms Q ix x ctx f σ (X1 C all ms Q (pre++(i,o)::post)):=h;unfold X0 at h' |-
  refine ZaN hM (fun f' σ' hk=>?_) h'
  cases hE:YV x.op with
  | true=>rw [hE] at h1;cases h1
  | false=>simp only [hE] at hk |-;exact ZjG hM pre (fun p jd=>hp p (Tx _ jd)) _ _ _ hk
end
end Go.PM
end

section
namespace Go.PM
def Zgj (n i:Nat):List Edge->Bool
 | []=>true
 | e::l=>(match Region.binds .any e with | true=>Nat.ble (e.on+1) n && !(Nat.beq e.on i) | false=>true) && Zgj n i l
def Zcm (j:Nat):List Edge->Bool
 | []=>true
 | e::l=>(match Region.binds .any e with | true=>!(Nat.beq e.on j) | false=>true) && Zcm j l
def Zk5 (all:List Oper) (ms:List Nat) (i:Nat) (o:Oper):List (Nat×Oper)->Bool
 | []=>true
 | (j,p)::l=>!(Nat.beq i j) && Zcm j o.after.toList && (anc ms i j || (!(YV o.op) && ZbF all o p)) && Zk5 all ms i o l
def ZhO (all:List Oper) (ms:List Nat) (n:Nat):List (Nat×Oper)->Bool
 | []=>true
 | (i,o)::l=>Zk5 all ms i o l && Zgj n i o.after.toList && ZhO all ms n l
def ZhP (cs:List (Nat×Oper)):Nat->Bool
 | 0=>true
 | n+1=>cs.any (fun p=>Nat.beq p.1 n) && ZhP cs n
def ZaQ (ms:List Nat):List (Nat×Oper)->Bool
 | []=>true
 | (i,o)::l=>Nat.beq (ms.getD i 0) (U0 ms o.after.toList 0) && ZaQ ms l
def ZoJ (ops:List Oper):Bool :=
 let ms:=Wg ops []
 let cs:=Zgb ops
 Nat.beq cs.length ops.length && ZhO ops ms ops.length cs && ZhP cs ops.length && ZaQ ms cs
def ZbG {n i:Nat}:∀{l:List Edge},Zgj n i l=true->∀e∈l,Region.binds .any e=true->e.on<n/\e.on≠i
 | [],_,e,he,_=>by cases he
 | x::l,h,e,he,hb=>by
  simp only [Zgj,Tn] at h;rcases Tu.1 he with rfl | he
  ·have h1:=h.1;rw [hb] at h1;simp only [Tn,SP,T4] at h1;exact ⟨h1.1,fun e=>by rw [e] at h1;simp at h1⟩
  exact ZbG h.2 e he hb
def J1 {j:Nat}:∀{l:List Edge},Zcm j l=true->∀e∈l,Region.binds .any e=true->e.on≠j
 | [],_,e,he,_=>by cases he
 | x::l,h,e,he,hb=>by
  simp only [Zcm,Tn] at h;rcases Tu.1 he with rfl | he
  ·have h1:=h.1;rw [hb] at h1;simp only [T4] at h1;exact fun e=>by rw [e] at h1;simp at h1
  exact J1 h.2 e he hb
def ZrV (all:List Oper) (ms:List Nat) (x y:Nat×Oper):Prop :=
 x.1≠y.1/\(∀e∈x.2.after.toList,Region.binds .any e=true->e.on≠y.1)/\(anc ms x.1 y.1=true\/(YV x.2.op=false/\ZbF all x.2 y.2=true))
def ZcX {all:List Oper} {ms:List Nat} {i:Nat} {o:Oper}:∀{l:List (Nat×Oper)},Zk5 all ms i o l=true->∀p∈l,ZrV all ms (i,o) p
 | [],_,p,hp=>by cases hp
 | (j,x)::l,h,p,hp=>by
  simp only [Zk5,Tn,Sv,T4] at h;rcases Tu.1 hp with rfl | hp
  ·exact ⟨fun (e:i=j)=>by have:=h.1.1.1;rw [e] at this;simp at this,J1 h.1.1.2,h.1.2⟩
  exact ZcX h.2 p hp
def Wl {all:List Oper} {ms:List Nat} {n:Nat}:∀{l:List (Nat×Oper)},ZhO all ms n l=true->l.Pairwise (ZrV all ms)/\∀p∈l,∀e∈p.2.after.toList,Region.binds .any e=true->e.on<n/\e.on≠p.1
 | [],_=>⟨List.Pairwise.nil,fun p hp=>by cases hp⟩
 | (i,o)::l,h=>by
  simp only [ZhO,Tn] at h;obtain ⟨h1,h2⟩:=Wl h.2;refine ⟨List.Pairwise.cons (ZcX h.1.1) h1,fun p hp=>?_⟩;rcases Tu.1 hp with rfl | hp
  ·exact ZbG h.1.2
  exact h2 p hp
def Jq {cs:List (Nat×Oper)}:∀{n:Nat},ZhP cs n=true->∀k,k<n->∃p∈cs,p.1=k
 | 0,_,k,hk=>oM
 | n+1,h,k,hk=>by
  simp only [ZhP,Tn,List.any_eq_true] at h
  by_cases lv:k=n
  ·obtain ⟨p,hp,hb⟩:=h.1;exact ⟨p,hp,by rw [lv];exact Tl hb⟩
  exact Jq h.2 k oM
def WI {ms:List Nat}:∀{l:List (Nat×Oper)},ZaQ ms l=true->∀p∈l,ms.getD p.1 0=U0 ms p.2.after.toList 0
 | [],_,p,hp=>by cases hp
 | (i,o)::l,h,p,hp=>by
  simp only [ZaQ,Tn] at h;rcases Tu.1 hp with rfl | hp
  ·exact Tl h.1
  exact WI h.2 p hp
def W7 {ms:List Nat} {x:Nat}:∀{l:List Edge} {s:Nat},(U0 ms l s).testBit x=true->s.testBit x=true\/∃e∈l,Region.binds .any e=true/\(e.on=x\/anc ms x e.on=true)
 | [],s,h=>.inl h
 | e::l,s,h=>by
  unfold U0 at h
  cases hb:Region.binds .any e with
  | true =>
   rw [hb] at h;rcases W7 h with h1 | ⟨e',he',h1⟩
   ·rw [Nat.testBit_or,Nat.testBit_or,Sv,Sv] at h1;rcases h1 with (h1 | h1) | h1
    ·exact .inl h1
    ·rw [Nat.testBit_two_pow] at h1;exact .inr ⟨e,sM,hb,.inl (by simpa using h1)⟩
    exact .inr ⟨e,sM,hb,.inr h1⟩
   exact .inr ⟨e',Tx _ he',h1⟩
  | false =>
  rw [hb] at h;rcases W7 h with h1 | ⟨e',he',h1⟩
  ·exact .inl h1
  exact .inr ⟨e',Tx _ he',h1⟩
def ZhQ {left:List (Nat×Oper)}:∀{l:List (Nat×Oper)} {p:Nat×Oper},Zga left l=some p->p∈l
 | [],p,h=>by cases h
 | (i,o)::l,p,h=>by
  unfold Zga at h
  split at h
  ·cases h;simp
  exact Tx _ (ZhQ h)
def Yy {i:Nat}:∀{l:List (Nat×Oper)} {p:Nat×Oper},p∈Yp i l->p∈l
 | [],p,h=>by cases h
 | (j,o)::l,p,h=>by
  unfold Yp at h
  split at h
  ·exact Tx _ h
  rcases Tu.1 h with rfl | h
  ·simp
  exact Tx _ (Yy h)
def UK:∀{n:Nat} {l:List (Nat×Oper)} {p:Nat×Oper},p∈VV n l->p∈l
 | 0,l,p,h=>h
 | n+1,[],p,h=>by cases h
 | n+1,x::l,p,h=>by
  unfold VV at h
  split at h
  ·rename_i i o hp
   rcases Tu.1 h with rfl | h
   ·exact ZhQ hp
   exact Yy (UK h)
  rcases Tu.1 h with rfl | h
  ·simp
  exact Tx _ (UK h)
def XG:∀{l:List Oper} {i:Nat} {p:Nat×Oper},p∈ZF i l->i<=p.1/\l[p.1 - i]?=some p.2
 | [],i,p,h=>by cases h
 | o::l,i,p,h=>by
  unfold ZF at h
  rcases Tu.1 h with rfl | h
  ·simp
  obtain ⟨h1,h2⟩:=XG h;refine ⟨oM,?_⟩;rw [show p.1 - i=(p.1 - (i+1))+1 by omega];simpa using h2
def ZoK {ops:List Oper} {p:Nat×Oper} (h:p∈Zgb ops):ops[p.1]?=some p.2:=by
 have:=XG (UK h);simpa using this.2
section
variable {G:GE} {C:Cx} {e0 e:Env} {σ0 σ:St} {w0 w:World} {a:Act} {f:Frame} {Q:PQ} {ro:Option Nat} {n:Nat} {ds:Nat×List Deferred×Bool} {N:Nat} {Z:Array Value->Prop}
def ZhR (hC:CxOK G C ro e0 σ0 w0) (hM:CxMono C) {ops:Array Oper} (hd:∀o,o∈ops->∀d,o.dst=some d->d<N/\∀t v,Z t->Z (t.setIfInBounds d v)) {ms:List Nat} (wz:∀i o,ops[i]?=some o->ms.getD i 0=U0 ms o.after.toList 0) :
  ∀(k:Nat) (l:List (Nat×Oper)),l.length=k->(∀p∈l,ops[p.1]?=some p.2)->l.Pairwise (ZrV ops.toList ms)->(∀p∈l,∀e∈p.2.after.toList,Region.binds .any e=true->e.on<ops.size/\e.on≠p.1) ->
  ∀{listed:Array Bool},listed.size=ops.size->(∀k,k<ops.size->(listed.getD k false=true↔∀p∈l,p.1≠k))->(∀j,(∀p∈l,p.1≠j)->∀p∈l,anc ms p.1 j=false) ->
  ∀{ctx:List Ld} {e:Env} {σ:St} {w:World} {a:Act} {f:Frame},SRel G e σ w->FRel G e σ w f a.tmps->Later e0 σ0 w0 e σ w->a.tmps.size=N->Marks ds e σ w a.defers->Z a.tmps->X1 C ops.toList ms Q l ctx f σ ->
  wpAnyIn (fw ro) n G.P .any ops (ZL G e0 σ0 w0 ds N Z Q) k listed a w
 | 0,l,hl,cf,hp,hed,listed,hsz,cq,hdown,ctx,e,σ,w,a,f,hS,hF,hL,hN,bf,hZ,h=>by
  have nz:l=[]:=List.length_eq_zero_iff.1 hl;exact mq64
 | k+1,l,hl,cf,hp,hed,listed,hsz,cq,hdown,ctx,e,σ,w,a,f,hS,hF,hL,hN,bf,hZ,h=>by
  have kb:∀i b,i<ops.size->listed.getD i b=listed.getD i false:=fun i b hi=>by
   exact mq90
  refine ⟨fun hr=>?_,fun i hi=>?_⟩
  ·cases l with
   | nil=>simp at hl
   | cons x l =>
   exfalso;have hx:=cf x sM;have aa:=(Tp.1 hx).1;have:x.1∈Region.ready .any ops listed:=by
    refine mem_ready.2 ⟨?_,x.2,hx,fun ed im hb=>?_⟩
    ·rw [kb _ _ aa]
     cases hv:listed.getD x.1 false with
     | false=>rfl
     | true=>exact absurd rfl ((cq x.1 aa).1 hv x sM)
    have h1:=hed x sM ed (TJ.1 im) hb;refine (cq ed.on h1.1).2 fun p jd=>?_
    exact mq133
   rw [hr] at this;cases this
  obtain ⟨h1,o,ho,ca⟩:=mem_ready.1 hi;have aa:=(Tp.1 ho).1;rw [kb _ _ aa] at h1;have cx:∃p∈l,p.1=i:=by
   exact mq144
  obtain ⟨p,ey,rfl⟩:=cx;have tg:p.2=o:=by have:=cf p ey;rw [ho] at this;exact (Option.some.inj this).symm
  obtain ⟨pre,post,rfl⟩:=List.append_of_mem ey;obtain ⟨i,o'⟩:=p;dsimp only at tg ho aa h1 hi;subst tg;have pg:=List.pairwise_append.1 hp;have fp:=(List.pairwise_cons.1 pg.2.1)
  have fq:∀x∈pre++(i,o')::post,anc ms x.1 i=false:=fun x hx=>by
   cases qj:anc ms x.1 i with
   | false=>rfl
   | true =>
   exfalso;unfold anc at qj
   rw [wz i o' ho] at qj;rcases W7 qj with h2 | ⟨ed,im,hb,h2⟩
   ·simp at h2
   have tj:=ca ed (TJ.2 im) hb;have ah:=(cq ed.on (hed _ ey ed im hb).1).1 tj;rcases h2 with h2 | h2
   ·exact ah x hx h2.symm
   rw [hdown ed.on ah x hx] at h2;cases h2
  have io:=ZjG hM pre (fun x hx=>by
   have hA:=pg.2.2 x hx (i,o') sM;have ly:=fq x (by simp [hx]);rcases hA.2.2 with h2 | h2
   ·rw [ly] at h2;cases h2
   exact ⟨h2.1,h2.2,ly⟩) ctx f σ h
  have bj:=Vx (ro:=ro) (n:=n) hC hS hF hL hN bf hZ (ops:=ops) (hd o' (Sb ho)) io;have tn:∀x∈pre++post,x.1≠i:=fun x hx=>by
   exact mq163
  have ax:∀x,x∈pre++post->x∈pre++(i,o')::post:=fun x hx=>by
   rcases TM.1 hx with hx | hx <;> simp [hx]
  have next:∀a' w',KRel G e0 σ0 w0 ds N Z (fun f' σ'=>∃c,X1 C ops.toList ms Q (pre++post) c f' σ') a' w'->wpAnyIn (fw ro) n G.P .any ops (ZL G e0 σ0 w0 ds N Z Q) k (listed.setIfInBounds i true) a' w':=fun a' w' ⟨f',e',σ',⟨c,ee⟩,h2,h3,h4,h5,h6,h7⟩=>by
   refine ZhR hC hM hd wz k (pre++post) (by simp at hl |-;omega) (fun x hx=>cf x (ax x hx)) (List.pairwise_append.2 ⟨pg.1,fp.2,fun x hx y hy=>pg.2.2 x hx y (Tx _ hy)⟩)
    (fun x hx=>hed x (ax x hx)) (by simpa using hsz) (fun k hk=>?_) (fun j hj x hx=>?_) h2 h3 h4 h5 h6 h7 ee
   ·by_cases og:k=i
    ·subst og;have fg:k<listed.size:=by rw [hsz];exact aa
     have:(listed.setIfInBounds k true).getD k false=true:=by simp [Array.getD,fg]
     simp only [this,true_iff];exact tn
    have:(listed.setIfInBounds i true).getD k false=listed.getD k false:=getD_set_ne false (Ne.symm og);rw [this,cq k hk]
    constructor
    ·exact fun hh x hx=>hh x (ax x hx)
    intro hh x hx
    rcases TM.1 hx with hx | hx
    ·exact hh x (by simp [hx])
    rcases Tu.1 hx with rfl | hx
    ·exact fun e=>og e.symm
    exact hh x (by simp [hx])
   by_cases zj:j=i
   ·subst zj;exact fq x (ax x hx)
   refine hdown j (fun y hy=>?_) x (ax x hx);exact mq127
  have hK:∀a' w',KRel G e0 σ0 w0 ds N Z (fun f' σ'=>match YV o'.op with | true=>Zoc ms i σ.bx σ'.bx ctx (X1 C ops.toList ms Q (pre++post) ctx f' σ') | false=>X1 C ops.toList ms Q (pre++post) (VZ C.T o' i f ctx) f' σ') a' w' ->
    KRel G e0 σ0 w0 ds N Z (fun f' σ'=>∃c,X1 C ops.toList ms Q (pre++post) c f' σ') a' w':=fun a' w' ⟨f',e',σ',hk,am⟩=>by
   refine ⟨f',e',σ',?_,am⟩
   cases hE:YV o'.op with
   | true=>rw [hE] at hk;exact ⟨_,(chkL_iff.1 hk).2⟩
   | false=>rw [hE] at hk;exact ⟨_,hk⟩
  exact mq91
def ZmL (hC:CxOK G C ro e0 σ0 w0) (hM:CxMono C) {ops:Array Oper} (hd:∀o,o∈ops->∀d,o.dst=some d->d<N/\∀t v,Z t->Z (t.setIfInBounds d v)) (av:ZoJ ops.toList=true)
  (hS:SRel G e σ w) (hF:FRel G e σ w f a.tmps) (hL:Later e0 σ0 w0 e σ w) (hN:a.tmps.size=N) (bf:Marks ds e σ w a.defers) (hZ:Z a.tmps) (h:X1 C ops.toList (Wg ops.toList []) Q (Zgb ops.toList) [] f σ) :
  wpAnyIn (fw ro) n G.P .any ops (ZL G e0 σ0 w0 ds N Z Q) ops.size (Array.replicate ops.size false) a w:=by
 simp only [ZoJ,Tn] at av;obtain ⟨⟨⟨h1,h2⟩,h3⟩,h4⟩:=av;have hlen:(Zgb ops.toList).length=ops.size:=by simpa using Tl h1
 have js:∀k,k<ops.size->∃p∈Zgb ops.toList,p.1=k:=fun k hk=>Jq h3 k (by simpa using hk)
 have cf:∀p∈Zgb ops.toList,ops[p.1]?=some p.2:=fun p hp=>by have:=ZoK hp;simpa using this
 refine ZhR hC hM hd (ms:=Wg ops.toList []) (fun i o ho=>?_) _ (Zgb ops.toList) hlen cf (Wl h2).1 (fun p hp e he hb=>by have:=(Wl h2).2 p hp e he hb;simpa using this) sM (fun k hk=>?_) (fun j hj p hp=>?_) hS hF hL hN bf hZ h
 ·obtain ⟨p,hp,rfl⟩:=js i (Tp.1 ho).1;have:=cf p hp;rw [ho] at this
  cases this
  exact WI h4 p hp
 ·exact mq116
 by_cases lk:j<ops.size
 ·obtain ⟨q,hq,he⟩:=js j lk;exact absurd he (hj q hq)
 exact mq71
end
end Go.PM
end

section
namespace Go.PM
section
variable {G:GE} {e e':Env} {σ σ':St} {w w':World}
inductive NV (n:Nat) (as:List (Option Nat)):PV->PV->Prop
 | sl (t e:Nat) (rows:List (List D)) (j:Nat) (h:as[j]?=some (some t)):NV n as (.sl t e rows) (.sl j e rows)
 | nils (e j:Nat) (h:as[j]?=some none):NV n as (.nils e) (.sl j e [])
 | cl (v:PV) (h:bnd n v=true):NV n as v (clean v)
 | un (v:PV) (h:bnd n v=false):NV n as v .undef
 | clN (v:PV) (h:bnd n v=true):NV n as v (cleanN v)
structure NInv (S tk:List Nat) (as:List (Option Nat)):Prop where
 sub:∀t,t∈tk->t∈S
 mem:∀(i t:Nat),as[i]?=some (some t)->t∈S/\t∉tk
 inj:∀(i j t:Nat),as[i]?=some (some t)->as[j]?=some (some t)->i=j
def NV.ext {n:Nat} {as as':List (Option Nat)} {x y:PV} (h:NV n as x y) (hx:∃m,as'=as++m):NV n as' x y:=by
 obtain ⟨m,rfl⟩:=hx;have:∀(j:Nat) (q:Option Nat),as[j]?=some q->(as++m)[j]?=some q:=fun j q hq=>by
  rw [TH (Ti.1 hq).1];exact hq
 cases h with
 | sl t e rows j h=>exact .sl t e rows j (this _ _ h)
 | nils e j h=>exact .nils e j (this _ _ h)
 | cl _ h=>exact .cl _ h
 | un _ h=>exact .un _ h
 | clN _ h=>exact .clN _ h
def Wm {t x:Nat}:∀{l:List Nat},x∈UB t l->x∈l/\x≠t
 | [],h=>by simp [UB] at h
 | y::l,h=>by
  simp only [UB] at h;split at h
  ·exact ⟨Tx _ (Wm h).1,(Wm h).2⟩
  rename_i hb
  rcases Tu.1 h with rfl | h
  ·exact ⟨sM,fun e=>by subst e;simp at hb⟩
  exact ⟨Tx _ (Wm h).1,(Wm h).2⟩
def Ue {as as' as'':List (Option Nat)} (h:∃m,as'=as++m) (h':∃m,as''=as'++m):∃m,as''=as++m:=by
 obtain ⟨m,rfl⟩:=h;obtain ⟨m',rfl⟩:=h';exact ⟨m++m',by rw [To]⟩
def NInv.add {S tk:List Nat} {as:List (Option Nat)} (h:NInv S tk as) {t:Nat} (ht:t∈tk):NInv S (UB t tk) (as++[some t]):=by
 have key:∀(i s:Nat),(as++[some t])[i]?=some (some s)->(as[i]?=some (some s))\/(i=as.length/\s=t):=fun i s hi=>by
  by_cases aa:i<as.length
  ·rw [TH aa] at hi;exact .inl hi
  rw [TT oM] at hi;have:=(Ti.1 hi).1;simp only [TF] at this;have h0:i - as.length=0:=oM;rw [h0] at hi;simp at hi;exact .inr ⟨oM,hi.symm⟩
 refine ⟨fun x hx=>h.sub x (Wm hx).1,fun i s hi=>?_,fun i j s hi hj=>?_⟩
 ·rcases key i s hi with h1 | ⟨_,rfl⟩
  ·exact ⟨(h.mem i s h1).1,fun hm=>(h.mem i s h1).2 (Wm hm).1⟩
  exact ⟨h.sub _ ht,fun hm=>(Wm hm).2 rfl⟩
 rcases key i s hi with h1 | ⟨h1,rfl⟩ <;> rcases key j s hj with h2 | ⟨h2,h3⟩
 ·exact h.inj i j s h1 h2
 ·subst h3;exact absurd ht (h.mem i _ h1).2
 ·exact absurd ht (h.mem j _ h2).2
 omega
def NInv.nil {S tk:List Nat} {as:List (Option Nat)} (h:NInv S tk as):NInv S tk (as++[none]):=by
 have key:∀(i s:Nat),(as++[none])[i]?=some (some s)->(as[i]?=some (some s)):=fun i s hi=>by
  by_cases aa:i<as.length
  ·rw [TH aa] at hi;exact hi
  rw [TT oM] at hi;have:=(Ti.1 hi).1;simp only [TF] at this;have h0:i - as.length=0:=oM;rw [h0] at hi;simp at hi
 exact ⟨h.sub,fun i s hi=>h.mem i s (key i s hi),fun i j s hi hj=>h.inj i j s (key i s hi) (key j s hj)⟩
def Zu7 {n:Nat} {S tk:List Nat} {as:List (Option Nat)} (hI:NInv S tk as) {v:PV} {K:PV->List Nat->Nat->Prop} (h:ZrN n tk as.length v K) :
  ∃v' tk' as',K v' tk' as'.length/\(∃m,as'=as++m)/\NInv S tk' as'/\NV n as' v v':=by
 have gen:∀v,(match bnd n v with | true=>UW (clean v) fun v=>K v tk as.length | false=>K .undef tk as.length:Prop)->∃v' tk' as',K v' tk' as'.length/\(∃m,as'=as++m)/\NInv S tk' as'/\NV n as' v v':=fun v h=>by
  split at h
  ·rename_i hb;rw [ZP] at h;exact ⟨_,tk,as,h,⟨[],sM⟩,hI,.cl v hb⟩
  rename_i hb;exact ⟨_,tk,as,h,⟨[],sM⟩,hI,.un v hb⟩
 cases v with
 | sl t el rows =>
  simp only [ZrN] at h;exact mq99
 | nils el=>exact ⟨_,tk,as++[none],by simpa [ZrN] using h,⟨[none],rfl⟩,hI.nil,.nils el _ sM⟩
 | _=>exact gen _ h
def ZcY {n:Nat} {S:List Nat}:∀{vs:List PV} {tk:List Nat} {as:List (Option Nat)} (_:NInv S tk as) {K:List PV->List Nat->Nat->Prop},ZrO n vs tk as.length K ->
  ∃vs' tk' as',K vs' tk' as'.length/\(∃m,as'=as++m)/\NInv S tk' as'/\vs'.length=vs.length/\∀(i:Nat) (x y:PV),vs[i]?=some x->vs'[i]?=some y->NV n as' x y
 | [],tk,as,hI,K,h=>⟨[],tk,as,h,⟨[],sM⟩,hI,rfl,fun i x y hx=>by simp at hx⟩
 | v::vs,tk,as,hI,K,h=>by
  obtain ⟨v',tk1,as1,h1,dl,lz,hv⟩:=Zu7 hI h;obtain ⟨vs',tk2,as2,h2,bo,fk,hl,be⟩:=ZcY lz h1;exact mq53
def Zk6 {n:Nat} {S tk:List Nat} {as:List (Option Nat)} (hI:NInv S tk as) {v:PV} {K:PV->List Nat->Nat->Prop} (h:ZcJ n tk as.length v K) :
  ∃v' tk' as',K v' tk' as'.length/\(∃m,as'=as++m)/\NInv S tk' as'/\NV n as' v v':=by
 have gen:∀v,(match bnd n v with | true=>UW (cleanN v) fun v=>K v tk as.length | false=>K .undef tk as.length:Prop)->∃v' tk' as',K v' tk' as'.length/\(∃m,as'=as++m)/\NInv S tk' as'/\NV n as' v v':=fun v h=>by
  split at h
  ·rename_i hb;rw [ZP] at h;exact ⟨_,tk,as,h,⟨[],sM⟩,hI,.clN v hb⟩
  rename_i hb;exact ⟨_,tk,as,h,⟨[],sM⟩,hI,.un v hb⟩
 cases v with
 | sl t el rows =>
  simp only [ZcJ] at h;exact mq99
 | nils el=>exact ⟨_,tk,as++[none],by simpa [ZcJ] using h,⟨[none],rfl⟩,hI.nil,.nils el _ sM⟩
 | _=>exact gen _ h
def Zgk {n:Nat} {S:List Nat}:∀{vs:List PV} {tk:List Nat} {as:List (Option Nat)} (_:NInv S tk as) {K:List PV->List Nat->Nat->Prop},Zjq n vs tk as.length K ->
  ∃vs' tk' as',K vs' tk' as'.length/\(∃m,as'=as++m)/\NInv S tk' as'/\vs'.length=vs.length/\∀(i:Nat) (x y:PV),vs[i]?=some x->vs'[i]?=some y->NV n as' x y
 | [],tk,as,hI,K,h=>⟨[],tk,as,h,⟨[],sM⟩,hI,rfl,fun i x y hx=>by simp at hx⟩
 | v::vs,tk,as,hI,K,h=>by
  obtain ⟨v',tk1,as1,h1,dl,lz,hv⟩:=Zk6 hI h;obtain ⟨vs',tk2,as2,h2,bo,fk,hl,be⟩:=Zgk lz h1;exact mq53
inductive NB (n:Nat) (as:List (Option Nat)):Box->Box->Prop
 | cells (t:TypeId) (cs cs':List PV) (hl:cs'.length=cs.length) (h:∀(i:Nat) (x y:PV),cs[i]?=some x->cs'[i]?=some y->NV n as x y):NB n as (.cells t cs) (.cells t cs')
 | iter (s:List UInt8) (p:Nat):NB n as (.iter s p) (.iter s p)
 | loop (st:LoopState) (pd:Option Code) (r:Loop):NB n as (.loop st pd r) (.loop st pd r)
 | dmap (m:List (List UInt8×MV)):NB n as (.dmap m) (.dmap m)
 | smap (el:Nat) (m:List (List UInt8×List (List D))):NB n as (.smap el m none) (.smap el m none)
 | map (cs cs':List PV) (bn:List Nat) (ck:Nat) (hl:cs'.length=cs.length) (h:∀(i:Nat) (x y:PV),cs[i]?=some x->cs'[i]?=some y->NV n as x y):NB n as (.map cs bn ck) (.map cs' bn ck)
def NB.ext {n:Nat} {as as':List (Option Nat)} {x y:Box} (h:NB n as x y) (hx:∃m,as'=as++m):NB n as' x y:=by
 cases h with
 | cells t cs cs' hl h=>exact .cells t cs cs' hl fun i x y h1 h2=>(h i x y h1 h2).ext hx
 | iter s p=>exact .iter s p
 | loop st pd r=>exact .loop st pd r
 | dmap m=>exact .dmap m
 | smap el m=>exact .smap el m
 | map cs cs' bn ck hl h=>exact .map cs cs' bn ck hl fun i x y h1 h2=>(h i x y h1 h2).ext hx
def WS {n:Nat} {S:List Nat}:∀{m:Nat} {bs:List Box} {tk:List Nat} {as:List (Option Nat)} (_:NInv S tk as) {K:List Box->List Nat->Nat->Prop},ZcK n m bs tk as.length K ->
  ∃bs' tk' as',K bs' tk' as'.length/\(∃m,as'=as++m)/\NInv S tk' as'/\bs'.length=m/\m<=bs.length/\∀(i:Nat) (x y:Box),bs[i]?=some x->bs'[i]?=some y->NB n as' x y
 | 0,bs,tk,as,hI,K,h=>⟨[],tk,as,by simpa [ZcK] using h,⟨[],sM⟩,hI,rfl,T6 _,fun i x y _ hy=>by simp at hy⟩
 | m+1,[],tk,as,hI,K,h=>h.elim
 | m+1,.cells t cs::bs,tk,as,hI,K,h=>by
  obtain ⟨cs',tk1,as1,h1,dl,lz,dt,hv⟩:=ZcY hI h;obtain ⟨bs',tk2,as2,h2,bo,fk,hl,hm,be⟩:=WS lz h1;refine ⟨.cells t cs'::bs',tk2,as2,h2,Ue dl bo,fk,by simp [hl],sO,fun i x y hx hy=>?_⟩
  cases i with
  | zero=>simp at hx hy;subst hx;subst hy;exact .cells t cs cs' dt fun i x y h1 h2=>(hv i x y h1 h2).ext bo
  | succ i=>exact be i x y (by simpa using hx) (by simpa using hy)
 | m+1,.iter s p::bs,tk,as,hI,K,h=>by
  obtain ⟨bs',tk2,as2,h2,bo,fk,hl,hm,be⟩:=WS hI (K:=fun l tk k=>K (.iter s p::l) tk k) h;refine ⟨.iter s p::bs',tk2,as2,h2,bo,fk,by simp [hl],sO,fun i x y hx hy=>?_⟩
  cases i with
  | zero=>simp at hx hy;subst hx;subst hy;exact .iter s p
  | succ i=>exact be i x y (by simpa using hx) (by simpa using hy)
 | m+1,.loop st pd r::bs,tk,as,hI,K,h=>by
  obtain ⟨bs',tk2,as2,h2,bo,fk,hl,hm,be⟩:=WS hI (K:=fun l tk k=>K (.loop st pd r::l) tk k) h;refine ⟨.loop st pd r::bs',tk2,as2,h2,bo,fk,by simp [hl],sO,fun i x y hx hy=>?_⟩
  cases i with
  | zero=>simp at hx hy;subst hx;subst hy;exact .loop st pd r
  | succ i=>exact be i x y (by simpa using hx) (by simpa using hy)
 | m+1,.dmap c::bs,tk,as,hI,K,h=>by
  obtain ⟨bs',tk2,as2,h2,bo,fk,hl,hm,be⟩:=WS hI (K:=fun l tk k=>K (.dmap c::l) tk k) h;refine ⟨.dmap c::bs',tk2,as2,h2,bo,fk,by simp [hl],sO,fun i x y hx hy=>?_⟩
  cases i with
  | zero=>simp at hx hy;subst hx;subst hy;exact .dmap c
  | succ i=>exact be i x y (by simpa using hx) (by simpa using hy)
 | m+1,.smap el c none::bs,tk,as,hI,K,h=>by
  obtain ⟨bs',tk2,as2,h2,bo,fk,hl,hm,be⟩:=WS hI (K:=fun l tk k=>K (.smap el c none::l) tk k) h;refine ⟨.smap el c none::bs',tk2,as2,h2,bo,fk,by simp [hl],sO,fun i x y hx hy=>?_⟩
  cases i with
  | zero=>simp at hx hy;subst hx;subst hy;exact .smap el c
  | succ i=>exact be i x y (by simpa using hx) (by simpa using hy)
 | m+1,.smap _ _ (some _)::bs,tk,as,hI,K,h=>h.elim
 | m+1,.map cs bn ck::bs,tk,as,hI,K,h=>by
  obtain ⟨cs',tk1,as1,h1,dl,lz,dt,hv⟩:=ZcY hI h;obtain ⟨bs',tk2,as2,h2,bo,fk,hl,hm,be⟩:=WS lz h1;refine ⟨.map cs' bn ck::bs',tk2,as2,h2,Ue dl bo,fk,by simp [hl],sO,fun i x y hx hy=>?_⟩
  cases i with
  | zero=>simp at hx hy;subst hx;subst hy;exact .map cs cs' bn ck dt fun i x y h1 h2=>(hv i x y h1 h2).ext bo
  | succ i=>exact be i x y (by simpa using hx) (by simpa using hy)
structure Drop (n:Nat) (e:Env) (σ:St) (e':Env) (σ':St):Prop where
 le:n<=σ.bx.length
 len:σ'.bx.length=n
 beta:e'.β=e.β
 X:e'.X=e.X
 H:e'.H=e.H
 okc:∀b off,okc e σ b off->okc e' σ' b off
 tok:∀t,t∈σ'.tk->∀p,e'.M t=some p->∃t0,t0∈σ.tk/\e.M t0=some p
def Later.drop {e1:Env} {σ1:St} {w1:World} {n:Nat} (h:Later e1 σ1 w1 e σ w) (hd:Drop n e σ e' σ') (hn:σ1.bx.length<=n):Later e1 σ1 w1 e' σ' w where
 len:=by rw [hd.len];exact hn
 beta:=by rw [hd.beta];exact h.beta
 X:=fun b off hx=>by rw [hd.X];exact h.X b off hx
 pres:=fun b off u hu ho=>let ⟨h1,h2⟩:=h.pres b off u hu ho;⟨hd.okc b off h1,h2⟩
 blocks:=h.blocks
 size:=h.size
 os:=h.os
 tape:=h.tape
 output:=h.output
 fresh:=fun i h1 h2=>by rw [hd.len] at h2;rw [hd.beta];exact h.fresh i h1 (TA h2 hd.le)
 ftok:=fun t ht p hp=>let ⟨t0,h0,h1⟩:=hd.tok t ht p hp;h.ftok t0 h0 p h1
 fhid:=fun b hb=>h.fhid b (by rw [<- hd.H];exact hb)
def Marks.drop {lo:Nat×List Deferred×Bool} {n:Nat} {l:List Deferred} (h:Marks lo e σ w l) (hd:Drop n e σ e' σ'):Marks lo e' σ' w l:=by
 obtain ⟨h0,rs,h1,dy,h2,h3⟩:=h;refine ⟨h0,rs,h1,dy,h2,fun r hr=>?_⟩;obtain ⟨g1,g2,g3,g4,g5⟩:=h3 r hr;refine ⟨g1,g2,fun i hi=>?_,fun t ht p hp=>?_,by rw [hd.H];exact g5⟩
 ·rw [hd.beta];rw [hd.len] at hi;exact g3 i (TA hi hd.le)
 obtain ⟨t0,h0,nt⟩:=hd.tok t ht p hp;exact g4 t0 h0 p nt
def mem_toks {t:Nat}:∀{k:Nat},t∈toks k↔t<k
 | 0=>by simp [toks]
 | k+1=>by simp only [toks,Tu,mem_toks];omega
def Env.re (e:Env) (as:List (Option Nat)):Env:={ e with M:=fun j=>(as[j]?.join).bind e.M }
def Jr {as:List (Option Nat)} {j:Nat} {p:Nat×Nat} (h:(e.re as).M j=some p):∃t,as[j]?=some (some t)/\e.M t=some p:=by
 simp only [Env.re] at h
 cases hj:as[j]? with
 | none=>rw [hj] at h;simp at h
 | some q =>
 cases q with
 | none=>rw [hj] at h;simp at h
 | some t=>rw [hj] at h;exact ⟨t,rfl,by simpa using h⟩
def ZcZ {n:Nat} (hn:n<=σ.bx.length) {as:List (Option Nat)} {tk:List Nat} (hI:NInv σ.tk tk as) {bs:List Box} (hb:bs.length=n):Drop n e σ (e.re as) ⟨bs,toks as.length,as.length⟩ where
 le:=hn
 len:=hb
 beta:=rfl
 X:=rfl
 H:=rfl
 okc:=fun b off ho=>⟨ho.1,fun i hi=>ho.2.1 i (TA hi (by rw [show (St.mk bs (toks as.length) as.length).bx.length=n from hb];exact hn)),fun t ht p hp s5=>by
  obtain ⟨t0,h1,h2⟩:=Jr hp;exact ho.2.2.1 t0 (hI.mem _ _ h1).1 p h2 s5,ho.2.2.2⟩
 tok:=fun t ht p hp=>by
  obtain ⟨t0,h1,h2⟩:=Jr hp;exact ⟨t0,(hI.mem _ _ h1).1,h2⟩
def NV.rel {n:Nat} (hn:n<=σ.bx.length) {as:List (Option Nat)} {tk:List Nat} (hI:NInv σ.tk tk as) {bs:List Box} (hb:bs.length=n) {x y:PV} {v:Value} (h:NV n as x y) (hv:VRel G e σ w x v) :
  VRel G (e.re as) ⟨bs,toks as.length,as.length⟩ w y v:=by
 have hd:=ZcZ (e:=e) hn hI hb;have aa:∀(j:Nat) (q:Option Nat),as[j]?=some q->j<as.length:=fun j q hq=>(Ti.1 hq).1
 cases h with
 | sl t el rows j h =>
  cases hv with
  | sl _ _ _ _ ip cd ht =>
  refine .sl j el rows v (aa _ _ h) (cd.mono fun b off u hu ho=>⟨hd.okc b off ho,hu⟩) fun _=>?_
  have hM:(e.re as).M j=e.M t:=by simp [Env.re,h]
  rcases ht (hI.mem _ _ h).1 with ⟨h1,h2,h3⟩ | ⟨sz,h1,h2,h3,b,off,cap,cs,ty,fz,h4,h5,h6,h7,h8,h9,y8⟩
  ·exact .inl ⟨h1,h2,hM.trans h3⟩
  exact .inr ⟨sz,h1,h2,h3,b,off,cap,cs,ty,fz,h4,h5,h6,h7,h8,h9,hM.trans y8⟩
 | nils el j h =>
  cases hv with
  | nils =>
  refine .sl j el [] _ (aa _ _ h) .slnil fun _=>.inl ⟨rfl,rfl,?_⟩
  simp [Env.re,h]
 | cl _ h=>exact VRel.clean (e:=e) (e':=e.re as) (σ:=σ) (σ':=⟨bs,toks as.length,as.length⟩) (w:=w) (w':=w) (n:=n) (by show n<=bs.length;omega) (fun _ _=>rfl) (fun b off u hu ho=>⟨hd.okc b off ho,hu⟩) hv h
 | un _=>exact .undef v
 | clN _ h=>exact VRel.cleanN (e:=e) (e':=e.re as) (σ:=σ) (σ':=⟨bs,toks as.length,as.length⟩) (w:=w) (w':=w) (n:=n) (by show n<=bs.length;omega) (fun _ _=>rfl) (fun b off u hu ho=>⟨hd.okc b off ho,hu⟩) hv h
def Zgl {n:Nat} (hS:SRel G e σ w) (hn:n<=σ.bx.length) {as:List (Option Nat)} {tk:List Nat} (hI:NInv σ.tk tk as) {bs:List Box} (hb:bs.length=n)
  (ll:∀(i:Nat) (x y:Box),σ.bx[i]?=some x->bs[i]?=some y->NB n as x y):SRel G (e.re as) ⟨bs,toks as.length,as.length⟩ w where
 inj:=fun i j hi hj h=>hS.inj i j (by simp only at hi;omega) (by simp only at hj;omega) h
 box:=fun i y hy=>by
  have hi:=(Ti.1 hy).1;simp only at hi;have hx:σ.bx[i]?=some σ.bx[i]:=Ta oM;have hB:=hS.box i _ hx;have hN:=ll i _ y hx hy;generalize σ.bx[i]=x at hB hN
  cases hN with
  | cells t cs cs' hl h =>
   obtain ⟨vs,h1,h2,h3⟩:=hB;refine ⟨vs,h1,by rw [hl];exact h2,fun k z u hz hu=>?_⟩;have hk:=(Ti.1 hz).1;have hx:cs[k]?=some cs[k]:=Ta oM;exact ⟨(h k _ z hx hz).rel hn hI hb (h3 k _ u hx hu).1,(h3 k _ u hx hu).2⟩
  | iter s p=>exact hB
  | loop st pd r=>exact hB
  | dmap m=>exact hB.dmapTo rfl fun d v hv=>by have q:VRel G _ _ _ (.d d) v:=(NV.cl (n:=n) (as:=as) (.d d) rfl).rel hn hI hb (VRel.d d v hv);cases q;assumption
  | smap el m=>exact hB.smap0 rfl (fun d v hv=>by have q:VRel G _ _ _ (.d d) v:=(NV.cl (n:=n) (as:=as) (.d d) rfl).rel hn hI hb (VRel.d d v hv);cases q;assumption) HKeep.rfl'
  | map cs cs' bn ck hl h=>exact hB.mapTo rfl hl fun i x y hx hy=>⟨fun v hv=>(h i x y hx hy).rel hn hI hb hv,fun d hd=>by subst hd;cases h i _ y hx hy with | cl _ _=>rfl | clN _ _=>rfl | un _ hu=>cases hu⟩
 low:=fun i hi=>hS.low i (by simp only at hi;omega)
 tkn:=fun t ht=>mem_toks.1 ht
 own:=fun t ht p hp=>by
  obtain ⟨t0,h1,h2⟩:=Jr hp;obtain ⟨h3,h4,h5⟩:=hS.own t0 (hI.mem _ _ h1).1 p h2;exact ⟨h3,fun i hi=>h4 i (by simp only at hi;omega),h5⟩
 dis:=fun t t' ht ku ah p p' hp jd=>by
  obtain ⟨t0,h1,h2⟩:=Jr hp;obtain ⟨t1,h3,h4⟩:=Jr jd;exact hS.dis t0 t1 (hI.mem _ _ h1).1 (hI.mem _ _ h3).1 (fun h=>ah (hI.inj _ _ _ h1 (by rw [h];exact h3))) p p' h2 h4
 xlt:=hS.xlt
 hid:=fun b q hq=>by
  obtain ⟨k1,k2,k3,k4,k5⟩:=hS.hid b q hq;exact ⟨k1,k2,fun i hi=>k3 i (by simp only at hi;omega),fun t ht p hp=>by obtain ⟨t0,h1,h2⟩:=Jr hp;exact k4 t0 (hI.mem _ _ h1).1 p h2,k5⟩
 xown:=fun t ht p hp=>by
  obtain ⟨t0,h1,h2⟩:=Jr hp;exact hS.xown t0 (hI.mem _ _ h1).1 p h2
 glob:=hS.glob
 big:=hS.big
def ZFF (S:List Nat) (tk:List Nat) (h:∀t,t∈tk->t∈S):NInv S tk []:=⟨h,fun i t h=>by simp at h,fun i j t h=>by simp at h⟩
def Zk7 (hS:SRel G e σ w) {n:Nat} {vs:List PV} {K:List PV->St->Prop} (h:Zoe n vs σ K) :
  ∃vs' σ' e',K vs' σ'/\SRel G e' σ' w/\Drop n e σ e' σ'/\vs'.length=vs.length/\∀(i:Nat) (x y:PV) (u:Value),vs[i]?=some x->vs'[i]?=some y->VRel G e σ w x u->VRel G e' σ' w y u:=by
 obtain ⟨vs',tk1,as1,h1,dl,lz,hl,hv⟩:=ZcY (as:=[]) (ZFF σ.tk σ.tk fun _ h=>h) h;obtain ⟨bs,tk2,as2,h2,bo,fk,cj,hn,ll⟩:=WS lz h1;exact ⟨vs',⟨bs,toks as2.length,as2.length⟩,e.re as2,h2,Zgl hS hn fk cj ll,ZcZ hn fk cj,hl,fun i x y u hx hy hr=>((hv i x y hx hy).ext bo).rel hn fk cj hr⟩
inductive NVA (n:Nat) (as:List (Option Nat)):PV->PV->Prop
 | one (x y:PV) (h:NV n as x y):NVA n as x y
 | agg (cs cs':List PV) (hl:cs'.length=cs.length) (h:∀(i:Nat) (x y:PV),cs[i]?=some x->cs'[i]?=some y->NV n as x y):NVA n as (.agg cs) (.agg cs')
def NVA.ext {n:Nat} {as as':List (Option Nat)} {x y:PV} (h:NVA n as x y) (hx:∃m,as'=as++m):NVA n as' x y:=by
 cases h with
 | one _ _ h=>exact .one _ _ (h.ext hx)
 | agg cs cs' hl h=>exact .agg cs cs' hl fun i x y h1 h2=>(h i x y h1 h2).ext hx
def NVA.rel {n:Nat} (hn:n<=σ.bx.length) {as:List (Option Nat)} {tk:List Nat} (hI:NInv σ.tk tk as) {bs:List Box} (hb:bs.length=n) {x y:PV} {v:Value} (h:NVA n as x y) (hv:VRel G e σ w x v) :
  VRel G (e.re as) ⟨bs,toks as.length,as.length⟩ w y v:=by
 cases h with
 | one _ _ h=>exact h.rel hn hI hb hv
 | agg cs cs' hl h =>
 cases hv with
 | agg _ vs hs h2 h1 =>
 refine .agg cs' vs (by rw [hs,hl]) (fun i y u hy hu=>?_) h1;have hi:=(Ti.1 hy).1;rw [hl] at hi;have hx:=Ta hi;exact (h i _ y hx hy).rel hn hI hb (h2 i _ u hx hu)
def ZrW {n:Nat} {S tk:List Nat} {as:List (Option Nat)} (hI:NInv S tk as) {v:PV} {K:PV->List Nat->Nat->Prop} (h:ZhC n tk as.length v K) :
  ∃v' tk' as',K v' tk' as'.length/\(∃m,as'=as++m)/\NInv S tk' as'/\NVA n as' v v':=by
 have gen:ZcJ n tk as.length v K->∃v' tk' as',K v' tk' as'.length/\(∃m,as'=as++m)/\NInv S tk' as'/\NVA n as' v v':=fun h=>by
  obtain ⟨v',tk',as',h1,h2,h3,h4⟩:=Zk6 hI h;exact ⟨v',tk',as',h1,h2,h3,.one _ _ h4⟩
 cases v with
 | agg cs =>
  simp only [ZhC] at h;obtain ⟨cs',tk',as',h1,h2,h3,h4,h5⟩:=Zgk hI h;exact ⟨_,tk',as',h1,h2,h3,.agg cs cs' h4 h5⟩
 | _=>exact gen h
def Zgm {n:Nat} {S:List Nat}:∀{vs:List PV} {tk:List Nat} {as:List (Option Nat)} (_:NInv S tk as) {K:List PV->List Nat->Nat->Prop},Zjr n vs tk as.length K ->
  ∃vs' tk' as',K vs' tk' as'.length/\(∃m,as'=as++m)/\NInv S tk' as'/\vs'.length=vs.length/\∀(i:Nat) (x y:PV),vs[i]?=some x->vs'[i]?=some y->NVA n as' x y
 | [],tk,as,hI,K,h=>⟨[],tk,as,h,⟨[],sM⟩,hI,rfl,fun i x y hx=>by simp at hx⟩
 | v::vs,tk,as,hI,K,h=>by
  obtain ⟨v',tk1,as1,h1,dl,lz,hv⟩:=ZrW hI h;obtain ⟨vs',tk2,as2,h2,bo,fk,hl,be⟩:=Zgm lz h1;exact mq53
def ZrX {md n:Nat} {S:List Nat} {vs:List PV} {tk:List Nat} {as:List (Option Nat)} (hI:NInv S tk as) {K:List PV->List Nat->Nat->Prop} (h:Zod md n vs tk as.length K) :
  ∃vs' tk' as',K vs' tk' as'.length/\(∃m,as'=as++m)/\NInv S tk' as'/\vs'.length=vs.length/\∀(i:Nat) (x y:PV),vs[i]?=some x->vs'[i]?=some y->NVA n as' x y:=by
 unfold Zod at h
 split at h
 ·obtain ⟨a,b,c,h1,h2,h3,h4,h5⟩:=ZcY hI h;exact ⟨a,b,c,h1,h2,h3,h4,fun i x y h6 h7=>.one _ _ (h5 i x y h6 h7)⟩
 ·obtain ⟨a,b,c,h1,h2,h3,h4,h5⟩:=Zgk hI h;exact ⟨a,b,c,h1,h2,h3,h4,fun i x y h6 h7=>.one _ _ (h5 i x y h6 h7)⟩
 exact Zgm hI h
def Zc0 (hS:SRel G e σ w) {ag:Bool} {n:Nat} {vs:List PV} {K:List PV->St->Prop} (h:V9 ag n vs σ K) :
  ∃vs' σ' e',K vs' σ'/\SRel G e' σ' w/\Drop n e σ e' σ'/\vs'.length=vs.length/\∀(i:Nat) (x y:PV) (u:Value),vs[i]?=some x->vs'[i]?=some y->VRel G e σ w x u->VRel G e' σ' w y u:=by
 cases ag with
 | false=>exact Zk7 hS h
 | true =>
 obtain ⟨vs',tk1,as1,h1,dl,lz,hl,hv⟩:=Zgm (as:=[]) (ZFF σ.tk σ.tk fun _ h=>h) h;obtain ⟨bs,tk2,as2,h2,bo,fk,cj,hn,ll⟩:=WS lz h1;exact ⟨vs',⟨bs,toks as2.length,as2.length⟩,e.re as2,h2,Zgl hS hn fk cj ll,ZcZ hn fk cj,hl,fun i x y u hx hy hr=>((hv i x y hx hy).ext bo).rel hn fk cj hr⟩
end
end Go.PM
end

section
namespace Go.PM
variable {G:GE} {e:Env} {σ:St} {w:World}
def Zgn {α:Type} {k:List UInt8} {v:α}:∀{m:List (List UInt8×α)},lkM k m=some v->∃j:Nat,m[j]?=some (k,v)
 | [],h=>by cases h
 | (x,u)::l,h=>by
  simp only [lkM] at h
  by_cases hk:k=x
  ·subst hk;simp at h;subst h;exact ⟨0,rfl⟩
  simp only [decide_eq_false hk] at h;obtain ⟨j,hj⟩:=Zgn h;exact ⟨j+1,by simpa using hj⟩
def Zgo {α:Type} {k:List UInt8}:∀{m:List (List UInt8×α)},lkM k m=none->∀(i:Nat) (x:List UInt8×α),m[i]?=some x->x.1≠k
 | [],_,i,x,h=>by simp at h
 | (y,u)::l,h,i,x,hx=>by
  simp only [lkM] at h
  by_cases hk:k=y
  ·subst hk;simp at h
  simp only [decide_eq_false hk] at h
  cases i with
  | zero=>simp at hx;subst hx;exact fun e=>hk e.symm
  | succ i=>exact Zgo h i x (by simpa using hx)
def ZoL {α:Type} {m:List (List UInt8×α)} (h:(m.map (·.1)).Nodup) {i j:Nat} {x y:List UInt8×α} (hi:m[i]?=some x) (hj:m[j]?=some y) (hk:x.1=y.1):i=j:=by
 have h1:(m.map (·.1))[i]?=some x.1:=by rw [Th,hi];rfl
 have h2:(m.map (·.1))[j]?=some x.1:=by rw [Th,hj,hk];rfl
 have l1:=(Ti.1 h1).1;exact (List.getElem?_inj l1 h).1 (h1.trans h2.symm)
def X4 {fo:Option (List UInt8×PV)}:∀m:List (List UInt8×List (List D)),(VT m fo).length=2 * m.length
 | []=>rfl
 | (x,v)::l=>by simp only [VT,Te,X4 l];omega
def ZjH {α:Type} {k:List UInt8} {v:α}:∀{m:List (List UInt8×α)} {i:Nat} {x:List UInt8×α},(m.map (·.1)).Nodup->m[i]?=some x->(Yo k v m)[i]?=some (x.1,match decide (x.1=k) with | true=>v | false=>x.2)
 | [],i,x,_,h=>by simp at h
 | (y,u)::l,i,x,hn,h=>by
  simp only [TE,List.nodup_cons] at hn;simp only [Yo]
  by_cases hk:k=y
  ·subst hk;simp only [decide_true]
   cases i with
   | zero=>simp at h;subst h;simp
   | succ i =>
   have h:l[i]?=some x:=by simpa using h
   have ah:¬x.1=k:=fun e=>hn.1 (by rw [<- e];exact List.mem_map_of_mem (TW h))
   simp only [TP,h,decide_eq_false ah]
  simp only [decide_eq_false hk]
  cases i with
  | zero =>
   simp at h;subst h;have ah:¬y=k:=fun e=>hk e.symm
   simp [ah]
  | succ i =>
  have h:l[i]?=some x:=by simpa using h
  simp only [TP];exact ZjH hn.2 h
def putM_len {α:Type} {k:List UInt8} {v u:α} {m:List (List UInt8×α)} (h:lkM k m=some u):(Yo k v m).length=m.length:=by
 rcases ZcQ (k:=k) (v:=v) m with ⟨_,h2⟩ | ⟨h1,_⟩
 ·simpa using congrArg List.length h2
 obtain ⟨j,hj⟩:=Zgn h;exact absurd (Sw.2 ⟨_,TW hj,rfl⟩) h1
def Env.foc (e:Env) (t:Nat) (p:Option (Nat×Nat)):Env:={ e with M:=fun i=>if i=t then p else e.M i,H:=fun b=>match p with | none=>e.H b | some q=>if b=q.1 then none else e.H b }
def Zu8 {t:Nat} {p:Option (Nat×Nat)} {b:Nat} {q:(Nat×List UInt8)×Nat} (h:(e.foc t p).H b=some q):e.H b=some q/\∀r,p=some r->b≠r.1:=by
 simp only [Env.foc] at h
 cases p with
 | none=>exact ⟨h,fun r hr=>by cases hr⟩
 | some r =>
 simp only at h;split at h
 ·cases h
 rename_i ah;exact ⟨h,fun r' nh=>by cases nh;exact ah⟩
def Zk8 {t:Nat} {p:Option (Nat×Nat)} {b:Nat} {q:(Nat×List UInt8)×Nat} (h:e.H b=some q) (hn:∀r,p=some r->b≠r.1):(e.foc t p).H b=some q:=by
 simp only [Env.foc]
 cases p with
 | none=>exact h
 | some r=>simp only;rw [Tf (hn r rfl)];exact h
def ZjI (hS:SRel G e σ w) {b:Nat} {k:List UInt8} {K:St->Prop} (h:Ze6 b k σ K):∃e1 σ1,K σ1/\Stepped e σ w e1 σ1 w/\SRel G e1 σ1 w:=by
 unfold Ze6 at h
 split at h
 ·rename_i el m dv
  have cj:b<σ.bx.length:=(Ti.1 dv).1;obtain ⟨es,⟨bn,ck,h1,h2,h3,h4⟩,h5,h6,h7⟩:=hS.box b _ dv;have tq:es.size=m.length:=by rw [X4] at h3;omega
  rcases h.ex with ⟨rows,ph,h⟩ | ⟨ph,h⟩
  ·obtain ⟨j,hj⟩:=Zgn ph;have mi:j<es.size:=by rw [tq];exact (Ti.1 hj).1
   obtain ⟨p,hO,hH⟩:=h5 j es[j] (k,rows) (Tz mi) hj fun kv gc=>by cases gc
   simp only at hO hH;have pi:∀t,t∈σ.tk->(e.foc σ.nx p).M t=e.M t:=fun t ht=>by
    have:=hS.tkn t ht;simp only [Env.foc];rw [Tf oM]
   have jh:(e.foc σ.nx p).M σ.nx=p:=by simp [Env.foc]
   have em:(σ.set b (.smap el m (some (k,.sl σ.nx el rows)))).bx.length=σ.bx.length:=by simp [St.set]
   have hst:Stepped e σ w (e.foc σ.nx p) { σ.set b (.smap el m (some (k,.sl σ.nx el rows))) with tk:=σ.nx::σ.tk,nx:=σ.nx+1 } w:={
    len:=by show σ.bx.length<=(σ.set b _).bx.length;rw [em];exact Tt _
    beta:=fun _ _=>rfl
    X:=fun _ _ h=>h
    pres:=fun b' off u hu ho=>⟨⟨ho.1,fun i hi=>ho.2.1 i (by rw [<- em];exact hi),fun t ht q hq nj=>by
     rcases Tu.1 ht with rfl | ht
     ·rw [jh] at hq;have:=ho.2.2.2 _ (nj ▸ hH q hq);exact this
     rw [pi t ht] at hq;exact ho.2.2.1 t ht q hq nj,fun q hq=>ho.2.2.2 q (Zu8 hq).1⟩,hu⟩
    blocks:=fun _ _ _ _ _=>rfl
    size:=Tt _
    os:=rfl
    tape:=rfl
    output:=rfl
    fresh:=fun i g1 g2=>by have g2:i<(σ.set b (.smap el m (some (k,.sl σ.nx el rows)))).bx.length:=g2;rw [em] at g2;omega
    ftok:=fun t ht q hq=>by
     rcases Tu.1 ht with rfl | ht
     ·rw [jh] at hq;exact .inr (.inr (by rw [hH q hq];simp))
     rw [pi t ht] at hq;exact .inr (.inl ⟨t,ht,q,hq,rfl⟩)
    fhid:=fun b' fm=>by
     cases hq:(e.foc σ.nx p).H b' with
     | none=>exact absurd hq fm
     | some q=>exact .inr (.inr (by rw [(Zu8 hq).1];simp))
    nx:=Nat.le_succ _
    toks:=fun t aa ht=>by
     rcases Tu.1 ht with rfl | ht
     ·omega
     exact ⟨ht,pi t ht⟩
    own:=fun _ _ _ _ _ _=>rfl }
   refine ⟨_,_,h,hst,{
    inj:=fun i i' hi ew=>hS.inj i i' (by rw [<- em];exact hi) (by rw [<- em];exact ew)
    box:=fun i y hy=>?_
    low:=fun i hi=>hS.low i (by rw [<- em];exact hi)
    tkn:=fun t ht=>by
     rcases Tu.1 ht with rfl | ht
     ·exact Nat.lt_succ_self _
     exact Nat.lt_succ_of_lt (hS.tkn t ht)
    own:=fun t ht q hq=>by
     rcases Tu.1 ht with rfl | ht
     ·rw [jh] at hq;obtain ⟨g1,g2,g3,g4,g5⟩:=hS.hid _ _ (hH q hq);refine ⟨g1,fun i hi=>g3 i (by rw [<- em];exact hi),?_⟩;rcases hO with ⟨_,_,hp⟩ | ⟨sz,_,_,_,b',off,cap,cs,ty,fz,_,_,_,hh,_,_,hp⟩
      ·rw [hq] at hp;cases hp
      rw [hq] at hp;cases hp;exact ⟨cs,ty,fz,hh⟩
     rw [pi t ht] at hq;obtain ⟨g1,g2,g3⟩:=hS.own t ht q hq;exact ⟨g1,fun i hi=>g2 i (by rw [<- em];exact hi),g3⟩
    dis:=fun t t' ht ku ah q q' hq iq=>by
     rcases Tu.1 ht with rfl | ht <;> rcases Tu.1 ku with rfl | ku
     ·exact absurd rfl ah
     ·rw [jh] at hq;rw [pi t' ku] at iq;exact fun he=>(hS.hid _ _ (hH q hq)).2.2.2.1 t' ku q' iq he.symm
     ·rw [jh] at iq;rw [pi t ht] at hq;exact fun he=>(hS.hid _ _ (hH q' iq)).2.2.2.1 t ht q hq he
     rw [pi t ht] at hq;rw [pi t' ku] at iq;exact hS.dis t t' ht ku ah q q' hq iq
    xlt:=hS.xlt
    xown:=fun t ht q hq off ho=>by
     rcases Tu.1 ht with rfl | ht
     ·rw [jh] at hq;exact (hS.hid _ _ (hH q hq)).2.2.2.2 off ho
     rw [pi t ht] at hq;exact hS.xown t ht q hq off ho
    hid:=fun b' q hq=>by
     obtain ⟨g0,gn⟩:=Zu8 hq;obtain ⟨g1,g2,g3,g4,g5⟩:=hS.hid b' q g0;refine ⟨g1,g2,fun i hi=>g3 i (by rw [<- em];exact hi),fun t ht r hr=>?_,g5⟩;rcases Tu.1 ht with rfl | ht
     ·rw [jh] at hr;exact fun he=>gn r hr he.symm
     rw [pi t ht] at hr;exact g4 t ht r hr
    glob:=hS.glob
    big:=hS.big }⟩
   by_cases rj:i=b
   ·subst rj;have:y=.smap el m (some (k,.sl σ.nx el rows)):=by
     have hy:(σ.bx.set i (.smap el m (some (k,.sl σ.nx el rows))))[i]?=some y:=hy;rw [Sy cj] at hy;exact (Option.some.inj hy).symm
    subst this;refine ⟨es,⟨bn,ck,h1,h2,by rw [X4];rw [X4] at h3;exact h3,fun i' u hu=>?_⟩,fun i' u x hu hx ah=>?_,fun kv gc hl=>?_,h7⟩
    ·obtain ⟨g1,k',x,g2,g3,g4,g5⟩:=h4 i' u hu;have ew:i'<m.length:=by rw [<- tq];exact (Tp.1 hu).1
     have hm:=Ta ew;generalize m[i']=xx at hm;obtain ⟨q1,q2⟩:=X3 (fo:=none) hm;obtain ⟨r1,r2⟩:=X3 (fo:=some (k,PV.sl σ.nx el rows)) hm;rw [q1] at g2;cases g2;rw [q2] at g3;cases g3;refine ⟨g1,xx.1,_,r1,r2,g4,?_⟩
     by_cases ji:xx.1=k
     ·have:i'=j:=ZoL h7 hm hj ji;subst this;rw [hj] at hm
      cases hm
      have l8:es[i']=u:=by rw [Tz mi] at hu;exact Option.some.inj hu
      simp only [Zhz,decide_true]
      cases g5 with
      | d _ _ hd=>exact .sl _ _ _ _ (Nat.lt_succ_self _) (hd.later hst.toLater) fun _=>by show OwnedAt G w el rows u.val ((e.foc σ.nx p).M σ.nx);rw [jh,<- l8];exact hO
     simp only [Zhz,decide_eq_false ji];exact VRel.step g5 hst
    ·have ji:x.1≠k:=ah _ rfl;obtain ⟨p',k1,k2⟩:=h5 i' u x hu hx fun kv gc=>by cases gc
     refine ⟨p',k1,fun q hq=>Zk8 (k2 q hq) fun r hr he=>?_⟩;have:=k2 q hq;rw [he,hH r hr] at this;simp at this;exact ji this.1.symm
    cases gc
    rw [ph] at hl;cases hl
   have hy:σ.bx[i]?=some y:=by
    have hy:(σ.bx.set b (.smap el m (some (k,.sl σ.nx el rows))))[i]?=some y:=hy
    rwa [SI (fun h=>rj h.symm)] at hy
   have lu:=(Ti.1 hy).1;refine (hS.box i y hy).step hst rfl fun b' q hq zk=>⟨Zk8 hq fun r hr he=>?_,rfl⟩
   rw [he,hH r hr] at hq
   cases hq
   exact rj (hS.inj b i cj lu zk).symm
  have hk:k∉m.map (·.1):=fun hm=>by
   obtain ⟨x,hx,rfl⟩:=Sw.1 hm;obtain ⟨i,hi,rfl⟩:=Sd hx;exact Zgo ph i _ (Ta hi) rfl
  obtain ⟨g1,g2⟩:=Ud hS dv (x':=.smap el m (some (k,.nils el))) (w1:=w) rfl rfl rfl rfl (fun _ _=>rfl) fun hst=>by
   refine ⟨es,⟨bn,ck,h1,h2,by rw [X4];rw [X4] at h3;exact h3,fun i' u hu=>?_⟩,fun i' u x hu hx ah=>?_,fun kv gc hl=>?_,h7⟩
   ·obtain ⟨g1,k',x,g2,g3,g4,g5⟩:=h4 i' u hu;have ew:i'<m.length:=by rw [<- tq];exact (Tp.1 hu).1
    have hm:=Ta ew;generalize m[i']=xx at hm;obtain ⟨q1,q2⟩:=X3 (fo:=none) hm;obtain ⟨r1,r2⟩:=X3 (fo:=some (k,PV.nils el)) hm;rw [q1] at g2;cases g2;rw [q2] at g3;cases g3;refine ⟨g1,xx.1,_,r1,r2,g4,?_⟩;have ji:¬xx.1=k:=Zgo ph i' xx hm;simp only [Zhz,decide_eq_false ji];exact VRel.step g5 hst
   ·exact (h5 i' u x hu hx fun kv gc=>by cases gc)
   cases gc;rfl
  exact ⟨e,_,h,g1,g2⟩
 exact h.elim
def Env.unf (e:Env) (bb:Nat) (k:List UInt8) (p:Option (Nat×Nat)):Env:={ e with H:=fun b=>match p with | none=>e.H b | some q=>if b=q.1 then some ((bb,k),q.2) else e.H b }
def Zu9 {bb:Nat} {k:List UInt8} {p:Option (Nat×Nat)} {b:Nat} {q:(Nat×List UInt8)×Nat} (h:(e.unf bb k p).H b=some q):e.H b=some q\/∃r,p=some r/\b=r.1/\q=((bb,k),r.2):=by
 simp only [Env.unf] at h
 cases p with
 | none=>exact .inl h
 | some r =>
 simp only at h;split at h
 ·rename_i he;cases h;exact .inr ⟨r,rfl,he,rfl⟩
 exact .inl h
def Zk9 {bb:Nat} {k:List UInt8} {p:Option (Nat×Nat)} {b:Nat} {q:(Nat×List UInt8)×Nat} (h:e.H b=some q) (hn:∀r,p=some r->b≠r.1):(e.unf bb k p).H b=some q:=by
 simp only [Env.unf]
 cases p with
 | none=>exact h
 | some r=>simp only;rw [Tf (hn r rfl)];exact h
def ZoM {bb:Nat} {k:List UInt8} {p:Option (Nat×Nat)} {r:Nat×Nat} (h:p=some r):(e.unf bb k p).H r.1=some ((bb,k),r.2):=by
 subst h;simp [Env.unf]
def Zgp (hS:SRel G e σ w) {b:Nat} {K:St->Prop} (h:UC b σ K):∃e1 σ1,K σ1/\Stepped e σ w e1 σ1 w/\SRel G e1 σ1 w:=by
 unfold UC at h
 split at h
 ·rename_i el m k t e2' rows dv
  split at h
  ·rename_i wg vn
   cases Tl vn
   have ht:=(Yq _ _).1 wg;have cj:b<σ.bx.length:=(Ti.1 dv).1;obtain ⟨es,⟨bn,ck,h1,h2,h3,h4⟩,h5,h6,h7⟩:=hS.box b _ dv;have tq:es.size=m.length:=by rw [X4] at h3;omega
   obtain ⟨r0,ph⟩:∃r0,lkM k m=some r0:=by
    cases ph:lkM k m with
    | none=>have:=h6 _ rfl ph;cases this
    | some r0=>exact ⟨r0,rfl⟩
   obtain ⟨j,hj⟩:=Zgn ph;have mi:j<es.size:=by rw [tq];exact (Ti.1 hj).1
   obtain ⟨hD,hO⟩:DRel (okc e σ) w (.sl rows) es[j].val/\OwnedAt G w el rows es[j].val (e.M t):=by
    obtain ⟨g1,k',x,g2,g3,g4,g5⟩:=h4 j es[j] (Tz mi);rw [(X3 hj).2] at g3;simp only [Zhz,decide_true] at g3
    cases g3
    cases g5 with
    | sl _ _ _ _ hn hd vo=>exact ⟨hd,vo ht⟩
   have ax:∀x,x∈UB t σ.tk->x∈σ.tk/\x≠t:=fun x hx=>(X2 t x σ.tk).1 hx
   have em:(σ.set b (.smap el (Yo k rows m) none)).bx.length=σ.bx.length:=by simp [St.set]
   have hst:Stepped e σ w (e.unf (e.β b) k (e.M t)) { σ.set b (.smap el (Yo k rows m) none) with tk:=UB t σ.tk } w:={
    len:=by show σ.bx.length<=(σ.set b _).bx.length;rw [em];exact Tt _
    beta:=fun _ _=>rfl
    X:=fun _ _ h=>h
    pres:=fun b' off u hu ho=>⟨⟨ho.1,fun i hi=>ho.2.1 i (by rw [<- em];exact hi),fun x hx q hq nj=>ho.2.2.1 x (ax x hx).1 q hq nj,fun q hq=>by
     rcases Zu9 hq with hq | ⟨r,hr,rfl,rfl⟩
     ·exact ho.2.2.2 q hq
     exact ho.2.2.1 t ht r hr rfl⟩,hu⟩
    blocks:=fun _ _ _ _ _=>rfl
    size:=Tt _
    os:=rfl
    tape:=rfl
    output:=rfl
    fresh:=fun i g1 g2=>by have g2:i<(σ.set b (.smap el (Yo k rows m) none)).bx.length:=g2;rw [em] at g2;omega
    ftok:=fun x hx q hq=>.inr (.inl ⟨x,(ax x hx).1,q,hq,rfl⟩)
    fhid:=fun b' fm=>by
     cases hq:(e.unf (e.β b) k (e.M t)).H b' with
     | none=>exact absurd hq fm
     | some q =>
     rcases Zu9 hq with hq | ⟨r,hr,rfl,rfl⟩
     ·exact .inr (.inr (by rw [hq];simp))
     exact .inr (.inl ⟨t,ht,r,hr,rfl⟩)
    nx:=Tt _
    toks:=fun x aa hx=>⟨(ax x hx).1,rfl⟩
    own:=fun _ _ _ _ _ _=>rfl }
   have hnh:∀r,e.M t=some r->∀q,e.H r.1≠some q:=fun r hr q hq=>(hS.hid _ _ hq).2.2.2.1 t ht r hr rfl
   refine ⟨_,_,h,hst,{
    inj:=fun i i' hi ew=>hS.inj i i' (by rw [<- em];exact hi) (by rw [<- em];exact ew)
    box:=fun i y hy=>?_
    low:=fun i hi=>hS.low i (by rw [<- em];exact hi)
    tkn:=fun x hx=>hS.tkn x (ax x hx).1
    own:=fun x hx q hq=>by
     obtain ⟨g1,g2,g3⟩:=hS.own x (ax x hx).1 q hq;exact ⟨g1,fun i hi=>g2 i (by rw [<- em];exact hi),g3⟩
    dis:=fun x x' hx gd=>hS.dis x x' (ax x hx).1 (ax x' gd).1
    xlt:=hS.xlt
    xown:=fun x hx=>hS.xown x (ax x hx).1
    hid:=fun b' q hq=>by
     rcases Zu9 hq with hq | ⟨r,hr,rfl,rfl⟩
     ·obtain ⟨g1,g2,g3,g4,g5⟩:=hS.hid b' q hq;exact ⟨g1,g2,fun i hi=>g3 i (by rw [<- em];exact hi),fun x hx=>g4 x (ax x hx).1,g5⟩
     obtain ⟨g1,g2,cs,ty,fz,g3⟩:=hS.own t ht r hr;exact ⟨g1,(Tp.1 g3).1,fun i hi=>g2 i (by rw [<- em];exact hi),fun x hx q' iq=>hS.dis x t (ax x hx).1 ht (ax x hx).2 q' r iq hr,fun off ho=>hS.xown t ht r hr off ho⟩
    glob:=hS.glob
    big:=hS.big }⟩
   by_cases rj:i=b
   ·subst rj;have:y=.smap el (Yo k rows m) none:=by
     have hy:(σ.bx.set i (.smap el (Yo k rows m) none))[i]?=some y:=hy;rw [Sy cj] at hy;exact (Option.some.inj hy).symm
    subst this;refine ⟨es,⟨bn,ck,h1,h2,by rw [X4,putM_len ph];rw [X4] at h3;exact h3,fun i' u hu=>?_⟩,fun i' u x hu hx ah=>?_,fun kv gc hl=>(by cases gc),Zfd h7⟩
    ·obtain ⟨g1,k',x,g2,g3,g4,g5⟩:=h4 i' u hu;have ew:i'<m.length:=by rw [<- tq];exact (Tp.1 hu).1
     have hm:=Ta ew;generalize m[i']=xx at hm;obtain ⟨q1,q2⟩:=X3 (fo:=some (k,PV.sl t el rows)) hm;rw [q1] at g2;cases g2;rw [q2] at g3;cases g3;have hp:=ZjH (k:=k) (v:=rows) h7 hm;obtain ⟨r1,r2⟩:=X3 (fo:=none) hp;refine ⟨g1,xx.1,_,r1,r2,g4,?_⟩;simp only [Zhz] at g5 |-
     by_cases ji:xx.1=k
     ·simp only [Sa ji] at g5 |-
      cases g5 with
      | sl _ _ _ _ _ hd _=>exact .d _ _ (hd.later hst.toLater)
     simp only [decide_eq_false ji] at g5 |-;exact VRel.step g5 hst
    have ew:i'<m.length:=by rw [<- tq];exact (Tp.1 hu).1
    have hm:=Ta ew;generalize m[i']=xx at hm;have hp:=ZjH (k:=k) (v:=rows) h7 hm;rw [hp] at hx
    cases hx
    simp only
    by_cases ji:xx.1=k
    ·have:i'=j:=ZoL h7 hm hj ji;subst this;rw [hj] at hm;cases hm;have l8:es[i']=u:=by rw [Tz mi] at hu;exact Option.some.inj hu
     simp only [decide_true];exact ⟨e.M t,by rw [<- l8];exact hO,fun q hq=>ZoM hq⟩
    simp only [decide_eq_false ji];obtain ⟨p',k1,k2⟩:=h5 i' u xx hu hm fun kv gc=>by cases gc;exact ji
    exact ⟨p',k1,fun q hq=>Zk9 (k2 q hq) fun r hr he=>hnh r hr _ (he ▸ k2 q hq)⟩
   have hy:σ.bx[i]?=some y:=by
    have hy:(σ.bx.set b (.smap el (Yo k rows m) none))[i]?=some y:=hy
    rwa [SI (fun h=>rj h.symm)] at hy
   exact (hS.box i y hy).step hst rfl fun b' q hq zk=>⟨Zk9 hq fun r hr he=>hnh r hr _ (he ▸ hq),rfl⟩
  exact h.elim
 exact h.elim
end Go.PM
end

section
namespace Go.PM
def Flat.front {ok:Nat->Nat->Prop} {w:World} {r1 r2:List (List D)} {sz:Nat} {xs:List Value} (h:Flat ok w (r1++r2) sz xs):Flat ok w r1 sz (xs.take (r1.length * sz)):=by
 have hl:=h.len;rw [Tb,Sl] at hl;refine ⟨by rw [List.length_take];omega,fun r hr=>h.wid r (TM.2 (.inl hr)),fun a b y u hb hy hu=>?_⟩;have ha:a<r1.length:=by
  apply Classical.byContradiction
  intro hn
  rw [Sn oM] at hy;cases hy
 refine h.rel a b y u hb (by rw [TH ha];exact hy) ?_;rw [SO] at hu;split at hu
 ·exact hu
 cases hu
section
variable {G:GE} {T:Tab} {e:Env} {σ:St} {w:World}
def ZjJ (hT:TabOK T G.P) (hS:SRel G e σ w) {t tx el ty:Nat} (ma:(T.get t).kind=.slice el) (ct:(T.get el).kind≠.other) (ba:0<(T.get el).size)
  {rows:List (List D)} {z:List D} {v vx:Value} {px:PV} (hD:DRel (okc e σ) w (.sl rows) v) (tk0:List Nat) (ax:∀x,x∈tk0->x∈σ.tk)
  (hO:(v=.slice none 0 0/\rows=[])\/∃tok,tok∈σ.tk/\tok∉tk0/\Owned G e w tok el rows v)
  (hm:WD T tx el px=some [z]) (hx:VRel G e σ w px vx) (hw:z.length=(T.get el).size)
  (jn:(rows.length+1) * (T.get el).bytes<=2 ^ 47) (hlen:rows.length+1<=2 ^ 47) :
  ∃w1 b off cap e1,(Builtin.append_ #[t,tx] ty #[v,vx]).run G.P w=.ok (.slice (some ⟨b,off,none⟩) (rows.length+1) cap) w1/\rows.length+1<=cap /\
   Stepped e σ w e1 { σ with tk:=σ.nx::tk0,nx:=σ.nx+1 } w1/\SRel G e1 { σ with tk:=σ.nx::tk0,nx:=σ.nx+1 } w1 /\
   VRel G e1 { σ with tk:=σ.nx::tk0,nx:=σ.nx+1 } w1 (.sl σ.nx el rows) (.slice (some ⟨b,off,none⟩) rows.length cap):=by
 obtain ⟨news,ko,dq⟩:=Zuj hT hm hx (fun r hr=>by simp at hr;rw [hr];exact hw) ba rfl;obtain ⟨wt,ml,ff⟩:=Jo hT hS ct tk0 hO;obtain ⟨v',w1,af,qf,kq,jo,cm,bc,gf,jp⟩:=Ze9 (ty:=ty) (more:=[z]) hT hS ma ct ba hD ml wt ko dq jn hlen;rcases jp with ⟨_,h⟩ | ⟨b,off,cap,cs,tyb,fz,rfl,hb,hc,hh,dh,j6,iz,xs,za,hxc⟩
 ·simp at h
 obtain ⟨e1,h1,h2,h3⟩:=UH (more:=[]) (v':=.slice (some ⟨b,off,none⟩) rows.length cap) hT hS ct ba hD tk0 ax ml (fun r h=>by cases h) ff qf kq jo cm bc gf
  (.inr ⟨b,off,cap,cs,tyb,fz,sM,hb,by simp at hc |-;omega,hh,dh,j6,iz,xs.take (rows.length * (T.get el).size),by rw [T1];exact za.front,fun k u hk=>hxc k u (by
   rw [SO] at hk;split at hk
   ·exact hk
   cases hk)⟩)
 rw [T1] at h3;exact ⟨w1,b,off,cap,e1,by rw [af];simp,by simpa using hc,h1,h2,h3⟩
def ZoN (hT:TabOK T G.P) (hS:SRel G e σ w) {el tok b off cap:Nat} (ct:(T.get el).kind≠.other) (ba:0<(T.get el).size)
  {rows:List (List D)} {row:List D} {us:List Value} (hV:VRel G e σ w (.sl tok el rows) (.slice (some ⟨b,off,none⟩) rows.length cap)) (cn:tok∈σ.tk) (hcap:rows.length+1<=cap)
  (dq:Flat (okc e σ) w [row] (T.get el).size us) :
  (∀j,j<us.length->(w.cell? ⟨b,off+rows.length * (T.get el).size+j,none⟩).isSome=true)/\(∀j,j<us.length->w.frozen? ⟨b,off+rows.length * (T.get el).size+j,none⟩=false) /\
  (∀i,i<σ.bx.length->e.β i≠b) /\
  ∃e1,Stepped e σ w e1 { σ with tk:=σ.nx::UB tok σ.tk,nx:=σ.nx+1 } (w.setCells b (off+rows.length * (T.get el).size) us)/\SRel G e1 { σ with tk:=σ.nx::UB tok σ.tk,nx:=σ.nx+1 } (w.setCells b (off+rows.length * (T.get el).size) us) /\
   VRel G e1 { σ with tk:=σ.nx::UB tok σ.tk,nx:=σ.nx+1 } (w.setCells b (off+rows.length * (T.get el).size) us) (.sl σ.nx el (rows++[row])) (.slice (some ⟨b,off,none⟩) (rows.length+1) cap):=by
 cases hV with
 | sl _ _ _ _ hn hD jq =>
 have ax:∀x,x∈UB tok σ.tk->x∈σ.tk:=fun x hx=>((X2 _ _ _).1 hx).1
 have hnt:tok∉UB tok σ.tk:=fun h=>((X2 _ _ _).1 h).2 rfl
 obtain ⟨wt,ml,ff⟩:=Jo hT hS ct (UB tok σ.tk) (.inr ⟨tok,cn,hnt,jq cn⟩);rcases wt with ⟨h,_⟩ | ⟨b',off',cap',cs,tyb,fz,he,hb,hc,hh,dh,j6,qe⟩
 ·cases h
 cases he
 obtain ⟨olds,au,ai,bu,f9⟩:=ZFE ml ba hD;have zb:us.length=(T.get el).size:=by rw [dq.len];simp
 have w5:(rows.length+1) * (T.get el).size<=cap * (T.get el).size:=T2 _ hcap;rw [Sl] at w5;have bc:∀k,k<cs.size->(w.cell? ⟨b,k,none⟩).isSome=true:=fun k hk=>by simp [World.cell?,hh,hk]
 obtain ⟨r1,r2,r3,r4⟩:=YK b us (off+rows.length * (T.get el).size) w;obtain ⟨cs',q1,q2,q3⟩:=Y3 b us (off+rows.length * (T.get el).size) w cs tyb fz hh;refine ⟨fun j hj=>bc _ (by have:=dh.1;omega),fun j hj=>?_,qe,?_⟩
 ·simp only [World.frozen?,hh];have h1:=j6.2 (off+rows.length * (T.get el).size+j) oM
  by_cases h2:fz.1<=off+rows.length * (T.get el).size+j
  ·have:=h1 h2;simp;intro _;omega
  simp;omega
 refine UH (v:=.slice (some ⟨b,off,none⟩) rows.length cap) hT hS ct ba hD (UB tok σ.tk) ax ml (fun r h=>by simp at h;rw [h];exact dq.wid _ sM) ff r1 r2 r3 (by rw [Xz];exact Tt _)
  (fun b' o' u hu ho=>?_) (fun b' fm hn=>r4 b' (hn b off cap rfl)) (.inr ⟨b,off,cap,cs',tyb,fz,sM,hb,by simpa using hcap,q1,⟨by rw [q2];exact dh.1,dh.2.1,dh.2.2.1,dh.2.2.2⟩,j6,.inl ⟨cap,rfl⟩,olds++us,au.append dq,fun k u hk=>?_⟩)
 ·by_cases ka:b'=b
  ·subst ka
   by_cases hoo:off+rows.length * (T.get el).size<=o'
   ·exact .inr ⟨b',off,cap,rfl,rfl,hoo⟩
   left
   rw [World.cell?_setCells_out b' us _ w ⟨b',o',none⟩ (fun _ _=>.inl (by show o'<_;omega))];exact hu
  left;simpa [World.cell?,r4 b' ka] using hu
 by_cases ee:k<olds.length
 ·rw [TH ee] at hk;rw [World.cell?_setCells_out b us _ w ⟨b,off+k,none⟩ (fun _ _=>.inl (by show off+k<_;rw [<- au.len];omega))];exact ai k u hk
 rw [TT oM] at hk;have lv:=(Ti.1 hk).1;have:=World.cell?_setCells_in b us (off+rows.length * (T.get el).size) w (fun j hj=>bc _ (by have:=dh.1;omega)) (k - olds.length) lv;exact mq142
end
structure Hole4 (ops:Array Oper) (m:Nat) (I S F H:Oper):Prop where
 size:ops.size=m+5
 oI:ops[m+1]?=some I
 oS:ops[m+2]?=some S
 oF:ops[m+3]?=some F
 oH:ops[m+4]?=some H
 gI:I.guard=none
 gS:S.guard=none
 gF:F.guard=none
 gH:H.guard=none
 nI:∀c,I.op≠.defer c
 nS:∀c,S.op≠.defer c
 nF:∀c,F.op≠.defer c
 nH:∀c,H.op≠.defer c
 eI:∀ed∈I.after,Region.binds .any ed=true->ed.on<=m
 eF:∀ed∈F.after,Region.binds .any ed=true->ed.on<=m
 eS:∀ed∈S.after,Region.binds .any ed=true->ed.on<=m+1
 eH:∀ed∈H.after,Region.binds .any ed=true->ed.on<=m\/ed.on=m+3
 eSI:∃ed∈S.after,Region.binds .any ed=true/\ed.on=m+1
 eHF:∃ed∈H.after,Region.binds .any ed=true/\ed.on=m+3
def cnt (i s f h:Bool):Nat:=(!i).toNat+(!s).toNat+(!f).toNat+(!h).toNat
def Zc1 {P:Program} {ro:Option Nat} {n:Nat} {ops:Array Oper} {Q:Exit->Act->World->Prop} {i:Nat} {o:Oper} {K:Act->World->Prop} {a:Act} {w w':World} {v:Value} (ho:ops[i]?=some o) (hg:o.guard=none) (i5:∀c,o.op≠.defer c)
  (af:(execOp a.eval o).run P w=.ok (.value v) w'\/((execOp a.eval o).run P w=.ok .skip w'/\v=Go.undef)) (hk:K (a.put o.dst v) w'):wpOpIn (fw ro) n P ops Q i K a w:=by
 unfold wpOpIn
 rw [ho];dsimp only;have hw:Region.wanted o (yielded ops a.tmps)=true:=by simp [Region.wanted,hg]
 rw [Tk hw];refine ⟨fun _ _=>trivial,?_⟩;rw [show (fw ro).round=ro from rfl,Oper.semAt_eq _ _ _ i5];rcases af with hr | ⟨hr,rfl⟩
 ·rw [hr];exact hk
 rw [hr];exact hk
def ZCy {P:Program} {ro:Option Nat} {n:Nat} {ops:Array Oper} {m:Nat} {I S F H:Oper} (h4:Hole4 ops m I S F H) {Q:Exit->Act->World->Prop} {A:Bool->Bool->Act} {W:Bool->Bool->World} {vI vF:Value}
  (rI:∀f h,(h=true->f=true)->(execOp (A false f).eval I).run P (W false h)=.ok (.value vI) (W false h)) (pI:∀f,(A false f).put I.dst vI=A true f)
  (rF:∀i s,(s=true->i=true)->(execOp (A i false).eval F).run P (W s false)=.ok (.value vF) (W s false)) (pF:∀i,(A i false).put F.dst vF=A i true)
  (rS:∀f h,(h=true->f=true)->(execOp (A true f).eval S).run P (W false h)=.ok .skip (W true h)) (pS:∀f,(A true f).put S.dst Go.undef=A true f)
  (rH:∀i s,(s=true->i=true)->(execOp (A i true).eval H).run P (W s false)=.ok .skip (W s true)) (pH:∀i,(A i true).put H.dst Go.undef=A i true)
  (hQ:Q .normal (A true true) (W true true)) :
  ∀(k:Nat) (i s f h:Bool),cnt i s f h=k->(s=true->i=true)->(h=true->f=true)->∀(listed:Array Bool),listed.size=ops.size ->
   (∀j,j<ops.size->(listed.getD j false=true↔(j=m+1->i=true)/\(j=m+2->s=true)/\(j=m+3->f=true)/\(j=m+4->h=true))) ->
   wpAnyIn (fw ro) n P .any ops Q k listed (A i f) (W s h):=by
 intro k
 induction k with
 | zero =>
  intro i s f h hc vp vq listed hsz cq
  obtain ⟨rfl,rfl,rfl,rfl⟩:i=true/\s=true/\f=true/\h=true:=by
   revert hc;cases i <;> cases s <;> cases f <;> cases h <;> simp [cnt]
  refine ⟨?_,hQ⟩;rw [List.eq_nil_iff_forall_not_mem];intro j hj
  obtain ⟨h1,o,ho,_⟩:=mem_ready.1 hj;have aa:=(Tp.1 ho).1;have:=(cq j aa).2 ⟨fun _=>rfl,fun _=>rfl,fun _=>rfl,fun _=>rfl⟩;have fg:j<listed.size:=by rw [hsz];exact aa
  simp [Array.getD,fg] at this h1;rw [this] at h1;cases h1
 | succ k ih =>
 intro i s f h hc vp vq listed hsz cq
 have kb:∀i b,i<ops.size->listed.getD i b=listed.getD i false:=fun i b hi=>by
  exact mq90
 have aax:=h4.size;have qk:∀(j:Nat) (i' s' f' h':Bool),j<ops.size->(∀q,q<ops.size->((q=m+1->i'=true)/\(q=m+2->s'=true)/\(q=m+3->f'=true)/\(q=m+4->h'=true)↔q=j\/((q=m+1->i=true)/\(q=m+2->s=true)/\(q=m+3->f=true)/\(q=m+4->h=true)))) ->
   ∀q,q<ops.size->((listed.setIfInBounds j true).getD q false=true↔(q=m+1->i'=true)/\(q=m+2->s'=true)/\(q=m+3->f'=true)/\(q=m+4->h'=true)):=fun j i' s' f' h' hj hh q hq=>by
  rw [hh q hq]
  by_cases hqj:q=j
  ·subst hqj;have fg:q<listed.size:=by rw [hsz];exact hq
   simp [Array.getD,fg]
  have:(listed.setIfInBounds j true).getD q false=listed.getD q false:=getD_set_ne false (Ne.symm hqj);rw [this,cq q hq]
  constructor
  ·exact fun h=>.inr h
  rintro (h | h)
  ·exact absurd h hqj
  exact h
 refine ⟨fun hr=>?_,fun j hj=>?_⟩
 ·exfalso;have rdy:∀j o,ops[j]?=some o->listed.getD j false=false->(∀ed∈o.after,Region.binds .any ed=true->listed.getD ed.on false=true)->False:=fun j o ho hl he=>by
   have:j∈Region.ready .any ops listed:=mem_ready.2 ⟨by rw [kb _ _ (Tp.1 ho).1];exact hl,o,ho,he⟩;rw [hr] at this;cases this
  have fls:∀j,j<ops.size->¬((j=m+1->i=true)/\(j=m+2->s=true)/\(j=m+3->f=true)/\(j=m+4->h=true))->listed.getD j false=false:=fun j hj hn=>by
   cases hv:listed.getD j false with
   | false=>rfl
   | true=>exact absurd ((cq j hj).1 hv) hn
  cases i with
  | false=>exact rdy (m+1) I h4.oI (fls _ oM (fun hh=>by have:=hh.1 rfl;cases this)) fun ed he hb=>(cq _ (by have:=h4.eI ed he hb;omega)).2 (by have:=h4.eI ed he hb;exact ⟨oM,oM,oM,oM⟩)
  | true =>
  cases s with
  | false=>exact rdy (m+2) S h4.oS (fls _ oM (fun hh=>by have:=hh.2.1 rfl;cases this)) fun ed he hb=>(cq _ (by have:=h4.eS ed he hb;omega)).2 (by have:=h4.eS ed he hb;exact ⟨fun _=>rfl,oM,oM,oM⟩)
  | true =>
  cases f with
  | false=>exact rdy (m+3) F h4.oF (fls _ oM (fun hh=>by have:=hh.2.2.1 rfl;cases this)) fun ed he hb=>(cq _ (by have:=h4.eF ed he hb;omega)).2 (by have:=h4.eF ed he hb;exact ⟨fun _=>rfl,fun _=>rfl,oM,oM⟩)
  | true =>
  cases h with
  | false=>exact rdy (m+4) H h4.oH (fls _ oM (fun hh=>by have:=hh.2.2.2 rfl;cases this)) fun ed he hb=>(cq _ (by have:=h4.eH ed he hb;omega)).2 (by have:=h4.eH ed he hb;exact ⟨fun _=>rfl,fun _=>rfl,fun _=>rfl,oM⟩)
  | true=>simp [cnt] at hc
 obtain ⟨h1,o,ho,ca⟩:=mem_ready.1 hj;have aa:=(Tp.1 ho).1;rw [kb _ _ aa] at h1;have hn:¬((j=m+1->i=true)/\(j=m+2->s=true)/\(j=m+3->f=true)/\(j=m+4->h=true)):=fun hh=>by
  rw [(cq j aa).2 hh] at h1;cases h1
 have pa:(listed.setIfInBounds j true).size=ops.size:=by simpa using hsz
 by_cases j1:j=m+1
 ·subst j1;have hi:i=false:=by cases i with | false=>rfl | true=>exact absurd ⟨fun _=>rfl,oM,oM,oM⟩ hn
  subst hi;have hs:s=false:=by cases s with | false=>rfl | true=>cases vp rfl
  subst hs;rw [h4.oI] at ho;cases ho;refine Zc1 h4.oI h4.gI h4.nI (.inl (rI f h vq)) ?_;rw [pI];exact ih true false f h (by simp [cnt] at hc |-;omega) (fun h=>by cases h) vq _ pa (qk _ _ _ _ _ aa fun q hq=>by
   by_cases ii:q=m+1
   ·subst ii;simp
   simp [ii])
 by_cases j2:j=m+2
 ·subst j2;have hs:s=false:=by cases s with | false=>rfl | true=>exact absurd ⟨oM,fun _=>rfl,oM,oM⟩ hn
  subst hs;rw [h4.oS] at ho;cases ho;obtain ⟨ed,he,hb,ql⟩:=h4.eSI;have hi:i=true:=by
   have:=ca ed he hb;rw [ql] at this;exact ((cq _ oM).1 this).1 rfl
  subst hi;refine Zc1 h4.oS h4.gS h4.nS (.inr ⟨rS f h vq,rfl⟩) ?_;rw [pS];exact ih true true f h (by simp [cnt] at hc |-;omega) (fun _=>rfl) vq _ pa (qk _ _ _ _ _ aa fun q hq=>by
   by_cases ii:q=m+2
   ·subst ii;simp
   simp [ii])
 by_cases j3:j=m+3
 ·subst j3;have hf:f=false:=by cases f with | false=>rfl | true=>exact absurd ⟨oM,oM,fun _=>rfl,oM⟩ hn
  subst hf;have hh:h=false:=by cases h with | false=>rfl | true=>cases vq rfl
  subst hh;rw [h4.oF] at ho;cases ho;refine Zc1 h4.oF h4.gF h4.nF (.inl (rF i s vp)) ?_;rw [pF];exact ih i s true false (by simp [cnt] at hc |-;omega) vp (fun h=>by cases h) _ pa (qk _ _ _ _ _ aa fun q hq=>by
   by_cases ii:q=m+3
   ·subst ii;simp
   simp [ii])
 by_cases j4:j=m+4
 ·subst j4;have hh:h=false:=by cases h with | false=>rfl | true=>exact absurd ⟨oM,oM,oM,fun _=>rfl⟩ hn
  subst hh;rw [h4.oH] at ho;cases ho;obtain ⟨ed,he,hb,ql⟩:=h4.eHF;have hf:f=true:=by
   have:=ca ed he hb;rw [ql] at this;exact ((cq _ oM).1 this).2.2.1 rfl
  subst hf;refine Zc1 h4.oH h4.gH h4.nH (.inr ⟨rH i s vp,rfl⟩) ?_;rw [pH];exact ih i s true true (by simp [cnt] at hc |-;omega) vp (fun _=>rfl) _ pa (qk _ _ _ _ _ aa fun q hq=>by
   by_cases ii:q=m+4
   ·subst ii;simp
   simp [ii])
 exact absurd ⟨fun e=>absurd e j1,fun e=>absurd e j2,fun e=>absurd e j3,fun e=>absurd e j4⟩ hn
def ZFG {F:Fence} {n:Nat} {P:Program} {o:Oper} {a:Act} {w:World} {K:Act->World->Prop} {Q Q':Exit->Act->World->Prop} (hQ:∀x a w,x≠.normal->Q x a w->Q' x a w) (h:o.wpIn F n P a w K Q):o.wpIn F n P a w K Q':=by
 unfold Oper.wpIn at *
 refine ⟨h.1,?_⟩;have h:=h.2;generalize (o.semAt F.round a.eval).run P w=r at *
 cases r with
 | ok x w' =>
  cases x <;> simp only [Oper.uponIn] at h |- <;> first
   | exact h
   | exact h.elim
   | (refine ⟨h.1, h.2.mono fun en w'' he => ?_⟩
      cases en <;> simp only at he |- <;> first
       | exact he
       | exact hQ _ _ _ sM he
       | (obtain ⟨a0,w0,hq⟩:=he;exact ⟨a0,w0,hQ _ _ _ sM hq⟩))
 | halt hh w' =>
 cases hh <;> simp only [Oper.uponIn] at h |- <;> first
  | exact h.elim
  | exact hQ _ _ _ sM h
section
variable {G:GE} {C:Cx} {e0 e:Env} {σ0 σ:St} {w0 w:World} {a:Act} {f:Frame} {Q:PQ} {ro:Option Nat} {n:Nat} {ds:Nat×List Deferred×Bool} {N:Nat} {Z:Array Value->Prop}
def Zfi {m t:Nat} {QQ:Exit->Act->World->Prop} (hC:CxOK G C ro e0 σ0 w0) (hM:CxMono C) {ops:Array Oper} (hd:∀o,o∈ops->∀d,o.dst=some d->d<N/\∀t v,Z t->Z (t.setIfInBounds d v)) {ms:List Nat} (wz:∀i o,i<m->ops[i]?=some o->ms.getD i 0=U0 ms o.after.toList 0)
  (hm:ops.size=m+t) (fu:∀j o,m<=j->ops[j]?=some o->(∀p,p<m->∃ed∈o.after,Region.binds .any ed=true/\ed.on=p)\/(∃ed∈o.after,Region.binds .any ed=true/\m<=ed.on/\ed.on<ops.size))
  (w6:∀x a w,x≠.normal->ZL G e0 σ0 w0 ds N Z Q x a w->QQ x a w)
  (dz:∀(listed:Array Bool) a w,listed.size=ops.size->(∀k,k<ops.size->(listed.getD k false=true↔k<m))->ZL G e0 σ0 w0 ds N Z Q .normal a w->wpAnyIn (fw ro) n G.P .any ops QQ t listed a w) :
  ∀(k:Nat) (l:List (Nat×Oper)),l.length=k->(∀p∈l,p.1<m)->(∀p∈l,ops[p.1]?=some p.2)->l.Pairwise (ZrV ops.toList ms)->(∀p∈l,∀e∈p.2.after.toList,Region.binds .any e=true->e.on<m/\e.on≠p.1) ->
  ∀{listed:Array Bool},listed.size=ops.size->(∀k,k<ops.size->(listed.getD k false=true↔k<m/\∀p∈l,p.1≠k))->(∀j,j<m->(∀p∈l,p.1≠j)->∀p∈l,anc ms p.1 j=false) ->
  ∀{ctx:List Ld} {e:Env} {σ:St} {w:World} {a:Act} {f:Frame},SRel G e σ w->FRel G e σ w f a.tmps->Later e0 σ0 w0 e σ w->a.tmps.size=N->Marks ds e σ w a.defers->Z a.tmps->X1 C ops.toList ms Q l ctx f σ ->
  wpAnyIn (fw ro) n G.P .any ops QQ (k+t) listed a w
 | 0,l,hl,hlm,cf,hp,hed,listed,hsz,cq,hdown,ctx,e,σ,w,a,f,hS,hF,hL,hN,bf,hZ,h=>by
  have nz:l=[]:=List.length_eq_zero_iff.1 hl;subst nz;rw [T5];exact dz listed a w hsz (fun k hk=>by rw [cq k hk];simp) ⟨.normal,f,e,σ,h,rfl,hS,hF,hL,hN,bf,hZ⟩
 | k+1,l,hl,hlm,cf,hp,hed,listed,hsz,cq,hdown,ctx,e,σ,w,a,f,hS,hF,hL,hN,bf,hZ,h=>by
  have kb:∀i b,i<ops.size->listed.getD i b=listed.getD i false:=fun i b hi=>by
   exact mq90
  rw [show k+1+t=(k+t)+1 by omega];refine ⟨fun hr=>?_,fun i hi=>?_⟩
  ·cases l with
   | nil=>simp at hl
   | cons x l =>
   exfalso;have hx:=cf x sM;have aa:=(Tp.1 hx).1;have:x.1∈Region.ready .any ops listed:=by
    refine mem_ready.2 ⟨?_,x.2,hx,fun ed im hb=>?_⟩
    ·rw [kb _ _ aa]
     cases hv:listed.getD x.1 false with
     | false=>rfl
     | true=>exact absurd rfl (((cq x.1 aa).1 hv).2 x sM)
    have h1:=hed x sM ed (TJ.1 im) hb;refine (cq ed.on oM).2 ⟨h1.1,fun p jd=>?_⟩;exact mq133
   rw [hr] at this;cases this
  obtain ⟨h1,o,ho,ca⟩:=mem_ready.1 hi;have aa:=(Tp.1 ho).1;rw [kb _ _ aa] at h1;have him:i<m:=by
   apply Classical.byContradiction
   intro ec
   rcases fu i o oM ho with h2 | ⟨ed,he,hb,ec,aq⟩
   ·cases l with
    | nil=>simp at hl
    | cons x l =>
    obtain ⟨ed,he,hb,ql⟩:=h2 x.1 (hlm x sM);have h3:=ca ed he hb;rw [ql] at h3;exact ((cq x.1 (by have:=hlm x sM;omega)).1 h3).2 x sM rfl
   have:=((cq ed.on aq).1 (ca ed he hb)).1;omega
  have cx:∃p∈l,p.1=i:=by
   apply Classical.byContradiction
   intro jr
   have:=(cq i aa).2 ⟨him,fun p hp e=>jr ⟨p,hp,e⟩⟩;rw [h1] at this;cases this
  obtain ⟨p,ey,rfl⟩:=cx;have tg:p.2=o:=by have:=cf p ey;rw [ho] at this;exact (Option.some.inj this).symm
  obtain ⟨pre,post,rfl⟩:=List.append_of_mem ey;obtain ⟨i,o'⟩:=p;dsimp only at tg ho aa h1 hi;subst tg;have pg:=List.pairwise_append.1 hp;have fp:=(List.pairwise_cons.1 pg.2.1)
  have fq:∀x∈pre++(i,o')::post,anc ms x.1 i=false:=fun x hx=>by
   cases qj:anc ms x.1 i with
   | false=>rfl
   | true =>
   exfalso;unfold anc at qj
   rw [wz i o' him ho] at qj;rcases W7 qj with h2 | ⟨ed,im,hb,h2⟩
   ·simp at h2
   have tj:=ca ed (TJ.2 im) hb;have ah:=((cq ed.on (by have:=(hed _ ey ed im hb).1;omega)).1 tj).2;rcases h2 with h2 | h2
   ·exact ah x hx h2.symm
   rw [hdown ed.on (hed _ ey ed im hb).1 ah x hx] at h2;cases h2
  have io:=ZjG hM pre (fun x hx=>by
   have hA:=pg.2.2 x hx (i,o') sM;have ly:=fq x (by simp [hx]);rcases hA.2.2 with h2 | h2
   ·rw [ly] at h2;cases h2
   exact ⟨h2.1,h2.2,ly⟩) ctx f σ h
  have bj:=Vx (ro:=ro) (n:=n) hC hS hF hL hN bf hZ (ops:=ops) (hd o' (Sb ho)) io;have tn:∀x∈pre++post,x.1≠i:=fun x hx=>by
   exact mq163
  have ax:∀x,x∈pre++post->x∈pre++(i,o')::post:=fun x hx=>by
   rcases TM.1 hx with hx | hx <;> simp [hx]
  have next:∀a' w',KRel G e0 σ0 w0 ds N Z (fun f' σ'=>∃c,X1 C ops.toList ms Q (pre++post) c f' σ') a' w'->wpAnyIn (fw ro) n G.P .any ops QQ (k+t) (listed.setIfInBounds i true) a' w':=fun a' w' ⟨f',e',σ',⟨c,ee⟩,h2,h3,h4,h5,h6,h7⟩=>by
   refine Zfi hC hM hd wz hm fu w6 dz k (pre++post) (by simp at hl |-;omega) (fun x hx=>hlm x (ax x hx)) (fun x hx=>cf x (ax x hx)) (List.pairwise_append.2 ⟨pg.1,fp.2,fun x hx y hy=>pg.2.2 x hx y (Tx _ hy)⟩)
    (fun x hx=>hed x (ax x hx)) (by simpa using hsz) (fun k hk=>?_) (fun j w7 hj x hx=>?_) h2 h3 h4 h5 h6 h7 ee
   ·by_cases og:k=i
    ·subst og;have fg:k<listed.size:=by rw [hsz];exact aa
     have:(listed.setIfInBounds k true).getD k false=true:=by simp [Array.getD,fg]
     simp only [this,true_iff];exact ⟨him,tn⟩
    have:(listed.setIfInBounds i true).getD k false=listed.getD k false:=getD_set_ne false (Ne.symm og);rw [this,cq k hk]
    constructor
    ·exact fun hh=>⟨hh.1,fun x hx=>hh.2 x (ax x hx)⟩
    intro hh
    refine ⟨hh.1,fun x hx=>?_⟩;rcases TM.1 hx with hx | hx
    ·exact hh.2 x (by simp [hx])
    rcases Tu.1 hx with rfl | hx
    ·exact fun e=>og e.symm
    exact hh.2 x (by simp [hx])
   by_cases zj:j=i
   ·subst zj;exact fq x (ax x hx)
   refine hdown j w7 (fun y hy=>?_) x (ax x hx);exact mq127
  have hK:∀a' w',KRel G e0 σ0 w0 ds N Z (fun f' σ'=>match YV o'.op with | true=>Zoc ms i σ.bx σ'.bx ctx (X1 C ops.toList ms Q (pre++post) ctx f' σ') | false=>X1 C ops.toList ms Q (pre++post) (VZ C.T o' i f ctx) f' σ') a' w' ->
    KRel G e0 σ0 w0 ds N Z (fun f' σ'=>∃c,X1 C ops.toList ms Q (pre++post) c f' σ') a' w':=fun a' w' ⟨f',e',σ',hk,am⟩=>by
   refine ⟨f',e',σ',?_,am⟩
   cases hE:YV o'.op with
   | true=>rw [hE] at hk;exact ⟨_,(chkL_iff.1 hk).2⟩
   | false=>rw [hE] at hk;exact ⟨_,hk⟩
  unfold wpOpIn
  rw [ho];dsimp only;split at bj
  ·rename_i hw
   rw [Tk hw];exact ZFG w6 (Oper.wpIn_mono (fun a w h=>next a w (hK a w h)) bj)
  rename_i hw
  rw [Tf hw];exact ⟨fun _ _=>trivial,next _ _ (hK _ _ bj)⟩
end
def Js (o:Oper):Bool:=match o.guard with | none=>true | _=>false
def Zc2 (x:Operand) (ds:List Nat):Bool:=match x with | .tmp t=>!(ZeB t ds) | _=>true
def ZmM (x:Operand) (d:Nat):Bool:=match x with | .tmp t=>Nat.beq t d | _=>false
def Uf (m:Nat) (l:List Edge):Bool:=l.all fun ed=>!(Region.binds .any ed) || Nat.ble ed.on m
def Jt (m:Nat) (l:List Edge):Bool:=l.any fun ed=>Region.binds .any ed && Nat.beq ed.on m
def Zla:Nat->List Edge->Bool
 | 0,_=>true
 | n+1,l=>Jt n l && Zla n l
structure HoleD where
 s:Operand
 z:Operand
 t:Nat
 tx:Nat
 ti:Nat
 ix:Operand
 ts:Nat
 x:Operand
 sf:Nat
 xf:Operand
 kf:Nat
 th:Nat
 da:Nat
 di:Nat
 df:Nat
def ZmN (h:Hole):Option HoleD:=match h.A.op,h.I.op,h.S.op,h.F.op,h.H.op with
 | .call { callee:=.builtin .append,args,argTypes },.indexAddr ti xi ix,.store ts xs x,.fieldAddr sf xf kf,.store th xh yh=>match argTypes.toList,args.toList,h.A.dst,h.I.dst,h.F.dst,h.S.dst,h.H.dst with
  | [t,tx],[s,z],some da,some di,some df,none,none =>
   match ZmM xi da && Nat.beq ti t && ZmM xs di && ZmM xh df && ZmM yh da && Zc2 ix [da,di,df] && Zc2 x [da,di,df] && Zc2 xf [da,di,df] && !(Nat.beq da di) && !(Nat.beq da df) && !(Nat.beq di df) with
   | true=>some ⟨s,z,t,tx,ti,ix,ts,x,sf,xf,kf,th,da,di,df⟩
   | false=>none
  | _,_,_,_,_,_,_=>none
 | _,_,_,_,_=>none
def ZoO (ops:List Oper) (h:Hole):Bool :=
 let m:=h.pre.length
 let ms:=Wg ops []
 let cs:=VV m (ZF 0 h.pre)
 (match ZmN h with | some _=>true | none=>false) && Js h.A && Js h.I && Js h.S && Js h.F && Js h.H &&
 Uf m h.I.after.toList && Uf m h.F.after.toList && Uf (m+1) h.S.after.toList && (h.H.after.toList.all fun ed=>!(Region.binds .any ed) || (Nat.ble ed.on m || Nat.beq ed.on (m+3))) &&
 Jt (m+1) h.S.after.toList && Jt (m+3) h.H.after.toList && Jt m h.I.after.toList && Jt m h.F.after.toList && Zla m h.A.after.toList && (match m with | 0=>true | k+1=>Uf k h.A.after.toList) && Nat.ble 1 m &&
 Nat.beq cs.length m && ZhO ops ms m cs && ZhP cs m && ZaQ ms cs
def ZjK {ops:Array Oper} {h:Hole} (hh:ZcL ops.toList=some h):ops.toList=h.pre++[h.A,h.I,h.S,h.F,h.H]:=by
 unfold ZcL at hh
 split at hh
 ·rename_i H F S I A pre hr
  split at hh
  ·cases hh
   have:ops.toList=(H::F::S::I::A::pre).reverse:=by rw [<- hr,List.reverse_reverse]
   rw [this];simp
  cases hh
 cases hh
def ZaR {h:Hole} {d:HoleD} (hd:ZmN h=some d):∃(args:Array Operand) (at':Array Nat),args.toList=[d.s,d.z]/\at'.toList=[d.t,d.tx]/\h.A.op=.call { callee:=.builtin .append,args:=args,argTypes:=at' } /\
  h.I.op=.indexAddr d.t (.tmp d.da) d.ix/\h.S.op=.store d.ts (.tmp d.di) d.x/\h.F.op=.fieldAddr d.sf d.xf d.kf/\h.H.op=.store d.th (.tmp d.df) (.tmp d.da) /\
  h.A.dst=some d.da/\h.I.dst=some d.di/\h.F.dst=some d.df/\h.S.dst=none/\h.H.dst=none/\Zc2 d.ix [d.da,d.di,d.df]=true/\Zc2 d.x [d.da,d.di,d.df]=true/\Zc2 d.xf [d.da,d.di,d.df]=true/\d.da≠d.di/\d.da≠d.df/\d.di≠d.df:=by
 have tmp:∀{x:Operand} {d:Nat},ZmM x d=true->x=.tmp d:=fun {x d} h=>by
  unfold ZmM at h
  split at h
  ·rw [Tl h]
  cases h
 have ne:∀{a b:Nat},(!(Nat.beq a b))=true->a≠b:=fun {a b} h e=>by subst e;simp at h
 unfold ZmN at hd
 split at hd
 ·rename_i args at' ti xi ix ts xs x sf xf kf th xh yh h1 h2 h3 h4 h5
  split at hd
  ·rename_i t tx s z da di df g1 g2 g3 g4 g5 g6 g7
   split at hd
   ·rename_i hb
    cases hd
    simp only [Tn] at hb;obtain ⟨⟨⟨⟨⟨⟨⟨⟨⟨⟨b1,b2⟩,b3⟩,b4⟩,b5⟩,b6⟩,b7⟩,b8⟩,b9⟩,b10⟩,b11⟩:=hb;have:=tmp b1;subst this;have:=Tl b2;subst this;have:=tmp b3;subst this;have:=tmp b4;subst this;have:=tmp b5;subst this;exact ⟨args,at',g2,g1,h1,h2,h3,h4,h5,g3,g4,g5,g6,g7,b6,b7,b8,ne b9,ne b10,ne b11⟩
   cases hd
  cases hd
 cases hd
def ZhS (w:World) {b1 b2:Nat} (h:b1≠b2) (o1 o2:Nat) (v1 v2:Value):(w.setCell ⟨b1,o1,none⟩ v1).setCell ⟨b2,o2,none⟩ v2=(w.setCell ⟨b2,o2,none⟩ v2).setCell ⟨b1,o1,none⟩ v1:=by
 unfold World.setCell
 simp only [World.mk.injEq,and_self,and_true,true_and]
 apply Array.ext_getElem?
 intro i
 simp only [SC]
 by_cases h1:b1=i
 ·subst h1;simp [Ne.symm h]
 by_cases h2:b2=i
 ·subst h2;simp [h]
 simp [h1,h2]
def XH {b1 b2:Nat} (h:b1≠b2) (o1:Nat) (v1:Value):∀(l:List Value) (o2:Nat) (w:World),(w.setCell ⟨b1,o1,none⟩ v1).setCells b2 o2 l=(w.setCells b2 o2 l).setCell ⟨b1,o1,none⟩ v1
 | [],_,_=>rfl
 | v::l,o2,w=>by
  rw [World.setCells,World.setCells,ZhS w h,XH h o1 v1 l]
def J2 {b1 b2:Nat} (h:b1≠b2):∀(l1:List Value) (o1:Nat) (l2:List Value) (o2:Nat) (w:World),(w.setCells b1 o1 l1).setCells b2 o2 l2=(w.setCells b2 o2 l2).setCells b1 o1 l1
 | [],_,_,_,_=>rfl
 | v::l1,o1,l2,o2,w=>by
  rw [World.setCells,World.setCells,J2 h l1,XH h]
section
variable {G:GE} {T:Tab} {e:Env} {σ:St} {w:World}
def Vz (hT:TabOK T G.P) {t:Nat} (hk:(T.get t).kind≠.other) {v:Value} {b off:Nat} (hlen:v.cells.size=(T.get t).size) (hc:∀j,j<v.cells.toList.length->(w.cell? ⟨b,off+j,none⟩).isSome=true)
  (hf:∀j,j<v.cells.toList.length->w.frozen? ⟨b,off+j,none⟩=false) (kj:∀u∈v.cells.toList,u.oneCell'=true) {ρ':Operand->Value} {o:Oper} {p x:Operand} (ho:o.op=.store t p x) (hp:ρ' p=.pointer (some ⟨b,off,none⟩)) (hx:ρ' x=v) :
  (execOp ρ' o).run G.P w=.ok .skip (w.setCells b off v.cells.toList):=by
 obtain ⟨i,d,z,hi,hd,hs,dm,aw,hz,ce,_⟩:=(hT.get hk).ex;have af:=run_storeCells_cells (P:=G.P) b off v.cells.toList 0 w (by simpa using hc) (by simpa using hf) kj;simp only [SL] at af;have:(Instr.storeAt t (.pointer (some ⟨b,off,none⟩)) v).run G.P w=.ok () (w.setCells b off v.cells.toList):=by
  have n8:v.cells.size=i.size:=by rw [hlen,hs]
  exact mq74
 unfold execOp
 simp only [ho,hp,hx,Sem.run_bind,this,Result.andThen,Sem.run_pure]
def ZjL (hT:TabOK T G.P) {s i off t:Nat} {fs:List (Nat×Nat)} (hk:(T.get s).kind=.struct fs) (sr:fs[i]?=some (off,t)) {ρ':Operand->Value} {o:Oper} {x:Operand} (ho:o.op=.fieldAddr s x i) {b oo:Nat} (hv:ρ' x=.pointer (some ⟨b,oo,none⟩)) (w:World) :
  (execOp ρ' o).run G.P w=.ok (.value (.pointer (some ⟨b,oo+off,none⟩))) w:=by
 obtain ⟨ti,d,z,hi,hd,hs,dm,aw,hz,ce,_⟩:=(hT.get (t:=s) (by rw [hk];simp)).ex;rw [hk] at aw;obtain ⟨gs,rfl,hf⟩:=aw;obtain ⟨f,j,hg,cp,ht,hj,sw⟩:=hf.get sr;have qb:gs[i]?=some f:=by simpa using hg
 have zg:(fieldPlace ⟨b,oo,none⟩ f).run G.P w=.ok ⟨b,oo+off,none⟩ w:=by
  exact mq143
 unfold execOp
 simp [ho,hv,Instr.fieldAt,Za hd,qb,Instr.sureAddr,zg]
def ZjM (hT:TabOK T G.P) {t el:Nat} (hk:(T.get t).kind=.slice el) (bl:(T.get el).kind≠.other) {ρ':Operand->Value} {o:Oper} {x i:Operand} (ho:o.op=.indexAddr t x i) {b off n cap:Nat} {k:IntKind} {m:Int} (hv:ρ' x=.slice (some ⟨b,off,none⟩) n cap)
  (hi:ρ' i=.int k m) (h0:0<=m) (hn:m<n) (w:World):(execOp ρ' o).run G.P w=.ok (.value (.pointer (some ⟨b,off+m.toNat * (T.get el).size,none⟩))) w:=by
 obtain ⟨ti,d,z,ni,hd,hs,dm,aw,hz,ce,_⟩:=(hT.get (t:=t) (by rw [hk];simp)).ex;rw [hk] at aw;cases aw;obtain ⟨i2,d2,z2,ab,cd,fj,_,bh,_,_,_⟩:=(hT.get bl).ex;unfold execOp
 simp [ho,hv,hi,Instr.indexAt,XD,Za hd,h0,hn,Zu ab,ZZ,fj]
def ZrY {x:PV} {v:Value} {row:List D} (hx:VRel G e σ w x v) (hr:Zjp x=some row):Flat (okc e σ) w [row] row.length v.cells.toList/\∀u∈v.cells.toList,u.oneCell'=true:=by
 unfold Zjp at hr
 split at hr
 ·rename_i l hl
  obtain ⟨cz,bm⟩:=W5 hx hl;obtain ⟨dx,cd⟩:=UI (ok:=okc e σ) hr;refine ⟨⟨by simp [cz,dx],fun r hr=>by simp at hr;rw [hr],fun a b y u hb hy hu=>?_⟩,fun u hu=>?_⟩
  ·cases a with
   | zero =>
    simp only [Sx,Option.bind_some] at hy;simp only [Nat.zero_mul,T5,Tw] at hu;have h1:b<l.length:=oM;exact Wi (cd b l[b] y (Ta h1) hy) (bm b l[b] u (Ta h1) hu).1
   | succ a=>simp at hy
  obtain ⟨j,hj,rfl⟩:=Sd hu;have h1:j<l.length:=by simp [cz] at hj;exact hj
  exact (bm j l[j] _ (Ta h1) (by rw [<- Tw,Ta hj])).2
 cases hr
end
def ZhT {t:Nat}:∀{l:List Nat},t∉l->UB t l=l
 | [],_=>rfl
 | x::l,h=>by
  have h1:x≠t:=fun e=>h (by simp [e])
  have h2:=ZhT (t:=t) (l:=l) (fun hm=>h (by simp [hm]));unfold UB
  split
  ·rename_i hb;exact absurd (Tl hb) h1
  rw [h2]
def ZmO {T:Tab} {h:Hole} {d:HoleD} {f:Frame} {σ:St} {K:Frame->St->Prop} (hd:ZmN h=some d) (hA:ZmA T h f σ K) :
  ∃el rows zr row k tk0,(T.get d.t).kind=.slice el/\(T.get el).kind≠.other/\1<=(T.get el).size/\d.ts=el/\WD T d.tx el (ev f d.z)=some [zr]/\Zjp (ev f d.x)=some row/\ev f d.ix=.d (.int k (rows.length:Nat)) /\
   zr.length=(T.get el).size/\row.length=(T.get el).size/\(rows.length+1) * (T.get el).bytes<=2 ^ 47/\rows.length+1<=2 ^ 47 /\
   ((∃e2,ev f d.s=.nils e2/\rows=[]/\tk0=σ.tk)\/∃tok,ev f d.s=.sl tok el rows/\tok∈σ.tk/\tk0=UB tok σ.tk) /\
   K (Yk (Yk f (some d.da) (.sl (σ.nx+1) el (rows++[row]))) (some d.di) .undef) ⟨σ.bx,(σ.nx+1)::tk0,σ.nx+2⟩:=by
 obtain ⟨args,at',a1,a2,a3,a4,a5,a6,a7,a8,a9,_⟩:=ZaR hd;unfold ZmA at hA
 simp only [a3,a4,a5,a1,a2,a8,a9,ZN,ZV] at hA;split at hA
 ·rename_i el hk
  split at hA
  ·exact hA.elim
  rename_i bl
  split at hA
  ·rename_i zr row k n h1 h2 h3 h4 h5
   split at hA
   ·rename_i h6 h7
    have e1:=Tc h1;have e2:=Tl h2;have e6:=Tl h6;have e7:=Tl h7;split at hA
    ·rename_i e0 hs
     obtain ⟨rfl,hb,hK⟩:=hA;exact ⟨el,[],zr,row,k,σ.tk,hk,fun h0=>bl h0,e1,e2,h3,h4,h5,e6,e7,hb,sM,.inl ⟨e0,hs,rfl,rfl⟩,hK⟩
    ·rename_i tok e0 rows hs
     split at hA
     ·rename_i g1 g2
      have:=Tl g2;subst this;obtain ⟨rfl,hb,ga,hK⟩:=hA;exact ⟨e0,rows,zr,row,k,UB tok σ.tk,hk,fun h0=>bl h0,e1,e2,h3,h4,h5,e6,e7,hb,ga,.inr ⟨tok,hs,(Yq _ _).1 g1,rfl⟩,hK⟩
     exact hA.elim
    exact hA.elim
   exact hA.elim
  exact hA.elim
 exact hA.elim
section
def W8 {x:Operand} {ds:List Nat} (h:Zc2 x ds=true) {a:Act} {d:Nat} (hd:d∈ds) (v:Value):(a.put (some d) v).eval x=a.eval x:=by
 cases x with
 | tmp t =>
  have:d≠t:=fun e=>by
   subst e;simp only [Zc2,T4] at h;rw [(Yq _ _).2 hd] at h;cases h
  simp [Act.put,Act.eval,Array.getD_eq_getD_getElem?,TX,this]
 | _=>rfl
def Zlb {x:Operand} {ds:List Nat} (h:Zc2 x ds=true) {f:Frame} {d:Nat} (hd:d∈ds) (v:PV):ev (Yk f (some d) v) x=ev f x:=by
 cases x with
 | tmp t =>
  have:d≠t:=fun e=>by
   subst e;simp only [Zc2,T4] at h;rw [(Yq _ _).2 hd] at h;cases h
  exact Xe f v this
 | _=>rfl
def ZbH {a:Act} {d:Nat} (h:d<a.tmps.size) (v:Value):(a.put (some d) v).eval (.tmp d)=v:=by
 simp [Act.put,Act.eval,TX,h]
def Zc3 {a:Act} {d k:Nat} (h:d≠k) (v:Value):(a.put (some d) v).eval (.tmp k)=a.eval (.tmp k):=by
 simp [Act.put,Act.eval,Array.getD_eq_getD_getElem?,TX,h]
def ZrZ {a:Act} {d k:Nat} (h:d≠k) (v u:Value):(a.put (some d) v).put (some k) u=(a.put (some k) u).put (some d) v:=by
 simp only [Act.put,Act.mk.injEq,and_true]
 apply Array.ext_getElem?
 intro i
 simp only [TX,Array.size_setIfInBounds]
 by_cases h1:d=i
 ·subst h1;simp [Ne.symm h]
 by_cases h2:k=i
 ·subst h2;simp [h]
 simp [h1,h2]
def ZCz (a:Act) (di df:Nat) (vI vF:Value) (i f:Bool):Act :=
 let b:=match i with | true=>a.put (some di) vI | false=>a
 match f with | true=>b.put (some df) vF | false=>b
variable {G:GE} {C:Cx} {e0:Env} {σ0:St} {w0:World} {Q:PQ} {ro:Option Nat} {n:Nat} {ds:Nat×List Deferred×Bool} {N:Nat} {Z:Array Value->Prop}
def Zr0 (hC:CxOK G C ro e0 σ0 w0) {ops:Array Oper} (hd:∀o,o∈ops->∀d,o.dst=some d->d<N/\∀t v,Z t->Z (t.setIfInBounds d v)) {h:Hole} {D:HoleD} (hD:ZmN h=some D) {m:Nat} (h4:Hole4 ops m h.I h.S h.F h.H) (oA:ops[m]?=some h.A) (gA:h.A.guard=none)
  (eA:∀ed∈h.A.after,Region.binds .any ed=true->ed.on<m) (eIA:∃ed∈h.I.after,Region.binds .any ed=true/\ed.on=m) (eFA:∃ed∈h.F.after,Region.binds .any ed=true/\ed.on=m)
  {listed:Array Bool} {a:Act} {w:World} (hsz:listed.size=ops.size) (cq:∀k,k<ops.size->(listed.getD k false=true↔k<m)) (hp:ZL G e0 σ0 w0 ds N Z (Zoh C ops.toList h Q) .normal a w) :
  wpAnyIn (fw ro) n G.P .any ops (ZL G e0 σ0 w0 ds N Z Q) 5 listed a w:=by
 have hT:=hC.tab;have aax:=h4.size;obtain ⟨pe,f,e,σ,hq,hx,hS,hF,hL,hN,bf,hZ⟩:=hp
 cases pe with
 | exit i=>cases hx
 | goto i=>cases hx
 | ret=>cases hx
 | panic p=>obtain ⟨_,hx,_⟩:=hx;cases hx
 | normal =>
 obtain ⟨args,at',a1,a2,a3,a4,a5,a6,a7,a8,a9,a10,a11,a12,b1,b2,b3,n1,n2,n3⟩:=ZaR hD;obtain ⟨el,rows,zr,row,kk,tk0,c1,c2,c3,c4,c5,c6,c7,c8,c9,c10,c11,c12,hK⟩:=ZmO hD hq;have jt:∀(j:Nat) (o:Oper) (d:Nat),ops[j]?=some o->o.dst=some d->d<N:=fun j o d ho oh=>(hd o (Sb ho) d oh).1
 have hdz:∀(j:Nat) (o:Oper) (d:Nat),ops[j]?=some o->o.dst=some d->∀t v,Z t->Z (t.setIfInBounds d v):=fun j o d ho oh=>(hd o (Sb ho) d oh).2
 have dA:=jt m _ _ oA a8;have dI:=jt _ _ _ h4.oI a9;have dF:=jt _ _ _ h4.oF a10;have hρ:∀x,VRel G e σ w (ev f x) (a.eval x):=fun x=>ZbC hF x
 obtain ⟨hDR,hO,ax,aes⟩:DRel (okc e σ) w (.sl rows) (a.eval D.s)/\((a.eval D.s=.slice none 0 0/\rows=[])\/∃tok,tok∈σ.tk/\tok∉tk0/\Owned G e w tok el rows (a.eval D.s))/\(∀x,x∈tk0->x∈σ.tk)/\True:=by
  have hs:=hρ D.s;rcases c12 with ⟨e2,h1,rfl,rfl⟩ | ⟨tok,h1,h2,rfl⟩
  ·rw [h1] at hs;generalize a.eval D.s=v at hs
   cases hs with
   | nils _=>exact ⟨.slnil,.inl ⟨rfl,rfl⟩,fun _ h=>h,trivial⟩
  rw [h1] at hs;generalize a.eval D.s=v at hs
  cases hs with
  | sl _ _ _ _ hn hd ht=>exact ⟨hd,.inr ⟨tok,h2,fun hm=>((X2 _ _ _).1 hm).2 rfl,ht h2⟩,fun x hx=>((X2 _ _ _).1 hx).1,trivial⟩
 obtain ⟨w1,bb,off,cap,e1,w8,hcap,st1,S1,V1⟩:=ZjJ (ty:=h.A.type) hT hS c1 c2 c3 hDR tk0 ax hO c5 (hρ D.z) c8 c10 c11;have aa1:VRel G e1 _ w1 (ev f D.x) (a.eval D.x):=(hρ D.x).step st1;obtain ⟨dy,kj⟩:=ZrY aa1 c6;rw [c9] at dy;obtain ⟨q1,q2,q3,e2,st2,S2,V2⟩:=ZoN hT S1 c2 c3 V1 sM hcap dy;have fh:=hK;rw [Y0] at fh;simp only [Xa,h4.gF] at fh;unfold XP at fh
 simp only [a6,YV,Zf9,Zjo,qop,ZV] at fh;rw [Zlb b3 sM,Zlb b3 sM] at fh;split at fh;rotate_left
 ·exact fh.elim
 rename_i fs dg
 split at fh;rotate_left
 ·exact fh.elim
 rename_i fo ft ra
 split at fh;rotate_left
 ·rename_i r oo bv
  rw [Y0] at fh;simp only [Xa,h4.gH] at fh;unfold XP at fh
  simp only [a7,YV,eop,a10] at fh;have:ev (Yk (Yk (Yk f (some D.da) (.sl (σ.nx+1) el (rows++[row]))) (some D.di) .undef) (some D.df) (.elem r (oo+fo))) (.tmp D.df)=.elem r (oo+fo):=Yx _ _ _;rw [this] at fh;exact fh.elim
 ·exact fh.elim
 rename_i b oo aa2
 rw [Y0] at fh;simp only [Xa,h4.gH] at fh;unfold XP at fh
 simp only [a7,YV,eop,a10,ZN,ZV] at fh;generalize hf4:Yk (Yk (Yk f (some D.da) (.sl (σ.nx+1) el (rows++[row]))) (some D.di) .undef) (some D.df) (.ptr b (oo+fo))=f4 at fh;have k1:ev f4 (.tmp D.df)=.ptr b (oo+fo):=by rw [<- hf4];exact Yx _ _ _
 have k2:ev f4 (.tmp D.da)=.sl (σ.nx+1) el (rows++[row]):=by
  rw [<- hf4];show W1 (W1 (W1 f D.da _) D.di _) D.df _ D.da=_;rw [Xe _ _ (Ne.symm n2),Xe _ _ (Ne.symm n1),Yx]
 rw [k1,k2] at fh;simp only [asT,PV.cells] at fh;split at fh;rotate_left
 ·exact fh.elim
 rename_i ty cs dv
 split at fh
 ·exact fh.elim
 rotate_left
 ·exact fh.elim
 rename_i l1 l2 l3
 rw [a12] at fh;have hth:(C.T.get D.th).size=1:=(Tl l1).symm;have n7:oo+fo+1<=cs.length:=Tc l2;have hxf:=hρ D.xf;rw [aa2] at hxf;generalize hvx:a.eval D.xf=vx at hxf
 cases hxf with
 | ptr _ _ cj =>
 have vr:e1.β b=e.β b:=st1.beta b cj;have ka:e.β b≠bb:=by rw [<- vr];exact q3 b cj
 obtain ⟨vs,mj,pt,_⟩:=S1.box b _ dv;rw [vr] at mj
 let v':Value:=.slice (some ⟨bb,off,none⟩) (rows.length+1) cap
 let oS:=off+rows.length * (C.T.get el).size
 let us:=(a.eval D.x).cells.toList
 let vI:Value:=.pointer (some ⟨bb,oS,none⟩)
 let vF:Value:=.pointer (some ⟨e.β b,oo+fo,none⟩)
 let WW:Bool->Bool->World:=fun s g =>
  let u:=match s with | true=>w1.setCells bb oS us | false=>w1
  match g with | true=>u.setCells (e.β b) (oo+fo) [v'] | false=>u
 have w9:D.da<a.tmps.size:=by rw [hN];exact dA
 have hNI:∀v:Value,D.di<(a.put (some D.da) v).tmps.size:=fun v=>by rw [Yr,hN];exact dI
 let A0:=a.put (some D.da) v'
 let AA:=ZCz A0 D.di D.df vI vF
 have evA:∀i g,(AA i g).eval (.tmp D.da)=v':=fun i g=>by
  cases i <;> cases g
  ·exact ZbH w9 v'
  ·exact (Zc3 (Ne.symm n2) vF).trans (ZbH w9 v')
  ·exact (Zc3 (Ne.symm n1) vI).trans (ZbH w9 v')
  exact (Zc3 (Ne.symm n2) vF).trans ((Zc3 (Ne.symm n1) vI).trans (ZbH w9 v'))
 have evX:∀x,Zc2 x [D.da,D.di,D.df]=true->∀i g,(AA i g).eval x=a.eval x:=fun x hx i g=>by
  have h1:=W8 hx (a:=a) (d:=D.da) sM v'
  cases i <;> cases g
  ·exact h1
  ·exact (W8 hx (d:=D.df) sM vF).trans h1
  ·exact (W8 hx (d:=D.di) sM vI).trans h1
  exact (W8 hx (d:=D.df) sM vF).trans ((W8 hx (d:=D.di) sM vI).trans h1)
 have evI:∀g,(AA true g).eval (.tmp D.di)=vI:=fun g=>by
  cases g
  ·exact ZbH (hNI v') vI
  exact (Zc3 (Ne.symm n3) vF).trans (ZbH (hNI v') vI)
 have evF:∀i,(AA i true).eval (.tmp D.df)=vF:=fun i=>by
  cases i
  ·exact ZbH (by rw [Yr,hN];exact dF) vF
  exact ZbH (by rw [Yr,Yr,hN];exact dF) vF
 have aa7:a.eval D.ix=.int kk (rows.length:Nat):=by
  have:=hρ D.ix;rw [c7] at this;exact this.dint
 have huw:∀(u:World),(∀k,k≠e.β b->u.heap[k]?=w1.heap[k]?)->(∀j,j<us.length->(u.cell? ⟨bb,oS+j,none⟩).isSome=true)/\(∀j,j<us.length->u.frozen? ⟨bb,oS+j,none⟩=false):=fun u hu=>by
  have h1:=hu bb (Ne.symm ka);exact ⟨fun j hj=>by have:=q1 j hj;simpa [World.cell?,h1] using this,fun j hj=>by have:=q2 j hj;simpa [World.frozen?,h1] using this⟩
 have hfw:∀(u:World),(∀k,k≠bb->u.heap[k]?=w1.heap[k]?)->(∀j,j<v'.cells.toList.length->(u.cell? ⟨e.β b,oo+fo+j,none⟩).isSome=true)/\(∀j,j<v'.cells.toList.length->u.frozen? ⟨e.β b,oo+fo+j,none⟩=false):=fun u hu=>by
  have h1:=(hu (e.β b) ka).trans mj;refine ⟨fun j hj=>?_,fun j hj=>by simp [World.frozen?,h1]⟩;have:j<1:=hj;have:oo+fo+j<vs.size:=oM;simp [World.cell?,h1,this]
 have bi:=(YK bb us oS w1).2.2.2;have dc:=(YK (e.β b) [v'] (oo+fo) w1).2.2.2;have rS:∀f' h',(h'=true->f'=true)->(execOp (AA true f').eval h.S).run G.P (WW false h')=.ok .skip (WW true h'):=fun f' h' _=>by
  have hx:(AA true f').eval D.x=a.eval D.x:=evX _ b2 _ _
  cases h' with
  | false =>
   obtain ⟨g1,g2⟩:=huw w1 (fun _ _=>rfl);exact Vz hT (by rw [c4];exact c2) (by rw [c4];simpa using dy.len) g1 g2 kj a5 (evI f') hx
  | true =>
  obtain ⟨g1,g2⟩:=huw (WW false true) dc;have:=Vz (w:=WW false true) hT (by rw [c4];exact c2) (by rw [c4];simpa using dy.len) g1 g2 kj a5 (evI f') hx;rw [this];show Result.ok Next.skip ((w1.setCells (e.β b) (oo+fo) [v']).setCells bb oS us)=.ok .skip ((w1.setCells bb oS us).setCells (e.β b) (oo+fo) [v']);rw [J2 ka]
 have rH:∀i s,(s=true->i=true)->(execOp (AA i true).eval h.H).run G.P (WW s false)=.ok .skip (WW s true):=fun i s _=>by
  cases s with
  | false =>
   obtain ⟨g1,g2⟩:=hfw w1 (fun _ _=>rfl);exact Vz hT (fun h0=>l3 h0) (by rw [hth];rfl) g1 g2 (fun u hu=>by simp [v',Value.cells] at hu;subst hu;rfl) a7 (evF i) (evA i true)
  | true =>
  obtain ⟨g1,g2⟩:=hfw (WW true false) bi;exact Vz (w:=WW true false) hT (fun h0=>l3 h0) (by rw [hth];rfl) g1 g2 (fun u hu=>by simp [v',Value.cells] at hu;subst hu;rfl) a7 (evF i) (evA i true)
 have rI:∀f' h',(h'=true->f'=true)->(execOp (AA false f').eval h.I).run G.P (WW false h')=.ok (.value vI) (WW false h'):=fun f' h' _=>by
  have:=ZjM hT c1 c2 a4 (evA false f') ((evX _ b1 false f').trans aa7) oM oM (WW false h');rw [this];simp [vI,oS]
 have rF:∀i s,(s=true->i=true)->(execOp (AA i false).eval h.F).run G.P (WW s false)=.ok (.value vF) (WW s false):=fun i s _ =>
  ZjL hT dg ra a6 ((evX _ b3 i false).trans hvx) (WW s false)
 have pI:∀f',(AA false f').put h.I.dst vI=AA true f':=fun f'=>by
  rw [a9]
  cases f'
  ·rfl
  exact ZrZ (Ne.symm n3) vF vI
 have pF:∀i,(AA i false).put h.F.dst vF=AA i true:=fun i=>by rw [a10];rfl
 have pS:∀f',(AA true f').put h.S.dst Go.undef=AA true f':=fun f'=>by rw [a11];rfl
 have pH:∀i,(AA i true).put h.H.dst Go.undef=AA i true:=fun i=>by rw [a12];rfl
 have ju:ZL G e0 σ0 w0 ds N Z Q .normal (AA true true) (WW true true):=by
  have xa:e2.β b=e.β b:=(st2.beta b (by exact cj)).trans vr;have F1:=(hF.step st1).step st2;have F2:=FRel.put (a:=a) (d:=some D.da) F1 V2 (fun i hi=>by cases hi;exact w9);have F3:=FRel.put (a:=a.put (some D.da) v') (d:=some D.di) F2 (.undef vI) (fun i hi=>by cases hi;exact hNI v');have F4:=FRel.put (a:=(a.put (some D.da) v').put (some D.di) vI) (d:=some D.df) (x:=.ptr b (oo+fo)) (v:=vF) F3 (by
   have:=VRel.ptr (G:=G) (e:=e2) (σ:=⟨σ.bx,(σ.nx+1)::UB σ.nx (σ.nx::tk0),σ.nx+1+1⟩) (w:=w1.setCells bb oS us) b (oo+fo) cj;rw [xa] at this;exact this) (fun i hi=>by cases hi;rw [Yr,Yr,hN];exact dF)
  have cn:UB σ.nx (σ.nx::tk0)=tk0:=by
   have aa8:σ.nx∉tk0:=fun hm=>by have:=hS.tkn _ (ax _ hm);omega
   unfold UB
   split
   ·exact ZhT aa8
   rename_i hb;simp at hb
  have zl:(⟨σ.bx,(σ.nx+1)::UB σ.nx (σ.nx::tk0),σ.nx+1+1⟩:St)=⟨σ.bx,(σ.nx+1)::tk0,σ.nx+2⟩:=by rw [cn]
  obtain ⟨w4,rl,st4,S4⟩:=Jn (x:=.sl (σ.nx+1) el (rows++[row])) (v:=v') (t:=D.th) hT S2 dv V2 rfl (by rw [hth];rfl) n7 (fun h0=>l3 h0);have pj:w4=WW true true:=by
   have h1:=rH true true (fun _=>rfl);unfold execOp at h1
   rw [xa] at rl;have h2:(AA true true).eval (.tmp D.df)=.pointer (some ⟨e.β b,oo+fo,none⟩):=evF true;have h3:(AA true true).eval (.tmp D.da)=v':=evA true true;have tr:(Instr.storeAt D.th (.pointer (some ⟨e.β b,oo+fo,none⟩)) v').run G.P (WW true false)=.ok () w4:=rl;simp only [a7,h2,h3,Sem.run_bind,tr,Result.andThen,Sem.run_pure] at h1
   cases h1;rfl
  subst pj;refine ⟨.normal,_,e2,_,fh,rfl,by rw [<- zl];exact S4,?_,(((hL.trans st1.toLater).trans st2.toLater).trans (by rw [<- zl];exact st4.toLater)),?_,?_,?_⟩
  ·have F5:=F4.step st4;rw [zl] at F5;rw [<- hf4];exact F5
  ·show (((a.put (some D.da) v').put (some D.di) vI).put (some D.df) vF).tmps.size=N;rw [Yr,Yr,Yr,hN]
  ·show Marks ds _ _ _ (((a.put (some D.da) v').put (some D.di) vI).put (some D.df) vF).defers;rw [Y9,Y9,Y9,<- zl];exact ((bf.later st1.toLater).later st2.toLater).later st4.toLater
  exact hdz _ _ _ h4.oF a10 _ _ (hdz _ _ _ h4.oI a9 _ _ (hdz _ _ _ oA a8 _ _ hZ))
 have kb:∀i b,i<ops.size->listed.getD i b=listed.getD i false:=fun i b hi=>by
  exact mq90
 have tt:∀k,k<ops.size->m<=k->listed.getD k false=false:=fun k hk hm=>by
  cases hv:listed.getD k false with
  | false=>rfl
  | true=>have:=(cq k hk).1 hv;omega
 refine ⟨fun hr=>?_,fun j hj=>?_⟩
 ·exfalso;have:m∈Region.ready .any ops listed:=mem_ready.2 ⟨by rw [kb _ _ oM];exact tt m oM (Tt _),h.A,oA,fun ed he hb=>(cq _ (by have:=eA ed he hb;omega)).2 (eA ed he hb)⟩;rw [hr] at this;cases this
 obtain ⟨h1,o,ho,ca⟩:=mem_ready.1 hj;have aa:=(Tp.1 ho).1;rw [kb _ _ aa] at h1;have w7:j=m:=by
  have ec:m<=j:=by
   apply Classical.byContradiction
   intro hn
   rw [(cq j aa).2 oM] at h1;cases h1
  have no:∀(o':Oper) (q:Nat),o=o'->(∃ed∈o'.after,Region.binds .any ed=true/\ed.on=q)->m<=q->q<ops.size->False:=fun o' q cp fx ii nk=>by
   subst cp;obtain ⟨ed,he,hb,ql⟩:=fx;have:=ca ed he hb;rw [ql,tt q nk ii] at this;cases this
  apply Classical.byContradiction
  intro ah
  have:j=m+1\/j=m+2\/j=m+3\/j=m+4:=oM;rcases this with rfl | rfl | rfl | rfl
  ·rw [h4.oI] at ho;exact no h.I m (Option.some.inj ho).symm eIA (Tt _) oM
  ·rw [h4.oS] at ho;exact no h.S (m+1) (Option.some.inj ho).symm h4.eSI oM oM
  ·rw [h4.oF] at ho;exact no h.F m (Option.some.inj ho).symm eFA (Tt _) oM
  rw [h4.oH] at ho;exact no h.H (m+3) (Option.some.inj ho).symm h4.eHF oM oM
 subst w7;have aa9:∀c,h.A.op≠.defer c:=fun c hc=>by rw [a3] at hc;cases hc
 have aba:(execOp a.eval h.A).run G.P w=.ok (.value v') w1:=by
  have ac:args=#[D.s,D.z]:=by rw [<- Array.toArray_toList (xs:=args),a1]
  have abb:at'=#[D.t,D.tx]:=by rw [<- Array.toArray_toList (xs:=at'),a2]
  subst ac;subst abb;unfold execOp
  simp only [a3,resolve,invoke,builtin,Sem.run_bind,Sem.run_pure,Result.andThen];rw [show Array.map a.eval #[D.s,D.z]=#[a.eval D.s,a.eval D.z] from sM,w8]
 refine Zc1 oA gA aa9 (.inl aba) ?_;rw [a8];refine ZCy h4 (A:=AA) (W:=WW) rI pI rF pF rS pS rH pH ju 4 false false false false rfl (fun h=>by cases h) (fun h=>by cases h) _ (by simpa using hsz) fun q hq=>?_
 by_cases hqm:q=j
 ·subst hqm;have fg:q<listed.size:=by rw [hsz];exact hq
  simp [Array.getD,fg]
 have:(listed.setIfInBounds j true).getD q false=listed.getD q false:=getD_set_ne false (Ne.symm hqm);rw [this,cq q hq]
 constructor
 ·intro h;exact ⟨oM,oM,oM,oM⟩
 rintro ⟨x1,x2,x3,x4⟩
 have g1:q≠j+1:=fun e=>by cases x1 e
 have g2:q≠j+2:=fun e=>by cases x2 e
 have g3:q≠j+3:=fun e=>by cases x3 e
 have g4:q≠j+4:=fun e=>by cases x4 e
 omega
def XI {m:Nat} {l:List Edge} (h:Jt m l=true):∃ed∈l,Region.binds .any ed=true/\ed.on=m:=by
 simp only [Jt,List.any_eq_true,Tn] at h;obtain ⟨ed,h1,h2,h3⟩:=h;exact ⟨ed,h1,h2,Tl h3⟩
def Zc4 {l:List Edge}:∀{n:Nat},Zla n l=true->∀p,p<n->∃ed∈l,Region.binds .any ed=true/\ed.on=p
 | 0,_,p,hp=>oM
 | n+1,h,p,hp=>by
  simp only [Zla,Tn] at h
  by_cases hpn:p=n
  ·subst hpn;exact XI h.1
  exact Zc4 h.2 p oM
def XA {m:Nat} {l:List Edge} (h:Uf m l=true):∀ed∈l,Region.binds .any ed=true->ed.on<=m:=fun ed he hb=>by
 have:=Tq.1 h ed he;rw [hb] at this;exact Tc (by simpa using this)
def XJ {o:Oper} (h:Js o=true):o.guard=none:=by
 unfold Js at h
 split at h
 ·assumption
 cases h
def ZmP (hC:CxOK G C ro e0 σ0 w0) (hM:CxMono C) {ops:Array Oper} (hd:∀o,o∈ops->∀d,o.dst=some d->d<N/\∀t v,Z t->Z (t.setIfInBounds d v)) {h:Hole} (hh:ZcL ops.toList=some h) (av:ZoO ops.toList h=true)
  {e:Env} {σ:St} {w:World} {a:Act} {f:Frame} (hS:SRel G e σ w) (hF:FRel G e σ w f a.tmps) (hL:Later e0 σ0 w0 e σ w) (hN:a.tmps.size=N) (bf:Marks ds e σ w a.defers) (hZ:Z a.tmps)
  (hW:X1 C ops.toList (Wg ops.toList []) (Zoh C ops.toList h Q) (VV h.pre.length (ZF 0 h.pre)) [] f σ) :
  wpAnyIn (fw ro) n G.P .any ops (ZL G e0 σ0 w0 ds N Z Q) ops.size (Array.replicate ops.size false) a w:=by
 have jv:=ZjK hh;simp only [ZoO,Tn] at av;obtain ⟨⟨⟨⟨⟨⟨⟨⟨⟨⟨⟨⟨⟨⟨⟨⟨⟨⟨⟨⟨k1,k2⟩,k3⟩,k4⟩,k5⟩,k6⟩,k7⟩,k8⟩,k9⟩,k10⟩,k11⟩,k12⟩,k13⟩,k14⟩,k15⟩,k16⟩,k17⟩,k18⟩,k19⟩,k20⟩,k21⟩:=av
 cases hD:ZmN h with
 | none=>rw [hD] at k1;cases k1
 | some D =>
 obtain ⟨args,at',a1,a2,a3,a4,a5,a6,a7,a8,a9,a10,a11,a12,b1,b2,b3,n1,n2,n3⟩:=ZaR hD;generalize hm:h.pre.length=m at *;have cm:ops.size=m+5:=by rw [<- Sm,jv];simp [hm]
 have at5:∀k,k<5->ops[m+k]?=[h.A,h.I,h.S,h.F,h.H][k]?:=fun k hk=>by
  rw [<- Tw,jv,TT oM,hm];simp
 have oA:ops[m]?=some h.A:=at5 0 oM;have h4:Hole4 ops m h.I h.S h.F h.H:={
  size:=cm
  oI:=at5 1 oM
  oS:=at5 2 oM
  oF:=at5 3 oM
  oH:=at5 4 oM
  gI:=XJ k3
  gS:=XJ k4
  gF:=XJ k5
  gH:=XJ k6
  nI:=fun c hc=>by rw [a4] at hc;cases hc
  nS:=fun c hc=>by rw [a5] at hc;cases hc
  nF:=fun c hc=>by rw [a6] at hc;cases hc
  nH:=fun c hc=>by rw [a7] at hc;cases hc
  eI:=fun ed he hb=>XA k7 ed (TJ.1 he) hb
  eF:=fun ed he hb=>XA k8 ed (TJ.1 he) hb
  eS:=fun ed he hb=>XA k9 ed (TJ.1 he) hb
  eH:=fun ed he hb=>by
   have:=Tq.1 k10 ed (TJ.1 he);rw [hb] at this;simp only [Bool.not_true,Bool.false_or,Sv] at this;rcases this with h | h
   ·exact .inl (Tc h)
   exact .inr (Tl h)
  eSI:=let ⟨ed,h1,h2⟩:=XI k11;⟨ed,TJ.2 h1,h2⟩
  eHF:=let ⟨ed,h1,h2⟩:=XI k12;⟨ed,TJ.2 h1,h2⟩ }
 have eIA:∃ed∈h.I.after,Region.binds .any ed=true/\ed.on=m:=let ⟨ed,h1,h2⟩:=XI k13;⟨ed,TJ.2 h1,h2⟩;have eFA:∃ed∈h.F.after,Region.binds .any ed=true/\ed.on=m:=let ⟨ed,h1,h2⟩:=XI k14;⟨ed,TJ.2 h1,h2⟩;have np:1<=m:=Tc k17;have eA:∀ed∈h.A.after,Region.binds .any ed=true->ed.on<m:=fun ed he hb=>by
  cases m with
  | zero=>omega
  | succ k=>have:=XA k16 ed (TJ.1 he) hb;omega
 have cx:∀p∈VV m (ZF 0 h.pre),p.1<m/\ops[p.1]?=some p.2:=fun p hp=>by
  have h1:=(XG (UK hp)).2;simp only [Nat.sub_zero] at h1;have h2:=(Ti.1 h1).1;rw [hm] at h2;exact ⟨h2,by rw [<- Tw,jv,TH oM];exact h1⟩
 have js:∀k,k<m->∃p∈VV m (ZF 0 h.pre),p.1=k:=fun k hk=>Jq k20 k hk
 have hlen:(VV m (ZF 0 h.pre)).length=m:=Tl k18;have:=Zfi (n:=n) hC hM hd (m:=m) (t:=5) (QQ:=ZL G e0 σ0 w0 ds N Z Q) (ms:=Wg ops.toList []) (fun i o hi ho=>by
   obtain ⟨p,hp,rfl⟩:=js i hi;have:=(cx p hp).2;rw [ho] at this
   cases this
   exact WI k21 p hp) cm (fun j o hj ho=>by
   have aa:=(Tp.1 ho).1;have:j=m\/j=m+1\/j=m+2\/j=m+3\/j=m+4:=oM;rcases this with rfl | rfl | rfl | rfl | rfl
   ·rw [oA] at ho;cases ho;exact .inl fun p hp=>let ⟨ed,h1,h2⟩:=Zc4 k15 p hp;⟨ed,TJ.2 h1,h2⟩
   ·rw [h4.oI] at ho;cases ho;obtain ⟨ed,h1,h2,h3⟩:=eIA;exact .inr ⟨ed,h1,h2,oM,oM⟩
   ·rw [h4.oS] at ho;cases ho;obtain ⟨ed,h1,h2,h3⟩:=h4.eSI;exact .inr ⟨ed,h1,h2,oM,oM⟩
   ·rw [h4.oF] at ho;cases ho;obtain ⟨ed,h1,h2,h3⟩:=eFA;exact .inr ⟨ed,h1,h2,oM,oM⟩
   rw [h4.oH] at ho;cases ho;obtain ⟨ed,h1,h2,h3⟩:=h4.eHF;exact .inr ⟨ed,h1,h2,oM,oM⟩)
  (fun x a w hx hp=>by
   cases x with
   | normal=>exact absurd rfl hx
   | _ =>
   obtain ⟨pe,f',e',σ',hq,gj,am⟩:=hp;refine ⟨pe,f',e',σ',?_,gj,am⟩
   cases pe <;> first | exact hq | (cases gj;done) | (obtain ⟨_,gj,_⟩:=gj;cases gj))
  (fun listed a w hsz cq hp=>Zr0 hC hd hD h4 oA (XJ k2) eA eIA eFA hsz cq hp)
  m (VV m (ZF 0 h.pre)) hlen (fun p hp=>(cx p hp).1) (fun p hp=>(cx p hp).2) (Wl k19).1 (fun p hp e he hb=>(Wl k19).2 p hp e he hb)
  (listed:=Array.replicate ops.size false) sM (fun k hk=>by
   have:(Array.replicate ops.size false).getD k false=false:=by simp [Array.getD]
   rw [this];simp only [Tv,false_iff]
   rintro ⟨hkm,hh⟩
   obtain ⟨p,hp,he⟩:=js k hkm;exact hh p hp he) (fun j w7 hj p hp=>by
   obtain ⟨q,hq,he⟩:=js j w7;exact absurd he (hj q hq)) hS hF hL hN bf hZ hW
 rw [cm] at this |-;exact this
end
end Go.PM
end

section
namespace Go.PM
def waits_iff {o:Oper}:∀{left:List (Nat×Oper)},WQ o left=true↔∃p∈left,∃ed∈o.after,Region.binds .any ed=true/\ed.on=p.1
 | []=>by simp [WQ]
 | (i,p)::l=>by
  unfold WQ
  rw [Sv,waits_iff (left:=l)]
  constructor
  ·rintro (h | ⟨q,hq,h⟩)
   ·simp only [List.any_eq_true,Tn] at h;obtain ⟨ed,h1,h2,h3⟩:=h;exact ⟨(i,p),sM,ed,TJ.2 h1,h2,Tl h3⟩
   exact ⟨q,by simp [hq],h⟩
  rintro ⟨q,hq,ed,h1,h2,h3⟩
  rcases Tu.1 hq with rfl | hq
  ·left
   simp only [List.any_eq_true,Tn];exact ⟨ed,TJ.1 h1,h2,by simp at h3;subst h3;simp⟩
  exact .inr ⟨q,hq,ed,h1,h2,h3⟩
def W9 {left:List (Nat×Oper)}:∀{l:List (Nat×Oper)} {p:Nat×Oper},Zga left l=some p->p∈l/\YV p.2.op=false/\WQ p.2 left=false
 | [],p,h=>by cases h
 | (i,o)::l,p,h=>by
  unfold Zga at h
  split at h
  ·rename_i h1 h2;cases h;exact ⟨sM,h1,h2⟩
  obtain ⟨h1,h2⟩:=W9 h;exact ⟨Tx _ h1,h2⟩
def ZaS {left:List (Nat×Oper)}:∀{l:List (Nat×Oper)},Zga left l=none->∀p∈l,YV p.2.op=false->WQ p.2 left=true
 | [],h,p,hp,_=>by cases hp
 | (i,o)::l,h,p,hp,he=>by
  unfold Zga at h
  split at h
  ·cases h
  rename_i jr
  rcases Tu.1 hp with rfl | hp
  ·cases hw:WQ o left with
   | true=>rfl
   | false=>exact (jr he hw).elim
  exact ZaS h p hp he
def conjE_iff {left:List (Nat×Oper)} {X:Nat->Oper->Prop}:∀{l:List (Nat×Oper)},Zmz left l X↔∀p∈l,WQ p.2 left=false->X p.1 p.2
 | []=>by simp [Zmz]
 | (i,o)::l=>by
  unfold Zmz
  cases hw:WQ o left with
  | true => simp only [conjE_iff (l := l)]; constructor
            ·intro h p hp pn
             rcases Tu.1 hp with rfl | hp
             ·simp only at pn;rw [hw] at pn;cases pn
             exact h p hp pn
            exact fun h p hp=>h p (Tx _ hp)
  | false => simp only [conjE_iff (l := l)]; constructor
             ·rintro ⟨h1,h2⟩ p hp pn
              rcases Tu.1 hp with rfl | hp
              ·exact h1
              exact h2 p hp pn
             exact fun h=>⟨h (i,o) sM hw,fun p hp=>h p (Tx _ hp)⟩
def XK {i:Nat}:∀{l:List (Nat×Oper)},l.Pairwise (fun a b=>a.1≠b.1)->∀p,p∈Yp i l↔p∈l/\p.1≠i
 | [],_,p=>by simp [Yp]
 | (j,o)::l,hp,p=>by
  have h1:=List.pairwise_cons.1 hp;unfold Yp
  split
  ·rename_i hb
   have:=Tl hb;subst this
   constructor
   ·exact fun h=>⟨Tx _ h,fun e=>h1.1 p h e.symm⟩
   rintro ⟨h,ah⟩
   rcases Tu.1 h with rfl | h
   ·exact absurd rfl ah
   exact h
  rename_i hb
  have ah:i≠j:=fun e=>by subst e;simp at hb
  rw [Tu,Tu,XK h1.2]
  constructor
  ·rintro (rfl | h)
   ·exact ⟨.inl rfl,fun e=>ah e.symm⟩
   exact ⟨.inr h.1,h.2⟩
  rintro ⟨rfl | h,h2⟩
  ·exact .inl rfl
  exact .inr ⟨h,h2⟩
def Zlc {i:Nat}:∀{l:List (Nat×Oper)},l.Pairwise (fun a b=>a.1≠b.1)->(Yp i l).Pairwise (fun a b=>a.1≠b.1)
 | [],h=>h
 | (j,o)::l,h=>by
  have h1:=List.pairwise_cons.1 h;unfold Yp
  split
  ·exact h1.2
  exact List.Pairwise.cons (fun p hp=>h1.1 p (Yy hp)) (Zlc h1.2)
def Va {i:Nat} {o:Oper}:∀{l:List (Nat×Oper)},(i,o)∈l->(Yp i l).length+1=l.length
 | [],h=>by cases h
 | (j,p)::l,h=>by
  unfold Yp
  split
  ·rfl
  rename_i hb
  rcases Tu.1 h with h | h
  ·cases h;simp at hb
  rw [Te,Va h];rfl
def ZaT {i j:Nat}:∀{l:List (Nat×Oper)},Yp i (Yp j l)=Yp j (Yp i l)
 | []=>rfl
 | (k,o)::l=>by
  by_cases h1:j=k
  ·subst h1
   by_cases h2:i=j
   ·subst h2;rfl
   have hb:Nat.beq i j=false:=by cases h:Nat.beq i j with | false=>rfl | true=>exact absurd (Tl h) h2
   simp [Yp,hb]
  have hb:Nat.beq j k=false:=by cases h:Nat.beq j k with | false=>rfl | true=>exact absurd (Tl h) h1
  by_cases h2:i=k
  ·subst h2;simp [Yp,hb]
  have hc:Nat.beq i k=false:=by cases h:Nat.beq i k with | false=>rfl | true=>exact absurd (Tl h) h2
  simp [Yp,hb,hc,ZaT (l:=l)]
section
variable {C:Cx} {all:List Oper} {ms:List Nat} {Q:PQ} {f:Frame} {σ:St}
def UL (hM:CxMono C) {i:Nat} {o:Oper} {ctx:List Ld} {K K':List Ld->Frame->St->Prop} (hK:∀c f σ,K c f σ->K' c f σ) (h:X0 C all ms Q i o ctx f σ K):X0 C all ms Q i o ctx f σ K':=by
 unfold X0 at h |-
 refine ZaN hM (fun f' σ' hk=>?_) h;exact mq123
def J3 (hM:CxMono C):∀(n:Nat) (l:List (Nat×Oper)) (c c':List Ld) (f:Frame) (σ:St),(∀d,d∈c'->d∈c)->Wh C all ms Q n l c f σ->Wh C all ms Q n l c' f σ
 | 0,[],_,_,_,_,_,h=>h
 | _+1,[],_,_,_,_,_,h=>h
 | 0,_::_,_,_,_,_,_,h=>h.elim
 | n+1,x::l,c,c',f,σ,hs,h=>by
  unfold Wh at h |-
  split at h
  ·exact ZcW hM hs (fun c c' f σ=>J3 hM n _ c c' f σ) h
  rw [conjE_iff] at h |-;exact fun p hp hw=>ZcW hM hs (fun c c' f σ=>J3 hM n _ c c' f σ) (h p hp hw)
structure Rem (all:List Oper) (ms:List Nat) (L:List (Nat×Oper)):Prop where
 pw:L.Pairwise (fun a b=>a.1≠b.1)
 msk:∀p∈L,ms.getD p.1 0=U0 ms p.2.after.toList 0
 apart:∀p∈L,∀q∈L,p.1≠q.1->YV p.2.op=false->anc ms p.1 q.1=false->anc ms q.1 p.1=false->ZbF all p.2 q.2=true
 down:∀j,(∀p∈L,p.1≠j)->∀q∈L,anc ms q.1 j=false
def Rem.noanc {L:List (Nat×Oper)} (h:Rem all ms L) {p:Nat×Oper} (hp:p∈L) (hw:WQ p.2 L=false):∀q∈L,anc ms q.1 p.1=false:=fun q hq=>by
 cases ha:anc ms q.1 p.1 with
 | false=>rfl
 | true =>
 exfalso;unfold anc at ha
 rw [h.msk p hp] at ha;rcases W7 ha with h2 | ⟨ed,he,hb,h2⟩
 ·simp at h2
 have jr:∀x∈L,x.1≠ed.on:=fun x hx e=>by
  have:WQ p.2 L=true:=waits_iff.2 ⟨x,hx,ed,TJ.2 he,hb,e.symm⟩;rw [hw] at this;cases this
 rcases h2 with h2 | h2
 ·exact jr q hq h2.symm
 rw [h.down ed.on jr q hq] at h2;cases h2
def Rem.drop {L:List (Nat×Oper)} (h:Rem all ms L) {p:Nat×Oper} (hp:p∈L) (hw:WQ p.2 L=false):Rem all ms (Yp p.1 L) where
 pw:=Zlc h.pw
 msk:=fun q hq=>h.msk q (Yy hq)
 apart:=fun a ha b hb=>h.apart a (Yy ha) b (Yy hb)
 down:=fun j hj q hq=>by
  by_cases hjp:j=p.1
  ·subst hjp;exact h.noanc hp hw q (Yy hq)
  refine h.down j (fun x hx e=>?_) q (Yy hq);exact hj x ((XK h.pw x).2 ⟨hx,fun e2=>hjp (e.symm.trans e2)⟩) e
def UM {o:Oper} {i:Nat} {L:List (Nat×Oper)} (h:WQ o L=false):WQ o (Yp i L)=false:=by
 cases hw:WQ o (Yp i L) with
 | false=>rfl
 | true =>
 obtain ⟨p,hp,hr⟩:=waits_iff.1 hw;rw [waits_iff.2 ⟨p,Yy hp,hr⟩] at h;cases h
def ZoP {L:List (Nat×Oper)} (h:L.Pairwise (fun a b=>a.1≠b.1)) {p q:Nat×Oper} (hp:p∈L) (hq:q∈L) (he:p.1=q.1):p=q:=by
 induction L with
 | nil=>cases hp
 | cons x l ih =>
 have h1:=List.pairwise_cons.1 h;rcases Tu.1 hp with o9 | o9 <;> rcases Tu.1 hq with ii | ii
 ·rw [o9,ii]
 ·exact absurd (o9 ▸ he) (h1.1 q ii)
 ·exact absurd (ii ▸ he.symm) (h1.1 p o9)
 exact ih h1.2 o9 ii
def ZoQ (hM:CxMono C):∀(k:Nat),(∀(L:List (Nat×Oper)),L.length=k+1->Rem all ms L->∀p∈L,WQ p.2 L=false->∀ctx f σ,Wh C all ms Q (k+1) L ctx f σ->X0 C all ms Q p.1 p.2 ctx f σ (Wh C all ms Q k (Yp p.1 L))) /\
  (∀(L:List (Nat×Oper)),L.length=k+1->Rem all ms L->∀p∈L,YV p.2.op=false->WQ p.2 L=false->∀ctx f σ,X0 C all ms Q p.1 p.2 ctx f σ (Wh C all ms Q k (Yp p.1 L))->Wh C all ms Q (k+1) L ctx f σ):=by
 intro k
 induction k with
 | zero =>
  have one:∀(L:List (Nat×Oper)),L.length=0+1->∀p∈L,L=[p]:=fun L hl p hp=>by
   cases L with
   | nil=>cases hp
   | cons x l =>
   cases l with
   | nil=>rw [List.mem_singleton.1 hp]
   | cons y l=>simp at hl
  refine ⟨fun L hl hR p hp hw ctx f σ h=>?_,fun L hl hR p hp he hw ctx f σ h=>?_⟩
  ·obtain rfl:=one L hl p hp;unfold Wh at h
   split at h
   ·rename_i i o jb
    have:=(W9 jb).1;simp at this;subst this;exact h
   exact (conjE_iff.1 h) p hp hw
  obtain rfl:=one L hl p hp;unfold Wh
  split
  ·rename_i i o jb
   have:=(W9 jb).1;simp at this;subst this;exact h
  rename_i jb
  have:=ZaS jb p hp he;rw [hw] at this;cases this
 | succ k ih =>
 obtain ⟨ihA,ihB⟩:=ih;refine ⟨fun L hl hR p hp hw ctx f σ h=>?_,fun L hl hR p hp he hw ctx f σ h=>?_⟩
 ·cases L with
  | nil=>cases hp
  | cons x l =>
  unfold Wh at h
  split at h
  ·rename_i j q jb
   obtain ⟨g1,g2,g3⟩:=W9 jb
   by_cases hj:j=p.1
   ·have:=ZoP hR.pw g1 hp hj;subst this;exact h
   have hpd:p∈Yp j (x::l):=(XK hR.pw p).2 ⟨hp,fun e=>hj e.symm⟩;have hjd:(j,q)∈Yp p.1 (x::l):=(XK hR.pw (j,q)).2 ⟨g1,hj⟩;have hlen:(Yp j (x::l)).length=k+1:=by have:=Va g1;omega
   have fy:(Yp p.1 (x::l)).length=k+1:=by have:=Va (o:=p.2) hp;omega
   have h2:=UL hM (fun c f σ hk=>ihA _ hlen (hR.drop g1 g3) p hpd (UM hw) c f σ hk) h;have h3:=ZCx hM (fun c c' f σ=>J3 hM k _ c c' f σ) g2 (hR.apart _ g1 _ hp hj g2 (hR.noanc hp hw _ g1) (hR.noanc g1 g3 _ hp)) (hR.noanc hp hw _ g1) h2;rw [ZaT] at h3;exact UL hM (fun c f σ hk=>ihB _ fy (hR.drop hp hw) (j,q) hjd g2 (UM g3) c f σ hk) h3
  exact (conjE_iff.1 h) p hp hw
 cases L with
 | nil=>cases hp
 | cons x l =>
 unfold Wh
 split
 ·rename_i j q jb
  obtain ⟨g1,g2,g3⟩:=W9 jb
  by_cases hj:j=p.1
  ·have:=ZoP hR.pw g1 hp hj;subst this;exact h
  have hpd:p∈Yp j (x::l):=(XK hR.pw p).2 ⟨hp,fun e=>hj e.symm⟩;have hjd:(j,q)∈Yp p.1 (x::l):=(XK hR.pw (j,q)).2 ⟨g1,hj⟩;have hlen:(Yp j (x::l)).length=k+1:=by have:=Va g1;omega
  have fy:(Yp p.1 (x::l)).length=k+1:=by have:=Va (o:=p.2) hp;omega
  have h2:=UL hM (fun c f σ hk=>ihA _ fy (hR.drop hp hw) (j,q) hjd (UM g3) c f σ hk) h;have h3:=ZCx hM (fun c c' f σ=>J3 hM k _ c c' f σ) he (hR.apart _ hp _ g1 (fun e=>hj e.symm) he (hR.noanc g1 g3 _ hp) (hR.noanc hp hw _ g1)) (hR.noanc g1 g3 _ hp) h2;rw [ZaT] at h3;exact UL hM (fun c f σ hk=>ihB _ hlen (hR.drop g1 g3) p hpd he (UM hw) c f σ hk) h3
 rename_i jb
 have:=ZaS jb p hp he;rw [hw] at this;cases this
end
def Zva (i:Nat) (l:List Edge):Bool:=l.all fun ed=>!(Region.binds .any ed) || Nat.ble (ed.on+1) i
def Zr1 (all:List Oper) (ms:List Nat) (L:List (Nat×Oper)):Bool :=
 L.all fun p=>L.all fun q=>Nat.beq p.1 q.1 || YV p.2.op || anc ms p.1 q.1 || anc ms q.1 p.1 || ZbF all p.2 q.2
def Zvb (ops:List Oper):Bool :=
 let ms:=Wg ops []
 let L:=ZF 0 ops
 ZaQ ms L && (L.all fun p=>Zva p.1 p.2.after.toList) && Zr1 ops ms L
def Zc5:∀{l:List Oper} {i:Nat},(ZF i l).Pairwise (fun a b=>a.1≠b.1)
 | [],_=>List.Pairwise.nil
 | o::l,i=>List.Pairwise.cons (fun p hp=>by have:=(XG hp).1;simp only;omega) Zc5
def ZbI:∀{l:List Oper} {i:Nat},(ZF i l).length=l.length
 | [],_=>rfl
 | o::l,i=>by simp [ZF,ZbI (l:=l)]
def ZbJ:∀{l:List Oper} {i k:Nat} {o:Oper},l[k]?=some o->(i+k,o)∈ZF i l
 | [],_,_,_,h=>by simp at h
 | x::l,i,k,o,h=>by
  unfold ZF
  cases k with
  | zero=>simp at h;subst h;simp
  | succ k =>
  have:=ZbJ (l:=l) (i:=i+1) (k:=k) (o:=o) (by simpa using h);rw [show i+(k+1)=i+1+k by omega];exact Tx _ this
section
variable {G:GE} {C:Cx} {e0 e:Env} {σ0 σ:St} {w0 w:World} {a:Act} {f:Frame} {Q:PQ} {ro:Option Nat} {n:Nat} {ds:Nat×List Deferred×Bool} {N:Nat} {Z:Array Value->Prop}
def ZoR (hC:CxOK G C ro e0 σ0 w0) (hM:CxMono C) {ops:Array Oper} (hd:∀o,o∈ops->∀d,o.dst=some d->d<N/\∀t v,Z t->Z (t.setIfInBounds d v)) {ms:List Nat} :
  ∀(k:Nat) (L:List (Nat×Oper)),L.length=k->Rem ops.toList ms L->(∀p∈L,ops[p.1]?=some p.2)->(∀p∈L,∀ed∈p.2.after,Region.binds .any ed=true->ed.on<p.1) ->
  ∀{listed:Array Bool},listed.size=ops.size->(∀k,k<ops.size->(listed.getD k false=true↔∀p∈L,p.1≠k)) ->
  ∀{ctx:List Ld} {e:Env} {σ:St} {w:World} {a:Act} {f:Frame},SRel G e σ w->FRel G e σ w f a.tmps->Later e0 σ0 w0 e σ w->a.tmps.size=N->Marks ds e σ w a.defers->Z a.tmps->Wh C ops.toList ms Q k L ctx f σ ->
  wpAnyIn (fw ro) n G.P .any ops (ZL G e0 σ0 w0 ds N Z Q) k listed a w
 | 0,L,hl,hR,cf,hed,listed,hsz,cq,ctx,e,σ,w,a,f,hS,hF,hL,hN,bf,hZ,h=>by
  have nz:L=[]:=List.length_eq_zero_iff.1 hl;exact mq64
 | k+1,L,hl,hR,cf,hed,listed,hsz,cq,ctx,e,σ,w,a,f,hS,hF,hL,hN,bf,hZ,h=>by
  have kb:∀i b,i<ops.size->listed.getD i b=listed.getD i false:=fun i b hi=>by
   exact mq90
  have tt:∀p∈L,listed.getD p.1 true=false:=fun p hp=>by
   have aa:=(Tp.1 (cf p hp)).1;rw [kb _ _ aa]
   cases hv:listed.getD p.1 false with
   | false=>rfl
   | true=>exact absurd rfl ((cq p.1 aa).1 hv p hp)
  refine ⟨fun hr=>?_,fun i hi=>?_⟩
  ·exfalso;have:∀(m:Nat),∀p∈L,p.1<=m->False:=by
    intro m
    induction m with
    | zero =>
     intro p hp hm
     have aa:=(Tp.1 (cf p hp)).1;have:p.1∈Region.ready .any ops listed:=mem_ready.2 ⟨tt p hp,p.2,cf p hp,fun ed he hb=>by have:=hed p hp ed he hb;omega⟩;rw [hr] at this;cases this
    | succ m ih =>
    intro p hp hm
    have aa:=(Tp.1 (cf p hp)).1;have:p.1∈Region.ready .any ops listed:=mem_ready.2 ⟨tt p hp,p.2,cf p hp,fun ed he hb=>(cq ed.on (by have:=hed p hp ed he hb;omega)).2 fun q hq e=>by
     have:=hed p hp ed he hb;exact ih q hq oM⟩
    rw [hr] at this;cases this
   cases L with
   | nil=>simp at hl
   | cons x l=>exact this x.1 x sM (Tt _)
  obtain ⟨h1,o,ho,ca⟩:=mem_ready.1 hi;have aa:=(Tp.1 ho).1;rw [kb _ _ aa] at h1;have cx:∃p∈L,p.1=i:=by
   exact mq144
  obtain ⟨p,ey,rfl⟩:=cx;have tg:p.2=o:=by have:=cf p ey;rw [ho] at this;exact (Option.some.inj this).symm
  subst tg;have hw:WQ p.2 L=false:=by
   cases hv:WQ p.2 L with
   | false=>rfl
   | true =>
   obtain ⟨q,hq,ed,he,hb,ql⟩:=waits_iff.1 hv;have nk:=(Tp.1 (cf q hq)).1;have:=(cq q.1 nk).1 (by rw [<- ql];exact ca ed he hb);exact absurd rfl (this q hq)
  have io:=(ZoQ hM k).1 L hl hR p ey hw ctx f σ h;have bj:=Vx (ro:=ro) (n:=n) hC hS hF hL hN bf hZ (ops:=ops) (hd p.2 (Sb ho)) io;have hlen:(Yp p.1 L).length=k:=by have:=Va (o:=p.2) ey;omega
  have next:∀a' w',KRel G e0 σ0 w0 ds N Z (fun f' σ'=>∃c,Wh C ops.toList ms Q k (Yp p.1 L) c f' σ') a' w'->wpAnyIn (fw ro) n G.P .any ops (ZL G e0 σ0 w0 ds N Z Q) k (listed.setIfInBounds p.1 true) a' w':=fun a' w' ⟨f',e',σ',⟨c,ee⟩,h2,h3,h4,h5,h6,h7⟩=>by
   refine ZoR hC hM hd k (Yp p.1 L) hlen (hR.drop ey hw) (fun x hx=>cf x (Yy hx)) (fun x hx=>hed x (Yy hx)) (by simpa using hsz) (fun k hk=>?_) h2 h3 h4 h5 h6 h7 ee
   by_cases og:k=p.1
   ·subst og;have fg:p.1<listed.size:=by rw [hsz];exact aa
    have:(listed.setIfInBounds p.1 true).getD p.1 false=true:=by simp [Array.getD,fg]
    simp only [this,true_iff];exact fun x hx=>((XK hR.pw x).1 hx).2
   have:(listed.setIfInBounds p.1 true).getD k false=listed.getD k false:=getD_set_ne false (Ne.symm og);rw [this,cq k hk]
   constructor
   ·exact fun hh x hx=>hh x (Yy hx)
   intro hh x hx ji
   exact hh x ((XK hR.pw x).2 ⟨hx,fun e2=>og (ji.symm.trans e2)⟩) ji
  have hK:∀a' w',KRel G e0 σ0 w0 ds N Z (fun f' σ'=>match YV p.2.op with | true=>Zoc ms p.1 σ.bx σ'.bx ctx (Wh C ops.toList ms Q k (Yp p.1 L) ctx f' σ') | false=>Wh C ops.toList ms Q k (Yp p.1 L) (VZ C.T p.2 p.1 f ctx) f' σ') a' w' ->
    KRel G e0 σ0 w0 ds N Z (fun f' σ'=>∃c,Wh C ops.toList ms Q k (Yp p.1 L) c f' σ') a' w':=fun a' w' ⟨f',e',σ',hk,am⟩=>by
   refine ⟨f',e',σ',?_,am⟩
   cases hE:YV p.2.op with
   | true=>rw [hE] at hk;exact ⟨_,(chkL_iff.1 hk).2⟩
   | false=>rw [hE] at hk;exact ⟨_,hk⟩
  exact mq91
def ZoS (hC:CxOK G C ro e0 σ0 w0) (hM:CxMono C) {ops:Array Oper} (hd:∀o,o∈ops->∀d,o.dst=some d->d<N/\∀t v,Z t->Z (t.setIfInBounds d v)) (av:Zvb ops.toList=true)
  (hS:SRel G e σ w) (hF:FRel G e σ w f a.tmps) (hL:Later e0 σ0 w0 e σ w) (hN:a.tmps.size=N) (bf:Marks ds e σ w a.defers) (hZ:Z a.tmps) (h:Wh C ops.toList (Wg ops.toList []) Q ops.toList.length (ZF 0 ops.toList) [] f σ) :
  wpAnyIn (fw ro) n G.P .any ops (ZL G e0 σ0 w0 ds N Z Q) ops.size (Array.replicate ops.size false) a w:=by
 simp only [Zvb,Tn] at av;obtain ⟨⟨k1,k2⟩,k3⟩:=av;have cf:∀p∈ZF 0 ops.toList,ops[p.1]?=some p.2:=fun p hp=>by
  have:=(XG hp).2;rw [<- Tw];simpa using this
 have js:∀k,k<ops.size->∃p∈ZF 0 ops.toList,p.1=k:=fun k hk=>⟨_,ZbJ (i:=0) (k:=k) (o:=ops[k]) (by rw [Tw,Tz hk]),sM⟩
 have hlen:ops.toList.length=ops.size:=Sm;rw [hlen] at h;refine ZoR hC hM hd ops.size (ZF 0 ops.toList) (by rw [ZbI,hlen]) ⟨Zc5,WI k1,fun p hp q hq ah he h1 h2=>?_,fun j hj q hq=>?_⟩ cf (fun p hp ed he hb=>?_) sM (fun k hk=>?_) hS hF hL hN bf hZ h
 ·have:=Tq.1 (Tq.1 k3 p hp) q hq;simp only [Sv] at this;rcases this with (((h | h) | h) | h) | h
  ·exact absurd (Tl h) ah
  ·rw [he] at h;cases h
  ·rw [h1] at h;cases h
  ·rw [h2] at h;cases h
  exact h
 ·by_cases lk:j<ops.size
  ·obtain ⟨p,hp,he⟩:=js j lk;exact absurd he (hj p hp)
  exact mq71
 ·have:=Tq.1 (Tq.1 k2 p hp) ed (TJ.1 he);rw [hb] at this;exact Tc (by simpa using this)
 exact mq116
end
end Go.PM
end
