/- A part of the proof: plain logic, contracts and laws over the given program. -/
import Derived.Test.YtcifacgjebbdbaaGreatDoorB02
set_option linter.unusedVariables false
set_option linter.unusedSimpArgs false
set_option linter.all false
set_option maxRecDepth 100000
set_option maxHeartbeats 16000000
section
namespace Go.PM
def Xb (all:List Oper) (o:Oper) (f:Frame):Option Bool:=match o.guard with
 | none=>some true
 | some (j,want)=>match Ve all j with
  | some s=>match f s with
   | .d (.bool t)=>some (t == want)
   | .raw (.tuple _)=>some false
   | _=>none
  | none=>none
def YX (C:Cx) (all:List Oper) (Q:PQ) (o:Oper) (f:Frame) (σ:St) (K:Frame->St->Prop) :
  V7 C all Q o f σ K↔match Xb all o f with
   | some true=>Wn C o f σ Q K
   | some false=>K (Yo f o.dst (.raw Go.undef)) σ
   | none=>False:=by
 unfold V7 Xb
 cases hg:o.guard with
 | none=>exact Iff.rfl
 | some p =>
 obtain ⟨j,want⟩:=p;simp only
 cases hs:Ve all j with
 | none=>exact Iff.rfl
 | some s =>
 simp only
 cases hf:f s with
 | d x =>
  cases x with
  | bool t=>cases t <;> cases want <;> simp only [CondP,Ui hf,Z3] <;> exact Iff.rfl
  | _=>exact Iff.rfl
 | raw v=>cases v <;> simp only [Z3] <;> exact Iff.rfl
 | _=>exact Iff.rfl
structure CxMono (C:Cx):Prop where
 one:∀t,(C.T.get t).kind≠.other->(C.T.get t).kind.isAgg=false->(C.T.get t).size=1
 call:∀g args σ (K K':PEnd->St->Prop),(∀e σ,K e σ->K' e σ)->C.call g args σ K->C.call g args σ K'
 raw:∀v args σ (K:PEnd->St->Prop),¬C.raw v args σ K
 iter:∀g args r σ (K:PEnd->St->Prop),¬C.iter g args r σ K
 quiet:C.pk=false
def J7 {T:Tab} {o:Op} {ty:TypeId} {ρ:Operand->PV} {bx:List Box} {K K':PV->Prop} (hK:∀v,K v->K' v) (h:Zhr T o ty ρ bx K):Zhr T o ty ρ bx K' :=
 let ⟨v,h1,h2⟩:=ZnX h;h2 K' (hK v h1)
def Zmi {t:Bool} {X Y X' Y':Prop} (h1:X->X') (h2:Y->Y') (h:CondP t X Y):CondP t X' Y':=by cases t;exact h2 h;exact h1 h
def Zi9 {T:Tab} {t:TypeId} {m k x:PV} {σ:St} {K K':PV->St->Prop} (hK:∀v σ,K v σ->K' v σ) (h:ZcM T t m k x σ K):ZcM T t m k x σ K':=by
 unfold ZcM at h |-
 (repeat' split at h) <;> first
  | exact h.elim
  | exact hK _ _ h
  | exact ⟨h.1,hK _ _ h.2⟩
def Zcp {T:Tab} {o:Op} {ρ:Operand->PV} {σ:St} {K K':PV->St->Prop} (hK:∀v σ,K v σ->K' v σ) (h:eop T o ρ σ K):eop T o ρ σ K':=by
 unfold eop at h |-
 (repeat' split at h) <;> first
  | exact h.elim
  | exact hK _ _ h
  | exact Zi9 hK h
  | exact Zmi (hK _ _) (hK _ _) h
  | exact ⟨h.1,h.2.1,h.2.2.1,hK _ _ h.2.2.2⟩
  | (rename_i hk;exfalso;simp_all;done)
section
variable {C:Cx} {all:List Oper} {Q:PQ} {f:Frame} {σ:St} {K K':Frame->St->Prop}
def Zmj (hM:CxMono C) {o:Oper} (hK:∀f σ,K f σ->K' f σ) (h:Wn C o f σ Q K):Wn C o f σ Q K':=by
 unfold Wn at h |-
 simp only [ZZ,Z7] at h |-;split at h
 ·exact J7 (fun v hv=>by rw [Z3] at hv |-;exact hK _ _ hv) h
 split at h
 ·unfold ZeU at h |-
  split at h
  ·split at h
   ·refine hM.call _ _ _ _ _ (fun e σ he=>?_) h
    cases e with
    | ret v=>simp only at he |-;rw [Z3] at he |-;exact hK _ _ he
    | panic v=>exact he
   exact (hM.iter _ _ _ _ _ h).elim
  ·exact (hM.raw _ _ _ _ h).elim
  exact h
 ·exact h
 exact Zcp (fun v σ hv=>by rw [Z3] at hv |-;exact hK _ _ hv) h
def Za1 (hM:CxMono C) {o:Oper} (hK:∀f σ,K f σ->K' f σ) (h:V7 C all Q o f σ K):V7 C all Q o f σ K':=by
 rw [YX] at h |-;split at h
 ·exact Zmj hM hK h
 ·exact hK _ _ h
 exact h
def looks (all:List Oper) (o:Oper):List Nat :=
 (o.op.operands.toList.filterMap fun | .tmp t=>some t | _=>none)++(match o.guard with | some (j,_)=>(Ve all j).toList | none=>[])
def Zja {f f':Frame} {o:Oper} (h:∀d,d∈looks all o->f d=f' d) {x:Operand} (hx:x∈o.op.operands):ev f x=ev f' x:=by
 cases x with
 | tmp t =>
  refine h t ?_;unfold looks
  refine TJ.2 (.inl (List.mem_filterMap.2 ⟨.tmp t,TN.1 hx,rfl⟩))
 | _=>rfl
def Za2 {f f':Frame} {o:Oper} (h:∀d,d∈looks all o->f d=f' d):Xb all o f=Xb all o f':=by
 unfold Xb
 cases hg:o.guard with
 | none=>rfl
 | some p =>
 obtain ⟨j,want⟩:=p;simp only
 cases hs:Ve all j with
 | none=>rfl
 | some s =>
 simp only;rw [h s (by unfold looks;rw [hg];simp only [hs];simp)]
def Ze9 {d d':Option Nat} (h:∀i,d=some i->d'≠some i) (f:Frame) (v u:PV):Yo (Yo f d v) d' u=Yo (Yo f d' u) d v:=by
 cases d with
 | none=>rfl
 | some i =>
 cases d' with
 | none=>rfl
 | some j =>
 have jk:i≠j:=fun e=>h i rfl (by rw [e])
 funext k
 simp only [Yo]
 by_cases h1:j=k
 ·subst h1;rw [Yx,Xe _ _ jk,Yx]
 rw [Xe _ _ h1]
 by_cases h2:i=k
 ·subst h2;rw [Yx,Yx]
 rw [Xe _ _ h2,Xe _ _ h2,Xe _ _ h1]
def J8 {d:Option Nat} {v:PV} {k:Nat} (h:∀i,d=some i->i≠k):Yo f d v k=f k:=by
 cases d with
 | none=>rfl
 | some i=>exact Xe f v (h i rfl)
def calls_operands {x:Operand} {args:Array Operand} {at':Array TypeId} {y:Operand}:y∈(Op.call { callee:=.value x,args,argTypes:=at' }).operands↔y=x\/y∈args:=by
 simp [Op.operands,Call.operands]
def Zn0 (hM:CxMono C) {o:Oper} {d:Option Nat} {v:PV} (h1:∀i,d=some i->i∉looks all o) (h2:∀i,d=some i->o.dst≠some i) (h:Wn C o (Yo f d v) σ Q K) :
  Wn C o f σ Q (fun f' σ'=>K (Yo f' d v) σ'):=by
 have fq:∀k,k∈looks all o->Yo f d v k=f k:=fun k hk=>J8 fun i hi e=>h1 i hi (e ▸ hk)
 have yz:∀x,x∈o.op.operands->ev (Yo f d v) x=ev f x:=fun x hx=>Zja fq hx
 have oy:∀u,Yo (Yo f d v) o.dst u=Yo (Yo f o.dst u) d v:=fun u=>Ze9 h2 f v u
 unfold Wn at h |-
 simp only [ZZ,Z7,Cx.pf,hM.quiet] at h |-;split at h
 ·refine J7 (fun u hu=>?_) (Ze8 yz hM.one (fun _ _ _ _=>rfl) h);rw [Z3] at hu |-;rw [oy] at hu;exact hu
 split at h
 ·rename_i x args at' ho
  have hx:ev (Yo f d v) x=ev f x:=yz x (by rw [ho];exact calls_operands.2 (.inl rfl));have af:args.toList.map (ev (Yo f d v))=args.toList.map (ev f):=Sx fun y hy=>yz y (by rw [ho];exact calls_operands.2 (.inr (TN.2 hy)))
  rw [hx,af] at h;have hk:∀(e:PEnd) (σ':St),(match e with | .ret u=>ZiS (Yo f d v) o.dst u fun f=>K f σ' | .panic v=>Q (.panic v) (fun _=>.undef) σ':Prop)->(match e with | .ret u=>ZiS f o.dst u fun f=>K (Yo f d v) σ' | .panic v=>Q (.panic v) (fun _=>.undef) σ':Prop):=fun e σ' he=>by
   cases e with
   | ret u=>simp only at he |-;rw [Z3] at he |-;rw [oy] at he;exact he
   | panic v=>exact he
  unfold ZeU at h |-
  split at h
  ·split at h
   ·exact hM.call _ _ _ _ _ hk h
   exact (hM.iter _ _ _ _ _ h).elim
  ·exact (hM.raw _ _ _ _ h).elim
  exact h
 ·rename_i x ho
  rw [yz x (by rw [ho];simp [Op.operands])] at h;exact h
 refine Zcp (fun u σ' hu=>?_) (ZnZ (fun x hx=>yz x hx) h);rw [Z3] at hu |-;rw [oy] at hu;exact hu
def Zjb (hM:CxMono C) {o:Oper} (hK:∀u σ',(Y0 o.op=false->σ'=σ)->K (Yo f o.dst u) σ'->K' (Yo f o.dst u) σ') (h:Wn C o f σ Q K):Wn C o f σ Q K':=by
 unfold Wn at h |-
 simp only [ZZ,Z7] at h |-;split at h
 ·rename_i hE
  exact J7 (fun v hv=>by rw [Z3] at hv |-;exact hK _ _ (fun _=>rfl) hv) h
 rename_i hE
 have pt:∀σ',Y0 o.op=false->σ'=σ:=fun σ' h=>by rw [hE] at h;cases h
 split at h
 ·unfold ZeU at h |-
  split at h
  ·split at h
   ·refine hM.call _ _ _ _ _ (fun e σ he=>?_) h
    cases e with
    | ret v=>simp only at he |-;rw [Z3] at he |-;exact hK _ _ (pt _) he
    | panic v=>exact he
   exact (hM.iter _ _ _ _ _ h).elim
  ·exact (hM.raw _ _ _ _ h).elim
  exact h
 ·exact h
 exact Zcp (fun v σ hv=>by rw [Z3] at hv |-;exact hK _ _ (pt _) hv) h
def Zjc (hM:CxMono C) {o:Oper} (hK:∀u σ',(Y0 o.op=false->σ'=σ)->K (Yo f o.dst u) σ'->K' (Yo f o.dst u) σ') (h:V7 C all Q o f σ K):V7 C all Q o f σ K':=by
 rw [YX] at h |-;split at h
 ·exact Zjb hM hK h
 ·exact hK _ _ (fun _=>rfl) h
 exact h
def Zn1 (hM:CxMono C) {o:Oper} {d:Option Nat} {v:PV} (h1:∀i,d=some i->i∉looks all o) (h2:∀i,d=some i->o.dst≠some i) (h:V7 C all Q o (Yo f d v) σ K) :
  V7 C all Q o f σ (fun f' σ'=>K (Yo f' d v) σ'):=by
 rw [YX] at h |-;rw [Za2 (f':=f) (fun k hk=>J8 fun i hi e=>h1 i hi (e ▸ hk))] at h;split at h
 ·exact Zn0 hM h1 h2 h
 ·rw [Ze9 h2] at h;exact h
 exact h
def Zjd (hM:CxMono C) {o:Oper} (hE:Y0 o.op=false) (h:V7 C all Q o f σ K):∃v,K (Yo f o.dst v) σ/\∀f' σ',(∀d,d∈looks all o->f d=f' d) ->
  (∀b off n,Zrk C.T o.op (ev f)=some (b,off,n)->Z8 σ.bx b off n=Z8 σ'.bx b off n)->∀K':Frame->St->Prop,K' (Yo f' o.dst v) σ'->V7 C all Q o f' σ' K':=by
 rw [YX] at h;split at h
 ·rename_i hg
  unfold Wn at h
  simp only [hE] at h;obtain ⟨v,hv,cd⟩:=ZnX h;rw [Z3] at hv;refine ⟨v,hv,fun f' σ' hf hl K' hK'=>?_⟩;rw [YX,<- Za2 hf,hg];simp only [Wn,hE];refine Ze8 (fun x hx=>Zja hf hx) hM.one hl (cd _ ?_);rw [Z3];exact hK'
 ·rename_i hg
  refine ⟨_,h,fun f' σ' hf hl K' hK'=>?_⟩;rw [YX,<- Za2 hf,hg];exact hK'
 exact h.elim
def chkL_iff {ms:List Nat} {j:Nat} {pre post:List Box} {X:Prop}:∀{l:List Ld},Zrs ms j pre post l X↔(∀d,d∈l->anc ms d.i j=false->Z8 pre d.b d.off d.n=Z8 post d.b d.off d.n)/\X
 | []=>by simp [Zrs]
 | d::l=>by
  obtain ⟨di,db,doff,dn⟩:=d;simp only [Zrs]
  cases hd:anc ms di j with
  | true=>simp only [chkL_iff,Tv,forall_eq_or_imp,hd,Bool.true_eq_false,false_implies,true_and]
  | false=>simp only [chkL_iff,Tv,forall_eq_or_imp,hd,true_implies,and_assoc]
def Zn2 {T:Tab} {o:Op} {ρ ρ':Operand->PV} (h:∀x,x∈o.operands->ρ x=ρ' x):Zrk T o ρ=Zrk T o ρ':=by
 unfold Zrk
 split
 ·rename_i t a;rw [h a oP]
 ·rename_i t a k ok;rw [h a oP]
 ·rename_i args at'
  rw [Sx fun x hx=>h x (by simp only [Op.operands,Call.operands,Array.empty_append];exact TN.2 hx)]
 rfl
def Za3 {o:Oper} {f':Frame} (h:∀d,d∈looks all o->f d=f' d) (T:Tab) (i:Nat) (ctx:List Ld):Ud T o i f ctx=Ud T o i f' ctx:=by
 unfold Ud
 rw [Zn2 fun x hx=>Zja h hx]
def Zcq (T:Tab) (o:Oper) (i:Nat) (f:Frame):∃l,∀c,Ud T o i f c=l++c:=by
 unfold Ud
 split
 ·exact ⟨[_],fun c=>rfl⟩
 exact ⟨[],fun c=>rfl⟩
def Zn3 {o:Oper} {ctx ctx':List Ld} (h:∀d,d∈ctx'->d∈ctx) (T:Tab) (i:Nat):∀d,d∈Ud T o i f ctx'->d∈Ud T o i f ctx:=by
 obtain ⟨l,hl⟩:=Zcq T o i f;intro d hd
 rw [hl,TJ] at hd |-;exact hd.imp id (h d)
def Zn4 {o:Oper} {ctx:List Ld} (T:Tab) (i:Nat):∀d,d∈ctx->d∈Ud T o i f ctx:=by
 obtain ⟨l,hl⟩:=Zcq T o i f;intro d hd
 rw [hl,TJ];exact .inr hd
def Zn5 {o o':Oper} {f':Frame} {ctx:List Ld} (T:Tab) (i i':Nat):∀d,d∈Ud T o i f (Ud T o' i' f' ctx)->d∈Ud T o' i' f' (Ud T o i f ctx):=by
 obtain ⟨l,hl⟩:=Zcq T o i f;obtain ⟨l',hl'⟩:=Zcq T o' i' f';intro d hd
 rw [hl,hl'] at hd;rw [hl',hl];simp only [TJ] at hd |-;rcases hd with h | h | h
 ·exact .inr (.inl h)
 ·exact .inl h
 exact .inr (.inr h)
def ZcY (hM:CxMono C) {ms:List Nat} {i:Nat} {o:Oper} {ctx ctx':List Ld} {K:List Ld->Frame->St->Prop} (hs:∀d,d∈ctx'->d∈ctx) (hK:∀c c' f σ,(∀d,d∈c'->d∈c)->K c f σ->K c' f σ)
  (h:Wo C all ms Q i o ctx f σ K):Wo C all ms Q i o ctx' f σ K:=by
 unfold Wo at h |-
 refine Za1 hM (fun f' σ' hk=>?_) h
 cases hE:Y0 o.op with
 | true=>simp only [hE] at hk |-;rw [chkL_iff] at hk |-;exact ⟨fun d hd=>hk.1 d (hs d hd),hK _ _ _ _ hs hk.2⟩
 | false=>simp only [hE] at hk |-;exact hK _ _ _ _ (Zn3 hs _ _) hk
def ZhF (hM:CxMono C) {ms:List Nat}:∀(l:List (Nat×Oper)) (c c':List Ld) (f:Frame) (σ:St),(∀d,d∈c'->d∈c)->WP C all ms Q l c f σ->WP C all ms Q l c' f σ
 | [],_,_,_,_,_,h=>h
 | (i,o)::l,c,c',f,σ,hs,h=>ZcY hM hs (fun c c' f σ=>ZhF hM l c c' f σ) h
def ZbO (all:List Oper) (x y:Oper):Bool :=
 (match x.dst with | some d=>!(Zhn d (looks all y)) && (match y.dst with | some d'=>!(Nat.beq d d') | none=>true) | none=>true) &&
 (match y.dst with | some d=>!(Zhn d (looks all x)) | none=>true)
def Zje {x y:Oper} (h:ZbO all x y=true):(∀i,x.dst=some i->i∉looks all y)/\(∀i,x.dst=some i->y.dst≠some i)/\(∀i,y.dst=some i->i∉looks all x):=by
 unfold ZbO at h
 rw [Tm] at h;refine ⟨fun i hi=>?_,fun i hi=>?_,fun i hi=>?_⟩
 ·have:=h.1;rw [hi] at this;simp only [Tm,TZ] at this;intro hm;rw [(Ys _ _).2 hm] at this;cases this.1
 ·have:=h.1;rw [hi] at this;simp only [Tm,TZ] at this;intro hm;rw [hm] at this;simp at this
 have:=h.2;rw [hi] at this;simp only [TZ] at this;intro hm;rw [(Ys _ _).2 hm] at this;cases this
def ZBS (hM:CxMono C) {ms:List Nat} {ix iy:Nat} {x y:Oper} {ctx:List Ld} {K0:List Ld->Frame->St->Prop} (hK:∀c c' f σ,(∀d,d∈c'->d∈c)->K0 c f σ->K0 c' f σ)
  (hE:Y0 x.op=false) (hap:ZbO all x y=true) (ab6:anc ms ix iy=false) (h:Wo C all ms Q ix x ctx f σ (fun c f σ=>Wo C all ms Q iy y c f σ K0)) :
  Wo C all ms Q iy y ctx f σ (fun c f σ=>Wo C all ms Q ix x c f σ K0):=by
 obtain ⟨ha,hb,hc⟩:=Zje hap;unfold Wo at h
 simp only [hE] at h;obtain ⟨v,hv,cd⟩:=Zjd hM hE h;have fq:∀u d,d∈looks all x->f d=Yo f y.dst u d:=fun u d hd=>(J8 fun i hi e=>hc i hi (e ▸ hd)).symm
 have hv:=Zn1 hM ha hb hv;unfold Wo
 refine Zjc hM (fun u σ' hq hk=>?_) hv
 cases hEy:Y0 y.op with
 | true =>
  simp only [hEy] at hk |-;rw [chkL_iff] at hk |-;refine ⟨fun d hd hda=>hk.1 d (Zn4 _ _ d hd) hda,?_⟩;simp only [hE];refine cd _ _ (fq u) (fun b off n ho=>?_) _ ?_
  ·exact hk.1 ⟨ix,b,off,n⟩ (by simp [Ud,ho]) ab6
  rw [<- Za3 (fq u)];exact hk.2
 | false =>
 simp only [hEy] at hk |-;simp only [hE];obtain rfl:=hq hEy;refine cd _ _ (fq u) (fun b off n ho=>rfl) _ ?_;rw [<- Za3 (fq u)];refine hK _ _ _ _ ?_ hk;rw [<- Za3 (f:=f) (f':=Yo f x.dst v) (o:=y) (fun d hd=>(J8 fun i hi e=>ha i hi (e ▸ hd)).symm)];exact Zn5 _ _ _
def Zjf (hM:CxMono C) {ms:List Nat} {i:Nat} {o:Oper} {post:List (Nat×Oper)}:∀(pre:List (Nat×Oper)),(∀p,p∈pre->Y0 p.2.op=false/\ZbO all p.2 o=true/\anc ms p.1 i=false)->∀(ctx:List Ld) (f:Frame) (σ:St),
  WP C all ms Q (pre++(i,o)::post) ctx f σ->Wo C all ms Q i o ctx f σ (WP C all ms Q (pre++post))
 | [],_,_,_,_,h=>h
 | (ix,x)::pre,hp,ctx,f,σ,h=>by
  obtain ⟨h1,h2,h3⟩:=hp (ix,x) sM;refine ZBS hM (ZhF hM _) h1 h2 h3 ?_;have h':Wo C all ms Q ix x ctx f σ (WP C all ms Q (pre++(i,o)::post)):=h;unfold Wo at h' |-
  refine Za1 hM (fun f' σ' hk=>?_) h'
  cases hE:Y0 x.op with
  | true=>rw [hE] at h1;cases h1
  | false=>simp only [hE] at hk |-;exact Zjf hM pre (fun p ja=>hp p (TA _ ja)) _ _ _ hk
end
end Go.PM
end

section
namespace Go.PM
def Zf8 (n i:Nat):List Edge->Bool
 | []=>true
 | e::l=>(match Region.binds .any e with | true=>Nat.ble (e.on+1) n && !(Nat.beq e.on i) | false=>true) && Zf8 n i l
def Zcr (j:Nat):List Edge->Bool
 | []=>true
 | e::l=>(match Region.binds .any e with | true=>!(Nat.beq e.on j) | false=>true) && Zcr j l
def ZkG (all:List Oper) (ms:List Nat) (i:Nat) (o:Oper):List (Nat×Oper)->Bool
 | []=>true
 | (j,p)::l=>!(Nat.beq i j) && Zcr j o.after.toList && (anc ms i j || (!(Y0 o.op) && ZbO all o p)) && ZkG all ms i o l
def ZhG (all:List Oper) (ms:List Nat) (n:Nat):List (Nat×Oper)->Bool
 | []=>true
 | (i,o)::l=>ZkG all ms i o l && Zf8 n i o.after.toList && ZhG all ms n l
def ZhH (cs:List (Nat×Oper)):Nat->Bool
 | 0=>true
 | n+1=>cs.any (fun p=>Nat.beq p.1 n) && ZhH cs n
def Za4 (ms:List Nat):List (Nat×Oper)->Bool
 | []=>true
 | (i,o)::l=>Nat.beq (ms.getD i 0) (Jf ms o.after.toList 0) && Za4 ms l
def Zn6 (ops:List Oper):Bool :=
 let ms:=W5 ops []
 let cs:=Zht ops
 Nat.beq cs.length ops.length && ZhG ops ms ops.length cs && ZhH cs ops.length && Za4 ms cs
def ZbP {n i:Nat}:∀{l:List Edge},Zf8 n i l=true->∀e∈l,Region.binds .any e=true->e.on<n/\e.on≠i
 | [],_,e,he,_=>by cases he
 | x::l,h,e,he,hb=>by
  simp only [Zf8,Tm] at h;rcases Tv.1 he with rfl | he
  ·have h1:=h.1;rw [hb] at h1;simp only [Tm,Nat.ble_eq,TZ] at h1;exact ⟨h1.1,fun e=>by rw [e] at h1;simp at h1⟩
  exact ZbP h.2 e he hb
def J9 {j:Nat}:∀{l:List Edge},Zcr j l=true->∀e∈l,Region.binds .any e=true->e.on≠j
 | [],_,e,he,_=>by cases he
 | x::l,h,e,he,hb=>by
  simp only [Zcr,Tm] at h;rcases Tv.1 he with rfl | he
  ·have h1:=h.1;rw [hb] at h1;simp only [TZ] at h1;exact fun e=>by rw [e] at h1;simp at h1
  exact J9 h.2 e he hb
def ZrA (all:List Oper) (ms:List Nat) (x y:Nat×Oper):Prop :=
 x.1≠y.1/\(∀e∈x.2.after.toList,Region.binds .any e=true->e.on≠y.1)/\(anc ms x.1 y.1=true\/(Y0 x.2.op=false/\ZbO all x.2 y.2=true))
def ZcZ {all:List Oper} {ms:List Nat} {i:Nat} {o:Oper}:∀{l:List (Nat×Oper)},ZkG all ms i o l=true->∀p∈l,ZrA all ms (i,o) p
 | [],_,p,hp=>by cases hp
 | (j,x)::l,h,p,hp=>by
  simp only [ZkG,Tm,Sm,TZ] at h;rcases Tv.1 hp with rfl | hp
  ·exact ⟨fun (e:i=j)=>by have:=h.1.1.1;rw [e] at this;simp at this,J9 h.1.1.2,h.1.2⟩
  exact ZcZ h.2 p hp
def Wt {all:List Oper} {ms:List Nat} {n:Nat}:∀{l:List (Nat×Oper)},ZhG all ms n l=true->l.Pairwise (ZrA all ms)/\∀p∈l,∀e∈p.2.after.toList,Region.binds .any e=true->e.on<n/\e.on≠p.1
 | [],_=>⟨List.Pairwise.nil,fun p hp=>by cases hp⟩
 | (i,o)::l,h=>by
  simp only [ZhG,Tm] at h;obtain ⟨h1,h2⟩:=Wt h.2;refine ⟨List.Pairwise.cons (ZcZ h.1.1) h1,fun p hp=>?_⟩;rcases Tv.1 hp with rfl | hp
  ·exact ZbP h.1.2
  exact h2 p hp
def JC {cs:List (Nat×Oper)}:∀{n:Nat},ZhH cs n=true->∀k,k<n->∃p∈cs,p.1=k
 | 0,_,k,hk=>oM
 | n+1,h,k,hk=>by
  simp only [ZhH,Tm,List.any_eq_true] at h
  by_cases mc:k=n
  ·obtain ⟨p,hp,hb⟩:=h.1;exact ⟨p,hp,by rw [mc];exact Tp hb⟩
  exact JC h.2 k oM
def WV {ms:List Nat}:∀{l:List (Nat×Oper)},Za4 ms l=true->∀p∈l,ms.getD p.1 0=Jf ms p.2.after.toList 0
 | [],_,p,hp=>by cases hp
 | (i,o)::l,h,p,hp=>by
  simp only [Za4,Tm] at h;rcases Tv.1 hp with rfl | hp
  ·exact Tp h.1
  exact WV h.2 p hp
def Vi {ms:List Nat} {x:Nat}:∀{l:List Edge} {s:Nat},(Jf ms l s).testBit x=true->s.testBit x=true\/∃e∈l,Region.binds .any e=true/\(e.on=x\/anc ms x e.on=true)
 | [],s,h=>.inl h
 | e::l,s,h=>by
  unfold Jf at h
  cases hb:Region.binds .any e with
  | true =>
   rw [hb] at h;rcases Vi h with h1 | ⟨e',he',h1⟩
   ·rw [Nat.testBit_or,Nat.testBit_or,Sm,Sm] at h1;rcases h1 with (h1 | h1) | h1
    ·exact .inl h1
    ·rw [Nat.testBit_two_pow] at h1;exact .inr ⟨e,sM,hb,.inl (by simpa using h1)⟩
    exact .inr ⟨e,sM,hb,.inr h1⟩
   exact .inr ⟨e',TA _ he',h1⟩
  | false =>
  rw [hb] at h;rcases Vi h with h1 | ⟨e',he',h1⟩
  ·exact .inl h1
  exact .inr ⟨e',TA _ he',h1⟩
def ZhI {left:List (Nat×Oper)}:∀{l:List (Nat×Oper)} {p:Nat×Oper},ZfY left l=some p->p∈l
 | [],p,h=>by cases h
 | (i,o)::l,p,h=>by
  unfold ZfY at h
  split at h
  ·cases h;simp
  exact TA _ (ZhI h)
def Yy {i:Nat}:∀{l:List (Nat×Oper)} {p:Nat×Oper},p∈Yr i l->p∈l
 | [],p,h=>by cases h
 | (j,o)::l,p,h=>by
  unfold Yr at h
  split at h
  ·exact TA _ h
  rcases Tv.1 h with rfl | h
  ·simp
  exact TA _ (Yy h)
def UP:∀{n:Nat} {l:List (Nat×Oper)} {p:Nat×Oper},p∈V3 n l->p∈l
 | 0,l,p,h=>h
 | n+1,[],p,h=>by cases h
 | n+1,x::l,p,h=>by
  unfold V3 at h
  split at h
  ·rename_i i o hp
   rcases Tv.1 h with rfl | h
   ·exact ZhI hp
   exact Yy (UP h)
  rcases Tv.1 h with rfl | h
  ·simp
  exact TA _ (UP h)
def XK:∀{l:List Oper} {i:Nat} {p:Nat×Oper},p∈ZK i l->i<=p.1/\l[p.1 - i]?=some p.2
 | [],i,p,h=>by cases h
 | o::l,i,p,h=>by
  unfold ZK at h
  rcases Tv.1 h with rfl | h
  ·simp
  obtain ⟨h1,h2⟩:=XK h;refine ⟨oM,?_⟩;rw [show p.1 - i=(p.1 - (i+1))+1 by omega];simpa using h2
def Zn7 {ops:List Oper} {p:Nat×Oper} (h:p∈Zht ops):ops[p.1]?=some p.2:=by
 have:=XK (UP h);simpa using this.2
section
variable {G:GE} {C:Cx} {e0 e:Env} {σ0 σ:St} {w0 w:World} {a:Act} {f:Frame} {Q:PQ} {ro:Option Nat} {n:Nat} {ds:Nat×List Deferred×Bool} {N:Nat} {Z:Array Value->Prop}
def ZhJ (hC:CxOK G C ro e0 σ0 w0) (hM:CxMono C) {ops:Array Oper} (hd:∀o,o∈ops->∀d,o.dst=some d->d<N/\∀t v,Z t->Z (t.setIfInBounds d v)) {ms:List Nat} (y3:∀i o,ops[i]?=some o->ms.getD i 0=Jf ms o.after.toList 0) :
  ∀(k:Nat) (l:List (Nat×Oper)),l.length=k->(∀p∈l,ops[p.1]?=some p.2)->l.Pairwise (ZrA ops.toList ms)->(∀p∈l,∀e∈p.2.after.toList,Region.binds .any e=true->e.on<ops.size/\e.on≠p.1) ->
  ∀{listed:Array Bool},listed.size=ops.size->(∀k,k<ops.size->(listed.getD k false=true↔∀p∈l,p.1≠k))->(∀j,(∀p∈l,p.1≠j)->∀p∈l,anc ms p.1 j=false) ->
  ∀{ctx:List Ld} {e:Env} {σ:St} {w:World} {a:Act} {f:Frame},SRel G e σ w->FRel G e σ w f a.tmps->Later e0 σ0 w0 e σ w->a.tmps.size=N->Marks ds e σ w a.defers->Z a.tmps->WP C ops.toList ms Q l ctx f σ ->
  wpAnyIn (fw ro) n G.P .any ops (ZP G e0 σ0 w0 ds N Z Q) k listed a w
 | 0,l,hl,bw,hp,hed,listed,hsz,dt,hdown,ctx,e,σ,w,a,f,hS,hF,hL,hN,bc,hZ,h=>by
  have pr:l=[]:=Sr.1 hl;exact mq57
 | k+1,l,hl,bw,hp,hed,listed,hsz,dt,hdown,ctx,e,σ,w,a,f,hS,hF,hL,hN,bc,hZ,h=>by
  have lb:∀i b,i<ops.size->listed.getD i b=listed.getD i false:=fun i b hi=>by
   exact mq85
  refine ⟨fun hr=>?_,fun i hi=>?_⟩
  ·cases l with
   | nil=>simp at hl
   | cons x l =>
   exfalso;have hx:=bw x sM;have ab:=(To.1 hx).1;have:x.1∈Region.ready .any ops listed:=by
    refine mem_ready.2 ⟨?_,x.2,hx,fun ed jb hb=>?_⟩
    ·rw [lb _ _ ab]
     cases hv:listed.getD x.1 false with
     | false=>rfl
     | true=>exact absurd rfl ((dt x.1 ab).1 hv x sM)
    have h1:=hed x sM ed (TN.1 jb) hb;refine (dt ed.on h1.1).2 fun p ja=>?_
    exact mq130
   rw [hr] at this;cases this
  obtain ⟨h1,o,ho,cd⟩:=mem_ready.1 hi;have ab:=(To.1 ho).1;rw [lb _ _ ab] at h1;have cy:∃p∈l,p.1=i:=by
   exact mq146
  obtain ⟨p,ff,rfl⟩:=cy;have um:p.2=o:=by have:=bw p ff;rw [ho] at this;exact (Option.some.inj this).symm
  obtain ⟨pre,post,rfl⟩:=List.append_of_mem ff;obtain ⟨i,o'⟩:=p;dsimp only at um ho ab h1 hi;subst um;have pu:=List.pairwise_append.1 hp;have ge:=(List.pairwise_cons.1 pu.2.1)
  have gf:∀x∈pre++(i,o')::post,anc ms x.1 i=false:=fun x hx=>by
   cases uo:anc ms x.1 i with
   | false=>rfl
   | true =>
   exfalso;unfold anc at uo
   rw [y3 i o' ho] at uo;rcases Vi uo with h2 | ⟨ed,jb,hb,h2⟩
   ·simp at h2
   have uq:=cd ed (TN.2 jb) hb;have ai:=(dt ed.on (hed _ ff ed jb hb).1).1 uq;rcases h2 with h2 | h2
   ·exact ai x hx h2.symm
   rw [hdown ed.on ai x hx] at h2;cases h2
  have jc:=Zjf hM pre (fun x hx=>by
   have hA:=pu.2.2 x hx (i,o') sM;have mh:=gf x (by simp [hx]);rcases hA.2.2 with h2 | h2
   ·rw [mh] at h2;cases h2
   exact ⟨h2.1,h2.2,mh⟩) ctx f σ h
  have bi:=VG (ro:=ro) (n:=n) hC hS hF hL hN bc hZ (ops:=ops) (hd o' (Sd ho)) jc;have ur:∀x∈pre++post,x.1≠i:=fun x hx=>by
   exact mq165
  have ax:∀x,x∈pre++post->x∈pre++(i,o')::post:=fun x hx=>by
   rcases TJ.1 hx with hx | hx <;> simp [hx]
  have next:∀a' w',KRel G e0 σ0 w0 ds N Z (fun f' σ'=>∃c,WP C ops.toList ms Q (pre++post) c f' σ') a' w'->wpAnyIn (fw ro) n G.P .any ops (ZP G e0 σ0 w0 ds N Z Q) k (listed.setIfInBounds i true) a' w':=fun a' w' ⟨f',e',σ',⟨c,fm⟩,h2,h3,h4,h5,h6,h7⟩=>by
   refine ZhJ hC hM hd y3 k (pre++post) (by simp at hl |-;omega) (fun x hx=>bw x (ax x hx)) (List.pairwise_append.2 ⟨pu.1,ge.2,fun x hx y hy=>pu.2.2 x hx y (TA _ hy)⟩)
    (fun x hx=>hed x (ax x hx)) (by simpa using hsz) (fun k hk=>?_) (fun j hj x hx=>?_) h2 h3 h4 h5 h6 h7 fm
   ·by_cases oz:k=i
    ·subst oz;have f8:k<listed.size:=by rw [hsz];exact ab
     have:(listed.setIfInBounds k true).getD k false=true:=by simp [Array.getD,f8]
     simp only [this,true_iff];exact ur
    have:(listed.setIfInBounds i true).getD k false=listed.getD k false:=getD_set_ne false (Ne.symm oz);rw [this,dt k hk]
    constructor
    ·exact fun hh x hx=>hh x (ax x hx)
    intro hh x hx
    rcases TJ.1 hx with hx | hx
    ·exact hh x (by simp [hx])
    rcases Tv.1 hx with rfl | hx
    ·exact fun e=>oz e.symm
    exact hh x (by simp [hx])
   by_cases hji:j=i
   ·subst hji;exact gf x (ax x hx)
   refine hdown j (fun y hy=>?_) x (ax x hx);exact mq122
  have hK:∀a' w',KRel G e0 σ0 w0 ds N Z (fun f' σ'=>match Y0 o'.op with | true=>Zrs ms i σ.bx σ'.bx ctx (WP C ops.toList ms Q (pre++post) ctx f' σ') | false=>WP C ops.toList ms Q (pre++post) (Ud C.T o' i f ctx) f' σ') a' w' ->
    KRel G e0 σ0 w0 ds N Z (fun f' σ'=>∃c,WP C ops.toList ms Q (pre++post) c f' σ') a' w':=fun a' w' ⟨f',e',σ',hk,au⟩=>by
   refine ⟨f',e',σ',?_,au⟩
   cases hE:Y0 o'.op with
   | true=>rw [hE] at hk;exact ⟨_,(chkL_iff.1 hk).2⟩
   | false=>rw [hE] at hk;exact ⟨_,hk⟩
  exact mq86
def Zmk (hC:CxOK G C ro e0 σ0 w0) (hM:CxMono C) {ops:Array Oper} (hd:∀o,o∈ops->∀d,o.dst=some d->d<N/\∀t v,Z t->Z (t.setIfInBounds d v)) (ao:Zn6 ops.toList=true)
  (hS:SRel G e σ w) (hF:FRel G e σ w f a.tmps) (hL:Later e0 σ0 w0 e σ w) (hN:a.tmps.size=N) (bc:Marks ds e σ w a.defers) (hZ:Z a.tmps) (h:WP C ops.toList (W5 ops.toList []) Q (Zht ops.toList) [] f σ) :
  wpAnyIn (fw ro) n G.P .any ops (ZP G e0 σ0 w0 ds N Z Q) ops.size (Array.replicate ops.size false) a w:=by
 simp only [Zn6,Tm] at ao;obtain ⟨⟨⟨h1,h2⟩,h3⟩,h4⟩:=ao;have aa:(Zht ops.toList).length=ops.size:=by simpa using Tp h1
 have kg:∀k,k<ops.size->∃p∈Zht ops.toList,p.1=k:=fun k hk=>JC h3 k (by simpa using hk)
 have bw:∀p∈Zht ops.toList,ops[p.1]?=some p.2:=fun p hp=>by have:=Zn7 hp;simpa using this
 refine ZhJ hC hM hd (ms:=W5 ops.toList []) (fun i o ho=>?_) _ (Zht ops.toList) aa bw (Wt h2).1 (fun p hp e he hb=>by have:=(Wt h2).2 p hp e he hb;simpa using this) sM (fun k hk=>?_) (fun j hj p hp=>?_) hS hF hL hN bc hZ h
 ·obtain ⟨p,hp,rfl⟩:=kg i (To.1 ho).1;have:=bw p hp;rw [ho] at this
  cases this
  exact WV h4 p hp
 ·exact mq111
 by_cases l9:j<ops.size
 ·obtain ⟨q,hq,he⟩:=kg j l9;exact absurd he (hj q hq)
 exact mq63
end
end Go.PM
end

section
namespace Go.PM
section
variable {G:GE} {e e':Env} {σ σ':St} {w w':World}
inductive NV (n:Nat) (as:List (Option Nat)):PV->PV->Prop
 | sl (t e:Nat) (rows:List (List D)) (j:Nat) (h:as[j]?=some (some t)):NV n as (.sl t e rows) (.sl j e rows)
 | nils (e j:Nat) (h:as[j]?=some none):NV n as (.nils e) (.sl j e [])
 | cl (v:PV) (h:bnd n v=true):NV n as v (clean v)
 | un (v:PV) (h:bnd n v=false):NV n as v .undef
 | clN (v:PV) (h:bnd n v=true):NV n as v (cleanN v)
structure NInv (S tk:List Nat) (as:List (Option Nat)):Prop where
 sub:∀t,t∈tk->t∈S
 mem:∀(i t:Nat),as[i]?=some (some t)->t∈S/\t∉tk
 inj:∀(i j t:Nat),as[i]?=some (some t)->as[j]?=some (some t)->i=j
def NV.ext {n:Nat} {as as':List (Option Nat)} {x y:PV} (h:NV n as x y) (hx:∃m,as'=as++m):NV n as' x y:=by
 obtain ⟨m,rfl⟩:=hx;have:∀(j:Nat) (q:Option Nat),as[j]?=some q->(as++m)[j]?=some q:=fun j q hq=>by
  rw [TU (Tk.1 hq).1];exact hq
 cases h with
 | sl t e rows j h=>exact .sl t e rows j (this _ _ h)
 | nils e j h=>exact .nils e j (this _ _ h)
 | cl _ h=>exact .cl _ h
 | un _ h=>exact .un _ h
 | clN _ h=>exact .clN _ h
def Wu {t x:Nat}:∀{l:List Nat},x∈Jd t l->x∈l/\x≠t
 | [],h=>by simp [Jd] at h
 | y::l,h=>by
  simp only [Jd] at h;split at h
  ·exact ⟨TA _ (Wu h).1,(Wu h).2⟩
  rename_i hb
  rcases Tv.1 h with rfl | h
  ·exact ⟨sM,fun e=>by subst e;simp at hb⟩
  exact ⟨TA _ (Wu h).1,(Wu h).2⟩
def Uj {as as' as'':List (Option Nat)} (h:∃m,as'=as++m) (h':∃m,as''=as'++m):∃m,as''=as++m:=by
 obtain ⟨m,rfl⟩:=h;obtain ⟨m',rfl⟩:=h';exact ⟨m++m',by rw [Tn]⟩
def NInv.add {S tk:List Nat} {as:List (Option Nat)} (h:NInv S tk as) {t:Nat} (ht:t∈tk):NInv S (Jd t tk) (as++[some t]):=by
 have key:∀(i s:Nat),(as++[some t])[i]?=some (some s)->(as[i]?=some (some s))\/(i=as.length/\s=t):=fun i s hi=>by
  by_cases ab:i<as.length
  ·rw [TU ab] at hi;exact .inl hi
  rw [T5 oM] at hi;have:=(Tk.1 hi).1;simp only [TH] at this;have h0:i - as.length=0:=oM;rw [h0] at hi;simp at hi;exact .inr ⟨oM,hi.symm⟩
 refine ⟨fun x hx=>h.sub x (Wu hx).1,fun i s hi=>?_,fun i j s hi hj=>?_⟩
 ·rcases key i s hi with h1 | ⟨_,rfl⟩
  ·exact ⟨(h.mem i s h1).1,fun hm=>(h.mem i s h1).2 (Wu hm).1⟩
  exact ⟨h.sub _ ht,fun hm=>(Wu hm).2 rfl⟩
 rcases key i s hi with h1 | ⟨h1,rfl⟩ <;> rcases key j s hj with h2 | ⟨h2,h3⟩
 ·exact h.inj i j s h1 h2
 ·subst h3;exact absurd ht (h.mem i _ h1).2
 ·exact absurd ht (h.mem j _ h2).2
 omega
def NInv.nil {S tk:List Nat} {as:List (Option Nat)} (h:NInv S tk as):NInv S tk (as++[none]):=by
 have key:∀(i s:Nat),(as++[none])[i]?=some (some s)->(as[i]?=some (some s)):=fun i s hi=>by
  by_cases ab:i<as.length
  ·rw [TU ab] at hi;exact hi
  rw [T5 oM] at hi;have:=(Tk.1 hi).1;simp only [TH] at this;have h0:i - as.length=0:=oM;rw [h0] at hi;simp at hi
 exact ⟨h.sub,fun i s hi=>h.mem i s (key i s hi),fun i j s hi hj=>h.inj i j s (key i s hi) (key j s hj)⟩
def Zu3 {n:Nat} {S tk:List Nat} {as:List (Option Nat)} (hI:NInv S tk as) {v:PV} {K:PV->List Nat->Nat->Prop} (h:ZuX n tk as.length v K) :
  ∃v' tk' as',K v' tk' as'.length/\(∃m,as'=as++m)/\NInv S tk' as'/\NV n as' v v':=by
 have gen:∀v,(match bnd n v with | true=>U8 (clean v) fun v=>K v tk as.length | false=>K .undef tk as.length:Prop)->∃v' tk' as',K v' tk' as'.length/\(∃m,as'=as++m)/\NInv S tk' as'/\NV n as' v v':=fun v h=>by
  split at h
  ·rename_i hb;rw [Z7] at h;exact ⟨_,tk,as,h,⟨[],sM⟩,hI,.cl v hb⟩
  rename_i hb;exact ⟨_,tk,as,h,⟨[],sM⟩,hI,.un v hb⟩
 cases v with
 | sl t el rows =>
  simp only [ZuX] at h;exact mq94
 | nils el=>exact ⟨_,tk,as++[none],by simpa [ZuX] using h,⟨[none],rfl⟩,hI.nil,.nils el _ sM⟩
 | _=>exact gen _ h
def Zc0 {n:Nat} {S:List Nat}:∀{vs:List PV} {tk:List Nat} {as:List (Option Nat)} (_:NInv S tk as) {K:List PV->List Nat->Nat->Prop},Zug n vs tk as.length K ->
  ∃vs' tk' as',K vs' tk' as'.length/\(∃m,as'=as++m)/\NInv S tk' as'/\vs'.length=vs.length/\∀(i:Nat) (x y:PV),vs[i]?=some x->vs'[i]?=some y->NV n as' x y
 | [],tk,as,hI,K,h=>⟨[],tk,as,h,⟨[],sM⟩,hI,rfl,fun i x y hx=>by simp at hx⟩
 | v::vs,tk,as,hI,K,h=>by
  obtain ⟨v',tk1,as1,h1,dv,mi,hv⟩:=Zu3 hI h;obtain ⟨vs',tk2,as2,h2,ca,ga,hl,bv⟩:=Zc0 mi h1;exact mq45
def ZkH {n:Nat} {S tk:List Nat} {as:List (Option Nat)} (hI:NInv S tk as) {v:PV} {K:PV->List Nat->Nat->Prop} (h:ZfZ n tk as.length v K) :
  ∃v' tk' as',K v' tk' as'.length/\(∃m,as'=as++m)/\NInv S tk' as'/\NV n as' v v':=by
 have gen:∀v,(match bnd n v with | true=>U8 (cleanN v) fun v=>K v tk as.length | false=>K .undef tk as.length:Prop)->∃v' tk' as',K v' tk' as'.length/\(∃m,as'=as++m)/\NInv S tk' as'/\NV n as' v v':=fun v h=>by
  split at h
  ·rename_i hb;rw [Z7] at h;exact ⟨_,tk,as,h,⟨[],sM⟩,hI,.clN v hb⟩
  rename_i hb;exact ⟨_,tk,as,h,⟨[],sM⟩,hI,.un v hb⟩
 cases v with
 | sl t el rows =>
  simp only [ZfZ] at h;exact mq94
 | nils el=>exact ⟨_,tk,as++[none],by simpa [ZfZ] using h,⟨[none],rfl⟩,hI.nil,.nils el _ sM⟩
 | _=>exact gen _ h
def Zf9 {n:Nat} {S:List Nat}:∀{vs:List PV} {tk:List Nat} {as:List (Option Nat)} (_:NInv S tk as) {K:List PV->List Nat->Nat->Prop},Zl6 n vs tk as.length K ->
  ∃vs' tk' as',K vs' tk' as'.length/\(∃m,as'=as++m)/\NInv S tk' as'/\vs'.length=vs.length/\∀(i:Nat) (x y:PV),vs[i]?=some x->vs'[i]?=some y->NV n as' x y
 | [],tk,as,hI,K,h=>⟨[],tk,as,h,⟨[],sM⟩,hI,rfl,fun i x y hx=>by simp at hx⟩
 | v::vs,tk,as,hI,K,h=>by
  obtain ⟨v',tk1,as1,h1,dv,mi,hv⟩:=ZkH hI h;obtain ⟨vs',tk2,as2,h2,ca,ga,hl,bv⟩:=Zf9 mi h1;exact mq45
inductive NB (n:Nat) (as:List (Option Nat)):Box->Box->Prop
 | cells (t:TypeId) (cs cs':List PV) (hl:cs'.length=cs.length) (h:∀(i:Nat) (x y:PV),cs[i]?=some x->cs'[i]?=some y->NV n as x y):NB n as (.cells t cs) (.cells t cs')
 | iter (s:List UInt8) (p:Nat):NB n as (.iter s p) (.iter s p)
 | loop (st:LoopState) (pd:Option Code) (r:Loop):NB n as (.loop st pd r) (.loop st pd r)
 | dmap (m:List (List UInt8×MV)):NB n as (.dmap m) (.dmap m)
 | smap (el:Nat) (m:List (List UInt8×List (List D))):NB n as (.smap el m none) (.smap el m none)
 | map (cs cs':List PV) (bn:List Nat) (ck:Nat) (hl:cs'.length=cs.length) (h:∀(i:Nat) (x y:PV),cs[i]?=some x->cs'[i]?=some y->NV n as x y):NB n as (.map cs bn ck) (.map cs' bn ck)
def NB.ext {n:Nat} {as as':List (Option Nat)} {x y:Box} (h:NB n as x y) (hx:∃m,as'=as++m):NB n as' x y:=by
 cases h with
 | cells t cs cs' hl h=>exact .cells t cs cs' hl fun i x y h1 h2=>(h i x y h1 h2).ext hx
 | iter s p=>exact .iter s p
 | loop st pd r=>exact .loop st pd r
 | dmap m=>exact .dmap m
 | smap el m=>exact .smap el m
 | map cs cs' bn ck hl h=>exact .map cs cs' bn ck hl fun i x y h1 h2=>(h i x y h1 h2).ext hx
def W7 {n:Nat} {S:List Nat}:∀{m:Nat} {bs:List Box} {tk:List Nat} {as:List (Option Nat)} (_:NInv S tk as) {K:List Box->List Nat->Nat->Prop},Zep n m bs tk as.length K ->
  ∃bs' tk' as',K bs' tk' as'.length/\(∃m,as'=as++m)/\NInv S tk' as'/\bs'.length=m/\m<=bs.length/\∀(i:Nat) (x y:Box),bs[i]?=some x->bs'[i]?=some y->NB n as' x y
 | 0,bs,tk,as,hI,K,h=>⟨[],tk,as,by simpa [Zep] using h,⟨[],sM⟩,hI,rfl,Se _,fun i x y _ hy=>by simp at hy⟩
 | m+1,[],tk,as,hI,K,h=>h.elim
 | m+1,.cells t cs::bs,tk,as,hI,K,h=>by
  obtain ⟨cs',tk1,as1,h1,dv,mi,cg,hv⟩:=Zc0 hI h;obtain ⟨bs',tk2,as2,h2,ca,ga,hl,hm,bv⟩:=W7 mi h1;refine ⟨.cells t cs'::bs',tk2,as2,h2,Uj dv ca,ga,by simp [hl],sO,fun i x y hx hy=>?_⟩
  cases i with
  | zero=>simp at hx hy;subst hx;subst hy;exact .cells t cs cs' cg fun i x y h1 h2=>(hv i x y h1 h2).ext ca
  | succ i=>exact bv i x y (by simpa using hx) (by simpa using hy)
 | m+1,.iter s p::bs,tk,as,hI,K,h=>by
  obtain ⟨bs',tk2,as2,h2,ca,ga,hl,hm,bv⟩:=W7 hI (K:=fun l tk k=>K (.iter s p::l) tk k) h;refine ⟨.iter s p::bs',tk2,as2,h2,ca,ga,by simp [hl],sO,fun i x y hx hy=>?_⟩
  cases i with
  | zero=>simp at hx hy;subst hx;subst hy;exact .iter s p
  | succ i=>exact bv i x y (by simpa using hx) (by simpa using hy)
 | m+1,.loop st pd r::bs,tk,as,hI,K,h=>by
  obtain ⟨bs',tk2,as2,h2,ca,ga,hl,hm,bv⟩:=W7 hI (K:=fun l tk k=>K (.loop st pd r::l) tk k) h;refine ⟨.loop st pd r::bs',tk2,as2,h2,ca,ga,by simp [hl],sO,fun i x y hx hy=>?_⟩
  cases i with
  | zero=>simp at hx hy;subst hx;subst hy;exact .loop st pd r
  | succ i=>exact bv i x y (by simpa using hx) (by simpa using hy)
 | m+1,.dmap c::bs,tk,as,hI,K,h=>by
  obtain ⟨bs',tk2,as2,h2,ca,ga,hl,hm,bv⟩:=W7 hI (K:=fun l tk k=>K (.dmap c::l) tk k) h;refine ⟨.dmap c::bs',tk2,as2,h2,ca,ga,by simp [hl],sO,fun i x y hx hy=>?_⟩
  cases i with
  | zero=>simp at hx hy;subst hx;subst hy;exact .dmap c
  | succ i=>exact bv i x y (by simpa using hx) (by simpa using hy)
 | m+1,.smap el c none::bs,tk,as,hI,K,h=>by
  obtain ⟨bs',tk2,as2,h2,ca,ga,hl,hm,bv⟩:=W7 hI (K:=fun l tk k=>K (.smap el c none::l) tk k) h;refine ⟨.smap el c none::bs',tk2,as2,h2,ca,ga,by simp [hl],sO,fun i x y hx hy=>?_⟩
  cases i with
  | zero=>simp at hx hy;subst hx;subst hy;exact .smap el c
  | succ i=>exact bv i x y (by simpa using hx) (by simpa using hy)
 | m+1,.smap _ _ (some _)::bs,tk,as,hI,K,h=>h.elim
 | m+1,.map cs bn ck::bs,tk,as,hI,K,h=>by
  obtain ⟨cs',tk1,as1,h1,dv,mi,cg,hv⟩:=Zc0 hI h;obtain ⟨bs',tk2,as2,h2,ca,ga,hl,hm,bv⟩:=W7 mi h1;refine ⟨.map cs' bn ck::bs',tk2,as2,h2,Uj dv ca,ga,by simp [hl],sO,fun i x y hx hy=>?_⟩
  cases i with
  | zero=>simp at hx hy;subst hx;subst hy;exact .map cs cs' bn ck cg fun i x y h1 h2=>(hv i x y h1 h2).ext ca
  | succ i=>exact bv i x y (by simpa using hx) (by simpa using hy)
structure Drop (n:Nat) (e:Env) (σ:St) (e':Env) (σ':St):Prop where
 le:n<=σ.bx.length
 len:σ'.bx.length=n
 beta:e'.β=e.β
 X:e'.X=e.X
 H:e'.H=e.H
 okc:∀b off,okc e σ b off->okc e' σ' b off
 tok:∀t,t∈σ'.tk->∀p,e'.M t=some p->∃t0,t0∈σ.tk/\e.M t0=some p
def Later.drop {e1:Env} {σ1:St} {w1:World} {n:Nat} (h:Later e1 σ1 w1 e σ w) (hd:Drop n e σ e' σ') (hn:σ1.bx.length<=n):Later e1 σ1 w1 e' σ' w where
 len:=by rw [hd.len];exact hn
 beta:=by rw [hd.beta];exact h.beta
 X:=fun b off hx=>by rw [hd.X];exact h.X b off hx
 pres:=fun b off u hu ho=>let ⟨h1,h2⟩:=h.pres b off u hu ho;⟨hd.okc b off h1,h2⟩
 blocks:=h.blocks
 size:=h.size
 os:=h.os
 tape:=h.tape
 output:=h.output
 fresh:=fun i h1 h2=>by rw [hd.len] at h2;rw [hd.beta];exact h.fresh i h1 (TF h2 hd.le)
 ftok:=fun t ht p hp=>let ⟨t0,h0,h1⟩:=hd.tok t ht p hp;h.ftok t0 h0 p h1
 fhid:=fun b hb=>h.fhid b (by rw [<- hd.H];exact hb)
def Marks.drop {lo:Nat×List Deferred×Bool} {n:Nat} {l:List Deferred} (h:Marks lo e σ w l) (hd:Drop n e σ e' σ'):Marks lo e' σ' w l:=by
 obtain ⟨h0,rs,h1,et,h2,h3⟩:=h;refine ⟨h0,rs,h1,et,h2,fun r hr=>?_⟩;obtain ⟨g1,g2,g3,g4,g5⟩:=h3 r hr;refine ⟨g1,g2,fun i hi=>?_,fun t ht p hp=>?_,by rw [hd.H];exact g5⟩
 ·rw [hd.beta];rw [hd.len] at hi;exact g3 i (TF hi hd.le)
 obtain ⟨t0,h0,mb⟩:=hd.tok t ht p hp;exact g4 t0 h0 p mb
def mem_toks {t:Nat}:∀{k:Nat},t∈toks k↔t<k
 | 0=>by simp [toks]
 | k+1=>by simp only [toks,Tv,mem_toks];omega
def Env.re (e:Env) (as:List (Option Nat)):Env:={ e with M:=fun j=>(as[j]?.join).bind e.M }
def JD {as:List (Option Nat)} {j:Nat} {p:Nat×Nat} (h:(e.re as).M j=some p):∃t,as[j]?=some (some t)/\e.M t=some p:=by
 simp only [Env.re] at h
 cases hj:as[j]? with
 | none=>rw [hj] at h;simp at h
 | some q =>
 cases q with
 | none=>rw [hj] at h;simp at h
 | some t=>rw [hj] at h;exact ⟨t,rfl,by simpa using h⟩
def Zc1 {n:Nat} (hn:n<=σ.bx.length) {as:List (Option Nat)} {tk:List Nat} (hI:NInv σ.tk tk as) {bs:List Box} (hb:bs.length=n):Drop n e σ (e.re as) ⟨bs,toks as.length,as.length⟩ where
 le:=hn
 len:=hb
 beta:=rfl
 X:=rfl
 H:=rfl
 okc:=fun b off ho=>⟨ho.1,fun i hi=>ho.2.1 i (TF hi (by rw [show (St.mk bs (toks as.length) as.length).bx.length=n from hb];exact hn)),fun t ht p hp uf=>by
  obtain ⟨t0,h1,h2⟩:=JD hp;exact ho.2.2.1 t0 (hI.mem _ _ h1).1 p h2 uf,ho.2.2.2⟩
 tok:=fun t ht p hp=>by
  obtain ⟨t0,h1,h2⟩:=JD hp;exact ⟨t0,(hI.mem _ _ h1).1,h2⟩
def NV.rel {n:Nat} (hn:n<=σ.bx.length) {as:List (Option Nat)} {tk:List Nat} (hI:NInv σ.tk tk as) {bs:List Box} (hb:bs.length=n) {x y:PV} {v:Value} (h:NV n as x y) (hv:VRel G e σ w x v) :
  VRel G (e.re as) ⟨bs,toks as.length,as.length⟩ w y v:=by
 have hd:=Zc1 (e:=e) hn hI hb;have ab:∀(j:Nat) (q:Option Nat),as[j]?=some q->j<as.length:=fun j q hq=>(Tk.1 hq).1
 cases h with
 | sl t el rows j h =>
  cases hv with
  | sl _ _ _ _ lm co ht =>
  refine .sl j el rows v (ab _ _ h) (co.mono fun b off u hu ho=>⟨hd.okc b off ho,hu⟩) fun _=>?_
  have hM:(e.re as).M j=e.M t:=by simp [Env.re,h]
  rcases ht (hI.mem _ _ h).1 with ⟨h1,h2,h3⟩ | ⟨sz,h1,h2,h3,b,off,cap,cs,ty,fz,h4,h5,h6,h7,h8,h9,h10⟩
  ·exact .inl ⟨h1,h2,hM.trans h3⟩
  exact .inr ⟨sz,h1,h2,h3,b,off,cap,cs,ty,fz,h4,h5,h6,h7,h8,h9,hM.trans h10⟩
 | nils el j h =>
  cases hv with
  | nils =>
  refine .sl j el [] _ (ab _ _ h) .slnil fun _=>.inl ⟨rfl,rfl,?_⟩
  simp [Env.re,h]
 | cl _ h=>exact VRel.clean (e:=e) (e':=e.re as) (σ:=σ) (σ':=⟨bs,toks as.length,as.length⟩) (w:=w) (w':=w) (n:=n) (by show n<=bs.length;omega) (fun _ _=>rfl) (fun b off u hu ho=>⟨hd.okc b off ho,hu⟩) hv h
 | un _=>exact .undef v
 | clN _ h=>exact VRel.cleanN (e:=e) (e':=e.re as) (σ:=σ) (σ':=⟨bs,toks as.length,as.length⟩) (w:=w) (w':=w) (n:=n) (by show n<=bs.length;omega) (fun _ _=>rfl) (fun b off u hu ho=>⟨hd.okc b off ho,hu⟩) hv h
def Zga {n:Nat} (hS:SRel G e σ w) (hn:n<=σ.bx.length) {as:List (Option Nat)} {tk:List Nat} (hI:NInv σ.tk tk as) {bs:List Box} (hb:bs.length=n)
  (ma:∀(i:Nat) (x y:Box),σ.bx[i]?=some x->bs[i]?=some y->NB n as x y):SRel G (e.re as) ⟨bs,toks as.length,as.length⟩ w where
 inj:=fun i j hi hj h=>hS.inj i j (by simp only at hi;omega) (by simp only at hj;omega) h
 box:=fun i y hy=>by
  have hi:=(Tk.1 hy).1;simp only at hi;have hx:σ.bx[i]?=some σ.bx[i]:=Tb oM;have hB:=hS.box i _ hx;have hN:=ma i _ y hx hy;generalize σ.bx[i]=x at hB hN
  cases hN with
  | cells t cs cs' hl h =>
   obtain ⟨vs,h1,h2,h3⟩:=hB;refine ⟨vs,h1,by rw [hl];exact h2,fun k z u hz hu=>?_⟩;have hk:=(Tk.1 hz).1;have hx:cs[k]?=some cs[k]:=Tb oM;exact ⟨(h k _ z hx hz).rel hn hI hb (h3 k _ u hx hu).1,(h3 k _ u hx hu).2⟩
  | iter s p=>exact hB
  | loop st pd r=>exact hB
  | dmap m=>exact hB.dmapTo rfl fun d v hv=>by have q:VRel G _ _ _ (.d d) v:=(NV.cl (n:=n) (as:=as) (.d d) rfl).rel hn hI hb (VRel.d d v hv);cases q;assumption
  | smap el m=>exact hB.smap0 rfl (fun d v hv=>by have q:VRel G _ _ _ (.d d) v:=(NV.cl (n:=n) (as:=as) (.d d) rfl).rel hn hI hb (VRel.d d v hv);cases q;assumption) HKeep.rfl'
  | map cs cs' bn ck hl h=>exact hB.mapTo rfl hl fun i x y hx hy=>⟨fun v hv=>(h i x y hx hy).rel hn hI hb hv,fun d hd=>by subst hd;cases h i _ y hx hy with | cl _ _=>rfl | clN _ _=>rfl | un _ hu=>cases hu⟩
 low:=fun i hi=>hS.low i (by simp only at hi;omega)
 tkn:=fun t ht=>mem_toks.1 ht
 own:=fun t ht p hp=>by
  obtain ⟨t0,h1,h2⟩:=JD hp;obtain ⟨h3,h4,h5⟩:=hS.own t0 (hI.mem _ _ h1).1 p h2;exact ⟨h3,fun i hi=>h4 i (by simp only at hi;omega),h5⟩
 dis:=fun t t' ht kh ai p p' hp ja=>by
  obtain ⟨t0,h1,h2⟩:=JD hp;obtain ⟨t1,h3,h4⟩:=JD ja;exact hS.dis t0 t1 (hI.mem _ _ h1).1 (hI.mem _ _ h3).1 (fun h=>ai (hI.inj _ _ _ h1 (by rw [h];exact h3))) p p' h2 h4
 xlt:=hS.xlt
 hid:=fun b q hq=>by
  obtain ⟨k1,k2,k3,k4,k5⟩:=hS.hid b q hq;exact ⟨k1,k2,fun i hi=>k3 i (by simp only at hi;omega),fun t ht p hp=>by obtain ⟨t0,h1,h2⟩:=JD hp;exact k4 t0 (hI.mem _ _ h1).1 p h2,k5⟩
 xown:=fun t ht p hp=>by
  obtain ⟨t0,h1,h2⟩:=JD hp;exact hS.xown t0 (hI.mem _ _ h1).1 p h2
 glob:=hS.glob
 big:=hS.big
def ZEJ (S:List Nat) (tk:List Nat) (h:∀t,t∈tk->t∈S):NInv S tk []:=⟨h,fun i t h=>by simp at h,fun i j t h=>by simp at h⟩
def ZkI (hS:SRel G e σ w) {n:Nat} {vs:List PV} {K:List PV->St->Prop} (h:ZnC n vs σ K) :
  ∃vs' σ' e',K vs' σ'/\SRel G e' σ' w/\Drop n e σ e' σ'/\vs'.length=vs.length/\∀(i:Nat) (x y:PV) (u:Value),vs[i]?=some x->vs'[i]?=some y->VRel G e σ w x u->VRel G e' σ' w y u:=by
 obtain ⟨vs',tk1,as1,h1,dv,mi,hl,hv⟩:=Zc0 (as:=[]) (ZEJ σ.tk σ.tk fun _ h=>h) h;obtain ⟨bs,tk2,as2,h2,ca,ga,cp,hn,ma⟩:=W7 mi h1;exact ⟨vs',⟨bs,toks as2.length,as2.length⟩,e.re as2,h2,Zga hS hn ga cp ma,Zc1 hn ga cp,hl,fun i x y u hx hy hr=>((hv i x y hx hy).ext ca).rel hn ga cp hr⟩
inductive NVA (n:Nat) (as:List (Option Nat)):PV->PV->Prop
 | one (x y:PV) (h:NV n as x y):NVA n as x y
 | agg (cs cs':List PV) (hl:cs'.length=cs.length) (h:∀(i:Nat) (x y:PV),cs[i]?=some x->cs'[i]?=some y->NV n as x y):NVA n as (.agg cs) (.agg cs')
def NVA.ext {n:Nat} {as as':List (Option Nat)} {x y:PV} (h:NVA n as x y) (hx:∃m,as'=as++m):NVA n as' x y:=by
 cases h with
 | one _ _ h=>exact .one _ _ (h.ext hx)
 | agg cs cs' hl h=>exact .agg cs cs' hl fun i x y h1 h2=>(h i x y h1 h2).ext hx
def NVA.rel {n:Nat} (hn:n<=σ.bx.length) {as:List (Option Nat)} {tk:List Nat} (hI:NInv σ.tk tk as) {bs:List Box} (hb:bs.length=n) {x y:PV} {v:Value} (h:NVA n as x y) (hv:VRel G e σ w x v) :
  VRel G (e.re as) ⟨bs,toks as.length,as.length⟩ w y v:=by
 cases h with
 | one _ _ h=>exact h.rel hn hI hb hv
 | agg cs cs' hl h =>
 cases hv with
 | agg _ vs hs h2 h1 =>
 refine .agg cs' vs (by rw [hs,hl]) (fun i y u hy hu=>?_) h1;have hi:=(Tk.1 hy).1;rw [hl] at hi;have hx:=Tb hi;exact (h i _ y hx hy).rel hn hI hb (h2 i _ u hx hu)
def ZrB {n:Nat} {S tk:List Nat} {as:List (Option Nat)} (hI:NInv S tk as) {v:PV} {K:PV->List Nat->Nat->Prop} (h:Zl7 n tk as.length v K) :
  ∃v' tk' as',K v' tk' as'.length/\(∃m,as'=as++m)/\NInv S tk' as'/\NVA n as' v v':=by
 have gen:ZfZ n tk as.length v K->∃v' tk' as',K v' tk' as'.length/\(∃m,as'=as++m)/\NInv S tk' as'/\NVA n as' v v':=fun h=>by
  obtain ⟨v',tk',as',h1,h2,h3,h4⟩:=ZkH hI h;exact ⟨v',tk',as',h1,h2,h3,.one _ _ h4⟩
 cases v with
 | agg cs =>
  simp only [Zl7] at h;obtain ⟨cs',tk',as',h1,h2,h3,h4,h5⟩:=Zf9 hI h;exact ⟨_,tk',as',h1,h2,h3,.agg cs cs' h4 h5⟩
 | _=>exact gen h
def Zgb {n:Nat} {S:List Nat}:∀{vs:List PV} {tk:List Nat} {as:List (Option Nat)} (_:NInv S tk as) {K:List PV->List Nat->Nat->Prop},Zl8 n vs tk as.length K ->
  ∃vs' tk' as',K vs' tk' as'.length/\(∃m,as'=as++m)/\NInv S tk' as'/\vs'.length=vs.length/\∀(i:Nat) (x y:PV),vs[i]?=some x->vs'[i]?=some y->NVA n as' x y
 | [],tk,as,hI,K,h=>⟨[],tk,as,h,⟨[],sM⟩,hI,rfl,fun i x y hx=>by simp at hx⟩
 | v::vs,tk,as,hI,K,h=>by
  obtain ⟨v',tk1,as1,h1,dv,mi,hv⟩:=ZrB hI h;obtain ⟨vs',tk2,as2,h2,ca,ga,hl,bv⟩:=Zgb mi h1;exact mq45
def ZrC {md n:Nat} {S:List Nat} {vs:List PV} {tk:List Nat} {as:List (Option Nat)} (hI:NInv S tk as) {K:List PV->List Nat->Nat->Prop} (h:Zrt md n vs tk as.length K) :
  ∃vs' tk' as',K vs' tk' as'.length/\(∃m,as'=as++m)/\NInv S tk' as'/\vs'.length=vs.length/\∀(i:Nat) (x y:PV),vs[i]?=some x->vs'[i]?=some y->NVA n as' x y:=by
 unfold Zrt at h
 split at h
 ·obtain ⟨a,b,c,h1,h2,h3,h4,h5⟩:=Zc0 hI h;exact ⟨a,b,c,h1,h2,h3,h4,fun i x y h6 h7=>.one _ _ (h5 i x y h6 h7)⟩
 ·obtain ⟨a,b,c,h1,h2,h3,h4,h5⟩:=Zf9 hI h;exact ⟨a,b,c,h1,h2,h3,h4,fun i x y h6 h7=>.one _ _ (h5 i x y h6 h7)⟩
 exact Zgb hI h
def Zc2 (hS:SRel G e σ w) {ag:Bool} {n:Nat} {vs:List PV} {K:List PV->St->Prop} (h:Jg ag n vs σ K) :
  ∃vs' σ' e',K vs' σ'/\SRel G e' σ' w/\Drop n e σ e' σ'/\vs'.length=vs.length/\∀(i:Nat) (x y:PV) (u:Value),vs[i]?=some x->vs'[i]?=some y->VRel G e σ w x u->VRel G e' σ' w y u:=by
 cases ag with
 | false=>exact ZkI hS h
 | true =>
 obtain ⟨vs',tk1,as1,h1,dv,mi,hl,hv⟩:=Zgb (as:=[]) (ZEJ σ.tk σ.tk fun _ h=>h) h;obtain ⟨bs,tk2,as2,h2,ca,ga,cp,hn,ma⟩:=W7 mi h1;exact ⟨vs',⟨bs,toks as2.length,as2.length⟩,e.re as2,h2,Zga hS hn ga cp ma,Zc1 hn ga cp,hl,fun i x y u hx hy hr=>((hv i x y hx hy).ext ca).rel hn ga cp hr⟩
end
end Go.PM
end

section
namespace Go.PM
variable {G:GE} {e:Env} {σ:St} {w:World}
def Zgc {α:Type} {k:List UInt8} {v:α}:∀{m:List (List UInt8×α)},lkM k m=some v->∃j:Nat,m[j]?=some (k,v)
 | [],h=>by cases h
 | (x,u)::l,h=>by
  simp only [lkM] at h
  by_cases hk:k=x
  ·subst hk;simp at h;subst h;exact ⟨0,rfl⟩
  simp only [decide_eq_false hk] at h;obtain ⟨j,hj⟩:=Zgc h;exact ⟨j+1,by simpa using hj⟩
def Zgd {α:Type} {k:List UInt8}:∀{m:List (List UInt8×α)},lkM k m=none->∀(i:Nat) (x:List UInt8×α),m[i]?=some x->x.1≠k
 | [],_,i,x,h=>by simp at h
 | (y,u)::l,h,i,x,hx=>by
  simp only [lkM] at h
  by_cases hk:k=y
  ·subst hk;simp at h
  simp only [decide_eq_false hk] at h
  cases i with
  | zero=>simp at hx;subst hx;exact fun e=>hk e.symm
  | succ i=>exact Zgd h i x (by simpa using hx)
def Zn8 {α:Type} {m:List (List UInt8×α)} (h:(m.map (·.1)).Nodup) {i j:Nat} {x y:List UInt8×α} (hi:m[i]?=some x) (hj:m[j]?=some y) (hk:x.1=y.1):i=j:=by
 have h1:(m.map (·.1))[i]?=some x.1:=by rw [Tj,hi];rfl
 have h2:(m.map (·.1))[j]?=some x.1:=by rw [Tj,hj,hk];rfl
 have l1:=(Tk.1 h1).1;exact (List.getElem?_inj l1 h).1 (h1.trans h2.symm)
def Wa {fo:Option (List UInt8×PV)}:∀m:List (List UInt8×List (List D)),(VZ m fo).length=2 * m.length
 | []=>rfl
 | (x,v)::l=>by simp only [VZ,Td,Wa l];omega
def Zjg {α:Type} {k:List UInt8} {v:α}:∀{m:List (List UInt8×α)} {i:Nat} {x:List UInt8×α},(m.map (·.1)).Nodup->m[i]?=some x->(YB k v m)[i]?=some (x.1,match decide (x.1=k) with | true=>v | false=>x.2)
 | [],i,x,_,h=>by simp at h
 | (y,u)::l,i,x,hn,h=>by
  simp only [TD,List.nodup_cons] at hn;simp only [YB]
  by_cases hk:k=y
  ·subst hk;simp only [decide_true]
   cases i with
   | zero=>simp at h;subst h;simp
   | succ i =>
   have h:l[i]?=some x:=by simpa using h
   have ai:¬x.1=k:=fun e=>hn.1 (by rw [<- e];exact List.mem_map_of_mem (T1 h))
   simp only [TV,h,decide_eq_false ai]
  simp only [decide_eq_false hk]
  cases i with
  | zero =>
   simp at h;subst h;have ai:¬y=k:=fun e=>hk e.symm
   simp [ai]
  | succ i =>
  have h:l[i]?=some x:=by simpa using h
  simp only [TV];exact Zjg hn.2 h
def putM_len {α:Type} {k:List UInt8} {v u:α} {m:List (List UInt8×α)} (h:lkM k m=some u):(YB k v m).length=m.length:=by
 rcases ZcS (k:=k) (v:=v) m with ⟨_,h2⟩ | ⟨h1,_⟩
 ·simpa using congrArg List.length h2
 obtain ⟨j,hj⟩:=Zgc h;exact absurd (Ss.2 ⟨_,T1 hj,rfl⟩) h1
def Env.foc (e:Env) (t:Nat) (p:Option (Nat×Nat)):Env:={ e with M:=fun i=>if i=t then p else e.M i,H:=fun b=>match p with | none=>e.H b | some q=>if b=q.1 then none else e.H b }
def Zu4 {t:Nat} {p:Option (Nat×Nat)} {b:Nat} {q:(Nat×List UInt8)×Nat} (h:(e.foc t p).H b=some q):e.H b=some q/\∀r,p=some r->b≠r.1:=by
 simp only [Env.foc] at h
 cases p with
 | none=>exact ⟨h,fun r hr=>by cases hr⟩
 | some r =>
 simp only at h;split at h
 ·cases h
 rename_i ai;exact ⟨h,fun r' n9=>by cases n9;exact ai⟩
def ZkJ {t:Nat} {p:Option (Nat×Nat)} {b:Nat} {q:(Nat×List UInt8)×Nat} (h:e.H b=some q) (hn:∀r,p=some r->b≠r.1):(e.foc t p).H b=some q:=by
 simp only [Env.foc]
 cases p with
 | none=>exact h
 | some r=>simp only;rw [Tf (hn r rfl)];exact h
def Zjh (hS:SRel G e σ w) {b:Nat} {k:List UInt8} {K:St->Prop} (h:ZeX b k σ K):∃e1 σ1,K σ1/\Stepped e σ w e1 σ1 w/\SRel G e1 σ1 w:=by
 unfold ZeX at h
 split at h
 ·rename_i el m ef
  have cp:b<σ.bx.length:=(Tk.1 ef).1;obtain ⟨es,⟨bn,ck,h1,h2,h3,h4⟩,h5,h6,h7⟩:=hS.box b _ ef;have qr:es.size=m.length:=by rw [Wa] at h3;omega
  rcases h.ex with ⟨rows,pz,h⟩ | ⟨pz,h⟩
  ·obtain ⟨j,hj⟩:=Zgc pz;have pq:j<es.size:=by rw [qr];exact (Tk.1 hj).1
   obtain ⟨p,hO,hH⟩:=h5 j es[j] (k,rows) (TB pq) hj fun kv gu=>by cases gu
   simp only at hO hH;have qa:∀t,t∈σ.tk->(e.foc σ.nx p).M t=e.M t:=fun t ht=>by
    have:=hS.tkn t ht;simp only [Env.foc];rw [Tf oM]
   have jv:(e.foc σ.nx p).M σ.nx=p:=by simp [Env.foc]
   have ei:(σ.set b (.smap el m (some (k,.sl σ.nx el rows)))).bx.length=σ.bx.length:=by simp [St.set]
   have hst:Stepped e σ w (e.foc σ.nx p) { σ.set b (.smap el m (some (k,.sl σ.nx el rows))) with tk:=σ.nx::σ.tk,nx:=σ.nx+1 } w:={
    len:=by show σ.bx.length<=(σ.set b _).bx.length;rw [ei];exact Tz _
    beta:=fun _ _=>rfl
    X:=fun _ _ h=>h
    pres:=fun b' off u hu ho=>⟨⟨ho.1,fun i hi=>ho.2.1 i (by rw [<- ei];exact hi),fun t ht q hq od=>by
     rcases Tv.1 ht with rfl | ht
     ·rw [jv] at hq;have:=ho.2.2.2 _ (od ▸ hH q hq);exact this
     rw [qa t ht] at hq;exact ho.2.2.1 t ht q hq od,fun q hq=>ho.2.2.2 q (Zu4 hq).1⟩,hu⟩
    blocks:=fun _ _ _ _ _=>rfl
    size:=Tz _
    os:=rfl
    tape:=rfl
    output:=rfl
    fresh:=fun i g1 g2=>by have g2:i<(σ.set b (.smap el m (some (k,.sl σ.nx el rows)))).bx.length:=g2;rw [ei] at g2;omega
    ftok:=fun t ht q hq=>by
     rcases Tv.1 ht with rfl | ht
     ·rw [jv] at hq;exact .inr (.inr (by rw [hH q hq];simp))
     rw [qa t ht] at hq;exact .inr (.inl ⟨t,ht,q,hq,rfl⟩)
    fhid:=fun b' gc=>by
     cases hq:(e.foc σ.nx p).H b' with
     | none=>exact absurd hq gc
     | some q=>exact .inr (.inr (by rw [(Zu4 hq).1];simp))
    nx:=Nat.le_succ _
    toks:=fun t ab ht=>by
     rcases Tv.1 ht with rfl | ht
     ·omega
     exact ⟨ht,qa t ht⟩
    own:=fun _ _ _ _ _ _=>rfl }
   refine ⟨_,_,h,hst,{
    inj:=fun i i' hi fj=>hS.inj i i' (by rw [<- ei];exact hi) (by rw [<- ei];exact fj)
    box:=fun i y hy=>?_
    low:=fun i hi=>hS.low i (by rw [<- ei];exact hi)
    tkn:=fun t ht=>by
     rcases Tv.1 ht with rfl | ht
     ·exact Nat.lt_succ_self _
     exact Nat.lt_succ_of_lt (hS.tkn t ht)
    own:=fun t ht q hq=>by
     rcases Tv.1 ht with rfl | ht
     ·rw [jv] at hq;obtain ⟨g1,g2,g3,g4,g5⟩:=hS.hid _ _ (hH q hq);refine ⟨g1,fun i hi=>g3 i (by rw [<- ei];exact hi),?_⟩;rcases hO with ⟨_,_,hp⟩ | ⟨sz,_,_,_,b',off,cap,cs,ty,fz,_,_,_,hh,_,_,hp⟩
      ·rw [hq] at hp;cases hp
      rw [hq] at hp;cases hp;exact ⟨cs,ty,fz,hh⟩
     rw [qa t ht] at hq;obtain ⟨g1,g2,g3⟩:=hS.own t ht q hq;exact ⟨g1,fun i hi=>g2 i (by rw [<- ei];exact hi),g3⟩
    dis:=fun t t' ht kh ai q q' hq jd=>by
     rcases Tv.1 ht with rfl | ht <;> rcases Tv.1 kh with rfl | kh
     ·exact absurd rfl ai
     ·rw [jv] at hq;rw [qa t' kh] at jd;exact fun he=>(hS.hid _ _ (hH q hq)).2.2.2.1 t' kh q' jd he.symm
     ·rw [jv] at jd;rw [qa t ht] at hq;exact fun he=>(hS.hid _ _ (hH q' jd)).2.2.2.1 t ht q hq he
     rw [qa t ht] at hq;rw [qa t' kh] at jd;exact hS.dis t t' ht kh ai q q' hq jd
    xlt:=hS.xlt
    xown:=fun t ht q hq off ho=>by
     rcases Tv.1 ht with rfl | ht
     ·rw [jv] at hq;exact (hS.hid _ _ (hH q hq)).2.2.2.2 off ho
     rw [qa t ht] at hq;exact hS.xown t ht q hq off ho
    hid:=fun b' q hq=>by
     obtain ⟨g0,gn⟩:=Zu4 hq;obtain ⟨g1,g2,g3,g4,g5⟩:=hS.hid b' q g0;refine ⟨g1,g2,fun i hi=>g3 i (by rw [<- ei];exact hi),fun t ht r hr=>?_,g5⟩;rcases Tv.1 ht with rfl | ht
     ·rw [jv] at hr;exact fun he=>gn r hr he.symm
     rw [qa t ht] at hr;exact g4 t ht r hr
    glob:=hS.glob
    big:=hS.big }⟩
   by_cases sa:i=b
   ·subst sa;have:y=.smap el m (some (k,.sl σ.nx el rows)):=by
     have hy:(σ.bx.set i (.smap el m (some (k,.sl σ.nx el rows))))[i]?=some y:=hy;rw [List.getElem?_set_self cp] at hy;exact (Option.some.inj hy).symm
    subst this;refine ⟨es,⟨bn,ck,h1,h2,by rw [Wa];rw [Wa] at h3;exact h3,fun i' u hu=>?_⟩,fun i' u x hu hx ai=>?_,fun kv gu hl=>?_,h7⟩
    ·obtain ⟨g1,k',x,g2,g3,g4,g5⟩:=h4 i' u hu;have fj:i'<m.length:=by rw [<- qr];exact (To.1 hu).1
     have hm:=Tb fj;generalize m[i']=xx at hm;obtain ⟨q1,q2⟩:=X9 (fo:=none) hm;obtain ⟨r1,r2⟩:=X9 (fo:=some (k,PV.sl σ.nx el rows)) hm;rw [q1] at g2;cases g2;rw [q2] at g3;cases g3;refine ⟨g1,xx.1,_,r1,r2,g4,?_⟩
     by_cases ir:xx.1=k
     ·have:i'=j:=Zn8 h7 hm hj ir;subst this;rw [hj] at hm
      cases hm
      have mt:es[i']=u:=by rw [TB pq] at hu;exact Option.some.inj hu
      simp only [Zhq,decide_true]
      cases g5 with
      | d _ _ hd=>exact .sl _ _ _ _ (Nat.lt_succ_self _) (hd.later hst.toLater) fun _=>by show OwnedAt G w el rows u.val ((e.foc σ.nx p).M σ.nx);rw [jv,<- mt];exact hO
     simp only [Zhq,decide_eq_false ir];exact VRel.step g5 hst
    ·have ir:x.1≠k:=ai _ rfl;obtain ⟨p',k1,k2⟩:=h5 i' u x hu hx fun kv gu=>by cases gu
     refine ⟨p',k1,fun q hq=>ZkJ (k2 q hq) fun r hr he=>?_⟩;have:=k2 q hq;rw [he,hH r hr] at this;simp at this;exact ir this.1.symm
    cases gu
    rw [pz] at hl;cases hl
   have hy:σ.bx[i]?=some y:=by
    have hy:(σ.bx.set b (.smap el m (some (k,.sl σ.nx el rows))))[i]?=some y:=hy
    rwa [List.getElem?_set_ne (fun h=>sa h.symm)] at hy
   have tu:=(Tk.1 hy).1;refine (hS.box i y hy).step hst rfl fun b' q hq hqi=>⟨ZkJ hq fun r hr he=>?_,rfl⟩
   rw [he,hH r hr] at hq
   cases hq
   exact sa (hS.inj b i cp tu hqi).symm
  have hk:k∉m.map (·.1):=fun hm=>by
   obtain ⟨x,hx,rfl⟩:=Ss.1 hm;obtain ⟨i,hi,rfl⟩:=Sf hx;exact Zgd pz i _ (Tb hi) rfl
  obtain ⟨g1,g2⟩:=Uh hS ef (x':=.smap el m (some (k,.nils el))) (w1:=w) rfl rfl rfl rfl (fun _ _=>rfl) fun hst=>by
   refine ⟨es,⟨bn,ck,h1,h2,by rw [Wa];rw [Wa] at h3;exact h3,fun i' u hu=>?_⟩,fun i' u x hu hx ai=>?_,fun kv gu hl=>?_,h7⟩
   ·obtain ⟨g1,k',x,g2,g3,g4,g5⟩:=h4 i' u hu;have fj:i'<m.length:=by rw [<- qr];exact (To.1 hu).1
    have hm:=Tb fj;generalize m[i']=xx at hm;obtain ⟨q1,q2⟩:=X9 (fo:=none) hm;obtain ⟨r1,r2⟩:=X9 (fo:=some (k,PV.nils el)) hm;rw [q1] at g2;cases g2;rw [q2] at g3;cases g3;refine ⟨g1,xx.1,_,r1,r2,g4,?_⟩;have ir:¬xx.1=k:=Zgd pz i' xx hm;simp only [Zhq,decide_eq_false ir];exact VRel.step g5 hst
   ·exact (h5 i' u x hu hx fun kv gu=>by cases gu)
   cases gu;rfl
  exact ⟨e,_,h,g1,g2⟩
 exact h.elim
def Env.unf (e:Env) (bb:Nat) (k:List UInt8) (p:Option (Nat×Nat)):Env:={ e with H:=fun b=>match p with | none=>e.H b | some q=>if b=q.1 then some ((bb,k),q.2) else e.H b }
def Zu5 {bb:Nat} {k:List UInt8} {p:Option (Nat×Nat)} {b:Nat} {q:(Nat×List UInt8)×Nat} (h:(e.unf bb k p).H b=some q):e.H b=some q\/∃r,p=some r/\b=r.1/\q=((bb,k),r.2):=by
 simp only [Env.unf] at h
 cases p with
 | none=>exact .inl h
 | some r =>
 simp only at h;split at h
 ·rename_i he;cases h;exact .inr ⟨r,rfl,he,rfl⟩
 exact .inl h
def ZkK {bb:Nat} {k:List UInt8} {p:Option (Nat×Nat)} {b:Nat} {q:(Nat×List UInt8)×Nat} (h:e.H b=some q) (hn:∀r,p=some r->b≠r.1):(e.unf bb k p).H b=some q:=by
 simp only [Env.unf]
 cases p with
 | none=>exact h
 | some r=>simp only;rw [Tf (hn r rfl)];exact h
def Zn9 {bb:Nat} {k:List UInt8} {p:Option (Nat×Nat)} {r:Nat×Nat} (h:p=some r):(e.unf bb k p).H r.1=some ((bb,k),r.2):=by
 subst h;simp [Env.unf]
def Zge (hS:SRel G e σ w) {b:Nat} {K:St->Prop} (h:UH b σ K):∃e1 σ1,K σ1/\Stepped e σ w e1 σ1 w/\SRel G e1 σ1 w:=by
 unfold UH at h
 split at h
 ·rename_i el m k t e2' rows ef
  split at h
  ·rename_i xw ww
   cases Tp ww
   have ht:=(Ys _ _).1 xw;have cp:b<σ.bx.length:=(Tk.1 ef).1;obtain ⟨es,⟨bn,ck,h1,h2,h3,h4⟩,h5,h6,h7⟩:=hS.box b _ ef;have qr:es.size=m.length:=by rw [Wa] at h3;omega
   obtain ⟨r0,pz⟩:∃r0,lkM k m=some r0:=by
    cases pz:lkM k m with
    | none=>have:=h6 _ rfl pz;cases this
    | some r0=>exact ⟨r0,rfl⟩
   obtain ⟨j,hj⟩:=Zgc pz;have pq:j<es.size:=by rw [qr];exact (Tk.1 hj).1
   obtain ⟨hD,hO⟩:DRel (okc e σ) w (.sl rows) es[j].val/\OwnedAt G w el rows es[j].val (e.M t):=by
    obtain ⟨g1,k',x,g2,g3,g4,g5⟩:=h4 j es[j] (TB pq);rw [(X9 hj).2] at g3;simp only [Zhq,decide_true] at g3
    cases g3
    cases g5 with
    | sl _ _ _ _ hn hd wx=>exact ⟨hd,wx ht⟩
   have ax:∀x,x∈Jd t σ.tk->x∈σ.tk/\x≠t:=fun x hx=>(X8 t x σ.tk).1 hx
   have ei:(σ.set b (.smap el (YB k rows m) none)).bx.length=σ.bx.length:=by simp [St.set]
   have hst:Stepped e σ w (e.unf (e.β b) k (e.M t)) { σ.set b (.smap el (YB k rows m) none) with tk:=Jd t σ.tk } w:={
    len:=by show σ.bx.length<=(σ.set b _).bx.length;rw [ei];exact Tz _
    beta:=fun _ _=>rfl
    X:=fun _ _ h=>h
    pres:=fun b' off u hu ho=>⟨⟨ho.1,fun i hi=>ho.2.1 i (by rw [<- ei];exact hi),fun x hx q hq od=>ho.2.2.1 x (ax x hx).1 q hq od,fun q hq=>by
     rcases Zu5 hq with hq | ⟨r,hr,rfl,rfl⟩
     ·exact ho.2.2.2 q hq
     exact ho.2.2.1 t ht r hr rfl⟩,hu⟩
    blocks:=fun _ _ _ _ _=>rfl
    size:=Tz _
    os:=rfl
    tape:=rfl
    output:=rfl
    fresh:=fun i g1 g2=>by have g2:i<(σ.set b (.smap el (YB k rows m) none)).bx.length:=g2;rw [ei] at g2;omega
    ftok:=fun x hx q hq=>.inr (.inl ⟨x,(ax x hx).1,q,hq,rfl⟩)
    fhid:=fun b' gc=>by
     cases hq:(e.unf (e.β b) k (e.M t)).H b' with
     | none=>exact absurd hq gc
     | some q =>
     rcases Zu5 hq with hq | ⟨r,hr,rfl,rfl⟩
     ·exact .inr (.inr (by rw [hq];simp))
     exact .inr (.inl ⟨t,ht,r,hr,rfl⟩)
    nx:=Tz _
    toks:=fun x ab hx=>⟨(ax x hx).1,rfl⟩
    own:=fun _ _ _ _ _ _=>rfl }
   have hnh:∀r,e.M t=some r->∀q,e.H r.1≠some q:=fun r hr q hq=>(hS.hid _ _ hq).2.2.2.1 t ht r hr rfl
   refine ⟨_,_,h,hst,{
    inj:=fun i i' hi fj=>hS.inj i i' (by rw [<- ei];exact hi) (by rw [<- ei];exact fj)
    box:=fun i y hy=>?_
    low:=fun i hi=>hS.low i (by rw [<- ei];exact hi)
    tkn:=fun x hx=>hS.tkn x (ax x hx).1
    own:=fun x hx q hq=>by
     obtain ⟨g1,g2,g3⟩:=hS.own x (ax x hx).1 q hq;exact ⟨g1,fun i hi=>g2 i (by rw [<- ei];exact hi),g3⟩
    dis:=fun x x' hx f5=>hS.dis x x' (ax x hx).1 (ax x' f5).1
    xlt:=hS.xlt
    xown:=fun x hx=>hS.xown x (ax x hx).1
    hid:=fun b' q hq=>by
     rcases Zu5 hq with hq | ⟨r,hr,rfl,rfl⟩
     ·obtain ⟨g1,g2,g3,g4,g5⟩:=hS.hid b' q hq;exact ⟨g1,g2,fun i hi=>g3 i (by rw [<- ei];exact hi),fun x hx=>g4 x (ax x hx).1,g5⟩
     obtain ⟨g1,g2,cs,ty,fz,g3⟩:=hS.own t ht r hr;exact ⟨g1,(To.1 g3).1,fun i hi=>g2 i (by rw [<- ei];exact hi),fun x hx q' jd=>hS.dis x t (ax x hx).1 ht (ax x hx).2 q' r jd hr,fun off ho=>hS.xown t ht r hr off ho⟩
    glob:=hS.glob
    big:=hS.big }⟩
   by_cases sa:i=b
   ·subst sa;have:y=.smap el (YB k rows m) none:=by
     have hy:(σ.bx.set i (.smap el (YB k rows m) none))[i]?=some y:=hy;rw [List.getElem?_set_self cp] at hy;exact (Option.some.inj hy).symm
    subst this;refine ⟨es,⟨bn,ck,h1,h2,by rw [Wa,putM_len pz];rw [Wa] at h3;exact h3,fun i' u hu=>?_⟩,fun i' u x hu hx ai=>?_,fun kv gu hl=>(by cases gu),Ze5 h7⟩
    ·obtain ⟨g1,k',x,g2,g3,g4,g5⟩:=h4 i' u hu;have fj:i'<m.length:=by rw [<- qr];exact (To.1 hu).1
     have hm:=Tb fj;generalize m[i']=xx at hm;obtain ⟨q1,q2⟩:=X9 (fo:=some (k,PV.sl t el rows)) hm;rw [q1] at g2;cases g2;rw [q2] at g3;cases g3;have hp:=Zjg (k:=k) (v:=rows) h7 hm;obtain ⟨r1,r2⟩:=X9 (fo:=none) hp;refine ⟨g1,xx.1,_,r1,r2,g4,?_⟩;simp only [Zhq] at g5 |-
     by_cases ir:xx.1=k
     ·simp only [TL ir] at g5 |-
      cases g5 with
      | sl _ _ _ _ _ hd _=>exact .d _ _ (hd.later hst.toLater)
     simp only [decide_eq_false ir] at g5 |-;exact VRel.step g5 hst
    have fj:i'<m.length:=by rw [<- qr];exact (To.1 hu).1
    have hm:=Tb fj;generalize m[i']=xx at hm;have hp:=Zjg (k:=k) (v:=rows) h7 hm;rw [hp] at hx
    cases hx
    simp only
    by_cases ir:xx.1=k
    ·have:i'=j:=Zn8 h7 hm hj ir;subst this;rw [hj] at hm;cases hm;have mt:es[i']=u:=by rw [TB pq] at hu;exact Option.some.inj hu
     simp only [decide_true];exact ⟨e.M t,by rw [<- mt];exact hO,fun q hq=>Zn9 hq⟩
    simp only [decide_eq_false ir];obtain ⟨p',k1,k2⟩:=h5 i' u xx hu hm fun kv gu=>by cases gu;exact ir
    exact ⟨p',k1,fun q hq=>ZkK (k2 q hq) fun r hr he=>hnh r hr _ (he ▸ k2 q hq)⟩
   have hy:σ.bx[i]?=some y:=by
    have hy:(σ.bx.set b (.smap el (YB k rows m) none))[i]?=some y:=hy
    rwa [List.getElem?_set_ne (fun h=>sa h.symm)] at hy
   exact (hS.box i y hy).step hst rfl fun b' q hq hqi=>⟨ZkK hq fun r hr he=>hnh r hr _ (he ▸ hq),rfl⟩
  exact h.elim
 exact h.elim
end Go.PM
end

section
namespace Go.PM
def Flat.front {ok:Nat->Nat->Prop} {w:World} {r1 r2:List (List D)} {sz:Nat} {xs:List Value} (h:Flat ok w (r1++r2) sz xs):Flat ok w r1 sz (xs.take (r1.length * sz)):=by
 have hl:=h.len;rw [Ta,Sp] at hl;refine ⟨by rw [Si];omega,fun r hr=>h.wid r (TJ.2 (.inl hr)),fun a b y u hb hy hu=>?_⟩;have ha:a<r1.length:=by
  apply Classical.byContradiction
  intro hn
  rw [T7 oM] at hy;cases hy
 refine h.rel a b y u hb (by rw [TU ha];exact hy) ?_;rw [SN] at hu;split at hu
 ·exact hu
 cases hu
section
variable {G:GE} {T:Tab} {e:Env} {σ:St} {w:World}
def Zji (hT:TabOK T G.P) (hS:SRel G e σ w) {t tx el ty:Nat} (mz:(T.get t).kind=.slice el) (dq:(T.get el).kind≠.other) (ba:0<(T.get el).size)
  {rows:List (List D)} {z:List D} {v vx:Value} {px:PV} (hD:DRel (okc e σ) w (.sl rows) v) (tk0:List Nat) (ax:∀x,x∈tk0->x∈σ.tk)
  (hO:(v=.slice none 0 0/\rows=[])\/∃tok,tok∈σ.tk/\tok∉tk0/\Owned G e w tok el rows v)
  (hm:VD T tx el px=some [z]) (hx:VRel G e σ w px vx) (hw:z.length=(T.get el).size)
  (ka:(rows.length+1) * (T.get el).bytes<=2 ^ 47) (aa:rows.length+1<=2 ^ 47) :
  ∃w1 b off cap e1,(Builtin.append_ #[t,tx] ty #[v,vx]).run G.P w=.ok (.slice (some ⟨b,off,none⟩) (rows.length+1) cap) w1/\rows.length+1<=cap /\
   Stepped e σ w e1 { σ with tk:=σ.nx::tk0,nx:=σ.nx+1 } w1/\SRel G e1 { σ with tk:=σ.nx::tk0,nx:=σ.nx+1 } w1 /\
   VRel G e1 { σ with tk:=σ.nx::tk0,nx:=σ.nx+1 } w1 (.sl σ.nx el rows) (.slice (some ⟨b,off,none⟩) rows.length cap):=by
 obtain ⟨news,li,d7⟩:=Zuk hT hm hx (fun r hr=>by simp at hr;rw [hr];exact hw) ba rfl;obtain ⟨yu,np,f6⟩:=JA hT hS dq tk0 hO;obtain ⟨v',w1,aj,qp,lk,kb,cx,ay,f7,kc⟩:=Ze1 (ty:=ty) (more:=[z]) hT hS mz dq ba hD np yu li d7 ka aa;rcases kc with ⟨_,h⟩ | ⟨b,off,cap,cs,tyb,fz,rfl,hb,hc,hh,dk,kx,ic,xs,hxs,hxc⟩
 ·simp at h
 obtain ⟨e1,h1,h2,h3⟩:=UM (more:=[]) (v':=.slice (some ⟨b,off,none⟩) rows.length cap) hT hS dq ba hD tk0 ax np (fun r h=>by cases h) f6 qp lk kb cx ay f7
  (.inr ⟨b,off,cap,cs,tyb,fz,sM,hb,by simp at hc |-;omega,hh,dk,kx,ic,xs.take (rows.length * (T.get el).size),by rw [T2];exact hxs.front,fun k u hk=>hxc k u (by
   rw [SN] at hk;split at hk
   ·exact hk
   cases hk)⟩)
 rw [T2] at h3;exact ⟨w1,b,off,cap,e1,by rw [aj];simp,by simpa using hc,h1,h2,h3⟩
def Zoa (hT:TabOK T G.P) (hS:SRel G e σ w) {el tok b off cap:Nat} (dq:(T.get el).kind≠.other) (ba:0<(T.get el).size)
  {rows:List (List D)} {row:List D} {us:List Value} (hV:VRel G e σ w (.sl tok el rows) (.slice (some ⟨b,off,none⟩) rows.length cap)) (cu:tok∈σ.tk) (hcap:rows.length+1<=cap)
  (d7:Flat (okc e σ) w [row] (T.get el).size us) :
  (∀j,j<us.length->(w.cell? ⟨b,off+rows.length * (T.get el).size+j,none⟩).isSome=true)/\(∀j,j<us.length->w.frozen? ⟨b,off+rows.length * (T.get el).size+j,none⟩=false) /\
  (∀i,i<σ.bx.length->e.β i≠b) /\
  ∃e1,Stepped e σ w e1 { σ with tk:=σ.nx::Jd tok σ.tk,nx:=σ.nx+1 } (w.setCells b (off+rows.length * (T.get el).size) us)/\SRel G e1 { σ with tk:=σ.nx::Jd tok σ.tk,nx:=σ.nx+1 } (w.setCells b (off+rows.length * (T.get el).size) us) /\
   VRel G e1 { σ with tk:=σ.nx::Jd tok σ.tk,nx:=σ.nx+1 } (w.setCells b (off+rows.length * (T.get el).size) us) (.sl σ.nx el (rows++[row])) (.slice (some ⟨b,off,none⟩) (rows.length+1) cap):=by
 cases hV with
 | sl _ _ _ _ hn hD ke =>
 have ax:∀x,x∈Jd tok σ.tk->x∈σ.tk:=fun x hx=>((X8 _ _ _).1 hx).1
 have hnt:tok∉Jd tok σ.tk:=fun h=>((X8 _ _ _).1 h).2 rfl
 obtain ⟨yu,np,f6⟩:=JA hT hS dq (Jd tok σ.tk) (.inr ⟨tok,cu,hnt,ke cu⟩);rcases yu with ⟨h,_⟩ | ⟨b',off',cap',cs,tyb,fz,he,hb,hc,hh,dk,kx,qn⟩
 ·cases h
 cases he
 obtain ⟨olds,ak,ah,am,cf⟩:=ZEI np ba hD;have yd:us.length=(T.get el).size:=by rw [d7.len];simp
 have y4:(rows.length+1) * (T.get el).size<=cap * (T.get el).size:=T4 _ hcap;rw [Sp] at y4;have ay:∀k,k<cs.size->(w.cell? ⟨b,k,none⟩).isSome=true:=fun k hk=>by simp [World.cell?,hh,hk]
 obtain ⟨r1,r2,r3,r4⟩:=YL b us (off+rows.length * (T.get el).size) w;obtain ⟨cs',q1,q2,q3⟩:=YZ b us (off+rows.length * (T.get el).size) w cs tyb fz hh;refine ⟨fun j hj=>ay _ (by have:=dk.1;omega),fun j hj=>?_,qn,?_⟩
 ·simp only [World.frozen?,hh];have h1:=kx.2 (off+rows.length * (T.get el).size+j) oM
  by_cases h2:fz.1<=off+rows.length * (T.get el).size+j
  ·have:=h1 h2;simp;intro _;omega
  simp;omega
 refine UM (v:=.slice (some ⟨b,off,none⟩) rows.length cap) hT hS dq ba hD (Jd tok σ.tk) ax np (fun r h=>by simp at h;rw [h];exact d7.wid _ sM) f6 r1 r2 r3 (by rw [XD];exact Tz _)
  (fun b' o' u hu ho=>?_) (fun b' gc hn=>r4 b' (hn b off cap rfl)) (.inr ⟨b,off,cap,cs',tyb,fz,sM,hb,by simpa using hcap,q1,⟨by rw [q2];exact dk.1,dk.2.1,dk.2.2.1,dk.2.2.2⟩,kx,.inl ⟨cap,rfl⟩,olds++us,ak.append d7,fun k u hk=>?_⟩)
 ·by_cases l8:b'=b
  ·subst l8
   by_cases hoo:off+rows.length * (T.get el).size<=o'
   ·exact .inr ⟨b',off,cap,rfl,rfl,hoo⟩
   left
   rw [World.cell?_setCells_out b' us _ w ⟨b',o',none⟩ (fun _ _=>.inl (by show o'<_;omega))];exact hu
  left;simpa [World.cell?,r4 b' l8] using hu
 by_cases fm:k<olds.length
 ·rw [TU fm] at hk;rw [World.cell?_setCells_out b us _ w ⟨b,off+k,none⟩ (fun _ _=>.inl (by show off+k<_;rw [<- ak.len];omega))];exact ah k u hk
 rw [T5 oM] at hk;have mc:=(Tk.1 hk).1;have:=World.cell?_setCells_in b us (off+rows.length * (T.get el).size) w (fun j hj=>ay _ (by have:=dk.1;omega)) (k - olds.length) mc;exact mq143
end
structure Hole4 (ops:Array Oper) (m:Nat) (I S F H:Oper):Prop where
 size:ops.size=m+5
 oI:ops[m+1]?=some I
 oS:ops[m+2]?=some S
 oF:ops[m+3]?=some F
 oH:ops[m+4]?=some H
 gI:I.guard=none
 gS:S.guard=none
 gF:F.guard=none
 gH:H.guard=none
 nI:∀c,I.op≠.defer c
 nS:∀c,S.op≠.defer c
 nF:∀c,F.op≠.defer c
 nH:∀c,H.op≠.defer c
 eI:∀ed∈I.after,Region.binds .any ed=true->ed.on<=m
 eF:∀ed∈F.after,Region.binds .any ed=true->ed.on<=m
 eS:∀ed∈S.after,Region.binds .any ed=true->ed.on<=m+1
 eH:∀ed∈H.after,Region.binds .any ed=true->ed.on<=m\/ed.on=m+3
 eSI:∃ed∈S.after,Region.binds .any ed=true/\ed.on=m+1
 eHF:∃ed∈H.after,Region.binds .any ed=true/\ed.on=m+3
def cnt (i s f h:Bool):Nat:=(!i).toNat+(!s).toNat+(!f).toNat+(!h).toNat
def Zc3 {P:Program} {ro:Option Nat} {n:Nat} {ops:Array Oper} {Q:Exit->Act->World->Prop} {i:Nat} {o:Oper} {K:Act->World->Prop} {a:Act} {w w':World} {v:Value} (ho:ops[i]?=some o) (hg:o.guard=none) (im:∀c,o.op≠.defer c)
  (aj:(execOp a.eval o).run P w=.ok (.value v) w'\/((execOp a.eval o).run P w=.ok .skip w'/\v=Go.undef)) (hk:K (a.put o.dst v) w'):wpOpIn (fw ro) n P ops Q i K a w:=by
 unfold wpOpIn
 rw [ho];dsimp only;have hw:Region.wanted o (yielded ops a.tmps)=true:=by simp [Region.wanted,hg]
 rw [Th hw];refine ⟨fun _ _=>trivial,?_⟩;rw [show (fw ro).round=ro from rfl,Oper.semAt_eq _ _ _ im];rcases aj with hr | ⟨hr,rfl⟩
 ·rw [hr];exact hk
 rw [hr];exact hk
def ZBT {P:Program} {ro:Option Nat} {n:Nat} {ops:Array Oper} {m:Nat} {I S F H:Oper} (h4:Hole4 ops m I S F H) {Q:Exit->Act->World->Prop} {A:Bool->Bool->Act} {W:Bool->Bool->World} {vI vF:Value}
  (rI:∀f h,(h=true->f=true)->(execOp (A false f).eval I).run P (W false h)=.ok (.value vI) (W false h)) (pI:∀f,(A false f).put I.dst vI=A true f)
  (rF:∀i s,(s=true->i=true)->(execOp (A i false).eval F).run P (W s false)=.ok (.value vF) (W s false)) (pF:∀i,(A i false).put F.dst vF=A i true)
  (rS:∀f h,(h=true->f=true)->(execOp (A true f).eval S).run P (W false h)=.ok .skip (W true h)) (pS:∀f,(A true f).put S.dst Go.undef=A true f)
  (rH:∀i s,(s=true->i=true)->(execOp (A i true).eval H).run P (W s false)=.ok .skip (W s true)) (pH:∀i,(A i true).put H.dst Go.undef=A i true)
  (hQ:Q .normal (A true true) (W true true)) :
  ∀(k:Nat) (i s f h:Bool),cnt i s f h=k->(s=true->i=true)->(h=true->f=true)->∀(listed:Array Bool),listed.size=ops.size ->
   (∀j,j<ops.size->(listed.getD j false=true↔(j=m+1->i=true)/\(j=m+2->s=true)/\(j=m+3->f=true)/\(j=m+4->h=true))) ->
   wpAnyIn (fw ro) n P .any ops Q k listed (A i f) (W s h):=by
 intro k
 induction k with
 | zero =>
  intro i s f h hc wy wz listed hsz dt
  obtain ⟨rfl,rfl,rfl,rfl⟩:i=true/\s=true/\f=true/\h=true:=by
   revert hc;cases i <;> cases s <;> cases f <;> cases h <;> simp [cnt]
  refine ⟨?_,hQ⟩;rw [List.eq_nil_iff_forall_not_mem];intro j hj
  obtain ⟨h1,o,ho,_⟩:=mem_ready.1 hj;have ab:=(To.1 ho).1;have:=(dt j ab).2 ⟨fun _=>rfl,fun _=>rfl,fun _=>rfl,fun _=>rfl⟩;have f8:j<listed.size:=by rw [hsz];exact ab
  simp [Array.getD,f8] at this h1;rw [this] at h1;cases h1
 | succ k ih =>
 intro i s f h hc wy wz listed hsz dt
 have lb:∀i b,i<ops.size->listed.getD i b=listed.getD i false:=fun i b hi=>by
  exact mq85
 have aca:=h4.size;have qs:∀(j:Nat) (i' s' f' h':Bool),j<ops.size->(∀q,q<ops.size->((q=m+1->i'=true)/\(q=m+2->s'=true)/\(q=m+3->f'=true)/\(q=m+4->h'=true)↔q=j\/((q=m+1->i=true)/\(q=m+2->s=true)/\(q=m+3->f=true)/\(q=m+4->h=true)))) ->
   ∀q,q<ops.size->((listed.setIfInBounds j true).getD q false=true↔(q=m+1->i'=true)/\(q=m+2->s'=true)/\(q=m+3->f'=true)/\(q=m+4->h'=true)):=fun j i' s' f' h' hj hh q hq=>by
  rw [hh q hq]
  by_cases hqj:q=j
  ·subst hqj;have f8:q<listed.size:=by rw [hsz];exact hq
   simp [Array.getD,f8]
  have:(listed.setIfInBounds j true).getD q false=listed.getD q false:=getD_set_ne false (Ne.symm hqj);rw [this,dt q hq]
  constructor
  ·exact fun h=>.inr h
  rintro (h | h)
  ·exact absurd h hqj
  exact h
 refine ⟨fun hr=>?_,fun j hj=>?_⟩
 ·exfalso;have rdy:∀j o,ops[j]?=some o->listed.getD j false=false->(∀ed∈o.after,Region.binds .any ed=true->listed.getD ed.on false=true)->False:=fun j o ho hl he=>by
   have:j∈Region.ready .any ops listed:=mem_ready.2 ⟨by rw [lb _ _ (To.1 ho).1];exact hl,o,ho,he⟩;rw [hr] at this;cases this
  have fls:∀j,j<ops.size->¬((j=m+1->i=true)/\(j=m+2->s=true)/\(j=m+3->f=true)/\(j=m+4->h=true))->listed.getD j false=false:=fun j hj hn=>by
   cases hv:listed.getD j false with
   | false=>rfl
   | true=>exact absurd ((dt j hj).1 hv) hn
  cases i with
  | false=>exact rdy (m+1) I h4.oI (fls _ oM (fun hh=>by have:=hh.1 rfl;cases this)) fun ed he hb=>(dt _ (by have:=h4.eI ed he hb;omega)).2 (by have:=h4.eI ed he hb;exact ⟨oM,oM,oM,oM⟩)
  | true =>
  cases s with
  | false=>exact rdy (m+2) S h4.oS (fls _ oM (fun hh=>by have:=hh.2.1 rfl;cases this)) fun ed he hb=>(dt _ (by have:=h4.eS ed he hb;omega)).2 (by have:=h4.eS ed he hb;exact ⟨fun _=>rfl,oM,oM,oM⟩)
  | true =>
  cases f with
  | false=>exact rdy (m+3) F h4.oF (fls _ oM (fun hh=>by have:=hh.2.2.1 rfl;cases this)) fun ed he hb=>(dt _ (by have:=h4.eF ed he hb;omega)).2 (by have:=h4.eF ed he hb;exact ⟨fun _=>rfl,fun _=>rfl,oM,oM⟩)
  | true =>
  cases h with
  | false=>exact rdy (m+4) H h4.oH (fls _ oM (fun hh=>by have:=hh.2.2.2 rfl;cases this)) fun ed he hb=>(dt _ (by have:=h4.eH ed he hb;omega)).2 (by have:=h4.eH ed he hb;exact ⟨fun _=>rfl,fun _=>rfl,fun _=>rfl,oM⟩)
  | true=>simp [cnt] at hc
 obtain ⟨h1,o,ho,cd⟩:=mem_ready.1 hj;have ab:=(To.1 ho).1;rw [lb _ _ ab] at h1;have hn:¬((j=m+1->i=true)/\(j=m+2->s=true)/\(j=m+3->f=true)/\(j=m+4->h=true)):=fun hh=>by
  rw [(dt j ab).2 hh] at h1;cases h1
 have ni:(listed.setIfInBounds j true).size=ops.size:=by simpa using hsz
 by_cases j1:j=m+1
 ·subst j1;have hi:i=false:=by cases i with | false=>rfl | true=>exact absurd ⟨fun _=>rfl,oM,oM,oM⟩ hn
  subst hi;have hs:s=false:=by cases s with | false=>rfl | true=>cases wy rfl
  subst hs;rw [h4.oI] at ho;cases ho;refine Zc3 h4.oI h4.gI h4.nI (.inl (rI f h wz)) ?_;rw [pI];exact ih true false f h (by simp [cnt] at hc |-;omega) (fun h=>by cases h) wz _ ni (qs _ _ _ _ _ ab fun q hq=>by
   by_cases ig:q=m+1
   ·subst ig;simp
   simp [ig])
 by_cases j2:j=m+2
 ·subst j2;have hs:s=false:=by cases s with | false=>rfl | true=>exact absurd ⟨oM,fun _=>rfl,oM,oM⟩ hn
  subst hs;rw [h4.oS] at ho;cases ho;obtain ⟨ed,he,hb,qt⟩:=h4.eSI;have hi:i=true:=by
   have:=cd ed he hb;rw [qt] at this;exact ((dt _ oM).1 this).1 rfl
  subst hi;refine Zc3 h4.oS h4.gS h4.nS (.inr ⟨rS f h wz,rfl⟩) ?_;rw [pS];exact ih true true f h (by simp [cnt] at hc |-;omega) (fun _=>rfl) wz _ ni (qs _ _ _ _ _ ab fun q hq=>by
   by_cases ig:q=m+2
   ·subst ig;simp
   simp [ig])
 by_cases j3:j=m+3
 ·subst j3;have hf:f=false:=by cases f with | false=>rfl | true=>exact absurd ⟨oM,oM,fun _=>rfl,oM⟩ hn
  subst hf;have hh:h=false:=by cases h with | false=>rfl | true=>cases wz rfl
  subst hh;rw [h4.oF] at ho;cases ho;refine Zc3 h4.oF h4.gF h4.nF (.inl (rF i s wy)) ?_;rw [pF];exact ih i s true false (by simp [cnt] at hc |-;omega) wy (fun h=>by cases h) _ ni (qs _ _ _ _ _ ab fun q hq=>by
   by_cases ig:q=m+3
   ·subst ig;simp
   simp [ig])
 by_cases j4:j=m+4
 ·subst j4;have hh:h=false:=by cases h with | false=>rfl | true=>exact absurd ⟨oM,oM,oM,fun _=>rfl⟩ hn
  subst hh;rw [h4.oH] at ho;cases ho;obtain ⟨ed,he,hb,qt⟩:=h4.eHF;have hf:f=true:=by
   have:=cd ed he hb;rw [qt] at this;exact ((dt _ oM).1 this).2.2.1 rfl
  subst hf;refine Zc3 h4.oH h4.gH h4.nH (.inr ⟨rH i s wy,rfl⟩) ?_;rw [pH];exact ih i s true true (by simp [cnt] at hc |-;omega) wy (fun _=>rfl) _ ni (qs _ _ _ _ _ ab fun q hq=>by
   by_cases ig:q=m+4
   ·subst ig;simp
   simp [ig])
 exact absurd ⟨fun e=>absurd e j1,fun e=>absurd e j2,fun e=>absurd e j3,fun e=>absurd e j4⟩ hn
def ZEK {F:Fence} {n:Nat} {P:Program} {o:Oper} {a:Act} {w:World} {K:Act->World->Prop} {Q Q':Exit->Act->World->Prop} (hQ:∀x a w,x≠.normal->Q x a w->Q' x a w) (h:o.wpIn F n P a w K Q):o.wpIn F n P a w K Q':=by
 unfold Oper.wpIn at *
 refine ⟨h.1,?_⟩;have h:=h.2;generalize (o.semAt F.round a.eval).run P w=r at *
 cases r with
 | ok x w' =>
  cases x <;> simp only [Oper.uponIn] at h |- <;> first
   | exact h
   | exact h.elim
   | (refine ⟨h.1, h.2.mono fun en w'' he => ?_⟩
      cases en <;> simp only at he |- <;> first
       | exact he
       | exact hQ _ _ _ sM he
       | (obtain ⟨a0,w0,hq⟩:=he;exact ⟨a0,w0,hQ _ _ _ sM hq⟩))
 | halt hh w' =>
 cases hh <;> simp only [Oper.uponIn] at h |- <;> first
  | exact h.elim
  | exact hQ _ _ _ sM h
section
variable {G:GE} {C:Cx} {e0 e:Env} {σ0 σ:St} {w0 w:World} {a:Act} {f:Frame} {Q:PQ} {ro:Option Nat} {n:Nat} {ds:Nat×List Deferred×Bool} {N:Nat} {Z:Array Value->Prop}
def Zfa {m t:Nat} {QQ:Exit->Act->World->Prop} (hC:CxOK G C ro e0 σ0 w0) (hM:CxMono C) {ops:Array Oper} (hd:∀o,o∈ops->∀d,o.dst=some d->d<N/\∀t v,Z t->Z (t.setIfInBounds d v)) {ms:List Nat} (y3:∀i o,i<m->ops[i]?=some o->ms.getD i 0=Jf ms o.after.toList 0)
  (hm:ops.size=m+t) (gg:∀j o,m<=j->ops[j]?=some o->(∀p,p<m->∃ed∈o.after,Region.binds .any ed=true/\ed.on=p)\/(∃ed∈o.after,Region.binds .any ed=true/\m<=ed.on/\ed.on<ops.size))
  (y5:∀x a w,x≠.normal->ZP G e0 σ0 w0 ds N Z Q x a w->QQ x a w)
  (ce:∀(listed:Array Bool) a w,listed.size=ops.size->(∀k,k<ops.size->(listed.getD k false=true↔k<m))->ZP G e0 σ0 w0 ds N Z Q .normal a w->wpAnyIn (fw ro) n G.P .any ops QQ t listed a w) :
  ∀(k:Nat) (l:List (Nat×Oper)),l.length=k->(∀p∈l,p.1<m)->(∀p∈l,ops[p.1]?=some p.2)->l.Pairwise (ZrA ops.toList ms)->(∀p∈l,∀e∈p.2.after.toList,Region.binds .any e=true->e.on<m/\e.on≠p.1) ->
  ∀{listed:Array Bool},listed.size=ops.size->(∀k,k<ops.size->(listed.getD k false=true↔k<m/\∀p∈l,p.1≠k))->(∀j,j<m->(∀p∈l,p.1≠j)->∀p∈l,anc ms p.1 j=false) ->
  ∀{ctx:List Ld} {e:Env} {σ:St} {w:World} {a:Act} {f:Frame},SRel G e σ w->FRel G e σ w f a.tmps->Later e0 σ0 w0 e σ w->a.tmps.size=N->Marks ds e σ w a.defers->Z a.tmps->WP C ops.toList ms Q l ctx f σ ->
  wpAnyIn (fw ro) n G.P .any ops QQ (k+t) listed a w
 | 0,l,hl,hlm,bw,hp,hed,listed,hsz,dt,hdown,ctx,e,σ,w,a,f,hS,hF,hL,hN,bc,hZ,h=>by
  have pr:l=[]:=Sr.1 hl;subst pr;rw [T9];exact ce listed a w hsz (fun k hk=>by rw [dt k hk];simp) ⟨.normal,f,e,σ,h,rfl,hS,hF,hL,hN,bc,hZ⟩
 | k+1,l,hl,hlm,bw,hp,hed,listed,hsz,dt,hdown,ctx,e,σ,w,a,f,hS,hF,hL,hN,bc,hZ,h=>by
  have lb:∀i b,i<ops.size->listed.getD i b=listed.getD i false:=fun i b hi=>by
   exact mq85
  rw [show k+1+t=(k+t)+1 by omega];refine ⟨fun hr=>?_,fun i hi=>?_⟩
  ·cases l with
   | nil=>simp at hl
   | cons x l =>
   exfalso;have hx:=bw x sM;have ab:=(To.1 hx).1;have:x.1∈Region.ready .any ops listed:=by
    refine mem_ready.2 ⟨?_,x.2,hx,fun ed jb hb=>?_⟩
    ·rw [lb _ _ ab]
     cases hv:listed.getD x.1 false with
     | false=>rfl
     | true=>exact absurd rfl (((dt x.1 ab).1 hv).2 x sM)
    have h1:=hed x sM ed (TN.1 jb) hb;refine (dt ed.on oM).2 ⟨h1.1,fun p ja=>?_⟩;exact mq130
   rw [hr] at this;cases this
  obtain ⟨h1,o,ho,cd⟩:=mem_ready.1 hi;have ab:=(To.1 ho).1;rw [lb _ _ ab] at h1;have him:i<m:=by
   apply Classical.byContradiction
   intro jn
   rcases gg i o oM ho with h2 | ⟨ed,he,hb,jn,aq⟩
   ·cases l with
    | nil=>simp at hl
    | cons x l =>
    obtain ⟨ed,he,hb,qt⟩:=h2 x.1 (hlm x sM);have h3:=cd ed he hb;rw [qt] at h3;exact ((dt x.1 (by have:=hlm x sM;omega)).1 h3).2 x sM rfl
   have:=((dt ed.on aq).1 (cd ed he hb)).1;omega
  have cy:∃p∈l,p.1=i:=by
   apply Classical.byContradiction
   intro jp
   have:=(dt i ab).2 ⟨him,fun p hp e=>jp ⟨p,hp,e⟩⟩;rw [h1] at this;cases this
  obtain ⟨p,ff,rfl⟩:=cy;have um:p.2=o:=by have:=bw p ff;rw [ho] at this;exact (Option.some.inj this).symm
  obtain ⟨pre,post,rfl⟩:=List.append_of_mem ff;obtain ⟨i,o'⟩:=p;dsimp only at um ho ab h1 hi;subst um;have pu:=List.pairwise_append.1 hp;have ge:=(List.pairwise_cons.1 pu.2.1)
  have gf:∀x∈pre++(i,o')::post,anc ms x.1 i=false:=fun x hx=>by
   cases uo:anc ms x.1 i with
   | false=>rfl
   | true =>
   exfalso;unfold anc at uo
   rw [y3 i o' him ho] at uo;rcases Vi uo with h2 | ⟨ed,jb,hb,h2⟩
   ·simp at h2
   have uq:=cd ed (TN.2 jb) hb;have ai:=((dt ed.on (by have:=(hed _ ff ed jb hb).1;omega)).1 uq).2;rcases h2 with h2 | h2
   ·exact ai x hx h2.symm
   rw [hdown ed.on (hed _ ff ed jb hb).1 ai x hx] at h2;cases h2
  have jc:=Zjf hM pre (fun x hx=>by
   have hA:=pu.2.2 x hx (i,o') sM;have mh:=gf x (by simp [hx]);rcases hA.2.2 with h2 | h2
   ·rw [mh] at h2;cases h2
   exact ⟨h2.1,h2.2,mh⟩) ctx f σ h
  have bi:=VG (ro:=ro) (n:=n) hC hS hF hL hN bc hZ (ops:=ops) (hd o' (Sd ho)) jc;have ur:∀x∈pre++post,x.1≠i:=fun x hx=>by
   exact mq165
  have ax:∀x,x∈pre++post->x∈pre++(i,o')::post:=fun x hx=>by
   rcases TJ.1 hx with hx | hx <;> simp [hx]
  have next:∀a' w',KRel G e0 σ0 w0 ds N Z (fun f' σ'=>∃c,WP C ops.toList ms Q (pre++post) c f' σ') a' w'->wpAnyIn (fw ro) n G.P .any ops QQ (k+t) (listed.setIfInBounds i true) a' w':=fun a' w' ⟨f',e',σ',⟨c,fm⟩,h2,h3,h4,h5,h6,h7⟩=>by
   refine Zfa hC hM hd y3 hm gg y5 ce k (pre++post) (by simp at hl |-;omega) (fun x hx=>hlm x (ax x hx)) (fun x hx=>bw x (ax x hx)) (List.pairwise_append.2 ⟨pu.1,ge.2,fun x hx y hy=>pu.2.2 x hx y (TA _ hy)⟩)
    (fun x hx=>hed x (ax x hx)) (by simpa using hsz) (fun k hk=>?_) (fun j y6 hj x hx=>?_) h2 h3 h4 h5 h6 h7 fm
   ·by_cases oz:k=i
    ·subst oz;have f8:k<listed.size:=by rw [hsz];exact ab
     have:(listed.setIfInBounds k true).getD k false=true:=by simp [Array.getD,f8]
     simp only [this,true_iff];exact ⟨him,ur⟩
    have:(listed.setIfInBounds i true).getD k false=listed.getD k false:=getD_set_ne false (Ne.symm oz);rw [this,dt k hk]
    constructor
    ·exact fun hh=>⟨hh.1,fun x hx=>hh.2 x (ax x hx)⟩
    intro hh
    refine ⟨hh.1,fun x hx=>?_⟩;rcases TJ.1 hx with hx | hx
    ·exact hh.2 x (by simp [hx])
    rcases Tv.1 hx with rfl | hx
    ·exact fun e=>oz e.symm
    exact hh.2 x (by simp [hx])
   by_cases hji:j=i
   ·subst hji;exact gf x (ax x hx)
   refine hdown j y6 (fun y hy=>?_) x (ax x hx);exact mq122
  have hK:∀a' w',KRel G e0 σ0 w0 ds N Z (fun f' σ'=>match Y0 o'.op with | true=>Zrs ms i σ.bx σ'.bx ctx (WP C ops.toList ms Q (pre++post) ctx f' σ') | false=>WP C ops.toList ms Q (pre++post) (Ud C.T o' i f ctx) f' σ') a' w' ->
    KRel G e0 σ0 w0 ds N Z (fun f' σ'=>∃c,WP C ops.toList ms Q (pre++post) c f' σ') a' w':=fun a' w' ⟨f',e',σ',hk,au⟩=>by
   refine ⟨f',e',σ',?_,au⟩
   cases hE:Y0 o'.op with
   | true=>rw [hE] at hk;exact ⟨_,(chkL_iff.1 hk).2⟩
   | false=>rw [hE] at hk;exact ⟨_,hk⟩
  unfold wpOpIn
  rw [ho];dsimp only;split at bi
  ·rename_i hw
   rw [Th hw];exact ZEK y5 (Oper.wpIn_mono (fun a w h=>next a w (hK a w h)) bi)
  rename_i hw
  rw [Tf hw];exact ⟨fun _ _=>trivial,next _ _ (hK _ _ bi)⟩
end
def JE (o:Oper):Bool:=match o.guard with | none=>true | _=>false
def Zc4 (x:Operand) (ds:List Nat):Bool:=match x with | .tmp t=>!(Zhn t ds) | _=>true
def Zml (x:Operand) (d:Nat):Bool:=match x with | .tmp t=>Nat.beq t d | _=>false
def Uk (m:Nat) (l:List Edge):Bool:=l.all fun ed=>!(Region.binds .any ed) || Nat.ble ed.on m
def JF (m:Nat) (l:List Edge):Bool:=l.any fun ed=>Region.binds .any ed && Nat.beq ed.on m
def ZkL:Nat->List Edge->Bool
 | 0,_=>true
 | n+1,l=>JF n l && ZkL n l
structure HoleD where
 s:Operand
 z:Operand
 t:Nat
 tx:Nat
 ti:Nat
 ix:Operand
 ts:Nat
 x:Operand
 sf:Nat
 xf:Operand
 kf:Nat
 th:Nat
 da:Nat
 di:Nat
 df:Nat
def Zmm (h:Hole):Option HoleD:=match h.A.op,h.I.op,h.S.op,h.F.op,h.H.op with
 | .call { callee:=.builtin .append,args,argTypes },.indexAddr ti xi ix,.store ts xs x,.fieldAddr sf xf kf,.store th xh yh=>match argTypes.toList,args.toList,h.A.dst,h.I.dst,h.F.dst,h.S.dst,h.H.dst with
  | [t,tx],[s,z],some da,some di,some df,none,none =>
   match Zml xi da && Nat.beq ti t && Zml xs di && Zml xh df && Zml yh da && Zc4 ix [da,di,df] && Zc4 x [da,di,df] && Zc4 xf [da,di,df] && !(Nat.beq da di) && !(Nat.beq da df) && !(Nat.beq di df) with
   | true=>some ⟨s,z,t,tx,ti,ix,ts,x,sf,xf,kf,th,da,di,df⟩
   | false=>none
  | _,_,_,_,_,_,_=>none
 | _,_,_,_,_=>none
def Zob (ops:List Oper) (h:Hole):Bool :=
 let m:=h.pre.length
 let ms:=W5 ops []
 let cs:=V3 m (ZK 0 h.pre)
 (match Zmm h with | some _=>true | none=>false) && JE h.A && JE h.I && JE h.S && JE h.F && JE h.H &&
 Uk m h.I.after.toList && Uk m h.F.after.toList && Uk (m+1) h.S.after.toList && (h.H.after.toList.all fun ed=>!(Region.binds .any ed) || (Nat.ble ed.on m || Nat.beq ed.on (m+3))) &&
 JF (m+1) h.S.after.toList && JF (m+3) h.H.after.toList && JF m h.I.after.toList && JF m h.F.after.toList && ZkL m h.A.after.toList && (match m with | 0=>true | k+1=>Uk k h.A.after.toList) && Nat.ble 1 m &&
 Nat.beq cs.length m && ZhG ops ms m cs && ZhH cs m && Za4 ms cs
def Zjj {ops:Array Oper} {h:Hole} (hh:ZeV ops.toList=some h):ops.toList=h.pre++[h.A,h.I,h.S,h.F,h.H]:=by
 unfold ZeV at hh
 split at hh
 ·rename_i H F S I A pre hr
  split at hh
  ·cases hh
   have:ops.toList=(H::F::S::I::A::pre).reverse:=by rw [<- hr,List.reverse_reverse]
   rw [this];simp
  cases hh
 cases hh
def Za5 {h:Hole} {d:HoleD} (hd:Zmm h=some d):∃(args:Array Operand) (at':Array Nat),args.toList=[d.s,d.z]/\at'.toList=[d.t,d.tx]/\h.A.op=.call { callee:=.builtin .append,args:=args,argTypes:=at' } /\
  h.I.op=.indexAddr d.t (.tmp d.da) d.ix/\h.S.op=.store d.ts (.tmp d.di) d.x/\h.F.op=.fieldAddr d.sf d.xf d.kf/\h.H.op=.store d.th (.tmp d.df) (.tmp d.da) /\
  h.A.dst=some d.da/\h.I.dst=some d.di/\h.F.dst=some d.df/\h.S.dst=none/\h.H.dst=none/\Zc4 d.ix [d.da,d.di,d.df]=true/\Zc4 d.x [d.da,d.di,d.df]=true/\Zc4 d.xf [d.da,d.di,d.df]=true/\d.da≠d.di/\d.da≠d.df/\d.di≠d.df:=by
 have tmp:∀{x:Operand} {d:Nat},Zml x d=true->x=.tmp d:=fun {x d} h=>by
  unfold Zml at h
  split at h
  ·rw [Tp h]
  cases h
 have ne:∀{a b:Nat},(!(Nat.beq a b))=true->a≠b:=fun {a b} h e=>by subst e;simp at h
 unfold Zmm at hd
 split at hd
 ·rename_i args at' ti xi ix ts xs x sf xf kf th xh yh h1 h2 h3 h4 h5
  split at hd
  ·rename_i t tx s z da di df g1 g2 g3 g4 g5 g6 g7
   split at hd
   ·rename_i hb
    cases hd
    simp only [Tm] at hb;obtain ⟨⟨⟨⟨⟨⟨⟨⟨⟨⟨b1,b2⟩,b3⟩,b4⟩,b5⟩,b6⟩,b7⟩,b8⟩,b9⟩,b10⟩,b11⟩:=hb;have:=tmp b1;subst this;have:=Tp b2;subst this;have:=tmp b3;subst this;have:=tmp b4;subst this;have:=tmp b5;subst this;exact ⟨args,at',g2,g1,h1,h2,h3,h4,h5,g3,g4,g5,g6,g7,b6,b7,b8,ne b9,ne b10,ne b11⟩
   cases hd
  cases hd
 cases hd
def ZhK (w:World) {b1 b2:Nat} (h:b1≠b2) (o1 o2:Nat) (v1 v2:Value):(w.setCell ⟨b1,o1,none⟩ v1).setCell ⟨b2,o2,none⟩ v2=(w.setCell ⟨b2,o2,none⟩ v2).setCell ⟨b1,o1,none⟩ v1:=by
 unfold World.setCell
 simp only [World.mk.injEq,and_self,and_true,true_and]
 apply Array.ext_getElem?
 intro i
 simp only [SF]
 by_cases h1:b1=i
 ·subst h1;simp [Ne.symm h]
 by_cases h2:b2=i
 ·subst h2;simp [h]
 simp [h1,h2]
def XL {b1 b2:Nat} (h:b1≠b2) (o1:Nat) (v1:Value):∀(l:List Value) (o2:Nat) (w:World),(w.setCell ⟨b1,o1,none⟩ v1).setCells b2 o2 l=(w.setCells b2 o2 l).setCell ⟨b1,o1,none⟩ v1
 | [],_,_=>rfl
 | v::l,o2,w=>by
  rw [World.setCells,World.setCells,ZhK w h,XL h o1 v1 l]
def Zaa {b1 b2:Nat} (h:b1≠b2):∀(l1:List Value) (o1:Nat) (l2:List Value) (o2:Nat) (w:World),(w.setCells b1 o1 l1).setCells b2 o2 l2=(w.setCells b2 o2 l2).setCells b1 o1 l1
 | [],_,_,_,_=>rfl
 | v::l1,o1,l2,o2,w=>by
  rw [World.setCells,World.setCells,Zaa h l1,XL h]
section
variable {G:GE} {T:Tab} {e:Env} {σ:St} {w:World}
def VI (hT:TabOK T G.P) {t:Nat} (hk:(T.get t).kind≠.other) {v:Value} {b off:Nat} (aa:v.cells.size=(T.get t).size) (hc:∀j,j<v.cells.toList.length->(w.cell? ⟨b,off+j,none⟩).isSome=true)
  (hf:∀j,j<v.cells.toList.length->w.frozen? ⟨b,off+j,none⟩=false) (lg:∀u∈v.cells.toList,u.oneCell'=true) {ρ':Operand->Value} {o:Oper} {p x:Operand} (ho:o.op=.store t p x) (hp:ρ' p=.pointer (some ⟨b,off,none⟩)) (hx:ρ' x=v) :
  (execOp ρ' o).run G.P w=.ok .skip (w.setCells b off v.cells.toList):=by
 obtain ⟨i,d,z,hi,hd,hs,dy,aw,hz,dc,_⟩:=(hT.get hk).ex;have aj:=run_storeCells_cells (P:=G.P) b off v.cells.toList 0 w (by simpa using hc) (by simpa using hf) lg;simp only [Sl] at aj;have:(Instr.storeAt t (.pointer (some ⟨b,off,none⟩)) v).run G.P w=.ok () (w.setCells b off v.cells.toList):=by
  have j9:v.cells.size=i.size:=by rw [aa,hs]
  exact mq67
 unfold execOp
 simp only [ho,hp,hx,Sem.run_bind,this,Result.andThen,Sem.run_pure]
def Zjk (hT:TabOK T G.P) {s i off t:Nat} {fs:List (Nat×Nat)} (hk:(T.get s).kind=.struct fs) (tr:fs[i]?=some (off,t)) {ρ':Operand->Value} {o:Oper} {x:Operand} (ho:o.op=.fieldAddr s x i) {b oo:Nat} (hv:ρ' x=.pointer (some ⟨b,oo,none⟩)) (w:World) :
  (execOp ρ' o).run G.P w=.ok (.value (.pointer (some ⟨b,oo+off,none⟩))) w:=by
 obtain ⟨ti,d,z,hi,hd,hs,dy,aw,hz,dc,_⟩:=(hT.get (t:=s) (by rw [hk];simp)).ex;rw [hk] at aw;obtain ⟨gs,rfl,hf⟩:=aw;obtain ⟨f,j,hg,dj,ht,hj,ua⟩:=hf.get tr;have qk:gs[i]?=some f:=by simpa using hg
 have hfp:(fieldPlace ⟨b,oo,none⟩ f).run G.P w=.ok ⟨b,oo+off,none⟩ w:=by
  exact mq144
 unfold execOp
 simp [ho,hv,Instr.fieldAt,Za hd,qk,Instr.sureAddr,hfp]
def Zjl (hT:TabOK T G.P) {t el:Nat} (hk:(T.get t).kind=.slice el) (be:(T.get el).kind≠.other) {ρ':Operand->Value} {o:Oper} {x i:Operand} (ho:o.op=.indexAddr t x i) {b off n cap:Nat} {k:IntKind} {m:Int} (hv:ρ' x=.slice (some ⟨b,off,none⟩) n cap)
  (hi:ρ' i=.int k m) (h0:0<=m) (hn:m<n) (w:World):(execOp ρ' o).run G.P w=.ok (.value (.pointer (some ⟨b,off+m.toNat * (T.get el).size,none⟩))) w:=by
 obtain ⟨ti,d,z,oc,hd,hs,dy,aw,hz,dc,_⟩:=(hT.get (t:=t) (by rw [hk];simp)).ex;rw [hk] at aw;cases aw;obtain ⟨i2,d2,z2,ac,co,gd,_,bh,_,_,_⟩:=(hT.get be).ex;unfold execOp
 simp [ho,hv,hi,Instr.indexAt,XH,Za hd,h0,hn,Zw ac,Yd,gd]
def ZrD {x:PV} {v:Value} {row:List D} (hx:VRel G e σ w x v) (hr:Zi0 x=some row):Flat (okc e σ) w [row] row.length v.cells.toList/\∀u∈v.cells.toList,u.oneCell'=true:=by
 unfold Zi0 at hr
 split at hr
 ·rename_i l hl
  obtain ⟨dh,bj⟩:=Vg hx hl;obtain ⟨eh,co⟩:=UN (ok:=okc e σ) hr;refine ⟨⟨by simp [dh,eh],fun r hr=>by simp at hr;rw [hr],fun a b y u hb hy hu=>?_⟩,fun u hu=>?_⟩
  ·cases a with
   | zero =>
    simp only [SB,Option.bind_some] at hy;simp only [Nat.zero_mul,T9,Tx] at hu;have h1:b<l.length:=oM;exact Wq (co b l[b] y (Tb h1) hy) (bj b l[b] u (Tb h1) hu).1
   | succ a=>simp at hy
  obtain ⟨j,hj,rfl⟩:=Sf hu;have h1:j<l.length:=by simp [dh] at hj;exact hj
  exact (bj j l[j] _ (Tb h1) (by rw [<- Tx,Tb hj])).2
 cases hr
end
def ZhL {t:Nat}:∀{l:List Nat},t∉l->Jd t l=l
 | [],_=>rfl
 | x::l,h=>by
  have h1:x≠t:=fun e=>h (by simp [e])
  have h2:=ZhL (t:=t) (l:=l) (fun hm=>h (by simp [hm]));unfold Jd
  split
  ·rename_i hb;exact absurd (Tp hb) h1
  rw [h2]
def Zmn {T:Tab} {h:Hole} {d:HoleD} {f:Frame} {σ:St} {K:Frame->St->Prop} (hd:Zmm h=some d) (hA:Zl9 T h f σ K) :
  ∃el rows zr row k tk0,(T.get d.t).kind=.slice el/\(T.get el).kind≠.other/\1<=(T.get el).size/\d.ts=el/\VD T d.tx el (ev f d.z)=some [zr]/\Zi0 (ev f d.x)=some row/\ev f d.ix=.d (.int k (rows.length:Nat)) /\
   zr.length=(T.get el).size/\row.length=(T.get el).size/\(rows.length+1) * (T.get el).bytes<=2 ^ 47/\rows.length+1<=2 ^ 47 /\
   ((∃e2,ev f d.s=.nils e2/\rows=[]/\tk0=σ.tk)\/∃tok,ev f d.s=.sl tok el rows/\tok∈σ.tk/\tk0=Jd tok σ.tk) /\
   K (Yo (Yo f (some d.da) (.sl (σ.nx+1) el (rows++[row]))) (some d.di) .undef) ⟨σ.bx,(σ.nx+1)::tk0,σ.nx+2⟩:=by
 obtain ⟨args,at',a1,a2,a3,a4,a5,a6,a7,a8,a9,_⟩:=Za5 hd;unfold Zl9 at hA
 simp only [a3,a4,a5,a1,a2,a8,a9,ZZ,Z3] at hA;split at hA
 ·rename_i el hk
  split at hA
  ·exact hA.elim
  rename_i be
  split at hA
  ·rename_i zr row k n h1 h2 h3 h4 h5
   split at hA
   ·rename_i h6 h7
    have e1:=Tc h1;have e2:=Tp h2;have e6:=Tp h6;have e7:=Tp h7;split at hA
    ·rename_i e0 hs
     obtain ⟨rfl,hb,hK⟩:=hA;exact ⟨el,[],zr,row,k,σ.tk,hk,fun h0=>be h0,e1,e2,h3,h4,h5,e6,e7,hb,sM,.inl ⟨e0,hs,rfl,rfl⟩,hK⟩
    ·rename_i tok e0 rows hs
     split at hA
     ·rename_i g1 g2
      have:=Tp g2;subst this;obtain ⟨rfl,hb,dw,hK⟩:=hA;exact ⟨e0,rows,zr,row,k,Jd tok σ.tk,hk,fun h0=>be h0,e1,e2,h3,h4,h5,e6,e7,hb,dw,.inr ⟨tok,hs,(Ys _ _).1 g1,rfl⟩,hK⟩
     exact hA.elim
    exact hA.elim
   exact hA.elim
  exact hA.elim
 exact hA.elim
section
def Vj {x:Operand} {ds:List Nat} (h:Zc4 x ds=true) {a:Act} {d:Nat} (hd:d∈ds) (v:Value):(a.put (some d) v).eval x=a.eval x:=by
 cases x with
 | tmp t =>
  have:d≠t:=fun e=>by
   subst e;simp only [Zc4,TZ] at h;rw [(Ys _ _).2 hd] at h;cases h
  simp [Act.put,Act.eval,Array.getD_eq_getD_getElem?,T3,this]
 | _=>rfl
def ZkM {x:Operand} {ds:List Nat} (h:Zc4 x ds=true) {f:Frame} {d:Nat} (hd:d∈ds) (v:PV):ev (Yo f (some d) v) x=ev f x:=by
 cases x with
 | tmp t =>
  have:d≠t:=fun e=>by
   subst e;simp only [Zc4,TZ] at h;rw [(Ys _ _).2 hd] at h;cases h
  exact Xe f v this
 | _=>rfl
def ZbQ {a:Act} {d:Nat} (h:d<a.tmps.size) (v:Value):(a.put (some d) v).eval (.tmp d)=v:=by
 simp [Act.put,Act.eval,T3,h]
def Zc5 {a:Act} {d k:Nat} (h:d≠k) (v:Value):(a.put (some d) v).eval (.tmp k)=a.eval (.tmp k):=by
 simp [Act.put,Act.eval,Array.getD_eq_getD_getElem?,T3,h]
def ZrE {a:Act} {d k:Nat} (h:d≠k) (v u:Value):(a.put (some d) v).put (some k) u=(a.put (some k) u).put (some d) v:=by
 simp only [Act.put,Act.mk.injEq,and_true]
 apply Array.ext_getElem?
 intro i
 simp only [T3,Array.size_setIfInBounds]
 by_cases h1:d=i
 ·subst h1;simp [Ne.symm h]
 by_cases h2:k=i
 ·subst h2;simp [h]
 simp [h1,h2]
def ZBU (a:Act) (di df:Nat) (vI vF:Value) (i f:Bool):Act :=
 let b:=match i with | true=>a.put (some di) vI | false=>a
 match f with | true=>b.put (some df) vF | false=>b
variable {G:GE} {C:Cx} {e0:Env} {σ0:St} {w0:World} {Q:PQ} {ro:Option Nat} {n:Nat} {ds:Nat×List Deferred×Bool} {N:Nat} {Z:Array Value->Prop}
def ZrF (hC:CxOK G C ro e0 σ0 w0) {ops:Array Oper} (hd:∀o,o∈ops->∀d,o.dst=some d->d<N/\∀t v,Z t->Z (t.setIfInBounds d v)) {h:Hole} {D:HoleD} (hD:Zmm h=some D) {m:Nat} (h4:Hole4 ops m h.I h.S h.F h.H) (oA:ops[m]?=some h.A) (gA:h.A.guard=none)
  (eA:∀ed∈h.A.after,Region.binds .any ed=true->ed.on<m) (eIA:∃ed∈h.I.after,Region.binds .any ed=true/\ed.on=m) (eFA:∃ed∈h.F.after,Region.binds .any ed=true/\ed.on=m)
  {listed:Array Bool} {a:Act} {w:World} (hsz:listed.size=ops.size) (dt:∀k,k<ops.size->(listed.getD k false=true↔k<m)) (hp:ZP G e0 σ0 w0 ds N Z (ZnF C ops.toList h Q) .normal a w) :
  wpAnyIn (fw ro) n G.P .any ops (ZP G e0 σ0 w0 ds N Z Q) 5 listed a w:=by
 have hT:=hC.tab;have aca:=h4.size;obtain ⟨pe,f,e,σ,hq,hx,hS,hF,hL,hN,bc,hZ⟩:=hp
 cases pe with
 | exit i=>cases hx
 | goto i=>cases hx
 | ret=>cases hx
 | panic p=>obtain ⟨_,hx,_⟩:=hx;cases hx
 | normal =>
 obtain ⟨args,at',a1,a2,a3,a4,a5,a6,a7,a8,a9,a10,a11,a12,b1,b2,b3,n1,n2,n3⟩:=Za5 hD;obtain ⟨el,rows,zr,row,kk,tk0,c1,c2,c3,c4,c5,c6,c7,c8,c9,c10,c11,c12,hK⟩:=Zmn hD hq;have je:∀(j:Nat) (o:Oper) (d:Nat),ops[j]?=some o->o.dst=some d->d<N:=fun j o d ho mj=>(hd o (Sd ho) d mj).1
 have hdz:∀(j:Nat) (o:Oper) (d:Nat),ops[j]?=some o->o.dst=some d->∀t v,Z t->Z (t.setIfInBounds d v):=fun j o d ho mj=>(hd o (Sd ho) d mj).2
 have dA:=je m _ _ oA a8;have dI:=je _ _ _ h4.oI a9;have dF:=je _ _ _ h4.oF a10;have hρ:∀x,VRel G e σ w (ev f x) (a.eval x):=fun x=>ZbL hF x
 obtain ⟨hDR,hO,ax,agl⟩:DRel (okc e σ) w (.sl rows) (a.eval D.s)/\((a.eval D.s=.slice none 0 0/\rows=[])\/∃tok,tok∈σ.tk/\tok∉tk0/\Owned G e w tok el rows (a.eval D.s))/\(∀x,x∈tk0->x∈σ.tk)/\True:=by
  have hs:=hρ D.s;rcases c12 with ⟨e2,h1,rfl,rfl⟩ | ⟨tok,h1,h2,rfl⟩
  ·rw [h1] at hs;generalize a.eval D.s=v at hs
   cases hs with
   | nils _=>exact ⟨.slnil,.inl ⟨rfl,rfl⟩,fun _ h=>h,trivial⟩
  rw [h1] at hs;generalize a.eval D.s=v at hs
  cases hs with
  | sl _ _ _ _ hn hd ht=>exact ⟨hd,.inr ⟨tok,h2,fun hm=>((X8 _ _ _).1 hm).2 rfl,ht h2⟩,fun x hx=>((X8 _ _ _).1 hx).1,trivial⟩
 obtain ⟨w1,bb,off,cap,e1,y7,hcap,st1,S1,V1⟩:=Zji (ty:=h.A.type) hT hS c1 c2 c3 hDR tk0 ax hO c5 (hρ D.z) c8 c10 c11;have acf:VRel G e1 _ w1 (ev f D.x) (a.eval D.x):=(hρ D.x).step st1;obtain ⟨et,lg⟩:=ZrD acf c6;rw [c9] at et;obtain ⟨q1,q2,q3,e2,st2,S2,V2⟩:=Zoa hT S1 c2 c3 V1 sM hcap et;have f9:=hK;rw [YX] at f9;simp only [Xb,h4.gF] at f9;unfold Wn at f9
 simp only [a6,Y0,Zhr,Zl3,qop,Z3] at f9;rw [ZkM b3 sM,ZkM b3 sM] at f9;split at f9;rotate_left
 ·exact f9.elim
 rename_i fs du
 split at f9;rotate_left
 ·exact f9.elim
 rename_i fo ft rq
 split at f9;rotate_left
 ·rename_i r oo bm
  rw [YX] at f9;simp only [Xb,h4.gH] at f9;unfold Wn at f9
  simp only [a7,Y0,eop,a10] at f9;have:ev (Yo (Yo (Yo f (some D.da) (.sl (σ.nx+1) el (rows++[row]))) (some D.di) .undef) (some D.df) (.elem r (oo+fo))) (.tmp D.df)=.elem r (oo+fo):=Yx _ _ _;rw [this] at f9;exact f9.elim
 ·exact f9.elim
 rename_i b oo acg
 rw [YX] at f9;simp only [Xb,h4.gH] at f9;unfold Wn at f9
 simp only [a7,Y0,eop,a10,ZZ,Z3] at f9;generalize hf4:Yo (Yo (Yo f (some D.da) (.sl (σ.nx+1) el (rows++[row]))) (some D.di) .undef) (some D.df) (.ptr b (oo+fo))=f4 at f9;have k1:ev f4 (.tmp D.df)=.ptr b (oo+fo):=by rw [<- hf4];exact Yx _ _ _
 have k2:ev f4 (.tmp D.da)=.sl (σ.nx+1) el (rows++[row]):=by
  rw [<- hf4];show Uc (Uc (Uc f D.da _) D.di _) D.df _ D.da=_;rw [Xe _ _ (Ne.symm n2),Xe _ _ (Ne.symm n1),Yx]
 rw [k1,k2] at f9;simp only [asT,PV.cells] at f9;split at f9;rotate_left
 ·exact f9.elim
 rename_i ty cs ef
 split at f9
 ·exact f9.elim
 rotate_left
 ·exact f9.elim
 rename_i l1 l2 l3
 rw [a12] at f9;have hth:(C.T.get D.th).size=1:=(Tp l1).symm;have ot:oo+fo+1<=cs.length:=Tc l2;have hxf:=hρ D.xf;rw [acg] at hxf;generalize hvx:a.eval D.xf=vx at hxf
 cases hxf with
 | ptr _ _ cp =>
 have w5:e1.β b=e.β b:=st1.beta b cp;have l8:e.β b≠bb:=by rw [<- w5];exact q3 b cp
 obtain ⟨vs,kz,oi,_⟩:=S1.box b _ ef;rw [w5] at kz
 let v':Value:=.slice (some ⟨bb,off,none⟩) (rows.length+1) cap
 let oS:=off+rows.length * (C.T.get el).size
 let us:=(a.eval D.x).cells.toList
 let vI:Value:=.pointer (some ⟨bb,oS,none⟩)
 let vF:Value:=.pointer (some ⟨e.β b,oo+fo,none⟩)
 let WW:Bool->Bool->World:=fun s g =>
  let u:=match s with | true=>w1.setCells bb oS us | false=>w1
  match g with | true=>u.setCells (e.β b) (oo+fo) [v'] | false=>u
 have y8:D.da<a.tmps.size:=by rw [hN];exact dA
 have hNI:∀v:Value,D.di<(a.put (some D.da) v).tmps.size:=fun v=>by rw [Yt,hN];exact dI
 let A0:=a.put (some D.da) v'
 let AA:=ZBU A0 D.di D.df vI vF
 have evA:∀i g,(AA i g).eval (.tmp D.da)=v':=fun i g=>by
  cases i <;> cases g
  ·exact ZbQ y8 v'
  ·exact (Zc5 (Ne.symm n2) vF).trans (ZbQ y8 v')
  ·exact (Zc5 (Ne.symm n1) vI).trans (ZbQ y8 v')
  exact (Zc5 (Ne.symm n2) vF).trans ((Zc5 (Ne.symm n1) vI).trans (ZbQ y8 v'))
 have evX:∀x,Zc4 x [D.da,D.di,D.df]=true->∀i g,(AA i g).eval x=a.eval x:=fun x hx i g=>by
  have h1:=Vj hx (a:=a) (d:=D.da) sM v'
  cases i <;> cases g
  ·exact h1
  ·exact (Vj hx (d:=D.df) sM vF).trans h1
  ·exact (Vj hx (d:=D.di) sM vI).trans h1
  exact (Vj hx (d:=D.df) sM vF).trans ((Vj hx (d:=D.di) sM vI).trans h1)
 have evI:∀g,(AA true g).eval (.tmp D.di)=vI:=fun g=>by
  cases g
  ·exact ZbQ (hNI v') vI
  exact (Zc5 (Ne.symm n3) vF).trans (ZbQ (hNI v') vI)
 have evF:∀i,(AA i true).eval (.tmp D.df)=vF:=fun i=>by
  cases i
  ·exact ZbQ (by rw [Yt,hN];exact dF) vF
  exact ZbQ (by rw [Yt,Yt,hN];exact dF) vF
 have acl:a.eval D.ix=.int kk (rows.length:Nat):=by
  have:=hρ D.ix;rw [c7] at this;exact this.dint
 have huw:∀(u:World),(∀k,k≠e.β b->u.heap[k]?=w1.heap[k]?)->(∀j,j<us.length->(u.cell? ⟨bb,oS+j,none⟩).isSome=true)/\(∀j,j<us.length->u.frozen? ⟨bb,oS+j,none⟩=false):=fun u hu=>by
  have h1:=hu bb (Ne.symm l8);exact ⟨fun j hj=>by have:=q1 j hj;simpa [World.cell?,h1] using this,fun j hj=>by have:=q2 j hj;simpa [World.frozen?,h1] using this⟩
 have hfw:∀(u:World),(∀k,k≠bb->u.heap[k]?=w1.heap[k]?)->(∀j,j<v'.cells.toList.length->(u.cell? ⟨e.β b,oo+fo+j,none⟩).isSome=true)/\(∀j,j<v'.cells.toList.length->u.frozen? ⟨e.β b,oo+fo+j,none⟩=false):=fun u hu=>by
  have h1:=(hu (e.β b) l8).trans kz;refine ⟨fun j hj=>?_,fun j hj=>by simp [World.frozen?,h1]⟩;have:j<1:=hj;have:oo+fo+j<vs.size:=oM;simp [World.cell?,h1,this]
 have cn:=(YL bb us oS w1).2.2.2;have dz:=(YL (e.β b) [v'] (oo+fo) w1).2.2.2;have rS:∀f' h',(h'=true->f'=true)->(execOp (AA true f').eval h.S).run G.P (WW false h')=.ok .skip (WW true h'):=fun f' h' _=>by
  have hx:(AA true f').eval D.x=a.eval D.x:=evX _ b2 _ _
  cases h' with
  | false =>
   obtain ⟨g1,g2⟩:=huw w1 (fun _ _=>rfl);exact VI hT (by rw [c4];exact c2) (by rw [c4];simpa using et.len) g1 g2 lg a5 (evI f') hx
  | true =>
  obtain ⟨g1,g2⟩:=huw (WW false true) dz;have:=VI (w:=WW false true) hT (by rw [c4];exact c2) (by rw [c4];simpa using et.len) g1 g2 lg a5 (evI f') hx;rw [this];show Result.ok Next.skip ((w1.setCells (e.β b) (oo+fo) [v']).setCells bb oS us)=.ok .skip ((w1.setCells bb oS us).setCells (e.β b) (oo+fo) [v']);rw [Zaa l8]
 have rH:∀i s,(s=true->i=true)->(execOp (AA i true).eval h.H).run G.P (WW s false)=.ok .skip (WW s true):=fun i s _=>by
  cases s with
  | false =>
   obtain ⟨g1,g2⟩:=hfw w1 (fun _ _=>rfl);exact VI hT (fun h0=>l3 h0) (by rw [hth];rfl) g1 g2 (fun u hu=>by simp [v',Value.cells] at hu;subst hu;rfl) a7 (evF i) (evA i true)
  | true =>
  obtain ⟨g1,g2⟩:=hfw (WW true false) cn;exact VI (w:=WW true false) hT (fun h0=>l3 h0) (by rw [hth];rfl) g1 g2 (fun u hu=>by simp [v',Value.cells] at hu;subst hu;rfl) a7 (evF i) (evA i true)
 have rI:∀f' h',(h'=true->f'=true)->(execOp (AA false f').eval h.I).run G.P (WW false h')=.ok (.value vI) (WW false h'):=fun f' h' _=>by
  have:=Zjl hT c1 c2 a4 (evA false f') ((evX _ b1 false f').trans acl) oM oM (WW false h');rw [this];simp [vI,oS]
 have rF:∀i s,(s=true->i=true)->(execOp (AA i false).eval h.F).run G.P (WW s false)=.ok (.value vF) (WW s false):=fun i s _ =>
  Zjk hT du rq a6 ((evX _ b3 i false).trans hvx) (WW s false)
 have pI:∀f',(AA false f').put h.I.dst vI=AA true f':=fun f'=>by
  rw [a9]
  cases f'
  ·rfl
  exact ZrE (Ne.symm n3) vF vI
 have pF:∀i,(AA i false).put h.F.dst vF=AA i true:=fun i=>by rw [a10];rfl
 have pS:∀f',(AA true f').put h.S.dst Go.undef=AA true f':=fun f'=>by rw [a11];rfl
 have pH:∀i,(AA i true).put h.H.dst Go.undef=AA i true:=fun i=>by rw [a12];rfl
 have ki:ZP G e0 σ0 w0 ds N Z Q .normal (AA true true) (WW true true):=by
  have y9:e2.β b=e.β b:=(st2.beta b (by exact cp)).trans w5;have F1:=(hF.step st1).step st2;have F2:=FRel.put (a:=a) (d:=some D.da) F1 V2 (fun i hi=>by cases hi;exact y8);have F3:=FRel.put (a:=a.put (some D.da) v') (d:=some D.di) F2 (.undef vI) (fun i hi=>by cases hi;exact hNI v');have F4:=FRel.put (a:=(a.put (some D.da) v').put (some D.di) vI) (d:=some D.df) (x:=.ptr b (oo+fo)) (v:=vF) F3 (by
   have:=VRel.ptr (G:=G) (e:=e2) (σ:=⟨σ.bx,(σ.nx+1)::Jd σ.nx (σ.nx::tk0),σ.nx+1+1⟩) (w:=w1.setCells bb oS us) b (oo+fo) cp;rw [y9] at this;exact this) (fun i hi=>by cases hi;rw [Yt,Yt,hN];exact dF)
  have cu:Jd σ.nx (σ.nx::tk0)=tk0:=by
   have acm:σ.nx∉tk0:=fun hm=>by have:=hS.tkn _ (ax _ hm);omega
   unfold Jd
   split
   ·exact ZhL acm
   rename_i hb;simp at hb
  have hsq:(⟨σ.bx,(σ.nx+1)::Jd σ.nx (σ.nx::tk0),σ.nx+1+1⟩:St)=⟨σ.bx,(σ.nx+1)::tk0,σ.nx+2⟩:=by rw [cu]
  obtain ⟨w4,sb,st4,S4⟩:=Jz (x:=.sl (σ.nx+1) el (rows++[row])) (v:=v') (t:=D.th) hT S2 ef V2 rfl (by rw [hth];rfl) ot (fun h0=>l3 h0);have kj:w4=WW true true:=by
   have h1:=rH true true (fun _=>rfl);unfold execOp at h1
   rw [y9] at sb;have h2:(AA true true).eval (.tmp D.df)=.pointer (some ⟨e.β b,oo+fo,none⟩):=evF true;have h3:(AA true true).eval (.tmp D.da)=v':=evA true true;have ut:(Instr.storeAt D.th (.pointer (some ⟨e.β b,oo+fo,none⟩)) v').run G.P (WW true false)=.ok () w4:=sb;simp only [a7,h2,h3,Sem.run_bind,ut,Result.andThen,Sem.run_pure] at h1
   cases h1;rfl
  subst kj;refine ⟨.normal,_,e2,_,f9,rfl,by rw [<- hsq];exact S4,?_,(((hL.trans st1.toLater).trans st2.toLater).trans (by rw [<- hsq];exact st4.toLater)),?_,?_,?_⟩
  ·have F5:=F4.step st4;rw [hsq] at F5;rw [<- hf4];exact F5
  ·show (((a.put (some D.da) v').put (some D.di) vI).put (some D.df) vF).tmps.size=N;rw [Yt,Yt,Yt,hN]
  ·show Marks ds _ _ _ (((a.put (some D.da) v').put (some D.di) vI).put (some D.df) vF).defers;rw [Xa,Xa,Xa,<- hsq];exact ((bc.later st1.toLater).later st2.toLater).later st4.toLater
  exact hdz _ _ _ h4.oF a10 _ _ (hdz _ _ _ h4.oI a9 _ _ (hdz _ _ _ oA a8 _ _ hZ))
 have lb:∀i b,i<ops.size->listed.getD i b=listed.getD i false:=fun i b hi=>by
  exact mq85
 have qb:∀k,k<ops.size->m<=k->listed.getD k false=false:=fun k hk hm=>by
  cases hv:listed.getD k false with
  | false=>rfl
  | true=>have:=(dt k hk).1 hv;omega
 refine ⟨fun hr=>?_,fun j hj=>?_⟩
 ·exfalso;have:m∈Region.ready .any ops listed:=mem_ready.2 ⟨by rw [lb _ _ oM];exact qb m oM (Tz _),h.A,oA,fun ed he hb=>(dt _ (by have:=eA ed he hb;omega)).2 (eA ed he hb)⟩;rw [hr] at this;cases this
 obtain ⟨h1,o,ho,cd⟩:=mem_ready.1 hj;have ab:=(To.1 ho).1;rw [lb _ _ ab] at h1;have y6:j=m:=by
  have jn:m<=j:=by
   apply Classical.byContradiction
   intro hn
   rw [(dt j ab).2 oM] at h1;cases h1
  have no:∀(o':Oper) (q:Nat),o=o'->(∃ed∈o'.after,Region.binds .any ed=true/\ed.on=q)->m<=q->q<ops.size->False:=fun o' q dj gh ig mf=>by
   subst dj;obtain ⟨ed,he,hb,qt⟩:=gh;have:=cd ed he hb;rw [qt,qb q mf ig] at this;cases this
  apply Classical.byContradiction
  intro ai
  have:j=m+1\/j=m+2\/j=m+3\/j=m+4:=oM;rcases this with rfl | rfl | rfl | rfl
  ·rw [h4.oI] at ho;exact no h.I m (Option.some.inj ho).symm eIA (Tz _) oM
  ·rw [h4.oS] at ho;exact no h.S (m+1) (Option.some.inj ho).symm h4.eSI oM oM
  ·rw [h4.oF] at ho;exact no h.F m (Option.some.inj ho).symm eFA (Tz _) oM
  rw [h4.oH] at ho;exact no h.H (m+3) (Option.some.inj ho).symm h4.eHF oM oM
 subst y6;have acn:∀c,h.A.op≠.defer c:=fun c hc=>by rw [a3] at hc;cases hc
 have aco:(execOp a.eval h.A).run G.P w=.ok (.value v') w1:=by
  have af:args=#[D.s,D.z]:=by rw [<- Array.toArray_toList (xs:=args),a1]
  have acp:at'=#[D.t,D.tx]:=by rw [<- Array.toArray_toList (xs:=at'),a2]
  subst af;subst acp;unfold execOp
  simp only [a3,resolve,invoke,builtin,Sem.run_bind,Sem.run_pure,Result.andThen];rw [show Array.map a.eval #[D.s,D.z]=#[a.eval D.s,a.eval D.z] from sM,y7]
 refine Zc3 oA gA acn (.inl aco) ?_;rw [a8];refine ZBT h4 (A:=AA) (W:=WW) rI pI rF pF rS pS rH pH ki 4 false false false false rfl (fun h=>by cases h) (fun h=>by cases h) _ (by simpa using hsz) fun q hq=>?_
 by_cases hqm:q=j
 ·subst hqm;have f8:q<listed.size:=by rw [hsz];exact hq
  simp [Array.getD,f8]
 have:(listed.setIfInBounds j true).getD q false=listed.getD q false:=getD_set_ne false (Ne.symm hqm);rw [this,dt q hq]
 constructor
 ·intro h;exact ⟨oM,oM,oM,oM⟩
 rintro ⟨x1,x2,x3,x4⟩
 have g1:q≠j+1:=fun e=>by cases x1 e
 have g2:q≠j+2:=fun e=>by cases x2 e
 have g3:q≠j+3:=fun e=>by cases x3 e
 have g4:q≠j+4:=fun e=>by cases x4 e
 omega
def XM {m:Nat} {l:List Edge} (h:JF m l=true):∃ed∈l,Region.binds .any ed=true/\ed.on=m:=by
 simp only [JF,List.any_eq_true,Tm] at h;obtain ⟨ed,h1,h2,h3⟩:=h;exact ⟨ed,h1,h2,Tp h3⟩
def Zc6 {l:List Edge}:∀{n:Nat},ZkL n l=true->∀p,p<n->∃ed∈l,Region.binds .any ed=true/\ed.on=p
 | 0,_,p,hp=>oM
 | n+1,h,p,hp=>by
  simp only [ZkL,Tm] at h
  by_cases hpn:p=n
  ·subst hpn;exact XM h.1
  exact Zc6 h.2 p oM
def XE {m:Nat} {l:List Edge} (h:Uk m l=true):∀ed∈l,Region.binds .any ed=true->ed.on<=m:=fun ed he hb=>by
 have:=Tq.1 h ed he;rw [hb] at this;exact Tc (by simpa using this)
def XN {o:Oper} (h:JE o=true):o.guard=none:=by
 unfold JE at h
 split at h
 ·assumption
 cases h
def Zmo (hC:CxOK G C ro e0 σ0 w0) (hM:CxMono C) {ops:Array Oper} (hd:∀o,o∈ops->∀d,o.dst=some d->d<N/\∀t v,Z t->Z (t.setIfInBounds d v)) {h:Hole} (hh:ZeV ops.toList=some h) (ao:Zob ops.toList h=true)
  {e:Env} {σ:St} {w:World} {a:Act} {f:Frame} (hS:SRel G e σ w) (hF:FRel G e σ w f a.tmps) (hL:Later e0 σ0 w0 e σ w) (hN:a.tmps.size=N) (bc:Marks ds e σ w a.defers) (hZ:Z a.tmps)
  (hW:WP C ops.toList (W5 ops.toList []) (ZnF C ops.toList h Q) (V3 h.pre.length (ZK 0 h.pre)) [] f σ) :
  wpAnyIn (fw ro) n G.P .any ops (ZP G e0 σ0 w0 ds N Z Q) ops.size (Array.replicate ops.size false) a w:=by
 have kl:=Zjj hh;simp only [Zob,Tm] at ao;obtain ⟨⟨⟨⟨⟨⟨⟨⟨⟨⟨⟨⟨⟨⟨⟨⟨⟨⟨⟨⟨k1,k2⟩,k3⟩,k4⟩,k5⟩,k6⟩,k7⟩,k8⟩,k9⟩,k10⟩,k11⟩,k12⟩,k13⟩,k14⟩,k15⟩,k16⟩,k17⟩,k18⟩,k19⟩,k20⟩,k21⟩:=ao
 cases hD:Zmm h with
 | none=>rw [hD] at k1;cases k1
 | some D =>
 obtain ⟨args,at',a1,a2,a3,a4,a5,a6,a7,a8,a9,a10,a11,a12,b1,b2,b3,n1,n2,n3⟩:=Za5 hD;generalize hm:h.pre.length=m at *;have cx:ops.size=m+5:=by rw [<- Sz,kl];simp [hm]
 have at5:∀k,k<5->ops[m+k]?=[h.A,h.I,h.S,h.F,h.H][k]?:=fun k hk=>by
  rw [<- Tx,kl,T5 oM,hm];simp
 have oA:ops[m]?=some h.A:=at5 0 oM;have h4:Hole4 ops m h.I h.S h.F h.H:={
  size:=cx
  oI:=at5 1 oM
  oS:=at5 2 oM
  oF:=at5 3 oM
  oH:=at5 4 oM
  gI:=XN k3
  gS:=XN k4
  gF:=XN k5
  gH:=XN k6
  nI:=fun c hc=>by rw [a4] at hc;cases hc
  nS:=fun c hc=>by rw [a5] at hc;cases hc
  nF:=fun c hc=>by rw [a6] at hc;cases hc
  nH:=fun c hc=>by rw [a7] at hc;cases hc
  eI:=fun ed he hb=>XE k7 ed (TN.1 he) hb
  eF:=fun ed he hb=>XE k8 ed (TN.1 he) hb
  eS:=fun ed he hb=>XE k9 ed (TN.1 he) hb
  eH:=fun ed he hb=>by
   have:=Tq.1 k10 ed (TN.1 he);rw [hb] at this;simp only [Bool.not_true,SL,Sm] at this;rcases this with h | h
   ·exact .inl (Tc h)
   exact .inr (Tp h)
  eSI:=let ⟨ed,h1,h2⟩:=XM k11;⟨ed,TN.2 h1,h2⟩
  eHF:=let ⟨ed,h1,h2⟩:=XM k12;⟨ed,TN.2 h1,h2⟩ }
 have eIA:∃ed∈h.I.after,Region.binds .any ed=true/\ed.on=m:=let ⟨ed,h1,h2⟩:=XM k13;⟨ed,TN.2 h1,h2⟩;have eFA:∃ed∈h.F.after,Region.binds .any ed=true/\ed.on=m:=let ⟨ed,h1,h2⟩:=XM k14;⟨ed,TN.2 h1,h2⟩;have yq:1<=m:=Tc k17;have eA:∀ed∈h.A.after,Region.binds .any ed=true->ed.on<m:=fun ed he hb=>by
  cases m with
  | zero=>omega
  | succ k=>have:=XE k16 ed (TN.1 he) hb;omega
 have cy:∀p∈V3 m (ZK 0 h.pre),p.1<m/\ops[p.1]?=some p.2:=fun p hp=>by
  have h1:=(XK (UP hp)).2;simp only [Nat.sub_zero] at h1;have h2:=(Tk.1 h1).1;rw [hm] at h2;exact ⟨h2,by rw [<- Tx,kl,TU oM];exact h1⟩
 have kg:∀k,k<m->∃p∈V3 m (ZK 0 h.pre),p.1=k:=fun k hk=>JC k20 k hk
 have aa:(V3 m (ZK 0 h.pre)).length=m:=Tp k18;have:=Zfa (n:=n) hC hM hd (m:=m) (t:=5) (QQ:=ZP G e0 σ0 w0 ds N Z Q) (ms:=W5 ops.toList []) (fun i o hi ho=>by
   obtain ⟨p,hp,rfl⟩:=kg i hi;have:=(cy p hp).2;rw [ho] at this
   cases this
   exact WV k21 p hp) cx (fun j o hj ho=>by
   have ab:=(To.1 ho).1;have:j=m\/j=m+1\/j=m+2\/j=m+3\/j=m+4:=oM;rcases this with rfl | rfl | rfl | rfl | rfl
   ·rw [oA] at ho;cases ho;exact .inl fun p hp=>let ⟨ed,h1,h2⟩:=Zc6 k15 p hp;⟨ed,TN.2 h1,h2⟩
   ·rw [h4.oI] at ho;cases ho;obtain ⟨ed,h1,h2,h3⟩:=eIA;exact .inr ⟨ed,h1,h2,oM,oM⟩
   ·rw [h4.oS] at ho;cases ho;obtain ⟨ed,h1,h2,h3⟩:=h4.eSI;exact .inr ⟨ed,h1,h2,oM,oM⟩
   ·rw [h4.oF] at ho;cases ho;obtain ⟨ed,h1,h2,h3⟩:=eFA;exact .inr ⟨ed,h1,h2,oM,oM⟩
   rw [h4.oH] at ho;cases ho;obtain ⟨ed,h1,h2,h3⟩:=h4.eHF;exact .inr ⟨ed,h1,h2,oM,oM⟩)
  (fun x a w hx hp=>by
   cases x with
   | normal=>exact absurd rfl hx
   | _ =>
   obtain ⟨pe,f',e',σ',hq,ib,au⟩:=hp;refine ⟨pe,f',e',σ',?_,ib,au⟩
   cases pe <;> first | exact hq | (cases ib;done) | (obtain ⟨_,ib,_⟩:=ib;cases ib))
  (fun listed a w hsz dt hp=>ZrF hC hd hD h4 oA (XN k2) eA eIA eFA hsz dt hp)
  m (V3 m (ZK 0 h.pre)) aa (fun p hp=>(cy p hp).1) (fun p hp=>(cy p hp).2) (Wt k19).1 (fun p hp e he hb=>(Wt k19).2 p hp e he hb)
  (listed:=Array.replicate ops.size false) sM (fun k hk=>by
   have:(Array.replicate ops.size false).getD k false=false:=by simp [Array.getD]
   rw [this];simp only [Tt,false_iff]
   rintro ⟨hkm,hh⟩
   obtain ⟨p,hp,he⟩:=kg k hkm;exact hh p hp he) (fun j y6 hj p hp=>by
   obtain ⟨q,hq,he⟩:=kg j y6;exact absurd he (hj q hq)) hS hF hL hN bc hZ hW
 rw [cx] at this |-;exact this
end
end Go.PM
end

section
namespace Go.PM
def waits_iff {o:Oper}:∀{left:List (Nat×Oper)},W6 o left=true↔∃p∈left,∃ed∈o.after,Region.binds .any ed=true/\ed.on=p.1
 | []=>by simp [W6]
 | (i,p)::l=>by
  unfold W6
  rw [Sm,waits_iff (left:=l)]
  constructor
  ·rintro (h | ⟨q,hq,h⟩)
   ·simp only [List.any_eq_true,Tm] at h;obtain ⟨ed,h1,h2,h3⟩:=h;exact ⟨(i,p),sM,ed,TN.2 h1,h2,Tp h3⟩
   exact ⟨q,by simp [hq],h⟩
  rintro ⟨q,hq,ed,h1,h2,h3⟩
  rcases Tv.1 hq with rfl | hq
  ·left
   simp only [List.any_eq_true,Tm];exact ⟨ed,TN.1 h1,h2,by simp at h3;subst h3;simp⟩
  exact .inr ⟨q,hq,ed,h1,h2,h3⟩
def Vk {left:List (Nat×Oper)}:∀{l:List (Nat×Oper)} {p:Nat×Oper},ZfY left l=some p->p∈l/\Y0 p.2.op=false/\W6 p.2 left=false
 | [],p,h=>by cases h
 | (i,o)::l,p,h=>by
  unfold ZfY at h
  split at h
  ·rename_i h1 h2;cases h;exact ⟨sM,h1,h2⟩
  obtain ⟨h1,h2⟩:=Vk h;exact ⟨TA _ h1,h2⟩
def Za6 {left:List (Nat×Oper)}:∀{l:List (Nat×Oper)},ZfY left l=none->∀p∈l,Y0 p.2.op=false->W6 p.2 left=true
 | [],h,p,hp,_=>by cases hp
 | (i,o)::l,h,p,hp,he=>by
  unfold ZfY at h
  split at h
  ·cases h
  rename_i jp
  rcases Tv.1 hp with rfl | hp
  ·cases hw:W6 o left with
   | true=>rfl
   | false=>exact (jp he hw).elim
  exact Za6 h p hp he
def conjE_iff {left:List (Nat×Oper)} {X:Nat->Oper->Prop}:∀{l:List (Nat×Oper)},Zl5 left l X↔∀p∈l,W6 p.2 left=false->X p.1 p.2
 | []=>by simp [Zl5]
 | (i,o)::l=>by
  unfold Zl5
  cases hw:W6 o left with
  | true => simp only [conjE_iff (l := l)]; constructor
            ·intro h p hp qc
             rcases Tv.1 hp with rfl | hp
             ·simp only at qc;rw [hw] at qc;cases qc
             exact h p hp qc
            exact fun h p hp=>h p (TA _ hp)
  | false => simp only [conjE_iff (l := l)]; constructor
             ·rintro ⟨h1,h2⟩ p hp qc
              rcases Tv.1 hp with rfl | hp
              ·exact h1
              exact h2 p hp qc
             exact fun h=>⟨h (i,o) sM hw,fun p hp=>h p (TA _ hp)⟩
def XO {i:Nat}:∀{l:List (Nat×Oper)},l.Pairwise (fun a b=>a.1≠b.1)->∀p,p∈Yr i l↔p∈l/\p.1≠i
 | [],_,p=>by simp [Yr]
 | (j,o)::l,hp,p=>by
  have h1:=List.pairwise_cons.1 hp;unfold Yr
  split
  ·rename_i hb
   have:=Tp hb;subst this
   constructor
   ·exact fun h=>⟨TA _ h,fun e=>h1.1 p h e.symm⟩
   rintro ⟨h,ai⟩
   rcases Tv.1 h with rfl | h
   ·exact absurd rfl ai
   exact h
  rename_i hb
  have ai:i≠j:=fun e=>by subst e;simp at hb
  rw [Tv,Tv,XO h1.2]
  constructor
  ·rintro (rfl | h)
   ·exact ⟨.inl rfl,fun e=>ai e.symm⟩
   exact ⟨.inr h.1,h.2⟩
  rintro ⟨rfl | h,h2⟩
  ·exact .inl rfl
  exact .inr ⟨h,h2⟩
def ZkN {i:Nat}:∀{l:List (Nat×Oper)},l.Pairwise (fun a b=>a.1≠b.1)->(Yr i l).Pairwise (fun a b=>a.1≠b.1)
 | [],h=>h
 | (j,o)::l,h=>by
  have h1:=List.pairwise_cons.1 h;unfold Yr
  split
  ·exact h1.2
  exact List.Pairwise.cons (fun p hp=>h1.1 p (Yy hp)) (ZkN h1.2)
def Vl {i:Nat} {o:Oper}:∀{l:List (Nat×Oper)},(i,o)∈l->(Yr i l).length+1=l.length
 | [],h=>by cases h
 | (j,p)::l,h=>by
  unfold Yr
  split
  ·rfl
  rename_i hb
  rcases Tv.1 h with h | h
  ·cases h;simp at hb
  rw [Td,Vl h];rfl
def Za7 {i j:Nat}:∀{l:List (Nat×Oper)},Yr i (Yr j l)=Yr j (Yr i l)
 | []=>rfl
 | (k,o)::l=>by
  by_cases h1:j=k
  ·subst h1
   by_cases h2:i=j
   ·subst h2;rfl
   have hb:Nat.beq i j=false:=by cases h:Nat.beq i j with | false=>rfl | true=>exact absurd (Tp h) h2
   simp [Yr,hb]
  have hb:Nat.beq j k=false:=by cases h:Nat.beq j k with | false=>rfl | true=>exact absurd (Tp h) h1
  by_cases h2:i=k
  ·subst h2;simp [Yr,hb]
  have hc:Nat.beq i k=false:=by cases h:Nat.beq i k with | false=>rfl | true=>exact absurd (Tp h) h2
  simp [Yr,hb,hc,Za7 (l:=l)]
section
variable {C:Cx} {all:List Oper} {ms:List Nat} {Q:PQ} {f:Frame} {σ:St}
def UQ (hM:CxMono C) {i:Nat} {o:Oper} {ctx:List Ld} {K K':List Ld->Frame->St->Prop} (hK:∀c f σ,K c f σ->K' c f σ) (h:Wo C all ms Q i o ctx f σ K):Wo C all ms Q i o ctx f σ K':=by
 unfold Wo at h |-
 refine Za1 hM (fun f' σ' hk=>?_) h;exact mq118
def Zab (hM:CxMono C):∀(n:Nat) (l:List (Nat×Oper)) (c c':List Ld) (f:Frame) (σ:St),(∀d,d∈c'->d∈c)->Wp C all ms Q n l c f σ->Wp C all ms Q n l c' f σ
 | 0,[],_,_,_,_,_,h=>h
 | _+1,[],_,_,_,_,_,h=>h
 | 0,_::_,_,_,_,_,_,h=>h.elim
 | n+1,x::l,c,c',f,σ,hs,h=>by
  unfold Wp at h |-
  split at h
  ·exact ZcY hM hs (fun c c' f σ=>Zab hM n _ c c' f σ) h
  rw [conjE_iff] at h |-;exact fun p hp hw=>ZcY hM hs (fun c c' f σ=>Zab hM n _ c c' f σ) (h p hp hw)
structure Rem (all:List Oper) (ms:List Nat) (L:List (Nat×Oper)):Prop where
 pw:L.Pairwise (fun a b=>a.1≠b.1)
 msk:∀p∈L,ms.getD p.1 0=Jf ms p.2.after.toList 0
 apart:∀p∈L,∀q∈L,p.1≠q.1->Y0 p.2.op=false->anc ms p.1 q.1=false->anc ms q.1 p.1=false->ZbO all p.2 q.2=true
 down:∀j,(∀p∈L,p.1≠j)->∀q∈L,anc ms q.1 j=false
def Rem.noanc {L:List (Nat×Oper)} (h:Rem all ms L) {p:Nat×Oper} (hp:p∈L) (hw:W6 p.2 L=false):∀q∈L,anc ms q.1 p.1=false:=fun q hq=>by
 cases ha:anc ms q.1 p.1 with
 | false=>rfl
 | true =>
 exfalso;unfold anc at ha
 rw [h.msk p hp] at ha;rcases Vi ha with h2 | ⟨ed,he,hb,h2⟩
 ·simp at h2
 have jp:∀x∈L,x.1≠ed.on:=fun x hx e=>by
  have:W6 p.2 L=true:=waits_iff.2 ⟨x,hx,ed,TN.2 he,hb,e.symm⟩;rw [hw] at this;cases this
 rcases h2 with h2 | h2
 ·exact jp q hq h2.symm
 rw [h.down ed.on jp q hq] at h2;cases h2
def Rem.drop {L:List (Nat×Oper)} (h:Rem all ms L) {p:Nat×Oper} (hp:p∈L) (hw:W6 p.2 L=false):Rem all ms (Yr p.1 L) where
 pw:=ZkN h.pw
 msk:=fun q hq=>h.msk q (Yy hq)
 apart:=fun a ha b hb=>h.apart a (Yy ha) b (Yy hb)
 down:=fun j hj q hq=>by
  by_cases hjp:j=p.1
  ·subst hjp;exact h.noanc hp hw q (Yy hq)
  refine h.down j (fun x hx e=>?_) q (Yy hq);exact hj x ((XO h.pw x).2 ⟨hx,fun e2=>hjp (e.symm.trans e2)⟩) e
def UR {o:Oper} {i:Nat} {L:List (Nat×Oper)} (h:W6 o L=false):W6 o (Yr i L)=false:=by
 cases hw:W6 o (Yr i L) with
 | false=>rfl
 | true =>
 obtain ⟨p,hp,hr⟩:=waits_iff.1 hw;rw [waits_iff.2 ⟨p,Yy hp,hr⟩] at h;cases h
def Zoc {L:List (Nat×Oper)} (h:L.Pairwise (fun a b=>a.1≠b.1)) {p q:Nat×Oper} (hp:p∈L) (hq:q∈L) (he:p.1=q.1):p=q:=by
 induction L with
 | nil=>cases hp
 | cons x l ih =>
 have h1:=List.pairwise_cons.1 h;rcases Tv.1 hp with rl | rl <;> rcases Tv.1 hq with ig | ig
 ·rw [rl,ig]
 ·exact absurd (rl ▸ he) (h1.1 q ig)
 ·exact absurd (ig ▸ he.symm) (h1.1 p rl)
 exact ih h1.2 rl ig
def Zod (hM:CxMono C):∀(k:Nat),(∀(L:List (Nat×Oper)),L.length=k+1->Rem all ms L->∀p∈L,W6 p.2 L=false->∀ctx f σ,Wp C all ms Q (k+1) L ctx f σ->Wo C all ms Q p.1 p.2 ctx f σ (Wp C all ms Q k (Yr p.1 L))) /\
  (∀(L:List (Nat×Oper)),L.length=k+1->Rem all ms L->∀p∈L,Y0 p.2.op=false->W6 p.2 L=false->∀ctx f σ,Wo C all ms Q p.1 p.2 ctx f σ (Wp C all ms Q k (Yr p.1 L))->Wp C all ms Q (k+1) L ctx f σ):=by
 intro k
 induction k with
 | zero =>
  have one:∀(L:List (Nat×Oper)),L.length=0+1->∀p∈L,L=[p]:=fun L hl p hp=>by
   cases L with
   | nil=>cases hp
   | cons x l =>
   cases l with
   | nil=>rw [List.mem_singleton.1 hp]
   | cons y l=>simp at hl
  refine ⟨fun L hl hR p hp hw ctx f σ h=>?_,fun L hl hR p hp he hw ctx f σ h=>?_⟩
  ·obtain rfl:=one L hl p hp;unfold Wp at h
   split at h
   ·rename_i i o i6
    have:=(Vk i6).1;simp at this;subst this;exact h
   exact (conjE_iff.1 h) p hp hw
  obtain rfl:=one L hl p hp;unfold Wp
  split
  ·rename_i i o i6
   have:=(Vk i6).1;simp at this;subst this;exact h
  rename_i i6
  have:=Za6 i6 p hp he;rw [hw] at this;cases this
 | succ k ih =>
 obtain ⟨ihA,ihB⟩:=ih;refine ⟨fun L hl hR p hp hw ctx f σ h=>?_,fun L hl hR p hp he hw ctx f σ h=>?_⟩
 ·cases L with
  | nil=>cases hp
  | cons x l =>
  unfold Wp at h
  split at h
  ·rename_i j q i6
   obtain ⟨g1,g2,g3⟩:=Vk i6
   by_cases hj:j=p.1
   ·have:=Zoc hR.pw g1 hp hj;subst this;exact h
   have hpd:p∈Yr j (x::l):=(XO hR.pw p).2 ⟨hp,fun e=>hj e.symm⟩;have hjd:(j,q)∈Yr p.1 (x::l):=(XO hR.pw (j,q)).2 ⟨g1,hj⟩;have aa:(Yr j (x::l)).length=k+1:=by have:=Vl g1;omega
   have gj:(Yr p.1 (x::l)).length=k+1:=by have:=Vl (o:=p.2) hp;omega
   have h2:=UQ hM (fun c f σ hk=>ihA _ aa (hR.drop g1 g3) p hpd (UR hw) c f σ hk) h;have h3:=ZBS hM (fun c c' f σ=>Zab hM k _ c c' f σ) g2 (hR.apart _ g1 _ hp hj g2 (hR.noanc hp hw _ g1) (hR.noanc g1 g3 _ hp)) (hR.noanc hp hw _ g1) h2;rw [Za7] at h3;exact UQ hM (fun c f σ hk=>ihB _ gj (hR.drop hp hw) (j,q) hjd g2 (UR g3) c f σ hk) h3
  exact (conjE_iff.1 h) p hp hw
 cases L with
 | nil=>cases hp
 | cons x l =>
 unfold Wp
 split
 ·rename_i j q i6
  obtain ⟨g1,g2,g3⟩:=Vk i6
  by_cases hj:j=p.1
  ·have:=Zoc hR.pw g1 hp hj;subst this;exact h
  have hpd:p∈Yr j (x::l):=(XO hR.pw p).2 ⟨hp,fun e=>hj e.symm⟩;have hjd:(j,q)∈Yr p.1 (x::l):=(XO hR.pw (j,q)).2 ⟨g1,hj⟩;have aa:(Yr j (x::l)).length=k+1:=by have:=Vl g1;omega
  have gj:(Yr p.1 (x::l)).length=k+1:=by have:=Vl (o:=p.2) hp;omega
  have h2:=UQ hM (fun c f σ hk=>ihA _ gj (hR.drop hp hw) (j,q) hjd (UR g3) c f σ hk) h;have h3:=ZBS hM (fun c c' f σ=>Zab hM k _ c c' f σ) he (hR.apart _ hp _ g1 (fun e=>hj e.symm) he (hR.noanc g1 g3 _ hp) (hR.noanc hp hw _ g1)) (hR.noanc g1 g3 _ hp) h2;rw [Za7] at h3;exact UQ hM (fun c f σ hk=>ihB _ aa (hR.drop g1 g3) p hpd he (UR hw) c f σ hk) h3
 rename_i i6
 have:=Za6 i6 p hp he;rw [hw] at this;cases this
end
def Zu6 (i:Nat) (l:List Edge):Bool:=l.all fun ed=>!(Region.binds .any ed) || Nat.ble (ed.on+1) i
def ZrG (all:List Oper) (ms:List Nat) (L:List (Nat×Oper)):Bool :=
 L.all fun p=>L.all fun q=>Nat.beq p.1 q.1 || Y0 p.2.op || anc ms p.1 q.1 || anc ms q.1 p.1 || ZbO all p.2 q.2
def Zu7 (ops:List Oper):Bool :=
 let ms:=W5 ops []
 let L:=ZK 0 ops
 Za4 ms L && (L.all fun p=>Zu6 p.1 p.2.after.toList) && ZrG ops ms L
def Zc7:∀{l:List Oper} {i:Nat},(ZK i l).Pairwise (fun a b=>a.1≠b.1)
 | [],_=>List.Pairwise.nil
 | o::l,i=>List.Pairwise.cons (fun p hp=>by have:=(XK hp).1;simp only;omega) Zc7
def ZbR:∀{l:List Oper} {i:Nat},(ZK i l).length=l.length
 | [],_=>rfl
 | o::l,i=>by simp [ZK,ZbR (l:=l)]
def ZbS:∀{l:List Oper} {i k:Nat} {o:Oper},l[k]?=some o->(i+k,o)∈ZK i l
 | [],_,_,_,h=>by simp at h
 | x::l,i,k,o,h=>by
  unfold ZK
  cases k with
  | zero=>simp at h;subst h;simp
  | succ k =>
  have:=ZbS (l:=l) (i:=i+1) (k:=k) (o:=o) (by simpa using h);rw [show i+(k+1)=i+1+k by omega];exact TA _ this
section
variable {G:GE} {C:Cx} {e0 e:Env} {σ0 σ:St} {w0 w:World} {a:Act} {f:Frame} {Q:PQ} {ro:Option Nat} {n:Nat} {ds:Nat×List Deferred×Bool} {N:Nat} {Z:Array Value->Prop}
def Zoe (hC:CxOK G C ro e0 σ0 w0) (hM:CxMono C) {ops:Array Oper} (hd:∀o,o∈ops->∀d,o.dst=some d->d<N/\∀t v,Z t->Z (t.setIfInBounds d v)) {ms:List Nat} :
  ∀(k:Nat) (L:List (Nat×Oper)),L.length=k->Rem ops.toList ms L->(∀p∈L,ops[p.1]?=some p.2)->(∀p∈L,∀ed∈p.2.after,Region.binds .any ed=true->ed.on<p.1) ->
  ∀{listed:Array Bool},listed.size=ops.size->(∀k,k<ops.size->(listed.getD k false=true↔∀p∈L,p.1≠k)) ->
  ∀{ctx:List Ld} {e:Env} {σ:St} {w:World} {a:Act} {f:Frame},SRel G e σ w->FRel G e σ w f a.tmps->Later e0 σ0 w0 e σ w->a.tmps.size=N->Marks ds e σ w a.defers->Z a.tmps->Wp C ops.toList ms Q k L ctx f σ ->
  wpAnyIn (fw ro) n G.P .any ops (ZP G e0 σ0 w0 ds N Z Q) k listed a w
 | 0,L,hl,hR,bw,hed,listed,hsz,dt,ctx,e,σ,w,a,f,hS,hF,hL,hN,bc,hZ,h=>by
  have pr:L=[]:=Sr.1 hl;exact mq57
 | k+1,L,hl,hR,bw,hed,listed,hsz,dt,ctx,e,σ,w,a,f,hS,hF,hL,hN,bc,hZ,h=>by
  have lb:∀i b,i<ops.size->listed.getD i b=listed.getD i false:=fun i b hi=>by
   exact mq85
  have qb:∀p∈L,listed.getD p.1 true=false:=fun p hp=>by
   have ab:=(To.1 (bw p hp)).1;rw [lb _ _ ab]
   cases hv:listed.getD p.1 false with
   | false=>rfl
   | true=>exact absurd rfl ((dt p.1 ab).1 hv p hp)
  refine ⟨fun hr=>?_,fun i hi=>?_⟩
  ·exfalso;have:∀(m:Nat),∀p∈L,p.1<=m->False:=by
    intro m
    induction m with
    | zero =>
     intro p hp hm
     have ab:=(To.1 (bw p hp)).1;have:p.1∈Region.ready .any ops listed:=mem_ready.2 ⟨qb p hp,p.2,bw p hp,fun ed he hb=>by have:=hed p hp ed he hb;omega⟩;rw [hr] at this;cases this
    | succ m ih =>
    intro p hp hm
    have ab:=(To.1 (bw p hp)).1;have:p.1∈Region.ready .any ops listed:=mem_ready.2 ⟨qb p hp,p.2,bw p hp,fun ed he hb=>(dt ed.on (by have:=hed p hp ed he hb;omega)).2 fun q hq e=>by
     have:=hed p hp ed he hb;exact ih q hq oM⟩
    rw [hr] at this;cases this
   cases L with
   | nil=>simp at hl
   | cons x l=>exact this x.1 x sM (Tz _)
  obtain ⟨h1,o,ho,cd⟩:=mem_ready.1 hi;have ab:=(To.1 ho).1;rw [lb _ _ ab] at h1;have cy:∃p∈L,p.1=i:=by
   exact mq146
  obtain ⟨p,ff,rfl⟩:=cy;have um:p.2=o:=by have:=bw p ff;rw [ho] at this;exact (Option.some.inj this).symm
  subst um;have hw:W6 p.2 L=false:=by
   cases hv:W6 p.2 L with
   | false=>rfl
   | true =>
   obtain ⟨q,hq,ed,he,hb,qt⟩:=waits_iff.1 hv;have mf:=(To.1 (bw q hq)).1;have:=(dt q.1 mf).1 (by rw [<- qt];exact cd ed he hb);exact absurd rfl (this q hq)
  have jc:=(Zod hM k).1 L hl hR p ff hw ctx f σ h;have bi:=VG (ro:=ro) (n:=n) hC hS hF hL hN bc hZ (ops:=ops) (hd p.2 (Sd ho)) jc;have aa:(Yr p.1 L).length=k:=by have:=Vl (o:=p.2) ff;omega
  have next:∀a' w',KRel G e0 σ0 w0 ds N Z (fun f' σ'=>∃c,Wp C ops.toList ms Q k (Yr p.1 L) c f' σ') a' w'->wpAnyIn (fw ro) n G.P .any ops (ZP G e0 σ0 w0 ds N Z Q) k (listed.setIfInBounds p.1 true) a' w':=fun a' w' ⟨f',e',σ',⟨c,fm⟩,h2,h3,h4,h5,h6,h7⟩=>by
   refine Zoe hC hM hd k (Yr p.1 L) aa (hR.drop ff hw) (fun x hx=>bw x (Yy hx)) (fun x hx=>hed x (Yy hx)) (by simpa using hsz) (fun k hk=>?_) h2 h3 h4 h5 h6 h7 fm
   by_cases oz:k=p.1
   ·subst oz;have f8:p.1<listed.size:=by rw [hsz];exact ab
    have:(listed.setIfInBounds p.1 true).getD p.1 false=true:=by simp [Array.getD,f8]
    simp only [this,true_iff];exact fun x hx=>((XO hR.pw x).1 hx).2
   have:(listed.setIfInBounds p.1 true).getD k false=listed.getD k false:=getD_set_ne false (Ne.symm oz);rw [this,dt k hk]
   constructor
   ·exact fun hh x hx=>hh x (Yy hx)
   intro hh x hx ir
   exact hh x ((XO hR.pw x).2 ⟨hx,fun e2=>oz (ir.symm.trans e2)⟩) ir
  have hK:∀a' w',KRel G e0 σ0 w0 ds N Z (fun f' σ'=>match Y0 p.2.op with | true=>Zrs ms p.1 σ.bx σ'.bx ctx (Wp C ops.toList ms Q k (Yr p.1 L) ctx f' σ') | false=>Wp C ops.toList ms Q k (Yr p.1 L) (Ud C.T p.2 p.1 f ctx) f' σ') a' w' ->
    KRel G e0 σ0 w0 ds N Z (fun f' σ'=>∃c,Wp C ops.toList ms Q k (Yr p.1 L) c f' σ') a' w':=fun a' w' ⟨f',e',σ',hk,au⟩=>by
   refine ⟨f',e',σ',?_,au⟩
   cases hE:Y0 p.2.op with
   | true=>rw [hE] at hk;exact ⟨_,(chkL_iff.1 hk).2⟩
   | false=>rw [hE] at hk;exact ⟨_,hk⟩
  exact mq86
def Zof (hC:CxOK G C ro e0 σ0 w0) (hM:CxMono C) {ops:Array Oper} (hd:∀o,o∈ops->∀d,o.dst=some d->d<N/\∀t v,Z t->Z (t.setIfInBounds d v)) (ao:Zu7 ops.toList=true)
  (hS:SRel G e σ w) (hF:FRel G e σ w f a.tmps) (hL:Later e0 σ0 w0 e σ w) (hN:a.tmps.size=N) (bc:Marks ds e σ w a.defers) (hZ:Z a.tmps) (h:Wp C ops.toList (W5 ops.toList []) Q ops.toList.length (ZK 0 ops.toList) [] f σ) :
  wpAnyIn (fw ro) n G.P .any ops (ZP G e0 σ0 w0 ds N Z Q) ops.size (Array.replicate ops.size false) a w:=by
 simp only [Zu7,Tm] at ao;obtain ⟨⟨k1,k2⟩,k3⟩:=ao;have bw:∀p∈ZK 0 ops.toList,ops[p.1]?=some p.2:=fun p hp=>by
  have:=(XK hp).2;rw [<- Tx];simpa using this
 have kg:∀k,k<ops.size->∃p∈ZK 0 ops.toList,p.1=k:=fun k hk=>⟨_,ZbS (i:=0) (k:=k) (o:=ops[k]) (by rw [Tx,TB hk]),sM⟩
 have aa:ops.toList.length=ops.size:=Sz;rw [aa] at h;refine Zoe hC hM hd ops.size (ZK 0 ops.toList) (by rw [ZbR,aa]) ⟨Zc7,WV k1,fun p hp q hq ai he h1 h2=>?_,fun j hj q hq=>?_⟩ bw (fun p hp ed he hb=>?_) sM (fun k hk=>?_) hS hF hL hN bc hZ h
 ·have:=Tq.1 (Tq.1 k3 p hp) q hq;simp only [Sm] at this;rcases this with (((h | h) | h) | h) | h
  ·exact absurd (Tp h) ai
  ·rw [he] at h;cases h
  ·rw [h1] at h;cases h
  ·rw [h2] at h;cases h
  exact h
 ·by_cases l9:j<ops.size
  ·obtain ⟨p,hp,he⟩:=kg j l9;exact absurd he (hj p hp)
  exact mq63
 ·have:=Tq.1 (Tq.1 k2 p hp) ed (TN.1 he);rw [hb] at this;exact Tc (by simpa using this)
 exact mq111
end
end Go.PM
end
