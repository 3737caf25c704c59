/- A part of the proof: plain logic, contracts and laws over the given program. -/
import Derived.Test.YtbdleclcgopcdaaGreatDoorB12
set_option linter.unusedVariables false
set_option linter.unusedSimpArgs false
set_option linter.all false
set_option maxRecDepth 100000
set_option maxHeartbeats 16000000
noncomputable section
section
namespace Go.PM
def cxR (call:WX) (T:Tab) (N:Nat):Cx:=⟨T,fun g args σ K=>∃pe σ',call g args σ=some (pe,σ')/\K pe σ',Znk,Zc8,fun _=>ZuY,fun _=>N+1,fun _=>false,fun _=>false,true,fun _=>none,fun _=>false,fun _=>false⟩
def ZCA {call:WX} {T:Tab} {N:Nat}:CxR (cxR call T N) call T N:=⟨rfl,fun h hK=>⟨_,_,h,hK⟩,rfl,rfl,rfl,rfl⟩
def ZzC (call:WX) (T:Tab) (N:Nat) (fn:Func):RFn:=fun args σ =>
 match argT 0 args (FT.full (Nat.div fn.ntmps 64)),Nat.ble args.length fn.ntmps with
 | some t,true=>ZCz T fn σ.bx.length (Zjl call T N (YP fn) t σ)
 | _,_=>none
def ZCB (fn:Func):Bool:=match fn.body with
 | some c => (match ZE fn.ntmps c, fn.name == "runtime.NumGoroutine" with | true, false => true | _, _ => false)
 | none=>false
section
variable {G:GE} {T:Tab} {call:WX} {N:Nat}
def ZzD {fn : Func} (h : ZCB fn = true) : ∃ c, fn.body = some c /\ ZE fn.ntmps c = true /\ (fn.name == "runtime.NumGoroutine") = false := by
 unfold ZCB at h
 cases hb:fn.body with
 | none=>rw [hb] at h;cases h
 | some c =>
 rw [hb] at h;simp only at h;split at h
 ·rename_i h1 h2;exact ⟨c,rfl,h1,h2⟩
 cases h
def ZCC (call:WX):FuncId->List PV->St->(PEnd->St->Prop)->Prop:=fun g args σ K=>∃pe σ',call g args σ=some (pe,σ')/\K pe σ'
def ZuK (hT:TabOK T G.P) (az:G.P.follows .mixedOrders=true) (hc:CallSem G (ZCC call)) {g:FuncId} {fn:Func} (hf:G.P.funcs[g]?=some fn) (hk:ZCB fn=true):PCalls G g (Zr6 (ZzC call T N fn)):=by
 obtain ⟨c,hb,ao,ak⟩:=ZzD hk;refine ⟨Ze hf ak hb,fun args σ K hs n e w vs hS ha=>?_⟩;obtain ⟨pe,σ',hr,hK⟩:=hs;unfold ZzC at hr
 split at hr
 ·rename_i t ht hlen
  have ht:=ZmE (ZGf _) ht;have go:∀keep,(∀e1 t1 σ1,Zjl call T N (YP fn) t σ=some (e1,t1,σ1)->ZoK true T fn keep true K e1 t1.get σ1)->σ.bx.length<=keep->CallsIn (fw none) n G.P g vs w (YB G e σ w K):=fun keep hQ gl=>by
   cases af:Zjl call T N (YP fn) t σ with
   | none=>rw [af] at hr;cases hr
   | some out =>
   obtain ⟨e1,t1,σ1⟩:=out;refine Zcl (C:=cxR call T N) hT hc ⟨fun _ _ _ _ h=>h,fun _ _ _ _ _ h=>h⟩ (fun _ _ _ _ _ h=>h) az hf hb ao (ag:=true) (own:=true) gl (Tc hlen) ?_ hS ha;unfold WFG
   rw [<- ht];exact ZzA ZCA _ af (hQ _ _ _ af)
  unfold ZCz at hr
  split at hr
  ·exact mq100
  ·exact mq100
  ·rename_i v t1 σ1 af
   obtain ⟨keep,eh,bj⟩:=Zhu hr;exact go keep (fun e2 t2 σ2 h=>by rw [af] at h;cases h;exact bj hK) eh
  cases hr
 cases hr
end
def fnR (P:Program) (call:WX) (T:Tab) (N:Nat) (g:FuncId):RFn:=match P.funcs[g]? with
 | some fn=>(match ZCB fn with | true=>ZzC call T N fn | false=>fun _ _=>none)
 | none=>fun _ _=>none
def Zcc (P:Program) (T:Tab) (own:Nat->Bool) (N:Nat):Nat->WX
 | 0=>fun _ _ _=>none
 | n+1=>fun g args σ=>match own g with
  | true=>UW true (fnR P (Zcc P T own N n) T N g) args σ
  | false=>UW false (fnR P (Zcc P T own N n) T N g) (Xa args) σ
def Zsa {G:GE} {T:Tab} (hT:TabOK T G.P) (az:G.P.follows .mixedOrders=true) {own:Nat->Bool} {N:Nat} :
  ∀n,(∀g,(∃args σ x,fnR G.P (Zcc G.P T own N n) T N g args σ=some x)->PCalls G g (Zr6 (fnR G.P (Zcc G.P T own N n) T N g)))/\CallSem G (ZCC (Zcc G.P T own N n)):=by
 have step:∀call:WX,CallSem G (ZCC call)->∀g,(∃args σ x,fnR G.P call T N g args σ=some x)->PCalls G g (Zr6 (fnR G.P call T N g)):=by
  intro call hc g hx
  obtain ⟨a0,s0,x0,hx⟩:=hx;unfold fnR at hx |-
  cases hf:G.P.funcs[g]? with
  | none=>simp only [hf] at hx;cases hx
  | some fn =>
  simp only [hf] at hx;simp only
  cases hk:ZCB fn with
  | false=>simp only [hk] at hx;cases hx
  | true=>exact ZuK hT az hc hf hk
 intro n
 induction n with
 | zero =>
  have h0:CallSem G (ZCC (Zcc G.P T own N 0)):=fun g args σ K h=>by
   obtain ⟨_,_,h,_⟩:=h
   cases h
  exact ⟨step _ h0,h0⟩
 | succ n ih =>
 have hs:CallSem G (ZCC (Zcc G.P T own N (n+1))):=fun g args σ K h=>by
  obtain ⟨pe,σ',h,hK⟩:=h;simp only [Zcc] at h;have live:∀own' args,UW own' (fnR G.P (Zcc G.P T own N n) T N g) args σ=some (pe,σ')->PCalls G g (Zr6 (fnR G.P (Zcc G.P T own N n) T N g)):=fun own' args h=>by
   refine ih.1 g ?_;unfold UW at h
   simp only [Zd9] at h;split at h
   ·split at h
    ·simp only [Zd8,Zhk] at h;split at h
     ·rename_i hr;exact ⟨_,_,_,hr⟩
     cases h
    cases h
   cases h
  split at h
  ·exact Xy (live _ _ h) (Zeg h hK)
  have:=Xy (live _ _ h) (Zeg h hK);exact ⟨this.1,fun ro n e w vs hS ha=>this.2 ro n e w vs hS (ha.clean (Later.refl e σ w))⟩
 exact ⟨step _ hs,hs⟩
def Zou {G:GE} {T:Tab} (hT:TabOK T G.P) (az:G.P.follows .mixedOrders=true) {own:Nat->Bool} {N n:Nat} {g:FuncId} {args:List PV} {σ:St} {pe:PEnd} {σ':St}
  (h:fnR G.P (Zcc G.P T own N n) T N g args σ=some (pe,σ')):PCalls G g fun a s K=>a=args/\s=σ/\K pe σ' :=
 have hP:=(Zsa hT az n).1 g ⟨_,_,_,h⟩
 ⟨hP.enters,fun a s K hs=>by obtain ⟨rfl,rfl,hK⟩:=hs;exact hP.calls _ _ _ ⟨_,_,h,hK⟩⟩
end Go.PM
end
