/- A part of the proof: plain logic, contracts and laws over the given program. -/
import Derived.Lib.LaidTab
import Derived.Test.YtflgockgjnddnaaGreatDoorRows
import Derived.Test.YtflgockgjnddnaaGreatDoorTie
import Derived.Test.YtflgockgjnddnaaGreatDoorCards
import Derived.ProofKit
import Derived.OpenShut
import Derived.LaidMore
import Derived.Lay
import Derived.LaidSub
import Derived.SevenTiedAt
import Derived.Stop.Joined
import Derived.Stop.LaidErr
import Derived.Lib.LaidU8T
import Derived.JoinedOf
import Derived.Deep.Slices
import Derived.ChangeArms
import Derived.DataReads
import Derived.Test.YtflgockgjnddnaaGreatDoorU09
set_option linter.unusedVariables false
set_option linter.unusedSimpArgs false
set_option linter.all false
section
set_option maxRecDepth 100000
namespace Go.PM.Lex
def spP:Pc:=.blank 32
def nlP:Pc:=.blank 10
@[simp] theorem bs_sp:spP.bs=[32]:=rfl
@[simp] theorem bs_nl:nlP.bs=[10]:=rfl
@[simp] theorem ts_sp:spP.ts=[]:=rfl
@[simp] theorem ts_nl:nlP.ts=[]:=rfl
@[simp] theorem bs_nm (s:Bs):(nmP s).bs=s:=rfl
@[simp] theorem bs_sg (s:Bs):(sgP s).bs=s:=rfl
@[simp] theorem ts_nm (s:Bs):(nmP s).ts=[nmT s]:=rfl
@[simp] theorem ts_sg (s:Bs):(sgP s).ts=[sgT s]:=rfl
@[simp] theorem bs_tok (s:Bs) (t:T0):(Pc.tok s t).bs=s:=rfl
@[simp] theorem ts_tok (s:Bs) (t:T0):(Pc.tok s t).ts=[t]:=rfl
theorem ok_sp (k:Bs):OkPc spP k:=by show ws.contains 32=true;decide
def tailsP (sep:List Pc):List (List Pc)→List Pc
 | []=>[]
 | x::l=>sep++(x++tailsP sep l)
def commasP (sep:List Pc):List (List Pc)→List Pc
 | []=>[]
 | x::l=>x++tailsP sep l
def cmP:List Pc:=[sgP [44],spP]
def barP:List Pc:=[spP,sgP [124],spP]
theorem commas_tails (sep:Bs):∀(x:Bs) (l:List Bs),commas sep (x::l)=x++(l.map fun y=>sep++y).flatten
 | x,[]=>by simp [commas]
 | x,y::l=>by rw [commas,commas_tails sep y l];simp;intro h;cases h
theorem tailsP_bs (sep:List Pc):∀l:List (List Pc),bsP (tailsP sep l)=((l.map bsP).map fun y=>bsP sep++y).flatten
 | []=>rfl
 | x::l=>by simp [tailsP,tailsP_bs sep l]
theorem tailsP_ts {sep:List Pc} {w:Bs} (h:tsP sep=[sgT w]):∀l:List (List Pc),tsP (tailsP sep l)=tailsK w (l.map tsP)
 | []=>rfl
 | x::l=>by simp [tailsP,tailsK,tailsP_ts h l,h]
theorem commasP_bs (sep:List Pc) (l:List (List Pc)):bsP (commasP sep l)=commas (bsP sep) (l.map bsP):=by
 cases l with
 | nil=>rfl
 | cons x l=>rw [List.map_cons,commas_tails,commasP,bsP_app,tailsP_bs]
theorem commasP_ts {sep:List Pc} {w:Bs} (h:tsP sep=[sgT w]) (l:List (List Pc)):tsP (commasP sep l)=commasK w (l.map tsP):=by
 cases l with
 | nil=>rfl
 | cons x l=>rw [List.map_cons,commasK,commasP,tsP_app,tailsP_ts h]
theorem tailsP_ok {sep:List Pc} {Ok:Bs→Prop} (hsep:∀x,VF sep x) (hOk:∀x,Ok (bsP sep++x)):∀(l:List (List Pc)) (k:Bs),Ok k→(∀x∈l,∀k,Ok k→VF x k)→VF (tailsP sep l) k∧Ok (bsP (tailsP sep l)++k)
 | [],k,hk,h=>⟨trivial,hk⟩
 | x::l,k,hk,h=>by
  obtain ⟨h1,h2⟩:=tailsP_ok hsep hOk l k hk fun y hy=>h y (List.mem_cons_of_mem _ hy)
  rw [tailsP]
  refine ⟨?_,?_⟩
  ·rw [VF_app,VF_app]
   exact ⟨hsep _,h x (by simp) _ h2,h1⟩
  ·rw [bsP_app,List.append_assoc];exact hOk _
theorem commasP_ok {sep:List Pc} {Ok:Bs→Prop} (hsep:∀x,VF sep x) (hOk:∀x,Ok (bsP sep++x)) {l:List (List Pc)} {k:Bs} (hk:Ok k) (h:∀x∈l,∀k,Ok k→VF x k):VF (commasP sep l) k:=by
 cases l with
 | nil=>exact trivial
 | cons x l =>
  obtain ⟨h1,h2⟩:=tailsP_ok hsep hOk l k hk fun y hy=>h y (List.mem_cons_of_mem _ hy)
  rw [commasP,VF_app]
  exact ⟨h x (by simp) _ h2,h1⟩
def Aft (k:Bs):Prop:=k=[]∨(∃c z,k=c::z∧c∈([32,41,44,93]:Bs))∨k=[46]∨∃z,k=46::10::z
theorem aft_cons {c:UInt8} (hc:c∈([32,41,44,93]:Bs)) (z:Bs):Aft (c::z):=.inr (.inl ⟨c,z,rfl,hc⟩)
theorem fol_of {c:UInt8} (h:c.toNat<128∧isLetter c.toNat=false∧isDigit c.toNat=false∧c≠46) (z:Bs):Fol c z:=⟨h.1,h.2.1,h.2.2.1,fun e=>absurd e h.2.2.2⟩
def folBs:Bs:=[32,41,44,93,58,40,10,60,62,125,123]
theorem folk_cons {c:UInt8} (hc:c∈folBs) (z:Bs):FolK (c::z):=by
 have h:∀c∈folBs,c.toNat<128∧isLetter c.toNat=false∧isDigit c.toNat=false∧c≠46:=by decide
 exact .inr ⟨c,z,rfl,fol_of (h c hc) z⟩
theorem aft_fol {k:Bs} (h:Aft k):FolK k:=by
 rcases h with rfl | ⟨c,z,rfl,hc⟩ | rfl | ⟨z,rfl⟩
 ·exact .inl rfl
 ·have h:∀c∈([32,41,44,93]:Bs),c∈folBs:=by decide
  exact folk_cons (h c hc) z
 ·exact .inr ⟨46,[],rfl,by decide,by decide,by decide,fun _=>by rw [pk_nil];decide⟩
 ·exact .inr ⟨46,10::z,rfl,by decide,by decide,by decide,fun _=>by rw [pk_low1 (by decide)];decide⟩
theorem nam_name {s:Bs} (h:namB s=true):nameB s=true:=by
 simp only [namB,Bool.and_eq_true] at h;exact h.1
def freeW:List Bs:=[[40],[41],[91],[93],[123],[125],[44],[46],[61],[43],[45],[42],[37],[124],[36],[126],[58,45],[33,61],[60,61],[62,61],[60,58]]
theorem ok_free {w:Bs} (hw:w∈freeW) (k:Bs):OkPc (sgP w) k:=by
 have h:∀w∈freeW,(w∈twos∨w∈ones.map fun b=>[b])∧(w≠[58]∧w≠[33]∧w≠[60]∧w≠[62]∧w≠[47]):=by decide
 obtain ⟨h1,h2⟩:=h w hw
 exact ok_sg ⟨h1,.inl h2⟩
theorem ok_sgsp {w:Bs} (hw:w∈twos∨w∈ones.map fun b=>[b]) {c:UInt8} (hc:c=32∨c=10) (z:Bs):OkPc (sgP w) (c::z):=by
 refine ok_sg ⟨hw,.inr (.inr ⟨c,z,rfl,?_⟩)⟩
 rcases hc with rfl | rfl <;> decide
theorem cm_ok (k:Bs):VF cmP k:=⟨ok_free (by decide) _,ok_sp _,trivial⟩
def opP (op:Nat):Pc:=if 15≤op∧op≤19 then nmP (wordF op) else sgP (wordF op)
def parPc (want:Nat) (p:Nat×List Pc):List Pc:=if p.1<want then sgP [40]::(p.2++[sgP [41]]) else p.2
def exAP (w1 w2:Nat) (mid:List Pc):List (Nat×List Pc)→List Pc
 | []=>[]
 | [a]=>parPc w1 a
 | a::b::_=>parPc w1 a++(mid++parPc w2 b)
def brP (fr fin:Bs) (ps:List (List Pc)):List Pc:=sgP fr::(commasP cmP ps++[sgP fin])
def exNP (op:Nat) (text:Bs) (n:Int) (ps:List (Nat×List Pc)):List Pc :=
 if lineF op<5 then exAP (lineF op) (lineF op+1) [spP,opP op,spP] ps
 else if lineF op=5 then sgP (wordF op)::exAP 5 5 [] ps
 else if wordF op≠[] then nmP (wordF op)::brP [40] [41] (ps.map Prod.snd)
 else if op=6 then brP [91] [93] (ps.map Prod.snd)
 else if op=7 then sgP [36]::nmP text::(if ps.length=0 then [] else brP [40] [41] (ps.map Prod.snd))
 else if op=3 then [.tok (numT n) ⟨2,[],n⟩]
 else if op=4 then [.tok (quoT text) ⟨3,text,0⟩]
 else if op=5 then [nmP [110,105,108]]
 else if op=2 then [nmP [95]]
 else [nmP text]
mutual
def exP:Ex→List Pc
 | .mk op text n args _=>exNP op text n (exPsP args)
def exPsP:List Ex→List (Nat×List Pc)
 | []=>[]
 | e::l=>(lineF (opE e),exP e)::exPsP l
end
theorem exPsP_eq (l:List Ex):exPsP l=l.map fun e=>(lineF (opE e),exP e):=by induction l with | nil=>rfl | cons x l ih=>simp [exPsP,ih]
theorem exP_mk (op:Nat) (t:Bs) (n:Int) (l:List Ex) (a:Nat):exP (.mk op t n l a)=exNP op t n (exPsP l):=by rw [exP]
def bs2 (p:Nat×List Pc):Nat×Bs:=(p.1,bsP p.2)
def ts2 (p:Nat×List Pc):Nat×Ts:=(p.1,tsP p.2)
theorem parPc_bs (w:Nat) (p:Nat×List Pc):bsP (parPc w p)=parP w (bs2 p):=by
 unfold parPc parP bs2
 simp only
 split <;> simp
theorem parPc_ts (w:Nat) (p:Nat×List Pc):tsP (parPc w p)=parK w (ts2 p):=by
 unfold parPc parK ts2
 simp only
 split <;> simp
theorem exAP_bs (w1 w2:Nat) (mid:List Pc) (l:List (Nat×List Pc)):bsP (exAP w1 w2 mid l)=exA w1 w2 (bsP mid) (l.map bs2):=by
 match l with
 | []=>rfl
 | [a]=>simp [exAP,exA,parPc_bs]
 | a::b::l=>simp [exAP,exA,parPc_bs]
theorem exAP_ts (w1 w2:Nat) (mid:List Pc) (l:List (Nat×List Pc)):tsP (exAP w1 w2 mid l)=exAK w1 w2 (tsP mid) (l.map ts2):=by
 match l with
 | []=>rfl
 | [a]=>simp [exAP,exAK,parPc_ts]
 | a::b::l=>simp [exAP,exAK,parPc_ts]
theorem cm_bs:bsP cmP=cmm:=rfl
theorem cm_ts:tsP cmP=[sgT [44]]:=rfl
theorem brP_bs (fr fin:Bs) (l:List (List Pc)):bsP (brP fr fin l)=fr++(commas cmm (l.map bsP)++fin):=by simp [brP,commasP_bs,cm_bs]
theorem brP_ts (fr fin:Bs) (l:List (List Pc)):tsP (brP fr fin l)=brK fr fin (l.map tsP):=by simp [brP,brK,commasP_ts cm_ts]
theorem opP_bs (op:Nat):(opP op).bs=wordF op:=by unfold opP;split <;> rfl
theorem opP_ts (op:Nat):(opP op).ts=[opT op]:=by unfold opP opT;split <;> rfl
theorem snd_bs2 (l:List (Nat×List Pc)):(l.map Prod.snd).map bsP=(l.map bs2).map Prod.snd:=by rw [List.map_map,List.map_map];rfl
theorem snd_ts2 (l:List (Nat×List Pc)):(l.map Prod.snd).map tsP=(l.map ts2).map Prod.snd:=by rw [List.map_map,List.map_map];rfl
theorem exNP_bs (op:Nat) (t:Bs) (n:Int) (l:List (Nat×List Pc)):bsP (exNP op t n l)=exN op t n (l.map bs2):=by
 unfold exNP exN
 split
 ·rw [exAP_bs];simp [opP_bs]
 split
 ·rw [bsP_cons,exAP_bs];rfl
 split
 ·rw [bsP_cons,brP_bs,snd_bs2];rfl
 split
 ·rw [brP_bs,snd_bs2]
 split
 ·rw [bsP_cons,bsP_cons,List.length_map]
  split
  ·rfl
  ·rw [brP_bs,snd_bs2];rfl
 split
 ·simp
 split
 ·simp
 split
 ·simp
 split
 ·simp
 ·simp
theorem exNP_ts (op:Nat) (t:Bs) (n:Int) (l:List (Nat×List Pc)):tsP (exNP op t n l)=exNK op t n (l.map ts2):=by
 unfold exNP exNK
 split
 ·rw [exAP_ts];simp [opP_ts]
 split
 ·rw [tsP_cons,exAP_ts];rfl
 split
 ·rw [tsP_cons,brP_ts,snd_ts2];rfl
 split
 ·rw [brP_ts,snd_ts2]
 split
 ·rw [tsP_cons,tsP_cons,List.length_map]
  split
  ·rfl
  ·rw [brP_ts,snd_ts2];rfl
 split
 ·simp
 split
 ·simp
 split
 ·simp
 split
 ·simp
 ·simp
mutual
theorem exP_bs:∀e:Ex,bsP (exP e)=exT e
 | .mk op t n l a=>by rw [exP,exT,exNP_bs,exPsP_bs l]
theorem exPsP_bs:∀l:List Ex,(exPsP l).map bs2=exPs l
 | []=>by rw [exPsP,exPs];rfl
 | x::l=>by rw [exPsP,exPs,List.map_cons,exPsP_bs l,bs2,exP_bs x]
end
mutual
theorem exP_ts:∀e:Ex,tsP (exP e)=exK e
 | .mk op t n l a=>by rw [exP,exK,exNP_ts,exPsP_ts l]
theorem exPsP_ts:∀l:List Ex,(exPsP l).map ts2=exKs l
 | []=>by rw [exPsP,exKs];rfl
 | x::l=>by rw [exPsP,exKs,List.map_cons,exPsP_ts l,ts2,exP_ts x]
end
theorem op_pc {op:Nat} (h:-2<argsN op):(lineF op<5→(15≤op∧op≤19→nameB (wordF op)=true)∧(¬(15≤op∧op≤19)→wordF op∈ones.map fun b=>[b]))∧(lineF op=5→wordF op∈freeW)∧(lineF op=6→wordF op≠[]→nameB (wordF op)=true):=by
 have h1:∀o:Fin 26,-2<argsN o.val→lineF o.val<5→15≤o.val∧o.val≤19→nameB (wordF o.val)=true:=by decide +kernel
 have h2:∀o:Fin 26,-2<argsN o.val→lineF o.val<5→¬(15≤o.val∧o.val≤19)→wordF o.val∈ones.map fun b=>[b]:=by decide +kernel
 have h3:∀o:Fin 26,-2<argsN o.val→lineF o.val=5→wordF o.val∈freeW:=by decide +kernel
 have h4:∀o:Fin 26,-2<argsN o.val→lineF o.val=6→wordF o.val≠[]→nameB (wordF o.val)=true:=by decide +kernel
 obtain ⟨o,ho⟩:∃o:Fin 26,o.val=op:=⟨⟨op,op_lt h⟩,rfl⟩
 subst ho
 exact ⟨fun c=>⟨h1 o h c,h2 o h c⟩,h3 o h,h4 o h⟩
theorem parPc_ok {w:Nat} {p:Nat×List Pc} {k:Bs} (hk:Aft k) (h:∀k,Aft k→VF p.2 k):VF (parPc w p) k:=by
 unfold parPc
 split
 ·refine ⟨ok_free (by decide) _,(VF_app _ _ _).2 ⟨h _ ?_,ok_free (by decide) _,trivial⟩⟩
  simp only [bsP_cons,bs_sg,bsP_nil,List.append_nil,List.cons_append,List.nil_append]
  exact aft_cons (by decide) _
 ·exact h k hk
theorem brP_ok {fr fin:Bs} (hfr:fr∈freeW) (hfin:fin∈[[41],[93]]) {l:List (List Pc)} (h:∀x∈l,∀k,Aft k→VF x k) (k:Bs):VF (brP fr fin l) k:=by
 have hk:∀w∈[[41],[93]],w∈freeW∧w=[w.getD 0 0]∧w.getD 0 0∈([32,41,44,93]:Bs):=by decide
 obtain ⟨h1,h3,h2⟩:=hk fin hfin
 generalize fin.getD 0 0=c at h2 h3
 subst h3
 refine ⟨ok_free hfr _,(VF_app _ _ _).2 ⟨commasP_ok cm_ok (fun x=>?_) ?_ h,ok_free h1 _,trivial⟩⟩
 ·exact aft_cons (by decide) _
 ·simp only [bsP_cons,bs_sg,bsP_nil,List.append_nil,List.cons_append,List.nil_append]
  exact aft_cons h2 _
theorem ex_ok:∀(n:Nat) (e:Ex),SizeOf.sizeOf e<n→mayE e=true→rngE e=true→∀k,Aft k→VF (exP e) k
 | 0,e,h,_,_=>by omega
 | q+1,.mk op t n l a,h,hm,hr=>fun k hk=>by
  obtain ⟨m1,m2,m3,m4,m5⟩:=mayE_mk hm
  obtain ⟨f1,f2,f3,f4,f5⟩:=op_facts m1
  obtain ⟨p1,p2,p3⟩:=op_pc m1
  obtain ⟨r1,r2⟩:=rngE_mk hr
  have ih:∀x∈l,∀k,Aft k→VF (exP x) k:=fun x hx=>ex_ok q x (sz_lt h hx) (m5 x hx) (r2 x hx)
  have ihm:∀x∈l.map exP,∀k,Aft k→VF x k:=fun x hx=>by obtain ⟨y,hy,rfl⟩:=List.mem_map.1 hx;exact ih y hy
  rw [exP_mk,exPsP_eq]
  unfold exNP
  by_cases c1:lineF op<5
  ·obtain ⟨x,y,rfl⟩:=two_of (l:=l) (by have:=f1 c1;omega)
   rw [if_pos c1]
   simp only [List.map_cons,List.map_nil,exAP]
   refine (VF_app _ _ _).2 ⟨parPc_ok ?_ (ih x (by simp)),(VF_app _ _ _).2 ⟨⟨ok_sp _,?_,ok_sp _,trivial⟩,parPc_ok hk (ih y (by simp))⟩⟩
   ·simp only [List.cons_append,bsP_cons,bs_sp,List.nil_append]
    exact aft_cons (by decide) _
   ·simp only [bsP_cons,bs_sp,List.cons_append,List.nil_append,bsP_nil]
    unfold opP
    split
    ·rename_i c;exact ok_nm ((p1 c1).1 c) (folk_cons (by decide) _)
    ·rename_i c;exact ok_sgsp (.inr ((p1 c1).2 c)) (.inl rfl) _
  rw [if_neg c1]
  by_cases c2:lineF op=5
  ·obtain ⟨x,rfl⟩:=one_of (l:=l) (by have:=f2 c2;omega)
   rw [if_pos c2]
   simp only [List.map_cons,List.map_nil,exAP]
   exact ⟨ok_free (p2 c2) _,parPc_ok hk (ih x (by simp))⟩
  have c3:lineF op=6:=by omega
  rw [if_neg c2]
  have hsnd:(l.map fun e=>(lineF (opE e),exP e)).map Prod.snd=l.map exP:=by rw [List.map_map];rfl
  rw [hsnd]
  by_cases c4:wordF op≠[]
  ·rw [if_pos c4]
   exact ⟨ok_nm (p3 c3 c4) (folk_cons (c:=40) (by decide) _),brP_ok (by decide) (by decide) ihm k⟩
  rw [if_neg c4]
  have hf:=aft_fol hk
  rcases f5 c3 (by simpa using c4) with rfl | rfl | rfl | rfl | rfl | rfl | rfl
  ·exact ⟨ok_nm (nam_name (text_nam m4 (.inl rfl))) hf,trivial⟩
  ·exact ⟨ok_nm (by decide +kernel) hf,trivial⟩
  ·exact ⟨ok_num r1.1 r1.2 hf,trivial⟩
  ·have hq:(quoteF t).isSome=true:=by unfold textB at m4;rw [if_neg (by decide),if_pos rfl] at m4;exact m4
   obtain ⟨v,hv⟩:=Option.isSome_iff_exists.1 hq
   have:quoT t=v:=by rw [quoT,hv];rfl
   show VF [.tok (quoT t) ⟨3,t,0⟩] k
   rw [this]
   exact ⟨ok_quo hv hf,trivial⟩
  ·exact ⟨ok_nm (by decide +kernel) hf,trivial⟩
  ·exact brP_ok (by decide) (by decide) ihm k
  ·have hn:=nam_name (text_nam m4 (.inr rfl))
   show VF (sgP [36]::nmP t::(if (l.map fun e=>(lineF (opE e),exP e)).length=0 then [] else brP [40] [41] (l.map exP))) k
   rw [List.length_map]
   by_cases hl:l.length=0
   ·rw [if_pos hl]
    exact ⟨ok_free (by decide) _,ok_nm hn hf,trivial⟩
   ·rw [if_neg hl]
    exact ⟨ok_free (by decide) _,ok_nm hn (folk_cons (c:=40) (by decide) _),brP_ok (by decide) (by decide) ihm k⟩
theorem exP_ok {e:Ex} (h:mayE e=true) (hr:rngE e=true) {k:Bs} (hk:Aft k):VF (exP e) k:=ex_ok _ e (Nat.lt_succ_self _) h hr k hk
def relP (op:Nat):List Pc:=[spP,sgP (relW op),spP]
def fstP:List Ex→List Pc
 | []=>[]
 | e::_=>exP e
def aggP (l:List Ex):List Pc:=(l.map fun e=>spP::exP e).flatten
mutual
def liP:Li→List Pc
 | .mk op rel args body _ =>
  if op=2 then sgP [33]::nmP rel::brP [40] [41] (args.map exP)
  else if op=1 then nmP rel::brP [40] [41] (args.map exP)
  else if op≤8 then fstP args++(relP op++fstP args.tail)
  else fstP args++(spP::sgP [61]::spP::nmP (aggSg op)::(aggP args.tail++(spP::sgP [58]::spP::sgP [123]::spP::(commasP cmP (liPs body)++[spP,sgP [125]]))))
def liPs:List Li→List (List Pc)
 | []=>[]
 | e::l=>liP e::liPs l
end
theorem liPs_eq (l:List Li):liPs l=l.map liP:=by induction l with | nil=>rfl | cons x l ih=>simp [liPs,ih]
theorem fstP_bs (l:List Ex):bsP (fstP l)=fstT l:=by cases l with | nil=>rfl | cons x l=>exact exP_bs x
theorem fstP_ts (l:List Ex):tsP (fstP l)=fstK l:=by cases l with | nil=>rfl | cons x l=>exact exP_ts x
theorem aggP_bs (l:List Ex):bsP (aggP l)=aggT l:=by
 unfold aggP aggT
 rw [bsP_flat,List.map_map]
 congr 1
 refine List.map_congr_left fun x _=>?_
 simp [exP_bs]
theorem aggP_ts (l:List Ex):tsP (aggP l)=(l.map exK).flatten:=by
 unfold aggP
 rw [tsP_flat,List.map_map]
 congr 1
 refine List.map_congr_left fun x _=>?_
 simp [exP_ts]
theorem mapP_bs (l:List Ex):(l.map exP).map bsP=exTs l:=by rw [List.map_map];exact List.map_congr_left fun x _=>exP_bs x
theorem mapP_ts (l:List Ex):(l.map exP).map tsP=l.map exK:=by rw [List.map_map];exact List.map_congr_left fun x _=>exP_ts x
theorem relP_bs {op:Nat}:bsP (relP op)=relSg op:=by
 unfold relP relW relSg
 (repeat' split) <;> rfl
theorem relP_ts {op:Nat}:tsP (relP op)=[sgT (relW op)]:=by simp [relP]
mutual
theorem liP_bs:∀x:Li,bsP (liP x)=liT x
 | .mk op rel args body a=>by
  rw [liP,liT]
  split
  ·rw [bsP_cons,bsP_cons,brP_bs,mapP_bs];rfl
  split
  ·rw [bsP_cons,brP_bs,mapP_bs];rfl
  split
  ·rw [bsP_app,bsP_app,fstP_bs,fstP_bs,relP_bs]
  ·simp only [bsP_app,bsP_cons,bsP_nil,fstP_bs,aggP_bs,commasP_bs,cm_bs,liPs_bs body,bs_sp,bs_sg,bs_nm,List.append_nil,List.cons_append,List.nil_append]
theorem liPs_bs:∀l:List Li,(liPs l).map bsP=liTs l
 | []=>by rw [liPs,liTs];rfl
 | x::l=>by rw [liPs,liTs,List.map_cons,liP_bs x,liPs_bs l]
end
mutual
theorem liP_ts:∀x:Li,tsP (liP x)=liK x
 | .mk op rel args body a=>by
  rw [liP,liK]
  split
  ·rw [tsP_cons,tsP_cons,brP_ts,mapP_ts];rfl
  split
  ·rw [tsP_cons,brP_ts,mapP_ts];rfl
  split
  ·rw [tsP_app,tsP_app,fstP_ts,fstP_ts,relP_ts];rfl
  ·simp only [tsP_app,tsP_cons,tsP_nil,fstP_ts,aggP_ts,commasP_ts cm_ts,liPs_ts body,ts_sp,ts_sg,ts_nm,List.append_nil,List.cons_append,List.nil_append]
theorem liPs_ts:∀l:List Li,(liPs l).map tsP=liKs l
 | []=>by rw [liPs,liKs];rfl
 | x::l=>by rw [liPs,liKs,List.map_cons,liP_ts x,liPs_ts l]
end
end Go.PM.Lex
end

section
set_option maxRecDepth 100000
namespace Go.PM.Lex
def ifP:List Pc:=[spP,sgP [58,45],spP]
def ruP (r:Ru):List Pc:=nmP r.head::(brP [40] [41] (r.args.map exP)++((if 0<r.body.length then ifP++commasP cmP (r.body.map liP) else [])++[sgP [46]]))
theorem mapL_bs (l:List Li):(l.map liP).map bsP=liTs l:=by rw [← liPs_eq,liPs_bs]
theorem mapL_ts (l:List Li):(l.map liP).map tsP=l.map liK:=by rw [← liPs_eq,liPs_ts,liKs_eq]
theorem ruP_bs (r:Ru):bsP (ruP r)=ruT r:=by
 unfold ruP ruT argT
 split
 ·simp [-List.map_map,brP_bs,mapP_bs,commasP_bs,cm_bs,mapL_bs,ifP]
 ·simp [-List.map_map,brP_bs,mapP_bs]
theorem ruP_ts (r:Ru):tsP (ruP r)=ruK r:=by
 unfold ruP ruK
 split
 ·simp [-List.map_map,brP_ts,mapP_ts,commasP_ts cm_ts,mapL_ts,ifP]
 ·simp [-List.map_map,brP_ts,mapP_ts]
def fiP (f:Fi):List Pc:=[nmP f.name,sgP [58],spP,nmP f.typ]
def fisP (l:List Fi) (fin:Bs):List Pc:=commasP cmP (l.map fiP)++[sgP fin]
theorem fiP_bs (f:Fi):bsP (fiP f)=fiT f:=by simp [fiP,fiT]
theorem fiP_ts (f:Fi):tsP (fiP f)=fiK f:=by simp [fiP,fiK]
theorem mapF_bs (l:List Fi):(l.map fiP).map bsP=l.map fiT:=by rw [List.map_map];exact List.map_congr_left fun x _=>fiP_bs x
theorem mapF_ts (l:List Fi):(l.map fiP).map tsP=l.map fiK:=by rw [List.map_map];exact List.map_congr_left fun x _=>fiP_ts x
theorem fisP_bs (fr:Bs) (l:List Fi) (fin:Bs):fr++bsP (fisP l fin)=fisT fr l fin:=by simp [-List.map_map,fisP,fisT,commasP_bs,cm_bs,mapF_bs]
theorem fisP_ts (fr:Bs) (l:List Fi) (fin:Bs):sgT fr::tsP (fisP l fin)=fisK fr l fin:=by simp [-List.map_map,fisP,fisK,commasP_ts cm_ts,mapF_ts]
def angP (l:List Bs):List Pc:=if l.length=0 then [] else sgP [60]::(commasP cmP (l.map fun s=>[nmP s])++[sgP [62]])
theorem mapN_bs (l:List Bs):(l.map fun s=>[nmP s]).map bsP=l:=by rw [List.map_map];simp [Function.comp_def]
theorem mapN_ts (l:List Bs):(l.map fun s=>[nmP s]).map tsP=l.map fun s=>[nmT s]:=by rw [List.map_map];exact List.map_congr_left fun x _=>by simp
theorem angP_bs (l:List Bs):bsP (angP l)=angT l:=by
 unfold angP angT
 split
 ·rfl
 ·simp [-List.map_map,commasP_bs,cm_bs,mapN_bs]
theorem angP_ts (l:List Bs):tsP (angP l)=angK l:=by
 unfold angP angK
 split
 ·rfl
 ·simp [-List.map_map,commasP_ts cm_ts,mapN_ts]
def caP (c:Ca):List Pc:=nmP c.name::spP::sgP [123]::fisP c.fields [125]
theorem caP_bs (c:Ca):bsP (caP c)=caT c:=by
 rw [caT,← fisP_bs];simp [caP]
theorem caP_ts (c:Ca):tsP (caP c)=caK c:=by
 rw [caK,← fisP_ts];simp [caP]
theorem bar_bs:bsP barP=[32,124,32]:=rfl
theorem bar_ts:tsP barP=[sgT [124]]:=rfl
def tyP (t:Ty):List Pc:=nmP [116,121,112,101]::spP::nmP t.name::((if t.kind=1 then [spP,sgP [60,58],spP,nmP t.base] else if t.kind=2 then spP::sgP [61]::spP::sgP [91]::fisP t.fields [93] else spP::sgP [61]::spP::commasP barP (t.cases.map caP))++[nlP])
theorem mapC_bs (l:List Ca):(l.map caP).map bsP=l.map caT:=by rw [List.map_map];exact List.map_congr_left fun x _=>caP_bs x
theorem mapC_ts (l:List Ca):(l.map caP).map tsP=l.map caK:=by rw [List.map_map];exact List.map_congr_left fun x _=>caP_ts x
theorem tyP_bs (t:Ty):bsP (tyP t)=tyT t:=by
 unfold tyP tyT
 split
 ·simp
 split
 ·rw [← fisP_bs];simp
 ·simp [-List.map_map,commasP_bs,bar_bs,mapC_bs]
theorem tyP_ts (t:Ty):tsP (tyP t)=tyK t:=by
 unfold tyP tyK
 split
 ·simp
 split
 ·rw [← fisP_ts];simp
 ·simp [-List.map_map,commasP_ts bar_ts,mapC_ts]
def flagsP (i o n:Bool):List Pc:=(if i then [spP,nmP [105,110,112,117,116]] else [])++((if o then [spP,nmP [111,117,116,112,117,116]] else [])++(if n then [spP,nmP [105,110,108,105,110,101]] else []))
def reP (d:Re):List Pc:=nmP [100,101,99,108]::spP::nmP d.name::sgP [40]::(fisP d.fields [41]++(flagsP d.inn d.out d.inl++[nlP]))
theorem reP_bs (d:Re):bsP (reP d)=reT d:=by
 obtain ⟨nm,fs,i,o,n,a⟩:=d
 unfold reP reT
 rw [← fisP_bs]
 cases i <;> cases o <;> cases n <;> simp [flagsP]
theorem reP_ts (d:Re):tsP (reP d)=reK d:=by
 obtain ⟨nm,fs,i,o,n,a⟩:=d
 unfold reP reK
 rw [← fisP_ts]
 cases i <;> cases o <;> cases n <;> simp [flagsP,flagsK]
def inP (i:Ini):List Pc:=nmP [105,110,105,116]::spP::nmP i.name::spP::sgP [61]::spP::nmP i.comp::(angP i.types++[nlP])
theorem inP_bs (i:Ini):bsP (inP i)=inT i:=by simp [inP,inT,angP_bs]
theorem inP_ts (i:Ini):tsP (inP i)=inK i:=by simp [inP,inK,angP_ts]
def ovP (o:Ov):List Pc:=[nmP [111,118,101,114,114,105,100,101],spP,nmP o.rel,nlP]
theorem ovP_bs (o:Ov):bsP (ovP o)=ovT o:=by simp [ovP,ovT]
theorem ovP_ts (o:Ov):tsP (ovP o)=ovK o:=by simp [ovP,ovK]
def flatP {α:Type} (P:α→List Pc) (l:List α):List Pc:=(l.map P).flatten
theorem flatP_bs {α:Type} {P:α→List Pc} {T:α→Bs} (h:∀x,bsP (P x)=T x) (l:List α):bsP (flatP P l)=(l.map T).flatten:=by
 rw [flatP,bsP_flat,List.map_map];congr 1;exact List.map_congr_left fun x _=>h x
theorem flatP_ts {α:Type} {P:α→List Pc} {T:α→Ts} (h:∀x,tsP (P x)=T x) (l:List α):tsP (flatP P l)=(l.map T).flatten:=by
 rw [flatP,tsP_flat,List.map_map];congr 1;exact List.map_congr_left fun x _=>h x
mutual
def unP:Un→List Pc
 | .mk tys rels rules comps inits overs=>flatP tyP tys++(flatP reP rels++(coPs comps++(flatP inP inits++(flatP ovP overs++flatP (fun r=>ruP r++[nlP]) rules))))
def coP:Co→List Pc
 | .mk nm ps base tys u _=>nmP [99,111,109,112]::spP::nmP nm::(angP ps++((if base=[] then [] else spP::sgP [58]::spP::nmP base::angP tys)++(spP::sgP [123]::nlP::(unP u++[sgP [125],nlP]))))
def coPs:List Co→List Pc
 | []=>[]
 | c::l=>coP c++coPs l
end
mutual
theorem unP_bs:∀u:Un,bsP (unP u)=unT u
 | .mk tys rels rules comps inits overs=>by
  rw [unP,unT]
  simp only [bsP_app,flatP_bs tyP_bs,flatP_bs reP_bs,flatP_bs inP_bs,flatP_bs ovP_bs,coPs_bs comps]
  rw [flatP_bs (T:=fun r=>ruT r++[10]) fun r=>by simp [ruP_bs]]
theorem coP_bs:∀c:Co,bsP (coP c)=coT c
 | .mk nm ps base tys u a=>by
  rw [coP,coT]
  have ih:=unP_bs u
  split <;> simp [angP_bs,ih]
theorem coPs_bs:∀l:List Co,bsP (coPs l)=(coTs l).flatten
 | []=>by rw [coPs,coTs];rfl
 | c::l=>by rw [coPs,coTs,bsP_app,coP_bs c,coPs_bs l];rfl
end
mutual
theorem unP_ts:∀u:Un,tsP (unP u)=unK u
 | .mk tys rels rules comps inits overs=>by
  rw [unP,unK]
  simp only [tsP_app,flatP_ts tyP_ts,flatP_ts reP_ts,flatP_ts inP_ts,flatP_ts ovP_ts,coPs_ts comps]
  rw [flatP_ts (T:=ruK) fun r=>by simp [ruP_ts]]
theorem coP_ts:∀c:Co,tsP (coP c)=coK c
 | .mk nm ps base tys u a=>by
  rw [coP,coK]
  have ih:=unP_ts u
  split <;> simp [angP_ts,ih]
theorem coPs_ts:∀l:List Co,tsP (coPs l)=(coKs l).flatten
 | []=>by rw [coPs,coKs];rfl
 | c::l=>by rw [coPs,coKs,tsP_app,coP_ts c,coPs_ts l];rfl
end
def Back {α β:Type} (er:α→β) (v:α) (x:Top α):Prop:=(∃v' L,er v'=er v∧x=.ok v' L)∨∃p e,(e=3∨e=151)∧x=.err p e
theorem back_of {α β:Type} {er:α→β} {v:α} {P:Ts→R α} {ps:List Pc} (h:Rd er v [] (P (tsP ps))) (hv:VF ps []):Back er v (readTop 65536 16384 P (bsP ps)):=by
 unfold readTop
 split
 ·exact .inr ⟨_,_,.inl rfl,rfl⟩
 ·obtain ⟨h1,h2⟩:=all_pieces ps ((bsP ps).length+1) 16384 0 hv (by omega)
  by_cases hm:((tsP ps).length:Int)≤16384
  ·obtain ⟨l,p,e1,e2⟩:=h1 hm
   have e1:allF (bsP ps) 16384=(l,(p,0)):=e1
   rw [show ((16384:Nat):Int)=16384 from rfl,e1]
   simp only [ne_eq,not_true_eq_false,if_false]
   rw [e2]
   rcases h with ⟨v',e,h⟩ | ⟨r,h | h⟩
   ·rw [h];exact .inl ⟨v',l,e,rfl⟩
   ·rw [h];exact .inr ⟨_,_,.inl rfl,rfl⟩
   ·rw [h];exact .inr ⟨_,_,.inr rfl,rfl⟩
  ·obtain ⟨l,p,e1⟩:=h2 (by omega) (by decide)
   have e1:allF (bsP ps) 16384=(l,(p,3)):=e1
   rw [show ((16384:Nat):Int)=16384 from rfl,e1]
   simp only [ne_eq,show ¬(3:Nat)=0 by decide,not_false_eq_true,if_true]
   exact .inr ⟨_,_,.inl rfl,rfl⟩
theorem expr_back {e:Ex} (h:mayE e=true) (hr:rngE e=true):Back erE e (readTop 65536 16384 (exprD 64) (exT e)):=by
 rw [← exP_bs]
 refine back_of ?_ (exP_ok h hr (.inl rfl))
 rw [exP_ts]
 have:=ex_full h 64 nx_nil
 rwa [List.append_nil] at this
end Go.PM.Lex
end

section
set_option maxRecDepth 100000
namespace Go.PM.Lex
theorem opE_er (e:Ex):opE (erE e)=opE e:=by cases e;rfl
theorem erEs_len (l:List Ex):(erEs l).length=l.length:=by rw [erEs_eq,List.length_map]
theorem erLs_len (l:List Li):(erLs l).length=l.length:=by rw [erLs_eq,List.length_map]
mutual
theorem exT_er:∀e:Ex,exT (erE e)=exT e
 | .mk op t n l a=>by rw [erE,exT,exT,exPs_er l]
theorem exPs_er:∀l:List Ex,exPs (erEs l)=exPs l
 | []=>by rw [erEs]
 | x::l=>by rw [erEs,exPs,exPs,exT_er x,exPs_er l,opE_er]
end
mutual
theorem mayE_er:∀e:Ex,mayE (erE e)=mayE e
 | .mk op t n l a=>by rw [erE,mayE,mayE,mayEs_er l,erEs_len]
theorem mayEs_er:∀l:List Ex,mayEs (erEs l)=mayEs l
 | []=>by rw [erEs]
 | x::l=>by rw [erEs,mayEs,mayEs,mayE_er x,mayEs_er l]
end
mutual
theorem rngE_er:∀e:Ex,rngE (erE e)=rngE e
 | .mk op t n l a=>by rw [erE,rngE,rngE,rngEs_er l]
theorem rngEs_er:∀l:List Ex,rngEs (erEs l)=rngEs l
 | []=>by rw [erEs]
 | x::l=>by rw [erEs,rngEs,rngEs,rngE_er x,rngEs_er l]
end
mutual
theorem wE_er:∀e:Ex,wE (erE e)=wE e
 | .mk op t n l a=>by rw [erE,wE,wE,wEs_er l]
theorem wEs_er:∀l:List Ex,wEs (erEs l)=wEs l
 | []=>by rw [erEs]
 | x::l=>by rw [erEs,wEs,wEs,wE_er x,wEs_er l]
end
theorem map_er {α β:Type} {er:α→α} {f:α→β} (h:∀x,f (er x)=f x) (l:List α):(l.map er).map f=l.map f:=by rw [List.map_map];exact List.map_congr_left fun x _=>h x
theorem all_er {α:Type} {er:α→α} {p:α→Bool} (h:∀x,p (er x)=p x) (l:List α):(l.map er).all p=l.all p:=by rw [List.all_map];congr 1;funext x;exact h x
theorem szS_er {α:Type} {er:α→α} {w:α→Nat} (h:∀x,w (er x)=w x) (l:List α):szS w (l.map er)=szS w l:=by induction l with | nil=>rfl | cons x l ih=>simp only [List.map_cons,szS,h,ih]
theorem fstT_er (l:List Ex):fstT (erEs l)=fstT l:=by cases l with | nil=>rfl | cons x l=>exact exT_er x
theorem tl_er (l:List Ex):(erEs l).tail=erEs l.tail:=by cases l with | nil=>rfl | cons x l=>rfl
theorem exTs_er (l:List Ex):exTs (erEs l)=exTs l:=by rw [erEs_eq];exact map_er exT_er l
theorem aggT_er (l:List Ex):aggT (erEs l)=aggT l:=by
 unfold aggT;rw [erEs_eq,map_er (f:=fun e=>[32]++exT e) fun x=>by rw [exT_er]]
theorem argT_er (fr fin:Bs) (l:List Ex):argT fr fin (erEs l)=argT fr fin l:=by unfold argT;rw [exTs_er]
mutual
theorem liT_er:∀x:Li,liT (erL x)=liT x
 | .mk op rel args body a=>by rw [erL,liT,liT,liTs_er body];simp only [fstT_er,tl_er,aggT_er,argT_er]
theorem liTs_er:∀l:List Li,liTs (erLs l)=liTs l
 | []=>by rw [erLs]
 | x::l=>by rw [erLs,liTs,liTs,liT_er x,liTs_er l]
end
mutual
theorem mayL_er:∀x:Li,mayL (erL x)=mayL x
 | .mk op rel args body a=>by rw [erL,mayL,mayL,mayLs_er body,mayEs_er,erEs_len,erLs_len]
theorem mayLs_er:∀l:List Li,mayLs (erLs l)=mayLs l
 | []=>by rw [erLs]
 | x::l=>by rw [erLs,mayLs,mayLs,mayL_er x,mayLs_er l]
end
mutual
theorem rngL_er:∀x:Li,rngL (erL x)=rngL x
 | .mk op rel args body a=>by rw [erL,rngL,rngL,rngLs_er body,rngEs_er]
theorem rngLs_er:∀l:List Li,rngLs (erLs l)=rngLs l
 | []=>by rw [erLs]
 | x::l=>by rw [erLs,rngLs,rngLs,rngL_er x,rngLs_er l]
end
mutual
theorem wL_er:∀x:Li,wL (erL x)=wL x
 | .mk op rel args body a=>by rw [erL,wL,wL,wLs_er body,erEs_eq,szS_er wE_er]
theorem wLs_er:∀l:List Li,wLs (erLs l)=wLs l
 | []=>by rw [erLs]
 | x::l=>by rw [erLs,wLs,wLs,wL_er x,wLs_er l]
end
theorem ruT_er (r:Ru):ruT (erRu r)=ruT r:=by
 unfold ruT erRu
 simp only [List.length_map]
 rw [← erEs_eq,argT_er,← erLs_eq,liTs_er]
theorem mayRu_er (r:Ru):mayRu (erRu r)=mayRu r:=by
 unfold mayRu erRu
 simp only [all_er mayE_er,all_er mayL_er]
theorem rngRu_er (r:Ru):rngRu (erRu r)=rngRu r:=by
 unfold rngRu erRu
 simp only [all_er rngE_er,all_er rngL_er]
theorem wRu_er (r:Ru):wRu (erRu r)=wRu r:=by
 unfold wRu erRu
 simp only [szS_er wE_er,szS_er wL_er]
mutual
theorem unT_er:∀u:Un,unT (erUn u)=unT u
 | .mk a b c d e f=>by
  rw [erUn,unT,unT,coTs_er d,map_er (er:=erTy) (f:=tyT) fun x=>rfl,map_er (er:=erRe) (f:=reT) fun x=>rfl,map_er (er:=erIn) (f:=inT) fun x=>rfl,map_er (er:=erOv) (f:=ovT) fun x=>rfl,map_er (f:=fun r=>ruT r++[10]) fun x=>by rw [ruT_er]]
theorem coT_er:∀c:Co,coT (erCo c)=coT c
 | .mk nm ps base tys u a=>by rw [erCo,coT,coT,unT_er u]
theorem coTs_er:∀l:List Co,coTs (erCos l)=coTs l
 | []=>by rw [erCos]
 | x::l=>by rw [erCos,coTs,coTs,coT_er x,coTs_er l]
end
mutual
theorem mayU_er:∀u:Un,mayU (erUn u)=mayU u
 | .mk a b c d e f=>by
  rw [erUn,mayU,mayU,mayCos_er d,all_er (er:=erTy) (p:=mayTy) fun x=>rfl,all_er (er:=erRe) (p:=mayRe) fun x=>rfl,all_er (er:=erIn) (p:=mayIn) fun x=>rfl,all_er (er:=erOv) (p:=mayOv) fun x=>rfl,all_er mayRu_er]
theorem mayCo_er:∀c:Co,mayCo (erCo c)=mayCo c
 | .mk nm ps base tys u a=>by rw [erCo,mayCo,mayCo,mayU_er u]
theorem mayCos_er:∀l:List Co,mayCos (erCos l)=mayCos l
 | []=>by rw [erCos]
 | x::l=>by rw [erCos,mayCos,mayCos,mayCo_er x,mayCos_er l]
end
mutual
theorem rngU_er:∀u:Un,rngU (erUn u)=rngU u
 | .mk a b c d e f=>by rw [erUn,rngU,rngU,rngCos_er d,all_er rngRu_er]
theorem rngCo_er:∀c:Co,rngCo (erCo c)=rngCo c
 | .mk nm ps base tys u a=>by rw [erCo,rngCo,rngCo,rngU_er u]
theorem rngCos_er:∀l:List Co,rngCos (erCos l)=rngCos l
 | []=>by rw [erCos]
 | x::l=>by rw [erCos,rngCos,rngCos,rngCo_er x,rngCos_er l]
end
mutual
theorem wUn_er:∀u:Un,wUn (erUn u)=wUn u
 | .mk a b c d e f=>by
  rw [erUn,wUn,wUn,wCos_er d,szS_er (er:=erTy) (w:=wTy) fun x=>rfl,szS_er (er:=erRe) (w:=wRe) fun x=>rfl,szS_er (er:=erIn) (w:=wIn) fun x=>rfl,szS_er (er:=erOv) (w:=wOv) fun x=>rfl,szS_er wRu_er]
theorem wCo_er:∀c:Co,wCo (erCo c)=wCo c
 | .mk nm ps base tys u a=>by rw [erCo,wCo,wCo,wUn_er u]
theorem wCos_er:∀l:List Co,wCos (erCos l)=wCos l
 | []=>by rw [erCos]
 | x::l=>by rw [erCos,wCos,wCos,wCo_er x,wCos_er l]
end
theorem exT_of {u v:Ex} (h:erE v=erE u):exT v=exT u:=by rw [← exT_er v,h,exT_er]
theorem quoGo_len:∀(f:Nat) (r out q:Bs),quoGo f r out=some q→q.length≤out.length+4 * r.length
 | 0,r,out,q,h=>by simp [quoGo] at h
 | f+1,r,out,q,h=>by
  unfold quoGo at h
  split at h
  ·cases h;omega
  ·rename_i hr
   have hd:=Lib.decodeL_le r hr
   have hg:=dec_rng r
   split at h
   ·have:=quoGo_len f _ _ _ h
    simp only [List.length_append,List.length_cons,List.length_nil,List.length_drop] at this;omega
   ·split at h
    ·cases h
    ·have:=quoGo_len f _ _ _ h
     have h4:=enc4 (Lib.decodeL r).1
     simp only [List.length_append,List.length_drop] at this;omega
theorem quoT_len (s:Bs):(quoT s).length≤4 * s.length+2:=by
 unfold quoT quoteF
 split
 ·cases hq:quoGo (s.length+1) s [34] with
  | none=>simp
  | some q =>
   have:=quoGo_len _ _ _ _ hq
   simp only [Option.map_some,Option.getD_some,List.length_append,List.length_cons,List.length_nil] at this ⊢;omega
 ·simp
theorem numT_len {n:Int} (h0:-9223372036854775808≤n) (h1:n<9223372036854775808):(numT n).length≤20:=by
 unfold numT
 split
 ·have h:=(numGo_spec (base:=16) (.inr rfl) ((n+18446744073709551616).toNat+1) (n+18446744073709551616).toNat (by omega)).2.2.2 15 (by
   have:(16:Nat) ^ (15+1)=18446744073709551616:=by decide
   omega)
  simp only [List.length_append,List.length_cons,List.length_nil,baseT];omega
 ·have h:=(numGo_spec (base:=10) (.inl rfl) (n.toNat+1) n.toNat (by omega)).2.2.2 18 (by
   have:(10:Nat) ^ (18+1)=10000000000000000000:=by decide
   omega)
  rw [baseT];omega
theorem word_len (op:Nat):(wordF op).length≤6:=by
 by_cases h:op<26
 ·have hk:∀o:Fin 26,(wordF o.val).length≤6:=by decide
  exact hk ⟨op,h⟩
 ·unfold wordF
  (repeat rw [if_neg (by omega)])
  decide
def sumP (l:List (Nat×Bs)):Nat:=(l.map fun p=>p.2.length+4).sum
theorem commas_sum (l:List Bs):(commas cmm l).length≤(l.map fun s=>s.length+4).sum:=by
 match l with
 | []=>exact Nat.zero_le _
 | [x]=>simp [commas]
 | x::y::l =>
  have ih:=commas_sum (y::l)
  rw [commas]
  ·simp only [List.length_append,List.map_cons,List.sum_cons] at ih ⊢
   have:cmm.length=2:=rfl
   omega
  ·intro h;cases h
theorem parP_len (w:Nat) (p:Nat×Bs):(parP w p).length≤p.2.length+2:=by
 unfold parP;split
 ·simp only [List.length_append,List.length_cons,List.length_nil];omega
 ·omega
theorem exA_len (w1 w2:Nat) (sep:Bs) (l:List (Nat×Bs)):(exA w1 w2 sep l).length≤sumP l+sep.length:=by
 match l with
 | []=>simp [exA]
 | [a]=>have:=parP_len w1 a;simp only [exA,sumP,List.map_cons,List.map_nil,List.sum_cons,List.sum_nil];omega
 | a::b::l =>
  have h1:=parP_len w1 a
  have h2:=parP_len w2 b
  simp only [exA,sumP,List.map_cons,List.sum_cons,List.length_append];omega
theorem exN_len (op:Nat) (t:Bs) (n:Int) (l:List (Nat×Bs)) (h0:-9223372036854775808≤n) (h1:n<9223372036854775808):(exN op t n l).length≤sumP l+5 * t.length+30:=by
 have hw:=word_len op
 have hn:=numT_len h0 h1
 have hq:=quoT_len t
 have hc:(commas cmm (l.map Prod.snd)).length≤sumP l:=by
  have:=commas_sum (l.map Prod.snd)
  rw [List.map_map] at this
  exact this
 unfold exN
 split
 ·have:=exA_len (lineF op) (lineF op+1) ([32]++(wordF op++[32])) l
  simp only [List.length_append,List.length_cons,List.length_nil] at this;omega
 split
 ·have:=exA_len 5 5 [] l
  simp only [List.length_append,List.length_nil] at this ⊢;omega
 split
 ·simp only [List.length_append,List.length_cons,List.length_nil];omega
 split
 ·simp only [List.length_append,List.length_cons,List.length_nil];omega
 split
 ·simp only [List.length_append,List.length_cons,List.length_nil]
  split
  ·simp only [List.length_nil];omega
  ·simp only [List.length_append,List.length_cons,List.length_nil];omega
 split
 ·omega
 split
 ·omega
 split
 ·simp only [List.length_cons,List.length_nil];omega
 split
 ·simp only [List.length_cons,List.length_nil];omega
 ·omega
mutual
theorem exT_len:∀e:Ex,rngE e=true→(exT e).length+4≤64 * wE e
 | .mk op t n l a,h=>by
  obtain ⟨r1,r2⟩:=rngE_mk h
  have ih:=exPs_len64 l (by rw [rngEs_eq];exact List.all_eq_true.2 r2)
  have:=exN_len op t n (exPs l) r1.1 r1.2
  rw [exT,wE];omega
theorem exPs_len64:∀l:List Ex,rngEs l=true→sumP (exPs l)≤64 * wEs l
 | [],h=>by rw [exPs];simp [sumP]
 | x::l,h=>by
  rw [rngEs,Bool.and_eq_true] at h
  have h1:=exT_len x h.1
  have h2:=exPs_len64 l h.2
  rw [exPs,wEs]
  unfold sumP at h2 ⊢
  simp only [List.map_cons,List.sum_cons];omega
end
theorem sum_le {α:Type} {T:α→Bs} {w:α→Nat}:∀l:List α,(∀x∈l,(T x).length+4≤64 * w x)→(l.map fun x=>(T x).length+4).sum≤64 * szS w l
 | [],h=>Nat.zero_le _
 | x::l,h=>by
  have h1:=h x (by simp)
  have h2:=sum_le l fun y hy=>h y (List.mem_cons_of_mem _ hy)
  simp only [List.map_cons,List.sum_cons,szS];omega
theorem commas_le64 {α:Type} {T:α→Bs} {w:α→Nat} {l:List α} (h:∀x∈l,(T x).length+4≤64 * w x):(commas cmm (l.map T)).length≤64 * szS w l:=by
 have h1:=commas_sum (l.map T)
 rw [List.map_map] at h1
 exact Nat.le_trans h1 (sum_le l h)
theorem flat_le64 {α:Type} {T:α→Bs} {w:α→Nat}:∀{l:List α},(∀x∈l,(T x).length+4≤64 * w x)→((l.map T).flatten).length≤64 * szS w l
 | [],h=>Nat.zero_le _
 | x::l,h=>by
  have h1:=h x (by simp)
  have h2:=flat_le64 (l:=l) fun y hy=>h y (List.mem_cons_of_mem _ hy)
  simp only [List.map_cons,List.flatten_cons,List.length_append,szS];omega
theorem fst_agg_len:∀{l:List Ex},(∀x∈l,rngE x=true)→(fstT l).length+(aggT l.tail).length≤64 * szS wE l∧(fstT l).length+(fstT l.tail).length≤64 * szS wE l
 | [],h=>by simp [fstT,aggT]
 | x::l,h=>by
  have h1:=exT_len x (h x (by simp))
  have h2:=flat_le64 (T:=fun e=>[32]++exT e) (w:=fun e=>wE e) (l:=l) fun y hy=>by
   have:=exT_len y (h y (List.mem_cons_of_mem _ hy))
   cases y with
   | mk o t n a b =>
    have hw:1≤wE (.mk o t n a b):=by rw [wE];omega
    have h3:=exN_len o t n (exPs a) (rngE_mk (h _ (List.mem_cons_of_mem _ hy))).1.1 (rngE_mk (h _ (List.mem_cons_of_mem _ hy))).1.2
    have h4:=exPs_len64 a (by rw [rngEs_eq];exact List.all_eq_true.2 (rngE_mk (h _ (List.mem_cons_of_mem _ hy))).2)
    simp only [List.length_append,List.length_cons,List.length_nil]
    rw [exT,wE];omega
  refine ⟨?_,?_⟩
  ·show (exT x).length+(aggT l).length≤64 * szS wE (x::l)
   rw [szS];unfold aggT
   have:szS (fun e=>wE e) l=szS wE l:=rfl
   omega
  ·show (exT x).length+(fstT l).length≤64 * szS wE (x::l)
   cases l with
   | nil=>rw [szS,szS];simp [fstT];omega
   | cons y l =>
    have h5:=exT_len y (h y (by simp))
    rw [szS,szS];simp only [fstT];omega
theorem rel_len (op:Nat):(relSg op).length≤4:=by unfold relSg;(repeat' split) <;> decide
theorem agg_len (op:Nat):(aggSg op).length≤5:=by unfold aggSg;(repeat' split) <;> decide
theorem arg_len64 {fr fin:Bs} {l:List Ex} (h:∀x∈l,rngE x=true):(argT fr fin l).length≤fr.length+64 * szS wE l+fin.length:=by
 have:=commas_le64 (T:=exT) (w:=wE) fun x hx=>exT_len x (h x hx)
 unfold argT exTs
 simp only [List.length_append];omega
mutual
theorem liT_len:∀x:Li,rngL x=true→(liT x).length+4≤64 * wL x
 | .mk op rel args body a,h=>by
  obtain ⟨r1,r2⟩:=rngL_mk h
  have h1:=liTs_len body (by rw [rngLs_eq];exact List.all_eq_true.2 r2)
  have h2:=arg_len64 (fr:=[40]) (fin:=[41]) r1
  obtain ⟨h3,h4⟩:=fst_agg_len r1
  have h5:=rel_len op
  have h6:=agg_len op
  have h7:=commas_sum (liTs body)
  rw [liT,wL]
  simp only [List.length_cons,List.length_nil] at h2
  split
  ·simp only [List.length_append,List.length_cons,List.length_nil];omega
  split
  ·simp only [List.length_append];omega
  split
  ·simp only [List.length_append];omega
  ·simp only [List.length_append,List.length_cons,List.length_nil];omega
theorem liTs_len:∀l:List Li,rngLs l=true→((liTs l).map fun s=>s.length+4).sum≤64 * wLs l
 | [],h=>by rw [liTs];simp
 | x::l,h=>by
  rw [rngLs,Bool.and_eq_true] at h
  have h1:=liT_len x h.1
  have h2:=liTs_len l h.2
  rw [liTs,wLs]
  simp only [List.map_cons,List.sum_cons];omega
end
theorem ruT_len {r:Ru} (h:rngRu r=true):(ruT r).length+10≤64 * wRu r:=by
 simp only [rngRu,Bool.and_eq_true] at h
 have r1:=List.all_eq_true.1 h.1
 have r2:=List.all_eq_true.1 h.2
 have h1:=arg_len64 (fr:=[40]) (fin:=[41]) r1
 have h2:=liTs_len r.body (by rw [rngLs_eq];exact h.2)
 have h3:=commas_sum (liTs r.body)
 rw [wLs_eq] at h2
 unfold ruT wRu
 simp only [List.length_cons,List.length_nil] at h1
 split
 ·simp only [List.length_append,List.length_cons,List.length_nil];omega
 ·simp only [List.length_append,List.length_cons,List.length_nil];omega
theorem fiT_len (f:Fi):(fiT f).length+4≤64 * wFi f:=by
 unfold fiT wFi;simp only [List.length_append,List.length_cons,List.length_nil];omega
theorem fis_len (fr fin:Bs) (l:List Fi):(fisT fr l fin).length≤fr.length+64 * szS wFi l+fin.length:=by
 have:=commas_le64 (T:=fiT) (w:=wFi) (l:=l) fun x _=>fiT_len x
 unfold fisT
 simp only [List.length_append];omega
theorem caT_len (c:Ca):(caT c).length+4≤64 * wCa c:=by
 have:=fis_len (c.name++[32,123]) [125] c.fields
 unfold caT wCa
 simp only [List.length_append,List.length_cons,List.length_nil] at this ⊢;omega
theorem commas_bar (l:List Bs):(commas [32,124,32] l).length≤(l.map fun s=>s.length+4).sum:=by
 match l with
 | []=>exact Nat.zero_le _
 | [x]=>simp [commas]
 | x::y::l =>
  have ih:=commas_bar (y::l)
  rw [commas]
  ·simp only [List.length_append,List.map_cons,List.sum_cons,List.length_cons,List.length_nil] at ih ⊢
   omega
  ·intro h;cases h
theorem tyT_len (t:Ty):(tyT t).length+4≤64 * wTy t:=by
 have h1:=fis_len [32,61,32,91] [93] t.fields
 have h2:=commas_bar (t.cases.map caT)
 rw [List.map_map] at h2
 have h3:=sum_le (T:=caT) (w:=wCa) t.cases fun x _=>caT_len x
 have h4:(t.cases.map fun x=>(caT x).length+4).sum=(t.cases.map ((fun s:Bs=>s.length+4)∘caT)).sum:=rfl
 rw [h4] at h3
 unfold tyT wTy
 simp only [List.length_cons,List.length_nil] at h1
 simp only [List.length_append,List.length_cons,List.length_nil]
 split
 ·simp only [List.length_append,List.length_cons,List.length_nil];omega
 split
 ·omega
 ·simp only [List.length_append,List.length_cons,List.length_nil];omega
theorem reT_len (d:Re):(reT d).length+4≤64 * wRe d:=by
 have h1:=fis_len ([100,101,99,108,32]++(d.name++[40])) [41] d.fields
 have hi:∀(b:Bool) (s:Bs),(if b then s else []).length≤s.length:=fun b s=>by cases b <;> simp
 have i1:=hi d.inn [32,105,110,112,117,116]
 have i2:=hi d.out [32,111,117,116,112,117,116]
 have i3:=hi d.inl [32,105,110,108,105,110,101]
 unfold reT wRe
 simp only [List.length_append,List.length_cons,List.length_nil] at h1 i1 i2 i3 ⊢;omega
theorem ang_len (l:List Bs):(angT l).length≤2+64 * szS wBs l:=by
 have h1:=commas_le64 (T:=fun s:Bs=>s) (w:=wBs) (l:=l) fun x _=>by unfold wBs;omega
 rw [List.map_id'] at h1
 unfold angT
 split
 ·simp
 ·simp only [List.length_append,List.length_cons,List.length_nil];omega
theorem inT_len (i:Ini):(inT i).length+4≤64 * wIn i:=by
 have:=ang_len i.types
 unfold inT wIn
 simp only [List.length_append,List.length_cons,List.length_nil];omega
theorem ovT_len (o:Ov):(ovT o).length+4≤64 * wOv o:=by
 unfold ovT wOv
 simp only [List.length_append,List.length_cons,List.length_nil];omega
mutual
theorem unT_len:∀u:Un,rngU u=true→(unT u).length+4≤64 * wUn u
 | .mk a b c d e f,h=>by
  simp only [rngU,Bool.and_eq_true] at h
  have r1:=List.all_eq_true.1 h.1
  have h1:=flat_le64 (T:=tyT) (w:=wTy) (l:=a) fun x _=>tyT_len x
  have h2:=flat_le64 (T:=reT) (w:=wRe) (l:=b) fun x _=>reT_len x
  have h3:=flat_le64 (T:=fun r=>ruT r++[10]) (w:=wRu) (l:=c) fun x hx=>by
   have:=ruT_len (r1 x hx)
   simp only [List.length_append,List.length_cons,List.length_nil];omega
  have h4:=coTs_len d h.2
  have h5:=flat_le64 (T:=inT) (w:=wIn) (l:=e) fun x _=>inT_len x
  have h6:=flat_le64 (T:=ovT) (w:=wOv) (l:=f) fun x _=>ovT_len x
  rw [unT,wUn]
  simp only [List.length_append];omega
theorem coT_len:∀c:Co,rngCo c=true→(coT c).length+4≤64 * wCo c+64
 | .mk nm ps base tys u a,h=>by
  rw [rngCo] at h
  have h1:=unT_len u h
  have h2:=ang_len ps
  have h3:=ang_len tys
  rw [coT,wCo]
  split
  ·simp only [List.length_append,List.length_cons,List.length_nil];omega
  ·simp only [List.length_append,List.length_cons,List.length_nil];omega
theorem coTs_len:∀l:List Co,rngCos l=true→((coTs l).flatten).length≤64 * wCos l
 | [],h=>by rw [coTs];simp
 | x::l,h=>by
  rw [rngCos,Bool.and_eq_true] at h
  have h1:=coT_len x h.1
  have h2:=coTs_len l h.2
  rw [coTs,wCos]
  simp only [List.flatten_cons,List.length_append];omega
end
end Go.PM.Lex
end

section
set_option maxRecDepth 100000
namespace Go.PM.Lex
def kl (e:Ex):Nat:=(exK e).length
theorem exWK_len (w:Nat) (e:Ex):(exWK w e).length=kl e+if lineF (opE e)<w then 2 else 0:=by
 unfold exWK parK kl
 dsimp only
 split <;> simp
theorem exWK_le {w v:Nat} (h:w≤v) (e:Ex):(exWK w e).length≤(exWK v e).length:=by
 rw [exWK_len,exWK_len]
 split <;> split <;> omega
def ckl (l:List Ex):Nat:=(commasK [44] (l.map exK)).length
theorem tails_kl:∀l:List Ex,(tailsK [44] (l.map exK)).length=szS kl l
 | []=>rfl
 | x::l=>by
  rw [List.map_cons,tailsK,szS,← tails_kl l]
  simp only [List.length_cons,List.length_append,kl];omega
theorem ckl_nil:ckl []=0:=rfl
theorem ckl_cons (x:Ex) (l:List Ex):ckl (x::l)=kl x+szS kl l:=by
 unfold ckl
 rw [List.map_cons,commasK,List.length_append,tails_kl];rfl
theorem ckl_snoc (l:List Ex) (x:Ex):ckl (l++[x])=ckl l+kl x+if l=[] then 0 else 1:=by
 cases l with
 | nil=>rw [List.nil_append,ckl_cons,ckl_nil];simp [szS]
 | cons y l=>rw [List.cons_append,ckl_cons,ckl_cons,szS_snoc,if_neg (by simp)];omega
abbrev Mn (w:Nat) (P:Ts→R Ex):Prop:=∀ts v r,P ts=.ok v r→(exWK w v).length+r.length≤ts.length
theorem Mn.mono {w v:Nat} (h:w≤v) {P:Ts→R Ex} (hp:Mn v P):Mn w P:=fun ts x r e=>Nat.le_trans (Nat.add_le_add_right (exWK_le h x) _) (hp ts x r e)
theorem within_two {α:Type} {d:Nat} {fr tw:Bs} {read:Ts→R α} {ts ts':Ts} {v:α} (hto:tw≠[]) (h:withinF d fr tw read ts=.ok v ts'):∃t1,read ts.tail=.ok v t1∧ts.tail.length+1=ts.length∧ts'.length+1=t1.length:=by
 unfold withinF at h
 split at h
 ·rename_i hc
  split at h
  ·cases h
  ·obtain ⟨a,t1,h1,h2⟩:=R.bind_of h
   obtain ⟨u,t2,h3,h4⟩:=R.bind_of h2
   cases h4
   exact ⟨_,h1,tl_len hc,must_fit h3⟩
 ·cases h
theorem manyGo_min {sign:Bs} {most:Nat} {st:Ts→Bool} {one:Ts→R Ex} (h1:Mn 0 one):∀f l ts v ts',manyGo sign most st one f l ts=.ok v ts'→ckl v+ts'.length≤ckl l+ts.length+if l=[] then 0 else 1
 | 0,_,_,_,_,h=>by cases h
 | f+1,l,ts,v,ts',h=>by
  rw [manyGo] at h
  split at h
  ·cases h
  ·obtain ⟨x,t1,h2,h3⟩:=R.bind_of h
   have k:=h1 _ _ _ h2
   rw [exWK_len,if_neg (by omega)] at k
   split at h3
   ·rename_i hc
    have k2:=manyGo_min h1 f _ _ _ _ h3
    have k3:=tl_len hc
    rw [ckl_snoc,if_neg (show ¬l++[x]=[] by simp)] at k2
    omega
   ·cases h3
    rw [ckl_snoc]
    omega
theorem many_min {sign:Bs} {most:Nat} {st:Ts→Bool} {one:Ts→R Ex} (h1:Mn 0 one) {ts ts':Ts} {v:List Ex} (h:manyF sign most st one ts=.ok v ts'):ckl v+ts'.length≤ts.length:=by
 have:=manyGo_min h1 _ _ _ _ _ h
 rw [if_pos rfl,ckl_nil] at this;omega
theorem args_min {d:Nat} {ex:Ts→R Ex} (h:Mn 0 ex) {fr tw:Bs} (hto:tw≠[]) {ts ts':Ts} {v:List Ex} (e:argsF d ex fr tw ts=.ok v ts'):ckl v+2+ts'.length≤ts.length:=by
 unfold argsF at e
 obtain ⟨t1,h1,h2,h3⟩:=within_two hto e
 split at h1
 ·cases h1;rw [ckl_nil];omega
 ·have:=many_min h h1
  omega
theorem callGo_min {ex:Ts→R Ex} (h:Mn 0 ex):∀k l ts v ts',callGo ex k l ts=.ok v ts'→ckl v+ts'.length≤ckl l+ts.length
 | 0,l,ts,v,ts',e=>by cases e;exact Nat.le_refl _
 | k+1,l,ts,v,ts',e=>by
  obtain ⟨_,t1,h1,e⟩:=R.bind_of e
  obtain ⟨x,t2,h2,e⟩:=R.bind_of e
  have k2:=callGo_min h k _ _ _ _ e
  have k1:=h _ _ _ h2
  rw [exWK_len,if_neg (by omega)] at k1
  rw [ckl_snoc] at k2
  by_cases c:l=[]
  ·rw [if_pos c] at h1 k2
   cases h1;omega
  ·rw [if_neg c] at h1 k2
   have:=must_fit h1;omega
theorem brK_len (fr fin:Bs) (l:List Ex):(brK fr fin (l.map exK)).length=ckl l+2:=by
 unfold brK ckl;simp
theorem opE_mk (op:Nat) (t:Bs) (n:Int) (l:List Ex) (a:Nat):opE (.mk op t n l a)=op:=rfl
theorem primary_min {d:Nat} {ex:Ts→R Ex} (h:Mn 0 ex):Mn 6 (primaryF d ex):=fun ts v ts' e=>by
 unfold primaryF at e
 split at e
 ·cases e
 rename_i hs
 have hl:=starts_len hs
 have h6:∀(op:Nat) (t:Bs) (n:Int) (l:List Ex) (a:Nat),lineF op=6→(exWK 6 (.mk op t n l a)).length=(exK (.mk op t n l a)).length:=fun op t n l a g=>by rw [exWK_len,opE_mk,g];rfl
 split at e
 ·cases e;rw [h6 _ _ _ _ _ (by decide),exK_3];simp only [List.length_singleton];omega
 split at e
 ·cases e;rw [h6 _ _ _ _ _ (by decide),exK_4];simp only [List.length_singleton];omega
 split at e
 ·obtain ⟨t1,h1,h2,h3⟩:=within_two (by decide) e
  have:=h _ _ _ h1
  rw [exWK_len] at this ⊢
  split <;> omega
 split at e
 ·obtain ⟨l,t1,h1,e⟩:=R.bind_of e
  cases e
  have:=args_min h (by decide) h1
  rw [h6 _ _ _ _ _ (by decide),exK_6,brK_len];omega
 split at e
 ·obtain ⟨l,t1,h1,e⟩:=R.bind_of e
  have:=name_fit h1
  split at e
  ·obtain ⟨l,t2,h2,e⟩:=R.bind_of e
   cases e
   have:=args_min h (by decide) h2
   rw [h6 _ _ _ _ _ (by decide),exK_7]
   simp only [List.length_cons]
   split
   ·simp only [List.length_nil];omega
   ·rw [brK_len];omega
  ·cases e
   rw [h6 _ _ _ _ _ (by decide),exK_7]
   simp only [List.length_cons,List.length_nil,if_true];omega
 split at e
 ·rename_i hf
  obtain ⟨l,t1,h1,e⟩:=R.bind_of e
  obtain ⟨t2,h2,h3,h4⟩:=within_two (by decide) h1
  cases e
  have:=callGo_min h _ _ _ _ _ h2
  have hw:lineF (functorF (hd ts).text)=6∧wordF (functorF (hd ts).text)≠[]:=by
   unfold functorF at hf ⊢
   (repeat' split) <;> first | decide +kernel | (exfalso;revert hf;simp [*])
  rw [h6 _ _ _ _ _ hw.1,exK_fun hw.1 hw.2]
  simp only [List.length_cons,brK_len,ckl_nil] at *;omega
 split at e
 ·cases e;rw [h6 _ _ _ _ _ (by decide),exK_5];simp only [List.length_singleton];omega
 split at e
 ·cases e;rw [h6 _ _ _ _ _ (by decide),exK_2];simp only [List.length_singleton];omega
 ·cases e;rw [h6 _ _ _ _ _ (by decide),exK_1];simp only [List.length_singleton];omega
theorem bin_line (ts:Ts):(binF ts).1=0∨(lineF (binF ts).2+1=(binF ts).1∧(binF ts).1≤5):=by
 unfold binF
 (repeat' split) <;> first | exact .inl rfl | exact .inr ⟨by decide,by decide⟩
abbrev Ml (least:Nat) (P:Ts→R Ex):Prop:=∀ts v r,P ts=.ok v r→(exWK (least - 1) v).length+r.length≤ts.length∧((binF r).1<least∨(binF r).1=0)
theorem lineGo_min {sub:Nat→Ts→R Ex} {least:Nat} (h0:1≤least) (N:Nat) (h:∀n,least<n→n≤6→Ml n (sub n)):∀f e ts v r,(∀w,(w+1≤least∨w+1≤(binF ts).1)→(exWK w e).length+ts.length≤N)→lineGo sub least f e ts=.ok v r →
  (exWK (least - 1) v).length+r.length≤N∧((binF r).1<least∨(binF r).1=0)
 | 0,_,_,_,_,_,k=>by cases k
 | f+1,e,ts,v,r,hI,k=>by
  rw [lineGo] at k
  split at k
  ·rename_i hc
   cases k
   exact ⟨hI _ (.inl (by omega)),hc⟩
  ·rename_i hc
   obtain ⟨g,t1,h1,k⟩:=R.bind_of k
   have hb:¬(binF ts).1=0:=fun e=>hc (.inr e)
   have hl:least≤(binF ts).1:=Nat.le_of_not_lt fun e=>hc (.inl e)
   have k3:=bin_len hb
   obtain ⟨b1,b2⟩:=(bin_line ts).resolve_left hb
   obtain ⟨k1,k4⟩:=h _ (by omega) (by omega) _ _ _ h1
   refine lineGo_min h0 N h f _ _ _ _ (fun w hw=>?_) k
   have hI':=hI (lineF (binF ts).2) (.inr (by omega))
   rw [exWK_len,opE_mk,if_neg (by omega),kl,exK_bin (by omega)]
   simp only [List.length_append,List.length_cons]
   rw [show (binF ts).1+1 - 1=lineF (binF ts).2+1 by omega] at k1
   omega
theorem lineK_min {sg:Ts→R Ex} (h:Mn 5 sg):∀k least,7≤k+least→1≤least→least≤6→Ml least (lineK sg k least)
 | 0,least=>fun a b c=>by omega
 | k+1,least=>fun a b c ts v r e=>by
  obtain ⟨x,t1,h1,e⟩:=R.bind_of e
  refine lineGo_min b ts.length (fun n g1 g2=>lineK_min h k n (by omega) (by omega) g2) _ _ _ _ _ (fun w hw=>?_) e
  have hw5:w≤5:=by
   rcases hw with hw | hw
   ·omega
   ·rcases bin_line t1 with g | ⟨_,g⟩ <;> omega
  have:=Mn.mono hw5 h _ _ _ h1
  exact this
theorem line_min {sg:Ts→R Ex} (h:Mn 5 sg):Mn 0 (lineK sg 6 1):=fun ts v r e=>(lineK_min h 6 1 (by omega) (by omega) (by omega) ts v r e).1
theorem signedF_min {d:Nat} {sg:Ts→R Ex} (h:Mn 5 sg):Mn 5 (signedF d sg):=fun ts v ts' e=>by
 have h5:∀(op:Nat) (t:Bs) (n:Int) (l:List Ex) (a:Nat),lineF op=5→(exWK 5 (.mk op t n l a)).length=(exK (.mk op t n l a)).length:=fun op t n l a g=>by rw [exWK_len,opE_mk,g];rfl
 unfold signedF at e
 split at e
 ·obtain ⟨l,t1,h1,e⟩:=R.bind_of e
  obtain ⟨t2,h2,h3,h4⟩:=within_fit h1
  cases e
  have:=h _ _ _ h2
  rw [h5 _ _ _ _ _ (by decide),exK_un (by decide)]
  simp only [List.length_cons];omega
 split at e
 ·obtain ⟨l,t1,h1,e⟩:=R.bind_of e
  obtain ⟨t2,h2,h3,h4⟩:=within_fit h1
  cases e
  have:=h _ _ _ h2
  rw [h5 _ _ _ _ _ (by decide),exK_un (by decide)]
  simp only [List.length_cons];omega
 ·exact Mn.mono (by omega) (primary_min (line_min h)) _ _ _ e
theorem signed_min:∀d,Mn 5 (signedD d)
 | 0=>signedF_min fun _ _ _ e=>by cases e
 | d+1=>signedF_min (signed_min d)
theorem expr_min (d:Nat) {ts r:Ts} {e:Ex} (h:exprD d ts=.ok e r):kl e+r.length≤ts.length:=by
 have:=line_min (signed_min d) ts e r h
 rw [exWK_len,if_neg (by omega)] at this
 omega
mutual
theorem exK_er:∀e:Ex,exK (erE e)=exK e
 | .mk op t n l a=>by rw [erE,exK,exK,exKs_er l]
theorem exKs_er:∀l:List Ex,exKs (erEs l)=exKs l
 | []=>by rw [erEs]
 | x::l=>by rw [erEs,exKs,exKs,exK_er x,exKs_er l,opE_er']
theorem opE_er':∀e:Ex,opE (erE e)=opE e
 | .mk op t n l a=>by rw [erE];rfl
end
theorem kl_of {u v:Ex} (h:erE v=erE u):kl v=kl u:=by unfold kl;rw [← exK_er v,h,exK_er]
mutual
theorem er_of_sameE:∀x y:Ex,sameE x y=true→erE x=erE y
 | .mk o1 t1 n1 l1 a1,.mk o2 t2 n2 l2 a2,h=>by
  simp only [sameE,Bool.and_eq_true,decide_eq_true_eq] at h
  obtain ⟨rfl,rfl,rfl,h⟩:=h
  rw [erE,erE,er_of_sameEs l1 l2 h]
theorem er_of_sameEs:∀l m:List Ex,sameEs l m=true→erEs l=erEs m
 | [],[],_=>rfl
 | x::l,y::m,h=>by
  simp only [sameEs,Bool.and_eq_true] at h
  rw [erEs,erEs,er_of_sameE x y h.1,er_of_sameEs l m h.2]
 | [],_::_,h=>by simp [sameEs] at h
 | _::_,[],h=>by simp [sameEs] at h
end
end Go.PM.Lex
end

section
set_option maxRecDepth 100000
set_option maxHeartbeats 8000000
namespace Go.PM.Lex
open Go.Proofs
variable {w0:World} {nG:Nat}
end Go.PM.Lex
end

section
set_option maxRecDepth 100000
set_option maxHeartbeats 16000000
namespace Go.PM.Lex
open Go.Proofs Go.RowKit
variable {w0:World} {nG:Nat}
end Go.PM.Lex
end

section
set_option maxRecDepth 100000
set_option maxHeartbeats 16000000
namespace Go.PM.Lex
open Go.Proofs
variable {w0:World} {nG:Nat}
end Go.PM.Lex
end

section
set_option maxRecDepth 100000
set_option maxHeartbeats 4000000
namespace Go.PM.Lex
open Go.Proofs
variable {w0:World} {nG:Nat}
end Go.PM.Lex
end

section
set_option maxRecDepth 100000
namespace Go
variable {H:Type} {enc:TypeId×Value→H}
end Go
namespace Go.PM.Lex
open Go.Proofs Go.Proofs.YtflgockgjnddnaaGreatDoor Go.ChangeShapes Go.WideShapes Go.ChangeAt Go.RowKit
theorem r_own:ownKnob Tryz.prog.godebug=none:=by kernel_rfl
theorem r_star : "*" ++ "errors.errorString" = "*errors.errorString" := by decide
theorem r_row124 (u : TypeId) (h : Tryz.prog.typeName? 3 u = some "*errors.errorString") : u = 352 :=
 typeName_ptr_named (nm := "errors.errorString") (by rw [r_star]; kernel_rfl) (by kernel_rfl) (by decide) u (by rw [r_star]; exact h)
theorem r_iface {W:World} {n:String} {text:List UInt8} {g:Nat} (hg:Tryz.prog.globalNamed n=some g) (ht:(Tryz.prog.globals[g]?).map (·.type)=some 206)
  (h : laidMet Tryz.prog [(n, .iface "*errors.errorString" (.ptr (.agg [.lit (.string text)])))] W) : ∃ ev, W.cell? ⟨g, 0, none⟩ = some ev ∧ (ev = .nilIface ∨ ∃ te pe, ev = .iface te pe) := by
 obtain ⟨a1,s1,hv1,_⟩:=laid_sentinel h hg ht Tryz.underlying206 r_row124 Tryz.underlying352 Tryz.underlying354 rfl rfl Tryz.underlying9 (by kernel_rfl) (by kernel_rfl)
 refine ⟨.iface 352 (.pointer (some a1)),?_,.inr ⟨_,_,rfl⟩⟩
 simpa using World.var?_cell hg hv1 0
theorem r_glob {W:World} (h:laidMetH Tryz.prog Rows.printUnlikeRow.laid W) (hsh:W.ShapedOpen Tryz.prog):GlobOK W 8:=by
 rw [MakeChecks.laidMetH_plain _ _ _ (by kernel_rfl)] at h
 have h1 := laidMet.filter (fun x => x.1 == "strconv.ErrSyntax") h
 have h2 := laidMet.filter (fun x => x.1 == "strconv.ErrRange") h
 exact ⟨by omega,Tryz.laysM143.s1_3 W hsh,r_iface (by kernel_rfl) (by kernel_rfl) h1,r_iface (by kernel_rfl) (by kernel_rfl) h2⟩
theorem r_kept {e e':Env} {W W':World} {σ':St} {may:MemPlace→Prop} (h:Later e ⟨[],[],0⟩ W e' σ' W'):W.keptBut W' may:=by
 refine ⟨h.os,h.output,fun i hi=>?_⟩
 have:=h.blocks i hi (fun j hj=>by simp at hj) (fun t ht=>by cases ht)
 rw [this]
 cases hh:W.heap[i]? with
 | none=>rfl
 | some o=>cases o <;> simp
def ePure:Env:=⟨fun _=>0,fun _=>none,fun _ _=>False⟩
theorem r_start {W:World} (h:8≤W.heap.size):SRel (GG W 8) ePure ⟨[],[],0⟩ W where
 inj:=fun i j hi=>by simp at hi
 box:=fun i x hx=>by simp at hx
 low:=fun i hi=>by simp at hi
 tkn:=fun t ht=>by cases ht
 own:=fun t ht=>by cases ht
 dis:=fun t t' ht=>by cases ht
 xlt:=fun b off hx=>hx.elim
 xown:=fun t ht=>by cases ht
 glob:=fun b hb=>rfl
 big:=h
end Go.PM.Lex
end

section
set_option maxRecDepth 100000
set_option maxHeartbeats 8000000
namespace Go.PM.Lex
open Go.Proofs Go.Proofs.YtflgockgjnddnaaGreatDoor
theorem r_first:Rows.laid_unicode_utf8_first=Lib.firstData:=by kernel_rfl
theorem r_accept:(Rows.laid_unicode_utf8_acceptRanges:DataW Unit)=Lib.acceptData:=by kernel_rfl
theorem r_tabs {W:World} (h:laidMetH Tryz.prog Rows.printUnlikeRow.laid W):Lib.Utf8Tabs 0 1 W:=by
 rw [MakeChecks.laidMetH_plain _ _ _ (by kernel_rfl)] at h
 have h1:=Lib.laidMet.reads (d:=Rows.laid_unicode_utf8_first) h (.tail _ (.tail _ (.tail _ (.tail _ (.tail _ (.tail _ (.head _)))))))
 have h2:=Lib.laidMet.reads (d:=Rows.laid_unicode_utf8_acceptRanges) h (.tail _ (.tail _ (.tail _ (.head _))))
 rw [r_first] at h1
 rw [r_accept] at h2
 exact utf8Tabs_of_readsT (U8Types.of196 Tryz.laysValid) ⟨by kernel_rfl,by kernel_rfl,by kernel_rfl,by kernel_rfl,by kernel_rfl,by kernel_rfl,by kernel_rfl⟩ h1 h2
variable {w0:World} {nG:Nat}
theorem cLexC (hb:1<nG) (hT:Lib.Utf8Tabs 0 1 w0):LexC w0 nG where
 name:=nm_ok ⟨⟨cPeek,spPeek_mono⟩,⟨letter_ok,spLetter_mono⟩,⟨cName,spName_mono⟩,trivial⟩
 quote:=quote_ok ⟨⟨valid_ok hb hT,spValid_mono⟩,⟨writeByte_ok,spWriteByte_mono⟩,⟨cIndexRune,spIndexRune_mono⟩,⟨writeRune_ok,spWriteRune_mono⟩,⟨string_ok,spString_mono⟩,trivial⟩
end Go.PM.Lex
end

section
set_option maxRecDepth 100000
set_option maxHeartbeats 4000000
namespace Go.PM.Lex
open Go.Proofs Go.Proofs.YtflgockgjnddnaaGreatDoor
def intsD:DataW Unit→List Int
 | .agg xs=>xs.map fun | .lit (.int _ z)=>z | _=>0
 | _=>[]
theorem r_pow10:(Rows.laid_internal_strconv_uint64pow10:DataW Unit)=Lib.tabData .u64 Lib.pow10Tab:=by kernel_rfl
theorem r_bru:(Rows.laid_math_bits_deBruijn64tab:DataW Unit)=Lib.tabData .u8 (intsD Rows.laid_math_bits_deBruijn64tab):=by kernel_rfl
theorem r_bru15:(intsD Rows.laid_math_bits_deBruijn64tab).getD 15 0=4:=by kernel_rfl
theorem r_bruL:(intsD Rows.laid_math_bits_deBruijn64tab).length=64:=by kernel_rfl
theorem r_num {W:World} (h:laidMetH Tryz.prog Rows.printUnlikeRow.laid W):NumOK W 8:=by
 rw [MakeChecks.laidMetH_plain _ _ _ (by kernel_rfl)] at h
 have h1 := laidMet.filter (fun x => x.1 == "internal/strconv.uint64pow10") h
 have h2 := laidMet.filter (fun x => x.1 == "math/bits.deBruijn64tab") h
 have k1 : laidMet Tryz.prog [("internal/strconv.uint64pow10", Lib.tabData .u64 Lib.pow10Tab)] W := by rw [← r_pow10]; exact h1
 have k2 : laidMet Tryz.prog [("math/bits.deBruijn64tab", Lib.tabData .u8 (intsD Rows.laid_math_bits_deBruijn64tab))] W := by rw [← r_bru]; exact h2
 refine ⟨by decide,Lib.tabIs_of_head (g:=3) (t:=304) (by kernel_rfl) (by kernel_rfl) Tryz.underlying304 (by kernel_rfl) (by kernel_rfl) (by kernel_rfl) k1,?_⟩
 have k3:=Lib.tabIs_of_head (g:=5) (t:=334) (by kernel_rfl) (by kernel_rfl) Tryz.underlying334 (by kernel_rfl) (by kernel_rfl) (by kernel_rfl) k2
 have k4:=k3.cell (g:=5) (by kernel_rfl) 15 (by rw [r_bruL];decide)
 rw [r_bru15] at k4
 exact k4
end Go.PM.Lex
end

section
namespace Go.PM.Lex
open Go.Proofs Go.Proofs.YtflgockgjnddnaaGreatDoor
theorem and_tt {a b:Bool} (h1:a=true) (h2:b=true):(a && b)=true:=by rw [h1,h2];rfl
theorem joined_of {P:Program} {f:FuncId} {fn:Func} {s:ChangeSpec} {c:OpenClaim}
  (p1:laidOutB P=true) (p2:mapsRowed P=true) (p3:(P.stops == [])=true) (p4:(P.stopKnobs == [])=true) (p5:(c.plainKeys == P.plainKeys)=true) (p6:P.stopsHeard=true) (p7:P.mayEnter=true) (p8:(c.lifted == P.liftsFinal)=true) (p9:(P.make == some c.make)=true)
  (k1:c.wf (OpenSpec.ofChange s)=true) (k2:fn.params.all (P.readableRec ·)=true) (k3:namedTie P c.named s.vars=true) (k4:(c.stops == [])=true) (k5:(c.knobs == [])=true)
  (k6:(c.inPlace == P.inPlace f)=true) (k7:(c.unfollowed == P.unfollowed f)=true) (k8:(c.recurses == P.recurses f)=true) (k9:(c.named == P.varsNamed f)=true)
  (k10:(c.maps == (fn.params.toList++s.plain.varTypes P).any (P.mapsRec ·))=true) (k11:(c.ifaces == (fn.params.toList++s.plain.varTypes P).any (P.ifacesRec ·))=true) (k12:(c.mapsOut == P.mapsAmong fn.resultTypes.toList)=true)
  (k13:(c.loops == (fn.params.toList++s.plain.varTypes P).any (P.loopsFrom ·))=true) (k14:(c.wideKeys == (fn.params.toList++s.plain.varTypes P++fn.resultTypes.toList).any (P.wideKeysFrom ·))=true)
  (k15:s.vars.all (P.varReadable ·)=true) (k16:fn.resultTypes.all (fun t=>P.readableRec t && decide (t<P.types.size))=true) (k17:(c.ifacesOut == fn.resultTypes.toList.any (P.ifacesRec ·))=true) (k18:(c.loopsOut == fn.resultTypes.toList.any (P.loopsFrom ·))=true)
  (k19:c.shortTexts.isNone=true) (k20:(c.kinds == (if c.domain.isEmpty then [] else fn.params.toList.map fun t=>match P.underlying t with | some (.int k)=>some k | _=>none))=true) (k21:(c.pinned == c.pinnedBy)=true)
  (k22:(c.veiled == (fn.params.toList++s.plain.varTypes P++fn.resultTypes.toList).any (P.veiledRec ·))=true) (k23:c.veiledFits P fn.params.toList (fn.params.toList++s.plain.varTypes P++fn.resultTypes.toList)=true):joinedFacts P f fn s c=true:=by
 unfold joinedFacts
 exact (and_tt (and_tt (and_tt (and_tt (and_tt (and_tt (and_tt (and_tt (and_tt (and_tt (and_tt (and_tt (and_tt (and_tt (and_tt (and_tt (and_tt (and_tt (and_tt (and_tt (and_tt (and_tt (and_tt (and_tt (and_tt (and_tt (and_tt (and_tt (and_tt (and_tt (and_tt k1 p1) p2) k2) k3) k4) p3) k5) p4) k6) k7) k8) k9) k10) k11) k12) k13) k14) k15) k16) k17) k18) p5) k19) p6) p7) p8) p9) k20) k21) k22) k23)
theorem jp1:laidOutB Tryz.checked.prog=true:=by kernel_rfl
theorem jp2:mapsRowed Tryz.checked.prog=true:=by kernel_rfl
theorem jp3:(Tryz.checked.prog.stops == [])=true:=by kernel_rfl
theorem jp4:(Tryz.checked.prog.stopKnobs == [])=true:=by kernel_rfl
theorem jp5:(Rows.printUnlikeRow.plainKeys == Tryz.checked.prog.plainKeys)=true:=by kernel_rfl
theorem jp6:Tryz.checked.prog.stopsHeard=true:=by kernel_rfl
theorem jp7:Tryz.checked.prog.mayEnter=true:=by kernel_rfl
theorem jp8:(Rows.printUnlikeRow.lifted == Tryz.checked.prog.liftsFinal)=true:=by kernel_rfl
theorem jp9:(Tryz.checked.prog.make == some Rows.printUnlikeRow.make)=true:=by kernel_rfl
theorem jp10:Tryz.checked.prog.mainIs=some (Rows.printUnlikeCard.stood.harness.1,Rows.printUnlikeCard.stood.harness.2.toList):=by kernel_rfl
theorem jp11:Rows.printUnlikeCard.stood.looks=Tryz.checked.prog.looks []:=by kernel_rfl
end Go.PM.Lex
end

section
set_option maxRecDepth 100000
set_option maxHeartbeats 1000000
namespace Go.PM
mutual
inductive PlainD (P:Program):TypeId→List D→Nat→Prop
 | int {t:TypeId} {k:IntKind} {n:Int} (h:P.underlying t=some (.int k)) (hw:(Lit.int k n).wf=true):PlainD P t [.int k n] 1
 | str {t:TypeId} {s:List UInt8} (h:P.underlying t=some .string):PlainD P t [.str s] (s.length+1)
 | bool {t:TypeId} {b:Bool} (h:P.underlying t=some .bool):PlainD P t [.bool b] 1
 | st {t:TypeId} {fs:Array Field} {ds:List D} {b:Nat} (h:P.underlying t=some (.struct fs)) (hf:PlainFs P (fs.toList.map (·.type)) ds b):PlainD P t ds (b+1)
 | sl {t e:TypeId} {rows:List (List D)} {b:Nat} (h:P.underlying t=some (.slice e)) (hr:PlainRs P e rows b):PlainD P t [.sl rows] (b+1)
inductive PlainFs (P:Program):List TypeId→List D→Nat→Prop
 | nil:PlainFs P [] [] 0
 | cons {f:TypeId} {l:List TypeId} {r ds:List D} {b c:Nat} (h1:PlainD P f r b) (h2:PlainFs P l ds c):PlainFs P (f::l) (r++ds) (b+c)
inductive PlainRs (P:Program):TypeId→List (List D)→Nat→Prop
 | nil {e:TypeId}:PlainRs P e [] 0
 | cons {e:TypeId} {r:List D} {rows:List (List D)} {b c:Nat} (h1:PlainD P e r b) (h2:PlainRs P e rows c):PlainRs P e (r::rows) (b+c)
end
structure CR (ok:Nat→Nat→Prop) (w:World) (ds:List D) (cs:List Value):Prop where
 len:ds.length=cs.length
 rel:∀(i:Nat) (x:D) (u:Value),ds[i]?=some x→cs[i]?=some u→DRel ok w x u
 one:∀u∈cs,u.oneCell'=true
theorem CR.nil {ok:Nat→Nat→Prop} {w:World}:CR ok w [] []:=⟨rfl,fun i x u h=>by simp at h,fun u h=>by cases h⟩
theorem CR.one1 {ok:Nat→Nat→Prop} {w:World} {x:D} {u:Value} (h:DRel ok w x u) (h1:u.oneCell'=true):CR ok w [x] [u]:=⟨rfl,fun i y v hy hv=>by
 match i,hy,hv with
 | 0,hy,hv=>cases hy;cases hv;exact h
 | i+1,hy,hv=>simp at hy,fun v hv=>by rw [List.mem_singleton.1 hv];exact h1⟩
theorem CR.app {ok:Nat→Nat→Prop} {w:World} {d1 d2:List D} {c1 c2:List Value} (h1:CR ok w d1 c1) (h2:CR ok w d2 c2):CR ok w (d1++d2) (c1++c2):=by
 refine ⟨by rw [List.length_append,List.length_append,h1.len,h2.len],fun i x u hx hu=>?_,fun u hu=>?_⟩
 ·by_cases hi:i<d1.length
  ·rw [List.getElem?_append_left hi] at hx
   rw [List.getElem?_append_left (by rw [← h1.len];exact hi)] at hu
   exact h1.rel i x u hx hu
  ·rw [List.getElem?_append_right (by omega)] at hx
   rw [List.getElem?_append_right (by rw [← h1.len];omega),← h1.len] at hu
   exact h2.rel _ x u hx hu
 ·rcases List.mem_append.1 hu with h | h
  ·exact h1.one u h
  ·exact h2.one u h
def offsB (P:Program):List Field→Nat→Option Nat
 | [],a=>some a
 | f::l,a=>if f.offset=a then offsB P l (a+P.cellsOf f.type) else none
def plainB (P:Program) (S:List TypeId) (t:TypeId):Bool:=match P.underlying t with
 | some (.int _) | some .string | some .bool=>true
 | some (.struct fs)=>fs.toList.all (fun f=>S.contains f.type) && decide (offsB P fs.toList 0=some (P.cellsOf t))
 | some (.slice e)=>S.contains e && decide (0<P.cellsOf e)
 | _=>false
section
variable {H:Type} {enc:TypeId×Value→H} {P:Program} {w:World} {ok:Nat→Nat→Prop}
theorem trod_plain {S:List TypeId} (hS:S.all (plainB P S)=true) (hok:∀b off,ok b off) (bulk:DataW H→Nat) (bulks:List (DataW H)→Nat)
  (k1:∀k n,1≤bulk (.lit (.int k n))) (k2:∀s,s.length+1≤bulk (.lit (.string s))) (k3:∀b,1≤bulk (.lit (.bool b))) (k4:∀l,bulks l+1≤bulk (.agg l)) (k5:∀l m,bulks l+1≤bulk (.slice l m)) (k6:1≤bulk .nil) (k7:∀d l,bulk d+bulks l≤bulks (d::l)) :
  ∀(fuel:Nat) (t:TypeId) (cs:List Value) (x:DataW H×List MemPlace),t∈S→DataW.trod enc P w 0 (fun _=>true) true fuel t cs=some x→∃ds b,PlainD P t ds b∧CR ok w ds cs∧b≤bulk x.1
 | 0,t,cs,x,ht,h=>by simp [DataW.trod] at h
 | fuel+1,t,cs,x,ht,h=>by
  have hp:=List.all_eq_true.1 hS t ht
  unfold plainB at hp
  split at hp
  ·rename_i k hu
   obtain ⟨n,rfl,rfl,hw⟩:=DataW.trod_int hu h
   exact ⟨_,1,.int hu hw,.one1 (.int _ _) rfl,k1 _ _⟩
  ·rename_i hu
   obtain ⟨s,rfl,rfl,hw⟩:=DataW.trod_string hu h
   exact ⟨[.str s.data.toList],_,.str hu,.one1 (.str _) rfl,k2 _⟩
  ·rename_i hu
   obtain ⟨b,rfl,rfl⟩:=DataW.trod_bool hu h
   exact ⟨_,1,.bool hu,.one1 (.bool _) rfl,k3 _⟩
  ·rename_i fs hu
   rw [Bool.and_eq_true,decide_eq_true_eq,List.all_eq_true] at hp
   obtain ⟨hp1,hp2⟩:=hp
   obtain ⟨xs,n,hn,rfl,hlen,hxl,hf⟩:=DataW.trod_struct hu h
   obtain rfl:fuel=n:=by omega
   have key:∀(l:List Field) (k a:Nat),fs.toList.drop k=l→offsB P l a=some (P.cellsOf t)→∃ds b,PlainFs P (l.map (·.type)) ds b∧CR ok w ds (cs.drop a)∧b≤bulks ((xs.drop k).map (·.1)):=by
    intro l
    induction l with
    | nil =>
     intro k a hk ha
     cases ha
     exact ⟨[],0,.nil,by rw [List.drop_eq_nil_of_le (by omega)];exact .nil,Nat.zero_le _⟩
    | cons f l ih =>
     intro k a hk ha
     rw [offsB] at ha
     split at ha
     ·rename_i hoff
      have hkl:k<fs.size:=by
       have:=congrArg List.length hk
       simp at this;omega
      have hfk:fs[k]?=some f:=by
       have:(fs.toList.drop k)[0]?=some f:=by rw [hk];rfl
       simpa using this
      have hd:fs.toList.drop (k+1)=l:=by rw [← List.drop_drop,hk];rfl
      obtain ⟨ds,b,g1,g2,g3⟩:=ih (k+1) _ hd ha
      have hx:=hf k f hfk
      rw [List.getElem?_eq_getElem (by omega)] at hx
      have hfS:f.type∈S:=by
       have:=hp1 f (by have:=List.mem_of_getElem? (l:=fs.toList) (i:=k) (a:=f) (by simpa using hfk);exact this)
       simpa using this
      obtain ⟨dr,br,q1,q2,q3⟩:=trod_plain hS hok bulk bulks k1 k2 k3 k4 k5 k6 k7 fuel _ _ _ hfS hx
      rw [hoff] at q2
      refine ⟨dr++ds,br+b,.cons q1 g1,?_,?_⟩
      ·have e:cs.drop a=(cs.drop a).take (P.cellsOf f.type)++cs.drop (a+P.cellsOf f.type):=by rw [← List.drop_drop,List.take_append_drop]
       rw [e]
       exact q2.app g2
      ·have e:xs.drop k=xs[k]::xs.drop (k+1):=List.drop_eq_getElem_cons (by omega)
       rw [e,List.map_cons]
       exact Nat.le_trans (Nat.add_le_add q3 g3) (k7 _ _)
     ·cases ha
   obtain ⟨ds,b,g1,g2,g3⟩:=key fs.toList 0 0 rfl hp2
   rw [List.drop_zero] at g2 g3
   exact ⟨ds,b+1,.st hu g1,g2,Nat.le_trans (Nat.add_le_add_right g3 1) (k4 _)⟩
  ·rename_i e hu
   rw [Bool.and_eq_true,decide_eq_true_eq] at hp
   obtain ⟨hp,hpos⟩:=hp
   have heS:e∈S:=by simpa using hp
   rcases DataW.trod_slice hu h with ⟨rfl,rfl⟩ | ⟨a,len,cap,elems,rest,n,hn,rfl,rfl,hb,hl,hm,hlen,hel,hsp,hns⟩
   ·exact ⟨[.sl []],1,.sl hu .nil,.one1 .slnil rfl,k6⟩
   obtain rfl:fuel=n:=by omega
   obtain ⟨hs1,hs2⟩:=hsp rfl
   by_cases hc0:cap=0
   ·subst hc0
    obtain rfl:len=0:=by omega
    exact ⟨[.sl []],1,.sl hu .nil,.one1 (.slz a) rfl,Nat.le_trans (by omega) (k5 _ _)⟩
   have hspot:a.spot=none:=by
    have h0:∃cs',w.cells? 0 (a.add (0 * P.cellsOf e)) (P.cellsOf e)=some cs':=by
     by_cases hl0:0<len
     ·have:=hel 0 hl0
      rw [List.getElem?_eq_getElem (by omega)] at this
      obtain ⟨cs',h1,_⟩:=Option.bind_eq_some_iff.1 this
      exact ⟨cs',h1⟩
     ·have:=hs2 0 (by omega)
      rw [List.getElem?_eq_getElem (by omega)] at this
      obtain ⟨cs',h1,_⟩:=Option.bind_eq_some_iff.1 this
      exact ⟨cs',by rw [show len+0=0 by omega] at h1;exact h1⟩
    obtain ⟨cs',h1⟩:=h0
    obtain ⟨_,h2,h3⟩:=World.cells?_some h1
    have h4:=h3 0 hpos
    rw [List.getElem?_eq_getElem (by omega)] at h4
    have ea:(a.add (0 * P.cellsOf e)).add 0=a:=by simp [Addr.add]
    rw [ea] at h4
    cases hsp:a.spot with
    | none=>rfl
    | some q =>
     unfold World.cell? at h4
     split at h4
     ·rw [hsp] at h4;simp at h4
     ·cases h4
   obtain ⟨blk,off,sp⟩:=a
   obtain rfl:sp=none:=hspot
   have key:∀(m k:Nat),k+m=len→∃rows b,PlainRs P e rows b∧rows.length=m∧b≤bulks ((elems.drop k).map (·.1))∧∀(i:Nat) (r:List D),rows[i]?=some r→∃cs,cs.length=P.cellsOf e∧CR ok w r cs∧∀j,j<P.cellsOf e→w.cell? ⟨blk,off+(k+i) * P.cellsOf e+j,none⟩=cs[j]?:=by
    intro m
    induction m with
    | zero=>intro k hk;exact ⟨[],0,.nil,rfl,Nat.zero_le _,fun i r h=>by simp at h⟩
    | succ m ih =>
     intro k hk
     obtain ⟨rows,b,g1,g2,g3,g4⟩:=ih (k+1) (by omega)
     have hx:=hel k (by omega)
     rw [List.getElem?_eq_getElem (by omega)] at hx
     obtain ⟨cs',h1,h2⟩:=Option.bind_eq_some_iff.1 hx
     obtain ⟨_,h3,h4⟩:=World.cells?_some h1
     obtain ⟨dr,br,q1,q2,q3⟩:=trod_plain hS hok bulk bulks k1 k2 k3 k4 k5 k6 k7 fuel _ _ _ heS h2
     refine ⟨dr::rows,br+b,.cons q1 g1,by rw [List.length_cons,g2],?_,fun i r hr=>?_⟩
     ·rw [List.drop_eq_getElem_cons (show k<elems.length by omega),List.map_cons]
      exact Nat.le_trans (Nat.add_le_add q3 g3) (k7 _ _)
     ·cases i with
      | zero =>
       cases hr
       refine ⟨cs',h3,q2,fun j hj=>?_⟩
       have:=h4 j hj
       rw [add_addr,add_addr] at this
       rw [Nat.add_zero];exact this
      | succ i =>
       rw [List.getElem?_cons_succ] at hr
       obtain ⟨cs,e1,e2,e3⟩:=g4 i r hr
       exact ⟨cs,e1,e2,fun j hj=>by rw [show k+(i+1)=k+1+i by omega];exact e3 j hj⟩
   obtain ⟨rows,b,g1,g2,g3,g4⟩:=key len 0 (by omega)
   rw [List.drop_zero] at g3
   refine ⟨[.sl rows],b+1,.sl hu g1,.one1 ?_ rfl,Nat.le_trans (Nat.add_le_add_right g3 1) (k5 _ _)⟩
   subst g2
   refine .sl rows blk off cap (P.cellsOf e) (fun i j=>(w.cell? ⟨blk,off+i * P.cellsOf e+j,none⟩).getD default) hl (fun r hr=>?_) (fun i j hi hj=>?_) (fun i j _ _=>hok _ _) (fun i j x hx=>?_)
   ·obtain ⟨i,hi,rfl⟩:=List.getElem_of_mem hr
    obtain ⟨cs,e1,e2,_⟩:=g4 i _ (List.getElem?_eq_getElem hi)
    rw [e2.len,e1]
   ·obtain ⟨cs,e1,e2,e3⟩:=g4 i _ (List.getElem?_eq_getElem hi)
    have:=e3 j hj
    rw [Nat.zero_add,List.getElem?_eq_getElem (by omega)] at this
    simp only [this,Option.getD_some]
   ·obtain ⟨r,hr,hx⟩:=Option.bind_eq_some_iff.1 hx
    obtain ⟨cs,e1,e2,e3⟩:=g4 i r hr
    have hjr:=(List.getElem?_eq_some_iff.1 hx).1
    have hj:j<P.cellsOf e:=by rw [← e1,← e2.len];exact hjr
    have:=e3 j hj
    rw [Nat.zero_add,List.getElem?_eq_getElem (by omega)] at this
    simp only [this,Option.getD_some]
    exact e2.rel j x _ hx (List.getElem?_eq_getElem (by omega))
  ·cases hp
end
end Go.PM
end

section
set_option maxRecDepth 100000
set_option maxHeartbeats 1000000
namespace Go.PM
def stB (P:Program) (t:TypeId) (tys:List TypeId):Bool:=match P.underlying t with | some (.struct fs)=>decide (fs.toList.map (·.type)=tys) | _=>false
def slB (P:Program) (t e:TypeId):Bool:=match P.underlying t with | some (.slice u)=>decide (u=e) | _=>false
def intB (P:Program) (t:TypeId) (k:IntKind):Bool:=match P.underlying t with | some (.int u)=>decide (u=k) | _=>false
def strB (P:Program) (t:TypeId):Bool:=match P.underlying t with | some .string=>true | _=>false
def boolB (P:Program) (t:TypeId):Bool:=match P.underlying t with | some .bool=>true | _=>false
section
variable {P:Program} {t e:TypeId} {ds:List D} {b:Nat}
theorem PlainD.inv_st {tys:List TypeId} (h:PlainD P t ds b) (hu:stB P t tys=true):∃c,b=c+1∧PlainFs P tys ds c:=by
 unfold stB at hu
 cases h with
 | st h hf=>rw [h] at hu;simp only [decide_eq_true_eq] at hu;exact ⟨_,rfl,hu ▸ hf⟩
 | int h _=>rw [h] at hu;cases hu
 | str h=>rw [h] at hu;cases hu
 | bool h=>rw [h] at hu;cases hu
 | sl h _=>rw [h] at hu;cases hu
theorem PlainD.inv_sl (h:PlainD P t ds b) (hu:slB P t e=true):∃rows c,ds=[.sl rows]∧b=c+1∧PlainRs P e rows c:=by
 unfold slB at hu
 cases h with
 | sl h hr=>rw [h] at hu;simp only [decide_eq_true_eq] at hu;exact ⟨_,_,rfl,rfl,hu ▸ hr⟩
 | int h _=>rw [h] at hu;cases hu
 | str h=>rw [h] at hu;cases hu
 | bool h=>rw [h] at hu;cases hu
 | st h _=>rw [h] at hu;cases hu
theorem PlainD.inv_int {k:IntKind} (h:PlainD P t ds b) (hu:intB P t k=true):∃n,ds=[.int k n]∧b=1∧(Lit.int k n).wf=true:=by
 unfold intB at hu
 cases h with
 | int h hw=>rw [h] at hu;simp only [decide_eq_true_eq] at hu;subst hu;exact ⟨_,rfl,rfl,hw⟩
 | sl h _=>rw [h] at hu;cases hu
 | str h=>rw [h] at hu;cases hu
 | bool h=>rw [h] at hu;cases hu
 | st h _=>rw [h] at hu;cases hu
theorem PlainD.inv_str (h:PlainD P t ds b) (hu:strB P t=true):∃s,ds=[.str s]∧b=s.length+1:=by
 unfold strB at hu
 cases h with
 | str h=>exact ⟨_,rfl,rfl⟩
 | sl h _=>rw [h] at hu;cases hu
 | int h _=>rw [h] at hu;cases hu
 | bool h=>rw [h] at hu;cases hu
 | st h _=>rw [h] at hu;cases hu
theorem PlainD.inv_bool (h:PlainD P t ds b) (hu:boolB P t=true):∃q,ds=[.bool q]∧b=1:=by
 unfold boolB at hu
 cases h with
 | bool h=>exact ⟨_,rfl,rfl⟩
 | sl h _=>rw [h] at hu;cases hu
 | int h _=>rw [h] at hu;cases hu
 | str h=>rw [h] at hu;cases hu
 | st h _=>rw [h] at hu;cases hu
theorem PlainFs.inv {f:TypeId} {l:List TypeId} (h:PlainFs P (f::l) ds b):∃r ds' b1 c,ds=r++ds'∧b=b1+c∧PlainD P f r b1∧PlainFs P l ds' c:=by
 cases h with
 | cons h1 h2=>exact ⟨_,_,_,_,rfl,rfl,h1,h2⟩
theorem PlainFs.inv0 (h:PlainFs P [] ds b):ds=[]∧b=0:=by cases h;exact ⟨rfl,rfl⟩
end
end Go.PM
namespace Go.PM.Lex
open Go.Proofs
def plZ:Pl:=fun n=>if n % 2=0 then (n / 2:Nat) else -((n / 2:Nat):Int) - 1
def zc (z:Int):Nat:=if 0≤z then 2 * z.toNat else 2 * (-z - 1).toNat+1
theorem plZ_zc (z:Int):plZ (zc z)=z:=by
 unfold plZ zc
 by_cases h:0≤z
 ·rw [if_pos h,if_pos (by omega)];omega
 ·rw [if_neg h,if_neg (by omega)];omega
theorem decRs {α:Type} {P:Program} {e:TypeId} {enc:α→List D} {sz w:α→Nat} {p:α→Bool}:∀{rows:List (List D)} {b:Nat},PlainRs P e rows b→(∀r c,c≤b→PlainD P e r c→∃x,r=enc x∧sz x+1≤2 * c∧w x+1≤2 * c∧p x=true)→∃xs,rows=xs.map enc∧szS sz xs≤2 * b∧szS w xs≤2 * b∧xs.all p=true
 | [],b,h,hd=>⟨[],rfl,by simp [szS],by simp [szS],rfl⟩
 | r::rows,b,h,hd=>by
  cases h with
  | cons h1 h2 =>
   rename_i b1 c
   obtain ⟨x,rfl,g1,g2,g5⟩:=hd r b1 (by omega) h1
   obtain ⟨xs,rfl,g3,g4,g6⟩:=decRs h2 fun r c' hc=>hd r c' (by omega)
   exact ⟨x::xs,rfl,by simp only [szS];omega,by simp only [szS];omega,by rw [List.all_cons,g5,g6];rfl⟩
theorem wf_u8 {n:Int} (h:(Lit.int .u8 n).wf=true):∃k:Nat,n=k:=by
 have:0≤n∧n≤255:=by simpa [Lit.wf,IntKind.min,IntKind.max,IntKind.signed,IntKind.bits] using h
 exact ⟨n.toNat,by omega⟩
theorem wf_i64 {n:Int} (h:(Lit.int .i64 n).wf=true):rngN n=true:=by
 have:-9223372036854775808≤n∧n≤9223372036854775807:=by simpa [Lit.wf,IntKind.min,IntKind.max,IntKind.signed,IntKind.bits] using h
 simp only [rngN,Bool.and_eq_true,decide_eq_true_eq]
 omega
theorem str_dec {P:Program} {t:TypeId} (hu:strB P t=true) (b:Nat):∀r c,c≤b→PlainD P t r c→∃x,r=encBs x∧sz0 x+1≤2 * c∧wBs x+1≤2 * c∧(fun _=>true) x=true:=fun r c _ h=>by
 obtain ⟨s,rfl,rfl⟩:=h.inv_str hu
 exact ⟨s,rfl,by simp only [sz0];omega,by simp only [wBs];omega,rfl⟩
theorem stE:stB Tryz.prog 24 [5,9,2,22,3]=true:=by kernel_rfl
theorem stL:stB Tryz.prog 60 [5,9,22,48,3]=true:=by kernel_rfl
theorem stRu:stB Tryz.prog 50 [9,22,48,3]=true:=by kernel_rfl
theorem stFi:stB Tryz.prog 66 [9,9]=true:=by kernel_rfl
theorem stCa:stB Tryz.prog 148 [9,61]=true:=by kernel_rfl
theorem stTy:stB Tryz.prog 64 [5,9,9,61,62,3]=true:=by kernel_rfl
theorem stRe:stB Tryz.prog 68 [9,61,4,4,4,3]=true:=by kernel_rfl
theorem stIn:stB Tryz.prog 73 [9,9,69,3]=true:=by kernel_rfl
theorem stOv:stB Tryz.prog 75 [9,3]=true:=by kernel_rfl
theorem stUn:stB Tryz.prog 44 [37,38,39,40,41,42]=true:=by kernel_rfl
theorem stCo:stB Tryz.prog 71 [9,69,9,69,44,3]=true:=by kernel_rfl
theorem slE:slB Tryz.prog 22 24=true:=by kernel_rfl
theorem slL:slB Tryz.prog 48 60=true:=by kernel_rfl
theorem slFi:slB Tryz.prog 61 66=true:=by kernel_rfl
theorem slCa:slB Tryz.prog 62 148=true:=by kernel_rfl
theorem slTy:slB Tryz.prog 37 64=true:=by kernel_rfl
theorem slRe:slB Tryz.prog 38 68=true:=by kernel_rfl
theorem slRu:slB Tryz.prog 39 50=true:=by kernel_rfl
theorem slCo:slB Tryz.prog 40 71=true:=by kernel_rfl
theorem slIn:slB Tryz.prog 41 73=true:=by kernel_rfl
theorem slOv:slB Tryz.prog 42 75=true:=by kernel_rfl
theorem slStr:slB Tryz.prog 69 9=true:=by kernel_rfl
theorem bStr:strB Tryz.prog 9=true:=by kernel_rfl
theorem bInt:intB Tryz.prog 3 .i64=true:=by kernel_rfl
theorem bI64:intB Tryz.prog 2 .i64=true:=by kernel_rfl
theorem bU8:intB Tryz.prog 5 .u8=true:=by kernel_rfl
theorem bBool:boolB Tryz.prog 4=true:=by kernel_rfl
theorem decE:∀(n:Nat) (ds:List D) (b:Nat),b≤n→PlainD Tryz.prog 24 ds b→∃x,ds=encE plZ x∧szE x+1≤2 * b∧wE x+1≤2 * b∧rngE x=true
 | n,ds,b,hb,h=>by
  obtain ⟨c,rfl,hf⟩:=h.inv_st stE
  cases n with
  | zero=>omega
  | succ n =>
   obtain ⟨_,_,b1,c1,rfl,rfl,h1,hf⟩:=hf.inv
   obtain ⟨_,_,b2,c2,rfl,rfl,h2,hf⟩:=hf.inv
   obtain ⟨_,_,b3,c3,rfl,rfl,h3,hf⟩:=hf.inv
   obtain ⟨_,_,b4,c4,rfl,rfl,h4,hf⟩:=hf.inv
   obtain ⟨_,_,b5,c5,rfl,rfl,h5,hf⟩:=hf.inv
   obtain ⟨rfl,rfl⟩:=hf.inv0
   obtain ⟨q1,rfl,rfl,w1⟩:=h1.inv_int bU8
   obtain ⟨q1,rfl⟩:=wf_u8 w1
   obtain ⟨q2,rfl,rfl⟩:=h2.inv_str bStr
   obtain ⟨q3,rfl,rfl,w3⟩:=h3.inv_int bI64
   have p3:=wf_i64 w3
   obtain ⟨rows4,d4,rfl,rfl,hr4⟩:=h4.inv_sl slE
   obtain ⟨q4,rfl,g4,e4,p4⟩:=decRs (enc:=encE plZ) (sz:=szE) (w:=wE) (p:=rngE) hr4 fun r c hc hd=>decE n r c (by omega) hd
   obtain ⟨q5,rfl,rfl,-⟩:=h5.inv_int bInt
   refine ⟨.mk q1 q2 q3 q4 (zc q5),?_,?_,?_,?_⟩
   ·simp only [encE,encEs_eq,encLs_eq,encCos_eq,plZ_zc];rfl
   ·simp only [szE,szEs_eq,szLs_eq,szCos_eq];omega
   ·simp only [wE,wEs_eq,wLs_eq,wCos_eq];omega
   ·simp only [rngE,rngEs_eq,rngLs_eq,rngCos_eq,p3,p4];rfl
theorem decE' {b:Nat} {ds:List D} (h:PlainD Tryz.prog 24 ds b):∃x,ds=encE plZ x∧szE x+1≤2 * b∧wE x+1≤2 * b∧rngE x=true:=decE b ds b (Nat.le_refl _) h
theorem decL:∀(n:Nat) (ds:List D) (b:Nat),b≤n→PlainD Tryz.prog 60 ds b→∃x,ds=encL plZ x∧szL x+1≤2 * b∧wL x+1≤2 * b∧rngL x=true
 | n,ds,b,hb,h=>by
  obtain ⟨c,rfl,hf⟩:=h.inv_st stL
  cases n with
  | zero=>omega
  | succ n =>
   obtain ⟨_,_,b1,c1,rfl,rfl,h1,hf⟩:=hf.inv
   obtain ⟨_,_,b2,c2,rfl,rfl,h2,hf⟩:=hf.inv
   obtain ⟨_,_,b3,c3,rfl,rfl,h3,hf⟩:=hf.inv
   obtain ⟨_,_,b4,c4,rfl,rfl,h4,hf⟩:=hf.inv
   obtain ⟨_,_,b5,c5,rfl,rfl,h5,hf⟩:=hf.inv
   obtain ⟨rfl,rfl⟩:=hf.inv0
   obtain ⟨q1,rfl,rfl,w1⟩:=h1.inv_int bU8
   obtain ⟨q1,rfl⟩:=wf_u8 w1
   obtain ⟨q2,rfl,rfl⟩:=h2.inv_str bStr
   obtain ⟨rows3,d3,rfl,rfl,hr3⟩:=h3.inv_sl slE
   obtain ⟨q3,rfl,g3,e3,p3⟩:=decRs (enc:=encE plZ) (sz:=szE) (w:=wE) (p:=rngE) hr3 fun r c hc hd=>decE' hd
   obtain ⟨rows4,d4,rfl,rfl,hr4⟩:=h4.inv_sl slL
   obtain ⟨q4,rfl,g4,e4,p4⟩:=decRs (enc:=encL plZ) (sz:=szL) (w:=wL) (p:=rngL) hr4 fun r c hc hd=>decL n r c (by omega) hd
   obtain ⟨q5,rfl,rfl,-⟩:=h5.inv_int bInt
   refine ⟨.mk q1 q2 q3 q4 (zc q5),?_,?_,?_,?_⟩
   ·simp only [encL,encEs_eq,encLs_eq,encCos_eq,plZ_zc];rfl
   ·simp only [szL,szEs_eq,szLs_eq,szCos_eq];omega
   ·simp only [wL,wEs_eq,wLs_eq,wCos_eq];omega
   ·simp only [rngL,rngEs_eq,rngLs_eq,rngCos_eq,p3,p4];rfl
theorem decL' {b:Nat} {ds:List D} (h:PlainD Tryz.prog 60 ds b):∃x,ds=encL plZ x∧szL x+1≤2 * b∧wL x+1≤2 * b∧rngL x=true:=decL b ds b (Nat.le_refl _) h
theorem decRu:∀(n:Nat) (ds:List D) (b:Nat),b≤n→PlainD Tryz.prog 50 ds b→∃x,ds=encRu plZ x∧szRu x+1≤2 * b∧wRu x+1≤2 * b∧rngRu x=true
 | n,ds,b,hb,h=>by
  obtain ⟨c,rfl,hf⟩:=h.inv_st stRu
  cases n with
  | zero=>omega
  | succ n =>
   obtain ⟨_,_,b1,c1,rfl,rfl,h1,hf⟩:=hf.inv
   obtain ⟨_,_,b2,c2,rfl,rfl,h2,hf⟩:=hf.inv
   obtain ⟨_,_,b3,c3,rfl,rfl,h3,hf⟩:=hf.inv
   obtain ⟨_,_,b4,c4,rfl,rfl,h4,hf⟩:=hf.inv
   obtain ⟨rfl,rfl⟩:=hf.inv0
   obtain ⟨q1,rfl,rfl⟩:=h1.inv_str bStr
   obtain ⟨rows2,d2,rfl,rfl,hr2⟩:=h2.inv_sl slE
   obtain ⟨q2,rfl,g2,e2,p2⟩:=decRs (enc:=encE plZ) (sz:=szE) (w:=wE) (p:=rngE) hr2 fun r c hc hd=>decE' hd
   obtain ⟨rows3,d3,rfl,rfl,hr3⟩:=h3.inv_sl slL
   obtain ⟨q3,rfl,g3,e3,p3⟩:=decRs (enc:=encL plZ) (sz:=szL) (w:=wL) (p:=rngL) hr3 fun r c hc hd=>decL' hd
   obtain ⟨q4,rfl,rfl,-⟩:=h4.inv_int bInt
   refine ⟨.mk q1 q2 q3 (zc q4),?_,?_,?_,?_⟩
   ·simp only [encRu,encEs_eq,encLs_eq,encCos_eq,plZ_zc];rfl
   ·simp only [szRu,szEs_eq,szLs_eq,szCos_eq];omega
   ·simp only [wRu,wEs_eq,wLs_eq,wCos_eq];omega
   ·simp only [rngRu,rngEs_eq,rngLs_eq,rngCos_eq,p2,p3];rfl
theorem decRu' {b:Nat} {ds:List D} (h:PlainD Tryz.prog 50 ds b):∃x,ds=encRu plZ x∧szRu x+1≤2 * b∧wRu x+1≤2 * b∧rngRu x=true:=decRu b ds b (Nat.le_refl _) h
theorem decFi:∀(n:Nat) (ds:List D) (b:Nat),b≤n→PlainD Tryz.prog 66 ds b→∃x,ds=encFi x∧sz0 x+1≤2 * b∧wFi x+1≤2 * b∧(fun _=>true) x=true
 | n,ds,b,hb,h=>by
  obtain ⟨c,rfl,hf⟩:=h.inv_st stFi
  cases n with
  | zero=>omega
  | succ n =>
   obtain ⟨_,_,b1,c1,rfl,rfl,h1,hf⟩:=hf.inv
   obtain ⟨_,_,b2,c2,rfl,rfl,h2,hf⟩:=hf.inv
   obtain ⟨rfl,rfl⟩:=hf.inv0
   obtain ⟨q1,rfl,rfl⟩:=h1.inv_str bStr
   obtain ⟨q2,rfl,rfl⟩:=h2.inv_str bStr
   refine ⟨.mk q1 q2,?_,?_,?_,?_⟩
   ·simp only [encFi,encEs_eq,encLs_eq,encCos_eq,plZ_zc];rfl
   ·simp only [sz0,szEs_eq,szLs_eq,szCos_eq];omega
   ·simp only [wFi,wEs_eq,wLs_eq,wCos_eq];omega
   ·rfl
theorem decFi' {b:Nat} {ds:List D} (h:PlainD Tryz.prog 66 ds b):∃x,ds=encFi x∧sz0 x+1≤2 * b∧wFi x+1≤2 * b∧(fun _=>true) x=true:=decFi b ds b (Nat.le_refl _) h
theorem decCa:∀(n:Nat) (ds:List D) (b:Nat),b≤n→PlainD Tryz.prog 148 ds b→∃x,ds=encCa x∧szCa x+1≤2 * b∧wCa x+1≤2 * b∧(fun _=>true) x=true
 | n,ds,b,hb,h=>by
  obtain ⟨c,rfl,hf⟩:=h.inv_st stCa
  cases n with
  | zero=>omega
  | succ n =>
   obtain ⟨_,_,b1,c1,rfl,rfl,h1,hf⟩:=hf.inv
   obtain ⟨_,_,b2,c2,rfl,rfl,h2,hf⟩:=hf.inv
   obtain ⟨rfl,rfl⟩:=hf.inv0
   obtain ⟨q1,rfl,rfl⟩:=h1.inv_str bStr
   obtain ⟨rows2,d2,rfl,rfl,hr2⟩:=h2.inv_sl slFi
   obtain ⟨q2,rfl,g2,e2,p2⟩:=decRs (enc:=encFi) (sz:=sz0) (w:=wFi) (p:=fun _=>true) hr2 fun r c hc hd=>decFi' hd
   refine ⟨.mk q1 q2,?_,?_,?_,?_⟩
   ·simp only [encCa,encEs_eq,encLs_eq,encCos_eq,plZ_zc];rfl
   ·simp only [szCa,szEs_eq,szLs_eq,szCos_eq];omega
   ·simp only [wCa,wEs_eq,wLs_eq,wCos_eq];omega
   ·rfl
theorem decCa' {b:Nat} {ds:List D} (h:PlainD Tryz.prog 148 ds b):∃x,ds=encCa x∧szCa x+1≤2 * b∧wCa x+1≤2 * b∧(fun _=>true) x=true:=decCa b ds b (Nat.le_refl _) h
theorem decTy:∀(n:Nat) (ds:List D) (b:Nat),b≤n→PlainD Tryz.prog 64 ds b→∃x,ds=encTy plZ x∧szTy x+1≤2 * b∧wTy x+1≤2 * b∧(fun _=>true) x=true
 | n,ds,b,hb,h=>by
  obtain ⟨c,rfl,hf⟩:=h.inv_st stTy
  cases n with
  | zero=>omega
  | succ n =>
   obtain ⟨_,_,b1,c1,rfl,rfl,h1,hf⟩:=hf.inv
   obtain ⟨_,_,b2,c2,rfl,rfl,h2,hf⟩:=hf.inv
   obtain ⟨_,_,b3,c3,rfl,rfl,h3,hf⟩:=hf.inv
   obtain ⟨_,_,b4,c4,rfl,rfl,h4,hf⟩:=hf.inv
   obtain ⟨_,_,b5,c5,rfl,rfl,h5,hf⟩:=hf.inv
   obtain ⟨_,_,b6,c6,rfl,rfl,h6,hf⟩:=hf.inv
   obtain ⟨rfl,rfl⟩:=hf.inv0
   obtain ⟨q1,rfl,rfl,w1⟩:=h1.inv_int bU8
   obtain ⟨q1,rfl⟩:=wf_u8 w1
   obtain ⟨q2,rfl,rfl⟩:=h2.inv_str bStr
   obtain ⟨q3,rfl,rfl⟩:=h3.inv_str bStr
   obtain ⟨rows4,d4,rfl,rfl,hr4⟩:=h4.inv_sl slFi
   obtain ⟨q4,rfl,g4,e4,p4⟩:=decRs (enc:=encFi) (sz:=sz0) (w:=wFi) (p:=fun _=>true) hr4 fun r c hc hd=>decFi' hd
   obtain ⟨rows5,d5,rfl,rfl,hr5⟩:=h5.inv_sl slCa
   obtain ⟨q5,rfl,g5,e5,p5⟩:=decRs (enc:=encCa) (sz:=szCa) (w:=wCa) (p:=fun _=>true) hr5 fun r c hc hd=>decCa' hd
   obtain ⟨q6,rfl,rfl,-⟩:=h6.inv_int bInt
   refine ⟨.mk q1 q2 q3 q4 q5 (zc q6),?_,?_,?_,?_⟩
   ·simp only [encTy,encEs_eq,encLs_eq,encCos_eq,plZ_zc];rfl
   ·simp only [szTy,szEs_eq,szLs_eq,szCos_eq];omega
   ·simp only [wTy,wEs_eq,wLs_eq,wCos_eq];omega
   ·rfl
theorem decTy' {b:Nat} {ds:List D} (h:PlainD Tryz.prog 64 ds b):∃x,ds=encTy plZ x∧szTy x+1≤2 * b∧wTy x+1≤2 * b∧(fun _=>true) x=true:=decTy b ds b (Nat.le_refl _) h
theorem decRe:∀(n:Nat) (ds:List D) (b:Nat),b≤n→PlainD Tryz.prog 68 ds b→∃x,ds=encRe plZ x∧szRe x+1≤2 * b∧wRe x+1≤2 * b∧(fun _=>true) x=true
 | n,ds,b,hb,h=>by
  obtain ⟨c,rfl,hf⟩:=h.inv_st stRe
  cases n with
  | zero=>omega
  | succ n =>
   obtain ⟨_,_,b1,c1,rfl,rfl,h1,hf⟩:=hf.inv
   obtain ⟨_,_,b2,c2,rfl,rfl,h2,hf⟩:=hf.inv
   obtain ⟨_,_,b3,c3,rfl,rfl,h3,hf⟩:=hf.inv
   obtain ⟨_,_,b4,c4,rfl,rfl,h4,hf⟩:=hf.inv
   obtain ⟨_,_,b5,c5,rfl,rfl,h5,hf⟩:=hf.inv
   obtain ⟨_,_,b6,c6,rfl,rfl,h6,hf⟩:=hf.inv
   obtain ⟨rfl,rfl⟩:=hf.inv0
   obtain ⟨q1,rfl,rfl⟩:=h1.inv_str bStr
   obtain ⟨rows2,d2,rfl,rfl,hr2⟩:=h2.inv_sl slFi
   obtain ⟨q2,rfl,g2,e2,p2⟩:=decRs (enc:=encFi) (sz:=sz0) (w:=wFi) (p:=fun _=>true) hr2 fun r c hc hd=>decFi' hd
   obtain ⟨q3,rfl,rfl⟩:=h3.inv_bool bBool
   obtain ⟨q4,rfl,rfl⟩:=h4.inv_bool bBool
   obtain ⟨q5,rfl,rfl⟩:=h5.inv_bool bBool
   obtain ⟨q6,rfl,rfl,-⟩:=h6.inv_int bInt
   refine ⟨.mk q1 q2 q3 q4 q5 (zc q6),?_,?_,?_,?_⟩
   ·simp only [encRe,encEs_eq,encLs_eq,encCos_eq,plZ_zc];rfl
   ·simp only [szRe,szEs_eq,szLs_eq,szCos_eq];omega
   ·simp only [wRe,wEs_eq,wLs_eq,wCos_eq];omega
   ·rfl
theorem decRe' {b:Nat} {ds:List D} (h:PlainD Tryz.prog 68 ds b):∃x,ds=encRe plZ x∧szRe x+1≤2 * b∧wRe x+1≤2 * b∧(fun _=>true) x=true:=decRe b ds b (Nat.le_refl _) h
theorem decIn:∀(n:Nat) (ds:List D) (b:Nat),b≤n→PlainD Tryz.prog 73 ds b→∃x,ds=encIn plZ x∧szIn x+1≤2 * b∧wIn x+1≤2 * b∧(fun _=>true) x=true
 | n,ds,b,hb,h=>by
  obtain ⟨c,rfl,hf⟩:=h.inv_st stIn
  cases n with
  | zero=>omega
  | succ n =>
   obtain ⟨_,_,b1,c1,rfl,rfl,h1,hf⟩:=hf.inv
   obtain ⟨_,_,b2,c2,rfl,rfl,h2,hf⟩:=hf.inv
   obtain ⟨_,_,b3,c3,rfl,rfl,h3,hf⟩:=hf.inv
   obtain ⟨_,_,b4,c4,rfl,rfl,h4,hf⟩:=hf.inv
   obtain ⟨rfl,rfl⟩:=hf.inv0
   obtain ⟨q1,rfl,rfl⟩:=h1.inv_str bStr
   obtain ⟨q2,rfl,rfl⟩:=h2.inv_str bStr
   obtain ⟨rows3,d3,rfl,rfl,hr3⟩:=h3.inv_sl slStr
   obtain ⟨q3,rfl,g3,e3,-⟩:=decRs (enc:=encBs) (sz:=sz0) (w:=wBs) (p:=fun _=>true) hr3 (str_dec bStr _)
   obtain ⟨q4,rfl,rfl,-⟩:=h4.inv_int bInt
   refine ⟨.mk q1 q2 q3 (zc q4),?_,?_,?_,?_⟩
   ·simp only [encIn,encEs_eq,encLs_eq,encCos_eq,plZ_zc];rfl
   ·simp only [szIn,szEs_eq,szLs_eq,szCos_eq];omega
   ·simp only [wIn,wEs_eq,wLs_eq,wCos_eq];omega
   ·rfl
theorem decIn' {b:Nat} {ds:List D} (h:PlainD Tryz.prog 73 ds b):∃x,ds=encIn plZ x∧szIn x+1≤2 * b∧wIn x+1≤2 * b∧(fun _=>true) x=true:=decIn b ds b (Nat.le_refl _) h
theorem decOv:∀(n:Nat) (ds:List D) (b:Nat),b≤n→PlainD Tryz.prog 75 ds b→∃x,ds=encOv plZ x∧sz0 x+1≤2 * b∧wOv x+1≤2 * b∧(fun _=>true) x=true
 | n,ds,b,hb,h=>by
  obtain ⟨c,rfl,hf⟩:=h.inv_st stOv
  cases n with
  | zero=>omega
  | succ n =>
   obtain ⟨_,_,b1,c1,rfl,rfl,h1,hf⟩:=hf.inv
   obtain ⟨_,_,b2,c2,rfl,rfl,h2,hf⟩:=hf.inv
   obtain ⟨rfl,rfl⟩:=hf.inv0
   obtain ⟨q1,rfl,rfl⟩:=h1.inv_str bStr
   obtain ⟨q2,rfl,rfl,-⟩:=h2.inv_int bInt
   refine ⟨.mk q1 (zc q2),?_,?_,?_,?_⟩
   ·simp only [encOv,encEs_eq,encLs_eq,encCos_eq,plZ_zc];rfl
   ·simp only [sz0,szEs_eq,szLs_eq,szCos_eq];omega
   ·simp only [wOv,wEs_eq,wLs_eq,wCos_eq];omega
   ·rfl
theorem decOv' {b:Nat} {ds:List D} (h:PlainD Tryz.prog 75 ds b):∃x,ds=encOv plZ x∧sz0 x+1≤2 * b∧wOv x+1≤2 * b∧(fun _=>true) x=true:=decOv b ds b (Nat.le_refl _) h
mutual
theorem decUn:∀(n:Nat) (ds:List D) (b:Nat),b≤n→PlainD Tryz.prog 44 ds b→∃x,ds=encUn plZ x∧szUn x+1≤2 * b∧wUn x+1≤2 * b∧rngU x=true
 | n,ds,b,hb,h=>by
  obtain ⟨c,rfl,hf⟩:=h.inv_st stUn
  cases n with
  | zero=>omega
  | succ n =>
   obtain ⟨_,_,b1,c1,rfl,rfl,h1,hf⟩:=hf.inv
   obtain ⟨_,_,b2,c2,rfl,rfl,h2,hf⟩:=hf.inv
   obtain ⟨_,_,b3,c3,rfl,rfl,h3,hf⟩:=hf.inv
   obtain ⟨_,_,b4,c4,rfl,rfl,h4,hf⟩:=hf.inv
   obtain ⟨_,_,b5,c5,rfl,rfl,h5,hf⟩:=hf.inv
   obtain ⟨_,_,b6,c6,rfl,rfl,h6,hf⟩:=hf.inv
   obtain ⟨rfl,rfl⟩:=hf.inv0
   obtain ⟨rows1,d1,rfl,rfl,hr1⟩:=h1.inv_sl slTy
   obtain ⟨q1,rfl,g1,e1,p1⟩:=decRs (enc:=encTy plZ) (sz:=szTy) (w:=wTy) (p:=fun _=>true) hr1 fun r c hc hd=>decTy' hd
   obtain ⟨rows2,d2,rfl,rfl,hr2⟩:=h2.inv_sl slRe
   obtain ⟨q2,rfl,g2,e2,p2⟩:=decRs (enc:=encRe plZ) (sz:=szRe) (w:=wRe) (p:=fun _=>true) hr2 fun r c hc hd=>decRe' hd
   obtain ⟨rows3,d3,rfl,rfl,hr3⟩:=h3.inv_sl slRu
   obtain ⟨q3,rfl,g3,e3,p3⟩:=decRs (enc:=encRu plZ) (sz:=szRu) (w:=wRu) (p:=rngRu) hr3 fun r c hc hd=>decRu' hd
   obtain ⟨rows4,d4,rfl,rfl,hr4⟩:=h4.inv_sl slCo
   obtain ⟨q4,rfl,g4,e4,p4⟩:=decRs (enc:=encCo plZ) (sz:=szCo) (w:=wCo) (p:=rngCo) hr4 fun r c hc hd=>decCo n r c (by omega) hd
   obtain ⟨rows5,d5,rfl,rfl,hr5⟩:=h5.inv_sl slIn
   obtain ⟨q5,rfl,g5,e5,p5⟩:=decRs (enc:=encIn plZ) (sz:=szIn) (w:=wIn) (p:=fun _=>true) hr5 fun r c hc hd=>decIn' hd
   obtain ⟨rows6,d6,rfl,rfl,hr6⟩:=h6.inv_sl slOv
   obtain ⟨q6,rfl,g6,e6,p6⟩:=decRs (enc:=encOv plZ) (sz:=sz0) (w:=wOv) (p:=fun _=>true) hr6 fun r c hc hd=>decOv' hd
   refine ⟨.mk q1 q2 q3 q4 q5 q6,?_,?_,?_,?_⟩
   ·simp only [encUn,encEs_eq,encLs_eq,encCos_eq,plZ_zc];rfl
   ·simp only [szUn,szEs_eq,szLs_eq,szCos_eq];omega
   ·simp only [wUn,wEs_eq,wLs_eq,wCos_eq];omega
   ·simp only [rngU,rngEs_eq,rngLs_eq,rngCos_eq,p3,p4];rfl
theorem decCo:∀(n:Nat) (ds:List D) (b:Nat),b≤n→PlainD Tryz.prog 71 ds b→∃x,ds=encCo plZ x∧szCo x+1≤2 * b∧wCo x+1≤2 * b∧rngCo x=true
 | n,ds,b,hb,h=>by
  obtain ⟨c,rfl,hf⟩:=h.inv_st stCo
  cases n with
  | zero=>omega
  | succ n =>
   obtain ⟨_,_,b1,c1,rfl,rfl,h1,hf⟩:=hf.inv
   obtain ⟨_,_,b2,c2,rfl,rfl,h2,hf⟩:=hf.inv
   obtain ⟨_,_,b3,c3,rfl,rfl,h3,hf⟩:=hf.inv
   obtain ⟨_,_,b4,c4,rfl,rfl,h4,hf⟩:=hf.inv
   obtain ⟨_,_,b5,c5,rfl,rfl,h5,hf⟩:=hf.inv
   obtain ⟨_,_,b6,c6,rfl,rfl,h6,hf⟩:=hf.inv
   obtain ⟨rfl,rfl⟩:=hf.inv0
   obtain ⟨q1,rfl,rfl⟩:=h1.inv_str bStr
   obtain ⟨rows2,d2,rfl,rfl,hr2⟩:=h2.inv_sl slStr
   obtain ⟨q2,rfl,g2,e2,-⟩:=decRs (enc:=encBs) (sz:=sz0) (w:=wBs) (p:=fun _=>true) hr2 (str_dec bStr _)
   obtain ⟨q3,rfl,rfl⟩:=h3.inv_str bStr
   obtain ⟨rows4,d4,rfl,rfl,hr4⟩:=h4.inv_sl slStr
   obtain ⟨q4,rfl,g4,e4,-⟩:=decRs (enc:=encBs) (sz:=sz0) (w:=wBs) (p:=fun _=>true) hr4 (str_dec bStr _)
   obtain ⟨q5,rfl,g5,e5,p5⟩:=decUn n _ _ (by omega) h5
   obtain ⟨q6,rfl,rfl,-⟩:=h6.inv_int bInt
   refine ⟨.mk q1 q2 q3 q4 q5 (zc q6),?_,?_,?_,?_⟩
   ·simp only [encCo,encEs_eq,encLs_eq,encCos_eq,plZ_zc];rfl
   ·simp only [szCo,szEs_eq,szLs_eq,szCos_eq];omega
   ·simp only [wCo,wEs_eq,wLs_eq,wCos_eq];omega
   ·simp only [rngCo,p5]
end
end Go.PM.Lex
end

section
set_option maxRecDepth 100000
set_option maxHeartbeats 1000000
namespace Go.PM.Lex
open Go.Proofs Go.Proofs.YtflgockgjnddnaaGreatDoor
def plainS:List TypeId:=[44,37,38,39,40,41,42,64,68,50,71,73,75,66,61,148,62,24,22,60,48,69,9,3,5,2,4]
theorem plainS_ok:plainS.all (plainB Tryz.prog plainS)=true:=by kernel_rfl
theorem okc_pure:∀b off,okc ePure ⟨[],[],0⟩ b off:=fun b off=>⟨fun h=>h,fun i hi=>by simp at hi,fun t ht=>by cases ht⟩
section
variable {H:Type} {enc:TypeId×Value→H} {W:World} {nG:Nat}
theorem arg_plain {t:TypeId} {cs:Array Value} {d:DataW H} {ps:List MemPlace} (ht:t∈plainS) (h:DataW.Trod enc Tryz.prog W 0 (fun _=>true) true t (.agg cs) d ps) :
  ∃ds b,PlainD Tryz.prog t ds b∧VRel (GG W nG) ePure ⟨[],[],0⟩ W (.agg (ds.map .d)) (.agg cs)∧b≤Rows.uptoBulk d:=by
 obtain ⟨fuel,hf⟩:=h
 obtain ⟨ds,b,h1,h2,h3⟩:=trod_plain plainS_ok okc_pure Rows.uptoBulk Rows.uptoBulkAll (fun _ _=>Nat.le_refl _) (fun _=>Nat.le_refl _) (fun _=>Nat.le_refl _) (fun _=>Nat.le_refl _) (fun l m=>by simp only [Rows.uptoBulk];omega) (Nat.le_refl _) (fun _ _=>Nat.le_refl _) fuel t _ _ ht hf
 have hc:(Value.agg cs).cells.toList=cs.toList:=rfl
 rw [hc] at h2
 refine ⟨ds,b,h1,.agg _ _ (by rw [List.length_map,h2.len,Array.length_toList]) (fun i x u hx hu=>?_) (fun u hu=>h2.one u (by simpa using hu)),h3⟩
 rw [List.getElem?_map] at hx
 obtain ⟨y,hy,rfl⟩:=Option.map_eq_some_iff.1 hx
 exact .d _ _ (h2.rel i y u hy (by simpa using hu))
theorem arg_expr {cs:Array Value} {d:DataW H} {ps:List MemPlace} (h:DataW.Trod enc Tryz.prog W 0 (fun _=>true) true 24 (.agg cs) d ps) :
  ∃x,VRel (GG W nG) ePure ⟨[],[],0⟩ W (.agg ((encE plZ x).map .d)) (.agg cs)∧szE x+1≤2 * Rows.uptoBulk d∧wE x+1≤2 * Rows.uptoBulk d∧rngE x=true:=by
 obtain ⟨ds,b,h1,h2,h3⟩:=arg_plain (nG:=nG) (by decide) h
 obtain ⟨x,rfl,g1,g2,g3⟩:=decE' h1
 exact ⟨x,h2,by omega,by omega,g3⟩
end
end Go.PM.Lex
end

section
set_option maxRecDepth 100000
set_option maxHeartbeats 4000000
namespace Go.PM.Lex
open Go.Proofs
variable {w0:World} {nG:Nat}
noncomputable def spPrUnlike (n:Nat):Spec:=fun args σ K=>match args,σ with
 | [.agg c1,.agg c2],⟨[],[],0⟩=>(∃pl1 x1 pl2 x2,c1=(encE pl1 x1).map .d∧c2=(encE pl2 x2).map .d∧(szE x1≤n∧wE x1≤n∧rngE x1=true)∧(szE x2≤n∧wE x2≤n∧rngE x2=true)∧n≤16777215)∧K (.ret (.d (.bool true))) ⟨[],[],0⟩
 | _,_=>False
noncomputable def tblPrUnlike (n:Nat):Tbl:=[(11,spSz encE szE bd2 6000),(13,spPE n),(14,spTopE),(15,spSameE 1099511627776),(12,spTrue16)]
theorem expr_small {s:Bs} {v:Ex} {L:List Tok} {d:Nat} (h:readTop 65536 16384 (exprD d) s=.ok v L):szE v≤65536:=by
 unfold readTop at h
 split at h
 ·cases h
 split at h
 ·cases h
 split at h
 ·rename_i h1
  cases h
  have k:=expr_fit _ _ _ _ h1
  have k2:=allF_le s ((16384:Nat):Int)
  rw [List.length_map] at k
  simp only [List.length_nil] at k
  omega
 ·cases h
 ·cases h
theorem prUnlike_ok {n:Nat} (ht:TblOK (GG w0 nG) (tblPrUnlike n)):PCalls (GG w0 nG) 3 (spPrUnlike n):=by
 refine pcalls tab_ok mixed (tbl:=tblPrUnlike n) ht Tryz.func3 rfl (by kernel_rfl) (by kernel_rfl) ?_
 intro args σ K h
 unfold spPrUnlike at h
 split at h
 ·obtain ⟨⟨pl1,⟨a1,a2,a3,a4,a5⟩,pl2,⟨b1,b2,b3,b4,b5⟩,rfl,rfl,⟨hz1,hw1,hr1⟩,⟨hz2,hw2,hr2⟩,hn⟩,h⟩:=h
  have hl1:=exT_len _ hr1
  have hl2:=exT_len _ hr2
  refine ⟨loopsOf [],0,false,by simp,Nat.le_of_ble_eq_true rfl,?_⟩
  conv=>whnf
  refine ⟨pl1,.mk a1 a2 a3 a4 a5,n,rfl,⟨⟨by decide,by decide⟩,by decide,hz1,by omega⟩,fun r hr0 hr1'=>?_⟩
  conv=>whnf
  refine CondP.dec (fun hc=>?_) (fun hc=>?_)
  ·conv=>whnf
   exact h
  conv=>whnf
  refine ⟨pl2,.mk b1 b2 b3 b4 b5,n,rfl,⟨⟨by decide,by decide⟩,by decide,hz2,by omega⟩,fun r2 hr20 hr21=>?_⟩
  conv=>whnf
  refine CondP.dec (fun hc2=>?_) (fun hc2=>?_)
  ·conv=>whnf
   exact h
  conv=>whnf
  refine ⟨pl1,.mk a1 a2 a3 a4 a5,rfl,⟨fun _=>⟨hr1,by omega⟩,hw1,by omega⟩,fun hm=>?_,fun hm x hx=>?_⟩
  ·conv=>whnf
   refine ⟨pl2,.mk b1 b2 b3 b4 b5,rfl,⟨fun _=>⟨hr2,by omega⟩,hw2,by omega⟩,fun hm2=>?_,fun hm2 x2 hx2=>?_⟩
   ·conv=>whnf
    exact h
   ·conv=>whnf
    exact h
  ·have hb:=expr_back hm hr1
   rw [hx] at hb
   rcases hb with ⟨v,L,he,rfl⟩ | ⟨p,e,hc,rfl⟩
   ·obtain ⟨A,hA⟩:∃A,Ex.mk a1 a2 a3 a4 a5=A:=⟨_,rfl⟩
    obtain ⟨T1,hT1⟩:∃T,exT (.mk a1 a2 a3 a4 a5)=T:=⟨_,rfl⟩
    rw [hT1] at hx hl1 ⊢
    rw [printed]
    dsimp only
    conv=>whnf
    refine ⟨pl2,.mk b1 b2 b3 b4 b5,rfl,⟨fun _=>⟨hr2,by omega⟩,hw2,by omega⟩,fun hm2=>?_,fun hm2 x2 hx2=>?_⟩
    ·conv=>whnf
     exact h
    have hb2:=expr_back hm2 hr2
    rw [hx2] at hb2
    rcases hb2 with ⟨v2,L2,he2,rfl⟩ | ⟨p,e,hc,rfl⟩
    ·obtain ⟨T2,hT2⟩:∃T,exT (.mk b1 b2 b3 b4 b5)=T:=⟨_,rfl⟩
     rw [hT2] at hx2 hl2 ⊢
     rw [printed]
     dsimp only
     have hsv:sameE v (.mk a1 a2 a3 a4 a5)=true:=sameE_of he
     have hzv:=expr_small hx
     have key:decide (T1=T2)=sameE (.mk a1 a2 a3 a4 a5) (.mk b1 b2 b3 b4 b5):=by
      cases hs:sameE (.mk a1 a2 a3 a4 a5) (.mk b1 b2 b3 b4 b5) with
      | true =>
       have:=er_of_sameE _ _ hs
       rw [decide_eq_true_eq,← hT1,← hT2]
       exact exT_of this
      | false =>
       rw [decide_eq_false_iff_not]
       intro g
       subst g
       rw [hx] at hx2
       cases hx2
       have:=sameE_of (he.symm.trans he2)
       rw [hs] at this;cases this
     obtain ⟨v1',v2',v3',v4',v5'⟩:=v
     conv=>whnf
     refine ⟨by omega,fun y hy=>?_⟩
     rw [hx] at hy
     subst hy
     unfold TopK
     dsimp only
     conv=>whnf
     refine ⟨pl1,.mk a1 a2 a3 a4 a5,pl2,.mk b1 b2 b3 b4 b5,rfl,rfl,⟨rfl,by omega,by omega⟩,fun b hb=>?_⟩
     rw [hb] at key
     cases b
     all_goals
      conv=>whnf
      refine CondP.dec (fun _=>?_) (fun g=>absurd key g)
      conv=>whnf
      refine ⟨placeOf L T1.length,.mk v1' v2' v3' v4' v5',pl1,.mk a1 a2 a3 a4 a5,rfl,rfl,⟨rfl,by omega,by omega⟩,fun b' hb'=>?_⟩
      obtain rfl:b'=true:=hb'.symm.trans hsv
      conv=>whnf
      (repeat (refine ⟨rfl,?_⟩;conv=>whnf))
      exact h
    ·rw [printed,if_pos hc]
     conv=>whnf
     exact h
   ·rw [printed,if_pos hc]
    conv=>whnf
    refine ⟨pl2,.mk b1 b2 b3 b4 b5,rfl,⟨fun _=>⟨hr2,by omega⟩,hw2,by omega⟩,fun hm2=>?_,fun hm2 x2 hx2=>?_⟩
    ·conv=>whnf
     exact h
    ·conv=>whnf
     exact h
 ·exact h.elim
end Go.PM.Lex
end
